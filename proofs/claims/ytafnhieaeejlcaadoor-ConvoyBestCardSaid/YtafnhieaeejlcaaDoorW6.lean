/- Walks by computing: what each function of the program that the laws reach gives for what it gets, as plain Lean, and that it is so; without a condition but those that stand in each theorem. -/
import Derived.KernelRfl
import Derived.Test.YtafnhieaeejlcaaDoorW1
import Derived.Test.YtafnhieaeejlcaaDoorW2
import Derived.Test.YtafnhieaeejlcaaDoorW3
import Derived.Test.YtafnhieaeejlcaaDoorW4
import Derived.Test.YtafnhieaeejlcaaDoorW5
set_option linter.all false
namespace Go.Ab
open Go Go.RowKit
noncomputable section
set_option linter.all false
set_option maxHeartbeats 1000000
section
variable {R:Type} {X:Ctx} {Z:ISeat} {r:R}
def IS.set(S:IS)(t:Nat)(d:I):IS:=⟨(t,d)::S.rs,S.gs,S.os⟩
theorem gJ(h:Nat→Nat)(S:IS)(t:Nat)(d:I):(S.set t d).aJ h=(S.aJ h).set t (d.bV h):=by
 unfold IS.set IS.aJ St.set
 congr 1
 exact pk (I.bV h) .undef t d S.rs
def Ha:I→Bool
 | .tup []=>true
 |_=>false
theorem E3{d:I}(h:Ha d=true):d= .tup []:=by
 unfold Ha at h
 split at h
 ·rfl
 ·cases h
theorem C7{κ:Nat→Nat→Option Value}{sv:Nat→Value}{S:St}{a:Act}{w:World}{ops:Array Oper}{o:Oper}(hs:dh X κ sv S a w){j t:Nat}{b:Bool}(hg:o.guard=some (j,b))
 (hj:(ops[j]?).bind (·.dst)=some t)(hb:S.ev X (.tmp t)= .tup []):Region.wanted o (yielded ops a.tmps)=false:=by
 have h1:=hs.ev (.tmp t)
 rw[hb]at h1
 have h2:a.tmps.getD t Go.undef= .tuple #[]:=by
  cases h:a.tmps.getD t Go.undef<;>simp only[Act.eval,h]at h1<;>first|(cases h1;done)|(cases h1 with|tup _ vs hl=>cases hl;rfl)
 have h3:∀v,a.tmps[t]? =some v→v= .tuple #[]:=fun v hv=>by
  rw[Array.getD_eq_getD_getElem?,hv]at h2;simpa using h2
 have h4:yielded ops a.tmps j≠some b:=by
  cases hv:a.tmps[t]?with
  |none=>cases hoj:ops[j]? <;>simp_all [yielded]
  |some v=>rw[h3 v hv]at hv;cases hoj:ops[j]? <;>simp_all [yielded]
 simp only[Region.wanted,hg]
 simpa using h4
theorem zW{κ:Nat→Nat→Option Value}{γ:Nat→Nat}{sv:Nat→Value}:cX κ γ sv (.tup []) Go.undef:= .tup [] [] .nil
theorem OS{S:St}{ops:Array Oper}{o:Oper}{rest:List Oper}{Q:Exit→St→Prop}{j t:Nat}{b c:Bool}(hg:o.guard=some (j,b))(hj:(ops[j]?).bind (·.dst)=some t)(hb:S.ev X (.tmp t)= .bool c)(hn:(c==b)=false){t' :Nat}(hd:o.dst=some t')
 (hk:WL X ops rest Q (S.set t' (.tup []))):WL X ops (o::rest) Q S:=fun κ sv a w hs=>by
 have hw:=j7 hs hg hj hb
 unfold wpListIn
 rw[if_neg (by rw[hw,hn];simp)]
 rw[hd]
 exact⟨jY,hk κ sv _ w (hs.put (some t') zW)⟩
theorem MX{S:St}{ops:Array Oper}{o:Oper}{rest:List Oper}{Q:Exit→St→Prop}{j t:Nat}{b:Bool}(hg:o.guard=some (j,b))(hj:(ops[j]?).bind (·.dst)=some t)(hb:S.ev X (.tmp t)= .tup []){t' :Nat}(hd:o.dst=some t')
 (hk:WL X ops rest Q (S.set t' (.tup []))):WL X ops (o::rest) Q S:=fun κ sv a w hs=>by
 have hw:=C7 hs hg hj hb
 unfold wpListIn
 rw[if_neg (by rw[hw];simp)]
 rw[hd]
 exact⟨jY,hk κ sv _ w (hs.put (some t') zW)⟩
theorem M6{S S0:St}{ops:Array Oper}{o:Oper}{rest:List Oper}{Q:Exit→St→Prop}{E:List Ent}{V:List Vl}{j t t' :Nat}{b c:Bool}(hg:o.guard=some (j,b))(hj:(ops[j]?).bind (·.dst)=some t)(hb:S.ev X (.tmp t)= .bool c)(hn:(c==b)=false)(hd:o.dst=some t')
 (hk:WG X Q ops S0 (E++[(⟨[t],[],[]⟩,⟨some t',none,none⟩)]) (V++[⟨.tup [],0, .none⟩]) rest (S.set t' (.tup []))):WG X Q ops S0 E V (o::rest) S:=by
 refine jo rfl (fun hoi T hT κ sv a w hs=> ?_) hk
 have hev:T.ev X (.tmp t)= .bool c:=by rw[gB fun t' e=>by cases e;exact hT.rr t (by simp)];exact hb
 have hw:=j7 hs hg hj hev
 unfold wpOpIn
 rw[hoi]
 simp only
 rw[if_neg (by rw[hw,hn];simp)]
 rw[hd]
 exact⟨jY,κ,sv,hs.put (some t') zW⟩
theorem Oy{S S0:St}{ops:Array Oper}{o:Oper}{rest:List Oper}{Q:Exit→St→Prop}{E:List Ent}{V:List Vl}{j t t' :Nat}{b:Bool}(hg:o.guard=some (j,b))(hj:(ops[j]?).bind (·.dst)=some t)(hb:S.ev X (.tmp t)= .tup [])(hd:o.dst=some t')
 (hk:WG X Q ops S0 (E++[(⟨[t],[],[]⟩,⟨some t',none,none⟩)]) (V++[⟨.tup [],0, .none⟩]) rest (S.set t' (.tup []))):WG X Q ops S0 E V (o::rest) S:=by
 refine jo rfl (fun hoi T hT κ sv a w hs=> ?_) hk
 have hev:T.ev X (.tmp t)= .tup []:=by rw[gB fun t' e=>by cases e;exact hT.rr t (by simp)];exact hb
 have hw:=C7 hs hg hj hev
 unfold wpOpIn
 rw[hoi]
 simp only
 rw[if_neg (by rw[hw];simp)]
 rw[hd]
 exact⟨jY,κ,sv,hs.put (some t') zW⟩
def BH(l:List Nat):Option Nat→Bool
 |none=>false
 |some i=>cY i l
def dZ(S:IS):List Nat→List Nat
 |[]=>[]
 |p::l=>match S.own p with| .arr _ _ _=>p::dZ S l|_=>dZ S l
def LM(E:CEnv Z)(S:IS)(o:Oper):List Nat:=match o.op with
 | .buildSlice _ _ ps=>wi Z E.nt S (ps.toList.map (·.2))
 | .store _ x y=>(match S.ev Z E.nt x with| .op _ _ _ _ _=>nA (S.ev Z E.nt y)|_=>[])
 | .call c=>(match c.callee with
   | .builtin .append=>(match c.args.toList with|[_,y]=>bif BH E.fz o.dst then[]else nA (S.ev Z E.nt y)|_=>[])
   | .builtin .copy=>(match c.args.toList with|[_,y]=>nA (S.ev Z E.nt y)|_=>[])
   | .value (.func f)=>(match Cs E.FR f with
     |some _=>(match c.args.toList with|x0::_=>(match S.ev Z E.nt x0 with| .bx s _ _=>(match S.own s with| .box l=>fw l|_=>[])|_=>[])|[]=>[])++wi Z E.nt S (c.args.toList.drop 1)
     |none=>(match findF E.FT f with|some sp=>bif sp.sc then[]else wi Z E.nt S c.args.toList|none=>bif BH E.fz o.dst then[]else wi Z E.nt S c.args.toList))
   | .value x=>(match S.ev Z E.nt x with
     | .fn f l=>(match findF E.FT f with|some sp=>bif sp.sc then[]else fw l++wi Z E.nt S c.args.toList|none=>[])
     | .mf f l=>(match findF E.FT f with|some sp=>bif sp.sc then[]else fw l++wi Z E.nt S c.args.toList|none=>[])
     |_=>[])
   |_=>[])
 |_=>[]
theorem lF{h:Nat→Nat}:∀(l:List Nat) (S:IS),(∀p∈l,X.xa p=false)→Wk X (S.aJ h) ((qS S l).aJ h)
 |[],S,_=>Wk.refl _ _
 |p::l,S,hl=>(Lv p (hl p (List.mem_cons_self ..))).trans (lF l _ fun p hp=>hl p (List.mem_cons_of_mem _ hp))
def Ga(S:IS)(Z:ISeat)(nt:Nat)(t:Nat)(k:Bool→Option R):Option R:=match S.ev Z nt (.tmp t)with
 | .bool c=>bif c then k true else k false
 |_=>none
theorem Fp{S:IS}{nt t:Nat}{k:Bool→Option R}(h:Ga S Z nt t k=some r):∃c,S.ev Z nt (.tmp t)= .bool c∧k c=some r:=by
 unfold Ga at h
 split at h
 ·rename_i c hc
  cases c with
  |true=>exact⟨true,hc,h⟩
  |false=>exact⟨false,hc,h⟩
 ·cases h
structure Fix where
 sl:List (Nat×I)
 pl:List (Nat×IOwn)
def keys{α:Type}:List (Nat×α)→List Nat
 |[]=>[]
 |(i,_)::l=>i::keys l
def O1(F:Fix)(S:IS):Prop:=(∀p∈F.sl,S.get p.1=p.2∧iS p.2=true)∧(∀p∈F.pl,S.own p.1=p.2)
def m5:IOwn→Bool
 | .none=>true
 | .box l=>ed l
 | .arr _ _ _=>true
 | .arrp _ _ _ _ _=>false
 | .mp _=>true
def g1:Option (Nat×Nat)→Option Nat
 |some p=>some p.1
 |none=>none
def o1:Option (Nat×IOwn)→Option Nat
 |some p=>some p.1
 |none=>none
def nm(p:List Nat)(F:Fix)(e:Ef):Bool:= !(BH p (g1 e.g))&& !(BH (keys F.sl) e.t)&& !(BH (keys F.pl) (o1 e.o))
def Inv(p:List Nat)(g0:Nat→Nat)(F:Fix)(h:Nat→Nat)(S:IS):Prop:=(∀s∈p,h s+S.gen s=g0 s)∧O1 F S
theorem fF{α:Type}:∀{l:List (Nat×α)} {p:Nat×α},p∈l→p.1∈keys l
 |q::l,p,h=>by
  obtain⟨i,a⟩:=q
  rcases List.mem_cons.1 h with rfl|h
  ·exact List.mem_cons_self ..
  ·exact List.mem_cons_of_mem _ (fF h)
theorem ey{α:Type}{e:α}{i:Nat}{a:α}{l:List (Nat×α)}{j:Nat}(h:j≠i):look e ((i,a)::l) j=look e l j:=by
 simp only[look]
 cases hb:Nat.beq j i with
 |false=>rfl
 |true=>exact absurd (Nat.eq_of_beq_eq_true hb) h
theorem Inv.lJ{p:List Nat}{g0:Nat→Nat}{F:Fix}{h:Nat→Nat}{S:IS}{e:Ef}(hi:Inv p g0 F h S)(he:nm p F e=true):Inv p g0 F h (S.lJ e):=by
 obtain⟨t,d,gg,o⟩:=e
 simp only[nm,Bool.and_eq_true,Bool.not_eq_true']at he
 obtain⟨⟨e1,e2⟩,e3⟩:=he
 refine⟨fun g hg=> ?_,fun q hq=> ?_,fun q hq=> ?_⟩
 ·have:=hi.1 g hg
  cases gg with
  |none=>exact this
  |some q=>
   simp only[g1,BH]at e1
   rw[←this]
   congr 1
   refine ey fun e=> ?_
   rw[←e,cu.2 hg]at e1;cases e1
 ·obtain⟨h1,h2⟩:=hi.2.1 q hq
  refine⟨?_,h2⟩
  cases t with
  |none=>exact h1
  |some t=>
   refine(ey fun e=> ?_).trans h1
   have:=cu.2 (fF hq)
   rw[e]at this
   simp only[BH]at e2
   rw[this]at e2;cases e2
 ·have h1:=hi.2.2 q hq
  cases o with
  |none=>exact h1
  |some t=>
   refine(ey fun e=> ?_).trans h1
   have:=cu.2 (fF hq)
   rw[e]at this
   simp only[BH,o1]at e3
   rw[this]at e3;cases e3
theorem Ad:∀(l:List Nat) (S:IS),(qS S l).gs=S.gs
 |[],S=>rfl
 |p::l,S=>by
  show(qS (CY S p) l).gs=_
  rw[Ad l]
  unfold CY
  split<;>rfl
mutual
theorem yW(p g:Nat)(d:I):∀x:I,iS x=true→wH p g d x=x
 | .os _ _,h=>by cases h
 | .bx _ _ _,_=>rfl
 | .op _ _ _ _ _,_=>rfl
 | .ow _ _ _ _ _,_=>rfl
 | .agg l,h=>by simp only[wH,iV p g d l h]
 | .tup l,h=>by simp only[wH,iV p g d l h]
 | .fn _ l,h=>by simp only[wH,iV p g d l h]
 | .mf _ l,h=>by simp only[wH,iV p g d l h]
 | .int _ _,_=>rfl| .bool _,_=>rfl| .str _,_=>rfl| .sl _ _,_=>rfl| .nsl _ _,_=>rfl| .nil,_=>rfl| .rp _ _,_=>rfl| .yl _,_=>rfl| .one,_=>rfl| .undef,_=>rfl
theorem iV(p g:Nat)(d:I):∀l:List I,ed l=true→ou p g d l=l
 |[],_=>rfl
 |x::l,h=>by
  simp only[ed,Bool.and_eq_true]at h
  simp only[ou,yW p g d x h.1,iV p g d l h.2]
end
def uN(F:Fix):List Nat→Bool
 |[]=>true
 |p::l=>(!(cY p (keys F.pl))&&Nat.blt p XB)&&uN F l
theorem xh(hX:x7 X){F:Fix}:∀{l:List Nat},uN F l=true→∀p∈l,X.xa p=false
 |q::l,h,p,hp=>by
  simp only[uN,Bool.and_eq_true]at h
  rcases List.mem_cons.1 hp with rfl|hp
  ·cases hx:X.xa p with
   |false=>rfl
   |true=>
    have h1:=hX p hx
    have h2:=h.1.2
    rw[Nat.blt_eq]at h2
    omega
  ·exact xh hX h.2 p hp
def uC:List (Nat×IOwn)→Bool
 |[]=>true
 |(_,o)::l=>m5 o&&uC l
theorem pI:∀{l:List (Nat×IOwn)},uC l=true→∀p∈l,m5 p.2=true
 |(i,o)::l,h,p,hp=>by
  simp only[uC,Bool.and_eq_true]at h
  rcases List.mem_cons.1 hp with rfl|hp
  ·exact h.1
  ·exact pI h.2 p hp
theorem Fw{F:Fix}:∀(l:List Nat) (S:IS),O1 F S→uN F l=true→(∀p∈F.pl,m5 p.2=true)→O1 F (qS S l)
 |[],S,hc,_,_=>hc
 |p::l,S,hc,hf,hr=>by
  simp only[uN,Bool.and_eq_true,Bool.not_eq_true']at hf
  replace hf:cY p (keys F.pl)=false∧uN F l=true:=⟨hf.1.1,hf.2⟩
  refine Fw l _ ?_ hf.2 hr
  unfold CY
  split
  ·rename_i E e m hσ
   refine⟨fun q hq=> ?_,fun q hq=> ?_⟩
   ·obtain⟨h1,h2⟩:=hc.1 q hq
    refine⟨?_,h2⟩
    show look .undef (uL _ S.rs) q.1=_
    rw[l5 rfl]
    have h3:look .undef S.rs q.1=q.2:=h1
    rw[h3,yW _ _ _ _ h2]
   ·have h1:=hc.2 q hq
    have hne:q.1≠p:=fun e=>by
     have:=cu.2 (fF hq)
     rw[e,hf.1]at this;cases this
    show look .none ((p, .none)::uL _ S.os) q.1=_
    rw[ey hne,l5 rfl]
    have h3:look .none S.os q.1=q.2:=h1
    rw[h3]
    have h4:=hr q hq
    cases hq2:q.2 with
    |none=>rfl
    |arrp=>rfl
    |arr=>rfl
    |mp=>rfl
    |box l=>rw[hq2]at h4;simp only[MR,iV _ _ _ _ h4]
  ·exact hc
def okF(F:Fix):Bool:=uC F.pl
def sQ(F:Fix)(S:IS)(l:List Nat)(k:IS→Option R):Option R:=aW (uN F l) (k (qS S l))
theorem Inv.qS{p:List Nat}{g0:Nat→Nat}{F:Fix}{h:Nat→Nat}{S:IS}(hF:okF F=true)(hi:Inv p g0 F h S){l:List Nat}(hl:uN F l=true):Inv p g0 F h (Ab.qS S l):=⟨fun g hg=>by
 have:=hi.1 g hg
 simp only[IS.gen,Ad]at this⊢
 exact this,Fw l S hi.2 hl (pI hF)⟩
theorem Inv.set{p:List Nat}{g0:Nat→Nat}{F:Fix}{h:Nat→Nat}{S:IS}(hi:Inv p g0 F h S){t:Nat}(ht:cY t (keys F.sl)=false)(d:I):Inv p g0 F h (S.set t d):=by
 refine⟨hi.1,fun q hq=> ?_,hi.2.2⟩
 obtain⟨h1,h2⟩:=hi.2.1 q hq
 refine⟨(ey fun e=> ?_).trans h1,h2⟩
 have:=cu.2 (fF hq)
 rw[e,ht]at this;cases this
def SN(E:CEnv Z)(o:Oper):Option (mM Z.toSeat):=match o.op with
 | .call c=>(match c.callee with| .value (.func f)=>C8 E.FX f|_=>none)
 |_=>none
def Ia(s:Nat)(l' :List I):Ef:=⟨none, .undef,none,some (s, .box l')⟩
def N7(S:IS)(t:Nat)(e:TypeId)(tt:T)(m:List (den tt))(d:I):Ef:=⟨some t,sC t (S.gen t+1) d,some (t,S.gen t+1),some (t, .arr e tt m)⟩
def RW(E:CEnv Z)(F:Fix)(S:IS)(o:Oper)(k:IS→Option R)(oth:Option R):Option R:=match SN E o with
 |none=>oth
 |some sp=>(match o.op with
  | .call c=>(match o.dst,c.args.toList with
    |some t,x0::xs=>(match S.ev Z E.nt x0 with
     | .bx s g 0=>live S s g (match S.own s with
       | .box l=>sp.app l (xs.map (S.ev Z E.nt)) (fun l' e tt m d=>aW (!(Nat.beq t s)&&nm E.pin F (Ia s l')&&nm E.pin F (N7 S t e tt m d)) (k ((S.lJ (Ia s l')).lJ (N7 S t e tt m d))))
       |_=>none)
     |_=>none)
    |_,_=>none)
  |_=>none)
theorem NF{E:CEnv Z}{g0:Nat→Nat}(hX:At X Z E.nt){F:Fix}{S:IS}{o:Oper}{k:IS→Option R}{oth:Option R}{h:Nat→Nat}(hi:Inv E.pin g0 F h S)(hr:RW E F S o k oth=some r):
 oth=some r∨∃S',k S' =some r∧Inv E.pin g0 F h S'∧∀(ops:Array Oper) (rest:List Oper) (Q:Exit→St→Prop),o.guard=none→WL X ops rest Q (S'.aJ h)→WL X ops (o::rest) Q (S.aJ h):=by
 unfold RW at hr
 split at hr
 ·exact .inl hr
 rename_i sp hsp
 split at hr
 case h_2=>cases hr
 rename_i c ho
 have hcal:∃f,c.callee= .value (.func f)∧C8 E.FX f=some sp:=by
  unfold SN at hsp
  rw[ho]at hsp
  simp only at hsp
  split at hsp
  ·rename_i f hf;exact⟨f,hf,hsp⟩
  ·cases hsp
 obtain⟨f,hf,hfx⟩:=hcal
 have hff:=Dd hfx
 subst hff
 split at hr
 case h_2=>cases hr
 rename_i t x0 xs hd hxs
 split at hr
 case h_2=>cases hr
 rename_i s g hx
 replace hr:=dp hr
 obtain⟨rfl,hr⟩:=hr
 split at hr
 case h_2=>cases hr
 rename_i l hσ
 obtain⟨l',e,tt,m,d,h1,h2⟩:=sp.ok _ _ _ _ hr
 obtain⟨h3,h1⟩:=ak h1
 simp only[Bool.and_eq_true,Bool.not_eq_true']at h3
 obtain⟨⟨hts,p1⟩,p2⟩:=h3
 have p2' :nm E.pin F (N7 S t e tt m d)=true:=p2
 refine .inr ⟨_,h1,(hi.lJ p1).lJ p2,fun ops rest Q hg hk=> ?_⟩
 obtain⟨ce,ca,ct⟩:=c
 simp only at hf hxs
 subst hf
 have hca:ca=(x0::xs).toArray:=by rw[←hxs]
 subst hca
 have hne:t≠s:=fun e=>by subst e;rw[Nat.beq_refl]at hts;cases hts
 refine Hu t (s:=s) (g:=h s+S.gen s) hne hg ho (by rw[dI hX,hx];rfl) rfl (by show(S.own s).bq h=_;rw[hσ];rfl) (by rw[hX.Z];exact h2 h) (by
  rw[dO,List.map_map]
  exact List.map_congr_left fun x _=>dI hX x) hd (rL h t (S.gen t+1) d).symm ?_
 rw[fD,fD]at hk
 exact hk
def SR(E:CEnv Z)(o:Oper):Option (lP Z.toSeat):=match o.op with
 | .call c=>(match c.callee with| .value (.func f)=>Bt E.FQ f|_=>none)
 |_=>none
def RS(t:Nat):Nat→List Nat
 |0=>[]
 |n+1=>RS t n++[t+n*10000]
def Ma(S:IS):List Nat→Bool
 |[]=>true
 |p::l=>(match S.own p with| .none=>true|_=>false)&&Ma S l
def Ms(S:IS)(n:Nat):Nat→Nat→Nat
 |t,0=>t
 |t,k+1=>bif Ma S (RS t n)then t else Ms S n (t+1000000) k
def zT(S:IS)(t n:Nat):List Nat:=RS (Ms S n t 8) n
def oE(S:IS)(p:Nat)(q:zb):Ef:=⟨none, .undef,some (p,S.gen p+1),some (p, .arr q.E q.t q.l)⟩
def GG:IS→List Nat→List zb→IS
 |S,p::ps,q::os=>GG (S.lJ (oE S p q)) ps os
 |S,_,_=>S
def I6(p:List Nat)(F:Fix):IS→List Nat→List zb→Bool
 |S,q::ps,a::os=>nm p F (oE S q a)&&I6 p F (S.lJ (oE S q a)) ps os
 |_,_,_=>true
def QQ(S:IS)(ps:List Nat)(t:Nat)(d:I):Ef:=⟨some t,si (fun i=>(atP ps i,S.gen (atP ps i)+1)) d,none,none⟩
def Rv(E:CEnv Z)(F:Fix)(S:IS)(o:Oper)(k:IS→Option R)(oth:Option R):Option R:=match SR E o with
 |none=>oth
 |some sp=>(match o.op with
  | .call c=>(match o.dst with
    |some t=>sp.app (c.args.toList.map (S.ev Z E.nt)) (fun os d=>aW (Nat.beq (zT S t os.length).length os.length&&uM (zT S t os.length)&&I6 E.pin F S (zT S t os.length) os&&nm E.pin F (QQ S (zT S t os.length) t d)) (k ((GG S (zT S t os.length) os).lJ (QQ S (zT S t os.length) t d))))
    |none=>none)
  |_=>none)
theorem xo{p:List Nat}{g0:Nat→Nat}{F:Fix}{h:Nat→Nat}:∀{ps:List Nat} {os:List zb} {S:IS},Inv p g0 F h S→I6 p F S ps os=true→Inv p g0 F h (GG S ps os)
 |[],os,S,hi,_=>by cases os<;>exact hi
 |q::ps,[],S,hi,_=>hi
 |q::ps,a::os,S,hi,hp=>by
  simp only[I6,Bool.and_eq_true]at hp
  exact xo (S:=S.lJ (oE S q a)) (hi.lJ hp.1) hp.2
theorem tK(h:Nat→Nat):∀{ps:List Nat} {os:List zb} {S:IS},uM ps=true→ps.length=os.length→
 (GG S ps os).aJ h=⟨(S.aJ h).ρ,pN (nK ps) (fun s=>(S.aJ h).γ s+1) (S.aJ h).γ,pN (nK ps) (fun s=>(Ip os (idxP ps s)).own) (S.aJ h).σ⟩
 |[],[],S,_,_=>rfl
 |[],_::_,S,_,hl=>by cases hl
 |_::_,[],S,_,hl=>by cases hl
 |p::ps,q::os,S,hd,hl=>by
  simp only[uM,Bool.and_eq_true,Bool.not_eq_true']at hd
  have ih:=tK h (ps:=ps) (os:=os) (S:=S.lJ (oE S p q)) hd.2 (by simpa using hl)
  show(GG (S.lJ (oE S p q)) ps os).aJ h=_
  rw[ih,fD]
  have hγ:((S.aJ h).app (oE S p q).wr ((oE S p q).vl h)).γ=bM (S.aJ h).γ p ((S.aJ h).γ p+1):=by
   show qZ (S.aJ h).γ (some p) (h p+(S.gen p+1))=_
   have:h p+(S.gen p+1)=(S.aJ h).γ p+1:=by show _=h p+S.gen p+1;omega
   rw[this];rfl
  have hσ:((S.aJ h).app (oE S p q).wr ((oE S p q).vl h)).σ=bM (S.aJ h).σ p q.RC.own:=rfl
  have hρ:((S.aJ h).app (oE S p q).wr ((oE S p q).vl h)).ρ=(S.aJ h).ρ:=rfl
  rw[hγ,hσ,hρ]
  congr 1
  ·funext s
   by_cases e:s=p
   ·subst e
    rw[jP hd.1,aj,iQ (by simp[nK,Nat.beq_refl])]
   ·have hb:Nat.beq s p=false:=by cases hb:Nat.beq s p with|false=>rfl|true=>exact absurd (Nat.eq_of_beq_eq_true hb) e
    cases hin:nK ps s with
    |true=>rw[iQ hin,iQ (by simp[nK,hb,hin]),bg _ _ _ _ e]
    |false=>rw[jP hin,jP (by simp[nK,hb,hin]),bg _ _ _ _ e]
  ·funext s
   by_cases e:s=p
   ·subst e
    rw[jP hd.1,aj,iQ (by simp[nK,Nat.beq_refl])]
    simp[idxP,Nat.beq_refl,Ip,Ii]
   ·have hb:Nat.beq s p=false:=by cases hb:Nat.beq s p with|false=>rfl|true=>exact absurd (Nat.eq_of_beq_eq_true hb) e
    cases hin:nK ps s with
    |true=>
     rw[iQ hin,iQ (by simp[nK,hb,hin])]
     simp[idxP,hb,Ip,Ii]
    |false=>rw[jP hin,jP (by simp[nK,hb,hin]),bg _ _ _ _ e]
theorem Oh{E:CEnv Z}{g0:Nat→Nat}(hX:At X Z E.nt){F:Fix}{S:IS}{o:Oper}{k:IS→Option R}{oth:Option R}{h:Nat→Nat}(hi:Inv E.pin g0 F h S)(hr:Rv E F S o k oth=some r):
 oth=some r∨∃S',k S' =some r∧Inv E.pin g0 F h S'∧∀(ops:Array Oper) (rest:List Oper) (Q:Exit→St→Prop),o.guard=none→WL X ops rest Q (S'.aJ h)→WL X ops (o::rest) Q (S.aJ h):=by
 unfold Rv at hr
 split at hr
 ·exact .inl hr
 rename_i sp hsp
 split at hr
 case h_2=>cases hr
 rename_i c ho
 have hcal:∃f,c.callee= .value (.func f)∧Bt E.FQ f=some sp:=by
  unfold SR at hsp
  rw[ho]at hsp
  simp only at hsp
  split at hsp
  ·rename_i f hf;exact⟨f,hf,hsp⟩
  ·cases hsp
 obtain⟨f,hf,hfx⟩:=hcal
 have hff:=CL hfx
 subst hff
 split at hr
 case h_2=>cases hr
 rename_i t hd
 obtain⟨os,d,h1,h2⟩:=sp.ok _ _ _ hr
 obtain⟨h3,h1⟩:=ak h1
 simp only[Bool.and_eq_true]at h3
 obtain⟨⟨⟨q1,q2⟩,q3⟩,q4⟩:=h3
 have q1:=Nat.eq_of_beq_eq_true q1
 refine .inr ⟨_,h1,(xo hi q3).lJ q4,fun ops rest Q hg hk=> ?_⟩
 obtain⟨ce,ca,ct⟩:=c
 simp only at hf h2
 subst hf
 refine GO (zT S t os.length) q2 (os:=Ip os) hg ho (by rw[hX.Z,q1];exact h2 h) (by
  rw[dO,List.map_map]
  exact List.map_congr_left fun x _=>dI hX x) hd (pG h (fun i=>(atP (zT S t os.length) i,S.gen (atP (zT S t os.length) i)+1)) d).symm ?_
 rw[fD,tK h q2 q1]at hk
 exact hk
def PG(E:CEnv Z)(o:Oper):Option (ic Z.toSeat):=match o.op with
 | .call c=>(match c.callee with| .value (.func f)=>BQ E.FW f|_=>none)
 |_=>none
def MS(E:CEnv Z)(F:Fix)(S:IS)(o:Oper)(k:IS→Option R)(oth:Option R):Option R:=match PG E o with
 |none=>oth
 |some sp=>(match o.op with
  | .call c=>(match o.dst,c.args.toList with
    |some t,x0::xs=>(match S.ev Z E.nt x0 with
     | .bx s g 0=>live S s g (match S.own s with
       | .box l=>sp.app l (xs.map (S.ev Z E.nt)) (fun l' os d=>aW (Nat.beq (zT S t os.length).length os.length&&uM (zT S t os.length)&& !(nK (zT S t os.length) s)&&nm E.pin F (Ia s l')&&I6 E.pin F (S.lJ (Ia s l')) (zT S t os.length) os&&nm E.pin F (QQ S (zT S t os.length) t d)) (k ((GG (S.lJ (Ia s l')) (zT S t os.length) os).lJ (QQ S (zT S t os.length) t d))))
       |_=>none)
     |_=>none)
    |_,_=>none)
  |_=>none)
theorem KU{E:CEnv Z}{g0:Nat→Nat}(hX:At X Z E.nt){F:Fix}{S:IS}{o:Oper}{k:IS→Option R}{oth:Option R}{h:Nat→Nat}(hi:Inv E.pin g0 F h S)(hr:MS E F S o k oth=some r):
 oth=some r∨∃S',k S' =some r∧Inv E.pin g0 F h S'∧∀(ops:Array Oper) (rest:List Oper) (Q:Exit→St→Prop),o.guard=none→WL X ops rest Q (S'.aJ h)→WL X ops (o::rest) Q (S.aJ h):=by
 unfold MS at hr
 split at hr
 ·exact .inl hr
 rename_i sp hsp
 split at hr
 case h_2=>cases hr
 rename_i c ho
 have hcal:∃f,c.callee= .value (.func f)∧BQ E.FW f=some sp:=by
  unfold PG at hsp
  rw[ho]at hsp
  simp only at hsp
  split at hsp
  ·rename_i f hf;exact⟨f,hf,hsp⟩
  ·cases hsp
 obtain⟨f,hf,hfx⟩:=hcal
 have hff:=CJ hfx
 subst hff
 split at hr
 case h_2=>cases hr
 rename_i t x0 xs hd hxs
 split at hr
 case h_2=>cases hr
 rename_i s g hx
 replace hr:=dp hr
 obtain⟨rfl,hr⟩:=hr
 split at hr
 case h_2=>cases hr
 rename_i l hσ
 obtain⟨l',os,d,h1,h2⟩:=sp.ok _ _ _ _ hr
 obtain⟨h3,h1⟩:=ak h1
 simp only[Bool.and_eq_true,Bool.not_eq_true']at h3
 obtain⟨⟨⟨⟨⟨q1,q2⟩,hns⟩,p1⟩,q3⟩,q4⟩:=h3
 have q1:=Nat.eq_of_beq_eq_true q1
 refine .inr ⟨_,h1,(xo (hi.lJ p1) q3).lJ q4,fun ops rest Q hg hk=> ?_⟩
 obtain⟨ce,ca,ct⟩:=c
 simp only at hf hxs
 subst hf
 have hca:ca=(x0::xs).toArray:=by rw[←hxs]
 subst hca
 refine EN (zT S t os.length) q2 (os:=Ip os) (s:=s) (g:=h s+S.gen s) hns hg ho (by rw[dI hX,hx];rfl) rfl (by show(S.own s).bq h=_;rw[hσ];rfl) (by rw[hX.Z,q1];exact h2 h) (by
  rw[dO,List.map_map]
  exact List.map_congr_left fun x _=>dI hX x) hd (pG h (fun i=>(atP (zT S t os.length) i,S.gen (atP (zT S t os.length) i)+1)) d).symm ?_
 rw[fD,tK h q2 q1,fD]at hk
 exact hk
def idxN:List Nat→Nat→Option Nat
 |[],_=>none
 |p::l,s=>bif Nat.beq s p then some 0 else(match idxN l s with|some i=>some (i+1)|none=>none)
def pF:List Nat→Nat→Nat
 |[],_=>0
 |p::_,0=>p
 |_::l,n+1=>pF l n
def Aw:Nat→Nat→Option Nat
 |0,_=>none
 |n+1,s=>bif Nat.beq s (XB+n)then some n else Aw n s
theorem yM:∀{n s i:Nat},Aw n s=some i→i<n∧s=XB+i
 |n+1,s,i,h=>by
  unfold Aw at h
  cases hb:Nat.beq s (XB+n)with
  |true=>
   rw[hb]at h
   simp only[cond_true,Option.some.injEq]at h
   subst h
   exact⟨Nat.lt_succ_self _,Nat.eq_of_beq_eq_true hb⟩
  |false=>
   rw[hb]at h
   obtain⟨h1,h2⟩:=yM h
   exact⟨Nat.lt_succ_of_lt h1,h2⟩
mutual
def zf(S:IS)(ps:List Nat):I→Option I
 | .bx s g o=>(match idxN ps s with|some i=>bif Nat.beq g (S.gen s)&& !(fP (S.own s))then some (.bx i 1 o)else none|none=>none)
 | .os s g=>(match idxN ps s with|some i=>bif Nat.beq g (S.gen s)&&fP (S.own s)then some (.os (XB+i) 1)else none|none=>none)
 | .agg l=>(match Mr S ps l with|some l' =>some (.agg l')|none=>none)
 | .fn f l=>(match Mr S ps l with|some l' =>some (.fn f l')|none=>none)
 | .int k n=>some (.int k n)
 | .bool b=>some (.bool b)
 | .str b=>some (.str b)
 | .sl t l=>some (.sl t l)
 | .nsl t l=>some (.nsl t l)
 | .nil=>some .nil
 | .one=>some .one
 | .undef=>some .undef
 | .rp l o=>bif ed l then some (.rp l o)else none
 |_=>none
def Mr(S:IS)(ps:List Nat):List I→Option (List I)
 |[]=>some []
 |d::l=>(match zf S ps d with|some d' =>(match Mr S ps l with|some l' =>some (d' ::l')|none=>none)|none=>none)
end
mutual
def lH(S:IS)(ps:List Nat):I→Option I
 | .bx i g o=>bif Nat.blt i ps.length&&Nat.beq g 1&& !(fP (S.own (pF ps i)))then some (.bx (pF ps i) (S.gen (pF ps i)) o)else none
 | .os s g=>(match Aw ps.length s with|some i=>bif Nat.beq g 1&&fP (S.own (pF ps i))then some (.os (pF ps i) (S.gen (pF ps i)))else none|none=>none)
 | .agg l=>(match Eu S ps l with|some l' =>some (.agg l')|none=>none)
 | .fn f l=>(match Eu S ps l with|some l' =>some (.fn f l')|none=>none)
 | .int k n=>some (.int k n)
 | .bool b=>some (.bool b)
 | .str b=>some (.str b)
 | .sl t l=>some (.sl t l)
 | .nsl t l=>some (.nsl t l)
 | .nil=>some .nil
 | .one=>some .one
 | .undef=>some .undef
 | .rp l o=>bif ed l then some (.rp l o)else none
 |_=>none
def Eu(S:IS)(ps:List Nat):List I→Option (List I)
 |[]=>some []
 |d::l=>(match lH S ps d with|some d' =>(match Eu S ps l with|some l' =>some (d' ::l')|none=>none)|none=>none)
end
mutual
theorem fe(h:Nat→Nat):∀d:I,iS d=true→Pure (d.bV h)
 | .bx _ _ _,e=>by cases e
 | .os _ _,e=>by cases e
 | .op _ _ _ _ _,e=>by cases e
 | .ow _ _ _ _ _,e=>by cases e
 | .yl _,e=>by cases e
 | .agg l,e=> .agg _ (ig h l e)
 | .tup l,e=> .tup _ (ig h l e)
 | .fn f l,e=> .fn f _ (ig h l e)
 | .mf f l,e=> .mf f _ (ig h l e)
 | .rp l o,e=> .rp _ o (ig h l e)
 | .int _ _,_=> .int _ _| .bool _,_=> .bool _| .str _,_=> .str _| .sl t l,_=> .sl _ _ _ (fun i _=>b9 t _)| .nsl t l,_=>(by show Pure (O5 t l);cases l with|nil=>exact .nil|cons=>exact .sl _ _ _ (fun i _=>b9 t _))| .nil,_=> .nil| .one,_=> .one| .undef,_=> .undef
theorem ig(h:Nat→Nat):∀l:List I,ed l=true→∀d∈I.ao h l,Pure d
 |[],_,d,hd=>by cases hd
 |x::l,e,d,hd=>by
  simp only[ed,Bool.and_eq_true]at e
  rcases List.mem_cons.1 hd with rfl|hd
  ·exact fe h x e.1
  ·exact ig h l e.2 d hd
end
theorem idxN_eq:∀{l:List Nat} {s i:Nat},idxN l s=some i→i<l.length∧pF l i=s
 |p::l,s,i,e=>by
  unfold idxN at e
  cases hb:Nat.beq s p with
  |true=>rw[hb]at e;simp only[cond_true,Option.some.injEq]at e;subst e;exact⟨by simp,(Nat.eq_of_beq_eq_true hb).symm⟩
  |false=>
   rw[hb]at e
   simp only[cond_false]at e
   split at e
   ·rename_i j hj
    simp only[Option.some.injEq]at e
    subst e
    obtain⟨h1,h2⟩:=idxN_eq hj
    exact⟨by simp;omega,h2⟩
   ·cases e
def G5(S:IS)(ps:List Nat):Nat→Nat:=fun i=>bif fP (S.own (pF ps i))then XB+i else i
section
variable {S:IS} {ps:List Nat} {h:Nat→Nat}
abbrev gF(S:IS)(h:Nat→Nat)(ps:List Nat):Nat→Nat:=fun j=>h (pF ps j)+S.gen (pF ps j)
mutual
theorem NU{q:Nat→Nat}(hq:∀i,i<ps.length→q i=G5 S ps i):∀{d d' :I},zf S ps d=some d'→Rn ps.length (pF ps) (gF S h ps) q one (d.bV h) (d'.bV zh)
 | .bx s g o,d',e=>by
   unfold zf at e
   split at e
   ·rename_i i hi
    cases hb:Nat.beq g (S.gen s)&& !(fP (S.own s))with
    |false=>rw[hb]at e;cases e
    |true=>
     rw[hb]at e
     simp only[cond_true,Option.some.injEq]at e
     subst e
     simp only[Bool.and_eq_true,Bool.not_eq_true']at hb
     have:=Nat.eq_of_beq_eq_true hb.1
     subst this
     obtain⟨h1,h2⟩:=idxN_eq hi
     have h3:=Rn.bx (n:=ps.length) (p:=pF ps) (g:=gF S h ps) (p' :=q) (g' :=one) i o h1
     have h4:q i=i:=by rw[hq i h1];unfold G5;rw[h2,hb.2];rfl
     simp only[gF,h2,h4]at h3
     exact h3
   ·cases e
 | .os s g,d',e=>by
   unfold zf at e
   split at e
   ·rename_i i hi
    cases hb:Nat.beq g (S.gen s)&&fP (S.own s)with
    |false=>rw[hb]at e;cases e
    |true=>
     rw[hb]at e
     simp only[cond_true,Option.some.injEq]at e
     subst e
     simp only[Bool.and_eq_true]at hb
     have:=Nat.eq_of_beq_eq_true hb.1
     subst this
     obtain⟨h1,h2⟩:=idxN_eq hi
     have h3:=Rn.os (n:=ps.length) (p:=pF ps) (g:=gF S h ps) (p' :=q) (g' :=one) i h1
     have h4:q i=XB+i:=by rw[hq i h1];unfold G5;rw[h2,hb.2];rfl
     simp only[gF,h2,h4]at h3
     exact h3
   ·cases e
 | .agg l,d',e=>by
   unfold zf at e
   split at e
   ·rename_i l' hl
    simp only[Option.some.injEq]at e
    subst e
    exact .agg _ _ (vu hq hl)
   ·cases e
 | .fn f l,d',e=>by
   unfold zf at e
   split at e
   ·rename_i l' hl
    simp only[Option.some.injEq]at e
    subst e
    exact .fn f _ _ (vu hq hl)
   ·cases e
 | .rp l o,d',e=>by
   unfold zf at e
   cases hn:ed l with
   |false=>rw[hn]at e;cases e
   |true=>
    rw[hn]at e
    simp only[cond_true,Option.some.injEq]at e
    subst e
    rw[lk h zh (.rp l o) hn]
    exact .pure _ (fe zh (.rp l o) hn)
 | .int k n,d',e=>by simp only[zf,Option.some.injEq]at e;subst e;exact .pure _ (.int _ _)
 | .bool b,d',e=>by simp only[zf,Option.some.injEq]at e;subst e;exact .pure _ (.bool _)
 | .str b,d',e=>by simp only[zf,Option.some.injEq]at e;subst e;exact .pure _ (.str _)
 | .sl t l,d',e=>by simp only[zf,Option.some.injEq]at e;subst e;exact .pure _ (fe h (.sl t l) rfl)
 | .nsl t l,d',e=>by simp only[zf,Option.some.injEq]at e;subst e;exact .pure _ (fe h (.nsl t l) rfl)
 | .nil,d',e=>by simp only[zf,Option.some.injEq]at e;subst e;exact .pure _ .nil
 | .one,d',e=>by simp only[zf,Option.some.injEq]at e;subst e;exact .pure _ .one
 | .undef,d',e=>by simp only[zf,Option.some.injEq]at e;subst e;exact .pure _ .undef
 | .tup l,d',e=>by simp only[zf]at e;cases e
 | .op _ _ _ _ _,d',e=>by simp only[zf]at e;cases e
 | .ow _ _ _ _ _,d',e=>by simp only[zf]at e;cases e
 | .yl _,d',e=>by simp only[zf]at e;cases e
 | .mf _ _,d',e=>by simp only[zf]at e;cases e
theorem vu{q:Nat→Nat}(hq:∀i,i<ps.length→q i=G5 S ps i):∀{l l' :List I},Mr S ps l=some l'→vb ps.length (pF ps) (gF S h ps) q one (I.ao h l) (I.ao zh l')
 |[],l',e=>by simp only[Mr,Option.some.injEq]at e;subst e;exact .nil
 |d::l,m,e=>by
  unfold Mr at e
  split at e
  ·rename_i d' hd
   split at e
   ·rename_i l' hl
    simp only[Option.some.injEq]at e
    subst e
    exact .cons _ _ _ _ (NU hq hd) (vu hq hl)
   ·cases e
  ·cases e
end
mutual
theorem F1{q:Nat→Nat}(hq:∀i,i<ps.length→q i=G5 S ps i):∀{d d' :I},lH S ps d=some d'→Rn ps.length q one (pF ps) (gF S h ps) (d.bV zh) (d'.bV h)
 | .bx i g o,d',e=>by
   unfold lH at e
   cases hb:Nat.blt i ps.length&&Nat.beq g 1&& !(fP (S.own (pF ps i)))with
   |false=>rw[hb]at e;cases e
   |true=>
    rw[hb]at e
    simp only[cond_true,Option.some.injEq]at e
    subst e
    simp only[Bool.and_eq_true,Bool.not_eq_true']at hb
    have:=Nat.eq_of_beq_eq_true hb.1.2
    subst this
    have h1:i<ps.length:=by simpa[Nat.blt_eq]using hb.1.1
    have h3:=Rn.bx (n:=ps.length) (p:=q) (g:=one) (p' :=pF ps) (g' :=gF S h ps) i o h1
    have h4:q i=i:=by rw[hq i h1];unfold G5;rw[hb.2];rfl
    rw[h4]at h3
    exact h3
 | .os s g,d',e=>by
   unfold lH at e
   split at e
   ·rename_i i hi
    cases hb:Nat.beq g 1&&fP (S.own (pF ps i))with
    |false=>rw[hb]at e;cases e
    |true=>
     rw[hb]at e
     simp only[cond_true,Option.some.injEq]at e
     subst e
     simp only[Bool.and_eq_true]at hb
     have:=Nat.eq_of_beq_eq_true hb.1
     subst this
     obtain⟨h1,rfl⟩:=yM hi
     have h3:=Rn.os (n:=ps.length) (p:=q) (g:=one) (p' :=pF ps) (g' :=gF S h ps) i h1
     have h4:q i=XB+i:=by rw[hq i h1];unfold G5;rw[hb.2];rfl
     rw[h4]at h3
     exact h3
   ·cases e
 | .agg l,d',e=>by
   unfold lH at e
   split at e
   ·rename_i l' hl
    simp only[Option.some.injEq]at e
    subst e
    exact .agg _ _ (uV hq hl)
   ·cases e
 | .fn f l,d',e=>by
   unfold lH at e
   split at e
   ·rename_i l' hl
    simp only[Option.some.injEq]at e
    subst e
    exact .fn f _ _ (uV hq hl)
   ·cases e
 | .rp l o,d',e=>by
   unfold lH at e
   cases hn:ed l with
   |false=>rw[hn]at e;cases e
   |true=>
    rw[hn]at e
    simp only[cond_true,Option.some.injEq]at e
    subst e
    rw[lk h zh (.rp l o) hn]
    exact .pure _ (fe zh (.rp l o) hn)
 | .int k n,d',e=>by simp only[lH,Option.some.injEq]at e;subst e;exact .pure _ (.int _ _)
 | .bool b,d',e=>by simp only[lH,Option.some.injEq]at e;subst e;exact .pure _ (.bool _)
 | .str b,d',e=>by simp only[lH,Option.some.injEq]at e;subst e;exact .pure _ (.str _)
 | .sl t l,d',e=>by simp only[lH,Option.some.injEq]at e;subst e;exact .pure _ (fe h (.sl t l) rfl)
 | .nsl t l,d',e=>by simp only[lH,Option.some.injEq]at e;subst e;exact .pure _ (fe h (.nsl t l) rfl)
 | .nil,d',e=>by simp only[lH,Option.some.injEq]at e;subst e;exact .pure _ .nil
 | .one,d',e=>by simp only[lH,Option.some.injEq]at e;subst e;exact .pure _ .one
 | .undef,d',e=>by simp only[lH,Option.some.injEq]at e;subst e;exact .pure _ .undef
 | .tup l,d',e=>by simp only[lH]at e;cases e
 | .op _ _ _ _ _,d',e=>by simp only[lH]at e;cases e
 | .ow _ _ _ _ _,d',e=>by simp only[lH]at e;cases e
 | .yl _,d',e=>by simp only[lH]at e;cases e
 | .mf _ _,d',e=>by simp only[lH]at e;cases e
theorem uV{q:Nat→Nat}(hq:∀i,i<ps.length→q i=G5 S ps i):∀{l l' :List I},Eu S ps l=some l'→vb ps.length q one (pF ps) (gF S h ps) (I.ao zh l) (I.ao h l')
 |[],l',e=>by simp only[Eu,Option.some.injEq]at e;subst e;exact .nil
 |d::l,m,e=>by
  unfold Eu at e
  split at e
  ·rename_i d' hd
   split at e
   ·rename_i l' hl
    simp only[Option.some.injEq]at e
    subst e
    exact .cons _ _ _ _ (F1 hq hd) (uV hq hl)
   ·cases e
  ·cases e
end
end
mutual
theorem Rn.symm{n:Nat}{p g p' g' :Nat→Nat}:∀{d d' :D},Rn n p g p' g' d d'→Rn n p' g' p g d' d
 |_,_, .pure d hd=> .pure d hd
 |_,_, .bx i o hi=> .bx i o hi
 |_,_, .os i hi=> .os i hi
 |_,_, .agg l l' hl=> .agg _ _ (vb.symm hl)
 |_,_, .fn f c c' hl=> .fn f _ _ (vb.symm hl)
theorem vb.symm{n:Nat}{p g p' g' :Nat→Nat}:∀{l l' :List D},vb n p g p' g' l l'→vb n p' g' p g l' l
 |_,_, .nil=> .nil
 |_,_, .cons d d' l l' a b=> .cons _ _ _ _ (Rn.symm a) (vb.symm b)
end
theorem nz.symm{n:Nat}{p g p' g' :Nat→Nat}{o o' :Own}(h:nz n p g p' g' o o'):nz n p' g' p g o' o:=by
 cases h with
 |box l l' hl=>exact .box _ _ hl.symm
 |arr E z m f hf=>exact .arr _ _ _ _ hf
def nZ:List Nat→Bool
 |[]=>true
 |p::l=> !(cY p l)&&nZ l
theorem EC:∀{l:List Nat} {i:Nat},i<l.length→pF l i∈l
 |p::l,0,_=>List.mem_cons_self ..
 |p::l,i+1,h=>List.mem_cons_of_mem _ (EC (by simpa using h))
theorem qV:∀{l:List Nat},nZ l=true→∀i j,i<l.length→j<l.length→pF l i=pF l j→i=j
 |p::l,h,0,0,_,_,_=>rfl
 |p::l,h,0,j+1,_,hj,e=>by
  simp only[nZ,Bool.and_eq_true,Bool.not_eq_true']at h
  have h1:pF l j∈l:=EC (by simpa using hj)
  have e:p=pF l j:=e
  rw[←e]at h1
  rw[cu.2 h1]at h;cases h.1
 |p::l,h,i+1,0,hi,_,e=>by
  simp only[nZ,Bool.and_eq_true,Bool.not_eq_true']at h
  have h1:pF l i∈l:=EC (by simpa using hi)
  have e:pF l i=p:=e
  rw[e]at h1
  rw[cu.2 h1]at h;cases h.1
 |p::l,h,i+1,j+1,hi,hj,e=>by
  simp only[nZ,Bool.and_eq_true]at h
  rw[qV h.2 i j (by simpa using hi) (by simpa using hj) e]
def Kx:List I→List Nat→List Nat
 |[],acc=>acc
 | .bx p _ _::l,acc=>Kx l (bif cY p acc then acc else acc++[p])
 | .os p _::l,acc=>Kx l (bif cY p acc then acc else acc++[p])
 |_::l,acc=>Kx l acc
def CU:List I→List Nat→List Nat
 |[],acc=>acc
 | .agg m::l,acc=>CU l (Kx m acc)
 | .bx p _ _::l,acc=>CU l (bif cY p acc then acc else acc++[p])
 | .os p _::l,acc=>CU l (bif cY p acc then acc else acc++[p])
 |_::l,acc=>CU l acc
def P0(S:IS):List Nat→List Nat→List Nat
 |[],acc=>acc
 |p::l,acc=>P0 S l (match S.own p with| .box m=>CU m acc|_=>acc)
def Qy(S:IS)(vs:List I):List Nat:=P0 S (CU vs []) (CU vs [])
def Hr(S:IS)(ps:List Nat):IOwn→Option IOwn
 | .box m=>(match Mr S ps m with|some m' =>some (.box m')|none=>none)
 | .arr E t l=>some (.arr E t l)
 |_=>none
def OW(S:IS)(ps:List Nat):List Nat→Option (List IOwn)
 |[]=>some []
 |p::l=>(match Hr S ps (S.own p),OW S ps l with
  |some o,some ls=>some (o::ls)
  |_,_=>none)
def Mo(S:IS)(ps:List Nat):IOwn→IOwn→Option IOwn
 | .box _, .box m=>(match Eu S ps m with|some m' =>some (.box m')|none=>none)
 | .arr _ _ _, .arr E t l=>some (.arr E t l)
 |_,_=>none
def mE(p:Nat)(o:IOwn):Ef:=⟨none, .undef,none,some (p,o)⟩
def DR(pin:List Nat)(F:Fix)(S0:IS)(ps:List Nat):IS→List Nat→List IOwn→Option IS
 |S,i::wr,l::ls=>(match Mo S0 ps (S0.own (pF ps i)) l with
  |some m=>bif Nat.blt i ps.length&&nm pin F (mE (pF ps i) m)then DR pin F S0 ps (S.lJ (mE (pF ps i) m)) wr ls else none
  |none=>none)
 |S,[],[]=>some S
 |_,_,_=>none
def SH:Nat→List Nat→List I→List Nat
 |_,_,[]=>[]
 |i,ka,d::l=>(bif cY i ka then[]else nA d)++SH (i+1) ka l
def SA(S:IS):Nat→List Nat→List Nat→List Nat
 |_,_,[]=>[]
 |i,kb,p::l=>(match S.own p with| .box m=>bif cY i kb then[]else fw m|_=>[])++SA S (i+1) kb l
def SK:Nat→List Nat→List I→List I
 |_,_,[]=>[]
 |i,ka,d::l=>(bif cY i ka then d else(match d with| .os _ _=> .undef|d=>d))::SK (i+1) ka l
def Qb(S:IS)(ps:List Nat)(d:I):Option I:=bif iS d then some d else lH S ps d
def R3(E:CEnv Z)(F:Fix)(S:IS)(t:Nat)(x:Operand)(args:List Operand)(sp:ng Z.toSeat)(k:IS→Option R):Option R:=match S.ev Z E.nt x with
 | .fn f cc=>bif Nat.beq sp.f f then
    (let ps:=Qy S (args.map (S.ev Z E.nt)++cc)
     bif nZ ps&&Nat.blt ps.length XB then(match OW S ps ps,Mr S ps (args.map (S.ev Z E.nt)++cc)with
    |some ls,some A=>sp.app ls A (fun ls' d=>match Qb S ps d with
     |some d' =>(match DR E.pin F S ps S sp.wr ls' with
      |some S' =>aW (nm E.pin F (vE t d')) (k (S'.lJ (vE t d')))
      |none=>none)
     |none=>none)
    |_,_=>none)else none)else none
 |_=>none
def mC(E:CEnv Z)(F:Fix)(S:IS)(o:Oper)(k:IS→Option R)(oth:Option R):Option R:=match o.op with
 | .call c=>(match c.callee with
   | .value x=>(match S.ev Z E.nt x,o.dst with
     | .fn f cc,some t=>(match JB E.FM f with
       |some sp=>sQ F S (dZ S (SH 0 sp.ka (c.args.toList.map (S.ev Z E.nt))++SA S 0 sp.kb (CU (SK 0 sp.ka (c.args.toList.map (S.ev Z E.nt))++cc) []))) (fun S=>R3 E F S t x c.args.toList sp k)
       |none=>oth)
     |_,_=>oth)
   |_=>oth)
 |_=>oth
theorem Ly{S:IS}{ps:List Nat}{h:Nat→Nat}{q:Nat→Nat}(hq:∀i,i<ps.length→q i=G5 S ps i){o o' :IOwn}(e:Hr S ps o=some o'):nz ps.length (pF ps) (gF S h ps) q one (o.bq h) (o'.bq zh)∧fP o' =fP o:=by
 unfold Hr at e
 split at e
 ·split at e
  ·rename_i m m' hm
   simp only[Option.some.injEq]at e
   subst e
   exact⟨.box _ _ (vu hq hm),rfl⟩
  ·cases e
 ·simp only[Option.some.injEq]at e
  subst e
  exact⟨.arr _ _ _ _ (fun i _=>b9 _ _),rfl⟩
 ·cases e
theorem A3{S:IS}{ps:List Nat}:∀{l:List Nat} {ls:List IOwn},OW S ps l=some ls→ls.length=l.length∧∀i,i<l.length→∃o,Hr S ps (S.own (pF l i))=some o∧nthW ls i=o
 |[],ls,e=>by simp only[OW,Option.some.injEq]at e;subst e;exact⟨rfl,fun i hi=>by simp at hi⟩
 |p::l,ls,e=>by
  unfold OW at e
  split at e
  ·rename_i o ls' ho hls
   simp only[Option.some.injEq]at e
   subst e
   obtain⟨h1,h2⟩:=A3 hls
   refine⟨by simp[h1],fun i hi=> ?_⟩
   cases i with
   |zero=>exact⟨o,ho,rfl⟩
   |succ i=>exact h2 i (by simpa using hi)
  ·cases e
theorem Ix{S:IS}{ps:List Nat}{o o' :IOwn}(e:Hr S ps o=some o'):fP o' =fP o:=by
 unfold Hr at e
 split at e
 ·split at e
  ·simp only[Option.some.injEq]at e;subst e;rfl
  ·cases e
 ·simp only[Option.some.injEq]at e;subst e;rfl
 ·cases e
theorem N4{S:IS}{ps:List Nat}{ls:List IOwn}(e:OW S ps ps=some ls):∀i,i<ps.length→pQ ls i=G5 S ps i:=fun i hi=>by
 obtain⟨o,h1,h2⟩:=(A3 e).2 i hi
 unfold pQ G5
 rw[h2,Ix h1]
theorem E6{pin:List Nat}{F:Fix}{S0:IS}{ps:List Nat}{h g0 q:Nat→Nat}(hnd:nZ ps=true)(hq:∀i,i<ps.length→q i=G5 S0 ps i):∀{wr:List Nat} {ls:List IOwn} {S S' :IS} {Fn:Nat→Own},DR pin F S0 ps S wr ls=some S'→Inv pin g0 F h S→
 (∀i,i<ps.length→nz ps.length q one (pF ps) (gF S0 h ps) (Fn i) ((S.own (pF ps i)).bq h))→
 Inv pin g0 F h S'∧S'.rs=S.rs∧S'.gs=S.gs∧(∀s,(∀i,i<ps.length→pF ps i≠s)→S'.own s=S.own s)∧(∀i,i<ps.length→nz ps.length q one (pF ps) (gF S0 h ps) (tN wr ls Fn i) ((S'.own (pF ps i)).bq h))
 |[],[],S,S',Fn,e,hi,hb=>by simp only[DR,Option.some.injEq]at e;subst e;exact⟨hi,rfl,rfl,fun _ _=>rfl,hb⟩
 |[],_::_,S,S',Fn,e,hi,hb=>by simp only[DR]at e;cases e
 |_::_,[],S,S',Fn,e,hi,hb=>by simp only[DR]at e;cases e
 |i::wr,l::ls,S,S',Fn,e,hi,hb=>by
  simp only[DR]at e
  split at e
  ·rename_i m hm
   cases hc:Nat.blt i ps.length&&nm pin F (mE (pF ps i) m)with
   |false=>rw[hc]at e;cases e
   |true=>
    rw[hc]at e
    simp only[cond_true]at e
    simp only[Bool.and_eq_true]at hc
    have hil:i<ps.length:=by simpa[Nat.blt_eq]using hc.1
    have hml:nz ps.length q one (pF ps) (gF S0 h ps) (l.bq zh) (m.bq h):=by
     unfold Mo at hm
     split at hm
     ·split at hm
      ·rename_i a b hb2
       simp only[Option.some.injEq]at hm
       subst hm
       exact .box _ _ (uV hq hb2)
      ·cases hm
     ·simp only[Option.some.injEq]at hm
      subst hm
      exact .arr _ _ _ _ (fun i _=>b9 _ _)
     ·cases hm
    obtain⟨q1,q2,q3,q4,q5⟩:=E6 (h:=h) hnd hq (Fn:=fun j=>bif Nat.beq j i then l.bq zh else Fn j) e (hi.lJ hc.2) (fun j hj=>by
     by_cases ej:j=i
     ·subst ej
      have e1:(S.lJ (mE (pF ps j) m)).own (pF ps j)=m:=by
       show look .none ((pF ps j,m)::S.os) (pF ps j)=_
       simp only[look,Nat.beq_refl,cond_true]
      simp only[Nat.beq_refl,cond_true,e1]
      exact hml
     ·have hne:pF ps j≠pF ps i:=fun e2=>ej (qV hnd j i hj hil e2)
      have e1:(S.lJ (mE (pF ps i) m)).own (pF ps j)=S.own (pF ps j):=ey hne
      have:Nat.beq j i=false:=by
       cases hbq:Nat.beq j i with
       |false=>rfl
       |true=>exact absurd (Nat.eq_of_beq_eq_true hbq) ej
      simp only[this,cond_false,e1]
      exact hb j hj)
    exact⟨q1,q2,q3,fun s hs=>(q4 s hs).trans (ey (fun e2=>hs i hil e2.symm)),q5⟩
  ·cases e
theorem OP{E:CEnv Z}{g0:Nat→Nat}(hX:At X Z E.nt){F:Fix}{S:IS}{o:Oper}{t:Nat}{x:Operand}{args:Array Operand}{ts:Array TypeId}{sp:ng Z.toSeat}{k:IS→Option R}{h:Nat→Nat}(ho:o.op= .call {callee:= .value x,args:=args,argTypes:=ts})(hd:o.dst=some t)(hi:Inv E.pin g0 F h S)(hr:R3 E F S t x args.toList sp k=some r):
 ∃S',k S' =some r∧Inv E.pin g0 F h S'∧∀(ops:Array Oper) (rest:List Oper) (Q:Exit→St→Prop),o.guard=none→WL X ops rest Q (S'.aJ h)→WL X ops (o::rest) Q (S.aJ h):=by
 unfold R3 at hr
 split at hr
 case h_2=>cases hr
 rename_i f cc hx
 cases hf:Nat.beq sp.f f with
 |false=>rw[hf]at hr;cases hr
 |true=>
 rw[hf]at hr
 have hf:=Nat.eq_of_beq_eq_true hf
 subst hf
 simp only[cond_true]at hr
 generalize Qy S (args.toList.map (S.ev Z E.nt)++cc)=ps at hr
 cases hnd:nZ ps&&Nat.blt ps.length XB with
 |false=>rw[hnd]at hr;cases hr
 |true=>
 rw[hnd]at hr
 simp only[cond_true]at hr
 simp only[Bool.and_eq_true,Nat.blt_eq]at hnd
 obtain⟨hnd,hXB⟩:=hnd
 split at hr
 case h_2=>cases hr
 rename_i ls A hls hA
 obtain⟨ls',d,h1,h2⟩:=sp.ok _ _ _ _ hr
 split at h1
 case h_2=>cases h1
 rename_i d' hd'
 split at h1
 case h_2=>cases h1
 rename_i S' hS'
 obtain⟨hp,h1⟩:=ak h1
 obtain⟨l1,l2⟩:=A3 hls
 have hq:=N4 hls
 have hRR:Rn ps.length (pQ ls) one (pF ps) (gF S h ps) (d.bV zh) (d'.bV h):=by
  unfold Qb at hd'
  cases hnr:iS d with
  |true=>
   rw[hnr]at hd'
   simp only[cond_true,Option.some.injEq]at hd'
   subst hd'
   rw[lk h zh d hnr]
   exact .pure _ (fe zh d hnr)
  |false=>
   rw[hnr]at hd'
   exact F1 hq hd'
 rw[l1]at h2
 have hin:∀i,i<ps.length→nz ps.length (pF ps) (gF S h ps) (pQ ls) one ((S.own (pF ps i)).bq h) (sm ls i):=fun i hi=>by
  obtain⟨o',a1,a2⟩:=l2 i hi
  have:=(Ly (h:=h) hq a1).1
  unfold sm
  rw[a2];exact this
 obtain⟨q1,q2,q3,q4,q5⟩:=E6 (h:=h) hnd hq (Fn:=sm ls) hS' hi (fun i hi=>(hin i hi).symm)
 refine⟨_,h1,q1.lJ hp,fun ops rest Q hg hk=> ?_⟩
 have hx' :(S.aJ h).ev X x= .fn sp.f (I.ao h cc):=by rw[dI hX,hx];rfl
 refine Iq (X:=X) (S:=S.aJ h) (ps:=pF ps) (n:=ps.length) (q:=pQ ls) (os:=sm ls) (os' :=tN sp.wr ls' (sm ls)) (A:=I.ao zh A) (R:=d.bV zh) (R' :=d'.bV h) (σ' :=fun s=>(S'.own s).bq h) (fun i j hi hj e=>qV hnd i j hi hj e) (fun i j hi hj e=> ?_) hg ho hx' (fun i hi=>hin i hi) ?_ (by rw[hX.Z];exact h2) hRR hd (fun s hs=> ?_) (fun i hi=>q5 i hi) ?_
 ·rw[hq i hi,hq j hj]at e
  unfold G5 at e
  cases h1:fP (S.own (pF ps i))<;>cases h2:fP (S.own (pF ps j))<;>(rw[h1,h2]at e;simp only[cond_true,cond_false]at e)<;>omega
 ·have:=vu (h:=h) hq hA
  rw[nO,dO,List.map_map]at this
  have e:args.toList.map ((I.bV h)∘(S.ev Z E.nt))=args.toList.map ((S.aJ h).ev X):=List.map_congr_left fun x _=>(dI hX x).symm
  rw[e]at this
  exact this
 ·show(S'.own s).bq h=(S.own s).bq h
  rw[q4 s hs]
 ·rw[fD]at hk
  have e1:(S'.aJ h).ρ=(S.aJ h).ρ:=by funext i;show(look .undef S'.rs i).bV h=_;rw[q2];rfl
  have e2:(S'.aJ h).γ=(S.aJ h).γ:=by funext i;show h i+look 0 S'.gs i=_;rw[q3];rfl
  have e3:((S'.aJ h).app (Ef.wr (vE t d')) (Ef.vl h (vE t d')))=⟨bM (S'.aJ h).ρ t (d'.bV h),(S'.aJ h).γ,(S'.aJ h).σ⟩:=rfl
  rw[e3,e1,e2]at hk
  exact hk
theorem Mm{E:CEnv Z}{g0:Nat→Nat}(hX:At X Z E.nt){F:Fix}(hF:okF F=true){S:IS}{o:Oper}{k:IS→Option R}{oth:Option R}{h:Nat→Nat}(hi:Inv E.pin g0 F h S)(hr:mC E F S o k oth=some r):
 oth=some r∨∃S',k S' =some r∧Inv E.pin g0 F h S'∧∀(ops:Array Oper) (rest:List Oper) (Q:Exit→St→Prop),o.guard=none→WL X ops rest Q (S'.aJ h)→WL X ops (o::rest) Q (S.aJ h):=by
 unfold mC at hr
 split at hr
 case h_2=>exact .inl hr
 rename_i c ho
 obtain⟨ce,args,ts⟩:=c
 simp only at hr
 split at hr
 case h_2=>exact .inl hr
 rename_i x
 split at hr
 case h_2=>exact .inl hr
 rename_i f cc t hx hd
 split at hr
 case h_2=>exact .inl hr
 rename_i sp hsp
 unfold sQ at hr
 obtain⟨hfz,hr⟩:=ak hr
 obtain⟨S',k1,k2,k3⟩:=OP hX ho hd (hi.qS hF hfz) hr
 exact .inr ⟨S',k1,k2,fun ops rest Q hg hk=>Mb (lF _ S (xh hX.xa hfz)) (k3 ops rest Q hg hk)⟩
def rq(z:Bool)(a b:Option R):Option R:=open Classical in if z=true→a=b then b else none
theorem JG{z:Bool}{a b:Option R}{r:R}(h:rq z a b=some r):b=some r∧(z=true→a=some r):=by
 unfold rq at h
 split at h
 ·rename_i hz;exact⟨h,fun e=>(hz e).trans h⟩
 ·cases h
theorem xi{z:Bool}{a b:Option R}(h:z=true→a=b):rq z a b=b:=by unfold rq;rw[if_pos h]
def nC(E:CEnv Z)(F:Fix)(S:IS)(o:Oper)(k:IS→Option R)(oth:Option R):Option R:=match o.op,o.dst with
 | .binOp .eql T x y _,some t=>(match S.ev Z E.nt x,S.ev Z E.nt y with
   | .sl ty l, .nil=>rowOf Z T fun q=>aW (Nat.beq q.k 3&& !(cY t (keys F.sl))) (rq l.isEmpty (k (S.set t (.bool true))) (k (S.set t (.bool false))))
   |_,_=>oth)
 |_,_=>oth
theorem Pz{E:CEnv Z}{g0:Nat→Nat}(hX:At X Z E.nt){F:Fix}{S:IS}{o:Oper}{k:IS→Option R}{oth:Option R}{h:Nat→Nat}(hi:Inv E.pin g0 F h S)(hr:nC E F S o k oth=some r):
 oth=some r∨∃(t:Nat) (P:Prop),Inv E.pin g0 F h (S.set t (.bool true))∧Inv E.pin g0 F h (S.set t (.bool false))∧(P→k (S.set t (.bool true))=some r)∧k (S.set t (.bool false))=some r∧
  ∀(ops:Array Oper) (rest:List Oper) (Q:Exit→St→Prop),o.guard=none→(P→WL X ops rest Q ((S.set t (.bool true)).aJ h))→WL X ops rest Q ((S.set t (.bool false)).aJ h)→WL X ops (o::rest) Q (S.aJ h):=by
 unfold nC at hr
 split at hr
 case h_2=>exact .inl hr
 rename_i tx x y ty2 t ho hd
 split at hr
 case h_2=>exact .inl hr
 rename_i te l hx hy
 obtain⟨q,hq,_,hr⟩:=cr hr
 obtain⟨ht,hr⟩:=ak hr
 simp only[Bool.and_eq_true,Bool.not_eq_true']at ht
 obtain⟨hk3,ht⟩:=ht
 obtain⟨h1,h2⟩:=JG hr
 refine .inr ⟨t,l.isEmpty=true,hi.set ht _,hi.set ht _,h2,h1,fun ops rest Q hg ht hf=> ?_⟩
 have hx' :(S.aJ h).ev X x=Kn te l:=by rw[dI hX,hx];rfl
 have hy' :(S.aJ h).ev X y= .nil:=by rw[dI hX,hy];rfl
 rw[gJ]at hf
 refine IN hg ho hd (by rw[hX.Z];exact hq) hk3 hx' hy' (fun hn=> ?_) hf
 have:=ht (by cases l with|nil=>rfl|cons=>simp at hn)
 rw[gJ]at this
 exact this
def rl(E:CEnv Z)(F:Fix)(ops:Array Oper):List Oper→IS→(IS→Option R)→Option R
 |[],S,k=>k S
 |o::rest,S,k=>match o.guard with
  |none=>MS E F S o (fun S' =>rl E F ops rest S' k) (Rv E F S o (fun S' =>rl E F ops rest S' k) (RW E F S o (fun S' =>rl E F ops rest S' k) (mC E F S o (fun S' =>rl E F ops rest S' k) (nC E F S o (fun S' =>rl E F ops rest S' k) (sQ F S (dZ S (LM E S o)) (fun S=>Nv E S o (fun e=>aW (nm E.pin F e) (rl E F ops rest (S.lJ e) k))))))))
  |some (j,b)=>(match(ops[j]?).bind (·.dst)with
   |some t=>aW (!(cY t (keys F.sl))) (bif Ha (S.ev Z E.nt (.tmp t))then(match o.dst with|some t' =>aW (!(cY t' (keys F.sl))) (rl E F ops rest (S.set t' (.tup [])) k)|none=>none)else Ga S Z E.nt t (fun c=>bif c==b then sQ F (S.set t (.bool c)) (dZ (S.set t (.bool c)) (LM E (S.set t (.bool c)) o)) (fun S=>Nv E S o (fun e=>aW (nm E.pin F e) (rl E F ops rest (S.lJ e) k)))
     else(match o.dst with|some t' =>aW (!(cY t' (keys F.sl))) (rl E F ops rest ((S.set t (.bool c)).set t' (.tup [])) k)|none=>none)))
   |none=>none)
theorem rz{S:IS}{h:Nat→Nat}{nt t:Nat}{c:Bool}(hX:At X Z nt)(hc:S.ev Z nt (.tmp t)= .bool c):(S.set t (.bool c)).aJ h=S.aJ h:=by
 rw[gJ]
 have hρ:(S.aJ h).ρ t= .bool c:=by
  have h1:=dI (h:=h) hX (Operand.tmp t) (S:=S)
  rw[hc]at h1
  simp only[St.ev,I.bV]at h1
  cases hb:Nat.blt t X.nt with
  |false=>rw[hb]at h1;cases h1
  |true=>rw[hb]at h1;exact h1
 unfold St.set
 have:bM (S.aJ h).ρ t (I.bV h (.bool c))=(S.aJ h).ρ:=by
  funext i
  by_cases e:i=t
  ·subst e;rw[aj,hρ];rfl
  ·rw[bg _ _ _ _ e]
 rw[this]
theorem ir{E:CEnv Z}{g0:Nat→Nat}(hX:At X Z E.nt){F:Fix}(hF:okF F=true){ops:Array Oper}{Q:Exit→St→Prop}{k:IS→Option R}(hk:∀h S',Inv E.pin g0 F h S'→k S' =some r→Q .normal (S'.aJ h)):
 ∀(l:List Oper) (S:IS) (h:Nat→Nat),Inv E.pin g0 F h S→rl E F ops l S k=some r→WL X ops l Q (S.aJ h)
 |[],S,h,hi,hr=>aG (hk h S hi hr)
 |o::rest,S,h,hi,hr=>by
  have step:∀(S:IS),Inv E.pin g0 F h S→∀o:Oper,o.guard=none→sQ F S (dZ S (LM E S o)) (fun S=>Nv E S o (fun e=>aW (nm E.pin F e) (rl E F ops rest (S.lJ e) k)))=some r→WL X ops (o::rest) Q (S.aJ h):=fun S hi o hg hr=>by
   unfold sQ at hr
   obtain⟨hfz,hr⟩:=ak hr
   have hi2:=hi.qS hF hfz
   refine Mb (lF (dZ S (LM E S o)) S (xh hX.xa hfz)) ?_
   obtain⟨e,h1,h2⟩:=Dq hX hr
   obtain⟨hp,h1⟩:=ak h1
   intro κ sv a w hs
   refine wpListIn_plain hg fun K hK=>h2 h _ (Ag.self hX) (fun p _=>rfl) κ sv a w hs K _ fun κ' sv' a' w' hs' =>hK _ _ ?_
   rw[←fD]at hs'
   exact ir hX hF hk rest _ h (hi2.lJ hp) h1 κ' sv' a' w' hs'
  unfold rl at hr
  split at hr
  ·rename_i hg
   rcases KU hX hi hr with hr|⟨S',h1,h2,h3⟩
   ·rcases Oh hX hi hr with hr|⟨S',h1,h2,h3⟩
    ·rcases NF hX hi hr with hr|⟨S',h1,h2,h3⟩
     ·rcases Mm hX hF hi hr with hr|⟨S',h1,h2,h3⟩
      ·rcases Pz hX hi hr with hr|⟨t,P,i1,i2,k1,k2,k3⟩
       ·exact step S hi o hg hr
       ·exact k3 ops rest Q hg (fun hP=>ir hX hF hk rest _ h i1 (k1 hP)) (ir hX hF hk rest _ h i2 k2)
      ·exact h3 ops rest Q hg (ir hX hF hk rest S' h h2 h1)
     ·exact h3 ops rest Q hg (ir hX hF hk rest S' h h2 h1)
    ·exact h3 ops rest Q hg (ir hX hF hk rest S' h h2 h1)
   ·exact h3 ops rest Q hg (ir hX hF hk rest S' h h2 h1)
  ·rename_i j b hg
   split at hr
   ·rename_i t hj
    replace hr:=ak hr
    obtain⟨ht,hr⟩:=hr
    simp only[Bool.not_eq_true']at ht
    cases hu:Ha (S.ev Z E.nt (.tmp t))with
    |true=>
     rw[hu]at hr
     simp only[cond_true]at hr
     split at hr
     ·rename_i t' hd
      obtain⟨ht',hr⟩:=ak hr
      simp only[Bool.not_eq_true']at ht'
      refine MX hg hj (by rw[dI hX,E3 hu];rfl) hd ?_
      have:=ir hX hF hk rest (S.set t' (.tup [])) h (hi.set ht' _) hr
      rw[gJ]at this
      exact this
     ·cases hr
    |false=>
    rw[hu]at hr
    simp only[cond_false]at hr
    replace hr:=Fp hr
    obtain⟨c,hc,hr⟩:=hr
    have hev:(S.aJ h).ev X (.tmp t)= .bool c:=by rw[dI hX,hc];rfl
    cases hcb:c==b with
    |true=>
     rw[hcb]at hr
     have hcb:c=b:=by simpa using hcb
     subst hcb
     refine dg hg hj hev ?_
     rw[←rz hX hc]
     exact step (S.set t (.bool c)) (hi.set ht _) {o with guard:=none} rfl hr
    |false=>
     rw[hcb]at hr
     simp only[cond_false]at hr
     split at hr
     ·rename_i t' hd
      obtain⟨ht',hr⟩:=ak hr
      simp only[Bool.not_eq_true']at ht'
      refine OS hg hj hev hcb hd ?_
      rw[←rz hX hc]
      have:=ir hX hF hk rest ((S.set t (.bool c)).set t' (.tup [])) h ((hi.set ht _).set ht' _) hr
      rw[gJ]at this
      exact this
     ·cases hr
   ·cases hr
def Li(e:Ef):List Nat:=match e.g with|some p=>[p.1]|none=>[]
def Ol(E:CEnv Z)(S:IS)(o:Oper)(rest:List Oper):Bool:=match rest with
 |[]=>(match o.op with
  | .call c=>(match c.callee with
    | .value x=>(match S.ev Z E.nt x with
      | .fn f _=>(match JB E.FM f with|some _=>true|none=>false)
      |_=>false)
    |_=>false)
  |_=>false)
 |_=>false
def xT(E:CEnv Z)(F:Fix)(ops:Array Oper):List Oper→IS→List Ent→(IS→Option R)→Option R
 |[],S,En,k=>bif okB ops.toList En then k S else none
 |o::rest,S,En,k=>match o.guard with
  |none=>bif Ol E S o rest then aW (KP ops.toList En&&okF F) (mC E F S o k none)else Nv E S o (fun e=>aW (nm E.pin F e) (xT E F ops rest (S.lJ e) (En++[((Pf Z E.nt S o).plus [] (Li e),e.wr)]) k))
  |some (j,b)=>(match(ops[j]?).bind (·.dst)with
   |some t=>aW (!(cY t (keys F.sl))) (bif Ha (S.ev Z E.nt (.tmp t))then(match o.dst with|some t' =>aW (!(cY t' (keys F.sl))) (xT E F ops rest (S.set t' (.tup [])) (En++[(⟨[t],[],[]⟩,⟨some t',none,none⟩)]) k)|none=>none)else Ga S Z E.nt t (fun c=>bif c==b then Nv E (S.set t (.bool c)) o (fun e=>aW (nm E.pin F e) (xT E F ops rest ((S.set t (.bool c)).lJ e) (En++[((Pf Z E.nt (S.set t (.bool c)) o).plus [t] (Li e),e.wr)]) k))
     else(match o.dst with|some t' =>aW (!(cY t' (keys F.sl))) (xT E F ops rest ((S.set t (.bool c)).set t' (.tup [])) (En++[(⟨[t],[],[]⟩,⟨some t',none,none⟩)]) k)|none=>none)))
   |none=>none)
theorem JS{E:CEnv Z}(hX:At X Z E.nt){ops:Array Oper}{Q:Exit→St→Prop}{S:IS}{h:Nat→Nat}{o:Oper}{e:Ef}{n:Nat}{gs:List Nat}(hw:Want X (S.aJ h) ops o gs)(he:eS X Z E.nt o S e):
 ops[n]? =some o→O6 X Q ops n (S.aJ h) ((Pf Z E.nt S o).plus gs (Li e)) e.wr (e.vl h):=fun hoi T hT κ sv a w hs=>by
 obtain⟨hT1,hT2,hT3⟩:=qD hT
 unfold wpOpIn
 rw[hoi]
 simp only
 rw[if_pos (pf hw hT2 hs)]
 refine he h T ⟨hX,by rw[LH hX];exact hT1⟩ (fun p hp=> ?_) κ sv a w hs _ _ fun κ' sv' a' w' hs' =>⟨κ',sv',hs'⟩
 exact hT3 p.1 (by simp[Li,hp])
theorem pC{E:CEnv Z}{g0:Nat→Nat}(hX:At X Z E.nt){F:Fix}{ops:Array Oper}{Q:Exit→St→Prop}{k:IS→Option R}(hk:∀h S',Inv E.pin g0 F h S'→k S' =some r→Q .normal (S'.aJ h)):
 ∀(l:List Oper) (S:IS) (En:List Ent) (V:List Vl) (S0:St) (h:Nat→Nat),Inv E.pin g0 F h S→xT E F ops l S En k=some r→WG X Q ops S0 En V l (S.aJ h)
 |[],S,En,V,S0,h,hi,hr=>by
  unfold xT at hr
  cases hb:okB ops.toList En with
  |false=>rw[hb]at hr;cases hr
  |true=>rw[hb]at hr;exact bw hb (hk h S hi hr)
 |o::rest,S,En,V,S0,h,hi,hr=>by
  unfold xT at hr
  split at hr
  ·rename_i hg
   cases hm:Ol E S o rest with
   |true=>
    rw[hm]at hr
    simp only[cond_true]at hr
    obtain⟨hok,hr⟩:=ak hr
    simp only[Bool.and_eq_true]at hok
    have hrest:rest=[]:=by
     unfold Ol at hm
     split at hm
     ·rfl
     ·cases hm
    subst hrest
    rcases Mm hX hok.2 hi hr with hr|⟨S',h1,h2,h3⟩
    ·cases hr
    ·exact K7 hok.1 hg (h3 ops [] Q hg (aG (hk h S' h2 h1)))
   |false=>
   rw[hm]at hr
   simp only[cond_false]at hr
   obtain⟨e,h1,h2⟩:=Dq hX hr
   obtain⟨hp,h1⟩:=ak h1
   exact jo (fD h S e).symm (JS hX (ab hg) h2) (pC hX hk rest _ _ _ _ h (hi.lJ hp) h1)
  ·rename_i j b hg
   split at hr
   ·rename_i t hj
    replace hr:=ak hr
    obtain⟨ht,hr⟩:=hr
    simp only[Bool.not_eq_true']at ht
    cases hu:Ha (S.ev Z E.nt (.tmp t))with
    |true=>
     rw[hu]at hr
     simp only[cond_true]at hr
     split at hr
     ·rename_i t' hd
      obtain⟨ht',hr⟩:=ak hr
      simp only[Bool.not_eq_true']at ht'
      refine Oy hg hj (by rw[dI hX,E3 hu];rfl) hd ?_
      have:=pC hX hk rest (S.set t' (.tup [])) _ (V++[⟨.tup [],0, .none⟩]) S0 h (hi.set ht' _) hr
      rw[gJ]at this
      exact this
     ·cases hr
    |false=>
    rw[hu]at hr
    simp only[cond_false]at hr
    replace hr:=Fp hr
    obtain⟨c,hc,hr⟩:=hr
    have hev:∀h,((S.set t (.bool c)).aJ h).ev X (.tmp t)= .bool c:=fun h=>by rw[rz hX hc,dI hX,hc];rfl
    rw[←rz hX hc]
    cases hcb:c==b with
    |true=>
     rw[hcb]at hr
     have hcb:c=b:=by simpa using hcb
     subst hcb
     obtain⟨e,h1,h2⟩:=Dq hX hr
     obtain⟨hp,h1⟩:=ak h1
     exact jo (fD h _ e).symm (JS hX (ae hg hj (hev h)) h2) (pC hX hk rest _ _ _ _ h ((hi.set ht _).lJ hp) h1)
    |false=>
     rw[hcb]at hr
     simp only[cond_false]at hr
     split at hr
     ·rename_i t' hd
      obtain⟨ht',hr⟩:=ak hr
      simp only[Bool.not_eq_true']at ht'
      refine M6 hg hj (hev h) hcb hd ?_
      have:=pC hX hk rest ((S.set t (.bool c)).set t' (.tup [])) _ (V++[⟨.tup [],0, .none⟩]) S0 h ((hi.set ht _).set ht' _) hr
      rw[gJ]at this
      exact this
     ·cases hr
   ·cases hr
def iter{α:Type}(F:α→(α→Option R)→Option R)(n:Nat):α→Option R:=
 Nat.rec (motive:=fun _=>α→Option R) (fun _=>none) (fun _ ih a=>F a ih) n
def xZ:Nat:=18446744073709551616
abbrev It(R:Type):=(α:Type)→(α→(α→Option R)→Option R)→α→Option R
def cS:It R:=fun _ F=>iter F xZ
structure BE where
 K:mT
 cs:List Nat
 cp:List Nat
 gd:List (Nat×Nat)
structure dC (Z:ISeat) extends CEnv Z where
 lp:List (Nat×BE)
def zl:Code→Nat
 | .region id _ _=>id
 | .block id _=>id+500000
 | .seq a _=>zl a
 | .cond _ a _=>zl a
 | .loop b=>zl b
 |_=>0
def find{α:Type}:List (Nat×α)→Nat→Option α
 |[],_=>none
 |(i,a)::l,j=>bif Nat.beq j i then some a else find l j
def QK(S:IS):List (Nat×Nat)→Bool
 |[]=>true
 |(t,p)::l=>(match S.get t with| .os s _=>Nat.beq s p|_=>false)&&QK S l
def F7:List (Nat×BE)→Nat→IS→Option BE
 |[],_,_=>none
 |(i,L)::l,j,S=>bif Nat.beq j i&&QK S L.gd then some L else F7 l j S
def Ri(id:Nat)(kn:IS→Option R)(kx:Option Nat→IS→Option R)(e:Option Nat)(S:IS):Option R:=match e with
 |some i=>bif Nat.beq i id then kn S else kx (some i) S
 |none=>kx none S
def Iw(S:IS)(F:List (Nat×I)):List Nat→Option (List (Nat×I))
 |[]=>some F
 |i::l=>bif iS (S.get i)then(match Iw S F l with|some r=>some ((i,S.get i)::r)|none=>none)else none
def HT(S:IS)(F:List (Nat×IOwn)):List Nat→Option (List (Nat×IOwn))
 |[]=>some F
 |i::l=>bif m5 (S.own i)then(match HT S F l with|some r=>some ((i,S.own i)::r)|none=>none)else none
theorem FY{S:IS}{F:List (Nat×I)}(hF:∀p∈F,S.get p.1=p.2∧iS p.2=true):∀{l:List Nat} {r:List (Nat×I)},Iw S F l=some r→(∀p∈r,S.get p.1=p.2∧iS p.2=true)∧∀p∈F,p∈r
 |[],r,h=>by simp only[Iw,Option.some.injEq]at h;subst h;exact⟨hF,fun p hp=>hp⟩
 |i::l,r,h=>by
  simp only[Iw]at h
  cases hn:iS (S.get i)with
  |false=>rw[hn]at h;cases h
  |true=>
   rw[hn]at h
   simp only[cond_true]at h
   split at h
   ·rename_i r' hr'
    simp only[Option.some.injEq]at h
    subst h
    obtain⟨h1,h2⟩:=FY hF hr'
    refine⟨fun p hp=> ?_,fun p hp=>List.mem_cons_of_mem _ (h2 p hp)⟩
    rcases List.mem_cons.1 hp with rfl|hp
    ·exact⟨rfl,hn⟩
    ·exact h1 p hp
   ·cases h
theorem Gp{S:IS}{F:List (Nat×IOwn)}(hF:∀p∈F,S.own p.1=p.2)(hr0:∀p∈F,m5 p.2=true):∀{l:List Nat} {r:List (Nat×IOwn)},HT S F l=some r→(∀p∈r,S.own p.1=p.2∧m5 p.2=true)∧∀p∈F,p∈r
 |[],r,h=>by simp only[HT,Option.some.injEq]at h;subst h;exact⟨fun p hp=>⟨hF p hp,hr0 p hp⟩,fun p hp=>hp⟩
 |i::l,r,h=>by
  simp only[HT]at h
  cases hn:m5 (S.own i)with
  |false=>rw[hn]at h;cases h
  |true=>
   rw[hn]at h
   simp only[cond_true]at h
   split at h
   ·rename_i r' hr'
    simp only[Option.some.injEq]at h
    subst h
    obtain⟨h1,h2⟩:=Gp hF hr0 hr'
    refine⟨fun p hp=> ?_,fun p hp=>List.mem_cons_of_mem _ (h2 p hp)⟩
    rcases List.mem_cons.1 hp with rfl|hp
    ·exact⟨rfl,hn⟩
    ·exact h1 p hp
   ·cases h
theorem BY:∀{l:List (Nat×IOwn)},(∀p∈l,m5 p.2=true)→uC l=true
 |[],_=>rfl
 |(i,o)::l,h=>by
  simp only[uC,Bool.and_eq_true]
  exact⟨h (i,o) (List.mem_cons_self ..),BY fun p hp=>h p (List.mem_cons_of_mem _ hp)⟩
def JC(F:Fix)(L:BE)(S:IS):Option Fix:=match Iw S F.sl L.cs with
 |some a=>(match HT S F.pl L.cp with|some b=>some ⟨a,b⟩|none=>none)
 |none=>none
def kc(K:mT)(F:Fix)(v:K.V):IS:=⟨iL K.sl v.1++F.sl,[],(zd K.bx v.2++(jT K.sl v.1++Hv K.bx v.2))++F.pl⟩
def ED(a:List Nat):List Nat→Bool
 |[]=>true
 |i::l=> !(cY i a)&&ED a l
def vS(S:IS):List (Nat×Sh)→List Nat
 |[]=>[]
 |(i, .v _)::l=>nA (S.get i)++vS S l
 |_::l=>vS S l
def vC:List Sh→List I→List Nat
 | .v _::l,d::ds=>nA d++vC l ds
 |_::l,_::ds=>vC l ds
 |_,_=>[]
def vB(S:IS):List (Nat×List Sh)→List Nat
 |[]=>[]
 |(i,c)::l=>(match S.own i with| .box ds=>vC c ds|_=>[])++vB S l
def E9(K:mT)(S:IS):List Nat:=uF (Fy S K.sl++E8 S K.bx)
def Ny(p:List Nat)(F:Fix)(K:mT)(S:IS):Option K.V:=
 sQ F S (dZ S (vS S K.sl++vB S K.bx)) fun S=>aW (ED p (E9 K S)&&ED (keys F.pl) (E9 K S)) (ML K S)
theorem o6{a:List Nat}:∀{l:List Nat},ED a l=true→∀i∈l,cY i a=false
 |i::l,h,j,hj=>by
  simp only[ED,Bool.and_eq_true,Bool.not_eq_true']at h
  rcases List.mem_cons.1 hj with rfl|hj
  ·exact h.1
  ·exact o6 h.2 j hj
theorem jA{α:Type}{e:α}{l m:List (Nat×α)}{j:Nat}:(j∈keys l→look e (l++m) j=look e l j)∧(j∉keys l→look e (l++m) j=look e m j):=by
 induction l with
 |nil=>exact⟨fun h=>(nomatch h),fun _=>rfl⟩
 |cons p l ih=>
  obtain⟨i,a⟩:=p
  simp only[keys,List.mem_cons,not_or,List.cons_append,look]
  cases hb:Nat.beq j i with
  |true=>have:=Nat.eq_of_beq_eq_true hb;subst this;exact⟨fun _=>rfl,fun h=>absurd rfl h.1⟩
  |false=>
   have hne:j≠i:=fun e=>by rw[e,Nat.beq_refl]at hb;cases hb
   exact⟨fun h=>ih.1 (h.resolve_left hne),fun h=>ih.2 h.2⟩
theorem sO{α:Type}{e:α}{l:List (Nat×α)}{j:Nat}(h:j∉keys l):look e l j=e:=by
 have:=(jA (e:=e) (l:=l) (m:=[]) (j:=j)).2 h
 rw[List.append_nil]at this
 exact this
theorem kP{α:Type}{e:α}:∀{l:List (Nat×α)} {j:Nat},j∈keys l→∃a,(j,a)∈l∧look e l j=a
 |(i,a)::l,j,h=>by
  simp only[look]
  cases hb:Nat.beq j i with
  |true=>have:=Nat.eq_of_beq_eq_true hb;subst this;exact⟨a,List.mem_cons_self ..,rfl⟩
  |false=>
   have hne:j≠i:=fun e=>by rw[e,Nat.beq_refl]at hb;cases hb
   rcases List.mem_cons.1 h with h|h
   ·exact absurd h hne
   ·obtain⟨b,h1,h2⟩:=kP (e:=e) h
    exact⟨b,List.mem_cons_of_mem _ h1,h2⟩
theorem ID(h h' :Nat→Nat){o:IOwn}(hn:m5 o=true):o.bq h=o.bq h' :=by
 cases o with
 |none=>rfl
 |arrp=>cases hn
 |arr=>rfl
 |mp=>rfl
 |box l=>simp only[IOwn.bq,kL h h' l hn]
theorem yV:∀(no:List (Nat×TypeId×T)) (S:IS) (i:Nat),i∉uF no→(renew S no).own i=S.own i
 |[],S,i,_=>rfl
 |(s,E,t)::no,S,i,h=>by
  simp only[uF,List.mem_cons,not_or]at h
  show(renew _ no).own i=_
  rw[yV no _ i h.2]
  exact ey h.1
def Oz(K:mT)(v:K.V):List Nat:=keys (zd K.bx v.2++(jT K.sl v.1++Hv K.bx v.2))
def Ng(K:mT)(F:Fix)(v:K.V):Bool:=ED (keys F.sl) (keys (iL K.sl v.1))&&ED (keys F.pl) (Oz K v)
def Sk(K:mT)(S:IS)(h:Nat→Nat):Nat→Nat:=hN h (renew (qS S (dZ S (vS S K.sl++vB S K.bx))) (Fy (qS S (dZ S (vS S K.sl++vB S K.bx))) K.sl++E8 (qS S (dZ S (vS S K.sl++vB S K.bx))) K.bx))
theorem AP(hX:x7 X){p:List Nat}{g0:Nat→Nat}{F:Fix}(hF:okF F=true){K:mT}{S:IS}{v:K.V}(hd:Ny p F K S=some v)(hs:Ng K F v=true){h:Nat→Nat}(hi:Inv p g0 F h S):∃h',h' =Sk K S h∧Wk X (S.aJ h) ((kc K F v).aJ h')∧Inv p g0 F h' (kc K F v):=by
 unfold Ny sQ at hd
 obtain⟨hfz,hd⟩:=ak hd
 have hi1:=hi.qS hF hfz
 have hw0:=lF (X:=X) (h:=h) (dZ S (vS S K.sl++vB S K.bx)) S (xh hX hfz)
 have hpf:Sk K S h=hN h (renew (qS S (dZ S (vS S K.sl++vB S K.bx))) (Fy (qS S (dZ S (vS S K.sl++vB S K.bx))) K.sl++E8 (qS S (dZ S (vS S K.sl++vB S K.bx))) K.bx)):=rfl
 generalize qS S (dZ S (vS S K.sl++vB S K.bx))=S1 at hd hi1 hw0 hpf
 obtain⟨hp,hd⟩:=ak hd
 simp only[Bool.and_eq_true]at hp
 obtain⟨hp1,hp2⟩:=hp
 simp only[Ng,Bool.and_eq_true]at hs
 obtain⟨s1,s2⟩:=hs
 obtain⟨h',hh',hw,hh0⟩:=HR (X:=X) hd h
 have hfs:∀q∈F.sl,(kc K F v).get q.1=q.2:=fun q hq=>by
  have hnk:q.1∉keys (iL K.sl v.1):=fun hm=>by
   have:=o6 s1 _ hm
   rw[cu.2 (fF hq)]at this;cases this
  show look .undef (iL K.sl v.1++F.sl) q.1=_
  rw[jA.2 hnk]
  obtain⟨a,h1,h2⟩:=kP (e:=I.undef) (fF hq)
  have c1:S1.get q.1=a:=(hi1.2.1 (q.1,a) h1).1
  rw[h2,←c1]
  exact(hi1.2.1 q hq).1
 have hfp:∀q∈F.pl,(kc K F v).own q.1=q.2:=fun q hq=>by
  have hnk:q.1∉Oz K v:=fun hm=>by
   have:=o6 s2 _ hm
   rw[cu.2 (fF hq)]at this;cases this
  show look .none (_++F.pl) q.1=_
  rw[jA.2 hnk]
  obtain⟨a,h1,h2⟩:=kP (e:=IOwn.none) (fF hq)
  have c1:S1.own q.1=a:=hi1.2.2 (q.1,a) h1
  rw[h2,←c1]
  exact hi1.2.2 q hq
 refine⟨h',hh'.trans hpf.symm,hw0.trans (hw (kc K F v) rfl ?_ ?_),fun g hg=> ?_,fun q hq=>⟨hfs q hq,(hi.2.1 q hq).2⟩,hfp⟩
 ·intro κ γ sv i x hr hcv
  by_cases hk:i∈keys (iL K.sl v.1)
  ·have e1:(kc K F v).get i=look .undef (iL K.sl v.1) i:=jA.1 hk
   rw[e1];exact hcv
  ·by_cases hk2:i∈keys F.sl
   ·have e1:(kc K F v).get i=look .undef F.sl i:=jA.2 hk
    obtain⟨a,h1,h2⟩:=kP (e:=I.undef) hk2
    obtain⟨c1,c2⟩:=hi1.2.1 (i,a) h1
    simp only at c1
    rw[e1,h2]
    rw[c1,lk h h' a c2]at hr
    exact hr
   ·have e1:(kc K F v).get i=look .undef F.sl i:=jA.2 hk
    rw[e1,sO hk2];exact .undef _
 ·intro κ γ sv s hcv
  by_cases hk:s∈Oz K v
  ·have e1:(kc K F v).own s=look .none (zd K.bx v.2++(jT K.sl v.1++Hv K.bx v.2)) s:=jA.1 hk
   rw[e1];exact hcv
  ·have e1:(kc K F v).own s=look .none F.pl s:=jA.2 hk
   by_cases hk2:s∈keys F.pl
   ·obtain⟨a,h1,h2⟩:=kP (e:=IOwn.none) hk2
    have c1:=hi1.2.2 (s,a) h1
    simp only at c1
    have hns:s∉uF (Fy S1 K.sl++E8 S1 K.bx):=fun hm=>by
     have:=o6 hp2 _ hm
     rw[cu.2 hk2]at this;cases this
    rw[e1,h2,yV _ _ _ hns,c1,ID h h' (pI hF (s,a) h1)]
    exact .same _
   ·rw[e1,sO hk2];exact .none _
 ·have:=hi1.1 g hg
  have hn:cY g (E9 K S1)=false:=by
   cases hm:cY g (E9 K S1)with
   |false=>rfl
   |true=>have:=o6 hp1 g (cu.1 hm);rw[cu.2 hg]at this;cases this
  have e:=hh0 g hn
  rw[←this,←e];rfl
def KW(S:IS)(i q:Nat)(o:IOwn):Ef:=⟨some i, .os q (S.gen q+1),some (q,S.gen q+1),some (q,o)⟩
def LG(p:Nat):Ef:=⟨none, .undef,none,some (p, .none)⟩
def GM(pin:List Nat)(F:Fix):List (Nat×Sh)→IS→(IS→Option R)→Option R
 |[],S,k=>k S
 |(i, .os q _ _)::l,S,k=>(match S.get i with
  | .os p g=>bif Nat.beq p q then GM pin F l S k else(match S.own p with
    | .arr E e m=>aW (Nat.beq g (S.gen p)&&Nat.blt p XB&&Nat.blt q XB&&nm pin F (KW S i q (.arr E e m))&&nm pin F (LG p)) (GM pin F l ((S.lJ (KW S i q (.arr E e m))).lJ (LG p)) k)
    |_=>GM pin F l S k)
  |_=>GM pin F l S k)
 |(i, .vn _)::l,S,k=>(match S.get i with
  | .os s _=>sQ F S (dZ S [s]) (fun S' =>match S'.get i with
    | .sl t m=>aW (!(cY i (keys F.sl))) (aW (!m.isEmpty) (GM pin F l (S'.set i (.nsl t m)) k))
    |_=>none)
  | .sl t m=>aW (!(cY i (keys F.sl))) (aW (!m.isEmpty) (GM pin F l (S.set i (.nsl t m)) k))
  |_=>GM pin F l S k)
 |_::l,S,k=>GM pin F l S k
theorem J2{h:Nat→Nat}{S:IS}{i:Nat}{t:T}{m:List (den t)}(hg:S.get i= .sl t m)(hm:(!m.isEmpty)=true):Wk X (S.aJ h) ((S.set i (.nsl t m)).aJ h):=by
 have e:(S.set i (.nsl t m)).aJ h=S.aJ h:=by
  rw[gJ]
  unfold St.set
  have:bM (S.aJ h).ρ i ((I.nsl t m).bV h)=(S.aJ h).ρ:=by
   funext j
   by_cases e:j=i
   ·subst e
    rw[aj]
    show O5 t m=(S.get j).bV h
    rw[hg]
    cases m with
    |nil=>cases hm
    |cons=>rfl
   ·rw[bg _ _ _ _ e]
  rw[this]
 rw[e]
 exact Wk.refl _ _
theorem Oe{X:Ctx}(hX:x7 X){h:Nat→Nat}{S:IS}{i p q g E:Nat}{e:T}{m:List (den e)}(hg:S.get i= .os p g)(hgen:g=S.gen p)(hne:p≠q)(hσ:S.own p= .arr E e m)(hp:p<XB)(hq:q<XB):
 Wk X (S.aJ h) (((S.lJ (KW S i q (.arr E e m))).lJ (LG p)).aJ h):=by
 have hxp:X.xa p=false:=by
  cases hh:X.xa p with
  |false=>rfl
  |true=>exact absurd (hX p hh) (by omega)
 have hxq:X.xa q=false:=by
  cases hh:X.xa q with
  |false=>rfl
  |true=>exact absurd (hX q hh) (by omega)
 have key:=O9 (X:=X) (S:=S.aJ h) (t:=i) (p:=p) (q:=q) (g:=h p+g) (E:=E) (z:=sz e) (n:=m.length) (f:=fun i=>dk e (m.getD i (dD e))) hne (by show(S.get i).bV h=_;rw[hg];rfl) (by show h p+S.gen p=_;rw[hgen]) (by show(S.own p).bq h=_;rw[hσ];rfl) hxp hxq
 have e:(((S.lJ (KW S i q (.arr E e m))).lJ (LG p)).aJ h)=⟨bM (S.aJ h).ρ i (.os q ((S.aJ h).γ q+1)),bM (S.aJ h).γ q ((S.aJ h).γ q+1),bM (bM (S.aJ h).σ q (.arr E (sz e) m.length fun i=>dk e (m.getD i (dD e)))) p .none⟩:=by
  rw[fD,fD]
  rfl
 rw[e]
 exact key
theorem ti{p:List Nat}{g0:Nat→Nat}{F:Fix}(hF:okF F=true){h:Nat→Nat}{k:IS→Option R}:∀(l:List (Nat×Sh)) (S:IS),Inv p g0 F h S→GM p F l S k=some r→∃S',k S' =some r∧(∀X:Ctx,x7 X→Wk X (S.aJ h) (S'.aJ h))∧Inv p g0 F h S'
 |[],S,hi,hr=>⟨S,hr,fun X _=>Wk.refl _ _,hi⟩
 |(i,sh)::l,S,hi,hr=>by
  have key:GM p F l S k=some r→∃S',k S' =some r∧(∀X:Ctx,x7 X→Wk X (S.aJ h) (S'.aJ h))∧Inv p g0 F h S' :=fun hr=>ti hF l S hi hr
  cases sh with
  |os q E0 t0=>
   simp only[GM]at hr
   split at hr
   ·rename_i p1 g hg
    cases hb:Nat.beq p1 q with
    |true=>rw[hb]at hr;exact key hr
    |false=>
     rw[hb]at hr
     simp only[cond_false]at hr
     split at hr
     ·rename_i E e m hσ
      obtain⟨hc,hr⟩:=ak hr
      simp only[Bool.and_eq_true]at hc
      obtain⟨⟨⟨⟨c1,c2⟩,c3⟩,c4⟩,c5⟩:=hc
      obtain⟨S',h1,h2,h3⟩:=ti hF l _ ((hi.lJ c4).lJ c5) hr
      exact⟨S',h1,fun X hX=>(Oe hX hg (Nat.eq_of_beq_eq_true c1) (fun e=>by rw[e,Nat.beq_refl]at hb;cases hb) hσ (by have:=Nat.blt_eq.mp c2;omega) (by have:=Nat.blt_eq.mp c3;omega)).trans (h2 X hX),h3⟩
     ·exact key hr
   ·exact key hr
  |vn t0=>
   simp only[GM]at hr
   split at hr
   ·rename_i s g hg
    unfold sQ at hr
    obtain⟨hfz,hr⟩:=ak hr
    have hi1:=hi.qS hF hfz
    simp only at hr
    split at hr
    ·rename_i t m hg2
     obtain⟨hk,hr⟩:=ak hr
     obtain⟨hm,hr⟩:=ak hr
     obtain⟨S',h1,h2,h3⟩:=ti hF l _ (hi1.set (by simpa using hk) _) hr
     exact⟨S',h1,fun X hX=>((lF _ S (xh hX hfz)).trans (J2 hg2 hm)).trans (h2 X hX),h3⟩
    ·cases hr
   ·rename_i t m hg
    obtain⟨hk,hr⟩:=ak hr
    obtain⟨hm,hr⟩:=ak hr
    obtain⟨S',h1,h2,h3⟩:=ti hF l _ (hi.set (by simpa using hk) _) hr
    exact⟨S',h1,fun X hX=>(J2 hg hm).trans (h2 X hX),h3⟩
   ·exact key hr
  |_=>exact key hr
def lT(p:List Nat)(F:Fix)(K:mT)(k:K.V→Option R)(S:IS):Option R:=GM p F K.sl S fun S=>match Ny p F K S with
 |some v=>(match Ng K F v with|true=>k v|false=>none)
 |none=>none
def Bs(S:IS):List Nat→List I→IS
 |t::ts,d::ds=>Bs (S.set t d) ts ds
 |_,_=>S
def oi:List (Nat×Sh)→Bool
 |[]=>true
 |(_, .bx _ _)::l=>oi l
 |_=>false
def wC:List (Nat×Sh)→List Nat
 |[]=>[]
 |(_, .bx s _)::l=>s::wC l
 |_::l=>wC l
def ld(F:Fix):List Nat→Bool
 |[]=>true
 |t::l=> !(cY t (keys F.sl))&&ld F l
def dC.inner(E:dC Z)(K:mT):dC Z:={E with rf:=false,pin:=wC K.sl++E.pin}
def NK:List (Nat×Sh)→IS→List (Nat×I)
 |(i, .bx s o)::l,S=>(i, .bx s (S.gen s) o)::NK l S
 |_,_=>[]
def nY(K:mT)(F:Fix)(S:IS):IS:=⟨NK K.sl S++F.sl,S.gs,S.os⟩
def Mn:List I→Nat→Option Nat
 |[],_=>none
 | .os _ _::_,j=>some j
 |_::l,j=>Mn l (j+1)
def z3(F:Fix)(S:IS)(p:Nat)(k:IS→Option R):Option R:=match S.own p with
 | .arrp E t l i row=>(match Mn row 0 with
   |some j=>(match nth row j with
    |some (.os s g)=>(match S.own s with
     | .arr _ e m=>(match eP row j [.sl e m]with
       |some row' =>(match fM t row' with
        |some x=>aW (Nat.beq g (S.gen s)&& !(Nat.beq p s)&&jx row' && !(cY p (keys F.pl))&& !(cY s (keys F.pl))&&Nat.blt s XB) (aW (decide (i<l.length)) (k ⟨S.rs,S.gs,(p, .arr E t (l.set i x))::(s, .none)::S.os⟩))
        |none=>none)
       |none=>none)
     |_=>none)
    |_=>none)
   |none=>none)
 |_=>k S
def z8(F:Fix):List Nat→IS→(IS→Option R)→Option R
 |[],S,k=>k S
 |p::l,S,k=>z3 F S p (fun S' =>z8 F l S' k)
def settle(F:Fix)(k:IS→Option R)(S:IS):Option R:=z8 F (keys S.os) S k
theorem DH{F:Fix}{S:IS}{p:Nat}{k:IS→Option R}{h:Nat→Nat}(hr:z3 F S p k=some r):∃S',k S' =some r∧(∀X:Ctx,x7 X→Wk X (S.aJ h) (S'.aJ h))∧∀q g0,Inv q g0 F h S→Inv q g0 F h S' :=by
 unfold z3 at hr
 split at hr
 ·rename_i E t l i row hp
  split at hr
  ·rename_i j _
   split at hr
   ·rename_i s g hj
    split at hr
    ·rename_i E' e m hs
     split at hr
     ·rename_i row' hrow
      split at hr
      ·rename_i x hx
       obtain⟨hc,hr⟩:=ak hr
       obtain⟨hi,hr⟩:=ak hr
       simp only[Bool.and_eq_true,Bool.not_eq_true',decide_eq_true_eq]at hc hi
       obtain⟨⟨⟨⟨⟨c1,c2⟩,c3⟩,c4⟩,c5⟩,c6⟩:=hc
       have e1:=Nat.eq_of_beq_eq_true c1
       have hrx:=jH (cL t hx) c3
       refine⟨_,hr,fun X hxa=> ?_,fun q g0 hi' =>⟨hi'.1,hi'.2.1,fun w hw=> ?_⟩⟩
       ·have h1:(S.aJ h).σ p= .arr E (sz t) l.length (oP (fun i=>dk t (l.getD i (dD t))) i (I.ao h row)):=by
         show(S.own p).bq h=_
         rw[hp];rfl
        have h2:(S.aJ h).σ s= .arr E' (sz e) m.length (fun i=>dk e (m.getD i (dD e))):=by
         show(S.own s).bq h=_
         rw[hs];rfl
        have h3:(S.aJ h).γ s=h s+g:=by
         show h s+S.gen s=_
         rw[e1]
        have hw:=oF (X:=X) (S:=S.aJ h) p i j (g:=h s+g) (f2' :=fun k=>dk t ((l.set i x).getD k (dD t))) h1 c2 hi (tG _ _ _) (iM h hj) h3 h2 (l' :=I.ao h row') (kT h hrow) (fun k hk=>by
         by_cases e2:k=i
         ·subst e2
          rw[if_pos rfl,List.getD_eq_getElem?_getD,List.getElem?_set_self hi,hrx,aT];rfl
         ·rw[if_neg e2,A1 _ _ e2,List.getD_eq_getElem?_getD,List.getD_eq_getElem?_getD,List.getElem?_set_ne (fun h=>e2 h.symm)]) (by
         cases hx2:X.xa s with
         |false=>rfl
         |true=>have:=hxa s hx2;rw[Nat.blt_eq]at c6;omega)
        have e3:(⟨(S.aJ h).ρ,(S.aJ h).γ,bM (bM (S.aJ h).σ s .none) p (.arr E (sz t) l.length (fun k=>dk t ((l.set i x).getD k (dD t))))⟩:St)=IS.aJ h ⟨S.rs,S.gs,(p, .arr E t (l.set i x))::(s, .none)::S.os⟩:=by
         unfold IS.aJ
         congr 1
         funext q
         show _=(look .none ((p, .arr E t (l.set i x))::(s, .none)::S.os) q).bq h
         simp only[look,bM]
         cases Nat.beq q p with
         |true=>simp only[cond_true,IOwn.bq,List.length_set]
         |false=>cases Nat.beq q s<;>rfl
        rw[e3]at hw
        exact hw
       ·have:=hi'.2.2 w hw
        have hne:∀a,cY a (keys F.pl)=false→w.1≠a:=fun a ha e=>by
         have h5:=cu.2 (fF hw)
         rw[e,ha]at h5;cases h5
        show look .none ((p,_)::(s, .none)::S.os) w.1=_
        rw[ey (hne p c4),ey (hne s c5)]
        exact this
      ·cases hr
     ·cases hr
    ·cases hr
   ·cases hr
  ·cases hr
 ·exact⟨S,hr,fun X _=>Wk.refl _ _,fun _ _ h=>h⟩
theorem qv{F:Fix}{h:Nat→Nat}{k:IS→Option R}:∀{l:List Nat} {S:IS},z8 F l S k=some r→∃S',k S' =some r∧(∀X:Ctx,x7 X→Wk X (S.aJ h) (S'.aJ h))∧∀q g0,Inv q g0 F h S→Inv q g0 F h S'
 |[],S,hr=>⟨S,hr,fun X _=>Wk.refl _ _,fun _ _ h=>h⟩
 |p::l,S,hr=>by
  obtain⟨S1,h1,h2,h3⟩:=DH (h:=h) hr
  obtain⟨S2,h4,h5,h6⟩:=qv (h:=h) h1
  exact⟨S2,h4,fun X hx=>(h2 X hx).trans (h5 X hx),fun q g0 hi=>h6 q g0 (h3 q g0 hi)⟩
theorem Kd{X:Ctx}{c:Code}{Q Q' :Exit→St→Prop}{S:St}(hc:W X c Q' S)(hq:∀e T,Q' e T→∃T',Wk X T T'∧Q e T'):W X c Q S:=fun κ sv a w hs=>by
 refine wpIn_mono (hc κ sv a w hs) ?_
 rintro e a' W' ⟨κ',sv',S',h1,h2⟩
 obtain⟨T',hw,hq'⟩:=hq e S' h2
 obtain⟨κ2,sv2,h3⟩:=hw κ' sv' a' W' h1
 exact⟨κ2,sv2,T',h3,hq'⟩
def KF(E:dC Z)(id:Nat)(F:Fix)(S:IS)(k:IS→Option R):Option R:=match find E.lp (1000000+id)with
 |some L=>sQ F S L.cp k
 |none=>k S
theorem LF{p:List Nat}{g0:Nat→Nat}{E:dC Z}{nt:Nat}(hX:At X Z nt){id:Nat}{F:Fix}{S:IS}{k:IS→Option R}{h:Nat→Nat}(hF:okF F=true)(hi:Inv p g0 F h S)(hr:KF E id F S k=some r):
 ∃S',k S' =some r∧Wk X (S.aJ h) (S'.aJ h)∧Inv p g0 F h S' :=by
 unfold KF at hr
 split at hr
 ·unfold sQ at hr
  obtain⟨hz,hr⟩:=ak hr
  exact⟨_,hr,lF _ _ (xh hX.xa hz),hi.qS hF hz⟩
 ·exact⟨S,hr,Wk.refl _ _,hi⟩
def jN(it:It R):dC Z→Code→Fix→IS→(IS→Option R)→(Option Nat→IS→Option R)→Option R
 |_, .skip,_,S,kn,_=>kn S
 |E, .region id ops draw,F,S,kn,_=>bif draw then KF E id F S (fun S' =>xT E.toCEnv F ops ops.toList S' [] (settle F kn))else rl E.toCEnv F ops ops.toList S kn
 |E, .seq a b,F,S,kn,kx=>jN it E a F S (fun S' =>jN it E b F S' kn kx) kx
 |E, .cond c a b,F,S,kn,kx=>(match S.ev Z E.nt c with
  | .bool v=>bif v then jN it E a F S kn kx else jN it E b F S kn kx
  |_=>none)
 |E, .block id b,F,S,kn,kx=>jN it E b F S kn (Ri id kn kx)
 |_, .exit id,_,S,_,kx=>kx (some id) S
 |_, .ret,_,S,_,kx=>kx none S
 |E, .scope b,F,S,kn,kx=>jN it E b F S kn kx
 |_, .label _,_,S,kn,_=>kn S
 |E, .loop b,F,S,_,kx=>(match F7 E.lp (zl b) S with
  |some L=>(match JC F L S with
   |some F' =>lT E.pin F' L.K (it L.K.V (fun v kn=>jN it E b F' (kc L.K F' v) (lT E.pin F' L.K kn) kx)) S
   |none=>none)
  |none=>it IS (fun S kn=>jN it E b F S kn kx) S)
 |E, .rangeFunc g ps assign body,F,S,kn,kx=>aW E.rf (match F7 E.lp (zl assign) S with
  |some L=>(match JC F L S with
   |some F' =>lT E.pin F' L.K (fun v=>(match(kc L.K F' v).ev Z E.nt g with
    | .fn gf cap=>(match Fg E.FI gf with
      |some sp=>aW (oi L.K.sl&&Nat.beq ps.toList.length sp.its.length&&ld F' ps.toList&&ld F' (keys L.K.sl)) (sp.app cap (fun items=>it (L.K.V×List (dB sp.its)) (fun x kn' =>match x.2 with
       |[]=>kn (kc L.K F' x.1)
       |a::l=>jN it (E.inner L.K) assign F' (Bs (kc L.K F' x.1) ps.toList (b6 sp.its a)) (fun S1=>jN it (E.inner L.K) body F' S1 (lT (E.inner L.K).pin F' L.K (fun v' =>kn' (v',l))) (fun c S2=>kx c (nY L.K F' S2))) (fun _ _=>none)) (v,items)))
      |none=>none)
    |_=>none)) S
   |none=>none)
  |none=>none)
 |_,_,_,_,_,_=>none
def PQ(p:List Nat)(g0:Nat→Nat)(F:Fix)(kn:IS→Option R)(kx:Option Nat→IS→Option R)(r:R):Exit→St→Prop:=fun e T=>∃h S,T=S.aJ h∧Inv p g0 F h S∧match e with
 | .normal=>kn S=some r
 | .exit i=>kx (some i) S=some r
 | .ret=>kx none S=some r
 |_=>False
theorem Fj{α:Type}{b:Code}{Q:Exit→St→Prop}(P:(Nat→Nat)→α→Prop)(G:α→(α→Option R)→Option R)(st:α→IS)(hb:∀v kn h,P h v→G v kn=some r→W X b (fun e T=>match e with| .normal=>∃v' h',P h' v'∧kn v' =some r∧Wk X T ((st v').aJ h')|e=>Q e T) ((st v).aJ h)):
 ∀(n:Nat) (v:α) (h:Nat→Nat),P h v→iter G n v=some r→W X (.loop b) Q ((st v).aJ h):=fun n v h hv hr=>by
 refine DE (α:=Nat×α×(Nat→Nat)) (fun x=>(st x.2.1).aJ x.2.2) (fun x=>P x.2.2 x.2.1∧iter G x.1 x.2.1=some r) (fun x=>x.1) (n,v,h) ⟨hv,hr⟩ (Wk.refl _ _) ?_
 rintro ⟨m,v,h⟩ ⟨hv,hi⟩
 cases m with
 |zero=>cases hi
 |succ m=>
  refine fL (hb v (iter G m) h hv hi) ?_
  intro e T hq
  cases e with
  |normal=>
   obtain⟨v',h',h0,h1,h2⟩:=hq
   exact⟨(m,v',h'),⟨h0,h1⟩,Nat.lt_succ_self _,h2⟩
  |_=>exact hq
theorem Av{p:List Nat}{g0:Nat→Nat}{F F' :Fix}{L:BE}{S:IS}{h:Nat→Nat}(hF:okF F=true)(hi:Inv p g0 F h S)(hF' :JC F L S=some F'):okF F' =true∧O1 F' S∧(∀S',O1 F' S'→O1 F S'):=by
 unfold JC at hF'
 split at hF'
 ·rename_i a ha
  split at hF'
  ·rename_i b' hb
   simp only[Option.some.injEq]at hF'
   subst hF'
   obtain⟨a1,a2⟩:=FY hi.2.1 ha
   obtain⟨b1,b2⟩:=Gp hi.2.2 (pI hF) hb
   exact⟨BY fun p hp=>(b1 p hp).2,⟨a1,fun p hp=>(b1 p hp).1⟩,fun S' hc=>⟨fun p hp=>hc.1 p (a2 p hp),fun p hp=>hc.2 p (b2 p hp)⟩⟩
  ·cases hF'
 ·cases hF'
theorem rn(hX:x7 X){p:List Nat}{g0:Nat→Nat}{F:Fix}(hF:okF F=true){K:mT}{k:K.V→Option R}{S:IS}{h:Nat→Nat}(hi:Inv p g0 F h S)(hr:lT p F K k S=some r):∃v h',k v=some r∧Wk X (S.aJ h) ((kc K F v).aJ h')∧Inv p g0 F h' (kc K F v):=by
 simp only[lT]at hr
 obtain⟨S1,hr,hw1,hi1⟩:=ti hF K.sl S hi hr
 split at hr
 ·rename_i v hv
  split at hr
  case h_2=>cases hr
  rename_i hsep
  obtain⟨h',_,hw,hi'⟩:=AP hX hF hv hsep hi1
  exact⟨v,h',hr,(hw1 X hX).trans hw,hi'⟩
 ·cases hr
theorem yH{X0:Ctx}(hX0:x7 X0){p:List Nat}{g0:Nat→Nat}{F:Fix}(hF:okF F=true){K:mT}{k:K.V→Option R}{S:IS}{h:Nat→Nat}(hi:Inv p g0 F h S)(hr:lT p F K k S=some r):∃v h',k v=some r∧(∀X,x7 X→Wk X (S.aJ h) ((kc K F v).aJ h'))∧Inv p g0 F h' (kc K F v):=by
 simp only[lT]at hr
 obtain⟨S1,hr,hw1,hi1⟩:=ti hF K.sl S hi hr
 split at hr
 ·rename_i v hv
  split at hr
  case h_2=>cases hr
  rename_i hsep
  obtain⟨h',e,_,hi'⟩:=AP hX0 hF hv hsep hi1
  refine⟨v,h',hr,fun X hX=> ?_,hi'⟩
  obtain⟨h2,e2,hw,_⟩:=AP hX hF hv hsep hi1
  rw[e,←e2];exact(hw1 X hX).trans hw
 ·cases hr
theorem Gi:∀{l:List (Nat×Sh)} (x y:xm l),oi l=true→iL l x=iL l y
 |[],_,_,_=>rfl
 |(i, .bx s o)::l,x,y,h=>by
  show(i,I.bx s 0 o)::iL l x.2=(i,I.bx s 0 o)::iL l y.2
  rw[Gi x.2 y.2 h]
 |(i, .v _)::l,x,y,h=>by cases h
 |(i, .os _ _ _)::l,x,y,h=>by cases h
 |(i, .osr _)::l,x,y,h=>by cases h
 |(i, .fnb _ _)::l,x,y,h=>by cases h
 |(i, .fnm _ _)::l,x,y,h=>by cases h
 |(i, .mp _)::l,x,y,h=>by cases h
 |(i, .vn _)::l,x,y,h=>by cases h
 |(i, .nilc)::l,x,y,h=>by cases h
 |(i, .yl _)::l,x,y,h=>by cases h
 |(i, .any)::l,x,y,h=>by cases h
theorem IT{h h' :Nat→Nat}:∀{l:List (Nat×Sh)} (x:xm l) (m:List (Nat×I)),oi l=true→(∀s∈wC l,h s=h' s)→(∀p∈m,iS p.2=true)→∀t,(look .undef (iL l x++m) t).bV h=(look .undef (iL l x++m) t).bV h'
 |[],_,m,_,_,hm,t=>by
  show(look .undef m t).bV h=_
  by_cases hk:t∈keys m
  ·obtain⟨a,h1,h2⟩:=kP (e:=I.undef) hk
   rw[show iL [] _++m=m from rfl,h2]
   exact lk h h' a (hm _ h1)
  ·rw[show iL [] _++m=m from rfl,sO hk];rfl
 |(i, .bx s o)::l,x,m,hb,hs,hm,t=>by
  show(look .undef ((i,I.bx s 0 o)::(iL l x.2++m)) t).bV h=(look .undef ((i,I.bx s 0 o)::(iL l x.2++m)) t).bV h'
  simp only[look]
  cases Nat.beq t i with
  |true=>simp only[cond_true,I.bV,hs s (by simp[wC])]
  |false=>exact IT x.2 m hb (fun s' h' =>hs s' (by simp[wC,h'])) hm t
 |(i, .v _)::l,x,_,h,_,_,_=>by cases h
 |(i, .os _ _ _)::l,x,_,h,_,_,_=>by cases h
 |(i, .osr _)::l,x,_,h,_,_,_=>by cases h
 |(i, .fnb _ _)::l,x,_,h,_,_,_=>by cases h
 |(i, .fnm _ _)::l,x,_,h,_,_,_=>by cases h
 |(i, .mp _)::l,x,_,h,_,_,_=>by cases h
 |(i, .vn _)::l,x,_,h,_,_,_=>by cases h
 |(i, .nilc)::l,x,_,h,_,_,_=>by cases h
 |(i, .yl _)::l,x,_,h,_,_,_=>by cases h
 |(i, .any)::l,x,_,h,_,_,_=>by cases h
theorem GA{K:mT}{F:Fix}{v v2:K.V}{h h2:Nat→Nat}(hb:oi K.sl=true)(hs:∀s∈wC K.sl,h s=h2 s)(hm:∀p∈F.sl,iS p.2=true):((kc K F v2).aJ h2).ρ=((kc K F v).aJ h).ρ:=by
 funext t
 show(look .undef (iL K.sl v2.1++F.sl) t).bV h2=(look .undef (iL K.sl v.1++F.sl) t).bV h
 rw[Gi v2.1 v.1 hb]
 exact(IT v.1 F.sl hb hs hm t).symm
theorem Mk{h h' :Nat→Nat}{S:IS}:∀{l:List (Nat×Sh)} (x:xm l) (m:List (Nat×I)),oi l=true→(∀s∈wC l,h s+S.gen s=h' s)→(∀p∈m,iS p.2=true)→∀t,(look .undef (NK l S++m) t).bV h=(look .undef (iL l x++m) t).bV h'
 |[],_,m,_,_,hm,t=>by
  show(look .undef m t).bV h=_
  by_cases hk:t∈keys m
  ·obtain⟨a,h1,h2⟩:=kP (e:=I.undef) hk
   rw[show iL [] _++m=m from rfl,h2]
   exact lk h h' a (hm _ h1)
  ·rw[show iL [] _++m=m from rfl,sO hk];rfl
 |(i, .bx s o)::l,x,m,hb,hs,hm,t=>by
  show(look .undef ((i,I.bx s (S.gen s) o)::(NK l S++m)) t).bV h=(look .undef ((i,I.bx s 0 o)::(iL l x.2++m)) t).bV h'
  simp only[look]
  cases Nat.beq t i with
  |true=>simp only[cond_true,I.bV,hs s (by simp[wC]),Nat.add_zero]
  |false=>exact Mk x.2 m hb (fun s' h' =>hs s' (by simp[wC,h'])) hm t
 |(i, .v _)::l,x,_,h,_,_,_=>by cases h
 |(i, .os _ _ _)::l,x,_,h,_,_,_=>by cases h
 |(i, .osr _)::l,x,_,h,_,_,_=>by cases h
 |(i, .fnb _ _)::l,x,_,h,_,_,_=>by cases h
 |(i, .fnm _ _)::l,x,_,h,_,_,_=>by cases h
 |(i, .mp _)::l,x,_,h,_,_,_=>by cases h
 |(i, .vn _)::l,x,_,h,_,_,_=>by cases h
 |(i, .nilc)::l,x,_,h,_,_,_=>by cases h
 |(i, .yl _)::l,x,_,h,_,_,_=>by cases h
 |(i, .any)::l,x,_,h,_,_,_=>by cases h
theorem Fq{S:IS}{t:Nat}:∀{l:List (Nat×Sh)} (m:List (Nat×I)),oi l=true→t∉keys l→look .undef (NK l S++m) t=look .undef m t
 |[],m,_,_=>rfl
 |(i, .bx s o)::l,m,hb,ht=>by
  show look .undef ((i,I.bx s (S.gen s) o)::(NK l S++m)) t=_
  rw[ey (fun e=>ht (by simp[keys,e]))]
  exact Fq m hb (fun h=>ht (by simp[keys,h]))
 |(i, .v _)::l,_,h,_=>by cases h
 |(i, .os _ _ _)::l,_,h,_=>by cases h
 |(i, .osr _)::l,_,h,_=>by cases h
 |(i, .fnb _ _)::l,_,h,_=>by cases h
 |(i, .fnm _ _)::l,_,h,_=>by cases h
 |(i, .mp _)::l,_,h,_=>by cases h
 |(i, .vn _)::l,_,h,_=>by cases h
 |(i, .nilc)::l,_,h,_=>by cases h
 |(i, .yl _)::l,_,h,_=>by cases h
 |(i, .any)::l,_,h,_=>by cases h
theorem ET{t:Nat}:∀{l:List (Nat×Sh)} (x:xm l) (m:List (Nat×I)),t∉keys l→look .undef (iL l x++m) t=look .undef m t
 |[],_,m,_=>rfl
 |(i,s)::l,x,m,ht=>by
  show look .undef ((i,Fb s x.1)::(iL l x.2++m)) t=_
  rw[ey (fun e=>ht (by simp[keys,e]))]
  exact ET x.2 m (fun h=>ht (by simp[keys,h]))
theorem uy{F:Fix}:∀{l:List Nat},ld F l=true→∀t∈l,t∉keys F.sl
 |i::l,h,t,ht=>by
  simp only[ld,Bool.and_eq_true,Bool.not_eq_true']at h
  rcases List.mem_cons.1 ht with rfl|ht
  ·intro hk;rw[cu.2 hk]at h;cases h.1
  ·exact uy h.2 t ht
theorem Cz{p pin:List Nat}{g0 h' h2:Nat→Nat}{K:mT}{F:Fix}{v:K.V}{S:IS}(hp:p=wC K.sl++pin)(hb:oi K.sl=true)(hd:ld F (keys K.sl)=true)(hi' :Inv pin g0 F h' (kc K F v))(hi2:Inv p h' F h2 S):
 (⟨((kc K F v).aJ h').ρ,(S.aJ h2).γ,(S.aJ h2).σ⟩:St)=(nY K F S).aJ h2∧Inv pin g0 F h2 (nY K F S):=by
 subst hp
 have hnr:∀p∈F.sl,iS p.2=true:=fun p hp=>(hi'.2.1 p hp).2
 refine⟨?_,fun s hs=> ?_,fun q hq=>⟨?_,hnr q hq⟩,hi2.2.2⟩
 ·have:((kc K F v).aJ h').ρ=((nY K F S).aJ h2).ρ:=by
   funext t
   exact(Mk (S:=S) v.1 F.sl hb (fun s hs=>hi2.1 s (List.mem_append_left _ hs)) hnr t).symm
  rw[this];rfl
 ·have h3:h2 s+S.gen s=h' s:=hi2.1 s (List.mem_append_right _ hs)
  have h4:h' s+0=g0 s:=hi'.1 s hs
  show h2 s+S.gen s=g0 s
  rw[h3];simpa using h4
 ·have hk:q.1∉keys K.sl:=fun h=>uy hd _ h (fF hq)
  have h1:look .undef (iL K.sl v.1++F.sl) q.1=q.2:=(hi'.2.1 q hq).1
  rw[ET _ _ hk]at h1
  show look .undef (NK K.sl S++F.sl) q.1=q.2
  rw[Fq _ hb hk]
  exact h1
theorem yj{h:Nat→Nat}:∀(ts:List Nat) (ds:List I) (S:IS),(Bs S ts ds).aJ h=⟨oL (S.aJ h).ρ ts (I.ao h ds),(S.aJ h).γ,(S.aJ h).σ⟩
 |[],_,S=>rfl
 |t::ts,[],S=>rfl
 |t::ts,d::ds,S=>by
  show(Bs (S.set t d) ts ds).aJ h=_
  rw[yj ts ds,gJ]
  rfl
theorem Cx{p:List Nat}{g0:Nat→Nat}{F:Fix}{h:Nat→Nat}:∀(ts:List Nat) (ds:List I) (S:IS),ld F ts=true→Inv p g0 F h S→Inv p g0 F h (Bs S ts ds)
 |[],_,S,_,hi=>hi
 |t::ts,[],S,_,hi=>hi
 |t::ts,d::ds,S,hn,hi=>by
  simp only[ld,Bool.and_eq_true,Bool.not_eq_true']at hn
  exact Cx ts ds _ hn.2 (hi.set hn.1 d)
theorem mB:∀(ats:List T) (a:dB ats),(b6 ats a).length=ats.length
 |[],_=>rfl
 |t::ats,a=>by simp only[b6,List.length_cons,mB ats]
theorem KA(h h' :Nat→Nat)(t:T)(x:den t):(gy t x).bV h=(gy t x).bV h' :=by
 unfold gy
 cases oN t with
 |true=>simp only[cond_true,I.bV,aT]
 |false=>
  simp only[cond_false]
  split
  ·rename_i d e
   have h1:=aT h t x
   rw[←aT h',e]at h1
   simpa[I.ao]using h1
  ·rfl
theorem pz(h h' :Nat→Nat):∀(ats:List T) (a:dB ats),I.ao h (b6 ats a)=I.ao h' (b6 ats a)
 |[],_=>rfl
 |t::ats,a=>by simp only[b6,I.ao,KA h h' t,pz h h' ats]
def Lx(X:Ctx):Prop:=∃Z nt w0 κ0 ext,X=Ctx.plain Z nt w0 κ0 ext
theorem fX:∀(c:Code) {X:Ctx} {E:dC Z} (_:At X Z E.nt) (_:E.rf=true→Lx X) {g0:Nat→Nat} (F:Fix),okF F=true→∀(S:IS) (kn:IS→Option R) (kx:Option Nat→IS→Option R) (h:Nat→Nat),Inv E.pin g0 F h S→jN cS E c F S kn kx=some r→W X c (PQ E.pin g0 F kn kx r) (S.aJ h)
 | .skip,X,E,hX,hpl,g0,F,hF,S,kn,kx,h,hi,hr=>aS ⟨h,S,rfl,hi,hr⟩
 | .region id ops draw,X,E,hX,hpl,g0,F,hF,S,kn,kx,h,hi,hr=>by
   have e:ops=ops.toList.toArray:=by simp
   cases draw with
   |false=>
    rw[e]
    refine al ?_
    rw[←e]
    exact ir hX hF (fun h S' hi hk=>⟨h,S',rfl,hi,hk⟩) _ S h hi hr
   |true=>
    have hr0:KF E id F S (fun S' =>xT E.toCEnv F ops ops.toList S' [] (settle F kn))=some r:=hr
    obtain⟨S0,hr,hw0,hi0⟩:=LF (X:=X) hX hF hi hr0
    refine qU hw0 ?_
    refine Kd (Q' :=fun e T=>∃h S',T=S'.aJ h∧Inv E.pin g0 F h S'∧e= .normal∧settle F kn S' =some r) ?_ ?_
    ·rw[e]
     refine ay ?_
     rw[←e]
     exact pC hX (fun h S' hi hk=>⟨h,S',rfl,hi,rfl,hk⟩) _ S0 _ _ _ h hi0 hr
    ·rintro e T ⟨h1,S1,rfl,hi1,rfl,hk⟩
     obtain⟨S2,h2,h3,h4⟩:=qv (h:=h1) hk
     exact⟨_,h3 X hX.xa,h1,S2,rfl,h4 _ _ hi1,h2⟩
 | .seq a b,X,E,hX,hpl,g0,F,hF,S,kn,kx,h,hi,hr=>by
   refine ba (fL (fX a hX hpl F hF S _ kx h hi hr) ?_)
   rintro e T ⟨h',S',rfl,hi',hq⟩
   cases e with
   |normal=>exact fX b hX hpl F hF S' kn kx h' hi' hq
   |exit i=>exact⟨h',S',rfl,hi',hq⟩
   |ret=>exact⟨h',S',rfl,hi',hq⟩
   |_=>exact hq.elim
 | .cond c a b,X,E,hX,hpl,g0,F,hF,S,kn,kx,h,hi,hr=>by
   simp only[jN]at hr
   split at hr
   ·rename_i v hv
    have hev:(S.aJ h).ev X c= .bool v:=by rw[dI hX,hv];rfl
    cases v with
    |true=>exact bu hev (fX a hX hpl F hF S kn kx h hi hr)
    |false=>exact bF hev (fX b hX hpl F hF S kn kx h hi hr)
   ·cases hr
 | .scope b,X,E,hX,hpl,g0,F,hF,S,kn,kx,h,hi,hr=>by
   refine LV (fL (fX b hX hpl F hF S kn kx h hi hr) ?_)
   rintro e T ⟨h',S',rfl,hi',hq⟩
   cases e with
   |goto l=>exact hq.elim
   |_=>exact⟨h',S',rfl,hi',hq⟩
 | .label l,X,E,hX,hpl,g0,F,hF,S,kn,kx,h,hi,hr=>Lp ⟨h,S,rfl,hi,hr⟩
 | .block id b,X,E,hX,hpl,g0,F,hF,S,kn,kx,h,hi,hr=>by
   refine aQ (fL (fX b hX hpl F hF S kn (Ri id kn kx) h hi hr) ?_)
   rintro e T ⟨h',S',rfl,hi',hq⟩
   cases e with
   |normal=>exact⟨h',S',rfl,hi',hq⟩
   |exit i=>
    simp only[eo]
    simp only[Ri]at hq
    cases hb:Nat.beq i id with
    |true=>rw[hb]at hq;exact⟨h',S',rfl,hi',hq⟩
    |false=>rw[hb]at hq;exact⟨h',S',rfl,hi',hq⟩
   |ret=>exact⟨h',S',rfl,hi',hq⟩
   |_=>exact hq.elim
 | .exit id,X,E,hX,hpl,g0,F,hF,S,kn,kx,h,hi,hr=>bk ⟨h,S,rfl,hi,hr⟩
 | .ret,X,E,hX,hpl,g0,F,hF,S,kn,kx,h,hi,hr=>aZ ⟨h,S,rfl,hi,hr⟩
 | .loop b,X,E,hX,hpl,g0,F,hF,S,kn,kx,h,hi,hr=>by
   simp only[jN]at hr
   split at hr
   ·rename_i L hL
    split at hr
    ·rename_i F' hF'
     obtain⟨hok,hcs,hsub⟩:=Av hF hi hF'
     obtain⟨v,h',hr,hw,hi'⟩:=rn hX.xa hok ⟨hi.1,hcs⟩ hr
     refine qU hw ?_
     refine Fj (fun h v=>Inv E.pin g0 F' h (kc L.K F' v)) _ (kc L.K F') (fun v kn' h hi hv=> ?_) xZ v h' hi' hr
     refine fL (fX b hX hpl F' hok _ _ kx h hi hv) (fun e T hq=> ?_)
     cases e with
     |normal=>
      obtain⟨h',S',rfl,hi',hq⟩:=hq
      obtain⟨v',h2,hq,hw,hi2⟩:=rn hX.xa hok hi' hq
      exact⟨v',h2,hi2,hq,hw⟩
     |_=>
      obtain⟨h',S',rfl,hi',hq⟩:=hq
      exact⟨h',S',rfl,⟨hi'.1,hsub S' hi'.2⟩,hq⟩
    ·cases hr
   ·refine Fj (fun h S=>Inv E.pin g0 F h S) _ id (fun S' kn' h hi hv=> ?_) xZ S h hi hr
    refine fL (fX b hX hpl F hF _ _ kx h hi hv) (fun e T hq=> ?_)
    cases e with
    |normal=>
     obtain⟨h',S',rfl,hi',hq⟩:=hq
     exact⟨S',h',hi',hq,Wk.refl _ _⟩
    |_=>
     obtain⟨h',S',rfl,hi',hq⟩:=hq
     exact⟨h',S',rfl,hi',hq⟩
 | .rangeFunc g ps assign body,X,E,hX,hpl,g0,F,hF,S,kn,kx,h,hi,hr=>by
   simp only[jN]at hr
   obtain⟨hrf,hr⟩:=ak hr
   obtain⟨Zs,nts,w0,κ0,ext,hXp⟩:=hpl hrf
   split at hr
   ·rename_i L hL
    split at hr
    ·rename_i F' hF'
     obtain⟨hok,hcs,hsub⟩:=Av hF hi hF'
     obtain⟨v,h',hr,hw,hi'⟩:=rn hX.xa hok ⟨hi.1,hcs⟩ hr
     refine qU hw ?_
     split at hr
     ·rename_i gf cap hg
      split at hr
      ·rename_i sp hsp
       have hsf:=Bw hsp
       obtain⟨hck,hr⟩:=ak hr
       simp only[Bool.and_eq_true]at hck
       obtain⟨⟨⟨hbx,hlen⟩,hnf⟩,hnk⟩:=hck
       obtain⟨items,Bf,hok2⟩:=sp.ok _ _ _ hr
       have hItC:=hok2 h'
       have hev:((kc L.K F' v).aJ h').ev X g= .fn gf (I.ao h' cap):=by rw[dI hX,hg];rfl
       have hnr:∀p∈F'.sl,iS p.2=true:=fun p hp=>(hi'.2.1 p hp).2
       --ages of what the oM point to
       have hp' :Inv (E.inner L.K).pin h' F' h' (kc L.K F' v):=⟨fun s _=>rfl,hi'.2⟩
       have hpE:∀h2 v2,Inv (E.inner L.K).pin h' F' h2 (kc L.K F' v2)→Inv E.pin g0 F h2 (kc L.K F' v2):=fun h2 v2 hh=>⟨fun s hs=>by
        have h3:h2 s+0=h' s:=hh.1 s (List.mem_append_right _ hs)
        have h4:h' s+0=g0 s:=hi'.1 s hs
        show h2 s+0=g0 s
        rw[h3];simpa using h4,hsub _ hh.2⟩
       have hsl:∀h2 v2,Inv (E.inner L.K).pin h' F' h2 (kc L.K F' v2)→((kc L.K F' v2).aJ h2).ρ=((kc L.K F' v).aJ h').ρ:=fun h2 v2 hh=>GA hbx (fun s hs=>by
        have h3:h2 s+0=h' s:=hh.1 s (List.mem_append_left _ hs)
        simpa using h3.symm) hnr
       let G:L.K.V×List (dB sp.its)→(L.K.V×List (dB sp.its)→Option R)→Option R:=fun x kn' =>match x.2 with
        |[]=>kn (kc L.K F' x.1)
        |a::l=>jN cS (E.inner L.K) assign F' (Bs (kc L.K F' x.1) ps.toList (b6 sp.its a)) (fun S1=>jN cS (E.inner L.K) body F' S1 (lT (E.inner L.K).pin F' L.K (fun v' =>kn' (v',l))) (fun c S2=>kx c (nY L.K F' S2))) (fun _ _=>none)
       have Bf:iter G xZ (v,items)=some r:=Bf
       have args_at:∀(k:Nat) (a:dB sp.its),items[k]? =some a→MG sp.its items k=I.ao zh (b6 sp.its a):=fun k a e=>by unfold MG;rw[e]
       subst hXp
       have hZ:Zs=Z.toSeat:=hX.Z
       subst hZ
       refine Bd (gf:=gf) (cap:=I.ao h' cap) (n:=items.length) (MG sp.its items) hev (by rw[←hsf];exact hItC) (fun k hk=> ?_)
        (fun k γ σ=>∃h2 v2 m,Inv (E.inner L.K).pin h' F' h2 (kc L.K F' v2)∧γ=((kc L.K F' v2).aJ h2).γ∧σ=((kc L.K F' v2).aJ h2).σ∧iter G m (v2,items.drop k)=some r) (fun c T=>∃h2 S2,T=S2.aJ h2∧Inv (E.inner L.K).pin h' F' h2 S2∧((c= .ret∧kx none (nY L.K F' S2)=some r)∨∃i,c= .exit i∧kx (some i) (nY L.K F' S2)=some r))
        ⟨h',v,xZ,hp',rfl,rfl,Bf⟩ (fun k γ σ hk hP hle=> ?_) (fun γ σ hP=> ?_)
        (fun T hx=>by
          obtain⟨h2,S2,rfl,hi2,⟨_,hq⟩|⟨i,hc,_⟩⟩:=hx
          ·obtain⟨e1,e2⟩:=Cz rfl hbx hnk hi' hi2
           exact⟨h2,_,e1,⟨e2.1,hsub _ e2.2⟩,hq⟩
          ·cases hc)
        (fun i T hx=>by
          obtain⟨h2,S2,rfl,hi2,⟨hc,_⟩|⟨j,hc,hq⟩⟩:=hx
          ·cases hc
          ·cases hc
           obtain⟨e1,e2⟩:=Cz rfl hbx hnk hi' hi2
           exact⟨h2,_,e1,⟨e2.1,hsub _ e2.2⟩,hq⟩)
        (fun c T hx=>by
          obtain⟨h2,S2,rfl,hi2,⟨hc,_⟩|⟨j,hc,hq⟩⟩:=hx
          ·exact .inl hc
          ·exact .inr ⟨j,hc⟩)
       ·have e:=List.getElem?_eq_getElem hk
        rw[args_at k _ e,eZ,mB,←Nat.eq_of_beq_eq_true hlen];simp
       ·obtain⟨h2,v2,m,hi2,rfl,rfl,hm⟩:=hP
        have e:=List.getElem?_eq_getElem hk
        rw[args_at k _ e]
        have hdrop:items.drop k=items[k]::items.drop (k+1):=by rw[List.drop_eq_getElem_cons hk]
        rw[hdrop]at hm
        cases m with
        |zero=>cases hm
        |succ m=>
         have hm:jN cS (E.inner L.K) assign F' (Bs (kc L.K F' v2) ps.toList (b6 sp.its items[k])) (fun S1=>jN cS (E.inner L.K) body F' S1 (lT (E.inner L.K).pin F' L.K (fun v' =>iter G m (v',items.drop (k+1)))) (fun c S2=>kx c (nY L.K F' S2))) (fun _ _=>none)=some r:=hm
         have hst:(⟨oL ((kc L.K F' v).aJ h').ρ ps.toList (I.ao zh (b6 sp.its items[k])),((kc L.K F' v2).aJ h2).γ,((kc L.K F' v2).aJ h2).σ⟩:St)=(Bs (kc L.K F' v2) ps.toList (b6 sp.its items[k])).aJ h2:=by
          rw[yj,hsl h2 v2 hi2,pz zh h2]
         rw[hst]
         intro κp γp svp T l Φ cl
         refine fL (fX assign (X:=gT Z.toSeat nts w0 κ0 ext κp γp svp T l Φ cl) (E:=E.inner L.K) (g0:=h') (At.pl rfl hX.nt (fun _=>rfl)) (fun h=>by cases h) F' hok _ _ _ h2 (Cx _ _ _ hnf hi2) hm) ?_
         rintro e T' ⟨h3,S3,rfl,hi3,hq⟩
         cases e<;>first|exact hq.elim|(cases hq;done)|skip
         refine⟨rfl,fun Φ' cl' => ?_⟩
         refine fL (fX body (X:=gT Z.toSeat nts w0 κ0 ext κp γp svp T l Φ' cl') (E:=E.inner L.K) (g0:=h') (At.pl rfl hX.nt (fun _=>rfl)) (fun h=>by cases h) F' hok _ _ _ h3 hi3 hq) ?_
         rintro e T' ⟨h4,S4,rfl,hi4,hq⟩
         cases e<;>first|exact hq.elim|(exact⟨h4,S4,rfl,hi4, .inl ⟨rfl,hq⟩⟩)|(exact⟨h4,S4,rfl,hi4, .inr ⟨_,rfl,hq⟩⟩)|skip
         obtain⟨v',h5,hq,hw5,hi5⟩:=rn (X:=gT Z.toSeat nts w0 κ0 ext κp γp svp T l Φ' cl') (fun p h=>nomatch (show false=true from h)) hok hi4 hq
         exact⟨_,hw5,h5,v',m,hi5,rfl,rfl,hq⟩
       ·obtain⟨h2,v2,m,hi2,rfl,rfl,hm⟩:=hP
        rw[List.drop_length]at hm
        cases m with
        |zero=>cases hm
        |succ m=>
         have hm:kn (kc L.K F' v2)=some r:=hm
         refine⟨h2,kc L.K F' v2, ?_,hpE h2 v2 hi2,hm⟩
         rw[←hsl h2 v2 hi2]
      ·cases hr
     ·cases hr
    ·cases hr
   ·cases hr
 | .goto _,_,_,_,_,_,_,_,_,_,_,_,_,hr=>by cases hr
 | .refuse _,_,_,_,_,_,_,_,_,_,_,_,_,hr=>by cases hr
end
end
end Go.Ab
namespace Go.Ab
open Go Go.RowKit
noncomputable section
set_option linter.all false
set_option maxHeartbeats 1000000
@[reducible] def j0:List T→Type
  |[]=>Unit
  |[t]=>den t
  |t::u::ts=>den t×j0 (u::ts)
def rW:(ts:List T)→j0 ts→List I
 |[],_=>[]
 |[t],x=>[gy t x]
 |t::u::ts,x=>gy t x.1::rW (u::ts) x.2
def PA:List I→I
 |[d]=>d
 |ds=> .tup ds
def nG(ts:List T)(x:j0 ts):I:=PA (rW ts x)
def Dl:(ts:List T)→List I→Option (j0 ts)
 |[],[]=>some ()
 |[t],[d]=>uE t d
 |t::u::ts,d::ds=>(match uE t d with
  |some x=>(match Dl (u::ts) ds with|some y=>some (x,y)|none=>none)
  |none=>none)
 |_,_=>none
def pS:(ts:List T)→List I→Option (dB ts)
 |[],[]=>some ()
 |t::ts,d::ds=>(match uE t d with
  |some x=>(match pS ts ds with|some y=>some (x,y)|none=>none)
  |none=>none)
 |_,_=>none
section
variable {κ:Nat→Nat→Option Value} {sv:Nat→Value} {γ:Nat→Nat}
theorem pD(h:Nat→Nat)(t:T)(x:den t):Pure ((gy t x).bV h):=by
 have h1:=b9 t x
 rw[←aT h]at h1
 unfold gy
 cases oN t with
 |true=>exact .agg _ h1
 |false=>
  simp only[cond_false]
  split
  ·rename_i d e;rw[e]at h1;exact h1 _ (List.mem_cons_self ..)
  ·exact .undef
theorem ga(h:Nat→Nat):∀(ts:List T) (x:dB ts),af (I.ao h (b6 ts x))
 |[],_=>af.nil
 |t::ts,x=>af.cons (pD h t _) (ga h ts _)
theorem vv(h:Nat→Nat):∀(ts:List T) (x:j0 ts),af (I.ao h (rW ts x))
 |[],_=>af.nil
 |[t],x=>af.cons (pD h t _) af.nil
 |t::u::ts,x=>af.cons (pD h t _) (vv h (u::ts) _)
theorem rj(h:Nat→Nat):∀l:List I,(PA l).bV h=gu (I.ao h l)
 |[]=>rfl
 |[d]=>rfl
 |_::_::_=>rfl
theorem EE:∀{l:List D},af l→Pure (gu l)
 |[],h=> .tup _ h
 |[d],h=>h d (List.mem_cons_self ..)
 |_::_::_,h=> .tup _ h
theorem ta(h:Nat→Nat)(ts:List T)(x:j0 ts):Pure ((nG ts x).bV h):=by
 unfold nG
 rw[rj]
 exact EE (vv h ts x)
theorem l7{h h' :Nat→Nat}:∀{ts:List T} {ds:List I} {x:dB ts},pS ts ds=some x→∀{vs:List Value},RepL κ γ sv (I.ao h ds) vs→RepL κ γ sv (I.ao h' (b6 ts x)) vs
 |[],[],x,hd,vs,hr=>hr
 |[],_::_,x,hd,vs,hr=>by cases hd
 |t::ts,[],x,hd,vs,hr=>by cases hd
 |t::ts,d::ds,x,hd,vs,hr=>by
  simp only[pS]at hd
  split at hd
  ·rename_i y hy
   split at hd
   ·rename_i z hz
    simp only[Option.some.injEq]at hd
    subst hd
    cases hr with
    |cons _ v _ vs h1 h2=>exact .cons _ _ _ _ (jB hy h1) (l7 hz h2)
   ·cases hd
  ·cases hd
theorem xj{h h' :Nat→Nat}:∀{ts:List T} {ds:List I} {x:j0 ts},Dl ts ds=some x→∀{vs:List Value},RepL κ γ sv (I.ao h ds) vs→RepL κ γ sv (I.ao h' (rW ts x)) vs
 |[],[],x,hd,vs,hr=>hr
 |[],_::_,x,hd,vs,hr=>by cases hd
 |[t],[],x,hd,vs,hr=>by cases hd
 |[t],[d],x,hd,vs,hr=>by
  cases hr with
  |cons _ v _ vs h1 h2=>cases h2;exact .cons _ _ _ _ (jB hd h1) .nil
 |[t],_::_::_,x,hd,vs,hr=>by cases hd
 |t::u::ts,[],x,hd,vs,hr=>by cases hd
 |t::u::ts,d::ds,x,hd,vs,hr=>by
  simp only[Dl]at hd
  split at hd
  ·rename_i y hy
   split at hd
   ·rename_i z hz
    simp only[Option.some.injEq]at hd
    subst hd
    cases hr with
    |cons _ v _ vs h1 h2=>exact .cons _ _ _ _ (jB hy h1) (xj hz h2)
   ·cases hd
  ·cases hd
theorem CD{v:Value}:∀{ds ds' :List D},ds'.length=ds.length→(∀vs,RepL κ γ sv ds vs→RepL κ γ sv ds' vs)→cX κ γ sv (gu ds) v→cX κ γ sv (gu ds') v
 |[],[],_,h,hr=>hr
 |[d],[d'],_,h,hr=>by
  have:=h [v] (.cons _ _ _ _ hr .nil)
  cases this with
  |cons _ _ _ _ h1 _=>exact h1
 |d::d2::ds,d' ::d2' ::ds',_,h,hr=>by
  cases hr with
  |tup _ vs hl=>exact .tup _ vs (h vs hl)
 |[],_::_,hl,_,_=>by cases hl
 |[_],[],hl,_,_=>by cases hl
 |[_],_::_::_,hl,_,_=>by simp at hl
 |_::_::_,[],hl,_,_=>by cases hl
 |_::_::_,[_],hl,_,_=>by simp at hl
theorem xe:∀{ts:List T} {ds:List I} {x:j0 ts},Dl ts ds=some x→(rW ts x).length=ds.length
 |[],[],x,hd=>rfl
 |[],_::_,x,hd=>by cases hd
 |[t],[],x,hd=>by cases hd
 |[t],[d],x,hd=>rfl
 |[t],_::_::_,x,hd=>by cases hd
 |t::u::ts,[],x,hd=>by cases hd
 |t::u::ts,d::ds,x,hd=>by
  simp only[Dl]at hd
  split at hd
  ·split at hd
   ·rename_i z hz
    simp only[Option.some.injEq]at hd
    subst hd
    simp only[rW,List.length_cons,xe hz]
   ·cases hd
  ·cases hd
end
def Rx(X:Ctx)(rs:List ResultVar)(R:D):Exit→St→Prop
 | .normal,S| .ret,S=>∃S' ds,Wk X S S'∧kV X S' rs ds∧∀κ γ sv v,cX κ γ sv (gu ds) v→cX κ γ sv R v
 |_,_=>False
theorem ny{Z:Seat}{f:FuncId}{fn:Func}{c:Code}{A:List D}{R:D}(hf:Z.P.funcs[f]? =some fn)(hb:fn.body=some c)(hname:(fn.name== "runtime.NumGoroutine")=false)(hn:Nat.ble A.length fn.ntmps=true)(hA:af A)(hR:Pure R)
 (h:∀w κ,W (Ctx.plain Z fn.ntmps w κ none) c (Rx (Ctx.plain Z fn.ntmps w κ none) fn.results.toList R) (St.init A)):au Z f A R:=by
 refine⟨hA,hR,⟨fn,c,hf,hb,hname⟩,fun w κ args hκ hglob hrep=> ?_⟩
 refine(callsIn_wide (n:=0)).1 (callsIn_of_wp_marks hf hb trivial ?_ rfl)
 have hlen:A.length≤fn.ntmps:=Nat.le_of_ble_eq_true hn
 have hal:=hrep.length
 have hsim:dh (Ctx.plain Z fn.ntmps w κ none) κ m9 (St.init A) {tmps:=args.toArray++Array.replicate (fn.ntmps-args.toArray.size) Go.undef,defers:=[]} w:=by
  refine⟨by simp[Ctx.plain];omega,sR.nil rfl,fun i _=>gX hrep _ i, ?_⟩
  exact⟨hκ,fun _=>trivial,(fun s t b hs=>by cases hs),(fun s b o hs=>by cases hs),(fun s b hs=>by cases hs),⟨fun _=>False,⟨Frame.refl _ _,fun _ h=>h.elim⟩,fun s b hs=>by cases hs⟩,hglob,fun b o v _ hk=>hk,(fun b hb=>by cases hb),Nat.le_refl _,⟨fun _ _ _ h=>(by cases h),fun _=>Nat.zero_le _,fun _ _=>rfl⟩,fun _ _ _ _ h=>h,fun _ _ _ h=>h,fun _ h=>h.elim⟩
 refine wpIn_mono (h w κ κ m9 _ w hsim) ?_
 rintro e a' w' ⟨κ',sv',S',hs,hq⟩
 cases e<;>first|exact hq.elim|skip
 all_goals
  obtain⟨S2,ds,hw,hd,hconv⟩:=hq
  obtain⟨κ2,sv2,hs⟩:=hw _ _ _ _ hs
  obtain⟨Ds,d1,d2,d3,_⟩:=hs.defers
  show LeavesInM _ _ _ _ _ _ a'.defers _ _
  rw[d1]
  refine g5 rfl g6 hd (fun a w v hs h2=> ?_) Ds a' w' hs d1 d2 d3
  obtain⟨M,h1,_⟩:=hs.wld.frame
  exact⟨v,rfl,(hconv _ _ _ _ h2).pure (ke hs.wld) hR,h1.1.below⟩
section
variable {R:Type} {X:Ctx} {Z:ISeat} {r:R}
def enum:Nat→List I→List (Nat×I)
 |_,[]=>[]
 |n,d::l=>(n,d)::enum (n+1) l
def pY(A:List I):IS:=⟨enum 0 A,[],[]⟩
theorem mH(h:Nat→Nat):∀(A:List I) (n i:Nat),n≤i→(look .undef (enum n A) i).bV h=match nth (I.ao h A) (i-n)with|some d=>d|none=> .undef
 |[],n,i,_=>rfl
 |d::A,n,i,hi=>by
  simp only[enum,look]
  cases hb:Nat.beq i n with
  |true=>have:=Nat.eq_of_beq_eq_true hb;subst this;rw[Nat.sub_self];rfl
  |false=>
   have hne:i≠n:=fun e=>by rw[e,Nat.beq_refl]at hb;cases hb
   simp only[cond_false]
   rw[mH h A (n+1) i (by omega)]
   obtain⟨k,hk⟩:∃k,i-n=k+1:=⟨i-n-1,by omega⟩
   rw[hk,show i-(n+1)=k by omega]
   rfl
theorem o8(A:List I):(pY A).aJ zh=St.init (I.ao zh A):=by
 unfold IS.aJ St.init pY
 congr 1
 funext i
 exact mH zh A 0 i (Nat.zero_le _)
def yd(Z:ISeat)(nt:Nat)(S:IS):ResultVar→Option I
 | .tmp t=>some (S.ev Z nt (.tmp t))
 | .cell p ty=>(match S.ev Z nt (.tmp p)with
   | .bx s g j=>rowOf Z ty fun q=>live S s g (match S.own s with
     | .box l=>bif GC q then(match qg q.sz (rm j l)with|some m=>some (.agg m)|none=>none)else nth l j
     |_=>none)
   |_=>none)
def nv(Z:ISeat)(nt:Nat)(S:IS):List ResultVar→Option (List I)
 |[]=>some []
 |v::l=>(match yd Z nt S v with
  |some d=>(match nv Z nt S l with|some ds=>some (d::ds)|none=>none)
  |none=>none)
theorem Fs{nt:Nat}(hX:At X Z nt){S:IS}{h:Nat→Nat}{rv:ResultVar}{d:I}(hr:yd Z nt S rv=some d):wF X (S.aJ h) rv (d.bV h):=by
 cases rv with
 |tmp t=>
  simp only[yd,Option.some.injEq]at hr
  subst hr
  exact dI hX _
 |cell p ty=>
  simp only[yd]at hr
  split at hr
  ·rename_i s g j hx
   replace hr:=cr hr
   obtain⟨q,hq,h9,hr⟩:=hr
   replace hr:=dp hr
   obtain⟨rfl,hr⟩:=hr
   split at hr
   ·rename_i l hσ
    refine⟨s,_,j,I.ao h l,q,(dI hX _).trans (by rw[hx];rfl),rfl, ?_,by rw[hX.Z];exact hq,h9, ?_⟩
    ·show(S.own s).bq h=_
     rw[hσ];rfl
    ·cases ha:GC q with
     |true=>
      rw[ha]at hr
      simp only[cond_true]at hr
      split at hr
      ·rename_i m hm
       simp only[Option.some.injEq]at hr
       subst hr
       exact .inl ⟨ha,_,by rw[kM];exact kE h hm,rfl⟩
      ·cases hr
     |false=>
      rw[ha]at hr
      exact .inr ⟨ha,iM h hr⟩
   ·cases hr
  ·cases hr
theorem mr{nt:Nat}(hX:At X Z nt){S:IS}{h:Nat→Nat}:∀{l:List ResultVar} {ds:List I},nv Z nt S l=some ds→kV X (S.aJ h) l (I.ao h ds)
 |[],ds,hr=>by simp[nv]at hr;subst hr;trivial
 |v::l,ds,hr=>by
  simp only[nv]at hr
  split at hr
  ·rename_i d hd
   split at hr
   ·rename_i ds' hds
    simp only[Option.some.injEq]at hr
    subst hr
    exact⟨Fs hX hd,mr hX hds⟩
   ·cases hr
  ·cases hr
def KC(Z:ISeat)(nt:Nat)(rv:List ResultVar)(ts:List T)(S:IS):Option (j0 ts):=match nv Z nt S rv with
 |some ds=>(match nv Z nt (qS S (dZ S (fw ds))) rv with
  |some ds=>Dl ts ds
  |none=>none)
 |none=>none
def Pa(Z:ISeat)(nt:Nat)(rv:List ResultVar)(ts:List T)(e:Option Nat)(S:IS):Option (j0 ts):=match e with
 |none=>KC Z nt rv ts S
 |some _=>none
theorem Gv{nt:Nat}(hX:At X Z nt)(hx:∀p,X.xa p=false){rv:List ResultVar}{ts:List T}{S:IS}{x:j0 ts}{h h' :Nat→Nat}(hr:KC Z nt rv ts S=some x):
 ∃S' ds,Wk X (S.aJ h) S'∧kV X S' rv ds∧∀κ γ sv v,cX κ γ sv (gu ds) v→cX κ γ sv ((nG ts x).bV h') v:=by
 unfold KC at hr
 split at hr
 ·rename_i ds0 _
  split at hr
  ·rename_i ds hds
   refine⟨_,_,lF (dZ S (fw ds0)) S (fun p _=>hx p),mr hX hds,fun κ γ sv v hv=> ?_⟩
   unfold nG
   rw[rj]
   exact CD (by simp only[eZ,xe hr]) (fun vs hvs=>xj hr hvs) hv
  ·cases hr
 ·cases hr
def fW{ts:List T}(it:It (j0 ts))(E:dC Z)(c:Code)(rv:List ResultVar)(A:List I):Option (j0 ts):=
 jN it E c ⟨[],[]⟩ (pY A) (KC Z E.nt rv ts) (Pa Z E.nt rv ts)
theorem bW{ts ats:List T}{E:dC Z}{f:FuncId}{fn:Func}{c:Code}(hf:Z.P.funcs[f]? =some fn)(hb:fn.body=some c)(hname:(fn.name== "runtime.NumGoroutine")=false)(hn:Nat.beq fn.ntmps E.nt=true)(hl:Nat.ble ats.length fn.ntmps=true)(hp:E.pin=[])
 {a:dB ats}{x:j0 ts}(hr:fW cS E c fn.results.toList (b6 ats a)=some x)(h h' :Nat→Nat):au Z.toSeat f (I.ao h (b6 ats a)) ((nG ts x).bV h'):=by
 have hal:∀(ats:List T) (a:dB ats),(b6 ats a).length=ats.length:=fun ats=>by
  induction ats with
  |nil=>intro a;rfl
  |cons t ats ih=>intro a;simp only[b6,List.length_cons,ih]
 have hz:I.ao h (b6 ats a)=I.ao zh (b6 ats a):=by
  have key:∀(t:T) (x:den t),(gy t x).bV h=(gy t x).bV zh:=fun t x=>by
   unfold gy
   cases oN t with
   |true=>simp only[cond_true,I.bV,aT]
   |false=>
    simp only[cond_false]
    split
    ·rename_i d e
     have h1:=aT h t x
     rw[←aT zh,e]at h1
     simpa[I.ao]using h1
    ·rfl
  have:∀(ats:List T) (a:dB ats),I.ao h (b6 ats a)=I.ao zh (b6 ats a):=fun ats=>by
   induction ats with
   |nil=>intro a;rfl
   |cons t ats ih=>intro a;simp only[b6,I.ao,ih,key]
  exact this ats a
 rw[hz]
 refine ny hf hb hname (by rw[eZ,hal];exact hl) (ga _ _ _) (ta _ _ _) fun w κ=> ?_
 have hX:At (Ctx.plain Z.toSeat fn.ntmps w κ none) Z E.nt:=At.pl rfl (Nat.eq_of_beq_eq_true hn) (fun _=>rfl)
 rw[←o8]
 refine fL (fX c hX (fun _=>⟨_,_,_,_,_,rfl⟩) (g0:=zh) ⟨[],[]⟩ rfl _ _ _ zh ⟨(fun g hg=>by rw[hp]at hg;cases hg),⟨(fun p hp=>(nomatch hp)),(fun p hp=>(nomatch hp))⟩⟩ hr) ?_
 rintro e T ⟨h2,S,rfl,_,hq⟩
 cases e with
 |normal=>exact Gv hX (fun _=>rfl) hq
 |ret=>exact Gv hX (fun _=>rfl) hq
 |exit i=>simp only[Pa]at hq;cases hq
 |_=>exact hq.elim
theorem AG{Z:Seat}{f:FuncId}{ats:List T}{ds:List I}{a:dB ats}{R:D}{h:Nat→Nat}(hd:pS ats ds=some a)(hp:af (I.ao h ds))(hc:au Z f (I.ao h (b6 ats a)) R):au Z f (I.ao h ds) R:=
 ⟨hp,hc.pureR,hc.body,fun w κ args hf hg hr=>hc.calls w κ args hf hg (l7 hd hr)⟩
theorem GW{t:T}{d:I}{x:den t}(hd:uE t d=some x)(h:Nat→Nat):Pure (d.bV h):=by
 have key:∀{l m:List I},dE l m→af (I.ao h m)→af (I.ao h l):=fun{l m} hn=>by
  induction hn with
  |nil=>exact fun _=>af.nil
  |cons h1 _ ih=>
   intro hp
   refine af.cons ?_ (ih fun d hd=>hp d (List.mem_cons_of_mem _ hd))
   cases h1 with
   |same=>exact hp _ (List.mem_cons_self ..)
   |nil=>exact .nil
   |nsl t l=>exact fe h (.nsl t l) rfl
 unfold uE at hd
 have he:=b9 t x
 rw[←aT h]at he
 cases hi:oN t with
 |true=>
  rw[hi]at hd
  simp only[cond_true]at hd
  split at hd
  ·exact .agg _ (key (cL t hd) he)
  ·cases hd
 |false=>
  rw[hi]at hd
  exact key (cL t hd) he _ (List.mem_cons_self ..)
theorem j4{h:Nat→Nat}:∀{ts:List T} {ds:List I} {x:dB ts},pS ts ds=some x→af (I.ao h ds)
 |[],[],x,hd=>af.nil
 |[],_::_,x,hd=>by cases hd
 |t::ts,[],x,hd=>by cases hd
 |t::ts,d::ds,x,hd=>by
  simp only[pS]at hd
  split at hd
  ·rename_i y hy
   split at hd
   ·rename_i z hz;exact af.cons (GW hy h) (j4 hz)
   ·cases hd
  ·cases hd
def KZ:List I→Bool
 |[]=>true
 | .int _ _::l=>KZ l
 | .bool _::l=>KZ l
 | .str _::l=>KZ l
 |_::_=>false
theorem JI{h:Nat→Nat}:∀{l:List I},KZ l=true→∃vs,lA (I.ao h l)=some vs
 |[],_=>⟨[],rfl⟩
 |d::l,hc=>by
  cases d<;>try (cases hc;done)
  all_goals
   obtain⟨vs,hv⟩:=JI (h:=h) (l:=l) hc
   exact⟨_,by simp only[I.ao,I.bV,lA,kB,hv];rfl⟩
def Sm:I→Bool
 | .agg l=>KZ l
 |d=>KZ [d]
theorem JH{h:Nat→Nat}{d:I}(hc:Sm d=true):∃v,lf (d.bV h)=some v:=by
 cases d<;>try (cases hc;done)
 ·exact⟨_,rfl⟩
 ·exact⟨_,rfl⟩
 ·exact⟨_,rfl⟩
 ·obtain⟨vs,hv⟩:=JI (h:=h) hc
  exact⟨_,by simp only[I.bV,lf,hv,Option.map_some];rfl⟩
def NW:List I→Bool
 |[]=>true
 |d::l=>Sm d&&NW l
theorem Ee{h:Nat→Nat}:∀{l:List I},NW l=true→∃vs,iv (I.ao h l)=some vs
 |[],_=>⟨[],rfl⟩
 |d::l,hc=>by
  simp only[NW,Bool.and_eq_true]at hc
  obtain⟨v,hv⟩:=JH (h:=h) hc.1
  obtain⟨vs,hvs⟩:=Ee (h:=h) hc.2
  exact⟨_,by simp only[I.ao,iv,hv,hvs];rfl⟩
theorem Iy{d:D}{v:Value}(h:lf d=some v):sn d=some v:=by
 unfold sn
 split
 ·simp[lf,kB]at h
 ·exact h
theorem Ql{h:Nat→Nat}{ts:List T}{x:j0 ts}(hc:NW (rW ts x)=true):∃v,sn ((nG ts x).bV h)=some v:=by
 unfold nG
 rw[rj]
 generalize rW ts x=l at hc⊢
 match l,hc with
 |[],_=>exact⟨_,rfl⟩
 |[d],hc=>
  simp only[NW,Bool.and_true]at hc
  obtain⟨v,hv⟩:=JH (h:=h) hc
  exact⟨v,Iy hv⟩
 |d::d2::l,hc=>
  obtain⟨vs,hv⟩:=Ee (h:=h) hc
  exact⟨_,by show(iv (I.ao h (d::d2::l))).map _=_;rw[hv];rfl⟩
def dK(Z:Seat)(f:FuncId)(ats ts:List T)(sc:Bool)(F:dB ats→Option (j0 ts))(hF:∀a x,F a=some x→∀h h',au Z f (I.ao h (b6 ats a)) ((nG ts x).bV h'))(hsc:sc=true→∀x:j0 ts,NW (rW ts x)=true):cK Z where
 f:=f
 sc:=sc
 app:=fun A k=>match pS ats A with|some a=>(F a).bind (fun x=>k (nG ts x))|none=>none
 ok:=fun A k r h=>by
  split at h
  ·rename_i a ha
   cases hx:F a with
   |none=>rw[hx]at h;cases h
   |some x=>
    rw[hx]at h
    exact⟨_,h,fun h=>⟨AG ha (j4 ha) (hF a x hx h h),fun e=>Ql (hsc e x)⟩⟩
  ·cases h
end
end
end Go.Ab
namespace Go.Ab
open Go Go.RowKit
set_option linter.all false
def E5(dS:List TRow):List (Nat×T)→Bool
 |[]=>true
 |(E,t)::l=>(match nth dS E with|some q=> !(Nat.beq q.k 9)&&Nat.beq q.sz (sz t)&&Nat.beq q.zs.length (sz t)|none=>true)&&E5 dS l
def EO(P:Program):List (Nat×IntKind)→Bool
 |[]=>true
 |(t,k)::l=>(match P.underlying t with|some (.int k')=>decide (k' =k)|_=>false)&&EO P l
def AM(P:Program):List Nat→Bool
 |[]=>true
 |t::l=>(match P.underlying t with|some .bool=>true|_=>false)&&AM P l
theorem vz{α:Type}:∀{l:List (Nat×α)} {i:Nat} {a:α},find l i=some a→(i,a)∈l
 |(j,b)::l,i,a,h=>by
  simp only[find]at h
  cases hb:Nat.beq i j with
  |true=>rw[hb]at h;simp at h;subst h;rw[Nat.eq_of_beq_eq_true hb];exact List.mem_cons_self ..
  |false=>rw[hb]at h;exact List.mem_cons_of_mem _ (vz h)
theorem CP{dS:List TRow}:∀{l:List (Nat×T)},E5 dS l=true→∀p∈l,∀q,nth dS p.1=some q→Nat.beq q.k 9=false∧q.sz=sz p.2∧q.zs.length=sz p.2
 |(E,t)::l,h,p,hp,q,hq=>by
  simp only[E5,Bool.and_eq_true]at h
  rcases List.mem_cons.1 hp with rfl|hp
  ·have h1:=h.1
   simp only[hq,Bool.and_eq_true,Bool.not_eq_true']at h1
   exact⟨h1.1.1,Nat.eq_of_beq_eq_true h1.1.2,Nat.eq_of_beq_eq_true h1.2⟩
  ·exact CP h.2 p hp q hq
theorem CX{P:Program}:∀{l:List (Nat×IntKind)},EO P l=true→∀p∈l,P.underlying p.1=some (.int p.2)
 |(t,k)::l,h,p,hp=>by
  simp only[EO,Bool.and_eq_true]at h
  rcases List.mem_cons.1 hp with rfl|hp
  ·have h1:=h.1
   split at h1
   ·rename_i k' hk;rw[hk,of_decide_eq_true h1]
   ·cases h1
  ·exact CX h.2 p hp
theorem yQ{P:Program}:∀{l:List Nat},AM P l=true→∀t∈l,P.underlying t=some .bool
 |t::l,h,p,hp=>by
  simp only[AM,Bool.and_eq_true]at h
  rcases List.mem_cons.1 hp with rfl|hp
  ·have h1:=h.1
   split at h1
   ·assumption
   ·cases h1
  ·exact yQ h.2 p hp
def Ac(P:Program):List Nat→Bool
 |[]=>true
 |t::l=>(match P.underlying t with|some (.func _ _ _)=>true|some (.map _ _)=>true|_=>false)&&Ac P l
theorem yU{P:Program}:∀{l:List Nat},Ac P l=true→∀t∈l,∃d,P.underlying t=some d∧mo P t=false
 |t::l,h,p,hp=>by
  simp only[Ac,Bool.and_eq_true]at h
  rcases List.mem_cons.1 hp with rfl|hp
  ·have h1:=h.1
   split at h1
   ·rename_i hu;exact⟨_,hu,by unfold mo;rw[hu]⟩
   ·rename_i hu;exact⟨_,hu,by unfold mo;rw[hu]⟩
   ·cases h1
  ·exact yU h.2 p hp
def Az(P:Program):List Nat→Bool
 |[]=>true
 |t::l=>(match P.underlying t with|some .string=>true|_=>false)&&Az P l
theorem yk{P:Program}:∀{l:List Nat},Az P l=true→∀t∈l,P.underlying t=some .string
 |t::l,h,p,hp=>by
  simp only[Az,Bool.and_eq_true]at h
  rcases List.mem_cons.1 hp with rfl|hp
  ·have h1:=h.1
   split at h1
   ·assumption
   ·cases h1
  ·exact yk h.2 p hp
def Be(P:Program):List Nat→Bool
 |[]=>true
 |t::l=>(match P.underlying t with
  |some (.map k e)=>(match P.underlying k,P.info? e with
   |some (.int .i64),some i=>(match i.zero with|some (.int .i64 n)=>decide (n=0)|_=>false)
   |_,_=>false)
  |_=>false)&&Be P l
theorem zi{P:Program}:∀{l:List Nat},Be P l=true→∀t∈l,zH P t
 |t::l,h,p,hp=>by
  simp only[Be,Bool.and_eq_true]at h
  rcases List.mem_cons.1 hp with rfl|hp
  ·have h1:=h.1
   split at h1
   ·rename_i k e hu
    split at h1
    ·rename_i i hk he
     split at h1
     ·rename_i n hz
      have:=of_decide_eq_true h1
      subst this
      exact⟨k,e,i,hu,hk,he,hz⟩
     ·cases h1
    ·cases h1
   ·cases h1
  ·exact zi h.2 p hp
noncomputable def KH(Z:Seat)(gl:List (Nat×List I))(QT:List (Nat×T))(QU:List (Nat×IntKind))(bs fs ss ms:List Nat)(h1:∀g h,Z.glob g=(find gl g).map (I.ao h))(h2:E5 Z.dS QT=true)(h3:EO Z.P QU=true)(h4:AM Z.P bs=true)(h5:Ac Z.P fs=true)(h6:Az Z.P ss=true)(h7:Be Z.P ms=true):ISeat:=
 {Z with
  gI:=find gl,gI_ok:=h1,ty:=find QT,ik:=find QU,isB:=fun t=>cY t bs
  ty_ok:=fun E t q hE hq=>CP h2 (E,t) (vz hE) q hq
  ik_ok:=fun t k hk=>CX h3 (t,k) (vz hk)
  isB_ok:=fun t ht=>yQ h4 t (cu.1 ht),isF:=fun t=>cY t fs,isF_ok:=fun t ht=>yU h5 t (cu.1 ht),isS:=fun t=>cY t ss,isS_ok:=fun t ht=>yk h6 t (cu.1 ht),isM:=fun t=>cY t ms,isM_ok:=fun t ht=>zi h7 t (cu.1 ht)}
end Go.Ab
namespace Go.Proofs.YtafnhieaeejlcaaDoor
open Go Go.Ab
set_option linter.all false
set_option maxRecDepth 100000
def QT:List (Nat×T):=[(2, .int .i64),(3, .int .i64),(4, .bool),(5, .int .u8),(6, .int .u8),(9, .str),(10, .str),(11, .str),(12, .int .u64),(21, .int .i32),(22, .sl .Truck),(24, .Convoy),(28, .int .i64),(31, .sl (.int .i64)),(35, .sl .Convoy),(37, .bj),(41, .sl (.sl (.int .i64))),(42, .sl .bool),(47, .Span),(48, .sl .Hold),(50, .Truck),(72, .sl .Span),(89, .Hold),(90, .int .u64),(92, .aK),(98, .sl .na),(101, .na),(102, .nB),(112, .int .u64),(117, .cF),(119, .bQ),(127, .bE),(128, .sl .br),(132, .br),(138, .sl .bQ),(142, .sl (.sl .br)),(166, .int .u32),(167, .int .u8),(168, .int .u8),(171, .int .i32),(172, .int .i32)]
def QU:List (Nat×IntKind):=[(2, .i64),(3, .i64),(5, .u8),(6, .u8),(12, .u64),(21, .i32),(28, .i64),(90, .u64),(112, .u64),(166, .u32),(167, .u8),(168, .u8),(171, .i32),(172, .i32)]
def Tz:List Nat:=[1,25,26,27,29,30,33,34,39,40,44,45,51,52,53,55,56,57,59,60,61,62,63,64,66,67,68,69,70,71,74,75,76,78,79,80,81,83,84,85,86,87,93,94,96,97,99,100,105,107,108,109,110,111,113,114,115,120,121,123,124,125,129,130,133,134,135,136,137,139,140,141,143,144,145,146,147,148,149,150,151,152,153,154,155,156,157,158,159,160,169]
def Ti:List Nat:=[9,10,11]
def S9:List Nat:=[4]
def Tu:List (Nat×List I):=[(0,[.int .i64 0, .int .i64 0, .int .i64 1, .int .i64 0, .int .i64 0, .int .i64 1, .int .i64 1, .int .i64 1])]
noncomputable def av:ISeat:=KH cJ Tu QT QU S9 Tz Ti [] (fun g h=>by cases g<;>rfl) (by kernel_rfl) (by kernel_rfl) (by kernel_rfl) (by kernel_rfl) (by kernel_rfl) (by kernel_rfl)
end Go.Proofs.YtafnhieaeejlcaaDoor
