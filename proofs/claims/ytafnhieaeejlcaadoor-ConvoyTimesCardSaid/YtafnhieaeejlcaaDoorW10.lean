/- Walks by computing: what each function of the program that the laws reach gives for what it gets, as plain Lean, and that it is so; without a condition but those that stand in each theorem. -/
import Derived.KernelRfl
import Derived.Test.YtafnhieaeejlcaaDoorW1
import Derived.Test.YtafnhieaeejlcaaDoorW2
import Derived.Test.YtafnhieaeejlcaaDoorW3
import Derived.Test.YtafnhieaeejlcaaDoorW4
import Derived.Test.YtafnhieaeejlcaaDoorW5
import Derived.Test.YtafnhieaeejlcaaDoorW6
import Derived.Test.YtafnhieaeejlcaaDoorW7
import Derived.Test.YtafnhieaeejlcaaDoorW8
import Derived.Test.YtafnhieaeejlcaaDoorW9
set_option linter.all false
namespace Go.Ab
open Go Go.RowKit
noncomputable section
set_option linter.all false
set_option maxHeartbeats 1000000
section
variable {R:Type} {X:Ctx} {Z:ISeat} {r:R}
def IS.set(S:IS)(t:Nat)(d:I):IS:=⟨(t,d)::S.rs,S.gs,S.os⟩
theorem gw(h:Nat→Nat)(S:IS)(t:Nat)(d:I):(S.set t d).aJ h=(S.aJ h).set t (d.b8 h):=by
 unfold IS.set IS.aJ St.set
 congr 1
 exact po (I.b8 h) .undef t d S.rs
def Hs:I→Bool
 | .tup []=>true
 |_=>false
theorem EW{d:I}(h:Hs d=true):d= .tup []:=by
 unfold Hs at h
 split at h
 ·rfl
 ·cases h
theorem BN{κ:Nat→Nat→Option Value}{sv:Nat→Value}{S:St}{a:Act}{w:World}{ops:Array Oper}{o:Oper}(hs:dh X κ sv S a w){j t:Nat}{b:Bool}(hg:o.guard=some (j,b))
 (hj:(ops[j]?).bind (·.dst)=some t)(hb:S.ev X (.tmp t)= .tup []):Region.wanted o (yielded ops a.tmps)=false:=by
 have h1:=hs.ev (.tmp t)
 rw[hb]at h1
 have h2:a.tmps.getD t Go.undef= .tuple #[]:=by
  cases h:a.tmps.getD t Go.undef<;>simp only[Act.eval,h]at h1<;>first|(cases h1;done)|(cases h1 with|tup _ vs hl=>cases hl;rfl)
 have h3:∀v,a.tmps[t]? =some v→v= .tuple #[]:=fun v hv=>by
  rw[Array.getD_eq_getD_getElem?,hv]at h2;simpa using h2
 have h4:yielded ops a.tmps j≠some b:=by
  cases hv:a.tmps[t]?with
  |none=>cases hoj:ops[j]? <;>simp_all [yielded]
  |some v=>rw[h3 v hv]at hv;cases hoj:ops[j]? <;>simp_all [yielded]
 simp only[Region.wanted,hg]
 simpa using h4
theorem Ax{κ:Nat→Nat→Option Value}{γ:Nat→Nat}{sv:Nat→Value}:cS κ γ sv (.tup []) Go.undef:= .tup [] [] .nil
theorem NC{S:St}{ops:Array Oper}{o:Oper}{rest:List Oper}{Q:Exit→St→Prop}{j t:Nat}{b c:Bool}(hg:o.guard=some (j,b))(hj:(ops[j]?).bind (·.dst)=some t)(hb:S.ev X (.tmp t)= .bool c)(hn:(c==b)=false){t' :Nat}(hd:o.dst=some t')
 (hk:WL X ops rest Q (S.set t' (.tup []))):WL X ops (o::rest) Q S:=fun κ sv a w hs=>by
 have hw:=j4 hs hg hj hb
 unfold wpListIn
 rw[if_neg (by rw[hw,hn];simp)]
 rw[hd]
 exact⟨jR,hk κ sv _ w (hs.put (some t') Ax)⟩
theorem MN{S:St}{ops:Array Oper}{o:Oper}{rest:List Oper}{Q:Exit→St→Prop}{j t:Nat}{b:Bool}(hg:o.guard=some (j,b))(hj:(ops[j]?).bind (·.dst)=some t)(hb:S.ev X (.tmp t)= .tup []){t' :Nat}(hd:o.dst=some t')
 (hk:WL X ops rest Q (S.set t' (.tup []))):WL X ops (o::rest) Q S:=fun κ sv a w hs=>by
 have hw:=BN hs hg hj hb
 unfold wpListIn
 rw[if_neg (by rw[hw];simp)]
 rw[hd]
 exact⟨jR,hk κ sv _ w (hs.put (some t') Ax)⟩
theorem N6{S S0:St}{ops:Array Oper}{o:Oper}{rest:List Oper}{Q:Exit→St→Prop}{E:List Ent}{V:List Vl}{j t t' :Nat}{b c:Bool}(hg:o.guard=some (j,b))(hj:(ops[j]?).bind (·.dst)=some t)(hb:S.ev X (.tmp t)= .bool c)(hn:(c==b)=false)(hd:o.dst=some t')
 (hk:WG X Q ops S0 (E++[(⟨[t],[],[]⟩,⟨some t',none,none⟩)]) (V++[⟨.tup [],0, .none⟩]) rest (S.set t' (.tup []))):WG X Q ops S0 E V (o::rest) S:=by
 refine ji rfl (fun hoi T hT κ sv a w hs=> ?_) hk
 have hev:T.ev X (.tmp t)= .bool c:=by rw[gA fun t' e=>by cases e;exact hT.rr t (by simp)];exact hb
 have hw:=j4 hs hg hj hev
 unfold wpOpIn
 rw[hoi]
 simp only
 rw[if_neg (by rw[hw,hn];simp)]
 rw[hd]
 exact⟨jR,κ,sv,hs.put (some t') Ax⟩
theorem MM{S S0:St}{ops:Array Oper}{o:Oper}{rest:List Oper}{Q:Exit→St→Prop}{E:List Ent}{V:List Vl}{j t t' :Nat}{b:Bool}(hg:o.guard=some (j,b))(hj:(ops[j]?).bind (·.dst)=some t)(hb:S.ev X (.tmp t)= .tup [])(hd:o.dst=some t')
 (hk:WG X Q ops S0 (E++[(⟨[t],[],[]⟩,⟨some t',none,none⟩)]) (V++[⟨.tup [],0, .none⟩]) rest (S.set t' (.tup []))):WG X Q ops S0 E V (o::rest) S:=by
 refine ji rfl (fun hoi T hT κ sv a w hs=> ?_) hk
 have hev:T.ev X (.tmp t)= .tup []:=by rw[gA fun t' e=>by cases e;exact hT.rr t (by simp)];exact hb
 have hw:=BN hs hg hj hev
 unfold wpOpIn
 rw[hoi]
 simp only
 rw[if_neg (by rw[hw];simp)]
 rw[hd]
 exact⟨jR,κ,sv,hs.put (some t') Ax⟩
def Cq(l:List Nat):Option Nat→Bool
 |none=>false
 |some i=>c9 i l
def dW(S:IS):List Nat→List Nat
 |[]=>[]
 |p::l=>match S.own p with| .arr _ _ _=>p::dW S l|_=>dW S l
def Lj(E:CEnv Z)(S:IS)(o:Oper):List Nat:=match o.op with
 | .buildSlice _ _ ps=>u6 Z E.nt S (ps.toList.map (·.2))
 | .store _ x y=>(match S.ev Z E.nt x with| .op _ _ _ _ _=>np (S.ev Z E.nt y)|_=>[])
 | .call c=>(match c.callee with
   | .builtin .append=>(match c.args.toList with|[_,y]=>bif Cq E.fz o.dst then[]else np (S.ev Z E.nt y)|_=>[])
   | .builtin .copy=>(match c.args.toList with|[_,y]=>np (S.ev Z E.nt y)|_=>[])
   | .value (.func f)=>(match BI E.FR f with
     |some _=>(match c.args.toList with|x0::_=>(match S.ev Z E.nt x0 with| .bx s _ _=>(match S.own s with| .box l=>fm l|_=>[])|_=>[])|[]=>[])++u6 Z E.nt S (c.args.toList.drop 1)
     |none=>(match findF E.FT f with|some sp=>bif sp.sc then[]else u6 Z E.nt S c.args.toList|none=>bif Cq E.fz o.dst then[]else u6 Z E.nt S c.args.toList))
   | .value x=>(match S.ev Z E.nt x with
     | .fn f l=>(match findF E.FT f with|some sp=>bif sp.sc then[]else fm l++u6 Z E.nt S c.args.toList|none=>[])
     | .mf f l=>(match findF E.FT f with|some sp=>bif sp.sc then[]else fm l++u6 Z E.nt S c.args.toList|none=>[])
     |_=>[])
   |_=>[])
 |_=>[]
theorem lx{h:Nat→Nat}:∀(l:List Nat) (S:IS),(∀p∈l,X.xa p=false)→Wk X (S.aJ h) ((qw S l).aJ h)
 |[],S,_=>Wk.refl _ _
 |p::l,S,hl=>(LH p (hl p (List.mem_cons_self ..))).trans (lx l _ fun p hp=>hl p (List.mem_cons_of_mem _ hp))
def Gc(S:IS)(Z:ISeat)(nt:Nat)(t:Nat)(k:Bool→Option R):Option R:=match S.ev Z nt (.tmp t)with
 | .bool c=>bif c then k true else k false
 |_=>none
theorem F6{S:IS}{nt t:Nat}{k:Bool→Option R}(h:Gc S Z nt t k=some r):∃c,S.ev Z nt (.tmp t)= .bool c∧k c=some r:=by
 unfold Gc at h
 split at h
 ·rename_i c hc
  cases c with
  |true=>exact⟨true,hc,h⟩
  |false=>exact⟨false,hc,h⟩
 ·cases h
structure Fix where
 sl:List (Nat×I)
 pl:List (Nat×IOwn)
def keys{α:Type}:List (Nat×α)→List Nat
 |[]=>[]
 |(i,_)::l=>i::keys l
def OW(F:Fix)(S:IS):Prop:=(∀p∈F.sl,S.get p.1=p.2∧jA p.2=true)∧(∀p∈F.pl,S.own p.1=p.2)
def mW:IOwn→Bool
 | .none=>true
 | .box l=>dV l
 | .arr _ _ _=>true
 | .arrp _ _ _ _ _=>false
 | .mp _=>true
def g1:Option (Nat×Nat)→Option Nat
 |some p=>some p.1
 |none=>none
def o1:Option (Nat×IOwn)→Option Nat
 |some p=>some p.1
 |none=>none
def m6(p:List Nat)(F:Fix)(e:Ef):Bool:= !(Cq p (g1 e.g))&& !(Cq (keys F.sl) e.t)&& !(Cq (keys F.pl) (o1 e.o))
def Inv(p:List Nat)(g0:Nat→Nat)(F:Fix)(h:Nat→Nat)(S:IS):Prop:=(∀s∈p,h s+S.gen s=g0 s)∧OW F S
theorem fF{α:Type}:∀{l:List (Nat×α)} {p:Nat×α},p∈l→p.1∈keys l
 |q::l,p,h=>by
  obtain⟨i,a⟩:=q
  rcases List.mem_cons.1 h with rfl|h
  ·exact List.mem_cons_self ..
  ·exact List.mem_cons_of_mem _ (fF h)
theorem ep{α:Type}{e:α}{i:Nat}{a:α}{l:List (Nat×α)}{j:Nat}(h:j≠i):look e ((i,a)::l) j=look e l j:=by
 simp only[look]
 cases hb:Nat.beq j i with
 |false=>rfl
 |true=>exact absurd (Nat.eq_of_beq_eq_true hb) h
theorem Inv.lu{p:List Nat}{g0:Nat→Nat}{F:Fix}{h:Nat→Nat}{S:IS}{e:Ef}(hi:Inv p g0 F h S)(he:m6 p F e=true):Inv p g0 F h (S.lu e):=by
 obtain⟨t,d,gg,o⟩:=e
 simp only[m6,Bool.and_eq_true,Bool.not_eq_true']at he
 obtain⟨⟨e1,e2⟩,e3⟩:=he
 refine⟨fun g hg=> ?_,fun q hq=> ?_,fun q hq=> ?_⟩
 ·have:=hi.1 g hg
  cases gg with
  |none=>exact this
  |some q=>
   simp only[g1,Cq]at e1
   rw[←this]
   congr 1
   refine ep fun e=> ?_
   rw[←e,cr.2 hg]at e1;cases e1
 ·obtain⟨h1,h2⟩:=hi.2.1 q hq
  refine⟨?_,h2⟩
  cases t with
  |none=>exact h1
  |some t=>
   refine(ep fun e=> ?_).trans h1
   have:=cr.2 (fF hq)
   rw[e]at this
   simp only[Cq]at e2
   rw[this]at e2;cases e2
 ·have h1:=hi.2.2 q hq
  cases o with
  |none=>exact h1
  |some t=>
   refine(ep fun e=> ?_).trans h1
   have:=cr.2 (fF hq)
   rw[e]at this
   simp only[Cq,o1]at e3
   rw[this]at e3;cases e3
theorem AG:∀(l:List Nat) (S:IS),(qw S l).gs=S.gs
 |[],S=>rfl
 |p::l,S=>by
  show(qw (Cs S p) l).gs=_
  rw[AG l]
  unfold Cs
  split<;>rfl
mutual
theorem yC(p g:Nat)(d:I):∀x:I,jA x=true→wu p g d x=x
 | .os _ _,h=>by cases h
 | .bx _ _ _,_=>rfl
 | .op _ _ _ _ _,_=>rfl
 | .ow _ _ _ _ _,_=>rfl
 | .agg l,h=>by simp only[wu,iY p g d l h]
 | .tup l,h=>by simp only[wu,iY p g d l h]
 | .fn _ l,h=>by simp only[wu,iY p g d l h]
 | .mf _ l,h=>by simp only[wu,iY p g d l h]
 | .int _ _,_=>rfl| .bool _,_=>rfl| .str _,_=>rfl| .sl _ _,_=>rfl| .nsl _ _,_=>rfl| .nil,_=>rfl| .rp _ _,_=>rfl| .yl _,_=>rfl| .one,_=>rfl| .undef,_=>rfl
theorem iY(p g:Nat)(d:I):∀l:List I,dV l=true→nB p g d l=l
 |[],_=>rfl
 |x::l,h=>by
  simp only[dV,Bool.and_eq_true]at h
  simp only[nB,yC p g d x h.1,iY p g d l h.2]
end
def uB(F:Fix):List Nat→Bool
 |[]=>true
 |p::l=>(!(c9 p (keys F.pl))&&Nat.blt p XB)&&uB F l
theorem wj(hX:xK X){F:Fix}:∀{l:List Nat},uB F l=true→∀p∈l,X.xa p=false
 |q::l,h,p,hp=>by
  simp only[uB,Bool.and_eq_true]at h
  rcases List.mem_cons.1 hp with rfl|hp
  ·cases hx:X.xa p with
   |false=>rfl
   |true=>
    have h1:=hX p hx
    have h2:=h.1.2
    rw[Nat.blt_eq]at h2
    omega
  ·exact wj hX h.2 p hp
def ud:List (Nat×IOwn)→Bool
 |[]=>true
 |(_,o)::l=>mW o&&ud l
theorem oV:∀{l:List (Nat×IOwn)},ud l=true→∀p∈l,mW p.2=true
 |(i,o)::l,h,p,hp=>by
  simp only[ud,Bool.and_eq_true]at h
  rcases List.mem_cons.1 hp with rfl|hp
  ·exact h.1
  ·exact oV h.2 p hp
theorem FD{F:Fix}:∀(l:List Nat) (S:IS),OW F S→uB F l=true→(∀p∈F.pl,mW p.2=true)→OW F (qw S l)
 |[],S,hc,_,_=>hc
 |p::l,S,hc,hf,hr=>by
  simp only[uB,Bool.and_eq_true,Bool.not_eq_true']at hf
  replace hf:c9 p (keys F.pl)=false∧uB F l=true:=⟨hf.1.1,hf.2⟩
  refine FD l _ ?_ hf.2 hr
  unfold Cs
  split
  ·rename_i E e m hσ
   refine⟨fun q hq=> ?_,fun q hq=> ?_⟩
   ·obtain⟨h1,h2⟩:=hc.1 q hq
    refine⟨?_,h2⟩
    show look .undef (uC _ S.rs) q.1=_
    rw[mq rfl]
    have h3:look .undef S.rs q.1=q.2:=h1
    rw[h3,yC _ _ _ _ h2]
   ·have h1:=hc.2 q hq
    have hne:q.1≠p:=fun e=>by
     have:=cr.2 (fF hq)
     rw[e,hf.1]at this;cases this
    show look .none ((p, .none)::uC _ S.os) q.1=_
    rw[ep hne,mq rfl]
    have h3:look .none S.os q.1=q.2:=h1
    rw[h3]
    have h4:=hr q hq
    cases hq2:q.2 with
    |none=>rfl
    |arrp=>rfl
    |arr=>rfl
    |mp=>rfl
    |box l=>rw[hq2]at h4;simp only[MG,iY _ _ _ _ h4]
  ·exact hc
def okF(F:Fix):Bool:=ud F.pl
def rn(F:Fix)(S:IS)(l:List Nat)(k:IS→Option R):Option R:=aP (uB F l) (k (qw S l))
theorem Inv.qw{p:List Nat}{g0:Nat→Nat}{F:Fix}{h:Nat→Nat}{S:IS}(hF:okF F=true)(hi:Inv p g0 F h S){l:List Nat}(hl:uB F l=true):Inv p g0 F h (Ab.qw S l):=⟨fun g hg=>by
 have:=hi.1 g hg
 simp only[IS.gen,AG]at this⊢
 exact this,FD l S hi.2 hl (oV hF)⟩
theorem Inv.set{p:List Nat}{g0:Nat→Nat}{F:Fix}{h:Nat→Nat}{S:IS}(hi:Inv p g0 F h S){t:Nat}(ht:c9 t (keys F.sl)=false)(d:I):Inv p g0 F h (S.set t d):=by
 refine⟨hi.1,fun q hq=> ?_,hi.2.2⟩
 obtain⟨h1,h2⟩:=hi.2.1 q hq
 refine⟨(ep fun e=> ?_).trans h1,h2⟩
 have:=cr.2 (fF hq)
 rw[e,ht]at this;cases this
def R5(E:CEnv Z)(o:Oper):Option (lE Z.toSeat):=match o.op with
 | .call c=>(match c.callee with| .value (.func f)=>BR E.FX f|_=>none)
 |_=>none
def Jy(s:Nat)(l' :List I):Ef:=⟨none, .undef,none,some (s, .box l')⟩
def Oq(S:IS)(t:Nat)(e:TypeId)(tt:T)(m:List (den tt))(d:I):Ef:=⟨some t,rl t (S.gen t+1) d,some (t,S.gen t+1),some (t, .arr e tt m)⟩
def Rh(E:CEnv Z)(F:Fix)(S:IS)(o:Oper)(k:IS→Option R)(oth:Option R):Option R:=match R5 E o with
 |none=>oth
 |some sp=>(match o.op with
  | .call c=>(match o.dst,c.args.toList with
    |some t,x0::xs=>(match S.ev Z E.nt x0 with
     | .bx s g 0=>live S s g (match S.own s with
       | .box l=>sp.app l (xs.map (S.ev Z E.nt)) (fun l' e tt m d=>aP (!(Nat.beq t s)&&m6 E.pin F (Jy s l')&&m6 E.pin F (Oq S t e tt m d)) (k ((S.lu (Jy s l')).lu (Oq S t e tt m d))))
       |_=>none)
     |_=>none)
    |_,_=>none)
  |_=>none)
theorem NQ{E:CEnv Z}{g0:Nat→Nat}(hX:At X Z E.nt){F:Fix}{S:IS}{o:Oper}{k:IS→Option R}{oth:Option R}{h:Nat→Nat}(hi:Inv E.pin g0 F h S)(hr:Rh E F S o k oth=some r):
 oth=some r∨∃S',k S' =some r∧Inv E.pin g0 F h S'∧∀(ops:Array Oper) (rest:List Oper) (Q:Exit→St→Prop),o.guard=none→WL X ops rest Q (S'.aJ h)→WL X ops (o::rest) Q (S.aJ h):=by
 unfold Rh at hr
 split at hr
 ·exact .inl hr
 rename_i sp hsp
 split at hr
 case h_2=>cases hr
 rename_i c ho
 have hcal:∃f,c.callee= .value (.func f)∧BR E.FX f=some sp:=by
  unfold R5 at hsp
  rw[ho]at hsp
  simp only at hsp
  split at hsp
  ·rename_i f hf;exact⟨f,hf,hsp⟩
  ·cases hsp
 obtain⟨f,hf,hfx⟩:=hcal
 have hff:=BG hfx
 subst hff
 split at hr
 case h_2=>cases hr
 rename_i t x0 xs hd hxs
 split at hr
 case h_2=>cases hr
 rename_i s g hx
 replace hr:=dD hr
 obtain⟨rfl,hr⟩:=hr
 split at hr
 case h_2=>cases hr
 rename_i l hσ
 obtain⟨l',e,tt,m,d,h1,h2⟩:=sp.ok _ _ _ _ hr
 obtain⟨h3,h1⟩:=ai h1
 simp only[Bool.and_eq_true,Bool.not_eq_true']at h3
 obtain⟨⟨hts,p1⟩,p2⟩:=h3
 have p2' :m6 E.pin F (Oq S t e tt m d)=true:=p2
 refine .inr ⟨_,h1,(hi.lu p1).lu p2,fun ops rest Q hg hk=> ?_⟩
 obtain⟨ce,ca,ct⟩:=c
 simp only at hf hxs
 subst hf
 have hca:ca=(x0::xs).toArray:=by rw[←hxs]
 subst hca
 have hne:t≠s:=fun e=>by subst e;rw[Nat.beq_refl]at hts;cases hts
 refine Gz t (s:=s) (g:=h s+S.gen s) hne hg ho (by rw[dJ hX,hx];rfl) rfl (by show(S.own s).bz h=_;rw[hσ];rfl) (by rw[hX.Z];exact h2 h) (by
  rw[eD,List.map_map]
  exact List.map_congr_left fun x _=>dJ hX x) hd (rP h t (S.gen t+1) d).symm ?_
 rw[fD,fD]at hk
 exact hk
def SH(E:CEnv Z)(o:Oper):Option (l7 Z.toSeat):=match o.op with
 | .call c=>(match c.callee with| .value (.func f)=>Da E.FQ f|_=>none)
 |_=>none
def Rb(t:Nat):Nat→List Nat
 |0=>[]
 |n+1=>Rb t n++[t+n*10000]
def Mm(S:IS):List Nat→Bool
 |[]=>true
 |p::l=>(match S.own p with| .none=>true|_=>false)&&Mm S l
def L9(S:IS)(n:Nat):Nat→Nat→Nat
 |t,0=>t
 |t,k+1=>bif Mm S (Rb t n)then t else L9 S n (t+1000000) k
def Aw(S:IS)(t n:Nat):List Nat:=Rb (L9 S n t 8) n
def oE(S:IS)(p:Nat)(q:Gi):Ef:=⟨none, .undef,some (p,S.gen p+1),some (p, .arr q.E q.t q.l)⟩
def Hq:IS→List Nat→List Gi→IS
 |S,p::ps,q::os=>Hq (S.lu (oE S p q)) ps os
 |S,_,_=>S
def JS(p:List Nat)(F:Fix):IS→List Nat→List Gi→Bool
 |S,q::ps,a::os=>m6 p F (oE S q a)&&JS p F (S.lu (oE S q a)) ps os
 |_,_,_=>true
def QD(S:IS)(ps:List Nat)(t:Nat)(d:I):Ef:=⟨some t,EJ (fun i=>(atP ps i,S.gen (atP ps i)+1)) d,none,none⟩
def RJ(E:CEnv Z)(F:Fix)(S:IS)(o:Oper)(k:IS→Option R)(oth:Option R):Option R:=match SH E o with
 |none=>oth
 |some sp=>(match o.op with
  | .call c=>(match o.dst with
    |some t=>sp.app (c.args.toList.map (S.ev Z E.nt)) (fun os d=>aP (Nat.beq (Aw S t os.length).length os.length&&Az (Aw S t os.length)&&JS E.pin F S (Aw S t os.length) os&&m6 E.pin F (QD S (Aw S t os.length) t d)) (k ((Hq S (Aw S t os.length) os).lu (QD S (Aw S t os.length) t d))))
    |none=>none)
  |_=>none)
theorem vv{p:List Nat}{g0:Nat→Nat}{F:Fix}{h:Nat→Nat}:∀{ps:List Nat} {os:List Gi} {S:IS},Inv p g0 F h S→JS p F S ps os=true→Inv p g0 F h (Hq S ps os)
 |[],os,S,hi,_=>by cases os<;>exact hi
 |q::ps,[],S,hi,_=>hi
 |q::ps,a::os,S,hi,hp=>by
  simp only[JS,Bool.and_eq_true]at hp
  exact vv (S:=S.lu (oE S q a)) (hi.lu hp.1) hp.2
theorem th(h:Nat→Nat):∀{ps:List Nat} {os:List Gi} {S:IS},Az ps=true→ps.length=os.length→
 (Hq S ps os).aJ h=⟨(S.aJ h).ρ,pC (nD ps) (fun s=>(S.aJ h).γ s+1) (S.aJ h).γ,pC (nD ps) (fun s=>(Ov os (idxP ps s)).own) (S.aJ h).σ⟩
 |[],[],S,_,_=>rfl
 |[],_::_,S,_,hl=>by cases hl
 |_::_,[],S,_,hl=>by cases hl
 |p::ps,q::os,S,hd,hl=>by
  simp only[Az,Bool.and_eq_true,Bool.not_eq_true']at hd
  have ih:=th h (ps:=ps) (os:=os) (S:=S.lu (oE S p q)) hd.2 (by simpa using hl)
  show(Hq (S.lu (oE S p q)) ps os).aJ h=_
  rw[ih,fD]
  have hγ:((S.aJ h).app (oE S p q).wr ((oE S p q).vl h)).γ=bN (S.aJ h).γ p ((S.aJ h).γ p+1):=by
   show qV (S.aJ h).γ (some p) (h p+(S.gen p+1))=_
   have:h p+(S.gen p+1)=(S.aJ h).γ p+1:=by show _=h p+S.gen p+1;omega
   rw[this];rfl
  have hσ:((S.aJ h).app (oE S p q).wr ((oE S p q).vl h)).σ=bN (S.aJ h).σ p q.SJ.own:=rfl
  have hρ:((S.aJ h).app (oE S p q).wr ((oE S p q).vl h)).ρ=(S.aJ h).ρ:=rfl
  rw[hγ,hσ,hρ]
  congr 1
  ·funext s
   by_cases e:s=p
   ·subst e
    rw[jH hd.1,aj,iM (by simp[nD,Nat.beq_refl])]
   ·have hb:Nat.beq s p=false:=by cases hb:Nat.beq s p with|false=>rfl|true=>exact absurd (Nat.eq_of_beq_eq_true hb) e
    cases hin:nD ps s with
    |true=>rw[iM hin,iM (by simp[nD,hb,hin]),bg _ _ _ _ e]
    |false=>rw[jH hin,jH (by simp[nD,hb,hin]),bg _ _ _ _ e]
  ·funext s
   by_cases e:s=p
   ·subst e
    rw[jH hd.1,aj,iM (by simp[nD,Nat.beq_refl])]
    simp[idxP,Nat.beq_refl,Ov,KI]
   ·have hb:Nat.beq s p=false:=by cases hb:Nat.beq s p with|false=>rfl|true=>exact absurd (Nat.eq_of_beq_eq_true hb) e
    cases hin:nD ps s with
    |true=>
     rw[iM hin,iM (by simp[nD,hb,hin])]
     simp[idxP,hb,Ov,KI]
    |false=>rw[jH hin,jH (by simp[nD,hb,hin]),bg _ _ _ _ e]
theorem MK{E:CEnv Z}{g0:Nat→Nat}(hX:At X Z E.nt){F:Fix}{S:IS}{o:Oper}{k:IS→Option R}{oth:Option R}{h:Nat→Nat}(hi:Inv E.pin g0 F h S)(hr:RJ E F S o k oth=some r):
 oth=some r∨∃S',k S' =some r∧Inv E.pin g0 F h S'∧∀(ops:Array Oper) (rest:List Oper) (Q:Exit→St→Prop),o.guard=none→WL X ops rest Q (S'.aJ h)→WL X ops (o::rest) Q (S.aJ h):=by
 unfold RJ at hr
 split at hr
 ·exact .inl hr
 rename_i sp hsp
 split at hr
 case h_2=>cases hr
 rename_i c ho
 have hcal:∃f,c.callee= .value (.func f)∧Da E.FQ f=some sp:=by
  unfold SH at hsp
  rw[ho]at hsp
  simp only at hsp
  split at hsp
  ·rename_i f hf;exact⟨f,hf,hsp⟩
  ·cases hsp
 obtain⟨f,hf,hfx⟩:=hcal
 have hff:=B8 hfx
 subst hff
 split at hr
 case h_2=>cases hr
 rename_i t hd
 obtain⟨os,d,h1,h2⟩:=sp.ok _ _ _ hr
 obtain⟨h3,h1⟩:=ai h1
 simp only[Bool.and_eq_true]at h3
 obtain⟨⟨⟨q1,q2⟩,q3⟩,q4⟩:=h3
 have q1:=Nat.eq_of_beq_eq_true q1
 refine .inr ⟨_,h1,(vv hi q3).lu q4,fun ops rest Q hg hk=> ?_⟩
 obtain⟨ce,ca,ct⟩:=c
 simp only at hf h2
 subst hf
 refine GU (Aw S t os.length) q2 (os:=Ov os) hg ho (by rw[hX.Z,q1];exact h2 h) (by
  rw[eD,List.map_map]
  exact List.map_congr_left fun x _=>dJ hX x) hd (sQ h (fun i=>(atP (Aw S t os.length) i,S.gen (atP (Aw S t os.length) i)+1)) d).symm ?_
 rw[fD,th h q2 q1]at hk
 exact hk
def PX(E:CEnv Z)(o:Oper):Option (jV Z.toSeat):=match o.op with
 | .call c=>(match c.callee with| .value (.func f)=>Bv E.FW f|_=>none)
 |_=>none
def OE(E:CEnv Z)(F:Fix)(S:IS)(o:Oper)(k:IS→Option R)(oth:Option R):Option R:=match PX E o with
 |none=>oth
 |some sp=>(match o.op with
  | .call c=>(match o.dst,c.args.toList with
    |some t,x0::xs=>(match S.ev Z E.nt x0 with
     | .bx s g 0=>live S s g (match S.own s with
       | .box l=>sp.app l (xs.map (S.ev Z E.nt)) (fun l' os d=>aP (Nat.beq (Aw S t os.length).length os.length&&Az (Aw S t os.length)&& !(nD (Aw S t os.length) s)&&m6 E.pin F (Jy s l')&&JS E.pin F (S.lu (Jy s l')) (Aw S t os.length) os&&m6 E.pin F (QD S (Aw S t os.length) t d)) (k ((Hq (S.lu (Jy s l')) (Aw S t os.length) os).lu (QD S (Aw S t os.length) t d))))
       |_=>none)
     |_=>none)
    |_,_=>none)
  |_=>none)
theorem Ko{E:CEnv Z}{g0:Nat→Nat}(hX:At X Z E.nt){F:Fix}{S:IS}{o:Oper}{k:IS→Option R}{oth:Option R}{h:Nat→Nat}(hi:Inv E.pin g0 F h S)(hr:OE E F S o k oth=some r):
 oth=some r∨∃S',k S' =some r∧Inv E.pin g0 F h S'∧∀(ops:Array Oper) (rest:List Oper) (Q:Exit→St→Prop),o.guard=none→WL X ops rest Q (S'.aJ h)→WL X ops (o::rest) Q (S.aJ h):=by
 unfold OE at hr
 split at hr
 ·exact .inl hr
 rename_i sp hsp
 split at hr
 case h_2=>cases hr
 rename_i c ho
 have hcal:∃f,c.callee= .value (.func f)∧Bv E.FW f=some sp:=by
  unfold PX at hsp
  rw[ho]at hsp
  simp only at hsp
  split at hsp
  ·rename_i f hf;exact⟨f,hf,hsp⟩
  ·cases hsp
 obtain⟨f,hf,hfx⟩:=hcal
 have hff:=BX hfx
 subst hff
 split at hr
 case h_2=>cases hr
 rename_i t x0 xs hd hxs
 split at hr
 case h_2=>cases hr
 rename_i s g hx
 replace hr:=dD hr
 obtain⟨rfl,hr⟩:=hr
 split at hr
 case h_2=>cases hr
 rename_i l hσ
 obtain⟨l',os,d,h1,h2⟩:=sp.ok _ _ _ _ hr
 obtain⟨h3,h1⟩:=ai h1
 simp only[Bool.and_eq_true,Bool.not_eq_true']at h3
 obtain⟨⟨⟨⟨⟨q1,q2⟩,hns⟩,p1⟩,q3⟩,q4⟩:=h3
 have q1:=Nat.eq_of_beq_eq_true q1
 refine .inr ⟨_,h1,(vv (hi.lu p1) q3).lu q4,fun ops rest Q hg hk=> ?_⟩
 obtain⟨ce,ca,ct⟩:=c
 simp only at hf hxs
 subst hf
 have hca:ca=(x0::xs).toArray:=by rw[←hxs]
 subst hca
 refine DG (Aw S t os.length) q2 (os:=Ov os) (s:=s) (g:=h s+S.gen s) hns hg ho (by rw[dJ hX,hx];rfl) rfl (by show(S.own s).bz h=_;rw[hσ];rfl) (by rw[hX.Z,q1];exact h2 h) (by
  rw[eD,List.map_map]
  exact List.map_congr_left fun x _=>dJ hX x) hd (sQ h (fun i=>(atP (Aw S t os.length) i,S.gen (atP (Aw S t os.length) i)+1)) d).symm ?_
 rw[fD,th h q2 q1,fD]at hk
 exact hk
def idxN:List Nat→Nat→Option Nat
 |[],_=>none
 |p::l,s=>bif Nat.beq s p then some 0 else(match idxN l s with|some i=>some (i+1)|none=>none)
def pF:List Nat→Nat→Nat
 |[],_=>0
 |p::_,0=>p
 |_::l,n+1=>pF l n
def AL:Nat→Nat→Option Nat
 |0,_=>none
 |n+1,s=>bif Nat.beq s (XB+n)then some n else AL n s
theorem yh:∀{n s i:Nat},AL n s=some i→i<n∧s=XB+i
 |n+1,s,i,h=>by
  unfold AL at h
  cases hb:Nat.beq s (XB+n)with
  |true=>
   rw[hb]at h
   simp only[cond_true,Option.some.injEq]at h
   subst h
   exact⟨Nat.lt_succ_self _,Nat.eq_of_beq_eq_true hb⟩
  |false=>
   rw[hb]at h
   obtain⟨h1,h2⟩:=yh h
   exact⟨Nat.lt_succ_of_lt h1,h2⟩
mutual
def yO(S:IS)(ps:List Nat):I→Option I
 | .bx s g o=>(match idxN ps s with|some i=>bif Nat.beq g (S.gen s)&& !(fL (S.own s))then some (.bx i 1 o)else none|none=>none)
 | .os s g=>(match idxN ps s with|some i=>bif Nat.beq g (S.gen s)&&fL (S.own s)then some (.os (XB+i) 1)else none|none=>none)
 | .agg l=>(match L3 S ps l with|some l' =>some (.agg l')|none=>none)
 | .fn f l=>(match L3 S ps l with|some l' =>some (.fn f l')|none=>none)
 | .int k n=>some (.int k n)
 | .bool b=>some (.bool b)
 | .str b=>some (.str b)
 | .sl t l=>some (.sl t l)
 | .nsl t l=>some (.nsl t l)
 | .nil=>some .nil
 | .one=>some .one
 | .undef=>some .undef
 | .rp l o=>bif dV l then some (.rp l o)else none
 |_=>none
def L3(S:IS)(ps:List Nat):List I→Option (List I)
 |[]=>some []
 |d::l=>(match yO S ps d with|some d' =>(match L3 S ps l with|some l' =>some (d' ::l')|none=>none)|none=>none)
end
mutual
def lZ(S:IS)(ps:List Nat):I→Option I
 | .bx i g o=>bif Nat.blt i ps.length&&Nat.beq g 1&& !(fL (S.own (pF ps i)))then some (.bx (pF ps i) (S.gen (pF ps i)) o)else none
 | .os s g=>(match AL ps.length s with|some i=>bif Nat.beq g 1&&fL (S.own (pF ps i))then some (.os (pF ps i) (S.gen (pF ps i)))else none|none=>none)
 | .agg l=>(match Ev S ps l with|some l' =>some (.agg l')|none=>none)
 | .fn f l=>(match Ev S ps l with|some l' =>some (.fn f l')|none=>none)
 | .int k n=>some (.int k n)
 | .bool b=>some (.bool b)
 | .str b=>some (.str b)
 | .sl t l=>some (.sl t l)
 | .nsl t l=>some (.nsl t l)
 | .nil=>some .nil
 | .one=>some .one
 | .undef=>some .undef
 | .rp l o=>bif dV l then some (.rp l o)else none
 |_=>none
def Ev(S:IS)(ps:List Nat):List I→Option (List I)
 |[]=>some []
 |d::l=>(match lZ S ps d with|some d' =>(match Ev S ps l with|some l' =>some (d' ::l')|none=>none)|none=>none)
end
mutual
theorem fv(h:Nat→Nat):∀d:I,jA d=true→Pure (d.b8 h)
 | .bx _ _ _,e=>by cases e
 | .os _ _,e=>by cases e
 | .op _ _ _ _ _,e=>by cases e
 | .ow _ _ _ _ _,e=>by cases e
 | .yl _,e=>by cases e
 | .agg l,e=> .agg _ (gT h l e)
 | .tup l,e=> .tup _ (gT h l e)
 | .fn f l,e=> .fn f _ (gT h l e)
 | .mf f l,e=> .mf f _ (gT h l e)
 | .rp l o,e=> .rp _ o (gT h l e)
 | .int _ _,_=> .int _ _| .bool _,_=> .bool _| .str _,_=> .str _| .sl t l,_=> .sl _ _ _ (fun i _=>cz t _)| .nsl t l,_=>(by show Pure (OQ t l);cases l with|nil=>exact .nil|cons=>exact .sl _ _ _ (fun i _=>cz t _))| .nil,_=> .nil| .one,_=> .one| .undef,_=> .undef
theorem gT(h:Nat→Nat):∀l:List I,dV l=true→∀d∈I.av h l,Pure d
 |[],_,d,hd=>by cases hd
 |x::l,e,d,hd=>by
  simp only[dV,Bool.and_eq_true]at e
  rcases List.mem_cons.1 hd with rfl|hd
  ·exact fv h x e.1
  ·exact gT h l e.2 d hd
end
theorem idxN_eq:∀{l:List Nat} {s i:Nat},idxN l s=some i→i<l.length∧pF l i=s
 |p::l,s,i,e=>by
  unfold idxN at e
  cases hb:Nat.beq s p with
  |true=>rw[hb]at e;simp only[cond_true,Option.some.injEq]at e;subst e;exact⟨by simp,(Nat.eq_of_beq_eq_true hb).symm⟩
  |false=>
   rw[hb]at e
   simp only[cond_false]at e
   split at e
   ·rename_i j hj
    simp only[Option.some.injEq]at e
    subst e
    obtain⟨h1,h2⟩:=idxN_eq hj
    exact⟨by simp;omega,h2⟩
   ·cases e
def G1(S:IS)(ps:List Nat):Nat→Nat:=fun i=>bif fL (S.own (pF ps i))then XB+i else i
section
variable {S:IS} {ps:List Nat} {h:Nat→Nat}
abbrev gF(S:IS)(h:Nat→Nat)(ps:List Nat):Nat→Nat:=fun j=>h (pF ps j)+S.gen (pF ps j)
mutual
theorem Ni{q:Nat→Nat}(hq:∀i,i<ps.length→q i=G1 S ps i):∀{d d' :I},yO S ps d=some d'→Rn ps.length (pF ps) (gF S h ps) q one (d.b8 h) (d'.b8 zh)
 | .bx s g o,d',e=>by
   unfold yO at e
   split at e
   ·rename_i i hi
    cases hb:Nat.beq g (S.gen s)&& !(fL (S.own s))with
    |false=>rw[hb]at e;cases e
    |true=>
     rw[hb]at e
     simp only[cond_true,Option.some.injEq]at e
     subst e
     simp only[Bool.and_eq_true,Bool.not_eq_true']at hb
     have:=Nat.eq_of_beq_eq_true hb.1
     subst this
     obtain⟨h1,h2⟩:=idxN_eq hi
     have h3:=Rn.bx (n:=ps.length) (p:=pF ps) (g:=gF S h ps) (p' :=q) (g' :=one) i o h1
     have h4:q i=i:=by rw[hq i h1];unfold G1;rw[h2,hb.2];rfl
     simp only[gF,h2,h4]at h3
     exact h3
   ·cases e
 | .os s g,d',e=>by
   unfold yO at e
   split at e
   ·rename_i i hi
    cases hb:Nat.beq g (S.gen s)&&fL (S.own s)with
    |false=>rw[hb]at e;cases e
    |true=>
     rw[hb]at e
     simp only[cond_true,Option.some.injEq]at e
     subst e
     simp only[Bool.and_eq_true]at hb
     have:=Nat.eq_of_beq_eq_true hb.1
     subst this
     obtain⟨h1,h2⟩:=idxN_eq hi
     have h3:=Rn.os (n:=ps.length) (p:=pF ps) (g:=gF S h ps) (p' :=q) (g' :=one) i h1
     have h4:q i=XB+i:=by rw[hq i h1];unfold G1;rw[h2,hb.2];rfl
     simp only[gF,h2,h4]at h3
     exact h3
   ·cases e
 | .agg l,d',e=>by
   unfold yO at e
   split at e
   ·rename_i l' hl
    simp only[Option.some.injEq]at e
    subst e
    exact .agg _ _ (vh hq hl)
   ·cases e
 | .fn f l,d',e=>by
   unfold yO at e
   split at e
   ·rename_i l' hl
    simp only[Option.some.injEq]at e
    subst e
    exact .fn f _ _ (vh hq hl)
   ·cases e
 | .rp l o,d',e=>by
   unfold yO at e
   cases hn:dV l with
   |false=>rw[hn]at e;cases e
   |true=>
    rw[hn]at e
    simp only[cond_true,Option.some.injEq]at e
    subst e
    rw[lf h zh (.rp l o) hn]
    exact .pure _ (fv zh (.rp l o) hn)
 | .int k n,d',e=>by simp only[yO,Option.some.injEq]at e;subst e;exact .pure _ (.int _ _)
 | .bool b,d',e=>by simp only[yO,Option.some.injEq]at e;subst e;exact .pure _ (.bool _)
 | .str b,d',e=>by simp only[yO,Option.some.injEq]at e;subst e;exact .pure _ (.str _)
 | .sl t l,d',e=>by simp only[yO,Option.some.injEq]at e;subst e;exact .pure _ (fv h (.sl t l) rfl)
 | .nsl t l,d',e=>by simp only[yO,Option.some.injEq]at e;subst e;exact .pure _ (fv h (.nsl t l) rfl)
 | .nil,d',e=>by simp only[yO,Option.some.injEq]at e;subst e;exact .pure _ .nil
 | .one,d',e=>by simp only[yO,Option.some.injEq]at e;subst e;exact .pure _ .one
 | .undef,d',e=>by simp only[yO,Option.some.injEq]at e;subst e;exact .pure _ .undef
 | .tup l,d',e=>by simp only[yO]at e;cases e
 | .op _ _ _ _ _,d',e=>by simp only[yO]at e;cases e
 | .ow _ _ _ _ _,d',e=>by simp only[yO]at e;cases e
 | .yl _,d',e=>by simp only[yO]at e;cases e
 | .mf _ _,d',e=>by simp only[yO]at e;cases e
theorem vh{q:Nat→Nat}(hq:∀i,i<ps.length→q i=G1 S ps i):∀{l l' :List I},L3 S ps l=some l'→vW ps.length (pF ps) (gF S h ps) q one (I.av h l) (I.av zh l')
 |[],l',e=>by simp only[L3,Option.some.injEq]at e;subst e;exact .nil
 |d::l,m,e=>by
  unfold L3 at e
  split at e
  ·rename_i d' hd
   split at e
   ·rename_i l' hl
    simp only[Option.some.injEq]at e
    subst e
    exact .cons _ _ _ _ (Ni hq hd) (vh hq hl)
   ·cases e
  ·cases e
end
mutual
theorem Ly{q:Nat→Nat}(hq:∀i,i<ps.length→q i=G1 S ps i):∀{d d' :I},lZ S ps d=some d'→Rn ps.length q one (pF ps) (gF S h ps) (d.b8 zh) (d'.b8 h)
 | .bx i g o,d',e=>by
   unfold lZ at e
   cases hb:Nat.blt i ps.length&&Nat.beq g 1&& !(fL (S.own (pF ps i)))with
   |false=>rw[hb]at e;cases e
   |true=>
    rw[hb]at e
    simp only[cond_true,Option.some.injEq]at e
    subst e
    simp only[Bool.and_eq_true,Bool.not_eq_true']at hb
    have:=Nat.eq_of_beq_eq_true hb.1.2
    subst this
    have h1:i<ps.length:=by simpa[Nat.blt_eq]using hb.1.1
    have h3:=Rn.bx (n:=ps.length) (p:=q) (g:=one) (p' :=pF ps) (g' :=gF S h ps) i o h1
    have h4:q i=i:=by rw[hq i h1];unfold G1;rw[hb.2];rfl
    rw[h4]at h3
    exact h3
 | .os s g,d',e=>by
   unfold lZ at e
   split at e
   ·rename_i i hi
    cases hb:Nat.beq g 1&&fL (S.own (pF ps i))with
    |false=>rw[hb]at e;cases e
    |true=>
     rw[hb]at e
     simp only[cond_true,Option.some.injEq]at e
     subst e
     simp only[Bool.and_eq_true]at hb
     have:=Nat.eq_of_beq_eq_true hb.1
     subst this
     obtain⟨h1,rfl⟩:=yh hi
     have h3:=Rn.os (n:=ps.length) (p:=q) (g:=one) (p' :=pF ps) (g' :=gF S h ps) i h1
     have h4:q i=XB+i:=by rw[hq i h1];unfold G1;rw[hb.2];rfl
     rw[h4]at h3
     exact h3
   ·cases e
 | .agg l,d',e=>by
   unfold lZ at e
   split at e
   ·rename_i l' hl
    simp only[Option.some.injEq]at e
    subst e
    exact .agg _ _ (uV hq hl)
   ·cases e
 | .fn f l,d',e=>by
   unfold lZ at e
   split at e
   ·rename_i l' hl
    simp only[Option.some.injEq]at e
    subst e
    exact .fn f _ _ (uV hq hl)
   ·cases e
 | .rp l o,d',e=>by
   unfold lZ at e
   cases hn:dV l with
   |false=>rw[hn]at e;cases e
   |true=>
    rw[hn]at e
    simp only[cond_true,Option.some.injEq]at e
    subst e
    rw[lf h zh (.rp l o) hn]
    exact .pure _ (fv zh (.rp l o) hn)
 | .int k n,d',e=>by simp only[lZ,Option.some.injEq]at e;subst e;exact .pure _ (.int _ _)
 | .bool b,d',e=>by simp only[lZ,Option.some.injEq]at e;subst e;exact .pure _ (.bool _)
 | .str b,d',e=>by simp only[lZ,Option.some.injEq]at e;subst e;exact .pure _ (.str _)
 | .sl t l,d',e=>by simp only[lZ,Option.some.injEq]at e;subst e;exact .pure _ (fv h (.sl t l) rfl)
 | .nsl t l,d',e=>by simp only[lZ,Option.some.injEq]at e;subst e;exact .pure _ (fv h (.nsl t l) rfl)
 | .nil,d',e=>by simp only[lZ,Option.some.injEq]at e;subst e;exact .pure _ .nil
 | .one,d',e=>by simp only[lZ,Option.some.injEq]at e;subst e;exact .pure _ .one
 | .undef,d',e=>by simp only[lZ,Option.some.injEq]at e;subst e;exact .pure _ .undef
 | .tup l,d',e=>by simp only[lZ]at e;cases e
 | .op _ _ _ _ _,d',e=>by simp only[lZ]at e;cases e
 | .ow _ _ _ _ _,d',e=>by simp only[lZ]at e;cases e
 | .yl _,d',e=>by simp only[lZ]at e;cases e
 | .mf _ _,d',e=>by simp only[lZ]at e;cases e
theorem uV{q:Nat→Nat}(hq:∀i,i<ps.length→q i=G1 S ps i):∀{l l' :List I},Ev S ps l=some l'→vW ps.length q one (pF ps) (gF S h ps) (I.av zh l) (I.av h l')
 |[],l',e=>by simp only[Ev,Option.some.injEq]at e;subst e;exact .nil
 |d::l,m,e=>by
  unfold Ev at e
  split at e
  ·rename_i d' hd
   split at e
   ·rename_i l' hl
    simp only[Option.some.injEq]at e
    subst e
    exact .cons _ _ _ _ (Ly hq hd) (uV hq hl)
   ·cases e
  ·cases e
end
end
mutual
theorem Rn.symm{n:Nat}{p g p' g' :Nat→Nat}:∀{d d' :D},Rn n p g p' g' d d'→Rn n p' g' p g d' d
 |_,_, .pure d hd=> .pure d hd
 |_,_, .bx i o hi=> .bx i o hi
 |_,_, .os i hi=> .os i hi
 |_,_, .agg l l' hl=> .agg _ _ (vW.symm hl)
 |_,_, .fn f c c' hl=> .fn f _ _ (vW.symm hl)
theorem vW.symm{n:Nat}{p g p' g' :Nat→Nat}:∀{l l' :List D},vW n p g p' g' l l'→vW n p' g' p g l' l
 |_,_, .nil=> .nil
 |_,_, .cons d d' l l' a b=> .cons _ _ _ _ (Rn.symm a) (vW.symm b)
end
theorem nk.symm{n:Nat}{p g p' g' :Nat→Nat}{o o' :Own}(h:nk n p g p' g' o o'):nk n p' g' p g o' o:=by
 cases h with
 |box l l' hl=>exact .box _ _ hl.symm
 |arr E z m f hf=>exact .arr _ _ _ _ hf
def oP:List Nat→Bool
 |[]=>true
 |p::l=> !(c9 p l)&&oP l
theorem DY:∀{l:List Nat} {i:Nat},i<l.length→pF l i∈l
 |p::l,0,_=>List.mem_cons_self ..
 |p::l,i+1,h=>List.mem_cons_of_mem _ (DY (by simpa using h))
theorem qo:∀{l:List Nat},oP l=true→∀i j,i<l.length→j<l.length→pF l i=pF l j→i=j
 |p::l,h,0,0,_,_,_=>rfl
 |p::l,h,0,j+1,_,hj,e=>by
  simp only[oP,Bool.and_eq_true,Bool.not_eq_true']at h
  have h1:pF l j∈l:=DY (by simpa using hj)
  have e:p=pF l j:=e
  rw[←e]at h1
  rw[cr.2 h1]at h;cases h.1
 |p::l,h,i+1,0,hi,_,e=>by
  simp only[oP,Bool.and_eq_true,Bool.not_eq_true']at h
  have h1:pF l i∈l:=DY (by simpa using hi)
  have e:pF l i=p:=e
  rw[e]at h1
  rw[cr.2 h1]at h;cases h.1
 |p::l,h,i+1,j+1,hi,hj,e=>by
  simp only[oP,Bool.and_eq_true]at h
  rw[qo h.2 i j (by simpa using hi) (by simpa using hj) e]
def Eb:List I→List Nat→List Nat
 |[],acc=>acc
 | .bx p _ _::l,acc=>Eb l (bif c9 p acc then acc else acc++[p])
 | .os p _::l,acc=>Eb l (bif c9 p acc then acc else acc++[p])
 |_::l,acc=>Eb l acc
def Qc(S:IS):List Nat→List Nat→List Nat
 |[],acc=>acc
 |p::l,acc=>Qc S l (match S.own p with| .box m=>Eb m acc|_=>acc)
def P2(S:IS)(vs:List I):List Nat:=Qc S (Eb vs []) (Eb vs [])
def Hv(S:IS)(ps:List Nat):IOwn→Option IOwn
 | .box m=>(match L3 S ps m with|some m' =>some (.box m')|none=>none)
 | .arr E t l=>some (.arr E t l)
 |_=>none
def OX(S:IS)(ps:List Nat):List Nat→Option (List IOwn)
 |[]=>some []
 |p::l=>(match Hv S ps (S.own p),OX S ps l with
  |some o,some ls=>some (o::ls)
  |_,_=>none)
def Ma(S:IS)(ps:List Nat):IOwn→IOwn→Option IOwn
 | .box _, .box m=>(match Ev S ps m with|some m' =>some (.box m')|none=>none)
 | .arr _ _ _, .arr E t l=>some (.arr E t l)
 |_,_=>none
def mE(p:Nat)(o:IOwn):Ef:=⟨none, .undef,none,some (p,o)⟩
def EF(pin:List Nat)(F:Fix)(S0:IS)(ps:List Nat):IS→List Nat→List IOwn→Option IS
 |S,i::wr,l::ls=>(match Ma S0 ps (S0.own (pF ps i)) l with
  |some m=>bif Nat.blt i ps.length&&m6 pin F (mE (pF ps i) m)then EF pin F S0 ps (S.lu (mE (pF ps i) m)) wr ls else none
  |none=>none)
 |S,[],[]=>some S
 |_,_,_=>none
def SR:Nat→List Nat→List I→List Nat
 |_,_,[]=>[]
 |i,ka,d::l=>(bif c9 i ka then[]else np d)++SR (i+1) ka l
def Sl(S:IS):Nat→List Nat→List Nat→List Nat
 |_,_,[]=>[]
 |i,kb,p::l=>(match S.own p with| .box m=>bif c9 i kb then[]else fm m|_=>[])++Sl S (i+1) kb l
def SE:Nat→List Nat→List I→List I
 |_,_,[]=>[]
 |i,ka,d::l=>(bif c9 i ka then d else(match d with| .os _ _=> .undef|d=>d))::SE (i+1) ka l
def QT(E:CEnv Z)(F:Fix)(S:IS)(t:Nat)(x:Operand)(args:List Operand)(sp:kQ Z.toSeat)(k:IS→Option R):Option R:=match S.ev Z E.nt x with
 | .fn f cc=>bif Nat.beq sp.f f then
    (let ps:=P2 S (args.map (S.ev Z E.nt)++cc)
     bif oP ps&&Nat.blt ps.length XB then(match OX S ps ps,L3 S ps (args.map (S.ev Z E.nt)++cc)with
    |some ls,some A=>sp.app ls A (fun ls' d=>aP (jA d) (match EF E.pin F S ps S sp.wr ls' with
     |some S' =>aP (m6 E.pin F (vE t d)) (k (S'.lu (vE t d)))
     |none=>none))
    |_,_=>none)else none)else none
 |_=>none
def mC(E:CEnv Z)(F:Fix)(S:IS)(o:Oper)(k:IS→Option R)(oth:Option R):Option R:=match o.op with
 | .call c=>(match c.callee with
   | .value x=>(match S.ev Z E.nt x,o.dst with
     | .fn f cc,some t=>(match HY E.FM f with
       |some sp=>rn F S (dW S (SR 0 sp.ka (c.args.toList.map (S.ev Z E.nt))++Sl S 0 sp.kb (Eb (SE 0 sp.ka (c.args.toList.map (S.ev Z E.nt))++cc) []))) (fun S=>QT E F S t x c.args.toList sp k)
       |none=>oth)
     |_,_=>oth)
   |_=>oth)
 |_=>oth
theorem Kv{S:IS}{ps:List Nat}{h:Nat→Nat}{q:Nat→Nat}(hq:∀i,i<ps.length→q i=G1 S ps i){o o' :IOwn}(e:Hv S ps o=some o'):nk ps.length (pF ps) (gF S h ps) q one (o.bz h) (o'.bz zh)∧fL o' =fL o:=by
 unfold Hv at e
 split at e
 ·split at e
  ·rename_i m m' hm
   simp only[Option.some.injEq]at e
   subst e
   exact⟨.box _ _ (vh hq hm),rfl⟩
  ·cases e
 ·simp only[Option.some.injEq]at e
  subst e
  exact⟨.arr _ _ _ _ (fun i _=>cz _ _),rfl⟩
 ·cases e
theorem AQ{S:IS}{ps:List Nat}:∀{l:List Nat} {ls:List IOwn},OX S ps l=some ls→ls.length=l.length∧∀i,i<l.length→∃o,Hv S ps (S.own (pF l i))=some o∧nthW ls i=o
 |[],ls,e=>by simp only[OX,Option.some.injEq]at e;subst e;exact⟨rfl,fun i hi=>by simp at hi⟩
 |p::l,ls,e=>by
  unfold OX at e
  split at e
  ·rename_i o ls' ho hls
   simp only[Option.some.injEq]at e
   subst e
   obtain⟨h1,h2⟩:=AQ hls
   refine⟨by simp[h1],fun i hi=> ?_⟩
   cases i with
   |zero=>exact⟨o,ho,rfl⟩
   |succ i=>exact h2 i (by simpa using hi)
  ·cases e
theorem H5{S:IS}{ps:List Nat}{o o' :IOwn}(e:Hv S ps o=some o'):fL o' =fL o:=by
 unfold Hv at e
 split at e
 ·split at e
  ·simp only[Option.some.injEq]at e;subst e;rfl
  ·cases e
 ·simp only[Option.some.injEq]at e;subst e;rfl
 ·cases e
theorem Ob{S:IS}{ps:List Nat}{ls:List IOwn}(e:OX S ps ps=some ls):∀i,i<ps.length→qM ls i=G1 S ps i:=fun i hi=>by
 obtain⟨o,h1,h2⟩:=(AQ e).2 i hi
 unfold qM G1
 rw[h2,H5 h1]
theorem FZ{pin:List Nat}{F:Fix}{S0:IS}{ps:List Nat}{h g0 q:Nat→Nat}(hnd:oP ps=true)(hq:∀i,i<ps.length→q i=G1 S0 ps i):∀{wr:List Nat} {ls:List IOwn} {S S' :IS} {Fn:Nat→Own},EF pin F S0 ps S wr ls=some S'→Inv pin g0 F h S→
 (∀i,i<ps.length→nk ps.length q one (pF ps) (gF S0 h ps) (Fn i) ((S.own (pF ps i)).bz h))→
 Inv pin g0 F h S'∧S'.rs=S.rs∧S'.gs=S.gs∧(∀s,(∀i,i<ps.length→pF ps i≠s)→S'.own s=S.own s)∧(∀i,i<ps.length→nk ps.length q one (pF ps) (gF S0 h ps) (uD wr ls Fn i) ((S'.own (pF ps i)).bz h))
 |[],[],S,S',Fn,e,hi,hb=>by simp only[EF,Option.some.injEq]at e;subst e;exact⟨hi,rfl,rfl,fun _ _=>rfl,hb⟩
 |[],_::_,S,S',Fn,e,hi,hb=>by simp only[EF]at e;cases e
 |_::_,[],S,S',Fn,e,hi,hb=>by simp only[EF]at e;cases e
 |i::wr,l::ls,S,S',Fn,e,hi,hb=>by
  simp only[EF]at e
  split at e
  ·rename_i m hm
   cases hc:Nat.blt i ps.length&&m6 pin F (mE (pF ps i) m)with
   |false=>rw[hc]at e;cases e
   |true=>
    rw[hc]at e
    simp only[cond_true]at e
    simp only[Bool.and_eq_true]at hc
    have hil:i<ps.length:=by simpa[Nat.blt_eq]using hc.1
    have hml:nk ps.length q one (pF ps) (gF S0 h ps) (l.bz zh) (m.bz h):=by
     unfold Ma at hm
     split at hm
     ·split at hm
      ·rename_i a b hb2
       simp only[Option.some.injEq]at hm
       subst hm
       exact .box _ _ (uV hq hb2)
      ·cases hm
     ·simp only[Option.some.injEq]at hm
      subst hm
      exact .arr _ _ _ _ (fun i _=>cz _ _)
     ·cases hm
    obtain⟨q1,q2,q3,q4,q5⟩:=FZ (h:=h) hnd hq (Fn:=fun j=>bif Nat.beq j i then l.bz zh else Fn j) e (hi.lu hc.2) (fun j hj=>by
     by_cases ej:j=i
     ·subst ej
      have e1:(S.lu (mE (pF ps j) m)).own (pF ps j)=m:=by
       show look .none ((pF ps j,m)::S.os) (pF ps j)=_
       simp only[look,Nat.beq_refl,cond_true]
      simp only[Nat.beq_refl,cond_true,e1]
      exact hml
     ·have hne:pF ps j≠pF ps i:=fun e2=>ej (qo hnd j i hj hil e2)
      have e1:(S.lu (mE (pF ps i) m)).own (pF ps j)=S.own (pF ps j):=ep hne
      have:Nat.beq j i=false:=by
       cases hbq:Nat.beq j i with
       |false=>rfl
       |true=>exact absurd (Nat.eq_of_beq_eq_true hbq) ej
      simp only[this,cond_false,e1]
      exact hb j hj)
    exact⟨q1,q2,q3,fun s hs=>(q4 s hs).trans (ep (fun e2=>hs i hil e2.symm)),q5⟩
  ·cases e
theorem M7{E:CEnv Z}{g0:Nat→Nat}(hX:At X Z E.nt){F:Fix}{S:IS}{o:Oper}{t:Nat}{x:Operand}{args:Array Operand}{ts:Array TypeId}{sp:kQ Z.toSeat}{k:IS→Option R}{h:Nat→Nat}(ho:o.op= .call {callee:= .value x,args:=args,argTypes:=ts})(hd:o.dst=some t)(hi:Inv E.pin g0 F h S)(hr:QT E F S t x args.toList sp k=some r):
 ∃S',k S' =some r∧Inv E.pin g0 F h S'∧∀(ops:Array Oper) (rest:List Oper) (Q:Exit→St→Prop),o.guard=none→WL X ops rest Q (S'.aJ h)→WL X ops (o::rest) Q (S.aJ h):=by
 unfold QT at hr
 split at hr
 case h_2=>cases hr
 rename_i f cc hx
 cases hf:Nat.beq sp.f f with
 |false=>rw[hf]at hr;cases hr
 |true=>
 rw[hf]at hr
 have hf:=Nat.eq_of_beq_eq_true hf
 subst hf
 simp only[cond_true]at hr
 generalize P2 S (args.toList.map (S.ev Z E.nt)++cc)=ps at hr
 cases hnd:oP ps&&Nat.blt ps.length XB with
 |false=>rw[hnd]at hr;cases hr
 |true=>
 rw[hnd]at hr
 simp only[cond_true]at hr
 simp only[Bool.and_eq_true,Nat.blt_eq]at hnd
 obtain⟨hnd,hXB⟩:=hnd
 split at hr
 case h_2=>cases hr
 rename_i ls A hls hA
 obtain⟨ls',d,h1,h2⟩:=sp.ok _ _ _ _ hr
 obtain⟨hnr,h1⟩:=ai h1
 split at h1
 case h_2=>cases h1
 rename_i S' hS'
 obtain⟨hp,h1⟩:=ai h1
 obtain⟨l1,l2⟩:=AQ hls
 have hq:=Ob hls
 rw[l1]at h2
 have hin:∀i,i<ps.length→nk ps.length (pF ps) (gF S h ps) (qM ls) one ((S.own (pF ps i)).bz h) (uJ ls i):=fun i hi=>by
  obtain⟨o',a1,a2⟩:=l2 i hi
  have:=(Kv (h:=h) hq a1).1
  unfold uJ
  rw[a2];exact this
 obtain⟨q1,q2,q3,q4,q5⟩:=FZ (h:=h) hnd hq (Fn:=uJ ls) hS' hi (fun i hi=>(hin i hi).symm)
 refine⟨_,h1,q1.lu hp,fun ops rest Q hg hk=> ?_⟩
 have hx' :(S.aJ h).ev X x= .fn sp.f (I.av h cc):=by rw[dJ hX,hx];rfl
 refine Jz (X:=X) (S:=S.aJ h) (ps:=pF ps) (n:=ps.length) (q:=qM ls) (os:=uJ ls) (os' :=uD sp.wr ls' (uJ ls)) (A:=I.av zh A) (R:=d.b8 zh) (σ' :=fun s=>(S'.own s).bz h) (fun i j hi hj e=>qo hnd i j hi hj e) (fun i j hi hj e=> ?_) hg ho hx' (fun i hi=>hin i hi) ?_ (by rw[hX.Z];exact h2) hd (fun s hs=> ?_) (fun i hi=>q5 i hi) ?_
 ·rw[hq i hi,hq j hj]at e
  unfold G1 at e
  cases h1:fL (S.own (pF ps i))<;>cases h2:fL (S.own (pF ps j))<;>(rw[h1,h2]at e;simp only[cond_true,cond_false]at e)<;>omega
 ·have:=vh (h:=h) hq hA
  rw[oN,eD,List.map_map]at this
  have e:args.toList.map ((I.b8 h)∘(S.ev Z E.nt))=args.toList.map ((S.aJ h).ev X):=List.map_congr_left fun x _=>(dJ hX x).symm
  rw[e]at this
  exact this
 ·show(S'.own s).bz h=(S.own s).bz h
  rw[q4 s hs]
 ·rw[fD]at hk
  have e1:(S'.aJ h).ρ=(S.aJ h).ρ:=by funext i;show(look .undef S'.rs i).b8 h=_;rw[q2];rfl
  have e2:(S'.aJ h).γ=(S.aJ h).γ:=by funext i;show h i+look 0 S'.gs i=_;rw[q3];rfl
  have e3:((S'.aJ h).app (Ef.wr (vE t d)) (Ef.vl h (vE t d)))=⟨bN (S'.aJ h).ρ t (d.b8 h),(S'.aJ h).γ,(S'.aJ h).σ⟩:=rfl
  rw[e3,e1,e2,lf h zh d hnr]at hk
  exact hk
theorem L5{E:CEnv Z}{g0:Nat→Nat}(hX:At X Z E.nt){F:Fix}(hF:okF F=true){S:IS}{o:Oper}{k:IS→Option R}{oth:Option R}{h:Nat→Nat}(hi:Inv E.pin g0 F h S)(hr:mC E F S o k oth=some r):
 oth=some r∨∃S',k S' =some r∧Inv E.pin g0 F h S'∧∀(ops:Array Oper) (rest:List Oper) (Q:Exit→St→Prop),o.guard=none→WL X ops rest Q (S'.aJ h)→WL X ops (o::rest) Q (S.aJ h):=by
 unfold mC at hr
 split at hr
 case h_2=>exact .inl hr
 rename_i c ho
 obtain⟨ce,args,ts⟩:=c
 simp only at hr
 split at hr
 case h_2=>exact .inl hr
 rename_i x
 split at hr
 case h_2=>exact .inl hr
 rename_i f cc t hx hd
 split at hr
 case h_2=>exact .inl hr
 rename_i sp hsp
 unfold rn at hr
 obtain⟨hfz,hr⟩:=ai hr
 obtain⟨S',k1,k2,k3⟩:=M7 hX ho hd (hi.qw hF hfz) hr
 exact .inr ⟨S',k1,k2,fun ops rest Q hg hk=>L8 (lx _ S (wj hX.xa hfz)) (k3 ops rest Q hg hk)⟩
def ri(z:Bool)(a b:Option R):Option R:=open Classical in if z=true→a=b then b else none
theorem IH{z:Bool}{a b:Option R}{r:R}(h:ri z a b=some r):b=some r∧(z=true→a=some r):=by
 unfold ri at h
 split at h
 ·rename_i hz;exact⟨h,fun e=>(hz e).trans h⟩
 ·cases h
theorem wX{z:Bool}{a b:Option R}(h:z=true→a=b):ri z a b=b:=by unfold ri;rw[if_pos h]
def nC(E:CEnv Z)(F:Fix)(S:IS)(o:Oper)(k:IS→Option R)(oth:Option R):Option R:=match o.op,o.dst with
 | .binOp .eql T x y _,some t=>(match S.ev Z E.nt x,S.ev Z E.nt y with
   | .sl ty l, .nil=>rowOf Z T fun q=>aP (Nat.beq q.k 3&& !(c9 t (keys F.sl))) (ri l.isEmpty (k (S.set t (.bool true))) (k (S.set t (.bool false))))
   |_,_=>oth)
 |_,_=>oth
theorem Pf{E:CEnv Z}{g0:Nat→Nat}(hX:At X Z E.nt){F:Fix}{S:IS}{o:Oper}{k:IS→Option R}{oth:Option R}{h:Nat→Nat}(hi:Inv E.pin g0 F h S)(hr:nC E F S o k oth=some r):
 oth=some r∨∃(t:Nat) (P:Prop),Inv E.pin g0 F h (S.set t (.bool true))∧Inv E.pin g0 F h (S.set t (.bool false))∧(P→k (S.set t (.bool true))=some r)∧k (S.set t (.bool false))=some r∧
  ∀(ops:Array Oper) (rest:List Oper) (Q:Exit→St→Prop),o.guard=none→(P→WL X ops rest Q ((S.set t (.bool true)).aJ h))→WL X ops rest Q ((S.set t (.bool false)).aJ h)→WL X ops (o::rest) Q (S.aJ h):=by
 unfold nC at hr
 split at hr
 case h_2=>exact .inl hr
 rename_i tx x y ty2 t ho hd
 split at hr
 case h_2=>exact .inl hr
 rename_i te l hx hy
 obtain⟨q,hq,_,hr⟩:=cn hr
 obtain⟨ht,hr⟩:=ai hr
 simp only[Bool.and_eq_true,Bool.not_eq_true']at ht
 obtain⟨hk3,ht⟩:=ht
 obtain⟨h1,h2⟩:=IH hr
 refine .inr ⟨t,l.isEmpty=true,hi.set ht _,hi.set ht _,h2,h1,fun ops rest Q hg ht hf=> ?_⟩
 have hx' :(S.aJ h).ev X x=Kg te l:=by rw[dJ hX,hx];rfl
 have hy' :(S.aJ h).ev X y= .nil:=by rw[dJ hX,hy];rfl
 rw[gw]at hf
 refine H9 hg ho hd (by rw[hX.Z];exact hq) hk3 hx' hy' (fun hn=> ?_) hf
 have:=ht (by cases l with|nil=>rfl|cons=>simp at hn)
 rw[gw]at this
 exact this
def rQ(E:CEnv Z)(F:Fix)(ops:Array Oper):List Oper→IS→(IS→Option R)→Option R
 |[],S,k=>k S
 |o::rest,S,k=>match o.guard with
  |none=>OE E F S o (fun S' =>rQ E F ops rest S' k) (RJ E F S o (fun S' =>rQ E F ops rest S' k) (Rh E F S o (fun S' =>rQ E F ops rest S' k) (mC E F S o (fun S' =>rQ E F ops rest S' k) (nC E F S o (fun S' =>rQ E F ops rest S' k) (rn F S (dW S (Lj E S o)) (fun S=>NW E S o (fun e=>aP (m6 E.pin F e) (rQ E F ops rest (S.lu e) k))))))))
  |some (j,b)=>(match(ops[j]?).bind (·.dst)with
   |some t=>aP (!(c9 t (keys F.sl))) (bif Hs (S.ev Z E.nt (.tmp t))then(match o.dst with|some t' =>aP (!(c9 t' (keys F.sl))) (rQ E F ops rest (S.set t' (.tup [])) k)|none=>none)else Gc S Z E.nt t (fun c=>bif c==b then rn F (S.set t (.bool c)) (dW (S.set t (.bool c)) (Lj E (S.set t (.bool c)) o)) (fun S=>NW E S o (fun e=>aP (m6 E.pin F e) (rQ E F ops rest (S.lu e) k)))
     else(match o.dst with|some t' =>aP (!(c9 t' (keys F.sl))) (rQ E F ops rest ((S.set t (.bool c)).set t' (.tup [])) k)|none=>none)))
   |none=>none)
theorem rZ{S:IS}{h:Nat→Nat}{nt t:Nat}{c:Bool}(hX:At X Z nt)(hc:S.ev Z nt (.tmp t)= .bool c):(S.set t (.bool c)).aJ h=S.aJ h:=by
 rw[gw]
 have hρ:(S.aJ h).ρ t= .bool c:=by
  have h1:=dJ (h:=h) hX (Operand.tmp t) (S:=S)
  rw[hc]at h1
  simp only[St.ev,I.b8]at h1
  cases hb:Nat.blt t X.nt with
  |false=>rw[hb]at h1;cases h1
  |true=>rw[hb]at h1;exact h1
 unfold St.set
 have:bN (S.aJ h).ρ t (I.b8 h (.bool c))=(S.aJ h).ρ:=by
  funext i
  by_cases e:i=t
  ·subst e;rw[aj,hρ];rfl
  ·rw[bg _ _ _ _ e]
 rw[this]
theorem iE{E:CEnv Z}{g0:Nat→Nat}(hX:At X Z E.nt){F:Fix}(hF:okF F=true){ops:Array Oper}{Q:Exit→St→Prop}{k:IS→Option R}(hk:∀h S',Inv E.pin g0 F h S'→k S' =some r→Q .normal (S'.aJ h)):
 ∀(l:List Oper) (S:IS) (h:Nat→Nat),Inv E.pin g0 F h S→rQ E F ops l S k=some r→WL X ops l Q (S.aJ h)
 |[],S,h,hi,hr=>aE (hk h S hi hr)
 |o::rest,S,h,hi,hr=>by
  have step:∀(S:IS),Inv E.pin g0 F h S→∀o:Oper,o.guard=none→rn F S (dW S (Lj E S o)) (fun S=>NW E S o (fun e=>aP (m6 E.pin F e) (rQ E F ops rest (S.lu e) k)))=some r→WL X ops (o::rest) Q (S.aJ h):=fun S hi o hg hr=>by
   unfold rn at hr
   obtain⟨hfz,hr⟩:=ai hr
   have hi2:=hi.qw hF hfz
   refine L8 (lx (dW S (Lj E S o)) S (wj hX.xa hfz)) ?_
   obtain⟨e,h1,h2⟩:=Ex hX hr
   obtain⟨hp,h1⟩:=ai h1
   intro κ sv a w hs
   refine wpListIn_plain hg fun K hK=>h2 h _ (Ag.self hX) (fun p _=>rfl) κ sv a w hs K _ fun κ' sv' a' w' hs' =>hK _ _ ?_
   rw[←fD]at hs'
   exact iE hX hF hk rest _ h (hi2.lu hp) h1 κ' sv' a' w' hs'
  unfold rQ at hr
  split at hr
  ·rename_i hg
   rcases Ko hX hi hr with hr|⟨S',h1,h2,h3⟩
   ·rcases MK hX hi hr with hr|⟨S',h1,h2,h3⟩
    ·rcases NQ hX hi hr with hr|⟨S',h1,h2,h3⟩
     ·rcases L5 hX hF hi hr with hr|⟨S',h1,h2,h3⟩
      ·rcases Pf hX hi hr with hr|⟨t,P,i1,i2,k1,k2,k3⟩
       ·exact step S hi o hg hr
       ·exact k3 ops rest Q hg (fun hP=>iE hX hF hk rest _ h i1 (k1 hP)) (iE hX hF hk rest _ h i2 k2)
      ·exact h3 ops rest Q hg (iE hX hF hk rest S' h h2 h1)
     ·exact h3 ops rest Q hg (iE hX hF hk rest S' h h2 h1)
    ·exact h3 ops rest Q hg (iE hX hF hk rest S' h h2 h1)
   ·exact h3 ops rest Q hg (iE hX hF hk rest S' h h2 h1)
  ·rename_i j b hg
   split at hr
   ·rename_i t hj
    replace hr:=ai hr
    obtain⟨ht,hr⟩:=hr
    simp only[Bool.not_eq_true']at ht
    cases hu:Hs (S.ev Z E.nt (.tmp t))with
    |true=>
     rw[hu]at hr
     simp only[cond_true]at hr
     split at hr
     ·rename_i t' hd
      obtain⟨ht',hr⟩:=ai hr
      simp only[Bool.not_eq_true']at ht'
      refine MN hg hj (by rw[dJ hX,EW hu];rfl) hd ?_
      have:=iE hX hF hk rest (S.set t' (.tup [])) h (hi.set ht' _) hr
      rw[gw]at this
      exact this
     ·cases hr
    |false=>
    rw[hu]at hr
    simp only[cond_false]at hr
    replace hr:=F6 hr
    obtain⟨c,hc,hr⟩:=hr
    have hev:(S.aJ h).ev X (.tmp t)= .bool c:=by rw[dJ hX,hc];rfl
    cases hcb:c==b with
    |true=>
     rw[hcb]at hr
     have hcb:c=b:=by simpa using hcb
     subst hcb
     refine dg hg hj hev ?_
     rw[←rZ hX hc]
     exact step (S.set t (.bool c)) (hi.set ht _) {o with guard:=none} rfl hr
    |false=>
     rw[hcb]at hr
     simp only[cond_false]at hr
     split at hr
     ·rename_i t' hd
      obtain⟨ht',hr⟩:=ai hr
      simp only[Bool.not_eq_true']at ht'
      refine NC hg hj hev hcb hd ?_
      rw[←rZ hX hc]
      have:=iE hX hF hk rest ((S.set t (.bool c)).set t' (.tup [])) h ((hi.set ht _).set ht' _) hr
      rw[gw]at this
      exact this
     ·cases hr
   ·cases hr
def Ki(e:Ef):List Nat:=match e.g with|some p=>[p.1]|none=>[]
def NN(E:CEnv Z)(S:IS)(o:Oper)(rest:List Oper):Bool:=match rest with
 |[]=>(match o.op with
  | .call c=>(match c.callee with
    | .value x=>(match S.ev Z E.nt x with
      | .fn f _=>(match HY E.FM f with|some _=>true|none=>false)
      |_=>false)
    |_=>false)
  |_=>false)
 |_=>false
def xX(E:CEnv Z)(F:Fix)(ops:Array Oper):List Oper→IS→List Ent→(IS→Option R)→Option R
 |[],S,En,k=>bif okB ops.toList En then k S else none
 |o::rest,S,En,k=>match o.guard with
  |none=>bif NN E S o rest then aP (KR ops.toList En&&okF F) (mC E F S o k none)else NW E S o (fun e=>aP (m6 E.pin F e) (xX E F ops rest (S.lu e) (En++[((Qr Z E.nt S o).plus [] (Ki e),e.wr)]) k))
  |some (j,b)=>(match(ops[j]?).bind (·.dst)with
   |some t=>aP (!(c9 t (keys F.sl))) (bif Hs (S.ev Z E.nt (.tmp t))then(match o.dst with|some t' =>aP (!(c9 t' (keys F.sl))) (xX E F ops rest (S.set t' (.tup [])) (En++[(⟨[t],[],[]⟩,⟨some t',none,none⟩)]) k)|none=>none)else Gc S Z E.nt t (fun c=>bif c==b then NW E (S.set t (.bool c)) o (fun e=>aP (m6 E.pin F e) (xX E F ops rest ((S.set t (.bool c)).lu e) (En++[((Qr Z E.nt (S.set t (.bool c)) o).plus [t] (Ki e),e.wr)]) k))
     else(match o.dst with|some t' =>aP (!(c9 t' (keys F.sl))) (xX E F ops rest ((S.set t (.bool c)).set t' (.tup [])) (En++[(⟨[t],[],[]⟩,⟨some t',none,none⟩)]) k)|none=>none)))
   |none=>none)
theorem IJ{E:CEnv Z}(hX:At X Z E.nt){ops:Array Oper}{Q:Exit→St→Prop}{S:IS}{h:Nat→Nat}{o:Oper}{e:Ef}{n:Nat}{gs:List Nat}(hw:Want X (S.aJ h) ops o gs)(he:eP X Z E.nt o S e):
 ops[n]? =some o→OU X Q ops n (S.aJ h) ((Qr Z E.nt S o).plus gs (Ki e)) e.wr (e.vl h):=fun hoi T hT κ sv a w hs=>by
 obtain⟨hT1,hT2,hT3⟩:=qD hT
 unfold wpOpIn
 rw[hoi]
 simp only
 rw[if_pos (o6 hw hT2 hs)]
 refine he h T ⟨hX,by rw[Ll hX];exact hT1⟩ (fun p hp=> ?_) κ sv a w hs _ _ fun κ' sv' a' w' hs' =>⟨κ',sv',hs'⟩
 exact hT3 p.1 (by simp[Ki,hp])
theorem oY{E:CEnv Z}{g0:Nat→Nat}(hX:At X Z E.nt){F:Fix}{ops:Array Oper}{Q:Exit→St→Prop}{k:IS→Option R}(hk:∀h S',Inv E.pin g0 F h S'→k S' =some r→Q .normal (S'.aJ h)):
 ∀(l:List Oper) (S:IS) (En:List Ent) (V:List Vl) (S0:St) (h:Nat→Nat),Inv E.pin g0 F h S→xX E F ops l S En k=some r→WG X Q ops S0 En V l (S.aJ h)
 |[],S,En,V,S0,h,hi,hr=>by
  unfold xX at hr
  cases hb:okB ops.toList En with
  |false=>rw[hb]at hr;cases hr
  |true=>rw[hb]at hr;exact bw hb (hk h S hi hr)
 |o::rest,S,En,V,S0,h,hi,hr=>by
  unfold xX at hr
  split at hr
  ·rename_i hg
   cases hm:NN E S o rest with
   |true=>
    rw[hm]at hr
    simp only[cond_true]at hr
    obtain⟨hok,hr⟩:=ai hr
    simp only[Bool.and_eq_true]at hok
    have hrest:rest=[]:=by
     unfold NN at hm
     split at hm
     ·rfl
     ·cases hm
    subst hrest
    rcases L5 hX hok.2 hi hr with hr|⟨S',h1,h2,h3⟩
    ·cases hr
    ·exact Kr hok.1 hg (h3 ops [] Q hg (aE (hk h S' h2 h1)))
   |false=>
   rw[hm]at hr
   simp only[cond_false]at hr
   obtain⟨e,h1,h2⟩:=Ex hX hr
   obtain⟨hp,h1⟩:=ai h1
   exact ji (fD h S e).symm (IJ hX (ab hg) h2) (oY hX hk rest _ _ _ _ h (hi.lu hp) h1)
  ·rename_i j b hg
   split at hr
   ·rename_i t hj
    replace hr:=ai hr
    obtain⟨ht,hr⟩:=hr
    simp only[Bool.not_eq_true']at ht
    cases hu:Hs (S.ev Z E.nt (.tmp t))with
    |true=>
     rw[hu]at hr
     simp only[cond_true]at hr
     split at hr
     ·rename_i t' hd
      obtain⟨ht',hr⟩:=ai hr
      simp only[Bool.not_eq_true']at ht'
      refine MM hg hj (by rw[dJ hX,EW hu];rfl) hd ?_
      have:=oY hX hk rest (S.set t' (.tup [])) _ (V++[⟨.tup [],0, .none⟩]) S0 h (hi.set ht' _) hr
      rw[gw]at this
      exact this
     ·cases hr
    |false=>
    rw[hu]at hr
    simp only[cond_false]at hr
    replace hr:=F6 hr
    obtain⟨c,hc,hr⟩:=hr
    have hev:∀h,((S.set t (.bool c)).aJ h).ev X (.tmp t)= .bool c:=fun h=>by rw[rZ hX hc,dJ hX,hc];rfl
    rw[←rZ hX hc]
    cases hcb:c==b with
    |true=>
     rw[hcb]at hr
     have hcb:c=b:=by simpa using hcb
     subst hcb
     obtain⟨e,h1,h2⟩:=Ex hX hr
     obtain⟨hp,h1⟩:=ai h1
     exact ji (fD h _ e).symm (IJ hX (ae hg hj (hev h)) h2) (oY hX hk rest _ _ _ _ h ((hi.set ht _).lu hp) h1)
    |false=>
     rw[hcb]at hr
     simp only[cond_false]at hr
     split at hr
     ·rename_i t' hd
      obtain⟨ht',hr⟩:=ai hr
      simp only[Bool.not_eq_true']at ht'
      refine N6 hg hj (hev h) hcb hd ?_
      have:=oY hX hk rest ((S.set t (.bool c)).set t' (.tup [])) _ (V++[⟨.tup [],0, .none⟩]) S0 h ((hi.set ht _).set ht' _) hr
      rw[gw]at this
      exact this
     ·cases hr
   ·cases hr
def iter{α:Type}(F:α→(α→Option R)→Option R)(n:Nat):α→Option R:=
 Nat.rec (motive:=fun _=>α→Option R) (fun _=>none) (fun _ ih a=>F a ih) n
def xy:Nat:=18446744073709551616
abbrev It(R:Type):=(α:Type)→(α→(α→Option R)→Option R)→α→Option R
def cH:It R:=fun _ F=>iter F xy
structure CC where
 K:mP
 cs:List Nat
 cp:List Nat
 gd:List (Nat×Nat)
structure du (Z:ISeat) extends CEnv Z where
 lp:List (Nat×CC)
def ye:Code→Nat
 | .region id _ _=>id
 | .block id _=>id+500000
 | .seq a _=>ye a
 | .cond _ a _=>ye a
 | .loop b=>ye b
 |_=>0
def find{α:Type}:List (Nat×α)→Nat→Option α
 |[],_=>none
 |(i,a)::l,j=>bif Nat.beq j i then some a else find l j
def Qe(S:IS):List (Nat×Nat)→Bool
 |[]=>true
 |(t,p)::l=>(match S.get t with| .os s _=>Nat.beq s p|_=>false)&&Qe S l
def Gg:List (Nat×CC)→Nat→IS→Option CC
 |[],_,_=>none
 |(i,L)::l,j,S=>bif Nat.beq j i&&Qe S L.gd then some L else Gg l j S
def QL(id:Nat)(kn:IS→Option R)(kx:Option Nat→IS→Option R)(e:Option Nat)(S:IS):Option R:=match e with
 |some i=>bif Nat.beq i id then kn S else kx (some i) S
 |none=>kx none S
def Ji(S:IS)(F:List (Nat×I)):List Nat→Option (List (Nat×I))
 |[]=>some F
 |i::l=>bif jA (S.get i)then(match Ji S F l with|some r=>some ((i,S.get i)::r)|none=>none)else none
def H0(S:IS)(F:List (Nat×IOwn)):List Nat→Option (List (Nat×IOwn))
 |[]=>some F
 |i::l=>bif mW (S.own i)then(match H0 S F l with|some r=>some ((i,S.own i)::r)|none=>none)else none
theorem E1{S:IS}{F:List (Nat×I)}(hF:∀p∈F,S.get p.1=p.2∧jA p.2=true):∀{l:List Nat} {r:List (Nat×I)},Ji S F l=some r→(∀p∈r,S.get p.1=p.2∧jA p.2=true)∧∀p∈F,p∈r
 |[],r,h=>by simp only[Ji,Option.some.injEq]at h;subst h;exact⟨hF,fun p hp=>hp⟩
 |i::l,r,h=>by
  simp only[Ji]at h
  cases hn:jA (S.get i)with
  |false=>rw[hn]at h;cases h
  |true=>
   rw[hn]at h
   simp only[cond_true]at h
   split at h
   ·rename_i r' hr'
    simp only[Option.some.injEq]at h
    subst h
    obtain⟨h1,h2⟩:=E1 hF hr'
    refine⟨fun p hp=> ?_,fun p hp=>List.mem_cons_of_mem _ (h2 p hp)⟩
    rcases List.mem_cons.1 hp with rfl|hp
    ·exact⟨rfl,hn⟩
    ·exact h1 p hp
   ·cases h
theorem E6{S:IS}{F:List (Nat×IOwn)}(hF:∀p∈F,S.own p.1=p.2)(hr0:∀p∈F,mW p.2=true):∀{l:List Nat} {r:List (Nat×IOwn)},H0 S F l=some r→(∀p∈r,S.own p.1=p.2∧mW p.2=true)∧∀p∈F,p∈r
 |[],r,h=>by simp only[H0,Option.some.injEq]at h;subst h;exact⟨fun p hp=>⟨hF p hp,hr0 p hp⟩,fun p hp=>hp⟩
 |i::l,r,h=>by
  simp only[H0]at h
  cases hn:mW (S.own i)with
  |false=>rw[hn]at h;cases h
  |true=>
   rw[hn]at h
   simp only[cond_true]at h
   split at h
   ·rename_i r' hr'
    simp only[Option.some.injEq]at h
    subst h
    obtain⟨h1,h2⟩:=E6 hF hr0 hr'
    refine⟨fun p hp=> ?_,fun p hp=>List.mem_cons_of_mem _ (h2 p hp)⟩
    rcases List.mem_cons.1 hp with rfl|hp
    ·exact⟨rfl,hn⟩
    ·exact h1 p hp
   ·cases h
theorem BU:∀{l:List (Nat×IOwn)},(∀p∈l,mW p.2=true)→ud l=true
 |[],_=>rfl
 |(i,o)::l,h=>by
  simp only[ud,Bool.and_eq_true]
  exact⟨h (i,o) (List.mem_cons_self ..),BU fun p hp=>h p (List.mem_cons_of_mem _ hp)⟩
def HN(F:Fix)(L:CC)(S:IS):Option Fix:=match Ji S F.sl L.cs with
 |some a=>(match H0 S F.pl L.cp with|some b=>some ⟨a,b⟩|none=>none)
 |none=>none
def j6(K:mP)(F:Fix)(v:K.V):IS:=⟨im K.sl v.1++F.sl,[],(zt K.bx v.2++(jO K.sl v.1++GN K.bx v.2))++F.pl⟩
def D3(a:List Nat):List Nat→Bool
 |[]=>true
 |i::l=> !(c9 i a)&&D3 a l
def vS(S:IS):List (Nat×Sh)→List Nat
 |[]=>[]
 |(i, .v _)::l=>np (S.get i)++vS S l
 |_::l=>vS S l
def vC:List Sh→List I→List Nat
 | .v _::l,d::ds=>np d++vC l ds
 |_::l,_::ds=>vC l ds
 |_,_=>[]
def vB(S:IS):List (Nat×List Sh)→List Nat
 |[]=>[]
 |(i,c)::l=>(match S.own i with| .box ds=>vC c ds|_=>[])++vB S l
def FY(K:mP)(S:IS):List Nat:=uG (Gl S K.sl++ER S K.bx)
def MI(p:List Nat)(F:Fix)(K:mP)(S:IS):Option K.V:=
 rn F S (dW S (vS S K.sl++vB S K.bx)) fun S=>aP (D3 p (FY K S)&&D3 (keys F.pl) (FY K S)) (Nq K S)
theorem oA{a:List Nat}:∀{l:List Nat},D3 a l=true→∀i∈l,c9 i a=false
 |i::l,h,j,hj=>by
  simp only[D3,Bool.and_eq_true,Bool.not_eq_true']at h
  rcases List.mem_cons.1 hj with rfl|hj
  ·exact h.1
  ·exact oA h.2 j hj
theorem jC{α:Type}{e:α}{l m:List (Nat×α)}{j:Nat}:(j∈keys l→look e (l++m) j=look e l j)∧(j∉keys l→look e (l++m) j=look e m j):=by
 induction l with
 |nil=>exact⟨fun h=>(nomatch h),fun _=>rfl⟩
 |cons p l ih=>
  obtain⟨i,a⟩:=p
  simp only[keys,List.mem_cons,not_or,List.cons_append,look]
  cases hb:Nat.beq j i with
  |true=>have:=Nat.eq_of_beq_eq_true hb;subst this;exact⟨fun _=>rfl,fun h=>absurd rfl h.1⟩
  |false=>
   have hne:j≠i:=fun e=>by rw[e,Nat.beq_refl]at hb;cases hb
   exact⟨fun h=>ih.1 (h.resolve_left hne),fun h=>ih.2 h.2⟩
theorem rM{α:Type}{e:α}{l:List (Nat×α)}{j:Nat}(h:j∉keys l):look e l j=e:=by
 have:=(jC (e:=e) (l:=l) (m:=[]) (j:=j)).2 h
 rw[List.append_nil]at this
 exact this
theorem ks{α:Type}{e:α}:∀{l:List (Nat×α)} {j:Nat},j∈keys l→∃a,(j,a)∈l∧look e l j=a
 |(i,a)::l,j,h=>by
  simp only[look]
  cases hb:Nat.beq j i with
  |true=>have:=Nat.eq_of_beq_eq_true hb;subst this;exact⟨a,List.mem_cons_self ..,rfl⟩
  |false=>
   have hne:j≠i:=fun e=>by rw[e,Nat.beq_refl]at hb;cases hb
   rcases List.mem_cons.1 h with h|h
   ·exact absurd h hne
   ·obtain⟨b,h1,h2⟩:=ks (e:=e) h
    exact⟨b,List.mem_cons_of_mem _ h1,h2⟩
theorem Iw(h h' :Nat→Nat){o:IOwn}(hn:mW o=true):o.bz h=o.bz h' :=by
 cases o with
 |none=>rfl
 |arrp=>cases hn
 |arr=>rfl
 |mp=>rfl
 |box l=>simp only[IOwn.bz,ko h h' l hn]
theorem yD:∀(no:List (Nat×TypeId×T)) (S:IS) (i:Nat),i∉uG no→(renew S no).own i=S.own i
 |[],S,i,_=>rfl
 |(s,E,t)::no,S,i,h=>by
  simp only[uG,List.mem_cons,not_or]at h
  show(renew _ no).own i=_
  rw[yD no _ i h.2]
  exact ep h.1
def NH(K:mP)(v:K.V):List Nat:=keys (zt K.bx v.2++(jO K.sl v.1++GN K.bx v.2))
def Nn(K:mP)(F:Fix)(v:K.V):Bool:=D3 (keys F.sl) (keys (im K.sl v.1))&&D3 (keys F.pl) (NH K v)
def Sw(K:mP)(S:IS)(h:Nat→Nat):Nat→Nat:=hN h (renew (qw S (dW S (vS S K.sl++vB S K.bx))) (Gl (qw S (dW S (vS S K.sl++vB S K.bx))) K.sl++ER (qw S (dW S (vS S K.sl++vB S K.bx))) K.bx))
theorem AS(hX:xK X){p:List Nat}{g0:Nat→Nat}{F:Fix}(hF:okF F=true){K:mP}{S:IS}{v:K.V}(hd:MI p F K S=some v)(hs:Nn K F v=true){h:Nat→Nat}(hi:Inv p g0 F h S):∃h',h' =Sw K S h∧Wk X (S.aJ h) ((j6 K F v).aJ h')∧Inv p g0 F h' (j6 K F v):=by
 unfold MI rn at hd
 obtain⟨hfz,hd⟩:=ai hd
 have hi1:=hi.qw hF hfz
 have hw0:=lx (X:=X) (h:=h) (dW S (vS S K.sl++vB S K.bx)) S (wj hX hfz)
 have hpf:Sw K S h=hN h (renew (qw S (dW S (vS S K.sl++vB S K.bx))) (Gl (qw S (dW S (vS S K.sl++vB S K.bx))) K.sl++ER (qw S (dW S (vS S K.sl++vB S K.bx))) K.bx)):=rfl
 generalize qw S (dW S (vS S K.sl++vB S K.bx))=S1 at hd hi1 hw0 hpf
 obtain⟨hp,hd⟩:=ai hd
 simp only[Bool.and_eq_true]at hp
 obtain⟨hp1,hp2⟩:=hp
 simp only[Nn,Bool.and_eq_true]at hs
 obtain⟨s1,s2⟩:=hs
 obtain⟨h',hh',hw,hh0⟩:=HU (X:=X) hd h
 have hfs:∀q∈F.sl,(j6 K F v).get q.1=q.2:=fun q hq=>by
  have hnk:q.1∉keys (im K.sl v.1):=fun hm=>by
   have:=oA s1 _ hm
   rw[cr.2 (fF hq)]at this;cases this
  show look .undef (im K.sl v.1++F.sl) q.1=_
  rw[jC.2 hnk]
  obtain⟨a,h1,h2⟩:=ks (e:=I.undef) (fF hq)
  have c1:S1.get q.1=a:=(hi1.2.1 (q.1,a) h1).1
  rw[h2,←c1]
  exact(hi1.2.1 q hq).1
 have hfp:∀q∈F.pl,(j6 K F v).own q.1=q.2:=fun q hq=>by
  have hnk:q.1∉NH K v:=fun hm=>by
   have:=oA s2 _ hm
   rw[cr.2 (fF hq)]at this;cases this
  show look .none (_++F.pl) q.1=_
  rw[jC.2 hnk]
  obtain⟨a,h1,h2⟩:=ks (e:=IOwn.none) (fF hq)
  have c1:S1.own q.1=a:=hi1.2.2 (q.1,a) h1
  rw[h2,←c1]
  exact hi1.2.2 q hq
 refine⟨h',hh'.trans hpf.symm,hw0.trans (hw (j6 K F v) rfl ?_ ?_),fun g hg=> ?_,fun q hq=>⟨hfs q hq,(hi.2.1 q hq).2⟩,hfp⟩
 ·intro κ γ sv i x hr hcv
  by_cases hk:i∈keys (im K.sl v.1)
  ·have e1:(j6 K F v).get i=look .undef (im K.sl v.1) i:=jC.1 hk
   rw[e1];exact hcv
  ·by_cases hk2:i∈keys F.sl
   ·have e1:(j6 K F v).get i=look .undef F.sl i:=jC.2 hk
    obtain⟨a,h1,h2⟩:=ks (e:=I.undef) hk2
    obtain⟨c1,c2⟩:=hi1.2.1 (i,a) h1
    simp only at c1
    rw[e1,h2]
    rw[c1,lf h h' a c2]at hr
    exact hr
   ·have e1:(j6 K F v).get i=look .undef F.sl i:=jC.2 hk
    rw[e1,rM hk2];exact .undef _
 ·intro κ γ sv s hcv
  by_cases hk:s∈NH K v
  ·have e1:(j6 K F v).own s=look .none (zt K.bx v.2++(jO K.sl v.1++GN K.bx v.2)) s:=jC.1 hk
   rw[e1];exact hcv
  ·have e1:(j6 K F v).own s=look .none F.pl s:=jC.2 hk
   by_cases hk2:s∈keys F.pl
   ·obtain⟨a,h1,h2⟩:=ks (e:=IOwn.none) hk2
    have c1:=hi1.2.2 (s,a) h1
    simp only at c1
    have hns:s∉uG (Gl S1 K.sl++ER S1 K.bx):=fun hm=>by
     have:=oA hp2 _ hm
     rw[cr.2 hk2]at this;cases this
    rw[e1,h2,yD _ _ _ hns,c1,Iw h h' (oV hF (s,a) h1)]
    exact .same _
   ·rw[e1,rM hk2];exact .none _
 ·have:=hi1.1 g hg
  have hn:c9 g (FY K S1)=false:=by
   cases hm:c9 g (FY K S1)with
   |false=>rfl
   |true=>have:=oA hp1 g (cr.1 hm);rw[cr.2 hg]at this;cases this
  have e:=hh0 g hn
  rw[←this,←e];rfl
def KO(S:IS)(i q:Nat)(o:IOwn):Ef:=⟨some i, .os q (S.gen q+1),some (q,S.gen q+1),some (q,o)⟩
def LU(p:Nat):Ef:=⟨none, .undef,none,some (p, .none)⟩
def GM(pin:List Nat)(F:Fix):List (Nat×Sh)→IS→(IS→Option R)→Option R
 |[],S,k=>k S
 |(i, .os q _ _)::l,S,k=>(match S.get i with
  | .os p g=>bif Nat.beq p q then GM pin F l S k else(match S.own p with
    | .arr E e m=>aP (Nat.beq g (S.gen p)&&Nat.blt p XB&&Nat.blt q XB&&m6 pin F (KO S i q (.arr E e m))&&m6 pin F (LU p)) (GM pin F l ((S.lu (KO S i q (.arr E e m))).lu (LU p)) k)
    |_=>GM pin F l S k)
  |_=>GM pin F l S k)
 |(i, .vn _)::l,S,k=>(match S.get i with
  | .os s _=>rn F S (dW S [s]) (fun S' =>match S'.get i with
    | .sl t m=>aP (!(c9 i (keys F.sl))) (aP (!m.isEmpty) (GM pin F l (S'.set i (.nsl t m)) k))
    |_=>none)
  | .sl t m=>aP (!(c9 i (keys F.sl))) (aP (!m.isEmpty) (GM pin F l (S.set i (.nsl t m)) k))
  |_=>GM pin F l S k)
 |_::l,S,k=>GM pin F l S k
theorem J6{h:Nat→Nat}{S:IS}{i:Nat}{t:T}{m:List (den t)}(hg:S.get i= .sl t m)(hm:(!m.isEmpty)=true):Wk X (S.aJ h) ((S.set i (.nsl t m)).aJ h):=by
 have e:(S.set i (.nsl t m)).aJ h=S.aJ h:=by
  rw[gw]
  unfold St.set
  have:bN (S.aJ h).ρ i ((I.nsl t m).b8 h)=(S.aJ h).ρ:=by
   funext j
   by_cases e:j=i
   ·subst e
    rw[aj]
    show OQ t m=(S.get j).b8 h
    rw[hg]
    cases m with
    |nil=>cases hm
    |cons=>rfl
   ·rw[bg _ _ _ _ e]
  rw[this]
 rw[e]
 exact Wk.refl _ _
theorem OG{X:Ctx}(hX:xK X){h:Nat→Nat}{S:IS}{i p q g E:Nat}{e:T}{m:List (den e)}(hg:S.get i= .os p g)(hgen:g=S.gen p)(hne:p≠q)(hσ:S.own p= .arr E e m)(hp:p<XB)(hq:q<XB):
 Wk X (S.aJ h) (((S.lu (KO S i q (.arr E e m))).lu (LU p)).aJ h):=by
 have hxp:X.xa p=false:=by
  cases hh:X.xa p with
  |false=>rfl
  |true=>exact absurd (hX p hh) (by omega)
 have hxq:X.xa q=false:=by
  cases hh:X.xa q with
  |false=>rfl
  |true=>exact absurd (hX q hh) (by omega)
 have key:=P7 (X:=X) (S:=S.aJ h) (t:=i) (p:=p) (q:=q) (g:=h p+g) (E:=E) (z:=sz e) (n:=m.length) (f:=fun i=>dk e (m.getD i (dC e))) hne (by show(S.get i).b8 h=_;rw[hg];rfl) (by show h p+S.gen p=_;rw[hgen]) (by show(S.own p).bz h=_;rw[hσ];rfl) hxp hxq
 have e:(((S.lu (KO S i q (.arr E e m))).lu (LU p)).aJ h)=⟨bN (S.aJ h).ρ i (.os q ((S.aJ h).γ q+1)),bN (S.aJ h).γ q ((S.aJ h).γ q+1),bN (bN (S.aJ h).σ q (.arr E (sz e) m.length fun i=>dk e (m.getD i (dC e)))) p .none⟩:=by
  rw[fD,fD]
  rfl
 rw[e]
 exact key
theorem ta{p:List Nat}{g0:Nat→Nat}{F:Fix}(hF:okF F=true){h:Nat→Nat}{k:IS→Option R}:∀(l:List (Nat×Sh)) (S:IS),Inv p g0 F h S→GM p F l S k=some r→∃S',k S' =some r∧(∀X:Ctx,xK X→Wk X (S.aJ h) (S'.aJ h))∧Inv p g0 F h S'
 |[],S,hi,hr=>⟨S,hr,fun X _=>Wk.refl _ _,hi⟩
 |(i,sh)::l,S,hi,hr=>by
  have key:GM p F l S k=some r→∃S',k S' =some r∧(∀X:Ctx,xK X→Wk X (S.aJ h) (S'.aJ h))∧Inv p g0 F h S' :=fun hr=>ta hF l S hi hr
  cases sh with
  |os q E0 t0=>
   simp only[GM]at hr
   split at hr
   ·rename_i p1 g hg
    cases hb:Nat.beq p1 q with
    |true=>rw[hb]at hr;exact key hr
    |false=>
     rw[hb]at hr
     simp only[cond_false]at hr
     split at hr
     ·rename_i E e m hσ
      obtain⟨hc,hr⟩:=ai hr
      simp only[Bool.and_eq_true]at hc
      obtain⟨⟨⟨⟨c1,c2⟩,c3⟩,c4⟩,c5⟩:=hc
      obtain⟨S',h1,h2,h3⟩:=ta hF l _ ((hi.lu c4).lu c5) hr
      exact⟨S',h1,fun X hX=>(OG hX hg (Nat.eq_of_beq_eq_true c1) (fun e=>by rw[e,Nat.beq_refl]at hb;cases hb) hσ (by have:=Nat.blt_eq.mp c2;omega) (by have:=Nat.blt_eq.mp c3;omega)).trans (h2 X hX),h3⟩
     ·exact key hr
   ·exact key hr
  |vn t0=>
   simp only[GM]at hr
   split at hr
   ·rename_i s g hg
    unfold rn at hr
    obtain⟨hfz,hr⟩:=ai hr
    have hi1:=hi.qw hF hfz
    simp only at hr
    split at hr
    ·rename_i t m hg2
     obtain⟨hk,hr⟩:=ai hr
     obtain⟨hm,hr⟩:=ai hr
     obtain⟨S',h1,h2,h3⟩:=ta hF l _ (hi1.set (by simpa using hk) _) hr
     exact⟨S',h1,fun X hX=>((lx _ S (wj hX hfz)).trans (J6 hg2 hm)).trans (h2 X hX),h3⟩
    ·cases hr
   ·rename_i t m hg
    obtain⟨hk,hr⟩:=ai hr
    obtain⟨hm,hr⟩:=ai hr
    obtain⟨S',h1,h2,h3⟩:=ta hF l _ (hi.set (by simpa using hk) _) hr
    exact⟨S',h1,fun X hX=>(J6 hg hm).trans (h2 X hX),h3⟩
   ·exact key hr
  |_=>exact key hr
def lW(p:List Nat)(F:Fix)(K:mP)(k:K.V→Option R)(S:IS):Option R:=GM p F K.sl S fun S=>match MI p F K S with
 |some v=>(match Nn K F v with|true=>k v|false=>none)
 |none=>none
def CI(S:IS):List Nat→List I→IS
 |t::ts,d::ds=>CI (S.set t d) ts ds
 |_,_=>S
def og:List (Nat×Sh)→Bool
 |[]=>true
 |(_, .bx _ _)::l=>og l
 |_=>false
def uY:List (Nat×Sh)→List Nat
 |[]=>[]
 |(_, .bx s _)::l=>s::uY l
 |_::l=>uY l
def ld(F:Fix):List Nat→Bool
 |[]=>true
 |t::l=> !(c9 t (keys F.sl))&&ld F l
def du.inner(E:du Z)(K:mP):du Z:={E with rf:=false,pin:=uY K.sl++E.pin}
def N0:List (Nat×Sh)→IS→List (Nat×I)
 |(i, .bx s o)::l,S=>(i, .bx s (S.gen s) o)::N0 l S
 |_,_=>[]
def nG(K:mP)(F:Fix)(S:IS):IS:=⟨N0 K.sl S++F.sl,S.gs,S.os⟩
def Mt:List I→Nat→Option Nat
 |[],_=>none
 | .os _ _::_,j=>some j
 |_::l,j=>Mt l (j+1)
def AN(F:Fix)(S:IS)(p:Nat)(k:IS→Option R):Option R:=match S.own p with
 | .arrp E t l i row=>(match Mt row 0 with
   |some j=>(match nth row j with
    |some (.os s g)=>(match S.own s with
     | .arr _ e m=>(match eO row j [.sl e m]with
       |some row' =>(match gi t row' with
        |some x=>aP (Nat.beq g (S.gen s)&& !(Nat.beq p s)&&kI row' && !(c9 p (keys F.pl))&& !(c9 s (keys F.pl))&&Nat.blt s XB) (aP (decide (i<l.length)) (k ⟨S.rs,S.gs,(p, .arr E t (l.set i x))::(s, .none)::S.os⟩))
        |none=>none)
       |none=>none)
     |_=>none)
    |_=>none)
   |none=>none)
 |_=>k S
def Al(F:Fix):List Nat→IS→(IS→Option R)→Option R
 |[],S,k=>k S
 |p::l,S,k=>AN F S p (fun S' =>Al F l S' k)
def settle(F:Fix)(k:IS→Option R)(S:IS):Option R:=Al F (keys S.os) S k
theorem DL{F:Fix}{S:IS}{p:Nat}{k:IS→Option R}{h:Nat→Nat}(hr:AN F S p k=some r):∃S',k S' =some r∧(∀X:Ctx,xK X→Wk X (S.aJ h) (S'.aJ h))∧∀q g0,Inv q g0 F h S→Inv q g0 F h S' :=by
 unfold AN at hr
 split at hr
 ·rename_i E t l i row hp
  split at hr
  ·rename_i j _
   split at hr
   ·rename_i s g hj
    split at hr
    ·rename_i E' e m hs
     split at hr
     ·rename_i row' hrow
      split at hr
      ·rename_i x hx
       obtain⟨hc,hr⟩:=ai hr
       obtain⟨hi,hr⟩:=ai hr
       simp only[Bool.and_eq_true,Bool.not_eq_true',decide_eq_true_eq]at hc hi
       obtain⟨⟨⟨⟨⟨c1,c2⟩,c3⟩,c4⟩,c5⟩,c6⟩:=hc
       have e1:=Nat.eq_of_beq_eq_true c1
       have hrx:=kt (dm t hx) c3
       refine⟨_,hr,fun X hxa=> ?_,fun q g0 hi' =>⟨hi'.1,hi'.2.1,fun w hw=> ?_⟩⟩
       ·have h1:(S.aJ h).σ p= .arr E (sz t) l.length (nV (fun i=>dk t (l.getD i (dC t))) i (I.av h row)):=by
         show(S.own p).bz h=_
         rw[hp];rfl
        have h2:(S.aJ h).σ s= .arr E' (sz e) m.length (fun i=>dk e (m.getD i (dC e))):=by
         show(S.own s).bz h=_
         rw[hs];rfl
        have h3:(S.aJ h).γ s=h s+g:=by
         show h s+S.gen s=_
         rw[e1]
        have hw:=oK (X:=X) (S:=S.aJ h) p i j (g:=h s+g) (f2' :=fun k=>dk t ((l.set i x).getD k (dC t))) h1 c2 hi (tv _ _ _) (il h hj) h3 h2 (l' :=I.av h row') (kC h hrow) (fun k hk=>by
         by_cases e2:k=i
         ·subst e2
          rw[if_pos rfl,List.getD_eq_getElem?_getD,List.getElem?_set_self hi,hrx,bc];rfl
         ·rw[if_neg e2,AF _ _ e2,List.getD_eq_getElem?_getD,List.getD_eq_getElem?_getD,List.getElem?_set_ne (fun h=>e2 h.symm)]) (by
         cases hx2:X.xa s with
         |false=>rfl
         |true=>have:=hxa s hx2;rw[Nat.blt_eq]at c6;omega)
        have e3:(⟨(S.aJ h).ρ,(S.aJ h).γ,bN (bN (S.aJ h).σ s .none) p (.arr E (sz t) l.length (fun k=>dk t ((l.set i x).getD k (dC t))))⟩:St)=IS.aJ h ⟨S.rs,S.gs,(p, .arr E t (l.set i x))::(s, .none)::S.os⟩:=by
         unfold IS.aJ
         congr 1
         funext q
         show _=(look .none ((p, .arr E t (l.set i x))::(s, .none)::S.os) q).bz h
         simp only[look,bN]
         cases Nat.beq q p with
         |true=>simp only[cond_true,IOwn.bz,List.length_set]
         |false=>cases Nat.beq q s<;>rfl
        rw[e3]at hw
        exact hw
       ·have:=hi'.2.2 w hw
        have hne:∀a,c9 a (keys F.pl)=false→w.1≠a:=fun a ha e=>by
         have h5:=cr.2 (fF hw)
         rw[e,ha]at h5;cases h5
        show look .none ((p,_)::(s, .none)::S.os) w.1=_
        rw[ep (hne p c4),ep (hne s c5)]
        exact this
      ·cases hr
     ·cases hr
    ·cases hr
   ·cases hr
  ·cases hr
 ·exact⟨S,hr,fun X _=>Wk.refl _ _,fun _ _ h=>h⟩
theorem qK{F:Fix}{h:Nat→Nat}{k:IS→Option R}:∀{l:List Nat} {S:IS},Al F l S k=some r→∃S',k S' =some r∧(∀X:Ctx,xK X→Wk X (S.aJ h) (S'.aJ h))∧∀q g0,Inv q g0 F h S→Inv q g0 F h S'
 |[],S,hr=>⟨S,hr,fun X _=>Wk.refl _ _,fun _ _ h=>h⟩
 |p::l,S,hr=>by
  obtain⟨S1,h1,h2,h3⟩:=DL (h:=h) hr
  obtain⟨S2,h4,h5,h6⟩:=qK (h:=h) h1
  exact⟨S2,h4,fun X hx=>(h2 X hx).trans (h5 X hx),fun q g0 hi=>h6 q g0 (h3 q g0 hi)⟩
theorem HM{X:Ctx}{c:Code}{Q Q' :Exit→St→Prop}{S:St}(hc:W X c Q' S)(hq:∀e T,Q' e T→∃T',Wk X T T'∧Q e T'):W X c Q S:=fun κ sv a w hs=>by
 refine wpIn_mono (hc κ sv a w hs) ?_
 rintro e a' W' ⟨κ',sv',S',h1,h2⟩
 obtain⟨T',hw,hq'⟩:=hq e S' h2
 obtain⟨κ2,sv2,h3⟩:=hw κ' sv' a' W' h1
 exact⟨κ2,sv2,T',h3,hq'⟩
def KU(E:du Z)(id:Nat)(F:Fix)(S:IS)(k:IS→Option R):Option R:=match find E.lp (1000000+id)with
 |some L=>rn F S L.cp k
 |none=>k S
theorem KG{p:List Nat}{g0:Nat→Nat}{E:du Z}{nt:Nat}(hX:At X Z nt){id:Nat}{F:Fix}{S:IS}{k:IS→Option R}{h:Nat→Nat}(hF:okF F=true)(hi:Inv p g0 F h S)(hr:KU E id F S k=some r):
 ∃S',k S' =some r∧Wk X (S.aJ h) (S'.aJ h)∧Inv p g0 F h S' :=by
 unfold KU at hr
 split at hr
 ·unfold rn at hr
  obtain⟨hz,hr⟩:=ai hr
  exact⟨_,hr,lx _ _ (wj hX.xa hz),hi.qw hF hz⟩
 ·exact⟨S,hr,Wk.refl _ _,hi⟩
def jN(it:It R):du Z→Code→Fix→IS→(IS→Option R)→(Option Nat→IS→Option R)→Option R
 |_, .skip,_,S,kn,_=>kn S
 |E, .region id ops draw,F,S,kn,_=>bif draw then KU E id F S (fun S' =>xX E.toCEnv F ops ops.toList S' [] (settle F kn))else rQ E.toCEnv F ops ops.toList S kn
 |E, .seq a b,F,S,kn,kx=>jN it E a F S (fun S' =>jN it E b F S' kn kx) kx
 |E, .cond c a b,F,S,kn,kx=>(match S.ev Z E.nt c with
  | .bool v=>bif v then jN it E a F S kn kx else jN it E b F S kn kx
  |_=>none)
 |E, .block id b,F,S,kn,kx=>jN it E b F S kn (QL id kn kx)
 |_, .exit id,_,S,_,kx=>kx (some id) S
 |_, .ret,_,S,_,kx=>kx none S
 |E, .scope b,F,S,kn,kx=>jN it E b F S kn kx
 |_, .label _,_,S,kn,_=>kn S
 |E, .loop b,F,S,_,kx=>(match Gg E.lp (ye b) S with
  |some L=>(match HN F L S with
   |some F' =>lW E.pin F' L.K (it L.K.V (fun v kn=>jN it E b F' (j6 L.K F' v) (lW E.pin F' L.K kn) kx)) S
   |none=>none)
  |none=>it IS (fun S kn=>jN it E b F S kn kx) S)
 |E, .rangeFunc g ps assign body,F,S,kn,kx=>aP E.rf (match Gg E.lp (ye assign) S with
  |some L=>(match HN F L S with
   |some F' =>lW E.pin F' L.K (fun v=>(match(j6 L.K F' v).ev Z E.nt g with
    | .fn gf cap=>(match F2 E.FI gf with
      |some sp=>aP (og L.K.sl&&Nat.beq ps.toList.length sp.its.length&&ld F' ps.toList&&ld F' (keys L.K.sl)) (sp.app cap (fun items=>it (L.K.V×List (dF sp.its)) (fun x kn' =>match x.2 with
       |[]=>kn (j6 L.K F' x.1)
       |a::l=>jN it (E.inner L.K) assign F' (CI (j6 L.K F' x.1) ps.toList (bY sp.its a)) (fun S1=>jN it (E.inner L.K) body F' S1 (lW (E.inner L.K).pin F' L.K (fun v' =>kn' (v',l))) (fun c S2=>kx c (nG L.K F' S2))) (fun _ _=>none)) (v,items)))
      |none=>none)
    |_=>none)) S
   |none=>none)
  |none=>none)
 |_,_,_,_,_,_=>none
def PQ(p:List Nat)(g0:Nat→Nat)(F:Fix)(kn:IS→Option R)(kx:Option Nat→IS→Option R)(r:R):Exit→St→Prop:=fun e T=>∃h S,T=S.aJ h∧Inv p g0 F h S∧match e with
 | .normal=>kn S=some r
 | .exit i=>kx (some i) S=some r
 | .ret=>kx none S=some r
 |_=>False
theorem Gx{α:Type}{b:Code}{Q:Exit→St→Prop}(P:(Nat→Nat)→α→Prop)(G:α→(α→Option R)→Option R)(st:α→IS)(hb:∀v kn h,P h v→G v kn=some r→W X b (fun e T=>match e with| .normal=>∃v' h',P h' v'∧kn v' =some r∧Wk X T ((st v').aJ h')|e=>Q e T) ((st v).aJ h)):
 ∀(n:Nat) (v:α) (h:Nat→Nat),P h v→iter G n v=some r→W X (.loop b) Q ((st v).aJ h):=fun n v h hv hr=>by
 refine Dt (α:=Nat×α×(Nat→Nat)) (fun x=>(st x.2.1).aJ x.2.2) (fun x=>P x.2.2 x.2.1∧iter G x.1 x.2.1=some r) (fun x=>x.1) (n,v,h) ⟨hv,hr⟩ (Wk.refl _ _) ?_
 rintro ⟨m,v,h⟩ ⟨hv,hi⟩
 cases m with
 |zero=>cases hi
 |succ m=>
  refine fU (hb v (iter G m) h hv hi) ?_
  intro e T hq
  cases e with
  |normal=>
   obtain⟨v',h',h0,h1,h2⟩:=hq
   exact⟨(m,v',h'),⟨h0,h1⟩,Nat.lt_succ_self _,h2⟩
  |_=>exact hq
theorem AR{p:List Nat}{g0:Nat→Nat}{F F' :Fix}{L:CC}{S:IS}{h:Nat→Nat}(hF:okF F=true)(hi:Inv p g0 F h S)(hF' :HN F L S=some F'):okF F' =true∧OW F' S∧(∀S',OW F' S'→OW F S'):=by
 unfold HN at hF'
 split at hF'
 ·rename_i a ha
  split at hF'
  ·rename_i b' hb
   simp only[Option.some.injEq]at hF'
   subst hF'
   obtain⟨a1,a2⟩:=E1 hi.2.1 ha
   obtain⟨b1,b2⟩:=E6 hi.2.2 (oV hF) hb
   exact⟨BU fun p hp=>(b1 p hp).2,⟨a1,fun p hp=>(b1 p hp).1⟩,fun S' hc=>⟨fun p hp=>hc.1 p (a2 p hp),fun p hp=>hc.2 p (b2 p hp)⟩⟩
  ·cases hF'
 ·cases hF'
theorem rF(hX:xK X){p:List Nat}{g0:Nat→Nat}{F:Fix}(hF:okF F=true){K:mP}{k:K.V→Option R}{S:IS}{h:Nat→Nat}(hi:Inv p g0 F h S)(hr:lW p F K k S=some r):∃v h',k v=some r∧Wk X (S.aJ h) ((j6 K F v).aJ h')∧Inv p g0 F h' (j6 K F v):=by
 simp only[lW]at hr
 obtain⟨S1,hr,hw1,hi1⟩:=ta hF K.sl S hi hr
 split at hr
 ·rename_i v hv
  split at hr
  case h_2=>cases hr
  rename_i hsep
  obtain⟨h',_,hw,hi'⟩:=AS hX hF hv hsep hi1
  exact⟨v,h',hr,(hw1 X hX).trans hw,hi'⟩
 ·cases hr
theorem zz{X0:Ctx}(hX0:xK X0){p:List Nat}{g0:Nat→Nat}{F:Fix}(hF:okF F=true){K:mP}{k:K.V→Option R}{S:IS}{h:Nat→Nat}(hi:Inv p g0 F h S)(hr:lW p F K k S=some r):∃v h',k v=some r∧(∀X,xK X→Wk X (S.aJ h) ((j6 K F v).aJ h'))∧Inv p g0 F h' (j6 K F v):=by
 simp only[lW]at hr
 obtain⟨S1,hr,hw1,hi1⟩:=ta hF K.sl S hi hr
 split at hr
 ·rename_i v hv
  split at hr
  case h_2=>cases hr
  rename_i hsep
  obtain⟨h',e,_,hi'⟩:=AS hX0 hF hv hsep hi1
  refine⟨v,h',hr,fun X hX=> ?_,hi'⟩
  obtain⟨h2,e2,hw,_⟩:=AS hX hF hv hsep hi1
  rw[e,←e2];exact(hw1 X hX).trans hw
 ·cases hr
theorem F7:∀{l:List (Nat×Sh)} (x y:vr l),og l=true→im l x=im l y
 |[],_,_,_=>rfl
 |(i, .bx s o)::l,x,y,h=>by
  show(i,I.bx s 0 o)::im l x.2=(i,I.bx s 0 o)::im l y.2
  rw[F7 x.2 y.2 h]
 |(i, .v _)::l,x,y,h=>by cases h
 |(i, .os _ _ _)::l,x,y,h=>by cases h
 |(i, .osr _)::l,x,y,h=>by cases h
 |(i, .fnb _ _)::l,x,y,h=>by cases h
 |(i, .fnm _ _)::l,x,y,h=>by cases h
 |(i, .mp _)::l,x,y,h=>by cases h
 |(i, .vn _)::l,x,y,h=>by cases h
 |(i, .nilc)::l,x,y,h=>by cases h
 |(i, .yl _)::l,x,y,h=>by cases h
 |(i, .any)::l,x,y,h=>by cases h
theorem HV{h h' :Nat→Nat}:∀{l:List (Nat×Sh)} (x:vr l) (m:List (Nat×I)),og l=true→(∀s∈uY l,h s=h' s)→(∀p∈m,jA p.2=true)→∀t,(look .undef (im l x++m) t).b8 h=(look .undef (im l x++m) t).b8 h'
 |[],_,m,_,_,hm,t=>by
  show(look .undef m t).b8 h=_
  by_cases hk:t∈keys m
  ·obtain⟨a,h1,h2⟩:=ks (e:=I.undef) hk
   rw[show im [] _++m=m from rfl,h2]
   exact lf h h' a (hm _ h1)
  ·rw[show im [] _++m=m from rfl,rM hk];rfl
 |(i, .bx s o)::l,x,m,hb,hs,hm,t=>by
  show(look .undef ((i,I.bx s 0 o)::(im l x.2++m)) t).b8 h=(look .undef ((i,I.bx s 0 o)::(im l x.2++m)) t).b8 h'
  simp only[look]
  cases Nat.beq t i with
  |true=>simp only[cond_true,I.b8,hs s (by simp[uY])]
  |false=>exact HV x.2 m hb (fun s' h' =>hs s' (by simp[uY,h'])) hm t
 |(i, .v _)::l,x,_,h,_,_,_=>by cases h
 |(i, .os _ _ _)::l,x,_,h,_,_,_=>by cases h
 |(i, .osr _)::l,x,_,h,_,_,_=>by cases h
 |(i, .fnb _ _)::l,x,_,h,_,_,_=>by cases h
 |(i, .fnm _ _)::l,x,_,h,_,_,_=>by cases h
 |(i, .mp _)::l,x,_,h,_,_,_=>by cases h
 |(i, .vn _)::l,x,_,h,_,_,_=>by cases h
 |(i, .nilc)::l,x,_,h,_,_,_=>by cases h
 |(i, .yl _)::l,x,_,h,_,_,_=>by cases h
 |(i, .any)::l,x,_,h,_,_,_=>by cases h
theorem GX{K:mP}{F:Fix}{v v2:K.V}{h h2:Nat→Nat}(hb:og K.sl=true)(hs:∀s∈uY K.sl,h s=h2 s)(hm:∀p∈F.sl,jA p.2=true):((j6 K F v2).aJ h2).ρ=((j6 K F v).aJ h).ρ:=by
 funext t
 show(look .undef (im K.sl v2.1++F.sl) t).b8 h2=(look .undef (im K.sl v.1++F.sl) t).b8 h
 rw[F7 v2.1 v.1 hb]
 exact(HV v.1 F.sl hb hs hm t).symm
theorem Ml{h h' :Nat→Nat}{S:IS}:∀{l:List (Nat×Sh)} (x:vr l) (m:List (Nat×I)),og l=true→(∀s∈uY l,h s+S.gen s=h' s)→(∀p∈m,jA p.2=true)→∀t,(look .undef (N0 l S++m) t).b8 h=(look .undef (im l x++m) t).b8 h'
 |[],_,m,_,_,hm,t=>by
  show(look .undef m t).b8 h=_
  by_cases hk:t∈keys m
  ·obtain⟨a,h1,h2⟩:=ks (e:=I.undef) hk
   rw[show im [] _++m=m from rfl,h2]
   exact lf h h' a (hm _ h1)
  ·rw[show im [] _++m=m from rfl,rM hk];rfl
 |(i, .bx s o)::l,x,m,hb,hs,hm,t=>by
  show(look .undef ((i,I.bx s (S.gen s) o)::(N0 l S++m)) t).b8 h=(look .undef ((i,I.bx s 0 o)::(im l x.2++m)) t).b8 h'
  simp only[look]
  cases Nat.beq t i with
  |true=>simp only[cond_true,I.b8,hs s (by simp[uY]),Nat.add_zero]
  |false=>exact Ml x.2 m hb (fun s' h' =>hs s' (by simp[uY,h'])) hm t
 |(i, .v _)::l,x,_,h,_,_,_=>by cases h
 |(i, .os _ _ _)::l,x,_,h,_,_,_=>by cases h
 |(i, .osr _)::l,x,_,h,_,_,_=>by cases h
 |(i, .fnb _ _)::l,x,_,h,_,_,_=>by cases h
 |(i, .fnm _ _)::l,x,_,h,_,_,_=>by cases h
 |(i, .mp _)::l,x,_,h,_,_,_=>by cases h
 |(i, .vn _)::l,x,_,h,_,_,_=>by cases h
 |(i, .nilc)::l,x,_,h,_,_,_=>by cases h
 |(i, .yl _)::l,x,_,h,_,_,_=>by cases h
 |(i, .any)::l,x,_,h,_,_,_=>by cases h
theorem ES{S:IS}{t:Nat}:∀{l:List (Nat×Sh)} (m:List (Nat×I)),og l=true→t∉keys l→look .undef (N0 l S++m) t=look .undef m t
 |[],m,_,_=>rfl
 |(i, .bx s o)::l,m,hb,ht=>by
  show look .undef ((i,I.bx s (S.gen s) o)::(N0 l S++m)) t=_
  rw[ep (fun e=>ht (by simp[keys,e]))]
  exact ES m hb (fun h=>ht (by simp[keys,h]))
 |(i, .v _)::l,_,h,_=>by cases h
 |(i, .os _ _ _)::l,_,h,_=>by cases h
 |(i, .osr _)::l,_,h,_=>by cases h
 |(i, .fnb _ _)::l,_,h,_=>by cases h
 |(i, .fnm _ _)::l,_,h,_=>by cases h
 |(i, .mp _)::l,_,h,_=>by cases h
 |(i, .vn _)::l,_,h,_=>by cases h
 |(i, .nilc)::l,_,h,_=>by cases h
 |(i, .yl _)::l,_,h,_=>by cases h
 |(i, .any)::l,_,h,_=>by cases h
theorem EN{t:Nat}:∀{l:List (Nat×Sh)} (x:vr l) (m:List (Nat×I)),t∉keys l→look .undef (im l x++m) t=look .undef m t
 |[],_,m,_=>rfl
 |(i,s)::l,x,m,ht=>by
  show look .undef ((i,Fv s x.1)::(im l x.2++m)) t=_
  rw[ep (fun e=>ht (by simp[keys,e]))]
  exact EN x.2 m (fun h=>ht (by simp[keys,h]))
theorem tQ{F:Fix}:∀{l:List Nat},ld F l=true→∀t∈l,t∉keys F.sl
 |i::l,h,t,ht=>by
  simp only[ld,Bool.and_eq_true,Bool.not_eq_true']at h
  rcases List.mem_cons.1 ht with rfl|ht
  ·intro hk;rw[cr.2 hk]at h;cases h.1
  ·exact tQ h.2 t ht
theorem Bp{p pin:List Nat}{g0 h' h2:Nat→Nat}{K:mP}{F:Fix}{v:K.V}{S:IS}(hp:p=uY K.sl++pin)(hb:og K.sl=true)(hd:ld F (keys K.sl)=true)(hi' :Inv pin g0 F h' (j6 K F v))(hi2:Inv p h' F h2 S):
 (⟨((j6 K F v).aJ h').ρ,(S.aJ h2).γ,(S.aJ h2).σ⟩:St)=(nG K F S).aJ h2∧Inv pin g0 F h2 (nG K F S):=by
 subst hp
 have hnr:∀p∈F.sl,jA p.2=true:=fun p hp=>(hi'.2.1 p hp).2
 refine⟨?_,fun s hs=> ?_,fun q hq=>⟨?_,hnr q hq⟩,hi2.2.2⟩
 ·have:((j6 K F v).aJ h').ρ=((nG K F S).aJ h2).ρ:=by
   funext t
   exact(Ml (S:=S) v.1 F.sl hb (fun s hs=>hi2.1 s (List.mem_append_left _ hs)) hnr t).symm
  rw[this];rfl
 ·have h3:h2 s+S.gen s=h' s:=hi2.1 s (List.mem_append_right _ hs)
  have h4:h' s+0=g0 s:=hi'.1 s hs
  show h2 s+S.gen s=g0 s
  rw[h3];simpa using h4
 ·have hk:q.1∉keys K.sl:=fun h=>tQ hd _ h (fF hq)
  have h1:look .undef (im K.sl v.1++F.sl) q.1=q.2:=(hi'.2.1 q hq).1
  rw[EN _ _ hk]at h1
  show look .undef (N0 K.sl S++F.sl) q.1=q.2
  rw[ES _ hb hk]
  exact h1
theorem yj{h:Nat→Nat}:∀(ts:List Nat) (ds:List I) (S:IS),(CI S ts ds).aJ h=⟨oI (S.aJ h).ρ ts (I.av h ds),(S.aJ h).γ,(S.aJ h).σ⟩
 |[],_,S=>rfl
 |t::ts,[],S=>rfl
 |t::ts,d::ds,S=>by
  show(CI (S.set t d) ts ds).aJ h=_
  rw[yj ts ds,gw]
  rfl
theorem C9{p:List Nat}{g0:Nat→Nat}{F:Fix}{h:Nat→Nat}:∀(ts:List Nat) (ds:List I) (S:IS),ld F ts=true→Inv p g0 F h S→Inv p g0 F h (CI S ts ds)
 |[],_,S,_,hi=>hi
 |t::ts,[],S,_,hi=>hi
 |t::ts,d::ds,S,hn,hi=>by
  simp only[ld,Bool.and_eq_true,Bool.not_eq_true']at hn
  exact C9 ts ds _ hn.2 (hi.set hn.1 d)
theorem nW:∀(ats:List T) (a:dF ats),(bY ats a).length=ats.length
 |[],_=>rfl
 |t::ats,a=>by simp only[bY,List.length_cons,nW ats]
theorem KW(h h' :Nat→Nat)(t:T)(x:den t):(fW t x).b8 h=(fW t x).b8 h' :=by
 unfold fW
 cases rV t with
 |true=>simp only[cond_true,I.b8,bc]
 |false=>
  simp only[cond_false]
  split
  ·rename_i d e
   have h1:=bc h t x
   rw[←bc h',e]at h1
   simpa[I.av]using h1
  ·rfl
theorem rB(h h' :Nat→Nat):∀(ats:List T) (a:dF ats),I.av h (bY ats a)=I.av h' (bY ats a)
 |[],_=>rfl
 |t::ats,a=>by simp only[bY,I.av,KW h h' t,rB h h' ats]
def KK(X:Ctx):Prop:=∃Z nt w0 κ0 ext,X=Ctx.plain Z nt w0 κ0 ext
theorem gq:∀(c:Code) {X:Ctx} {E:du Z} (_:At X Z E.nt) (_:E.rf=true→KK X) {g0:Nat→Nat} (F:Fix),okF F=true→∀(S:IS) (kn:IS→Option R) (kx:Option Nat→IS→Option R) (h:Nat→Nat),Inv E.pin g0 F h S→jN cH E c F S kn kx=some r→W X c (PQ E.pin g0 F kn kx r) (S.aJ h)
 | .skip,X,E,hX,hpl,g0,F,hF,S,kn,kx,h,hi,hr=>aS ⟨h,S,rfl,hi,hr⟩
 | .region id ops draw,X,E,hX,hpl,g0,F,hF,S,kn,kx,h,hi,hr=>by
   have e:ops=ops.toList.toArray:=by simp
   cases draw with
   |false=>
    rw[e]
    refine ak ?_
    rw[←e]
    exact iE hX hF (fun h S' hi hk=>⟨h,S',rfl,hi,hk⟩) _ S h hi hr
   |true=>
    have hr0:KU E id F S (fun S' =>xX E.toCEnv F ops ops.toList S' [] (settle F kn))=some r:=hr
    obtain⟨S0,hr,hw0,hi0⟩:=KG (X:=X) hX hF hi hr0
    refine qI hw0 ?_
    refine HM (Q' :=fun e T=>∃h S',T=S'.aJ h∧Inv E.pin g0 F h S'∧e= .normal∧settle F kn S' =some r) ?_ ?_
    ·rw[e]
     refine ax ?_
     rw[←e]
     exact oY hX (fun h S' hi hk=>⟨h,S',rfl,hi,rfl,hk⟩) _ S0 _ _ _ h hi0 hr
    ·rintro e T ⟨h1,S1,rfl,hi1,rfl,hk⟩
     obtain⟨S2,h2,h3,h4⟩:=qK (h:=h1) hk
     exact⟨_,h3 X hX.xa,h1,S2,rfl,h4 _ _ hi1,h2⟩
 | .seq a b,X,E,hX,hpl,g0,F,hF,S,kn,kx,h,hi,hr=>by
   refine aZ (fU (gq a hX hpl F hF S _ kx h hi hr) ?_)
   rintro e T ⟨h',S',rfl,hi',hq⟩
   cases e with
   |normal=>exact gq b hX hpl F hF S' kn kx h' hi' hq
   |exit i=>exact⟨h',S',rfl,hi',hq⟩
   |ret=>exact⟨h',S',rfl,hi',hq⟩
   |_=>exact hq.elim
 | .cond c a b,X,E,hX,hpl,g0,F,hF,S,kn,kx,h,hi,hr=>by
   simp only[jN]at hr
   split at hr
   ·rename_i v hv
    have hev:(S.aJ h).ev X c= .bool v:=by rw[dJ hX,hv];rfl
    cases v with
    |true=>exact bu hev (gq a hX hpl F hF S kn kx h hi hr)
    |false=>exact bD hev (gq b hX hpl F hF S kn kx h hi hr)
   ·cases hr
 | .scope b,X,E,hX,hpl,g0,F,hF,S,kn,kx,h,hi,hr=>by
   refine K7 (fU (gq b hX hpl F hF S kn kx h hi hr) ?_)
   rintro e T ⟨h',S',rfl,hi',hq⟩
   cases e with
   |goto l=>exact hq.elim
   |_=>exact⟨h',S',rfl,hi',hq⟩
 | .label l,X,E,hX,hpl,g0,F,hF,S,kn,kx,h,hi,hr=>Lx ⟨h,S,rfl,hi,hr⟩
 | .block id b,X,E,hX,hpl,g0,F,hF,S,kn,kx,h,hi,hr=>by
   refine aR (fU (gq b hX hpl F hF S kn (QL id kn kx) h hi hr) ?_)
   rintro e T ⟨h',S',rfl,hi',hq⟩
   cases e with
   |normal=>exact⟨h',S',rfl,hi',hq⟩
   |exit i=>
    simp only[ee]
    simp only[QL]at hq
    cases hb:Nat.beq i id with
    |true=>rw[hb]at hq;exact⟨h',S',rfl,hi',hq⟩
    |false=>rw[hb]at hq;exact⟨h',S',rfl,hi',hq⟩
   |ret=>exact⟨h',S',rfl,hi',hq⟩
   |_=>exact hq.elim
 | .exit id,X,E,hX,hpl,g0,F,hF,S,kn,kx,h,hi,hr=>bf ⟨h,S,rfl,hi,hr⟩
 | .ret,X,E,hX,hpl,g0,F,hF,S,kn,kx,h,hi,hr=>aY ⟨h,S,rfl,hi,hr⟩
 | .loop b,X,E,hX,hpl,g0,F,hF,S,kn,kx,h,hi,hr=>by
   simp only[jN]at hr
   split at hr
   ·rename_i L hL
    split at hr
    ·rename_i F' hF'
     obtain⟨hok,hcs,hsub⟩:=AR hF hi hF'
     obtain⟨v,h',hr,hw,hi'⟩:=rF hX.xa hok ⟨hi.1,hcs⟩ hr
     refine qI hw ?_
     refine Gx (fun h v=>Inv E.pin g0 F' h (j6 L.K F' v)) _ (j6 L.K F') (fun v kn' h hi hv=> ?_) xy v h' hi' hr
     refine fU (gq b hX hpl F' hok _ _ kx h hi hv) (fun e T hq=> ?_)
     cases e with
     |normal=>
      obtain⟨h',S',rfl,hi',hq⟩:=hq
      obtain⟨v',h2,hq,hw,hi2⟩:=rF hX.xa hok hi' hq
      exact⟨v',h2,hi2,hq,hw⟩
     |_=>
      obtain⟨h',S',rfl,hi',hq⟩:=hq
      exact⟨h',S',rfl,⟨hi'.1,hsub S' hi'.2⟩,hq⟩
    ·cases hr
   ·refine Gx (fun h S=>Inv E.pin g0 F h S) _ id (fun S' kn' h hi hv=> ?_) xy S h hi hr
    refine fU (gq b hX hpl F hF _ _ kx h hi hv) (fun e T hq=> ?_)
    cases e with
    |normal=>
     obtain⟨h',S',rfl,hi',hq⟩:=hq
     exact⟨S',h',hi',hq,Wk.refl _ _⟩
    |_=>
     obtain⟨h',S',rfl,hi',hq⟩:=hq
     exact⟨h',S',rfl,hi',hq⟩
 | .rangeFunc g ps assign body,X,E,hX,hpl,g0,F,hF,S,kn,kx,h,hi,hr=>by
   simp only[jN]at hr
   obtain⟨hrf,hr⟩:=ai hr
   obtain⟨Zs,nts,w0,κ0,ext,hXp⟩:=hpl hrf
   split at hr
   ·rename_i L hL
    split at hr
    ·rename_i F' hF'
     obtain⟨hok,hcs,hsub⟩:=AR hF hi hF'
     obtain⟨v,h',hr,hw,hi'⟩:=rF hX.xa hok ⟨hi.1,hcs⟩ hr
     refine qI hw ?_
     split at hr
     ·rename_i gf cap hg
      split at hr
      ·rename_i sp hsp
       have hsf:=Cl hsp
       obtain⟨hck,hr⟩:=ai hr
       simp only[Bool.and_eq_true]at hck
       obtain⟨⟨⟨hbx,hlen⟩,hnf⟩,hnk⟩:=hck
       obtain⟨items,A8,hok2⟩:=sp.ok _ _ _ hr
       have hItC:=hok2 h'
       have hev:((j6 L.K F' v).aJ h').ev X g= .fn gf (I.av h' cap):=by rw[dJ hX,hg];rfl
       have hnr:∀p∈F'.sl,jA p.2=true:=fun p hp=>(hi'.2.1 p hp).2
       --ages of what the oh point to
       have hp' :Inv (E.inner L.K).pin h' F' h' (j6 L.K F' v):=⟨fun s _=>rfl,hi'.2⟩
       have hpE:∀h2 v2,Inv (E.inner L.K).pin h' F' h2 (j6 L.K F' v2)→Inv E.pin g0 F h2 (j6 L.K F' v2):=fun h2 v2 hh=>⟨fun s hs=>by
        have h3:h2 s+0=h' s:=hh.1 s (List.mem_append_right _ hs)
        have h4:h' s+0=g0 s:=hi'.1 s hs
        show h2 s+0=g0 s
        rw[h3];simpa using h4,hsub _ hh.2⟩
       have hsl:∀h2 v2,Inv (E.inner L.K).pin h' F' h2 (j6 L.K F' v2)→((j6 L.K F' v2).aJ h2).ρ=((j6 L.K F' v).aJ h').ρ:=fun h2 v2 hh=>GX hbx (fun s hs=>by
        have h3:h2 s+0=h' s:=hh.1 s (List.mem_append_left _ hs)
        simpa using h3.symm) hnr
       let G:L.K.V×List (dF sp.its)→(L.K.V×List (dF sp.its)→Option R)→Option R:=fun x kn' =>match x.2 with
        |[]=>kn (j6 L.K F' x.1)
        |a::l=>jN cH (E.inner L.K) assign F' (CI (j6 L.K F' x.1) ps.toList (bY sp.its a)) (fun S1=>jN cH (E.inner L.K) body F' S1 (lW (E.inner L.K).pin F' L.K (fun v' =>kn' (v',l))) (fun c S2=>kx c (nG L.K F' S2))) (fun _ _=>none)
       have A8:iter G xy (v,items)=some r:=A8
       have args_at:∀(k:Nat) (a:dF sp.its),items[k]? =some a→L7 sp.its items k=I.av zh (bY sp.its a):=fun k a e=>by unfold L7;rw[e]
       subst hXp
       have hZ:Zs=Z.toSeat:=hX.Z
       subst hZ
       refine Am (gf:=gf) (cap:=I.av h' cap) (n:=items.length) (L7 sp.its items) hev (by rw[←hsf];exact hItC) (fun k hk=> ?_)
        (fun k γ σ=>∃h2 v2 m,Inv (E.inner L.K).pin h' F' h2 (j6 L.K F' v2)∧γ=((j6 L.K F' v2).aJ h2).γ∧σ=((j6 L.K F' v2).aJ h2).σ∧iter G m (v2,items.drop k)=some r) (fun c T=>∃h2 S2,T=S2.aJ h2∧Inv (E.inner L.K).pin h' F' h2 S2∧((c= .ret∧kx none (nG L.K F' S2)=some r)∨∃i,c= .exit i∧kx (some i) (nG L.K F' S2)=some r))
        ⟨h',v,xy,hp',rfl,rfl,A8⟩ (fun k γ σ hk hP hle=> ?_) (fun γ σ hP=> ?_)
        (fun T hx=>by
          obtain⟨h2,S2,rfl,hi2,⟨_,hq⟩|⟨i,hc,_⟩⟩:=hx
          ·obtain⟨e1,e2⟩:=Bp rfl hbx hnk hi' hi2
           exact⟨h2,_,e1,⟨e2.1,hsub _ e2.2⟩,hq⟩
          ·cases hc)
        (fun i T hx=>by
          obtain⟨h2,S2,rfl,hi2,⟨hc,_⟩|⟨j,hc,hq⟩⟩:=hx
          ·cases hc
          ·cases hc
           obtain⟨e1,e2⟩:=Bp rfl hbx hnk hi' hi2
           exact⟨h2,_,e1,⟨e2.1,hsub _ e2.2⟩,hq⟩)
        (fun c T hx=>by
          obtain⟨h2,S2,rfl,hi2,⟨hc,_⟩|⟨j,hc,hq⟩⟩:=hx
          ·exact .inl hc
          ·exact .inr ⟨j,hc⟩)
       ·have e:=List.getElem?_eq_getElem hk
        rw[args_at k _ e,eT,nW,←Nat.eq_of_beq_eq_true hlen];simp
       ·obtain⟨h2,v2,m,hi2,rfl,rfl,hm⟩:=hP
        have e:=List.getElem?_eq_getElem hk
        rw[args_at k _ e]
        have hdrop:items.drop k=items[k]::items.drop (k+1):=by rw[List.drop_eq_getElem_cons hk]
        rw[hdrop]at hm
        cases m with
        |zero=>cases hm
        |succ m=>
         have hm:jN cH (E.inner L.K) assign F' (CI (j6 L.K F' v2) ps.toList (bY sp.its items[k])) (fun S1=>jN cH (E.inner L.K) body F' S1 (lW (E.inner L.K).pin F' L.K (fun v' =>iter G m (v',items.drop (k+1)))) (fun c S2=>kx c (nG L.K F' S2))) (fun _ _=>none)=some r:=hm
         have hst:(⟨oI ((j6 L.K F' v).aJ h').ρ ps.toList (I.av zh (bY sp.its items[k])),((j6 L.K F' v2).aJ h2).γ,((j6 L.K F' v2).aJ h2).σ⟩:St)=(CI (j6 L.K F' v2) ps.toList (bY sp.its items[k])).aJ h2:=by
          rw[yj,hsl h2 v2 hi2,rB zh h2]
         rw[hst]
         intro κp γp svp T l Φ cl
         refine fU (gq assign (X:=gO Z.toSeat nts w0 κ0 ext κp γp svp T l Φ cl) (E:=E.inner L.K) (g0:=h') (At.pl rfl hX.nt (fun _=>rfl)) (fun h=>by cases h) F' hok _ _ _ h2 (C9 _ _ _ hnf hi2) hm) ?_
         rintro e T' ⟨h3,S3,rfl,hi3,hq⟩
         cases e<;>first|exact hq.elim|(cases hq;done)|skip
         refine⟨rfl,fun Φ' cl' => ?_⟩
         refine fU (gq body (X:=gO Z.toSeat nts w0 κ0 ext κp γp svp T l Φ' cl') (E:=E.inner L.K) (g0:=h') (At.pl rfl hX.nt (fun _=>rfl)) (fun h=>by cases h) F' hok _ _ _ h3 hi3 hq) ?_
         rintro e T' ⟨h4,S4,rfl,hi4,hq⟩
         cases e<;>first|exact hq.elim|(exact⟨h4,S4,rfl,hi4, .inl ⟨rfl,hq⟩⟩)|(exact⟨h4,S4,rfl,hi4, .inr ⟨_,rfl,hq⟩⟩)|skip
         obtain⟨v',h5,hq,hw5,hi5⟩:=rF (X:=gO Z.toSeat nts w0 κ0 ext κp γp svp T l Φ' cl') (fun p h=>nomatch (show false=true from h)) hok hi4 hq
         exact⟨_,hw5,h5,v',m,hi5,rfl,rfl,hq⟩
       ·obtain⟨h2,v2,m,hi2,rfl,rfl,hm⟩:=hP
        rw[List.drop_length]at hm
        cases m with
        |zero=>cases hm
        |succ m=>
         have hm:kn (j6 L.K F' v2)=some r:=hm
         refine⟨h2,j6 L.K F' v2, ?_,hpE h2 v2 hi2,hm⟩
         rw[←hsl h2 v2 hi2]
      ·cases hr
     ·cases hr
    ·cases hr
   ·cases hr
 | .goto _,_,_,_,_,_,_,_,_,_,_,_,_,hr=>by cases hr
 | .refuse _,_,_,_,_,_,_,_,_,_,_,_,_,hr=>by cases hr
end
end
end Go.Ab
namespace Go.Ab
open Go Go.RowKit
noncomputable section
set_option linter.all false
set_option maxHeartbeats 1000000
@[reducible] def ia:List T→Type
  |[]=>Unit
  |[t]=>den t
  |t::u::ts=>den t×ia (u::ts)
def qR:(ts:List T)→ia ts→List I
 |[],_=>[]
 |[t],x=>[fW t x]
 |t::u::ts,x=>fW t x.1::qR (u::ts) x.2
def Po:List I→I
 |[d]=>d
 |ds=> .tup ds
def kO(ts:List T)(x:ia ts):I:=Po (qR ts x)
def Bj:(ts:List T)→List I→Option (ia ts)
 |[],[]=>some ()
 |[t],[d]=>xc t d
 |t::u::ts,d::ds=>(match xc t d with
  |some x=>(match Bj (u::ts) ds with|some y=>some (x,y)|none=>none)
  |none=>none)
 |_,_=>none
def qn:(ts:List T)→List I→Option (dF ts)
 |[],[]=>some ()
 |t::ts,d::ds=>(match xc t d with
  |some x=>(match qn ts ds with|some y=>some (x,y)|none=>none)
  |none=>none)
 |_,_=>none
section
variable {κ:Nat→Nat→Option Value} {sv:Nat→Value} {γ:Nat→Nat}
theorem sZ(h:Nat→Nat)(t:T)(x:den t):Pure ((fW t x).b8 h):=by
 have h1:=cz t x
 rw[←bc h]at h1
 unfold fW
 cases rV t with
 |true=>exact .agg _ h1
 |false=>
  simp only[cond_false]
  split
  ·rename_i d e;rw[e]at h1;exact h1 _ (List.mem_cons_self ..)
  ·exact .undef
theorem gY(h:Nat→Nat):∀(ts:List T) (x:dF ts),af (I.av h (bY ts x))
 |[],_=>af.nil
 |t::ts,x=>af.cons (sZ h t _) (gY h ts _)
theorem wg(h:Nat→Nat):∀(ts:List T) (x:ia ts),af (I.av h (qR ts x))
 |[],_=>af.nil
 |[t],x=>af.cons (sZ h t _) af.nil
 |t::u::ts,x=>af.cons (sZ h t _) (wg h (u::ts) _)
theorem nw(h:Nat→Nat):∀l:List I,(Po l).b8 h=iz (I.av h l)
 |[]=>rfl
 |[d]=>rfl
 |_::_::_=>rfl
theorem Ed:∀{l:List D},af l→Pure (iz l)
 |[],h=> .tup _ h
 |[d],h=>h d (List.mem_cons_self ..)
 |_::_::_,h=> .tup _ h
theorem pa(h:Nat→Nat)(ts:List T)(x:ia ts):Pure ((kO ts x).b8 h):=by
 unfold kO
 rw[nw]
 exact Ed (wg h ts x)
theorem om{h h' :Nat→Nat}:∀{ts:List T} {ds:List I} {x:dF ts},qn ts ds=some x→∀{vs:List Value},RepL κ γ sv (I.av h ds) vs→RepL κ γ sv (I.av h' (bY ts x)) vs
 |[],[],x,hd,vs,hr=>hr
 |[],_::_,x,hd,vs,hr=>by cases hd
 |t::ts,[],x,hd,vs,hr=>by cases hd
 |t::ts,d::ds,x,hd,vs,hr=>by
  simp only[qn]at hd
  split at hd
  ·rename_i y hy
   split at hd
   ·rename_i z hz
    simp only[Option.some.injEq]at hd
    subst hd
    cases hr with
    |cons _ v _ vs h1 h2=>exact .cons _ _ _ _ (ky hy h1) (om hz h2)
   ·cases hd
  ·cases hd
theorem rO{h h' :Nat→Nat}:∀{ts:List T} {ds:List I} {x:ia ts},Bj ts ds=some x→∀{vs:List Value},RepL κ γ sv (I.av h ds) vs→RepL κ γ sv (I.av h' (qR ts x)) vs
 |[],[],x,hd,vs,hr=>hr
 |[],_::_,x,hd,vs,hr=>by cases hd
 |[t],[],x,hd,vs,hr=>by cases hd
 |[t],[d],x,hd,vs,hr=>by
  cases hr with
  |cons _ v _ vs h1 h2=>cases h2;exact .cons _ _ _ _ (ky hd h1) .nil
 |[t],_::_::_,x,hd,vs,hr=>by cases hd
 |t::u::ts,[],x,hd,vs,hr=>by cases hd
 |t::u::ts,d::ds,x,hd,vs,hr=>by
  simp only[Bj]at hd
  split at hd
  ·rename_i y hy
   split at hd
   ·rename_i z hz
    simp only[Option.some.injEq]at hd
    subst hd
    cases hr with
    |cons _ v _ vs h1 h2=>exact .cons _ _ _ _ (ky hy h1) (rO hz h2)
   ·cases hd
  ·cases hd
theorem vz{v:Value}:∀{ds ds' :List D},ds'.length=ds.length→(∀vs,RepL κ γ sv ds vs→RepL κ γ sv ds' vs)→cS κ γ sv (iz ds) v→cS κ γ sv (iz ds') v
 |[],[],_,h,hr=>hr
 |[d],[d'],_,h,hr=>by
  have:=h [v] (.cons _ _ _ _ hr .nil)
  cases this with
  |cons _ _ _ _ h1 _=>exact h1
 |d::d2::ds,d' ::d2' ::ds',_,h,hr=>by
  cases hr with
  |tup _ vs hl=>exact .tup _ vs (h vs hl)
 |[],_::_,hl,_,_=>by cases hl
 |[_],[],hl,_,_=>by cases hl
 |[_],_::_::_,hl,_,_=>by simp at hl
 |_::_::_,[],hl,_,_=>by cases hl
 |_::_::_,[_],hl,_,_=>by simp at hl
theorem rX:∀{ts:List T} {ds:List I} {x:ia ts},Bj ts ds=some x→(qR ts x).length=ds.length
 |[],[],x,hd=>rfl
 |[],_::_,x,hd=>by cases hd
 |[t],[],x,hd=>by cases hd
 |[t],[d],x,hd=>rfl
 |[t],_::_::_,x,hd=>by cases hd
 |t::u::ts,[],x,hd=>by cases hd
 |t::u::ts,d::ds,x,hd=>by
  simp only[Bj]at hd
  split at hd
  ·split at hd
   ·rename_i z hz
    simp only[Option.some.injEq]at hd
    subst hd
    simp only[qR,List.length_cons,rX hz]
   ·cases hd
  ·cases hd
end
def RN(X:Ctx)(rs:List ResultVar)(R:D):Exit→St→Prop
 | .normal,S| .ret,S=>∃S' ds,Wk X S S'∧mL X S' rs ds∧∀κ γ sv v,cS κ γ sv (iz ds) v→cS κ γ sv R v
 |_,_=>False
theorem nc{Z:Seat}{f:FuncId}{fn:Func}{c:Code}{A:List D}{R:D}(hf:Z.P.funcs[f]? =some fn)(hb:fn.body=some c)(hname:(fn.name== "runtime.NumGoroutine")=false)(hn:Nat.ble A.length fn.ntmps=true)(hA:af A)(hR:Pure R)
 (h:∀w κ,W (Ctx.plain Z fn.ntmps w κ none) c (RN (Ctx.plain Z fn.ntmps w κ none) fn.results.toList R) (St.init A)):au Z f A R:=by
 refine⟨hA,hR,⟨fn,c,hf,hb,hname⟩,fun w κ args hκ hglob hrep=> ?_⟩
 refine(callsIn_wide (n:=0)).1 (callsIn_of_wp_marks hf hb trivial ?_ rfl)
 have hlen:A.length≤fn.ntmps:=Nat.le_of_ble_eq_true hn
 have hal:=hrep.length
 have hsim:dh (Ctx.plain Z fn.ntmps w κ none) κ mA (St.init A) {tmps:=args.toArray++Array.replicate (fn.ntmps-args.toArray.size) Go.undef,defers:=[]} w:=by
  refine⟨by simp[Ctx.plain];omega,sU.nil rfl,fun i _=>iQ hrep _ i, ?_⟩
  exact⟨hκ,fun _=>trivial,(fun s t b hs=>by cases hs),(fun s b o hs=>by cases hs),(fun s b hs=>by cases hs),⟨fun _=>False,⟨Frame.refl _ _,fun _ h=>h.elim⟩,fun s b hs=>by cases hs⟩,hglob,fun b o v _ hk=>hk,(fun b hb=>by cases hb),Nat.le_refl _,⟨fun _ _ _ h=>(by cases h),fun _=>Nat.zero_le _,fun _ _=>rfl⟩,fun _ _ _ _ h=>h,fun _ _ _ h=>h,fun _ h=>h.elim⟩
 refine wpIn_mono (h w κ κ mA _ w hsim) ?_
 rintro e a' w' ⟨κ',sv',S',hs,hq⟩
 cases e<;>first|exact hq.elim|skip
 all_goals
  obtain⟨S2,ds,hw,hd,hconv⟩:=hq
  obtain⟨κ2,sv2,hs⟩:=hw _ _ _ _ hs
  obtain⟨Ds,d1,d2,d3,_⟩:=hs.defers
  show LeavesInM _ _ _ _ _ _ a'.defers _ _
  rw[d1]
  refine iS rfl jm hd (fun a w v hs h2=> ?_) Ds a' w' hs d1 d2 d3
  obtain⟨M,h1,_⟩:=hs.wld.frame
  exact⟨v,rfl,(hconv _ _ _ _ h2).pure (j0 hs.wld) hR,h1.1.below⟩
section
variable {R:Type} {X:Ctx} {Z:ISeat} {r:R}
def enum:Nat→List I→List (Nat×I)
 |_,[]=>[]
 |n,d::l=>(n,d)::enum (n+1) l
def qd(A:List I):IS:=⟨enum 0 A,[],[]⟩
theorem lN(h:Nat→Nat):∀(A:List I) (n i:Nat),n≤i→(look .undef (enum n A) i).b8 h=match nth (I.av h A) (i-n)with|some d=>d|none=> .undef
 |[],n,i,_=>rfl
 |d::A,n,i,hi=>by
  simp only[enum,look]
  cases hb:Nat.beq i n with
  |true=>have:=Nat.eq_of_beq_eq_true hb;subst this;rw[Nat.sub_self];rfl
  |false=>
   have hne:i≠n:=fun e=>by rw[e,Nat.beq_refl]at hb;cases hb
   simp only[cond_false]
   rw[lN h A (n+1) i (by omega)]
   obtain⟨k,hk⟩:∃k,i-n=k+1:=⟨i-n-1,by omega⟩
   rw[hk,show i-(n+1)=k by omega]
   rfl
theorem oX(A:List I):(qd A).aJ zh=St.init (I.av zh A):=by
 unfold IS.aJ St.init qd
 congr 1
 funext i
 exact lN zh A 0 i (Nat.zero_le _)
def xC(Z:ISeat)(nt:Nat)(S:IS):ResultVar→Option I
 | .tmp t=>some (S.ev Z nt (.tmp t))
 | .cell p ty=>(match S.ev Z nt (.tmp p)with
   | .bx s g j=>rowOf Z ty fun q=>live S s g (match S.own s with
     | .box l=>bif GB q then(match pU q.sz (qS j l)with|some m=>some (.agg m)|none=>none)else nth l j
     |_=>none)
   |_=>none)
def oB(Z:ISeat)(nt:Nat)(S:IS):List ResultVar→Option (List I)
 |[]=>some []
 |v::l=>(match xC Z nt S v with
  |some d=>(match oB Z nt S l with|some ds=>some (d::ds)|none=>none)
  |none=>none)
theorem Gj{nt:Nat}(hX:At X Z nt){S:IS}{h:Nat→Nat}{rv:ResultVar}{d:I}(hr:xC Z nt S rv=some d):wz X (S.aJ h) rv (d.b8 h):=by
 cases rv with
 |tmp t=>
  simp only[xC,Option.some.injEq]at hr
  subst hr
  exact dJ hX _
 |cell p ty=>
  simp only[xC]at hr
  split at hr
  ·rename_i s g j hx
   replace hr:=cn hr
   obtain⟨q,hq,h9,hr⟩:=hr
   replace hr:=dD hr
   obtain⟨rfl,hr⟩:=hr
   split at hr
   ·rename_i l hσ
    refine⟨s,_,j,I.av h l,q,(dJ hX _).trans (by rw[hx];rfl),rfl, ?_,by rw[hX.Z];exact hq,h9, ?_⟩
    ·show(S.own s).bz h=_
     rw[hσ];rfl
    ·cases ha:GB q with
     |true=>
      rw[ha]at hr
      simp only[cond_true]at hr
      split at hr
      ·rename_i m hm
       simp only[Option.some.injEq]at hr
       subst hr
       exact .inl ⟨ha,_,by rw[kv];exact j8 h hm,rfl⟩
      ·cases hr
     |false=>
      rw[ha]at hr
      exact .inr ⟨ha,il h hr⟩
   ·cases hr
  ·cases hr
theorem nE{nt:Nat}(hX:At X Z nt){S:IS}{h:Nat→Nat}:∀{l:List ResultVar} {ds:List I},oB Z nt S l=some ds→mL X (S.aJ h) l (I.av h ds)
 |[],ds,hr=>by simp[oB]at hr;subst hr;trivial
 |v::l,ds,hr=>by
  simp only[oB]at hr
  split at hr
  ·rename_i d hd
   split at hr
   ·rename_i ds' hds
    simp only[Option.some.injEq]at hr
    subst hr
    exact⟨Gj hX hd,nE hX hds⟩
   ·cases hr
  ·cases hr
def K3(Z:ISeat)(nt:Nat)(rv:List ResultVar)(ts:List T)(S:IS):Option (ia ts):=match oB Z nt S rv with
 |some ds=>(match oB Z nt (qw S (dW S (fm ds))) rv with
  |some ds=>Bj ts ds
  |none=>none)
 |none=>none
def Pj(Z:ISeat)(nt:Nat)(rv:List ResultVar)(ts:List T)(e:Option Nat)(S:IS):Option (ia ts):=match e with
 |none=>K3 Z nt rv ts S
 |some _=>none
theorem Gk{nt:Nat}(hX:At X Z nt)(hx:∀p,X.xa p=false){rv:List ResultVar}{ts:List T}{S:IS}{x:ia ts}{h h' :Nat→Nat}(hr:K3 Z nt rv ts S=some x):
 ∃S' ds,Wk X (S.aJ h) S'∧mL X S' rv ds∧∀κ γ sv v,cS κ γ sv (iz ds) v→cS κ γ sv ((kO ts x).b8 h') v:=by
 unfold K3 at hr
 split at hr
 ·rename_i ds0 _
  split at hr
  ·rename_i ds hds
   refine⟨_,_,lx (dW S (fm ds0)) S (fun p _=>hx p),nE hX hds,fun κ γ sv v hv=> ?_⟩
   unfold kO
   rw[nw]
   exact vz (by simp only[eT,rX hr]) (fun vs hvs=>rO hr hvs) hv
  ·cases hr
 ·cases hr
def fp{ts:List T}(it:It (ia ts))(E:du Z)(c:Code)(rv:List ResultVar)(A:List I):Option (ia ts):=
 jN it E c ⟨[],[]⟩ (qd A) (K3 Z E.nt rv ts) (Pj Z E.nt rv ts)
theorem bF{ts ats:List T}{E:du Z}{f:FuncId}{fn:Func}{c:Code}(hf:Z.P.funcs[f]? =some fn)(hb:fn.body=some c)(hname:(fn.name== "runtime.NumGoroutine")=false)(hn:Nat.beq fn.ntmps E.nt=true)(hl:Nat.ble ats.length fn.ntmps=true)(hp:E.pin=[])
 {a:dF ats}{x:ia ts}(hr:fp cH E c fn.results.toList (bY ats a)=some x)(h h' :Nat→Nat):au Z.toSeat f (I.av h (bY ats a)) ((kO ts x).b8 h'):=by
 have hal:∀(ats:List T) (a:dF ats),(bY ats a).length=ats.length:=fun ats=>by
  induction ats with
  |nil=>intro a;rfl
  |cons t ats ih=>intro a;simp only[bY,List.length_cons,ih]
 have hz:I.av h (bY ats a)=I.av zh (bY ats a):=by
  have key:∀(t:T) (x:den t),(fW t x).b8 h=(fW t x).b8 zh:=fun t x=>by
   unfold fW
   cases rV t with
   |true=>simp only[cond_true,I.b8,bc]
   |false=>
    simp only[cond_false]
    split
    ·rename_i d e
     have h1:=bc h t x
     rw[←bc zh,e]at h1
     simpa[I.av]using h1
    ·rfl
  have:∀(ats:List T) (a:dF ats),I.av h (bY ats a)=I.av zh (bY ats a):=fun ats=>by
   induction ats with
   |nil=>intro a;rfl
   |cons t ats ih=>intro a;simp only[bY,I.av,ih,key]
  exact this ats a
 rw[hz]
 refine nc hf hb hname (by rw[eT,hal];exact hl) (gY _ _ _) (pa _ _ _) fun w κ=> ?_
 have hX:At (Ctx.plain Z.toSeat fn.ntmps w κ none) Z E.nt:=At.pl rfl (Nat.eq_of_beq_eq_true hn) (fun _=>rfl)
 rw[←oX]
 refine fU (gq c hX (fun _=>⟨_,_,_,_,_,rfl⟩) (g0:=zh) ⟨[],[]⟩ rfl _ _ _ zh ⟨(fun g hg=>by rw[hp]at hg;cases hg),⟨(fun p hp=>(nomatch hp)),(fun p hp=>(nomatch hp))⟩⟩ hr) ?_
 rintro e T ⟨h2,S,rfl,_,hq⟩
 cases e with
 |normal=>exact Gk hX (fun _=>rfl) hq
 |ret=>exact Gk hX (fun _=>rfl) hq
 |exit i=>simp only[Pj]at hq;cases hq
 |_=>exact hq.elim
theorem AH{Z:Seat}{f:FuncId}{ats:List T}{ds:List I}{a:dF ats}{R:D}{h:Nat→Nat}(hd:qn ats ds=some a)(hp:af (I.av h ds))(hc:au Z f (I.av h (bY ats a)) R):au Z f (I.av h ds) R:=
 ⟨hp,hc.pureR,hc.body,fun w κ args hf hg hr=>hc.calls w κ args hf hg (om hd hr)⟩
theorem GV{t:T}{d:I}{x:den t}(hd:xc t d=some x)(h:Nat→Nat):Pure (d.b8 h):=by
 have key:∀{l m:List I},dE l m→af (I.av h m)→af (I.av h l):=fun{l m} hn=>by
  induction hn with
  |nil=>exact fun _=>af.nil
  |cons h1 _ ih=>
   intro hp
   refine af.cons ?_ (ih fun d hd=>hp d (List.mem_cons_of_mem _ hd))
   cases h1 with
   |same=>exact hp _ (List.mem_cons_self ..)
   |nil=>exact .nil
   |nsl t l=>exact fv h (.nsl t l) rfl
 unfold xc at hd
 have he:=cz t x
 rw[←bc h]at he
 cases hi:rV t with
 |true=>
  rw[hi]at hd
  simp only[cond_true]at hd
  split at hd
  ·exact .agg _ (key (dm t hd) he)
  ·cases hd
 |false=>
  rw[hi]at hd
  exact key (dm t hd) he _ (List.mem_cons_self ..)
theorem mn{h:Nat→Nat}:∀{ts:List T} {ds:List I} {x:dF ts},qn ts ds=some x→af (I.av h ds)
 |[],[],x,hd=>af.nil
 |[],_::_,x,hd=>by cases hd
 |t::ts,[],x,hd=>by cases hd
 |t::ts,d::ds,x,hd=>by
  simp only[qn]at hd
  split at hd
  ·rename_i y hy
   split at hd
   ·rename_i z hz;exact af.cons (GV hy h) (mn hz)
   ·cases hd
  ·cases hd
def La:List I→Bool
 |[]=>true
 | .int _ _::l=>La l
 | .bool _::l=>La l
 | .str _::l=>La l
 |_::_=>false
theorem HZ{h:Nat→Nat}:∀{l:List I},La l=true→∃vs,kR (I.av h l)=some vs
 |[],_=>⟨[],rfl⟩
 |d::l,hc=>by
  cases d<;>try (cases hc;done)
  all_goals
   obtain⟨vs,hv⟩:=HZ (h:=h) (l:=l) hc
   exact⟨_,by simp only[I.av,I.b8,kR,ke,hv];rfl⟩
def Sc:I→Bool
 | .agg l=>La l
 |d=>La [d]
theorem IU{h:Nat→Nat}{d:I}(hc:Sc d=true):∃v,kY (d.b8 h)=some v:=by
 cases d<;>try (cases hc;done)
 ·exact⟨_,rfl⟩
 ·exact⟨_,rfl⟩
 ·exact⟨_,rfl⟩
 ·obtain⟨vs,hv⟩:=HZ (h:=h) hc
  exact⟨_,by simp only[I.b8,kY,hv,Option.map_some];rfl⟩
def MA:List I→Bool
 |[]=>true
 |d::l=>Sc d&&MA l
theorem D6{h:Nat→Nat}:∀{l:List I},MA l=true→∃vs,iv (I.av h l)=some vs
 |[],_=>⟨[],rfl⟩
 |d::l,hc=>by
  simp only[MA,Bool.and_eq_true]at hc
  obtain⟨v,hv⟩:=IU (h:=h) hc.1
  obtain⟨vs,hvs⟩:=D6 (h:=h) hc.2
  exact⟨_,by simp only[I.av,iv,hv,hvs];rfl⟩
theorem Ik{d:D}{v:Value}(h:kY d=some v):rA d=some v:=by
 unfold rA
 split
 ·simp[kY,ke]at h
 ·exact h
theorem PW{h:Nat→Nat}{ts:List T}{x:ia ts}(hc:MA (qR ts x)=true):∃v,rA ((kO ts x).b8 h)=some v:=by
 unfold kO
 rw[nw]
 generalize qR ts x=l at hc⊢
 match l,hc with
 |[],_=>exact⟨_,rfl⟩
 |[d],hc=>
  simp only[MA,Bool.and_true]at hc
  obtain⟨v,hv⟩:=IU (h:=h) hc
  exact⟨v,Ik hv⟩
 |d::d2::l,hc=>
  obtain⟨vs,hv⟩:=D6 (h:=h) hc
  exact⟨_,by show(iv (I.av h (d::d2::l))).map _=_;rw[hv];rfl⟩
def df(Z:Seat)(f:FuncId)(ats ts:List T)(sc:Bool)(F:dF ats→Option (ia ts))(hF:∀a x,F a=some x→∀h h',au Z f (I.av h (bY ats a)) ((kO ts x).b8 h'))(hsc:sc=true→∀x:ia ts,MA (qR ts x)=true):cv Z where
 f:=f
 sc:=sc
 app:=fun A k=>match qn ats A with|some a=>(F a).bind (fun x=>k (kO ts x))|none=>none
 ok:=fun A k r h=>by
  split at h
  ·rename_i a ha
   cases hx:F a with
   |none=>rw[hx]at h;cases h
   |some x=>
    rw[hx]at h
    exact⟨_,h,fun h=>⟨AH ha (mn ha) (hF a x hx h h),fun e=>PW (hsc e x)⟩⟩
  ·cases h
end
end
end Go.Ab
namespace Go.Ab
open Go Go.RowKit
set_option linter.all false
def FL(dS:List TRow):List (Nat×T)→Bool
 |[]=>true
 |(E,t)::l=>(match nth dS E with|some q=> !(Nat.beq q.k 9)&&Nat.beq q.sz (sz t)&&Nat.beq q.zs.length (sz t)|none=>true)&&FL dS l
def FC(P:Program):List (Nat×IntKind)→Bool
 |[]=>true
 |(t,k)::l=>(match P.underlying t with|some (.int k')=>decide (k' =k)|_=>false)&&FC P l
def AD(P:Program):List Nat→Bool
 |[]=>true
 |t::l=>(match P.underlying t with|some .bool=>true|_=>false)&&AD P l
theorem wC{α:Type}:∀{l:List (Nat×α)} {i:Nat} {a:α},find l i=some a→(i,a)∈l
 |(j,b)::l,i,a,h=>by
  simp only[find]at h
  cases hb:Nat.beq i j with
  |true=>rw[hb]at h;simp at h;subst h;rw[Nat.eq_of_beq_eq_true hb];exact List.mem_cons_self ..
  |false=>rw[hb]at h;exact List.mem_cons_of_mem _ (wC h)
theorem Bc{dS:List TRow}:∀{l:List (Nat×T)},FL dS l=true→∀p∈l,∀q,nth dS p.1=some q→Nat.beq q.k 9=false∧q.sz=sz p.2∧q.zs.length=sz p.2
 |(E,t)::l,h,p,hp,q,hq=>by
  simp only[FL,Bool.and_eq_true]at h
  rcases List.mem_cons.1 hp with rfl|hp
  ·have h1:=h.1
   simp only[hq,Bool.and_eq_true,Bool.not_eq_true']at h1
   exact⟨h1.1.1,Nat.eq_of_beq_eq_true h1.1.2,Nat.eq_of_beq_eq_true h1.2⟩
  ·exact Bc h.2 p hp q hq
theorem Cu{P:Program}:∀{l:List (Nat×IntKind)},FC P l=true→∀p∈l,P.underlying p.1=some (.int p.2)
 |(t,k)::l,h,p,hp=>by
  simp only[FC,Bool.and_eq_true]at h
  rcases List.mem_cons.1 hp with rfl|hp
  ·have h1:=h.1
   split at h1
   ·rename_i k' hk;rw[hk,of_decide_eq_true h1]
   ·cases h1
  ·exact Cu h.2 p hp
theorem yz{P:Program}:∀{l:List Nat},AD P l=true→∀t∈l,P.underlying t=some .bool
 |t::l,h,p,hp=>by
  simp only[AD,Bool.and_eq_true]at h
  rcases List.mem_cons.1 hp with rfl|hp
  ·have h1:=h.1
   split at h1
   ·assumption
   ·cases h1
  ·exact yz h.2 p hp
def A5(P:Program):List Nat→Bool
 |[]=>true
 |t::l=>(match P.underlying t with|some (.func _ _ _)=>true|some (.map _ _)=>true|_=>false)&&A5 P l
theorem yV{P:Program}:∀{l:List Nat},A5 P l=true→∀t∈l,∃d,P.underlying t=some d∧mb P t=false
 |t::l,h,p,hp=>by
  simp only[A5,Bool.and_eq_true]at h
  rcases List.mem_cons.1 hp with rfl|hp
  ·have h1:=h.1
   split at h1
   ·rename_i hu;exact⟨_,hu,by unfold mb;rw[hu]⟩
   ·rename_i hu;exact⟨_,hu,by unfold mb;rw[hu]⟩
   ·cases h1
  ·exact yV h.2 p hp
def zO(P:Program):List Nat→Bool
 |[]=>true
 |t::l=>(match P.underlying t with|some .string=>true|_=>false)&&zO P l
theorem zy{P:Program}:∀{l:List Nat},zO P l=true→∀t∈l,P.underlying t=some .string
 |t::l,h,p,hp=>by
  simp only[zO,Bool.and_eq_true]at h
  rcases List.mem_cons.1 hp with rfl|hp
  ·have h1:=h.1
   split at h1
   ·assumption
   ·cases h1
  ·exact zy h.2 p hp
def AT(P:Program):List Nat→Bool
 |[]=>true
 |t::l=>(match P.underlying t with
  |some (.map k e)=>(match P.underlying k,P.info? e with
   |some (.int .i64),some i=>(match i.zero with|some (.int .i64 n)=>decide (n=0)|_=>false)
   |_,_=>false)
  |_=>false)&&AT P l
theorem yw{P:Program}:∀{l:List Nat},AT P l=true→∀t∈l,zo P t
 |t::l,h,p,hp=>by
  simp only[AT,Bool.and_eq_true]at h
  rcases List.mem_cons.1 hp with rfl|hp
  ·have h1:=h.1
   split at h1
   ·rename_i k e hu
    split at h1
    ·rename_i i hk he
     split at h1
     ·rename_i n hz
      have:=of_decide_eq_true h1
      subst this
      exact⟨k,e,i,hu,hk,he,hz⟩
     ·cases h1
    ·cases h1
   ·cases h1
  ·exact yw h.2 p hp
noncomputable def Kp(Z:Seat)(gl:List (Nat×List I))(Qz:List (Nat×T))(QE:List (Nat×IntKind))(bs fs ss ms:List Nat)(h1:∀g h,Z.glob g=(find gl g).map (I.av h))(h2:FL Z.dS Qz=true)(h3:FC Z.P QE=true)(h4:AD Z.P bs=true)(h5:A5 Z.P fs=true)(h6:zO Z.P ss=true)(h7:AT Z.P ms=true):ISeat:=
 {Z with
  gI:=find gl,gI_ok:=h1,ty:=find Qz,ik:=find QE,isB:=fun t=>c9 t bs
  ty_ok:=fun E t q hE hq=>Bc h2 (E,t) (wC hE) q hq
  ik_ok:=fun t k hk=>Cu h3 (t,k) (wC hk)
  isB_ok:=fun t ht=>yz h4 t (cr.1 ht),isF:=fun t=>c9 t fs,isF_ok:=fun t ht=>yV h5 t (cr.1 ht),isS:=fun t=>c9 t ss,isS_ok:=fun t ht=>zy h6 t (cr.1 ht),isM:=fun t=>c9 t ms,isM_ok:=fun t ht=>yw h7 t (cr.1 ht)}
end Go.Ab
namespace Go.Proofs.YtafnhieaeejlcaaDoor
open Go Go.Ab
set_option linter.all false
set_option maxRecDepth 100000
def Qz:List (Nat×T):=[(2, .int .i64),(3, .int .i64),(4, .bool),(5, .int .u8),(6, .int .u8),(9, .str),(10, .str),(11, .str),(12, .int .u64),(21, .int .i32),(22, .sl .Truck),(24, .Convoy),(28, .int .i64),(31, .sl (.int .i64)),(35, .sl .Convoy),(37, .bd),(41, .sl (.sl (.int .i64))),(42, .sl .bool),(47, .Span),(48, .sl .Hold),(50, .Truck),(72, .sl .Span),(89, .Hold),(90, .int .u64),(92, .aQ),(98, .sl .mT),(101, .mT),(102, .nn),(112, .int .u64),(117, .cF),(119, .bP),(127, .bC),(128, .sl .bq),(132, .bq),(138, .sl .bP),(142, .sl (.sl .bq)),(166, .int .u32),(167, .int .u8),(168, .int .u8),(171, .int .i32),(172, .int .i32)]
def QE:List (Nat×IntKind):=[(2, .i64),(3, .i64),(5, .u8),(6, .u8),(12, .u64),(21, .i32),(28, .i64),(90, .u64),(112, .u64),(166, .u32),(167, .u8),(168, .u8),(171, .i32),(172, .i32)]
def S9:List Nat:=[1,25,26,27,29,30,33,34,39,40,44,45,51,52,53,55,56,57,59,60,61,62,63,64,66,67,68,69,70,71,74,75,76,78,79,80,81,83,84,85,86,87,93,94,96,97,99,100,105,107,108,109,110,111,113,114,115,120,121,123,124,125,129,130,133,134,135,136,137,139,140,141,143,144,145,146,147,148,149,150,151,152,153,154,155,156,157,158,159,160,169]
def Tl:List Nat:=[9,10,11]
def Ti:List Nat:=[4]
def Tu:List (Nat×List I):=[(0,[.int .i64 0, .int .i64 0, .int .i64 1, .int .i64 0, .int .i64 0, .int .i64 1, .int .i64 1, .int .i64 1])]
noncomputable def ao:ISeat:=Kp cK Tu Qz QE Ti S9 Tl [] (fun g h=>by cases g<;>rfl) (by kernel_rfl) (by kernel_rfl) (by kernel_rfl) (by kernel_rfl) (by kernel_rfl) (by kernel_rfl)
end Go.Proofs.YtafnhieaeejlcaaDoor
