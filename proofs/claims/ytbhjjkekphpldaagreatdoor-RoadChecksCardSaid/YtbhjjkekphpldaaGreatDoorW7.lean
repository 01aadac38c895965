/- Walks by computing: what each function of the program that the laws reach gives for what it gets, as plain Lean, and that it is so; without a condition but those that stand in each theorem. -/
import Derived.KernelRfl
import Derived.Test.YtbhjjkekphpldaaGreatDoorW1
import Derived.Test.YtbhjjkekphpldaaGreatDoorW2
import Derived.Test.YtbhjjkekphpldaaGreatDoorW3
import Derived.Test.YtbhjjkekphpldaaGreatDoorW4
import Derived.Test.YtbhjjkekphpldaaGreatDoorW5
import Derived.Test.YtbhjjkekphpldaaGreatDoorW6
set_option linter.all false
namespace Go.Ab
open Go Go.RowKit
noncomputable section
set_option linter.all false
set_option maxHeartbeats 1000000
section
variable {R:Type}{X:Ctx}{Z:aX}{r:R}
def IS.set (S:IS) (t:Nat) (d:I):IS:=⟨(t,d)::S.rs,S.gs,S.os⟩
theorem jF (h:Nat→Nat) (S:IS) (t:Nat) (d:I):(S.set t d).toSt h=(S.toSt h).set t (d.toD h):=by
 unfold IS.set IS.toSt St.set
 congr 1
 exact uK (I.toD h) .undef t d S.rs
def Hc:I→Bool
 |.bn []=>true
 |_=>false
theorem Q3 {d:I} (h:Hc d=true):d=.bn []:=by
 unfold Hc at h
 split at h
 ·rfl
 ·cases h
theorem ON {κ:Nat→Nat→Option Value}{sv:Nat→Value}{S:St}{a:Act}{w:World}{ops:Array Oper}{o:Oper} (hs:bk X κ sv S a w) {j t:Nat}{b:Bool} (hg:o.guard=some (j,b))
  (hj:(ops[j]?).bind (·.dst)=some t) (hb:S.ev X (.tmp t)=.bn []):Region.wanted o (yielded ops a.tmps)=false:=by
 have h1:=hs.ev (.tmp t)
 rw[hb]at h1
 have h2:a.tmps.getD t Go.undef=.tuple #[]:=by
  cases h:a.tmps.getD t Go.undef<;>simp only[Act.eval,h]at h1<;>first|(cases h1;done)|(cases h1 with|bn _ vs hl=>cases hl;rfl)
 have h3:∀ v,a.tmps[t]?=some v→v=.tuple #[]:=fun v hv=>by
  rw[Array.getD_eq_getD_getElem?,hv]at h2;simpa using h2
 have h4:yielded ops a.tmps j≠some b:=by
  cases hv:a.tmps[t]? with
  |none=>cases Cn:ops[j]?<;>simp_all [yielded]
  |some v=>rw[h3 v hv]at hv;cases Cn:ops[j]?<;>simp_all [yielded]
 simp only[Region.wanted,hg]
 simpa using h4
theorem Gc {κ:Nat→Nat→Option Value}{γ:Nat→Nat}{sv:Nat→Value}:aW κ γ sv (.bn []) Go.undef:=.bn [] [] .nil
theorem ahk {S:St}{ops:Array Oper}{o:Oper}{rest:List Oper}{Q:Exit→St→Prop}{j t:Nat}{b c:Bool} (hg:o.guard=some (j,b)) (hj:(ops[j]?).bind (·.dst)=some t) (hb:S.ev X (.tmp t)=.bool c) (hn:(c == b)=false) {t':Nat} (hd:o.dst=some t')
  (hk:WL X ops rest Q (S.set t' (.bn []))):WL X ops (o::rest) Q S:=fun κ sv a w hs=>by
 have hw:=vf hs hg hj hb
 unfold wpListIn
 rw[if_neg (by rw[hw,hn];simp)]
 rw[hd]
 exact⟨qD,hk κ sv _ w (hs.put (some t') Gc)⟩
theorem ahl {S:St}{ops:Array Oper}{o:Oper}{rest:List Oper}{Q:Exit→St→Prop}{j t:Nat}{b:Bool} (hg:o.guard=some (j,b)) (hj:(ops[j]?).bind (·.dst)=some t) (hb:S.ev X (.tmp t)=.bn []) {t':Nat} (hd:o.dst=some t')
  (hk:WL X ops rest Q (S.set t' (.bn []))):WL X ops (o::rest) Q S:=fun κ sv a w hs=>by
 have hw:=ON hs hg hj hb
 unfold wpListIn
 rw[if_neg (by rw[hw];simp)]
 rw[hd]
 exact⟨qD,hk κ sv _ w (hs.put (some t') Gc)⟩
theorem aho {S S0:St}{ops:Array Oper}{o:Oper}{rest:List Oper}{Q:Exit→St→Prop}{E:List eu}{V:List Vm}{j t t':Nat}{b c:Bool} (hg:o.guard=some (j,b)) (hj:(ops[j]?).bind (·.dst)=some t) (hb:S.ev X (.tmp t)=.bool c) (hn:(c == b)=false) (hd:o.dst=some t')
  (hk:WM X Q ops S0 (E++[(⟨[t],[],[]⟩,Wr.mm ⟨some t',none,none⟩)]) (V++[Vl.mm ⟨.bn [],0,.none⟩]) rest (S.set t' (.bn []))):WM X Q ops S0 E V (o::rest) S:=by
 refine Be rfl (fun zU T hT κ sv a w hs=>?_) hk
 have fO:T.ev X (.tmp t)=.bool c:=by rw[tn fun t' e=>by cases e;exact hT.rr t (by simp)];exact hb
 have hw:=vf hs hg hj fO
 unfold wpOpIn
 rw[zU]
 simp only
 rw[if_neg (by rw[hw,hn];simp)]
 rw[hd]
 exact⟨qD,κ,sv,hs.put (some t') Gc⟩
theorem ahp {S S0:St}{ops:Array Oper}{o:Oper}{rest:List Oper}{Q:Exit→St→Prop}{E:List eu}{V:List Vm}{j t t':Nat}{b:Bool} (hg:o.guard=some (j,b)) (hj:(ops[j]?).bind (·.dst)=some t) (hb:S.ev X (.tmp t)=.bn []) (hd:o.dst=some t')
  (hk:WM X Q ops S0 (E++[(⟨[t],[],[]⟩,Wr.mm ⟨some t',none,none⟩)]) (V++[Vl.mm ⟨.bn [],0,.none⟩]) rest (S.set t' (.bn []))):WM X Q ops S0 E V (o::rest) S:=by
 refine Be rfl (fun zU T hT κ sv a w hs=>?_) hk
 have fO:T.ev X (.tmp t)=.bn []:=by rw[tn fun t' e=>by cases e;exact hT.rr t (by simp)];exact hb
 have hw:=ON hs hg hj fO
 unfold wpOpIn
 rw[zU]
 simp only
 rw[if_neg (by rw[hw];simp)]
 rw[hd]
 exact⟨qD,κ,sv,hs.put (some t') Gc⟩
def Af (l:List Nat):Option Nat→Bool
 |none=>false
 |some i=>bc i l
def dW (S:IS):List Nat→List Nat
 |[]=>[]
 |p::l=>match S.own p with|.arr _ _ _=>p::dW S l|_=>dW S l
def anJ (o:Op):(Z:aX)→CEnv Z→IS→Option Tmp→List Nat:=@Op.rec (fun _=>(Z:aX)→CEnv Z→IS→Option Tmp→List Nat)
  (fun _ _ _ _ _=>[])
  (fun _ _ _ _ _=>[])
  (fun _ _ _ _ _ _ _=>[])
  (fun _ _ _ _ _=>[])
  (fun _ _ _ _ _ _=>[])
  (fun _ _ _ _ _ _=>[])
  (fun _ _ ps Z E S dst=>qh Z E.nt S (ps.toList.map (·.2)))
  (fun _ _ _ _ _ _ _ _=>[])
  (fun _ _ _ _ _ _=>[])
  (fun _ x y Z E S dst=>(match S.ev Z E.nt x with|.op _ _ _ _ _=>gN (S.ev Z E.nt y)|_=>[]))
  (fun _ _ _ _ _=>[])
  (fun _ _ _ _ _=>[])
  (fun _ _ _ _ _=>[])
  (fun _ _ _ _ _ _ _ _ _=>[])
  (fun _ _ _ _ _ _ _=>[])
  (fun _ _ _ _ _ _ _=>[])
  (fun _ _ _ _ _ _=>[])
  (fun _ _ _ _ _ _=>[])
  (fun _ _ _ _ _ _ _=>[])
  (fun _ _ _ _ _ _=>[])
  (fun _ _ _ _ _ _=>[])
  (fun _ _ _ _ _ _ _=>[])
  (fun _ _ _ _ _ _ _ _ _=>[])
  (fun _ _ _ _ _ _ _=>[])
  (fun _ _ _ _ _ _ _=>[])
  (fun _ _ _ _ _ _ _=>[])
  (fun _ _ _ _ _ _ _=>[])
  (fun _ _ _ _ _ _ _ _=>[])
  (fun _ _ _ _ _ _ _ _=>[])
  (fun _ _ _ _ _ _ _=>[])
  (fun _ _ _ _ _ _ _ _=>[])
  (fun _ _ _ _ _ _=>[])
  (fun _ _ _ _ _ _=>[])
  (fun _ _ _ _ _=>[])
  (fun _ _ _ _ _ _ _ _=>[])
  (fun _ _ _ _ _ _=>[])
  (fun c Z E S dst=>(match c.callee with
   |.builtin .append=>(match c.args.toList with|[_,y]=>bif Af E.fz dst then [] else gN (S.ev Z E.nt y)|_=>[])
   |.builtin .copy=>(match c.args.toList with|[_,y]=>(match S.ev Z E.nt y with|.ow _ _ _ _ _=>[]|d=>gN d)|_=>[])
   |.value (.func f)=>(match EH E.FR f with
    |some _=>(match c.args.toList with|x0::_=>(match S.ev Z E.nt x0 with|.bx s _ _=>(match S.own s with|.box l=>ez l|_=>[])|_=>[])|[]=>[])++qh Z E.nt S (c.args.toList.drop 1)
    |none=>(match findF E.FT f with|some sp=>bif sp.sc then [] else qh Z E.nt S c.args.toList|none=>bif Af E.fz dst then [] else qh Z E.nt S c.args.toList))
   |.value x=>(match S.ev Z E.nt x with
    |.fn f l=>(match findF E.FT f with|some sp=>bif sp.sc then [] else ez l++qh Z E.nt S c.args.toList|none=>[])
    |.mf f l=>(match findF E.FT f with|some sp=>bif sp.sc then [] else ez l++qh Z E.nt S c.args.toList|none=>[])
    |_=>[])
   |_=>[]))
  (fun _ _ _ _ _=>[])
  (fun _ _ _ _ _=>[])
  (fun _ _ _ _ _=>[])
  (fun _ _ _ _ _ _=>[])
  (fun _ _ _ _ _ _ _=>[])
  (fun _ _ _ _ _ _=>[]) o
def abP (E:CEnv Z) (S:IS) (o:Oper):List Nat:=anJ o.op Z E S o.dst
def Yu (o:Op):Nat:=@Op.rec (fun _=>Nat)
  (fun _=>0)
  (fun _=>0)
  (fun _ _ _=>0)
  (fun _=>2)
  (fun _ _=>0)
  (fun _ _=>0)
  (fun _ _ _=>1)
  (fun _ _ _ _=>0)
  (fun _ _=>0)
  (fun _ _ _=>1)
  (fun _=>0)
  (fun _=>0)
  (fun _=>0)
  (fun b _ _ _ _=>match b with|.eql=>2|_=>0)
  (fun _ _ _=>0)
  (fun _ _ _=>0)
  (fun _ _=>0)
  (fun _ _=>0)
  (fun _ _ _=>0)
  (fun _ _=>0)
  (fun _ _=>0)
  (fun _ _ _=>0)
  (fun _ _ _ _ _=>0)
  (fun _ _ _=>0)
  (fun _ _ _=>0)
  (fun _ _ _=>0)
  (fun _ _ _=>0)
  (fun _ _ _ _=>0)
  (fun _ _ _ _=>0)
  (fun _ _ _=>0)
  (fun _ _ _ _=>0)
  (fun _ _=>0)
  (fun _ _=>0)
  (fun _=>0)
  (fun _ _ _ _=>0)
  (fun _ _=>0)
  (fun _=>2)
  (fun _=>0)
  (fun _=>0)
  (fun _=>0)
  (fun _ _=>0)
  (fun _ _ _=>0)
  (fun _ _=>0) o
theorem alf {E:CEnv Z}{S:IS}{o:Oper} (h:Nat.beq (Yu o.op) 0=true):abP E S o=[]:=by
 obtain ⟨d,op,ty,ps,af,gd⟩:=o
 cases op<;>first|rfl|cases h
theorem lz {h:Nat→Nat}:∀ (l:List Nat) (S:IS),(∀ p∈l,X.xa p=false)→Wk X (S.toSt h) ((gw S l).toSt h)
 |[],S,_=>Wk.refl _ _
 |p::l,S,hl=>(afT p (hl p (List.mem_cons_self ..))).trans (lz l _ fun p hp=>hl p (List.mem_cons_of_mem _ hp))
def Kq (S:IS) (Z:aX) (nt:Nat) (t:Nat) (k:Bool→Option R):Option R:=match S.ev Z nt (.tmp t) with
 |.bool c=>bif c then k true else k false
 |_=>none
theorem RM {S:IS}{nt t:Nat}{k:Bool→Option R} (h:Kq S Z nt t k=some r):∃ c,S.ev Z nt (.tmp t)=.bool c∧k c=some r:=by
 unfold Kq at h
 split at h
 ·rename_i c hc
  cases c with
  |true=>exact⟨true,hc,h⟩
  |false=>exact⟨false,hc,h⟩
 ·cases h
structure Fix where
 sl:List (Nat×I)
 pl:List (Nat×aK)
def keys {α:Type}:List (Nat×α)→List Nat
 |[]=>[]
 |(i,_)::l=>i::keys l
def Ky (F:Fix) (S:IS):Prop:=(∀ p∈F.sl,S.get p.1=p.2∧eA p.2=true)∧(∀ p∈F.pl,S.own p.1=p.2)
def qc:aK→Bool
 |.none=>true
 |.box l=>bV l
 |.arr _ _ _=>true
 |.vp _ _ _ _ _=>false
 |.mp _=>true
 |.qa _=>true
 |.jM _=>true
 |.si _ _=>true
def g1:Option (Nat×Nat)→Option Nat
 |some p=>some p.1
 |none=>none
def o1:Option (Nat×aK)→Option Nat
 |some p=>some p.1
 |none=>none
def gP (p:List Nat) (F:Fix) (e:Ef):Bool:=!(Af p (g1 e.g))&&!(Af (keys F.sl) e.t)&&!(Af (keys F.pl) (o1 e.o))
def Inv (p:List Nat) (g0:Nat→Nat) (F:Fix) (h:Nat→Nat) (S:IS):Prop:=(∀ s∈p,h s+S.gen s=g0 s)∧Ky F S
theorem iQ {α:Type}:∀ {l:List (Nat×α)}{p:Nat×α},p∈l→p.1∈keys l
 |q::l,p,h=>by
  obtain ⟨i,a⟩:=q
  rcases List.mem_cons.1 h with rfl|h
  ·exact List.mem_cons_self ..
  ·exact List.mem_cons_of_mem _ (iQ h)
theorem eT {α:Type}{e:α}{i:Nat}{a:α}{l:List (Nat×α)}{j:Nat} (h:j≠i):look e ((i,a)::l) j=look e l j:=by
 simp only[kE,jL,kF]
 cases hb:Nat.beq j i with
 |false=>rfl
 |true=>exact absurd (Nat.eq_of_beq_eq_true hb) h
theorem Inv.dE {p:List Nat}{g0:Nat→Nat}{F:Fix}{h:Nat→Nat}{S:IS}{e:Ef} (hi:Inv p g0 F h S) (he:gP p F e=true):Inv p g0 F h (S.dE e):=by
 obtain ⟨t,d,gg,o⟩:=e
 simp only[gP,Bool.and_eq_true,Bool.not_eq_true']at he
 obtain ⟨⟨e1,e2⟩,e3⟩:=he
 refine ⟨fun g hg=>?_,fun q hq=>?_,fun q hq=>?_⟩
 ·have:=hi.1 g hg
  cases gg with
  |none=>exact this
  |some q =>
   simp only[g1,Af]at e1
   rw[← this]
   congr 1
   refine eT fun e=>?_
   rw[← e,bw.2 hg]at e1;cases e1
 ·obtain ⟨h1,h2⟩:=hi.2.1 q hq
  refine ⟨?_,h2⟩
  cases t with
  |none=>exact h1
  |some t =>
   refine (eT fun e=>?_).trans h1
   have:=bw.2 (iQ hq)
   rw[e]at this
   simp only[Af]at e2
   rw[this]at e2;cases e2
 ·have h1:=hi.2.2 q hq
  cases o with
  |none=>exact h1
  |some t =>
   refine (eT fun e=>?_).trans h1
   have:=bw.2 (iQ hq)
   rw[e]at this
   simp only[Af,o1]at e3
   rw[this]at e3;cases e3
theorem ES:∀ (l:List Nat) (S:IS),(gw S l).gs=S.gs
 |[],S=>rfl
 |p::l,S=>by
  show (gw (zH S p) l).gs=_
  rw[ES l]
  unfold zH
  split<;>rfl
mutual
theorem Ii (p g:Nat) (d:I):∀ x:I,eA x=true→sg p g d x=x
 |.os _ _,h=>by cases h
 |.bx _ _ _,_=>rfl
 |.mb _ _ _,_=>rfl
 |.op _ _ _ _ _,_=>rfl
 |.ow _ _ _ _ _,_=>rfl
 |.agg l,h=>by simp only[sg,nG p g d l h]
 |.bn l,h=>by simp only[sg,nG p g d l h]
 |.fn _ l,h=>by simp only[sg,nG p g d l h]
 |.mf _ l,h=>by simp only[sg,nG p g d l h]
 |.int _ _,_=>rfl|.bool _,_=>rfl|.str _,_=>rfl|.sl _ _,_=>rfl|.ft _ _,_=>rfl|.nil,_=>rfl|.rp _ _,_=>rfl|.yl _,_=>rfl|.one,_=>rfl|.lk _,_=>rfl|.er _,_=>rfl|.undef,_=>rfl
theorem nG (p g:Nat) (d:I):∀ l:List I,bV l=true→nF p g d l=l
 |[],_=>rfl
 |x::l,h=>by
  simp only[bV,Bool.and_eq_true]at h
  simp only[nF,Ii p g d x h.1,nG p g d l h.2]
end
def qP (F:Fix):List Nat→Bool
 |[]=>true
 |p::l=>(!(bc p (keys F.pl))&&Nat.blt p XB)&&qP F l
theorem uE (hX:vm X) {F:Fix}:∀ {l:List Nat},qP F l=true→∀ p∈l,X.xa p=false
 |q::l,h,p,hp=>by
  simp only[qP,Bool.and_eq_true]at h
  rcases List.mem_cons.1 hp with rfl|hp
  ·cases hx:X.xa p with
   |false=>rfl
   |true =>
    have h1:=hX p hx
    have h2:=h.1.2
    rw[Nat.blt_eq]at h2
    omega
  ·exact uE hX h.2 p hp
def BF:List (Nat×aK)→Bool
 |[]=>true
 |(_,o)::l=>qc o&&BF l
theorem uY:∀ {l:List (Nat×aK)},BF l=true→∀ p∈l,qc p.2=true
 |(i,o)::l,h,p,hp=>by
  simp only[BF,Bool.and_eq_true]at h
  rcases List.mem_cons.1 hp with rfl|hp
  ·exact h.1
  ·exact uY h.2 p hp
theorem P6 {F:Fix}:∀ (l:List Nat) (S:IS),Ky F S→qP F l=true→(∀ p∈F.pl,qc p.2=true)→Ky F (gw S l)
 |[],S,hc,_,_=>hc
 |p::l,S,hc,hf,hr=>by
  simp only[qP,Bool.and_eq_true,Bool.not_eq_true']at hf
  replace hf:bc p (keys F.pl)=false∧qP F l=true:=⟨hf.1.1,hf.2⟩
  refine P6 l _ ?_ hf.2 hr
  unfold zH
  split
  ·rename_i E e m aF
   refine ⟨fun q hq=>?_,fun q hq=>?_⟩
   ·obtain ⟨h1,h2⟩:=hc.1 q hq
    refine ⟨?_,h2⟩
    show look .undef (gz _ S.rs) q.1=_
    rw[iR rfl]
    have h3:look .undef S.rs q.1=q.2:=h1
    rw[h3,Ii _ _ _ _ h2]
   ·have h1:=hc.2 q hq
    have cx:q.1≠p:=fun e=>by
     have:=bw.2 (iQ hq)
     rw[e,hf.1]at this;cases this
    show look .none ((p,.none)::gz _ S.os) q.1=_
    rw[eT cx,iR rfl]
    have h3:look .none S.os q.1=q.2:=h1
    rw[h3]
    have h4:=hr q hq
    cases eS:q.2 with
    |none=>rfl
    |vp=>rfl
    |arr=>rfl
    |mp=>rfl
    |qa=>rfl
    |jM=>rfl
    |si=>rfl
    |box l=>rw[eS]at h4;simp only[aaF,nG _ _ _ _ h4]
  ·exact hc
def okF (F:Fix):Bool:=BF F.pl
def pN (F:Fix) (S:IS) (l:List Nat) (k:IS→Option R):Option R:=ao (qP F l) (k (gw S l))
theorem Inv.gw {p:List Nat}{g0:Nat→Nat}{F:Fix}{h:Nat→Nat}{S:IS} (hF:okF F=true) (hi:Inv p g0 F h S) {l:List Nat} (hl:qP F l=true):Inv p g0 F h (Ab.gw S l):=⟨fun g hg=>by
 have:=hi.1 g hg
 simp only[IS.gen,ES]at this ⊢
 exact this,P6 l S hi.2 hl (uY hF)⟩
theorem Inv.set {p:List Nat}{g0:Nat→Nat}{F:Fix}{h:Nat→Nat}{S:IS} (hi:Inv p g0 F h S) {t:Nat} (ht:bc t (keys F.sl)=false) (d:I):Inv p g0 F h (S.set t d):=by
 refine ⟨hi.1,fun q hq=>?_,hi.2.2⟩
 obtain ⟨h1,h2⟩:=hi.2.1 q hq
 refine ⟨(eT fun e=>?_).trans h1,h2⟩
 have:=bw.2 (iQ hq)
 rw[e,ht]at this;cases this
def roF (E:CEnv Z) (o:Oper):Option (qB Z.toSeat):=match o.op with
 |.call c=>(match c.callee with|.value (.func f)=>EJ E.FX f|_=>none)
 |_=>none
def Oi (s:Nat) (l':List I):Ef:=⟨none,.undef,none,some (s,.box l')⟩
def ab5 (S:IS) (t:Nat) (e:TypeId) (tt:T) (m:List (den tt)) (d:I):Ef:=⟨some t,ql t (S.gen t+1) d,some (t,S.gen t+1),some (t,.arr e tt m)⟩
def roC (E:CEnv Z) (F:Fix) (S:IS) (o:Oper) (k:IS→Option R) (gA:Option R):Option R:=match roF E o with
 |none=>gA
 |some sp=>(match o.op with
  |.call c=>(match o.dst,c.args.toList with
   |some t,x0::xs=>(match S.ev Z E.nt x0 with
    |.bx s g 0=>live S s g (match S.own s with
     |.box l=>sp.app l (xs.map (S.ev Z E.nt)) (fun l' e tt m d=>ao (!(Nat.beq t s)&&gP E.ba F (Oi s l')&&gP E.ba F (ab5 S t e tt m d)) (k ((S.dE (Oi s l')).dE (ab5 S t e tt m d))))
     |_=>none)
    |_=>none)
   |_,_=>none)
  |_=>none)
theorem alH {E:CEnv Z}{g0:Nat→Nat} (hX:At X Z E.nt) {F:Fix}{S:IS}{o:Oper}{k:IS→Option R}{gA:Option R}{h:Nat→Nat} (hi:Inv E.ba g0 F h S) (hr:roC E F S o k gA=some r) :
  gA=some r∨∃ S',k S'=some r∧Inv E.ba g0 F h S'∧∀ (ops:Array Oper) (rest:List Oper) (Q:Exit→St→Prop),o.guard=none→WL X ops rest Q (S'.toSt h)→WL X ops (o::rest) Q (S.toSt h):=by
 unfold roC at hr
 split at hr
 ·exact .inl hr
 rename_i sp iu
 split at hr
 case h_2=>cases hr
 rename_i c ho
 have Dj:∃ f,c.callee=.value (.func f)∧EJ E.FX f=some sp:=by
  unfold roF at iu
  rw[ho]at iu
  simp only at iu
  split at iu
  ·rename_i f hf;exact⟨f,hf,iu⟩
  ·cases iu
 obtain ⟨f,hf,MI⟩:=Dj
 have nM:=Mj MI
 subst nM
 split at hr
 case h_2=>cases hr
 rename_i t x0 xs hd zZ
 split at hr
 case h_2=>cases hr
 rename_i s g hx
 replace hr:=cX hr
 obtain ⟨rfl,hr⟩:=hr
 split at hr
 case h_2=>cases hr
 rename_i l aF
 obtain ⟨l',e,tt,m,d,h1,h2⟩:=sp.ok _ _ _ _ hr
 obtain ⟨h3,h1⟩:=aq h1
 simp only[Bool.and_eq_true,Bool.not_eq_true']at h3
 obtain ⟨⟨fW,p1⟩,p2⟩:=h3
 have p2':gP E.ba F (ab5 S t e tt m d)=true:=p2
 refine .inr ⟨_,h1,(hi.dE p1).dE p2,fun ops rest Q hg hk=>?_⟩
 obtain ⟨ce,ca,ct⟩:=c
 simp only at hf zZ
 subst hf
 have hca:ca=(x0::xs).toArray:=by rw[← zZ]
 subst hca
 have cx:t≠s:=fun e=>by subst e;rw[Nat.beq_refl]at fW;cases fW
 refine V9 t (s:=s) (g:=h s+S.gen s) cx hg ho (by rw[dO hX,hx];rfl) rfl (by show (S.own s).toOwn h=_;rw[aF];rfl) (by rw[hX.Z];exact h2 h) (by
  rw[ef,List.map_map]
  exact List.map_congr_left fun x _=>dO hX x) hd (xS h t (S.gen t+1) d).symm ?_
 rw[fe,fe]at hk
 exact hk
def omF (E:CEnv Z) (o:Oper):Option (qA Z.toSeat):=match o.op with
 |.call c=>(match c.callee with|.value (.func f)=>EG E.FQ f|_=>none)
 |_=>none
def plM (t:Nat):Nat→List Nat
 |0=>[]
 |n+1=>plM t n++[t+n * 10000]
def adb (S:IS):List Nat→Bool
 |[]=>true
 |p::l=>(match S.own p with|.none=>true|_=>false)&&adb S l
def acW (S:IS) (n:Nat):Nat→Nat→Nat
 |t,0=>t
 |t,k+1=>bif adb S (plM t n) then t else acW S n (t+1000000) k
def oh (S:IS) (t n:Nat):List Nat:=plM (acW S n t 8) n
def oE (S:IS) (p:Nat) (q:oZ):Ef:=⟨none,.undef,some (p,S.gen p+1),some (p,.arr q.E q.t q.l)⟩
def Hs:IS→List Nat→List oZ→IS
 |S,p::ps,q::os=>Hs (S.dE (oE S p q)) ps os
 |S,_,_=>S
def NC (p:List Nat) (F:Fix):IS→List Nat→List oZ→Bool
 |S,q::ps,a::os=>gP p F (oE S q a)&&NC p F (S.dE (oE S q a)) ps os
 |_,_,_=>true
def omE (S:IS) (ps:List Nat) (t:Nat) (d:I):Ef:=⟨some t,nJ (fun i=>(iJ ps i,S.gen (iJ ps i)+1)) d,none,none⟩
def omC (E:CEnv Z) (F:Fix) (S:IS) (o:Oper) (k:IS→Option R) (gA:Option R):Option R:=match omF E o with
 |none=>gA
 |some sp=>(match o.op with
  |.call c=>(match o.dst with
   |some t=>sp.app (c.args.toList.map (S.ev Z E.nt)) (fun os d=>ao (Nat.beq (oh S t os.length).length os.length&&sf (oh S t os.length)&&NC E.ba F S (oh S t os.length) os&&gP E.ba F (omE S (oh S t os.length) t d)) (k ((Hs S (oh S t os.length) os).dE (omE S (oh S t os.length) t d))))
   |none=>none)
  |_=>none)
theorem DB {p:List Nat}{g0:Nat→Nat}{F:Fix}{h:Nat→Nat}:∀ {ps:List Nat}{os:List oZ}{S:IS},Inv p g0 F h S→NC p F S ps os=true→Inv p g0 F h (Hs S ps os)
 |[],os,S,hi,_=>by cases os<;>exact hi
 |q::ps,[],S,hi,_=>hi
 |q::ps,a::os,S,hi,hp=>by
  simp only[NC,Bool.and_eq_true]at hp
  exact DB (S:=S.dE (oE S q a)) (hi.dE hp.1) hp.2
theorem As (h:Nat→Nat):∀ {ps:List Nat}{os:List oZ}{S:IS},sf ps=true→ps.length=os.length →
  (Hs S ps os).toSt h=⟨(S.toSt h).ρ,iZ (iF ps) (fun s=>(S.toSt h).γ s+1) (S.toSt h).γ,iZ (iF ps) (fun s=>(Al os (iE ps s)).own) (S.toSt h).σ⟩
 |[],[],S,_,_=>rfl
 |[],_::_,S,_,hl=>by cases hl
 |_::_,[],S,_,hl=>by cases hl
 |p::ps,q::os,S,hd,hl=>by
  simp only[sf,Bool.and_eq_true,Bool.not_eq_true']at hd
  have ih:=As h (ps:=ps) (os:=os) (S:=S.dE (oE S p q)) hd.2 (by simpa using hl)
  show (Hs (S.dE (oE S p q)) ps os).toSt h=_
  rw[ih,fe]
  have dk:((S.toSt h).app (oE S p q).wr ((oE S p q).vl h)).γ=aG (S.toSt h).γ p ((S.toSt h).γ p+1):=by
   show vL (S.toSt h).γ (some p) (h p+(S.gen p+1))=_
   have:h p+(S.gen p+1)=(S.toSt h).γ p+1:=by show _=h p+S.gen p+1;omega
   rw[this];rfl
  have aF:((S.toSt h).app (oE S p q).wr ((oE S p q).vl h)).σ=aG (S.toSt h).σ p q.owA.own:=rfl
  have X3:((S.toSt h).app (oE S p q).wr ((oE S p q).vl h)).ρ=(S.toSt h).ρ:=rfl
  rw[dk,aF,X3]
  congr 1
  ·funext s
   by_cases e:s=p
   ·subst e
    rw[ks hd.1,aC,jI (by simp[iF,Nat.beq_refl])]
   ·have hb:Nat.beq s p=false:=by cases hb:Nat.beq s p with|false=>rfl|true=>exact absurd (Nat.eq_of_beq_eq_true hb) e
    cases eJ:iF ps s with
    |true=>rw[jI eJ,jI (by simp[iF,hb,eJ]),bh _ _ _ _ e]
    |false=>rw[ks eJ,ks (by simp[iF,hb,eJ]),bh _ _ _ _ e]
  ·funext s
   by_cases e:s=p
   ·subst e
    rw[ks hd.1,aC,jI (by simp[iF,Nat.beq_refl])]
    simp[iE,Nat.beq_refl,Al,Nu]
   ·have hb:Nat.beq s p=false:=by cases hb:Nat.beq s p with|false=>rfl|true=>exact absurd (Nat.eq_of_beq_eq_true hb) e
    cases eJ:iF ps s with
    |true =>
     rw[jI eJ,jI (by simp[iF,hb,eJ])]
     simp[iE,hb,Al,Nu]
    |false=>rw[ks eJ,ks (by simp[iF,hb,eJ]),bh _ _ _ _ e]
theorem ak2 {E:CEnv Z}{g0:Nat→Nat} (hX:At X Z E.nt) {F:Fix}{S:IS}{o:Oper}{k:IS→Option R}{gA:Option R}{h:Nat→Nat} (hi:Inv E.ba g0 F h S) (hr:omC E F S o k gA=some r) :
  gA=some r∨∃ S',k S'=some r∧Inv E.ba g0 F h S'∧∀ (ops:Array Oper) (rest:List Oper) (Q:Exit→St→Prop),o.guard=none→WL X ops rest Q (S'.toSt h)→WL X ops (o::rest) Q (S.toSt h):=by
 unfold omC at hr
 split at hr
 ·exact .inl hr
 rename_i sp iu
 split at hr
 case h_2=>cases hr
 rename_i c ho
 have Dj:∃ f,c.callee=.value (.func f)∧EG E.FQ f=some sp:=by
  unfold omF at iu
  rw[ho]at iu
  simp only at iu
  split at iu
  ·rename_i f hf;exact⟨f,hf,iu⟩
  ·cases iu
 obtain ⟨f,hf,MI⟩:=Dj
 have nM:=Mg MI
 subst nM
 split at hr
 case h_2=>cases hr
 rename_i t hd
 obtain ⟨os,d,h1,h2⟩:=sp.ok _ _ _ hr
 obtain ⟨h3,h1⟩:=aq h1
 simp only[Bool.and_eq_true]at h3
 obtain ⟨⟨⟨q1,q2⟩,q3⟩,q4⟩:=h3
 have q1:=Nat.eq_of_beq_eq_true q1
 refine .inr ⟨_,h1,(DB hi q3).dE q4,fun ops rest Q hg hk=>?_⟩
 obtain ⟨ce,ca,ct⟩:=c
 simp only at hf h2
 subst hf
 refine V8 (oh S t os.length) q2 (os:=Al os) hg ho (by rw[hX.Z,q1];exact h2 h) (by
  rw[ef,List.map_map]
  exact List.map_congr_left fun x _=>dO hX x) hd (u4 h (fun i=>(iJ (oh S t os.length) i,S.gen (iJ (oh S t os.length) i)+1)) d).symm ?_
 rw[fe,As h q2 q1]at hk
 exact hk
def alI (E:CEnv Z) (o:Oper):Option (gH Z.toSeat):=match o.op with
 |.call c=>(match c.callee with|.value (.func f)=>EI E.FW f|_=>none)
 |_=>none
def ab6 (E:CEnv Z) (F:Fix) (S:IS) (o:Oper) (k:IS→Option R) (gA:Option R):Option R:=match alI E o with
 |none=>gA
 |some sp=>(match o.op with
  |.call c=>(match o.dst,c.args.toList with
   |some t,x0::xs=>(match S.ev Z E.nt x0 with
    |.bx s g 0=>live S s g (match S.own s with
     |.box l=>sp.app l (xs.map (S.ev Z E.nt)) (fun l' os d=>ao (Nat.beq (oh S t os.length).length os.length&&sf (oh S t os.length)&&!(iF (oh S t os.length) s)&&gP E.ba F (Oi s l')&&NC E.ba F (S.dE (Oi s l')) (oh S t os.length) os&&gP E.ba F (omE S (oh S t os.length) t d)) (k ((Hs (S.dE (Oi s l')) (oh S t os.length) os).dE (omE S (oh S t os.length) t d))))
     |_=>none)
    |_=>none)
   |_,_=>none)
  |_=>none)
theorem ag0 {E:CEnv Z}{g0:Nat→Nat} (hX:At X Z E.nt) {F:Fix}{S:IS}{o:Oper}{k:IS→Option R}{gA:Option R}{h:Nat→Nat} (hi:Inv E.ba g0 F h S) (hr:ab6 E F S o k gA=some r) :
  gA=some r∨∃ S',k S'=some r∧Inv E.ba g0 F h S'∧∀ (ops:Array Oper) (rest:List Oper) (Q:Exit→St→Prop),o.guard=none→WL X ops rest Q (S'.toSt h)→WL X ops (o::rest) Q (S.toSt h):=by
 unfold ab6 at hr
 split at hr
 ·exact .inl hr
 rename_i sp iu
 split at hr
 case h_2=>cases hr
 rename_i c ho
 have Dj:∃ f,c.callee=.value (.func f)∧EI E.FW f=some sp:=by
  unfold alI at iu
  rw[ho]at iu
  simp only at iu
  split at iu
  ·rename_i f hf;exact⟨f,hf,iu⟩
  ·cases iu
 obtain ⟨f,hf,MI⟩:=Dj
 have nM:=Mi MI
 subst nM
 split at hr
 case h_2=>cases hr
 rename_i t x0 xs hd zZ
 split at hr
 case h_2=>cases hr
 rename_i s g hx
 replace hr:=cX hr
 obtain ⟨rfl,hr⟩:=hr
 split at hr
 case h_2=>cases hr
 rename_i l aF
 obtain ⟨l',os,d,h1,h2⟩:=sp.ok _ _ _ _ hr
 obtain ⟨h3,h1⟩:=aq h1
 simp only[Bool.and_eq_true,Bool.not_eq_true']at h3
 obtain ⟨⟨⟨⟨⟨q1,q2⟩,pR⟩,p1⟩,q3⟩,q4⟩:=h3
 have q1:=Nat.eq_of_beq_eq_true q1
 refine .inr ⟨_,h1,(DB (hi.dE p1) q3).dE q4,fun ops rest Q hg hk=>?_⟩
 obtain ⟨ce,ca,ct⟩:=c
 simp only at hf zZ
 subst hf
 have hca:ca=(x0::xs).toArray:=by rw[← zZ]
 subst hca
 refine Sj (oh S t os.length) q2 (os:=Al os) (s:=s) (g:=h s+S.gen s) pR hg ho (by rw[dO hX,hx];rfl) rfl (by show (S.own s).toOwn h=_;rw[aF];rfl) (by rw[hX.Z,q1];exact h2 h) (by
  rw[ef,List.map_map]
  exact List.map_congr_left fun x _=>dO hX x) hd (u4 h (fun i=>(iJ (oh S t os.length) i,S.gen (iJ (oh S t os.length) i)+1)) d).symm ?_
 rw[fe,As h q2 q1,fe]at hk
 exact hk
def G7:List Nat→Nat→Option Nat
 |[],_=>none
 |p::l,s=>bif Nat.beq s p then some 0 else (match G7 l s with|some i=>some (i+1)|none=>none)
def pF:List Nat→Nat→Nat
 |[],_=>0
 |p::_,0=>p
 |_::l,n+1=>pF l n
def EK:Nat→Nat→Option Nat
 |0,_=>none
 |n+1,s=>bif Nat.beq s (XB+n) then some n else EK n s
theorem Ig:∀ {n s i:Nat},EK n s=some i→i<n∧s=XB+i
 |n+1,s,i,h=>by
  unfold EK at h
  cases hb:Nat.beq s (XB+n) with
  |true =>
   rw[hb]at h
   simp only[cond_true,Option.some.injEq]at h
   subst h
   exact⟨Nat.lt_succ_self _,Nat.eq_of_beq_eq_true hb⟩
  |false =>
   rw[hb]at h
   obtain ⟨h1,h2⟩:=Ig h
   exact⟨Nat.lt_succ_of_lt h1,h2⟩
mutual
def kQ (S:IS) (ps:List Nat):I→Option I
 |.bx s g o=>(match G7 ps s with|some i=>bif Nat.beq g (S.gen s)&&!(dm (S.own s)) then some (.bx i 1 o) else none|none=>none)
 |.mb s g T=>(match G7 ps s with|some i=>bif Nat.beq g (S.gen s)&&!(dm (S.own s)) then some (.mb i 1 T) else none|none=>none)
 |.os s g=>(match G7 ps s with|some i=>bif Nat.beq g (S.gen s)&&dm (S.own s) then some (.os (XB+i) 1) else none|none=>none)
 |.agg l=>(match Iu S ps l with|some l'=>some (.agg l')|none=>none)
 |.fn f l=>(match Iu S ps l with|some l'=>some (.fn f l')|none=>none)
 |.int k n=>some (.int k n)
 |.bool b=>some (.bool b)
 |.str b=>some (.str b)
 |.sl t l=>some (.sl t l)
 |.ft t l=>some (.ft t l)
 |.nil=>some .nil
 |.one=>some .one
 |.lk c=>some (.lk c)
 |.er b=>some (.er b)
 |.undef=>some .undef
 |.rp l o=>bif bV l then some (.rp l o) else none
 |_=>none
def Iu (S:IS) (ps:List Nat):List I→Option (List I)
 |[]=>some []
 |d::l=>(match kQ S ps d with|some d'=>(match Iu S ps l with|some l'=>some (d'::l')|none=>none)|none=>none)
end
mutual
def jg (S:IS) (ps:List Nat):I→Option I
 |.bx i g o=>bif Nat.blt i ps.length&&Nat.beq g 1&&!(dm (S.own (pF ps i))) then some (.bx (pF ps i) (S.gen (pF ps i)) o) else none
 |.mb i g T=>bif Nat.blt i ps.length&&Nat.beq g 1&&!(dm (S.own (pF ps i))) then some (.mb (pF ps i) (S.gen (pF ps i)) T) else none
 |.os s g=>(match EK ps.length s with|some i=>bif Nat.beq g 1&&dm (S.own (pF ps i)) then some (.os (pF ps i) (S.gen (pF ps i))) else none|none=>none)
 |.agg l=>(match Am S ps l with|some l'=>some (.agg l')|none=>none)
 |.fn f l=>(match Am S ps l with|some l'=>some (.fn f l')|none=>none)
 |.int k n=>some (.int k n)
 |.bool b=>some (.bool b)
 |.str b=>some (.str b)
 |.sl t l=>some (.sl t l)
 |.ft t l=>some (.ft t l)
 |.nil=>some .nil
 |.one=>some .one
 |.lk c=>some (.lk c)
 |.er b=>some (.er b)
 |.undef=>some .undef
 |.rp l o=>bif bV l then some (.rp l o) else none
 |_=>none
def Am (S:IS) (ps:List Nat):List I→Option (List I)
 |[]=>some []
 |d::l=>(match jg S ps d with|some d'=>(match Am S ps l with|some l'=>some (d'::l')|none=>none)|none=>none)
end
mutual
theorem fa (h:Nat→Nat):∀ d:I,eA d=true→Pure (d.toD h)
 |.bx _ _ _,e=>by cases e
 |.mb _ _ _,e=>by cases e
 |.os _ _,e=>by cases e
 |.op _ _ _ _ _,e=>by cases e
 |.ow _ _ _ _ _,e=>by cases e
 |.yl _,e=>by cases e
 |.agg l,e=>.agg _ (eP h l e)
 |.bn l,e=>.bn _ (eP h l e)
 |.fn f l,e=>.fn f _ (eP h l e)
 |.mf f l,e=>.mf f _ (eP h l e)
 |.rp l o,e=>.rp _ o (eP h l e)
 |.int _ _,_=>.int _ _|.bool _,_=>.bool _|.str _,_=>.str _|.sl t l,_=>.sl _ _ _ (fun i _=>cN t _)|.ft t l,_=>(by show Pure (RJ t l);cases l with|nil=>exact .nil|cons=>exact .sl _ _ _ (fun i _=>cN t _))|.nil,_=>.nil|.one,_=>.one|.lk c,_=>.lk c|.er b,_=>.lk _|.undef,_=>.undef
theorem eP (h:Nat→Nat):∀ l:List I,bV l=true→∀ d∈I.al h l,Pure d
 |[],_,d,hd=>by cases hd
 |x::l,e,d,hd=>by
  simp only[bV,Bool.and_eq_true]at e
  rcases List.mem_cons.1 hd with rfl|hd
  ·exact fa h x e.1
  ·exact eP h l e.2 d hd
end
theorem Bv:∀ {l:List Nat}{s i:Nat},G7 l s=some i→i<l.length∧pF l i=s
 |p::l,s,i,e=>by
  unfold G7 at e
  cases hb:Nat.beq s p with
  |true=>rw[hb]at e;simp only[cond_true,Option.some.injEq]at e;subst e;exact⟨by simp,(Nat.eq_of_beq_eq_true hb).symm⟩
  |false =>
   rw[hb]at e
   simp only[cond_false]at e
   split at e
   ·rename_i j hj
    simp only[Option.some.injEq]at e
    subst e
    obtain ⟨h1,h2⟩:=Bv hj
    exact⟨by simp;omega,h2⟩
   ·cases e
def j4 (S:IS) (ps:List Nat):Nat→Nat:=fun i=>bif dm (S.own (pF ps i)) then XB+i else i
section
variable {S:IS}{ps:List Nat}{h:Nat→Nat}
abbrev gF (S:IS) (h:Nat→Nat) (ps:List Nat):Nat→Nat:=fun j=>h (pF ps j)+S.gen (pF ps j)
mutual
theorem M5 {q:Nat→Nat} (hq:∀ i,i<ps.length→q i=j4 S ps i):∀ {d d':I},kQ S ps d=some d'→Rn ps.length (pF ps) (gF S h ps) q one (d.toD h) (d'.toD zh)
 |.bx s g o,d',e=>by
  unfold kQ at e
  split at e
  ·rename_i i hi
   cases hb:Nat.beq g (S.gen s)&&!(dm (S.own s)) with
   |false=>rw[hb]at e;cases e
   |true =>
    rw[hb]at e
    simp only[cond_true,Option.some.injEq]at e
    subst e
    simp only[Bool.and_eq_true,Bool.not_eq_true']at hb
    have:=Nat.eq_of_beq_eq_true hb.1
    subst this
    obtain ⟨h1,h2⟩:=Bv hi
    have h3:=Rn.bx (n:=ps.length) (p:=pF ps) (g:=gF S h ps) (p':=q) (g':=one) i o h1
    have h4:q i=i:=by rw[hq i h1];unfold j4;rw[h2,hb.2];rfl
    simp only[gF,h2,h4]at h3
    exact h3
  ·cases e
 |.mb s g T,d',e=>by
  unfold kQ at e
  split at e
  ·rename_i i hi
   cases hb:Nat.beq g (S.gen s)&&!(dm (S.own s)) with
   |false=>rw[hb]at e;cases e
   |true =>
    rw[hb]at e
    simp only[cond_true,Option.some.injEq]at e
    subst e
    simp only[Bool.and_eq_true,Bool.not_eq_true']at hb
    have:=Nat.eq_of_beq_eq_true hb.1
    subst this
    obtain ⟨h1,h2⟩:=Bv hi
    have h3:=Rn.mb (n:=ps.length) (p:=pF ps) (g:=gF S h ps) (p':=q) (g':=one) i T h1
    have h4:q i=i:=by rw[hq i h1];unfold j4;rw[h2,hb.2];rfl
    simp only[gF,h2,h4]at h3
    exact h3
  ·cases e
 |.os s g,d',e=>by
  unfold kQ at e
  split at e
  ·rename_i i hi
   cases hb:Nat.beq g (S.gen s)&&dm (S.own s) with
   |false=>rw[hb]at e;cases e
   |true =>
    rw[hb]at e
    simp only[cond_true,Option.some.injEq]at e
    subst e
    simp only[Bool.and_eq_true]at hb
    have:=Nat.eq_of_beq_eq_true hb.1
    subst this
    obtain ⟨h1,h2⟩:=Bv hi
    have h3:=Rn.os (n:=ps.length) (p:=pF ps) (g:=gF S h ps) (p':=q) (g':=one) i h1
    have h4:q i=XB+i:=by rw[hq i h1];unfold j4;rw[h2,hb.2];rfl
    simp only[gF,h2,h4]at h3
    exact h3
  ·cases e
 |.agg l,d',e=>by
  unfold kQ at e
  split at e
  ·rename_i l' hl
   simp only[Option.some.injEq]at e
   subst e
   exact .agg _ _ (z8 hq hl)
  ·cases e
 |.fn f l,d',e=>by
  unfold kQ at e
  split at e
  ·rename_i l' hl
   simp only[Option.some.injEq]at e
   subst e
   exact .fn f _ _ (z8 hq hl)
  ·cases e
 |.rp l o,d',e=>by
  unfold kQ at e
  cases hn:bV l with
  |false=>rw[hn]at e;cases e
  |true =>
   rw[hn]at e
   simp only[cond_true,Option.some.injEq]at e
   subst e
   rw[ig h zh (.rp l o) hn]
   exact .pure _ (fa zh (.rp l o) hn)
 |.int k n,d',e=>by simp only[kQ,Option.some.injEq]at e;subst e;exact .pure _ (.int _ _)
 |.bool b,d',e=>by simp only[kQ,Option.some.injEq]at e;subst e;exact .pure _ (.bool _)
 |.str b,d',e=>by simp only[kQ,Option.some.injEq]at e;subst e;exact .pure _ (.str _)
 |.sl t l,d',e=>by simp only[kQ,Option.some.injEq]at e;subst e;exact .pure _ (fa h (.sl t l) rfl)
 |.ft t l,d',e=>by simp only[kQ,Option.some.injEq]at e;subst e;exact .pure _ (fa h (.ft t l) rfl)
 |.nil,d',e=>by simp only[kQ,Option.some.injEq]at e;subst e;exact .pure _ .nil
 |.one,d',e=>by simp only[kQ,Option.some.injEq]at e;subst e;exact .pure _ .one
 |.lk c,d',e=>by simp only[kQ,Option.some.injEq]at e;subst e;exact .pure _ (.lk c)
 |.er b,d',e=>by simp only[kQ,Option.some.injEq]at e;subst e;exact .pure _ (.lk (Nv b))
 |.undef,d',e=>by simp only[kQ,Option.some.injEq]at e;subst e;exact .pure _ .undef
 |.bn l,d',e=>by simp only[kQ]at e;cases e
 |.op _ _ _ _ _,d',e=>by simp only[kQ]at e;cases e
 |.ow _ _ _ _ _,d',e=>by simp only[kQ]at e;cases e
 |.yl _,d',e=>by simp only[kQ]at e;cases e
 |.mf _ _,d',e=>by simp only[kQ]at e;cases e
theorem z8 {q:Nat→Nat} (hq:∀ i,i<ps.length→q i=j4 S ps i):∀ {l l':List I},Iu S ps l=some l'→fZ ps.length (pF ps) (gF S h ps) q one (I.al h l) (I.al zh l')
 |[],l',e=>by simp only[Iu,Option.some.injEq]at e;subst e;exact .nil
 |d::l,m,e=>by
  unfold Iu at e
  split at e
  ·rename_i d' hd
   split at e
   ·rename_i l' hl
    simp only[Option.some.injEq]at e
    subst e
    exact .cons _ _ _ _ (M5 hq hd) (z8 hq hl)
   ·cases e
  ·cases e
end
mutual
theorem wx {q:Nat→Nat} (hq:∀ i,i<ps.length→q i=j4 S ps i):∀ {d d':I},jg S ps d=some d'→Rn ps.length q one (pF ps) (gF S h ps) (d.toD zh) (d'.toD h)
 |.bx i g o,d',e=>by
  unfold jg at e
  cases hb:Nat.blt i ps.length&&Nat.beq g 1&&!(dm (S.own (pF ps i))) with
  |false=>rw[hb]at e;cases e
  |true =>
   rw[hb]at e
   simp only[cond_true,Option.some.injEq]at e
   subst e
   simp only[Bool.and_eq_true,Bool.not_eq_true']at hb
   have:=Nat.eq_of_beq_eq_true hb.1.2
   subst this
   have h1:i<ps.length:=by simpa[Nat.blt_eq] using hb.1.1
   have h3:=Rn.bx (n:=ps.length) (p:=q) (g:=one) (p':=pF ps) (g':=gF S h ps) i o h1
   have h4:q i=i:=by rw[hq i h1];unfold j4;rw[hb.2];rfl
   rw[h4]at h3
   exact h3
 |.mb i g T,d',e=>by
  unfold jg at e
  cases hb:Nat.blt i ps.length&&Nat.beq g 1&&!(dm (S.own (pF ps i))) with
  |false=>rw[hb]at e;cases e
  |true =>
   rw[hb]at e
   simp only[cond_true,Option.some.injEq]at e
   subst e
   simp only[Bool.and_eq_true,Bool.not_eq_true']at hb
   have:=Nat.eq_of_beq_eq_true hb.1.2
   subst this
   have h1:i<ps.length:=by simpa[Nat.blt_eq] using hb.1.1
   have h3:=Rn.mb (n:=ps.length) (p:=q) (g:=one) (p':=pF ps) (g':=gF S h ps) i T h1
   have h4:q i=i:=by rw[hq i h1];unfold j4;rw[hb.2];rfl
   rw[h4]at h3
   exact h3
 |.os s g,d',e=>by
  unfold jg at e
  split at e
  ·rename_i i hi
   cases hb:Nat.beq g 1&&dm (S.own (pF ps i)) with
   |false=>rw[hb]at e;cases e
   |true =>
    rw[hb]at e
    simp only[cond_true,Option.some.injEq]at e
    subst e
    simp only[Bool.and_eq_true]at hb
    have:=Nat.eq_of_beq_eq_true hb.1
    subst this
    obtain ⟨h1,rfl⟩:=Ig hi
    have h3:=Rn.os (n:=ps.length) (p:=q) (g:=one) (p':=pF ps) (g':=gF S h ps) i h1
    have h4:q i=XB+i:=by rw[hq i h1];unfold j4;rw[hb.2];rfl
    rw[h4]at h3
    exact h3
  ·cases e
 |.agg l,d',e=>by
  unfold jg at e
  split at e
  ·rename_i l' hl
   simp only[Option.some.injEq]at e
   subst e
   exact .agg _ _ (wy hq hl)
  ·cases e
 |.fn f l,d',e=>by
  unfold jg at e
  split at e
  ·rename_i l' hl
   simp only[Option.some.injEq]at e
   subst e
   exact .fn f _ _ (wy hq hl)
  ·cases e
 |.rp l o,d',e=>by
  unfold jg at e
  cases hn:bV l with
  |false=>rw[hn]at e;cases e
  |true =>
   rw[hn]at e
   simp only[cond_true,Option.some.injEq]at e
   subst e
   rw[ig h zh (.rp l o) hn]
   exact .pure _ (fa zh (.rp l o) hn)
 |.int k n,d',e=>by simp only[jg,Option.some.injEq]at e;subst e;exact .pure _ (.int _ _)
 |.bool b,d',e=>by simp only[jg,Option.some.injEq]at e;subst e;exact .pure _ (.bool _)
 |.str b,d',e=>by simp only[jg,Option.some.injEq]at e;subst e;exact .pure _ (.str _)
 |.sl t l,d',e=>by simp only[jg,Option.some.injEq]at e;subst e;exact .pure _ (fa h (.sl t l) rfl)
 |.ft t l,d',e=>by simp only[jg,Option.some.injEq]at e;subst e;exact .pure _ (fa h (.ft t l) rfl)
 |.nil,d',e=>by simp only[jg,Option.some.injEq]at e;subst e;exact .pure _ .nil
 |.one,d',e=>by simp only[jg,Option.some.injEq]at e;subst e;exact .pure _ .one
 |.lk c,d',e=>by simp only[jg,Option.some.injEq]at e;subst e;exact .pure _ (.lk c)
 |.er b,d',e=>by simp only[jg,Option.some.injEq]at e;subst e;exact .pure _ (.lk (Nv b))
 |.undef,d',e=>by simp only[jg,Option.some.injEq]at e;subst e;exact .pure _ .undef
 |.bn l,d',e=>by simp only[jg]at e;cases e
 |.op _ _ _ _ _,d',e=>by simp only[jg]at e;cases e
 |.ow _ _ _ _ _,d',e=>by simp only[jg]at e;cases e
 |.yl _,d',e=>by simp only[jg]at e;cases e
 |.mf _ _,d',e=>by simp only[jg]at e;cases e
theorem wy {q:Nat→Nat} (hq:∀ i,i<ps.length→q i=j4 S ps i):∀ {l l':List I},Am S ps l=some l'→fZ ps.length q one (pF ps) (gF S h ps) (I.al zh l) (I.al h l')
 |[],l',e=>by simp only[Am,Option.some.injEq]at e;subst e;exact .nil
 |d::l,m,e=>by
  unfold Am at e
  split at e
  ·rename_i d' hd
   split at e
   ·rename_i l' hl
    simp only[Option.some.injEq]at e
    subst e
    exact .cons _ _ _ _ (wx hq hd) (wy hq hl)
   ·cases e
  ·cases e
end
end
mutual
theorem Rn.symm {n:Nat}{p g p' g':Nat→Nat}:∀ {d d':D},Rn n p g p' g' d d'→Rn n p' g' p g d' d
 |_,_,.pure d hd=>.pure d hd
 |_,_,.bx i o hi=>.bx i o hi
 |_,_,.mb i T hi=>.mb i T hi
 |_,_,.os i hi=>.os i hi
 |_,_,.agg l l' hl=>.agg _ _ (fZ.symm hl)
 |_,_,.fn f c c' hl=>.fn f _ _ (fZ.symm hl)
theorem fZ.symm {n:Nat}{p g p' g':Nat→Nat}:∀ {l l':List D},fZ n p g p' g' l l'→fZ n p' g' p g l' l
 |_,_,.nil=>.nil
 |_,_,.cons d d' l l' a b=>.cons _ _ _ _ (Rn.symm a) (fZ.symm b)
end
theorem gn.symm {n:Nat}{p g p' g':Nat→Nat}{o o':Own} (h:gn n p g p' g' o o'):gn n p' g' p g o' o:=by
 cases h with
 |box l l' hl=>exact .box _ _ hl.symm
 |arr E z m f f' hf=>exact .arr _ _ _ _ _ fun i hi=>(hf i hi).symm
 |none=>exact .none
def lG:List Nat→Bool
 |[]=>true
 |p::l=>!(bc p l)&&lG l
theorem qg:∀ {l:List Nat}{i:Nat},i<l.length→pF l i∈l
 |p::l,0,_=>List.mem_cons_self ..
 |p::l,i+1,h=>List.mem_cons_of_mem _ (qg (by simpa using h))
theorem nH:∀ {l:List Nat},lG l=true→∀ i j,i<l.length→j<l.length→pF l i=pF l j→i=j
 |p::l,h,0,0,_,_,_=>rfl
 |p::l,h,0,j+1,_,hj,e=>by
  simp only[lG,Bool.and_eq_true,Bool.not_eq_true']at h
  have h1:pF l j∈l:=qg (by simpa using hj)
  have e:p=pF l j:=e
  rw[← e]at h1
  rw[bw.2 h1]at h;cases h.1
 |p::l,h,i+1,0,hi,_,e=>by
  simp only[lG,Bool.and_eq_true,Bool.not_eq_true']at h
  have h1:pF l i∈l:=qg (by simpa using hi)
  have e:pF l i=p:=e
  rw[e]at h1
  rw[bw.2 h1]at h;cases h.1
 |p::l,h,i+1,j+1,hi,hj,e=>by
  simp only[lG,Bool.and_eq_true]at h
  rw[nH h.2 i j (by simpa using hi) (by simpa using hj) e]
def ahu (p:Nat) (acc:List Nat):List Nat:=bif bc p acc then acc else acc++[p]
mutual
def asu:I→List Nat→List Nat
 |.bx p _ _,acc=>ahu p acc
 |.os p _,acc=>ahu p acc
 |.agg l,acc=>xQ l acc
 |.fn _ l,acc=>xQ l acc
 |_,acc=>acc
def xQ:List I→List Nat→List Nat
 |[],acc=>acc
 |d::l,acc=>xQ l (asu d acc)
end
def abY (S:IS):Nat→List Nat→List Nat→List Nat
 |n+1,p::l,acc=>(match S.own p with
  |.box m=>abY S n (l++(xQ m acc).drop acc.length) (xQ m acc)
  |_=>abY S n l acc)
 |_,_,acc=>acc
def vo (S:IS) (vs:List I):List Nat:=abY S 64 (xQ vs []) (xQ vs [])
def G9 (S:IS) (ps:List Nat):aK→Option aK
 |.box m=>(match Iu S ps m with|some m'=>some (.box m')|none=>none)
 |.arr E t l=>some (.arr E t l)
 |_=>none
def Iv (S:IS) (ps:List Nat):List Nat→Option (List aK)
 |[]=>some []
 |p::l=>(match G9 S ps (S.own p),Iv S ps l with
  |some o,some ls=>some (o::ls)
  |_,_=>none)
def adU (S:IS) (ps:List Nat):aK→aK→Option aK
 |.box _,.box m=>(match Am S ps m with|some m'=>some (.box m')|none=>none)
 |.arr _ _ _,.arr E t l=>some (.arr E t l)
 |_,.none=>some .none
 |_,_=>none
def mE (p:Nat) (o:aK):Ef:=⟨none,.undef,none,some (p,o)⟩
def Dw (ba:List Nat) (F:Fix) (S0:IS) (ps:List Nat):IS→List Nat→List aK→Option IS
 |S,i::wr,l::ls=>(match adU S0 ps (S0.own (pF ps i)) l with
  |some m=>bif Nat.blt i ps.length&&gP ba F (mE (pF ps i) m) then Dw ba F S0 ps (S.dE (mE (pF ps i) m)) wr ls else none
  |none=>none)
 |S,[],[]=>some S
 |_,_,_=>none
def kaP:Nat→List Nat→List I→List Nat
 |_,_,[]=>[]
 |i,ka,d::l=>(bif bc i ka then [] else gN d)++kaP (i+1) ka l
def kbP (S:IS):Nat→List Nat→List Nat→List Nat
 |_,_,[]=>[]
 |i,kb,p::l=>(match S.own p with|.box m=>bif bc i kb then [] else ez m|_=>[])++kbP S (i+1) kb l
def kaA:Nat→List Nat→List I→List I
 |_,_,[]=>[]
 |i,ka,d::l=>(bif bc i ka then d else (match d with|.os _ _=>.undef|d=>d))::kaA (i+1) ka l
def qX (S:IS) (ps:List Nat) (d:I):Option I:=bif eA d then some d else jg S ps d
def rJ (S:IS) (ps:List Nat) (l:List Nat):IS:=⟨S.rs,l.map (fun i=>(pF ps i,S.gen (pF ps i)+1))++S.gs,S.os⟩
def jv (l:List Nat):Nat→Bool
 |0=>true
 |n+1=>bc n l&&jv l n
theorem KQ {l:List Nat}:∀ {n i:Nat},jv l n=true→i<n→i∈l
 |n+1,i,h,hi=>by
  simp only[jv,Bool.and_eq_true]at h
  by_cases e:i=n
  ·subst e;exact bw.1 h.1
  ·exact KQ h.2 (by omega)
def akP (ba ps wr l:List Nat):Bool:=l.isEmpty || (l.all (fun i=>Nat.blt i ps.length&&!(bc (pF ps i) ba))&&jv wr ps.length)
theorem Bk (S:IS) (ps:List Nat):∀ (l:List Nat) (s:Nat),(rJ S ps l).gen s=S.gen s∨((rJ S ps l).gen s=S.gen s+1∧∃ i,i∈l∧pF ps i=s)
 |[],s=>.inl rfl
 |i::l,s=>by
  have e:(rJ S ps (i::l)).gen s=bif Nat.beq s (pF ps i) then S.gen (pF ps i)+1 else (rJ S ps l).gen s:=jL _ _ _ _ _
  rw[e]
  cases hb:Nat.beq s (pF ps i) with
  |true =>
   have:=Nat.eq_of_beq_eq_true hb
   subst this
   exact .inr ⟨rfl,i,List.mem_cons_self ..,rfl⟩
  |false =>
   simp only[cond_false]
   rcases Bk S ps l s with h|⟨h,j,hj,hp⟩
   ·exact .inl h
   ·exact .inr ⟨h,j,List.mem_cons_of_mem _ hj,hp⟩
theorem PH (S:IS) (ps:List Nat):∀ {l:List Nat}{i:Nat},i∈l→(rJ S ps l).gen (pF ps i)=S.gen (pF ps i)+1
 |j::l,i,h=>by
  have e:(rJ S ps (j::l)).gen (pF ps i)=bif Nat.beq (pF ps i) (pF ps j) then S.gen (pF ps j)+1 else (rJ S ps l).gen (pF ps i):=jL _ _ _ _ _
  rw[e]
  cases hb:Nat.beq (pF ps i) (pF ps j) with
  |true=>rw[Nat.eq_of_beq_eq_true hb];rfl
  |false =>
   rcases List.mem_cons.1 h with rfl|h
   ·rw[Nat.beq_refl]at hb;cases hb
   ·exact PH S ps h
def Yg (E:CEnv Z) (F:Fix) (S:IS) (t:Nat) (x:Operand) (args:List Operand) (sp:dz Z.toSeat) (k:IS→Option R):Option R:=match S.ev Z E.nt x with
 |.fn f cc=>bif Nat.beq sp.f f then
   (let ps := vo S (args.map (S.ev Z E.nt) ++ cc)
    bif lG ps&&Nat.blt ps.length XB then (match Iv S ps ps,Iu S ps (args.map (S.ev Z E.nt)++cc) with
   |some ls,some A=>sp.app ls A (fun Yf d=>ao (akP E.ba ps sp.wr sp.mv) (match qX (rJ S ps sp.mv) ps d with
    |some d'=>(match Dw E.ba F (rJ S ps sp.mv) ps (rJ S ps sp.mv) sp.wr Yf with
     |some S'=>ao (gP E.ba F (vE t d')) (k (S'.dE (vE t d')))
     |none=>none)
    |none=>none))
   |_,_=>none) else none) else none
 |_=>none
def mC (E:CEnv Z) (F:Fix) (S:IS) (o:Oper) (k:IS→Option R) (gA:Option R):Option R:=match o.op with
 |.call c=>(match c.callee with
  |.value x=>(match S.ev Z E.nt x,o.dst with
   |.fn f cc,some t=>(match JP E.FM f with
    |some sp=>pN F S (dW S (kaP 0 sp.ka (c.args.toList.map (S.ev Z E.nt))++kbP S 0 sp.kb (xQ (kaA 0 sp.ka (c.args.toList.map (S.ev Z E.nt))++cc) []))) (fun S=>Yg E F S t x c.args.toList sp k)
    |none=>gA)
   |_,_=>gA)
  |_=>gA)
 |_=>gA
theorem Ha {S:IS}{ps:List Nat}{h:Nat→Nat}{q:Nat→Nat} (hq:∀ i,i<ps.length→q i=j4 S ps i) {o o':aK} (e:G9 S ps o=some o'):gn ps.length (pF ps) (gF S h ps) q one (o.toOwn h) (o'.toOwn zh)∧dm o'=dm o:=by
 unfold G9 at e
 split at e
 ·split at e
  ·rename_i m m' hm
   simp only[Option.some.injEq]at e
   subst e
   exact⟨.box _ _ (z8 hq hm),rfl⟩
  ·cases e
 ·simp only[Option.some.injEq]at e
  subst e
  exact⟨.Z7 _ _ _ _ (fun i _=>cN _ _),rfl⟩
 ·cases e
theorem wh {S:IS}{ps:List Nat}:∀ {l:List Nat}{ls:List aK},Iv S ps l=some ls→ls.length=l.length∧∀ i,i<l.length→∃ o,G9 S ps (S.own (pF l i))=some o∧de ls i=o
 |[],ls,e=>by simp only[Iv,Option.some.injEq]at e;subst e;exact⟨rfl,fun i hi=>by simp at hi⟩
 |p::l,ls,e=>by
  unfold Iv at e
  split at e
  ·rename_i o Yf ho Fa
   simp only[Option.some.injEq]at e
   subst e
   obtain ⟨h1,h2⟩:=wh Fa
   refine ⟨by simp[h1],fun i hi=>?_⟩
   cases i with
   |zero=>exact⟨o,ho,rfl⟩
   |succ i=>exact h2 i (by simpa using hi)
  ·cases e
theorem M6 {S:IS}{ps:List Nat}{o o':aK} (e:G9 S ps o=some o'):dm o'=dm o:=by
 unfold G9 at e
 split at e
 ·split at e
  ·simp only[Option.some.injEq]at e;subst e;rfl
  ·cases e
 ·simp only[Option.some.injEq]at e;subst e;rfl
 ·cases e
theorem X5 {S:IS}{ps:List Nat}{ls:List aK} (e:Iv S ps ps=some ls):∀ i,i<ps.length→cw ls i=j4 S ps i:=fun i hi=>by
 obtain ⟨o,h1,h2⟩:=(wh e).2 i hi
 unfold cw j4
 rw[h2,M6 h1]
theorem Rm {ba:List Nat}{F:Fix}{S0:IS}{ps:List Nat}{h g0 q:Nat→Nat} (tF:lG ps=true) (hq:∀ i,i<ps.length→q i=j4 S0 ps i):∀ {wr:List Nat}{ls:List aK}{S S':IS}{Fn:Nat→Own},Dw ba F S0 ps S wr ls=some S'→Inv ba g0 F h S →
  (∀ i,i<ps.length→i∈wr∨gn ps.length q one (pF ps) (gF S0 h ps) (Fn i) ((S.own (pF ps i)).toOwn h)) →
  Inv ba g0 F h S'∧S'.rs=S.rs∧S'.gs=S.gs∧(∀ s,(∀ i,i<ps.length→pF ps i≠s)→S'.own s=S.own s)∧(∀ i,i<ps.length→gn ps.length q one (pF ps) (gF S0 h ps) (me wr ls Fn i) ((S'.own (pF ps i)).toOwn h))
 |[],[],S,S',Fn,e,hi,hb=>by simp only[Dw,Option.some.injEq]at e;subst e;exact⟨hi,rfl,rfl,fun _ _=>rfl,fun i hi=>(hb i hi).resolve_left (fun h=>nomatch h)⟩
 |[],_::_,S,S',Fn,e,hi,hb=>by simp only[Dw]at e;cases e
 |_::_,[],S,S',Fn,e,hi,hb=>by simp only[Dw]at e;cases e
 |i::wr,l::ls,S,S',Fn,e,hi,hb=>by
  simp only[Dw]at e
  split at e
  ·rename_i m hm
   cases hc:Nat.blt i ps.length&&gP ba F (mE (pF ps i) m) with
   |false=>rw[hc]at e;cases e
   |true =>
    rw[hc]at e
    simp only[cond_true]at e
    simp only[Bool.and_eq_true]at hc
    have Cj:i<ps.length:=by simpa[Nat.blt_eq] using hc.1
    have QT:gn ps.length q one (pF ps) (gF S0 h ps) (l.toOwn zh) (m.toOwn h):=by
     unfold adU at hm
     split at hm
     ·split at hm
      ·rename_i a b ki
       simp only[Option.some.injEq]at hm
       subst hm
       exact .box _ _ (wy hq ki)
      ·cases hm
     ·simp only[Option.some.injEq]at hm
      subst hm
      exact .Z7 _ _ _ _ (fun i _=>cN _ _)
     ·simp only[Option.some.injEq]at hm
      subst hm
      exact .none
     ·cases hm
    obtain ⟨q1,q2,q3,q4,q5⟩:=Rm (h:=h) tF hq (Fn:=fun j=>bif Nat.beq j i then l.toOwn zh else Fn j) e (hi.dE hc.2) (fun j hj=>by
     by_cases ej:j=i
     ·subst ej
      refine .inr ?_
      have e1:(S.dE (mE (pF ps j) m)).own (pF ps j)=m:=by
       show look .none ((pF ps j,m)::S.os) (pF ps j)=_
       simp only[kE,jL,kF,Nat.beq_refl,cond_true]
      simp only[Nat.beq_refl,cond_true,e1]
      exact QT
     ·rcases hb j hj with hw|hb
      ·exact .inl ((List.mem_cons.1 hw).resolve_left ej)
      refine .inr ?_
      have cx:pF ps j≠pF ps i:=fun e2=>ej (nH tF j i hj Cj e2)
      have e1:(S.dE (mE (pF ps i) m)).own (pF ps j)=S.own (pF ps j):=eT cx
      have:Nat.beq j i=false:=by
       cases pO:Nat.beq j i with
       |false=>rfl
       |true=>exact absurd (Nat.eq_of_beq_eq_true pO) ej
      simp only[this,cond_false,e1]
      exact hb)
    exact⟨q1,q2,q3,fun s hs=>(q4 s hs).trans (eT (fun e2=>hs i Cj e2.symm)),q5⟩
  ·cases e
mutual
theorem Rn.congr {n:Nat}{p g p2 g2 p' g':Nat→Nat} (hp:∀ i,i<n→p i=p2 i) (hg:∀ i,i<n→g i=g2 i):∀ {d d':D},Rn n p g p' g' d d'→Rn n p2 g2 p' g' d d'
 |_,_,.pure d h=>.pure d h
 |_,_,.bx i o h=>by rw[hp i h,hg i h];exact .bx (p:=p2) (g:=g2) i o h
 |_,_,.os i h=>by rw[hp i h,hg i h];exact .os (p:=p2) (g:=g2) i h
 |_,_,.mb i T h=>by rw[hp i h,hg i h];exact .mb (p:=p2) (g:=g2) i T h
 |_,_,.agg l l' h=>.agg _ _ (fZ.congr hp hg h)
 |_,_,.fn f c c' h=>.fn f _ _ (fZ.congr hp hg h)
theorem fZ.congr {n:Nat}{p g p2 g2 p' g':Nat→Nat} (hp:∀ i,i<n→p i=p2 i) (hg:∀ i,i<n→g i=g2 i):∀ {l l':List D},fZ n p g p' g' l l'→fZ n p2 g2 p' g' l l'
 |_,_,.nil=>.nil
 |_,_,.cons _ _ _ _ a b=>.cons _ _ _ _ (Rn.congr hp hg a) (fZ.congr hp hg b)
end
theorem gn.congr {n:Nat}{p g p2 g2 p' g':Nat→Nat} (hp:∀ i,i<n→p i=p2 i) (hg:∀ i,i<n→g i=g2 i) {o o':Own} (h:gn n p g p' g' o o'):gn n p2 g2 p' g' o o':=by
 cases h with
 |box _ _ h=>exact .box _ _ (fZ.congr hp hg h)
 |arr _ _ _ _ _ h=>exact .arr _ _ _ _ _ fun i hi=>fZ.congr hp hg (h i hi)
 |none=>exact .none
theorem adV:∀ {l:List Nat}{s:Nat},s∈l→∃ i,i<l.length∧pF l i=s
 |p::l,s,h=>by
  rcases List.mem_cons.1 h with rfl|h
  ·exact⟨0,by simp,rfl⟩
  ·obtain ⟨i,h1,h2⟩:=adV h
   exact⟨i+1,by simpa using h1,h2⟩
def kT (E:CEnv Z) (S:IS) (x:Operand) (args:List Operand):List Nat:=match S.ev Z E.nt x with
 |.fn _ cc=>vo S (args.map (S.ev Z E.nt)++cc)
 |_=>[]
theorem Yh {E:CEnv Z}{g0:Nat→Nat} (hX:At X Z E.nt) {F:Fix}{S:IS}{o:Oper}{t:Nat}{x:Operand}{args:Array Operand}{ts:Array TypeId}{sp:dz Z.toSeat}{k:IS→Option R}{h:Nat→Nat} (ho:o.op=.call { callee:=.value x,args:=args,argTypes:=ts }) (hd:o.dst=some t) (hi:Inv E.ba g0 F h S) (hr:Yg E F S t x args.toList sp k=some r) :
  ∃ (S':IS) (d':I),k (S'.dE (vE t d'))=some r∧Inv E.ba g0 F h (S'.dE (vE t d'))∧S'.rs=S.rs∧(∀ s,s ∉ kT E S x args.toList→(S'.toSt h).γ s=(S.toSt h).γ s∧(S'.toSt h).σ s=(S.toSt h).σ s) ∧
   ∀ T:St,(∀ y∈x::args.toList,T.ev X y=(S.toSt h).ev X y)→(∀ p∈kT E S x args.toList,T.γ p=(S.toSt h).γ p∧T.σ p=(S.toSt h).σ p) →
    sa X o T ⟨aG T.ρ t (d'.toD h),fun s=>bif bc s (kT E S x args.toList) then (S'.toSt h).γ s else T.γ s,fun s=>bif bc s (kT E S x args.toList) then (S'.toSt h).σ s else T.σ s⟩:=by
 unfold Yg at hr
 split at hr
 case h_2=>cases hr
 rename_i f cc hx
 cases hf:Nat.beq sp.f f with
 |false=>rw[hf]at hr;cases hr
 |true =>
 rw[hf]at hr
 have hf:=Nat.eq_of_beq_eq_true hf
 subst hf
 simp only[cond_true]at hr
 have yp:kT E S x args.toList=vo S (args.toList.map (S.ev Z E.nt)++cc):=by unfold kT;rw[hx]
 rw[yp]
 generalize vo S (args.toList.map (S.ev Z E.nt)++cc)=ps at hr
 cases tF:lG ps&&Nat.blt ps.length XB with
 |false=>rw[tF]at hr;cases hr
 |true =>
 rw[tF]at hr
 simp only[cond_true]at hr
 simp only[Bool.and_eq_true,Nat.blt_eq]at tF
 obtain ⟨tF,hXB⟩:=tF
 split at hr
 case h_2=>cases hr
 rename_i ls A Fa hA
 obtain ⟨Yf,d,h1,h2⟩:=sp.ok _ _ _ _ hr
 obtain ⟨Fc,h1⟩:=aq h1
 have Uk:∀ i,i∈sp.mv→bc (pF ps i) E.ba=false∧jv sp.wr ps.length=true∧i<ps.length:=fun i hi=>by
  unfold akP at Fc
  cases hm:sp.mv with
  |nil=>rw[hm]at hi;cases hi
  |cons j l =>
   rw[hm]at Fc hi
   simp only[List.isEmpty_cons,Bool.false_or,Bool.and_eq_true,List.all_eq_true]at Fc
   have:=Fc.1 i hi
   simp only[Bool.not_eq_true',Nat.blt_eq]at this
   exact⟨this.2,Fc.2,this.1⟩
 have ek:∀ s,s∈E.ba→h s+(rJ S ps sp.mv).gen s=g0 s:=fun s hs=>by
  rcases Bk S ps sp.mv s with e|⟨_,i,hj,e⟩
  ·rw[e];exact hi.1 s hs
  ·have:=(Uk i hj).1
   rw[e,bw.2 hs]at this;cases this
 have gj:Inv E.ba g0 F h (rJ S ps sp.mv):=⟨ek,hi.2⟩
 split at h1
 case h_2=>cases h1
 rename_i d' gi
 split at h1
 case h_2=>cases h1
 rename_i S' hS'
 obtain ⟨hp,h1⟩:=aq h1
 obtain ⟨l1,l2⟩:=wh Fa
 have hq:=X5 Fa
 have hq1:∀ i,i<ps.length→cw ls i=j4 (rJ S ps sp.mv) ps i:=hq
 have zN:Rn ps.length (cw ls) one (pF ps) (gF (rJ S ps sp.mv) h ps) (d.toD zh) (d'.toD h):=by
  unfold qX at gi
  cases nN:eA d with
  |true =>
   rw[nN]at gi
   simp only[cond_true,Option.some.injEq]at gi
   subst gi
   rw[ig h zh d nN]
   exact .pure _ (fa zh d nN)
  |false =>
   rw[nN]at gi
   exact wx hq1 gi
 rw[l1]at h2
 have eJ:∀ i,i<ps.length→gn ps.length (pF ps) (gF S h ps) (cw ls) one ((S.own (pF ps i)).toOwn h) (eL ls i):=fun i hi=>by
  obtain ⟨o',a1,a2⟩:=l2 i hi
  have:=(Ha (h:=h) hq a1).1
  unfold eL
  rw[a2];exact this
 obtain ⟨q1,q2,q3,q4,q5⟩:=Rm (h:=h) tF hq1 (Fn:=eL ls) hS' gj (fun i hi=>by
  cases hm:sp.mv with
  |nil=>exact .inr (eJ i hi).symm
  |cons j l=>exact .inl (KQ (Uk j (by rw[hm];exact List.mem_cons_self ..)).2.1 hi))
 have pQ:∀ {s:Nat},(∀ i,i<ps.length→pF ps i≠s)→bc s ps=false:=fun {s} hs=>Q9 fun hm=>by
  obtain ⟨i,h1,h2⟩:=adV hm
  exact hs i h1 h2
 have aaW:∀ {i:Nat},i<ps.length→bc (pF ps i) ps=true:=fun hi=>bw.2 (qg hi)
 have E8:∀ s,(S'.toSt h).γ s=h s+(rJ S ps sp.mv).gen s:=fun s=>by show h s+look 0 S'.gs s=_;rw[q3];rfl
 refine ⟨S',d',h1,q1.dE hp,q2,fun s hs=>⟨?_,?_⟩,fun T fO dY=>?_⟩
 ·rw[E8]
  rcases Bk S ps sp.mv s with e|⟨_,i,hj,e⟩
  ·rw[e];rfl
  ·exact absurd (by rw[← e];exact qg (Uk i hj).2.2) hs
 ·show (S'.own s).toOwn h=(S.own s).toOwn h
  rw[q4 s fun i hi e=>hs (by rw[← e];exact qg hi)];rfl
 have aaI:∀ j,j<ps.length→gF S h ps j=T.γ (pF ps j):=fun j hj=>((dY _ (qg hj)).1).symm
 have Fm:T.ev X x=.fn sp.f (I.al h cc):=by rw[fO x (List.mem_cons_self ..),dO hX,hx];rfl
 have akr:∀ j,j<ps.length→gF (rJ S ps sp.mv) h ps j=(fun s=>bif bc s ps then (S'.toSt h).γ s else T.γ s) (pF ps j):=fun j hj=>by
  simp only[aaW hj,cond_true,E8]
 refine Ny (X:=X) (mv:=fun i=>bc i sp.mv) (cU:=fun s=>bif bc s ps then (S'.toSt h).γ s else T.γ s) (S:=T) (ps:=pF ps) (n:=ps.length) (q:=cw ls) (os:=eL ls) (fH:=me sp.wr Yf (eL ls)) (A:=I.al zh A) (R:=d.toD zh) (R':=d'.toD h) (sF:=fun s=>bif bc s ps then (S'.toSt h).σ s else T.σ s) (fun i j hi hj e=>nH tF i j hi hj e) (fun i j hi hj e=>?_) ho Fm (fun i hi=>?_) ?_ (by rw[hX.Z];exact h2) (fun s hs=>by simp only[pQ hs,cond_false]) (fun i hi=>?_) ((zN.symm.congr (fun _ _=>rfl) akr).symm) hd (fun s hs=>by simp only[pQ hs,cond_false]) (fun i hi=>?_)
 ·rw[hq i hi,hq j hj]at e
  unfold j4 at e
  cases h1:dm (S.own (pF ps i))<;>cases h2:dm (S.own (pF ps j))<;>(rw[h1,h2]at e;simp only[cond_true,cond_false]at e)<;>omega
 ·rw[(dY _ (qg hi)).2]
  exact(eJ i hi).congr (fun _ _=>rfl) aaI
 ·have:=z8 (h:=h) hq hA
  rw[vK,ef,List.map_map]at this
  have e:args.toList.map ((I.toD h) ∘ (S.ev Z E.nt))=args.toList.map (T.ev X):=List.map_congr_left fun x hx=>by
   rw[fO x (List.mem_cons_of_mem _ hx),dO hX];rfl
  rw[e]at this
  exact this.congr (fun _ _=>rfl) aaI
 ·simp only[aaW hi,cond_true,E8,← aaI i hi]
  show h (pF ps i)+(rJ S ps sp.mv).gen (pF ps i)=bif bc i sp.mv then h (pF ps i)+S.gen (pF ps i)+1 else h (pF ps i)+S.gen (pF ps i)
  cases hm:bc i sp.mv with
  |true=>rw[PH S ps (bw.1 hm)];rfl
  |false =>
   rcases Bk S ps sp.mv (pF ps i) with e|⟨_,j,hj,e⟩
   ·rw[e];rfl
   ·rw[nH tF j i (Uk j hj).2.2 hi e]at hj
    rw[bw.2 hj]at hm;cases hm
 ·simp only[aaW hi,cond_true]
  exact((q5 i hi).symm.congr (fun _ _=>rfl) akr).symm
theorem akN {E:CEnv Z}{g0:Nat→Nat} (hX:At X Z E.nt) {F:Fix}{S:IS}{o:Oper}{t:Nat}{x:Operand}{args:Array Operand}{ts:Array TypeId}{sp:dz Z.toSeat}{k:IS→Option R}{h:Nat→Nat} (ho:o.op=.call { callee:=.value x,args:=args,argTypes:=ts }) (hd:o.dst=some t) (hi:Inv E.ba g0 F h S) (hr:Yg E F S t x args.toList sp k=some r) :
  ∃ S',k S'=some r∧Inv E.ba g0 F h S'∧∀ (ops:Array Oper) (rest:List Oper) (Q:Exit→St→Prop),o.guard=none→WL X ops rest Q (S'.toSt h)→WL X ops (o::rest) Q (S.toSt h):=by
 obtain ⟨S',d',h1,h2,h3,h4,h5⟩:=Yh hX ho hd hi hr
 refine ⟨_,h1,h2,fun ops rest Q hg hk κ sv a w hs=>wpListIn_plain hg fun K hK=>h5 (S.toSt h) (fun _ _=>rfl) (fun _ _=>⟨rfl,rfl⟩) κ sv a w hs K _ fun aA aQ a' w' fN=>hK _ _ (hk aA aQ a' w' ?_)⟩
 rw[fe]
 have e:(⟨aG (S.toSt h).ρ t (d'.toD h),fun s=>bif bc s (kT E S x args.toList) then (S'.toSt h).γ s else (S.toSt h).γ s,fun s=>bif bc s (kT E S x args.toList) then (S'.toSt h).σ s else (S.toSt h).σ s⟩:St)=(S'.toSt h).app (Ef.wr (vE t d')) (Ef.vl h (vE t d')):=by
  have e0:(S.toSt h).ρ=(S'.toSt h).ρ:=by funext i;show _=(look .undef S'.rs i).toD h;rw[h3];rfl
  have e1:(fun s=>bif bc s (kT E S x args.toList) then (S'.toSt h).γ s else (S.toSt h).γ s)=(S'.toSt h).γ:=by
   funext s
   cases hm:bc s (kT E S x args.toList) with
   |true=>rfl
   |false=>exact((h4 s fun hx=>by rw[bw.2 hx]at hm;cases hm).1).symm
  have e2:(fun s=>bif bc s (kT E S x args.toList) then (S'.toSt h).σ s else (S.toSt h).σ s)=(S'.toSt h).σ:=by
   funext s
   cases hm:bc s (kT E S x args.toList) with
   |true=>rfl
   |false=>exact((h4 s fun hx=>by rw[bw.2 hx]at hm;cases hm).2).symm
  rw[e0,e1,e2];rfl
 rw[← e];exact fN
theorem anx {E:CEnv Z}{g0:Nat→Nat} (hX:At X Z E.nt) {F:Fix} (hF:okF F=true) {S:IS}{o:Oper}{k:IS→Option R}{gA:Option R}{h:Nat→Nat} (hi:Inv E.ba g0 F h S) (hr:mC E F S o k gA=some r) :
  gA=some r∨∃ S',k S'=some r∧Inv E.ba g0 F h S'∧∀ (ops:Array Oper) (rest:List Oper) (Q:Exit→St→Prop),o.guard=none→WL X ops rest Q (S'.toSt h)→WL X ops (o::rest) Q (S.toSt h):=by
 unfold mC at hr
 split at hr
 case h_2=>exact .inl hr
 rename_i c ho
 obtain ⟨ce,args,ts⟩:=c
 simp only at hr
 split at hr
 case h_2=>exact .inl hr
 rename_i x
 split at hr
 case h_2=>exact .inl hr
 rename_i f cc t hx hd
 split at hr
 case h_2=>exact .inl hr
 rename_i sp iu
 unfold pN at hr
 obtain ⟨ob,hr⟩:=aq hr
 obtain ⟨S',k1,k2,k3⟩:=akN hX ho hd (hi.gw hF ob) hr
 exact .inr ⟨S',k1,k2,fun ops rest Q hg hk=>Jh (lz _ S (uE hX.xa ob)) (k3 ops rest Q hg hk)⟩
def Us:aK→Bool
 |.none=>true
 |_=>false
def gX (S:IS) (p:Nat) (o:aK):Ef:=⟨none,.undef,some (p,S.gen p+1),some (p,o)⟩
def Dz (ba:List Nat) (F:Fix):IS→List Nat→List aK→Option IS
 |S,p::ps,o::os=>bif !(bc p ps)&&Us (S.own p)&&gP ba F (gX S p o) then Dz ba F (S.dE (gX S p o)) ps os else none
 |S,[],[]=>some S
 |_,_,_=>none
def U8 (S:IS) (ps:List Nat):aK→Option aK
 |.box m=>(match Am S ps m with|some m'=>some (.box m')|none=>none)
 |.arr E t l=>some (.arr E t l)
 |_=>none
def Ke (S:IS) (ps:List Nat):List aK→Option (List aK)
 |[]=>some []
 |o::os=>(match U8 S ps o,Ke S ps os with|some a,some l=>some (a::l)|_,_=>none)
def DA (ba:List Nat) (F:Fix):IS→List Nat→List aK→Option IS
 |S,p::ps,o::os=>bif !(bc p ps)&&gP ba F (mE p o) then DA ba F (S.dE (mE p o)) ps os else none
 |S,[],[]=>some S
 |_,_,_=>none
def gSp (E:CEnv Z) (o:Oper):Option (gB Z.toSeat):=match o.op with
 |.call c=>(match c.callee with|.value (.func f)=>EF E.FG f|_=>none)
 |_=>none
def gC2 (E:CEnv Z) (F:Fix) (S:IS) (t:Nat) (ps:List Nat) (os:List aK) (d:I) (k:IS→Option R):Option R:=match Dz E.ba F S ps os with
 |some S1=>(match Ke S1 ps os,qX S1 ps d with
  |some ms,some d'=>(match DA E.ba F S1 ps ms with
   |some S2=>ao (gP E.ba F (vE t d')) (k (S2.dE (vE t d')))
   |none=>none)
  |_,_=>none)
 |none=>none
def gC1 (E:CEnv Z) (F:Fix) (S:IS) (t:Nat) (A:List I) (sp:gB Z.toSeat) (k:IS→Option R):Option R :=
 ao (bV A) (sp.app A fun os d=>ao (Nat.blt os.length XB) (gC2 E F S t (oh S t os.length) os d k))
def gC (E:CEnv Z) (F:Fix) (S:IS) (o:Oper) (k:IS→Option R) (gA:Option R):Option R:=match gSp E o with
 |none=>gA
 |some sp=>(match o.op,o.dst with
  |.call c,some t=>pN F S (dW S (qh Z E.nt S c.args.toList)) (fun S=>gC1 E F S t (c.args.toList.map (S.ev Z E.nt)) sp k)
  |_,_=>none)
theorem Rs {p:List Nat}{g0:Nat→Nat}{F:Fix}{h:Nat→Nat}:∀ {ps:List Nat}{os:List aK}{S S1:IS},Dz p F S ps os=some S1→Inv p g0 F h S →
  Inv p g0 F h S1∧S1.rs=S.rs∧ps.length=os.length∧lG ps=true∧(∀ s,s ∉ ps→S1.gen s=S.gen s∧S1.own s=S.own s)∧∀ i,i<ps.length→S.own (pF ps i)=.none∧S1.gen (pF ps i)=S.gen (pF ps i)+1∧S1.own (pF ps i)=de os i
 |[],[],S,S1,e,hi=>by simp only[Dz,Option.some.injEq]at e;subst e;exact⟨hi,rfl,rfl,rfl,fun _ _=>⟨rfl,rfl⟩,fun i hi=>by simp at hi⟩
 |[],_::_,S,S1,e,hi=>by simp only[Dz]at e;cases e
 |_::_,[],S,S1,e,hi=>by simp only[Dz]at e;cases e
 |q::ps,o::os,S,S1,e,hi=>by
  simp only[Dz]at e
  cases hc:!(bc q ps)&&Us (S.own q)&&gP p F (gX S q o) with
  |false=>rw[hc]at e;cases e
  |true =>
   rw[hc]at e
   simp only[cond_true]at e
   simp only[Bool.and_eq_true,Bool.not_eq_true']at hc
   obtain ⟨q1,q2,q3,q4,q5,q6⟩:=Rs e (hi.dE hc.2)
   have hq:q ∉ ps:=fun hm=>by rw[bw.2 hm]at hc;cases hc.1.1
   have hg:∀ s,s≠q→(S.dE (gX S q o)).gen s=S.gen s∧(S.dE (gX S q o)).own s=S.own s:=fun s hs=>⟨eT hs,eT hs⟩
   have hgq:(S.dE (gX S q o)).gen q=S.gen q+1∧(S.dE (gX S q o)).own q=o:=by
    refine ⟨?_,?_⟩
    ·show look 0 ((q,S.gen q+1)::S.gs) q=_
     simp only[kE,jL,kF,Nat.beq_refl,cond_true]
    ·show look .none ((q,o)::S.os) q=_
     simp only[kE,jL,kF,Nat.beq_refl,cond_true]
   refine ⟨q1,q2,by simp[q3],by simp only[lG,q4,hc.1.1,Bool.not_false,Bool.and_self],fun s hs=>?_,fun i df=>?_⟩
   ·obtain ⟨a1,a2⟩:=q5 s (fun hm=>hs (List.mem_cons_of_mem _ hm))
    obtain ⟨b1,b2⟩:=hg s (fun e=>hs (e ▸ List.mem_cons_self ..))
    exact⟨a1.trans b1,a2.trans b2⟩
   ·cases i with
    |zero =>
     obtain ⟨a1,a2⟩:=q5 q hq
     refine ⟨?_,a1.trans hgq.1,a2.trans hgq.2⟩
     have hn:=hc.1.2
     show S.own q=.none
     cases hw:S.own q with
     |none=>rfl
     |_=>rw[hw]at hn;cases hn
    |succ i =>
     have ek:i<ps.length:=by simpa using df
     obtain ⟨a1,a2,a3⟩:=q6 i ek
     have cx:pF ps i≠q:=fun e=>hq (e ▸ qg ek)
     obtain ⟨b1,b2⟩:=hg _ cx
     rw[b2]at a1
     rw[b1]at a2
     exact⟨a1,a2,a3⟩
theorem Rt {p:List Nat}{g0:Nat→Nat}{F:Fix}{h:Nat→Nat}:∀ {ps:List Nat}{os:List aK}{S S1:IS},DA p F S ps os=some S1→Inv p g0 F h S →
  Inv p g0 F h S1∧S1.rs=S.rs∧S1.gs=S.gs∧(∀ s,s ∉ ps→S1.own s=S.own s)∧∀ i,i<ps.length→S1.own (pF ps i)=de os i
 |[],[],S,S1,e,hi=>by simp only[DA,Option.some.injEq]at e;subst e;exact⟨hi,rfl,rfl,fun _ _=>rfl,fun i hi=>by simp at hi⟩
 |[],_::_,S,S1,e,hi=>by simp only[DA]at e;cases e
 |_::_,[],S,S1,e,hi=>by simp only[DA]at e;cases e
 |q::ps,o::os,S,S1,e,hi=>by
  simp only[DA]at e
  cases hc:!(bc q ps)&&gP p F (mE q o) with
  |false=>rw[hc]at e;cases e
  |true =>
   rw[hc]at e
   simp only[cond_true]at e
   simp only[Bool.and_eq_true,Bool.not_eq_true']at hc
   obtain ⟨q1,q2,q3,q4,q5⟩:=Rt e (hi.dE hc.2)
   have hq:q ∉ ps:=fun hm=>by rw[bw.2 hm]at hc;cases hc.1
   refine ⟨q1,q2,q3,fun s hs=>(q4 s (fun hm=>hs (List.mem_cons_of_mem _ hm))).trans (eT (fun e=>hs (e ▸ List.mem_cons_self ..))),fun i df=>?_⟩
   cases i with
   |zero =>
    refine (q4 q hq).trans ?_
    show look .none ((q,o)::S.os) q=_
    simp only[kE,jL,kF,Nat.beq_refl,cond_true];rfl
   |succ i=>exact q5 i (by simpa using df)
theorem Nz {S:IS}{ps:List Nat}:∀ {os ms:List aK},Ke S ps os=some ms→∀ i,i<os.length→U8 S ps (de os i)=some (de ms i)
 |[],_,_,i,hi=>by simp at hi
 |o::os,ms,e,i,hi=>by
  unfold Ke at e
  split at e
  ·rename_i a l ha hl
   simp only[Option.some.injEq]at e
   subst e
   cases i with
   |zero=>exact ha
   |succ i=>exact Nz hl i (by simpa using hi)
  ·cases e
theorem agJ {S:IS}{ps:List Nat}{h:Nat→Nat}{q:Nat→Nat} (hq:∀ i,i<ps.length→q i=j4 S ps i) {o m:aK} (e:U8 S ps o=some m):gn ps.length q one (pF ps) (gF S h ps) (o.toOwn zh) (m.toOwn h):=by
 unfold U8 at e
 split at e
 ·split at e
  ·rename_i a b ki
   simp only[Option.some.injEq]at e
   subst e
   exact .box _ _ (wy hq ki)
  ·cases e
 ·simp only[Option.some.injEq]at e
  subst e
  exact .Z7 _ _ _ _ (fun i _=>cN _ _)
 ·cases e
theorem U9:∀ {l:List Nat}{s:Nat},s∈l→∃ i,i<l.length∧pF l i=s
 |p::l,s,h=>by
  rcases List.mem_cons.1 h with rfl|h
  ·exact⟨0,by simp,rfl⟩
  ·obtain ⟨i,h1,h2⟩:=U9 h
   exact⟨i+1,by simpa using h1,h2⟩
theorem ane {E:CEnv Z}{g0:Nat→Nat} (hX:At X Z E.nt) {F:Fix} (hF:okF F=true) {S:IS}{o:Oper}{k:IS→Option R}{gA:Option R}{h:Nat→Nat} (hi:Inv E.ba g0 F h S) (hr:gC E F S o k gA=some r) :
  gA=some r∨∃ S',k S'=some r∧Inv E.ba g0 F h S'∧∀ (ops:Array Oper) (rest:List Oper) (Q:Exit→St→Prop),o.guard=none→WL X ops rest Q (S'.toSt h)→WL X ops (o::rest) Q (S.toSt h):=by
 unfold gC at hr
 split at hr
 ·exact .inl hr
 rename_i sp iu
 split at hr
 case h_2=>cases hr
 rename_i c t ho hd
 have Dj:∃ f,c.callee=.value (.func f)∧EF E.FG f=some sp:=by
  unfold gSp at iu
  rw[ho]at iu
  simp only at iu
  split at iu
  ·rename_i f hf;exact⟨f,hf,iu⟩
  ·cases iu
 obtain ⟨f,hf,MI⟩:=Dj
 have nM:=Ma MI
 subst nM
 unfold pN at hr
 obtain ⟨ob,hr⟩:=aq hr
 have gj:=hi.gw hF ob
 have hwk:=lz (X:=X) (h:=h) (dW S (qh Z E.nt S c.args.toList)) S (uE hX.xa ob)
 generalize gw S (dW S (qh Z E.nt S c.args.toList))=S0 at hr gj hwk
 unfold gC1 at hr
 obtain ⟨hA,hr⟩:=aq hr
 obtain ⟨os,d,h1,h2⟩:=sp.ok _ _ _ hr
 obtain ⟨hXB,h1⟩:=aq h1
 rw[Nat.blt_eq]at hXB
 generalize oh S0 t os.length=ps at h1
 unfold gC2 at h1
 split at h1
 case h_2=>cases h1
 rename_i S1 hS1
 split at h1
 case h_2=>cases h1
 rename_i ms d' hms gi
 split at h1
 case h_2=>cases h1
 rename_i S2 hS2
 obtain ⟨hp,h1⟩:=aq h1
 obtain ⟨a1,a2,a3,a4,a5,a6⟩:=Rs hS1 gj
 obtain ⟨b1,b2,b3,b4,b5⟩:=Rt hS2 a1
 refine .inr ⟨_,h1,b1.dE hp,fun ops rest Q hg hk=>Jh hwk ?_⟩
 obtain ⟨ce,ca,ct⟩:=c
 simp only at hf hA h2
 subst hf
 have hq:∀ i,i<ps.length→cw os i=j4 S1 ps i:=fun i hi=>by
  unfold cw j4
  rw[(a6 i hi).2.2]
 have gx:∀ i j,i<ps.length→j<ps.length→pF ps i=pF ps j→i=j:=nH a4
 have hqi:∀ i j,i<ps.length→j<ps.length→cw os i=cw os j→i=j:=fun i j hi hj e=>by
  unfold cw at e
  cases h1:dm (de os i)<;>cases h2:dm (de os j)<;>(rw[h1,h2]at e;simp only[cond_true,cond_false]at e)<;>omega
 have zN:Rn ps.length (cw os) one (pF ps) (gF S1 h ps) (d.toD zh) (d'.toD h):=by
  unfold qX at gi
  cases nN:eA d with
  |true =>
   rw[nN]at gi
   simp only[cond_true,Option.some.injEq]at gi
   subst gi
   rw[ig h zh d nN]
   exact .pure _ (fa zh d nN)
  |false =>
   rw[nN]at gi
   exact wx hq gi
 rw[← a3]at h2
 rw[fe]at hk
 have hAz:I.al zh (ca.toList.map (S0.ev Z E.nt))=ca.toList.map ((S0.toSt h).ev X):=by
  have:=ig h zh (.bn (ca.toList.map (S0.ev Z E.nt))) hA
  have e:I.al h (ca.toList.map (S0.ev Z E.nt))=I.al zh (ca.toList.map (S0.ev Z E.nt)):=by simpa[I.toD] using this
  rw[← e,ef,List.map_map]
  exact List.map_congr_left fun x _=>(dO hX x).symm
 refine ZX (X:=X) (S:=S0.toSt h) (n:=ps.length) (q:=cw os) (ps:=pF ps) (os:=fun _=>.none) (fH:=eL os) (mv:=fun _=>true) (c:=[]) (A:=I.al zh (ca.toList.map (S0.ev Z E.nt))) (R:=d.toD zh) (R':=d'.toD h) (cU:=(S2.toSt h).γ) (sF:=(S2.toSt h).σ) gx hqi hg ho rfl (fun i hi=>?_) ?_ (by rw[hX.Z];exact h2) (fun s hs=>?_) (fun i hi=>?_) ?_ hd (fun s hs=>?_) (fun i hi=>?_) ?_
 ·have:(S0.toSt h).σ (pF ps i)=.none:=by
   show (S0.own (pF ps i)).toOwn h=_
   rw[(a6 i hi).1];rfl
  rw[this];exact .none
 ·rw[List.append_nil,hAz]
  refine ab3 (fun x hx=>?_)
  rw[← hAz]at hx
  exact eP zh _ hA x hx
 ·have pR:s ∉ ps:=fun hm=>by
   obtain ⟨i,e1,e2⟩:=U9 hm
   exact hs i e1 e2
  show h s+look 0 S2.gs s=h s+S0.gen s
  rw[b3]
  exact congrArg (h s+·) (a5 s pR).1
 ·show h (pF ps i)+look 0 S2.gs (pF ps i)=h (pF ps i)+S0.gen (pF ps i)+1
  rw[b3]
  have:=(a6 i hi).2.1
  show h (pF ps i)+S1.gen (pF ps i)=_
  rw[this];rfl
 ·have:(fun j=>(S2.toSt h).γ (pF ps j))=gF S1 h ps:=by
   funext j
   show h (pF ps j)+look 0 S2.gs (pF ps j)=_
   rw[b3];rfl
  rw[this];exact zN
 ·have pR:s ∉ ps:=fun hm=>by
   obtain ⟨i,e1,e2⟩:=U9 hm
   exact hs i e1 e2
  show (S2.own s).toOwn h=(S0.own s).toOwn h
  rw[b4 s pR,(a5 s pR).2]
 ·have e1:(fun j=>(S2.toSt h).γ (pF ps j))=gF S1 h ps:=by
   funext j
   show h (pF ps j)+look 0 S2.gs (pF ps j)=_
   rw[b3];rfl
  rw[e1]
  have e2:=Nz hms i (by rw[← a3];exact hi)
  have e3:=agJ (h:=h) hq e2
  show gn _ _ _ _ _ ((de os i).toOwn zh) ((S2.own (pF ps i)).toOwn h)
  rw[b5 i hi]
  exact e3
 ·have e:(⟨aG (S0.toSt h).ρ t (d'.toD h),(S2.toSt h).γ,(S2.toSt h).σ⟩:St)=(S2.toSt h).app (vE t d').wr ((vE t d').vl h):=by
   have:(S2.toSt h).ρ=(S0.toSt h).ρ:=by
    funext i
    show (look .undef S2.rs i).toD h=(look .undef S0.rs i).toD h
    rw[b2,a2]
   rw[← this]
   rfl
  rw[e];exact hk
def FD (z:Bool) (a b:Option R):Option R:=bif z then (open Classical in if a=b then b else none) else b
theorem abH {z:Bool}{a b:Option R}{r:R} (h:FD z a b=some r):b=some r∧(z=true→a=some r):=by
 unfold FD at h
 cases z with
 |false=>exact⟨h,fun e=>nomatch e⟩
 |true =>
  simp only[cond_true]at h
  split at h
  ·rename_i e;exact⟨h,fun _=>e.trans h⟩
  ·cases h
def nC (E:CEnv Z) (F:Fix) (S:IS) (o:Oper) (k:IS→Option R) (gA:Option R):Option R:=match o.op,o.dst with
 |.binOp .eql T x y _,some t=>(match S.ev Z E.nt x,S.ev Z E.nt y with
  |.sl ty l,.nil=>rowOf Z T fun q=>ao (Nat.beq q.k 3&&!(bc t (keys F.sl))) (FD l.isEmpty (k (S.set t (.bool true))) (k (S.set t (.bool false))))
  |_,_=>gA)
 |_,_=>gA
theorem anA {E:CEnv Z}{g0:Nat→Nat} (hX:At X Z E.nt) {F:Fix}{S:IS}{o:Oper}{k:IS→Option R}{gA:Option R}{h:Nat→Nat} (hi:Inv E.ba g0 F h S) (hr:nC E F S o k gA=some r) :
  gA=some r∨∃ (t:Nat) (P:Prop),Inv E.ba g0 F h (S.set t (.bool true))∧Inv E.ba g0 F h (S.set t (.bool false))∧(P→k (S.set t (.bool true))=some r)∧k (S.set t (.bool false))=some r ∧
   ∀ (ops:Array Oper) (rest:List Oper) (Q:Exit→St→Prop),o.guard=none→(P→WL X ops rest Q ((S.set t (.bool true)).toSt h))→WL X ops rest Q ((S.set t (.bool false)).toSt h)→WL X ops (o::rest) Q (S.toSt h):=by
 unfold nC at hr
 split at hr
 case h_2=>exact .inl hr
 rename_i tx x y nz t ho hd
 split at hr
 case h_2=>exact .inl hr
 rename_i te l hx hy
 obtain ⟨q,hq,_,hr⟩:=cg hr
 obtain ⟨ht,hr⟩:=aq hr
 simp only[Bool.and_eq_true,Bool.not_eq_true']at ht
 obtain ⟨hk3,ht⟩:=ht
 obtain ⟨h1,h2⟩:=abH hr
 refine .inr ⟨t,l.isEmpty=true,hi.set ht _,hi.set ht _,h2,h1,fun ops rest Q hg ht hf=>?_⟩
 have Fm:(S.toSt h).ev X x=AV te l:=by rw[dO hX,hx];rfl
 have XZ:(S.toSt h).ev X y=.nil:=by rw[dO hX,hy];rfl
 rw[jF]at hf
 refine ZY hg ho hd (by rw[hX.Z];exact hq) hk3 Fm XZ (fun hn=>?_) hf
 have:=ht (by cases l with|nil=>rfl|cons=>simp at hn)
 rw[jF]at this
 exact this
def BQ:Nat:=40000000
def aa2:List Zr→Bool
 |[.np,.sl]=>true
 |_=>false
theorem afW {l:List Zr} (h:aa2 l=true):l=[.np,.sl]:=by
 unfold aa2 at h
 split at h
 ·rfl
 ·cases h
def bE1 (S:IS) (t T:Nat):Ef:=GB S t [.mb t (S.gen t+1) T,.nil]
def bE2 (S:IS) (t E1:Nat):Ef:=⟨none,.undef,some (t+BQ,S.gen (t+BQ)+1),some (t+BQ,.arr E1 (.int .u8) [])⟩
def bE3 (S:IS) (t T:Nat):Ef:=po t (.box [.mb t (S.gen t+1) T,.os (t+BQ) (S.gen (t+BQ)+1)])
def bC (E:CEnv Z) (F:Fix) (S:IS) (o:Oper) (k:IS→Option R) (gA:Option R):Option R:=match o.op,o.dst with
 |.alloc T,some t=>(match Z.bt T with
  |some E1=>rowOf Z T fun q=>ao (aa2 q.zs&&Us (S.own (t+BQ))&&gP E.ba F (bE1 S t T)&&gP E.ba F (bE2 S t E1)&&gP E.ba F (bE3 S t T)) (k (((S.dE (bE1 S t T)).dE (bE2 S t E1)).dE (bE3 S t T)))
  |none=>gA)
 |_,_=>gA
theorem am2 {E:CEnv Z}{g0:Nat→Nat} (hX:At X Z E.nt) {F:Fix}{S:IS}{o:Oper}{k:IS→Option R}{gA:Option R}{h:Nat→Nat} (hi:Inv E.ba g0 F h S) (hr:bC E F S o k gA=some r) :
  gA=some r∨∃ S',k S'=some r∧Inv E.ba g0 F h S'∧∀ (ops:Array Oper) (rest:List Oper) (Q:Exit→St→Prop),o.guard=none→WL X ops rest Q (S'.toSt h)→WL X ops (o::rest) Q (S.toSt h):=by
 unfold bC at hr
 split at hr
 case h_2=>exact .inl hr
 rename_i T t ho hd
 split at hr
 case h_2=>exact .inl hr
 rename_i E1 hE
 obtain ⟨q,hq,h9,hr⟩:=cg hr
 obtain ⟨hc,hr⟩:=aq hr
 simp only[Bool.and_eq_true]at hc
 obtain ⟨⟨⟨⟨c1,c2⟩,c3⟩,c4⟩,c5⟩:=hc
 refine .inr ⟨_,hr,((hi.dE c3).dE c4).dE c5,fun ops rest Q hg hk=>?_⟩
 have h1:=abl (X:=X) (S:=S.toSt h) ho hd (by rw[hX.Z];exact hq) h9 (afW c1)
 refine arp hg h1 ?_
 have cx:t≠t+BQ:=Nat.ne_of_lt (Nat.lt_add_of_pos_right (by decide))
 have pQ:(S.toSt h).σ (t+BQ)=.none:=by
  show (S.own (t+BQ)).toOwn h=.none
  cases hw:S.own (t+BQ) with
  |none=>rfl
  |_=>rw[hw]at c2;cases c2
 have h2:=RU (X:=X) (S:=(S.toSt h).boxed t [.mb t ((S.toSt h).γ t+1) T,.nil]) t 1 (t+BQ) E1 1 (fun i=>bN (.int .u8) (([]:List Int).getD i 0)) (l:=[.mb t ((S.toSt h).γ t+1) T,.nil]) (by unfold St.boxed;exact aC _ _ _) (by
  cases hb:Nat.beq t (t+BQ) with
  |false=>rfl
  |true=>exact absurd (Nat.eq_of_beq_eq_true hb) cx) (by unfold St.boxed;exact(bh _ _ _ _ (fun e=>cx e.symm)).trans pQ) rfl rfl
 refine Jh h2 ?_
 rw[fe,fe,fe]at hk
 have hp:aG (S.toSt h).γ t ((S.toSt h).γ t+1) (t+BQ)=h (t+BQ)+S.gen (t+BQ):=bh _ _ _ _ (fun e=>cx e.symm)
 have e:(⟨((S.toSt h).boxed t [.mb t ((S.toSt h).γ t+1) T,.nil]).ρ,aG ((S.toSt h).boxed t [.mb t ((S.toSt h).γ t+1) T,.nil]).γ (t+BQ) (((S.toSt h).boxed t [.mb t ((S.toSt h).γ t+1) T,.nil]).γ (t+BQ)+1),aG (aG ((S.toSt h).boxed t [.mb t ((S.toSt h).γ t+1) T,.nil]).σ (t+BQ) (.arr E1 1 0 (fun i=>bN (.int .u8) (([]:List Int).getD i 0)))) t (.box [.mb t ((S.toSt h).γ t+1) T,.os (t+BQ) (((S.toSt h).boxed t [.mb t ((S.toSt h).γ t+1) T,.nil]).γ (t+BQ)+1)])⟩:St)=(((S.toSt h).app (bE1 S t T).wr ((bE1 S t T).vl h)).app (bE2 S t E1).wr ((bE2 S t E1).vl h)).app (bE3 S t T).wr ((bE3 S t T).vl h):=by
  unfold St.boxed
  simp only[hp]
  unfold St.app
  congr 1
 exact e ▸ hk
def Xy (E:CEnv Z) (F:Fix) (S:IS) (o:Oper) (K:IS→Option R):Option R:=pN F S (dW S (abP E S o)) (fun S=>Rh E S o (fun e=>ao (gP E.ba F e) (K (S.dE e))))
def chN (E:CEnv Z) (F:Fix) (S:IS) (o:Oper) (K:IS→Option R):Option R:=ab6 E F S o K (omC E F S o K (roC E F S o K (mC E F S o K (gC E F S o K (bC E F S o K (nC E F S o K (Xy E F S o K)))))))
def Gb (E:CEnv Z) (F:Fix) (S:IS) (o:Oper) (K:IS→Option R):Option R:=bif Nat.beq (Yu o.op) 0 then Rh E S o (fun e=>ao (gP E.ba F e) (K (S.dE e)))
 else bif Nat.beq (Yu o.op) 1 then Xy E F S o K else chN E F S o K
def stepG (E:CEnv Z) (F:Fix) (ops:Array Oper) (S:IS) (o:Oper) (g:Nat×Bool) (K:IS→Option R):Option R:=match (ops[g.1]?).bind (·.dst) with
 |some t=>ao (!(bc t (keys F.sl))) (bif Hc (S.ev Z E.nt (.tmp t)) then (match o.dst with|some t'=>ao (!(bc t' (keys F.sl))) (K (S.set t' (.bn [])))|none=>none) else Kq S Z E.nt t (fun c=>bif c == g.2 then Gb E F (S.set t (.bool c)) o K
   else (match o.dst with|some t'=>ao (!(bc t' (keys F.sl))) (K ((S.set t (.bool c)).set t' (.bn [])))|none=>none)))
 |none=>none
def ue (E:CEnv Z) (F:Fix) (ops:Array Oper) (l:List Oper):IS→(IS→Option R)→Option R :=
 @List.rec Oper (fun _=>IS→(IS→Option R)→Option R) (fun S k=>k S) (fun o _ ih S k=>@Option.rec (Nat×Bool) (fun _=>Option R) (Gb E F S o (fun S'=>ih S' k)) (fun g=>stepG E F ops S o g (fun S'=>ih S' k)) o.guard) l
theorem Zn (E:CEnv Z) (F:Fix) (ops:Array Oper) (o:Oper) (rest:List Oper) (S:IS) (k:IS→Option R):ue E F ops (o::rest) S k=match o.guard with
  |none=>Gb E F S o (fun S'=>ue E F ops rest S' k)
  |some g=>stepG E F ops S o g (fun S'=>ue E F ops rest S' k):=by
 show @Option.rec (Nat×Bool) (fun _=>Option R) _ _ o.guard=_
 cases o.guard<;>rfl
theorem xZ {S:IS}{h:Nat→Nat}{nt t:Nat}{c:Bool} (hX:At X Z nt) (hc:S.ev Z nt (.tmp t)=.bool c):(S.set t (.bool c)).toSt h=S.toSt h:=by
 rw[jF]
 have X3:(S.toSt h).ρ t=.bool c:=by
  have h1:=dO (h:=h) hX (Operand.tmp t) (S:=S)
  rw[hc]at h1
  simp only[St.ev,I.toD]at h1
  cases hb:Nat.blt t X.nt with
  |false=>rw[hb]at h1;cases h1
  |true=>rw[hb]at h1;exact h1
 unfold St.set
 have:aG (S.toSt h).ρ t (I.toD h (.bool c))=(S.toSt h).ρ:=by
  funext i
  by_cases e:i=t
  ·subst e;rw[aC,X3];rfl
  ·rw[bh _ _ _ _ e]
 rw[this]
theorem iL {E:CEnv Z}{g0:Nat→Nat} (hX:At X Z E.nt) {F:Fix} (hF:okF F=true) {ops:Array Oper}{Q:Exit→St→Prop}{k:IS→Option R} (hk:∀ h S',Inv E.ba g0 F h S'→k S'=some r→Q .normal (S'.toSt h)) :
  ∀ (l:List Oper) (S:IS) (h:Nat→Nat),Inv E.ba g0 F h S→ue E F ops l S k=some r→WL X ops l Q (S.toSt h)
 |[],S,h,hi,hr=>KM (hk h S hi hr)
 |o::rest,S,h,hi,hr=>by
  have step:∀ (S:IS),Inv E.ba g0 F h S→∀ o:Oper,o.guard=none→Xy E F S o (fun S'=>ue E F ops rest S' k)=some r→WL X ops (o::rest) Q (S.toSt h):=fun S hi o hg hr=>by
   unfold Xy pN at hr
   obtain ⟨ob,hr⟩:=aq hr
   have ek:=hi.gw hF ob
   refine Jh (lz (dW S (abP E S o)) S (uE hX.xa ob)) ?_
   obtain ⟨e,h1,h2⟩:=Nw hX hr
   obtain ⟨hp,h1⟩:=aq h1
   intro κ sv a w hs
   refine wpListIn_plain hg fun K hK=>h2 h _ (Ag.self hX) (fun p _=>rfl) κ sv a w hs K _ fun aA aQ a' w' fN=>hK _ _ ?_
   rw[← fe]at fN
   exact iL hX hF hk rest _ h (ek.dE hp) h1 aA aQ a' w' fN
  have all:∀ (S:IS),Inv E.ba g0 F h S→∀ o:Oper,o.guard=none→Gb E F S o (fun S'=>ue E F ops rest S' k)=some r→WL X ops (o::rest) Q (S.toSt h):=fun S hi o hg hr=>by
   unfold Gb at hr
   cases Ck:Nat.beq (Yu o.op) 0 with
   |true =>
    rw[Ck]at hr
    refine step S hi o hg ?_
    unfold Xy
    rw[alf Ck]
    exact hr
   |false =>
   rw[Ck]at hr
   cases jJ:Nat.beq (Yu o.op) 1 with
   |true=>rw[jJ]at hr;exact step S hi o hg hr
   |false =>
   rw[jJ]at hr
   replace hr:chN E F S o (fun S'=>ue E F ops rest S' k)=some r:=hr
   unfold chN at hr
   rcases ag0 hX hi hr with hr|⟨S',h1,h2,h3⟩
   ·rcases ak2 hX hi hr with hr|⟨S',h1,h2,h3⟩
    ·rcases alH hX hi hr with hr|⟨S',h1,h2,h3⟩
     ·rcases anx hX hF hi hr with hr|⟨S',h1,h2,h3⟩
      ·rcases ane hX hF hi hr with hr|⟨S',h1,h2,h3⟩
       ·rcases am2 hX hi hr with hr|⟨S',h1,h2,h3⟩
        ·rcases anA hX hi hr with hr|⟨t,P,i1,i2,k1,k2,k3⟩
         ·exact step S hi o hg hr
         ·exact k3 ops rest Q hg (fun hP=>iL hX hF hk rest _ h i1 (k1 hP)) (iL hX hF hk rest _ h i2 k2)
        ·exact h3 ops rest Q hg (iL hX hF hk rest S' h h2 h1)
       ·exact h3 ops rest Q hg (iL hX hF hk rest S' h h2 h1)
      ·exact h3 ops rest Q hg (iL hX hF hk rest S' h h2 h1)
     ·exact h3 ops rest Q hg (iL hX hF hk rest S' h h2 h1)
    ·exact h3 ops rest Q hg (iL hX hF hk rest S' h h2 h1)
   ·exact h3 ops rest Q hg (iL hX hF hk rest S' h h2 h1)
  rw[Zn]at hr
  split at hr
  ·rename_i hg
   exact all S hi o hg hr
  ·rename_i g hg
   obtain ⟨j,b⟩:=g
   unfold stepG at hr
   simp only at hr
   split at hr
   ·rename_i t hj
    replace hr:=aq hr
    obtain ⟨ht,hr⟩:=hr
    simp only[Bool.not_eq_true']at ht
    cases hu:Hc (S.ev Z E.nt (.tmp t)) with
    |true =>
     rw[hu]at hr
     simp only[cond_true]at hr
     split at hr
     ·rename_i t' hd
      obtain ⟨wc,hr⟩:=aq hr
      simp only[Bool.not_eq_true']at wc
      refine ahl hg hj (by rw[dO hX,Q3 hu];rfl) hd ?_
      have:=iL hX hF hk rest (S.set t' (.bn [])) h (hi.set wc _) hr
      rw[jF]at this
      exact this
     ·cases hr
    |false =>
    rw[hu]at hr
    simp only[cond_false]at hr
    replace hr:=RM hr
    obtain ⟨c,hc,hr⟩:=hr
    have fO:(S.toSt h).ev X (.tmp t)=.bool c:=by rw[dO hX,hc];rfl
    cases wa:c == b with
    |true =>
     rw[wa]at hr
     have wa:c=b:=by simpa using wa
     subst wa
     refine ahm hg hj fO ?_
     rw[← xZ hX hc]
     exact all (S.set t (.bool c)) (hi.set ht _) { o with guard:=none } rfl hr
    |false =>
     rw[wa]at hr
     simp only[cond_false]at hr
     split at hr
     ·rename_i t' hd
      obtain ⟨wc,hr⟩:=aq hr
      simp only[Bool.not_eq_true']at wc
      refine ahk hg hj fO wa hd ?_
      rw[← xZ hX hc]
      have:=iL hX hF hk rest ((S.set t (.bool c)).set t' (.bn [])) h ((hi.set ht _).set wc _) hr
      rw[jF]at this
      exact this
     ·cases hr
   ·cases hr
def Ud (e:Ef):List Nat:=match e.g with|some p=>[p.1]|none=>[]
def Na (E:CEnv Z) (S:IS) (o:Oper):Bool:=match o.op with
 |.call c=>(match c.callee with
  |.value x=>(match S.ev Z E.nt x with
   |.fn f _=>(match JP E.FM f with|some _=>true|none=>false)
   |_=>false)
  |_=>false)
 |_=>false
def aat (E:CEnv Z) (S S':IS) (x:Operand) (args:List Operand) (t:Nat):eu :=
 (⟨slotsOf (x::args),kT E S x args,kT E S x args⟩,⟨[t],(kT E S x args).filter (fun p=>!(Nat.beq (S.gen p) (S'.gen p))),(kT E S x args).filter (fun p=>!(Ie (S.own p) (S'.own p)))⟩)
def mG (E:CEnv Z) (F:Fix) (S:IS) (o:Oper) (K:eu→IS→Option R):Option R:=match o.op with
 |.call c=>(match c.callee with
  |.value x=>(match S.ev Z E.nt x,o.dst with
   |.fn f cc,some t=>(match JP E.FM f with
    |some sp=>ao ((dW S (kaP 0 sp.ka (c.args.toList.map (S.ev Z E.nt))++kbP S 0 sp.kb (xQ (kaA 0 sp.ka (c.args.toList.map (S.ev Z E.nt))++cc) []))).isEmpty) (Yg E F S t x c.args.toList sp (fun S'=>K (aat E S S' x c.args.toList t) S'))
    |none=>none)
   |_,_=>none)
  |_=>none)
 |_=>none
theorem IZ {t:Nat}:∀ {l:List Operand},Operand.tmp t∈l→t∈slotsOf l
 |y::l,h=>by
  rcases List.mem_cons.1 h with rfl|h
  ·exact List.mem_cons_self ..
  ·have:=IZ h
   cases y<;>simp only[slotsOf]<;>first|exact this|exact List.mem_cons_of_mem _ this
theorem anz {E:CEnv Z}{g0:Nat→Nat} (hX:At X Z E.nt) {F:Fix}{S:IS}{o:Oper}{K:eu→IS→Option R}{h:Nat→Nat} (hi:Inv E.ba g0 F h S) (hr:mG E F S o K=some r) :
  ∃ (en:eu) (S':IS) (v:Vm),K en S'=some r∧Inv E.ba g0 F h S'∧(S.toSt h).s9 en.2 v=S'.toSt h∧(o.guard=none→∀ (ops:Array Oper) (Q:Exit→St→Prop) (n:Nat),ops[n]?=some o→KF X Q ops n (S.toSt h) en.1 en.2 v):=by
 unfold mG at hr
 split at hr
 case h_2=>cases hr
 rename_i c ho
 obtain ⟨ce,args,ts⟩:=c
 simp only at hr
 split at hr
 case h_2=>cases hr
 rename_i x
 split at hr
 case h_2=>cases hr
 rename_i f cc t hx hd
 split at hr
 case h_2=>cases hr
 rename_i sp iu
 obtain ⟨_,hr⟩:=aq hr
 obtain ⟨S',d',h1,h2,h3,h4,h5⟩:=Yh hX ho hd hi hr
 have MY:∀ s,((S'.dE (vE t d')).toSt h).γ s=(S'.toSt h).γ s:=fun _=>rfl
 have sk:∀ s,((S'.dE (vE t d')).toSt h).σ s=(S'.toSt h).σ s:=fun _=>rfl
 have hap:∀ T:St,(∀ p∈kT E S x args.toList,T.γ p=(S.toSt h).γ p∧T.σ p=(S.toSt h).σ p)→T.s9 (aat E S (S'.dE (vE t d')) x args.toList t).2 ⟨fun _=>d'.toD h,(S'.toSt h).γ,(S'.toSt h).σ⟩ =
   ⟨aG T.ρ t (d'.toD h),fun s=>bif bc s (kT E S x args.toList) then (S'.toSt h).γ s else T.γ s,fun s=>bif bc s (kT E S x args.toList) then (S'.toSt h).σ s else T.σ s⟩:=fun T hT=>by
  unfold St.s9 aat
  simp only
  have e0:oV T.ρ [t] (fun _=>d'.toD h)=aG T.ρ t (d'.toD h):=OL T.ρ (some t) (d'.toD h)
  rw[e0]
  congr 1
  ·funext s
   cases hm:bc s (kT E S x args.toList) with
   |false=>exact iT fun hx=>by rw[bw.2 (List.mem_filter.1 hx).1]at hm;cases hm
   |true =>
    cases hb:Nat.beq (S.gen s) ((S'.dE (vE t d')).gen s) with
    |false=>exact pr (List.mem_filter.2 ⟨bw.1 hm,by rw[hb];rfl⟩)
    |true =>
     rw[iT fun hx=>by have:=(List.mem_filter.1 hx).2;rw[hb]at this;cases this]
     have e1:=Nat.eq_of_beq_eq_true hb
     rw[(hT s (bw.1 hm)).1]
     show h s+S.gen s=h s+S'.gen s
     rw[e1];rfl
  ·funext s
   cases hm:bc s (kT E S x args.toList) with
   |false=>exact iT fun hx=>by rw[bw.2 (List.mem_filter.1 hx).1]at hm;cases hm
   |true =>
    cases hb:Ie (S.own s) ((S'.dE (vE t d')).own s) with
    |false=>exact pr (List.mem_filter.2 ⟨bw.1 hm,by rw[hb];rfl⟩)
    |true =>
     rw[iT fun hx=>by have:=(List.mem_filter.1 hx).2;rw[hb]at this;cases this]
     rw[(hT s (bw.1 hm)).2]
     exact WO h hb
 refine ⟨_,_,⟨fun _=>d'.toD h,(S'.toSt h).γ,(S'.toSt h).σ⟩,h1,h2,?_,fun hg ops Q n zU T hT κ sv a w hs=>?_⟩
 ·rw[hap _ (fun _ _=>⟨rfl,rfl⟩),fe]
  have e0:(S.toSt h).ρ=(S'.toSt h).ρ:=by funext i;show _=(look .undef S'.rs i).toD h;rw[h3];rfl
  have e1:(fun s=>bif bc s (kT E S x args.toList) then (S'.toSt h).γ s else (S.toSt h).γ s)=(S'.toSt h).γ:=by
   funext s
   cases hm:bc s (kT E S x args.toList) with
   |true=>rfl
   |false=>exact((h4 s fun hx=>by rw[bw.2 hx]at hm;cases hm).1).symm
  have e2:(fun s=>bif bc s (kT E S x args.toList) then (S'.toSt h).σ s else (S.toSt h).σ s)=(S'.toSt h).σ:=by
   funext s
   cases hm:bc s (kT E S x args.toList) with
   |true=>rfl
   |false=>exact((h4 s fun hx=>by rw[bw.2 hx]at hm;cases hm).2).symm
  rw[e0,e1,e2];rfl
 ·have dY:∀ p∈kT E S x args.toList,T.γ p=(S.toSt h).γ p∧T.σ p=(S.toSt h).σ p:=fun p hp=>⟨hT.rg p hp,hT.ro p hp⟩
  rw[hap T dY]
  unfold wpOpIn
  rw[zU]
  simp only
  rw[if_pos (by unfold Region.wanted;rw[hg])]
  exact h5 T (fun y hy=>tn fun t' e=>hT.rr t' (IZ (by rw[← e];exact hy))) dY κ sv a w hs _ _ fun aA aQ a' w' fN=>⟨aA,aQ,fN⟩
def su (E:CEnv Z) (F:Fix) (ops:Array Oper):List Oper→IS→List eu→(IS→Option R)→Option R
 |[],S,En,k=>bif Ys ops.toList En then k S else none
 |o::rest,S,En,k=>match o.guard with
  |none=>bif Na E S o then mG E F S o (fun en S'=>su E F ops rest S' (En++[en]) k) else Rh E S o (fun e=>ao (gP E.ba F e) (su E F ops rest (S.dE e) (En++[((Yb Z E.nt S o).plus [] (Ud e),e.wr.mm)]) k))
  |some (j,b)=>(match (ops[j]?).bind (·.dst) with
   |some t=>ao (!(bc t (keys F.sl))) (bif Hc (S.ev Z E.nt (.tmp t)) then (match o.dst with|some t'=>ao (!(bc t' (keys F.sl))) (su E F ops rest (S.set t' (.bn [])) (En++[(⟨[t],[],[]⟩,Wr.mm ⟨some t',none,none⟩)]) k)|none=>none) else Kq S Z E.nt t (fun c=>bif c == b then Rh E (S.set t (.bool c)) o (fun e=>ao (gP E.ba F e) (su E F ops rest ((S.set t (.bool c)).dE e) (En++[((Yb Z E.nt (S.set t (.bool c)) o).plus [t] (Ud e),e.wr.mm)]) k))
     else (match o.dst with|some t'=>ao (!(bc t' (keys F.sl))) (su E F ops rest ((S.set t (.bool c)).set t' (.bn [])) (En++[(⟨[t],[],[]⟩,Wr.mm ⟨some t',none,none⟩)]) k)|none=>none)))
   |none=>none)
theorem Zv {E:CEnv Z} (hX:At X Z E.nt) {ops:Array Oper}{Q:Exit→St→Prop}{S:IS}{h:Nat→Nat}{o:Oper}{e:Ef}{n:Nat}{gs:List Nat} (hw:Want X (S.toSt h) ops o gs) (he:dA X Z E.nt o S e) :
  ops[n]?=some o→Snd X Q ops n (S.toSt h) ((Yb Z E.nt S o).plus gs (Ud e)) e.wr (e.vl h):=fun zU T hT κ sv a w hs=>by
 obtain ⟨hT1,XH,hT3⟩:=Sn hT
 unfold wpOpIn
 rw[zU]
 simp only
 rw[if_pos (ag8 hw XH hs)]
 refine he h T ⟨hX,by rw[afY hX];exact hT1⟩ (fun p hp=>?_) κ sv a w hs _ _ fun aA aQ a' w' fN=>⟨aA,aQ,fN⟩
 exact hT3 p.1 (by simp[Ud,hp])
theorem pn {E:CEnv Z}{g0:Nat→Nat} (hX:At X Z E.nt) {F:Fix}{ops:Array Oper}{Q:Exit→St→Prop}{k:IS→Option R} (hk:∀ h S',Inv E.ba g0 F h S'→k S'=some r→Q .normal (S'.toSt h)) :
  ∀ (l:List Oper) (S:IS) (En:List eu) (V:List Vm) (S0:St) (h:Nat→Nat),Inv E.ba g0 F h S→su E F ops l S En k=some r→WM X Q ops S0 En V l (S.toSt h)
 |[],S,En,V,S0,h,hi,hr=>by
  unfold su at hr
  cases hb:Ys ops.toList En with
  |false=>rw[hb]at hr;cases hr
  |true=>rw[hb]at hr;exact ahn hb (hk h S hi hr)
 |o::rest,S,En,V,S0,h,hi,hr=>by
  unfold su at hr
  split at hr
  ·rename_i hg
   cases hm:Na E S o with
   |true =>
    rw[hm]at hr
    simp only[cond_true]at hr
    obtain ⟨en,S',v,h1,h2,h3,h4⟩:=anz hX hi hr
    exact KN h3 (fun zU=>h4 hg ops Q _ zU) (pn hX hk rest _ _ _ _ h h2 h1)
   |false =>
   rw[hm]at hr
   simp only[cond_false]at hr
   obtain ⟨e,h1,h2⟩:=Nw hX hr
   obtain ⟨hp,h1⟩:=aq h1
   exact Be (fe h S e).symm (Zv hX (ZH hg) h2) (pn hX hk rest _ _ _ _ h (hi.dE hp) h1)
  ·rename_i j b hg
   split at hr
   ·rename_i t hj
    replace hr:=aq hr
    obtain ⟨ht,hr⟩:=hr
    simp only[Bool.not_eq_true']at ht
    cases hu:Hc (S.ev Z E.nt (.tmp t)) with
    |true =>
     rw[hu]at hr
     simp only[cond_true]at hr
     split at hr
     ·rename_i t' hd
      obtain ⟨wc,hr⟩:=aq hr
      simp only[Bool.not_eq_true']at wc
      refine ahp hg hj (by rw[dO hX,Q3 hu];rfl) hd ?_
      have:=pn hX hk rest (S.set t' (.bn [])) _ (V++[Vl.mm ⟨.bn [],0,.none⟩]) S0 h (hi.set wc _) hr
      rw[jF]at this
      exact this
     ·cases hr
    |false =>
    rw[hu]at hr
    simp only[cond_false]at hr
    replace hr:=RM hr
    obtain ⟨c,hc,hr⟩:=hr
    have fO:∀ h,((S.set t (.bool c)).toSt h).ev X (.tmp t)=.bool c:=fun h=>by rw[xZ hX hc,dO hX,hc];rfl
    rw[← xZ hX hc]
    cases wa:c == b with
    |true =>
     rw[wa]at hr
     have wa:c=b:=by simpa using wa
     subst wa
     obtain ⟨e,h1,h2⟩:=Nw hX hr
     obtain ⟨hp,h1⟩:=aq h1
     exact Be (fe h _ e).symm (Zv hX (ZI hg hj (fO h)) h2) (pn hX hk rest _ _ _ _ h ((hi.set ht _).dE hp) h1)
    |false =>
     rw[wa]at hr
     simp only[cond_false]at hr
     split at hr
     ·rename_i t' hd
      obtain ⟨wc,hr⟩:=aq hr
      simp only[Bool.not_eq_true']at wc
      refine aho hg hj (fO h) wa hd ?_
      have:=pn hX hk rest ((S.set t (.bool c)).set t' (.bn [])) _ (V++[Vl.mm ⟨.bn [],0,.none⟩]) S0 h ((hi.set ht _).set wc _) hr
      rw[jF]at this
      exact this
     ·cases hr
   ·cases hr
def iter {α:Type} (F:α→(α→Option R)→Option R) (n:Nat):α→Option R :=
 Nat.rec (motive:=fun _=>α→Option R) (fun _=>none) (fun _ ih a=>F a ih) n
def iM:Nat:=18446744073709551616
abbrev It (R:Type):=(α:Type)→(α→(α→Option R)→Option R)→α→Option R
def aB:It R:=fun _ F=>iter F iM
structure A7 where
 K:k5
 cs:List Nat
 cp:List Nat
 gd:List (Nat×Nat)
structure bJ (Z:aX) extends CEnv Z where
 lp:List (Nat×A7)
def BP:Code→Nat
 |.region id _ _=>id
 |.block id _=>id+500000
 |.seq a _=>BP a
 |.cond _ a _=>BP a
 |.loop b=>BP b
 |_=>0
def find {α:Type}:List (Nat×α)→Nat→Option α
 |[],_=>none
 |(i,a)::l,j=>bif Nat.beq j i then some a else find l j
def ajp (S:IS):List (Nat×Nat)→Bool
 |[]=>true
 |(t,p)::l=>(match S.get t with|.os s _=>Nat.beq s p|_=>false)&&ajp S l
def JO:List (Nat×A7)→Nat→IS→Option A7
 |[],_,_=>none
 |(i,L)::l,j,S=>bif Nat.beq j i&&ajp S L.gd then some L else JO l j S
def inB (id:Nat) (kn:IS→Option R) (kx:Option Nat→IS→Option R) (e:Option Nat) (S:IS):Option R:=match e with
 |some i=>bif Nat.beq i id then kn S else kx (some i) S
 |none=>kx none S
def Lg (S:IS) (F:List (Nat×I)):List Nat→Option (List (Nat×I))
 |[]=>some F
 |i::l=>bif eA (S.get i) then (match Lg S F l with|some r=>some ((i,S.get i)::r)|none=>none) else none
def Lf (S:IS) (F:List (Nat×aK)):List Nat→Option (List (Nat×aK))
 |[]=>some F
 |i::l=>bif qc (S.own i) then (match Lf S F l with|some r=>some ((i,S.own i)::r)|none=>none) else none
theorem P5 {S:IS}{F:List (Nat×I)} (hF:∀ p∈F,S.get p.1=p.2∧eA p.2=true):∀ {l:List Nat}{r:List (Nat×I)},Lg S F l=some r→(∀ p∈r,S.get p.1=p.2∧eA p.2=true)∧∀ p∈F,p∈r
 |[],r,h=>by simp only[Lg,Option.some.injEq]at h;subst h;exact⟨hF,fun p hp=>hp⟩
 |i::l,r,h=>by
  simp only[Lg]at h
  cases hn:eA (S.get i) with
  |false=>rw[hn]at h;cases h
  |true =>
   rw[hn]at h
   simp only[cond_true]at h
   split at h
   ·rename_i r' Fg
    simp only[Option.some.injEq]at h
    subst h
    obtain ⟨h1,h2⟩:=P5 hF Fg
    refine ⟨fun p hp=>?_,fun p hp=>List.mem_cons_of_mem _ (h2 p hp)⟩
    rcases List.mem_cons.1 hp with rfl|hp
    ·exact⟨rfl,hn⟩
    ·exact h1 p hp
   ·cases h
theorem P4 {S:IS}{F:List (Nat×aK)} (hF:∀ p∈F,S.own p.1=p.2) (hr0:∀ p∈F,qc p.2=true):∀ {l:List Nat}{r:List (Nat×aK)},Lf S F l=some r→(∀ p∈r,S.own p.1=p.2∧qc p.2=true)∧∀ p∈F,p∈r
 |[],r,h=>by simp only[Lf,Option.some.injEq]at h;subst h;exact⟨fun p hp=>⟨hF p hp,hr0 p hp⟩,fun p hp=>hp⟩
 |i::l,r,h=>by
  simp only[Lf]at h
  cases hn:qc (S.own i) with
  |false=>rw[hn]at h;cases h
  |true =>
   rw[hn]at h
   simp only[cond_true]at h
   split at h
   ·rename_i r' Fg
    simp only[Option.some.injEq]at h
    subst h
    obtain ⟨h1,h2⟩:=P4 hF hr0 Fg
    refine ⟨fun p hp=>?_,fun p hp=>List.mem_cons_of_mem _ (h2 p hp)⟩
    rcases List.mem_cons.1 hp with rfl|hp
    ·exact⟨rfl,hn⟩
    ·exact h1 p hp
   ·cases h
theorem Oa:∀ {l:List (Nat×aK)},(∀ p∈l,qc p.2=true)→BF l=true
 |[],_=>rfl
 |(i,o)::l,h=>by
  simp only[BF,Bool.and_eq_true]
  exact⟨h (i,o) (List.mem_cons_self ..),Oa fun p hp=>h p (List.mem_cons_of_mem _ hp)⟩
def Ld (F:Fix) (L:A7) (S:IS):Option Fix:=match Lg S F.sl L.cs with
 |some a=>(match Lf S F.pl L.cp with|some b=>some ⟨a,b⟩|none=>none)
 |none=>none
def fA (K:k5) (F:Fix) (v:K.V):IS:=⟨gv K.sl v.1++F.sl,[],(Bn K.bx v.2++(Gu K.sl v.1++Gt K.bx v.2))++F.pl⟩
def C7 (a:List Nat):List Nat→Bool
 |[]=>true
 |i::l=>!(bc i a)&&C7 a l
def vS (S:IS):List (Nat×Sh)→List Nat
 |[]=>[]
 |(i,.v _)::l=>gN (S.get i)++vS S l
 |_::l=>vS S l
def vC:List Sh→List I→List Nat
 |.v _::l,d::ds=>gN d++vC l ds
 |_::l,_::ds=>vC l ds
 |_,_=>[]
def vB (S:IS):List (Nat×List Sh)→List Nat
 |[]=>[]
 |(i,c)::l=>(match S.own i with|.box ds=>vC c ds|_=>[])++vB S l
def J4 (K:k5) (S:IS):List Nat:=sj (uO S K.sl++uN S K.bx)
def aar (p:List Nat) (F:Fix) (K:k5) (S:IS):Option K.V :=
 pN F S (dW S (vS S K.sl++vB S K.bx)) fun S=>ao (C7 p (J4 K S)&&C7 (keys F.pl) (J4 K S)) (aap K S)
theorem tj {a:List Nat}:∀ {l:List Nat},C7 a l=true→∀ i∈l,bc i a=false
 |i::l,h,j,hj=>by
  simp only[C7,Bool.and_eq_true,Bool.not_eq_true']at h
  rcases List.mem_cons.1 hj with rfl|hj
  ·exact h.1
  ·exact tj h.2 j hj
theorem mY {α:Type}{e:α}{l m:List (Nat×α)}{j:Nat}:(j∈keys l→look e (l++m) j=look e l j)∧(j ∉ keys l→look e (l++m) j=look e m j):=by
 induction l with
 |nil=>exact⟨fun h=>(nomatch h),fun _=>rfl⟩
 |cons p l ih =>
  obtain ⟨i,a⟩:=p
  simp only[keys,List.mem_cons,not_or,List.cons_append,kE,jL,kF]
  cases hb:Nat.beq j i with
  |true=>have:=Nat.eq_of_beq_eq_true hb;subst this;exact⟨fun _=>rfl,fun h=>absurd rfl h.1⟩
  |false =>
   have cx:j≠i:=fun e=>by rw[e,Nat.beq_refl]at hb;cases hb
   exact⟨fun h=>ih.1 (h.resolve_left cx),fun h=>ih.2 h.2⟩
theorem xF {α:Type}{e:α}{l:List (Nat×α)}{j:Nat} (h:j ∉ keys l):look e l j=e:=by
 have:=(mY (e:=e) (l:=l) (m:=[]) (j:=j)).2 h
 rw[List.append_nil]at this
 exact this
theorem oL {α:Type}{e:α}:∀ {l:List (Nat×α)}{j:Nat},j∈keys l→∃ a,(j,a)∈l∧look e l j=a
 |(i,a)::l,j,h=>by
  simp only[kE,jL,kF]
  cases hb:Nat.beq j i with
  |true=>have:=Nat.eq_of_beq_eq_true hb;subst this;exact⟨a,List.mem_cons_self ..,rfl⟩
  |false =>
   have cx:j≠i:=fun e=>by rw[e,Nat.beq_refl]at hb;cases hb
   rcases List.mem_cons.1 h with h|h
   ·exact absurd h cx
   ·obtain ⟨b,h1,h2⟩:=oL (e:=e) h
    exact⟨b,List.mem_cons_of_mem _ h1,h2⟩
theorem abp (h h':Nat→Nat) {o:aK} (hn:qc o=true):o.toOwn h=o.toOwn h':=by
 cases o with
 |none=>rfl
 |vp=>cases hn
 |arr=>rfl
 |mp=>rfl
 |qa=>rfl
 |jM=>rfl
 |si=>rfl
 |box l=>simp only[aK.toOwn,jB h h' l hn]
theorem IT:∀ (no:List (Nat×TypeId×T)) (S:IS) (i:Nat),i ∉ sj no→(renew S no).own i=S.own i
 |[],S,i,_=>rfl
 |(s,E,t)::no,S,i,h=>by
  simp only[sj,List.mem_cons,not_or]at h
  show (renew _ no).own i=_
  rw[IT no _ i h.2]
  exact eT h.1
def aa6 (K:k5) (v:K.V):List Nat:=keys (Bn K.bx v.2++(Gu K.sl v.1++Gt K.bx v.2))
def aca (K:k5) (F:Fix) (v:K.V):Bool:=C7 (keys F.sl) (keys (gv K.sl v.1))&&C7 (keys F.pl) (aa6 K v)
def hPf (K:k5) (S:IS) (h:Nat→Nat):Nat→Nat:=hN h (renew (gw S (dW S (vS S K.sl++vB S K.bx))) (uO (gw S (dW S (vS S K.sl++vB S K.bx))) K.sl++uN (gw S (dW S (vS S K.sl++vB S K.bx))) K.bx))
theorem GL (hX:vm X) {p:List Nat}{g0:Nat→Nat}{F:Fix} (hF:okF F=true) {K:k5}{S:IS}{v:K.V} (hd:aar p F K S=some v) (hs:aca K F v=true) {h:Nat→Nat} (hi:Inv p g0 F h S):∃ h',h'=hPf K S h∧Wk X (S.toSt h) ((fA K F v).toSt h')∧Inv p g0 F h' (fA K F v):=by
 unfold aar pN at hd
 obtain ⟨ob,hd⟩:=aq hd
 have gj:=hi.gw hF ob
 have hw0:=lz (X:=X) (h:=h) (dW S (vS S K.sl++vB S K.bx)) S (uE hX ob)
 have hpf:hPf K S h=hN h (renew (gw S (dW S (vS S K.sl++vB S K.bx))) (uO (gw S (dW S (vS S K.sl++vB S K.bx))) K.sl++uN (gw S (dW S (vS S K.sl++vB S K.bx))) K.bx)):=rfl
 generalize gw S (dW S (vS S K.sl++vB S K.bx))=S1 at hd gj hw0 hpf
 obtain ⟨hp,hd⟩:=aq hd
 simp only[Bool.and_eq_true]at hp
 obtain ⟨hp1,QV⟩:=hp
 simp only[aca,Bool.and_eq_true]at hs
 obtain ⟨s1,s2⟩:=hs
 obtain ⟨h',tD,hw,hh0⟩:=aaq (X:=X) hd h
 have MH:∀ q∈F.sl,(fA K F v).get q.1=q.2:=fun q hq=>by
  have QU:q.1 ∉ keys (gv K.sl v.1):=fun hm=>by
   have:=tj s1 _ hm
   rw[bw.2 (iQ hq)]at this;cases this
  show look .undef (gv K.sl v.1++F.sl) q.1=_
  rw[mY.2 QU]
  obtain ⟨a,h1,h2⟩:=oL (e:=I.undef) (iQ hq)
  have c1:S1.get q.1=a:=(gj.2.1 (q.1,a) h1).1
  rw[h2,← c1]
  exact(gj.2.1 q hq).1
 have hfp:∀ q∈F.pl,(fA K F v).own q.1=q.2:=fun q hq=>by
  have QU:q.1 ∉ aa6 K v:=fun hm=>by
   have:=tj s2 _ hm
   rw[bw.2 (iQ hq)]at this;cases this
  show look .none (_++F.pl) q.1=_
  rw[mY.2 QU]
  obtain ⟨a,h1,h2⟩:=oL (e:=aK.none) (iQ hq)
  have c1:S1.own q.1=a:=gj.2.2 (q.1,a) h1
  rw[h2,← c1]
  exact gj.2.2 q hq
 refine ⟨h',tD.trans hpf.symm,hw0.trans (hw (fA K F v) rfl ?_ ?_),fun g hg=>?_,fun q hq=>⟨MH q hq,(hi.2.1 q hq).2⟩,hfp⟩
 ·intro κ γ sv i x hr MF
  by_cases hk:i∈keys (gv K.sl v.1)
  ·have e1:(fA K F v).get i=look .undef (gv K.sl v.1) i:=mY.1 hk
   rw[e1];exact MF
  ·by_cases di:i∈keys F.sl
   ·have e1:(fA K F v).get i=look .undef F.sl i:=mY.2 hk
    obtain ⟨a,h1,h2⟩:=oL (e:=I.undef) di
    obtain ⟨c1,c2⟩:=gj.2.1 (i,a) h1
    simp only at c1
    rw[e1,h2]
    rw[c1,ig h h' a c2]at hr
    exact hr
   ·have e1:(fA K F v).get i=look .undef F.sl i:=mY.2 hk
    rw[e1,xF di];exact .undef _
 ·intro κ γ sv s MF
  by_cases hk:s∈aa6 K v
  ·have e1:(fA K F v).own s=look .none (Bn K.bx v.2++(Gu K.sl v.1++Gt K.bx v.2)) s:=mY.1 hk
   rw[e1];exact MF
  ·have e1:(fA K F v).own s=look .none F.pl s:=mY.2 hk
   by_cases di:s∈keys F.pl
   ·obtain ⟨a,h1,h2⟩:=oL (e:=aK.none) di
    have c1:=gj.2.2 (s,a) h1
    simp only at c1
    have pR:s ∉ sj (uO S1 K.sl++uN S1 K.bx):=fun hm=>by
     have:=tj QV _ hm
     rw[bw.2 di]at this;cases this
    rw[e1,h2,IT _ _ _ pR,c1,abp h h' (uY hF (s,a) h1)]
    exact .same _
   ·rw[e1,xF di];exact .none _
 ·have:=gj.1 g hg
  have hn:bc g (J4 K S1)=false:=by
   cases hm:bc g (J4 K S1) with
   |false=>rfl
   |true=>have:=tj hp1 g (bw.1 hm);rw[bw.2 hg]at this;cases this
  have e:=hh0 g hn
  rw[← this,← e];rfl
def UD (S:IS) (i q:Nat) (o:aK):Ef:=⟨some i,.os q (S.gen q+1),some (q,S.gen q+1),some (q,o)⟩
def UE (p:Nat):Ef:=⟨none,.undef,none,some (p,.none)⟩
def wj (ba:List Nat) (F:Fix):List (Nat×Sh)→IS→(IS→Option R)→Option R
 |[],S,k=>k S
 |(i,.os q _ _)::l,S,k=>(match S.get i with
  |.os p g=>bif Nat.beq p q then wj ba F l S k else (match S.own p with
   |.arr E e m=>ao (Nat.beq g (S.gen p)&&Nat.blt p XB&&Nat.blt q XB&&gP ba F (UD S i q (.arr E e m))&&gP ba F (UE p)) (wj ba F l ((S.dE (UD S i q (.arr E e m))).dE (UE p)) k)
   |_=>wj ba F l S k)
  |_=>wj ba F l S k)
 |(i,.vn _)::l,S,k=>(match S.get i with
  |.os s _=>pN F S (dW S [s]) (fun S'=>match S'.get i with
   |.sl t m=>ao (!(bc i (keys F.sl))) (ao (!m.isEmpty) (wj ba F l (S'.set i (.ft t m)) k))
   |_=>none)
  |.sl t m=>ao (!(bc i (keys F.sl))) (ao (!m.isEmpty) (wj ba F l (S.set i (.ft t m)) k))
  |_=>wj ba F l S k)
 |_::l,S,k=>wj ba F l S k
theorem ZK {h:Nat→Nat}{S:IS}{i:Nat}{t:T}{m:List (den t)} (hg:S.get i=.sl t m) (hm:(!m.isEmpty)=true):Wk X (S.toSt h) ((S.set i (.ft t m)).toSt h):=by
 have e:(S.set i (.ft t m)).toSt h=S.toSt h:=by
  rw[jF]
  unfold St.set
  have:aG (S.toSt h).ρ i ((I.ft t m).toD h)=(S.toSt h).ρ:=by
   funext j
   by_cases e:j=i
   ·subst e
    rw[aC]
    show RJ t m=(S.get j).toD h
    rw[hg]
    cases m with
    |nil=>cases hm
    |cons=>rfl
   ·rw[bh _ _ _ _ e]
  rw[this]
 rw[e]
 exact Wk.refl _ _
theorem ams {X:Ctx} (hX:vm X) {h:Nat→Nat}{S:IS}{i p q g E:Nat}{e:T}{m:List (den e)} (hg:S.get i=.os p g) (arP:g=S.gen p) (cx:p≠q) (aF:S.own p=.arr E e m) (hp:p<XB) (hq:q<XB) :
  Wk X (S.toSt h) (((S.dE (UD S i q (.arr E e m))).dE (UE p)).toSt h):=by
 have hxp:X.xa p=false:=by
  cases hh:X.xa p with
  |false=>rfl
  |true=>exact absurd (hX p hh) (by omega)
 have hxq:X.xa q=false:=by
  cases hh:X.xa q with
  |false=>rfl
  |true=>exact absurd (hX q hh) (by omega)
 have key:=ap7 (X:=X) (S:=S.toSt h) (t:=i) (p:=p) (q:=q) (g:=h p+g) (E:=E) (z:=sz e) (n:=m.length) (f:=fun i=>bN e (m.getD i (bY e))) cx (by show (S.get i).toD h=_;rw[hg];rfl) (by show h p+S.gen p=_;rw[arP]) (by show (S.own p).toOwn h=_;rw[aF];rfl) hxp hxq
 have e:(((S.dE (UD S i q (.arr E e m))).dE (UE p)).toSt h)=⟨aG (S.toSt h).ρ i (.os q ((S.toSt h).γ q+1)),aG (S.toSt h).γ q ((S.toSt h).γ q+1),aG (aG (S.toSt h).σ q (.arr E (sz e) m.length fun i=>bN e (m.getD i (bY e)))) p .none⟩:=by
  rw[fe,fe]
  rfl
 rw[e]
 exact key
theorem wm {p:List Nat}{g0:Nat→Nat}{F:Fix} (hF:okF F=true) {h:Nat→Nat}{k:IS→Option R}:∀ (l:List (Nat×Sh)) (S:IS),Inv p g0 F h S→wj p F l S k=some r→∃ S',k S'=some r∧(∀ X:Ctx,vm X→Wk X (S.toSt h) (S'.toSt h))∧Inv p g0 F h S'
 |[],S,hi,hr=>⟨S,hr,fun X _=>Wk.refl _ _,hi⟩
 |(i,sh)::l,S,hi,hr=>by
  have key:wj p F l S k=some r→∃ S',k S'=some r∧(∀ X:Ctx,vm X→Wk X (S.toSt h) (S'.toSt h))∧Inv p g0 F h S':=fun hr=>wm hF l S hi hr
  cases sh with
  |os q E0 t0 =>
   simp only[wj]at hr
   split at hr
   ·rename_i p1 g hg
    cases hb:Nat.beq p1 q with
    |true=>rw[hb]at hr;exact key hr
    |false =>
     rw[hb]at hr
     simp only[cond_false]at hr
     split at hr
     ·rename_i E e m aF
      obtain ⟨hc,hr⟩:=aq hr
      simp only[Bool.and_eq_true]at hc
      obtain ⟨⟨⟨⟨c1,c2⟩,c3⟩,c4⟩,c5⟩:=hc
      obtain ⟨S',h1,h2,h3⟩:=wm hF l _ ((hi.dE c4).dE c5) hr
      exact⟨S',h1,fun X hX=>(ams hX hg (Nat.eq_of_beq_eq_true c1) (fun e=>by rw[e,Nat.beq_refl]at hb;cases hb) aF (by have:=Nat.blt_eq.mp c2;omega) (by have:=Nat.blt_eq.mp c3;omega)).trans (h2 X hX),h3⟩
     ·exact key hr
   ·exact key hr
  |vn t0 =>
   simp only[wj]at hr
   split at hr
   ·rename_i s g hg
    unfold pN at hr
    obtain ⟨ob,hr⟩:=aq hr
    have gj:=hi.gw hF ob
    simp only at hr
    split at hr
    ·rename_i t m Ci
     obtain ⟨hk,hr⟩:=aq hr
     obtain ⟨hm,hr⟩:=aq hr
     obtain ⟨S',h1,h2,h3⟩:=wm hF l _ (gj.set (by simpa using hk) _) hr
     exact⟨S',h1,fun X hX=>((lz _ S (uE hX ob)).trans (ZK Ci hm)).trans (h2 X hX),h3⟩
    ·cases hr
   ·rename_i t m hg
    obtain ⟨hk,hr⟩:=aq hr
    obtain ⟨hm,hr⟩:=aq hr
    obtain ⟨S',h1,h2,h3⟩:=wm hF l _ (hi.set (by simpa using hk) _) hr
    exact⟨S',h1,fun X hX=>(ZK hg hm).trans (h2 X hX),h3⟩
   ·exact key hr
  |_=>exact key hr
def nB (p:List Nat) (F:Fix) (K:k5) (k:K.V→Option R) (S:IS):Option R:=wj p F K.sl S fun S=>match aar p F K S with
 |some v=>(match aca K F v with|true=>k v|false=>none)
 |none=>none
def sA (S:IS):List Nat→List I→IS
 |t::ts,d::ds=>sA (S.set t d) ts ds
 |_,_=>S
def rK:List (Nat×Sh)→Bool
 |[]=>true
 |(_,.bx _ _)::l=>rK l
 |_=>false
def ta:List (Nat×Sh)→List Nat
 |[]=>[]
 |(_,.bx s _)::l=>s::ta l
 |_::l=>ta l
def lN (F:Fix):List Nat→Bool
 |[]=>true
 |t::l=>!(bc t (keys F.sl))&&lN F l
def bJ.inner (E:bJ Z) (K:k5):bJ Z:={ E with rf:=false,ba:=ta K.sl++E.ba }
def Nj:List (Nat×Sh)→IS→List (Nat×I)
 |(i,.bx s o)::l,S=>(i,.bx s (S.gen s) o)::Nj l S
 |_,_=>[]
def rQ (K:k5) (F:Fix) (S:IS):IS:=⟨Nj K.sl S++F.sl,S.gs,S.os⟩
def adF:List I→Nat→Option Nat
 |[],_=>none
 |.os _ _::_,j=>some j
 |_::l,j=>adF l (j+1)
def Hy (F:Fix) (S:IS) (p:Nat) (k:IS→Option R):Option R:=match S.own p with
 |.vp E t l i row=>(match adF row 0 with
  |some j=>(match nth row j with
   |some (.os s g)=>(match S.own s with
    |.arr _ e m=>(match eZ row j [.sl e m] with
     |some Vj=>(match ew t Vj with
      |some x=>ao (Nat.beq g (S.gen s)&&!(Nat.beq p s)&&fL Vj&&!(bc p (keys F.pl))&&!(bc s (keys F.pl))&&Nat.blt s XB) (ao (decide (i<l.length)) (k ⟨S.rs,S.gs,(p,.arr E t (l.set i x))::(s,.none)::S.os⟩))
      |none=>none)
     |none=>none)
    |_=>none)
   |_=>none)
  |none=>none)
 |_=>k S
def Hz (F:Fix):List Nat→IS→(IS→Option R)→Option R
 |[],S,k=>k S
 |p::l,S,k=>Hy F S p (fun S'=>Hz F l S' k)
def settle (F:Fix) (k:IS→Option R) (S:IS):Option R:=Hz F (keys S.os) S k
theorem Vo {F:Fix}{S:IS}{p:Nat}{k:IS→Option R}{h:Nat→Nat} (hr:Hy F S p k=some r):∃ S',k S'=some r∧(∀ X:Ctx,vm X→Wk X (S.toSt h) (S'.toSt h))∧∀ q g0,Inv q g0 F h S→Inv q g0 F h S':=by
 unfold Hy at hr
 split at hr
 ·rename_i E t l i row hp
  split at hr
  ·rename_i j _
   split at hr
   ·rename_i s g hj
    split at hr
    ·rename_i E' e m hs
     split at hr
     ·rename_i Vj tG
      split at hr
      ·rename_i x hx
       obtain ⟨hc,hr⟩:=aq hr
       obtain ⟨hi,hr⟩:=aq hr
       simp only[Bool.and_eq_true,Bool.not_eq_true',decide_eq_true_eq]at hc hi
       obtain ⟨⟨⟨⟨⟨c1,c2⟩,c3⟩,c4⟩,c5⟩,c6⟩:=hc
       have e1:=Nat.eq_of_beq_eq_true c1
       have Iq:=ie (cM t hx) c3
       refine ⟨_,hr,fun X wg=>?_,fun q g0 df=>⟨df.1,df.2.1,fun w hw=>?_⟩⟩
       ·have h1:(S.toSt h).σ p=.arr E (sz t) l.length (qn (fun i=>bN t (l.getD i (bY t))) i (I.al h row)):=by
         show (S.own p).toOwn h=_
         rw[hp];rfl
        have h2:(S.toSt h).σ s=.arr E' (sz e) m.length (fun i=>bN e (m.getD i (bY e))):=by
         show (S.own s).toOwn h=_
         rw[hs];rfl
        have h3:(S.toSt h).γ s=h s+g:=by
         show h s+S.gen s=_
         rw[e1]
        have hw:=HG (X:=X) (S:=S.toSt h) p i j (g:=h s+g) (WV:=fun k=>bN t ((l.set i x).getD k (bY t))) h1 c2 hi (I5 _ _ _) (jT h hj) h3 h2 (l':=I.al h Vj) (nh h tG) (fun k hk=>by
         by_cases e2:k=i
         ·subst e2
          rw[if_pos rfl,List.getD_eq_getElem?_getD,List.getElem?_set_self hi,Iq,bd];rfl
         ·rw[if_neg e2,RT _ _ e2,List.getD_eq_getElem?_getD,List.getD_eq_getElem?_getD,List.getElem?_set_ne (fun h=>e2 h.symm)]) (by
         cases hx2:X.xa s with
         |false=>rfl
         |true=>have:=wg s hx2;rw[Nat.blt_eq]at c6;omega)
        have e3:(⟨(S.toSt h).ρ,(S.toSt h).γ,aG (aG (S.toSt h).σ s .none) p (.arr E (sz t) l.length (fun k=>bN t ((l.set i x).getD k (bY t))))⟩:St)=IS.toSt h ⟨S.rs,S.gs,(p,.arr E t (l.set i x))::(s,.none)::S.os⟩:=by
         unfold IS.toSt
         congr 1
         funext q
         show _=(look .none ((p,.arr E t (l.set i x))::(s,.none)::S.os) q).toOwn h
         simp only[kE,jL,kF,aG]
         cases Nat.beq q p with
         |true=>simp only[cond_true,aK.toOwn,List.length_set]
         |false=>cases Nat.beq q s<;>rfl
        rw[e3]at hw
        exact hw
       ·have:=df.2.2 w hw
        have cx:∀ a,bc a (keys F.pl)=false→w.1≠a:=fun a ha e=>by
         have h5:=bw.2 (iQ hw)
         rw[e,ha]at h5;cases h5
        show look .none ((p,_)::(s,.none)::S.os) w.1=_
        rw[eT (cx p c4),eT (cx s c5)]
        exact this
      ·cases hr
     ·cases hr
    ·cases hr
   ·cases hr
  ·cases hr
 ·exact⟨S,hr,fun X _=>Wk.refl _ _,fun _ _ h=>h⟩
theorem sQ {F:Fix}{h:Nat→Nat}{k:IS→Option R}:∀ {l:List Nat}{S:IS},Hz F l S k=some r→∃ S',k S'=some r∧(∀ X:Ctx,vm X→Wk X (S.toSt h) (S'.toSt h))∧∀ q g0,Inv q g0 F h S→Inv q g0 F h S'
 |[],S,hr=>⟨S,hr,fun X _=>Wk.refl _ _,fun _ _ h=>h⟩
 |p::l,S,hr=>by
  obtain ⟨S1,h1,h2,h3⟩:=Vo (h:=h) hr
  obtain ⟨S2,h4,h5,h6⟩:=sQ (h:=h) h1
  exact⟨S2,h4,fun X hx=>(h2 X hx).trans (h5 X hx),fun q g0 hi=>h6 q g0 (h3 q g0 hi)⟩
theorem KO {X:Ctx}{c:Code}{Q Q':Exit→St→Prop}{S:St} (hc:W X c Q' S) (hq:∀ e T,Q' e T→∃ T',Wk X T T'∧Q e T'):W X c Q S:=fun κ sv a w hs=>by
 refine wpIn_mono (hc κ sv a w hs) ?_
 rintro e a' W' ⟨aA,aQ,S',h1,h2⟩
 obtain ⟨T',hw,fy⟩:=hq e S' h2
 obtain ⟨fh,fI,h3⟩:=hw aA aQ a' W' h1
 exact⟨fh,fI,T',h3,fy⟩
def aab:List I→(Nat→Nat→Option R)→Option R
 |[.bx s g 0],k=>k s g
 |_,_=>none
theorem aeX {l:List I}{k:Nat→Nat→Option R} (h:aab l k=some r):∃ s g,l=[.bx s g 0]∧k s g=some r:=by
 unfold aab at h
 split at h
 ·exact⟨_,_,rfl,h⟩
 ·cases h
def Su:aK→(List I→Option R)→Option R
 |.box l,k=>k l
 |_,_=>none
theorem PI {o:aK}{k:List I→Option R} (h:Su o k=some r):∃ l,o=.box l∧k l=some r:=by
 unfold Su at h
 split at h
 ·exact⟨_,rfl,h⟩
 ·cases h
mutual
def De (p g:Nat) (m:List I):I→I
 |.bx s g' o=>bif Nat.beq s p&&Nat.beq g' g then .rp m o else .bx s g' o
 |.agg l=>.agg (vw p g m l)
 |.bn l=>.bn (vw p g m l)
 |.fn f c=>.fn f (vw p g m c)
 |.os s g=>.os s g
 |.mf f c=>.mf f c
 |.int k n=>.int k n
 |.bool b=>.bool b
 |.str b=>.str b
 |.sl t l=>.sl t l
 |.ft t l=>.ft t l
 |.nil=>.nil
 |.rp l o=>.rp l o
 |.mb s g T=>.mb s g T
 |.op s g z i o=>.op s g z i o
 |.ow s g z a m=>.ow s g z a m
 |.yl l=>.yl l
 |.one=>.one
 |.lk c=>.lk c
 |.er b=>.er b
 |.undef=>.undef
def vw (p g:Nat) (m:List I):List I→List I
 |[]=>[]
 |x::l=>De p g m x::vw p g m l
end
def ajo (p g:Nat) (m:List I):aK→aK
 |.box l=>.box (vw p g m l)
 |o=>o
def Mt (S:IS) (p:Nat):IS:=match S.own p with
 |.box m=>⟨gz (De p (S.gen p) m) S.rs,S.gs,(p,.none)::gz (ajo p (S.gen p) m) S.os⟩
 |_=>S
section
variable {κ:Nat→Nat→Option Value}{γ:Nat→Nat}{sv:Nat→Value}{h:Nat→Nat}
mutual
theorem QD {p g:Nat}{m:List I} (hd:∀ o v,aW κ γ sv (.bx p (h p+g) o) v→aW κ γ sv (.rp (I.al h m) o) v):∀ {x:I}{v:Value},aW κ γ sv (x.toD h) v→aW κ γ sv ((De p g m x).toD h) v
 |.bx s g' o,v,hr=>by
  simp only[De]
  cases hb:Nat.beq s p&&Nat.beq g' g with
  |false=>exact hr
  |true =>
   simp only[Bool.and_eq_true]at hb
   have e1:=Nat.eq_of_beq_eq_true hb.1
   have e2:=Nat.eq_of_beq_eq_true hb.2
   subst e1 e2
   exact hd o v hr
 |.agg l,v,hr=>by
  cases hr with
  |agg _ vs hl=>exact .agg _ vs (tu hd hl)
 |.bn l,v,hr=>by
  cases hr with
  |bn _ vs hl=>exact .bn _ vs (tu hd hl)
 |.fn f c,v,hr=>by
  cases hr with
  |fn _ _ vs hl=>exact .fn _ _ vs (tu hd hl)
 |.os _ _,_,hr=>hr|.mf _ _,_,hr=>hr|.int _ _,_,hr=>hr|.bool _,_,hr=>hr|.str _,_,hr=>hr|.sl _ _,_,hr=>hr|.ft _ _,_,hr=>hr|.nil,_,hr=>hr|.rp _ _,_,hr=>hr|.mb _ _ _,_,hr=>hr|.op _ _ _ _ _,_,hr=>hr|.ow _ _ _ _ _,_,hr=>hr|.yl _,_,hr=>hr|.one,_,hr=>hr|.lk _,_,hr=>hr|.er _,_,hr=>hr|.undef,_,hr=>hr
theorem tu {p g:Nat}{m:List I} (hd:∀ o v,aW κ γ sv (.bx p (h p+g) o) v→aW κ γ sv (.rp (I.al h m) o) v):∀ {l:List I}{vs:List Value},aD κ γ sv (I.al h l) vs→aD κ γ sv (I.al h (vw p g m l)) vs
 |[],_,hr=>hr
 |x::l,_,.cons _ v _ vs h1 h2=>.cons _ _ _ _ (QD hd h1) (tu hd h2)
end
theorem Ih (p g:Nat) (m:List I):∀ (l:List I),pD l=true→pD (vw p g m l)=true
 |[],_=>rfl
 |x::l,hc=>by
  simp only[pD,vw,Bool.and_eq_true]at hc ⊢
  refine ⟨?_,Ih p g m l hc.2⟩
  cases x<;>try exact hc.1
  rename_i s g' o
  simp only[De]
  cases Nat.beq s p&&Nat.beq g' g<;>rfl
end
theorem afS (p g:Nat) (m l:List I):Ae (vw p g m l)=Ae l:=by
 cases l with
 |nil=>rfl
 |cons x l =>
  cases x<;>try rfl
  rename_i s g' o
  simp only[vw,De]
  cases Nat.beq s p&&Nat.beq g' g<;>rfl
theorem afQ {X:Ctx} (hx:X.ext=none∧∀ b,¬ X.ex b) {h:Nat→Nat}{S:IS} (p:Nat):Wk X (S.toSt h) ((Mt S p).toSt h):=by
 unfold Mt
 split
 ·rename_i m aF
  intro κ sv a w hs
  have qU:(S.toSt h).σ p=.box (I.al h m):=by
   show (S.own p).toOwn h=_
   rw[aF];rfl
  have hle:=rO hs.aJ p
  have ee:∀ b,aL ((S.toSt h).σ p) (sv p)=some b→X.w0.heap.size≤b:=fun b hb=>(hs.aJ.oI p b hb).resolve_right (fun h=>h.elim (fun h=>by rw[hx.1]at h;cases h) (hx.2 b))
  have hW:=hs.aJ.freeze p ee (S.toSt h).ρ
  have Un:=bk.mk (X:=X) (S:=⟨(S.toSt h).ρ,(S.toSt h).γ,aG (S.toSt h).σ p .none⟩) hs.size hs.defers (fun i hi=>(hs.slot i hi).mono hle) hW
  have aP:=hs.aJ.own p
  rw[qU]at aP
  obtain ⟨b,T,cs,e1,e2,e3,e4⟩:=aP
  have hd:∀ o v,aW (fun b o=>if aL ((S.toSt h).σ p) (sv p)=some b then w.cell? ⟨b,o,none⟩ else κ b o) (S.toSt h).γ sv (.bx p (h p+S.gen p) o) v→aW (fun b o=>if aL ((S.toSt h).σ p) (sv p)=some b then w.cell? ⟨b,o,none⟩ else κ b o) (S.toSt h).γ sv (.rp (I.al h m) o) v:=fun o v hr=>by
   cases hr with
   |bx _ _ _ _ _ hh _ =>
    obtain ⟨b',h5,rfl⟩:=hh rfl
    rw[e1]at h5
    simp only[Value.pointer.injEq,Option.some.injEq,Addr.mk.injEq,and_true]at h5
    subst h5
    have:=aW.rp (κ:=fun b o=>if aL ((S.toSt h).σ p) (sv p)=some b then w.cell? ⟨b,o,none⟩ else κ b o) (γ:=(S.toSt h).γ) (sv:=sv) (I.al h m) o b 0 cs e4.1 (e3.mono hle) (fun j v hj=>by
     have hb:aL ((S.toSt h).σ p) (sv p)=some b:=by rw[qU,e1];rfl
     simp only[hb,if_true]
     rw[cell_of_row w b _ _ _ _ e2,Nat.zero_add];simpa using hj)
    simpa using this
  refine ⟨_,sv,DO (S':=IS.toSt h ⟨gz (De p (S.gen p) m) S.rs,S.gs,(p,.none)::gz (ajo p (S.gen p) m) S.os⟩) Un rfl (fun i v hr=>?_) (fun s=>?_)⟩
  ·show aW _ _ _ (I.toD h (look .undef (gz _ S.rs) i)) v
   rw[iR rfl]
   exact QD hd hr
  ·show gY _ _ _ (aG (S.toSt h).σ p .none s) ((look .none ((p,.none)::gz _ S.os) s).toOwn h)
   simp only[kE,jL,kF,aG]
   cases hb:Nat.beq s p with
   |true=>exact .none _
   |false =>
    simp only[cond_false]
    rw[iR rfl]
    show gY _ _ _ ((look .none S.os s).toOwn h) _
    cases hw:look aK.none S.os s with
    |none=>exact .same _
    |arr=>exact .same _
    |vp=>exact .same _
    |mp=>exact .same _
    |qa=>exact .same _
    |jM=>exact .same _
    |si=>exact .same _
    |box l =>
     refine .box _ _ ?_ (fun T0 e=>by rw[sW]at e ⊢;rwa [afS _ _ m l]at e) (fun cs jZ=>tu hd jZ)
     rw[ji]
     refine Ih _ _ m l ?_
     have ho:=hs.aJ.own s
     have e1:(S.toSt h).σ s=.box (I.al h l):=by
      show (look aK.none S.os s).toOwn h=_
      rw[hw];rfl
     rw[e1]at ho
     obtain ⟨_,_,_,_,_,_,h4⟩:=ho
     rw[← ji h];exact h4.1
 ·exact Wk.refl _ _
def Xz (S:IS):List Nat→IS
 |[]=>S
 |p::l=>Xz (Mt S p) l
theorem XC {X:Ctx} (hx:X.ext=none∧∀ b,¬ X.ex b) {h:Nat→Nat}:∀ (l:List Nat) (S:IS),Wk X (S.toSt h) ((Xz S l).toSt h)
 |[],S=>Wk.refl _ _
 |p::l,S=>(afQ hx p).trans (XC hx l _)
theorem XA:∀ (l:List Nat) (S:IS),(Xz S l).gs=S.gs
 |[],S=>rfl
 |p::l,S=>by
  show (Xz (Mt S p) l).gs=_
  rw[XA l]
  unfold Mt
  split<;>rfl
def nE1 (S:IS) (s E:Nat) (t:T):Ef:=⟨none,.undef,some (s,S.gen s+1),some (s,.arr E t [])⟩
def nc (p:List Nat) (F:Fix):List (Nat×Sh)→IS→(IS→Option R)→Option R
 |[],S,k=>k S
 |(c,.os s E t)::l,S,k=>Su (S.own (c / 64)) fun m=>(match nth m (c % 64),eZ m (c % 64) [.os s (S.gen s+1)] with
  |some .nil,some m'=>ao (!(Nat.beq (c / 64) s)&&Us (S.own s)&&gP p F (nE1 S s E t)&&gP p F (po (c / 64) (.box m'))) (nc p F l ((S.dE (nE1 S s E t)).dE (po (c / 64) (.box m'))) k)
  |_,_=>none)
 |_,_,_=>none
theorem Rc {p:List Nat}{g0:Nat→Nat}{F:Fix}{h:Nat→Nat}{k:IS→Option R}:∀ {l:List (Nat×Sh)}{S:IS},Inv p g0 F h S→nc p F l S k=some r→∃ S',k S'=some r∧(∀ X,Wk X (S.toSt h) (S'.toSt h))∧Inv p g0 F h S'
 |[],S,hi,hr=>⟨S,hr,fun X=>Wk.refl _ _,hi⟩
 |(c,.os s E t)::l,S,hi,hr=>by
  simp only[nc]at hr
  obtain ⟨m,hm,hr⟩:=PI hr
  split at hr
  ·rename_i m' hn hov
   obtain ⟨hc,hr⟩:=aq hr
   simp only[Bool.and_eq_true,Bool.not_eq_true']at hc
   obtain ⟨⟨⟨c1,c2⟩,c3⟩,c4⟩:=hc
   obtain ⟨S',h1,h2,h3⟩:=Rc ((hi.dE c3).dE c4) hr
   refine ⟨S',h1,fun X=>Wk.trans ?_ (h2 X),h3⟩
   have pQ:(S.toSt h).σ s=.none:=by
    show (S.own s).toOwn h=.none
    cases hw:S.own s with
    |none=>rfl
    |_=>rw[hw]at c2;cases c2
   have pP:(S.toSt h).σ (c / 64)=.box (I.al h m):=by
    show (S.own (c / 64)).toOwn h=_
    rw[hm];rfl
   have:=RU (X:=X) (S:=S.toSt h) (c / 64) (c % 64) s E (sz t) (fun i=>bN t (([]:List (den t)).getD i (bY t))) pP c1 pQ (jT h hn) (l':=I.al h m') (by
    have:=nh h hov
    exact this)
   rw[fe,fe]
   exact this
  ·cases hr
 |(c,.v _)::l,S,hi,hr=>by simp only[nc]at hr;cases hr
 |(c,.bx _ _)::l,S,hi,hr=>by simp only[nc]at hr;cases hr
 |(c,.gV _)::l,S,hi,hr=>by simp only[nc]at hr;cases hr
 |(c,.mb _ _)::l,S,hi,hr=>by simp only[nc]at hr;cases hr
 |(c,.sD _ _)::l,S,hi,hr=>by simp only[nc]at hr;cases hr
 |(c,.zG _ _)::l,S,hi,hr=>by simp only[nc]at hr;cases hr
 |(c,.mp _)::l,S,hi,hr=>by simp only[nc]at hr;cases hr
 |(c,.vn _)::l,S,hi,hr=>by simp only[nc]at hr;cases hr
 |(c,.jf)::l,S,hi,hr=>by simp only[nc]at hr;cases hr
 |(c,.jM _)::l,S,hi,hr=>by simp only[nc]at hr;cases hr
 |(c,.si _)::l,S,hi,hr=>by simp only[nc]at hr;cases hr
 |(c,.yl _)::l,S,hi,hr=>by simp only[nc]at hr;cases hr
 |(c,.any)::l,S,hi,hr=>by simp only[nc]at hr;cases hr
def Gl (X:Ctx):Prop:=∃ Z nt w0 fg,X=Ctx.plain Z nt w0 fg none
def aaC (E:bJ Z) (F:Fix) (l:List Nat) (S:IS) (k:IS→Option R):Option R:=bif l.isEmpty then k S else ao (E.rf&&F.sl.isEmpty&&F.pl.isEmpty) (k (Xz S l))
def Vb (E:bJ Z) (id:Nat) (F:Fix) (S:IS) (k:IS→Option R):Option R:=match find E.lp (1000000+id) with
 |some L=>pN F S L.cp (fun S=>aaC E F L.cs S (fun S=>nc E.ba F L.K.sl S k))
 |none=>k S
theorem afR {g0:Nat→Nat}{E:bJ Z} (dY:E.rf=true→Gl X) {F:Fix}{l:List Nat}{S:IS}{k:IS→Option R}{h:Nat→Nat} (hi:Inv E.ba g0 F h S) (hr:aaC E F l S k=some r) :
  ∃ S',k S'=some r∧Wk X (S.toSt h) (S'.toSt h)∧Inv E.ba g0 F h S':=by
 unfold aaC at hr
 cases he:l.isEmpty with
 |true=>rw[he]at hr;exact⟨S,hr,Wk.refl _ _,hi⟩
 |false =>
  rw[he]at hr
  obtain ⟨hc,Co⟩:=aq hr
  simp only[Bool.and_eq_true]at hc
  obtain ⟨⟨Fi,hF1⟩,hF2⟩:=hc
  obtain ⟨Zs,Re,w0,fg,rfl⟩:=dY Fi
  obtain ⟨Fs,Fp⟩:=F
  have e1:Fs=[]:=by simpa using hF1
  have e2:Fp=[]:=by simpa using hF2
  subst e1
  subst e2
  refine ⟨_,Co,XC ⟨rfl,fun _ h=>h⟩ l S,fun s hs=>?_,fun p hp=>(nomatch hp),fun p hp=>(nomatch hp)⟩
  have:=hi.1 s hs
  simp only[IS.gen,XA]at this ⊢
  exact this
theorem agL {g0:Nat→Nat}{E:bJ Z}{nt:Nat} (hX:At X Z nt) (dY:E.rf=true→Gl X) {id:Nat}{F:Fix}{S:IS}{k:IS→Option R}{h:Nat→Nat} (hF:okF F=true) (hi:Inv E.ba g0 F h S) (hr:Vb E id F S k=some r) :
  ∃ S',k S'=some r∧Wk X (S.toSt h) (S'.toSt h)∧Inv E.ba g0 F h S':=by
 unfold Vb at hr
 split at hr
 ·unfold pN at hr
  obtain ⟨hz,hr⟩:=aq hr
  obtain ⟨S1,hr,w1,i1⟩:=afR dY (hi.gw hF hz) hr
  obtain ⟨S2,hr,w2,i2⟩:=Rc i1 hr
  exact⟨S2,hr,((lz _ _ (uE hX.xa hz)).trans w1).trans (w2 X),i2⟩
 ·exact⟨S,hr,Wk.refl _ _,hi⟩
def abv (S:IS) (d:I):Bool:=match d with
 |.bx s g _=>Nat.beq g (S.gen s)
 |.os s g=>Nat.beq g (S.gen s)
 |d=>eA d
def UH (S:IS):List I→Bool
 |[]=>true
 |d::l=>abv S d&&UH S l
def abw (S:IS) (d:I):Bool:=match d with
 |.fn _ l=>UH S l
 |d=>abv S d
def tO (S:IS) (d:I):I:=bif abw S d then d else .undef
def rb1 (S:IS) (d:I):I:=match d with
 |.bx s _ o=>.bx s (S.gen s) o
 |.os s _=>.os s (S.gen s)
 |d=>d
def Zh (S:IS):List I→List I
 |[]=>[]
 |d::l=>rb1 S d::Zh S l
def rbR (S:IS) (d:I):I:=match d with
 |.fn f l=>.fn f (Zh S l)
 |d=>rb1 S d
def bp1 (d:I):List Nat:=match d with
 |.bx s _ _=>[s]
 |.os s _=>[s]
 |_=>[]
def bpL:List I→List Nat
 |[]=>[]
 |d::l=>bp1 d++bpL l
def bpR (d:I):List Nat:=match d with
 |.fn _ l=>bpL l
 |d=>bp1 d
def plR:List (Nat×I)→List Nat
 |[]=>[]
 |(_,d)::l=>bpR d++plR l
def eD (S:IS):IS:=⟨gz (tO S) S.rs,S.gs,S.os⟩
def lv (K S:IS):IS:=⟨gz (rbR S) K.rs,S.gs,S.os⟩
def bJ.inr (E:bJ Z) (K:IS):bJ Z:={ E with rf:=false,ba:=plR K.rs++E.ba }
def yV (n:Nat):List (List I)→Bool
 |[]=>true
 |a::l=>Nat.beq a.length n&&yV n l
theorem HM {n:Nat}:∀ {l:List (List I)},yV n l=true→∀ k,k<l.length→(Cr l k).length=n
 |a::l,h,0,_=>by
  simp only[yV,Bool.and_eq_true]at h
  show (I.al zh a).length=n
  rw[fc];exact Nat.eq_of_beq_eq_true h.1
 |a::l,h,k+1,hk=>by
  simp only[yV,Bool.and_eq_true]at h
  have:=HM h.2 k (by simpa using hk)
  rw[← this];rfl
def ab4 (Z:aX) (E:bJ Z) (K:IS) (g:Operand) (k:iG Z.toSeat→List I→IS→Option R):Option R:=match K.ev Z E.nt g with
 |.fn gf cap=>(match JM E.FJ gf with
  |some sp=>(match sp.own with
   |true=>aab cap fun s g0=>live K s g0 (Su (K.own s) fun l=>ao (bV l) (k sp l (lv K ⟨K.rs,K.gs,(s,.none)::K.os⟩)))
   |false=>ao (bV cap) (k sp cap (lv K K)))
  |none=>none)
 |_=>none
def fC (it:It R):bJ Z→Code→Fix→IS→(IS→Option R)→(Option Nat→IS→Option R)→Option R
 |_,.skip,_,S,kn,_=>kn S
 |E,.region id ops draw,F,S,kn,_=>Vb E id F S (fun S'=>bif draw then su E.toCEnv F ops ops.toList S' [] (settle F kn) else ue E.toCEnv F ops ops.toList S' kn)
 |E,.seq a b,F,S,kn,kx=>fC it E a F S (fun S'=>fC it E b F S' kn kx) kx
 |E,.cond c a b,F,S,kn,kx=>(match S.ev Z E.nt c with
  |.bool v=>bif v then fC it E a F S kn kx else fC it E b F S kn kx
  |_=>none)
 |E,.block id b,F,S,kn,kx=>fC it E b F S kn (inB id kn kx)
 |_,.exit id,_,S,_,kx=>kx (some id) S
 |_,.ret,_,S,_,kx=>kx none S
 |E,.scope b,F,S,kn,kx=>fC it E b F S kn kx
 |_,.label _,_,S,kn,_=>kn S
 |E,.loop b,F,S,_,kx=>(match JO E.lp (BP b) S with
  |some L=>(match Ld F L S with
   |some F'=>nB E.ba F' L.K (it L.K.V (fun v kn=>fC it E b F' (fA L.K F' v) (nB E.ba F' L.K kn) kx)) S
   |none=>none)
  |none=>it IS (fun S kn=>fC it E b F S kn kx) S)
 |E,.rangeFunc g ps assign body,F,S,kn,kx=>ao E.rf (match JO E.lp (BP assign) S with
  |some L=>(match Ld F L S with
   |some F'=>nB E.ba F' L.K (fun v=>(match (fA L.K F' v).ev Z E.nt g with
    |.fn gf cap=>(match JL E.FI gf with
     |some sp=>ao (rK L.K.sl&&Nat.beq ps.toList.length sp.bE.length&&lN F' ps.toList&&lN F' (keys L.K.sl)) (sp.app cap (fun items=>it (L.K.V×List (aE sp.bE)) (fun x wi=>match x.2 with
      |[]=>kn (fA L.K F' x.1)
      |a::l=>fC it (E.inner L.K) assign F' (sA (fA L.K F' x.1) ps.toList (ck sp.bE a)) (fun S1=>fC it (E.inner L.K) body F' S1 (nB (E.inner L.K).ba F' L.K (fun v'=>wi (v',l))) (fun c S2=>kx c (rQ L.K F' S2))) (fun _ _=>none)) (v,items)))
     |none=>none)
    |_=>none)) S
   |none=>none)
  |none=>ao (E.rf&&F.sl.isEmpty&&F.pl.isEmpty) (ab4 Z E (eD S) g fun sp cap S0=>sp.app cap fun items=>ao (yV ps.toList.length items) (it (IS×List (List I)) (fun x wi=>match x.2 with
   |[]=>kn x.1
   |a::l=>ao (Nat.beq ps.toList.length a.length&&bV a) (fC it (E.inr (eD S)) assign F (sA x.1 ps.toList a) (fun S1=>fC it (E.inr (eD S)) body F S1 (fun S2=>wi (lv (eD S) S2,l)) (fun c S2=>kx c (lv (eD S) S2))) (fun _ _=>none))) (S0,items))))
 |_,_,_,_,_,_=>none
def PQ (p:List Nat) (g0:Nat→Nat) (F:Fix) (kn:IS→Option R) (kx:Option Nat→IS→Option R) (r:R):Exit→St→Prop:=fun e T=>∃ h S,T=S.toSt h∧Inv p g0 F h S∧match e with
 |.normal=>kn S=some r
 |.exit i=>kx (some i) S=some r
 |.ret=>kx none S=some r
 |_=>False
theorem PC {α:Type}{b:Code}{Q:Exit→St→Prop} (P:(Nat→Nat)→α→Prop) (G:α→(α→Option R)→Option R) (st:α→IS) (hb:∀ v kn h,P h v→G v kn=some r→W X b (fun e T=>match e with|.normal=>∃ v' h',P h' v'∧kn v'=some r∧Wk X T ((st v').toSt h')|e=>Q e T) ((st v).toSt h)) :
  ∀ (n:Nat) (v:α) (h:Nat→Nat),P h v→iter G n v=some r→W X (.loop b) Q ((st v).toSt h):=fun n v h hv hr=>by
 refine ahr (α:=Nat×α×(Nat→Nat)) (fun x=>(st x.2.1).toSt x.2.2) (fun x=>P x.2.2 x.2.1∧iter G x.1 x.2.1=some r) (fun x=>x.1) (n,v,h) ⟨hv,hr⟩ (Wk.refl _ _) ?_
 rintro ⟨m,v,h⟩ ⟨hv,hi⟩
 cases m with
 |zero=>cases hi
 |succ m =>
  refine fM (hb v (iter G m) h hv hi) ?_
  intro e T hq
  cases e with
  |normal =>
   obtain ⟨v',h',h0,h1,h2⟩:=hq
   exact⟨(m,v',h'),⟨h0,h1⟩,Nat.lt_succ_self _,h2⟩
  |_=>exact hq
theorem GD {p:List Nat}{g0:Nat→Nat}{F F':Fix}{L:A7}{S:IS}{h:Nat→Nat} (hF:okF F=true) (hi:Inv p g0 F h S) (vY:Ld F L S=some F'):okF F'=true∧Ky F' S∧(∀ S',Ky F' S'→Ky F S'):=by
 unfold Ld at vY
 split at vY
 ·rename_i a ha
  split at vY
  ·rename_i b' hb
   simp only[Option.some.injEq]at vY
   subst vY
   obtain ⟨a1,a2⟩:=P5 hi.2.1 ha
   obtain ⟨b1,b2⟩:=P4 hi.2.2 (uY hF) hb
   exact⟨Oa fun p hp=>(b1 p hp).2,⟨a1,fun p hp=>(b1 p hp).1⟩,fun S' hc=>⟨fun p hp=>hc.1 p (a2 p hp),fun p hp=>hc.2 p (b2 p hp)⟩⟩
  ·cases vY
 ·cases vY
theorem xd (hX:vm X) {p:List Nat}{g0:Nat→Nat}{F:Fix} (hF:okF F=true) {K:k5}{k:K.V→Option R}{S:IS}{h:Nat→Nat} (hi:Inv p g0 F h S) (hr:nB p F K k S=some r):∃ v h',k v=some r∧Wk X (S.toSt h) ((fA K F v).toSt h')∧Inv p g0 F h' (fA K F v):=by
 simp only[nB]at hr
 obtain ⟨S1,hr,hw1,gj⟩:=wm hF K.sl S hi hr
 split at hr
 ·rename_i v hv
  split at hr
  case h_2=>cases hr
  rename_i qS
  obtain ⟨h',_,hw,df⟩:=GL hX hF hv qS gj
  exact⟨v,h',hr,(hw1 X hX).trans hw,df⟩
 ·cases hr
theorem HN {X0:Ctx} (hX0:vm X0) {p:List Nat}{g0:Nat→Nat}{F:Fix} (hF:okF F=true) {K:k5}{k:K.V→Option R}{S:IS}{h:Nat→Nat} (hi:Inv p g0 F h S) (hr:nB p F K k S=some r):∃ v h',k v=some r∧(∀ X,vm X→Wk X (S.toSt h) ((fA K F v).toSt h'))∧Inv p g0 F h' (fA K F v):=by
 simp only[nB]at hr
 obtain ⟨S1,hr,hw1,gj⟩:=wm hF K.sl S hi hr
 split at hr
 ·rename_i v hv
  split at hr
  case h_2=>cases hr
  rename_i qS
  obtain ⟨h',e,_,df⟩:=GL hX0 hF hv qS gj
  refine ⟨v,h',hr,fun X hX=>?_,df⟩
  obtain ⟨h2,e2,hw,_⟩:=GL hX hF hv qS gj
  rw[e,← e2];exact(hw1 X hX).trans hw
 ·cases hr
theorem Qg:∀ {l:List (Nat×Sh)} (x y:th l),rK l=true→gv l x=gv l y
 |[],_,_,_=>rfl
 |(i,.bx s o)::l,x,y,h=>by
  show (i,I.bx s 0 o)::gv l x.2=(i,I.bx s 0 o)::gv l y.2
  rw[Qg x.2 y.2 h]
 |(i,.v _)::l,x,y,h=>by cases h
 |(i,.os _ _ _)::l,x,y,h=>by cases h
 |(i,.gV _)::l,x,y,h=>by cases h
 |(i,.mb _ _)::l,x,y,h=>by cases h
 |(i,.sD _ _)::l,x,y,h=>by cases h
 |(i,.zG _ _)::l,x,y,h=>by cases h
 |(i,.mp _)::l,x,y,h=>by cases h
 |(i,.vn _)::l,x,y,h=>by cases h
 |(i,.jf)::l,x,y,h=>by cases h
 |(i,.jM _)::l,x,y,h=>by cases h
 |(i,.si _)::l,x,y,h=>by cases h
 |(i,.yl _)::l,x,y,h=>by cases h
 |(i,.any)::l,x,y,h=>by cases h
theorem WJ {h h':Nat→Nat}:∀ {l:List (Nat×Sh)} (x:th l) (m:List (Nat×I)),rK l=true→(∀ s∈ta l,h s=h' s)→(∀ p∈m,eA p.2=true)→∀ t,(look .undef (gv l x++m) t).toD h=(look .undef (gv l x++m) t).toD h'
 |[],_,m,_,_,hm,t=>by
  show (look .undef m t).toD h=_
  by_cases hk:t∈keys m
  ·obtain ⟨a,h1,h2⟩:=oL (e:=I.undef) hk
   rw[show gv [] _++m=m from rfl,h2]
   exact ig h h' a (hm _ h1)
  ·rw[show gv [] _++m=m from rfl,xF hk];rfl
 |(i,.bx s o)::l,x,m,hb,hs,hm,t=>by
  show (look .undef ((i,I.bx s 0 o)::(gv l x.2++m)) t).toD h=(look .undef ((i,I.bx s 0 o)::(gv l x.2++m)) t).toD h'
  simp only[kE,jL,kF]
  cases Nat.beq t i with
  |true=>simp only[cond_true,I.toD,hs s (by simp[ta])]
  |false=>exact WJ x.2 m hb (fun s' h'=>hs s' (by simp[ta,h'])) hm t
 |(i,.v _)::l,x,_,h,_,_,_=>by cases h
 |(i,.os _ _ _)::l,x,_,h,_,_,_=>by cases h
 |(i,.gV _)::l,x,_,h,_,_,_=>by cases h
 |(i,.mb _ _)::l,x,_,h,_,_,_=>by cases h
 |(i,.sD _ _)::l,x,_,h,_,_,_=>by cases h
 |(i,.zG _ _)::l,x,_,h,_,_,_=>by cases h
 |(i,.mp _)::l,x,_,h,_,_,_=>by cases h
 |(i,.vn _)::l,x,_,h,_,_,_=>by cases h
 |(i,.jf)::l,x,_,h,_,_,_=>by cases h
 |(i,.jM _)::l,x,_,h,_,_,_=>by cases h
 |(i,.si _)::l,x,_,h,_,_,_=>by cases h
 |(i,.yl _)::l,x,_,h,_,_,_=>by cases h
 |(i,.any)::l,x,_,h,_,_,_=>by cases h
theorem Zx {K:k5}{F:Fix}{v v2:K.V}{h h2:Nat→Nat} (hb:rK K.sl=true) (hs:∀ s∈ta K.sl,h s=h2 s) (hm:∀ p∈F.sl,eA p.2=true):((fA K F v2).toSt h2).ρ=((fA K F v).toSt h).ρ:=by
 funext t
 show (look .undef (gv K.sl v2.1++F.sl) t).toD h2=(look .undef (gv K.sl v.1++F.sl) t).toD h
 rw[Qg v2.1 v.1 hb]
 exact(WJ v.1 F.sl hb hs hm t).symm
theorem adO {h h':Nat→Nat}{S:IS}:∀ {l:List (Nat×Sh)} (x:th l) (m:List (Nat×I)),rK l=true→(∀ s∈ta l,h s+S.gen s=h' s)→(∀ p∈m,eA p.2=true)→∀ t,(look .undef (Nj l S++m) t).toD h=(look .undef (gv l x++m) t).toD h'
 |[],_,m,_,_,hm,t=>by
  show (look .undef m t).toD h=_
  by_cases hk:t∈keys m
  ·obtain ⟨a,h1,h2⟩:=oL (e:=I.undef) hk
   rw[show gv [] _++m=m from rfl,h2]
   exact ig h h' a (hm _ h1)
  ·rw[show gv [] _++m=m from rfl,xF hk];rfl
 |(i,.bx s o)::l,x,m,hb,hs,hm,t=>by
  show (look .undef ((i,I.bx s (S.gen s) o)::(Nj l S++m)) t).toD h=(look .undef ((i,I.bx s 0 o)::(gv l x.2++m)) t).toD h'
  simp only[kE,jL,kF]
  cases Nat.beq t i with
  |true=>simp only[cond_true,I.toD,hs s (by simp[ta]),Nat.add_zero]
  |false=>exact adO x.2 m hb (fun s' h'=>hs s' (by simp[ta,h'])) hm t
 |(i,.v _)::l,x,_,h,_,_,_=>by cases h
 |(i,.os _ _ _)::l,x,_,h,_,_,_=>by cases h
 |(i,.gV _)::l,x,_,h,_,_,_=>by cases h
 |(i,.mb _ _)::l,x,_,h,_,_,_=>by cases h
 |(i,.sD _ _)::l,x,_,h,_,_,_=>by cases h
 |(i,.zG _ _)::l,x,_,h,_,_,_=>by cases h
 |(i,.mp _)::l,x,_,h,_,_,_=>by cases h
 |(i,.vn _)::l,x,_,h,_,_,_=>by cases h
 |(i,.jf)::l,x,_,h,_,_,_=>by cases h
 |(i,.jM _)::l,x,_,h,_,_,_=>by cases h
 |(i,.si _)::l,x,_,h,_,_,_=>by cases h
 |(i,.yl _)::l,x,_,h,_,_,_=>by cases h
 |(i,.any)::l,x,_,h,_,_,_=>by cases h
theorem Q6 {S:IS}{t:Nat}:∀ {l:List (Nat×Sh)} (m:List (Nat×I)),rK l=true→t ∉ keys l→look .undef (Nj l S++m) t=look .undef m t
 |[],m,_,_=>rfl
 |(i,.bx s o)::l,m,hb,ht=>by
  show look .undef ((i,I.bx s (S.gen s) o)::(Nj l S++m)) t=_
  rw[eT (fun e=>ht (by simp[keys,e]))]
  exact Q6 m hb (fun h=>ht (by simp[keys,h]))
 |(i,.v _)::l,_,h,_=>by cases h
 |(i,.os _ _ _)::l,_,h,_=>by cases h
 |(i,.gV _)::l,_,h,_=>by cases h
 |(i,.mb _ _)::l,_,h,_=>by cases h
 |(i,.sD _ _)::l,_,h,_=>by cases h
 |(i,.zG _ _)::l,_,h,_=>by cases h
 |(i,.mp _)::l,_,h,_=>by cases h
 |(i,.vn _)::l,_,h,_=>by cases h
 |(i,.jf)::l,_,h,_=>by cases h
 |(i,.jM _)::l,_,h,_=>by cases h
 |(i,.si _)::l,_,h,_=>by cases h
 |(i,.yl _)::l,_,h,_=>by cases h
 |(i,.any)::l,_,h,_=>by cases h
theorem Q5 {t:Nat}:∀ {l:List (Nat×Sh)} (x:th l) (m:List (Nat×I)),t ∉ keys l→look .undef (gv l x++m) t=look .undef m t
 |[],_,m,_=>rfl
 |(i,s)::l,x,m,ht=>by
  show look .undef ((i,Jk s x.1)::(gv l x.2++m)) t=_
  rw[eT (fun e=>ht (by simp[keys,e]))]
  exact Q5 x.2 m (fun h=>ht (by simp[keys,h]))
theorem Cu {F:Fix}:∀ {l:List Nat},lN F l=true→∀ t∈l,t ∉ keys F.sl
 |i::l,h,t,ht=>by
  simp only[lN,Bool.and_eq_true,Bool.not_eq_true']at h
  rcases List.mem_cons.1 ht with rfl|ht
  ·intro hk;rw[bw.2 hk]at h;cases h.1
  ·exact Cu h.2 t ht
theorem Ng {p ba:List Nat}{g0 h' h2:Nat→Nat}{K:k5}{F:Fix}{v:K.V}{S:IS} (hp:p=ta K.sl++ba) (hb:rK K.sl=true) (hd:lN F (keys K.sl)=true) (df:Inv ba g0 F h' (fA K F v)) (ek:Inv p h' F h2 S) :
  (⟨((fA K F v).toSt h').ρ,(S.toSt h2).γ,(S.toSt h2).σ⟩:St)=(rQ K F S).toSt h2∧Inv ba g0 F h2 (rQ K F S):=by
 subst hp
 have nN:∀ p∈F.sl,eA p.2=true:=fun p hp=>(df.2.1 p hp).2
 refine ⟨?_,fun s hs=>?_,fun q hq=>⟨?_,nN q hq⟩,ek.2.2⟩
 ·have:((fA K F v).toSt h').ρ=((rQ K F S).toSt h2).ρ:=by
   funext t
   exact(adO (S:=S) v.1 F.sl hb (fun s hs=>ek.1 s (List.mem_append_left _ hs)) nN t).symm
  rw[this];rfl
 ·have h3:h2 s+S.gen s=h' s:=ek.1 s (List.mem_append_right _ hs)
  have h4:h' s+0=g0 s:=df.1 s hs
  show h2 s+S.gen s=g0 s
  rw[h3];simpa using h4
 ·have hk:q.1 ∉ keys K.sl:=fun h=>Cu hd _ h (iQ hq)
  have h1:look .undef (gv K.sl v.1++F.sl) q.1=q.2:=(df.2.1 q hq).1
  rw[Q5 _ _ hk]at h1
  show look .undef (Nj K.sl S++F.sl) q.1=q.2
  rw[Q6 _ hb hk]
  exact h1
theorem AT {h:Nat→Nat}:∀ (ts:List Nat) (ds:List I) (S:IS),(sA S ts ds).toSt h=⟨rD (S.toSt h).ρ ts (I.al h ds),(S.toSt h).γ,(S.toSt h).σ⟩
 |[],_,S=>rfl
 |t::ts,[],S=>rfl
 |t::ts,d::ds,S=>by
  show (sA (S.set t d) ts ds).toSt h=_
  rw[AT ts ds,jF]
  rfl
theorem DN {p:List Nat}{g0:Nat→Nat}{F:Fix}{h:Nat→Nat}:∀ (ts:List Nat) (ds:List I) (S:IS),lN F ts=true→Inv p g0 F h S→Inv p g0 F h (sA S ts ds)
 |[],_,S,_,hi=>hi
 |t::ts,[],S,_,hi=>hi
 |t::ts,d::ds,S,hn,hi=>by
  simp only[lN,Bool.and_eq_true,Bool.not_eq_true']at hn
  exact DN ts ds _ hn.2 (hi.set hn.1 d)
theorem oA:∀ (bf:List T) (a:aE bf),(ck bf a).length=bf.length
 |[],_=>rfl
 |t::bf,a=>by simp only[ck,List.length_cons,oA bf]
theorem afl (h h':Nat→Nat) (t:T) (x:den t):(jx t x).toD h=(jx t x).toD h':=by
 unfold jx
 cases lQ t with
 |true=>simp only[cond_true,I.toD,bd]
 |false =>
  simp only[cond_false]
  split
  ·rename_i d e
   have h1:=bd h t x
   rw[← bd h',e]at h1
   simpa[I.al] using h1
  ·rfl
theorem qK (h h':Nat→Nat):∀ (bf:List T) (a:aE bf),I.al h (ck bf a)=I.al h' (ck bf a)
 |[],_=>rfl
 |t::bf,a=>by simp only[ck,I.al,afl h h' t,qK h h' bf]
theorem Cv:∀ l:List Nat,lN ⟨[],[]⟩ l=true
 |[]=>rfl
 |t::l=>by simp only[lN,keys,bc,Bool.not_false,Bool.true_and];exact Cv l
theorem iz {S S2:IS}{h h2:Nat→Nat}{d:I} (hk:abv S d=true) (hp:∀ s∈bp1 d,h2 s+S2.gen s=h s+S.gen s):(rb1 S2 d).toD h2=d.toD h:=by
 cases d with
 |bx s g o =>
  have e:=Nat.eq_of_beq_eq_true (show Nat.beq g (S.gen s)=true from hk)
  subst e
  show D.bx s (h2 s+S2.gen s) o=D.bx s (h s+S.gen s) o
  rw[hp s (List.mem_cons_self ..)]
 |os s g =>
  have e:=Nat.eq_of_beq_eq_true (show Nat.beq g (S.gen s)=true from hk)
  subst e
  show D.os s (h2 s+S2.gen s)=D.os s (h s+S.gen s)
  rw[hp s (List.mem_cons_self ..)]
 |_=>exact ig _ _ _ hk
theorem ad1 {S S2:IS}{h h2:Nat→Nat}:∀ {l:List I},UH S l=true→(∀ s∈bpL l,h2 s+S2.gen s=h s+S.gen s)→I.al h2 (Zh S2 l)=I.al h l
 |[],_,_=>rfl
 |d::l,hk,hp=>by
  simp only[UH,Bool.and_eq_true]at hk
  simp only[Zh,I.al,iz hk.1 (fun s hs=>hp s (List.mem_append_left _ hs)),ad1 hk.2 (fun s hs=>hp s (List.mem_append_right _ hs))]
theorem anv {S S2:IS}{h h2:Nat→Nat}{d:I} (hp:∀ s∈bpR (tO S d),h2 s+S2.gen s=h s+S.gen s):(rbR S2 (tO S d)).toD h2=(tO S d).toD h:=by
 unfold tO at hp ⊢
 cases hk:abw S d with
 |false=>rfl
 |true =>
  rw[hk]at hp
  simp only[cond_true]at hp ⊢
  cases d with
  |fn f l =>
   show D.fn f (I.al h2 (Zh S2 l))=D.fn f (I.al h l)
   rw[ad1 hk hp]
  |int k n=>exact iz (S:=S) (d:=.int k n) hk hp
  |bool b=>exact iz (S:=S) (d:=.bool b) hk hp
  |str b=>exact iz (S:=S) (d:=.str b) hk hp
  |agg l=>exact iz (S:=S) (d:=.agg l) hk hp
  |bn l=>exact iz (S:=S) (d:=.bn l) hk hp
  |sl t l=>exact iz (S:=S) (d:=.sl t l) hk hp
  |ft t l=>exact iz (S:=S) (d:=.ft t l) hk hp
  |nil=>exact iz (S:=S) (d:=.nil) hk hp
  |rp l o=>exact iz (S:=S) (d:=.rp l o) hk hp
  |bx s g o=>exact iz (S:=S) (d:=.bx s g o) hk hp
  |mb s g T=>exact iz (S:=S) (d:=.mb s g T) hk hp
  |os s g=>exact iz (S:=S) (d:=.os s g) hk hp
  |op s g z i o=>exact iz (S:=S) (d:=.op s g z i o) hk hp
  |ow s g z a m=>exact iz (S:=S) (d:=.ow s g z a m) hk hp
  |yl l=>exact iz (S:=S) (d:=.yl l) hk hp
  |mf f c=>exact iz (S:=S) (d:=.mf f c) hk hp
  |one=>exact iz (S:=S) (d:=.one) hk hp
  |lk c=>exact iz (S:=S) (d:=.lk c) hk hp
  |er b=>exact iz (S:=S) (d:=.er b) hk hp
  |undef=>exact iz (S:=S) (d:=.undef) hk hp
theorem NG {s:Nat}:∀ {l:List (Nat×I)}{t:Nat},s∈bpR (look .undef l t)→s∈plR l
 |[],t,hs=>by cases hs
 |(i,d)::l,t,hs=>by
  simp only[kE,jL,kF]at hs
  cases hb:Nat.beq t i with
  |true=>rw[hb]at hs;exact List.mem_append_left _ hs
  |false=>rw[hb]at hs;exact List.mem_append_right _ (NG hs)
theorem Gy (S:IS) {h h2:Nat→Nat}{S2:IS} (hp:∀ s∈plR (eD S).rs,h2 s+S2.gen s=h s+S.gen s):((lv (eD S) S2).toSt h2).ρ=((eD S).toSt h).ρ:=by
 funext t
 show (look .undef (gz (rbR S2) (gz (tO S) S.rs)) t).toD h2=(look .undef (gz (tO S) S.rs) t).toD h
 rw[iR rfl]
 have h3:look I.undef (gz (tO S) S.rs) t=tO S (look .undef S.rs t):=iR rfl _ _
 rw[h3]
 refine anv (fun s hs=>hp s (NG (t:=t) ?_))
 show s∈bpR (look .undef (gz (tO S) S.rs) t)
 rw[h3];exact hs
theorem Wf (S:IS) (h:Nat→Nat) {E:bJ Z}{h2:Nat→Nat}{S2:IS} (hp:∀ s∈(E.inr (eD S)).ba,h2 s+S2.gen s=h s+S.gen s):(⟨((eD S).toSt h).ρ,(S2.toSt h2).γ,(S2.toSt h2).σ⟩:St)=(lv (eD S) S2).toSt h2:=by
 rw[← Gy S (fun s hs=>hp s (List.mem_append_left _ hs))];rfl
theorem akK (S:IS) (h:Nat→Nat):Wk X (S.toSt h) ((eD S).toSt h):=fun κ sv a w hs=>⟨κ,sv,BL (S:=S.toSt h) (S':=(eD S).toSt h) (fun i=>by
 show (look .undef (gz (tO S) S.rs) i).toD h=.undef∨(look .undef (gz (tO S) S.rs) i).toD h=(look .undef S.rs i).toD h
 rw[iR rfl]
 generalize look I.undef S.rs i=d
 have k2:tO S d=.undef∨tO S d=d:=by unfold tO;cases abw S d<;>first|exact .inl rfl|exact .inr rfl
 rcases k2 with e|e
 ·rw[e];exact .inl rfl
 ·rw[e];exact .inr rfl) (fun _=>Nat.le_refl _) (fun s=>.inr rfl) hs⟩
theorem agZ {E:bJ Z}{nt:Nat}{w0:World}{fg:Nat→Nat→Option Value}{S:IS}{g:Operand}{k:iG Z.toSeat→List I→IS→Option R} (hX:At (Ctx.plain Z.toSeat nt w0 fg none) Z E.nt) (h:Nat→Nat) (hr:ab4 Z E (eD S) g k=some r) :
  ∃ (sp:iG Z.toSeat) (cap:List I) (S0:IS) (nS:Nat→Own),k sp cap (lv (eD S) S0)=some r∧S0.gs=S.gs∧nS=(S0.toSt h).σ∧(∀ s,nS s=.none∨nS s=((eD S).toSt h).σ s) ∧
   ∀ κ sv a w,bk (Ctx.plain Z.toSeat nt w0 fg none) κ sv ((eD S).toSt h) a w→∃ lb T0,a.eval g=.func (.func sp.f) #[] lb.toArray∧(∀ W1,Below w.heap.size w W1→(bif sp.own then Gp (I.al h cap) else Gq (I.al h cap)) κ W1 lb T0)∧∀ b,T0 b→w0.heap.size≤b∧(∃ o:Obj,w.heap[b]?=some o∧ov o=true)∧(∀ o,κ b o=none)∧∀ s,aL (nS s) (sv s)≠some b:=by
 unfold ab4 at hr
 split at hr
 case h_2=>cases hr
 rename_i gf cap hg
 split at hr
 case h_2=>cases hr
 rename_i sp iu
 have hsf:=Mc iu
 subst hsf
 have fO:((eD S).toSt h).ev (Ctx.plain Z.toSeat nt w0 fg none) g=.fn sp.f (I.al h cap):=by rw[dO hX,hg];rfl
 cases ho:sp.own with
 |true =>
  rw[ho]at hr
  simp only at hr
  obtain ⟨s,g0,Ug,hr1⟩:=aeX hr
  subst Ug
  obtain ⟨hgg,Co⟩:=cX hr1
  subst hgg
  obtain ⟨l,hl,hr3⟩:=PI Co
  obtain ⟨hn,hr4⟩:=aq hr3
  have aP:((eD S).toSt h).σ s=.box (I.al h l):=by
   show ((eD S).own s).toOwn h=_
   rw[hl];rfl
  have aF:(IS.toSt h ⟨(eD S).rs,(eD S).gs,(s,.none)::(eD S).os⟩).σ=aG ((eD S).toSt h).σ s .none:=by
   funext t
   show (look .none ((s,.none)::(eD S).os) t).toOwn h=_
   simp only[kE,jL,kF,aG]
   cases Nat.beq t s<;>rfl
  refine ⟨sp,l,_,_,hr4,rfl,rfl,fun t=>?_,fun κ sv a w hs=>?_⟩
  ·rw[aF]
   by_cases e:t=s
   ·subst e;exact .inl (aC _ _ _)
   ·exact .inr (bh _ _ _ _ e)
  ·rw[ho,aF]
   exact anK fO rfl aP (fun d hd=>eP h l hn d hd) κ sv a w hs
 |false =>
  rw[ho]at hr
  obtain ⟨hn,hr⟩:=aq hr
  refine ⟨sp,cap,eD S,_,hr,rfl,rfl,fun t=>.inr rfl,fun κ sv a w hs=>?_⟩
  rw[ho]
  exact adZ fO (fun d hd=>eP h cap hn d hd) κ sv a w hs
theorem fD:∀ (c:Code) {X:Ctx}{E:bJ Z} (_:At X Z E.nt) (_:E.rf=true→Gl X) {g0:Nat→Nat} (F:Fix),okF F=true→∀ (S:IS) (kn:IS→Option R) (kx:Option Nat→IS→Option R) (h:Nat→Nat),Inv E.ba g0 F h S→fC aB E c F S kn kx=some r→W X c (PQ E.ba g0 F kn kx r) (S.toSt h)
 |.skip,X,E,hX,dY,g0,F,hF,S,kn,kx,h,hi,hr=>ahs ⟨h,S,rfl,hi,hr⟩
 |.region id ops draw,X,E,hX,dY,g0,F,hF,S,kn,kx,h,hi,hr=>by
  have e:ops=ops.toList.toArray:=by simp
  have hr0:Vb E id F S (fun S'=>bif draw then su E.toCEnv F ops ops.toList S' [] (settle F kn) else ue E.toCEnv F ops ops.toList S' kn)=some r:=hr
  obtain ⟨S0,hr,hw0,Im⟩:=agL (X:=X) hX dY hF hi hr0
  refine Sk hw0 ?_
  cases draw with
  |false =>
   rw[e]
   refine ZZ ?_
   rw[← e]
   exact iL hX hF (fun h S' hi hk=>⟨h,S',rfl,hi,hk⟩) _ S0 h Im hr
  |true =>
   refine KO (Q':=fun e T=>∃ h S',T=S'.toSt h∧Inv E.ba g0 F h S'∧e=.normal∧settle F kn S'=some r) ?_ ?_
   ·rw[e]
    refine yT ?_
    rw[← e]
    exact pn hX (fun h S' hi hk=>⟨h,S',rfl,hi,rfl,hk⟩) _ S0 _ _ _ h Im hr
   ·rintro e T ⟨h1,S1,rfl,gj,rfl,hk⟩
    obtain ⟨S2,h2,h3,h4⟩:=sQ (h:=h1) hk
    exact⟨_,h3 X hX.xa,h1,S2,rfl,h4 _ _ gj,h2⟩
 |.seq a b,X,E,hX,dY,g0,F,hF,S,kn,kx,h,hi,hr=>by
  refine am0 (fM (fD a hX dY F hF S _ kx h hi hr) ?_)
  rintro e T ⟨h',S',rfl,df,hq⟩
  cases e with
  |normal=>exact fD b hX dY F hF S' kn kx h' df hq
  |exit i=>exact⟨h',S',rfl,df,hq⟩
  |ret=>exact⟨h',S',rfl,df,hq⟩
  |_=>exact hq.elim
 |.cond c a b,X,E,hX,dY,g0,F,hF,S,kn,kx,h,hi,hr=>by
  simp only[fC]at hr
  split at hr
  ·rename_i v hv
   have fO:(S.toSt h).ev X c=.bool v:=by rw[dO hX,hv];rfl
   cases v with
   |true=>exact aeO fO (fD a hX dY F hF S kn kx h hi hr)
   |false=>exact aeN fO (fD b hX dY F hF S kn kx h hi hr)
  ·cases hr
 |.scope b,X,E,hX,dY,g0,F,hF,S,kn,kx,h,hi,hr=>by
  refine aeQ (fM (fD b hX dY F hF S kn kx h hi hr) ?_)
  rintro e T ⟨h',S',rfl,df,hq⟩
  cases e with
  |goto l=>exact hq.elim
  |_=>exact⟨h',S',rfl,df,hq⟩
 |.label l,X,E,hX,dY,g0,F,hF,S,kn,kx,h,hi,hr=>aeP ⟨h,S,rfl,hi,hr⟩
 |.block id b,X,E,hX,dY,g0,F,hF,S,kn,kx,h,hi,hr=>by
  refine aeM (fM (fD b hX dY F hF S kn (inB id kn kx) h hi hr) ?_)
  rintro e T ⟨h',S',rfl,df,hq⟩
  cases e with
  |normal=>exact⟨h',S',rfl,df,hq⟩
  |exit i =>
   simp only[KU]
   simp only[inB]at hq
   cases hb:Nat.beq i id with
   |true=>rw[hb]at hq;exact⟨h',S',rfl,df,hq⟩
   |false=>rw[hb]at hq;exact⟨h',S',rfl,df,hq⟩
  |ret=>exact⟨h',S',rfl,df,hq⟩
  |_=>exact hq.elim
 |.exit id,X,E,hX,dY,g0,F,hF,S,kn,kx,h,hi,hr=>ahq ⟨h,S,rfl,hi,hr⟩
 |.ret,X,E,hX,dY,g0,F,hF,S,kn,kx,h,hi,hr=>amZ ⟨h,S,rfl,hi,hr⟩
 |.loop b,X,E,hX,dY,g0,F,hF,S,kn,kx,h,hi,hr=>by
  simp only[fC]at hr
  split at hr
  ·rename_i L hL
   split at hr
   ·rename_i F' vY
    obtain ⟨cj,jZ,xD⟩:=GD hF hi vY
    obtain ⟨v,h',hr,hw,df⟩:=xd hX.xa cj ⟨hi.1,jZ⟩ hr
    refine Sk hw ?_
    refine PC (fun h v=>Inv E.ba g0 F' h (fA L.K F' v)) _ (fA L.K F') (fun v wi h hi hv=>?_) iM v h' df hr
    refine fM (fD b hX dY F' cj _ _ kx h hi hv) (fun e T hq=>?_)
    cases e with
    |normal =>
     obtain ⟨h',S',rfl,df,hq⟩:=hq
     obtain ⟨v',h2,hq,hw,ek⟩:=xd hX.xa cj df hq
     exact⟨v',h2,ek,hq,hw⟩
    |_ =>
     obtain ⟨h',S',rfl,df,hq⟩:=hq
     exact⟨h',S',rfl,⟨df.1,xD S' df.2⟩,hq⟩
   ·cases hr
  ·refine PC (fun h S=>Inv E.ba g0 F h S) _ id (fun S' wi h hi hv=>?_) iM S h hi hr
   refine fM (fD b hX dY F hF _ _ kx h hi hv) (fun e T hq=>?_)
   cases e with
   |normal =>
    obtain ⟨h',S',rfl,df,hq⟩:=hq
    exact⟨S',h',df,hq,Wk.refl _ _⟩
   |_ =>
    obtain ⟨h',S',rfl,df,hq⟩:=hq
    exact⟨h',S',rfl,df,hq⟩
 |.rangeFunc g ps assign body,X,E,hX,dY,g0,F,hF,S,kn,kx,h,hi,hr=>by
  simp only[fC]at hr
  obtain ⟨Fi,hr⟩:=aq hr
  obtain ⟨Zs,Re,w0,fg,hXp⟩:=dY Fi
  split at hr
  ·rename_i L hL
   split at hr
   ·rename_i F' vY
    obtain ⟨cj,jZ,xD⟩:=GD hF hi vY
    obtain ⟨v,h',hr,hw,df⟩:=xd hX.xa cj ⟨hi.1,jZ⟩ hr
    refine Sk hw ?_
    split at hr
    ·rename_i gf cap hg
     split at hr
     ·rename_i sp iu
      have hsf:=Mb iu
      obtain ⟨yj,hr⟩:=aq hr
      simp only[Bool.and_eq_true]at yj
      obtain ⟨⟨⟨pP,hlen⟩,hnf⟩,QU⟩:=yj
      obtain ⟨items,hit,arT⟩:=sp.ok _ _ _ hr
      have arH:=arT h'
      have fO:((fA L.K F' v).toSt h').ev X g=.fn gf (I.al h' cap):=by rw[dO hX,hg];rfl
      have nN:∀ p∈F'.sl,eA p.2=true:=fun p hp=>(df.2.1 p hp).2
      -- avV of amr RN BM avT to
      have hp':Inv (E.inner L.K).ba h' F' h' (fA L.K F' v):=⟨fun s _=>rfl,df.2⟩
      have hpE:∀ h2 v2,Inv (E.inner L.K).ba h' F' h2 (fA L.K F' v2)→Inv E.ba g0 F h2 (fA L.K F' v2):=fun h2 v2 hh=>⟨fun s hs=>by
       have h3:h2 s+0=h' s:=hh.1 s (List.mem_append_right _ hs)
       have h4:h' s+0=g0 s:=df.1 s hs
       show h2 s+0=g0 s
       rw[h3];simpa using h4,xD _ hh.2⟩
      have Cp:∀ h2 v2,Inv (E.inner L.K).ba h' F' h2 (fA L.K F' v2)→((fA L.K F' v2).toSt h2).ρ=((fA L.K F' v).toSt h').ρ:=fun h2 v2 hh=>Zx pP (fun s hs=>by
       have h3:h2 s+0=h' s:=hh.1 s (List.mem_append_left _ hs)
       simpa using h3.symm) nN
      let G:L.K.V×List (aE sp.bE)→(L.K.V×List (aE sp.bE)→Option R)→Option R:=fun x wi=>match x.2 with
       |[]=>kn (fA L.K F' x.1)
       |a::l=>fC aB (E.inner L.K) assign F' (sA (fA L.K F' x.1) ps.toList (ck sp.bE a)) (fun S1=>fC aB (E.inner L.K) body F' S1 (nB (E.inner L.K).ba F' L.K (fun v'=>wi (v',l))) (fun c S2=>kx c (rQ L.K F' S2))) (fun _ _=>none)
      have hit:iter G iM (v,items)=some r:=hit
      have args_at:∀ (k:Nat) (a:aE sp.bE),items[k]?=some a→IB sp.bE items k=I.al zh (ck sp.bE a):=fun k a e=>by unfold IB;rw[e]
      subst hXp
      have hZ:Zs=Z.toSeat:=hX.Z
      subst hZ
      refine KP (gf:=gf) (cap:=I.al h' cap) (n:=items.length) (IB sp.bE items) fO (by rw[← hsf];exact arH) (fun k hk=>?_)
       (fun k γ σ=>∃ h2 v2 m,Inv (E.inner L.K).ba h' F' h2 (fA L.K F' v2)∧γ=((fA L.K F' v2).toSt h2).γ∧σ=((fA L.K F' v2).toSt h2).σ∧iter G m (v2,items.drop k)=some r) (fun c T=>∃ h2 S2,T=S2.toSt h2∧Inv (E.inner L.K).ba h' F' h2 S2∧((c=.ret∧kx none (rQ L.K F' S2)=some r)∨∃ i,c=.exit i∧kx (some i) (rQ L.K F' S2)=some r))
       ⟨h',v,iM,hp',rfl,rfl,hit⟩ (fun k γ σ hk hP hle=>?_) (fun γ σ hP=>?_)
       (fun T hx=>by
        obtain ⟨h2,S2,rfl,ek,⟨_,hq⟩|⟨i,hc,_⟩⟩:=hx
        ·obtain ⟨e1,e2⟩:=Ng rfl pP QU df ek
         exact⟨h2,_,e1,⟨e2.1,xD _ e2.2⟩,hq⟩
        ·cases hc)
       (fun i T hx=>by
        obtain ⟨h2,S2,rfl,ek,⟨hc,_⟩|⟨j,hc,hq⟩⟩:=hx
        ·cases hc
        ·cases hc
         obtain ⟨e1,e2⟩:=Ng rfl pP QU df ek
         exact⟨h2,_,e1,⟨e2.1,xD _ e2.2⟩,hq⟩)
       (fun c T hx=>by
        obtain ⟨h2,S2,rfl,ek,⟨hc,_⟩|⟨j,hc,hq⟩⟩:=hx
        ·exact .inl hc
        ·exact .inr ⟨j,hc⟩)
      ·have e:=List.getElem?_eq_getElem hk
       rw[args_at k _ e,fc,oA,← Nat.eq_of_beq_eq_true hlen];simp
      ·obtain ⟨h2,v2,m,ek,rfl,rfl,hm⟩:=hP
       have e:=List.getElem?_eq_getElem hk
       rw[args_at k _ e]
       have Ui:items.drop k=items[k]::items.drop (k+1):=by rw[List.drop_eq_getElem_cons hk]
       rw[Ui]at hm
       cases m with
       |zero=>cases hm
       |succ m =>
        have hm:fC aB (E.inner L.K) assign F' (sA (fA L.K F' v2) ps.toList (ck sp.bE items[k])) (fun S1=>fC aB (E.inner L.K) body F' S1 (nB (E.inner L.K).ba F' L.K (fun v'=>iter G m (v',items.drop (k+1)))) (fun c S2=>kx c (rQ L.K F' S2))) (fun _ _=>none)=some r:=hm
        have jn:(⟨rD ((fA L.K F' v).toSt h').ρ ps.toList (I.al zh (ck sp.bE items[k])),((fA L.K F' v2).toSt h2).γ,((fA L.K F' v2).toSt h2).σ⟩:St)=(sA (fA L.K F' v2) ps.toList (ck sp.bE items[k])).toSt h2:=by
         rw[AT,Cp h2 v2 ek,qK zh h2]
        rw[jn]
        intro nR kY ny T l Φ cl fr
        refine fM (fD assign (X:=nv Z.toSeat Re w0 fg none nR kY ny T l Φ cl fr) (E:=E.inner L.K) (g0:=h') (At.pl rfl hX.nt (fun _=>rfl)) (fun h=>by cases h) F' cj _ _ _ h2 (DN _ _ _ hnf ek) hm) ?_
        rintro e T' ⟨h3,S3,rfl,MK,hq⟩
        cases e<;>first|exact hq.elim|(cases hq;done)|skip
        refine ⟨rfl,fun CD Ec EP=>?_⟩
        refine fM (fD body (X:=nv Z.toSeat Re w0 fg none nR kY ny T l CD Ec EP) (E:=E.inner L.K) (g0:=h') (At.pl rfl hX.nt (fun _=>rfl)) (fun h=>by cases h) F' cj _ _ _ h3 MK hq) ?_
        rintro e T' ⟨h4,S4,rfl,ML,hq⟩
        cases e<;>first|exact hq.elim|(exact⟨h4,S4,rfl,ML,.inl ⟨rfl,hq⟩⟩)|(exact⟨h4,S4,rfl,ML,.inr ⟨_,rfl,hq⟩⟩)|skip
        obtain ⟨v',h5,hq,hw5,hi5⟩:=xd (X:=nv Z.toSeat Re w0 fg none nR kY ny T l CD Ec EP) (fun p h=>nomatch (show false=true from h)) cj ML hq
        exact⟨_,hw5,h5,v',m,hi5,rfl,rfl,hq⟩
      ·obtain ⟨h2,v2,m,ek,rfl,rfl,hm⟩:=hP
       rw[List.drop_length]at hm
       cases m with
       |zero=>cases hm
       |succ m =>
        have hm:kn (fA L.K F' v2)=some r:=hm
        refine ⟨h2,fA L.K F' v2,?_,hpE h2 v2 ek,hm⟩
        rw[← Cp h2 v2 ek]
     ·cases hr
    ·cases hr
   ·cases hr
  ·obtain ⟨aki,hr⟩:=aq hr
   simp only[Bool.and_eq_true]at aki
   obtain ⟨⟨_,hF1⟩,hF2⟩:=aki
   obtain ⟨Fs,Fp⟩:=F
   have e1:Fs=[]:=by simpa using hF1
   have e2:Fp=[]:=by simpa using hF2
   subst e1
   subst e2
   subst hXp
   have hZ:Zs=Z.toSeat:=hX.Z
   subst hZ
   refine Sk (akK S h) ?_
   obtain ⟨sp,cap,S0,nS,hr,hS0,ar1,aaY,vA⟩:=agZ hX h hr
   obtain ⟨items,hit,arI⟩:=sp.ok _ _ _ hr
   have ajT:∀ S:IS,Ky ⟨[],[]⟩ S:=fun S=>⟨fun p hp=>(nomatch hp),fun p hp=>(nomatch hp)⟩
   let G:IS×List (List I)→(IS×List (List I)→Option R)→Option R:=fun x wi=>match x.2 with
    |[]=>kn x.1
    |a::l=>ao (Nat.beq ps.toList.length a.length&&bV a) (fC aB (E.inr (eD S)) assign ⟨[],[]⟩ (sA x.1 ps.toList a) (fun S1=>fC aB (E.inr (eD S)) body ⟨[],[]⟩ S1 (fun S2=>wi (lv (eD S) S2,l)) (fun c S2=>kx c (lv (eD S) S2))) (fun _ _=>none))
   obtain ⟨sE,hit⟩:=aq hit
   have hit:iter G iM (lv (eD S) S0,items)=some r:=hit
   have hIE:∀ {h2 S2},(∀ s∈(E.inr (eD S)).ba,h2 s+S2.gen s=h s+S.gen s)→Inv E.ba g0 ⟨[],[]⟩ h2 S2:=fun {h2 S2} hh=>⟨fun s hs=>(hh s (List.mem_append_right _ hs)).trans (hi.1 s hs),ajT _⟩
   refine yS (S:=(eD S).toSt h) (nS:=nS) (gf:=sp.f) (n:=items.length) (Cr items) vA aaY (arI h) (fun k hk=>?_)
    (fun k γ σ=>∃ h2 S2 m,(∀ s∈(E.inr (eD S)).ba,h2 s+S2.gen s=h s+S.gen s)∧γ=((lv (eD S) S2).toSt h2).γ∧σ=((lv (eD S) S2).toSt h2).σ∧iter G m (lv (eD S) S2,items.drop k)=some r)
    (fun c T=>∃ h2 S2,T=S2.toSt h2∧(∀ s∈(E.inr (eD S)).ba,h2 s+S2.gen s=h s+S.gen s)∧((c=.ret∧kx none (lv (eD S) S2)=some r)∨∃ i,c=.exit i∧kx (some i) (lv (eD S) S2)=some r))
    ?_ (fun k γ σ hk hP hle=>?_) (fun γ σ hP=>?_)
    (fun T hx=>by
     obtain ⟨h2,S2,rfl,ek,⟨_,hq⟩|⟨i,hc,_⟩⟩:=hx
     ·exact⟨h2,_,Wf S h ek,hIE ek,hq⟩
     ·cases hc)
    (fun i T hx=>by
     obtain ⟨h2,S2,rfl,ek,⟨hc,_⟩|⟨j,hc,hq⟩⟩:=hx
     ·cases hc
     ·cases hc
      exact⟨h2,_,Wf S h ek,hIE ek,hq⟩)
    (fun c T hx=>by
     obtain ⟨h2,S2,rfl,ek,⟨hc,_⟩|⟨j,hc,hq⟩⟩:=hx
     ·exact .inl hc
     ·exact .inr ⟨j,hc⟩)
   ·have:=HM sE k hk
    simpa using this
   ·exact⟨h,S0,iM,fun s _=>by show h s+look 0 S0.gs s=h s+look 0 S.gs s;rw[hS0],by
     show _=(fun s=>h s+look 0 S0.gs s)
     rw[hS0];rfl,ar1,hit⟩
   ·obtain ⟨h2,S2,m,ek,rfl,rfl,hm⟩:=hP
    have e:=List.getElem?_eq_getElem hk
    have Ui:items.drop k=items[k]::items.drop (k+1):=by rw[List.drop_eq_getElem_cons hk]
    rw[Ui]at hm
    cases m with
    |zero=>cases hm
    |succ m =>
     have hm:ao (Nat.beq ps.toList.length (items[k]).length&&bV items[k]) (fC aB (E.inr (eD S)) assign ⟨[],[]⟩ (sA (lv (eD S) S2) ps.toList items[k]) (fun S1=>fC aB (E.inr (eD S)) body ⟨[],[]⟩ S1 (fun S2=>iter G m (lv (eD S) S2,items.drop (k+1))) (fun c S2=>kx c (lv (eD S) S2))) (fun _ _=>none))=some r:=hm
     obtain ⟨yj,hm⟩:=aq hm
     simp only[Bool.and_eq_true]at yj
     have jn:(⟨rD ((eD S).toSt h).ρ ps.toList (Cr items k),((lv (eD S) S2).toSt h2).γ,((lv (eD S) S2).toSt h2).σ⟩:St)=(sA (lv (eD S) S2) ps.toList items[k]).toSt h2:=by
      rw[AT,Gy S (fun s hs=>ek s (List.mem_append_left _ hs))]
      have:Cr items k=I.al h2 items[k]:=by unfold Cr;rw[e];exact jB _ _ _ yj.2
      rw[this]
     rw[jn]
     have MK:Inv (E.inr (eD S)).ba (fun s=>h s+S.gen s) ⟨[],[]⟩ h2 (lv (eD S) S2):=⟨ek,ajT _⟩
     intro nR kY ny T l Φ cl fr
     refine fM (fD assign (X:=nv Z.toSeat Re w0 fg none nR kY ny T l Φ cl fr) (E:=E.inr (eD S)) (g0:=fun s=>h s+S.gen s) (At.pl rfl hX.nt (fun _=>rfl)) (fun h=>by cases h) ⟨[],[]⟩ rfl _ _ _ h2 (DN _ _ _ (Cv _) MK) hm) ?_
     rintro e T' ⟨h3,S3,rfl,MK,hq⟩
     cases e<;>first|exact hq.elim|(cases hq;done)|skip
     refine ⟨rfl,fun CD Ec EP=>?_⟩
     refine fM (fD body (X:=nv Z.toSeat Re w0 fg none nR kY ny T l CD Ec EP) (E:=E.inr (eD S)) (g0:=fun s=>h s+S.gen s) (At.pl rfl hX.nt (fun _=>rfl)) (fun h=>by cases h) ⟨[],[]⟩ rfl _ _ _ h3 MK hq) ?_
     rintro e T' ⟨h4,S4,rfl,ML,hq⟩
     cases e<;>first|exact hq.elim|(exact⟨h4,S4,rfl,ML.1,.inl ⟨rfl,hq⟩⟩)|(exact⟨h4,S4,rfl,ML.1,.inr ⟨_,rfl,hq⟩⟩)|skip
     exact⟨_,Wk.refl _ _,h4,S4,m,ML.1,rfl,rfl,hq⟩
   ·obtain ⟨h2,S2,m,ek,rfl,rfl,hm⟩:=hP
    rw[List.drop_length]at hm
    cases m with
    |zero=>cases hm
    |succ m =>
     have hm:kn (lv (eD S) S2)=some r:=hm
     refine ⟨h2,lv (eD S) S2,?_,hIE (S2:=lv (eD S) S2) ek,hm⟩
     rw[← Gy S (fun s hs=>ek s (List.mem_append_left _ hs))]
 |.goto _,_,_,_,_,_,_,_,_,_,_,_,_,hr=>by cases hr
 |.refuse _,_,_,_,_,_,_,_,_,_,_,_,_,hr=>by cases hr
end
end
end Go.Ab
namespace Go.Ab
open Go Go.RowKit
noncomputable section
set_option linter.all false
set_option maxHeartbeats 1000000
@[reducible] def eQ:List T→Type
 |[]=>Unit
 |[t]=>den t
 |t::u::ts=>den t×eQ (u::ts)
def rq:(ts:List T)→eQ ts→List I
 |[],_=>[]
 |[t],x=>[jx t x]
 |t::u::ts,x=>jx t x.1::rq (u::ts) x.2
def A1:List I→I
 |[d]=>d
 |ds=>.bn ds
def kz (ts:List T) (x:eQ ts):I:=A1 (rq ts x)
def CT:(ts:List T)→List I→Option (eQ ts)
 |[],[]=>some ()
 |[t],[d]=>ox t d
 |t::u::ts,d::ds=>(match ox t d with
  |some x=>(match CT (u::ts) ds with|some y=>some (x,y)|none=>none)
  |none=>none)
 |_,_=>none
def nT:(ts:List T)→List I→Option (aE ts)
 |[],[]=>some ()
 |t::ts,d::ds=>(match ox t d with
  |some x=>(match nT ts ds with|some y=>some (x,y)|none=>none)
  |none=>none)
 |_,_=>none
section
variable {κ:Nat→Nat→Option Value}{sv:Nat→Value}{γ:Nat→Nat}
theorem zu (h:Nat→Nat) (t:T) (x:den t):Pure ((jx t x).toD h):=by
 have h1:=cN t x
 rw[← bd h]at h1
 unfold jx
 cases lQ t with
 |true=>exact .agg _ h1
 |false =>
  simp only[cond_false]
  split
  ·rename_i d e;rw[e]at h1;exact h1 _ (List.mem_cons_self ..)
  ·exact .undef
theorem jk (h:Nat→Nat):∀ (ts:List T) (x:aE ts),ab (I.al h (ck ts x))
 |[],_=>ab.nil
 |t::ts,x=>ab.cons (zu h t _) (jk h ts _)
theorem Ew (h:Nat→Nat):∀ (ts:List T) (x:eQ ts),ab (I.al h (rq ts x))
 |[],_=>ab.nil
 |[t],x=>ab.cons (zu h t _) ab.nil
 |t::u::ts,x=>ab.cons (zu h t _) (Ew h (u::ts) _)
theorem oU (h:Nat→Nat):∀ l:List I,(A1 l).toD h=fR (I.al h l)
 |[]=>rfl
 |[d]=>rfl
 |_::_::_=>rfl
theorem VJ:∀ {l:List D},ab l→Pure (fR l)
 |[],h=>.bn _ h
 |[d],h=>h d (List.mem_cons_self ..)
 |_::_::_,h=>.bn _ h
theorem uD (h:Nat→Nat) (ts:List T) (x:eQ ts):Pure ((kz ts x).toD h):=by
 unfold kz
 rw[oU]
 exact VJ (Ew h ts x)
theorem qJ {h h':Nat→Nat}:∀ {ts:List T}{ds:List I}{x:aE ts},nT ts ds=some x→∀ {vs:List Value},aD κ γ sv (I.al h ds) vs→aD κ γ sv (I.al h' (ck ts x)) vs
 |[],[],x,hd,vs,hr=>hr
 |[],_::_,x,hd,vs,hr=>by cases hd
 |t::ts,[],x,hd,vs,hr=>by cases hd
 |t::ts,d::ds,x,hd,vs,hr=>by
  simp only[nT]at hd
  split at hd
  ·rename_i y hy
   split at hd
   ·rename_i z hz
    simp only[Option.some.injEq]at hd
    subst hd
    cases hr with
    |cons _ v _ vs h1 h2=>exact .cons _ _ _ _ (mJ hy h1) (qJ hz h2)
   ·cases hd
  ·cases hd
theorem CV {h h':Nat→Nat}:∀ {ts:List T}{ds:List I}{x:eQ ts},CT ts ds=some x→∀ {vs:List Value},aD κ γ sv (I.al h ds) vs→aD κ γ sv (I.al h' (rq ts x)) vs
 |[],[],x,hd,vs,hr=>hr
 |[],_::_,x,hd,vs,hr=>by cases hd
 |[t],[],x,hd,vs,hr=>by cases hd
 |[t],[d],x,hd,vs,hr=>by
  cases hr with
  |cons _ v _ vs h1 h2=>cases h2;exact .cons _ _ _ _ (mJ hd h1) .nil
 |[t],_::_::_,x,hd,vs,hr=>by cases hd
 |t::u::ts,[],x,hd,vs,hr=>by cases hd
 |t::u::ts,d::ds,x,hd,vs,hr=>by
  simp only[CT]at hd
  split at hd
  ·rename_i y hy
   split at hd
   ·rename_i z hz
    simp only[Option.some.injEq]at hd
    subst hd
    cases hr with
    |cons _ v _ vs h1 h2=>exact .cons _ _ _ _ (mJ hy h1) (CV hz h2)
   ·cases hd
  ·cases hd
theorem Og {v:Value}:∀ {ds WA:List D},WA.length=ds.length→(∀ vs,aD κ γ sv ds vs→aD κ γ sv WA vs)→aW κ γ sv (fR ds) v→aW κ γ sv (fR WA) v
 |[],[],_,h,hr=>hr
 |[d],[d'],_,h,hr=>by
  have:=h [v] (.cons _ _ _ _ hr .nil)
  cases this with
  |cons _ _ _ _ h1 _=>exact h1
 |d::d2::ds,d'::d2'::WA,_,h,hr=>by
  cases hr with
  |bn _ vs hl=>exact .bn _ vs (h vs hl)
 |[],_::_,hl,_,_=>by cases hl
 |[_],[],hl,_,_=>by cases hl
 |[_],_::_::_,hl,_,_=>by simp at hl
 |_::_::_,[],hl,_,_=>by cases hl
 |_::_::_,[_],hl,_,_=>by simp at hl
theorem CU:∀ {ts:List T}{ds:List I}{x:eQ ts},CT ts ds=some x→(rq ts x).length=ds.length
 |[],[],x,hd=>rfl
 |[],_::_,x,hd=>by cases hd
 |[t],[],x,hd=>by cases hd
 |[t],[d],x,hd=>rfl
 |[t],_::_::_,x,hd=>by cases hd
 |t::u::ts,[],x,hd=>by cases hd
 |t::u::ts,d::ds,x,hd=>by
  simp only[CT]at hd
  split at hd
  ·split at hd
   ·rename_i z hz
    simp only[Option.some.injEq]at hd
    subst hd
    simp only[rq,List.length_cons,CU hz]
   ·cases hd
  ·cases hd
end
def arl (X:Ctx) (rs:List ResultVar) (R:D):Exit→St→Prop
 |.normal,S|.ret,S=>∃ S' ds,Wk X S S'∧gZ X S' rs ds∧∀ κ γ sv v,aW κ γ sv (fR ds) v→aW κ γ sv R v
 |_,_=>False
theorem lU {Z : Seat} {f : FuncId} {fn : Func} {c : Code} {A : List D} {R : D} (hf : Z.P.funcs[f]? = some fn) (hb : fn.body = some c) (cV : (fn.name == "runtime.NumGoroutine") = false) (hn : Nat.ble A.length fn.ntmps = true) (hA : ab A) (hR : Pure R)
  (h:∀ w κ,W (Ctx.plain Z fn.ntmps w κ none) c (arl (Ctx.plain Z fn.ntmps w κ none) fn.results.toList R) (St.init A)):ep Z f A R:=by
 refine ⟨hA,hR,⟨fn,c,hf,hb,cV⟩,fun w κ args bQ dV cq=>?_⟩
 refine (callsIn_wide (n:=0)).1 (callsIn_of_wp_marks hf hb trivial ?_ rfl)
 have hlen:A.length≤fn.ntmps:=Nat.le_of_ble_eq_true hn
 have sE:=cq.length
 have fK:bk (Ctx.plain Z fn.ntmps w κ none) κ eV (St.init A) { tmps:=args.toArray++Array.replicate (fn.ntmps - args.toArray.size) Go.undef,defers:=[] } w:=by
  refine ⟨by simp[Ctx.plain];omega,jU.nil rfl,fun i _=>jq cq _ i,?_⟩
  exact⟨bQ,fun _=>trivial,(fun s t b hs=>by cases hs),(fun s b o hs=>by cases hs),(fun s b hs=>by cases hs),⟨fun _=>False,⟨Frame.refl _ _,fun _ h=>h.elim⟩,fun s b hs=>by cases hs⟩,dV.1,fun b o v _ hk=>hk,(fun b hb=>by cases hb),Nat.le_refl _,⟨fun _ _ _ h=>(by cases h),fun _=>Nat.zero_le _,fun _ _=>rfl⟩,fun _ _ _ _ h=>h,fun _ _ _ h=>h,fun _ h=>h.elim,lM dV (fun _ e=>by cases e) (fun _ e=>e.elim)⟩
 refine wpIn_mono (h w κ κ eV _ w fK) ?_
 rintro e a' w' ⟨aA,aQ,S',hs,hq⟩
 cases e<;>first|exact hq.elim|skip
 all_goals
  obtain ⟨S2,ds,hw,hd,E4⟩:=hq
  obtain ⟨fh,fI,hs⟩:=hw _ _ _ _ hs
  obtain ⟨Ds,d1,d2,d3,_⟩:=hs.defers
  show LeavesInM _ _ _ _ _ _ a'.defers _ _
  rw[d1]
  refine j3 rfl kc hd (fun a w v hs h2=>?_) Ds a' w' hs d1 d2 d3
  obtain ⟨M,h1,_⟩:=hs.aJ.frame
  exact⟨v,rfl,(E4 _ _ _ _ h2).pure (zE hs.aJ) hR,h1.1.below⟩
section
variable {R:Type}{X:Ctx}{Z:aX}{r:R}
def enum:Nat→List I→List (Nat×I)
 |_,[]=>[]
 |n,d::l=>(n,d)::enum (n+1) l
def lX (A:List I):IS:=⟨enum 0 A,[],[]⟩
theorem pf (h:Nat→Nat):∀ (A:List I) (n i:Nat),n≤i→(look .undef (enum n A) i).toD h=match nth (I.al h A) (i - n) with|some d=>d|none=>.undef
 |[],n,i,_=>rfl
 |d::A,n,i,hi=>by
  simp only[enum,kE,jL,kF]
  cases hb:Nat.beq i n with
  |true=>have:=Nat.eq_of_beq_eq_true hb;subst this;rw[Nat.sub_self];rfl
  |false =>
   have cx:i≠n:=fun e=>by rw[e,Nat.beq_refl]at hb;cases hb
   simp only[cond_false]
   rw[pf h A (n+1) i (by omega)]
   obtain ⟨k,hk⟩:∃ k,i - n=k+1:=⟨i - n - 1,by omega⟩
   rw[hk,show i - (n+1)=k by omega]
   rfl
theorem kW (A:List I):(lX A).toSt zh=St.init (I.al zh A):=by
 unfold IS.toSt St.init lX
 congr 1
 funext i
 exact pf zh A 0 i (Nat.zero_le _)
def ub (Z:aX) (nt:Nat) (S:IS):ResultVar→Option I
 |.tmp t=>some (S.ev Z nt (.tmp t))
 |.cell p ty=>(match S.ev Z nt (.tmp p) with
  |.bx s g j=>rowOf Z ty fun q=>live S s g (match S.own s with
   |.box l=>bif Hb q then (match rE q.sz (sJ j l) with|some m=>some (.agg m)|none=>none) else nth l j
   |_=>none)
  |_=>none)
def lh (Z:aX) (nt:Nat) (S:IS):List ResultVar→Option (List I)
 |[]=>some []
 |v::l=>(match ub Z nt S v with
  |some d=>(match lh Z nt S l with|some ds=>some (d::ds)|none=>none)
  |none=>none)
theorem Ht {nt:Nat} (hX:At X Z nt) {S:IS}{h:Nat→Nat}{rv:ResultVar}{d:I} (hr:ub Z nt S rv=some d):ZW X (S.toSt h) rv (d.toD h):=by
 cases rv with
 |tmp t =>
  simp only[ub,Option.some.injEq]at hr
  subst hr
  exact dO hX _
 |cell p ty =>
  simp only[ub]at hr
  split at hr
  ·rename_i s g j hx
   replace hr:=cg hr
   obtain ⟨q,hq,h9,hr⟩:=hr
   replace hr:=cX hr
   obtain ⟨rfl,hr⟩:=hr
   split at hr
   ·rename_i l aF
    refine ⟨s,_,j,I.al h l,q,(dO hX _).trans (by rw[hx];rfl),rfl,?_,by rw[hX.Z];exact hq,h9,?_⟩
    ·show (S.own s).toOwn h=_
     rw[aF];rfl
    ·cases ha:Hb q with
     |true =>
      rw[ha]at hr
      simp only[cond_true]at hr
      split at hr
      ·rename_i m hm
       simp only[Option.some.injEq]at hr
       subst hr
       exact .inl ⟨ha,_,by rw[oz];exact oT h hm,rfl⟩
      ·cases hr
     |false =>
      rw[ha]at hr
      exact .inr ⟨ha,jT h hr⟩
   ·cases hr
  ·cases hr
theorem nu {nt:Nat} (hX:At X Z nt) {S:IS}{h:Nat→Nat}:∀ {l:List ResultVar}{ds:List I},lh Z nt S l=some ds→gZ X (S.toSt h) l (I.al h ds)
 |[],ds,hr=>by simp[lh]at hr;subst hr;trivial
 |v::l,ds,hr=>by
  simp only[lh]at hr
  split at hr
  ·rename_i d hd
   split at hr
   ·rename_i WA Cf
    simp only[Option.some.injEq]at hr
    subst hr
    exact⟨Ht hX hd,nu hX Cf⟩
   ·cases hr
  ·cases hr
def T8 (Z:aX) (nt:Nat) (rv:List ResultVar) (ts:List T) (S:IS):Option (eQ ts):=match lh Z nt S rv with
 |some ds=>(match lh Z nt (gw S (dW S (ez ds))) rv with
  |some ds=>CT ts ds
  |none=>none)
 |none=>none
def ajm (Z:aX) (nt:Nat) (rv:List ResultVar) (ts:List T) (e:Option Nat) (S:IS):Option (eQ ts):=match e with
 |none=>T8 Z nt rv ts S
 |some _=>none
theorem Qy {nt:Nat} (hX:At X Z nt) (hx:∀ p,X.xa p=false) {rv:List ResultVar}{ts:List T}{S:IS}{x:eQ ts}{h h':Nat→Nat} (hr:T8 Z nt rv ts S=some x) :
  ∃ S' ds,Wk X (S.toSt h) S'∧gZ X S' rv ds∧∀ κ γ sv v,aW κ γ sv (fR ds) v→aW κ γ sv ((kz ts x).toD h') v:=by
 unfold T8 at hr
 split at hr
 ·rename_i B6 _
  split at hr
  ·rename_i ds Cf
   refine ⟨_,_,lz (dW S (ez B6)) S (fun p _=>hx p),nu hX Cf,fun κ γ sv v hv=>?_⟩
   unfold kz
   rw[oU]
   exact Og (by simp only[fc,CU hr]) (fun vs mV=>CV hr mV) hv
  ·cases hr
 ·cases hr
def EM {ts:List T} (it:It (eQ ts)) (E:bJ Z) (c:Code) (rv:List ResultVar) (A:List I):Option (eQ ts) :=
 fC it E c ⟨[],[]⟩ (lX A) (T8 Z E.nt rv ts) (ajm Z E.nt rv ts)
theorem ry {ts bf : List T} {E : bJ Z} {f : FuncId} {fn : Func} {c : Code} (hf : Z.P.funcs[f]? = some fn) (hb : fn.body = some c) (cV : (fn.name == "runtime.NumGoroutine") = false) (hn : Nat.beq fn.ntmps E.nt = true) (hl : Nat.ble bf.length fn.ntmps = true) (hp : E.ba = [])
  {a:aE bf}{x:eQ ts} (hr:EM aB E c fn.results.toList (ck bf a)=some x) (h h':Nat→Nat):ep Z.toSeat f (I.al h (ck bf a)) ((kz ts x).toD h'):=by
 have sE:∀ (bf:List T) (a:aE bf),(ck bf a).length=bf.length:=fun bf=>by
  induction bf with
  |nil=>intro a;rfl
  |cons t bf ih=>intro a;simp only[ck,List.length_cons,ih]
 have hz:I.al h (ck bf a)=I.al zh (ck bf a):=by
  have key:∀ (t:T) (x:den t),(jx t x).toD h=(jx t x).toD zh:=fun t x=>by
   unfold jx
   cases lQ t with
   |true=>simp only[cond_true,I.toD,bd]
   |false =>
    simp only[cond_false]
    split
    ·rename_i d e
     have h1:=bd h t x
     rw[← bd zh,e]at h1
     simpa[I.al] using h1
    ·rfl
  have:∀ (bf:List T) (a:aE bf),I.al h (ck bf a)=I.al zh (ck bf a):=fun bf=>by
   induction bf with
   |nil=>intro a;rfl
   |cons t bf ih=>intro a;simp only[ck,I.al,ih,key]
  exact this bf a
 rw[hz]
 refine lU hf hb cV (by rw[fc,sE];exact hl) (jk _ _ _) (uD _ _ _) fun w κ=>?_
 have hX:At (Ctx.plain Z.toSeat fn.ntmps w κ none) Z E.nt:=At.pl rfl (Nat.eq_of_beq_eq_true hn) (fun _=>rfl)
 rw[← kW]
 refine fM (fD c hX (fun _=>⟨_,_,_,_,rfl⟩) (g0:=zh) ⟨[],[]⟩ rfl _ _ _ zh ⟨(fun g hg=>by rw[hp]at hg;cases hg),⟨(fun p hp=>(nomatch hp)),(fun p hp=>(nomatch hp))⟩⟩ hr) ?_
 rintro e T ⟨h2,S,rfl,_,hq⟩
 cases e with
 |normal=>exact Qy hX (fun _=>rfl) hq
 |ret=>exact Qy hX (fun _=>rfl) hq
 |exit i=>simp only[ajm]at hq;cases hq
 |_=>exact hq.elim
theorem Lb {Z:Seat}{f:FuncId}{bf:List T}{ds:List I}{a:aE bf}{R:D}{h:Nat→Nat} (hd:nT bf ds=some a) (hp:ab (I.al h ds)) (hc:ep Z f (I.al h (ck bf a)) R):ep Z f (I.al h ds) R :=
 ⟨hp,hc.FV,hc.body,fun w κ args hf hg hr=>hc.calls w κ args hf hg (qJ hd hr)⟩
mutual
theorem Yn (h:Nat→Nat):∀ {d d':I},yN d d'→Pure (d'.toD h)→Pure (d.toD h)
 |_,_,.same _,hp=>hp
 |_,_,.nil _,_=>.nil
 |_,_,.ft t l,_=>fa h (.ft t l) rfl
 |_,_,.nK g (l:=l) (m:=m) h1,hp=>by
  have hm:ab (I.al h m):=by
   cases hp with
   |fn _ _ hp =>
    have:=hp (D.rp (I.al h m) 0) (List.mem_cons_self ..)
    cases this with
    |rp _ _ hp=>exact hp
  exact .fn _ _ (ab.cons (.rp _ _ (qb h1 h hm)) ab.nil)
theorem qb:∀ {l m:List I},bg l m→∀ (h:Nat→Nat),ab (I.al h m)→ab (I.al h l)
 |_,_,.nil,_,_=>ab.nil
 |_,_,.cons h1 h2,h,hp=>ab.cons (Yn h h1 (hp _ (List.mem_cons_self ..))) (qb h2 h fun d hd=>hp d (List.mem_cons_of_mem _ hd))
end
theorem Wx {t:T}{d:I}{x:den t} (hd:ox t d=some x) (h:Nat→Nat):Pure (d.toD h):=by
 have key:∀ {l m:List I},bg l m→ab (I.al h m)→ab (I.al h l):=fun {l m} hn=>qb hn h
 unfold ox at hd
 have he:=cN t x
 rw[← bd h]at he
 cases hi:lQ t with
 |true =>
  rw[hi]at hd
  simp only[cond_true]at hd
  split at hd
  ·exact .agg _ (key (cM t hd) he)
  ·cases hd
 |false =>
  rw[hi]at hd
  exact key (cM t hd) he _ (List.mem_cons_self ..)
theorem o7 {h:Nat→Nat}:∀ {ts:List T}{ds:List I}{x:aE ts},nT ts ds=some x→ab (I.al h ds)
 |[],[],x,hd=>ab.nil
 |[],_::_,x,hd=>by cases hd
 |t::ts,[],x,hd=>by cases hd
 |t::ts,d::ds,x,hd=>by
  simp only[nT]at hd
  split at hd
  ·rename_i y hy
   split at hd
   ·rename_i z hz;exact ab.cons (Wx hy h) (o7 hz)
   ·cases hd
  ·cases hd
def AP:List I→Bool
 |[]=>true
 |.int _ _::l=>AP l
 |.bool _::l=>AP l
 |.str _::l=>AP l
 |_::_=>false
theorem Om {h:Nat→Nat}:∀ {l:List I},AP l=true→∃ vs,ll (I.al h l)=some vs
 |[],_=>⟨[],rfl⟩
 |d::l,hc=>by
  cases d<;>try (cases hc;done)
  all_goals
   obtain ⟨vs,hv⟩:=Om (h:=h) (l:=l) hc
   exact⟨_,by simp only[I.al,I.toD,ll,ma,hv];rfl⟩
def scV:I→Bool
 |.agg l=>AP l
 |d=>AP [d]
theorem Oo {h:Nat→Nat}{d:I} (hc:scV d=true):∃ v,mc (d.toD h)=some v:=by
 cases d<;>try (cases hc;done)
 ·exact⟨_,rfl⟩
 ·exact⟨_,rfl⟩
 ·exact⟨_,rfl⟩
 ·obtain ⟨vs,hv⟩:=Om (h:=h) hc
  exact⟨_,by simp only[I.toD,mc,hv,Option.map_some];rfl⟩
def F6:List I→Bool
 |[]=>true
 |d::l=>scV d&&F6 l
theorem F7 {h:Nat→Nat}:∀ {l:List I},F6 l=true→∃ vs,j8 (I.al h l)=some vs
 |[],_=>⟨[],rfl⟩
 |d::l,hc=>by
  simp only[F6,Bool.and_eq_true]at hc
  obtain ⟨v,hv⟩:=Oo (h:=h) hc.1
  obtain ⟨vs,mV⟩:=F7 (h:=h) hc.2
  exact⟨_,by simp only[I.al,j8,hv,mV];rfl⟩
theorem Ot {d:D}{v:Value} (h:mc d=some v):sy d=some v:=by
 unfold sy
 split
 ·simp[mc,ma]at h
 ·exact h
theorem aoo {h:Nat→Nat}{ts:List T}{x:eQ ts} (hc:F6 (rq ts x)=true):∃ v,sy ((kz ts x).toD h)=some v:=by
 unfold kz
 rw[oU]
 generalize rq ts x=l at hc ⊢
 match l,hc with
 |[],_=>exact⟨_,rfl⟩
 |[d],hc =>
  simp only[F6,Bool.and_true]at hc
  obtain ⟨v,hv⟩:=Oo (h:=h) hc
  exact⟨v,Ot hv⟩
 |d::d2::l,hc =>
  obtain ⟨vs,hv⟩:=F7 (h:=h) hc
  exact⟨_,by show (j8 (I.al h (d::d2::l))).map _=_;rw[hv];rfl⟩
def lF (Z:Seat) (f:FuncId) (bf ts:List T) (sc:Bool) (F:aE bf→Option (eQ ts)) (hF:∀ a x,F a=some x→∀ h h',ep Z f (I.al h (ck bf a)) ((kz ts x).toD h')) (zV:sc=true→∀ x:eQ ts,F6 (rq ts x)=true):ak Z where
 f:=f
 sc:=sc
 app:=fun A k=>match nT bf A with|some a=>(F a).bind (fun x=>k (kz ts x))|none=>none
 ok:=fun A k r h=>by
  split at h
  ·rename_i a ha
   cases hx:F a with
   |none=>rw[hx]at h;cases h
   |some x =>
    rw[hx]at h
    exact⟨_,h,fun h=>⟨Lb ha (o7 ha) (hF a x hx h h),fun e=>aoo (zV e x)⟩⟩
  ·cases h
end
end
end Go.Ab
namespace Go.Ab
open Go Go.RowKit
set_option linter.all false
def Kr (bL:List dM):List (Nat×T)→Bool
 |[]=>true
 |(E,t)::l=>(match nth bL E with|some q=>!(Nat.beq q.k 9)&&Nat.beq q.sz (sz t)&&Nat.beq q.zs.length (sz t)|none=>true)&&Kr bL l
def JU (P:Program):List (Nat×IntKind)→Bool
 |[]=>true
 |(t,k)::l=>(match P.underlying t with|some (.int k')=>decide (k'=k)|_=>false)&&JU P l
def Ft (P:Program):List Nat→Bool
 |[]=>true
 |t::l=>(match P.underlying t with|some .bool=>true|_=>false)&&Ft P l
theorem Dd {α:Type}:∀ {l:List (Nat×α)}{i:Nat}{a:α},find l i=some a→(i,a)∈l
 |(j,b)::l,i,a,h=>by
  simp only[find]at h
  cases hb:Nat.beq i j with
  |true=>rw[hb]at h;simp at h;subst h;rw[Nat.eq_of_beq_eq_true hb];exact List.mem_cons_self ..
  |false=>rw[hb]at h;exact List.mem_cons_of_mem _ (Dd h)
theorem OK {bL:List dM}:∀ {l:List (Nat×T)},Kr bL l=true→∀ p∈l,∀ q,nth bL p.1=some q→Nat.beq q.k 9=false∧q.sz=sz p.2∧q.zs.length=sz p.2
 |(E,t)::l,h,p,hp,q,hq=>by
  simp only[Kr,Bool.and_eq_true]at h
  rcases List.mem_cons.1 hp with rfl|hp
  ·have h1:=h.1
   simp only[hq,Bool.and_eq_true,Bool.not_eq_true']at h1
   exact⟨h1.1.1,Nat.eq_of_beq_eq_true h1.1.2,Nat.eq_of_beq_eq_true h1.2⟩
  ·exact OK h.2 p hp q hq
theorem M4 {P:Program}:∀ {l:List (Nat×IntKind)},JU P l=true→∀ p∈l,P.underlying p.1=some (.int p.2)
 |(t,k)::l,h,p,hp=>by
  simp only[JU,Bool.and_eq_true]at h
  rcases List.mem_cons.1 hp with rfl|hp
  ·have h1:=h.1
   split at h1
   ·rename_i k' hk;rw[hk,of_decide_eq_true h1]
   ·cases h1
  ·exact M4 h.2 p hp
theorem Iw {P:Program}:∀ {l:List Nat},Ft P l=true→∀ t∈l,P.underlying t=some .bool
 |t::l,h,p,hp=>by
  simp only[Ft,Bool.and_eq_true]at h
  rcases List.mem_cons.1 hp with rfl|hp
  ·have h1:=h.1
   split at h1
   ·assumption
   ·cases h1
  ·exact Iw h.2 p hp
def Fu (P:Program):List Nat→Bool
 |[]=>true
 |t::l=>(match P.underlying t with|some (.func _ _ _)=>true|some (.map _ _)=>true|_=>false)&&Fu P l
theorem Ix {P:Program}:∀ {l:List Nat},Fu P l=true→∀ t∈l,∃ d,P.underlying t=some d∧nA P t=false
 |t::l,h,p,hp=>by
  simp only[Fu,Bool.and_eq_true]at h
  rcases List.mem_cons.1 hp with rfl|hp
  ·have h1:=h.1
   split at h1
   ·rename_i hu;exact⟨_,hu,by unfold nA;rw[hu]⟩
   ·rename_i hu;exact⟨_,hu,by unfold nA;rw[hu]⟩
   ·cases h1
  ·exact Ix h.2 p hp
def Fy (P:Program):List Nat→Bool
 |[]=>true
 |t::l=>(match P.underlying t with|some .string=>true|_=>false)&&Fy P l
theorem IA {P:Program}:∀ {l:List Nat},Fy P l=true→∀ t∈l,P.underlying t=some .string
 |t::l,h,p,hp=>by
  simp only[Fy,Bool.and_eq_true]at h
  rcases List.mem_cons.1 hp with rfl|hp
  ·have h1:=h.1
   split at h1
   ·assumption
   ·cases h1
  ·exact IA h.2 p hp
def Fw (P:Program):List Nat→Bool
 |[]=>true
 |t::l=>(match P.underlying t with
  |some (.map k e)=>(match P.underlying k,P.info? e with
   |some (.int .i64),some i=>(match i.zero with|some (.int .i64 n)=>decide (n=0)|_=>false)
   |_,_=>false)
  |_=>false)&&Fw P l
theorem Iz {P:Program}:∀ {l:List Nat},Fw P l=true→∀ t∈l,A8 P t
 |t::l,h,p,hp=>by
  simp only[Fw,Bool.and_eq_true]at h
  rcases List.mem_cons.1 hp with rfl|hp
  ·have h1:=h.1
   split at h1
   ·rename_i k e hu
    split at h1
    ·rename_i i hk he
     split at h1
     ·rename_i n hz
      have:=of_decide_eq_true h1
      subst this
      exact⟨k,e,i,hu,hk,he,hz⟩
     ·cases h1
    ·cases h1
   ·cases h1
  ·exact Iz h.2 p hp
def Fv (P:Program):List Nat→Bool
 |[]=>true
 |t::l=>(match P.underlying t with|some (.interface _)=>true|_=>false)&&Fv P l
theorem Iy {P:Program}:∀ {l:List Nat},Fv P l=true→∀ t∈l,P.underlying t=some (.interface (P.methodsAt t))
 |t::l,h,p,hp=>by
  simp only[Fv,Bool.and_eq_true]at h
  rcases List.mem_cons.1 hp with rfl|hp
  ·have h1:=h.1
   split at h1
   ·rename_i ms hu;rw[hu];simp[Program.methodsAt,hu]
   ·cases h1
  ·exact Iy h.2 p hp
noncomputable def Nr (Z:Seat) (gl:List (Nat×List I)) (RQ:List (Nat×T)) (QZ:List (Nat×IntKind)) (bs fs ss ms is:List Nat) (Wn:List (Nat×Nat)) (h1:∀ g h,Z.nU g=(find gl g).map (I.al h)) (h2:Kr Z.bL RQ=true) (h3:JU Z.P QZ=true) (h4:Ft Z.P bs=true) (h5:Fu Z.P fs=true) (h6:Fy Z.P ss=true) (h7:Fw Z.P ms=true) (h8:Fv Z.P is=true):aX :=
 { Z with
  gI:=find gl,adf:=h1,ty:=find RQ,ik:=find QZ,isB:=fun t=>bc t bs
  Ks:=fun E t q hE hq=>OK h2 (E,t) (Dd hE) q hq
  JV:=fun t k hk=>M4 h3 (t,k) (Dd hk)
  M7:=fun t ht=>Iw h4 t (bw.1 ht),Q0:=fun t=>bc t fs,M9:=fun t ht=>Ix h5 t (bw.1 ht),Fx:=fun t=>bc t ss,tK:=fun t ht=>IA h6 t (bw.1 ht),Na:=fun t=>bc t ms,Nb:=fun t ht=>Iz h7 t (bw.1 ht),isI:=fun t=>bc t is,X7:=fun t ht=>Iy h8 t (bw.1 ht),bt:=find Wn }
end Go.Ab
namespace Go.Proofs.YtbhjjkekphpldaaGreatDoor
open Go Go.Ab
set_option linter.all false
set_option maxRecDepth 100000
def RQ:List (Nat×T):=[(91,.se .Region),(2,.int .i64),(3,.int .i64),(4,.bool),(5,.int .u8),(6,.int .u8),(9,.str),(10,.str),(11,.str),(12,.int .u64),(21,.int .i32),(22,.sl .dt),(23,.iH),(25,.aI),(27,.Span),(28,.sl .bq),(30,.aN),(31,.sl .aU),(32,.sl .fF),(34,.aH),(35,.sl .Path),(36,.sl .cY),(37,.sl .Span),(38,.sl .cd),(40,.aw),(42,.br),(43,.sl .Driver),(45,.bb),(47,.bR),(49,.Region),(50,.sl (.int .i64)),(58,.aU),(60,.cd),(61,.sl .eh),(63,.Driver),(64,.int .i64),(72,.int .u64),(74,.ax),(82,.dt),(86,.iI),(89,.sl .str),(90,.int .u64),(94,.sl .aS),(96,.bI),(98,.sl .ff),(100,.aS),(111,.bq),(113,.cY),(119,.Path),(125,.fF),(152,.iB),(154,.ff),(157,.pC),(161,.eh),(172,.sl (.int .u8)),(181,.err),(197,.sl .jN),(199,.sl .bU),(246,.int .u32),(252,.jN),(261,.bU),(264,.sl .Closure),(302,.Closure),(311,.bF),(323,.sl .iw),(326,.gq),(330,.iw),(335,.sl .gq),(342,.sl (.sl .Span)),(354,.sl .bool),(379,.int .i64),(449,.int .u8),(450,.int .u8),(452,.int .i32),(453,.int .i32)]
def QZ:List (Nat×IntKind):=[(2,.i64),(3,.i64),(5,.u8),(6,.u8),(12,.u64),(21,.i32),(64,.i64),(72,.u64),(90,.u64),(246,.u32),(379,.i64),(449,.u8),(450,.u8),(452,.i32),(453,.i32)]
def fls:List Nat:=[1,51,52,54,55,56,65,66,67,68,69,70,71,75,76,77,78,79,83,84,88,91,92,93,97,101,102,103,104,106,108,109,115,116,117,120,121,122,123,126,127,128,129,130,131,132,135,136,137,138,140,141,142,143,145,146,147,150,155,156,158,159,162,163,164,165,166,167,168,169,170,175,176,177,178,179,183,184,185,189,190,192,193,194,195,196,204,205,208,212,214,216,217,218,219,220,222,223,224,225,227,228,229,231,232,235,237,238,240,245,248,249,250,253,254,257,258,259,262,263,266,267,269,270,272,273,274,276,277,278,281,283,285,286,287,288,289,292,296,297,298,299,300,303,304,305,307,308,309,312,313,314,315,316,320,324,327,328,331,332,333,334,337,338,339,341,346,347,348,349,350,351,352,353,355,356,357,359,360,361,367,368,369,370,371,372,373,374,375,377,378,381,383,384,387,388,389,390,391,392,393,394,396,397,398,399,400,401,403,407,408,409,410,411,412,413,414,416,417,420,421,422,423,424,425,426,427,428,429,432,433,434,438,439,441,442,443,451]
def qa:List Nat:=[428]
def sls:List Nat:=[9,10,11]
def bls:List Nat:=[4]
def gls:List (Nat×List I):=[(0,[.lk .ai]),(3,[.str (⟨#[]⟩:ByteArray),.str (⟨#[115,117,114,101]⟩:ByteArray),.str (⟨#[110,101,118,101,114]⟩:ByteArray),.str (⟨#[111,112,101,110]⟩:ByteArray)]),(4,[.int .u64 1,.int .u64 10,.int .u64 100,.int .u64 1000,.int .u64 10000,.int .u64 100000,.int .u64 1000000,.int .u64 10000000,.int .u64 100000000,.int .u64 1000000000,.int .u64 10000000000,.int .u64 100000000000,.int .u64 1000000000000,.int .u64 10000000000000,.int .u64 100000000000000,.int .u64 1000000000000000,.int .u64 10000000000000000,.int .u64 100000000000000000,.int .u64 1000000000000000000,.int .u64 10000000000000000000]),(5,[.str (⟨#[]⟩:ByteArray),.str (⟨#[116,104,105,110]⟩:ByteArray),.str (⟨#[109,97,114,107]⟩:ByteArray),.str (⟨#[115,116,97,108,101]⟩:ByteArray)]),(8,[.int .i64 0,.int .i64 0,.int .i64 1,.int .i64 0,.int .i64 0,.int .i64 1,.int .i64 1,.int .i64 1]),(9,[.lk .nn]),(10,[.lk .nn])]
def ifs:List Nat:=[20,180,181]
def Wn:List (Nat×Nat):=[(174,5)]
noncomputable def ae:aX:=Nr Vn gls RQ QZ bls fls sls qa ifs Wn (fun g h=>by cases g with|zero=>rfl|succ g=>cases g with|zero=>rfl|succ g=>cases g with|zero=>rfl|succ g=>cases g with|zero=>rfl|succ g=>cases g with|zero=>rfl|succ g=>cases g with|zero=>rfl|succ g=>cases g with|zero=>rfl|succ g=>cases g with|zero=>rfl|succ g=>cases g with|zero=>rfl|succ g=>cases g with|zero=>rfl|succ g=>cases g with|zero=>rfl|succ g=>rfl) (by kernel_rfl) (by kernel_rfl) (by kernel_rfl) (by kernel_rfl) (by kernel_rfl) (by kernel_rfl) (by kernel_rfl)
end Go.Proofs.YtbhjjkekphpldaaGreatDoor
