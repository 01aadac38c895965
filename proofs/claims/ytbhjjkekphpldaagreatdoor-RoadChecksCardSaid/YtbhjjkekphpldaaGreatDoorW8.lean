/- Walks by computing: what each function of the program that the laws reach gives for what it gets, as plain Lean, and that it is so; without a condition but those that stand in each theorem. -/
import Derived.Test.YtbhjjkekphpldaaGreatDoorW1
import Derived.Test.YtbhjjkekphpldaaGreatDoorW2
import Derived.Test.YtbhjjkekphpldaaGreatDoorW3
import Derived.Test.YtbhjjkekphpldaaGreatDoorW4
import Derived.Test.YtbhjjkekphpldaaGreatDoorW5
import Derived.Test.YtbhjjkekphpldaaGreatDoorW6
import Derived.Test.YtbhjjkekphpldaaGreatDoorW7
set_option linter.all false
namespace Go.Ab
open Go Go.RowKit
noncomputable section
set_option linter.all false
set_option maxHeartbeats 1000000
def amU (X:Ctx) (rs:List ResultVar) (l':List D) (R:D):Exit→St→Prop
 |.normal,S|.ret,S=>∃ S' ds l,Wk X S S'∧S'.γ 0=1∧S'.σ 0=.box l∧gZ X S' rs ds∧(∀ κ γ sv v,aW κ γ sv (fR ds) v→aW κ γ sv R v)∧∀ κ γ sv vs,aD κ γ sv l vs→aD κ γ sv l' vs
 |_,_=>False
theorem CM {Z : Seat} {f : FuncId} {fn : Func} {c : Code} {l l' A : List D} {R : D} (hf : Z.P.funcs[f]? = some fn) (hb : fn.body = some c) (cV : (fn.name == "runtime.NumGoroutine") = false) (hn : Nat.ble (A.length + 1) fn.ntmps = true)
  (hl:ab l) (ir:ab l') (hc:aY l=true) (lB:aY l'=true) (hA:ab A) (hR:Pure R)
  (h:∀ w κ b,W (Ctx.plain Z fn.ntmps w κ (some b)) c (amU (Ctx.plain Z fn.ntmps w κ (some b)) fn.results.toList l' R) (St.pU l A)):mw Z f l l' A R:=by
 refine ⟨hA,hR,hl,ir,lB,⟨fn,c,hf,hb,cV⟩,fun w κ args b T cs bQ lf hh jZ dV cq=>?_⟩
 refine (callsIn_wide (n:=0)).1 (callsIn_of_wp_marks hf hb trivial ?_ rfl)
 have hlen:A.length+1≤fn.ntmps:=Nat.le_of_ble_eq_true hn
 have sE:=cq.length
 let sv:Nat→Value:=aG eV 0 (.pointer (some ⟨b,0,none⟩))
 let γ:Nat→Nat:=aG (fun _=>0) 0 1
 have xB:aD κ γ sv (.bx 0 1 0::A) (Value.pointer (some ⟨b,0,none⟩)::args) :=
  .cons _ _ _ _ (.bx _ _ _ _ (Nat.le_refl _) (fun _=>⟨b,rfl,rfl⟩) rfl) (cq.pure (fun _ _ _ h=>h) hA)
 have aF:∀ s b',aL (aG (fun _=>Own.none) 0 (.box l) s) (sv s)=some b'→s=0∧b'=b:=by
  intro s b' hs
  by_cases e:s=0
  ·subst e;rw[aC]at hs;simp only[sv,aC,aL,Option.some.injEq]at hs;exact⟨rfl,hs.symm⟩
  ·rw[bh _ _ _ _ e]at hs;cases hs
 have fK:bk (Ctx.plain Z fn.ntmps w κ (some b)) κ sv (St.pU l A) { tmps:=(Value.pointer (some ⟨b,0,none⟩)::args).toArray++Array.replicate (fn.ntmps - (Value.pointer (some ⟨b,0,none⟩)::args).toArray.size) Go.undef,defers:=[] } w:=by
  refine ⟨by simp[Ctx.plain];omega,jU.nil rfl,fun i _=>jq xB _ i,?_⟩
  refine ⟨bQ,fun s=>?_,fun s t b' hs ht=>(aF s b' hs).1.trans (aF t b' ht).1.symm,fun s b' o hs=>?_,fun s b' hs=>.inr (.inl (by rw[(aF s b' hs).2];rfl)),⟨fun k=>k=b,⟨Frame.refl _ _,fun k h=>.inr (by rw[h])⟩,fun s b' hs=>(aF s b' hs).2⟩,fun g l hg=>?_,fun b o v _ hk=>hk,fun b' bz=>?_,Nat.le_refl _,⟨fun _ _ _ h=>(by cases h),fun _=>Nat.zero_le _,fun s (e:0=γ s)=>bh _ _ _ _ (fun e2=>by subst e2;simp only[γ,aC]at e;cases e)⟩,fun _ _ _ _ h=>h,fun _ _ _ h=>h,fun _ h=>h.elim,lM dV (fun b' e o=>by have e:some b=some b':=e;simp only[Option.some.injEq]at e;subst e;exact lf o) (fun _ e=>e.elim)⟩
  ·by_cases e:s=0
   ·subst e
    exact⟨b,T,cs,rfl,hh,jZ.pure (fun _ _ _ h=>h) hl,.pure hc hl⟩
   ·show fB _ _ _ _ _ s (aG (fun _=>Own.none) 0 (.box l) s)
    rw[bh _ _ _ _ e];trivial
  ·rw[(aF s b' hs).2];exact lf o
  ·obtain ⟨h1,u,h2,h3⟩:=dV.1 g l hg
   exact⟨h1,u,h2.pure (fun _ _ _ h=>h) (Z.qQ g l hg),h3⟩
  ·have bz:some b=some b':=bz
   simp only[Option.some.injEq]at bz
   subst bz
   exact⟨Nat.le_refl _,fun _=>rfl⟩
 refine wpIn_mono (h w κ b κ sv _ w fK) ?_
 rintro e a' w' ⟨aA,aQ,S',hs,hq⟩
 cases e<;>first|exact hq.elim|skip
 all_goals
  obtain ⟨S2,ds,m,hw,dk,qU,hd,E4,ME⟩:=hq
  obtain ⟨fh,fI,hs⟩:=hw _ _ _ _ hs
  obtain ⟨Ds,d1,d2,d3,_⟩:=hs.defers
  show LeavesInM _ _ _ _ _ _ a'.defers _ _
  rw[d1]
  refine j3 rfl kc hd (fun a w v hs h2=>?_) Ds a' w' hs d1 d2 d3
  have qR:=(hs.aJ.ba b rfl).2 dk
  have aP:=hs.aJ.own 0
  rw[qU]at aP
  obtain ⟨b2,T2,cs2,e1,e2,e3,e4⟩:=aP
  rw[qR]at e1
  simp only[Value.pointer.injEq,Option.some.injEq,Addr.mk.injEq,and_true]at e1
  subst e1
  obtain ⟨M,h1,_⟩:=hs.aJ.frame
  exact⟨v,cs2,T2,rfl,e2,(ME _ _ _ _ e3).pure (zE hs.aJ) ir,(E4 _ _ _ _ h2).pure (zE hs.aJ) hR,h1.1⟩
section
variable {R:Type}{X:Ctx}{Z:aX}{r:R}
def pU (l A:List I):IS:=⟨enum 0 (.bx 0 1 0::A),[(0,1)],[(0,.box l)]⟩
theorem Gd (l A:List I):(pU l A).toSt zh=St.pU (I.al zh l) (I.al zh A):=by
 unfold IS.toSt St.pU pU
 congr 1
 ·funext i
  exact pf zh (.bx 0 1 0::A) 0 i (Nat.zero_le _)
 ·funext s
  simp only[IS.gen,kE,jL,kF,zh,aG]
  cases Nat.beq s 0<;>rfl
 ·funext s
  simp only[IS.own,kE,jL,kF,aG]
  cases Nat.beq s 0<;>rfl
def Ss (S:IS):List I:=match S.own 0 with|.box l=>l|_=>[]
def JI (Z:aX) (nt:Nat) (rv:List ResultVar) (bt:T) (ts:List T) (S:IS):Option (den bt×eQ ts):=match lh Z nt S rv with
 |some ds=>(match lh Z nt (gw S (dW S (ez ds++ez (Ss S)))) rv,(gw S (dW S (ez ds++ez (Ss S)))).own 0 with
  |some ds,.box l=>(match ew bt l,CT ts ds with|some y,some x=>some (y,x)|_,_=>none)
  |_,_=>none)
 |none=>none
def ada (Z:aX) (nt:Nat) (rv:List ResultVar) (bt:T) (ts:List T) (e:Option Nat) (S:IS):Option (den bt×eQ ts):=match e with
 |none=>JI Z nt rv bt ts S
 |some _=>none
theorem L7 {nt:Nat} (hX:At X Z nt) (hxf:∀ p,X.xa p=false) {rv:List ResultVar}{bt:T}{ts:List T}{S:IS}{y:den bt}{x:eQ ts}{h h':Nat→Nat} (hi:h 0+S.gen 0=1) (hr:JI Z nt rv bt ts S=some (y,x)) :
  ∃ S' ds l,Wk X (S.toSt h) S'∧S'.γ 0=1∧S'.σ 0=.box l∧gZ X S' rv ds∧(∀ κ γ sv v,aW κ γ sv (fR ds) v→aW κ γ sv ((kz ts x).toD h') v)∧∀ κ γ sv vs,aD κ γ sv l vs→aD κ γ sv (I.al h' (bj bt y)) vs:=by
 unfold JI at hr
 split at hr
 ·rename_i B6 _
  split at hr
  ·rename_i ds l Cf hl
   split at hr
   ·rename_i y' x' hy hx
    simp only[Option.some.injEq,Prod.mk.injEq]at hr
    obtain ⟨rfl,rfl⟩:=hr
    refine ⟨_,_,I.al h l,lz (dW S (ez B6++ez (Ss S))) S (fun p _=>hxf p),?_,?_,nu hX Cf,fun κ γ sv v hv=>?_,fun κ γ sv vs hv=>?_⟩
    ·show h 0+look 0 (gw S _).gs 0=1
     rw[ES];exact hi
    ·show ((gw S _).own 0).toOwn h=_
     rw[hl];rfl
    ·unfold kz
     rw[oU]
     exact Og (by simp only[fc,CU hx]) (fun vs mV=>CV hx mV) hv
    ·rw[bd,← bd h]
     exact iS (eE h (cM bt hy)) hv
   ·cases hr
  ·cases hr
 ·cases hr
def Xx {bt:T}{ts:List T} (it:It (den bt×eQ ts)) (E:bJ Z) (c:Code) (rv:List ResultVar) (l A:List I):Option (den bt×eQ ts) :=
 fC it E c ⟨[],[]⟩ (pU l A) (JI Z E.nt rv bt ts) (ada Z E.nt rv bt ts)
theorem WE (h:Nat→Nat):∀ (bf:List T) (a:aE bf),I.al h (ck bf a)=I.al zh (ck bf a):=by
 have key:∀ (t:T) (x:den t),(jx t x).toD h=(jx t x).toD zh:=fun t x=>by
  unfold jx
  cases lQ t with
  |true=>simp only[cond_true,I.toD,bd]
  |false =>
   simp only[cond_false]
   split
   ·rename_i d e
    have h1:=bd h t x
    rw[← bd zh,e]at h1
    simpa[I.al] using h1
   ·rfl
 intro bf
 induction bf with
 |nil=>intro a;rfl
 |cons t bf ih=>intro a;simp only[ck,I.al,ih,key]
theorem Ms {bt : T} {ts bf : List T} {E : bJ Z} {f : FuncId} {fn : Func} {c : Code} (hf : Z.P.funcs[f]? = some fn) (hb : fn.body = some c) (cV : (fn.name == "runtime.NumGoroutine") = false) (hn : Nat.beq fn.ntmps E.nt = true) (hl : Nat.ble (bf.length + 1) fn.ntmps = true) (hp : E.ba = [0]) (Fi : E.rf = false)
  {b y:den bt}{a:aE bf}{x:eQ ts} (hr:Xx aB E c fn.results.toList (bj bt b) (ck bf a)=some (y,x)) (h:Nat→Nat):mw Z.toSeat f (I.al h (bj bt b)) (I.al h (bj bt y)) (I.al h (ck bf a)) ((kz ts x).toD h):=by
 have sE:∀ (bf:List T) (a:aE bf),(ck bf a).length=bf.length:=fun bf=>by
  induction bf with
  |nil=>intro a;rfl
  |cons t bf ih=>intro a;simp only[ck,List.length_cons,ih]
 rw[WE h,bd h bt b,← bd zh bt b]
 have pb:∀ (h:Nat→Nat) (z:den bt),ab (I.al h (bj bt z)):=fun h z=>by rw[bd];exact cN bt z
 have cb:∀ (h:Nat→Nat) (z:den bt),aY (I.al h (bj bt z))=true:=fun h z=>by rw[bd];exact uC bt z
 refine CM hf hb cV (by rw[fc,sE];exact hl) (pb _ _) (pb _ _) (cb _ _) (cb _ _) (jk _ _ _) (uD _ _ _) fun w κ b'=>?_
 have hX:At (Ctx.plain Z.toSeat fn.ntmps w κ (some b')) Z E.nt:=At.pl rfl (Nat.eq_of_beq_eq_true hn) (fun _=>rfl)
 rw[← Gd]
 refine fM (fD c hX (fun h=>by rw[Fi]at h;cases h) (g0:=fun _=>1) ⟨[],[]⟩ rfl _ _ _ zh ⟨(fun g hg=>by rw[hp]at hg;simp only[List.mem_singleton]at hg;subst hg;rfl),⟨(fun p hp=>(nomatch hp)),(fun p hp=>(nomatch hp))⟩⟩ hr) ?_
 rintro e T ⟨h2,S,rfl,hi,hq⟩
 cases e with
 |normal=>exact L7 hX (fun _=>rfl) (hi.1 0 (by rw[hp];exact List.mem_cons_self ..)) hq
 |ret=>exact L7 hX (fun _=>rfl) (hi.1 0 (by rw[hp];exact List.mem_cons_self ..)) hq
 |exit i=>simp only[ada]at hq;cases hq
 |_=>exact hq.elim
theorem I8 {Z:Seat}{f:FuncId}{bt:T}{bf:List T}{l ds:List I}{b:den bt}{a:aE bf}{l':List D}{R:D}{h:Nat→Nat} (hb:ew bt l=some b) (hd:nT bf ds=some a) (dY:ab (I.al h l)) (hp:ab (I.al h ds)) (hc:mw Z f (I.al h (bj bt b)) l' (I.al h (ck bf a)) R):mw Z f (I.al h l) l' (I.al h ds) R :=
 ⟨hp,hc.FV,dY,hc.om,hc.xf,hc.body,fun w κ args b T cs h1 h2 h3 h4 h5 h6=>hc.calls w κ args b T cs h1 h2 h3 (iS (eE h (cM bt hb)) h4) h5 (qJ hd h6)⟩
def af8 (Z:Seat) (f:FuncId) (bt:T) (bf ts:List T) (F:den bt→aE bf→Option (den bt×eQ ts)) (hF:∀ b a y x,F b a=some (y,x)→∀ h,mw Z f (I.al h (bj bt b)) (I.al h (bj bt y)) (I.al h (ck bf a)) ((kz ts x).toD h)):fv Z where
 f:=f
 app:=fun l A k=>match ew bt l,nT bf A with|some b,some a=>(F b a).bind (fun p=>k (bj bt p.1) (kz ts p.2))|_,_=>none
 ok:=fun l A k r h=>by
  split at h
  ·rename_i b a hb ha
   cases hx:F b a with
   |none=>rw[hx]at h;cases h
   |some p =>
    obtain ⟨y,x⟩:=p
    rw[hx]at h
    exact⟨_,_,h,fun h=>I8 hb ha (qb (cM bt hb) h (by rw[bd];exact cN bt b)) (o7 ha) (hF b a y x hx h)⟩
  ·cases h
end
end
end Go.Ab
namespace Go.Ab
open Go Go.RowKit
set_option linter.all false
def dB (fn:Func):Code:=match fn.body with|some c=>c|none=>.skip
noncomputable def bT {α:Type} (x:α):α:=Classical.choose (⟨x,rfl⟩:∃ y,y=x)
theorem aO {α:Type} (x:α):bT x=x:=Classical.choose_spec (⟨x,rfl⟩:∃ y,y=x)
def aj (n:Int):Int:=IntKind.i64.wrap n
def DV (k:IntKind) (m n:Int):Int:=k.wrap (BitVec.ofInt k.bits m ^^^ BitVec.ofInt k.bits n).toNat
def Z4 (k:IntKind) (m n:Int):Int:=k.wrap (BitVec.ofInt k.bits m &&& BitVec.ofInt k.bits n).toNat
def oQ (k:IntKind) (m n:Int):Int:=m.fdiv (2 ^ (min n.toNat k.bits))
def Vp (k:IntKind) (m n:Int):Int:=k.wrap (m * 2 ^ (min n.toNat k.bits))
end Go.Ab
namespace Go.Ab
open Go Go.RowKit
noncomputable section
set_option linter.all false
set_option maxHeartbeats 1000000
def arj (X:Ctx) (rs:List ResultVar) (l':List D):Exit→St→Prop
 |.normal,S|.ret,S=>∃ S' s g l,Wk X S S'∧S'.γ s=g∧S'.σ s=.box l∧gZ X S' rs [.bx s g 0]∧∀ κ γ sv vs,aD κ γ sv l vs→aD κ γ sv l' vs
 |_,_=>False
theorem Eg {Z : Seat} {f : FuncId} {fn : Func} {c : Code} {A l' : List D} (hf : Z.P.funcs[f]? = some fn) (hb : fn.body = some c) (cV : (fn.name == "runtime.NumGoroutine") = false) (hn : Nat.ble A.length fn.ntmps = true) (hA : ab A) (ir : ab l') (lB : aY l' = true)
  (h:∀ w κ,W (Ctx.plain Z fn.ntmps w κ none) c (arj (Ctx.plain Z fn.ntmps w κ none) fn.results.toList l') (St.init A)):mu Z f A l':=by
 refine ⟨hA,ir,⟨fn,c,hf,hb,cV⟩,fun w κ args bQ dV cq=>?_⟩
 refine (callsIn_wide (n:=0)).1 (callsIn_of_wp_marks hf hb trivial ?_ rfl)
 have hlen:A.length≤fn.ntmps:=Nat.le_of_ble_eq_true hn
 have sE:=cq.length
 have fK:bk (Ctx.plain Z fn.ntmps w κ none) κ eV (St.init A) { tmps:=args.toArray++Array.replicate (fn.ntmps - args.toArray.size) Go.undef,defers:=[] } w:=by
  refine ⟨by simp[Ctx.plain];omega,jU.nil rfl,fun i _=>jq cq _ i,?_⟩
  exact⟨bQ,fun _=>trivial,(fun s t b hs=>by cases hs),(fun s b o hs=>by cases hs),(fun s b hs=>by cases hs),⟨fun _=>False,⟨Frame.refl _ _,fun _ h=>h.elim⟩,fun s b hs=>by cases hs⟩,dV.1,fun b o v _ hk=>hk,(fun b hb=>by cases hb),Nat.le_refl _,⟨fun _ _ _ h=>(by cases h),fun _=>Nat.zero_le _,fun _ _=>rfl⟩,fun _ _ _ _ h=>h,fun _ _ _ h=>h,fun _ h=>h.elim,lM dV (fun _ e=>by cases e) (fun _ e=>e.elim)⟩
 refine wpIn_mono (h w κ κ eV _ w fK) ?_
 rintro e a' w' ⟨aA,aQ,S',hs,hq⟩
 cases e<;>first|exact hq.elim|skip
 all_goals
  obtain ⟨S2,s,g,l,hw,hg,aF,hd,E4⟩:=hq
  obtain ⟨fh,fI,hs⟩:=hw _ _ _ _ hs
  obtain ⟨Ds,d1,d2,d3,_⟩:=hs.defers
  show LeavesInM _ _ _ _ _ _ a'.defers _ _
  rw[d1]
  refine j3 rfl kc hd (fun a w' v hs h2=>?_) Ds a' w' hs d1 d2 d3
  obtain ⟨M,h1,_⟩:=hs.aJ.frame
  have aP:=hs.aJ.own s
  rw[aF]at aP
  obtain ⟨b,T,cs,e1,e2,e3,e4⟩:=aP
  have bP:aL (S2.σ s) (fI s)=some b:=by rw[aF,e1];rfl
  have ee:w.heap.size≤b:=(hs.aJ.oI s b bP).resolve_right (fun h=>by rcases h with h|h<;>cases h)
  have hv:v=.pointer (some ⟨b,0,none⟩):=by
   simp only[fR]at h2
   cases h2 with
   |bx _ _ _ _ _ hh _ =>
    obtain ⟨b',q1,q2⟩:=hh hg.symm
    rw[e1]at q1
    simp only[Value.pointer.injEq,Option.some.injEq,Addr.mk.injEq,and_true]at q1
    rw[q2,q1]
  have hk:∀ b o u,fh b o=some u→(fun b o=>if b<w.heap.size then κ b o else fh b o) b o=some u:=fun b o u hu=>by
   simp only
   split
   ·exact hs.aJ.nf b o u (by assumption) hu
   ·exact hu
  have h6:=E4 _ _ _ _ e3
  refine ⟨b,T,cs,fun b o=>if b<w.heap.size then κ b o else fh b o,by rw[hv],ee,e2,h6.pure hk ir,lB,fun b o u hu=>?_,fun b o u hb hu=>?_,fun b o u hu=>?_,fun o=>?_,h1.1.below⟩
  ·have:b<w.heap.size:=by have:=World.block_lt_of_cell? w _ (bQ b o u hu);simpa using this
   simp only;rw[if_pos this];exact hu
  ·simp only at hu;rw[if_pos hb]at hu;exact hu
  ·simp only at hu
   split at hu
   ·rename_i hb
    have h3:=bQ b o u hu
    rw[h1.1.below.cell (by simpa using hb)];exact h3
   ·exact hs.aJ.gU b o u hu
  ·simp only;rw[if_neg (by omega)]
   exact hs.aJ.sep s b o bP
section
variable {X:Ctx}{Z:aX}
def JG (Z:aX) (nt:Nat) (rv:List ResultVar) (bt:T) (S:IS):Option (den bt):=match rv with
 |[v]=>(match ub Z nt S v with
  |some (.bx s g 0)=>live S s g (match S.own s with
   |.box l=>(match (gw S (dW S (ez l))).own s with
    |.box l=>bif Nat.beq 0 0 then ew bt l else none
    |_=>none)
   |_=>none)
  |_=>none)
 |_=>none
theorem aaD {S:IS}{p s g o:Nat}{rv:ResultVar}{nt:Nat} (hr:ub Z nt S rv=some (.bx s g o)) (ht:∃ t,rv=.tmp t):ub Z nt (zH S p) rv=some (.bx s g o):=by
 obtain ⟨t,rfl⟩:=ht
 simp only[ub,IS.ev,Option.some.injEq]at hr ⊢
 cases hb:Nat.blt t nt with
 |false=>rw[hb]at hr;cases hr
 |true =>
  rw[hb]at hr
  simp only[cond_true]at hr ⊢
  unfold zH
  split
  ·show look .undef (gz _ S.rs) t=_
   rw[iR rfl]
   have h3:look .undef S.rs t=.bx s g o:=hr
   rw[h3];rfl
  ·exact hr
theorem QE {s g o:Nat}{rv:ResultVar}{nt:Nat} (ht:∃ t,rv=.tmp t):∀ (l:List Nat) (S:IS),ub Z nt S rv=some (.bx s g o)→ub Z nt (gw S l) rv=some (.bx s g o)
 |[],S,hr=>hr
 |p::l,S,hr=>QE ht l _ (aaD hr ht)
theorem L5 {nt:Nat} (hX:At X Z nt) (hxf:∀ p,X.xa p=false) {rv:List ResultVar}{bt:T}{S:IS}{y:den bt}{h h':Nat→Nat} (ht:∃ t,rv=[.tmp t]) (hr:JG Z nt rv bt S=some y) :
  ∃ S' s g l,Wk X (S.toSt h) S'∧S'.γ s=g∧S'.σ s=.box l∧gZ X S' rv [.bx s g 0]∧∀ κ γ sv vs,aD κ γ sv l vs→aD κ γ sv (I.al h' (bj bt y)) vs:=by
 obtain ⟨t,rfl⟩:=ht
 simp only[JG]at hr
 split at hr
 ·rename_i s g hv
  replace hr:=cX hr
  obtain ⟨rfl,hr⟩:=hr
  split at hr
  ·rename_i l0 hl0
   split at hr
   ·rename_i l hl
    have hr:ew bt l=some y:=hr
    have h1:=QE (Z:=Z) ⟨t,rfl⟩ (dW S (ez l0)) S hv
    refine ⟨_,s,h s+S.gen s,I.al h l,lz (dW S (ez l0)) S (fun p _=>hxf p),?_,?_,⟨Ht hX h1,trivial⟩,fun κ γ sv vs hv=>?_⟩
    ·show h s+look 0 (gw S _).gs s=_
     rw[ES];rfl
    ·show ((gw S _).own s).toOwn h=_
     rw[hl];rfl
    ·rw[bd,← bd h]
     exact iS (eE h (cM bt hr)) hv
   ·cases hr
  ·cases hr
 ·cases hr
def ac9 (Z:aX) (nt:Nat) (rv:List ResultVar) (bt:T) (e:Option Nat) (S:IS):Option (den bt):=match e with
 |none=>JG Z nt rv bt S
 |some _=>none
def Xt {bt:T} (it:It (den bt)) (E:bJ Z) (c:Code) (rv:List ResultVar) (A:List I):Option (den bt):=fC it E c ⟨[],[]⟩ (lX A) (JG Z E.nt rv bt) (ac9 Z E.nt rv bt)
theorem Mn {bt : T} {bf : List T} {E : bJ Z} {f : FuncId} {fn : Func} {c : Code} (hf : Z.P.funcs[f]? = some fn) (hb : fn.body = some c) (cV : (fn.name == "runtime.NumGoroutine") = false) (hn : Nat.beq fn.ntmps E.nt = true) (hl : Nat.ble bf.length fn.ntmps = true) (hp : E.ba = []) (ht : ∃ t, fn.results.toList = [.tmp t])
  {a:aE bf}{y:den bt} (hr:Xt aB E c fn.results.toList (ck bf a)=some y) (h:Nat→Nat):mu Z.toSeat f (I.al h (ck bf a)) (I.al h (bj bt y)):=by
 have sE:∀ (bf:List T) (a:aE bf),(ck bf a).length=bf.length:=fun bf=>by
  induction bf with
  |nil=>intro a;rfl
  |cons t bf ih=>intro a;simp only[ck,List.length_cons,ih]
 rw[WE h]
 have pb:ab (I.al h (bj bt y)):=by rw[bd];exact cN bt y
 have cb:aY (I.al h (bj bt y))=true:=by rw[bd];exact uC bt y
 refine Eg hf hb cV (by rw[fc,sE];exact hl) (jk _ _ _) pb cb fun w κ=>?_
 have hX:At (Ctx.plain Z.toSeat fn.ntmps w κ none) Z E.nt:=At.pl rfl (Nat.eq_of_beq_eq_true hn) (fun _=>rfl)
 rw[← kW]
 refine fM (fD c hX (fun _=>⟨_,_,_,_,rfl⟩) (g0:=zh) ⟨[],[]⟩ rfl _ _ _ zh ⟨(fun g hg=>by rw[hp]at hg;cases hg),⟨(fun p hp=>(nomatch hp)),(fun p hp=>(nomatch hp))⟩⟩ hr) ?_
 rintro e T ⟨h2,S,rfl,_,hq⟩
 cases e with
 |normal=>exact L5 hX (fun _=>rfl) ht hq
 |ret=>exact L5 hX (fun _=>rfl) ht hq
 |exit i=>simp only[ac9]at hq;cases hq
 |_=>exact hq.elim
theorem I7 {Z:Seat}{f:FuncId}{bf:List T}{ds:List I}{a:aE bf}{l:List D}{h:Nat→Nat} (hd:nT bf ds=some a) (hp:ab (I.al h ds)) (hc:mu Z f (I.al h (ck bf a)) l):mu Z f (I.al h ds) l :=
 ⟨hp,hc.sP,hc.body,fun w κ args hf hg hr=>hc.calls w κ args hf hg (qJ hd hr)⟩
def af1 (Z:Seat) (f:FuncId) (bt:T) (bf:List T) (F:aE bf→Option (den bt)) (hF:∀ a y,F a=some y→∀ h,mu Z f (I.al h (ck bf a)) (I.al h (bj bt y))):oX Z where
 f:=f
 app:=fun A k=>match nT bf A with|some a=>(F a).bind (fun y=>k (bj bt y))|none=>none
 ok:=fun A k r h=>by
  split at h
  ·rename_i a ha
   cases hx:F a with
   |none=>rw[hx]at h;cases h
   |some y =>
    rw[hx]at h
    exact⟨_,h,fun h=>I7 ha (o7 ha) (hF a y hx h)⟩
  ·cases h
end
end
end Go.Ab
namespace Go.Ab
open Go Go.RowKit
noncomputable section
set_option linter.all false
set_option maxHeartbeats 1000000
def YL:Nat:=999983
section
variable {Z:aX}{bE:List T}
def yieldOf (Z:aX) (nt:Nat) (S:IS) (o:Oper):Option (Array Operand×Nat):=match o.op,o.dst,o.guard with
 |.call ⟨.value (.tmp x),xs,_⟩,some t,none=>(match S.ev Z nt (.tmp x) with
  |.yl s=>bif Nat.beq s YL&&Nat.beq (S.gen s) 0 then some (xs,t) else none
  |_=>none)
 |_,_,_=>none
def rl {α:Type} (a:α) (r1 r2:Option (List α)):Option (List α):=match r1 with
 |some []=>(match r2 with|some l=>some (a::l)|none=>none)
 |_=>none
def On:T→Bool
 |.int _=>true
 |.bool=>true
 |.str=>true
 |_=>false
def scI:I→Bool
 |.int _ _=>true
 |.bool _=>true
 |.str _=>true
 |.nil=>true
 |.agg l=>AP l
 |_=>false
mutual
def yg (S:IS):I→Option (I×List Nat)
 |.os s g=>(match S.own s with
  |.arr _ t l=>bif Nat.beq g (S.gen s)&&On t then some (.sl t l,[s]) else none
  |_=>none)
 |.bx s g o=>(match S.own s with
  |.box l=>bif Nat.beq g (S.gen s)&&AP l&&bV l then some (.rp l o,[s]) else none
  |_=>none)
 |.agg l=>(match Mz S l with|some x=>some (.agg x.1,x.2)|none=>none)
 |.fn f l=>(match Mz S l with|some x=>some (.fn f x.1,x.2)|none=>none)
 |.int k n=>some (.int k n,[])
 |.bool b=>some (.bool b,[])
 |.str b=>some (.str b,[])
 |.nil=>some (.nil,[])
 |_=>none
def Mz (S:IS):List I→Option (List I×List Nat)
 |[]=>some ([],[])
 |d::l=>(match yg S d with
  |some x=>(match Mz S l with|some y=>some (x.1::y.1,x.2++y.2)|none=>none)
  |none=>none)
end
def Ub (S:IS) (t:T) (d:I):Option (den t×List Nat):=match t,d with
 |.sl t',.os s g=>(match S.own s with
  |.arr _ t2 l=>bif Nat.beq g (S.gen s)&&On t' then (match kg t' t2 l with|some l'=>some (l',[s])|none=>none) else none
  |_=>none)
 |t,d=>bif scI d then (match ox t d with|some x=>some (x,[])|none=>none) else (match yg S d with
  |some p=>bif fL p.1.cells then (match ox t p.1 with|some x=>some (x,p.2)|none=>none) else none
  |none=>none)
def JS (S:IS):(ts:List T)→List I→Option (aE ts×List Nat)
 |[],[]=>some ((),[])
 |t::ts,d::ds=>(match Ub S t d with
  |some x=>(match JS S ts ds with|some y=>some ((x.1,y.1),x.2++y.2)|none=>none)
  |none=>none)
 |_,_=>none
def pH (S:IS) (ps:List Nat):IS:=⟨S.rs,S.gs,ps.map (fun p=>(p,aK.none))++S.os⟩
def BI (bE:List T) (E:CEnv Z) (F:Fix) (ops:Array Oper):List Oper→Bool→IS→(Bool→IS→Option (List (aE bE)))→Option (List (aE bE))
 |[],st,S,k=>k st S
 |o::rest,st,S,k=>match yieldOf Z E.nt S o with
  |some (xs,t)=>bif st then none else (match JS S bE (xs.toList.map (S.ev Z E.nt)) with
   |some (a,ps)=>ao (qP F ps&&!(bc t (keys F.sl))) (rl a (BI bE E F ops rest true ((pH S ps).set t (.bool false)) k) (BI bE E F ops rest false ((pH S ps).set t (.bool true)) k))
   |none=>none)
  |none=>ue E F ops [o] S (fun S1=>BI bE E F ops rest st S1 k)
def aaZ (bE:List T) (id:Nat) (kn:Bool→IS→Option (List (aE bE))) (kx:Option Nat→Bool→IS→Option (List (aE bE))) (e:Option Nat) (st:Bool) (S:IS):Option (List (aE bE)):=match e with
 |some i=>bif Nat.beq i id then kn st S else kx (some i) st S
 |none=>kx none st S
def ud (bE:List T) (it:It (List (aE bE))) (E:bJ Z):Code→Fix→Bool→IS→(Bool→IS→Option (List (aE bE)))→(Option Nat→Bool→IS→Option (List (aE bE)))→Option (List (aE bE))
 |.skip,_,st,S,kn,_=>kn st S
 |.region _ ops draw,F,st,S,kn,_=>bif draw then su E.toCEnv F ops ops.toList S [] (settle F (kn st)) else BI bE E.toCEnv F ops ops.toList st S kn
 |.seq a b,F,st,S,kn,kx=>ud bE it E a F st S (fun rW S'=>ud bE it E b F rW S' kn kx) kx
 |.cond c a b,F,st,S,kn,kx=>(match S.ev Z E.nt c with
  |.bool v=>bif v then ud bE it E a F st S kn kx else ud bE it E b F st S kn kx
  |_=>none)
 |.block id b,F,st,S,kn,kx=>ud bE it E b F st S kn (aaZ bE id kn kx)
 |.exit id,_,st,S,_,kx=>kx (some id) st S
 |.ret,_,st,S,_,kx=>kx none st S
 |.loop b,F,st,S,_,kx=>bif st then none else (match JO E.lp (BP b) S with
  |some L=>(match Ld F L S with
   |some F'=>nB E.ba F' L.K (it L.K.V (fun v kn=>ud bE it E b F' false (fA L.K F' v) (fun rW S'=>bif rW then none else nB E.ba F' L.K kn S') kx)) S
   |none=>none)
  |none=>none)
 |_,_,_,_,_,_=>none
def QI (bE:List T) (items:List (aE bE)) (p:List Nat) (g0:Nat→Nat) (F:Fix) (kn:Bool→IS→Option (List (aE bE))) (kx:Option Nat→Bool→IS→Option (List (aE bE))):Nat→Bool→Exit→St→Prop:=fun k st e T=>∃ h S l,T=S.toSt h∧Inv p g0 F h S∧(st=false→l=items.drop k)∧k≤items.length∧match e with
 |.normal=>kn st S=some l
 |.exit i=>kx (some i) st S=some l
 |.ret=>kx none st S=some l
 |_=>False
theorem o5 {En:Env}{c:Code}{Q Q':Nat→Bool→Exit→St→Prop}{k:Nat}{s:Bool}{S:St} (h:WI En c Q k s S) (hq:∀ k s e S,Q k s e S→Q' k s e S):WI En c Q' k s S:=fun U κ sv a W hs=>by
 refine wpIn_mono (h U κ sv a W hs) ?_
 rintro e a' W' ⟨k',s',U',aA,aQ,S',h1,h2⟩
 exact⟨k',s',U',aA,aQ,S',h1,hq _ _ _ _ h2⟩
theorem Ee {α:Type}{a:α}{r1 r2:Option (List α)}{l:List α} (h:rl a r1 r2=some l):r1=some []∧∃ m,r2=some m∧l=a::m:=by
 unfold rl at h
 split at h
 ·split at h
  ·simp only[Option.some.injEq]at h;exact⟨rfl,_,rfl,h.symm⟩
  ·cases h
 ·cases h
theorem C8 (S:IS):∀ (ps:List Nat) (s:Nat),(pH S ps).own s=bif bc s ps then .none else S.own s
 |[],s=>rfl
 |p::ps,s=>by
  show look aK.none ((p,.none)::(ps.map (fun p=>(p,aK.none))++S.os)) s=_
  simp only[kE,jL,kF,bc]
  cases Nat.beq s p with
  |true=>rfl
  |false=>exact C8 S ps s
theorem H0 (S:IS) (h:Nat→Nat) (ps:List Nat):(pH S ps).toSt h=(S.toSt h).drop ps:=by
 unfold IS.toSt St.drop
 congr 1
 funext s
 rw[C8]
 cases bc s ps<;>rfl
theorem Mv {F:Fix}:∀ {l:List Nat},qP F l=true→∀ p∈l,bc p (keys F.pl)=false
 |q::l,h,p,hp=>by
  simp only[qP,Bool.and_eq_true,Bool.not_eq_true']at h
  rcases List.mem_cons.1 hp with rfl|hp
  ·exact h.1.1
  ·exact Mv h.2 p hp
theorem Inv.drop {p:List Nat}{g0:Nat→Nat}{F:Fix}{h:Nat→Nat}{S:IS} (hi:Inv p g0 F h S) {ps:List Nat} (hp:qP F ps=true):Inv p g0 F h (pH S ps):=by
 refine ⟨hi.1,hi.2.1,fun q hq=>?_⟩
 rw[C8]
 cases hm:bc q.1 ps with
 |false=>exact hi.2.2 q hq
 |true =>
  have h1:=Mv hp q.1 (bw.1 hm)
  rw[bw.2 (iQ hq)]at h1;cases h1
theorem ag1 {h:Nat→Nat}{d:I} (hs:scI d=true):∀ (κ:Nat→Nat→Option Value) (γ:Nat→Nat) (sv:Nat→Value) (v:Value),aW κ γ sv (d.toD h) v→∀ (aA:Nat→Nat→Option Value) (cU:Nat→Nat) (aQ:Nat→Value),aW aA cU aQ (d.toD h) v:=by
 intro κ γ sv v hr aA cU aQ
 cases d with
 |int k n=>cases hr;exact .int _ _
 |bool b=>cases hr;exact .bool _
 |str b=>cases hr;exact .str _
 |nil=>cases hr;exact .nil
 |agg l =>
  have zV:F6 [.agg l]=true:=by
   show (AP l&&true)=true
   rw[show AP l=true from hs];rfl
  obtain ⟨vs,mV⟩:=F7 (h:=h) zV
  have e1:mc ((I.agg l).toD h)=some (vs.headD Go.undef):=by
   simp only[I.al,j8]at mV
   cases hq:mc ((I.agg l).toD h) with
   |none=>rw[hq]at mV;cases mV
   |some u=>rw[hq]at mV;simp at mV;subst mV;rfl
  rw[DM e1 hr];exact AQ e1
 |_=>cases hs
theorem RH {t:T} (ht:On t=true) (x:den t):∃ vs,ll (bN t x)=some vs:=by
 cases t<;>first|(cases ht;done)|exact⟨_,rfl⟩
mutual
theorem XE {S:IS}{h:Nat→Nat}{ps:List Nat}:∀ {d d':I}{p1:List Nat},yg S d=some (d',p1)→(∀ p∈p1,p∈ps)→yd (S.toSt h) ps (d.toD h) (d'.toD zh)
 |.os s g,d',p1,hg,hp=>by
  unfold yg at hg
  split at hg
  ·rename_i E t l aF
   cases hb:Nat.beq g (S.gen s)&&On t with
   |false=>rw[hb]at hg;cases hg
   |true =>
    rw[hb]at hg
    simp only[cond_true,Option.some.injEq,Prod.mk.injEq]at hg
    obtain ⟨rfl,rfl⟩:=hg
    simp only[Bool.and_eq_true]at hb
    have e1:=Nat.eq_of_beq_eq_true hb.1
    subst e1
    exact .os s _ E (sz t) l.length (fun i=>bN t (l.getD i (bY t))) rfl (by show (S.own s).toOwn h=_;rw[aF];rfl) (hp s (List.mem_cons_self ..)) (fun i _=>RH hb.2 _)
  ·cases hg
 |.bx s g o,d',p1,hg,hp=>by
  unfold yg at hg
  split at hg
  ·rename_i l aF
   cases hb:Nat.beq g (S.gen s)&&AP l&&bV l with
   |false=>rw[hb]at hg;cases hg
   |true =>
    rw[hb]at hg
    simp only[cond_true,Option.some.injEq,Prod.mk.injEq]at hg
    obtain ⟨rfl,rfl⟩:=hg
    simp only[Bool.and_eq_true]at hb
    have e1:=Nat.eq_of_beq_eq_true hb.1.1
    subst e1
    show yd _ _ (.bx s (h s+S.gen s) o) (.rp (I.al zh l) o)
    rw[jB zh h l hb.2]
    exact .bx s _ o (I.al h l) rfl (by show (S.own s).toOwn h=_;rw[aF];rfl) (hp s (List.mem_cons_self ..)) (Om hb.1.2)
  ·cases hg
 |.agg l,d',p1,hg,hp=>by
  unfold yg at hg
  split at hg
  ·rename_i x hx
   simp only[Option.some.injEq,Prod.mk.injEq]at hg
   obtain ⟨rfl,rfl⟩:=hg
   exact .agg _ _ (EV (d':=x.1) (p1:=x.2) hx hp)
  ·cases hg
 |.fn f l,d',p1,hg,hp=>by
  unfold yg at hg
  split at hg
  ·rename_i x hx
   simp only[Option.some.injEq,Prod.mk.injEq]at hg
   obtain ⟨rfl,rfl⟩:=hg
   exact .fn f _ _ (EV (d':=x.1) (p1:=x.2) hx hp)
  ·cases hg
 |.int k n,d',p1,hg,hp=>by
  simp only[yg,Option.some.injEq,Prod.mk.injEq]at hg
  obtain ⟨rfl,rfl⟩:=hg
  exact .conv _ _ fun κ γ sv v hr aA cU aQ=>by cases hr;exact .int _ _
 |.bool b,d',p1,hg,hp=>by
  simp only[yg,Option.some.injEq,Prod.mk.injEq]at hg
  obtain ⟨rfl,rfl⟩:=hg
  exact .conv _ _ fun κ γ sv v hr aA cU aQ=>by cases hr;exact .bool _
 |.str b,d',p1,hg,hp=>by
  simp only[yg,Option.some.injEq,Prod.mk.injEq]at hg
  obtain ⟨rfl,rfl⟩:=hg
  exact .conv _ _ fun κ γ sv v hr aA cU aQ=>by cases hr;exact .str _
 |.nil,d',p1,hg,hp=>by
  simp only[yg,Option.some.injEq,Prod.mk.injEq]at hg
  obtain ⟨rfl,rfl⟩:=hg
  exact .conv _ _ fun κ γ sv v hr aA cU aQ=>by cases hr;exact .nil
 |.bn _,_,_,hg,_|.sl _ _,_,_,hg,_|.ft _ _,_,_,hg,_|.rp _ _,_,_,hg,_|.mb _ _ _,_,_,hg,_|.op _ _ _ _ _,_,_,hg,_|.ow _ _ _ _ _,_,_,hg,_|.yl _,_,_,hg,_|.mf _ _,_,_,hg,_|.one,_,_,hg,_|.lk _,_,_,hg,_|.er _,_,_,hg,_|.undef,_,_,hg,_=>by simp only[yg]at hg;cases hg
theorem EV {S:IS}{h:Nat→Nat}{ps:List Nat}:∀ {d d':List I}{p1:List Nat},Mz S d=some (d',p1)→(∀ p∈p1,p∈ps)→py (S.toSt h) ps (I.al h d) (I.al zh d')
 |[],d',p1,hg,hp=>by
  simp only[Mz,Option.some.injEq,Prod.mk.injEq]at hg
  obtain ⟨rfl,rfl⟩:=hg
  exact .nil
 |d::l,d',p1,hg,hp=>by
  unfold Mz at hg
  split at hg
  ·rename_i x hx
   split at hg
   ·rename_i y hy
    simp only[Option.some.injEq,Prod.mk.injEq]at hg
    obtain ⟨rfl,rfl⟩:=hg
    exact .cons _ _ _ _ (XE (d':=x.1) (p1:=x.2) hx (fun p hq=>hp p (List.mem_append_left _ hq))) (EV (d':=y.1) (p1:=y.2) hy (fun p hq=>hp p (List.mem_append_right _ hq)))
   ·cases hg
  ·cases hg
end
theorem afj {t:T}{d:I}{x:den t} (hd:ox t d=some x) (hn:fL d.cells=true):jx t x=d:=by
 unfold ox at hd
 unfold jx
 cases hi:lQ t with
 |true =>
  rw[hi]at hd
  simp only[cond_true]at hd ⊢
  split at hd
  ·rename_i l
   rw[ie (cM t hd) hn]
  ·cases hd
 |false =>
  rw[hi]at hd
  simp only[cond_false]at hd ⊢
  have hn1:fL [d]=true:=by
   cases d<;>first|exact hn|rfl
  rw[← ie (cM t hd) hn1]
theorem aaG {S:IS}{h:Nat→Nat}{t:T}{d:I}{x:den t}{p1 ps:List Nat} (hg:Ub S t d=some (x,p1)) (hp:∀ p∈p1,p∈ps):yd (S.toSt h) ps (d.toD h) ((jx t x).toD zh):=by
 unfold Ub at hg
 split at hg
 ·rename_i t' s g
  split at hg
  ·rename_i E t2 l aF
   cases hb:Nat.beq g (S.gen s)&&On t' with
   |false=>rw[hb]at hg;cases hg
   |true =>
    rw[hb]at hg
    simp only[cond_true]at hg
    simp only[Bool.and_eq_true]at hb
    split at hg
    ·rename_i l' hl
     simp only[Option.some.injEq,Prod.mk.injEq]at hg
     obtain ⟨rfl,rfl⟩:=hg
     have e1:=Nat.eq_of_beq_eq_true hb.1
     subst e1
     have e2:=nZ hl
     simp only[I.sl.injEq]at e2
     obtain ⟨rfl,e2⟩:=e2
     have e2:=eq_of_heq e2
     subst e2
     exact .os s _ E (sz t2) l.length (fun i=>bN t2 (l.getD i (bY t2))) rfl (by show (S.own s).toOwn h=_;rw[aF];rfl) (hp s (List.mem_cons_self ..)) (fun i _=>RH hb.2 _)
    ·cases hg
  ·cases hg
 ·cases hs:scI d with
  |false =>
   rw[hs]at hg
   simp only[cond_false]at hg
   split at hg
   ·rename_i p QV
    cases hn:fL p.1.cells with
    |false=>rw[hn]at hg;cases hg
    |true =>
     rw[hn]at hg
     simp only[cond_true]at hg
     split at hg
     ·rename_i y hy
      simp only[Option.some.injEq,Prod.mk.injEq]at hg
      obtain ⟨rfl,rfl⟩:=hg
      rw[afj hy hn]
      exact XE (d':=p.1) (p1:=p.2) QV hp
     ·cases hg
   ·cases hg
  |true =>
   rw[hs]at hg
   simp only[cond_true]at hg
   split at hg
   ·rename_i y hy
    simp only[Option.some.injEq,Prod.mk.injEq]at hg
    obtain ⟨rfl,rfl⟩:=hg
    exact .conv _ _ fun κ γ sv v hr aA cU aQ=>mJ hy (ag1 hs κ γ sv v hr aA cU aQ)
   ·cases hg
theorem Mw {S:IS}{h:Nat→Nat}{ps:List Nat}:∀ {ts:List T}{ds:List I}{x:aE ts}{p1:List Nat},JS S ts ds=some (x,p1)→(∀ p∈p1,p∈ps)→py (S.toSt h) ps (I.al h ds) (I.al zh (ck ts x))
 |[],[],x,p1,hg,hp=>.nil
 |[],_::_,x,p1,hg,hp=>by cases hg
 |_::_,[],x,p1,hg,hp=>by cases hg
 |t::ts,d::ds,x,p1,hg,hp=>by
  unfold JS at hg
  split at hg
  ·rename_i a ha
   obtain ⟨a1,a2⟩:=a
   split at hg
   ·rename_i b hb
    obtain ⟨b1,b2⟩:=b
    simp only[Option.some.injEq,Prod.mk.injEq]at hg
    obtain ⟨rfl,rfl⟩:=hg
    exact .cons _ _ _ _ (aaG ha (fun p hq=>hp p (List.mem_append_left _ hq))) (Mw hb (fun p hq=>hp p (List.mem_append_right _ hq)))
   ·cases hg
  ·cases hg
variable {En:Env}{items:List (aE bE)}
structure VP (En:Env) (Z:aX) (nt:Nat) (items:List (aE bE)):Prop where
 Z:En.Z=Z.toSeat
 nt:En.nt=nt
 n:En.n=items.length
 ug:∀ (i:Nat) (a:aE bE),items[i]?=some a→En.bE i=I.al zh (ck bE a)
theorem VP.at' {nt:Nat} (h:VP En Z nt items) (k:Nat) (s:Bool) (U:Nat→Prop):At (En.X k s U) Z nt:=At.pl h.Z h.nt (fun _=>rfl)
theorem xU {E:CEnv Z}{g0:Nat→Nat} (hX:VP En Z E.nt items) (lA:YL∈E.ba) (fx:g0 YL=En.l) {F:Fix} (hF:okF F=true) {ops:Array Oper}{kn:Bool→IS→Option (List (aE bE))}{kx:Option Nat→Bool→IS→Option (List (aE bE))} :
  ∀ (l:List Oper) (k:Nat) (st:Bool) (S:IS) (h:Nat→Nat) (r:List (aE bE)),Inv E.ba g0 F h S→BI bE E F ops l st S kn=some r→(st=false→r=items.drop k)→k≤items.length→D4 En ops l (QI bE items E.ba g0 F kn kx) k st (S.toSt h)
 |[],k,st,S,h,r,hi,hr,hd,hk=>V4 fun U=>KM ⟨h,S,r,rfl,hi,hd,hk,hr⟩
 |o::rest,k,st,S,h,r,hi,hr,hd,hk=>by
  unfold BI at hr
  split at hr
  ·rename_i xs t hy
   cases st with
   |true=>cases hr
   |false =>
    simp only[cond_false]at hr
    split at hr
    ·rename_i a ps ha
     obtain ⟨hc,hr⟩:=aq hr
     simp only[Bool.and_eq_true,Bool.not_eq_true']at hc
     obtain ⟨r1,m,r2,rfl⟩:=Ee hr
     have zO:=hd rfl
     have cz:k<items.length:=by
      have h1:(items.drop k).length=(a::m).length:=by rw[← zO]
      simp at h1;omega
     have hak:items[k]?=some a:=by
      have h1:(items.drop k)[0]?=some a:=by rw[← zO];rfl
      simpa using h1
     have hmk:m=items.drop (k+1):=by
      have h1:(items.drop k).tail=m:=by rw[← zO];rfl
      rw[← h1];simp
     unfold yieldOf at hy
     split at hy
     ·rename_i x oq ts t' ho gi hg
      split at hy
      ·rename_i ly hly
       cases hb:Nat.beq ly YL&&Nat.beq (S.gen ly) 0 with
       |false=>rw[hb]at hy;cases hy
       |true =>
        rw[hb]at hy
        simp only[Bool.and_eq_true]at hb
        have WD:=Nat.eq_of_beq_eq_true hb.1
        have eg:=Nat.eq_of_beq_eq_true hb.2
        simp only[cond_true,Option.some.injEq,Prod.mk.injEq]at hy
        obtain ⟨rfl,rfl⟩:=hy
        have fO:∀ y,(S.toSt h).ev (En.X k false fun _=>False) y=(S.ev Z E.nt y).toD h:=fun y=>dO (hX.at' k false _) y
        have aaO:oq.toList.map ((S.toSt h).ev (En.X k false fun _=>False))=I.al h (oq.toList.map (S.ev Z E.nt)):=by
         rw[ef,List.map_map]
         exact List.map_congr_left fun y _=>fO y
        have hT:=xU hX lA fx hF (kx:=kx) rest (k+1) false ((pH S ps).set t' (.bool true)) h m ((hi.drop hc.1).set hc.2 _) r2 (fun _=>hmk) (by omega)
        have XG:=xU hX lA fx hF (kx:=kx) rest (k+1) true ((pH S ps).set t' (.bool false)) h [] ((hi.drop hc.1).set hc.2 _) r1 (fun h=>by cases h) (by omega)
        rw[jF,H0]at hT XG
        have X1:(S.toSt h).ev (En.X k false fun _=>False) (.tmp x)=.yl En.l:=by
         rw[fO,hly]
         have h3:=hi.1 YL lA
         rw[WD]at eg
         rw[eg,Nat.add_zero,fx]at h3
         show D.yl (h ly)=_
         rw[WD,h3]
        exact HK (ps:=ps) ho hg gi X1 aaO (by rw[hX.ug k a hak];exact Mw ha (fun p hp=>hp)) (by rw[hX.n];exact cz) hT XG
      ·cases hy
     ·cases hy
    ·cases hr
  ·refine KI [o] rest fun U=>?_
   exact iL (hX.at' k st U) hF (fun h S' df Fg=>⟨rfl,xU hX lA fx hF rest k st S' h r df Fg hd hk⟩) [o] S h hi hr
theorem KL {c:Operand}{x y:Code}{Q:Nat→Bool→Exit→St→Prop}{k:Nat}{s:Bool}{S:St} (hc:S.ev (En.X k s fun _=>False) c=.bool true) (h:WI En x Q k s S):WI En (.cond c x y) Q k s S:=fun U κ sv a W hs=>by
 have h1:=hs.ev c
 have lB:S.ev (En.X k s U) c=.bool true:=hc
 rw[lB]at h1
 have:a.eval c=.bool true:=by generalize a.eval c=v at h1;cases h1;rfl
 exact wpIn_cond_true this (h U κ sv a W hs)
theorem KK {c:Operand}{x y:Code}{Q:Nat→Bool→Exit→St→Prop}{k:Nat}{s:Bool}{S:St} (hc:S.ev (En.X k s fun _=>False) c=.bool false) (h:WI En y Q k s S):WI En (.cond c x y) Q k s S:=fun U κ sv a W hs=>by
 have h1:=hs.ev c
 have lB:S.ev (En.X k s U) c=.bool false:=hc
 rw[lB]at h1
 have:a.eval c=.bool false:=by generalize a.eval c=v at h1;cases h1;rfl
 exact wpIn_cond_false this (h U κ sv a W hs)
theorem qZ {E:bJ Z}{g0:Nat→Nat} (hX:VP En Z E.nt items) (lA:YL∈E.ba) (fx:g0 YL=En.l):∀ (c:Code) (F:Fix),okF F=true→∀ (k:Nat) (st:Bool) (S:IS) (kn:Bool→IS→Option (List (aE bE))) (kx:Option Nat→Bool→IS→Option (List (aE bE))) (h:Nat→Nat) (r:List (aE bE)),
  Inv E.ba g0 F h S→ud bE aB E c F st S kn kx=some r→(st=false→r=items.drop k)→k≤items.length→WI En c (QI bE items E.ba g0 F kn kx) k st (S.toSt h)
 |.skip,F,hF,k,st,S,kn,kx,h,r,hi,hr,hd,hk=>PB ⟨h,S,r,rfl,hi,hd,hk,hr⟩
 |.region id ops draw,F,hF,k,st,S,kn,kx,h,r,hi,hr,hd,hk=>by
  have e:ops=ops.toList.toArray:=by simp
  cases draw with
  |false =>
   rw[e]
   refine HL ?_
   rw[← e]
   exact xU hX lA fx hF _ k st S h r hi hr hd hk
  |true =>
   refine V5 fun U=>KO (Q':=fun e T=>∃ h S',T=S'.toSt h∧Inv E.ba g0 F h S'∧e=.normal∧settle F (kn st) S'=some r) ?_ ?_
   ·rw[e]
    refine yT ?_
    rw[← e]
    exact pn (hX.at' k st U) (fun h S' hi hk=>⟨h,S',rfl,hi,rfl,hk⟩) _ S _ _ _ h hi hr
   ·rintro e T ⟨h1,S1,rfl,gj,rfl,jJ⟩
    obtain ⟨S2,h2,h3,h4⟩:=sQ (h:=h1) jJ
    exact⟨_,h3 _ (fun p h=>nomatch (show false=true from h)),h1,S2,r,rfl,h4 _ _ gj,hd,hk,h2⟩
 |.seq a b,F,hF,k,st,S,kn,kx,h,r,hi,hr,hd,hk=>by
  refine V7 (o5 (qZ hX lA fx a F hF k st S _ kx h r hi hr hd hk) ?_)
  rintro k' rW e T ⟨h',S',r',rfl,df,gi,lC,hq⟩
  cases e with
  |normal=>exact qZ hX lA fx b F hF k' rW S' kn kx h' r' df hq gi lC
  |exit i=>exact⟨h',S',r',rfl,df,gi,lC,hq⟩
  |ret=>exact⟨h',S',r',rfl,df,gi,lC,hq⟩
  |_=>exact hq.elim
 |.cond c a b,F,hF,k,st,S,kn,kx,h,r,hi,hr,hd,hk=>by
  simp only[ud]at hr
  split at hr
  ·rename_i v hv
   have fO:(S.toSt h).ev (En.X k st fun _=>False) c=.bool v:=by rw[dO (hX.at' k st _),hv];rfl
   cases v with
   |true=>exact KL fO (qZ hX lA fx a F hF k st S kn kx h r hi hr hd hk)
   |false=>exact KK fO (qZ hX lA fx b F hF k st S kn kx h r hi hr hd hk)
  ·cases hr
 |.block id b,F,hF,k,st,S,kn,kx,h,r,hi,hr,hd,hk=>by
  refine KJ (o5 (qZ hX lA fx b F hF k st S kn (aaZ bE id kn kx) h r hi hr hd hk) ?_)
  rintro k' rW e T ⟨h',S',r',rfl,df,gi,lC,hq⟩
  cases e with
  |normal=>exact⟨h',S',r',rfl,df,gi,lC,hq⟩
  |exit i =>
   simp only[D6]
   simp only[aaZ]at hq
   cases hb:Nat.beq i id with
   |true=>rw[hb]at hq;exact⟨h',S',r',rfl,df,gi,lC,hq⟩
   |false=>rw[hb]at hq;exact⟨h',S',r',rfl,df,gi,lC,hq⟩
  |ret=>exact⟨h',S',r',rfl,df,gi,lC,hq⟩
  |_=>exact hq.elim
 |.exit id,F,hF,k,st,S,kn,kx,h,r,hi,hr,hd,hk=>Pz ⟨h,S,r,rfl,hi,hd,hk,hr⟩
 |.ret,F,hF,k,st,S,kn,kx,h,r,hi,hr,hd,hk=>V6 ⟨h,S,r,rfl,hi,hd,hk,hr⟩
 |.loop b,F,hF,k,st,S,kn,kx,h,r,hi,hr,hd,hk=>by
  simp only[ud]at hr
  cases st with
  |true=>cases hr
  |false =>
   simp only[cond_false]at hr
   split at hr
   ·rename_i L hL
    split at hr
    ·rename_i F' vY
     obtain ⟨cj,jZ,xD⟩:=GD hF hi vY
     obtain ⟨v,h',hr,hw,df⟩:=HN (X0:=En.X 0 false fun _=>False) (fun p h=>nomatch (show false=true from h)) cj ⟨hi.1,jZ⟩ hr
     refine PA (fun x:Nat×(Nat→Nat)×L.K.V×Nat=>(x.1,false,(fA L.K F' x.2.2.1).toSt x.2.1))
      (fun x=>Inv E.ba g0 F' x.2.1 (fA L.K F' x.2.2.1)∧x.1≤items.length∧iter (fun v wi=>ud bE aB E b F' false (fA L.K F' v) (fun rW S'=>bif rW then none else nB E.ba F' L.K wi S') kx) x.2.2.2 x.2.2.1=some (items.drop x.1))
      (fun x=>x.2.2.2) (k,h',v,iM) ⟨df,hk,by rw[← hd rfl];exact hr⟩ ⟨rfl,rfl,fun U=>hw _ (fun p h=>nomatch (show false=true from h))⟩ ?_
     rintro ⟨k1,h1,v1,m⟩ ⟨gj,jJ,hm⟩
     simp only at gj jJ hm ⊢
     cases m with
     |zero=>cases hm
     |succ m =>
      refine o5 (qZ hX lA fx b F' cj k1 false _ _ kx h1 _ gj hm (fun _=>rfl) jJ) ?_
      rintro k2 st2 e T ⟨h2,S2,r2,rfl,ek,XK,di,hq⟩
      cases e with
      |normal =>
       cases st2 with
       |true=>cases hq
       |false =>
        obtain ⟨v3,h3,hq,hw3,MK⟩:=HN (X0:=En.X 0 false fun _=>False) (fun p h=>nomatch (show false=true from h)) cj ek hq
        refine ⟨(k2,h3,v3,m),⟨MK,di,?_⟩,Nat.lt_succ_self m,rfl,rfl,fun U=>hw3 _ (fun p h=>nomatch (show false=true from h))⟩
        rw[← XK rfl];exact hq
      |_=>exact⟨h2,S2,r2,rfl,⟨ek.1,xD S2 ek.2⟩,XK,di,hq⟩
    ·cases hr
   ·cases hr
 |.rangeFunc _ _ _ _,_,_,_,_,_,_,_,_,_,_,hr,_,_=>by cases hr
 |.scope _,_,_,_,_,_,_,_,_,_,_,hr,_,_=>by cases hr
 |.label _,_,_,_,_,_,_,_,_,_,_,hr,_,_=>by cases hr
 |.goto _,_,_,_,_,_,_,_,_,_,_,hr,_,_=>by cases hr
 |.refuse _,_,_,_,_,_,_,_,_,_,_,hr,_,_=>by cases hr
end
end
end Go.Ab
namespace Go.Ab
open Go Go.RowKit
noncomputable section
set_option linter.all false
set_option maxHeartbeats 1000000
section
variable {Z:aX}{bE:List T}
def hY (l:Nat):Nat→Nat:=fun s=>bif Nat.beq s YL then l else 0
theorem VI (h:Nat→Nat) (A:List I):((lX A).toSt h).ρ=(St.init (I.al h A)).ρ:=by
 unfold IS.toSt St.init lX
 funext i
 exact pf h A 0 i (Nat.zero_le _)
def Xv (bE:List T) (it:It (List (aE bE))) (E:bJ Z) (c:Code) (A:List I):Option (List (aE bE)) :=
 ud bE it E c ⟨[],[]⟩ false (lX (.yl YL::A)) (fun _ _=>some []) (fun e _ _=>match e with|none=>some []|some _=>none)
theorem Pg {ky : List T} {E : bJ Z} {f : FuncId} {fn : Func} {c : Code} (hf : Z.P.funcs[f]? = some fn) (hb : fn.body = some c) (cV : (fn.name == "runtime.NumGoroutine") = false) (hn : Nat.beq fn.ntmps E.nt = true) (hl : Nat.ble (ky.length + 1) fn.ntmps = true) (hp : E.ba = [YL]) (nV : fn.results = #[])
  {a:aE ky}{items:List (aE bE)} (hr:Xv bE aB E c (ck ky a)=some items) (h:Nat→Nat) :
  Kz Z.toSeat f (I.al h (ck ky a)) items.length (IB bE items):=by
 refine X8 hf hb cV (by rw[fc,oA];exact hl) (jk _ _ _) (fun k hk=>?_) nV fun En e1 e2 e3 e4=>?_
 ·unfold IB
  rw[List.getElem?_eq_getElem hk]
  exact jk _ _ _
 have hX:VP En Z E.nt items:=⟨e1,e2.trans (Nat.eq_of_beq_eq_true hn),e3,fun i x hx=>by
  rw[e4];unfold IB;rw[hx]⟩
 have h0:hY En.l YL=En.l:=by simp[hY]
 refine acP (S':=(lX (.yl YL::ck ky a)).toSt (hY En.l)) (fun U κ sv aa W hs=>⟨κ,sv,BL (fun i=>.inr ?_) (fun s=>Nat.zero_le _) (fun s=>.inl rfl) hs⟩) ?_
 ·rw[VI]
  show _=(St.init (.yl En.l::I.al h (ck ky a))).ρ i
  rw[qK h (hY En.l)]
  show (St.init (.yl (hY En.l YL)::I.al (hY En.l) (ck ky a))).ρ i=_
  rw[h0]
 ·refine o5 (qZ hX (by rw[hp];simp) (g0:=fun _=>En.l) rfl c ⟨[],[]⟩ rfl 0 false _ _ _ (hY En.l) items ⟨fun g hg=>?_,⟨(fun p hp=>(nomatch hp)),(fun p hp=>(nomatch hp))⟩⟩ hr (fun _=>rfl) (Nat.zero_le _)) ?_
  ·rw[hp]at hg
   simp only[List.mem_singleton]at hg
   subst hg
   exact h0
  ·rintro k s e T ⟨h2,S2,l,rfl,hi,hd,hk,hq⟩
   have fin:some ([]:List (aE bE))=some l→(s=false→k=items.length):=fun e hs=>by
    simp only[Option.some.injEq]at e
    have h3:=hd hs
    rw[← e]at h3
    have h4:(items.drop k).length=0:=by rw[← h3];rfl
    simp at h4;omega
   cases e with
   |normal=>exact⟨.inl rfl,fin hq,hk⟩
   |ret=>exact⟨.inr rfl,fin hq,hk⟩
   |exit i=>cases hq
   |_=>exact hq.elim
def D5:List T→Bool
 |[]=>true
 |.ptr _::l=>D5 l
 |_=>false
theorem aam:∀ {ky:List T}{ds:List I}{a:aE ky},D5 ky=true→nT ky ds=some a→ds=ck ky a:=by
 intro ky
 induction ky with
 |nil =>
  intro ds a _ h
  cases ds with
  |nil=>rfl
  |cons _ _=>cases h
 |cons t ts ih =>
  intro ds a hp h
  have ht:∃ u,t=.ptr u:=by cases t<;>first|exact⟨_,rfl⟩|(cases hp;done)
  obtain ⟨t,rfl⟩:=ht
  cases ds with
  |nil=>cases h
  |cons d ds =>
   simp only[nT]at h
   split at h
   ·rename_i y hy
    split at h
    ·rename_i z hz
     simp only[Option.some.injEq]at h
     subst h
     have h1:=ve (enc:=bj t) (fun h=>cM t h) (show tP (ew t) [d]=some y from hy)
     simp only[List.cons.injEq,and_true]at h1
     simp only[ck]
     rw[← ih hp hz,h1]
     rfl
    ·cases h
   ·cases h
def abi (Z:Seat) (f:FuncId) (ky bE:List T) (hp:D5 ky=true) (F:aE ky→Option (List (aE bE)))
  (hF:∀ a items,F a=some items→∀ h,Kz Z f (I.al h (ck ky a)) items.length (IB bE items)):pz Z where
 f:=f
 bE:=bE
 app:=fun cap k=>match nT ky cap with|some a=>(F a).bind k|none=>none
 ok:=fun cap k r h=>by
  split at h
  ·rename_i a ha
   cases hx:F a with
   |none=>rw[hx]at h;cases h
   |some items =>
    rw[hx]at h
    refine ⟨items,h,fun h=>?_⟩
    rw[aam hp ha]
    exact hF a items hx h
  ·cases h
def T7 (Z:aX) (nt:Nat) (rv:List ResultVar) (g:FuncId) (ct:T) (S:IS):Option (den ct):=match rv with
 |[.tmp t]=>bif Nat.ble (t+1) nt then (match S.get t with
  |.fn f [.bx s g' 0]=>bif Nat.beq f g&&Nat.beq g' (S.gen s) then (match S.own s with
   |.box l=>bif fL l then ew ct l else none
   |_=>none) else none
  |_=>none) else none
 |_=>none
theorem Qv {X:Ctx}{nt:Nat} (hX:At X Z nt) (hx0:X.ext=none∧∀ b,¬ X.ex b) {rv:List ResultVar}{g:FuncId}{ct:T}{S:IS}{x:den ct}{h h':Nat→Nat} (hr:T7 Z nt rv g ct S=some x) :
  ∃ S' ds,Wk X (S.toSt h) S'∧gZ X S' rv ds∧∀ κ γ sv v,aW κ γ sv (fR ds) v→aW κ γ sv ((kz [.nK g ct] x).toD h') v:=by
 unfold T7 at hr
 split at hr
 ·rename_i t
  cases uG:Nat.ble (t+1) nt with
  |false=>rw[uG]at hr;cases hr
  |true =>
  rw[uG]at hr
  simp only[cond_true]at hr
  split at hr
  ·rename_i f s g' hg
   cases hb:Nat.beq f g&&Nat.beq g' (S.gen s) with
   |false=>rw[hb]at hr;cases hr
   |true =>
    rw[hb]at hr
    simp only[Bool.and_eq_true]at hb
    have e1:=Nat.eq_of_beq_eq_true hb.1
    have e2:=Nat.eq_of_beq_eq_true hb.2
    simp only[cond_true]at hr
    split at hr
    ·rename_i l aF
     cases hn:fL l with
     |false=>rw[hn]at hr;cases hr
     |true =>
      rw[hn]at hr
      simp only[cond_true]at hr
      have hl:=ie (cM ct hr) hn
      have h1:(S.toSt h).ρ t=.fn f [.bx s (h s+g') 0]:=by
       show (S.get t).toD h=_
       rw[hg];rfl
      have h2:(S.toSt h).σ s=.box (I.al h l):=by
       show (S.own s).toOwn h=_
       rw[aF];rfl
      have hw:=sB (X:=X) (S:=S.toSt h) t 0 hx0 h1 rfl (show (S.toSt h).γ s=h s+g' from by show h s+S.gen s=_;rw[e2]) h2 (c':=[.rp (I.al h l) 0]) rfl
      refine ⟨_,[.fn f [.rp (I.al h l) 0]],hw,⟨?_,trivial⟩,fun κ γ sv v hv=>?_⟩
      ·have cz:Nat.blt t X.nt=true:=by rw[hX.nt];exact uG
       show (bif Nat.blt t X.nt then aG (S.toSt h).ρ t (.fn f [.rp (I.al h l) 0]) t else .undef)=_
       rw[cz,aC];rfl
      ·rw[hl,bd,e1]at hv
       show aW κ γ sv (.fn g [.rp (I.al h' (bj ct x)) 0]) v
       rw[bd];exact hv
    ·cases hr
  ·cases hr
 ·cases hr
def Xu (g:FuncId) (ct:T) (it:It (den ct)) (E:bJ Z) (c:Code) (rv:List ResultVar) (A:List I):Option (den ct) :=
 fC it E c ⟨[],[]⟩ (lX A) (T7 Z E.nt rv g ct) (fun e S=>match e with|none=>T7 Z E.nt rv g ct S|some _=>none)
theorem Mo {bf : List T} {g : FuncId} {ct : T} {E : bJ Z} {f : FuncId} {fn : Func} {c : Code} (hf : Z.P.funcs[f]? = some fn) (hb : fn.body = some c) (cV : (fn.name == "runtime.NumGoroutine") = false) (hn : Nat.beq fn.ntmps E.nt = true) (hl : Nat.ble bf.length fn.ntmps = true) (hp : E.ba = [])
  {a:aE bf}{x:den ct} (hr:Xu g ct aB E c fn.results.toList (ck bf a)=some x) (h h':Nat→Nat):ep Z.toSeat f (I.al h (ck bf a)) ((kz [.nK g ct] x).toD h'):=by
 rw[qK h zh]
 refine lU hf hb cV (by rw[fc,oA];exact hl) (jk _ _ _) (uD _ _ _) fun w κ=>?_
 have hX:At (Ctx.plain Z.toSeat fn.ntmps w κ none) Z E.nt:=At.pl rfl (Nat.eq_of_beq_eq_true hn) (fun _=>rfl)
 rw[← kW]
 refine fM (fD c hX (fun _=>⟨_,_,_,_,rfl⟩) (g0:=zh) ⟨[],[]⟩ rfl _ _ _ zh ⟨(fun g hg=>by rw[hp]at hg;cases hg),⟨(fun p hp=>(nomatch hp)),(fun p hp=>(nomatch hp))⟩⟩ hr) ?_
 rintro e T ⟨h2,S,rfl,_,hq⟩
 cases e with
 |normal=>exact Qv hX ⟨rfl,fun _ h=>h⟩ hq
 |ret=>exact Qv hX ⟨rfl,fun _ h=>h⟩ hq
 |exit i=>cases hq
 |_=>exact hq.elim
end
end
end Go.Ab
namespace Go.Ab
open Go Go.RowKit
noncomputable section
set_option linter.all false
set_option maxHeartbeats 1000000
section
variable {Z:aX}
def BJ (E:CEnv Z) (F:Fix) (ops:Array Oper):List Oper→Bool→IS→(Bool→IS→Option (List (List I)))→Option (List (List I))
 |[],st,S,k=>k st S
 |o::rest,st,S,k=>match yieldOf Z E.nt S o with
  |some (xs,t)=>bif st then none else (match Mz S (xs.toList.map (S.ev Z E.nt)) with
   |some (a,ps)=>ao (qP F ps&&!(bc t (keys F.sl))) (rl a (BJ E F ops rest true ((pH S ps).set t (.bool false)) k) (BJ E F ops rest false ((pH S ps).set t (.bool true)) k))
   |none=>none)
  |none=>ue E F ops [o] S (fun S1=>BJ E F ops rest st S1 k)
def aa0 (id:Nat) (kn:Bool→IS→Option (List (List I))) (kx:Option Nat→Bool→IS→Option (List (List I))) (e:Option Nat) (st:Bool) (S:IS):Option (List (List I)):=match e with
 |some i=>bif Nat.beq i id then kn st S else kx (some i) st S
 |none=>kx none st S
def sw (it:It (List (List I))) (E:bJ Z):Code→Fix→Bool→IS→(Bool→IS→Option (List (List I)))→(Option Nat→Bool→IS→Option (List (List I)))→Option (List (List I))
 |.skip,_,st,S,kn,_=>kn st S
 |.region _ ops draw,F,st,S,kn,_=>bif draw then su E.toCEnv F ops ops.toList S [] (settle F (kn st)) else BJ E.toCEnv F ops ops.toList st S kn
 |.seq a b,F,st,S,kn,kx=>sw it E a F st S (fun rW S'=>sw it E b F rW S' kn kx) kx
 |.cond c a b,F,st,S,kn,kx=>(match S.ev Z E.nt c with
  |.bool v=>bif v then sw it E a F st S kn kx else sw it E b F st S kn kx
  |_=>none)
 |.block id b,F,st,S,kn,kx=>sw it E b F st S kn (aa0 id kn kx)
 |.exit id,_,st,S,_,kx=>kx (some id) st S
 |.ret,_,st,S,_,kx=>kx none st S
 |.loop b,F,st,S,_,kx=>bif st then none else it IS (fun S kn=>sw it E b F false S (fun rW S'=>bif rW then none else kn S') kx) S
 |_,_,_,_,_,_=>none
def QJ (items:List (List I)) (p:List Nat) (g0:Nat→Nat) (F:Fix) (kn:Bool→IS→Option (List (List I))) (kx:Option Nat→Bool→IS→Option (List (List I))):Nat→Bool→Exit→St→Prop:=fun k st e T=>∃ h S l,T=S.toSt h∧Inv p g0 F h S∧(st=false→l=items.drop k)∧k≤items.length∧match e with
 |.normal=>kn st S=some l
 |.exit i=>kx (some i) st S=some l
 |.ret=>kx none st S=some l
 |_=>False
variable {En:Env}{items:List (List I)}
structure Pw (En:Env) (Z:aX) (nt:Nat) (items:List (List I)):Prop where
 Z:En.Z=Z.toSeat
 nt:En.nt=nt
 n:En.n=items.length
 ug:∀ (i:Nat) (a:List I),items[i]?=some a→En.bE i=I.al zh a
theorem Pw.at' {nt:Nat} (h:Pw En Z nt items) (k:Nat) (s:Bool) (U:Nat→Prop):At (En.X k s U) Z nt:=At.pl h.Z h.nt (fun _=>rfl)
theorem xV {E:CEnv Z}{g0:Nat→Nat} (hX:Pw En Z E.nt items) (lA:YL∈E.ba) (fx:g0 YL=En.l) {F:Fix} (hF:okF F=true) {ops:Array Oper}{kn:Bool→IS→Option (List (List I))}{kx:Option Nat→Bool→IS→Option (List (List I))} :
  ∀ (l:List Oper) (k:Nat) (st:Bool) (S:IS) (h:Nat→Nat) (r:List (List I)),Inv E.ba g0 F h S→BJ E F ops l st S kn=some r→(st=false→r=items.drop k)→k≤items.length→D4 En ops l (QJ items E.ba g0 F kn kx) k st (S.toSt h)
 |[],k,st,S,h,r,hi,hr,hd,hk=>V4 fun U=>KM ⟨h,S,r,rfl,hi,hd,hk,hr⟩
 |o::rest,k,st,S,h,r,hi,hr,hd,hk=>by
  unfold BJ at hr
  split at hr
  ·rename_i xs t hy
   cases st with
   |true=>cases hr
   |false =>
    simp only[cond_false]at hr
    split at hr
    ·rename_i a ps ha
     obtain ⟨hc,hr⟩:=aq hr
     simp only[Bool.and_eq_true,Bool.not_eq_true']at hc
     obtain ⟨r1,m,r2,rfl⟩:=Ee hr
     have zO:=hd rfl
     have cz:k<items.length:=by
      have h1:(items.drop k).length=(a::m).length:=by rw[← zO]
      simp at h1;omega
     have hak:items[k]?=some a:=by
      have h1:(items.drop k)[0]?=some a:=by rw[← zO];rfl
      simpa using h1
     have hmk:m=items.drop (k+1):=by
      have h1:(items.drop k).tail=m:=by rw[← zO];rfl
      rw[← h1];simp
     unfold yieldOf at hy
     split at hy
     ·rename_i x oq ts t' ho gi hg
      split at hy
      ·rename_i ly hly
       cases hb:Nat.beq ly YL&&Nat.beq (S.gen ly) 0 with
       |false=>rw[hb]at hy;cases hy
       |true =>
        rw[hb]at hy
        simp only[Bool.and_eq_true]at hb
        have WD:=Nat.eq_of_beq_eq_true hb.1
        have eg:=Nat.eq_of_beq_eq_true hb.2
        simp only[cond_true,Option.some.injEq,Prod.mk.injEq]at hy
        obtain ⟨rfl,rfl⟩:=hy
        have fO:∀ y,(S.toSt h).ev (En.X k false fun _=>False) y=(S.ev Z E.nt y).toD h:=fun y=>dO (hX.at' k false _) y
        have aaO:oq.toList.map ((S.toSt h).ev (En.X k false fun _=>False))=I.al h (oq.toList.map (S.ev Z E.nt)):=by
         rw[ef,List.map_map]
         exact List.map_congr_left fun y _=>fO y
        have hT:=xV hX lA fx hF (kx:=kx) rest (k+1) false ((pH S ps).set t' (.bool true)) h m ((hi.drop hc.1).set hc.2 _) r2 (fun _=>hmk) (by omega)
        have XG:=xV hX lA fx hF (kx:=kx) rest (k+1) true ((pH S ps).set t' (.bool false)) h [] ((hi.drop hc.1).set hc.2 _) r1 (fun h=>by cases h) (by omega)
        rw[jF,H0]at hT XG
        have X1:(S.toSt h).ev (En.X k false fun _=>False) (.tmp x)=.yl En.l:=by
         rw[fO,hly]
         have h3:=hi.1 YL lA
         rw[WD]at eg
         rw[eg,Nat.add_zero,fx]at h3
         show D.yl (h ly)=_
         rw[WD,h3]
        exact HK (ps:=ps) ho hg gi X1 aaO (by rw[hX.ug k a hak];exact EV ha (fun p hp=>hp)) (by rw[hX.n];exact cz) hT XG
      ·cases hy
     ·cases hy
    ·cases hr
  ·refine KI [o] rest fun U=>?_
   exact iL (hX.at' k st U) hF (fun h S' df Fg=>⟨rfl,xV hX lA fx hF rest k st S' h r df Fg hd hk⟩) [o] S h hi hr
theorem ra {E:bJ Z}{g0:Nat→Nat} (hX:Pw En Z E.nt items) (lA:YL∈E.ba) (fx:g0 YL=En.l):∀ (c:Code) (F:Fix),okF F=true→∀ (k:Nat) (st:Bool) (S:IS) (kn:Bool→IS→Option (List (List I))) (kx:Option Nat→Bool→IS→Option (List (List I))) (h:Nat→Nat) (r:List (List I)),
  Inv E.ba g0 F h S→sw aB E c F st S kn kx=some r→(st=false→r=items.drop k)→k≤items.length→WI En c (QJ items E.ba g0 F kn kx) k st (S.toSt h)
 |.skip,F,hF,k,st,S,kn,kx,h,r,hi,hr,hd,hk=>PB ⟨h,S,r,rfl,hi,hd,hk,hr⟩
 |.region id ops draw,F,hF,k,st,S,kn,kx,h,r,hi,hr,hd,hk=>by
  have e:ops=ops.toList.toArray:=by simp
  cases draw with
  |false =>
   rw[e]
   refine HL ?_
   rw[← e]
   exact xV hX lA fx hF _ k st S h r hi hr hd hk
  |true =>
   refine V5 fun U=>KO (Q':=fun e T=>∃ h S',T=S'.toSt h∧Inv E.ba g0 F h S'∧e=.normal∧settle F (kn st) S'=some r) ?_ ?_
   ·rw[e]
    refine yT ?_
    rw[← e]
    exact pn (hX.at' k st U) (fun h S' hi hk=>⟨h,S',rfl,hi,rfl,hk⟩) _ S _ _ _ h hi hr
   ·rintro e T ⟨h1,S1,rfl,gj,rfl,jJ⟩
    obtain ⟨S2,h2,h3,h4⟩:=sQ (h:=h1) jJ
    exact⟨_,h3 _ (fun p h=>nomatch (show false=true from h)),h1,S2,r,rfl,h4 _ _ gj,hd,hk,h2⟩
 |.seq a b,F,hF,k,st,S,kn,kx,h,r,hi,hr,hd,hk=>by
  refine V7 (o5 (ra hX lA fx a F hF k st S _ kx h r hi hr hd hk) ?_)
  rintro k' rW e T ⟨h',S',r',rfl,df,gi,lC,hq⟩
  cases e with
  |normal=>exact ra hX lA fx b F hF k' rW S' kn kx h' r' df hq gi lC
  |exit i=>exact⟨h',S',r',rfl,df,gi,lC,hq⟩
  |ret=>exact⟨h',S',r',rfl,df,gi,lC,hq⟩
  |_=>exact hq.elim
 |.cond c a b,F,hF,k,st,S,kn,kx,h,r,hi,hr,hd,hk=>by
  simp only[sw]at hr
  split at hr
  ·rename_i v hv
   have fO:(S.toSt h).ev (En.X k st fun _=>False) c=.bool v:=by rw[dO (hX.at' k st _),hv];rfl
   cases v with
   |true=>exact KL fO (ra hX lA fx a F hF k st S kn kx h r hi hr hd hk)
   |false=>exact KK fO (ra hX lA fx b F hF k st S kn kx h r hi hr hd hk)
  ·cases hr
 |.block id b,F,hF,k,st,S,kn,kx,h,r,hi,hr,hd,hk=>by
  refine KJ (o5 (ra hX lA fx b F hF k st S kn (aa0 id kn kx) h r hi hr hd hk) ?_)
  rintro k' rW e T ⟨h',S',r',rfl,df,gi,lC,hq⟩
  cases e with
  |normal=>exact⟨h',S',r',rfl,df,gi,lC,hq⟩
  |exit i =>
   simp only[D6]
   simp only[aa0]at hq
   cases hb:Nat.beq i id with
   |true=>rw[hb]at hq;exact⟨h',S',r',rfl,df,gi,lC,hq⟩
   |false=>rw[hb]at hq;exact⟨h',S',r',rfl,df,gi,lC,hq⟩
  |ret=>exact⟨h',S',r',rfl,df,gi,lC,hq⟩
  |_=>exact hq.elim
 |.exit id,F,hF,k,st,S,kn,kx,h,r,hi,hr,hd,hk=>Pz ⟨h,S,r,rfl,hi,hd,hk,hr⟩
 |.ret,F,hF,k,st,S,kn,kx,h,r,hi,hr,hd,hk=>V6 ⟨h,S,r,rfl,hi,hd,hk,hr⟩
 |.loop b,F,hF,k,st,S,kn,kx,h,r,hi,hr,hd,hk=>by
  simp only[sw]at hr
  cases st with
  |true=>cases hr
  |false =>
   simp only[cond_false]at hr
   refine PA (fun x:Nat×(Nat→Nat)×IS×Nat=>(x.1,false,x.2.2.1.toSt x.2.1))
    (fun x=>Inv E.ba g0 F x.2.1 x.2.2.1∧x.1≤items.length∧iter (fun S wi=>sw aB E b F false S (fun rW S'=>bif rW then none else wi S') kx) x.2.2.2 x.2.2.1=some (items.drop x.1))
    (fun x=>x.2.2.2) (k,h,S,iM) ⟨hi,hk,by rw[← hd rfl];exact hr⟩ ⟨rfl,rfl,fun U=>Wk.refl _ _⟩ ?_
   rintro ⟨k1,h1,v1,m⟩ ⟨gj,jJ,hm⟩
   simp only at gj jJ hm ⊢
   cases m with
   |zero=>cases hm
   |succ m =>
    refine o5 (ra hX lA fx b F hF k1 false _ _ kx h1 _ gj hm (fun _=>rfl) jJ) ?_
    rintro k2 st2 e T ⟨h2,S2,r2,rfl,ek,XK,di,hq⟩
    cases e with
    |normal =>
     cases st2 with
     |true=>cases hq
     |false =>
      refine ⟨(k2,h2,S2,m),⟨ek,di,?_⟩,Nat.lt_succ_self m,rfl,rfl,fun U=>Wk.refl _ _⟩
      rw[← XK rfl];exact hq
    |_=>exact⟨h2,S2,r2,rfl,ek,XK,di,hq⟩
 |.rangeFunc _ _ _ _,_,_,_,_,_,_,_,_,_,_,hr,_,_=>by cases hr
 |.scope _,_,_,_,_,_,_,_,_,_,_,hr,_,_=>by cases hr
 |.label _,_,_,_,_,_,_,_,_,_,_,hr,_,_=>by cases hr
 |.goto _,_,_,_,_,_,_,_,_,_,_,hr,_,_=>by cases hr
 |.refuse _,_,_,_,_,_,_,_,_,_,_,hr,_,_=>by cases hr
def xP:List (List I)→Bool
 |[]=>true
 |a::l=>bV a&&xP l
theorem F1:∀ {l:List (List I)},xP l=true→∀ k,k<l.length→ab (Cr l k)
 |a::l,h,0,_=>by
  simp only[xP,Bool.and_eq_true]at h
  exact fun d hd=>eP zh a h.1 d hd
 |a::l,h,k+1,hk=>by
  simp only[xP,Bool.and_eq_true]at h
  exact F1 h.2 k (by simpa using hk)
def aaf (o:Option (List (List I))):Option (List (List I)):=match o with
 |some l=>bif xP l then some l else none
 |none=>none
theorem afa {o:Option (List (List I))}{l:List (List I)} (h:aaf o=some l):o=some l∧xP l=true:=by
 unfold aaf at h
 split at h
 ·rename_i m
  cases hr:xP m with
  |false=>rw[hr]at h;cases h
  |true =>
   rw[hr]at h
   simp only[cond_true,Option.some.injEq]at h
   subst h
   exact⟨rfl,hr⟩
 ·cases h
def ac8:Option Nat→Bool→IS→Option (List (List I)):=fun e _ _=>match e with|none=>some []|some _=>none
def ahN:I→Bool
 |.agg _=>false
 |.bn _=>false
 |.undef=>false
 |_=>true
def K0:List I→Bool
 |[]=>true
 |d::l=>ahN d&&K0 l
theorem aeZ (h:Nat→Nat) {d:I} (hd:ahN d=true):(d.toD h).iY=true:=by
 cases d<;>first|(exact(Bool.false_ne_true (show false=true from hd)).elim)|rfl|skip
 rename_i t l
 cases l<;>rfl
theorem PK (h:Nat→Nat):∀ {l:List I},K0 l=true→aY (I.al h l)=true
 |[],_=>rfl
 |d::l,hs=>by
  simp only[K0,Bool.and_eq_true]at hs
  simp only[I.al,aY,aeZ h hs.1,PK h hs.2,Bool.true_and,Bool.and_self]
def X6 (l:List I):IS:=⟨enum 0 [.yl YL,.bx 1 1 0],[(1,1)],[(1,.box l)]⟩
def qN (E:bJ Z) (c:Code) (l:List I):Option (List (List I)) :=
 bif bV l&&K0 l&&Nat.ble 2 E.nt then aaf (sw aB E c ⟨[],[]⟩ false (X6 l) (fun _ _=>some []) ac8) else none
theorem akB {En:Env}{E:bJ Z}{items:List (List I)} (hX:Pw En Z E.nt items) {c:Code} (hp:E.ba=[YL]) {S:IS}{h0:Nat→Nat} (hh:h0 YL+S.gen YL=En.l) (hr:sw aB E c ⟨[],[]⟩ false S (fun _ _=>some []) ac8=some items) :
  WI En c (fun k s e _=>(e=.normal∨e=.ret)∧(s=false→k=items.length)∧k≤items.length) 0 false (S.toSt h0):=by
 refine o5 (ra hX (by rw[hp];simp) (g0:=fun _=>En.l) rfl c ⟨[],[]⟩ rfl 0 false _ _ _ h0 items ⟨fun g hg=>?_,⟨(fun p hp=>(nomatch hp)),(fun p hp=>(nomatch hp))⟩⟩ hr (fun _=>rfl) (Nat.zero_le _)) ?_
 ·rw[hp]at hg
  simp only[List.mem_singleton]at hg
  subst hg
  exact hh
 ·rintro k s e T ⟨h2,S2,l,rfl,hi,hd,hk,hq⟩
  have fin:some ([]:List (List I))=some l→(s=false→k=items.length):=fun e hs=>by
   simp only[Option.some.injEq]at e
   have h3:=hd hs
   rw[← e]at h3
   have h4:(items.drop k).length=0:=by rw[← h3];rfl
   simp at h4;omega
  cases e with
  |normal=>exact⟨.inl rfl,fin hq,hk⟩
  |ret=>exact⟨.inr rfl,fin hq,hk⟩
  |exit i=>cases hq
  |_=>exact hq.elim
theorem lE {E : bJ Z} {f : FuncId} {fn : Func} {c : Code} (hf : Z.P.funcs[f]? = some fn) (hb : fn.body = some c) (cV : (fn.name == "runtime.NumGoroutine") = false) (hn : Nat.beq fn.ntmps E.nt = true) (hp : E.ba = [YL]) (nV : fn.results = #[])
  {m:List I}{items:List (List I)} (hr:qN E c m=some items) (h:Nat→Nat):KA Z.toSeat f (Gp (I.al h m)) items.length (Cr items):=by
 unfold qN at hr
 cases hA0:bV m&&K0 m&&Nat.ble 2 E.nt with
 |false=>rw[hA0]at hr;cases hr
 |true =>
 rw[hA0]at hr
 simp only[Bool.and_eq_true]at hA0
 obtain ⟨hA,hl⟩:=hA0
 rw[← Nat.eq_of_beq_eq_true hn]at hl
 obtain ⟨hr,hpi⟩:=afa hr
 refine Uv hf hb cV hl (fun d hd=>eP h m hA.1 d hd) (PK h hA.2) (F1 hpi) nV fun En e1 e2 e3 e4=>?_
 have hX:Pw En Z E.nt items:=⟨e1,e2.trans (Nat.eq_of_beq_eq_true hn),e3,fun i x hx=>by
  rw[e4];unfold Cr;rw[hx]⟩
 have h0:hY En.l YL=En.l:=by simp[hY]
 have h1:hY En.l 1=0:=rfl
 refine acP (S':=(X6 m).toSt (hY En.l)) (fun U κ sv aa W hs=>⟨κ,sv,BL (fun i=>.inr ?_) (fun s=>?_) (fun s=>.inr ?_) hs⟩) (akB hX hp h0 hr)
 ·show (look .undef (enum 0 [.yl YL,.bx 1 1 0]) i).toD (hY En.l)=_
  rw[pf (hY En.l) _ 0 i (Nat.zero_le _)]
  show (match nth [D.yl (hY En.l YL),.bx 1 (hY En.l 1+1) 0] (i - 0) with|some d=>d|none=>.undef)=_
  rw[h0,h1];rfl
 ·show aG (fun _=>0) 1 1 s≤hY En.l s+look 0 [(1,1)] s
  by_cases e:s=1
  ·subst e;rw[aC];exact Nat.le_add_left _ _
  ·rw[bh _ _ _ _ e];exact Nat.zero_le _
 ·show (look aK.none [(1,aK.box m)] s).toOwn (hY En.l)=aG (fun _=>Own.none) 1 (Own.box (I.al h m)) s
  simp only[kE,jL,kF,aG]
  cases Nat.beq s 1 with
  |true=>simp only[cond_true,aK.toOwn,jB (hY En.l) h m hA.1]
  |false=>rfl
def FC (Z:Seat) (f:FuncId) (own:Bool) (F:List I→Option (List (List I))) (hF:∀ cap items,F cap=some items→∀ h,KA Z f (bif own then Gp (I.al h cap) else Gq (I.al h cap)) items.length (Cr items)):iG Z where
 f:=f
 own:=own
 app:=fun cap k=>match F cap with|some items=>k items|none=>none
 ok:=fun cap k r h=>by
  split at h
  ·rename_i items hx
   exact⟨items,h,hF cap items hx⟩
  ·cases h
end
end
end Go.Ab
namespace Go.Ab
open Go Go.RowKit
noncomputable section
set_option linter.all false
set_option maxHeartbeats 1000000
theorem rS {α:Type}{y:α}:∀ {l k:List α}{j:Nat},eZ l j [y]=some k→k=l.take j++y::l.drop (j+1)∧j<l.length
 |[],k,0,h=>by simp[eZ]at h
 |x::l,k,0,h=>by
  simp only[eZ]at h
  cases l<;>(simp[eZ]at h;subst h;simp)
 |[],k,j+1,h=>by simp[eZ]at h
 |x::l,k,j+1,h=>by
  simp only[eZ]at h
  cases e:eZ l j [y] with
  |none=>rw[e]at h;simp at h
  |some k' =>
   rw[e]at h
   simp only[Option.some.injEq]at h
   subst h
   obtain ⟨h1,h2⟩:=rS e
   subst h1
   exact⟨by simp,by simpa using h2⟩
theorem AJ (p g:Nat):∀ l:List I,uZ p g l=l.map (ql p g)
 |[]=>rfl
 |d::l=>by simp only[uZ,List.map_cons,AJ p g l]
theorem Zj (p g:Nat):∀ (t:T) (x:den t),uZ p g (bj t x)=bj t x:=by
 intro t x
 cases t<;>try rfl
 ·obtain ⟨_,_,c⟩:=x
  cases c<;>rfl
theorem Oc (p g:Nat) (t:T) (x:den t):∀ d∈bj t x,ql p g d=d:=by
 have h:=Zj p g t x
 rw[AJ]at h
 generalize bj t x=l at h ⊢
 induction l with
 |nil=>intro d hd;cases hd
 |cons a l ih =>
  simp only[List.map_cons,List.cons.injEq]at h
  intro d hd
  rcases List.mem_cons.1 hd with rfl|hd
  ·exact h.1
  ·exact ih h.2 d hd
def ku (rt:T) (c:List I):I:=bif lQ rt then .agg c else (match c with|[d]=>d|_=>.undef)
def BU (rt:T) (j:Nat) (et:T) (x:den rt):Option (List (den et)×I):=match nth (bj rt x) j with
 |some (.sl e l)=>(match kg et e l with
  |some l=>(match eZ (bj rt x) j [.os 0 1] with|some c=>some (l,ku rt c)|none=>none)
  |none=>none)
 |_=>none
section
variable {X:Ctx}{Z:aX}
def Ge (rt:T) (d:I):Option (List I):=bif lQ rt then (match d with|.agg c=>some c|_=>none) else some [d]
theorem I4 {rt:T}{d:I}{c:List I} (h:Ge rt d=some c):ku rt c=d:=by
 unfold Ge at h
 unfold ku
 cases hi:lQ rt with
 |true =>
  rw[hi]at h
  simp only[cond_true]at h ⊢
  split at h
  ·simp only[Option.some.injEq]at h;subst h;rfl
  ·cases h
 |false =>
  rw[hi]at h
  simp only[cond_false,Option.some.injEq]at h ⊢
  subst h;rfl
theorem ZL {rt:T}{j:Nat}{x:den rt}{k:List I} (hk:eZ (bj rt x) j [.os 0 1]=some k) (p g:Nat) (h h':Nat→Nat):kd p g ((ku rt k).toD h)=kd p g ((ku rt k).toD h'):=by
 have hm:∀ y∈k,kd p g (y.toD h)=kd p g (y.toD h'):=fun y hy=>by
  have he:∀ y∈bj rt x,y.toD h=y.toD h':=fun y hy=>by
   have h1:(bj rt x).map (I.toD h)=(bj rt x).map (I.toD h'):=by rw[← ef,← ef,bd,bd]
   exact List.map_inj_left.1 h1 y hy
  rw[(rS hk).1]at hy
  rcases List.mem_append.1 hy with hy|hy
  ·rw[he y (List.mem_of_mem_take hy)]
  ·rcases List.mem_cons.1 hy with rfl|hy
   ·rfl
   ·rw[he y (List.mem_of_mem_drop hy)]
 have hl:ua p g (I.al h k)=ua p g (I.al h' k):=by
  clear hk
  induction k with
  |nil=>rfl
  |cons d k ih=>simp only[I.al,ua,hm d (List.mem_cons_self ..),ih fun y hy=>hm y (List.mem_cons_of_mem _ hy)]
 unfold ku
 cases lQ rt with
 |true=>simp only[cond_true,I.toD,kd,hl]
 |false =>
  simp only[cond_false]
  split
  ·rename_i d;exact hm d (List.mem_cons_self ..)
  ·rfl
def ED (Z:aX) (nt:Nat) (rv:List ResultVar) (rt:T) (j E:Nat) (et:T) (S:IS):Option (den rt):=match lh Z nt S rv with
 |some [d]=>(match Ge rt d with
  |some c=>(match nth c j with
   |some (.os s g)=>live S s g (match S.own s with
    |.arr E' e l=>bif Nat.beq E' E then (match kg et e l with
     |some m=>(match eZ c j [.sl et m] with
      |some row=>bif fL row then ew rt row else none
      |none=>none)
     |none=>none) else none
    |_=>none)
   |_=>none)
  |none=>none)
 |_=>none
theorem aaA {nt:Nat} (hX:At X Z nt) {rv:List ResultVar}{rt:T}{j E:Nat}{et:T}{S:IS}{x:den rt}{h h':Nat→Nat} (hr:ED Z nt rv rt j E et S=some x) :
  ∃ l d,BU rt j et x=some (l,d)∧∃ s g,(S.toSt h).γ s=g∧(S.toSt h).σ s=.arr E (sz et) l.length (fun i=>bN et (l.getD i (bY et)))∧∃ ds,gZ X (S.toSt h) rv ds∧fR ds=kd s g (d.toD h'):=by
 unfold ED at hr
 split at hr
 ·rename_i d hd
  split at hr
  ·rename_i c hc
   split at hr
   ·rename_i s g hj
    replace hr:=cX hr
    obtain ⟨rfl,hr⟩:=hr
    split at hr
    ·rename_i E' e l aF
     cases hE:Nat.beq E' E with
     |false=>rw[hE]at hr;cases hr
     |true =>
      rw[hE]at hr
      have hE:=Nat.eq_of_beq_eq_true hE
      subst hE
      simp only[cond_true]at hr
      split at hr
      ·rename_i m hm
       split at hr
       ·rename_i row tG
        cases hn:fL row with
        |false=>rw[hn]at hr;cases hr
        |true =>
         rw[hn]at hr
         simp only[cond_true]at hr
         have Iq:=ie (cM rt hr) hn
         obtain ⟨h1,h2⟩:=rS tG
         have qU:S.own s=.arr E' et m:=by
          rw[aF]
          unfold kg at hm
          split at hm
          ·rename_i e';subst e';simp only[Option.some.injEq]at hm;subst hm;rfl
          ·cases hm
         have hlen:(c.take j).length=j:=by simp;omega
         have nN:nth (bj rt x) j=some (.sl et m):=by
          rw[← Iq,h1,eU,List.getElem?_append_right (by omega),hlen];simp
         have ht:(bj rt x).take j=c.take j:=by rw[← Iq,h1];exact List.take_left' hlen
         have yk:(bj rt x).drop (j+1)=c.drop (j+1):=by
          have h5:(c.take j++I.sl et m::c.drop (j+1)).drop j=I.sl et m::c.drop (j+1):=List.drop_left' hlen
          rw[← Iq,h1,← List.drop_drop,h5];rfl
         have hcj:c=c.take j++I.os s (S.gen s)::c.drop (j+1):=by
          rw[eU]at hj
          have h3:c[j]=I.os s (S.gen s):=by simpa[List.getElem?_eq_getElem h2] using hj
          rw[← h3,List.getElem_cons_drop,List.take_append_drop]
         obtain ⟨k,hk⟩:∃ k,eZ (bj rt x) j [.os 0 1]=some k:=by
          have key:∀ (l:List I) (j:Nat),j<l.length→∃ k,eZ l j [I.os 0 1]=some k:=by
           intro l
           induction l with
           |nil=>intro j h;simp at h
           |cons a l ih =>
            intro j h
            cases j with
            |zero=>cases l<;>exact⟨_,rfl⟩
            |succ j =>
             obtain ⟨k,hk⟩:=ih j (by simpa using h)
             exact⟨a::k,by simp only[eZ,hk]⟩
          refine key _ j ?_
          rw[← Iq,h1];simp;omega
         obtain ⟨h4,_⟩:=rS hk
         refine ⟨m,ku rt k,?_,s,h s+S.gen s,rfl,?_,[d.toD h],?_,?_⟩
         ·unfold BU
          rw[nN]
          have:kg et et m=some m:=by simp[kg]
          simp only[this,hk]
         ·show (S.own s).toOwn h=_
          rw[qU];rfl
         ·exact nu hX hd
         ·show d.toD h=_
          rw[ZL hk _ _ h' h,← xS]
          congr 1
          have hkr:uZ s (S.gen s) k=c:=by
           rw[AJ,h4,List.map_append,List.map_cons,ht,yk]
           have e1:(c.take j).map (ql s (S.gen s))=c.take j:=by
            refine (List.map_congr_left fun y hy=>?_).trans (List.map_id _)
            rw[← ht]at hy
            exact Oc _ _ rt x y (List.mem_of_mem_take hy)
           have e2:(c.drop (j+1)).map (ql s (S.gen s))=c.drop (j+1):=by
            refine (List.map_congr_left fun y hy=>?_).trans (List.map_id _)
            rw[← yk]at hy
            exact Oc _ _ rt x y (List.mem_of_mem_drop hy)
           rw[e1,e2]
           exact hcj.symm
          have hu:=I4 hc
          unfold ku at hu ⊢
          cases hi:lQ rt with
          |true =>
           rw[hi]at hu
           simp only[cond_true]at hu ⊢
           rw[← hu,ql,hkr]
          |false =>
           rw[hi]at hu
           simp only[cond_false]at hu ⊢
           rw[← hkr]at hu
           match k,hu with
           |[],hu=>rw[← hu];rfl
           |[a],hu=>rw[← hu];rfl
           |_::_::_,hu=>rw[← hu];rfl
       ·cases hr
      ·cases hr
    ·cases hr
   ·cases hr
  ·cases hr
 ·cases hr
theorem acD {rt:T}{j:Nat}{x:den rt}{k:List I} (hk:eZ (bj rt x) j [.os 0 1]=some k) (h:Nat→Nat):PO ((ku rt k).toD h):=by
 obtain ⟨h4,_⟩:=rS hk
 have hp:∀ d∈k,PO (d.toD h):=fun d hd=>by
  have ady:∀ y∈bj rt x,Pure (y.toD h):=fun y hy=>by
   have:=cN rt x
   rw[← bd h]at this
   refine this _ ?_
   rw[ef]
   exact List.mem_map_of_mem hy
  rw[h4]at hd
  rcases List.mem_append.1 hd with hd|hd
  ·exact .pure _ (ady d (List.mem_of_mem_take hd))
  ·rcases List.mem_cons.1 hd with rfl|hd
   ·exact .os _ _
   ·exact .pure _ (ady d (List.mem_of_mem_drop hd))
 have dY:KB (I.al h k):=by
  clear h4 hk
  induction k with
  |nil=>exact .nil
  |cons d k ih=>exact .cons _ _ (hp d (List.mem_cons_self ..)) (ih fun y hy=>hp y (List.mem_cons_of_mem _ hy))
 unfold ku
 cases lQ rt with
 |true=>exact .agg _ dY
 |false =>
  simp only[cond_false]
  split
  ·rename_i d;exact hp d (List.mem_cons_self ..)
  ·exact .pure _ .undef
def Xw (rt:T) (j Et:Nat) (et:T) (it:It (den rt)) (E:bJ Z) (c:Code) (rv:List ResultVar) (A:List I):Option (den rt) :=
 fC it E c ⟨[],[]⟩ (lX A) (ED Z E.nt rv rt j Et et) (fun e S=>match e with|none=>ED Z E.nt rv rt j Et et S|some _=>none)
theorem Mq {bf : List T} {rt et : T} {j Et : Nat} {E : bJ Z} {f : FuncId} {fn : Func} {c : Code} (hf : Z.P.funcs[f]? = some fn) (hb : fn.body = some c) (cV : (fn.name == "runtime.NumGoroutine") = false) (hn : Nat.beq fn.ntmps E.nt = true) (hl : Nat.ble bf.length fn.ntmps = true) (hp : E.ba = [])
  {a:aE bf}{x:den rt} (hr:Xw rt j Et et aB E c fn.results.toList (ck bf a)=some x) {l:List (den et)}{d:I} (hd:BU rt j et x=some (l,d)) (h:Nat→Nat):kK Z.toSeat f (I.al h (ck bf a)) (d.toD h) Et (sz et) l.length (fun i=>bN et (l.getD i (bY et))):=by
 have hk:∃ k,eZ (bj rt x) j [.os 0 1]=some k∧d=ku rt k:=by
  unfold BU at hd
  split at hd
  ·split at hd
   ·split at hd
    ·rename_i k hk
     simp only[Option.some.injEq,Prod.mk.injEq]at hd
     exact⟨k,hk,hd.2.symm⟩
    ·cases hd
   ·cases hd
  ·cases hd
 obtain ⟨k,hk,zO⟩:=hk
 subst zO
 rw[qK h zh]
 refine Ej hf hb cV (by rw[fc,oA];exact hl) (jk _ _ _) (acD hk h) (fun i _=>cN _ _) fun w κ=>?_
 have hX:At (Ctx.plain Z.toSeat fn.ntmps w κ none) Z E.nt:=At.pl rfl (Nat.eq_of_beq_eq_true hn) (fun _=>rfl)
 rw[← kW]
 have fin:∀ h2 S,ED Z E.nt fn.results.toList rt j Et et S=some x→∃ s g,(IS.toSt h2 S).γ s=g∧(IS.toSt h2 S).σ s=.arr Et (sz et) l.length (fun i=>bN et (l.getD i (bY et)))∧∃ ds,gZ (Ctx.plain Z.toSeat fn.ntmps w κ none) (IS.toSt h2 S) fn.results.toList ds∧fR ds=kd s g ((ku rt k).toD h):=fun h2 S hq=>by
  obtain ⟨l',d',h3,h4⟩:=aaA hX (h:=h2) (h':=h) hq
  rw[hd]at h3
  simp only[Option.some.injEq,Prod.mk.injEq]at h3
  obtain ⟨rfl,rfl⟩:=h3
  exact h4
 refine fM (fD c hX (fun _=>⟨_,_,_,_,rfl⟩) (g0:=zh) ⟨[],[]⟩ rfl _ _ _ zh ⟨(fun g hg=>by rw[hp]at hg;cases hg),⟨(fun p hp=>(nomatch hp)),(fun p hp=>(nomatch hp))⟩⟩ hr) ?_
 rintro e T ⟨h2,S,rfl,_,hq⟩
 cases e with
 |normal=>exact fin h2 S hq
 |ret=>exact fin h2 S hq
 |exit i=>cases hq
 |_=>exact hq.elim
def af6 (Z:Seat) (f:FuncId) (bf:List T) (rt:T) (j Et:Nat) (et:T) (F:aE bf→Option (den rt)) (hF:∀ a x,F a=some x→∀ l d,BU rt j et x=some (l,d)→∀ h,kK Z f (I.al h (ck bf a)) (d.toD h) Et (sz et) l.length (fun i=>bN et (l.getD i (bY et)))):qz Z where
 f:=f
 app:=fun A k=>match nT bf A with
  |some a=>(F a).bind fun x=>(match BU rt j et x with|some y=>k Et et y.1 y.2|none=>none)
  |none=>none
 ok:=fun A k r h=>by
  split at h
  ·rename_i a ha
   cases hx:F a with
   |none=>rw[hx]at h;cases h
   |some x =>
    rw[hx]at h
    simp only[Option.bind_some]at h
    split at h
    ·rename_i y hy
     refine ⟨_,_,_,_,h,fun h=>?_⟩
     have hc:=hF a x hx y.1 y.2 hy h
     exact⟨o7 ha,hc.FL,hc.sO,hc.body,fun w κ args hf hg hr=>hc.calls w κ args hf hg (qJ ha hr)⟩
    ·cases h
  ·cases h
end
end
end Go.Ab
