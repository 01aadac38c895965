/- Walks by computing: what each function of the program that the laws reach gives for what it gets, as plain Lean, and that it is so; without a condition but those that stand in each theorem. -/
import Derived.Test.YtafnhieaeejlcaaDoorW1
import Derived.Test.YtafnhieaeejlcaaDoorW2
import Derived.Test.YtafnhieaeejlcaaDoorW3
import Derived.Test.YtafnhieaeejlcaaDoorW4
import Derived.Test.YtafnhieaeejlcaaDoorW5
import Derived.Test.YtafnhieaeejlcaaDoorW6
set_option linter.all false
namespace Go.Ab
open Go Go.RowKit
noncomputable section
set_option linter.all false
set_option maxHeartbeats 1000000
def Qq(X:Ctx)(rs:List ResultVar)(l' :List D)(R:D):Exit→St→Prop
 | .normal,S| .ret,S=>∃S' ds l,Wk X S S'∧S'.γ 0=1∧S'.σ 0= .box l∧kV X S' rs ds∧(∀κ γ sv v,cX κ γ sv (gu ds) v→cX κ γ sv R v)∧∀κ γ sv vs,RepL κ γ sv l vs→RepL κ γ sv l' vs
 |_,_=>False
theorem th{Z:Seat}{f:FuncId}{fn:Func}{c:Code}{l l' A:List D}{R:D}(hf:Z.P.funcs[f]? =some fn)(hb:fn.body=some c)(hname:(fn.name== "runtime.NumGoroutine")=false)(hn:Nat.ble (A.length+1) fn.ntmps=true)
 (hl:af l)(hl' :af l')(hc:aU l=true)(hc' :aU l' =true)(hA:af A)(hR:Pure R)
 (h:∀w κ b,W (Ctx.plain Z fn.ntmps w κ (some b)) c (Qq (Ctx.plain Z fn.ntmps w κ (some b)) fn.results.toList l' R) (St.nV l A)):jd Z f l l' A R:=by
 refine⟨hA,hR,hl,hl',hc',⟨fn,c,hf,hb,hname⟩,fun w κ args b T cs hκ hκb hh hcs hglob hrep=> ?_⟩
 refine(callsIn_wide (n:=0)).1 (callsIn_of_wp_marks hf hb trivial ?_ rfl)
 have hlen:A.length+1≤fn.ntmps:=Nat.le_of_ble_eq_true hn
 have hal:=hrep.length
 let sv:Nat→Value:=bM m9 0 (.pointer (some ⟨b,0,none⟩))
 let γ:Nat→Nat:=bM (fun _=>0) 0 1
 have hrep' :RepL κ γ sv (.bx 0 1 0::A) (Value.pointer (some ⟨b,0,none⟩)::args):=
  .cons _ _ _ _ (.bx _ _ _ _ (Nat.le_refl _) (fun _=>⟨b,rfl,rfl⟩) rfl) (hrep.pure (fun _ _ _ h=>h) hA)
 have hσ:∀s b',cw (bM (fun _=>Own.none) 0 (.box l) s) (sv s)=some b'→s=0∧b' =b:=by
  intro s b' hs
  by_cases e:s=0
  ·subst e;rw[aj]at hs;simp only[sv,aj,cw,Option.some.injEq]at hs;exact⟨rfl,hs.symm⟩
  ·rw[bg _ _ _ _ e]at hs;cases hs
 have hsim:dh (Ctx.plain Z fn.ntmps w κ (some b)) κ sv (St.nV l A) {tmps:=(Value.pointer (some ⟨b,0,none⟩)::args).toArray++Array.replicate (fn.ntmps-(Value.pointer (some ⟨b,0,none⟩)::args).toArray.size) Go.undef,defers:=[]} w:=by
  refine⟨by simp[Ctx.plain];omega,sR.nil rfl,fun i _=>gX hrep' _ i, ?_⟩
  refine⟨hκ,fun s=> ?_,fun s t b' hs ht=>(hσ s b' hs).1.trans (hσ t b' ht).1.symm,fun s b' o hs=> ?_,fun s b' hs=> .inr (.inl (by rw[(hσ s b' hs).2];rfl)),⟨fun k=>k=b,⟨Frame.refl _ _,fun k h=> .inr (by rw[h])⟩,fun s b' hs=>(hσ s b' hs).2⟩,fun g l hg=> ?_,fun b o v _ hk=>hk,fun b' hb' => ?_,Nat.le_refl _,⟨fun _ _ _ h=>(by cases h),fun _=>Nat.zero_le _,fun s (e:0=γ s)=>bg _ _ _ _ (fun e2=>by subst e2;simp only[γ,aj]at e;cases e)⟩,fun _ _ _ _ h=>h,fun _ _ _ h=>h,fun _ h=>h.elim⟩
  ·by_cases e:s=0
   ·subst e
    exact⟨b,T,cs,rfl,hh,hcs.pure (fun _ _ _ h=>h) hl,hc⟩
   ·show iC _ _ _ _ _ s (bM (fun _=>Own.none) 0 (.box l) s)
    rw[bg _ _ _ _ e];trivial
  ·rw[(hσ s b' hs).2];exact hκb o
  ·obtain⟨h1,u,h2,h3⟩:=hglob g l hg
   exact⟨h1,u,h2.pure (fun _ _ _ h=>h) (Z.globPure g l hg),h3⟩
  ·have hb' :some b=some b' :=hb'
   simp only[Option.some.injEq]at hb'
   subst hb'
   exact⟨Nat.le_refl _,fun _=>rfl⟩
 refine wpIn_mono (h w κ b κ sv _ w hsim) ?_
 rintro e a' w' ⟨κ',sv',S',hs,hq⟩
 cases e<;>first|exact hq.elim|skip
 all_goals
  obtain⟨S2,ds,m,hw,hγ,hσ',hd,hconv,hconvl⟩:=hq
  obtain⟨κ2,sv2,hs⟩:=hw _ _ _ _ hs
  obtain⟨Ds,d1,d2,d3,_⟩:=hs.defers
  show LeavesInM _ _ _ _ _ _ a'.defers _ _
  rw[d1]
  refine g5 rfl g6 hd (fun a w v hs h2=> ?_) Ds a' w' hs d1 d2 d3
  have hpin:=(hs.wld.pin b rfl).2 hγ
  have hown:=hs.wld.own 0
  rw[hσ']at hown
  obtain⟨b2,T2,cs2,e1,e2,e3,e4⟩:=hown
  rw[hpin]at e1
  simp only[Value.pointer.injEq,Option.some.injEq,Addr.mk.injEq,and_true]at e1
  subst e1
  obtain⟨M,h1,_⟩:=hs.wld.frame
  exact⟨v,cs2,T2,rfl,e2,(hconvl _ _ _ _ e3).pure (ke hs.wld) hl',(hconv _ _ _ _ h2).pure (ke hs.wld) hR,h1.1⟩
section
variable {R:Type} {X:Ctx} {Z:ISeat} {r:R}
def nV(l A:List I):IS:=⟨enum 0 (.bx 0 1 0::A),[(0,1)],[(0, .box l)]⟩
theorem wR(l A:List I):(nV l A).aJ zh=St.nV (I.ao zh l) (I.ao zh A):=by
 unfold IS.aJ St.nV nV
 congr 1
 ·funext i
  exact mH zh (.bx 0 1 0::A) 0 i (Nat.zero_le _)
 ·funext s
  simp only[IS.gen,look,zh,bM]
  cases Nat.beq s 0<;>rfl
 ·funext s
  simp only[IS.own,look,bM]
  cases Nat.beq s 0<;>rfl
def JU(S:IS):List I:=match S.own 0 with| .box l=>l|_=>[]
def Gx(Z:ISeat)(nt:Nat)(rv:List ResultVar)(bt:T)(ts:List T)(S:IS):Option (den bt×j0 ts):=match nv Z nt S rv with
 |some ds=>(match nv Z nt (qS S (dZ S (fw ds++fw (JU S)))) rv,(qS S (dZ S (fw ds++fw (JU S)))).own 0 with
  |some ds, .box l=>(match fM bt l,Dl ts ds with|some y,some x=>some (y,x)|_,_=>none)
  |_,_=>none)
 |none=>none
def Mw(Z:ISeat)(nt:Nat)(rv:List ResultVar)(bt:T)(ts:List T)(e:Option Nat)(S:IS):Option (den bt×j0 ts):=match e with
 |none=>Gx Z nt rv bt ts S
 |some _=>none
theorem BI{nt:Nat}(hX:At X Z nt)(hxf:∀p,X.xa p=false){rv:List ResultVar}{bt:T}{ts:List T}{S:IS}{y:den bt}{x:j0 ts}{h h' :Nat→Nat}(hi:h 0+S.gen 0=1)(hr:Gx Z nt rv bt ts S=some (y,x)):
 ∃S' ds l,Wk X (S.aJ h) S'∧S'.γ 0=1∧S'.σ 0= .box l∧kV X S' rv ds∧(∀κ γ sv v,cX κ γ sv (gu ds) v→cX κ γ sv ((nG ts x).bV h') v)∧∀κ γ sv vs,RepL κ γ sv l vs→RepL κ γ sv (I.ao h' (bO bt y)) vs:=by
 unfold Gx at hr
 split at hr
 ·rename_i ds0 _
  split at hr
  ·rename_i ds l hds hl
   split at hr
   ·rename_i y' x' hy hx
    simp only[Option.some.injEq,Prod.mk.injEq]at hr
    obtain⟨rfl,rfl⟩:=hr
    refine⟨_,_,I.ao h l,lF (dZ S (fw ds0++fw (JU S))) S (fun p _=>hxf p), ?_, ?_,mr hX hds,fun κ γ sv v hv=> ?_,fun κ γ sv vs hv=> ?_⟩
    ·show h 0+look 0 (qS S _).gs 0=1
     rw[Ad];exact hi
    ·show((qS S _).own 0).bq h=_
     rw[hl];rfl
    ·unfold nG
     rw[rj]
     exact CD (by simp only[eZ,xe hx]) (fun vs hvs=>xj hx hvs) hv
    ·rw[aT,←aT h]
     exact fp (dT h (cL bt hy)) hv
   ·cases hr
  ·cases hr
 ·cases hr
def lL{bt:T}{ts:List T}(it:It (den bt×j0 ts))(E:dC Z)(c:Code)(rv:List ResultVar)(l A:List I):Option (den bt×j0 ts):=
 jN it E c ⟨[],[]⟩ (nV l A) (Gx Z E.nt rv bt ts) (Mw Z E.nt rv bt ts)
theorem IW(h:Nat→Nat):∀(ats:List T) (a:dB ats),I.ao h (b6 ats a)=I.ao zh (b6 ats a):=by
 have key:∀(t:T) (x:den t),(gy t x).bV h=(gy t x).bV zh:=fun t x=>by
  unfold gy
  cases oN t with
  |true=>simp only[cond_true,I.bV,aT]
  |false=>
   simp only[cond_false]
   split
   ·rename_i d e
    have h1:=aT h t x
    rw[←aT zh,e]at h1
    simpa[I.ao]using h1
   ·rfl
 intro ats
 induction ats with
 |nil=>intro a;rfl
 |cons t ats ih=>intro a;simp only[b6,I.ao,ih,key]
theorem eK{bt:T}{ts ats:List T}{E:dC Z}{f:FuncId}{fn:Func}{c:Code}(hf:Z.P.funcs[f]? =some fn)(hb:fn.body=some c)(hname:(fn.name== "runtime.NumGoroutine")=false)(hn:Nat.beq fn.ntmps E.nt=true)(hl:Nat.ble (ats.length+1) fn.ntmps=true)(hp:E.pin=[0])
 {b y:den bt}{a:dB ats}{x:j0 ts}(hr:lL cS E c fn.results.toList (bO bt b) (b6 ats a)=some (y,x))(h:Nat→Nat):jd Z.toSeat f (I.ao h (bO bt b)) (I.ao h (bO bt y)) (I.ao h (b6 ats a)) ((nG ts x).bV h):=by
 have hal:∀(ats:List T) (a:dB ats),(b6 ats a).length=ats.length:=fun ats=>by
  induction ats with
  |nil=>intro a;rfl
  |cons t ats ih=>intro a;simp only[b6,List.length_cons,ih]
 rw[IW h,aT h bt b,←aT zh bt b]
 have pb:∀(h:Nat→Nat) (z:den bt),af (I.ao h (bO bt z)):=fun h z=>by rw[aT];exact b9 bt z
 have cb:∀(h:Nat→Nat) (z:den bt),aU (I.ao h (bO bt z))=true:=fun h z=>by rw[aT];exact mF bt z
 refine th hf hb hname (by rw[eZ,hal];exact hl) (pb _ _) (pb _ _) (cb _ _) (cb _ _) (ga _ _ _) (ta _ _ _) fun w κ b' => ?_
 have hX:At (Ctx.plain Z.toSeat fn.ntmps w κ (some b')) Z E.nt:=At.pl rfl (Nat.eq_of_beq_eq_true hn) (fun _=>rfl)
 rw[←wR]
 refine fL (fX c hX (fun _=>⟨_,_,_,_,_,rfl⟩) (g0:=fun _=>1) ⟨[],[]⟩ rfl _ _ _ zh ⟨(fun g hg=>by rw[hp]at hg;simp only[List.mem_singleton]at hg;subst hg;rfl),⟨(fun p hp=>(nomatch hp)),(fun p hp=>(nomatch hp))⟩⟩ hr) ?_
 rintro e T ⟨h2,S,rfl,hi,hq⟩
 cases e with
 |normal=>exact BI hX (fun _=>rfl) (hi.1 0 (by rw[hp];exact List.mem_cons_self ..)) hq
 |ret=>exact BI hX (fun _=>rfl) (hi.1 0 (by rw[hp];exact List.mem_cons_self ..)) hq
 |exit i=>simp only[Mw]at hq;cases hq
 |_=>exact hq.elim
theorem xG{Z:Seat}{f:FuncId}{bt:T}{ats:List T}{l ds:List I}{b:den bt}{a:dB ats}{l' :List D}{R:D}{h:Nat→Nat}(hb:fM bt l=some b)(hd:pS ats ds=some a)(hpl:af (I.ao h l))(hp:af (I.ao h ds))(hc:jd Z f (I.ao h (bO bt b)) l' (I.ao h (b6 ats a)) R):jd Z f (I.ao h l) l' (I.ao h ds) R:=
 ⟨hp,hc.pureR,hpl,hc.purel',hc.cell',hc.body,fun w κ args b T cs h1 h2 h3 h4 h5 h6=>hc.calls w κ args b T cs h1 h2 h3 (fp (dT h (cL bt hb)) h4) h5 (l7 hd h6)⟩
theorem vh{l m:List I}(hn:dE l m)(h:Nat→Nat)(hp:af (I.ao h m)):af (I.ao h l):=by
 induction hn with
 |nil=>exact af.nil
 |cons h1 _ ih=>
  refine af.cons ?_ (ih fun d hd=>hp d (List.mem_cons_of_mem _ hd))
  cases h1 with
  |same=>exact hp _ (List.mem_cons_self ..)
  |nil=>exact .nil
  |nsl t l=>exact fe h (.nsl t l) rfl
def jX(Z:Seat)(f:FuncId)(bt:T)(ats ts:List T)(F:den bt→dB ats→Option (den bt×j0 ts))(hF:∀b a y x,F b a=some (y,x)→∀h,jd Z f (I.ao h (bO bt b)) (I.ao h (bO bt y)) (I.ao h (b6 ats a)) ((nG ts x).bV h)):eU Z where
 f:=f
 app:=fun l A k=>match fM bt l,pS ats A with|some b,some a=>(F b a).bind (fun p=>k (bO bt p.1) (nG ts p.2))|_,_=>none
 ok:=fun l A k r h=>by
  split at h
  ·rename_i b a hb ha
   cases hx:F b a with
   |none=>rw[hx]at h;cases h
   |some p=>
    obtain⟨y,x⟩:=p
    rw[hx]at h
    exact⟨_,_,h,fun h=>xG hb ha (vh (cL bt hb) h (by rw[aT];exact b9 bt b)) (j4 ha) (hF b a y x hx h)⟩
  ·cases h
end
end
end Go.Ab
namespace Go.Ab
open Go Go.RowKit
set_option linter.all false
def bb(fn:Func):Code:=match fn.body with|some c=>c|none=> .skip
noncomputable def iR{α:Type}(x:α):α:=Classical.choose (⟨x,rfl⟩:∃y,y=x)
theorem cd{α:Type}(x:α):iR x=x:=Classical.choose_spec (⟨x,rfl⟩:∃y,y=x)
def bz(n:Int):Int:=IntKind.i64.wrap n
def DO(k:IntKind)(m n:Int):Int:=k.wrap (BitVec.ofInt k.bits m^^^BitVec.ofInt k.bits n).toNat
def xB(k:IntKind)(m n:Int):Int:=m.fdiv (2^(min n.toNat k.bits))
end Go.Ab
namespace Go.Ab
open Go Go.RowKit
noncomputable section
set_option linter.all false
set_option maxHeartbeats 1000000
def Rk(X:Ctx)(rs:List ResultVar)(l' :List D):Exit→St→Prop
 | .normal,S| .ret,S=>∃S' s g l,Wk X S S'∧S'.γ s=g∧S'.σ s= .box l∧kV X S' rs [.bx s g 0]∧∀κ γ sv vs,RepL κ γ sv l vs→RepL κ γ sv l' vs
 |_,_=>False
theorem uJ{Z:Seat}{f:FuncId}{fn:Func}{c:Code}{A l' :List D}(hf:Z.P.funcs[f]? =some fn)(hb:fn.body=some c)(hname:(fn.name== "runtime.NumGoroutine")=false)(hn:Nat.ble A.length fn.ntmps=true)(hA:af A)(hl' :af l')(hc' :aU l' =true)
 (h:∀w κ,W (Ctx.plain Z fn.ntmps w κ none) c (Rk (Ctx.plain Z fn.ntmps w κ none) fn.results.toList l') (St.init A)):iT Z f A l' :=by
 refine⟨hA,hl',⟨fn,c,hf,hb,hname⟩,fun w κ args hκ hglob hrep=> ?_⟩
 refine(callsIn_wide (n:=0)).1 (callsIn_of_wp_marks hf hb trivial ?_ rfl)
 have hlen:A.length≤fn.ntmps:=Nat.le_of_ble_eq_true hn
 have hal:=hrep.length
 have hsim:dh (Ctx.plain Z fn.ntmps w κ none) κ m9 (St.init A) {tmps:=args.toArray++Array.replicate (fn.ntmps-args.toArray.size) Go.undef,defers:=[]} w:=by
  refine⟨by simp[Ctx.plain];omega,sR.nil rfl,fun i _=>gX hrep _ i, ?_⟩
  exact⟨hκ,fun _=>trivial,(fun s t b hs=>by cases hs),(fun s b o hs=>by cases hs),(fun s b hs=>by cases hs),⟨fun _=>False,⟨Frame.refl _ _,fun _ h=>h.elim⟩,fun s b hs=>by cases hs⟩,hglob,fun b o v _ hk=>hk,(fun b hb=>by cases hb),Nat.le_refl _,⟨fun _ _ _ h=>(by cases h),fun _=>Nat.zero_le _,fun _ _=>rfl⟩,fun _ _ _ _ h=>h,fun _ _ _ h=>h,fun _ h=>h.elim⟩
 refine wpIn_mono (h w κ κ m9 _ w hsim) ?_
 rintro e a' w' ⟨κ',sv',S',hs,hq⟩
 cases e<;>first|exact hq.elim|skip
 all_goals
  obtain⟨S2,s,g,l,hw,hg,hσ,hd,hconv⟩:=hq
  obtain⟨κ2,sv2,hs⟩:=hw _ _ _ _ hs
  obtain⟨Ds,d1,d2,d3,_⟩:=hs.defers
  show LeavesInM _ _ _ _ _ _ a'.defers _ _
  rw[d1]
  refine g5 rfl g6 hd (fun a w' v hs h2=> ?_) Ds a' w' hs d1 d2 d3
  obtain⟨M,h1,_⟩:=hs.wld.frame
  have hown:=hs.wld.own s
  rw[hσ]at hown
  obtain⟨b,T,cs,e1,e2,e3,e4⟩:=hown
  have hbk:cw (S2.σ s) (sv2 s)=some b:=by rw[hσ,e1];rfl
  have hnew:w.heap.size≤b:=(hs.wld.frsh s b hbk).resolve_right (fun h=>by rcases h with h|h<;>cases h)
  have hv:v= .pointer (some ⟨b,0,none⟩):=by
   simp only[gu]at h2
   cases h2 with
   |bx _ _ _ _ _ hh _=>
    obtain⟨b',q1,q2⟩:=hh hg.symm
    rw[e1]at q1
    simp only[Value.pointer.injEq,Option.some.injEq,Addr.mk.injEq,and_true]at q1
    rw[q2,q1]
  have hk:∀b o u,κ2 b o=some u→(fun b o=>if b<w.heap.size then κ b o else κ2 b o) b o=some u:=fun b o u hu=>by
   simp only
   split
   ·exact hs.wld.old b o u (by assumption) hu
   ·exact hu
  have h6:=hconv _ _ _ _ e3
  refine⟨b,T,cs,fun b o=>if b<w.heap.size then κ b o else κ2 b o,by rw[hv],hnew,e2,h6.pure hk hl',hc',fun b o u hu=> ?_,fun b o u hb hu=> ?_,fun b o u hu=> ?_,fun o=> ?_,h1.1.below⟩
  ·have:b<w.heap.size:=by have:=World.block_lt_of_cell? w _ (hκ b o u hu);simpa using this
   simp only;rw[if_pos this];exact hu
  ·simp only at hu;rw[if_pos hb]at hu;exact hu
  ·simp only at hu
   split at hu
   ·rename_i hb
    have h3:=hκ b o u hu
    rw[h1.1.below.cell (by simpa using hb)];exact h3
   ·exact hs.wld.imm b o u hu
  ·simp only;rw[if_neg (by omega)]
   exact hs.wld.sep s b o hbk
section
variable {X:Ctx} {Z:ISeat}
def ER(Z:ISeat)(nt:Nat)(rv:List ResultVar)(bt:T)(S:IS):Option (den bt):=match rv with
 |[v]=>(match yd Z nt S v with
  |some (.bx s g 0)=>live S s g (match S.own s with
   | .box l=>(match(qS S (dZ S (fw l))).own s with
     | .box l=>bif Nat.beq 0 0 then fM bt l else none
     |_=>none)
   |_=>none)
  |_=>none)
 |_=>none
theorem JL{S:IS}{p s g o:Nat}{rv:ResultVar}{nt:Nat}(hr:yd Z nt S rv=some (.bx s g o))(ht:∃t,rv= .tmp t):yd Z nt (CY S p) rv=some (.bx s g o):=by
 obtain⟨t,rfl⟩:=ht
 simp only[yd,IS.ev,Option.some.injEq]at hr⊢
 cases hb:Nat.blt t nt with
 |false=>rw[hb]at hr;cases hr
 |true=>
  rw[hb]at hr
  simp only[cond_true]at hr⊢
  unfold CY
  split
  ·show look .undef (uL _ S.rs) t=_
   rw[l5 rfl]
   have h3:look .undef S.rs t= .bx s g o:=hr
   rw[h3];rfl
  ·exact hr
theorem FG{s g o:Nat}{rv:ResultVar}{nt:Nat}(ht:∃t,rv= .tmp t):∀(l:List Nat) (S:IS),yd Z nt S rv=some (.bx s g o)→yd Z nt (qS S l) rv=some (.bx s g o)
 |[],S,hr=>hr
 |p::l,S,hr=>FG ht l _ (JL hr ht)
theorem CV{nt:Nat}(hX:At X Z nt)(hxf:∀p,X.xa p=false){rv:List ResultVar}{bt:T}{S:IS}{y:den bt}{h h' :Nat→Nat}(ht:∃t,rv=[.tmp t])(hr:ER Z nt rv bt S=some y):
 ∃S' s g l,Wk X (S.aJ h) S'∧S'.γ s=g∧S'.σ s= .box l∧kV X S' rv [.bx s g 0]∧∀κ γ sv vs,RepL κ γ sv l vs→RepL κ γ sv (I.ao h' (bO bt y)) vs:=by
 obtain⟨t,rfl⟩:=ht
 simp only[ER]at hr
 split at hr
 ·rename_i s g hv
  replace hr:=dp hr
  obtain⟨rfl,hr⟩:=hr
  split at hr
  ·rename_i l0 hl0
   split at hr
   ·rename_i l hl
    have hr:fM bt l=some y:=hr
    have h1:=FG (Z:=Z) ⟨t,rfl⟩ (dZ S (fw l0)) S hv
    refine⟨_,s,h s+S.gen s,I.ao h l,lF (dZ S (fw l0)) S (fun p _=>hxf p), ?_, ?_,⟨Fs hX h1,trivial⟩,fun κ γ sv vs hv=> ?_⟩
    ·show h s+look 0 (qS S _).gs s=_
     rw[Ad];rfl
    ·show((qS S _).own s).bq h=_
     rw[hl];rfl
    ·rw[aT,←aT h]
     exact fp (dT h (cL bt hr)) hv
   ·cases hr
  ·cases hr
 ·cases hr
def Me(Z:ISeat)(nt:Nat)(rv:List ResultVar)(bt:T)(e:Option Nat)(S:IS):Option (den bt):=match e with
 |none=>ER Z nt rv bt S
 |some _=>none
def HM{bt:T}(it:It (den bt))(E:dC Z)(c:Code)(rv:List ResultVar)(A:List I):Option (den bt):=jN it E c ⟨[],[]⟩ (pY A) (ER Z E.nt rv bt) (Me Z E.nt rv bt)
theorem AH{bt:T}{ats:List T}{E:dC Z}{f:FuncId}{fn:Func}{c:Code}(hf:Z.P.funcs[f]? =some fn)(hb:fn.body=some c)(hname:(fn.name== "runtime.NumGoroutine")=false)(hn:Nat.beq fn.ntmps E.nt=true)(hl:Nat.ble ats.length fn.ntmps=true)(hp:E.pin=[])(ht:∃t,fn.results.toList=[.tmp t])
 {a:dB ats}{y:den bt}(hr:HM cS E c fn.results.toList (b6 ats a)=some y)(h:Nat→Nat):iT Z.toSeat f (I.ao h (b6 ats a)) (I.ao h (bO bt y)):=by
 have hal:∀(ats:List T) (a:dB ats),(b6 ats a).length=ats.length:=fun ats=>by
  induction ats with
  |nil=>intro a;rfl
  |cons t ats ih=>intro a;simp only[b6,List.length_cons,ih]
 rw[IW h]
 have pb:af (I.ao h (bO bt y)):=by rw[aT];exact b9 bt y
 have cb:aU (I.ao h (bO bt y))=true:=by rw[aT];exact mF bt y
 refine uJ hf hb hname (by rw[eZ,hal];exact hl) (ga _ _ _) pb cb fun w κ=> ?_
 have hX:At (Ctx.plain Z.toSeat fn.ntmps w κ none) Z E.nt:=At.pl rfl (Nat.eq_of_beq_eq_true hn) (fun _=>rfl)
 rw[←o8]
 refine fL (fX c hX (fun _=>⟨_,_,_,_,_,rfl⟩) (g0:=zh) ⟨[],[]⟩ rfl _ _ _ zh ⟨(fun g hg=>by rw[hp]at hg;cases hg),⟨(fun p hp=>(nomatch hp)),(fun p hp=>(nomatch hp))⟩⟩ hr) ?_
 rintro e T ⟨h2,S,rfl,_,hq⟩
 cases e with
 |normal=>exact CV hX (fun _=>rfl) ht hq
 |ret=>exact CV hX (fun _=>rfl) ht hq
 |exit i=>simp only[Me]at hq;cases hq
 |_=>exact hq.elim
theorem xH{Z:Seat}{f:FuncId}{ats:List T}{ds:List I}{a:dB ats}{l:List D}{h:Nat→Nat}(hd:pS ats ds=some a)(hp:af (I.ao h ds))(hc:iT Z f (I.ao h (b6 ats a)) l):iT Z f (I.ao h ds) l:=
 ⟨hp,hc.purel,hc.body,fun w κ args hf hg hr=>hc.calls w κ args hf hg (l7 hd hr)⟩
def Lu(Z:Seat)(f:FuncId)(bt:T)(ats:List T)(F:dB ats→Option (den bt))(hF:∀a y,F a=some y→∀h,iT Z f (I.ao h (b6 ats a)) (I.ao h (bO bt y))):ni Z where
 f:=f
 app:=fun A k=>match pS ats A with|some a=>(F a).bind (fun y=>k (bO bt y))|none=>none
 ok:=fun A k r h=>by
  split at h
  ·rename_i a ha
   cases hx:F a with
   |none=>rw[hx]at h;cases h
   |some y=>
    rw[hx]at h
    exact⟨_,h,fun h=>xH ha (j4 ha) (hF a y hx h)⟩
  ·cases h
end
end
end Go.Ab
namespace Go.Ab
open Go Go.RowKit
noncomputable section
set_option linter.all false
set_option maxHeartbeats 1000000
def YL:Nat:=999983
section
variable {Z:ISeat} {its:List T}
def yieldOf(Z:ISeat)(nt:Nat)(S:IS)(o:Oper):Option (Array Operand×Nat):=match o.op,o.dst,o.guard with
 | .call ⟨.value (.tmp x),xs,_⟩,some t,none=>(match S.ev Z nt (.tmp x)with
   | .yl s=>bif Nat.beq s YL&&Nat.beq (S.gen s) 0 then some (xs,t)else none
   |_=>none)
 |_,_,_=>none
def BN{α:Type}(a:α)(r1 r2:Option (List α)):Option (List α):=match r1 with
 |some []=>(match r2 with|some l=>some (a::l)|none=>none)
 |_=>none
def Nt:T→Bool
 | .int _=>true
 | .bool=>true
 | .str=>true
 |_=>false
def Rl:I→Bool
 | .int _ _=>true
 | .bool _=>true
 | .str _=>true
 | .nil=>true
 | .agg l=>KZ l
 |_=>false
def IE(S:IS)(t:T)(d:I):Option (den t×List Nat):=match t,d with
 | .sl t', .os s g=>(match S.own s with
   | .arr _ t2 l=>bif Nat.beq g (S.gen s)&&Nt t' then(match uS t' t2 l with|some l' =>some (l',[s])|none=>none)else none
   |_=>none)
 |t,d=>bif Rl d then(match uE t d with|some x=>some (x,[])|none=>none)else none
def Gh(S:IS):(ts:List T)→List I→Option (dB ts×List Nat)
 |[],[]=>some ((),[])
 |t::ts,d::ds=>(match IE S t d with
  |some x=>(match Gh S ts ds with|some y=>some ((x.1,y.1),x.2++y.2)|none=>none)
  |none=>none)
 |_,_=>none
def vV(S:IS)(ps:List Nat):IS:=⟨S.rs,S.gs,ps.map (fun p=>(p,IOwn.none))++S.os⟩
def yY(its:List T)(E:CEnv Z)(F:Fix)(ops:Array Oper):List Oper→Bool→IS→(Bool→IS→Option (List (dB its)))→Option (List (dB its))
 |[],st,S,k=>k st S
 |o::rest,st,S,k=>match yieldOf Z E.nt S o with
  |some (xs,t)=>bif st then none else(match Gh S its (xs.toList.map (S.ev Z E.nt))with
   |some (a,ps)=>aW (uN F ps&& !(cY t (keys F.sl))) (BN a (yY its E F ops rest true ((vV S ps).set t (.bool false)) k) (yY its E F ops rest false ((vV S ps).set t (.bool true)) k))
   |none=>none)
  |none=>rl E F ops [o] S (fun S1=>yY its E F ops rest st S1 k)
def No(its:List T)(id:Nat)(kn:Bool→IS→Option (List (dB its)))(kx:Option Nat→Bool→IS→Option (List (dB its)))(e:Option Nat)(st:Bool)(S:IS):Option (List (dB its)):=match e with
 |some i=>bif Nat.beq i id then kn st S else kx (some i) st S
 |none=>kx none st S
def xn(its:List T)(it:It (List (dB its)))(E:dC Z):Code→Fix→Bool→IS→(Bool→IS→Option (List (dB its)))→(Option Nat→Bool→IS→Option (List (dB its)))→Option (List (dB its))
 | .skip,_,st,S,kn,_=>kn st S
 | .region _ ops draw,F,st,S,kn,_=>bif draw then xT E.toCEnv F ops ops.toList S [] (settle F (kn st))else yY its E.toCEnv F ops ops.toList st S kn
 | .seq a b,F,st,S,kn,kx=>xn its it E a F st S (fun st' S' =>xn its it E b F st' S' kn kx) kx
 | .cond c a b,F,st,S,kn,kx=>(match S.ev Z E.nt c with
   | .bool v=>bif v then xn its it E a F st S kn kx else xn its it E b F st S kn kx
   |_=>none)
 | .block id b,F,st,S,kn,kx=>xn its it E b F st S kn (No its id kn kx)
 | .exit id,_,st,S,_,kx=>kx (some id) st S
 | .ret,_,st,S,_,kx=>kx none st S
 | .loop b,F,st,S,_,kx=>bif st then none else(match F7 E.lp (zl b) S with
   |some L=>(match JC F L S with
    |some F' =>lT E.pin F' L.K (it L.K.V (fun v kn=>xn its it E b F' false (kc L.K F' v) (fun st' S' =>bif st' then none else lT E.pin F' L.K kn S') kx)) S
    |none=>none)
   |none=>none)
 |_,_,_,_,_,_=>none
def QI(its:List T)(items:List (dB its))(p:List Nat)(g0:Nat→Nat)(F:Fix)(kn:Bool→IS→Option (List (dB its)))(kx:Option Nat→Bool→IS→Option (List (dB its))):Nat→Bool→Exit→St→Prop:=fun k st e T=>∃h S l,T=S.aJ h∧Inv p g0 F h S∧(st=false→l=items.drop k)∧k≤items.length∧match e with
 | .normal=>kn st S=some l
 | .exit i=>kx (some i) st S=some l
 | .ret=>kx none st S=some l
 |_=>False
theorem uX{En:Env}{c:Code}{Q Q' :Nat→Bool→Exit→St→Prop}{k:Nat}{s:Bool}{S:St}(h:WI En c Q k s S)(hq:∀k s e S,Q k s e S→Q' k s e S):WI En c Q' k s S:=fun U κ sv a W hs=>by
 refine wpIn_mono (h U κ sv a W hs) ?_
 rintro e a' W' ⟨k',s',U',κ',sv',S',h1,h2⟩
 exact⟨k',s',U',κ',sv',S',h1,hq _ _ _ _ h2⟩
theorem Eh{α:Type}{a:α}{r1 r2:Option (List α)}{l:List α}(h:BN a r1 r2=some l):r1=some []∧∃m,r2=some m∧l=a::m:=by
 unfold BN at h
 split at h
 ·split at h
  ·simp only[Option.some.injEq]at h;exact⟨rfl,_,rfl,h.symm⟩
  ·cases h
 ·cases h
theorem wY(S:IS):∀(ps:List Nat) (s:Nat),(vV S ps).own s=bif cY s ps then .none else S.own s
 |[],s=>rfl
 |p::ps,s=>by
  show look IOwn.none ((p, .none)::(ps.map (fun p=>(p,IOwn.none))++S.os)) s=_
  simp only[look,cY]
  cases Nat.beq s p with
  |true=>rfl
  |false=>exact wY S ps s
theorem Hz(S:IS)(h:Nat→Nat)(ps:List Nat):(vV S ps).aJ h=(S.aJ h).drop ps:=by
 unfold IS.aJ St.drop
 congr 1
 funext s
 rw[wY]
 cases cY s ps<;>rfl
theorem BB{F:Fix}:∀{l:List Nat},uN F l=true→∀p∈l,cY p (keys F.pl)=false
 |q::l,h,p,hp=>by
  simp only[uN,Bool.and_eq_true,Bool.not_eq_true']at h
  rcases List.mem_cons.1 hp with rfl|hp
  ·exact h.1.1
  ·exact BB h.2 p hp
theorem Inv.drop{p:List Nat}{g0:Nat→Nat}{F:Fix}{h:Nat→Nat}{S:IS}(hi:Inv p g0 F h S){ps:List Nat}(hp:uN F ps=true):Inv p g0 F h (vV S ps):=by
 refine⟨hi.1,hi.2.1,fun q hq=> ?_⟩
 rw[wY]
 cases hm:cY q.1 ps with
 |false=>exact hi.2.2 q hq
 |true=>
  have h1:=BB hp q.1 (cu.1 hm)
  rw[cu.2 (fF hq)]at h1;cases h1
theorem L0{h:Nat→Nat}{d:I}(hs:Rl d=true):∀(κ:Nat→Nat→Option Value) (γ:Nat→Nat) (sv:Nat→Value) (v:Value),cX κ γ sv (d.bV h) v→∀(κ' :Nat→Nat→Option Value) (γ' :Nat→Nat) (sv' :Nat→Value),cX κ' γ' sv' (d.bV h) v:=by
 intro κ γ sv v hr κ' γ' sv'
 cases d with
 |int k n=>cases hr;exact .int _ _
 |bool b=>cases hr;exact .bool _
 |str b=>cases hr;exact .str _
 |nil=>cases hr;exact .nil
 |agg l=>
  have hsc:NW [.agg l]=true:=by
   show(KZ l&&true)=true
   rw[show KZ l=true from hs];rfl
  obtain⟨vs,hvs⟩:=Ee (h:=h) hsc
  have e1:lf ((I.agg l).bV h)=some (vs.headD Go.undef):=by
   simp only[I.ao,iv]at hvs
   cases hq:lf ((I.agg l).bV h)with
   |none=>rw[hq]at hvs;cases hvs
   |some u=>rw[hq]at hvs;simp at hvs;subst hvs;rfl
  rw[wS e1 hr];exact sW e1
 |_=>cases hs
theorem L5{t:T}(ht:Nt t=true)(x:den t):∃vs,lA (dk t x)=some vs:=by
 cases t<;>first|(cases ht;done)|exact⟨_,rfl⟩
theorem J0{S:IS}{h:Nat→Nat}{t:T}{d:I}{x:den t}{p1 ps:List Nat}(hg:IE S t d=some (x,p1))(hp:∀p∈p1,p∈ps):OZ (S.aJ h) ps (d.bV h) ((gy t x).bV zh):=by
 unfold IE at hg
 split at hg
 ·rename_i t' s g
  split at hg
  ·rename_i E t2 l hσ
   cases hb:Nat.beq g (S.gen s)&&Nt t' with
   |false=>rw[hb]at hg;cases hg
   |true=>
    rw[hb]at hg
    simp only[cond_true]at hg
    simp only[Bool.and_eq_true]at hb
    split at hg
    ·rename_i l' hl
     simp only[Option.some.injEq,Prod.mk.injEq]at hg
     obtain⟨rfl,rfl⟩:=hg
     have e1:=Nat.eq_of_beq_eq_true hb.1
     subst e1
     have e2:=lD hl
     simp only[I.sl.injEq]at e2
     obtain⟨rfl,e2⟩:=e2
     have e2:=eq_of_heq e2
     subst e2
     exact .os s _ E (sz t2) l.length (fun i=>dk t2 (l.getD i (dD t2))) rfl (by show(S.own s).bq h=_;rw[hσ];rfl) (hp s (List.mem_cons_self ..)) (fun i _=>L5 hb.2 _)
    ·cases hg
  ·cases hg
 ·cases hs:Rl d with
  |false=>rw[hs]at hg;cases hg
  |true=>
   rw[hs]at hg
   simp only[cond_true]at hg
   split at hg
   ·rename_i y hy
    simp only[Option.some.injEq,Prod.mk.injEq]at hg
    obtain⟨rfl,rfl⟩:=hg
    exact .conv _ _ fun κ γ sv v hr κ' γ' sv' =>jB hy (L0 hs κ γ sv v hr κ' γ' sv')
   ·cases hg
theorem BW{S:IS}{h:Nat→Nat}{ps:List Nat}:∀{ts:List T} {ds:List I} {x:dB ts} {p1:List Nat},Gh S ts ds=some (x,p1)→(∀p∈p1,p∈ps)→xR (S.aJ h) ps (I.ao h ds) (I.ao zh (b6 ts x))
 |[],[],x,p1,hg,hp=> .nil
 |[],_::_,x,p1,hg,hp=>by cases hg
 |_::_,[],x,p1,hg,hp=>by cases hg
 |t::ts,d::ds,x,p1,hg,hp=>by
  unfold Gh at hg
  split at hg
  ·rename_i a ha
   obtain⟨a1,a2⟩:=a
   split at hg
   ·rename_i b hb
    obtain⟨b1,b2⟩:=b
    simp only[Option.some.injEq,Prod.mk.injEq]at hg
    obtain⟨rfl,rfl⟩:=hg
    exact .cons _ _ _ _ (J0 ha (fun p hq=>hp p (List.mem_append_left _ hq))) (BW hb (fun p hq=>hp p (List.mem_append_right _ hq)))
   ·cases hg
  ·cases hg
variable {En:Env} {items:List (dB its)}
structure QA (En:Env) (Z:ISeat) (nt:Nat) (items:List (dB its)):Prop where
 Z:En.Z=Z.toSeat
 nt:En.nt=nt
 n:En.n=items.length
 vals:∀(i:Nat) (a:dB its),items[i]? =some a→En.its i=I.ao zh (b6 its a)
theorem QA.at'{nt:Nat}(h:QA En Z nt items)(k:Nat)(s:Bool)(U:Nat→Prop):At (En.X k s U) Z nt:=At.pl h.Z h.nt (fun _=>rfl)
theorem rY{E:CEnv Z}{g0:Nat→Nat}(hX:QA En Z E.nt items)(hYL:YL∈E.pin)(hg0:g0 YL=En.l){F:Fix}(hF:okF F=true){ops:Array Oper}{kn:Bool→IS→Option (List (dB its))}{kx:Option Nat→Bool→IS→Option (List (dB its))}:
 ∀(l:List Oper) (k:Nat) (st:Bool) (S:IS) (h:Nat→Nat) (r:List (dB its)),Inv E.pin g0 F h S→yY its E F ops l st S kn=some r→(st=false→r=items.drop k)→k≤items.length→pM En ops l (QI its items E.pin g0 F kn kx) k st (S.aJ h)
 |[],k,st,S,h,r,hi,hr,hd,hk=>J7 fun U=>aG ⟨h,S,r,rfl,hi,hd,hk,hr⟩
 |o::rest,k,st,S,h,r,hi,hr,hd,hk=>by
  unfold yY at hr
  split at hr
  ·rename_i xs t hy
   cases st with
   |true=>cases hr
   |false=>
    simp only[cond_false]at hr
    split at hr
    ·rename_i a ps ha
     obtain⟨hc,hr⟩:=ak hr
     simp only[Bool.and_eq_true,Bool.not_eq_true']at hc
     obtain⟨r1,m,r2,rfl⟩:=Eh hr
     have hdk:=hd rfl
     have hlt:k<items.length:=by
      have h1:(items.drop k).length=(a::m).length:=by rw[←hdk]
      simp at h1;omega
     have hak:items[k]? =some a:=by
      have h1:(items.drop k)[0]? =some a:=by rw[←hdk];rfl
      simpa using h1
     have hmk:m=items.drop (k+1):=by
      have h1:(items.drop k).tail=m:=by rw[←hdk];rfl
      rw[←h1];simp
     unfold yieldOf at hy
     split at hy
     ·rename_i x xs' ts t' ho hd' hg
      split at hy
      ·rename_i ly hly
       cases hb:Nat.beq ly YL&&Nat.beq (S.gen ly) 0 with
       |false=>rw[hb]at hy;cases hy
       |true=>
        rw[hb]at hy
        simp only[Bool.and_eq_true]at hb
        have ely:=Nat.eq_of_beq_eq_true hb.1
        have eg:=Nat.eq_of_beq_eq_true hb.2
        simp only[cond_true,Option.some.injEq,Prod.mk.injEq]at hy
        obtain⟨rfl,rfl⟩:=hy
        have hev:∀y,(S.aJ h).ev (En.X k false fun _=>False) y=(S.ev Z E.nt y).bV h:=fun y=>dI (hX.at' k false _) y
        have hmap:xs'.toList.map ((S.aJ h).ev (En.X k false fun _=>False))=I.ao h (xs'.toList.map (S.ev Z E.nt)):=by
         rw[dO,List.map_map]
         exact List.map_congr_left fun y _=>hev y
        have hT:=rY hX hYL hg0 hF (kx:=kx) rest (k+1) false ((vV S ps).set t' (.bool true)) h m ((hi.drop hc.1).set hc.2 _) r2 (fun _=>hmk) (by omega)
        have hFl:=rY hX hYL hg0 hF (kx:=kx) rest (k+1) true ((vV S ps).set t' (.bool false)) h [] ((hi.drop hc.1).set hc.2 _) r1 (fun h=>by cases h) (by omega)
        rw[gJ,Hz]at hT hFl
        have hyl:(S.aJ h).ev (En.X k false fun _=>False) (.tmp x)= .yl En.l:=by
         rw[hev,hly]
         have h3:=hi.1 YL hYL
         rw[ely]at eg
         rw[eg,Nat.add_zero,hg0]at h3
         show D.yl (h ly)=_
         rw[ely,h3]
        exact yz (ps:=ps) ho hg hd' hyl hmap (by rw[hX.vals k a hak];exact BW ha (fun p hp=>hp)) (by rw[hX.n];exact hlt) hT hFl
      ·cases hy
     ·cases hy
    ·cases hr
  ·refine Ch [o] rest fun U=> ?_
   exact ir (hX.at' k st U) hF (fun h S' hi' hr' =>⟨rfl,rY hX hYL hg0 hF rest k st S' h r hi' hr' hd hk⟩) [o] S h hi hr
theorem H8{c:Operand}{x y:Code}{Q:Nat→Bool→Exit→St→Prop}{k:Nat}{s:Bool}{S:St}(hc:S.ev (En.X k s fun _=>False) c= .bool true)(h:WI En x Q k s S):WI En (.cond c x y) Q k s S:=fun U κ sv a W hs=>by
 have h1:=hs.ev c
 have hc' :S.ev (En.X k s U) c= .bool true:=hc
 rw[hc']at h1
 have:a.eval c= .bool true:=by generalize a.eval c=v at h1;cases h1;rfl
 exact wpIn_cond_true this (h U κ sv a W hs)
theorem JX{c:Operand}{x y:Code}{Q:Nat→Bool→Exit→St→Prop}{k:Nat}{s:Bool}{S:St}(hc:S.ev (En.X k s fun _=>False) c= .bool false)(h:WI En y Q k s S):WI En (.cond c x y) Q k s S:=fun U κ sv a W hs=>by
 have h1:=hs.ev c
 have hc' :S.ev (En.X k s U) c= .bool false:=hc
 rw[hc']at h1
 have:a.eval c= .bool false:=by generalize a.eval c=v at h1;cases h1;rfl
 exact wpIn_cond_false this (h U κ sv a W hs)
theorem nf{E:dC Z}{g0:Nat→Nat}(hX:QA En Z E.nt items)(hYL:YL∈E.pin)(hg0:g0 YL=En.l):∀(c:Code) (F:Fix),okF F=true→∀(k:Nat) (st:Bool) (S:IS) (kn:Bool→IS→Option (List (dB its))) (kx:Option Nat→Bool→IS→Option (List (dB its))) (h:Nat→Nat) (r:List (dB its)),
 Inv E.pin g0 F h S→xn its cS E c F st S kn kx=some r→(st=false→r=items.drop k)→k≤items.length→WI En c (QI its items E.pin g0 F kn kx) k st (S.aJ h)
 | .skip,F,hF,k,st,S,kn,kx,h,r,hi,hr,hd,hk=>LC ⟨h,S,r,rfl,hi,hd,hk,hr⟩
 | .region id ops draw,F,hF,k,st,S,kn,kx,h,r,hi,hr,hd,hk=>by
   have e:ops=ops.toList.toArray:=by simp
   cases draw with
   |false=>
    rw[e]
    refine zR ?_
    rw[←e]
    exact rY hX hYL hg0 hF _ k st S h r hi hr hd hk
   |true=>
    refine Es fun U=>Kd (Q' :=fun e T=>∃h S',T=S'.aJ h∧Inv E.pin g0 F h S'∧e= .normal∧settle F (kn st) S' =some r) ?_ ?_
    ·rw[e]
     refine ay ?_
     rw[←e]
     exact pC (hX.at' k st U) (fun h S' hi hk=>⟨h,S',rfl,hi,rfl,hk⟩) _ S _ _ _ h hi hr
    ·rintro e T ⟨h1,S1,rfl,hi1,rfl,hk1⟩
     obtain⟨S2,h2,h3,h4⟩:=qv (h:=h1) hk1
     exact⟨_,h3 _ (fun p h=>nomatch (show false=true from h)),h1,S2,r,rfl,h4 _ _ hi1,hd,hk,h2⟩
 | .seq a b,F,hF,k,st,S,kn,kx,h,r,hi,hr,hd,hk=>by
   refine DL (uX (nf hX hYL hg0 a F hF k st S _ kx h r hi hr hd hk) ?_)
   rintro k' st' e T ⟨h',S',r',rfl,hi',hd',hk',hq⟩
   cases e with
   |normal=>exact nf hX hYL hg0 b F hF k' st' S' kn kx h' r' hi' hq hd' hk'
   |exit i=>exact⟨h',S',r',rfl,hi',hd',hk',hq⟩
   |ret=>exact⟨h',S',r',rfl,hi',hd',hk',hq⟩
   |_=>exact hq.elim
 | .cond c a b,F,hF,k,st,S,kn,kx,h,r,hi,hr,hd,hk=>by
   simp only[xn]at hr
   split at hr
   ·rename_i v hv
    have hev:(S.aJ h).ev (En.X k st fun _=>False) c= .bool v:=by rw[dI (hX.at' k st _),hv];rfl
    cases v with
    |true=>exact H8 hev (nf hX hYL hg0 a F hF k st S kn kx h r hi hr hd hk)
    |false=>exact JX hev (nf hX hYL hg0 b F hF k st S kn kx h r hi hr hd hk)
   ·cases hr
 | .block id b,F,hF,k,st,S,kn,kx,h,r,hi,hr,hd,hk=>by
   refine xq (uX (nf hX hYL hg0 b F hF k st S kn (No its id kn kx) h r hi hr hd hk) ?_)
   rintro k' st' e T ⟨h',S',r',rfl,hi',hd',hk',hq⟩
   cases e with
   |normal=>exact⟨h',S',r',rfl,hi',hd',hk',hq⟩
   |exit i=>
    simp only[eC]
    simp only[No]at hq
    cases hb:Nat.beq i id with
    |true=>rw[hb]at hq;exact⟨h',S',r',rfl,hi',hd',hk',hq⟩
    |false=>rw[hb]at hq;exact⟨h',S',r',rfl,hi',hd',hk',hq⟩
   |ret=>exact⟨h',S',r',rfl,hi',hd',hk',hq⟩
   |_=>exact hq.elim
 | .exit id,F,hF,k,st,S,kn,kx,h,r,hi,hr,hd,hk=>Kt ⟨h,S,r,rfl,hi,hd,hk,hr⟩
 | .ret,F,hF,k,st,S,kn,kx,h,r,hi,hr,hd,hk=>MO ⟨h,S,r,rfl,hi,hd,hk,hr⟩
 | .loop b,F,hF,k,st,S,kn,kx,h,r,hi,hr,hd,hk=>by
   simp only[xn]at hr
   cases st with
   |true=>cases hr
   |false=>
    simp only[cond_false]at hr
    split at hr
    ·rename_i L hL
     split at hr
     ·rename_i F' hF'
      obtain⟨hok,hcs,hsub⟩:=Av hF hi hF'
      obtain⟨v,h',hr,hw,hi'⟩:=yH (X0:=En.X 0 false fun _=>False) (fun p h=>nomatch (show false=true from h)) hok ⟨hi.1,hcs⟩ hr
      refine Gn (fun x:Nat×(Nat→Nat)×L.K.V×Nat=>(x.1,false,(kc L.K F' x.2.2.1).aJ x.2.1))
       (fun x=>Inv E.pin g0 F' x.2.1 (kc L.K F' x.2.2.1)∧x.1≤items.length∧iter (fun v kn' =>xn its cS E b F' false (kc L.K F' v) (fun st' S' =>bif st' then none else lT E.pin F' L.K kn' S') kx) x.2.2.2 x.2.2.1=some (items.drop x.1))
       (fun x=>x.2.2.2) (k,h',v,xZ) ⟨hi',hk,by rw[←hd rfl];exact hr⟩ ⟨rfl,rfl,fun U=>hw _ (fun p h=>nomatch (show false=true from h))⟩ ?_
      rintro ⟨k1,h1,v1,m⟩ ⟨hi1,hk1,hm⟩
      simp only at hi1 hk1 hm⊢
      cases m with
      |zero=>cases hm
      |succ m=>
       refine uX (nf hX hYL hg0 b F' hok k1 false _ _ kx h1 _ hi1 hm (fun _=>rfl) hk1) ?_
       rintro k2 st2 e T ⟨h2,S2,r2,rfl,hi2,hd2,hk2,hq⟩
       cases e with
       |normal=>
        cases st2 with
        |true=>cases hq
        |false=>
         obtain⟨v3,h3,hq,hw3,hi3⟩:=yH (X0:=En.X 0 false fun _=>False) (fun p h=>nomatch (show false=true from h)) hok hi2 hq
         refine⟨(k2,h3,v3,m),⟨hi3,hk2, ?_⟩,Nat.lt_succ_self m,rfl,rfl,fun U=>hw3 _ (fun p h=>nomatch (show false=true from h))⟩
         rw[←hd2 rfl];exact hq
       |_=>exact⟨h2,S2,r2,rfl,⟨hi2.1,hsub S2 hi2.2⟩,hd2,hk2,hq⟩
     ·cases hr
    ·cases hr
 | .rangeFunc _ _ _ _,_,_,_,_,_,_,_,_,_,_,hr,_,_=>by cases hr
 | .scope _,_,_,_,_,_,_,_,_,_,_,hr,_,_=>by cases hr
 | .label _,_,_,_,_,_,_,_,_,_,_,hr,_,_=>by cases hr
 | .goto _,_,_,_,_,_,_,_,_,_,_,hr,_,_=>by cases hr
 | .refuse _,_,_,_,_,_,_,_,_,_,_,hr,_,_=>by cases hr
end
end
end Go.Ab
namespace Go.Ab
open Go Go.RowKit
noncomputable section
set_option linter.all false
set_option maxHeartbeats 1000000
section
variable {Z:ISeat} {its:List T}
def hY(l:Nat):Nat→Nat:=fun s=>bif Nat.beq s YL then l else 0
theorem DQ(h:Nat→Nat)(A:List I):((pY A).aJ h).ρ=(St.init (I.ao h A)).ρ:=by
 unfold IS.aJ St.init pY
 funext i
 exact mH h A 0 i (Nat.zero_le _)
def HS(its:List T)(it:It (List (dB its)))(E:dC Z)(c:Code)(A:List I):Option (List (dB its)):=
 xn its it E c ⟨[],[]⟩ false (pY (.yl YL::A)) (fun _ _=>some []) (fun e _ _=>match e with|none=>some []|some _=>none)
theorem Cf{cts:List T}{E:dC Z}{f:FuncId}{fn:Func}{c:Code}(hf:Z.P.funcs[f]? =some fn)(hb:fn.body=some c)(hname:(fn.name== "runtime.NumGoroutine")=false)(hn:Nat.beq fn.ntmps E.nt=true)(hl:Nat.ble (cts.length+1) fn.ntmps=true)(hp:E.pin=[YL])(hres:fn.results= #[])
 {a:dB cts}{items:List (dB its)}(hr:HS its cS E c (b6 cts a)=some items)(h:Nat→Nat):
 Og Z.toSeat f (I.ao h (b6 cts a)) items.length (MG its items):=by
 refine yL hf hb hname (by rw[eZ,mB];exact hl) (ga _ _ _) (fun k hk=> ?_) hres fun En e1 e2 e3 e4=> ?_
 ·unfold MG
  rw[List.getElem?_eq_getElem hk]
  exact ga _ _ _
 have hX:QA En Z E.nt items:=⟨e1,e2.trans (Nat.eq_of_beq_eq_true hn),e3,fun i x hx=>by
  rw[e4];unfold MG;rw[hx]⟩
 have h0:hY En.l YL=En.l:=by simp[hY]
 refine Py (S' :=(pY (.yl YL::b6 cts a)).aJ (hY En.l)) (fun U κ sv aa W hs=>⟨κ,sv,uT (fun i=> .inr ?_) (fun s=>Nat.zero_le _) (fun s=> .inl rfl) hs⟩) ?_
 ·rw[DQ]
  show _=(St.init (.yl En.l::I.ao h (b6 cts a))).ρ i
  rw[pz h (hY En.l)]
  show(St.init (.yl (hY En.l YL)::I.ao (hY En.l) (b6 cts a))).ρ i=_
  rw[h0]
 ·refine uX (nf hX (by rw[hp];simp) (g0:=fun _=>En.l) rfl c ⟨[],[]⟩ rfl 0 false _ _ _ (hY En.l) items ⟨fun g hg=> ?_,⟨(fun p hp=>(nomatch hp)),(fun p hp=>(nomatch hp))⟩⟩ hr (fun _=>rfl) (Nat.zero_le _)) ?_
  ·rw[hp]at hg
   simp only[List.mem_singleton]at hg
   subst hg
   exact h0
  ·rintro k s e T ⟨h2,S2,l,rfl,hi,hd,hk,hq⟩
   have fin:some ([]:List (dB its))=some l→(s=false→k=items.length):=fun e hs=>by
    simp only[Option.some.injEq]at e
    have h3:=hd hs
    rw[←e]at h3
    have h4:(items.drop k).length=0:=by rw[←h3];rfl
    simp at h4;omega
   cases e with
   |normal=>exact⟨.inl rfl,fin hq,hk⟩
   |ret=>exact⟨.inr rfl,fin hq,hk⟩
   |exit i=>cases hq
   |_=>exact hq.elim
def Ed:List T→Bool
 |[]=>true
 | .ptr _::l=>Ed l
 |_=>false
theorem Bn:∀{cts:List T} {ds:List I} {a:dB cts},Ed cts=true→pS cts ds=some a→ds=b6 cts a
 |[],[],a,_,_=>rfl
 |[],_::_,a,_,h=>by cases h
 | .ptr t::ts,[],a,_,h=>by cases h
 | .ptr t::ts,d::ds,a,hp,h=>by
   simp only[pS]at h
   split at h
   ·rename_i y hy
    split at h
    ·rename_i z hz
     simp only[Option.some.injEq]at h
     subst h
     have h1:=uh (enc:=bO t) (fun h=>cL t h) (show tP (fM t) [d]=some y from hy)
     simp only[List.cons.injEq,and_true]at h1
     simp only[b6]
     rw[←Bn (cts:=ts) hp hz,h1]
     rfl
    ·cases h
   ·cases h
def HX(Z:Seat)(f:FuncId)(cts its:List T)(hp:Ed cts=true)(F:dB cts→Option (List (dB its)))
    (hF:∀a items,F a=some items→∀h,Og Z f (I.ao h (b6 cts a)) items.length (MG its items)):qC Z where
 f:=f
 its:=its
 app:=fun cap k=>match pS cts cap with|some a=>(F a).bind k|none=>none
 ok:=fun cap k r h=>by
  split at h
  ·rename_i a ha
   cases hx:F a with
   |none=>rw[hx]at h;cases h
   |some items=>
    rw[hx]at h
    refine⟨items,h,fun h=> ?_⟩
    rw[Bn hp ha]
    exact hF a items hx h
  ·cases h
def KY(Z:ISeat)(nt:Nat)(rv:List ResultVar)(g:FuncId)(ct:T)(S:IS):Option (den ct):=match rv with
 |[.tmp t]=>bif Nat.ble (t+1) nt then(match S.get t with
  | .fn f [.bx s g' 0]=>bif Nat.beq f g&&Nat.beq g' (S.gen s)then(match S.own s with
    | .box l=>bif jx l then fM ct l else none
    |_=>none)else none
  |_=>none)else none
 |_=>none
theorem Gd{X:Ctx}{nt:Nat}(hX:At X Z nt)(hx0:X.ext=none∧∀b,¬X.ex b){rv:List ResultVar}{g:FuncId}{ct:T}{S:IS}{x:den ct}{h h' :Nat→Nat}(hr:KY Z nt rv g ct S=some x):
 ∃S' ds,Wk X (S.aJ h) S'∧kV X S' rv ds∧∀κ γ sv v,cX κ γ sv (gu ds) v→cX κ γ sv ((nG [.clo g ct] x).bV h') v:=by
 unfold KY at hr
 split at hr
 ·rename_i t
  cases hb0:Nat.ble (t+1) nt with
  |false=>rw[hb0]at hr;cases hr
  |true=>
  rw[hb0]at hr
  simp only[cond_true]at hr
  split at hr
  ·rename_i f s g' hg
   cases hb:Nat.beq f g&&Nat.beq g' (S.gen s)with
   |false=>rw[hb]at hr;cases hr
   |true=>
    rw[hb]at hr
    simp only[Bool.and_eq_true]at hb
    have e1:=Nat.eq_of_beq_eq_true hb.1
    have e2:=Nat.eq_of_beq_eq_true hb.2
    simp only[cond_true]at hr
    split at hr
    ·rename_i l hσ
     cases hn:jx l with
     |false=>rw[hn]at hr;cases hr
     |true=>
      rw[hn]at hr
      simp only[cond_true]at hr
      have hl:=jH (cL ct hr) hn
      have h1:(S.aJ h).ρ t= .fn f [.bx s (h s+g') 0]:=by
       show(S.get t).bV h=_
       rw[hg];rfl
      have h2:(S.aJ h).σ s= .box (I.ao h l):=by
       show(S.own s).bq h=_
       rw[hσ];rfl
      have hw:=qp (X:=X) (S:=S.aJ h) t 0 hx0 h1 rfl (show(S.aJ h).γ s=h s+g' from by show h s+S.gen s=_;rw[e2]) h2 (c' :=[.rp (I.ao h l) 0]) rfl
      refine⟨_,[.fn f [.rp (I.ao h l) 0]],hw,⟨?_,trivial⟩,fun κ γ sv v hv=> ?_⟩
      ·have hlt:Nat.blt t X.nt=true:=by rw[hX.nt];exact hb0
       show(bif Nat.blt t X.nt then bM (S.aJ h).ρ t (.fn f [.rp (I.ao h l) 0]) t else .undef)=_
       rw[hlt,aj];rfl
      ·rw[hl,aT,e1]at hv
       show cX κ γ sv (.fn g [.rp (I.ao h' (bO ct x)) 0]) v
       rw[aT];exact hv
    ·cases hr
  ·cases hr
 ·cases hr
def I4(g:FuncId)(ct:T)(it:It (den ct))(E:dC Z)(c:Code)(rv:List ResultVar)(A:List I):Option (den ct):=
 jN it E c ⟨[],[]⟩ (pY A) (KY Z E.nt rv g ct) (fun e S=>match e with|none=>KY Z E.nt rv g ct S|some _=>none)
theorem Aj{ats:List T}{g:FuncId}{ct:T}{E:dC Z}{f:FuncId}{fn:Func}{c:Code}(hf:Z.P.funcs[f]? =some fn)(hb:fn.body=some c)(hname:(fn.name== "runtime.NumGoroutine")=false)(hn:Nat.beq fn.ntmps E.nt=true)(hl:Nat.ble ats.length fn.ntmps=true)(hp:E.pin=[])
 {a:dB ats}{x:den ct}(hr:I4 g ct cS E c fn.results.toList (b6 ats a)=some x)(h h' :Nat→Nat):au Z.toSeat f (I.ao h (b6 ats a)) ((nG [.clo g ct] x).bV h'):=by
 rw[pz h zh]
 refine ny hf hb hname (by rw[eZ,mB];exact hl) (ga _ _ _) (ta _ _ _) fun w κ=> ?_
 have hX:At (Ctx.plain Z.toSeat fn.ntmps w κ none) Z E.nt:=At.pl rfl (Nat.eq_of_beq_eq_true hn) (fun _=>rfl)
 rw[←o8]
 refine fL (fX c hX (fun _=>⟨_,_,_,_,_,rfl⟩) (g0:=zh) ⟨[],[]⟩ rfl _ _ _ zh ⟨(fun g hg=>by rw[hp]at hg;cases hg),⟨(fun p hp=>(nomatch hp)),(fun p hp=>(nomatch hp))⟩⟩ hr) ?_
 rintro e T ⟨h2,S,rfl,_,hq⟩
 cases e with
 |normal=>exact Gd hX ⟨rfl,fun _ h=>h⟩ hq
 |ret=>exact Gd hX ⟨rfl,fun _ h=>h⟩ hq
 |exit i=>cases hq
 |_=>exact hq.elim
end
end
end Go.Ab
namespace Go.Ab
open Go Go.RowKit
noncomputable section
set_option linter.all false
set_option maxHeartbeats 1000000
theorem mA{α:Type}{y:α}:∀{l k:List α} {j:Nat},eP l j [y]=some k→k=l.take j++y::l.drop (j+1)∧j<l.length
 |[],k,0,h=>by simp[eP]at h
 |x::l,k,0,h=>by
  simp only[eP]at h
  cases l<;>(simp[eP]at h;subst h;simp)
 |[],k,j+1,h=>by simp[eP]at h
 |x::l,k,j+1,h=>by
  simp only[eP]at h
  cases e:eP l j [y]with
  |none=>rw[e]at h;simp at h
  |some k' =>
   rw[e]at h
   simp only[Option.some.injEq]at h
   subst h
   obtain⟨h1,h2⟩:=mA e
   subst h1
   exact⟨by simp,by simpa using h2⟩
theorem tD(p g:Nat):∀l:List I,tX p g l=l.map (sC p g)
 |[]=>rfl
 |d::l=>by simp only[tX,List.map_cons,tD p g l]
theorem GH(p g:Nat):∀(t:T) (x:den t),tX p g (bO t x)=bO t x:=by intro t x;cases t<;>rfl
theorem Ca(p g:Nat)(t:T)(x:den t):∀d∈bO t x,sC p g d=d:=by
 have h:=GH p g t x
 rw[tD]at h
 generalize bO t x=l at h⊢
 induction l with
 |nil=>intro d hd;cases hd
 |cons a l ih=>
  simp only[List.map_cons,List.cons.injEq]at h
  intro d hd
  rcases List.mem_cons.1 hd with rfl|hd
  ·exact h.1
  ·exact ih h.2 d hd
def fB(rt:T)(c:List I):I:=bif oN rt then .agg c else(match c with|[d]=>d|_=> .undef)
def zD(rt:T)(j:Nat)(et:T)(x:den rt):Option (List (den et)×I):=match nth (bO rt x) j with
 |some (.sl e l)=>(match uS et e l with
  |some l=>(match eP (bO rt x) j [.os 0 1]with|some c=>some (l,fB rt c)|none=>none)
  |none=>none)
 |_=>none
section
variable {X:Ctx} {Z:ISeat}
def zS(rt:T)(d:I):Option (List I):=bif oN rt then(match d with| .agg c=>some c|_=>none)else some [d]
theorem zn{rt:T}{d:I}{c:List I}(h:zS rt d=some c):fB rt c=d:=by
 unfold zS at h
 unfold fB
 cases hi:oN rt with
 |true=>
  rw[hi]at h
  simp only[cond_true]at h⊢
  split at h
  ·simp only[Option.some.injEq]at h;subst h;rfl
  ·cases h
 |false=>
  rw[hi]at h
  simp only[cond_false,Option.some.injEq]at h⊢
  subst h;rfl
theorem Gz{rt:T}{j:Nat}{x:den rt}{k:List I}(hk:eP (bO rt x) j [.os 0 1]=some k)(p g:Nat)(h h' :Nat→Nat):kY p g ((fB rt k).bV h)=kY p g ((fB rt k).bV h'):=by
 have hm:∀y∈k,kY p g (y.bV h)=kY p g (y.bV h'):=fun y hy=>by
  have he:∀y∈bO rt x,y.bV h=y.bV h' :=fun y hy=>by
   have h1:(bO rt x).map (I.bV h)=(bO rt x).map (I.bV h'):=by rw[←dO,←dO,aT,aT]
   exact List.map_inj_left.1 h1 y hy
  rw[(mA hk).1]at hy
  rcases List.mem_append.1 hy with hy|hy
  ·rw[he y (List.mem_of_mem_take hy)]
  ·rcases List.mem_cons.1 hy with rfl|hy
   ·rfl
   ·rw[he y (List.mem_of_mem_drop hy)]
 have hl:vG p g (I.ao h k)=vG p g (I.ao h' k):=by
  clear hk
  induction k with
  |nil=>rfl
  |cons d k ih=>simp only[I.ao,vG,hm d (List.mem_cons_self ..),ih fun y hy=>hm y (List.mem_cons_of_mem _ hy)]
 unfold fB
 cases oN rt with
 |true=>simp only[cond_true,I.bV,kY,hl]
 |false=>
  simp only[cond_false]
  split
  ·rename_i d;exact hm d (List.mem_cons_self ..)
  ·rfl
def CQ(Z:ISeat)(nt:Nat)(rv:List ResultVar)(rt:T)(j E:Nat)(et:T)(S:IS):Option (den rt):=match nv Z nt S rv with
 |some [d]=>(match zS rt d with
  |some c=>(match nth c j with
   |some (.os s g)=>live S s g (match S.own s with
    | .arr E' e l=>bif Nat.beq E' E then(match uS et e l with
      |some m=>(match eP c j [.sl et m]with
       |some row=>bif jx row then fM rt row else none
       |none=>none)
      |none=>none)else none
    |_=>none)
   |_=>none)
  |none=>none)
 |_=>none
theorem Kc{nt:Nat}(hX:At X Z nt){rv:List ResultVar}{rt:T}{j E:Nat}{et:T}{S:IS}{x:den rt}{h h' :Nat→Nat}(hr:CQ Z nt rv rt j E et S=some x):
 ∃l d,zD rt j et x=some (l,d)∧∃s g,(S.aJ h).γ s=g∧(S.aJ h).σ s= .arr E (sz et) l.length (fun i=>dk et (l.getD i (dD et)))∧∃ds,kV X (S.aJ h) rv ds∧gu ds=kY s g (d.bV h'):=by
 unfold CQ at hr
 split at hr
 ·rename_i d hd
  split at hr
  ·rename_i c hc
   split at hr
   ·rename_i s g hj
    replace hr:=dp hr
    obtain⟨rfl,hr⟩:=hr
    split at hr
    ·rename_i E' e l hσ
     cases hE:Nat.beq E' E with
     |false=>rw[hE]at hr;cases hr
     |true=>
      rw[hE]at hr
      have hE:=Nat.eq_of_beq_eq_true hE
      subst hE
      simp only[cond_true]at hr
      split at hr
      ·rename_i m hm
       split at hr
       ·rename_i row hrow
        cases hn:jx row with
        |false=>rw[hn]at hr;cases hr
        |true=>
         rw[hn]at hr
         simp only[cond_true]at hr
         have hrx:=jH (cL rt hr) hn
         obtain⟨h1,h2⟩:=mA hrow
         have hσ' :S.own s= .arr E' et m:=by
          rw[hσ]
          unfold uS at hm
          split at hm
          ·rename_i e';subst e';simp only[Option.some.injEq]at hm;subst hm;rfl
          ·cases hm
         have hlen:(c.take j).length=j:=by simp;omega
         have hnr:nth (bO rt x) j=some (.sl et m):=by
          rw[←hrx,h1,dX,List.getElem?_append_right (by omega),hlen];simp
         have ht:(bO rt x).take j=c.take j:=by rw[←hrx,h1];exact List.take_left' hlen
         have hdr:(bO rt x).drop (j+1)=c.drop (j+1):=by
          have h5:(c.take j++I.sl et m::c.drop (j+1)).drop j=I.sl et m::c.drop (j+1):=List.drop_left' hlen
          rw[←hrx,h1,←List.drop_drop,h5];rfl
         have hcj:c=c.take j++I.os s (S.gen s)::c.drop (j+1):=by
          rw[dX]at hj
          have h3:c[j]=I.os s (S.gen s):=by simpa[List.getElem?_eq_getElem h2]using hj
          rw[←h3,List.getElem_cons_drop,List.take_append_drop]
         obtain⟨k,hk⟩:∃k,eP (bO rt x) j [.os 0 1]=some k:=by
          have key:∀(l:List I) (j:Nat),j<l.length→∃k,eP l j [I.os 0 1]=some k:=by
           intro l
           induction l with
           |nil=>intro j h;simp at h
           |cons a l ih=>
            intro j h
            cases j with
            |zero=>cases l<;>exact⟨_,rfl⟩
            |succ j=>
             obtain⟨k,hk⟩:=ih j (by simpa using h)
             exact⟨a::k,by simp only[eP,hk]⟩
          refine key _ j ?_
          rw[←hrx,h1];simp;omega
         obtain⟨h4,_⟩:=mA hk
         refine⟨m,fB rt k, ?_,s,h s+S.gen s,rfl, ?_,[d.bV h], ?_, ?_⟩
         ·unfold zD
          rw[hnr]
          have:uS et et m=some m:=by simp[uS]
          simp only[this,hk]
         ·show(S.own s).bq h=_
          rw[hσ'];rfl
         ·exact mr hX hd
         ·show d.bV h=_
          rw[Gz hk _ _ h' h,←rL]
          congr 1
          have hkr:tX s (S.gen s) k=c:=by
           rw[tD,h4,List.map_append,List.map_cons,ht,hdr]
           have e1:(c.take j).map (sC s (S.gen s))=c.take j:=by
            refine(List.map_congr_left fun y hy=> ?_).trans (List.map_id _)
            rw[←ht]at hy
            exact Ca _ _ rt x y (List.mem_of_mem_take hy)
           have e2:(c.drop (j+1)).map (sC s (S.gen s))=c.drop (j+1):=by
            refine(List.map_congr_left fun y hy=> ?_).trans (List.map_id _)
            rw[←hdr]at hy
            exact Ca _ _ rt x y (List.mem_of_mem_drop hy)
           rw[e1,e2]
           exact hcj.symm
          have hu:=zn hc
          unfold fB at hu⊢
          cases hi:oN rt with
          |true=>
           rw[hi]at hu
           simp only[cond_true]at hu⊢
           rw[←hu,sC,hkr]
          |false=>
           rw[hi]at hu
           simp only[cond_false]at hu⊢
           rw[←hkr]at hu
           match k,hu with
           |[],hu=>rw[←hu];rfl
           |[a],hu=>rw[←hu];rfl
           |_::_::_,hu=>rw[←hu];rfl
       ·cases hr
      ·cases hr
    ·cases hr
   ·cases hr
  ·cases hr
 ·cases hr
theorem IK{rt:T}{j:Nat}{x:den rt}{k:List I}(hk:eP (bO rt x) j [.os 0 1]=some k)(h:Nat→Nat):PO ((fB rt k).bV h):=by
 obtain⟨h4,_⟩:=mA hk
 have hp:∀d∈k,PO (d.bV h):=fun d hd=>by
  have hpure:∀y∈bO rt x,Pure (y.bV h):=fun y hy=>by
   have:=b9 rt x
   rw[←aT h]at this
   refine this _ ?_
   rw[dO]
   exact List.mem_map_of_mem hy
  rw[h4]at hd
  rcases List.mem_append.1 hd with hd|hd
  ·exact .pure _ (hpure d (List.mem_of_mem_take hd))
  ·rcases List.mem_cons.1 hd with rfl|hd
   ·exact .os _ _
   ·exact .pure _ (hpure d (List.mem_of_mem_drop hd))
 have hpl:NM (I.ao h k):=by
  clear h4 hk
  induction k with
  |nil=>exact .nil
  |cons d k ih=>exact .cons _ _ (hp d (List.mem_cons_self ..)) (ih fun y hy=>hp y (List.mem_cons_of_mem _ hy))
 unfold fB
 cases oN rt with
 |true=>exact .agg _ hpl
 |false=>
  simp only[cond_false]
  split
  ·rename_i d;exact hp d (List.mem_cons_self ..)
  ·exact .pure _ .undef
def Af(rt:T)(j Et:Nat)(et:T)(it:It (den rt))(E:dC Z)(c:Code)(rv:List ResultVar)(A:List I):Option (den rt):=
 jN it E c ⟨[],[]⟩ (pY A) (CQ Z E.nt rv rt j Et et) (fun e S=>match e with|none=>CQ Z E.nt rv rt j Et et S|some _=>none)
theorem nj{ats:List T}{rt et:T}{j Et:Nat}{E:dC Z}{f:FuncId}{fn:Func}{c:Code}(hf:Z.P.funcs[f]? =some fn)(hb:fn.body=some c)(hname:(fn.name== "runtime.NumGoroutine")=false)(hn:Nat.beq fn.ntmps E.nt=true)(hl:Nat.ble ats.length fn.ntmps=true)(hp:E.pin=[])
 {a:dB ats}{x:den rt}(hr:Af rt j Et et cS E c fn.results.toList (b6 ats a)=some x){l:List (den et)}{d:I}(hd:zD rt j et x=some (l,d))(h:Nat→Nat):fG Z.toSeat f (I.ao h (b6 ats a)) (d.bV h) Et (sz et) l.length (fun i=>dk et (l.getD i (dD et))):=by
 have hk:∃k,eP (bO rt x) j [.os 0 1]=some k∧d=fB rt k:=by
  unfold zD at hd
  split at hd
  ·split at hd
   ·split at hd
    ·rename_i k hk
     simp only[Option.some.injEq,Prod.mk.injEq]at hd
     exact⟨k,hk,hd.2.symm⟩
    ·cases hd
   ·cases hd
  ·cases hd
 obtain⟨k,hk,hdk⟩:=hk
 subst hdk
 rw[pz h zh]
 refine ns hf hb hname (by rw[eZ,mB];exact hl) (ga _ _ _) (IK hk h) (fun i _=>b9 _ _) fun w κ=> ?_
 have hX:At (Ctx.plain Z.toSeat fn.ntmps w κ none) Z E.nt:=At.pl rfl (Nat.eq_of_beq_eq_true hn) (fun _=>rfl)
 rw[←o8]
 have fin:∀h2 S,CQ Z E.nt fn.results.toList rt j Et et S=some x→∃s g,(IS.aJ h2 S).γ s=g∧(IS.aJ h2 S).σ s= .arr Et (sz et) l.length (fun i=>dk et (l.getD i (dD et)))∧∃ds,kV (Ctx.plain Z.toSeat fn.ntmps w κ none) (IS.aJ h2 S) fn.results.toList ds∧gu ds=kY s g ((fB rt k).bV h):=fun h2 S hq=>by
  obtain⟨l',d',h3,h4⟩:=Kc hX (h:=h2) (h' :=h) hq
  rw[hd]at h3
  simp only[Option.some.injEq,Prod.mk.injEq]at h3
  obtain⟨rfl,rfl⟩:=h3
  exact h4
 refine fL (fX c hX (fun _=>⟨_,_,_,_,_,rfl⟩) (g0:=zh) ⟨[],[]⟩ rfl _ _ _ zh ⟨(fun g hg=>by rw[hp]at hg;cases hg),⟨(fun p hp=>(nomatch hp)),(fun p hp=>(nomatch hp))⟩⟩ hr) ?_
 rintro e T ⟨h2,S,rfl,_,hq⟩
 cases e with
 |normal=>exact fin h2 S hq
 |ret=>exact fin h2 S hq
 |exit i=>cases hq
 |_=>exact hq.elim
def Ao(Z:Seat)(f:FuncId)(ats:List T)(rt:T)(j Et:Nat)(et:T)(F:dB ats→Option (den rt))(hF:∀a x,F a=some x→∀l d,zD rt j et x=some (l,d)→∀h,fG Z f (I.ao h (b6 ats a)) (d.bV h) Et (sz et) l.length (fun i=>dk et (l.getD i (dD et)))):jZ Z where
 f:=f
 app:=fun A k=>match pS ats A with
  |some a=>(F a).bind fun x=>(match zD rt j et x with|some y=>k Et et y.1 y.2|none=>none)
  |none=>none
 ok:=fun A k r h=>by
  split at h
  ·rename_i a ha
   cases hx:F a with
   |none=>rw[hx]at h;cases h
   |some x=>
    rw[hx]at h
    simp only[Option.bind_some]at h
    split at h
    ·rename_i y hy
     refine⟨_,_,_,_,h,fun h=> ?_⟩
     have hc:=hF a x hx y.1 y.2 hy h
     exact⟨j4 ha,hc.poR,hc.pureE,hc.body,fun w κ args hf hg hr=>hc.calls w κ args hf hg (l7 ha hr)⟩
    ·cases h
  ·cases h
end
end
end Go.Ab
