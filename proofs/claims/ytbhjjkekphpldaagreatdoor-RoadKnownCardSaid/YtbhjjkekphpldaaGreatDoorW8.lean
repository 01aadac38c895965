/- Walks by computing: what each function of the program that the laws reach gives for what it gets, as plain Lean, and that it is so; without a condition but those that stand in each theorem. -/
import Derived.Test.YtbhjjkekphpldaaGreatDoorProg
import Derived.KernelRfl
import Derived.Test.YtbhjjkekphpldaaGreatDoorW1
import Derived.Test.YtbhjjkekphpldaaGreatDoorW2
import Derived.Test.YtbhjjkekphpldaaGreatDoorW3
import Derived.Test.YtbhjjkekphpldaaGreatDoorW4
import Derived.Test.YtbhjjkekphpldaaGreatDoorW5
import Derived.Test.YtbhjjkekphpldaaGreatDoorW6
import Derived.Test.YtbhjjkekphpldaaGreatDoorW7
set_option linter.all false
namespace Go.Ab
open Go Go.RowKit
noncomputable section
set_option linter.all false
set_option maxHeartbeats 1000000
section
variable {R:Type}{X:Ctx}{Z:ISeat}{r:R}
end
end
end Go.Ab
namespace Go.Ab
open Go Go.RowKit
set_option linter.all false
def bodyOf (fn:Func):Code:=match fn.body with|some c=>c|none=>.skip
def w64 (n:Int):Int:=IntKind.i64.wrap n
end Go.Ab
namespace Go.Ab
open Go Go.RowKit
noncomputable section
set_option linter.all false
set_option maxHeartbeats 1000000
section
variable {X:Ctx}{Z:ISeat}
end
end
end Go.Ab
namespace Go.Ab
open Go Go.RowKit
noncomputable section
set_option linter.all false
set_option maxHeartbeats 1000000
def YL:Nat:=999983
section
variable {Z:ISeat}{its:List T}
def yieldOf (Z:ISeat) (nt:Nat) (S:IS) (o:Oper):Option (Array Operand×Nat):=match o.op,o.dst,o.guard with
 |.call ⟨.value (.tmp x),xs,_⟩,some t,none=>(match S.ev Z nt (.tmp x) with
  |.yl s=>bif Nat.beq s YL&&Nat.beq (S.gen s) 0 then some (xs,t) else none
  |_=>none)
 |_,_,_=>none
def consM {α:Type} (a:α) (r1 r2:Option (List α)):Option (List α):=match r1 with
 |some []=>(match r2 with|some l=>some (a::l)|none=>none)
 |_=>none
def scTy:T→Bool
 |.int _=>true
 |.bool=>true
 |.str=>true
 |_=>false
def scI:I→Bool
 |.int _ _=>true
 |.bool _=>true
 |.str _=>true
 |.nil=>true
 |.agg l=>scC l
 |_=>false
def give1 (S:IS) (t:T) (d:I):Option (den t×List Nat):=match t,d with
 |.sl t',.os s g=>(match S.own s with
  |.arr _ t2 l=>bif Nat.beq g (S.gen s)&&scTy t' then (match asL t' t2 l with|some l'=>some (l',[s])|none=>none) else none
  |_=>none)
 |t,d=>bif scI d then (match decV t d with|some x=>some (x,[])|none=>none) else none
def giveL (S:IS):(ts:List T)→List I→Option (argD ts×List Nat)
 |[],[]=>some ((),[])
 |t::ts,d::ds=>(match give1 S t d with
  |some x=>(match giveL S ts ds with|some y=>some ((x.1,y.1),x.2++y.2)|none=>none)
  |none=>none)
 |_,_=>none
def dropI (S:IS) (ps:List Nat):IS:=⟨S.rs,S.gs,ps.map (fun p=>(p,IOwn.none))++S.os⟩
def runLI (its:List T) (E:CEnv Z) (F:Fix) (ops:Array Oper):List Oper→Bool→IS→(Bool→IS→Option (List (argD its)))→Option (List (argD its))
 |[],st,S,k=>k st S
 |o::rest,st,S,k=>match yieldOf Z E.nt S o with
  |some (xs,t)=>bif st then none else (match giveL S its (xs.toList.map (S.ev Z E.nt)) with
   |some (a,ps)=>chk (fzOk F ps&&!(memN t (keys F.sl))) (consM a (runLI its E F ops rest true ((dropI S ps).set t (.bool false)) k) (runLI its E F ops rest false ((dropI S ps).set t (.bool true)) k))
   |none=>none)
  |none=>runL E F ops [o] S (fun S1=>runLI its E F ops rest st S1 k)
def inBI (its:List T) (id:Nat) (kn:Bool→IS→Option (List (argD its))) (kx:Option Nat→Bool→IS→Option (List (argD its))) (e:Option Nat) (st:Bool) (S:IS):Option (List (argD its)):=match e with
 |some i=>bif Nat.beq i id then kn st S else kx (some i) st S
 |none=>kx none st S
def runI (its:List T) (it:It (List (argD its))) (E:FEnv Z):Code→Fix→Bool→IS→(Bool→IS→Option (List (argD its)))→(Option Nat→Bool→IS→Option (List (argD its)))→Option (List (argD its))
 |.skip,_,st,S,kn,_=>kn st S
 |.region _ ops draw,F,st,S,kn,_=>bif draw then runG E.toCEnv F ops ops.toList S [] (settle F (kn st)) else runLI its E.toCEnv F ops ops.toList st S kn
 |.seq a b,F,st,S,kn,kx=>runI its it E a F st S (fun st' S'=>runI its it E b F st' S' kn kx) kx
 |.cond c a b,F,st,S,kn,kx=>(match S.ev Z E.nt c with
  |.bool v=>bif v then runI its it E a F st S kn kx else runI its it E b F st S kn kx
  |_=>none)
 |.block id b,F,st,S,kn,kx=>runI its it E b F st S kn (inBI its id kn kx)
 |.exit id,_,st,S,_,kx=>kx (some id) st S
 |.ret,_,st,S,_,kx=>kx none st S
 |.loop b,F,st,S,_,kx=>bif st then none else (match findL E.lp (tagOf b) S with
  |some L=>(match cstF F L S with
   |some F'=>backK E.pin F' L.K (it L.K.V (fun v kn=>runI its it E b F' false (stF L.K F' v) (fun st' S'=>bif st' then none else backK E.pin F' L.K kn S') kx)) S
   |none=>none)
  |none=>none)
 |_,_,_,_,_,_=>none
def QI (its:List T) (items:List (argD its)) (p:List Nat) (g0:Nat→Nat) (F:Fix) (kn:Bool→IS→Option (List (argD its))) (kx:Option Nat→Bool→IS→Option (List (argD its))):Nat→Bool→Exit→St→Prop:=fun k st e T=>∃ h S l,T=S.toSt h∧Inv p g0 F h S∧(st=false→l=items.drop k)∧k≤items.length∧match e with
 |.normal=>kn st S=some l
 |.exit i=>kx (some i) st S=some l
 |.ret=>kx none st S=some l
 |_=>False
theorem WI_mono {En:Env}{c:Code}{Q Q':Nat→Bool→Exit→St→Prop}{k:Nat}{s:Bool}{S:St} (h:WI En c Q k s S) (hq:∀ k s e S,Q k s e S→Q' k s e S):WI En c Q' k s S:=fun U κ sv a W hs=>by
 refine wpIn_mono (h U κ sv a W hs) ?_
 rintro e a' W' ⟨k',s',U',κ',sv',S',h1,h2⟩
 exact⟨k',s',U',κ',sv',S',h1,hq _ _ _ _ h2⟩
theorem consM_some {α:Type}{a:α}{r1 r2:Option (List α)}{l:List α} (h:consM a r1 r2=some l):r1=some []∧∃ m,r2=some m∧l=a::m:=by
 unfold consM at h
 split at h
 ·split at h
  ·simp only[Option.some.injEq]at h;exact⟨rfl,_,rfl,h.symm⟩
  ·cases h
 ·cases h
theorem drop_own (S:IS):∀ (ps:List Nat) (s:Nat),(dropI S ps).own s=bif memN s ps then .none else S.own s
 |[],s=>rfl
 |p::ps,s=>by
  show look IOwn.none ((p,.none)::(ps.map (fun p=>(p,IOwn.none))++S.os)) s=_
  simp only[lk0,lk1,lk2,memN]
  cases Nat.beq s p with
  |true=>rfl
  |false=>exact drop_own S ps s
theorem drop_toSt (S:IS) (h:Nat→Nat) (ps:List Nat):(dropI S ps).toSt h=(S.toSt h).drop ps:=by
 unfold IS.toSt St.drop
 congr 1
 funext s
 rw[drop_own]
 cases memN s ps<;>rfl
theorem fzOk_mem {F:Fix}:∀ {l:List Nat},fzOk F l=true→∀ p∈l,memN p (keys F.pl)=false
 |q::l,h,p,hp=>by
  simp only[fzOk,Bool.and_eq_true,Bool.not_eq_true']at h
  rcases List.mem_cons.1 hp with rfl|hp
  ·exact h.1.1
  ·exact fzOk_mem h.2 p hp
theorem Inv.drop {p:List Nat}{g0:Nat→Nat}{F:Fix}{h:Nat→Nat}{S:IS} (hi:Inv p g0 F h S) {ps:List Nat} (hp:fzOk F ps=true):Inv p g0 F h (dropI S ps):=by
 refine ⟨hi.1,hi.2.1,fun q hq=>?_⟩
 rw[drop_own]
 cases hm:memN q.1 ps with
 |false=>exact hi.2.2 q hq
 |true =>
  have h1:=fzOk_mem hp q.1 (memN_iff.1 hm)
  rw[memN_iff.2 (keys_mem hq)]at h1;cases h1
theorem scI_any {h:Nat→Nat}{d:I} (hs:scI d=true):∀ (κ:Nat→Nat→Option Value) (γ:Nat→Nat) (sv:Nat→Value) (v:Value),Rep κ γ sv (d.toD h) v→∀ (κ':Nat→Nat→Option Value) (γ':Nat→Nat) (sv':Nat→Value),Rep κ' γ' sv' (d.toD h) v:=by
 intro κ γ sv v hr κ' γ' sv'
 cases d with
 |int k n=>cases hr;exact .int _ _
 |bool b=>cases hr;exact .bool _
 |str b=>cases hr;exact .str _
 |nil=>cases hr;exact .nil
 |agg l =>
  have hsc:scL [.agg l]=true:=by
   show (scC l&&true)=true
   rw[show scC l=true from hs];rfl
  obtain ⟨vs,hvs⟩:=scL_ok (h:=h) hsc
  have e1:scal2 ((I.agg l).toD h)=some (vs.headD Go.undef):=by
   simp only[I.toDL,scalL2]at hvs
   cases hq:scal2 ((I.agg l).toD h) with
   |none=>rw[hq]at hvs;cases hvs
   |some u=>rw[hq]at hvs;simp at hvs;subst hvs;rfl
  rw[scal2_eq e1 hr];exact scal2_rep e1
 |_=>cases hs
theorem scT_row {t:T} (ht:scTy t=true) (x:den t):∃ vs,scalL (encD t x)=some vs:=by
 cases t<;>first|(cases ht;done)|exact⟨_,rfl⟩
theorem give1_ok {S:IS}{h:Nat→Nat}{t:T}{d:I}{x:den t}{p1 ps:List Nat} (hg:give1 S t d=some (x,p1)) (hp:∀ p∈p1,p∈ps):Giv (S.toSt h) ps (d.toD h) ((encV t x).toD zh):=by
 unfold give1 at hg
 split at hg
 ·rename_i t' s g
  split at hg
  ·rename_i E t2 l hσ
   cases hb:Nat.beq g (S.gen s)&&scTy t' with
   |false=>rw[hb]at hg;cases hg
   |true =>
    rw[hb]at hg
    simp only[cond_true]at hg
    simp only[Bool.and_eq_true]at hb
    split at hg
    ·rename_i l' hl
     simp only[Option.some.injEq,Prod.mk.injEq]at hg
     obtain ⟨rfl,rfl⟩:=hg
     have e1:=Nat.eq_of_beq_eq_true hb.1
     subst e1
     have e2:=asL_eq hl
     simp only[I.sl.injEq]at e2
     obtain ⟨rfl,e2⟩:=e2
     have e2:=eq_of_heq e2
     subst e2
     exact .os s _ E (sz t2) l.length (fun i=>encD t2 (l.getD i (dflt t2))) rfl (by show (S.own s).toOwn h=_;rw[hσ];rfl) (hp s (List.mem_cons_self ..)) (fun i _=>scT_row hb.2 _)
    ·cases hg
  ·cases hg
 ·cases hs:scI d with
  |false=>rw[hs]at hg;cases hg
  |true =>
   rw[hs]at hg
   simp only[cond_true]at hg
   split at hg
   ·rename_i y hy
    simp only[Option.some.injEq,Prod.mk.injEq]at hg
    obtain ⟨rfl,rfl⟩:=hg
    exact .conv _ _ fun κ γ sv v hr κ' γ' sv'=>decV_rep hy (scI_any hs κ γ sv v hr κ' γ' sv')
   ·cases hg
theorem giveL_ok {S:IS}{h:Nat→Nat}{ps:List Nat}:∀ {ts:List T}{ds:List I}{x:argD ts}{p1:List Nat},giveL S ts ds=some (x,p1)→(∀ p∈p1,p∈ps)→GivL (S.toSt h) ps (I.toDL h ds) (I.toDL zh (encA ts x))
 |[],[],x,p1,hg,hp=>.nil
 |[],_::_,x,p1,hg,hp=>by cases hg
 |_::_,[],x,p1,hg,hp=>by cases hg
 |t::ts,d::ds,x,p1,hg,hp=>by
  unfold giveL at hg
  split at hg
  ·rename_i a ha
   obtain ⟨a1,a2⟩:=a
   split at hg
   ·rename_i b hb
    obtain ⟨b1,b2⟩:=b
    simp only[Option.some.injEq,Prod.mk.injEq]at hg
    obtain ⟨rfl,rfl⟩:=hg
    exact .cons _ _ _ _ (give1_ok ha (fun p hq=>hp p (List.mem_append_left _ hq))) (giveL_ok hb (fun p hq=>hp p (List.mem_append_right _ hq)))
   ·cases hg
  ·cases hg
variable {En:Env}{items:List (argD its)}
structure AtI (En:Env) (Z:ISeat) (nt:Nat) (items:List (argD its)):Prop where
 Z:En.Z=Z.toSeat
 nt:En.nt=nt
 n:En.n=items.length
 vals:∀ (i:Nat) (a:argD its),items[i]?=some a→En.its i=I.toDL zh (encA its a)
theorem AtI.at' {nt:Nat} (h:AtI En Z nt items) (k:Nat) (s:Bool) (U:Nat→Prop):At (En.X k s U) Z nt:=At.pl h.Z h.nt (fun _=>rfl)
theorem runLI_ok {E:CEnv Z}{g0:Nat→Nat} (hX:AtI En Z E.nt items) (hYL:YL∈E.pin) (hg0:g0 YL=En.l) {F:Fix} (hF:okF F=true) {ops:Array Oper}{kn:Bool→IS→Option (List (argD its))}{kx:Option Nat→Bool→IS→Option (List (argD its))} :
  ∀ (l:List Oper) (k:Nat) (st:Bool) (S:IS) (h:Nat→Nat) (r:List (argD its)),Inv E.pin g0 F h S→runLI its E F ops l st S kn=some r→(st=false→r=items.drop k)→k≤items.length→WIL En ops l (QI its items E.pin g0 F kn kx) k st (S.toSt h)
 |[],k,st,S,h,r,hi,hr,hd,hk=>WIL_of fun U=>WL_nil ⟨h,S,r,rfl,hi,hd,hk,hr⟩
 |o::rest,k,st,S,h,r,hi,hr,hd,hk=>by
  unfold runLI at hr
  split at hr
  ·rename_i xs t hy
   cases st with
   |true=>cases hr
   |false =>
    simp only[cond_false]at hr
    split at hr
    ·rename_i a ps ha
     obtain ⟨hc,hr⟩:=chk_some hr
     simp only[Bool.and_eq_true,Bool.not_eq_true']at hc
     obtain ⟨r1,m,r2,rfl⟩:=consM_some hr
     have hdk:=hd rfl
     have hlt:k<items.length:=by
      have h1:(items.drop k).length=(a::m).length:=by rw[← hdk]
      simp at h1;omega
     have hak:items[k]?=some a:=by
      have h1:(items.drop k)[0]?=some a:=by rw[← hdk];rfl
      simpa using h1
     have hmk:m=items.drop (k+1):=by
      have h1:(items.drop k).tail=m:=by rw[← hdk];rfl
      rw[← h1];simp
     unfold yieldOf at hy
     split at hy
     ·rename_i x xs' ts t' ho hd' hg
      split at hy
      ·rename_i ly hly
       cases hb:Nat.beq ly YL&&Nat.beq (S.gen ly) 0 with
       |false=>rw[hb]at hy;cases hy
       |true =>
        rw[hb]at hy
        simp only[Bool.and_eq_true]at hb
        have ely:=Nat.eq_of_beq_eq_true hb.1
        have eg:=Nat.eq_of_beq_eq_true hb.2
        simp only[cond_true,Option.some.injEq,Prod.mk.injEq]at hy
        obtain ⟨rfl,rfl⟩:=hy
        have hev:∀ y,(S.toSt h).ev (En.X k false fun _=>False) y=(S.ev Z E.nt y).toD h:=fun y=>ev_toSt (hX.at' k false _) y
        have hmap:xs'.toList.map ((S.toSt h).ev (En.X k false fun _=>False))=I.toDL h (xs'.toList.map (S.ev Z E.nt)):=by
         rw[toDL_map,List.map_map]
         exact List.map_congr_left fun y _=>hev y
        have hT:=runLI_ok hX hYL hg0 hF (kx:=kx) rest (k+1) false ((dropI S ps).set t' (.bool true)) h m ((hi.drop hc.1).set hc.2 _) r2 (fun _=>hmk) (by omega)
        have hFl:=runLI_ok hX hYL hg0 hF (kx:=kx) rest (k+1) true ((dropI S ps).set t' (.bool false)) h [] ((hi.drop hc.1).set hc.2 _) r1 (fun h=>by cases h) (by omega)
        rw[toSt_set,drop_toSt]at hT hFl
        have hyl:(S.toSt h).ev (En.X k false fun _=>False) (.tmp x)=.yl En.l:=by
         rw[hev,hly]
         have h3:=hi.1 YL hYL
         rw[ely]at eg
         rw[eg,Nat.add_zero,hg0]at h3
         show D.yl (h ly)=_
         rw[ely,h3]
        exact WIL_yield (ps:=ps) ho hg hd' hyl hmap (by rw[hX.vals k a hak];exact giveL_ok ha (fun p hp=>hp)) (by rw[hX.n];exact hlt) hT hFl
      ·cases hy
     ·cases hy
    ·cases hr
  ·refine WIL_part [o] rest fun U=>?_
   exact runL_ok (hX.at' k st U) hF (fun h S' hi' hr'=>⟨rfl,runLI_ok hX hYL hg0 hF rest k st S' h r hi' hr' hd hk⟩) [o] S h hi hr
theorem WI_condT {c:Operand}{x y:Code}{Q:Nat→Bool→Exit→St→Prop}{k:Nat}{s:Bool}{S:St} (hc:S.ev (En.X k s fun _=>False) c=.bool true) (h:WI En x Q k s S):WI En (.cond c x y) Q k s S:=fun U κ sv a W hs=>by
 have h1:=hs.ev c
 have hc':S.ev (En.X k s U) c=.bool true:=hc
 rw[hc']at h1
 have:a.eval c=.bool true:=by generalize a.eval c=v at h1;cases h1;rfl
 exact wpIn_cond_true this (h U κ sv a W hs)
theorem WI_condF {c:Operand}{x y:Code}{Q:Nat→Bool→Exit→St→Prop}{k:Nat}{s:Bool}{S:St} (hc:S.ev (En.X k s fun _=>False) c=.bool false) (h:WI En y Q k s S):WI En (.cond c x y) Q k s S:=fun U κ sv a W hs=>by
 have h1:=hs.ev c
 have hc':S.ev (En.X k s U) c=.bool false:=hc
 rw[hc']at h1
 have:a.eval c=.bool false:=by generalize a.eval c=v at h1;cases h1;rfl
 exact wpIn_cond_false this (h U κ sv a W hs)
theorem runI_ok {E:FEnv Z}{g0:Nat→Nat} (hX:AtI En Z E.nt items) (hYL:YL∈E.pin) (hg0:g0 YL=En.l):∀ (c:Code) (F:Fix),okF F=true→∀ (k:Nat) (st:Bool) (S:IS) (kn:Bool→IS→Option (List (argD its))) (kx:Option Nat→Bool→IS→Option (List (argD its))) (h:Nat→Nat) (r:List (argD its)),
  Inv E.pin g0 F h S→runI its itN E c F st S kn kx=some r→(st=false→r=items.drop k)→k≤items.length→WI En c (QI its items E.pin g0 F kn kx) k st (S.toSt h)
 |.skip,F,hF,k,st,S,kn,kx,h,r,hi,hr,hd,hk=>WI_skip ⟨h,S,r,rfl,hi,hd,hk,hr⟩
 |.region id ops draw,F,hF,k,st,S,kn,kx,h,r,hi,hr,hd,hk=>by
  have e:ops=ops.toList.toArray:=by simp
  cases draw with
  |false =>
   rw[e]
   refine WI_region ?_
   rw[← e]
   exact runLI_ok hX hYL hg0 hF _ k st S h r hi hr hd hk
  |true =>
   refine WI_ofR fun U=>W_post (Q':=fun e T=>∃ h S',T=S'.toSt h∧Inv E.pin g0 F h S'∧e=.normal∧settle F (kn st) S'=some r) ?_ ?_
   ·rw[e]
    refine W_regionM ?_
    rw[← e]
    exact runG_ok (hX.at' k st U) (fun h S' hi hk=>⟨h,S',rfl,hi,rfl,hk⟩) _ S _ _ _ h hi hr
   ·rintro e T ⟨h1,S1,rfl,hi1,rfl,hk1⟩
    obtain ⟨S2,h2,h3,h4⟩:=settleL_ok (h:=h1) hk1
    exact⟨_,h3 _ (fun p h=>nomatch (show false=true from h)),h1,S2,r,rfl,h4 _ _ hi1,hd,hk,h2⟩
 |.seq a b,F,hF,k,st,S,kn,kx,h,r,hi,hr,hd,hk=>by
  refine WI_seq (WI_mono (runI_ok hX hYL hg0 a F hF k st S _ kx h r hi hr hd hk) ?_)
  rintro k' st' e T ⟨h',S',r',rfl,hi',hd',hk',hq⟩
  cases e with
  |normal=>exact runI_ok hX hYL hg0 b F hF k' st' S' kn kx h' r' hi' hq hd' hk'
  |exit i=>exact⟨h',S',r',rfl,hi',hd',hk',hq⟩
  |ret=>exact⟨h',S',r',rfl,hi',hd',hk',hq⟩
  |_=>exact hq.elim
 |.cond c a b,F,hF,k,st,S,kn,kx,h,r,hi,hr,hd,hk=>by
  simp only[runI]at hr
  split at hr
  ·rename_i v hv
   have hev:(S.toSt h).ev (En.X k st fun _=>False) c=.bool v:=by rw[ev_toSt (hX.at' k st _),hv];rfl
   cases v with
   |true=>exact WI_condT hev (runI_ok hX hYL hg0 a F hF k st S kn kx h r hi hr hd hk)
   |false=>exact WI_condF hev (runI_ok hX hYL hg0 b F hF k st S kn kx h r hi hr hd hk)
  ·cases hr
 |.block id b,F,hF,k,st,S,kn,kx,h,r,hi,hr,hd,hk=>by
  refine WI_block (WI_mono (runI_ok hX hYL hg0 b F hF k st S kn (inBI its id kn kx) h r hi hr hd hk) ?_)
  rintro k' st' e T ⟨h',S',r',rfl,hi',hd',hk',hq⟩
  cases e with
  |normal=>exact⟨h',S',r',rfl,hi',hd',hk',hq⟩
  |exit i =>
   simp only[blockI]
   simp only[inBI]at hq
   cases hb:Nat.beq i id with
   |true=>rw[hb]at hq;exact⟨h',S',r',rfl,hi',hd',hk',hq⟩
   |false=>rw[hb]at hq;exact⟨h',S',r',rfl,hi',hd',hk',hq⟩
  |ret=>exact⟨h',S',r',rfl,hi',hd',hk',hq⟩
  |_=>exact hq.elim
 |.exit id,F,hF,k,st,S,kn,kx,h,r,hi,hr,hd,hk=>WI_exit ⟨h,S,r,rfl,hi,hd,hk,hr⟩
 |.ret,F,hF,k,st,S,kn,kx,h,r,hi,hr,hd,hk=>WI_ret ⟨h,S,r,rfl,hi,hd,hk,hr⟩
 |.loop b,F,hF,k,st,S,kn,kx,h,r,hi,hr,hd,hk=>by
  simp only[runI]at hr
  cases st with
  |true=>cases hr
  |false =>
   simp only[cond_false]at hr
   split at hr
   ·rename_i L hL
    split at hr
    ·rename_i F' hF'
     obtain ⟨hok,hcs,hsub⟩:=cstF_ok hF hi hF'
     obtain ⟨v,h',hr,hw,hi'⟩:=backK_okA (X0:=En.X 0 false fun _=>False) (fun p h=>nomatch (show false=true from h)) hok ⟨hi.1,hcs⟩ hr
     refine WI_loop (fun x:Nat×(Nat→Nat)×L.K.V×Nat=>(x.1,false,(stF L.K F' x.2.2.1).toSt x.2.1))
      (fun x=>Inv E.pin g0 F' x.2.1 (stF L.K F' x.2.2.1)∧x.1≤items.length∧iter (fun v kn'=>runI its itN E b F' false (stF L.K F' v) (fun st' S'=>bif st' then none else backK E.pin F' L.K kn' S') kx) x.2.2.2 x.2.2.1=some (items.drop x.1))
      (fun x=>x.2.2.2) (k,h',v,FUEL) ⟨hi',hk,by rw[← hd rfl];exact hr⟩ ⟨rfl,rfl,fun U=>hw _ (fun p h=>nomatch (show false=true from h))⟩ ?_
     rintro ⟨k1,h1,v1,m⟩ ⟨hi1,hk1,hm⟩
     simp only at hi1 hk1 hm ⊢
     cases m with
     |zero=>cases hm
     |succ m =>
      refine WI_mono (runI_ok hX hYL hg0 b F' hok k1 false _ _ kx h1 _ hi1 hm (fun _=>rfl) hk1) ?_
      rintro k2 st2 e T ⟨h2,S2,r2,rfl,hi2,hd2,hk2,hq⟩
      cases e with
      |normal =>
       cases st2 with
       |true=>cases hq
       |false =>
        obtain ⟨v3,h3,hq,hw3,hi3⟩:=backK_okA (X0:=En.X 0 false fun _=>False) (fun p h=>nomatch (show false=true from h)) hok hi2 hq
        refine ⟨(k2,h3,v3,m),⟨hi3,hk2,?_⟩,Nat.lt_succ_self m,rfl,rfl,fun U=>hw3 _ (fun p h=>nomatch (show false=true from h))⟩
        rw[← hd2 rfl];exact hq
      |_=>exact⟨h2,S2,r2,rfl,⟨hi2.1,hsub S2 hi2.2⟩,hd2,hk2,hq⟩
    ·cases hr
   ·cases hr
 |.rangeFunc _ _ _ _,_,_,_,_,_,_,_,_,_,_,hr,_,_=>by cases hr
 |.scope _,_,_,_,_,_,_,_,_,_,_,hr,_,_=>by cases hr
 |.label _,_,_,_,_,_,_,_,_,_,_,hr,_,_=>by cases hr
 |.goto _,_,_,_,_,_,_,_,_,_,_,hr,_,_=>by cases hr
 |.refuse _,_,_,_,_,_,_,_,_,_,_,hr,_,_=>by cases hr
end
end
end Go.Ab
namespace Go.Ab
open Go Go.RowKit
noncomputable section
set_option linter.all false
set_option maxHeartbeats 1000000
section
variable {Z:ISeat}{its:List T}
def hY (l:Nat):Nat→Nat:=fun s=>bif Nat.beq s YL then l else 0
theorem toSt_initY (h:Nat→Nat) (A:List I):((initS A).toSt h).ρ=(St.init (I.toDL h A)).ρ:=by
 unfold IS.toSt St.init initS
 funext i
 exact look_enum h A 0 i (Nat.zero_le _)
def fnRunI (its:List T) (it:It (List (argD its))) (E:FEnv Z) (c:Code) (A:List I):Option (List (argD its)) :=
 runI its it E c ⟨[],[]⟩ false (initS (.yl YL::A)) (fun _ _=>some []) (fun e _ _=>match e with|none=>some []|some _=>none)
theorem it_contract {cts : List T} {E : FEnv Z} {f : FuncId} {fn : Func} {c : Code} (hf : Z.P.funcs[f]? = some fn) (hb : fn.body = some c) (hname : (fn.name == "runtime.NumGoroutine") = false) (hn : Nat.beq fn.ntmps E.nt = true) (hl : Nat.ble (cts.length + 1) fn.ntmps = true) (hp : E.pin = [YL]) (hres : fn.results = #[])
  {a:argD cts}{items:List (argD its)} (hr:fnRunI its itN E c (encA cts a)=some items) (h:Nat→Nat) :
  ItC Z.toSeat f (I.toDL h (encA cts a)) items.length (itD its items):=by
 refine itC_intro hf hb hname (by rw[toDL_len,encA_len];exact hl) (encA_pure _ _ _) (fun k hk=>?_) hres fun En e1 e2 e3 e4=>?_
 ·unfold itD
  rw[List.getElem?_eq_getElem hk]
  exact encA_pure _ _ _
 have hX:AtI En Z E.nt items:=⟨e1,e2.trans (Nat.eq_of_beq_eq_true hn),e3,fun i x hx=>by
  rw[e4];unfold itD;rw[hx]⟩
 have h0:hY En.l YL=En.l:=by simp[hY]
 refine WI_wk (S':=(initS (.yl YL::encA cts a)).toSt (hY En.l)) (fun U κ sv aa W hs=>⟨κ,sv,sim_gen (fun i=>.inr ?_) (fun s=>Nat.zero_le _) (fun s=>.inl rfl) hs⟩) ?_
 ·rw[toSt_initY]
  show _=(St.init (.yl En.l::I.toDL h (encA cts a))).ρ i
  rw[encA_h' h (hY En.l)]
  show (St.init (.yl (hY En.l YL)::I.toDL (hY En.l) (encA cts a))).ρ i=_
  rw[h0]
 ·refine WI_mono (runI_ok hX (by rw[hp];simp) (g0:=fun _=>En.l) rfl c ⟨[],[]⟩ rfl 0 false _ _ _ (hY En.l) items ⟨fun g hg=>?_,⟨(fun p hp=>(nomatch hp)),(fun p hp=>(nomatch hp))⟩⟩ hr (fun _=>rfl) (Nat.zero_le _)) ?_
  ·rw[hp]at hg
   simp only[List.mem_singleton]at hg
   subst hg
   exact h0
  ·rintro k s e T ⟨h2,S2,l,rfl,hi,hd,hk,hq⟩
   have fin:some ([]:List (argD its))=some l→(s=false→k=items.length):=fun e hs=>by
    simp only[Option.some.injEq]at e
    have h3:=hd hs
    rw[← e]at h3
    have h4:(items.drop k).length=0:=by rw[← h3];rfl
    simp at h4;omega
   cases e with
   |normal=>exact⟨.inl rfl,fin hq,hk⟩
   |ret=>exact⟨.inr rfl,fin hq,hk⟩
   |exit i=>cases hq
   |_=>exact hq.elim
def allPtr:List T→Bool
 |[]=>true
 |.ptr _::l=>allPtr l
 |_=>false
theorem decA_ptr:∀ {cts:List T}{ds:List I}{a:argD cts},allPtr cts=true→decA cts ds=some a→ds=encA cts a:=by
 intro cts
 induction cts with
 |nil =>
  intro ds a _ h
  cases ds with
  |nil=>rfl
  |cons _ _=>cases h
 |cons t ts ih =>
  intro ds a hp h
  have ht:∃ u,t=.ptr u:=by cases t<;>first|exact⟨_,rfl⟩|(cases hp;done)
  obtain ⟨t,rfl⟩:=ht
  cases ds with
  |nil=>cases h
  |cons d ds =>
   simp only[decA]at h
   split at h
   ·rename_i y hy
    split at h
    ·rename_i z hz
     simp only[Option.some.injEq]at h
     subst h
     have h1:=tP_ok (enc:=encC t) (fun h=>decC_ok t h) (show tP (decC t) [d]=some y from hy)
     simp only[List.cons.injEq,and_true]at h1
     simp only[encA]
     rw[← ih hp hz,h1]
     rfl
    ·cases h
   ·cases h
def mkItSpec (Z:Seat) (f:FuncId) (cts its:List T) (hp:allPtr cts=true) (F:argD cts→Option (List (argD its)))
  (hF:∀ a items,F a=some items→∀ h,ItC Z f (I.toDL h (encA cts a)) items.length (itD its items)):ItSpec Z where
 f:=f
 its:=its
 app:=fun cap k=>match decA cts cap with|some a=>(F a).bind k|none=>none
 ok:=fun cap k r h=>by
  split at h
  ·rename_i a ha
   cases hx:F a with
   |none=>rw[hx]at h;cases h
   |some items =>
    rw[hx]at h
    refine ⟨items,h,fun h=>?_⟩
    rw[decA_ptr hp ha]
    exact hF a items hx h
  ·cases h
end
end
end Go.Ab
namespace Go.Ab
open Go Go.RowKit
noncomputable section
set_option linter.all false
set_option maxHeartbeats 1000000
theorem overP_one {α:Type}{y:α}:∀ {l k:List α}{j:Nat},overP l j [y]=some k→k=l.take j++y::l.drop (j+1)∧j<l.length
 |[],k,0,h=>by simp[overP]at h
 |x::l,k,0,h=>by
  simp only[overP]at h
  cases l<;>(simp[overP]at h;subst h;simp)
 |[],k,j+1,h=>by simp[overP]at h
 |x::l,k,j+1,h=>by
  simp only[overP]at h
  cases e:overP l j [y] with
  |none=>rw[e]at h;simp at h
  |some k' =>
   rw[e]at h
   simp only[Option.some.injEq]at h
   subst h
   obtain ⟨h1,h2⟩:=overP_one e
   subst h1
   exact⟨by simp,by simpa using h2⟩
theorem renIL_map (p g:Nat):∀ l:List I,renIL p g l=l.map (renI p g)
 |[]=>rfl
 |d::l=>by simp only[renIL,List.map_cons,renIL_map p g l]
theorem renIL_enc (p g:Nat):∀ (t:T) (x:den t),renIL p g (encC t x)=encC t x:=by
 intro t x
 cases t<;>try rfl
 ·obtain ⟨_,_,c⟩:=x
  cases c<;>rfl
 ·obtain ⟨_,_,_,_,_,⟨_,m⟩,⟨_,q,_,_,_⟩,_,_,_,_⟩:=x
  cases m<;>cases q<;>rfl
theorem renI_enc (p g:Nat) (t:T) (x:den t):∀ d∈encC t x,renI p g d=d:=by
 have h:=renIL_enc p g t x
 rw[renIL_map]at h
 generalize encC t x=l at h ⊢
 induction l with
 |nil=>intro d hd;cases hd
 |cons a l ih =>
  simp only[List.map_cons,List.cons.injEq]at h
  intro d hd
  rcases List.mem_cons.1 hd with rfl|hd
  ·exact h.1
  ·exact ih h.2 d hd
def wrapC (rt:T) (c:List I):I:=bif isSt rt then .agg c else (match c with|[d]=>d|_=>.undef)
def tmplO (rt:T) (j:Nat) (et:T) (x:den rt):Option (List (den et)×I):=match nth (encC rt x) j with
 |some (.sl e l)=>(match asL et e l with
  |some l=>(match overP (encC rt x) j [.os 0 1] with|some c=>some (l,wrapC rt c)|none=>none)
  |none=>none)
 |_=>none
section
variable {X:Ctx}{Z:ISeat}
def unwrap (rt:T) (d:I):Option (List I):=bif isSt rt then (match d with|.agg c=>some c|_=>none) else some [d]
theorem unwrap_ok {rt:T}{d:I}{c:List I} (h:unwrap rt d=some c):wrapC rt c=d:=by
 unfold unwrap at h
 unfold wrapC
 cases hi:isSt rt with
 |true =>
  rw[hi]at h
  simp only[cond_true]at h ⊢
  split at h
  ·simp only[Option.some.injEq]at h;subst h;rfl
  ·cases h
 |false =>
  rw[hi]at h
  simp only[cond_false,Option.some.injEq]at h ⊢
  subst h;rfl
theorem wrapC_ren {rt:T}{j:Nat}{x:den rt}{k:List I} (hk:overP (encC rt x) j [.os 0 1]=some k) (p g:Nat) (h h':Nat→Nat):renO p g ((wrapC rt k).toD h)=renO p g ((wrapC rt k).toD h'):=by
 have hm:∀ y∈k,renO p g (y.toD h)=renO p g (y.toD h'):=fun y hy=>by
  have he:∀ y∈encC rt x,y.toD h=y.toD h':=fun y hy=>by
   have h1:(encC rt x).map (I.toD h)=(encC rt x).map (I.toD h'):=by rw[← toDL_map,← toDL_map,toDL_enc,toDL_enc]
   exact List.map_inj_left.1 h1 y hy
  rw[(overP_one hk).1]at hy
  rcases List.mem_append.1 hy with hy|hy
  ·rw[he y (List.mem_of_mem_take hy)]
  ·rcases List.mem_cons.1 hy with rfl|hy
   ·rfl
   ·rw[he y (List.mem_of_mem_drop hy)]
 have hl:renL p g (I.toDL h k)=renL p g (I.toDL h' k):=by
  clear hk
  induction k with
  |nil=>rfl
  |cons d k ih=>simp only[I.toDL,renL,hm d (List.mem_cons_self ..),ih fun y hy=>hm y (List.mem_cons_of_mem _ hy)]
 unfold wrapC
 cases isSt rt with
 |true=>simp only[cond_true,I.toD,renO,hl]
 |false =>
  simp only[cond_false]
  split
  ·rename_i d;exact hm d (List.mem_cons_self ..)
  ·rfl
def finKO (Z:ISeat) (nt:Nat) (rv:List ResultVar) (rt:T) (j E:Nat) (et:T) (S:IS):Option (den rt):=match resIL Z nt S rv with
 |some [d]=>(match unwrap rt d with
  |some c=>(match nth c j with
   |some (.os s g)=>live S s g (match S.own s with
    |.arr E' e l=>bif Nat.beq E' E then (match asL et e l with
     |some m=>(match overP c j [.sl et m] with
      |some row=>bif noNil row then decC rt row else none
      |none=>none)
     |none=>none) else none
    |_=>none)
   |_=>none)
  |none=>none)
 |_=>none
theorem finKO_ok {nt:Nat} (hX:At X Z nt) {rv:List ResultVar}{rt:T}{j E:Nat}{et:T}{S:IS}{x:den rt}{h h':Nat→Nat} (hr:finKO Z nt rv rt j E et S=some x) :
  ∃ l d,tmplO rt j et x=some (l,d)∧∃ s g,(S.toSt h).γ s=g∧(S.toSt h).σ s=.arr E (sz et) l.length (fun i=>encD et (l.getD i (dflt et)))∧∃ ds,ResL X (S.toSt h) rv ds∧tupOf ds=renO s g (d.toD h'):=by
 unfold finKO at hr
 split at hr
 ·rename_i d hd
  split at hr
  ·rename_i c hc
   split at hr
   ·rename_i s g hj
    replace hr:=live_ok hr
    obtain ⟨rfl,hr⟩:=hr
    split at hr
    ·rename_i E' e l hσ
     cases hE:Nat.beq E' E with
     |false=>rw[hE]at hr;cases hr
     |true =>
      rw[hE]at hr
      have hE:=Nat.eq_of_beq_eq_true hE
      subst hE
      simp only[cond_true]at hr
      split at hr
      ·rename_i m hm
       split at hr
       ·rename_i row hrow
        cases hn:noNil row with
        |false=>rw[hn]at hr;cases hr
        |true =>
         rw[hn]at hr
         simp only[cond_true]at hr
         have hrx:=noNil_eq (decC_ok rt hr) hn
         obtain ⟨h1,h2⟩:=overP_one hrow
         have hσ':S.own s=.arr E' et m:=by
          rw[hσ]
          unfold asL at hm
          split at hm
          ·rename_i e';subst e';simp only[Option.some.injEq]at hm;subst hm;rfl
          ·cases hm
         have hlen:(c.take j).length=j:=by simp;omega
         have hnr:nth (encC rt x) j=some (.sl et m):=by
          rw[← hrx,h1,nth_eq,List.getElem?_append_right (by omega),hlen];simp
         have ht:(encC rt x).take j=c.take j:=by rw[← hrx,h1];exact List.take_left' hlen
         have hdr:(encC rt x).drop (j+1)=c.drop (j+1):=by
          have h5:(c.take j++I.sl et m::c.drop (j+1)).drop j=I.sl et m::c.drop (j+1):=List.drop_left' hlen
          rw[← hrx,h1,← List.drop_drop,h5];rfl
         have hcj:c=c.take j++I.os s (S.gen s)::c.drop (j+1):=by
          rw[nth_eq]at hj
          have h3:c[j]=I.os s (S.gen s):=by simpa[List.getElem?_eq_getElem h2] using hj
          rw[← h3,List.getElem_cons_drop,List.take_append_drop]
         obtain ⟨k,hk⟩:∃ k,overP (encC rt x) j [.os 0 1]=some k:=by
          have key:∀ (l:List I) (j:Nat),j<l.length→∃ k,overP l j [I.os 0 1]=some k:=by
           intro l
           induction l with
           |nil=>intro j h;simp at h
           |cons a l ih =>
            intro j h
            cases j with
            |zero=>cases l<;>exact⟨_,rfl⟩
            |succ j =>
             obtain ⟨k,hk⟩:=ih j (by simpa using h)
             exact⟨a::k,by simp only[overP,hk]⟩
          refine key _ j ?_
          rw[← hrx,h1];simp;omega
         obtain ⟨h4,_⟩:=overP_one hk
         refine ⟨m,wrapC rt k,?_,s,h s+S.gen s,rfl,?_,[d.toD h],?_,?_⟩
         ·unfold tmplO
          rw[hnr]
          have:asL et et m=some m:=by simp[asL]
          simp only[this,hk]
         ·show (S.own s).toOwn h=_
          rw[hσ'];rfl
         ·exact resIL_ok hX hd
         ·show d.toD h=_
          rw[wrapC_ren hk _ _ h' h,← renI_toD]
          congr 1
          have hkr:renIL s (S.gen s) k=c:=by
           rw[renIL_map,h4,List.map_append,List.map_cons,ht,hdr]
           have e1:(c.take j).map (renI s (S.gen s))=c.take j:=by
            refine (List.map_congr_left fun y hy=>?_).trans (List.map_id _)
            rw[← ht]at hy
            exact renI_enc _ _ rt x y (List.mem_of_mem_take hy)
           have e2:(c.drop (j+1)).map (renI s (S.gen s))=c.drop (j+1):=by
            refine (List.map_congr_left fun y hy=>?_).trans (List.map_id _)
            rw[← hdr]at hy
            exact renI_enc _ _ rt x y (List.mem_of_mem_drop hy)
           rw[e1,e2]
           exact hcj.symm
          have hu:=unwrap_ok hc
          unfold wrapC at hu ⊢
          cases hi:isSt rt with
          |true =>
           rw[hi]at hu
           simp only[cond_true]at hu ⊢
           rw[← hu,renI,hkr]
          |false =>
           rw[hi]at hu
           simp only[cond_false]at hu ⊢
           rw[← hkr]at hu
           match k,hu with
           |[],hu=>rw[← hu];rfl
           |[a],hu=>rw[← hu];rfl
           |_::_::_,hu=>rw[← hu];rfl
       ·cases hr
      ·cases hr
    ·cases hr
   ·cases hr
  ·cases hr
 ·cases hr
theorem wrapC_po {rt:T}{j:Nat}{x:den rt}{k:List I} (hk:overP (encC rt x) j [.os 0 1]=some k) (h:Nat→Nat):PO ((wrapC rt k).toD h):=by
 obtain ⟨h4,_⟩:=overP_one hk
 have hp:∀ d∈k,PO (d.toD h):=fun d hd=>by
  have hpure:∀ y∈encC rt x,Pure (y.toD h):=fun y hy=>by
   have:=encD_pure rt x
   rw[← toDL_enc h]at this
   refine this _ ?_
   rw[toDL_map]
   exact List.mem_map_of_mem hy
  rw[h4]at hd
  rcases List.mem_append.1 hd with hd|hd
  ·exact .pure _ (hpure d (List.mem_of_mem_take hd))
  ·rcases List.mem_cons.1 hd with rfl|hd
   ·exact .os _ _
   ·exact .pure _ (hpure d (List.mem_of_mem_drop hd))
 have hpl:POL (I.toDL h k):=by
  clear h4 hk
  induction k with
  |nil=>exact .nil
  |cons d k ih=>exact .cons _ _ (hp d (List.mem_cons_self ..)) (ih fun y hy=>hp y (List.mem_cons_of_mem _ hy))
 unfold wrapC
 cases isSt rt with
 |true=>exact .agg _ hpl
 |false =>
  simp only[cond_false]
  split
  ·rename_i d;exact hp d (List.mem_cons_self ..)
  ·exact .pure _ .undef
def fnRunO (rt:T) (j Et:Nat) (et:T) (it:It (den rt)) (E:FEnv Z) (c:Code) (rv:List ResultVar) (A:List I):Option (den rt) :=
 runC it E c ⟨[],[]⟩ (initS A) (finKO Z E.nt rv rt j Et et) (fun e S=>match e with|none=>finKO Z E.nt rv rt j Et et S|some _=>none)
theorem fn_contractO {ats : List T} {rt et : T} {j Et : Nat} {E : FEnv Z} {f : FuncId} {fn : Func} {c : Code} (hf : Z.P.funcs[f]? = some fn) (hb : fn.body = some c) (hname : (fn.name == "runtime.NumGoroutine") = false) (hn : Nat.beq fn.ntmps E.nt = true) (hl : Nat.ble ats.length fn.ntmps = true) (hp : E.pin = [])
  {a:argD ats}{x:den rt} (hr:fnRunO rt j Et et itN E c fn.results.toList (encA ats a)=some x) {l:List (den et)}{d:I} (hd:tmplO rt j et x=some (l,d)) (h:Nat→Nat):ContractO Z.toSeat f (I.toDL h (encA ats a)) (d.toD h) Et (sz et) l.length (fun i=>encD et (l.getD i (dflt et))):=by
 have hk:∃ k,overP (encC rt x) j [.os 0 1]=some k∧d=wrapC rt k:=by
  unfold tmplO at hd
  split at hd
  ·split at hd
   ·split at hd
    ·rename_i k hk
     simp only[Option.some.injEq,Prod.mk.injEq]at hd
     exact⟨k,hk,hd.2.symm⟩
    ·cases hd
   ·cases hd
  ·cases hd
 obtain ⟨k,hk,hdk⟩:=hk
 subst hdk
 rw[encA_h' h zh]
 refine contractO_intro hf hb hname (by rw[toDL_len,encA_len];exact hl) (encA_pure _ _ _) (wrapC_po hk h) (fun i _=>encD_pure _ _) fun w κ=>?_
 have hX:At (Ctx.plain Z.toSeat fn.ntmps w κ none) Z E.nt:=At.pl rfl (Nat.eq_of_beq_eq_true hn) (fun _=>rfl)
 rw[← toSt_init]
 have fin:∀ h2 S,finKO Z E.nt fn.results.toList rt j Et et S=some x→∃ s g,(IS.toSt h2 S).γ s=g∧(IS.toSt h2 S).σ s=.arr Et (sz et) l.length (fun i=>encD et (l.getD i (dflt et)))∧∃ ds,ResL (Ctx.plain Z.toSeat fn.ntmps w κ none) (IS.toSt h2 S) fn.results.toList ds∧tupOf ds=renO s g ((wrapC rt k).toD h):=fun h2 S hq=>by
  obtain ⟨l',d',h3,h4⟩:=finKO_ok hX (h:=h2) (h':=h) hq
  rw[hd]at h3
  simp only[Option.some.injEq,Prod.mk.injEq]at h3
  obtain ⟨rfl,rfl⟩:=h3
  exact h4
 refine W_mono (run_ok c hX (fun _=>⟨_,_,_,_,rfl⟩) (g0:=zh) ⟨[],[]⟩ rfl _ _ _ zh ⟨(fun g hg=>by rw[hp]at hg;cases hg),⟨(fun p hp=>(nomatch hp)),(fun p hp=>(nomatch hp))⟩⟩ hr) ?_
 rintro e T ⟨h2,S,rfl,_,hq⟩
 cases e with
 |normal=>exact fin h2 S hq
 |ret=>exact fin h2 S hq
 |exit i=>cases hq
 |_=>exact hq.elim
def mkSpecO (Z:Seat) (f:FuncId) (ats:List T) (rt:T) (j Et:Nat) (et:T) (F:argD ats→Option (den rt)) (hF:∀ a x,F a=some x→∀ l d,tmplO rt j et x=some (l,d)→∀ h,ContractO Z f (I.toDL h (encA ats a)) (d.toD h) Et (sz et) l.length (fun i=>encD et (l.getD i (dflt et)))):FnSpecO Z where
 f:=f
 app:=fun A k=>match decA ats A with
  |some a=>(F a).bind fun x=>(match tmplO rt j et x with|some y=>k Et et y.1 y.2|none=>none)
  |none=>none
 ok:=fun A k r h=>by
  split at h
  ·rename_i a ha
   cases hx:F a with
   |none=>rw[hx]at h;cases h
   |some x =>
    rw[hx]at h
    simp only[Option.bind_some]at h
    split at h
    ·rename_i y hy
     refine ⟨_,_,_,_,h,fun h=>?_⟩
     have hc:=hF a x hx y.1 y.2 hy h
     exact⟨decA_pure ha,hc.poR,hc.pureE,hc.body,fun w κ args hf hg hr=>hc.calls w κ args hf hg (decA_rep ha hr)⟩
    ·cases h
  ·cases h
end
end
end Go.Ab
namespace Go.Ab
open Go Go.RowKit
set_option linter.all false
def Ok {α:Type} (P:α→Prop) (x:Option α):Prop:=∃ a,x=some a∧P a
section
variable {α β:Type}{P:α→Prop}{Q:β→Prop}
theorem Ok.some {a:α} (h:P a):Ok P (some a):=⟨a,rfl,h⟩
theorem Ok.bind {x:Option α}{f:α→Option β} (hx:Ok P x) (hf:∀ a,P a→Ok Q (f a)):Ok Q (x.bind f):=by
 obtain ⟨a,rfl,ha⟩:=hx
 exact hf a ha
theorem Ok.mono {P':α→Prop}{x:Option α} (hx:Ok P x) (h:∀ a,P a→P' a):Ok P' x:=by
 obtain ⟨a,rfl,ha⟩:=hx
 exact⟨a,rfl,h a ha⟩
theorem Ok.chk {b:Bool}{x:Option α} (hb:b=true) (hx:Ok P x):Ok P (chk b x):=by subst hb;exact hx
theorem Ok.ite {c:Bool}{x y:Option α} (hx:c=true→Ok P x) (hy:c=false→Ok P y):Ok P (bif c then x else y):=by
 cases c with
 |true=>exact hx rfl
 |false=>exact hy rfl
theorem Ok.rounds {γ:Type}{F:γ→(γ→Option α)→Option α}{v0:γ} (inv:γ→Prop) (μ:γ→Nat) (hμ:μ v0<FUEL) (h0:inv v0)
  (step:∀ v kn,inv v→(∀ v',inv v'→μ v'<μ v→Ok P (kn v'))→Ok P (F v kn)):Ok P (itN γ F v0):=by
 have key:∀ n v,inv v→μ v<n→Ok P (iter F n v):=by
  intro n
  induction n with
  |zero=>intro v _ h;omega
  |succ n ih =>
   intro v hv hn
   exact step v (iter F n) hv fun v' hv' hlt=>ih v' hv' (by omega)
 exact key FUEL v0 h0 hμ
end
theorem w64_id {n:Int} (h1:-9223372036854775808≤n) (h2:n≤9223372036854775807):w64 n=n:=by
 unfold w64 IntKind.wrap
 simp[IntKind.bits,IntKind.signed,Int.bmod_def]
 omega
end Go.Ab
namespace Go.Proofs.YtbhjjkekphpldaaGreatDoor
open Go Go.Ab
set_option maxRecDepth 100000
abbrev N:TRow:=⟨9,0,0,[],0,0,[]⟩
def tab:List TRow:=[
N,
⟨0,1,8,[],0,0,[.o]⟩,
⟨0,1,8,[],0,0,[.i .i64]⟩,
⟨0,1,8,[],0,0,[.i .i64]⟩,
⟨0,1,1,[],0,0,[.b]⟩,
⟨0,1,1,[],0,0,[.i .u8]⟩,
⟨0,1,1,[],0,0,[.i .u8]⟩,
⟨1,4,24,[(0,1,false),(1,1,false),(2,1,false),(3,1,false)],0,0,[.i .i64,.i .i64,.b,.i .u8]⟩,
⟨1,4,24,[(0,1,false),(1,1,false),(2,1,false),(3,1,false)],0,0,[.i .i64,.i .i64,.b,.i .u8]⟩,
⟨0,1,16,[],0,0,[.s]⟩,
⟨0,1,16,[],0,0,[.s]⟩,
⟨0,1,16,[],0,0,[.s]⟩,
⟨0,1,8,[],0,0,[.i .u64]⟩,
⟨1,2,24,[(0,1,false),(1,1,false)],0,0,[.s,.i .u64]⟩,
⟨1,2,24,[(0,1,false),(1,1,false)],0,0,[.s,.i .u64]⟩,
⟨0,1,8,[],0,0,[.np]⟩,
⟨0,1,8,[],0,0,[.np]⟩,
⟨0,1,8,[],0,0,[.np]⟩,
⟨1,1,8,[(0,1,false)],0,0,[.np]⟩,
⟨1,1,8,[(0,1,false)],0,0,[.np]⟩,
⟨0,1,16,[],0,0,[.ni]⟩,
⟨0,1,4,[],0,0,[.i .i32]⟩,
⟨3,1,24,[],82,0,[.sl]⟩,
⟨2,3,24,[],3,3,[.i .i64,.i .i64,.i .i64]⟩,
⟨1,4,48,[(0,1,false),(1,3,true)],0,0,[.sl,.i .i64,.i .i64,.i .i64]⟩,
⟨1,4,48,[(0,1,false),(1,3,true)],0,0,[.sl,.i .i64,.i .i64,.i .i64]⟩,
⟨1,2,16,[(0,1,false),(1,1,false)],0,0,[.i .i64,.i .i64]⟩,
⟨1,2,16,[(0,1,false),(1,1,false)],0,0,[.i .i64,.i .i64]⟩,
⟨3,1,24,[],111,0,[.sl]⟩,
⟨1,11,120,[(0,2,true),(2,1,false),(3,1,false),(4,1,false),(5,1,false),(6,1,false),(7,1,false),(8,1,false),(9,1,false),(10,1,false)],0,0,[.i .i64,.i .i64,.sl,.sl,.i .i64,.i .i64,.i .i64,.i .i64,.i .i64,.i .i64,.i .i64]⟩,
⟨1,11,120,[(0,2,true),(2,1,false),(3,1,false),(4,1,false),(5,1,false),(6,1,false),(7,1,false),(8,1,false),(9,1,false),(10,1,false)],0,0,[.i .i64,.i .i64,.sl,.sl,.i .i64,.i .i64,.i .i64,.i .i64,.i .i64,.i .i64,.i .i64]⟩,
⟨3,1,24,[],58,0,[.sl]⟩,
⟨3,1,24,[],125,0,[.sl]⟩,
⟨1,2,48,[(0,1,false),(1,1,false)],0,0,[.sl,.sl]⟩,
⟨1,2,48,[(0,1,false),(1,1,false)],0,0,[.sl,.sl]⟩,
⟨3,1,24,[],119,0,[.sl]⟩,
⟨3,1,24,[],113,0,[.sl]⟩,
⟨3,1,24,[],27,0,[.sl]⟩,
⟨3,1,24,[],60,0,[.sl]⟩,
⟨1,5,104,[(0,1,false),(1,1,false),(2,1,false),(3,1,false),(4,1,false)],0,0,[.i .i64,.sl,.sl,.sl,.sl]⟩,
⟨1,5,104,[(0,1,false),(1,1,false),(2,1,false),(3,1,false),(4,1,false)],0,0,[.i .i64,.sl,.sl,.sl,.sl]⟩,
⟨1,4,32,[(0,1,false),(1,1,false),(2,1,false),(3,1,false)],0,0,[.i .i64,.i .i64,.i .i64,.i .i64]⟩,
⟨1,4,32,[(0,1,false),(1,1,false),(2,1,false),(3,1,false)],0,0,[.i .i64,.i .i64,.i .i64,.i .i64]⟩,
⟨3,1,24,[],63,0,[.sl]⟩,
⟨1,2,16,[(0,1,false),(1,1,false)],0,0,[.i .i64,.i .i64]⟩,
⟨1,2,16,[(0,1,false),(1,1,false)],0,0,[.i .i64,.i .i64]⟩,
⟨1,2,16,[(0,1,false),(1,1,false)],0,0,[.i .i64,.i .i64]⟩,
⟨1,2,16,[(0,1,false),(1,1,false)],0,0,[.i .i64,.i .i64]⟩,
⟨1,35,440,[(0,4,true),(4,11,true),(15,1,false),(16,1,false),(17,2,true),(19,2,true),(21,5,true),(26,4,true),(30,1,false),(31,2,true),(33,2,true)],0,0,[.sl,.i .i64,.i .i64,.i .i64,.i .i64,.i .i64,.sl,.sl,.i .i64,.i .i64,.i .i64,.i .i64,.i .i64,.i .i64,.i .i64,.i .i64,.i .i64,.i .i64,.i .i64,.sl,.sl,.i .i64,.sl,.sl,.sl,.sl,.i .i64,.i .i64,.i .i64,.i .i64,.sl,.i .i64,.i .i64,.i .i64,.i .i64]⟩,
⟨1,35,440,[(0,4,true),(4,11,true),(15,1,false),(16,1,false),(17,2,true),(19,2,true),(21,5,true),(26,4,true),(30,1,false),(31,2,true),(33,2,true)],0,0,[.sl,.i .i64,.i .i64,.i .i64,.i .i64,.i .i64,.sl,.sl,.i .i64,.i .i64,.i .i64,.i .i64,.i .i64,.i .i64,.i .i64,.i .i64,.i .i64,.i .i64,.i .i64,.sl,.sl,.i .i64,.sl,.sl,.sl,.sl,.i .i64,.i .i64,.i .i64,.i .i64,.sl,.i .i64,.i .i64,.i .i64,.i .i64]⟩,
⟨3,1,24,[],3,0,[.sl]⟩,
⟨0,1,8,[],0,0,[.o]⟩,
⟨0,1,8,[],0,0,[.o]⟩,
⟨0,1,8,[],0,0,[.np]⟩,
⟨0,1,8,[],0,0,[.o]⟩,
⟨0,1,8,[],0,0,[.o]⟩,
⟨0,1,8,[],0,0,[.o]⟩,
⟨1,6,56,[(0,1,false),(1,1,false),(2,2,true),(4,2,true)],0,0,[.s,.i .i64,.i .i64,.i .i64,.i .i64,.i .i64]⟩,
⟨1,6,56,[(0,1,false),(1,1,false),(2,2,true),(4,2,true)],0,0,[.s,.i .i64,.i .i64,.i .i64,.i .i64,.i .i64]⟩,
⟨1,3,24,[(0,1,false),(1,2,true)],0,0,[.i .i64,.i .i64,.i .i64]⟩,
⟨1,3,24,[(0,1,false),(1,2,true)],0,0,[.i .i64,.i .i64,.i .i64]⟩,
⟨3,1,24,[],161,0,[.sl]⟩,
⟨1,3,48,[(0,1,false),(1,1,false),(2,1,false)],0,0,[.s,.i .i64,.sl]⟩,
⟨1,3,48,[(0,1,false),(1,1,false),(2,1,false)],0,0,[.s,.i .i64,.sl]⟩,
⟨0,1,8,[],0,0,[.i .i64]⟩,
⟨0,1,8,[],0,0,[.o]⟩,
⟨0,1,8,[],0,0,[.o]⟩,
⟨0,1,8,[],0,0,[.o]⟩,
⟨0,1,8,[],0,0,[.o]⟩,
⟨0,1,8,[],0,0,[.o]⟩,
⟨0,1,8,[],0,0,[.o]⟩,
⟨0,1,8,[],0,0,[.o]⟩,
⟨0,1,8,[],0,0,[.i .u64]⟩,
⟨1,1,8,[(0,1,false)],0,0,[.i .u64]⟩,
⟨1,1,8,[(0,1,false)],0,0,[.i .u64]⟩,
⟨0,1,8,[],0,0,[.o]⟩,
⟨0,1,8,[],0,0,[.o]⟩,
⟨0,1,8,[],0,0,[.o]⟩,
⟨0,1,8,[],0,0,[.o]⟩,
⟨0,1,8,[],0,0,[.o]⟩,
⟨0,1,8,[],0,0,[.np]⟩,
⟨1,5,40,[(0,1,false),(1,1,false),(2,1,false),(3,1,false),(4,1,false)],0,0,[.i .i64,.i .i64,.i .i64,.i .i64,.i .i64]⟩,
⟨1,5,40,[(0,1,false),(1,1,false),(2,1,false),(3,1,false),(4,1,false)],0,0,[.i .i64,.i .i64,.i .i64,.i .i64,.i .i64]⟩,
⟨0,1,8,[],0,0,[.o]⟩,
⟨0,1,8,[],0,0,[.o]⟩,
⟨1,3,72,[(0,1,false),(1,1,false),(2,1,false)],0,0,[.sl,.sl,.sl]⟩,
⟨1,3,72,[(0,1,false),(1,1,false),(2,1,false)],0,0,[.sl,.sl,.sl]⟩,
N,
⟨0,1,8,[],0,0,[.o]⟩,
⟨3,1,24,[],9,0,[.sl]⟩,
⟨0,1,8,[],0,0,[.i .u64]⟩,
⟨0,1,8,[],0,0,[.o]⟩,
⟨0,1,8,[],0,0,[.o]⟩,
⟨0,1,8,[],0,0,[.o]⟩,
⟨3,1,24,[],100,0,[.sl]⟩,
⟨1,4,48,[(0,1,false),(1,1,false),(2,1,false),(3,1,false)],0,0,[.i .i64,.i .i64,.i .i64,.sl]⟩,
⟨1,4,48,[(0,1,false),(1,1,false),(2,1,false),(3,1,false)],0,0,[.i .i64,.i .i64,.i .i64,.sl]⟩,
⟨0,1,8,[],0,0,[.o]⟩,
⟨3,1,24,[],154,0,[.sl]⟩,
⟨1,5,56,[(0,1,false),(1,1,false),(2,2,true),(4,1,false)],0,0,[.i .i64,.i .i64,.i .i64,.i .i64,.sl]⟩,
⟨1,5,56,[(0,1,false),(1,1,false),(2,2,true),(4,1,false)],0,0,[.i .i64,.i .i64,.i .i64,.i .i64,.sl]⟩,
⟨0,1,8,[],0,0,[.o]⟩,
⟨0,1,8,[],0,0,[.o]⟩,
⟨0,1,8,[],0,0,[.o]⟩,
⟨0,1,8,[],0,0,[.o]⟩,
N,
⟨0,1,8,[],0,0,[.o]⟩,
⟨3,1,24,[],91,0,[.sl]⟩,
⟨0,1,8,[],0,0,[.o]⟩,
⟨0,1,8,[],0,0,[.o]⟩,
⟨1,2,16,[(0,1,false),(1,1,false)],0,0,[.i .i64,.i .i64]⟩,
⟨1,2,16,[(0,1,false),(1,1,false)],0,0,[.i .i64,.i .i64]⟩,
⟨1,7,72,[(0,1,false),(1,2,true),(3,1,false),(4,1,false),(5,1,false),(6,1,false)],0,0,[.i .i64,.i .i64,.i .i64,.i .i64,.i .i64,.i .i64,.sl]⟩,
⟨1,7,72,[(0,1,false),(1,2,true),(3,1,false),(4,1,false),(5,1,false),(6,1,false)],0,0,[.i .i64,.i .i64,.i .i64,.i .i64,.i .i64,.i .i64,.sl]⟩,
N,
⟨0,1,8,[],0,0,[.o]⟩,
⟨0,1,8,[],0,0,[.o]⟩,
⟨0,1,8,[],0,0,[.o]⟩,
⟨1,5,40,[(0,1,false),(1,1,false),(2,2,true),(4,1,false)],0,0,[.i .i64,.i .i64,.i .i64,.i .i64,.i .i64]⟩,
⟨1,5,40,[(0,1,false),(1,1,false),(2,2,true),(4,1,false)],0,0,[.i .i64,.i .i64,.i .i64,.i .i64,.i .i64]⟩,
⟨0,1,8,[],0,0,[.o]⟩,
⟨0,1,8,[],0,0,[.o]⟩,
⟨0,1,8,[],0,0,[.o]⟩,
⟨0,1,8,[],0,0,[.o]⟩,
⟨1,4,32,[(0,1,false),(1,1,false),(2,2,true)],0,0,[.i .i64,.i .i64,.i .i64,.i .i64]⟩,
⟨1,4,32,[(0,1,false),(1,1,false),(2,2,true)],0,0,[.i .i64,.i .i64,.i .i64,.i .i64]⟩,
⟨0,1,8,[],0,0,[.o]⟩,
⟨0,1,8,[],0,0,[.o]⟩,
⟨0,1,8,[],0,0,[.o]⟩,
⟨0,1,8,[],0,0,[.o]⟩,
⟨0,1,8,[],0,0,[.o]⟩,
⟨0,1,8,[],0,0,[.o]⟩,
⟨0,1,8,[],0,0,[.o]⟩,
⟨1,5,32,[(0,1,false),(1,1,false),(2,1,false),(3,1,false),(4,1,false)],0,0,[.o,.i .i64,.i .i64,.b,.b]⟩,
⟨1,5,32,[(0,1,false),(1,1,false),(2,1,false),(3,1,false),(4,1,false)],0,0,[.o,.i .i64,.i .i64,.b,.b]⟩,
⟨0,1,8,[],0,0,[.o]⟩,
⟨0,1,8,[],0,0,[.o]⟩,
⟨0,1,8,[],0,0,[.o]⟩,
⟨0,1,8,[],0,0,[.o]⟩,
⟨2,4,32,[],3,4,[.i .i64,.i .i64,.i .i64,.i .i64]⟩,
⟨0,1,8,[],0,0,[.o]⟩,
⟨0,1,8,[],0,0,[.o]⟩,
⟨0,1,8,[],0,0,[.o]⟩,
⟨0,1,8,[],0,0,[.o]⟩,
N,
⟨0,1,8,[],0,0,[.o]⟩,
⟨0,1,8,[],0,0,[.o]⟩,
⟨0,1,8,[],0,0,[.o]⟩,
⟨0,1,8,[],0,0,[.np]⟩,
N,
⟨0,1,8,[],0,0,[.o]⟩,
⟨1,6,64,[(0,5,true),(5,1,false)],0,0,[.i .i64,.i .i64,.i .i64,.i .i64,.sl,.i .i64]⟩,
⟨1,6,64,[(0,5,true),(5,1,false)],0,0,[.i .i64,.i .i64,.i .i64,.i .i64,.sl,.i .i64]⟩,
⟨1,2,16,[(0,1,false),(1,1,false)],0,0,[.i .i64,.i .i64]⟩,
⟨1,2,16,[(0,1,false),(1,1,false)],0,0,[.i .i64,.i .i64]⟩,
⟨0,1,8,[],0,0,[.o]⟩,
⟨0,1,8,[],0,0,[.o]⟩,
⟨2,4,32,[],27,2,[.i .i64,.i .i64,.i .i64,.i .i64]⟩,
⟨0,1,8,[],0,0,[.o]⟩,
⟨0,1,8,[],0,0,[.o]⟩,
⟨1,4,32,[(0,2,true),(2,2,true)],0,0,[.i .i64,.i .i64,.i .i64,.i .i64]⟩,
⟨1,4,32,[(0,2,true),(2,2,true)],0,0,[.i .i64,.i .i64,.i .i64,.i .i64]⟩,
⟨0,1,8,[],0,0,[.o]⟩,
⟨0,1,8,[],0,0,[.o]⟩,
⟨0,1,8,[],0,0,[.o]⟩,
⟨0,1,8,[],0,0,[.o]⟩,
⟨0,1,8,[],0,0,[.o]⟩,
⟨0,1,8,[],0,0,[.o]⟩,
⟨0,1,8,[],0,0,[.o]⟩,
⟨0,1,8,[],0,0,[.o]⟩,
⟨0,1,8,[],0,0,[.o]⟩,
⟨0,1,8,[],0,0,[.np]⟩,
⟨3,1,24,[],5,0,[.sl]⟩,
⟨1,2,32,[(0,1,false),(1,1,false)],0,0,[.np,.sl]⟩,
⟨1,2,32,[(0,1,false),(1,1,false)],0,0,[.np,.sl]⟩,
⟨0,1,8,[],0,0,[.o]⟩,
⟨0,1,8,[],0,0,[.o]⟩,
⟨0,1,8,[],0,0,[.o]⟩,
⟨0,1,8,[],0,0,[.o]⟩,
⟨0,1,8,[],0,0,[.o]⟩,
⟨0,1,16,[],0,0,[.ni]⟩,
⟨0,1,16,[],0,0,[.ni]⟩,
N,
⟨0,1,8,[],0,0,[.o]⟩,
⟨0,1,8,[],0,0,[.o]⟩,
⟨0,1,8,[],0,0,[.o]⟩,
N,
N,
N,
⟨0,1,8,[],0,0,[.o]⟩,
⟨0,1,8,[],0,0,[.o]⟩,
⟨0,1,8,[],0,0,[.np]⟩,
⟨0,1,8,[],0,0,[.o]⟩,
⟨0,1,8,[],0,0,[.o]⟩,
⟨0,1,8,[],0,0,[.o]⟩,
⟨0,1,8,[],0,0,[.o]⟩,
⟨0,1,8,[],0,0,[.o]⟩,
⟨3,1,24,[],252,0,[.sl]⟩,
⟨3,1,24,[],256,0,[.sl]⟩,
⟨3,1,24,[],261,0,[.sl]⟩,
⟨1,7,152,[(0,1,false),(1,1,false),(2,1,false),(3,1,false),(4,1,false),(5,2,true)],0,0,[.i .i64,.sl,.sl,.sl,.sl,.sl,.sl]⟩,
⟨1,7,152,[(0,1,false),(1,1,false),(2,1,false),(3,1,false),(4,1,false),(5,2,true)],0,0,[.i .i64,.sl,.sl,.sl,.sl,.sl,.sl]⟩,
⟨1,42,592,[(0,7,true),(7,35,true)],0,0,[.i .i64,.sl,.sl,.sl,.sl,.sl,.sl,.sl,.i .i64,.i .i64,.i .i64,.i .i64,.i .i64,.sl,.sl,.i .i64,.i .i64,.i .i64,.i .i64,.i .i64,.i .i64,.i .i64,.i .i64,.i .i64,.i .i64,.i .i64,.sl,.sl,.i .i64,.sl,.sl,.sl,.sl,.i .i64,.i .i64,.i .i64,.i .i64,.sl,.i .i64,.i .i64,.i .i64,.i .i64]⟩,
⟨1,42,592,[(0,7,true),(7,35,true)],0,0,[.i .i64,.sl,.sl,.sl,.sl,.sl,.sl,.sl,.i .i64,.i .i64,.i .i64,.i .i64,.i .i64,.sl,.sl,.i .i64,.i .i64,.i .i64,.i .i64,.i .i64,.i .i64,.i .i64,.i .i64,.i .i64,.i .i64,.i .i64,.sl,.sl,.i .i64,.sl,.sl,.sl,.sl,.i .i64,.i .i64,.i .i64,.i .i64,.sl,.i .i64,.i .i64,.i .i64,.i .i64]⟩,
⟨0,1,8,[],0,0,[.o]⟩,
⟨0,1,8,[],0,0,[.o]⟩,
⟨1,4,72,[(0,1,false),(1,1,false),(2,1,false),(3,1,false)],0,0,[.s,.s,.s,.sl]⟩,
⟨1,4,72,[(0,1,false),(1,1,false),(2,1,false),(3,1,false)],0,0,[.s,.s,.s,.sl]⟩,
⟨0,1,8,[],0,0,[.o]⟩,
⟨1,2,24,[(0,1,false),(1,1,false)],0,0,[.s,.o]⟩,
⟨1,2,24,[(0,1,false),(1,1,false)],0,0,[.s,.o]⟩,
N,
⟨0,1,8,[],0,0,[.o]⟩,
⟨0,1,8,[],0,0,[.np]⟩,
⟨0,1,8,[],0,0,[.o]⟩,
N,
⟨0,1,8,[],0,0,[.o]⟩,
⟨0,1,8,[],0,0,[.o]⟩,
⟨0,1,8,[],0,0,[.o]⟩,
⟨0,1,8,[],0,0,[.o]⟩,
⟨0,1,8,[],0,0,[.o]⟩,
N,
⟨0,1,8,[],0,0,[.o]⟩,
⟨0,1,8,[],0,0,[.o]⟩,
⟨0,1,8,[],0,0,[.o]⟩,
⟨0,1,8,[],0,0,[.o]⟩,
N,
⟨0,1,8,[],0,0,[.o]⟩,
⟨0,1,8,[],0,0,[.o]⟩,
⟨0,1,8,[],0,0,[.o]⟩,
N,
⟨0,1,8,[],0,0,[.o]⟩,
⟨0,1,8,[],0,0,[.o]⟩,
⟨0,1,8,[],0,0,[.np]⟩,
N,
⟨0,1,8,[],0,0,[.o]⟩,
⟨2,24,24,[],5,24,[.i .u8,.i .u8,.i .u8,.i .u8,.i .u8,.i .u8,.i .u8,.i .u8,.i .u8,.i .u8,.i .u8,.i .u8,.i .u8,.i .u8,.i .u8,.i .u8,.i .u8,.i .u8,.i .u8,.i .u8,.i .u8,.i .u8,.i .u8,.i .u8]⟩,
⟨0,1,8,[],0,0,[.o]⟩,
⟨0,1,8,[],0,0,[.o]⟩,
N,
⟨0,1,8,[],0,0,[.o]⟩,
N,
⟨1,2,2,[(0,1,false),(1,1,false)],0,0,[.i .u8,.i .u8]⟩,
⟨1,2,2,[(0,1,false),(1,1,false)],0,0,[.i .u8,.i .u8]⟩,
⟨2,32,32,[],243,16,[.i .u8,.i .u8,.i .u8,.i .u8,.i .u8,.i .u8,.i .u8,.i .u8,.i .u8,.i .u8,.i .u8,.i .u8,.i .u8,.i .u8,.i .u8,.i .u8,.i .u8,.i .u8,.i .u8,.i .u8,.i .u8,.i .u8,.i .u8,.i .u8,.i .u8,.i .u8,.i .u8,.i .u8,.i .u8,.i .u8,.i .u8,.i .u8]⟩,
⟨0,1,8,[],0,0,[.o]⟩,
⟨0,1,4,[],0,0,[.i .u32]⟩,
N,
⟨0,1,8,[],0,0,[.o]⟩,
⟨0,1,8,[],0,0,[.o]⟩,
⟨0,1,8,[],0,0,[.o]⟩,
⟨1,5,40,[(0,1,false),(1,1,false),(2,1,false),(3,2,true)],0,0,[.i .i64,.i .i64,.i .i64,.i .i64,.i .i64]⟩,
⟨1,5,40,[(0,1,false),(1,1,false),(2,1,false),(3,2,true)],0,0,[.i .i64,.i .i64,.i .i64,.i .i64,.i .i64]⟩,
⟨0,1,8,[],0,0,[.o]⟩,
⟨0,1,8,[],0,0,[.o]⟩,
⟨1,5,40,[(0,1,false),(1,1,false),(2,1,false),(3,1,false),(4,1,false)],0,0,[.i .i64,.i .i64,.i .i64,.i .i64,.i .i64]⟩,
⟨1,5,40,[(0,1,false),(1,1,false),(2,1,false),(3,1,false),(4,1,false)],0,0,[.i .i64,.i .i64,.i .i64,.i .i64,.i .i64]⟩,
⟨0,1,8,[],0,0,[.o]⟩,
⟨0,1,8,[],0,0,[.o]⟩,
⟨0,1,8,[],0,0,[.o]⟩,
⟨1,7,72,[(0,1,false),(1,1,false),(2,5,true)],0,0,[.i .i64,.i .i64,.i .i64,.i .i64,.i .i64,.i .i64,.sl]⟩,
⟨1,7,72,[(0,1,false),(1,1,false),(2,5,true)],0,0,[.i .i64,.i .i64,.i .i64,.i .i64,.i .i64,.i .i64,.sl]⟩,
⟨0,1,8,[],0,0,[.o]⟩,
⟨0,1,8,[],0,0,[.o]⟩,
⟨3,1,24,[],302,0,[.sl]⟩,
N,
⟨0,1,8,[],0,0,[.o]⟩,
⟨0,1,8,[],0,0,[.o]⟩,
N,
⟨0,1,8,[],0,0,[.o]⟩,
⟨0,1,8,[],0,0,[.o]⟩,
N,
⟨0,1,8,[],0,0,[.o]⟩,
⟨0,1,8,[],0,0,[.o]⟩,
⟨0,1,8,[],0,0,[.o]⟩,
N,
⟨0,1,8,[],0,0,[.o]⟩,
⟨0,1,8,[],0,0,[.o]⟩,
⟨0,1,8,[],0,0,[.o]⟩,
⟨0,1,8,[],0,0,[.np]⟩,
N,
⟨0,1,8,[],0,0,[.o]⟩,
⟨2,4,64,[],9,4,[.s,.s,.s,.s]⟩,
⟨0,1,8,[],0,0,[.o]⟩,
N,
⟨0,1,8,[],0,0,[.o]⟩,
⟨0,1,8,[],0,0,[.o]⟩,
⟨0,1,8,[],0,0,[.o]⟩,
⟨0,1,8,[],0,0,[.o]⟩,
⟨0,1,8,[],0,0,[.o]⟩,
⟨2,20,160,[],72,20,[.i .u64,.i .u64,.i .u64,.i .u64,.i .u64,.i .u64,.i .u64,.i .u64,.i .u64,.i .u64,.i .u64,.i .u64,.i .u64,.i .u64,.i .u64,.i .u64,.i .u64,.i .u64,.i .u64,.i .u64]⟩,
N,
⟨0,1,8,[],0,0,[.o]⟩,
⟨1,6,96,[(0,4,true),(4,1,false),(5,1,false)],0,0,[.sl,.i .i64,.i .i64,.i .i64,.sl,.sl]⟩,
⟨1,6,96,[(0,4,true),(4,1,false),(5,1,false)],0,0,[.sl,.i .i64,.i .i64,.i .i64,.sl,.sl]⟩,
N,
⟨0,1,8,[],0,0,[.o]⟩,
⟨0,1,8,[],0,0,[.o]⟩,
⟨0,1,8,[],0,0,[.o]⟩,
⟨0,1,8,[],0,0,[.o]⟩,
⟨0,1,8,[],0,0,[.o]⟩,
⟨1,3,24,[(0,1,false),(1,1,false),(2,1,false)],0,0,[.i .i64,.i .i64,.i .i64]⟩,
⟨1,3,24,[(0,1,false),(1,1,false),(2,1,false)],0,0,[.i .i64,.i .i64,.i .i64]⟩,
⟨0,1,8,[],0,0,[.o]⟩,
⟨0,1,8,[],0,0,[.o]⟩,
⟨0,1,8,[],0,0,[.o]⟩,
N,
⟨0,1,8,[],0,0,[.o]⟩,
⟨0,1,8,[],0,0,[.o]⟩,
⟨0,1,8,[],0,0,[.o]⟩,
⟨1,7,80,[(0,3,true),(3,4,true)],0,0,[.s,.i .i64,.sl,.i .i64,.i .i64,.i .i64,.i .i64]⟩,
⟨1,7,80,[(0,3,true),(3,4,true)],0,0,[.s,.i .i64,.sl,.i .i64,.i .i64,.i .i64,.i .i64]⟩,
⟨0,1,8,[],0,0,[.o]⟩,
⟨0,1,8,[],0,0,[.o]⟩,
⟨0,1,8,[],0,0,[.o]⟩,
⟨0,1,8,[],0,0,[.o]⟩,
⟨0,1,8,[],0,0,[.o]⟩,
⟨1,7,48,[(0,1,false),(1,1,false),(2,1,false),(3,1,false),(4,1,false),(5,1,false),(6,1,false)],0,0,[.i .i64,.i .i64,.i .i64,.b,.b,.i .i64,.i .i64]⟩,
⟨1,7,48,[(0,1,false),(1,1,false),(2,1,false),(3,1,false),(4,1,false),(5,1,false),(6,1,false)],0,0,[.i .i64,.i .i64,.i .i64,.b,.b,.i .i64,.i .i64]⟩,
N,
⟨0,1,8,[],0,0,[.o]⟩,
⟨1,2,16,[(0,1,false),(1,1,false)],0,0,[.i .i64,.i .i64]⟩,
⟨1,2,16,[(0,1,false),(1,1,false)],0,0,[.i .i64,.i .i64]⟩,
⟨3,1,24,[],330,0,[.sl]⟩,
⟨0,1,8,[],0,0,[.o]⟩,
⟨1,7,88,[(0,6,true),(6,1,false)],0,0,[.i .i64,.i .i64,.i .i64,.i .i64,.sl,.i .i64,.sl]⟩,
⟨1,7,88,[(0,6,true),(6,1,false)],0,0,[.i .i64,.i .i64,.i .i64,.i .i64,.sl,.i .i64,.sl]⟩,
⟨0,1,8,[],0,0,[.o]⟩,
⟨0,1,8,[],0,0,[.o]⟩,
⟨2,14,176,[],326,2,[.i .i64,.i .i64,.i .i64,.i .i64,.sl,.i .i64,.sl,.i .i64,.i .i64,.i .i64,.i .i64,.sl,.i .i64,.sl]⟩,
⟨2,14,176,[],326,2,[.i .i64,.i .i64,.i .i64,.i .i64,.sl,.i .i64,.sl,.i .i64,.i .i64,.i .i64,.i .i64,.sl,.i .i64,.sl]⟩,
⟨0,1,8,[],0,0,[.o]⟩,
⟨0,1,8,[],0,0,[.o]⟩,
⟨0,1,8,[],0,0,[.o]⟩,
⟨0,1,8,[],0,0,[.o]⟩,
⟨3,1,24,[],326,0,[.sl]⟩,
N,
⟨0,1,8,[],0,0,[.o]⟩,
⟨0,1,8,[],0,0,[.o]⟩,
⟨0,1,8,[],0,0,[.o]⟩,
N,
⟨0,1,8,[],0,0,[.o]⟩,
⟨3,1,24,[],37,0,[.sl]⟩,
⟨1,7,152,[(0,5,true),(5,1,false),(6,1,false)],0,0,[.i .i64,.sl,.sl,.sl,.sl,.sl,.sl]⟩,
⟨1,7,152,[(0,5,true),(5,1,false),(6,1,false)],0,0,[.i .i64,.sl,.sl,.sl,.sl,.sl,.sl]⟩,
N,
⟨0,1,8,[],0,0,[.o]⟩,
⟨0,1,8,[],0,0,[.o]⟩,
⟨0,1,8,[],0,0,[.o]⟩,
⟨0,1,8,[],0,0,[.o]⟩,
⟨0,1,8,[],0,0,[.o]⟩,
⟨0,1,8,[],0,0,[.o]⟩,
⟨0,1,8,[],0,0,[.o]⟩,
⟨0,1,8,[],0,0,[.o]⟩,
⟨3,1,24,[],4,0,[.sl]⟩,
⟨0,1,8,[],0,0,[.o]⟩,
⟨0,1,8,[],0,0,[.o]⟩,
⟨0,1,8,[],0,0,[.o]⟩,
N,
⟨0,1,8,[],0,0,[.o]⟩,
⟨0,1,8,[],0,0,[.o]⟩,
⟨0,1,8,[],0,0,[.o]⟩,
⟨1,1,1,[(0,1,false)],0,0,[.b]⟩,
⟨1,1,1,[(0,1,false)],0,0,[.b]⟩,
⟨1,14,176,[(0,1,true),(1,11,true),(12,1,false),(13,1,false)],0,0,[.b,.i .i64,.i .i64,.sl,.sl,.i .i64,.i .i64,.i .i64,.i .i64,.i .i64,.i .i64,.i .i64,.sl,.sl]⟩,
⟨1,14,176,[(0,1,true),(1,11,true),(12,1,false),(13,1,false)],0,0,[.b,.i .i64,.i .i64,.sl,.sl,.i .i64,.i .i64,.i .i64,.i .i64,.i .i64,.i .i64,.i .i64,.sl,.sl]⟩,
N,
⟨0,1,8,[],0,0,[.o]⟩,
⟨0,1,8,[],0,0,[.o]⟩,
⟨0,1,8,[],0,0,[.o]⟩,
⟨0,1,8,[],0,0,[.o]⟩,
⟨0,1,8,[],0,0,[.o]⟩,
⟨0,1,8,[],0,0,[.o]⟩,
⟨0,1,8,[],0,0,[.o]⟩,
⟨0,1,8,[],0,0,[.o]⟩,
⟨0,1,8,[],0,0,[.o]⟩,
N,
⟨0,1,8,[],0,0,[.o]⟩,
⟨0,1,8,[],0,0,[.o]⟩,
⟨0,1,8,[],0,0,[.i .i64]⟩,
N,
⟨0,1,8,[],0,0,[.o]⟩,
⟨0,1,8,[],0,0,[.np]⟩,
⟨0,1,8,[],0,0,[.o]⟩,
⟨0,1,8,[],0,0,[.o]⟩,
⟨2,32,32,[],5,32,[.i .u8,.i .u8,.i .u8,.i .u8,.i .u8,.i .u8,.i .u8,.i .u8,.i .u8,.i .u8,.i .u8,.i .u8,.i .u8,.i .u8,.i .u8,.i .u8,.i .u8,.i .u8,.i .u8,.i .u8,.i .u8,.i .u8,.i .u8,.i .u8,.i .u8,.i .u8,.i .u8,.i .u8,.i .u8,.i .u8,.i .u8,.i .u8]⟩,
⟨2,64,64,[],5,64,[.i .u8,.i .u8,.i .u8,.i .u8,.i .u8,.i .u8,.i .u8,.i .u8,.i .u8,.i .u8,.i .u8,.i .u8,.i .u8,.i .u8,.i .u8,.i .u8,.i .u8,.i .u8,.i .u8,.i .u8,.i .u8,.i .u8,.i .u8,.i .u8,.i .u8,.i .u8,.i .u8,.i .u8,.i .u8,.i .u8,.i .u8,.i .u8,.i .u8,.i .u8,.i .u8,.i .u8,.i .u8,.i .u8,.i .u8,.i .u8,.i .u8,.i .u8,.i .u8,.i .u8,.i .u8,.i .u8,.i .u8,.i .u8,.i .u8,.i .u8,.i .u8,.i .u8,.i .u8,.i .u8,.i .u8,.i .u8,.i .u8,.i .u8,.i .u8,.i .u8,.i .u8,.i .u8,.i .u8,.i .u8]⟩,
⟨0,1,8,[],0,0,[.o]⟩,
⟨0,1,8,[],0,0,[.o]⟩,
⟨0,1,8,[],0,0,[.o]⟩,
⟨0,1,8,[],0,0,[.o]⟩,
⟨0,1,8,[],0,0,[.o]⟩,
⟨0,1,8,[],0,0,[.o]⟩,
⟨0,1,8,[],0,0,[.o]⟩,
⟨0,1,8,[],0,0,[.o]⟩,
N,
⟨0,1,8,[],0,0,[.o]⟩,
⟨0,1,8,[],0,0,[.o]⟩,
⟨0,1,8,[],0,0,[.o]⟩,
⟨0,1,8,[],0,0,[.o]⟩,
⟨0,1,8,[],0,0,[.o]⟩,
⟨0,1,8,[],0,0,[.o]⟩,
N,
⟨0,1,8,[],0,0,[.o]⟩,
⟨2,2,16,[],3,2,[.i .i64,.i .i64]⟩,
⟨2,8,64,[],404,4,[.i .i64,.i .i64,.i .i64,.i .i64,.i .i64,.i .i64,.i .i64,.i .i64]⟩,
N,
⟨0,1,8,[],0,0,[.o]⟩,
⟨0,1,8,[],0,0,[.o]⟩,
⟨0,1,8,[],0,0,[.o]⟩,
⟨0,1,8,[],0,0,[.o]⟩,
⟨0,1,8,[],0,0,[.o]⟩,
⟨0,1,8,[],0,0,[.o]⟩,
⟨0,1,8,[],0,0,[.o]⟩,
⟨0,1,8,[],0,0,[.o]⟩,
N,
⟨0,1,8,[],0,0,[.o]⟩,
⟨0,1,8,[],0,0,[.o]⟩,
⟨1,3,48,[(0,1,false),(1,1,false),(2,1,false)],0,0,[.s,.s,.ni]⟩,
⟨1,3,48,[(0,1,false),(1,1,false),(2,1,false)],0,0,[.s,.s,.ni]⟩,
⟨0,1,8,[],0,0,[.o]⟩,
⟨0,1,8,[],0,0,[.o]⟩,
⟨0,1,8,[],0,0,[.o]⟩,
⟨0,1,8,[],0,0,[.o]⟩,
⟨0,1,8,[],0,0,[.o]⟩,
⟨0,1,8,[],0,0,[.o]⟩,
⟨0,1,8,[],0,0,[.o]⟩,
⟨0,1,8,[],0,0,[.o]⟩,
⟨0,1,8,[],0,0,[.o]⟩,
⟨0,1,8,[],0,0,[.o]⟩,
⟨2,2,16,[],428,2,[.o,.o]⟩,
⟨2,2,16,[],3,2,[.i .i64,.i .i64]⟩,
⟨0,1,8,[],0,0,[.o]⟩,
⟨0,1,8,[],0,0,[.o]⟩,
⟨0,1,8,[],0,0,[.o]⟩,
⟨0,1,8,[],0,0,[.np]⟩,
⟨1,1,16,[(0,1,false)],0,0,[.s]⟩,
⟨1,1,16,[(0,1,false)],0,0,[.s]⟩,
⟨0,1,8,[],0,0,[.o]⟩,
⟨0,1,8,[],0,0,[.o]⟩,
⟨2,4,32,[],404,2,[.i .i64,.i .i64,.i .i64,.i .i64]⟩,
⟨0,1,8,[],0,0,[.o]⟩,
⟨0,1,8,[],0,0,[.o]⟩,
⟨0,1,8,[],0,0,[.o]⟩,
⟨1,4,40,[(0,1,false),(1,1,false),(2,1,false),(3,1,false)],0,0,[.np,.np,.np,.s]⟩,
⟨1,4,40,[(0,1,false),(1,1,false),(2,1,false),(3,1,false)],0,0,[.np,.np,.np,.s]⟩,
⟨2,0,0,[],16,0,[]⟩,
⟨1,0,0,[(0,0,true)],0,0,[]⟩,
⟨1,0,0,[(0,0,true)],0,0,[]⟩,
⟨0,1,1,[],0,0,[.i .u8]⟩,
⟨0,1,1,[],0,0,[.i .u8]⟩,
⟨0,1,8,[],0,0,[.o]⟩,
⟨0,1,4,[],0,0,[.i .i32]⟩,
⟨0,1,4,[],0,0,[.i .i32]⟩,
⟨1,11,48,[(0,1,false),(1,1,false),(2,1,false),(3,1,false),(4,1,false),(5,1,false),(6,1,false),(7,1,false),(8,1,false),(9,1,false),(10,1,false)],0,0,[.i .u64,.i .u64,.i .u32,.i .u8,.i .u8,.i .u8,.i .u8,.o,.np,.i .i32,.i .i32]⟩,
⟨1,11,48,[(0,1,false),(1,1,false),(2,1,false),(3,1,false),(4,1,false),(5,1,false),(6,1,false),(7,1,false),(8,1,false),(9,1,false),(10,1,false)],0,0,[.i .u64,.i .u64,.i .u32,.i .u8,.i .u8,.i .u8,.i .u8,.o,.np,.i .i32,.i .i32]⟩
 ]
theorem tab_all:(tab.zipIdx.all fun p=>Nat.beq p.1.k 9 || rowOk Tryz.prog p.2 p.1)=true:=by kernel_rfl
theorem tab_ok (t:Nat) (r:TRow) (h:nth tab t=some r) (h9:r.k≠9):rowOk Tryz.prog t r=true:=by
 rw[nth_eq]at h
 have h1:(r,t)∈tab.zipIdx:=by
  rw[List.mem_zipIdx_iff_getElem?];exact h
 have h2:=List.all_eq_true.1 tab_all _ h1
 simp only[Bool.or_eq_true]at h2
 rcases h2 with h2|h2
 ·exact absurd (Nat.eq_of_beq_eq_true h2) h9
 ·exact h2
def globs (g:Nat):Option (List D):=match g with
 |0=>some [.lk .ai]
 |3=>some [.str (⟨#[]⟩:ByteArray),.str (⟨#[115,117,114,101]⟩:ByteArray),.str (⟨#[110,101,118,101,114]⟩:ByteArray),.str (⟨#[111,112,101,110]⟩:ByteArray)]
 |4=>some [.int .u64 1,.int .u64 10,.int .u64 100,.int .u64 1000,.int .u64 10000,.int .u64 100000,.int .u64 1000000,.int .u64 10000000,.int .u64 100000000,.int .u64 1000000000,.int .u64 10000000000,.int .u64 100000000000,.int .u64 1000000000000,.int .u64 10000000000000,.int .u64 100000000000000,.int .u64 1000000000000000,.int .u64 10000000000000000,.int .u64 100000000000000000,.int .u64 1000000000000000000,.int .u64 10000000000000000000]
 |5=>some [.str (⟨#[]⟩:ByteArray),.str (⟨#[116,104,105,110]⟩:ByteArray),.str (⟨#[109,97,114,107]⟩:ByteArray),.str (⟨#[115,116,97,108,101]⟩:ByteArray)]
 |8=>some [.int .i64 0,.int .i64 0,.int .i64 1,.int .i64 0,.int .i64 0,.int .i64 1,.int .i64 1,.int .i64 1]
 |9=>some [.lk .nn]
 |10=>some [.lk .nn]
 |_=>none
theorem globs_pure (g:Nat) (l:List D) (h:globs g=some l):PureL l:=by
 unfold globs at h
 split at h
 ·simp only[Option.some.injEq]at h;subst h
  repeat' first|exact PureL.nil|refine PureL.cons (.int _ _) ?_|refine PureL.cons (.str _) ?_|refine PureL.cons (.lk _) ?_
 ·simp only[Option.some.injEq]at h;subst h
  repeat' first|exact PureL.nil|refine PureL.cons (.int _ _) ?_|refine PureL.cons (.str _) ?_|refine PureL.cons (.lk _) ?_
 ·simp only[Option.some.injEq]at h;subst h
  repeat' first|exact PureL.nil|refine PureL.cons (.int _ _) ?_|refine PureL.cons (.str _) ?_|refine PureL.cons (.lk _) ?_
 ·simp only[Option.some.injEq]at h;subst h
  repeat' first|exact PureL.nil|refine PureL.cons (.int _ _) ?_|refine PureL.cons (.str _) ?_|refine PureL.cons (.lk _) ?_
 ·simp only[Option.some.injEq]at h;subst h
  repeat' first|exact PureL.nil|refine PureL.cons (.int _ _) ?_|refine PureL.cons (.str _) ?_|refine PureL.cons (.lk _) ?_
 ·simp only[Option.some.injEq]at h;subst h
  repeat' first|exact PureL.nil|refine PureL.cons (.int _ _) ?_|refine PureL.cons (.str _) ?_|refine PureL.cons (.lk _) ?_
 ·simp only[Option.some.injEq]at h;subst h
  repeat' first|exact PureL.nil|refine PureL.cons (.int _ _) ?_|refine PureL.cons (.str _) ?_|refine PureL.cons (.lk _) ?_
 ·cases h
def gszs (g:Nat):Option Nat:=match g with
 |4=>some 20
 |_=>none
theorem gszs_ok (g n:Nat) (h:gszs g=some n):∃ l,globs g=some l∧l≠[]:=by
 unfold gszs at h
 split at h
 ·exact⟨_,rfl,by simp⟩
 ·cases h
noncomputable def seat:Seat:={ P:=Tryz.prog,tab:=tab,glob:=globs,tabOk:=tab_ok,globPure:=globs_pure,mixed:=by kernel_rfl,gsz:=gszs,gszOk:=gszs_ok }
end Go.Proofs.YtbhjjkekphpldaaGreatDoor
namespace Go.Proofs.YtbhjjkekphpldaaGreatDoor
open Go Go.Ab
set_option linter.all false
set_option maxRecDepth 100000
def tys:List (Nat×T):=[(91,.clov .Region),(2,.int .i64),(3,.int .i64),(4,.bool),(5,.int .u8),(6,.int .u8),(9,.str),(10,.str),(11,.str),(12,.int .u64),(21,.int .i32),(22,.sl .Rech),(23,.Three),(25,.Survey),(27,.Span),(28,.sl .Share),(30,.Plate),(31,.sl .Account),(32,.sl .Mov),(34,.Book),(35,.sl .Path),(36,.sl .Post),(37,.sl .Span),(38,.sl .Chill),(40,.Rescue),(42,.Rules),(43,.sl .Driver),(45,.Scale),(47,.Allow),(49,.Region),(50,.sl (.int .i64)),(58,.Account),(60,.Chill),(61,.sl .Turn),(63,.Driver),(64,.int .i64),(72,.int .u64),(74,.Seed),(82,.Rech),(89,.sl .str),(90,.int .u64),(94,.sl .Truck),(96,.Convoy),(98,.sl .Hold),(100,.Truck),(111,.Share),(113,.Post),(119,.Path),(125,.Mov),(139,.Four),(152,.Ride),(154,.Hold),(157,.Two),(161,.Turn),(172,.sl (.int .u8)),(181,.err),(197,.sl .Look),(198,.sl .Mrk),(199,.sl .Rolling),(201,.Desk),(203,.Disp),(207,.Ord1),(246,.int .u32),(252,.Look),(256,.Mrk),(261,.Rolling),(264,.sl .Closure),(294,.Grnd),(302,.Closure),(311,.Shift),(318,.Meeting),(322,.Nearness),(323,.sl .Lanes),(326,.Track),(330,.Lanes),(335,.sl .Track),(342,.sl (.sl .Span)),(344,.Watch),(354,.sl .bool),(363,.Side),(365,.Scene),(379,.int .i64),(404,.Pair),(431,.Pair),(440,.Quad),(449,.int .u8),(450,.int .u8),(452,.int .i32),(453,.int .i32)]
def iks:List (Nat×IntKind):=[(2,.i64),(3,.i64),(5,.u8),(6,.u8),(12,.u64),(21,.i32),(64,.i64),(72,.u64),(90,.u64),(246,.u32),(379,.i64),(449,.u8),(450,.u8),(452,.i32),(453,.i32)]
def fls:List Nat:=[1,51,52,54,55,56,65,66,67,68,69,70,71,75,76,77,78,79,83,84,88,91,92,93,97,101,102,103,104,106,108,109,115,116,117,120,121,122,123,126,127,128,129,130,131,132,135,136,137,138,140,141,142,143,145,146,147,150,155,156,158,159,162,163,164,165,166,167,168,169,170,175,176,177,178,179,183,184,185,189,190,192,193,194,195,196,204,205,208,212,214,216,217,218,219,220,222,223,224,225,227,228,229,231,232,235,237,238,240,245,248,249,250,253,254,257,258,259,262,263,266,267,269,270,272,273,274,276,277,278,281,283,285,286,287,288,289,292,296,297,298,299,300,303,304,305,307,308,309,312,313,314,315,316,320,324,327,328,331,332,333,334,337,338,339,341,346,347,348,349,350,351,352,353,355,356,357,359,360,361,367,368,369,370,371,372,373,374,375,377,378,381,383,384,387,388,389,390,391,392,393,394,396,397,398,399,400,401,403,407,408,409,410,411,412,413,414,416,417,420,421,422,423,424,425,426,427,428,429,432,433,434,438,439,441,442,443,451]
def mps:List Nat:=[428]
def sls:List Nat:=[9,10,11]
def bls:List Nat:=[4]
def gls:List (Nat×List I):=[(0,[.lk .ai]),(3,[.str (⟨#[]⟩:ByteArray),.str (⟨#[115,117,114,101]⟩:ByteArray),.str (⟨#[110,101,118,101,114]⟩:ByteArray),.str (⟨#[111,112,101,110]⟩:ByteArray)]),(4,[.int .u64 1,.int .u64 10,.int .u64 100,.int .u64 1000,.int .u64 10000,.int .u64 100000,.int .u64 1000000,.int .u64 10000000,.int .u64 100000000,.int .u64 1000000000,.int .u64 10000000000,.int .u64 100000000000,.int .u64 1000000000000,.int .u64 10000000000000,.int .u64 100000000000000,.int .u64 1000000000000000,.int .u64 10000000000000000,.int .u64 100000000000000000,.int .u64 1000000000000000000,.int .u64 10000000000000000000]),(5,[.str (⟨#[]⟩:ByteArray),.str (⟨#[116,104,105,110]⟩:ByteArray),.str (⟨#[109,97,114,107]⟩:ByteArray),.str (⟨#[115,116,97,108,101]⟩:ByteArray)]),(8,[.int .i64 0,.int .i64 0,.int .i64 1,.int .i64 0,.int .i64 0,.int .i64 1,.int .i64 1,.int .i64 1]),(9,[.lk .nn]),(10,[.lk .nn])]
def ifs:List Nat:=[20,180,181]
def bts:List (Nat×Nat):=[(174,5)]
noncomputable def iseat:ISeat:=mkISeatI seat gls tys iks bls fls sls mps ifs bts (fun g h=>by cases g with|zero=>rfl|succ g=>cases g with|zero=>rfl|succ g=>cases g with|zero=>rfl|succ g=>cases g with|zero=>rfl|succ g=>cases g with|zero=>rfl|succ g=>cases g with|zero=>rfl|succ g=>cases g with|zero=>rfl|succ g=>cases g with|zero=>rfl|succ g=>cases g with|zero=>rfl|succ g=>cases g with|zero=>rfl|succ g=>cases g with|zero=>rfl|succ g=>rfl) (by kernel_rfl) (by kernel_rfl) (by kernel_rfl) (by kernel_rfl) (by kernel_rfl) (by kernel_rfl) (by kernel_rfl)
end Go.Proofs.YtbhjjkekphpldaaGreatDoor
