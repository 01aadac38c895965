/- Walks by computing: what each function of the program that the laws reach gives for what it gets, as plain Lean, and that it is so; without a condition but those that stand in each theorem. -/
import Derived.Test.YtbhjjkekphpldaaGreatDoorW1
import Derived.Test.YtbhjjkekphpldaaGreatDoorW2
import Derived.Test.YtbhjjkekphpldaaGreatDoorW3
import Derived.Test.YtbhjjkekphpldaaGreatDoorW4
import Derived.Test.YtbhjjkekphpldaaGreatDoorW5
import Derived.Test.YtbhjjkekphpldaaGreatDoorW6
import Derived.Test.YtbhjjkekphpldaaGreatDoorW7
import Derived.Test.YtbhjjkekphpldaaGreatDoorW8
import Derived.Test.YtbhjjkekphpldaaGreatDoorW9
import Derived.Test.YtbhjjkekphpldaaGreatDoorW10
import Derived.Test.YtbhjjkekphpldaaGreatDoorW11
set_option linter.all false
namespace Go.Proofs.fu
open Go Go.Ab
set_option linter.all false
set_option maxRecDepth 100000
def av {α:Type} (x y:Option α):Prop:=∃ a,x=some a∧y=some a
section
variable {α β γ δ:Type}{x x' y y':Option α}
theorem av.s {a:α}:av (some a) (some a):=⟨a,rfl,rfl⟩
theorem av.l {c:Bool} (h1:c=true→av x y) (h2:c=false→av x' y):av (bif c then x else x') y:=by
 cases c with
 |true=>exact h1 rfl
 |false=>exact h2 rfl
theorem av.r {c:Bool} (h1:c=true→av x y) (h2:c=false→av x y'):av x (bif c then y else y'):=by
 cases c with
 |true=>exact h1 rfl
 |false=>exact h2 rfl
theorem av.c {c:Bool} (h1:av x y) (h2:av x' y'):av (bif c then x else x') (bif c then y else y'):=by
 cases c with
 |true=>exact h1
 |false=>exact h2
theorem av.h {c:Bool} (h1:c=true→av x y) (h2:c=false→av x' y'):av (bif c then x else x') (bif c then y else y'):=by
 cases c with
 |true=>exact h1 rfl
 |false=>exact h2 rfl
theorem av.cl {b:Bool} (hb:b=true) (h:av x y):av (ao b x) y:=by subst hb;exact h
theorem av.cr {b:Bool} (hb:b=true) (h:av x y):av x (ao b y):=by subst hb;exact h
theorem av.b {u v:Option β}{f g:β→Option α} (h:av u v) (hf:∀ a,u=some a→v=some a→av (f a) (g a)):av (u.bind f) (v.bind g):=by
 obtain ⟨a,h1,h2⟩:=h
 rw[h1,h2]
 exact hf a h1 h2
theorem av.rounds {F:γ→(γ→Option α)→Option α}{G:δ→(δ→Option α)→Option α}{v0:γ}{w0:δ} (inv:γ→δ→Prop) (μ:γ→Nat) (Fo:μ v0<iM) (h0:inv v0 w0)
  (step:∀ v w kn km,inv v w→(∀ v' w',inv v' w'→μ v'<μ v→av (kn v') (km w'))→av (F v kn) (G w km)):av (aB γ F v0) (aB δ G w0):=by
 have key:∀ n v w,inv v w→μ v<n→av (iter F n v) (iter G n w):=by
  intro n
  induction n with
  |zero=>intro v w _ h;omega
  |succ n ih =>
   intro v w hv hn
   exact step v w (iter F n) (iter G n) hv fun v' w' kD cz=>ih v' w' kD (by omega)
 exact key iM v0 w0 h0 Fo
end
theorem fV {n:Nat} (h:n≤1000000000):n<iM:=by unfold iM;omega
def cu (n lo hi:Int):Bool:=decide (lo≤n)&&decide (n≤hi)
theorem W7 (n lo hi:Int):f60 n lo hi=some (cu n lo hi):=by
 rw[aiF];unfold Tu cu
 cases decide (lo≤n)<;>rfl
theorem LX (n lo hi:Int):f53 n lo hi=some (cu n lo hi):=by
 rw[W6];unfold Tt cu
 cases decide (lo≤n)<;>rfl
theorem w1 {i:Int}{n:Nat} (h0:0≤i) (h1:i<n) (hn:n≤1000000):aj (i+1)=i+1:=b7 (by omega) (by omega)
theorem w2 {i:Int}{n:Nat} (h0:0≤i) (h1:i<n) (hn:n≤1000000):aj (i - 1)=i - 1:=b7 (by omega) (by omega)
theorem lD {i:Int}{n:Nat} (h0:0≤i) (h1:i<n):(decide (0≤i)&&decide (i<(n:Int)))=true:=by simp;omega
abbrev R1:=(Int×Unit)×Unit
abbrev R2:=(Unit×Int×Unit)×Unit
abbrev R3:=(Int×Int×Unit)×Unit
abbrev R4:=(Unit×Int×Int×Unit)×Unit
theorem Wi (s:aI) (h:s.Reaches.length≤1000000):av (f61 s) (f15 s):=by
 rw[aiG,WT];unfold Tv LU
 refine av.rounds (fun (v:R3) (w:R4)=>v.1.1=w.1.2.1∧v.1.2.1=w.1.2.2.1∧0≤v.1.2.1∧v.1.2.1≤s.Reaches.length) (fun v=>(s.Reaches.length - v.1.2.1).toNat) (fV (by simp only;omega)) ⟨rfl,rfl,by simp,by simp⟩ ?_
 rintro ⟨⟨n,i,_⟩,_⟩ ⟨⟨_,n',i',_⟩,_⟩ kn km ⟨e1,e2,h0,h1⟩ H
 simp only at e1 e2 h0 h1 ⊢
 subst e1 e2
 unfold W8 LV
 refine av.h (fun hc=>?_) fun hc=>?_
 ·have hi:=of_decide_eq_true hc
  refine av.cl (lD h0 hi) (av.cr (lD h0 hi) ?_)
  rw[w1 h0 hi h]
  exact H _ _ ⟨rfl,rfl,by simp only;omega,by simp only;omega⟩ (by simp only;omega)
 ·exact av.s
theorem Wh (s:aI) (h:s.Reaches.length≤1000000):av (f26 s) (f16 s):=by
 rw[aif,aid];unfold SX SV
 refine av.c av.s (av.c av.s ?_)
 refine av.rounds (fun (v:R2) (w:R2)=>v.1.2.1=w.1.2.1∧0≤v.1.2.1∧v.1.2.1≤s.Reaches.length) (fun v=>(s.Reaches.length - v.1.2.1).toNat) (fV (by simp only;omega)) ⟨rfl,by simp,by simp⟩ ?_
 rintro ⟨⟨_,i,_⟩,_⟩ ⟨⟨_,i',_⟩,_⟩ kn km ⟨e2,h0,h1⟩ H
 simp only at e2 h0 h1 ⊢
 subst e2
 unfold WW WU
 refine av.h (fun hc=>?_) fun hc=>?_
 ·have hi:=of_decide_eq_true hc
  refine av.cl (lD h0 hi) (av.cr (lD h0 hi) ?_)
  simp only[W7,LX,Option.bind_some,w1 h0 hi h]
  refine av.c av.s (av.c av.s (av.c av.s (av.c av.s (av.c av.s ?_))))
  exact H _ _ ⟨rfl,by simp only;omega,by simp only;omega⟩ (by simp only;omega)
 ·refine av.b (Wi s h) fun n _ _=>av.c av.s ?_
  refine av.rounds (fun (v:R1) (w:R2)=>v.1.1=w.1.2.1∧0≤v.1.1∧v.1.1≤3) (fun v=>(3 - v.1.1).toNat) (fV (by simp only;omega)) ⟨rfl,by decide,by decide⟩ ?_
  rintro ⟨⟨i,_⟩,_⟩ ⟨⟨_,i',_⟩,_⟩ kn km ⟨e2,h0,h1⟩ H
  simp only at e2 h0 h1 ⊢
  subst e2
  unfold Qq Qp
  refine av.h (fun hc=>?_) fun hc=>?_
  ·have hi:=of_decide_eq_true hc
   simp only[W7,LX,Option.bind_some,w1 (n:=3) h0 hi (by decide)]
   have hk:=H ((i+1,()),()) (((),i+1,()),()) ⟨rfl,by simp only;omega,by simp only;omega⟩ (by simp only;omega)
   refine av.h (fun _=>av.c av.s hk) fun a=>av.h (fun _=>av.c av.s hk) fun b=>av.h (fun _=>av.c av.s hk) fun c=>?_
   simp only[beq_eq_false_iff_ne,ne_eq]at a b c
   omega
  ·exact av.s
def gm (x:Span) (lo hi:Int):Int:=bif !(cu x.Lo lo hi&&cu x.Hi lo hi) then 2 else bif decide (x.Lo > x.Hi) then 11 else 0
theorem vU (n lo hi:Int):f83 n lo hi=some (!cu n lo hi):=by
 rw[LZ];unfold TP cu
 by_cases h:n<lo
 ·have:¬ lo≤n:=by omega
  simp[h,this]
 ·have h2:lo≤n:=by omega
  by_cases h3:n > hi
  ·have:¬ n≤hi:=by omega
   simp[h,h2,h3,this]
  ·have:n≤hi:=by omega
   simp[h,h2,h3,this]
theorem aiL (n lo hi:Int):f64 n lo hi=some (cu n lo hi):=by
 rw[aiK];unfold Ty cu
 cases decide (lo≤n)<;>rfl
theorem X4 (n lo hi:Int):decide (n<lo)=true∨decide (n > hi)=true↔cu n lo hi=false:=by
 simp only[cu,decide_eq_true_eq,Bool.and_eq_false_iff,decide_eq_false_iff_not];omega
theorem art {α:Type} (a b c d:Bool) (x y:α):(bif a then x else bif b then x else bif c then x else bif d then x else y)=bif a || b || c || d then x else y:=by cases a<;>cases b<;>cases c<;>cases d<;>rfl
theorem G8 (n lo hi:Int):(decide (n<lo) || decide (n > hi))=!cu n lo hi:=by
 rw[Bool.eq_iff_iff];simp only[Bool.or_eq_true,X4,Bool.not_eq_true']
theorem aiI (x:Span) (lo hi:Int):f62 x lo hi=some (gm x lo hi):=by
 rw[aiH];unfold Tw gm
 rw[art,Bool.or_assoc,G8,G8,← Bool.not_and]
 cases !(cu x.Lo lo hi&&cu x.Hi lo hi)<;>cases decide (x.Lo > x.Hi)<;>rfl
theorem Xg (x:Span) (lo hi:Int):f81 x lo hi=some (gm x lo hi):=by
 rw[Xf];unfold LY gm
 simp only[vU,Option.bind_some]
 cases cu x.Lo lo hi<;>cases cu x.Hi lo hi<;>cases decide (x.Lo > x.Hi)<;>rfl
theorem Wj (l:List bq) (h:l.length≤1000000):av (f63 l) (f82 l):=by
 rw[aiJ,ai5];unfold Tx TO
 refine av.c av.s (av.c av.s ?_)
 refine av.rounds (fun (v:R1) (w:R1)=>v.1.1=w.1.1∧0≤v.1.1∧v.1.1≤l.length) (fun v=>(l.length - v.1.1).toNat) (fV (by simp only;omega)) ⟨rfl,by simp,by simp⟩ ?_
 rintro ⟨⟨i,_⟩,_⟩ ⟨⟨i',_⟩,_⟩ kn km ⟨e2,h0,h1⟩ H
 simp only at e2 h0 h1 ⊢
 subst e2
 unfold W9 Xh
 refine av.h (fun hc=>?_) fun hc=>av.s
 have hi:=of_decide_eq_true hc
 have hk:=H ((i+1,()),()) ((i+1,()),()) ⟨rfl,by simp only;omega,by simp only;omega⟩ (by simp only;omega)
 simp only[vU,Option.bind_some,w1 h0 hi h,w2 h0 hi h,lD h0 hi,← G8]
 generalize (l.getD i.toNat aM).bu=a
 generalize (l.getD i.toNat aM).Part=b
 generalize (l.getD (i - 1).toNat aM)=q
 have c0:∀ {x:Option Int},ao true x=x:=rfl
 by_cases e:i=0
 ·subst e
  simp only[beq_self_eq_true,show decide ((0:Int) > 0)=false from rfl,cond_true,cond_false,c0]
  cases decide (a<0)<;>cases decide (a > 10000)<;>cases a != 0<;>cases decide (b<0)<;>cases decide (b > 1000000)<;>cases b != 1000000<;>first|exact av.s|exact hk
 ·have e1:(i == 0)=false:=by simp[e]
  have e2:decide (i > 0)=true:=by simp;omega
  have e3:(decide (0≤i - 1)&&decide (i - 1<(l.length:Int)))=true:=by simp;omega
  simp only[e1,e2,e3,cond_true,cond_false,c0]
  cases decide (a<0)<;>cases decide (a > 10000)<;>cases decide (a≤q.bu)<;>cases decide (b<0)<;>cases decide (b > 1000000)<;>cases decide (b > q.Part)<;>first|exact av.s|exact hk
theorem ahz (p:aN) (h1:p.fS.length≤1000000) (h2:p.iv.length≤1000000):av (f28 p) (f42 p):=by
 rw[aii,aiw];unfold SZ Tk
 simp only[aiI,Xg,aiL,vU,Option.bind_some]
 refine av.c av.s (av.b (Wj _ h1) fun _ _ _=>av.c av.s (av.b (Wj _ h2) fun _ _ _=>av.c av.s ?_))
 cases cu p.vi 0 10000<;>cases cu p.Edge 0 1000000<;>cases cu p.jS 1 1000<;>cases cu p.pA 1 4000000<;>cases cu p.kZ 1 4000000<;>cases cu p.kl 0 10000<;>cases cu p.ko 0 1000000<;>cases decide (p.pA > p.kZ)<;>exact av.s
end Go.Proofs.fu
namespace Go.Proofs.fu
open Go Go.Ab
set_option linter.all false
set_option maxRecDepth 100000
theorem akz {α γ:Type}{F:γ→(γ→Option α)→Option α}{v0:γ}{r:Option α} (h:∀ kn,F v0 kn=r):aB γ F v0=r:=h _
theorem Xa (n lo hi:Int):f65 n lo hi=some (cu n lo hi):=by
 rw[aiM];unfold Tz cu
 cases decide (lo≤n)<;>rfl
theorem Xi (n lo hi:Int):f84 n lo hi=some (cu n lo hi):=by
 rw[ai6];unfold TQ cu
 cases decide (lo≤n)<;>rfl
theorem ahG (c:bI) (p:Span):av (f66 c ⟨1,0,p,[]⟩) (f85 c ⟨1,0,p,[]⟩):=by
 rw[aiN,ai7];unfold TA TR
 simp only[Xa,Xi,Option.bind_some,show cu 1 1 2=true from rfl,show cu 0 0 10000=true from rfl,show ((1:Int) != 1)=false from rfl,Bool.not_true,cond_true,cond_false]
 refine av.c av.s (av.c av.s (av.c av.s (av.c av.s (av.c av.s (av.c av.s ?_)))))
 rw[akz (r:=some 0) fun kn=>rfl,akz (r:=some 0) fun kn=>rfl]
 exact av.s
theorem ahA (n g f:Int) (p:Span):av (f30 ⟨n,g,f,[⟨1,0,p,[]⟩]⟩) (f43 ⟨n,g,f,[⟨1,0,p,[]⟩]⟩):=by
 rw[aik,aix];unfold S6 Tl
 simp only[Xa,Xi,Option.bind_some]
 refine av.c av.s (av.c av.s (av.c av.s (av.c av.s ?_)))
 refine av.rounds (fun (v:R2) (w:R2)=>v.1.2.1=w.1.2.1∧(v.1.2.1=0∨v.1.2.1=1)) (fun v=>(1 - v.1.2.1).toNat) (fV (by simp only;omega)) ⟨rfl,.inl rfl⟩ ?_
 rintro ⟨⟨_,i,_⟩,_⟩ ⟨⟨_,i',_⟩,_⟩ kn km ⟨e2,h1⟩ H
 simp only at e2 h1 ⊢
 subst e2
 unfold WX W3
 rcases h1 with rfl|rfl
 ·exact av.b (ahG _ p) fun a _ _=>av.c av.s (H _ _ ⟨rfl,.inr rfl⟩ Nat.zero_lt_one)
 ·exact av.s
theorem ahH (r:Region) (h:r.aI.Reaches.length≤1000000):av (f67 r) (f15 r.aI):=by
 rw[aiO,WT];unfold TB LU
 refine av.rounds (fun (v:R3) (w:R4)=>v.1.1=w.1.2.1∧v.1.2.1=w.1.2.2.1∧0≤v.1.2.1∧v.1.2.1≤r.aI.Reaches.length) (fun v=>(r.aI.Reaches.length - v.1.2.1).toNat) (fV (by simp only;omega)) ⟨rfl,rfl,by simp,by simp⟩ ?_
 rintro ⟨⟨n,i,_⟩,_⟩ ⟨⟨_,n',i',_⟩,_⟩ kn km ⟨e1,e2,h0,h1⟩ H
 simp only at e1 e2 h0 h1 ⊢
 subst e1 e2
 unfold Xb LV
 refine av.h (fun hc=>?_) fun hc=>av.s
 have hi:=of_decide_eq_true hc
 refine av.cl (lD h0 hi) (av.cr (lD h0 hi) ?_)
 rw[w1 h0 hi h]
 exact H _ _ ⟨rfl,rfl,by simp only;omega,by simp only;omega⟩ (by simp only;omega)
end Go.Proofs.fu
namespace Go.Proofs.fu
open Go Go.Ab
set_option linter.all false
set_option maxRecDepth 100000
theorem gu {α β:Type}{c:Bool}{x y:Option α}{k:α→Option β}:(bif c then x else y).bind k=bif c then x.bind k else y.bind k:=by cases c<;>rfl
theorem jc {α:Type}{x:Option α}:ao true x=x:=rfl
theorem av.RC {α β γ δ:Type}{F:γ→(γ→Option α)→Option α}{G:δ→(δ→Option β)→Option β}{k:β→Option α}{v0:γ}{w0:δ} (inv:γ→δ→Prop) (μ:γ→Nat) (Fo:μ v0<iM) (h0:inv v0 w0)
  (step:∀ v w kn km,inv v w→(∀ v' w',inv v' w'→μ v'<μ v→av (kn v') ((km w').bind k))→av (F v kn) ((G w km).bind k)):av (aB γ F v0) ((aB δ G w0).bind k):=by
 have key:∀ n v w,inv v w→μ v<n→av (iter F n v) ((iter G n w).bind k):=by
  intro n
  induction n with
  |zero=>intro v w _ h;omega
  |succ n ih =>
   intro v w hv hn
   exact step v w (iter F n) (iter G n) hv fun v' w' kD cz=>ih v' w' kD (by omega)
 exact key iM v0 w0 h0 Fo
theorem zz (n lo hi:Int):f70 n lo hi=some (cu n lo hi):=by
 rw[aiS];unfold TE cu
 cases decide (lo≤n)<;>rfl
theorem zA (n lo hi:Int):f90 n lo hi=some (!cu n lo hi):=by
 rw[ajc,← vU,LZ];rfl
theorem Bq (x:Span) (lo hi:Int):f106 x lo hi=some (gm x lo hi):=by
 rw[afs];unfold Jr gm
 simp only[zz,Option.bind_some]
 cases cu x.Lo lo hi<;>cases cu x.Hi lo hi<;>cases decide (x.Lo > x.Hi)<;>rfl
theorem Br (x:Span) (lo hi:Int):f116 x lo hi=some (gm x lo hi):=by
 rw[afC,← Xg,Xf];unfold JA LY
 simp only[zA,vU]
theorem KV (l:List Span) (m lo hi:Int) (h:l.length≤1000000):av (f73 l m lo hi) (f93 l m lo hi):=by
 rw[aiV,ajf];unfold TH TY
 refine av.c av.s ?_
 refine av.rounds (fun (v:R1) (w:R1)=>v.1.1=w.1.1∧0≤v.1.1∧v.1.1≤l.length) (fun v=>(l.length - v.1.1).toNat) (fV (by simp only;omega)) ⟨rfl,by simp,by simp⟩ ?_
 rintro ⟨⟨i,_⟩,_⟩ ⟨⟨i',_⟩,_⟩ kn km ⟨e2,h0,h1⟩ H
 simp only at e2 h0 h1 ⊢
 subst e2
 unfold Xd Xo
 refine av.h (fun hc=>?_) fun hc=>av.s
 have hi:=of_decide_eq_true hc
 simp only[Bq,Br,Option.bind_some,lD h0 hi,w1 h0 hi h,jc]
 exact av.c av.s (H _ _ ⟨rfl,by simp only;omega,by simp only;omega⟩ (by simp only;omega))
theorem ahI (l:List cd) (h:l.length≤1000000):av (f74 l) (f94 l):=by
 rw[aiW,ajg];unfold TI TZ
 refine av.c av.s (av.c av.s ?_)
 refine av.rounds (fun (v:R1) (w:R1)=>v.1.1=w.1.1∧0≤v.1.1∧v.1.1≤l.length) (fun v=>(l.length - v.1.1).toNat) (fV (by simp only;omega)) ⟨rfl,by simp,by simp⟩ ?_
 rintro ⟨⟨i,_⟩,_⟩ ⟨⟨i',_⟩,_⟩ kn km ⟨e2,h0,h1⟩ H
 simp only at e2 h0 h1 ⊢
 subst e2
 unfold Xe Xp
 refine av.h (fun hc=>?_) fun hc=>av.s
 have hi:=of_decide_eq_true hc
 have hk:=H ((i+1,()),()) ((i+1,()),()) ⟨rfl,by simp only;omega,by simp only;omega⟩ (by simp only;omega)
 simp only[zz,zA,Bq,Br,Option.bind_some,w1 h0 hi h,w2 h0 hi h,lD h0 hi]
 generalize (l.getD i.toNat aR)=a
 generalize (l.getD (i - 1).toNat aR)=q
 by_cases e:i=0
 ·subst e
  simp only[beq_self_eq_true,show decide ((0:Int) > 0)=false from rfl,cond_true,cond_false,jc]
  cases cu a.kv (-400) 400<;>cases a.kv != (-400)<;>cases gm a.bp 0 5000 != 0<;>first|exact av.s|exact hk
 ·have e1:(i == 0)=false:=by simp[e]
  have e2:decide (i > 0)=true:=by simp;omega
  have e3:(decide (0≤i - 1)&&decide (i - 1<(l.length:Int)))=true:=by simp;omega
  simp only[e1,e2,e3,cond_true,cond_false,jc]
  cases cu a.kv (-400) 400<;>cases decide (a.kv≤q.kv)<;>cases gm a.bp 0 5000 != 0<;>cases decide (a.bp.Lo<q.bp.Lo)<;>cases decide (a.bp.Hi<q.bp.Hi)<;>first|exact av.s|exact hk
def wY (r:aw):Prop:=r.eF.length≤1000000∧r.cT.length≤1000000∧r.jb.length≤1000000∧r.eR.length≤1000000∧∀ i<r.cT.length,(r.cT.getD i ey).nX.length≤1000000
theorem ahC (r:aw) (hs:wY r):av (f35 r) (f46 r):=by
 obtain ⟨s1,s2,s3,s4,s5⟩:=hs
 rw[aip,aiA];unfold Td Tp
 simp only[zz,zA,Option.bind_some]
 refine av.c av.s ?_
 rw[ajd];unfold TW
 rw[gu]
 refine av.c av.s ?_
 refine av.RC (fun (v:R2) (w:R2)=>v.1.2.1=w.1.2.1∧0≤v.1.2.1∧v.1.2.1≤r.eF.length) (fun v=>(r.eF.length - v.1.2.1).toNat) (fV (by simp only;omega)) ⟨rfl,by simp,by simp⟩ ?_
 rintro ⟨⟨_,i,_⟩,_⟩ ⟨⟨_,i',_⟩,_⟩ kn km ⟨e2,h0,h1⟩ H
 simp only at e2 h0 h1 ⊢
 subst e2
 unfold WZ Xm
 rw[gu]
 refine av.h (fun hc=>?_) fun hc=>?_
 ·have hi:=of_decide_eq_true hc
  have hk:=H (((),i+1,()),()) (((),i+1,()),()) ⟨rfl,by simp only;omega,by simp only;omega⟩ (by simp only;omega)
  rw[aiT];unfold TF
  simp only[zz,zA,Bq,Br,Option.bind_some,w1 h0 hi s1,lD h0 hi,jc,gu]
  generalize (r.eF.getD i.toNat ia)=p
  cases cu p.A 0 (aj (r.eX - 1))<;>cases cu p.B 0 (aj (r.eX - 1))<;>cases p.A == p.B<;>cases hq:gm p.Time 0 5000 != 0<;>cases cu p.Open 1 3<;>simp only[Bool.not_true,Bool.not_false,cond_true,cond_false,Option.bind_some,hq]<;>first|exact av.s|exact hk
 ·simp only[Option.bind_some,show ((0:Int) != 0)=false from rfl,cond_false]
  rw[aje];unfold TX
  rw[gu]
  refine av.c av.s ?_
  refine av.RC (fun (v:R2) (w:R2)=>v.1.2.1=w.1.2.1∧0≤v.1.2.1∧v.1.2.1≤r.cT.length) (fun v=>(r.cT.length - v.1.2.1).toNat) (fV (by simp only;omega)) ⟨rfl,by simp,by simp⟩ ?_
  rintro ⟨⟨_,i,_⟩,_⟩ ⟨⟨_,i',_⟩,_⟩ kn km ⟨e2,h0,h1⟩ H
  simp only at e2 h0 h1 ⊢
  subst e2
  unfold Qr Xn
  rw[gu]
  refine av.h (fun hc=>?_) fun hc=>?_
  ·have hi:=of_decide_eq_true hc
   have hk:=H (((),i+1,()),()) (((),i+1,()),()) ⟨rfl,by simp only;omega,by simp only;omega⟩ (by simp only;omega)
   have ha:=s5 i.toNat (by omega)
   rw[aiU];unfold TG
   obtain ⟨a0,x0,y0⟩:=KV (r.cT.getD i.toNat ey).nX 0 0 5000 ha
   obtain ⟨a1,x1,y1⟩:=KV (r.cT.getD i.toNat ey).nX r.eX 0 5000 ha
   simp only[zz,zA,Bq,Br,Option.bind_some,w1 h0 hi s2,lD h0 hi,jc,gu,x0,y0,x1,y1]
   generalize (r.cT.getD i.toNat ey)=p
   by_cases e:p.jG=0
   ·simp only[e,show cu 0 0 3=true from rfl,show ((0:Int) != 0)=false from rfl,show ((0:Int) == 0)=true from rfl]
    cases cu p.Gs 0 (aj (r.eX - 1))<;>cases hq:gm p.uq 0 5000 != 0<;>cases cu p.bu 0 1439<;>cases cu p.To 0 1439<;>cases hz:a0 != 0<;>simp only[Bool.not_true,Bool.not_false,cond_true,cond_false,Option.bind_some,hq,hz]<;>first|exact av.s|exact hk
   ·have q1:(p.jG != 0)=true:=by simp[e]
    have q2:(p.jG == 0)=false:=by simp[e]
    have q3:cu p.jG 0 3=cu p.jG 1 3:=by
     rw[Bool.eq_iff_iff];simp only[cu,Bool.and_eq_true,decide_eq_true_eq];omega
    simp only[q1,q2,q3]
    cases cu p.Gs 0 (aj (r.eX - 1))<;>cases hq:gm p.uq 0 5000 != 0<;>cases cu p.bu 0 1439<;>cases cu p.To 0 1439<;>cases cu p.jG 1 3<;>cases hz:a1 != 0<;>simp only[Bool.not_true,Bool.not_false,cond_true,cond_false,Option.bind_some,hq,hz]<;>first|exact av.s|exact hk
  ·simp only[Option.bind_some,show ((0:Int) != 0)=false from rfl,cond_false]
   exact av.b (KV _ _ _ _ s3) fun _ _ _=>av.c av.s (av.b (ahI _ s4) fun _ _ _=>av.s)
end Go.Proofs.fu
namespace Go.Proofs.fu
open Go Go.Ab
set_option linter.all false
set_option maxRecDepth 100000
theorem Ly {α:Type}{p:α→Bool}:∀ {l:List α},(∀ b∈l.dropWhile p,p b=true)→∀ b∈l,p b=true
 |[],_,b,hb=>by cases hb
 |a::l,h,b,hb=>by
  cases ha:p a with
  |false =>
   rw[List.dropWhile_cons_of_neg (by rw[ha];simp)]at h
   exact h b hb
  |true =>
   rw[List.dropWhile_cons_of_pos ha]at h
   rcases List.mem_cons.1 hb with rfl|hb
   ·exact ha
   ·exact Ly h b hb
theorem WB {α:Type}{p:α→Bool}:∀ {l:List α},(∀ b∈l,p b=true)→l.dropWhile p=[]
 |[],_=>rfl
 |a::l,h=>by
  rw[List.dropWhile_cons_of_pos (h a (List.mem_cons_self ..))]
  exact WB fun b hb=>h b (List.mem_cons_of_mem _ hb)
theorem ZA (l cs:List UInt8):Lib.trimS l cs=[]↔∀ b∈l,cs.contains b=true:=by
 unfold Lib.trimS Lib.trimLeftS Lib.trimRightS
 constructor
 ·intro h
  have h1:∀ b∈(l.reverse.dropWhile (cs.contains ·)).reverse,cs.contains b=true:=Ly (p:=(cs.contains ·)) (by rw[h];intro b hb;cases hb)
  have h2:=Ly (p:=(cs.contains ·)) (l:=l.reverse) (fun b hb=>h1 b (by simpa using hb))
  exact fun b hb=>h2 b (by simpa using hb)
 ·intro h
  have:l.reverse.dropWhile (cs.contains ·)=[]:=WB (p:=(cs.contains ·)) fun b hb=>h b (by simpa using hb)
  rw[this];rfl
def az:ByteArray:=⟨#[97,98,99,100,101,102,103,104,105,106,107,108,109,110,111,112,113,114,115,116,117,118,119,120,121,122]⟩
def pX (b:UInt8):Bool:=decide (97≤b.toNat)&&decide (b.toNat≤122)
theorem azc:∀ n:Fin 256,az.data.toList.contains (UInt8.ofNat n.val)=(decide (97≤n.val)&&decide (n.val≤122)):=by decide +kernel
theorem We (b:UInt8):az.data.toList.contains b=pX b:=by
 have h:=azc ⟨b.toNat,b.toNat_lt⟩
 simp only[UInt8.ofNat_toNat]at h
 exact h
def jv (s:ByteArray):Bool:=s.data.toList.all pX
theorem acC (s:ByteArray) (hs:s.size≤1000000):cZ.trim s az=some (cZ.x7 s az):=by
 rw[cZ.RP]
 have h:cZ.wu s az=true:=by
  unfold cZ.wu
  rw[decide_eq_true (show s.size≤9223372036854775807 by omega)]
  decide +kernel
 rw[h];rfl
theorem Pv (s:ByteArray):((cZ.x7 s az).toList == (⟨#[]⟩:ByteArray).toList)=jv s:=by
 rw[Lib.toList_data,Lib.toList_data]
 have:(cZ.x7 s az).data.toList=Lib.trimS s.data.toList az.data.toList:=by simp[cZ.x7]
 rw[this]
 have hi:=ZA s.data.toList az.data.toList
 cases ha:jv s with
 |true =>
  unfold jv at ha
  rw[List.all_eq_true]at ha
  rw[hi.2 fun b hb=>by rw[We];exact ha b hb]
  rfl
 |false =>
  have cx:Lib.trimS s.data.toList az.data.toList≠[]:=fun he=>by
   have h2:=hi.1 he
   have:jv s=true:=by
    unfold jv
    rw[List.all_eq_true]
    intro b hb
    rw[← We];exact h2 b hb
   rw[this]at ha;cases ha
  simpa using cx
theorem Sz {R:Type}{s:ByteArray}{i:Nat} (h:i<s.size) (k:Int→Option R):mH s i k=k (s.data.toList[i]'(by simpa using h)).toNat:=by
 have:s[i]?=some (s.data.toList[i]'(by simpa using h)):=by
  rw[getElem?_pos s i h]
  congr 1
 unfold mH
 rw[this]
theorem CJ {γ:Type}{F:γ→(γ→Option Bool)→Option Bool}{v0:γ} (s:ByteArray) (e:Bool) (inv:γ→Nat→Prop) (h0:inv v0 0) (hs:s.size≤1000000)
  (hi:∀ v n kn,inv v n→∀ h:n<s.data.toList.length,(pX s.data.toList[n]=false→F v kn=some false)∧(pX s.data.toList[n]=true→∃ v',inv v' (n+1)∧F v kn=kn v'))
  (he:∀ v kn,inv v s.size→F v kn=some e):aB γ F v0=some (jv s&&e):=by
 have hlen:s.data.toList.length=s.size:=by simp
 have key:∀ m v n,inv v n→(s.data.toList.take n).all pX=true→n≤s.size→s.size - n<m→iter F m v=some (jv s&&e):=by
  intro m
  induction m with
  |zero=>intro v n _ _ _ h;omega
  |succ m ih =>
   intro v n hv h1 h2 h3
   show F v (iter F m)=_
   by_cases hc:n<s.size
   ·have hl:n<s.data.toList.length:=by omega
    obtain ⟨a1,a2⟩:=hi v n (iter F m) hv hl
    have G5:s.data.toList[n]∈s.data.toList:=List.getElem_mem hl
    cases hb:pX s.data.toList[n] with
    |false =>
     rw[a1 hb]
     have:jv s=false:=by
      unfold jv
      rw[List.all_eq_false]
      exact⟨_,G5,by rw[hb];simp⟩
     rw[this];rfl
    |true =>
     obtain ⟨v',b1,b2⟩:=a2 hb
     rw[b2]
     refine ih v' (n+1) b1 ?_ (by omega) (by omega)
     rw[List.take_succ,List.getElem?_eq_getElem hl,List.all_append,h1]
     simp only[Option.toList,List.all_cons,List.all_nil,hb,Bool.and_self]
   ·have h4:n=s.size:=by omega
    subst h4
    rw[he v _ hv]
    rw[← hlen,List.take_length]at h1
    have:jv s=true:=h1
    rw[this];rfl
 refine key iM v0 0 h0 rfl (by omega) ?_
 unfold iM;omega
theorem Ye {b:UInt8} (h:decide ((b.toNat:Int)<97)=true):pX b=false:=by
 have:=of_decide_eq_true h
 unfold pX;rw[decide_eq_false (show ¬ 97≤b.toNat by omega)];rfl
theorem Yc {b:UInt8} (h:decide ((b.toNat:Int) > 122)=true):pX b=false:=by
 have:=of_decide_eq_true h
 unfold pX;rw[decide_eq_false (show ¬ b.toNat≤122 by omega),Bool.and_false]
theorem Yd {b:UInt8} (h1:decide ((b.toNat:Int)<97)=false) (h2:decide ((b.toNat:Int) > 122)=false):pX b=true:=by
 have:=of_decide_eq_false h1
 have:=of_decide_eq_false h2
 unfold pX;rw[decide_eq_true (show 97≤b.toNat by omega),decide_eq_true (show b.toNat≤122 by omega)];rfl
theorem RA (s:ByteArray) {i:Int}{n:Nat} (hn:n<s.data.toList.length) (eJ:i=n) (hs:s.size≤1000000) (kn:Int→Option Bool) :
  (ao (decide (0≤i)) <| mH s i.toNat fun b=>bif decide (b<97) then some false else ao (decide (0≤i)) <| mH s i.toNat fun b2=>bif decide (b2 > 122) then some false else kn (aj (i+1)))=bif pX s.data.toList[n] then kn (i+1) else some false:=by
 subst eJ
 have od:n<s.size:=by simpa using hn
 have h1:decide ((0:Int)≤(n:Int))=true:=by simp
 simp only[h1,Int.toNat_natCast,Sz od,jc]
 rw[b7 (by omega) (by omega)]
 generalize s.data.toList[n]=b
 cases h1:decide ((b.toNat:Int)<97) with
 |true=>rw[Ye h1];rfl
 |false =>
  cases h2:decide ((b.toNat:Int) > 122) with
  |true=>rw[Yc h2];rfl
  |false=>rw[Yd h1 h2];rfl
def BB (s:ByteArray):Bool:=jv s&&cu s.size 1 8
theorem afE (s:ByteArray) (hs:s.size≤1000000):f117 s=some (BB s):=by
 rw[afD];unfold JB
 refine CJ (γ:=R1) s (cu s.size 1 8) (fun v n=>v.1.1=n) rfl hs ?_ ?_
 ·rintro ⟨⟨i,_⟩,_⟩ n kn hv h
  simp only at hv
  unfold G0
  rw[show decide (i<(s.size:Int))=true by simp;simp at h;omega,cond_true,RA s h hv hs (fun y=>kn ((y,()),()))]
  refine ⟨fun hb=>by rw[hb];rfl,fun hb=>⟨((i+1,()),()),by simp only;omega,by rw[hb];rfl⟩⟩
 ·rintro ⟨⟨i,_⟩,_⟩ kn hv
  simp only at hv
  unfold G0 cu
  rw[show decide (i<(s.size:Int))=false by simp;omega,cond_false]
  cases h:decide ((1:Int)≤s.size) with
  |true=>rfl
  |false=>rfl
theorem WR (s:ByteArray) (hs:s.size≤1000000):aB R1 (fun v kn=>vT s v.1.1 (fun y0=>kn ((y0,()),()))) ((0,()),())=some (jv s&&true):=by
 refine CJ (γ:=R1) s true (fun v n=>v.1.1=n) rfl hs ?_ ?_
 ·rintro ⟨⟨i,_⟩,_⟩ n kn hv h
  simp only at hv
  unfold vT
  rw[show decide (i<(s.size:Int))=true by simp;simp at h;omega,cond_true,RA s h hv hs (fun y=>kn ((y,()),()))]
  refine ⟨fun hb=>by rw[hb];rfl,fun hb=>⟨((i+1,()),()),by simp only;omega,by rw[hb];rfl⟩⟩
 ·rintro ⟨⟨i,_⟩,_⟩ kn hv
  simp only at hv
  unfold vT
  rw[show decide (i<(s.size:Int))=false by simp;omega,cond_false]
theorem afx (s:ByteArray) (hs:s.size≤1000000):f111 s=some (BB s):=by
 rw[afw];unfold Ju BB cu
 have hl:=WR s hs
 generalize aB R1 (fun v kn=>vT s v.1.1 (fun y0=>kn ((y0,()),()))) ((0,()),())=x at hl ⊢
 subst hl
 by_cases h1:(s.size:Int)<1
 ·rw[decide_eq_true h1,decide_eq_false (show ¬ (1:Int)≤s.size by omega)]
  cases jv s<;>rfl
 ·rw[decide_eq_false h1,decide_eq_true (show (1:Int)≤s.size by omega)]
  by_cases h2:(s.size:Int) > 8
  ·rw[decide_eq_true h2,decide_eq_false (show ¬ (s.size:Int)≤8 by omega)]
   cases jv s<;>rfl
  ·rw[decide_eq_false h2,decide_eq_true (show (s.size:Int)≤8 by omega)]
   rfl
theorem Bp (n lo hi:Int):f102 n lo hi=some (cu n lo hi):=by
 rw[afo];unfold Jn cu
 cases decide (lo≤n)<;>rfl
theorem ah0 (s:ByteArray) (i:Nat) (h:(s.get! i).toNat<128):Utf8.decode s i=((s.get! i).toNat,1):=by
 unfold Utf8.decode
 simp only[Nat.add_zero]
 rw[if_pos h]
theorem ahZ (s:ByteArray) (i:Nat) (h:128≤(s.get! i).toNat):128≤(Utf8.decode s i).1:=by
 unfold Utf8.decode Utf8.runeError
 simp only[Nat.add_zero]
 rw[if_neg (by omega)]
 split
 ·split<;>simp only<;>omega
 ·split
  ·split
   ·rename_i h2
    simp only[Bool.and_eq_true,decide_eq_true_eq]at h2
    simp only;omega
   ·simp
  ·split
   ·split
    ·rename_i h2
     simp only[Bool.and_eq_true,decide_eq_true_eq]at h2
     simp only;omega
    ·simp
   ·simp
theorem afn (s:ByteArray) (hs:s.size≤1000000):f101 s=some (BB s):=by
 rw[afm];unfold Jm
 refine CJ (γ:=((ByteArray×Nat)×Unit)×Unit) s (cu s.size 1 8) (fun v n=>v.1.1=(s,n)) rfl hs ?_ ?_
 ·rintro ⟨⟨⟨s',i⟩,_⟩,_⟩ n kn hv h
  simp only[Prod.mk.injEq]at hv
  obtain ⟨rfl,rfl⟩:=hv
  have hn:i<s'.size:=by simpa using h
  have hg:s'.get! i=s'.data.toList[i]:=by
   show (s'.data[i]!)=_
   rw[getElem!_pos s'.data i (by simpa using hn)]
   simp
  unfold GV
  simp only[show Nat.blt i s'.size=true by rw[Nat.blt_eq];exact hn,cond_true]
  rw[← hg]
  generalize uG:s'.get! i=b
  by_cases hc:b.toNat<128
  ·rw[ah0 s' i (by rw[uG];exact hc),uG]
   simp only
   cases h1:decide ((b.toNat:Int)<97) with
   |true=>exact⟨fun _=>rfl,fun h=>by rw[Ye h1]at h;cases h⟩
   |false =>
    cases h2:decide ((b.toNat:Int) > 122) with
    |true=>exact⟨fun _=>rfl,fun h=>by rw[Yc h2]at h;cases h⟩
    |false=>exact⟨fun h=>(by rw[Yd h1 h2]at h;cases h),fun _=>⟨(((s',i+1),()),()),rfl,rfl⟩⟩
  ·have hd:=ahZ s' i (by rw[uG];omega)
   have h1:decide (((Utf8.decode s' i).1:Int)<97)=false:=by simp;omega
   have h2:decide (((Utf8.decode s' i).1:Int) > 122)=true:=by simp;omega
   simp only[h1,h2,cond_true,cond_false]
   refine ⟨fun _=>trivial,fun h=>?_⟩
   unfold pX at h
   simp only[Bool.and_eq_true,decide_eq_true_eq]at h
   omega
 ·rintro ⟨⟨⟨s',i⟩,_⟩,_⟩ kn hv
  simp only[Prod.mk.injEq]at hv
  obtain ⟨rfl,rfl⟩:=hv
  unfold GV
  have:Nat.blt s'.size s'.size=false:=by
   cases h:Nat.blt s'.size s'.size with
   |false=>rfl
   |true=>rw[Nat.blt_eq]at h;omega
  simp only[this,cond_false,Bp]
  rfl
end Go.Proofs.fu
namespace Go.Proofs.fu
open Go Go.Ab
set_option linter.all false
set_option maxRecDepth 100000
theorem jE {α γ:Type}{F:γ→(γ→Option α)→Option α}{v0:γ} (inv:γ→Prop) (μ:γ→Nat) (P:γ→Option α→Prop) (Fo:μ v0<iM) (h0:inv v0)
  (step:∀ v kn,inv v→(∀ v',inv v'→μ v'<μ v→P v' (kn v'))→P v (F v kn)):P v0 (aB γ F v0):=by
 have key:∀ n v,inv v→μ v<n→P v (iter F n v):=by
  intro n
  induction n with
  |zero=>intro v _ h;omega
  |succ n ih=>intro v hv hn;exact step v (iter F n) hv fun v' kD cz=>ih v' kD (by omega)
 exact key iM v0 h0 Fo
theorem akA {α γ:Type}{F:γ→(γ→Option α)→Option α}{v0:γ}:∃ k,aB γ F v0=F v0 fun v=>F v fun v=>F v fun v=>F v fun v=>F v k:=⟨iter F 18446744073709551611,rfl⟩
theorem rM (n lo hi:Int):f75 n lo hi=some (cu n lo hi):=by
 rw[aiX];unfold TJ cu
 cases decide (lo≤n)<;>rfl
theorem zB (n lo hi:Int):f95 n lo hi=some (!cu n lo hi):=by
 rw[ajh,← vU,LZ];rfl
theorem afu (x:Span):f108 x=some (gm x 0 3000):=by
 rw[aft];unfold Js gm
 simp only[rM,Option.bind_some]
 cases cu x.Lo 0 3000<;>cases cu x.Hi 0 3000<;>cases decide (x.Lo > x.Hi)<;>rfl
theorem afG (x:Span):f118 x=some (gm x 0 3000):=by
 rw[afF];unfold JC gm
 simp only[zB,Option.bind_some]
 cases cu x.Lo 0 3000<;>cases cu x.Hi 0 3000<;>cases decide (x.Lo > x.Hi)<;>rfl
theorem ahD (u:br):av (f37 u) (f47 u):=by
 rw[air,aiB];unfold Tf Tq
 obtain ⟨k,e⟩:=akA (F:=fun (v:R1) kn=>mO u v.1.1 (fun y0=>kn ((y0,()),()))) (v0:=((0,()),()))
 refine e ▸ ?_
 have a0:∀ kn,mO u 0 kn=bif !cu u.lS 1 3000 then some 2 else kn 1:=fun kn=>by unfold mO;simp only[rM];rfl
 have a1:∀ kn,mO u 1 kn=bif !cu u.Rest 1 3000 then some 2 else kn 2:=fun kn=>by unfold mO;simp only[rM];rfl
 have a2:∀ kn,mO u 2 kn=bif !cu u.Day 1 3000 then some 2 else kn 3:=fun kn=>by unfold mO;simp only[rM];rfl
 have a3:∀ kn,mO u 3 kn=bif !cu u.pB 1 3000 then some 2 else kn 4:=fun kn=>by unfold mO;simp only[rM];rfl
 have a4:∀ kn,mO u 4 kn=some 0:=fun kn=>rfl
 simp only[a0,a1,a2,a3,a4,zB,Option.bind_some]
 exact av.c av.s (av.c av.s (av.c av.s (av.c av.s av.s)))
theorem aav {α:Type} (d:Driver) (hs:d.Name.size≤1000000) (x y z:Option α) (hxz:x=z) (hyz:y=z) (w:Option α) :
  (bif decide ((d.Name.size:Int)<1) then bif decide ((d.Name.size:Int)<1) then w else x else bif decide ((d.Name.size:Int) > 8) then bif decide ((d.Name.size:Int) > 8) then w else y else (cZ.trim d.Name az).bind fun r=>bif !(r.toList == (⟨#[]⟩:ByteArray).toList) then w else z)=bif !BB d.Name then w else z:=by
 subst hxz hyz
 rw[acC _ hs]
 simp only[Option.bind_some,Pv]
 unfold BB cu
 by_cases h1:(d.Name.size:Int)<1
 ·rw[decide_eq_true h1,decide_eq_false (show ¬ (1:Int)≤d.Name.size by omega)]
  cases jv d.Name<;>rfl
 ·rw[decide_eq_false h1,decide_eq_true (show (1:Int)≤d.Name.size by omega)]
  by_cases h2:(d.Name.size:Int) > 8
  ·rw[decide_eq_true h2,decide_eq_false (show ¬ (d.Name.size:Int)≤8 by omega)]
   cases jv d.Name<;>rfl
  ·rw[decide_eq_false h2,decide_eq_true (show (d.Name.size:Int)≤8 by omega)]
   cases jv d.Name<;>rfl
def CG (d:Driver):Prop:=d.Name.size≤1000000∧d.bO.length≤1000000
theorem ahJ (d:Driver) (hd:CG d):av (f76 d) (f96 d):=by
 obtain ⟨hs,h⟩:=hd
 rw[aiY,aji];unfold TK T4
 rw[show Qu=sK from rfl,show EA=sK from rfl]
 rw[afE _ hs,show (⟨#[97,98,99,100,101,102,103,104,105,106,107,108,109,110,111,112,113,114,115,116,117,118,119,120,121,122]⟩:ByteArray)=az from rfl,aav d hs _ _ _ rfl rfl]
 simp only[rM,zB,Option.bind_some]
 refine av.c av.s (av.c av.s (av.c av.s ?_))
 refine av.rounds (fun (v:R2) (w:R2)=>v.1.2.1=w.1.2.1∧0≤v.1.2.1∧v.1.2.1≤d.bO.length) (fun v=>(d.bO.length - v.1.2.1).toNat) (fV (by simp only;omega)) ⟨rfl,by simp,by simp⟩ ?_
 rintro ⟨⟨_,i,_⟩,_⟩ ⟨⟨_,i',_⟩,_⟩ kn km ⟨e2,h0,h1⟩ H
 simp only at e2 h0 h1 ⊢
 subst e2
 unfold sK Xq
 refine av.h (fun hc=>?_) fun hc=>av.s
 have hi:=of_decide_eq_true hc
 have hk:=H (((),i+1,()),()) (((),i+1,()),()) ⟨rfl,by simp only;omega,by simp only;omega⟩ (by simp only;omega)
 simp only[afu,afG,Option.bind_some,w1 h0 hi h,w2 h0 hi h,lD h0 hi,jc]
 refine av.c av.s (av.c av.s (av.c av.s (av.h (fun hp=>?_) fun _=>hk)))
 have hp:=of_decide_eq_true hp
 have e3:(decide (0≤i - 1)&&decide (i - 1<(d.bO.length:Int)))=true:=by simp;omega
 simp only[e3,jc]
 exact av.c av.s hk
def Ic (a b:Driver):Bool:=a.Name.toList == b.Name.toList
theorem ai0 (s:List Driver) (f:Driver) (h:s.length≤1000000):f77 s f=some (s.any (Ic · f)):=by
 rw[aiZ];unfold TL
 rw[afv];unfold Jt
 refine jE (γ:=R1) (fun v=>0≤v.1.1∧v.1.1≤s.length) (fun v=>(s.length - v.1.1).toNat) (fun v x=>(x.bind fun r=>some (decide (r ≥ 0)))=some ((s.drop v.1.1.toNat).any (Ic · f))) (fV (by simp only;omega)) ⟨by simp,by simp⟩ ?_
 rintro ⟨⟨i,_⟩,_⟩ kn ⟨h0,h1⟩ H
 simp only at h0 h1 ⊢
 unfold Ql
 cases hc:decide (i<(s.length:Int)) with
 |false =>
  have hi:=of_decide_eq_false hc
  rw[List.drop_eq_nil_of_le (by omega)];rfl
 |true =>
  have hi:=of_decide_eq_true hc
  have hl:i.toNat<s.length:=by omega
  simp only[cond_true,decide_eq_true h0,Bool.and_self,jc,w1 h0 hi h]
  rw[ai1];unfold TM
  have hk:((kn ((i+1,()),())).bind fun r=>some (decide (r ≥ 0)))=some ((s.drop (i+1).toNat).any (Ic · f)):=H ((i+1,()),()) ⟨by simp only;omega,by simp only;omega⟩ (by simp only;omega)
  rw[List.drop_eq_getElem_cons hl,List.any_cons,show s.getD i.toNat cR=s[i.toNat] by simp[List.getD_eq_getElem?_getD,hl],show (i.toNat+1)=(i+1).toNat by omega]
  unfold Ic at hk ⊢
  simp only[Option.bind_some]
  cases s[i.toNat].Name.toList == f.Name.toList with
  |true=>simp only[cond_true,Option.bind_some,Bool.true_or];rw[decide_eq_true h0]
  |false=>simp only[cond_false,Bool.false_or];exact hk
theorem aiD (l:List Driver) (i:Int) (km:Int→Option Int) (h:l.length≤1000000) (h0:0≤i) (hi:i<l.length) :
  aB R1 (fun v kn=>G1 i l km v.1.1 (fun y0=>kn ((y0,()),()))) ((0,()),())=bif (l.take i.toNat).any (Ic · (l.getD i.toNat cR)) then some 9 else km (i+1):=by
 refine jE (γ:=R1) (fun v=>0≤v.1.1∧v.1.1≤i) (fun v=>(i - v.1.1).toNat) (fun v x=>x=bif ((l.take i.toNat).drop v.1.1.toNat).any (Ic · (l.getD i.toNat cR)) then some 9 else km (i+1)) (fV (by simp only;omega)) ⟨by simp,by simp[h0]⟩ ?_
 rintro ⟨⟨k,_⟩,_⟩ kn ⟨k0,k1⟩ H
 simp only at k0 k1 ⊢
 unfold G1
 cases hc:decide (k<i) with
 |false =>
  have hk:=of_decide_eq_false hc
  rw[List.drop_eq_nil_of_le (by simp;omega),w1 h0 hi h];rfl
 |true =>
  have hk:=of_decide_eq_true hc
  have hl:k.toNat<(l.take i.toNat).length:=by simp;omega
  have e:l.getD k.toNat cR=(l.take i.toNat)[k.toNat]:=by
   rw[List.getElem_take]
   simp[List.getD_eq_getElem?_getD,show k.toNat<l.length by omega]
  simp only[cond_true,lD k0 (show k<l.length by omega),lD h0 hi,jc,w1 k0 (show k<l.length by omega) h]
  have hH:=H ((k+1,()),()) ⟨by simp only;omega,by simp only;omega⟩ (by simp only;omega)
  simp only at hH
  rw[hH,List.drop_eq_getElem_cons hl,List.any_cons,e,show (k.toNat+1)=(k+1).toNat by omega]
  show (bif Ic _ _ then _ else _)=_
  cases Ic (l.take i.toNat)[k.toNat] (l.getD i.toNat cR)<;>rfl
theorem ahE (l:List Driver) (h:l.length≤1000000) (hd:∀ i<l.length,CG (l.getD i cR)):av (f39 l) (f48 l):=by
 rw[ait,aiC];unfold Th Tr
 refine av.c av.s (av.c av.s ?_)
 refine av.rounds (fun (v:R1) (w:R1)=>v.1.1=w.1.1∧0≤v.1.1∧v.1.1≤l.length) (fun v=>(l.length - v.1.1).toNat) (fV (by simp only;omega)) ⟨rfl,by simp,by simp⟩ ?_
 rintro ⟨⟨i,_⟩,_⟩ ⟨⟨i',_⟩,_⟩ kn km ⟨e2,h0,h1⟩ H
 simp only at e2 h0 h1 ⊢
 subst e2
 unfold W0 W5
 refine av.h (fun hc=>?_) fun hc=>av.s
 have hi:=of_decide_eq_true hc
 have hk:=H ((i+1,()),()) ((i+1,()),()) ⟨rfl,by simp only;omega,by simp only;omega⟩ (by simp only;omega)
 have xD:rb l 0 i=l.take i.toNat:=rfl
 simp only[lD h0 hi,jc,xD]
 refine av.b (ahJ _ (hd i.toNat (by omega))) fun _ _ _=>av.c av.s (av.c av.s (av.cl (by simp;omega) ?_))
 rw[ai0 _ _ (by simp;omega),aiD l i (fun y=>km ((y,()),())) h h0 hi]
 simp only[Option.bind_some,w1 h0 hi h]
 exact av.c av.s hk
theorem ai3 (s:bb):f79 s=some (bif !(cu s.Zero 0 1000&&cu s.Part 0 100000) then 2 else 0):=by
 rw[ai2];unfold TN
 simp only[rM,Option.bind_some]
 cases cu s.Zero 0 1000<;>cases cu s.Part 0 100000<;>rfl
theorem ajk (s:bb):f97 s=some (bif !(cu s.Zero 0 1000&&cu s.Part 0 100000) then 2 else 0):=by
 rw[ajj];unfold T5
 simp only[zB,Option.bind_some]
 cases cu s.Zero 0 1000<;>cases cu s.Part 0 100000<;>rfl
theorem adK {α γ:Type}{F:γ→(γ→Option α)→Option α}{v0:γ}{P:Option α→Prop} (h:∀ kn,P (F v0 kn)):P (aB γ F v0):=h _
theorem ahF (s:bb) (a:bR):av ((f41 s [] a).bind fun r=>some r.2.2) ((f49 s [] a).bind fun r=>some r.2.2):=by
 rw[aiv,aiE];unfold Tj Ts
 simp only[ai3,ajk,rM,zB,Option.bind_some]
 cases cu s.Zero 0 1000&&cu s.Part 0 100000 with
 |false=>exact av.s
 |true =>
  cases cu a.ju 0 1000000 with
  |false=>exact av.s
  |true =>
   cases cu a.Total 0 1000000 with
   |false=>exact av.s
   |true =>
    simp only[Bool.not_true,cond_false,cond_true,show ((0:Int) != 0)=false from rfl,List.length_nil,show decide (((0:Nat):Int) > 12)=false from rfl]
    refine adK (P:=fun o=>av (Option.bind o _) _) fun kn=>adK (P:=fun o=>av _ (Option.bind o _)) fun km=>?_
    simp only[Ez,Qs,List.length_nil,show decide ((0:Int)<((0:Nat):Int))=false from rfl,cond_false,cond_true,gu,Option.bind_some]
    cases decide (0≤a.ju)<;>cases decide (0≤a.Total)<;>cases decide (0 > a.ju)<;>cases decide (0 > a.Total)<;>exact av.s
end Go.Proofs.fu
namespace Go.Proofs.fu
open Go Go.Ab
set_option linter.all false
set_option maxRecDepth 100000
theorem av.RB {α β γ δ ρ:Type}{F:γ→(γ→Option α)→Option α}{G:δ→(δ→Option β)→Option β} (k:Option α→Option ρ) (l:Option β→Option ρ) {v0:γ}{w0:δ} (inv:γ→δ→Prop) (μ:γ→Nat) (Fo:μ v0<iM) (h0:inv v0 w0)
  (step:∀ v w kn km,inv v w→(∀ v' w',inv v' w'→μ v'<μ v→av (k (kn v')) (l (km w')))→av (k (F v kn)) (l (G w km))):av (k (aB γ F v0)) (l (aB δ G w0)):=by
 have key:∀ n v w,inv v w→μ v<n→av (k (iter F n v)) (l (iter G n w)):=by
  intro n
  induction n with
  |zero=>intro v w _ h;omega
  |succ n ih =>
   intro v w hv hn
   exact step v w (iter F n) (iter G n) hv fun v' w' kD cz=>ih v' w' kD (by omega)
 exact key iM v0 w0 h0 Fo
theorem L1 (n lo hi:Int):f87 n lo hi=some (cu n lo hi):=by
 rw[aja,← LX,W6];rfl
theorem L3 (x:Span) (lo hi:Int):f88 x lo hi=some (gm x lo hi):=by
 rw[Xk];unfold L2 gm
 simp only[L1,Option.bind_some]
 cases cu x.Lo lo hi<;>cases cu x.Hi lo hi<;>cases decide (x.Lo > x.Hi)<;>rfl
theorem GW (x:Span) (lo hi:Int):f103 x lo hi=some (gm x lo hi):=by
 rw[afp,← L3,Xk];unfold Jo L2
 simp only[Bp,L1]
def KG (x:Span):Prop:=(0≤x.Lo∧x.Lo≤1000000000)∧0≤x.Hi∧x.Hi≤1000000000
theorem Oy {x:Span} (h:(gm x 0 1000000000 != 0)=false):KG x:=by
 unfold gm cu at h
 cases h1:decide (0≤x.Lo)&&decide (x.Lo≤1000000000)&&(decide (0≤x.Hi)&&decide (x.Hi≤1000000000)) with
 |false=>rw[h1]at h;cases h
 |true=>simpa[KG,and_assoc] using h1
def acc (b:aH) (i:Nat):aU:=b.ah.getD i ay
def nb (b:aH) (i:Nat):fF:=b.aZ.getD i cC
def nm (b:aH) (i:Nat):ByteArray:=(acc b i).Name
def acF (a:aU):Prop:=KG a.Open∧KG a.dK∧(a.Kind=1∨a.Kind=2)
def acI (b:aH) (m:fF):Prop:=KG m.fo∧(0≤m.bu∧m.bu<b.ah.length)∧0≤m.To∧m.To<b.ah.length
structure iU (b:aH):Prop where
 n:b.ah.length≤8
 m:b.aZ.length≤30
 a:∀ i<b.ah.length,acF (acc b i)
 v:∀ i<b.aZ.length,acI b (nb b i)
theorem eqb (s p:ByteArray):(s == p)=(s.toList == p.toList):=by
 rw[show (s == p)=(s.data == p.data) from rfl,Lib.toList_data,Lib.toList_data,Bool.eq_iff_iff,beq_iff_eq,beq_iff_eq,Array.toList_inj]
theorem Nq (n:ByteArray):∀ l:List aU,nW (l.map (·.Name)) n=l.any fun a=>a.Name.toList == n.toList
 |[]=>rfl
 |a::l=>by
  simp only[List.map_cons,nW,List.any_cons,Nq n l,eqb]
  rw[show (n.toList == a.Name.toList)=(a.Name.toList == n.toList) from Bool.beq_comm]
  cases a.Name.toList == n.toList<;>rfl
abbrev R5:=(Unit×Unit×Int×Unit)×Unit
abbrev R6:=(Unit×(List ByteArray)×Int×Unit)×Unit
theorem aiQ (b:aH) (i:Int) (k:List ByteArray→Int→Option Int) (ns:List ByteArray) :
  aB R5 (fun v kn=>o9 b i k ns v.1.2.2.1 (fun y0=>kn (((),(),y0,()),()))) (((),(),0,()),())=bif gm (acc b i.toNat).Open 0 1000000000 != 0 then some (gm (acc b i.toNat).Open 0 1000000000) else bif gm (acc b i.toNat).dK 0 1000000000 != 0 then some (gm (acc b i.toNat).dK 0 1000000000) else k (ns++[nm b i.toNat]) (aj (i+1)):=by
 obtain ⟨q,e⟩:=akA (F:=fun (v:R5) kn=>o9 b i k ns v.1.2.2.1 (fun y0=>kn (((),(),y0,()),()))) (v0:=(((),(),0,()),()))
 refine e.trans ?_
 have a0:∀ kn,o9 b i k ns 0 kn=bif gm (acc b i.toNat).Open 0 1000000000 != 0 then some (gm (acc b i.toNat).Open 0 1000000000) else kn 1:=fun kn=>by unfold o9;simp only[GW];rfl
 have a1:∀ kn,o9 b i k ns 1 kn=bif gm (acc b i.toNat).dK 0 1000000000 != 0 then some (gm (acc b i.toNat).dK 0 1000000000) else kn 2:=fun kn=>by unfold o9;simp only[GW];rfl
 have a2:∀ kn,o9 b i k ns 2 kn=k (ns++[nm b i.toNat]) (aj (i+1)):=fun kn=>rfl
 simp only[a0,a1,a2]
theorem ai9 (b:aH) (i:Int) (km:Int→Option Int) (h:b.ah.length≤1000000) (h0:0≤i) (hi:i<b.ah.length) :
  aB R1 (fun v kn=>G2 i b.ah km v.1.1 (fun y0=>kn ((y0,()),()))) ((0,()),())=bif (b.ah.take i.toNat).any (fun a=>a.Name.toList == (nm b i.toNat).toList) then some 9 else bif !cu (acc b i.toNat).Kind 1 2 then some 4 else bif gm (acc b i.toNat).Open 0 1000000000 != 0 then some (gm (acc b i.toNat).Open 0 1000000000) else bif gm (acc b i.toNat).dK 0 1000000000 != 0 then some (gm (acc b i.toNat).dK 0 1000000000) else km (i+1):=by
 generalize hR:(bif !cu (acc b i.toNat).Kind 1 2 then some 4 else bif gm (acc b i.toNat).Open 0 1000000000 != 0 then some (gm (acc b i.toNat).Open 0 1000000000) else bif gm (acc b i.toNat).dK 0 1000000000 != 0 then some (gm (acc b i.toNat).dK 0 1000000000) else km (i+1))=R
 refine jE (γ:=R1) (fun v=>0≤v.1.1∧v.1.1≤i) (fun v=>(i - v.1.1).toNat) (fun v x=>x=bif ((b.ah.take i.toNat).drop v.1.1.toNat).any (fun a=>a.Name.toList == (nm b i.toNat).toList) then some 9 else R) (fV (by simp only;omega)) ⟨by simp,by simp[h0]⟩ ?_
 rintro ⟨⟨k,_⟩,_⟩ kn ⟨k0,k1⟩ H
 simp only at k0 k1 ⊢
 unfold G2
 cases hc:decide (k<i) with
 |false =>
  have hk:=of_decide_eq_false hc
  rw[List.drop_eq_nil_of_le (by simp;omega),← hR]
  show _=bif !cu (b.ah.getD i.toNat ay).Kind 1 2 then some 4 else bif gm (b.ah.getD i.toNat ay).Open 0 1000000000 != 0 then some (gm (b.ah.getD i.toNat ay).Open 0 1000000000) else bif gm (b.ah.getD i.toNat ay).dK 0 1000000000 != 0 then some (gm (b.ah.getD i.toNat ay).dK 0 1000000000) else km (i+1)
  simp only[cond_false,lD h0 hi,jc,L3,Option.bind_some,w1 h0 hi h]
  generalize (b.ah.getD i.toNat ay)=a
  by_cases e1:a.Kind=1
  ·rw[e1];rfl
  ·have c1:(a.Kind != 1)=true:=by simp[e1]
   by_cases e2:a.Kind=2
   ·rw[e2];rfl
   ·have c2:(a.Kind != 2)=true:=by simp[e2]
    have:cu a.Kind 1 2=false:=by simp only[cu,Bool.and_eq_false_iff,decide_eq_false_iff_not];omega
    rw[c1,c2,this];rfl
 |true =>
  have hk:=of_decide_eq_true hc
  have hl:k.toNat<(b.ah.take i.toNat).length:=by simp;omega
  have e:b.ah.getD k.toNat ay=(b.ah.take i.toNat)[k.toNat]:=by
   rw[List.getElem_take]
   simp[List.getD_eq_getElem?_getD,show k.toNat<b.ah.length by omega]
  simp only[cond_true,lD k0 (show k<b.ah.length by omega),lD h0 hi,jc,w1 k0 (show k<b.ah.length by omega) h]
  have hH:=H ((k+1,()),()) ⟨by simp only;omega,by simp only;omega⟩ (by simp only;omega)
  simp only at hH
  rw[hH,List.drop_eq_getElem_cons hl,List.any_cons,e,show (k.toNat+1)=(k+1).toNat by omega]
  show (bif _ == (nm b i.toNat).toList then _ else _)=_
  cases (b.ah.take i.toNat)[k.toNat].Name.toList == (nm b i.toNat).toList<;>rfl
theorem form (b:aH) (hn:b.ah.length≤1000000) (hm:b.aZ.length≤1000000) (hs:∀ i<b.ah.length,(nm b i).size≤1000000) (kP:Int→Option Int) (hP:∀ r,r≠0→kP r=some r)
  (hB:iU b→av (kP 0) ((f89 b).bind fun r5=>bif (!r5) then some 12 else some 0)):av ((f68 b).bind kP) (f45 b):=by
 rw[aiz];unfold Tn
 rw[ai8];unfold TU
 rw[aiP];unfold TC
 simp only[gu]
 refine av.c ⟨6,hP 6 (by decide),rfl⟩ (av.h (fun _=>⟨8,hP 8 (by decide),rfl⟩) fun hn8=>?_)
 have hn8:=of_decide_eq_false hn8
 refine av.RB (fun x=>x.bind kP) (fun x=>x.bind _) (fun (v:R6) (w:R1)=>v.1.2.2.1=w.1.1∧(0≤w.1.1∧w.1.1≤b.ah.length)∧v.1.2.1=(b.ah.take w.1.1.toNat).map (·.Name)∧∀ j:Nat,j<w.1.1→acF (acc b j)) (fun v=>(b.ah.length - v.1.2.2.1).toNat) (fV (by simp only;omega)) ⟨rfl,⟨by simp,by simp⟩,rfl,fun j hj=>by simp only at hj;omega⟩ ?_
 rintro ⟨⟨_,ns,i,_⟩,_⟩ ⟨⟨i',_⟩,_⟩ kn km ⟨e1,⟨h0,h1⟩,e2,ha⟩ H
 simp only at e1 h0 h1 e2 ha ⊢
 subst e1 e2
 unfold Xc Xj
 simp only[gu]
 refine av.h (fun hc=>?_) fun hc=>?_
 ·have hi:=of_decide_eq_true hc
  have fN:=hs i.toNat (by omega)
  simp only[lD h0 hi,jc]
  rw[show (b.ah.getD i.toNat ay).Name=nm b i.toNat from rfl,afn _ fN,afx _ fN,Nq]
  simp only[Option.bind_some,gu]
  refine av.c ⟨3,hP 3 (by decide),rfl⟩ ?_
  rw[ai9 b i (fun y=>km ((y,()),())) hn h0 hi]
  simp only[gu,Bp,Option.bind_some]
  refine av.h (fun _=>⟨9,hP 9 (by decide),rfl⟩) fun hm9=>?_
  rw[hm9]
  refine av.h (fun _=>⟨4,hP 4 (by decide),rfl⟩) fun hk=>?_
  rw[show (ao (!false):Option Int→Option Int)=id from rfl]
  simp only[id]
  rw[aiQ b i (fun y0 y1=>kn (((),y0,y1,()),()))]
  simp only[gu,Option.bind_some]
  refine av.h (fun hq=>by rw[hP _ (by simpa using hq),hq];exact av.s) fun ho=>?_
  refine av.h (fun hq=>by rw[hP _ (by simpa using hq),hq];exact av.s) fun qu=>?_
  rw[w1 h0 hi hn]
  refine H _ _ ⟨rfl,⟨by simp only;omega,by simp only;omega⟩,?_,fun j hj=>?_⟩ (by simp only;omega)
  ·simp only
   rw[show (i+1).toNat=i.toNat+1 by omega,List.take_succ]
   have hl:i.toNat<b.ah.length:=by omega
   rw[List.map_append,List.getElem?_eq_getElem hl]
   congr 1
   simp[nm,acc,List.getD_eq_getElem?_getD,hl]
  ·simp only at hj
   by_cases e:(j:Int)<i
   ·exact ha j e
   ·have:j=i.toNat:=by omega
    subst this
    refine ⟨Oy ho,Oy qu,?_⟩
    simp only[cu,Bool.not_eq_false',Bool.and_eq_true,decide_eq_true_eq]at hk
    show (b.ah.getD i.toNat ay).Kind=1∨(b.ah.getD i.toNat ay).Kind=2
    omega
 ·have hi:=of_decide_eq_false hc
  simp only[Option.bind_some,show ((0:Int) != 0)=false from rfl,cond_false]
  refine av.h (fun _=>⟨8,hP 8 (by decide),rfl⟩) fun aj9=>?_
  have aj9:=of_decide_eq_false aj9
  refine av.RB (fun x=>x.bind kP) (fun x=>x) (fun (v:R2) (w:R2)=>v.1.2.1=w.1.2.1∧(0≤w.1.2.1∧w.1.2.1≤b.aZ.length)∧∀ j:Nat,j<w.1.2.1→acI b (nb b j)) (fun v=>(b.aZ.length - v.1.2.1).toNat) (fV (by simp only;omega)) ⟨rfl,⟨by simp,by simp⟩,fun j hj=>by simp only at hj;omega⟩ ?_
  rintro ⟨⟨_,k,_⟩,_⟩ ⟨⟨_,k',_⟩,_⟩ kn km ⟨e1,⟨k0,k1⟩,hv⟩ H
  simp only at e1 k0 k1 hv ⊢
  subst e1
  unfold Qt W4
  simp only[gu]
  refine av.h (fun hc=>?_) fun hc=>?_
  ·have hk:=of_decide_eq_true hc
   have e8:aj ((b.ah.length:Int) - 1)=(b.ah.length:Int) - 1:=b7 (by omega) (by omega)
   simp only[lD k0 hk,jc,Bp,L1,GW,L3,Option.bind_some,gu,e8]
   refine av.h (fun _=>⟨7,hP 7 (by decide),rfl⟩) fun hf=>av.h (fun _=>⟨7,hP 7 (by decide),rfl⟩) fun ht=>av.c ⟨3,hP 3 (by decide),rfl⟩ (av.h (fun hq=>by rw[hP _ (by simpa using hq)];exact av.s) fun hl=>?_)
   rw[w1 k0 hk hm]
   refine H _ _ ⟨rfl,⟨by simp only;omega,by simp only;omega⟩,fun j hj=>?_⟩ (by simp only;omega)
   simp only at hj
   by_cases e:(j:Int)<k
   ·exact hv j e
   ·have:j=k.toNat:=by omega
    subst this
    simp only[cu,Bool.not_eq_false',Bool.and_eq_true,decide_eq_true_eq]at hf ht
    exact⟨Oy hl,⟨hf.1,by have:=hf.2;show (b.aZ.getD k.toNat cC).bu<_;omega⟩,ht.1,by have:=ht.2;show (b.aZ.getD k.toNat cC).To<_;omega⟩
  ·have hk:=of_decide_eq_false hc
   exact hB ⟨by omega,by omega,fun j hj=>ha j (by omega),fun j hj=>hv j (by omega)⟩
end Go.Proofs.fu
namespace Go.Proofs.fu
open Go Go.Ab
set_option linter.all false
set_option maxRecDepth 100000
def sm (c:Nat→Bool) (g:Nat→Int):Nat→Int
 |0=>0
 |n+1=>sm c g n+bif c n then g n else 0
theorem AX {c:Nat→Bool}{g:Nat→Int}{B:Int} (hB:0≤B):∀ {n:Nat},(∀ k<n,-B≤g k∧g k≤B)→-(n * B)≤sm c g n∧sm c g n≤n * B
 |0,_=>by simp[sm]
 |n+1,h=>by
  have h1:=AX (c:=c) hB (n:=n) fun k hk=>h k (by omega)
  have h2:=h n (by omega)
  have e:((n+1:Nat):Int) * B=n * B+B:=by rw[Int.natCast_succ,Int.add_mul,Int.one_mul]
  simp only[sm]
  rw[e]
  cases c n<;>simp only[cond_true,cond_false]<;>omega
theorem Ow (c:Nat→Bool) (g h:Nat→Int):∀ n,sm c (fun k=>g k - h k) n=sm c g n - sm c h n
 |0=>rfl
 |n+1=>by
  simp only[sm,Ow c g h n]
  cases c n<;>simp only[cond_true,cond_false]<;>omega
def has (s k:Int):Bool:=(Z4 .i64 (oQ .i64 s k) 1) == 1
theorem GZ {k:Int} (s:Int) (h:0≤k):f105 k s=some (has s k):=by
 rw[afr];unfold Jq
 rw[decide_eq_true h];rfl
theorem qL {k:Int} (s:Int) (h:0≤k):f137 s k=some (has s k):=by
 rw[afL];unfold JE
 rw[decide_eq_true h];rfl
section
variable (b:aH) (s:Int)
def cA (k:Nat):Bool:=has s k
def cI (k:Nat):Bool:=has s (nb b k).To&&!has s (nb b k).bu
def cO (k:Nat):Bool:=has s (nb b k).bu&&!has s (nb b k).To
def wq (k:Nat):Int:=(acc b k).Open.Lo
def wo (k:Nat):Int:=(acc b k).Open.Hi
def wO (k:Nat):Int:=(acc b k).dK.Lo
def wN (k:Nat):Int:=(acc b k).dK.Hi
def mX (k:Nat):Int:=(nb b k).fo.Lo
def mW (k:Nat):Int:=(nb b k).fo.Hi
def gr:Nat→Bool
 |0=>true
 |n+1=>gr n&&(!cA s n || (acc b n).Kind == 2)
def Gi:Int:=sm (cA s) (wq b) b.ah.length+sm (cI b s) (mX b) b.aZ.length
def Gh:Int:=sm (cA s) (wo b) b.ah.length+sm (cI b s) (mW b) b.aZ.length
def Gk:Int:=sm (cA s) (wO b) b.ah.length+sm (cO b s) (mX b) b.aZ.length
def Gj:Int:=sm (cA s) (wN b) b.ah.length+sm (cO b s) (mW b) b.aZ.length
end
variable {b:aH}{s:Int}
theorem bA (hf:iU b) {c:Nat→Bool}{g:Nat→Int} (hg:∀ k<b.ah.length,-1000000000≤g k∧g k≤1000000000) {n:Nat} (hn:n≤b.ah.length):-8000000000≤sm c g n∧sm c g n≤8000000000:=by
 have:=AX (c:=c) (B:=1000000000) (by decide) (n:=n) fun k hk=>hg k (by omega)
 have:=hf.n
 omega
theorem bM (hf:iU b) {c:Nat→Bool}{g:Nat→Int} (hg:∀ k<b.aZ.length,-1000000000≤g k∧g k≤1000000000) {n:Nat} (hn:n≤b.aZ.length):-30000000000≤sm c g n∧sm c g n≤30000000000:=by
 have:=AX (c:=c) (B:=1000000000) (by decide) (n:=n) fun k hk=>hg k (by omega)
 have:=hf.m
 omega
theorem Dn (hf:iU b):∀ k<b.aZ.length,(-1000000000≤mX b k∧mX b k≤1000000000)∧-1000000000≤mW b k∧mW b k≤1000000000:=fun k hk=>by
 obtain ⟨⟨⟨h1,h2⟩,h3,h4⟩,_⟩:=hf.v k hk
 unfold mX mW;omega
theorem yU (hf:iU b):∀ k<b.ah.length,((0≤wq b k∧wq b k≤1000000000)∧0≤wo b k∧wo b k≤1000000000)∧(0≤wO b k∧wO b k≤1000000000)∧0≤wN b k∧wN b k≤1000000000:=fun k hk=>by
 obtain ⟨h1,h2,_⟩:=hf.a k hk
 exact⟨h1,h2⟩
abbrev R7:=(Unit×Unit×Int×Unit)×((Unit×Int×Int×Bool×Bool×Unit)×Unit)
theorem abj (hf:iU b) (aT:Int→Option (List (dv×Unit))) (L0 M0:Int) (g0 r0:Bool) (hL:-8000000000≤L0∧L0≤8000000000) (hM:-8000000000≤M0∧M0≤8000000000) :
  aB R7 (fun v kn=>Db b s aT v.1.2.2.1 v.2.1.2.1 v.2.1.2.2.1 v.2.1.2.2.2.1 v.2.1.2.2.2.2.1 (fun y0 y1 y2 y3 y4=>kn (((),(),y0,()),(((),y1,y2,y3,y4,()),())))) (((),(),0,()),(((),L0,M0,g0,r0,()),())) =
   rl ((⟨s,L0+sm (cI b s) (mX b) b.aZ.length - sm (cO b s) (mW b) b.aZ.length,M0+sm (cI b s) (mW b) b.aZ.length - sm (cO b s) (mX b) b.aZ.length,g0,r0⟩:dv),()) (some []) (aT (aj (s+1))):=by
 have hm:=hf.m
 refine jE (γ:=R7) (fun v=>∃ n:Nat,v.1.2.2.1=n∧n≤b.aZ.length∧v.2.1.2.1=L0+sm (cI b s) (mX b) n - sm (cO b s) (mW b) n∧v.2.1.2.2.1=M0+sm (cI b s) (mW b) n - sm (cO b s) (mX b) n∧v.2.1.2.2.2.1=g0∧v.2.1.2.2.2.2.1=r0) (fun v=>(b.aZ.length - v.1.2.2.1).toNat) (fun v x=>x=_) (fV (by simp only;omega)) ⟨0,rfl,by omega,by simp[sm],by simp[sm],rfl,rfl⟩ ?_
 rintro ⟨⟨_,_,i,_⟩,⟨_,l,m,g,r,_⟩,_⟩ kn ⟨n,e1,hn,e2,e3,e4,e5⟩ H
 simp only at e1 e2 e3 e4 e5 ⊢
 subst e1 e4 e5
 unfold Db
 by_cases hc:n<b.aZ.length
 ·have hi:decide ((n:Int)<(b.aZ.length:Int))=true:=decide_eq_true (by omega)
  obtain ⟨_,⟨f0,_⟩,t0,_⟩:=hf.v n hc
  have lb:=Dn hf n hc
  have b1:=bM hf (c:=cI b s) (g:=mX b) (fun k hk=>(Dn hf k hk).1) (n:=n) (by omega)
  have b2:=bM hf (c:=cI b s) (g:=mW b) (fun k hk=>(Dn hf k hk).2) (n:=n) (by omega)
  have b3:=bM hf (c:=cO b s) (g:=mX b) (fun k hk=>(Dn hf k hk).1) (n:=n) (by omega)
  have b4:=bM hf (c:=cO b s) (g:=mW b) (fun k hk=>(Dn hf k hk).2) (n:=n) (by omega)
  have hH:∀ l' m',l'=L0+sm (cI b s) (mX b) (n+1) - sm (cO b s) (mW b) (n+1)→m'=M0+sm (cI b s) (mW b) (n+1) - sm (cO b s) (mX b) (n+1)→kn (((),(),(n:Int)+1,()),(((),l',m',g,r,()),()))=_:=fun l' m' h1 h2=>H _ ⟨n+1,by simp,by omega,h1,h2,rfl,rfl⟩ (by simp only;omega)
  simp only[hi,cond_true,lD (show (0:Int)≤(n:Int) by omega) (show (n:Int)<b.aZ.length by omega),jc,Int.toNat_natCast,w1 (show (0:Int)≤(n:Int) by omega) (show (n:Int)<b.aZ.length by omega) (by omega)]
  rw[show b.aZ.getD n cC=nb b n from rfl,GZ s f0,GZ s t0]
  simp only[Option.bind_some]
  simp only[sm,cI,cO]at hH
  have q1:aj (l+(nb b n).fo.Lo)=l+mX b n:=b7 (by rw[e2];show _≤_+mX b n;omega) (by rw[e2];show _+mX b n≤_;omega)
  have q2:aj (m+(nb b n).fo.Hi)=m+mW b n:=b7 (by rw[e3];show _≤_+mW b n;omega) (by rw[e3];show _+mW b n≤_;omega)
  have q3:aj (l - (nb b n).fo.Hi)=l - mW b n:=b7 (by rw[e2];show _≤_ - mW b n;omega) (by rw[e2];show _ - mW b n≤_;omega)
  have q4:aj (m - (nb b n).fo.Lo)=m - mX b n:=b7 (by rw[e3];show _≤_ - mX b n;omega) (by rw[e3];show _ - mX b n≤_;omega)
  rw[q1,q2,q3,q4]
  cases h1:has s (nb b n).bu<;>cases h2:has s (nb b n).To<;>simp only[h1,h2,Bool.not_true,Bool.not_false,Bool.and_true,Bool.and_false,Bool.true_and,Bool.false_and,cond_true,cond_false]at hH ⊢<;>exact hH _ _ (by omega) (by omega)
 ·have hi:decide ((n:Int)<(b.aZ.length:Int))=false:=decide_eq_false (by omega)
  have:n=b.aZ.length:=by omega
  subst this
  rw[hi,cond_false,e2,e3]
end Go.Proofs.fu
namespace Go.Proofs.fu
open Go Go.Ab
set_option linter.all false
set_option maxRecDepth 100000
variable {b:aH}{s:Int}
def pZ (b:aH) (s:Int):Int:=Gh b s - Gk b s
def least (b:aH) (s:Int):Int:=Gi b s - Gj b s
def bad (b:aH) (s:Int):Bool:=decide (pZ b s<0) || (gr b s b.ah.length&&decide (least b s > 0))
def Sp (g:dv×Unit):Bool:=decide (g.1.pZ<0) || (g.1.ground&&decide (g.1.least > 0))
theorem aeT (hf:iU b) (aT:Int→Option (List (dv×Unit))) :
  ∃ r0,aB R7 (fun v kn=>GY aB b s aT v.1.2.2.1 v.2.1.2.1 v.2.1.2.2.1 v.2.1.2.2.2.1 v.2.1.2.2.2.2.1 (fun y0 y1 y2 y3 y4=>kn (((),(),y0,()),(((),y1,y2,y3,y4,()),())))) (((),(),0,()),(((),0,0,true,true,()),())) =
   rl ((⟨s,least b s,pZ b s,gr b s b.ah.length,r0⟩:dv),()) (some []) (aT (aj (s+1))):=by
 have hm:=hf.n
 refine jE (γ:=R7) (fun v=>∃ n:Nat,v.1.2.2.1=n∧n≤b.ah.length∧v.2.1.2.1=sm (cA s) (fun k=>wq b k - wN b k) n∧v.2.1.2.2.1=sm (cA s) (fun k=>wo b k - wO b k) n∧v.2.1.2.2.2.1=gr b s n) (fun v=>(b.ah.length - v.1.2.2.1).toNat) (fun v x=>∃ r0,x=rl ((⟨s,least b s,pZ b s,gr b s b.ah.length,r0⟩:dv),()) (some []) (aT (aj (s+1)))) (fV (by simp only;omega)) ⟨0,rfl,by omega,rfl,rfl,rfl⟩ ?_
 rintro ⟨⟨_,_,i,_⟩,⟨_,l,m,g,r,_⟩,_⟩ kn ⟨n,e1,hn,e2,e3,e4⟩ H
 simp only at e1 e2 e3 e4 ⊢
 subst e1
 unfold GY
 have d1:∀ k<b.ah.length,-1000000000≤wq b k - wN b k∧wq b k - wN b k≤1000000000:=fun k hk=>by have:=yU hf k hk;omega
 have d2:∀ k<b.ah.length,-1000000000≤wo b k - wO b k∧wo b k - wO b k≤1000000000:=fun k hk=>by have:=yU hf k hk;omega
 have b1:=bA hf (c:=cA s) d1 hn
 have b2:=bA hf (c:=cA s) d2 hn
 by_cases hc:n<b.ah.length
 ·have hi:decide ((n:Int)<(b.ah.length:Int))=true:=decide_eq_true (by omega)
  have a1:=d1 n hc
  have a2:=d2 n hc
  have hH:∀ l' m' g' r',l'=sm (cA s) (fun k=>wq b k - wN b k) (n+1)→m'=sm (cA s) (fun k=>wo b k - wO b k) (n+1)→g'=gr b s (n+1)→∃ r0,kn (((),(),(n:Int)+1,()),(((),l',m',g',r',()),()))=rl ((⟨s,least b s,pZ b s,gr b s b.ah.length,r0⟩:dv),()) (some []) (aT (aj (s+1))):=fun l' m' g' r' h1 h2 h3=>H _ ⟨n+1,by simp,by omega,h1,h2,h3⟩ (by simp only;omega)
  simp only[hi,cond_true,lD (show (0:Int)≤(n:Int) by omega) (show (n:Int)<b.ah.length by omega),jc,Int.toNat_natCast,w1 (show (0:Int)≤(n:Int) by omega) (show (n:Int)<b.ah.length by omega) (by omega)]
  rw[show b.ah.getD n ay=acc b n from rfl,GZ s (by omega)]
  simp only[Option.bind_some]
  simp only[sm,gr,cA]at hH
  have q0:aj ((acc b n).Open.Lo - (acc b n).dK.Hi)=wq b n - wN b n:=b7 (by show _≤wq b n - wN b n;omega) (by show wq b n - wN b n≤_;omega)
  have q9:aj ((acc b n).Open.Hi - (acc b n).dK.Lo)=wo b n - wO b n:=b7 (by show _≤wo b n - wO b n;omega) (by show wo b n - wO b n≤_;omega)
  rw[q0,q9,b7 (n:=l+_) (by omega) (by omega),b7 (n:=m+_) (by omega) (by omega)]
  cases h1:has s n<;>simp only[h1,Bool.not_true,Bool.not_false,Bool.true_or,Bool.false_or,Bool.and_true,cond_true,cond_false]at hH ⊢
  ·cases r<;>exact hH _ _ _ _ (by omega) (by omega) e4
  ·cases g with
   |true=>exact hH _ _ _ _ (by omega) (by omega) (by rw[← e4];rfl)
   |false=>exact hH _ _ _ _ (by omega) (by omega) (by rw[← e4];rfl)
 ·have hi:decide ((n:Int)<(b.ah.length:Int))=false:=decide_eq_false (by omega)
  have hnn:n=b.ah.length:=by omega
  rw[hi,cond_false]
  refine ⟨r,?_⟩
  have s1:=Ow (cA s) (wq b) (wN b) n
  have s2:=Ow (cA s) (wo b) (wO b) n
  rw[abj hf aT l m g r (by omega) (by omega),show l+sm (cI b s) (mX b) b.aZ.length - sm (cO b s) (mW b) b.aZ.length=least b s by unfold least Gi Gj;rw[← hnn];omega,show m+sm (cI b s) (mW b) b.aZ.length - sm (cO b s) (mX b) b.aZ.length=pZ b s by unfold pZ Gh Gk;rw[← hnn];omega,e4,hnn]
def jQ (b:aH):Nat:=2 ^ b.ah.length
theorem Zt (hf:iU b):Vp .i64 1 (b.ah.length:Int)=(jQ b:Int):=by
 have:=hf.n
 unfold jQ
 generalize b.ah.length=n at this
 have:∀ n:Fin 9,Vp .i64 1 (n.val:Int)=((2 ^ n.val:Nat):Int):=by decide +kernel
 exact this ⟨n,by omega⟩
theorem RI (hf:iU b):jQ b≤256:=by
 have:=hf.n
 unfold jQ
 exact Nat.le_trans (Nat.pow_le_pow_right (n:=2) (by decide) this) (by decide)
def anyS (p:Nat→Bool) (n k:Nat):Bool:=((List.range n).drop k).any p
theorem yW (p:Nat→Bool) {n k:Nat} (h:k<n):anyS p n k=(p k || anyS p n (k+1)):=by
 unfold anyS
 rw[List.drop_eq_getElem_cons (by simpa using h),List.any_cons]
 simp
theorem KR (p:Nat→Bool) (n:Nat):anyS p n n=false:=by
 unfold anyS
 rw[List.drop_eq_nil_of_le (by simp)];rfl
theorem XD (hf:iU b):∃ items,f104 b=some items∧items.length≤256∧items.any Sp=anyS (fun s=>bad b s) (jQ b) 0:=by
 rw[afq];unfold Jp
 rw[decide_eq_true (by omega),jc]
 have hs:=RI hf
 have key:=jE (γ:=R2) (F:=fun v kn=>GX aB b v.1.2.1 (fun y0=>kn (((),y0,()),()))) (v0:=(((),0,()),())) (fun v=>∃ n:Nat,v.1.2.1=n∧n≤jQ b) (fun v=>(jQ b - v.1.2.1).toNat) (fun v x=>∃ items,x=some items∧items.length≤jQ b - v.1.2.1.toNat∧items.any Sp=anyS (fun s=>bad b s) (jQ b) v.1.2.1.toNat) (fV (by simp only;omega)) ⟨0,rfl,by omega⟩ ?_
 ·obtain ⟨items,h1,h2,h3⟩:=key
  exact⟨items,h1,by simp only at h2;omega,h3⟩
 ·rintro ⟨⟨_,i,_⟩,_⟩ kn ⟨n,e1,hn⟩ H
  simp only at e1 ⊢
  subst e1
  unfold GX
  rw[Zt hf]
  by_cases hc:n<jQ b
  ·rw[decide_eq_true (show (n:Int)<(jQ b:Int) by omega),cond_true]
   obtain ⟨r0,hr⟩:=aeT (s:=n) hf (fun y0=>kn (((),y0,()),()))
   rw[hr,b7 (by omega) (by omega)]
   obtain ⟨items,h1,h2,h3⟩:=H (((),(n:Int)+1,()),()) ⟨n+1,by simp,by omega⟩ (by simp only;omega)
   rw[h1]
   refine ⟨_,rfl,by simp only at h2;simp;omega,?_⟩
   simp only at h3
   rw[List.any_cons,h3,Int.toNat_natCast,yW _ hc,show ((n:Int)+1).toNat=n+1 by omega]
   rfl
  ·have:n=jQ b:=by omega
   subst this
   rw[decide_eq_false (by omega),cond_false]
   exact⟨[],rfl,by simp,by rw[Int.toNat_natCast,KR];rfl⟩
theorem aau (hf:iU b):((f69 b).bind fun r2=>(f104 r2).bind fun items=>aB ((((Unit×Unit)×((Int×Unit)×Unit)))×List (dv×Unit)) (fun v_0 kn=>match v_0.2 with
   |[]=>WY v_0.1.2.1.1
   |a::l=>LW v_0.1.2.1.1 a.1 (fun y0=>kn ((((),()),((y0,()),())),l))) ((((),()),((0,()),())),items))=some (bif anyS (fun s=>bad b s) (jQ b) 0 then 12 else 0):=by
 obtain ⟨items,h1,h2,h3⟩:=XD hf
 rw[aiR];unfold TD
 simp only[Option.bind_some,h1]
 rw[← h3]
 refine jE (γ:=((Unit×Unit)×((Int×Unit)×Unit))×List (dv×Unit)) (fun v=>v.2.length≤256) (fun v=>v.2.length) (fun v x=>x=some (bif v.2.any Sp then 12 else 0)) (fV (by simp only;omega)) h2 ?_
 rintro ⟨⟨_,⟨x,_⟩,_⟩,l⟩ kn hl H
 simp only at hl ⊢
 cases l with
 |nil=>rfl
 |cons a l =>
  simp only[List.length_cons]at hl
  have hk:=H ((((),()),((x,()),())),l) (by simp only;omega) (by simp)
  simp only at hk
  simp only[List.any_cons]
  unfold LW Sp
  cases decide (a.1.pZ<0) with
  |true=>rfl
  |false =>
   cases a.1.ground with
   |false=>exact hk
   |true =>
    cases decide (a.1.least > 0) with
    |true=>rfl
    |false=>exact hk
end Go.Proofs.fu
namespace Go.Proofs.fu
open Go Go.Ab
set_option linter.all false
set_option maxRecDepth 100000
variable {b:aH}{s:Int}
def eM (b:aH):List Span:=b.ah.map (·.Open)++b.ah.map (·.dK)++b.aZ.map (·.fo)
abbrev R8:=(Unit×(List Span)×Int×Unit)×Unit
theorem arF {n:Nat} (h:n≤1000):dH n 16=true:=by unfold dH;simp;omega
theorem Zz {α β:Type} (f:α→β) (l:List α) (d:α) {n:Nat} (h:n<l.length):(l.take n).map f++[f (l.getD n d)]=(l.take (n+1)).map f:=by
 rw[List.take_succ,List.map_append,List.getElem?_eq_getElem h]
 simp[List.getD_eq_getElem?_getD,h]
theorem CI {α:Type} (l:List α) (d:α) (f:α→Span) (p:List Span) (K:List Span→Option (List Span)) (hl:l.length≤100) (hp:p.length≤500) :
  aB R8 (fun v kn=>bif decide (v.1.2.2.1<(l.length:Int)) then ao (decide (0≤v.1.2.2.1)&&decide (v.1.2.2.1<(l.length:Int))) <| ao (dH (v.1.2.1.length+([f (l.getD v.1.2.2.1.toNat d)]:List Span).length) 16) <| kn (((),v.1.2.1++[f (l.getD v.1.2.2.1.toNat d)],aj (v.1.2.2.1+1),()),()) else K v.1.2.1) (((),p,0,()),())=K (p++l.map f):=by
 refine jE (γ:=R8) (fun v=>∃ n:Nat,v.1.2.2.1=n∧n≤l.length∧v.1.2.1=p++(l.take n).map f) (fun v=>(l.length - v.1.2.2.1).toNat) (fun v x=>x=_) (fV (by simp only;omega)) ⟨0,rfl,by omega,by simp⟩ ?_
 rintro ⟨⟨_,o,i,_⟩,_⟩ kn ⟨n,e1,hn,e2⟩ H
 simp only at e1 e2 ⊢
 subst e1 e2
 by_cases hc:n<l.length
 ·rw[decide_eq_true (show (n:Int)<(l.length:Int) by omega),cond_true,decide_eq_true (show (0:Int)≤n by omega),Bool.and_self,jc,arF (by simp;omega),jc,b7 (by omega) (by omega),Int.toNat_natCast]
  exact H _ ⟨n+1,by simp,by omega,by rw[List.append_assoc,Zz f l d hc]⟩ (by simp only;omega)
 ·have:n=l.length:=by omega
  subst this
  rw[decide_eq_false (by omega),cond_false,List.take_length]
theorem Qo (hf:iU b):f136 b=some (eM b):=by
 have h1:=hf.n
 have h2:=hf.m
 rw[afK];unfold JD
 refine (CI b.ah ay (·.Open) [] (fun o=>aB R8 (fun v kn=>Qn aB b v.1.2.1 v.1.2.2.1 (fun y0 y1=>kn (((),y0,y1,()),()))) (((),o,0,()),())) (by omega) (by simp)).trans ?_
 refine (CI b.ah ay (·.dK) _ (fun o=>aB R8 (fun v kn=>LR b v.1.2.1 v.1.2.2.1 (fun y0 y1=>kn (((),y0,y1,()),()))) (((),o,0,()),())) (by omega) (by simp;omega)).trans ?_
 refine (CI b.aZ cC (·.fo) _ (fun o=>some o) (by omega) (by simp;omega)).trans ?_
 rfl
theorem Ga:(eM b).length=2 * b.ah.length+b.aZ.length:=by simp[eM];omega
theorem as6 {i:Nat} (h:i<b.ah.length):(eM b).getD i cf=(acc b i).Open:=by
 unfold eM
 rw[List.getD_eq_getElem?_getD,List.append_assoc,List.getElem?_append_left (by simpa using h)]
 simp[acc,List.getD_eq_getElem?_getD,h]
theorem as7 {i:Nat} (h:i<b.ah.length):(eM b).getD (b.ah.length+i) cf=(acc b i).dK:=by
 unfold eM
 rw[List.getD_eq_getElem?_getD,List.append_assoc,List.getElem?_append_right (by simp),List.getElem?_append_left (by simp;omega)]
 simp[acc,List.getD_eq_getElem?_getD,h]
theorem alZ {i:Nat} (h:i<b.aZ.length):(eM b).getD (2 * b.ah.length+i) cf=(nb b i).fo:=by
 unfold eM
 rw[List.getD_eq_getElem?_getD,List.getElem?_append_right (by simp;omega)]
 simp only[List.length_append,List.length_map]
 rw[show 2 * b.ah.length+i - (b.ah.length+b.ah.length)=i by omega]
 simp[nb,List.getD_eq_getElem?_getD,h]
abbrev R9:=(Unit×Unit×Unit×Int×Unit)×((Int×Int×Unit)×Unit)
theorem xc (N:Nat) (c:Nat→Bool) (gl gh:Nat→Int) (L0 M0:Int) (K:Int→Int→Option Span) (step:Int→Int→Int→(Int→Int→Int→Option Span)→Option Span) (hN:N≤30) (hL:-8000000000≤L0∧L0≤8000000000) (hM:-8000000000≤M0∧M0≤8000000000)
  (hb:∀ k<N,(-1000000000≤gl k∧gl k≤1000000000)∧-1000000000≤gh k∧gh k≤1000000000)
  (hs:∀ (n:Nat) l m kn,n<N→step n l m kn=bif c n then kn (n+1) (aj (l+gl n)) (aj (m+gh n)) else kn (n+1) l m) (he:∀ l m kn,step N l m kn=K l m) :
  aB R9 (fun v kn=>step v.1.2.2.2.1 v.2.1.1 v.2.1.2.1 (fun y0 y1 y2=>kn (((),(),(),y0,()),((y1,y2,()),())))) (((),(),(),0,()),((L0,M0,()),()))=K (L0+sm c gl N) (M0+sm c gh N):=by
 refine jE (γ:=R9) (fun v=>∃ n:Nat,v.1.2.2.2.1=n∧n≤N∧v.2.1.1=L0+sm c gl n∧v.2.1.2.1=M0+sm c gh n) (fun v=>(N - v.1.2.2.2.1).toNat) (fun v x=>x=_) (fV (by simp only;omega)) ⟨0,rfl,by omega,by simp[sm],by simp[sm]⟩ ?_
 rintro ⟨⟨_,_,_,i,_⟩,⟨⟨l,m,_⟩,_⟩⟩ kn ⟨n,e1,hn,e2,e3⟩ H
 simp only at e1 e2 e3 ⊢
 subst e1
 by_cases hc:n<N
 ·rw[hs n _ _ _ hc]
  have hH:∀ l' m',l'=L0+sm c gl (n+1)→m'=M0+sm c gh (n+1)→kn (((),(),(),(n:Int)+1,()),((l',m',()),()))=_:=fun l' m' h1 h2=>H _ ⟨n+1,by simp,by omega,h1,h2⟩ (by simp only;omega)
  have b1:=AX (c:=c) (g:=gl) (B:=1000000000) (by decide) (n:=n) fun k hk=>(hb k (by omega)).1
  have b2:=AX (c:=c) (g:=gh) (B:=1000000000) (by decide) (n:=n) fun k hk=>(hb k (by omega)).2
  have b3:=hb n hc
  rw[b7 (n:=l+_) (by omega) (by omega),b7 (n:=m+_) (by omega) (by omega)]
  simp only[sm]at hH
  cases QM:c n<;>simp only[QM,cond_true,cond_false]at hH ⊢<;>exact hH _ _ (by omega) (by omega)
 ·have:n=N:=by omega
  subst this
  rw[he,e2,e3]
theorem anr (hf:iU b):f113 b s (-1)=some ⟨Gi b s,Gh b s⟩:=by
 have h1:=hf.n
 have h2:=hf.m
 rw[afz];unfold Jw
 rw[Qo hf,Option.bind_some]
 have a1:=bA hf (c:=cA s) (g:=wq b) (fun k hk=>by have:=yU hf k hk;omega) (n:=b.ah.length) (by omega)
 have a2:=bA hf (c:=cA s) (g:=wo b) (fun k hk=>by have:=yU hf k hk;omega) (n:=b.ah.length) (by omega)
 refine (xc b.ah.length (cA s) (wq b) (wo b) 0 0 (fun l m=>aB R9 (fun v kn=>oG b s (-1) (eM b) v.1.2.2.2.1 v.2.1.1 v.2.1.2.1 (fun y0 y1 y2=>kn (((),(),(),y0,()),((y1,y2,()),())))) (((),(),(),0,()),((l,m,()),()))) (fun i l m kn=>sT aB b s (-1) (eM b) i l m kn) (by omega) (by decide) (by decide) (fun k hk=>by have:=yU hf k hk;omega) (fun n l m kn hn=>?_) (fun l m kn=>?_)).trans ?_
 ·show sT aB b s (-1) (eM b) n l m kn=_
  unfold sT
  rw[decide_eq_true (show (n:Int)<(b.ah.length:Int) by omega),qL s (by omega),Option.bind_some,show ((n:Int) != -1)=true by simp,show (decide (0≤(n:Int))&&decide ((n:Int)<((eM b).length:Int)))=true by rw[Ga];simp;omega,Int.toNat_natCast,as6 hn,b7 (n:=(n:Int)+1) (by omega) (by omega)]
  rfl
 ·show sT aB b s (-1) (eM b) b.ah.length l m kn=_
  unfold sT
  rw[decide_eq_false (by omega),cond_false]
 ·refine (xc b.aZ.length (cI b s) (mX b) (mW b) _ _ (fun l m=>some ⟨l,m⟩) (fun i l m kn=>oG b s (-1) (eM b) i l m kn) h2 (by omega) (by omega) (Dn hf) (fun n l m kn hn=>?_) (fun l m kn=>?_)).trans ?_
  ·show oG b s (-1) (eM b) n l m kn=_
   obtain ⟨_,⟨f0,_⟩,t0,_⟩:=hf.v n hn
   have e1:aj (2 * (b.ah.length:Int))=2 * (b.ah.length:Int):=b7 (by omega) (by omega)
   have e2:aj (2 * (b.ah.length:Int)+n)=((2 * b.ah.length+n:Nat):Int):=by rw[b7 (by omega) (by omega)];simp
   have e3:(decide (0≤((2 * b.ah.length+n:Nat):Int))&&decide (((2 * b.ah.length+n:Nat):Int)<((eM b).length:Int)))=true:=by rw[Ga];simp;omega
   have e4:(((2 * b.ah.length+n:Nat):Int) != -1)=true:=by simp;omega
   unfold oG
   rw[decide_eq_true (show (n:Int)<(b.aZ.length:Int) by omega)]
   simp only[lD (show (0:Int)≤(n:Int) by omega) (show (n:Int)<b.aZ.length by omega),Int.toNat_natCast,e1,e2,e3,e4,alZ hn,b7 (n:=(n:Int)+1) (by omega) (by omega),jc,cond_true]
   rw[show b.aZ.getD n cC=nb b n from rfl,qL s t0,qL s f0]
   simp only[Option.bind_some]
   unfold cI
   cases has s (nb b n).To<;>cases has s (nb b n).bu<;>rfl
  ·show oG b s (-1) (eM b) b.aZ.length l m kn=_
   unfold oG
   rw[decide_eq_false (by omega)]
   rfl
  ·unfold Gi Gh
   simp only[Int.zero_add]
theorem ak6 (hf:iU b):f114 b s (-1)=some ⟨Gk b s,Gj b s⟩:=by
 have h1:=hf.n
 have h2:=hf.m
 rw[afA];unfold Jy
 rw[Qo hf,Option.bind_some]
 have a1:=bA hf (c:=cA s) (g:=wO b) (fun k hk=>by have:=yU hf k hk;omega) (n:=b.ah.length) (by omega)
 have a2:=bA hf (c:=cA s) (g:=wN b) (fun k hk=>by have:=yU hf k hk;omega) (n:=b.ah.length) (by omega)
 refine (xc b.ah.length (cA s) (wO b) (wN b) 0 0 (fun l m=>aB R9 (fun v kn=>oH b s (-1) (eM b) v.1.2.2.2.1 v.2.1.1 v.2.1.2.1 (fun y0 y1 y2=>kn (((),(),(),y0,()),((y1,y2,()),())))) (((),(),(),0,()),((l,m,()),()))) (fun i l m kn=>sU aB b s (-1) (eM b) i l m kn) (by omega) (by decide) (by decide) (fun k hk=>by have:=yU hf k hk;omega) (fun n l m kn hn=>?_) (fun l m kn=>?_)).trans ?_
 ·show sU aB b s (-1) (eM b) n l m kn=_
  have e2:aj ((b.ah.length:Int)+n)=((b.ah.length+n:Nat):Int):=by rw[b7 (by omega) (by omega)];simp
  have e3:(decide (0≤((b.ah.length+n:Nat):Int))&&decide (((b.ah.length+n:Nat):Int)<((eM b).length:Int)))=true:=by rw[Ga];simp;omega
  have e4:(((b.ah.length+n:Nat):Int) != -1)=true:=by simp;omega
  unfold sU
  rw[decide_eq_true (show (n:Int)<(b.ah.length:Int) by omega),qL s (by omega),Option.bind_some,e2,e3,e4,Int.toNat_natCast,as7 hn,b7 (n:=(n:Int)+1) (by omega) (by omega)]
  rfl
 ·show sU aB b s (-1) (eM b) b.ah.length l m kn=_
  unfold sU
  rw[decide_eq_false (by omega),cond_false]
 ·refine (xc b.aZ.length (cO b s) (mX b) (mW b) _ _ (fun l m=>some ⟨l,m⟩) (fun i l m kn=>oH b s (-1) (eM b) i l m kn) h2 (by omega) (by omega) (Dn hf) (fun n l m kn hn=>?_) (fun l m kn=>?_)).trans ?_
  ·show oH b s (-1) (eM b) n l m kn=_
   obtain ⟨_,⟨f0,_⟩,t0,_⟩:=hf.v n hn
   have e1:aj (2 * (b.ah.length:Int))=2 * (b.ah.length:Int):=b7 (by omega) (by omega)
   have e2:aj (2 * (b.ah.length:Int)+n)=((2 * b.ah.length+n:Nat):Int):=by rw[b7 (by omega) (by omega)];simp
   have e3:(decide (0≤((2 * b.ah.length+n:Nat):Int))&&decide (((2 * b.ah.length+n:Nat):Int)<((eM b).length:Int)))=true:=by rw[Ga];simp;omega
   have e4:(((2 * b.ah.length+n:Nat):Int) != -1)=true:=by simp;omega
   unfold oH
   rw[decide_eq_true (show (n:Int)<(b.aZ.length:Int) by omega)]
   simp only[lD (show (0:Int)≤(n:Int) by omega) (show (n:Int)<b.aZ.length by omega),Int.toNat_natCast,e1,e2,e3,e4,alZ hn,b7 (n:=(n:Int)+1) (by omega) (by omega),jc,cond_true]
   rw[show b.aZ.getD n cC=nb b n from rfl,qL s t0,qL s f0]
   simp only[Option.bind_some]
   unfold cO
   cases has s (nb b n).To<;>cases has s (nb b n).bu<;>rfl
  ·show oH b s (-1) (eM b) b.aZ.length l m kn=_
   unfold oH
   rw[decide_eq_false (by omega)]
   rfl
  ·unfold Gk Gj
   simp only[Int.zero_add]
end Go.Proofs.fu
namespace Go.Proofs.fu
open Go Go.Ab
set_option linter.all false
set_option maxRecDepth 100000
variable {b:aH}{s:Int}
theorem adj:∀ {n m:Nat},n≤m→gr b s m=true→gr b s n=true
 |n,0,h,hg=>by
  have e:n=0:=by omega
  subst e;rfl
 |n,m+1,h,hg=>by
  by_cases e:n=m+1
  ·subst e;exact hg
  ·simp only[gr,Bool.and_eq_true]at hg
   exact adj (by omega) hg.1
theorem abc (hf:iU b):f115 b s (-1)=some (!gr b s b.ah.length):=by
 have h1:=hf.n
 rw[afB];unfold Jz
 refine jE (γ:=R2) (fun v=>∃ n:Nat,v.1.2.1=n∧n≤b.ah.length∧gr b s n=true) (fun v=>(b.ah.length - v.1.2.1).toNat) (fun v x=>x=_) (fV (by simp only;omega)) ⟨0,rfl,by omega,rfl⟩ ?_
 rintro ⟨⟨_,i,_⟩,_⟩ kn ⟨n,e1,hn,e2⟩ H
 simp only at e1 e2 ⊢
 subst e1
 unfold Qm
 by_cases hc:n<b.ah.length
 ·have hk:=(hf.a n hc).2.2
  have hH:gr b s (n+1)=true→kn (((),(n:Int)+1,()),())=some (!gr b s b.ah.length):=fun h=>H _ ⟨n+1,by simp,by omega,h⟩ (by simp only;omega)
  have hL:gr b s (n+1)=false→some true=some (!gr b s b.ah.length):=fun h=>by
   cases hg:gr b s b.ah.length with
   |false=>rfl
   |true=>rw[adj (by omega) hg]at h;cases h
  rw[decide_eq_true (show (n:Int)<(b.ah.length:Int) by omega),qL s (by omega),Option.bind_some,show ((n:Int) != -1)=true by simp,b7 (n:=(n:Int)+1) (by omega) (by omega)]
  simp only[cond_true,lD (show (0:Int)≤(n:Int) by omega) (show (n:Int)<b.ah.length by omega),jc,Int.toNat_natCast]
  rw[show b.ah.getD n ay=acc b n from rfl]
  simp only[gr,e2,cA,Bool.true_and]at hH hL
  cases hh:has s n with
  |false=>exact hH (by rw[hh];rfl)
  |true =>
   rcases hk with hk|hk
   ·rw[hk];exact hL (by rw[hh,hk];rfl)
   ·rw[hk];exact hH (by rw[hh,hk];rfl)
 ·have:n=b.ah.length:=by omega
  subst this
  rw[decide_eq_false (by omega),e2];rfl
theorem aaJ (k:Int):has 0 k=false:=by
 unfold has
 rw[show oQ .i64 0 k=0 by unfold oQ;exact Int.zero_fdiv _]
 decide +kernel
theorem Ki {c:Nat→Bool} (hc:∀ k,c k=false) (g:Nat→Int):∀ n,sm c g n=0
 |0=>rfl
 |n+1=>by simp only[sm,Ki hc g n,hc n];rfl
theorem ars:bad b 0=false:=by
 have a:∀ k,cA 0 k=false:=fun k=>aaJ _
 have i:∀ k,cI b 0 k=false:=fun k=>by unfold cI;rw[aaJ];rfl
 have o:∀ k,cO b 0 k=false:=fun k=>by unfold cO;rw[aaJ];rfl
 unfold bad pZ least Gi Gh Gk Gj
 simp only[Ki a,Ki i,Ki o]
 cases gr b 0 b.ah.length<;>rfl
theorem Pm (hf:iU b):f89 b=some (!anyS (fun s=>bad b s) (jQ b) 0):=by
 have hs:=RI hf
 have h0:0<jQ b:=Nat.two_pow_pos _
 rw[yW _ h0,show bad b ((0:Nat):Int)=false from ars,Bool.false_or]
 rw[ajb];unfold TV
 refine jE (γ:=R2) (fun v=>∃ n:Nat,v.1.2.1=n∧n≤jQ b) (fun v=>(jQ b - v.1.2.1).toNat) (fun v x=>x=some (!anyS (fun s=>bad b s) (jQ b) v.1.2.1.toNat)) (fV (by simp only;omega)) ⟨1,rfl,h0⟩ ?_
 rintro ⟨⟨_,i,_⟩,_⟩ kn ⟨n,e1,hn⟩ H
 simp only at e1 ⊢
 subst e1
 unfold Xl
 rw[afy];unfold Jv
 rw[decide_eq_true (by omega),jc,Option.bind_some,Zt hf,Int.toNat_natCast]
 by_cases hc:n<jQ b
 ·rw[decide_eq_true (show (n:Int)<(jQ b:Int) by omega),anr hf,ak6 hf,abc hf,yW _ hc,b7 (by omega) (by omega)]
  have hk:=H (((),(n:Int)+1,()),()) ⟨n+1,by simp,by omega⟩ (by simp only;omega)
  simp only at hk
  rw[show ((n:Int)+1).toNat=n+1 by omega]at hk
  have hb:bad b n=(decide (Gk b n > Gh b n) || (gr b n b.ah.length&&decide (Gi b n > Gj b n))):=by
   unfold bad pZ least
   rw[show decide (Gh b n - Gk b n<0)=decide (Gk b n > Gh b n) by rw[decide_eq_decide];omega,show decide (Gi b n - Gj b n > 0)=decide (Gi b n > Gj b n) by rw[decide_eq_decide];omega]
  simp only[cond_true,Option.bind_some,hk,Bool.not_not,hb]
  cases decide (Gk b n > Gh b n)<;>cases gr b n b.ah.length<;>cases decide (Gi b n > Gj b n)<;>rfl
 ·have:n=jQ b:=by omega
  subst this
  rw[decide_eq_false (by omega),KR];rfl
theorem ahB (b:aH) (hn:b.ah.length≤1000000) (hm:b.aZ.length≤1000000) (hs:∀ i<b.ah.length,(nm b i).size≤1000000):av (f33 b) (f45 b):=by
 rw[ain];unfold S9
 refine form b hn hm hs _ (fun r hr=>?_) fun hf=>?_
 ·rw[show (r != 0)=true by simpa using hr];rfl
 ·rw[Pm hf,Option.bind_some,show ((0:Int) != 0)=false from rfl,cond_false]
  exact⟨_,aau hf,by cases anyS (fun s=>bad b s) (jQ b) 0<;>rfl⟩
structure HJ (r:Region):Prop where
 re:r.aI.Reaches.length≤1000000
 sh:r.aN.fS.length≤1000000
 cr:r.aN.iv.length≤1000000
 ac:r.aH.ah.length≤1000000
 an:∀ i<r.aH.ah.length,(r.aH.ah.getD i ay).Name.size≤1000000
 mo:r.aH.aZ.length≤1000000
 rs:wY r.aw
 dr:r.bD.length≤1000000
 dn:∀ i<r.bD.length,CG (r.bD.getD i cR)
theorem ahy (r:Region) (h:HJ r):av (f10 r) (f11 r):=by
 rw[WQ,aia];unfold SQ SR
 rw[aie,aih,aij,aim,aio,aiq,ais,aiu]
 unfold SW SY S5 S8 Tc Te Tg Ti
 have hb:∀ x:Option Int,(x.bind fun r=>some r)=x:=fun x=>by cases x<;>rfl
 simp only[hb]
 refine av.b (Wh _ h.re) fun _ _ _=>av.c av.s (av.b (ahz _ h.sh h.cr) fun _ _ _=>av.c av.s ?_)
 rw[ail,aiy];unfold S7 Tm
 obtain ⟨n,e1,e2⟩:=ahH r h.re
 rw[e1,e2]
 simp only[Option.bind_some]
 refine av.b (ahA _ _ _ _) fun _ _ _=>av.c av.s (av.b (ahB _ h.ac h.mo h.an) fun _ _ _=>av.c av.s (av.b (ahC _ h.rs) fun _ _ _=>av.c av.s (av.b (ahD _) fun _ _ _=>av.c av.s (av.b (ahE _ h.dr h.dn) fun _ _ _=>av.c av.s ?_))))
 obtain ⟨a,q1,q2⟩:=ahF r.bb r.bR
 refine ⟨a,?_,q2⟩
 rw[q1]
 cases h:a != 0 with
 |true=>rw[Option.bind_some,h];rfl
 |false =>
  have:a=0:=by simpa using h
  subst this;rfl
end Go.Proofs.fu
namespace Go.Proofs.fu
open Go Go.Ab
set_option linter.all false
set_option maxRecDepth 100000
theorem ag7 (n:Int):0≤IntKind.u64.wrap n∧IntKind.u64.wrap n<18446744073709551616:=by
 unfold IntKind.wrap
 simp[IntKind.bits,IntKind.signed]
 omega
theorem amh {n:Int} (h1:0≤n) (h2:n<18446744073709551616):IntKind.u64.wrap n=n:=by
 unfold IntKind.wrap
 simp[IntKind.bits,IntKind.signed]
 omega
theorem ZG (n:Int):aj n≤9223372036854775807:=by
 unfold aj IntKind.wrap
 simp[IntKind.bits,IntKind.signed,Int.bmod_def]
 omega
theorem Rb (s:ax):Ok (fun r=>0≤r.2∧r.2<18446744073709551616) (next s):=by
 rw[agf]
 exact⟨_,rfl,ag7 _⟩
theorem mr (s:ax) {n:Int} (hn:n≤9223372036854775807):Ok (fun r=>0≤r.2∧(r.2<n∨r.2=0)) (Below s n):=by
 rw[ZT]
 refine Ok.ite (fun h=>Ok.some ⟨Int.le_refl _,.inr rfl⟩) fun h=>?_
 have hn2:¬ n<2:=by simpa using h
 refine Ok.bind (Rb s) fun r hr=>?_
 have hu:IntKind.u64.wrap n=n:=amh (by omega) (by omega)
 refine Ok.ao (by rw[hu];simp;omega) (Ok.some ?_)
 rw[hu]
 have e:oQ .u64 r.2 1=r.2 / 2:=by
  unfold oQ
  rw[Int.fdiv_eq_ediv_of_nonneg _ (by decide)]
  simp[IntKind.bits]
 rw[e,Int.tmod_eq_emod_of_nonneg (by omega)]
 have h1:=Int.emod_nonneg (r.2 / 2) (show n≠0 by omega)
 have h2:=Int.emod_lt_of_pos (r.2 / 2) (show 0<n by omega)
 rw[b7 (by omega) (by omega)]
 exact⟨h1,.inl h2⟩
theorem vM (s:ax) {n:Int} (hn:n≤9223372036854775807):Ok (fun _=>True) (Below s n):=Ok.mono (mr s hn) fun _ _=>trivial
theorem A4 (s:ax) (n:Int):Ok (fun _=>True) (Below s (aj n)):=vM s (ZG n)
theorem Jg (s:ax) (a b:Int):Ok (fun _=>True) (bu s a b):=by
 rw[Py];unfold DY
 exact Ok.bind (A4 _ _) fun _ _=>Ok.some trivial
theorem qC (s:ax) {a b:Int} (h0:0≤a) (h1:a≤b) (h2:b≤1000000):Ok (fun r=>a≤r.2∧r.2≤b) (bu s a b):=by
 rw[Py];unfold DY
 rw[b7 (n:=b - a) (by omega) (by omega),b7 (n:=b - a+1) (by omega) (by omega)]
 refine Ok.bind (mr s (by omega)) fun r hr=>Ok.some ?_
 simp only
 rw[b7 (by omega) (by omega)]
 omega
theorem arq (s:ax) (n:Int) (hn:n≤9223372036854775807):Ok (fun _=>True) (PD s n):=by
 rw[aht];unfold Sl
 exact Ok.bind (vM _ hn) fun _ _=>Ok.some trivial
theorem Sd (s:ax) (l:List Int) (h0:decide (1≤l.length)&&decide (l.length≤1000)=true):Ok (fun r=>r.2∈l) (Of s l):=by
 simp only[Bool.and_eq_true,decide_eq_true_eq]at h0
 rw[amV];unfold Of'
 refine Ok.ite (fun h=>?_) fun h=>Ok.bind (mr s (n:=(l.length:Int)) (by omega)) fun r hr=>Ok.ao ?_ (Ok.some ?_)
 ·simp at h;subst h;simp at h0
 ·simp;omega
 ·simp only
  rw[List.getD_eq_getElem?_getD,List.getElem?_eq_getElem (by omega)]
  exact List.getElem_mem _
theorem amX (s:ax) (a b:Int):Ok (fun _=>True) (mA s a b):=by
 rw[V1];unfold Bc
 refine Ok.bind (Jg _ _ _) fun _ _=>Ok.bind (vM _ (by decide)) fun _ _=>Ok.ite (fun _=>Ok.bind (Jg _ _ _) fun _ _=>Ok.some trivial) fun _=>Ok.ite (fun _=>Ok.bind (Jg _ _ _) fun _ _=>Ok.some trivial) fun _=>Ok.some trivial
theorem aeV (s:ax) (a b:Int):Ok (fun _=>True) (mD s a b):=by
 rw[Wd];unfold Bg
 exact Ok.bind (A4 _ _) fun _ _=>Ok.bind (Sd _ _ rfl) fun _ _=>Ok.bind (A4 _ _) fun _ _=>Ok.bind (Sd _ _ rfl) fun _ _=>Ok.some trivial
theorem aeS {x n:Int} (h0:0≤x) (h1:x≤1000000) (hn:1≤n) (hm:n≤1000000):Ok (fun r=>0≤r∧r<n) (Z0 x n):=by
 rw[aeR];unfold Ji
 refine Ok.ite (fun h=>Ok.some ⟨Int.le_refl _,by omega⟩) fun h=>?_
 have e:(n != 0)=true:=by simp;omega
 rw[e]
 refine Ok.some ?_
 rw[Int.tmod_eq_emod_of_nonneg h0]
 have h1:=Int.emod_nonneg x (show n≠0 by omega)
 have h2:=Int.emod_lt_of_pos x (show 0<n by omega)
 rw[b7 (by omega) (by omega),Int.tmod_eq_emod_of_nonneg (by omega)]
 exact⟨Int.emod_nonneg _ (by omega),Int.emod_lt_of_pos _ (by omega)⟩
theorem Sc {ij:List Int} (hn:ij.length≤9223372036854775807):Ok (fun _=>True) (Gm ij):=by
 rw[Sb];unfold wV
 refine Ok.rounds (fun v=>0≤v.1.2.1∧v.1.2.1≤ij.length) (fun v=>((ij.length:Int) - v.1.2.1).toNat) ?_ ?_ ?_
 ·show ((ij.length:Int) - 0).toNat<18446744073709551616
  omega
 ·simp
 ·rintro ⟨⟨_,i,_⟩,⟨w,_⟩,_⟩ kn df hk
  simp only at df
  refine Ok.ite (fun cz=>?_) fun _=>Ok.some trivial
  simp only[decide_eq_true_eq]at cz
  have e:aj (i+1)=i+1:=b7 (by omega) (by omega)
  refine Ok.ao (by simp;omega) (Ok.bind (Rb _) fun r _=>hk _ ?_ ?_)
  ·simp[e];omega
  ·simp[e];omega
theorem db {α β:Type}{Q:β→Prop}{x:Option α}{f:α→Option β} (hf:∀ a,Ok Q (f a)) (hx:Ok (fun _=>True) x:=by first|exact Jg _ _ _|exact amX _ _ _|exact aeV _ _ _|exact Ok.mono (Sd _ _ rfl) (fun _ _=>trivial)|exact vM _ (by decide)|exact A4 _ _|exact arq _ _ (by decide)):Ok Q (x.bind f):=Ok.bind hx fun a _=>hf a
theorem gp {α:Type}{Q:α→Prop}{b:Bool}{x:Option α} (hx:Ok Q x) (hb:b=true:=by simp;omega):Ok Q (ao b x):=Ok.ao hb hx
theorem fit {n b:Nat} (hn:n≤1000) (hb:b≤1000:=by decide):dH n b=true:=by
 have:n * b≤1000 * 1000:=Nat.mul_le_mul hn hb
 unfold dH;simp;omega
theorem k8 {n:Nat} (h:n≤1000):n<iM:=by unfold iM;omega
theorem KH (s:ax) (Ca:Int):Ok (fun r=>r.2.length≤5) (Bd s Ca):=by
 rw[Si];unfold wZ
 refine Ok.bind (mr s (by decide)) fun r hr=>?_
 refine Ok.rounds (fun v=>0≤v.1.2.2.2.2.1∧v.1.2.1.length+v.1.2.2.2.2.1≤5) (fun v=>v.1.2.2.2.2.1.toNat) (k8 (by simp only;omega)) ⟨hr.1,by simp;omega⟩ ?_
 rintro ⟨⟨_,out,at_,part,i,_⟩,⟨w,_⟩,_⟩ kn ⟨h0,h1⟩ hk
 simp only at h0 h1
 refine Ok.ite (fun h=>?_) fun _=>Ok.some (by simp only;omega)
 have hi:=of_decide_eq_true h;simp only at hi
 have e:aj (i - 1)=i - 1:=b7 (by omega) (by omega)
 refine db fun _=>db fun _=>db fun _=>db fun _=>?_
 refine Ok.ao (fit (by simp;omega)) (hk _ ?_ ?_)
 ·simp[e];omega
 ·simp[e];omega
theorem aeJ (s:ax) {n:Int} (h0:1≤n) (h1:n≤1000):Ok (fun _=>True) (KC s n):=by
 rw[VV];unfold Ba
 refine Ok.bind (vM s (by omega)) fun _ _=>?_
 refine db fun _=>db fun _=>db fun _=>db fun _=>?_
 exact Ok.ao (by simp;omega) (Ok.some trivial)
theorem aeK (s:ax) {n:Int} (h0:1≤n) (h1:n≤100):Ok (fun r=>r.2.nX.length≤100) (D0 s n):=by
 rw[VX];unfold Bb
 refine Ok.bind (vM s (by omega)) fun _ _=>?_
 refine db fun _=>db fun _=>db fun _=>db fun _=>db fun _=>db fun _=>?_
 refine Ok.ite (fun _=>?_) fun _=>Ok.some (by simp)
 refine db fun _=>?_
 refine Ok.rounds (fun v=>0≤v.1.2.2.2.1∧v.1.2.2.2.1≤n∧v.2.2.1.2.2.2.2.2.2.1.length=v.1.2.2.2.1) (fun v=>(n - v.1.2.2.2.1).toNat) (k8 (by simp only;omega)) ⟨by simp,by simp;omega,by simp⟩ ?_
 rintro ⟨⟨_,_,_,i,_⟩,⟨w,_⟩,⟨a,b,c,d,e,f,l,_⟩,_⟩ kn ⟨h0,h1,h2⟩ hk
 simp only at h0 h1 h2
 refine Ok.ite (fun h=>?_) fun _=>Ok.some (by simp only;omega)
 have hi:=of_decide_eq_true h;simp only at hi
 have e:aj (i+1)=i+1:=b7 (by omega) (by omega)
 refine db fun _=>?_
 refine Ok.ao (fit (by simp;omega)) (hk _ ?_ ?_)
 ·simp[e];omega
 ·simp[e];omega
theorem V3 (s:ax):Ok (fun r=>r.2.Reaches.length≤4) (CH s 4):=by
 rw[OY];unfold uw
 refine db fun _=>db fun _=>db fun _=>?_
 refine Ok.bind (qC _ (by decide) (by decide) (by decide)) fun r hr=>?_
 refine Ok.rounds (fun v=>0≤v.1.2.2.2.1∧v.2.2.1.1.length+v.1.2.2.2.1≤4) (fun v=>v.1.2.2.2.1.toNat) (k8 (by simp only;omega)) ⟨by simp only;omega,by simp;omega⟩ ?_
 rintro ⟨⟨_,_,_,i,_⟩,⟨w,_⟩,⟨l,x,y,z,_⟩,_⟩ kn ⟨h0,h1⟩ hk
 simp only at h0 h1
 refine Ok.ite (fun h=>?_) fun _=>Ok.some (by simp only;omega)
 have hi:=of_decide_eq_true h;simp only at hi
 refine Ok.bind (qC (b:=i) _ (by decide) (by omega) (by omega)) fun r2 h2=>?_
 refine Ok.ite (fun h=>?_) fun _=>?_
 ·simp only[beq_iff_eq]at h
  omega
 have e:aj (i - r2.2)=i - r2.2:=b7 (by omega) (by omega)
 refine db fun _=>db fun _=>db fun _=>db fun _=>db fun _=>db fun _=>db fun _=>db fun _=>?_
 refine Ok.ao (fit (by simp;omega)) (hk _ ?_ ?_)
 ·simp[e];omega
 ·simp[e];omega
theorem ZV (s:ax):Ok (fun r=>r.2.fS.length≤5∧r.2.iv.length≤5) (Gn s):=by
 rw[Se];unfold wX
 refine db fun _=>db fun _=>db fun _=>?_
 refine Ok.bind (KH _ _) fun r4 h4=>Ok.bind (KH _ _) fun r5 h5=>?_
 refine db fun _=>db fun _=>db fun _=>db fun _=>db fun _=>db fun _=>db fun _=>db fun _=>db fun _=>db fun _=>?_
 exact Ok.some ⟨h4,h5⟩
end Go.Proofs.fu
namespace Go.Proofs.fu
open Go Go.Ab
set_option linter.all false
set_option maxRecDepth 100000
theorem aeL (w sp:Int) (paths:List Path) (kn) (h0:1≤sp) (h1:sp≤3) (hp:paths.length≤1000):Ok (fun r=>wY r.2∧r.2.eR≠[]) (B0 aB 3 0 w sp paths kn):=by
 show Ok _ ((Below _ _).bind _)
 refine Ok.bind (mr _ (by decide)) fun r hr=>?_
 have hw:aj (3+1)=4:=by decide
 have Co:r.2≤3:=by omega
 refine Ok.rounds (fun v=>0≤v.1.2.2.2.1∧v.2.2.1.1=sp∧v.2.2.1.2.2.1.length+v.1.2.2.2.1≤3∧∀ p∈v.2.2.1.2.2.1,p.nX.length≤100) (fun v=>v.1.2.2.2.1.toNat) (k8 (by simp only;omega)) ⟨hr.1,rfl,by simp;omega,by simp⟩ ?_
 rintro ⟨⟨_,_,_,i,_⟩,⟨w,_⟩,⟨Ox,_,rB,_⟩,_⟩ kn ⟨h2,h3,h4,h5⟩ hk
 simp only at h2 h3 h4 h5
 subst h3
 refine Ok.ite (fun h=>?_) fun _=>?_
 ·have hi:=of_decide_eq_true h;simp only at hi
  have e:aj (i - 1)=i - 1:=b7 (by omega) (by omega)
  refine Ok.bind (aeK (n:=Ox) _ h0 (by omega)) fun r5 h6=>Ok.ao (fit (by simp;omega)) (hk _ ?_ ?_)
  ·refine ⟨by simp[e];omega,rfl,by simp[e];omega,?_⟩
   intro p hp
   rcases List.mem_append.1 hp with h|h
   ·exact h5 p h
   ·rw[List.mem_singleton.1 h];exact h6
  ·simp[e];omega
 clear hk
 refine Ok.rounds (fun v=>0≤v.1.2.2.2.1∧v.2.2.1.1=Ox∧v.1.2.2.2.1≤Ox∧v.2.2.1.2.2.2.1.length=v.1.2.2.2.1) (fun v=>(Ox - v.1.2.2.2.1).toNat) (k8 (by simp only;omega)) ⟨by simp,rfl,by simp;omega,by simp⟩ ?_
 rintro ⟨⟨_,_,_,i,_⟩,⟨w,_⟩,⟨sp,_,_,avU,_⟩,_⟩ kn ⟨h2,h3,h6,h7⟩ hk
 simp only at h2 h3 h6 h7
 subst h3
 refine Ok.ite (fun h=>?_) fun _=>?_
 ·have hi:=of_decide_eq_true h;simp only at hi
  have e:aj (i+1)=i+1:=b7 (by omega) (by omega)
  refine db fun _=>db fun _=>?_
  refine Ok.ao (fit (by simp;omega)) (hk _ ?_ ?_)
  ·refine ⟨by simp[e];omega,rfl,by simp[e];omega,by simp[e];omega⟩
  ·simp[e];omega
 clear hk
 refine db fun _=>?_
 refine Ok.bind (qC _ (by decide) (by decide) (by decide)) fun r9 h9=>?_
 refine Ok.rounds (fun v=>(v.2.2.1.2.2.2.2.1≠[]∨0<v.1.2.2.2.2.2.1)∧0≤v.1.2.2.2.2.2.1∧v.2.2.1.2.2.2.2.1.length+v.1.2.2.2.2.2.1≤4) (fun v=>v.1.2.2.2.2.2.1.toNat) (k8 (by simp only;omega)) ⟨.inr (by simp only;omega),by simp only;omega,by simp;omega⟩ ?_
 rintro ⟨⟨_,_,_,VL,_,i,_⟩,⟨w,_⟩,⟨sp,_,_,_,ch,_⟩,⟨lo,hi_,_⟩,_⟩ kn ⟨h2,h3,h8⟩ hk
 simp only at h2 h3 h8
 refine Ok.ite (fun h=>?_) fun h=>?_
 ·have hi:=of_decide_eq_true h;simp only at hi
  have e:aj (i - 1)=i - 1:=b7 (by omega) (by omega)
  refine Ok.ao (fit (by simp;omega)) ?_
  refine db fun _=>db fun _=>db fun _=>?_
  refine hk _ ⟨.inl (by simp),by simp[e];omega,by simp[e];omega⟩ (by simp[e];omega)
 ·have hi:=of_decide_eq_false h;simp only at hi
  refine Ok.some ⟨⟨by simp only;omega,by simp only;omega,by simp only;omega,by simp only;omega,?_⟩,?_⟩
  ·intro i hi
   simp only at hi ⊢
   rw[List.getD_eq_getElem?_getD,List.getElem?_eq_getElem hi]
   have:=h5 _ (List.getElem_mem hi)
   simp only[Option.getD_some];omega
  ·rcases h2 with h|h
   ·exact h
   ·omega
theorem VZ (s:ax):Ok (fun r=>wY r.2∧r.2.eR≠[]) (CF s 3 3):=by
 rw[OW];unfold uu
 refine Ok.bind (qC _ (by decide) (by decide) (by decide)) fun r hr=>?_
 refine Ok.bind (mr _ (ZG _)) fun r2 h2=>?_
 have e:aj (3 * r.2)=3 * r.2:=b7 (by omega) (by omega)
 rw[e]at h2
 refine Ok.rounds (fun v=>0≤v.1.2.2.2.1∧1≤v.2.2.1.1∧v.2.2.1.1≤3∧v.2.2.1.2.1.length+v.1.2.2.2.1≤100) (fun v=>v.1.2.2.2.1.toNat) (k8 (by simp only;omega)) ⟨h2.1,hr.1,hr.2,by simp;omega⟩ ?_
 rintro ⟨⟨_,_,_,i,_⟩,⟨w,_⟩,⟨sp,paths,_⟩,_⟩ kn ⟨h3,h4,h5,h6⟩ hk
 simp only at h3 h4 h5 h6
 have key:=fun w=>aeL w sp paths (fun _ _ _ _=>none) h4 h5 (by omega)
 refine Ok.ite (fun h=>?_) fun _=>key w
 have hi:=of_decide_eq_true h;simp only at hi
 refine Ok.ite (fun h=>?_) fun _=>key w
 have e:aj (i - 1)=i - 1:=b7 (by omega) (by omega)
 refine Ok.bind (aeJ (n:=sp) _ h4 (by omega)) fun _ _=>Ok.ao (fit (by simp;omega)) (hk _ ⟨by simp[e];omega,h4,h5,by simp[e];omega⟩ (by simp[e];omega))
def NA (l:List aU):Prop:=∀ a∈l,a.Name.size≤1000
theorem VU {l:List aU} (h:NA l) {i:Nat} (k:Int) (o c:Span) (hi:i<l.length):NA (l.set i ⟨(l.getD i ay).Name,k,o,c⟩):=by
 intro a ha
 rcases List.mem_or_eq_of_mem_set ha with h1|h1
 ·exact h a h1
 ·subst h1
  simp only
  rw[List.getD_eq_getElem?_getD,List.getElem?_eq_getElem hi]
  exact h _ (List.getElem_mem hi)
theorem nm8:∀ k:Nat,([(⟨#[114,97,99,107]⟩:ByteArray),⟨#[99,97,109,112]⟩,⟨#[103,114,111,117,110,100]⟩,⟨#[116,114,117,99,107]⟩,⟨#[109,105,110,101]⟩,⟨#[97]⟩,⟨#[97,98,99,100,101,102,103,104]⟩,⟨#[122]⟩].getD k ⟨#[]⟩).size≤1000
 |0|1|2|3|4|5|6|7=>by decide
 |n+8=>by simp;decide
theorem ZU (wide:Int) (mv:List fF) (to tm hv:List Int) (ac:List aU) (w:Int) (h1:ac.length=hv.length) (h2:1≤hv.length) (h3:hv.length≤4) (h4:NA ac) (h5:mv.length≤3) (bm:List fF) (kn) :
  Ok (fun r=>1≤r.2.b.ah.length∧r.2.b.ah.length≤4∧NA r.2.b.ah∧r.2.b.aZ.length≤3) (sG aB wide to ac hv 0 w mv tm kn):=by
 unfold sG
 simp only[show decide ((0:Int) > 0)=false from rfl,cond_false]
 refine Ok.rounds (fun v=>0≤v.1.2.2.2.2.2.2.1∧v.1.2.2.2.2.2.2.1≤hv.length∧v.2.2.1.1.length=hv.length∧NA v.2.2.1.1∧v.2.2.2.1.2.1.length=v.1.2.2.2.2.2.2.1) (fun v=>(hv.length - v.1.2.2.2.2.2.2.1).toNat) (k8 (by simp only;omega)) ⟨by simp,by simp,h1,h4,by simp⟩ ?_
 rintro ⟨⟨_,_,_,_,_,_,i,_⟩,⟨w,_⟩,⟨ac,_⟩,⟨_,tc,_⟩,_⟩ kn ⟨q1,q2,q3,q4,q5⟩ hk
 simp only at q1 q2 q3 q4 q5
 refine Ok.ite (fun h=>?_) fun _=>Ok.some ⟨by simp only;omega,by simp only;omega,q4,h5⟩
 have hi:=of_decide_eq_true h;simp only at hi
 have e:aj (i+1)=i+1:=b7 (by omega) (by omega)
 have key:∀ (w k:Int) (o c:Span) (n:Int),Ok (fun r=>1≤r.2.b.ah.length∧r.2.b.ah.length≤4∧NA r.2.b.ah∧r.2.b.aZ.length≤3) (ao (decide (0≤i)&&decide (i<(ac.length:Int))) <| ao (decide (i.toNat<ac.length)) <| ao (dH (tc.length+[n].length) 8) <| kn (((),(),(),(),(),(),aj (i+1),()),((w,()),(ac.set i.toNat ⟨(ac.getD i.toNat ay).Name,k,o,c⟩,(),()),((),tc++[n],(),()),()))):=by
  intro w k o c n
  refine gp (gp ?_)
  refine Ok.ao (fit (by simp;omega)) (hk _ ⟨by simp[e];omega,by simp[e];omega,by simp[q3],VU q4 k o c (by omega),by simp[e];omega⟩ (by simp[e];omega))
 refine gp (gp (gp (gp ?_)))
 refine Ok.ite (fun _=>?_) fun _=>?_
 ·refine db fun _=>?_
  refine Ok.ite (fun _=>?_) fun _=>?_
  ·refine db fun _=>db fun _=>?_
   exact key _ _ _ _ _
  ·refine db fun _=>?_
   exact key _ _ _ _ _
 ·refine db fun _=>?_
  exact key _ _ _ _ _
theorem aeI (s:ax) (wide:Int):Ok (fun r=>1≤r.2.b.ah.length∧r.2.b.ah.length≤4∧NA r.2.b.ah∧r.2.b.aZ.length≤3) (Kw s 4 3 1000 wide):=by
 rw[VR];unfold A5
 simp only[List.length_cons,List.length_nil]
 rw[show min (4:Int) ((0+1+1+1+1+1+1+1+1:Nat):Int)=4 by decide]
 refine Ok.bind (qC _ (by decide) (by decide) (by decide)) fun r hr=>?_
 refine Ok.rounds (fun v=>0≤v.1.2.2.2.2.2.2.2.1∧1≤v.2.2.1.1.length+v.1.2.2.2.2.2.2.2.1∧v.2.2.1.1.length+v.1.2.2.2.2.2.2.2.1≤4∧NA v.2.2.1.1∧v.1.2.2.2.2.2.2.1.length=v.2.2.1.1.length∧v.2.2.2.1.1.length=v.2.2.1.1.length) (fun v=>v.1.2.2.2.2.2.2.2.1.toNat) (k8 (by simp only;omega)) ⟨by simp only;omega,by simp;omega,by simp;omega,fun a h=>(by cases h),rfl,rfl⟩ ?_
 rintro ⟨⟨_,_,_,_,_,_,hv,i,_⟩,⟨w,_⟩,⟨ac,_⟩,⟨to,_⟩,_⟩ kn ⟨q1,q2,q3,q4,q5,q6⟩ hk
 simp only at q1 q2 q3 q4 q5 q6
 refine Ok.ite (fun h=>?_) fun h=>?_
 ·have hi:=of_decide_eq_true h;simp only at hi
  have e:aj (i - 1)=i - 1:=b7 (by omega) (by omega)
  have nm:∀ k o c,NA (ac++[⟨([(⟨#[114,97,99,107]⟩:ByteArray),⟨#[99,97,109,112]⟩,⟨#[103,114,111,117,110,100]⟩,⟨#[116,114,117,99,107]⟩,⟨#[109,105,110,101]⟩,⟨#[97]⟩,⟨#[97,98,99,100,101,102,103,104]⟩,⟨#[122]⟩].getD (ac.length:Int).toNat ⟨#[]⟩),k,o,c⟩]):=by
   intro k o c a ha
   rcases List.mem_append.1 ha with h|h
   ·exact q4 a h
   ·rw[List.mem_singleton.1 h];exact nm8 _
  refine db fun _=>?_
  refine Ok.ite (fun _=>?_) fun _=>?_ <;>
  ·refine db fun _=>db fun _=>gp (gp (db fun _=>?_))
   refine Ok.ao (fit (by simp;omega)) (Ok.ao (fit (by simp;omega)) (Ok.ao (fit (by simp;omega)) (hk _ ⟨by simp[e];omega,by simp[e];omega,by simp[e];omega,nm _ _ _,by simp[q5],by simp[q6]⟩ (by simp[e];omega))))
 ·have hi:=of_decide_eq_false h;simp only at hi
  clear hk
  refine Ok.bind (mr _ (by decide)) fun r9 h9=>?_
  rw[show aj (3+1)=4 by decide]at h9
  refine Ok.rounds (fun v=>0≤v.1.2.2.2.2.2.2.1∧v.2.2.1.2.1.length+v.1.2.2.2.2.2.2.1≤3∧v.1.2.2.2.2.2.1.length=ac.length∧v.2.2.2.1.2.2.1.length=v.2.2.1.2.1.length) (fun v=>v.1.2.2.2.2.2.2.1.toNat) (k8 (by simp only;omega)) ⟨h9.1,by simp;omega,q5,rfl⟩ ?_
  rintro ⟨⟨_,_,_,_,_,hv,i,_⟩,⟨w,_⟩,⟨_,mv,_⟩,⟨_,_,tm,_⟩,_⟩ kn ⟨p1,p2,p3,p4⟩ hk
  simp only at p1 p2 p3 p4
  have key:=fun w=>ZU wide mv to tm hv ac w p3.symm (by omega) (by omega) q4 (by omega) mv (fun _ _ _ _ _=>none)
  unfold sG at key
  simp only[show decide ((0:Int) > 0)=false from rfl,cond_false]at key
  refine Ok.ite (fun h=>?_) fun _=>key w
  have hi:=of_decide_eq_true h;simp only at hi
  refine Ok.ite (fun h=>?_) fun _=>key w
  have hj:=of_decide_eq_true h;simp only at hj
  have e:aj (i - 1)=i - 1:=b7 (by omega) (by omega)
  refine Ok.bind (mr (n:=hv.length) _ (by omega)) fun dN fT=>?_
  rw[show aj ((hv.length:Int) - 1)=hv.length - 1 from b7 (by omega) (by omega)]
  refine Ok.bind (qC (a:=1) (b:=(hv.length:Int) - 1) _ (by decide) (by omega) (by omega)) fun jC iD=>?_
  rw[b7 (n:=dN.2+jC.2) (by omega) (by omega)]
  refine Ok.bind (aeS (n:=hv.length) (by omega) (by omega) (by omega) (by omega)) fun fX jz=>?_
  refine gp (gp (db fun _=>gp (gp (db fun _=>db fun _=>gp (gp (gp (gp (gp (gp (gp (gp (db fun _=>?_))))))))))))
  refine Ok.ao (fit (by simp;omega)) (Ok.ao (fit (by simp;omega)) (hk _ ⟨by simp[e];omega,by simp[e];omega,by simp[p3],by simp[p4]⟩ (by simp[e];omega)))
end Go.Proofs.fu
namespace Go.Proofs.YtbhjjkekphpldaaGreatDoorN
open Go Go.Ab
open Go.Proofs.YtbhjjkekphpldaaGreatDoor (Vn gls QZ bls fls sls qa ifs Wn)
set_option linter.all false
set_option maxRecDepth 100000
def RQ:List (Nat×T):=[(91,.se .fJ),(2,.int .i64),(3,.int .i64),(4,.bool),(5,.int .u8),(6,.int .u8),(9,.str),(10,.str),(11,.str),(12,.int .u64),(21,.int .i32),(22,.sl .dt),(23,.iH),(25,.aI),(27,.Span),(28,.sl .bq),(30,.aN),(31,.sl .aU),(32,.sl .fF),(34,.aH),(35,.sl .Path),(36,.sl .cY),(37,.sl .Span),(38,.sl .cd),(40,.aw),(42,.br),(43,.sl .dT),(45,.bb),(47,.bR),(49,.fJ),(50,.sl (.int .i64)),(58,.aU),(60,.cd),(61,.sl .eh),(63,.dT),(64,.int .i64),(72,.int .u64),(74,.ax),(82,.dt),(86,.iI),(89,.sl .str),(90,.int .u64),(94,.sl .aS),(96,.bI),(98,.sl .ff),(100,.aS),(111,.bq),(113,.cY),(119,.Path),(125,.fF),(152,.iB),(154,.ff),(157,.pC),(161,.eh),(172,.sl (.int .u8)),(181,.err),(197,.sl .jN),(199,.sl .bU),(246,.int .u32),(252,.jN),(261,.bU),(264,.sl .Closure),(302,.Closure),(311,.bF),(323,.sl .iw),(326,.gq),(330,.iw),(335,.sl .gq),(342,.sl (.sl .Span)),(354,.sl .bool),(379,.int .i64),(449,.int .u8),(450,.int .u8),(452,.int .i32),(453,.int .i32)]
noncomputable def ae:aX:=Nr Vn gls RQ QZ bls fls sls qa ifs Wn (fun g h=>by cases g with|zero=>rfl|succ g=>cases g with|zero=>rfl|succ g=>cases g with|zero=>rfl|succ g=>cases g with|zero=>rfl|succ g=>cases g with|zero=>rfl|succ g=>cases g with|zero=>rfl|succ g=>cases g with|zero=>rfl|succ g=>cases g with|zero=>rfl|succ g=>cases g with|zero=>rfl|succ g=>cases g with|zero=>rfl|succ g=>cases g with|zero=>rfl|succ g=>rfl) (by kernel_rfl) (by kernel_rfl) (by kernel_rfl) (by kernel_rfl) (by kernel_rfl) (by kernel_rfl) (by kernel_rfl)
end Go.Proofs.YtbhjjkekphpldaaGreatDoorN
namespace Go.Proofs.cZ
open Go Go.Ab
open Go.Proofs.YtbhjjkekphpldaaGreatDoorN (ae)
set_option linter.all false
set_option maxRecDepth 100000
noncomputable section
def alS:ak ae.toSeat:=aV 51 true (en 8 [] [] []) Tryz.func51 (by kernel_rfl)
def asM:ak ae.toSeat:=aV 50 true (en 6 [alS] [] []) Tryz.func50 (by kernel_rfl)
def E12:bJ ae:=(en 48 [asM,alS] [] [])
def fX (A:List I):Option I:=pL E12 (dB Tryz.f12) Tryz.f12.results.toList A
def asw:ak ae.toSeat:=aV 12 false E12 Tryz.func12 (by kernel_rfl)
def VD:ak ae.toSeat:=aV 62 true (en 36 [] [] []) Tryz.func62 (by kernel_rfl)
def acq:ak ae.toSeat:=aV 63 true (en 84 [] [] []) Tryz.func63 (by kernel_rfl)
def OD:ak ae.toSeat:=aV 64 true (en 15 [] [] []) Tryz.func64 (by kernel_rfl)
def OA:ak ae.toSeat:=aV 28 true (en 60 [VD,acq,OD] [] []) Tryz.func28 (by kernel_rfl)
def aeu:ak ae.toSeat:=aV 301 true (en 5 [] [] []) Tryz.func301 (by kernel_rfl)
def apG:ak ae.toSeat:=aV 300 true (en 27 [aeu] [] []) Tryz.func300 (by kernel_rfl)
def VA:ak ae.toSeat:=aV 270 true (en 9 [apG,aeu] [] []) Tryz.func270 (by kernel_rfl)
def apa:ak ae.toSeat:=aV 233 true (en 20 [VA] [] []) Tryz.func233 (by kernel_rfl)
def aeh:ak ae.toSeat:=aV 232 true (en 12 [apa] [] []) Tryz.func232 (by kernel_rfl)
def apM:ak ae.toSeat:=aV 307 true (en 11 [] [] []) Tryz.func307 (by kernel_rfl)
def apy:ak ae.toSeat:=aV 279 true (en 28 [apM,VA] [] []) Tryz.func279 (by kernel_rfl)
def aeo:ak ae.toSeat:=aV 278 true (en 47 [VA,apy] [] []) Tryz.func278 (by kernel_rfl)
def aeg:ak ae.toSeat:=aV 231 true (en 26 [aeh,aeo] [] []) Tryz.func231 (by kernel_rfl)
def aed:ak ae.toSeat:=aV 202 true (en 28 [OA,OD,aeh,aeg] [] []) Tryz.func202 (by kernel_rfl)
def apx:ak ae.toSeat:=aV 277 true (en 27 [VD] [] []) Tryz.func277 (by kernel_rfl)
def api:ak ae.toSeat:=aV 244 true (en 33 [OA,OD,apx,aeo,aeg] [] []) Tryz.func244 (by kernel_rfl)
end
end Go.Proofs.cZ
namespace Go.Proofs.cZ
open Go Go.Ab
open Go.Proofs.YtbhjjkekphpldaaGreatDoorN (ae)
set_option linter.all false
set_option maxRecDepth 100000
noncomputable section
def AY:ak ae.toSeat:=aV 60 true (en 15 [] [] []) Tryz.func60 (by kernel_rfl)
def apU:ak ae.toSeat:=aV 336 true (en 30 [] [] []) Tryz.func336 (by kernel_rfl)
def Ko:ak ae.toSeat:=aV 323 true (en 5 [] [] []) Tryz.func323 (by kernel_rfl)
def Kp:ak ae.toSeat:=aV 324 true (en 5 [] [] []) Tryz.func324 (by kernel_rfl)
def apT:ak ae.toSeat:=aV 335 true (en 27 [apU,Ko,Kp] [] []) Tryz.func335 (by kernel_rfl)
def aew:ak ae.toSeat:=aV 322 true (en 51 [apT,Ko,Kp] [] []) Tryz.func322 (by kernel_rfl)
def aet:ak ae.toSeat:=aV 299 true (en 31 [aew,Ko,Kp] [] []) Tryz.func299 (by kernel_rfl)
def apK:ak ae.toSeat:=aV 305 true (en 31 [aew,Kp,Ko] [] []) Tryz.func305 (by kernel_rfl)
def aem:ak ae.toSeat:=aV 273 true (en 47 [apK,aet] [] []) Tryz.func273 (by kernel_rfl)
def apr:ak ae.toSeat:=aV 267 true (en 91 [AY,aet] [] []) Tryz.func267 (by kernel_rfl)
def F9:ak ae.toSeat:=aV 100 true (en 14 [] [] []) Tryz.func100 (by kernel_rfl)
def aer:ak ae.toSeat:=aV 285 true (en 26 [F9] [] []) Tryz.func285 (by kernel_rfl)
def Vy:ak ae.toSeat:=aV 254 true (en 12 [] [] []) Tryz.func254 (by kernel_rfl)
def apF:ak ae.toSeat:=aV 289 true (en 25 [] [] []) Tryz.func289 (by kernel_rfl)
def apE:ak ae.toSeat:=aV 288 true (en 19 [] [] []) Tryz.func288 (by kernel_rfl)
def apB:ak ae.toSeat:=aV 284 true (en 25 [] [] []) Tryz.func284 (by kernel_rfl)
def apC:ak ae.toSeat:=aV 286 true (en 24 [F9] [] []) Tryz.func286 (by kernel_rfl)
def apn:ak ae.toSeat:=aV 255 true (en 43 [apB,aer,apC] [] []) Tryz.func255 (by kernel_rfl)
def apO:ak ae.toSeat:=aV 310 true (en 62 [apn] [] []) Tryz.func310 (by kernel_rfl)
def aeq:ak ae.toSeat:=aV 281 true (en 55 [apO] [] []) Tryz.func281 (by kernel_rfl)
end
end Go.Proofs.cZ
namespace Go.Proofs.cZ
open Go Go.Ab
open Go.Proofs.YtbhjjkekphpldaaGreatDoorN (ae)
set_option linter.all false
set_option maxRecDepth 100000
noncomputable section
def acp:ak ae.toSeat:=aV 61 true (en 19 [] [] []) Tryz.func61 (by kernel_rfl)
def Vz:ak ae.toSeat:=aV 26 true (en 65 [AY,acp] [] []) Tryz.func26 (by kernel_rfl)
def ahh:bJ ae:=⟨⟨26,[],[],[],[],[],[],[],[],[],[],[],[],[],[YL],false⟩,[]⟩
def Uu:iG ae.toSeat:=FC ae.toSeat 321 true (qN ahh (dB Tryz.f321)) (fun cap items hx h=>lE (E:=ahh) (fn:=Tryz.f321) Tryz.func321 (by kernel_rfl) (by kernel_rfl) (by kernel_rfl) rfl rfl hx h)
def aes:gB ae.toSeat:=Dt 298 { en 4 [] [] [] with FJ:=[Uu] } Tryz.func298 (by kernel_rfl)
def apq:ak ae.toSeat:=aV 266 false { en 30 [] [16,21] [] with FG:=[aes],FJ:=[Uu] } Tryz.func266 (by kernel_rfl)
def Vv:ak ae.toSeat:=aV 225 false (en 20 [Vz,apq,apr] [] []) Tryz.func225 (by kernel_rfl)
def aoX:ak ae.toSeat:=aV 194 true (en 14 [Vv] [] []) Tryz.func194 (by kernel_rfl)
def ao7:ak ae.toSeat:=aV 226 true (en 54 [AY] [] []) Tryz.func226 (by kernel_rfl)
def apt:ak ae.toSeat:=aV 271 false { en 67 [AY] [] [] with FG:=[aes],FJ:=[Uu] } Tryz.func271 (by kernel_rfl)
def apN:ak ae.toSeat:=aV 309 true (en 51 [] [] []) Tryz.func309 (by kernel_rfl)
def aep:ak ae.toSeat:=aV 280 true (en 30 [apN] [] []) Tryz.func280 (by kernel_rfl)
def apH:gB ae.toSeat:=Dt 302 (en 48 [aep] [41,44] []) Tryz.func302 (by kernel_rfl)
def apI:dz ae.toSeat:=mZ 303 2 [] [] [0] { en 32 [] [] [] with rf:=false } Tryz.func303 (by kernel_rfl)
def apS:ak ae.toSeat:=aV 327 false (en 54 [] [33,50] []) Tryz.func327 (by kernel_rfl)
def apQ:dz ae.toSeat:=mZ 325 4 [] [] [] { en 44 [] [39] [] with rf:=false } Tryz.func325 (by kernel_rfl)
def apZ:ak ae.toSeat:=aV 341 true (en 6 [] [] []) Tryz.func341 (by kernel_rfl)
def apX:ak ae.toSeat:=aV 339 true (en 20 [apZ] [] []) Tryz.func339 (by kernel_rfl)
def apW:ak ae.toSeat:=aV 338 true (en 10 [apX] [] []) Tryz.func338 (by kernel_rfl)
def ap0:ak ae.toSeat:=aV 342 true (en 53 [] [] []) Tryz.func342 (by kernel_rfl)
def ap1:ak ae.toSeat:=aV 343 true (en 220 [] [] []) Tryz.func343 (by kernel_rfl)
def apY:ak ae.toSeat:=aV 340 true (en 63 [ap0,ap1] [] []) Tryz.func340 (by kernel_rfl)
def apV:ak ae.toSeat:=aV 337 true (en 9 [apY] [] []) Tryz.func337 (by kernel_rfl)
def apR:ak ae.toSeat:=aV 326 false (en 59 [apV,apW] [53] []) Tryz.func326 (by kernel_rfl)
def apJ:ak ae.toSeat:=aV 304 false { en 69 [apR,apS] [] [] with FM:=[apQ] } Tryz.func304 (by kernel_rfl)
def apu:ak ae.toSeat:=aV 272 false { en 37 [apJ] [12] [] with FM:=[apI],FG:=[apH] } Tryz.func272 (by kernel_rfl)
def apc:ak ae.toSeat:=aV 236 false (en 64 [apt,apu,aem] [] []) Tryz.func236 (by kernel_rfl)
def apb:ak ae.toSeat:=aV 234 false (en 80 [Vv,ao7,AY] [59,74] []) Tryz.func234 (by kernel_rfl)
def ael:dz ae.toSeat:=mZ 269 2 [1] [] [0] { en 16 [] [14] [] with rf:=false } Tryz.func269 (by kernel_rfl)
def aps:dz ae.toSeat:=mZ 268 2 [1] [] [0] { en 40 [] [] [] with FM:=[ael],rf:=false } Tryz.func268 (by kernel_rfl)
def aef:ak ae.toSeat:=aV 229 false { en 40 [apb,apc] [] [(1000005,⟨⟨[(1024,.os 40016 302 .Closure)],[]⟩,[],[],[]⟩)] with FM:=[ael,aps] } Tryz.func229 (by kernel_rfl)
def aph:ak ae.toSeat:=aV 243 true (en 85 [Vv,AY,aem] [] []) Tryz.func243 (by kernel_rfl)
end
end Go.Proofs.cZ
namespace Go.Proofs.cZ
open Go Go.Ab
open Go.Proofs.YtbhjjkekphpldaaGreatDoorN (ae)
set_option linter.all false
set_option maxRecDepth 100000
noncomputable section
def x3:ak ae.toSeat:=aV 102 true (en 15 [] [] []) Tryz.func102 (by kernel_rfl)
def Vq:ak ae.toSeat:=aV 101 true (en 19 [x3] [] []) Tryz.func101 (by kernel_rfl)
def Vr:ak ae.toSeat:=aV 103 true (en 28 [x3] [] []) Tryz.func103 (by kernel_rfl)
def acr:ak ae.toSeat:=aV 68 true (en 106 [Vq,x3,Vr] [] []) Tryz.func68 (by kernel_rfl)
def Kj:ak ae.toSeat:=aV 105 true (en 9 [] [] []) Tryz.func105 (by kernel_rfl)
def ahb:bJ ae:=⟨⟨134,[Kj],[],[],[],[],[],[],[],[],[],[],[],[],[YL],false⟩,[]⟩
def JW:iG ae.toSeat:=FC ae.toSeat 104 true (qN ahb (dB Tryz.f104)) (fun cap items hx h=>lE (E:=ahb) (fn:=Tryz.f104) Tryz.func104 (by kernel_rfl) (by kernel_rfl) (by kernel_rfl) rfl rfl hx h)
def acs:gB ae.toSeat:=Dt 69 { en 4 [] [] [] with FJ:=[JW] } Tryz.func69 (by kernel_rfl)
def ach:ak ae.toSeat:=aV 33 true { en 25 [acr,Kj] [] [] with FG:=[acs],FJ:=[JW] } Tryz.func33 (by kernel_rfl)
def aoG:ak ae.toSeat:=aV 143 false (en 8 [] [2] []) Tryz.func143 (by kernel_rfl)
def aoH:ak ae.toSeat:=aV 144 false (en 8 [] [2] []) Tryz.func144 (by kernel_rfl)
end
end Go.Proofs.cZ
namespace Go.Proofs.cZ
open Go Go.Ab
open Go.Proofs.YtbhjjkekphpldaaGreatDoorN (ae)
set_option linter.all false
set_option maxRecDepth 100000
noncomputable section
def uf:ak ae.toSeat:=aV 70 true (en 15 [] [] []) Tryz.func70 (by kernel_rfl)
def sR:ak ae.toSeat:=aV 106 true (en 26 [uf] [] []) Tryz.func106 (by kernel_rfl)
def acu:ak ae.toSeat:=aV 71 true (en 37 [uf,sR] [] []) Tryz.func71 (by kernel_rfl)
def OE:ak ae.toSeat:=aV 73 true (en 30 [sR] [] []) Tryz.func73 (by kernel_rfl)
def acv:ak ae.toSeat:=aV 72 true (en 50 [uf,sR,OE] [] []) Tryz.func72 (by kernel_rfl)
def acw:ak ae.toSeat:=aV 74 true (en 82 [uf,sR] [] []) Tryz.func74 (by kernel_rfl)
def acj:ak ae.toSeat:=aV 35 true (en 63 [uf,acu,acv,OE,acw] [] []) Tryz.func35 (by kernel_rfl)
end
end Go.Proofs.cZ
namespace Go.Proofs.cZ
open Go Go.Ab
open Go.Proofs.YtbhjjkekphpldaaGreatDoorN (ae)
set_option linter.all false
set_option maxRecDepth 100000
noncomputable section
def aea:ak ae.toSeat:=aV 139 true (en 21 [] [] []) Tryz.func139 (by kernel_rfl)
def aoz:ak ae.toSeat:=aV 120 true (en 8 [aea] [] []) Tryz.func120 (by kernel_rfl)
def aoK:ak ae.toSeat:=aV 148 true (en 16 [aea] [] []) Tryz.func148 (by kernel_rfl)
def ad8:ak ae.toSeat:=aV 125 true (en 8 [aoK] [] []) Tryz.func125 (by kernel_rfl)
def aoD:dz ae.toSeat:=mZ 127 2 [1] [] [0] { en 19 [] [] [] with FM:=[aoL],rf:=false } Tryz.func127 (by kernel_rfl)
def aoI:ak ae.toSeat:=aV 146 true (en 8 [aoM] [] []) Tryz.func146 (by kernel_rfl)
def ahc:bJ ae:=⟨⟨25,[aoI],[],[],[],[],[],[],[],[],[],[],[],[],[YL],false⟩,[]⟩
def adH:iG ae.toSeat:=FC ae.toSeat 145 true (qN ahc (dB Tryz.f145)) (fun cap items hx h=>lE (E:=ahc) (fn:=Tryz.f145) Tryz.func145 (by kernel_rfl) (by kernel_rfl) (by kernel_rfl) rfl rfl hx h)
def aoC:gB ae.toSeat:=Dt 123 { en 4 [] [] [] with FJ:=[adH] } Tryz.func123 (by kernel_rfl)
def ahd:bJ ae:=⟨⟨20,[aoQ],[],[],[],[],[],[],[],[],[],[],[],[],[YL],false⟩,[]⟩
def adI:iG ae.toSeat:=FC ae.toSeat 169 true (qN ahd (dB Tryz.f169)) (fun cap items hx h=>lE (E:=ahd) (fn:=Tryz.f169) Tryz.func169 (by kernel_rfl) (by kernel_rfl) (by kernel_rfl) rfl rfl hx h)
def aoN:gB ae.toSeat:=Dt 157 { en 4 [] [] [] with FJ:=[adI] } Tryz.func157 (by kernel_rfl)
def aoU:ak ae.toSeat:=aV 183 true (en 29 [ao6,Km] [] []) Tryz.func183 (by kernel_rfl)
def aoP:dz ae.toSeat:=mZ 159 2 [1] [] [0] { en 46 [aoU] [41] [] with rf:=false } Tryz.func159 (by kernel_rfl)
def aoO:oY ae.toSeat:=asc 158 (en 24 [] [] []) Tryz.func158 (by kernel_rfl)
def aoJ:ak ae.toSeat:=aV 147 false { en 61 [ad8] [] [(1000001,⟨⟨[(131,.os 40002 3 (.int .i64))],[]⟩,[],[],[]⟩)] with FM:=[aoP],FP:=[aoO],FG:=[aoN],FJ:=[adI] } Tryz.func147 (by kernel_rfl)
end
end Go.Proofs.cZ
namespace Go.Proofs.cZ
open Go Go.Ab
open Go.Proofs.YtbhjjkekphpldaaGreatDoorN (ae)
set_option linter.all false
set_option maxRecDepth 100000
noncomputable section
def qm:ak ae.toSeat:=aV 75 true (en 15 [] [] []) Tryz.func75 (by kernel_rfl)
def VB:ak ae.toSeat:=aV 37 true (en 21 [qm] [] []) Tryz.func37 (by kernel_rfl)
def HA:ak ae.toSeat:=aV 65 true (en 15 [] [] []) Tryz.func65 (by kernel_rfl)
def VE:ak ae.toSeat:=aV 66 true (en 107 [HA,F9] [] []) Tryz.func66 (by kernel_rfl)
def OB:ak ae.toSeat:=aV 30 true (en 42 [HA,VE] [] []) Tryz.func30 (by kernel_rfl)
def VF:ak ae.toSeat:=aV 67 true (en 20 [] [] []) Tryz.func67 (by kernel_rfl)
def E31:bJ ae:=(en 14 [VF] [] [])
def Rv (A:List I):Option I:=pL E31 (dB Tryz.f31) Tryz.f31.results.toList A
def OC:ak ae.toSeat:=aV 31 false E31 Tryz.func31 (by kernel_rfl)
def Vs:ak ae.toSeat:=aV 108 true (en 18 [qm] [] []) Tryz.func108 (by kernel_rfl)
def VG:ak ae.toSeat:=aV 76 true (en 76 [ad7,qm,Vs] [] []) Tryz.func76 (by kernel_rfl)
def OF:ak ae.toSeat:=aV 78 true (en 9 [] [] []) Tryz.func78 (by kernel_rfl)
def aei:ak ae.toSeat:=aV 237 true (en 8 [] [] []) Tryz.func237 (by kernel_rfl)
def Kk:ak ae.toSeat:=aV 109 true (en 19 [OF,aei] [] []) Tryz.func109 (by kernel_rfl)
def acx:ak ae.toSeat:=aV 77 true (en 9 [Kk,OF] [] []) Tryz.func77 (by kernel_rfl)
def acn:ak ae.toSeat:=aV 39 true (en 38 [VG,OF,acx] [] [(1000013,⟨⟨[],[]⟩,[4],[],[]⟩)]) Tryz.func39 (by kernel_rfl)
def OG:ak ae.toSeat:=aV 79 true (en 13 [qm] [] []) Tryz.func79 (by kernel_rfl)
def acy:ak ae.toSeat:=aV 80 true (en 44 [OG,qm] [] []) Tryz.func80 (by kernel_rfl)
def VC:ak ae.toSeat:=aV 41 true (en 103 [OG,qm,acy] [] []) Tryz.func41 (by kernel_rfl)
def acd:ak ae.toSeat:=aV 25 true (en 5 [Vz] [] []) Tryz.func25 (by kernel_rfl)
def ace:ak ae.toSeat:=aV 27 true (en 5 [OA] [] []) Tryz.func27 (by kernel_rfl)
def acf:ak ae.toSeat:=aV 29 true (en 9 [OC,OB] [6] []) Tryz.func29 (by kernel_rfl)
def acg:ak ae.toSeat:=aV 32 true (en 5 [ach] [] []) Tryz.func32 (by kernel_rfl)
def aci:ak ae.toSeat:=aV 34 true (en 5 [acj] [] []) Tryz.func34 (by kernel_rfl)
def ack:ak ae.toSeat:=aV 36 true (en 5 [VB] [] []) Tryz.func36 (by kernel_rfl)
def acm:ak ae.toSeat:=aV 38 true (en 5 [acn] [] []) Tryz.func38 (by kernel_rfl)
def aco:ak ae.toSeat:=aV 40 true (en 15 [VC] [] []) Tryz.func40 (by kernel_rfl)
def Px:bJ ae:=(en 26 [acd,ace,acf,acg,aci,ack,acm,aco] [] [(1000001,⟨⟨[],[]⟩,[1],[],[]⟩)])
def dN (A:List I):Option I:=pL Px (dB Tryz.f10) Tryz.f10.results.toList A
def alN:ak ae.toSeat:=aV 10 true Px Tryz.func10 (by kernel_rfl)
end
end Go.Proofs.cZ
namespace Go.Proofs.cZ
open Go Go.Ab
open Go.Proofs.YtbhjjkekphpldaaGreatDoorN (ae)
set_option linter.all false
set_option maxRecDepth 100000
noncomputable section
def ari:bJ ae:=(en 47 [aoG,aoH] [40] [(1000002,⟨⟨[(515,.os 40003 261 .bU),(516,.os 40004 63 .dT)],[]⟩,[],[],[]⟩)])
def aoB:gB ae.toSeat:=Dt 122 ari Tryz.func122 (by kernel_rfl)
end
end Go.Proofs.cZ
namespace Go.Proofs.cZ
open Go Go.Ab
open Go.Proofs.YtbhjjkekphpldaaGreatDoorN (ae)
set_option linter.all false
set_option maxRecDepth 100000
noncomputable section
def ahg:bJ ae:=⟨⟨44,[aer],[],[],[],[],[],[],[],[],[],[],[],[],[YL],false⟩,[]⟩
def adJ:iG ae.toSeat:=FC ae.toSeat 311 true (qN ahg (dB Tryz.f311)) (fun cap items hx h=>lE (E:=ahg) (fn:=Tryz.f311) Tryz.func311 (by kernel_rfl) (by kernel_rfl) (by kernel_rfl) rfl rfl hx h)
def apz:gB ae.toSeat:=Dt 282 { en 4 [] [] [] with FJ:=[adJ] } Tryz.func282 (by kernel_rfl)
def Vw:ak ae.toSeat:=aV 248 false { en 19 [] [15] [(1000002,⟨⟨[(198,.os 40003 27 .Span)],[]⟩,[],[],[]⟩)] with FG:=[apz],FJ:=[adJ] } Tryz.func248 (by kernel_rfl)
def aek:ak ae.toSeat:=aV 253 false (en 20 [] [] []) Tryz.func253 (by kernel_rfl)
def aev:ak ae.toSeat:=aV 313 true (en 10 [] [] []) Tryz.func313 (by kernel_rfl)
def apP:ak ae.toSeat:=aV 312 true (en 19 [aev] [] []) Tryz.func312 (by kernel_rfl)
def apD:ak ae.toSeat:=aV 287 true (en 12 [aev,apP] [] []) Tryz.func287 (by kernel_rfl)
def apo:ak ae.toSeat:=aV 256 true (en 81 [aek,Vw,apD,Vy,apF,apE] [30,35] []) Tryz.func256 (by kernel_rfl)
def ao8:ak ae.toSeat:=aV 228 true (en 13 [OB,apo] [] []) Tryz.func228 (by kernel_rfl)
def aej:ak ae.toSeat:=aV 247 false (en 25 [aek,Vw] [21] []) Tryz.func247 (by kernel_rfl)
def apk:ak ae.toSeat:=aV 246 true (en 76 [aej,aeq,Vy] [] []) Tryz.func246 (by kernel_rfl)
def apm:ak ae.toSeat:=aV 251 true (en 44 [aeq,Vy] [] []) Tryz.func251 (by kernel_rfl)
def Vx:ak ae.toSeat:=aV 250 true (en 12 [apm] [] []) Tryz.func250 (by kernel_rfl)
def apA:ak ae.toSeat:=aV 283 true (en 19 [Vx] [] []) Tryz.func283 (by kernel_rfl)
def apl:ak ae.toSeat:=aV 249 true (en 9 [apA,Vx] [] []) Tryz.func249 (by kernel_rfl)
def ao4:ak ae.toSeat:=aV 209 true (en 90 [OB,VE,HA,apk,aej,Vw,Vx,apl] [] []) Tryz.func209 (by kernel_rfl)
end
end Go.Proofs.cZ
namespace Go.Proofs.cZ
open Go Go.Ab
open Go.Proofs.YtbhjjkekphpldaaGreatDoorN (ae)
set_option linter.all false
set_option maxRecDepth 100000
noncomputable section
def Nh (it:It (Int×Int)) (s:bF) (t:eh):Option (Int×Int) :=
 some (t.bu.Lo,t.To.Hi)
def afZ:bF→eh→Option (Int×Int):=Nh aB
def aen:ak ae.toSeat:=cy 275 [.bF,.eh] [.int .i64,.int .i64] (en 12 [] [] []) Tryz.func275 (fun it a=>Nh it a.1 a.2.1) (by kernel_rfl) (by kernel_rfl) (fun _=>rfl) rfl
def Pj (a0:bF) (a1:bF) (wR:Int) (aT:Int→Option (List (Int×Bool×Unit))) (Wz:Bool) (OR:Int) (cW:Bool→Int→Option (List (Int×Bool×Unit))):Option (List (Int×Bool×Unit)) :=
 bif (decide (OR<(a0.Driver.bO.length:Int))) then
  ao (decide (0≤OR)&&decide (OR<(a0.Driver.bO.length:Int))) <|
  (afZ a1 (a0.Driver.bO.getD OR.toNat cS)).bind fun r =>
  bif Wz then
   cW true (aj (OR+1))
  else
   bif (decide (r.1≤wR)) then
    cW (decide (wR<r.2)) (aj (OR+1))
   else
    cW false (aj (OR+1))
 else
  rl (wR,Wz,())
   (some [])
   (aT (aj (wR+1)))
def Ph (it:It (List (Int×Bool×Unit))) (a0:bF) (a1:bF) (wR:Int) (aT:Int→Option (List (Int×Bool×Unit))):Option (List (Int×Bool×Unit)) :=
 bif (decide (wR<3000)) then
  it _ (fun (v_0:(Unit×Bool×Int×Unit)×(Unit)) kn=>Pj a0 a1 wR aT v_0.1.2.1 v_0.1.2.2.1 (fun y0 y1=>kn (((),y0,y1,()),(())))) (((),false,0,()),(()))
 else
  some []
def IE (it:It (List (Int×Bool×Unit))) (a0:bF) (a1:bF):Option (List (Int×Bool×Unit)) :=
 it _ (fun (v_0:(Unit×Int×Unit)×(Unit)) kn=>Ph it a0 a1 v_0.1.2.1 (fun y0=>kn (((),y0,()),(())))) (((),0,()),(()))
def abg:bF→bF→Option (List (Int×Bool×Unit)):=IE aB
def ant:pz ae.toSeat:=akO 328 [.ptr .bF,.ptr (.rR 275 .bF)] [.int .i64,.bool] { en 45 [aen] [] [(1,⟨⟨[(0,.yl YL),(10,.v (.int .i64))],[]⟩,[1,2],[],[]⟩),(5,⟨⟨[(0,.yl YL),(5,.v .bool),(17,.v (.int .i64))],[]⟩,[4,10,15,16],[],[]⟩)] with ba:=[YL],rf:=true } Tryz.func328 (fun it a=>IE it a.1 a.2.1) (by kernel_rfl) (by kernel_rfl) rfl rfl rfl rfl
def UB (it:It (bF×bF)) (s:bF) (ri:bF):Option (bF×bF) :=
 some (s,ri)
def abf:bF→bF→Option (bF×bF):=(fun s ri=>UB aB s ri)
theorem af0 (s:bF) (ri:bF):abf s ri=UB aB s ri:=rfl
def ahf:bJ ae:=⟨⟨6,[],[],[],[],[],[],[],[],[],[],[],[],[],[],true⟩,[]⟩
theorem arE (it:It (bF×bF)) (s:bF) (ri:bF):QC 328 .bF (.rR 275 .bF) it ahf (dB Tryz.f306) Tryz.f306.results.toList (ck [.bF,.rR 275 .bF] (s,ri,()))=UB it s ri:=by kernel_rfl
def apL:ak ae.toSeat:=lF ae.toSeat 306 [.bF,.rR 275 .bF] [.qI 328 .bF (.rR 275 .bF)] false (fun a=>abf a.1 a.2.1) (fun a x hx h h'=>Je (Z:=ae) (bf:=[.bF,.rR 275 .bF]) (E:=ahf) (fn:=Tryz.f306) (c:=dB Tryz.f306) Tryz.func306 (by kernel_rfl) (by kernel_rfl) (by kernel_rfl) (by kernel_rfl) rfl ((arE aB a.1 a.2.1).trans ((af0 a.1 a.2.1).symm.trans hx)) h h') (fun h=>nomatch h)
def OZ (rX:Int) (s:bF) (since:Int) (aT:Int→Int→Int→Int→(List Int)→Option (Int×Int)) (Hv:Int) (minute:Int) (lK:List Int) (cW:(List Int)→Option (Int×Int)):Option (Int×Int) :=
 ao (decide (0≤0)&&decide (0<(lK.length:Int))) <|
 ao (decide (0<lK.length)) <|
 bif (decide ((lK.getD 0 0)≤(aj (rX - s.rules.Day)))) then
  ao (decide (0≤1)&&decide (1≤(lK.length:Int))&&decide ((lK.length:Int)≤(lK.length:Int))) <|
  cW (rb lK 1 (lK.length:Int))
 else
  bif (decide ((aj (since+1)) > s.rules.lS)) then
   some (1,rX)
  else
   bif (decide ((lK.length:Int) > s.rules.pB)) then
    some (2,rX)
   else
    aT Hv minute (aj (since+1)) 0 lK
def Sv (Hv:Int) (minute:Int) (since:Int) (idle:Int) (zm:List Int):Option (Int×Int) :=
 some (0,0)
def Sw (it:It (Int×Int)) (s:bF) (Hv:Int) (minute:Int) (since:Int) (idle:Int) (zm:List Int) (rX:Int) (b8:Bool) (aT:Int→Int→Int→Int→(List Int)→Option (Int×Int)):Option (Int×Int) :=
 bif (!b8) then
  bif (decide ((aj (idle+1)) ≥ s.rules.Rest)) then
   aT Hv minute 0 (aj (idle+1)) zm
  else
   aT Hv minute since (aj (idle+1)) zm
 else
  ao (dH (zm.length+[rX].length) 8) <|
  it _ (fun (v_0:(Unit×Unit×Unit×Unit×Unit×Unit×Unit)×(((List Int)×Unit)×Unit)) kn=>OZ rX s since aT Hv minute v_0.2.1.1 (fun y0=>kn (((),(),(),(),(),(),()),((y0,()),())))) (((),(),(),(),(),(),()),(((zm++[rX]),()),()))
def Z9 (it:It (Int×Int)) (s:bF) (ri:bF):Option (Int×Int) :=
 (abf s ri).bind fun r =>
 (abg r.1 r.2).bind fun items=>it _ (fun (v_0:((Unit×Unit×Unit×Unit×Unit×Unit×Unit)×((Int×Unit)×(Int×Unit)×(Int×Unit)×(Int×Unit)×((List Int)×Unit)×Unit))×List (Int×Bool×Unit)) kn=>match v_0.2 with
  |[]=>Sv v_0.1.2.1.1 v_0.1.2.2.1.1 v_0.1.2.2.2.1.1 v_0.1.2.2.2.2.1.1 v_0.1.2.2.2.2.2.1.1
  |a::l=>Sw it s v_0.1.2.1.1 v_0.1.2.2.1.1 v_0.1.2.2.2.1.1 v_0.1.2.2.2.2.1.1 v_0.1.2.2.2.2.2.1.1 a.1 a.2.1 (fun y0 y1 y2 y3 y4=>kn ((((),(),(),(),(),(),()),((y0,()),(y1,()),(y2,()),(y3,()),(y4,()),())),l))) ((((),(),(),(),(),(),()),((0,()),(0,()),(0,()),(0,()),([],()),())),items)
def apv:ak ae.toSeat:=cy 274 [.bF,.rR 275 .bF] [.int .i64,.int .i64] { en 57 [apL] [29] [(4,⟨⟨[(2,.bx 2 0),(4,.bx 4 0),(5,.bx 5 0),(6,.bx 6 0),(7,.bx 7 0),(8,.bx 8 0)],[(4,[.v (.int .i64)]),(5,[.v (.int .i64)]),(6,[.v (.int .i64)]),(7,[.v (.int .i64)]),(8,[.os 30 3 (.int .i64)])]⟩,[13],[2],[]⟩),(11,⟨⟨[(2,.bx 2 0),(4,.bx 4 0),(5,.bx 5 0),(6,.bx 6 0),(7,.bx 7 0),(8,.bx 8 0)],[(8,[.os 30 3 (.int .i64)])]⟩,[9],[4,5,6,7],[]⟩)] with FI:=[ant] } Tryz.func274 (fun it a=>Z9 it a.1 a.2.1) (by kernel_rfl) (by kernel_rfl) (fun _=>rfl) rfl
def adQ (it:It bF) (s:bF) (at_:Int) (long:Int):Option bF :=
 ao (Mk (aj ((s.Driver.bO.length:Int)+1)) 32) <|
 ao (decide (0≤(s.Driver.bO.length:Int))&&decide ((s.Driver.bO.length:Int)<((tg (List.replicate (aj ((s.Driver.bO.length:Int)+1)).toNat ((⟨⟨0,0⟩,⟨0,0⟩⟩:eh):eh)) s.Driver.bO).length:Int))) <|
 ao (decide ((s.Driver.bO.length:Int).toNat<(tg (List.replicate (aj ((s.Driver.bO.length:Int)+1)).toNat ((⟨⟨0,0⟩,⟨0,0⟩⟩:eh):eh)) s.Driver.bO).length)) <|
 let l:List eh:=((tg (List.replicate (aj ((s.Driver.bO.length:Int)+1)).toNat ((⟨⟨0,0⟩,⟨0,0⟩⟩:eh):eh)) s.Driver.bO).set (s.Driver.bO.length:Int).toNat (⟨⟨at_,at_⟩,⟨(aj (at_+long)),(aj (at_+long))⟩⟩:eh))
 some (⟨⟨s.Driver.Name,s.Driver.lu,l⟩,s.rules⟩:bF)
def more:bF→Int→Int→Option bF:=adQ aB
def apf:ak ae.toSeat:=mk0 240 [.bF,.int .i64,.int .i64] [.bF] (en 40 [] [] []) Tryz.func240 (fun it a=>adQ it a.1 a.2.1 a.2.2.1) (by kernel_rfl) (by kernel_rfl) rfl
end
end Go.Proofs.cZ
namespace Go.Proofs.cZ
open Go Go.Ab
open Go.Proofs.YtbhjjkekphpldaaGreatDoorN (ae)
set_option linter.all false
set_option maxRecDepth 100000
noncomputable section
def apw:ak ae.toSeat:=aV 276 true (en 12 [] [] []) Tryz.func276 (by kernel_rfl)
def apg:ak ae.toSeat:=aV 241 true (en 25 [aen,apv,apw] [] []) Tryz.func241 (by kernel_rfl)
def ape:ak ae.toSeat:=aV 239 true (en 32 [] [] []) Tryz.func239 (by kernel_rfl)
end
end Go.Proofs.cZ
namespace Go.Proofs.cZ
open Go Go.Ab
open Go.Proofs.YtbhjjkekphpldaaGreatDoorN (ae)
set_option linter.all false
set_option maxRecDepth 100000
noncomputable section
def apd:ak ae.toSeat:=aV 238 true (en 13 [VB,VG] [] []) Tryz.func238 (by kernel_rfl)
def ao1:ak ae.toSeat:=aV 206 true (en 45 [apd,qm,ape,apf,apg] [] []) Tryz.func206 (by kernel_rfl)
end
end Go.Proofs.cZ
namespace Go.Proofs.cZ
open Go Go.Ab
open Go.Proofs.YtbhjjkekphpldaaGreatDoorN (ae)
set_option linter.all false
set_option maxRecDepth 100000
noncomputable section
def A6 (it:It (List bU)) (s:List bU):Option (List bU) :=
 FD s.isEmpty
  (some ([]:List bU))
  (ao (dH (([]:List bU).length+s.length) 72) <|
  some (([]:List bU)++s))
def VS:(List bU)→Option (List bU):=(fun s=>A6 aB s)
theorem HH (s:List bU):VS s=A6 aB s:=rfl
def ahe:bJ ae:=⟨⟨8,[],[],[],[],[],[],[],[],[],[],[],[],[],[],true⟩,[]⟩
theorem arD (it:It (List bU)) (s:List bU):Xw (.sl .bU) 0 261 .bU it ahe (dB Tryz.f242) Tryz.f242.results.toList (ck [.sl .bU] (s,()))=A6 it s:=by kernel_rfl
end
end Go.Proofs.cZ
namespace Go.Proofs.cZ
open Go Go.Ab
open Go.Proofs.YtbhjjkekphpldaaGreatDoorN (ae)
set_option linter.all false
set_option maxRecDepth 100000
theorem afP {n b:Nat} (hn:n≤1000000) (hb:b≤1000000):dH n b=true:=by
 have:n * b≤1000000 * 1000000:=Nat.mul_le_mul hn hb
 unfold dH;simp;omega
def clR (l:List bU):Option (List bU):=ao (Nat.ble l.length 1000) (some l)
theorem ahQ {l x:List bU} (h:clR l=some x):VS l=some x:=by
 obtain ⟨hc,h⟩:=aq h
 cases h
 have hl:=Nat.le_of_ble_eq_true hc
 rw[HH];unfold A6
 have e:(ao (dH (([]:List bU).length+l.length) 72) <| some (([]:List bU)++l))=some l:=by
  rw[afP (by simp;omega) (by omega)];rfl
 rw[e]
 cases l with
 |nil=>unfold FD;rw[if_pos rfl];rfl
 |cons=>rfl
noncomputable section
def alR:qz ae.toSeat:=af6 ae.toSeat 242 [.sl .bU] (.sl .bU) 0 261 .bU (fun a=>clR a.1) (fun a x hx l d hd h=>Mq (Z:=ae) (bf:=[.sl .bU]) (E:=ahe) (fn:=Tryz.f242) (c:=dB Tryz.f242) Tryz.func242 (by kernel_rfl) (by kernel_rfl) (by kernel_rfl) (by kernel_rfl) rfl ((arD aB a.1).trans ((HH a.1).symm.trans (ahQ hx))) hd h)
end
end Go.Proofs.cZ
namespace Go.Proofs.cZ
open Go Go.Ab
open Go.Proofs.YtbhjjkekphpldaaGreatDoorN (ae)
set_option linter.all false
set_option maxRecDepth 100000
noncomputable section
def aoV:ak ae.toSeat:=aV 191 true (en 19 [] [] []) Tryz.func191 (by kernel_rfl)
def aoW:ak ae.toSeat:=aV 192 false (en 8 [] [2] []) Tryz.func192 (by kernel_rfl)
def aee:ak ae.toSeat:=aV 211 true (en 6 [] [] []) Tryz.func211 (by kernel_rfl)
def ao9:ak ae.toSeat:=aV 230 true (en 17 [Km] [] []) Tryz.func230 (by kernel_rfl)
def aec:ak ae.toSeat:=aV 201 true (en 22 [ao9] [] []) Tryz.func201 (by kernel_rfl)
def apj:ak ae.toSeat:=aV 245 false (en 48 [aep] [41,44] []) Tryz.func245 (by kernel_rfl)
def Vu:dz ae.toSeat:=mZ 193 3 [] [] [0] { en 9 [] [] [] with rf:=false } Tryz.func193 (by kernel_rfl)
def aeb:dz ae.toSeat:=mZ 199 3 [] [] [0] { en 19 [OC,ao8] [13] [] with rf:=false } Tryz.func199 (by kernel_rfl)
def ao5:dz ae.toSeat:=mZ 210 3 [] [] [0] { en 30 [OC] [25] [(1000002,⟨⟨[(195,.os 40003 100 .aS)],[]⟩,[],[],[]⟩)] with rf:=false } Tryz.func210 (by kernel_rfl)
def aoZ:dz ae.toSeat:=mZ 204 3 [] [] [0] { en 12 [aei,Kk] [] [] with rf:=false } Tryz.func204 (by kernel_rfl)
def ao0:dz ae.toSeat:=mZ 205 3 [] [] [0] { en 53 [VC,aed] [] [] with rf:=false } Tryz.func205 (by kernel_rfl)
def aoY:dz ae.toSeat:=mZ 200 3 [] [] [0] { en 42 [aed,aef] [] [] with FM:=[Vu],rf:=false } Tryz.func200 (by kernel_rfl)
def ao2:dz ae.toSeat:=mZ 207 3 [] [] [0] { en 48 [aef] [] [] with FM:=[Vu],rf:=false } Tryz.func207 (by kernel_rfl)
def ao3:dz ae.toSeat:=mZ 208 3 [] [] [0] { en 95 [VF,aph,aee,apj,api] [19,21,76] [] with FO:=[alR],FM:=[aeb],rf:=false } Tryz.func208 (by kernel_rfl)
def aoR:dz ae.toSeat:=mZ 171 3 [] [] [0] { en 54 [aoV,aoW,aoX] [9,37] [] with FM:=[Vu],rf:=false } Tryz.func171 (by kernel_rfl)
def aoS:dz ae.toSeat:=mZ 174 3 [] [] [0] { en 20 [aec] [] [] with FM:=[aoY],rf:=false } Tryz.func174 (by kernel_rfl)
def aoT:dz ae.toSeat:=mZ 176 3 [1] [] [0] { en 225 [ao1,aec,ao4,Km,aee] [188,213,3000214] [] with FM:=[aoZ,ao0,aeb,ao2,ao3,ao5],rf:=false } Tryz.func176 (by kernel_rfl)
end
end Go.Proofs.cZ
namespace Go.Proofs.cZ
open Go Go.Ab
open Go.Proofs.YtbhjjkekphpldaaGreatDoorN (ae)
set_option linter.all false
set_option maxRecDepth 100000
noncomputable section
def RZ:bJ ae:={ en 24 [aoJ] [] [] with FM:=[aoR,aoS,aoT],rf:=false }
end
end Go.Proofs.cZ
namespace Go.Ab
open Go Go.RowKit
noncomputable section
set_option linter.all false
section
variable {Z:aX}
theorem WN:∀ {ls l2:List aK},jd Ie ls l2=true→ls.length=l2.length∧∀ i,dm (de ls i)=dm (de l2 i)∧(de ls i).toOwn zh=(de l2 i).toOwn zh
 |[],[],_=>⟨rfl,fun _=>⟨rfl,rfl⟩⟩
 |a::l,b::m,e=>by
  simp only[jd,Bool.and_eq_true]at e
  obtain ⟨h1,h2⟩:=WN e.2
  refine ⟨by simp[h1],fun i=>?_⟩
  cases i with
  |succ i=>exact h2 i
  |zero =>
   refine ⟨?_,WO zh e.1⟩
   have e1:=e.1
   show dm a=dm b
   cases a<;>cases b<;>first|rfl|(cases e1;done)
 |[],_::_,e=>by cases e
 |_::_,[],e=>by cases e
def Kn (mv:List Nat) (E:bJ Z) (c:Code) (rv:List ResultVar):Type:={ p:List aK×List I×(List aK×I) // rN mv E c rv p.1 p.2.1=some p.2.2 }
def JN {mv:List Nat}{E:bJ Z}{c:Code}{rv:List ResultVar}:List (Kn mv E c rv)→List aK→List I→Option (Kn mv E c rv)
 |[],_,_=>none
 |q::l,ls,A=>bif jd (qt 9) A q.1.2.1&&jd Ie ls q.1.1 then some q else JN l ls A
theorem Md {mv:List Nat}{E:bJ Z}{c:Code}{rv:List ResultVar}:∀ {l:List (Kn mv E c rv)}{ls:List aK}{A:List I}{q:Kn mv E c rv},JN l ls A=some q→jd (qt 9) A q.1.2.1=true∧jd Ie ls q.1.1=true
 |q::l,ls,A,q',h=>by
  unfold JN at h
  cases hc:jd (qt 9) A q.1.2.1&&jd Ie ls q.1.1 with
  |true =>
   rw[hc]at h
   simp only[cond_true,Option.some.injEq]at h
   subst h
   simpa using hc
  |false=>rw[hc]at h;exact Md h
def af4 (n:Nat) (mv ka kb:List Nat) (E:bJ Z) (f:FuncId) (c:Code) (rv:List ResultVar) (t:List (Kn mv E c rv)) (h:∀ ls A y,rN mv E c rv ls A=some y→y.1.length=ls.length∧gG Z.toSeat f ls.length (cw ls) (eL ls) (me (sr 0 ls.length) y.1 (eL ls)) (fun i=>bc i mv) (I.al zh A) (y.2.toD zh)):dz Z.toSeat where
 f:=f
 ka:=ka
 kb:=kb
 wr:=sr 0 n
 mv:=mv
 app:=fun ls A k=>bif Nat.beq ls.length n then (match JN t ls A with
  |some q=>k q.1.2.2.1 q.1.2.2.2
  |none=>(match rN mv E c rv ls A with|some y=>k y.1 y.2|none=>none)) else none
 ok:=fun ls A k r e=>by
  cases hl:Nat.beq ls.length n with
  |false=>rw[hl]at e;cases e
  |true =>
   rw[hl]at e
   simp only[cond_true]at e
   have hn:=Nat.eq_of_beq_eq_true hl
   split at e
   ·rename_i q hq
    obtain ⟨e1,e2⟩:=Md hq
    obtain ⟨a1,a2⟩:=WN e2
    obtain ⟨_,h2⟩:=h _ _ _ q.2
    refine ⟨_,_,e,?_⟩
    have b1:cw ls=cw q.1.1:=by funext i;unfold cw;rw[(a2 i).1]
    have b2:eL ls=eL q.1.1:=by funext i;exact(a2 i).2
    have b3:I.al zh A=I.al zh q.1.2.1:=mN zh (zw zh) e1
    rw[b1,b2,b3,← hn,a1]
    exact h2
   ·split at e
    ·rename_i y hy
     obtain ⟨_,h2⟩:=h ls A y hy
     rw[hn]at h2
     refine ⟨y.1,y.2,e,?_⟩
     rw[hn]
     exact h2
    ·cases e
def af9 (Z:aX) (f:FuncId) (A0:List I) (d0:I) (hc:∀ h,ep Z.toSeat f (I.al h A0) (d0.toD h)):ak Z.toSeat where
 f:=f
 sc:=scR d0
 app:=fun A k=>bif jd (qt 9) A A0 then k d0 else none
 ok:=fun A k r e=>by
  cases hq:jd (qt 9) A A0 with
  |false=>rw[hq]at e;cases e
  |true =>
   rw[hq]at e
   refine ⟨d0,e,fun h=>⟨?_,fun hs=>Zq hs⟩⟩
   rw[mN h (zw h) hq]
   exact hc h
end
end
end Go.Ab
namespace Go.Proofs.cZ
open Go Go.Ab
open Go.Proofs.YtbhjjkekphpldaaGreatDoorN (ae)
set_option linter.all false
set_option maxRecDepth 100000
noncomputable section
def abZ:List I:=match fX [] with|some (.agg l)=>l|_=>[]
def dst (m:Int) (l k v:I) (ts:List bU) (a b:List eh):List aK:=[.box (.int .i64 m::l::k::.os 900000001 1::.os 900000002 1::.sl .aU [⟨⟨#[114,97,99,107]⟩,1,⟨1000,1000⟩,⟨900,1000⟩⟩,⟨⟨#[99,97,109,112]⟩,1,⟨0,0⟩,⟨0,100⟩⟩]::v::abZ),.arr 261 .bU ts,.arr 63 .dT [⟨⟨#[97,110,110]⟩,1,a⟩,⟨⟨#[98,111,98]⟩,1,b⟩]]
def tx (b:List UInt8):List I:=[.bx 0 1 0,.str ⟨b.toArray⟩]
def lk:I:=.sl .jN [⟨3,1,0,⟨400,420⟩⟩]
def trA:List bU:=[⟨0,2060,⟨1,0,⟨100,100⟩,[]⟩⟩]
def tuA:List eh:=[⟨⟨0,0⟩,⟨3,3⟩⟩]
def z0:List aK:=dst 0 .nil .nil .nil [] [] []
def z1:List aK:=dst 0 lk .nil .nil [] [] []
def z2:List aK:=dst 0 lk .nil .nil trA tuA []
def rp (e:Int) (b:List UInt8):I:=.bn [.str ⟨b.toArray⟩,.int .i64 e]
abbrev HI (s:List aK) (l:List UInt8) (t:List aK) (e:Int) (b:List UInt8):Prop:=rN (Z:=ae) [1] RZ (dB Tryz.f124) Tryz.f124.results.toList s (tx l)=some (t,rp e b)
abbrev KnT:=Kn (Z:=ae) [1] RZ (dB Tryz.f124) Tryz.f124.results.toList
end
end Go.Proofs.cZ
