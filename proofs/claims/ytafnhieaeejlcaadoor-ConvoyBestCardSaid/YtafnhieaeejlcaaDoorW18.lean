/- Walks by computing: what each function of the program that the laws reach gives for what it gets, as plain Lean, and that it is so; without a condition but those that stand in each theorem. -/
import Derived.Test.YtafnhieaeejlcaaDoorW1
import Derived.Test.YtafnhieaeejlcaaDoorW2
import Derived.Test.YtafnhieaeejlcaaDoorW3
import Derived.Test.YtafnhieaeejlcaaDoorW4
import Derived.Test.YtafnhieaeejlcaaDoorW5
import Derived.Test.YtafnhieaeejlcaaDoorW6
import Derived.Test.YtafnhieaeejlcaaDoorW7
import Derived.Test.YtafnhieaeejlcaaDoorW8
import Derived.Test.YtafnhieaeejlcaaDoorW9
import Derived.Test.YtafnhieaeejlcaaDoorW10
import Derived.Test.YtafnhieaeejlcaaDoorW11
import Derived.Test.YtafnhieaeejlcaaDoorW12
import Derived.Test.YtafnhieaeejlcaaDoorW13
import Derived.Test.YtafnhieaeejlcaaDoorW14
import Derived.Test.YtafnhieaeejlcaaDoorW15
import Derived.Test.YtafnhieaeejlcaaDoorW16
import Derived.Test.YtafnhieaeejlcaaDoorW17
set_option linter.all false
namespace Go.Proofs.Plain04
open Go
open Go.Ab hiding atP
open Go.Proofs.YtafnhieaeejlcaaDoor (bc bf fc CR ai bD fg fx J6 bI cg iK qa xP lY iX fA dy cn)
set_option linter.all false
theorem pg{α:Type}{f g:Nat→α}{n k:Nat}{x:α}(hx:g k=x)(h:∀i,i≠k→g i=f i):((List.range n).map f).set k x=(List.range n).map g:=by
 apply List.ext_getElem (by simp)
 intro i h1 h2
 rw[List.getElem_set]
 split
 ·rename_i e;subst e;simp[hx]
 ·rename_i e;simp[h i (fun q=>e q.symm)]
theorem ia{α:Type}{f g:Nat→α}{n:Nat}(h:∀i,i<n→f i=g i):(List.range n).map f=(List.range n).map g:=
 List.map_congr_left fun i hi=>h i (List.mem_range.1 hi)
theorem xi{R:Type}{z:Bool}{a b:Option R}(h:z=true→a=b):rq z a b=b:=by unfold rq;rw[if_pos h]
theorem wO{l:List Truck}(h:l.length≤1000):jC l=some l:=by
 rw[oY];unfold jU
 rw[xi (fun hz=> ?_)]
 ·apply ok_eq;exact Ok.aW (eY (by simp;omega) (by omega)) (Ok.some (by simp))
 ·have:l=[]:=by simpa using hz
  subst this;rfl
theorem AJ{l:List Int}(h:l.length≤1000):kg l=some l:=by
 rw[sg];unfold m8
 rw[xi (fun hz=> ?_)]
 ·apply ok_eq;exact Ok.aW (eY (by simp;omega) (by omega)) (Ok.some (by simp))
 ·have:l=[]:=by simpa using hz
  subst this;rfl
def xD(t:Truck)(m:Int):Truck:=⟨t.Way,m,t.Pace,t.Holds⟩
def x4(c:Convoy)(starts l:List Int)(i:Nat):Truck:=xD (c.Trucks.getD i ax) (starts.getD (l.getD i 0).toNat 0)
def nD(c:Convoy)(starts l:List Int):Convoy:=⟨c.Length,c.Gap,c.Fails,(List.range c.Trucks.length).map (x4 c starts l)⟩
structure pR (c:Convoy) (starts l:List Int):Prop where
 n:l.length=c.Trucks.length
 b:∀i,i<l.length→0≤l.getD i 0∧l.getD i 0<starts.length
theorem uv{c:Convoy}{starts l:List Int}(hn:c.Trucks.length≤1000)(h:pR c starts l):fR c starts l=some (nD c starts l):=by
 rw[uD];apply ok_eq
 refine Ok.beq (wO hn) ?_
 refine Ok.rounds (fun v=>∃k:Nat,k≤c.Trucks.length∧v.1.2.2.1=(k:Int)∧v.2.1.1=c.Length∧v.2.1.2.1=c.Gap∧v.2.1.2.2.1=c.Fails∧v.2.1.2.2.2.1=(List.range c.Trucks.length).map fun i=>if i<k then x4 c starts l i else c.Trucks.getD i ax) (fun v=>((c.Trucks.length:Int)-v.1.2.2.1).toNat) ?_ ?_ ?_
 ·show((c.Trucks.length:Int)-0).toNat<18446744073709551616
  omega
 ·exact⟨0,Nat.zero_le _,rfl,rfl,rfl,rfl,kl ax⟩
 rintro ⟨⟨_,_,x,_⟩,⟨⟨q1,q2,q3,q4,_⟩,_⟩⟩ kn ⟨k,k1,k2,k3,k4,k5,k6⟩ hk
 simp only at k2 k3 k4 k5 k6⊢
 subst k2 k3 k4 k5 k6
 have hl:=h.n
 refine Ok.ite (fun hlt=> ?_) fun hge=>Ok.some ?_
 ·have hlt:k<c.Trucks.length:=by have:=of_decide_eq_true hlt;omega
  obtain⟨b0,b1⟩:=h.b k (by omega)
  have ek:bz ((k:Int)+1)=((k+1:Nat):Int):=by rw[aY (by omega) (by omega)];push_cast;rfl
  refine Ok.aW (ib (by omega) (by omega)) (Ok.aW ?_ (Ok.aW ?_ (Ok.aW ?_ (hk _ ⟨k+1,hlt,ek,rfl,rfl,rfl, ?_⟩ ?_))))
  ·simp only[Int.toNat_natCast,Bool.and_eq_true,decide_eq_true_eq];exact⟨b0,b1⟩
  ·rw[ez];exact ib (by omega) (by omega)
  ·simp only[Int.toNat_natCast,ez];simpa using hlt
  ·simp only[Int.toNat_natCast]
   rw[dM _ _ hlt,if_neg (by omega)]
   exact pg (by simp[x4,xD]) fun i hi=>by
    by_cases e:i<k
    ·rw[if_pos e,if_pos (by omega)]
    ·rw[if_neg e,if_neg (by omega)]
  ·simp only[ek];omega
 ·have hge:k=c.Trucks.length:=by have:=of_decide_eq_false hge;omega
  subst hge
  unfold nD
  exact congrArg _ (ia fun i hi=>by rw[if_pos hi])
end Go.Proofs.Plain04
namespace Go.Proofs.YtafnhieaeejlcaaDoor
open Go Go.Ab
set_option linter.all false
def pd(p:Nat→Bool):Nat→Int
 |0=>0
 |n+1=>pd p n+(if p n then 1 else 0)
theorem Mv{p:Nat→Bool}{n:Nat}(h:p n=true):pd p (n+1)=pd p n+1:=by simp only[pd,if_pos h]
theorem Mz{p:Nat→Bool}{n:Nat}(h:p n=false):pd p (n+1)=pd p n:=by simp only[pd,h];simp
theorem wE{p q:Nat→Bool}:∀{n},(∀i,i<n→p i=true→q i=true)→pd p n≤pd q n
 |0,_=>Int.le_refl _
 |n+1,h=>by
  have ih:=wE (p:=p) (q:=q) (n:=n) fun i hi=>h i (by omega)
  have:=h n (by omega)
  simp only[pd]
  cases hp:p n<;>cases hq:q n<;>simp_all<;>omega
theorem J4{p q:Nat→Bool}:∀{n},(∀i,i<n→p i=true→q i=true)→(∃a,a<n∧q a=true∧p a=false)→pd p n+1≤pd q n
 |0,_,⟨a,h,_⟩=>by omega
 |n+1,h,⟨a,h1,h2,h3⟩=>by
  have hn:=h n (by omega)
  simp only[pd]
  by_cases e:a=n
  ·subst e
   have ih:=wE (p:=p) (q:=q) (n:=a) fun i hi=>h i (by omega)
   rw[h2,h3];simp;omega
  ·have ih:=J4 (p:=p) (q:=q) (n:=n) (fun i hi=>h i (by omega)) ⟨a,by omega,h2,h3⟩
   cases hp:p n<;>cases hq:q n<;>simp_all<;>omega
theorem Fu{p q:Nat→Bool}{j:Nat}(h:∀i,i≠j→q i=p i)(hp:p j=false)(hq:q j=true):∀n,pd q n=pd p n+(if j<n then 1 else 0)
 |0=>rfl
 |n+1=>by
  have ih:=Fu h hp hq n
  simp only[pd]
  rw[ih]
  by_cases e:n=j
  ·subst e;rw[hp,hq];simp
  ·rw[h n e]
   by_cases e2:j<n
   ·rw[if_pos e2,if_pos (show j<n+1 by omega)];omega
   ·rw[if_neg e2,if_neg (show¬j<n+1 by omega)];omega
theorem BG{p:Nat→Bool}(h:∀i,p i=false):∀n,pd p n=0
 |0=>rfl
 |n+1=>by simp only[pd,BG h n,h n];rfl
theorem F6(p:Nat→Bool):∀n,pd p n≤n
 |0=>Int.le_refl _
 |n+1=>by have:=F6 p n;simp only[pd];split<;>omega
theorem rQ{keep fail:Nat→Int}{m:Int}:∀{n:Nat} {c:Int},jF keep fail m n=some c↔(∀i,i<n→keep i≤m∨fail i≤m)∧c=pd (fun i=>decide (keep i>m)) n
 |0,c=>by simp[jF,pd,eq_comm]
 |n+1,c=>by
  simp only[jF]
  cases e:jF keep fail m n with
  |none=>
   refine⟨fun h=>by simp at h,fun⟨h1,h2⟩=> ?_⟩
   have:=(rQ (c:=pd (fun i=>decide (keep i>m)) n)).2 ⟨fun i hi=>h1 i (by omega),rfl⟩
   rw[e]at this;cases this
  |some d=>
   obtain⟨h1,h2⟩:=rQ.1 e
   simp only
   by_cases a:keep n≤m
   ·rw[if_pos a,Mz (decide_eq_false (show¬keep n>m by omega))]
    constructor
    ·intro h
     cases h
     exact⟨fun i hi=>by
      by_cases ei:i=n
      ·subst ei;exact .inl a
      ·exact h1 i (by omega),by omega⟩
    ·rintro ⟨_,h⟩;rw[h,h2]
   ·rw[if_neg a,Mv (decide_eq_true (show keep n>m by omega))]
    by_cases b:fail n>m
    ·rw[if_pos b]
     exact⟨fun h=>by simp at h,fun⟨h,_⟩=>by have:=h n (by omega);omega⟩
    ·rw[if_neg b]
     constructor
     ·intro h
      cases h
      exact⟨fun i hi=>by
       by_cases ei:i=n
       ·subst ei;right;omega
       ·exact h1 i (by omega),by omega⟩
     ·rintro ⟨_,h⟩;rw[h,h2]
theorem CO{keep fail:Nat→Int}{n:Nat}{fails m:Int}:kW keep fail n fails m=true↔(∀i,i<n→keep i≤m∨fail i≤m)∧pd (fun i=>decide (keep i>m)) n≤fails:=by
 unfold kW
 cases e:jF keep fail m n with
 |none=>
  refine⟨fun h=>by simp at h,fun⟨h1,h2⟩=> ?_⟩
  have:=rQ.2 ⟨h1,rfl⟩
  rw[e]at this;cases this
 |some d=>
  obtain⟨h1,h2⟩:=rQ.1 e
  simp only[decide_eq_true_eq]
  rw[h2];exact⟨fun h=>⟨h1,h⟩,fun h=>h.2⟩
section
variable {s fast:Nat→Int} {n:Nat}
def sS(s:Nat→Int)(n m:Nat):Nat→Bool:=fun i=>decide (df s n m i= -1)
theorem IF(hs:∀i,0≤s i):∀m,m≤n→pd (sS s n m) n=m∧(∀i,df s n m i= -1∨df s n m i=s i)∧(∀r a,r<n→a<n→sS s n m r=true→sS s n m a=false→s a≤s r)∧
 ∀M,(BP s fast n m≤M↔0≤M∧∀i,i<n→sS s n m i=true→fast i≤M)
 |0,_=>by
  have hz:∀i,sS s n 0 i=false:=fun i=>by
   have:=hs i
   unfold sS;rw[xr];simp;omega
  refine⟨BG hz n,fun i=> .inr rfl,fun r a _ _ h=> ?_,fun M=>⟨fun h=>⟨h,fun i _ hi=> ?_⟩,fun h=>h.1⟩⟩
  ·rw[hz r]at h;cases h
  ·rw[hz i]at hi;cases hi
 |m+1,hm=>by
  obtain⟨h1,h2,h3,h4⟩:=IF hs m (by omega)
  obtain⟨w1,w2,_⟩:=qH (df s n m) (n:=n) (by omega)
  generalize hw:iJ (df s n m) n=w at*
  have hmax:∀i,i<n→df s n m i≤df s n m w:=fun i hi=>by rw[w2];exact Gt _ _ _ (by omega)
  --somebody is left
  have hleft:sS s n m w=false:=by
   cases hb:sS s n m w with
   |false=>rfl
   |true=>
    have hall:∀i,i<n→sS s n m i=true:=fun i hi=>by
     have a:=hmax i hi
     have b:df s n m w= -1:=by simpa[sS]using hb
     have d:=h2 i
     have e:=hs i
     simp only[sS,decide_eq_true_eq];omega
    have:pd (fun _=>true) n≤pd (sS s n m) n:=wE fun i hi _=>hall i hi
    have hfull:∀k,pd (fun _=>true) k=k:=fun k=>by
     induction k with
     |zero=>rfl
     |succ k ih=>simp only[pd,ih];simp
    rw[hfull,h1]at this;omega
  have hsw:df s n m w=s w:=(h2 w).resolve_left (by simpa[sS]using hleft)
  have hR:∀i,sS s n (m+1) i=if i=w then true else sS s n m i:=fun i=>by
   unfold sS
   rw[ks,hw]
   by_cases e:i=w
   ·rw[if_pos e,if_pos e];rfl
   ·rw[if_neg e,if_neg e]
  refine⟨?_,fun i=> ?_,fun r a hr ha hr' ha' => ?_,fun M=> ?_⟩
  ·rw[Fu (p:=sS s n m) (q:=sS s n (m+1)) (j:=w) (fun i hi=>by rw[hR,if_neg hi]) hleft (by rw[hR,if_pos rfl]) n,h1,if_pos w1];push_cast;rfl
  ·rw[ks,hw]
   by_cases e:i=w
   ·rw[if_pos e];exact .inl rfl
   ·rw[if_neg e];exact h2 i
  ·rw[hR]at hr' ha'
   by_cases ea:a=w
   ·rw[if_pos ea]at ha';cases ha'
   ·rw[if_neg ea]at ha'
    by_cases er:r=w
    ·subst er
     have:=hmax a ha
     have e2:df s n m a=s a:=(h2 a).resolve_left (by simpa[sS]using ha')
     omega
    ·rw[if_neg er]at hr';exact h3 r a hr ha hr' ha'
  ·rw[ri,hw]
   have:=h4 M
   constructor
   ·intro h
    obtain⟨a,b⟩:=this.1 (by omega)
    refine⟨a,fun i hi hi' => ?_⟩
    rw[hR]at hi'
    by_cases e:i=w
    ·subst e;omega
    ·rw[if_neg e]at hi';exact b i hi hi'
   ·rintro ⟨a,b⟩
    have h5:=this.2 ⟨a,fun i hi hi' =>b i hi (by rw[hR];split<;>first|rfl|exact hi')⟩
    have h6:=b w w1 (by rw[hR,if_pos rfl])
    omega
theorem F4(lo:Int)(f:Nat→Int)(M:Int):∀k,tg lo f k≤M↔lo≤M∧∀i,i<k→f i≤M
 |0=>by rw[zL];exact⟨fun h=>⟨h,fun i hi=>by omega⟩,fun h=>h.1⟩
 |k+1=>by
  have ih:=F4 lo f M k
  rw[py]
  constructor
  ·intro h
   obtain⟨a,b⟩:=ih.1 (by omega)
   refine⟨a,fun i hi=> ?_⟩
   by_cases e:i=k
   ·subst e;omega
   ·exact b i (by omega)
  ·rintro ⟨a,b⟩
   have:=ih.2 ⟨a,fun i hi=>b i (by omega)⟩
   have:=b k (by omega)
   omega
theorem Ez{fails:Int}(hs:∀i,0≤s i)(hf:0≤fails)(hle:∀i,i<n→fast i≤s i)(M:Int):
 tg (BP s fast n (min fails.toNat n)) (df s n (min fails.toNat n)) n≤M↔0≤M∧kW s fast n fails M=true:=by
 generalize hm:min fails.toNat n=m
 obtain⟨h1,h2,h3,h4⟩:=IF (fast:=fast) (n:=n) hs m (by omega)
 rw[F4,h4,CO]
 have hsoon:∀i,sS s n m i=false→df s n m i=s i:=fun i hi=>(h2 i).resolve_left (by simpa[sS]using hi)
 constructor
 ·rintro ⟨⟨a,b⟩,d⟩
  have key:∀i,i<n→s i>M→sS s n m i=true:=fun i hi hgt=>by
   cases hb:sS s n m i with
   |true=>rfl
   |false=>
    have:=d i hi
    rw[hsoon i hb]at this;omega
  refine⟨a,fun i hi=> ?_, ?_⟩
  ·by_cases hgt:s i>M
   ·exact .inr (b i hi (key i hi hgt))
   ·left;omega
  ·have:pd (fun i=>decide (s i>M)) n≤pd (sS s n m) n:=wE fun i hi hp=>key i hi (by simpa using hp)
   omega
 ·rintro ⟨a,b,d⟩
  have key:∀i,i<n→s i>M→sS s n m i=true:=fun i hi hgt=>by
   cases hb:sS s n m i with
   |true=>rfl
   |false=>
    exfalso
    have:pd (sS s n m) n+1≤pd (fun i=>decide (s i>M)) n:=J4 (fun r hr hr' =>by
     have:=h3 r i hr hi hr' hb
     simp only[decide_eq_true_eq];omega) ⟨i,hi,by simpa using hgt,hb⟩
    have h5:=F6 (fun i=>decide (s i>M)) n
    omega
  refine⟨⟨a,fun i hi hi' => ?_⟩,fun i hi=> ?_⟩
  ·by_cases hgt:s i>M
   ·exact(b i hi).resolve_left (by omega)
   ·have:=hle i hi;omega
  ·rcases h2 i with e|e
   ·omega
   ·rw[e]
    by_cases hgt:s i>M
    ·have:=key i hi hgt
     simp only[sS,decide_eq_true_eq]at this
     have:=hs i
     omega
    ·omega
end
theorem B7{t:Truck}{len p:Int}(h:fc len t)(hp:t.lo≤p):cn (bf t true) len p≤cn t len p:=by
 obtain⟨e1,e2,_⟩:=fa h hp
 obtain⟨f1,f2,_⟩:=fa (h.free true) (pace:=p) hp
 refine Classical.byContradiction fun hn=> ?_
 have h1:=qt h (by have:=h.p1;omega) (cn t len p) (p:=p)
 have hb:=(dH (h.free true).l1 (h.free true).ho (pace:=p) (by have:=h.p1;omega) (cn t len p)).2
 exact f2 (cn t len p) (by omega) (by omega)
def kF(c:Convoy)(i:Nat):Int:=if i<c.trucks.length then cO c i else 0
theorem vX{p q:Nat→Bool}:∀f k,(∀i,k≤i→i<k+f→p i=q i)→kR p f k=kR q f k
 |0,_,_=>rfl
 |f+1,k,h=>by
  simp only[kR]
  rw[h k (Nat.le_refl _) (by omega),vX f (k+1) fun i a b=>h i (by omega) (by omega)]
theorem qT{s s' :Nat→Int}{n:Nat}(h:∀i,i<n→s i=s' i):∀m,m≤n→(∀i,i<n→df s n m i=df s' n m i)∧(0<n→∀k,k<m→iJ (df s n k) n=iJ (df s' n k) n)
 |0,_=>⟨h,fun _ k hk=>by omega⟩
 |m+1,hm=>by
  obtain⟨h1,h2⟩:=qT h m (by omega)
  have hw:iJ (df s n m) n=iJ (df s' n m) n:=by
   have hN:∀k,k<n→mK (df s n m) k=mK (df s' n m) k:=fun k hk=>by
    induction k with
    |zero=>exact h1 0 hk
    |succ k ih=>simp only[mK];rw[ih (by omega),h1 (k+1) hk]
   unfold iJ
   rw[vX (q:=fun i=>decide (mK (df s' n m) (n-1)=df s' n m i)) n 0 fun i _ hi=>by
    have e1:=hN (n-1) (by omega)
    have e2:=h1 i (by omega)
    simp only[e1,e2]]
  refine⟨fun i hi=> ?_,fun hn k hk=> ?_⟩
  ·rw[ks,ks,hw,h1 i hi]
  ·by_cases e:k=m
   ·subst e;exact hw
   ·exact h2 hn k (by omega)
theorem BZ{s s' f f' :Nat→Int}{n:Nat}(h:∀i,i<n→s i=s' i)(hf:∀i,i<n→f i=f' i):∀m,m≤n→BP s f n m=BP s' f' n m
 |0,_=>rfl
 |m+1,hm=>by
  rw[ri,ri,BZ h hf m (by omega),(qT h (m+1) hm).2 (by omega) m (by omega)]
  rw[hf _ (qH (df s' n m) (n:=n) (by omega)).1]
theorem wX{a b:Int}{f g:Nat→Int}(hab:a=b):∀k,(∀i,i<k→f i=g i)→tg a f k=tg b g k
 |0,_=>hab
 |k+1,h=>by rw[py,py,wX hab k fun i hi=>h i (by omega),h k (by omega)]
theorem DW{s s' f f' :Nat→Int}{n:Nat}{fails m:Int}(h:∀i,i<n→s i=s' i)(hf:∀i,i<n→f i=f' i):kW s f n fails m=kW s' f' n fails m:=by
 have:∀k,k≤n→jF s f m k=jF s' f' m k:=fun k=>by
  induction k with
  |zero=>intro _;rfl
  |succ k ih=>intro hk;simp only[jF];rw[ih (by omega),h k (by omega),hf k (by omega)]
 unfold kW
 rw[this n (Nat.le_refl _)]
theorem uq{c:Convoy}(hc:CR c){i:Nat}(hi:i<c.trucks.length):0≤cO c i:=by
 rw[rI hc hi];have:=(hc.r i hi).s1;omega
theorem yw{c:Convoy}(hc:CR c){i:Nat}(hi:i<c.trucks.length):eM c i≤cO c i:=by
 rw[rI hc hi,wh hc hi]
 have:=B7 (hc.r i hi) (hc.r i hi).p2
 omega
theorem wv{c:Convoy}(hc:CR c)(M:Int):lN c≤M↔0≤M∧kW (cO c) (eM c) c.trucks.length c.fails M=true:=by
 have hk:∀i,i<c.trucks.length→cO c i=kF c i:=fun i hi=>by unfold kF;rw[if_pos hi]
 have hk0:∀i,0≤kF c i:=fun i=>by
  unfold kF;split
  ·exact uq hc (by assumption)
  ·exact Int.le_refl _
 have:=Ez (s:=kF c) (fast:=eM c) (n:=c.trucks.length) (fails:=c.fails) hk0 hc.ok.f1 (fun i hi=>by rw[←hk i hi];exact yw hc hi) M
 rw[←DW hk (fun i _=>rfl)]at this
 rw[←this]
 unfold lN eQ
 rw[BZ hk (fun i _=>rfl) _ (by omega),wX rfl _ fun i hi=>(qT hk _ (by omega)).1 i hi]
theorem uu{c:Convoy}(hc:CR c):lY c=iX c:=by
 unfold lY iX
 have h1:=xf c (K:=21000) (C6 hc.ok) 21000 0 (Nat.zero_le _) (Nat.le_refl _)
 obtain⟨a,b,d⟩:=h1
 have h2:=(wv hc (jK c 21000 0)).2 ⟨by omega,b⟩
 have h3:=(wv hc (lN c)).1 (Int.le_refl _)
 have h4:¬lN c<jK c 21000 0:=fun hlt=>by
  have:=a (lN c).toNat (Nat.zero_le _) (by omega)
  rw[show(((lN c).toNat:Nat):Int)=lN c by omega,h3.2]at this
  cases this
 have:lN c=jK c 21000 0:=by omega
 rw[this]
end Go.Proofs.YtafnhieaeejlcaaDoor
namespace Go.Proofs.Plain04
open Go Go.Ab
open Go.Proofs.YtafnhieaeejlcaaDoor (dw iD eF bG cn bc bf fc CR ai fg Eg Kq ph bI dH vp fa cO eM fA rI wh sE dy lY lN wv kW CO pd wE Mv Mz B7 wP yw uq me xk)
set_option linter.all false
set_option maxRecDepth 100000
theorem NT(c:Convoy)(i:Nat):fA (oC c) i=(c.Trucks.getD i ax).Start+(cn (oT (Dk (c.Trucks.getD i ax) false)) c.Length (c.Trucks.getD i ax).Pace.Lo:Int):=by
 rw[sE,pH];rfl
end Go.Proofs.Plain04
namespace Go.Proofs.Plain04
open Go
open Go.Ab hiding atP
open Go.Proofs.YtafnhieaeejlcaaDoor (bc bf fc CR ai bD fg fx J6 bI cg iK qa xP lY iX uu fA dy cn)
set_option linter.all false
theorem Lj{c:QV}{t:Truck}{m:Int}(h:bD c (oT t)=0)(m0:0≤m)(m1:m≤10000):bD c (oT (xD t m))=0:=by
 unfold bD at h⊢
 have e1:(oT (xD t m)).way=(oT t).way:=rfl
 have e2:(oT (xD t m)).start=m:=rfl
 have e3:(oT (xD t m)).lo=(oT t).lo:=rfl
 have e4:(oT (xD t m)).hi=(oT t).hi:=rfl
 have e5:(oT (xD t m)).holds=(oT t).holds:=rfl
 rw[e1,e2,e3,e4,e5]
 split at h;·cases h
 split at h;·cases h
 rename_i h1 h2
 rw[if_neg h1,if_neg (fun hh=>h2 (by omega))]
 exact h
def yg(starts:List Int):Prop:=∀i,i<starts.length→0≤starts.getD i 0∧starts.getD i 0≤10000
section
variable {c:Convoy} {starts l:List Int}
theorem AL(c:Convoy)(starts l:List Int):(nD c starts l).Trucks.length=c.Trucks.length:=ez _ _
theorem mQ{i:Nat}(hi:i<c.Trucks.length):(nD c starts l).Trucks.getD i ax=x4 c starts l i:=dM _ _ hi
theorem LP(h:ai (oC c)=0)(hs:yg starts)(hl:pR c starts l){i:Nat}(hi:i<c.Trucks.length):bD (oC c) (oT (x4 c starts l i))=0:=by
 have hb:=hl.b i (by have:=hl.n;omega)
 have hb2:=hs (l.getD i 0).toNat (by omega)
 exact Lj (fx (C9 h) _ (List.mem_map.2 ⟨_,oI hi,rfl⟩)) hb2.1 hb2.2
theorem pc(h:ai (oC c)=0)(hs:yg starts)(hl:pR c starts l):ai (oC (nD c starts l))=0:=by
 have hk:=(fg h).ok
 have hf:=Sj h
 refine ot hk.l1 hk.l2 hk.g1 hk.g2 hk.f1 hk.f2 (by simp[oC,nD];omega) fun t ht=> ?_
 obtain⟨u,hu,rfl⟩:=List.mem_map.1 ht
 obtain⟨i,hi,rfl⟩:=List.mem_map.1 hu
 exact LP h hs hl (List.mem_range.1 hi)
theorem zZ(h:ai (oC c)=0)(hs:yg starts)(hl:pR c starts l){i:Nat}(hi:i<c.Trucks.length)(b:Bool):fc c.Length (oT (Dk (x4 c starts l i) b)):=by
 have:=OG (pc h hs hl) (k:=i) (by rw[AL];exact hi) b
 rw[mQ hi]at this
 exact this
def AW(c:Convoy)(starts l:List Int)(n:Nat):Prop:=∀i k,i<k→k<n→z0 c.Gap c.Fails (oT (x4 c starts l i)) (oT (x4 c starts l k)) c.Length
theorem Fm(h:ai (oC c)=0)(hs:yg starts)(hl:pR c starts l):Acc (nD c starts l)↔AW c starts l c.Trucks.length:=by
 have hv:=pc h hs hl
 unfold Acc
 rw[iK (fg hv)]
 have hlen:(oC (nD c starts l)).trucks.length=c.Trucks.length:=by simp[oC,nD]
 rw[hlen]
 constructor
 ·rintro ⟨_,h1⟩ i k hik hk m ⟨b,hb,hn⟩
  refine h1 i k hik hk b hb m ?_
  unfold qa
  rw[pH,pH,mQ (by omega),mQ hk]
  exact hn
 ·refine fun h1=>⟨hv,fun i k hik hk b hb m hn=> ?_⟩
  unfold qa at hn
  rw[pH,pH,mQ (by omega),mQ hk]at hn
  exact h1 i k hik hk m ⟨b,hb,hn⟩
def PM(c:Convoy)(starts l:List Int)(i:Nat):Int:=(x4 c starts l i).Start+(jD (x4 c starts l i) c.Length:Int)
def HI(c:Convoy)(starts l:List Int):Int:=dy (PM c starts l) c.Trucks.length
theorem uo{f g:Nat→Int}:∀{n},(∀i,i<n→f i=g i)→dy f n=dy g n
 |0,_=>rfl
 |n+1,h=>by simp only[dy];rw[uo fun i hi=>h i (by omega),h n (by omega)]
theorem Jd(c:Convoy)(starts l:List Int):(nS (iX (oC (nD c starts l)))).Hi=HI c starts l:=by
 show dy (fA (oC (nD c starts l))) (oC (nD c starts l)).trucks.length=_
 have hlen:(oC (nD c starts l)).trucks.length=c.Trucks.length:=by simp[oC,nD]
 rw[hlen]
 refine uo fun i hi=> ?_
 rw[NT,mQ hi]
 rfl
end
def bump(l:List Int)(i:Nat):List Int:=(List.range l.length).map fun j=>if j<i then l.getD j 0 else if j=i then l.getD i 0+1 else 0
def nx(K:Int)(l:List Int):Nat→Option (List Int)
 |0=>none
 |i+1=>if l.getD i 0+1<K then some (bump l i)else nx K l i
def ox(K:Int)(l:List Int):Option (List Int):=nx K l l.length
theorem Ax{K:Int}{l l' :List Int}:∀{n},nx K l n=some l'→∃i,i<n∧l.getD i 0+1<K∧l' =bump l i∧∀j,i<j→j<n→¬l.getD j 0+1<K
 |n+1,h=>by
  simp only[nx]at h
  split at h
  ·rename_i q
   simp only[Option.some.injEq]at h
   exact⟨n,by omega,q,h.symm,fun j h1 h2=>by omega⟩
  ·rename_i q
   obtain⟨i,h1,h2,h3,h4⟩:=Ax h
   refine⟨i,by omega,h2,h3,fun j g1 g2=> ?_⟩
   by_cases e:j=n
   ·rw[e];exact q
   ·exact h4 j g1 (by omega)
theorem vU(l:List Int)(i:Nat):(bump l i).length=l.length:=ez _ _
theorem sM{l:List Int}{i j:Nat}(hj:j<l.length):(bump l i).getD j 0=if j<i then l.getD j 0 else if j=i then l.getD i 0+1 else 0:=dM _ _ hj
theorem v5{c:Convoy}{starts l l' :List Int}(h:pR c starts l)(hn:ox starts.length l=some l'):pR c starts l' :=by
 obtain⟨i,h1,h2,rfl,_⟩:=Ax hn
 refine⟨(vU _ _).trans h.n,fun j hj=> ?_⟩
 rw[vU]at hj
 rw[sM hj]
 have a:=h.b j hj
 have b:=h.b i h1
 split
 ·exact a
 ·split<;>omega
def V(K:Nat)(f:Nat→Int):Nat→Nat
 |0=>0
 |n+1=>V K f n*K+(f n).toNat
theorem MU{K:Nat}{f:Nat→Int}:∀{n},(∀i,i<n→0≤f i∧f i<K)→V K f n<K^n
 |0,_=>by simp[V]
 |n+1,h=>by
  have h1:=MU (K:=K) (f:=f) (n:=n) fun i hi=>h i (by omega)
  have h2:=h n (by omega)
  have h3:(f n).toNat<K:=by omega
  simp only[V,Nat.pow_succ]
  calc V K f n*K+(f n).toNat<V K f n*K+K:=by omega
   _=(V K f n+1)*K:=by rw[Nat.succ_mul]
   _≤K^n*K:=Nat.mul_le_mul_right _ h1
theorem Km{K:Nat}{f g:Nat→Int}:∀{n},(∀i,i<n→g i=f i)→V K g n=V K f n
 |0,_=>rfl
 |n+1,h=>by simp only[V];rw[Km fun i hi=>h i (by omega),h n (by omega)]
theorem Ke{K:Nat}{f g:Nat→Int}{i:Nat}(hf:∀j,0≤f j)(h1:∀j,j<i→g j=f j)(h2:g i=f i+1):∀m,(∀j,i<j→j<i+1+m→g j=0∧f j+1=K)→V K g (i+1+m)=V K f (i+1+m)+1
 |0,_=>by
  have:=hf i
  simp only[Nat.add_zero,V];rw[Km h1,h2];omega
 |m+1,h=>by
  have ih:=Ke hf h1 h2 m fun j a b=>h j a (by omega)
  obtain⟨e1,e2⟩:=h (i+1+m) (by omega) (by omega)
  have:=hf (i+1+m)
  show V K g (i+1+m)*K+(g (i+1+m)).toNat=V K f (i+1+m)*K+(f (i+1+m)).toNat+1
  rw[ih,e1,Nat.succ_mul]
  omega
def vL(K:Nat)(l:List Int):Nat:=V K (fun j=>l.getD j 0) l.length
theorem FC{c:Convoy}{starts l l' :List Int}(h:pR c starts l)(hn:ox starts.length l=some l'):vL starts.length l' =vL starts.length l+1:=by
 obtain⟨i,h1,h2,rfl,h4⟩:=Ax hn
 unfold vL
 rw[vU]
 have e:l.length=i+1+(l.length-(i+1)):=by omega
 have key:=Ke (K:=starts.length) (f:=fun j=>l.getD j 0) (g:=fun j=>(bump l i).getD j 0) (i:=i) (fun j=> ?_) (fun j hj=> ?_) ?_ (l.length-(i+1)) (fun j a b=> ?_)
 ·rw[←e]at key;exact key
 ·by_cases hj:j<l.length
  ·exact(h.b j hj).1
  ·show 0≤l.getD j 0
   rw[List.getD_eq_getElem?_getD,List.getElem?_eq_none (by omega)];exact Int.le_refl 0
 ·show(bump l i).getD j 0=l.getD j 0
  rw[sM (by omega),if_pos hj]
 ·show(bump l i).getD i 0=l.getD i 0+1
  rw[sM h1,if_neg (by omega),if_pos rfl]
 ·show(bump l i).getD j 0=0∧l.getD j 0+1=starts.length
  have hj:j<l.length:=by omega
  rw[sM hj,if_neg (by omega),if_neg (by omega)]
  have:=h4 j a hj
  have:=h.b j hj
  exact⟨rfl,by omega⟩
theorem Mp{c:Convoy}{starts l:List Int}(h:pR c starts l)(hn:c.Trucks.length≤5)(hs:starts.length≤6):vL starts.length l<10000:=by
 have h1:vL starts.length l<starts.length^l.length:=MU fun i hi=>h.b i hi
 have h2:starts.length^l.length≤6^l.length:=Nat.pow_le_pow_left hs _
 have h3:6^l.length≤6^5:=Nat.pow_le_pow_right (by omega) (by rw[h.n];exact hn)
 have h4:(6:Nat)^5=7776:=rfl
 omega
end Go.Proofs.Plain04
namespace Go.Proofs.Plain04
open Go
open Go.Ab hiding atP
open Go.Proofs.YtafnhieaeejlcaaDoor (fc CR ai bD fg bI cg lY iX uu fA dy cn)
set_option linter.all false
theorem x3{l:List Int}{i:Nat}{x:Int}(h:i<l.length):(l.set i x).getD i 0=x:=by rw[kA,if_pos ⟨rfl,h⟩]
open Classical in
noncomputable def gr(c:Convoy)(starts b l:List Int):List Int:=if(b=[]∨HI c starts l<HI c starts b)∧AW c starts l c.Trucks.length then l else b
inductive xW (c:Convoy) (starts:List Int):List Int→List Int→List Int→Prop
 |stop {b l:List Int}:ox starts.length l=none→xW c starts b l (gr c starts b l)
 |go {b l l' r:List Int}:ox starts.length l=some l'→xW c starts (gr c starts b l) l' r→xW c starts b l r
noncomputable def ky(c:Convoy)(starts b:List Int):List Int×Span×Int:=if b=[]then([],⟨0,0⟩,7)else(b,nS (iX (oC (nD c starts b))),0)
open Classical in
noncomputable def uR(c:Convoy)(starts:List Int):Int:=
 if ai (oC c)≠0 then ai (oC c)else if c.Trucks.length=0∨starts.length=0 then 6 else if c.Trucks.length>5∨starts.length>6 then 8 else if¬yg starts then 2 else 0
def lh(n:Nat):List Int:=List.replicate (n:Int).toNat (0:Int)
def D9(c:Convoy)(starts:List Int)(r:List Int×Span×Int):Prop:=if uR c starts≠0 then r=([],⟨0,0⟩,uR c starts)else∃b,xW c starts [] (lh c.Trucks.length) b∧r=ky c starts b
theorem lV{c:Convoy}{starts:List Int}{e:Int}(h:uR c starts=e)(h0:e≠0):D9 c starts ([],⟨0,0⟩,e):=by
 unfold D9;rw[if_pos (by rw[h];exact h0),h]
structure xw (c:Convoy) (starts:List Int):Prop where
 v:ai (oC c)=0
 n0:1≤c.Trucks.length
 n1:c.Trucks.length≤5
 k0:1≤starts.length
 k1:starts.length≤6
 s:yg starts
theorem yS{c:Convoy}{starts:List Int}(h:xw c starts):uR c starts=0:=by
 obtain⟨v,n0,n1,k0,k1,s⟩:=h
 unfold uR
 rw[if_neg (fun q=>q v),if_neg (by omega),if_neg (by omega),if_neg (fun q=>q s)]
theorem tz{c:Convoy}{starts:List Int}(h:1≤starts.length):pR c starts (lh c.Trucks.length):=by
 refine⟨by simp[lh],fun i hi=> ?_⟩
 have:(lh c.Trucks.length).getD i 0=0:=by
  unfold lh
  rw[List.getD_eq_getElem?_getD,List.getElem?_replicate]
  split<;>rfl
 omega
theorem OI{c:Convoy}{starts:List Int}{P:List Int×Span×Int→Prop}{z:Option (List Int×Span×Int)}(hP:∀r,D9 c starts r→P r)
 (hz:ai (oC c)=0→1≤c.Trucks.length→c.Trucks.length≤5→1≤starts.length→starts.length≤6→Ok P z):
 Ok P (bif (ai (oC c) !=0)then some (([]:List Int),(⟨0,0⟩:Span),ai (oC c))
  else bif ((c.Trucks.length:Int)==0)then some (([]:List Int),(⟨0,0⟩:Span),6)
  else bif ((starts.length:Int)==0)then some (([]:List Int),(⟨0,0⟩:Span),6)
  else bif (decide ((c.Trucks.length:Int)>5))then some (([]:List Int),(⟨0,0⟩:Span),8)
  else bif (decide ((starts.length:Int)>6))then some (([]:List Int),(⟨0,0⟩:Span),8)else z):=by
 refine Ok.ite (fun h=>Ok.some ?_) fun h0=>Ok.ite (fun h=>Ok.some ?_) fun h1=>Ok.ite (fun h=>Ok.some ?_) fun h2=>Ok.ite (fun h=>Ok.some ?_) fun h3=>Ok.ite (fun h=>Ok.some ?_) fun h4=> ?_
 ·have h:ai (oC c)≠0:=by simpa using h
  exact hP _ (lV (by unfold uR;rw[if_pos h]) h)
 ·have h0:ai (oC c)=0:=by simpa using h0
  have h:c.Trucks.length=0:=by simp at h;rw[h];rfl
  exact hP _ (lV (by unfold uR;rw[if_neg (fun q=>q h0),if_pos (.inl h)]) (by decide))
 ·have h0:ai (oC c)=0:=by simpa using h0
  have h:starts.length=0:=by simp at h;rw[h];rfl
  exact hP _ (lV (by unfold uR;rw[if_neg (fun q=>q h0),if_pos (.inr h)]) (by decide))
 ·have h0:ai (oC c)=0:=by simpa using h0
  have h1:¬c.Trucks.length=0:=by intro q;rw[q]at h1;cases h1
  have h2:¬starts.length=0:=by intro q;rw[q]at h2;cases h2
  have h:=of_decide_eq_true h
  exact hP _ (lV (by unfold uR;rw[if_neg (fun q=>q h0),if_neg (by omega),if_pos (.inl (by omega))]) (by decide))
 ·have h0:ai (oC c)=0:=by simpa using h0
  have h1:¬c.Trucks.length=0:=by intro q;rw[q]at h1;cases h1
  have h2:¬starts.length=0:=by intro q;rw[q]at h2;cases h2
  have h:=of_decide_eq_true h
  exact hP _ (lV (by unfold uR;rw[if_neg (fun q=>q h0),if_neg (by omega),if_pos (.inr (by omega))]) (by decide))
 ·have h0:ai (oC c)=0:=by simpa using h0
  have h1:¬c.Trucks.length=0:=by intro q;rw[q]at h1;cases h1
  have h2:¬starts.length=0:=by intro q;rw[q]at h2;cases h2
  have h3:=of_decide_eq_false h3
  have h4:=of_decide_eq_false h4
  exact hz h0 (by omega) (by omega) (by omega) (by omega)
theorem Jq{c:Convoy}{starts:List Int}(h0:ai (oC c)=0)(h1:1≤c.Trucks.length)(h2:c.Trucks.length≤5)(h3:1≤starts.length)(h4:starts.length≤6)(h:¬yg starts):uR c starts=2:=by
 unfold uR
 rw[if_neg (fun q=>q h0),if_neg (by omega),if_neg (by omega),if_pos h]
section
variable {c:Convoy} {starts:List Int} (h:xw c starts)
include h
theorem HY{l:List Int}(hl:pR c starts l):l≠[]:=by
 intro e;have:=hl.n;rw[e]at this;have:=h.n0;simp at*;omega
end
end Go.Proofs.Plain04
namespace Go.Proofs.Plain04
open Go
open Go.Ab hiding atP
open Go.Proofs.YtafnhieaeejlcaaDoor (fc CR ai bD fg bI cg lY iX uu fA dy cn)
set_option linter.all false
theorem xL(n:Int):kU n=some (!decide (0≤n∧n≤10000)):=by
 rw[qq];apply ok_eq
 exact Ok.beq (MJ _ _ _) (Ok.some rfl)
theorem Co{starts:List Int}(hn:starts.length≤1000):Ok (fun b=>b=true↔¬yg starts) (fC starts ()):=by
 rw[kQ]
 refine Ok.bind (P:=fun r=>r≥0↔¬yg starts) ?_ fun r hr=>Ok.some ?_
 ·rw[nq]
  refine Ok.rounds (fun v=>∃k:Nat,k≤starts.length∧v.1.1=(k:Int)∧∀i,i<k→0≤starts.getD i 0∧starts.getD i 0≤10000) (fun v=>((starts.length:Int)-v.1.1).toNat) ?_ ?_ ?_
  ·show((starts.length:Int)-0).toNat<18446744073709551616
   omega
  ·exact⟨0,Nat.zero_le _,rfl,fun i hi=>by omega⟩
  rintro ⟨⟨i,_⟩,_⟩ kn ⟨k,k2,rfl,k3⟩ hk
  simp only
  have ek:bz ((k:Int)+1)=((k+1:Nat):Int):=by rw[aY (by omega) (by omega)];push_cast;rfl
  refine Ok.ite (fun hlt=> ?_) fun hge=>Ok.some ?_
  ·have hlt:k<starts.length:=by have:=of_decide_eq_true hlt;omega
   refine Ok.aW (ib (by omega) (by omega)) (Ok.beq (xL _) ?_)
   simp only[Int.toNat_natCast]
   refine Ok.ite (fun q=>Ok.some ?_) fun q=>hk _ ⟨k+1,hlt,ek,fun i hi=> ?_⟩ ?_
   ·refine⟨fun _ hs=> ?_,fun _=>by omega⟩
    rw[decide_eq_true (hs k hlt)]at q;cases q
   ·by_cases e:i=k
    ·rw[e];simpa using q
    ·exact k3 i (by omega)
   ·simp only[ek];omega
  ·have hge:k=starts.length:=by have:=of_decide_eq_false hge;omega
   subst hge
   exact⟨fun q=>by omega,fun q=>absurd k3 q⟩
 ·simp only[decide_eq_true_eq];exact hr
theorem Jj{l X:List Int}{m:Nat}(hm:m<l.length)(hX:X=(List.range l.length).map fun j=>if j<m then l.getD j 0 else l.getD j 0+1):nE X (m+1) (l.length-(m+1))=bump l m:=by
 have hl:X.length=l.length:=by rw[hX];simp
 have hc:m+1+(l.length-(m+1))≤X.length:=by omega
 rw[kl (l:=nE X (m+1) (l.length-(m+1))) 0,CS hc,hl]
 unfold bump
 refine ia fun j hj=> ?_
 by_cases h:j≤m
 ·rw[BR hc (by omega),hX,dM _ _ hj]
  by_cases e:j=m
  ·subst e;rw[if_neg (by omega),if_neg (by omega),if_pos rfl]
  ·rw[if_pos (by omega),if_pos (by omega)]
 ·rw[F2 hc (by omega),if_neg (by omega),if_neg (by omega)]
section
variable {P:List Int×Span×Int→Prop} {c:Convoy} {starts l list:List Int} {bl bh:Int} {kn3:(List Int)→(List Int)→Int→Int→Option ((List Int)×Span×Int)}
theorem NY(hn:l.length≤1000)(hK:starts.length≤1000)(hb:∀i,i<l.length→0≤l.getD i 0∧l.getD i 0<starts.length)
 (hgo:∀l',ox starts.length l=some l'→Ok P (kn3 list l' bl bh))
 (hend:ox starts.length l=none→Ok P (bif (list.isEmpty)then some ([],(⟨0,0⟩:Span),7)else(fR c starts list).bind fun r13=>(vq r13).bind fun r14=>some (list,r14,0))):
 Ok P (cS _ (fun(v_0:(Unit×(List Int)×Unit×Unit×Unit×(List Int)×Int×Unit)×(Unit)) kn=>eB starts kn3 bl bh c v_0.1.2.1 v_0.1.2.2.2.2.2.1 v_0.1.2.2.2.2.2.2.1 (fun y0 y1 y2=>kn (((),y0,(),(),(),y1,y2,()),(())))) (((),list,(),(),(),l,(bz ((l.length:Int)-1)),()),(()))):=by
 refine Ok.rounds (fun v=>v.1.2.1=list∧∃k:Nat,k≤l.length∧v.1.2.2.2.2.2.2.1=(k:Int)-1∧v.1.2.2.2.2.2.1=(List.range l.length).map (fun j=>if j<k then l.getD j 0 else l.getD j 0+1)∧nx starts.length l k=ox starts.length l) (fun v=>(v.1.2.2.2.2.2.2.1+1).toNat) ?_ ?_ ?_
 ·show(bz ((l.length:Int)-1)+1).toNat<18446744073709551616
  rw[aY (by omega) (by omega)];omega
 ·refine⟨rfl,l.length,Nat.le_refl _,show bz ((l.length:Int)-1)=(l.length:Int)-1 from aY (by omega) (by omega), ?_,rfl⟩
  exact(kl 0).trans (ia fun i hi=>by rw[if_pos hi])
 rintro ⟨⟨_,list2,_,_,_,l2,i,_⟩,_⟩ kn ⟨k0,k,k1,k2,k3,k4⟩ hk
 simp only at k0 k2 k3 hk⊢
 subst k0 k2 k3
 refine Ok.ite (fun hge=> ?_) fun hlt=> ?_
 ·have hge:(k:Int)-1≥0:=of_decide_eq_true hge
  obtain⟨m,rfl⟩:∃m,k=m+1:=⟨k-1,by omega⟩
  have em:((m+1:Nat):Int)-1=(m:Int):=by push_cast;omega
  rw[em]at hk⊢
  have hm:m<l.length:=by omega
  obtain⟨b0,b1⟩:=hb m hm
  simp only[Int.toNat_natCast]
  have e1:((List.range l.length).map fun j=>if j<m+1 then l.getD j 0 else l.getD j 0+1).getD m 0=l.getD m 0:=by rw[dM _ _ hm,if_pos (by omega)]
  have e2:bz (l.getD m 0+1)=l.getD m 0+1:=aY (by omega) (by omega)
  have e3:(((List.range l.length).map fun j=>if j<m+1 then l.getD j 0 else l.getD j 0+1).set m (l.getD m 0+1)).getD m 0=l.getD m 0+1:=x3 (by rw[ez];exact hm)
  have e4:((List.range l.length).map fun j=>if j<m+1 then l.getD j 0 else l.getD j 0+1).set m (l.getD m 0+1)=(List.range l.length).map fun j=>if j<m then l.getD j 0 else l.getD j 0+1:=by
   refine pg (by simp) fun j hj=> ?_
   by_cases q:j<m
   ·rw[if_pos q,if_pos (by omega)]
   ·rw[if_neg q,if_neg (by omega)]
  rw[e4]at e3
  have em1:bz ((m:Int)+1)=((m+1:Nat):Int):=by rw[aY (by omega) (by omega)];push_cast;rfl
  simp only[e1,e2,e4,e3,em1,ez,Int.toNat_natCast]
  have c1:(decide (0≤(m:Int))&&decide ((m:Int)<(l.length:Int)))=true:=ib (by omega) (by omega)
  have c2:decide (m<l.length)=true:=by simpa using hm
  refine Ok.aW c1 (Ok.aW c2 (Ok.aW c1 (Ok.aW c2 (Ok.aW c1 (Ok.aW c2 (Ok.ite (fun h=>Ok.aW ?_ (Ok.aW ?_ ?_)) fun h=>hk _ ⟨rfl,m,by omega, ?_,rfl, ?_⟩ ?_))))))
  ·simp;omega
  ·simp only[decide_eq_true_eq];omega
  ·have h:=of_decide_eq_true h
   rw[Jj hm rfl]
   exact hgo _ (by rw[←k4];simp only[nx,if_pos h])
  ·exact aY (by omega) (by omega)
  ·have h:=of_decide_eq_false h
   rw[←k4]
   simp only[nx,if_neg h]
  ·simp only[aY (n:=(m:Int)-1) (by omega) (by omega)];omega
 ·have hlt:=of_decide_eq_false hlt
  have:k=0:=by omega
  subst this
  exact hend k4.symm
theorem R7: @nX=fun starts kn3 late c=>eB starts kn3 0 late c:=rfl
theorem Rs: @la=fun starts kn3 late c=>eB starts kn3 0 late c:=rfl
theorem RD: @lr=eB:=rfl
end
def OU(c:Convoy)(starts:List Int)(i k:Nat):br:=lO c (xD (c.Trucks.getD i ax) (starts.getD k 0))
def xX(c:Convoy)(starts:List Int):List (List br):=(List.range c.Trucks.length).map fun i=>(List.range starts.length).map (OU c starts i)
section
variable {c:Convoy} {starts:List Int} (h:xw c starts)
include h
theorem Kw{l:List Int}(hl:pR c starts l):vq (nD c starts l)=some (nS (iX (oC (nD c starts l)))):=by
 have hv:=pc h.v h.s hl
 rw[Gj,hv,uu (fg hv)];rfl
theorem z5{l:List Int}(hl:pR c starts l){i:Nat}(hi:i<c.Trucks.length):((xX c starts).getD i []).getD (l.getD i 0).toNat gm=lO c (x4 c starts l i):=by
 have hb:=hl.b i (by have:=hl.n;omega)
 unfold xX
 rw[dM _ _ hi,dM _ _ (by omega)]
 rfl
theorem AQ{i:Nat}(hi:i<c.Trucks.length):((xX c starts).getD i []).length=starts.length:=by
 unfold xX;rw[dM _ _ hi,ez]
theorem Nh{P:List Int×Span×Int→Prop}{l:List Int}(hl:pR c starts l){k:Nat}(hk:k<c.Trucks.length){kn4:(List Int)→Bool→Int→Int→Option ((List Int)×Span×Int)}{late r5:Int}{list:List Int}{fits:Bool}(hf:fits=true↔AW c starts l k)
 (hgo:∀f:Bool,(f=true↔AW c starts l (k+1))→Ok P (kn4 list f (max late r5) (bz ((k:Int)+1)))):
 Ok P (cS _ (fun(v_0:(Unit×(List Int)×Unit×Unit×Unit×Unit×Bool×Int×Unit×Unit)×(Unit)) kn=>nU (k:Int) (xX c starts) l c kn4 late r5 v_0.1.2.1 v_0.1.2.2.2.2.2.2.1 v_0.1.2.2.2.2.2.2.2.1 (fun y0 y1 y2=>kn (((),y0,(),(),(),(),y1,y2,(),()),(())))) (((),list,(),(),(),(),fits,0,(),()),(()))):=by
 have hn:=h.n1
 have hln:=hl.n
 refine Ok.rounds (fun v=>v.1.2.1=list∧∃j:Nat,j≤k∧v.1.2.2.2.2.2.2.2.1=(j:Int)∧(v.1.2.2.2.2.2.2.1=true↔AW c starts l k∧∀a,a<j→z0 c.Gap c.Fails (oT (x4 c starts l a)) (oT (x4 c starts l k)) c.Length)) (fun v=>((k:Int)-v.1.2.2.2.2.2.2.2.1).toNat) ?_ ?_ ?_
 ·show((k:Int)-0).toNat<18446744073709551616
  omega
 ·exact⟨rfl,0,Nat.zero_le _,rfl,by rw[hf];exact⟨fun q=>⟨q,fun a ha=>by omega⟩,fun q=>q.1⟩⟩
 rintro ⟨⟨_,list2,_,_,_,_,f,j,_⟩,_⟩ kn ⟨k0,m,m1,m2,m3⟩ hkk
 simp only at k0 m2 m3 hkk⊢
 subst k0 m2
 have em1:bz ((m:Int)+1)=((m+1:Nat):Int):=by rw[aY (by omega) (by omega)];push_cast;rfl
 have next:AW c starts l (k+1)↔AW c starts l k∧∀a,a<k→z0 c.Gap c.Fails (oT (x4 c starts l a)) (oT (x4 c starts l k)) c.Length:=
  ⟨fun q=>⟨fun a b h1 h2=>q a b h1 (by omega),fun a ha=>q a k ha (by omega)⟩,fun q a b h1 h2=>by
    by_cases e:b=k
    ·subst e;exact q.2 a h1
    ·exact q.1 a b h1 (by omega)⟩
 refine Ok.ite (fun hlt=>Ok.ite (fun hft=> ?_) fun hff=>hgo _ ?_) fun hge=>hgo _ ?_
 ·have hlt:m<k:=by have:=of_decide_eq_true hlt;omega
  have hb1:=hl.b m (by omega)
  have hb2:=hl.b k (by omega)
  simp only[Int.toNat_natCast]
  rw[z5 h hl (by omega),z5 h hl hk]
  have a1:=(fg h.v).ok.g1
  have a2:=(fg h.v).ok.g2
  have hal:(xX c starts).length=c.Trucks.length:=by simp[xX]
  have t1:=zZ h.v h.s hl (i:=m) (by omega) false
  have t2:=zZ h.v h.s hl hk false
  refine Ok.aW (ib (by omega) (by omega)) (Ok.aW (by simp;omega) (Ok.aW (ib (by omega) (by omega)) (Ok.aW (by simp;omega) (Ok.aW ?_ (Ok.aW (ib (by omega) (by omega)) (Ok.aW (by simp;omega) (Ok.aW ?_ (Ok.bind (J5 t1 t2 a1 (Int.le_trans a2 (by decide))) fun r6 h6=>hkk _ ⟨rfl,m+1,hlt,em1, ?_⟩ ?_))))))))
  ·simp only[Bool.and_eq_true,decide_eq_true_eq];rw[AQ h (by omega)];exact hb1
  ·simp only[Bool.and_eq_true,decide_eq_true_eq];rw[AQ h (by omega)];exact hb2
  ·simp only
   rw[h6]
   have q0:=m3.1 hft
   exact⟨fun q=>⟨q0.1,fun a ha=>by
    by_cases e:a=m
    ·rw[e];exact q
    ·exact q0.2 a (by omega)⟩,fun q=>q.2 m (by omega)⟩
  ·simp only[em1];omega
 ·have hlt:m<k:=by have:=of_decide_eq_true hlt;omega
  rw[hff,next]
  refine⟨fun q=>(by cases q),fun q=> ?_⟩
  rw[←hff,m3]
  exact⟨q.1,fun a ha=>q.2 a (by omega)⟩
 ·have hge:m=k:=by have:=of_decide_eq_false hge;omega
  subst hge
  rw[m3,next]
theorem Nx{P:List Int×Span×Int→Prop}{l:List Int}(hl:pR c starts l){kn3:(List Int)→(List Int)→Int→Int→Option ((List Int)×Span×Int)}{list:List Int}{bl bh:Int}(hb:list=[]∨pR c starts list∧bh=HI c starts list)
 (hgo:∀l' a b,ox starts.length l=some l'→(gr c starts list l=[]∨pR c starts (gr c starts list l)∧b=HI c starts (gr c starts list l))→Ok P (kn3 (gr c starts list l) l' a b))
 (hend:ox starts.length l=none→P (ky c starts (gr c starts list l))):
 Ok P (cS _ (fun(v_0:(Unit×(List Int)×Unit×Unit×Unit×Unit×Bool×Int×Unit×Int×Unit)×(Unit)) kn=>oB cS l (xX c starts) c starts kn3 bh bl v_0.1.2.1 v_0.1.2.2.2.2.2.2.1 v_0.1.2.2.2.2.2.2.2.1 v_0.1.2.2.2.2.2.2.2.2.2.1 (fun y0 y1 y2 y3=>kn (((),y0,(),(),(),(),y1,y2,(),y3,()),(())))) (((),list,(),(),(),(),true,0,(),0,()),(()))):=by
 have hn:=h.n1
 have hln:=hl.n
 have hks:=h.k1
 refine Ok.rounds (fun v=>v.1.2.1=list∧∃k:Nat,k≤c.Trucks.length∧v.1.2.2.2.2.2.2.2.2.2.1=(k:Int)∧v.1.2.2.2.2.2.2.2.1=dy (PM c starts l) k∧(v.1.2.2.2.2.2.2.1=true↔AW c starts l k)) (fun v=>((c.Trucks.length:Int)-v.1.2.2.2.2.2.2.2.2.2.1).toNat) ?_ ?_ ?_
 ·show((c.Trucks.length:Int)-0).toNat<18446744073709551616
  omega
 ·exact⟨rfl,0,Nat.zero_le _,rfl,rfl,fun _ a b _ hb=>by omega,fun _=>rfl⟩
 rintro ⟨⟨_,list2,_,_,_,_,f,late,_,x,_⟩,_⟩ kn ⟨k0,k,k1,k2,k3,k4⟩ hk
 simp only at k0 k2 k3 k4 hk⊢
 subst k0 k2 k3
 have hal:(xX c starts).length=c.Trucks.length:=by simp[xX]
 refine Ok.ite (fun hlt=> ?_) fun hge=> ?_
 ·have hlt:k<c.Trucks.length:=by have:=of_decide_eq_true hlt;omega
  have em1:bz ((k:Int)+1)=((k+1:Nat):Int):=by rw[aY (by omega) (by omega)];push_cast;rfl
  have hb2:=hl.b k (by omega)
  have t2:=zZ h.v h.s hl hlt false
  simp only[Int.toNat_natCast]
  rw[z5 h hl hlt]
  refine Ok.aW (ib (by omega) (by omega)) (Ok.aW (by simp;omega) (Ok.aW (ib (by omega) (by omega)) (Ok.aW (by simp;omega) (Ok.aW ?_ (Ok.beq (om (r:=⟨Dk (x4 c starts l k) false,c.Length⟩) t2) (Nh h hl hlt k4 fun f hf=>hk _ ⟨rfl,k+1,hlt,em1, ?_,hf⟩ ?_))))))
  ·simp only[Bool.and_eq_true,decide_eq_true_eq];rw[AQ h hlt];exact hb2
  ·rfl
  ·simp only[em1];omega
 ·have hge:k=c.Trucks.length:=by have:=of_decide_eq_false hge;omega
  subst hge
  have fin:∀nl:List Int,nl=gr c starts list2 l→(nl=[]∨pR c starts nl)→ox starts.length l=none→Ok P (bif (nl.isEmpty)then some ([],(⟨0,0⟩:Span),7)else(fR c starts nl).bind fun r13=>(vq r13).bind fun r14=>some (nl,r14,0)):=fun nl e1 e2 hx=>by
   have key:=hend hx
   rw[←e1]at key
   refine Ok.ite (fun q=>Ok.some ?_) fun q=> ?_
   ·have hb:nl=[]:=by simpa using q
    unfold ky at key;rw[if_pos hb]at key;exact key
   ·have hb:nl≠[]:=by intro e;rw[e]at q;cases q
    rcases e2 with e|e2
    ·exact absurd e hb
    refine Ok.beq (uv (by omega) e2) (Ok.beq (Kw h e2) (Ok.some ?_))
    unfold ky at key;rw[if_neg hb]at key;exact key
  have keep:∀(nl:List Int) (a b:Int),nl=gr c starts list2 l→(nl=[]∨pR c starts nl∧b=HI c starts nl)→Ok P (cS _ (fun(v_0:(Unit×(List Int)×Unit×Unit×Unit×(List Int)×Int×Unit)×(Unit)) kn=>eB starts kn3 a b c v_0.1.2.1 v_0.1.2.2.2.2.2.1 v_0.1.2.2.2.2.2.2.1 (fun y0 y1 y2=>kn (((),y0,(),(),(),y1,y2,()),(())))) (((),nl,(),(),(),l,(bz ((l.length:Int)-1)),()),(()))):=fun nl a b e1 e2=>
   NY (by omega) (by omega) hl.b (fun l' hx=>by subst e1;exact hgo l' a b hx e2) fun hx=>fin nl e1 (e2.imp id And.left) hx
  have cl:=AJ (l:=l) (by omega)
  have hne:(!l.isEmpty)=true:=by have:=HY h hl;simp[this]
  refine Ok.ite (fun hf=>Ok.ite (fun he=> ?_) fun he=>Ok.ite (fun ht=> ?_) fun ht=> ?_) fun hf=> ?_
  ·refine Ok.beq cl (Ok.aW hne ?_)
   rw[R7]
   refine keep l 0 _ ?_ (.inr ⟨hl,rfl⟩)
   unfold gr;rw[if_pos ⟨.inl (by simpa using he),k4.1 hf⟩]
  ·have hb' :list2≠[]:=by intro e;rw[e]at he;cases he
   rcases hb with e|⟨e1,e2⟩
   ·exact absurd e hb'
   refine Ok.beq cl (Ok.aW hne ?_)
   rw[Rs]
   refine keep l 0 _ ?_ (.inr ⟨hl,rfl⟩)
   unfold gr;rw[if_pos ⟨.inr (by have:=of_decide_eq_true ht;rw[e2]at this;exact this),k4.1 hf⟩]
  ·have hb' :list2≠[]:=by intro e;rw[e]at he;cases he
   rcases hb with e|⟨e1,e2⟩
   ·exact absurd e hb'
   refine keep list2 bl bh ?_ (.inr ⟨e1,e2⟩)
   unfold gr;rw[if_neg fun z=> ?_]
   rcases z.1 with e|e
   ·exact hb' e
   ·have:=of_decide_eq_false ht;rw[e2]at this;exact this e
  ·rw[RD]
   refine keep list2 bl bh ?_ hb
   unfold gr;rw[if_neg fun z=> ?_]
   rw[k4.2 z.2]at hf;cases hf
end
end Go.Proofs.Plain04
namespace Go.Proofs.Plain04
open Go Go.Ab
open Go.Proofs.YtafnhieaeejlcaaDoor (av)
set_option linter.all false
set_option maxRecDepth 100000
noncomputable section
end
end Go.Proofs.Plain04
