/- Walks by computing: what each function of the program that the laws reach gives for what it gets, as plain Lean, and that it is so; without a condition but those that stand in each theorem. -/
import Derived.Test.YtafnhieaeejlcaaDoorW1
import Derived.Test.YtafnhieaeejlcaaDoorW2
import Derived.Test.YtafnhieaeejlcaaDoorW3
import Derived.Test.YtafnhieaeejlcaaDoorW4
import Derived.Test.YtafnhieaeejlcaaDoorW5
import Derived.Test.YtafnhieaeejlcaaDoorW6
import Derived.Test.YtafnhieaeejlcaaDoorW7
import Derived.Test.YtafnhieaeejlcaaDoorW8
import Derived.Test.YtafnhieaeejlcaaDoorW9
import Derived.Test.YtafnhieaeejlcaaDoorW10
import Derived.Test.YtafnhieaeejlcaaDoorW11
import Derived.Test.YtafnhieaeejlcaaDoorW12
import Derived.Test.YtafnhieaeejlcaaDoorW13
import Derived.Test.YtafnhieaeejlcaaDoorW14
import Derived.Test.YtafnhieaeejlcaaDoorW15
import Derived.Test.YtafnhieaeejlcaaDoorW16
set_option linter.all false
namespace Go.Proofs.Plain04
open Go
open Go.Ab hiding atP
open Go.Proofs.YtafnhieaeejlcaaDoor (br bb eZ CR al bO fC fA IZ bI ck iD pH xE qC jK fx dA cj)
set_option linter.all false
theorem mg{α:Type}{f g:Nat→α}{n k:Nat}{x:α}(hx:g k=x)(h:∀i,i≠k→g i=f i):((List.range n).map f).set k x=(List.range n).map g:=by
 apply List.ext_getElem (by simp)
 intro i h1 h2
 rw[List.getElem_set]
 split
 ·rename_i e;subst e;simp[hx]
 ·rename_i e;simp[h i (fun q=>e q.symm)]
theorem mr{α:Type}{f g:Nat→α}{n:Nat}(h:∀i,i<n→f i=g i):(List.range n).map f=(List.range n).map g:=
 List.map_congr_left fun i hi=>h i (List.mem_range.1 hi)
theorem wX{R:Type}{z:Bool}{a b:Option R}(h:z=true→a=b):ri z a b=b:=by unfold ri;rw[if_pos h]
theorem v8{l:List Truck}(h:l.length≤1000):jx l=some l:=by
 rw[ny];unfold jJ
 rw[wX (fun hz=> ?_)]
 ·apply ok_eq;exact Ok.aP (fa (by simp;omega) (by omega)) (Ok.some (by simp))
 ·have:l=[]:=by simpa using hz
  subst this;rfl
theorem Af{l:List Int}(h:l.length≤1000):jZ l=some l:=by
 rw[qO];unfold mI
 rw[wX (fun hz=> ?_)]
 ·apply ok_eq;exact Ok.aP (fa (by simp;omega) (by omega)) (Ok.some (by simp))
 ·have:l=[]:=by simpa using hz
  subst this;rfl
def wK(t:Truck)(m:Int):Truck:=⟨t.Way,m,t.Pace,t.Holds⟩
def zn(c:Convoy)(starts l:List Int)(i:Nat):Truck:=wK (c.Trucks.getD i aK) (starts.getD (l.getD i 0).toNat 0)
def qN(c:Convoy)(starts l:List Int):Convoy:=⟨c.Length,c.Gap,c.Fails,(List.range c.Trucks.length).map (zn c starts l)⟩
structure oi (c:Convoy) (starts l:List Int):Prop where
 n:l.length=c.Trucks.length
 b:∀i,i<l.length→0≤l.getD i 0∧l.getD i 0<starts.length
theorem uj{c:Convoy}{starts l:List Int}(hn:c.Trucks.length≤1000)(h:oi c starts l):fQ c starts l=some (qN c starts l):=by
 rw[tU];apply ok_eq
 refine Ok.beq (v8 hn) ?_
 refine Ok.rounds (fun v=>∃k:Nat,k≤c.Trucks.length∧v.1.2.2.1=(k:Int)∧v.2.1.1=c.Length∧v.2.1.2.1=c.Gap∧v.2.1.2.2.1=c.Fails∧v.2.1.2.2.2.1=(List.range c.Trucks.length).map fun i=>if i<k then zn c starts l i else c.Trucks.getD i aK) (fun v=>((c.Trucks.length:Int)-v.1.2.2.1).toNat) ?_ ?_ ?_
 ·show((c.Trucks.length:Int)-0).toNat<18446744073709551616
  omega
 ·exact⟨0,Nat.zero_le _,rfl,rfl,rfl,rfl,ob aK⟩
 rintro ⟨⟨_,_,x,_⟩,⟨⟨q1,q2,q3,q4,_⟩,_⟩⟩ kn ⟨k,k1,k2,k3,k4,k5,k6⟩ hk
 simp only at k2 k3 k4 k5 k6⊢
 subst k2 k3 k4 k5 k6
 have hl:=h.n
 refine Ok.ite (fun hlt=> ?_) fun hge=>Ok.some ?_
 ·have hlt:k<c.Trucks.length:=by have:=of_decide_eq_true hlt;omega
  obtain⟨b0,b1⟩:=h.b k (by omega)
  have ek:bG ((k:Int)+1)=((k+1:Nat):Int):=by rw[bk (by omega) (by omega)];push_cast;rfl
  refine Ok.aP (ib (by omega) (by omega)) (Ok.aP ?_ (Ok.aP ?_ (Ok.aP ?_ (hk _ ⟨k+1,hlt,ek,rfl,rfl,rfl, ?_⟩ ?_))))
  ·simp only[Int.toNat_natCast,Bool.and_eq_true,decide_eq_true_eq];exact⟨b0,b1⟩
  ·rw[dR];exact ib (by omega) (by omega)
  ·simp only[Int.toNat_natCast,dR];simpa using hlt
  ·simp only[Int.toNat_natCast]
   rw[ez _ _ hlt,if_neg (by omega)]
   exact mg (by simp[zn,wK]) fun i hi=>by
    by_cases e:i<k
    ·rw[if_pos e,if_pos (by omega)]
    ·rw[if_neg e,if_neg (by omega)]
  ·simp only[ek];omega
 ·have hge:k=c.Trucks.length:=by have:=of_decide_eq_false hge;omega
  subst hge
  unfold qN
  exact congrArg _ (mr fun i hi=>by rw[if_pos hi])
theorem CQ{c:Convoy}{starts l:List Int}(hn:c.Trucks.length≤1000)(h:oi c starts l):lT (l,()) (c,starts,())=some ((l,()),qN c starts l):=by
 rw[sj];apply ok_eq
 have hl:=h.n
 refine Ok.aP (fa (by simp;omega) (by omega)) ?_
 refine Ok.rounds (fun v=>∃k:Nat,k≤c.Trucks.length∧v.1.2.2.2.2.1=(k:Int)∧v.1.2.2.2.1=(List.range c.Trucks.length).map fun i=>if i<k then zn c starts l i else c.Trucks.getD i aK) (fun v=>((c.Trucks.length:Int)-v.1.2.2.2.2.1).toNat) ?_ ?_ ?_
 ·show((c.Trucks.length:Int)-0).toNat<18446744073709551616
  omega
 ·exact⟨0,Nat.zero_le _,rfl,by simpa using ob aK⟩
 rintro ⟨⟨_,_,_,ts,x,_⟩,_⟩ kn ⟨k,k1,k2,k3⟩ hk
 simp only at k2 k3⊢
 subst k2 k3
 have ek:bG ((k:Int)+1)=((k+1:Nat):Int):=by rw[bk (by omega) (by omega)];push_cast;rfl
 refine Ok.ite (fun hlt=> ?_) fun hge=>Ok.some ?_
 ·have hlt:k<c.Trucks.length:=by have:=of_decide_eq_true hlt;simpa using this
  obtain⟨b0,b1⟩:=h.b k (by omega)
  refine Ok.aP (ib (by omega) (by omega)) (Ok.aP ?_ (Ok.aP ?_ (Ok.aP ?_ (Ok.aP ?_ (hk _ ⟨k+1,hlt,ek, ?_⟩ ?_)))))
  ·simp;omega
  ·simp only[Int.toNat_natCast,Bool.and_eq_true,decide_eq_true_eq];exact⟨b0,b1⟩
  ·rw[dR];exact ib (by omega) (by omega)
  ·simp only[Int.toNat_natCast,dR];simpa using hlt
  ·simp only[Int.toNat_natCast]
   rw[ez _ _ hlt,if_neg (by omega)]
   exact mg (by simp[zn,wK]) fun i hi=>by
    by_cases e:i<k
    ·rw[if_pos e,if_pos (by omega)]
    ·rw[if_neg e,if_neg (by omega)]
  ·simp only[ek];omega
 ·have hge:k=c.Trucks.length:=by have:=of_decide_eq_false hge;simp at this;omega
  subst hge
  unfold qN
  exact congrArg (fun x=>((l,()),(⟨c.Length,c.Gap,c.Fails,x⟩:Convoy))) (mr fun i hi=>by rw[if_pos hi])
end Go.Proofs.Plain04
namespace Go.Proofs.YtafnhieaeejlcaaDoor
open Go Go.Ab
set_option linter.all false
def pc(p:Nat→Bool):Nat→Int
 |0=>0
 |n+1=>pc p n+(if p n then 1 else 0)
theorem Mh{p:Nat→Bool}{n:Nat}(h:p n=true):pc p (n+1)=pc p n+1:=by simp only[pc,if_pos h]
theorem Mi{p:Nat→Bool}{n:Nat}(h:p n=false):pc p (n+1)=pc p n:=by simp only[pc,h];simp
theorem wh{p q:Nat→Bool}:∀{n},(∀i,i<n→p i=true→q i=true)→pc p n≤pc q n
 |0,_=>Int.le_refl _
 |n+1,h=>by
  have ih:=wh (p:=p) (q:=q) (n:=n) fun i hi=>h i (by omega)
  have:=h n (by omega)
  simp only[pc]
  cases hp:p n<;>cases hq:q n<;>simp_all<;>omega
theorem JZ{p q:Nat→Bool}:∀{n},(∀i,i<n→p i=true→q i=true)→(∃a,a<n∧q a=true∧p a=false)→pc p n+1≤pc q n
 |0,_,⟨a,h,_⟩=>by omega
 |n+1,h,⟨a,h1,h2,h3⟩=>by
  have hn:=h n (by omega)
  simp only[pc]
  by_cases e:a=n
  ·subst e
   have ih:=wh (p:=p) (q:=q) (n:=a) fun i hi=>h i (by omega)
   rw[h2,h3];simp;omega
  ·have ih:=JZ (p:=p) (q:=q) (n:=n) (fun i hi=>h i (by omega)) ⟨a,by omega,h2,h3⟩
   cases hp:p n<;>cases hq:q n<;>simp_all<;>omega
theorem Gd{p q:Nat→Bool}{j:Nat}(h:∀i,i≠j→q i=p i)(hp:p j=false)(hq:q j=true):∀n,pc q n=pc p n+(if j<n then 1 else 0)
 |0=>rfl
 |n+1=>by
  have ih:=Gd h hp hq n
  simp only[pc]
  rw[ih]
  by_cases e:n=j
  ·subst e;rw[hp,hq];simp
  ·rw[h n e]
   by_cases e2:j<n
   ·rw[if_pos e2,if_pos (show j<n+1 by omega)];omega
   ·rw[if_neg e2,if_neg (show¬j<n+1 by omega)];omega
theorem Bz{p:Nat→Bool}(h:∀i,p i=false):∀n,pc p n=0
 |0=>rfl
 |n+1=>by simp only[pc,Bz h n,h n];rfl
theorem FK(p:Nat→Bool):∀n,pc p n≤n
 |0=>Int.le_refl _
 |n+1=>by have:=FK p n;simp only[pc];split<;>omega
theorem ru{keep fail:Nat→Int}{m:Int}:∀{n:Nat} {c:Int},jq keep fail m n=some c↔(∀i,i<n→keep i≤m∨fail i≤m)∧c=pc (fun i=>decide (keep i>m)) n
 |0,c=>by simp[jq,pc,eq_comm]
 |n+1,c=>by
  simp only[jq]
  cases e:jq keep fail m n with
  |none=>
   refine⟨fun h=>by simp at h,fun⟨h1,h2⟩=> ?_⟩
   have:=(ru (c:=pc (fun i=>decide (keep i>m)) n)).2 ⟨fun i hi=>h1 i (by omega),rfl⟩
   rw[e]at this;cases this
  |some d=>
   obtain⟨h1,h2⟩:=ru.1 e
   simp only
   by_cases a:keep n≤m
   ·rw[if_pos a,Mi (decide_eq_false (show¬keep n>m by omega))]
    constructor
    ·intro h
     cases h
     exact⟨fun i hi=>by
      by_cases ei:i=n
      ·subst ei;exact .inl a
      ·exact h1 i (by omega),by omega⟩
    ·rintro ⟨_,h⟩;rw[h,h2]
   ·rw[if_neg a,Mh (decide_eq_true (show keep n>m by omega))]
    by_cases b:fail n>m
    ·rw[if_pos b]
     exact⟨fun h=>by simp at h,fun⟨h,_⟩=>by have:=h n (by omega);omega⟩
    ·rw[if_neg b]
     constructor
     ·intro h
      cases h
      exact⟨fun i hi=>by
       by_cases ei:i=n
       ·subst ei;right;omega
       ·exact h1 i (by omega),by omega⟩
     ·rintro ⟨_,h⟩;rw[h,h2]
theorem Cr{keep fail:Nat→Int}{n:Nat}{fails m:Int}:kN keep fail n fails m=true↔(∀i,i<n→keep i≤m∨fail i≤m)∧pc (fun i=>decide (keep i>m)) n≤fails:=by
 unfold kN
 cases e:jq keep fail m n with
 |none=>
  refine⟨fun h=>by simp at h,fun⟨h1,h2⟩=> ?_⟩
  have:=ru.2 ⟨h1,rfl⟩
  rw[e]at this;cases this
 |some d=>
  obtain⟨h1,h2⟩:=ru.1 e
  simp only[decide_eq_true_eq]
  rw[h2];exact⟨fun h=>⟨h1,h⟩,fun h=>h.2⟩
section
variable {s fast:Nat→Int} {n:Nat}
def sF(s:Nat→Int)(n m:Nat):Nat→Bool:=fun i=>decide (de s n m i= -1)
theorem Jr(hs:∀i,0≤s i):∀m,m≤n→pc (sF s n m) n=m∧(∀i,de s n m i= -1∨de s n m i=s i)∧(∀r a,r<n→a<n→sF s n m r=true→sF s n m a=false→s a≤s r)∧
 ∀M,(CO s fast n m≤M↔0≤M∧∀i,i<n→sF s n m i=true→fast i≤M)
 |0,_=>by
  have hz:∀i,sF s n 0 i=false:=fun i=>by
   have:=hs i
   unfold sF;rw[wM];simp;omega
  refine⟨Bz hz n,fun i=> .inr rfl,fun r a _ _ h=> ?_,fun M=>⟨fun h=>⟨h,fun i _ hi=> ?_⟩,fun h=>h.1⟩⟩
  ·rw[hz r]at h;cases h
  ·rw[hz i]at hi;cases hi
 |m+1,hm=>by
  obtain⟨h1,h2,h3,h4⟩:=Jr hs m (by omega)
  obtain⟨w1,w2,_⟩:=qy (de s n m) (n:=n) (by omega)
  generalize hw:iB (de s n m) n=w at*
  have hmax:∀i,i<n→de s n m i≤de s n m w:=fun i hi=>by rw[w2];exact E9 _ _ _ (by omega)
  --somebody is left
  have hleft:sF s n m w=false:=by
   cases hb:sF s n m w with
   |false=>rfl
   |true=>
    have hall:∀i,i<n→sF s n m i=true:=fun i hi=>by
     have a:=hmax i hi
     have b:de s n m w= -1:=by simpa[sF]using hb
     have d:=h2 i
     have e:=hs i
     simp only[sF,decide_eq_true_eq];omega
    have:pc (fun _=>true) n≤pc (sF s n m) n:=wh fun i hi _=>hall i hi
    have hfull:∀k,pc (fun _=>true) k=k:=fun k=>by
     induction k with
     |zero=>rfl
     |succ k ih=>simp only[pc,ih];simp
    rw[hfull,h1]at this;omega
  have hsw:de s n m w=s w:=(h2 w).resolve_left (by simpa[sF]using hleft)
  have hR:∀i,sF s n (m+1) i=if i=w then true else sF s n m i:=fun i=>by
   unfold sF
   rw[kg,hw]
   by_cases e:i=w
   ·rw[if_pos e,if_pos e];rfl
   ·rw[if_neg e,if_neg e]
  refine⟨?_,fun i=> ?_,fun r a hr ha hr' ha' => ?_,fun M=> ?_⟩
  ·rw[Gd (p:=sF s n m) (q:=sF s n (m+1)) (j:=w) (fun i hi=>by rw[hR,if_neg hi]) hleft (by rw[hR,if_pos rfl]) n,h1,if_pos w1];push_cast;rfl
  ·rw[kg,hw]
   by_cases e:i=w
   ·rw[if_pos e];exact .inl rfl
   ·rw[if_neg e];exact h2 i
  ·rw[hR]at hr' ha'
   by_cases ea:a=w
   ·rw[if_pos ea]at ha';cases ha'
   ·rw[if_neg ea]at ha'
    by_cases er:r=w
    ·subst er
     have:=hmax a ha
     have e2:de s n m a=s a:=(h2 a).resolve_left (by simpa[sF]using ha')
     omega
    ·rw[if_neg er]at hr';exact h3 r a hr ha hr' ha'
  ·rw[qP,hw]
   have:=h4 M
   constructor
   ·intro h
    obtain⟨a,b⟩:=this.1 (by omega)
    refine⟨a,fun i hi hi' => ?_⟩
    rw[hR]at hi'
    by_cases e:i=w
    ·subst e;omega
    ·rw[if_neg e]at hi';exact b i hi hi'
   ·rintro ⟨a,b⟩
    have h5:=this.2 ⟨a,fun i hi hi' =>b i hi (by rw[hR];split<;>first|rfl|exact hi')⟩
    have h6:=b w w1 (by rw[hR,if_pos rfl])
    omega
theorem Fq(lo:Int)(f:Nat→Int)(M:Int):∀k,tu lo f k≤M↔lo≤M∧∀i,i<k→f i≤M
 |0=>by rw[zb];exact⟨fun h=>⟨h,fun i hi=>by omega⟩,fun h=>h.1⟩
 |k+1=>by
  have ih:=Fq lo f M k
  rw[pf]
  constructor
  ·intro h
   obtain⟨a,b⟩:=ih.1 (by omega)
   refine⟨a,fun i hi=> ?_⟩
   by_cases e:i=k
   ·subst e;omega
   ·exact b i (by omega)
  ·rintro ⟨a,b⟩
   have:=ih.2 ⟨a,fun i hi=>b i (by omega)⟩
   have:=b k (by omega)
   omega
theorem Ei{fails:Int}(hs:∀i,0≤s i)(hf:0≤fails)(hle:∀i,i<n→fast i≤s i)(M:Int):
 tu (CO s fast n (min fails.toNat n)) (de s n (min fails.toNat n)) n≤M↔0≤M∧kN s fast n fails M=true:=by
 generalize hm:min fails.toNat n=m
 obtain⟨h1,h2,h3,h4⟩:=Jr (fast:=fast) (n:=n) hs m (by omega)
 rw[Fq,h4,Cr]
 have hsoon:∀i,sF s n m i=false→de s n m i=s i:=fun i hi=>(h2 i).resolve_left (by simpa[sF]using hi)
 constructor
 ·rintro ⟨⟨a,b⟩,d⟩
  have key:∀i,i<n→s i>M→sF s n m i=true:=fun i hi hgt=>by
   cases hb:sF s n m i with
   |true=>rfl
   |false=>
    have:=d i hi
    rw[hsoon i hb]at this;omega
  refine⟨a,fun i hi=> ?_, ?_⟩
  ·by_cases hgt:s i>M
   ·exact .inr (b i hi (key i hi hgt))
   ·left;omega
  ·have:pc (fun i=>decide (s i>M)) n≤pc (sF s n m) n:=wh fun i hi hp=>key i hi (by simpa using hp)
   omega
 ·rintro ⟨a,b,d⟩
  have key:∀i,i<n→s i>M→sF s n m i=true:=fun i hi hgt=>by
   cases hb:sF s n m i with
   |true=>rfl
   |false=>
    exfalso
    have:pc (sF s n m) n+1≤pc (fun i=>decide (s i>M)) n:=JZ (fun r hr hr' =>by
     have:=h3 r i hr hi hr' hb
     simp only[decide_eq_true_eq];omega) ⟨i,hi,by simpa using hgt,hb⟩
    have h5:=FK (fun i=>decide (s i>M)) n
    omega
  refine⟨⟨a,fun i hi hi' => ?_⟩,fun i hi=> ?_⟩
  ·by_cases hgt:s i>M
   ·exact(b i hi).resolve_left (by omega)
   ·have:=hle i hi;omega
  ·rcases h2 i with e|e
   ·omega
   ·rw[e]
    by_cases hgt:s i>M
    ·have:=key i hi hgt
     simp only[sF,decide_eq_true_eq]at this
     have:=hs i
     omega
    ·omega
end
theorem Cz{t:Truck}{len p:Int}(h:eZ len t)(hp:t.lo≤p):cj (bb t true) len p≤cj t len p:=by
 obtain⟨e1,e2,_⟩:=eV h hp
 obtain⟨f1,f2,_⟩:=eV (h.free true) (pace:=p) hp
 refine Classical.byContradiction fun hn=> ?_
 have h1:=ql h (by have:=h.p1;omega) (cj t len p) (p:=p)
 have hb:=(dK (h.free true).l1 (h.free true).ho (pace:=p) (by have:=h.p1;omega) (cj t len p)).2
 exact f2 (cj t len p) (by omega) (by omega)
def kF(c:Convoy)(i:Nat):Int:=if i<c.trucks.length then cQ c i else 0
theorem vc{p q:Nat→Bool}:∀f k,(∀i,k≤i→i<k+f→p i=q i)→kh p f k=kh q f k
 |0,_,_=>rfl
 |f+1,k,h=>by
  simp only[kh]
  rw[h k (Nat.le_refl _) (by omega),vc f (k+1) fun i a b=>h i (by omega) (by omega)]
theorem qB{s s' :Nat→Int}{n:Nat}(h:∀i,i<n→s i=s' i):∀m,m≤n→(∀i,i<n→de s n m i=de s' n m i)∧(0<n→∀k,k<m→iB (de s n k) n=iB (de s' n k) n)
 |0,_=>⟨h,fun _ k hk=>by omega⟩
 |m+1,hm=>by
  obtain⟨h1,h2⟩:=qB h m (by omega)
  have hw:iB (de s n m) n=iB (de s' n m) n:=by
   have hN:∀k,k<n→l9 (de s n m) k=l9 (de s' n m) k:=fun k hk=>by
    induction k with
    |zero=>exact h1 0 hk
    |succ k ih=>simp only[l9];rw[ih (by omega),h1 (k+1) hk]
   unfold iB
   rw[vc (q:=fun i=>decide (l9 (de s' n m) (n-1)=de s' n m i)) n 0 fun i _ hi=>by
    have e1:=hN (n-1) (by omega)
    have e2:=h1 i (by omega)
    simp only[e1,e2]]
  refine⟨fun i hi=> ?_,fun hn k hk=> ?_⟩
  ·rw[kg,kg,hw,h1 i hi]
  ·by_cases e:k=m
   ·subst e;exact hw
   ·exact h2 hn k (by omega)
theorem Cb{s s' f f' :Nat→Int}{n:Nat}(h:∀i,i<n→s i=s' i)(hf:∀i,i<n→f i=f' i):∀m,m≤n→CO s f n m=CO s' f' n m
 |0,_=>rfl
 |m+1,hm=>by
  rw[qP,qP,Cb h hf m (by omega),(qB h (m+1) hm).2 (by omega) m (by omega)]
  rw[hf _ (qy (de s' n m) (n:=n) (by omega)).1]
theorem vu{a b:Int}{f g:Nat→Int}(hab:a=b):∀k,(∀i,i<k→f i=g i)→tu a f k=tu b g k
 |0,_=>hab
 |k+1,h=>by rw[pf,pf,vu hab k fun i hi=>h i (by omega),h k (by omega)]
theorem D1{s s' f f' :Nat→Int}{n:Nat}{fails m:Int}(h:∀i,i<n→s i=s' i)(hf:∀i,i<n→f i=f' i):kN s f n fails m=kN s' f' n fails m:=by
 have:∀k,k≤n→jq s f m k=jq s' f' m k:=fun k=>by
  induction k with
  |zero=>intro _;rfl
  |succ k ih=>intro hk;simp only[jq];rw[ih (by omega),h k (by omega),hf k (by omega)]
 unfold kN
 rw[this n (Nat.le_refl _)]
theorem ur{c:Convoy}(hc:CR c){i:Nat}(hi:i<c.trucks.length):0≤cQ c i:=by
 rw[se hc hi];have:=(hc.r i hi).s1;omega
theorem yM{c:Convoy}(hc:CR c){i:Nat}(hi:i<c.trucks.length):eK c i≤cQ c i:=by
 rw[se hc hi,v9 hc hi]
 have:=Cz (hc.r i hi) (hc.r i hi).p2
 omega
theorem wo{c:Convoy}(hc:CR c)(M:Int):lC c≤M↔0≤M∧kN (cQ c) (eK c) c.trucks.length c.fails M=true:=by
 have hk:∀i,i<c.trucks.length→cQ c i=kF c i:=fun i hi=>by unfold kF;rw[if_pos hi]
 have hk0:∀i,0≤kF c i:=fun i=>by
  unfold kF;split
  ·exact ur hc (by assumption)
  ·exact Int.le_refl _
 have:=Ei (s:=kF c) (fast:=eK c) (n:=c.trucks.length) (fails:=c.fails) hk0 hc.ok.f1 (fun i hi=>by rw[←hk i hi];exact yM hc hi) M
 rw[←D1 hk (fun i _=>rfl)]at this
 rw[←this]
 unfold lC eQ
 rw[Cb hk (fun i _=>rfl) _ (by omega),vu rfl _ fun i hi=>(qB hk _ (by omega)).1 i hi]
theorem Ck{c:Convoy}(hc:CR c):qC c=jK c:=by
 unfold qC jK
 have h1:=xf c (K:=21000) (BT hc.ok) 21000 0 (Nat.zero_le _) (Nat.le_refl _)
 obtain⟨a,b,d⟩:=h1
 have h2:=(wo hc (jt c 21000 0)).2 ⟨by omega,b⟩
 have h3:=(wo hc (lC c)).1 (Int.le_refl _)
 have h4:¬lC c<jt c 21000 0:=fun hlt=>by
  have:=a (lC c).toNat (Nat.zero_le _) (by omega)
  rw[show(((lC c).toNat:Nat):Int)=lC c by omega,h3.2]at this
  cases this
 have:lC c=jt c 21000 0:=by omega
 rw[this]
end Go.Proofs.YtafnhieaeejlcaaDoor
namespace Go.Proofs.Plain04
open Go Go.Ab
open Go.Proofs.YtafnhieaeejlcaaDoor (dz ix eB bE cj br bb eZ CR al fC D2 Ke oW bI dK wY eV cQ eK fx se v9 sq dA qC lC wo kN Cr pc wh Mh Mi Cz xl yM ur lS we)
set_option linter.all false
set_option maxRecDepth 100000
theorem M0(c:Convoy)(i:Nat):fx (oC c) i=(c.Trucks.getD i aK).Start+(cj (oT (De (c.Trucks.getD i aK) false)) c.Length (c.Trucks.getD i aK).Pace.Lo:Int):=by
 rw[sq,pq];rfl
end Go.Proofs.Plain04
namespace Go.Proofs.Plain04
open Go
open Go.Ab hiding atP
open Go.Proofs.YtafnhieaeejlcaaDoor (br bb eZ CR al bO fC fA IZ bI ck iD pH xE qC jK Ck fx dA cj)
set_option linter.all false
theorem KC{c:RS}{t:Truck}{m:Int}(h:bO c (oT t)=0)(m0:0≤m)(m1:m≤10000):bO c (oT (wK t m))=0:=by
 unfold bO at h⊢
 have e1:(oT (wK t m)).way=(oT t).way:=rfl
 have e2:(oT (wK t m)).start=m:=rfl
 have e3:(oT (wK t m)).lo=(oT t).lo:=rfl
 have e4:(oT (wK t m)).hi=(oT t).hi:=rfl
 have e5:(oT (wK t m)).holds=(oT t).holds:=rfl
 rw[e1,e2,e3,e4,e5]
 split at h;·cases h
 split at h;·cases h
 rename_i h1 h2
 rw[if_neg h1,if_neg (fun hh=>h2 (by omega))]
 exact h
def xt(starts:List Int):Prop:=∀i,i<starts.length→0≤starts.getD i 0∧starts.getD i 0≤10000
section
variable {c:Convoy} {starts l:List Int}
theorem Aj(c:Convoy)(starts l:List Int):(qN c starts l).Trucks.length=c.Trucks.length:=dR _ _
theorem mZ{i:Nat}(hi:i<c.Trucks.length):(qN c starts l).Trucks.getD i aK=zn c starts l i:=ez _ _ hi
theorem Ls(h:al (oC c)=0)(hs:xt starts)(hl:oi c starts l){i:Nat}(hi:i<c.Trucks.length):bO (oC c) (oT (zn c starts l i))=0:=by
 have hb:=hl.b i (by have:=hl.n;omega)
 have hb2:=hs (l.getD i 0).toNat (by omega)
 exact KC (fA (C0 h) _ (List.mem_map.2 ⟨_,nN hi,rfl⟩)) hb2.1 hb2.2
theorem rT(h:al (oC c)=0)(hs:xt starts)(hl:oi c starts l):al (oC (qN c starts l))=0:=by
 have hk:=(fC h).ok
 have hf:=SS h
 refine wP hk.l1 hk.l2 hk.g1 hk.g2 hk.f1 hk.f2 (by simp[oC,qN];omega) fun t ht=> ?_
 obtain⟨u,hu,rfl⟩:=List.mem_map.1 ht
 obtain⟨i,hi,rfl⟩:=List.mem_map.1 hu
 exact Ls h hs hl (List.mem_range.1 hi)
theorem A2(h:al (oC c)=0)(hs:xt starts)(hl:oi c starts l){i:Nat}(hi:i<c.Trucks.length)(b:Bool):eZ c.Length (oT (De (zn c starts l i) b)):=by
 have:=OB (rT h hs hl) (k:=i) (by rw[Aj];exact hi) b
 rw[mZ hi]at this
 exact this
def AZ(c:Convoy)(starts l:List Int)(n:Nat):Prop:=∀i k,i<k→k<n→As c.Gap c.Fails (oT (zn c starts l i)) (oT (zn c starts l k)) c.Length
theorem K2(h:al (oC c)=0)(hs:xt starts)(hl:oi c starts l):Acc (qN c starts l)↔AZ c starts l c.Trucks.length:=by
 have hv:=rT h hs hl
 unfold Acc
 rw[iD (fC hv)]
 have hlen:(oC (qN c starts l)).trucks.length=c.Trucks.length:=by simp[oC,qN]
 rw[hlen]
 constructor
 ·rintro ⟨_,h1⟩ i k hik hk m ⟨b,hb,hn⟩
  refine h1 i k hik hk b hb m ?_
  unfold pH
  rw[pq,pq,mZ (by omega),mZ hk]
  exact hn
 ·refine fun h1=>⟨hv,fun i k hik hk b hb m hn=> ?_⟩
  unfold pH at hn
  rw[pq,pq,mZ (by omega),mZ hk]at hn
  exact h1 i k hik hk m ⟨b,hb,hn⟩
def Pb(c:Convoy)(starts l:List Int)(i:Nat):Int:=(zn c starts l i).Start+(jo (zn c starts l i) c.Length:Int)
def Lm(c:Convoy)(starts l:List Int):Int:=dA (Pb c starts l) c.Trucks.length
theorem uc{f g:Nat→Int}:∀{n},(∀i,i<n→f i=g i)→dA f n=dA g n
 |0,_=>rfl
 |n+1,h=>by simp only[dA];rw[uc fun i hi=>h i (by omega),h n (by omega)]
theorem AW(c:Convoy)(starts l:List Int):(nS (jK (oC (qN c starts l)))).Hi=Lm c starts l:=by
 show dA (fx (oC (qN c starts l))) (oC (qN c starts l)).trucks.length=_
 have hlen:(oC (qN c starts l)).trucks.length=c.Trucks.length:=by simp[oC,qN]
 rw[hlen]
 refine uc fun i hi=> ?_
 rw[M0,mZ hi]
 rfl
end
def bump(l:List Int)(i:Nat):List Int:=(List.range l.length).map fun j=>if j<i then l.getD j 0 else if j=i then l.getD i 0+1 else 0
def nx(K:Int)(l:List Int):Nat→Option (List Int)
 |0=>none
 |i+1=>if l.getD i 0+1<K then some (bump l i)else nx K l i
def jG(K:Int)(l:List Int):Option (List Int):=nx K l l.length
theorem z0{K:Int}{l l' :List Int}:∀{n},nx K l n=some l'→∃i,i<n∧l.getD i 0+1<K∧l' =bump l i∧∀j,i<j→j<n→¬l.getD j 0+1<K
 |n+1,h=>by
  simp only[nx]at h
  split at h
  ·rename_i q
   simp only[Option.some.injEq]at h
   exact⟨n,by omega,q,h.symm,fun j h1 h2=>by omega⟩
  ·rename_i q
   obtain⟨i,h1,h2,h3,h4⟩:=z0 h
   refine⟨i,by omega,h2,h3,fun j g1 g2=> ?_⟩
   by_cases e:j=n
   ·rw[e];exact q
   ·exact h4 j g1 (by omega)
theorem ou(l:List Int)(i:Nat):(bump l i).length=l.length:=dR _ _
theorem ry{l:List Int}{i j:Nat}(hj:j<l.length):(bump l i).getD j 0=if j<i then l.getD j 0 else if j=i then l.getD i 0+1 else 0:=ez _ _ hj
theorem vM{c:Convoy}{starts l l' :List Int}(h:oi c starts l)(hn:jG starts.length l=some l'):oi c starts l' :=by
 obtain⟨i,h1,h2,rfl,_⟩:=z0 hn
 refine⟨(ou _ _).trans h.n,fun j hj=> ?_⟩
 rw[ou]at hj
 rw[ry hj]
 have a:=h.b j hj
 have b:=h.b i h1
 split
 ·exact a
 ·split<;>omega
def V(K:Nat)(f:Nat→Int):Nat→Nat
 |0=>0
 |n+1=>V K f n*K+(f n).toNat
theorem Qt{K:Nat}{f:Nat→Int}:∀{n},(∀i,i<n→0≤f i∧f i<K)→V K f n<K^n
 |0,_=>by simp[V]
 |n+1,h=>by
  have h1:=Qt (K:=K) (f:=f) (n:=n) fun i hi=>h i (by omega)
  have h2:=h n (by omega)
  have h3:(f n).toNat<K:=by omega
  simp only[V,Nat.pow_succ]
  calc V K f n*K+(f n).toNat<V K f n*K+K:=by omega
   _=(V K f n+1)*K:=by rw[Nat.succ_mul]
   _≤K^n*K:=Nat.mul_le_mul_right _ h1
theorem IP{K:Nat}{f g:Nat→Int}:∀{n},(∀i,i<n→g i=f i)→V K g n=V K f n
 |0,_=>rfl
 |n+1,h=>by simp only[V];rw[IP fun i hi=>h i (by omega),h n (by omega)]
theorem JB{K:Nat}{f g:Nat→Int}{i:Nat}(hf:∀j,0≤f j)(h1:∀j,j<i→g j=f j)(h2:g i=f i+1):∀m,(∀j,i<j→j<i+1+m→g j=0∧f j+1=K)→V K g (i+1+m)=V K f (i+1+m)+1
 |0,_=>by
  have:=hf i
  simp only[Nat.add_zero,V];rw[IP h1,h2];omega
 |m+1,h=>by
  have ih:=JB hf h1 h2 m fun j a b=>h j a (by omega)
  obtain⟨e1,e2⟩:=h (i+1+m) (by omega) (by omega)
  have:=hf (i+1+m)
  show V K g (i+1+m)*K+(g (i+1+m)).toNat=V K f (i+1+m)*K+(f (i+1+m)).toNat+1
  rw[ih,e1,Nat.succ_mul]
  omega
def vL(K:Nat)(l:List Int):Nat:=V K (fun j=>l.getD j 0) l.length
theorem Fu{c:Convoy}{starts l l' :List Int}(h:oi c starts l)(hn:jG starts.length l=some l'):vL starts.length l' =vL starts.length l+1:=by
 obtain⟨i,h1,h2,rfl,h4⟩:=z0 hn
 unfold vL
 rw[ou]
 have e:l.length=i+1+(l.length-(i+1)):=by omega
 have key:=JB (K:=starts.length) (f:=fun j=>l.getD j 0) (g:=fun j=>(bump l i).getD j 0) (i:=i) (fun j=> ?_) (fun j hj=> ?_) ?_ (l.length-(i+1)) (fun j a b=> ?_)
 ·rw[←e]at key;exact key
 ·by_cases hj:j<l.length
  ·exact(h.b j hj).1
  ·show 0≤l.getD j 0
   rw[List.getD_eq_getElem?_getD,List.getElem?_eq_none (by omega)];exact Int.le_refl 0
 ·show(bump l i).getD j 0=l.getD j 0
  rw[ry (by omega),if_pos hj]
 ·show(bump l i).getD i 0=l.getD i 0+1
  rw[ry h1,if_neg (by omega),if_pos rfl]
 ·show(bump l i).getD j 0=0∧l.getD j 0+1=starts.length
  have hj:j<l.length:=by omega
  rw[ry hj,if_neg (by omega),if_neg (by omega)]
  have:=h4 j a hj
  have:=h.b j hj
  exact⟨rfl,by omega⟩
theorem Mc{c:Convoy}{starts l:List Int}(h:oi c starts l)(hn:c.Trucks.length≤5)(hs:starts.length≤6):vL starts.length l<10000:=by
 have h1:vL starts.length l<starts.length^l.length:=Qt fun i hi=>h.b i hi
 have h2:starts.length^l.length≤6^l.length:=Nat.pow_le_pow_left hs _
 have h3:6^l.length≤6^5:=Nat.pow_le_pow_right (by omega) (by rw[h.n];exact hn)
 have h4:(6:Nat)^5=7776:=rfl
 omega
end Go.Proofs.Plain04
namespace Go.Proofs.Plain04
open Go
open Go.Ab hiding atP
open Go.Proofs.YtafnhieaeejlcaaDoor (eZ CR al bO fC bI ck qC jK Ck fx dA cj)
set_option linter.all false
theorem pP{l:List Int}{i:Nat}{x:Int}(h:i<l.length):(l.set i x).getD i 0=x:=by rw[kj,if_pos ⟨rfl,h⟩]
theorem Iu{l:List Int}{K:Int}(hn:l.length≤1000)(hK:K≤1000)(hb:∀i,i<l.length→0≤l.getD i 0∧l.getD i 0<K):
 Ok (fun r=>(∀l',jG K l=some l'→r=((l',()),true))∧(jG K l=none→r.2=false)) (count (l,()) (K,())):=by
 rw[count_eq]
 refine Ok.rounds (fun v=>∃k:Nat,k≤l.length∧v.1.2.1=(k:Int)-1∧v.1.1=(List.range l.length).map (fun j=>if j<k then l.getD j 0 else 0)∧nx K l k=jG K l) (fun v=>(v.1.2.1+1).toNat) ?_ ?_ ?_
 ·show(bG ((l.length:Int)-1)+1).toNat<18446744073709551616
  rw[bk (by omega) (by omega)];omega
 ·refine⟨l.length,Nat.le_refl _,show bG ((l.length:Int)-1)=(l.length:Int)-1 from bk (by omega) (by omega), ?_,rfl⟩
  exact(ob 0).trans (mr fun i hi=>by rw[if_pos hi])
 rintro ⟨⟨l2,i,_⟩,_⟩ kn ⟨k,k1,k2,k3,k4⟩ hk
 simp only at k2 k3⊢
 subst k2 k3
 refine Ok.ite (fun hge=> ?_) fun hlt=>Ok.some ?_
 ·have hge:(k:Int)-1≥0:=of_decide_eq_true hge
  obtain⟨m,rfl⟩:∃m,k=m+1:=⟨k-1,by omega⟩
  have em:((m+1:Nat):Int)-1=(m:Int):=by push_cast;omega
  rw[em]
  have hm:m<l.length:=by omega
  obtain⟨b0,b1⟩:=hb m hm
  simp only[Int.toNat_natCast]
  have e1:((List.range l.length).map fun j=>if j<m+1 then l.getD j 0 else 0).getD m 0=l.getD m 0:=by rw[ez _ _ hm,if_pos (by omega)]
  have e2:bG (l.getD m 0+1)=l.getD m 0+1:=bk (by omega) (by omega)
  have e3:(((List.range l.length).map fun j=>if j<m+1 then l.getD j 0 else 0).set m (l.getD m 0+1)).getD m 0=l.getD m 0+1:=pP (by rw[dR];exact hm)
  have e4:((List.range l.length).map fun j=>if j<m+1 then l.getD j 0 else 0).set m (l.getD m 0+1)=bump l m:=by
   unfold bump
   refine mg (by simp) fun j hj=> ?_
   by_cases q:j<m
   ·rw[if_pos q,if_pos (by omega)]
   ·rw[if_neg q,if_neg hj,if_neg (by omega)]
  rw[e4]at e3
  simp only[e1,e2,e4,e3]
  have c1:(decide (0≤(m:Int))&&decide ((m:Int)<(((List.range l.length).map fun j=>if j<m+1 then l.getD j 0 else 0).length:Int)))=true:=by rw[dR];exact ib (by omega) (by omega)
  have c2:decide (m<((List.range l.length).map fun j=>if j<m+1 then l.getD j 0 else 0).length)=true:=by rw[dR];simpa using hm
  have c3:(decide (0≤(m:Int))&&decide ((m:Int)<((bump l m).length:Int)))=true:=by rw[ou];exact ib (by omega) (by omega)
  have c4:decide (m<(bump l m).length)=true:=by rw[ou];simpa using hm
  refine Ok.aP c1 (Ok.aP c2 (Ok.aP c1 (Ok.aP c2 (Ok.aP c3 (Ok.aP c4 (Ok.ite (fun h=>Ok.some ?_) fun h=>Ok.aP c3 (Ok.aP c4 (hk _ ⟨m,by omega, ?_, ?_, ?_⟩ ?_))))))))
  ·have h:=of_decide_eq_true h
   rw[←k4]
   simp only[nx,if_pos h]
   exact⟨fun l' e=>by cases e;rfl,fun e=>by cases e⟩
  ·exact bk (by omega) (by omega)
  ·unfold bump
   refine mg (by simp) fun j hj=> ?_
   by_cases q:j<m
   ·rw[if_pos q,if_pos q]
   ·rw[if_neg q,if_neg q,if_neg hj]
  ·have h:=of_decide_eq_false h
   rw[←k4]
   simp only[nx,if_neg h]
  ·simp only[bk (n:=(m:Int)-1) (by omega) (by omega)];omega
 ·have hlt:=of_decide_eq_false hlt
  have:k=0:=by omega
  subst this
  refine⟨fun l' e=> ?_,fun _=>rfl⟩
  rw[←k4]at e;cases e
open Classical in
noncomputable def gm(c:Convoy)(starts b l:List Int):List Int:=if(b=[]∨Lm c starts l<Lm c starts b)∧AZ c starts l c.Trucks.length then l else b
inductive qA (c:Convoy) (starts:List Int):List Int→List Int→List Int→Prop
 |stop {b l:List Int}:jG starts.length l=none→qA c starts b l (gm c starts b l)
 |go {b l l' r:List Int}:jG starts.length l=some l'→qA c starts (gm c starts b l) l' r→qA c starts b l r
theorem Ib{c:Convoy}{starts b l r r' :List Int}(h:qA c starts b l r)(h' :qA c starts b l r'):r=r' :=by
 induction h with
 |stop hn=>cases h' with
  |stop _=>rfl
  |go hn' _=>rw[hn]at hn';cases hn'
 |go hn _ ih=>cases h' with
  |stop hn' =>rw[hn]at hn';cases hn'
  |go hn' h2=>rw[hn]at hn';cases hn';exact ih h2
noncomputable def xI(c:Convoy)(starts b:List Int):List Int×Span×Int:=if b=[]then([],⟨0,0⟩,7)else(b,nS (jK (oC (qN c starts b))),0)
open Classical in
noncomputable def s6(c:Convoy)(starts:List Int):Int:=
 if al (oC c)≠0 then al (oC c)else if c.Trucks.length=0∨starts.length=0 then 6 else if c.Trucks.length>5∨starts.length>6 then 8 else if¬xt starts then 2 else 0
def j9(n:Nat):List Int:=List.replicate (n:Int).toNat (0:Int)
def tr(c:Convoy)(starts:List Int)(r:List Int×Span×Int):Prop:=if s6 c starts≠0 then r=([],⟨0,0⟩,s6 c starts)else∃b,qA c starts [] (j9 c.Trucks.length) b∧r=xI c starts b
theorem IC{c:Convoy}{starts:List Int}{r s:List Int×Span×Int}(h1:tr c starts r)(h2:tr c starts s):r=s:=by
 unfold tr at h1 h2
 split at h1
 ·rename_i h;rw[if_pos h]at h2;rw[h1,h2]
 ·rename_i h;rw[if_neg h]at h2
  obtain⟨b,q1,rfl⟩:=h1
  obtain⟨b',q2,rfl⟩:=h2
  rw[Ib q1 q2]
theorem kc{c:Convoy}{starts:List Int}{e:Int}(h:s6 c starts=e)(h0:e≠0):tr c starts ([],⟨0,0⟩,e):=by
 unfold tr;rw[if_pos (by rw[h];exact h0),h]
structure xS (c:Convoy) (starts:List Int):Prop where
 v:al (oC c)=0
 n0:1≤c.Trucks.length
 n1:c.Trucks.length≤5
 k0:1≤starts.length
 k1:starts.length≤6
 s:xt starts
theorem zE{c:Convoy}{starts:List Int}(h:xS c starts):s6 c starts=0:=by
 obtain⟨v,n0,n1,k0,k1,s⟩:=h
 unfold s6
 rw[if_neg (fun q=>q v),if_neg (by omega),if_neg (by omega),if_neg (fun q=>q s)]
theorem s7{c:Convoy}{starts:List Int}(h:1≤starts.length):oi c starts (j9 c.Trucks.length):=by
 refine⟨by simp[j9],fun i hi=> ?_⟩
 have:(j9 c.Trucks.length).getD i 0=0:=by
  unfold j9
  rw[List.getD_eq_getElem?_getD,List.getElem?_replicate]
  split<;>rfl
 omega
theorem IA{c:Convoy}{starts:List Int}{P:List Int×Span×Int→Prop}{z:Option (List Int×Span×Int)}(hP:∀r,tr c starts r→P r)
 (hz:al (oC c)=0→1≤c.Trucks.length→c.Trucks.length≤5→1≤starts.length→starts.length≤6→Ok P z):
 Ok P (bif (al (oC c) !=0)then some (([]:List Int),(⟨0,0⟩:Span),al (oC c))
  else bif ((c.Trucks.length:Int)==0)then some (([]:List Int),(⟨0,0⟩:Span),6)
  else bif ((starts.length:Int)==0)then some (([]:List Int),(⟨0,0⟩:Span),6)
  else bif (decide ((c.Trucks.length:Int)>5))then some (([]:List Int),(⟨0,0⟩:Span),8)
  else bif (decide ((starts.length:Int)>6))then some (([]:List Int),(⟨0,0⟩:Span),8)else z):=by
 refine Ok.ite (fun h=>Ok.some ?_) fun h0=>Ok.ite (fun h=>Ok.some ?_) fun h1=>Ok.ite (fun h=>Ok.some ?_) fun h2=>Ok.ite (fun h=>Ok.some ?_) fun h3=>Ok.ite (fun h=>Ok.some ?_) fun h4=> ?_
 ·have h:al (oC c)≠0:=by simpa using h
  exact hP _ (kc (by unfold s6;rw[if_pos h]) h)
 ·have h0:al (oC c)=0:=by simpa using h0
  have h:c.Trucks.length=0:=by simp at h;rw[h];rfl
  exact hP _ (kc (by unfold s6;rw[if_neg (fun q=>q h0),if_pos (.inl h)]) (by decide))
 ·have h0:al (oC c)=0:=by simpa using h0
  have h:starts.length=0:=by simp at h;rw[h];rfl
  exact hP _ (kc (by unfold s6;rw[if_neg (fun q=>q h0),if_pos (.inr h)]) (by decide))
 ·have h0:al (oC c)=0:=by simpa using h0
  have h1:¬c.Trucks.length=0:=by intro q;rw[q]at h1;cases h1
  have h2:¬starts.length=0:=by intro q;rw[q]at h2;cases h2
  have h:=of_decide_eq_true h
  exact hP _ (kc (by unfold s6;rw[if_neg (fun q=>q h0),if_neg (by omega),if_pos (.inl (by omega))]) (by decide))
 ·have h0:al (oC c)=0:=by simpa using h0
  have h1:¬c.Trucks.length=0:=by intro q;rw[q]at h1;cases h1
  have h2:¬starts.length=0:=by intro q;rw[q]at h2;cases h2
  have h:=of_decide_eq_true h
  exact hP _ (kc (by unfold s6;rw[if_neg (fun q=>q h0),if_neg (by omega),if_pos (.inr (by omega))]) (by decide))
 ·have h0:al (oC c)=0:=by simpa using h0
  have h1:¬c.Trucks.length=0:=by intro q;rw[q]at h1;cases h1
  have h2:¬starts.length=0:=by intro q;rw[q]at h2;cases h2
  have h3:=of_decide_eq_false h3
  have h4:=of_decide_eq_false h4
  exact hz h0 (by omega) (by omega) (by omega) (by omega)
theorem CB{c:Convoy}{starts:List Int}(h0:al (oC c)=0)(h1:1≤c.Trucks.length)(h2:c.Trucks.length≤5)(h3:1≤starts.length)(h4:starts.length≤6)(h:¬xt starts):s6 c starts=2:=by
 unfold s6
 rw[if_neg (fun q=>q h0),if_neg (by omega),if_neg (by omega),if_pos h]
theorem ue{c:Convoy}{starts l:List Int}(h:xS c starts)(hl:oi c starts l):Ok (fun b=>b=true↔AZ c starts l c.Trucks.length) (accepted (qN c starts l)):=by
 rw[tJ]
 refine Ok.beq (oZ _) (Ok.some ?_)
 rw[←K2 h.v h.s hl]
 exact⟨fun q=>CV (by simpa using q),fun q=>by rw[Hp q];rfl⟩
section
variable {c:Convoy} {starts:List Int} (h:xS c starts)
include h
theorem Kn{l:List Int}(hl:oi c starts l):yW (qN c starts l)=some (nS (jK (oC (qN c starts l)))):=by
 rw[Ci,rT h.v h.s hl];rfl
theorem EG{l:List Int}(hl:oi c starts l):l≠[]:=by
 intro e;have:=hl.n;rw[e]at this;have:=h.n0;simp at*;omega
theorem Ez:Ok (fun r=>∃b,qA c starts [] (j9 c.Trucks.length) b∧r=xI c starts b) (cH _ (fun(v_0:(Unit×Unit×(List Int)×Unit×(List Int)×Bool×Unit)×((Int×Int×Unit)×Unit)) kn=>nZ c starts v_0.1.2.2.1 v_0.1.2.2.2.2.1 v_0.1.2.2.2.2.2.1 v_0.2.1.1 v_0.2.1.2.1 (fun y0 y1 y2 y3 y4=>kn (((),(),y0,(),y1,y2,()),((y3,y4,()),())))) (((),(),[],(),j9 c.Trucks.length,true,()),((0,0,()),()))):=by
 refine Ok.rounds (fun v=>(v.1.2.2.1=[]∨oi c starts v.1.2.2.1∧(⟨v.2.1.1,v.2.1.2.1⟩:Span)=nS (jK (oC (qN c starts v.1.2.2.1))))∧(v.1.2.2.2.2.2.1=true→oi c starts v.1.2.2.2.2.1∧∀r,qA c starts v.1.2.2.1 v.1.2.2.2.2.1 r→qA c starts [] (j9 c.Trucks.length) r)∧(v.1.2.2.2.2.2.1=false→qA c starts [] (j9 c.Trucks.length) v.1.2.2.1))
  (fun v=>if v.1.2.2.2.2.2.1=true then 10001-vL starts.length v.1.2.2.2.2.1 else 0) ?_ ?_ ?_
 ·show(if true=true then 10001-vL starts.length (j9 c.Trucks.length)else 0)<18446744073709551616
  rw[if_pos rfl];omega
 ·exact⟨.inl rfl,fun _=>⟨s7 h.k0,fun _ q=>q⟩,fun q=>by cases q⟩
 rintro ⟨⟨_,_,best,_,l,more,_⟩,⟨⟨w0,w1,_⟩,_⟩⟩ kn ⟨i1,i2,i3⟩ hk
 simp only at i1 i2 i3 hk⊢
 refine Ok.ite (fun hm=> ?_) fun hm=> ?_
 ·subst hm
  obtain⟨hl,hr⟩:=i2 rfl
  rw[if_pos rfl]at hk
  have hv:=Mc hl h.n1 h.k1
  have hlen:l.length≤5:=by rw[hl.n];exact h.n1
  have hcnt:=Iu (l:=l) (K:=starts.length) (by omega) (by have:=h.k1;omega) hl.b
  refine Ok.beq (CQ (by have:=h.n1;omega) hl) (Ok.beq (Kn h hl) ?_)
  simp only
  --what follows,with the list that is kept
  have kept:∀{nb:List Int} {a b:Int},nb=gm c starts best l→(nb=[]∨oi c starts nb∧(⟨a,b⟩:Span)=nS (jK (oC (qN c starts nb))))→∀r:((List Int)×Unit)×Bool,(∀l',jG starts.length l=some l'→r=((l',()),true))∧(jG starts.length l=none→r.2=false)→
   Ok (fun r=>∃b,qA c starts [] (j9 c.Trucks.length) b∧r=xI c starts b) (kn (((),(),nb,(),r.1.1,r.2,()),((a,b,()),()))):=fun{nb a b} e hnb r hrr=>by
   subst e
   cases hx:jG starts.length l with
   |none=>
    have hf:=hrr.2 hx
    refine hk _ ⟨hnb,fun q=> ?_,fun _=>hr _ (.stop hx)⟩ ?_
    ·simp only[hf]at q;cases q
    ·simp only[hf];rw[if_neg (by decide)];omega
   |some l' =>
    have he:=hrr.1 l' hx
    subst he
    refine hk _ ⟨hnb,fun _=>⟨vM hl hx,fun r q=>hr _ (.go hx q)⟩,fun q=>by cases q⟩ ?_
    simp only[if_true]
    rw[Fu hl hx];omega
  have hnew:oi c starts (([]:List Int)++l)∧(⟨(nS (jK (oC (qN c starts l)))).Lo,(nS (jK (oC (qN c starts l)))).Hi⟩:Span)=nS (jK (oC (qN c starts (([]:List Int)++l)))):=⟨hl,rfl⟩
  refine Ok.ite (fun hb=> ?_) fun hb=>Ok.ite (fun ht=> ?_) fun ht=> ?_
  ·have hb:best=[]:=by simpa using hb
   refine Ok.bind (ue h hl) fun r5 h5=>Ok.ite (fun q=> ?_) fun q=> ?_
   ·refine Ok.aP (fa (by simp;omega) (by omega)) (Ok.bind hcnt fun r6 h6=>Ok.aP ?_ (kept ?_ (.inr hnew) r6 h6))
    ·have:=EG h hl;simp[this]
    ·unfold gm;rw[if_pos ⟨.inl hb,h5.1 q⟩];rfl
   ·refine Ok.bind hcnt fun r6 h6=>kept ?_ i1 r6 h6
    unfold gm;rw[if_neg fun z=> ?_]
    rw[h5.2 z.2]at q;cases q
  ·have hb:best≠[]:=by intro e;rw[e]at hb;cases hb
   have ht:=of_decide_eq_true ht
   rcases i1 with e|⟨hlb,hw⟩
   ·exact absurd e hb
   have ew:w1=Lm c starts best:=by rw[←AW,←hw]
   rw[AW,ew]at ht
   refine Ok.bind (ue h hl) fun r5 h5=>Ok.ite (fun q=> ?_) fun q=> ?_
   ·refine Ok.aP (fa (by simp;omega) (by omega)) (Ok.bind hcnt fun r6 h6=>Ok.aP ?_ (kept ?_ (.inr hnew) r6 h6))
    ·have:=EG h hl;simp[this]
    ·unfold gm;rw[if_pos ⟨.inr ht,h5.1 q⟩];rfl
   ·refine Ok.bind hcnt fun r6 h6=>kept ?_ (.inr ⟨hlb,hw⟩) r6 h6
    unfold gm;rw[if_neg fun z=> ?_]
    rw[h5.2 z.2]at q;cases q
  ·have hb:best≠[]:=by intro e;rw[e]at hb;cases hb
   have ht:=of_decide_eq_false ht
   rcases i1 with e|⟨hlb,hw⟩
   ·exact absurd e hb
   have ew:w1=Lm c starts best:=by rw[←AW,←hw]
   rw[AW,ew]at ht
   refine Ok.bind hcnt fun r6 h6=>kept ?_ (.inr ⟨hlb,hw⟩) r6 h6
   unfold gm;rw[if_neg fun z=> ?_]
   rcases z.1 with e|e
   ·exact hb e
   ·exact ht e
 ·subst hm
  refine Ok.ite (fun hb=>Ok.some ⟨best,i3 rfl, ?_⟩) fun hb=>Ok.some ⟨best,i3 rfl, ?_⟩
  ·have hb:best=[]:=by simpa using hb
   unfold xI;rw[if_pos hb]
  ·have hb:best≠[]:=by intro e;rw[e]at hb;cases hb
   unfold xI;rw[if_neg hb]
   rcases i1 with e|⟨_,hw⟩
   ·exact absurd e hb
   ·rw[hw]
end
theorem xQ(c:Convoy)(starts:List Int):Ok (tr c starts) (gS c starts):=by
 rw[pT]
 refine Ok.beq (yd c) (IA (fun _ h=>h) fun h0 n0 n1 k0 k1=> ?_)
 refine Ok.rounds (fun v=>∃k:Nat,k≤starts.length∧v.1.2.2.1=(k:Int)∧v.2.1.1=0∧v.2.1.2.1=0∧∀i,i<k→0≤starts.getD i 0∧starts.getD i 0≤10000) (fun v=>((starts.length:Int)-v.1.2.2.1).toNat) ?_ ?_ ?_
 ·show((starts.length:Int)-0).toNat<18446744073709551616
  omega
 ·exact⟨0,Nat.zero_le _,rfl,rfl,rfl,fun i hi=>by omega⟩
 rintro ⟨⟨_,_,i,_⟩,⟨⟨a,b,_⟩,_⟩⟩ kn ⟨k,k2,rfl,rfl,rfl,k3⟩ hk
 simp only
 have ek:bG ((k:Int)+1)=((k+1:Nat):Int):=by rw[bk (by omega) (by omega)];push_cast;rfl
 refine Ok.ite (fun hlt=> ?_) fun hge=> ?_
 ·have hlt:k<starts.length:=by have:=of_decide_eq_true hlt;omega
  refine Ok.aP (ib (by omega) (by omega)) (Ok.beq (Hk _ _ _) ?_)
  simp only[Int.toNat_natCast]
  refine Ok.ite (fun q=>Ok.some ?_) fun q=>hk _ ⟨k+1,hlt,ek,rfl,rfl,fun i hi=> ?_⟩ ?_
  ·refine kc (CB h0 n0 n1 k0 k1 fun hs=> ?_) (by decide)
   have:=hs k hlt
   rw[decide_eq_true this]at q;cases q
  ·by_cases e:i=k
   ·rw[e];simpa using q
   ·exact k3 i (by omega)
  ·simp only[ek];omega
 ·have hge:k=starts.length:=by have:=of_decide_eq_false hge;omega
  subst hge
  have hT:xS c starts:=⟨h0,n0,n1,k0,k1,k3⟩
  refine Ok.aP (by simp[C3];omega) ((Ez hT).mono fun r hr=> ?_)
  unfold tr
  rw[if_neg (by rw[zE hT];decide)]
  exact hr
end Go.Proofs.Plain04
namespace Go.Proofs.Plain04
open Go
open Go.Ab hiding atP
open Go.Proofs.YtafnhieaeejlcaaDoor (eZ CR al bO fC bI ck qC jK Ck fx dA cj)
set_option linter.all false
theorem xu(n:Int):kK n=some (!decide (0≤n∧n≤10000)):=by
 rw[pX];apply ok_eq
 exact Ok.beq (Oo _ _ _) (Ok.some rfl)
theorem CN{starts:List Int}(hn:starts.length≤1000):Ok (fun b=>b=true↔¬xt starts) (fE starts ()):=by
 rw[kJ]
 refine Ok.bind (P:=fun r=>r≥0↔¬xt starts) ?_ fun r hr=>Ok.some ?_
 ·rw[nf]
  refine Ok.rounds (fun v=>∃k:Nat,k≤starts.length∧v.1.1=(k:Int)∧∀i,i<k→0≤starts.getD i 0∧starts.getD i 0≤10000) (fun v=>((starts.length:Int)-v.1.1).toNat) ?_ ?_ ?_
  ·show((starts.length:Int)-0).toNat<18446744073709551616
   omega
  ·exact⟨0,Nat.zero_le _,rfl,fun i hi=>by omega⟩
  rintro ⟨⟨i,_⟩,_⟩ kn ⟨k,k2,rfl,k3⟩ hk
  simp only
  have ek:bG ((k:Int)+1)=((k+1:Nat):Int):=by rw[bk (by omega) (by omega)];push_cast;rfl
  refine Ok.ite (fun hlt=> ?_) fun hge=>Ok.some ?_
  ·have hlt:k<starts.length:=by have:=of_decide_eq_true hlt;omega
   refine Ok.aP (ib (by omega) (by omega)) (Ok.beq (xu _) ?_)
   simp only[Int.toNat_natCast]
   refine Ok.ite (fun q=>Ok.some ?_) fun q=>hk _ ⟨k+1,hlt,ek,fun i hi=> ?_⟩ ?_
   ·refine⟨fun _ hs=> ?_,fun _=>by omega⟩
    rw[decide_eq_true (hs k hlt)]at q;cases q
   ·by_cases e:i=k
    ·rw[e];simpa using q
    ·exact k3 i (by omega)
   ·simp only[ek];omega
  ·have hge:k=starts.length:=by have:=of_decide_eq_false hge;omega
   subst hge
   exact⟨fun q=>by omega,fun q=>absurd k3 q⟩
 ·simp only[decide_eq_true_eq];exact hr
theorem Jl{l X:List Int}{m:Nat}(hm:m<l.length)(hX:X=(List.range l.length).map fun j=>if j<m then l.getD j 0 else l.getD j 0+1):nm X (m+1) (l.length-(m+1))=bump l m:=by
 have hl:X.length=l.length:=by rw[hX];simp
 have hc:m+1+(l.length-(m+1))≤X.length:=by omega
 rw[ob (l:=nm X (m+1) (l.length-(m+1))) 0,Bd hc,hl]
 unfold bump
 refine mr fun j hj=> ?_
 by_cases h:j≤m
 ·rw[Cw hc (by omega),hX,ez _ _ hj]
  by_cases e:j=m
  ·subst e;rw[if_neg (by omega),if_neg (by omega),if_pos rfl]
  ·rw[if_pos (by omega),if_pos (by omega)]
 ·rw[E5 hc (by omega),if_neg (by omega),if_neg (by omega)]
section
variable {P:List Int×Span×Int→Prop} {c:Convoy} {starts l list:List Int} {bl bh:Int} {kn3:(List Int)→(List Int)→Int→Int→Option ((List Int)×Span×Int)}
theorem NU(hn:l.length≤1000)(hK:starts.length≤1000)(hb:∀i,i<l.length→0≤l.getD i 0∧l.getD i 0<starts.length)
 (hgo:∀l',jG starts.length l=some l'→Ok P (kn3 list l' bl bh))
 (hend:jG starts.length l=none→Ok P (bif (list.isEmpty)then some ([],(⟨0,0⟩:Span),7)else(fQ c starts list).bind fun r13=>(vV r13).bind fun r14=>some (list,r14,0))):
 Ok P (cH _ (fun(v_0:(Unit×(List Int)×Unit×Unit×Unit×(List Int)×Int×Unit)×(Unit)) kn=>ey starts kn3 bl bh c v_0.1.2.1 v_0.1.2.2.2.2.2.1 v_0.1.2.2.2.2.2.2.1 (fun y0 y1 y2=>kn (((),y0,(),(),(),y1,y2,()),(())))) (((),list,(),(),(),l,(bG ((l.length:Int)-1)),()),(()))):=by
 refine Ok.rounds (fun v=>v.1.2.1=list∧∃k:Nat,k≤l.length∧v.1.2.2.2.2.2.2.1=(k:Int)-1∧v.1.2.2.2.2.2.1=(List.range l.length).map (fun j=>if j<k then l.getD j 0 else l.getD j 0+1)∧nx starts.length l k=jG starts.length l) (fun v=>(v.1.2.2.2.2.2.2.1+1).toNat) ?_ ?_ ?_
 ·show(bG ((l.length:Int)-1)+1).toNat<18446744073709551616
  rw[bk (by omega) (by omega)];omega
 ·refine⟨rfl,l.length,Nat.le_refl _,show bG ((l.length:Int)-1)=(l.length:Int)-1 from bk (by omega) (by omega), ?_,rfl⟩
  exact(ob 0).trans (mr fun i hi=>by rw[if_pos hi])
 rintro ⟨⟨_,list2,_,_,_,l2,i,_⟩,_⟩ kn ⟨k0,k,k1,k2,k3,k4⟩ hk
 simp only at k0 k2 k3 hk⊢
 subst k0 k2 k3
 refine Ok.ite (fun hge=> ?_) fun hlt=> ?_
 ·have hge:(k:Int)-1≥0:=of_decide_eq_true hge
  obtain⟨m,rfl⟩:∃m,k=m+1:=⟨k-1,by omega⟩
  have em:((m+1:Nat):Int)-1=(m:Int):=by push_cast;omega
  rw[em]at hk⊢
  have hm:m<l.length:=by omega
  obtain⟨b0,b1⟩:=hb m hm
  simp only[Int.toNat_natCast]
  have e1:((List.range l.length).map fun j=>if j<m+1 then l.getD j 0 else l.getD j 0+1).getD m 0=l.getD m 0:=by rw[ez _ _ hm,if_pos (by omega)]
  have e2:bG (l.getD m 0+1)=l.getD m 0+1:=bk (by omega) (by omega)
  have e3:(((List.range l.length).map fun j=>if j<m+1 then l.getD j 0 else l.getD j 0+1).set m (l.getD m 0+1)).getD m 0=l.getD m 0+1:=pP (by rw[dR];exact hm)
  have e4:((List.range l.length).map fun j=>if j<m+1 then l.getD j 0 else l.getD j 0+1).set m (l.getD m 0+1)=(List.range l.length).map fun j=>if j<m then l.getD j 0 else l.getD j 0+1:=by
   refine mg (by simp) fun j hj=> ?_
   by_cases q:j<m
   ·rw[if_pos q,if_pos (by omega)]
   ·rw[if_neg q,if_neg (by omega)]
  rw[e4]at e3
  have em1:bG ((m:Int)+1)=((m+1:Nat):Int):=by rw[bk (by omega) (by omega)];push_cast;rfl
  simp only[e1,e2,e4,e3,em1,dR,Int.toNat_natCast]
  have c1:(decide (0≤(m:Int))&&decide ((m:Int)<(l.length:Int)))=true:=ib (by omega) (by omega)
  have c2:decide (m<l.length)=true:=by simpa using hm
  refine Ok.aP c1 (Ok.aP c2 (Ok.aP c1 (Ok.aP c2 (Ok.aP c1 (Ok.aP c2 (Ok.ite (fun h=>Ok.aP ?_ (Ok.aP ?_ ?_)) fun h=>hk _ ⟨rfl,m,by omega, ?_,rfl, ?_⟩ ?_))))))
  ·simp;omega
  ·simp only[decide_eq_true_eq];omega
  ·have h:=of_decide_eq_true h
   rw[Jl hm rfl]
   exact hgo _ (by rw[←k4];simp only[nx,if_pos h])
  ·exact bk (by omega) (by omega)
  ·have h:=of_decide_eq_false h
   rw[←k4]
   simp only[nx,if_neg h]
  ·simp only[bk (n:=(m:Int)-1) (by omega) (by omega)];omega
 ·have hlt:=of_decide_eq_false hlt
  have:k=0:=by omega
  subst this
  exact hend k4.symm
theorem QX: @nU=fun starts kn3 late c=>ey starts kn3 0 late c:=rfl
theorem QV: @la=fun starts kn3 late c=>ey starts kn3 0 late c:=rfl
theorem RH: @kW=ey:=rfl
end
def OK(c:Convoy)(starts:List Int)(i k:Nat):bq:=ll c (wK (c.Trucks.getD i aK) (starts.getD k 0))
def xY(c:Convoy)(starts:List Int):List (List bq):=(List.range c.Trucks.length).map fun i=>(List.range starts.length).map (OK c starts i)
section
variable {c:Convoy} {starts:List Int} (h:xS c starts)
include h
theorem LQ{l:List Int}(hl:oi c starts l):vV (qN c starts l)=some (nS (jK (oC (qN c starts l)))):=by
 have hv:=rT h.v h.s hl
 rw[Fk,hv,Ck (fC hv)];rfl
theorem zY{l:List Int}(hl:oi c starts l){i:Nat}(hi:i<c.Trucks.length):((xY c starts).getD i []).getD (l.getD i 0).toNat fX=ll c (zn c starts l i):=by
 have hb:=hl.b i (by have:=hl.n;omega)
 unfold xY
 rw[ez _ _ hi,ez _ _ (by omega)]
 rfl
theorem zN{i:Nat}(hi:i<c.Trucks.length):((xY c starts).getD i []).length=starts.length:=by
 unfold xY;rw[ez _ _ hi,dR]
theorem N3{P:List Int×Span×Int→Prop}{l:List Int}(hl:oi c starts l){k:Nat}(hk:k<c.Trucks.length){kn4:(List Int)→Bool→Int→Int→Option ((List Int)×Span×Int)}{late r5:Int}{list:List Int}{fits:Bool}(hf:fits=true↔AZ c starts l k)
 (hgo:∀f:Bool,(f=true↔AZ c starts l (k+1))→Ok P (kn4 list f (max late r5) (bG ((k:Int)+1)))):
 Ok P (cH _ (fun(v_0:(Unit×(List Int)×Unit×Unit×Unit×Unit×Bool×Int×Unit×Unit)×(Unit)) kn=>oJ (k:Int) (xY c starts) l c kn4 late r5 v_0.1.2.1 v_0.1.2.2.2.2.2.2.1 v_0.1.2.2.2.2.2.2.2.1 (fun y0 y1 y2=>kn (((),y0,(),(),(),(),y1,y2,(),()),(())))) (((),list,(),(),(),(),fits,0,(),()),(()))):=by
 have hn:=h.n1
 have hln:=hl.n
 refine Ok.rounds (fun v=>v.1.2.1=list∧∃j:Nat,j≤k∧v.1.2.2.2.2.2.2.2.1=(j:Int)∧(v.1.2.2.2.2.2.2.1=true↔AZ c starts l k∧∀a,a<j→As c.Gap c.Fails (oT (zn c starts l a)) (oT (zn c starts l k)) c.Length)) (fun v=>((k:Int)-v.1.2.2.2.2.2.2.2.1).toNat) ?_ ?_ ?_
 ·show((k:Int)-0).toNat<18446744073709551616
  omega
 ·exact⟨rfl,0,Nat.zero_le _,rfl,by rw[hf];exact⟨fun q=>⟨q,fun a ha=>by omega⟩,fun q=>q.1⟩⟩
 rintro ⟨⟨_,list2,_,_,_,_,f,j,_⟩,_⟩ kn ⟨k0,m,m1,m2,m3⟩ hkk
 simp only at k0 m2 m3 hkk⊢
 subst k0 m2
 have em1:bG ((m:Int)+1)=((m+1:Nat):Int):=by rw[bk (by omega) (by omega)];push_cast;rfl
 have next:AZ c starts l (k+1)↔AZ c starts l k∧∀a,a<k→As c.Gap c.Fails (oT (zn c starts l a)) (oT (zn c starts l k)) c.Length:=
  ⟨fun q=>⟨fun a b h1 h2=>q a b h1 (by omega),fun a ha=>q a k ha (by omega)⟩,fun q a b h1 h2=>by
    by_cases e:b=k
    ·subst e;exact q.2 a h1
    ·exact q.1 a b h1 (by omega)⟩
 refine Ok.ite (fun hlt=>Ok.ite (fun hft=> ?_) fun hff=>hgo _ ?_) fun hge=>hgo _ ?_
 ·have hlt:m<k:=by have:=of_decide_eq_true hlt;omega
  have hb1:=hl.b m (by omega)
  have hb2:=hl.b k (by omega)
  simp only[Int.toNat_natCast]
  rw[zY h hl (by omega),zY h hl hk]
  have a1:=(fC h.v).ok.g1
  have a2:=(fC h.v).ok.g2
  have hal:(xY c starts).length=c.Trucks.length:=by simp[xY]
  have t1:=A2 h.v h.s hl (i:=m) (by omega) false
  have t2:=A2 h.v h.s hl hk false
  refine Ok.aP (ib (by omega) (by omega)) (Ok.aP (by simp;omega) (Ok.aP (ib (by omega) (by omega)) (Ok.aP (by simp;omega) (Ok.aP ?_ (Ok.aP (ib (by omega) (by omega)) (Ok.aP (by simp;omega) (Ok.aP ?_ (Ok.bind (J1 t1 t2 a1 (Int.le_trans a2 (by decide))) fun r6 h6=>hkk _ ⟨rfl,m+1,hlt,em1, ?_⟩ ?_))))))))
  ·simp only[Bool.and_eq_true,decide_eq_true_eq];rw[zN h (by omega)];exact hb1
  ·simp only[Bool.and_eq_true,decide_eq_true_eq];rw[zN h (by omega)];exact hb2
  ·simp only
   rw[h6]
   have q0:=m3.1 hft
   exact⟨fun q=>⟨q0.1,fun a ha=>by
    by_cases e:a=m
    ·rw[e];exact q
    ·exact q0.2 a (by omega)⟩,fun q=>q.2 m (by omega)⟩
  ·simp only[em1];omega
 ·have hlt:m<k:=by have:=of_decide_eq_true hlt;omega
  rw[hff,next]
  refine⟨fun q=>(by cases q),fun q=> ?_⟩
  rw[←hff,m3]
  exact⟨q.1,fun a ha=>q.2 a (by omega)⟩
 ·have hge:m=k:=by have:=of_decide_eq_false hge;omega
  subst hge
  rw[m3,next]
theorem NX{P:List Int×Span×Int→Prop}{l:List Int}(hl:oi c starts l){kn3:(List Int)→(List Int)→Int→Int→Option ((List Int)×Span×Int)}{list:List Int}{bl bh:Int}(hb:list=[]∨oi c starts list∧bh=Lm c starts list)
 (hgo:∀l' a b,jG starts.length l=some l'→(gm c starts list l=[]∨oi c starts (gm c starts list l)∧b=Lm c starts (gm c starts list l))→Ok P (kn3 (gm c starts list l) l' a b))
 (hend:jG starts.length l=none→P (xI c starts (gm c starts list l))):
 Ok P (cH _ (fun(v_0:(Unit×(List Int)×Unit×Unit×Unit×Unit×Bool×Int×Unit×Int×Unit)×(Unit)) kn=>nR cH l (xY c starts) c starts kn3 bh bl v_0.1.2.1 v_0.1.2.2.2.2.2.2.1 v_0.1.2.2.2.2.2.2.2.1 v_0.1.2.2.2.2.2.2.2.2.2.1 (fun y0 y1 y2 y3=>kn (((),y0,(),(),(),(),y1,y2,(),y3,()),(())))) (((),list,(),(),(),(),true,0,(),0,()),(()))):=by
 have hn:=h.n1
 have hln:=hl.n
 have hks:=h.k1
 refine Ok.rounds (fun v=>v.1.2.1=list∧∃k:Nat,k≤c.Trucks.length∧v.1.2.2.2.2.2.2.2.2.2.1=(k:Int)∧v.1.2.2.2.2.2.2.2.1=dA (Pb c starts l) k∧(v.1.2.2.2.2.2.2.1=true↔AZ c starts l k)) (fun v=>((c.Trucks.length:Int)-v.1.2.2.2.2.2.2.2.2.2.1).toNat) ?_ ?_ ?_
 ·show((c.Trucks.length:Int)-0).toNat<18446744073709551616
  omega
 ·exact⟨rfl,0,Nat.zero_le _,rfl,rfl,fun _ a b _ hb=>by omega,fun _=>rfl⟩
 rintro ⟨⟨_,list2,_,_,_,_,f,late,_,x,_⟩,_⟩ kn ⟨k0,k,k1,k2,k3,k4⟩ hk
 simp only at k0 k2 k3 k4 hk⊢
 subst k0 k2 k3
 have hal:(xY c starts).length=c.Trucks.length:=by simp[xY]
 refine Ok.ite (fun hlt=> ?_) fun hge=> ?_
 ·have hlt:k<c.Trucks.length:=by have:=of_decide_eq_true hlt;omega
  have em1:bG ((k:Int)+1)=((k+1:Nat):Int):=by rw[bk (by omega) (by omega)];push_cast;rfl
  have hb2:=hl.b k (by omega)
  have t2:=A2 h.v h.s hl hlt false
  simp only[Int.toNat_natCast]
  rw[zY h hl hlt]
  refine Ok.aP (ib (by omega) (by omega)) (Ok.aP (by simp;omega) (Ok.aP (ib (by omega) (by omega)) (Ok.aP (by simp;omega) (Ok.aP ?_ (Ok.beq (oD (r:=⟨De (zn c starts l k) false,c.Length⟩) t2) (N3 h hl hlt k4 fun f hf=>hk _ ⟨rfl,k+1,hlt,em1, ?_,hf⟩ ?_))))))
  ·simp only[Bool.and_eq_true,decide_eq_true_eq];rw[zN h hlt];exact hb2
  ·rfl
  ·simp only[em1];omega
 ·have hge:k=c.Trucks.length:=by have:=of_decide_eq_false hge;omega
  subst hge
  have fin:∀nl:List Int,nl=gm c starts list2 l→(nl=[]∨oi c starts nl)→jG starts.length l=none→Ok P (bif (nl.isEmpty)then some ([],(⟨0,0⟩:Span),7)else(fQ c starts nl).bind fun r13=>(vV r13).bind fun r14=>some (nl,r14,0)):=fun nl e1 e2 hx=>by
   have key:=hend hx
   rw[←e1]at key
   refine Ok.ite (fun q=>Ok.some ?_) fun q=> ?_
   ·have hb:nl=[]:=by simpa using q
    unfold xI at key;rw[if_pos hb]at key;exact key
   ·have hb:nl≠[]:=by intro e;rw[e]at q;cases q
    rcases e2 with e|e2
    ·exact absurd e hb
    refine Ok.beq (uj (by omega) e2) (Ok.beq (LQ h e2) (Ok.some ?_))
    unfold xI at key;rw[if_neg hb]at key;exact key
  have keep:∀(nl:List Int) (a b:Int),nl=gm c starts list2 l→(nl=[]∨oi c starts nl∧b=Lm c starts nl)→Ok P (cH _ (fun(v_0:(Unit×(List Int)×Unit×Unit×Unit×(List Int)×Int×Unit)×(Unit)) kn=>ey starts kn3 a b c v_0.1.2.1 v_0.1.2.2.2.2.2.1 v_0.1.2.2.2.2.2.2.1 (fun y0 y1 y2=>kn (((),y0,(),(),(),y1,y2,()),(())))) (((),nl,(),(),(),l,(bG ((l.length:Int)-1)),()),(()))):=fun nl a b e1 e2=>
   NU (by omega) (by omega) hl.b (fun l' hx=>by subst e1;exact hgo l' a b hx e2) fun hx=>fin nl e1 (e2.imp id And.left) hx
  have cl:=Af (l:=l) (by omega)
  have hne:(!l.isEmpty)=true:=by have:=EG h hl;simp[this]
  refine Ok.ite (fun hf=>Ok.ite (fun he=> ?_) fun he=>Ok.ite (fun ht=> ?_) fun ht=> ?_) fun hf=> ?_
  ·refine Ok.beq cl (Ok.aP hne ?_)
   rw[QX]
   refine keep l 0 _ ?_ (.inr ⟨hl,rfl⟩)
   unfold gm;rw[if_pos ⟨.inl (by simpa using he),k4.1 hf⟩]
  ·have hb' :list2≠[]:=by intro e;rw[e]at he;cases he
   rcases hb with e|⟨e1,e2⟩
   ·exact absurd e hb'
   refine Ok.beq cl (Ok.aP hne ?_)
   rw[QV]
   refine keep l 0 _ ?_ (.inr ⟨hl,rfl⟩)
   unfold gm;rw[if_pos ⟨.inr (by have:=of_decide_eq_true ht;rw[e2]at this;exact this),k4.1 hf⟩]
  ·have hb' :list2≠[]:=by intro e;rw[e]at he;cases he
   rcases hb with e|⟨e1,e2⟩
   ·exact absurd e hb'
   refine keep list2 bl bh ?_ (.inr ⟨e1,e2⟩)
   unfold gm;rw[if_neg fun z=> ?_]
   rcases z.1 with e|e
   ·exact hb' e
   ·have:=of_decide_eq_false ht;rw[e2]at this;exact this e
  ·rw[RH]
   refine keep list2 bl bh ?_ hb
   unfold gm;rw[if_neg fun z=> ?_]
   rw[k4.2 z.2]at hf;cases hf
end
end Go.Proofs.Plain04
namespace Go.Proofs.Plain04
open Go Go.Ab
open Go.Proofs.YtafnhieaeejlcaaDoor (ao)
set_option linter.all false
set_option maxRecDepth 100000
noncomputable section
end
end Go.Proofs.Plain04
