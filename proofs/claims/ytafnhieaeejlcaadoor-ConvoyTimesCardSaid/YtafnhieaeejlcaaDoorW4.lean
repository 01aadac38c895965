/- Walks by computing: what each function of the program that the laws reach gives for what it gets, as plain Lean, and that it is so; without a condition but those that stand in each theorem. -/
import Derived.Test.YtafnhieaeejlcaaDoorW1
import Derived.Test.YtafnhieaeejlcaaDoorW2
import Derived.Test.YtafnhieaeejlcaaDoorW3
set_option linter.all false
namespace Go.Proofs.YtafnhieaeejlcaaDoor
open Go Go.Ab
set_option maxRecDepth 100000
set_option maxHeartbeats 4000000
attribute [local irreducible] W WL eh kL fe ee gN WG FQ Want jE WI pE fR eA
def jq(keep fail:Nat→Int)(m:Int):Nat→Option Int
 |0=>some 0
 |k+1=>match jq keep fail m k with
  |none=>none
  |some c=>if keep k≤m then some c else if fail k>m then none else some (c+1)
def kN(keep fail:Nat→Int)(n:Nat)(fails m:Int):Bool:=match jq keep fail m n with|none=>false|some c=>decide (c≤fails)
theorem GH{keep fail:Nat→Int}{m:Int}{k:Nat}(h:jq keep fail m k=none):∀n,k≤n→jq keep fail m n=none:=by
 intro n hn
 induction n with
 |zero=>have:k=0:=by omega
        subst this;exact h
 |succ n ih=>
  by_cases e:k=n+1
  ·subst e;exact h
  ·simp only[jq,ih (by omega)]
theorem zD{keep fail:Nat→Int}{m c:Int}{k:Nat}(h:jq keep fail m k=some c)(h1:keep k≤m):jq keep fail m (k+1)=some c:=by simp only[jq,h,if_pos h1]
theorem Hn{keep fail:Nat→Int}{m c:Int}{k:Nat}(h:jq keep fail m k=some c)(h1:¬keep k≤m)(h2:¬fail k>m):jq keep fail m (k+1)=some (c+1):=by simp only[jq,h,if_neg h1,if_neg h2]
theorem HE{keep fail:Nat→Int}{m c:Int}{k:Nat}(h:jq keep fail m k=some c)(h1:¬keep k≤m)(h2:fail k>m):jq keep fail m (k+1)=none:=by simp only[jq,h,if_neg h1,if_pos h2]
theorem KD{keep fail:Nat→Int}{m c fails:Int}{k n:Nat}(h:jq keep fail m k=some c)(h1:¬keep k≤m)(h2:fail k>m)(hk:k<n):false=kN keep fail n fails m:=by
 simp only[kN,GH (HE h h1 h2) n hk]
theorem HW{keep fail:Nat→Int}{m c fails:Int}{k n:Nat}(h:jq keep fail m k=some c)(hk:k≤n)(h2:¬k<n):decide (c≤fails)=kN keep fail n fails m:=by
 have:k=n:=by omega
 subst this;simp only[kN,h]
theorem Hu{keep fail:Nat→Int}{m fails:Int}{n:Nat}(h:∀k,k<n→keep k≤m)(hf:0≤fails):kN keep fail n fails m=true:=by
 have:∀k,k≤n→jq keep fail m k=some 0:=by
  intro k
  induction k with
  |zero=>intro _;rfl
  |succ k ih=>intro hk;exact zD (ih (by omega)) (h k (by omega))
 simp only[kN,this n (Nat.le_refl _)];simpa using hf
def OF(keep fail:Nat→Int)(m:Int)(n:Nat)(x:Nat×Int):Prop:=x.1≤n∧jq keep fail m x.1=some x.2∧0≤x.2∧x.2≤x.1
theorem Pv(keep fail:Nat→Int)(n:Nat)(fails m:Int)(hn:n≤1000):au cK 118 [.sl 1 n (fun i=>fy (keep i)), .sl 1 n (fun i=>fy (fail i)), .int .i64 fails, .int .i64 m] (.bool (kN keep fail n fails m)):=by
 refine bS (fn:=Tryd.f118) Tryd.func118 rfl (by kernel_rfl) rfl ?_ ?_ ?_
 ·exact af.cons (.sl _ _ _ fun _ _ d hd=>z7 _ d hd) (af.cons (.sl _ _ _ fun _ _ d hd=>z7 _ d hd) (af.cons (.int _ _) (af.cons (.int _ _) af.nil)))
 ·exact .bool _
 intro w κ
 repeat' (first
  |(apply bU;apply Eq.refl;apply Eq.refl;(first|(apply aA<;>apply Eq.refl)|(apply aG<;>apply Eq.refl)|(apply aB<;>apply Eq.refl)|(apply bj<;>apply Eq.refl)|(apply di<;>apply Eq.refl)|(apply ah<;>(first|apply Eq.refl|omega))|(apply ba<;>apply Eq.refl)|(apply cq<;>(first|apply Eq.refl|omega))|(apply cO<;>apply Eq.refl)))
  |apply aZ
  |apply ak
  |apply an
  |apply aE
  |apply bn
  |apply cg
  |apply aF
  |apply cN
  |apply aw
  |apply aS
  |apply bf
  |apply aY
  |apply aR
  |(apply cM;apply Eq.refl;intro _;rotate_left 1;intro _;rotate_left 1))
 refine jS (α:=Nat×Int) (fun x=>[(0, .sl 1 n (fun i=>fy (keep i))),(1, .sl 1 n (fun i=>fy (fail i))),(2, .int .i64 fails),(3, .int .i64 m),(9, .int .i64 x.2),(10, .int .i64 x.1)]) (fun _=>[])
  (fun _=>[]) (OF keep fail m n) (fun x=>n-x.1) (0,0) ⟨Nat.zero_le _,rfl,Int.le_refl _,Int.le_refl _⟩ (by refine⟨?_, ?_, ?_⟩<;>repeat' (first|exact trivial|apply And.intro|apply Eq.refl)) (fun x h hi=> ?_)
 obtain⟨i1,i2,i3,i4⟩:=hi
 repeat' (first
  |(apply bU;apply Eq.refl;apply Eq.refl;(first|(apply aA<;>apply Eq.refl)|(apply aG<;>apply Eq.refl)|(apply aB<;>apply Eq.refl)|(apply bj<;>apply Eq.refl)|(apply di<;>apply Eq.refl)|(apply ah<;>(first|apply Eq.refl|omega))|(apply ba<;>apply Eq.refl)|(apply cq<;>(first|apply Eq.refl|omega))|(apply cO<;>apply Eq.refl)))
  |apply aZ
  |apply ak
  |apply an
  |apply aE
  |apply bn
  |apply cg
  |apply aF
  |apply cN
  |apply aw
  |apply aS
  |apply bf
  |apply aY
  |apply aR
  |(apply cM;apply Eq.refl;intro _;rotate_left 1;intro _;rotate_left 1))
 all_goals try simp only[Int.toNat_natCast]at*
 all_goals first
  |(refine iG rfl rfl (KD i2 (by assumption) (by assumption) (by omega));done)
  |(refine iG rfl rfl (HW i2 i1 (by omega));done)
  |(refine⟨(x.1+1,x.2),⟨by simp only;omega,zD i2 (by assumption),i3,by simp only;omega⟩,by simp only;omega,(by refine⟨?_, ?_, ?_⟩<;>repeat' (first|exact trivial|apply And.intro|apply Eq.refl))⟩;done)
  |(refine⟨(x.1+1,x.2+1),⟨by simp only;omega,Hn i2 (by assumption) (by assumption),by simp only;omega,by simp only;omega⟩,by simp only;omega,(by refine⟨?_, ?_, ?_⟩<;>repeat' (first|exact trivial|apply And.intro|apply Eq.refl))⟩;done)
  |skip
end Go.Proofs.YtafnhieaeejlcaaDoor
namespace Go.Proofs.YtafnhieaeejlcaaDoor
open Go Go.Ab
set_option maxRecDepth 100000
set_option maxHeartbeats 4000000
attribute [local irreducible] W WL eh kL fe ee gN WG FQ Want jE WI pE fR eA
theorem uk{way len:Int}:∀{hs:List Hold} {p:Option Int},cZ way len p hs=0→∀k,k<hs.length→1≤(hs.getD k default).a∧(hs.getD k default).a≤len-1∧0≤(hs.getD k default).u∧(hs.getD k default).u≤10000
 |[],_,_,k,hk=>by simp at hk
 |h::hs,p,h0,k,hk=>by
  rw[fc]at h0
  split at h0
  ·cases h0
  ·rename_i hb
   have hrest:∃p',cZ way len p' hs=0:=by
    split at h0
    ·split at h0
     ·cases h0
     ·exact⟨_,h0⟩
    ·exact⟨_,h0⟩
   obtain⟨p',hp'⟩:=hrest
   match k with
   |0=>simp only[List.getD_cons_zero];omega
   |k+1=>simp only[List.getD_cons_succ];exact uk hp' k (by simpa using hk)
theorem I3{c:Convoy}{t:Truck}(h1:1≤c.len)(h2:c.len≤100000)(h:bO c t=0):xS c t:=by
 unfold bO at h
 split at h;·cases h
 split at h;·cases h
 split at h;·cases h
 split at h;·cases h
 split at h;·cases h
 split at h;·cases h
 exact⟨h1,h2,by omega,by omega,by omega,by omega,by omega,by omega,by omega,uk h⟩
structure OT (c:Convoy):Prop where
 l1:1≤c.len
 l2:c.len≤100000
 g1:1≤c.gap
 g2:c.gap≤100000
 f1:0≤c.fails
 f2:c.fails≤20
 n:c.trucks.length≤20
 t:∀k,k<c.trucks.length→xS c (c.trucks.getD k default)
theorem fA{c:Convoy}:∀{ts:List Truck},cX c ts=0→∀t∈ts,bO c t=0
 |[],_,t,ht=>by cases ht
 |x::ts,h,t,ht=>by
  unfold cX at h
  split at h
  ·rename_i hn;exact absurd h hn
  ·rename_i hn
   rcases List.mem_cons.1 ht with rfl|ht
   ·exact Classical.not_not.1 hn
   ·exact fA h t ht
theorem AJ{c:Convoy}(h:al c=0):OT c:=by
 unfold al at h
 split at h;·cases h
 split at h;·cases h
 refine⟨by omega,by omega,by omega,by omega,by omega,by omega,by omega,fun k hk=>I3 (by omega) (by omega) (fA h _ ?_)⟩
 simp[List.getD,hk]
theorem xS.free{c:Convoy}{t:Truck}(h:xS c t)(b:Bool):xS c (bb t b):=by
 cases b
 ·exact h
 ·exact⟨h.l1,h.l2,h.s1,h.s2,h.p1,h.p2,h.p3,h.d1,Nat.zero_le _,fun k hk=>by cases hk⟩
def cQ(c:Convoy)(k:Nat):Int:=(jO c (c.trucks.getD k default)).lo
def eK(c:Convoy)(k:Nat):Int:=(jO c (bb (c.trucks.getD k default) true)).lo
def fx(c:Convoy)(k:Nat):Int:=(jO c (c.trucks.getD k default)).hi
def dA(f:Nat→Int):Nat→Int
 |0=>0
 |k+1=>max (dA f k) (f k)
theorem E8{c:Convoy}{t:Truck}(h:xS c t): -1≤(jO c t).lo∧(jO c t).lo≤21000∧0≤(jO c t).hi∧(jO c t).hi≤21000:=by
 obtain⟨_,_,e3⟩:=lR h (Int.le_refl t.lo)
 obtain⟨_,_,f3⟩:=lR h h.p2
 have:=h.s1
 have:=h.s2
 simp only[jO]
 split<;>omega
def jt(c:Convoy):Nat→Nat→Nat
 |0,k=>k
 |n+1,k=>if kN (cQ c) (eK c) c.trucks.length c.fails k then k else jt c n (k+1)
def jK(c:Convoy):Span:=⟨jt c 21000 0,dA (fx c) c.trucks.length⟩
theorem xf(c:Convoy){K:Nat}(hK:kN (cQ c) (eK c) c.trucks.length c.fails K=true):∀n k,k≤K→K≤k+n→
 (∀j,k≤j→j<jt c n k→kN (cQ c) (eK c) c.trucks.length c.fails j=false)∧kN (cQ c) (eK c) c.trucks.length c.fails (jt c n k)=true∧jt c n k≤K:=by
 intro n
 induction n with
 |zero=>
  intro k h1 h2
  have:k=K:=by omega
  subst this
  exact⟨fun j a b=>by simp only[jt]at b;omega,hK,Nat.le_refl _⟩
 |succ n ih=>
  intro k h1 h2
  by_cases e:kN (cQ c) (eK c) c.trucks.length c.fails k=true
  ·simp only[jt,if_pos e]
   exact⟨fun j a b=>by omega,e,h1⟩
  ·simp only[jt,if_neg e]
   have hne:k≠K:=by intro h;subst h;exact e hK
   obtain⟨a,b,d⟩:=ih (k+1) (by omega) (by omega)
   refine⟨fun j hj hj2=> ?_,b,d⟩
   by_cases ej:j=k
   ·subst ej;simpa using e
   ·exact a j (by omega) hj2
end Go.Proofs.YtafnhieaeejlcaaDoor
namespace Go.Proofs.YtafnhieaeejlcaaDoor
open Go Go.Ab
set_option maxRecDepth 100000
set_option maxHeartbeats 4000000
attribute [local irreducible] W WL eh kL fe ee gN WG FQ Want jE WI pE fR eA
theorem BT{c:Convoy}(hc:OT c):kN (cQ c) (eK c) c.trucks.length c.fails 21000=true:=
 Hu (fun k hk=>(E8 (hc.t k hk)).2.1) hc.f1
theorem vk(c:Convoy)(k:Nat):dA (fx c) (k+1)=max (dA (fx c) k) (jO c (c.trucks.getD (k:Int).toNat default)).hi:=rfl
theorem mN(f:Nat→Int):dA f 0=0:=rfl
attribute [local irreducible] jO bb dA kN jt
theorem Ru(c:Convoy)(hc:OT c):au cK 95 [.agg (aI c)] (.agg (bA (jK c))):=by
 refine bS (fn:=Tryd.f95) Tryd.func95 rfl (by kernel_rfl) rfl ?_ ?_ ?_
 ·exact af.cons (.agg _ (bm c)) af.nil
 ·exact .agg _ (cL _)
 intro w κ
 have hn:=hc.n
 have hf1:=hc.f1
 have hf2:=hc.f2
 have hmax0:=mN (fx c)
 repeat' (first
  |(apply bU;apply Eq.refl;apply Eq.refl;(first|(apply aA<;>apply Eq.refl)|(apply aG<;>apply Eq.refl)|(apply aH<;>apply Eq.refl)|(apply aD<;>apply Eq.refl)|(apply aB<;>apply Eq.refl)|(apply cP<;>apply Eq.refl)|(apply ah<;>(first|apply Eq.refl|omega))|(apply ba<;>apply Eq.refl)|(apply cq<;>(first|apply Eq.refl|omega))|(apply aq<;>apply Eq.refl)|(apply aM<;>apply Eq.refl)|(apply dL<;>apply Eq.refl)|(apply cO<;>apply Eq.refl)|(apply dt<;>apply Eq.refl)|(apply dn<;>apply Eq.refl)|(apply dr<;>apply Eq.refl)))
  |apply aZ
  |apply ak
  |apply an
  |apply aE
  |apply bn
  |apply aF
  |apply aw
  |apply aS
  |apply bf
  |apply aY
  |apply aR
  |(apply bZ;apply Eq.refl;(first|(apply aT<;>apply Eq.refl)|(apply aO<;>apply Eq.refl)|(apply bM<;>apply Eq.refl)))
  |apply ax
  |(apply bw;kernel_rfl)
  |(apply dx;(first|(apply ab;apply Eq.refl)|(apply ae;apply Eq.refl;apply Eq.refl;apply Eq.refl));apply Eq.refl;first|(apply bB<;>apply Eq.refl)|(apply aW<;>apply Eq.refl)|(apply b6;apply Eq.refl)|(apply b7;apply Eq.refl)|(apply aN;intro _;(first|(apply aA<;>apply Eq.refl)|(apply aG<;>apply Eq.refl)|(apply aH<;>apply Eq.refl)|(apply aD<;>apply Eq.refl)|(apply aB<;>apply Eq.refl)|(apply cP<;>apply Eq.refl)|(apply ah<;>(first|apply Eq.refl|omega))|(apply ba<;>apply Eq.refl)|(apply cq<;>(first|apply Eq.refl|omega))|(apply aq<;>apply Eq.refl)|(apply aM<;>apply Eq.refl)|(apply dL<;>apply Eq.refl)|(apply cO<;>apply Eq.refl)|(apply dt<;>apply Eq.refl)|(apply dn<;>apply Eq.refl)|(apply dr<;>apply Eq.refl))))
  |(apply fj;(first|(apply ab;apply Eq.refl)|(apply ae;apply Eq.refl;apply Eq.refl;apply Eq.refl));(first|(apply cJ<;>apply Eq.refl)|(apply dT<;>apply Eq.refl)|(apply g4<;>apply Eq.refl)))
  |(apply cM;apply Eq.refl;intro _;rotate_left 1;intro _;rotate_left 1)
  |(apply ox;apply Eq.refl;intro _;rotate_left 1;intro _;rotate_left 1))
 refine qI (qg 4 4 3 1 (fun i=>fy (cQ c i)) rfl) ?_
 refine qI (qg 5 5 3 1 (fun i=>fy (eK c i)) rfl) ?_
 refine Fg [1,2,3] [1,2] (fun k:Nat=>[(4, .os 4 (k+1)),(5, .os 5 (k+1)),(6, .int .i64 k)]) (fun k=>[(3,1),(4,k+1),(5,k+1)])
  (fun k=>[(3, .box [.int .i64 0, .int .i64 (dA (fx c) k)]),(4, .arr 3 1 k (fun i=>fy (cQ c i))),(5, .arr 3 1 k (fun i=>fy (eK c i)))])
  (fun k=>k≤c.trucks.length) (fun k=>c.trucks.length-k) 0 (Nat.zero_le _) (by refine⟨?_, ?_, ?_⟩<;>repeat' (first|exact trivial|apply And.intro|apply Eq.refl|(apply gv;apply Eq.refl;first|omega|assumption)|(apply gL;apply Eq.refl;repeat' (first|apply Eq.refl|apply cd|(apply cf;first|apply Eq.refl|omega|assumption))))) (fun k h hi=> ?_)
 have hk:=hi
 have ht:(k:Int)<c.trucks.length→xS c (c.trucks.getD (k:Int).toNat default):=fun h=>hc.t _ (by omega)
 have hmk:=vk c k
 repeat' (first
  |(apply bU;apply Eq.refl;apply Eq.refl;(first|(apply aA<;>apply Eq.refl)|(apply aG<;>apply Eq.refl)|(apply aH<;>apply Eq.refl)|(apply aD<;>apply Eq.refl)|(apply aB<;>apply Eq.refl)|(apply cP<;>apply Eq.refl)|(apply ah<;>(first|apply Eq.refl|omega))|(apply ba<;>apply Eq.refl)|(apply cq<;>(first|apply Eq.refl|omega))|(apply aq<;>apply Eq.refl)|(apply aM<;>apply Eq.refl)|(apply dL<;>apply Eq.refl)|(apply cO<;>apply Eq.refl)|(apply dt<;>apply Eq.refl)|(apply dn<;>apply Eq.refl)|(apply dr<;>apply Eq.refl)))
  |apply aZ
  |apply ak
  |apply an
  |apply aE
  |apply bn
  |apply aF
  |apply aw
  |apply aS
  |apply bf
  |apply aY
  |apply aR
  |(apply ay;apply Eq.refl;apply Eq.refl;rotate_left 1;apply Eq.refl;rotate_right 1;exact(J2 c (c.trucks.getD (k:Int).toNat default) (ht (by assumption)));apply Eq.refl)
  |(apply ay;apply Eq.refl;apply Eq.refl;rotate_left 1;apply Eq.refl;rotate_right 1;exact(zB (c.trucks.getD (k:Int).toNat default) true);apply Eq.refl)
  |(apply ay;apply Eq.refl;apply Eq.refl;rotate_left 1;apply Eq.refl;rotate_right 1;exact(J2 c (bb (c.trucks.getD (k:Int).toNat default) true) ((ht (by assumption)).free true));apply Eq.refl)
  |(apply bZ;apply Eq.refl;(first|(apply aT<;>apply Eq.refl)|(apply aO<;>apply Eq.refl)|(apply bM<;>apply Eq.refl)))
  |apply ax
  |(apply bw;kernel_rfl)
  |(apply dx;(first|(apply ab;apply Eq.refl)|(apply ae;apply Eq.refl;apply Eq.refl;apply Eq.refl));apply Eq.refl;first|(apply bB<;>apply Eq.refl)|(apply aW<;>apply Eq.refl)|(apply b6;apply Eq.refl)|(apply b7;apply Eq.refl)|(apply aN;intro _;(first|(apply aA<;>apply Eq.refl)|(apply aG<;>apply Eq.refl)|(apply aH<;>apply Eq.refl)|(apply aD<;>apply Eq.refl)|(apply aB<;>apply Eq.refl)|(apply cP<;>apply Eq.refl)|(apply ah<;>(first|apply Eq.refl|omega))|(apply ba<;>apply Eq.refl)|(apply cq<;>(first|apply Eq.refl|omega))|(apply aq<;>apply Eq.refl)|(apply aM<;>apply Eq.refl)|(apply dL<;>apply Eq.refl)|(apply cO<;>apply Eq.refl)|(apply dt<;>apply Eq.refl)|(apply dn<;>apply Eq.refl)|(apply dr<;>apply Eq.refl))))
  |(apply az;(first|(apply ab;apply Eq.refl)|(apply ae;apply Eq.refl;apply Eq.refl;apply Eq.refl));apply Eq.refl;apply Eq.refl;apply Eq.refl;exact(J2 c (c.trucks.getD (k:Int).toNat default) (ht (by assumption))))
  |(apply az;(first|(apply ab;apply Eq.refl)|(apply ae;apply Eq.refl;apply Eq.refl;apply Eq.refl));apply Eq.refl;apply Eq.refl;apply Eq.refl;exact(zB (c.trucks.getD (k:Int).toNat default) true))
  |(apply az;(first|(apply ab;apply Eq.refl)|(apply ae;apply Eq.refl;apply Eq.refl;apply Eq.refl));apply Eq.refl;apply Eq.refl;apply Eq.refl;exact(J2 c (bb (c.trucks.getD (k:Int).toNat default) true) ((ht (by assumption)).free true)))
  |(apply fj;(first|(apply ab;apply Eq.refl)|(apply ae;apply Eq.refl;apply Eq.refl;apply Eq.refl));(first|(refine tR (f' :=fun i=>fy (cQ c i)) rfl rfl rfl rfl rfl rfl rfl rfl rfl rfl rfl rfl rfl rfl rfl (by first|omega|(show(k+1)*8≤_;omega)) (by omega) rfl (fun i hi=>rfl) (fun i hi=>by(obtain rfl:i=0:=by omega);rfl))|(refine tR (f' :=fun i=>fy (eK c i)) rfl rfl rfl rfl rfl rfl rfl rfl rfl rfl rfl rfl rfl rfl rfl (by first|omega|(show(k+1)*8≤_;omega)) (by omega) rfl (fun i hi=>rfl) (fun i hi=>by(obtain rfl:i=0:=by omega);rfl))|(apply cJ<;>apply Eq.refl)|(apply dT<;>apply Eq.refl)|(apply g4<;>apply Eq.refl)))
  |(apply cM;apply Eq.refl;intro _;rotate_left 1;intro _;rotate_left 1)
  |(apply ox;apply Eq.refl;intro _;rotate_left 1;intro _;rotate_left 1))
 ·refine⟨k+1,by omega,by omega,(by refine⟨?_, ?_, ?_, ?_, ?_⟩<;>repeat' (first|exact trivial|apply And.intro|apply Eq.refl|(apply gv;apply Eq.refl;first|omega|assumption)|(apply gL;apply Eq.refl;repeat' (first|apply Eq.refl|apply cd|(apply cf;first|apply Eq.refl|omega|assumption)))))⟩
 obtain rfl:k=c.trucks.length:=by omega
 refine qI (jU 4 rfl rfl rfl) ?_
 refine qI (jU 5 rfl rfl rfl) ?_
 have hK:=BT hc
 obtain⟨o1,o2,o3⟩:=xf c (K:=21000) hK 21000 0 (by omega) (by omega)
 refine Fg [1,2,3,4,5] [1,2,4,5] (fun j:Nat=>[]) (fun j=>[(3,1)])
  (fun j=>[(3, .box [.int .i64 j, .int .i64 (dA (fx c) c.trucks.length)])])
  (fun j=>j≤jt c 21000 0) (fun j=>jt c 21000 0-j) 0 (Nat.zero_le _) (by refine⟨?_, ?_, ?_⟩<;>repeat' (first|exact trivial|apply And.intro|apply Eq.refl|(apply gv;apply Eq.refl;first|omega|assumption)|(apply gL;apply Eq.refl;repeat' (first|apply Eq.refl|apply cd|(apply cf;first|apply Eq.refl|omega|assumption))))) (fun j h hj=> ?_)
 have hn' :c.trucks.length≤1000:=by omega
 repeat' (first
  |(apply bU;apply Eq.refl;apply Eq.refl;(first|(apply aA<;>apply Eq.refl)|(apply aG<;>apply Eq.refl)|(apply aH<;>apply Eq.refl)|(apply aD<;>apply Eq.refl)|(apply aB<;>apply Eq.refl)|(apply cP<;>apply Eq.refl)|(apply ah<;>(first|apply Eq.refl|omega))|(apply ba<;>apply Eq.refl)|(apply cq<;>(first|apply Eq.refl|omega))|(apply aq<;>apply Eq.refl)|(apply aM<;>apply Eq.refl)|(apply dL<;>apply Eq.refl)|(apply cO<;>apply Eq.refl)|(apply dt<;>apply Eq.refl)|(apply dn<;>apply Eq.refl)|(apply dr<;>apply Eq.refl)))
  |apply aZ
  |apply ak
  |apply an
  |apply aE
  |apply bn
  |apply aF
  |apply aw
  |apply aS
  |apply bf
  |apply aY
  |apply aR
  |(apply ay;apply Eq.refl;apply Eq.refl;rotate_left 1;apply Eq.refl;rotate_right 1;exact(Pv (cQ c) (eK c) c.trucks.length c.fails j hn');apply Eq.refl)
  |(apply bZ;apply Eq.refl;(first|(apply aT<;>apply Eq.refl)|(apply aO<;>apply Eq.refl)|(apply bM<;>apply Eq.refl)))
  |apply ax
  |(apply bw;kernel_rfl)
  |(apply dx;(first|(apply ab;apply Eq.refl)|(apply ae;apply Eq.refl;apply Eq.refl;apply Eq.refl));apply Eq.refl;first|(apply bB<;>apply Eq.refl)|(apply aW<;>apply Eq.refl)|(apply b6;apply Eq.refl)|(apply b7;apply Eq.refl)|(apply aN;intro _;(first|(apply aA<;>apply Eq.refl)|(apply aG<;>apply Eq.refl)|(apply aH<;>apply Eq.refl)|(apply aD<;>apply Eq.refl)|(apply aB<;>apply Eq.refl)|(apply cP<;>apply Eq.refl)|(apply ah<;>(first|apply Eq.refl|omega))|(apply ba<;>apply Eq.refl)|(apply cq<;>(first|apply Eq.refl|omega))|(apply aq<;>apply Eq.refl)|(apply aM<;>apply Eq.refl)|(apply dL<;>apply Eq.refl)|(apply cO<;>apply Eq.refl)|(apply dt<;>apply Eq.refl)|(apply dn<;>apply Eq.refl)|(apply dr<;>apply Eq.refl))))
  |(apply az;(first|(apply ab;apply Eq.refl)|(apply ae;apply Eq.refl;apply Eq.refl;apply Eq.refl));apply Eq.refl;apply Eq.refl;apply Eq.refl;exact(Pv (cQ c) (eK c) c.trucks.length c.fails j hn'))
  |(apply fj;(first|(apply ab;apply Eq.refl)|(apply ae;apply Eq.refl;apply Eq.refl;apply Eq.refl));(first|(apply cJ<;>apply Eq.refl)|(apply dT<;>apply Eq.refl)|(apply g4<;>apply Eq.refl)))
  |(apply cM;apply Eq.refl;intro _;rotate_left 1;intro _;rotate_left 1)
  |(apply ox;apply Eq.refl;intro _;rotate_left 1;intro _;rotate_left 1))
 ·have:¬j=jt c 21000 0:=fun e=>by rw[←e]at o2;simp_all
  refine⟨j+1,by omega,by omega,(by refine⟨?_, ?_, ?_, ?_, ?_⟩<;>repeat' (first|exact trivial|apply And.intro|apply Eq.refl|(apply gv;apply Eq.refl;first|omega|assumption)|(apply gL;apply Eq.refl;repeat' (first|apply Eq.refl|apply cd|(apply cf;first|apply Eq.refl|omega|assumption)))))⟩
 ·have:¬j<jt c 21000 0:=fun e=>by have:=o1 j (by omega) e;simp_all
  obtain rfl:j=jt c 21000 0:=by omega
  refine js rfl rfl rfl rfl rfl rfl rfl rfl ?_;rfl
end Go.Proofs.YtafnhieaeejlcaaDoor
namespace Go.Proofs.YtafnhieaeejlcaaDoor
open Go Go.Ab
set_option maxRecDepth 100000
set_option maxHeartbeats 4000000
attribute [local irreducible] W WL eh kL fe ee gN WG FQ Want jE WI pE fR eA
attribute [local irreducible] jK al
theorem Ss(c:Convoy):au cK 52 [.agg (aI c)] (.tup [.agg (bA (if al c=0 then jK c else default)), .int .i64 (al c)]):=by
 refine bS (fn:=Tryd.f52) Tryd.func52 rfl (by kernel_rfl) rfl ?_ ?_ ?_
 ·exact af.cons (.agg _ (bm c)) af.nil
 ·exact .tup _ (af.cons (.agg _ (cL _)) (af.cons (.int _ _) af.nil))
 intro w κ
 repeat' (first
  |(apply bU;apply Eq.refl;apply Eq.refl;(first|(apply aA<;>apply Eq.refl)|(apply aG<;>apply Eq.refl)|(apply aB<;>apply Eq.refl)|(apply aq<;>apply Eq.refl)|(apply bJ<;>apply Eq.refl)))
  |apply aZ
  |apply ak
  |apply an
  |apply aE
  |apply cg
  |apply aS
  |apply aY
  |(apply ay;apply Eq.refl;apply Eq.refl;rotate_left 1;apply Eq.refl;rotate_right 1;exact(Mu c);apply Eq.refl)
  |(apply ay;apply Eq.refl;apply Eq.refl;rotate_left 1;apply Eq.refl;rotate_right 1;exact(Ru c (AJ (by assumption)));apply Eq.refl)
  |(apply bZ;apply Eq.refl;(first|(apply aT<;>apply Eq.refl)|(apply aO<;>apply Eq.refl)|(apply bM<;>apply Eq.refl)))
  |(apply fq;apply Eq.refl;intro _;rotate_left 1;intro _;rotate_left 1))
 ·((try apply aL);first|(focus (apply fu;apply Eq.refl;(first|(apply eI;apply Eq.refl)|(apply ed<;>apply Eq.refl));(first|(apply eI;apply Eq.refl)|(apply ed<;>apply Eq.refl));all_goals try apply Eq.refl)))
  rw[if_neg (by assumption)];rfl
 ·((try apply aL);first|(focus (apply fu;apply Eq.refl;(first|(apply eI;apply Eq.refl)|(apply ed<;>apply Eq.refl));(first|(apply eI;apply Eq.refl)|(apply ed<;>apply Eq.refl));all_goals try apply Eq.refl)))
  ·rw[if_pos (by assumption)];rfl
  ·simp[*]
def lB(c:Convoy):Bool:=(decide ((c.trucks.length:Int)>5)&&decide ((c.trucks.length:Int)≤20))||decide ((c.trucks.length:Int)>25)||c.trucks.any (fun t=>decide ((t.holds.length:Int)>12))||(decide (al c=0)&&decide ((jK c).hi>1500))
theorem Ku{α:Type}[Inhabited α]{l:List α}{p:α→Bool}{k:Nat}(h:k<l.length)(hp:p (l.getD k default)=true):l.any p=true:=by
 rw[List.any_eq_true]
 exact⟨_,by simp[List.getD,h],hp⟩
theorem NI{α:Type}[Inhabited α]{l:List α}{p:α→Bool}(h:∀k,k<l.length→p (l.getD k default)=false):l.any p=false:=by
 rw[List.any_eq_false]
 intro x hx
 obtain⟨k,hk,rfl⟩:=Bf hx
 rw[h k hk];decide
theorem RU(c:Convoy):au cK 18 [.agg (aI c)] (.bool (lB c)):=by
 refine bS (fn:=Tryd.f18) Tryd.func18 rfl (by kernel_rfl) rfl ?_ ?_ ?_
 ·exact af.cons (.agg _ (bm c)) af.nil
 ·exact .bool _
 intro w κ
 repeat' (first
  |(apply bU;apply Eq.refl;apply Eq.refl;(first|(apply aA<;>apply Eq.refl)|(apply aG<;>apply Eq.refl)|(apply aH<;>apply Eq.refl)|(apply aD<;>apply Eq.refl)|(apply aB<;>apply Eq.refl)|(apply aX<;>apply Eq.refl)|(apply bj<;>apply Eq.refl)|(apply di<;>apply Eq.refl)|(apply iN<;>apply Eq.refl)|(apply ah<;>(first|apply Eq.refl|omega))|(apply ba<;>apply Eq.refl)|(apply cu<;>apply Eq.refl)|(apply bR<;>apply Eq.refl)|(apply bX<;>apply Eq.refl)|(apply cq<;>(first|apply Eq.refl|omega))|(apply aq<;>apply Eq.refl)|(apply cw<;>apply Eq.refl)))
  |apply aZ
  |apply ak
  |apply an
  |apply aE
  |apply bn
  |apply cg
  |apply aF
  |apply cN
  |apply aw
  |apply aS
  |apply bf
  |apply aY
  |apply aR
  |(apply bu;apply Eq.refl)
  |(apply bZ;apply Eq.refl;(first|(apply aT<;>apply Eq.refl)|(apply aO<;>apply Eq.refl)|(apply bM<;>apply Eq.refl)))
  |(apply dg;apply Eq.refl;apply Eq.refl;apply Eq.refl)
  |(apply eo;apply Eq.refl;apply Eq.refl;apply Eq.refl;apply Eq.refl;apply Eq.refl)
  |(apply xp;apply Eq.refl;apply Eq.refl;apply Eq.refl;intro _;rotate_left 1;intro _;rotate_left 1)
  |(apply cM;apply Eq.refl;intro _;rotate_left 1;intro _;rotate_left 1))
 all_goals first
  |(((try apply aL);first|(apply iG;apply Eq.refl;apply Eq.refl;try apply Eq.refl));(unfold lB;simp_all;done))
  |skip
 all_goals
  refine dI [1] [1] (fun k:Nat=>[(3, .int .i64 k)]) (fun k=>[]) (fun k=>[])
   (fun k=>k≤c.trucks.length∧∀i,i<k→(fun t:Truck=>decide ((t.holds.length:Int)>12)) (c.trucks.getD i default)=false) (fun k=>c.trucks.length-k) 0 ⟨Nat.zero_le _,fun i h=>by omega⟩ (by refine⟨?_, ?_, ?_⟩<;>repeat' (first|exact trivial|apply And.intro|apply Eq.refl|(apply gv;apply Eq.refl;first|omega|assumption)|(apply gL;apply Eq.refl;repeat' (first|apply Eq.refl|apply cd|(apply cf;first|apply Eq.refl|omega|assumption))))) (fun k h hi=> ?_)
  obtain⟨hk,hall⟩:=hi
  repeat' (first
  |(apply bU;apply Eq.refl;apply Eq.refl;(first|(apply aA<;>apply Eq.refl)|(apply aG<;>apply Eq.refl)|(apply aH<;>apply Eq.refl)|(apply aD<;>apply Eq.refl)|(apply aB<;>apply Eq.refl)|(apply aX<;>apply Eq.refl)|(apply bj<;>apply Eq.refl)|(apply di<;>apply Eq.refl)|(apply iN<;>apply Eq.refl)|(apply ah<;>(first|apply Eq.refl|omega))|(apply ba<;>apply Eq.refl)|(apply cu<;>apply Eq.refl)|(apply bR<;>apply Eq.refl)|(apply bX<;>apply Eq.refl)|(apply cq<;>(first|apply Eq.refl|omega))|(apply aq<;>apply Eq.refl)|(apply cw<;>apply Eq.refl)))
  |apply aZ
  |apply ak
  |apply an
  |apply aE
  |apply bn
  |apply cg
  |apply aF
  |apply cN
  |apply aw
  |apply aS
  |apply bf
  |apply aY
  |apply aR
  |(apply bu;apply Eq.refl)
  |(apply ay;apply Eq.refl;apply Eq.refl;rotate_left 1;apply Eq.refl;rotate_right 1;exact(Ss c);apply Eq.refl)
  |(apply bZ;apply Eq.refl;(first|(apply aT<;>apply Eq.refl)|(apply aO<;>apply Eq.refl)|(apply bM<;>apply Eq.refl)))
  |(apply dg;apply Eq.refl;apply Eq.refl;apply Eq.refl)
  |(apply eo;apply Eq.refl;apply Eq.refl;apply Eq.refl;apply Eq.refl;apply Eq.refl)
  |(apply xp;apply Eq.refl;apply Eq.refl;apply Eq.refl;intro _;rotate_left 1;intro _;rotate_left 1)
  |(apply cM;apply Eq.refl;intro _;rotate_left 1;intro _;rotate_left 1))
 all_goals try (refine⟨k+1,⟨by omega,fun i hi=> ?_⟩,by omega, ?_⟩;rotate_left 1;exact(by apply bH;refine⟨?_, ?_, ?_, ?_, ?_⟩<;>repeat' (first|exact trivial|apply And.intro|apply Eq.refl|(apply gv;apply Eq.refl;first|omega|assumption)|(apply gL;apply Eq.refl;repeat' (first|apply Eq.refl|apply cd|(apply cf;first|apply Eq.refl|omega|assumption))))))
 all_goals try (rcases Nat.lt_or_eq_of_le (Nat.le_of_lt_succ hi)with h1|h1<;>first|exact hall i h1|(subst h1;simp_all;done))
 all_goals try (have h12: ↑(c.trucks.getD (k:Int).toNat default).holds.length>(12:Int):=by assumption
                ((try apply aL);first|(apply iG;apply Eq.refl;apply Eq.refl;try apply Eq.refl))
                rw[lB,Ku (k:=k) (by omega) (by simpa using h12)];simp)
 all_goals (have hany:c.trucks.any (fun t=>decide ((t.holds.length:Int)>12))=false:=NI (fun i hi=>hall i (by omega));((try apply aL);first|(apply iG;apply Eq.refl;apply Eq.refl;try apply Eq.refl));simp only[lB,hany];simp only[*,if_true,if_false,decide_true,decide_false,Bool.false_and,Bool.true_and,Bool.false_or,Bool.or_false,Bool.and_false])
end Go.Proofs.YtafnhieaeejlcaaDoor
namespace Go.Proofs.YtafnhieaeejlcaaDoor
open Go Go.Ab
set_option maxRecDepth 100000
set_option maxHeartbeats 4000000
attribute [local irreducible] W WL eh kL fe ee gN WG FQ Want jE WI pE fR eA
theorem QA(c:Convoy)(hn:c.trucks.length≤25)(hh:∀k,k<c.trucks.length→(c.trucks.getD k default).holds.length≤12):au cK 20 [.agg (aI c)] (.agg (aI c)):=by
 refine aC (fn:=Tryd.f20) Tryd.func20 rfl (by kernel_rfl) rfl ?_ ?_ ?_
 ·exact af.cons (.agg _ (bm c)) af.nil
 ·exact .agg _ (bm _)
 intro w κ
 repeat' (first
  |(apply bU;apply Eq.refl;apply Eq.refl;(first|(apply aA<;>apply Eq.refl)|(apply aG<;>apply Eq.refl)|(apply aH<;>apply Eq.refl)|(apply aD<;>apply Eq.refl)|(apply aB<;>apply Eq.refl)|(apply ah<;>(first|apply Eq.refl|omega))|(apply aq<;>apply Eq.refl)|(apply mi<;>(first|apply Eq.refl|omega))|(apply zK<;>apply Eq.refl)|(apply kP<;>(first|apply Eq.refl|omega))|(apply iV<;>apply Eq.refl)))
  |apply aZ
  |apply ak
  |apply an
  |apply aE
  |apply bn
  |apply aF
  |apply aw
  |apply aS
  |apply bf
  |apply aY
  |apply aR
  |(apply bZ;apply Eq.refl;(first|(refine zQ (fun i=>bp (c.trucks.getD i default)) rfl rfl rfl rfl rfl rfl rfl rfl rfl)|(refine yF (f' :=fun i=>bp (c.trucks.getD i default)) rfl rfl rfl rfl rfl rfl rfl rfl rfl rfl rfl rfl rfl rfl rfl (by show(0+c.trucks.length)*56≤_;omega) (by omega) rfl (fun i hi=>rfl) (fun i hi=>by rw[Nat.zero_add]))|(apply aT<;>apply Eq.refl)|(apply aO<;>apply Eq.refl)|(apply bM<;>apply Eq.refl)))
  |apply ax
  |(apply bw;kernel_rfl)
  |(apply dx;(first|(apply ab;apply Eq.refl)|(apply ae;apply Eq.refl;apply Eq.refl;apply Eq.refl));apply Eq.refl;first|(apply bB<;>apply Eq.refl)|(apply aW<;>apply Eq.refl)|(apply b6;apply Eq.refl)|(apply b7;apply Eq.refl)|(apply aN;intro _;(first|(apply aA<;>apply Eq.refl)|(apply aG<;>apply Eq.refl)|(apply aH<;>apply Eq.refl)|(apply aD<;>apply Eq.refl)|(apply aB<;>apply Eq.refl)|(apply ah<;>(first|apply Eq.refl|omega))|(apply aq<;>apply Eq.refl)|(apply mi<;>(first|apply Eq.refl|omega))|(apply zK<;>apply Eq.refl)|(apply kP<;>(first|apply Eq.refl|omega))|(apply iV<;>apply Eq.refl))))
  |(apply fj;(first|(apply ab;apply Eq.refl)|(apply ae;apply Eq.refl;apply Eq.refl;apply Eq.refl));(first|(refine JJ (fun i=>bp (c.trucks.getD i default)) rfl rfl rfl rfl rfl rfl rfl rfl rfl)|(refine tR (f' :=fun i=>bp (c.trucks.getD i default)) rfl rfl rfl rfl rfl rfl rfl rfl rfl rfl rfl rfl rfl rfl rfl (by show(0+c.trucks.length)*56≤_;omega) (by omega) rfl (fun i hi=>rfl) (fun i hi=>by rw[Nat.zero_add]))|(apply Mq<;>(first|apply Eq.refl|omega))))
  |(apply cM;apply Eq.refl;intro _;rotate_left 1;intro _;rotate_left 1))
 refine dI [1,2] [1,2] (fun k:Nat=>[(3, .int .i64 k)]) (fun k=>[(4,2)]) (fun k=>[(4, .arr 50 5 (0+c.trucks.length) (fun i=>bp (c.trucks.getD i default)))])
  (fun k=>k≤c.trucks.length) (fun k=>c.trucks.length-k) 0 (Nat.zero_le _) (by refine⟨?_, ?_, ?_⟩<;>repeat' (first|exact trivial|apply And.intro|apply Eq.refl|(apply gv;apply Eq.refl;first|omega|assumption)|(apply gL;apply Eq.refl;repeat' (first|apply Eq.refl|apply cd|(apply cf;first|apply Eq.refl|omega|assumption))))) (fun k h hi=> ?_)
 repeat' (first
  |(apply bU;apply Eq.refl;apply Eq.refl;(first|(apply aA<;>apply Eq.refl)|(apply aG<;>apply Eq.refl)|(apply aH<;>apply Eq.refl)|(apply aD<;>apply Eq.refl)|(apply aB<;>apply Eq.refl)|(apply ah<;>(first|apply Eq.refl|omega))|(apply aq<;>apply Eq.refl)|(apply mi<;>(first|apply Eq.refl|omega))|(apply zK<;>apply Eq.refl)|(apply kP<;>(first|apply Eq.refl|omega))|(apply iV<;>apply Eq.refl)))
  |apply aZ
  |apply ak
  |apply an
  |apply aE
  |apply bn
  |apply aF
  |apply aw
  |apply aS
  |apply bf
  |apply aY
  |apply aR
  |(apply bZ;apply Eq.refl;(first|(refine zQ (fun i=>fB ((c.trucks.getD k default).holds.getD i default)) rfl rfl rfl rfl rfl rfl rfl rfl rfl)|(refine yF (f' :=fun i=>fB ((c.trucks.getD k default).holds.getD i default)) rfl rfl rfl rfl rfl rfl rfl rfl rfl rfl rfl rfl rfl rfl rfl (by have:=hh k (by omega);show(0+(c.trucks.getD k default).holds.length)*16≤_;omega) (by have:=hh k (by omega);show 0+(c.trucks.getD k default).holds.length≤_;omega) rfl (fun i hi=>rfl) (fun i hi=>by rw[Nat.zero_add];rfl))|(apply aT<;>apply Eq.refl)|(apply aO<;>apply Eq.refl)|(apply bM<;>apply Eq.refl)))
  |apply ax
  |(apply bw;kernel_rfl)
  |(apply dx;(first|(apply ab;apply Eq.refl)|(apply ae;apply Eq.refl;apply Eq.refl;apply Eq.refl));apply Eq.refl;first|(apply bB<;>apply Eq.refl)|(apply aW<;>apply Eq.refl)|(apply b6;apply Eq.refl)|(apply b7;apply Eq.refl)|(apply aN;intro _;(first|(apply aA<;>apply Eq.refl)|(apply aG<;>apply Eq.refl)|(apply aH<;>apply Eq.refl)|(apply aD<;>apply Eq.refl)|(apply aB<;>apply Eq.refl)|(apply ah<;>(first|apply Eq.refl|omega))|(apply aq<;>apply Eq.refl)|(apply mi<;>(first|apply Eq.refl|omega))|(apply zK<;>apply Eq.refl)|(apply kP<;>(first|apply Eq.refl|omega))|(apply iV<;>apply Eq.refl))))
  |(apply fj;(first|(apply ab;apply Eq.refl)|(apply ae;apply Eq.refl;apply Eq.refl;apply Eq.refl));(first|(refine JJ (fun i=>fB ((c.trucks.getD k default).holds.getD i default)) rfl rfl rfl rfl rfl rfl rfl rfl rfl)|(refine tR (f' :=fun i=>fB ((c.trucks.getD k default).holds.getD i default)) rfl rfl rfl rfl rfl rfl rfl rfl rfl rfl rfl rfl rfl rfl rfl (by have:=hh k (by omega);show(0+(c.trucks.getD k default).holds.length)*16≤_;omega) (by have:=hh k (by omega);show 0+(c.trucks.getD k default).holds.length≤_;omega) rfl (fun i hi=>rfl) (fun i hi=>by rw[Nat.zero_add];rfl))|(apply Mq<;>(first|apply Eq.refl|omega))))
  |(apply cM;apply Eq.refl;intro _;rotate_left 1;intro _;rotate_left 1))
 ·refine⟨k+1,by omega,by omega,JA (oK 4 k 4 (s:=19) (f2' :=fun i=>bp (c.trucks.getD i default)) rfl rfl (by omega) (tv _ _ _) rfl rfl rfl rfl (fun j hj=> ?_)) (by apply bH;refine⟨?_, ?_, ?_, ?_, ?_⟩<;>repeat' (first|exact trivial|apply And.intro|apply Eq.refl|(apply gv;apply Eq.refl;first|omega|assumption)|(apply gL;apply Eq.refl;repeat' (first|apply Eq.refl|apply cd|(apply cf;first|apply Eq.refl|omega|assumption)))))⟩
  by_cases e:j=k
  ·subst e;rw[if_pos rfl];rw[Nat.zero_add];rfl
  ·rw[if_neg e];exact(AF (fun i=>bp (c.trucks.getD i default)) (i:=(k:Int).toNat) (k:=j) _ e).symm
 ·refine ns (kl 2 3 (s:=4) rfl rfl rfl rfl rfl) (aL ?_)
  ((try apply aL);first|(apply js;apply Eq.refl;apply Eq.refl;apply Eq.refl;apply Eq.refl;apply Eq.refl;apply Eq.refl;apply Eq.refl;apply Eq.refl;try apply Eq.refl))
  rw[Nat.zero_add];rfl
theorem pL{α:Type}[Inhabited α]{l m:List α}(h:l.length=m.length)(h2:∀i,i<l.length→l.getD i default=m.getD i default):l=m:=by
 apply List.ext_getElem h
 intro i h3 h4
 have:=h2 i h3
 simpa[List.getD,h3,h4]using this
theorem Jc{t u:Truck}(h1:t.way=u.way)(h2:t.start=u.start)(h3:t.lo=u.lo)(h4:t.hi=u.hi)(h5:t.holds=u.holds):t=u:=by cases t;cases u;simp_all
theorem LG{t u:Hold}(h1:t.a=u.a)(h2:t.u=u.u):t=u:=by cases t;cases u;simp_all
theorem Hf{t u:Convoy}(h1:t.len=u.len)(h2:t.gap=u.gap)(h3:t.fails=u.fails)(h5:t.trucks=u.trucks):t=u:=by cases t;cases u;simp_all
theorem RV(a b:Convoy)(hn:a.trucks.length≤1000)(hh:∀k,k<a.trucks.length→(a.trucks.getD k default).holds.length≤1000):au cK 23 [.agg (aI a), .agg (aI b)] (.bool (decide (a=b))):=by
 refine aC (fn:=Tryd.f23) Tryd.func23 rfl (by kernel_rfl) rfl ?_ ?_ ?_
 ·exact af.cons (.agg _ (bm a)) (af.cons (.agg _ (bm b)) af.nil)
 ·exact .bool _
 intro w κ
 repeat' (first
  |(apply bU;apply Eq.refl;apply Eq.refl;(first|(apply aA<;>apply Eq.refl)|(apply aG<;>apply Eq.refl)|(apply aH<;>apply Eq.refl)|(apply aD<;>apply Eq.refl)|(apply aB<;>apply Eq.refl)|(apply aX<;>apply Eq.refl)|(apply bj<;>apply Eq.refl)|(apply ah<;>(first|apply Eq.refl|omega))|(apply ba<;>apply Eq.refl)|(apply bR<;>apply Eq.refl)|(apply bX<;>apply Eq.refl)|(apply cq<;>(first|apply Eq.refl|omega))|(apply aq<;>apply Eq.refl)|(apply aM<;>apply Eq.refl)|(apply v7;apply Eq.refl;apply Eq.refl;apply Eq.refl;apply Eq.refl;kernel_rfl)))
  |apply aZ
  |apply ak
  |apply an
  |apply aE
  |apply bn
  |apply cg
  |apply aF
  |apply cN
  |apply aw
  |apply aS
  |apply bf
  |apply aY
  |apply aR
  |(apply bu;apply Eq.refl)
  |(apply bZ;apply Eq.refl;(first|(apply aT<;>apply Eq.refl)))
  |(apply dg;apply Eq.refl;apply Eq.refl;apply Eq.refl)
  |(apply eo;apply Eq.refl;apply Eq.refl;apply Eq.refl;apply Eq.refl;apply Eq.refl)
  |(apply oq;apply Eq.refl;apply Eq.refl;apply Eq.refl;intro _;rotate_left 1;intro _;rotate_left 1)
  |(apply rE;apply Eq.refl;apply Eq.refl;apply Eq.refl;intro _;rotate_left 1;intro _;rotate_left 1)
  |apply ax
  |(apply bw;kernel_rfl)
  |(apply dx;(first|(apply ab;apply Eq.refl)|(apply ae;apply Eq.refl;apply Eq.refl;apply Eq.refl));apply Eq.refl;first|(apply bB<;>apply Eq.refl)|(apply aW<;>apply Eq.refl)|(apply b6;apply Eq.refl)|(apply b7;apply Eq.refl)|(apply aN;intro _;(first|(apply aA<;>apply Eq.refl)|(apply aG<;>apply Eq.refl)|(apply aH<;>apply Eq.refl)|(apply aD<;>apply Eq.refl)|(apply aB<;>apply Eq.refl)|(apply aX<;>apply Eq.refl)|(apply bj<;>apply Eq.refl)|(apply ah<;>(first|apply Eq.refl|omega))|(apply ba<;>apply Eq.refl)|(apply bR<;>apply Eq.refl)|(apply bX<;>apply Eq.refl)|(apply cq<;>(first|apply Eq.refl|omega))|(apply aq<;>apply Eq.refl)|(apply aM<;>apply Eq.refl)|(apply v7;apply Eq.refl;apply Eq.refl;apply Eq.refl;apply Eq.refl;kernel_rfl))))
  |(apply fj;(first|(apply ab;apply Eq.refl)|(apply ae;apply Eq.refl;apply Eq.refl;apply Eq.refl));(first|(apply cJ<;>apply Eq.refl)|(apply dT<;>apply Eq.refl)))
  |(apply cM;apply Eq.refl;intro _;rotate_left 1;intro _;rotate_left 1)
  |(apply fq;apply Eq.refl;intro _;rotate_left 1;intro _;rotate_left 1)
  |(apply ox;apply Eq.refl;intro _;rotate_left 1;intro _;rotate_left 1))
 all_goals try (((try apply aL);first|(apply iG;apply Eq.refl;apply Eq.refl;try apply Eq.refl));symm;apply decide_eq_false;rintro rfl;contradiction)
 have hlen:a.trucks.length=b.trucks.length:=by omega
 refine dI [2,3] [2,3] (fun k:Nat=>[(5, .int .i64 k)]) (fun k=>[]) (fun k=>[])
  (fun k=>k≤a.trucks.length∧∀i,i<k→a.trucks.getD i default=b.trucks.getD i default) (fun k=>a.trucks.length-k) 0 ⟨Nat.zero_le _,fun i h=>by omega⟩ (by refine⟨?_, ?_, ?_⟩<;>repeat' (first|exact trivial|apply And.intro|apply Eq.refl|(apply gv;apply Eq.refl;first|omega|assumption)|(apply gL;apply Eq.refl;repeat' (first|apply Eq.refl|apply cd|(apply cf;first|apply Eq.refl|omega|assumption))))) (fun k h hi=> ?_)
 obtain⟨hk,hall⟩:=hi
 have hne:a.trucks.getD k default≠b.trucks.getD k default→¬a=b:=fun h1 h2=>h1 (by rw[h2])
 repeat' (first
  |(apply bU;apply Eq.refl;apply Eq.refl;(first|(apply aA<;>apply Eq.refl)|(apply aG<;>apply Eq.refl)|(apply aH<;>apply Eq.refl)|(apply aD<;>apply Eq.refl)|(apply aB<;>apply Eq.refl)|(apply aX<;>apply Eq.refl)|(apply bj<;>apply Eq.refl)|(apply ah<;>(first|apply Eq.refl|omega))|(apply ba<;>apply Eq.refl)|(apply bR<;>apply Eq.refl)|(apply bX<;>apply Eq.refl)|(apply cq<;>(first|apply Eq.refl|omega))|(apply aq<;>apply Eq.refl)|(apply aM<;>apply Eq.refl)|(apply v7;apply Eq.refl;apply Eq.refl;apply Eq.refl;apply Eq.refl;kernel_rfl)))
  |apply aZ
  |apply ak
  |apply an
  |apply aE
  |apply bn
  |apply cg
  |apply aF
  |apply cN
  |apply aw
  |apply aS
  |apply bf
  |apply aY
  |apply aR
  |(apply bu;apply Eq.refl)
  |(apply bZ;apply Eq.refl;(first|(apply aT<;>apply Eq.refl)))
  |(apply dg;apply Eq.refl;apply Eq.refl;apply Eq.refl)
  |(apply eo;apply Eq.refl;apply Eq.refl;apply Eq.refl;apply Eq.refl;apply Eq.refl)
  |(apply oq;apply Eq.refl;apply Eq.refl;apply Eq.refl;intro _;rotate_left 1;intro _;rotate_left 1)
  |(apply rE;apply Eq.refl;apply Eq.refl;apply Eq.refl;intro _;rotate_left 1;intro _;rotate_left 1)
  |apply ax
  |(apply bw;kernel_rfl)
  |(apply dx;(first|(apply ab;apply Eq.refl)|(apply ae;apply Eq.refl;apply Eq.refl;apply Eq.refl));apply Eq.refl;first|(apply bB<;>apply Eq.refl)|(apply aW<;>apply Eq.refl)|(apply b6;apply Eq.refl)|(apply b7;apply Eq.refl)|(apply aN;intro _;(first|(apply aA<;>apply Eq.refl)|(apply aG<;>apply Eq.refl)|(apply aH<;>apply Eq.refl)|(apply aD<;>apply Eq.refl)|(apply aB<;>apply Eq.refl)|(apply aX<;>apply Eq.refl)|(apply bj<;>apply Eq.refl)|(apply ah<;>(first|apply Eq.refl|omega))|(apply ba<;>apply Eq.refl)|(apply bR<;>apply Eq.refl)|(apply bX<;>apply Eq.refl)|(apply cq<;>(first|apply Eq.refl|omega))|(apply aq<;>apply Eq.refl)|(apply aM<;>apply Eq.refl)|(apply v7;apply Eq.refl;apply Eq.refl;apply Eq.refl;apply Eq.refl;kernel_rfl))))
  |(apply fj;(first|(apply ab;apply Eq.refl)|(apply ae;apply Eq.refl;apply Eq.refl;apply Eq.refl));(first|(apply cJ<;>apply Eq.refl)|(apply dT<;>apply Eq.refl)))
  |(apply cM;apply Eq.refl;intro _;rotate_left 1;intro _;rotate_left 1)
  |(apply fq;apply Eq.refl;intro _;rotate_left 1;intro _;rotate_left 1)
  |(apply ox;apply Eq.refl;intro _;rotate_left 1;intro _;rotate_left 1))
 all_goals try simp only[Int.toNat_natCast]at*
 all_goals try (((try apply aL);first|(apply iG;apply Eq.refl;apply Eq.refl;try apply Eq.refl));symm;apply decide_eq_false;apply hne;intro e;simp_all;done)
 rotate_left 1
 ·((try apply aL);first|(apply iG;apply Eq.refl;apply Eq.refl;try apply Eq.refl));symm;apply decide_eq_true
  exact Hf (by assumption) (by assumption) (by assumption) (pL hlen fun i h1=>hall i (by omega))
 simp only[Bool.and_true,Bool.and_eq_true,decide_eq_true_eq]at*
 have hp:(a.trucks.getD k default).lo=(b.trucks.getD k default).lo∧(a.trucks.getD k default).hi=(b.trucks.getD k default).hi:=by assumption
 refine dI [2,3,5,6,7,37,38,39,40,41,44,45,46,47,48,49,50,51,52,53,54,55,56,57,58,59,60,61,62,63,64,65,66,67,68,69,70,71,72,73,74,75,76,77,78,79,80,81] [2,3,6,7] (fun j:Nat=>[(8, .int .i64 j)]) (fun j=>[]) (fun j=>[])
  (fun j=>j≤(a.trucks.getD k default).holds.length∧∀i,i<j→(a.trucks.getD k default).holds.getD i default=(b.trucks.getD k default).holds.getD i default) (fun j=>(a.trucks.getD k default).holds.length-j) 0 ⟨Nat.zero_le _,fun i h=>by omega⟩ (by refine⟨?_, ?_, ?_⟩<;>repeat' (first|exact trivial|apply And.intro|apply Eq.refl|(apply gv;apply Eq.refl;first|omega|assumption)|(apply gL;apply Eq.refl;repeat' (first|apply Eq.refl|apply cd|(apply cf;first|apply Eq.refl|omega|assumption))))) (fun j h' hj=> ?_)
 obtain⟨hj,hallj⟩:=hj
 have hhk:=hh k (by omega)
 have hne2:(a.trucks.getD k default).holds.getD j default≠(b.trucks.getD k default).holds.getD j default→¬a=b:=fun h1 h2=>h1 (by rw[h2])
 repeat' (first
  |(apply bU;apply Eq.refl;apply Eq.refl;(first|(apply aA<;>apply Eq.refl)|(apply aG<;>apply Eq.refl)|(apply aH<;>apply Eq.refl)|(apply aD<;>apply Eq.refl)|(apply aB<;>apply Eq.refl)|(apply aX<;>apply Eq.refl)|(apply bj<;>apply Eq.refl)|(apply ah<;>(first|apply Eq.refl|omega))|(apply ba<;>apply Eq.refl)|(apply bR<;>apply Eq.refl)|(apply bX<;>apply Eq.refl)|(apply cq<;>(first|apply Eq.refl|omega))|(apply aq<;>apply Eq.refl)|(apply aM<;>apply Eq.refl)|(apply v7;apply Eq.refl;apply Eq.refl;apply Eq.refl;apply Eq.refl;kernel_rfl)))
  |apply aZ
  |apply ak
  |apply an
  |apply aE
  |apply bn
  |apply cg
  |apply aF
  |apply cN
  |apply aw
  |apply aS
  |apply bf
  |apply aY
  |apply aR
  |(apply bu;apply Eq.refl)
  |(apply bZ;apply Eq.refl;(first|(apply aT<;>apply Eq.refl)))
  |(apply dg;apply Eq.refl;apply Eq.refl;apply Eq.refl)
  |(apply eo;apply Eq.refl;apply Eq.refl;apply Eq.refl;apply Eq.refl;apply Eq.refl)
  |(apply oq;apply Eq.refl;apply Eq.refl;apply Eq.refl;intro _;rotate_left 1;intro _;rotate_left 1)
  |(apply rE;apply Eq.refl;apply Eq.refl;apply Eq.refl;intro _;rotate_left 1;intro _;rotate_left 1)
  |apply ax
  |(apply bw;kernel_rfl)
  |(apply dx;(first|(apply ab;apply Eq.refl)|(apply ae;apply Eq.refl;apply Eq.refl;apply Eq.refl));apply Eq.refl;first|(apply bB<;>apply Eq.refl)|(apply aW<;>apply Eq.refl)|(apply b6;apply Eq.refl)|(apply b7;apply Eq.refl)|(apply aN;intro _;(first|(apply aA<;>apply Eq.refl)|(apply aG<;>apply Eq.refl)|(apply aH<;>apply Eq.refl)|(apply aD<;>apply Eq.refl)|(apply aB<;>apply Eq.refl)|(apply aX<;>apply Eq.refl)|(apply bj<;>apply Eq.refl)|(apply ah<;>(first|apply Eq.refl|omega))|(apply ba<;>apply Eq.refl)|(apply bR<;>apply Eq.refl)|(apply bX<;>apply Eq.refl)|(apply cq<;>(first|apply Eq.refl|omega))|(apply aq<;>apply Eq.refl)|(apply aM<;>apply Eq.refl)|(apply v7;apply Eq.refl;apply Eq.refl;apply Eq.refl;apply Eq.refl;kernel_rfl))))
  |(apply fj;(first|(apply ab;apply Eq.refl)|(apply ae;apply Eq.refl;apply Eq.refl;apply Eq.refl));(first|(apply cJ<;>apply Eq.refl)|(apply dT<;>apply Eq.refl)))
  |(apply cM;apply Eq.refl;intro _;rotate_left 1;intro _;rotate_left 1)
  |(apply fq;apply Eq.refl;intro _;rotate_left 1;intro _;rotate_left 1)
  |(apply ox;apply Eq.refl;intro _;rotate_left 1;intro _;rotate_left 1))
 all_goals try simp only[Int.toNat_natCast]at*
 all_goals try (((try apply aL);first|(apply iG;apply Eq.refl;apply Eq.refl;try apply Eq.refl));symm;apply decide_eq_false;apply hne2;intro e;simp_all;done)
 ·refine⟨j+1,⟨by omega,fun i hi=> ?_⟩,by omega,(by apply bH;refine⟨?_, ?_, ?_, ?_, ?_⟩<;>repeat' (first|exact trivial|apply And.intro|apply Eq.refl|(apply gv;apply Eq.refl;first|omega|assumption)|(apply gL;apply Eq.refl;repeat' (first|apply Eq.refl|apply cd|(apply cf;first|apply Eq.refl|omega|assumption)))))⟩
  rcases Nat.lt_or_eq_of_le (Nat.le_of_lt_succ hi)with h1|h1
  ·exact hallj i h1
  ·subst h1
   simp only[Bool.and_true,Bool.and_eq_true,decide_eq_true_eq]at*
   exact LG (by simp_all) (by simp_all)
 ·refine⟨k+1,⟨by omega,fun i hi=> ?_⟩,by omega,(by apply bH;refine⟨?_, ?_, ?_, ?_, ?_⟩<;>repeat' (first|exact trivial|apply And.intro|apply Eq.refl|(apply gv;apply Eq.refl;first|omega|assumption)|(apply gL;apply Eq.refl;repeat' (first|apply Eq.refl|apply cd|(apply cf;first|apply Eq.refl|omega|assumption)))))⟩
  rcases Nat.lt_or_eq_of_le (Nat.le_of_lt_succ hi)with h1|h1
  ·exact hall i h1
  ·subst h1
   exact Jc (by assumption) (by assumption) hp.1 hp.2 (pL (by omega) fun i h1=>hallj i (by omega))
end Go.Proofs.YtafnhieaeejlcaaDoor
namespace Go.Proofs.YtafnhieaeejlcaaDoor
open Go Go.Ab
set_option maxRecDepth 100000
set_option maxHeartbeats 4000000
attribute [local irreducible] W WL eh kL fe ee gN WG FQ Want jE WI pE fR eA
def bE(way len m:Int):List Hold→Int
 |[]=>len
 |h::hs=>if h.u>m then br way len h.a else bE way len m hs
theorem HD{way len m:Int}{hs:List Hold}{k:Nat}(hi:bE way len m (hs.drop k)=bE way len m hs)(h:¬k<hs.length):len=bE way len m hs:=by
 rw[←hi,List.drop_eq_nil_of_le (by omega)];rfl
theorem GY{way len m:Int}{hs:List Hold}{k:Nat}(hi:bE way len m (hs.drop k)=bE way len m hs)(h:k<hs.length)(h2:(hs.getD k default).u>m):
 br way len (hs.getD k default).a=bE way len m hs:=by
 rw[←hi,fg _ _ h,bE,if_pos h2]
theorem Dz{way len m:Int}{hs:List Hold}{k:Nat}(hi:bE way len m (hs.drop k)=bE way len m hs)(h:k<hs.length)(h1:¬(hs.getD k default).u>m):
 bE way len m (hs.drop (k+1))=bE way len m hs:=by
 rw[←hi,fg _ _ h,bE,if_neg h1]
theorem NJ(t:Truck)(len m:Int)(hl:1≤len)(hl2:len≤100000)(ho:A7 len t.holds):au cK 116 [.agg (fw t len), .int .i64 m] (.int .i64 (bE t.way len m t.holds)):=by
 refine aC (fn:=Tryd.f116) Tryd.func116 rfl (by kernel_rfl) rfl ?_ ?_ ?_
 ·exact af.cons (.agg _ (gV t len)) (af.cons (.int _ _) af.nil)
 ·exact .int _ _
 intro w κ
 have hl8:=ho.1
 repeat' (first
  |(apply bU;apply Eq.refl;apply Eq.refl;(first|(apply aA<;>apply Eq.refl)|(apply aG<;>apply Eq.refl)|(apply aH<;>apply Eq.refl)|(apply aD<;>apply Eq.refl)|(apply aB<;>apply Eq.refl)|(apply ah<;>(first|apply Eq.refl|omega))|(apply ba<;>apply Eq.refl)|(apply cq<;>(first|apply Eq.refl|omega))|(apply aq<;>apply Eq.refl)|(apply aM<;>apply Eq.refl)))
  |apply aZ
  |apply ak
  |apply an
  |apply aE
  |apply bn
  |apply cg
  |apply aF
  |apply cN
  |apply aw
  |apply aS
  |apply bf
  |apply aY
  |apply aR
  |(apply bZ;apply Eq.refl;(first|(apply aT<;>apply Eq.refl)|(apply aO<;>apply Eq.refl)|(apply bM<;>apply Eq.refl)))
  |(apply cM;apply Eq.refl;intro _;rotate_left 1;intro _;rotate_left 1))
 refine dI [1,2,9,10] [2] (fun k:Nat=>[(11, .int .i64 k)]) (fun _=>[]) (fun _=>[]) (fun k=>k≤t.holds.length∧bE t.way len m (t.holds.drop k)=bE t.way len m t.holds) (fun k=>t.holds.length-k) 0 ⟨Nat.zero_le _,rfl⟩ (by refine⟨?_, ?_, ?_⟩<;>repeat' (first|exact trivial|apply And.intro|apply Eq.refl|(apply gv;apply Eq.refl;first|omega|assumption)|(apply gL;apply Eq.refl;repeat' (first|apply Eq.refl|apply cd|(apply cf;first|apply Eq.refl|omega|assumption))))) (fun k h hi=> ?_)
 have hk:=hi.1
 have hb:∀hk' :(k:Int)<t.holds.length,1≤(t.holds.getD (k:Int).toNat default).a∧(t.holds.getD (k:Int).toNat default).a≤len-1:=fun h=>by
  have:=ho.2 k (by omega);simp only[Int.toNat_natCast];omega
 repeat' (first
  |(apply bU;apply Eq.refl;apply Eq.refl;(first|(apply aA<;>apply Eq.refl)|(apply aG<;>apply Eq.refl)|(apply aH<;>apply Eq.refl)|(apply aD<;>apply Eq.refl)|(apply aB<;>apply Eq.refl)|(apply ah<;>(first|apply Eq.refl|omega))|(apply ba<;>apply Eq.refl)|(apply cq<;>(first|apply Eq.refl|omega))|(apply aq<;>apply Eq.refl)|(apply aM<;>apply Eq.refl)))
  |apply aZ
  |apply ak
  |apply an
  |apply aE
  |apply bn
  |apply cg
  |apply aF
  |apply cN
  |apply aw
  |apply aS
  |apply bf
  |apply aY
  |apply aR
  |(apply ay;apply Eq.refl;apply Eq.refl;rotate_left 1;apply Eq.refl;rotate_right 1;exact(IX t len (t.holds.getD (k:Int).toNat default).a (by have:=hb (by assumption);omega) (by have:=hb (by assumption);omega) (by omega) (by omega));apply Eq.refl)
  |(apply bZ;apply Eq.refl;(first|(apply aT<;>apply Eq.refl)|(apply aO<;>apply Eq.refl)|(apply bM<;>apply Eq.refl)))
  |(apply cM;apply Eq.refl;intro _;rotate_left 1;intro _;rotate_left 1))
 all_goals try simp only[Int.toNat_natCast]at*
 all_goals first
  |(((try apply aL);first|(apply eY;apply Eq.refl;apply Eq.refl;try apply Eq.refl));exact GY hi.2 (by omega) (by assumption))
  |(((try apply aL);first|(apply eY;apply Eq.refl;apply Eq.refl;try apply Eq.refl));exact HD hi.2 (by omega))
  |(refine⟨k+1,⟨by omega,Dz hi.2 (by omega) (by omega)⟩,by omega,(by apply bH;refine⟨?_, ?_, ?_, ?_, ?_⟩<;>repeat' (first|exact trivial|apply And.intro|apply Eq.refl|(apply gv;apply Eq.refl;first|omega|assumption)|(apply gL;apply Eq.refl;repeat' (first|apply Eq.refl|apply cd|(apply cf;first|apply Eq.refl|omega|assumption)))))⟩;done)
def ng(way len:Int)(hs:List Hold):Prop:=hs.Pairwise fun a b=>br way len a.a<br way len b.a
theorem uQ{way len gone m:Int}:∀{hs:List Hold},gone≤bE way len m hs→eB way len gone m hs=bE way len m hs
 |[],_=>rfl
 |h::hs,hg=>by
  simp only[bE,eB]at hg⊢
  by_cases e:h.u>m
  ·rw[if_pos e]at hg⊢;rw[if_pos ⟨hg,e⟩]
  ·rw[if_neg e]at hg⊢;rw[if_neg (fun h=>e h.2)];exact uQ hg
theorem nF{way len m x:Int}:∀{hs:List Hold},x≤len→(∀h∈hs,x≤br way len h.a)→x≤bE way len m hs
 |[],h,_=>h
 |h::hs,h1,h2=>by
  simp only[bE]
  split
  ·exact h2 h (List.mem_cons_self ..)
  ·exact nF h1 fun y hy=>h2 y (List.mem_cons_of_mem _ hy)
theorem wQ{way len m m' :Int}(hm:m≤m'):∀{hs:List Hold},ng way len hs→(∀h∈hs,br way len h.a≤len)→bE way len m hs≤bE way len m' hs
 |[],_,_=>Int.le_refl _
 |h::hs,h1,h2=>by
  obtain⟨h3,h4⟩:=List.pairwise_cons.1 h1
  have hl:=h2 h (List.mem_cons_self ..)
  simp only[bE]
  by_cases e:h.u>m
  ·rw[if_pos e]
   by_cases e' :h.u>m'
   ·rw[if_pos e'];exact Int.le_refl _
   ·rw[if_neg e'];exact nF hl fun y hy=>Int.le_of_lt (h3 y hy)
  ·rw[if_neg e,if_neg (by omega)];exact wQ hm h4 fun y hy=>h2 y (List.mem_cons_of_mem _ hy)
theorem jn{way len:Int}{h:Hold}(h1:1≤h.a)(h2:h.a≤len-1):1≤br way len h.a∧br way len h.a≤len-1:=by
 unfold br;split<;>omega
theorem iX{t:Truck}{len pace:Int}(hl:1≤len)(ho:A7 len t.holds)(hso:ng t.way len t.holds)(hp:1≤pace):∀k,dz t len pace k≤bE t.way len (t.start+k) t.holds
 |0=>by
  refine Int.le_trans (show dz t len pace 0≤1 from by simp only[dz];omega) (nF hl fun h hh=> ?_)
  have:=ho.mem h hh
  exact(jn this.1 this.2.1).1
 |k+1=>by
  have ih:=iX hl ho hso hp k
  simp only[dz,ix]
  rw[uQ ih]
  refine Int.le_trans (Int.min_le_right _ _) (wQ (by push_cast;omega) hso fun h hh=> ?_)
  have:=ho.mem h hh
  have:=jn (way:=t.way) this.1 this.2.1
  omega
theorem eS{t:Truck}{len pace:Int}(hl:1≤len)(ho:A7 len t.holds)(hso:ng t.way len t.holds)(hp:1≤pace)(k:Nat):dz t len pace (k+1)=min (dz t len pace k+pace) (bE t.way len (t.start+k) t.holds):=by
 simp only[dz,ix]
 rw[uQ (iX hl ho hso hp k)]
end Go.Proofs.YtafnhieaeejlcaaDoor
namespace Go.Proofs.YtafnhieaeejlcaaDoor
open Go Go.Ab
set_option maxRecDepth 100000
set_option maxHeartbeats 4000000
attribute [local irreducible] W WL eh kL fe ee gN WG FQ Want jE WI pE fR eA
structure eZ (len:Int) (t:Truck):Prop where
 l1:1≤len
 l2:len≤100000
 s1:0≤t.start
 s2:t.start≤10000
 p1:1≤t.lo
 p2:t.lo≤t.hi
 p3:t.hi≤1000
 d1:len≤1000*t.lo
 ho:A7 len t.holds
 so:ng t.way len t.holds
theorem eZ.tok{len:Int}{t:Truck}(h:eZ len t)(c:Convoy)(hc:c.len=len):xS c t:=by
 subst hc;exact⟨h.l1,h.l2,h.s1,h.s2,h.p1,h.p2,h.p3,h.d1,h.ho⟩
theorem eV{len:Int}{t:Truck}(h:eZ len t){pace:Int}(hp:t.lo≤pace):dz t len pace (cj t len pace)=len∧(∀j,j<cj t len pace→dz t len pace j≠len)∧cj t len pace≤11000:=
 lR (c:=⟨len,0,0,[]⟩) (h.tok _ rfl) hp
def gone(t:Truck)(len:Int)(k:Nat):Span:=⟨dz t len t.lo k,dz t len t.hi k⟩
def Nu(t:Truck)(len:Int)(k:Nat):List D:=[.int .i64 (t.start+k), .agg (bA (gone t len k))]
theorem Ec{E:Env}{k:Nat}{Q:Nat→Bool→Exit→St→Prop}{S:St}{ops:Array Oper}{o:Oper}{rest:List Oper}{x:Operand}{xs:Array Operand}{ts:Array TypeId}{d:Nat}{A:List D}(ho:o.op= .call {callee:= .value x,args:=xs,argTypes:=ts})(hg:o.guard=none)(hd:o.dst=some d)
 (hx:S.ev (E.X k false fun _=>False) x= .yl E.l)(hA:xs.toList.map (S.ev (E.X k false fun _=>False))=A)(hv:xx S [] A (E.its k))(hk:k<E.n)
 (hT:pE E ops rest Q (k+1) false (S.set d (.bool true)))(hF:pE E ops rest Q (k+1) true (S.set d (.bool false))):pE E ops (o::rest) Q k false S:=zi (ps:=[]) ho hg hd hx hA hv hk hT hF
theorem Km{S:St}{a b c:Int}:xx S [] [.int .i64 a, .agg [.int .i64 b, .int .i64 c]] [.int .i64 a, .agg [.int .i64 b, .int .i64 c]]:=
 .cons _ _ _ _ (.conv _ _ fun κ γ sv v h κ' γ' sv' =>by cases h;exact .int _ _) (.cons _ _ _ _ (.conv _ _ fun κ γ sv v h κ' γ' sv' =>by
  cases h with
  |agg _ vs hl=>
   cases hl with
   |cons _ _ _ _ h1 h2=>
    cases h2 with
    |cons _ _ _ _ h3 h4=>
     cases h4;cases h1;cases h3
     exact .agg _ _ (.cons _ _ _ _ (.int _ _) (.cons _ _ _ _ (.int _ _) .nil))) .nil)
theorem JP(t:Truck)(len:Int)(k:Nat):af (Nu t len k):=af.cons (.int _ _) (af.cons (.agg _ (cL _)) af.nil)
theorem i125(t:Truck)(len:Int)(h:eZ len t):Ns cK 125 [.rp (fw t len) 0] (cj t len t.lo+1) (Nu t len):=by
 obtain⟨l1,l2,s1,s2,p1,p2,p3,d1,ho,so⟩:=h
 have h:eZ len t:=⟨l1,l2,s1,s2,p1,p2,p3,d1,ho,so⟩
 obtain⟨e1,e2,e3⟩:=eV h (Int.le_refl t.lo)
 have bnd:=fun k=>dK (t:=t) (pace:=t.lo) l1 ho p1 k
 have bnd2:=fun k=>dK (t:=t) (pace:=t.hi) l1 ho (by omega) k
 have nx1:=fun k=>eS (t:=t) (pace:=t.lo) l1 ho so p1 k
 have nx2:=fun k=>eS (t:=t) (pace:=t.hi) l1 ho so (by omega) k
 refine yN (fn:=Tryd.f125) Tryd.func125 rfl (by kernel_rfl) rfl (af.cons (.rp _ _ (gV t len)) af.nil) (fun k _=>JP t len k) rfl ?_
 rintro ⟨Z,nt,w,κ,l,n,vals,J,Jx,w1,κ1,ex,γp,svp,P,hw,hex,hκ,hκ1,hJ,hJx,hY⟩ rfl rfl rfl rfl
 repeat' (first
  |(apply bU;apply Eq.refl;apply Eq.refl;(first|(apply aA<;>apply Eq.refl)|(apply aG<;>apply Eq.refl)|(apply aH<;>apply Eq.refl)|(apply aD<;>apply Eq.refl)|(apply aB<;>apply Eq.refl)|(apply aX<;>apply Eq.refl)|(apply di<;>apply Eq.refl)|(apply iN<;>apply Eq.refl)|(apply ah<;>(first|apply Eq.refl|omega))|(apply bR<;>apply Eq.refl)|(apply bX<;>apply Eq.refl)|(apply aq<;>apply Eq.refl)|(apply aM<;>apply Eq.refl)|(apply bJ<;>apply Eq.refl)|(apply j7<;>apply Eq.refl)|(apply HR<;>apply Eq.refl)))
  |apply ak
  |apply aE
  |apply aS
  |apply bf
  |(apply bD;apply Eq.refl)
  |(apply bZ;apply Eq.refl;(first|(apply aO<;>apply Eq.refl)|(apply bM<;>apply Eq.refl)))
  |(apply dg;apply Eq.refl;apply Eq.refl;apply Eq.refl)
  |(apply eo;apply Eq.refl;apply Eq.refl;apply Eq.refl;apply Eq.refl;apply Eq.refl)
  |apply DH
  |apply u9
  |apply x7
  |apply Gr
  |apply zA
  |apply u4
  |(apply El;intro _)
  |(apply HP;intro _)
  |(apply cM;apply Eq.refl;intro _;rotate_left 1;intro _;rotate_left 1))
 refine Ip [0,1,3] [] (α:=Nat) (fun k=>(k,false)) (fun k=>[(4, .int .i64 (t.start+k))]) (fun _=>[(3,1)]) (fun k=>[(3, .box (bA (gone t len k)))]) (fun k=>k≤cj t len t.lo) (fun k=>cj t len t.lo-k) 0 (Nat.zero_le _) rfl (by refine⟨?_, ?_, ?_⟩<;>repeat' (first|exact trivial|apply And.intro|apply Eq.refl|(apply gv;apply Eq.refl;first|omega|assumption)|(apply gL;apply Eq.refl;repeat' (first|apply Eq.refl|apply cd|(apply cf;first|apply Eq.refl|omega|assumption))))) (fun k g hk=> ?_)
 have g1:0≤(gone t len k).lo∧(gone t len k).lo≤len:=bnd k
 have g2:0≤(gone t len k).hi∧(gone t len k).hi≤len:=bnd2 k
 have nx1k:(gone t len (k+1)).lo=min ((gone t len k).lo+t.lo) (bE t.way len (t.start+k) t.holds):=nx1 k
 have nx2k:(gone t len (k+1)).hi=min ((gone t len k).hi+t.hi) (bE t.way len (t.start+k) t.holds):=nx2 k
 have gh:k=cj t len t.lo→(gone t len k).lo=len:=fun e=>by rw[e];exact e1
 have gn:k≠cj t len t.lo→(gone t len k).lo≠len:=fun e=>e2 k (by omega)
 have st:=nF (way:=t.way) (m:=t.start+k) (x:=1) l1 (fun h hh=>(jn (ho.mem h hh).1 (ho.mem h hh).2.1).1)
 repeat' (first
  |(apply yY (id:=2);apply HA 3;intro _)
  |(refine And.intro rfl ?_;apply Ec;apply Eq.refl;apply Eq.refl;apply Eq.refl;apply Eq.refl;apply Eq.refl;exact Km;(show k<cj t len t.lo+1;omega))
  |(apply IV;intro _)
  |(apply bU;apply Eq.refl;apply Eq.refl;(first|(apply aA<;>apply Eq.refl)|(apply aG<;>apply Eq.refl)|(apply aH<;>apply Eq.refl)|(apply aD<;>apply Eq.refl)|(apply aB<;>apply Eq.refl)|(apply aX<;>apply Eq.refl)|(apply di<;>apply Eq.refl)|(apply iN<;>apply Eq.refl)|(apply ah<;>(first|apply Eq.refl|omega))|(apply bR<;>apply Eq.refl)|(apply bX<;>apply Eq.refl)|(apply aq<;>apply Eq.refl)|(apply aM<;>apply Eq.refl)|(apply bJ<;>apply Eq.refl)|(apply j7<;>apply Eq.refl)|(apply HR<;>apply Eq.refl)))
  |apply ak
  |apply aE
  |apply aS
  |apply bf
  |(apply bD;apply Eq.refl)
  |(apply ay;apply Eq.refl;apply Eq.refl;rotate_left 1;apply Eq.refl;rotate_right 1;exact(NJ t len (t.start+k) l1 l2 ho);apply Eq.refl)
  |(apply bZ;apply Eq.refl;(first|(apply aO<;>apply Eq.refl)|(apply bM<;>apply Eq.refl)))
  |(apply dg;apply Eq.refl;apply Eq.refl;apply Eq.refl)
  |(apply eo;apply Eq.refl;apply Eq.refl;apply Eq.refl;apply Eq.refl;apply Eq.refl)
  |apply DH
  |apply u9
  |apply x7
  |apply Gr
  |apply zA
  |apply u4
  |(apply El;intro _)
  |(apply HP;intro _)
  |(apply cM;apply Eq.refl;intro _;rotate_left 1;intro _;rotate_left 1))
 ·exact⟨k+1,by omega,by omega,rfl,fun U=>(by apply bH;refine⟨?_, ?_, ?_, ?_, ?_⟩<;>repeat' (first|exact trivial|apply And.intro|apply Eq.refl|(apply gv;apply Eq.refl;first|omega|assumption)|(apply gL;apply Eq.refl;repeat' (first|apply Eq.refl|apply cd|(apply cf;first|apply Eq.refl|omega|assumption)))))⟩
 ·exact⟨.inl rfl,fun _=>by(show k+1=_);omega,by(show k+1≤_);omega⟩
 ·exact⟨.inl rfl,fun h=>(by cases h),by(show k+1≤_);omega⟩
theorem Rc(t:Truck)(len:Int):au cK 115 [.agg (fw t len)] (.fn 125 [.rp (fw t len) 0]):=by
 refine aC (fn:=Tryd.f115) Tryd.func115 rfl (by kernel_rfl) rfl ?_ ?_ ?_
 ·exact af.cons (.agg _ (gV t len)) af.nil
 ·exact .fn _ _ (af.cons (.rp _ _ (gV t len)) af.nil)
 intro w κ
 repeat' (first
  |(apply bU;apply Eq.refl;apply Eq.refl;(first|(apply Oe<;>apply Eq.refl)|(apply Qm<;>apply Eq.refl)|(apply PV<;>apply Eq.refl)))
  |apply aZ
  |apply ak
  |apply an
  |apply aE
  |apply aY
  |(apply bZ;apply Eq.refl;(first|(apply aT<;>apply Eq.refl))))
 refine ns (qc 2 0 (s:=1) ⟨rfl,fun _ h=>h⟩ rfl rfl rfl rfl rfl) (aL ?_)
 ((try apply aL);first|(apply MT;apply Eq.refl;apply Eq.refl;try apply Eq.refl))
theorem Mw(c:Convoy)(k:Nat)(b:Bool)(hk:k<c.trucks.length):au cK 84 [.agg (aI c), .int .i64 k, .bool b] (.agg (fw (bb (c.trucks.getD k default) b) c.len)):=by
 refine aC (fn:=Tryd.f84) Tryd.func84 rfl (by kernel_rfl) rfl ?_ ?_ ?_
 ·exact af.cons (.agg _ (bm c)) (af.cons (.int _ _) (af.cons (.bool _) af.nil))
 ·exact .agg _ (gV _ _)
 intro w κ
 cases b
 ·repeat' (first
  |(apply bU;apply Eq.refl;apply Eq.refl;(first|(apply aA<;>apply Eq.refl)|(apply aH<;>apply Eq.refl)|(apply aD<;>apply Eq.refl)|(apply aX<;>apply Eq.refl)|(apply cq<;>(first|apply Eq.refl|omega))|(apply aq<;>apply Eq.refl)|(apply aM<;>apply Eq.refl)))
  |apply aZ
  |apply ak
  |apply an
  |apply aE
  |apply aS
  |apply aY
  |(apply bu;apply Eq.refl)
  |(apply bD;apply Eq.refl)
  |(apply bZ;apply Eq.refl;(first|(apply aT<;>apply Eq.refl)|(apply aO<;>apply Eq.refl)|(apply bM<;>apply Eq.refl)))
  |apply ax
  |(apply bw;kernel_rfl)
  |(apply dx;(first|(apply ab;apply Eq.refl)|(apply ae;apply Eq.refl;apply Eq.refl;apply Eq.refl));apply Eq.refl;first|(apply bB<;>apply Eq.refl)|(apply aW<;>apply Eq.refl)|(apply b6;apply Eq.refl)|(apply b7;apply Eq.refl)|(apply aN;intro _;(first|(apply aA<;>apply Eq.refl)|(apply aH<;>apply Eq.refl)|(apply aD<;>apply Eq.refl)|(apply aX<;>apply Eq.refl)|(apply cq<;>(first|apply Eq.refl|omega))|(apply aq<;>apply Eq.refl)|(apply aM<;>apply Eq.refl))))
  |(apply fj;(first|(apply ab;apply Eq.refl)|(apply ae;apply Eq.refl;apply Eq.refl;apply Eq.refl));(first|(apply cJ<;>apply Eq.refl)|(apply dT<;>apply Eq.refl))))
  ((try apply aL);first|(apply js;apply Eq.refl;apply Eq.refl;apply Eq.refl;apply Eq.refl;apply Eq.refl;apply Eq.refl;apply Eq.refl;apply Eq.refl;try apply Eq.refl))
 ·repeat' (first
  |(apply bU;apply Eq.refl;apply Eq.refl;(first|(apply aA<;>apply Eq.refl)|(apply aH<;>apply Eq.refl)|(apply aD<;>apply Eq.refl)|(apply aX<;>apply Eq.refl)|(apply cq<;>(first|apply Eq.refl|omega))|(apply aq<;>apply Eq.refl)|(apply aM<;>apply Eq.refl)))
  |apply aZ
  |apply ak
  |apply an
  |apply aE
  |apply aS
  |apply aY
  |(apply bu;apply Eq.refl)
  |(apply bD;apply Eq.refl)
  |(apply bZ;apply Eq.refl;(first|(apply aT<;>apply Eq.refl)|(apply aO<;>apply Eq.refl)|(apply bM<;>apply Eq.refl)))
  |apply ax
  |(apply bw;kernel_rfl)
  |(apply dx;(first|(apply ab;apply Eq.refl)|(apply ae;apply Eq.refl;apply Eq.refl;apply Eq.refl));apply Eq.refl;first|(apply bB<;>apply Eq.refl)|(apply aW<;>apply Eq.refl)|(apply b6;apply Eq.refl)|(apply b7;apply Eq.refl)|(apply aN;intro _;(first|(apply aA<;>apply Eq.refl)|(apply aH<;>apply Eq.refl)|(apply aD<;>apply Eq.refl)|(apply aX<;>apply Eq.refl)|(apply cq<;>(first|apply Eq.refl|omega))|(apply aq<;>apply Eq.refl)|(apply aM<;>apply Eq.refl))))
  |(apply fj;(first|(apply ab;apply Eq.refl)|(apply ae;apply Eq.refl;apply Eq.refl;apply Eq.refl));(first|(apply cJ<;>apply Eq.refl)|(apply dT<;>apply Eq.refl))))
  refine ns (ze 6 (l' :=fw (bb (c.trucks.getD k default) true) c.len) rfl ⟨.inl rfl, .inl rfl, .inl rfl, .inl rfl, .inr ⟨rfl,_,_,rfl⟩, .inl rfl,trivial⟩) (aL ?_)
  ((try apply aL);first|(apply js;apply Eq.refl;apply Eq.refl;apply Eq.refl;apply Eq.refl;apply Eq.refl;apply Eq.refl;apply Eq.refl;apply Eq.refl;try apply Eq.refl))
def PC(t:Truck)(len:Int):D:= .sl 2 (cj t len t.lo+1) fun k=>bA (gone t len k)
def dj(t:Truck)(len:Int):List D:=fw t len++[PC t len]
theorem fb(t:Truck)(len:Int):af (dj t len):=fun d hd=>by
 rcases List.mem_append.1 hd with h|h
 ·exact gV t len d h
 ·simp at h;subst h;exact .sl _ _ _ fun _ _ d hd=>cL _ d hd
theorem Md(t:Truck)(len:Int)(h:eZ len t):au cK 83 [.agg (fw t len)] (.agg (dj t len)):=by
 have hn:=(eV h (Int.le_refl t.lo)).2.2
 refine aC (fn:=Tryd.f83) Tryd.func83 rfl (by kernel_rfl) rfl ?_ ?_ ?_
 ·exact af.cons (.agg _ (gV t len)) af.nil
 ·exact .agg _ (fb _ _)
 intro w κ
 repeat' (first
  |(apply bU;apply Eq.refl;apply Eq.refl;(first|(apply aH<;>apply Eq.refl)|(apply aD<;>apply Eq.refl)|(apply aq<;>apply Eq.refl)|(apply bJ<;>apply Eq.refl)))
  |apply aZ
  |apply ak
  |apply an
  |apply aE
  |apply aF
  |apply aY
  |apply aR
  |(apply ay;apply Eq.refl;apply Eq.refl;rotate_left 1;apply Eq.refl;rotate_right 1;exact(Rc t len);apply Eq.refl)
  |(apply bZ;apply Eq.refl;(first|(apply aT<;>apply Eq.refl)|(apply aO<;>apply Eq.refl)|(apply bM<;>apply Eq.refl)|(apply pY<;>apply Eq.refl))))
 refine qI (K1 3 6 50 47 2 (fun k=>bA (gone t len k)) rfl rfl rfl rfl rfl) ?_
 refine Dd (Nu t len) rfl (i125 t len h) (fun k _=>rfl) [1,2] (fun k=>[(3,1),(50,k+1)]) (fun k=>[(3, .box (fw t len++[.os 50 (k+1)])),(50, .arr 47 2 k (fun k=>bA (gone t len k)))]) (fun _ _=>False) ⟨⟨rfl,rfl,trivial⟩,rfl,rfl,trivial⟩ ?_ ?_ (fun _ h=>h.elim) (fun _ _ h=>h.elim) (fun _ _ h=>h.elim)
 ·intro k g hk hg κp γp svp T l Φ cl
  repeat' (first
  |(apply bU;apply Eq.refl;apply Eq.refl;(first|(apply aH<;>apply Eq.refl)|(apply aD<;>apply Eq.refl)|(apply aq<;>apply Eq.refl)|(apply bJ<;>apply Eq.refl)))
  |apply aZ
  |apply ak
  |apply an
  |apply aE
  |apply aF
  |apply aY
  |apply aR
  |(apply bZ;apply Eq.refl;(first|(apply aT<;>apply Eq.refl)|(apply aO<;>apply Eq.refl)|(apply bM<;>apply Eq.refl)|(apply pY<;>apply Eq.refl))))
  refine And.intro rfl (fun Φ' cl' => ?_)
  repeat' (first
  |(apply bU;apply Eq.refl;apply Eq.refl;(first|(apply aH<;>apply Eq.refl)|(apply aD<;>apply Eq.refl)|(apply aq<;>apply Eq.refl)|(apply bJ<;>apply Eq.refl)))
  |apply aZ
  |apply ak
  |apply an
  |apply aE
  |apply aF
  |apply aY
  |apply aR
  |(apply bZ;apply Eq.refl;(first|(refine yF (f' :=fun k=>bA (gone t len k)) rfl rfl rfl rfl rfl rfl rfl rfl rfl rfl rfl rfl rfl rfl rfl (by show(k+1)*16≤_;omega) (by omega) rfl (fun i hi=>rfl) (fun i hi=>by(obtain rfl:i=0:=by omega);rfl))|(apply aT<;>apply Eq.refl)|(apply aO<;>apply Eq.refl)|(apply bM<;>apply Eq.refl)|(apply pY<;>apply Eq.refl))))
  exact(by apply M6;refine⟨?_, ?_, ?_⟩<;>repeat' (first|exact trivial|apply And.intro|apply Eq.refl|(apply gv;apply Eq.refl;first|omega|assumption)|(apply gL;apply Eq.refl;repeat' (first|apply Eq.refl|apply cd|(apply cf;first|apply Eq.refl|omega|assumption)))))
 ·intro g
  repeat' (first
  |(apply bU;apply Eq.refl;apply Eq.refl;(first|(apply aH<;>apply Eq.refl)|(apply aD<;>apply Eq.refl)|(apply aq<;>apply Eq.refl)|(apply bJ<;>apply Eq.refl)))
  |apply aZ
  |apply ak
  |apply an
  |apply aE
  |apply aF
  |apply aY
  |apply aR
  |(apply bZ;apply Eq.refl;(first|(apply aT<;>apply Eq.refl)|(apply aO<;>apply Eq.refl)|(apply bM<;>apply Eq.refl)|(apply pY<;>apply Eq.refl))))
  refine ns (kl 2 6 (s:=50) rfl rfl rfl rfl rfl) (aL ?_)
  ((try apply aL);first|(apply js;apply Eq.refl;apply Eq.refl;apply Eq.refl;apply Eq.refl;apply Eq.refl;apply Eq.refl;apply Eq.refl;apply Eq.refl;try apply Eq.refl))
end Go.Proofs.YtafnhieaeejlcaaDoor
