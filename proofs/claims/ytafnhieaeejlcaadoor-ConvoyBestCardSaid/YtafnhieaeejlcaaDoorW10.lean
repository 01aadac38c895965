/- Walks by computing: what each function of the program that the laws reach gives for what it gets, as plain Lean, and that it is so; without a condition but those that stand in each theorem. -/
import Derived.Test.YtafnhieaeejlcaaDoorW1
import Derived.Test.YtafnhieaeejlcaaDoorW2
import Derived.Test.YtafnhieaeejlcaaDoorW3
import Derived.Test.YtafnhieaeejlcaaDoorW4
import Derived.Test.YtafnhieaeejlcaaDoorW5
import Derived.Test.YtafnhieaeejlcaaDoorW6
import Derived.Test.YtafnhieaeejlcaaDoorW7
import Derived.Test.YtafnhieaeejlcaaDoorW8
import Derived.Test.YtafnhieaeejlcaaDoorW9
set_option linter.all false
namespace Go.Proofs.YtafnhieaeejlcaaDoor
open Go Go.Ab
set_option maxRecDepth 100000
set_option maxHeartbeats 4000000
attribute [local irreducible] W WL eu kX fh eo gR WG FQ Want jO WI pM fQ eC
def jF(keep fail:Nat→Int)(m:Int):Nat→Option Int
 |0=>some 0
 |k+1=>match jF keep fail m k with
  |none=>none
  |some c=>if keep k≤m then some c else if fail k>m then none else some (c+1)
def kW(keep fail:Nat→Int)(n:Nat)(fails m:Int):Bool:=match jF keep fail m n with|none=>false|some c=>decide (c≤fails)
theorem Ho{keep fail:Nat→Int}{m:Int}{k:Nat}(h:jF keep fail m k=none):∀n,k≤n→jF keep fail m n=none:=by
 intro n hn
 induction n with
 |zero=>have:k=0:=by omega
        subst this;exact h
 |succ n ih=>
  by_cases e:k=n+1
  ·subst e;exact h
  ·simp only[jF,ih (by omega)]
theorem yi{keep fail:Nat→Int}{m c:Int}{k:Nat}(h:jF keep fail m k=some c)(h1:keep k≤m):jF keep fail m (k+1)=some c:=by simp only[jF,h,if_pos h1]
theorem GD{keep fail:Nat→Int}{m c:Int}{k:Nat}(h:jF keep fail m k=some c)(h1:¬keep k≤m)(h2:¬fail k>m):jF keep fail m (k+1)=some (c+1):=by simp only[jF,h,if_neg h1,if_neg h2]
theorem Hf{keep fail:Nat→Int}{m c:Int}{k:Nat}(h:jF keep fail m k=some c)(h1:¬keep k≤m)(h2:fail k>m):jF keep fail m (k+1)=none:=by simp only[jF,h,if_neg h1,if_pos h2]
theorem LS{keep fail:Nat→Int}{m c fails:Int}{k n:Nat}(h:jF keep fail m k=some c)(h1:¬keep k≤m)(h2:fail k>m)(hk:k<n):false=kW keep fail n fails m:=by
 simp only[kW,Ho (Hf h h1 h2) n hk]
theorem Jk{keep fail:Nat→Int}{m c fails:Int}{k n:Nat}(h:jF keep fail m k=some c)(hk:k≤n)(h2:¬k<n):decide (c≤fails)=kW keep fail n fails m:=by
 have:k=n:=by omega
 subst this;simp only[kW,h]
theorem GL{keep fail:Nat→Int}{m fails:Int}{n:Nat}(h:∀k,k<n→keep k≤m)(hf:0≤fails):kW keep fail n fails m=true:=by
 have:∀k,k≤n→jF keep fail m k=some 0:=by
  intro k
  induction k with
  |zero=>intro _;rfl
  |succ k ih=>intro hk;exact yi (ih (by omega)) (h k (by omega))
 simp only[kW,this n (Nat.le_refl _)];simpa using hf
def N1(keep fail:Nat→Int)(m:Int)(n:Nat)(x:Nat×Int):Prop:=x.1≤n∧jF keep fail m x.1=some x.2∧0≤x.2∧x.2≤x.1
theorem Pm(keep fail:Nat→Int)(n:Nat)(fails m:Int)(hn:n≤1000):au cJ 118 [.sl 1 n (fun i=>fU (keep i)), .sl 1 n (fun i=>fU (fail i)), .int .i64 fails, .int .i64 m] (.bool (kW keep fail n fails m)):=by
 refine bS (fn:=Tryd.f118) Tryd.func118 rfl (by kernel_rfl) rfl ?_ ?_ ?_
 ·exact af.cons (.sl _ _ _ fun _ _ d hd=>A5 _ d hd) (af.cons (.sl _ _ _ fun _ _ d hd=>A5 _ d hd) (af.cons (.int _ _) (af.cons (.int _ _) af.nil)))
 ·exact .bool _
 intro w κ
 repeat' (first
  |(apply bT;apply TK;apply TK;(first|(apply aB<;>apply TK)|(apply aI<;>apply TK)|(apply aC<;>apply TK)|(apply bm<;>apply TK)|(apply di<;>apply TK)|(apply ah<;>(first|apply TK|omega))|(apply bd<;>apply TK)|(apply cq<;>(first|apply TK|omega))|(apply cQ<;>apply TK)))
  |apply ba
  |apply al
  |apply an
  |apply aG
  |apply bp
  |apply ck
  |apply aF
  |apply cP
  |apply aw
  |apply aS
  |apply bk
  |apply aZ
  |apply aQ
  |(apply cM;apply TK;intro _;rotate_left 1;intro _;rotate_left 1))
 refine jV (α:=Nat×Int) (fun x=>[(0, .sl 1 n (fun i=>fU (keep i))),(1, .sl 1 n (fun i=>fU (fail i))),(2, .int .i64 fails),(3, .int .i64 m),(9, .int .i64 x.2),(10, .int .i64 x.1)]) (fun _=>[])
  (fun _=>[]) (N1 keep fail m n) (fun x=>n-x.1) (0,0) ⟨Nat.zero_le _,rfl,Int.le_refl _,Int.le_refl _⟩ (by refine⟨?_, ?_, ?_⟩<;>repeat' (first|exact trivial|apply And.intro|apply TK)) (fun x h hi=> ?_)
 obtain⟨i1,i2,i3,i4⟩:=hi
 repeat' (first
  |(apply bT;apply TK;apply TK;(first|(apply aB<;>apply TK)|(apply aI<;>apply TK)|(apply aC<;>apply TK)|(apply bm<;>apply TK)|(apply di<;>apply TK)|(apply ah<;>(first|apply TK|omega))|(apply bd<;>apply TK)|(apply cq<;>(first|apply TK|omega))|(apply cQ<;>apply TK)))
  |apply ba
  |apply al
  |apply an
  |apply aG
  |apply bp
  |apply ck
  |apply aF
  |apply cP
  |apply aw
  |apply aS
  |apply bk
  |apply aZ
  |apply aQ
  |(apply cM;apply TK;intro _;rotate_left 1;intro _;rotate_left 1))
 all_goals try simp only[Int.toNat_natCast]at*
 all_goals first
  |(refine iE rfl rfl (LS i2 (by assumption) (by assumption) (by omega));done)
  |(refine iE rfl rfl (Jk i2 i1 (by omega));done)
  |(refine⟨(x.1+1,x.2),⟨by simp only;omega,yi i2 (by assumption),i3,by simp only;omega⟩,by simp only;omega,(by refine⟨?_, ?_, ?_⟩<;>repeat' (first|exact trivial|apply And.intro|apply TK))⟩;done)
  |(refine⟨(x.1+1,x.2+1),⟨by simp only;omega,GD i2 (by assumption) (by assumption),by simp only;omega,by simp only;omega⟩,by simp only;omega,(by refine⟨?_, ?_, ?_⟩<;>repeat' (first|exact trivial|apply And.intro|apply TK))⟩;done)
  |skip
end Go.Proofs.YtafnhieaeejlcaaDoor
namespace Go.Proofs.YtafnhieaeejlcaaDoor
open Go Go.Ab
set_option maxRecDepth 100000
set_option maxHeartbeats 4000000
attribute [local irreducible] W WL eu kX fh eo gR WG FQ Want jO WI pM fQ eC
theorem ue{way len:Int}:∀{hs:List Hold} {p:Option Int},cz way len p hs=0→∀k,k<hs.length→1≤(hs.getD k default).a∧(hs.getD k default).a≤len-1∧0≤(hs.getD k default).u∧(hs.getD k default).u≤10000
 |[],_,_,k,hk=>by simp at hk
 |h::hs,p,h0,k,hk=>by
  rw[eL]at h0
  split at h0
  ·cases h0
  ·rename_i hb
   have hrest:∃p',cz way len p' hs=0:=by
    split at h0
    ·split at h0
     ·cases h0
     ·exact⟨_,h0⟩
    ·exact⟨_,h0⟩
   obtain⟨p',hp'⟩:=hrest
   match k with
   |0=>simp only[List.getD_cons_zero];omega
   |k+1=>simp only[List.getD_cons_succ];exact ue hp' k (by simpa using hk)
theorem JR{c:Convoy}{t:Truck}(h1:1≤c.len)(h2:c.len≤100000)(h:bD c t=0):xw c t:=by
 unfold bD at h
 split at h;·cases h
 split at h;·cases h
 split at h;·cases h
 split at h;·cases h
 split at h;·cases h
 split at h;·cases h
 exact⟨h1,h2,by omega,by omega,by omega,by omega,by omega,by omega,by omega,ue h⟩
structure O4 (c:Convoy):Prop where
 l1:1≤c.len
 l2:c.len≤100000
 g1:1≤c.gap
 g2:c.gap≤100000
 f1:0≤c.fails
 f2:c.fails≤20
 n:c.trucks.length≤20
 t:∀k,k<c.trucks.length→xw c (c.trucks.getD k default)
theorem fx{c:Convoy}:∀{ts:List Truck},c9 c ts=0→∀t∈ts,bD c t=0
 |[],_,t,ht=>by cases ht
 |x::ts,h,t,ht=>by
  unfold c9 at h
  split at h
  ·rename_i hn;exact absurd h hn
  ·rename_i hn
   rcases List.mem_cons.1 ht with rfl|ht
   ·exact Classical.not_not.1 hn
   ·exact fx h t ht
theorem DT{c:Convoy}(h:ai c=0):O4 c:=by
 unfold ai at h
 split at h;·cases h
 split at h;·cases h
 refine⟨by omega,by omega,by omega,by omega,by omega,by omega,by omega,fun k hk=>JR (by omega) (by omega) (fx h _ ?_)⟩
 simp[List.getD,hk]
theorem xw.free{c:Convoy}{t:Truck}(h:xw c t)(b:Bool):xw c (bf t b):=by
 cases b
 ·exact h
 ·exact⟨h.l1,h.l2,h.s1,h.s2,h.p1,h.p2,h.p3,h.d1,Nat.zero_le _,fun k hk=>by cases hk⟩
def cO(c:Convoy)(k:Nat):Int:=(jT c (c.trucks.getD k default)).lo
def eM(c:Convoy)(k:Nat):Int:=(jT c (bf (c.trucks.getD k default) true)).lo
def fA(c:Convoy)(k:Nat):Int:=(jT c (c.trucks.getD k default)).hi
def dy(f:Nat→Int):Nat→Int
 |0=>0
 |k+1=>max (dy f k) (f k)
theorem E7{c:Convoy}{t:Truck}(h:xw c t): -1≤(jT c t).lo∧(jT c t).lo≤21000∧0≤(jT c t).hi∧(jT c t).hi≤21000:=by
 obtain⟨_,_,e3⟩:=lQ h (Int.le_refl t.lo)
 obtain⟨_,_,f3⟩:=lQ h h.p2
 have:=h.s1
 have:=h.s2
 simp only[jT]
 split<;>omega
def jK(c:Convoy):Nat→Nat→Nat
 |0,k=>k
 |n+1,k=>if kW (cO c) (eM c) c.trucks.length c.fails k then k else jK c n (k+1)
def iX(c:Convoy):Span:=⟨jK c 21000 0,dy (fA c) c.trucks.length⟩
theorem xf(c:Convoy){K:Nat}(hK:kW (cO c) (eM c) c.trucks.length c.fails K=true):∀n k,k≤K→K≤k+n→
 (∀j,k≤j→j<jK c n k→kW (cO c) (eM c) c.trucks.length c.fails j=false)∧kW (cO c) (eM c) c.trucks.length c.fails (jK c n k)=true∧jK c n k≤K:=by
 intro n
 induction n with
 |zero=>
  intro k h1 h2
  have:k=K:=by omega
  subst this
  exact⟨fun j a b=>by simp only[jK]at b;omega,hK,Nat.le_refl _⟩
 |succ n ih=>
  intro k h1 h2
  by_cases e:kW (cO c) (eM c) c.trucks.length c.fails k=true
  ·simp only[jK,if_pos e]
   exact⟨fun j a b=>by omega,e,h1⟩
  ·simp only[jK,if_neg e]
   have hne:k≠K:=by intro h;subst h;exact e hK
   obtain⟨a,b,d⟩:=ih (k+1) (by omega) (by omega)
   refine⟨fun j hj hj2=> ?_,b,d⟩
   by_cases ej:j=k
   ·subst ej;simpa using e
   ·exact a j (by omega) hj2
end Go.Proofs.YtafnhieaeejlcaaDoor
namespace Go.Proofs.YtafnhieaeejlcaaDoor
open Go Go.Ab
set_option maxRecDepth 100000
set_option maxHeartbeats 4000000
attribute [local irreducible] W WL eu kX fh eo gR WG FQ Want jO WI pM fQ eC
theorem C6{c:Convoy}(hc:O4 c):kW (cO c) (eM c) c.trucks.length c.fails 21000=true:=
 GL (fun k hk=>(E7 (hc.t k hk)).2.1) hc.f1
theorem vt(c:Convoy)(k:Nat):dy (fA c) (k+1)=max (dy (fA c) k) (jT c (c.trucks.getD (k:Int).toNat default)).hi:=rfl
theorem mX(f:Nat→Int):dy f 0=0:=rfl
attribute [local irreducible] jT bf dy kW jK
theorem Sy(c:Convoy)(hc:O4 c):au cJ 95 [.agg (aL c)] (.agg (bC (iX c))):=by
 refine bS (fn:=Tryd.f95) Tryd.func95 rfl (by kernel_rfl) rfl ?_ ?_ ?_
 ·exact af.cons (.agg _ (bn c)) af.nil
 ·exact .agg _ (cN _)
 intro w κ
 have hn:=hc.n
 have hf1:=hc.f1
 have hf2:=hc.f2
 have hmax0:=mX (fA c)
 repeat' (first
  |(apply bT;apply TK;apply TK;(first|(apply aB<;>apply TK)|(apply aI<;>apply TK)|(apply aH<;>apply TK)|(apply aE<;>apply TK)|(apply aC<;>apply TK)|(apply cR<;>apply TK)|(apply ah<;>(first|apply TK|omega))|(apply bd<;>apply TK)|(apply cq<;>(first|apply TK|omega))|(apply aq<;>apply TK)|(apply aN<;>apply TK)|(apply dL<;>apply TK)|(apply cQ<;>apply TK)|(apply dr<;>apply TK)|(apply dm<;>apply TK)|(apply dt<;>apply TK)))
  |apply ba
  |apply al
  |apply an
  |apply aG
  |apply bp
  |apply aF
  |apply aw
  |apply aS
  |apply bk
  |apply aZ
  |apply aQ
  |(apply bZ;apply TK;(first|(apply aR<;>apply TK)|(apply aP<;>apply TK)|(apply bP<;>apply TK)))
  |apply ay
  |(apply bw;kernel_rfl)
  |(apply dx;(first|(apply ab;apply TK)|(apply ae;apply TK;apply TK;apply TK));apply TK;first|(apply bB<;>apply TK)|(apply aV<;>apply TK)|(apply b8;apply TK)|(apply b7;apply TK)|(apply aO;intro _;(first|(apply aB<;>apply TK)|(apply aI<;>apply TK)|(apply aH<;>apply TK)|(apply aE<;>apply TK)|(apply aC<;>apply TK)|(apply cR<;>apply TK)|(apply ah<;>(first|apply TK|omega))|(apply bd<;>apply TK)|(apply cq<;>(first|apply TK|omega))|(apply aq<;>apply TK)|(apply aN<;>apply TK)|(apply dL<;>apply TK)|(apply cQ<;>apply TK)|(apply dr<;>apply TK)|(apply dm<;>apply TK)|(apply dt<;>apply TK))))
  |(apply ft;(first|(apply ab;apply TK)|(apply ae;apply TK;apply TK;apply TK));(first|(apply cH<;>apply TK)|(apply dV<;>apply TK)|(apply g4<;>apply TK)))
  |(apply cM;apply TK;intro _;rotate_left 1;intro _;rotate_left 1)
  |(apply nJ;apply TK;intro _;rotate_left 1;intro _;rotate_left 1))
 refine qU (qz 4 4 3 1 (fun i=>fU (cO c i)) rfl) ?_
 refine qU (qz 5 5 3 1 (fun i=>fU (eM c i)) rfl) ?_
 refine Fc [1,2,3] [1,2] (fun k:Nat=>[(4, .os 4 (k+1)),(5, .os 5 (k+1)),(6, .int .i64 k)]) (fun k=>[(3,1),(4,k+1),(5,k+1)])
  (fun k=>[(3, .box [.int .i64 0, .int .i64 (dy (fA c) k)]),(4, .arr 3 1 k (fun i=>fU (cO c i))),(5, .arr 3 1 k (fun i=>fU (eM c i)))])
  (fun k=>k≤c.trucks.length) (fun k=>c.trucks.length-k) 0 (Nat.zero_le _) (by refine⟨?_, ?_, ?_⟩<;>repeat' (first|exact trivial|apply And.intro|apply TK|(apply gz;apply TK;first|omega|assumption)|(apply gL;apply TK;repeat' (first|apply TK|apply cf|(apply cj;first|apply TK|omega|assumption))))) (fun k h hi=> ?_)
 have hk:=hi
 have ht:(k:Int)<c.trucks.length→xw c (c.trucks.getD (k:Int).toNat default):=fun h=>hc.t _ (by omega)
 have hmk:=vt c k
 repeat' (first
  |(apply bT;apply TK;apply TK;(first|(apply aB<;>apply TK)|(apply aI<;>apply TK)|(apply aH<;>apply TK)|(apply aE<;>apply TK)|(apply aC<;>apply TK)|(apply cR<;>apply TK)|(apply ah<;>(first|apply TK|omega))|(apply bd<;>apply TK)|(apply cq<;>(first|apply TK|omega))|(apply aq<;>apply TK)|(apply aN<;>apply TK)|(apply dL<;>apply TK)|(apply cQ<;>apply TK)|(apply dr<;>apply TK)|(apply dm<;>apply TK)|(apply dt<;>apply TK)))
  |apply ba
  |apply al
  |apply an
  |apply aG
  |apply bp
  |apply aF
  |apply aw
  |apply aS
  |apply bk
  |apply aZ
  |apply aQ
  |(apply aA;apply TK;apply TK;rotate_left 1;apply TK;rotate_right 1;exact(JW c (c.trucks.getD (k:Int).toNat default) (ht (by assumption)));apply TK)
  |(apply aA;apply TK;apply TK;rotate_left 1;apply TK;rotate_right 1;exact(zp (c.trucks.getD (k:Int).toNat default) true);apply TK)
  |(apply aA;apply TK;apply TK;rotate_left 1;apply TK;rotate_right 1;exact(JW c (bf (c.trucks.getD (k:Int).toNat default) true) ((ht (by assumption)).free true));apply TK)
  |(apply bZ;apply TK;(first|(apply aR<;>apply TK)|(apply aP<;>apply TK)|(apply bP<;>apply TK)))
  |apply ay
  |(apply bw;kernel_rfl)
  |(apply dx;(first|(apply ab;apply TK)|(apply ae;apply TK;apply TK;apply TK));apply TK;first|(apply bB<;>apply TK)|(apply aV<;>apply TK)|(apply b8;apply TK)|(apply b7;apply TK)|(apply aO;intro _;(first|(apply aB<;>apply TK)|(apply aI<;>apply TK)|(apply aH<;>apply TK)|(apply aE<;>apply TK)|(apply aC<;>apply TK)|(apply cR<;>apply TK)|(apply ah<;>(first|apply TK|omega))|(apply bd<;>apply TK)|(apply cq<;>(first|apply TK|omega))|(apply aq<;>apply TK)|(apply aN<;>apply TK)|(apply dL<;>apply TK)|(apply cQ<;>apply TK)|(apply dr<;>apply TK)|(apply dm<;>apply TK)|(apply dt<;>apply TK))))
  |(apply az;(first|(apply ab;apply TK)|(apply ae;apply TK;apply TK;apply TK));apply TK;apply TK;apply TK;exact(JW c (c.trucks.getD (k:Int).toNat default) (ht (by assumption))))
  |(apply az;(first|(apply ab;apply TK)|(apply ae;apply TK;apply TK;apply TK));apply TK;apply TK;apply TK;exact(zp (c.trucks.getD (k:Int).toNat default) true))
  |(apply az;(first|(apply ab;apply TK)|(apply ae;apply TK;apply TK;apply TK));apply TK;apply TK;apply TK;exact(JW c (bf (c.trucks.getD (k:Int).toNat default) true) ((ht (by assumption)).free true)))
  |(apply ft;(first|(apply ab;apply TK)|(apply ae;apply TK;apply TK;apply TK));(first|(refine ur (f' :=fun i=>fU (cO c i)) rfl rfl rfl rfl rfl rfl rfl rfl rfl rfl rfl rfl rfl rfl rfl (by first|omega|(show(k+1)*8≤_;omega)) (by omega) rfl (fun i hi=>rfl) (fun i hi=>by(obtain rfl:i=0:=by omega);rfl))|(refine ur (f' :=fun i=>fU (eM c i)) rfl rfl rfl rfl rfl rfl rfl rfl rfl rfl rfl rfl rfl rfl rfl (by first|omega|(show(k+1)*8≤_;omega)) (by omega) rfl (fun i hi=>rfl) (fun i hi=>by(obtain rfl:i=0:=by omega);rfl))|(apply cH<;>apply TK)|(apply dV<;>apply TK)|(apply g4<;>apply TK)))
  |(apply cM;apply TK;intro _;rotate_left 1;intro _;rotate_left 1)
  |(apply nJ;apply TK;intro _;rotate_left 1;intro _;rotate_left 1))
 ·refine⟨k+1,by omega,by omega,(by refine⟨?_, ?_, ?_, ?_, ?_⟩<;>repeat' (first|exact trivial|apply And.intro|apply TK|(apply gz;apply TK;first|omega|assumption)|(apply gL;apply TK;repeat' (first|apply TK|apply cf|(apply cj;first|apply TK|omega|assumption)))))⟩
 obtain rfl:k=c.trucks.length:=by omega
 refine qU (j6 4 rfl rfl rfl) ?_
 refine qU (j6 5 rfl rfl rfl) ?_
 have hK:=C6 hc
 obtain⟨o1,o2,o3⟩:=xf c (K:=21000) hK 21000 0 (by omega) (by omega)
 refine Fc [1,2,3,4,5] [1,2,4,5] (fun j:Nat=>[]) (fun j=>[(3,1)])
  (fun j=>[(3, .box [.int .i64 j, .int .i64 (dy (fA c) c.trucks.length)])])
  (fun j=>j≤jK c 21000 0) (fun j=>jK c 21000 0-j) 0 (Nat.zero_le _) (by refine⟨?_, ?_, ?_⟩<;>repeat' (first|exact trivial|apply And.intro|apply TK|(apply gz;apply TK;first|omega|assumption)|(apply gL;apply TK;repeat' (first|apply TK|apply cf|(apply cj;first|apply TK|omega|assumption))))) (fun j h hj=> ?_)
 have hn' :c.trucks.length≤1000:=by omega
 repeat' (first
  |(apply bT;apply TK;apply TK;(first|(apply aB<;>apply TK)|(apply aI<;>apply TK)|(apply aH<;>apply TK)|(apply aE<;>apply TK)|(apply aC<;>apply TK)|(apply cR<;>apply TK)|(apply ah<;>(first|apply TK|omega))|(apply bd<;>apply TK)|(apply cq<;>(first|apply TK|omega))|(apply aq<;>apply TK)|(apply aN<;>apply TK)|(apply dL<;>apply TK)|(apply cQ<;>apply TK)|(apply dr<;>apply TK)|(apply dm<;>apply TK)|(apply dt<;>apply TK)))
  |apply ba
  |apply al
  |apply an
  |apply aG
  |apply bp
  |apply aF
  |apply aw
  |apply aS
  |apply bk
  |apply aZ
  |apply aQ
  |(apply aA;apply TK;apply TK;rotate_left 1;apply TK;rotate_right 1;exact(Pm (cO c) (eM c) c.trucks.length c.fails j hn');apply TK)
  |(apply bZ;apply TK;(first|(apply aR<;>apply TK)|(apply aP<;>apply TK)|(apply bP<;>apply TK)))
  |apply ay
  |(apply bw;kernel_rfl)
  |(apply dx;(first|(apply ab;apply TK)|(apply ae;apply TK;apply TK;apply TK));apply TK;first|(apply bB<;>apply TK)|(apply aV<;>apply TK)|(apply b8;apply TK)|(apply b7;apply TK)|(apply aO;intro _;(first|(apply aB<;>apply TK)|(apply aI<;>apply TK)|(apply aH<;>apply TK)|(apply aE<;>apply TK)|(apply aC<;>apply TK)|(apply cR<;>apply TK)|(apply ah<;>(first|apply TK|omega))|(apply bd<;>apply TK)|(apply cq<;>(first|apply TK|omega))|(apply aq<;>apply TK)|(apply aN<;>apply TK)|(apply dL<;>apply TK)|(apply cQ<;>apply TK)|(apply dr<;>apply TK)|(apply dm<;>apply TK)|(apply dt<;>apply TK))))
  |(apply az;(first|(apply ab;apply TK)|(apply ae;apply TK;apply TK;apply TK));apply TK;apply TK;apply TK;exact(Pm (cO c) (eM c) c.trucks.length c.fails j hn'))
  |(apply ft;(first|(apply ab;apply TK)|(apply ae;apply TK;apply TK;apply TK));(first|(apply cH<;>apply TK)|(apply dV<;>apply TK)|(apply g4<;>apply TK)))
  |(apply cM;apply TK;intro _;rotate_left 1;intro _;rotate_left 1)
  |(apply nJ;apply TK;intro _;rotate_left 1;intro _;rotate_left 1))
 ·have:¬j=jK c 21000 0:=fun e=>by rw[←e]at o2;simp_all
  refine⟨j+1,by omega,by omega,(by refine⟨?_, ?_, ?_, ?_, ?_⟩<;>repeat' (first|exact trivial|apply And.intro|apply TK|(apply gz;apply TK;first|omega|assumption)|(apply gL;apply TK;repeat' (first|apply TK|apply cf|(apply cj;first|apply TK|omega|assumption)))))⟩
 ·have:¬j<jK c 21000 0:=fun e=>by have:=o1 j (by omega) e;simp_all
  obtain rfl:j=jK c 21000 0:=by omega
  refine jv rfl rfl rfl rfl rfl rfl rfl rfl ?_;rfl
end Go.Proofs.YtafnhieaeejlcaaDoor
namespace Go.Proofs.YtafnhieaeejlcaaDoor
open Go Go.Ab
set_option maxRecDepth 100000
set_option maxHeartbeats 4000000
attribute [local irreducible] W WL eu kX fh eo gR WG FQ Want jO WI pM fQ eC
attribute [local irreducible] iX ai
theorem Sz(c:Convoy):au cJ 52 [.agg (aL c)] (.tup [.agg (bC (if ai c=0 then iX c else default)), .int .i64 (ai c)]):=by
 refine bS (fn:=Tryd.f52) Tryd.func52 rfl (by kernel_rfl) rfl ?_ ?_ ?_
 ·exact af.cons (.agg _ (bn c)) af.nil
 ·exact .tup _ (af.cons (.agg _ (cN _)) (af.cons (.int _ _) af.nil))
 intro w κ
 repeat' (first
  |(apply bT;apply TK;apply TK;(first|(apply aB<;>apply TK)|(apply aI<;>apply TK)|(apply aC<;>apply TK)|(apply aq<;>apply TK)|(apply bK<;>apply TK)))
  |apply ba
  |apply al
  |apply an
  |apply aG
  |apply ck
  |apply aS
  |apply aZ
  |(apply aA;apply TK;apply TK;rotate_left 1;apply TK;rotate_right 1;exact(OR c);apply TK)
  |(apply aA;apply TK;apply TK;rotate_left 1;apply TK;rotate_right 1;exact(Sy c (DT (by assumption)));apply TK)
  |(apply bZ;apply TK;(first|(apply aR<;>apply TK)|(apply aP<;>apply TK)|(apply bP<;>apply TK)))
  |(apply fq;apply TK;intro _;rotate_left 1;intro _;rotate_left 1))
 ·((try apply aM);first|(focus (apply fv;apply TK;(first|(apply eI;apply TK)|(apply ep<;>apply TK));(first|(apply eI;apply TK)|(apply ep<;>apply TK));all_goals try apply TK)))
  rw[if_neg (by assumption)];rfl
 ·((try apply aM);first|(focus (apply fv;apply TK;(first|(apply eI;apply TK)|(apply ep<;>apply TK));(first|(apply eI;apply TK)|(apply ep<;>apply TK));all_goals try apply TK)))
  ·rw[if_pos (by assumption)];rfl
  ·simp[*]
def lK(c:Convoy):Bool:=(decide ((c.trucks.length:Int)>5)&&decide ((c.trucks.length:Int)≤20))||decide ((c.trucks.length:Int)>25)||c.trucks.any (fun t=>decide ((t.holds.length:Int)>12))||(decide (ai c=0)&&decide ((iX c).hi>1500))
theorem La{α:Type}[Inhabited α]{l:List α}{p:α→Bool}{k:Nat}(h:k<l.length)(hp:p (l.getD k default)=true):l.any p=true:=by
 rw[List.any_eq_true]
 exact⟨_,by simp[List.getD,h],hp⟩
theorem N0{α:Type}[Inhabited α]{l:List α}{p:α→Bool}(h:∀k,k<l.length→p (l.getD k default)=false):l.any p=false:=by
 rw[List.any_eq_false]
 intro x hx
 obtain⟨k,hk,rfl⟩:=C3 hx
 rw[h k hk];decide
theorem QO(c:Convoy):au cJ 18 [.agg (aL c)] (.bool (lK c)):=by
 refine bS (fn:=Tryd.f18) Tryd.func18 rfl (by kernel_rfl) rfl ?_ ?_ ?_
 ·exact af.cons (.agg _ (bn c)) af.nil
 ·exact .bool _
 intro w κ
 repeat' (first
  |(apply bT;apply TK;apply TK;(first|(apply aB<;>apply TK)|(apply aI<;>apply TK)|(apply aH<;>apply TK)|(apply aE<;>apply TK)|(apply aC<;>apply TK)|(apply aX<;>apply TK)|(apply bm<;>apply TK)|(apply di<;>apply TK)|(apply iP<;>apply TK)|(apply ah<;>(first|apply TK|omega))|(apply bd<;>apply TK)|(apply cv<;>apply TK)|(apply bR<;>apply TK)|(apply bY<;>apply TK)|(apply cq<;>(first|apply TK|omega))|(apply aq<;>apply TK)|(apply cx<;>apply TK)))
  |apply ba
  |apply al
  |apply an
  |apply aG
  |apply bp
  |apply ck
  |apply aF
  |apply cP
  |apply aw
  |apply aS
  |apply bk
  |apply aZ
  |apply aQ
  |(apply bu;apply TK)
  |(apply bZ;apply TK;(first|(apply aR<;>apply TK)|(apply aP<;>apply TK)|(apply bP<;>apply TK)))
  |(apply dg;apply TK;apply TK;apply TK)
  |(apply eA;apply TK;apply TK;apply TK;apply TK;apply TK)
  |(apply xK;apply TK;apply TK;apply TK;intro _;rotate_left 1;intro _;rotate_left 1)
  |(apply cM;apply TK;intro _;rotate_left 1;intro _;rotate_left 1))
 all_goals first
  |(((try apply aM);first|(apply iE;apply TK;apply TK;try apply TK));(unfold lK;simp_all;done))
  |skip
 all_goals
  refine dJ [1] [1] (fun k:Nat=>[(3, .int .i64 k)]) (fun k=>[]) (fun k=>[])
   (fun k=>k≤c.trucks.length∧∀i,i<k→(fun t:Truck=>decide ((t.holds.length:Int)>12)) (c.trucks.getD i default)=false) (fun k=>c.trucks.length-k) 0 ⟨Nat.zero_le _,fun i h=>by omega⟩ (by refine⟨?_, ?_, ?_⟩<;>repeat' (first|exact trivial|apply And.intro|apply TK|(apply gz;apply TK;first|omega|assumption)|(apply gL;apply TK;repeat' (first|apply TK|apply cf|(apply cj;first|apply TK|omega|assumption))))) (fun k h hi=> ?_)
  obtain⟨hk,hall⟩:=hi
  repeat' (first
  |(apply bT;apply TK;apply TK;(first|(apply aB<;>apply TK)|(apply aI<;>apply TK)|(apply aH<;>apply TK)|(apply aE<;>apply TK)|(apply aC<;>apply TK)|(apply aX<;>apply TK)|(apply bm<;>apply TK)|(apply di<;>apply TK)|(apply iP<;>apply TK)|(apply ah<;>(first|apply TK|omega))|(apply bd<;>apply TK)|(apply cv<;>apply TK)|(apply bR<;>apply TK)|(apply bY<;>apply TK)|(apply cq<;>(first|apply TK|omega))|(apply aq<;>apply TK)|(apply cx<;>apply TK)))
  |apply ba
  |apply al
  |apply an
  |apply aG
  |apply bp
  |apply ck
  |apply aF
  |apply cP
  |apply aw
  |apply aS
  |apply bk
  |apply aZ
  |apply aQ
  |(apply bu;apply TK)
  |(apply aA;apply TK;apply TK;rotate_left 1;apply TK;rotate_right 1;exact(Sz c);apply TK)
  |(apply bZ;apply TK;(first|(apply aR<;>apply TK)|(apply aP<;>apply TK)|(apply bP<;>apply TK)))
  |(apply dg;apply TK;apply TK;apply TK)
  |(apply eA;apply TK;apply TK;apply TK;apply TK;apply TK)
  |(apply xK;apply TK;apply TK;apply TK;intro _;rotate_left 1;intro _;rotate_left 1)
  |(apply cM;apply TK;intro _;rotate_left 1;intro _;rotate_left 1))
 all_goals try (refine⟨k+1,⟨by omega,fun i hi=> ?_⟩,by omega, ?_⟩;rotate_left 1;exact(by apply bJ;refine⟨?_, ?_, ?_, ?_, ?_⟩<;>repeat' (first|exact trivial|apply And.intro|apply TK|(apply gz;apply TK;first|omega|assumption)|(apply gL;apply TK;repeat' (first|apply TK|apply cf|(apply cj;first|apply TK|omega|assumption))))))
 all_goals try (rcases Nat.lt_or_eq_of_le (Nat.le_of_lt_succ hi)with h1|h1<;>first|exact hall i h1|(subst h1;simp_all;done))
 all_goals try (have h12: ↑(c.trucks.getD (k:Int).toNat default).holds.length>(12:Int):=by assumption
                ((try apply aM);first|(apply iE;apply TK;apply TK;try apply TK))
                rw[lK,La (k:=k) (by omega) (by simpa using h12)];simp)
 all_goals (have hany:c.trucks.any (fun t=>decide ((t.holds.length:Int)>12))=false:=N0 (fun i hi=>hall i (by omega));((try apply aM);first|(apply iE;apply TK;apply TK;try apply TK));simp only[lK,hany];simp only[*,if_true,if_false,decide_true,decide_false,Bool.false_and,Bool.true_and,Bool.false_or,Bool.or_false,Bool.and_false])
end Go.Proofs.YtafnhieaeejlcaaDoor
namespace Go.Proofs.YtafnhieaeejlcaaDoor
open Go Go.Ab
set_option maxRecDepth 100000
set_option maxHeartbeats 4000000
attribute [local irreducible] W WL eu kX fh eo gR WG FQ Want jO WI pM fQ eC
theorem PK(c:Convoy)(hn:c.trucks.length≤25)(hh:∀k,k<c.trucks.length→(c.trucks.getD k default).holds.length≤12):au cJ 20 [.agg (aL c)] (.agg (aL c)):=by
 refine aD (fn:=Tryd.f20) Tryd.func20 rfl (by kernel_rfl) rfl ?_ ?_ ?_
 ·exact af.cons (.agg _ (bn c)) af.nil
 ·exact .agg _ (bn _)
 intro w κ
 repeat' (first
  |(apply bT;apply TK;apply TK;(first|(apply aB<;>apply TK)|(apply aI<;>apply TK)|(apply aH<;>apply TK)|(apply aE<;>apply TK)|(apply aC<;>apply TK)|(apply ah<;>(first|apply TK|omega))|(apply aq<;>apply TK)|(apply mb<;>(first|apply TK|omega))|(apply zo<;>apply TK)|(apply lz<;>(first|apply TK|omega))|(apply jf<;>apply TK)))
  |apply ba
  |apply al
  |apply an
  |apply aG
  |apply bp
  |apply aF
  |apply aw
  |apply aS
  |apply bk
  |apply aZ
  |apply aQ
  |(apply bZ;apply TK;(first|(refine A4 (fun i=>bA (c.trucks.getD i default)) rfl rfl rfl rfl rfl rfl rfl rfl rfl)|(refine yE (f' :=fun i=>bA (c.trucks.getD i default)) rfl rfl rfl rfl rfl rfl rfl rfl rfl rfl rfl rfl rfl rfl rfl (by show(0+c.trucks.length)*56≤_;omega) (by omega) rfl (fun i hi=>rfl) (fun i hi=>by rw[Nat.zero_add]))|(apply aR<;>apply TK)|(apply aP<;>apply TK)|(apply bP<;>apply TK)))
  |apply ay
  |(apply bw;kernel_rfl)
  |(apply dx;(first|(apply ab;apply TK)|(apply ae;apply TK;apply TK;apply TK));apply TK;first|(apply bB<;>apply TK)|(apply aV<;>apply TK)|(apply b8;apply TK)|(apply b7;apply TK)|(apply aO;intro _;(first|(apply aB<;>apply TK)|(apply aI<;>apply TK)|(apply aH<;>apply TK)|(apply aE<;>apply TK)|(apply aC<;>apply TK)|(apply ah<;>(first|apply TK|omega))|(apply aq<;>apply TK)|(apply mb<;>(first|apply TK|omega))|(apply zo<;>apply TK)|(apply lz<;>(first|apply TK|omega))|(apply jf<;>apply TK))))
  |(apply ft;(first|(apply ab;apply TK)|(apply ae;apply TK;apply TK;apply TK));(first|(refine Jc (fun i=>bA (c.trucks.getD i default)) rfl rfl rfl rfl rfl rfl rfl rfl rfl)|(refine ur (f' :=fun i=>bA (c.trucks.getD i default)) rfl rfl rfl rfl rfl rfl rfl rfl rfl rfl rfl rfl rfl rfl rfl (by show(0+c.trucks.length)*56≤_;omega) (by omega) rfl (fun i hi=>rfl) (fun i hi=>by rw[Nat.zero_add]))|(apply My<;>(first|apply TK|omega))))
  |(apply cM;apply TK;intro _;rotate_left 1;intro _;rotate_left 1))
 refine dJ [1,2] [1,2] (fun k:Nat=>[(3, .int .i64 k)]) (fun k=>[(4,2)]) (fun k=>[(4, .arr 50 5 (0+c.trucks.length) (fun i=>bA (c.trucks.getD i default)))])
  (fun k=>k≤c.trucks.length) (fun k=>c.trucks.length-k) 0 (Nat.zero_le _) (by refine⟨?_, ?_, ?_⟩<;>repeat' (first|exact trivial|apply And.intro|apply TK|(apply gz;apply TK;first|omega|assumption)|(apply gL;apply TK;repeat' (first|apply TK|apply cf|(apply cj;first|apply TK|omega|assumption))))) (fun k h hi=> ?_)
 repeat' (first
  |(apply bT;apply TK;apply TK;(first|(apply aB<;>apply TK)|(apply aI<;>apply TK)|(apply aH<;>apply TK)|(apply aE<;>apply TK)|(apply aC<;>apply TK)|(apply ah<;>(first|apply TK|omega))|(apply aq<;>apply TK)|(apply mb<;>(first|apply TK|omega))|(apply zo<;>apply TK)|(apply lz<;>(first|apply TK|omega))|(apply jf<;>apply TK)))
  |apply ba
  |apply al
  |apply an
  |apply aG
  |apply bp
  |apply aF
  |apply aw
  |apply aS
  |apply bk
  |apply aZ
  |apply aQ
  |(apply bZ;apply TK;(first|(refine A4 (fun i=>fY ((c.trucks.getD k default).holds.getD i default)) rfl rfl rfl rfl rfl rfl rfl rfl rfl)|(refine yE (f' :=fun i=>fY ((c.trucks.getD k default).holds.getD i default)) rfl rfl rfl rfl rfl rfl rfl rfl rfl rfl rfl rfl rfl rfl rfl (by have:=hh k (by omega);show(0+(c.trucks.getD k default).holds.length)*16≤_;omega) (by have:=hh k (by omega);show 0+(c.trucks.getD k default).holds.length≤_;omega) rfl (fun i hi=>rfl) (fun i hi=>by rw[Nat.zero_add];rfl))|(apply aR<;>apply TK)|(apply aP<;>apply TK)|(apply bP<;>apply TK)))
  |apply ay
  |(apply bw;kernel_rfl)
  |(apply dx;(first|(apply ab;apply TK)|(apply ae;apply TK;apply TK;apply TK));apply TK;first|(apply bB<;>apply TK)|(apply aV<;>apply TK)|(apply b8;apply TK)|(apply b7;apply TK)|(apply aO;intro _;(first|(apply aB<;>apply TK)|(apply aI<;>apply TK)|(apply aH<;>apply TK)|(apply aE<;>apply TK)|(apply aC<;>apply TK)|(apply ah<;>(first|apply TK|omega))|(apply aq<;>apply TK)|(apply mb<;>(first|apply TK|omega))|(apply zo<;>apply TK)|(apply lz<;>(first|apply TK|omega))|(apply jf<;>apply TK))))
  |(apply ft;(first|(apply ab;apply TK)|(apply ae;apply TK;apply TK;apply TK));(first|(refine Jc (fun i=>fY ((c.trucks.getD k default).holds.getD i default)) rfl rfl rfl rfl rfl rfl rfl rfl rfl)|(refine ur (f' :=fun i=>fY ((c.trucks.getD k default).holds.getD i default)) rfl rfl rfl rfl rfl rfl rfl rfl rfl rfl rfl rfl rfl rfl rfl (by have:=hh k (by omega);show(0+(c.trucks.getD k default).holds.length)*16≤_;omega) (by have:=hh k (by omega);show 0+(c.trucks.getD k default).holds.length≤_;omega) rfl (fun i hi=>rfl) (fun i hi=>by rw[Nat.zero_add];rfl))|(apply My<;>(first|apply TK|omega))))
  |(apply cM;apply TK;intro _;rotate_left 1;intro _;rotate_left 1))
 ·refine⟨k+1,by omega,by omega,JY (oF 4 k 4 (s:=19) (f2' :=fun i=>bA (c.trucks.getD i default)) rfl rfl (by omega) (tG _ _ _) rfl rfl rfl rfl (fun j hj=> ?_)) (by apply bJ;refine⟨?_, ?_, ?_, ?_, ?_⟩<;>repeat' (first|exact trivial|apply And.intro|apply TK|(apply gz;apply TK;first|omega|assumption)|(apply gL;apply TK;repeat' (first|apply TK|apply cf|(apply cj;first|apply TK|omega|assumption)))))⟩
  by_cases e:j=k
  ·subst e;rw[if_pos rfl];rw[Nat.zero_add];rfl
  ·rw[if_neg e];exact(A1 (fun i=>bA (c.trucks.getD i default)) (i:=(k:Int).toNat) (k:=j) _ e).symm
 ·refine oc (kh 2 3 (s:=4) rfl rfl rfl rfl rfl) (aM ?_)
  ((try apply aM);first|(apply jv;apply TK;apply TK;apply TK;apply TK;apply TK;apply TK;apply TK;apply TK;try apply TK))
  rw[Nat.zero_add];rfl
theorem qh{α:Type}[Inhabited α]{l m:List α}(h:l.length=m.length)(h2:∀i,i<l.length→l.getD i default=m.getD i default):l=m:=by
 apply List.ext_getElem h
 intro i h3 h4
 have:=h2 i h3
 simpa[List.getD,h3,h4]using this
theorem H4{t u:Truck}(h1:t.way=u.way)(h2:t.start=u.start)(h3:t.lo=u.lo)(h4:t.hi=u.hi)(h5:t.holds=u.holds):t=u:=by cases t;cases u;simp_all
theorem LD{t u:Hold}(h1:t.a=u.a)(h2:t.u=u.u):t=u:=by cases t;cases u;simp_all
theorem GX{t u:Convoy}(h1:t.len=u.len)(h2:t.gap=u.gap)(h3:t.fails=u.fails)(h5:t.trucks=u.trucks):t=u:=by cases t;cases u;simp_all
theorem QP(a b:Convoy)(hn:a.trucks.length≤1000)(hh:∀k,k<a.trucks.length→(a.trucks.getD k default).holds.length≤1000):au cJ 23 [.agg (aL a), .agg (aL b)] (.bool (decide (a=b))):=by
 refine aD (fn:=Tryd.f23) Tryd.func23 rfl (by kernel_rfl) rfl ?_ ?_ ?_
 ·exact af.cons (.agg _ (bn a)) (af.cons (.agg _ (bn b)) af.nil)
 ·exact .bool _
 intro w κ
 repeat' (first
  |(apply bT;apply TK;apply TK;(first|(apply aB<;>apply TK)|(apply aI<;>apply TK)|(apply aH<;>apply TK)|(apply aE<;>apply TK)|(apply aC<;>apply TK)|(apply aX<;>apply TK)|(apply bm<;>apply TK)|(apply ah<;>(first|apply TK|omega))|(apply bd<;>apply TK)|(apply bR<;>apply TK)|(apply bY<;>apply TK)|(apply cq<;>(first|apply TK|omega))|(apply aq<;>apply TK)|(apply aN<;>apply TK)|(apply vJ;apply TK;apply TK;apply TK;apply TK;kernel_rfl)))
  |apply ba
  |apply al
  |apply an
  |apply aG
  |apply bp
  |apply ck
  |apply aF
  |apply cP
  |apply aw
  |apply aS
  |apply bk
  |apply aZ
  |apply aQ
  |(apply bu;apply TK)
  |(apply bZ;apply TK;(first|(apply aR<;>apply TK)))
  |(apply dg;apply TK;apply TK;apply TK)
  |(apply eA;apply TK;apply TK;apply TK;apply TK;apply TK)
  |(apply oG;apply TK;apply TK;apply TK;intro _;rotate_left 1;intro _;rotate_left 1)
  |(apply rS;apply TK;apply TK;apply TK;intro _;rotate_left 1;intro _;rotate_left 1)
  |apply ay
  |(apply bw;kernel_rfl)
  |(apply dx;(first|(apply ab;apply TK)|(apply ae;apply TK;apply TK;apply TK));apply TK;first|(apply bB<;>apply TK)|(apply aV<;>apply TK)|(apply b8;apply TK)|(apply b7;apply TK)|(apply aO;intro _;(first|(apply aB<;>apply TK)|(apply aI<;>apply TK)|(apply aH<;>apply TK)|(apply aE<;>apply TK)|(apply aC<;>apply TK)|(apply aX<;>apply TK)|(apply bm<;>apply TK)|(apply ah<;>(first|apply TK|omega))|(apply bd<;>apply TK)|(apply bR<;>apply TK)|(apply bY<;>apply TK)|(apply cq<;>(first|apply TK|omega))|(apply aq<;>apply TK)|(apply aN<;>apply TK)|(apply vJ;apply TK;apply TK;apply TK;apply TK;kernel_rfl))))
  |(apply ft;(first|(apply ab;apply TK)|(apply ae;apply TK;apply TK;apply TK));(first|(apply cH<;>apply TK)|(apply dV<;>apply TK)))
  |(apply cM;apply TK;intro _;rotate_left 1;intro _;rotate_left 1)
  |(apply fq;apply TK;intro _;rotate_left 1;intro _;rotate_left 1)
  |(apply nJ;apply TK;intro _;rotate_left 1;intro _;rotate_left 1))
 all_goals try (((try apply aM);first|(apply iE;apply TK;apply TK;try apply TK));symm;apply decide_eq_false;rintro rfl;contradiction)
 have hlen:a.trucks.length=b.trucks.length:=by omega
 refine dJ [2,3] [2,3] (fun k:Nat=>[(5, .int .i64 k)]) (fun k=>[]) (fun k=>[])
  (fun k=>k≤a.trucks.length∧∀i,i<k→a.trucks.getD i default=b.trucks.getD i default) (fun k=>a.trucks.length-k) 0 ⟨Nat.zero_le _,fun i h=>by omega⟩ (by refine⟨?_, ?_, ?_⟩<;>repeat' (first|exact trivial|apply And.intro|apply TK|(apply gz;apply TK;first|omega|assumption)|(apply gL;apply TK;repeat' (first|apply TK|apply cf|(apply cj;first|apply TK|omega|assumption))))) (fun k h hi=> ?_)
 obtain⟨hk,hall⟩:=hi
 have hne:a.trucks.getD k default≠b.trucks.getD k default→¬a=b:=fun h1 h2=>h1 (by rw[h2])
 repeat' (first
  |(apply bT;apply TK;apply TK;(first|(apply aB<;>apply TK)|(apply aI<;>apply TK)|(apply aH<;>apply TK)|(apply aE<;>apply TK)|(apply aC<;>apply TK)|(apply aX<;>apply TK)|(apply bm<;>apply TK)|(apply ah<;>(first|apply TK|omega))|(apply bd<;>apply TK)|(apply bR<;>apply TK)|(apply bY<;>apply TK)|(apply cq<;>(first|apply TK|omega))|(apply aq<;>apply TK)|(apply aN<;>apply TK)|(apply vJ;apply TK;apply TK;apply TK;apply TK;kernel_rfl)))
  |apply ba
  |apply al
  |apply an
  |apply aG
  |apply bp
  |apply ck
  |apply aF
  |apply cP
  |apply aw
  |apply aS
  |apply bk
  |apply aZ
  |apply aQ
  |(apply bu;apply TK)
  |(apply bZ;apply TK;(first|(apply aR<;>apply TK)))
  |(apply dg;apply TK;apply TK;apply TK)
  |(apply eA;apply TK;apply TK;apply TK;apply TK;apply TK)
  |(apply oG;apply TK;apply TK;apply TK;intro _;rotate_left 1;intro _;rotate_left 1)
  |(apply rS;apply TK;apply TK;apply TK;intro _;rotate_left 1;intro _;rotate_left 1)
  |apply ay
  |(apply bw;kernel_rfl)
  |(apply dx;(first|(apply ab;apply TK)|(apply ae;apply TK;apply TK;apply TK));apply TK;first|(apply bB<;>apply TK)|(apply aV<;>apply TK)|(apply b8;apply TK)|(apply b7;apply TK)|(apply aO;intro _;(first|(apply aB<;>apply TK)|(apply aI<;>apply TK)|(apply aH<;>apply TK)|(apply aE<;>apply TK)|(apply aC<;>apply TK)|(apply aX<;>apply TK)|(apply bm<;>apply TK)|(apply ah<;>(first|apply TK|omega))|(apply bd<;>apply TK)|(apply bR<;>apply TK)|(apply bY<;>apply TK)|(apply cq<;>(first|apply TK|omega))|(apply aq<;>apply TK)|(apply aN<;>apply TK)|(apply vJ;apply TK;apply TK;apply TK;apply TK;kernel_rfl))))
  |(apply ft;(first|(apply ab;apply TK)|(apply ae;apply TK;apply TK;apply TK));(first|(apply cH<;>apply TK)|(apply dV<;>apply TK)))
  |(apply cM;apply TK;intro _;rotate_left 1;intro _;rotate_left 1)
  |(apply fq;apply TK;intro _;rotate_left 1;intro _;rotate_left 1)
  |(apply nJ;apply TK;intro _;rotate_left 1;intro _;rotate_left 1))
 all_goals try simp only[Int.toNat_natCast]at*
 all_goals try (((try apply aM);first|(apply iE;apply TK;apply TK;try apply TK));symm;apply decide_eq_false;apply hne;intro e;simp_all;done)
 rotate_left 1
 ·((try apply aM);first|(apply iE;apply TK;apply TK;try apply TK));symm;apply decide_eq_true
  exact GX (by assumption) (by assumption) (by assumption) (qh hlen fun i h1=>hall i (by omega))
 simp only[Bool.and_true,Bool.and_eq_true,decide_eq_true_eq]at*
 have hp:(a.trucks.getD k default).lo=(b.trucks.getD k default).lo∧(a.trucks.getD k default).hi=(b.trucks.getD k default).hi:=by assumption
 refine dJ [2,3,5,6,7,37,38,39,40,41,44,45,46,47,48,49,50,51,52,53,54,55,56,57,58,59,60,61,62,63,64,65,66,67,68,69,70,71,72,73,74,75,76,77,78,79,80,81] [2,3,6,7] (fun j:Nat=>[(8, .int .i64 j)]) (fun j=>[]) (fun j=>[])
  (fun j=>j≤(a.trucks.getD k default).holds.length∧∀i,i<j→(a.trucks.getD k default).holds.getD i default=(b.trucks.getD k default).holds.getD i default) (fun j=>(a.trucks.getD k default).holds.length-j) 0 ⟨Nat.zero_le _,fun i h=>by omega⟩ (by refine⟨?_, ?_, ?_⟩<;>repeat' (first|exact trivial|apply And.intro|apply TK|(apply gz;apply TK;first|omega|assumption)|(apply gL;apply TK;repeat' (first|apply TK|apply cf|(apply cj;first|apply TK|omega|assumption))))) (fun j h' hj=> ?_)
 obtain⟨hj,hallj⟩:=hj
 have hhk:=hh k (by omega)
 have hne2:(a.trucks.getD k default).holds.getD j default≠(b.trucks.getD k default).holds.getD j default→¬a=b:=fun h1 h2=>h1 (by rw[h2])
 repeat' (first
  |(apply bT;apply TK;apply TK;(first|(apply aB<;>apply TK)|(apply aI<;>apply TK)|(apply aH<;>apply TK)|(apply aE<;>apply TK)|(apply aC<;>apply TK)|(apply aX<;>apply TK)|(apply bm<;>apply TK)|(apply ah<;>(first|apply TK|omega))|(apply bd<;>apply TK)|(apply bR<;>apply TK)|(apply bY<;>apply TK)|(apply cq<;>(first|apply TK|omega))|(apply aq<;>apply TK)|(apply aN<;>apply TK)|(apply vJ;apply TK;apply TK;apply TK;apply TK;kernel_rfl)))
  |apply ba
  |apply al
  |apply an
  |apply aG
  |apply bp
  |apply ck
  |apply aF
  |apply cP
  |apply aw
  |apply aS
  |apply bk
  |apply aZ
  |apply aQ
  |(apply bu;apply TK)
  |(apply bZ;apply TK;(first|(apply aR<;>apply TK)))
  |(apply dg;apply TK;apply TK;apply TK)
  |(apply eA;apply TK;apply TK;apply TK;apply TK;apply TK)
  |(apply oG;apply TK;apply TK;apply TK;intro _;rotate_left 1;intro _;rotate_left 1)
  |(apply rS;apply TK;apply TK;apply TK;intro _;rotate_left 1;intro _;rotate_left 1)
  |apply ay
  |(apply bw;kernel_rfl)
  |(apply dx;(first|(apply ab;apply TK)|(apply ae;apply TK;apply TK;apply TK));apply TK;first|(apply bB<;>apply TK)|(apply aV<;>apply TK)|(apply b8;apply TK)|(apply b7;apply TK)|(apply aO;intro _;(first|(apply aB<;>apply TK)|(apply aI<;>apply TK)|(apply aH<;>apply TK)|(apply aE<;>apply TK)|(apply aC<;>apply TK)|(apply aX<;>apply TK)|(apply bm<;>apply TK)|(apply ah<;>(first|apply TK|omega))|(apply bd<;>apply TK)|(apply bR<;>apply TK)|(apply bY<;>apply TK)|(apply cq<;>(first|apply TK|omega))|(apply aq<;>apply TK)|(apply aN<;>apply TK)|(apply vJ;apply TK;apply TK;apply TK;apply TK;kernel_rfl))))
  |(apply ft;(first|(apply ab;apply TK)|(apply ae;apply TK;apply TK;apply TK));(first|(apply cH<;>apply TK)|(apply dV<;>apply TK)))
  |(apply cM;apply TK;intro _;rotate_left 1;intro _;rotate_left 1)
  |(apply fq;apply TK;intro _;rotate_left 1;intro _;rotate_left 1)
  |(apply nJ;apply TK;intro _;rotate_left 1;intro _;rotate_left 1))
 all_goals try simp only[Int.toNat_natCast]at*
 all_goals try (((try apply aM);first|(apply iE;apply TK;apply TK;try apply TK));symm;apply decide_eq_false;apply hne2;intro e;simp_all;done)
 ·refine⟨j+1,⟨by omega,fun i hi=> ?_⟩,by omega,(by apply bJ;refine⟨?_, ?_, ?_, ?_, ?_⟩<;>repeat' (first|exact trivial|apply And.intro|apply TK|(apply gz;apply TK;first|omega|assumption)|(apply gL;apply TK;repeat' (first|apply TK|apply cf|(apply cj;first|apply TK|omega|assumption)))))⟩
  rcases Nat.lt_or_eq_of_le (Nat.le_of_lt_succ hi)with h1|h1
  ·exact hallj i h1
  ·subst h1
   simp only[Bool.and_true,Bool.and_eq_true,decide_eq_true_eq]at*
   exact LD (by simp_all) (by simp_all)
 ·refine⟨k+1,⟨by omega,fun i hi=> ?_⟩,by omega,(by apply bJ;refine⟨?_, ?_, ?_, ?_, ?_⟩<;>repeat' (first|exact trivial|apply And.intro|apply TK|(apply gz;apply TK;first|omega|assumption)|(apply gL;apply TK;repeat' (first|apply TK|apply cf|(apply cj;first|apply TK|omega|assumption)))))⟩
  rcases Nat.lt_or_eq_of_le (Nat.le_of_lt_succ hi)with h1|h1
  ·exact hall i h1
  ·subst h1
   exact H4 (by assumption) (by assumption) hp.1 hp.2 (qh (by omega) fun i h1=>hallj i (by omega))
end Go.Proofs.YtafnhieaeejlcaaDoor
namespace Go.Proofs.YtafnhieaeejlcaaDoor
open Go Go.Ab
set_option maxRecDepth 100000
set_option maxHeartbeats 4000000
attribute [local irreducible] W WL eu kX fh eo gR WG FQ Want jO WI pM fQ eC
def bG(way len m:Int):List Hold→Int
 |[]=>len
 |h::hs=>if h.u>m then bc way len h.a else bG way len m hs
theorem GV{way len m:Int}{hs:List Hold}{k:Nat}(hi:bG way len m (hs.drop k)=bG way len m hs)(h:¬k<hs.length):len=bG way len m hs:=by
 rw[←hi,List.drop_eq_nil_of_le (by omega)];rfl
theorem HE{way len m:Int}{hs:List Hold}{k:Nat}(hi:bG way len m (hs.drop k)=bG way len m hs)(h:k<hs.length)(h2:(hs.getD k default).u>m):
 bc way len (hs.getD k default).a=bG way len m hs:=by
 rw[←hi,fo _ _ h,bG,if_pos h2]
theorem DJ{way len m:Int}{hs:List Hold}{k:Nat}(hi:bG way len m (hs.drop k)=bG way len m hs)(h:k<hs.length)(h1:¬(hs.getD k default).u>m):
 bG way len m (hs.drop (k+1))=bG way len m hs:=by
 rw[←hi,fo _ _ h,bG,if_neg h1]
theorem MW(t:Truck)(len m:Int)(hl:1≤len)(hl2:len≤100000)(ho:Bg len t.holds):au cJ 116 [.agg (fy t len), .int .i64 m] (.int .i64 (bG t.way len m t.holds)):=by
 refine aD (fn:=Tryd.f116) Tryd.func116 rfl (by kernel_rfl) rfl ?_ ?_ ?_
 ·exact af.cons (.agg _ (gZ t len)) (af.cons (.int _ _) af.nil)
 ·exact .int _ _
 intro w κ
 have hl8:=ho.1
 repeat' (first
  |(apply bT;apply TK;apply TK;(first|(apply aB<;>apply TK)|(apply aI<;>apply TK)|(apply aH<;>apply TK)|(apply aE<;>apply TK)|(apply aC<;>apply TK)|(apply ah<;>(first|apply TK|omega))|(apply bd<;>apply TK)|(apply cq<;>(first|apply TK|omega))|(apply aq<;>apply TK)|(apply aN<;>apply TK)))
  |apply ba
  |apply al
  |apply an
  |apply aG
  |apply bp
  |apply ck
  |apply aF
  |apply cP
  |apply aw
  |apply aS
  |apply bk
  |apply aZ
  |apply aQ
  |(apply bZ;apply TK;(first|(apply aR<;>apply TK)|(apply aP<;>apply TK)|(apply bP<;>apply TK)))
  |(apply cM;apply TK;intro _;rotate_left 1;intro _;rotate_left 1))
 refine dJ [1,2,9,10] [2] (fun k:Nat=>[(11, .int .i64 k)]) (fun _=>[]) (fun _=>[]) (fun k=>k≤t.holds.length∧bG t.way len m (t.holds.drop k)=bG t.way len m t.holds) (fun k=>t.holds.length-k) 0 ⟨Nat.zero_le _,rfl⟩ (by refine⟨?_, ?_, ?_⟩<;>repeat' (first|exact trivial|apply And.intro|apply TK|(apply gz;apply TK;first|omega|assumption)|(apply gL;apply TK;repeat' (first|apply TK|apply cf|(apply cj;first|apply TK|omega|assumption))))) (fun k h hi=> ?_)
 have hk:=hi.1
 have hb:∀hk' :(k:Int)<t.holds.length,1≤(t.holds.getD (k:Int).toNat default).a∧(t.holds.getD (k:Int).toNat default).a≤len-1:=fun h=>by
  have:=ho.2 k (by omega);simp only[Int.toNat_natCast];omega
 repeat' (first
  |(apply bT;apply TK;apply TK;(first|(apply aB<;>apply TK)|(apply aI<;>apply TK)|(apply aH<;>apply TK)|(apply aE<;>apply TK)|(apply aC<;>apply TK)|(apply ah<;>(first|apply TK|omega))|(apply bd<;>apply TK)|(apply cq<;>(first|apply TK|omega))|(apply aq<;>apply TK)|(apply aN<;>apply TK)))
  |apply ba
  |apply al
  |apply an
  |apply aG
  |apply bp
  |apply ck
  |apply aF
  |apply cP
  |apply aw
  |apply aS
  |apply bk
  |apply aZ
  |apply aQ
  |(apply aA;apply TK;apply TK;rotate_left 1;apply TK;rotate_right 1;exact(JA t len (t.holds.getD (k:Int).toNat default).a (by have:=hb (by assumption);omega) (by have:=hb (by assumption);omega) (by omega) (by omega));apply TK)
  |(apply bZ;apply TK;(first|(apply aR<;>apply TK)|(apply aP<;>apply TK)|(apply bP<;>apply TK)))
  |(apply cM;apply TK;intro _;rotate_left 1;intro _;rotate_left 1))
 all_goals try simp only[Int.toNat_natCast]at*
 all_goals first
  |(((try apply aM);first|(apply fb;apply TK;apply TK;try apply TK));exact HE hi.2 (by omega) (by assumption))
  |(((try apply aM);first|(apply fb;apply TK;apply TK;try apply TK));exact GV hi.2 (by omega))
  |(refine⟨k+1,⟨by omega,DJ hi.2 (by omega) (by omega)⟩,by omega,(by apply bJ;refine⟨?_, ?_, ?_, ?_, ?_⟩<;>repeat' (first|exact trivial|apply And.intro|apply TK|(apply gz;apply TK;first|omega|assumption)|(apply gL;apply TK;repeat' (first|apply TK|apply cf|(apply cj;first|apply TK|omega|assumption)))))⟩;done)
def jw(way len:Int)(hs:List Hold):Prop:=hs.Pairwise fun a b=>bc way len a.a<bc way len b.a
theorem uY{way len gone m:Int}:∀{hs:List Hold},gone≤bG way len m hs→eF way len gone m hs=bG way len m hs
 |[],_=>rfl
 |h::hs,hg=>by
  simp only[bG,eF]at hg⊢
  by_cases e:h.u>m
  ·rw[if_pos e]at hg⊢;rw[if_pos ⟨hg,e⟩]
  ·rw[if_neg e]at hg⊢;rw[if_neg (fun h=>e h.2)];exact uY hg
theorem oQ{way len m x:Int}:∀{hs:List Hold},x≤len→(∀h∈hs,x≤bc way len h.a)→x≤bG way len m hs
 |[],h,_=>h
 |h::hs,h1,h2=>by
  simp only[bG]
  split
  ·exact h2 h (List.mem_cons_self ..)
  ·exact oQ h1 fun y hy=>h2 y (List.mem_cons_of_mem _ hy)
theorem vN{way len m m' :Int}(hm:m≤m'):∀{hs:List Hold},jw way len hs→(∀h∈hs,bc way len h.a≤len)→bG way len m hs≤bG way len m' hs
 |[],_,_=>Int.le_refl _
 |h::hs,h1,h2=>by
  obtain⟨h3,h4⟩:=List.pairwise_cons.1 h1
  have hl:=h2 h (List.mem_cons_self ..)
  simp only[bG]
  by_cases e:h.u>m
  ·rw[if_pos e]
   by_cases e' :h.u>m'
   ·rw[if_pos e'];exact Int.le_refl _
   ·rw[if_neg e'];exact oQ hl fun y hy=>Int.le_of_lt (h3 y hy)
  ·rw[if_neg e,if_neg (by omega)];exact vN hm h4 fun y hy=>h2 y (List.mem_cons_of_mem _ hy)
theorem ju{way len:Int}{h:Hold}(h1:1≤h.a)(h2:h.a≤len-1):1≤bc way len h.a∧bc way len h.a≤len-1:=by
 unfold bc;split<;>omega
theorem jj{t:Truck}{len pace:Int}(hl:1≤len)(ho:Bg len t.holds)(hso:jw t.way len t.holds)(hp:1≤pace):∀k,dw t len pace k≤bG t.way len (t.start+k) t.holds
 |0=>by
  refine Int.le_trans (show dw t len pace 0≤1 from by simp only[dw];omega) (oQ hl fun h hh=> ?_)
  have:=ho.mem h hh
  exact(ju this.1 this.2.1).1
 |k+1=>by
  have ih:=jj hl ho hso hp k
  simp only[dw,iD]
  rw[uY ih]
  refine Int.le_trans (Int.min_le_right _ _) (vN (by push_cast;omega) hso fun h hh=> ?_)
  have:=ho.mem h hh
  have:=ju (way:=t.way) this.1 this.2.1
  omega
theorem eT{t:Truck}{len pace:Int}(hl:1≤len)(ho:Bg len t.holds)(hso:jw t.way len t.holds)(hp:1≤pace)(k:Nat):dw t len pace (k+1)=min (dw t len pace k+pace) (bG t.way len (t.start+k) t.holds):=by
 simp only[dw,iD]
 rw[uY (jj hl ho hso hp k)]
end Go.Proofs.YtafnhieaeejlcaaDoor
namespace Go.Proofs.YtafnhieaeejlcaaDoor
open Go Go.Ab
set_option maxRecDepth 100000
set_option maxHeartbeats 4000000
attribute [local irreducible] W WL eu kX fh eo gR WG FQ Want jO WI pM fQ eC
structure fc (len:Int) (t:Truck):Prop where
 l1:1≤len
 l2:len≤100000
 s1:0≤t.start
 s2:t.start≤10000
 p1:1≤t.lo
 p2:t.lo≤t.hi
 p3:t.hi≤1000
 d1:len≤1000*t.lo
 ho:Bg len t.holds
 so:jw t.way len t.holds
theorem fc.tok{len:Int}{t:Truck}(h:fc len t)(c:Convoy)(hc:c.len=len):xw c t:=by
 subst hc;exact⟨h.l1,h.l2,h.s1,h.s2,h.p1,h.p2,h.p3,h.d1,h.ho⟩
theorem fa{len:Int}{t:Truck}(h:fc len t){pace:Int}(hp:t.lo≤pace):dw t len pace (cn t len pace)=len∧(∀j,j<cn t len pace→dw t len pace j≠len)∧cn t len pace≤11000:=
 lQ (c:=⟨len,0,0,[]⟩) (h.tok _ rfl) hp
def gone(t:Truck)(len:Int)(k:Nat):Span:=⟨dw t len t.lo k,dw t len t.hi k⟩
def Om(t:Truck)(len:Int)(k:Nat):List D:=[.int .i64 (t.start+k), .agg (bC (gone t len k))]
theorem Ex{E:Env}{k:Nat}{Q:Nat→Bool→Exit→St→Prop}{S:St}{ops:Array Oper}{o:Oper}{rest:List Oper}{x:Operand}{xs:Array Operand}{ts:Array TypeId}{d:Nat}{A:List D}(ho:o.op= .call {callee:= .value x,args:=xs,argTypes:=ts})(hg:o.guard=none)(hd:o.dst=some d)
 (hx:S.ev (E.X k false fun _=>False) x= .yl E.l)(hA:xs.toList.map (S.ev (E.X k false fun _=>False))=A)(hv:xR S [] A (E.its k))(hk:k<E.n)
 (hT:pM E ops rest Q (k+1) false (S.set d (.bool true)))(hF:pM E ops rest Q (k+1) true (S.set d (.bool false))):pM E ops (o::rest) Q k false S:=yz (ps:=[]) ho hg hd hx hA hv hk hT hF
theorem Lm{S:St}{a b c:Int}:xR S [] [.int .i64 a, .agg [.int .i64 b, .int .i64 c]] [.int .i64 a, .agg [.int .i64 b, .int .i64 c]]:=
 .cons _ _ _ _ (.conv _ _ fun κ γ sv v h κ' γ' sv' =>by cases h;exact .int _ _) (.cons _ _ _ _ (.conv _ _ fun κ γ sv v h κ' γ' sv' =>by
  cases h with
  |agg _ vs hl=>
   cases hl with
   |cons _ _ _ _ h1 h2=>
    cases h2 with
    |cons _ _ _ _ h3 h4=>
     cases h4;cases h1;cases h3
     exact .agg _ _ (.cons _ _ _ _ (.int _ _) (.cons _ _ _ _ (.int _ _) .nil))) .nil)
theorem JJ(t:Truck)(len:Int)(k:Nat):af (Om t len k):=af.cons (.int _ _) (af.cons (.agg _ (cN _)) af.nil)
theorem i125(t:Truck)(len:Int)(h:fc len t):Og cJ 125 [.rp (fy t len) 0] (cn t len t.lo+1) (Om t len):=by
 obtain⟨l1,l2,s1,s2,p1,p2,p3,d1,ho,so⟩:=h
 have h:fc len t:=⟨l1,l2,s1,s2,p1,p2,p3,d1,ho,so⟩
 obtain⟨e1,e2,e3⟩:=fa h (Int.le_refl t.lo)
 have bnd:=fun k=>dH (t:=t) (pace:=t.lo) l1 ho p1 k
 have bnd2:=fun k=>dH (t:=t) (pace:=t.hi) l1 ho (by omega) k
 have nx1:=fun k=>eT (t:=t) (pace:=t.lo) l1 ho so p1 k
 have nx2:=fun k=>eT (t:=t) (pace:=t.hi) l1 ho so (by omega) k
 refine yL (fn:=Tryd.f125) Tryd.func125 rfl (by kernel_rfl) rfl (af.cons (.rp _ _ (gZ t len)) af.nil) (fun k _=>JJ t len k) rfl ?_
 rintro ⟨Z,nt,w,κ,l,n,vals,J,Jx,w1,κ1,ex,γp,svp,P,hw,hex,hκ,hκ1,hJ,hJx,hY⟩ rfl rfl rfl rfl
 repeat' (first
  |(apply bT;apply TK;apply TK;(first|(apply aB<;>apply TK)|(apply aI<;>apply TK)|(apply aH<;>apply TK)|(apply aE<;>apply TK)|(apply aC<;>apply TK)|(apply aX<;>apply TK)|(apply di<;>apply TK)|(apply iP<;>apply TK)|(apply ah<;>(first|apply TK|omega))|(apply bR<;>apply TK)|(apply bY<;>apply TK)|(apply aq<;>apply TK)|(apply aN<;>apply TK)|(apply bK<;>apply TK)|(apply kI<;>apply TK)|(apply HP<;>apply TK)))
  |apply al
  |apply aG
  |apply aS
  |apply bk
  |(apply bF;apply TK)
  |(apply bZ;apply TK;(first|(apply aP<;>apply TK)|(apply bP<;>apply TK)))
  |(apply dg;apply TK;apply TK;apply TK)
  |(apply eA;apply TK;apply TK;apply TK;apply TK;apply TK)
  |apply DL
  |apply xq
  |apply yX
  |apply Gq
  |apply yJ
  |apply wW
  |(apply Es;intro _)
  |(apply IM;intro _)
  |(apply cM;apply TK;intro _;rotate_left 1;intro _;rotate_left 1))
 refine HQ [0,1,3] [] (α:=Nat) (fun k=>(k,false)) (fun k=>[(4, .int .i64 (t.start+k))]) (fun _=>[(3,1)]) (fun k=>[(3, .box (bC (gone t len k)))]) (fun k=>k≤cn t len t.lo) (fun k=>cn t len t.lo-k) 0 (Nat.zero_le _) rfl (by refine⟨?_, ?_, ?_⟩<;>repeat' (first|exact trivial|apply And.intro|apply TK|(apply gz;apply TK;first|omega|assumption)|(apply gL;apply TK;repeat' (first|apply TK|apply cf|(apply cj;first|apply TK|omega|assumption))))) (fun k g hk=> ?_)
 have g1:0≤(gone t len k).lo∧(gone t len k).lo≤len:=bnd k
 have g2:0≤(gone t len k).hi∧(gone t len k).hi≤len:=bnd2 k
 have nx1k:(gone t len (k+1)).lo=min ((gone t len k).lo+t.lo) (bG t.way len (t.start+k) t.holds):=nx1 k
 have nx2k:(gone t len (k+1)).hi=min ((gone t len k).hi+t.hi) (bG t.way len (t.start+k) t.holds):=nx2 k
 have gh:k=cn t len t.lo→(gone t len k).lo=len:=fun e=>by rw[e];exact e1
 have gn:k≠cn t len t.lo→(gone t len k).lo≠len:=fun e=>e2 k (by omega)
 have st:=oQ (way:=t.way) (m:=t.start+k) (x:=1) l1 (fun h hh=>(ju (ho.mem h hh).1 (ho.mem h hh).2.1).1)
 repeat' (first
  |(apply zR (id:=2);apply GS 3;intro _)
  |(refine And.intro rfl ?_;apply Ex;apply TK;apply TK;apply TK;apply TK;apply TK;exact Lm;(show k<cn t len t.lo+1;omega))
  |(apply J7;intro _)
  |(apply bT;apply TK;apply TK;(first|(apply aB<;>apply TK)|(apply aI<;>apply TK)|(apply aH<;>apply TK)|(apply aE<;>apply TK)|(apply aC<;>apply TK)|(apply aX<;>apply TK)|(apply di<;>apply TK)|(apply iP<;>apply TK)|(apply ah<;>(first|apply TK|omega))|(apply bR<;>apply TK)|(apply bY<;>apply TK)|(apply aq<;>apply TK)|(apply aN<;>apply TK)|(apply bK<;>apply TK)|(apply kI<;>apply TK)|(apply HP<;>apply TK)))
  |apply al
  |apply aG
  |apply aS
  |apply bk
  |(apply bF;apply TK)
  |(apply aA;apply TK;apply TK;rotate_left 1;apply TK;rotate_right 1;exact(MW t len (t.start+k) l1 l2 ho);apply TK)
  |(apply bZ;apply TK;(first|(apply aP<;>apply TK)|(apply bP<;>apply TK)))
  |(apply dg;apply TK;apply TK;apply TK)
  |(apply eA;apply TK;apply TK;apply TK;apply TK;apply TK)
  |apply DL
  |apply xq
  |apply yX
  |apply Gq
  |apply yJ
  |apply wW
  |(apply Es;intro _)
  |(apply IM;intro _)
  |(apply cM;apply TK;intro _;rotate_left 1;intro _;rotate_left 1))
 ·exact⟨k+1,by omega,by omega,rfl,fun U=>(by apply bJ;refine⟨?_, ?_, ?_, ?_, ?_⟩<;>repeat' (first|exact trivial|apply And.intro|apply TK|(apply gz;apply TK;first|omega|assumption)|(apply gL;apply TK;repeat' (first|apply TK|apply cf|(apply cj;first|apply TK|omega|assumption)))))⟩
 ·exact⟨.inl rfl,fun _=>by(show k+1=_);omega,by(show k+1≤_);omega⟩
 ·exact⟨.inl rfl,fun h=>(by cases h),by(show k+1≤_);omega⟩
theorem Rz(t:Truck)(len:Int):au cJ 115 [.agg (fy t len)] (.fn 125 [.rp (fy t len) 0]):=by
 refine aD (fn:=Tryd.f115) Tryd.func115 rfl (by kernel_rfl) rfl ?_ ?_ ?_
 ·exact af.cons (.agg _ (gZ t len)) af.nil
 ·exact .fn _ _ (af.cons (.rp _ _ (gZ t len)) af.nil)
 intro w κ
 repeat' (first
  |(apply bT;apply TK;apply TK;(first|(apply NL<;>apply TK)|(apply Qt<;>apply TK)|(apply PZ<;>apply TK)))
  |apply ba
  |apply al
  |apply an
  |apply aG
  |apply aZ
  |(apply bZ;apply TK;(first|(apply aR<;>apply TK))))
 refine oc (qp 2 0 (s:=1) ⟨rfl,fun _ h=>h⟩ rfl rfl rfl rfl rfl) (aM ?_)
 ((try apply aM);first|(apply OH;apply TK;apply TK;try apply TK))
theorem MI(c:Convoy)(k:Nat)(b:Bool)(hk:k<c.trucks.length):au cJ 84 [.agg (aL c), .int .i64 k, .bool b] (.agg (fy (bf (c.trucks.getD k default) b) c.len)):=by
 refine aD (fn:=Tryd.f84) Tryd.func84 rfl (by kernel_rfl) rfl ?_ ?_ ?_
 ·exact af.cons (.agg _ (bn c)) (af.cons (.int _ _) (af.cons (.bool _) af.nil))
 ·exact .agg _ (gZ _ _)
 intro w κ
 cases b
 ·repeat' (first
  |(apply bT;apply TK;apply TK;(first|(apply aB<;>apply TK)|(apply aH<;>apply TK)|(apply aE<;>apply TK)|(apply aX<;>apply TK)|(apply cq<;>(first|apply TK|omega))|(apply aq<;>apply TK)|(apply aN<;>apply TK)))
  |apply ba
  |apply al
  |apply an
  |apply aG
  |apply aS
  |apply aZ
  |(apply bu;apply TK)
  |(apply bF;apply TK)
  |(apply bZ;apply TK;(first|(apply aR<;>apply TK)|(apply aP<;>apply TK)|(apply bP<;>apply TK)))
  |apply ay
  |(apply bw;kernel_rfl)
  |(apply dx;(first|(apply ab;apply TK)|(apply ae;apply TK;apply TK;apply TK));apply TK;first|(apply bB<;>apply TK)|(apply aV<;>apply TK)|(apply b8;apply TK)|(apply b7;apply TK)|(apply aO;intro _;(first|(apply aB<;>apply TK)|(apply aH<;>apply TK)|(apply aE<;>apply TK)|(apply aX<;>apply TK)|(apply cq<;>(first|apply TK|omega))|(apply aq<;>apply TK)|(apply aN<;>apply TK))))
  |(apply ft;(first|(apply ab;apply TK)|(apply ae;apply TK;apply TK;apply TK));(first|(apply cH<;>apply TK)|(apply dV<;>apply TK))))
  ((try apply aM);first|(apply jv;apply TK;apply TK;apply TK;apply TK;apply TK;apply TK;apply TK;apply TK;try apply TK))
 ·repeat' (first
  |(apply bT;apply TK;apply TK;(first|(apply aB<;>apply TK)|(apply aH<;>apply TK)|(apply aE<;>apply TK)|(apply aX<;>apply TK)|(apply cq<;>(first|apply TK|omega))|(apply aq<;>apply TK)|(apply aN<;>apply TK)))
  |apply ba
  |apply al
  |apply an
  |apply aG
  |apply aS
  |apply aZ
  |(apply bu;apply TK)
  |(apply bF;apply TK)
  |(apply bZ;apply TK;(first|(apply aR<;>apply TK)|(apply aP<;>apply TK)|(apply bP<;>apply TK)))
  |apply ay
  |(apply bw;kernel_rfl)
  |(apply dx;(first|(apply ab;apply TK)|(apply ae;apply TK;apply TK;apply TK));apply TK;first|(apply bB<;>apply TK)|(apply aV<;>apply TK)|(apply b8;apply TK)|(apply b7;apply TK)|(apply aO;intro _;(first|(apply aB<;>apply TK)|(apply aH<;>apply TK)|(apply aE<;>apply TK)|(apply aX<;>apply TK)|(apply cq<;>(first|apply TK|omega))|(apply aq<;>apply TK)|(apply aN<;>apply TK))))
  |(apply ft;(first|(apply ab;apply TK)|(apply ae;apply TK;apply TK;apply TK));(first|(apply cH<;>apply TK)|(apply dV<;>apply TK))))
  refine oc (yO 6 (l' :=fy (bf (c.trucks.getD k default) true) c.len) rfl ⟨.inl rfl, .inl rfl, .inl rfl, .inl rfl, .inr ⟨rfl,_,_,rfl⟩, .inl rfl,trivial⟩) (aM ?_)
  ((try apply aM);first|(apply jv;apply TK;apply TK;apply TK;apply TK;apply TK;apply TK;apply TK;apply TK;try apply TK))
def Ph(t:Truck)(len:Int):D:= .sl 2 (cn t len t.lo+1) fun k=>bC (gone t len k)
def dj(t:Truck)(len:Int):List D:=fy t len++[Ph t len]
theorem ff(t:Truck)(len:Int):af (dj t len):=fun d hd=>by
 rcases List.mem_append.1 hd with h|h
 ·exact gZ t len d h
 ·simp at h;subst h;exact .sl _ _ _ fun _ _ d hd=>cN _ d hd
theorem MD(t:Truck)(len:Int)(h:fc len t):au cJ 83 [.agg (fy t len)] (.agg (dj t len)):=by
 have hn:=(fa h (Int.le_refl t.lo)).2.2
 refine aD (fn:=Tryd.f83) Tryd.func83 rfl (by kernel_rfl) rfl ?_ ?_ ?_
 ·exact af.cons (.agg _ (gZ t len)) af.nil
 ·exact .agg _ (ff _ _)
 intro w κ
 repeat' (first
  |(apply bT;apply TK;apply TK;(first|(apply aH<;>apply TK)|(apply aE<;>apply TK)|(apply aq<;>apply TK)|(apply bK<;>apply TK)))
  |apply ba
  |apply al
  |apply an
  |apply aG
  |apply aF
  |apply aZ
  |apply aQ
  |(apply aA;apply TK;apply TK;rotate_left 1;apply TK;rotate_right 1;exact(Rz t len);apply TK)
  |(apply bZ;apply TK;(first|(apply aR<;>apply TK)|(apply aP<;>apply TK)|(apply bP<;>apply TK)|(apply qi<;>apply TK))))
 refine qU (K2 3 6 50 47 2 (fun k=>bC (gone t len k)) rfl rfl rfl rfl rfl) ?_
 refine Cv (Om t len) rfl (i125 t len h) (fun k _=>rfl) [1,2] (fun k=>[(3,1),(50,k+1)]) (fun k=>[(3, .box (fy t len++[.os 50 (k+1)])),(50, .arr 47 2 k (fun k=>bC (gone t len k)))]) (fun _ _=>False) ⟨⟨rfl,rfl,trivial⟩,rfl,rfl,trivial⟩ ?_ ?_ (fun _ h=>h.elim) (fun _ _ h=>h.elim) (fun _ _ h=>h.elim)
 ·intro k g hk hg κp γp svp T l Φ cl
  repeat' (first
  |(apply bT;apply TK;apply TK;(first|(apply aH<;>apply TK)|(apply aE<;>apply TK)|(apply aq<;>apply TK)|(apply bK<;>apply TK)))
  |apply ba
  |apply al
  |apply an
  |apply aG
  |apply aF
  |apply aZ
  |apply aQ
  |(apply bZ;apply TK;(first|(apply aR<;>apply TK)|(apply aP<;>apply TK)|(apply bP<;>apply TK)|(apply qi<;>apply TK))))
  refine And.intro rfl (fun Φ' cl' => ?_)
  repeat' (first
  |(apply bT;apply TK;apply TK;(first|(apply aH<;>apply TK)|(apply aE<;>apply TK)|(apply aq<;>apply TK)|(apply bK<;>apply TK)))
  |apply ba
  |apply al
  |apply an
  |apply aG
  |apply aF
  |apply aZ
  |apply aQ
  |(apply bZ;apply TK;(first|(refine yE (f' :=fun k=>bC (gone t len k)) rfl rfl rfl rfl rfl rfl rfl rfl rfl rfl rfl rfl rfl rfl rfl (by show(k+1)*16≤_;omega) (by omega) rfl (fun i hi=>rfl) (fun i hi=>by(obtain rfl:i=0:=by omega);rfl))|(apply aR<;>apply TK)|(apply aP<;>apply TK)|(apply bP<;>apply TK)|(apply qi<;>apply TK))))
  exact(by apply Np;refine⟨?_, ?_, ?_⟩<;>repeat' (first|exact trivial|apply And.intro|apply TK|(apply gz;apply TK;first|omega|assumption)|(apply gL;apply TK;repeat' (first|apply TK|apply cf|(apply cj;first|apply TK|omega|assumption)))))
 ·intro g
  repeat' (first
  |(apply bT;apply TK;apply TK;(first|(apply aH<;>apply TK)|(apply aE<;>apply TK)|(apply aq<;>apply TK)|(apply bK<;>apply TK)))
  |apply ba
  |apply al
  |apply an
  |apply aG
  |apply aF
  |apply aZ
  |apply aQ
  |(apply bZ;apply TK;(first|(apply aR<;>apply TK)|(apply aP<;>apply TK)|(apply bP<;>apply TK)|(apply qi<;>apply TK))))
  refine oc (kh 2 6 (s:=50) rfl rfl rfl rfl rfl) (aM ?_)
  ((try apply aM);first|(apply jv;apply TK;apply TK;apply TK;apply TK;apply TK;apply TK;apply TK;apply TK;try apply TK))
end Go.Proofs.YtafnhieaeejlcaaDoor
