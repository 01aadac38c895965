/- Walks by computing: what each function of the program that the laws reach gives for what it gets, as plain Lean, and that it is so; without a condition but those that stand in each theorem. -/
import Derived.Test.YtafnhieaeejlcaaDoorW1
import Derived.Test.YtafnhieaeejlcaaDoorW2
import Derived.Test.YtafnhieaeejlcaaDoorW3
import Derived.Test.YtafnhieaeejlcaaDoorW4
set_option linter.all false
namespace Go.Proofs.YtafnhieaeejlcaaDoor
open Go Go.Ab
set_option maxRecDepth 100000
set_option maxHeartbeats 4000000
attribute [local irreducible] W WL eh kL fe ee gN WG FQ Want jE WI pE fR eA
theorem Sd(t:Truck)(len:Int)(h:eZ len t):au cK 98 [.agg (dj t len)] (.int .i64 (t.start+cj t len t.lo)):=by
 have hn:=(eV h (Int.le_refl t.lo)).2.2
 have s1:=h.s1
 have s2:=h.s2
 refine aC (fn:=Tryd.f98) Tryd.func98 rfl (by kernel_rfl) rfl ?_ ?_ ?_
 ·exact af.cons (.agg _ (fb t len)) af.nil
 ·exact .int _ _
 intro w κ
 repeat' (first
  |(apply bU;apply Eq.refl;apply Eq.refl;(first|(apply aG<;>apply Eq.refl)|(apply aH<;>apply Eq.refl)|(apply aD<;>apply Eq.refl)|(apply ah<;>(first|apply Eq.refl|omega))|(apply ba<;>apply Eq.refl)))
  |apply aZ
  |apply ak
  |apply an
  |apply aE
  |apply aY
  |(apply bZ;apply Eq.refl;(first|(apply aT<;>apply Eq.refl))))
 ((try apply aL);first|(apply eY;apply Eq.refl;apply Eq.refl;try apply Eq.refl))
 push_cast;omega
theorem RG(x:Span)(t:Truck)(len:Int):au cK 124 [.agg (bA x), .rp (dj t len) 0] (.bool (decide (x.hi=len))):=by
 refine aC (fn:=Tryd.f124) Tryd.func124 rfl (by kernel_rfl) rfl ?_ ?_ ?_
 ·exact af.cons (.agg _ (cL x)) (af.cons (.rp _ _ (fb t len)) af.nil)
 ·exact .bool _
 intro w κ
 repeat' (first
  |(apply bU;apply Eq.refl;apply Eq.refl;(first|(apply aH<;>apply Eq.refl)|(apply aD<;>apply Eq.refl)|(apply aB<;>apply Eq.refl)|(apply bj<;>apply Eq.refl)|(apply di<;>apply Eq.refl)|(apply iN<;>apply Eq.refl)))
  |apply aZ
  |apply ak
  |apply an
  |apply aE
  |apply aY
  |(apply bZ;apply Eq.refl;(first|(apply aT<;>apply Eq.refl))))
 ((try apply aL);first|(apply iG;apply Eq.refl;apply Eq.refl;try apply Eq.refl))
def kh(p:Nat→Bool):Nat→Nat→Int
 |0,_=> -1
 |f+1,k=>if p k then k else kh p f (k+1)
theorem CF{p:Nat→Bool}{n k:Nat}{r:Int}(hi:kh p (n-k) k=r)(h:¬k<n): -1=r:=by rw[←hi,show n-k=0 by omega];rfl
theorem Bg{p:Nat→Bool}{n k:Nat}{r:Int}(hi:kh p (n-k) k=r)(h:k<n)(hp:p k=true):(k:Int)=r:=by
 rw[←hi,show n-k=(n-(k+1))+1 by omega,kh,if_pos hp]
theorem yt{p:Nat→Bool}{n k:Nat}{r:Int}(hi:kh p (n-k) k=r)(h:k<n)(hp:p k=false):kh p (n-(k+1)) (k+1)=r:=by
 rw[←hi,show n-k=(n-(k+1))+1 by omega,kh,hp];rfl
theorem zr{p:Nat→Bool}{K:Nat}(hK:p K=true)(h:∀j,j<K→p j=false):∀(f k:Nat),k≤K→K<k+f→kh p f k=K
 |0,k,h1,h2=>by omega
 |f+1,k,h1,h2=>by
  simp only[kh]
  by_cases e:k=K
  ·subst e;rw[if_pos hK]
  ·rw[h k (by omega)];exact zr hK h f (k+1) (by omega) (by omega)
theorem Rr(g:Nat→Span)(n:Nat)(hn:n≤100000)(f:FuncId)(c:List D)(p:Span→Bool)(hf:∀x,au cK f ([.agg (bA x)]++c) (.bool (p x))):
 au cK 123 [.sl 2 n (fun k=>bA (g k)), .fn f c] (.int .i64 (kh (fun k=>p (g k)) n 0)):=by
 have hpc:af c:=fun d hd=>(hf default).pureA d (by simp[hd])
 refine aC (fn:=Tryd.f123) Tryd.func123 rfl (by kernel_rfl) rfl ?_ ?_ ?_
 ·exact af.cons (.sl _ _ _ fun _ _ d hd=>cL _ d hd) (af.cons (.fn _ _ hpc) af.nil)
 ·exact .int _ _
 intro w κ
 repeat' (first
  |(apply bU;apply Eq.refl;apply Eq.refl;(first|(apply aA<;>apply Eq.refl)|(apply aG<;>apply Eq.refl)|(apply aB<;>apply Eq.refl)|(apply ah<;>(first|apply Eq.refl|omega))|(apply ba<;>apply Eq.refl)|(apply cq<;>(first|apply Eq.refl|omega))|(apply aM<;>apply Eq.refl)|(apply cO<;>apply Eq.refl)|(apply Mv<;>apply Eq.refl)))
  |apply aZ
  |apply ak
  |apply an
  |apply aE
  |apply bn
  |apply cg
  |apply aF
  |apply cN
  |apply aw
  |apply aS
  |apply bf
  |apply aY
  |apply aR
  |(apply cM;apply Eq.refl;intro _;rotate_left 1;intro _;rotate_left 1)
  |(apply eR;apply Eq.refl;intro _;rotate_left 1;intro _;rotate_left 1))
 refine dI [0,1,7] [] (fun k:Nat=>[(8, .int .i64 k)]) (fun _=>[]) (fun _=>[]) (fun k=>k≤n∧kh (fun k=>p (g k)) (n-k) k=kh (fun k=>p (g k)) n 0) (fun k=>n-k) 0 ⟨Nat.zero_le _,rfl⟩ (by refine⟨?_, ?_, ?_⟩<;>repeat' (first|exact trivial|apply And.intro|apply Eq.refl|(apply gv;apply Eq.refl;first|omega|assumption)|(apply gL;apply Eq.refl;repeat' (first|apply Eq.refl|apply cd|(apply cf;first|apply Eq.refl|omega|assumption))))) (fun k h hi=> ?_)
 have hk:=hi.1
 repeat' (first
  |(apply bU;apply Eq.refl;apply Eq.refl;(first|(apply aA<;>apply Eq.refl)|(apply aG<;>apply Eq.refl)|(apply aB<;>apply Eq.refl)|(apply ah<;>(first|apply Eq.refl|omega))|(apply ba<;>apply Eq.refl)|(apply cq<;>(first|apply Eq.refl|omega))|(apply aM<;>apply Eq.refl)|(apply cO<;>apply Eq.refl)|(apply Mv<;>apply Eq.refl)))
  |apply aZ
  |apply ak
  |apply an
  |apply aE
  |apply bn
  |apply cg
  |apply aF
  |apply cN
  |apply aw
  |apply aS
  |apply bf
  |apply aY
  |apply aR
  |(apply H6;apply Eq.refl;apply Eq.refl;apply Eq.refl;exact(hf (g (k:Int).toNat));(focus ((repeat' (first|exact iU.nil|refine iU.cons _ _ _ _ ?_ ?_|exact Fz.os _ _ _ _ _ _ rfl rfl|exact Fz.bx _ _ _ _ rfl rfl|refine Fz.fn _ _ _ ?_|exact Fz.same _|exact dp _ _));done));apply Eq.refl;apply Eq.refl)
  |(apply cM;apply Eq.refl;intro _;rotate_left 1;intro _;rotate_left 1)
  |(apply eR;apply Eq.refl;intro _;rotate_left 1;intro _;rotate_left 1))
 all_goals try simp only[Int.toNat_natCast]at*
 all_goals first
  |(refine⟨k+1,⟨by omega,yt hi.2 (by omega) (by assumption)⟩,by omega,(by apply bH;refine⟨?_, ?_, ?_, ?_, ?_⟩<;>repeat' (first|exact trivial|apply And.intro|apply Eq.refl|(apply gv;apply Eq.refl;first|omega|assumption)|(apply gL;apply Eq.refl;repeat' (first|apply Eq.refl|apply cd|(apply cf;first|apply Eq.refl|omega|assumption)))))⟩;done)
  |(((try apply aL);first|(apply eY;apply Eq.refl;apply Eq.refl;try apply Eq.refl));exact Bg hi.2 (by omega) (by assumption))
  |(((try apply aL);first|(apply eY;apply Eq.refl;apply Eq.refl;try apply Eq.refl));exact CF hi.2 (by omega))
theorem RL(g:Nat→Int)(n:Nat)(hn:n≤100000)(v:Int):au cK 113 [.sl 1 n (fun k=>fy (g k)), .int .i64 v] (.int .i64 (kh (fun k=>decide (v=g k)) n 0)):=by
 refine aC (fn:=Tryd.f113) Tryd.func113 rfl (by kernel_rfl) rfl ?_ ?_ ?_
 ·exact af.cons (.sl _ _ _ fun _ _ d hd=>z7 _ d hd) (af.cons (.int _ _) af.nil)
 ·exact .int _ _
 intro w κ
 repeat' (first
  |(apply bU;apply Eq.refl;apply Eq.refl;(first|(apply aA<;>apply Eq.refl)|(apply aG<;>apply Eq.refl)|(apply aB<;>apply Eq.refl)|(apply di<;>apply Eq.refl)|(apply ah<;>(first|apply Eq.refl|omega))|(apply ba<;>apply Eq.refl)|(apply cq<;>(first|apply Eq.refl|omega))|(apply cO<;>apply Eq.refl)))
  |apply aZ
  |apply ak
  |apply an
  |apply aE
  |apply bn
  |apply cg
  |apply aF
  |apply cN
  |apply aw
  |apply aS
  |apply bf
  |apply aY
  |apply aR
  |(apply cM;apply Eq.refl;intro _;rotate_left 1;intro _;rotate_left 1))
 refine dI [0,1,7] [] (fun k:Nat=>[(8, .int .i64 k)]) (fun _=>[]) (fun _=>[]) (fun k=>k≤n∧kh (fun k=>decide (v=g k)) (n-k) k=kh (fun k=>decide (v=g k)) n 0) (fun k=>n-k) 0 ⟨Nat.zero_le _,rfl⟩ (by refine⟨?_, ?_, ?_⟩<;>repeat' (first|exact trivial|apply And.intro|apply Eq.refl|(apply gv;apply Eq.refl;first|omega|assumption)|(apply gL;apply Eq.refl;repeat' (first|apply Eq.refl|apply cd|(apply cf;first|apply Eq.refl|omega|assumption))))) (fun k h hi=> ?_)
 have hk:=hi.1
 repeat' (first
  |(apply bU;apply Eq.refl;apply Eq.refl;(first|(apply aA<;>apply Eq.refl)|(apply aG<;>apply Eq.refl)|(apply aB<;>apply Eq.refl)|(apply di<;>apply Eq.refl)|(apply ah<;>(first|apply Eq.refl|omega))|(apply ba<;>apply Eq.refl)|(apply cq<;>(first|apply Eq.refl|omega))|(apply cO<;>apply Eq.refl)))
  |apply aZ
  |apply ak
  |apply an
  |apply aE
  |apply bn
  |apply cg
  |apply aF
  |apply cN
  |apply aw
  |apply aS
  |apply bf
  |apply aY
  |apply aR
  |(apply cM;apply Eq.refl;intro _;rotate_left 1;intro _;rotate_left 1))
 all_goals try simp only[Int.toNat_natCast]at*
 all_goals first
  |(refine⟨k+1,⟨by omega,yt hi.2 (by omega) (by simp;assumption)⟩,by omega,(by apply bH;refine⟨?_, ?_, ?_, ?_, ?_⟩<;>repeat' (first|exact trivial|apply And.intro|apply Eq.refl|(apply gv;apply Eq.refl;first|omega|assumption)|(apply gL;apply Eq.refl;repeat' (first|apply Eq.refl|apply cd|(apply cf;first|apply Eq.refl|omega|assumption)))))⟩;done)
  |(((try apply aL);first|(apply eY;apply Eq.refl;apply Eq.refl;try apply Eq.refl));exact Bg hi.2 (by omega) (by simp;assumption))
  |(((try apply aL);first|(apply eY;apply Eq.refl;apply Eq.refl;try apply Eq.refl));exact CF hi.2 (by omega))
def l9(g:Nat→Int):Nat→Int
 |0=>g 0
 |k+1=>max (l9 g k) (g (k+1))
theorem Rk(g:Nat→Int)(n:Nat)(hn:n≤100000)(h0:1≤n):au cK 114 [.sl 1 n (fun k=>fy (g k))] (.int .i64 (l9 g (n-1))):=by
 refine aC (fn:=Tryd.f114) Tryd.func114 rfl (by kernel_rfl) rfl ?_ ?_ ?_
 ·exact af.cons (.sl _ _ _ fun _ _ d hd=>z7 _ d hd) af.nil
 ·exact .int _ _
 intro w κ
 repeat' (first
  |(apply bU;apply Eq.refl;apply Eq.refl;(first|(apply aA<;>apply Eq.refl)|(apply aG<;>apply Eq.refl)|(apply aB<;>apply Eq.refl)|(apply di<;>apply Eq.refl)|(apply ah<;>(first|apply Eq.refl|omega))|(apply ba<;>apply Eq.refl)|(apply cq<;>(first|apply Eq.refl|omega))|(apply dL<;>apply Eq.refl)|(apply cO<;>apply Eq.refl)))
  |apply aZ
  |apply ak
  |apply an
  |apply aE
  |apply bn
  |apply aF
  |apply aw
  |apply aS
  |apply bf
  |apply aY
  |apply aR
  |(apply bZ;apply Eq.refl;(first|(apply lU<;>(first|apply Eq.refl|omega))))
  |(apply cM;apply Eq.refl;intro _;rotate_left 1;intro _;rotate_left 1))
 any_goals first|(exfalso;omega)|skip
 refine dI [0,2] [] (fun k:Nat=>[(3, .int .i64 (l9 g (k-1))),(4, .int .i64 k)]) (fun _=>[]) (fun _=>[]) (fun k=>1≤k∧k≤n) (fun k=>n-k) 1 ⟨Nat.le_refl _,h0⟩ (by refine⟨?_, ?_, ?_⟩<;>repeat' (first|exact trivial|apply And.intro|apply Eq.refl|(apply gv;apply Eq.refl;first|omega|assumption)|(apply gL;apply Eq.refl;repeat' (first|apply Eq.refl|apply cd|(apply cf;first|apply Eq.refl|omega|assumption))))) (fun k h hi=> ?_)
 have hk:=hi.1
 have hm:l9 g (k+1-1)=max (l9 g (k-1)) (g (k:Int).toNat):=by
  obtain⟨j,rfl⟩:∃j,k=j+1:=⟨k-1,by omega⟩
  rfl
 repeat' (first
  |(apply bU;apply Eq.refl;apply Eq.refl;(first|(apply aA<;>apply Eq.refl)|(apply aG<;>apply Eq.refl)|(apply aB<;>apply Eq.refl)|(apply di<;>apply Eq.refl)|(apply ah<;>(first|apply Eq.refl|omega))|(apply ba<;>apply Eq.refl)|(apply cq<;>(first|apply Eq.refl|omega))|(apply dL<;>apply Eq.refl)|(apply cO<;>apply Eq.refl)))
  |apply aZ
  |apply ak
  |apply an
  |apply aE
  |apply bn
  |apply aF
  |apply aw
  |apply aS
  |apply bf
  |apply aY
  |apply aR
  |(apply bZ;apply Eq.refl;(first|(apply lU<;>(first|apply Eq.refl|omega))))
  |(apply cM;apply Eq.refl;intro _;rotate_left 1;intro _;rotate_left 1))
 ·refine⟨k+1,⟨by omega,by omega⟩,by omega,(by apply bH;refine⟨?_, ?_, ?_, ?_, ?_⟩<;>repeat' (first|exact trivial|apply And.intro|apply Eq.refl|(apply gv;apply Eq.refl;first|omega|assumption)|(apply gL;apply Eq.refl;repeat' (first|apply Eq.refl|apply cd|(apply cf;first|apply Eq.refl|omega|assumption)))))⟩
 ·obtain rfl:k=n:=by omega
  ((try apply aL);first|(apply eY;apply Eq.refl;apply Eq.refl;try apply Eq.refl))
theorem mu{t:Truck}{len:Int}(h:eZ len t):∀k,dz t len t.lo k≤dz t len t.hi k
 |0=>Int.le_refl _
 |k+1=>by
  have ih:=mu h k
  have h2:=h.p2
  have h3:=h.p1
  rw[eS h.l1 h.ho h.so h.p1 k,eS h.l1 h.ho h.so (by omega) k]
  omega
theorem xl{t:Truck}{len:Int}(h:eZ len t):cj t len t.hi≤cj t len t.lo:=by
 obtain⟨e1,e2,_⟩:=eV h (Int.le_refl t.lo)
 obtain⟨f1,f2,_⟩:=eV h h.p2
 have hb:=(dK h.l1 h.ho (show 1≤t.hi by have:=h.p1;have:=h.p2;omega) (cj t len t.lo)).2
 have:=mu h (cj t len t.lo)
 have he:dz t len t.hi (cj t len t.lo)=len:=by omega
 exact Nat.le_of_not_lt fun hlt=>f2 _ hlt he
theorem Qb(t:Truck)(len:Int)(h:eZ len t):au cK 112 [.agg (dj t len)] (.int .i64 (t.start+cj t len t.hi)):=by
 have hn:=(eV h (Int.le_refl t.lo)).2.2
 obtain⟨f1,f2,f3⟩:=eV h h.p2
 have s1:=h.s1
 have s2:=h.s2
 have hx:kh (fun k=>decide ((gone t len k).hi=len)) (cj t len t.lo+1) 0=cj t len t.hi:=zr (decide_eq_true f1) (fun j hj=>decide_eq_false (f2 j hj)) _ 0 (Nat.zero_le _) (by have:=xl h;omega)
 have c1:=Rr (gone t len) (cj t len t.lo+1) (by omega) 124 [.rp (dj t len) 0] (fun x=>decide (x.hi=len)) (fun x=>RG x t len)
 rw[hx]at c1
 refine aC (fn:=Tryd.f112) Tryd.func112 rfl (by kernel_rfl) rfl ?_ ?_ ?_
 ·exact af.cons (.agg _ (fb t len)) af.nil
 ·exact .int _ _
 intro w κ
 repeat' (first
  |(apply bU;apply Eq.refl;apply Eq.refl;(first|(apply aG<;>apply Eq.refl)|(apply aH<;>apply Eq.refl)|(apply aD<;>apply Eq.refl)|(apply ah<;>(first|apply Eq.refl|omega))))
  |apply aZ
  |apply ak
  |apply an
  |apply aE
  |apply aY
  |(apply bZ;apply Eq.refl;(first|(apply aT<;>apply Eq.refl)))
  |apply ax
  |(apply bw;kernel_rfl)
  |(apply dx;(first|(apply ab;apply Eq.refl)|(apply ae;apply Eq.refl;apply Eq.refl;apply Eq.refl));apply Eq.refl;first|(apply bB<;>apply Eq.refl)|(apply aW<;>apply Eq.refl)|(apply b6;apply Eq.refl)|(apply b7;apply Eq.refl)|(apply aN;intro _;(first|(apply aG<;>apply Eq.refl)|(apply aH<;>apply Eq.refl)|(apply aD<;>apply Eq.refl)|(apply ah<;>(first|apply Eq.refl|omega)))))
  |(apply BL;(first|(apply ab;apply Eq.refl)|(apply ae;apply Eq.refl;apply Eq.refl;apply Eq.refl));apply Eq.refl;apply Eq.refl;exact(dp _ _);exact(c1);apply Eq.refl)
  |(apply BL;(first|(apply ab;apply Eq.refl)|(apply ae;apply Eq.refl;apply Eq.refl;apply Eq.refl));apply Eq.refl;apply Eq.refl;rotate_left 1;exact(c1);apply Eq.refl;rotate_left 1;(focus ((repeat' (first|exact iU.nil|refine iU.cons _ _ _ _ ?_ ?_|exact Fz.os _ _ _ _ _ _ rfl rfl|exact Fz.bx _ _ _ _ rfl rfl|refine Fz.fn _ _ _ ?_|exact Fz.same _|exact dp _ _));done))))
 ((try apply aL);first|(apply eY;apply Eq.refl;apply Eq.refl;try apply Eq.refl))
end Go.Proofs.YtafnhieaeejlcaaDoor
namespace Go.Proofs.YtafnhieaeejlcaaDoor
open Go Go.Ab
set_option maxRecDepth 100000
set_option maxHeartbeats 4000000
attribute [local irreducible] W WL eh kL fe ee gN WG FQ Want jE WI pE fR eA
theorem qb{way len:Int}:∀{hs:List Hold} {p:Option Int},cZ way len p hs=0→ng way len hs∧∀q,p=some q→∀h∈hs,q<br way len h.a
 |[],_,_=>⟨List.Pairwise.nil,fun _ _ h hh=>by cases hh⟩
 |h::hs,p,h0=>by
  rw[fc]at h0
  split at h0
  ·cases h0
  ·have rest:cZ way len (some (br way len h.a)) hs=0∧∀q,p=some q→q<br way len h.a:=by
    split at h0
    ·rename_i q
     split at h0
     ·cases h0
     ·rename_i hq;exact⟨h0,fun q' e=>by cases e;omega⟩
    ·exact⟨h0,fun q' e=>by cases e⟩
   obtain⟨r1,r2⟩:=rest
   obtain⟨i1,i2⟩:=qb r1
   refine⟨List.pairwise_cons.2 ⟨fun y hy=>i2 _ rfl y hy,i1⟩,fun q hq y hy=> ?_⟩
   rcases List.mem_cons.1 hy with rfl|hy
   ·exact r2 q hq
   ·have:=i2 _ rfl y hy
    have:=r2 q hq
    omega
theorem Nl{c:Convoy}{t:Truck}(h1:1≤c.len)(h2:c.len≤100000)(h:bO c t=0):eZ c.len t:=by
 obtain⟨a1,a2,a3,a4,a5,a6,a7,a8,a9⟩:=I3 h1 h2 h
 refine⟨a1,a2,a3,a4,a5,a6,a7,a8,a9, ?_⟩
 unfold bO at h
 split at h;·cases h
 split at h;·cases h
 split at h;·cases h
 split at h;·cases h
 split at h;·cases h
 split at h;·cases h
 exact(qb h).1
theorem eZ.free{len:Int}{t:Truck}(h:eZ len t)(b:Bool):eZ len (bb t b):=by
 cases b
 ·exact h
 ·exact⟨h.l1,h.l2,h.s1,h.s2,h.p1,h.p2,h.p3,h.d1,⟨Nat.zero_le _,fun k hk=>by cases hk⟩,List.Pairwise.nil⟩
structure CR (c:Convoy):Prop where
 ok:OT c
 r:∀k,k<c.trucks.length→eZ c.len (c.trucks.getD k default)
theorem fC{c:Convoy}(h:al c=0):CR c:=by
 have hc:=AJ h
 refine⟨hc,fun k hk=>Nl hc.l1 hc.l2 ?_⟩
 unfold al at h
 split at h;·cases h
 split at h;·cases h
 exact fA h _ (by simp[List.getD,hk])
theorem Ia{c:Convoy}{t:Truck}(h:eZ c.len t):(jO c t).lo=t.start+cj t c.len t.hi:=by
 simp only[jO];rw[if_pos (xl h)]
theorem se{c:Convoy}(h:CR c){k:Nat}(hk:k<c.trucks.length):cQ c k=(c.trucks.getD k default).start+cj (c.trucks.getD k default) c.len (c.trucks.getD k default).hi:=Ia (h.r k hk)
theorem v9{c:Convoy}(h:CR c){k:Nat}(hk:k<c.trucks.length):eK c k=(c.trucks.getD k default).start+cj (bb (c.trucks.getD k default) true) c.len (c.trucks.getD k default).hi:=Ia ((h.r k hk).free true)
def iB(s:Nat→Int)(n:Nat):Nat:=(kh (fun i=>decide (l9 s (n-1)=s i)) n 0).toNat
def Qg(s:Nat→Int)(k:Nat):Nat→Int:=fun i=>if i=k then -1 else s i
def de(s:Nat→Int)(n:Nat):Nat→Nat→Int
 |0=>s
 |m+1=>Qg (de s n m) (iB (de s n m) n)
def CO(s fast:Nat→Int)(n:Nat):Nat→Int
 |0=>0
 |m+1=>max (CO s fast n m) (fast (iB (de s n m) n))
def tu(lo:Int)(s:Nat→Int):Nat→Int
 |0=>lo
 |k+1=>max (tu lo s k) (s k)
def eQ(c:Convoy):Nat:=min c.fails.toNat c.trucks.length
def lC(c:Convoy):Int:=tu (CO (cQ c) (eK c) c.trucks.length (eQ c)) (de (cQ c) c.trucks.length (eQ c)) c.trucks.length
def qC(c:Convoy):Span:=⟨lC c,dA (fx c) c.trucks.length⟩
theorem Ce(s:Nat→Int):∀n,∃k,k≤n∧l9 s n=s k
 |0=>⟨0,Nat.le_refl _,rfl⟩
 |n+1=>by
  obtain⟨k,h1,h2⟩:=Ce s n
  simp only[l9]
  by_cases h:s (n+1)≤l9 s n
  ·exact⟨k,by omega,by omega⟩
  ·exact⟨n+1,Nat.le_refl _,by omega⟩
theorem E9(s:Nat→Int):∀n k,k≤n→s k≤l9 s n
 |0,k,h=>by obtain rfl:k=0:=by omega
            exact Int.le_refl _
 |n+1,k,h=>by
  simp only[l9]
  by_cases e:k=n+1
  ·subst e;omega
  ·have:=E9 s n k (by omega);omega
theorem xi{p:Nat→Bool}:∀(f k K:Nat),k≤K→K<k+f→p K=true→∃j,k≤j∧j≤K∧p j=true∧kh p f k=j
 |0,k,K,h1,h2,_=>by omega
 |f+1,k,K,h1,h2,h3=>by
  simp only[kh]
  by_cases e:p k=true
  ·rw[if_pos e];exact⟨k,Nat.le_refl _,h1,e,rfl⟩
  ·rw[if_neg e]
   have hne:k≠K:=fun h=>e (h▸h3)
   obtain⟨j,a,b,d,e⟩:=xi f (k+1) K (by omega) (by omega) h3
   exact⟨j,by omega,b,d,e⟩
theorem qy(s:Nat→Int){n:Nat}(hn:1≤n):iB s n<n∧s (iB s n)=l9 s (n-1)∧kh (fun i=>decide (l9 s (n-1)=s i)) n 0=(iB s n:Int):=by
 obtain⟨K,h1,h2⟩:=Ce s (n-1)
 obtain⟨j,a,b,d,e⟩:=xi (p:=fun i=>decide (l9 s (n-1)=s i)) n 0 K (Nat.zero_le _) (by omega) (by simpa using h2)
 have hw:iB s n=j:=by unfold iB;rw[e];rfl
 rw[hw]
 exact⟨by omega,by simpa using(of_decide_eq_true d).symm,e⟩
theorem Fh(f:Nat→Int)(k:Nat):dA f (k+1)=max (dA f k) (f k):=rfl
theorem wM(s:Nat→Int)(n:Nat):de s n 0=s:=rfl
theorem Jv(s f:Nat→Int)(n:Nat):CO s f n 0=0:=rfl
theorem zb(lo:Int)(s:Nat→Int):tu lo s 0=lo:=rfl
theorem kg(s:Nat→Int)(n m i:Nat):de s n (m+1) i=if i=iB (de s n m) n then -1 else de s n m i:=rfl
theorem qP(s f:Nat→Int)(n m:Nat):CO s f n (m+1)=max (CO s f n m) (f (iB (de s n m) n)):=rfl
theorem pf(lo:Int)(s:Nat→Int)(k:Nat):tu lo s (k+1)=max (tu lo s k) (s k):=rfl
theorem Rx(g:Nat→Int)(j:Nat)(v:Int)(i:Nat):nV (fun i=>fy (g i)) j [.int .i64 v] i=fy (if i=j then v else g i):=by
 unfold nV;split<;>simp[fy]
theorem sq(c:Convoy)(k:Nat):fx c k=(c.trucks.getD k default).start+cj (c.trucks.getD k default) c.len (c.trucks.getD k default).lo:=rfl
attribute [local irreducible] iB de CO tu l9 cQ eK fx dA
theorem Rg(c:Convoy)(hc:CR c):au cK 81 [.agg (aI c)] (.agg (bA (qC c))):=by
 refine aC (fn:=Tryd.f81) Tryd.func81 rfl (by kernel_rfl) rfl ?_ ?_ ?_
 ·exact af.cons (.agg _ (bm c)) af.nil
 ·exact .agg _ (cL _)
 intro w κ
 have hn:=hc.ok.n
 have hf1:=hc.ok.f1
 have hf2:=hc.ok.f2
 have hmax0:=mN (fx c)
 repeat' (first
  |(apply bU;apply Eq.refl;apply Eq.refl;(first|(apply aA<;>apply Eq.refl)|(apply aG<;>apply Eq.refl)|(apply aH<;>apply Eq.refl)|(apply aD<;>apply Eq.refl)|(apply aB<;>apply Eq.refl)|(apply ah<;>(first|apply Eq.refl|omega))|(apply ba<;>apply Eq.refl)|(apply aq<;>apply Eq.refl)|(apply j7<;>apply Eq.refl)|(apply dL<;>apply Eq.refl)|(apply mi<;>(first|apply Eq.refl|omega))|(apply kP<;>(first|apply Eq.refl|omega))|(apply iV<;>apply Eq.refl)|(apply dt<;>apply Eq.refl)|(apply dn<;>apply Eq.refl)|(apply dr<;>apply Eq.refl)))
  |apply aZ
  |apply ak
  |apply an
  |apply aE
  |apply bn
  |apply aF
  |apply aw
  |apply aS
  |apply bf
  |apply aY
  |apply aR
  |(apply bZ;apply Eq.refl;(first|(apply aT<;>apply Eq.refl)|(apply aO<;>apply Eq.refl)|(apply bM<;>apply Eq.refl)|(apply lU<;>(first|apply Eq.refl|omega))))
  |apply ax
  |(apply bw;kernel_rfl)
  |(apply dx;(first|(apply ab;apply Eq.refl)|(apply ae;apply Eq.refl;apply Eq.refl;apply Eq.refl));apply Eq.refl;first|(apply bB<;>apply Eq.refl)|(apply aW<;>apply Eq.refl)|(apply b6;apply Eq.refl)|(apply b7;apply Eq.refl)|(apply aN;intro _;(first|(apply aA<;>apply Eq.refl)|(apply aG<;>apply Eq.refl)|(apply aH<;>apply Eq.refl)|(apply aD<;>apply Eq.refl)|(apply aB<;>apply Eq.refl)|(apply ah<;>(first|apply Eq.refl|omega))|(apply ba<;>apply Eq.refl)|(apply aq<;>apply Eq.refl)|(apply j7<;>apply Eq.refl)|(apply dL<;>apply Eq.refl)|(apply mi<;>(first|apply Eq.refl|omega))|(apply kP<;>(first|apply Eq.refl|omega))|(apply iV<;>apply Eq.refl)|(apply dt<;>apply Eq.refl)|(apply dn<;>apply Eq.refl)|(apply dr<;>apply Eq.refl))))
  |(apply fj;(first|(apply ab;apply Eq.refl)|(apply ae;apply Eq.refl;apply Eq.refl;apply Eq.refl));(first|(apply cJ<;>apply Eq.refl)|(apply dT<;>apply Eq.refl)|(apply g4<;>apply Eq.refl)))
  |(apply cM;apply Eq.refl;intro _;rotate_left 1;intro _;rotate_left 1))
 refine qI (qg 4 4 3 1 (fun i=>fy (cQ c i)) rfl) ?_
 refine qI (qg 5 5 3 1 (fun i=>fy (eK c i)) rfl) ?_
 refine dI [1,2,3,15] [1,2] (fun k:Nat=>[(4, .os 4 (k+1)),(5, .os 5 (k+1)),(16, .int .i64 k)]) (fun k=>[(3,1),(4,k+1),(5,k+1)])
  (fun k=>[(3, .box [.int .i64 0, .int .i64 (dA (fx c) k)]),(4, .arr 3 1 k (fun i=>fy (cQ c i))),(5, .arr 3 1 k (fun i=>fy (eK c i)))])
  (fun k=>k≤c.trucks.length) (fun k=>c.trucks.length-k) 0 (Nat.zero_le _) (by refine⟨?_, ?_, ?_⟩<;>repeat' (first|exact trivial|apply And.intro|apply Eq.refl|(apply gv;apply Eq.refl;first|omega|assumption)|(apply gL;apply Eq.refl;repeat' (first|apply Eq.refl|apply cd|(apply cf;first|apply Eq.refl|omega|assumption))))) (fun k h hk=> ?_)
 have hr:(k:Int)<c.trucks.length→eZ c.len (c.trucks.getD k default):=fun h=>hc.r _ (by omega)
 have k1:(k:Int)<c.trucks.length→au cK 112 [.agg (dj (bb (c.trucks.getD k default) false) c.len)] (.int .i64 (cQ c k)):=fun h=>by rw[se hc (by omega)];exact Qb _ _ (hr h)
 have k2:(k:Int)<c.trucks.length→au cK 112 [.agg (dj (bb (c.trucks.getD k default) true) c.len)] (.int .i64 (eK c k)):=fun h=>by rw[v9 hc (by omega)];exact Qb _ _ ((hr h).free true)
 have k3:(k:Int)<c.trucks.length→au cK 98 [.agg (dj (bb (c.trucks.getD k default) false) c.len)] (.int .i64 (fx c k)):=fun h=>by rw[sq];exact Sd _ _ (hr h)
 repeat' (first
  |(apply bU;apply Eq.refl;apply Eq.refl;(first|(apply aA<;>apply Eq.refl)|(apply aG<;>apply Eq.refl)|(apply aH<;>apply Eq.refl)|(apply aD<;>apply Eq.refl)|(apply aB<;>apply Eq.refl)|(apply ah<;>(first|apply Eq.refl|omega))|(apply ba<;>apply Eq.refl)|(apply aq<;>apply Eq.refl)|(apply j7<;>apply Eq.refl)|(apply dL<;>apply Eq.refl)|(apply mi<;>(first|apply Eq.refl|omega))|(apply kP<;>(first|apply Eq.refl|omega))|(apply iV<;>apply Eq.refl)|(apply dt<;>apply Eq.refl)|(apply dn<;>apply Eq.refl)|(apply dr<;>apply Eq.refl)))
  |apply aZ
  |apply ak
  |apply an
  |apply aE
  |apply bn
  |apply aF
  |apply aw
  |apply aS
  |apply bf
  |apply aY
  |apply aR
  |(apply dU;apply Eq.refl;apply Eq.refl;rotate_left 1;exact(dp _ _);rotate_right 1;exact(Mw c k false (by omega));apply Eq.refl;apply Eq.refl)
  |(apply dU;apply Eq.refl;apply Eq.refl;exact(Mw c k false (by omega));(focus ((repeat' (first|exact iU.nil|refine iU.cons _ _ _ _ ?_ ?_|exact Fz.os _ _ _ _ _ _ rfl rfl|exact Fz.bx _ _ _ _ rfl rfl|refine Fz.fn _ _ _ ?_|exact Fz.same _|exact dp _ _));done));apply Eq.refl;apply Eq.refl)
  |(apply dU;apply Eq.refl;apply Eq.refl;rotate_left 1;exact(dp _ _);rotate_right 1;exact(Mw c k true (by omega));apply Eq.refl;apply Eq.refl)
  |(apply dU;apply Eq.refl;apply Eq.refl;exact(Mw c k true (by omega));(focus ((repeat' (first|exact iU.nil|refine iU.cons _ _ _ _ ?_ ?_|exact Fz.os _ _ _ _ _ _ rfl rfl|exact Fz.bx _ _ _ _ rfl rfl|refine Fz.fn _ _ _ ?_|exact Fz.same _|exact dp _ _));done));apply Eq.refl;apply Eq.refl)
  |(apply dU;apply Eq.refl;apply Eq.refl;rotate_left 1;exact(dp _ _);rotate_right 1;exact(Md (bb (c.trucks.getD k default) false) c.len ((hr (by assumption)).free false));apply Eq.refl;apply Eq.refl)
  |(apply dU;apply Eq.refl;apply Eq.refl;exact(Md (bb (c.trucks.getD k default) false) c.len ((hr (by assumption)).free false));(focus ((repeat' (first|exact iU.nil|refine iU.cons _ _ _ _ ?_ ?_|exact Fz.os _ _ _ _ _ _ rfl rfl|exact Fz.bx _ _ _ _ rfl rfl|refine Fz.fn _ _ _ ?_|exact Fz.same _|exact dp _ _));done));apply Eq.refl;apply Eq.refl)
  |(apply dU;apply Eq.refl;apply Eq.refl;rotate_left 1;exact(dp _ _);rotate_right 1;exact(Md (bb (c.trucks.getD k default) true) c.len ((hr (by assumption)).free true));apply Eq.refl;apply Eq.refl)
  |(apply dU;apply Eq.refl;apply Eq.refl;exact(Md (bb (c.trucks.getD k default) true) c.len ((hr (by assumption)).free true));(focus ((repeat' (first|exact iU.nil|refine iU.cons _ _ _ _ ?_ ?_|exact Fz.os _ _ _ _ _ _ rfl rfl|exact Fz.bx _ _ _ _ rfl rfl|refine Fz.fn _ _ _ ?_|exact Fz.same _|exact dp _ _));done));apply Eq.refl;apply Eq.refl)
  |(apply dU;apply Eq.refl;apply Eq.refl;rotate_left 1;exact(dp _ _);rotate_right 1;exact(k1 (by assumption));apply Eq.refl;apply Eq.refl)
  |(apply dU;apply Eq.refl;apply Eq.refl;exact(k1 (by assumption));(focus ((repeat' (first|exact iU.nil|refine iU.cons _ _ _ _ ?_ ?_|exact Fz.os _ _ _ _ _ _ rfl rfl|exact Fz.bx _ _ _ _ rfl rfl|refine Fz.fn _ _ _ ?_|exact Fz.same _|exact dp _ _));done));apply Eq.refl;apply Eq.refl)
  |(apply dU;apply Eq.refl;apply Eq.refl;rotate_left 1;exact(dp _ _);rotate_right 1;exact(k2 (by assumption));apply Eq.refl;apply Eq.refl)
  |(apply dU;apply Eq.refl;apply Eq.refl;exact(k2 (by assumption));(focus ((repeat' (first|exact iU.nil|refine iU.cons _ _ _ _ ?_ ?_|exact Fz.os _ _ _ _ _ _ rfl rfl|exact Fz.bx _ _ _ _ rfl rfl|refine Fz.fn _ _ _ ?_|exact Fz.same _|exact dp _ _));done));apply Eq.refl;apply Eq.refl)
  |(apply dU;apply Eq.refl;apply Eq.refl;rotate_left 1;exact(dp _ _);rotate_right 1;exact(k3 (by assumption));apply Eq.refl;apply Eq.refl)
  |(apply dU;apply Eq.refl;apply Eq.refl;exact(k3 (by assumption));(focus ((repeat' (first|exact iU.nil|refine iU.cons _ _ _ _ ?_ ?_|exact Fz.os _ _ _ _ _ _ rfl rfl|exact Fz.bx _ _ _ _ rfl rfl|refine Fz.fn _ _ _ ?_|exact Fz.same _|exact dp _ _));done));apply Eq.refl;apply Eq.refl)
  |(apply bZ;apply Eq.refl;(first|(apply aT<;>apply Eq.refl)|(apply aO<;>apply Eq.refl)|(apply bM<;>apply Eq.refl)|(apply lU<;>(first|apply Eq.refl|omega))))
  |apply ax
  |(apply bw;kernel_rfl)
  |(apply dx;(first|(apply ab;apply Eq.refl)|(apply ae;apply Eq.refl;apply Eq.refl;apply Eq.refl));apply Eq.refl;first|(apply bB<;>apply Eq.refl)|(apply aW<;>apply Eq.refl)|(apply b6;apply Eq.refl)|(apply b7;apply Eq.refl)|(apply aN;intro _;(first|(apply aA<;>apply Eq.refl)|(apply aG<;>apply Eq.refl)|(apply aH<;>apply Eq.refl)|(apply aD<;>apply Eq.refl)|(apply aB<;>apply Eq.refl)|(apply ah<;>(first|apply Eq.refl|omega))|(apply ba<;>apply Eq.refl)|(apply aq<;>apply Eq.refl)|(apply j7<;>apply Eq.refl)|(apply dL<;>apply Eq.refl)|(apply mi<;>(first|apply Eq.refl|omega))|(apply kP<;>(first|apply Eq.refl|omega))|(apply iV<;>apply Eq.refl)|(apply dt<;>apply Eq.refl)|(apply dn<;>apply Eq.refl)|(apply dr<;>apply Eq.refl))))
  |(apply az;(first|(apply ab;apply Eq.refl)|(apply ae;apply Eq.refl;apply Eq.refl;apply Eq.refl));apply Eq.refl;apply Eq.refl;apply Eq.refl;exact(Mw c k false (by omega)))
  |(apply az;(first|(apply ab;apply Eq.refl)|(apply ae;apply Eq.refl;apply Eq.refl;apply Eq.refl));apply Eq.refl;apply Eq.refl;apply Eq.refl;exact(Mw c k true (by omega)))
  |(apply az;(first|(apply ab;apply Eq.refl)|(apply ae;apply Eq.refl;apply Eq.refl;apply Eq.refl));apply Eq.refl;apply Eq.refl;apply Eq.refl;exact(Md (bb (c.trucks.getD k default) false) c.len ((hr (by assumption)).free false)))
  |(apply az;(first|(apply ab;apply Eq.refl)|(apply ae;apply Eq.refl;apply Eq.refl;apply Eq.refl));apply Eq.refl;apply Eq.refl;apply Eq.refl;exact(Md (bb (c.trucks.getD k default) true) c.len ((hr (by assumption)).free true)))
  |(apply az;(first|(apply ab;apply Eq.refl)|(apply ae;apply Eq.refl;apply Eq.refl;apply Eq.refl));apply Eq.refl;apply Eq.refl;apply Eq.refl;exact(k1 (by assumption)))
  |(apply az;(first|(apply ab;apply Eq.refl)|(apply ae;apply Eq.refl;apply Eq.refl;apply Eq.refl));apply Eq.refl;apply Eq.refl;apply Eq.refl;exact(k2 (by assumption)))
  |(apply az;(first|(apply ab;apply Eq.refl)|(apply ae;apply Eq.refl;apply Eq.refl;apply Eq.refl));apply Eq.refl;apply Eq.refl;apply Eq.refl;exact(k3 (by assumption)))
  |(apply fj;(first|(apply ab;apply Eq.refl)|(apply ae;apply Eq.refl;apply Eq.refl;apply Eq.refl));(first|(refine tR (f' :=fun i=>fy (cQ c i)) rfl rfl rfl rfl rfl rfl rfl rfl rfl rfl rfl rfl rfl rfl rfl (by first|omega|(show(k+1)*8≤_;omega)) (by omega) rfl (fun i hi=>rfl) (fun i hi=>by(obtain rfl:i=0:=by omega);rfl))|(refine tR (f' :=fun i=>fy (eK c i)) rfl rfl rfl rfl rfl rfl rfl rfl rfl rfl rfl rfl rfl rfl rfl (by first|omega|(show(k+1)*8≤_;omega)) (by omega) rfl (fun i hi=>rfl) (fun i hi=>by(obtain rfl:i=0:=by omega);rfl))|(apply cJ<;>apply Eq.refl)|(apply dT<;>apply Eq.refl)|(apply g4<;>apply Eq.refl)))
  |(apply cM;apply Eq.refl;intro _;rotate_left 1;intro _;rotate_left 1))
 ·have hmk:=Fh (fx c) k
  exact⟨k+1,by omega,by omega,(by apply bH;refine⟨?_, ?_, ?_, ?_, ?_⟩<;>repeat' (first|exact trivial|apply And.intro|apply Eq.refl|(apply gv;apply Eq.refl;first|omega|assumption)|(apply gL;apply Eq.refl;repeat' (first|apply Eq.refl|apply cd|(apply cf;first|apply Eq.refl|omega|assumption)))))⟩
 obtain rfl:k=c.trucks.length:=by omega
 clear k1 k2 k3 hr
 have hz1:=wM (cQ c) c.trucks.length
 have hz2:=Jv (cQ c) (eK c) c.trucks.length
 have hfp:((eQ c:Nat):Int)=min c.fails c.trucks.length:=by unfold eQ;omega
 refine dI [1,2,3,5] [1,2,5] (fun m:Nat=>[(4, .os 4 (c.trucks.length+1)),(9, .int .i64 m)]) (fun m=>[(3,1),(4,c.trucks.length+1)])
  (fun m=>[(3, .box [.int .i64 (CO (cQ c) (eK c) c.trucks.length m), .int .i64 (dA (fx c) c.trucks.length)]),(4, .arr 3 1 c.trucks.length (fun i=>fy (de (cQ c) c.trucks.length m i)))])
  (fun m=>m≤eQ c) (fun m=>eQ c-m) 0 (Nat.zero_le _) (by refine⟨?_, ?_, ?_⟩<;>repeat' (first|exact trivial|apply And.intro|apply Eq.refl|(apply gv;apply Eq.refl;first|omega|assumption)|(apply gL;apply Eq.refl;repeat' (first|apply Eq.refl|apply cd|(apply cf;first|apply Eq.refl|omega|assumption)))|(apply L2;apply Eq.refl;intro i;rw[hz1]))) (fun m g hm=> ?_)
 have hw:m<eQ c→_:=fun h=>qy (de (cQ c) c.trucks.length m) (n:=c.trucks.length) (by omega)
 have k1:m<eQ c→au cK 114 [.sl 1 c.trucks.length (fun i=>fy (de (cQ c) c.trucks.length m i))] _:=fun h=>Rk _ _ (by omega) (by omega)
 have k2:m<eQ c→au cK 113 [.sl 1 c.trucks.length (fun i=>fy (de (cQ c) c.trucks.length m i)), .int .i64 (l9 (de (cQ c) c.trucks.length m) (c.trucks.length-1))] (.int .i64 ((iB (de (cQ c) c.trucks.length m) c.trucks.length:Nat):Int)):=fun h=>by
  rw[←(hw h).2.2];exact RL _ _ (by omega) _
 have hw1:m<eQ c→iB (de (cQ c) c.trucks.length m) c.trucks.length<c.trucks.length:=fun h=>(hw h).1
 have hl2:max (CO (cQ c) (eK c) c.trucks.length m) (eK c ((iB (de (cQ c) c.trucks.length m) c.trucks.length:Nat):Int).toNat)=CO (cQ c) (eK c) c.trucks.length (m+1):=(qP (cQ c) (eK c) c.trucks.length m).symm
 have hs2:=kg (cQ c) c.trucks.length m
 clear hw
 repeat' (first
  |(apply bU;apply Eq.refl;apply Eq.refl;(first|(apply aA<;>apply Eq.refl)|(apply aG<;>apply Eq.refl)|(apply aH<;>apply Eq.refl)|(apply aD<;>apply Eq.refl)|(apply aB<;>apply Eq.refl)|(apply ah<;>(first|apply Eq.refl|omega))|(apply ba<;>apply Eq.refl)|(apply aq<;>apply Eq.refl)|(apply j7<;>apply Eq.refl)|(apply dL<;>apply Eq.refl)|(apply mi<;>(first|apply Eq.refl|omega))|(apply kP<;>(first|apply Eq.refl|omega))|(apply iV<;>apply Eq.refl)|(apply dt<;>apply Eq.refl)|(apply dn<;>apply Eq.refl)|(apply dr<;>apply Eq.refl)))
  |apply aZ
  |apply ak
  |apply an
  |apply aE
  |apply bn
  |apply aF
  |apply aw
  |apply aS
  |apply bf
  |apply aY
  |apply aR
  |(apply dU;apply Eq.refl;apply Eq.refl;rotate_left 1;exact(dp _ _);rotate_right 1;exact(k1 (by omega));apply Eq.refl;apply Eq.refl)
  |(apply dU;apply Eq.refl;apply Eq.refl;exact(k1 (by omega));(focus ((repeat' (first|exact iU.nil|refine iU.cons _ _ _ _ ?_ ?_|exact Fz.os _ _ _ _ _ _ rfl rfl|exact Fz.bx _ _ _ _ rfl rfl|refine Fz.fn _ _ _ ?_|exact Fz.same _|exact dp _ _));done));apply Eq.refl;apply Eq.refl)
  |(apply dU;apply Eq.refl;apply Eq.refl;rotate_left 1;exact(dp _ _);rotate_right 1;exact(k2 (by omega));apply Eq.refl;apply Eq.refl)
  |(apply dU;apply Eq.refl;apply Eq.refl;exact(k2 (by omega));(focus ((repeat' (first|exact iU.nil|refine iU.cons _ _ _ _ ?_ ?_|exact Fz.os _ _ _ _ _ _ rfl rfl|exact Fz.bx _ _ _ _ rfl rfl|refine Fz.fn _ _ _ ?_|exact Fz.same _|exact dp _ _));done));apply Eq.refl;apply Eq.refl)
  |(apply bZ;apply Eq.refl;(first|(apply aT<;>apply Eq.refl)|(apply aO<;>apply Eq.refl)|(apply bM<;>apply Eq.refl)|(apply lU<;>(first|apply Eq.refl|omega))))
  |apply ax
  |(apply bw;kernel_rfl)
  |(apply dx;(first|(apply ab;apply Eq.refl)|(apply ae;apply Eq.refl;apply Eq.refl;apply Eq.refl));apply Eq.refl;first|(apply bB<;>apply Eq.refl)|(apply aW<;>apply Eq.refl)|(apply b6;apply Eq.refl)|(apply b7;apply Eq.refl)|(apply aN;intro _;(first|(apply aA<;>apply Eq.refl)|(apply aG<;>apply Eq.refl)|(apply aH<;>apply Eq.refl)|(apply aD<;>apply Eq.refl)|(apply aB<;>apply Eq.refl)|(apply ah<;>(first|apply Eq.refl|omega))|(apply ba<;>apply Eq.refl)|(apply aq<;>apply Eq.refl)|(apply j7<;>apply Eq.refl)|(apply dL<;>apply Eq.refl)|(apply mi<;>(first|apply Eq.refl|omega))|(apply kP<;>(first|apply Eq.refl|omega))|(apply iV<;>apply Eq.refl)|(apply dt<;>apply Eq.refl)|(apply dn<;>apply Eq.refl)|(apply dr<;>apply Eq.refl))))
  |(apply az;(first|(apply ab;apply Eq.refl)|(apply ae;apply Eq.refl;apply Eq.refl;apply Eq.refl));apply Eq.refl;apply Eq.refl;apply Eq.refl;exact(k1 (by omega)))
  |(apply az;(first|(apply ab;apply Eq.refl)|(apply ae;apply Eq.refl;apply Eq.refl;apply Eq.refl));apply Eq.refl;apply Eq.refl;apply Eq.refl;exact(k2 (by omega)))
  |(apply fj;(first|(apply ab;apply Eq.refl)|(apply ae;apply Eq.refl;apply Eq.refl;apply Eq.refl));(first|(apply cJ<;>apply Eq.refl)|(apply dT<;>apply Eq.refl)|(apply g4<;>apply Eq.refl)))
  |(apply cM;apply Eq.refl;intro _;rotate_left 1;intro _;rotate_left 1))
 ·exact⟨m+1,by omega,by omega,(by apply bH;refine⟨?_, ?_, ?_, ?_, ?_⟩<;>repeat' (first|exact trivial|apply And.intro|apply Eq.refl|(apply gv;apply Eq.refl;first|omega|assumption)|(apply gL;apply Eq.refl;repeat' (first|apply Eq.refl|apply cd|(apply cf;first|apply Eq.refl|omega|assumption)))|(apply L2;apply Eq.refl;intro i;rw[hs2];exact Rx _ _ _ _)))⟩
 obtain rfl:m=eQ c:=by omega
 clear k1 k2 hw1 hl2 hs2
 have hz3:=zb (CO (cQ c) (eK c) c.trucks.length (eQ c)) (de (cQ c) c.trucks.length (eQ c))
 refine dI [2,3,68,69] [2] (fun k:Nat=>[(68, .os 4 (c.trucks.length+1)),(70, .int .i64 k)]) (fun m=>[(3,1),(4,c.trucks.length+1)])
  (fun k=>[(3, .box [.int .i64 (tu (CO (cQ c) (eK c) c.trucks.length (eQ c)) (de (cQ c) c.trucks.length (eQ c)) k), .int .i64 (dA (fx c) c.trucks.length)]),(4, .arr 3 1 c.trucks.length (fun i=>fy (de (cQ c) c.trucks.length (eQ c) i)))])
  (fun k=>k≤c.trucks.length) (fun k=>c.trucks.length-k) 0 (Nat.zero_le _) (by refine⟨?_, ?_, ?_⟩<;>repeat' (first|exact trivial|apply And.intro|apply Eq.refl|(apply gv;apply Eq.refl;first|omega|assumption)|(apply gL;apply Eq.refl;repeat' (first|apply Eq.refl|apply cd|(apply cf;first|apply Eq.refl|omega|assumption))))) (fun k g hk=> ?_)
 have hl3:max (tu (CO (cQ c) (eK c) c.trucks.length (eQ c)) (de (cQ c) c.trucks.length (eQ c)) k) (de (cQ c) c.trucks.length (eQ c) (k:Int).toNat)=tu (CO (cQ c) (eK c) c.trucks.length (eQ c)) (de (cQ c) c.trucks.length (eQ c)) (k+1):=(pf _ _ _).symm
 repeat' (first
  |(apply bU;apply Eq.refl;apply Eq.refl;(first|(apply aA<;>apply Eq.refl)|(apply aG<;>apply Eq.refl)|(apply aH<;>apply Eq.refl)|(apply aD<;>apply Eq.refl)|(apply aB<;>apply Eq.refl)|(apply ah<;>(first|apply Eq.refl|omega))|(apply ba<;>apply Eq.refl)|(apply aq<;>apply Eq.refl)|(apply j7<;>apply Eq.refl)|(apply dL<;>apply Eq.refl)|(apply mi<;>(first|apply Eq.refl|omega))|(apply kP<;>(first|apply Eq.refl|omega))|(apply iV<;>apply Eq.refl)|(apply dt<;>apply Eq.refl)|(apply dn<;>apply Eq.refl)|(apply dr<;>apply Eq.refl)))
  |apply aZ
  |apply ak
  |apply an
  |apply aE
  |apply bn
  |apply aF
  |apply aw
  |apply aS
  |apply bf
  |apply aY
  |apply aR
  |(apply bZ;apply Eq.refl;(first|(apply aT<;>apply Eq.refl)|(apply aO<;>apply Eq.refl)|(apply bM<;>apply Eq.refl)|(apply lU<;>(first|apply Eq.refl|omega))))
  |apply ax
  |(apply bw;kernel_rfl)
  |(apply dx;(first|(apply ab;apply Eq.refl)|(apply ae;apply Eq.refl;apply Eq.refl;apply Eq.refl));apply Eq.refl;first|(apply bB<;>apply Eq.refl)|(apply aW<;>apply Eq.refl)|(apply b6;apply Eq.refl)|(apply b7;apply Eq.refl)|(apply aN;intro _;(first|(apply aA<;>apply Eq.refl)|(apply aG<;>apply Eq.refl)|(apply aH<;>apply Eq.refl)|(apply aD<;>apply Eq.refl)|(apply aB<;>apply Eq.refl)|(apply ah<;>(first|apply Eq.refl|omega))|(apply ba<;>apply Eq.refl)|(apply aq<;>apply Eq.refl)|(apply j7<;>apply Eq.refl)|(apply dL<;>apply Eq.refl)|(apply mi<;>(first|apply Eq.refl|omega))|(apply kP<;>(first|apply Eq.refl|omega))|(apply iV<;>apply Eq.refl)|(apply dt<;>apply Eq.refl)|(apply dn<;>apply Eq.refl)|(apply dr<;>apply Eq.refl))))
  |(apply fj;(first|(apply ab;apply Eq.refl)|(apply ae;apply Eq.refl;apply Eq.refl;apply Eq.refl));(first|(apply cJ<;>apply Eq.refl)|(apply dT<;>apply Eq.refl)|(apply g4<;>apply Eq.refl)))
  |(apply cM;apply Eq.refl;intro _;rotate_left 1;intro _;rotate_left 1))
 ·exact⟨k+1,by omega,by omega,(by apply bH;refine⟨?_, ?_, ?_, ?_, ?_⟩<;>repeat' (first|exact trivial|apply And.intro|apply Eq.refl|(apply gv;apply Eq.refl;first|omega|assumption)|(apply gL;apply Eq.refl;repeat' (first|apply Eq.refl|apply cd|(apply cf;first|apply Eq.refl|omega|assumption)))))⟩
 ·obtain rfl:k=c.trucks.length:=by omega
  ((try apply aL);first|(apply js;apply Eq.refl;apply Eq.refl;apply Eq.refl;apply Eq.refl;apply Eq.refl;apply Eq.refl;apply Eq.refl;apply Eq.refl;try apply Eq.refl))
theorem Sm(c:Convoy):au cK 36 [.agg (aI c)] (.tup [.agg (bA (if al c=0 then qC c else default)), .int .i64 (al c)]):=by
 refine aC (fn:=Tryd.f36) Tryd.func36 rfl (by kernel_rfl) rfl ?_ ?_ ?_
 ·exact af.cons (.agg _ (bm c)) af.nil
 ·exact .tup _ (af.cons (.agg _ (cL _)) (af.cons (.int _ _) af.nil))
 intro w κ
 repeat' (first
  |(apply bU;apply Eq.refl;apply Eq.refl;(first|(apply aA<;>apply Eq.refl)|(apply aG<;>apply Eq.refl)|(apply aB<;>apply Eq.refl)|(apply aq<;>apply Eq.refl)|(apply bJ<;>apply Eq.refl)))
  |apply aZ
  |apply ak
  |apply an
  |apply aE
  |apply cg
  |apply aS
  |apply aY
  |(apply ay;apply Eq.refl;apply Eq.refl;rotate_left 1;apply Eq.refl;rotate_right 1;exact(MB c);apply Eq.refl)
  |(apply ay;apply Eq.refl;apply Eq.refl;rotate_left 1;apply Eq.refl;rotate_right 1;exact(Rg c (fC (by assumption)));apply Eq.refl)
  |(apply bZ;apply Eq.refl;(first|(apply aT<;>apply Eq.refl)|(apply aO<;>apply Eq.refl)|(apply bM<;>apply Eq.refl)))
  |(apply fq;apply Eq.refl;intro _;rotate_left 1;intro _;rotate_left 1))
 ·((try apply aL);first|(focus (apply fu;apply Eq.refl;(first|(apply eI;apply Eq.refl)|(apply ed<;>apply Eq.refl));(first|(apply eI;apply Eq.refl)|(apply ed<;>apply Eq.refl));all_goals try apply Eq.refl)))
  rw[if_neg (by assumption)];rfl
 ·((try apply aL);first|(focus (apply fu;apply Eq.refl;(first|(apply eI;apply Eq.refl)|(apply ed<;>apply Eq.refl));(first|(apply eI;apply Eq.refl)|(apply ed<;>apply Eq.refl));all_goals try apply Eq.refl)))
  ·rw[if_pos (by assumption)];rfl
  ·simp[*]
end Go.Proofs.YtafnhieaeejlcaaDoor
namespace Go.Proofs.YtafnhieaeejlcaaDoor
open Go Go.Ab
set_option maxRecDepth 100000
set_option maxHeartbeats 4000000
attribute [local irreducible] W WL eh kL fe ee gN WG FQ Want jE WI pE fR eA
def atP(t:Truck)(len m:Int):Span:=if min (m-t.start) (cj t len t.lo)<0 then default else gone t len (min (m-t.start) (cj t len t.lo)).toNat
theorem Sr(t:Truck)(len m:Int)(h:eZ len t)(m0:0≤m)(m1:m≤100000):au cK 87 [.agg (dj t len), .int .i64 m] (.agg (bA (atP t len m))):=by
 have hn:=(eV h (Int.le_refl t.lo)).2.2
 have s1:=h.s1
 have s2:=h.s2
 refine aC (fn:=Tryd.f87) Tryd.func87 rfl (by kernel_rfl) rfl ?_ ?_ ?_
 ·exact af.cons (.agg _ (fb t len)) (af.cons (.int _ _) af.nil)
 ·exact .agg _ (cL _)
 intro w κ
 repeat' (first
  |(apply bU;apply Eq.refl;apply Eq.refl;(first|(apply aA<;>apply Eq.refl)|(apply aG<;>apply Eq.refl)|(apply aH<;>apply Eq.refl)|(apply aD<;>apply Eq.refl)|(apply aB<;>apply Eq.refl)|(apply ah<;>(first|apply Eq.refl|omega))|(apply ba<;>apply Eq.refl)|(apply cq<;>(first|apply Eq.refl|omega))|(apply aM<;>apply Eq.refl)|(apply bJ<;>apply Eq.refl)|(apply j7<;>apply Eq.refl)))
  |apply aZ
  |apply ak
  |apply an
  |apply aE
  |apply cg
  |apply aS
  |apply aY
  |(apply bZ;apply Eq.refl;(first|(apply aT<;>apply Eq.refl)|(apply aO<;>apply Eq.refl)|(apply bM<;>apply Eq.refl)))
  |(apply cM;apply Eq.refl;intro _;rotate_left 1;intro _;rotate_left 1))
 all_goals (have e:((cj t len t.lo+1:Nat):Int)-1=cj t len t.lo:=by omega)
 ·rename_i hx
  rw[e]at hx
  ((try apply aL);first|(apply js;apply Eq.refl;apply Eq.refl;apply Eq.refl;apply Eq.refl;apply Eq.refl;apply Eq.refl;apply Eq.refl;apply Eq.refl;try apply Eq.refl))
  unfold atP;rw[if_pos hx];rfl
 ·rename_i hx
  rw[e]at hx
  ((try apply aL);first|(apply js;apply Eq.refl;apply Eq.refl;apply Eq.refl;apply Eq.refl;apply Eq.refl;apply Eq.refl;apply Eq.refl;apply Eq.refl;try apply Eq.refl))
  unfold atP;rw[if_neg hx,e];rfl
def gD(way len:Int)(g:Span):Span:=⟨min (br way len g.lo) (br way len g.hi),max (br way len g.lo) (br way len g.hi)⟩
theorem QB(t:Truck)(len:Int)(g:Span)(h1: -1000000≤g.lo)(h2:g.lo≤1000000)(h3: -1000000≤g.hi)(h4:g.hi≤1000000)(l1:1≤len)(l2:len≤100000):au cK 86 [.agg (dj t len), .agg (bA g)] (.agg (bA (gD t.way len g))):=by
 refine aC (fn:=Tryd.f86) Tryd.func86 rfl (by kernel_rfl) rfl ?_ ?_ ?_
 ·exact af.cons (.agg _ (fb t len)) (af.cons (.agg _ (cL g)) af.nil)
 ·exact .agg _ (cL _)
 intro w κ
 repeat' (first
  |(apply bU;apply Eq.refl;apply Eq.refl;(first|(apply aA<;>apply Eq.refl)|(apply aG<;>apply Eq.refl)|(apply aH<;>apply Eq.refl)|(apply aD<;>apply Eq.refl)|(apply aq<;>apply Eq.refl)|(apply bJ<;>apply Eq.refl)|(apply j7<;>apply Eq.refl)|(apply dL<;>apply Eq.refl)))
  |apply aZ
  |apply ak
  |apply an
  |apply aE
  |apply aY
  |(apply bZ;apply Eq.refl;(first|(apply aT<;>apply Eq.refl)|(apply aO<;>apply Eq.refl)|(apply bM<;>apply Eq.refl)))
  |apply ax
  |(apply bw;kernel_rfl)
  |(apply dx;(first|(apply ab;apply Eq.refl)|(apply ae;apply Eq.refl;apply Eq.refl;apply Eq.refl));apply Eq.refl;first|(apply bB<;>apply Eq.refl)|(apply aW<;>apply Eq.refl)|(apply b6;apply Eq.refl)|(apply b7;apply Eq.refl)|(apply aN;intro _;(first|(apply aA<;>apply Eq.refl)|(apply aG<;>apply Eq.refl)|(apply aH<;>apply Eq.refl)|(apply aD<;>apply Eq.refl)|(apply aq<;>apply Eq.refl)|(apply bJ<;>apply Eq.refl)|(apply j7<;>apply Eq.refl)|(apply dL<;>apply Eq.refl))))
  |(apply az;(first|(apply ab;apply Eq.refl)|(apply ae;apply Eq.refl;apply Eq.refl;apply Eq.refl));apply Eq.refl;apply Eq.refl;apply Eq.refl;exact(IX t len g.lo (by omega) (by omega) (by omega) (by omega)))
  |(apply az;(first|(apply ab;apply Eq.refl)|(apply ae;apply Eq.refl;apply Eq.refl;apply Eq.refl));apply Eq.refl;apply Eq.refl;apply Eq.refl;exact(IX t len g.hi (by omega) (by omega) (by omega) (by omega))))
 ((try apply aL);first|(apply js;apply Eq.refl;apply Eq.refl;apply Eq.refl;apply Eq.refl;apply Eq.refl;apply Eq.refl;apply Eq.refl;apply Eq.refl;try apply Eq.refl))
def bW(t:Truck)(len m:Int):Span×Int:=
 if m<t.start then(default,2)
 else if(atP t len m).hi<bE t.way len m t.holds then(gD t.way len (atP t len m),1)
 else if(atP t len m).lo≥bE t.way len m t.holds then(default,2)
 else(gD t.way len ⟨(atP t len m).lo,bE t.way len m t.holds-1⟩,3)
theorem ph{t:Truck}{len m:Int}(h:eZ len t):0≤(atP t len m).lo∧(atP t len m).lo≤len∧0≤(atP t len m).hi∧(atP t len m).hi≤len:=by
 have l1:=h.l1
 unfold atP
 split
 ·exact⟨Int.le_refl 0,by show(0:Int)≤len;omega,Int.le_refl 0,by show(0:Int)≤len;omega⟩
 ·have a:=dK h.l1 h.ho h.p1 (min (m-t.start) (cj t len t.lo)).toNat
  have b:=dK h.l1 h.ho (show 1≤t.hi by have:=h.p1;have:=h.p2;omega) (min (m-t.start) (cj t len t.lo)).toNat
  exact⟨a.1,a.2,b.1,b.2⟩
theorem fI{t:Truck}{len m:Int}(h:eZ len t):1≤bE t.way len m t.holds∧bE t.way len m t.holds≤len:=by
 refine⟨nF h.l1 fun x hx=>(jn (h.ho.mem x hx).1 (h.ho.mem x hx).2.1).1, ?_⟩
 have:∀hs:List Hold,(∀x∈hs,br t.way len x.a≤len)→bE t.way len m hs≤len:=by
  intro hs
  induction hs with
  |nil=>intro _;exact Int.le_refl _
  |cons x hs ih=>
   intro hx
   simp only[bE]
   split
   ·exact hx x (List.mem_cons_self ..)
   ·exact ih fun y hy=>hx y (List.mem_cons_of_mem _ hy)
 refine this _ fun x hx=> ?_
 have:=jn (way:=t.way) (h.ho.mem x hx).1 (h.ho.mem x hx).2.1
 omega
theorem R7(t:Truck)(len m:Int)(h:eZ len t)(m0:0≤m)(m1:m≤100000):au cK 85 [.agg (dj t len), .int .i64 m] (.tup [.agg (bA (bW t len m).1), .int .i64 (bW t len m).2]):=by
 have l1:=h.l1
 have l2:=h.l2
 obtain⟨b1,b2,b3,b4⟩:=ph (m:=m) h
 obtain⟨p1,p2⟩:=fI (m:=m) h
 refine aC (fn:=Tryd.f85) Tryd.func85 rfl (by kernel_rfl) rfl ?_ ?_ ?_
 ·exact af.cons (.agg _ (fb t len)) (af.cons (.int _ _) af.nil)
 ·exact .tup _ (af.cons (.agg _ (cL _)) (af.cons (.int _ _) af.nil))
 intro w κ
 repeat' (first
  |(apply bU;apply Eq.refl;apply Eq.refl;(first|(apply aA<;>apply Eq.refl)|(apply aG<;>apply Eq.refl)|(apply aH<;>apply Eq.refl)|(apply aD<;>apply Eq.refl)|(apply aB<;>apply Eq.refl)|(apply bj<;>apply Eq.refl)|(apply ah<;>(first|apply Eq.refl|omega))|(apply aq<;>apply Eq.refl)|(apply bJ<;>apply Eq.refl)))
  |apply aZ
  |apply ak
  |apply an
  |apply aE
  |apply cg
  |apply aF
  |apply cN
  |apply aS
  |apply aY
  |apply aR
  |(apply ay;apply Eq.refl;apply Eq.refl;rotate_left 1;apply Eq.refl;rotate_right 1;exact(Sr t len m h m0 m1);apply Eq.refl)
  |(apply ay;apply Eq.refl;apply Eq.refl;rotate_left 1;apply Eq.refl;rotate_right 1;exact(NJ t len m l1 l2 h.ho);apply Eq.refl)
  |(apply ay;apply Eq.refl;apply Eq.refl;rotate_left 1;apply Eq.refl;rotate_right 1;exact(QB t len (atP t len m) (by omega) (by omega) (by omega) (by omega) l1 l2);apply Eq.refl)
  |(apply ay;apply Eq.refl;apply Eq.refl;rotate_left 1;apply Eq.refl;rotate_right 1;exact(QB t len ⟨(atP t len m).lo,bE t.way len m t.holds-1⟩ (by show _≤(atP t len m).lo;omega) (by show(atP t len m).lo≤_;omega) (by show _≤bE t.way len m t.holds-1;omega) (by show bE t.way len m t.holds-1≤_;omega) l1 l2);apply Eq.refl)
  |(apply bZ;apply Eq.refl;(first|(apply aT<;>apply Eq.refl)|(apply aO<;>apply Eq.refl)|(apply bM<;>apply Eq.refl)))
  |apply ax
  |(apply bw;kernel_rfl)
  |(apply dx;(first|(apply ab;apply Eq.refl)|(apply ae;apply Eq.refl;apply Eq.refl;apply Eq.refl));apply Eq.refl;first|(apply bB<;>apply Eq.refl)|(apply aW<;>apply Eq.refl)|(apply b6;apply Eq.refl)|(apply b7;apply Eq.refl)|(apply aN;intro _;(first|(apply aA<;>apply Eq.refl)|(apply aG<;>apply Eq.refl)|(apply aH<;>apply Eq.refl)|(apply aD<;>apply Eq.refl)|(apply aB<;>apply Eq.refl)|(apply bj<;>apply Eq.refl)|(apply ah<;>(first|apply Eq.refl|omega))|(apply aq<;>apply Eq.refl)|(apply bJ<;>apply Eq.refl))))
  |(apply az;(first|(apply ab;apply Eq.refl)|(apply ae;apply Eq.refl;apply Eq.refl;apply Eq.refl));apply Eq.refl;apply Eq.refl;apply Eq.refl;exact(Sr t len m h m0 m1))
  |(apply az;(first|(apply ab;apply Eq.refl)|(apply ae;apply Eq.refl;apply Eq.refl;apply Eq.refl));apply Eq.refl;apply Eq.refl;apply Eq.refl;exact(NJ t len m l1 l2 h.ho))
  |(apply az;(first|(apply ab;apply Eq.refl)|(apply ae;apply Eq.refl;apply Eq.refl;apply Eq.refl));apply Eq.refl;apply Eq.refl;apply Eq.refl;exact(QB t len (atP t len m) (by omega) (by omega) (by omega) (by omega) l1 l2))
  |(apply az;(first|(apply ab;apply Eq.refl)|(apply ae;apply Eq.refl;apply Eq.refl;apply Eq.refl));apply Eq.refl;apply Eq.refl;apply Eq.refl;exact(QB t len ⟨(atP t len m).lo,bE t.way len m t.holds-1⟩ (by show _≤(atP t len m).lo;omega) (by show(atP t len m).lo≤_;omega) (by show _≤bE t.way len m t.holds-1;omega) (by show bE t.way len m t.holds-1≤_;omega) l1 l2))
  |(apply fj;(first|(apply ab;apply Eq.refl)|(apply ae;apply Eq.refl;apply Eq.refl;apply Eq.refl));(first|(apply cJ<;>apply Eq.refl)|(apply dT<;>apply Eq.refl)))
  |(apply cM;apply Eq.refl;intro _;rotate_left 1;intro _;rotate_left 1))
 ·rename_i a1
  have e:bW t len m=(default,2):=by unfold bW;rw[if_pos a1]
  rw[e];((try apply aL);first|(focus (apply fu;apply Eq.refl;(first|(apply eI;apply Eq.refl)|(apply ed<;>apply Eq.refl));(first|(apply eI;apply Eq.refl)|(apply ed<;>apply Eq.refl));all_goals try apply Eq.refl)))
 ·rename_i a1 a2
  have e:bW t len m=(gD t.way len (atP t len m),1):=by unfold bW;rw[if_neg a1,if_pos a2]
  rw[e];((try apply aL);first|(focus (apply fu;apply Eq.refl;(first|(apply eI;apply Eq.refl)|(apply ed<;>apply Eq.refl));(first|(apply eI;apply Eq.refl)|(apply ed<;>apply Eq.refl));all_goals try apply Eq.refl)))
 ·rename_i a1 a2 a3
  have e:bW t len m=(default,2):=by unfold bW;rw[if_neg a1,if_neg a2,if_pos a3]
  rw[e];((try apply aL);first|(focus (apply fu;apply Eq.refl;(first|(apply eI;apply Eq.refl)|(apply ed<;>apply Eq.refl));(first|(apply eI;apply Eq.refl)|(apply ed<;>apply Eq.refl));all_goals try apply Eq.refl)))
 ·rename_i a1 a2 a3
  have e:bW t len m=(gD t.way len ⟨(atP t len m).lo,bE t.way len m t.holds-1⟩,3):=by unfold bW;rw[if_neg a1,if_neg a2,if_neg a3]
  rw[e];((try apply aL);first|(focus (apply fu;apply Eq.refl;(first|(apply eI;apply Eq.refl)|(apply ed<;>apply Eq.refl));(first|(apply eI;apply Eq.refl)|(apply ed<;>apply Eq.refl));all_goals try apply Eq.refl)))
end Go.Proofs.YtafnhieaeejlcaaDoor
namespace Go.Proofs.YtafnhieaeejlcaaDoor
open Go Go.Ab
set_option maxRecDepth 100000
set_option maxHeartbeats 4000000
attribute [local irreducible] W WL eh kL fe ee gN WG FQ Want jE WI pE fR eA
theorem sL{way len x:Int}(h:0≤x∧x≤len):0≤br way len x∧br way len x≤len:=by unfold br;split<;>omega
theorem o8{way len:Int}{g:Span}(h1:0≤g.lo∧g.lo≤len)(h2:0≤g.hi∧g.hi≤len):0≤(gD way len g).lo∧(gD way len g).lo≤len∧0≤(gD way len g).hi∧(gD way len g).hi≤len:=by
 have a:=sL (way:=way) h1
 have b:=sL (way:=way) h2
 simp only[gD];omega
theorem jd{t:Truck}{len m:Int}(h:eZ len t):0≤(bW t len m).1.lo∧(bW t len m).1.lo≤len∧0≤(bW t len m).1.hi∧(bW t len m).1.hi≤len:=by
 obtain⟨b1,b2,b3,b4⟩:=ph (m:=m) h
 obtain⟨p1,p2⟩:=fI (m:=m) h
 have l1:=h.l1
 have hz:(0:Int)≤(default:Span).lo∧(default:Span).lo≤len∧0≤(default:Span).hi∧(default:Span).hi≤len:=⟨Int.le_refl 0,by show(0:Int)≤len;omega,Int.le_refl 0,by show(0:Int)≤len;omega⟩
 unfold bW
 split
 ·exact hz
 ·split
  ·exact o8 ⟨b1,b2⟩ ⟨b3,b4⟩
  ·split
   ·exact hz
   ·exact o8 ⟨b1,b2⟩ ⟨by show 0≤bE t.way len m t.holds-1;omega,by show bE t.way len m t.holds-1≤len;omega⟩
def gE(gap:Int)(x y:Span×Int):Int×Int×Bool:=
 if x.2=2∨y.2=2 then(0,0,false)
 else(max x.1.lo (y.1.lo-gap+1),max y.1.lo (max x.1.lo (y.1.lo-gap+1)-gap+1),decide (max x.1.lo (y.1.lo-gap+1)≤x.1.hi)&&decide (max y.1.lo (max x.1.lo (y.1.lo-gap+1)-gap+1)≤y.1.hi))
theorem QK(gap fails:Int)(t u:Truck)(len m:Int)(ht:eZ len t)(hu:eZ len u)(g0:0≤gap)(g1:gap≤100000)(m0:0≤m)(m1:m≤100000):
 au cK 121 [.agg [.int .i64 gap, .int .i64 fails], .agg (dj t len), .agg (dj u len), .int .i64 m]
  (.tup [.int .i64 (gE gap (bW t len m) (bW u len m)).1, .int .i64 (gE gap (bW t len m) (bW u len m)).2.1, .bool (gE gap (bW t len m) (bW u len m)).2.2]):=by
 obtain⟨b1,b2,b3,b4⟩:=jd (m:=m) ht
 obtain⟨d1,d2,d3,d4⟩:=jd (m:=m) hu
 have l2:=ht.l2
 have r1:=R7 t len m ht m0 m1
 have r2:=R7 u len m hu m0 m1
 generalize bW t len m=x at*
 generalize bW u len m=y at*
 refine aC (fn:=Tryd.f121) Tryd.func121 rfl (by kernel_rfl) rfl ?_ ?_ ?_
 ·exact af.cons (.agg _ (af.cons (.int _ _) (af.cons (.int _ _) af.nil))) (af.cons (.agg _ (fb _ _)) (af.cons (.agg _ (fb _ _)) (af.cons (.int _ _) af.nil)))
 ·exact .tup _ (af.cons (.int _ _) (af.cons (.int _ _) (af.cons (.bool _) af.nil)))
 intro w κ
 repeat' (first
  |(apply bU;apply Eq.refl;apply Eq.refl;(first|(apply aA<;>apply Eq.refl)|(apply aG<;>apply Eq.refl)|(apply aH<;>apply Eq.refl)|(apply aD<;>apply Eq.refl)|(apply aB<;>apply Eq.refl)|(apply aX<;>apply Eq.refl)|(apply bj<;>apply Eq.refl)|(apply ah<;>(first|apply Eq.refl|omega))|(apply cu<;>apply Eq.refl)|(apply bR<;>apply Eq.refl)|(apply bX<;>apply Eq.refl)|(apply aq<;>apply Eq.refl)|(apply dL<;>apply Eq.refl)|(apply cw<;>apply Eq.refl)))
  |apply aZ
  |apply ak
  |apply an
  |apply aE
  |apply cg
  |apply aS
  |apply aY
  |(apply bu;apply Eq.refl)
  |(apply ay;apply Eq.refl;apply Eq.refl;rotate_left 1;apply Eq.refl;rotate_right 1;exact(r1);apply Eq.refl)
  |(apply ay;apply Eq.refl;apply Eq.refl;rotate_left 1;apply Eq.refl;rotate_right 1;exact(r2);apply Eq.refl)
  |(apply bZ;apply Eq.refl;(first|(apply aT<;>apply Eq.refl)|(apply aO<;>apply Eq.refl)|(apply bM<;>apply Eq.refl)))
  |(apply dg;apply Eq.refl;apply Eq.refl;apply Eq.refl)
  |(apply eo;apply Eq.refl;apply Eq.refl;apply Eq.refl;apply Eq.refl;apply Eq.refl)
  |(apply xp;apply Eq.refl;apply Eq.refl;apply Eq.refl;intro _;rotate_left 1;intro _;rotate_left 1)
  |apply ax
  |(apply bw;kernel_rfl)
  |(apply dx;(first|(apply ab;apply Eq.refl)|(apply ae;apply Eq.refl;apply Eq.refl;apply Eq.refl));apply Eq.refl;first|(apply bB<;>apply Eq.refl)|(apply aW<;>apply Eq.refl)|(apply b6;apply Eq.refl)|(apply b7;apply Eq.refl)|(apply aN;intro _;(first|(apply aA<;>apply Eq.refl)|(apply aG<;>apply Eq.refl)|(apply aH<;>apply Eq.refl)|(apply aD<;>apply Eq.refl)|(apply aB<;>apply Eq.refl)|(apply aX<;>apply Eq.refl)|(apply bj<;>apply Eq.refl)|(apply ah<;>(first|apply Eq.refl|omega))|(apply cu<;>apply Eq.refl)|(apply bR<;>apply Eq.refl)|(apply bX<;>apply Eq.refl)|(apply aq<;>apply Eq.refl)|(apply dL<;>apply Eq.refl)|(apply cw<;>apply Eq.refl))))
  |(apply nJ;apply Eq.refl;apply Eq.refl;apply Eq.refl;apply Eq.refl;apply Eq.refl)
  |(apply xm;apply Eq.refl;apply Eq.refl;apply Eq.refl;intro _;rotate_left 1;intro _;rotate_left 1)
  |(apply cM;apply Eq.refl;intro _;rotate_left 1;intro _;rotate_left 1))
 ·rename_i a1
  have e:gE gap x y=(0,0,false):=by unfold gE;rw[if_pos (.inl a1)]
  rw[e];((try apply aL);first|(focus (apply B3;apply Eq.refl;(first|(apply eI;apply Eq.refl)|(apply gr;apply Eq.refl));(first|(apply eI;apply Eq.refl)|(apply gr;apply Eq.refl));(first|(apply eI;apply Eq.refl)|(apply gr;apply Eq.refl));all_goals try apply Eq.refl)))
 ·rename_i a1 a2
  have e:gE gap x y=(0,0,false):=by unfold gE;rw[if_pos (.inr a2)]
  rw[e];((try apply aL);first|(focus (apply B3;apply Eq.refl;(first|(apply eI;apply Eq.refl)|(apply gr;apply Eq.refl));(first|(apply eI;apply Eq.refl)|(apply gr;apply Eq.refl));(first|(apply eI;apply Eq.refl)|(apply gr;apply Eq.refl));all_goals try apply Eq.refl)))
 ·rename_i a1 a2 a3
  have hn:¬(x.2=2∨y.2=2):=fun h=>h.elim a1 a2
  simp only[gE,if_neg hn]
  ((try apply aL);first|(focus (apply B3;apply Eq.refl;(first|(apply eI;apply Eq.refl)|(apply gr;apply Eq.refl));(first|(apply eI;apply Eq.refl)|(apply gr;apply Eq.refl));(first|(apply eI;apply Eq.refl)|(apply gr;apply Eq.refl));all_goals try apply Eq.refl)))
  simp[a3]
 ·rename_i a1 a2 a3
  have hn:¬(x.2=2∨y.2=2):=fun h=>h.elim a1 a2
  simp only[gE,if_neg hn]
  ((try apply aL);first|(focus (apply B3;apply Eq.refl;(first|(apply eI;apply Eq.refl)|(apply gr;apply Eq.refl));(first|(apply eI;apply Eq.refl)|(apply gr;apply Eq.refl));(first|(apply eI;apply Eq.refl)|(apply gr;apply Eq.refl));all_goals try apply Eq.refl)))
  simp[a3]
structure bd where
 m:Int
 i:Int
 k:Int
 fi:Bool
 fk:Bool
 p:Int
 q:Int
 deriving DecidableEq
instance:Inhabited bd:=⟨⟨0,0,0,false,false,0,0⟩⟩
def cI(x:bd):List D:=[.int .i64 x.m, .int .i64 x.i, .int .i64 x.k, .bool x.fi, .bool x.fk, .int .i64 x.p, .int .i64 x.q]
theorem jQ(x:bd):af (cI x):=af.cons (.int _ _) (af.cons (.int _ _) (af.cons (.int _ _) (af.cons (.bool _) (af.cons (.bool _) (af.cons (.int _ _) (af.cons (.int _ _) af.nil))))))
def gz(t:Truck)(len:Int):List D:=dj (bb t false) len++dj (bb t true) len
theorem qv(t:Truck)(len:Int):af (gz t len):=fun d hd=>by
 rcases List.mem_append.1 hd with h|h<;>exact fb _ _ d h
def ra:List (Bool×Bool):=[(false,false),(true,false),(false,true),(true,true)]
def iF(gap:Int)(t u:Truck)(len m:Int)(b:Bool×Bool):Int×Int×Bool:=gE gap (bW (bb t b.1) len m) (bW (bb u b.2) len m)
def bI(b:Bool):Int:=if b then 1 else 0
def gC(gap fails:Int)(t u:Truck)(len m:Int):List (Bool×Bool)→Option bd
 |[]=>none
 |b::l=>if bI b.1+bI b.2>fails then gC gap fails t u len m l
  else if(iF gap t u len m b).2.2 then some ⟨m,0,0,b.1,b.2,(iF gap t u len m b).1,(iF gap t u len m b).2.1⟩else gC gap fails t u len m l
def nA(gap fails:Int)(t u:Truck)(len m:Int):Option bd:=gC gap fails t u len m ra
theorem g8{gap fails:Int}{t u:Truck}{len m:Int}{b:Bool×Bool}{l:List (Bool×Bool)}{R:Option bd}(h:gC gap fails t u len m (b::l)=R)(h1:bI b.1+bI b.2>fails):gC gap fails t u len m l=R:=by
 rw[←h,gC,if_pos h1]
theorem jw{gap fails:Int}{t u:Truck}{len m:Int}{b:Bool×Bool}{l:List (Bool×Bool)}{R:Option bd}(h:gC gap fails t u len m (b::l)=R)(h1:¬bI b.1+bI b.2>fails)(h2:(iF gap t u len m b).2.2=true):
 R=some ⟨m,0,0,b.1,b.2,(iF gap t u len m b).1,(iF gap t u len m b).2.1⟩:=by
 rw[←h,gC,if_neg h1,if_pos h2]
theorem dQ{gap fails:Int}{t u:Truck}{len m:Int}{b:Bool×Bool}{l:List (Bool×Bool)}{R:Option bd}(h:gC gap fails t u len m (b::l)=R)(h1:¬bI b.1+bI b.2>fails)(h2:(iF gap t u len m b).2.2=false):gC gap fails t u len m l=R:=by
 rw[←h,gC,if_neg h1,h2];rfl
def A1:Option bd→bd
 |some x=>x
 |none=>default
attribute [local irreducible] iF
theorem QY(gap fails:Int)(t u:Truck)(len m:Int)(ht:eZ len t)(hu:eZ len u)(g0:0≤gap)(g1:gap≤100000)(m0:0≤m)(m1:m≤100000):
 au cK 109 [.agg [.int .i64 gap, .int .i64 fails], .agg (gz t len), .agg (gz u len), .int .i64 m]
  (.tup [.agg (cI (A1 (nA gap fails t u len m))), .bool (nA gap fails t u len m).isSome]):=by
 have hnear:∀b:Bool×Bool,au cK 121 [.agg [.int .i64 gap, .int .i64 fails], .agg (dj (bb t b.1) len), .agg (dj (bb u b.2) len), .int .i64 m]
  (.tup [.int .i64 (iF gap t u len m b).1, .int .i64 (iF gap t u len m b).2.1, .bool (iF gap t u len m b).2.2]):=fun b=>by
  unfold iF;exact QK gap fails _ _ len m (ht.free _) (hu.free _) g0 g1 m0 m1
 refine aC (fn:=Tryd.f109) Tryd.func109 rfl (by kernel_rfl) rfl ?_ ?_ ?_
 ·exact af.cons (.agg _ (af.cons (.int _ _) (af.cons (.int _ _) af.nil))) (af.cons (.agg _ (qv _ _)) (af.cons (.agg _ (qv _ _)) (af.cons (.int _ _) af.nil)))
 ·exact .tup _ (af.cons (.agg _ (jQ _)) (af.cons (.bool _) af.nil))
 intro w κ
 have hM:gC gap fails t u len m ra=nA gap fails t u len m:=rfl
 generalize nA gap fails t u len m=R at*
 repeat' (first
  |(apply bU;apply Eq.refl;apply Eq.refl;(first|(apply aA<;>apply Eq.refl)|(apply aG<;>apply Eq.refl)|(apply aH<;>apply Eq.refl)|(apply aD<;>apply Eq.refl)|(apply aB<;>apply Eq.refl)|(apply aX<;>apply Eq.refl)|(apply bj<;>apply Eq.refl)|(apply ah<;>(first|apply Eq.refl|omega))|(apply cu<;>apply Eq.refl)|(apply aq<;>apply Eq.refl)|(apply aM<;>apply Eq.refl)|(apply bJ<;>apply Eq.refl)|(apply cw<;>apply Eq.refl)|(apply cT;apply Eq.refl;apply Eq.refl;apply Eq.refl;apply Eq.refl;(first|omega|decide);apply Eq.refl;apply Eq.refl;(first|omega|decide);apply Eq.refl;apply Eq.refl)|(apply lF;apply Eq.refl;apply Eq.refl;apply Eq.refl;(first|omega|decide);apply Eq.refl;apply Eq.refl;(first|omega|decide);apply Eq.refl;apply Eq.refl;apply Eq.refl)))
  |apply aZ
  |apply ak
  |apply an
  |apply aE
  |apply bn
  |apply cg
  |apply aF
  |apply cN
  |apply aw
  |apply aS
  |apply bf
  |apply aY
  |apply aR
  |(apply bu;apply Eq.refl)
  |(apply bD;apply Eq.refl)
  |(apply bZ;apply Eq.refl;(first|(apply aT<;>apply Eq.refl)|(apply aO<;>apply Eq.refl)|(apply bM<;>apply Eq.refl)))
  |apply ax
  |(apply bw;kernel_rfl)
  |(apply dx;(first|(apply ab;apply Eq.refl)|(apply ae;apply Eq.refl;apply Eq.refl;apply Eq.refl));apply Eq.refl;first|(apply bB<;>apply Eq.refl)|(apply aW<;>apply Eq.refl)|(apply b6;apply Eq.refl)|(apply b7;apply Eq.refl)|(apply aN;intro _;(first|(apply aA<;>apply Eq.refl)|(apply aG<;>apply Eq.refl)|(apply aH<;>apply Eq.refl)|(apply aD<;>apply Eq.refl)|(apply aB<;>apply Eq.refl)|(apply aX<;>apply Eq.refl)|(apply bj<;>apply Eq.refl)|(apply ah<;>(first|apply Eq.refl|omega))|(apply cu<;>apply Eq.refl)|(apply aq<;>apply Eq.refl)|(apply aM<;>apply Eq.refl)|(apply bJ<;>apply Eq.refl)|(apply cw<;>apply Eq.refl)|(apply cT;apply Eq.refl;apply Eq.refl;apply Eq.refl;apply Eq.refl;(first|omega|decide);apply Eq.refl;apply Eq.refl;(first|omega|decide);apply Eq.refl;apply Eq.refl)|(apply lF;apply Eq.refl;apply Eq.refl;apply Eq.refl;(first|omega|decide);apply Eq.refl;apply Eq.refl;(first|omega|decide);apply Eq.refl;apply Eq.refl;apply Eq.refl))))
  |(apply cM;apply Eq.refl;intro _;rotate_left 1;intro _;rotate_left 1)
  |(apply eR;apply Eq.refl;intro _;rotate_left 1;intro _;rotate_left 1))
 refine dI [3,4,5,6,8,15] [4,5,6] (fun k:Nat=>[(16, .int .i64 k)]) (fun _=>[(8,1)]) (fun _=>[(8, .box (cI default))])
  (fun k=>k≤4∧gC gap fails t u len m (ra.drop k)=R) (fun k=>4-k) 0 ⟨Nat.zero_le _,hM⟩ (by refine⟨?_, ?_, ?_⟩<;>repeat' (first|exact trivial|apply And.intro|apply Eq.refl|(apply gv;apply Eq.refl;first|omega|assumption)|(apply gL;apply Eq.refl;repeat' (first|apply Eq.refl|apply cd|(apply cf;first|apply Eq.refl|omega|assumption))))) (fun k g hi=> ?_)
 obtain⟨hk,hi⟩:=hi
 obtain rfl|rfl|rfl|rfl|rfl:k=0∨k=1∨k=2∨k=3∨k=4:=by omega
 ·repeat' (first
  |(apply bU;apply Eq.refl;apply Eq.refl;(first|(apply aA<;>apply Eq.refl)|(apply aG<;>apply Eq.refl)|(apply aH<;>apply Eq.refl)|(apply aD<;>apply Eq.refl)|(apply aB<;>apply Eq.refl)|(apply aX<;>apply Eq.refl)|(apply bj<;>apply Eq.refl)|(apply ah<;>(first|apply Eq.refl|omega))|(apply cu<;>apply Eq.refl)|(apply aq<;>apply Eq.refl)|(apply aM<;>apply Eq.refl)|(apply bJ<;>apply Eq.refl)|(apply cw<;>apply Eq.refl)|(apply cT;apply Eq.refl;apply Eq.refl;apply Eq.refl;apply Eq.refl;(first|omega|decide);apply Eq.refl;apply Eq.refl;(first|omega|decide);apply Eq.refl;apply Eq.refl)|(apply lF;apply Eq.refl;apply Eq.refl;apply Eq.refl;(first|omega|decide);apply Eq.refl;apply Eq.refl;(first|omega|decide);apply Eq.refl;apply Eq.refl;apply Eq.refl)))
  |apply aZ
  |apply ak
  |apply an
  |apply aE
  |apply bn
  |apply cg
  |apply aF
  |apply cN
  |apply aw
  |apply aS
  |apply bf
  |apply aY
  |apply aR
  |(apply bu;apply Eq.refl)
  |(apply bD;apply Eq.refl)
  |(apply bZ;apply Eq.refl;(first|(apply aT<;>apply Eq.refl)|(apply aO<;>apply Eq.refl)|(apply bM<;>apply Eq.refl)))
  |apply ax
  |(apply bw;kernel_rfl)
  |(apply dx;(first|(apply ab;apply Eq.refl)|(apply ae;apply Eq.refl;apply Eq.refl;apply Eq.refl));apply Eq.refl;first|(apply bB<;>apply Eq.refl)|(apply aW<;>apply Eq.refl)|(apply b6;apply Eq.refl)|(apply b7;apply Eq.refl)|(apply aN;intro _;(first|(apply aA<;>apply Eq.refl)|(apply aG<;>apply Eq.refl)|(apply aH<;>apply Eq.refl)|(apply aD<;>apply Eq.refl)|(apply aB<;>apply Eq.refl)|(apply aX<;>apply Eq.refl)|(apply bj<;>apply Eq.refl)|(apply ah<;>(first|apply Eq.refl|omega))|(apply cu<;>apply Eq.refl)|(apply aq<;>apply Eq.refl)|(apply aM<;>apply Eq.refl)|(apply bJ<;>apply Eq.refl)|(apply cw<;>apply Eq.refl)|(apply cT;apply Eq.refl;apply Eq.refl;apply Eq.refl;apply Eq.refl;(first|omega|decide);apply Eq.refl;apply Eq.refl;(first|omega|decide);apply Eq.refl;apply Eq.refl)|(apply lF;apply Eq.refl;apply Eq.refl;apply Eq.refl;(first|omega|decide);apply Eq.refl;apply Eq.refl;(first|omega|decide);apply Eq.refl;apply Eq.refl;apply Eq.refl))))
  |(apply az;(first|(apply ab;apply Eq.refl)|(apply ae;apply Eq.refl;apply Eq.refl;apply Eq.refl));apply Eq.refl;apply Eq.refl;apply Eq.refl;exact(hnear (false,false)))
  |(apply cM;apply Eq.refl;intro _;rotate_left 1;intro _;rotate_left 1)
  |(apply eR;apply Eq.refl;intro _;rotate_left 1;intro _;rotate_left 1))
  ·rename_i a1
   exact⟨1,⟨by omega,g8 hi a1⟩,by omega,(by apply bH;refine⟨?_, ?_, ?_, ?_, ?_⟩<;>repeat' (first|exact trivial|apply And.intro|apply Eq.refl|(apply gv;apply Eq.refl;first|omega|assumption)|(apply gL;apply Eq.refl;repeat' (first|apply Eq.refl|apply cd|(apply cf;first|apply Eq.refl|omega|assumption)))))⟩
  ·rename_i a1 a2
   rw[jw hi a1 a2]
   ((try apply aL);first|(focus (apply fu;apply Eq.refl;(first|(apply gr;apply Eq.refl)|(apply ed<;>apply Eq.refl));(first|(apply gr;apply Eq.refl)|(apply ed<;>apply Eq.refl));all_goals try apply Eq.refl)))
  ·rename_i a1 a2
   exact⟨1,⟨by omega,dQ hi a1 a2⟩,by omega,(by apply bH;refine⟨?_, ?_, ?_, ?_, ?_⟩<;>repeat' (first|exact trivial|apply And.intro|apply Eq.refl|(apply gv;apply Eq.refl;first|omega|assumption)|(apply gL;apply Eq.refl;repeat' (first|apply Eq.refl|apply cd|(apply cf;first|apply Eq.refl|omega|assumption)))))⟩
 ·repeat' (first
  |(apply bU;apply Eq.refl;apply Eq.refl;(first|(apply aA<;>apply Eq.refl)|(apply aG<;>apply Eq.refl)|(apply aH<;>apply Eq.refl)|(apply aD<;>apply Eq.refl)|(apply aB<;>apply Eq.refl)|(apply aX<;>apply Eq.refl)|(apply bj<;>apply Eq.refl)|(apply ah<;>(first|apply Eq.refl|omega))|(apply cu<;>apply Eq.refl)|(apply aq<;>apply Eq.refl)|(apply aM<;>apply Eq.refl)|(apply bJ<;>apply Eq.refl)|(apply cw<;>apply Eq.refl)|(apply cT;apply Eq.refl;apply Eq.refl;apply Eq.refl;apply Eq.refl;(first|omega|decide);apply Eq.refl;apply Eq.refl;(first|omega|decide);apply Eq.refl;apply Eq.refl)|(apply lF;apply Eq.refl;apply Eq.refl;apply Eq.refl;(first|omega|decide);apply Eq.refl;apply Eq.refl;(first|omega|decide);apply Eq.refl;apply Eq.refl;apply Eq.refl)))
  |apply aZ
  |apply ak
  |apply an
  |apply aE
  |apply bn
  |apply cg
  |apply aF
  |apply cN
  |apply aw
  |apply aS
  |apply bf
  |apply aY
  |apply aR
  |(apply bu;apply Eq.refl)
  |(apply bD;apply Eq.refl)
  |(apply bZ;apply Eq.refl;(first|(apply aT<;>apply Eq.refl)|(apply aO<;>apply Eq.refl)|(apply bM<;>apply Eq.refl)))
  |apply ax
  |(apply bw;kernel_rfl)
  |(apply dx;(first|(apply ab;apply Eq.refl)|(apply ae;apply Eq.refl;apply Eq.refl;apply Eq.refl));apply Eq.refl;first|(apply bB<;>apply Eq.refl)|(apply aW<;>apply Eq.refl)|(apply b6;apply Eq.refl)|(apply b7;apply Eq.refl)|(apply aN;intro _;(first|(apply aA<;>apply Eq.refl)|(apply aG<;>apply Eq.refl)|(apply aH<;>apply Eq.refl)|(apply aD<;>apply Eq.refl)|(apply aB<;>apply Eq.refl)|(apply aX<;>apply Eq.refl)|(apply bj<;>apply Eq.refl)|(apply ah<;>(first|apply Eq.refl|omega))|(apply cu<;>apply Eq.refl)|(apply aq<;>apply Eq.refl)|(apply aM<;>apply Eq.refl)|(apply bJ<;>apply Eq.refl)|(apply cw<;>apply Eq.refl)|(apply cT;apply Eq.refl;apply Eq.refl;apply Eq.refl;apply Eq.refl;(first|omega|decide);apply Eq.refl;apply Eq.refl;(first|omega|decide);apply Eq.refl;apply Eq.refl)|(apply lF;apply Eq.refl;apply Eq.refl;apply Eq.refl;(first|omega|decide);apply Eq.refl;apply Eq.refl;(first|omega|decide);apply Eq.refl;apply Eq.refl;apply Eq.refl))))
  |(apply az;(first|(apply ab;apply Eq.refl)|(apply ae;apply Eq.refl;apply Eq.refl;apply Eq.refl));apply Eq.refl;apply Eq.refl;apply Eq.refl;exact(hnear (true,false)))
  |(apply cM;apply Eq.refl;intro _;rotate_left 1;intro _;rotate_left 1)
  |(apply eR;apply Eq.refl;intro _;rotate_left 1;intro _;rotate_left 1))
  ·rename_i a1
   exact⟨2,⟨by omega,g8 hi a1⟩,by omega,(by apply bH;refine⟨?_, ?_, ?_, ?_, ?_⟩<;>repeat' (first|exact trivial|apply And.intro|apply Eq.refl|(apply gv;apply Eq.refl;first|omega|assumption)|(apply gL;apply Eq.refl;repeat' (first|apply Eq.refl|apply cd|(apply cf;first|apply Eq.refl|omega|assumption)))))⟩
  ·rename_i a1 a2
   rw[jw hi a1 a2]
   ((try apply aL);first|(focus (apply fu;apply Eq.refl;(first|(apply gr;apply Eq.refl)|(apply ed<;>apply Eq.refl));(first|(apply gr;apply Eq.refl)|(apply ed<;>apply Eq.refl));all_goals try apply Eq.refl)))
  ·rename_i a1 a2
   exact⟨2,⟨by omega,dQ hi a1 a2⟩,by omega,(by apply bH;refine⟨?_, ?_, ?_, ?_, ?_⟩<;>repeat' (first|exact trivial|apply And.intro|apply Eq.refl|(apply gv;apply Eq.refl;first|omega|assumption)|(apply gL;apply Eq.refl;repeat' (first|apply Eq.refl|apply cd|(apply cf;first|apply Eq.refl|omega|assumption)))))⟩
 ·repeat' (first
  |(apply bU;apply Eq.refl;apply Eq.refl;(first|(apply aA<;>apply Eq.refl)|(apply aG<;>apply Eq.refl)|(apply aH<;>apply Eq.refl)|(apply aD<;>apply Eq.refl)|(apply aB<;>apply Eq.refl)|(apply aX<;>apply Eq.refl)|(apply bj<;>apply Eq.refl)|(apply ah<;>(first|apply Eq.refl|omega))|(apply cu<;>apply Eq.refl)|(apply aq<;>apply Eq.refl)|(apply aM<;>apply Eq.refl)|(apply bJ<;>apply Eq.refl)|(apply cw<;>apply Eq.refl)|(apply cT;apply Eq.refl;apply Eq.refl;apply Eq.refl;apply Eq.refl;(first|omega|decide);apply Eq.refl;apply Eq.refl;(first|omega|decide);apply Eq.refl;apply Eq.refl)|(apply lF;apply Eq.refl;apply Eq.refl;apply Eq.refl;(first|omega|decide);apply Eq.refl;apply Eq.refl;(first|omega|decide);apply Eq.refl;apply Eq.refl;apply Eq.refl)))
  |apply aZ
  |apply ak
  |apply an
  |apply aE
  |apply bn
  |apply cg
  |apply aF
  |apply cN
  |apply aw
  |apply aS
  |apply bf
  |apply aY
  |apply aR
  |(apply bu;apply Eq.refl)
  |(apply bD;apply Eq.refl)
  |(apply bZ;apply Eq.refl;(first|(apply aT<;>apply Eq.refl)|(apply aO<;>apply Eq.refl)|(apply bM<;>apply Eq.refl)))
  |apply ax
  |(apply bw;kernel_rfl)
  |(apply dx;(first|(apply ab;apply Eq.refl)|(apply ae;apply Eq.refl;apply Eq.refl;apply Eq.refl));apply Eq.refl;first|(apply bB<;>apply Eq.refl)|(apply aW<;>apply Eq.refl)|(apply b6;apply Eq.refl)|(apply b7;apply Eq.refl)|(apply aN;intro _;(first|(apply aA<;>apply Eq.refl)|(apply aG<;>apply Eq.refl)|(apply aH<;>apply Eq.refl)|(apply aD<;>apply Eq.refl)|(apply aB<;>apply Eq.refl)|(apply aX<;>apply Eq.refl)|(apply bj<;>apply Eq.refl)|(apply ah<;>(first|apply Eq.refl|omega))|(apply cu<;>apply Eq.refl)|(apply aq<;>apply Eq.refl)|(apply aM<;>apply Eq.refl)|(apply bJ<;>apply Eq.refl)|(apply cw<;>apply Eq.refl)|(apply cT;apply Eq.refl;apply Eq.refl;apply Eq.refl;apply Eq.refl;(first|omega|decide);apply Eq.refl;apply Eq.refl;(first|omega|decide);apply Eq.refl;apply Eq.refl)|(apply lF;apply Eq.refl;apply Eq.refl;apply Eq.refl;(first|omega|decide);apply Eq.refl;apply Eq.refl;(first|omega|decide);apply Eq.refl;apply Eq.refl;apply Eq.refl))))
  |(apply az;(first|(apply ab;apply Eq.refl)|(apply ae;apply Eq.refl;apply Eq.refl;apply Eq.refl));apply Eq.refl;apply Eq.refl;apply Eq.refl;exact(hnear (false,true)))
  |(apply cM;apply Eq.refl;intro _;rotate_left 1;intro _;rotate_left 1)
  |(apply eR;apply Eq.refl;intro _;rotate_left 1;intro _;rotate_left 1))
  ·rename_i a1
   exact⟨3,⟨by omega,g8 hi a1⟩,by omega,(by apply bH;refine⟨?_, ?_, ?_, ?_, ?_⟩<;>repeat' (first|exact trivial|apply And.intro|apply Eq.refl|(apply gv;apply Eq.refl;first|omega|assumption)|(apply gL;apply Eq.refl;repeat' (first|apply Eq.refl|apply cd|(apply cf;first|apply Eq.refl|omega|assumption)))))⟩
  ·rename_i a1 a2
   rw[jw hi a1 a2]
   ((try apply aL);first|(focus (apply fu;apply Eq.refl;(first|(apply gr;apply Eq.refl)|(apply ed<;>apply Eq.refl));(first|(apply gr;apply Eq.refl)|(apply ed<;>apply Eq.refl));all_goals try apply Eq.refl)))
  ·rename_i a1 a2
   exact⟨3,⟨by omega,dQ hi a1 a2⟩,by omega,(by apply bH;refine⟨?_, ?_, ?_, ?_, ?_⟩<;>repeat' (first|exact trivial|apply And.intro|apply Eq.refl|(apply gv;apply Eq.refl;first|omega|assumption)|(apply gL;apply Eq.refl;repeat' (first|apply Eq.refl|apply cd|(apply cf;first|apply Eq.refl|omega|assumption)))))⟩
 ·repeat' (first
  |(apply bU;apply Eq.refl;apply Eq.refl;(first|(apply aA<;>apply Eq.refl)|(apply aG<;>apply Eq.refl)|(apply aH<;>apply Eq.refl)|(apply aD<;>apply Eq.refl)|(apply aB<;>apply Eq.refl)|(apply aX<;>apply Eq.refl)|(apply bj<;>apply Eq.refl)|(apply ah<;>(first|apply Eq.refl|omega))|(apply cu<;>apply Eq.refl)|(apply aq<;>apply Eq.refl)|(apply aM<;>apply Eq.refl)|(apply bJ<;>apply Eq.refl)|(apply cw<;>apply Eq.refl)|(apply cT;apply Eq.refl;apply Eq.refl;apply Eq.refl;apply Eq.refl;(first|omega|decide);apply Eq.refl;apply Eq.refl;(first|omega|decide);apply Eq.refl;apply Eq.refl)|(apply lF;apply Eq.refl;apply Eq.refl;apply Eq.refl;(first|omega|decide);apply Eq.refl;apply Eq.refl;(first|omega|decide);apply Eq.refl;apply Eq.refl;apply Eq.refl)))
  |apply aZ
  |apply ak
  |apply an
  |apply aE
  |apply bn
  |apply cg
  |apply aF
  |apply cN
  |apply aw
  |apply aS
  |apply bf
  |apply aY
  |apply aR
  |(apply bu;apply Eq.refl)
  |(apply bD;apply Eq.refl)
  |(apply bZ;apply Eq.refl;(first|(apply aT<;>apply Eq.refl)|(apply aO<;>apply Eq.refl)|(apply bM<;>apply Eq.refl)))
  |apply ax
  |(apply bw;kernel_rfl)
  |(apply dx;(first|(apply ab;apply Eq.refl)|(apply ae;apply Eq.refl;apply Eq.refl;apply Eq.refl));apply Eq.refl;first|(apply bB<;>apply Eq.refl)|(apply aW<;>apply Eq.refl)|(apply b6;apply Eq.refl)|(apply b7;apply Eq.refl)|(apply aN;intro _;(first|(apply aA<;>apply Eq.refl)|(apply aG<;>apply Eq.refl)|(apply aH<;>apply Eq.refl)|(apply aD<;>apply Eq.refl)|(apply aB<;>apply Eq.refl)|(apply aX<;>apply Eq.refl)|(apply bj<;>apply Eq.refl)|(apply ah<;>(first|apply Eq.refl|omega))|(apply cu<;>apply Eq.refl)|(apply aq<;>apply Eq.refl)|(apply aM<;>apply Eq.refl)|(apply bJ<;>apply Eq.refl)|(apply cw<;>apply Eq.refl)|(apply cT;apply Eq.refl;apply Eq.refl;apply Eq.refl;apply Eq.refl;(first|omega|decide);apply Eq.refl;apply Eq.refl;(first|omega|decide);apply Eq.refl;apply Eq.refl)|(apply lF;apply Eq.refl;apply Eq.refl;apply Eq.refl;(first|omega|decide);apply Eq.refl;apply Eq.refl;(first|omega|decide);apply Eq.refl;apply Eq.refl;apply Eq.refl))))
  |(apply az;(first|(apply ab;apply Eq.refl)|(apply ae;apply Eq.refl;apply Eq.refl;apply Eq.refl));apply Eq.refl;apply Eq.refl;apply Eq.refl;exact(hnear (true,true)))
  |(apply cM;apply Eq.refl;intro _;rotate_left 1;intro _;rotate_left 1)
  |(apply eR;apply Eq.refl;intro _;rotate_left 1;intro _;rotate_left 1))
  ·rename_i a1
   exact⟨4,⟨by omega,g8 hi a1⟩,by omega,(by apply bH;refine⟨?_, ?_, ?_, ?_, ?_⟩<;>repeat' (first|exact trivial|apply And.intro|apply Eq.refl|(apply gv;apply Eq.refl;first|omega|assumption)|(apply gL;apply Eq.refl;repeat' (first|apply Eq.refl|apply cd|(apply cf;first|apply Eq.refl|omega|assumption)))))⟩
  ·rename_i a1 a2
   rw[jw hi a1 a2]
   ((try apply aL);first|(focus (apply fu;apply Eq.refl;(first|(apply gr;apply Eq.refl)|(apply ed<;>apply Eq.refl));(first|(apply gr;apply Eq.refl)|(apply ed<;>apply Eq.refl));all_goals try apply Eq.refl)))
  ·rename_i a1 a2
   exact⟨4,⟨by omega,dQ hi a1 a2⟩,by omega,(by apply bH;refine⟨?_, ?_, ?_, ?_, ?_⟩<;>repeat' (first|exact trivial|apply And.intro|apply Eq.refl|(apply gv;apply Eq.refl;first|omega|assumption)|(apply gL;apply Eq.refl;repeat' (first|apply Eq.refl|apply cd|(apply cf;first|apply Eq.refl|omega|assumption)))))⟩
 ·have hR:R=none:=hi.symm
  rw[hR]
  repeat' (first
  |(apply bU;apply Eq.refl;apply Eq.refl;(first|(apply aA<;>apply Eq.refl)|(apply aG<;>apply Eq.refl)|(apply aH<;>apply Eq.refl)|(apply aD<;>apply Eq.refl)|(apply aB<;>apply Eq.refl)|(apply aX<;>apply Eq.refl)|(apply bj<;>apply Eq.refl)|(apply ah<;>(first|apply Eq.refl|omega))|(apply cu<;>apply Eq.refl)|(apply aq<;>apply Eq.refl)|(apply aM<;>apply Eq.refl)|(apply bJ<;>apply Eq.refl)|(apply cw<;>apply Eq.refl)|(apply cT;apply Eq.refl;apply Eq.refl;apply Eq.refl;apply Eq.refl;(first|omega|decide);apply Eq.refl;apply Eq.refl;(first|omega|decide);apply Eq.refl;apply Eq.refl)|(apply lF;apply Eq.refl;apply Eq.refl;apply Eq.refl;(first|omega|decide);apply Eq.refl;apply Eq.refl;(first|omega|decide);apply Eq.refl;apply Eq.refl;apply Eq.refl)))
  |apply aZ
  |apply ak
  |apply an
  |apply aE
  |apply bn
  |apply cg
  |apply aF
  |apply cN
  |apply aw
  |apply aS
  |apply bf
  |apply aY
  |apply aR
  |(apply bu;apply Eq.refl)
  |(apply bD;apply Eq.refl)
  |(apply bZ;apply Eq.refl;(first|(apply aT<;>apply Eq.refl)|(apply aO<;>apply Eq.refl)|(apply bM<;>apply Eq.refl)))
  |apply ax
  |(apply bw;kernel_rfl)
  |(apply dx;(first|(apply ab;apply Eq.refl)|(apply ae;apply Eq.refl;apply Eq.refl;apply Eq.refl));apply Eq.refl;first|(apply bB<;>apply Eq.refl)|(apply aW<;>apply Eq.refl)|(apply b6;apply Eq.refl)|(apply b7;apply Eq.refl)|(apply aN;intro _;(first|(apply aA<;>apply Eq.refl)|(apply aG<;>apply Eq.refl)|(apply aH<;>apply Eq.refl)|(apply aD<;>apply Eq.refl)|(apply aB<;>apply Eq.refl)|(apply aX<;>apply Eq.refl)|(apply bj<;>apply Eq.refl)|(apply ah<;>(first|apply Eq.refl|omega))|(apply cu<;>apply Eq.refl)|(apply aq<;>apply Eq.refl)|(apply aM<;>apply Eq.refl)|(apply bJ<;>apply Eq.refl)|(apply cw<;>apply Eq.refl)|(apply cT;apply Eq.refl;apply Eq.refl;apply Eq.refl;apply Eq.refl;(first|omega|decide);apply Eq.refl;apply Eq.refl;(first|omega|decide);apply Eq.refl;apply Eq.refl)|(apply lF;apply Eq.refl;apply Eq.refl;apply Eq.refl;(first|omega|decide);apply Eq.refl;apply Eq.refl;(first|omega|decide);apply Eq.refl;apply Eq.refl;apply Eq.refl))))
  |(apply cM;apply Eq.refl;intro _;rotate_left 1;intro _;rotate_left 1)
  |(apply eR;apply Eq.refl;intro _;rotate_left 1;intro _;rotate_left 1))
  ((try apply aL);first|(focus (apply fu;apply Eq.refl;(first|(apply gr;apply Eq.refl)|(apply ed<;>apply Eq.refl));(first|(apply gr;apply Eq.refl)|(apply ed<;>apply Eq.refl));all_goals try apply Eq.refl)))
end Go.Proofs.YtafnhieaeejlcaaDoor
namespace Go.Proofs.YtafnhieaeejlcaaDoor
open Go Go.Ab
set_option maxRecDepth 100000
set_option maxHeartbeats 4000000
attribute [local irreducible] W WL eh kL fe ee gN WG FQ Want jE WI pE fR eA
def Jb(c:Convoy):D:= .sl 14 c.trucks.length fun k=>gz (c.trucks.getD k default) c.len
theorem Cp(c:Convoy):Pure (Jb c):= .sl _ _ _ fun _ _ d hd=>qv _ _ d hd
theorem Si(c:Convoy)(hc:CR c):au cK 89 [.agg (aI c)] (Jb c):=by
 refine aC (fn:=Tryd.f89) Tryd.func89 rfl (by kernel_rfl) rfl ?_ ?_ ?_
 ·exact af.cons (.agg _ (bm c)) af.nil
 ·exact Cp c
 intro w κ
 have hn:=hc.ok.n
 repeat' (first
  |(apply bU;apply Eq.refl;apply Eq.refl;(first|(apply aA<;>apply Eq.refl)|(apply aG<;>apply Eq.refl)|(apply aH<;>apply Eq.refl)|(apply aD<;>apply Eq.refl)|(apply aB<;>apply Eq.refl)|(apply ah<;>(first|apply Eq.refl|omega))|(apply ba<;>apply Eq.refl)|(apply aq<;>apply Eq.refl)|(apply dt<;>apply Eq.refl)|(apply dn<;>apply Eq.refl)|(apply dr<;>apply Eq.refl)))
  |apply aZ
  |apply ak
  |apply an
  |apply aE
  |apply bn
  |apply aF
  |apply aw
  |apply aS
  |apply bf
  |apply aY
  |apply aR
  |(apply bZ;apply Eq.refl;(first|(apply aT<;>apply Eq.refl)))
  |apply ax
  |(apply bw;kernel_rfl)
  |(apply dx;(first|(apply ab;apply Eq.refl)|(apply ae;apply Eq.refl;apply Eq.refl;apply Eq.refl));apply Eq.refl;first|(apply bB<;>apply Eq.refl)|(apply aW<;>apply Eq.refl)|(apply b6;apply Eq.refl)|(apply b7;apply Eq.refl)|(apply aN;intro _;(first|(apply aA<;>apply Eq.refl)|(apply aG<;>apply Eq.refl)|(apply aH<;>apply Eq.refl)|(apply aD<;>apply Eq.refl)|(apply aB<;>apply Eq.refl)|(apply ah<;>(first|apply Eq.refl|omega))|(apply ba<;>apply Eq.refl)|(apply aq<;>apply Eq.refl)|(apply dt<;>apply Eq.refl)|(apply dn<;>apply Eq.refl)|(apply dr<;>apply Eq.refl))))
  |(apply fj;(first|(apply ab;apply Eq.refl)|(apply ae;apply Eq.refl;apply Eq.refl;apply Eq.refl));(first|(apply g4<;>apply Eq.refl)))
  |(apply cM;apply Eq.refl;intro _;rotate_left 1;intro _;rotate_left 1))
 refine qI (qg 3 3 132 14 (fun k=>gz (c.trucks.getD k default) c.len) rfl) ?_
 refine dI [1,2,7] [1,2] (fun k:Nat=>[(3, .os 3 (k+1)),(8, .int .i64 k)]) (fun k=>[(3,k+1)]) (fun k=>[(3, .arr 132 14 k (fun k=>gz (c.trucks.getD k default) c.len))])
  (fun k=>k≤c.trucks.length) (fun k=>c.trucks.length-k) 0 (Nat.zero_le _) (by refine⟨?_, ?_, ?_⟩<;>repeat' (first|exact trivial|apply And.intro|apply Eq.refl|(apply gv;apply Eq.refl;first|omega|assumption)|(apply gL;apply Eq.refl;repeat' (first|apply Eq.refl|apply cd|(apply cf;first|apply Eq.refl|omega|assumption))))) (fun k h hk=> ?_)
 have hr:(k:Int)<c.trucks.length→eZ c.len (c.trucks.getD k default):=fun h=>hc.r _ (by omega)
 repeat' (first
  |(apply bU;apply Eq.refl;apply Eq.refl;(first|(apply aA<;>apply Eq.refl)|(apply aG<;>apply Eq.refl)|(apply aH<;>apply Eq.refl)|(apply aD<;>apply Eq.refl)|(apply aB<;>apply Eq.refl)|(apply ah<;>(first|apply Eq.refl|omega))|(apply ba<;>apply Eq.refl)|(apply aq<;>apply Eq.refl)|(apply dt<;>apply Eq.refl)|(apply dn<;>apply Eq.refl)|(apply dr<;>apply Eq.refl)))
  |apply aZ
  |apply ak
  |apply an
  |apply aE
  |apply bn
  |apply aF
  |apply aw
  |apply aS
  |apply bf
  |apply aY
  |apply aR
  |(apply bZ;apply Eq.refl;(first|(apply aT<;>apply Eq.refl)))
  |apply ax
  |(apply bw;kernel_rfl)
  |(apply dx;(first|(apply ab;apply Eq.refl)|(apply ae;apply Eq.refl;apply Eq.refl;apply Eq.refl));apply Eq.refl;first|(apply bB<;>apply Eq.refl)|(apply aW<;>apply Eq.refl)|(apply b6;apply Eq.refl)|(apply b7;apply Eq.refl)|(apply aN;intro _;(first|(apply aA<;>apply Eq.refl)|(apply aG<;>apply Eq.refl)|(apply aH<;>apply Eq.refl)|(apply aD<;>apply Eq.refl)|(apply aB<;>apply Eq.refl)|(apply ah<;>(first|apply Eq.refl|omega))|(apply ba<;>apply Eq.refl)|(apply aq<;>apply Eq.refl)|(apply dt<;>apply Eq.refl)|(apply dn<;>apply Eq.refl)|(apply dr<;>apply Eq.refl))))
  |(apply az;(first|(apply ab;apply Eq.refl)|(apply ae;apply Eq.refl;apply Eq.refl;apply Eq.refl));apply Eq.refl;apply Eq.refl;apply Eq.refl;exact(Mw c k false (by omega)))
  |(apply az;(first|(apply ab;apply Eq.refl)|(apply ae;apply Eq.refl;apply Eq.refl;apply Eq.refl));apply Eq.refl;apply Eq.refl;apply Eq.refl;exact(Mw c k true (by omega)))
  |(apply az;(first|(apply ab;apply Eq.refl)|(apply ae;apply Eq.refl;apply Eq.refl;apply Eq.refl));apply Eq.refl;apply Eq.refl;apply Eq.refl;exact(Md (bb (c.trucks.getD k default) false) c.len ((hr (by assumption)).free false)))
  |(apply az;(first|(apply ab;apply Eq.refl)|(apply ae;apply Eq.refl;apply Eq.refl;apply Eq.refl));apply Eq.refl;apply Eq.refl;apply Eq.refl;exact(Md (bb (c.trucks.getD k default) true) c.len ((hr (by assumption)).free true)))
  |(apply fj;(first|(apply ab;apply Eq.refl)|(apply ae;apply Eq.refl;apply Eq.refl;apply Eq.refl));(first|(refine tR (f' :=fun k=>gz (c.trucks.getD k default) c.len) rfl rfl rfl rfl rfl rfl rfl rfl rfl rfl rfl rfl rfl rfl rfl (by show(k+1)*176≤_;omega) (by omega) rfl (fun i hi=>rfl) (fun i hi=>by(obtain rfl:i=0:=by omega);rfl))|(apply g4<;>apply Eq.refl)))
  |(apply cM;apply Eq.refl;intro _;rotate_left 1;intro _;rotate_left 1))
 ·exact⟨k+1,by omega,by omega,(by apply bH;refine⟨?_, ?_, ?_, ?_, ?_⟩<;>repeat' (first|exact trivial|apply And.intro|apply Eq.refl|(apply gv;apply Eq.refl;first|omega|assumption)|(apply gL;apply Eq.refl;repeat' (first|apply Eq.refl|apply cd|(apply cf;first|apply Eq.refl|omega|assumption)))))⟩
 ·obtain rfl:k=c.trucks.length:=by omega
  refine ns (jU 2 (s:=3) rfl rfl rfl) (aL ?_)
  ((try apply aL);first|(apply Ii;apply Eq.refl;apply Eq.refl;apply Eq.refl;try apply Eq.refl))
def fh{α:Type}(f:Nat→Option α):Nat→Nat→Option α
 |0,_=>none
 |n+1,k=>match f k with
  |some a=>some a
  |none=>fh f n (k+1)
section
variable {α:Type} {f:Nat→Option α} {n k:Nat} {R:Option α}
theorem jg(hi:fh f (n-k) k=R)(h:¬k<n):R=none:=by rw[←hi,show n-k=0 by omega];rfl
theorem dG{a:α}(hi:fh f (n-k) k=R)(h:k<n)(hp:f k=some a):R=some a:=by
 rw[←hi,show n-k=(n-(k+1))+1 by omega,fh,hp]
theorem gX(hi:fh f (n-k) k=R)(h:k<n)(hp:f k=none):fh f (n-(k+1)) (k+1)=R:=by
 rw[←hi,show n-k=(n-(k+1))+1 by omega,fh,hp]
end
def pQ(c:Convoy)(m i k:Nat):Option bd:=(nA c.gap c.fails (c.trucks.getD i default) (c.trucks.getD k default) c.len m).map fun x=>{x with i:=i,k:=k}
def qa(c:Convoy)(m i:Nat):Option bd:=fh (pQ c m i) (c.trucks.length-(i+1)) (i+1)
def pO(c:Convoy)(m:Nat):Option bd:=fh (qa c m) c.trucks.length 0
def eF(c:Convoy):Nat:=(dA (fx c) c.trucks.length).toNat
def ck(c:Convoy):Option bd:=fh (pO c) (eF c+1) 0
theorem Kd{c:Convoy}(hc:CR c){k:Nat}(hk:k<c.trucks.length):0≤fx c k∧fx c k≤21000:=(E8 (hc.ok.t k hk)).2.2
theorem lS{c:Convoy}(hc:CR c):∀k,k≤c.trucks.length→0≤dA (fx c) k∧dA (fx c) k≤21000
 |0,_=>by simp only[dA];omega
 |k+1,h=>by
  have a:=lS hc k (by omega)
  have b:=Kd hc (k:=k) (by omega)
  simp only[dA];omega
attribute [local irreducible] dA fx pQ qa pO nA
theorem R2(c:Convoy)(hc:CR c):au cK 70 [.agg (aI c)] (.tup [.agg (cI (A1 (ck c))), .bool (ck c).isSome]):=by
 refine aC (fn:=Tryd.f70) Tryd.func70 rfl (by kernel_rfl) rfl ?_ ?_ ?_
 ·exact af.cons (.agg _ (bm c)) af.nil
 ·exact .tup _ (af.cons (.agg _ (jQ _)) (af.cons (.bool _) af.nil))
 intro w κ
 have hn:=hc.ok.n
 have hmax0:=mN (fx c)
 repeat' (first
  |(apply bU;apply Eq.refl;apply Eq.refl;(first|(apply aA<;>apply Eq.refl)|(apply aG<;>apply Eq.refl)|(apply aH<;>apply Eq.refl)|(apply aD<;>apply Eq.refl)|(apply aB<;>apply Eq.refl)|(apply aX<;>apply Eq.refl)|(apply bj<;>apply Eq.refl)|(apply ah<;>(first|apply Eq.refl|omega))|(apply ba<;>apply Eq.refl)|(apply cu<;>apply Eq.refl)|(apply cq<;>(first|apply Eq.refl|omega))|(apply aq<;>apply Eq.refl)|(apply aM<;>apply Eq.refl)|(apply bJ<;>apply Eq.refl)|(apply dL<;>apply Eq.refl)|(apply cO<;>apply Eq.refl)|(apply kV<;>apply Eq.refl)|(apply cw<;>apply Eq.refl)|(apply pD<;>apply Eq.refl)|(apply iy<;>apply Eq.refl)|(apply iH<;>apply Eq.refl)|(apply cT;apply Eq.refl;apply Eq.refl;apply Eq.refl;apply Eq.refl;(first|omega|decide);apply Eq.refl;apply Eq.refl;(first|omega|decide);apply Eq.refl;apply Eq.refl)))
  |apply aZ
  |apply ak
  |apply an
  |apply aE
  |apply bn
  |apply cg
  |apply aF
  |apply cN
  |apply aw
  |apply aS
  |apply bf
  |apply aY
  |apply aR
  |(apply bu;apply Eq.refl)
  |(apply bD;apply Eq.refl)
  |(apply ay;apply Eq.refl;apply Eq.refl;rotate_left 1;apply Eq.refl;rotate_right 1;exact(Si c hc);apply Eq.refl)
  |(apply bZ;apply Eq.refl;(first|(apply aT<;>apply Eq.refl)|(apply aO<;>apply Eq.refl)|(apply bM<;>apply Eq.refl)))
  |apply ax
  |(apply bw;kernel_rfl)
  |(apply dx;(first|(apply ab;apply Eq.refl)|(apply ae;apply Eq.refl;apply Eq.refl;apply Eq.refl));apply Eq.refl;first|(apply bB<;>apply Eq.refl)|(apply aW<;>apply Eq.refl)|(apply b6;apply Eq.refl)|(apply b7;apply Eq.refl)|(apply aN;intro _;(first|(apply aA<;>apply Eq.refl)|(apply aG<;>apply Eq.refl)|(apply aH<;>apply Eq.refl)|(apply aD<;>apply Eq.refl)|(apply aB<;>apply Eq.refl)|(apply aX<;>apply Eq.refl)|(apply bj<;>apply Eq.refl)|(apply ah<;>(first|apply Eq.refl|omega))|(apply ba<;>apply Eq.refl)|(apply cu<;>apply Eq.refl)|(apply cq<;>(first|apply Eq.refl|omega))|(apply aq<;>apply Eq.refl)|(apply aM<;>apply Eq.refl)|(apply bJ<;>apply Eq.refl)|(apply dL<;>apply Eq.refl)|(apply cO<;>apply Eq.refl)|(apply kV<;>apply Eq.refl)|(apply cw<;>apply Eq.refl)|(apply pD<;>apply Eq.refl)|(apply iy<;>apply Eq.refl)|(apply iH<;>apply Eq.refl)|(apply cT;apply Eq.refl;apply Eq.refl;apply Eq.refl;apply Eq.refl;(first|omega|decide);apply Eq.refl;apply Eq.refl;(first|omega|decide);apply Eq.refl;apply Eq.refl))))
  |(apply rq;(first|(apply ab;apply Eq.refl)|(apply ae;apply Eq.refl;apply Eq.refl;apply Eq.refl));apply Eq.refl;apply Eq.refl;apply Eq.refl;exact(Si c hc);(focus ((repeat' (first|exact iU.nil|refine iU.cons _ _ _ _ ?_ ?_|exact Fz.os _ _ _ _ _ _ rfl rfl|exact Fz.bx _ _ _ _ rfl rfl|refine Fz.fn _ _ _ ?_|exact Fz.same _|exact dp _ _));done));apply Eq.refl)
  |(apply fj;(first|(apply ab;apply Eq.refl)|(apply ae;apply Eq.refl;apply Eq.refl;apply Eq.refl));(first|(apply cJ<;>apply Eq.refl)|(apply dT<;>apply Eq.refl)))
  |(apply cM;apply Eq.refl;intro _;rotate_left 1;intro _;rotate_left 1))
 refine dI [2,3,4,6,24,25] [2] (fun k:Nat=>[(7, .int .i64 (dA (fx c) k)),(26, .int .i64 k)]) (fun k=>[]) (fun k=>[])
  (fun k=>k≤c.trucks.length) (fun k=>c.trucks.length-k) 0 (Nat.zero_le _) (by refine⟨?_, ?_, ?_⟩<;>repeat' (first|exact trivial|apply And.intro|apply Eq.refl|(apply gv;apply Eq.refl;first|omega|assumption)|(apply gL;apply Eq.refl;repeat' (first|apply Eq.refl|apply cd|(apply cf;first|apply Eq.refl|omega|assumption))))) (fun k h hk=> ?_)
 have hmk:=Fh (fx c) k
 have hr:(k:Int)<c.trucks.length→eZ c.len (c.trucks.getD k default):=fun h=>hc.r _ (by omega)
 have k3:(k:Int)<c.trucks.length→au cK 98 [.agg (dj (bb (c.trucks.getD k default) false) c.len)] (.int .i64 (fx c k)):=fun h=>by rw[sq];exact Sd _ _ (hr h)
 repeat' (first
  |(apply bU;apply Eq.refl;apply Eq.refl;(first|(apply aA<;>apply Eq.refl)|(apply aG<;>apply Eq.refl)|(apply aH<;>apply Eq.refl)|(apply aD<;>apply Eq.refl)|(apply aB<;>apply Eq.refl)|(apply aX<;>apply Eq.refl)|(apply bj<;>apply Eq.refl)|(apply ah<;>(first|apply Eq.refl|omega))|(apply ba<;>apply Eq.refl)|(apply cu<;>apply Eq.refl)|(apply cq<;>(first|apply Eq.refl|omega))|(apply aq<;>apply Eq.refl)|(apply aM<;>apply Eq.refl)|(apply bJ<;>apply Eq.refl)|(apply dL<;>apply Eq.refl)|(apply cO<;>apply Eq.refl)|(apply kV<;>apply Eq.refl)|(apply cw<;>apply Eq.refl)|(apply pD<;>apply Eq.refl)|(apply iy<;>apply Eq.refl)|(apply iH<;>apply Eq.refl)|(apply cT;apply Eq.refl;apply Eq.refl;apply Eq.refl;apply Eq.refl;(first|omega|decide);apply Eq.refl;apply Eq.refl;(first|omega|decide);apply Eq.refl;apply Eq.refl)))
  |apply aZ
  |apply ak
  |apply an
  |apply aE
  |apply bn
  |apply cg
  |apply aF
  |apply cN
  |apply aw
  |apply aS
  |apply bf
  |apply aY
  |apply aR
  |(apply bu;apply Eq.refl)
  |(apply bD;apply Eq.refl)
  |(apply ay;apply Eq.refl;apply Eq.refl;rotate_left 1;apply Eq.refl;rotate_right 1;exact(k3 (by assumption));apply Eq.refl)
  |(apply bZ;apply Eq.refl;(first|(apply aT<;>apply Eq.refl)|(apply aO<;>apply Eq.refl)|(apply bM<;>apply Eq.refl)))
  |apply ax
  |(apply bw;kernel_rfl)
  |(apply dx;(first|(apply ab;apply Eq.refl)|(apply ae;apply Eq.refl;apply Eq.refl;apply Eq.refl));apply Eq.refl;first|(apply bB<;>apply Eq.refl)|(apply aW<;>apply Eq.refl)|(apply b6;apply Eq.refl)|(apply b7;apply Eq.refl)|(apply aN;intro _;(first|(apply aA<;>apply Eq.refl)|(apply aG<;>apply Eq.refl)|(apply aH<;>apply Eq.refl)|(apply aD<;>apply Eq.refl)|(apply aB<;>apply Eq.refl)|(apply aX<;>apply Eq.refl)|(apply bj<;>apply Eq.refl)|(apply ah<;>(first|apply Eq.refl|omega))|(apply ba<;>apply Eq.refl)|(apply cu<;>apply Eq.refl)|(apply cq<;>(first|apply Eq.refl|omega))|(apply aq<;>apply Eq.refl)|(apply aM<;>apply Eq.refl)|(apply bJ<;>apply Eq.refl)|(apply dL<;>apply Eq.refl)|(apply cO<;>apply Eq.refl)|(apply kV<;>apply Eq.refl)|(apply cw<;>apply Eq.refl)|(apply pD<;>apply Eq.refl)|(apply iy<;>apply Eq.refl)|(apply iH<;>apply Eq.refl)|(apply cT;apply Eq.refl;apply Eq.refl;apply Eq.refl;apply Eq.refl;(first|omega|decide);apply Eq.refl;apply Eq.refl;(first|omega|decide);apply Eq.refl;apply Eq.refl))))
  |(apply rq;(first|(apply ab;apply Eq.refl)|(apply ae;apply Eq.refl;apply Eq.refl;apply Eq.refl));apply Eq.refl;apply Eq.refl;apply Eq.refl;exact(k3 (by assumption));(focus ((repeat' (first|exact iU.nil|refine iU.cons _ _ _ _ ?_ ?_|exact Fz.os _ _ _ _ _ _ rfl rfl|exact Fz.bx _ _ _ _ rfl rfl|refine Fz.fn _ _ _ ?_|exact Fz.same _|exact dp _ _));done));apply Eq.refl)
  |(apply fj;(first|(apply ab;apply Eq.refl)|(apply ae;apply Eq.refl;apply Eq.refl;apply Eq.refl));(first|(apply cJ<;>apply Eq.refl)|(apply dT<;>apply Eq.refl)))
  |(apply cM;apply Eq.refl;intro _;rotate_left 1;intro _;rotate_left 1))
 ·exact⟨k+1,by omega,by omega,(by apply bH;refine⟨?_, ?_, ?_, ?_, ?_⟩<;>repeat' (first|exact trivial|apply And.intro|apply Eq.refl|(apply gv;apply Eq.refl;first|omega|assumption)|(apply gL;apply Eq.refl;repeat' (first|apply Eq.refl|apply cd|(apply cf;first|apply Eq.refl|omega|assumption)))))⟩
 obtain rfl:k=c.trucks.length:=by omega
 clear hr k3 hmk hmax0
 obtain⟨mb1,mb2⟩:=lS hc c.trucks.length (Nat.le_refl _)
 have hlast:((eF c:Nat):Int)=dA (fx c) c.trucks.length:=by unfold eF;omega
 refine dI [2,4,6,7] [] (fun m:Nat=>[(3, .bool false),(10, .int .i64 m)]) (fun m=>[(2,1)]) (fun m=>[(2, .box (cI default))])
  (fun m=>m≤eF c+1∧fh (pO c) (eF c+1-m) m=ck c) (fun m=>eF c+1-m) 0 ⟨Nat.zero_le _,rfl⟩ (by refine⟨?_, ?_, ?_⟩<;>repeat' (first|exact trivial|apply And.intro|apply Eq.refl|(apply gv;apply Eq.refl;first|omega|assumption)|(apply gL;apply Eq.refl;repeat' (first|apply Eq.refl|apply cd|(apply cf;first|apply Eq.refl|omega|assumption))))) (fun m h1 hm=> ?_)
 obtain⟨hm1,hm2⟩:=hm
 repeat' (first
  |(apply bU;apply Eq.refl;apply Eq.refl;(first|(apply aA<;>apply Eq.refl)|(apply aG<;>apply Eq.refl)|(apply aH<;>apply Eq.refl)|(apply aD<;>apply Eq.refl)|(apply aB<;>apply Eq.refl)|(apply aX<;>apply Eq.refl)|(apply bj<;>apply Eq.refl)|(apply ah<;>(first|apply Eq.refl|omega))|(apply ba<;>apply Eq.refl)|(apply cu<;>apply Eq.refl)|(apply cq<;>(first|apply Eq.refl|omega))|(apply aq<;>apply Eq.refl)|(apply aM<;>apply Eq.refl)|(apply bJ<;>apply Eq.refl)|(apply dL<;>apply Eq.refl)|(apply cO<;>apply Eq.refl)|(apply kV<;>apply Eq.refl)|(apply cw<;>apply Eq.refl)|(apply pD<;>apply Eq.refl)|(apply iy<;>apply Eq.refl)|(apply iH<;>apply Eq.refl)|(apply cT;apply Eq.refl;apply Eq.refl;apply Eq.refl;apply Eq.refl;(first|omega|decide);apply Eq.refl;apply Eq.refl;(first|omega|decide);apply Eq.refl;apply Eq.refl)))
  |apply aZ
  |apply ak
  |apply an
  |apply aE
  |apply bn
  |apply cg
  |apply aF
  |apply cN
  |apply aw
  |apply aS
  |apply bf
  |apply aY
  |apply aR
  |(apply bu;apply Eq.refl)
  |(apply bD;apply Eq.refl)
  |(apply bZ;apply Eq.refl;(first|(apply aT<;>apply Eq.refl)|(apply aO<;>apply Eq.refl)|(apply bM<;>apply Eq.refl)))
  |apply ax
  |(apply bw;kernel_rfl)
  |(apply dx;(first|(apply ab;apply Eq.refl)|(apply ae;apply Eq.refl;apply Eq.refl;apply Eq.refl));apply Eq.refl;first|(apply bB<;>apply Eq.refl)|(apply aW<;>apply Eq.refl)|(apply b6;apply Eq.refl)|(apply b7;apply Eq.refl)|(apply aN;intro _;(first|(apply aA<;>apply Eq.refl)|(apply aG<;>apply Eq.refl)|(apply aH<;>apply Eq.refl)|(apply aD<;>apply Eq.refl)|(apply aB<;>apply Eq.refl)|(apply aX<;>apply Eq.refl)|(apply bj<;>apply Eq.refl)|(apply ah<;>(first|apply Eq.refl|omega))|(apply ba<;>apply Eq.refl)|(apply cu<;>apply Eq.refl)|(apply cq<;>(first|apply Eq.refl|omega))|(apply aq<;>apply Eq.refl)|(apply aM<;>apply Eq.refl)|(apply bJ<;>apply Eq.refl)|(apply dL<;>apply Eq.refl)|(apply cO<;>apply Eq.refl)|(apply kV<;>apply Eq.refl)|(apply cw<;>apply Eq.refl)|(apply pD<;>apply Eq.refl)|(apply iy<;>apply Eq.refl)|(apply iH<;>apply Eq.refl)|(apply cT;apply Eq.refl;apply Eq.refl;apply Eq.refl;apply Eq.refl;(first|omega|decide);apply Eq.refl;apply Eq.refl;(first|omega|decide);apply Eq.refl;apply Eq.refl))))
  |(apply fj;(first|(apply ab;apply Eq.refl)|(apply ae;apply Eq.refl;apply Eq.refl;apply Eq.refl));(first|(apply cJ<;>apply Eq.refl)|(apply dT<;>apply Eq.refl)))
  |(apply cM;apply Eq.refl;intro _;rotate_left 1;intro _;rotate_left 1))
 rotate_left 1
 ·have:=jg hm2 (by omega)
  rw[this];((try apply aL);first|(focus (apply fu;apply Eq.refl;(first|(apply gr;apply Eq.refl)|(apply ed<;>apply Eq.refl));(first|(apply gr;apply Eq.refl)|(apply ed<;>apply Eq.refl));all_goals try apply Eq.refl)))
 have hmlt:m<eF c+1:=by omega
 refine dI [2,4,6,7,10,36,37,38,41,42] [] (fun i:Nat=>[(3, .bool false),(43, .int .i64 i)]) (fun i=>[(2,1)]) (fun i=>[(2, .box (cI default))])
  (fun i=>i≤c.trucks.length∧fh (qa c m) (c.trucks.length-i) i=pO c m) (fun i=>c.trucks.length-i) 0 ⟨Nat.zero_le _,by unfold pO;rfl⟩ (by refine⟨?_, ?_, ?_⟩<;>repeat' (first|exact trivial|apply And.intro|apply Eq.refl|(apply gv;apply Eq.refl;first|omega|assumption)|(apply gL;apply Eq.refl;repeat' (first|apply Eq.refl|apply cd|(apply cf;first|apply Eq.refl|omega|assumption))))) (fun i h2 hi=> ?_)
 obtain⟨hi1,hi2⟩:=hi
 repeat' (first
  |(apply bU;apply Eq.refl;apply Eq.refl;(first|(apply aA<;>apply Eq.refl)|(apply aG<;>apply Eq.refl)|(apply aH<;>apply Eq.refl)|(apply aD<;>apply Eq.refl)|(apply aB<;>apply Eq.refl)|(apply aX<;>apply Eq.refl)|(apply bj<;>apply Eq.refl)|(apply ah<;>(first|apply Eq.refl|omega))|(apply ba<;>apply Eq.refl)|(apply cu<;>apply Eq.refl)|(apply cq<;>(first|apply Eq.refl|omega))|(apply aq<;>apply Eq.refl)|(apply aM<;>apply Eq.refl)|(apply bJ<;>apply Eq.refl)|(apply dL<;>apply Eq.refl)|(apply cO<;>apply Eq.refl)|(apply kV<;>apply Eq.refl)|(apply cw<;>apply Eq.refl)|(apply pD<;>apply Eq.refl)|(apply iy<;>apply Eq.refl)|(apply iH<;>apply Eq.refl)|(apply cT;apply Eq.refl;apply Eq.refl;apply Eq.refl;apply Eq.refl;(first|omega|decide);apply Eq.refl;apply Eq.refl;(first|omega|decide);apply Eq.refl;apply Eq.refl)))
  |apply aZ
  |apply ak
  |apply an
  |apply aE
  |apply bn
  |apply cg
  |apply aF
  |apply cN
  |apply aw
  |apply aS
  |apply bf
  |apply aY
  |apply aR
  |(apply bu;apply Eq.refl)
  |(apply bD;apply Eq.refl)
  |(apply bZ;apply Eq.refl;(first|(apply aT<;>apply Eq.refl)|(apply aO<;>apply Eq.refl)|(apply bM<;>apply Eq.refl)))
  |apply ax
  |(apply bw;kernel_rfl)
  |(apply dx;(first|(apply ab;apply Eq.refl)|(apply ae;apply Eq.refl;apply Eq.refl;apply Eq.refl));apply Eq.refl;first|(apply bB<;>apply Eq.refl)|(apply aW<;>apply Eq.refl)|(apply b6;apply Eq.refl)|(apply b7;apply Eq.refl)|(apply aN;intro _;(first|(apply aA<;>apply Eq.refl)|(apply aG<;>apply Eq.refl)|(apply aH<;>apply Eq.refl)|(apply aD<;>apply Eq.refl)|(apply aB<;>apply Eq.refl)|(apply aX<;>apply Eq.refl)|(apply bj<;>apply Eq.refl)|(apply ah<;>(first|apply Eq.refl|omega))|(apply ba<;>apply Eq.refl)|(apply cu<;>apply Eq.refl)|(apply cq<;>(first|apply Eq.refl|omega))|(apply aq<;>apply Eq.refl)|(apply aM<;>apply Eq.refl)|(apply bJ<;>apply Eq.refl)|(apply dL<;>apply Eq.refl)|(apply cO<;>apply Eq.refl)|(apply kV<;>apply Eq.refl)|(apply cw<;>apply Eq.refl)|(apply pD<;>apply Eq.refl)|(apply iy<;>apply Eq.refl)|(apply iH<;>apply Eq.refl)|(apply cT;apply Eq.refl;apply Eq.refl;apply Eq.refl;apply Eq.refl;(first|omega|decide);apply Eq.refl;apply Eq.refl;(first|omega|decide);apply Eq.refl;apply Eq.refl))))
  |(apply fj;(first|(apply ab;apply Eq.refl)|(apply ae;apply Eq.refl;apply Eq.refl;apply Eq.refl));(first|(apply cJ<;>apply Eq.refl)|(apply dT<;>apply Eq.refl)))
  |(apply cM;apply Eq.refl;intro _;rotate_left 1;intro _;rotate_left 1))
 rotate_left 1
 ·have:=jg hi2 (by omega)
  exact⟨m+1,⟨by omega,gX hm2 hmlt this⟩,by omega,(by apply bH;refine⟨?_, ?_, ?_, ?_, ?_⟩<;>repeat' (first|exact trivial|apply And.intro|apply Eq.refl|(apply gv;apply Eq.refl;first|omega|assumption)|(apply gL;apply Eq.refl;repeat' (first|apply Eq.refl|apply cd|(apply cf;first|apply Eq.refl|omega|assumption)))))⟩
 have hilt:i<c.trucks.length:=by omega
 refine dI [2,4,6,7,10,11,36,37,38,41,42,43,44,45,46,47] [] (fun k:Nat=>[(3, .bool false),(12, .int .i64 k)]) (fun k=>[(2,1)]) (fun k=>[(2, .box (cI default))])
  (fun k=>i+1≤k∧k≤c.trucks.length∧fh (pQ c m i) (c.trucks.length-k) k=qa c m i) (fun k=>c.trucks.length-k) (i+1) ⟨Nat.le_refl _,by omega,by unfold qa;rfl⟩ (by refine⟨?_, ?_, ?_⟩<;>repeat' (first|exact trivial|apply And.intro|apply Eq.refl|(apply gv;apply Eq.refl;first|omega|assumption)|(apply gL;apply Eq.refl;repeat' (first|apply Eq.refl|apply cd|(apply cf;first|apply Eq.refl|omega|assumption))))) (fun k h3 hk=> ?_)
 obtain⟨hk0,hk1,hk2⟩:=hk
 repeat' (first
  |(apply bU;apply Eq.refl;apply Eq.refl;(first|(apply aA<;>apply Eq.refl)|(apply aG<;>apply Eq.refl)|(apply aH<;>apply Eq.refl)|(apply aD<;>apply Eq.refl)|(apply aB<;>apply Eq.refl)|(apply aX<;>apply Eq.refl)|(apply bj<;>apply Eq.refl)|(apply ah<;>(first|apply Eq.refl|omega))|(apply ba<;>apply Eq.refl)|(apply cu<;>apply Eq.refl)|(apply cq<;>(first|apply Eq.refl|omega))|(apply aq<;>apply Eq.refl)|(apply aM<;>apply Eq.refl)|(apply bJ<;>apply Eq.refl)|(apply dL<;>apply Eq.refl)|(apply cO<;>apply Eq.refl)|(apply kV<;>apply Eq.refl)|(apply cw<;>apply Eq.refl)|(apply pD<;>apply Eq.refl)|(apply iy<;>apply Eq.refl)|(apply iH<;>apply Eq.refl)|(apply cT;apply Eq.refl;apply Eq.refl;apply Eq.refl;apply Eq.refl;(first|omega|decide);apply Eq.refl;apply Eq.refl;(first|omega|decide);apply Eq.refl;apply Eq.refl)))
  |apply aZ
  |apply ak
  |apply an
  |apply aE
  |apply bn
  |apply cg
  |apply aF
  |apply cN
  |apply aw
  |apply aS
  |apply bf
  |apply aY
  |apply aR
  |(apply bu;apply Eq.refl)
  |(apply bD;apply Eq.refl)
  |(apply bZ;apply Eq.refl;(first|(apply aT<;>apply Eq.refl)|(apply aO<;>apply Eq.refl)|(apply bM<;>apply Eq.refl)))
  |apply ax
  |(apply bw;kernel_rfl)
  |(apply dx;(first|(apply ab;apply Eq.refl)|(apply ae;apply Eq.refl;apply Eq.refl;apply Eq.refl));apply Eq.refl;first|(apply bB<;>apply Eq.refl)|(apply aW<;>apply Eq.refl)|(apply b6;apply Eq.refl)|(apply b7;apply Eq.refl)|(apply aN;intro _;(first|(apply aA<;>apply Eq.refl)|(apply aG<;>apply Eq.refl)|(apply aH<;>apply Eq.refl)|(apply aD<;>apply Eq.refl)|(apply aB<;>apply Eq.refl)|(apply aX<;>apply Eq.refl)|(apply bj<;>apply Eq.refl)|(apply ah<;>(first|apply Eq.refl|omega))|(apply ba<;>apply Eq.refl)|(apply cu<;>apply Eq.refl)|(apply cq<;>(first|apply Eq.refl|omega))|(apply aq<;>apply Eq.refl)|(apply aM<;>apply Eq.refl)|(apply bJ<;>apply Eq.refl)|(apply dL<;>apply Eq.refl)|(apply cO<;>apply Eq.refl)|(apply kV<;>apply Eq.refl)|(apply cw<;>apply Eq.refl)|(apply pD<;>apply Eq.refl)|(apply iy<;>apply Eq.refl)|(apply iH<;>apply Eq.refl)|(apply cT;apply Eq.refl;apply Eq.refl;apply Eq.refl;apply Eq.refl;(first|omega|decide);apply Eq.refl;apply Eq.refl;(first|omega|decide);apply Eq.refl;apply Eq.refl))))
  |(apply fj;(first|(apply ab;apply Eq.refl)|(apply ae;apply Eq.refl;apply Eq.refl;apply Eq.refl));(first|(apply cJ<;>apply Eq.refl)|(apply dT<;>apply Eq.refl)))
  |(apply cM;apply Eq.refl;intro _;rotate_left 1;intro _;rotate_left 1))
 ·have hklt:k<c.trucks.length:=by omega
  have kk:=QY c.gap c.fails (c.trucks.getD i default) (c.trucks.getD k default) c.len m (hc.r i hilt) (hc.r k hklt) (by have:=hc.ok.g1;omega) hc.ok.g2 (by omega) (by omega)
  have hp:pQ c m i k=(nA c.gap c.fails (c.trucks.getD i default) (c.trucks.getD k default) c.len m).map fun x=>{x with i:=i,k:=k}:=by unfold pQ;rfl
  generalize nA c.gap c.fails (c.trucks.getD i default) (c.trucks.getD k default) c.len m=R at kk hp
  cases R with
  |none=>
   repeat' (first
  |(apply bU;apply Eq.refl;apply Eq.refl;(first|(apply aA<;>apply Eq.refl)|(apply aG<;>apply Eq.refl)|(apply aH<;>apply Eq.refl)|(apply aD<;>apply Eq.refl)|(apply aB<;>apply Eq.refl)|(apply aX<;>apply Eq.refl)|(apply bj<;>apply Eq.refl)|(apply ah<;>(first|apply Eq.refl|omega))|(apply ba<;>apply Eq.refl)|(apply cu<;>apply Eq.refl)|(apply cq<;>(first|apply Eq.refl|omega))|(apply aq<;>apply Eq.refl)|(apply aM<;>apply Eq.refl)|(apply bJ<;>apply Eq.refl)|(apply dL<;>apply Eq.refl)|(apply cO<;>apply Eq.refl)|(apply kV<;>apply Eq.refl)|(apply cw<;>apply Eq.refl)|(apply pD<;>apply Eq.refl)|(apply iy<;>apply Eq.refl)|(apply iH<;>apply Eq.refl)|(apply cT;apply Eq.refl;apply Eq.refl;apply Eq.refl;apply Eq.refl;(first|omega|decide);apply Eq.refl;apply Eq.refl;(first|omega|decide);apply Eq.refl;apply Eq.refl)))
  |apply aZ
  |apply ak
  |apply an
  |apply aE
  |apply bn
  |apply cg
  |apply aF
  |apply cN
  |apply aw
  |apply aS
  |apply bf
  |apply aY
  |apply aR
  |(apply bu;apply Eq.refl)
  |(apply bD;apply Eq.refl)
  |(apply ay;apply Eq.refl;apply Eq.refl;rotate_left 1;apply Eq.refl;rotate_right 1;exact(kk);apply Eq.refl)
  |(apply bZ;apply Eq.refl;(first|(apply aT<;>apply Eq.refl)|(apply aO<;>apply Eq.refl)|(apply bM<;>apply Eq.refl)))
  |apply ax
  |(apply bw;kernel_rfl)
  |(apply dx;(first|(apply ab;apply Eq.refl)|(apply ae;apply Eq.refl;apply Eq.refl;apply Eq.refl));apply Eq.refl;first|(apply bB<;>apply Eq.refl)|(apply aW<;>apply Eq.refl)|(apply b6;apply Eq.refl)|(apply b7;apply Eq.refl)|(apply aN;intro _;(first|(apply aA<;>apply Eq.refl)|(apply aG<;>apply Eq.refl)|(apply aH<;>apply Eq.refl)|(apply aD<;>apply Eq.refl)|(apply aB<;>apply Eq.refl)|(apply aX<;>apply Eq.refl)|(apply bj<;>apply Eq.refl)|(apply ah<;>(first|apply Eq.refl|omega))|(apply ba<;>apply Eq.refl)|(apply cu<;>apply Eq.refl)|(apply cq<;>(first|apply Eq.refl|omega))|(apply aq<;>apply Eq.refl)|(apply aM<;>apply Eq.refl)|(apply bJ<;>apply Eq.refl)|(apply dL<;>apply Eq.refl)|(apply cO<;>apply Eq.refl)|(apply kV<;>apply Eq.refl)|(apply cw<;>apply Eq.refl)|(apply pD<;>apply Eq.refl)|(apply iy<;>apply Eq.refl)|(apply iH<;>apply Eq.refl)|(apply cT;apply Eq.refl;apply Eq.refl;apply Eq.refl;apply Eq.refl;(first|omega|decide);apply Eq.refl;apply Eq.refl;(first|omega|decide);apply Eq.refl;apply Eq.refl))))
  |(apply rq;(first|(apply ab;apply Eq.refl)|(apply ae;apply Eq.refl;apply Eq.refl;apply Eq.refl));apply Eq.refl;apply Eq.refl;apply Eq.refl;exact(kk);(focus ((repeat' (first|exact iU.nil|refine iU.cons _ _ _ _ ?_ ?_|exact Fz.os _ _ _ _ _ _ rfl rfl|exact Fz.bx _ _ _ _ rfl rfl|refine Fz.fn _ _ _ ?_|exact Fz.same _|exact dp _ _));done));apply Eq.refl)
  |(apply fj;(first|(apply ab;apply Eq.refl)|(apply ae;apply Eq.refl;apply Eq.refl;apply Eq.refl));(first|(apply cJ<;>apply Eq.refl)|(apply dT<;>apply Eq.refl)))
  |(apply cM;apply Eq.refl;intro _;rotate_left 1;intro _;rotate_left 1))
   exact⟨k+1,⟨by omega,by omega,gX hk2 hklt hp⟩,by omega,(by apply bH;refine⟨?_, ?_, ?_, ?_, ?_⟩<;>repeat' (first|exact trivial|apply And.intro|apply Eq.refl|(apply gv;apply Eq.refl;first|omega|assumption)|(apply gL;apply Eq.refl;repeat' (first|apply Eq.refl|apply cd|(apply cf;first|apply Eq.refl|omega|assumption)))))⟩
  |some x=>
   have hres:ck c=some {x with i:=i,k:=k}:=by
    refine(dG hm2 hmlt (a:=_) ?_)
    refine(dG hi2 hilt (a:=_) ?_)
    exact dG hk2 hklt hp
   rw[hres]
   repeat' (first
  |(apply bU;apply Eq.refl;apply Eq.refl;(first|(apply aA<;>apply Eq.refl)|(apply aG<;>apply Eq.refl)|(apply aH<;>apply Eq.refl)|(apply aD<;>apply Eq.refl)|(apply aB<;>apply Eq.refl)|(apply aX<;>apply Eq.refl)|(apply bj<;>apply Eq.refl)|(apply ah<;>(first|apply Eq.refl|omega))|(apply ba<;>apply Eq.refl)|(apply cu<;>apply Eq.refl)|(apply cq<;>(first|apply Eq.refl|omega))|(apply aq<;>apply Eq.refl)|(apply aM<;>apply Eq.refl)|(apply bJ<;>apply Eq.refl)|(apply dL<;>apply Eq.refl)|(apply cO<;>apply Eq.refl)|(apply kV<;>apply Eq.refl)|(apply cw<;>apply Eq.refl)|(apply pD<;>apply Eq.refl)|(apply iy<;>apply Eq.refl)|(apply iH<;>apply Eq.refl)|(apply cT;apply Eq.refl;apply Eq.refl;apply Eq.refl;apply Eq.refl;(first|omega|decide);apply Eq.refl;apply Eq.refl;(first|omega|decide);apply Eq.refl;apply Eq.refl)))
  |apply aZ
  |apply ak
  |apply an
  |apply aE
  |apply bn
  |apply cg
  |apply aF
  |apply cN
  |apply aw
  |apply aS
  |apply bf
  |apply aY
  |apply aR
  |(apply bu;apply Eq.refl)
  |(apply bD;apply Eq.refl)
  |(apply ay;apply Eq.refl;apply Eq.refl;rotate_left 1;apply Eq.refl;rotate_right 1;exact(kk);apply Eq.refl)
  |(apply bZ;apply Eq.refl;(first|(apply aT<;>apply Eq.refl)|(apply aO<;>apply Eq.refl)|(apply bM<;>apply Eq.refl)))
  |apply ax
  |(apply bw;kernel_rfl)
  |(apply dx;(first|(apply ab;apply Eq.refl)|(apply ae;apply Eq.refl;apply Eq.refl;apply Eq.refl));apply Eq.refl;first|(apply bB<;>apply Eq.refl)|(apply aW<;>apply Eq.refl)|(apply b6;apply Eq.refl)|(apply b7;apply Eq.refl)|(apply aN;intro _;(first|(apply aA<;>apply Eq.refl)|(apply aG<;>apply Eq.refl)|(apply aH<;>apply Eq.refl)|(apply aD<;>apply Eq.refl)|(apply aB<;>apply Eq.refl)|(apply aX<;>apply Eq.refl)|(apply bj<;>apply Eq.refl)|(apply ah<;>(first|apply Eq.refl|omega))|(apply ba<;>apply Eq.refl)|(apply cu<;>apply Eq.refl)|(apply cq<;>(first|apply Eq.refl|omega))|(apply aq<;>apply Eq.refl)|(apply aM<;>apply Eq.refl)|(apply bJ<;>apply Eq.refl)|(apply dL<;>apply Eq.refl)|(apply cO<;>apply Eq.refl)|(apply kV<;>apply Eq.refl)|(apply cw<;>apply Eq.refl)|(apply pD<;>apply Eq.refl)|(apply iy<;>apply Eq.refl)|(apply iH<;>apply Eq.refl)|(apply cT;apply Eq.refl;apply Eq.refl;apply Eq.refl;apply Eq.refl;(first|omega|decide);apply Eq.refl;apply Eq.refl;(first|omega|decide);apply Eq.refl;apply Eq.refl))))
  |(apply rq;(first|(apply ab;apply Eq.refl)|(apply ae;apply Eq.refl;apply Eq.refl;apply Eq.refl));apply Eq.refl;apply Eq.refl;apply Eq.refl;exact(kk);(focus ((repeat' (first|exact iU.nil|refine iU.cons _ _ _ _ ?_ ?_|exact Fz.os _ _ _ _ _ _ rfl rfl|exact Fz.bx _ _ _ _ rfl rfl|refine Fz.fn _ _ _ ?_|exact Fz.same _|exact dp _ _));done));apply Eq.refl)
  |(apply fj;(first|(apply ab;apply Eq.refl)|(apply ae;apply Eq.refl;apply Eq.refl;apply Eq.refl));(first|(apply cJ<;>apply Eq.refl)|(apply dT<;>apply Eq.refl)))
  |(apply cM;apply Eq.refl;intro _;rotate_left 1;intro _;rotate_left 1))
   ((try apply aL);first|(focus (apply fu;apply Eq.refl;(first|(apply gr;apply Eq.refl)|(apply ed<;>apply Eq.refl));(first|(apply gr;apply Eq.refl)|(apply ed<;>apply Eq.refl));all_goals try apply Eq.refl)))
 ·have:=jg hk2 (by omega)
  exact⟨i+1,⟨by omega,gX hi2 hilt this⟩,by omega,(by apply bH;refine⟨?_, ?_, ?_, ?_, ?_⟩<;>repeat' (first|exact trivial|apply And.intro|apply Eq.refl|(apply gv;apply Eq.refl;first|omega|assumption)|(apply gL;apply Eq.refl;repeat' (first|apply Eq.refl|apply cd|(apply cf;first|apply Eq.refl|omega|assumption)))))⟩
theorem QG(c:Convoy):au cK 27 [.agg (aI c)] (.tup [.agg (cI (if al c=0 then A1 (ck c)else default)), .int .i64 (if al c=0 then(if(ck c).isSome then 0 else 7)else al c)]):=by
 refine aC (fn:=Tryd.f27) Tryd.func27 rfl (by kernel_rfl) rfl ?_ ?_ ?_
 ·exact af.cons (.agg _ (bm c)) af.nil
 ·exact .tup _ (af.cons (.agg _ (jQ _)) (af.cons (.int _ _) af.nil))
 intro w κ
 by_cases h0:al c=0
 ·have h1:=MB c
  have k1:=R2 c (fC h0)
  rw[if_pos h0,if_pos h0]
  rw[h0]at h1
  generalize ck c=R at*
  cases R with
  |none=>
   repeat' (first
  |(apply bU;apply Eq.refl;apply Eq.refl;(first|(apply aA<;>apply Eq.refl)|(apply aG<;>apply Eq.refl)|(apply aB<;>apply Eq.refl)|(apply aX<;>apply Eq.refl)|(apply bj<;>apply Eq.refl)|(apply cP<;>apply Eq.refl)|(apply ah<;>(first|apply Eq.refl|omega))|(apply cu<;>apply Eq.refl)|(apply aq<;>apply Eq.refl)|(apply bJ<;>apply Eq.refl)|(apply cw<;>apply Eq.refl)))
  |apply aZ
  |apply ak
  |apply an
  |apply aE
  |apply cg
  |apply aS
  |apply aY
  |(apply bu;apply Eq.refl)
  |(apply bD;apply Eq.refl)
  |(apply ay;apply Eq.refl;apply Eq.refl;rotate_left 1;apply Eq.refl;rotate_right 1;exact(h1);apply Eq.refl)
  |(apply ay;apply Eq.refl;apply Eq.refl;rotate_left 1;apply Eq.refl;rotate_right 1;exact(k1);apply Eq.refl)
  |(apply bZ;apply Eq.refl;(first|(apply aT<;>apply Eq.refl)|(apply aO<;>apply Eq.refl)|(apply bM<;>apply Eq.refl)|(apply lU<;>(first|apply Eq.refl|omega))))
  |(apply fq;apply Eq.refl;intro _;rotate_left 1;intro _;rotate_left 1))
   ((try apply aL);first|(focus (apply fu;apply Eq.refl;(first|(apply eI;apply Eq.refl)|(apply ed<;>apply Eq.refl));(first|(apply eI;apply Eq.refl)|(apply ed<;>apply Eq.refl));all_goals try apply Eq.refl)))
  |some x=>
   repeat' (first
  |(apply bU;apply Eq.refl;apply Eq.refl;(first|(apply aA<;>apply Eq.refl)|(apply aG<;>apply Eq.refl)|(apply aB<;>apply Eq.refl)|(apply aX<;>apply Eq.refl)|(apply bj<;>apply Eq.refl)|(apply cP<;>apply Eq.refl)|(apply ah<;>(first|apply Eq.refl|omega))|(apply cu<;>apply Eq.refl)|(apply aq<;>apply Eq.refl)|(apply bJ<;>apply Eq.refl)|(apply cw<;>apply Eq.refl)))
  |apply aZ
  |apply ak
  |apply an
  |apply aE
  |apply cg
  |apply aS
  |apply aY
  |(apply bu;apply Eq.refl)
  |(apply bD;apply Eq.refl)
  |(apply ay;apply Eq.refl;apply Eq.refl;rotate_left 1;apply Eq.refl;rotate_right 1;exact(h1);apply Eq.refl)
  |(apply ay;apply Eq.refl;apply Eq.refl;rotate_left 1;apply Eq.refl;rotate_right 1;exact(k1);apply Eq.refl)
  |(apply bZ;apply Eq.refl;(first|(apply aT<;>apply Eq.refl)|(apply aO<;>apply Eq.refl)|(apply bM<;>apply Eq.refl)|(apply lU<;>(first|apply Eq.refl|omega))))
  |(apply fq;apply Eq.refl;intro _;rotate_left 1;intro _;rotate_left 1))
   ((try apply aL);first|(focus (apply fu;apply Eq.refl;(first|(apply eI;apply Eq.refl)|(apply ed<;>apply Eq.refl));(first|(apply eI;apply Eq.refl)|(apply ed<;>apply Eq.refl));all_goals try apply Eq.refl)))
 ·rw[if_neg h0,if_neg h0]
  repeat' (first
  |(apply bU;apply Eq.refl;apply Eq.refl;(first|(apply aA<;>apply Eq.refl)|(apply aG<;>apply Eq.refl)|(apply aB<;>apply Eq.refl)|(apply aX<;>apply Eq.refl)|(apply bj<;>apply Eq.refl)|(apply cP<;>apply Eq.refl)|(apply ah<;>(first|apply Eq.refl|omega))|(apply cu<;>apply Eq.refl)|(apply aq<;>apply Eq.refl)|(apply bJ<;>apply Eq.refl)|(apply cw<;>apply Eq.refl)))
  |apply aZ
  |apply ak
  |apply an
  |apply aE
  |apply cg
  |apply aS
  |apply aY
  |(apply bu;apply Eq.refl)
  |(apply bD;apply Eq.refl)
  |(apply ay;apply Eq.refl;apply Eq.refl;rotate_left 1;apply Eq.refl;rotate_right 1;exact(MB c);apply Eq.refl)
  |(apply bZ;apply Eq.refl;(first|(apply aT<;>apply Eq.refl)|(apply aO<;>apply Eq.refl)|(apply bM<;>apply Eq.refl)|(apply lU<;>(first|apply Eq.refl|omega))))
  |(apply fq;apply Eq.refl;intro _;rotate_left 1;intro _;rotate_left 1))
  ·((try apply aL);first|(focus (apply fu;apply Eq.refl;(first|(apply eI;apply Eq.refl)|(apply ed<;>apply Eq.refl));(first|(apply eI;apply Eq.refl)|(apply ed<;>apply Eq.refl));all_goals try apply Eq.refl)))
  ·contradiction
end Go.Proofs.YtafnhieaeejlcaaDoor
namespace Go.Proofs.YtafnhieaeejlcaaDoor
open Go Go.Ab
set_option maxRecDepth 100000
set_option maxHeartbeats 4000000
attribute [local irreducible] W WL eh kL fe ee gN WG FQ Want jE WI pE fR eA
theorem Ro(a b:Int):au cK 41 [.int .i64 a, .int .i64 b] (.agg (bA ⟨a,b⟩)):=by
 refine aC (fn:=Tryd.f41) Tryd.func41 rfl (by kernel_rfl) rfl ?_ ?_ ?_
 ·exact af.cons (.int _ _) (af.cons (.int _ _) af.nil)
 ·exact .agg _ (cL _)
 intro w κ
 repeat' (first
  |(apply bU;apply Eq.refl;apply Eq.refl;(first|(apply aA<;>apply Eq.refl)|(apply bJ<;>apply Eq.refl)))
  |apply aZ
  |apply ak
  |apply an
  |apply aE
  |apply aY
  |(apply bZ;apply Eq.refl;(first|(apply aO<;>apply Eq.refl)|(apply bM<;>apply Eq.refl))))
 ((try apply aL);first|(apply js;apply Eq.refl;apply Eq.refl;apply Eq.refl;apply Eq.refl;apply Eq.refl;apply Eq.refl;apply Eq.refl;apply Eq.refl;try apply Eq.refl))
def RD:Nat→List D:=uF [[.int .i64 1, .int .i64 0, .int .i64 50, .int .i64 100, .nil],[.int .i64 2, .int .i64 0, .int .i64 50, .int .i64 100, .nil]]
theorem Ry:fH cK 106 [] (.agg [.int .i64 1000, .int .i64 200, .int .i64 0, .os 0 1]) 50 5 2 RD:=by
 refine na (fn:=Tryd.f106) Tryd.func106 rfl (by kernel_rfl) rfl af.nil ?_ ?_ ?_
 ·exact .agg _ (.cons _ _ (.pure _ (.int _ _)) (.cons _ _ (.pure _ (.int _ _)) (.cons _ _ (.pure _ (.int _ _)) (.cons _ _ (.os _ _) .nil))))
 ·intro i hi
  obtain rfl|rfl:i=0∨i=1:=by omega
  all_goals exact af.cons (.int _ _) (af.cons (.int _ _) (af.cons (.int _ _) (af.cons (.int _ _) (af.cons .nil af.nil))))
 intro w κ
 repeat' (first
  |(apply bU;apply Eq.refl;apply Eq.refl;(first|(apply bJ<;>apply Eq.refl)))
  |apply aZ
  |apply ak
  |apply an
  |apply aE
  |apply aY
  |(apply ay;apply Eq.refl;apply Eq.refl;rotate_left 1;apply Eq.refl;rotate_right 1;exact(Ro 50 100);apply Eq.refl)
  |(apply bZ;apply Eq.refl;(first|(refine JF rfl rfl rfl rfl rfl rfl rfl rfl rfl rfl rfl rfl rfl rfl rfl)|(apply aO<;>apply Eq.refl)|(apply bM<;>apply Eq.refl))))
 refine⟨5,1,rfl,rfl,[.agg [.int .i64 1000, .int .i64 200, .int .i64 0, .os 5 1]], ?_,rfl⟩
 show mL _ _ [ResultVar.cell 0 24] [_]
 exact⟨ed rfl rfl rfl rfl rfl rfl rfl,trivial⟩
def rN:Convoy:=⟨1000,200,0,[⟨1,0,50,100,[⟨300,20⟩]⟩,⟨2,0,50,100,[]⟩]⟩
def CS:Convoy:=⟨1000,200,1,[⟨1,0,50,100,[⟨300,20⟩]⟩,⟨2,0,50,100,[]⟩]⟩
theorem QS:au cK 63 [] (.agg (aI rN)):=by
 refine aC (fn:=Tryd.f63) Tryd.func63 rfl (by kernel_rfl) rfl af.nil (.agg _ (bm _)) ?_
 intro w κ
 repeat' (first
  |(apply I6 50;apply Eq.refl;apply Eq.refl;exact Ry;apply Eq.refl;apply Eq.refl;apply Eq.refl)
  |(apply bU;apply Eq.refl;apply Eq.refl;(first|(apply aH<;>apply Eq.refl)|(apply aD<;>apply Eq.refl)|(apply aq<;>apply Eq.refl)|(apply bJ<;>apply Eq.refl)|(apply zK<;>apply Eq.refl)|(apply kP<;>(first|apply Eq.refl|omega))))
  |apply aZ
  |apply ak
  |apply an
  |apply aE
  |apply aY
  |(apply bZ;apply Eq.refl;(first|(refine Ra (pY rfl rfl rfl rfl rfl rfl rfl rfl rfl rfl rfl rfl rfl rfl rfl) (MU 6 (fun i=>fB ([(⟨300,20⟩:Hold)].getD i default)) rfl (fun i hi=>by(obtain rfl:i=0:=by omega);rfl)))|(apply aO<;>apply Eq.refl)|(apply bM<;>apply Eq.refl)|(apply pY<;>apply Eq.refl)|(apply lU<;>(first|apply Eq.refl|omega)))))
 refine ns (zU 50 (fun i=>bp (rN.trucks.getD i default)) rfl (fun i hi=> ?_)) (ns (kl 0 3 (s:=50) rfl rfl rfl rfl rfl) (aL ?_))
 ·obtain rfl|rfl:i=0∨i=1:=by omega
  ·exact⟨.inl rfl, .inl rfl, .inl rfl, .inl rfl, .inl rfl,trivial⟩
  ·exact⟨.inl rfl, .inl rfl, .inl rfl, .inl rfl, .inr ⟨rfl,_,_,rfl⟩,trivial⟩
 ·((try apply aL);first|(apply js;apply Eq.refl;apply Eq.refl;apply Eq.refl;apply Eq.refl;apply Eq.refl;apply Eq.refl;apply Eq.refl;apply Eq.refl;try apply Eq.refl))
theorem Sq:au cK 62 [] (.agg (aI CS)):=by
 refine aC (fn:=Tryd.f62) Tryd.func62 rfl (by kernel_rfl) rfl af.nil (.agg _ (bm _)) ?_
 intro w κ
 repeat' (first
  |(apply bU;apply Eq.refl;apply Eq.refl;(first|(apply aD<;>apply Eq.refl)|(apply aq<;>apply Eq.refl)))
  |apply aZ
  |apply ak
  |apply an
  |apply aE
  |apply aY
  |(apply ay;apply Eq.refl;apply Eq.refl;rotate_left 1;apply Eq.refl;rotate_right 1;exact(QS);apply Eq.refl)
  |(apply bZ;apply Eq.refl;(first|(apply aO<;>apply Eq.refl)|(apply bM<;>apply Eq.refl))))
 ((try apply aL);first|(apply js;apply Eq.refl;apply Eq.refl;apply Eq.refl;apply Eq.refl;apply Eq.refl;apply Eq.refl;apply Eq.refl;apply Eq.refl;try apply Eq.refl))
theorem CL:al rN=0:=by kernel_rfl
theorem Ih:al CS=0:=by kernel_rfl
theorem GZ:ck rN=none:=by kernel_rfl
theorem Hl:ck CS=some ⟨5,0,1,true,false,301,500⟩:=by kernel_rfl
theorem Ix:qC rN=⟨27,34⟩:=by kernel_rfl
theorem P5:au cK 27 [.agg (aI CS)] (.tup [.agg (cI ⟨5,0,1,true,false,301,500⟩), .int .i64 0]):=by
 have h:=QG CS
 rw[Hl,Ih]at h
 exact h
theorem Qn:au cK 27 [.agg (aI rN)] (.tup [.agg (cI default), .int .i64 7]):=by
 have h:=QG rN
 rw[GZ,CL]at h
 exact h
theorem O0:au cK 36 [.agg (aI rN)] (.tup [.agg (bA ⟨27,34⟩), .int .i64 0]):=by
 have h:=Sm rN
 rw[Ix,CL]at h
 exact h
theorem OL:au cK 19 [] (.bool true):=by
 refine aC (fn:=Tryd.f19) Tryd.func19 rfl (by kernel_rfl) rfl af.nil (.bool _) ?_
 intro w κ
 repeat' (first
  |(apply bU;apply Eq.refl;apply Eq.refl;(first|(apply aA<;>apply Eq.refl)|(apply aG<;>apply Eq.refl)|(apply aB<;>apply Eq.refl)|(apply aX<;>apply Eq.refl)|(apply bj<;>apply Eq.refl)|(apply cu<;>apply Eq.refl)|(apply bR<;>apply Eq.refl)|(apply aq<;>apply Eq.refl)|(apply cw<;>apply Eq.refl)|(apply Kb;apply Eq.refl;apply Eq.refl;apply Eq.refl;apply Eq.refl;kernel_rfl)))
  |apply aZ
  |apply ak
  |apply an
  |apply aE
  |apply aY
  |(apply ay;apply Eq.refl;apply Eq.refl;rotate_left 1;apply Eq.refl;rotate_right 1;exact(Sq);apply Eq.refl)
  |(apply ay;apply Eq.refl;apply Eq.refl;rotate_left 1;apply Eq.refl;rotate_right 1;exact(P5);apply Eq.refl)
  |(apply ay;apply Eq.refl;apply Eq.refl;rotate_left 1;apply Eq.refl;rotate_right 1;exact(QS);apply Eq.refl)
  |(apply ay;apply Eq.refl;apply Eq.refl;rotate_left 1;apply Eq.refl;rotate_right 1;exact(Qn);apply Eq.refl)
  |(apply ay;apply Eq.refl;apply Eq.refl;rotate_left 1;apply Eq.refl;rotate_right 1;exact(O0);apply Eq.refl)
  |(apply ay;apply Eq.refl;apply Eq.refl;rotate_left 1;apply Eq.refl;rotate_right 1;exact(Ro 27 34);apply Eq.refl)
  |(apply bZ;apply Eq.refl;(first|(apply aO<;>apply Eq.refl)|(apply bM<;>apply Eq.refl)))
  |apply ax
  |(apply bw;kernel_rfl)
  |(apply dx;(first|(apply ab;apply Eq.refl)|(apply ae;apply Eq.refl;apply Eq.refl;apply Eq.refl));apply Eq.refl;first|(apply bB<;>apply Eq.refl)|(apply aW<;>apply Eq.refl)|(apply b6;apply Eq.refl)|(apply b7;apply Eq.refl)|(apply aN;intro _;(first|(apply aA<;>apply Eq.refl)|(apply aG<;>apply Eq.refl)|(apply aB<;>apply Eq.refl)|(apply aX<;>apply Eq.refl)|(apply bj<;>apply Eq.refl)|(apply cu<;>apply Eq.refl)|(apply bR<;>apply Eq.refl)|(apply aq<;>apply Eq.refl)|(apply cw<;>apply Eq.refl)|(apply Kb;apply Eq.refl;apply Eq.refl;apply Eq.refl;apply Eq.refl;kernel_rfl))))
  |(apply az;(first|(apply ab;apply Eq.refl)|(apply ae;apply Eq.refl;apply Eq.refl;apply Eq.refl));apply Eq.refl;apply Eq.refl;apply Eq.refl;exact(Sq))
  |(apply az;(first|(apply ab;apply Eq.refl)|(apply ae;apply Eq.refl;apply Eq.refl;apply Eq.refl));apply Eq.refl;apply Eq.refl;apply Eq.refl;exact(P5))
  |(apply az;(first|(apply ab;apply Eq.refl)|(apply ae;apply Eq.refl;apply Eq.refl;apply Eq.refl));apply Eq.refl;apply Eq.refl;apply Eq.refl;exact(QS))
  |(apply az;(first|(apply ab;apply Eq.refl)|(apply ae;apply Eq.refl;apply Eq.refl;apply Eq.refl));apply Eq.refl;apply Eq.refl;apply Eq.refl;exact(Qn))
  |(apply az;(first|(apply ab;apply Eq.refl)|(apply ae;apply Eq.refl;apply Eq.refl;apply Eq.refl));apply Eq.refl;apply Eq.refl;apply Eq.refl;exact(O0))
  |(apply az;(first|(apply ab;apply Eq.refl)|(apply ae;apply Eq.refl;apply Eq.refl;apply Eq.refl));apply Eq.refl;apply Eq.refl;apply Eq.refl;exact(Ro 27 34)))
 ((try apply aL);first|(apply iG;apply Eq.refl;apply Eq.refl;try apply Eq.refl))
end Go.Proofs.YtafnhieaeejlcaaDoor
namespace Go.Proofs.YtafnhieaeejlcaaDoor
open Go Go.Ab
set_option maxRecDepth 100000
set_option maxHeartbeats 4000000
attribute [local irreducible] W WL eh kL fe ee gN WG FQ Want jE WI pE fR eA
theorem Em{c:Convoy}(h:lB c=false):c.trucks.length≤25∧∀k,k<c.trucks.length→(c.trucks.getD k default).holds.length≤12:=by
 unfold lB at h
 simp only[Bool.or_eq_false_iff]at h
 obtain⟨⟨⟨h1,h2⟩,h3⟩,_⟩:=h
 refine⟨by simp at h2;omega,fun k hk=> ?_⟩
 rw[List.any_eq_false]at h3
 have:=h3 (c.trucks.getD k default) (by simp[List.getD,hk])
 simp at this⊢;omega
attribute [local irreducible] lB al
theorem c3(c:Convoy):au cK 3 [.agg (aI c)] (.bool true):=by
 refine aC (fn:=Tryd.f3) Tryd.func3 rfl (by kernel_rfl) rfl ?_ ?_ ?_
 ·exact af.cons (.agg _ (bm c)) af.nil
 ·exact .bool _
 intro w κ
 have hb:=RU c
 cases hB:lB c with
 |true=>
  rw[hB]at hb
  repeat' (first
  |(apply bU;apply Eq.refl;apply Eq.refl;(first|(apply aB<;>apply Eq.refl)|(apply aX<;>apply Eq.refl)|(apply bj<;>apply Eq.refl)|(apply bR<;>apply Eq.refl)|(apply aq<;>apply Eq.refl)))
  |apply aZ
  |apply ak
  |apply an
  |apply aE
  |apply cg
  |apply aS
  |apply aY
  |(apply bu;apply Eq.refl)
  |(apply bD;apply Eq.refl)
  |(apply ay;apply Eq.refl;apply Eq.refl;rotate_left 1;apply Eq.refl;rotate_right 1;exact(hb);apply Eq.refl)
  |(apply ay;apply Eq.refl;apply Eq.refl;rotate_left 1;apply Eq.refl;rotate_right 1;exact(OL);apply Eq.refl)
  |(apply bZ;apply Eq.refl;(first|(apply aT<;>apply Eq.refl)|(apply aO<;>apply Eq.refl)|(apply bM<;>apply Eq.refl)))
  |apply ax
  |(apply bw;kernel_rfl)
  |(apply dx;(first|(apply ab;apply Eq.refl)|(apply ae;apply Eq.refl;apply Eq.refl;apply Eq.refl));apply Eq.refl;first|(apply bB<;>apply Eq.refl)|(apply aW<;>apply Eq.refl)|(apply b6;apply Eq.refl)|(apply b7;apply Eq.refl)|(apply aN;intro _;(first|(apply aB<;>apply Eq.refl)|(apply aX<;>apply Eq.refl)|(apply bj<;>apply Eq.refl)|(apply bR<;>apply Eq.refl)|(apply aq<;>apply Eq.refl))))
  |(apply az;(first|(apply ab;apply Eq.refl)|(apply ae;apply Eq.refl;apply Eq.refl;apply Eq.refl));apply Eq.refl;apply Eq.refl;apply Eq.refl;exact(hb))
  |(apply az;(first|(apply ab;apply Eq.refl)|(apply ae;apply Eq.refl;apply Eq.refl;apply Eq.refl));apply Eq.refl;apply Eq.refl;apply Eq.refl;exact(OL))
  |(apply Pu;apply Eq.refl;apply Eq.refl;apply Eq.refl))
  ((try apply aL);first|(apply iG;apply Eq.refl;apply Eq.refl;try apply Eq.refl))
 |false=>
  rw[hB]at hb
  obtain⟨h1,h2⟩:=Em hB
  have hs:=RV c c (by omega) (fun k hk=>by have:=h2 k hk;omega)
  rw[decide_eq_true (rfl:c=c)]at hs
  repeat' (first
  |(apply bU;apply Eq.refl;apply Eq.refl;(first|(apply aB<;>apply Eq.refl)|(apply aX<;>apply Eq.refl)|(apply bj<;>apply Eq.refl)|(apply bR<;>apply Eq.refl)|(apply aq<;>apply Eq.refl)))
  |apply aZ
  |apply ak
  |apply an
  |apply aE
  |apply cg
  |apply aS
  |apply aY
  |(apply bu;apply Eq.refl)
  |(apply bD;apply Eq.refl)
  |(apply ay;apply Eq.refl;apply Eq.refl;rotate_left 1;apply Eq.refl;rotate_right 1;exact(hb);apply Eq.refl)
  |(apply ay;apply Eq.refl;apply Eq.refl;rotate_left 1;apply Eq.refl;rotate_right 1;exact(QA c h1 h2);apply Eq.refl)
  |(apply ay;apply Eq.refl;apply Eq.refl;rotate_left 1;apply Eq.refl;rotate_right 1;exact(MB c);apply Eq.refl)
  |(apply ay;apply Eq.refl;apply Eq.refl;rotate_left 1;apply Eq.refl;rotate_right 1;exact(Mu c);apply Eq.refl)
  |(apply ay;apply Eq.refl;apply Eq.refl;rotate_left 1;apply Eq.refl;rotate_right 1;exact(hs);apply Eq.refl)
  |(apply ay;apply Eq.refl;apply Eq.refl;rotate_left 1;apply Eq.refl;rotate_right 1;exact(OL);apply Eq.refl)
  |(apply bZ;apply Eq.refl;(first|(apply aT<;>apply Eq.refl)|(apply aO<;>apply Eq.refl)|(apply bM<;>apply Eq.refl)))
  |apply ax
  |(apply bw;kernel_rfl)
  |(apply dx;(first|(apply ab;apply Eq.refl)|(apply ae;apply Eq.refl;apply Eq.refl;apply Eq.refl));apply Eq.refl;first|(apply bB<;>apply Eq.refl)|(apply aW<;>apply Eq.refl)|(apply b6;apply Eq.refl)|(apply b7;apply Eq.refl)|(apply aN;intro _;(first|(apply aB<;>apply Eq.refl)|(apply aX<;>apply Eq.refl)|(apply bj<;>apply Eq.refl)|(apply bR<;>apply Eq.refl)|(apply aq<;>apply Eq.refl))))
  |(apply az;(first|(apply ab;apply Eq.refl)|(apply ae;apply Eq.refl;apply Eq.refl;apply Eq.refl));apply Eq.refl;apply Eq.refl;apply Eq.refl;exact(hb))
  |(apply az;(first|(apply ab;apply Eq.refl)|(apply ae;apply Eq.refl;apply Eq.refl;apply Eq.refl));apply Eq.refl;apply Eq.refl;apply Eq.refl;exact(QA c h1 h2))
  |(apply az;(first|(apply ab;apply Eq.refl)|(apply ae;apply Eq.refl;apply Eq.refl;apply Eq.refl));apply Eq.refl;apply Eq.refl;apply Eq.refl;exact(MB c))
  |(apply az;(first|(apply ab;apply Eq.refl)|(apply ae;apply Eq.refl;apply Eq.refl;apply Eq.refl));apply Eq.refl;apply Eq.refl;apply Eq.refl;exact(Mu c))
  |(apply az;(first|(apply ab;apply Eq.refl)|(apply ae;apply Eq.refl;apply Eq.refl;apply Eq.refl));apply Eq.refl;apply Eq.refl;apply Eq.refl;exact(hs))
  |(apply az;(first|(apply ab;apply Eq.refl)|(apply ae;apply Eq.refl;apply Eq.refl;apply Eq.refl));apply Eq.refl;apply Eq.refl;apply Eq.refl;exact(OL))
  |(apply Pu;apply Eq.refl;apply Eq.refl;apply Eq.refl))
  ((try apply aL);first|(apply iG;apply Eq.refl;apply Eq.refl;try apply Eq.refl))
end Go.Proofs.YtafnhieaeejlcaaDoor
namespace Go.Proofs.YtafnhieaeejlcaaDoor
open Go Go.Ab
set_option maxRecDepth 100000
set_option maxHeartbeats 4000000
attribute [local irreducible] W WL eh kL fe ee gN WG FQ Want jE WI pE fR eA
attribute [local irreducible] jO dA
theorem Ts(c:Convoy)(hc:OT c):au cK 71 [.agg (aI c)] (.int .i64 (dA (fx c) c.trucks.length)):=by
 refine aC (fn:=Tryd.f71) Tryd.func71 rfl (by kernel_rfl) rfl ?_ ?_ ?_
 ·exact af.cons (.agg _ (bm c)) af.nil
 ·exact .int _ _
 intro w κ
 have hn:=hc.n
 have hmax0:=mN (fx c)
 repeat' (first
  |(apply bU;apply Eq.refl;apply Eq.refl;(first|(apply aA<;>apply Eq.refl)|(apply aG<;>apply Eq.refl)|(apply aH<;>apply Eq.refl)|(apply aD<;>apply Eq.refl)|(apply aB<;>apply Eq.refl)|(apply ah<;>(first|apply Eq.refl|omega))|(apply ba<;>apply Eq.refl)|(apply cq<;>(first|apply Eq.refl|omega))|(apply aq<;>apply Eq.refl)|(apply aM<;>apply Eq.refl)|(apply dL<;>apply Eq.refl)|(apply sb<;>apply Eq.refl)))
  |apply aZ
  |apply ak
  |apply an
  |apply aE
  |apply bn
  |apply aF
  |apply aw
  |apply aS
  |apply bf
  |apply aY
  |apply aR
  |(apply bZ;apply Eq.refl;(first|(apply aT<;>apply Eq.refl)))
  |apply ax
  |(apply bw;kernel_rfl)
  |(apply dx;(first|(apply ab;apply Eq.refl)|(apply ae;apply Eq.refl;apply Eq.refl;apply Eq.refl));apply Eq.refl;first|(apply bB<;>apply Eq.refl)|(apply aW<;>apply Eq.refl)|(apply b6;apply Eq.refl)|(apply b7;apply Eq.refl)|(apply aN;intro _;(first|(apply aA<;>apply Eq.refl)|(apply aG<;>apply Eq.refl)|(apply aH<;>apply Eq.refl)|(apply aD<;>apply Eq.refl)|(apply aB<;>apply Eq.refl)|(apply ah<;>(first|apply Eq.refl|omega))|(apply ba<;>apply Eq.refl)|(apply cq<;>(first|apply Eq.refl|omega))|(apply aq<;>apply Eq.refl)|(apply aM<;>apply Eq.refl)|(apply dL<;>apply Eq.refl)|(apply sb<;>apply Eq.refl))))
  |(apply cM;apply Eq.refl;intro _;rotate_left 1;intro _;rotate_left 1))
 refine dI [1,2] [1] (fun k:Nat=>[(3, .int .i64 (dA (fx c) k)),(4, .int .i64 k)]) (fun k=>[]) (fun k=>[])
  (fun k=>k≤c.trucks.length) (fun k=>c.trucks.length-k) 0 (Nat.zero_le _) (by refine⟨?_, ?_, ?_⟩<;>repeat' (first|exact trivial|apply And.intro|apply Eq.refl|(apply gv;apply Eq.refl;first|omega|assumption)|(apply gL;apply Eq.refl;repeat' (first|apply Eq.refl|apply cd|(apply cf;first|apply Eq.refl|omega|assumption))))) (fun k h hk=> ?_)
 have ht:(k:Int)<c.trucks.length→xS c (c.trucks.getD (k:Int).toNat default):=fun h=>hc.t _ (by omega)
 have hmk:=vk c k
 repeat' (first
  |(apply bU;apply Eq.refl;apply Eq.refl;(first|(apply aA<;>apply Eq.refl)|(apply aG<;>apply Eq.refl)|(apply aH<;>apply Eq.refl)|(apply aD<;>apply Eq.refl)|(apply aB<;>apply Eq.refl)|(apply ah<;>(first|apply Eq.refl|omega))|(apply ba<;>apply Eq.refl)|(apply cq<;>(first|apply Eq.refl|omega))|(apply aq<;>apply Eq.refl)|(apply aM<;>apply Eq.refl)|(apply dL<;>apply Eq.refl)|(apply sb<;>apply Eq.refl)))
  |apply aZ
  |apply ak
  |apply an
  |apply aE
  |apply bn
  |apply aF
  |apply aw
  |apply aS
  |apply bf
  |apply aY
  |apply aR
  |(apply bZ;apply Eq.refl;(first|(apply aT<;>apply Eq.refl)))
  |apply ax
  |(apply bw;kernel_rfl)
  |(apply dx;(first|(apply ab;apply Eq.refl)|(apply ae;apply Eq.refl;apply Eq.refl;apply Eq.refl));apply Eq.refl;first|(apply bB<;>apply Eq.refl)|(apply aW<;>apply Eq.refl)|(apply b6;apply Eq.refl)|(apply b7;apply Eq.refl)|(apply aN;intro _;(first|(apply aA<;>apply Eq.refl)|(apply aG<;>apply Eq.refl)|(apply aH<;>apply Eq.refl)|(apply aD<;>apply Eq.refl)|(apply aB<;>apply Eq.refl)|(apply ah<;>(first|apply Eq.refl|omega))|(apply ba<;>apply Eq.refl)|(apply cq<;>(first|apply Eq.refl|omega))|(apply aq<;>apply Eq.refl)|(apply aM<;>apply Eq.refl)|(apply dL<;>apply Eq.refl)|(apply sb<;>apply Eq.refl))))
  |(apply az;(first|(apply ab;apply Eq.refl)|(apply ae;apply Eq.refl;apply Eq.refl;apply Eq.refl));apply Eq.refl;apply Eq.refl;apply Eq.refl;exact(J2 c (c.trucks.getD (k:Int).toNat default) (ht (by assumption))))
  |(apply cM;apply Eq.refl;intro _;rotate_left 1;intro _;rotate_left 1))
 ·exact⟨k+1,by omega,by omega,(by apply bH;refine⟨?_, ?_, ?_, ?_, ?_⟩<;>repeat' (first|exact trivial|apply And.intro|apply Eq.refl|(apply gv;apply Eq.refl;first|omega|assumption)|(apply gL;apply Eq.refl;repeat' (first|apply Eq.refl|apply cd|(apply cf;first|apply Eq.refl|omega|assumption)))))⟩
 ·obtain rfl:k=c.trucks.length:=by omega
  ((try apply aL);first|(apply eY;apply Eq.refl;apply Eq.refl;try apply Eq.refl))
def ic(t:Truck)(len pace:Int)(k:Nat):Int:=dz t len pace ((k:Int)-1-t.start).toNat
def cY(t:Truck)(len:Int)(k:Nat):Span:=⟨ic t len t.lo (k+1),ic t len t.hi (k+1)⟩
theorem pg{t:Truck}{len pace:Int}(h:0≤t.start):ic t len pace 0=0:=by
 unfold ic
 rw[show(((0:Nat):Int)-1-t.start).toNat=0 by omega];rfl
theorem mv{t:Truck}{len pace:Int}{k:Nat}(h:t.start<k):ic t len pace (k+1)=ix t len (ic t len pace k) ((k:Int)-1) pace:=by
 unfold ic
 obtain⟨j,hj⟩:∃j:Nat,(k:Int)-t.start=j+1:=⟨((k:Int)-t.start-1).toNat,by omega⟩
 rw[show(((k+1:Nat):Int)-1-t.start).toNat=j+1 by omega,show((k:Int)-1-t.start).toNat=j by omega,show(k:Int)-1=t.start+j by omega]
 rfl
theorem lM{t:Truck}{len pace:Int}{k:Nat}(h:¬t.start<k):ic t len pace (k+1)=ic t len pace k:=by
 unfold ic
 rw[show(((k+1:Nat):Int)-1-t.start).toNat=0 by omega,show((k:Int)-1-t.start).toNat=0 by omega]
theorem G8{t:Truck}{len:Int}{k:Nat}(h:t.start<k):bA (cY t len k)=[.int .i64 (ix t len (ic t len t.lo k) ((k:Int)-1) t.lo), .int .i64 (ix t len (ic t len t.hi k) ((k:Int)-1) t.hi)]:=by
 simp only[cY,bA,mv h]
theorem Ha{t:Truck}{len:Int}{k:Nat}(h:¬t.start<k):bA (cY t len k)=[.int .i64 (ic t len t.lo k), .int .i64 (ic t len t.hi k)]:=by
 simp only[cY,bA,lM h]
attribute [local irreducible] ic ix dz eB
theorem R3(c:Convoy)(t:Truck)(e:Nat)(h:xS c t)(e1:e≤100000):au cK 72 [.agg (aI c), .agg (bp t), .int .i64 e] (.sl 2 (e+1) (fun i=>bA (cY t c.len i))):=by
 obtain⟨l1,l2,s1,s2,p1,p2,p3,d1,ho⟩:=h
 refine aC (fn:=Tryd.f72) Tryd.func72 rfl (by kernel_rfl) rfl ?_ ?_ ?_
 ·exact af.cons (.agg _ (bm c)) (af.cons (.agg _ (dP t)) (af.cons (.int _ _) af.nil))
 ·exact .sl _ _ _ (fun _ _ d hd=>cL _ d hd)
 intro w κ
 have bnd:=fun k=>dK (t:=t) (pace:=t.lo) l1 ho p1 k
 have bnd2:=fun k=>dK (t:=t) (pace:=t.hi) l1 ho (by omega) k
 have z1:=pg (t:=t) (len:=c.len) (pace:=t.lo) s1
 have z2:=pg (t:=t) (len:=c.len) (pace:=t.hi) s1
 repeat' (first
  |(apply bU;apply Eq.refl;apply Eq.refl;(first|(apply aA<;>apply Eq.refl)|(apply aG<;>apply Eq.refl)|(apply aH<;>apply Eq.refl)|(apply aD<;>apply Eq.refl)|(apply aB<;>apply Eq.refl)|(apply ah<;>(first|apply Eq.refl|omega))|(apply aq<;>apply Eq.refl)|(apply dt<;>apply Eq.refl)|(apply dn<;>apply Eq.refl)|(apply dr<;>apply Eq.refl)))
  |apply aZ
  |apply ak
  |apply an
  |apply aE
  |apply bn
  |apply aF
  |apply aw
  |apply aS
  |apply bf
  |apply aY
  |apply aR
  |(apply bZ;apply Eq.refl;(first|(apply aT<;>apply Eq.refl)|(apply aO<;>apply Eq.refl)|(apply pY<;>apply Eq.refl)))
  |apply ax
  |(apply bw;kernel_rfl)
  |(apply dx;(first|(apply ab;apply Eq.refl)|(apply ae;apply Eq.refl;apply Eq.refl;apply Eq.refl));apply Eq.refl;first|(apply bB<;>apply Eq.refl)|(apply aW<;>apply Eq.refl)|(apply b6;apply Eq.refl)|(apply b7;apply Eq.refl)|(apply aN;intro _;(first|(apply aA<;>apply Eq.refl)|(apply aG<;>apply Eq.refl)|(apply aH<;>apply Eq.refl)|(apply aD<;>apply Eq.refl)|(apply aB<;>apply Eq.refl)|(apply ah<;>(first|apply Eq.refl|omega))|(apply aq<;>apply Eq.refl)|(apply dt<;>apply Eq.refl)|(apply dn<;>apply Eq.refl)|(apply dr<;>apply Eq.refl))))
  |(apply fj;(first|(apply ab;apply Eq.refl)|(apply ae;apply Eq.refl;apply Eq.refl;apply Eq.refl));(first|(apply dT<;>apply Eq.refl)))
  |(apply cM;apply Eq.refl;intro _;rotate_left 1;intro _;rotate_left 1))
 refine qI (qg 7 7 47 2 (fun i=>bA (cY t c.len i)) rfl) ?_
 refine dI [2,3,4,6,8] [3,4,6] (fun k:Nat=>[(7, .os 7 (k+1)),(9, .int .i64 k)]) (fun k=>[(7,k+1),(8,1)])
  (fun k=>[(7, .arr 47 2 k (fun i=>bA (cY t c.len i))),(8, .box [.int .i64 (ic t c.len t.lo k), .int .i64 (ic t c.len t.hi k)])])
  (fun k=>k≤e+1) (fun k=>e+1-k) 0 (Nat.zero_le _) (by refine⟨?_, ?_, ?_⟩<;>repeat' (first|exact trivial|apply And.intro|apply Eq.refl|(apply gv;apply Eq.refl;first|omega|assumption)|(apply gL;apply Eq.refl;repeat' (first|apply Eq.refl|apply cd|(apply cf;first|apply Eq.refl|omega|assumption))))) (fun k h hk=> ?_)
 have b1:0≤ic t c.len t.lo k∧ic t c.len t.lo k≤c.len:=by unfold ic;exact bnd _
 have b2:0≤ic t c.len t.hi k∧ic t c.len t.hi k≤c.len:=by unfold ic;exact bnd2 _
 have w1:=G8 (t:=t) (len:=c.len) (k:=k)
 have w2:=Ha (t:=t) (len:=c.len) (k:=k)
 have y1:=mv (t:=t) (len:=c.len) (pace:=t.lo) (k:=k)
 have y2:=mv (t:=t) (len:=c.len) (pace:=t.hi) (k:=k)
 have y3:=lM (t:=t) (len:=c.len) (pace:=t.lo) (k:=k)
 have y4:=lM (t:=t) (len:=c.len) (pace:=t.hi) (k:=k)
 repeat' (first
  |(apply bU;apply Eq.refl;apply Eq.refl;(first|(apply aA<;>apply Eq.refl)|(apply aG<;>apply Eq.refl)|(apply aH<;>apply Eq.refl)|(apply aD<;>apply Eq.refl)|(apply aB<;>apply Eq.refl)|(apply ah<;>(first|apply Eq.refl|omega))|(apply aq<;>apply Eq.refl)|(apply dt<;>apply Eq.refl)|(apply dn<;>apply Eq.refl)|(apply dr<;>apply Eq.refl)))
  |apply aZ
  |apply ak
  |apply an
  |apply aE
  |apply bn
  |apply aF
  |apply aw
  |apply aS
  |apply bf
  |apply aY
  |apply aR
  |(apply bZ;apply Eq.refl;(first|(refine yF (f' :=fun i=>bA (cY t c.len i)) rfl rfl rfl rfl rfl rfl rfl rfl rfl rfl rfl rfl rfl rfl rfl (by first|omega|(show(k+1)*16≤_;omega)) (by omega) rfl (fun i hi=>rfl) (fun i hi=>by(obtain rfl:i=0:=by omega);first|exact w1 (by omega)|exact w2 (by omega)))|(apply aT<;>apply Eq.refl)|(apply aO<;>apply Eq.refl)|(apply pY<;>apply Eq.refl)))
  |apply ax
  |(apply bw;kernel_rfl)
  |(apply dx;(first|(apply ab;apply Eq.refl)|(apply ae;apply Eq.refl;apply Eq.refl;apply Eq.refl));apply Eq.refl;first|(apply bB<;>apply Eq.refl)|(apply aW<;>apply Eq.refl)|(apply b6;apply Eq.refl)|(apply b7;apply Eq.refl)|(apply aN;intro _;(first|(apply aA<;>apply Eq.refl)|(apply aG<;>apply Eq.refl)|(apply aH<;>apply Eq.refl)|(apply aD<;>apply Eq.refl)|(apply aB<;>apply Eq.refl)|(apply ah<;>(first|apply Eq.refl|omega))|(apply aq<;>apply Eq.refl)|(apply dt<;>apply Eq.refl)|(apply dn<;>apply Eq.refl)|(apply dr<;>apply Eq.refl))))
  |(apply az;(first|(apply ab;apply Eq.refl)|(apply ae;apply Eq.refl;apply Eq.refl;apply Eq.refl));apply Eq.refl;apply Eq.refl;apply Eq.refl;exact(LV c t (ic t c.len t.lo k) ((k:Int)-1) t.lo l1 l2 ho (by omega) (by omega) (by omega) (by omega)))
  |(apply az;(first|(apply ab;apply Eq.refl)|(apply ae;apply Eq.refl;apply Eq.refl;apply Eq.refl));apply Eq.refl;apply Eq.refl;apply Eq.refl;exact(LV c t (ic t c.len t.hi k) ((k:Int)-1) t.hi l1 l2 ho (by omega) (by omega) (by omega) (by omega)))
  |(apply fj;(first|(apply ab;apply Eq.refl)|(apply ae;apply Eq.refl;apply Eq.refl;apply Eq.refl));(first|(apply dT<;>apply Eq.refl)))
  |(apply cM;apply Eq.refl;intro _;rotate_left 1;intro _;rotate_left 1))
 ·have q1:=(y1 (by omega)).symm
  have q2:=(y2 (by omega)).symm
  exact⟨k+1,by omega,by omega,(by apply bH;refine⟨?_, ?_, ?_, ?_, ?_⟩<;>repeat' (first|exact trivial|apply And.intro|apply Eq.refl|(apply gv;apply Eq.refl;first|omega|assumption)|(apply gL;apply Eq.refl;repeat' (first|apply Eq.refl|apply cd|(apply cf;first|apply Eq.refl|omega|assumption)))))⟩
 ·have q1:=(y3 (by omega)).symm
  have q2:=(y4 (by omega)).symm
  exact⟨k+1,by omega,by omega,(by apply bH;refine⟨?_, ?_, ?_, ?_, ?_⟩<;>repeat' (first|exact trivial|apply And.intro|apply Eq.refl|(apply gv;apply Eq.refl;first|omega|assumption)|(apply gL;apply Eq.refl;repeat' (first|apply Eq.refl|apply cd|(apply cf;first|apply Eq.refl|omega|assumption)))))⟩
 ·obtain rfl:k=e+1:=by omega
  refine ns (jU 6 (s:=7) rfl rfl rfl) (aL ?_)
  ((try apply aL);first|(apply Ii;apply Eq.refl;apply Eq.refl;apply Eq.refl;try apply Eq.refl))
def eW(way len:Int)(g:Span):Span:=if way=2 then⟨len-g.hi,len-g.lo⟩else g
theorem Sz(c:Convoy)(t:Truck)(g:Span)(h1: -1000000≤g.lo)(h2:g.lo≤1000000)(h3: -1000000≤g.hi)(h4:g.hi≤1000000)(l1:1≤c.len)(l2:c.len≤100000):
 au cK 76 [.agg (aI c), .agg (bp t), .agg (bA g)] (.agg (bA (eW t.way c.len g))):=by
 refine aC (fn:=Tryd.f76) Tryd.func76 rfl (by kernel_rfl) rfl ?_ ?_ ?_
 ·exact af.cons (.agg _ (bm c)) (af.cons (.agg _ (dP t)) (af.cons (.agg _ (cL g)) af.nil))
 ·exact .agg _ (cL _)
 intro w κ
 repeat' (first
  |(apply bU;apply Eq.refl;apply Eq.refl;(first|(apply aH<;>apply Eq.refl)|(apply aD<;>apply Eq.refl)|(apply aB<;>apply Eq.refl)|(apply ah<;>(first|apply Eq.refl|omega))|(apply aq<;>apply Eq.refl)|(apply bJ<;>apply Eq.refl)))
  |apply aZ
  |apply ak
  |apply an
  |apply aE
  |apply cg
  |apply aS
  |apply aY
  |(apply bZ;apply Eq.refl;(first|(apply aT<;>apply Eq.refl)|(apply aO<;>apply Eq.refl)|(apply bM<;>apply Eq.refl)))
  |(apply cM;apply Eq.refl;intro _;rotate_left 1;intro _;rotate_left 1))
 ·rename_i a1
  have e:eW t.way c.len g=⟨c.len-g.hi,c.len-g.lo⟩:=by unfold eW;rw[if_pos a1]
  rw[e];((try apply aL);first|(apply js;apply Eq.refl;apply Eq.refl;apply Eq.refl;apply Eq.refl;apply Eq.refl;apply Eq.refl;apply Eq.refl;apply Eq.refl;try apply Eq.refl))
 ·rename_i a1
  have e:eW t.way c.len g=g:=by unfold eW;rw[if_neg a1]
  rw[e];((try apply aL);first|(apply js;apply Eq.refl;apply Eq.refl;apply Eq.refl;apply Eq.refl;apply Eq.refl;apply Eq.refl;apply Eq.refl;apply Eq.refl;try apply Eq.refl))
def uq(a b:Span)(gap:Int):Int×Int×Bool:=
 (max a.lo (b.lo-gap+1),max b.lo (max a.lo (b.lo-gap+1)-gap+1),
   (decide (max a.lo (b.lo-gap+1)≤a.hi)&&decide (max b.lo (max a.lo (b.lo-gap+1)-gap+1)≤b.hi))&&decide (max b.lo (max a.lo (b.lo-gap+1)-gap+1)-max a.lo (b.lo-gap+1)<gap))
theorem TE(a b:Span)(gap:Int)(h1: -1000000≤a.lo)(h2:a.lo≤1000000)(h3: -1000000≤b.lo)(h4:b.lo≤1000000)(g0:0≤gap)(g1:gap≤100000):
 au cK 75 [.agg (bA a), .agg (bA b), .int .i64 gap] (.tup [.int .i64 (uq a b gap).1, .int .i64 (uq a b gap).2.1, .bool (uq a b gap).2.2]):=by
 refine aC (fn:=Tryd.f75) Tryd.func75 rfl (by kernel_rfl) rfl ?_ ?_ ?_
 ·exact af.cons (.agg _ (cL a)) (af.cons (.agg _ (cL b)) (af.cons (.int _ _) af.nil))
 ·exact .tup _ (af.cons (.int _ _) (af.cons (.int _ _) (af.cons (.bool _) af.nil)))
 intro w κ
 repeat' (first
  |(apply bU;apply Eq.refl;apply Eq.refl;(first|(apply aA<;>apply Eq.refl)|(apply aG<;>apply Eq.refl)|(apply aH<;>apply Eq.refl)|(apply aD<;>apply Eq.refl)|(apply aB<;>apply Eq.refl)|(apply aX<;>apply Eq.refl)|(apply bj<;>apply Eq.refl)|(apply ah<;>(first|apply Eq.refl|omega))|(apply bR<;>apply Eq.refl)|(apply bX<;>apply Eq.refl)|(apply dL<;>apply Eq.refl)))
  |apply aZ
  |apply ak
  |apply an
  |apply aE
  |apply aY
  |(apply bZ;apply Eq.refl;(first|(apply aT<;>apply Eq.refl)))
  |(apply dg;apply Eq.refl;apply Eq.refl;apply Eq.refl)
  |(apply eo;apply Eq.refl;apply Eq.refl;apply Eq.refl;apply Eq.refl;apply Eq.refl)
  |(apply xp;apply Eq.refl;apply Eq.refl;apply Eq.refl;intro _;rotate_left 1;intro _;rotate_left 1))
 all_goals simp only[uq]
 all_goals ((try apply aL);first|(focus (apply B3;apply Eq.refl;(first|(apply eI;apply Eq.refl)|(apply gr;apply Eq.refl));(first|(apply eI;apply Eq.refl)|(apply gr;apply Eq.refl));(first|(apply eI;apply Eq.refl)|(apply gr;apply Eq.refl));all_goals try apply Eq.refl)))
 all_goals simp[*]
def eN(way len g m:Int):List Hold→Bool
 |[]=>true
 |h::hs=>if br way len h.a=g∧h.u>m then false else eN way len g m hs
def gy(t:Truck)(len g m:Int):Bool:=if m<t.start∨g≥len then false else eN t.way len g m t.holds
theorem GS{way len g m:Int}{hs:List Hold}{k:Nat}(hi:eN way len g m (hs.drop k)=eN way len g m hs)(h:¬k<hs.length):true=eN way len g m hs:=by
 rw[←hi,List.drop_eq_nil_of_le (by omega)];rfl
theorem G2{way len g m:Int}{hs:List Hold}{k:Nat}(hi:eN way len g m (hs.drop k)=eN way len g m hs)(h:k<hs.length)(h1:br way len (hs.getD k default).a=g)(h2:(hs.getD k default).u>m):
 false=eN way len g m hs:=by
 rw[←hi,fg _ _ h,eN,if_pos ⟨h1,h2⟩]
theorem Ea{way len g m:Int}{hs:List Hold}{k:Nat}(hi:eN way len g m (hs.drop k)=eN way len g m hs)(h:k<hs.length)(h1:¬(br way len (hs.getD k default).a=g∧(hs.getD k default).u>m)):
 eN way len g m (hs.drop (k+1))=eN way len g m hs:=by
 rw[←hi,fg _ _ h,eN,if_neg h1]
attribute [local irreducible] eN
theorem Tt(c:Convoy)(t:Truck)(g m:Int)(hl:1≤c.len)(hl2:c.len≤100000)(ho:A7 c.len t.holds):au cK 79 [.agg (aI c), .agg (bp t), .int .i64 g, .int .i64 m] (.bool (gy t c.len g m)):=by
 refine aC (fn:=Tryd.f79) Tryd.func79 rfl (by kernel_rfl) rfl ?_ ?_ ?_
 ·exact af.cons (.agg _ (bm c)) (af.cons (.agg _ (dP t)) (af.cons (.int _ _) (af.cons (.int _ _) af.nil)))
 ·exact .bool _
 intro w κ
 have hl8:=ho.1
 repeat' (first
  |(apply bU;apply Eq.refl;apply Eq.refl;(first|(apply aA<;>apply Eq.refl)|(apply aG<;>apply Eq.refl)|(apply aH<;>apply Eq.refl)|(apply aD<;>apply Eq.refl)|(apply aB<;>apply Eq.refl)|(apply aX<;>apply Eq.refl)|(apply bj<;>apply Eq.refl)|(apply di<;>apply Eq.refl)|(apply iN<;>apply Eq.refl)|(apply ah<;>(first|apply Eq.refl|omega))|(apply ba<;>apply Eq.refl)|(apply bR<;>apply Eq.refl)|(apply bX<;>apply Eq.refl)|(apply cq<;>(first|apply Eq.refl|omega))|(apply aq<;>apply Eq.refl)|(apply aM<;>apply Eq.refl)))
  |apply aZ
  |apply ak
  |apply an
  |apply aE
  |apply bn
  |apply cg
  |apply aF
  |apply cN
  |apply aw
  |apply aS
  |apply bf
  |apply aY
  |apply aR
  |(apply bu;apply Eq.refl)
  |(apply bD;apply Eq.refl)
  |(apply bZ;apply Eq.refl;(first|(apply aT<;>apply Eq.refl)))
  |(apply dg;apply Eq.refl;apply Eq.refl;apply Eq.refl)
  |(apply eo;apply Eq.refl;apply Eq.refl;apply Eq.refl;apply Eq.refl;apply Eq.refl)
  |(apply xp;apply Eq.refl;apply Eq.refl;apply Eq.refl;intro _;rotate_left 1;intro _;rotate_left 1)
  |apply ax
  |(apply bw;kernel_rfl)
  |(apply dx;(first|(apply ab;apply Eq.refl)|(apply ae;apply Eq.refl;apply Eq.refl;apply Eq.refl));apply Eq.refl;first|(apply bB<;>apply Eq.refl)|(apply aW<;>apply Eq.refl)|(apply b6;apply Eq.refl)|(apply b7;apply Eq.refl)|(apply aN;intro _;(first|(apply aA<;>apply Eq.refl)|(apply aG<;>apply Eq.refl)|(apply aH<;>apply Eq.refl)|(apply aD<;>apply Eq.refl)|(apply aB<;>apply Eq.refl)|(apply aX<;>apply Eq.refl)|(apply bj<;>apply Eq.refl)|(apply di<;>apply Eq.refl)|(apply iN<;>apply Eq.refl)|(apply ah<;>(first|apply Eq.refl|omega))|(apply ba<;>apply Eq.refl)|(apply bR<;>apply Eq.refl)|(apply bX<;>apply Eq.refl)|(apply cq<;>(first|apply Eq.refl|omega))|(apply aq<;>apply Eq.refl)|(apply aM<;>apply Eq.refl))))
  |(apply nJ;apply Eq.refl;apply Eq.refl;apply Eq.refl;apply Eq.refl;apply Eq.refl)
  |(apply xm;apply Eq.refl;apply Eq.refl;apply Eq.refl;intro _;rotate_left 1;intro _;rotate_left 1)
  |(apply cM;apply Eq.refl;intro _;rotate_left 1;intro _;rotate_left 1))
 ·rename_i a1
  have e:gy t c.len g m=false:=by unfold gy;rw[if_pos (.inl a1)]
  rw[e];((try apply aL);first|(apply iG;apply Eq.refl;apply Eq.refl;try apply Eq.refl))
 ·rename_i a1 a2
  have e:gy t c.len g m=false:=by unfold gy;rw[if_pos (.inr a2)]
  rw[e];((try apply aL);first|(apply iG;apply Eq.refl;apply Eq.refl;try apply Eq.refl))
 rename_i a1 a2
 have e:gy t c.len g m=eN t.way c.len g m t.holds:=by unfold gy;rw[if_neg (fun h=>h.elim a1 a2)]
 rw[e]
 refine dI [2,3,4,5] [4,5] (fun k:Nat=>[(9, .int .i64 k)]) (fun _=>[]) (fun _=>[]) (fun k=>k≤t.holds.length∧eN t.way c.len g m (t.holds.drop k)=eN t.way c.len g m t.holds) (fun k=>t.holds.length-k) 0 ⟨Nat.zero_le _,rfl⟩ (by refine⟨?_, ?_, ?_⟩<;>repeat' (first|exact trivial|apply And.intro|apply Eq.refl|(apply gv;apply Eq.refl;first|omega|assumption)|(apply gL;apply Eq.refl;repeat' (first|apply Eq.refl|apply cd|(apply cf;first|apply Eq.refl|omega|assumption))))) (fun k h hi=> ?_)
 have hk:=hi.1
 have hb:∀hk' :(k:Int)<t.holds.length,1≤(t.holds.getD (k:Int).toNat default).a∧(t.holds.getD (k:Int).toNat default).a≤c.len-1:=fun h=>by
  have:=ho.2 k (by omega);simp only[Int.toNat_natCast];omega
 repeat' (first
  |(apply bU;apply Eq.refl;apply Eq.refl;(first|(apply aA<;>apply Eq.refl)|(apply aG<;>apply Eq.refl)|(apply aH<;>apply Eq.refl)|(apply aD<;>apply Eq.refl)|(apply aB<;>apply Eq.refl)|(apply aX<;>apply Eq.refl)|(apply bj<;>apply Eq.refl)|(apply di<;>apply Eq.refl)|(apply iN<;>apply Eq.refl)|(apply ah<;>(first|apply Eq.refl|omega))|(apply ba<;>apply Eq.refl)|(apply bR<;>apply Eq.refl)|(apply bX<;>apply Eq.refl)|(apply cq<;>(first|apply Eq.refl|omega))|(apply aq<;>apply Eq.refl)|(apply aM<;>apply Eq.refl)))
  |apply aZ
  |apply ak
  |apply an
  |apply aE
  |apply bn
  |apply cg
  |apply aF
  |apply cN
  |apply aw
  |apply aS
  |apply bf
  |apply aY
  |apply aR
  |(apply bu;apply Eq.refl)
  |(apply bD;apply Eq.refl)
  |(apply bZ;apply Eq.refl;(first|(apply aT<;>apply Eq.refl)))
  |(apply dg;apply Eq.refl;apply Eq.refl;apply Eq.refl)
  |(apply eo;apply Eq.refl;apply Eq.refl;apply Eq.refl;apply Eq.refl;apply Eq.refl)
  |(apply xp;apply Eq.refl;apply Eq.refl;apply Eq.refl;intro _;rotate_left 1;intro _;rotate_left 1)
  |apply ax
  |(apply bw;kernel_rfl)
  |(apply dx;(first|(apply ab;apply Eq.refl)|(apply ae;apply Eq.refl;apply Eq.refl;apply Eq.refl));apply Eq.refl;first|(apply bB<;>apply Eq.refl)|(apply aW<;>apply Eq.refl)|(apply b6;apply Eq.refl)|(apply b7;apply Eq.refl)|(apply aN;intro _;(first|(apply aA<;>apply Eq.refl)|(apply aG<;>apply Eq.refl)|(apply aH<;>apply Eq.refl)|(apply aD<;>apply Eq.refl)|(apply aB<;>apply Eq.refl)|(apply aX<;>apply Eq.refl)|(apply bj<;>apply Eq.refl)|(apply di<;>apply Eq.refl)|(apply iN<;>apply Eq.refl)|(apply ah<;>(first|apply Eq.refl|omega))|(apply ba<;>apply Eq.refl)|(apply bR<;>apply Eq.refl)|(apply bX<;>apply Eq.refl)|(apply cq<;>(first|apply Eq.refl|omega))|(apply aq<;>apply Eq.refl)|(apply aM<;>apply Eq.refl))))
  |(apply az;(first|(apply ab;apply Eq.refl)|(apply ae;apply Eq.refl;apply Eq.refl;apply Eq.refl));apply Eq.refl;apply Eq.refl;apply Eq.refl;exact(HC c t (t.holds.getD (k:Int).toNat default) (by have:=hb (by assumption);omega) (by have:=hb (by assumption);omega) (by omega) (by omega)))
  |(apply nJ;apply Eq.refl;apply Eq.refl;apply Eq.refl;apply Eq.refl;apply Eq.refl)
  |(apply xm;apply Eq.refl;apply Eq.refl;apply Eq.refl;intro _;rotate_left 1;intro _;rotate_left 1)
  |(apply cM;apply Eq.refl;intro _;rotate_left 1;intro _;rotate_left 1))
 all_goals try simp only[Int.toNat_natCast]at*
 all_goals first
  |(((try apply aL);first|(apply iG;apply Eq.refl;apply Eq.refl;try apply Eq.refl));exact G2 hi.2 (by omega) (by assumption) (by assumption))
  |(((try apply aL);first|(apply iG;apply Eq.refl;apply Eq.refl;try apply Eq.refl));exact GS hi.2 (by omega))
  |(refine⟨k+1,⟨by omega,Ea hi.2 (by omega) (fun hh=>by first|exact absurd hh.1 (by assumption)|exact absurd hh.2 (by assumption))⟩,by omega,(by apply bH;refine⟨?_, ?_, ?_, ?_, ?_⟩<;>repeat' (first|exact trivial|apply And.intro|apply Eq.refl|(apply gv;apply Eq.refl;first|omega|assumption)|(apply gL;apply Eq.refl;repeat' (first|apply Eq.refl|apply cd|(apply cf;first|apply Eq.refl|omega|assumption)))))⟩;done)
  |skip
def bK(t:Truck)(len:Int)(x:Span)(m:Int):Span×Bool:=
 (⟨x.lo,if gy t len x.hi m then x.hi else x.hi-1⟩,decide (m≥t.start)&&decide (x.lo≤(if gy t len x.hi m then x.hi else x.hi-1)))
attribute [local irreducible] gy
theorem R9(c:Convoy)(t:Truck)(x:Span)(m:Int)(hl:1≤c.len)(hl2:c.len≤100000)(ho:A7 c.len t.holds)(h3: -1000000≤x.hi)(h4:x.hi≤1000000):
 au cK 74 [.agg (aI c), .agg (bp t), .agg (bA x), .int .i64 m] (.tup [.agg (bA (bK t c.len x m).1), .bool (bK t c.len x m).2]):=by
 refine aC (fn:=Tryd.f74) Tryd.func74 rfl (by kernel_rfl) rfl ?_ ?_ ?_
 ·exact af.cons (.agg _ (bm c)) (af.cons (.agg _ (dP t)) (af.cons (.agg _ (cL x)) (af.cons (.int _ _) af.nil)))
 ·exact .tup _ (af.cons (.agg _ (cL _)) (af.cons (.bool _) af.nil))
 intro w κ
 have r:=Tt c t x.hi m hl hl2 ho
 unfold bK
 generalize gy t c.len x.hi m=b at*
 cases b
 ·simp only[Bool.false_eq_true,if_false]
  repeat' (first
  |(apply bU;apply Eq.refl;apply Eq.refl;(first|(apply aA<;>apply Eq.refl)|(apply aH<;>apply Eq.refl)|(apply aD<;>apply Eq.refl)|(apply aB<;>apply Eq.refl)|(apply aX<;>apply Eq.refl)|(apply bj<;>apply Eq.refl)|(apply cP<;>apply Eq.refl)|(apply ah<;>(first|apply Eq.refl|omega))|(apply bR<;>apply Eq.refl)|(apply bX<;>apply Eq.refl)|(apply aq<;>apply Eq.refl)))
  |apply aZ
  |apply ak
  |apply an
  |apply aE
  |apply aS
  |apply aY
  |(apply bu;apply Eq.refl)
  |(apply bD;apply Eq.refl)
  |(apply ay;apply Eq.refl;apply Eq.refl;rotate_left 1;apply Eq.refl;rotate_right 1;exact(r);apply Eq.refl)
  |(apply bZ;apply Eq.refl;(first|(apply aT<;>apply Eq.refl)|(apply aO<;>apply Eq.refl)|(apply bM<;>apply Eq.refl)))
  |apply ax
  |(apply bw;kernel_rfl)
  |(apply dx;(first|(apply ab;apply Eq.refl)|(apply ae;apply Eq.refl;apply Eq.refl;apply Eq.refl));apply Eq.refl;first|(apply bB<;>apply Eq.refl)|(apply aW<;>apply Eq.refl)|(apply b6;apply Eq.refl)|(apply b7;apply Eq.refl)|(apply aN;intro _;(first|(apply aA<;>apply Eq.refl)|(apply aH<;>apply Eq.refl)|(apply aD<;>apply Eq.refl)|(apply aB<;>apply Eq.refl)|(apply aX<;>apply Eq.refl)|(apply bj<;>apply Eq.refl)|(apply cP<;>apply Eq.refl)|(apply ah<;>(first|apply Eq.refl|omega))|(apply bR<;>apply Eq.refl)|(apply bX<;>apply Eq.refl)|(apply aq<;>apply Eq.refl))))
  |(apply fj;(first|(apply ab;apply Eq.refl)|(apply ae;apply Eq.refl;apply Eq.refl;apply Eq.refl));(first|(apply dT<;>apply Eq.refl)))
  |(apply nJ;apply Eq.refl;apply Eq.refl;apply Eq.refl;apply Eq.refl;apply Eq.refl)
  |(apply xm;apply Eq.refl;apply Eq.refl;apply Eq.refl;intro _;rotate_left 1;intro _;rotate_left 1))
  all_goals ((try apply aL);first|(focus (apply fu;apply Eq.refl;(first|(apply gr;apply Eq.refl)|(apply ed<;>apply Eq.refl));(first|(apply gr;apply Eq.refl)|(apply ed<;>apply Eq.refl));all_goals try apply Eq.refl)))
  all_goals simp[*]
 ·simp only[if_true]
  repeat' (first
  |(apply bU;apply Eq.refl;apply Eq.refl;(first|(apply aA<;>apply Eq.refl)|(apply aH<;>apply Eq.refl)|(apply aD<;>apply Eq.refl)|(apply aB<;>apply Eq.refl)|(apply aX<;>apply Eq.refl)|(apply bj<;>apply Eq.refl)|(apply cP<;>apply Eq.refl)|(apply ah<;>(first|apply Eq.refl|omega))|(apply bR<;>apply Eq.refl)|(apply bX<;>apply Eq.refl)|(apply aq<;>apply Eq.refl)))
  |apply aZ
  |apply ak
  |apply an
  |apply aE
  |apply aS
  |apply aY
  |(apply bu;apply Eq.refl)
  |(apply bD;apply Eq.refl)
  |(apply ay;apply Eq.refl;apply Eq.refl;rotate_left 1;apply Eq.refl;rotate_right 1;exact(r);apply Eq.refl)
  |(apply bZ;apply Eq.refl;(first|(apply aT<;>apply Eq.refl)|(apply aO<;>apply Eq.refl)|(apply bM<;>apply Eq.refl)))
  |apply ax
  |(apply bw;kernel_rfl)
  |(apply dx;(first|(apply ab;apply Eq.refl)|(apply ae;apply Eq.refl;apply Eq.refl;apply Eq.refl));apply Eq.refl;first|(apply bB<;>apply Eq.refl)|(apply aW<;>apply Eq.refl)|(apply b6;apply Eq.refl)|(apply b7;apply Eq.refl)|(apply aN;intro _;(first|(apply aA<;>apply Eq.refl)|(apply aH<;>apply Eq.refl)|(apply aD<;>apply Eq.refl)|(apply aB<;>apply Eq.refl)|(apply aX<;>apply Eq.refl)|(apply bj<;>apply Eq.refl)|(apply cP<;>apply Eq.refl)|(apply ah<;>(first|apply Eq.refl|omega))|(apply bR<;>apply Eq.refl)|(apply bX<;>apply Eq.refl)|(apply aq<;>apply Eq.refl))))
  |(apply fj;(first|(apply ab;apply Eq.refl)|(apply ae;apply Eq.refl;apply Eq.refl;apply Eq.refl));(first|(apply dT<;>apply Eq.refl)))
  |(apply nJ;apply Eq.refl;apply Eq.refl;apply Eq.refl;apply Eq.refl;apply Eq.refl)
  |(apply xm;apply Eq.refl;apply Eq.refl;apply Eq.refl;intro _;rotate_left 1;intro _;rotate_left 1))
  all_goals ((try apply aL);first|(focus (apply fu;apply Eq.refl;(first|(apply gr;apply Eq.refl)|(apply ed<;>apply Eq.refl));(first|(apply gr;apply Eq.refl)|(apply ed<;>apply Eq.refl));all_goals try apply Eq.refl)))
  all_goals simp[*]
end Go.Proofs.YtafnhieaeejlcaaDoor
namespace Go.Proofs.YtafnhieaeejlcaaDoor
open Go Go.Ab
theorem Hb{t:Truck}{len pace:Int}(h:eZ len t)(hp:1≤pace){k:Nat}(hk:dz t len pace k=len):dz t len pace (k+1)=len:=by
 have h1:=iX h.l1 h.ho h.so hp k
 have h2:=(fI (m:=t.start+k) h).2
 rw[eS h.l1 h.ho h.so hp k,hk]
 omega
theorem mF{t:Truck}{len pace:Int}(h:eZ len t)(hp:1≤pace){k:Nat}(hk:dz t len pace k=len):∀j,dz t len pace (k+j)=len
 |0=>hk
 |j+1=>Hb h hp (mF h hp hk j)
theorem DU{t:Truck}{len:Int}(h:eZ len t){k:Nat}(hk:cj t len t.lo≤k):gone t len k=gone t len (cj t len t.lo):=by
 obtain⟨j,rfl⟩:∃j,k=cj t len t.lo+j:=⟨k-cj t len t.lo,by omega⟩
 have h1:=(eV h (Int.le_refl t.lo)).1
 have h2:dz t len t.hi (cj t len t.lo)=len:=by
  have a:=mu h (cj t len t.lo)
  have b:=(dK h.l1 h.ho (show 1≤t.hi by have:=h.p1;have:=h.p2;omega) (cj t len t.lo)).2
  omega
 unfold gone
 rw[mF h h.p1 h1 j,mF h (by have:=h.p1;have:=h.p2;omega) h2 j,h1,h2]
theorem uP{t:Truck}{len:Int}{m:Nat}:cY t len m=gone t len ((m:Int)-t.start).toNat:=by
 unfold cY ic gone
 rw[show((m+1:Nat):Int)-1-t.start=(m:Int)-t.start by omega]
theorem Dl{t:Truck}{len:Int}(h:eZ len t){m:Nat}(hm:t.start≤m):atP t len m=cY t len m:=by
 rw[uP]
 unfold atP
 rw[if_neg (by omega)]
 by_cases e:(m:Int)-t.start≤cj t len t.lo
 ·rw[Int.min_eq_left e]
 ·rw[Int.min_eq_right (by omega),DU h (k:=((m:Int)-t.start).toNat) (by omega)]
  rw[show((cj t len t.lo:Nat):Int).toNat=cj t len t.lo by omega]
theorem FJ{way len m g:Int}:∀{hs:List Hold},ng way len hs→g<bE way len m hs→eN way len g m hs=true
 |[],_,_=>by simp only[eN]
 |h::hs,h1,h2=>by
  obtain⟨h3,h4⟩:=List.pairwise_cons.1 h1
  simp only[bE]at h2
  simp only[eN]
  by_cases e:h.u>m
  ·rw[if_pos e]at h2
   rw[if_neg (fun hh=>by omega)]
   clear h1 h4
   induction hs with
   |nil=>simp only[eN]
   |cons x hs ih=>
    simp only[eN]
    have:=h3 x (List.mem_cons_self ..)
    rw[if_neg (fun hh=>by omega)]
    exact ih fun y hy=>h3 y (List.mem_cons_of_mem _ hy)
  ·rw[if_neg e]at h2
   rw[if_neg (fun hh=>e hh.2)]
   exact FJ h4 h2
theorem Gu{way len m:Int}:∀{hs:List Hold},bE way len m hs≠len→eN way len (bE way len m hs) m hs=false
 |[],h=>absurd rfl h
 |h::hs,h1=>by
  simp only[bE]at h1⊢
  by_cases e:h.u>m
  ·rw[if_pos e]at h1⊢
   simp only[eN]
   rw[if_pos ⟨trivial,e⟩]
  ·rw[if_neg e]at h1⊢
   simp only[eN]
   rw[if_neg (fun hh=>e hh.2)]
   exact Gu h1
theorem sD{t:Truck}{len g:Int}(h:eZ len t){m:Int}(hm:t.start≤m)(hg:g≤bE t.way len m t.holds):gy t len g m=decide (g<bE t.way len m t.holds):=by
 obtain⟨_,s2⟩:=fI (m:=m) h
 unfold gy
 by_cases e:g<bE t.way len m t.holds
 ·rw[if_neg (by omega),FJ h.so e];simp[e]
 ·have:g=bE t.way len m t.holds:=by omega
  subst this
  simp only[Int.lt_irrefl,decide_false]
  by_cases e2:bE t.way len m t.holds=len
  ·rw[if_pos (.inr (by omega))]
  ·rw[if_neg (by omega),Gu e2]
theorem AY{way len:Int}{g:Span}(h:g.lo≤g.hi):gD way len g=eW way len g:=by
 unfold gD eW br
 by_cases e:way=2
 ·simp only[if_pos e,Span.mk.injEq];omega
 ·simp only[if_neg e]
  cases g
  simp only[Span.mk.injEq]at h⊢;omega
theorem jr{t:Truck}{len:Int}(h:eZ len t){m:Nat}:0≤(cY t len m).lo∧(cY t len m).lo≤(cY t len m).hi∧(cY t len m).hi≤len∧(t.start≤m→(cY t len m).hi≤bE t.way len m t.holds):=by
 rw[uP]
 have p:=h.p1
 have p' :=h.p2
 refine⟨(dK h.l1 h.ho h.p1 _).1,mu h _,(dK h.l1 h.ho (by omega) _).2,fun hm=> ?_⟩
 have:=iX (pace:=t.hi) h.l1 h.ho h.so (by omega) ((m:Int)-t.start).toNat
 rw[show t.start+((((m:Int)-t.start).toNat:Nat):Int)=m by omega]at this
 exact this
theorem wH{t:Truck}{len:Int}(h:eZ len t){m:Nat}(ho:(bK t len (cY t len m) m).2=false):(bW t len m).2=2:=by
 unfold bW
 by_cases hm:(m:Int)<t.start
 ·rw[if_pos hm]
 obtain⟨_,b2,_,b4⟩:=jr h (m:=m)
 have b4:=b4 (by omega)
 rw[if_neg hm,Dl h (by omega)]
 simp only[bK,sD h (show t.start≤(m:Int) by omega) b4]at ho
 by_cases e:(cY t len m).hi<bE t.way len m t.holds
 ·simp[e]at ho;omega
 ·simp[e]at ho
  rw[if_neg e,if_pos (by omega)]
theorem Ff{t:Truck}{len:Int}(h:eZ len t){m:Nat}(ho:(bK t len (cY t len m) m).2=true):
 (bW t len m).2≠2∧(bW t len m).1=eW t.way len (bK t len (cY t len m) m).1:=by
 by_cases hm:(m:Int)<t.start
 ·simp only[bK]at ho;simp at ho;omega
 obtain⟨_,b2,_,b4⟩:=jr h (m:=m)
 have b4:=b4 (by omega)
 unfold bW
 rw[if_neg hm,Dl h (by omega)]
 simp only[bK,sD h (show t.start≤(m:Int) by omega) b4]at ho⊢
 by_cases e:(cY t len m).hi<bE t.way len m t.holds
 ·simp only[e,decide_true,if_true]
  exact⟨by decide,AY b2⟩
 ·have e2:(cY t len m).hi=bE t.way len m t.holds:=by omega
  simp[e]at ho
  rw[if_neg e,if_neg (by omega)]
  simp only[e,decide_false,Bool.false_eq_true,if_false]
  rw[←e2]
  exact⟨by decide,AY (by show(cY t len m).lo≤(cY t len m).hi-1;omega)⟩
def pV(gap:Int)(t u:Truck)(len:Int)(m:Nat):Int×Int×Bool:=
 if(bK t len (cY t len m) m).2=false then(0,0,false)else if(bK u len (cY u len m) m).2=false then(0,0,false)
 else uq (eW t.way len (bK t len (cY t len m) m).1) (eW u.way len (bK u len (cY u len m) m).1) gap
theorem JT{gap len:Int}{t u:Truck}(ht:eZ len t)(hu:eZ len u)(hg:1≤gap)(m:Nat):pV gap t u len m=gE gap (bW t len m) (bW u len m):=by
 unfold pV gE
 cases e1:(bK t len (cY t len m) m).2 with
 |false=>rw[if_pos rfl,if_pos (.inl (wH ht e1))]
 |true=>
  obtain⟨a1,a2⟩:=Ff ht e1
  rw[if_neg (by decide)]
  cases e2:(bK u len (cY u len m) m).2 with
  |false=>rw[if_pos rfl,if_pos (.inr (wH hu e2))]
  |true=>
   obtain⟨b1,b2⟩:=Ff hu e2
   rw[if_neg (by decide),if_neg (fun h=>h.elim a1 b1),a2,b2]
   unfold uq
   simp only[Prod.mk.injEq,true_and]
   rw[decide_eq_true (show max (eW u.way len (bK u len (cY u len m) m).1).lo (max (eW t.way len (bK t len (cY t len m) m).1).lo ((eW u.way len (bK u len (cY u len m) m).1).lo-gap+1)-gap+1)-max (eW t.way len (bK t len (cY t len m) m).1).lo ((eW u.way len (bK u len (cY u len m) m).1).lo-gap+1)<gap by omega),Bool.and_true]
end Go.Proofs.YtafnhieaeejlcaaDoor
namespace Go.Ab
open Go Go.RowKit
section
variable {X:Ctx} {o:Oper} {S:St} {x y:Operand}
theorem fP{T:TypeId}{r q:TRow}{l:List D}{j:Nat}{k:Int}(ho:o.op= .indexAddr T x y)(hx:S.ev X x= .rp l j)(hy:S.ev X y= .int .i64 k)(h0:0≤k)
 (hr:nth X.Z.dS T=some r)(hk:Nat.beq r.k 2=true)(h1:k<r.ln)(hq:nth X.Z.dS r.el=some q)(hq9:Nat.beq q.k 9=false):eh X o S (.rp l (j+k.toNat*q.sz)):=fun κ sv a w hs=>by
 have hok:=X.Z.tabOk _ _ hr (by intro e;rw[e]at hk;cases hk)
 have hokq:=X.Z.tabOk _ _ hq (by intro e;rw[e]at hq9;cases hq9)
 have hyv:=kU (hy▸hs.ev y)
 have h1' :=hs.ev x
 rw[hx]at h1'
 generalize he:a.eval x=v at h1'
 cases h1' with
 |rp _ _ b bo u hc hu hκ=>
  refine⟨.pointer (some ⟨b,bo+(j+k.toNat*q.sz),none⟩), .rp l _ b bo u hc hu hκ,fun w' _=> ?_⟩
  simp[execOp,ho,he,hyv,Instr.indexAt,asIntOf,run_underlying (l8 hok hk),Instr.sureAddr,h0,h1,dN hokq,dM,Nat.add_assoc]
end
end Go.Ab
namespace Go.Proofs.YtafnhieaeejlcaaDoor
open Go Go.Ab
set_option maxRecDepth 100000
set_option maxHeartbeats 0
attribute [local irreducible] W WL eh kL fe ee gN WG FQ Want jE WI pE fR eA
def HI(t:Truck)(len:Int)(e:Nat):D:= .sl 2 (e+1) (fun i=>bA (cY t len i))
theorem eE{gap len:Int}{t u:Truck}(ht:eZ len t)(hu:eZ len u)(hg:1≤gap)(m:Nat)(b:Bool×Bool):pV gap (bb t b.1) (bb u b.2) len m=iF gap t u len m b:=by
 unfold iF;exact JT (ht.free _) (hu.free _) hg m
theorem py{gap len:Int}{t u:Truck}{m:Nat}(h:(bK t len (cY t len m) m).2=false):pV gap t u len m=(0,0,false):=by unfold pV;rw[if_pos h]
theorem px{gap len:Int}{t u:Truck}{m:Nat}(h:(bK u len (cY u len m) m).2=false):(pV gap t u len m).2.2=false:=by
 unfold pV;rw[if_pos h];split<;>rfl
theorem gW{gap len:Int}{t u:Truck}{m:Nat}(h:(bK t len (cY t len m) m).2=true)(h2:(bK u len (cY u len m) m).2=true):
 pV gap t u len m=uq (eW t.way len (bK t len (cY t len m) m).1) (eW u.way len (bK u len (cY u len m) m).1) gap:=by
 unfold pV;rw[if_neg (by simp[h]),if_neg (by simp[h2])]
theorem A9{way len:Int}{g:Span}(h: -1≤g.lo∧g.lo≤100000)(h' : -1≤g.hi∧g.hi≤100000)(h1:1≤len)(h2:len≤100000): -1000000≤(eW way len g).lo∧(eW way len g).lo≤1000000:=by
 unfold eW;split
 ·show -1000000≤len-g.hi∧len-g.hi≤1000000;omega
 ·omega
theorem mU{t:Truck}{len:Int}(h:eZ len t){m:Nat}:(-1≤(bK t len (cY t len m) m).1.lo∧(bK t len (cY t len m) m).1.lo≤100000)∧(-1≤(bK t len (cY t len m) m).1.hi∧(bK t len (cY t len m) m).1.hi≤100000):=by
 obtain⟨b1,b2,b3,_⟩:=jr h (m:=m)
 have:=h.l2
 unfold bK
 refine⟨⟨by show -1≤(cY t len m).lo;omega,by show(cY t len m).lo≤_;omega⟩, ?_⟩
 show -1≤(if gy t len (cY t len m).hi m=true then(cY t len m).hi else(cY t len m).hi-1)∧(if gy t len (cY t len m).hi m=true then(cY t len m).hi else(cY t len m).hi-1)≤100000
 split<;>omega
attribute [local irreducible] dA cY bK uq eW pV iF jO
theorem SM(c:Convoy):au cK 28 [.agg (aI c)] (.tup [.agg (cI (if al c=0 then A1 (ck c)else default)), .int .i64 (if al c=0 then(if(ck c).isSome then 0 else 7)else al c)]):=by
 refine aC (fn:=Tryd.f28) Tryd.func28 rfl (by kernel_rfl) rfl ?_ ?_ ?_
 ·exact af.cons (.agg _ (bm c)) af.nil
 ·exact .tup _ (af.cons (.agg _ (jQ _)) (af.cons (.int _ _) af.nil))
 intro w κ
 by_cases h0:al c=0
 rotate_left 1
 ·rw[if_neg h0,if_neg h0]
  repeat' (first
  |(apply bU;apply Eq.refl;apply Eq.refl;(first|(apply aA<;>apply Eq.refl)|(apply aG<;>apply Eq.refl)|(apply aH<;>apply Eq.refl)|(apply aD<;>apply Eq.refl)|(apply aB<;>apply Eq.refl)|(apply aX<;>apply Eq.refl)|(apply bj<;>apply Eq.refl)|(apply cP<;>apply Eq.refl)|(apply di<;>apply Eq.refl)|(apply ah<;>(first|apply Eq.refl|omega))|(apply ba<;>apply Eq.refl)|(apply cu<;>apply Eq.refl)|(apply bR<;>apply Eq.refl)|(apply bX<;>apply Eq.refl)|(apply cq<;>(first|apply Eq.refl|omega))|(apply aq<;>apply Eq.refl)|(apply aM<;>apply Eq.refl)|(apply bJ<;>apply Eq.refl)|(apply cO<;>apply Eq.refl)|(apply dt<;>apply Eq.refl)|(apply dn<;>apply Eq.refl)|(apply dr<;>apply Eq.refl)|(apply eG<;>apply Eq.refl)|(apply cw<;>apply Eq.refl)|(apply fP;apply Eq.refl;apply Eq.refl;apply Eq.refl;(first|omega|decide);apply Eq.refl;apply Eq.refl;(first|omega|decide);apply Eq.refl;apply Eq.refl)|(apply cT;apply Eq.refl;apply Eq.refl;apply Eq.refl;apply Eq.refl;(first|omega|decide);apply Eq.refl;apply Eq.refl;(first|omega|decide);apply Eq.refl;apply Eq.refl)))
  |apply aZ
  |apply ak
  |apply an
  |apply aE
  |apply bn
  |apply cg
  |apply aF
  |apply cN
  |apply aw
  |apply aS
  |apply bf
  |apply aY
  |apply aR
  |(apply bu;apply Eq.refl)
  |(apply bD;apply Eq.refl)
  |(apply ay;apply Eq.refl;apply Eq.refl;rotate_left 1;apply Eq.refl;rotate_right 1;exact(Mu c);apply Eq.refl)
  |(apply bZ;apply Eq.refl;(first|(apply aT<;>apply Eq.refl)|(apply aO<;>apply Eq.refl)|(apply bM<;>apply Eq.refl)))
  |(apply dg;apply Eq.refl;apply Eq.refl;apply Eq.refl)
  |(apply eo;apply Eq.refl;apply Eq.refl;apply Eq.refl;apply Eq.refl;apply Eq.refl)
  |(apply rE;apply Eq.refl;apply Eq.refl;apply Eq.refl;intro _;rotate_left 1;intro _;rotate_left 1)
  |apply ax
  |(apply bw;kernel_rfl)
  |(apply dx;(first|(apply ab;apply Eq.refl)|(apply ae;apply Eq.refl;apply Eq.refl;apply Eq.refl));apply Eq.refl;first|(apply bB<;>apply Eq.refl)|(apply aW<;>apply Eq.refl)|(apply b6;apply Eq.refl)|(apply b7;apply Eq.refl)|(apply aN;intro _;(first|(apply aA<;>apply Eq.refl)|(apply aG<;>apply Eq.refl)|(apply aH<;>apply Eq.refl)|(apply aD<;>apply Eq.refl)|(apply aB<;>apply Eq.refl)|(apply aX<;>apply Eq.refl)|(apply bj<;>apply Eq.refl)|(apply cP<;>apply Eq.refl)|(apply di<;>apply Eq.refl)|(apply ah<;>(first|apply Eq.refl|omega))|(apply ba<;>apply Eq.refl)|(apply cu<;>apply Eq.refl)|(apply bR<;>apply Eq.refl)|(apply bX<;>apply Eq.refl)|(apply cq<;>(first|apply Eq.refl|omega))|(apply aq<;>apply Eq.refl)|(apply aM<;>apply Eq.refl)|(apply bJ<;>apply Eq.refl)|(apply cO<;>apply Eq.refl)|(apply dt<;>apply Eq.refl)|(apply dn<;>apply Eq.refl)|(apply dr<;>apply Eq.refl)|(apply eG<;>apply Eq.refl)|(apply cw<;>apply Eq.refl)|(apply fP;apply Eq.refl;apply Eq.refl;apply Eq.refl;(first|omega|decide);apply Eq.refl;apply Eq.refl;(first|omega|decide);apply Eq.refl;apply Eq.refl)|(apply cT;apply Eq.refl;apply Eq.refl;apply Eq.refl;apply Eq.refl;(first|omega|decide);apply Eq.refl;apply Eq.refl;(first|omega|decide);apply Eq.refl;apply Eq.refl))))
  |(apply az;(first|(apply ab;apply Eq.refl)|(apply ae;apply Eq.refl;apply Eq.refl;apply Eq.refl));apply Eq.refl;apply Eq.refl;apply Eq.refl;exact(Mu c))
  |(apply fj;(first|(apply ab;apply Eq.refl)|(apply ae;apply Eq.refl;apply Eq.refl;apply Eq.refl));(first|(apply cJ<;>apply Eq.refl)|(apply dT<;>apply Eq.refl)|(apply g4<;>apply Eq.refl)))
  |(apply cM;apply Eq.refl;intro _;rotate_left 1;intro _;rotate_left 1)
  |(apply fq;apply Eq.refl;intro _;rotate_left 1;intro _;rotate_left 1)
  |(apply ox;apply Eq.refl;intro _;rotate_left 1;intro _;rotate_left 1)
  |(apply eR;apply Eq.refl;intro _;rotate_left 1;intro _;rotate_left 1))
  ·((try apply aL);first|(focus (apply fu;apply Eq.refl;(first|(apply eI;apply Eq.refl)|(apply ed<;>apply Eq.refl));(first|(apply eI;apply Eq.refl)|(apply ed<;>apply Eq.refl));all_goals try apply Eq.refl)))
  ·contradiction
 have hc:=fC h0
 have h1:=Mu c
 rw[if_pos h0,if_pos h0]
 rw[h0]at h1
 obtain⟨mb1,mb2⟩:=lS hc c.trucks.length (Nat.le_refl _)
 have hlast:((eF c:Nat):Int)=dA (fx c) c.trucks.length:=by unfold eF;omega
 have h2:=Ts c hc.ok
 rw[←hlast]at h2
 have hn:=hc.ok.n
 repeat' (first
  |(apply bU;apply Eq.refl;apply Eq.refl;(first|(apply aA<;>apply Eq.refl)|(apply aG<;>apply Eq.refl)|(apply aH<;>apply Eq.refl)|(apply aD<;>apply Eq.refl)|(apply aB<;>apply Eq.refl)|(apply aX<;>apply Eq.refl)|(apply bj<;>apply Eq.refl)|(apply cP<;>apply Eq.refl)|(apply di<;>apply Eq.refl)|(apply ah<;>(first|apply Eq.refl|omega))|(apply ba<;>apply Eq.refl)|(apply cu<;>apply Eq.refl)|(apply bR<;>apply Eq.refl)|(apply bX<;>apply Eq.refl)|(apply cq<;>(first|apply Eq.refl|omega))|(apply aq<;>apply Eq.refl)|(apply aM<;>apply Eq.refl)|(apply bJ<;>apply Eq.refl)|(apply cO<;>apply Eq.refl)|(apply dt<;>apply Eq.refl)|(apply dn<;>apply Eq.refl)|(apply dr<;>apply Eq.refl)|(apply eG<;>apply Eq.refl)|(apply cw<;>apply Eq.refl)|(apply fP;apply Eq.refl;apply Eq.refl;apply Eq.refl;(first|omega|decide);apply Eq.refl;apply Eq.refl;(first|omega|decide);apply Eq.refl;apply Eq.refl)|(apply cT;apply Eq.refl;apply Eq.refl;apply Eq.refl;apply Eq.refl;(first|omega|decide);apply Eq.refl;apply Eq.refl;(first|omega|decide);apply Eq.refl;apply Eq.refl)))
  |apply aZ
  |apply ak
  |apply an
  |apply aE
  |apply bn
  |apply cg
  |apply aF
  |apply cN
  |apply aw
  |apply aS
  |apply bf
  |apply aY
  |apply aR
  |(apply bu;apply Eq.refl)
  |(apply bD;apply Eq.refl)
  |(apply ay;apply Eq.refl;apply Eq.refl;rotate_left 1;apply Eq.refl;rotate_right 1;exact(h1);apply Eq.refl)
  |(apply ay;apply Eq.refl;apply Eq.refl;rotate_left 1;apply Eq.refl;rotate_right 1;exact(h2);apply Eq.refl)
  |(apply bZ;apply Eq.refl;(first|(apply aT<;>apply Eq.refl)|(apply aO<;>apply Eq.refl)|(apply bM<;>apply Eq.refl)))
  |(apply dg;apply Eq.refl;apply Eq.refl;apply Eq.refl)
  |(apply eo;apply Eq.refl;apply Eq.refl;apply Eq.refl;apply Eq.refl;apply Eq.refl)
  |(apply rE;apply Eq.refl;apply Eq.refl;apply Eq.refl;intro _;rotate_left 1;intro _;rotate_left 1)
  |apply ax
  |(apply bw;kernel_rfl)
  |(apply dx;(first|(apply ab;apply Eq.refl)|(apply ae;apply Eq.refl;apply Eq.refl;apply Eq.refl));apply Eq.refl;first|(apply bB<;>apply Eq.refl)|(apply aW<;>apply Eq.refl)|(apply b6;apply Eq.refl)|(apply b7;apply Eq.refl)|(apply aN;intro _;(first|(apply aA<;>apply Eq.refl)|(apply aG<;>apply Eq.refl)|(apply aH<;>apply Eq.refl)|(apply aD<;>apply Eq.refl)|(apply aB<;>apply Eq.refl)|(apply aX<;>apply Eq.refl)|(apply bj<;>apply Eq.refl)|(apply cP<;>apply Eq.refl)|(apply di<;>apply Eq.refl)|(apply ah<;>(first|apply Eq.refl|omega))|(apply ba<;>apply Eq.refl)|(apply cu<;>apply Eq.refl)|(apply bR<;>apply Eq.refl)|(apply bX<;>apply Eq.refl)|(apply cq<;>(first|apply Eq.refl|omega))|(apply aq<;>apply Eq.refl)|(apply aM<;>apply Eq.refl)|(apply bJ<;>apply Eq.refl)|(apply cO<;>apply Eq.refl)|(apply dt<;>apply Eq.refl)|(apply dn<;>apply Eq.refl)|(apply dr<;>apply Eq.refl)|(apply eG<;>apply Eq.refl)|(apply cw<;>apply Eq.refl)|(apply fP;apply Eq.refl;apply Eq.refl;apply Eq.refl;(first|omega|decide);apply Eq.refl;apply Eq.refl;(first|omega|decide);apply Eq.refl;apply Eq.refl)|(apply cT;apply Eq.refl;apply Eq.refl;apply Eq.refl;apply Eq.refl;(first|omega|decide);apply Eq.refl;apply Eq.refl;(first|omega|decide);apply Eq.refl;apply Eq.refl))))
  |(apply az;(first|(apply ab;apply Eq.refl)|(apply ae;apply Eq.refl;apply Eq.refl;apply Eq.refl));apply Eq.refl;apply Eq.refl;apply Eq.refl;exact(h1))
  |(apply az;(first|(apply ab;apply Eq.refl)|(apply ae;apply Eq.refl;apply Eq.refl;apply Eq.refl));apply Eq.refl;apply Eq.refl;apply Eq.refl;exact(h2))
  |(apply fj;(first|(apply ab;apply Eq.refl)|(apply ae;apply Eq.refl;apply Eq.refl;apply Eq.refl));(first|(apply cJ<;>apply Eq.refl)|(apply dT<;>apply Eq.refl)|(apply g4<;>apply Eq.refl)))
  |(apply cM;apply Eq.refl;intro _;rotate_left 1;intro _;rotate_left 1)
  |(apply fq;apply Eq.refl;intro _;rotate_left 1;intro _;rotate_left 1)
  |(apply ox;apply Eq.refl;intro _;rotate_left 1;intro _;rotate_left 1)
  |(apply eR;apply Eq.refl;intro _;rotate_left 1;intro _;rotate_left 1))
 refine qI (qg 6 6 101 2 (fun i=>[HI (c.trucks.getD i default) c.len (eF c),HI (bb (c.trucks.getD i default) true) c.len (eF c)]) rfl) ?_
 refine dI [1,2,3,5] [1,2] (fun k:Nat=>[(6, .os 6 (k+1)),(7, .int .i64 k)]) (fun k=>[(6,k+1)])
  (fun k=>[(6, .arr 101 2 k (fun i=>[HI (c.trucks.getD i default) c.len (eF c),HI (bb (c.trucks.getD i default) true) c.len (eF c)]))])
  (fun k=>k≤c.trucks.length) (fun k=>c.trucks.length-k) 0 (Nat.zero_le _) (by refine⟨?_, ?_, ?_⟩<;>repeat' (first|exact trivial|apply And.intro|apply Eq.refl|(apply gv;apply Eq.refl;first|omega|assumption)|(apply gL;apply Eq.refl;repeat' (first|apply Eq.refl|apply cd|(apply cf;first|apply Eq.refl|omega|assumption))))) (fun k h hk=> ?_)
 have ht:(k:Int)<c.trucks.length→xS c (c.trucks.getD (k:Int).toNat default):=fun h=>hc.ok.t _ (by omega)
 have hw1:(k:Int)<c.trucks.length→au cK 72 [.agg (aI c), .agg (bp (c.trucks.getD (k:Int).toNat default)), .int .i64 (eF c:Nat)] (HI (c.trucks.getD (k:Int).toNat default) c.len (eF c)):=fun h=>by unfold HI;exact R3 c _ (eF c) (ht h) (by omega)
 have hw2:(k:Int)<c.trucks.length→au cK 72 [.agg (aI c), .agg (bp (bb (c.trucks.getD (k:Int).toNat default) true)), .int .i64 (eF c:Nat)] (HI (bb (c.trucks.getD (k:Int).toNat default) true) c.len (eF c)):=fun h=>by unfold HI;exact R3 c _ (eF c) ((ht h).free true) (by omega)
 repeat' (first
  |(apply bU;apply Eq.refl;apply Eq.refl;(first|(apply aA<;>apply Eq.refl)|(apply aG<;>apply Eq.refl)|(apply aH<;>apply Eq.refl)|(apply aD<;>apply Eq.refl)|(apply aB<;>apply Eq.refl)|(apply aX<;>apply Eq.refl)|(apply bj<;>apply Eq.refl)|(apply cP<;>apply Eq.refl)|(apply di<;>apply Eq.refl)|(apply ah<;>(first|apply Eq.refl|omega))|(apply ba<;>apply Eq.refl)|(apply cu<;>apply Eq.refl)|(apply bR<;>apply Eq.refl)|(apply bX<;>apply Eq.refl)|(apply cq<;>(first|apply Eq.refl|omega))|(apply aq<;>apply Eq.refl)|(apply aM<;>apply Eq.refl)|(apply bJ<;>apply Eq.refl)|(apply cO<;>apply Eq.refl)|(apply dt<;>apply Eq.refl)|(apply dn<;>apply Eq.refl)|(apply dr<;>apply Eq.refl)|(apply eG<;>apply Eq.refl)|(apply cw<;>apply Eq.refl)|(apply fP;apply Eq.refl;apply Eq.refl;apply Eq.refl;(first|omega|decide);apply Eq.refl;apply Eq.refl;(first|omega|decide);apply Eq.refl;apply Eq.refl)|(apply cT;apply Eq.refl;apply Eq.refl;apply Eq.refl;apply Eq.refl;(first|omega|decide);apply Eq.refl;apply Eq.refl;(first|omega|decide);apply Eq.refl;apply Eq.refl)))
  |apply aZ
  |apply ak
  |apply an
  |apply aE
  |apply bn
  |apply cg
  |apply aF
  |apply cN
  |apply aw
  |apply aS
  |apply bf
  |apply aY
  |apply aR
  |(apply bu;apply Eq.refl)
  |(apply bD;apply Eq.refl)
  |(apply ay;apply Eq.refl;apply Eq.refl;rotate_left 1;apply Eq.refl;rotate_right 1;exact(hw1 (by assumption));apply Eq.refl)
  |(apply ay;apply Eq.refl;apply Eq.refl;rotate_left 1;apply Eq.refl;rotate_right 1;exact(hw2 (by assumption));apply Eq.refl)
  |(apply ay;apply Eq.refl;apply Eq.refl;rotate_left 1;apply Eq.refl;rotate_right 1;exact(zB (c.trucks.getD (k:Int).toNat default) true);apply Eq.refl)
  |(apply bZ;apply Eq.refl;(first|(apply aT<;>apply Eq.refl)|(apply aO<;>apply Eq.refl)|(apply bM<;>apply Eq.refl)))
  |(apply dg;apply Eq.refl;apply Eq.refl;apply Eq.refl)
  |(apply eo;apply Eq.refl;apply Eq.refl;apply Eq.refl;apply Eq.refl;apply Eq.refl)
  |(apply rE;apply Eq.refl;apply Eq.refl;apply Eq.refl;intro _;rotate_left 1;intro _;rotate_left 1)
  |apply ax
  |(apply bw;kernel_rfl)
  |(apply dx;(first|(apply ab;apply Eq.refl)|(apply ae;apply Eq.refl;apply Eq.refl;apply Eq.refl));apply Eq.refl;first|(apply bB<;>apply Eq.refl)|(apply aW<;>apply Eq.refl)|(apply b6;apply Eq.refl)|(apply b7;apply Eq.refl)|(apply aN;intro _;(first|(apply aA<;>apply Eq.refl)|(apply aG<;>apply Eq.refl)|(apply aH<;>apply Eq.refl)|(apply aD<;>apply Eq.refl)|(apply aB<;>apply Eq.refl)|(apply aX<;>apply Eq.refl)|(apply bj<;>apply Eq.refl)|(apply cP<;>apply Eq.refl)|(apply di<;>apply Eq.refl)|(apply ah<;>(first|apply Eq.refl|omega))|(apply ba<;>apply Eq.refl)|(apply cu<;>apply Eq.refl)|(apply bR<;>apply Eq.refl)|(apply bX<;>apply Eq.refl)|(apply cq<;>(first|apply Eq.refl|omega))|(apply aq<;>apply Eq.refl)|(apply aM<;>apply Eq.refl)|(apply bJ<;>apply Eq.refl)|(apply cO<;>apply Eq.refl)|(apply dt<;>apply Eq.refl)|(apply dn<;>apply Eq.refl)|(apply dr<;>apply Eq.refl)|(apply eG<;>apply Eq.refl)|(apply cw<;>apply Eq.refl)|(apply fP;apply Eq.refl;apply Eq.refl;apply Eq.refl;(first|omega|decide);apply Eq.refl;apply Eq.refl;(first|omega|decide);apply Eq.refl;apply Eq.refl)|(apply cT;apply Eq.refl;apply Eq.refl;apply Eq.refl;apply Eq.refl;(first|omega|decide);apply Eq.refl;apply Eq.refl;(first|omega|decide);apply Eq.refl;apply Eq.refl))))
  |(apply az;(first|(apply ab;apply Eq.refl)|(apply ae;apply Eq.refl;apply Eq.refl;apply Eq.refl));apply Eq.refl;apply Eq.refl;apply Eq.refl;exact(hw1 (by assumption)))
  |(apply az;(first|(apply ab;apply Eq.refl)|(apply ae;apply Eq.refl;apply Eq.refl;apply Eq.refl));apply Eq.refl;apply Eq.refl;apply Eq.refl;exact(hw2 (by assumption)))
  |(apply az;(first|(apply ab;apply Eq.refl)|(apply ae;apply Eq.refl;apply Eq.refl;apply Eq.refl));apply Eq.refl;apply Eq.refl;apply Eq.refl;exact(zB (c.trucks.getD (k:Int).toNat default) true))
  |(apply fj;(first|(apply ab;apply Eq.refl)|(apply ae;apply Eq.refl;apply Eq.refl;apply Eq.refl));(first|(refine tR (f' :=fun i=>[HI (c.trucks.getD i default) c.len (eF c),HI (bb (c.trucks.getD i default) true) c.len (eF c)]) rfl rfl rfl rfl rfl rfl rfl rfl rfl rfl rfl rfl rfl rfl rfl (by first|omega|(show(k+1)*48≤_;omega)) (by omega) rfl (fun i hi=>rfl) (fun i hi=>by(obtain rfl:i=0:=by omega);rfl))|(apply cJ<;>apply Eq.refl)|(apply dT<;>apply Eq.refl)|(apply g4<;>apply Eq.refl)))
  |(apply cM;apply Eq.refl;intro _;rotate_left 1;intro _;rotate_left 1)
  |(apply fq;apply Eq.refl;intro _;rotate_left 1;intro _;rotate_left 1)
  |(apply ox;apply Eq.refl;intro _;rotate_left 1;intro _;rotate_left 1)
  |(apply eR;apply Eq.refl;intro _;rotate_left 1;intro _;rotate_left 1))
 ·exact⟨k+1,by omega,by omega,(by apply bH;refine⟨?_, ?_, ?_, ?_, ?_⟩<;>repeat' (first|exact trivial|apply And.intro|apply Eq.refl|(apply gv;apply Eq.refl;first|omega|assumption)|(apply gL;apply Eq.refl;repeat' (first|apply Eq.refl|apply cd|(apply cf;first|apply Eq.refl|omega|assumption)))))⟩
 obtain rfl:k=c.trucks.length:=by omega
 refine qI (jU 6 (s:=6) rfl rfl rfl) ?_
 clear ht hw1 hw2
 refine dI [1,2,5,6,9] [1,9] (fun m:Nat=>[(3, .int .i64 0),(10, .int .i64 m)]) (fun m=>[(2,1)]) (fun m=>[(2, .box (cI default))])
  (fun m=>m≤eF c+1∧fh (pO c) (eF c+1-m) m=ck c) (fun m=>eF c+1-m) 0 ⟨Nat.zero_le _,rfl⟩ (by refine⟨?_, ?_, ?_⟩<;>repeat' (first|exact trivial|apply And.intro|apply Eq.refl|(apply gv;apply Eq.refl;first|omega|assumption)|(apply gL;apply Eq.refl;repeat' (first|apply Eq.refl|apply cd|(apply cf;first|apply Eq.refl|omega|assumption))))) (fun m h1 hm=> ?_)
 obtain⟨hm1,hm2⟩:=hm
 repeat' (first
  |(apply bU;apply Eq.refl;apply Eq.refl;(first|(apply aA<;>apply Eq.refl)|(apply aG<;>apply Eq.refl)|(apply aH<;>apply Eq.refl)|(apply aD<;>apply Eq.refl)|(apply aB<;>apply Eq.refl)|(apply aX<;>apply Eq.refl)|(apply bj<;>apply Eq.refl)|(apply cP<;>apply Eq.refl)|(apply di<;>apply Eq.refl)|(apply ah<;>(first|apply Eq.refl|omega))|(apply ba<;>apply Eq.refl)|(apply cu<;>apply Eq.refl)|(apply bR<;>apply Eq.refl)|(apply bX<;>apply Eq.refl)|(apply cq<;>(first|apply Eq.refl|omega))|(apply aq<;>apply Eq.refl)|(apply aM<;>apply Eq.refl)|(apply bJ<;>apply Eq.refl)|(apply cO<;>apply Eq.refl)|(apply dt<;>apply Eq.refl)|(apply dn<;>apply Eq.refl)|(apply dr<;>apply Eq.refl)|(apply eG<;>apply Eq.refl)|(apply cw<;>apply Eq.refl)|(apply fP;apply Eq.refl;apply Eq.refl;apply Eq.refl;(first|omega|decide);apply Eq.refl;apply Eq.refl;(first|omega|decide);apply Eq.refl;apply Eq.refl)|(apply cT;apply Eq.refl;apply Eq.refl;apply Eq.refl;apply Eq.refl;(first|omega|decide);apply Eq.refl;apply Eq.refl;(first|omega|decide);apply Eq.refl;apply Eq.refl)))
  |apply aZ
  |apply ak
  |apply an
  |apply aE
  |apply bn
  |apply cg
  |apply aF
  |apply cN
  |apply aw
  |apply aS
  |apply bf
  |apply aY
  |apply aR
  |(apply bu;apply Eq.refl)
  |(apply bD;apply Eq.refl)
  |(apply bZ;apply Eq.refl;(first|(apply aT<;>apply Eq.refl)|(apply aO<;>apply Eq.refl)|(apply bM<;>apply Eq.refl)))
  |(apply dg;apply Eq.refl;apply Eq.refl;apply Eq.refl)
  |(apply eo;apply Eq.refl;apply Eq.refl;apply Eq.refl;apply Eq.refl;apply Eq.refl)
  |(apply rE;apply Eq.refl;apply Eq.refl;apply Eq.refl;intro _;rotate_left 1;intro _;rotate_left 1)
  |apply ax
  |(apply bw;kernel_rfl)
  |(apply dx;(first|(apply ab;apply Eq.refl)|(apply ae;apply Eq.refl;apply Eq.refl;apply Eq.refl));apply Eq.refl;first|(apply bB<;>apply Eq.refl)|(apply aW<;>apply Eq.refl)|(apply b6;apply Eq.refl)|(apply b7;apply Eq.refl)|(apply aN;intro _;(first|(apply aA<;>apply Eq.refl)|(apply aG<;>apply Eq.refl)|(apply aH<;>apply Eq.refl)|(apply aD<;>apply Eq.refl)|(apply aB<;>apply Eq.refl)|(apply aX<;>apply Eq.refl)|(apply bj<;>apply Eq.refl)|(apply cP<;>apply Eq.refl)|(apply di<;>apply Eq.refl)|(apply ah<;>(first|apply Eq.refl|omega))|(apply ba<;>apply Eq.refl)|(apply cu<;>apply Eq.refl)|(apply bR<;>apply Eq.refl)|(apply bX<;>apply Eq.refl)|(apply cq<;>(first|apply Eq.refl|omega))|(apply aq<;>apply Eq.refl)|(apply aM<;>apply Eq.refl)|(apply bJ<;>apply Eq.refl)|(apply cO<;>apply Eq.refl)|(apply dt<;>apply Eq.refl)|(apply dn<;>apply Eq.refl)|(apply dr<;>apply Eq.refl)|(apply eG<;>apply Eq.refl)|(apply cw<;>apply Eq.refl)|(apply fP;apply Eq.refl;apply Eq.refl;apply Eq.refl;(first|omega|decide);apply Eq.refl;apply Eq.refl;(first|omega|decide);apply Eq.refl;apply Eq.refl)|(apply cT;apply Eq.refl;apply Eq.refl;apply Eq.refl;apply Eq.refl;(first|omega|decide);apply Eq.refl;apply Eq.refl;(first|omega|decide);apply Eq.refl;apply Eq.refl))))
  |(apply fj;(first|(apply ab;apply Eq.refl)|(apply ae;apply Eq.refl;apply Eq.refl;apply Eq.refl));(first|(apply cJ<;>apply Eq.refl)|(apply dT<;>apply Eq.refl)|(apply g4<;>apply Eq.refl)))
  |(apply cM;apply Eq.refl;intro _;rotate_left 1;intro _;rotate_left 1)
  |(apply fq;apply Eq.refl;intro _;rotate_left 1;intro _;rotate_left 1)
  |(apply ox;apply Eq.refl;intro _;rotate_left 1;intro _;rotate_left 1)
  |(apply eR;apply Eq.refl;intro _;rotate_left 1;intro _;rotate_left 1))
 rotate_left 1
 ·have:=jg hm2 (by omega)
  rw[this];((try apply aL);first|(focus (apply fu;apply Eq.refl;(first|(apply eI;apply Eq.refl)|(apply ed<;>apply Eq.refl));(first|(apply eI;apply Eq.refl)|(apply ed<;>apply Eq.refl));all_goals try apply Eq.refl)))
 have hmlt:m<eF c+1:=by omega
 refine dI [1,2,5,6,9,10] [1,9] (fun i:Nat=>[(3, .int .i64 0),(11, .int .i64 i)]) (fun i=>[(2,1)]) (fun i=>[(2, .box (cI default))])
  (fun i=>i≤c.trucks.length∧fh (qa c m) (c.trucks.length-i) i=pO c m) (fun i=>c.trucks.length-i) 0 ⟨Nat.zero_le _,by unfold pO;rfl⟩ (by refine⟨?_, ?_, ?_⟩<;>repeat' (first|exact trivial|apply And.intro|apply Eq.refl|(apply gv;apply Eq.refl;first|omega|assumption)|(apply gL;apply Eq.refl;repeat' (first|apply Eq.refl|apply cd|(apply cf;first|apply Eq.refl|omega|assumption))))) (fun i h2 hi=> ?_)
 obtain⟨hi1,hi2⟩:=hi
 repeat' (first
  |(apply bU;apply Eq.refl;apply Eq.refl;(first|(apply aA<;>apply Eq.refl)|(apply aG<;>apply Eq.refl)|(apply aH<;>apply Eq.refl)|(apply aD<;>apply Eq.refl)|(apply aB<;>apply Eq.refl)|(apply aX<;>apply Eq.refl)|(apply bj<;>apply Eq.refl)|(apply cP<;>apply Eq.refl)|(apply di<;>apply Eq.refl)|(apply ah<;>(first|apply Eq.refl|omega))|(apply ba<;>apply Eq.refl)|(apply cu<;>apply Eq.refl)|(apply bR<;>apply Eq.refl)|(apply bX<;>apply Eq.refl)|(apply cq<;>(first|apply Eq.refl|omega))|(apply aq<;>apply Eq.refl)|(apply aM<;>apply Eq.refl)|(apply bJ<;>apply Eq.refl)|(apply cO<;>apply Eq.refl)|(apply dt<;>apply Eq.refl)|(apply dn<;>apply Eq.refl)|(apply dr<;>apply Eq.refl)|(apply eG<;>apply Eq.refl)|(apply cw<;>apply Eq.refl)|(apply fP;apply Eq.refl;apply Eq.refl;apply Eq.refl;(first|omega|decide);apply Eq.refl;apply Eq.refl;(first|omega|decide);apply Eq.refl;apply Eq.refl)|(apply cT;apply Eq.refl;apply Eq.refl;apply Eq.refl;apply Eq.refl;(first|omega|decide);apply Eq.refl;apply Eq.refl;(first|omega|decide);apply Eq.refl;apply Eq.refl)))
  |apply aZ
  |apply ak
  |apply an
  |apply aE
  |apply bn
  |apply cg
  |apply aF
  |apply cN
  |apply aw
  |apply aS
  |apply bf
  |apply aY
  |apply aR
  |(apply bu;apply Eq.refl)
  |(apply bD;apply Eq.refl)
  |(apply bZ;apply Eq.refl;(first|(apply aT<;>apply Eq.refl)|(apply aO<;>apply Eq.refl)|(apply bM<;>apply Eq.refl)))
  |(apply dg;apply Eq.refl;apply Eq.refl;apply Eq.refl)
  |(apply eo;apply Eq.refl;apply Eq.refl;apply Eq.refl;apply Eq.refl;apply Eq.refl)
  |(apply rE;apply Eq.refl;apply Eq.refl;apply Eq.refl;intro _;rotate_left 1;intro _;rotate_left 1)
  |apply ax
  |(apply bw;kernel_rfl)
  |(apply dx;(first|(apply ab;apply Eq.refl)|(apply ae;apply Eq.refl;apply Eq.refl;apply Eq.refl));apply Eq.refl;first|(apply bB<;>apply Eq.refl)|(apply aW<;>apply Eq.refl)|(apply b6;apply Eq.refl)|(apply b7;apply Eq.refl)|(apply aN;intro _;(first|(apply aA<;>apply Eq.refl)|(apply aG<;>apply Eq.refl)|(apply aH<;>apply Eq.refl)|(apply aD<;>apply Eq.refl)|(apply aB<;>apply Eq.refl)|(apply aX<;>apply Eq.refl)|(apply bj<;>apply Eq.refl)|(apply cP<;>apply Eq.refl)|(apply di<;>apply Eq.refl)|(apply ah<;>(first|apply Eq.refl|omega))|(apply ba<;>apply Eq.refl)|(apply cu<;>apply Eq.refl)|(apply bR<;>apply Eq.refl)|(apply bX<;>apply Eq.refl)|(apply cq<;>(first|apply Eq.refl|omega))|(apply aq<;>apply Eq.refl)|(apply aM<;>apply Eq.refl)|(apply bJ<;>apply Eq.refl)|(apply cO<;>apply Eq.refl)|(apply dt<;>apply Eq.refl)|(apply dn<;>apply Eq.refl)|(apply dr<;>apply Eq.refl)|(apply eG<;>apply Eq.refl)|(apply cw<;>apply Eq.refl)|(apply fP;apply Eq.refl;apply Eq.refl;apply Eq.refl;(first|omega|decide);apply Eq.refl;apply Eq.refl;(first|omega|decide);apply Eq.refl;apply Eq.refl)|(apply cT;apply Eq.refl;apply Eq.refl;apply Eq.refl;apply Eq.refl;(first|omega|decide);apply Eq.refl;apply Eq.refl;(first|omega|decide);apply Eq.refl;apply Eq.refl))))
  |(apply fj;(first|(apply ab;apply Eq.refl)|(apply ae;apply Eq.refl;apply Eq.refl;apply Eq.refl));(first|(apply cJ<;>apply Eq.refl)|(apply dT<;>apply Eq.refl)|(apply g4<;>apply Eq.refl)))
  |(apply cM;apply Eq.refl;intro _;rotate_left 1;intro _;rotate_left 1)
  |(apply fq;apply Eq.refl;intro _;rotate_left 1;intro _;rotate_left 1)
  |(apply ox;apply Eq.refl;intro _;rotate_left 1;intro _;rotate_left 1)
  |(apply eR;apply Eq.refl;intro _;rotate_left 1;intro _;rotate_left 1))
 rotate_left 1
 ·have:=jg hi2 (by omega)
  exact⟨m+1,⟨by omega,gX hm2 hmlt this⟩,by omega,(by apply bH;refine⟨?_, ?_, ?_, ?_, ?_⟩<;>repeat' (first|exact trivial|apply And.intro|apply Eq.refl|(apply gv;apply Eq.refl;first|omega|assumption)|(apply gL;apply Eq.refl;repeat' (first|apply Eq.refl|apply cd|(apply cf;first|apply Eq.refl|omega|assumption)))))⟩
 have hilt:i<c.trucks.length:=by omega
 refine dI [1,2,5,6,9,10,11] [1,9] (fun k:Nat=>[(3, .int .i64 0),(12, .int .i64 k)]) (fun k=>[(2,1)]) (fun k=>[(2, .box (cI default))])
  (fun k=>i+1≤k∧k≤c.trucks.length∧fh (pQ c m i) (c.trucks.length-k) k=qa c m i) (fun k=>c.trucks.length-k) (i+1) ⟨Nat.le_refl _,by omega,by unfold qa;rfl⟩ (by refine⟨?_, ?_, ?_⟩<;>repeat' (first|exact trivial|apply And.intro|apply Eq.refl|(apply gv;apply Eq.refl;first|omega|assumption)|(apply gL;apply Eq.refl;repeat' (first|apply Eq.refl|apply cd|(apply cf;first|apply Eq.refl|omega|assumption))))) (fun k h3 hk=> ?_)
 obtain⟨hk0,hk1,hk2⟩:=hk
 repeat' (first
  |(apply bU;apply Eq.refl;apply Eq.refl;(first|(apply aA<;>apply Eq.refl)|(apply aG<;>apply Eq.refl)|(apply aH<;>apply Eq.refl)|(apply aD<;>apply Eq.refl)|(apply aB<;>apply Eq.refl)|(apply aX<;>apply Eq.refl)|(apply bj<;>apply Eq.refl)|(apply cP<;>apply Eq.refl)|(apply di<;>apply Eq.refl)|(apply ah<;>(first|apply Eq.refl|omega))|(apply ba<;>apply Eq.refl)|(apply cu<;>apply Eq.refl)|(apply bR<;>apply Eq.refl)|(apply bX<;>apply Eq.refl)|(apply cq<;>(first|apply Eq.refl|omega))|(apply aq<;>apply Eq.refl)|(apply aM<;>apply Eq.refl)|(apply bJ<;>apply Eq.refl)|(apply cO<;>apply Eq.refl)|(apply dt<;>apply Eq.refl)|(apply dn<;>apply Eq.refl)|(apply dr<;>apply Eq.refl)|(apply eG<;>apply Eq.refl)|(apply cw<;>apply Eq.refl)|(apply fP;apply Eq.refl;apply Eq.refl;apply Eq.refl;(first|omega|decide);apply Eq.refl;apply Eq.refl;(first|omega|decide);apply Eq.refl;apply Eq.refl)|(apply cT;apply Eq.refl;apply Eq.refl;apply Eq.refl;apply Eq.refl;(first|omega|decide);apply Eq.refl;apply Eq.refl;(first|omega|decide);apply Eq.refl;apply Eq.refl)))
  |apply aZ
  |apply ak
  |apply an
  |apply aE
  |apply bn
  |apply cg
  |apply aF
  |apply cN
  |apply aw
  |apply aS
  |apply bf
  |apply aY
  |apply aR
  |(apply bu;apply Eq.refl)
  |(apply bD;apply Eq.refl)
  |(apply bZ;apply Eq.refl;(first|(apply aT<;>apply Eq.refl)|(apply aO<;>apply Eq.refl)|(apply bM<;>apply Eq.refl)))
  |(apply dg;apply Eq.refl;apply Eq.refl;apply Eq.refl)
  |(apply eo;apply Eq.refl;apply Eq.refl;apply Eq.refl;apply Eq.refl;apply Eq.refl)
  |(apply rE;apply Eq.refl;apply Eq.refl;apply Eq.refl;intro _;rotate_left 1;intro _;rotate_left 1)
  |apply ax
  |(apply bw;kernel_rfl)
  |(apply dx;(first|(apply ab;apply Eq.refl)|(apply ae;apply Eq.refl;apply Eq.refl;apply Eq.refl));apply Eq.refl;first|(apply bB<;>apply Eq.refl)|(apply aW<;>apply Eq.refl)|(apply b6;apply Eq.refl)|(apply b7;apply Eq.refl)|(apply aN;intro _;(first|(apply aA<;>apply Eq.refl)|(apply aG<;>apply Eq.refl)|(apply aH<;>apply Eq.refl)|(apply aD<;>apply Eq.refl)|(apply aB<;>apply Eq.refl)|(apply aX<;>apply Eq.refl)|(apply bj<;>apply Eq.refl)|(apply cP<;>apply Eq.refl)|(apply di<;>apply Eq.refl)|(apply ah<;>(first|apply Eq.refl|omega))|(apply ba<;>apply Eq.refl)|(apply cu<;>apply Eq.refl)|(apply bR<;>apply Eq.refl)|(apply bX<;>apply Eq.refl)|(apply cq<;>(first|apply Eq.refl|omega))|(apply aq<;>apply Eq.refl)|(apply aM<;>apply Eq.refl)|(apply bJ<;>apply Eq.refl)|(apply cO<;>apply Eq.refl)|(apply dt<;>apply Eq.refl)|(apply dn<;>apply Eq.refl)|(apply dr<;>apply Eq.refl)|(apply eG<;>apply Eq.refl)|(apply cw<;>apply Eq.refl)|(apply fP;apply Eq.refl;apply Eq.refl;apply Eq.refl;(first|omega|decide);apply Eq.refl;apply Eq.refl;(first|omega|decide);apply Eq.refl;apply Eq.refl)|(apply cT;apply Eq.refl;apply Eq.refl;apply Eq.refl;apply Eq.refl;(first|omega|decide);apply Eq.refl;apply Eq.refl;(first|omega|decide);apply Eq.refl;apply Eq.refl))))
  |(apply fj;(first|(apply ab;apply Eq.refl)|(apply ae;apply Eq.refl;apply Eq.refl;apply Eq.refl));(first|(apply cJ<;>apply Eq.refl)|(apply dT<;>apply Eq.refl)|(apply g4<;>apply Eq.refl)))
  |(apply cM;apply Eq.refl;intro _;rotate_left 1;intro _;rotate_left 1)
  |(apply fq;apply Eq.refl;intro _;rotate_left 1;intro _;rotate_left 1)
  |(apply ox;apply Eq.refl;intro _;rotate_left 1;intro _;rotate_left 1)
  |(apply eR;apply Eq.refl;intro _;rotate_left 1;intro _;rotate_left 1))
 rotate_left 1
 ·have:=jg hk2 (by omega)
  exact⟨i+1,⟨by omega,gX hi2 hilt this⟩,by omega,(by apply bH;refine⟨?_, ?_, ?_, ?_, ?_⟩<;>repeat' (first|exact trivial|apply And.intro|apply Eq.refl|(apply gv;apply Eq.refl;first|omega|assumption)|(apply gL;apply Eq.refl;repeat' (first|apply Eq.refl|apply cd|(apply cf;first|apply Eq.refl|omega|assumption)))))⟩
 have hklt:k<c.trucks.length:=by omega
 have hp:pQ c m i k=(gC c.gap c.fails (c.trucks.getD i default) (c.trucks.getD k default) c.len m ra).map fun x=>{x with i:=i,k:=k}:=by unfold pQ;rfl
 have hT:=hc.r i hilt
 have hU:=hc.r k hklt
 have hg:1≤c.gap:=hc.ok.g1
 have hg2:c.gap≤100000:=hc.ok.g2
 refine jS (α:=Nat) (fun n=>[(1, .bx 1 1 0),(2, .bx 2 1 0),(3, .int .i64 0),(5, .int .i64 (eF c:Nat)),(6, .sl 2 c.trucks.length (fun i=>[HI (c.trucks.getD i default) c.len (eF c),HI (bb (c.trucks.getD i default) true) c.len (eF c)])),(9, .bx 9 (h 9+1) 0),(10, .int .i64 m),(11, .int .i64 i),(12, .int .i64 k),(13, .int .i64 n)]) (fun _=>[(1,1),(2,1),(9,h 9+1)])
  (fun _=>[(1, .box (aI c)),(2, .box (cI default)),(9, .box [.int .i64 0, .int .i64 0, .int .i64 1, .int .i64 0, .int .i64 0, .int .i64 1, .int .i64 1, .int .i64 1])])
  (fun n=>n≤4∧gC c.gap c.fails (c.trucks.getD i default) (c.trucks.getD k default) c.len m (ra.drop n)=gC c.gap c.fails (c.trucks.getD i default) (c.trucks.getD k default) c.len m ra) (fun n=>4-n) 0 ⟨Nat.zero_le _,rfl⟩ (by refine⟨?_, ?_, ?_⟩<;>repeat' (first|exact trivial|apply And.intro|apply Eq.refl)) (fun n h4 hn' => ?_)
 obtain⟨hn4,hi⟩:=hn'
 have cA:∀b:Bool,au cK 74 [.agg (aI c), .agg (bp (bb (c.trucks.getD i default) b)), .agg (bA (cY (bb (c.trucks.getD i default) b) c.len m)), .int .i64 m]
  (.tup [.agg (bA (bK (bb (c.trucks.getD i default) b) c.len (cY (bb (c.trucks.getD i default) b) c.len m) m).1), .bool (bK (bb (c.trucks.getD i default) b) c.len (cY (bb (c.trucks.getD i default) b) c.len m) m).2]):=fun b=>by
  have h:=hT.free b
  obtain⟨b1,b2,b3,_⟩:=jr h (m:=m)
  have:=h.l2
  exact R9 c _ _ m h.l1 h.l2 h.ho (by omega) (by omega)
 have cB:∀b:Bool,au cK 74 [.agg (aI c), .agg (bp (bb (c.trucks.getD k default) b)), .agg (bA (cY (bb (c.trucks.getD k default) b) c.len m)), .int .i64 m]
  (.tup [.agg (bA (bK (bb (c.trucks.getD k default) b) c.len (cY (bb (c.trucks.getD k default) b) c.len m) m).1), .bool (bK (bb (c.trucks.getD k default) b) c.len (cY (bb (c.trucks.getD k default) b) c.len m) m).2]):=fun b=>by
  have h:=hU.free b
  obtain⟨b1,b2,b3,_⟩:=jr h (m:=m)
  have:=h.l2
  exact R9 c _ _ m h.l1 h.l2 h.ho (by omega) (by omega)
 have cC:∀b:Bool,au cK 76 [.agg (aI c), .agg (bp (bb (c.trucks.getD i default) b)), .agg (bA (bK (bb (c.trucks.getD i default) b) c.len (cY (bb (c.trucks.getD i default) b) c.len m) m).1)]
  (.agg (bA (eW (bb (c.trucks.getD i default) b).way c.len (bK (bb (c.trucks.getD i default) b) c.len (cY (bb (c.trucks.getD i default) b) c.len m) m).1))):=fun b=>by
  obtain⟨⟨b1,b2⟩,b3,b4⟩:=mU (hT.free b) (m:=m)
  exact Sz c _ _ (by omega) (by omega) (by omega) (by omega) hT.l1 hT.l2
 have cD:∀b:Bool,au cK 76 [.agg (aI c), .agg (bp (bb (c.trucks.getD k default) b)), .agg (bA (bK (bb (c.trucks.getD k default) b) c.len (cY (bb (c.trucks.getD k default) b) c.len m) m).1)]
  (.agg (bA (eW (bb (c.trucks.getD k default) b).way c.len (bK (bb (c.trucks.getD k default) b) c.len (cY (bb (c.trucks.getD k default) b) c.len m) m).1))):=fun b=>by
  obtain⟨⟨b1,b2⟩,b3,b4⟩:=mU (hU.free b) (m:=m)
  exact Sz c _ _ (by omega) (by omega) (by omega) (by omega) hT.l1 hT.l2
 have cE:∀b b' :Bool,au cK 75 [.agg (bA (eW (bb (c.trucks.getD i default) b).way c.len (bK (bb (c.trucks.getD i default) b) c.len (cY (bb (c.trucks.getD i default) b) c.len m) m).1)), .agg (bA (eW (bb (c.trucks.getD k default) b').way c.len (bK (bb (c.trucks.getD k default) b') c.len (cY (bb (c.trucks.getD k default) b') c.len m) m).1)), .int .i64 c.gap] _:=fun b b' =>by
  obtain⟨x1,x2⟩:=mU (hT.free b) (m:=m)
  obtain⟨y1,y2⟩:=mU (hU.free b') (m:=m)
  have r1:=A9 (way:=(bb (c.trucks.getD i default) b).way) x1 x2 hT.l1 hT.l2
  have r2:=A9 (way:=(bb (c.trucks.getD k default) b').way) y1 y2 hT.l1 hT.l2
  exact TE _ _ c.gap r1.1 r1.2 r2.1 r2.2 (by omega) hg2
 obtain rfl|rfl|rfl|rfl|rfl:n=0∨n=1∨n=2∨n=3∨n=4:=by omega
 ·repeat' (first
  |(apply bU;apply Eq.refl;apply Eq.refl;(first|(apply aA<;>apply Eq.refl)|(apply aG<;>apply Eq.refl)|(apply aH<;>apply Eq.refl)|(apply aD<;>apply Eq.refl)|(apply aB<;>apply Eq.refl)|(apply aX<;>apply Eq.refl)|(apply bj<;>apply Eq.refl)|(apply cP<;>apply Eq.refl)|(apply di<;>apply Eq.refl)|(apply ah<;>(first|apply Eq.refl|omega))|(apply ba<;>apply Eq.refl)|(apply cu<;>apply Eq.refl)|(apply bR<;>apply Eq.refl)|(apply bX<;>apply Eq.refl)|(apply cq<;>(first|apply Eq.refl|omega))|(apply aq<;>apply Eq.refl)|(apply aM<;>apply Eq.refl)|(apply bJ<;>apply Eq.refl)|(apply cO<;>apply Eq.refl)|(apply dt<;>apply Eq.refl)|(apply dn<;>apply Eq.refl)|(apply dr<;>apply Eq.refl)|(apply eG<;>apply Eq.refl)|(apply cw<;>apply Eq.refl)|(apply fP;apply Eq.refl;apply Eq.refl;apply Eq.refl;(first|omega|decide);apply Eq.refl;apply Eq.refl;(first|omega|decide);apply Eq.refl;apply Eq.refl)|(apply cT;apply Eq.refl;apply Eq.refl;apply Eq.refl;apply Eq.refl;(first|omega|decide);apply Eq.refl;apply Eq.refl;(first|omega|decide);apply Eq.refl;apply Eq.refl)))
  |apply aZ
  |apply ak
  |apply an
  |apply aE
  |apply bn
  |apply cg
  |apply aF
  |apply cN
  |apply aw
  |apply aS
  |apply bf
  |apply aY
  |apply aR
  |(apply bu;apply Eq.refl)
  |(apply bD;apply Eq.refl)
  |(apply ay;apply Eq.refl;apply Eq.refl;rotate_left 1;apply Eq.refl;rotate_right 1;exact(zB (c.trucks.getD i default) false);apply Eq.refl)
  |(apply ay;apply Eq.refl;apply Eq.refl;rotate_left 1;apply Eq.refl;rotate_right 1;exact(zB (c.trucks.getD k default) false);apply Eq.refl)
  |(apply ay;apply Eq.refl;apply Eq.refl;rotate_left 1;apply Eq.refl;rotate_right 1;exact(cA false);apply Eq.refl)
  |(apply ay;apply Eq.refl;apply Eq.refl;rotate_left 1;apply Eq.refl;rotate_right 1;exact(cB false);apply Eq.refl)
  |(apply ay;apply Eq.refl;apply Eq.refl;rotate_left 1;apply Eq.refl;rotate_right 1;exact(cC false);apply Eq.refl)
  |(apply ay;apply Eq.refl;apply Eq.refl;rotate_left 1;apply Eq.refl;rotate_right 1;exact(cD false);apply Eq.refl)
  |(apply ay;apply Eq.refl;apply Eq.refl;rotate_left 1;apply Eq.refl;rotate_right 1;exact(cE false false);apply Eq.refl)
  |(apply bZ;apply Eq.refl;(first|(apply aT<;>apply Eq.refl)|(apply aO<;>apply Eq.refl)|(apply bM<;>apply Eq.refl)))
  |(apply dg;apply Eq.refl;apply Eq.refl;apply Eq.refl)
  |(apply eo;apply Eq.refl;apply Eq.refl;apply Eq.refl;apply Eq.refl;apply Eq.refl)
  |(apply rE;apply Eq.refl;apply Eq.refl;apply Eq.refl;intro _;rotate_left 1;intro _;rotate_left 1)
  |apply ax
  |(apply bw;kernel_rfl)
  |(apply dx;(first|(apply ab;apply Eq.refl)|(apply ae;apply Eq.refl;apply Eq.refl;apply Eq.refl));apply Eq.refl;first|(apply bB<;>apply Eq.refl)|(apply aW<;>apply Eq.refl)|(apply b6;apply Eq.refl)|(apply b7;apply Eq.refl)|(apply aN;intro _;(first|(apply aA<;>apply Eq.refl)|(apply aG<;>apply Eq.refl)|(apply aH<;>apply Eq.refl)|(apply aD<;>apply Eq.refl)|(apply aB<;>apply Eq.refl)|(apply aX<;>apply Eq.refl)|(apply bj<;>apply Eq.refl)|(apply cP<;>apply Eq.refl)|(apply di<;>apply Eq.refl)|(apply ah<;>(first|apply Eq.refl|omega))|(apply ba<;>apply Eq.refl)|(apply cu<;>apply Eq.refl)|(apply bR<;>apply Eq.refl)|(apply bX<;>apply Eq.refl)|(apply cq<;>(first|apply Eq.refl|omega))|(apply aq<;>apply Eq.refl)|(apply aM<;>apply Eq.refl)|(apply bJ<;>apply Eq.refl)|(apply cO<;>apply Eq.refl)|(apply dt<;>apply Eq.refl)|(apply dn<;>apply Eq.refl)|(apply dr<;>apply Eq.refl)|(apply eG<;>apply Eq.refl)|(apply cw<;>apply Eq.refl)|(apply fP;apply Eq.refl;apply Eq.refl;apply Eq.refl;(first|omega|decide);apply Eq.refl;apply Eq.refl;(first|omega|decide);apply Eq.refl;apply Eq.refl)|(apply cT;apply Eq.refl;apply Eq.refl;apply Eq.refl;apply Eq.refl;(first|omega|decide);apply Eq.refl;apply Eq.refl;(first|omega|decide);apply Eq.refl;apply Eq.refl))))
  |(apply az;(first|(apply ab;apply Eq.refl)|(apply ae;apply Eq.refl;apply Eq.refl;apply Eq.refl));apply Eq.refl;apply Eq.refl;apply Eq.refl;exact(zB (c.trucks.getD i default) false))
  |(apply az;(first|(apply ab;apply Eq.refl)|(apply ae;apply Eq.refl;apply Eq.refl;apply Eq.refl));apply Eq.refl;apply Eq.refl;apply Eq.refl;exact(zB (c.trucks.getD k default) false))
  |(apply az;(first|(apply ab;apply Eq.refl)|(apply ae;apply Eq.refl;apply Eq.refl;apply Eq.refl));apply Eq.refl;apply Eq.refl;apply Eq.refl;exact(cA false))
  |(apply az;(first|(apply ab;apply Eq.refl)|(apply ae;apply Eq.refl;apply Eq.refl;apply Eq.refl));apply Eq.refl;apply Eq.refl;apply Eq.refl;exact(cB false))
  |(apply az;(first|(apply ab;apply Eq.refl)|(apply ae;apply Eq.refl;apply Eq.refl;apply Eq.refl));apply Eq.refl;apply Eq.refl;apply Eq.refl;exact(cC false))
  |(apply az;(first|(apply ab;apply Eq.refl)|(apply ae;apply Eq.refl;apply Eq.refl;apply Eq.refl));apply Eq.refl;apply Eq.refl;apply Eq.refl;exact(cD false))
  |(apply az;(first|(apply ab;apply Eq.refl)|(apply ae;apply Eq.refl;apply Eq.refl;apply Eq.refl));apply Eq.refl;apply Eq.refl;apply Eq.refl;exact(cE false false))
  |(apply fj;(first|(apply ab;apply Eq.refl)|(apply ae;apply Eq.refl;apply Eq.refl;apply Eq.refl));(first|(apply cJ<;>apply Eq.refl)|(apply dT<;>apply Eq.refl)|(apply g4<;>apply Eq.refl)))
  |(apply cM;apply Eq.refl;intro _;rotate_left 1;intro _;rotate_left 1)
  |(apply fq;apply Eq.refl;intro _;rotate_left 1;intro _;rotate_left 1)
  |(apply ox;apply Eq.refl;intro _;rotate_left 1;intro _;rotate_left 1)
  |(apply eR;apply Eq.refl;intro _;rotate_left 1;intro _;rotate_left 1))
  ·rename_i a1
   exact⟨1,⟨by omega,g8 hi a1⟩,by omega,(by refine⟨?_, ?_, ?_⟩<;>repeat' (first|exact trivial|apply And.intro|apply Eq.refl))⟩
  ·rename_i a1 a2
   exact⟨1,⟨by omega,dQ hi a1 (by rw[←eE hT hU hg m (false,false),py a2])⟩,by omega,(by refine⟨?_, ?_, ?_⟩<;>repeat' (first|exact trivial|apply And.intro|apply Eq.refl))⟩
  ·rename_i a1 a2 a3
   exact⟨1,⟨by omega,dQ hi a1 (by rw[←eE hT hU hg m (false,false)];exact px a3)⟩,by omega,(by refine⟨?_, ?_, ?_⟩<;>repeat' (first|exact trivial|apply And.intro|apply Eq.refl))⟩
  ·rename_i a1 a2 a3 a4
   have e:=eE hT hU hg m (false,false)
   rw[gW a2 a3]at e
   have hM:=jw hi a1 (by rw[←e];exact a4)
   rw[←e]at hM
   rw[hM]at hp
   rw[dG hm2 hmlt (dG hi2 hilt (dG hk2 hklt hp))]
   ((try apply aL);first|(focus (apply fu;apply Eq.refl;(first|(apply eI;apply Eq.refl)|(apply ed<;>apply Eq.refl));(first|(apply eI;apply Eq.refl)|(apply ed<;>apply Eq.refl));all_goals try apply Eq.refl)))
  ·rename_i a1 a2 a3 a4
   have e:=eE hT hU hg m (false,false)
   rw[gW a2 a3]at e
   exact⟨1,⟨by omega,dQ hi a1 (by rw[←e];exact a4)⟩,by omega,(by refine⟨?_, ?_, ?_⟩<;>repeat' (first|exact trivial|apply And.intro|apply Eq.refl))⟩
 ·repeat' (first
  |(apply bU;apply Eq.refl;apply Eq.refl;(first|(apply aA<;>apply Eq.refl)|(apply aG<;>apply Eq.refl)|(apply aH<;>apply Eq.refl)|(apply aD<;>apply Eq.refl)|(apply aB<;>apply Eq.refl)|(apply aX<;>apply Eq.refl)|(apply bj<;>apply Eq.refl)|(apply cP<;>apply Eq.refl)|(apply di<;>apply Eq.refl)|(apply ah<;>(first|apply Eq.refl|omega))|(apply ba<;>apply Eq.refl)|(apply cu<;>apply Eq.refl)|(apply bR<;>apply Eq.refl)|(apply bX<;>apply Eq.refl)|(apply cq<;>(first|apply Eq.refl|omega))|(apply aq<;>apply Eq.refl)|(apply aM<;>apply Eq.refl)|(apply bJ<;>apply Eq.refl)|(apply cO<;>apply Eq.refl)|(apply dt<;>apply Eq.refl)|(apply dn<;>apply Eq.refl)|(apply dr<;>apply Eq.refl)|(apply eG<;>apply Eq.refl)|(apply cw<;>apply Eq.refl)|(apply fP;apply Eq.refl;apply Eq.refl;apply Eq.refl;(first|omega|decide);apply Eq.refl;apply Eq.refl;(first|omega|decide);apply Eq.refl;apply Eq.refl)|(apply cT;apply Eq.refl;apply Eq.refl;apply Eq.refl;apply Eq.refl;(first|omega|decide);apply Eq.refl;apply Eq.refl;(first|omega|decide);apply Eq.refl;apply Eq.refl)))
  |apply aZ
  |apply ak
  |apply an
  |apply aE
  |apply bn
  |apply cg
  |apply aF
  |apply cN
  |apply aw
  |apply aS
  |apply bf
  |apply aY
  |apply aR
  |(apply bu;apply Eq.refl)
  |(apply bD;apply Eq.refl)
  |(apply ay;apply Eq.refl;apply Eq.refl;rotate_left 1;apply Eq.refl;rotate_right 1;exact(zB (c.trucks.getD i default) true);apply Eq.refl)
  |(apply ay;apply Eq.refl;apply Eq.refl;rotate_left 1;apply Eq.refl;rotate_right 1;exact(zB (c.trucks.getD k default) false);apply Eq.refl)
  |(apply ay;apply Eq.refl;apply Eq.refl;rotate_left 1;apply Eq.refl;rotate_right 1;exact(cA true);apply Eq.refl)
  |(apply ay;apply Eq.refl;apply Eq.refl;rotate_left 1;apply Eq.refl;rotate_right 1;exact(cB false);apply Eq.refl)
  |(apply ay;apply Eq.refl;apply Eq.refl;rotate_left 1;apply Eq.refl;rotate_right 1;exact(cC true);apply Eq.refl)
  |(apply ay;apply Eq.refl;apply Eq.refl;rotate_left 1;apply Eq.refl;rotate_right 1;exact(cD false);apply Eq.refl)
  |(apply ay;apply Eq.refl;apply Eq.refl;rotate_left 1;apply Eq.refl;rotate_right 1;exact(cE true false);apply Eq.refl)
  |(apply bZ;apply Eq.refl;(first|(apply aT<;>apply Eq.refl)|(apply aO<;>apply Eq.refl)|(apply bM<;>apply Eq.refl)))
  |(apply dg;apply Eq.refl;apply Eq.refl;apply Eq.refl)
  |(apply eo;apply Eq.refl;apply Eq.refl;apply Eq.refl;apply Eq.refl;apply Eq.refl)
  |(apply rE;apply Eq.refl;apply Eq.refl;apply Eq.refl;intro _;rotate_left 1;intro _;rotate_left 1)
  |apply ax
  |(apply bw;kernel_rfl)
  |(apply dx;(first|(apply ab;apply Eq.refl)|(apply ae;apply Eq.refl;apply Eq.refl;apply Eq.refl));apply Eq.refl;first|(apply bB<;>apply Eq.refl)|(apply aW<;>apply Eq.refl)|(apply b6;apply Eq.refl)|(apply b7;apply Eq.refl)|(apply aN;intro _;(first|(apply aA<;>apply Eq.refl)|(apply aG<;>apply Eq.refl)|(apply aH<;>apply Eq.refl)|(apply aD<;>apply Eq.refl)|(apply aB<;>apply Eq.refl)|(apply aX<;>apply Eq.refl)|(apply bj<;>apply Eq.refl)|(apply cP<;>apply Eq.refl)|(apply di<;>apply Eq.refl)|(apply ah<;>(first|apply Eq.refl|omega))|(apply ba<;>apply Eq.refl)|(apply cu<;>apply Eq.refl)|(apply bR<;>apply Eq.refl)|(apply bX<;>apply Eq.refl)|(apply cq<;>(first|apply Eq.refl|omega))|(apply aq<;>apply Eq.refl)|(apply aM<;>apply Eq.refl)|(apply bJ<;>apply Eq.refl)|(apply cO<;>apply Eq.refl)|(apply dt<;>apply Eq.refl)|(apply dn<;>apply Eq.refl)|(apply dr<;>apply Eq.refl)|(apply eG<;>apply Eq.refl)|(apply cw<;>apply Eq.refl)|(apply fP;apply Eq.refl;apply Eq.refl;apply Eq.refl;(first|omega|decide);apply Eq.refl;apply Eq.refl;(first|omega|decide);apply Eq.refl;apply Eq.refl)|(apply cT;apply Eq.refl;apply Eq.refl;apply Eq.refl;apply Eq.refl;(first|omega|decide);apply Eq.refl;apply Eq.refl;(first|omega|decide);apply Eq.refl;apply Eq.refl))))
  |(apply az;(first|(apply ab;apply Eq.refl)|(apply ae;apply Eq.refl;apply Eq.refl;apply Eq.refl));apply Eq.refl;apply Eq.refl;apply Eq.refl;exact(zB (c.trucks.getD i default) true))
  |(apply az;(first|(apply ab;apply Eq.refl)|(apply ae;apply Eq.refl;apply Eq.refl;apply Eq.refl));apply Eq.refl;apply Eq.refl;apply Eq.refl;exact(zB (c.trucks.getD k default) false))
  |(apply az;(first|(apply ab;apply Eq.refl)|(apply ae;apply Eq.refl;apply Eq.refl;apply Eq.refl));apply Eq.refl;apply Eq.refl;apply Eq.refl;exact(cA true))
  |(apply az;(first|(apply ab;apply Eq.refl)|(apply ae;apply Eq.refl;apply Eq.refl;apply Eq.refl));apply Eq.refl;apply Eq.refl;apply Eq.refl;exact(cB false))
  |(apply az;(first|(apply ab;apply Eq.refl)|(apply ae;apply Eq.refl;apply Eq.refl;apply Eq.refl));apply Eq.refl;apply Eq.refl;apply Eq.refl;exact(cC true))
  |(apply az;(first|(apply ab;apply Eq.refl)|(apply ae;apply Eq.refl;apply Eq.refl;apply Eq.refl));apply Eq.refl;apply Eq.refl;apply Eq.refl;exact(cD false))
  |(apply az;(first|(apply ab;apply Eq.refl)|(apply ae;apply Eq.refl;apply Eq.refl;apply Eq.refl));apply Eq.refl;apply Eq.refl;apply Eq.refl;exact(cE true false))
  |(apply fj;(first|(apply ab;apply Eq.refl)|(apply ae;apply Eq.refl;apply Eq.refl;apply Eq.refl));(first|(apply cJ<;>apply Eq.refl)|(apply dT<;>apply Eq.refl)|(apply g4<;>apply Eq.refl)))
  |(apply cM;apply Eq.refl;intro _;rotate_left 1;intro _;rotate_left 1)
  |(apply fq;apply Eq.refl;intro _;rotate_left 1;intro _;rotate_left 1)
  |(apply ox;apply Eq.refl;intro _;rotate_left 1;intro _;rotate_left 1)
  |(apply eR;apply Eq.refl;intro _;rotate_left 1;intro _;rotate_left 1))
  ·rename_i a1
   exact⟨2,⟨by omega,g8 hi a1⟩,by omega,(by refine⟨?_, ?_, ?_⟩<;>repeat' (first|exact trivial|apply And.intro|apply Eq.refl))⟩
  ·rename_i a1 a2
   exact⟨2,⟨by omega,dQ hi a1 (by rw[←eE hT hU hg m (true,false),py a2])⟩,by omega,(by refine⟨?_, ?_, ?_⟩<;>repeat' (first|exact trivial|apply And.intro|apply Eq.refl))⟩
  ·rename_i a1 a2 a3
   exact⟨2,⟨by omega,dQ hi a1 (by rw[←eE hT hU hg m (true,false)];exact px a3)⟩,by omega,(by refine⟨?_, ?_, ?_⟩<;>repeat' (first|exact trivial|apply And.intro|apply Eq.refl))⟩
  ·rename_i a1 a2 a3 a4
   have e:=eE hT hU hg m (true,false)
   rw[gW a2 a3]at e
   have hM:=jw hi a1 (by rw[←e];exact a4)
   rw[←e]at hM
   rw[hM]at hp
   rw[dG hm2 hmlt (dG hi2 hilt (dG hk2 hklt hp))]
   ((try apply aL);first|(focus (apply fu;apply Eq.refl;(first|(apply eI;apply Eq.refl)|(apply ed<;>apply Eq.refl));(first|(apply eI;apply Eq.refl)|(apply ed<;>apply Eq.refl));all_goals try apply Eq.refl)))
  ·rename_i a1 a2 a3 a4
   have e:=eE hT hU hg m (true,false)
   rw[gW a2 a3]at e
   exact⟨2,⟨by omega,dQ hi a1 (by rw[←e];exact a4)⟩,by omega,(by refine⟨?_, ?_, ?_⟩<;>repeat' (first|exact trivial|apply And.intro|apply Eq.refl))⟩
 ·repeat' (first
  |(apply bU;apply Eq.refl;apply Eq.refl;(first|(apply aA<;>apply Eq.refl)|(apply aG<;>apply Eq.refl)|(apply aH<;>apply Eq.refl)|(apply aD<;>apply Eq.refl)|(apply aB<;>apply Eq.refl)|(apply aX<;>apply Eq.refl)|(apply bj<;>apply Eq.refl)|(apply cP<;>apply Eq.refl)|(apply di<;>apply Eq.refl)|(apply ah<;>(first|apply Eq.refl|omega))|(apply ba<;>apply Eq.refl)|(apply cu<;>apply Eq.refl)|(apply bR<;>apply Eq.refl)|(apply bX<;>apply Eq.refl)|(apply cq<;>(first|apply Eq.refl|omega))|(apply aq<;>apply Eq.refl)|(apply aM<;>apply Eq.refl)|(apply bJ<;>apply Eq.refl)|(apply cO<;>apply Eq.refl)|(apply dt<;>apply Eq.refl)|(apply dn<;>apply Eq.refl)|(apply dr<;>apply Eq.refl)|(apply eG<;>apply Eq.refl)|(apply cw<;>apply Eq.refl)|(apply fP;apply Eq.refl;apply Eq.refl;apply Eq.refl;(first|omega|decide);apply Eq.refl;apply Eq.refl;(first|omega|decide);apply Eq.refl;apply Eq.refl)|(apply cT;apply Eq.refl;apply Eq.refl;apply Eq.refl;apply Eq.refl;(first|omega|decide);apply Eq.refl;apply Eq.refl;(first|omega|decide);apply Eq.refl;apply Eq.refl)))
  |apply aZ
  |apply ak
  |apply an
  |apply aE
  |apply bn
  |apply cg
  |apply aF
  |apply cN
  |apply aw
  |apply aS
  |apply bf
  |apply aY
  |apply aR
  |(apply bu;apply Eq.refl)
  |(apply bD;apply Eq.refl)
  |(apply ay;apply Eq.refl;apply Eq.refl;rotate_left 1;apply Eq.refl;rotate_right 1;exact(zB (c.trucks.getD i default) false);apply Eq.refl)
  |(apply ay;apply Eq.refl;apply Eq.refl;rotate_left 1;apply Eq.refl;rotate_right 1;exact(zB (c.trucks.getD k default) true);apply Eq.refl)
  |(apply ay;apply Eq.refl;apply Eq.refl;rotate_left 1;apply Eq.refl;rotate_right 1;exact(cA false);apply Eq.refl)
  |(apply ay;apply Eq.refl;apply Eq.refl;rotate_left 1;apply Eq.refl;rotate_right 1;exact(cB true);apply Eq.refl)
  |(apply ay;apply Eq.refl;apply Eq.refl;rotate_left 1;apply Eq.refl;rotate_right 1;exact(cC false);apply Eq.refl)
  |(apply ay;apply Eq.refl;apply Eq.refl;rotate_left 1;apply Eq.refl;rotate_right 1;exact(cD true);apply Eq.refl)
  |(apply ay;apply Eq.refl;apply Eq.refl;rotate_left 1;apply Eq.refl;rotate_right 1;exact(cE false true);apply Eq.refl)
  |(apply bZ;apply Eq.refl;(first|(apply aT<;>apply Eq.refl)|(apply aO<;>apply Eq.refl)|(apply bM<;>apply Eq.refl)))
  |(apply dg;apply Eq.refl;apply Eq.refl;apply Eq.refl)
  |(apply eo;apply Eq.refl;apply Eq.refl;apply Eq.refl;apply Eq.refl;apply Eq.refl)
  |(apply rE;apply Eq.refl;apply Eq.refl;apply Eq.refl;intro _;rotate_left 1;intro _;rotate_left 1)
  |apply ax
  |(apply bw;kernel_rfl)
  |(apply dx;(first|(apply ab;apply Eq.refl)|(apply ae;apply Eq.refl;apply Eq.refl;apply Eq.refl));apply Eq.refl;first|(apply bB<;>apply Eq.refl)|(apply aW<;>apply Eq.refl)|(apply b6;apply Eq.refl)|(apply b7;apply Eq.refl)|(apply aN;intro _;(first|(apply aA<;>apply Eq.refl)|(apply aG<;>apply Eq.refl)|(apply aH<;>apply Eq.refl)|(apply aD<;>apply Eq.refl)|(apply aB<;>apply Eq.refl)|(apply aX<;>apply Eq.refl)|(apply bj<;>apply Eq.refl)|(apply cP<;>apply Eq.refl)|(apply di<;>apply Eq.refl)|(apply ah<;>(first|apply Eq.refl|omega))|(apply ba<;>apply Eq.refl)|(apply cu<;>apply Eq.refl)|(apply bR<;>apply Eq.refl)|(apply bX<;>apply Eq.refl)|(apply cq<;>(first|apply Eq.refl|omega))|(apply aq<;>apply Eq.refl)|(apply aM<;>apply Eq.refl)|(apply bJ<;>apply Eq.refl)|(apply cO<;>apply Eq.refl)|(apply dt<;>apply Eq.refl)|(apply dn<;>apply Eq.refl)|(apply dr<;>apply Eq.refl)|(apply eG<;>apply Eq.refl)|(apply cw<;>apply Eq.refl)|(apply fP;apply Eq.refl;apply Eq.refl;apply Eq.refl;(first|omega|decide);apply Eq.refl;apply Eq.refl;(first|omega|decide);apply Eq.refl;apply Eq.refl)|(apply cT;apply Eq.refl;apply Eq.refl;apply Eq.refl;apply Eq.refl;(first|omega|decide);apply Eq.refl;apply Eq.refl;(first|omega|decide);apply Eq.refl;apply Eq.refl))))
  |(apply az;(first|(apply ab;apply Eq.refl)|(apply ae;apply Eq.refl;apply Eq.refl;apply Eq.refl));apply Eq.refl;apply Eq.refl;apply Eq.refl;exact(zB (c.trucks.getD i default) false))
  |(apply az;(first|(apply ab;apply Eq.refl)|(apply ae;apply Eq.refl;apply Eq.refl;apply Eq.refl));apply Eq.refl;apply Eq.refl;apply Eq.refl;exact(zB (c.trucks.getD k default) true))
  |(apply az;(first|(apply ab;apply Eq.refl)|(apply ae;apply Eq.refl;apply Eq.refl;apply Eq.refl));apply Eq.refl;apply Eq.refl;apply Eq.refl;exact(cA false))
  |(apply az;(first|(apply ab;apply Eq.refl)|(apply ae;apply Eq.refl;apply Eq.refl;apply Eq.refl));apply Eq.refl;apply Eq.refl;apply Eq.refl;exact(cB true))
  |(apply az;(first|(apply ab;apply Eq.refl)|(apply ae;apply Eq.refl;apply Eq.refl;apply Eq.refl));apply Eq.refl;apply Eq.refl;apply Eq.refl;exact(cC false))
  |(apply az;(first|(apply ab;apply Eq.refl)|(apply ae;apply Eq.refl;apply Eq.refl;apply Eq.refl));apply Eq.refl;apply Eq.refl;apply Eq.refl;exact(cD true))
  |(apply az;(first|(apply ab;apply Eq.refl)|(apply ae;apply Eq.refl;apply Eq.refl;apply Eq.refl));apply Eq.refl;apply Eq.refl;apply Eq.refl;exact(cE false true))
  |(apply fj;(first|(apply ab;apply Eq.refl)|(apply ae;apply Eq.refl;apply Eq.refl;apply Eq.refl));(first|(apply cJ<;>apply Eq.refl)|(apply dT<;>apply Eq.refl)|(apply g4<;>apply Eq.refl)))
  |(apply cM;apply Eq.refl;intro _;rotate_left 1;intro _;rotate_left 1)
  |(apply fq;apply Eq.refl;intro _;rotate_left 1;intro _;rotate_left 1)
  |(apply ox;apply Eq.refl;intro _;rotate_left 1;intro _;rotate_left 1)
  |(apply eR;apply Eq.refl;intro _;rotate_left 1;intro _;rotate_left 1))
  ·rename_i a1
   exact⟨3,⟨by omega,g8 hi a1⟩,by omega,(by refine⟨?_, ?_, ?_⟩<;>repeat' (first|exact trivial|apply And.intro|apply Eq.refl))⟩
  ·rename_i a1 a2
   exact⟨3,⟨by omega,dQ hi a1 (by rw[←eE hT hU hg m (false,true),py a2])⟩,by omega,(by refine⟨?_, ?_, ?_⟩<;>repeat' (first|exact trivial|apply And.intro|apply Eq.refl))⟩
  ·rename_i a1 a2 a3
   exact⟨3,⟨by omega,dQ hi a1 (by rw[←eE hT hU hg m (false,true)];exact px a3)⟩,by omega,(by refine⟨?_, ?_, ?_⟩<;>repeat' (first|exact trivial|apply And.intro|apply Eq.refl))⟩
  ·rename_i a1 a2 a3 a4
   have e:=eE hT hU hg m (false,true)
   rw[gW a2 a3]at e
   have hM:=jw hi a1 (by rw[←e];exact a4)
   rw[←e]at hM
   rw[hM]at hp
   rw[dG hm2 hmlt (dG hi2 hilt (dG hk2 hklt hp))]
   ((try apply aL);first|(focus (apply fu;apply Eq.refl;(first|(apply eI;apply Eq.refl)|(apply ed<;>apply Eq.refl));(first|(apply eI;apply Eq.refl)|(apply ed<;>apply Eq.refl));all_goals try apply Eq.refl)))
  ·rename_i a1 a2 a3 a4
   have e:=eE hT hU hg m (false,true)
   rw[gW a2 a3]at e
   exact⟨3,⟨by omega,dQ hi a1 (by rw[←e];exact a4)⟩,by omega,(by refine⟨?_, ?_, ?_⟩<;>repeat' (first|exact trivial|apply And.intro|apply Eq.refl))⟩
 ·repeat' (first
  |(apply bU;apply Eq.refl;apply Eq.refl;(first|(apply aA<;>apply Eq.refl)|(apply aG<;>apply Eq.refl)|(apply aH<;>apply Eq.refl)|(apply aD<;>apply Eq.refl)|(apply aB<;>apply Eq.refl)|(apply aX<;>apply Eq.refl)|(apply bj<;>apply Eq.refl)|(apply cP<;>apply Eq.refl)|(apply di<;>apply Eq.refl)|(apply ah<;>(first|apply Eq.refl|omega))|(apply ba<;>apply Eq.refl)|(apply cu<;>apply Eq.refl)|(apply bR<;>apply Eq.refl)|(apply bX<;>apply Eq.refl)|(apply cq<;>(first|apply Eq.refl|omega))|(apply aq<;>apply Eq.refl)|(apply aM<;>apply Eq.refl)|(apply bJ<;>apply Eq.refl)|(apply cO<;>apply Eq.refl)|(apply dt<;>apply Eq.refl)|(apply dn<;>apply Eq.refl)|(apply dr<;>apply Eq.refl)|(apply eG<;>apply Eq.refl)|(apply cw<;>apply Eq.refl)|(apply fP;apply Eq.refl;apply Eq.refl;apply Eq.refl;(first|omega|decide);apply Eq.refl;apply Eq.refl;(first|omega|decide);apply Eq.refl;apply Eq.refl)|(apply cT;apply Eq.refl;apply Eq.refl;apply Eq.refl;apply Eq.refl;(first|omega|decide);apply Eq.refl;apply Eq.refl;(first|omega|decide);apply Eq.refl;apply Eq.refl)))
  |apply aZ
  |apply ak
  |apply an
  |apply aE
  |apply bn
  |apply cg
  |apply aF
  |apply cN
  |apply aw
  |apply aS
  |apply bf
  |apply aY
  |apply aR
  |(apply bu;apply Eq.refl)
  |(apply bD;apply Eq.refl)
  |(apply ay;apply Eq.refl;apply Eq.refl;rotate_left 1;apply Eq.refl;rotate_right 1;exact(zB (c.trucks.getD i default) true);apply Eq.refl)
  |(apply ay;apply Eq.refl;apply Eq.refl;rotate_left 1;apply Eq.refl;rotate_right 1;exact(zB (c.trucks.getD k default) true);apply Eq.refl)
  |(apply ay;apply Eq.refl;apply Eq.refl;rotate_left 1;apply Eq.refl;rotate_right 1;exact(cA true);apply Eq.refl)
  |(apply ay;apply Eq.refl;apply Eq.refl;rotate_left 1;apply Eq.refl;rotate_right 1;exact(cB true);apply Eq.refl)
  |(apply ay;apply Eq.refl;apply Eq.refl;rotate_left 1;apply Eq.refl;rotate_right 1;exact(cC true);apply Eq.refl)
  |(apply ay;apply Eq.refl;apply Eq.refl;rotate_left 1;apply Eq.refl;rotate_right 1;exact(cD true);apply Eq.refl)
  |(apply ay;apply Eq.refl;apply Eq.refl;rotate_left 1;apply Eq.refl;rotate_right 1;exact(cE true true);apply Eq.refl)
  |(apply bZ;apply Eq.refl;(first|(apply aT<;>apply Eq.refl)|(apply aO<;>apply Eq.refl)|(apply bM<;>apply Eq.refl)))
  |(apply dg;apply Eq.refl;apply Eq.refl;apply Eq.refl)
  |(apply eo;apply Eq.refl;apply Eq.refl;apply Eq.refl;apply Eq.refl;apply Eq.refl)
  |(apply rE;apply Eq.refl;apply Eq.refl;apply Eq.refl;intro _;rotate_left 1;intro _;rotate_left 1)
  |apply ax
  |(apply bw;kernel_rfl)
  |(apply dx;(first|(apply ab;apply Eq.refl)|(apply ae;apply Eq.refl;apply Eq.refl;apply Eq.refl));apply Eq.refl;first|(apply bB<;>apply Eq.refl)|(apply aW<;>apply Eq.refl)|(apply b6;apply Eq.refl)|(apply b7;apply Eq.refl)|(apply aN;intro _;(first|(apply aA<;>apply Eq.refl)|(apply aG<;>apply Eq.refl)|(apply aH<;>apply Eq.refl)|(apply aD<;>apply Eq.refl)|(apply aB<;>apply Eq.refl)|(apply aX<;>apply Eq.refl)|(apply bj<;>apply Eq.refl)|(apply cP<;>apply Eq.refl)|(apply di<;>apply Eq.refl)|(apply ah<;>(first|apply Eq.refl|omega))|(apply ba<;>apply Eq.refl)|(apply cu<;>apply Eq.refl)|(apply bR<;>apply Eq.refl)|(apply bX<;>apply Eq.refl)|(apply cq<;>(first|apply Eq.refl|omega))|(apply aq<;>apply Eq.refl)|(apply aM<;>apply Eq.refl)|(apply bJ<;>apply Eq.refl)|(apply cO<;>apply Eq.refl)|(apply dt<;>apply Eq.refl)|(apply dn<;>apply Eq.refl)|(apply dr<;>apply Eq.refl)|(apply eG<;>apply Eq.refl)|(apply cw<;>apply Eq.refl)|(apply fP;apply Eq.refl;apply Eq.refl;apply Eq.refl;(first|omega|decide);apply Eq.refl;apply Eq.refl;(first|omega|decide);apply Eq.refl;apply Eq.refl)|(apply cT;apply Eq.refl;apply Eq.refl;apply Eq.refl;apply Eq.refl;(first|omega|decide);apply Eq.refl;apply Eq.refl;(first|omega|decide);apply Eq.refl;apply Eq.refl))))
  |(apply az;(first|(apply ab;apply Eq.refl)|(apply ae;apply Eq.refl;apply Eq.refl;apply Eq.refl));apply Eq.refl;apply Eq.refl;apply Eq.refl;exact(zB (c.trucks.getD i default) true))
  |(apply az;(first|(apply ab;apply Eq.refl)|(apply ae;apply Eq.refl;apply Eq.refl;apply Eq.refl));apply Eq.refl;apply Eq.refl;apply Eq.refl;exact(zB (c.trucks.getD k default) true))
  |(apply az;(first|(apply ab;apply Eq.refl)|(apply ae;apply Eq.refl;apply Eq.refl;apply Eq.refl));apply Eq.refl;apply Eq.refl;apply Eq.refl;exact(cA true))
  |(apply az;(first|(apply ab;apply Eq.refl)|(apply ae;apply Eq.refl;apply Eq.refl;apply Eq.refl));apply Eq.refl;apply Eq.refl;apply Eq.refl;exact(cB true))
  |(apply az;(first|(apply ab;apply Eq.refl)|(apply ae;apply Eq.refl;apply Eq.refl;apply Eq.refl));apply Eq.refl;apply Eq.refl;apply Eq.refl;exact(cC true))
  |(apply az;(first|(apply ab;apply Eq.refl)|(apply ae;apply Eq.refl;apply Eq.refl;apply Eq.refl));apply Eq.refl;apply Eq.refl;apply Eq.refl;exact(cD true))
  |(apply az;(first|(apply ab;apply Eq.refl)|(apply ae;apply Eq.refl;apply Eq.refl;apply Eq.refl));apply Eq.refl;apply Eq.refl;apply Eq.refl;exact(cE true true))
  |(apply fj;(first|(apply ab;apply Eq.refl)|(apply ae;apply Eq.refl;apply Eq.refl;apply Eq.refl));(first|(apply cJ<;>apply Eq.refl)|(apply dT<;>apply Eq.refl)|(apply g4<;>apply Eq.refl)))
  |(apply cM;apply Eq.refl;intro _;rotate_left 1;intro _;rotate_left 1)
  |(apply fq;apply Eq.refl;intro _;rotate_left 1;intro _;rotate_left 1)
  |(apply ox;apply Eq.refl;intro _;rotate_left 1;intro _;rotate_left 1)
  |(apply eR;apply Eq.refl;intro _;rotate_left 1;intro _;rotate_left 1))
  ·rename_i a1
   exact⟨4,⟨by omega,g8 hi a1⟩,by omega,(by refine⟨?_, ?_, ?_⟩<;>repeat' (first|exact trivial|apply And.intro|apply Eq.refl))⟩
  ·rename_i a1 a2
   exact⟨4,⟨by omega,dQ hi a1 (by rw[←eE hT hU hg m (true,true),py a2])⟩,by omega,(by refine⟨?_, ?_, ?_⟩<;>repeat' (first|exact trivial|apply And.intro|apply Eq.refl))⟩
  ·rename_i a1 a2 a3
   exact⟨4,⟨by omega,dQ hi a1 (by rw[←eE hT hU hg m (true,true)];exact px a3)⟩,by omega,(by refine⟨?_, ?_, ?_⟩<;>repeat' (first|exact trivial|apply And.intro|apply Eq.refl))⟩
  ·rename_i a1 a2 a3 a4
   have e:=eE hT hU hg m (true,true)
   rw[gW a2 a3]at e
   have hM:=jw hi a1 (by rw[←e];exact a4)
   rw[←e]at hM
   rw[hM]at hp
   rw[dG hm2 hmlt (dG hi2 hilt (dG hk2 hklt hp))]
   ((try apply aL);first|(focus (apply fu;apply Eq.refl;(first|(apply eI;apply Eq.refl)|(apply ed<;>apply Eq.refl));(first|(apply eI;apply Eq.refl)|(apply ed<;>apply Eq.refl));all_goals try apply Eq.refl)))
  ·rename_i a1 a2 a3 a4
   have e:=eE hT hU hg m (true,true)
   rw[gW a2 a3]at e
   exact⟨4,⟨by omega,dQ hi a1 (by rw[←e];exact a4)⟩,by omega,(by refine⟨?_, ?_, ?_⟩<;>repeat' (first|exact trivial|apply And.intro|apply Eq.refl))⟩
 ·rw[←hi]at hp
  repeat' (first
  |(apply bU;apply Eq.refl;apply Eq.refl;(first|(apply aA<;>apply Eq.refl)|(apply aG<;>apply Eq.refl)|(apply aH<;>apply Eq.refl)|(apply aD<;>apply Eq.refl)|(apply aB<;>apply Eq.refl)|(apply aX<;>apply Eq.refl)|(apply bj<;>apply Eq.refl)|(apply cP<;>apply Eq.refl)|(apply di<;>apply Eq.refl)|(apply ah<;>(first|apply Eq.refl|omega))|(apply ba<;>apply Eq.refl)|(apply cu<;>apply Eq.refl)|(apply bR<;>apply Eq.refl)|(apply bX<;>apply Eq.refl)|(apply cq<;>(first|apply Eq.refl|omega))|(apply aq<;>apply Eq.refl)|(apply aM<;>apply Eq.refl)|(apply bJ<;>apply Eq.refl)|(apply cO<;>apply Eq.refl)|(apply dt<;>apply Eq.refl)|(apply dn<;>apply Eq.refl)|(apply dr<;>apply Eq.refl)|(apply eG<;>apply Eq.refl)|(apply cw<;>apply Eq.refl)|(apply fP;apply Eq.refl;apply Eq.refl;apply Eq.refl;(first|omega|decide);apply Eq.refl;apply Eq.refl;(first|omega|decide);apply Eq.refl;apply Eq.refl)|(apply cT;apply Eq.refl;apply Eq.refl;apply Eq.refl;apply Eq.refl;(first|omega|decide);apply Eq.refl;apply Eq.refl;(first|omega|decide);apply Eq.refl;apply Eq.refl)))
  |apply aZ
  |apply ak
  |apply an
  |apply aE
  |apply bn
  |apply cg
  |apply aF
  |apply cN
  |apply aw
  |apply aS
  |apply bf
  |apply aY
  |apply aR
  |(apply bu;apply Eq.refl)
  |(apply bD;apply Eq.refl)
  |(apply bZ;apply Eq.refl;(first|(apply aT<;>apply Eq.refl)|(apply aO<;>apply Eq.refl)|(apply bM<;>apply Eq.refl)))
  |(apply dg;apply Eq.refl;apply Eq.refl;apply Eq.refl)
  |(apply eo;apply Eq.refl;apply Eq.refl;apply Eq.refl;apply Eq.refl;apply Eq.refl)
  |(apply rE;apply Eq.refl;apply Eq.refl;apply Eq.refl;intro _;rotate_left 1;intro _;rotate_left 1)
  |apply ax
  |(apply bw;kernel_rfl)
  |(apply dx;(first|(apply ab;apply Eq.refl)|(apply ae;apply Eq.refl;apply Eq.refl;apply Eq.refl));apply Eq.refl;first|(apply bB<;>apply Eq.refl)|(apply aW<;>apply Eq.refl)|(apply b6;apply Eq.refl)|(apply b7;apply Eq.refl)|(apply aN;intro _;(first|(apply aA<;>apply Eq.refl)|(apply aG<;>apply Eq.refl)|(apply aH<;>apply Eq.refl)|(apply aD<;>apply Eq.refl)|(apply aB<;>apply Eq.refl)|(apply aX<;>apply Eq.refl)|(apply bj<;>apply Eq.refl)|(apply cP<;>apply Eq.refl)|(apply di<;>apply Eq.refl)|(apply ah<;>(first|apply Eq.refl|omega))|(apply ba<;>apply Eq.refl)|(apply cu<;>apply Eq.refl)|(apply bR<;>apply Eq.refl)|(apply bX<;>apply Eq.refl)|(apply cq<;>(first|apply Eq.refl|omega))|(apply aq<;>apply Eq.refl)|(apply aM<;>apply Eq.refl)|(apply bJ<;>apply Eq.refl)|(apply cO<;>apply Eq.refl)|(apply dt<;>apply Eq.refl)|(apply dn<;>apply Eq.refl)|(apply dr<;>apply Eq.refl)|(apply eG<;>apply Eq.refl)|(apply cw<;>apply Eq.refl)|(apply fP;apply Eq.refl;apply Eq.refl;apply Eq.refl;(first|omega|decide);apply Eq.refl;apply Eq.refl;(first|omega|decide);apply Eq.refl;apply Eq.refl)|(apply cT;apply Eq.refl;apply Eq.refl;apply Eq.refl;apply Eq.refl;(first|omega|decide);apply Eq.refl;apply Eq.refl;(first|omega|decide);apply Eq.refl;apply Eq.refl))))
  |(apply fj;(first|(apply ab;apply Eq.refl)|(apply ae;apply Eq.refl;apply Eq.refl;apply Eq.refl));(first|(apply cJ<;>apply Eq.refl)|(apply dT<;>apply Eq.refl)|(apply g4<;>apply Eq.refl)))
  |(apply cM;apply Eq.refl;intro _;rotate_left 1;intro _;rotate_left 1)
  |(apply fq;apply Eq.refl;intro _;rotate_left 1;intro _;rotate_left 1)
  |(apply ox;apply Eq.refl;intro _;rotate_left 1;intro _;rotate_left 1)
  |(apply eR;apply Eq.refl;intro _;rotate_left 1;intro _;rotate_left 1))
  exact⟨k+1,⟨by omega,by omega,gX hk2 hklt hp⟩,by omega,(by apply bH;refine⟨?_, ?_, ?_, ?_, ?_⟩<;>repeat' (first|exact trivial|apply And.intro|apply Eq.refl|(apply gv;apply Eq.refl;first|omega|assumption)|(apply gL;apply Eq.refl;repeat' (first|apply Eq.refl|apply cd|(apply cf;first|apply Eq.refl|omega|assumption)))))⟩
end Go.Proofs.YtafnhieaeejlcaaDoor
namespace Go.Ab
open Go Go.RowKit
section
variable {X:Ctx} {Q:Exit→St→Prop} {S T0:St} {ops:Array Oper} {o:Oper} {rest:List Oper} {S0:St} {E:List Ent} {V:List Vl}
end
end Go.Ab
