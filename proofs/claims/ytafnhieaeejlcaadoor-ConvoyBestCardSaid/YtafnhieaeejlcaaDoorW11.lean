/- Walks by computing: what each function of the program that the laws reach gives for what it gets, as plain Lean, and that it is so; without a condition but those that stand in each theorem. -/
import Derived.Test.YtafnhieaeejlcaaDoorW1
import Derived.Test.YtafnhieaeejlcaaDoorW2
import Derived.Test.YtafnhieaeejlcaaDoorW3
import Derived.Test.YtafnhieaeejlcaaDoorW4
import Derived.Test.YtafnhieaeejlcaaDoorW5
import Derived.Test.YtafnhieaeejlcaaDoorW6
import Derived.Test.YtafnhieaeejlcaaDoorW7
import Derived.Test.YtafnhieaeejlcaaDoorW8
import Derived.Test.YtafnhieaeejlcaaDoorW9
import Derived.Test.YtafnhieaeejlcaaDoorW10
set_option linter.all false
namespace Go.Proofs.YtafnhieaeejlcaaDoor
open Go Go.Ab
set_option maxRecDepth 100000
set_option maxHeartbeats 4000000
attribute [local irreducible] W WL eu kX fh eo gR WG FQ Want jO WI pM fQ eC
theorem Su(t:Truck)(len:Int)(h:fc len t):au cJ 98 [.agg (dj t len)] (.int .i64 (t.start+cn t len t.lo)):=by
 have hn:=(fa h (Int.le_refl t.lo)).2.2
 have s1:=h.s1
 have s2:=h.s2
 refine aD (fn:=Tryd.f98) Tryd.func98 rfl (by kernel_rfl) rfl ?_ ?_ ?_
 ·exact af.cons (.agg _ (ff t len)) af.nil
 ·exact .int _ _
 intro w κ
 repeat' (first
  |(apply bT;apply TK;apply TK;(first|(apply aI<;>apply TK)|(apply aH<;>apply TK)|(apply aE<;>apply TK)|(apply ah<;>(first|apply TK|omega))|(apply bd<;>apply TK)))
  |apply ba
  |apply al
  |apply an
  |apply aG
  |apply aZ
  |(apply bZ;apply TK;(first|(apply aR<;>apply TK))))
 ((try apply aM);first|(apply fb;apply TK;apply TK;try apply TK))
 push_cast;omega
theorem Ra(x:Span)(t:Truck)(len:Int):au cJ 124 [.agg (bC x), .rp (dj t len) 0] (.bool (decide (x.hi=len))):=by
 refine aD (fn:=Tryd.f124) Tryd.func124 rfl (by kernel_rfl) rfl ?_ ?_ ?_
 ·exact af.cons (.agg _ (cN x)) (af.cons (.rp _ _ (ff t len)) af.nil)
 ·exact .bool _
 intro w κ
 repeat' (first
  |(apply bT;apply TK;apply TK;(first|(apply aH<;>apply TK)|(apply aE<;>apply TK)|(apply aC<;>apply TK)|(apply bm<;>apply TK)|(apply di<;>apply TK)|(apply iP<;>apply TK)))
  |apply ba
  |apply al
  |apply an
  |apply aG
  |apply aZ
  |(apply bZ;apply TK;(first|(apply aR<;>apply TK))))
 ((try apply aM);first|(apply iE;apply TK;apply TK;try apply TK))
def kR(p:Nat→Bool):Nat→Nat→Int
 |0,_=> -1
 |f+1,k=>if p k then k else kR p f (k+1)
theorem Cn{p:Nat→Bool}{n k:Nat}{r:Int}(hi:kR p (n-k) k=r)(h:¬k<n): -1=r:=by rw[←hi,show n-k=0 by omega];rfl
theorem B3{p:Nat→Bool}{n k:Nat}{r:Int}(hi:kR p (n-k) k=r)(h:k<n)(hp:p k=true):(k:Int)=r:=by
 rw[←hi,show n-k=(n-(k+1))+1 by omega,kR,if_pos hp]
theorem zg{p:Nat→Bool}{n k:Nat}{r:Int}(hi:kR p (n-k) k=r)(h:k<n)(hp:p k=false):kR p (n-(k+1)) (k+1)=r:=by
 rw[←hi,show n-k=(n-(k+1))+1 by omega,kR,hp];rfl
theorem yF{p:Nat→Bool}{K:Nat}(hK:p K=true)(h:∀j,j<K→p j=false):∀(f k:Nat),k≤K→K<k+f→kR p f k=K
 |0,k,h1,h2=>by omega
 |f+1,k,h1,h2=>by
  simp only[kR]
  by_cases e:k=K
  ·subst e;rw[if_pos hK]
  ·rw[h k (by omega)];exact yF hK h f (k+1) (by omega) (by omega)
theorem Rb(g:Nat→Span)(n:Nat)(hn:n≤100000)(f:FuncId)(c:List D)(p:Span→Bool)(hf:∀x,au cJ f ([.agg (bC x)]++c) (.bool (p x))):
 au cJ 123 [.sl 2 n (fun k=>bC (g k)), .fn f c] (.int .i64 (kR (fun k=>p (g k)) n 0)):=by
 have hpc:af c:=fun d hd=>(hf default).pureA d (by simp[hd])
 refine aD (fn:=Tryd.f123) Tryd.func123 rfl (by kernel_rfl) rfl ?_ ?_ ?_
 ·exact af.cons (.sl _ _ _ fun _ _ d hd=>cN _ d hd) (af.cons (.fn _ _ hpc) af.nil)
 ·exact .int _ _
 intro w κ
 repeat' (first
  |(apply bT;apply TK;apply TK;(first|(apply aB<;>apply TK)|(apply aI<;>apply TK)|(apply aC<;>apply TK)|(apply ah<;>(first|apply TK|omega))|(apply bd<;>apply TK)|(apply cq<;>(first|apply TK|omega))|(apply aN<;>apply TK)|(apply cQ<;>apply TK)|(apply Mc<;>apply TK)))
  |apply ba
  |apply al
  |apply an
  |apply aG
  |apply bp
  |apply ck
  |apply aF
  |apply cP
  |apply aw
  |apply aS
  |apply bk
  |apply aZ
  |apply aQ
  |(apply cM;apply TK;intro _;rotate_left 1;intro _;rotate_left 1)
  |(apply eR;apply TK;intro _;rotate_left 1;intro _;rotate_left 1))
 refine dJ [0,1,7] [] (fun k:Nat=>[(8, .int .i64 k)]) (fun _=>[]) (fun _=>[]) (fun k=>k≤n∧kR (fun k=>p (g k)) (n-k) k=kR (fun k=>p (g k)) n 0) (fun k=>n-k) 0 ⟨Nat.zero_le _,rfl⟩ (by refine⟨?_, ?_, ?_⟩<;>repeat' (first|exact trivial|apply And.intro|apply TK|(apply gz;apply TK;first|omega|assumption)|(apply gL;apply TK;repeat' (first|apply TK|apply cf|(apply cj;first|apply TK|omega|assumption))))) (fun k h hi=> ?_)
 have hk:=hi.1
 repeat' (first
  |(apply bT;apply TK;apply TK;(first|(apply aB<;>apply TK)|(apply aI<;>apply TK)|(apply aC<;>apply TK)|(apply ah<;>(first|apply TK|omega))|(apply bd<;>apply TK)|(apply cq<;>(first|apply TK|omega))|(apply aN<;>apply TK)|(apply cQ<;>apply TK)|(apply Mc<;>apply TK)))
  |apply ba
  |apply al
  |apply an
  |apply aG
  |apply bp
  |apply ck
  |apply aF
  |apply cP
  |apply aw
  |apply aS
  |apply bk
  |apply aZ
  |apply aQ
  |(apply H6;apply TK;apply TK;apply TK;exact(hf (g (k:Int).toNat));(focus ((repeat' (first|exact je.nil|refine je.cons _ _ _ _ ?_ ?_|exact Fz.os _ _ _ _ _ _ rfl rfl|exact Fz.bx _ _ _ _ rfl rfl|refine Fz.fn _ _ _ ?_|exact Fz.same _|exact dn _ _));done));apply TK;apply TK)
  |(apply cM;apply TK;intro _;rotate_left 1;intro _;rotate_left 1)
  |(apply eR;apply TK;intro _;rotate_left 1;intro _;rotate_left 1))
 all_goals try simp only[Int.toNat_natCast]at*
 all_goals first
  |(refine⟨k+1,⟨by omega,zg hi.2 (by omega) (by assumption)⟩,by omega,(by apply bJ;refine⟨?_, ?_, ?_, ?_, ?_⟩<;>repeat' (first|exact trivial|apply And.intro|apply TK|(apply gz;apply TK;first|omega|assumption)|(apply gL;apply TK;repeat' (first|apply TK|apply cf|(apply cj;first|apply TK|omega|assumption)))))⟩;done)
  |(((try apply aM);first|(apply fb;apply TK;apply TK;try apply TK));exact B3 hi.2 (by omega) (by assumption))
  |(((try apply aM);first|(apply fb;apply TK;apply TK;try apply TK));exact Cn hi.2 (by omega))
theorem RL(g:Nat→Int)(n:Nat)(hn:n≤100000)(v:Int):au cJ 113 [.sl 1 n (fun k=>fU (g k)), .int .i64 v] (.int .i64 (kR (fun k=>decide (v=g k)) n 0)):=by
 refine aD (fn:=Tryd.f113) Tryd.func113 rfl (by kernel_rfl) rfl ?_ ?_ ?_
 ·exact af.cons (.sl _ _ _ fun _ _ d hd=>A5 _ d hd) (af.cons (.int _ _) af.nil)
 ·exact .int _ _
 intro w κ
 repeat' (first
  |(apply bT;apply TK;apply TK;(first|(apply aB<;>apply TK)|(apply aI<;>apply TK)|(apply aC<;>apply TK)|(apply di<;>apply TK)|(apply ah<;>(first|apply TK|omega))|(apply bd<;>apply TK)|(apply cq<;>(first|apply TK|omega))|(apply cQ<;>apply TK)))
  |apply ba
  |apply al
  |apply an
  |apply aG
  |apply bp
  |apply ck
  |apply aF
  |apply cP
  |apply aw
  |apply aS
  |apply bk
  |apply aZ
  |apply aQ
  |(apply cM;apply TK;intro _;rotate_left 1;intro _;rotate_left 1))
 refine dJ [0,1,7] [] (fun k:Nat=>[(8, .int .i64 k)]) (fun _=>[]) (fun _=>[]) (fun k=>k≤n∧kR (fun k=>decide (v=g k)) (n-k) k=kR (fun k=>decide (v=g k)) n 0) (fun k=>n-k) 0 ⟨Nat.zero_le _,rfl⟩ (by refine⟨?_, ?_, ?_⟩<;>repeat' (first|exact trivial|apply And.intro|apply TK|(apply gz;apply TK;first|omega|assumption)|(apply gL;apply TK;repeat' (first|apply TK|apply cf|(apply cj;first|apply TK|omega|assumption))))) (fun k h hi=> ?_)
 have hk:=hi.1
 repeat' (first
  |(apply bT;apply TK;apply TK;(first|(apply aB<;>apply TK)|(apply aI<;>apply TK)|(apply aC<;>apply TK)|(apply di<;>apply TK)|(apply ah<;>(first|apply TK|omega))|(apply bd<;>apply TK)|(apply cq<;>(first|apply TK|omega))|(apply cQ<;>apply TK)))
  |apply ba
  |apply al
  |apply an
  |apply aG
  |apply bp
  |apply ck
  |apply aF
  |apply cP
  |apply aw
  |apply aS
  |apply bk
  |apply aZ
  |apply aQ
  |(apply cM;apply TK;intro _;rotate_left 1;intro _;rotate_left 1))
 all_goals try simp only[Int.toNat_natCast]at*
 all_goals first
  |(refine⟨k+1,⟨by omega,zg hi.2 (by omega) (by simp;assumption)⟩,by omega,(by apply bJ;refine⟨?_, ?_, ?_, ?_, ?_⟩<;>repeat' (first|exact trivial|apply And.intro|apply TK|(apply gz;apply TK;first|omega|assumption)|(apply gL;apply TK;repeat' (first|apply TK|apply cf|(apply cj;first|apply TK|omega|assumption)))))⟩;done)
  |(((try apply aM);first|(apply fb;apply TK;apply TK;try apply TK));exact B3 hi.2 (by omega) (by simp;assumption))
  |(((try apply aM);first|(apply fb;apply TK;apply TK;try apply TK));exact Cn hi.2 (by omega))
def mK(g:Nat→Int):Nat→Int
 |0=>g 0
 |k+1=>max (mK g k) (g (k+1))
theorem RJ(g:Nat→Int)(n:Nat)(hn:n≤100000)(h0:1≤n):au cJ 114 [.sl 1 n (fun k=>fU (g k))] (.int .i64 (mK g (n-1))):=by
 refine aD (fn:=Tryd.f114) Tryd.func114 rfl (by kernel_rfl) rfl ?_ ?_ ?_
 ·exact af.cons (.sl _ _ _ fun _ _ d hd=>A5 _ d hd) af.nil
 ·exact .int _ _
 intro w κ
 repeat' (first
  |(apply bT;apply TK;apply TK;(first|(apply aB<;>apply TK)|(apply aI<;>apply TK)|(apply aC<;>apply TK)|(apply di<;>apply TK)|(apply ah<;>(first|apply TK|omega))|(apply bd<;>apply TK)|(apply cq<;>(first|apply TK|omega))|(apply dL<;>apply TK)|(apply cQ<;>apply TK)))
  |apply ba
  |apply al
  |apply an
  |apply aG
  |apply bp
  |apply aF
  |apply aw
  |apply aS
  |apply bk
  |apply aZ
  |apply aQ
  |(apply bZ;apply TK;(first|(apply lS<;>(first|apply TK|omega))))
  |(apply cM;apply TK;intro _;rotate_left 1;intro _;rotate_left 1))
 any_goals first|(exfalso;omega)|skip
 refine dJ [0,2] [] (fun k:Nat=>[(3, .int .i64 (mK g (k-1))),(4, .int .i64 k)]) (fun _=>[]) (fun _=>[]) (fun k=>1≤k∧k≤n) (fun k=>n-k) 1 ⟨Nat.le_refl _,h0⟩ (by refine⟨?_, ?_, ?_⟩<;>repeat' (first|exact trivial|apply And.intro|apply TK|(apply gz;apply TK;first|omega|assumption)|(apply gL;apply TK;repeat' (first|apply TK|apply cf|(apply cj;first|apply TK|omega|assumption))))) (fun k h hi=> ?_)
 have hk:=hi.1
 have hm:mK g (k+1-1)=max (mK g (k-1)) (g (k:Int).toNat):=by
  obtain⟨j,rfl⟩:∃j,k=j+1:=⟨k-1,by omega⟩
  rfl
 repeat' (first
  |(apply bT;apply TK;apply TK;(first|(apply aB<;>apply TK)|(apply aI<;>apply TK)|(apply aC<;>apply TK)|(apply di<;>apply TK)|(apply ah<;>(first|apply TK|omega))|(apply bd<;>apply TK)|(apply cq<;>(first|apply TK|omega))|(apply dL<;>apply TK)|(apply cQ<;>apply TK)))
  |apply ba
  |apply al
  |apply an
  |apply aG
  |apply bp
  |apply aF
  |apply aw
  |apply aS
  |apply bk
  |apply aZ
  |apply aQ
  |(apply bZ;apply TK;(first|(apply lS<;>(first|apply TK|omega))))
  |(apply cM;apply TK;intro _;rotate_left 1;intro _;rotate_left 1))
 ·refine⟨k+1,⟨by omega,by omega⟩,by omega,(by apply bJ;refine⟨?_, ?_, ?_, ?_, ?_⟩<;>repeat' (first|exact trivial|apply And.intro|apply TK|(apply gz;apply TK;first|omega|assumption)|(apply gL;apply TK;repeat' (first|apply TK|apply cf|(apply cj;first|apply TK|omega|assumption)))))⟩
 ·obtain rfl:k=n:=by omega
  ((try apply aM);first|(apply fb;apply TK;apply TK;try apply TK))
theorem l8{t:Truck}{len:Int}(h:fc len t):∀k,dw t len t.lo k≤dw t len t.hi k
 |0=>Int.le_refl _
 |k+1=>by
  have ih:=l8 h k
  have h2:=h.p2
  have h3:=h.p1
  rw[eT h.l1 h.ho h.so h.p1 k,eT h.l1 h.ho h.so (by omega) k]
  omega
theorem wP{t:Truck}{len:Int}(h:fc len t):cn t len t.hi≤cn t len t.lo:=by
 obtain⟨e1,e2,_⟩:=fa h (Int.le_refl t.lo)
 obtain⟨f1,f2,_⟩:=fa h h.p2
 have hb:=(dH h.l1 h.ho (show 1≤t.hi by have:=h.p1;have:=h.p2;omega) (cn t len t.lo)).2
 have:=l8 h (cn t len t.lo)
 have he:dw t len t.hi (cn t len t.lo)=len:=by omega
 exact Nat.le_of_not_lt fun hlt=>f2 _ hlt he
theorem Pr(t:Truck)(len:Int)(h:fc len t):au cJ 112 [.agg (dj t len)] (.int .i64 (t.start+cn t len t.hi)):=by
 have hn:=(fa h (Int.le_refl t.lo)).2.2
 obtain⟨f1,f2,f3⟩:=fa h h.p2
 have s1:=h.s1
 have s2:=h.s2
 have hx:kR (fun k=>decide ((gone t len k).hi=len)) (cn t len t.lo+1) 0=cn t len t.hi:=yF (decide_eq_true f1) (fun j hj=>decide_eq_false (f2 j hj)) _ 0 (Nat.zero_le _) (by have:=wP h;omega)
 have c1:=Rb (gone t len) (cn t len t.lo+1) (by omega) 124 [.rp (dj t len) 0] (fun x=>decide (x.hi=len)) (fun x=>Ra x t len)
 rw[hx]at c1
 refine aD (fn:=Tryd.f112) Tryd.func112 rfl (by kernel_rfl) rfl ?_ ?_ ?_
 ·exact af.cons (.agg _ (ff t len)) af.nil
 ·exact .int _ _
 intro w κ
 repeat' (first
  |(apply bT;apply TK;apply TK;(first|(apply aI<;>apply TK)|(apply aH<;>apply TK)|(apply aE<;>apply TK)|(apply ah<;>(first|apply TK|omega))))
  |apply ba
  |apply al
  |apply an
  |apply aG
  |apply aZ
  |(apply bZ;apply TK;(first|(apply aR<;>apply TK)))
  |apply ay
  |(apply bw;kernel_rfl)
  |(apply dx;(first|(apply ab;apply TK)|(apply ae;apply TK;apply TK;apply TK));apply TK;first|(apply bB<;>apply TK)|(apply aV<;>apply TK)|(apply b8;apply TK)|(apply b7;apply TK)|(apply aO;intro _;(first|(apply aI<;>apply TK)|(apply aH<;>apply TK)|(apply aE<;>apply TK)|(apply ah<;>(first|apply TK|omega)))))
  |(apply BS;(first|(apply ab;apply TK)|(apply ae;apply TK;apply TK;apply TK));apply TK;apply TK;exact(dn _ _);exact(c1);apply TK)
  |(apply BS;(first|(apply ab;apply TK)|(apply ae;apply TK;apply TK;apply TK));apply TK;apply TK;rotate_left 1;exact(c1);apply TK;rotate_left 1;(focus ((repeat' (first|exact je.nil|refine je.cons _ _ _ _ ?_ ?_|exact Fz.os _ _ _ _ _ _ rfl rfl|exact Fz.bx _ _ _ _ rfl rfl|refine Fz.fn _ _ _ ?_|exact Fz.same _|exact dn _ _));done))))
 ((try apply aM);first|(apply fb;apply TK;apply TK;try apply TK))
end Go.Proofs.YtafnhieaeejlcaaDoor
namespace Go.Proofs.YtafnhieaeejlcaaDoor
open Go Go.Ab
set_option maxRecDepth 100000
set_option maxHeartbeats 4000000
attribute [local irreducible] W WL eu kX fh eo gR WG FQ Want jO WI pM fQ eC
theorem pT{way len:Int}:∀{hs:List Hold} {p:Option Int},cz way len p hs=0→jw way len hs∧∀q,p=some q→∀h∈hs,q<bc way len h.a
 |[],_,_=>⟨List.Pairwise.nil,fun _ _ h hh=>by cases hh⟩
 |h::hs,p,h0=>by
  rw[eL]at h0
  split at h0
  ·cases h0
  ·have rest:cz way len (some (bc way len h.a)) hs=0∧∀q,p=some q→q<bc way len h.a:=by
    split at h0
    ·rename_i q
     split at h0
     ·cases h0
     ·rename_i hq;exact⟨h0,fun q' e=>by cases e;omega⟩
    ·exact⟨h0,fun q' e=>by cases e⟩
   obtain⟨r1,r2⟩:=rest
   obtain⟨i1,i2⟩:=pT r1
   refine⟨List.pairwise_cons.2 ⟨fun y hy=>i2 _ rfl y hy,i1⟩,fun q hq y hy=> ?_⟩
   rcases List.mem_cons.1 hy with rfl|hy
   ·exact r2 q hq
   ·have:=i2 _ rfl y hy
    have:=r2 q hq
    omega
theorem OF{c:Convoy}{t:Truck}(h1:1≤c.len)(h2:c.len≤100000)(h:bD c t=0):fc c.len t:=by
 obtain⟨a1,a2,a3,a4,a5,a6,a7,a8,a9⟩:=JR h1 h2 h
 refine⟨a1,a2,a3,a4,a5,a6,a7,a8,a9, ?_⟩
 unfold bD at h
 split at h;·cases h
 split at h;·cases h
 split at h;·cases h
 split at h;·cases h
 split at h;·cases h
 split at h;·cases h
 exact(pT h).1
theorem fc.free{len:Int}{t:Truck}(h:fc len t)(b:Bool):fc len (bf t b):=by
 cases b
 ·exact h
 ·exact⟨h.l1,h.l2,h.s1,h.s2,h.p1,h.p2,h.p3,h.d1,⟨Nat.zero_le _,fun k hk=>by cases hk⟩,List.Pairwise.nil⟩
structure CR (c:Convoy):Prop where
 ok:O4 c
 r:∀k,k<c.trucks.length→fc c.len (c.trucks.getD k default)
theorem fg{c:Convoy}(h:ai c=0):CR c:=by
 have hc:=DT h
 refine⟨hc,fun k hk=>OF hc.l1 hc.l2 ?_⟩
 unfold ai at h
 split at h;·cases h
 split at h;·cases h
 exact fx h _ (by simp[List.getD,hk])
theorem I7{c:Convoy}{t:Truck}(h:fc c.len t):(jT c t).lo=t.start+cn t c.len t.hi:=by
 simp only[jT];rw[if_pos (wP h)]
theorem rI{c:Convoy}(h:CR c){k:Nat}(hk:k<c.trucks.length):cO c k=(c.trucks.getD k default).start+cn (c.trucks.getD k default) c.len (c.trucks.getD k default).hi:=I7 (h.r k hk)
theorem wh{c:Convoy}(h:CR c){k:Nat}(hk:k<c.trucks.length):eM c k=(c.trucks.getD k default).start+cn (bf (c.trucks.getD k default) true) c.len (c.trucks.getD k default).hi:=I7 ((h.r k hk).free true)
def iJ(s:Nat→Int)(n:Nat):Nat:=(kR (fun i=>decide (mK s (n-1)=s i)) n 0).toNat
def PE(s:Nat→Int)(k:Nat):Nat→Int:=fun i=>if i=k then -1 else s i
def df(s:Nat→Int)(n:Nat):Nat→Nat→Int
 |0=>s
 |m+1=>PE (df s n m) (iJ (df s n m) n)
def BP(s fast:Nat→Int)(n:Nat):Nat→Int
 |0=>0
 |m+1=>max (BP s fast n m) (fast (iJ (df s n m) n))
def tg(lo:Int)(s:Nat→Int):Nat→Int
 |0=>lo
 |k+1=>max (tg lo s k) (s k)
def eQ(c:Convoy):Nat:=min c.fails.toNat c.trucks.length
def lN(c:Convoy):Int:=tg (BP (cO c) (eM c) c.trucks.length (eQ c)) (df (cO c) c.trucks.length (eQ c)) c.trucks.length
def lY(c:Convoy):Span:=⟨lN c,dy (fA c) c.trucks.length⟩
theorem Ci(s:Nat→Int):∀n,∃k,k≤n∧mK s n=s k
 |0=>⟨0,Nat.le_refl _,rfl⟩
 |n+1=>by
  obtain⟨k,h1,h2⟩:=Ci s n
  simp only[mK]
  by_cases h:s (n+1)≤mK s n
  ·exact⟨k,by omega,by omega⟩
  ·exact⟨n+1,Nat.le_refl _,by omega⟩
theorem Gt(s:Nat→Int):∀n k,k≤n→s k≤mK s n
 |0,k,h=>by obtain rfl:k=0:=by omega
            exact Int.le_refl _
 |n+1,k,h=>by
  simp only[mK]
  by_cases e:k=n+1
  ·subst e;omega
  ·have:=Gt s n k (by omega);omega
theorem wq{p:Nat→Bool}:∀(f k K:Nat),k≤K→K<k+f→p K=true→∃j,k≤j∧j≤K∧p j=true∧kR p f k=j
 |0,k,K,h1,h2,_=>by omega
 |f+1,k,K,h1,h2,h3=>by
  simp only[kR]
  by_cases e:p k=true
  ·rw[if_pos e];exact⟨k,Nat.le_refl _,h1,e,rfl⟩
  ·rw[if_neg e]
   have hne:k≠K:=fun h=>e (h▸h3)
   obtain⟨j,a,b,d,e⟩:=wq f (k+1) K (by omega) (by omega) h3
   exact⟨j,by omega,b,d,e⟩
theorem qH(s:Nat→Int){n:Nat}(hn:1≤n):iJ s n<n∧s (iJ s n)=mK s (n-1)∧kR (fun i=>decide (mK s (n-1)=s i)) n 0=(iJ s n:Int):=by
 obtain⟨K,h1,h2⟩:=Ci s (n-1)
 obtain⟨j,a,b,d,e⟩:=wq (p:=fun i=>decide (mK s (n-1)=s i)) n 0 K (Nat.zero_le _) (by omega) (by simpa using h2)
 have hw:iJ s n=j:=by unfold iJ;rw[e];rfl
 rw[hw]
 exact⟨by omega,by simpa using(of_decide_eq_true d).symm,e⟩
theorem Ge(f:Nat→Int)(k:Nat):dy f (k+1)=max (dy f k) (f k):=rfl
theorem xr(s:Nat→Int)(n:Nat):df s n 0=s:=rfl
theorem HV(s f:Nat→Int)(n:Nat):BP s f n 0=0:=rfl
theorem zL(lo:Int)(s:Nat→Int):tg lo s 0=lo:=rfl
theorem ks(s:Nat→Int)(n m i:Nat):df s n (m+1) i=if i=iJ (df s n m) n then -1 else df s n m i:=rfl
theorem ri(s f:Nat→Int)(n m:Nat):BP s f n (m+1)=max (BP s f n m) (f (iJ (df s n m) n)):=rfl
theorem py(lo:Int)(s:Nat→Int)(k:Nat):tg lo s (k+1)=max (tg lo s k) (s k):=rfl
theorem Q9(g:Nat→Int)(j:Nat)(v:Int)(i:Nat):oP (fun i=>fU (g i)) j [.int .i64 v] i=fU (if i=j then v else g i):=by
 unfold oP;split<;>simp[fU]
theorem sE(c:Convoy)(k:Nat):fA c k=(c.trucks.getD k default).start+cn (c.trucks.getD k default) c.len (c.trucks.getD k default).lo:=rfl
attribute [local irreducible] iJ df BP tg mK cO eM fA dy
theorem Rw(c:Convoy)(hc:CR c):au cJ 81 [.agg (aL c)] (.agg (bC (lY c))):=by
 refine aD (fn:=Tryd.f81) Tryd.func81 rfl (by kernel_rfl) rfl ?_ ?_ ?_
 ·exact af.cons (.agg _ (bn c)) af.nil
 ·exact .agg _ (cN _)
 intro w κ
 have hn:=hc.ok.n
 have hf1:=hc.ok.f1
 have hf2:=hc.ok.f2
 have hmax0:=mX (fA c)
 repeat' (first
  |(apply bT;apply TK;apply TK;(first|(apply aB<;>apply TK)|(apply aI<;>apply TK)|(apply aH<;>apply TK)|(apply aE<;>apply TK)|(apply aC<;>apply TK)|(apply ah<;>(first|apply TK|omega))|(apply bd<;>apply TK)|(apply aq<;>apply TK)|(apply kI<;>apply TK)|(apply dL<;>apply TK)|(apply mb<;>(first|apply TK|omega))|(apply lz<;>(first|apply TK|omega))|(apply jf<;>apply TK)|(apply dr<;>apply TK)|(apply dm<;>apply TK)|(apply dt<;>apply TK)))
  |apply ba
  |apply al
  |apply an
  |apply aG
  |apply bp
  |apply aF
  |apply aw
  |apply aS
  |apply bk
  |apply aZ
  |apply aQ
  |(apply bZ;apply TK;(first|(apply aR<;>apply TK)|(apply aP<;>apply TK)|(apply bP<;>apply TK)|(apply lS<;>(first|apply TK|omega))))
  |apply ay
  |(apply bw;kernel_rfl)
  |(apply dx;(first|(apply ab;apply TK)|(apply ae;apply TK;apply TK;apply TK));apply TK;first|(apply bB<;>apply TK)|(apply aV<;>apply TK)|(apply b8;apply TK)|(apply b7;apply TK)|(apply aO;intro _;(first|(apply aB<;>apply TK)|(apply aI<;>apply TK)|(apply aH<;>apply TK)|(apply aE<;>apply TK)|(apply aC<;>apply TK)|(apply ah<;>(first|apply TK|omega))|(apply bd<;>apply TK)|(apply aq<;>apply TK)|(apply kI<;>apply TK)|(apply dL<;>apply TK)|(apply mb<;>(first|apply TK|omega))|(apply lz<;>(first|apply TK|omega))|(apply jf<;>apply TK)|(apply dr<;>apply TK)|(apply dm<;>apply TK)|(apply dt<;>apply TK))))
  |(apply ft;(first|(apply ab;apply TK)|(apply ae;apply TK;apply TK;apply TK));(first|(apply cH<;>apply TK)|(apply dV<;>apply TK)|(apply g4<;>apply TK)))
  |(apply cM;apply TK;intro _;rotate_left 1;intro _;rotate_left 1))
 refine qU (qz 4 4 3 1 (fun i=>fU (cO c i)) rfl) ?_
 refine qU (qz 5 5 3 1 (fun i=>fU (eM c i)) rfl) ?_
 refine dJ [1,2,3,15] [1,2] (fun k:Nat=>[(4, .os 4 (k+1)),(5, .os 5 (k+1)),(16, .int .i64 k)]) (fun k=>[(3,1),(4,k+1),(5,k+1)])
  (fun k=>[(3, .box [.int .i64 0, .int .i64 (dy (fA c) k)]),(4, .arr 3 1 k (fun i=>fU (cO c i))),(5, .arr 3 1 k (fun i=>fU (eM c i)))])
  (fun k=>k≤c.trucks.length) (fun k=>c.trucks.length-k) 0 (Nat.zero_le _) (by refine⟨?_, ?_, ?_⟩<;>repeat' (first|exact trivial|apply And.intro|apply TK|(apply gz;apply TK;first|omega|assumption)|(apply gL;apply TK;repeat' (first|apply TK|apply cf|(apply cj;first|apply TK|omega|assumption))))) (fun k h hk=> ?_)
 have hr:(k:Int)<c.trucks.length→fc c.len (c.trucks.getD k default):=fun h=>hc.r _ (by omega)
 have k1:(k:Int)<c.trucks.length→au cJ 112 [.agg (dj (bf (c.trucks.getD k default) false) c.len)] (.int .i64 (cO c k)):=fun h=>by rw[rI hc (by omega)];exact Pr _ _ (hr h)
 have k2:(k:Int)<c.trucks.length→au cJ 112 [.agg (dj (bf (c.trucks.getD k default) true) c.len)] (.int .i64 (eM c k)):=fun h=>by rw[wh hc (by omega)];exact Pr _ _ ((hr h).free true)
 have k3:(k:Int)<c.trucks.length→au cJ 98 [.agg (dj (bf (c.trucks.getD k default) false) c.len)] (.int .i64 (fA c k)):=fun h=>by rw[sE];exact Su _ _ (hr h)
 repeat' (first
  |(apply bT;apply TK;apply TK;(first|(apply aB<;>apply TK)|(apply aI<;>apply TK)|(apply aH<;>apply TK)|(apply aE<;>apply TK)|(apply aC<;>apply TK)|(apply ah<;>(first|apply TK|omega))|(apply bd<;>apply TK)|(apply aq<;>apply TK)|(apply kI<;>apply TK)|(apply dL<;>apply TK)|(apply mb<;>(first|apply TK|omega))|(apply lz<;>(first|apply TK|omega))|(apply jf<;>apply TK)|(apply dr<;>apply TK)|(apply dm<;>apply TK)|(apply dt<;>apply TK)))
  |apply ba
  |apply al
  |apply an
  |apply aG
  |apply bp
  |apply aF
  |apply aw
  |apply aS
  |apply bk
  |apply aZ
  |apply aQ
  |(apply dW;apply TK;apply TK;rotate_left 1;exact(dn _ _);rotate_right 1;exact(MI c k false (by omega));apply TK;apply TK)
  |(apply dW;apply TK;apply TK;exact(MI c k false (by omega));(focus ((repeat' (first|exact je.nil|refine je.cons _ _ _ _ ?_ ?_|exact Fz.os _ _ _ _ _ _ rfl rfl|exact Fz.bx _ _ _ _ rfl rfl|refine Fz.fn _ _ _ ?_|exact Fz.same _|exact dn _ _));done));apply TK;apply TK)
  |(apply dW;apply TK;apply TK;rotate_left 1;exact(dn _ _);rotate_right 1;exact(MI c k true (by omega));apply TK;apply TK)
  |(apply dW;apply TK;apply TK;exact(MI c k true (by omega));(focus ((repeat' (first|exact je.nil|refine je.cons _ _ _ _ ?_ ?_|exact Fz.os _ _ _ _ _ _ rfl rfl|exact Fz.bx _ _ _ _ rfl rfl|refine Fz.fn _ _ _ ?_|exact Fz.same _|exact dn _ _));done));apply TK;apply TK)
  |(apply dW;apply TK;apply TK;rotate_left 1;exact(dn _ _);rotate_right 1;exact(MD (bf (c.trucks.getD k default) false) c.len ((hr (by assumption)).free false));apply TK;apply TK)
  |(apply dW;apply TK;apply TK;exact(MD (bf (c.trucks.getD k default) false) c.len ((hr (by assumption)).free false));(focus ((repeat' (first|exact je.nil|refine je.cons _ _ _ _ ?_ ?_|exact Fz.os _ _ _ _ _ _ rfl rfl|exact Fz.bx _ _ _ _ rfl rfl|refine Fz.fn _ _ _ ?_|exact Fz.same _|exact dn _ _));done));apply TK;apply TK)
  |(apply dW;apply TK;apply TK;rotate_left 1;exact(dn _ _);rotate_right 1;exact(MD (bf (c.trucks.getD k default) true) c.len ((hr (by assumption)).free true));apply TK;apply TK)
  |(apply dW;apply TK;apply TK;exact(MD (bf (c.trucks.getD k default) true) c.len ((hr (by assumption)).free true));(focus ((repeat' (first|exact je.nil|refine je.cons _ _ _ _ ?_ ?_|exact Fz.os _ _ _ _ _ _ rfl rfl|exact Fz.bx _ _ _ _ rfl rfl|refine Fz.fn _ _ _ ?_|exact Fz.same _|exact dn _ _));done));apply TK;apply TK)
  |(apply dW;apply TK;apply TK;rotate_left 1;exact(dn _ _);rotate_right 1;exact(k1 (by assumption));apply TK;apply TK)
  |(apply dW;apply TK;apply TK;exact(k1 (by assumption));(focus ((repeat' (first|exact je.nil|refine je.cons _ _ _ _ ?_ ?_|exact Fz.os _ _ _ _ _ _ rfl rfl|exact Fz.bx _ _ _ _ rfl rfl|refine Fz.fn _ _ _ ?_|exact Fz.same _|exact dn _ _));done));apply TK;apply TK)
  |(apply dW;apply TK;apply TK;rotate_left 1;exact(dn _ _);rotate_right 1;exact(k2 (by assumption));apply TK;apply TK)
  |(apply dW;apply TK;apply TK;exact(k2 (by assumption));(focus ((repeat' (first|exact je.nil|refine je.cons _ _ _ _ ?_ ?_|exact Fz.os _ _ _ _ _ _ rfl rfl|exact Fz.bx _ _ _ _ rfl rfl|refine Fz.fn _ _ _ ?_|exact Fz.same _|exact dn _ _));done));apply TK;apply TK)
  |(apply dW;apply TK;apply TK;rotate_left 1;exact(dn _ _);rotate_right 1;exact(k3 (by assumption));apply TK;apply TK)
  |(apply dW;apply TK;apply TK;exact(k3 (by assumption));(focus ((repeat' (first|exact je.nil|refine je.cons _ _ _ _ ?_ ?_|exact Fz.os _ _ _ _ _ _ rfl rfl|exact Fz.bx _ _ _ _ rfl rfl|refine Fz.fn _ _ _ ?_|exact Fz.same _|exact dn _ _));done));apply TK;apply TK)
  |(apply bZ;apply TK;(first|(apply aR<;>apply TK)|(apply aP<;>apply TK)|(apply bP<;>apply TK)|(apply lS<;>(first|apply TK|omega))))
  |apply ay
  |(apply bw;kernel_rfl)
  |(apply dx;(first|(apply ab;apply TK)|(apply ae;apply TK;apply TK;apply TK));apply TK;first|(apply bB<;>apply TK)|(apply aV<;>apply TK)|(apply b8;apply TK)|(apply b7;apply TK)|(apply aO;intro _;(first|(apply aB<;>apply TK)|(apply aI<;>apply TK)|(apply aH<;>apply TK)|(apply aE<;>apply TK)|(apply aC<;>apply TK)|(apply ah<;>(first|apply TK|omega))|(apply bd<;>apply TK)|(apply aq<;>apply TK)|(apply kI<;>apply TK)|(apply dL<;>apply TK)|(apply mb<;>(first|apply TK|omega))|(apply lz<;>(first|apply TK|omega))|(apply jf<;>apply TK)|(apply dr<;>apply TK)|(apply dm<;>apply TK)|(apply dt<;>apply TK))))
  |(apply az;(first|(apply ab;apply TK)|(apply ae;apply TK;apply TK;apply TK));apply TK;apply TK;apply TK;exact(MI c k false (by omega)))
  |(apply az;(first|(apply ab;apply TK)|(apply ae;apply TK;apply TK;apply TK));apply TK;apply TK;apply TK;exact(MI c k true (by omega)))
  |(apply az;(first|(apply ab;apply TK)|(apply ae;apply TK;apply TK;apply TK));apply TK;apply TK;apply TK;exact(MD (bf (c.trucks.getD k default) false) c.len ((hr (by assumption)).free false)))
  |(apply az;(first|(apply ab;apply TK)|(apply ae;apply TK;apply TK;apply TK));apply TK;apply TK;apply TK;exact(MD (bf (c.trucks.getD k default) true) c.len ((hr (by assumption)).free true)))
  |(apply az;(first|(apply ab;apply TK)|(apply ae;apply TK;apply TK;apply TK));apply TK;apply TK;apply TK;exact(k1 (by assumption)))
  |(apply az;(first|(apply ab;apply TK)|(apply ae;apply TK;apply TK;apply TK));apply TK;apply TK;apply TK;exact(k2 (by assumption)))
  |(apply az;(first|(apply ab;apply TK)|(apply ae;apply TK;apply TK;apply TK));apply TK;apply TK;apply TK;exact(k3 (by assumption)))
  |(apply ft;(first|(apply ab;apply TK)|(apply ae;apply TK;apply TK;apply TK));(first|(refine ur (f' :=fun i=>fU (cO c i)) rfl rfl rfl rfl rfl rfl rfl rfl rfl rfl rfl rfl rfl rfl rfl (by first|omega|(show(k+1)*8≤_;omega)) (by omega) rfl (fun i hi=>rfl) (fun i hi=>by(obtain rfl:i=0:=by omega);rfl))|(refine ur (f' :=fun i=>fU (eM c i)) rfl rfl rfl rfl rfl rfl rfl rfl rfl rfl rfl rfl rfl rfl rfl (by first|omega|(show(k+1)*8≤_;omega)) (by omega) rfl (fun i hi=>rfl) (fun i hi=>by(obtain rfl:i=0:=by omega);rfl))|(apply cH<;>apply TK)|(apply dV<;>apply TK)|(apply g4<;>apply TK)))
  |(apply cM;apply TK;intro _;rotate_left 1;intro _;rotate_left 1))
 ·have hmk:=Ge (fA c) k
  exact⟨k+1,by omega,by omega,(by apply bJ;refine⟨?_, ?_, ?_, ?_, ?_⟩<;>repeat' (first|exact trivial|apply And.intro|apply TK|(apply gz;apply TK;first|omega|assumption)|(apply gL;apply TK;repeat' (first|apply TK|apply cf|(apply cj;first|apply TK|omega|assumption)))))⟩
 obtain rfl:k=c.trucks.length:=by omega
 clear k1 k2 k3 hr
 have hz1:=xr (cO c) c.trucks.length
 have hz2:=HV (cO c) (eM c) c.trucks.length
 have hfp:((eQ c:Nat):Int)=min c.fails c.trucks.length:=by unfold eQ;omega
 refine dJ [1,2,3,5] [1,2,5] (fun m:Nat=>[(4, .os 4 (c.trucks.length+1)),(9, .int .i64 m)]) (fun m=>[(3,1),(4,c.trucks.length+1)])
  (fun m=>[(3, .box [.int .i64 (BP (cO c) (eM c) c.trucks.length m), .int .i64 (dy (fA c) c.trucks.length)]),(4, .arr 3 1 c.trucks.length (fun i=>fU (df (cO c) c.trucks.length m i)))])
  (fun m=>m≤eQ c) (fun m=>eQ c-m) 0 (Nat.zero_le _) (by refine⟨?_, ?_, ?_⟩<;>repeat' (first|exact trivial|apply And.intro|apply TK|(apply gz;apply TK;first|omega|assumption)|(apply gL;apply TK;repeat' (first|apply TK|apply cf|(apply cj;first|apply TK|omega|assumption)))|(apply Mx;apply TK;intro i;rw[hz1]))) (fun m g hm=> ?_)
 have hw:m<eQ c→_:=fun h=>qH (df (cO c) c.trucks.length m) (n:=c.trucks.length) (by omega)
 have k1:m<eQ c→au cJ 114 [.sl 1 c.trucks.length (fun i=>fU (df (cO c) c.trucks.length m i))] _:=fun h=>RJ _ _ (by omega) (by omega)
 have k2:m<eQ c→au cJ 113 [.sl 1 c.trucks.length (fun i=>fU (df (cO c) c.trucks.length m i)), .int .i64 (mK (df (cO c) c.trucks.length m) (c.trucks.length-1))] (.int .i64 ((iJ (df (cO c) c.trucks.length m) c.trucks.length:Nat):Int)):=fun h=>by
  rw[←(hw h).2.2];exact RL _ _ (by omega) _
 have hw1:m<eQ c→iJ (df (cO c) c.trucks.length m) c.trucks.length<c.trucks.length:=fun h=>(hw h).1
 have hl2:max (BP (cO c) (eM c) c.trucks.length m) (eM c ((iJ (df (cO c) c.trucks.length m) c.trucks.length:Nat):Int).toNat)=BP (cO c) (eM c) c.trucks.length (m+1):=(ri (cO c) (eM c) c.trucks.length m).symm
 have hs2:=ks (cO c) c.trucks.length m
 clear hw
 repeat' (first
  |(apply bT;apply TK;apply TK;(first|(apply aB<;>apply TK)|(apply aI<;>apply TK)|(apply aH<;>apply TK)|(apply aE<;>apply TK)|(apply aC<;>apply TK)|(apply ah<;>(first|apply TK|omega))|(apply bd<;>apply TK)|(apply aq<;>apply TK)|(apply kI<;>apply TK)|(apply dL<;>apply TK)|(apply mb<;>(first|apply TK|omega))|(apply lz<;>(first|apply TK|omega))|(apply jf<;>apply TK)|(apply dr<;>apply TK)|(apply dm<;>apply TK)|(apply dt<;>apply TK)))
  |apply ba
  |apply al
  |apply an
  |apply aG
  |apply bp
  |apply aF
  |apply aw
  |apply aS
  |apply bk
  |apply aZ
  |apply aQ
  |(apply dW;apply TK;apply TK;rotate_left 1;exact(dn _ _);rotate_right 1;exact(k1 (by omega));apply TK;apply TK)
  |(apply dW;apply TK;apply TK;exact(k1 (by omega));(focus ((repeat' (first|exact je.nil|refine je.cons _ _ _ _ ?_ ?_|exact Fz.os _ _ _ _ _ _ rfl rfl|exact Fz.bx _ _ _ _ rfl rfl|refine Fz.fn _ _ _ ?_|exact Fz.same _|exact dn _ _));done));apply TK;apply TK)
  |(apply dW;apply TK;apply TK;rotate_left 1;exact(dn _ _);rotate_right 1;exact(k2 (by omega));apply TK;apply TK)
  |(apply dW;apply TK;apply TK;exact(k2 (by omega));(focus ((repeat' (first|exact je.nil|refine je.cons _ _ _ _ ?_ ?_|exact Fz.os _ _ _ _ _ _ rfl rfl|exact Fz.bx _ _ _ _ rfl rfl|refine Fz.fn _ _ _ ?_|exact Fz.same _|exact dn _ _));done));apply TK;apply TK)
  |(apply bZ;apply TK;(first|(apply aR<;>apply TK)|(apply aP<;>apply TK)|(apply bP<;>apply TK)|(apply lS<;>(first|apply TK|omega))))
  |apply ay
  |(apply bw;kernel_rfl)
  |(apply dx;(first|(apply ab;apply TK)|(apply ae;apply TK;apply TK;apply TK));apply TK;first|(apply bB<;>apply TK)|(apply aV<;>apply TK)|(apply b8;apply TK)|(apply b7;apply TK)|(apply aO;intro _;(first|(apply aB<;>apply TK)|(apply aI<;>apply TK)|(apply aH<;>apply TK)|(apply aE<;>apply TK)|(apply aC<;>apply TK)|(apply ah<;>(first|apply TK|omega))|(apply bd<;>apply TK)|(apply aq<;>apply TK)|(apply kI<;>apply TK)|(apply dL<;>apply TK)|(apply mb<;>(first|apply TK|omega))|(apply lz<;>(first|apply TK|omega))|(apply jf<;>apply TK)|(apply dr<;>apply TK)|(apply dm<;>apply TK)|(apply dt<;>apply TK))))
  |(apply az;(first|(apply ab;apply TK)|(apply ae;apply TK;apply TK;apply TK));apply TK;apply TK;apply TK;exact(k1 (by omega)))
  |(apply az;(first|(apply ab;apply TK)|(apply ae;apply TK;apply TK;apply TK));apply TK;apply TK;apply TK;exact(k2 (by omega)))
  |(apply ft;(first|(apply ab;apply TK)|(apply ae;apply TK;apply TK;apply TK));(first|(apply cH<;>apply TK)|(apply dV<;>apply TK)|(apply g4<;>apply TK)))
  |(apply cM;apply TK;intro _;rotate_left 1;intro _;rotate_left 1))
 ·exact⟨m+1,by omega,by omega,(by apply bJ;refine⟨?_, ?_, ?_, ?_, ?_⟩<;>repeat' (first|exact trivial|apply And.intro|apply TK|(apply gz;apply TK;first|omega|assumption)|(apply gL;apply TK;repeat' (first|apply TK|apply cf|(apply cj;first|apply TK|omega|assumption)))|(apply Mx;apply TK;intro i;rw[hs2];exact Q9 _ _ _ _)))⟩
 obtain rfl:m=eQ c:=by omega
 clear k1 k2 hw1 hl2 hs2
 have hz3:=zL (BP (cO c) (eM c) c.trucks.length (eQ c)) (df (cO c) c.trucks.length (eQ c))
 refine dJ [2,3,68,69] [2] (fun k:Nat=>[(68, .os 4 (c.trucks.length+1)),(70, .int .i64 k)]) (fun m=>[(3,1),(4,c.trucks.length+1)])
  (fun k=>[(3, .box [.int .i64 (tg (BP (cO c) (eM c) c.trucks.length (eQ c)) (df (cO c) c.trucks.length (eQ c)) k), .int .i64 (dy (fA c) c.trucks.length)]),(4, .arr 3 1 c.trucks.length (fun i=>fU (df (cO c) c.trucks.length (eQ c) i)))])
  (fun k=>k≤c.trucks.length) (fun k=>c.trucks.length-k) 0 (Nat.zero_le _) (by refine⟨?_, ?_, ?_⟩<;>repeat' (first|exact trivial|apply And.intro|apply TK|(apply gz;apply TK;first|omega|assumption)|(apply gL;apply TK;repeat' (first|apply TK|apply cf|(apply cj;first|apply TK|omega|assumption))))) (fun k g hk=> ?_)
 have hl3:max (tg (BP (cO c) (eM c) c.trucks.length (eQ c)) (df (cO c) c.trucks.length (eQ c)) k) (df (cO c) c.trucks.length (eQ c) (k:Int).toNat)=tg (BP (cO c) (eM c) c.trucks.length (eQ c)) (df (cO c) c.trucks.length (eQ c)) (k+1):=(py _ _ _).symm
 repeat' (first
  |(apply bT;apply TK;apply TK;(first|(apply aB<;>apply TK)|(apply aI<;>apply TK)|(apply aH<;>apply TK)|(apply aE<;>apply TK)|(apply aC<;>apply TK)|(apply ah<;>(first|apply TK|omega))|(apply bd<;>apply TK)|(apply aq<;>apply TK)|(apply kI<;>apply TK)|(apply dL<;>apply TK)|(apply mb<;>(first|apply TK|omega))|(apply lz<;>(first|apply TK|omega))|(apply jf<;>apply TK)|(apply dr<;>apply TK)|(apply dm<;>apply TK)|(apply dt<;>apply TK)))
  |apply ba
  |apply al
  |apply an
  |apply aG
  |apply bp
  |apply aF
  |apply aw
  |apply aS
  |apply bk
  |apply aZ
  |apply aQ
  |(apply bZ;apply TK;(first|(apply aR<;>apply TK)|(apply aP<;>apply TK)|(apply bP<;>apply TK)|(apply lS<;>(first|apply TK|omega))))
  |apply ay
  |(apply bw;kernel_rfl)
  |(apply dx;(first|(apply ab;apply TK)|(apply ae;apply TK;apply TK;apply TK));apply TK;first|(apply bB<;>apply TK)|(apply aV<;>apply TK)|(apply b8;apply TK)|(apply b7;apply TK)|(apply aO;intro _;(first|(apply aB<;>apply TK)|(apply aI<;>apply TK)|(apply aH<;>apply TK)|(apply aE<;>apply TK)|(apply aC<;>apply TK)|(apply ah<;>(first|apply TK|omega))|(apply bd<;>apply TK)|(apply aq<;>apply TK)|(apply kI<;>apply TK)|(apply dL<;>apply TK)|(apply mb<;>(first|apply TK|omega))|(apply lz<;>(first|apply TK|omega))|(apply jf<;>apply TK)|(apply dr<;>apply TK)|(apply dm<;>apply TK)|(apply dt<;>apply TK))))
  |(apply ft;(first|(apply ab;apply TK)|(apply ae;apply TK;apply TK;apply TK));(first|(apply cH<;>apply TK)|(apply dV<;>apply TK)|(apply g4<;>apply TK)))
  |(apply cM;apply TK;intro _;rotate_left 1;intro _;rotate_left 1))
 ·exact⟨k+1,by omega,by omega,(by apply bJ;refine⟨?_, ?_, ?_, ?_, ?_⟩<;>repeat' (first|exact trivial|apply And.intro|apply TK|(apply gz;apply TK;first|omega|assumption)|(apply gL;apply TK;repeat' (first|apply TK|apply cf|(apply cj;first|apply TK|omega|assumption)))))⟩
 ·obtain rfl:k=c.trucks.length:=by omega
  ((try apply aM);first|(apply jv;apply TK;apply TK;apply TK;apply TK;apply TK;apply TK;apply TK;apply TK;try apply TK))
theorem RR(c:Convoy):au cJ 36 [.agg (aL c)] (.tup [.agg (bC (if ai c=0 then lY c else default)), .int .i64 (ai c)]):=by
 refine aD (fn:=Tryd.f36) Tryd.func36 rfl (by kernel_rfl) rfl ?_ ?_ ?_
 ·exact af.cons (.agg _ (bn c)) af.nil
 ·exact .tup _ (af.cons (.agg _ (cN _)) (af.cons (.int _ _) af.nil))
 intro w κ
 repeat' (first
  |(apply bT;apply TK;apply TK;(first|(apply aB<;>apply TK)|(apply aI<;>apply TK)|(apply aC<;>apply TK)|(apply aq<;>apply TK)|(apply bK<;>apply TK)))
  |apply ba
  |apply al
  |apply an
  |apply aG
  |apply ck
  |apply aS
  |apply aZ
  |(apply aA;apply TK;apply TK;rotate_left 1;apply TK;rotate_right 1;exact(N5 c);apply TK)
  |(apply aA;apply TK;apply TK;rotate_left 1;apply TK;rotate_right 1;exact(Rw c (fg (by assumption)));apply TK)
  |(apply bZ;apply TK;(first|(apply aR<;>apply TK)|(apply aP<;>apply TK)|(apply bP<;>apply TK)))
  |(apply fq;apply TK;intro _;rotate_left 1;intro _;rotate_left 1))
 ·((try apply aM);first|(focus (apply fv;apply TK;(first|(apply eI;apply TK)|(apply ep<;>apply TK));(first|(apply eI;apply TK)|(apply ep<;>apply TK));all_goals try apply TK)))
  rw[if_neg (by assumption)];rfl
 ·((try apply aM);first|(focus (apply fv;apply TK;(first|(apply eI;apply TK)|(apply ep<;>apply TK));(first|(apply eI;apply TK)|(apply ep<;>apply TK));all_goals try apply TK)))
  ·rw[if_pos (by assumption)];rfl
  ·simp[*]
end Go.Proofs.YtafnhieaeejlcaaDoor
namespace Go.Proofs.YtafnhieaeejlcaaDoor
open Go Go.Ab
set_option maxRecDepth 100000
set_option maxHeartbeats 4000000
attribute [local irreducible] W WL eu kX fh eo gR WG FQ Want jO WI pM fQ eC
def atP(t:Truck)(len m:Int):Span:=if min (m-t.start) (cn t len t.lo)<0 then default else gone t len (min (m-t.start) (cn t len t.lo)).toNat
theorem SW(t:Truck)(len m:Int)(h:fc len t)(m0:0≤m)(m1:m≤100000):au cJ 87 [.agg (dj t len), .int .i64 m] (.agg (bC (atP t len m))):=by
 have hn:=(fa h (Int.le_refl t.lo)).2.2
 have s1:=h.s1
 have s2:=h.s2
 refine aD (fn:=Tryd.f87) Tryd.func87 rfl (by kernel_rfl) rfl ?_ ?_ ?_
 ·exact af.cons (.agg _ (ff t len)) (af.cons (.int _ _) af.nil)
 ·exact .agg _ (cN _)
 intro w κ
 repeat' (first
  |(apply bT;apply TK;apply TK;(first|(apply aB<;>apply TK)|(apply aI<;>apply TK)|(apply aH<;>apply TK)|(apply aE<;>apply TK)|(apply aC<;>apply TK)|(apply ah<;>(first|apply TK|omega))|(apply bd<;>apply TK)|(apply cq<;>(first|apply TK|omega))|(apply aN<;>apply TK)|(apply bK<;>apply TK)|(apply kI<;>apply TK)))
  |apply ba
  |apply al
  |apply an
  |apply aG
  |apply ck
  |apply aS
  |apply aZ
  |(apply bZ;apply TK;(first|(apply aR<;>apply TK)|(apply aP<;>apply TK)|(apply bP<;>apply TK)))
  |(apply cM;apply TK;intro _;rotate_left 1;intro _;rotate_left 1))
 all_goals (have e:((cn t len t.lo+1:Nat):Int)-1=cn t len t.lo:=by omega)
 ·rename_i hx
  rw[e]at hx
  ((try apply aM);first|(apply jv;apply TK;apply TK;apply TK;apply TK;apply TK;apply TK;apply TK;apply TK;try apply TK))
  unfold atP;rw[if_pos hx];rfl
 ·rename_i hx
  rw[e]at hx
  ((try apply aM);first|(apply jv;apply TK;apply TK;apply TK;apply TK;apply TK;apply TK;apply TK;apply TK;try apply TK))
  unfold atP;rw[if_neg hx,e];rfl
def gH(way len:Int)(g:Span):Span:=⟨min (bc way len g.lo) (bc way len g.hi),max (bc way len g.lo) (bc way len g.hi)⟩
theorem QN(t:Truck)(len:Int)(g:Span)(h1: -1000000≤g.lo)(h2:g.lo≤1000000)(h3: -1000000≤g.hi)(h4:g.hi≤1000000)(l1:1≤len)(l2:len≤100000):au cJ 86 [.agg (dj t len), .agg (bC g)] (.agg (bC (gH t.way len g))):=by
 refine aD (fn:=Tryd.f86) Tryd.func86 rfl (by kernel_rfl) rfl ?_ ?_ ?_
 ·exact af.cons (.agg _ (ff t len)) (af.cons (.agg _ (cN g)) af.nil)
 ·exact .agg _ (cN _)
 intro w κ
 repeat' (first
  |(apply bT;apply TK;apply TK;(first|(apply aB<;>apply TK)|(apply aI<;>apply TK)|(apply aH<;>apply TK)|(apply aE<;>apply TK)|(apply aq<;>apply TK)|(apply bK<;>apply TK)|(apply kI<;>apply TK)|(apply dL<;>apply TK)))
  |apply ba
  |apply al
  |apply an
  |apply aG
  |apply aZ
  |(apply bZ;apply TK;(first|(apply aR<;>apply TK)|(apply aP<;>apply TK)|(apply bP<;>apply TK)))
  |apply ay
  |(apply bw;kernel_rfl)
  |(apply dx;(first|(apply ab;apply TK)|(apply ae;apply TK;apply TK;apply TK));apply TK;first|(apply bB<;>apply TK)|(apply aV<;>apply TK)|(apply b8;apply TK)|(apply b7;apply TK)|(apply aO;intro _;(first|(apply aB<;>apply TK)|(apply aI<;>apply TK)|(apply aH<;>apply TK)|(apply aE<;>apply TK)|(apply aq<;>apply TK)|(apply bK<;>apply TK)|(apply kI<;>apply TK)|(apply dL<;>apply TK))))
  |(apply az;(first|(apply ab;apply TK)|(apply ae;apply TK;apply TK;apply TK));apply TK;apply TK;apply TK;exact(JA t len g.lo (by omega) (by omega) (by omega) (by omega)))
  |(apply az;(first|(apply ab;apply TK)|(apply ae;apply TK;apply TK;apply TK));apply TK;apply TK;apply TK;exact(JA t len g.hi (by omega) (by omega) (by omega) (by omega))))
 ((try apply aM);first|(apply jv;apply TK;apply TK;apply TK;apply TK;apply TK;apply TK;apply TK;apply TK;try apply TK))
def bX(t:Truck)(len m:Int):Span×Int:=
 if m<t.start then(default,2)
 else if(atP t len m).hi<bG t.way len m t.holds then(gH t.way len (atP t len m),1)
 else if(atP t len m).lo≥bG t.way len m t.holds then(default,2)
 else(gH t.way len ⟨(atP t len m).lo,bG t.way len m t.holds-1⟩,3)
theorem pB{t:Truck}{len m:Int}(h:fc len t):0≤(atP t len m).lo∧(atP t len m).lo≤len∧0≤(atP t len m).hi∧(atP t len m).hi≤len:=by
 have l1:=h.l1
 unfold atP
 split
 ·exact⟨Int.le_refl 0,by show(0:Int)≤len;omega,Int.le_refl 0,by show(0:Int)≤len;omega⟩
 ·have a:=dH h.l1 h.ho h.p1 (min (m-t.start) (cn t len t.lo)).toNat
  have b:=dH h.l1 h.ho (show 1≤t.hi by have:=h.p1;have:=h.p2;omega) (min (m-t.start) (cn t len t.lo)).toNat
  exact⟨a.1,a.2,b.1,b.2⟩
theorem fH{t:Truck}{len m:Int}(h:fc len t):1≤bG t.way len m t.holds∧bG t.way len m t.holds≤len:=by
 refine⟨oQ h.l1 fun x hx=>(ju (h.ho.mem x hx).1 (h.ho.mem x hx).2.1).1, ?_⟩
 have:∀hs:List Hold,(∀x∈hs,bc t.way len x.a≤len)→bG t.way len m hs≤len:=by
  intro hs
  induction hs with
  |nil=>intro _;exact Int.le_refl _
  |cons x hs ih=>
   intro hx
   simp only[bG]
   split
   ·exact hx x (List.mem_cons_self ..)
   ·exact ih fun y hy=>hx y (List.mem_cons_of_mem _ hy)
 refine this _ fun x hx=> ?_
 have:=ju (way:=t.way) (h.ho.mem x hx).1 (h.ho.mem x hx).2.1
 omega
theorem SV(t:Truck)(len m:Int)(h:fc len t)(m0:0≤m)(m1:m≤100000):au cJ 85 [.agg (dj t len), .int .i64 m] (.tup [.agg (bC (bX t len m).1), .int .i64 (bX t len m).2]):=by
 have l1:=h.l1
 have l2:=h.l2
 obtain⟨b1,b2,b3,b4⟩:=pB (m:=m) h
 obtain⟨p1,p2⟩:=fH (m:=m) h
 refine aD (fn:=Tryd.f85) Tryd.func85 rfl (by kernel_rfl) rfl ?_ ?_ ?_
 ·exact af.cons (.agg _ (ff t len)) (af.cons (.int _ _) af.nil)
 ·exact .tup _ (af.cons (.agg _ (cN _)) (af.cons (.int _ _) af.nil))
 intro w κ
 repeat' (first
  |(apply bT;apply TK;apply TK;(first|(apply aB<;>apply TK)|(apply aI<;>apply TK)|(apply aH<;>apply TK)|(apply aE<;>apply TK)|(apply aC<;>apply TK)|(apply bm<;>apply TK)|(apply ah<;>(first|apply TK|omega))|(apply aq<;>apply TK)|(apply bK<;>apply TK)))
  |apply ba
  |apply al
  |apply an
  |apply aG
  |apply ck
  |apply aF
  |apply cP
  |apply aS
  |apply aZ
  |apply aQ
  |(apply aA;apply TK;apply TK;rotate_left 1;apply TK;rotate_right 1;exact(SW t len m h m0 m1);apply TK)
  |(apply aA;apply TK;apply TK;rotate_left 1;apply TK;rotate_right 1;exact(MW t len m l1 l2 h.ho);apply TK)
  |(apply aA;apply TK;apply TK;rotate_left 1;apply TK;rotate_right 1;exact(QN t len (atP t len m) (by omega) (by omega) (by omega) (by omega) l1 l2);apply TK)
  |(apply aA;apply TK;apply TK;rotate_left 1;apply TK;rotate_right 1;exact(QN t len ⟨(atP t len m).lo,bG t.way len m t.holds-1⟩ (by show _≤(atP t len m).lo;omega) (by show(atP t len m).lo≤_;omega) (by show _≤bG t.way len m t.holds-1;omega) (by show bG t.way len m t.holds-1≤_;omega) l1 l2);apply TK)
  |(apply bZ;apply TK;(first|(apply aR<;>apply TK)|(apply aP<;>apply TK)|(apply bP<;>apply TK)))
  |apply ay
  |(apply bw;kernel_rfl)
  |(apply dx;(first|(apply ab;apply TK)|(apply ae;apply TK;apply TK;apply TK));apply TK;first|(apply bB<;>apply TK)|(apply aV<;>apply TK)|(apply b8;apply TK)|(apply b7;apply TK)|(apply aO;intro _;(first|(apply aB<;>apply TK)|(apply aI<;>apply TK)|(apply aH<;>apply TK)|(apply aE<;>apply TK)|(apply aC<;>apply TK)|(apply bm<;>apply TK)|(apply ah<;>(first|apply TK|omega))|(apply aq<;>apply TK)|(apply bK<;>apply TK))))
  |(apply az;(first|(apply ab;apply TK)|(apply ae;apply TK;apply TK;apply TK));apply TK;apply TK;apply TK;exact(SW t len m h m0 m1))
  |(apply az;(first|(apply ab;apply TK)|(apply ae;apply TK;apply TK;apply TK));apply TK;apply TK;apply TK;exact(MW t len m l1 l2 h.ho))
  |(apply az;(first|(apply ab;apply TK)|(apply ae;apply TK;apply TK;apply TK));apply TK;apply TK;apply TK;exact(QN t len (atP t len m) (by omega) (by omega) (by omega) (by omega) l1 l2))
  |(apply az;(first|(apply ab;apply TK)|(apply ae;apply TK;apply TK;apply TK));apply TK;apply TK;apply TK;exact(QN t len ⟨(atP t len m).lo,bG t.way len m t.holds-1⟩ (by show _≤(atP t len m).lo;omega) (by show(atP t len m).lo≤_;omega) (by show _≤bG t.way len m t.holds-1;omega) (by show bG t.way len m t.holds-1≤_;omega) l1 l2))
  |(apply ft;(first|(apply ab;apply TK)|(apply ae;apply TK;apply TK;apply TK));(first|(apply cH<;>apply TK)|(apply dV<;>apply TK)))
  |(apply cM;apply TK;intro _;rotate_left 1;intro _;rotate_left 1))
 ·rename_i a1
  have e:bX t len m=(default,2):=by unfold bX;rw[if_pos a1]
  rw[e];((try apply aM);first|(focus (apply fv;apply TK;(first|(apply eI;apply TK)|(apply ep<;>apply TK));(first|(apply eI;apply TK)|(apply ep<;>apply TK));all_goals try apply TK)))
 ·rename_i a1 a2
  have e:bX t len m=(gH t.way len (atP t len m),1):=by unfold bX;rw[if_neg a1,if_pos a2]
  rw[e];((try apply aM);first|(focus (apply fv;apply TK;(first|(apply eI;apply TK)|(apply ep<;>apply TK));(first|(apply eI;apply TK)|(apply ep<;>apply TK));all_goals try apply TK)))
 ·rename_i a1 a2 a3
  have e:bX t len m=(default,2):=by unfold bX;rw[if_neg a1,if_neg a2,if_pos a3]
  rw[e];((try apply aM);first|(focus (apply fv;apply TK;(first|(apply eI;apply TK)|(apply ep<;>apply TK));(first|(apply eI;apply TK)|(apply ep<;>apply TK));all_goals try apply TK)))
 ·rename_i a1 a2 a3
  have e:bX t len m=(gH t.way len ⟨(atP t len m).lo,bG t.way len m t.holds-1⟩,3):=by unfold bX;rw[if_neg a1,if_neg a2,if_neg a3]
  rw[e];((try apply aM);first|(focus (apply fv;apply TK;(first|(apply eI;apply TK)|(apply ep<;>apply TK));(first|(apply eI;apply TK)|(apply ep<;>apply TK));all_goals try apply TK)))
end Go.Proofs.YtafnhieaeejlcaaDoor
namespace Go.Proofs.YtafnhieaeejlcaaDoor
open Go Go.Ab
set_option maxRecDepth 100000
set_option maxHeartbeats 4000000
attribute [local irreducible] W WL eu kX fh eo gR WG FQ Want jO WI pM fQ eC
theorem s9{way len x:Int}(h:0≤x∧x≤len):0≤bc way len x∧bc way len x≤len:=by unfold bc;split<;>omega
theorem pr{way len:Int}{g:Span}(h1:0≤g.lo∧g.lo≤len)(h2:0≤g.hi∧g.hi≤len):0≤(gH way len g).lo∧(gH way len g).lo≤len∧0≤(gH way len g).hi∧(gH way len g).hi≤len:=by
 have a:=s9 (way:=way) h1
 have b:=s9 (way:=way) h2
 simp only[gH];omega
theorem jc{t:Truck}{len m:Int}(h:fc len t):0≤(bX t len m).1.lo∧(bX t len m).1.lo≤len∧0≤(bX t len m).1.hi∧(bX t len m).1.hi≤len:=by
 obtain⟨b1,b2,b3,b4⟩:=pB (m:=m) h
 obtain⟨p1,p2⟩:=fH (m:=m) h
 have l1:=h.l1
 have hz:(0:Int)≤(default:Span).lo∧(default:Span).lo≤len∧0≤(default:Span).hi∧(default:Span).hi≤len:=⟨Int.le_refl 0,by show(0:Int)≤len;omega,Int.le_refl 0,by show(0:Int)≤len;omega⟩
 unfold bX
 split
 ·exact hz
 ·split
  ·exact pr ⟨b1,b2⟩ ⟨b3,b4⟩
  ·split
   ·exact hz
   ·exact pr ⟨b1,b2⟩ ⟨by show 0≤bG t.way len m t.holds-1;omega,by show bG t.way len m t.holds-1≤len;omega⟩
def gA(gap:Int)(x y:Span×Int):Int×Int×Bool:=
 if x.2=2∨y.2=2 then(0,0,false)
 else(max x.1.lo (y.1.lo-gap+1),max y.1.lo (max x.1.lo (y.1.lo-gap+1)-gap+1),decide (max x.1.lo (y.1.lo-gap+1)≤x.1.hi)&&decide (max y.1.lo (max x.1.lo (y.1.lo-gap+1)-gap+1)≤y.1.hi))
theorem Ru(gap fails:Int)(t u:Truck)(len m:Int)(ht:fc len t)(hu:fc len u)(g0:0≤gap)(g1:gap≤100000)(m0:0≤m)(m1:m≤100000):
 au cJ 121 [.agg [.int .i64 gap, .int .i64 fails], .agg (dj t len), .agg (dj u len), .int .i64 m]
  (.tup [.int .i64 (gA gap (bX t len m) (bX u len m)).1, .int .i64 (gA gap (bX t len m) (bX u len m)).2.1, .bool (gA gap (bX t len m) (bX u len m)).2.2]):=by
 obtain⟨b1,b2,b3,b4⟩:=jc (m:=m) ht
 obtain⟨d1,d2,d3,d4⟩:=jc (m:=m) hu
 have l2:=ht.l2
 have r1:=SV t len m ht m0 m1
 have r2:=SV u len m hu m0 m1
 generalize bX t len m=x at*
 generalize bX u len m=y at*
 refine aD (fn:=Tryd.f121) Tryd.func121 rfl (by kernel_rfl) rfl ?_ ?_ ?_
 ·exact af.cons (.agg _ (af.cons (.int _ _) (af.cons (.int _ _) af.nil))) (af.cons (.agg _ (ff _ _)) (af.cons (.agg _ (ff _ _)) (af.cons (.int _ _) af.nil)))
 ·exact .tup _ (af.cons (.int _ _) (af.cons (.int _ _) (af.cons (.bool _) af.nil)))
 intro w κ
 repeat' (first
  |(apply bT;apply TK;apply TK;(first|(apply aB<;>apply TK)|(apply aI<;>apply TK)|(apply aH<;>apply TK)|(apply aE<;>apply TK)|(apply aC<;>apply TK)|(apply aX<;>apply TK)|(apply bm<;>apply TK)|(apply ah<;>(first|apply TK|omega))|(apply cv<;>apply TK)|(apply bR<;>apply TK)|(apply bY<;>apply TK)|(apply aq<;>apply TK)|(apply dL<;>apply TK)|(apply cx<;>apply TK)))
  |apply ba
  |apply al
  |apply an
  |apply aG
  |apply ck
  |apply aS
  |apply aZ
  |(apply bu;apply TK)
  |(apply aA;apply TK;apply TK;rotate_left 1;apply TK;rotate_right 1;exact(r1);apply TK)
  |(apply aA;apply TK;apply TK;rotate_left 1;apply TK;rotate_right 1;exact(r2);apply TK)
  |(apply bZ;apply TK;(first|(apply aR<;>apply TK)|(apply aP<;>apply TK)|(apply bP<;>apply TK)))
  |(apply dg;apply TK;apply TK;apply TK)
  |(apply eA;apply TK;apply TK;apply TK;apply TK;apply TK)
  |(apply xK;apply TK;apply TK;apply TK;intro _;rotate_left 1;intro _;rotate_left 1)
  |apply ay
  |(apply bw;kernel_rfl)
  |(apply dx;(first|(apply ab;apply TK)|(apply ae;apply TK;apply TK;apply TK));apply TK;first|(apply bB<;>apply TK)|(apply aV<;>apply TK)|(apply b8;apply TK)|(apply b7;apply TK)|(apply aO;intro _;(first|(apply aB<;>apply TK)|(apply aI<;>apply TK)|(apply aH<;>apply TK)|(apply aE<;>apply TK)|(apply aC<;>apply TK)|(apply aX<;>apply TK)|(apply bm<;>apply TK)|(apply ah<;>(first|apply TK|omega))|(apply cv<;>apply TK)|(apply bR<;>apply TK)|(apply bY<;>apply TK)|(apply aq<;>apply TK)|(apply dL<;>apply TK)|(apply cx<;>apply TK))))
  |(apply od;apply TK;apply TK;apply TK;apply TK;apply TK)
  |(apply vi;apply TK;apply TK;apply TK;intro _;rotate_left 1;intro _;rotate_left 1)
  |(apply cM;apply TK;intro _;rotate_left 1;intro _;rotate_left 1))
 ·rename_i a1
  have e:gA gap x y=(0,0,false):=by unfold gA;rw[if_pos (.inl a1)]
  rw[e];((try apply aM);first|(focus (apply Cq;apply TK;(first|(apply eI;apply TK)|(apply gx;apply TK));(first|(apply eI;apply TK)|(apply gx;apply TK));(first|(apply eI;apply TK)|(apply gx;apply TK));all_goals try apply TK)))
 ·rename_i a1 a2
  have e:gA gap x y=(0,0,false):=by unfold gA;rw[if_pos (.inr a2)]
  rw[e];((try apply aM);first|(focus (apply Cq;apply TK;(first|(apply eI;apply TK)|(apply gx;apply TK));(first|(apply eI;apply TK)|(apply gx;apply TK));(first|(apply eI;apply TK)|(apply gx;apply TK));all_goals try apply TK)))
 ·rename_i a1 a2 a3
  have hn:¬(x.2=2∨y.2=2):=fun h=>h.elim a1 a2
  simp only[gA,if_neg hn]
  ((try apply aM);first|(focus (apply Cq;apply TK;(first|(apply eI;apply TK)|(apply gx;apply TK));(first|(apply eI;apply TK)|(apply gx;apply TK));(first|(apply eI;apply TK)|(apply gx;apply TK));all_goals try apply TK)))
  simp[a3]
 ·rename_i a1 a2 a3
  have hn:¬(x.2=2∨y.2=2):=fun h=>h.elim a1 a2
  simp only[gA,if_neg hn]
  ((try apply aM);first|(focus (apply Cq;apply TK;(first|(apply eI;apply TK)|(apply gx;apply TK));(first|(apply eI;apply TK)|(apply gx;apply TK));(first|(apply eI;apply TK)|(apply gx;apply TK));all_goals try apply TK)))
  simp[a3]
structure bj where
 m:Int
 i:Int
 k:Int
 fi:Bool
 fk:Bool
 p:Int
 q:Int
 deriving DecidableEq
instance:Inhabited bj:=⟨⟨0,0,0,false,false,0,0⟩⟩
def cI(x:bj):List D:=[.int .i64 x.m, .int .i64 x.i, .int .i64 x.k, .bool x.fi, .bool x.fk, .int .i64 x.p, .int .i64 x.q]
theorem jW(x:bj):af (cI x):=af.cons (.int _ _) (af.cons (.int _ _) (af.cons (.int _ _) (af.cons (.bool _) (af.cons (.bool _) (af.cons (.int _ _) (af.cons (.int _ _) af.nil))))))
def gC(t:Truck)(len:Int):List D:=dj (bf t false) len++dj (bf t true) len
theorem qM(t:Truck)(len:Int):af (gC t len):=fun d hd=>by
 rcases List.mem_append.1 hd with h|h<;>exact ff _ _ d h
def sB:List (Bool×Bool):=[(false,false),(true,false),(false,true),(true,true)]
def ix(gap:Int)(t u:Truck)(len m:Int)(b:Bool×Bool):Int×Int×Bool:=gA gap (bX (bf t b.1) len m) (bX (bf u b.2) len m)
def bI(b:Bool):Int:=if b then 1 else 0
def gG(gap fails:Int)(t u:Truck)(len m:Int):List (Bool×Bool)→Option bj
 |[]=>none
 |b::l=>if bI b.1+bI b.2>fails then gG gap fails t u len m l
  else if(ix gap t u len m b).2.2 then some ⟨m,0,0,b.1,b.2,(ix gap t u len m b).1,(ix gap t u len m b).2.1⟩else gG gap fails t u len m l
def nI(gap fails:Int)(t u:Truck)(len m:Int):Option bj:=gG gap fails t u len m sB
theorem hH{gap fails:Int}{t u:Truck}{len m:Int}{b:Bool×Bool}{l:List (Bool×Bool)}{R:Option bj}(h:gG gap fails t u len m (b::l)=R)(h1:bI b.1+bI b.2>fails):gG gap fails t u len m l=R:=by
 rw[←h,gG,if_pos h1]
theorem jG{gap fails:Int}{t u:Truck}{len m:Int}{b:Bool×Bool}{l:List (Bool×Bool)}{R:Option bj}(h:gG gap fails t u len m (b::l)=R)(h1:¬bI b.1+bI b.2>fails)(h2:(ix gap t u len m b).2.2=true):
 R=some ⟨m,0,0,b.1,b.2,(ix gap t u len m b).1,(ix gap t u len m b).2.1⟩:=by
 rw[←h,gG,if_neg h1,if_pos h2]
theorem dU{gap fails:Int}{t u:Truck}{len m:Int}{b:Bool×Bool}{l:List (Bool×Bool)}{R:Option bj}(h:gG gap fails t u len m (b::l)=R)(h1:¬bI b.1+bI b.2>fails)(h2:(ix gap t u len m b).2.2=false):gG gap fails t u len m l=R:=by
 rw[←h,gG,if_neg h1,h2];rfl
def xS:Option bj→bj
 |some x=>x
 |none=>default
attribute [local irreducible] ix
theorem Rt(gap fails:Int)(t u:Truck)(len m:Int)(ht:fc len t)(hu:fc len u)(g0:0≤gap)(g1:gap≤100000)(m0:0≤m)(m1:m≤100000):
 au cJ 109 [.agg [.int .i64 gap, .int .i64 fails], .agg (gC t len), .agg (gC u len), .int .i64 m]
  (.tup [.agg (cI (xS (nI gap fails t u len m))), .bool (nI gap fails t u len m).isSome]):=by
 have hnear:∀b:Bool×Bool,au cJ 121 [.agg [.int .i64 gap, .int .i64 fails], .agg (dj (bf t b.1) len), .agg (dj (bf u b.2) len), .int .i64 m]
  (.tup [.int .i64 (ix gap t u len m b).1, .int .i64 (ix gap t u len m b).2.1, .bool (ix gap t u len m b).2.2]):=fun b=>by
  unfold ix;exact Ru gap fails _ _ len m (ht.free _) (hu.free _) g0 g1 m0 m1
 refine aD (fn:=Tryd.f109) Tryd.func109 rfl (by kernel_rfl) rfl ?_ ?_ ?_
 ·exact af.cons (.agg _ (af.cons (.int _ _) (af.cons (.int _ _) af.nil))) (af.cons (.agg _ (qM _ _)) (af.cons (.agg _ (qM _ _)) (af.cons (.int _ _) af.nil)))
 ·exact .tup _ (af.cons (.agg _ (jW _)) (af.cons (.bool _) af.nil))
 intro w κ
 have hM:gG gap fails t u len m sB=nI gap fails t u len m:=rfl
 generalize nI gap fails t u len m=R at*
 repeat' (first
  |(apply bT;apply TK;apply TK;(first|(apply aB<;>apply TK)|(apply aI<;>apply TK)|(apply aH<;>apply TK)|(apply aE<;>apply TK)|(apply aC<;>apply TK)|(apply aX<;>apply TK)|(apply bm<;>apply TK)|(apply ah<;>(first|apply TK|omega))|(apply cv<;>apply TK)|(apply aq<;>apply TK)|(apply aN<;>apply TK)|(apply bK<;>apply TK)|(apply cx<;>apply TK)|(apply cU;apply TK;apply TK;apply TK;apply TK;(first|omega|decide);apply TK;apply TK;(first|omega|decide);apply TK;apply TK)|(apply mN;apply TK;apply TK;apply TK;(first|omega|decide);apply TK;apply TK;(first|omega|decide);apply TK;apply TK;apply TK)))
  |apply ba
  |apply al
  |apply an
  |apply aG
  |apply bp
  |apply ck
  |apply aF
  |apply cP
  |apply aw
  |apply aS
  |apply bk
  |apply aZ
  |apply aQ
  |(apply bu;apply TK)
  |(apply bF;apply TK)
  |(apply bZ;apply TK;(first|(apply aR<;>apply TK)|(apply aP<;>apply TK)|(apply bP<;>apply TK)))
  |apply ay
  |(apply bw;kernel_rfl)
  |(apply dx;(first|(apply ab;apply TK)|(apply ae;apply TK;apply TK;apply TK));apply TK;first|(apply bB<;>apply TK)|(apply aV<;>apply TK)|(apply b8;apply TK)|(apply b7;apply TK)|(apply aO;intro _;(first|(apply aB<;>apply TK)|(apply aI<;>apply TK)|(apply aH<;>apply TK)|(apply aE<;>apply TK)|(apply aC<;>apply TK)|(apply aX<;>apply TK)|(apply bm<;>apply TK)|(apply ah<;>(first|apply TK|omega))|(apply cv<;>apply TK)|(apply aq<;>apply TK)|(apply aN<;>apply TK)|(apply bK<;>apply TK)|(apply cx<;>apply TK)|(apply cU;apply TK;apply TK;apply TK;apply TK;(first|omega|decide);apply TK;apply TK;(first|omega|decide);apply TK;apply TK)|(apply mN;apply TK;apply TK;apply TK;(first|omega|decide);apply TK;apply TK;(first|omega|decide);apply TK;apply TK;apply TK))))
  |(apply cM;apply TK;intro _;rotate_left 1;intro _;rotate_left 1)
  |(apply eR;apply TK;intro _;rotate_left 1;intro _;rotate_left 1))
 refine dJ [3,4,5,6,8,15] [4,5,6] (fun k:Nat=>[(16, .int .i64 k)]) (fun _=>[(8,1)]) (fun _=>[(8, .box (cI default))])
  (fun k=>k≤4∧gG gap fails t u len m (sB.drop k)=R) (fun k=>4-k) 0 ⟨Nat.zero_le _,hM⟩ (by refine⟨?_, ?_, ?_⟩<;>repeat' (first|exact trivial|apply And.intro|apply TK|(apply gz;apply TK;first|omega|assumption)|(apply gL;apply TK;repeat' (first|apply TK|apply cf|(apply cj;first|apply TK|omega|assumption))))) (fun k g hi=> ?_)
 obtain⟨hk,hi⟩:=hi
 obtain rfl|rfl|rfl|rfl|rfl:k=0∨k=1∨k=2∨k=3∨k=4:=by omega
 ·repeat' (first
  |(apply bT;apply TK;apply TK;(first|(apply aB<;>apply TK)|(apply aI<;>apply TK)|(apply aH<;>apply TK)|(apply aE<;>apply TK)|(apply aC<;>apply TK)|(apply aX<;>apply TK)|(apply bm<;>apply TK)|(apply ah<;>(first|apply TK|omega))|(apply cv<;>apply TK)|(apply aq<;>apply TK)|(apply aN<;>apply TK)|(apply bK<;>apply TK)|(apply cx<;>apply TK)|(apply cU;apply TK;apply TK;apply TK;apply TK;(first|omega|decide);apply TK;apply TK;(first|omega|decide);apply TK;apply TK)|(apply mN;apply TK;apply TK;apply TK;(first|omega|decide);apply TK;apply TK;(first|omega|decide);apply TK;apply TK;apply TK)))
  |apply ba
  |apply al
  |apply an
  |apply aG
  |apply bp
  |apply ck
  |apply aF
  |apply cP
  |apply aw
  |apply aS
  |apply bk
  |apply aZ
  |apply aQ
  |(apply bu;apply TK)
  |(apply bF;apply TK)
  |(apply bZ;apply TK;(first|(apply aR<;>apply TK)|(apply aP<;>apply TK)|(apply bP<;>apply TK)))
  |apply ay
  |(apply bw;kernel_rfl)
  |(apply dx;(first|(apply ab;apply TK)|(apply ae;apply TK;apply TK;apply TK));apply TK;first|(apply bB<;>apply TK)|(apply aV<;>apply TK)|(apply b8;apply TK)|(apply b7;apply TK)|(apply aO;intro _;(first|(apply aB<;>apply TK)|(apply aI<;>apply TK)|(apply aH<;>apply TK)|(apply aE<;>apply TK)|(apply aC<;>apply TK)|(apply aX<;>apply TK)|(apply bm<;>apply TK)|(apply ah<;>(first|apply TK|omega))|(apply cv<;>apply TK)|(apply aq<;>apply TK)|(apply aN<;>apply TK)|(apply bK<;>apply TK)|(apply cx<;>apply TK)|(apply cU;apply TK;apply TK;apply TK;apply TK;(first|omega|decide);apply TK;apply TK;(first|omega|decide);apply TK;apply TK)|(apply mN;apply TK;apply TK;apply TK;(first|omega|decide);apply TK;apply TK;(first|omega|decide);apply TK;apply TK;apply TK))))
  |(apply az;(first|(apply ab;apply TK)|(apply ae;apply TK;apply TK;apply TK));apply TK;apply TK;apply TK;exact(hnear (false,false)))
  |(apply cM;apply TK;intro _;rotate_left 1;intro _;rotate_left 1)
  |(apply eR;apply TK;intro _;rotate_left 1;intro _;rotate_left 1))
  ·rename_i a1
   exact⟨1,⟨by omega,hH hi a1⟩,by omega,(by apply bJ;refine⟨?_, ?_, ?_, ?_, ?_⟩<;>repeat' (first|exact trivial|apply And.intro|apply TK|(apply gz;apply TK;first|omega|assumption)|(apply gL;apply TK;repeat' (first|apply TK|apply cf|(apply cj;first|apply TK|omega|assumption)))))⟩
  ·rename_i a1 a2
   rw[jG hi a1 a2]
   ((try apply aM);first|(focus (apply fv;apply TK;(first|(apply gx;apply TK)|(apply ep<;>apply TK));(first|(apply gx;apply TK)|(apply ep<;>apply TK));all_goals try apply TK)))
  ·rename_i a1 a2
   exact⟨1,⟨by omega,dU hi a1 a2⟩,by omega,(by apply bJ;refine⟨?_, ?_, ?_, ?_, ?_⟩<;>repeat' (first|exact trivial|apply And.intro|apply TK|(apply gz;apply TK;first|omega|assumption)|(apply gL;apply TK;repeat' (first|apply TK|apply cf|(apply cj;first|apply TK|omega|assumption)))))⟩
 ·repeat' (first
  |(apply bT;apply TK;apply TK;(first|(apply aB<;>apply TK)|(apply aI<;>apply TK)|(apply aH<;>apply TK)|(apply aE<;>apply TK)|(apply aC<;>apply TK)|(apply aX<;>apply TK)|(apply bm<;>apply TK)|(apply ah<;>(first|apply TK|omega))|(apply cv<;>apply TK)|(apply aq<;>apply TK)|(apply aN<;>apply TK)|(apply bK<;>apply TK)|(apply cx<;>apply TK)|(apply cU;apply TK;apply TK;apply TK;apply TK;(first|omega|decide);apply TK;apply TK;(first|omega|decide);apply TK;apply TK)|(apply mN;apply TK;apply TK;apply TK;(first|omega|decide);apply TK;apply TK;(first|omega|decide);apply TK;apply TK;apply TK)))
  |apply ba
  |apply al
  |apply an
  |apply aG
  |apply bp
  |apply ck
  |apply aF
  |apply cP
  |apply aw
  |apply aS
  |apply bk
  |apply aZ
  |apply aQ
  |(apply bu;apply TK)
  |(apply bF;apply TK)
  |(apply bZ;apply TK;(first|(apply aR<;>apply TK)|(apply aP<;>apply TK)|(apply bP<;>apply TK)))
  |apply ay
  |(apply bw;kernel_rfl)
  |(apply dx;(first|(apply ab;apply TK)|(apply ae;apply TK;apply TK;apply TK));apply TK;first|(apply bB<;>apply TK)|(apply aV<;>apply TK)|(apply b8;apply TK)|(apply b7;apply TK)|(apply aO;intro _;(first|(apply aB<;>apply TK)|(apply aI<;>apply TK)|(apply aH<;>apply TK)|(apply aE<;>apply TK)|(apply aC<;>apply TK)|(apply aX<;>apply TK)|(apply bm<;>apply TK)|(apply ah<;>(first|apply TK|omega))|(apply cv<;>apply TK)|(apply aq<;>apply TK)|(apply aN<;>apply TK)|(apply bK<;>apply TK)|(apply cx<;>apply TK)|(apply cU;apply TK;apply TK;apply TK;apply TK;(first|omega|decide);apply TK;apply TK;(first|omega|decide);apply TK;apply TK)|(apply mN;apply TK;apply TK;apply TK;(first|omega|decide);apply TK;apply TK;(first|omega|decide);apply TK;apply TK;apply TK))))
  |(apply az;(first|(apply ab;apply TK)|(apply ae;apply TK;apply TK;apply TK));apply TK;apply TK;apply TK;exact(hnear (true,false)))
  |(apply cM;apply TK;intro _;rotate_left 1;intro _;rotate_left 1)
  |(apply eR;apply TK;intro _;rotate_left 1;intro _;rotate_left 1))
  ·rename_i a1
   exact⟨2,⟨by omega,hH hi a1⟩,by omega,(by apply bJ;refine⟨?_, ?_, ?_, ?_, ?_⟩<;>repeat' (first|exact trivial|apply And.intro|apply TK|(apply gz;apply TK;first|omega|assumption)|(apply gL;apply TK;repeat' (first|apply TK|apply cf|(apply cj;first|apply TK|omega|assumption)))))⟩
  ·rename_i a1 a2
   rw[jG hi a1 a2]
   ((try apply aM);first|(focus (apply fv;apply TK;(first|(apply gx;apply TK)|(apply ep<;>apply TK));(first|(apply gx;apply TK)|(apply ep<;>apply TK));all_goals try apply TK)))
  ·rename_i a1 a2
   exact⟨2,⟨by omega,dU hi a1 a2⟩,by omega,(by apply bJ;refine⟨?_, ?_, ?_, ?_, ?_⟩<;>repeat' (first|exact trivial|apply And.intro|apply TK|(apply gz;apply TK;first|omega|assumption)|(apply gL;apply TK;repeat' (first|apply TK|apply cf|(apply cj;first|apply TK|omega|assumption)))))⟩
 ·repeat' (first
  |(apply bT;apply TK;apply TK;(first|(apply aB<;>apply TK)|(apply aI<;>apply TK)|(apply aH<;>apply TK)|(apply aE<;>apply TK)|(apply aC<;>apply TK)|(apply aX<;>apply TK)|(apply bm<;>apply TK)|(apply ah<;>(first|apply TK|omega))|(apply cv<;>apply TK)|(apply aq<;>apply TK)|(apply aN<;>apply TK)|(apply bK<;>apply TK)|(apply cx<;>apply TK)|(apply cU;apply TK;apply TK;apply TK;apply TK;(first|omega|decide);apply TK;apply TK;(first|omega|decide);apply TK;apply TK)|(apply mN;apply TK;apply TK;apply TK;(first|omega|decide);apply TK;apply TK;(first|omega|decide);apply TK;apply TK;apply TK)))
  |apply ba
  |apply al
  |apply an
  |apply aG
  |apply bp
  |apply ck
  |apply aF
  |apply cP
  |apply aw
  |apply aS
  |apply bk
  |apply aZ
  |apply aQ
  |(apply bu;apply TK)
  |(apply bF;apply TK)
  |(apply bZ;apply TK;(first|(apply aR<;>apply TK)|(apply aP<;>apply TK)|(apply bP<;>apply TK)))
  |apply ay
  |(apply bw;kernel_rfl)
  |(apply dx;(first|(apply ab;apply TK)|(apply ae;apply TK;apply TK;apply TK));apply TK;first|(apply bB<;>apply TK)|(apply aV<;>apply TK)|(apply b8;apply TK)|(apply b7;apply TK)|(apply aO;intro _;(first|(apply aB<;>apply TK)|(apply aI<;>apply TK)|(apply aH<;>apply TK)|(apply aE<;>apply TK)|(apply aC<;>apply TK)|(apply aX<;>apply TK)|(apply bm<;>apply TK)|(apply ah<;>(first|apply TK|omega))|(apply cv<;>apply TK)|(apply aq<;>apply TK)|(apply aN<;>apply TK)|(apply bK<;>apply TK)|(apply cx<;>apply TK)|(apply cU;apply TK;apply TK;apply TK;apply TK;(first|omega|decide);apply TK;apply TK;(first|omega|decide);apply TK;apply TK)|(apply mN;apply TK;apply TK;apply TK;(first|omega|decide);apply TK;apply TK;(first|omega|decide);apply TK;apply TK;apply TK))))
  |(apply az;(first|(apply ab;apply TK)|(apply ae;apply TK;apply TK;apply TK));apply TK;apply TK;apply TK;exact(hnear (false,true)))
  |(apply cM;apply TK;intro _;rotate_left 1;intro _;rotate_left 1)
  |(apply eR;apply TK;intro _;rotate_left 1;intro _;rotate_left 1))
  ·rename_i a1
   exact⟨3,⟨by omega,hH hi a1⟩,by omega,(by apply bJ;refine⟨?_, ?_, ?_, ?_, ?_⟩<;>repeat' (first|exact trivial|apply And.intro|apply TK|(apply gz;apply TK;first|omega|assumption)|(apply gL;apply TK;repeat' (first|apply TK|apply cf|(apply cj;first|apply TK|omega|assumption)))))⟩
  ·rename_i a1 a2
   rw[jG hi a1 a2]
   ((try apply aM);first|(focus (apply fv;apply TK;(first|(apply gx;apply TK)|(apply ep<;>apply TK));(first|(apply gx;apply TK)|(apply ep<;>apply TK));all_goals try apply TK)))
  ·rename_i a1 a2
   exact⟨3,⟨by omega,dU hi a1 a2⟩,by omega,(by apply bJ;refine⟨?_, ?_, ?_, ?_, ?_⟩<;>repeat' (first|exact trivial|apply And.intro|apply TK|(apply gz;apply TK;first|omega|assumption)|(apply gL;apply TK;repeat' (first|apply TK|apply cf|(apply cj;first|apply TK|omega|assumption)))))⟩
 ·repeat' (first
  |(apply bT;apply TK;apply TK;(first|(apply aB<;>apply TK)|(apply aI<;>apply TK)|(apply aH<;>apply TK)|(apply aE<;>apply TK)|(apply aC<;>apply TK)|(apply aX<;>apply TK)|(apply bm<;>apply TK)|(apply ah<;>(first|apply TK|omega))|(apply cv<;>apply TK)|(apply aq<;>apply TK)|(apply aN<;>apply TK)|(apply bK<;>apply TK)|(apply cx<;>apply TK)|(apply cU;apply TK;apply TK;apply TK;apply TK;(first|omega|decide);apply TK;apply TK;(first|omega|decide);apply TK;apply TK)|(apply mN;apply TK;apply TK;apply TK;(first|omega|decide);apply TK;apply TK;(first|omega|decide);apply TK;apply TK;apply TK)))
  |apply ba
  |apply al
  |apply an
  |apply aG
  |apply bp
  |apply ck
  |apply aF
  |apply cP
  |apply aw
  |apply aS
  |apply bk
  |apply aZ
  |apply aQ
  |(apply bu;apply TK)
  |(apply bF;apply TK)
  |(apply bZ;apply TK;(first|(apply aR<;>apply TK)|(apply aP<;>apply TK)|(apply bP<;>apply TK)))
  |apply ay
  |(apply bw;kernel_rfl)
  |(apply dx;(first|(apply ab;apply TK)|(apply ae;apply TK;apply TK;apply TK));apply TK;first|(apply bB<;>apply TK)|(apply aV<;>apply TK)|(apply b8;apply TK)|(apply b7;apply TK)|(apply aO;intro _;(first|(apply aB<;>apply TK)|(apply aI<;>apply TK)|(apply aH<;>apply TK)|(apply aE<;>apply TK)|(apply aC<;>apply TK)|(apply aX<;>apply TK)|(apply bm<;>apply TK)|(apply ah<;>(first|apply TK|omega))|(apply cv<;>apply TK)|(apply aq<;>apply TK)|(apply aN<;>apply TK)|(apply bK<;>apply TK)|(apply cx<;>apply TK)|(apply cU;apply TK;apply TK;apply TK;apply TK;(first|omega|decide);apply TK;apply TK;(first|omega|decide);apply TK;apply TK)|(apply mN;apply TK;apply TK;apply TK;(first|omega|decide);apply TK;apply TK;(first|omega|decide);apply TK;apply TK;apply TK))))
  |(apply az;(first|(apply ab;apply TK)|(apply ae;apply TK;apply TK;apply TK));apply TK;apply TK;apply TK;exact(hnear (true,true)))
  |(apply cM;apply TK;intro _;rotate_left 1;intro _;rotate_left 1)
  |(apply eR;apply TK;intro _;rotate_left 1;intro _;rotate_left 1))
  ·rename_i a1
   exact⟨4,⟨by omega,hH hi a1⟩,by omega,(by apply bJ;refine⟨?_, ?_, ?_, ?_, ?_⟩<;>repeat' (first|exact trivial|apply And.intro|apply TK|(apply gz;apply TK;first|omega|assumption)|(apply gL;apply TK;repeat' (first|apply TK|apply cf|(apply cj;first|apply TK|omega|assumption)))))⟩
  ·rename_i a1 a2
   rw[jG hi a1 a2]
   ((try apply aM);first|(focus (apply fv;apply TK;(first|(apply gx;apply TK)|(apply ep<;>apply TK));(first|(apply gx;apply TK)|(apply ep<;>apply TK));all_goals try apply TK)))
  ·rename_i a1 a2
   exact⟨4,⟨by omega,dU hi a1 a2⟩,by omega,(by apply bJ;refine⟨?_, ?_, ?_, ?_, ?_⟩<;>repeat' (first|exact trivial|apply And.intro|apply TK|(apply gz;apply TK;first|omega|assumption)|(apply gL;apply TK;repeat' (first|apply TK|apply cf|(apply cj;first|apply TK|omega|assumption)))))⟩
 ·have hR:R=none:=hi.symm
  rw[hR]
  repeat' (first
  |(apply bT;apply TK;apply TK;(first|(apply aB<;>apply TK)|(apply aI<;>apply TK)|(apply aH<;>apply TK)|(apply aE<;>apply TK)|(apply aC<;>apply TK)|(apply aX<;>apply TK)|(apply bm<;>apply TK)|(apply ah<;>(first|apply TK|omega))|(apply cv<;>apply TK)|(apply aq<;>apply TK)|(apply aN<;>apply TK)|(apply bK<;>apply TK)|(apply cx<;>apply TK)|(apply cU;apply TK;apply TK;apply TK;apply TK;(first|omega|decide);apply TK;apply TK;(first|omega|decide);apply TK;apply TK)|(apply mN;apply TK;apply TK;apply TK;(first|omega|decide);apply TK;apply TK;(first|omega|decide);apply TK;apply TK;apply TK)))
  |apply ba
  |apply al
  |apply an
  |apply aG
  |apply bp
  |apply ck
  |apply aF
  |apply cP
  |apply aw
  |apply aS
  |apply bk
  |apply aZ
  |apply aQ
  |(apply bu;apply TK)
  |(apply bF;apply TK)
  |(apply bZ;apply TK;(first|(apply aR<;>apply TK)|(apply aP<;>apply TK)|(apply bP<;>apply TK)))
  |apply ay
  |(apply bw;kernel_rfl)
  |(apply dx;(first|(apply ab;apply TK)|(apply ae;apply TK;apply TK;apply TK));apply TK;first|(apply bB<;>apply TK)|(apply aV<;>apply TK)|(apply b8;apply TK)|(apply b7;apply TK)|(apply aO;intro _;(first|(apply aB<;>apply TK)|(apply aI<;>apply TK)|(apply aH<;>apply TK)|(apply aE<;>apply TK)|(apply aC<;>apply TK)|(apply aX<;>apply TK)|(apply bm<;>apply TK)|(apply ah<;>(first|apply TK|omega))|(apply cv<;>apply TK)|(apply aq<;>apply TK)|(apply aN<;>apply TK)|(apply bK<;>apply TK)|(apply cx<;>apply TK)|(apply cU;apply TK;apply TK;apply TK;apply TK;(first|omega|decide);apply TK;apply TK;(first|omega|decide);apply TK;apply TK)|(apply mN;apply TK;apply TK;apply TK;(first|omega|decide);apply TK;apply TK;(first|omega|decide);apply TK;apply TK;apply TK))))
  |(apply cM;apply TK;intro _;rotate_left 1;intro _;rotate_left 1)
  |(apply eR;apply TK;intro _;rotate_left 1;intro _;rotate_left 1))
  ((try apply aM);first|(focus (apply fv;apply TK;(first|(apply gx;apply TK)|(apply ep<;>apply TK));(first|(apply gx;apply TK)|(apply ep<;>apply TK));all_goals try apply TK)))
end Go.Proofs.YtafnhieaeejlcaaDoor
namespace Go.Proofs.YtafnhieaeejlcaaDoor
open Go Go.Ab
set_option maxRecDepth 100000
set_option maxHeartbeats 4000000
attribute [local irreducible] W WL eu kX fh eo gR WG FQ Want jO WI pM fQ eC
def IQ(c:Convoy):D:= .sl 14 c.trucks.length fun k=>gC (c.trucks.getD k default) c.len
theorem Cj(c:Convoy):Pure (IQ c):= .sl _ _ _ fun _ _ d hd=>qM _ _ d hd
theorem Sq(c:Convoy)(hc:CR c):au cJ 89 [.agg (aL c)] (IQ c):=by
 refine aD (fn:=Tryd.f89) Tryd.func89 rfl (by kernel_rfl) rfl ?_ ?_ ?_
 ·exact af.cons (.agg _ (bn c)) af.nil
 ·exact Cj c
 intro w κ
 have hn:=hc.ok.n
 repeat' (first
  |(apply bT;apply TK;apply TK;(first|(apply aB<;>apply TK)|(apply aI<;>apply TK)|(apply aH<;>apply TK)|(apply aE<;>apply TK)|(apply aC<;>apply TK)|(apply ah<;>(first|apply TK|omega))|(apply bd<;>apply TK)|(apply aq<;>apply TK)|(apply dr<;>apply TK)|(apply dm<;>apply TK)|(apply dt<;>apply TK)))
  |apply ba
  |apply al
  |apply an
  |apply aG
  |apply bp
  |apply aF
  |apply aw
  |apply aS
  |apply bk
  |apply aZ
  |apply aQ
  |(apply bZ;apply TK;(first|(apply aR<;>apply TK)))
  |apply ay
  |(apply bw;kernel_rfl)
  |(apply dx;(first|(apply ab;apply TK)|(apply ae;apply TK;apply TK;apply TK));apply TK;first|(apply bB<;>apply TK)|(apply aV<;>apply TK)|(apply b8;apply TK)|(apply b7;apply TK)|(apply aO;intro _;(first|(apply aB<;>apply TK)|(apply aI<;>apply TK)|(apply aH<;>apply TK)|(apply aE<;>apply TK)|(apply aC<;>apply TK)|(apply ah<;>(first|apply TK|omega))|(apply bd<;>apply TK)|(apply aq<;>apply TK)|(apply dr<;>apply TK)|(apply dm<;>apply TK)|(apply dt<;>apply TK))))
  |(apply ft;(first|(apply ab;apply TK)|(apply ae;apply TK;apply TK;apply TK));(first|(apply g4<;>apply TK)))
  |(apply cM;apply TK;intro _;rotate_left 1;intro _;rotate_left 1))
 refine qU (qz 3 3 132 14 (fun k=>gC (c.trucks.getD k default) c.len) rfl) ?_
 refine dJ [1,2,7] [1,2] (fun k:Nat=>[(3, .os 3 (k+1)),(8, .int .i64 k)]) (fun k=>[(3,k+1)]) (fun k=>[(3, .arr 132 14 k (fun k=>gC (c.trucks.getD k default) c.len))])
  (fun k=>k≤c.trucks.length) (fun k=>c.trucks.length-k) 0 (Nat.zero_le _) (by refine⟨?_, ?_, ?_⟩<;>repeat' (first|exact trivial|apply And.intro|apply TK|(apply gz;apply TK;first|omega|assumption)|(apply gL;apply TK;repeat' (first|apply TK|apply cf|(apply cj;first|apply TK|omega|assumption))))) (fun k h hk=> ?_)
 have hr:(k:Int)<c.trucks.length→fc c.len (c.trucks.getD k default):=fun h=>hc.r _ (by omega)
 repeat' (first
  |(apply bT;apply TK;apply TK;(first|(apply aB<;>apply TK)|(apply aI<;>apply TK)|(apply aH<;>apply TK)|(apply aE<;>apply TK)|(apply aC<;>apply TK)|(apply ah<;>(first|apply TK|omega))|(apply bd<;>apply TK)|(apply aq<;>apply TK)|(apply dr<;>apply TK)|(apply dm<;>apply TK)|(apply dt<;>apply TK)))
  |apply ba
  |apply al
  |apply an
  |apply aG
  |apply bp
  |apply aF
  |apply aw
  |apply aS
  |apply bk
  |apply aZ
  |apply aQ
  |(apply bZ;apply TK;(first|(apply aR<;>apply TK)))
  |apply ay
  |(apply bw;kernel_rfl)
  |(apply dx;(first|(apply ab;apply TK)|(apply ae;apply TK;apply TK;apply TK));apply TK;first|(apply bB<;>apply TK)|(apply aV<;>apply TK)|(apply b8;apply TK)|(apply b7;apply TK)|(apply aO;intro _;(first|(apply aB<;>apply TK)|(apply aI<;>apply TK)|(apply aH<;>apply TK)|(apply aE<;>apply TK)|(apply aC<;>apply TK)|(apply ah<;>(first|apply TK|omega))|(apply bd<;>apply TK)|(apply aq<;>apply TK)|(apply dr<;>apply TK)|(apply dm<;>apply TK)|(apply dt<;>apply TK))))
  |(apply az;(first|(apply ab;apply TK)|(apply ae;apply TK;apply TK;apply TK));apply TK;apply TK;apply TK;exact(MI c k false (by omega)))
  |(apply az;(first|(apply ab;apply TK)|(apply ae;apply TK;apply TK;apply TK));apply TK;apply TK;apply TK;exact(MI c k true (by omega)))
  |(apply az;(first|(apply ab;apply TK)|(apply ae;apply TK;apply TK;apply TK));apply TK;apply TK;apply TK;exact(MD (bf (c.trucks.getD k default) false) c.len ((hr (by assumption)).free false)))
  |(apply az;(first|(apply ab;apply TK)|(apply ae;apply TK;apply TK;apply TK));apply TK;apply TK;apply TK;exact(MD (bf (c.trucks.getD k default) true) c.len ((hr (by assumption)).free true)))
  |(apply ft;(first|(apply ab;apply TK)|(apply ae;apply TK;apply TK;apply TK));(first|(refine ur (f' :=fun k=>gC (c.trucks.getD k default) c.len) rfl rfl rfl rfl rfl rfl rfl rfl rfl rfl rfl rfl rfl rfl rfl (by show(k+1)*176≤_;omega) (by omega) rfl (fun i hi=>rfl) (fun i hi=>by(obtain rfl:i=0:=by omega);rfl))|(apply g4<;>apply TK)))
  |(apply cM;apply TK;intro _;rotate_left 1;intro _;rotate_left 1))
 ·exact⟨k+1,by omega,by omega,(by apply bJ;refine⟨?_, ?_, ?_, ?_, ?_⟩<;>repeat' (first|exact trivial|apply And.intro|apply TK|(apply gz;apply TK;first|omega|assumption)|(apply gL;apply TK;repeat' (first|apply TK|apply cf|(apply cj;first|apply TK|omega|assumption)))))⟩
 ·obtain rfl:k=c.trucks.length:=by omega
  refine oc (j6 2 (s:=3) rfl rfl rfl) (aM ?_)
  ((try apply aM);first|(apply Jr;apply TK;apply TK;apply TK;try apply TK))
def fu{α:Type}(f:Nat→Option α):Nat→Nat→Option α
 |0,_=>none
 |n+1,k=>match f k with
  |some a=>some a
  |none=>fu f n (k+1)
section
variable {α:Type} {f:Nat→Option α} {n k:Nat} {R:Option α}
theorem iZ(hi:fu f (n-k) k=R)(h:¬k<n):R=none:=by rw[←hi,show n-k=0 by omega];rfl
theorem dF{a:α}(hi:fu f (n-k) k=R)(h:k<n)(hp:f k=some a):R=some a:=by
 rw[←hi,show n-k=(n-(k+1))+1 by omega,fu,hp]
theorem g9(hi:fu f (n-k) k=R)(h:k<n)(hp:f k=none):fu f (n-(k+1)) (k+1)=R:=by
 rw[←hi,show n-k=(n-(k+1))+1 by omega,fu,hp]
end
def ql(c:Convoy)(m i k:Nat):Option bj:=(nI c.gap c.fails (c.trucks.getD i default) (c.trucks.getD k default) c.len m).map fun x=>{x with i:=i,k:=k}
def qo(c:Convoy)(m i:Nat):Option bj:=fu (ql c m i) (c.trucks.length-(i+1)) (i+1)
def qd(c:Convoy)(m:Nat):Option bj:=fu (qo c m) c.trucks.length 0
def eD(c:Convoy):Nat:=(dy (fA c) c.trucks.length).toNat
def cg(c:Convoy):Option bj:=fu (qd c) (eD c+1) 0
theorem Ik{c:Convoy}(hc:CR c){k:Nat}(hk:k<c.trucks.length):0≤fA c k∧fA c k≤21000:=(E7 (hc.ok.t k hk)).2.2
theorem me{c:Convoy}(hc:CR c):∀k,k≤c.trucks.length→0≤dy (fA c) k∧dy (fA c) k≤21000
 |0,_=>by simp only[dy];omega
 |k+1,h=>by
  have a:=me hc k (by omega)
  have b:=Ik hc (k:=k) (by omega)
  simp only[dy];omega
attribute [local irreducible] dy fA ql qo qd nI
theorem SJ(c:Convoy)(hc:CR c):au cJ 70 [.agg (aL c)] (.tup [.agg (cI (xS (cg c))), .bool (cg c).isSome]):=by
 refine aD (fn:=Tryd.f70) Tryd.func70 rfl (by kernel_rfl) rfl ?_ ?_ ?_
 ·exact af.cons (.agg _ (bn c)) af.nil
 ·exact .tup _ (af.cons (.agg _ (jW _)) (af.cons (.bool _) af.nil))
 intro w κ
 have hn:=hc.ok.n
 have hmax0:=mX (fA c)
 repeat' (first
  |(apply bT;apply TK;apply TK;(first|(apply aB<;>apply TK)|(apply aI<;>apply TK)|(apply aH<;>apply TK)|(apply aE<;>apply TK)|(apply aC<;>apply TK)|(apply aX<;>apply TK)|(apply bm<;>apply TK)|(apply ah<;>(first|apply TK|omega))|(apply bd<;>apply TK)|(apply cv<;>apply TK)|(apply cq<;>(first|apply TK|omega))|(apply aq<;>apply TK)|(apply aN<;>apply TK)|(apply bK<;>apply TK)|(apply dL<;>apply TK)|(apply cQ<;>apply TK)|(apply lg<;>apply TK)|(apply cx<;>apply TK)|(apply pO<;>apply TK)|(apply iI<;>apply TK)|(apply iF<;>apply TK)|(apply cU;apply TK;apply TK;apply TK;apply TK;(first|omega|decide);apply TK;apply TK;(first|omega|decide);apply TK;apply TK)))
  |apply ba
  |apply al
  |apply an
  |apply aG
  |apply bp
  |apply ck
  |apply aF
  |apply cP
  |apply aw
  |apply aS
  |apply bk
  |apply aZ
  |apply aQ
  |(apply bu;apply TK)
  |(apply bF;apply TK)
  |(apply aA;apply TK;apply TK;rotate_left 1;apply TK;rotate_right 1;exact(Sq c hc);apply TK)
  |(apply bZ;apply TK;(first|(apply aR<;>apply TK)|(apply aP<;>apply TK)|(apply bP<;>apply TK)))
  |apply ay
  |(apply bw;kernel_rfl)
  |(apply dx;(first|(apply ab;apply TK)|(apply ae;apply TK;apply TK;apply TK));apply TK;first|(apply bB<;>apply TK)|(apply aV<;>apply TK)|(apply b8;apply TK)|(apply b7;apply TK)|(apply aO;intro _;(first|(apply aB<;>apply TK)|(apply aI<;>apply TK)|(apply aH<;>apply TK)|(apply aE<;>apply TK)|(apply aC<;>apply TK)|(apply aX<;>apply TK)|(apply bm<;>apply TK)|(apply ah<;>(first|apply TK|omega))|(apply bd<;>apply TK)|(apply cv<;>apply TK)|(apply cq<;>(first|apply TK|omega))|(apply aq<;>apply TK)|(apply aN<;>apply TK)|(apply bK<;>apply TK)|(apply dL<;>apply TK)|(apply cQ<;>apply TK)|(apply lg<;>apply TK)|(apply cx<;>apply TK)|(apply pO<;>apply TK)|(apply iI<;>apply TK)|(apply iF<;>apply TK)|(apply cU;apply TK;apply TK;apply TK;apply TK;(first|omega|decide);apply TK;apply TK;(first|omega|decide);apply TK;apply TK))))
  |(apply sk;(first|(apply ab;apply TK)|(apply ae;apply TK;apply TK;apply TK));apply TK;apply TK;apply TK;exact(Sq c hc);(focus ((repeat' (first|exact je.nil|refine je.cons _ _ _ _ ?_ ?_|exact Fz.os _ _ _ _ _ _ rfl rfl|exact Fz.bx _ _ _ _ rfl rfl|refine Fz.fn _ _ _ ?_|exact Fz.same _|exact dn _ _));done));apply TK)
  |(apply ft;(first|(apply ab;apply TK)|(apply ae;apply TK;apply TK;apply TK));(first|(apply cH<;>apply TK)|(apply dV<;>apply TK)))
  |(apply cM;apply TK;intro _;rotate_left 1;intro _;rotate_left 1))
 refine dJ [2,3,4,6,24,25] [2] (fun k:Nat=>[(7, .int .i64 (dy (fA c) k)),(26, .int .i64 k)]) (fun k=>[]) (fun k=>[])
  (fun k=>k≤c.trucks.length) (fun k=>c.trucks.length-k) 0 (Nat.zero_le _) (by refine⟨?_, ?_, ?_⟩<;>repeat' (first|exact trivial|apply And.intro|apply TK|(apply gz;apply TK;first|omega|assumption)|(apply gL;apply TK;repeat' (first|apply TK|apply cf|(apply cj;first|apply TK|omega|assumption))))) (fun k h hk=> ?_)
 have hmk:=Ge (fA c) k
 have hr:(k:Int)<c.trucks.length→fc c.len (c.trucks.getD k default):=fun h=>hc.r _ (by omega)
 have k3:(k:Int)<c.trucks.length→au cJ 98 [.agg (dj (bf (c.trucks.getD k default) false) c.len)] (.int .i64 (fA c k)):=fun h=>by rw[sE];exact Su _ _ (hr h)
 repeat' (first
  |(apply bT;apply TK;apply TK;(first|(apply aB<;>apply TK)|(apply aI<;>apply TK)|(apply aH<;>apply TK)|(apply aE<;>apply TK)|(apply aC<;>apply TK)|(apply aX<;>apply TK)|(apply bm<;>apply TK)|(apply ah<;>(first|apply TK|omega))|(apply bd<;>apply TK)|(apply cv<;>apply TK)|(apply cq<;>(first|apply TK|omega))|(apply aq<;>apply TK)|(apply aN<;>apply TK)|(apply bK<;>apply TK)|(apply dL<;>apply TK)|(apply cQ<;>apply TK)|(apply lg<;>apply TK)|(apply cx<;>apply TK)|(apply pO<;>apply TK)|(apply iI<;>apply TK)|(apply iF<;>apply TK)|(apply cU;apply TK;apply TK;apply TK;apply TK;(first|omega|decide);apply TK;apply TK;(first|omega|decide);apply TK;apply TK)))
  |apply ba
  |apply al
  |apply an
  |apply aG
  |apply bp
  |apply ck
  |apply aF
  |apply cP
  |apply aw
  |apply aS
  |apply bk
  |apply aZ
  |apply aQ
  |(apply bu;apply TK)
  |(apply bF;apply TK)
  |(apply aA;apply TK;apply TK;rotate_left 1;apply TK;rotate_right 1;exact(k3 (by assumption));apply TK)
  |(apply bZ;apply TK;(first|(apply aR<;>apply TK)|(apply aP<;>apply TK)|(apply bP<;>apply TK)))
  |apply ay
  |(apply bw;kernel_rfl)
  |(apply dx;(first|(apply ab;apply TK)|(apply ae;apply TK;apply TK;apply TK));apply TK;first|(apply bB<;>apply TK)|(apply aV<;>apply TK)|(apply b8;apply TK)|(apply b7;apply TK)|(apply aO;intro _;(first|(apply aB<;>apply TK)|(apply aI<;>apply TK)|(apply aH<;>apply TK)|(apply aE<;>apply TK)|(apply aC<;>apply TK)|(apply aX<;>apply TK)|(apply bm<;>apply TK)|(apply ah<;>(first|apply TK|omega))|(apply bd<;>apply TK)|(apply cv<;>apply TK)|(apply cq<;>(first|apply TK|omega))|(apply aq<;>apply TK)|(apply aN<;>apply TK)|(apply bK<;>apply TK)|(apply dL<;>apply TK)|(apply cQ<;>apply TK)|(apply lg<;>apply TK)|(apply cx<;>apply TK)|(apply pO<;>apply TK)|(apply iI<;>apply TK)|(apply iF<;>apply TK)|(apply cU;apply TK;apply TK;apply TK;apply TK;(first|omega|decide);apply TK;apply TK;(first|omega|decide);apply TK;apply TK))))
  |(apply sk;(first|(apply ab;apply TK)|(apply ae;apply TK;apply TK;apply TK));apply TK;apply TK;apply TK;exact(k3 (by assumption));(focus ((repeat' (first|exact je.nil|refine je.cons _ _ _ _ ?_ ?_|exact Fz.os _ _ _ _ _ _ rfl rfl|exact Fz.bx _ _ _ _ rfl rfl|refine Fz.fn _ _ _ ?_|exact Fz.same _|exact dn _ _));done));apply TK)
  |(apply ft;(first|(apply ab;apply TK)|(apply ae;apply TK;apply TK;apply TK));(first|(apply cH<;>apply TK)|(apply dV<;>apply TK)))
  |(apply cM;apply TK;intro _;rotate_left 1;intro _;rotate_left 1))
 ·exact⟨k+1,by omega,by omega,(by apply bJ;refine⟨?_, ?_, ?_, ?_, ?_⟩<;>repeat' (first|exact trivial|apply And.intro|apply TK|(apply gz;apply TK;first|omega|assumption)|(apply gL;apply TK;repeat' (first|apply TK|apply cf|(apply cj;first|apply TK|omega|assumption)))))⟩
 obtain rfl:k=c.trucks.length:=by omega
 clear hr k3 hmk hmax0
 obtain⟨mb1,mb2⟩:=me hc c.trucks.length (Nat.le_refl _)
 have hlast:((eD c:Nat):Int)=dy (fA c) c.trucks.length:=by unfold eD;omega
 refine dJ [2,4,6,7] [] (fun m:Nat=>[(3, .bool false),(10, .int .i64 m)]) (fun m=>[(2,1)]) (fun m=>[(2, .box (cI default))])
  (fun m=>m≤eD c+1∧fu (qd c) (eD c+1-m) m=cg c) (fun m=>eD c+1-m) 0 ⟨Nat.zero_le _,rfl⟩ (by refine⟨?_, ?_, ?_⟩<;>repeat' (first|exact trivial|apply And.intro|apply TK|(apply gz;apply TK;first|omega|assumption)|(apply gL;apply TK;repeat' (first|apply TK|apply cf|(apply cj;first|apply TK|omega|assumption))))) (fun m h1 hm=> ?_)
 obtain⟨hm1,hm2⟩:=hm
 repeat' (first
  |(apply bT;apply TK;apply TK;(first|(apply aB<;>apply TK)|(apply aI<;>apply TK)|(apply aH<;>apply TK)|(apply aE<;>apply TK)|(apply aC<;>apply TK)|(apply aX<;>apply TK)|(apply bm<;>apply TK)|(apply ah<;>(first|apply TK|omega))|(apply bd<;>apply TK)|(apply cv<;>apply TK)|(apply cq<;>(first|apply TK|omega))|(apply aq<;>apply TK)|(apply aN<;>apply TK)|(apply bK<;>apply TK)|(apply dL<;>apply TK)|(apply cQ<;>apply TK)|(apply lg<;>apply TK)|(apply cx<;>apply TK)|(apply pO<;>apply TK)|(apply iI<;>apply TK)|(apply iF<;>apply TK)|(apply cU;apply TK;apply TK;apply TK;apply TK;(first|omega|decide);apply TK;apply TK;(first|omega|decide);apply TK;apply TK)))
  |apply ba
  |apply al
  |apply an
  |apply aG
  |apply bp
  |apply ck
  |apply aF
  |apply cP
  |apply aw
  |apply aS
  |apply bk
  |apply aZ
  |apply aQ
  |(apply bu;apply TK)
  |(apply bF;apply TK)
  |(apply bZ;apply TK;(first|(apply aR<;>apply TK)|(apply aP<;>apply TK)|(apply bP<;>apply TK)))
  |apply ay
  |(apply bw;kernel_rfl)
  |(apply dx;(first|(apply ab;apply TK)|(apply ae;apply TK;apply TK;apply TK));apply TK;first|(apply bB<;>apply TK)|(apply aV<;>apply TK)|(apply b8;apply TK)|(apply b7;apply TK)|(apply aO;intro _;(first|(apply aB<;>apply TK)|(apply aI<;>apply TK)|(apply aH<;>apply TK)|(apply aE<;>apply TK)|(apply aC<;>apply TK)|(apply aX<;>apply TK)|(apply bm<;>apply TK)|(apply ah<;>(first|apply TK|omega))|(apply bd<;>apply TK)|(apply cv<;>apply TK)|(apply cq<;>(first|apply TK|omega))|(apply aq<;>apply TK)|(apply aN<;>apply TK)|(apply bK<;>apply TK)|(apply dL<;>apply TK)|(apply cQ<;>apply TK)|(apply lg<;>apply TK)|(apply cx<;>apply TK)|(apply pO<;>apply TK)|(apply iI<;>apply TK)|(apply iF<;>apply TK)|(apply cU;apply TK;apply TK;apply TK;apply TK;(first|omega|decide);apply TK;apply TK;(first|omega|decide);apply TK;apply TK))))
  |(apply ft;(first|(apply ab;apply TK)|(apply ae;apply TK;apply TK;apply TK));(first|(apply cH<;>apply TK)|(apply dV<;>apply TK)))
  |(apply cM;apply TK;intro _;rotate_left 1;intro _;rotate_left 1))
 rotate_left 1
 ·have:=iZ hm2 (by omega)
  rw[this];((try apply aM);first|(focus (apply fv;apply TK;(first|(apply gx;apply TK)|(apply ep<;>apply TK));(first|(apply gx;apply TK)|(apply ep<;>apply TK));all_goals try apply TK)))
 have hmlt:m<eD c+1:=by omega
 refine dJ [2,4,6,7,10,36,37,38,41,42] [] (fun i:Nat=>[(3, .bool false),(43, .int .i64 i)]) (fun i=>[(2,1)]) (fun i=>[(2, .box (cI default))])
  (fun i=>i≤c.trucks.length∧fu (qo c m) (c.trucks.length-i) i=qd c m) (fun i=>c.trucks.length-i) 0 ⟨Nat.zero_le _,by unfold qd;rfl⟩ (by refine⟨?_, ?_, ?_⟩<;>repeat' (first|exact trivial|apply And.intro|apply TK|(apply gz;apply TK;first|omega|assumption)|(apply gL;apply TK;repeat' (first|apply TK|apply cf|(apply cj;first|apply TK|omega|assumption))))) (fun i h2 hi=> ?_)
 obtain⟨hi1,hi2⟩:=hi
 repeat' (first
  |(apply bT;apply TK;apply TK;(first|(apply aB<;>apply TK)|(apply aI<;>apply TK)|(apply aH<;>apply TK)|(apply aE<;>apply TK)|(apply aC<;>apply TK)|(apply aX<;>apply TK)|(apply bm<;>apply TK)|(apply ah<;>(first|apply TK|omega))|(apply bd<;>apply TK)|(apply cv<;>apply TK)|(apply cq<;>(first|apply TK|omega))|(apply aq<;>apply TK)|(apply aN<;>apply TK)|(apply bK<;>apply TK)|(apply dL<;>apply TK)|(apply cQ<;>apply TK)|(apply lg<;>apply TK)|(apply cx<;>apply TK)|(apply pO<;>apply TK)|(apply iI<;>apply TK)|(apply iF<;>apply TK)|(apply cU;apply TK;apply TK;apply TK;apply TK;(first|omega|decide);apply TK;apply TK;(first|omega|decide);apply TK;apply TK)))
  |apply ba
  |apply al
  |apply an
  |apply aG
  |apply bp
  |apply ck
  |apply aF
  |apply cP
  |apply aw
  |apply aS
  |apply bk
  |apply aZ
  |apply aQ
  |(apply bu;apply TK)
  |(apply bF;apply TK)
  |(apply bZ;apply TK;(first|(apply aR<;>apply TK)|(apply aP<;>apply TK)|(apply bP<;>apply TK)))
  |apply ay
  |(apply bw;kernel_rfl)
  |(apply dx;(first|(apply ab;apply TK)|(apply ae;apply TK;apply TK;apply TK));apply TK;first|(apply bB<;>apply TK)|(apply aV<;>apply TK)|(apply b8;apply TK)|(apply b7;apply TK)|(apply aO;intro _;(first|(apply aB<;>apply TK)|(apply aI<;>apply TK)|(apply aH<;>apply TK)|(apply aE<;>apply TK)|(apply aC<;>apply TK)|(apply aX<;>apply TK)|(apply bm<;>apply TK)|(apply ah<;>(first|apply TK|omega))|(apply bd<;>apply TK)|(apply cv<;>apply TK)|(apply cq<;>(first|apply TK|omega))|(apply aq<;>apply TK)|(apply aN<;>apply TK)|(apply bK<;>apply TK)|(apply dL<;>apply TK)|(apply cQ<;>apply TK)|(apply lg<;>apply TK)|(apply cx<;>apply TK)|(apply pO<;>apply TK)|(apply iI<;>apply TK)|(apply iF<;>apply TK)|(apply cU;apply TK;apply TK;apply TK;apply TK;(first|omega|decide);apply TK;apply TK;(first|omega|decide);apply TK;apply TK))))
  |(apply ft;(first|(apply ab;apply TK)|(apply ae;apply TK;apply TK;apply TK));(first|(apply cH<;>apply TK)|(apply dV<;>apply TK)))
  |(apply cM;apply TK;intro _;rotate_left 1;intro _;rotate_left 1))
 rotate_left 1
 ·have:=iZ hi2 (by omega)
  exact⟨m+1,⟨by omega,g9 hm2 hmlt this⟩,by omega,(by apply bJ;refine⟨?_, ?_, ?_, ?_, ?_⟩<;>repeat' (first|exact trivial|apply And.intro|apply TK|(apply gz;apply TK;first|omega|assumption)|(apply gL;apply TK;repeat' (first|apply TK|apply cf|(apply cj;first|apply TK|omega|assumption)))))⟩
 have hilt:i<c.trucks.length:=by omega
 refine dJ [2,4,6,7,10,11,36,37,38,41,42,43,44,45,46,47] [] (fun k:Nat=>[(3, .bool false),(12, .int .i64 k)]) (fun k=>[(2,1)]) (fun k=>[(2, .box (cI default))])
  (fun k=>i+1≤k∧k≤c.trucks.length∧fu (ql c m i) (c.trucks.length-k) k=qo c m i) (fun k=>c.trucks.length-k) (i+1) ⟨Nat.le_refl _,by omega,by unfold qo;rfl⟩ (by refine⟨?_, ?_, ?_⟩<;>repeat' (first|exact trivial|apply And.intro|apply TK|(apply gz;apply TK;first|omega|assumption)|(apply gL;apply TK;repeat' (first|apply TK|apply cf|(apply cj;first|apply TK|omega|assumption))))) (fun k h3 hk=> ?_)
 obtain⟨hk0,hk1,hk2⟩:=hk
 repeat' (first
  |(apply bT;apply TK;apply TK;(first|(apply aB<;>apply TK)|(apply aI<;>apply TK)|(apply aH<;>apply TK)|(apply aE<;>apply TK)|(apply aC<;>apply TK)|(apply aX<;>apply TK)|(apply bm<;>apply TK)|(apply ah<;>(first|apply TK|omega))|(apply bd<;>apply TK)|(apply cv<;>apply TK)|(apply cq<;>(first|apply TK|omega))|(apply aq<;>apply TK)|(apply aN<;>apply TK)|(apply bK<;>apply TK)|(apply dL<;>apply TK)|(apply cQ<;>apply TK)|(apply lg<;>apply TK)|(apply cx<;>apply TK)|(apply pO<;>apply TK)|(apply iI<;>apply TK)|(apply iF<;>apply TK)|(apply cU;apply TK;apply TK;apply TK;apply TK;(first|omega|decide);apply TK;apply TK;(first|omega|decide);apply TK;apply TK)))
  |apply ba
  |apply al
  |apply an
  |apply aG
  |apply bp
  |apply ck
  |apply aF
  |apply cP
  |apply aw
  |apply aS
  |apply bk
  |apply aZ
  |apply aQ
  |(apply bu;apply TK)
  |(apply bF;apply TK)
  |(apply bZ;apply TK;(first|(apply aR<;>apply TK)|(apply aP<;>apply TK)|(apply bP<;>apply TK)))
  |apply ay
  |(apply bw;kernel_rfl)
  |(apply dx;(first|(apply ab;apply TK)|(apply ae;apply TK;apply TK;apply TK));apply TK;first|(apply bB<;>apply TK)|(apply aV<;>apply TK)|(apply b8;apply TK)|(apply b7;apply TK)|(apply aO;intro _;(first|(apply aB<;>apply TK)|(apply aI<;>apply TK)|(apply aH<;>apply TK)|(apply aE<;>apply TK)|(apply aC<;>apply TK)|(apply aX<;>apply TK)|(apply bm<;>apply TK)|(apply ah<;>(first|apply TK|omega))|(apply bd<;>apply TK)|(apply cv<;>apply TK)|(apply cq<;>(first|apply TK|omega))|(apply aq<;>apply TK)|(apply aN<;>apply TK)|(apply bK<;>apply TK)|(apply dL<;>apply TK)|(apply cQ<;>apply TK)|(apply lg<;>apply TK)|(apply cx<;>apply TK)|(apply pO<;>apply TK)|(apply iI<;>apply TK)|(apply iF<;>apply TK)|(apply cU;apply TK;apply TK;apply TK;apply TK;(first|omega|decide);apply TK;apply TK;(first|omega|decide);apply TK;apply TK))))
  |(apply ft;(first|(apply ab;apply TK)|(apply ae;apply TK;apply TK;apply TK));(first|(apply cH<;>apply TK)|(apply dV<;>apply TK)))
  |(apply cM;apply TK;intro _;rotate_left 1;intro _;rotate_left 1))
 ·have hklt:k<c.trucks.length:=by omega
  have kk:=Rt c.gap c.fails (c.trucks.getD i default) (c.trucks.getD k default) c.len m (hc.r i hilt) (hc.r k hklt) (by have:=hc.ok.g1;omega) hc.ok.g2 (by omega) (by omega)
  have hp:ql c m i k=(nI c.gap c.fails (c.trucks.getD i default) (c.trucks.getD k default) c.len m).map fun x=>{x with i:=i,k:=k}:=by unfold ql;rfl
  generalize nI c.gap c.fails (c.trucks.getD i default) (c.trucks.getD k default) c.len m=R at kk hp
  cases R with
  |none=>
   repeat' (first
  |(apply bT;apply TK;apply TK;(first|(apply aB<;>apply TK)|(apply aI<;>apply TK)|(apply aH<;>apply TK)|(apply aE<;>apply TK)|(apply aC<;>apply TK)|(apply aX<;>apply TK)|(apply bm<;>apply TK)|(apply ah<;>(first|apply TK|omega))|(apply bd<;>apply TK)|(apply cv<;>apply TK)|(apply cq<;>(first|apply TK|omega))|(apply aq<;>apply TK)|(apply aN<;>apply TK)|(apply bK<;>apply TK)|(apply dL<;>apply TK)|(apply cQ<;>apply TK)|(apply lg<;>apply TK)|(apply cx<;>apply TK)|(apply pO<;>apply TK)|(apply iI<;>apply TK)|(apply iF<;>apply TK)|(apply cU;apply TK;apply TK;apply TK;apply TK;(first|omega|decide);apply TK;apply TK;(first|omega|decide);apply TK;apply TK)))
  |apply ba
  |apply al
  |apply an
  |apply aG
  |apply bp
  |apply ck
  |apply aF
  |apply cP
  |apply aw
  |apply aS
  |apply bk
  |apply aZ
  |apply aQ
  |(apply bu;apply TK)
  |(apply bF;apply TK)
  |(apply aA;apply TK;apply TK;rotate_left 1;apply TK;rotate_right 1;exact(kk);apply TK)
  |(apply bZ;apply TK;(first|(apply aR<;>apply TK)|(apply aP<;>apply TK)|(apply bP<;>apply TK)))
  |apply ay
  |(apply bw;kernel_rfl)
  |(apply dx;(first|(apply ab;apply TK)|(apply ae;apply TK;apply TK;apply TK));apply TK;first|(apply bB<;>apply TK)|(apply aV<;>apply TK)|(apply b8;apply TK)|(apply b7;apply TK)|(apply aO;intro _;(first|(apply aB<;>apply TK)|(apply aI<;>apply TK)|(apply aH<;>apply TK)|(apply aE<;>apply TK)|(apply aC<;>apply TK)|(apply aX<;>apply TK)|(apply bm<;>apply TK)|(apply ah<;>(first|apply TK|omega))|(apply bd<;>apply TK)|(apply cv<;>apply TK)|(apply cq<;>(first|apply TK|omega))|(apply aq<;>apply TK)|(apply aN<;>apply TK)|(apply bK<;>apply TK)|(apply dL<;>apply TK)|(apply cQ<;>apply TK)|(apply lg<;>apply TK)|(apply cx<;>apply TK)|(apply pO<;>apply TK)|(apply iI<;>apply TK)|(apply iF<;>apply TK)|(apply cU;apply TK;apply TK;apply TK;apply TK;(first|omega|decide);apply TK;apply TK;(first|omega|decide);apply TK;apply TK))))
  |(apply sk;(first|(apply ab;apply TK)|(apply ae;apply TK;apply TK;apply TK));apply TK;apply TK;apply TK;exact(kk);(focus ((repeat' (first|exact je.nil|refine je.cons _ _ _ _ ?_ ?_|exact Fz.os _ _ _ _ _ _ rfl rfl|exact Fz.bx _ _ _ _ rfl rfl|refine Fz.fn _ _ _ ?_|exact Fz.same _|exact dn _ _));done));apply TK)
  |(apply ft;(first|(apply ab;apply TK)|(apply ae;apply TK;apply TK;apply TK));(first|(apply cH<;>apply TK)|(apply dV<;>apply TK)))
  |(apply cM;apply TK;intro _;rotate_left 1;intro _;rotate_left 1))
   exact⟨k+1,⟨by omega,by omega,g9 hk2 hklt hp⟩,by omega,(by apply bJ;refine⟨?_, ?_, ?_, ?_, ?_⟩<;>repeat' (first|exact trivial|apply And.intro|apply TK|(apply gz;apply TK;first|omega|assumption)|(apply gL;apply TK;repeat' (first|apply TK|apply cf|(apply cj;first|apply TK|omega|assumption)))))⟩
  |some x=>
   have hres:cg c=some {x with i:=i,k:=k}:=by
    refine(dF hm2 hmlt (a:=_) ?_)
    refine(dF hi2 hilt (a:=_) ?_)
    exact dF hk2 hklt hp
   rw[hres]
   repeat' (first
  |(apply bT;apply TK;apply TK;(first|(apply aB<;>apply TK)|(apply aI<;>apply TK)|(apply aH<;>apply TK)|(apply aE<;>apply TK)|(apply aC<;>apply TK)|(apply aX<;>apply TK)|(apply bm<;>apply TK)|(apply ah<;>(first|apply TK|omega))|(apply bd<;>apply TK)|(apply cv<;>apply TK)|(apply cq<;>(first|apply TK|omega))|(apply aq<;>apply TK)|(apply aN<;>apply TK)|(apply bK<;>apply TK)|(apply dL<;>apply TK)|(apply cQ<;>apply TK)|(apply lg<;>apply TK)|(apply cx<;>apply TK)|(apply pO<;>apply TK)|(apply iI<;>apply TK)|(apply iF<;>apply TK)|(apply cU;apply TK;apply TK;apply TK;apply TK;(first|omega|decide);apply TK;apply TK;(first|omega|decide);apply TK;apply TK)))
  |apply ba
  |apply al
  |apply an
  |apply aG
  |apply bp
  |apply ck
  |apply aF
  |apply cP
  |apply aw
  |apply aS
  |apply bk
  |apply aZ
  |apply aQ
  |(apply bu;apply TK)
  |(apply bF;apply TK)
  |(apply aA;apply TK;apply TK;rotate_left 1;apply TK;rotate_right 1;exact(kk);apply TK)
  |(apply bZ;apply TK;(first|(apply aR<;>apply TK)|(apply aP<;>apply TK)|(apply bP<;>apply TK)))
  |apply ay
  |(apply bw;kernel_rfl)
  |(apply dx;(first|(apply ab;apply TK)|(apply ae;apply TK;apply TK;apply TK));apply TK;first|(apply bB<;>apply TK)|(apply aV<;>apply TK)|(apply b8;apply TK)|(apply b7;apply TK)|(apply aO;intro _;(first|(apply aB<;>apply TK)|(apply aI<;>apply TK)|(apply aH<;>apply TK)|(apply aE<;>apply TK)|(apply aC<;>apply TK)|(apply aX<;>apply TK)|(apply bm<;>apply TK)|(apply ah<;>(first|apply TK|omega))|(apply bd<;>apply TK)|(apply cv<;>apply TK)|(apply cq<;>(first|apply TK|omega))|(apply aq<;>apply TK)|(apply aN<;>apply TK)|(apply bK<;>apply TK)|(apply dL<;>apply TK)|(apply cQ<;>apply TK)|(apply lg<;>apply TK)|(apply cx<;>apply TK)|(apply pO<;>apply TK)|(apply iI<;>apply TK)|(apply iF<;>apply TK)|(apply cU;apply TK;apply TK;apply TK;apply TK;(first|omega|decide);apply TK;apply TK;(first|omega|decide);apply TK;apply TK))))
  |(apply sk;(first|(apply ab;apply TK)|(apply ae;apply TK;apply TK;apply TK));apply TK;apply TK;apply TK;exact(kk);(focus ((repeat' (first|exact je.nil|refine je.cons _ _ _ _ ?_ ?_|exact Fz.os _ _ _ _ _ _ rfl rfl|exact Fz.bx _ _ _ _ rfl rfl|refine Fz.fn _ _ _ ?_|exact Fz.same _|exact dn _ _));done));apply TK)
  |(apply ft;(first|(apply ab;apply TK)|(apply ae;apply TK;apply TK;apply TK));(first|(apply cH<;>apply TK)|(apply dV<;>apply TK)))
  |(apply cM;apply TK;intro _;rotate_left 1;intro _;rotate_left 1))
   ((try apply aM);first|(focus (apply fv;apply TK;(first|(apply gx;apply TK)|(apply ep<;>apply TK));(first|(apply gx;apply TK)|(apply ep<;>apply TK));all_goals try apply TK)))
 ·have:=iZ hk2 (by omega)
  exact⟨i+1,⟨by omega,g9 hi2 hilt this⟩,by omega,(by apply bJ;refine⟨?_, ?_, ?_, ?_, ?_⟩<;>repeat' (first|exact trivial|apply And.intro|apply TK|(apply gz;apply TK;first|omega|assumption)|(apply gL;apply TK;repeat' (first|apply TK|apply cf|(apply cj;first|apply TK|omega|assumption)))))⟩
theorem O7(c:Convoy):au cJ 27 [.agg (aL c)] (.tup [.agg (cI (if ai c=0 then xS (cg c)else default)), .int .i64 (if ai c=0 then(if(cg c).isSome then 0 else 7)else ai c)]):=by
 refine aD (fn:=Tryd.f27) Tryd.func27 rfl (by kernel_rfl) rfl ?_ ?_ ?_
 ·exact af.cons (.agg _ (bn c)) af.nil
 ·exact .tup _ (af.cons (.agg _ (jW _)) (af.cons (.int _ _) af.nil))
 intro w κ
 by_cases h0:ai c=0
 ·have h1:=N5 c
  have k1:=SJ c (fg h0)
  rw[if_pos h0,if_pos h0]
  rw[h0]at h1
  generalize cg c=R at*
  cases R with
  |none=>
   repeat' (first
  |(apply bT;apply TK;apply TK;(first|(apply aB<;>apply TK)|(apply aI<;>apply TK)|(apply aC<;>apply TK)|(apply aX<;>apply TK)|(apply bm<;>apply TK)|(apply cR<;>apply TK)|(apply ah<;>(first|apply TK|omega))|(apply cv<;>apply TK)|(apply aq<;>apply TK)|(apply bK<;>apply TK)|(apply cx<;>apply TK)))
  |apply ba
  |apply al
  |apply an
  |apply aG
  |apply ck
  |apply aS
  |apply aZ
  |(apply bu;apply TK)
  |(apply bF;apply TK)
  |(apply aA;apply TK;apply TK;rotate_left 1;apply TK;rotate_right 1;exact(h1);apply TK)
  |(apply aA;apply TK;apply TK;rotate_left 1;apply TK;rotate_right 1;exact(k1);apply TK)
  |(apply bZ;apply TK;(first|(apply aR<;>apply TK)|(apply aP<;>apply TK)|(apply bP<;>apply TK)|(apply lS<;>(first|apply TK|omega))))
  |(apply fq;apply TK;intro _;rotate_left 1;intro _;rotate_left 1))
   ((try apply aM);first|(focus (apply fv;apply TK;(first|(apply eI;apply TK)|(apply ep<;>apply TK));(first|(apply eI;apply TK)|(apply ep<;>apply TK));all_goals try apply TK)))
  |some x=>
   repeat' (first
  |(apply bT;apply TK;apply TK;(first|(apply aB<;>apply TK)|(apply aI<;>apply TK)|(apply aC<;>apply TK)|(apply aX<;>apply TK)|(apply bm<;>apply TK)|(apply cR<;>apply TK)|(apply ah<;>(first|apply TK|omega))|(apply cv<;>apply TK)|(apply aq<;>apply TK)|(apply bK<;>apply TK)|(apply cx<;>apply TK)))
  |apply ba
  |apply al
  |apply an
  |apply aG
  |apply ck
  |apply aS
  |apply aZ
  |(apply bu;apply TK)
  |(apply bF;apply TK)
  |(apply aA;apply TK;apply TK;rotate_left 1;apply TK;rotate_right 1;exact(h1);apply TK)
  |(apply aA;apply TK;apply TK;rotate_left 1;apply TK;rotate_right 1;exact(k1);apply TK)
  |(apply bZ;apply TK;(first|(apply aR<;>apply TK)|(apply aP<;>apply TK)|(apply bP<;>apply TK)|(apply lS<;>(first|apply TK|omega))))
  |(apply fq;apply TK;intro _;rotate_left 1;intro _;rotate_left 1))
   ((try apply aM);first|(focus (apply fv;apply TK;(first|(apply eI;apply TK)|(apply ep<;>apply TK));(first|(apply eI;apply TK)|(apply ep<;>apply TK));all_goals try apply TK)))
 ·rw[if_neg h0,if_neg h0]
  repeat' (first
  |(apply bT;apply TK;apply TK;(first|(apply aB<;>apply TK)|(apply aI<;>apply TK)|(apply aC<;>apply TK)|(apply aX<;>apply TK)|(apply bm<;>apply TK)|(apply cR<;>apply TK)|(apply ah<;>(first|apply TK|omega))|(apply cv<;>apply TK)|(apply aq<;>apply TK)|(apply bK<;>apply TK)|(apply cx<;>apply TK)))
  |apply ba
  |apply al
  |apply an
  |apply aG
  |apply ck
  |apply aS
  |apply aZ
  |(apply bu;apply TK)
  |(apply bF;apply TK)
  |(apply aA;apply TK;apply TK;rotate_left 1;apply TK;rotate_right 1;exact(N5 c);apply TK)
  |(apply bZ;apply TK;(first|(apply aR<;>apply TK)|(apply aP<;>apply TK)|(apply bP<;>apply TK)|(apply lS<;>(first|apply TK|omega))))
  |(apply fq;apply TK;intro _;rotate_left 1;intro _;rotate_left 1))
  ·((try apply aM);first|(focus (apply fv;apply TK;(first|(apply eI;apply TK)|(apply ep<;>apply TK));(first|(apply eI;apply TK)|(apply ep<;>apply TK));all_goals try apply TK)))
  ·contradiction
end Go.Proofs.YtafnhieaeejlcaaDoor
namespace Go.Proofs.YtafnhieaeejlcaaDoor
open Go Go.Ab
set_option maxRecDepth 100000
set_option maxHeartbeats 4000000
attribute [local irreducible] W WL eu kX fh eo gR WG FQ Want jO WI pM fQ eC
theorem QX(a b:Int):au cJ 41 [.int .i64 a, .int .i64 b] (.agg (bC ⟨a,b⟩)):=by
 refine aD (fn:=Tryd.f41) Tryd.func41 rfl (by kernel_rfl) rfl ?_ ?_ ?_
 ·exact af.cons (.int _ _) (af.cons (.int _ _) af.nil)
 ·exact .agg _ (cN _)
 intro w κ
 repeat' (first
  |(apply bT;apply TK;apply TK;(first|(apply aB<;>apply TK)|(apply bK<;>apply TK)))
  |apply ba
  |apply al
  |apply an
  |apply aG
  |apply aZ
  |(apply bZ;apply TK;(first|(apply aP<;>apply TK)|(apply bP<;>apply TK))))
 ((try apply aM);first|(apply jv;apply TK;apply TK;apply TK;apply TK;apply TK;apply TK;apply TK;apply TK;try apply TK))
def RH:Nat→List D:=uO [[.int .i64 1, .int .i64 0, .int .i64 50, .int .i64 100, .nil],[.int .i64 2, .int .i64 0, .int .i64 50, .int .i64 100, .nil]]
theorem Q3:fG cJ 106 [] (.agg [.int .i64 1000, .int .i64 200, .int .i64 0, .os 0 1]) 50 5 2 RH:=by
 refine ns (fn:=Tryd.f106) Tryd.func106 rfl (by kernel_rfl) rfl af.nil ?_ ?_ ?_
 ·exact .agg _ (.cons _ _ (.pure _ (.int _ _)) (.cons _ _ (.pure _ (.int _ _)) (.cons _ _ (.pure _ (.int _ _)) (.cons _ _ (.os _ _) .nil))))
 ·intro i hi
  obtain rfl|rfl:i=0∨i=1:=by omega
  all_goals exact af.cons (.int _ _) (af.cons (.int _ _) (af.cons (.int _ _) (af.cons (.int _ _) (af.cons .nil af.nil))))
 intro w κ
 repeat' (first
  |(apply bT;apply TK;apply TK;(first|(apply bK<;>apply TK)))
  |apply ba
  |apply al
  |apply an
  |apply aG
  |apply aZ
  |(apply aA;apply TK;apply TK;rotate_left 1;apply TK;rotate_right 1;exact(QX 50 100);apply TK)
  |(apply bZ;apply TK;(first|(refine IP rfl rfl rfl rfl rfl rfl rfl rfl rfl rfl rfl rfl rfl rfl rfl)|(apply aP<;>apply TK)|(apply bP<;>apply TK))))
 refine⟨5,1,rfl,rfl,[.agg [.int .i64 1000, .int .i64 200, .int .i64 0, .os 5 1]], ?_,rfl⟩
 show kV _ _ [ResultVar.cell 0 24] [_]
 exact⟨ep rfl rfl rfl rfl rfl rfl rfl,trivial⟩
def re:Convoy:=⟨1000,200,0,[⟨1,0,50,100,[⟨300,20⟩]⟩,⟨2,0,50,100,[]⟩]⟩
def BX:Convoy:=⟨1000,200,1,[⟨1,0,50,100,[⟨300,20⟩]⟩,⟨2,0,50,100,[]⟩]⟩
theorem Ry:au cJ 63 [] (.agg (aL re)):=by
 refine aD (fn:=Tryd.f63) Tryd.func63 rfl (by kernel_rfl) rfl af.nil (.agg _ (bn _)) ?_
 intro w κ
 repeat' (first
  |(apply JO 50;apply TK;apply TK;exact Q3;apply TK;apply TK;apply TK)
  |(apply bT;apply TK;apply TK;(first|(apply aH<;>apply TK)|(apply aE<;>apply TK)|(apply aq<;>apply TK)|(apply bK<;>apply TK)|(apply zo<;>apply TK)|(apply lz<;>(first|apply TK|omega))))
  |apply ba
  |apply al
  |apply an
  |apply aG
  |apply aZ
  |(apply bZ;apply TK;(first|(refine Rc (qi rfl rfl rfl rfl rfl rfl rfl rfl rfl rfl rfl rfl rfl rfl rfl) (Oo 6 (fun i=>fY ([(⟨300,20⟩:Hold)].getD i default)) rfl (fun i hi=>by(obtain rfl:i=0:=by omega);rfl)))|(apply aP<;>apply TK)|(apply bP<;>apply TK)|(apply qi<;>apply TK)|(apply lS<;>(first|apply TK|omega)))))
 refine oc (zY 50 (fun i=>bA (re.trucks.getD i default)) rfl (fun i hi=> ?_)) (oc (kh 0 3 (s:=50) rfl rfl rfl rfl rfl) (aM ?_))
 ·obtain rfl|rfl:i=0∨i=1:=by omega
  ·exact⟨.inl rfl, .inl rfl, .inl rfl, .inl rfl, .inl rfl,trivial⟩
  ·exact⟨.inl rfl, .inl rfl, .inl rfl, .inl rfl, .inr ⟨rfl,_,_,rfl⟩,trivial⟩
 ·((try apply aM);first|(apply jv;apply TK;apply TK;apply TK;apply TK;apply TK;apply TK;apply TK;apply TK;try apply TK))
theorem SI:au cJ 62 [] (.agg (aL BX)):=by
 refine aD (fn:=Tryd.f62) Tryd.func62 rfl (by kernel_rfl) rfl af.nil (.agg _ (bn _)) ?_
 intro w κ
 repeat' (first
  |(apply bT;apply TK;apply TK;(first|(apply aE<;>apply TK)|(apply aq<;>apply TK)))
  |apply ba
  |apply al
  |apply an
  |apply aG
  |apply aZ
  |(apply aA;apply TK;apply TK;rotate_left 1;apply TK;rotate_right 1;exact(Ry);apply TK)
  |(apply bZ;apply TK;(first|(apply aP<;>apply TK)|(apply bP<;>apply TK))))
 ((try apply aM);first|(apply jv;apply TK;apply TK;apply TK;apply TK;apply TK;apply TK;apply TK;apply TK;try apply TK))
theorem BL:ai re=0:=by kernel_rfl
theorem Im:ai BX=0:=by kernel_rfl
theorem G1:cg re=none:=by kernel_rfl
theorem G4:cg BX=some ⟨5,0,1,true,false,301,500⟩:=by kernel_rfl
theorem Je:lY re=⟨27,34⟩:=by kernel_rfl
theorem PS:au cJ 27 [.agg (aL BX)] (.tup [.agg (cI ⟨5,0,1,true,false,301,500⟩), .int .i64 0]):=by
 have h:=O7 BX
 rw[G4,Im]at h
 exact h
theorem PT:au cJ 27 [.agg (aL re)] (.tup [.agg (cI default), .int .i64 7]):=by
 have h:=O7 re
 rw[G1,BL]at h
 exact h
theorem Qi:au cJ 36 [.agg (aL re)] (.tup [.agg (bC ⟨27,34⟩), .int .i64 0]):=by
 have h:=RR re
 rw[Je,BL]at h
 exact h
theorem NB:au cJ 19 [] (.bool true):=by
 refine aD (fn:=Tryd.f19) Tryd.func19 rfl (by kernel_rfl) rfl af.nil (.bool _) ?_
 intro w κ
 repeat' (first
  |(apply bT;apply TK;apply TK;(first|(apply aB<;>apply TK)|(apply aI<;>apply TK)|(apply aC<;>apply TK)|(apply aX<;>apply TK)|(apply bm<;>apply TK)|(apply cv<;>apply TK)|(apply bR<;>apply TK)|(apply aq<;>apply TK)|(apply cx<;>apply TK)|(apply J8;apply TK;apply TK;apply TK;apply TK;kernel_rfl)))
  |apply ba
  |apply al
  |apply an
  |apply aG
  |apply aZ
  |(apply aA;apply TK;apply TK;rotate_left 1;apply TK;rotate_right 1;exact(SI);apply TK)
  |(apply aA;apply TK;apply TK;rotate_left 1;apply TK;rotate_right 1;exact(PS);apply TK)
  |(apply aA;apply TK;apply TK;rotate_left 1;apply TK;rotate_right 1;exact(Ry);apply TK)
  |(apply aA;apply TK;apply TK;rotate_left 1;apply TK;rotate_right 1;exact(PT);apply TK)
  |(apply aA;apply TK;apply TK;rotate_left 1;apply TK;rotate_right 1;exact(Qi);apply TK)
  |(apply aA;apply TK;apply TK;rotate_left 1;apply TK;rotate_right 1;exact(QX 27 34);apply TK)
  |(apply bZ;apply TK;(first|(apply aP<;>apply TK)|(apply bP<;>apply TK)))
  |apply ay
  |(apply bw;kernel_rfl)
  |(apply dx;(first|(apply ab;apply TK)|(apply ae;apply TK;apply TK;apply TK));apply TK;first|(apply bB<;>apply TK)|(apply aV<;>apply TK)|(apply b8;apply TK)|(apply b7;apply TK)|(apply aO;intro _;(first|(apply aB<;>apply TK)|(apply aI<;>apply TK)|(apply aC<;>apply TK)|(apply aX<;>apply TK)|(apply bm<;>apply TK)|(apply cv<;>apply TK)|(apply bR<;>apply TK)|(apply aq<;>apply TK)|(apply cx<;>apply TK)|(apply J8;apply TK;apply TK;apply TK;apply TK;kernel_rfl))))
  |(apply az;(first|(apply ab;apply TK)|(apply ae;apply TK;apply TK;apply TK));apply TK;apply TK;apply TK;exact(SI))
  |(apply az;(first|(apply ab;apply TK)|(apply ae;apply TK;apply TK;apply TK));apply TK;apply TK;apply TK;exact(PS))
  |(apply az;(first|(apply ab;apply TK)|(apply ae;apply TK;apply TK;apply TK));apply TK;apply TK;apply TK;exact(Ry))
  |(apply az;(first|(apply ab;apply TK)|(apply ae;apply TK;apply TK;apply TK));apply TK;apply TK;apply TK;exact(PT))
  |(apply az;(first|(apply ab;apply TK)|(apply ae;apply TK;apply TK;apply TK));apply TK;apply TK;apply TK;exact(Qi))
  |(apply az;(first|(apply ab;apply TK)|(apply ae;apply TK;apply TK;apply TK));apply TK;apply TK;apply TK;exact(QX 27 34)))
 ((try apply aM);first|(apply iE;apply TK;apply TK;try apply TK))
end Go.Proofs.YtafnhieaeejlcaaDoor
namespace Go.Proofs.YtafnhieaeejlcaaDoor
open Go Go.Ab
set_option maxRecDepth 100000
set_option maxHeartbeats 4000000
attribute [local irreducible] W WL eu kX fh eo gR WG FQ Want jO WI pM fQ eC
theorem DZ{c:Convoy}(h:lK c=false):c.trucks.length≤25∧∀k,k<c.trucks.length→(c.trucks.getD k default).holds.length≤12:=by
 unfold lK at h
 simp only[Bool.or_eq_false_iff]at h
 obtain⟨⟨⟨h1,h2⟩,h3⟩,_⟩:=h
 refine⟨by simp at h2;omega,fun k hk=> ?_⟩
 rw[List.any_eq_false]at h3
 have:=h3 (c.trucks.getD k default) (by simp[List.getD,hk])
 simp at this⊢;omega
attribute [local irreducible] lK ai
theorem c3(c:Convoy):au cJ 3 [.agg (aL c)] (.bool true):=by
 refine aD (fn:=Tryd.f3) Tryd.func3 rfl (by kernel_rfl) rfl ?_ ?_ ?_
 ·exact af.cons (.agg _ (bn c)) af.nil
 ·exact .bool _
 intro w κ
 have hb:=QO c
 cases hB:lK c with
 |true=>
  rw[hB]at hb
  repeat' (first
  |(apply bT;apply TK;apply TK;(first|(apply aC<;>apply TK)|(apply aX<;>apply TK)|(apply bm<;>apply TK)|(apply bR<;>apply TK)|(apply aq<;>apply TK)))
  |apply ba
  |apply al
  |apply an
  |apply aG
  |apply ck
  |apply aS
  |apply aZ
  |(apply bu;apply TK)
  |(apply bF;apply TK)
  |(apply aA;apply TK;apply TK;rotate_left 1;apply TK;rotate_right 1;exact(hb);apply TK)
  |(apply aA;apply TK;apply TK;rotate_left 1;apply TK;rotate_right 1;exact(NB);apply TK)
  |(apply bZ;apply TK;(first|(apply aR<;>apply TK)|(apply aP<;>apply TK)|(apply bP<;>apply TK)))
  |apply ay
  |(apply bw;kernel_rfl)
  |(apply dx;(first|(apply ab;apply TK)|(apply ae;apply TK;apply TK;apply TK));apply TK;first|(apply bB<;>apply TK)|(apply aV<;>apply TK)|(apply b8;apply TK)|(apply b7;apply TK)|(apply aO;intro _;(first|(apply aC<;>apply TK)|(apply aX<;>apply TK)|(apply bm<;>apply TK)|(apply bR<;>apply TK)|(apply aq<;>apply TK))))
  |(apply az;(first|(apply ab;apply TK)|(apply ae;apply TK;apply TK;apply TK));apply TK;apply TK;apply TK;exact(hb))
  |(apply az;(first|(apply ab;apply TK)|(apply ae;apply TK;apply TK;apply TK));apply TK;apply TK;apply TK;exact(NB))
  |(apply Pk;apply TK;apply TK;apply TK))
  ((try apply aM);first|(apply iE;apply TK;apply TK;try apply TK))
 |false=>
  rw[hB]at hb
  obtain⟨h1,h2⟩:=DZ hB
  have hs:=QP c c (by omega) (fun k hk=>by have:=h2 k hk;omega)
  rw[decide_eq_true (rfl:c=c)]at hs
  repeat' (first
  |(apply bT;apply TK;apply TK;(first|(apply aC<;>apply TK)|(apply aX<;>apply TK)|(apply bm<;>apply TK)|(apply bR<;>apply TK)|(apply aq<;>apply TK)))
  |apply ba
  |apply al
  |apply an
  |apply aG
  |apply ck
  |apply aS
  |apply aZ
  |(apply bu;apply TK)
  |(apply bF;apply TK)
  |(apply aA;apply TK;apply TK;rotate_left 1;apply TK;rotate_right 1;exact(hb);apply TK)
  |(apply aA;apply TK;apply TK;rotate_left 1;apply TK;rotate_right 1;exact(PK c h1 h2);apply TK)
  |(apply aA;apply TK;apply TK;rotate_left 1;apply TK;rotate_right 1;exact(N5 c);apply TK)
  |(apply aA;apply TK;apply TK;rotate_left 1;apply TK;rotate_right 1;exact(OR c);apply TK)
  |(apply aA;apply TK;apply TK;rotate_left 1;apply TK;rotate_right 1;exact(hs);apply TK)
  |(apply aA;apply TK;apply TK;rotate_left 1;apply TK;rotate_right 1;exact(NB);apply TK)
  |(apply bZ;apply TK;(first|(apply aR<;>apply TK)|(apply aP<;>apply TK)|(apply bP<;>apply TK)))
  |apply ay
  |(apply bw;kernel_rfl)
  |(apply dx;(first|(apply ab;apply TK)|(apply ae;apply TK;apply TK;apply TK));apply TK;first|(apply bB<;>apply TK)|(apply aV<;>apply TK)|(apply b8;apply TK)|(apply b7;apply TK)|(apply aO;intro _;(first|(apply aC<;>apply TK)|(apply aX<;>apply TK)|(apply bm<;>apply TK)|(apply bR<;>apply TK)|(apply aq<;>apply TK))))
  |(apply az;(first|(apply ab;apply TK)|(apply ae;apply TK;apply TK;apply TK));apply TK;apply TK;apply TK;exact(hb))
  |(apply az;(first|(apply ab;apply TK)|(apply ae;apply TK;apply TK;apply TK));apply TK;apply TK;apply TK;exact(PK c h1 h2))
  |(apply az;(first|(apply ab;apply TK)|(apply ae;apply TK;apply TK;apply TK));apply TK;apply TK;apply TK;exact(N5 c))
  |(apply az;(first|(apply ab;apply TK)|(apply ae;apply TK;apply TK;apply TK));apply TK;apply TK;apply TK;exact(OR c))
  |(apply az;(first|(apply ab;apply TK)|(apply ae;apply TK;apply TK;apply TK));apply TK;apply TK;apply TK;exact(hs))
  |(apply az;(first|(apply ab;apply TK)|(apply ae;apply TK;apply TK;apply TK));apply TK;apply TK;apply TK;exact(NB))
  |(apply Pk;apply TK;apply TK;apply TK))
  ((try apply aM);first|(apply iE;apply TK;apply TK;try apply TK))
end Go.Proofs.YtafnhieaeejlcaaDoor
namespace Go.Proofs.YtafnhieaeejlcaaDoor
open Go Go.Ab
set_option maxRecDepth 100000
set_option maxHeartbeats 4000000
attribute [local irreducible] W WL eu kX fh eo gR WG FQ Want jO WI pM fQ eC
attribute [local irreducible] jT dy
theorem To(c:Convoy)(hc:O4 c):au cJ 71 [.agg (aL c)] (.int .i64 (dy (fA c) c.trucks.length)):=by
 refine aD (fn:=Tryd.f71) Tryd.func71 rfl (by kernel_rfl) rfl ?_ ?_ ?_
 ·exact af.cons (.agg _ (bn c)) af.nil
 ·exact .int _ _
 intro w κ
 have hn:=hc.n
 have hmax0:=mX (fA c)
 repeat' (first
  |(apply bT;apply TK;apply TK;(first|(apply aB<;>apply TK)|(apply aI<;>apply TK)|(apply aH<;>apply TK)|(apply aE<;>apply TK)|(apply aC<;>apply TK)|(apply ah<;>(first|apply TK|omega))|(apply bd<;>apply TK)|(apply cq<;>(first|apply TK|omega))|(apply aq<;>apply TK)|(apply aN<;>apply TK)|(apply dL<;>apply TK)|(apply rR<;>apply TK)))
  |apply ba
  |apply al
  |apply an
  |apply aG
  |apply bp
  |apply aF
  |apply aw
  |apply aS
  |apply bk
  |apply aZ
  |apply aQ
  |(apply bZ;apply TK;(first|(apply aR<;>apply TK)))
  |apply ay
  |(apply bw;kernel_rfl)
  |(apply dx;(first|(apply ab;apply TK)|(apply ae;apply TK;apply TK;apply TK));apply TK;first|(apply bB<;>apply TK)|(apply aV<;>apply TK)|(apply b8;apply TK)|(apply b7;apply TK)|(apply aO;intro _;(first|(apply aB<;>apply TK)|(apply aI<;>apply TK)|(apply aH<;>apply TK)|(apply aE<;>apply TK)|(apply aC<;>apply TK)|(apply ah<;>(first|apply TK|omega))|(apply bd<;>apply TK)|(apply cq<;>(first|apply TK|omega))|(apply aq<;>apply TK)|(apply aN<;>apply TK)|(apply dL<;>apply TK)|(apply rR<;>apply TK))))
  |(apply cM;apply TK;intro _;rotate_left 1;intro _;rotate_left 1))
 refine dJ [1,2] [1] (fun k:Nat=>[(3, .int .i64 (dy (fA c) k)),(4, .int .i64 k)]) (fun k=>[]) (fun k=>[])
  (fun k=>k≤c.trucks.length) (fun k=>c.trucks.length-k) 0 (Nat.zero_le _) (by refine⟨?_, ?_, ?_⟩<;>repeat' (first|exact trivial|apply And.intro|apply TK|(apply gz;apply TK;first|omega|assumption)|(apply gL;apply TK;repeat' (first|apply TK|apply cf|(apply cj;first|apply TK|omega|assumption))))) (fun k h hk=> ?_)
 have ht:(k:Int)<c.trucks.length→xw c (c.trucks.getD (k:Int).toNat default):=fun h=>hc.t _ (by omega)
 have hmk:=vt c k
 repeat' (first
  |(apply bT;apply TK;apply TK;(first|(apply aB<;>apply TK)|(apply aI<;>apply TK)|(apply aH<;>apply TK)|(apply aE<;>apply TK)|(apply aC<;>apply TK)|(apply ah<;>(first|apply TK|omega))|(apply bd<;>apply TK)|(apply cq<;>(first|apply TK|omega))|(apply aq<;>apply TK)|(apply aN<;>apply TK)|(apply dL<;>apply TK)|(apply rR<;>apply TK)))
  |apply ba
  |apply al
  |apply an
  |apply aG
  |apply bp
  |apply aF
  |apply aw
  |apply aS
  |apply bk
  |apply aZ
  |apply aQ
  |(apply bZ;apply TK;(first|(apply aR<;>apply TK)))
  |apply ay
  |(apply bw;kernel_rfl)
  |(apply dx;(first|(apply ab;apply TK)|(apply ae;apply TK;apply TK;apply TK));apply TK;first|(apply bB<;>apply TK)|(apply aV<;>apply TK)|(apply b8;apply TK)|(apply b7;apply TK)|(apply aO;intro _;(first|(apply aB<;>apply TK)|(apply aI<;>apply TK)|(apply aH<;>apply TK)|(apply aE<;>apply TK)|(apply aC<;>apply TK)|(apply ah<;>(first|apply TK|omega))|(apply bd<;>apply TK)|(apply cq<;>(first|apply TK|omega))|(apply aq<;>apply TK)|(apply aN<;>apply TK)|(apply dL<;>apply TK)|(apply rR<;>apply TK))))
  |(apply az;(first|(apply ab;apply TK)|(apply ae;apply TK;apply TK;apply TK));apply TK;apply TK;apply TK;exact(JW c (c.trucks.getD (k:Int).toNat default) (ht (by assumption))))
  |(apply cM;apply TK;intro _;rotate_left 1;intro _;rotate_left 1))
 ·exact⟨k+1,by omega,by omega,(by apply bJ;refine⟨?_, ?_, ?_, ?_, ?_⟩<;>repeat' (first|exact trivial|apply And.intro|apply TK|(apply gz;apply TK;first|omega|assumption)|(apply gL;apply TK;repeat' (first|apply TK|apply cf|(apply cj;first|apply TK|omega|assumption)))))⟩
 ·obtain rfl:k=c.trucks.length:=by omega
  ((try apply aM);first|(apply fb;apply TK;apply TK;try apply TK))
def im(t:Truck)(len pace:Int)(k:Nat):Int:=dw t len pace ((k:Int)-1-t.start).toNat
def de(t:Truck)(len:Int)(k:Nat):Span:=⟨im t len t.lo (k+1),im t len t.hi (k+1)⟩
theorem pj{t:Truck}{len pace:Int}(h:0≤t.start):im t len pace 0=0:=by
 unfold im
 rw[show(((0:Nat):Int)-1-t.start).toNat=0 by omega];rfl
theorem lR{t:Truck}{len pace:Int}{k:Nat}(h:t.start<k):im t len pace (k+1)=iD t len (im t len pace k) ((k:Int)-1) pace:=by
 unfold im
 obtain⟨j,hj⟩:∃j:Nat,(k:Int)-t.start=j+1:=⟨((k:Int)-t.start-1).toNat,by omega⟩
 rw[show(((k+1:Nat):Int)-1-t.start).toNat=j+1 by omega,show((k:Int)-1-t.start).toNat=j by omega,show(k:Int)-1=t.start+j by omega]
 rfl
theorem lU{t:Truck}{len pace:Int}{k:Nat}(h:¬t.start<k):im t len pace (k+1)=im t len pace k:=by
 unfold im
 rw[show(((k+1:Nat):Int)-1-t.start).toNat=0 by omega,show((k:Int)-1-t.start).toNat=0 by omega]
theorem GP{t:Truck}{len:Int}{k:Nat}(h:t.start<k):bC (de t len k)=[.int .i64 (iD t len (im t len t.lo k) ((k:Int)-1) t.lo), .int .i64 (iD t len (im t len t.hi k) ((k:Int)-1) t.hi)]:=by
 simp only[de,bC,lR h]
theorem Hc{t:Truck}{len:Int}{k:Nat}(h:¬t.start<k):bC (de t len k)=[.int .i64 (im t len t.lo k), .int .i64 (im t len t.hi k)]:=by
 simp only[de,bC,lU h]
attribute [local irreducible] im iD dw eF
theorem SO(c:Convoy)(t:Truck)(e:Nat)(h:xw c t)(e1:e≤100000):au cJ 72 [.agg (aL c), .agg (bA t), .int .i64 e] (.sl 2 (e+1) (fun i=>bC (de t c.len i))):=by
 obtain⟨l1,l2,s1,s2,p1,p2,p3,d1,ho⟩:=h
 refine aD (fn:=Tryd.f72) Tryd.func72 rfl (by kernel_rfl) rfl ?_ ?_ ?_
 ·exact af.cons (.agg _ (bn c)) (af.cons (.agg _ (dN t)) (af.cons (.int _ _) af.nil))
 ·exact .sl _ _ _ (fun _ _ d hd=>cN _ d hd)
 intro w κ
 have bnd:=fun k=>dH (t:=t) (pace:=t.lo) l1 ho p1 k
 have bnd2:=fun k=>dH (t:=t) (pace:=t.hi) l1 ho (by omega) k
 have z1:=pj (t:=t) (len:=c.len) (pace:=t.lo) s1
 have z2:=pj (t:=t) (len:=c.len) (pace:=t.hi) s1
 repeat' (first
  |(apply bT;apply TK;apply TK;(first|(apply aB<;>apply TK)|(apply aI<;>apply TK)|(apply aH<;>apply TK)|(apply aE<;>apply TK)|(apply aC<;>apply TK)|(apply ah<;>(first|apply TK|omega))|(apply aq<;>apply TK)|(apply dr<;>apply TK)|(apply dm<;>apply TK)|(apply dt<;>apply TK)))
  |apply ba
  |apply al
  |apply an
  |apply aG
  |apply bp
  |apply aF
  |apply aw
  |apply aS
  |apply bk
  |apply aZ
  |apply aQ
  |(apply bZ;apply TK;(first|(apply aR<;>apply TK)|(apply aP<;>apply TK)|(apply qi<;>apply TK)))
  |apply ay
  |(apply bw;kernel_rfl)
  |(apply dx;(first|(apply ab;apply TK)|(apply ae;apply TK;apply TK;apply TK));apply TK;first|(apply bB<;>apply TK)|(apply aV<;>apply TK)|(apply b8;apply TK)|(apply b7;apply TK)|(apply aO;intro _;(first|(apply aB<;>apply TK)|(apply aI<;>apply TK)|(apply aH<;>apply TK)|(apply aE<;>apply TK)|(apply aC<;>apply TK)|(apply ah<;>(first|apply TK|omega))|(apply aq<;>apply TK)|(apply dr<;>apply TK)|(apply dm<;>apply TK)|(apply dt<;>apply TK))))
  |(apply ft;(first|(apply ab;apply TK)|(apply ae;apply TK;apply TK;apply TK));(first|(apply dV<;>apply TK)))
  |(apply cM;apply TK;intro _;rotate_left 1;intro _;rotate_left 1))
 refine qU (qz 7 7 47 2 (fun i=>bC (de t c.len i)) rfl) ?_
 refine dJ [2,3,4,6,8] [3,4,6] (fun k:Nat=>[(7, .os 7 (k+1)),(9, .int .i64 k)]) (fun k=>[(7,k+1),(8,1)])
  (fun k=>[(7, .arr 47 2 k (fun i=>bC (de t c.len i))),(8, .box [.int .i64 (im t c.len t.lo k), .int .i64 (im t c.len t.hi k)])])
  (fun k=>k≤e+1) (fun k=>e+1-k) 0 (Nat.zero_le _) (by refine⟨?_, ?_, ?_⟩<;>repeat' (first|exact trivial|apply And.intro|apply TK|(apply gz;apply TK;first|omega|assumption)|(apply gL;apply TK;repeat' (first|apply TK|apply cf|(apply cj;first|apply TK|omega|assumption))))) (fun k h hk=> ?_)
 have b1:0≤im t c.len t.lo k∧im t c.len t.lo k≤c.len:=by unfold im;exact bnd _
 have b2:0≤im t c.len t.hi k∧im t c.len t.hi k≤c.len:=by unfold im;exact bnd2 _
 have w1:=GP (t:=t) (len:=c.len) (k:=k)
 have w2:=Hc (t:=t) (len:=c.len) (k:=k)
 have y1:=lR (t:=t) (len:=c.len) (pace:=t.lo) (k:=k)
 have y2:=lR (t:=t) (len:=c.len) (pace:=t.hi) (k:=k)
 have y3:=lU (t:=t) (len:=c.len) (pace:=t.lo) (k:=k)
 have y4:=lU (t:=t) (len:=c.len) (pace:=t.hi) (k:=k)
 repeat' (first
  |(apply bT;apply TK;apply TK;(first|(apply aB<;>apply TK)|(apply aI<;>apply TK)|(apply aH<;>apply TK)|(apply aE<;>apply TK)|(apply aC<;>apply TK)|(apply ah<;>(first|apply TK|omega))|(apply aq<;>apply TK)|(apply dr<;>apply TK)|(apply dm<;>apply TK)|(apply dt<;>apply TK)))
  |apply ba
  |apply al
  |apply an
  |apply aG
  |apply bp
  |apply aF
  |apply aw
  |apply aS
  |apply bk
  |apply aZ
  |apply aQ
  |(apply bZ;apply TK;(first|(refine yE (f' :=fun i=>bC (de t c.len i)) rfl rfl rfl rfl rfl rfl rfl rfl rfl rfl rfl rfl rfl rfl rfl (by first|omega|(show(k+1)*16≤_;omega)) (by omega) rfl (fun i hi=>rfl) (fun i hi=>by(obtain rfl:i=0:=by omega);first|exact w1 (by omega)|exact w2 (by omega)))|(apply aR<;>apply TK)|(apply aP<;>apply TK)|(apply qi<;>apply TK)))
  |apply ay
  |(apply bw;kernel_rfl)
  |(apply dx;(first|(apply ab;apply TK)|(apply ae;apply TK;apply TK;apply TK));apply TK;first|(apply bB<;>apply TK)|(apply aV<;>apply TK)|(apply b8;apply TK)|(apply b7;apply TK)|(apply aO;intro _;(first|(apply aB<;>apply TK)|(apply aI<;>apply TK)|(apply aH<;>apply TK)|(apply aE<;>apply TK)|(apply aC<;>apply TK)|(apply ah<;>(first|apply TK|omega))|(apply aq<;>apply TK)|(apply dr<;>apply TK)|(apply dm<;>apply TK)|(apply dt<;>apply TK))))
  |(apply az;(first|(apply ab;apply TK)|(apply ae;apply TK;apply TK;apply TK));apply TK;apply TK;apply TK;exact(K0 c t (im t c.len t.lo k) ((k:Int)-1) t.lo l1 l2 ho (by omega) (by omega) (by omega) (by omega)))
  |(apply az;(first|(apply ab;apply TK)|(apply ae;apply TK;apply TK;apply TK));apply TK;apply TK;apply TK;exact(K0 c t (im t c.len t.hi k) ((k:Int)-1) t.hi l1 l2 ho (by omega) (by omega) (by omega) (by omega)))
  |(apply ft;(first|(apply ab;apply TK)|(apply ae;apply TK;apply TK;apply TK));(first|(apply dV<;>apply TK)))
  |(apply cM;apply TK;intro _;rotate_left 1;intro _;rotate_left 1))
 ·have q1:=(y1 (by omega)).symm
  have q2:=(y2 (by omega)).symm
  exact⟨k+1,by omega,by omega,(by apply bJ;refine⟨?_, ?_, ?_, ?_, ?_⟩<;>repeat' (first|exact trivial|apply And.intro|apply TK|(apply gz;apply TK;first|omega|assumption)|(apply gL;apply TK;repeat' (first|apply TK|apply cf|(apply cj;first|apply TK|omega|assumption)))))⟩
 ·have q1:=(y3 (by omega)).symm
  have q2:=(y4 (by omega)).symm
  exact⟨k+1,by omega,by omega,(by apply bJ;refine⟨?_, ?_, ?_, ?_, ?_⟩<;>repeat' (first|exact trivial|apply And.intro|apply TK|(apply gz;apply TK;first|omega|assumption)|(apply gL;apply TK;repeat' (first|apply TK|apply cf|(apply cj;first|apply TK|omega|assumption)))))⟩
 ·obtain rfl:k=e+1:=by omega
  refine oc (j6 6 (s:=7) rfl rfl rfl) (aM ?_)
  ((try apply aM);first|(apply Jr;apply TK;apply TK;apply TK;try apply TK))
def eX(way len:Int)(g:Span):Span:=if way=2 then⟨len-g.hi,len-g.lo⟩else g
theorem Sb(c:Convoy)(t:Truck)(g:Span)(h1: -1000000≤g.lo)(h2:g.lo≤1000000)(h3: -1000000≤g.hi)(h4:g.hi≤1000000)(l1:1≤c.len)(l2:c.len≤100000):
 au cJ 76 [.agg (aL c), .agg (bA t), .agg (bC g)] (.agg (bC (eX t.way c.len g))):=by
 refine aD (fn:=Tryd.f76) Tryd.func76 rfl (by kernel_rfl) rfl ?_ ?_ ?_
 ·exact af.cons (.agg _ (bn c)) (af.cons (.agg _ (dN t)) (af.cons (.agg _ (cN g)) af.nil))
 ·exact .agg _ (cN _)
 intro w κ
 repeat' (first
  |(apply bT;apply TK;apply TK;(first|(apply aH<;>apply TK)|(apply aE<;>apply TK)|(apply aC<;>apply TK)|(apply ah<;>(first|apply TK|omega))|(apply aq<;>apply TK)|(apply bK<;>apply TK)))
  |apply ba
  |apply al
  |apply an
  |apply aG
  |apply ck
  |apply aS
  |apply aZ
  |(apply bZ;apply TK;(first|(apply aR<;>apply TK)|(apply aP<;>apply TK)|(apply bP<;>apply TK)))
  |(apply cM;apply TK;intro _;rotate_left 1;intro _;rotate_left 1))
 ·rename_i a1
  have e:eX t.way c.len g=⟨c.len-g.hi,c.len-g.lo⟩:=by unfold eX;rw[if_pos a1]
  rw[e];((try apply aM);first|(apply jv;apply TK;apply TK;apply TK;apply TK;apply TK;apply TK;apply TK;apply TK;try apply TK))
 ·rename_i a1
  have e:eX t.way c.len g=g:=by unfold eX;rw[if_neg a1]
  rw[e];((try apply aM);first|(apply jv;apply TK;apply TK;apply TK;apply TK;apply TK;apply TK;apply TK;apply TK;try apply TK))
def ui(a b:Span)(gap:Int):Int×Int×Bool:=
 (max a.lo (b.lo-gap+1),max b.lo (max a.lo (b.lo-gap+1)-gap+1),
   (decide (max a.lo (b.lo-gap+1)≤a.hi)&&decide (max b.lo (max a.lo (b.lo-gap+1)-gap+1)≤b.hi))&&decide (max b.lo (max a.lo (b.lo-gap+1)-gap+1)-max a.lo (b.lo-gap+1)<gap))
theorem Tk(a b:Span)(gap:Int)(h1: -1000000≤a.lo)(h2:a.lo≤1000000)(h3: -1000000≤b.lo)(h4:b.lo≤1000000)(g0:0≤gap)(g1:gap≤100000):
 au cJ 75 [.agg (bC a), .agg (bC b), .int .i64 gap] (.tup [.int .i64 (ui a b gap).1, .int .i64 (ui a b gap).2.1, .bool (ui a b gap).2.2]):=by
 refine aD (fn:=Tryd.f75) Tryd.func75 rfl (by kernel_rfl) rfl ?_ ?_ ?_
 ·exact af.cons (.agg _ (cN a)) (af.cons (.agg _ (cN b)) (af.cons (.int _ _) af.nil))
 ·exact .tup _ (af.cons (.int _ _) (af.cons (.int _ _) (af.cons (.bool _) af.nil)))
 intro w κ
 repeat' (first
  |(apply bT;apply TK;apply TK;(first|(apply aB<;>apply TK)|(apply aI<;>apply TK)|(apply aH<;>apply TK)|(apply aE<;>apply TK)|(apply aC<;>apply TK)|(apply aX<;>apply TK)|(apply bm<;>apply TK)|(apply ah<;>(first|apply TK|omega))|(apply bR<;>apply TK)|(apply bY<;>apply TK)|(apply dL<;>apply TK)))
  |apply ba
  |apply al
  |apply an
  |apply aG
  |apply aZ
  |(apply bZ;apply TK;(first|(apply aR<;>apply TK)))
  |(apply dg;apply TK;apply TK;apply TK)
  |(apply eA;apply TK;apply TK;apply TK;apply TK;apply TK)
  |(apply xK;apply TK;apply TK;apply TK;intro _;rotate_left 1;intro _;rotate_left 1))
 all_goals simp only[ui]
 all_goals ((try apply aM);first|(focus (apply Cq;apply TK;(first|(apply eI;apply TK)|(apply gx;apply TK));(first|(apply eI;apply TK)|(apply gx;apply TK));(first|(apply eI;apply TK)|(apply gx;apply TK));all_goals try apply TK)))
 all_goals simp[*]
def eO(way len g m:Int):List Hold→Bool
 |[]=>true
 |h::hs=>if bc way len h.a=g∧h.u>m then false else eO way len g m hs
def gD(t:Truck)(len g m:Int):Bool:=if m<t.start∨g≥len then false else eO t.way len g m t.holds
theorem Hk{way len g m:Int}{hs:List Hold}{k:Nat}(hi:eO way len g m (hs.drop k)=eO way len g m hs)(h:¬k<hs.length):true=eO way len g m hs:=by
 rw[←hi,List.drop_eq_nil_of_le (by omega)];rfl
theorem Hd{way len g m:Int}{hs:List Hold}{k:Nat}(hi:eO way len g m (hs.drop k)=eO way len g m hs)(h:k<hs.length)(h1:bc way len (hs.getD k default).a=g)(h2:(hs.getD k default).u>m):
 false=eO way len g m hs:=by
 rw[←hi,fo _ _ h,eO,if_pos ⟨h1,h2⟩]
theorem EF{way len g m:Int}{hs:List Hold}{k:Nat}(hi:eO way len g m (hs.drop k)=eO way len g m hs)(h:k<hs.length)(h1:¬(bc way len (hs.getD k default).a=g∧(hs.getD k default).u>m)):
 eO way len g m (hs.drop (k+1))=eO way len g m hs:=by
 rw[←hi,fo _ _ h,eO,if_neg h1]
attribute [local irreducible] eO
theorem Tf(c:Convoy)(t:Truck)(g m:Int)(hl:1≤c.len)(hl2:c.len≤100000)(ho:Bg c.len t.holds):au cJ 79 [.agg (aL c), .agg (bA t), .int .i64 g, .int .i64 m] (.bool (gD t c.len g m)):=by
 refine aD (fn:=Tryd.f79) Tryd.func79 rfl (by kernel_rfl) rfl ?_ ?_ ?_
 ·exact af.cons (.agg _ (bn c)) (af.cons (.agg _ (dN t)) (af.cons (.int _ _) (af.cons (.int _ _) af.nil)))
 ·exact .bool _
 intro w κ
 have hl8:=ho.1
 repeat' (first
  |(apply bT;apply TK;apply TK;(first|(apply aB<;>apply TK)|(apply aI<;>apply TK)|(apply aH<;>apply TK)|(apply aE<;>apply TK)|(apply aC<;>apply TK)|(apply aX<;>apply TK)|(apply bm<;>apply TK)|(apply di<;>apply TK)|(apply iP<;>apply TK)|(apply ah<;>(first|apply TK|omega))|(apply bd<;>apply TK)|(apply bR<;>apply TK)|(apply bY<;>apply TK)|(apply cq<;>(first|apply TK|omega))|(apply aq<;>apply TK)|(apply aN<;>apply TK)))
  |apply ba
  |apply al
  |apply an
  |apply aG
  |apply bp
  |apply ck
  |apply aF
  |apply cP
  |apply aw
  |apply aS
  |apply bk
  |apply aZ
  |apply aQ
  |(apply bu;apply TK)
  |(apply bF;apply TK)
  |(apply bZ;apply TK;(first|(apply aR<;>apply TK)))
  |(apply dg;apply TK;apply TK;apply TK)
  |(apply eA;apply TK;apply TK;apply TK;apply TK;apply TK)
  |(apply xK;apply TK;apply TK;apply TK;intro _;rotate_left 1;intro _;rotate_left 1)
  |apply ay
  |(apply bw;kernel_rfl)
  |(apply dx;(first|(apply ab;apply TK)|(apply ae;apply TK;apply TK;apply TK));apply TK;first|(apply bB<;>apply TK)|(apply aV<;>apply TK)|(apply b8;apply TK)|(apply b7;apply TK)|(apply aO;intro _;(first|(apply aB<;>apply TK)|(apply aI<;>apply TK)|(apply aH<;>apply TK)|(apply aE<;>apply TK)|(apply aC<;>apply TK)|(apply aX<;>apply TK)|(apply bm<;>apply TK)|(apply di<;>apply TK)|(apply iP<;>apply TK)|(apply ah<;>(first|apply TK|omega))|(apply bd<;>apply TK)|(apply bR<;>apply TK)|(apply bY<;>apply TK)|(apply cq<;>(first|apply TK|omega))|(apply aq<;>apply TK)|(apply aN<;>apply TK))))
  |(apply od;apply TK;apply TK;apply TK;apply TK;apply TK)
  |(apply vi;apply TK;apply TK;apply TK;intro _;rotate_left 1;intro _;rotate_left 1)
  |(apply cM;apply TK;intro _;rotate_left 1;intro _;rotate_left 1))
 ·rename_i a1
  have e:gD t c.len g m=false:=by unfold gD;rw[if_pos (.inl a1)]
  rw[e];((try apply aM);first|(apply iE;apply TK;apply TK;try apply TK))
 ·rename_i a1 a2
  have e:gD t c.len g m=false:=by unfold gD;rw[if_pos (.inr a2)]
  rw[e];((try apply aM);first|(apply iE;apply TK;apply TK;try apply TK))
 rename_i a1 a2
 have e:gD t c.len g m=eO t.way c.len g m t.holds:=by unfold gD;rw[if_neg (fun h=>h.elim a1 a2)]
 rw[e]
 refine dJ [2,3,4,5] [4,5] (fun k:Nat=>[(9, .int .i64 k)]) (fun _=>[]) (fun _=>[]) (fun k=>k≤t.holds.length∧eO t.way c.len g m (t.holds.drop k)=eO t.way c.len g m t.holds) (fun k=>t.holds.length-k) 0 ⟨Nat.zero_le _,rfl⟩ (by refine⟨?_, ?_, ?_⟩<;>repeat' (first|exact trivial|apply And.intro|apply TK|(apply gz;apply TK;first|omega|assumption)|(apply gL;apply TK;repeat' (first|apply TK|apply cf|(apply cj;first|apply TK|omega|assumption))))) (fun k h hi=> ?_)
 have hk:=hi.1
 have hb:∀hk' :(k:Int)<t.holds.length,1≤(t.holds.getD (k:Int).toNat default).a∧(t.holds.getD (k:Int).toNat default).a≤c.len-1:=fun h=>by
  have:=ho.2 k (by omega);simp only[Int.toNat_natCast];omega
 repeat' (first
  |(apply bT;apply TK;apply TK;(first|(apply aB<;>apply TK)|(apply aI<;>apply TK)|(apply aH<;>apply TK)|(apply aE<;>apply TK)|(apply aC<;>apply TK)|(apply aX<;>apply TK)|(apply bm<;>apply TK)|(apply di<;>apply TK)|(apply iP<;>apply TK)|(apply ah<;>(first|apply TK|omega))|(apply bd<;>apply TK)|(apply bR<;>apply TK)|(apply bY<;>apply TK)|(apply cq<;>(first|apply TK|omega))|(apply aq<;>apply TK)|(apply aN<;>apply TK)))
  |apply ba
  |apply al
  |apply an
  |apply aG
  |apply bp
  |apply ck
  |apply aF
  |apply cP
  |apply aw
  |apply aS
  |apply bk
  |apply aZ
  |apply aQ
  |(apply bu;apply TK)
  |(apply bF;apply TK)
  |(apply bZ;apply TK;(first|(apply aR<;>apply TK)))
  |(apply dg;apply TK;apply TK;apply TK)
  |(apply eA;apply TK;apply TK;apply TK;apply TK;apply TK)
  |(apply xK;apply TK;apply TK;apply TK;intro _;rotate_left 1;intro _;rotate_left 1)
  |apply ay
  |(apply bw;kernel_rfl)
  |(apply dx;(first|(apply ab;apply TK)|(apply ae;apply TK;apply TK;apply TK));apply TK;first|(apply bB<;>apply TK)|(apply aV<;>apply TK)|(apply b8;apply TK)|(apply b7;apply TK)|(apply aO;intro _;(first|(apply aB<;>apply TK)|(apply aI<;>apply TK)|(apply aH<;>apply TK)|(apply aE<;>apply TK)|(apply aC<;>apply TK)|(apply aX<;>apply TK)|(apply bm<;>apply TK)|(apply di<;>apply TK)|(apply iP<;>apply TK)|(apply ah<;>(first|apply TK|omega))|(apply bd<;>apply TK)|(apply bR<;>apply TK)|(apply bY<;>apply TK)|(apply cq<;>(first|apply TK|omega))|(apply aq<;>apply TK)|(apply aN<;>apply TK))))
  |(apply az;(first|(apply ab;apply TK)|(apply ae;apply TK;apply TK;apply TK));apply TK;apply TK;apply TK;exact(G2 c t (t.holds.getD (k:Int).toNat default) (by have:=hb (by assumption);omega) (by have:=hb (by assumption);omega) (by omega) (by omega)))
  |(apply od;apply TK;apply TK;apply TK;apply TK;apply TK)
  |(apply vi;apply TK;apply TK;apply TK;intro _;rotate_left 1;intro _;rotate_left 1)
  |(apply cM;apply TK;intro _;rotate_left 1;intro _;rotate_left 1))
 all_goals try simp only[Int.toNat_natCast]at*
 all_goals first
  |(((try apply aM);first|(apply iE;apply TK;apply TK;try apply TK));exact Hd hi.2 (by omega) (by assumption) (by assumption))
  |(((try apply aM);first|(apply iE;apply TK;apply TK;try apply TK));exact Hk hi.2 (by omega))
  |(refine⟨k+1,⟨by omega,EF hi.2 (by omega) (fun hh=>by first|exact absurd hh.1 (by assumption)|exact absurd hh.2 (by assumption))⟩,by omega,(by apply bJ;refine⟨?_, ?_, ?_, ?_, ?_⟩<;>repeat' (first|exact trivial|apply And.intro|apply TK|(apply gz;apply TK;first|omega|assumption)|(apply gL;apply TK;repeat' (first|apply TK|apply cf|(apply cj;first|apply TK|omega|assumption)))))⟩;done)
  |skip
def bL(t:Truck)(len:Int)(x:Span)(m:Int):Span×Bool:=
 (⟨x.lo,if gD t len x.hi m then x.hi else x.hi-1⟩,decide (m≥t.start)&&decide (x.lo≤(if gD t len x.hi m then x.hi else x.hi-1)))
attribute [local irreducible] gD
theorem Se(c:Convoy)(t:Truck)(x:Span)(m:Int)(hl:1≤c.len)(hl2:c.len≤100000)(ho:Bg c.len t.holds)(h3: -1000000≤x.hi)(h4:x.hi≤1000000):
 au cJ 74 [.agg (aL c), .agg (bA t), .agg (bC x), .int .i64 m] (.tup [.agg (bC (bL t c.len x m).1), .bool (bL t c.len x m).2]):=by
 refine aD (fn:=Tryd.f74) Tryd.func74 rfl (by kernel_rfl) rfl ?_ ?_ ?_
 ·exact af.cons (.agg _ (bn c)) (af.cons (.agg _ (dN t)) (af.cons (.agg _ (cN x)) (af.cons (.int _ _) af.nil)))
 ·exact .tup _ (af.cons (.agg _ (cN _)) (af.cons (.bool _) af.nil))
 intro w κ
 have r:=Tf c t x.hi m hl hl2 ho
 unfold bL
 generalize gD t c.len x.hi m=b at*
 cases b
 ·simp only[Bool.false_eq_true,if_false]
  repeat' (first
  |(apply bT;apply TK;apply TK;(first|(apply aB<;>apply TK)|(apply aH<;>apply TK)|(apply aE<;>apply TK)|(apply aC<;>apply TK)|(apply aX<;>apply TK)|(apply bm<;>apply TK)|(apply cR<;>apply TK)|(apply ah<;>(first|apply TK|omega))|(apply bR<;>apply TK)|(apply bY<;>apply TK)|(apply aq<;>apply TK)))
  |apply ba
  |apply al
  |apply an
  |apply aG
  |apply aS
  |apply aZ
  |(apply bu;apply TK)
  |(apply bF;apply TK)
  |(apply aA;apply TK;apply TK;rotate_left 1;apply TK;rotate_right 1;exact(r);apply TK)
  |(apply bZ;apply TK;(first|(apply aR<;>apply TK)|(apply aP<;>apply TK)|(apply bP<;>apply TK)))
  |apply ay
  |(apply bw;kernel_rfl)
  |(apply dx;(first|(apply ab;apply TK)|(apply ae;apply TK;apply TK;apply TK));apply TK;first|(apply bB<;>apply TK)|(apply aV<;>apply TK)|(apply b8;apply TK)|(apply b7;apply TK)|(apply aO;intro _;(first|(apply aB<;>apply TK)|(apply aH<;>apply TK)|(apply aE<;>apply TK)|(apply aC<;>apply TK)|(apply aX<;>apply TK)|(apply bm<;>apply TK)|(apply cR<;>apply TK)|(apply ah<;>(first|apply TK|omega))|(apply bR<;>apply TK)|(apply bY<;>apply TK)|(apply aq<;>apply TK))))
  |(apply ft;(first|(apply ab;apply TK)|(apply ae;apply TK;apply TK;apply TK));(first|(apply dV<;>apply TK)))
  |(apply od;apply TK;apply TK;apply TK;apply TK;apply TK)
  |(apply vi;apply TK;apply TK;apply TK;intro _;rotate_left 1;intro _;rotate_left 1))
  all_goals ((try apply aM);first|(focus (apply fv;apply TK;(first|(apply gx;apply TK)|(apply ep<;>apply TK));(first|(apply gx;apply TK)|(apply ep<;>apply TK));all_goals try apply TK)))
  all_goals simp[*]
 ·simp only[if_true]
  repeat' (first
  |(apply bT;apply TK;apply TK;(first|(apply aB<;>apply TK)|(apply aH<;>apply TK)|(apply aE<;>apply TK)|(apply aC<;>apply TK)|(apply aX<;>apply TK)|(apply bm<;>apply TK)|(apply cR<;>apply TK)|(apply ah<;>(first|apply TK|omega))|(apply bR<;>apply TK)|(apply bY<;>apply TK)|(apply aq<;>apply TK)))
  |apply ba
  |apply al
  |apply an
  |apply aG
  |apply aS
  |apply aZ
  |(apply bu;apply TK)
  |(apply bF;apply TK)
  |(apply aA;apply TK;apply TK;rotate_left 1;apply TK;rotate_right 1;exact(r);apply TK)
  |(apply bZ;apply TK;(first|(apply aR<;>apply TK)|(apply aP<;>apply TK)|(apply bP<;>apply TK)))
  |apply ay
  |(apply bw;kernel_rfl)
  |(apply dx;(first|(apply ab;apply TK)|(apply ae;apply TK;apply TK;apply TK));apply TK;first|(apply bB<;>apply TK)|(apply aV<;>apply TK)|(apply b8;apply TK)|(apply b7;apply TK)|(apply aO;intro _;(first|(apply aB<;>apply TK)|(apply aH<;>apply TK)|(apply aE<;>apply TK)|(apply aC<;>apply TK)|(apply aX<;>apply TK)|(apply bm<;>apply TK)|(apply cR<;>apply TK)|(apply ah<;>(first|apply TK|omega))|(apply bR<;>apply TK)|(apply bY<;>apply TK)|(apply aq<;>apply TK))))
  |(apply ft;(first|(apply ab;apply TK)|(apply ae;apply TK;apply TK;apply TK));(first|(apply dV<;>apply TK)))
  |(apply od;apply TK;apply TK;apply TK;apply TK;apply TK)
  |(apply vi;apply TK;apply TK;apply TK;intro _;rotate_left 1;intro _;rotate_left 1))
  all_goals ((try apply aM);first|(focus (apply fv;apply TK;(first|(apply gx;apply TK)|(apply ep<;>apply TK));(first|(apply gx;apply TK)|(apply ep<;>apply TK));all_goals try apply TK)))
  all_goals simp[*]
end Go.Proofs.YtafnhieaeejlcaaDoor
namespace Go.Proofs.YtafnhieaeejlcaaDoor
open Go Go.Ab
theorem Hy{t:Truck}{len pace:Int}(h:fc len t)(hp:1≤pace){k:Nat}(hk:dw t len pace k=len):dw t len pace (k+1)=len:=by
 have h1:=jj h.l1 h.ho h.so hp k
 have h2:=(fH (m:=t.start+k) h).2
 rw[eT h.l1 h.ho h.so hp k,hk]
 omega
theorem mZ{t:Truck}{len pace:Int}(h:fc len t)(hp:1≤pace){k:Nat}(hk:dw t len pace k=len):∀j,dw t len pace (k+j)=len
 |0=>hk
 |j+1=>Hy h hp (mZ h hp hk j)
theorem Du{t:Truck}{len:Int}(h:fc len t){k:Nat}(hk:cn t len t.lo≤k):gone t len k=gone t len (cn t len t.lo):=by
 obtain⟨j,rfl⟩:∃j,k=cn t len t.lo+j:=⟨k-cn t len t.lo,by omega⟩
 have h1:=(fa h (Int.le_refl t.lo)).1
 have h2:dw t len t.hi (cn t len t.lo)=len:=by
  have a:=l8 h (cn t len t.lo)
  have b:=(dH h.l1 h.ho (show 1≤t.hi by have:=h.p1;have:=h.p2;omega) (cn t len t.lo)).2
  omega
 unfold gone
 rw[mZ h h.p1 h1 j,mZ h (by have:=h.p1;have:=h.p2;omega) h2 j,h1,h2]
theorem u9{t:Truck}{len:Int}{m:Nat}:de t len m=gone t len ((m:Int)-t.start).toNat:=by
 unfold de im gone
 rw[show((m+1:Nat):Int)-1-t.start=(m:Int)-t.start by omega]
theorem Ea{t:Truck}{len:Int}(h:fc len t){m:Nat}(hm:t.start≤m):atP t len m=de t len m:=by
 rw[u9]
 unfold atP
 rw[if_neg (by omega)]
 by_cases e:(m:Int)-t.start≤cn t len t.lo
 ·rw[Int.min_eq_left e]
 ·rw[Int.min_eq_right (by omega),Du h (k:=((m:Int)-t.start).toNat) (by omega)]
  rw[show((cn t len t.lo:Nat):Int).toNat=cn t len t.lo by omega]
theorem Fo{way len m g:Int}:∀{hs:List Hold},jw way len hs→g<bG way len m hs→eO way len g m hs=true
 |[],_,_=>by simp only[eO]
 |h::hs,h1,h2=>by
  obtain⟨h3,h4⟩:=List.pairwise_cons.1 h1
  simp only[bG]at h2
  simp only[eO]
  by_cases e:h.u>m
  ·rw[if_pos e]at h2
   rw[if_neg (fun hh=>by omega)]
   clear h1 h4
   induction hs with
   |nil=>simp only[eO]
   |cons x hs ih=>
    simp only[eO]
    have:=h3 x (List.mem_cons_self ..)
    rw[if_neg (fun hh=>by omega)]
    exact ih fun y hy=>h3 y (List.mem_cons_of_mem _ hy)
  ·rw[if_neg e]at h2
   rw[if_neg (fun hh=>e hh.2)]
   exact Fo h4 h2
theorem Ff{way len m:Int}:∀{hs:List Hold},bG way len m hs≠len→eO way len (bG way len m hs) m hs=false
 |[],h=>absurd rfl h
 |h::hs,h1=>by
  simp only[bG]at h1⊢
  by_cases e:h.u>m
  ·rw[if_pos e]at h1⊢
   simp only[eO]
   rw[if_pos ⟨trivial,e⟩]
  ·rw[if_neg e]at h1⊢
   simp only[eO]
   rw[if_neg (fun hh=>e hh.2)]
   exact Ff h1
theorem se{t:Truck}{len g:Int}(h:fc len t){m:Int}(hm:t.start≤m)(hg:g≤bG t.way len m t.holds):gD t len g m=decide (g<bG t.way len m t.holds):=by
 obtain⟨_,s2⟩:=fH (m:=m) h
 unfold gD
 by_cases e:g<bG t.way len m t.holds
 ·rw[if_neg (by omega),Fo h.so e];simp[e]
 ·have:g=bG t.way len m t.holds:=by omega
  subst this
  simp only[Int.lt_irrefl,decide_false]
  by_cases e2:bG t.way len m t.holds=len
  ·rw[if_pos (.inr (by omega))]
  ·rw[if_neg (by omega),Ff e2]
theorem AN{way len:Int}{g:Span}(h:g.lo≤g.hi):gH way len g=eX way len g:=by
 unfold gH eX bc
 by_cases e:way=2
 ·simp only[if_pos e,Span.mk.injEq];omega
 ·simp only[if_neg e]
  cases g
  simp only[Span.mk.injEq]at h⊢;omega
theorem jI{t:Truck}{len:Int}(h:fc len t){m:Nat}:0≤(de t len m).lo∧(de t len m).lo≤(de t len m).hi∧(de t len m).hi≤len∧(t.start≤m→(de t len m).hi≤bG t.way len m t.holds):=by
 rw[u9]
 have p:=h.p1
 have p' :=h.p2
 refine⟨(dH h.l1 h.ho h.p1 _).1,l8 h _,(dH h.l1 h.ho (by omega) _).2,fun hm=> ?_⟩
 have:=jj (pace:=t.hi) h.l1 h.ho h.so (by omega) ((m:Int)-t.start).toNat
 rw[show t.start+((((m:Int)-t.start).toNat:Nat):Int)=m by omega]at this
 exact this
theorem wo{t:Truck}{len:Int}(h:fc len t){m:Nat}(ho:(bL t len (de t len m) m).2=false):(bX t len m).2=2:=by
 unfold bX
 by_cases hm:(m:Int)<t.start
 ·rw[if_pos hm]
 obtain⟨_,b2,_,b4⟩:=jI h (m:=m)
 have b4:=b4 (by omega)
 rw[if_neg hm,Ea h (by omega)]
 simp only[bL,se h (show t.start≤(m:Int) by omega) b4]at ho
 by_cases e:(de t len m).hi<bG t.way len m t.holds
 ·simp[e]at ho;omega
 ·simp[e]at ho
  rw[if_neg e,if_pos (by omega)]
theorem Fa{t:Truck}{len:Int}(h:fc len t){m:Nat}(ho:(bL t len (de t len m) m).2=true):
 (bX t len m).2≠2∧(bX t len m).1=eX t.way len (bL t len (de t len m) m).1:=by
 by_cases hm:(m:Int)<t.start
 ·simp only[bL]at ho;simp at ho;omega
 obtain⟨_,b2,_,b4⟩:=jI h (m:=m)
 have b4:=b4 (by omega)
 unfold bX
 rw[if_neg hm,Ea h (by omega)]
 simp only[bL,se h (show t.start≤(m:Int) by omega) b4]at ho⊢
 by_cases e:(de t len m).hi<bG t.way len m t.holds
 ·simp only[e,decide_true,if_true]
  exact⟨by decide,AN b2⟩
 ·have e2:(de t len m).hi=bG t.way len m t.holds:=by omega
  simp[e]at ho
  rw[if_neg e,if_neg (by omega)]
  simp only[e,decide_false,Bool.false_eq_true,if_false]
  rw[←e2]
  exact⟨by decide,AN (by show(de t len m).lo≤(de t len m).hi-1;omega)⟩
def qk(gap:Int)(t u:Truck)(len:Int)(m:Nat):Int×Int×Bool:=
 if(bL t len (de t len m) m).2=false then(0,0,false)else if(bL u len (de u len m) m).2=false then(0,0,false)
 else ui (eX t.way len (bL t len (de t len m) m).1) (eX u.way len (bL u len (de u len m) m).1) gap
theorem H0{gap len:Int}{t u:Truck}(ht:fc len t)(hu:fc len u)(hg:1≤gap)(m:Nat):qk gap t u len m=gA gap (bX t len m) (bX u len m):=by
 unfold qk gA
 cases e1:(bL t len (de t len m) m).2 with
 |false=>rw[if_pos rfl,if_pos (.inl (wo ht e1))]
 |true=>
  obtain⟨a1,a2⟩:=Fa ht e1
  rw[if_neg (by decide)]
  cases e2:(bL u len (de u len m) m).2 with
  |false=>rw[if_pos rfl,if_pos (.inr (wo hu e2))]
  |true=>
   obtain⟨b1,b2⟩:=Fa hu e2
   rw[if_neg (by decide),if_neg (fun h=>h.elim a1 b1),a2,b2]
   unfold ui
   simp only[Prod.mk.injEq,true_and]
   rw[decide_eq_true (show max (eX u.way len (bL u len (de u len m) m).1).lo (max (eX t.way len (bL t len (de t len m) m).1).lo ((eX u.way len (bL u len (de u len m) m).1).lo-gap+1)-gap+1)-max (eX t.way len (bL t len (de t len m) m).1).lo ((eX u.way len (bL u len (de u len m) m).1).lo-gap+1)<gap by omega),Bool.and_true]
end Go.Proofs.YtafnhieaeejlcaaDoor
namespace Go.Proofs.YtafnhieaeejlcaaDoor
open Go Go.Ab
set_option maxRecDepth 100000
set_option maxHeartbeats 0
attribute [local irreducible] W WL eu kX fh eo gR WG FQ Want jO WI pM fQ eC
def HF(t:Truck)(len:Int)(e:Nat):D:= .sl 2 (e+1) (fun i=>bC (de t len i))
theorem eG{gap len:Int}{t u:Truck}(ht:fc len t)(hu:fc len u)(hg:1≤gap)(m:Nat)(b:Bool×Bool):qk gap (bf t b.1) (bf u b.2) len m=ix gap t u len m b:=by
 unfold ix;exact H0 (ht.free _) (hu.free _) hg m
theorem pJ{gap len:Int}{t u:Truck}{m:Nat}(h:(bL t len (de t len m) m).2=false):qk gap t u len m=(0,0,false):=by unfold qk;rw[if_pos h]
theorem pq{gap len:Int}{t u:Truck}{m:Nat}(h:(bL u len (de u len m) m).2=false):(qk gap t u len m).2.2=false:=by
 unfold qk;rw[if_pos h];split<;>rfl
theorem g8{gap len:Int}{t u:Truck}{m:Nat}(h:(bL t len (de t len m) m).2=true)(h2:(bL u len (de u len m) m).2=true):
 qk gap t u len m=ui (eX t.way len (bL t len (de t len m) m).1) (eX u.way len (bL u len (de u len m) m).1) gap:=by
 unfold qk;rw[if_neg (by simp[h]),if_neg (by simp[h2])]
theorem Br{way len:Int}{g:Span}(h: -1≤g.lo∧g.lo≤100000)(h' : -1≤g.hi∧g.hi≤100000)(h1:1≤len)(h2:len≤100000): -1000000≤(eX way len g).lo∧(eX way len g).lo≤1000000:=by
 unfold eX;split
 ·show -1000000≤len-g.hi∧len-g.hi≤1000000;omega
 ·omega
theorem mY{t:Truck}{len:Int}(h:fc len t){m:Nat}:(-1≤(bL t len (de t len m) m).1.lo∧(bL t len (de t len m) m).1.lo≤100000)∧(-1≤(bL t len (de t len m) m).1.hi∧(bL t len (de t len m) m).1.hi≤100000):=by
 obtain⟨b1,b2,b3,_⟩:=jI h (m:=m)
 have:=h.l2
 unfold bL
 refine⟨⟨by show -1≤(de t len m).lo;omega,by show(de t len m).lo≤_;omega⟩, ?_⟩
 show -1≤(if gD t len (de t len m).hi m=true then(de t len m).hi else(de t len m).hi-1)∧(if gD t len (de t len m).hi m=true then(de t len m).hi else(de t len m).hi-1)≤100000
 split<;>omega
attribute [local irreducible] dy de bL ui eX qk ix jT
theorem RN(c:Convoy):au cJ 28 [.agg (aL c)] (.tup [.agg (cI (if ai c=0 then xS (cg c)else default)), .int .i64 (if ai c=0 then(if(cg c).isSome then 0 else 7)else ai c)]):=by
 refine aD (fn:=Tryd.f28) Tryd.func28 rfl (by kernel_rfl) rfl ?_ ?_ ?_
 ·exact af.cons (.agg _ (bn c)) af.nil
 ·exact .tup _ (af.cons (.agg _ (jW _)) (af.cons (.int _ _) af.nil))
 intro w κ
 by_cases h0:ai c=0
 rotate_left 1
 ·rw[if_neg h0,if_neg h0]
  repeat' (first
  |(apply bT;apply TK;apply TK;(first|(apply aB<;>apply TK)|(apply aI<;>apply TK)|(apply aH<;>apply TK)|(apply aE<;>apply TK)|(apply aC<;>apply TK)|(apply aX<;>apply TK)|(apply bm<;>apply TK)|(apply cR<;>apply TK)|(apply di<;>apply TK)|(apply ah<;>(first|apply TK|omega))|(apply bd<;>apply TK)|(apply cv<;>apply TK)|(apply bR<;>apply TK)|(apply bY<;>apply TK)|(apply cq<;>(first|apply TK|omega))|(apply aq<;>apply TK)|(apply aN<;>apply TK)|(apply bK<;>apply TK)|(apply cQ<;>apply TK)|(apply dr<;>apply TK)|(apply dm<;>apply TK)|(apply dt<;>apply TK)|(apply eH<;>apply TK)|(apply cx<;>apply TK)|(apply fT;apply TK;apply TK;apply TK;(first|omega|decide);apply TK;apply TK;(first|omega|decide);apply TK;apply TK)|(apply cU;apply TK;apply TK;apply TK;apply TK;(first|omega|decide);apply TK;apply TK;(first|omega|decide);apply TK;apply TK)))
  |apply ba
  |apply al
  |apply an
  |apply aG
  |apply bp
  |apply ck
  |apply aF
  |apply cP
  |apply aw
  |apply aS
  |apply bk
  |apply aZ
  |apply aQ
  |(apply bu;apply TK)
  |(apply bF;apply TK)
  |(apply aA;apply TK;apply TK;rotate_left 1;apply TK;rotate_right 1;exact(OR c);apply TK)
  |(apply bZ;apply TK;(first|(apply aR<;>apply TK)|(apply aP<;>apply TK)|(apply bP<;>apply TK)))
  |(apply dg;apply TK;apply TK;apply TK)
  |(apply eA;apply TK;apply TK;apply TK;apply TK;apply TK)
  |(apply rS;apply TK;apply TK;apply TK;intro _;rotate_left 1;intro _;rotate_left 1)
  |apply ay
  |(apply bw;kernel_rfl)
  |(apply dx;(first|(apply ab;apply TK)|(apply ae;apply TK;apply TK;apply TK));apply TK;first|(apply bB<;>apply TK)|(apply aV<;>apply TK)|(apply b8;apply TK)|(apply b7;apply TK)|(apply aO;intro _;(first|(apply aB<;>apply TK)|(apply aI<;>apply TK)|(apply aH<;>apply TK)|(apply aE<;>apply TK)|(apply aC<;>apply TK)|(apply aX<;>apply TK)|(apply bm<;>apply TK)|(apply cR<;>apply TK)|(apply di<;>apply TK)|(apply ah<;>(first|apply TK|omega))|(apply bd<;>apply TK)|(apply cv<;>apply TK)|(apply bR<;>apply TK)|(apply bY<;>apply TK)|(apply cq<;>(first|apply TK|omega))|(apply aq<;>apply TK)|(apply aN<;>apply TK)|(apply bK<;>apply TK)|(apply cQ<;>apply TK)|(apply dr<;>apply TK)|(apply dm<;>apply TK)|(apply dt<;>apply TK)|(apply eH<;>apply TK)|(apply cx<;>apply TK)|(apply fT;apply TK;apply TK;apply TK;(first|omega|decide);apply TK;apply TK;(first|omega|decide);apply TK;apply TK)|(apply cU;apply TK;apply TK;apply TK;apply TK;(first|omega|decide);apply TK;apply TK;(first|omega|decide);apply TK;apply TK))))
  |(apply az;(first|(apply ab;apply TK)|(apply ae;apply TK;apply TK;apply TK));apply TK;apply TK;apply TK;exact(OR c))
  |(apply ft;(first|(apply ab;apply TK)|(apply ae;apply TK;apply TK;apply TK));(first|(apply cH<;>apply TK)|(apply dV<;>apply TK)|(apply g4<;>apply TK)))
  |(apply cM;apply TK;intro _;rotate_left 1;intro _;rotate_left 1)
  |(apply fq;apply TK;intro _;rotate_left 1;intro _;rotate_left 1)
  |(apply nJ;apply TK;intro _;rotate_left 1;intro _;rotate_left 1)
  |(apply eR;apply TK;intro _;rotate_left 1;intro _;rotate_left 1))
  ·((try apply aM);first|(focus (apply fv;apply TK;(first|(apply eI;apply TK)|(apply ep<;>apply TK));(first|(apply eI;apply TK)|(apply ep<;>apply TK));all_goals try apply TK)))
  ·contradiction
 have hc:=fg h0
 have h1:=OR c
 rw[if_pos h0,if_pos h0]
 rw[h0]at h1
 obtain⟨mb1,mb2⟩:=me hc c.trucks.length (Nat.le_refl _)
 have hlast:((eD c:Nat):Int)=dy (fA c) c.trucks.length:=by unfold eD;omega
 have h2:=To c hc.ok
 rw[←hlast]at h2
 have hn:=hc.ok.n
 repeat' (first
  |(apply bT;apply TK;apply TK;(first|(apply aB<;>apply TK)|(apply aI<;>apply TK)|(apply aH<;>apply TK)|(apply aE<;>apply TK)|(apply aC<;>apply TK)|(apply aX<;>apply TK)|(apply bm<;>apply TK)|(apply cR<;>apply TK)|(apply di<;>apply TK)|(apply ah<;>(first|apply TK|omega))|(apply bd<;>apply TK)|(apply cv<;>apply TK)|(apply bR<;>apply TK)|(apply bY<;>apply TK)|(apply cq<;>(first|apply TK|omega))|(apply aq<;>apply TK)|(apply aN<;>apply TK)|(apply bK<;>apply TK)|(apply cQ<;>apply TK)|(apply dr<;>apply TK)|(apply dm<;>apply TK)|(apply dt<;>apply TK)|(apply eH<;>apply TK)|(apply cx<;>apply TK)|(apply fT;apply TK;apply TK;apply TK;(first|omega|decide);apply TK;apply TK;(first|omega|decide);apply TK;apply TK)|(apply cU;apply TK;apply TK;apply TK;apply TK;(first|omega|decide);apply TK;apply TK;(first|omega|decide);apply TK;apply TK)))
  |apply ba
  |apply al
  |apply an
  |apply aG
  |apply bp
  |apply ck
  |apply aF
  |apply cP
  |apply aw
  |apply aS
  |apply bk
  |apply aZ
  |apply aQ
  |(apply bu;apply TK)
  |(apply bF;apply TK)
  |(apply aA;apply TK;apply TK;rotate_left 1;apply TK;rotate_right 1;exact(h1);apply TK)
  |(apply aA;apply TK;apply TK;rotate_left 1;apply TK;rotate_right 1;exact(h2);apply TK)
  |(apply bZ;apply TK;(first|(apply aR<;>apply TK)|(apply aP<;>apply TK)|(apply bP<;>apply TK)))
  |(apply dg;apply TK;apply TK;apply TK)
  |(apply eA;apply TK;apply TK;apply TK;apply TK;apply TK)
  |(apply rS;apply TK;apply TK;apply TK;intro _;rotate_left 1;intro _;rotate_left 1)
  |apply ay
  |(apply bw;kernel_rfl)
  |(apply dx;(first|(apply ab;apply TK)|(apply ae;apply TK;apply TK;apply TK));apply TK;first|(apply bB<;>apply TK)|(apply aV<;>apply TK)|(apply b8;apply TK)|(apply b7;apply TK)|(apply aO;intro _;(first|(apply aB<;>apply TK)|(apply aI<;>apply TK)|(apply aH<;>apply TK)|(apply aE<;>apply TK)|(apply aC<;>apply TK)|(apply aX<;>apply TK)|(apply bm<;>apply TK)|(apply cR<;>apply TK)|(apply di<;>apply TK)|(apply ah<;>(first|apply TK|omega))|(apply bd<;>apply TK)|(apply cv<;>apply TK)|(apply bR<;>apply TK)|(apply bY<;>apply TK)|(apply cq<;>(first|apply TK|omega))|(apply aq<;>apply TK)|(apply aN<;>apply TK)|(apply bK<;>apply TK)|(apply cQ<;>apply TK)|(apply dr<;>apply TK)|(apply dm<;>apply TK)|(apply dt<;>apply TK)|(apply eH<;>apply TK)|(apply cx<;>apply TK)|(apply fT;apply TK;apply TK;apply TK;(first|omega|decide);apply TK;apply TK;(first|omega|decide);apply TK;apply TK)|(apply cU;apply TK;apply TK;apply TK;apply TK;(first|omega|decide);apply TK;apply TK;(first|omega|decide);apply TK;apply TK))))
  |(apply az;(first|(apply ab;apply TK)|(apply ae;apply TK;apply TK;apply TK));apply TK;apply TK;apply TK;exact(h1))
  |(apply az;(first|(apply ab;apply TK)|(apply ae;apply TK;apply TK;apply TK));apply TK;apply TK;apply TK;exact(h2))
  |(apply ft;(first|(apply ab;apply TK)|(apply ae;apply TK;apply TK;apply TK));(first|(apply cH<;>apply TK)|(apply dV<;>apply TK)|(apply g4<;>apply TK)))
  |(apply cM;apply TK;intro _;rotate_left 1;intro _;rotate_left 1)
  |(apply fq;apply TK;intro _;rotate_left 1;intro _;rotate_left 1)
  |(apply nJ;apply TK;intro _;rotate_left 1;intro _;rotate_left 1)
  |(apply eR;apply TK;intro _;rotate_left 1;intro _;rotate_left 1))
 refine qU (qz 6 6 101 2 (fun i=>[HF (c.trucks.getD i default) c.len (eD c),HF (bf (c.trucks.getD i default) true) c.len (eD c)]) rfl) ?_
 refine dJ [1,2,3,5] [1,2] (fun k:Nat=>[(6, .os 6 (k+1)),(7, .int .i64 k)]) (fun k=>[(6,k+1)])
  (fun k=>[(6, .arr 101 2 k (fun i=>[HF (c.trucks.getD i default) c.len (eD c),HF (bf (c.trucks.getD i default) true) c.len (eD c)]))])
  (fun k=>k≤c.trucks.length) (fun k=>c.trucks.length-k) 0 (Nat.zero_le _) (by refine⟨?_, ?_, ?_⟩<;>repeat' (first|exact trivial|apply And.intro|apply TK|(apply gz;apply TK;first|omega|assumption)|(apply gL;apply TK;repeat' (first|apply TK|apply cf|(apply cj;first|apply TK|omega|assumption))))) (fun k h hk=> ?_)
 have ht:(k:Int)<c.trucks.length→xw c (c.trucks.getD (k:Int).toNat default):=fun h=>hc.ok.t _ (by omega)
 have hw1:(k:Int)<c.trucks.length→au cJ 72 [.agg (aL c), .agg (bA (c.trucks.getD (k:Int).toNat default)), .int .i64 (eD c:Nat)] (HF (c.trucks.getD (k:Int).toNat default) c.len (eD c)):=fun h=>by unfold HF;exact SO c _ (eD c) (ht h) (by omega)
 have hw2:(k:Int)<c.trucks.length→au cJ 72 [.agg (aL c), .agg (bA (bf (c.trucks.getD (k:Int).toNat default) true)), .int .i64 (eD c:Nat)] (HF (bf (c.trucks.getD (k:Int).toNat default) true) c.len (eD c)):=fun h=>by unfold HF;exact SO c _ (eD c) ((ht h).free true) (by omega)
 repeat' (first
  |(apply bT;apply TK;apply TK;(first|(apply aB<;>apply TK)|(apply aI<;>apply TK)|(apply aH<;>apply TK)|(apply aE<;>apply TK)|(apply aC<;>apply TK)|(apply aX<;>apply TK)|(apply bm<;>apply TK)|(apply cR<;>apply TK)|(apply di<;>apply TK)|(apply ah<;>(first|apply TK|omega))|(apply bd<;>apply TK)|(apply cv<;>apply TK)|(apply bR<;>apply TK)|(apply bY<;>apply TK)|(apply cq<;>(first|apply TK|omega))|(apply aq<;>apply TK)|(apply aN<;>apply TK)|(apply bK<;>apply TK)|(apply cQ<;>apply TK)|(apply dr<;>apply TK)|(apply dm<;>apply TK)|(apply dt<;>apply TK)|(apply eH<;>apply TK)|(apply cx<;>apply TK)|(apply fT;apply TK;apply TK;apply TK;(first|omega|decide);apply TK;apply TK;(first|omega|decide);apply TK;apply TK)|(apply cU;apply TK;apply TK;apply TK;apply TK;(first|omega|decide);apply TK;apply TK;(first|omega|decide);apply TK;apply TK)))
  |apply ba
  |apply al
  |apply an
  |apply aG
  |apply bp
  |apply ck
  |apply aF
  |apply cP
  |apply aw
  |apply aS
  |apply bk
  |apply aZ
  |apply aQ
  |(apply bu;apply TK)
  |(apply bF;apply TK)
  |(apply aA;apply TK;apply TK;rotate_left 1;apply TK;rotate_right 1;exact(hw1 (by assumption));apply TK)
  |(apply aA;apply TK;apply TK;rotate_left 1;apply TK;rotate_right 1;exact(hw2 (by assumption));apply TK)
  |(apply aA;apply TK;apply TK;rotate_left 1;apply TK;rotate_right 1;exact(zp (c.trucks.getD (k:Int).toNat default) true);apply TK)
  |(apply bZ;apply TK;(first|(apply aR<;>apply TK)|(apply aP<;>apply TK)|(apply bP<;>apply TK)))
  |(apply dg;apply TK;apply TK;apply TK)
  |(apply eA;apply TK;apply TK;apply TK;apply TK;apply TK)
  |(apply rS;apply TK;apply TK;apply TK;intro _;rotate_left 1;intro _;rotate_left 1)
  |apply ay
  |(apply bw;kernel_rfl)
  |(apply dx;(first|(apply ab;apply TK)|(apply ae;apply TK;apply TK;apply TK));apply TK;first|(apply bB<;>apply TK)|(apply aV<;>apply TK)|(apply b8;apply TK)|(apply b7;apply TK)|(apply aO;intro _;(first|(apply aB<;>apply TK)|(apply aI<;>apply TK)|(apply aH<;>apply TK)|(apply aE<;>apply TK)|(apply aC<;>apply TK)|(apply aX<;>apply TK)|(apply bm<;>apply TK)|(apply cR<;>apply TK)|(apply di<;>apply TK)|(apply ah<;>(first|apply TK|omega))|(apply bd<;>apply TK)|(apply cv<;>apply TK)|(apply bR<;>apply TK)|(apply bY<;>apply TK)|(apply cq<;>(first|apply TK|omega))|(apply aq<;>apply TK)|(apply aN<;>apply TK)|(apply bK<;>apply TK)|(apply cQ<;>apply TK)|(apply dr<;>apply TK)|(apply dm<;>apply TK)|(apply dt<;>apply TK)|(apply eH<;>apply TK)|(apply cx<;>apply TK)|(apply fT;apply TK;apply TK;apply TK;(first|omega|decide);apply TK;apply TK;(first|omega|decide);apply TK;apply TK)|(apply cU;apply TK;apply TK;apply TK;apply TK;(first|omega|decide);apply TK;apply TK;(first|omega|decide);apply TK;apply TK))))
  |(apply az;(first|(apply ab;apply TK)|(apply ae;apply TK;apply TK;apply TK));apply TK;apply TK;apply TK;exact(hw1 (by assumption)))
  |(apply az;(first|(apply ab;apply TK)|(apply ae;apply TK;apply TK;apply TK));apply TK;apply TK;apply TK;exact(hw2 (by assumption)))
  |(apply az;(first|(apply ab;apply TK)|(apply ae;apply TK;apply TK;apply TK));apply TK;apply TK;apply TK;exact(zp (c.trucks.getD (k:Int).toNat default) true))
  |(apply ft;(first|(apply ab;apply TK)|(apply ae;apply TK;apply TK;apply TK));(first|(refine ur (f' :=fun i=>[HF (c.trucks.getD i default) c.len (eD c),HF (bf (c.trucks.getD i default) true) c.len (eD c)]) rfl rfl rfl rfl rfl rfl rfl rfl rfl rfl rfl rfl rfl rfl rfl (by first|omega|(show(k+1)*48≤_;omega)) (by omega) rfl (fun i hi=>rfl) (fun i hi=>by(obtain rfl:i=0:=by omega);rfl))|(apply cH<;>apply TK)|(apply dV<;>apply TK)|(apply g4<;>apply TK)))
  |(apply cM;apply TK;intro _;rotate_left 1;intro _;rotate_left 1)
  |(apply fq;apply TK;intro _;rotate_left 1;intro _;rotate_left 1)
  |(apply nJ;apply TK;intro _;rotate_left 1;intro _;rotate_left 1)
  |(apply eR;apply TK;intro _;rotate_left 1;intro _;rotate_left 1))
 ·exact⟨k+1,by omega,by omega,(by apply bJ;refine⟨?_, ?_, ?_, ?_, ?_⟩<;>repeat' (first|exact trivial|apply And.intro|apply TK|(apply gz;apply TK;first|omega|assumption)|(apply gL;apply TK;repeat' (first|apply TK|apply cf|(apply cj;first|apply TK|omega|assumption)))))⟩
 obtain rfl:k=c.trucks.length:=by omega
 refine qU (j6 6 (s:=6) rfl rfl rfl) ?_
 clear ht hw1 hw2
 refine dJ [1,2,5,6,9] [1,9] (fun m:Nat=>[(3, .int .i64 0),(10, .int .i64 m)]) (fun m=>[(2,1)]) (fun m=>[(2, .box (cI default))])
  (fun m=>m≤eD c+1∧fu (qd c) (eD c+1-m) m=cg c) (fun m=>eD c+1-m) 0 ⟨Nat.zero_le _,rfl⟩ (by refine⟨?_, ?_, ?_⟩<;>repeat' (first|exact trivial|apply And.intro|apply TK|(apply gz;apply TK;first|omega|assumption)|(apply gL;apply TK;repeat' (first|apply TK|apply cf|(apply cj;first|apply TK|omega|assumption))))) (fun m h1 hm=> ?_)
 obtain⟨hm1,hm2⟩:=hm
 repeat' (first
  |(apply bT;apply TK;apply TK;(first|(apply aB<;>apply TK)|(apply aI<;>apply TK)|(apply aH<;>apply TK)|(apply aE<;>apply TK)|(apply aC<;>apply TK)|(apply aX<;>apply TK)|(apply bm<;>apply TK)|(apply cR<;>apply TK)|(apply di<;>apply TK)|(apply ah<;>(first|apply TK|omega))|(apply bd<;>apply TK)|(apply cv<;>apply TK)|(apply bR<;>apply TK)|(apply bY<;>apply TK)|(apply cq<;>(first|apply TK|omega))|(apply aq<;>apply TK)|(apply aN<;>apply TK)|(apply bK<;>apply TK)|(apply cQ<;>apply TK)|(apply dr<;>apply TK)|(apply dm<;>apply TK)|(apply dt<;>apply TK)|(apply eH<;>apply TK)|(apply cx<;>apply TK)|(apply fT;apply TK;apply TK;apply TK;(first|omega|decide);apply TK;apply TK;(first|omega|decide);apply TK;apply TK)|(apply cU;apply TK;apply TK;apply TK;apply TK;(first|omega|decide);apply TK;apply TK;(first|omega|decide);apply TK;apply TK)))
  |apply ba
  |apply al
  |apply an
  |apply aG
  |apply bp
  |apply ck
  |apply aF
  |apply cP
  |apply aw
  |apply aS
  |apply bk
  |apply aZ
  |apply aQ
  |(apply bu;apply TK)
  |(apply bF;apply TK)
  |(apply bZ;apply TK;(first|(apply aR<;>apply TK)|(apply aP<;>apply TK)|(apply bP<;>apply TK)))
  |(apply dg;apply TK;apply TK;apply TK)
  |(apply eA;apply TK;apply TK;apply TK;apply TK;apply TK)
  |(apply rS;apply TK;apply TK;apply TK;intro _;rotate_left 1;intro _;rotate_left 1)
  |apply ay
  |(apply bw;kernel_rfl)
  |(apply dx;(first|(apply ab;apply TK)|(apply ae;apply TK;apply TK;apply TK));apply TK;first|(apply bB<;>apply TK)|(apply aV<;>apply TK)|(apply b8;apply TK)|(apply b7;apply TK)|(apply aO;intro _;(first|(apply aB<;>apply TK)|(apply aI<;>apply TK)|(apply aH<;>apply TK)|(apply aE<;>apply TK)|(apply aC<;>apply TK)|(apply aX<;>apply TK)|(apply bm<;>apply TK)|(apply cR<;>apply TK)|(apply di<;>apply TK)|(apply ah<;>(first|apply TK|omega))|(apply bd<;>apply TK)|(apply cv<;>apply TK)|(apply bR<;>apply TK)|(apply bY<;>apply TK)|(apply cq<;>(first|apply TK|omega))|(apply aq<;>apply TK)|(apply aN<;>apply TK)|(apply bK<;>apply TK)|(apply cQ<;>apply TK)|(apply dr<;>apply TK)|(apply dm<;>apply TK)|(apply dt<;>apply TK)|(apply eH<;>apply TK)|(apply cx<;>apply TK)|(apply fT;apply TK;apply TK;apply TK;(first|omega|decide);apply TK;apply TK;(first|omega|decide);apply TK;apply TK)|(apply cU;apply TK;apply TK;apply TK;apply TK;(first|omega|decide);apply TK;apply TK;(first|omega|decide);apply TK;apply TK))))
  |(apply ft;(first|(apply ab;apply TK)|(apply ae;apply TK;apply TK;apply TK));(first|(apply cH<;>apply TK)|(apply dV<;>apply TK)|(apply g4<;>apply TK)))
  |(apply cM;apply TK;intro _;rotate_left 1;intro _;rotate_left 1)
  |(apply fq;apply TK;intro _;rotate_left 1;intro _;rotate_left 1)
  |(apply nJ;apply TK;intro _;rotate_left 1;intro _;rotate_left 1)
  |(apply eR;apply TK;intro _;rotate_left 1;intro _;rotate_left 1))
 rotate_left 1
 ·have:=iZ hm2 (by omega)
  rw[this];((try apply aM);first|(focus (apply fv;apply TK;(first|(apply eI;apply TK)|(apply ep<;>apply TK));(first|(apply eI;apply TK)|(apply ep<;>apply TK));all_goals try apply TK)))
 have hmlt:m<eD c+1:=by omega
 refine dJ [1,2,5,6,9,10] [1,9] (fun i:Nat=>[(3, .int .i64 0),(11, .int .i64 i)]) (fun i=>[(2,1)]) (fun i=>[(2, .box (cI default))])
  (fun i=>i≤c.trucks.length∧fu (qo c m) (c.trucks.length-i) i=qd c m) (fun i=>c.trucks.length-i) 0 ⟨Nat.zero_le _,by unfold qd;rfl⟩ (by refine⟨?_, ?_, ?_⟩<;>repeat' (first|exact trivial|apply And.intro|apply TK|(apply gz;apply TK;first|omega|assumption)|(apply gL;apply TK;repeat' (first|apply TK|apply cf|(apply cj;first|apply TK|omega|assumption))))) (fun i h2 hi=> ?_)
 obtain⟨hi1,hi2⟩:=hi
 repeat' (first
  |(apply bT;apply TK;apply TK;(first|(apply aB<;>apply TK)|(apply aI<;>apply TK)|(apply aH<;>apply TK)|(apply aE<;>apply TK)|(apply aC<;>apply TK)|(apply aX<;>apply TK)|(apply bm<;>apply TK)|(apply cR<;>apply TK)|(apply di<;>apply TK)|(apply ah<;>(first|apply TK|omega))|(apply bd<;>apply TK)|(apply cv<;>apply TK)|(apply bR<;>apply TK)|(apply bY<;>apply TK)|(apply cq<;>(first|apply TK|omega))|(apply aq<;>apply TK)|(apply aN<;>apply TK)|(apply bK<;>apply TK)|(apply cQ<;>apply TK)|(apply dr<;>apply TK)|(apply dm<;>apply TK)|(apply dt<;>apply TK)|(apply eH<;>apply TK)|(apply cx<;>apply TK)|(apply fT;apply TK;apply TK;apply TK;(first|omega|decide);apply TK;apply TK;(first|omega|decide);apply TK;apply TK)|(apply cU;apply TK;apply TK;apply TK;apply TK;(first|omega|decide);apply TK;apply TK;(first|omega|decide);apply TK;apply TK)))
  |apply ba
  |apply al
  |apply an
  |apply aG
  |apply bp
  |apply ck
  |apply aF
  |apply cP
  |apply aw
  |apply aS
  |apply bk
  |apply aZ
  |apply aQ
  |(apply bu;apply TK)
  |(apply bF;apply TK)
  |(apply bZ;apply TK;(first|(apply aR<;>apply TK)|(apply aP<;>apply TK)|(apply bP<;>apply TK)))
  |(apply dg;apply TK;apply TK;apply TK)
  |(apply eA;apply TK;apply TK;apply TK;apply TK;apply TK)
  |(apply rS;apply TK;apply TK;apply TK;intro _;rotate_left 1;intro _;rotate_left 1)
  |apply ay
  |(apply bw;kernel_rfl)
  |(apply dx;(first|(apply ab;apply TK)|(apply ae;apply TK;apply TK;apply TK));apply TK;first|(apply bB<;>apply TK)|(apply aV<;>apply TK)|(apply b8;apply TK)|(apply b7;apply TK)|(apply aO;intro _;(first|(apply aB<;>apply TK)|(apply aI<;>apply TK)|(apply aH<;>apply TK)|(apply aE<;>apply TK)|(apply aC<;>apply TK)|(apply aX<;>apply TK)|(apply bm<;>apply TK)|(apply cR<;>apply TK)|(apply di<;>apply TK)|(apply ah<;>(first|apply TK|omega))|(apply bd<;>apply TK)|(apply cv<;>apply TK)|(apply bR<;>apply TK)|(apply bY<;>apply TK)|(apply cq<;>(first|apply TK|omega))|(apply aq<;>apply TK)|(apply aN<;>apply TK)|(apply bK<;>apply TK)|(apply cQ<;>apply TK)|(apply dr<;>apply TK)|(apply dm<;>apply TK)|(apply dt<;>apply TK)|(apply eH<;>apply TK)|(apply cx<;>apply TK)|(apply fT;apply TK;apply TK;apply TK;(first|omega|decide);apply TK;apply TK;(first|omega|decide);apply TK;apply TK)|(apply cU;apply TK;apply TK;apply TK;apply TK;(first|omega|decide);apply TK;apply TK;(first|omega|decide);apply TK;apply TK))))
  |(apply ft;(first|(apply ab;apply TK)|(apply ae;apply TK;apply TK;apply TK));(first|(apply cH<;>apply TK)|(apply dV<;>apply TK)|(apply g4<;>apply TK)))
  |(apply cM;apply TK;intro _;rotate_left 1;intro _;rotate_left 1)
  |(apply fq;apply TK;intro _;rotate_left 1;intro _;rotate_left 1)
  |(apply nJ;apply TK;intro _;rotate_left 1;intro _;rotate_left 1)
  |(apply eR;apply TK;intro _;rotate_left 1;intro _;rotate_left 1))
 rotate_left 1
 ·have:=iZ hi2 (by omega)
  exact⟨m+1,⟨by omega,g9 hm2 hmlt this⟩,by omega,(by apply bJ;refine⟨?_, ?_, ?_, ?_, ?_⟩<;>repeat' (first|exact trivial|apply And.intro|apply TK|(apply gz;apply TK;first|omega|assumption)|(apply gL;apply TK;repeat' (first|apply TK|apply cf|(apply cj;first|apply TK|omega|assumption)))))⟩
 have hilt:i<c.trucks.length:=by omega
 refine dJ [1,2,5,6,9,10,11] [1,9] (fun k:Nat=>[(3, .int .i64 0),(12, .int .i64 k)]) (fun k=>[(2,1)]) (fun k=>[(2, .box (cI default))])
  (fun k=>i+1≤k∧k≤c.trucks.length∧fu (ql c m i) (c.trucks.length-k) k=qo c m i) (fun k=>c.trucks.length-k) (i+1) ⟨Nat.le_refl _,by omega,by unfold qo;rfl⟩ (by refine⟨?_, ?_, ?_⟩<;>repeat' (first|exact trivial|apply And.intro|apply TK|(apply gz;apply TK;first|omega|assumption)|(apply gL;apply TK;repeat' (first|apply TK|apply cf|(apply cj;first|apply TK|omega|assumption))))) (fun k h3 hk=> ?_)
 obtain⟨hk0,hk1,hk2⟩:=hk
 repeat' (first
  |(apply bT;apply TK;apply TK;(first|(apply aB<;>apply TK)|(apply aI<;>apply TK)|(apply aH<;>apply TK)|(apply aE<;>apply TK)|(apply aC<;>apply TK)|(apply aX<;>apply TK)|(apply bm<;>apply TK)|(apply cR<;>apply TK)|(apply di<;>apply TK)|(apply ah<;>(first|apply TK|omega))|(apply bd<;>apply TK)|(apply cv<;>apply TK)|(apply bR<;>apply TK)|(apply bY<;>apply TK)|(apply cq<;>(first|apply TK|omega))|(apply aq<;>apply TK)|(apply aN<;>apply TK)|(apply bK<;>apply TK)|(apply cQ<;>apply TK)|(apply dr<;>apply TK)|(apply dm<;>apply TK)|(apply dt<;>apply TK)|(apply eH<;>apply TK)|(apply cx<;>apply TK)|(apply fT;apply TK;apply TK;apply TK;(first|omega|decide);apply TK;apply TK;(first|omega|decide);apply TK;apply TK)|(apply cU;apply TK;apply TK;apply TK;apply TK;(first|omega|decide);apply TK;apply TK;(first|omega|decide);apply TK;apply TK)))
  |apply ba
  |apply al
  |apply an
  |apply aG
  |apply bp
  |apply ck
  |apply aF
  |apply cP
  |apply aw
  |apply aS
  |apply bk
  |apply aZ
  |apply aQ
  |(apply bu;apply TK)
  |(apply bF;apply TK)
  |(apply bZ;apply TK;(first|(apply aR<;>apply TK)|(apply aP<;>apply TK)|(apply bP<;>apply TK)))
  |(apply dg;apply TK;apply TK;apply TK)
  |(apply eA;apply TK;apply TK;apply TK;apply TK;apply TK)
  |(apply rS;apply TK;apply TK;apply TK;intro _;rotate_left 1;intro _;rotate_left 1)
  |apply ay
  |(apply bw;kernel_rfl)
  |(apply dx;(first|(apply ab;apply TK)|(apply ae;apply TK;apply TK;apply TK));apply TK;first|(apply bB<;>apply TK)|(apply aV<;>apply TK)|(apply b8;apply TK)|(apply b7;apply TK)|(apply aO;intro _;(first|(apply aB<;>apply TK)|(apply aI<;>apply TK)|(apply aH<;>apply TK)|(apply aE<;>apply TK)|(apply aC<;>apply TK)|(apply aX<;>apply TK)|(apply bm<;>apply TK)|(apply cR<;>apply TK)|(apply di<;>apply TK)|(apply ah<;>(first|apply TK|omega))|(apply bd<;>apply TK)|(apply cv<;>apply TK)|(apply bR<;>apply TK)|(apply bY<;>apply TK)|(apply cq<;>(first|apply TK|omega))|(apply aq<;>apply TK)|(apply aN<;>apply TK)|(apply bK<;>apply TK)|(apply cQ<;>apply TK)|(apply dr<;>apply TK)|(apply dm<;>apply TK)|(apply dt<;>apply TK)|(apply eH<;>apply TK)|(apply cx<;>apply TK)|(apply fT;apply TK;apply TK;apply TK;(first|omega|decide);apply TK;apply TK;(first|omega|decide);apply TK;apply TK)|(apply cU;apply TK;apply TK;apply TK;apply TK;(first|omega|decide);apply TK;apply TK;(first|omega|decide);apply TK;apply TK))))
  |(apply ft;(first|(apply ab;apply TK)|(apply ae;apply TK;apply TK;apply TK));(first|(apply cH<;>apply TK)|(apply dV<;>apply TK)|(apply g4<;>apply TK)))
  |(apply cM;apply TK;intro _;rotate_left 1;intro _;rotate_left 1)
  |(apply fq;apply TK;intro _;rotate_left 1;intro _;rotate_left 1)
  |(apply nJ;apply TK;intro _;rotate_left 1;intro _;rotate_left 1)
  |(apply eR;apply TK;intro _;rotate_left 1;intro _;rotate_left 1))
 rotate_left 1
 ·have:=iZ hk2 (by omega)
  exact⟨i+1,⟨by omega,g9 hi2 hilt this⟩,by omega,(by apply bJ;refine⟨?_, ?_, ?_, ?_, ?_⟩<;>repeat' (first|exact trivial|apply And.intro|apply TK|(apply gz;apply TK;first|omega|assumption)|(apply gL;apply TK;repeat' (first|apply TK|apply cf|(apply cj;first|apply TK|omega|assumption)))))⟩
 have hklt:k<c.trucks.length:=by omega
 have hp:ql c m i k=(gG c.gap c.fails (c.trucks.getD i default) (c.trucks.getD k default) c.len m sB).map fun x=>{x with i:=i,k:=k}:=by unfold ql;rfl
 have hT:=hc.r i hilt
 have hU:=hc.r k hklt
 have hg:1≤c.gap:=hc.ok.g1
 have hg2:c.gap≤100000:=hc.ok.g2
 refine jV (α:=Nat) (fun n=>[(1, .bx 1 1 0),(2, .bx 2 1 0),(3, .int .i64 0),(5, .int .i64 (eD c:Nat)),(6, .sl 2 c.trucks.length (fun i=>[HF (c.trucks.getD i default) c.len (eD c),HF (bf (c.trucks.getD i default) true) c.len (eD c)])),(9, .bx 9 (h 9+1) 0),(10, .int .i64 m),(11, .int .i64 i),(12, .int .i64 k),(13, .int .i64 n)]) (fun _=>[(1,1),(2,1),(9,h 9+1)])
  (fun _=>[(1, .box (aL c)),(2, .box (cI default)),(9, .box [.int .i64 0, .int .i64 0, .int .i64 1, .int .i64 0, .int .i64 0, .int .i64 1, .int .i64 1, .int .i64 1])])
  (fun n=>n≤4∧gG c.gap c.fails (c.trucks.getD i default) (c.trucks.getD k default) c.len m (sB.drop n)=gG c.gap c.fails (c.trucks.getD i default) (c.trucks.getD k default) c.len m sB) (fun n=>4-n) 0 ⟨Nat.zero_le _,rfl⟩ (by refine⟨?_, ?_, ?_⟩<;>repeat' (first|exact trivial|apply And.intro|apply TK)) (fun n h4 hn' => ?_)
 obtain⟨hn4,hi⟩:=hn'
 have cA:∀b:Bool,au cJ 74 [.agg (aL c), .agg (bA (bf (c.trucks.getD i default) b)), .agg (bC (de (bf (c.trucks.getD i default) b) c.len m)), .int .i64 m]
  (.tup [.agg (bC (bL (bf (c.trucks.getD i default) b) c.len (de (bf (c.trucks.getD i default) b) c.len m) m).1), .bool (bL (bf (c.trucks.getD i default) b) c.len (de (bf (c.trucks.getD i default) b) c.len m) m).2]):=fun b=>by
  have h:=hT.free b
  obtain⟨b1,b2,b3,_⟩:=jI h (m:=m)
  have:=h.l2
  exact Se c _ _ m h.l1 h.l2 h.ho (by omega) (by omega)
 have cB:∀b:Bool,au cJ 74 [.agg (aL c), .agg (bA (bf (c.trucks.getD k default) b)), .agg (bC (de (bf (c.trucks.getD k default) b) c.len m)), .int .i64 m]
  (.tup [.agg (bC (bL (bf (c.trucks.getD k default) b) c.len (de (bf (c.trucks.getD k default) b) c.len m) m).1), .bool (bL (bf (c.trucks.getD k default) b) c.len (de (bf (c.trucks.getD k default) b) c.len m) m).2]):=fun b=>by
  have h:=hU.free b
  obtain⟨b1,b2,b3,_⟩:=jI h (m:=m)
  have:=h.l2
  exact Se c _ _ m h.l1 h.l2 h.ho (by omega) (by omega)
 have cC:∀b:Bool,au cJ 76 [.agg (aL c), .agg (bA (bf (c.trucks.getD i default) b)), .agg (bC (bL (bf (c.trucks.getD i default) b) c.len (de (bf (c.trucks.getD i default) b) c.len m) m).1)]
  (.agg (bC (eX (bf (c.trucks.getD i default) b).way c.len (bL (bf (c.trucks.getD i default) b) c.len (de (bf (c.trucks.getD i default) b) c.len m) m).1))):=fun b=>by
  obtain⟨⟨b1,b2⟩,b3,b4⟩:=mY (hT.free b) (m:=m)
  exact Sb c _ _ (by omega) (by omega) (by omega) (by omega) hT.l1 hT.l2
 have cD:∀b:Bool,au cJ 76 [.agg (aL c), .agg (bA (bf (c.trucks.getD k default) b)), .agg (bC (bL (bf (c.trucks.getD k default) b) c.len (de (bf (c.trucks.getD k default) b) c.len m) m).1)]
  (.agg (bC (eX (bf (c.trucks.getD k default) b).way c.len (bL (bf (c.trucks.getD k default) b) c.len (de (bf (c.trucks.getD k default) b) c.len m) m).1))):=fun b=>by
  obtain⟨⟨b1,b2⟩,b3,b4⟩:=mY (hU.free b) (m:=m)
  exact Sb c _ _ (by omega) (by omega) (by omega) (by omega) hT.l1 hT.l2
 have cE:∀b b' :Bool,au cJ 75 [.agg (bC (eX (bf (c.trucks.getD i default) b).way c.len (bL (bf (c.trucks.getD i default) b) c.len (de (bf (c.trucks.getD i default) b) c.len m) m).1)), .agg (bC (eX (bf (c.trucks.getD k default) b').way c.len (bL (bf (c.trucks.getD k default) b') c.len (de (bf (c.trucks.getD k default) b') c.len m) m).1)), .int .i64 c.gap] _:=fun b b' =>by
  obtain⟨x1,x2⟩:=mY (hT.free b) (m:=m)
  obtain⟨y1,y2⟩:=mY (hU.free b') (m:=m)
  have r1:=Br (way:=(bf (c.trucks.getD i default) b).way) x1 x2 hT.l1 hT.l2
  have r2:=Br (way:=(bf (c.trucks.getD k default) b').way) y1 y2 hT.l1 hT.l2
  exact Tk _ _ c.gap r1.1 r1.2 r2.1 r2.2 (by omega) hg2
 obtain rfl|rfl|rfl|rfl|rfl:n=0∨n=1∨n=2∨n=3∨n=4:=by omega
 ·repeat' (first
  |(apply bT;apply TK;apply TK;(first|(apply aB<;>apply TK)|(apply aI<;>apply TK)|(apply aH<;>apply TK)|(apply aE<;>apply TK)|(apply aC<;>apply TK)|(apply aX<;>apply TK)|(apply bm<;>apply TK)|(apply cR<;>apply TK)|(apply di<;>apply TK)|(apply ah<;>(first|apply TK|omega))|(apply bd<;>apply TK)|(apply cv<;>apply TK)|(apply bR<;>apply TK)|(apply bY<;>apply TK)|(apply cq<;>(first|apply TK|omega))|(apply aq<;>apply TK)|(apply aN<;>apply TK)|(apply bK<;>apply TK)|(apply cQ<;>apply TK)|(apply dr<;>apply TK)|(apply dm<;>apply TK)|(apply dt<;>apply TK)|(apply eH<;>apply TK)|(apply cx<;>apply TK)|(apply fT;apply TK;apply TK;apply TK;(first|omega|decide);apply TK;apply TK;(first|omega|decide);apply TK;apply TK)|(apply cU;apply TK;apply TK;apply TK;apply TK;(first|omega|decide);apply TK;apply TK;(first|omega|decide);apply TK;apply TK)))
  |apply ba
  |apply al
  |apply an
  |apply aG
  |apply bp
  |apply ck
  |apply aF
  |apply cP
  |apply aw
  |apply aS
  |apply bk
  |apply aZ
  |apply aQ
  |(apply bu;apply TK)
  |(apply bF;apply TK)
  |(apply aA;apply TK;apply TK;rotate_left 1;apply TK;rotate_right 1;exact(zp (c.trucks.getD i default) false);apply TK)
  |(apply aA;apply TK;apply TK;rotate_left 1;apply TK;rotate_right 1;exact(zp (c.trucks.getD k default) false);apply TK)
  |(apply aA;apply TK;apply TK;rotate_left 1;apply TK;rotate_right 1;exact(cA false);apply TK)
  |(apply aA;apply TK;apply TK;rotate_left 1;apply TK;rotate_right 1;exact(cB false);apply TK)
  |(apply aA;apply TK;apply TK;rotate_left 1;apply TK;rotate_right 1;exact(cC false);apply TK)
  |(apply aA;apply TK;apply TK;rotate_left 1;apply TK;rotate_right 1;exact(cD false);apply TK)
  |(apply aA;apply TK;apply TK;rotate_left 1;apply TK;rotate_right 1;exact(cE false false);apply TK)
  |(apply bZ;apply TK;(first|(apply aR<;>apply TK)|(apply aP<;>apply TK)|(apply bP<;>apply TK)))
  |(apply dg;apply TK;apply TK;apply TK)
  |(apply eA;apply TK;apply TK;apply TK;apply TK;apply TK)
  |(apply rS;apply TK;apply TK;apply TK;intro _;rotate_left 1;intro _;rotate_left 1)
  |apply ay
  |(apply bw;kernel_rfl)
  |(apply dx;(first|(apply ab;apply TK)|(apply ae;apply TK;apply TK;apply TK));apply TK;first|(apply bB<;>apply TK)|(apply aV<;>apply TK)|(apply b8;apply TK)|(apply b7;apply TK)|(apply aO;intro _;(first|(apply aB<;>apply TK)|(apply aI<;>apply TK)|(apply aH<;>apply TK)|(apply aE<;>apply TK)|(apply aC<;>apply TK)|(apply aX<;>apply TK)|(apply bm<;>apply TK)|(apply cR<;>apply TK)|(apply di<;>apply TK)|(apply ah<;>(first|apply TK|omega))|(apply bd<;>apply TK)|(apply cv<;>apply TK)|(apply bR<;>apply TK)|(apply bY<;>apply TK)|(apply cq<;>(first|apply TK|omega))|(apply aq<;>apply TK)|(apply aN<;>apply TK)|(apply bK<;>apply TK)|(apply cQ<;>apply TK)|(apply dr<;>apply TK)|(apply dm<;>apply TK)|(apply dt<;>apply TK)|(apply eH<;>apply TK)|(apply cx<;>apply TK)|(apply fT;apply TK;apply TK;apply TK;(first|omega|decide);apply TK;apply TK;(first|omega|decide);apply TK;apply TK)|(apply cU;apply TK;apply TK;apply TK;apply TK;(first|omega|decide);apply TK;apply TK;(first|omega|decide);apply TK;apply TK))))
  |(apply az;(first|(apply ab;apply TK)|(apply ae;apply TK;apply TK;apply TK));apply TK;apply TK;apply TK;exact(zp (c.trucks.getD i default) false))
  |(apply az;(first|(apply ab;apply TK)|(apply ae;apply TK;apply TK;apply TK));apply TK;apply TK;apply TK;exact(zp (c.trucks.getD k default) false))
  |(apply az;(first|(apply ab;apply TK)|(apply ae;apply TK;apply TK;apply TK));apply TK;apply TK;apply TK;exact(cA false))
  |(apply az;(first|(apply ab;apply TK)|(apply ae;apply TK;apply TK;apply TK));apply TK;apply TK;apply TK;exact(cB false))
  |(apply az;(first|(apply ab;apply TK)|(apply ae;apply TK;apply TK;apply TK));apply TK;apply TK;apply TK;exact(cC false))
  |(apply az;(first|(apply ab;apply TK)|(apply ae;apply TK;apply TK;apply TK));apply TK;apply TK;apply TK;exact(cD false))
  |(apply az;(first|(apply ab;apply TK)|(apply ae;apply TK;apply TK;apply TK));apply TK;apply TK;apply TK;exact(cE false false))
  |(apply ft;(first|(apply ab;apply TK)|(apply ae;apply TK;apply TK;apply TK));(first|(apply cH<;>apply TK)|(apply dV<;>apply TK)|(apply g4<;>apply TK)))
  |(apply cM;apply TK;intro _;rotate_left 1;intro _;rotate_left 1)
  |(apply fq;apply TK;intro _;rotate_left 1;intro _;rotate_left 1)
  |(apply nJ;apply TK;intro _;rotate_left 1;intro _;rotate_left 1)
  |(apply eR;apply TK;intro _;rotate_left 1;intro _;rotate_left 1))
  ·rename_i a1
   exact⟨1,⟨by omega,hH hi a1⟩,by omega,(by refine⟨?_, ?_, ?_⟩<;>repeat' (first|exact trivial|apply And.intro|apply TK))⟩
  ·rename_i a1 a2
   exact⟨1,⟨by omega,dU hi a1 (by rw[←eG hT hU hg m (false,false),pJ a2])⟩,by omega,(by refine⟨?_, ?_, ?_⟩<;>repeat' (first|exact trivial|apply And.intro|apply TK))⟩
  ·rename_i a1 a2 a3
   exact⟨1,⟨by omega,dU hi a1 (by rw[←eG hT hU hg m (false,false)];exact pq a3)⟩,by omega,(by refine⟨?_, ?_, ?_⟩<;>repeat' (first|exact trivial|apply And.intro|apply TK))⟩
  ·rename_i a1 a2 a3 a4
   have e:=eG hT hU hg m (false,false)
   rw[g8 a2 a3]at e
   have hM:=jG hi a1 (by rw[←e];exact a4)
   rw[←e]at hM
   rw[hM]at hp
   rw[dF hm2 hmlt (dF hi2 hilt (dF hk2 hklt hp))]
   ((try apply aM);first|(focus (apply fv;apply TK;(first|(apply eI;apply TK)|(apply ep<;>apply TK));(first|(apply eI;apply TK)|(apply ep<;>apply TK));all_goals try apply TK)))
  ·rename_i a1 a2 a3 a4
   have e:=eG hT hU hg m (false,false)
   rw[g8 a2 a3]at e
   exact⟨1,⟨by omega,dU hi a1 (by rw[←e];exact a4)⟩,by omega,(by refine⟨?_, ?_, ?_⟩<;>repeat' (first|exact trivial|apply And.intro|apply TK))⟩
 ·repeat' (first
  |(apply bT;apply TK;apply TK;(first|(apply aB<;>apply TK)|(apply aI<;>apply TK)|(apply aH<;>apply TK)|(apply aE<;>apply TK)|(apply aC<;>apply TK)|(apply aX<;>apply TK)|(apply bm<;>apply TK)|(apply cR<;>apply TK)|(apply di<;>apply TK)|(apply ah<;>(first|apply TK|omega))|(apply bd<;>apply TK)|(apply cv<;>apply TK)|(apply bR<;>apply TK)|(apply bY<;>apply TK)|(apply cq<;>(first|apply TK|omega))|(apply aq<;>apply TK)|(apply aN<;>apply TK)|(apply bK<;>apply TK)|(apply cQ<;>apply TK)|(apply dr<;>apply TK)|(apply dm<;>apply TK)|(apply dt<;>apply TK)|(apply eH<;>apply TK)|(apply cx<;>apply TK)|(apply fT;apply TK;apply TK;apply TK;(first|omega|decide);apply TK;apply TK;(first|omega|decide);apply TK;apply TK)|(apply cU;apply TK;apply TK;apply TK;apply TK;(first|omega|decide);apply TK;apply TK;(first|omega|decide);apply TK;apply TK)))
  |apply ba
  |apply al
  |apply an
  |apply aG
  |apply bp
  |apply ck
  |apply aF
  |apply cP
  |apply aw
  |apply aS
  |apply bk
  |apply aZ
  |apply aQ
  |(apply bu;apply TK)
  |(apply bF;apply TK)
  |(apply aA;apply TK;apply TK;rotate_left 1;apply TK;rotate_right 1;exact(zp (c.trucks.getD i default) true);apply TK)
  |(apply aA;apply TK;apply TK;rotate_left 1;apply TK;rotate_right 1;exact(zp (c.trucks.getD k default) false);apply TK)
  |(apply aA;apply TK;apply TK;rotate_left 1;apply TK;rotate_right 1;exact(cA true);apply TK)
  |(apply aA;apply TK;apply TK;rotate_left 1;apply TK;rotate_right 1;exact(cB false);apply TK)
  |(apply aA;apply TK;apply TK;rotate_left 1;apply TK;rotate_right 1;exact(cC true);apply TK)
  |(apply aA;apply TK;apply TK;rotate_left 1;apply TK;rotate_right 1;exact(cD false);apply TK)
  |(apply aA;apply TK;apply TK;rotate_left 1;apply TK;rotate_right 1;exact(cE true false);apply TK)
  |(apply bZ;apply TK;(first|(apply aR<;>apply TK)|(apply aP<;>apply TK)|(apply bP<;>apply TK)))
  |(apply dg;apply TK;apply TK;apply TK)
  |(apply eA;apply TK;apply TK;apply TK;apply TK;apply TK)
  |(apply rS;apply TK;apply TK;apply TK;intro _;rotate_left 1;intro _;rotate_left 1)
  |apply ay
  |(apply bw;kernel_rfl)
  |(apply dx;(first|(apply ab;apply TK)|(apply ae;apply TK;apply TK;apply TK));apply TK;first|(apply bB<;>apply TK)|(apply aV<;>apply TK)|(apply b8;apply TK)|(apply b7;apply TK)|(apply aO;intro _;(first|(apply aB<;>apply TK)|(apply aI<;>apply TK)|(apply aH<;>apply TK)|(apply aE<;>apply TK)|(apply aC<;>apply TK)|(apply aX<;>apply TK)|(apply bm<;>apply TK)|(apply cR<;>apply TK)|(apply di<;>apply TK)|(apply ah<;>(first|apply TK|omega))|(apply bd<;>apply TK)|(apply cv<;>apply TK)|(apply bR<;>apply TK)|(apply bY<;>apply TK)|(apply cq<;>(first|apply TK|omega))|(apply aq<;>apply TK)|(apply aN<;>apply TK)|(apply bK<;>apply TK)|(apply cQ<;>apply TK)|(apply dr<;>apply TK)|(apply dm<;>apply TK)|(apply dt<;>apply TK)|(apply eH<;>apply TK)|(apply cx<;>apply TK)|(apply fT;apply TK;apply TK;apply TK;(first|omega|decide);apply TK;apply TK;(first|omega|decide);apply TK;apply TK)|(apply cU;apply TK;apply TK;apply TK;apply TK;(first|omega|decide);apply TK;apply TK;(first|omega|decide);apply TK;apply TK))))
  |(apply az;(first|(apply ab;apply TK)|(apply ae;apply TK;apply TK;apply TK));apply TK;apply TK;apply TK;exact(zp (c.trucks.getD i default) true))
  |(apply az;(first|(apply ab;apply TK)|(apply ae;apply TK;apply TK;apply TK));apply TK;apply TK;apply TK;exact(zp (c.trucks.getD k default) false))
  |(apply az;(first|(apply ab;apply TK)|(apply ae;apply TK;apply TK;apply TK));apply TK;apply TK;apply TK;exact(cA true))
  |(apply az;(first|(apply ab;apply TK)|(apply ae;apply TK;apply TK;apply TK));apply TK;apply TK;apply TK;exact(cB false))
  |(apply az;(first|(apply ab;apply TK)|(apply ae;apply TK;apply TK;apply TK));apply TK;apply TK;apply TK;exact(cC true))
  |(apply az;(first|(apply ab;apply TK)|(apply ae;apply TK;apply TK;apply TK));apply TK;apply TK;apply TK;exact(cD false))
  |(apply az;(first|(apply ab;apply TK)|(apply ae;apply TK;apply TK;apply TK));apply TK;apply TK;apply TK;exact(cE true false))
  |(apply ft;(first|(apply ab;apply TK)|(apply ae;apply TK;apply TK;apply TK));(first|(apply cH<;>apply TK)|(apply dV<;>apply TK)|(apply g4<;>apply TK)))
  |(apply cM;apply TK;intro _;rotate_left 1;intro _;rotate_left 1)
  |(apply fq;apply TK;intro _;rotate_left 1;intro _;rotate_left 1)
  |(apply nJ;apply TK;intro _;rotate_left 1;intro _;rotate_left 1)
  |(apply eR;apply TK;intro _;rotate_left 1;intro _;rotate_left 1))
  ·rename_i a1
   exact⟨2,⟨by omega,hH hi a1⟩,by omega,(by refine⟨?_, ?_, ?_⟩<;>repeat' (first|exact trivial|apply And.intro|apply TK))⟩
  ·rename_i a1 a2
   exact⟨2,⟨by omega,dU hi a1 (by rw[←eG hT hU hg m (true,false),pJ a2])⟩,by omega,(by refine⟨?_, ?_, ?_⟩<;>repeat' (first|exact trivial|apply And.intro|apply TK))⟩
  ·rename_i a1 a2 a3
   exact⟨2,⟨by omega,dU hi a1 (by rw[←eG hT hU hg m (true,false)];exact pq a3)⟩,by omega,(by refine⟨?_, ?_, ?_⟩<;>repeat' (first|exact trivial|apply And.intro|apply TK))⟩
  ·rename_i a1 a2 a3 a4
   have e:=eG hT hU hg m (true,false)
   rw[g8 a2 a3]at e
   have hM:=jG hi a1 (by rw[←e];exact a4)
   rw[←e]at hM
   rw[hM]at hp
   rw[dF hm2 hmlt (dF hi2 hilt (dF hk2 hklt hp))]
   ((try apply aM);first|(focus (apply fv;apply TK;(first|(apply eI;apply TK)|(apply ep<;>apply TK));(first|(apply eI;apply TK)|(apply ep<;>apply TK));all_goals try apply TK)))
  ·rename_i a1 a2 a3 a4
   have e:=eG hT hU hg m (true,false)
   rw[g8 a2 a3]at e
   exact⟨2,⟨by omega,dU hi a1 (by rw[←e];exact a4)⟩,by omega,(by refine⟨?_, ?_, ?_⟩<;>repeat' (first|exact trivial|apply And.intro|apply TK))⟩
 ·repeat' (first
  |(apply bT;apply TK;apply TK;(first|(apply aB<;>apply TK)|(apply aI<;>apply TK)|(apply aH<;>apply TK)|(apply aE<;>apply TK)|(apply aC<;>apply TK)|(apply aX<;>apply TK)|(apply bm<;>apply TK)|(apply cR<;>apply TK)|(apply di<;>apply TK)|(apply ah<;>(first|apply TK|omega))|(apply bd<;>apply TK)|(apply cv<;>apply TK)|(apply bR<;>apply TK)|(apply bY<;>apply TK)|(apply cq<;>(first|apply TK|omega))|(apply aq<;>apply TK)|(apply aN<;>apply TK)|(apply bK<;>apply TK)|(apply cQ<;>apply TK)|(apply dr<;>apply TK)|(apply dm<;>apply TK)|(apply dt<;>apply TK)|(apply eH<;>apply TK)|(apply cx<;>apply TK)|(apply fT;apply TK;apply TK;apply TK;(first|omega|decide);apply TK;apply TK;(first|omega|decide);apply TK;apply TK)|(apply cU;apply TK;apply TK;apply TK;apply TK;(first|omega|decide);apply TK;apply TK;(first|omega|decide);apply TK;apply TK)))
  |apply ba
  |apply al
  |apply an
  |apply aG
  |apply bp
  |apply ck
  |apply aF
  |apply cP
  |apply aw
  |apply aS
  |apply bk
  |apply aZ
  |apply aQ
  |(apply bu;apply TK)
  |(apply bF;apply TK)
  |(apply aA;apply TK;apply TK;rotate_left 1;apply TK;rotate_right 1;exact(zp (c.trucks.getD i default) false);apply TK)
  |(apply aA;apply TK;apply TK;rotate_left 1;apply TK;rotate_right 1;exact(zp (c.trucks.getD k default) true);apply TK)
  |(apply aA;apply TK;apply TK;rotate_left 1;apply TK;rotate_right 1;exact(cA false);apply TK)
  |(apply aA;apply TK;apply TK;rotate_left 1;apply TK;rotate_right 1;exact(cB true);apply TK)
  |(apply aA;apply TK;apply TK;rotate_left 1;apply TK;rotate_right 1;exact(cC false);apply TK)
  |(apply aA;apply TK;apply TK;rotate_left 1;apply TK;rotate_right 1;exact(cD true);apply TK)
  |(apply aA;apply TK;apply TK;rotate_left 1;apply TK;rotate_right 1;exact(cE false true);apply TK)
  |(apply bZ;apply TK;(first|(apply aR<;>apply TK)|(apply aP<;>apply TK)|(apply bP<;>apply TK)))
  |(apply dg;apply TK;apply TK;apply TK)
  |(apply eA;apply TK;apply TK;apply TK;apply TK;apply TK)
  |(apply rS;apply TK;apply TK;apply TK;intro _;rotate_left 1;intro _;rotate_left 1)
  |apply ay
  |(apply bw;kernel_rfl)
  |(apply dx;(first|(apply ab;apply TK)|(apply ae;apply TK;apply TK;apply TK));apply TK;first|(apply bB<;>apply TK)|(apply aV<;>apply TK)|(apply b8;apply TK)|(apply b7;apply TK)|(apply aO;intro _;(first|(apply aB<;>apply TK)|(apply aI<;>apply TK)|(apply aH<;>apply TK)|(apply aE<;>apply TK)|(apply aC<;>apply TK)|(apply aX<;>apply TK)|(apply bm<;>apply TK)|(apply cR<;>apply TK)|(apply di<;>apply TK)|(apply ah<;>(first|apply TK|omega))|(apply bd<;>apply TK)|(apply cv<;>apply TK)|(apply bR<;>apply TK)|(apply bY<;>apply TK)|(apply cq<;>(first|apply TK|omega))|(apply aq<;>apply TK)|(apply aN<;>apply TK)|(apply bK<;>apply TK)|(apply cQ<;>apply TK)|(apply dr<;>apply TK)|(apply dm<;>apply TK)|(apply dt<;>apply TK)|(apply eH<;>apply TK)|(apply cx<;>apply TK)|(apply fT;apply TK;apply TK;apply TK;(first|omega|decide);apply TK;apply TK;(first|omega|decide);apply TK;apply TK)|(apply cU;apply TK;apply TK;apply TK;apply TK;(first|omega|decide);apply TK;apply TK;(first|omega|decide);apply TK;apply TK))))
  |(apply az;(first|(apply ab;apply TK)|(apply ae;apply TK;apply TK;apply TK));apply TK;apply TK;apply TK;exact(zp (c.trucks.getD i default) false))
  |(apply az;(first|(apply ab;apply TK)|(apply ae;apply TK;apply TK;apply TK));apply TK;apply TK;apply TK;exact(zp (c.trucks.getD k default) true))
  |(apply az;(first|(apply ab;apply TK)|(apply ae;apply TK;apply TK;apply TK));apply TK;apply TK;apply TK;exact(cA false))
  |(apply az;(first|(apply ab;apply TK)|(apply ae;apply TK;apply TK;apply TK));apply TK;apply TK;apply TK;exact(cB true))
  |(apply az;(first|(apply ab;apply TK)|(apply ae;apply TK;apply TK;apply TK));apply TK;apply TK;apply TK;exact(cC false))
  |(apply az;(first|(apply ab;apply TK)|(apply ae;apply TK;apply TK;apply TK));apply TK;apply TK;apply TK;exact(cD true))
  |(apply az;(first|(apply ab;apply TK)|(apply ae;apply TK;apply TK;apply TK));apply TK;apply TK;apply TK;exact(cE false true))
  |(apply ft;(first|(apply ab;apply TK)|(apply ae;apply TK;apply TK;apply TK));(first|(apply cH<;>apply TK)|(apply dV<;>apply TK)|(apply g4<;>apply TK)))
  |(apply cM;apply TK;intro _;rotate_left 1;intro _;rotate_left 1)
  |(apply fq;apply TK;intro _;rotate_left 1;intro _;rotate_left 1)
  |(apply nJ;apply TK;intro _;rotate_left 1;intro _;rotate_left 1)
  |(apply eR;apply TK;intro _;rotate_left 1;intro _;rotate_left 1))
  ·rename_i a1
   exact⟨3,⟨by omega,hH hi a1⟩,by omega,(by refine⟨?_, ?_, ?_⟩<;>repeat' (first|exact trivial|apply And.intro|apply TK))⟩
  ·rename_i a1 a2
   exact⟨3,⟨by omega,dU hi a1 (by rw[←eG hT hU hg m (false,true),pJ a2])⟩,by omega,(by refine⟨?_, ?_, ?_⟩<;>repeat' (first|exact trivial|apply And.intro|apply TK))⟩
  ·rename_i a1 a2 a3
   exact⟨3,⟨by omega,dU hi a1 (by rw[←eG hT hU hg m (false,true)];exact pq a3)⟩,by omega,(by refine⟨?_, ?_, ?_⟩<;>repeat' (first|exact trivial|apply And.intro|apply TK))⟩
  ·rename_i a1 a2 a3 a4
   have e:=eG hT hU hg m (false,true)
   rw[g8 a2 a3]at e
   have hM:=jG hi a1 (by rw[←e];exact a4)
   rw[←e]at hM
   rw[hM]at hp
   rw[dF hm2 hmlt (dF hi2 hilt (dF hk2 hklt hp))]
   ((try apply aM);first|(focus (apply fv;apply TK;(first|(apply eI;apply TK)|(apply ep<;>apply TK));(first|(apply eI;apply TK)|(apply ep<;>apply TK));all_goals try apply TK)))
  ·rename_i a1 a2 a3 a4
   have e:=eG hT hU hg m (false,true)
   rw[g8 a2 a3]at e
   exact⟨3,⟨by omega,dU hi a1 (by rw[←e];exact a4)⟩,by omega,(by refine⟨?_, ?_, ?_⟩<;>repeat' (first|exact trivial|apply And.intro|apply TK))⟩
 ·repeat' (first
  |(apply bT;apply TK;apply TK;(first|(apply aB<;>apply TK)|(apply aI<;>apply TK)|(apply aH<;>apply TK)|(apply aE<;>apply TK)|(apply aC<;>apply TK)|(apply aX<;>apply TK)|(apply bm<;>apply TK)|(apply cR<;>apply TK)|(apply di<;>apply TK)|(apply ah<;>(first|apply TK|omega))|(apply bd<;>apply TK)|(apply cv<;>apply TK)|(apply bR<;>apply TK)|(apply bY<;>apply TK)|(apply cq<;>(first|apply TK|omega))|(apply aq<;>apply TK)|(apply aN<;>apply TK)|(apply bK<;>apply TK)|(apply cQ<;>apply TK)|(apply dr<;>apply TK)|(apply dm<;>apply TK)|(apply dt<;>apply TK)|(apply eH<;>apply TK)|(apply cx<;>apply TK)|(apply fT;apply TK;apply TK;apply TK;(first|omega|decide);apply TK;apply TK;(first|omega|decide);apply TK;apply TK)|(apply cU;apply TK;apply TK;apply TK;apply TK;(first|omega|decide);apply TK;apply TK;(first|omega|decide);apply TK;apply TK)))
  |apply ba
  |apply al
  |apply an
  |apply aG
  |apply bp
  |apply ck
  |apply aF
  |apply cP
  |apply aw
  |apply aS
  |apply bk
  |apply aZ
  |apply aQ
  |(apply bu;apply TK)
  |(apply bF;apply TK)
  |(apply aA;apply TK;apply TK;rotate_left 1;apply TK;rotate_right 1;exact(zp (c.trucks.getD i default) true);apply TK)
  |(apply aA;apply TK;apply TK;rotate_left 1;apply TK;rotate_right 1;exact(zp (c.trucks.getD k default) true);apply TK)
  |(apply aA;apply TK;apply TK;rotate_left 1;apply TK;rotate_right 1;exact(cA true);apply TK)
  |(apply aA;apply TK;apply TK;rotate_left 1;apply TK;rotate_right 1;exact(cB true);apply TK)
  |(apply aA;apply TK;apply TK;rotate_left 1;apply TK;rotate_right 1;exact(cC true);apply TK)
  |(apply aA;apply TK;apply TK;rotate_left 1;apply TK;rotate_right 1;exact(cD true);apply TK)
  |(apply aA;apply TK;apply TK;rotate_left 1;apply TK;rotate_right 1;exact(cE true true);apply TK)
  |(apply bZ;apply TK;(first|(apply aR<;>apply TK)|(apply aP<;>apply TK)|(apply bP<;>apply TK)))
  |(apply dg;apply TK;apply TK;apply TK)
  |(apply eA;apply TK;apply TK;apply TK;apply TK;apply TK)
  |(apply rS;apply TK;apply TK;apply TK;intro _;rotate_left 1;intro _;rotate_left 1)
  |apply ay
  |(apply bw;kernel_rfl)
  |(apply dx;(first|(apply ab;apply TK)|(apply ae;apply TK;apply TK;apply TK));apply TK;first|(apply bB<;>apply TK)|(apply aV<;>apply TK)|(apply b8;apply TK)|(apply b7;apply TK)|(apply aO;intro _;(first|(apply aB<;>apply TK)|(apply aI<;>apply TK)|(apply aH<;>apply TK)|(apply aE<;>apply TK)|(apply aC<;>apply TK)|(apply aX<;>apply TK)|(apply bm<;>apply TK)|(apply cR<;>apply TK)|(apply di<;>apply TK)|(apply ah<;>(first|apply TK|omega))|(apply bd<;>apply TK)|(apply cv<;>apply TK)|(apply bR<;>apply TK)|(apply bY<;>apply TK)|(apply cq<;>(first|apply TK|omega))|(apply aq<;>apply TK)|(apply aN<;>apply TK)|(apply bK<;>apply TK)|(apply cQ<;>apply TK)|(apply dr<;>apply TK)|(apply dm<;>apply TK)|(apply dt<;>apply TK)|(apply eH<;>apply TK)|(apply cx<;>apply TK)|(apply fT;apply TK;apply TK;apply TK;(first|omega|decide);apply TK;apply TK;(first|omega|decide);apply TK;apply TK)|(apply cU;apply TK;apply TK;apply TK;apply TK;(first|omega|decide);apply TK;apply TK;(first|omega|decide);apply TK;apply TK))))
  |(apply az;(first|(apply ab;apply TK)|(apply ae;apply TK;apply TK;apply TK));apply TK;apply TK;apply TK;exact(zp (c.trucks.getD i default) true))
  |(apply az;(first|(apply ab;apply TK)|(apply ae;apply TK;apply TK;apply TK));apply TK;apply TK;apply TK;exact(zp (c.trucks.getD k default) true))
  |(apply az;(first|(apply ab;apply TK)|(apply ae;apply TK;apply TK;apply TK));apply TK;apply TK;apply TK;exact(cA true))
  |(apply az;(first|(apply ab;apply TK)|(apply ae;apply TK;apply TK;apply TK));apply TK;apply TK;apply TK;exact(cB true))
  |(apply az;(first|(apply ab;apply TK)|(apply ae;apply TK;apply TK;apply TK));apply TK;apply TK;apply TK;exact(cC true))
  |(apply az;(first|(apply ab;apply TK)|(apply ae;apply TK;apply TK;apply TK));apply TK;apply TK;apply TK;exact(cD true))
  |(apply az;(first|(apply ab;apply TK)|(apply ae;apply TK;apply TK;apply TK));apply TK;apply TK;apply TK;exact(cE true true))
  |(apply ft;(first|(apply ab;apply TK)|(apply ae;apply TK;apply TK;apply TK));(first|(apply cH<;>apply TK)|(apply dV<;>apply TK)|(apply g4<;>apply TK)))
  |(apply cM;apply TK;intro _;rotate_left 1;intro _;rotate_left 1)
  |(apply fq;apply TK;intro _;rotate_left 1;intro _;rotate_left 1)
  |(apply nJ;apply TK;intro _;rotate_left 1;intro _;rotate_left 1)
  |(apply eR;apply TK;intro _;rotate_left 1;intro _;rotate_left 1))
  ·rename_i a1
   exact⟨4,⟨by omega,hH hi a1⟩,by omega,(by refine⟨?_, ?_, ?_⟩<;>repeat' (first|exact trivial|apply And.intro|apply TK))⟩
  ·rename_i a1 a2
   exact⟨4,⟨by omega,dU hi a1 (by rw[←eG hT hU hg m (true,true),pJ a2])⟩,by omega,(by refine⟨?_, ?_, ?_⟩<;>repeat' (first|exact trivial|apply And.intro|apply TK))⟩
  ·rename_i a1 a2 a3
   exact⟨4,⟨by omega,dU hi a1 (by rw[←eG hT hU hg m (true,true)];exact pq a3)⟩,by omega,(by refine⟨?_, ?_, ?_⟩<;>repeat' (first|exact trivial|apply And.intro|apply TK))⟩
  ·rename_i a1 a2 a3 a4
   have e:=eG hT hU hg m (true,true)
   rw[g8 a2 a3]at e
   have hM:=jG hi a1 (by rw[←e];exact a4)
   rw[←e]at hM
   rw[hM]at hp
   rw[dF hm2 hmlt (dF hi2 hilt (dF hk2 hklt hp))]
   ((try apply aM);first|(focus (apply fv;apply TK;(first|(apply eI;apply TK)|(apply ep<;>apply TK));(first|(apply eI;apply TK)|(apply ep<;>apply TK));all_goals try apply TK)))
  ·rename_i a1 a2 a3 a4
   have e:=eG hT hU hg m (true,true)
   rw[g8 a2 a3]at e
   exact⟨4,⟨by omega,dU hi a1 (by rw[←e];exact a4)⟩,by omega,(by refine⟨?_, ?_, ?_⟩<;>repeat' (first|exact trivial|apply And.intro|apply TK))⟩
 ·rw[←hi]at hp
  repeat' (first
  |(apply bT;apply TK;apply TK;(first|(apply aB<;>apply TK)|(apply aI<;>apply TK)|(apply aH<;>apply TK)|(apply aE<;>apply TK)|(apply aC<;>apply TK)|(apply aX<;>apply TK)|(apply bm<;>apply TK)|(apply cR<;>apply TK)|(apply di<;>apply TK)|(apply ah<;>(first|apply TK|omega))|(apply bd<;>apply TK)|(apply cv<;>apply TK)|(apply bR<;>apply TK)|(apply bY<;>apply TK)|(apply cq<;>(first|apply TK|omega))|(apply aq<;>apply TK)|(apply aN<;>apply TK)|(apply bK<;>apply TK)|(apply cQ<;>apply TK)|(apply dr<;>apply TK)|(apply dm<;>apply TK)|(apply dt<;>apply TK)|(apply eH<;>apply TK)|(apply cx<;>apply TK)|(apply fT;apply TK;apply TK;apply TK;(first|omega|decide);apply TK;apply TK;(first|omega|decide);apply TK;apply TK)|(apply cU;apply TK;apply TK;apply TK;apply TK;(first|omega|decide);apply TK;apply TK;(first|omega|decide);apply TK;apply TK)))
  |apply ba
  |apply al
  |apply an
  |apply aG
  |apply bp
  |apply ck
  |apply aF
  |apply cP
  |apply aw
  |apply aS
  |apply bk
  |apply aZ
  |apply aQ
  |(apply bu;apply TK)
  |(apply bF;apply TK)
  |(apply bZ;apply TK;(first|(apply aR<;>apply TK)|(apply aP<;>apply TK)|(apply bP<;>apply TK)))
  |(apply dg;apply TK;apply TK;apply TK)
  |(apply eA;apply TK;apply TK;apply TK;apply TK;apply TK)
  |(apply rS;apply TK;apply TK;apply TK;intro _;rotate_left 1;intro _;rotate_left 1)
  |apply ay
  |(apply bw;kernel_rfl)
  |(apply dx;(first|(apply ab;apply TK)|(apply ae;apply TK;apply TK;apply TK));apply TK;first|(apply bB<;>apply TK)|(apply aV<;>apply TK)|(apply b8;apply TK)|(apply b7;apply TK)|(apply aO;intro _;(first|(apply aB<;>apply TK)|(apply aI<;>apply TK)|(apply aH<;>apply TK)|(apply aE<;>apply TK)|(apply aC<;>apply TK)|(apply aX<;>apply TK)|(apply bm<;>apply TK)|(apply cR<;>apply TK)|(apply di<;>apply TK)|(apply ah<;>(first|apply TK|omega))|(apply bd<;>apply TK)|(apply cv<;>apply TK)|(apply bR<;>apply TK)|(apply bY<;>apply TK)|(apply cq<;>(first|apply TK|omega))|(apply aq<;>apply TK)|(apply aN<;>apply TK)|(apply bK<;>apply TK)|(apply cQ<;>apply TK)|(apply dr<;>apply TK)|(apply dm<;>apply TK)|(apply dt<;>apply TK)|(apply eH<;>apply TK)|(apply cx<;>apply TK)|(apply fT;apply TK;apply TK;apply TK;(first|omega|decide);apply TK;apply TK;(first|omega|decide);apply TK;apply TK)|(apply cU;apply TK;apply TK;apply TK;apply TK;(first|omega|decide);apply TK;apply TK;(first|omega|decide);apply TK;apply TK))))
  |(apply ft;(first|(apply ab;apply TK)|(apply ae;apply TK;apply TK;apply TK));(first|(apply cH<;>apply TK)|(apply dV<;>apply TK)|(apply g4<;>apply TK)))
  |(apply cM;apply TK;intro _;rotate_left 1;intro _;rotate_left 1)
  |(apply fq;apply TK;intro _;rotate_left 1;intro _;rotate_left 1)
  |(apply nJ;apply TK;intro _;rotate_left 1;intro _;rotate_left 1)
  |(apply eR;apply TK;intro _;rotate_left 1;intro _;rotate_left 1))
  exact⟨k+1,⟨by omega,by omega,g9 hk2 hklt hp⟩,by omega,(by apply bJ;refine⟨?_, ?_, ?_, ?_, ?_⟩<;>repeat' (first|exact trivial|apply And.intro|apply TK|(apply gz;apply TK;first|omega|assumption)|(apply gL;apply TK;repeat' (first|apply TK|apply cf|(apply cj;first|apply TK|omega|assumption)))))⟩
end Go.Proofs.YtafnhieaeejlcaaDoor
