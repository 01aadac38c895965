/- Walks by computing: what each function of the program that the laws reach gives for what it gets, as plain Lean, and that it is so; without a condition but those that stand in each theorem. -/
import Derived.Test.YtafnhieaeejlcaaDoorW1
import Derived.Test.YtafnhieaeejlcaaDoorW2
set_option linter.all false
namespace Go.Proofs.YtafnhieaeejlcaaDoor
open Go Go.Ab
structure Hold where
 a:Int
 u:Int
 deriving DecidableEq
instance:Inhabited Hold:=⟨⟨0,0⟩⟩
structure Span where
 lo:Int
 hi:Int
 deriving DecidableEq
instance:Inhabited Span:=⟨⟨0,0⟩⟩
structure Truck where
 way:Int
 start:Int
 lo:Int
 hi:Int
 holds:List Hold
 deriving DecidableEq
instance:Inhabited Truck:=⟨⟨0,0,0,0,[]⟩⟩
structure Convoy where
 len:Int
 gap:Int
 fails:Int
 trucks:List Truck
 deriving DecidableEq
instance:Inhabited Convoy:=⟨⟨0,0,0,[]⟩⟩
def fB(h:Hold):List D:=[.int .i64 h.a, .int .i64 h.u]
def bA(h:Span):List D:=[.int .i64 h.lo, .int .i64 h.hi]
def bp(t:Truck):List D:=[.int .i64 t.way, .int .i64 t.start, .int .i64 t.lo, .int .i64 t.hi,lz 2 fB t.holds]
def aI(c:Convoy):List D:=[.int .i64 c.len, .int .i64 c.gap, .int .i64 c.fails,lz 5 bp c.trucks]
theorem yb(h:Hold):af (fB h):=af.cons (.int _ _) (af.cons (.int _ _) af.nil)
theorem cL(h:Span):af (bA h):=af.cons (.int _ _) (af.cons (.int _ _) af.nil)
theorem dP(t:Truck):af (bp t):=af.cons (.int _ _) (af.cons (.int _ _) (af.cons (.int _ _) (af.cons (.int _ _) (af.cons (yS yb) af.nil))))
theorem bm(c:Convoy):af (aI c):=af.cons (.int _ _) (af.cons (.int _ _) (af.cons (.int _ _) (af.cons (yS dP) af.nil)))
def fw(t:Truck)(len:Int):List D:=bp t++[.int .i64 len]
theorem gV(t:Truck)(len:Int):af (fw t len):=fun d hd=>by
 rcases List.mem_append.1 hd with h|h
 ·exact dP t d h
 ·simp at h;subst h;exact .int _ _
end Go.Proofs.YtafnhieaeejlcaaDoor
namespace Go.Proofs.YtafnhieaeejlcaaDoor
open Go Go.Ab
set_option maxRecDepth 100000
set_option maxHeartbeats 4000000
attribute [local irreducible] W WL eh kL fe ee gN WG FQ Want jE WI pE fR eA
theorem Qh(a b c:Int):au cK 64 [.int .i64 a, .int .i64 b, .int .i64 c] (.bool (decide (b≤a∧a≤c))):=by
 refine bS (fn:=Tryd.f64) Tryd.func64 rfl (by kernel_rfl) rfl ?_ ?_ ?_
 ·repeat' first|exact af.nil|refine af.cons (.int _ _) ?_
 ·exact .bool _
 intro w κ
 repeat' (first
  |(apply bU;apply Eq.refl;apply Eq.refl;(first|(apply aA<;>apply Eq.refl)|(apply aB<;>apply Eq.refl)|(apply aX<;>apply Eq.refl)|(apply bj<;>apply Eq.refl)|(apply bR<;>apply Eq.refl)|(apply bX<;>apply Eq.refl)))
  |apply aZ
  |apply ak
  |apply an
  |apply aE
  |apply aY
  |(apply dg;apply Eq.refl;apply Eq.refl;apply Eq.refl)
  |(apply eo;apply Eq.refl;apply Eq.refl;apply Eq.refl;apply Eq.refl;apply Eq.refl)
  |(apply xp;apply Eq.refl;apply Eq.refl;apply Eq.refl;intro _;rotate_left 1;intro _;rotate_left 1))
 all_goals (refine iG rfl rfl ?_;simp;try omega)
def br(way len m:Int):Int:=if way=2 then len-m else m
theorem IX(t:Truck)(len m:Int)(h0: -2305843009213693952≤m)(h1:m≤2305843009213693952)(h2: -2305843009213693952≤len)(h3:len≤2305843009213693952):
 au cK 107 [.agg (fw t len), .int .i64 m] (.int .i64 (br t.way len m)):=by
 refine bS (fn:=Tryd.f107) Tryd.func107 rfl (by kernel_rfl) rfl ?_ ?_ ?_
 ·exact af.cons (.agg _ (gV t len)) (af.cons (.int _ _) af.nil)
 ·exact .int _ _
 intro w κ
 repeat' (first
  |(apply bU;apply Eq.refl;apply Eq.refl;(first|(apply aA<;>apply Eq.refl)|(apply aG<;>apply Eq.refl)|(apply aH<;>apply Eq.refl)|(apply aD<;>apply Eq.refl)|(apply aB<;>apply Eq.refl)|(apply ah<;>(first|apply Eq.refl|omega))))
  |apply aZ
  |apply ak
  |apply an
  |apply aE
  |apply cg
  |apply aS
  |apply aY
  |(apply bZ;apply Eq.refl;(first|(apply aT<;>apply Eq.refl)))
  |(apply cM;apply Eq.refl;intro _;rotate_left 1;intro _;rotate_left 1))
 all_goals (refine eY rfl rfl ?_;simp_all [br])
def cZ(way len:Int):Option Int→List Hold→Int
 |_,[]=>0
 |p,h::hs=>if¬(1≤h.a∧h.a≤len-1)∨¬(0≤h.u∧h.u≤10000)then 2 else
  match p with
  |some q=>if br way len h.a≤q then 11 else cZ way len (some (br way len h.a)) hs
  |none=>cZ way len (some (br way len h.a)) hs
def bO(c:Convoy)(t:Truck):Int:=
 if¬(1≤t.way∧t.way≤2)then 4
 else if¬(0≤t.start∧t.start≤10000)∨¬(1≤t.lo∧t.lo≤1000)∨¬(1≤t.hi∧t.hi≤1000)then 2
 else if t.lo>t.hi then 11
 else if c.len>1000*t.lo then 13
 else if c.gap<2*t.hi then 12
 else if t.holds.length>8 then 8
 else cZ t.way c.len none t.holds
theorem fc(way len:Int)(p:Option Int)(h:Hold)(hs:List Hold):cZ way len p (h::hs)=if¬(1≤h.a∧h.a≤len-1)∨¬(0≤h.u∧h.u≤10000)then 2 else
 match p with
 |some q=>if br way len h.a≤q then 11 else cZ way len (some (br way len h.a)) hs
 |none=>cZ way len (some (br way len h.a)) hs:=by cases p<;>rfl
theorem fg{α:Type}[Inhabited α](l:List α)(k:Nat)(h:k<l.length):l.drop k=l.getD k default::l.drop (k+1):=by
 rw[List.drop_eq_getElem_cons h];simp[List.getD,h]
def sw(way len:Int)(hs:List Hold)(k:Nat):Option Int:=if k=0 then none else some (br way len (hs.getD (k-1) default).a)
def nY(way len:Int)(hs:List Hold)(k:Nat):Prop:=k≤hs.length∧cZ way len (sw way len hs k) (hs.drop k)=cZ way len none hs∧
 (0<k→1≤(hs.getD (k-1) default).a∧(hs.getD (k-1) default).a≤len-1)
theorem tO(way len:Int)(hs:List Hold):nY way len hs 0:=⟨Nat.zero_le _,by simp[sw],fun h=>by omega⟩
section
variable {way len:Int} {hs:List Hold} {k:Nat}
theorem Gq(hi:nY way len hs k)(h:¬k<hs.length):0=cZ way len none hs:=by
 obtain⟨h1,h2,_⟩:=hi
 rw[List.drop_eq_nil_of_le (by omega)]at h2
 simpa[cZ]using h2
theorem Mp(hi:nY way len hs k)(h:k<hs.length)(hb:¬(1≤(hs.getD k default).a∧(hs.getD k default).a≤len-1)∨¬(0≤(hs.getD k default).u∧(hs.getD k default).u≤10000)):2=cZ way len none hs:=by
 obtain⟨h1,h2,_⟩:=hi
 rw[fg _ _ h]at h2
 rw[fc]at h2
 rw[if_pos hb]at h2
 exact h2
theorem Ij(hi:nY way len hs k)(h:k<hs.length)(ha:1≤(hs.getD k default).a∧(hs.getD k default).a≤len-1)(hu:0≤(hs.getD k default).u∧(hs.getD k default).u≤10000)(h0:0<k)
 (hle:br way len (hs.getD k default).a≤br way len (hs.getD (k-1) default).a):11=cZ way len none hs:=by
 obtain⟨h1,h2,_⟩:=hi
 rw[fg _ _ h]at h2
 rw[fc]at h2
 rw[if_neg (by simp only[not_or,Classical.not_not];exact⟨ha,hu⟩)]at h2
 simp only[sw,if_neg (show¬k=0 by omega)]at h2
 rw[if_pos hle]at h2
 exact h2
theorem Cn(hi:nY way len hs k)(h:k<hs.length)(ha:1≤(hs.getD k default).a∧(hs.getD k default).a≤len-1)(hu:0≤(hs.getD k default).u∧(hs.getD k default).u≤10000)
 (hle:0<k→¬br way len (hs.getD k default).a≤br way len (hs.getD (k-1) default).a):nY way len hs (k+1):=by
 obtain⟨h1,h2,_⟩:=hi
 rw[fg _ _ h]at h2
 rw[fc]at h2
 rw[if_neg (by simp only[not_or,Classical.not_not];exact⟨ha,hu⟩)]at h2
 refine⟨h, ?_,fun _=>by simpa using ha⟩
 rw[←h2]
 by_cases e:k=0
 ·subst e;simp[sw]
 ·simp only[sw,if_neg e,if_neg (hle (by omega))];simp
end
theorem Tj(c:Convoy)(t:Truck)(hl:1≤c.len)(hl2:c.len≤100000):au cK 65 [.agg (aI c), .agg (bp t)] (.int .i64 (bO c t)):=by
 refine bS (fn:=Tryd.f65) Tryd.func65 rfl (by kernel_rfl) rfl ?_ ?_ ?_
 ·exact af.cons (.agg _ (bm c)) (af.cons (.agg _ (dP t)) af.nil)
 ·exact .int _ _
 intro w κ
 repeat' (first
  |(apply bU;apply Eq.refl;apply Eq.refl;(first|(apply aA<;>apply Eq.refl)|(apply aG<;>apply Eq.refl)|(apply aH<;>apply Eq.refl)|(apply aD<;>apply Eq.refl)|(apply aB<;>apply Eq.refl)|(apply aX<;>apply Eq.refl)|(apply bj<;>apply Eq.refl)|(apply cP<;>apply Eq.refl)|(apply di<;>apply Eq.refl)|(apply iN<;>apply Eq.refl)|(apply ah<;>(first|apply Eq.refl|omega))|(apply ba<;>apply Eq.refl)|(apply bR<;>apply Eq.refl)|(apply bX<;>apply Eq.refl)|(apply cq<;>(first|apply Eq.refl|omega))|(apply aq<;>apply Eq.refl)|(apply aM<;>apply Eq.refl)|(apply bJ<;>apply Eq.refl)))
  |apply aZ
  |apply ak
  |apply an
  |apply aE
  |apply bn
  |apply cg
  |apply aF
  |apply cN
  |apply aw
  |apply aS
  |apply bf
  |apply aY
  |apply aR
  |(apply bu;apply Eq.refl)
  |(apply bD;apply Eq.refl)
  |(apply ay;apply Eq.refl;apply Eq.refl;rotate_left 1;apply Eq.refl;rotate_right 1;exact(Qh _ _ _);apply Eq.refl)
  |(apply bZ;apply Eq.refl;(first|(apply aT<;>apply Eq.refl)|(apply aO<;>apply Eq.refl)|(apply bM<;>apply Eq.refl)))
  |(apply dg;apply Eq.refl;apply Eq.refl;apply Eq.refl)
  |(apply eo;apply Eq.refl;apply Eq.refl;apply Eq.refl;apply Eq.refl;apply Eq.refl)
  |(apply oq;apply Eq.refl;apply Eq.refl;apply Eq.refl;intro _;rotate_left 1;intro _;rotate_left 1)
  |apply ax
  |(apply bw;kernel_rfl)
  |(apply dx;(first|(apply ab;apply Eq.refl)|(apply ae;apply Eq.refl;apply Eq.refl;apply Eq.refl));apply Eq.refl;first|(apply bB<;>apply Eq.refl)|(apply aW<;>apply Eq.refl)|(apply b6;apply Eq.refl)|(apply b7;apply Eq.refl)|(apply aN;intro _;(first|(apply aA<;>apply Eq.refl)|(apply aG<;>apply Eq.refl)|(apply aH<;>apply Eq.refl)|(apply aD<;>apply Eq.refl)|(apply aB<;>apply Eq.refl)|(apply aX<;>apply Eq.refl)|(apply bj<;>apply Eq.refl)|(apply cP<;>apply Eq.refl)|(apply di<;>apply Eq.refl)|(apply iN<;>apply Eq.refl)|(apply ah<;>(first|apply Eq.refl|omega))|(apply ba<;>apply Eq.refl)|(apply bR<;>apply Eq.refl)|(apply bX<;>apply Eq.refl)|(apply cq<;>(first|apply Eq.refl|omega))|(apply aq<;>apply Eq.refl)|(apply aM<;>apply Eq.refl)|(apply bJ<;>apply Eq.refl))))
  |(apply az;(first|(apply ab;apply Eq.refl)|(apply ae;apply Eq.refl;apply Eq.refl;apply Eq.refl));apply Eq.refl;apply Eq.refl;apply Eq.refl;exact(Qh _ _ _))
  |(apply nJ;apply Eq.refl;apply Eq.refl;apply Eq.refl;apply Eq.refl;apply Eq.refl)
  |(apply xm;apply Eq.refl;apply Eq.refl;apply Eq.refl;intro _;rotate_left 1;intro _;rotate_left 1)
  |(apply cM;apply Eq.refl;intro _;rotate_left 1;intro _;rotate_left 1)
  |(apply fq;apply Eq.refl;intro _;rotate_left 1;intro _;rotate_left 1))
 all_goals try (refine eY rfl rfl ?_;simp[bO];omega)
 rename_i h1 h2 h3 h4 h5 h6 h7 h8
 have hspec:bO c t=cZ t.way c.len none t.holds:=by simp[bO];omega
 rw[hspec]
 clear hspec
 refine jS (α:=Nat) (fun k=>[(2, .bx 2 1 0),(3, .bx 3 1 0),(5, .bx 5 1 0),(66,lz 2 fB t.holds),(67, .int .i64 t.holds.length),(68, .int .i64 k)]) (fun _=>[(2,1),(3,1),(5,1)])
  (fun _=>[(2, .box (aI c)),(3, .box (bp t)),(5, .box (fw t c.len))]) (nY t.way c.len t.holds) (fun k=>t.holds.length-k) 0 (tO _ _ _) (by refine⟨?_, ?_, ?_⟩<;>repeat' (first|exact trivial|apply And.intro|apply Eq.refl)) (fun k h hi=> ?_)
 have hk:=hi.1
 have hp:=hi.2.2
 have e1:0<k→((k:Int)-1).toNat=k-1:=fun h=>by omega
 have hp' :0<k→1≤(t.holds.getD ((k:Int)-1).toNat default).a∧(t.holds.getD ((k:Int)-1).toNat default).a≤c.len-1:=fun h=>by rw[e1 h];exact hp h
 repeat' (first
  |(apply bU;apply Eq.refl;apply Eq.refl;(first|(apply aA<;>apply Eq.refl)|(apply aG<;>apply Eq.refl)|(apply aH<;>apply Eq.refl)|(apply aD<;>apply Eq.refl)|(apply aB<;>apply Eq.refl)|(apply aX<;>apply Eq.refl)|(apply bj<;>apply Eq.refl)|(apply cP<;>apply Eq.refl)|(apply di<;>apply Eq.refl)|(apply iN<;>apply Eq.refl)|(apply ah<;>(first|apply Eq.refl|omega))|(apply ba<;>apply Eq.refl)|(apply bR<;>apply Eq.refl)|(apply bX<;>apply Eq.refl)|(apply cq<;>(first|apply Eq.refl|omega))|(apply aq<;>apply Eq.refl)|(apply aM<;>apply Eq.refl)|(apply bJ<;>apply Eq.refl)))
  |apply aZ
  |apply ak
  |apply an
  |apply aE
  |apply bn
  |apply cg
  |apply aF
  |apply cN
  |apply aw
  |apply aS
  |apply bf
  |apply aY
  |apply aR
  |(apply bu;apply Eq.refl)
  |(apply bD;apply Eq.refl)
  |(apply ay;apply Eq.refl;apply Eq.refl;rotate_left 1;apply Eq.refl;rotate_right 1;exact(Qh _ _ _);apply Eq.refl)
  |(apply ay;apply Eq.refl;apply Eq.refl;rotate_left 1;apply Eq.refl;rotate_right 1;exact(IX _ _ _ (by omega) (by omega) (by omega) (by omega));apply Eq.refl)
  |(apply bZ;apply Eq.refl;(first|(apply aT<;>apply Eq.refl)|(apply aO<;>apply Eq.refl)|(apply bM<;>apply Eq.refl)))
  |(apply dg;apply Eq.refl;apply Eq.refl;apply Eq.refl)
  |(apply eo;apply Eq.refl;apply Eq.refl;apply Eq.refl;apply Eq.refl;apply Eq.refl)
  |(apply oq;apply Eq.refl;apply Eq.refl;apply Eq.refl;intro _;rotate_left 1;intro _;rotate_left 1)
  |apply ax
  |(apply bw;kernel_rfl)
  |(apply dx;(first|(apply ab;apply Eq.refl)|(apply ae;apply Eq.refl;apply Eq.refl;apply Eq.refl));apply Eq.refl;first|(apply bB<;>apply Eq.refl)|(apply aW<;>apply Eq.refl)|(apply b6;apply Eq.refl)|(apply b7;apply Eq.refl)|(apply aN;intro _;(first|(apply aA<;>apply Eq.refl)|(apply aG<;>apply Eq.refl)|(apply aH<;>apply Eq.refl)|(apply aD<;>apply Eq.refl)|(apply aB<;>apply Eq.refl)|(apply aX<;>apply Eq.refl)|(apply bj<;>apply Eq.refl)|(apply cP<;>apply Eq.refl)|(apply di<;>apply Eq.refl)|(apply iN<;>apply Eq.refl)|(apply ah<;>(first|apply Eq.refl|omega))|(apply ba<;>apply Eq.refl)|(apply bR<;>apply Eq.refl)|(apply bX<;>apply Eq.refl)|(apply cq<;>(first|apply Eq.refl|omega))|(apply aq<;>apply Eq.refl)|(apply aM<;>apply Eq.refl)|(apply bJ<;>apply Eq.refl))))
  |(apply az;(first|(apply ab;apply Eq.refl)|(apply ae;apply Eq.refl;apply Eq.refl;apply Eq.refl));apply Eq.refl;apply Eq.refl;apply Eq.refl;exact(Qh _ _ _))
  |(apply az;(first|(apply ab;apply Eq.refl)|(apply ae;apply Eq.refl;apply Eq.refl;apply Eq.refl));apply Eq.refl;apply Eq.refl;apply Eq.refl;exact(IX _ _ _ (by omega) (by omega) (by omega) (by omega)))
  |(apply nJ;apply Eq.refl;apply Eq.refl;apply Eq.refl;apply Eq.refl;apply Eq.refl)
  |(apply xm;apply Eq.refl;apply Eq.refl;apply Eq.refl;intro _;rotate_left 1;intro _;rotate_left 1)
  |(apply cM;apply Eq.refl;intro _;rotate_left 1;intro _;rotate_left 1)
  |(apply fq;apply Eq.refl;intro _;rotate_left 1;intro _;rotate_left 1))
 all_goals try simp only[Int.toNat_natCast]at*
 all_goals first
  |(refine eY rfl rfl (Mp hi (by omega) (by first|(left;assumption)|(right;assumption)));done)
  |(refine eY rfl rfl (Ij hi (by omega) (by assumption) (by assumption) (by omega) (by rw[←e1 (by omega)];assumption));done)
  |(refine eY rfl rfl (Gq hi (by omega));done)
  |(refine⟨k+1,Cn hi (by omega) (by assumption) (by assumption) (fun h=>by first|(rw[←e1 h];assumption)|omega),by omega,(by refine⟨?_, ?_, ?_⟩<;>repeat' (first|exact trivial|apply And.intro|apply Eq.refl))⟩;done)
end Go.Proofs.YtafnhieaeejlcaaDoor
namespace Go.Proofs.YtafnhieaeejlcaaDoor
open Go Go.Ab
set_option maxRecDepth 100000
set_option maxHeartbeats 4000000
attribute [local irreducible] W WL eh kL fe ee gN WG FQ Want jE WI pE fR eA
theorem OJ(a b c:Int):au cK 66 [.int .i64 a, .int .i64 b, .int .i64 c] (.bool (decide (b≤a∧a≤c))):=by
 refine bS (fn:=Tryd.f66) Tryd.func66 rfl (by kernel_rfl) rfl ?_ ?_ ?_
 ·repeat' first|exact af.nil|refine af.cons (.int _ _) ?_
 ·exact .bool _
 intro w κ
 repeat' (first
  |(apply bU;apply Eq.refl;apply Eq.refl;(first|(apply aA<;>apply Eq.refl)|(apply aB<;>apply Eq.refl)|(apply aX<;>apply Eq.refl)|(apply bj<;>apply Eq.refl)|(apply bR<;>apply Eq.refl)|(apply bX<;>apply Eq.refl)))
  |apply aZ
  |apply ak
  |apply an
  |apply aE
  |apply aY
  |(apply dg;apply Eq.refl;apply Eq.refl;apply Eq.refl)
  |(apply eo;apply Eq.refl;apply Eq.refl;apply Eq.refl;apply Eq.refl;apply Eq.refl)
  |(apply xp;apply Eq.refl;apply Eq.refl;apply Eq.refl;intro _;rotate_left 1;intro _;rotate_left 1))
 all_goals (refine iG rfl rfl ?_;simp;try omega)
theorem HC(c:Convoy)(t:Truck)(h:Hold)(h0: -2305843009213693952≤h.a)(h1:h.a≤2305843009213693952)(h2: -2305843009213693952≤c.len)(h3:c.len≤2305843009213693952):
 au cK 108 [.agg (aI c), .agg (bp t), .agg (fB h)] (.int .i64 (br t.way c.len h.a)):=by
 refine bS (fn:=Tryd.f108) Tryd.func108 rfl (by kernel_rfl) rfl ?_ ?_ ?_
 ·exact af.cons (.agg _ (bm c)) (af.cons (.agg _ (dP t)) (af.cons (.agg _ (yb h)) af.nil))
 ·exact .int _ _
 intro w κ
 repeat' (first
  |(apply bU;apply Eq.refl;apply Eq.refl;(first|(apply aG<;>apply Eq.refl)|(apply aH<;>apply Eq.refl)|(apply aD<;>apply Eq.refl)|(apply aB<;>apply Eq.refl)|(apply ah<;>(first|apply Eq.refl|omega))))
  |apply aZ
  |apply ak
  |apply an
  |apply aE
  |apply cg
  |apply aS
  |apply aY
  |(apply bZ;apply Eq.refl;(first|(apply aT<;>apply Eq.refl)))
  |(apply cM;apply Eq.refl;intro _;rotate_left 1;intro _;rotate_left 1))
 all_goals (refine eY rfl rfl ?_;simp_all [br])
theorem SU(c:Convoy)(t:Truck)(hl:1≤c.len)(hl2:c.len≤100000):au cK 67 [.agg (aI c), .agg (bp t)] (.int .i64 (bO c t)):=by
 refine bS (fn:=Tryd.f67) Tryd.func67 rfl (by kernel_rfl) rfl ?_ ?_ ?_
 ·exact af.cons (.agg _ (bm c)) (af.cons (.agg _ (dP t)) af.nil)
 ·exact .int _ _
 intro w κ
 repeat' (first
  |(apply bU;apply Eq.refl;apply Eq.refl;(first|(apply aA<;>apply Eq.refl)|(apply aG<;>apply Eq.refl)|(apply aH<;>apply Eq.refl)|(apply aD<;>apply Eq.refl)|(apply aB<;>apply Eq.refl)|(apply aX<;>apply Eq.refl)|(apply bj<;>apply Eq.refl)|(apply cP<;>apply Eq.refl)|(apply ah<;>(first|apply Eq.refl|omega))|(apply ba<;>apply Eq.refl)|(apply bR<;>apply Eq.refl)|(apply bX<;>apply Eq.refl)|(apply cq<;>(first|apply Eq.refl|omega))|(apply aq<;>apply Eq.refl)|(apply aM<;>apply Eq.refl)))
  |apply aZ
  |apply ak
  |apply an
  |apply aE
  |apply bn
  |apply cg
  |apply aF
  |apply cN
  |apply aw
  |apply aS
  |apply bf
  |apply aY
  |apply aR
  |(apply bu;apply Eq.refl)
  |(apply bD;apply Eq.refl)
  |(apply ay;apply Eq.refl;apply Eq.refl;rotate_left 1;apply Eq.refl;rotate_right 1;exact(OJ _ _ _);apply Eq.refl)
  |(apply bZ;apply Eq.refl;(first|(apply aT<;>apply Eq.refl)|(apply aO<;>apply Eq.refl)|(apply bM<;>apply Eq.refl)))
  |(apply dg;apply Eq.refl;apply Eq.refl;apply Eq.refl)
  |(apply eo;apply Eq.refl;apply Eq.refl;apply Eq.refl;apply Eq.refl;apply Eq.refl)
  |(apply oq;apply Eq.refl;apply Eq.refl;apply Eq.refl;intro _;rotate_left 1;intro _;rotate_left 1)
  |apply ax
  |(apply bw;kernel_rfl)
  |(apply dx;(first|(apply ab;apply Eq.refl)|(apply ae;apply Eq.refl;apply Eq.refl;apply Eq.refl));apply Eq.refl;first|(apply bB<;>apply Eq.refl)|(apply aW<;>apply Eq.refl)|(apply b6;apply Eq.refl)|(apply b7;apply Eq.refl)|(apply aN;intro _;(first|(apply aA<;>apply Eq.refl)|(apply aG<;>apply Eq.refl)|(apply aH<;>apply Eq.refl)|(apply aD<;>apply Eq.refl)|(apply aB<;>apply Eq.refl)|(apply aX<;>apply Eq.refl)|(apply bj<;>apply Eq.refl)|(apply cP<;>apply Eq.refl)|(apply ah<;>(first|apply Eq.refl|omega))|(apply ba<;>apply Eq.refl)|(apply bR<;>apply Eq.refl)|(apply bX<;>apply Eq.refl)|(apply cq<;>(first|apply Eq.refl|omega))|(apply aq<;>apply Eq.refl)|(apply aM<;>apply Eq.refl))))
  |(apply az;(first|(apply ab;apply Eq.refl)|(apply ae;apply Eq.refl;apply Eq.refl;apply Eq.refl));apply Eq.refl;apply Eq.refl;apply Eq.refl;exact(OJ _ _ _))
  |(apply nJ;apply Eq.refl;apply Eq.refl;apply Eq.refl;apply Eq.refl;apply Eq.refl)
  |(apply xm;apply Eq.refl;apply Eq.refl;apply Eq.refl;intro _;rotate_left 1;intro _;rotate_left 1)
  |(apply cM;apply Eq.refl;intro _;rotate_left 1;intro _;rotate_left 1)
  |(apply fq;apply Eq.refl;intro _;rotate_left 1;intro _;rotate_left 1))
 all_goals try (refine eY rfl rfl ?_;simp[bO];omega)
 all_goals
  have hspec:bO c t=cZ t.way c.len none t.holds:=by simp[bO];omega
  rw[hspec]
  clear hspec
  refine jS (α:=Nat) (fun k=>[(2, .bx 2 1 0),(3, .bx 3 1 0),(5, .int .i64 k)]) (fun _=>[(2,1),(3,1)])
   (fun _=>[(2, .box (aI c)),(3, .box (bp t))]) (nY t.way c.len t.holds) (fun k=>t.holds.length-k) 0 (tO _ _ _) (by refine⟨?_, ?_, ?_⟩<;>repeat' (first|exact trivial|apply And.intro|apply Eq.refl)) (fun k h hi=> ?_)
  have hk:=hi.1
  have hp:=hi.2.2
  have e1:0<k→((k:Int)-1).toNat=k-1:=fun h=>by omega
  have hp' :0<k→1≤(t.holds.getD ((k:Int)-1).toNat default).a∧(t.holds.getD ((k:Int)-1).toNat default).a≤c.len-1:=fun h=>by rw[e1 h];exact hp h
  repeat' (first
  |(apply bU;apply Eq.refl;apply Eq.refl;(first|(apply aA<;>apply Eq.refl)|(apply aG<;>apply Eq.refl)|(apply aH<;>apply Eq.refl)|(apply aD<;>apply Eq.refl)|(apply aB<;>apply Eq.refl)|(apply aX<;>apply Eq.refl)|(apply bj<;>apply Eq.refl)|(apply cP<;>apply Eq.refl)|(apply ah<;>(first|apply Eq.refl|omega))|(apply ba<;>apply Eq.refl)|(apply bR<;>apply Eq.refl)|(apply bX<;>apply Eq.refl)|(apply cq<;>(first|apply Eq.refl|omega))|(apply aq<;>apply Eq.refl)|(apply aM<;>apply Eq.refl)))
  |apply aZ
  |apply ak
  |apply an
  |apply aE
  |apply bn
  |apply cg
  |apply aF
  |apply cN
  |apply aw
  |apply aS
  |apply bf
  |apply aY
  |apply aR
  |(apply bu;apply Eq.refl)
  |(apply bD;apply Eq.refl)
  |(apply ay;apply Eq.refl;apply Eq.refl;rotate_left 1;apply Eq.refl;rotate_right 1;exact(OJ _ _ _);apply Eq.refl)
  |(apply ay;apply Eq.refl;apply Eq.refl;rotate_left 1;apply Eq.refl;rotate_right 1;exact(HC c t (t.holds.getD (k:Int).toNat default) (by omega) (by omega) (by omega) (by omega));apply Eq.refl)
  |(apply ay;apply Eq.refl;apply Eq.refl;rotate_left 1;apply Eq.refl;rotate_right 1;exact(HC c t (t.holds.getD ((k:Int)-1).toNat default) (by omega) (by omega) (by omega) (by omega));apply Eq.refl)
  |(apply bZ;apply Eq.refl;(first|(apply aT<;>apply Eq.refl)|(apply aO<;>apply Eq.refl)|(apply bM<;>apply Eq.refl)))
  |(apply dg;apply Eq.refl;apply Eq.refl;apply Eq.refl)
  |(apply eo;apply Eq.refl;apply Eq.refl;apply Eq.refl;apply Eq.refl;apply Eq.refl)
  |(apply oq;apply Eq.refl;apply Eq.refl;apply Eq.refl;intro _;rotate_left 1;intro _;rotate_left 1)
  |apply ax
  |(apply bw;kernel_rfl)
  |(apply dx;(first|(apply ab;apply Eq.refl)|(apply ae;apply Eq.refl;apply Eq.refl;apply Eq.refl));apply Eq.refl;first|(apply bB<;>apply Eq.refl)|(apply aW<;>apply Eq.refl)|(apply b6;apply Eq.refl)|(apply b7;apply Eq.refl)|(apply aN;intro _;(first|(apply aA<;>apply Eq.refl)|(apply aG<;>apply Eq.refl)|(apply aH<;>apply Eq.refl)|(apply aD<;>apply Eq.refl)|(apply aB<;>apply Eq.refl)|(apply aX<;>apply Eq.refl)|(apply bj<;>apply Eq.refl)|(apply cP<;>apply Eq.refl)|(apply ah<;>(first|apply Eq.refl|omega))|(apply ba<;>apply Eq.refl)|(apply bR<;>apply Eq.refl)|(apply bX<;>apply Eq.refl)|(apply cq<;>(first|apply Eq.refl|omega))|(apply aq<;>apply Eq.refl)|(apply aM<;>apply Eq.refl))))
  |(apply az;(first|(apply ab;apply Eq.refl)|(apply ae;apply Eq.refl;apply Eq.refl;apply Eq.refl));apply Eq.refl;apply Eq.refl;apply Eq.refl;exact(OJ _ _ _))
  |(apply az;(first|(apply ab;apply Eq.refl)|(apply ae;apply Eq.refl;apply Eq.refl;apply Eq.refl));apply Eq.refl;apply Eq.refl;apply Eq.refl;exact(HC c t (t.holds.getD (k:Int).toNat default) (by omega) (by omega) (by omega) (by omega)))
  |(apply az;(first|(apply ab;apply Eq.refl)|(apply ae;apply Eq.refl;apply Eq.refl;apply Eq.refl));apply Eq.refl;apply Eq.refl;apply Eq.refl;exact(HC c t (t.holds.getD ((k:Int)-1).toNat default) (by omega) (by omega) (by omega) (by omega)))
  |(apply nJ;apply Eq.refl;apply Eq.refl;apply Eq.refl;apply Eq.refl;apply Eq.refl)
  |(apply xm;apply Eq.refl;apply Eq.refl;apply Eq.refl;intro _;rotate_left 1;intro _;rotate_left 1)
  |(apply cM;apply Eq.refl;intro _;rotate_left 1;intro _;rotate_left 1)
  |(apply fq;apply Eq.refl;intro _;rotate_left 1;intro _;rotate_left 1))
  all_goals try simp only[Int.toNat_natCast]at*
  all_goals first
   |(refine eY rfl rfl (Mp hi (by omega) (by first|(left;assumption)|(right;assumption)));done)
   |(refine eY rfl rfl (Ij hi (by omega) (by assumption) (by assumption) (by omega) (by rw[←e1 (by omega)];assumption));done)
   |(refine eY rfl rfl (Gq hi (by omega));done)
   |(refine⟨k+1,Cn hi (by omega) (by assumption) (by assumption) (fun h=>by first|(rw[←e1 h];assumption)|omega),by omega,(by refine⟨?_, ?_, ?_⟩<;>repeat' (first|exact trivial|apply And.intro|apply Eq.refl))⟩;done)
   |skip
def cX(c:Convoy):List Truck→Int
 |[]=>0
 |t::ts=>if bO c t≠0 then bO c t else cX c ts
def al(c:Convoy):Int:=
 if¬(1≤c.len∧c.len≤100000)∨¬(1≤c.gap∧c.gap≤100000)∨¬(0≤c.fails∧c.fails≤20)then 2
 else if c.trucks.length>20 then 8
 else cX c c.trucks
def x5(c:Convoy)(k:Nat):Prop:=k≤c.trucks.length∧cX c (c.trucks.drop k)=cX c c.trucks
theorem JD{c:Convoy}{k:Nat}(hi:x5 c k)(h:¬k<c.trucks.length):0=cX c c.trucks:=by
 rw[←hi.2,List.drop_eq_nil_of_le (by omega)];rfl
theorem Jn{c:Convoy}{k:Nat}(hi:x5 c k)(h:k<c.trucks.length)(he:bO c (c.trucks.getD k default)≠0):bO c (c.trucks.getD k default)=cX c c.trucks:=by
 rw[←hi.2,fg _ _ h,cX,if_pos he]
theorem FU{c:Convoy}{k:Nat}(hi:x5 c k)(h:k<c.trucks.length)(he:bO c (c.trucks.getD k default)=0):x5 c (k+1):=
 ⟨h,by rw[←hi.2,fg _ _ h,cX,if_neg (fun h=>h he)]⟩
theorem MB(c:Convoy):au cK 21 [.agg (aI c)] (.int .i64 (al c)):=by
 refine bS (fn:=Tryd.f21) Tryd.func21 rfl (by kernel_rfl) rfl ?_ ?_ ?_
 ·exact af.cons (.agg _ (bm c)) af.nil
 ·exact .int _ _
 intro w κ
 repeat' (first
  |(apply bU;apply Eq.refl;apply Eq.refl;(first|(apply aA<;>apply Eq.refl)|(apply aG<;>apply Eq.refl)|(apply aH<;>apply Eq.refl)|(apply aD<;>apply Eq.refl)|(apply aB<;>apply Eq.refl)|(apply aX<;>apply Eq.refl)|(apply bj<;>apply Eq.refl)|(apply cP<;>apply Eq.refl)|(apply ah<;>(first|apply Eq.refl|omega))|(apply ba<;>apply Eq.refl)|(apply bR<;>apply Eq.refl)|(apply bX<;>apply Eq.refl)|(apply cq<;>(first|apply Eq.refl|omega))|(apply aq<;>apply Eq.refl)|(apply aM<;>apply Eq.refl)))
  |apply aZ
  |apply ak
  |apply an
  |apply aE
  |apply bn
  |apply cg
  |apply aF
  |apply cN
  |apply aw
  |apply aS
  |apply bf
  |apply aY
  |apply aR
  |(apply bu;apply Eq.refl)
  |(apply ay;apply Eq.refl;apply Eq.refl;rotate_left 1;apply Eq.refl;rotate_right 1;exact(Qh _ _ _);apply Eq.refl)
  |(apply bZ;apply Eq.refl;(first|(apply aT<;>apply Eq.refl)|(apply aO<;>apply Eq.refl)|(apply bM<;>apply Eq.refl)))
  |(apply dg;apply Eq.refl;apply Eq.refl;apply Eq.refl)
  |(apply eo;apply Eq.refl;apply Eq.refl;apply Eq.refl;apply Eq.refl;apply Eq.refl)
  |(apply oq;apply Eq.refl;apply Eq.refl;apply Eq.refl;intro _;rotate_left 1;intro _;rotate_left 1)
  |(apply cM;apply Eq.refl;intro _;rotate_left 1;intro _;rotate_left 1)
  |(apply fq;apply Eq.refl;intro _;rotate_left 1;intro _;rotate_left 1))
 all_goals try (refine eY rfl rfl ?_;simp[al];omega)
 all_goals
  have hspec:al c=cX c c.trucks:=by simp[al];omega
  rw[hspec]
  clear hspec
  refine jS (α:=Nat) (fun k=>[(1, .bx 1 1 0),(29,lz 5 bp c.trucks),(30, .int .i64 c.trucks.length),(31, .int .i64 k)]) (fun _=>[(1,1)])
   (fun _=>[(1, .box (aI c))]) (x5 c) (fun k=>c.trucks.length-k) 0 ⟨Nat.zero_le _,rfl⟩ (by refine⟨?_, ?_, ?_⟩<;>repeat' (first|exact trivial|apply And.intro|apply Eq.refl)) (fun k h hi=> ?_)
  have hk:=hi.1
  repeat' (first
  |(apply bU;apply Eq.refl;apply Eq.refl;(first|(apply aA<;>apply Eq.refl)|(apply aG<;>apply Eq.refl)|(apply aH<;>apply Eq.refl)|(apply aD<;>apply Eq.refl)|(apply aB<;>apply Eq.refl)|(apply aX<;>apply Eq.refl)|(apply bj<;>apply Eq.refl)|(apply cP<;>apply Eq.refl)|(apply ah<;>(first|apply Eq.refl|omega))|(apply ba<;>apply Eq.refl)|(apply bR<;>apply Eq.refl)|(apply bX<;>apply Eq.refl)|(apply cq<;>(first|apply Eq.refl|omega))|(apply aq<;>apply Eq.refl)|(apply aM<;>apply Eq.refl)))
  |apply aZ
  |apply ak
  |apply an
  |apply aE
  |apply bn
  |apply cg
  |apply aF
  |apply cN
  |apply aw
  |apply aS
  |apply bf
  |apply aY
  |apply aR
  |(apply bu;apply Eq.refl)
  |(apply ay;apply Eq.refl;apply Eq.refl;rotate_left 1;apply Eq.refl;rotate_right 1;exact(Tj c (c.trucks.getD k default) (by omega) (by omega));apply Eq.refl)
  |(apply bZ;apply Eq.refl;(first|(apply aT<;>apply Eq.refl)|(apply aO<;>apply Eq.refl)|(apply bM<;>apply Eq.refl)))
  |(apply dg;apply Eq.refl;apply Eq.refl;apply Eq.refl)
  |(apply eo;apply Eq.refl;apply Eq.refl;apply Eq.refl;apply Eq.refl;apply Eq.refl)
  |(apply oq;apply Eq.refl;apply Eq.refl;apply Eq.refl;intro _;rotate_left 1;intro _;rotate_left 1)
  |(apply cM;apply Eq.refl;intro _;rotate_left 1;intro _;rotate_left 1)
  |(apply fq;apply Eq.refl;intro _;rotate_left 1;intro _;rotate_left 1))
  all_goals first
   |(refine eY rfl rfl (Jn hi (by omega) (by assumption));done)
   |(refine eY rfl rfl (JD hi (by omega));done)
   |(refine⟨k+1,FU hi (by omega) (by assumption),by omega,(by refine⟨?_, ?_, ?_⟩<;>repeat' (first|exact trivial|apply And.intro|apply Eq.refl))⟩;done)
   |skip
theorem Mu(c:Convoy):au cK 22 [.agg (aI c)] (.int .i64 (al c)):=by
 refine bS (fn:=Tryd.f22) Tryd.func22 rfl (by kernel_rfl) rfl ?_ ?_ ?_
 ·exact af.cons (.agg _ (bm c)) af.nil
 ·exact .int _ _
 intro w κ
 repeat' (first
  |(apply bU;apply Eq.refl;apply Eq.refl;(first|(apply aA<;>apply Eq.refl)|(apply aG<;>apply Eq.refl)|(apply aH<;>apply Eq.refl)|(apply aD<;>apply Eq.refl)|(apply aB<;>apply Eq.refl)|(apply aX<;>apply Eq.refl)|(apply cP<;>apply Eq.refl)|(apply ah<;>(first|apply Eq.refl|omega))|(apply ba<;>apply Eq.refl)|(apply bR<;>apply Eq.refl)|(apply bX<;>apply Eq.refl)|(apply cq<;>(first|apply Eq.refl|omega))|(apply aq<;>apply Eq.refl)|(apply aM<;>apply Eq.refl)))
  |apply aZ
  |apply ak
  |apply an
  |apply aE
  |apply bn
  |apply cg
  |apply aF
  |apply cN
  |apply aw
  |apply aS
  |apply bf
  |apply aY
  |apply aR
  |(apply bu;apply Eq.refl)
  |(apply ay;apply Eq.refl;apply Eq.refl;rotate_left 1;apply Eq.refl;rotate_right 1;exact(OJ _ _ _);apply Eq.refl)
  |(apply bZ;apply Eq.refl;(first|(apply aT<;>apply Eq.refl)))
  |(apply dg;apply Eq.refl;apply Eq.refl;apply Eq.refl)
  |(apply eo;apply Eq.refl;apply Eq.refl;apply Eq.refl;apply Eq.refl;apply Eq.refl)
  |(apply oq;apply Eq.refl;apply Eq.refl;apply Eq.refl;intro _;rotate_left 1;intro _;rotate_left 1)
  |apply ax
  |(apply bw;kernel_rfl)
  |(apply dx;(first|(apply ab;apply Eq.refl)|(apply ae;apply Eq.refl;apply Eq.refl;apply Eq.refl));apply Eq.refl;first|(apply bB<;>apply Eq.refl)|(apply aW<;>apply Eq.refl)|(apply b6;apply Eq.refl)|(apply b7;apply Eq.refl)|(apply aN;intro _;(first|(apply aA<;>apply Eq.refl)|(apply aG<;>apply Eq.refl)|(apply aH<;>apply Eq.refl)|(apply aD<;>apply Eq.refl)|(apply aB<;>apply Eq.refl)|(apply aX<;>apply Eq.refl)|(apply cP<;>apply Eq.refl)|(apply ah<;>(first|apply Eq.refl|omega))|(apply ba<;>apply Eq.refl)|(apply bR<;>apply Eq.refl)|(apply bX<;>apply Eq.refl)|(apply cq<;>(first|apply Eq.refl|omega))|(apply aq<;>apply Eq.refl)|(apply aM<;>apply Eq.refl))))
  |(apply az;(first|(apply ab;apply Eq.refl)|(apply ae;apply Eq.refl;apply Eq.refl;apply Eq.refl));apply Eq.refl;apply Eq.refl;apply Eq.refl;exact(OJ _ _ _))
  |(apply cM;apply Eq.refl;intro _;rotate_left 1;intro _;rotate_left 1)
  |(apply fq;apply Eq.refl;intro _;rotate_left 1;intro _;rotate_left 1))
 all_goals try (refine eY rfl rfl ?_;simp[al];omega)
 all_goals
  have hspec:al c=cX c c.trucks:=by simp[al];omega
  rw[hspec]
  clear hspec
  refine jS (α:=Nat) (fun k=>[(1, .bx 1 1 0),(3, .int .i64 k)]) (fun _=>[(1,1)])
   (fun _=>[(1, .box (aI c))]) (x5 c) (fun k=>c.trucks.length-k) 0 ⟨Nat.zero_le _,rfl⟩ (by refine⟨?_, ?_, ?_⟩<;>repeat' (first|exact trivial|apply And.intro|apply Eq.refl)) (fun k h hi=> ?_)
  have hk:=hi.1
  repeat' (first
  |(apply bU;apply Eq.refl;apply Eq.refl;(first|(apply aA<;>apply Eq.refl)|(apply aG<;>apply Eq.refl)|(apply aH<;>apply Eq.refl)|(apply aD<;>apply Eq.refl)|(apply aB<;>apply Eq.refl)|(apply aX<;>apply Eq.refl)|(apply cP<;>apply Eq.refl)|(apply ah<;>(first|apply Eq.refl|omega))|(apply ba<;>apply Eq.refl)|(apply bR<;>apply Eq.refl)|(apply bX<;>apply Eq.refl)|(apply cq<;>(first|apply Eq.refl|omega))|(apply aq<;>apply Eq.refl)|(apply aM<;>apply Eq.refl)))
  |apply aZ
  |apply ak
  |apply an
  |apply aE
  |apply bn
  |apply cg
  |apply aF
  |apply cN
  |apply aw
  |apply aS
  |apply bf
  |apply aY
  |apply aR
  |(apply bu;apply Eq.refl)
  |(apply ay;apply Eq.refl;apply Eq.refl;rotate_left 1;apply Eq.refl;rotate_right 1;exact(SU c (c.trucks.getD k default) (by omega) (by omega));apply Eq.refl)
  |(apply bZ;apply Eq.refl;(first|(apply aT<;>apply Eq.refl)))
  |(apply dg;apply Eq.refl;apply Eq.refl;apply Eq.refl)
  |(apply eo;apply Eq.refl;apply Eq.refl;apply Eq.refl;apply Eq.refl;apply Eq.refl)
  |(apply oq;apply Eq.refl;apply Eq.refl;apply Eq.refl;intro _;rotate_left 1;intro _;rotate_left 1)
  |apply ax
  |(apply bw;kernel_rfl)
  |(apply dx;(first|(apply ab;apply Eq.refl)|(apply ae;apply Eq.refl;apply Eq.refl;apply Eq.refl));apply Eq.refl;first|(apply bB<;>apply Eq.refl)|(apply aW<;>apply Eq.refl)|(apply b6;apply Eq.refl)|(apply b7;apply Eq.refl)|(apply aN;intro _;(first|(apply aA<;>apply Eq.refl)|(apply aG<;>apply Eq.refl)|(apply aH<;>apply Eq.refl)|(apply aD<;>apply Eq.refl)|(apply aB<;>apply Eq.refl)|(apply aX<;>apply Eq.refl)|(apply cP<;>apply Eq.refl)|(apply ah<;>(first|apply Eq.refl|omega))|(apply ba<;>apply Eq.refl)|(apply bR<;>apply Eq.refl)|(apply bX<;>apply Eq.refl)|(apply cq<;>(first|apply Eq.refl|omega))|(apply aq<;>apply Eq.refl)|(apply aM<;>apply Eq.refl))))
  |(apply az;(first|(apply ab;apply Eq.refl)|(apply ae;apply Eq.refl;apply Eq.refl;apply Eq.refl));apply Eq.refl;apply Eq.refl;apply Eq.refl;exact(SU c (c.trucks.getD k default) (by omega) (by omega)))
  |(apply cM;apply Eq.refl;intro _;rotate_left 1;intro _;rotate_left 1)
  |(apply fq;apply Eq.refl;intro _;rotate_left 1;intro _;rotate_left 1))
  all_goals first
   |(refine eY rfl rfl (Jn hi (by omega) (by assumption));done)
   |(refine eY rfl rfl (JD hi (by omega));done)
   |(refine⟨k+1,FU hi (by omega) (by assumption),by omega,(by refine⟨?_, ?_, ?_⟩<;>repeat' (first|exact trivial|apply And.intro|apply Eq.refl))⟩;done)
   |skip
end Go.Proofs.YtafnhieaeejlcaaDoor
namespace Go.Proofs.YtafnhieaeejlcaaDoor
open Go Go.Ab
set_option maxRecDepth 100000
set_option maxHeartbeats 4000000
attribute [local irreducible] W WL eh kL fe ee gN WG FQ Want jE WI pE fR eA
def A7(len:Int)(hs:List Hold):Prop:=hs.length≤8∧∀k,k<hs.length→1≤(hs.getD k default).a∧(hs.getD k default).a≤len-1∧0≤(hs.getD k default).u∧(hs.getD k default).u≤10000
def eB(way len:Int)(gone m:Int):List Hold→Int
 |[]=>len
 |h::hs=>if br way len h.a≥gone∧h.u>m then br way len h.a else eB way len gone m hs
theorem GP{way len gone m:Int}{hs:List Hold}{k:Nat}(hi:eB way len gone m (hs.drop k)=eB way len gone m hs)(h:¬k<hs.length):len=eB way len gone m hs:=by
 rw[←hi,List.drop_eq_nil_of_le (by omega)];rfl
theorem Hw{way len gone m:Int}{hs:List Hold}{k:Nat}(hi:eB way len gone m (hs.drop k)=eB way len gone m hs)(h:k<hs.length)(h1:br way len (hs.getD k default).a≥gone)(h2:(hs.getD k default).u>m):
 br way len (hs.getD k default).a=eB way len gone m hs:=by
 rw[←hi,fg _ _ h,eB,if_pos ⟨h1,h2⟩]
theorem Eu{way len gone m:Int}{hs:List Hold}{k:Nat}(hi:eB way len gone m (hs.drop k)=eB way len gone m hs)(h:k<hs.length)(h1:¬(br way len (hs.getD k default).a≥gone∧(hs.getD k default).u>m)):
 eB way len gone m (hs.drop (k+1))=eB way len gone m hs:=by
 rw[←hi,fg _ _ h,eB,if_neg h1]
theorem Rf(c:Convoy)(t:Truck)(gone m:Int)(hl:1≤c.len)(hl2:c.len≤100000)(ho:A7 c.len t.holds):au cK 122 [.agg (aI c), .agg (bp t), .int .i64 gone, .int .i64 m] (.int .i64 (eB t.way c.len gone m t.holds)):=by
 refine bS (fn:=Tryd.f122) Tryd.func122 rfl (by kernel_rfl) rfl ?_ ?_ ?_
 ·exact af.cons (.agg _ (bm c)) (af.cons (.agg _ (dP t)) (af.cons (.int _ _) (af.cons (.int _ _) af.nil)))
 ·exact .int _ _
 intro w κ
 repeat' (first
  |(apply bU;apply Eq.refl;apply Eq.refl;(first|(apply aA<;>apply Eq.refl)|(apply aG<;>apply Eq.refl)|(apply aH<;>apply Eq.refl)|(apply aD<;>apply Eq.refl)|(apply aB<;>apply Eq.refl)|(apply aX<;>apply Eq.refl)|(apply di<;>apply Eq.refl)|(apply iN<;>apply Eq.refl)|(apply ah<;>(first|apply Eq.refl|omega))|(apply ba<;>apply Eq.refl)|(apply bR<;>apply Eq.refl)|(apply bX<;>apply Eq.refl)|(apply cq<;>(first|apply Eq.refl|omega))|(apply aq<;>apply Eq.refl)|(apply aM<;>apply Eq.refl)))
  |apply aZ
  |apply ak
  |apply an
  |apply aE
  |apply bn
  |apply cg
  |apply aF
  |apply cN
  |apply aw
  |apply aS
  |apply bf
  |apply aY
  |apply aR
  |(apply bD;apply Eq.refl)
  |(apply bZ;apply Eq.refl;(first|(apply aT<;>apply Eq.refl)))
  |apply ax
  |(apply bw;kernel_rfl)
  |(apply dx;(first|(apply ab;apply Eq.refl)|(apply ae;apply Eq.refl;apply Eq.refl;apply Eq.refl));apply Eq.refl;first|(apply bB<;>apply Eq.refl)|(apply aW<;>apply Eq.refl)|(apply b6;apply Eq.refl)|(apply b7;apply Eq.refl)|(apply aN;intro _;(first|(apply aA<;>apply Eq.refl)|(apply aG<;>apply Eq.refl)|(apply aH<;>apply Eq.refl)|(apply aD<;>apply Eq.refl)|(apply aB<;>apply Eq.refl)|(apply aX<;>apply Eq.refl)|(apply di<;>apply Eq.refl)|(apply iN<;>apply Eq.refl)|(apply ah<;>(first|apply Eq.refl|omega))|(apply ba<;>apply Eq.refl)|(apply bR<;>apply Eq.refl)|(apply bX<;>apply Eq.refl)|(apply cq<;>(first|apply Eq.refl|omega))|(apply aq<;>apply Eq.refl)|(apply aM<;>apply Eq.refl))))
  |(apply nJ;apply Eq.refl;apply Eq.refl;apply Eq.refl;apply Eq.refl;apply Eq.refl)
  |(apply xm;apply Eq.refl;apply Eq.refl;apply Eq.refl;intro _;rotate_left 1;intro _;rotate_left 1)
  |(apply cM;apply Eq.refl;intro _;rotate_left 1;intro _;rotate_left 1))
 refine jS (α:=Nat) (fun k=>[(2, .int .i64 gone),(3, .int .i64 m),(4, .bx 4 1 0),(5, .bx 5 1 0),(9, .int .i64 k)]) (fun _=>[(4,1),(5,1)])
  (fun _=>[(4, .box (aI c)),(5, .box (bp t))]) (fun k=>k≤t.holds.length∧eB t.way c.len gone m (t.holds.drop k)=eB t.way c.len gone m t.holds) (fun k=>t.holds.length-k) 0 ⟨Nat.zero_le _,rfl⟩ (by refine⟨?_, ?_, ?_⟩<;>repeat' (first|exact trivial|apply And.intro|apply Eq.refl)) (fun k h hi=> ?_)
 have hk:=hi.1
 have hl8:=ho.1
 have hb:∀hk' :(k:Int)<t.holds.length,1≤(t.holds.getD (k:Int).toNat default).a∧(t.holds.getD (k:Int).toNat default).a≤c.len-1:=fun h=>by
  have:=ho.2 k (by omega);simp only[Int.toNat_natCast];omega
 repeat' (first
  |(apply bU;apply Eq.refl;apply Eq.refl;(first|(apply aA<;>apply Eq.refl)|(apply aG<;>apply Eq.refl)|(apply aH<;>apply Eq.refl)|(apply aD<;>apply Eq.refl)|(apply aB<;>apply Eq.refl)|(apply aX<;>apply Eq.refl)|(apply di<;>apply Eq.refl)|(apply iN<;>apply Eq.refl)|(apply ah<;>(first|apply Eq.refl|omega))|(apply ba<;>apply Eq.refl)|(apply bR<;>apply Eq.refl)|(apply bX<;>apply Eq.refl)|(apply cq<;>(first|apply Eq.refl|omega))|(apply aq<;>apply Eq.refl)|(apply aM<;>apply Eq.refl)))
  |apply aZ
  |apply ak
  |apply an
  |apply aE
  |apply bn
  |apply cg
  |apply aF
  |apply cN
  |apply aw
  |apply aS
  |apply bf
  |apply aY
  |apply aR
  |(apply bD;apply Eq.refl)
  |(apply bZ;apply Eq.refl;(first|(apply aT<;>apply Eq.refl)))
  |apply ax
  |(apply bw;kernel_rfl)
  |(apply dx;(first|(apply ab;apply Eq.refl)|(apply ae;apply Eq.refl;apply Eq.refl;apply Eq.refl));apply Eq.refl;first|(apply bB<;>apply Eq.refl)|(apply aW<;>apply Eq.refl)|(apply b6;apply Eq.refl)|(apply b7;apply Eq.refl)|(apply aN;intro _;(first|(apply aA<;>apply Eq.refl)|(apply aG<;>apply Eq.refl)|(apply aH<;>apply Eq.refl)|(apply aD<;>apply Eq.refl)|(apply aB<;>apply Eq.refl)|(apply aX<;>apply Eq.refl)|(apply di<;>apply Eq.refl)|(apply iN<;>apply Eq.refl)|(apply ah<;>(first|apply Eq.refl|omega))|(apply ba<;>apply Eq.refl)|(apply bR<;>apply Eq.refl)|(apply bX<;>apply Eq.refl)|(apply cq<;>(first|apply Eq.refl|omega))|(apply aq<;>apply Eq.refl)|(apply aM<;>apply Eq.refl))))
  |(apply az;(first|(apply ab;apply Eq.refl)|(apply ae;apply Eq.refl;apply Eq.refl;apply Eq.refl));apply Eq.refl;apply Eq.refl;apply Eq.refl;exact(HC c t (t.holds.getD (k:Int).toNat default) (by have:=hb (by assumption);omega) (by have:=hb (by assumption);omega) (by omega) (by omega)))
  |(apply nJ;apply Eq.refl;apply Eq.refl;apply Eq.refl;apply Eq.refl;apply Eq.refl)
  |(apply xm;apply Eq.refl;apply Eq.refl;apply Eq.refl;intro _;rotate_left 1;intro _;rotate_left 1)
  |(apply cM;apply Eq.refl;intro _;rotate_left 1;intro _;rotate_left 1))
 all_goals try simp only[Int.toNat_natCast]at*
 all_goals first
  |(refine eY rfl rfl (Hw hi.2 (by omega) (by assumption) (by assumption));done)
  |(refine eY rfl rfl (GP hi.2 (by omega));done)
  |(refine⟨k+1,⟨by omega,Eu hi.2 (by omega) (by omega)⟩,by omega,(by refine⟨?_, ?_, ?_⟩<;>repeat' (first|exact trivial|apply And.intro|apply Eq.refl))⟩;done)
  |skip
def ix(t:Truck)(len gone m pace:Int):Int:=min (gone+pace) (eB t.way len gone m t.holds)
theorem LV(c:Convoy)(t:Truck)(gone m pace:Int)(hl:1≤c.len)(hl2:c.len≤100000)(ho:A7 c.len t.holds)(h0:0≤gone)(h1:gone≤100000)(h2:0≤pace)(h3:pace≤100000):
 au cK 111 [.agg (aI c), .agg (bp t), .int .i64 gone, .int .i64 m, .int .i64 pace] (.int .i64 (ix t c.len gone m pace)):=by
 refine bS (fn:=Tryd.f111) Tryd.func111 rfl (by kernel_rfl) rfl ?_ ?_ ?_
 ·exact af.cons (.agg _ (bm c)) (af.cons (.agg _ (dP t)) (af.cons (.int _ _) (af.cons (.int _ _) (af.cons (.int _ _) af.nil))))
 ·exact .int _ _
 intro w κ
 repeat' (first
  |(apply bU;apply Eq.refl;apply Eq.refl;(first|(apply aA<;>apply Eq.refl)|(apply aG<;>apply Eq.refl)|(apply ah<;>(first|apply Eq.refl|omega))|(apply aq<;>apply Eq.refl)|(apply j7<;>apply Eq.refl)))
  |apply aZ
  |apply ak
  |apply an
  |apply aE
  |apply aY
  |(apply ay;apply Eq.refl;apply Eq.refl;rotate_left 1;apply Eq.refl;rotate_right 1;exact(Rf c t gone m hl hl2 ho);apply Eq.refl)
  |(apply bZ;apply Eq.refl;(first|(apply aT<;>apply Eq.refl))))
 all_goals (refine eY rfl rfl ?_;rfl)
def bb(t:Truck)(b:Bool):Truck:=if b then{t with holds:=[]}else t
theorem zB(t:Truck)(b:Bool):au cK 73 [.agg (bp t), .bool b] (.agg (bp (bb t b))):=by
 refine bS (fn:=Tryd.f73) Tryd.func73 rfl (by kernel_rfl) rfl ?_ ?_ ?_
 ·exact af.cons (.agg _ (dP t)) (af.cons (.bool _) af.nil)
 ·exact .agg _ (dP _)
 intro w κ
 cases b
 ·repeat' (first
  |(apply bU;apply Eq.refl;apply Eq.refl;(first|(apply aD<;>apply Eq.refl)|(apply aX<;>apply Eq.refl)|(apply aq<;>apply Eq.refl)))
  |apply aZ
  |apply ak
  |apply an
  |apply aE
  |apply aS
  |apply aY
  |(apply bu;apply Eq.refl)
  |(apply bD;apply Eq.refl)
  |(apply bZ;apply Eq.refl;(first|(apply aT<;>apply Eq.refl)|(apply aO<;>apply Eq.refl)|(apply bM<;>apply Eq.refl))))
  all_goals (refine js rfl rfl rfl rfl rfl rfl rfl rfl ?_;rfl)
 ·repeat' (first
  |(refine qI (ze 2 (l' :=bp {t with holds:=[]}) rfl ⟨.inl rfl, .inl rfl, .inl rfl, .inl rfl, .inr ⟨rfl,_,_,rfl⟩,trivial⟩) ?_)
  |(apply bU;apply Eq.refl;apply Eq.refl;(first|(apply aD<;>apply Eq.refl)|(apply aX<;>apply Eq.refl)|(apply aq<;>apply Eq.refl)))
  |apply aZ
  |apply ak
  |apply an
  |apply aE
  |apply aS
  |apply aY
  |(apply bu;apply Eq.refl)
  |(apply bD;apply Eq.refl)
  |(apply bZ;apply Eq.refl;(first|(apply aT<;>apply Eq.refl)|(apply aO<;>apply Eq.refl)|(apply bM<;>apply Eq.refl))))
  all_goals (refine js rfl rfl rfl rfl rfl rfl rfl rfl ?_;rfl)
end Go.Proofs.YtafnhieaeejlcaaDoor
namespace Go.Proofs.YtafnhieaeejlcaaDoor
open Go Go.Ab
set_option maxRecDepth 100000
set_option maxHeartbeats 4000000
attribute [local irreducible] W WL eh kL fe ee gN WG FQ Want jE WI pE fR eA
def dz(t:Truck)(len pace:Int):Nat→Int
 |0=>0
 |k+1=>ix t len (dz t len pace k) (t.start+k) pace
def A8(f:Nat→Int)(len:Int):Nat→Nat→Nat
 |0,k=>k
 |n+1,k=>if f k=len then k else A8 f len n (k+1)
theorem MV{f:Nat→Int}{len:Int}{K:Nat}(hK:f K=len):∀(n k:Nat),k≤K→K≤k+n→(∀j,k≤j→j<A8 f len n k→f j≠len)∧f (A8 f len n k)=len∧k≤A8 f len n k∧A8 f len n k≤K:=by
 intro n
 induction n with
 |zero=>
  intro k h1 h2
  have:k=K:=by omega
  subst this
  exact⟨fun j a b=>by simp only[A8]at b;omega,hK,Nat.le_refl _,Nat.le_refl _⟩
 |succ n ih=>
  intro k h1 h2
  by_cases e:f k=len
  ·simp only[A8,if_pos e]
   exact⟨fun j a b=>by omega,e,Nat.le_refl _,h1⟩
  ·simp only[A8,if_neg e]
   have hne:k≠K:=by intro h;subst h;exact e hK
   obtain⟨a,b,c,d⟩:=ih (k+1) (by omega) (by omega)
   refine⟨fun j hj hj2=> ?_,b,by omega,d⟩
   by_cases ej:j=k
   ·subst ej;exact e
   ·exact a j (by omega) hj2
theorem vt{way len gone m:Int}{hs:List Hold}(h1:1≤len)(h:∀h∈hs,1≤h.a∧h.a≤len-1):1≤eB way len gone m hs∧eB way len gone m hs≤len:=by
 induction hs with
 |nil=>simp only[eB];omega
 |cons x hs ih=>
  have hx:=h x (List.mem_cons_self ..)
  have:=ih fun y hy=>h y (List.mem_cons_of_mem _ hy)
  simp only[eB]
  split
  ·simp only[br];split<;>omega
  ·exact this
theorem wY{way len gone m:Int}{hs:List Hold}(h:∀h∈hs,h.u≤m):eB way len gone m hs=len:=by
 induction hs with
 |nil=>rfl
 |cons x hs ih=>
  have hx:=h x (List.mem_cons_self ..)
  simp only[eB]
  rw[if_neg (by omega)]
  exact ih fun y hy=>h y (List.mem_cons_of_mem _ hy)
theorem Bf{α:Type}[Inhabited α]{l:List α}{x:α}(h:x∈l):∃k,k<l.length∧l.getD k default=x:=by
 obtain⟨k,hk,e⟩:=List.getElem_of_mem h
 exact⟨k,hk,by simp[List.getD,hk,e]⟩
theorem A7.mem{len:Int}{hs:List Hold}(h:A7 len hs):∀x∈hs,1≤x.a∧x.a≤len-1∧0≤x.u∧x.u≤10000:=fun x hx=>by
 obtain⟨k,hk,e⟩:=Bf hx
 exact e▸h.2 k hk
section
variable {t:Truck} {len pace:Int}
theorem dK(hl:1≤len)(ho:A7 len t.holds)(hp:1≤pace):∀k,0≤dz t len pace k∧dz t len pace k≤len
 |0=>⟨Int.le_refl 0,by simp only[dz];omega⟩
 |k+1=>by
  have h1:=dK hl ho hp k
  have h2:=vt (way:=t.way) (gone:=dz t len pace k) (m:=t.start+k) hl fun x hx=>⟨(ho.mem x hx).1,(ho.mem x hx).2.1⟩
  simp only[dz,ix]
  omega
theorem za(hs:0≤t.start)(hl:1≤len)(ho:A7 len t.holds)(hp:1≤pace):∀j:Nat,min ((j:Int)*pace) len≤dz t len pace (10000+j)
 |0=>by have:=(dK hl ho hp 10000).1;simp only[Nat.add_zero];omega
 |j+1=>by
  have h1:=za hs hl ho hp j
  have h2:=dK hl ho hp (10000+j)
  show _≤dz t len pace (10000+j+1)
  simp only[dz,ix]
  rw[wY fun x hx=>by have:=(ho.mem x hx).2.2.2;omega]
  have h3:((j+1:Nat):Int)*pace=j*pace+pace:=by push_cast;rw[Int.add_mul,Int.one_mul]
  rw[h3]
  omega
theorem Jh(hs:0≤t.start)(hl:1≤len)(ho:A7 len t.holds)(hp:1≤pace)(hd:len≤1000*pace):dz t len pace 11000=len:=by
 have h1:=za hs hl ho hp 1000
 have h2:=dK hl ho hp (10000+1000)
 have h3:dz t len pace (10000+1000)=len:=by omega
 exact h3
end
def cj(t:Truck)(len pace:Int):Nat:=A8 (dz t len pace) len 11000 0
def jO(c:Convoy)(t:Truck):Span:=⟨if cj t c.len t.hi≤cj t c.len t.lo then t.start+cj t c.len t.hi else -1,t.start+cj t c.len t.lo⟩
structure xS (c:Convoy) (t:Truck):Prop where
 l1:1≤c.len
 l2:c.len≤100000
 s1:0≤t.start
 s2:t.start≤10000
 p1:1≤t.lo
 p2:t.lo≤t.hi
 p3:t.hi≤1000
 d1:c.len≤1000*t.lo
 ho:A7 c.len t.holds
theorem lR{c:Convoy}{t:Truck}(h:xS c t){pace:Int}(hp:t.lo≤pace):dz t c.len pace (cj t c.len pace)=c.len∧(∀j,j<cj t c.len pace→dz t c.len pace j≠c.len)∧cj t c.len pace≤11000:=by
 have h1:=h.p1
 have h2:=h.d1
 have h0:dz t c.len pace 11000=c.len:=Jh h.s1 h.l1 h.ho (by omega) (by omega)
 obtain⟨a,b,_,d⟩:=MV h0 11000 0 (Nat.zero_le _) (by omega)
 exact⟨b,fun j hj=>a j (Nat.zero_le _) hj,d⟩
def Fo(c:Convoy)(t:Truck)(k:Nat):Int:=if cj t c.len t.hi<k then t.start+cj t c.len t.hi else -1
def hH(t:Truck)(len pace:Int)(k:Nat):Int:=dz t len pace (k-1)
theorem F9(t:Truck)(len pace:Int)(k:Nat):hH t len pace k=dz t len pace (k-1):=rfl
theorem G3(t:Truck)(len pace:Int):hH t len pace 0=0:=rfl
theorem yu{t:Truck}{len pace:Int}{k:Nat}(h:0<k):hH t len pace (k+1)=ix t len (hH t len pace k) (t.start+k-1) pace:=by
 obtain⟨j,rfl⟩:∃j,k=j+1:=⟨k-1,by omega⟩
 show dz t len pace (j+1)=ix t len (dz t len pace j) _ pace
 rw[show t.start+((j+1:Nat):Int)-1=t.start+j by omega];rfl
def DF(c:Convoy)(t:Truck)(x:Nat×Int):Prop:=(x.2= -1∧x.1≤cj t c.len t.lo)∨(x.1=cj t c.len t.lo+1∧x.2=t.start+cj t c.len t.lo)
theorem pd(t:Truck)(len pace:Int)(k:Nat):hH t len pace (k+1)=dz t len pace k:=rfl
theorem Fe(t:Truck)(len pace:Int):hH t len pace 0=hH t len pace (0+1):=rfl
theorem NZ(c:Convoy)(t:Truck)(k:Nat):Fo c t k=if cj t c.len t.hi<k then t.start+cj t c.len t.hi else -1:=rfl
theorem Kq(c:Convoy)(t:Truck):Fo c t (cj t c.len t.lo+1)=(jO c t).lo:=by
 simp only[Fo,jO,Nat.lt_succ_iff]
theorem PF{x:Ab.Own}{k1 k2:IntKind}{a b a' b' :Int}(h:x= .box [.int k1 a, .int k2 b])(e1:a=a')(e2:b=b'):x= .box [.int k1 a', .int k2 b']:=by rw[h,e1,e2]
theorem Ie(c:Convoy)(t:Truck):Fo c t 0= -1:=rfl
attribute [local irreducible] hH Fo cj dz ix eB
theorem J2(c:Convoy)(t:Truck)(h:xS c t):au cK 110 [.agg (aI c), .agg (bp t)] (.agg (bA (jO c t))):=by
 refine bS (fn:=Tryd.f110) Tryd.func110 rfl (by kernel_rfl) rfl ?_ ?_ ?_
 ·exact af.cons (.agg _ (bm c)) (af.cons (.agg _ (dP t)) af.nil)
 ·exact .agg _ (cL _)
 intro w κ
 obtain⟨l1,l2,s1,s2,p1,p2,p3,d1,ho⟩:=h
 have h:xS c t:=⟨l1,l2,s1,s2,p1,p2,p3,d1,ho⟩
 obtain⟨e1,e2,e3⟩:=lR h (Int.le_refl t.lo)
 obtain⟨f1,f2,f3⟩:=lR h p2
 have bnd:=fun k=>dK (t:=t) (pace:=t.lo) l1 ho p1 k
 have bnd2:=fun k=>dK (t:=t) (pace:=t.hi) l1 ho (by omega) k
 repeat' (first
  |(apply bU;apply Eq.refl;apply Eq.refl;(first|(apply aA<;>apply Eq.refl)|(apply aG<;>apply Eq.refl)|(apply aH<;>apply Eq.refl)|(apply aD<;>apply Eq.refl)|(apply aB<;>apply Eq.refl)|(apply aX<;>apply Eq.refl)|(apply ah<;>(first|apply Eq.refl|omega))|(apply bR<;>apply Eq.refl)|(apply bX<;>apply Eq.refl)|(apply aq<;>apply Eq.refl)|(apply bJ<;>apply Eq.refl)))
  |apply aZ
  |apply ak
  |apply an
  |apply aE
  |apply bn
  |apply aF
  |apply aw
  |apply aS
  |apply bf
  |apply aY
  |apply aR
  |(apply bD;apply Eq.refl)
  |(apply bZ;apply Eq.refl;(first|(apply aT<;>apply Eq.refl)|(apply aO<;>apply Eq.refl)|(apply bM<;>apply Eq.refl)))
  |(apply dg;apply Eq.refl;apply Eq.refl;apply Eq.refl)
  |(apply eo;apply Eq.refl;apply Eq.refl;apply Eq.refl;apply Eq.refl;apply Eq.refl)
  |(apply xp;apply Eq.refl;apply Eq.refl;apply Eq.refl;intro _;rotate_left 1;intro _;rotate_left 1)
  |apply ax
  |(apply bw;kernel_rfl)
  |(apply dx;(first|(apply ab;apply Eq.refl)|(apply ae;apply Eq.refl;apply Eq.refl;apply Eq.refl));apply Eq.refl;first|(apply bB<;>apply Eq.refl)|(apply aW<;>apply Eq.refl)|(apply b6;apply Eq.refl)|(apply b7;apply Eq.refl)|(apply aN;intro _;(first|(apply aA<;>apply Eq.refl)|(apply aG<;>apply Eq.refl)|(apply aH<;>apply Eq.refl)|(apply aD<;>apply Eq.refl)|(apply aB<;>apply Eq.refl)|(apply aX<;>apply Eq.refl)|(apply ah<;>(first|apply Eq.refl|omega))|(apply bR<;>apply Eq.refl)|(apply bX<;>apply Eq.refl)|(apply aq<;>apply Eq.refl)|(apply bJ<;>apply Eq.refl))))
  |(apply fj;(first|(apply ab;apply Eq.refl)|(apply ae;apply Eq.refl;apply Eq.refl;apply Eq.refl));(first|(apply dT<;>apply Eq.refl)))
  |(apply cM;apply Eq.refl;intro _;rotate_left 1;intro _;rotate_left 1))
 refine jS (α:=Nat×Int) (fun x=>[(2, .bx 2 1 0),(3, .bx 3 1 0),(4, .bx 4 1 0),(5, .bx 5 1 0),(6, .bx 6 1 0),(7, .int .i64 (t.start+x.1))]) (fun _=>[(2,1),(3,1),(4,1),(5,1),(6,1)])
  (fun x=>[(2, .box (aI c)),(3, .box (bp t)),(4, .box [.int .i64 0, .int .i64 0]),(5, .box [.int .i64 (Fo c t x.1), .int .i64 x.2]),(6, .box [.int .i64 (hH t c.len t.lo x.1), .int .i64 (hH t c.len t.hi x.1)])])
  (DF c t) (fun x=>if x.2<0 then 20000-x.1 else 0) (0, -1) (.inl ⟨rfl,Nat.zero_le _⟩) (by refine⟨?_, ?_, ?_⟩<;>repeat' (first|exact trivial|apply And.intro|apply Eq.refl|(refine gv rfl ?_;omega)|(refine gL rfl ?_;simp only[G3,Ie]))) (fun x h hi=> ?_)
 have hP1:0≤hH t c.len t.lo x.1∧hH t c.len t.lo x.1≤c.len:=by rw[F9];exact bnd _
 have hP2:0≤hH t c.len t.hi x.1∧hH t c.len t.hi x.1≤c.len:=by rw[F9];exact bnd2 _
 have hb:x.2<0→x.2= -1∧x.1≤cj t c.len t.lo:=fun h=>by rcases hi with⟨a,b⟩|⟨a,b⟩<;>omega
 have hb2:¬x.2<0→x.1=cj t c.len t.lo+1∧x.2=t.start+cj t c.len t.lo:=fun h=>by rcases hi with⟨a,b⟩|⟨a,b⟩<;>omega
 have hk1:x.1≤11001:=by rcases hi with⟨a,b⟩|⟨a,b⟩<;>omega
 have C1:0<x.1→au cK 111 [.agg (aI c), .agg (bp t), .int .i64 (hH t c.len t.lo x.1), .int .i64 (t.start+x.1-1), .int .i64 t.lo] (.int .i64 (hH t c.len t.lo (x.1+1))):=fun h=>by
  rw[yu h];exact LV c t _ _ _ l1 l2 ho (by omega) (by omega) (by omega) (by omega)
 have C2:0<x.1→au cK 111 [.agg (aI c), .agg (bp t), .int .i64 (hH t c.len t.hi x.1), .int .i64 (t.start+x.1-1), .int .i64 t.hi] (.int .i64 (hH t c.len t.hi (x.1+1))):=fun h=>by
  rw[yu h];exact LV c t _ _ _ l1 l2 ho (by omega) (by omega) (by omega) (by omega)
 have hlo:∀k,Fo c t k=if cj t c.len t.hi<k then t.start+cj t c.len t.hi else -1:=fun k=>by rw[NZ]
 have hlo0:=hlo x.1
 have hlo1:=hlo (x.1+1)
 have hZ:x.1=0→hH t c.len t.lo x.1=hH t c.len t.lo (x.1+1)∧hH t c.len t.hi x.1=hH t c.len t.hi (x.1+1):=fun h=>by rw[h];exact⟨Fe _ _ _,Fe _ _ _⟩
 have hn1:x.1<cj t c.len t.lo→hH t c.len t.lo (x.1+1)≠c.len:=fun h=>by rw[pd];exact e2 _ h
 have hn2:x.1<cj t c.len t.hi→hH t c.len t.hi (x.1+1)≠c.len:=fun h=>by rw[pd];exact f2 _ h
 have hq1:x.1=cj t c.len t.lo→hH t c.len t.lo (x.1+1)=c.len:=fun h=>by rw[pd,h];exact e1
 have hq2:x.1=cj t c.len t.hi→hH t c.len t.hi (x.1+1)=c.len:=fun h=>by rw[pd,h];exact f1
 have hA:hH t c.len t.hi (x.1+1)=c.len→Fo c t x.1<0→t.start+x.1=Fo c t (x.1+1):=fun h1 h2=>by split at hlo0<;>split at hlo1<;>omega
 have hB:hH t c.len t.hi (x.1+1)≠c.len→Fo c t x.1=Fo c t (x.1+1):=fun h1=>by split at hlo0<;>split at hlo1<;>omega
 have hC:¬Fo c t x.1<0→Fo c t x.1=Fo c t (x.1+1):=fun h1=>by split at hlo0<;>split at hlo1<;>omega
 have hE:x.2<0→hH t c.len t.lo (x.1+1)=c.len→DF c t (x.1+1,t.start+x.1)∧(if t.start+(x.1:Int)<0 then 20000-(x.1+1)else 0)<(if x.2<0 then 20000-x.1 else 0):=fun h1 h2=>by
  have:=hb h1
  have h3:x.1=cj t c.len t.lo:=by omega
  refine⟨.inr ⟨by simp only;omega,by simp only;omega⟩, ?_⟩
  rw[if_neg (by omega),if_pos h1];omega
 have hF:x.2<0→hH t c.len t.lo (x.1+1)≠c.len→DF c t (x.1+1,x.2)∧(if x.2<0 then 20000-(x.1+1)else 0)<(if x.2<0 then 20000-x.1 else 0):=fun h1 h2=>by
  have:=hb h1
  have h3:x.1<cj t c.len t.lo:=by omega
  refine⟨.inl ⟨by simp only;omega,by simp only;omega⟩, ?_⟩
  rw[if_pos h1,if_pos h1];omega
 clear hlo hlo0 hlo1 hn1 hn2 hq1 hq2
 repeat' (first
  |(apply bU;apply Eq.refl;apply Eq.refl;(first|(apply aA<;>apply Eq.refl)|(apply aG<;>apply Eq.refl)|(apply aH<;>apply Eq.refl)|(apply aD<;>apply Eq.refl)|(apply aB<;>apply Eq.refl)|(apply aX<;>apply Eq.refl)|(apply ah<;>(first|apply Eq.refl|omega))|(apply bR<;>apply Eq.refl)|(apply bX<;>apply Eq.refl)|(apply aq<;>apply Eq.refl)|(apply bJ<;>apply Eq.refl)))
  |apply aZ
  |apply ak
  |apply an
  |apply aE
  |apply bn
  |apply aF
  |apply aw
  |apply aS
  |apply bf
  |apply aY
  |apply aR
  |(apply bD;apply Eq.refl)
  |(apply bZ;apply Eq.refl;(first|(apply aT<;>apply Eq.refl)|(apply aO<;>apply Eq.refl)|(apply bM<;>apply Eq.refl)))
  |(apply dg;apply Eq.refl;apply Eq.refl;apply Eq.refl)
  |(apply eo;apply Eq.refl;apply Eq.refl;apply Eq.refl;apply Eq.refl;apply Eq.refl)
  |(apply xp;apply Eq.refl;apply Eq.refl;apply Eq.refl;intro _;rotate_left 1;intro _;rotate_left 1)
  |apply ax
  |(apply bw;kernel_rfl)
  |(apply dx;(first|(apply ab;apply Eq.refl)|(apply ae;apply Eq.refl;apply Eq.refl;apply Eq.refl));apply Eq.refl;first|(apply bB<;>apply Eq.refl)|(apply aW<;>apply Eq.refl)|(apply b6;apply Eq.refl)|(apply b7;apply Eq.refl)|(apply aN;intro _;(first|(apply aA<;>apply Eq.refl)|(apply aG<;>apply Eq.refl)|(apply aH<;>apply Eq.refl)|(apply aD<;>apply Eq.refl)|(apply aB<;>apply Eq.refl)|(apply aX<;>apply Eq.refl)|(apply ah<;>(first|apply Eq.refl|omega))|(apply bR<;>apply Eq.refl)|(apply bX<;>apply Eq.refl)|(apply aq<;>apply Eq.refl)|(apply bJ<;>apply Eq.refl))))
  |(apply az;(first|(apply ab;apply Eq.refl)|(apply ae;apply Eq.refl;apply Eq.refl;apply Eq.refl));apply Eq.refl;apply Eq.refl;apply Eq.refl;exact(C1 (by omega)))
  |(apply az;(first|(apply ab;apply Eq.refl)|(apply ae;apply Eq.refl;apply Eq.refl;apply Eq.refl));apply Eq.refl;apply Eq.refl;apply Eq.refl;exact(C2 (by omega)))
  |(apply fj;(first|(apply ab;apply Eq.refl)|(apply ae;apply Eq.refl;apply Eq.refl;apply Eq.refl));(first|(apply dT<;>apply Eq.refl)))
  |(apply cM;apply Eq.refl;intro _;rotate_left 1;intro _;rotate_left 1))
 all_goals first
  |(have G:=hE (by assumption) (by first|assumption|(have:=hZ (by omega);omega));refine⟨(x.1+1,t.start+x.1),G.1,G.2, ?_⟩;(refine⟨?_, ?_, ?_⟩<;>repeat' (first|exact trivial|apply And.intro|apply Eq.refl|(refine gv rfl ?_;omega)|(refine PF rfl ?_ ?_<;>first|omega|exact hA (by first|assumption|(have:=hZ (by omega);omega)) (by assumption)|exact hC (by assumption)|exact hB (by first|assumption|(have:=hZ (by omega);omega))|exact(hZ (by omega)).1|exact(hZ (by omega)).2)));done)
  |(have G:=hF (by assumption) (by first|assumption|(have:=hZ (by omega);omega));refine⟨(x.1+1,x.2),G.1,G.2, ?_⟩;(refine⟨?_, ?_, ?_⟩<;>repeat' (first|exact trivial|apply And.intro|apply Eq.refl|(refine gv rfl ?_;omega)|(refine PF rfl ?_ ?_<;>first|omega|exact hA (by first|assumption|(have:=hZ (by omega);omega)) (by assumption)|exact hC (by assumption)|exact hB (by first|assumption|(have:=hZ (by omega);omega))|exact(hZ (by omega)).1|exact(hZ (by omega)).2)));done)
  |skip
 all_goals (have G:=hb2 (by assumption);refine js rfl rfl rfl rfl rfl rfl rfl rfl ?_;rw[G.1,G.2,Kq];rfl)
end Go.Proofs.YtafnhieaeejlcaaDoor
