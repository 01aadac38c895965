/- Walks by computing: what each function of the program that the laws reach gives for what it gets, as plain Lean, and that it is so; without a condition but those that stand in each theorem. -/
import Derived.Test.YtafnhieaeejlcaaDoorW1
import Derived.Test.YtafnhieaeejlcaaDoorW2
import Derived.Test.YtafnhieaeejlcaaDoorW3
import Derived.Test.YtafnhieaeejlcaaDoorW4
import Derived.Test.YtafnhieaeejlcaaDoorW5
import Derived.Test.YtafnhieaeejlcaaDoorW6
import Derived.Test.YtafnhieaeejlcaaDoorW7
import Derived.Test.YtafnhieaeejlcaaDoorW8
set_option linter.all false
namespace Go.Proofs.YtafnhieaeejlcaaDoor
open Go Go.Ab
structure Hold where
 a:Int
 u:Int
 deriving DecidableEq
instance:Inhabited Hold:=⟨⟨0,0⟩⟩
structure Span where
 lo:Int
 hi:Int
 deriving DecidableEq
instance:Inhabited Span:=⟨⟨0,0⟩⟩
structure Truck where
 way:Int
 start:Int
 lo:Int
 hi:Int
 holds:List Hold
 deriving DecidableEq
instance:Inhabited Truck:=⟨⟨0,0,0,0,[]⟩⟩
structure Convoy where
 len:Int
 gap:Int
 fails:Int
 trucks:List Truck
 deriving DecidableEq
instance:Inhabited Convoy:=⟨⟨0,0,0,[]⟩⟩
def fY(h:Hold):List D:=[.int .i64 h.a, .int .i64 h.u]
def bC(h:Span):List D:=[.int .i64 h.lo, .int .i64 h.hi]
def bA(t:Truck):List D:=[.int .i64 t.way, .int .i64 t.start, .int .i64 t.lo, .int .i64 t.hi,oo 2 fY t.holds]
def aL(c:Convoy):List D:=[.int .i64 c.len, .int .i64 c.gap, .int .i64 c.fails,oo 5 bA c.trucks]
theorem zP(h:Hold):af (fY h):=af.cons (.int _ _) (af.cons (.int _ _) af.nil)
theorem cN(h:Span):af (bC h):=af.cons (.int _ _) (af.cons (.int _ _) af.nil)
theorem dN(t:Truck):af (bA t):=af.cons (.int _ _) (af.cons (.int _ _) (af.cons (.int _ _) (af.cons (.int _ _) (af.cons (zx zP) af.nil))))
theorem bn(c:Convoy):af (aL c):=af.cons (.int _ _) (af.cons (.int _ _) (af.cons (.int _ _) (af.cons (zx dN) af.nil)))
def fy(t:Truck)(len:Int):List D:=bA t++[.int .i64 len]
theorem gZ(t:Truck)(len:Int):af (fy t len):=fun d hd=>by
 rcases List.mem_append.1 hd with h|h
 ·exact dN t d h
 ·simp at h;subst h;exact .int _ _
end Go.Proofs.YtafnhieaeejlcaaDoor
namespace Go.Proofs.YtafnhieaeejlcaaDoor
open Go Go.Ab
set_option maxRecDepth 100000
set_option maxHeartbeats 4000000
attribute [local irreducible] W WL eu kX fh eo gR WG FQ Want jO WI pM fQ eC
theorem Qo(a b c:Int):au cJ 64 [.int .i64 a, .int .i64 b, .int .i64 c] (.bool (decide (b≤a∧a≤c))):=by
 refine bS (fn:=Tryd.f64) Tryd.func64 rfl (by kernel_rfl) rfl ?_ ?_ ?_
 ·repeat' first|exact af.nil|refine af.cons (.int _ _) ?_
 ·exact .bool _
 intro w κ
 repeat' (first
  |(apply bT;apply TK;apply TK;(first|(apply aB<;>apply TK)|(apply aC<;>apply TK)|(apply aX<;>apply TK)|(apply bm<;>apply TK)|(apply bR<;>apply TK)|(apply bY<;>apply TK)))
  |apply ba
  |apply al
  |apply an
  |apply aG
  |apply aZ
  |(apply dg;apply TK;apply TK;apply TK)
  |(apply eA;apply TK;apply TK;apply TK;apply TK;apply TK)
  |(apply xK;apply TK;apply TK;apply TK;intro _;rotate_left 1;intro _;rotate_left 1))
 all_goals (refine iE rfl rfl ?_;simp;try omega)
def bc(way len m:Int):Int:=if way=2 then len-m else m
theorem JA(t:Truck)(len m:Int)(h0: -2305843009213693952≤m)(h1:m≤2305843009213693952)(h2: -2305843009213693952≤len)(h3:len≤2305843009213693952):
 au cJ 107 [.agg (fy t len), .int .i64 m] (.int .i64 (bc t.way len m)):=by
 refine bS (fn:=Tryd.f107) Tryd.func107 rfl (by kernel_rfl) rfl ?_ ?_ ?_
 ·exact af.cons (.agg _ (gZ t len)) (af.cons (.int _ _) af.nil)
 ·exact .int _ _
 intro w κ
 repeat' (first
  |(apply bT;apply TK;apply TK;(first|(apply aB<;>apply TK)|(apply aI<;>apply TK)|(apply aH<;>apply TK)|(apply aE<;>apply TK)|(apply aC<;>apply TK)|(apply ah<;>(first|apply TK|omega))))
  |apply ba
  |apply al
  |apply an
  |apply aG
  |apply ck
  |apply aS
  |apply aZ
  |(apply bZ;apply TK;(first|(apply aR<;>apply TK)))
  |(apply cM;apply TK;intro _;rotate_left 1;intro _;rotate_left 1))
 all_goals (refine fb rfl rfl ?_;simp_all [bc])
def cz(way len:Int):Option Int→List Hold→Int
 |_,[]=>0
 |p,h::hs=>if¬(1≤h.a∧h.a≤len-1)∨¬(0≤h.u∧h.u≤10000)then 2 else
  match p with
  |some q=>if bc way len h.a≤q then 11 else cz way len (some (bc way len h.a)) hs
  |none=>cz way len (some (bc way len h.a)) hs
def bD(c:Convoy)(t:Truck):Int:=
 if¬(1≤t.way∧t.way≤2)then 4
 else if¬(0≤t.start∧t.start≤10000)∨¬(1≤t.lo∧t.lo≤1000)∨¬(1≤t.hi∧t.hi≤1000)then 2
 else if t.lo>t.hi then 11
 else if c.len>1000*t.lo then 13
 else if c.gap<2*t.hi then 12
 else if t.holds.length>8 then 8
 else cz t.way c.len none t.holds
theorem eL(way len:Int)(p:Option Int)(h:Hold)(hs:List Hold):cz way len p (h::hs)=if¬(1≤h.a∧h.a≤len-1)∨¬(0≤h.u∧h.u≤10000)then 2 else
 match p with
 |some q=>if bc way len h.a≤q then 11 else cz way len (some (bc way len h.a)) hs
 |none=>cz way len (some (bc way len h.a)) hs:=by cases p<;>rfl
theorem fo{α:Type}[Inhabited α](l:List α)(k:Nat)(h:k<l.length):l.drop k=l.getD k default::l.drop (k+1):=by
 rw[List.drop_eq_getElem_cons h];simp[List.getD,h]
def sa(way len:Int)(hs:List Hold)(k:Nat):Option Int:=if k=0 then none else some (bc way len (hs.getD (k-1) default).a)
def oX(way len:Int)(hs:List Hold)(k:Nat):Prop:=k≤hs.length∧cz way len (sa way len hs k) (hs.drop k)=cz way len none hs∧
 (0<k→1≤(hs.getD (k-1) default).a∧(hs.getD (k-1) default).a≤len-1)
theorem ud(way len:Int)(hs:List Hold):oX way len hs 0:=⟨Nat.zero_le _,by simp[sa],fun h=>by omega⟩
section
variable {way len:Int} {hs:List Hold} {k:Nat}
theorem Fh(hi:oX way len hs k)(h:¬k<hs.length):0=cz way len none hs:=by
 obtain⟨h1,h2,_⟩:=hi
 rw[List.drop_eq_nil_of_le (by omega)]at h2
 simpa[cz]using h2
theorem Mt(hi:oX way len hs k)(h:k<hs.length)(hb:¬(1≤(hs.getD k default).a∧(hs.getD k default).a≤len-1)∨¬(0≤(hs.getD k default).u∧(hs.getD k default).u≤10000)):2=cz way len none hs:=by
 obtain⟨h1,h2,_⟩:=hi
 rw[fo _ _ h]at h2
 rw[eL]at h2
 rw[if_pos hb]at h2
 exact h2
theorem JT(hi:oX way len hs k)(h:k<hs.length)(ha:1≤(hs.getD k default).a∧(hs.getD k default).a≤len-1)(hu:0≤(hs.getD k default).u∧(hs.getD k default).u≤10000)(h0:0<k)
 (hle:bc way len (hs.getD k default).a≤bc way len (hs.getD (k-1) default).a):11=cz way len none hs:=by
 obtain⟨h1,h2,_⟩:=hi
 rw[fo _ _ h]at h2
 rw[eL]at h2
 rw[if_neg (by simp only[not_or,Classical.not_not];exact⟨ha,hu⟩)]at h2
 simp only[sa,if_neg (show¬k=0 by omega)]at h2
 rw[if_pos hle]at h2
 exact h2
theorem CA(hi:oX way len hs k)(h:k<hs.length)(ha:1≤(hs.getD k default).a∧(hs.getD k default).a≤len-1)(hu:0≤(hs.getD k default).u∧(hs.getD k default).u≤10000)
 (hle:0<k→¬bc way len (hs.getD k default).a≤bc way len (hs.getD (k-1) default).a):oX way len hs (k+1):=by
 obtain⟨h1,h2,_⟩:=hi
 rw[fo _ _ h]at h2
 rw[eL]at h2
 rw[if_neg (by simp only[not_or,Classical.not_not];exact⟨ha,hu⟩)]at h2
 refine⟨h, ?_,fun _=>by simpa using ha⟩
 rw[←h2]
 by_cases e:k=0
 ·subst e;simp[sa]
 ·simp only[sa,if_neg e,if_neg (hle (by omega))];simp
end
theorem SY(c:Convoy)(t:Truck)(hl:1≤c.len)(hl2:c.len≤100000):au cJ 65 [.agg (aL c), .agg (bA t)] (.int .i64 (bD c t)):=by
 refine bS (fn:=Tryd.f65) Tryd.func65 rfl (by kernel_rfl) rfl ?_ ?_ ?_
 ·exact af.cons (.agg _ (bn c)) (af.cons (.agg _ (dN t)) af.nil)
 ·exact .int _ _
 intro w κ
 repeat' (first
  |(apply bT;apply TK;apply TK;(first|(apply aB<;>apply TK)|(apply aI<;>apply TK)|(apply aH<;>apply TK)|(apply aE<;>apply TK)|(apply aC<;>apply TK)|(apply aX<;>apply TK)|(apply bm<;>apply TK)|(apply cR<;>apply TK)|(apply di<;>apply TK)|(apply iP<;>apply TK)|(apply ah<;>(first|apply TK|omega))|(apply bd<;>apply TK)|(apply bR<;>apply TK)|(apply bY<;>apply TK)|(apply cq<;>(first|apply TK|omega))|(apply aq<;>apply TK)|(apply aN<;>apply TK)|(apply bK<;>apply TK)))
  |apply ba
  |apply al
  |apply an
  |apply aG
  |apply bp
  |apply ck
  |apply aF
  |apply cP
  |apply aw
  |apply aS
  |apply bk
  |apply aZ
  |apply aQ
  |(apply bu;apply TK)
  |(apply bF;apply TK)
  |(apply aA;apply TK;apply TK;rotate_left 1;apply TK;rotate_right 1;exact(Qo _ _ _);apply TK)
  |(apply bZ;apply TK;(first|(apply aR<;>apply TK)|(apply aP<;>apply TK)|(apply bP<;>apply TK)))
  |(apply dg;apply TK;apply TK;apply TK)
  |(apply eA;apply TK;apply TK;apply TK;apply TK;apply TK)
  |(apply oG;apply TK;apply TK;apply TK;intro _;rotate_left 1;intro _;rotate_left 1)
  |apply ay
  |(apply bw;kernel_rfl)
  |(apply dx;(first|(apply ab;apply TK)|(apply ae;apply TK;apply TK;apply TK));apply TK;first|(apply bB<;>apply TK)|(apply aV<;>apply TK)|(apply b8;apply TK)|(apply b7;apply TK)|(apply aO;intro _;(first|(apply aB<;>apply TK)|(apply aI<;>apply TK)|(apply aH<;>apply TK)|(apply aE<;>apply TK)|(apply aC<;>apply TK)|(apply aX<;>apply TK)|(apply bm<;>apply TK)|(apply cR<;>apply TK)|(apply di<;>apply TK)|(apply iP<;>apply TK)|(apply ah<;>(first|apply TK|omega))|(apply bd<;>apply TK)|(apply bR<;>apply TK)|(apply bY<;>apply TK)|(apply cq<;>(first|apply TK|omega))|(apply aq<;>apply TK)|(apply aN<;>apply TK)|(apply bK<;>apply TK))))
  |(apply az;(first|(apply ab;apply TK)|(apply ae;apply TK;apply TK;apply TK));apply TK;apply TK;apply TK;exact(Qo _ _ _))
  |(apply od;apply TK;apply TK;apply TK;apply TK;apply TK)
  |(apply vi;apply TK;apply TK;apply TK;intro _;rotate_left 1;intro _;rotate_left 1)
  |(apply cM;apply TK;intro _;rotate_left 1;intro _;rotate_left 1)
  |(apply fq;apply TK;intro _;rotate_left 1;intro _;rotate_left 1))
 all_goals try (refine fb rfl rfl ?_;simp[bD];omega)
 rename_i h1 h2 h3 h4 h5 h6 h7 h8
 have hspec:bD c t=cz t.way c.len none t.holds:=by simp[bD];omega
 rw[hspec]
 clear hspec
 refine jV (α:=Nat) (fun k=>[(2, .bx 2 1 0),(3, .bx 3 1 0),(5, .bx 5 1 0),(66,oo 2 fY t.holds),(67, .int .i64 t.holds.length),(68, .int .i64 k)]) (fun _=>[(2,1),(3,1),(5,1)])
  (fun _=>[(2, .box (aL c)),(3, .box (bA t)),(5, .box (fy t c.len))]) (oX t.way c.len t.holds) (fun k=>t.holds.length-k) 0 (ud _ _ _) (by refine⟨?_, ?_, ?_⟩<;>repeat' (first|exact trivial|apply And.intro|apply TK)) (fun k h hi=> ?_)
 have hk:=hi.1
 have hp:=hi.2.2
 have e1:0<k→((k:Int)-1).toNat=k-1:=fun h=>by omega
 have hp' :0<k→1≤(t.holds.getD ((k:Int)-1).toNat default).a∧(t.holds.getD ((k:Int)-1).toNat default).a≤c.len-1:=fun h=>by rw[e1 h];exact hp h
 repeat' (first
  |(apply bT;apply TK;apply TK;(first|(apply aB<;>apply TK)|(apply aI<;>apply TK)|(apply aH<;>apply TK)|(apply aE<;>apply TK)|(apply aC<;>apply TK)|(apply aX<;>apply TK)|(apply bm<;>apply TK)|(apply cR<;>apply TK)|(apply di<;>apply TK)|(apply iP<;>apply TK)|(apply ah<;>(first|apply TK|omega))|(apply bd<;>apply TK)|(apply bR<;>apply TK)|(apply bY<;>apply TK)|(apply cq<;>(first|apply TK|omega))|(apply aq<;>apply TK)|(apply aN<;>apply TK)|(apply bK<;>apply TK)))
  |apply ba
  |apply al
  |apply an
  |apply aG
  |apply bp
  |apply ck
  |apply aF
  |apply cP
  |apply aw
  |apply aS
  |apply bk
  |apply aZ
  |apply aQ
  |(apply bu;apply TK)
  |(apply bF;apply TK)
  |(apply aA;apply TK;apply TK;rotate_left 1;apply TK;rotate_right 1;exact(Qo _ _ _);apply TK)
  |(apply aA;apply TK;apply TK;rotate_left 1;apply TK;rotate_right 1;exact(JA _ _ _ (by omega) (by omega) (by omega) (by omega));apply TK)
  |(apply bZ;apply TK;(first|(apply aR<;>apply TK)|(apply aP<;>apply TK)|(apply bP<;>apply TK)))
  |(apply dg;apply TK;apply TK;apply TK)
  |(apply eA;apply TK;apply TK;apply TK;apply TK;apply TK)
  |(apply oG;apply TK;apply TK;apply TK;intro _;rotate_left 1;intro _;rotate_left 1)
  |apply ay
  |(apply bw;kernel_rfl)
  |(apply dx;(first|(apply ab;apply TK)|(apply ae;apply TK;apply TK;apply TK));apply TK;first|(apply bB<;>apply TK)|(apply aV<;>apply TK)|(apply b8;apply TK)|(apply b7;apply TK)|(apply aO;intro _;(first|(apply aB<;>apply TK)|(apply aI<;>apply TK)|(apply aH<;>apply TK)|(apply aE<;>apply TK)|(apply aC<;>apply TK)|(apply aX<;>apply TK)|(apply bm<;>apply TK)|(apply cR<;>apply TK)|(apply di<;>apply TK)|(apply iP<;>apply TK)|(apply ah<;>(first|apply TK|omega))|(apply bd<;>apply TK)|(apply bR<;>apply TK)|(apply bY<;>apply TK)|(apply cq<;>(first|apply TK|omega))|(apply aq<;>apply TK)|(apply aN<;>apply TK)|(apply bK<;>apply TK))))
  |(apply az;(first|(apply ab;apply TK)|(apply ae;apply TK;apply TK;apply TK));apply TK;apply TK;apply TK;exact(Qo _ _ _))
  |(apply az;(first|(apply ab;apply TK)|(apply ae;apply TK;apply TK;apply TK));apply TK;apply TK;apply TK;exact(JA _ _ _ (by omega) (by omega) (by omega) (by omega)))
  |(apply od;apply TK;apply TK;apply TK;apply TK;apply TK)
  |(apply vi;apply TK;apply TK;apply TK;intro _;rotate_left 1;intro _;rotate_left 1)
  |(apply cM;apply TK;intro _;rotate_left 1;intro _;rotate_left 1)
  |(apply fq;apply TK;intro _;rotate_left 1;intro _;rotate_left 1))
 all_goals try simp only[Int.toNat_natCast]at*
 all_goals first
  |(refine fb rfl rfl (Mt hi (by omega) (by first|(left;assumption)|(right;assumption)));done)
  |(refine fb rfl rfl (JT hi (by omega) (by assumption) (by assumption) (by omega) (by rw[←e1 (by omega)];assumption));done)
  |(refine fb rfl rfl (Fh hi (by omega));done)
  |(refine⟨k+1,CA hi (by omega) (by assumption) (by assumption) (fun h=>by first|(rw[←e1 h];assumption)|omega),by omega,(by refine⟨?_, ?_, ?_⟩<;>repeat' (first|exact trivial|apply And.intro|apply TK))⟩;done)
end Go.Proofs.YtafnhieaeejlcaaDoor
namespace Go.Proofs.YtafnhieaeejlcaaDoor
open Go Go.Ab
set_option maxRecDepth 100000
set_option maxHeartbeats 4000000
attribute [local irreducible] W WL eu kX fh eo gR WG FQ Want jO WI pM fQ eC
theorem O0(a b c:Int):au cJ 66 [.int .i64 a, .int .i64 b, .int .i64 c] (.bool (decide (b≤a∧a≤c))):=by
 refine bS (fn:=Tryd.f66) Tryd.func66 rfl (by kernel_rfl) rfl ?_ ?_ ?_
 ·repeat' first|exact af.nil|refine af.cons (.int _ _) ?_
 ·exact .bool _
 intro w κ
 repeat' (first
  |(apply bT;apply TK;apply TK;(first|(apply aB<;>apply TK)|(apply aC<;>apply TK)|(apply aX<;>apply TK)|(apply bm<;>apply TK)|(apply bR<;>apply TK)|(apply bY<;>apply TK)))
  |apply ba
  |apply al
  |apply an
  |apply aG
  |apply aZ
  |(apply dg;apply TK;apply TK;apply TK)
  |(apply eA;apply TK;apply TK;apply TK;apply TK;apply TK)
  |(apply xK;apply TK;apply TK;apply TK;intro _;rotate_left 1;intro _;rotate_left 1))
 all_goals (refine iE rfl rfl ?_;simp;try omega)
theorem G2(c:Convoy)(t:Truck)(h:Hold)(h0: -2305843009213693952≤h.a)(h1:h.a≤2305843009213693952)(h2: -2305843009213693952≤c.len)(h3:c.len≤2305843009213693952):
 au cJ 108 [.agg (aL c), .agg (bA t), .agg (fY h)] (.int .i64 (bc t.way c.len h.a)):=by
 refine bS (fn:=Tryd.f108) Tryd.func108 rfl (by kernel_rfl) rfl ?_ ?_ ?_
 ·exact af.cons (.agg _ (bn c)) (af.cons (.agg _ (dN t)) (af.cons (.agg _ (zP h)) af.nil))
 ·exact .int _ _
 intro w κ
 repeat' (first
  |(apply bT;apply TK;apply TK;(first|(apply aI<;>apply TK)|(apply aH<;>apply TK)|(apply aE<;>apply TK)|(apply aC<;>apply TK)|(apply ah<;>(first|apply TK|omega))))
  |apply ba
  |apply al
  |apply an
  |apply aG
  |apply ck
  |apply aS
  |apply aZ
  |(apply bZ;apply TK;(first|(apply aR<;>apply TK)))
  |(apply cM;apply TK;intro _;rotate_left 1;intro _;rotate_left 1))
 all_goals (refine fb rfl rfl ?_;simp_all [bc])
theorem Sl(c:Convoy)(t:Truck)(hl:1≤c.len)(hl2:c.len≤100000):au cJ 67 [.agg (aL c), .agg (bA t)] (.int .i64 (bD c t)):=by
 refine bS (fn:=Tryd.f67) Tryd.func67 rfl (by kernel_rfl) rfl ?_ ?_ ?_
 ·exact af.cons (.agg _ (bn c)) (af.cons (.agg _ (dN t)) af.nil)
 ·exact .int _ _
 intro w κ
 repeat' (first
  |(apply bT;apply TK;apply TK;(first|(apply aB<;>apply TK)|(apply aI<;>apply TK)|(apply aH<;>apply TK)|(apply aE<;>apply TK)|(apply aC<;>apply TK)|(apply aX<;>apply TK)|(apply bm<;>apply TK)|(apply cR<;>apply TK)|(apply ah<;>(first|apply TK|omega))|(apply bd<;>apply TK)|(apply bR<;>apply TK)|(apply bY<;>apply TK)|(apply cq<;>(first|apply TK|omega))|(apply aq<;>apply TK)|(apply aN<;>apply TK)))
  |apply ba
  |apply al
  |apply an
  |apply aG
  |apply bp
  |apply ck
  |apply aF
  |apply cP
  |apply aw
  |apply aS
  |apply bk
  |apply aZ
  |apply aQ
  |(apply bu;apply TK)
  |(apply bF;apply TK)
  |(apply aA;apply TK;apply TK;rotate_left 1;apply TK;rotate_right 1;exact(O0 _ _ _);apply TK)
  |(apply bZ;apply TK;(first|(apply aR<;>apply TK)|(apply aP<;>apply TK)|(apply bP<;>apply TK)))
  |(apply dg;apply TK;apply TK;apply TK)
  |(apply eA;apply TK;apply TK;apply TK;apply TK;apply TK)
  |(apply oG;apply TK;apply TK;apply TK;intro _;rotate_left 1;intro _;rotate_left 1)
  |apply ay
  |(apply bw;kernel_rfl)
  |(apply dx;(first|(apply ab;apply TK)|(apply ae;apply TK;apply TK;apply TK));apply TK;first|(apply bB<;>apply TK)|(apply aV<;>apply TK)|(apply b8;apply TK)|(apply b7;apply TK)|(apply aO;intro _;(first|(apply aB<;>apply TK)|(apply aI<;>apply TK)|(apply aH<;>apply TK)|(apply aE<;>apply TK)|(apply aC<;>apply TK)|(apply aX<;>apply TK)|(apply bm<;>apply TK)|(apply cR<;>apply TK)|(apply ah<;>(first|apply TK|omega))|(apply bd<;>apply TK)|(apply bR<;>apply TK)|(apply bY<;>apply TK)|(apply cq<;>(first|apply TK|omega))|(apply aq<;>apply TK)|(apply aN<;>apply TK))))
  |(apply az;(first|(apply ab;apply TK)|(apply ae;apply TK;apply TK;apply TK));apply TK;apply TK;apply TK;exact(O0 _ _ _))
  |(apply od;apply TK;apply TK;apply TK;apply TK;apply TK)
  |(apply vi;apply TK;apply TK;apply TK;intro _;rotate_left 1;intro _;rotate_left 1)
  |(apply cM;apply TK;intro _;rotate_left 1;intro _;rotate_left 1)
  |(apply fq;apply TK;intro _;rotate_left 1;intro _;rotate_left 1))
 all_goals try (refine fb rfl rfl ?_;simp[bD];omega)
 all_goals
  have hspec:bD c t=cz t.way c.len none t.holds:=by simp[bD];omega
  rw[hspec]
  clear hspec
  refine jV (α:=Nat) (fun k=>[(2, .bx 2 1 0),(3, .bx 3 1 0),(5, .int .i64 k)]) (fun _=>[(2,1),(3,1)])
   (fun _=>[(2, .box (aL c)),(3, .box (bA t))]) (oX t.way c.len t.holds) (fun k=>t.holds.length-k) 0 (ud _ _ _) (by refine⟨?_, ?_, ?_⟩<;>repeat' (first|exact trivial|apply And.intro|apply TK)) (fun k h hi=> ?_)
  have hk:=hi.1
  have hp:=hi.2.2
  have e1:0<k→((k:Int)-1).toNat=k-1:=fun h=>by omega
  have hp' :0<k→1≤(t.holds.getD ((k:Int)-1).toNat default).a∧(t.holds.getD ((k:Int)-1).toNat default).a≤c.len-1:=fun h=>by rw[e1 h];exact hp h
  repeat' (first
  |(apply bT;apply TK;apply TK;(first|(apply aB<;>apply TK)|(apply aI<;>apply TK)|(apply aH<;>apply TK)|(apply aE<;>apply TK)|(apply aC<;>apply TK)|(apply aX<;>apply TK)|(apply bm<;>apply TK)|(apply cR<;>apply TK)|(apply ah<;>(first|apply TK|omega))|(apply bd<;>apply TK)|(apply bR<;>apply TK)|(apply bY<;>apply TK)|(apply cq<;>(first|apply TK|omega))|(apply aq<;>apply TK)|(apply aN<;>apply TK)))
  |apply ba
  |apply al
  |apply an
  |apply aG
  |apply bp
  |apply ck
  |apply aF
  |apply cP
  |apply aw
  |apply aS
  |apply bk
  |apply aZ
  |apply aQ
  |(apply bu;apply TK)
  |(apply bF;apply TK)
  |(apply aA;apply TK;apply TK;rotate_left 1;apply TK;rotate_right 1;exact(O0 _ _ _);apply TK)
  |(apply aA;apply TK;apply TK;rotate_left 1;apply TK;rotate_right 1;exact(G2 c t (t.holds.getD (k:Int).toNat default) (by omega) (by omega) (by omega) (by omega));apply TK)
  |(apply aA;apply TK;apply TK;rotate_left 1;apply TK;rotate_right 1;exact(G2 c t (t.holds.getD ((k:Int)-1).toNat default) (by omega) (by omega) (by omega) (by omega));apply TK)
  |(apply bZ;apply TK;(first|(apply aR<;>apply TK)|(apply aP<;>apply TK)|(apply bP<;>apply TK)))
  |(apply dg;apply TK;apply TK;apply TK)
  |(apply eA;apply TK;apply TK;apply TK;apply TK;apply TK)
  |(apply oG;apply TK;apply TK;apply TK;intro _;rotate_left 1;intro _;rotate_left 1)
  |apply ay
  |(apply bw;kernel_rfl)
  |(apply dx;(first|(apply ab;apply TK)|(apply ae;apply TK;apply TK;apply TK));apply TK;first|(apply bB<;>apply TK)|(apply aV<;>apply TK)|(apply b8;apply TK)|(apply b7;apply TK)|(apply aO;intro _;(first|(apply aB<;>apply TK)|(apply aI<;>apply TK)|(apply aH<;>apply TK)|(apply aE<;>apply TK)|(apply aC<;>apply TK)|(apply aX<;>apply TK)|(apply bm<;>apply TK)|(apply cR<;>apply TK)|(apply ah<;>(first|apply TK|omega))|(apply bd<;>apply TK)|(apply bR<;>apply TK)|(apply bY<;>apply TK)|(apply cq<;>(first|apply TK|omega))|(apply aq<;>apply TK)|(apply aN<;>apply TK))))
  |(apply az;(first|(apply ab;apply TK)|(apply ae;apply TK;apply TK;apply TK));apply TK;apply TK;apply TK;exact(O0 _ _ _))
  |(apply az;(first|(apply ab;apply TK)|(apply ae;apply TK;apply TK;apply TK));apply TK;apply TK;apply TK;exact(G2 c t (t.holds.getD (k:Int).toNat default) (by omega) (by omega) (by omega) (by omega)))
  |(apply az;(first|(apply ab;apply TK)|(apply ae;apply TK;apply TK;apply TK));apply TK;apply TK;apply TK;exact(G2 c t (t.holds.getD ((k:Int)-1).toNat default) (by omega) (by omega) (by omega) (by omega)))
  |(apply od;apply TK;apply TK;apply TK;apply TK;apply TK)
  |(apply vi;apply TK;apply TK;apply TK;intro _;rotate_left 1;intro _;rotate_left 1)
  |(apply cM;apply TK;intro _;rotate_left 1;intro _;rotate_left 1)
  |(apply fq;apply TK;intro _;rotate_left 1;intro _;rotate_left 1))
  all_goals try simp only[Int.toNat_natCast]at*
  all_goals first
   |(refine fb rfl rfl (Mt hi (by omega) (by first|(left;assumption)|(right;assumption)));done)
   |(refine fb rfl rfl (JT hi (by omega) (by assumption) (by assumption) (by omega) (by rw[←e1 (by omega)];assumption));done)
   |(refine fb rfl rfl (Fh hi (by omega));done)
   |(refine⟨k+1,CA hi (by omega) (by assumption) (by assumption) (fun h=>by first|(rw[←e1 h];assumption)|omega),by omega,(by refine⟨?_, ?_, ?_⟩<;>repeat' (first|exact trivial|apply And.intro|apply TK))⟩;done)
   |skip
def c9(c:Convoy):List Truck→Int
 |[]=>0
 |t::ts=>if bD c t≠0 then bD c t else c9 c ts
def ai(c:Convoy):Int:=
 if¬(1≤c.len∧c.len≤100000)∨¬(1≤c.gap∧c.gap≤100000)∨¬(0≤c.fails∧c.fails≤20)then 2
 else if c.trucks.length>20 then 8
 else c9 c c.trucks
def yK(c:Convoy)(k:Nat):Prop:=k≤c.trucks.length∧c9 c (c.trucks.drop k)=c9 c c.trucks
theorem JZ{c:Convoy}{k:Nat}(hi:yK c k)(h:¬k<c.trucks.length):0=c9 c c.trucks:=by
 rw[←hi.2,List.drop_eq_nil_of_le (by omega)];rfl
theorem Ic{c:Convoy}{k:Nat}(hi:yK c k)(h:k<c.trucks.length)(he:bD c (c.trucks.getD k default)≠0):bD c (c.trucks.getD k default)=c9 c c.trucks:=by
 rw[←hi.2,fo _ _ h,c9,if_pos he]
theorem FE{c:Convoy}{k:Nat}(hi:yK c k)(h:k<c.trucks.length)(he:bD c (c.trucks.getD k default)=0):yK c (k+1):=
 ⟨h,by rw[←hi.2,fo _ _ h,c9,if_neg (fun h=>h he)]⟩
theorem N5(c:Convoy):au cJ 21 [.agg (aL c)] (.int .i64 (ai c)):=by
 refine bS (fn:=Tryd.f21) Tryd.func21 rfl (by kernel_rfl) rfl ?_ ?_ ?_
 ·exact af.cons (.agg _ (bn c)) af.nil
 ·exact .int _ _
 intro w κ
 repeat' (first
  |(apply bT;apply TK;apply TK;(first|(apply aB<;>apply TK)|(apply aI<;>apply TK)|(apply aH<;>apply TK)|(apply aE<;>apply TK)|(apply aC<;>apply TK)|(apply aX<;>apply TK)|(apply bm<;>apply TK)|(apply cR<;>apply TK)|(apply ah<;>(first|apply TK|omega))|(apply bd<;>apply TK)|(apply bR<;>apply TK)|(apply bY<;>apply TK)|(apply cq<;>(first|apply TK|omega))|(apply aq<;>apply TK)|(apply aN<;>apply TK)))
  |apply ba
  |apply al
  |apply an
  |apply aG
  |apply bp
  |apply ck
  |apply aF
  |apply cP
  |apply aw
  |apply aS
  |apply bk
  |apply aZ
  |apply aQ
  |(apply bu;apply TK)
  |(apply aA;apply TK;apply TK;rotate_left 1;apply TK;rotate_right 1;exact(Qo _ _ _);apply TK)
  |(apply bZ;apply TK;(first|(apply aR<;>apply TK)|(apply aP<;>apply TK)|(apply bP<;>apply TK)))
  |(apply dg;apply TK;apply TK;apply TK)
  |(apply eA;apply TK;apply TK;apply TK;apply TK;apply TK)
  |(apply oG;apply TK;apply TK;apply TK;intro _;rotate_left 1;intro _;rotate_left 1)
  |(apply cM;apply TK;intro _;rotate_left 1;intro _;rotate_left 1)
  |(apply fq;apply TK;intro _;rotate_left 1;intro _;rotate_left 1))
 all_goals try (refine fb rfl rfl ?_;simp[ai];omega)
 all_goals
  have hspec:ai c=c9 c c.trucks:=by simp[ai];omega
  rw[hspec]
  clear hspec
  refine jV (α:=Nat) (fun k=>[(1, .bx 1 1 0),(29,oo 5 bA c.trucks),(30, .int .i64 c.trucks.length),(31, .int .i64 k)]) (fun _=>[(1,1)])
   (fun _=>[(1, .box (aL c))]) (yK c) (fun k=>c.trucks.length-k) 0 ⟨Nat.zero_le _,rfl⟩ (by refine⟨?_, ?_, ?_⟩<;>repeat' (first|exact trivial|apply And.intro|apply TK)) (fun k h hi=> ?_)
  have hk:=hi.1
  repeat' (first
  |(apply bT;apply TK;apply TK;(first|(apply aB<;>apply TK)|(apply aI<;>apply TK)|(apply aH<;>apply TK)|(apply aE<;>apply TK)|(apply aC<;>apply TK)|(apply aX<;>apply TK)|(apply bm<;>apply TK)|(apply cR<;>apply TK)|(apply ah<;>(first|apply TK|omega))|(apply bd<;>apply TK)|(apply bR<;>apply TK)|(apply bY<;>apply TK)|(apply cq<;>(first|apply TK|omega))|(apply aq<;>apply TK)|(apply aN<;>apply TK)))
  |apply ba
  |apply al
  |apply an
  |apply aG
  |apply bp
  |apply ck
  |apply aF
  |apply cP
  |apply aw
  |apply aS
  |apply bk
  |apply aZ
  |apply aQ
  |(apply bu;apply TK)
  |(apply aA;apply TK;apply TK;rotate_left 1;apply TK;rotate_right 1;exact(SY c (c.trucks.getD k default) (by omega) (by omega));apply TK)
  |(apply bZ;apply TK;(first|(apply aR<;>apply TK)|(apply aP<;>apply TK)|(apply bP<;>apply TK)))
  |(apply dg;apply TK;apply TK;apply TK)
  |(apply eA;apply TK;apply TK;apply TK;apply TK;apply TK)
  |(apply oG;apply TK;apply TK;apply TK;intro _;rotate_left 1;intro _;rotate_left 1)
  |(apply cM;apply TK;intro _;rotate_left 1;intro _;rotate_left 1)
  |(apply fq;apply TK;intro _;rotate_left 1;intro _;rotate_left 1))
  all_goals first
   |(refine fb rfl rfl (Ic hi (by omega) (by assumption));done)
   |(refine fb rfl rfl (JZ hi (by omega));done)
   |(refine⟨k+1,FE hi (by omega) (by assumption),by omega,(by refine⟨?_, ?_, ?_⟩<;>repeat' (first|exact trivial|apply And.intro|apply TK))⟩;done)
   |skip
theorem OR(c:Convoy):au cJ 22 [.agg (aL c)] (.int .i64 (ai c)):=by
 refine bS (fn:=Tryd.f22) Tryd.func22 rfl (by kernel_rfl) rfl ?_ ?_ ?_
 ·exact af.cons (.agg _ (bn c)) af.nil
 ·exact .int _ _
 intro w κ
 repeat' (first
  |(apply bT;apply TK;apply TK;(first|(apply aB<;>apply TK)|(apply aI<;>apply TK)|(apply aH<;>apply TK)|(apply aE<;>apply TK)|(apply aC<;>apply TK)|(apply aX<;>apply TK)|(apply cR<;>apply TK)|(apply ah<;>(first|apply TK|omega))|(apply bd<;>apply TK)|(apply bR<;>apply TK)|(apply bY<;>apply TK)|(apply cq<;>(first|apply TK|omega))|(apply aq<;>apply TK)|(apply aN<;>apply TK)))
  |apply ba
  |apply al
  |apply an
  |apply aG
  |apply bp
  |apply ck
  |apply aF
  |apply cP
  |apply aw
  |apply aS
  |apply bk
  |apply aZ
  |apply aQ
  |(apply bu;apply TK)
  |(apply aA;apply TK;apply TK;rotate_left 1;apply TK;rotate_right 1;exact(O0 _ _ _);apply TK)
  |(apply bZ;apply TK;(first|(apply aR<;>apply TK)))
  |(apply dg;apply TK;apply TK;apply TK)
  |(apply eA;apply TK;apply TK;apply TK;apply TK;apply TK)
  |(apply oG;apply TK;apply TK;apply TK;intro _;rotate_left 1;intro _;rotate_left 1)
  |apply ay
  |(apply bw;kernel_rfl)
  |(apply dx;(first|(apply ab;apply TK)|(apply ae;apply TK;apply TK;apply TK));apply TK;first|(apply bB<;>apply TK)|(apply aV<;>apply TK)|(apply b8;apply TK)|(apply b7;apply TK)|(apply aO;intro _;(first|(apply aB<;>apply TK)|(apply aI<;>apply TK)|(apply aH<;>apply TK)|(apply aE<;>apply TK)|(apply aC<;>apply TK)|(apply aX<;>apply TK)|(apply cR<;>apply TK)|(apply ah<;>(first|apply TK|omega))|(apply bd<;>apply TK)|(apply bR<;>apply TK)|(apply bY<;>apply TK)|(apply cq<;>(first|apply TK|omega))|(apply aq<;>apply TK)|(apply aN<;>apply TK))))
  |(apply az;(first|(apply ab;apply TK)|(apply ae;apply TK;apply TK;apply TK));apply TK;apply TK;apply TK;exact(O0 _ _ _))
  |(apply cM;apply TK;intro _;rotate_left 1;intro _;rotate_left 1)
  |(apply fq;apply TK;intro _;rotate_left 1;intro _;rotate_left 1))
 all_goals try (refine fb rfl rfl ?_;simp[ai];omega)
 all_goals
  have hspec:ai c=c9 c c.trucks:=by simp[ai];omega
  rw[hspec]
  clear hspec
  refine jV (α:=Nat) (fun k=>[(1, .bx 1 1 0),(3, .int .i64 k)]) (fun _=>[(1,1)])
   (fun _=>[(1, .box (aL c))]) (yK c) (fun k=>c.trucks.length-k) 0 ⟨Nat.zero_le _,rfl⟩ (by refine⟨?_, ?_, ?_⟩<;>repeat' (first|exact trivial|apply And.intro|apply TK)) (fun k h hi=> ?_)
  have hk:=hi.1
  repeat' (first
  |(apply bT;apply TK;apply TK;(first|(apply aB<;>apply TK)|(apply aI<;>apply TK)|(apply aH<;>apply TK)|(apply aE<;>apply TK)|(apply aC<;>apply TK)|(apply aX<;>apply TK)|(apply cR<;>apply TK)|(apply ah<;>(first|apply TK|omega))|(apply bd<;>apply TK)|(apply bR<;>apply TK)|(apply bY<;>apply TK)|(apply cq<;>(first|apply TK|omega))|(apply aq<;>apply TK)|(apply aN<;>apply TK)))
  |apply ba
  |apply al
  |apply an
  |apply aG
  |apply bp
  |apply ck
  |apply aF
  |apply cP
  |apply aw
  |apply aS
  |apply bk
  |apply aZ
  |apply aQ
  |(apply bu;apply TK)
  |(apply aA;apply TK;apply TK;rotate_left 1;apply TK;rotate_right 1;exact(Sl c (c.trucks.getD k default) (by omega) (by omega));apply TK)
  |(apply bZ;apply TK;(first|(apply aR<;>apply TK)))
  |(apply dg;apply TK;apply TK;apply TK)
  |(apply eA;apply TK;apply TK;apply TK;apply TK;apply TK)
  |(apply oG;apply TK;apply TK;apply TK;intro _;rotate_left 1;intro _;rotate_left 1)
  |apply ay
  |(apply bw;kernel_rfl)
  |(apply dx;(first|(apply ab;apply TK)|(apply ae;apply TK;apply TK;apply TK));apply TK;first|(apply bB<;>apply TK)|(apply aV<;>apply TK)|(apply b8;apply TK)|(apply b7;apply TK)|(apply aO;intro _;(first|(apply aB<;>apply TK)|(apply aI<;>apply TK)|(apply aH<;>apply TK)|(apply aE<;>apply TK)|(apply aC<;>apply TK)|(apply aX<;>apply TK)|(apply cR<;>apply TK)|(apply ah<;>(first|apply TK|omega))|(apply bd<;>apply TK)|(apply bR<;>apply TK)|(apply bY<;>apply TK)|(apply cq<;>(first|apply TK|omega))|(apply aq<;>apply TK)|(apply aN<;>apply TK))))
  |(apply az;(first|(apply ab;apply TK)|(apply ae;apply TK;apply TK;apply TK));apply TK;apply TK;apply TK;exact(Sl c (c.trucks.getD k default) (by omega) (by omega)))
  |(apply cM;apply TK;intro _;rotate_left 1;intro _;rotate_left 1)
  |(apply fq;apply TK;intro _;rotate_left 1;intro _;rotate_left 1))
  all_goals first
   |(refine fb rfl rfl (Ic hi (by omega) (by assumption));done)
   |(refine fb rfl rfl (JZ hi (by omega));done)
   |(refine⟨k+1,FE hi (by omega) (by assumption),by omega,(by refine⟨?_, ?_, ?_⟩<;>repeat' (first|exact trivial|apply And.intro|apply TK))⟩;done)
   |skip
end Go.Proofs.YtafnhieaeejlcaaDoor
namespace Go.Proofs.YtafnhieaeejlcaaDoor
open Go Go.Ab
set_option maxRecDepth 100000
set_option maxHeartbeats 4000000
attribute [local irreducible] W WL eu kX fh eo gR WG FQ Want jO WI pM fQ eC
def Bg(len:Int)(hs:List Hold):Prop:=hs.length≤8∧∀k,k<hs.length→1≤(hs.getD k default).a∧(hs.getD k default).a≤len-1∧0≤(hs.getD k default).u∧(hs.getD k default).u≤10000
def eF(way len:Int)(gone m:Int):List Hold→Int
 |[]=>len
 |h::hs=>if bc way len h.a≥gone∧h.u>m then bc way len h.a else eF way len gone m hs
theorem HA{way len gone m:Int}{hs:List Hold}{k:Nat}(hi:eF way len gone m (hs.drop k)=eF way len gone m hs)(h:¬k<hs.length):len=eF way len gone m hs:=by
 rw[←hi,List.drop_eq_nil_of_le (by omega)];rfl
theorem Hx{way len gone m:Int}{hs:List Hold}{k:Nat}(hi:eF way len gone m (hs.drop k)=eF way len gone m hs)(h:k<hs.length)(h1:bc way len (hs.getD k default).a≥gone)(h2:(hs.getD k default).u>m):
 bc way len (hs.getD k default).a=eF way len gone m hs:=by
 rw[←hi,fo _ _ h,eF,if_pos ⟨h1,h2⟩]
theorem El{way len gone m:Int}{hs:List Hold}{k:Nat}(hi:eF way len gone m (hs.drop k)=eF way len gone m hs)(h:k<hs.length)(h1:¬(bc way len (hs.getD k default).a≥gone∧(hs.getD k default).u>m)):
 eF way len gone m (hs.drop (k+1))=eF way len gone m hs:=by
 rw[←hi,fo _ _ h,eF,if_neg h1]
theorem R4(c:Convoy)(t:Truck)(gone m:Int)(hl:1≤c.len)(hl2:c.len≤100000)(ho:Bg c.len t.holds):au cJ 122 [.agg (aL c), .agg (bA t), .int .i64 gone, .int .i64 m] (.int .i64 (eF t.way c.len gone m t.holds)):=by
 refine bS (fn:=Tryd.f122) Tryd.func122 rfl (by kernel_rfl) rfl ?_ ?_ ?_
 ·exact af.cons (.agg _ (bn c)) (af.cons (.agg _ (dN t)) (af.cons (.int _ _) (af.cons (.int _ _) af.nil)))
 ·exact .int _ _
 intro w κ
 repeat' (first
  |(apply bT;apply TK;apply TK;(first|(apply aB<;>apply TK)|(apply aI<;>apply TK)|(apply aH<;>apply TK)|(apply aE<;>apply TK)|(apply aC<;>apply TK)|(apply aX<;>apply TK)|(apply di<;>apply TK)|(apply iP<;>apply TK)|(apply ah<;>(first|apply TK|omega))|(apply bd<;>apply TK)|(apply bR<;>apply TK)|(apply bY<;>apply TK)|(apply cq<;>(first|apply TK|omega))|(apply aq<;>apply TK)|(apply aN<;>apply TK)))
  |apply ba
  |apply al
  |apply an
  |apply aG
  |apply bp
  |apply ck
  |apply aF
  |apply cP
  |apply aw
  |apply aS
  |apply bk
  |apply aZ
  |apply aQ
  |(apply bF;apply TK)
  |(apply bZ;apply TK;(first|(apply aR<;>apply TK)))
  |apply ay
  |(apply bw;kernel_rfl)
  |(apply dx;(first|(apply ab;apply TK)|(apply ae;apply TK;apply TK;apply TK));apply TK;first|(apply bB<;>apply TK)|(apply aV<;>apply TK)|(apply b8;apply TK)|(apply b7;apply TK)|(apply aO;intro _;(first|(apply aB<;>apply TK)|(apply aI<;>apply TK)|(apply aH<;>apply TK)|(apply aE<;>apply TK)|(apply aC<;>apply TK)|(apply aX<;>apply TK)|(apply di<;>apply TK)|(apply iP<;>apply TK)|(apply ah<;>(first|apply TK|omega))|(apply bd<;>apply TK)|(apply bR<;>apply TK)|(apply bY<;>apply TK)|(apply cq<;>(first|apply TK|omega))|(apply aq<;>apply TK)|(apply aN<;>apply TK))))
  |(apply od;apply TK;apply TK;apply TK;apply TK;apply TK)
  |(apply vi;apply TK;apply TK;apply TK;intro _;rotate_left 1;intro _;rotate_left 1)
  |(apply cM;apply TK;intro _;rotate_left 1;intro _;rotate_left 1))
 refine jV (α:=Nat) (fun k=>[(2, .int .i64 gone),(3, .int .i64 m),(4, .bx 4 1 0),(5, .bx 5 1 0),(9, .int .i64 k)]) (fun _=>[(4,1),(5,1)])
  (fun _=>[(4, .box (aL c)),(5, .box (bA t))]) (fun k=>k≤t.holds.length∧eF t.way c.len gone m (t.holds.drop k)=eF t.way c.len gone m t.holds) (fun k=>t.holds.length-k) 0 ⟨Nat.zero_le _,rfl⟩ (by refine⟨?_, ?_, ?_⟩<;>repeat' (first|exact trivial|apply And.intro|apply TK)) (fun k h hi=> ?_)
 have hk:=hi.1
 have hl8:=ho.1
 have hb:∀hk' :(k:Int)<t.holds.length,1≤(t.holds.getD (k:Int).toNat default).a∧(t.holds.getD (k:Int).toNat default).a≤c.len-1:=fun h=>by
  have:=ho.2 k (by omega);simp only[Int.toNat_natCast];omega
 repeat' (first
  |(apply bT;apply TK;apply TK;(first|(apply aB<;>apply TK)|(apply aI<;>apply TK)|(apply aH<;>apply TK)|(apply aE<;>apply TK)|(apply aC<;>apply TK)|(apply aX<;>apply TK)|(apply di<;>apply TK)|(apply iP<;>apply TK)|(apply ah<;>(first|apply TK|omega))|(apply bd<;>apply TK)|(apply bR<;>apply TK)|(apply bY<;>apply TK)|(apply cq<;>(first|apply TK|omega))|(apply aq<;>apply TK)|(apply aN<;>apply TK)))
  |apply ba
  |apply al
  |apply an
  |apply aG
  |apply bp
  |apply ck
  |apply aF
  |apply cP
  |apply aw
  |apply aS
  |apply bk
  |apply aZ
  |apply aQ
  |(apply bF;apply TK)
  |(apply bZ;apply TK;(first|(apply aR<;>apply TK)))
  |apply ay
  |(apply bw;kernel_rfl)
  |(apply dx;(first|(apply ab;apply TK)|(apply ae;apply TK;apply TK;apply TK));apply TK;first|(apply bB<;>apply TK)|(apply aV<;>apply TK)|(apply b8;apply TK)|(apply b7;apply TK)|(apply aO;intro _;(first|(apply aB<;>apply TK)|(apply aI<;>apply TK)|(apply aH<;>apply TK)|(apply aE<;>apply TK)|(apply aC<;>apply TK)|(apply aX<;>apply TK)|(apply di<;>apply TK)|(apply iP<;>apply TK)|(apply ah<;>(first|apply TK|omega))|(apply bd<;>apply TK)|(apply bR<;>apply TK)|(apply bY<;>apply TK)|(apply cq<;>(first|apply TK|omega))|(apply aq<;>apply TK)|(apply aN<;>apply TK))))
  |(apply az;(first|(apply ab;apply TK)|(apply ae;apply TK;apply TK;apply TK));apply TK;apply TK;apply TK;exact(G2 c t (t.holds.getD (k:Int).toNat default) (by have:=hb (by assumption);omega) (by have:=hb (by assumption);omega) (by omega) (by omega)))
  |(apply od;apply TK;apply TK;apply TK;apply TK;apply TK)
  |(apply vi;apply TK;apply TK;apply TK;intro _;rotate_left 1;intro _;rotate_left 1)
  |(apply cM;apply TK;intro _;rotate_left 1;intro _;rotate_left 1))
 all_goals try simp only[Int.toNat_natCast]at*
 all_goals first
  |(refine fb rfl rfl (Hx hi.2 (by omega) (by assumption) (by assumption));done)
  |(refine fb rfl rfl (HA hi.2 (by omega));done)
  |(refine⟨k+1,⟨by omega,El hi.2 (by omega) (by omega)⟩,by omega,(by refine⟨?_, ?_, ?_⟩<;>repeat' (first|exact trivial|apply And.intro|apply TK))⟩;done)
  |skip
def iD(t:Truck)(len gone m pace:Int):Int:=min (gone+pace) (eF t.way len gone m t.holds)
theorem K0(c:Convoy)(t:Truck)(gone m pace:Int)(hl:1≤c.len)(hl2:c.len≤100000)(ho:Bg c.len t.holds)(h0:0≤gone)(h1:gone≤100000)(h2:0≤pace)(h3:pace≤100000):
 au cJ 111 [.agg (aL c), .agg (bA t), .int .i64 gone, .int .i64 m, .int .i64 pace] (.int .i64 (iD t c.len gone m pace)):=by
 refine bS (fn:=Tryd.f111) Tryd.func111 rfl (by kernel_rfl) rfl ?_ ?_ ?_
 ·exact af.cons (.agg _ (bn c)) (af.cons (.agg _ (dN t)) (af.cons (.int _ _) (af.cons (.int _ _) (af.cons (.int _ _) af.nil))))
 ·exact .int _ _
 intro w κ
 repeat' (first
  |(apply bT;apply TK;apply TK;(first|(apply aB<;>apply TK)|(apply aI<;>apply TK)|(apply ah<;>(first|apply TK|omega))|(apply aq<;>apply TK)|(apply kI<;>apply TK)))
  |apply ba
  |apply al
  |apply an
  |apply aG
  |apply aZ
  |(apply aA;apply TK;apply TK;rotate_left 1;apply TK;rotate_right 1;exact(R4 c t gone m hl hl2 ho);apply TK)
  |(apply bZ;apply TK;(first|(apply aR<;>apply TK))))
 all_goals (refine fb rfl rfl ?_;rfl)
def bf(t:Truck)(b:Bool):Truck:=if b then{t with holds:=[]}else t
theorem zp(t:Truck)(b:Bool):au cJ 73 [.agg (bA t), .bool b] (.agg (bA (bf t b))):=by
 refine bS (fn:=Tryd.f73) Tryd.func73 rfl (by kernel_rfl) rfl ?_ ?_ ?_
 ·exact af.cons (.agg _ (dN t)) (af.cons (.bool _) af.nil)
 ·exact .agg _ (dN _)
 intro w κ
 cases b
 ·repeat' (first
  |(apply bT;apply TK;apply TK;(first|(apply aE<;>apply TK)|(apply aX<;>apply TK)|(apply aq<;>apply TK)))
  |apply ba
  |apply al
  |apply an
  |apply aG
  |apply aS
  |apply aZ
  |(apply bu;apply TK)
  |(apply bF;apply TK)
  |(apply bZ;apply TK;(first|(apply aR<;>apply TK)|(apply aP<;>apply TK)|(apply bP<;>apply TK))))
  all_goals (refine jv rfl rfl rfl rfl rfl rfl rfl rfl ?_;rfl)
 ·repeat' (first
  |(refine qU (yO 2 (l' :=bA {t with holds:=[]}) rfl ⟨.inl rfl, .inl rfl, .inl rfl, .inl rfl, .inr ⟨rfl,_,_,rfl⟩,trivial⟩) ?_)
  |(apply bT;apply TK;apply TK;(first|(apply aE<;>apply TK)|(apply aX<;>apply TK)|(apply aq<;>apply TK)))
  |apply ba
  |apply al
  |apply an
  |apply aG
  |apply aS
  |apply aZ
  |(apply bu;apply TK)
  |(apply bF;apply TK)
  |(apply bZ;apply TK;(first|(apply aR<;>apply TK)|(apply aP<;>apply TK)|(apply bP<;>apply TK))))
  all_goals (refine jv rfl rfl rfl rfl rfl rfl rfl rfl ?_;rfl)
end Go.Proofs.YtafnhieaeejlcaaDoor
namespace Go.Proofs.YtafnhieaeejlcaaDoor
open Go Go.Ab
set_option maxRecDepth 100000
set_option maxHeartbeats 4000000
attribute [local irreducible] W WL eu kX fh eo gR WG FQ Want jO WI pM fQ eC
def dw(t:Truck)(len pace:Int):Nat→Int
 |0=>0
 |k+1=>iD t len (dw t len pace k) (t.start+k) pace
def Bf(f:Nat→Int)(len:Int):Nat→Nat→Nat
 |0,k=>k
 |n+1,k=>if f k=len then k else Bf f len n (k+1)
theorem Nj{f:Nat→Int}{len:Int}{K:Nat}(hK:f K=len):∀(n k:Nat),k≤K→K≤k+n→(∀j,k≤j→j<Bf f len n k→f j≠len)∧f (Bf f len n k)=len∧k≤Bf f len n k∧Bf f len n k≤K:=by
 intro n
 induction n with
 |zero=>
  intro k h1 h2
  have:k=K:=by omega
  subst this
  exact⟨fun j a b=>by simp only[Bf]at b;omega,hK,Nat.le_refl _,Nat.le_refl _⟩
 |succ n ih=>
  intro k h1 h2
  by_cases e:f k=len
  ·simp only[Bf,if_pos e]
   exact⟨fun j a b=>by omega,e,Nat.le_refl _,h1⟩
  ·simp only[Bf,if_neg e]
   have hne:k≠K:=by intro h;subst h;exact e hK
   obtain⟨a,b,c,d⟩:=ih (k+1) (by omega) (by omega)
   refine⟨fun j hj hj2=> ?_,b,by omega,d⟩
   by_cases ej:j=k
   ·subst ej;exact e
   ·exact a j (by omega) hj2
theorem wc{way len gone m:Int}{hs:List Hold}(h1:1≤len)(h:∀h∈hs,1≤h.a∧h.a≤len-1):1≤eF way len gone m hs∧eF way len gone m hs≤len:=by
 induction hs with
 |nil=>simp only[eF];omega
 |cons x hs ih=>
  have hx:=h x (List.mem_cons_self ..)
  have:=ih fun y hy=>h y (List.mem_cons_of_mem _ hy)
  simp only[eF]
  split
  ·simp only[bc];split<;>omega
  ·exact this
theorem vp{way len gone m:Int}{hs:List Hold}(h:∀h∈hs,h.u≤m):eF way len gone m hs=len:=by
 induction hs with
 |nil=>rfl
 |cons x hs ih=>
  have hx:=h x (List.mem_cons_self ..)
  simp only[eF]
  rw[if_neg (by omega)]
  exact ih fun y hy=>h y (List.mem_cons_of_mem _ hy)
theorem C3{α:Type}[Inhabited α]{l:List α}{x:α}(h:x∈l):∃k,k<l.length∧l.getD k default=x:=by
 obtain⟨k,hk,e⟩:=List.getElem_of_mem h
 exact⟨k,hk,by simp[List.getD,hk,e]⟩
theorem Bg.mem{len:Int}{hs:List Hold}(h:Bg len hs):∀x∈hs,1≤x.a∧x.a≤len-1∧0≤x.u∧x.u≤10000:=fun x hx=>by
 obtain⟨k,hk,e⟩:=C3 hx
 exact e▸h.2 k hk
section
variable {t:Truck} {len pace:Int}
theorem dH(hl:1≤len)(ho:Bg len t.holds)(hp:1≤pace):∀k,0≤dw t len pace k∧dw t len pace k≤len
 |0=>⟨Int.le_refl 0,by simp only[dw];omega⟩
 |k+1=>by
  have h1:=dH hl ho hp k
  have h2:=wc (way:=t.way) (gone:=dw t len pace k) (m:=t.start+k) hl fun x hx=>⟨(ho.mem x hx).1,(ho.mem x hx).2.1⟩
  simp only[dw,iD]
  omega
theorem yy(hs:0≤t.start)(hl:1≤len)(ho:Bg len t.holds)(hp:1≤pace):∀j:Nat,min ((j:Int)*pace) len≤dw t len pace (10000+j)
 |0=>by have:=(dH hl ho hp 10000).1;simp only[Nat.add_zero];omega
 |j+1=>by
  have h1:=yy hs hl ho hp j
  have h2:=dH hl ho hp (10000+j)
  show _≤dw t len pace (10000+j+1)
  simp only[dw,iD]
  rw[vp fun x hx=>by have:=(ho.mem x hx).2.2.2;omega]
  have h3:((j+1:Nat):Int)*pace=j*pace+pace:=by push_cast;rw[Int.add_mul,Int.one_mul]
  rw[h3]
  omega
theorem Jg(hs:0≤t.start)(hl:1≤len)(ho:Bg len t.holds)(hp:1≤pace)(hd:len≤1000*pace):dw t len pace 11000=len:=by
 have h1:=yy hs hl ho hp 1000
 have h2:=dH hl ho hp (10000+1000)
 have h3:dw t len pace (10000+1000)=len:=by omega
 exact h3
end
def cn(t:Truck)(len pace:Int):Nat:=Bf (dw t len pace) len 11000 0
def jT(c:Convoy)(t:Truck):Span:=⟨if cn t c.len t.hi≤cn t c.len t.lo then t.start+cn t c.len t.hi else -1,t.start+cn t c.len t.lo⟩
structure xw (c:Convoy) (t:Truck):Prop where
 l1:1≤c.len
 l2:c.len≤100000
 s1:0≤t.start
 s2:t.start≤10000
 p1:1≤t.lo
 p2:t.lo≤t.hi
 p3:t.hi≤1000
 d1:c.len≤1000*t.lo
 ho:Bg c.len t.holds
theorem lQ{c:Convoy}{t:Truck}(h:xw c t){pace:Int}(hp:t.lo≤pace):dw t c.len pace (cn t c.len pace)=c.len∧(∀j,j<cn t c.len pace→dw t c.len pace j≠c.len)∧cn t c.len pace≤11000:=by
 have h1:=h.p1
 have h2:=h.d1
 have h0:dw t c.len pace 11000=c.len:=Jg h.s1 h.l1 h.ho (by omega) (by omega)
 obtain⟨a,b,_,d⟩:=Nj h0 11000 0 (Nat.zero_le _) (by omega)
 exact⟨b,fun j hj=>a j (Nat.zero_le _) hj,d⟩
def EU(c:Convoy)(t:Truck)(k:Nat):Int:=if cn t c.len t.hi<k then t.start+cn t c.len t.hi else -1
def il(t:Truck)(len pace:Int)(k:Nat):Int:=dw t len pace (k-1)
theorem Fx(t:Truck)(len pace:Int)(k:Nat):il t len pace k=dw t len pace (k-1):=rfl
theorem GB(t:Truck)(len pace:Int):il t len pace 0=0:=rfl
theorem yu{t:Truck}{len pace:Int}{k:Nat}(h:0<k):il t len pace (k+1)=iD t len (il t len pace k) (t.start+k-1) pace:=by
 obtain⟨j,rfl⟩:∃j,k=j+1:=⟨k-1,by omega⟩
 show dw t len pace (j+1)=iD t len (dw t len pace j) _ pace
 rw[show t.start+((j+1:Nat):Int)-1=t.start+j by omega];rfl
def DS(c:Convoy)(t:Truck)(x:Nat×Int):Prop:=(x.2= -1∧x.1≤cn t c.len t.lo)∨(x.1=cn t c.len t.lo+1∧x.2=t.start+cn t c.len t.lo)
theorem px(t:Truck)(len pace:Int)(k:Nat):il t len pace (k+1)=dw t len pace k:=rfl
theorem Ft(t:Truck)(len pace:Int):il t len pace 0=il t len pace (0+1):=rfl
theorem Nu(c:Convoy)(t:Truck)(k:Nat):EU c t k=if cn t c.len t.hi<k then t.start+cn t c.len t.hi else -1:=rfl
theorem Lk(c:Convoy)(t:Truck):EU c t (cn t c.len t.lo+1)=(jT c t).lo:=by
 simp only[EU,jT,Nat.lt_succ_iff]
theorem P4{x:Ab.Own}{k1 k2:IntKind}{a b a' b' :Int}(h:x= .box [.int k1 a, .int k2 b])(e1:a=a')(e2:b=b'):x= .box [.int k1 a', .int k2 b']:=by rw[h,e1,e2]
theorem Ie(c:Convoy)(t:Truck):EU c t 0= -1:=rfl
attribute [local irreducible] il EU cn dw iD eF
theorem JW(c:Convoy)(t:Truck)(h:xw c t):au cJ 110 [.agg (aL c), .agg (bA t)] (.agg (bC (jT c t))):=by
 refine bS (fn:=Tryd.f110) Tryd.func110 rfl (by kernel_rfl) rfl ?_ ?_ ?_
 ·exact af.cons (.agg _ (bn c)) (af.cons (.agg _ (dN t)) af.nil)
 ·exact .agg _ (cN _)
 intro w κ
 obtain⟨l1,l2,s1,s2,p1,p2,p3,d1,ho⟩:=h
 have h:xw c t:=⟨l1,l2,s1,s2,p1,p2,p3,d1,ho⟩
 obtain⟨e1,e2,e3⟩:=lQ h (Int.le_refl t.lo)
 obtain⟨f1,f2,f3⟩:=lQ h p2
 have bnd:=fun k=>dH (t:=t) (pace:=t.lo) l1 ho p1 k
 have bnd2:=fun k=>dH (t:=t) (pace:=t.hi) l1 ho (by omega) k
 repeat' (first
  |(apply bT;apply TK;apply TK;(first|(apply aB<;>apply TK)|(apply aI<;>apply TK)|(apply aH<;>apply TK)|(apply aE<;>apply TK)|(apply aC<;>apply TK)|(apply aX<;>apply TK)|(apply ah<;>(first|apply TK|omega))|(apply bR<;>apply TK)|(apply bY<;>apply TK)|(apply aq<;>apply TK)|(apply bK<;>apply TK)))
  |apply ba
  |apply al
  |apply an
  |apply aG
  |apply bp
  |apply aF
  |apply aw
  |apply aS
  |apply bk
  |apply aZ
  |apply aQ
  |(apply bF;apply TK)
  |(apply bZ;apply TK;(first|(apply aR<;>apply TK)|(apply aP<;>apply TK)|(apply bP<;>apply TK)))
  |(apply dg;apply TK;apply TK;apply TK)
  |(apply eA;apply TK;apply TK;apply TK;apply TK;apply TK)
  |(apply xK;apply TK;apply TK;apply TK;intro _;rotate_left 1;intro _;rotate_left 1)
  |apply ay
  |(apply bw;kernel_rfl)
  |(apply dx;(first|(apply ab;apply TK)|(apply ae;apply TK;apply TK;apply TK));apply TK;first|(apply bB<;>apply TK)|(apply aV<;>apply TK)|(apply b8;apply TK)|(apply b7;apply TK)|(apply aO;intro _;(first|(apply aB<;>apply TK)|(apply aI<;>apply TK)|(apply aH<;>apply TK)|(apply aE<;>apply TK)|(apply aC<;>apply TK)|(apply aX<;>apply TK)|(apply ah<;>(first|apply TK|omega))|(apply bR<;>apply TK)|(apply bY<;>apply TK)|(apply aq<;>apply TK)|(apply bK<;>apply TK))))
  |(apply ft;(first|(apply ab;apply TK)|(apply ae;apply TK;apply TK;apply TK));(first|(apply dV<;>apply TK)))
  |(apply cM;apply TK;intro _;rotate_left 1;intro _;rotate_left 1))
 refine jV (α:=Nat×Int) (fun x=>[(2, .bx 2 1 0),(3, .bx 3 1 0),(4, .bx 4 1 0),(5, .bx 5 1 0),(6, .bx 6 1 0),(7, .int .i64 (t.start+x.1))]) (fun _=>[(2,1),(3,1),(4,1),(5,1),(6,1)])
  (fun x=>[(2, .box (aL c)),(3, .box (bA t)),(4, .box [.int .i64 0, .int .i64 0]),(5, .box [.int .i64 (EU c t x.1), .int .i64 x.2]),(6, .box [.int .i64 (il t c.len t.lo x.1), .int .i64 (il t c.len t.hi x.1)])])
  (DS c t) (fun x=>if x.2<0 then 20000-x.1 else 0) (0, -1) (.inl ⟨rfl,Nat.zero_le _⟩) (by refine⟨?_, ?_, ?_⟩<;>repeat' (first|exact trivial|apply And.intro|apply TK|(refine gz rfl ?_;omega)|(refine gL rfl ?_;simp only[GB,Ie]))) (fun x h hi=> ?_)
 have hP1:0≤il t c.len t.lo x.1∧il t c.len t.lo x.1≤c.len:=by rw[Fx];exact bnd _
 have hP2:0≤il t c.len t.hi x.1∧il t c.len t.hi x.1≤c.len:=by rw[Fx];exact bnd2 _
 have hb:x.2<0→x.2= -1∧x.1≤cn t c.len t.lo:=fun h=>by rcases hi with⟨a,b⟩|⟨a,b⟩<;>omega
 have hb2:¬x.2<0→x.1=cn t c.len t.lo+1∧x.2=t.start+cn t c.len t.lo:=fun h=>by rcases hi with⟨a,b⟩|⟨a,b⟩<;>omega
 have hk1:x.1≤11001:=by rcases hi with⟨a,b⟩|⟨a,b⟩<;>omega
 have C1:0<x.1→au cJ 111 [.agg (aL c), .agg (bA t), .int .i64 (il t c.len t.lo x.1), .int .i64 (t.start+x.1-1), .int .i64 t.lo] (.int .i64 (il t c.len t.lo (x.1+1))):=fun h=>by
  rw[yu h];exact K0 c t _ _ _ l1 l2 ho (by omega) (by omega) (by omega) (by omega)
 have C2:0<x.1→au cJ 111 [.agg (aL c), .agg (bA t), .int .i64 (il t c.len t.hi x.1), .int .i64 (t.start+x.1-1), .int .i64 t.hi] (.int .i64 (il t c.len t.hi (x.1+1))):=fun h=>by
  rw[yu h];exact K0 c t _ _ _ l1 l2 ho (by omega) (by omega) (by omega) (by omega)
 have hlo:∀k,EU c t k=if cn t c.len t.hi<k then t.start+cn t c.len t.hi else -1:=fun k=>by rw[Nu]
 have hlo0:=hlo x.1
 have hlo1:=hlo (x.1+1)
 have hZ:x.1=0→il t c.len t.lo x.1=il t c.len t.lo (x.1+1)∧il t c.len t.hi x.1=il t c.len t.hi (x.1+1):=fun h=>by rw[h];exact⟨Ft _ _ _,Ft _ _ _⟩
 have hn1:x.1<cn t c.len t.lo→il t c.len t.lo (x.1+1)≠c.len:=fun h=>by rw[px];exact e2 _ h
 have hn2:x.1<cn t c.len t.hi→il t c.len t.hi (x.1+1)≠c.len:=fun h=>by rw[px];exact f2 _ h
 have hq1:x.1=cn t c.len t.lo→il t c.len t.lo (x.1+1)=c.len:=fun h=>by rw[px,h];exact e1
 have hq2:x.1=cn t c.len t.hi→il t c.len t.hi (x.1+1)=c.len:=fun h=>by rw[px,h];exact f1
 have hA:il t c.len t.hi (x.1+1)=c.len→EU c t x.1<0→t.start+x.1=EU c t (x.1+1):=fun h1 h2=>by split at hlo0<;>split at hlo1<;>omega
 have hB:il t c.len t.hi (x.1+1)≠c.len→EU c t x.1=EU c t (x.1+1):=fun h1=>by split at hlo0<;>split at hlo1<;>omega
 have hC:¬EU c t x.1<0→EU c t x.1=EU c t (x.1+1):=fun h1=>by split at hlo0<;>split at hlo1<;>omega
 have hE:x.2<0→il t c.len t.lo (x.1+1)=c.len→DS c t (x.1+1,t.start+x.1)∧(if t.start+(x.1:Int)<0 then 20000-(x.1+1)else 0)<(if x.2<0 then 20000-x.1 else 0):=fun h1 h2=>by
  have:=hb h1
  have h3:x.1=cn t c.len t.lo:=by omega
  refine⟨.inr ⟨by simp only;omega,by simp only;omega⟩, ?_⟩
  rw[if_neg (by omega),if_pos h1];omega
 have hF:x.2<0→il t c.len t.lo (x.1+1)≠c.len→DS c t (x.1+1,x.2)∧(if x.2<0 then 20000-(x.1+1)else 0)<(if x.2<0 then 20000-x.1 else 0):=fun h1 h2=>by
  have:=hb h1
  have h3:x.1<cn t c.len t.lo:=by omega
  refine⟨.inl ⟨by simp only;omega,by simp only;omega⟩, ?_⟩
  rw[if_pos h1,if_pos h1];omega
 clear hlo hlo0 hlo1 hn1 hn2 hq1 hq2
 repeat' (first
  |(apply bT;apply TK;apply TK;(first|(apply aB<;>apply TK)|(apply aI<;>apply TK)|(apply aH<;>apply TK)|(apply aE<;>apply TK)|(apply aC<;>apply TK)|(apply aX<;>apply TK)|(apply ah<;>(first|apply TK|omega))|(apply bR<;>apply TK)|(apply bY<;>apply TK)|(apply aq<;>apply TK)|(apply bK<;>apply TK)))
  |apply ba
  |apply al
  |apply an
  |apply aG
  |apply bp
  |apply aF
  |apply aw
  |apply aS
  |apply bk
  |apply aZ
  |apply aQ
  |(apply bF;apply TK)
  |(apply bZ;apply TK;(first|(apply aR<;>apply TK)|(apply aP<;>apply TK)|(apply bP<;>apply TK)))
  |(apply dg;apply TK;apply TK;apply TK)
  |(apply eA;apply TK;apply TK;apply TK;apply TK;apply TK)
  |(apply xK;apply TK;apply TK;apply TK;intro _;rotate_left 1;intro _;rotate_left 1)
  |apply ay
  |(apply bw;kernel_rfl)
  |(apply dx;(first|(apply ab;apply TK)|(apply ae;apply TK;apply TK;apply TK));apply TK;first|(apply bB<;>apply TK)|(apply aV<;>apply TK)|(apply b8;apply TK)|(apply b7;apply TK)|(apply aO;intro _;(first|(apply aB<;>apply TK)|(apply aI<;>apply TK)|(apply aH<;>apply TK)|(apply aE<;>apply TK)|(apply aC<;>apply TK)|(apply aX<;>apply TK)|(apply ah<;>(first|apply TK|omega))|(apply bR<;>apply TK)|(apply bY<;>apply TK)|(apply aq<;>apply TK)|(apply bK<;>apply TK))))
  |(apply az;(first|(apply ab;apply TK)|(apply ae;apply TK;apply TK;apply TK));apply TK;apply TK;apply TK;exact(C1 (by omega)))
  |(apply az;(first|(apply ab;apply TK)|(apply ae;apply TK;apply TK;apply TK));apply TK;apply TK;apply TK;exact(C2 (by omega)))
  |(apply ft;(first|(apply ab;apply TK)|(apply ae;apply TK;apply TK;apply TK));(first|(apply dV<;>apply TK)))
  |(apply cM;apply TK;intro _;rotate_left 1;intro _;rotate_left 1))
 all_goals first
  |(have G:=hE (by assumption) (by first|assumption|(have:=hZ (by omega);omega));refine⟨(x.1+1,t.start+x.1),G.1,G.2, ?_⟩;(refine⟨?_, ?_, ?_⟩<;>repeat' (first|exact trivial|apply And.intro|apply TK|(refine gz rfl ?_;omega)|(refine P4 rfl ?_ ?_<;>first|omega|exact hA (by first|assumption|(have:=hZ (by omega);omega)) (by assumption)|exact hC (by assumption)|exact hB (by first|assumption|(have:=hZ (by omega);omega))|exact(hZ (by omega)).1|exact(hZ (by omega)).2)));done)
  |(have G:=hF (by assumption) (by first|assumption|(have:=hZ (by omega);omega));refine⟨(x.1+1,x.2),G.1,G.2, ?_⟩;(refine⟨?_, ?_, ?_⟩<;>repeat' (first|exact trivial|apply And.intro|apply TK|(refine gz rfl ?_;omega)|(refine P4 rfl ?_ ?_<;>first|omega|exact hA (by first|assumption|(have:=hZ (by omega);omega)) (by assumption)|exact hC (by assumption)|exact hB (by first|assumption|(have:=hZ (by omega);omega))|exact(hZ (by omega)).1|exact(hZ (by omega)).2)));done)
  |skip
 all_goals (have G:=hb2 (by assumption);refine jv rfl rfl rfl rfl rfl rfl rfl rfl ?_;rw[G.1,G.2,Lk];rfl)
end Go.Proofs.YtafnhieaeejlcaaDoor
