/- Walks through the functions that the laws of the convoys reach: what each of them gives for what it gets (contracts), written out by a program of ours; without a condition but those that stand in each theorem. -/
import Derived.Test.YtafnhieaeejlcaaDoorCt14
set_option linter.all false
namespace Go.Proofs.YtafnhieaeejlcaaDoor
open Go Go.Ab
set_option maxRecDepth 100000
set_option maxHeartbeats 4000000
attribute [local irreducible] W WL QOp NOp thenQ blockQ FinQ FinR WG FQ Want FinW WI WIL thenI blockI
theorem along_bnd {way len x : Int} (h : 0 ≤ x ∧ x ≤ len) : 0 ≤ alongI way len x ∧ alongI way len x ≤ len := by unfold alongI; split <;> omega
theorem roadP_bnd {way len : Int} {g : Span} (h1 : 0 ≤ g.lo ∧ g.lo ≤ len) (h2 : 0 ≤ g.hi ∧ g.hi ≤ len) : 0 ≤ (roadP way len g).lo ∧ (roadP way len g).lo ≤ len ∧ 0 ≤ (roadP way len g).hi ∧ (roadP way len g).hi ≤ len := by
  have a := along_bnd (way := way) h1
  have b := along_bnd (way := way) h2
  simp only [roadP]; omega
theorem laneP_bnd {t : Truck} {len m : Int} (h : ROk len t) : 0 ≤ (laneP t len m).1.lo ∧ (laneP t len m).1.lo ≤ len ∧ 0 ≤ (laneP t len m).1.hi ∧ (laneP t len m).1.hi ≤ len := by
  obtain ⟨b1, b2, b3, b4⟩ := atP_bnd (m := m) h
  obtain ⟨p1, p2⟩ := stopP_bnd (m := m) h
  have l1 := h.l1
  have hz : (0 : Int) ≤ (default : Span).lo ∧ (default : Span).lo ≤ len ∧ 0 ≤ (default : Span).hi ∧ (default : Span).hi ≤ len := ⟨Int.le_refl 0, by show (0:Int) ≤ len; omega, Int.le_refl 0, by show (0:Int) ≤ len; omega⟩
  unfold laneP
  split
  · exact hz
  · split
    · exact roadP_bnd ⟨b1, b2⟩ ⟨b3, b4⟩
    · split
      · exact hz
      · exact roadP_bnd ⟨b1, b2⟩ ⟨by show 0 ≤ stopP t.way len m t.holds - 1; omega, by show stopP t.way len m t.holds - 1 ≤ len; omega⟩
/-- The least metres at which two are too near. -/
def nearP (gap : Int) (x y : Span × Int) : Int × Int × Bool :=
  if x.2 = 2 ∨ y.2 = 2 then (0, 0, false)
  else (max x.1.lo (y.1.lo - gap + 1), max y.1.lo (max x.1.lo (y.1.lo - gap + 1) - gap + 1), decide (max x.1.lo (y.1.lo - gap + 1) ≤ x.1.hi) && decide (max y.1.lo (max x.1.lo (y.1.lo - gap + 1) - gap + 1) ≤ y.1.hi))
theorem c121 (gap fails : Int) (t u : Truck) (len m : Int) (ht : ROk len t) (hu : ROk len u) (g0 : 0 ≤ gap) (g1 : gap ≤ 100000) (m0 : 0 ≤ m) (m1 : m ≤ 100000) :
    Contract seat 121 [.agg [.int .i64 gap, .int .i64 fails], .agg (encTrack t len), .agg (encTrack u len), .int .i64 m]
      (.tup [.int .i64 (nearP gap (laneP t len m) (laneP u len m)).1, .int .i64 (nearP gap (laneP t len m) (laneP u len m)).2.1, .bool (nearP gap (laneP t len m) (laneP u len m)).2.2]) := by
  obtain ⟨b1, b2, b3, b4⟩ := laneP_bnd (m := m) ht
  obtain ⟨d1, d2, d3, d4⟩ := laneP_bnd (m := m) hu
  have l2 := ht.l2
  have r1 := c85 t len m ht m0 m1
  have r2 := c85 u len m hu m0 m1
  generalize laneP t len m = x at *
  generalize laneP u len m = y at *
  refine contract_introW (fn := Tryd.f121) Tryd.func121 rfl (by kernel_rfl) rfl ?_ ?_ ?_
  · exact PureL.cons (.agg _ (PureL.cons (.int _ _) (PureL.cons (.int _ _) PureL.nil))) (PureL.cons (.agg _ (pure_track _ _)) (PureL.cons (.agg _ (pure_track _ _)) (PureL.cons (.int _ _) PureL.nil)))
  · exact .tup _ (PureL.cons (.int _ _) (PureL.cons (.int _ _) (PureL.cons (.bool _) PureL.nil)))
  intro w κ
  repeat' (first
    | (apply WL_q; apply Eq.refl; apply Eq.refl; (first | (apply q_mvI <;> apply Eq.refl) | (apply q_asI <;> apply Eq.refl) | (apply q_ldb <;> apply Eq.refl) | (apply q_fab <;> apply Eq.refl) | (apply q_cmp <;> apply Eq.refl) | (apply q_mvB <;> apply Eq.refl) | (apply q_asB <;> apply Eq.refl) | (apply q_arith <;> (first | apply Eq.refl | omega)) | (apply q_ext <;> apply Eq.refl) | (apply q_pkT <;> apply Eq.refl) | (apply q_pkF <;> apply Eq.refl) | (apply q_ldba <;> apply Eq.refl) | (apply q_max <;> apply Eq.refl) | (apply q_mvT <;> apply Eq.refl)))
    | apply W_seq
    | apply W_region
    | apply T_normal
    | apply WL_nil
    | apply T_ret
    | apply W_skip
    | apply W_ret
    | (apply W_condT; apply Eq.refl)
    | (apply WL_call; apply Eq.refl; apply Eq.refl; rotate_left 1; apply Eq.refl; rotate_right 1; exact (r1); apply Eq.refl)
    | (apply WL_call; apply Eq.refl; apply Eq.refl; rotate_left 1; apply Eq.refl; rotate_right 1; exact (r2); apply Eq.refl)
    | (apply WL_n; apply Eq.refl; (first | (apply n_boxa <;> apply Eq.refl) | (apply n_alloc <;> apply Eq.refl) | (apply n_stb <;> apply Eq.refl)))
    | (apply WL_yes; apply Eq.refl; apply Eq.refl; apply Eq.refl)
    | (apply WL_no; apply Eq.refl; apply Eq.refl; apply Eq.refl; apply Eq.refl; apply Eq.refl)
    | (apply L_tD; apply Eq.refl; apply Eq.refl; apply Eq.refl; intro _; rotate_left 1; intro _; rotate_left 1)
    | apply W_regionG
    | (apply WG_nil; kernel_rfl)
    | (apply WG_q; (first | (apply want_none; apply Eq.refl) | (apply want_some; apply Eq.refl; apply Eq.refl; apply Eq.refl)); apply Eq.refl; first | (apply fq_bld <;> apply Eq.refl) | (apply fq_blda <;> apply Eq.refl) | (apply fq_fn; apply Eq.refl) | (apply fq_mf; apply Eq.refl) | (apply FQ_intro; intro _; (first | (apply q_mvI <;> apply Eq.refl) | (apply q_asI <;> apply Eq.refl) | (apply q_ldb <;> apply Eq.refl) | (apply q_fab <;> apply Eq.refl) | (apply q_cmp <;> apply Eq.refl) | (apply q_mvB <;> apply Eq.refl) | (apply q_asB <;> apply Eq.refl) | (apply q_arith <;> (first | apply Eq.refl | omega)) | (apply q_ext <;> apply Eq.refl) | (apply q_pkT <;> apply Eq.refl) | (apply q_pkF <;> apply Eq.refl) | (apply q_ldba <;> apply Eq.refl) | (apply q_max <;> apply Eq.refl) | (apply q_mvT <;> apply Eq.refl))))
    | (apply WG_no; apply Eq.refl; apply Eq.refl; apply Eq.refl; apply Eq.refl; apply Eq.refl)
    | (apply G_tD; apply Eq.refl; apply Eq.refl; apply Eq.refl; intro _; rotate_left 1; intro _; rotate_left 1)
    | (apply W_cD; apply Eq.refl; intro _; rotate_left 1; intro _; rotate_left 1))
  · rename_i a1
    have e : nearP gap x y = (0, 0, false) := by unfold nearP; rw [if_pos (.inl a1)]
    rw [e]; ((try apply fin_now); first | (focus (apply fin_3; apply Eq.refl; (first | (apply rv_I; apply Eq.refl) | (apply rv_B; apply Eq.refl)); (first | (apply rv_I; apply Eq.refl) | (apply rv_B; apply Eq.refl)); (first | (apply rv_I; apply Eq.refl) | (apply rv_B; apply Eq.refl)); all_goals try apply Eq.refl)))
  · rename_i a1 a2
    have e : nearP gap x y = (0, 0, false) := by unfold nearP; rw [if_pos (.inr a2)]
    rw [e]; ((try apply fin_now); first | (focus (apply fin_3; apply Eq.refl; (first | (apply rv_I; apply Eq.refl) | (apply rv_B; apply Eq.refl)); (first | (apply rv_I; apply Eq.refl) | (apply rv_B; apply Eq.refl)); (first | (apply rv_I; apply Eq.refl) | (apply rv_B; apply Eq.refl)); all_goals try apply Eq.refl)))
  · rename_i a1 a2 a3
    have hn : ¬ (x.2 = 2 ∨ y.2 = 2) := fun h => h.elim a1 a2
    simp only [nearP, if_neg hn]
    ((try apply fin_now); first | (focus (apply fin_3; apply Eq.refl; (first | (apply rv_I; apply Eq.refl) | (apply rv_B; apply Eq.refl)); (first | (apply rv_I; apply Eq.refl) | (apply rv_B; apply Eq.refl)); (first | (apply rv_I; apply Eq.refl) | (apply rv_B; apply Eq.refl)); all_goals try apply Eq.refl)))
    simp [a3]
  · rename_i a1 a2 a3
    have hn : ¬ (x.2 = 2 ∨ y.2 = 2) := fun h => h.elim a1 a2
    simp only [nearP, if_neg hn]
    ((try apply fin_now); first | (focus (apply fin_3; apply Eq.refl; (first | (apply rv_I; apply Eq.refl) | (apply rv_B; apply Eq.refl)); (first | (apply rv_I; apply Eq.refl) | (apply rv_B; apply Eq.refl)); (first | (apply rv_I; apply Eq.refl) | (apply rv_B; apply Eq.refl)); all_goals try apply Eq.refl)))
    simp [a3]
structure Meeting where
  m : Int
  i : Int
  k : Int
  fi : Bool
  fk : Bool
  p : Int
  q : Int
  deriving DecidableEq
instance : Inhabited Meeting := ⟨⟨0, 0, 0, false, false, 0, 0⟩⟩
def encMeeting (x : Meeting) : List D := [.int .i64 x.m, .int .i64 x.i, .int .i64 x.k, .bool x.fi, .bool x.fk, .int .i64 x.p, .int .i64 x.q]
theorem pure_meeting (x : Meeting) : PureL (encMeeting x) := PureL.cons (.int _ _) (PureL.cons (.int _ _) (PureL.cons (.int _ _) (PureL.cons (.bool _) (PureL.cons (.bool _) (PureL.cons (.int _ _) (PureL.cons (.int _ _) PureL.nil))))))
/-- The tracks of a truck: if it does not fail, and if it does. -/
def encLanes (t : Truck) (len : Int) : List D := encTrack (freeT t false) len ++ encTrack (freeT t true) len
theorem pure_lanes (t : Truck) (len : Int) : PureL (encLanes t len) := fun d hd => by
  rcases List.mem_append.1 hd with h | h <;> exact pure_track _ _ d h
def caseL : List (Bool × Bool) := [(false, false), (true, false), (false, true), (true, true)]
def nearC (gap : Int) (t u : Truck) (len m : Int) (b : Bool × Bool) : Int × Int × Bool := nearP gap (laneP (freeT t b.1) len m) (laneP (freeT u b.2) len m)
def bI (b : Bool) : Int := if b then 1 else 0
def meetC (gap fails : Int) (t u : Truck) (len m : Int) : List (Bool × Bool) → Option Meeting
  | [] => none
  | b :: l => if bI b.1 + bI b.2 > fails then meetC gap fails t u len m l
    else if (nearC gap t u len m b).2.2 then some ⟨m, 0, 0, b.1, b.2, (nearC gap t u len m b).1, (nearC gap t u len m b).2.1⟩ else meetC gap fails t u len m l
def meetP (gap fails : Int) (t u : Truck) (len m : Int) : Option Meeting := meetC gap fails t u len m caseL
theorem meet_skip {gap fails : Int} {t u : Truck} {len m : Int} {b : Bool × Bool} {l : List (Bool × Bool)} {R : Option Meeting} (h : meetC gap fails t u len m (b :: l) = R) (h1 : bI b.1 + bI b.2 > fails) : meetC gap fails t u len m l = R := by
  rw [← h, meetC, if_pos h1]
theorem meet_hit {gap fails : Int} {t u : Truck} {len m : Int} {b : Bool × Bool} {l : List (Bool × Bool)} {R : Option Meeting} (h : meetC gap fails t u len m (b :: l) = R) (h1 : ¬ bI b.1 + bI b.2 > fails) (h2 : (nearC gap t u len m b).2.2 = true) :
    R = some ⟨m, 0, 0, b.1, b.2, (nearC gap t u len m b).1, (nearC gap t u len m b).2.1⟩ := by
  rw [← h, meetC, if_neg h1, if_pos h2]
theorem meet_next {gap fails : Int} {t u : Truck} {len m : Int} {b : Bool × Bool} {l : List (Bool × Bool)} {R : Option Meeting} (h : meetC gap fails t u len m (b :: l) = R) (h1 : ¬ bI b.1 + bI b.2 > fails) (h2 : (nearC gap t u len m b).2.2 = false) : meetC gap fails t u len m l = R := by
  rw [← h, meetC, if_neg h1, h2]; rfl
def optM : Option Meeting → Meeting
  | some x => x
  | none => default
attribute [local irreducible] nearC
theorem c109 (gap fails : Int) (t u : Truck) (len m : Int) (ht : ROk len t) (hu : ROk len u) (g0 : 0 ≤ gap) (g1 : gap ≤ 100000) (m0 : 0 ≤ m) (m1 : m ≤ 100000) :
    Contract seat 109 [.agg [.int .i64 gap, .int .i64 fails], .agg (encLanes t len), .agg (encLanes u len), .int .i64 m]
      (.tup [.agg (encMeeting (optM (meetP gap fails t u len m))), .bool (meetP gap fails t u len m).isSome]) := by
  have hnear : ∀ b : Bool × Bool, Contract seat 121 [.agg [.int .i64 gap, .int .i64 fails], .agg (encTrack (freeT t b.1) len), .agg (encTrack (freeT u b.2) len), .int .i64 m]
      (.tup [.int .i64 (nearC gap t u len m b).1, .int .i64 (nearC gap t u len m b).2.1, .bool (nearC gap t u len m b).2.2]) := fun b => by
    unfold nearC; exact c121 gap fails _ _ len m (ht.free _) (hu.free _) g0 g1 m0 m1
  refine contract_introW (fn := Tryd.f109) Tryd.func109 rfl (by kernel_rfl) rfl ?_ ?_ ?_
  · exact PureL.cons (.agg _ (PureL.cons (.int _ _) (PureL.cons (.int _ _) PureL.nil))) (PureL.cons (.agg _ (pure_lanes _ _)) (PureL.cons (.agg _ (pure_lanes _ _)) (PureL.cons (.int _ _) PureL.nil)))
  · exact .tup _ (PureL.cons (.agg _ (pure_meeting _)) (PureL.cons (.bool _) PureL.nil))
  intro w κ
  have hM : meetC gap fails t u len m caseL = meetP gap fails t u len m := rfl
  generalize meetP gap fails t u len m = R at *
  repeat' (first
    | (apply WL_q; apply Eq.refl; apply Eq.refl; (first | (apply q_mvI <;> apply Eq.refl) | (apply q_asI <;> apply Eq.refl) | (apply q_ldb <;> apply Eq.refl) | (apply q_fab <;> apply Eq.refl) | (apply q_cmp <;> apply Eq.refl) | (apply q_mvB <;> apply Eq.refl) | (apply q_asB <;> apply Eq.refl) | (apply q_arith <;> (first | apply Eq.refl | omega)) | (apply q_ext <;> apply Eq.refl) | (apply q_ldba <;> apply Eq.refl) | (apply q_ldra <;> apply Eq.refl) | (apply q_bld <;> apply Eq.refl) | (apply q_mvT <;> apply Eq.refl) | (apply q_iab; apply Eq.refl; apply Eq.refl; apply Eq.refl; apply Eq.refl; (first | omega | decide); apply Eq.refl; apply Eq.refl; (first | omega | decide); apply Eq.refl; apply Eq.refl) | (apply q_idx; apply Eq.refl; apply Eq.refl; apply Eq.refl; (first | omega | decide); apply Eq.refl; apply Eq.refl; (first | omega | decide); apply Eq.refl; apply Eq.refl; apply Eq.refl)))
    | apply W_seq
    | apply W_region
    | apply T_normal
    | apply WL_nil
    | apply T_exit
    | apply T_ret
    | apply B_normal
    | apply B_ret
    | apply B_exit_eq
    | apply W_skip
    | apply W_exit
    | apply W_ret
    | apply W_block
    | (apply W_condT; apply Eq.refl)
    | (apply W_condF; apply Eq.refl)
    | (apply WL_n; apply Eq.refl; (first | (apply n_boxa <;> apply Eq.refl) | (apply n_alloc <;> apply Eq.refl) | (apply n_stb <;> apply Eq.refl)))
    | apply W_regionG
    | (apply WG_nil; kernel_rfl)
    | (apply WG_q; (first | (apply want_none; apply Eq.refl) | (apply want_some; apply Eq.refl; apply Eq.refl; apply Eq.refl)); apply Eq.refl; first | (apply fq_bld <;> apply Eq.refl) | (apply fq_blda <;> apply Eq.refl) | (apply fq_fn; apply Eq.refl) | (apply fq_mf; apply Eq.refl) | (apply FQ_intro; intro _; (first | (apply q_mvI <;> apply Eq.refl) | (apply q_asI <;> apply Eq.refl) | (apply q_ldb <;> apply Eq.refl) | (apply q_fab <;> apply Eq.refl) | (apply q_cmp <;> apply Eq.refl) | (apply q_mvB <;> apply Eq.refl) | (apply q_asB <;> apply Eq.refl) | (apply q_arith <;> (first | apply Eq.refl | omega)) | (apply q_ext <;> apply Eq.refl) | (apply q_ldba <;> apply Eq.refl) | (apply q_ldra <;> apply Eq.refl) | (apply q_bld <;> apply Eq.refl) | (apply q_mvT <;> apply Eq.refl) | (apply q_iab; apply Eq.refl; apply Eq.refl; apply Eq.refl; apply Eq.refl; (first | omega | decide); apply Eq.refl; apply Eq.refl; (first | omega | decide); apply Eq.refl; apply Eq.refl) | (apply q_idx; apply Eq.refl; apply Eq.refl; apply Eq.refl; (first | omega | decide); apply Eq.refl; apply Eq.refl; (first | omega | decide); apply Eq.refl; apply Eq.refl; apply Eq.refl))))
    | (apply W_cD; apply Eq.refl; intro _; rotate_left 1; intro _; rotate_left 1)
    | (apply W_cond; apply Eq.refl; intro _; rotate_left 1; intro _; rotate_left 1))
  refine W_loopR [3, 4, 5, 6, 8, 15] [4, 5, 6] (fun k : Nat => [(16, .int .i64 k)]) (fun _ => [(8, 1)]) (fun _ => [(8, .box (encMeeting default))])
    (fun k => k ≤ 4 ∧ meetC gap fails t u len m (caseL.drop k) = R) (fun k => 4 - k) 0 ⟨Nat.zero_le _, hM⟩ (by refine ⟨?_, ?_, ?_⟩ <;> repeat' (first | exact trivial | apply And.intro | apply Eq.refl | (apply toI; apply Eq.refl; first | omega | assumption) | (apply toB; apply Eq.refl; repeat' (first | apply Eq.refl | apply consS | (apply consI; first | apply Eq.refl | omega | assumption))))) (fun k g hi => ?_)
  obtain ⟨hk, hi⟩ := hi
  obtain rfl | rfl | rfl | rfl | rfl : k = 0 ∨ k = 1 ∨ k = 2 ∨ k = 3 ∨ k = 4 := by omega
  · repeat' (first
    | (apply WL_q; apply Eq.refl; apply Eq.refl; (first | (apply q_mvI <;> apply Eq.refl) | (apply q_asI <;> apply Eq.refl) | (apply q_ldb <;> apply Eq.refl) | (apply q_fab <;> apply Eq.refl) | (apply q_cmp <;> apply Eq.refl) | (apply q_mvB <;> apply Eq.refl) | (apply q_asB <;> apply Eq.refl) | (apply q_arith <;> (first | apply Eq.refl | omega)) | (apply q_ext <;> apply Eq.refl) | (apply q_ldba <;> apply Eq.refl) | (apply q_ldra <;> apply Eq.refl) | (apply q_bld <;> apply Eq.refl) | (apply q_mvT <;> apply Eq.refl) | (apply q_iab; apply Eq.refl; apply Eq.refl; apply Eq.refl; apply Eq.refl; (first | omega | decide); apply Eq.refl; apply Eq.refl; (first | omega | decide); apply Eq.refl; apply Eq.refl) | (apply q_idx; apply Eq.refl; apply Eq.refl; apply Eq.refl; (first | omega | decide); apply Eq.refl; apply Eq.refl; (first | omega | decide); apply Eq.refl; apply Eq.refl; apply Eq.refl)))
    | apply W_seq
    | apply W_region
    | apply T_normal
    | apply WL_nil
    | apply T_exit
    | apply T_ret
    | apply B_normal
    | apply B_ret
    | apply B_exit_eq
    | apply W_skip
    | apply W_exit
    | apply W_ret
    | apply W_block
    | (apply W_condT; apply Eq.refl)
    | (apply W_condF; apply Eq.refl)
    | (apply WL_n; apply Eq.refl; (first | (apply n_boxa <;> apply Eq.refl) | (apply n_alloc <;> apply Eq.refl) | (apply n_stb <;> apply Eq.refl)))
    | apply W_regionG
    | (apply WG_nil; kernel_rfl)
    | (apply WG_q; (first | (apply want_none; apply Eq.refl) | (apply want_some; apply Eq.refl; apply Eq.refl; apply Eq.refl)); apply Eq.refl; first | (apply fq_bld <;> apply Eq.refl) | (apply fq_blda <;> apply Eq.refl) | (apply fq_fn; apply Eq.refl) | (apply fq_mf; apply Eq.refl) | (apply FQ_intro; intro _; (first | (apply q_mvI <;> apply Eq.refl) | (apply q_asI <;> apply Eq.refl) | (apply q_ldb <;> apply Eq.refl) | (apply q_fab <;> apply Eq.refl) | (apply q_cmp <;> apply Eq.refl) | (apply q_mvB <;> apply Eq.refl) | (apply q_asB <;> apply Eq.refl) | (apply q_arith <;> (first | apply Eq.refl | omega)) | (apply q_ext <;> apply Eq.refl) | (apply q_ldba <;> apply Eq.refl) | (apply q_ldra <;> apply Eq.refl) | (apply q_bld <;> apply Eq.refl) | (apply q_mvT <;> apply Eq.refl) | (apply q_iab; apply Eq.refl; apply Eq.refl; apply Eq.refl; apply Eq.refl; (first | omega | decide); apply Eq.refl; apply Eq.refl; (first | omega | decide); apply Eq.refl; apply Eq.refl) | (apply q_idx; apply Eq.refl; apply Eq.refl; apply Eq.refl; (first | omega | decide); apply Eq.refl; apply Eq.refl; (first | omega | decide); apply Eq.refl; apply Eq.refl; apply Eq.refl))))
    | (apply WG_call; (first | (apply want_none; apply Eq.refl) | (apply want_some; apply Eq.refl; apply Eq.refl; apply Eq.refl)); apply Eq.refl; apply Eq.refl; apply Eq.refl; exact (hnear (false, false)))
    | (apply W_cD; apply Eq.refl; intro _; rotate_left 1; intro _; rotate_left 1)
    | (apply W_cond; apply Eq.refl; intro _; rotate_left 1; intro _; rotate_left 1))
    · rename_i a1
      exact ⟨1, ⟨by omega, meet_skip hi a1⟩, by omega, (by apply reach_now; refine ⟨?_, ?_, ?_, ?_, ?_⟩ <;> repeat' (first | exact trivial | apply And.intro | apply Eq.refl | (apply toI; apply Eq.refl; first | omega | assumption) | (apply toB; apply Eq.refl; repeat' (first | apply Eq.refl | apply consS | (apply consI; first | apply Eq.refl | omega | assumption)))))⟩
    · rename_i a1 a2
      rw [meet_hit hi a1 a2]
      ((try apply fin_now); first | (focus (apply fin_2; apply Eq.refl; (first | (apply rv_B; apply Eq.refl) | (apply rv_A <;> apply Eq.refl)); (first | (apply rv_B; apply Eq.refl) | (apply rv_A <;> apply Eq.refl)); all_goals try apply Eq.refl)))
    · rename_i a1 a2
      exact ⟨1, ⟨by omega, meet_next hi a1 a2⟩, by omega, (by apply reach_now; refine ⟨?_, ?_, ?_, ?_, ?_⟩ <;> repeat' (first | exact trivial | apply And.intro | apply Eq.refl | (apply toI; apply Eq.refl; first | omega | assumption) | (apply toB; apply Eq.refl; repeat' (first | apply Eq.refl | apply consS | (apply consI; first | apply Eq.refl | omega | assumption)))))⟩
  · repeat' (first
    | (apply WL_q; apply Eq.refl; apply Eq.refl; (first | (apply q_mvI <;> apply Eq.refl) | (apply q_asI <;> apply Eq.refl) | (apply q_ldb <;> apply Eq.refl) | (apply q_fab <;> apply Eq.refl) | (apply q_cmp <;> apply Eq.refl) | (apply q_mvB <;> apply Eq.refl) | (apply q_asB <;> apply Eq.refl) | (apply q_arith <;> (first | apply Eq.refl | omega)) | (apply q_ext <;> apply Eq.refl) | (apply q_ldba <;> apply Eq.refl) | (apply q_ldra <;> apply Eq.refl) | (apply q_bld <;> apply Eq.refl) | (apply q_mvT <;> apply Eq.refl) | (apply q_iab; apply Eq.refl; apply Eq.refl; apply Eq.refl; apply Eq.refl; (first | omega | decide); apply Eq.refl; apply Eq.refl; (first | omega | decide); apply Eq.refl; apply Eq.refl) | (apply q_idx; apply Eq.refl; apply Eq.refl; apply Eq.refl; (first | omega | decide); apply Eq.refl; apply Eq.refl; (first | omega | decide); apply Eq.refl; apply Eq.refl; apply Eq.refl)))
    | apply W_seq
    | apply W_region
    | apply T_normal
    | apply WL_nil
    | apply T_exit
    | apply T_ret
    | apply B_normal
    | apply B_ret
    | apply B_exit_eq
    | apply W_skip
    | apply W_exit
    | apply W_ret
    | apply W_block
    | (apply W_condT; apply Eq.refl)
    | (apply W_condF; apply Eq.refl)
    | (apply WL_n; apply Eq.refl; (first | (apply n_boxa <;> apply Eq.refl) | (apply n_alloc <;> apply Eq.refl) | (apply n_stb <;> apply Eq.refl)))
    | apply W_regionG
    | (apply WG_nil; kernel_rfl)
    | (apply WG_q; (first | (apply want_none; apply Eq.refl) | (apply want_some; apply Eq.refl; apply Eq.refl; apply Eq.refl)); apply Eq.refl; first | (apply fq_bld <;> apply Eq.refl) | (apply fq_blda <;> apply Eq.refl) | (apply fq_fn; apply Eq.refl) | (apply fq_mf; apply Eq.refl) | (apply FQ_intro; intro _; (first | (apply q_mvI <;> apply Eq.refl) | (apply q_asI <;> apply Eq.refl) | (apply q_ldb <;> apply Eq.refl) | (apply q_fab <;> apply Eq.refl) | (apply q_cmp <;> apply Eq.refl) | (apply q_mvB <;> apply Eq.refl) | (apply q_asB <;> apply Eq.refl) | (apply q_arith <;> (first | apply Eq.refl | omega)) | (apply q_ext <;> apply Eq.refl) | (apply q_ldba <;> apply Eq.refl) | (apply q_ldra <;> apply Eq.refl) | (apply q_bld <;> apply Eq.refl) | (apply q_mvT <;> apply Eq.refl) | (apply q_iab; apply Eq.refl; apply Eq.refl; apply Eq.refl; apply Eq.refl; (first | omega | decide); apply Eq.refl; apply Eq.refl; (first | omega | decide); apply Eq.refl; apply Eq.refl) | (apply q_idx; apply Eq.refl; apply Eq.refl; apply Eq.refl; (first | omega | decide); apply Eq.refl; apply Eq.refl; (first | omega | decide); apply Eq.refl; apply Eq.refl; apply Eq.refl))))
    | (apply WG_call; (first | (apply want_none; apply Eq.refl) | (apply want_some; apply Eq.refl; apply Eq.refl; apply Eq.refl)); apply Eq.refl; apply Eq.refl; apply Eq.refl; exact (hnear (true, false)))
    | (apply W_cD; apply Eq.refl; intro _; rotate_left 1; intro _; rotate_left 1)
    | (apply W_cond; apply Eq.refl; intro _; rotate_left 1; intro _; rotate_left 1))
    · rename_i a1
      exact ⟨2, ⟨by omega, meet_skip hi a1⟩, by omega, (by apply reach_now; refine ⟨?_, ?_, ?_, ?_, ?_⟩ <;> repeat' (first | exact trivial | apply And.intro | apply Eq.refl | (apply toI; apply Eq.refl; first | omega | assumption) | (apply toB; apply Eq.refl; repeat' (first | apply Eq.refl | apply consS | (apply consI; first | apply Eq.refl | omega | assumption)))))⟩
    · rename_i a1 a2
      rw [meet_hit hi a1 a2]
      ((try apply fin_now); first | (focus (apply fin_2; apply Eq.refl; (first | (apply rv_B; apply Eq.refl) | (apply rv_A <;> apply Eq.refl)); (first | (apply rv_B; apply Eq.refl) | (apply rv_A <;> apply Eq.refl)); all_goals try apply Eq.refl)))
    · rename_i a1 a2
      exact ⟨2, ⟨by omega, meet_next hi a1 a2⟩, by omega, (by apply reach_now; refine ⟨?_, ?_, ?_, ?_, ?_⟩ <;> repeat' (first | exact trivial | apply And.intro | apply Eq.refl | (apply toI; apply Eq.refl; first | omega | assumption) | (apply toB; apply Eq.refl; repeat' (first | apply Eq.refl | apply consS | (apply consI; first | apply Eq.refl | omega | assumption)))))⟩
  · repeat' (first
    | (apply WL_q; apply Eq.refl; apply Eq.refl; (first | (apply q_mvI <;> apply Eq.refl) | (apply q_asI <;> apply Eq.refl) | (apply q_ldb <;> apply Eq.refl) | (apply q_fab <;> apply Eq.refl) | (apply q_cmp <;> apply Eq.refl) | (apply q_mvB <;> apply Eq.refl) | (apply q_asB <;> apply Eq.refl) | (apply q_arith <;> (first | apply Eq.refl | omega)) | (apply q_ext <;> apply Eq.refl) | (apply q_ldba <;> apply Eq.refl) | (apply q_ldra <;> apply Eq.refl) | (apply q_bld <;> apply Eq.refl) | (apply q_mvT <;> apply Eq.refl) | (apply q_iab; apply Eq.refl; apply Eq.refl; apply Eq.refl; apply Eq.refl; (first | omega | decide); apply Eq.refl; apply Eq.refl; (first | omega | decide); apply Eq.refl; apply Eq.refl) | (apply q_idx; apply Eq.refl; apply Eq.refl; apply Eq.refl; (first | omega | decide); apply Eq.refl; apply Eq.refl; (first | omega | decide); apply Eq.refl; apply Eq.refl; apply Eq.refl)))
    | apply W_seq
    | apply W_region
    | apply T_normal
    | apply WL_nil
    | apply T_exit
    | apply T_ret
    | apply B_normal
    | apply B_ret
    | apply B_exit_eq
    | apply W_skip
    | apply W_exit
    | apply W_ret
    | apply W_block
    | (apply W_condT; apply Eq.refl)
    | (apply W_condF; apply Eq.refl)
    | (apply WL_n; apply Eq.refl; (first | (apply n_boxa <;> apply Eq.refl) | (apply n_alloc <;> apply Eq.refl) | (apply n_stb <;> apply Eq.refl)))
    | apply W_regionG
    | (apply WG_nil; kernel_rfl)
    | (apply WG_q; (first | (apply want_none; apply Eq.refl) | (apply want_some; apply Eq.refl; apply Eq.refl; apply Eq.refl)); apply Eq.refl; first | (apply fq_bld <;> apply Eq.refl) | (apply fq_blda <;> apply Eq.refl) | (apply fq_fn; apply Eq.refl) | (apply fq_mf; apply Eq.refl) | (apply FQ_intro; intro _; (first | (apply q_mvI <;> apply Eq.refl) | (apply q_asI <;> apply Eq.refl) | (apply q_ldb <;> apply Eq.refl) | (apply q_fab <;> apply Eq.refl) | (apply q_cmp <;> apply Eq.refl) | (apply q_mvB <;> apply Eq.refl) | (apply q_asB <;> apply Eq.refl) | (apply q_arith <;> (first | apply Eq.refl | omega)) | (apply q_ext <;> apply Eq.refl) | (apply q_ldba <;> apply Eq.refl) | (apply q_ldra <;> apply Eq.refl) | (apply q_bld <;> apply Eq.refl) | (apply q_mvT <;> apply Eq.refl) | (apply q_iab; apply Eq.refl; apply Eq.refl; apply Eq.refl; apply Eq.refl; (first | omega | decide); apply Eq.refl; apply Eq.refl; (first | omega | decide); apply Eq.refl; apply Eq.refl) | (apply q_idx; apply Eq.refl; apply Eq.refl; apply Eq.refl; (first | omega | decide); apply Eq.refl; apply Eq.refl; (first | omega | decide); apply Eq.refl; apply Eq.refl; apply Eq.refl))))
    | (apply WG_call; (first | (apply want_none; apply Eq.refl) | (apply want_some; apply Eq.refl; apply Eq.refl; apply Eq.refl)); apply Eq.refl; apply Eq.refl; apply Eq.refl; exact (hnear (false, true)))
    | (apply W_cD; apply Eq.refl; intro _; rotate_left 1; intro _; rotate_left 1)
    | (apply W_cond; apply Eq.refl; intro _; rotate_left 1; intro _; rotate_left 1))
    · rename_i a1
      exact ⟨3, ⟨by omega, meet_skip hi a1⟩, by omega, (by apply reach_now; refine ⟨?_, ?_, ?_, ?_, ?_⟩ <;> repeat' (first | exact trivial | apply And.intro | apply Eq.refl | (apply toI; apply Eq.refl; first | omega | assumption) | (apply toB; apply Eq.refl; repeat' (first | apply Eq.refl | apply consS | (apply consI; first | apply Eq.refl | omega | assumption)))))⟩
    · rename_i a1 a2
      rw [meet_hit hi a1 a2]
      ((try apply fin_now); first | (focus (apply fin_2; apply Eq.refl; (first | (apply rv_B; apply Eq.refl) | (apply rv_A <;> apply Eq.refl)); (first | (apply rv_B; apply Eq.refl) | (apply rv_A <;> apply Eq.refl)); all_goals try apply Eq.refl)))
    · rename_i a1 a2
      exact ⟨3, ⟨by omega, meet_next hi a1 a2⟩, by omega, (by apply reach_now; refine ⟨?_, ?_, ?_, ?_, ?_⟩ <;> repeat' (first | exact trivial | apply And.intro | apply Eq.refl | (apply toI; apply Eq.refl; first | omega | assumption) | (apply toB; apply Eq.refl; repeat' (first | apply Eq.refl | apply consS | (apply consI; first | apply Eq.refl | omega | assumption)))))⟩
  · repeat' (first
    | (apply WL_q; apply Eq.refl; apply Eq.refl; (first | (apply q_mvI <;> apply Eq.refl) | (apply q_asI <;> apply Eq.refl) | (apply q_ldb <;> apply Eq.refl) | (apply q_fab <;> apply Eq.refl) | (apply q_cmp <;> apply Eq.refl) | (apply q_mvB <;> apply Eq.refl) | (apply q_asB <;> apply Eq.refl) | (apply q_arith <;> (first | apply Eq.refl | omega)) | (apply q_ext <;> apply Eq.refl) | (apply q_ldba <;> apply Eq.refl) | (apply q_ldra <;> apply Eq.refl) | (apply q_bld <;> apply Eq.refl) | (apply q_mvT <;> apply Eq.refl) | (apply q_iab; apply Eq.refl; apply Eq.refl; apply Eq.refl; apply Eq.refl; (first | omega | decide); apply Eq.refl; apply Eq.refl; (first | omega | decide); apply Eq.refl; apply Eq.refl) | (apply q_idx; apply Eq.refl; apply Eq.refl; apply Eq.refl; (first | omega | decide); apply Eq.refl; apply Eq.refl; (first | omega | decide); apply Eq.refl; apply Eq.refl; apply Eq.refl)))
    | apply W_seq
    | apply W_region
    | apply T_normal
    | apply WL_nil
    | apply T_exit
    | apply T_ret
    | apply B_normal
    | apply B_ret
    | apply B_exit_eq
    | apply W_skip
    | apply W_exit
    | apply W_ret
    | apply W_block
    | (apply W_condT; apply Eq.refl)
    | (apply W_condF; apply Eq.refl)
    | (apply WL_n; apply Eq.refl; (first | (apply n_boxa <;> apply Eq.refl) | (apply n_alloc <;> apply Eq.refl) | (apply n_stb <;> apply Eq.refl)))
    | apply W_regionG
    | (apply WG_nil; kernel_rfl)
    | (apply WG_q; (first | (apply want_none; apply Eq.refl) | (apply want_some; apply Eq.refl; apply Eq.refl; apply Eq.refl)); apply Eq.refl; first | (apply fq_bld <;> apply Eq.refl) | (apply fq_blda <;> apply Eq.refl) | (apply fq_fn; apply Eq.refl) | (apply fq_mf; apply Eq.refl) | (apply FQ_intro; intro _; (first | (apply q_mvI <;> apply Eq.refl) | (apply q_asI <;> apply Eq.refl) | (apply q_ldb <;> apply Eq.refl) | (apply q_fab <;> apply Eq.refl) | (apply q_cmp <;> apply Eq.refl) | (apply q_mvB <;> apply Eq.refl) | (apply q_asB <;> apply Eq.refl) | (apply q_arith <;> (first | apply Eq.refl | omega)) | (apply q_ext <;> apply Eq.refl) | (apply q_ldba <;> apply Eq.refl) | (apply q_ldra <;> apply Eq.refl) | (apply q_bld <;> apply Eq.refl) | (apply q_mvT <;> apply Eq.refl) | (apply q_iab; apply Eq.refl; apply Eq.refl; apply Eq.refl; apply Eq.refl; (first | omega | decide); apply Eq.refl; apply Eq.refl; (first | omega | decide); apply Eq.refl; apply Eq.refl) | (apply q_idx; apply Eq.refl; apply Eq.refl; apply Eq.refl; (first | omega | decide); apply Eq.refl; apply Eq.refl; (first | omega | decide); apply Eq.refl; apply Eq.refl; apply Eq.refl))))
    | (apply WG_call; (first | (apply want_none; apply Eq.refl) | (apply want_some; apply Eq.refl; apply Eq.refl; apply Eq.refl)); apply Eq.refl; apply Eq.refl; apply Eq.refl; exact (hnear (true, true)))
    | (apply W_cD; apply Eq.refl; intro _; rotate_left 1; intro _; rotate_left 1)
    | (apply W_cond; apply Eq.refl; intro _; rotate_left 1; intro _; rotate_left 1))
    · rename_i a1
      exact ⟨4, ⟨by omega, meet_skip hi a1⟩, by omega, (by apply reach_now; refine ⟨?_, ?_, ?_, ?_, ?_⟩ <;> repeat' (first | exact trivial | apply And.intro | apply Eq.refl | (apply toI; apply Eq.refl; first | omega | assumption) | (apply toB; apply Eq.refl; repeat' (first | apply Eq.refl | apply consS | (apply consI; first | apply Eq.refl | omega | assumption)))))⟩
    · rename_i a1 a2
      rw [meet_hit hi a1 a2]
      ((try apply fin_now); first | (focus (apply fin_2; apply Eq.refl; (first | (apply rv_B; apply Eq.refl) | (apply rv_A <;> apply Eq.refl)); (first | (apply rv_B; apply Eq.refl) | (apply rv_A <;> apply Eq.refl)); all_goals try apply Eq.refl)))
    · rename_i a1 a2
      exact ⟨4, ⟨by omega, meet_next hi a1 a2⟩, by omega, (by apply reach_now; refine ⟨?_, ?_, ?_, ?_, ?_⟩ <;> repeat' (first | exact trivial | apply And.intro | apply Eq.refl | (apply toI; apply Eq.refl; first | omega | assumption) | (apply toB; apply Eq.refl; repeat' (first | apply Eq.refl | apply consS | (apply consI; first | apply Eq.refl | omega | assumption)))))⟩
  · have hR : R = none := hi.symm
    rw [hR]
    repeat' (first
    | (apply WL_q; apply Eq.refl; apply Eq.refl; (first | (apply q_mvI <;> apply Eq.refl) | (apply q_asI <;> apply Eq.refl) | (apply q_ldb <;> apply Eq.refl) | (apply q_fab <;> apply Eq.refl) | (apply q_cmp <;> apply Eq.refl) | (apply q_mvB <;> apply Eq.refl) | (apply q_asB <;> apply Eq.refl) | (apply q_arith <;> (first | apply Eq.refl | omega)) | (apply q_ext <;> apply Eq.refl) | (apply q_ldba <;> apply Eq.refl) | (apply q_ldra <;> apply Eq.refl) | (apply q_bld <;> apply Eq.refl) | (apply q_mvT <;> apply Eq.refl) | (apply q_iab; apply Eq.refl; apply Eq.refl; apply Eq.refl; apply Eq.refl; (first | omega | decide); apply Eq.refl; apply Eq.refl; (first | omega | decide); apply Eq.refl; apply Eq.refl) | (apply q_idx; apply Eq.refl; apply Eq.refl; apply Eq.refl; (first | omega | decide); apply Eq.refl; apply Eq.refl; (first | omega | decide); apply Eq.refl; apply Eq.refl; apply Eq.refl)))
    | apply W_seq
    | apply W_region
    | apply T_normal
    | apply WL_nil
    | apply T_exit
    | apply T_ret
    | apply B_normal
    | apply B_ret
    | apply B_exit_eq
    | apply W_skip
    | apply W_exit
    | apply W_ret
    | apply W_block
    | (apply W_condT; apply Eq.refl)
    | (apply W_condF; apply Eq.refl)
    | (apply WL_n; apply Eq.refl; (first | (apply n_boxa <;> apply Eq.refl) | (apply n_alloc <;> apply Eq.refl) | (apply n_stb <;> apply Eq.refl)))
    | apply W_regionG
    | (apply WG_nil; kernel_rfl)
    | (apply WG_q; (first | (apply want_none; apply Eq.refl) | (apply want_some; apply Eq.refl; apply Eq.refl; apply Eq.refl)); apply Eq.refl; first | (apply fq_bld <;> apply Eq.refl) | (apply fq_blda <;> apply Eq.refl) | (apply fq_fn; apply Eq.refl) | (apply fq_mf; apply Eq.refl) | (apply FQ_intro; intro _; (first | (apply q_mvI <;> apply Eq.refl) | (apply q_asI <;> apply Eq.refl) | (apply q_ldb <;> apply Eq.refl) | (apply q_fab <;> apply Eq.refl) | (apply q_cmp <;> apply Eq.refl) | (apply q_mvB <;> apply Eq.refl) | (apply q_asB <;> apply Eq.refl) | (apply q_arith <;> (first | apply Eq.refl | omega)) | (apply q_ext <;> apply Eq.refl) | (apply q_ldba <;> apply Eq.refl) | (apply q_ldra <;> apply Eq.refl) | (apply q_bld <;> apply Eq.refl) | (apply q_mvT <;> apply Eq.refl) | (apply q_iab; apply Eq.refl; apply Eq.refl; apply Eq.refl; apply Eq.refl; (first | omega | decide); apply Eq.refl; apply Eq.refl; (first | omega | decide); apply Eq.refl; apply Eq.refl) | (apply q_idx; apply Eq.refl; apply Eq.refl; apply Eq.refl; (first | omega | decide); apply Eq.refl; apply Eq.refl; (first | omega | decide); apply Eq.refl; apply Eq.refl; apply Eq.refl))))
    | (apply W_cD; apply Eq.refl; intro _; rotate_left 1; intro _; rotate_left 1)
    | (apply W_cond; apply Eq.refl; intro _; rotate_left 1; intro _; rotate_left 1))
    ((try apply fin_now); first | (focus (apply fin_2; apply Eq.refl; (first | (apply rv_B; apply Eq.refl) | (apply rv_A <;> apply Eq.refl)); (first | (apply rv_B; apply Eq.refl) | (apply rv_A <;> apply Eq.refl)); all_goals try apply Eq.refl)))
end Go.Proofs.YtafnhieaeejlcaaDoor

