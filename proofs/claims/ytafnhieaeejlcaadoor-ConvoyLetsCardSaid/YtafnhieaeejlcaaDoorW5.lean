/- Walks by computing: what each function of the program that the laws reach gives for what it gets, as plain Lean, and that it is so; without a condition but those that stand in each theorem. -/
import Derived.Test.YtafnhieaeejlcaaDoorW1
import Derived.Test.YtafnhieaeejlcaaDoorW2
import Derived.Test.YtafnhieaeejlcaaDoorW3
import Derived.Test.YtafnhieaeejlcaaDoorW4
set_option linter.all false
namespace Go.Proofs.YtafnhieaeejlcaaDoor
open Go Go.Ab
set_option maxRecDepth 100000
set_option maxHeartbeats 0
attribute [local irreducible] W WL QOp NOp thenQ blockQ FinQ WG FQ Want FinW WI WIL thenI blockI
def slW (t : Truck) (len : Int) (e : Nat) : D := .sl 2 (e + 1) (fun i => encSpan (wayR t len i))
theorem nearC_eq {gap len : Int} {t u : Truck} (ht : ROk len t) (hu : ROk len u) (hg : 1 ≤ gap) (m : Nat) (b : Bool × Bool) : nearQ gap (freeT t b.1) (freeT u b.2) len m = nearC gap t u len m b := by
  unfold nearC; exact nearQ_eq (ht.free _) (hu.free _) hg m
theorem nearQ_no1 {gap len : Int} {t u : Truck} {m : Nat} (h : (onlaneR t len (wayR t len m) m).2 = false) : nearQ gap t u len m = (0, 0, false) := by unfold nearQ; rw [if_pos h]
theorem nearQ_no2 {gap len : Int} {t u : Truck} {m : Nat} (h : (onlaneR u len (wayR u len m) m).2 = false) : (nearQ gap t u len m).2.2 = false := by
  unfold nearQ; rw [if_pos h]; split <;> rfl
theorem nearQ_yes {gap len : Int} {t u : Truck} {m : Nat} (h : (onlaneR t len (wayR t len m) m).2 = true) (h2 : (onlaneR u len (wayR u len m) m).2 = true) :
    nearQ gap t u len m = nearR (roadR t.way len (onlaneR t len (wayR t len m) m).1) (roadR u.way len (onlaneR u len (wayR u len m) m).1) gap := by
  unfold nearQ; rw [if_neg (by simp [h]), if_neg (by simp [h2])]
theorem road_bnd {way len : Int} {g : Span} (h : -1 ≤ g.lo ∧ g.lo ≤ 100000) (h' : -1 ≤ g.hi ∧ g.hi ≤ 100000) (h1 : 1 ≤ len) (h2 : len ≤ 100000) : -1000000 ≤ (roadR way len g).lo ∧ (roadR way len g).lo ≤ 1000000 := by
  unfold roadR; split
  · show -1000000 ≤ len - g.hi ∧ len - g.hi ≤ 1000000; omega
  · omega
theorem onlane_bnd {t : Truck} {len : Int} (h : ROk len t) {m : Nat} : (-1 ≤ (onlaneR t len (wayR t len m) m).1.lo ∧ (onlaneR t len (wayR t len m) m).1.lo ≤ 100000) ∧ (-1 ≤ (onlaneR t len (wayR t len m) m).1.hi ∧ (onlaneR t len (wayR t len m) m).1.hi ≤ 100000) := by
  obtain ⟨b1, b2, b3, _⟩ := way_bnds h (m := m)
  have := h.l2
  unfold onlaneR
  refine ⟨⟨by show -1 ≤ (wayR t len m).lo; omega, by show (wayR t len m).lo ≤ _; omega⟩, ?_⟩
  show -1 ≤ (if laneB t len (wayR t len m).hi m = true then (wayR t len m).hi else (wayR t len m).hi - 1) ∧ (if laneB t len (wayR t len m).hi m = true then (wayR t len m).hi else (wayR t len m).hi - 1) ≤ 100000
  split <;> omega
attribute [local irreducible] maxUp wayR onlaneR nearR roadR nearQ nearC arrS
theorem c28 (c : Convoy) : Contract seat 28 [.agg (encConvoy c)] (.tup [.agg (encMeeting (if chkConvoy c = 0 then optM (meetingP c) else default)), .int .i64 (if chkConvoy c = 0 then (if (meetingP c).isSome then 0 else 7) else chkConvoy c)]) := by
  refine contract_introW (fn := Tryd.f28) Tryd.func28 rfl (by kernel_rfl) rfl ?_ ?_ ?_
  · exact PureL.cons (.agg _ (pure_convoy c)) PureL.nil
  · exact .tup _ (PureL.cons (.agg _ (pure_meeting _)) (PureL.cons (.int _ _) PureL.nil))
  intro w κ
  by_cases h0 : chkConvoy c = 0
  rotate_left 1
  · rw [if_neg h0, if_neg h0]
    repeat' (first
    | (apply WL_q; apply Eq.refl; apply Eq.refl; (first | (apply q_mvI <;> apply Eq.refl) | (apply q_asI <;> apply Eq.refl) | (apply q_ldb <;> apply Eq.refl) | (apply q_fab <;> apply Eq.refl) | (apply q_cmp <;> apply Eq.refl) | (apply q_mvB <;> apply Eq.refl) | (apply q_asB <;> apply Eq.refl) | (apply q_not <;> apply Eq.refl) | (apply q_ldr <;> apply Eq.refl) | (apply q_arith <;> (first | apply Eq.refl | omega)) | (apply q_len <;> apply Eq.refl) | (apply q_ext <;> apply Eq.refl) | (apply q_pkT <;> apply Eq.refl) | (apply q_pkF <;> apply Eq.refl) | (apply q_ia <;> (first | apply Eq.refl | omega)) | (apply q_ldba <;> apply Eq.refl) | (apply q_ldra <;> apply Eq.refl) | (apply q_bld <;> apply Eq.refl) | (apply q_mvS <;> apply Eq.refl) | (apply q_mvO <;> apply Eq.refl) | (apply q_asO <;> apply Eq.refl) | (apply q_asN <;> apply Eq.refl) | (apply q_blda <;> apply Eq.refl) | (apply q_mvT <;> apply Eq.refl) | (apply q_iar; apply Eq.refl; apply Eq.refl; apply Eq.refl; (first | omega | decide); apply Eq.refl; apply Eq.refl; (first | omega | decide); apply Eq.refl; apply Eq.refl) | (apply q_iab; apply Eq.refl; apply Eq.refl; apply Eq.refl; apply Eq.refl; (first | omega | decide); apply Eq.refl; apply Eq.refl; (first | omega | decide); apply Eq.refl; apply Eq.refl)))
    | apply W_seq
    | apply W_region
    | apply T_normal
    | apply WL_nil
    | apply T_exit
    | apply T_ret
    | apply B_normal
    | apply B_ret
    | apply B_exit_eq
    | apply W_skip
    | apply W_exit
    | apply W_ret
    | apply W_block
    | (apply W_condT; apply Eq.refl)
    | (apply W_condF; apply Eq.refl)
    | (apply WL_call; apply Eq.refl; apply Eq.refl; rotate_left 1; apply Eq.refl; rotate_right 1; exact (c22 c); apply Eq.refl)
    | (apply WL_n; apply Eq.refl; (first | (apply n_boxa <;> apply Eq.refl) | (apply n_alloc <;> apply Eq.refl) | (apply n_stb <;> apply Eq.refl)))
    | (apply WL_yes; apply Eq.refl; apply Eq.refl; apply Eq.refl)
    | (apply WL_no; apply Eq.refl; apply Eq.refl; apply Eq.refl; apply Eq.refl; apply Eq.refl)
    | (apply L_tN; apply Eq.refl; apply Eq.refl; apply Eq.refl; intro _; rotate_left 1; intro _; rotate_left 1)
    | apply W_regionG
    | (apply WG_nil; kernel_rfl)
    | (apply WG_q; (first | (apply want_none; apply Eq.refl) | (apply want_some; apply Eq.refl; apply Eq.refl; apply Eq.refl)); apply Eq.refl; first | (apply fq_bld <;> apply Eq.refl) | (apply fq_blda <;> apply Eq.refl) | (apply fq_fn; apply Eq.refl) | (apply fq_mf; apply Eq.refl) | (apply FQ_intro; intro _; (first | (apply q_mvI <;> apply Eq.refl) | (apply q_asI <;> apply Eq.refl) | (apply q_ldb <;> apply Eq.refl) | (apply q_fab <;> apply Eq.refl) | (apply q_cmp <;> apply Eq.refl) | (apply q_mvB <;> apply Eq.refl) | (apply q_asB <;> apply Eq.refl) | (apply q_not <;> apply Eq.refl) | (apply q_ldr <;> apply Eq.refl) | (apply q_arith <;> (first | apply Eq.refl | omega)) | (apply q_len <;> apply Eq.refl) | (apply q_ext <;> apply Eq.refl) | (apply q_pkT <;> apply Eq.refl) | (apply q_pkF <;> apply Eq.refl) | (apply q_ia <;> (first | apply Eq.refl | omega)) | (apply q_ldba <;> apply Eq.refl) | (apply q_ldra <;> apply Eq.refl) | (apply q_bld <;> apply Eq.refl) | (apply q_mvS <;> apply Eq.refl) | (apply q_mvO <;> apply Eq.refl) | (apply q_asO <;> apply Eq.refl) | (apply q_asN <;> apply Eq.refl) | (apply q_blda <;> apply Eq.refl) | (apply q_mvT <;> apply Eq.refl) | (apply q_iar; apply Eq.refl; apply Eq.refl; apply Eq.refl; (first | omega | decide); apply Eq.refl; apply Eq.refl; (first | omega | decide); apply Eq.refl; apply Eq.refl) | (apply q_iab; apply Eq.refl; apply Eq.refl; apply Eq.refl; apply Eq.refl; (first | omega | decide); apply Eq.refl; apply Eq.refl; (first | omega | decide); apply Eq.refl; apply Eq.refl))))
    | (apply WG_call; (first | (apply want_none; apply Eq.refl) | (apply want_some; apply Eq.refl; apply Eq.refl; apply Eq.refl)); apply Eq.refl; apply Eq.refl; apply Eq.refl; exact (c22 c))
    | (apply WG_n; (first | (apply want_none; apply Eq.refl) | (apply want_some; apply Eq.refl; apply Eq.refl; apply Eq.refl)); (first | (apply f_alloc <;> apply Eq.refl) | (apply f_stb <;> apply Eq.refl) | (apply f_bsl <;> apply Eq.refl)))
    | (apply W_cD; apply Eq.refl; intro _; rotate_left 1; intro _; rotate_left 1)
    | (apply W_cND; apply Eq.refl; intro _; rotate_left 1; intro _; rotate_left 1)
    | (apply W_cN; apply Eq.refl; intro _; rotate_left 1; intro _; rotate_left 1)
    | (apply W_cond; apply Eq.refl; intro _; rotate_left 1; intro _; rotate_left 1))
    · ((try apply fin_now); first | (focus (apply fin_2; apply Eq.refl; (first | (apply rv_I; apply Eq.refl) | (apply rv_A <;> apply Eq.refl)); (first | (apply rv_I; apply Eq.refl) | (apply rv_A <;> apply Eq.refl)); all_goals try apply Eq.refl)))
    · contradiction
  have hc := cr_of h0
  have h1 := c22 c
  rw [if_pos h0, if_pos h0]
  rw [h0] at h1
  obtain ⟨mb1, mb2⟩ := maxUp_bnd hc c.trucks.length (Nat.le_refl _)
  have hlast : ((lastP c : Nat) : Int) = maxUp (endF c) c.trucks.length := by unfold lastP; omega
  have h2 := c71 c hc.ok
  rw [← hlast] at h2
  have hn := hc.ok.n
  repeat' (first
    | (apply WL_q; apply Eq.refl; apply Eq.refl; (first | (apply q_mvI <;> apply Eq.refl) | (apply q_asI <;> apply Eq.refl) | (apply q_ldb <;> apply Eq.refl) | (apply q_fab <;> apply Eq.refl) | (apply q_cmp <;> apply Eq.refl) | (apply q_mvB <;> apply Eq.refl) | (apply q_asB <;> apply Eq.refl) | (apply q_not <;> apply Eq.refl) | (apply q_ldr <;> apply Eq.refl) | (apply q_arith <;> (first | apply Eq.refl | omega)) | (apply q_len <;> apply Eq.refl) | (apply q_ext <;> apply Eq.refl) | (apply q_pkT <;> apply Eq.refl) | (apply q_pkF <;> apply Eq.refl) | (apply q_ia <;> (first | apply Eq.refl | omega)) | (apply q_ldba <;> apply Eq.refl) | (apply q_ldra <;> apply Eq.refl) | (apply q_bld <;> apply Eq.refl) | (apply q_mvS <;> apply Eq.refl) | (apply q_mvO <;> apply Eq.refl) | (apply q_asO <;> apply Eq.refl) | (apply q_asN <;> apply Eq.refl) | (apply q_blda <;> apply Eq.refl) | (apply q_mvT <;> apply Eq.refl) | (apply q_iar; apply Eq.refl; apply Eq.refl; apply Eq.refl; (first | omega | decide); apply Eq.refl; apply Eq.refl; (first | omega | decide); apply Eq.refl; apply Eq.refl) | (apply q_iab; apply Eq.refl; apply Eq.refl; apply Eq.refl; apply Eq.refl; (first | omega | decide); apply Eq.refl; apply Eq.refl; (first | omega | decide); apply Eq.refl; apply Eq.refl)))
    | apply W_seq
    | apply W_region
    | apply T_normal
    | apply WL_nil
    | apply T_exit
    | apply T_ret
    | apply B_normal
    | apply B_ret
    | apply B_exit_eq
    | apply W_skip
    | apply W_exit
    | apply W_ret
    | apply W_block
    | (apply W_condT; apply Eq.refl)
    | (apply W_condF; apply Eq.refl)
    | (apply WL_call; apply Eq.refl; apply Eq.refl; rotate_left 1; apply Eq.refl; rotate_right 1; exact (h1); apply Eq.refl)
    | (apply WL_call; apply Eq.refl; apply Eq.refl; rotate_left 1; apply Eq.refl; rotate_right 1; exact (h2); apply Eq.refl)
    | (apply WL_n; apply Eq.refl; (first | (apply n_boxa <;> apply Eq.refl) | (apply n_alloc <;> apply Eq.refl) | (apply n_stb <;> apply Eq.refl)))
    | (apply WL_yes; apply Eq.refl; apply Eq.refl; apply Eq.refl)
    | (apply WL_no; apply Eq.refl; apply Eq.refl; apply Eq.refl; apply Eq.refl; apply Eq.refl)
    | (apply L_tN; apply Eq.refl; apply Eq.refl; apply Eq.refl; intro _; rotate_left 1; intro _; rotate_left 1)
    | apply W_regionG
    | (apply WG_nil; kernel_rfl)
    | (apply WG_q; (first | (apply want_none; apply Eq.refl) | (apply want_some; apply Eq.refl; apply Eq.refl; apply Eq.refl)); apply Eq.refl; first | (apply fq_bld <;> apply Eq.refl) | (apply fq_blda <;> apply Eq.refl) | (apply fq_fn; apply Eq.refl) | (apply fq_mf; apply Eq.refl) | (apply FQ_intro; intro _; (first | (apply q_mvI <;> apply Eq.refl) | (apply q_asI <;> apply Eq.refl) | (apply q_ldb <;> apply Eq.refl) | (apply q_fab <;> apply Eq.refl) | (apply q_cmp <;> apply Eq.refl) | (apply q_mvB <;> apply Eq.refl) | (apply q_asB <;> apply Eq.refl) | (apply q_not <;> apply Eq.refl) | (apply q_ldr <;> apply Eq.refl) | (apply q_arith <;> (first | apply Eq.refl | omega)) | (apply q_len <;> apply Eq.refl) | (apply q_ext <;> apply Eq.refl) | (apply q_pkT <;> apply Eq.refl) | (apply q_pkF <;> apply Eq.refl) | (apply q_ia <;> (first | apply Eq.refl | omega)) | (apply q_ldba <;> apply Eq.refl) | (apply q_ldra <;> apply Eq.refl) | (apply q_bld <;> apply Eq.refl) | (apply q_mvS <;> apply Eq.refl) | (apply q_mvO <;> apply Eq.refl) | (apply q_asO <;> apply Eq.refl) | (apply q_asN <;> apply Eq.refl) | (apply q_blda <;> apply Eq.refl) | (apply q_mvT <;> apply Eq.refl) | (apply q_iar; apply Eq.refl; apply Eq.refl; apply Eq.refl; (first | omega | decide); apply Eq.refl; apply Eq.refl; (first | omega | decide); apply Eq.refl; apply Eq.refl) | (apply q_iab; apply Eq.refl; apply Eq.refl; apply Eq.refl; apply Eq.refl; (first | omega | decide); apply Eq.refl; apply Eq.refl; (first | omega | decide); apply Eq.refl; apply Eq.refl))))
    | (apply WG_call; (first | (apply want_none; apply Eq.refl) | (apply want_some; apply Eq.refl; apply Eq.refl; apply Eq.refl)); apply Eq.refl; apply Eq.refl; apply Eq.refl; exact (h1))
    | (apply WG_call; (first | (apply want_none; apply Eq.refl) | (apply want_some; apply Eq.refl; apply Eq.refl; apply Eq.refl)); apply Eq.refl; apply Eq.refl; apply Eq.refl; exact (h2))
    | (apply WG_n; (first | (apply want_none; apply Eq.refl) | (apply want_some; apply Eq.refl; apply Eq.refl; apply Eq.refl)); (first | (apply f_alloc <;> apply Eq.refl) | (apply f_stb <;> apply Eq.refl) | (apply f_bsl <;> apply Eq.refl)))
    | (apply W_cD; apply Eq.refl; intro _; rotate_left 1; intro _; rotate_left 1)
    | (apply W_cND; apply Eq.refl; intro _; rotate_left 1; intro _; rotate_left 1)
    | (apply W_cN; apply Eq.refl; intro _; rotate_left 1; intro _; rotate_left 1)
    | (apply W_cond; apply Eq.refl; intro _; rotate_left 1; intro _; rotate_left 1))
  refine W_wk (wk_nil 6 6 101 2 (fun i => [slW (c.trucks.getD i default) c.len (lastP c), slW (freeT (c.trucks.getD i default) true) c.len (lastP c)]) rfl) ?_
  refine W_loopR [1, 2, 3, 5] [1, 2] (fun k : Nat => [(6, .os 6 (k + 1)), (7, .int .i64 k)]) (fun k => [(6, k + 1)])
      (fun k => [(6, .arr 101 2 k (fun i => [slW (c.trucks.getD i default) c.len (lastP c), slW (freeT (c.trucks.getD i default) true) c.len (lastP c)]))])
      (fun k => k ≤ c.trucks.length) (fun k => c.trucks.length - k) 0 (Nat.zero_le _) (by refine ⟨?_, ?_, ?_⟩ <;> repeat' (first | exact trivial | apply And.intro | apply Eq.refl | (apply toI; apply Eq.refl; first | omega | assumption) | (apply toB; apply Eq.refl; repeat' (first | apply Eq.refl | apply consS | (apply consI; first | apply Eq.refl | omega | assumption))))) (fun k h hk => ?_)
  have ht : (k : Int) < c.trucks.length → TOk c (c.trucks.getD (k : Int).toNat default) := fun h => hc.ok.t _ (by omega)
  have hw1 : (k : Int) < c.trucks.length → Contract seat 72 [.agg (encConvoy c), .agg (encTruck (c.trucks.getD (k : Int).toNat default)), .int .i64 (lastP c : Nat)] (slW (c.trucks.getD (k : Int).toNat default) c.len (lastP c)) := fun h => by unfold slW; exact c72 c _ (lastP c) (ht h) (by omega)
  have hw2 : (k : Int) < c.trucks.length → Contract seat 72 [.agg (encConvoy c), .agg (encTruck (freeT (c.trucks.getD (k : Int).toNat default) true)), .int .i64 (lastP c : Nat)] (slW (freeT (c.trucks.getD (k : Int).toNat default) true) c.len (lastP c)) := fun h => by unfold slW; exact c72 c _ (lastP c) ((ht h).free true) (by omega)
  repeat' (first
    | (apply WL_q; apply Eq.refl; apply Eq.refl; (first | (apply q_mvI <;> apply Eq.refl) | (apply q_asI <;> apply Eq.refl) | (apply q_ldb <;> apply Eq.refl) | (apply q_fab <;> apply Eq.refl) | (apply q_cmp <;> apply Eq.refl) | (apply q_mvB <;> apply Eq.refl) | (apply q_asB <;> apply Eq.refl) | (apply q_not <;> apply Eq.refl) | (apply q_ldr <;> apply Eq.refl) | (apply q_arith <;> (first | apply Eq.refl | omega)) | (apply q_len <;> apply Eq.refl) | (apply q_ext <;> apply Eq.refl) | (apply q_pkT <;> apply Eq.refl) | (apply q_pkF <;> apply Eq.refl) | (apply q_ia <;> (first | apply Eq.refl | omega)) | (apply q_ldba <;> apply Eq.refl) | (apply q_ldra <;> apply Eq.refl) | (apply q_bld <;> apply Eq.refl) | (apply q_mvS <;> apply Eq.refl) | (apply q_mvO <;> apply Eq.refl) | (apply q_asO <;> apply Eq.refl) | (apply q_asN <;> apply Eq.refl) | (apply q_blda <;> apply Eq.refl) | (apply q_mvT <;> apply Eq.refl) | (apply q_iar; apply Eq.refl; apply Eq.refl; apply Eq.refl; (first | omega | decide); apply Eq.refl; apply Eq.refl; (first | omega | decide); apply Eq.refl; apply Eq.refl) | (apply q_iab; apply Eq.refl; apply Eq.refl; apply Eq.refl; apply Eq.refl; (first | omega | decide); apply Eq.refl; apply Eq.refl; (first | omega | decide); apply Eq.refl; apply Eq.refl)))
    | apply W_seq
    | apply W_region
    | apply T_normal
    | apply WL_nil
    | apply T_exit
    | apply T_ret
    | apply B_normal
    | apply B_ret
    | apply B_exit_eq
    | apply W_skip
    | apply W_exit
    | apply W_ret
    | apply W_block
    | (apply W_condT; apply Eq.refl)
    | (apply W_condF; apply Eq.refl)
    | (apply WL_call; apply Eq.refl; apply Eq.refl; rotate_left 1; apply Eq.refl; rotate_right 1; exact (hw1 (by assumption)); apply Eq.refl)
    | (apply WL_call; apply Eq.refl; apply Eq.refl; rotate_left 1; apply Eq.refl; rotate_right 1; exact (hw2 (by assumption)); apply Eq.refl)
    | (apply WL_call; apply Eq.refl; apply Eq.refl; rotate_left 1; apply Eq.refl; rotate_right 1; exact (c73 (c.trucks.getD (k : Int).toNat default) true); apply Eq.refl)
    | (apply WL_n; apply Eq.refl; (first | (apply n_boxa <;> apply Eq.refl) | (apply n_alloc <;> apply Eq.refl) | (apply n_stb <;> apply Eq.refl)))
    | (apply WL_yes; apply Eq.refl; apply Eq.refl; apply Eq.refl)
    | (apply WL_no; apply Eq.refl; apply Eq.refl; apply Eq.refl; apply Eq.refl; apply Eq.refl)
    | (apply L_tN; apply Eq.refl; apply Eq.refl; apply Eq.refl; intro _; rotate_left 1; intro _; rotate_left 1)
    | apply W_regionG
    | (apply WG_nil; kernel_rfl)
    | (apply WG_q; (first | (apply want_none; apply Eq.refl) | (apply want_some; apply Eq.refl; apply Eq.refl; apply Eq.refl)); apply Eq.refl; first | (apply fq_bld <;> apply Eq.refl) | (apply fq_blda <;> apply Eq.refl) | (apply fq_fn; apply Eq.refl) | (apply fq_mf; apply Eq.refl) | (apply FQ_intro; intro _; (first | (apply q_mvI <;> apply Eq.refl) | (apply q_asI <;> apply Eq.refl) | (apply q_ldb <;> apply Eq.refl) | (apply q_fab <;> apply Eq.refl) | (apply q_cmp <;> apply Eq.refl) | (apply q_mvB <;> apply Eq.refl) | (apply q_asB <;> apply Eq.refl) | (apply q_not <;> apply Eq.refl) | (apply q_ldr <;> apply Eq.refl) | (apply q_arith <;> (first | apply Eq.refl | omega)) | (apply q_len <;> apply Eq.refl) | (apply q_ext <;> apply Eq.refl) | (apply q_pkT <;> apply Eq.refl) | (apply q_pkF <;> apply Eq.refl) | (apply q_ia <;> (first | apply Eq.refl | omega)) | (apply q_ldba <;> apply Eq.refl) | (apply q_ldra <;> apply Eq.refl) | (apply q_bld <;> apply Eq.refl) | (apply q_mvS <;> apply Eq.refl) | (apply q_mvO <;> apply Eq.refl) | (apply q_asO <;> apply Eq.refl) | (apply q_asN <;> apply Eq.refl) | (apply q_blda <;> apply Eq.refl) | (apply q_mvT <;> apply Eq.refl) | (apply q_iar; apply Eq.refl; apply Eq.refl; apply Eq.refl; (first | omega | decide); apply Eq.refl; apply Eq.refl; (first | omega | decide); apply Eq.refl; apply Eq.refl) | (apply q_iab; apply Eq.refl; apply Eq.refl; apply Eq.refl; apply Eq.refl; (first | omega | decide); apply Eq.refl; apply Eq.refl; (first | omega | decide); apply Eq.refl; apply Eq.refl))))
    | (apply WG_call; (first | (apply want_none; apply Eq.refl) | (apply want_some; apply Eq.refl; apply Eq.refl; apply Eq.refl)); apply Eq.refl; apply Eq.refl; apply Eq.refl; exact (hw1 (by assumption)))
    | (apply WG_call; (first | (apply want_none; apply Eq.refl) | (apply want_some; apply Eq.refl; apply Eq.refl; apply Eq.refl)); apply Eq.refl; apply Eq.refl; apply Eq.refl; exact (hw2 (by assumption)))
    | (apply WG_call; (first | (apply want_none; apply Eq.refl) | (apply want_some; apply Eq.refl; apply Eq.refl; apply Eq.refl)); apply Eq.refl; apply Eq.refl; apply Eq.refl; exact (c73 (c.trucks.getD (k : Int).toNat default) true))
    | (apply WG_n; (first | (apply want_none; apply Eq.refl) | (apply want_some; apply Eq.refl; apply Eq.refl; apply Eq.refl)); (first | (refine f_app (f' := fun i => [slW (c.trucks.getD i default) c.len (lastP c), slW (freeT (c.trucks.getD i default) true) c.len (lastP c)]) rfl rfl rfl rfl rfl rfl rfl rfl rfl rfl rfl rfl rfl rfl rfl (by first | omega | (show (k + 1) * 48 ≤ _; omega)) (by omega) rfl (fun i hi => rfl) (fun i hi => by (obtain rfl : i = 0 := by omega); rfl)) | (apply f_alloc <;> apply Eq.refl) | (apply f_stb <;> apply Eq.refl) | (apply f_bsl <;> apply Eq.refl)))
    | (apply W_cD; apply Eq.refl; intro _; rotate_left 1; intro _; rotate_left 1)
    | (apply W_cND; apply Eq.refl; intro _; rotate_left 1; intro _; rotate_left 1)
    | (apply W_cN; apply Eq.refl; intro _; rotate_left 1; intro _; rotate_left 1)
    | (apply W_cond; apply Eq.refl; intro _; rotate_left 1; intro _; rotate_left 1))
  · exact ⟨k + 1, by omega, by omega, (by apply reach_now; refine ⟨?_, ?_, ?_, ?_, ?_⟩ <;> repeat' (first | exact trivial | apply And.intro | apply Eq.refl | (apply toI; apply Eq.refl; first | omega | assumption) | (apply toB; apply Eq.refl; repeat' (first | apply Eq.refl | apply consS | (apply consI; first | apply Eq.refl | omega | assumption)))))⟩
  obtain rfl : k = c.trucks.length := by omega
  refine W_wk (wk_freeze 6 (s := 6) rfl rfl rfl) ?_
  clear ht hw1 hw2
  refine W_loopR [1, 2, 5, 6, 9] [1, 9] (fun m : Nat => [(3, .int .i64 0), (10, .int .i64 m)]) (fun m => [(2, 1)]) (fun m => [(2, .box (encMeeting default))])
      (fun m => m ≤ lastP c + 1 ∧ firstS (srchI c) (lastP c + 1 - m) m = meetingP c) (fun m => lastP c + 1 - m) 0 ⟨Nat.zero_le _, rfl⟩ (by refine ⟨?_, ?_, ?_⟩ <;> repeat' (first | exact trivial | apply And.intro | apply Eq.refl | (apply toI; apply Eq.refl; first | omega | assumption) | (apply toB; apply Eq.refl; repeat' (first | apply Eq.refl | apply consS | (apply consI; first | apply Eq.refl | omega | assumption))))) (fun m h1 hm => ?_)
  obtain ⟨hm1, hm2⟩ := hm
  repeat' (first
    | (apply WL_q; apply Eq.refl; apply Eq.refl; (first | (apply q_mvI <;> apply Eq.refl) | (apply q_asI <;> apply Eq.refl) | (apply q_ldb <;> apply Eq.refl) | (apply q_fab <;> apply Eq.refl) | (apply q_cmp <;> apply Eq.refl) | (apply q_mvB <;> apply Eq.refl) | (apply q_asB <;> apply Eq.refl) | (apply q_not <;> apply Eq.refl) | (apply q_ldr <;> apply Eq.refl) | (apply q_arith <;> (first | apply Eq.refl | omega)) | (apply q_len <;> apply Eq.refl) | (apply q_ext <;> apply Eq.refl) | (apply q_pkT <;> apply Eq.refl) | (apply q_pkF <;> apply Eq.refl) | (apply q_ia <;> (first | apply Eq.refl | omega)) | (apply q_ldba <;> apply Eq.refl) | (apply q_ldra <;> apply Eq.refl) | (apply q_bld <;> apply Eq.refl) | (apply q_mvS <;> apply Eq.refl) | (apply q_mvO <;> apply Eq.refl) | (apply q_asO <;> apply Eq.refl) | (apply q_asN <;> apply Eq.refl) | (apply q_blda <;> apply Eq.refl) | (apply q_mvT <;> apply Eq.refl) | (apply q_iar; apply Eq.refl; apply Eq.refl; apply Eq.refl; (first | omega | decide); apply Eq.refl; apply Eq.refl; (first | omega | decide); apply Eq.refl; apply Eq.refl) | (apply q_iab; apply Eq.refl; apply Eq.refl; apply Eq.refl; apply Eq.refl; (first | omega | decide); apply Eq.refl; apply Eq.refl; (first | omega | decide); apply Eq.refl; apply Eq.refl)))
    | apply W_seq
    | apply W_region
    | apply T_normal
    | apply WL_nil
    | apply T_exit
    | apply T_ret
    | apply B_normal
    | apply B_ret
    | apply B_exit_eq
    | apply W_skip
    | apply W_exit
    | apply W_ret
    | apply W_block
    | (apply W_condT; apply Eq.refl)
    | (apply W_condF; apply Eq.refl)
    | (apply WL_n; apply Eq.refl; (first | (apply n_boxa <;> apply Eq.refl) | (apply n_alloc <;> apply Eq.refl) | (apply n_stb <;> apply Eq.refl)))
    | (apply WL_yes; apply Eq.refl; apply Eq.refl; apply Eq.refl)
    | (apply WL_no; apply Eq.refl; apply Eq.refl; apply Eq.refl; apply Eq.refl; apply Eq.refl)
    | (apply L_tN; apply Eq.refl; apply Eq.refl; apply Eq.refl; intro _; rotate_left 1; intro _; rotate_left 1)
    | apply W_regionG
    | (apply WG_nil; kernel_rfl)
    | (apply WG_q; (first | (apply want_none; apply Eq.refl) | (apply want_some; apply Eq.refl; apply Eq.refl; apply Eq.refl)); apply Eq.refl; first | (apply fq_bld <;> apply Eq.refl) | (apply fq_blda <;> apply Eq.refl) | (apply fq_fn; apply Eq.refl) | (apply fq_mf; apply Eq.refl) | (apply FQ_intro; intro _; (first | (apply q_mvI <;> apply Eq.refl) | (apply q_asI <;> apply Eq.refl) | (apply q_ldb <;> apply Eq.refl) | (apply q_fab <;> apply Eq.refl) | (apply q_cmp <;> apply Eq.refl) | (apply q_mvB <;> apply Eq.refl) | (apply q_asB <;> apply Eq.refl) | (apply q_not <;> apply Eq.refl) | (apply q_ldr <;> apply Eq.refl) | (apply q_arith <;> (first | apply Eq.refl | omega)) | (apply q_len <;> apply Eq.refl) | (apply q_ext <;> apply Eq.refl) | (apply q_pkT <;> apply Eq.refl) | (apply q_pkF <;> apply Eq.refl) | (apply q_ia <;> (first | apply Eq.refl | omega)) | (apply q_ldba <;> apply Eq.refl) | (apply q_ldra <;> apply Eq.refl) | (apply q_bld <;> apply Eq.refl) | (apply q_mvS <;> apply Eq.refl) | (apply q_mvO <;> apply Eq.refl) | (apply q_asO <;> apply Eq.refl) | (apply q_asN <;> apply Eq.refl) | (apply q_blda <;> apply Eq.refl) | (apply q_mvT <;> apply Eq.refl) | (apply q_iar; apply Eq.refl; apply Eq.refl; apply Eq.refl; (first | omega | decide); apply Eq.refl; apply Eq.refl; (first | omega | decide); apply Eq.refl; apply Eq.refl) | (apply q_iab; apply Eq.refl; apply Eq.refl; apply Eq.refl; apply Eq.refl; (first | omega | decide); apply Eq.refl; apply Eq.refl; (first | omega | decide); apply Eq.refl; apply Eq.refl))))
    | (apply WG_n; (first | (apply want_none; apply Eq.refl) | (apply want_some; apply Eq.refl; apply Eq.refl; apply Eq.refl)); (first | (apply f_alloc <;> apply Eq.refl) | (apply f_stb <;> apply Eq.refl) | (apply f_bsl <;> apply Eq.refl)))
    | (apply W_cD; apply Eq.refl; intro _; rotate_left 1; intro _; rotate_left 1)
    | (apply W_cND; apply Eq.refl; intro _; rotate_left 1; intro _; rotate_left 1)
    | (apply W_cN; apply Eq.refl; intro _; rotate_left 1; intro _; rotate_left 1)
    | (apply W_cond; apply Eq.refl; intro _; rotate_left 1; intro _; rotate_left 1))
  rotate_left 1
  · have := firstS_end hm2 (by omega)
    rw [this]; ((try apply fin_now); first | (focus (apply fin_2; apply Eq.refl; (first | (apply rv_I; apply Eq.refl) | (apply rv_A <;> apply Eq.refl)); (first | (apply rv_I; apply Eq.refl) | (apply rv_A <;> apply Eq.refl)); all_goals try apply Eq.refl)))
  have hmlt : m < lastP c + 1 := by omega
  refine W_loopR [1, 2, 5, 6, 9, 10] [1, 9] (fun i : Nat => [(3, .int .i64 0), (11, .int .i64 i)]) (fun i => [(2, 1)]) (fun i => [(2, .box (encMeeting default))])
      (fun i => i ≤ c.trucks.length ∧ firstS (srchK c m) (c.trucks.length - i) i = srchI c m) (fun i => c.trucks.length - i) 0 ⟨Nat.zero_le _, by unfold srchI; rfl⟩ (by refine ⟨?_, ?_, ?_⟩ <;> repeat' (first | exact trivial | apply And.intro | apply Eq.refl | (apply toI; apply Eq.refl; first | omega | assumption) | (apply toB; apply Eq.refl; repeat' (first | apply Eq.refl | apply consS | (apply consI; first | apply Eq.refl | omega | assumption))))) (fun i h2 hi => ?_)
  obtain ⟨hi1, hi2⟩ := hi
  repeat' (first
    | (apply WL_q; apply Eq.refl; apply Eq.refl; (first | (apply q_mvI <;> apply Eq.refl) | (apply q_asI <;> apply Eq.refl) | (apply q_ldb <;> apply Eq.refl) | (apply q_fab <;> apply Eq.refl) | (apply q_cmp <;> apply Eq.refl) | (apply q_mvB <;> apply Eq.refl) | (apply q_asB <;> apply Eq.refl) | (apply q_not <;> apply Eq.refl) | (apply q_ldr <;> apply Eq.refl) | (apply q_arith <;> (first | apply Eq.refl | omega)) | (apply q_len <;> apply Eq.refl) | (apply q_ext <;> apply Eq.refl) | (apply q_pkT <;> apply Eq.refl) | (apply q_pkF <;> apply Eq.refl) | (apply q_ia <;> (first | apply Eq.refl | omega)) | (apply q_ldba <;> apply Eq.refl) | (apply q_ldra <;> apply Eq.refl) | (apply q_bld <;> apply Eq.refl) | (apply q_mvS <;> apply Eq.refl) | (apply q_mvO <;> apply Eq.refl) | (apply q_asO <;> apply Eq.refl) | (apply q_asN <;> apply Eq.refl) | (apply q_blda <;> apply Eq.refl) | (apply q_mvT <;> apply Eq.refl) | (apply q_iar; apply Eq.refl; apply Eq.refl; apply Eq.refl; (first | omega | decide); apply Eq.refl; apply Eq.refl; (first | omega | decide); apply Eq.refl; apply Eq.refl) | (apply q_iab; apply Eq.refl; apply Eq.refl; apply Eq.refl; apply Eq.refl; (first | omega | decide); apply Eq.refl; apply Eq.refl; (first | omega | decide); apply Eq.refl; apply Eq.refl)))
    | apply W_seq
    | apply W_region
    | apply T_normal
    | apply WL_nil
    | apply T_exit
    | apply T_ret
    | apply B_normal
    | apply B_ret
    | apply B_exit_eq
    | apply W_skip
    | apply W_exit
    | apply W_ret
    | apply W_block
    | (apply W_condT; apply Eq.refl)
    | (apply W_condF; apply Eq.refl)
    | (apply WL_n; apply Eq.refl; (first | (apply n_boxa <;> apply Eq.refl) | (apply n_alloc <;> apply Eq.refl) | (apply n_stb <;> apply Eq.refl)))
    | (apply WL_yes; apply Eq.refl; apply Eq.refl; apply Eq.refl)
    | (apply WL_no; apply Eq.refl; apply Eq.refl; apply Eq.refl; apply Eq.refl; apply Eq.refl)
    | (apply L_tN; apply Eq.refl; apply Eq.refl; apply Eq.refl; intro _; rotate_left 1; intro _; rotate_left 1)
    | apply W_regionG
    | (apply WG_nil; kernel_rfl)
    | (apply WG_q; (first | (apply want_none; apply Eq.refl) | (apply want_some; apply Eq.refl; apply Eq.refl; apply Eq.refl)); apply Eq.refl; first | (apply fq_bld <;> apply Eq.refl) | (apply fq_blda <;> apply Eq.refl) | (apply fq_fn; apply Eq.refl) | (apply fq_mf; apply Eq.refl) | (apply FQ_intro; intro _; (first | (apply q_mvI <;> apply Eq.refl) | (apply q_asI <;> apply Eq.refl) | (apply q_ldb <;> apply Eq.refl) | (apply q_fab <;> apply Eq.refl) | (apply q_cmp <;> apply Eq.refl) | (apply q_mvB <;> apply Eq.refl) | (apply q_asB <;> apply Eq.refl) | (apply q_not <;> apply Eq.refl) | (apply q_ldr <;> apply Eq.refl) | (apply q_arith <;> (first | apply Eq.refl | omega)) | (apply q_len <;> apply Eq.refl) | (apply q_ext <;> apply Eq.refl) | (apply q_pkT <;> apply Eq.refl) | (apply q_pkF <;> apply Eq.refl) | (apply q_ia <;> (first | apply Eq.refl | omega)) | (apply q_ldba <;> apply Eq.refl) | (apply q_ldra <;> apply Eq.refl) | (apply q_bld <;> apply Eq.refl) | (apply q_mvS <;> apply Eq.refl) | (apply q_mvO <;> apply Eq.refl) | (apply q_asO <;> apply Eq.refl) | (apply q_asN <;> apply Eq.refl) | (apply q_blda <;> apply Eq.refl) | (apply q_mvT <;> apply Eq.refl) | (apply q_iar; apply Eq.refl; apply Eq.refl; apply Eq.refl; (first | omega | decide); apply Eq.refl; apply Eq.refl; (first | omega | decide); apply Eq.refl; apply Eq.refl) | (apply q_iab; apply Eq.refl; apply Eq.refl; apply Eq.refl; apply Eq.refl; (first | omega | decide); apply Eq.refl; apply Eq.refl; (first | omega | decide); apply Eq.refl; apply Eq.refl))))
    | (apply WG_n; (first | (apply want_none; apply Eq.refl) | (apply want_some; apply Eq.refl; apply Eq.refl; apply Eq.refl)); (first | (apply f_alloc <;> apply Eq.refl) | (apply f_stb <;> apply Eq.refl) | (apply f_bsl <;> apply Eq.refl)))
    | (apply W_cD; apply Eq.refl; intro _; rotate_left 1; intro _; rotate_left 1)
    | (apply W_cND; apply Eq.refl; intro _; rotate_left 1; intro _; rotate_left 1)
    | (apply W_cN; apply Eq.refl; intro _; rotate_left 1; intro _; rotate_left 1)
    | (apply W_cond; apply Eq.refl; intro _; rotate_left 1; intro _; rotate_left 1))
  rotate_left 1
  · have := firstS_end hi2 (by omega)
    exact ⟨m + 1, ⟨by omega, firstS_next hm2 hmlt this⟩, by omega, (by apply reach_now; refine ⟨?_, ?_, ?_, ?_, ?_⟩ <;> repeat' (first | exact trivial | apply And.intro | apply Eq.refl | (apply toI; apply Eq.refl; first | omega | assumption) | (apply toB; apply Eq.refl; repeat' (first | apply Eq.refl | apply consS | (apply consI; first | apply Eq.refl | omega | assumption)))))⟩
  have hilt : i < c.trucks.length := by omega
  refine W_loopR [1, 2, 5, 6, 9, 10, 11] [1, 9] (fun k : Nat => [(3, .int .i64 0), (12, .int .i64 k)]) (fun k => [(2, 1)]) (fun k => [(2, .box (encMeeting default))])
      (fun k => i + 1 ≤ k ∧ k ≤ c.trucks.length ∧ firstS (pairM c m i) (c.trucks.length - k) k = srchK c m i) (fun k => c.trucks.length - k) (i + 1) ⟨Nat.le_refl _, by omega, by unfold srchK; rfl⟩ (by refine ⟨?_, ?_, ?_⟩ <;> repeat' (first | exact trivial | apply And.intro | apply Eq.refl | (apply toI; apply Eq.refl; first | omega | assumption) | (apply toB; apply Eq.refl; repeat' (first | apply Eq.refl | apply consS | (apply consI; first | apply Eq.refl | omega | assumption))))) (fun k h3 hk => ?_)
  obtain ⟨hk0, hk1, hk2⟩ := hk
  repeat' (first
    | (apply WL_q; apply Eq.refl; apply Eq.refl; (first | (apply q_mvI <;> apply Eq.refl) | (apply q_asI <;> apply Eq.refl) | (apply q_ldb <;> apply Eq.refl) | (apply q_fab <;> apply Eq.refl) | (apply q_cmp <;> apply Eq.refl) | (apply q_mvB <;> apply Eq.refl) | (apply q_asB <;> apply Eq.refl) | (apply q_not <;> apply Eq.refl) | (apply q_ldr <;> apply Eq.refl) | (apply q_arith <;> (first | apply Eq.refl | omega)) | (apply q_len <;> apply Eq.refl) | (apply q_ext <;> apply Eq.refl) | (apply q_pkT <;> apply Eq.refl) | (apply q_pkF <;> apply Eq.refl) | (apply q_ia <;> (first | apply Eq.refl | omega)) | (apply q_ldba <;> apply Eq.refl) | (apply q_ldra <;> apply Eq.refl) | (apply q_bld <;> apply Eq.refl) | (apply q_mvS <;> apply Eq.refl) | (apply q_mvO <;> apply Eq.refl) | (apply q_asO <;> apply Eq.refl) | (apply q_asN <;> apply Eq.refl) | (apply q_blda <;> apply Eq.refl) | (apply q_mvT <;> apply Eq.refl) | (apply q_iar; apply Eq.refl; apply Eq.refl; apply Eq.refl; (first | omega | decide); apply Eq.refl; apply Eq.refl; (first | omega | decide); apply Eq.refl; apply Eq.refl) | (apply q_iab; apply Eq.refl; apply Eq.refl; apply Eq.refl; apply Eq.refl; (first | omega | decide); apply Eq.refl; apply Eq.refl; (first | omega | decide); apply Eq.refl; apply Eq.refl)))
    | apply W_seq
    | apply W_region
    | apply T_normal
    | apply WL_nil
    | apply T_exit
    | apply T_ret
    | apply B_normal
    | apply B_ret
    | apply B_exit_eq
    | apply W_skip
    | apply W_exit
    | apply W_ret
    | apply W_block
    | (apply W_condT; apply Eq.refl)
    | (apply W_condF; apply Eq.refl)
    | (apply WL_n; apply Eq.refl; (first | (apply n_boxa <;> apply Eq.refl) | (apply n_alloc <;> apply Eq.refl) | (apply n_stb <;> apply Eq.refl)))
    | (apply WL_yes; apply Eq.refl; apply Eq.refl; apply Eq.refl)
    | (apply WL_no; apply Eq.refl; apply Eq.refl; apply Eq.refl; apply Eq.refl; apply Eq.refl)
    | (apply L_tN; apply Eq.refl; apply Eq.refl; apply Eq.refl; intro _; rotate_left 1; intro _; rotate_left 1)
    | apply W_regionG
    | (apply WG_nil; kernel_rfl)
    | (apply WG_q; (first | (apply want_none; apply Eq.refl) | (apply want_some; apply Eq.refl; apply Eq.refl; apply Eq.refl)); apply Eq.refl; first | (apply fq_bld <;> apply Eq.refl) | (apply fq_blda <;> apply Eq.refl) | (apply fq_fn; apply Eq.refl) | (apply fq_mf; apply Eq.refl) | (apply FQ_intro; intro _; (first | (apply q_mvI <;> apply Eq.refl) | (apply q_asI <;> apply Eq.refl) | (apply q_ldb <;> apply Eq.refl) | (apply q_fab <;> apply Eq.refl) | (apply q_cmp <;> apply Eq.refl) | (apply q_mvB <;> apply Eq.refl) | (apply q_asB <;> apply Eq.refl) | (apply q_not <;> apply Eq.refl) | (apply q_ldr <;> apply Eq.refl) | (apply q_arith <;> (first | apply Eq.refl | omega)) | (apply q_len <;> apply Eq.refl) | (apply q_ext <;> apply Eq.refl) | (apply q_pkT <;> apply Eq.refl) | (apply q_pkF <;> apply Eq.refl) | (apply q_ia <;> (first | apply Eq.refl | omega)) | (apply q_ldba <;> apply Eq.refl) | (apply q_ldra <;> apply Eq.refl) | (apply q_bld <;> apply Eq.refl) | (apply q_mvS <;> apply Eq.refl) | (apply q_mvO <;> apply Eq.refl) | (apply q_asO <;> apply Eq.refl) | (apply q_asN <;> apply Eq.refl) | (apply q_blda <;> apply Eq.refl) | (apply q_mvT <;> apply Eq.refl) | (apply q_iar; apply Eq.refl; apply Eq.refl; apply Eq.refl; (first | omega | decide); apply Eq.refl; apply Eq.refl; (first | omega | decide); apply Eq.refl; apply Eq.refl) | (apply q_iab; apply Eq.refl; apply Eq.refl; apply Eq.refl; apply Eq.refl; (first | omega | decide); apply Eq.refl; apply Eq.refl; (first | omega | decide); apply Eq.refl; apply Eq.refl))))
    | (apply WG_n; (first | (apply want_none; apply Eq.refl) | (apply want_some; apply Eq.refl; apply Eq.refl; apply Eq.refl)); (first | (apply f_alloc <;> apply Eq.refl) | (apply f_stb <;> apply Eq.refl) | (apply f_bsl <;> apply Eq.refl)))
    | (apply W_cD; apply Eq.refl; intro _; rotate_left 1; intro _; rotate_left 1)
    | (apply W_cND; apply Eq.refl; intro _; rotate_left 1; intro _; rotate_left 1)
    | (apply W_cN; apply Eq.refl; intro _; rotate_left 1; intro _; rotate_left 1)
    | (apply W_cond; apply Eq.refl; intro _; rotate_left 1; intro _; rotate_left 1))
  rotate_left 1
  · have := firstS_end hk2 (by omega)
    exact ⟨i + 1, ⟨by omega, firstS_next hi2 hilt this⟩, by omega, (by apply reach_now; refine ⟨?_, ?_, ?_, ?_, ?_⟩ <;> repeat' (first | exact trivial | apply And.intro | apply Eq.refl | (apply toI; apply Eq.refl; first | omega | assumption) | (apply toB; apply Eq.refl; repeat' (first | apply Eq.refl | apply consS | (apply consI; first | apply Eq.refl | omega | assumption)))))⟩
  have hklt : k < c.trucks.length := by omega
  have hp : pairM c m i k = (meetC c.gap c.fails (c.trucks.getD i default) (c.trucks.getD k default) c.len m caseL).map fun x => { x with i := i, k := k } := by unfold pairM; rfl
  have hT := hc.r i hilt
  have hU := hc.r k hklt
  have hg : 1 ≤ c.gap := hc.ok.g1
  have hg2 : c.gap ≤ 100000 := hc.ok.g2
  refine W_loopM (α := Nat) (fun n => [(1, .bx 1 1 0), (2, .bx 2 1 0), (3, .int .i64 0), (5, .int .i64 (lastP c : Nat)), (6, .sl 2 c.trucks.length (fun i => [slW (c.trucks.getD i default) c.len (lastP c), slW (freeT (c.trucks.getD i default) true) c.len (lastP c)])), (9, .bx 9 (h 9 + 1) 0), (10, .int .i64 m), (11, .int .i64 i), (12, .int .i64 k), (13, .int .i64 n)]) (fun _ => [(1, 1), (2, 1), (9, h 9 + 1)])
      (fun _ => [(1, .box (encConvoy c)), (2, .box (encMeeting default)), (9, .box [.int .i64 0, .int .i64 0, .int .i64 1, .int .i64 0, .int .i64 0, .int .i64 1, .int .i64 1, .int .i64 1])])
      (fun n => n ≤ 4 ∧ meetC c.gap c.fails (c.trucks.getD i default) (c.trucks.getD k default) c.len m (caseL.drop n) = meetC c.gap c.fails (c.trucks.getD i default) (c.trucks.getD k default) c.len m caseL) (fun n => 4 - n) 0 ⟨Nat.zero_le _, rfl⟩ (by refine ⟨?_, ?_, ?_⟩ <;> repeat' (first | exact trivial | apply And.intro | apply Eq.refl)) (fun n h4 hn' => ?_)
  obtain ⟨hn4, hi⟩ := hn'
  have cA : ∀ b : Bool, Contract seat 74 [.agg (encConvoy c), .agg (encTruck (freeT (c.trucks.getD i default) b)), .agg (encSpan (wayR (freeT (c.trucks.getD i default) b) c.len m)), .int .i64 m]
      (.tup [.agg (encSpan (onlaneR (freeT (c.trucks.getD i default) b) c.len (wayR (freeT (c.trucks.getD i default) b) c.len m) m).1), .bool (onlaneR (freeT (c.trucks.getD i default) b) c.len (wayR (freeT (c.trucks.getD i default) b) c.len m) m).2]) := fun b => by
    have h := hT.free b
    obtain ⟨b1, b2, b3, _⟩ := way_bnds h (m := m)
    have := h.l2
    exact c74 c _ _ m h.l1 h.l2 h.ho (by omega) (by omega)
  have cB : ∀ b : Bool, Contract seat 74 [.agg (encConvoy c), .agg (encTruck (freeT (c.trucks.getD k default) b)), .agg (encSpan (wayR (freeT (c.trucks.getD k default) b) c.len m)), .int .i64 m]
      (.tup [.agg (encSpan (onlaneR (freeT (c.trucks.getD k default) b) c.len (wayR (freeT (c.trucks.getD k default) b) c.len m) m).1), .bool (onlaneR (freeT (c.trucks.getD k default) b) c.len (wayR (freeT (c.trucks.getD k default) b) c.len m) m).2]) := fun b => by
    have h := hU.free b
    obtain ⟨b1, b2, b3, _⟩ := way_bnds h (m := m)
    have := h.l2
    exact c74 c _ _ m h.l1 h.l2 h.ho (by omega) (by omega)
  have cC : ∀ b : Bool, Contract seat 76 [.agg (encConvoy c), .agg (encTruck (freeT (c.trucks.getD i default) b)), .agg (encSpan (onlaneR (freeT (c.trucks.getD i default) b) c.len (wayR (freeT (c.trucks.getD i default) b) c.len m) m).1)]
      (.agg (encSpan (roadR (freeT (c.trucks.getD i default) b).way c.len (onlaneR (freeT (c.trucks.getD i default) b) c.len (wayR (freeT (c.trucks.getD i default) b) c.len m) m).1))) := fun b => by
    obtain ⟨⟨b1, b2⟩, b3, b4⟩ := onlane_bnd (hT.free b) (m := m)
    exact c76 c _ _ (by omega) (by omega) (by omega) (by omega) hT.l1 hT.l2
  have cD : ∀ b : Bool, Contract seat 76 [.agg (encConvoy c), .agg (encTruck (freeT (c.trucks.getD k default) b)), .agg (encSpan (onlaneR (freeT (c.trucks.getD k default) b) c.len (wayR (freeT (c.trucks.getD k default) b) c.len m) m).1)]
      (.agg (encSpan (roadR (freeT (c.trucks.getD k default) b).way c.len (onlaneR (freeT (c.trucks.getD k default) b) c.len (wayR (freeT (c.trucks.getD k default) b) c.len m) m).1))) := fun b => by
    obtain ⟨⟨b1, b2⟩, b3, b4⟩ := onlane_bnd (hU.free b) (m := m)
    exact c76 c _ _ (by omega) (by omega) (by omega) (by omega) hT.l1 hT.l2
  have cE : ∀ b b' : Bool, Contract seat 75 [.agg (encSpan (roadR (freeT (c.trucks.getD i default) b).way c.len (onlaneR (freeT (c.trucks.getD i default) b) c.len (wayR (freeT (c.trucks.getD i default) b) c.len m) m).1)), .agg (encSpan (roadR (freeT (c.trucks.getD k default) b').way c.len (onlaneR (freeT (c.trucks.getD k default) b') c.len (wayR (freeT (c.trucks.getD k default) b') c.len m) m).1)), .int .i64 c.gap] _ := fun b b' => by
    obtain ⟨x1, x2⟩ := onlane_bnd (hT.free b) (m := m)
    obtain ⟨y1, y2⟩ := onlane_bnd (hU.free b') (m := m)
    have r1 := road_bnd (way := (freeT (c.trucks.getD i default) b).way) x1 x2 hT.l1 hT.l2
    have r2 := road_bnd (way := (freeT (c.trucks.getD k default) b').way) y1 y2 hT.l1 hT.l2
    exact c75 _ _ c.gap r1.1 r1.2 r2.1 r2.2 (by omega) hg2
  obtain rfl | rfl | rfl | rfl | rfl : n = 0 ∨ n = 1 ∨ n = 2 ∨ n = 3 ∨ n = 4 := by omega
  · repeat' (first
    | (apply WL_q; apply Eq.refl; apply Eq.refl; (first | (apply q_mvI <;> apply Eq.refl) | (apply q_asI <;> apply Eq.refl) | (apply q_ldb <;> apply Eq.refl) | (apply q_fab <;> apply Eq.refl) | (apply q_cmp <;> apply Eq.refl) | (apply q_mvB <;> apply Eq.refl) | (apply q_asB <;> apply Eq.refl) | (apply q_not <;> apply Eq.refl) | (apply q_ldr <;> apply Eq.refl) | (apply q_arith <;> (first | apply Eq.refl | omega)) | (apply q_len <;> apply Eq.refl) | (apply q_ext <;> apply Eq.refl) | (apply q_pkT <;> apply Eq.refl) | (apply q_pkF <;> apply Eq.refl) | (apply q_ia <;> (first | apply Eq.refl | omega)) | (apply q_ldba <;> apply Eq.refl) | (apply q_ldra <;> apply Eq.refl) | (apply q_bld <;> apply Eq.refl) | (apply q_mvS <;> apply Eq.refl) | (apply q_mvO <;> apply Eq.refl) | (apply q_asO <;> apply Eq.refl) | (apply q_asN <;> apply Eq.refl) | (apply q_blda <;> apply Eq.refl) | (apply q_mvT <;> apply Eq.refl) | (apply q_iar; apply Eq.refl; apply Eq.refl; apply Eq.refl; (first | omega | decide); apply Eq.refl; apply Eq.refl; (first | omega | decide); apply Eq.refl; apply Eq.refl) | (apply q_iab; apply Eq.refl; apply Eq.refl; apply Eq.refl; apply Eq.refl; (first | omega | decide); apply Eq.refl; apply Eq.refl; (first | omega | decide); apply Eq.refl; apply Eq.refl)))
    | apply W_seq
    | apply W_region
    | apply T_normal
    | apply WL_nil
    | apply T_exit
    | apply T_ret
    | apply B_normal
    | apply B_ret
    | apply B_exit_eq
    | apply W_skip
    | apply W_exit
    | apply W_ret
    | apply W_block
    | (apply W_condT; apply Eq.refl)
    | (apply W_condF; apply Eq.refl)
    | (apply WL_call; apply Eq.refl; apply Eq.refl; rotate_left 1; apply Eq.refl; rotate_right 1; exact (c73 (c.trucks.getD i default) false); apply Eq.refl)
    | (apply WL_call; apply Eq.refl; apply Eq.refl; rotate_left 1; apply Eq.refl; rotate_right 1; exact (c73 (c.trucks.getD k default) false); apply Eq.refl)
    | (apply WL_call; apply Eq.refl; apply Eq.refl; rotate_left 1; apply Eq.refl; rotate_right 1; exact (cA false); apply Eq.refl)
    | (apply WL_call; apply Eq.refl; apply Eq.refl; rotate_left 1; apply Eq.refl; rotate_right 1; exact (cB false); apply Eq.refl)
    | (apply WL_call; apply Eq.refl; apply Eq.refl; rotate_left 1; apply Eq.refl; rotate_right 1; exact (cC false); apply Eq.refl)
    | (apply WL_call; apply Eq.refl; apply Eq.refl; rotate_left 1; apply Eq.refl; rotate_right 1; exact (cD false); apply Eq.refl)
    | (apply WL_call; apply Eq.refl; apply Eq.refl; rotate_left 1; apply Eq.refl; rotate_right 1; exact (cE false false); apply Eq.refl)
    | (apply WL_n; apply Eq.refl; (first | (apply n_boxa <;> apply Eq.refl) | (apply n_alloc <;> apply Eq.refl) | (apply n_stb <;> apply Eq.refl)))
    | (apply WL_yes; apply Eq.refl; apply Eq.refl; apply Eq.refl)
    | (apply WL_no; apply Eq.refl; apply Eq.refl; apply Eq.refl; apply Eq.refl; apply Eq.refl)
    | (apply L_tN; apply Eq.refl; apply Eq.refl; apply Eq.refl; intro _; rotate_left 1; intro _; rotate_left 1)
    | apply W_regionG
    | (apply WG_nil; kernel_rfl)
    | (apply WG_q; (first | (apply want_none; apply Eq.refl) | (apply want_some; apply Eq.refl; apply Eq.refl; apply Eq.refl)); apply Eq.refl; first | (apply fq_bld <;> apply Eq.refl) | (apply fq_blda <;> apply Eq.refl) | (apply fq_fn; apply Eq.refl) | (apply fq_mf; apply Eq.refl) | (apply FQ_intro; intro _; (first | (apply q_mvI <;> apply Eq.refl) | (apply q_asI <;> apply Eq.refl) | (apply q_ldb <;> apply Eq.refl) | (apply q_fab <;> apply Eq.refl) | (apply q_cmp <;> apply Eq.refl) | (apply q_mvB <;> apply Eq.refl) | (apply q_asB <;> apply Eq.refl) | (apply q_not <;> apply Eq.refl) | (apply q_ldr <;> apply Eq.refl) | (apply q_arith <;> (first | apply Eq.refl | omega)) | (apply q_len <;> apply Eq.refl) | (apply q_ext <;> apply Eq.refl) | (apply q_pkT <;> apply Eq.refl) | (apply q_pkF <;> apply Eq.refl) | (apply q_ia <;> (first | apply Eq.refl | omega)) | (apply q_ldba <;> apply Eq.refl) | (apply q_ldra <;> apply Eq.refl) | (apply q_bld <;> apply Eq.refl) | (apply q_mvS <;> apply Eq.refl) | (apply q_mvO <;> apply Eq.refl) | (apply q_asO <;> apply Eq.refl) | (apply q_asN <;> apply Eq.refl) | (apply q_blda <;> apply Eq.refl) | (apply q_mvT <;> apply Eq.refl) | (apply q_iar; apply Eq.refl; apply Eq.refl; apply Eq.refl; (first | omega | decide); apply Eq.refl; apply Eq.refl; (first | omega | decide); apply Eq.refl; apply Eq.refl) | (apply q_iab; apply Eq.refl; apply Eq.refl; apply Eq.refl; apply Eq.refl; (first | omega | decide); apply Eq.refl; apply Eq.refl; (first | omega | decide); apply Eq.refl; apply Eq.refl))))
    | (apply WG_call; (first | (apply want_none; apply Eq.refl) | (apply want_some; apply Eq.refl; apply Eq.refl; apply Eq.refl)); apply Eq.refl; apply Eq.refl; apply Eq.refl; exact (c73 (c.trucks.getD i default) false))
    | (apply WG_call; (first | (apply want_none; apply Eq.refl) | (apply want_some; apply Eq.refl; apply Eq.refl; apply Eq.refl)); apply Eq.refl; apply Eq.refl; apply Eq.refl; exact (c73 (c.trucks.getD k default) false))
    | (apply WG_call; (first | (apply want_none; apply Eq.refl) | (apply want_some; apply Eq.refl; apply Eq.refl; apply Eq.refl)); apply Eq.refl; apply Eq.refl; apply Eq.refl; exact (cA false))
    | (apply WG_call; (first | (apply want_none; apply Eq.refl) | (apply want_some; apply Eq.refl; apply Eq.refl; apply Eq.refl)); apply Eq.refl; apply Eq.refl; apply Eq.refl; exact (cB false))
    | (apply WG_call; (first | (apply want_none; apply Eq.refl) | (apply want_some; apply Eq.refl; apply Eq.refl; apply Eq.refl)); apply Eq.refl; apply Eq.refl; apply Eq.refl; exact (cC false))
    | (apply WG_call; (first | (apply want_none; apply Eq.refl) | (apply want_some; apply Eq.refl; apply Eq.refl; apply Eq.refl)); apply Eq.refl; apply Eq.refl; apply Eq.refl; exact (cD false))
    | (apply WG_call; (first | (apply want_none; apply Eq.refl) | (apply want_some; apply Eq.refl; apply Eq.refl; apply Eq.refl)); apply Eq.refl; apply Eq.refl; apply Eq.refl; exact (cE false false))
    | (apply WG_n; (first | (apply want_none; apply Eq.refl) | (apply want_some; apply Eq.refl; apply Eq.refl; apply Eq.refl)); (first | (apply f_alloc <;> apply Eq.refl) | (apply f_stb <;> apply Eq.refl) | (apply f_bsl <;> apply Eq.refl)))
    | (apply W_cD; apply Eq.refl; intro _; rotate_left 1; intro _; rotate_left 1)
    | (apply W_cND; apply Eq.refl; intro _; rotate_left 1; intro _; rotate_left 1)
    | (apply W_cN; apply Eq.refl; intro _; rotate_left 1; intro _; rotate_left 1)
    | (apply W_cond; apply Eq.refl; intro _; rotate_left 1; intro _; rotate_left 1))
    · rename_i a1
      exact ⟨1, ⟨by omega, meet_skip hi a1⟩, by omega, (by refine ⟨?_, ?_, ?_⟩ <;> repeat' (first | exact trivial | apply And.intro | apply Eq.refl))⟩
    · rename_i a1 a2
      exact ⟨1, ⟨by omega, meet_next hi a1 (by rw [← nearC_eq hT hU hg m (false, false), nearQ_no1 a2])⟩, by omega, (by refine ⟨?_, ?_, ?_⟩ <;> repeat' (first | exact trivial | apply And.intro | apply Eq.refl))⟩
    · rename_i a1 a2 a3
      exact ⟨1, ⟨by omega, meet_next hi a1 (by rw [← nearC_eq hT hU hg m (false, false)]; exact nearQ_no2 a3)⟩, by omega, (by refine ⟨?_, ?_, ?_⟩ <;> repeat' (first | exact trivial | apply And.intro | apply Eq.refl))⟩
    · rename_i a1 a2 a3 a4
      have e := nearC_eq hT hU hg m (false, false)
      rw [nearQ_yes a2 a3] at e
      have hM := meet_hit hi a1 (by rw [← e]; exact a4)
      rw [← e] at hM
      rw [hM] at hp
      rw [firstS_hit hm2 hmlt (firstS_hit hi2 hilt (firstS_hit hk2 hklt hp))]
      ((try apply fin_now); first | (focus (apply fin_2; apply Eq.refl; (first | (apply rv_I; apply Eq.refl) | (apply rv_A <;> apply Eq.refl)); (first | (apply rv_I; apply Eq.refl) | (apply rv_A <;> apply Eq.refl)); all_goals try apply Eq.refl)))
    · rename_i a1 a2 a3 a4
      have e := nearC_eq hT hU hg m (false, false)
      rw [nearQ_yes a2 a3] at e
      exact ⟨1, ⟨by omega, meet_next hi a1 (by rw [← e]; exact a4)⟩, by omega, (by refine ⟨?_, ?_, ?_⟩ <;> repeat' (first | exact trivial | apply And.intro | apply Eq.refl))⟩
  · repeat' (first
    | (apply WL_q; apply Eq.refl; apply Eq.refl; (first | (apply q_mvI <;> apply Eq.refl) | (apply q_asI <;> apply Eq.refl) | (apply q_ldb <;> apply Eq.refl) | (apply q_fab <;> apply Eq.refl) | (apply q_cmp <;> apply Eq.refl) | (apply q_mvB <;> apply Eq.refl) | (apply q_asB <;> apply Eq.refl) | (apply q_not <;> apply Eq.refl) | (apply q_ldr <;> apply Eq.refl) | (apply q_arith <;> (first | apply Eq.refl | omega)) | (apply q_len <;> apply Eq.refl) | (apply q_ext <;> apply Eq.refl) | (apply q_pkT <;> apply Eq.refl) | (apply q_pkF <;> apply Eq.refl) | (apply q_ia <;> (first | apply Eq.refl | omega)) | (apply q_ldba <;> apply Eq.refl) | (apply q_ldra <;> apply Eq.refl) | (apply q_bld <;> apply Eq.refl) | (apply q_mvS <;> apply Eq.refl) | (apply q_mvO <;> apply Eq.refl) | (apply q_asO <;> apply Eq.refl) | (apply q_asN <;> apply Eq.refl) | (apply q_blda <;> apply Eq.refl) | (apply q_mvT <;> apply Eq.refl) | (apply q_iar; apply Eq.refl; apply Eq.refl; apply Eq.refl; (first | omega | decide); apply Eq.refl; apply Eq.refl; (first | omega | decide); apply Eq.refl; apply Eq.refl) | (apply q_iab; apply Eq.refl; apply Eq.refl; apply Eq.refl; apply Eq.refl; (first | omega | decide); apply Eq.refl; apply Eq.refl; (first | omega | decide); apply Eq.refl; apply Eq.refl)))
    | apply W_seq
    | apply W_region
    | apply T_normal
    | apply WL_nil
    | apply T_exit
    | apply T_ret
    | apply B_normal
    | apply B_ret
    | apply B_exit_eq
    | apply W_skip
    | apply W_exit
    | apply W_ret
    | apply W_block
    | (apply W_condT; apply Eq.refl)
    | (apply W_condF; apply Eq.refl)
    | (apply WL_call; apply Eq.refl; apply Eq.refl; rotate_left 1; apply Eq.refl; rotate_right 1; exact (c73 (c.trucks.getD i default) true); apply Eq.refl)
    | (apply WL_call; apply Eq.refl; apply Eq.refl; rotate_left 1; apply Eq.refl; rotate_right 1; exact (c73 (c.trucks.getD k default) false); apply Eq.refl)
    | (apply WL_call; apply Eq.refl; apply Eq.refl; rotate_left 1; apply Eq.refl; rotate_right 1; exact (cA true); apply Eq.refl)
    | (apply WL_call; apply Eq.refl; apply Eq.refl; rotate_left 1; apply Eq.refl; rotate_right 1; exact (cB false); apply Eq.refl)
    | (apply WL_call; apply Eq.refl; apply Eq.refl; rotate_left 1; apply Eq.refl; rotate_right 1; exact (cC true); apply Eq.refl)
    | (apply WL_call; apply Eq.refl; apply Eq.refl; rotate_left 1; apply Eq.refl; rotate_right 1; exact (cD false); apply Eq.refl)
    | (apply WL_call; apply Eq.refl; apply Eq.refl; rotate_left 1; apply Eq.refl; rotate_right 1; exact (cE true false); apply Eq.refl)
    | (apply WL_n; apply Eq.refl; (first | (apply n_boxa <;> apply Eq.refl) | (apply n_alloc <;> apply Eq.refl) | (apply n_stb <;> apply Eq.refl)))
    | (apply WL_yes; apply Eq.refl; apply Eq.refl; apply Eq.refl)
    | (apply WL_no; apply Eq.refl; apply Eq.refl; apply Eq.refl; apply Eq.refl; apply Eq.refl)
    | (apply L_tN; apply Eq.refl; apply Eq.refl; apply Eq.refl; intro _; rotate_left 1; intro _; rotate_left 1)
    | apply W_regionG
    | (apply WG_nil; kernel_rfl)
    | (apply WG_q; (first | (apply want_none; apply Eq.refl) | (apply want_some; apply Eq.refl; apply Eq.refl; apply Eq.refl)); apply Eq.refl; first | (apply fq_bld <;> apply Eq.refl) | (apply fq_blda <;> apply Eq.refl) | (apply fq_fn; apply Eq.refl) | (apply fq_mf; apply Eq.refl) | (apply FQ_intro; intro _; (first | (apply q_mvI <;> apply Eq.refl) | (apply q_asI <;> apply Eq.refl) | (apply q_ldb <;> apply Eq.refl) | (apply q_fab <;> apply Eq.refl) | (apply q_cmp <;> apply Eq.refl) | (apply q_mvB <;> apply Eq.refl) | (apply q_asB <;> apply Eq.refl) | (apply q_not <;> apply Eq.refl) | (apply q_ldr <;> apply Eq.refl) | (apply q_arith <;> (first | apply Eq.refl | omega)) | (apply q_len <;> apply Eq.refl) | (apply q_ext <;> apply Eq.refl) | (apply q_pkT <;> apply Eq.refl) | (apply q_pkF <;> apply Eq.refl) | (apply q_ia <;> (first | apply Eq.refl | omega)) | (apply q_ldba <;> apply Eq.refl) | (apply q_ldra <;> apply Eq.refl) | (apply q_bld <;> apply Eq.refl) | (apply q_mvS <;> apply Eq.refl) | (apply q_mvO <;> apply Eq.refl) | (apply q_asO <;> apply Eq.refl) | (apply q_asN <;> apply Eq.refl) | (apply q_blda <;> apply Eq.refl) | (apply q_mvT <;> apply Eq.refl) | (apply q_iar; apply Eq.refl; apply Eq.refl; apply Eq.refl; (first | omega | decide); apply Eq.refl; apply Eq.refl; (first | omega | decide); apply Eq.refl; apply Eq.refl) | (apply q_iab; apply Eq.refl; apply Eq.refl; apply Eq.refl; apply Eq.refl; (first | omega | decide); apply Eq.refl; apply Eq.refl; (first | omega | decide); apply Eq.refl; apply Eq.refl))))
    | (apply WG_call; (first | (apply want_none; apply Eq.refl) | (apply want_some; apply Eq.refl; apply Eq.refl; apply Eq.refl)); apply Eq.refl; apply Eq.refl; apply Eq.refl; exact (c73 (c.trucks.getD i default) true))
    | (apply WG_call; (first | (apply want_none; apply Eq.refl) | (apply want_some; apply Eq.refl; apply Eq.refl; apply Eq.refl)); apply Eq.refl; apply Eq.refl; apply Eq.refl; exact (c73 (c.trucks.getD k default) false))
    | (apply WG_call; (first | (apply want_none; apply Eq.refl) | (apply want_some; apply Eq.refl; apply Eq.refl; apply Eq.refl)); apply Eq.refl; apply Eq.refl; apply Eq.refl; exact (cA true))
    | (apply WG_call; (first | (apply want_none; apply Eq.refl) | (apply want_some; apply Eq.refl; apply Eq.refl; apply Eq.refl)); apply Eq.refl; apply Eq.refl; apply Eq.refl; exact (cB false))
    | (apply WG_call; (first | (apply want_none; apply Eq.refl) | (apply want_some; apply Eq.refl; apply Eq.refl; apply Eq.refl)); apply Eq.refl; apply Eq.refl; apply Eq.refl; exact (cC true))
    | (apply WG_call; (first | (apply want_none; apply Eq.refl) | (apply want_some; apply Eq.refl; apply Eq.refl; apply Eq.refl)); apply Eq.refl; apply Eq.refl; apply Eq.refl; exact (cD false))
    | (apply WG_call; (first | (apply want_none; apply Eq.refl) | (apply want_some; apply Eq.refl; apply Eq.refl; apply Eq.refl)); apply Eq.refl; apply Eq.refl; apply Eq.refl; exact (cE true false))
    | (apply WG_n; (first | (apply want_none; apply Eq.refl) | (apply want_some; apply Eq.refl; apply Eq.refl; apply Eq.refl)); (first | (apply f_alloc <;> apply Eq.refl) | (apply f_stb <;> apply Eq.refl) | (apply f_bsl <;> apply Eq.refl)))
    | (apply W_cD; apply Eq.refl; intro _; rotate_left 1; intro _; rotate_left 1)
    | (apply W_cND; apply Eq.refl; intro _; rotate_left 1; intro _; rotate_left 1)
    | (apply W_cN; apply Eq.refl; intro _; rotate_left 1; intro _; rotate_left 1)
    | (apply W_cond; apply Eq.refl; intro _; rotate_left 1; intro _; rotate_left 1))
    · rename_i a1
      exact ⟨2, ⟨by omega, meet_skip hi a1⟩, by omega, (by refine ⟨?_, ?_, ?_⟩ <;> repeat' (first | exact trivial | apply And.intro | apply Eq.refl))⟩
    · rename_i a1 a2
      exact ⟨2, ⟨by omega, meet_next hi a1 (by rw [← nearC_eq hT hU hg m (true, false), nearQ_no1 a2])⟩, by omega, (by refine ⟨?_, ?_, ?_⟩ <;> repeat' (first | exact trivial | apply And.intro | apply Eq.refl))⟩
    · rename_i a1 a2 a3
      exact ⟨2, ⟨by omega, meet_next hi a1 (by rw [← nearC_eq hT hU hg m (true, false)]; exact nearQ_no2 a3)⟩, by omega, (by refine ⟨?_, ?_, ?_⟩ <;> repeat' (first | exact trivial | apply And.intro | apply Eq.refl))⟩
    · rename_i a1 a2 a3 a4
      have e := nearC_eq hT hU hg m (true, false)
      rw [nearQ_yes a2 a3] at e
      have hM := meet_hit hi a1 (by rw [← e]; exact a4)
      rw [← e] at hM
      rw [hM] at hp
      rw [firstS_hit hm2 hmlt (firstS_hit hi2 hilt (firstS_hit hk2 hklt hp))]
      ((try apply fin_now); first | (focus (apply fin_2; apply Eq.refl; (first | (apply rv_I; apply Eq.refl) | (apply rv_A <;> apply Eq.refl)); (first | (apply rv_I; apply Eq.refl) | (apply rv_A <;> apply Eq.refl)); all_goals try apply Eq.refl)))
    · rename_i a1 a2 a3 a4
      have e := nearC_eq hT hU hg m (true, false)
      rw [nearQ_yes a2 a3] at e
      exact ⟨2, ⟨by omega, meet_next hi a1 (by rw [← e]; exact a4)⟩, by omega, (by refine ⟨?_, ?_, ?_⟩ <;> repeat' (first | exact trivial | apply And.intro | apply Eq.refl))⟩
  · repeat' (first
    | (apply WL_q; apply Eq.refl; apply Eq.refl; (first | (apply q_mvI <;> apply Eq.refl) | (apply q_asI <;> apply Eq.refl) | (apply q_ldb <;> apply Eq.refl) | (apply q_fab <;> apply Eq.refl) | (apply q_cmp <;> apply Eq.refl) | (apply q_mvB <;> apply Eq.refl) | (apply q_asB <;> apply Eq.refl) | (apply q_not <;> apply Eq.refl) | (apply q_ldr <;> apply Eq.refl) | (apply q_arith <;> (first | apply Eq.refl | omega)) | (apply q_len <;> apply Eq.refl) | (apply q_ext <;> apply Eq.refl) | (apply q_pkT <;> apply Eq.refl) | (apply q_pkF <;> apply Eq.refl) | (apply q_ia <;> (first | apply Eq.refl | omega)) | (apply q_ldba <;> apply Eq.refl) | (apply q_ldra <;> apply Eq.refl) | (apply q_bld <;> apply Eq.refl) | (apply q_mvS <;> apply Eq.refl) | (apply q_mvO <;> apply Eq.refl) | (apply q_asO <;> apply Eq.refl) | (apply q_asN <;> apply Eq.refl) | (apply q_blda <;> apply Eq.refl) | (apply q_mvT <;> apply Eq.refl) | (apply q_iar; apply Eq.refl; apply Eq.refl; apply Eq.refl; (first | omega | decide); apply Eq.refl; apply Eq.refl; (first | omega | decide); apply Eq.refl; apply Eq.refl) | (apply q_iab; apply Eq.refl; apply Eq.refl; apply Eq.refl; apply Eq.refl; (first | omega | decide); apply Eq.refl; apply Eq.refl; (first | omega | decide); apply Eq.refl; apply Eq.refl)))
    | apply W_seq
    | apply W_region
    | apply T_normal
    | apply WL_nil
    | apply T_exit
    | apply T_ret
    | apply B_normal
    | apply B_ret
    | apply B_exit_eq
    | apply W_skip
    | apply W_exit
    | apply W_ret
    | apply W_block
    | (apply W_condT; apply Eq.refl)
    | (apply W_condF; apply Eq.refl)
    | (apply WL_call; apply Eq.refl; apply Eq.refl; rotate_left 1; apply Eq.refl; rotate_right 1; exact (c73 (c.trucks.getD i default) false); apply Eq.refl)
    | (apply WL_call; apply Eq.refl; apply Eq.refl; rotate_left 1; apply Eq.refl; rotate_right 1; exact (c73 (c.trucks.getD k default) true); apply Eq.refl)
    | (apply WL_call; apply Eq.refl; apply Eq.refl; rotate_left 1; apply Eq.refl; rotate_right 1; exact (cA false); apply Eq.refl)
    | (apply WL_call; apply Eq.refl; apply Eq.refl; rotate_left 1; apply Eq.refl; rotate_right 1; exact (cB true); apply Eq.refl)
    | (apply WL_call; apply Eq.refl; apply Eq.refl; rotate_left 1; apply Eq.refl; rotate_right 1; exact (cC false); apply Eq.refl)
    | (apply WL_call; apply Eq.refl; apply Eq.refl; rotate_left 1; apply Eq.refl; rotate_right 1; exact (cD true); apply Eq.refl)
    | (apply WL_call; apply Eq.refl; apply Eq.refl; rotate_left 1; apply Eq.refl; rotate_right 1; exact (cE false true); apply Eq.refl)
    | (apply WL_n; apply Eq.refl; (first | (apply n_boxa <;> apply Eq.refl) | (apply n_alloc <;> apply Eq.refl) | (apply n_stb <;> apply Eq.refl)))
    | (apply WL_yes; apply Eq.refl; apply Eq.refl; apply Eq.refl)
    | (apply WL_no; apply Eq.refl; apply Eq.refl; apply Eq.refl; apply Eq.refl; apply Eq.refl)
    | (apply L_tN; apply Eq.refl; apply Eq.refl; apply Eq.refl; intro _; rotate_left 1; intro _; rotate_left 1)
    | apply W_regionG
    | (apply WG_nil; kernel_rfl)
    | (apply WG_q; (first | (apply want_none; apply Eq.refl) | (apply want_some; apply Eq.refl; apply Eq.refl; apply Eq.refl)); apply Eq.refl; first | (apply fq_bld <;> apply Eq.refl) | (apply fq_blda <;> apply Eq.refl) | (apply fq_fn; apply Eq.refl) | (apply fq_mf; apply Eq.refl) | (apply FQ_intro; intro _; (first | (apply q_mvI <;> apply Eq.refl) | (apply q_asI <;> apply Eq.refl) | (apply q_ldb <;> apply Eq.refl) | (apply q_fab <;> apply Eq.refl) | (apply q_cmp <;> apply Eq.refl) | (apply q_mvB <;> apply Eq.refl) | (apply q_asB <;> apply Eq.refl) | (apply q_not <;> apply Eq.refl) | (apply q_ldr <;> apply Eq.refl) | (apply q_arith <;> (first | apply Eq.refl | omega)) | (apply q_len <;> apply Eq.refl) | (apply q_ext <;> apply Eq.refl) | (apply q_pkT <;> apply Eq.refl) | (apply q_pkF <;> apply Eq.refl) | (apply q_ia <;> (first | apply Eq.refl | omega)) | (apply q_ldba <;> apply Eq.refl) | (apply q_ldra <;> apply Eq.refl) | (apply q_bld <;> apply Eq.refl) | (apply q_mvS <;> apply Eq.refl) | (apply q_mvO <;> apply Eq.refl) | (apply q_asO <;> apply Eq.refl) | (apply q_asN <;> apply Eq.refl) | (apply q_blda <;> apply Eq.refl) | (apply q_mvT <;> apply Eq.refl) | (apply q_iar; apply Eq.refl; apply Eq.refl; apply Eq.refl; (first | omega | decide); apply Eq.refl; apply Eq.refl; (first | omega | decide); apply Eq.refl; apply Eq.refl) | (apply q_iab; apply Eq.refl; apply Eq.refl; apply Eq.refl; apply Eq.refl; (first | omega | decide); apply Eq.refl; apply Eq.refl; (first | omega | decide); apply Eq.refl; apply Eq.refl))))
    | (apply WG_call; (first | (apply want_none; apply Eq.refl) | (apply want_some; apply Eq.refl; apply Eq.refl; apply Eq.refl)); apply Eq.refl; apply Eq.refl; apply Eq.refl; exact (c73 (c.trucks.getD i default) false))
    | (apply WG_call; (first | (apply want_none; apply Eq.refl) | (apply want_some; apply Eq.refl; apply Eq.refl; apply Eq.refl)); apply Eq.refl; apply Eq.refl; apply Eq.refl; exact (c73 (c.trucks.getD k default) true))
    | (apply WG_call; (first | (apply want_none; apply Eq.refl) | (apply want_some; apply Eq.refl; apply Eq.refl; apply Eq.refl)); apply Eq.refl; apply Eq.refl; apply Eq.refl; exact (cA false))
    | (apply WG_call; (first | (apply want_none; apply Eq.refl) | (apply want_some; apply Eq.refl; apply Eq.refl; apply Eq.refl)); apply Eq.refl; apply Eq.refl; apply Eq.refl; exact (cB true))
    | (apply WG_call; (first | (apply want_none; apply Eq.refl) | (apply want_some; apply Eq.refl; apply Eq.refl; apply Eq.refl)); apply Eq.refl; apply Eq.refl; apply Eq.refl; exact (cC false))
    | (apply WG_call; (first | (apply want_none; apply Eq.refl) | (apply want_some; apply Eq.refl; apply Eq.refl; apply Eq.refl)); apply Eq.refl; apply Eq.refl; apply Eq.refl; exact (cD true))
    | (apply WG_call; (first | (apply want_none; apply Eq.refl) | (apply want_some; apply Eq.refl; apply Eq.refl; apply Eq.refl)); apply Eq.refl; apply Eq.refl; apply Eq.refl; exact (cE false true))
    | (apply WG_n; (first | (apply want_none; apply Eq.refl) | (apply want_some; apply Eq.refl; apply Eq.refl; apply Eq.refl)); (first | (apply f_alloc <;> apply Eq.refl) | (apply f_stb <;> apply Eq.refl) | (apply f_bsl <;> apply Eq.refl)))
    | (apply W_cD; apply Eq.refl; intro _; rotate_left 1; intro _; rotate_left 1)
    | (apply W_cND; apply Eq.refl; intro _; rotate_left 1; intro _; rotate_left 1)
    | (apply W_cN; apply Eq.refl; intro _; rotate_left 1; intro _; rotate_left 1)
    | (apply W_cond; apply Eq.refl; intro _; rotate_left 1; intro _; rotate_left 1))
    · rename_i a1
      exact ⟨3, ⟨by omega, meet_skip hi a1⟩, by omega, (by refine ⟨?_, ?_, ?_⟩ <;> repeat' (first | exact trivial | apply And.intro | apply Eq.refl))⟩
    · rename_i a1 a2
      exact ⟨3, ⟨by omega, meet_next hi a1 (by rw [← nearC_eq hT hU hg m (false, true), nearQ_no1 a2])⟩, by omega, (by refine ⟨?_, ?_, ?_⟩ <;> repeat' (first | exact trivial | apply And.intro | apply Eq.refl))⟩
    · rename_i a1 a2 a3
      exact ⟨3, ⟨by omega, meet_next hi a1 (by rw [← nearC_eq hT hU hg m (false, true)]; exact nearQ_no2 a3)⟩, by omega, (by refine ⟨?_, ?_, ?_⟩ <;> repeat' (first | exact trivial | apply And.intro | apply Eq.refl))⟩
    · rename_i a1 a2 a3 a4
      have e := nearC_eq hT hU hg m (false, true)
      rw [nearQ_yes a2 a3] at e
      have hM := meet_hit hi a1 (by rw [← e]; exact a4)
      rw [← e] at hM
      rw [hM] at hp
      rw [firstS_hit hm2 hmlt (firstS_hit hi2 hilt (firstS_hit hk2 hklt hp))]
      ((try apply fin_now); first | (focus (apply fin_2; apply Eq.refl; (first | (apply rv_I; apply Eq.refl) | (apply rv_A <;> apply Eq.refl)); (first | (apply rv_I; apply Eq.refl) | (apply rv_A <;> apply Eq.refl)); all_goals try apply Eq.refl)))
    · rename_i a1 a2 a3 a4
      have e := nearC_eq hT hU hg m (false, true)
      rw [nearQ_yes a2 a3] at e
      exact ⟨3, ⟨by omega, meet_next hi a1 (by rw [← e]; exact a4)⟩, by omega, (by refine ⟨?_, ?_, ?_⟩ <;> repeat' (first | exact trivial | apply And.intro | apply Eq.refl))⟩
  · repeat' (first
    | (apply WL_q; apply Eq.refl; apply Eq.refl; (first | (apply q_mvI <;> apply Eq.refl) | (apply q_asI <;> apply Eq.refl) | (apply q_ldb <;> apply Eq.refl) | (apply q_fab <;> apply Eq.refl) | (apply q_cmp <;> apply Eq.refl) | (apply q_mvB <;> apply Eq.refl) | (apply q_asB <;> apply Eq.refl) | (apply q_not <;> apply Eq.refl) | (apply q_ldr <;> apply Eq.refl) | (apply q_arith <;> (first | apply Eq.refl | omega)) | (apply q_len <;> apply Eq.refl) | (apply q_ext <;> apply Eq.refl) | (apply q_pkT <;> apply Eq.refl) | (apply q_pkF <;> apply Eq.refl) | (apply q_ia <;> (first | apply Eq.refl | omega)) | (apply q_ldba <;> apply Eq.refl) | (apply q_ldra <;> apply Eq.refl) | (apply q_bld <;> apply Eq.refl) | (apply q_mvS <;> apply Eq.refl) | (apply q_mvO <;> apply Eq.refl) | (apply q_asO <;> apply Eq.refl) | (apply q_asN <;> apply Eq.refl) | (apply q_blda <;> apply Eq.refl) | (apply q_mvT <;> apply Eq.refl) | (apply q_iar; apply Eq.refl; apply Eq.refl; apply Eq.refl; (first | omega | decide); apply Eq.refl; apply Eq.refl; (first | omega | decide); apply Eq.refl; apply Eq.refl) | (apply q_iab; apply Eq.refl; apply Eq.refl; apply Eq.refl; apply Eq.refl; (first | omega | decide); apply Eq.refl; apply Eq.refl; (first | omega | decide); apply Eq.refl; apply Eq.refl)))
    | apply W_seq
    | apply W_region
    | apply T_normal
    | apply WL_nil
    | apply T_exit
    | apply T_ret
    | apply B_normal
    | apply B_ret
    | apply B_exit_eq
    | apply W_skip
    | apply W_exit
    | apply W_ret
    | apply W_block
    | (apply W_condT; apply Eq.refl)
    | (apply W_condF; apply Eq.refl)
    | (apply WL_call; apply Eq.refl; apply Eq.refl; rotate_left 1; apply Eq.refl; rotate_right 1; exact (c73 (c.trucks.getD i default) true); apply Eq.refl)
    | (apply WL_call; apply Eq.refl; apply Eq.refl; rotate_left 1; apply Eq.refl; rotate_right 1; exact (c73 (c.trucks.getD k default) true); apply Eq.refl)
    | (apply WL_call; apply Eq.refl; apply Eq.refl; rotate_left 1; apply Eq.refl; rotate_right 1; exact (cA true); apply Eq.refl)
    | (apply WL_call; apply Eq.refl; apply Eq.refl; rotate_left 1; apply Eq.refl; rotate_right 1; exact (cB true); apply Eq.refl)
    | (apply WL_call; apply Eq.refl; apply Eq.refl; rotate_left 1; apply Eq.refl; rotate_right 1; exact (cC true); apply Eq.refl)
    | (apply WL_call; apply Eq.refl; apply Eq.refl; rotate_left 1; apply Eq.refl; rotate_right 1; exact (cD true); apply Eq.refl)
    | (apply WL_call; apply Eq.refl; apply Eq.refl; rotate_left 1; apply Eq.refl; rotate_right 1; exact (cE true true); apply Eq.refl)
    | (apply WL_n; apply Eq.refl; (first | (apply n_boxa <;> apply Eq.refl) | (apply n_alloc <;> apply Eq.refl) | (apply n_stb <;> apply Eq.refl)))
    | (apply WL_yes; apply Eq.refl; apply Eq.refl; apply Eq.refl)
    | (apply WL_no; apply Eq.refl; apply Eq.refl; apply Eq.refl; apply Eq.refl; apply Eq.refl)
    | (apply L_tN; apply Eq.refl; apply Eq.refl; apply Eq.refl; intro _; rotate_left 1; intro _; rotate_left 1)
    | apply W_regionG
    | (apply WG_nil; kernel_rfl)
    | (apply WG_q; (first | (apply want_none; apply Eq.refl) | (apply want_some; apply Eq.refl; apply Eq.refl; apply Eq.refl)); apply Eq.refl; first | (apply fq_bld <;> apply Eq.refl) | (apply fq_blda <;> apply Eq.refl) | (apply fq_fn; apply Eq.refl) | (apply fq_mf; apply Eq.refl) | (apply FQ_intro; intro _; (first | (apply q_mvI <;> apply Eq.refl) | (apply q_asI <;> apply Eq.refl) | (apply q_ldb <;> apply Eq.refl) | (apply q_fab <;> apply Eq.refl) | (apply q_cmp <;> apply Eq.refl) | (apply q_mvB <;> apply Eq.refl) | (apply q_asB <;> apply Eq.refl) | (apply q_not <;> apply Eq.refl) | (apply q_ldr <;> apply Eq.refl) | (apply q_arith <;> (first | apply Eq.refl | omega)) | (apply q_len <;> apply Eq.refl) | (apply q_ext <;> apply Eq.refl) | (apply q_pkT <;> apply Eq.refl) | (apply q_pkF <;> apply Eq.refl) | (apply q_ia <;> (first | apply Eq.refl | omega)) | (apply q_ldba <;> apply Eq.refl) | (apply q_ldra <;> apply Eq.refl) | (apply q_bld <;> apply Eq.refl) | (apply q_mvS <;> apply Eq.refl) | (apply q_mvO <;> apply Eq.refl) | (apply q_asO <;> apply Eq.refl) | (apply q_asN <;> apply Eq.refl) | (apply q_blda <;> apply Eq.refl) | (apply q_mvT <;> apply Eq.refl) | (apply q_iar; apply Eq.refl; apply Eq.refl; apply Eq.refl; (first | omega | decide); apply Eq.refl; apply Eq.refl; (first | omega | decide); apply Eq.refl; apply Eq.refl) | (apply q_iab; apply Eq.refl; apply Eq.refl; apply Eq.refl; apply Eq.refl; (first | omega | decide); apply Eq.refl; apply Eq.refl; (first | omega | decide); apply Eq.refl; apply Eq.refl))))
    | (apply WG_call; (first | (apply want_none; apply Eq.refl) | (apply want_some; apply Eq.refl; apply Eq.refl; apply Eq.refl)); apply Eq.refl; apply Eq.refl; apply Eq.refl; exact (c73 (c.trucks.getD i default) true))
    | (apply WG_call; (first | (apply want_none; apply Eq.refl) | (apply want_some; apply Eq.refl; apply Eq.refl; apply Eq.refl)); apply Eq.refl; apply Eq.refl; apply Eq.refl; exact (c73 (c.trucks.getD k default) true))
    | (apply WG_call; (first | (apply want_none; apply Eq.refl) | (apply want_some; apply Eq.refl; apply Eq.refl; apply Eq.refl)); apply Eq.refl; apply Eq.refl; apply Eq.refl; exact (cA true))
    | (apply WG_call; (first | (apply want_none; apply Eq.refl) | (apply want_some; apply Eq.refl; apply Eq.refl; apply Eq.refl)); apply Eq.refl; apply Eq.refl; apply Eq.refl; exact (cB true))
    | (apply WG_call; (first | (apply want_none; apply Eq.refl) | (apply want_some; apply Eq.refl; apply Eq.refl; apply Eq.refl)); apply Eq.refl; apply Eq.refl; apply Eq.refl; exact (cC true))
    | (apply WG_call; (first | (apply want_none; apply Eq.refl) | (apply want_some; apply Eq.refl; apply Eq.refl; apply Eq.refl)); apply Eq.refl; apply Eq.refl; apply Eq.refl; exact (cD true))
    | (apply WG_call; (first | (apply want_none; apply Eq.refl) | (apply want_some; apply Eq.refl; apply Eq.refl; apply Eq.refl)); apply Eq.refl; apply Eq.refl; apply Eq.refl; exact (cE true true))
    | (apply WG_n; (first | (apply want_none; apply Eq.refl) | (apply want_some; apply Eq.refl; apply Eq.refl; apply Eq.refl)); (first | (apply f_alloc <;> apply Eq.refl) | (apply f_stb <;> apply Eq.refl) | (apply f_bsl <;> apply Eq.refl)))
    | (apply W_cD; apply Eq.refl; intro _; rotate_left 1; intro _; rotate_left 1)
    | (apply W_cND; apply Eq.refl; intro _; rotate_left 1; intro _; rotate_left 1)
    | (apply W_cN; apply Eq.refl; intro _; rotate_left 1; intro _; rotate_left 1)
    | (apply W_cond; apply Eq.refl; intro _; rotate_left 1; intro _; rotate_left 1))
    · rename_i a1
      exact ⟨4, ⟨by omega, meet_skip hi a1⟩, by omega, (by refine ⟨?_, ?_, ?_⟩ <;> repeat' (first | exact trivial | apply And.intro | apply Eq.refl))⟩
    · rename_i a1 a2
      exact ⟨4, ⟨by omega, meet_next hi a1 (by rw [← nearC_eq hT hU hg m (true, true), nearQ_no1 a2])⟩, by omega, (by refine ⟨?_, ?_, ?_⟩ <;> repeat' (first | exact trivial | apply And.intro | apply Eq.refl))⟩
    · rename_i a1 a2 a3
      exact ⟨4, ⟨by omega, meet_next hi a1 (by rw [← nearC_eq hT hU hg m (true, true)]; exact nearQ_no2 a3)⟩, by omega, (by refine ⟨?_, ?_, ?_⟩ <;> repeat' (first | exact trivial | apply And.intro | apply Eq.refl))⟩
    · rename_i a1 a2 a3 a4
      have e := nearC_eq hT hU hg m (true, true)
      rw [nearQ_yes a2 a3] at e
      have hM := meet_hit hi a1 (by rw [← e]; exact a4)
      rw [← e] at hM
      rw [hM] at hp
      rw [firstS_hit hm2 hmlt (firstS_hit hi2 hilt (firstS_hit hk2 hklt hp))]
      ((try apply fin_now); first | (focus (apply fin_2; apply Eq.refl; (first | (apply rv_I; apply Eq.refl) | (apply rv_A <;> apply Eq.refl)); (first | (apply rv_I; apply Eq.refl) | (apply rv_A <;> apply Eq.refl)); all_goals try apply Eq.refl)))
    · rename_i a1 a2 a3 a4
      have e := nearC_eq hT hU hg m (true, true)
      rw [nearQ_yes a2 a3] at e
      exact ⟨4, ⟨by omega, meet_next hi a1 (by rw [← e]; exact a4)⟩, by omega, (by refine ⟨?_, ?_, ?_⟩ <;> repeat' (first | exact trivial | apply And.intro | apply Eq.refl))⟩
  · rw [← hi] at hp
    repeat' (first
    | (apply WL_q; apply Eq.refl; apply Eq.refl; (first | (apply q_mvI <;> apply Eq.refl) | (apply q_asI <;> apply Eq.refl) | (apply q_ldb <;> apply Eq.refl) | (apply q_fab <;> apply Eq.refl) | (apply q_cmp <;> apply Eq.refl) | (apply q_mvB <;> apply Eq.refl) | (apply q_asB <;> apply Eq.refl) | (apply q_not <;> apply Eq.refl) | (apply q_ldr <;> apply Eq.refl) | (apply q_arith <;> (first | apply Eq.refl | omega)) | (apply q_len <;> apply Eq.refl) | (apply q_ext <;> apply Eq.refl) | (apply q_pkT <;> apply Eq.refl) | (apply q_pkF <;> apply Eq.refl) | (apply q_ia <;> (first | apply Eq.refl | omega)) | (apply q_ldba <;> apply Eq.refl) | (apply q_ldra <;> apply Eq.refl) | (apply q_bld <;> apply Eq.refl) | (apply q_mvS <;> apply Eq.refl) | (apply q_mvO <;> apply Eq.refl) | (apply q_asO <;> apply Eq.refl) | (apply q_asN <;> apply Eq.refl) | (apply q_blda <;> apply Eq.refl) | (apply q_mvT <;> apply Eq.refl) | (apply q_iar; apply Eq.refl; apply Eq.refl; apply Eq.refl; (first | omega | decide); apply Eq.refl; apply Eq.refl; (first | omega | decide); apply Eq.refl; apply Eq.refl) | (apply q_iab; apply Eq.refl; apply Eq.refl; apply Eq.refl; apply Eq.refl; (first | omega | decide); apply Eq.refl; apply Eq.refl; (first | omega | decide); apply Eq.refl; apply Eq.refl)))
    | apply W_seq
    | apply W_region
    | apply T_normal
    | apply WL_nil
    | apply T_exit
    | apply T_ret
    | apply B_normal
    | apply B_ret
    | apply B_exit_eq
    | apply W_skip
    | apply W_exit
    | apply W_ret
    | apply W_block
    | (apply W_condT; apply Eq.refl)
    | (apply W_condF; apply Eq.refl)
    | (apply WL_n; apply Eq.refl; (first | (apply n_boxa <;> apply Eq.refl) | (apply n_alloc <;> apply Eq.refl) | (apply n_stb <;> apply Eq.refl)))
    | (apply WL_yes; apply Eq.refl; apply Eq.refl; apply Eq.refl)
    | (apply WL_no; apply Eq.refl; apply Eq.refl; apply Eq.refl; apply Eq.refl; apply Eq.refl)
    | (apply L_tN; apply Eq.refl; apply Eq.refl; apply Eq.refl; intro _; rotate_left 1; intro _; rotate_left 1)
    | apply W_regionG
    | (apply WG_nil; kernel_rfl)
    | (apply WG_q; (first | (apply want_none; apply Eq.refl) | (apply want_some; apply Eq.refl; apply Eq.refl; apply Eq.refl)); apply Eq.refl; first | (apply fq_bld <;> apply Eq.refl) | (apply fq_blda <;> apply Eq.refl) | (apply fq_fn; apply Eq.refl) | (apply fq_mf; apply Eq.refl) | (apply FQ_intro; intro _; (first | (apply q_mvI <;> apply Eq.refl) | (apply q_asI <;> apply Eq.refl) | (apply q_ldb <;> apply Eq.refl) | (apply q_fab <;> apply Eq.refl) | (apply q_cmp <;> apply Eq.refl) | (apply q_mvB <;> apply Eq.refl) | (apply q_asB <;> apply Eq.refl) | (apply q_not <;> apply Eq.refl) | (apply q_ldr <;> apply Eq.refl) | (apply q_arith <;> (first | apply Eq.refl | omega)) | (apply q_len <;> apply Eq.refl) | (apply q_ext <;> apply Eq.refl) | (apply q_pkT <;> apply Eq.refl) | (apply q_pkF <;> apply Eq.refl) | (apply q_ia <;> (first | apply Eq.refl | omega)) | (apply q_ldba <;> apply Eq.refl) | (apply q_ldra <;> apply Eq.refl) | (apply q_bld <;> apply Eq.refl) | (apply q_mvS <;> apply Eq.refl) | (apply q_mvO <;> apply Eq.refl) | (apply q_asO <;> apply Eq.refl) | (apply q_asN <;> apply Eq.refl) | (apply q_blda <;> apply Eq.refl) | (apply q_mvT <;> apply Eq.refl) | (apply q_iar; apply Eq.refl; apply Eq.refl; apply Eq.refl; (first | omega | decide); apply Eq.refl; apply Eq.refl; (first | omega | decide); apply Eq.refl; apply Eq.refl) | (apply q_iab; apply Eq.refl; apply Eq.refl; apply Eq.refl; apply Eq.refl; (first | omega | decide); apply Eq.refl; apply Eq.refl; (first | omega | decide); apply Eq.refl; apply Eq.refl))))
    | (apply WG_n; (first | (apply want_none; apply Eq.refl) | (apply want_some; apply Eq.refl; apply Eq.refl; apply Eq.refl)); (first | (apply f_alloc <;> apply Eq.refl) | (apply f_stb <;> apply Eq.refl) | (apply f_bsl <;> apply Eq.refl)))
    | (apply W_cD; apply Eq.refl; intro _; rotate_left 1; intro _; rotate_left 1)
    | (apply W_cND; apply Eq.refl; intro _; rotate_left 1; intro _; rotate_left 1)
    | (apply W_cN; apply Eq.refl; intro _; rotate_left 1; intro _; rotate_left 1)
    | (apply W_cond; apply Eq.refl; intro _; rotate_left 1; intro _; rotate_left 1))
    exact ⟨k + 1, ⟨by omega, by omega, firstS_next hk2 hklt hp⟩, by omega, (by apply reach_now; refine ⟨?_, ?_, ?_, ?_, ?_⟩ <;> repeat' (first | exact trivial | apply And.intro | apply Eq.refl | (apply toI; apply Eq.refl; first | omega | assumption) | (apply toB; apply Eq.refl; repeat' (first | apply Eq.refl | apply consS | (apply consI; first | apply Eq.refl | omega | assumption)))))⟩
end Go.Proofs.YtafnhieaeejlcaaDoor



/- A call in a region that draws its order: it gets a box and may write it. -/
namespace Go.Ab
open Go Go.RowKit
section
variable {X : Ctx} {Q : Exit → St → Prop} {S T0 : St} {ops : Array Oper} {o : Oper} {rest : List Oper} {S0 : St} {E : List Ent} {V : List Vl}
end
end Go.Ab


/- The program's types as plain Lean, their codes, and how they stand in cells. Written out by types_iv.py (ours). -/
namespace Go.Ab
open Go Go.RowKit
set_option linter.all false
structure Span where
  Lo : Int
  Hi : Int
  deriving DecidableEq
def dfltSpan : Span := ⟨0, 0⟩
instance : Inhabited Span := ⟨dfltSpan⟩
structure Hold where
  At : Int
  Until : Int
  deriving DecidableEq
def dfltHold : Hold := ⟨0, 0⟩
instance : Inhabited Hold := ⟨dfltHold⟩
structure Truck where
  Way : Int
  Start : Int
  Pace : Span
  Holds : List Hold
  deriving DecidableEq
def dfltTruck : Truck := ⟨0, 0, dfltSpan, []⟩
instance : Inhabited Truck := ⟨dfltTruck⟩
structure Convoy where
  Length : Int
  Gap : Int
  Fails : Int
  Trucks : List Truck
  deriving DecidableEq
def dfltConvoy : Convoy := ⟨0, 0, 0, []⟩
instance : Inhabited Convoy := ⟨dfltConvoy⟩
structure Meeting where
  Minute : Int
  First : Int
  Second : Int
  FirstFails : Bool
  SecondFails : Bool
  At : Int
  Other : Int
  deriving DecidableEq
def dfltMeeting : Meeting := ⟨0, 0, 0, false, false, 0, 0⟩
instance : Inhabited Meeting := ⟨dfltMeeting⟩
structure Ride where
  Truck : Truck
  length : Int
  deriving DecidableEq
def dfltRide : Ride := ⟨dfltTruck, 0⟩
instance : Inhabited Ride := ⟨dfltRide⟩
structure Track where
  ride : Ride
  gone : List Span
  deriving DecidableEq
def dfltTrack : Track := ⟨dfltRide, []⟩
instance : Inhabited Track := ⟨dfltTrack⟩
structure Lanes where
  a : Track
  b : Track
  deriving DecidableEq
def dfltLanes : Lanes := ⟨dfltTrack, dfltTrack⟩
instance : Inhabited Lanes := ⟨dfltLanes⟩
structure Nearness where
  gap : Int
  fails : Int
  deriving DecidableEq
def dfltNearness : Nearness := ⟨0, 0⟩
instance : Inhabited Nearness := ⟨dfltNearness⟩
structure Pair where
  a : Int
  b : Int
  deriving DecidableEq
def dfltPair : Pair := ⟨0, 0⟩
instance : Inhabited Pair := ⟨dfltPair⟩
structure Seed where
  word : Int
  deriving DecidableEq
def dfltSeed : Seed := ⟨0⟩
instance : Inhabited Seed := ⟨dfltSeed⟩
structure Ways where
  a : List Span
  b : List Span
  deriving DecidableEq
def dfltWays : Ways := ⟨[], []⟩
instance : Inhabited Ways := ⟨dfltWays⟩
inductive T where
  | int (k : IntKind) | bool | str | sl (t : T) | ptr (t : T) | clo (f : FuncId) (t : T) | clo0 (f : FuncId) | clo2 (f : FuncId) (t u : T)
  | Span | Hold | Truck | Convoy | Meeting | Ride | Track | Lanes | Nearness | Pair | Seed | Ways
  deriving DecidableEq
@[reducible] def den : T → Type
  | .int _ => Int
  | .bool => Bool
  | .str => ByteArray
  | .sl t => List (den t)
  | .ptr t => den t
  | .clo _ t => den t
  | .clo0 _ => Unit
  | .clo2 _ t u => den t × den u
  | .Span => Span
  | .Hold => Hold
  | .Truck => Truck
  | .Convoy => Convoy
  | .Meeting => Meeting
  | .Ride => Ride
  | .Track => Track
  | .Lanes => Lanes
  | .Nearness => Nearness
  | .Pair => Pair
  | .Seed => Seed
  | .Ways => Ways
def sz : T → Nat
  | .Span => 2
  | .Hold => 2
  | .Truck => 5
  | .Convoy => 4
  | .Meeting => 7
  | .Ride => 6
  | .Track => 7
  | .Lanes => 14
  | .Nearness => 2
  | .Pair => 2
  | .Seed => 1
  | .Ways => 2
  | _ => 1
def dflt : (t : T) → den t
  | .int _ => (0 : Int)
  | .bool => false
  | .str => (⟨#[]⟩ : ByteArray)
  | .sl t => ([] : List (den t))
  | .ptr t => dflt t
  | .clo _ t => dflt t
  | .clo0 _ => ()
  | .clo2 _ t u => (dflt t, dflt u)
  | .Span => dfltSpan
  | .Hold => dfltHold
  | .Truck => dfltTruck
  | .Convoy => dfltConvoy
  | .Meeting => dfltMeeting
  | .Ride => dfltRide
  | .Track => dfltTrack
  | .Lanes => dfltLanes
  | .Nearness => dfltNearness
  | .Pair => dfltPair
  | .Seed => dfltSeed
  | .Ways => dfltWays
/-- Values as a walk by computing knows them: data are typed. -/
inductive I where
  | int (k : IntKind) (n : Int)
  | bool (b : Bool)
  | str (s : ByteArray)
  | agg (l : List I)
  | tup (l : List I)
  | sl (t : T) (l : List (den t))
  | nil
  | rp (l : List I) (o : Nat)
  | bx (s g o : Nat)
  | os (s g : Nat)
  | op (s g z i o : Nat)
  | fn (f : FuncId) (c : List I)
  | yl (l : Nat)
  | mf (f : FuncId) (c : List I)
  | undef
instance : Inhabited I := ⟨.undef⟩
def tI (k : IntKind) : List I → Option (Int × List I)
  | .int k' n :: r => if k' = k then some (n, r) else none
  | _ => none
def tB : List I → Option (Bool × List I)
  | .bool b :: r => some (b, r)
  | _ => none
def tS : List I → Option (ByteArray × List I)
  | .str b :: r => some (b, r)
  | _ => none
def asL (t t' : T) (l : List (den t')) : Option (List (den t)) := if h : t' = t then some (h ▸ l) else none
def tL (t : T) : List I → Option (List (den t) × List I)
  | .sl t' l :: r => match asL t t' l with | some l => some (l, r) | none => none
  | .nil :: r => some ([], r)
  | _ => none
def tE {α : Type} : List I → α → Option α
  | [], a => some a
  | _, _ => none
def noNil : List I → Bool
  | [] => true
  | .nil :: _ => false
  | _ :: l => noNil l
def tP {α : Type} (dec : List I → Option α) : List I → Option α
  | .rp l o :: r => (match r with | [] => bif noNil l && Nat.beq o 0 then dec l else none | _ => none)
  | _ => none
def tC {α : Type} (f : FuncId) (dec : List I → Option α) : List I → Option α
  | .fn g c :: r => (match r with | [] => bif Nat.beq g f then tP dec c else none | _ => none)
  | _ => none
def tC0 (f : FuncId) : List I → Option Unit
  | .fn g c :: r => (match r with | [] => bif Nat.beq g f then (match c with | [] => some () | _ => none) else none | _ => none)
  | _ => none
def tC2 {α β : Type} (f : FuncId) (da : List I → Option α) (db : List I → Option β) : List I → Option (α × β)
  | .fn g c :: r => (match r with | [] => bif Nat.beq g f then (match c with | x :: ys => (tP da [x]).bind fun a => (tP db ys).bind fun b => some (a, b) | _ => none) else none | _ => none)
  | _ => none
@[reducible] def encs (t : T) (l : List (den t)) : List I := [.sl t l]
def encSpan (x : Span) : List I := [.int .i64 x.Lo, .int .i64 x.Hi]
def decSpan (r : List I) : Option Span := (tI .i64 r).bind fun p0 => (tI .i64 p0.2).bind fun p1 => tE p1.2 ⟨p0.1, p1.1⟩
def encHold (x : Hold) : List I := [.int .i64 x.At, .int .i64 x.Until]
def decHold (r : List I) : Option Hold := (tI .i64 r).bind fun p0 => (tI .i64 p0.2).bind fun p1 => tE p1.2 ⟨p0.1, p1.1⟩
def encTruck (x : Truck) : List I := [.int .i64 x.Way, .int .i64 x.Start, .int .i64 x.Pace.Lo, .int .i64 x.Pace.Hi, .sl .Hold x.Holds]
def decTruck (r : List I) : Option Truck := (tI .i64 r).bind fun p0 => (tI .i64 p0.2).bind fun p1 => (tI .i64 p1.2).bind fun p2 => (tI .i64 p2.2).bind fun p3 => (tL .Hold p3.2).bind fun p4 => tE p4.2 ⟨p0.1, p1.1, ⟨p2.1, p3.1⟩, p4.1⟩
def encConvoy (x : Convoy) : List I := [.int .i64 x.Length, .int .i64 x.Gap, .int .i64 x.Fails, .sl .Truck x.Trucks]
def decConvoy (r : List I) : Option Convoy := (tI .i64 r).bind fun p0 => (tI .i64 p0.2).bind fun p1 => (tI .i64 p1.2).bind fun p2 => (tL .Truck p2.2).bind fun p3 => tE p3.2 ⟨p0.1, p1.1, p2.1, p3.1⟩
def encMeeting (x : Meeting) : List I := [.int .i64 x.Minute, .int .i64 x.First, .int .i64 x.Second, .bool x.FirstFails, .bool x.SecondFails, .int .i64 x.At, .int .i64 x.Other]
def decMeeting (r : List I) : Option Meeting := (tI .i64 r).bind fun p0 => (tI .i64 p0.2).bind fun p1 => (tI .i64 p1.2).bind fun p2 => (tB p2.2).bind fun p3 => (tB p3.2).bind fun p4 => (tI .i64 p4.2).bind fun p5 => (tI .i64 p5.2).bind fun p6 => tE p6.2 ⟨p0.1, p1.1, p2.1, p3.1, p4.1, p5.1, p6.1⟩
def encRide (x : Ride) : List I := [.int .i64 x.Truck.Way, .int .i64 x.Truck.Start, .int .i64 x.Truck.Pace.Lo, .int .i64 x.Truck.Pace.Hi, .sl .Hold x.Truck.Holds, .int .i64 x.length]
def decRide (r : List I) : Option Ride := (tI .i64 r).bind fun p0 => (tI .i64 p0.2).bind fun p1 => (tI .i64 p1.2).bind fun p2 => (tI .i64 p2.2).bind fun p3 => (tL .Hold p3.2).bind fun p4 => (tI .i64 p4.2).bind fun p5 => tE p5.2 ⟨⟨p0.1, p1.1, ⟨p2.1, p3.1⟩, p4.1⟩, p5.1⟩
def encTrack (x : Track) : List I := [.int .i64 x.ride.Truck.Way, .int .i64 x.ride.Truck.Start, .int .i64 x.ride.Truck.Pace.Lo, .int .i64 x.ride.Truck.Pace.Hi, .sl .Hold x.ride.Truck.Holds, .int .i64 x.ride.length, .sl .Span x.gone]
def decTrack (r : List I) : Option Track := (tI .i64 r).bind fun p0 => (tI .i64 p0.2).bind fun p1 => (tI .i64 p1.2).bind fun p2 => (tI .i64 p2.2).bind fun p3 => (tL .Hold p3.2).bind fun p4 => (tI .i64 p4.2).bind fun p5 => (tL .Span p5.2).bind fun p6 => tE p6.2 ⟨⟨⟨p0.1, p1.1, ⟨p2.1, p3.1⟩, p4.1⟩, p5.1⟩, p6.1⟩
def encLanes (x : Lanes) : List I := [.int .i64 x.a.ride.Truck.Way, .int .i64 x.a.ride.Truck.Start, .int .i64 x.a.ride.Truck.Pace.Lo, .int .i64 x.a.ride.Truck.Pace.Hi, .sl .Hold x.a.ride.Truck.Holds, .int .i64 x.a.ride.length, .sl .Span x.a.gone, .int .i64 x.b.ride.Truck.Way, .int .i64 x.b.ride.Truck.Start, .int .i64 x.b.ride.Truck.Pace.Lo, .int .i64 x.b.ride.Truck.Pace.Hi, .sl .Hold x.b.ride.Truck.Holds, .int .i64 x.b.ride.length, .sl .Span x.b.gone]
def decLanes (r : List I) : Option Lanes := (tI .i64 r).bind fun p0 => (tI .i64 p0.2).bind fun p1 => (tI .i64 p1.2).bind fun p2 => (tI .i64 p2.2).bind fun p3 => (tL .Hold p3.2).bind fun p4 => (tI .i64 p4.2).bind fun p5 => (tL .Span p5.2).bind fun p6 => (tI .i64 p6.2).bind fun p7 => (tI .i64 p7.2).bind fun p8 => (tI .i64 p8.2).bind fun p9 => (tI .i64 p9.2).bind fun p10 => (tL .Hold p10.2).bind fun p11 => (tI .i64 p11.2).bind fun p12 => (tL .Span p12.2).bind fun p13 => tE p13.2 ⟨⟨⟨⟨p0.1, p1.1, ⟨p2.1, p3.1⟩, p4.1⟩, p5.1⟩, p6.1⟩, ⟨⟨⟨p7.1, p8.1, ⟨p9.1, p10.1⟩, p11.1⟩, p12.1⟩, p13.1⟩⟩
def encNearness (x : Nearness) : List I := [.int .i64 x.gap, .int .i64 x.fails]
def decNearness (r : List I) : Option Nearness := (tI .i64 r).bind fun p0 => (tI .i64 p0.2).bind fun p1 => tE p1.2 ⟨p0.1, p1.1⟩
def encPair (x : Pair) : List I := [.int .i64 x.a, .int .i64 x.b]
def decPair (r : List I) : Option Pair := (tI .i64 r).bind fun p0 => (tI .i64 p0.2).bind fun p1 => tE p1.2 ⟨p0.1, p1.1⟩
def encSeed (x : Seed) : List I := [.int .u64 x.word]
def decSeed (r : List I) : Option Seed := (tI .u64 r).bind fun p0 => tE p0.2 ⟨p0.1⟩
def encWays (x : Ways) : List I := [.sl .Span x.a, .sl .Span x.b]
def decWays (r : List I) : Option Ways := (tL .Span r).bind fun p0 => (tL .Span p0.2).bind fun p1 => tE p1.2 ⟨p0.1, p1.1⟩
def encC : (t : T) → den t → List I
  | .int k, x => [.int k x]
  | .bool, x => [.bool x]
  | .str, x => [.str x]
  | .sl t, x => [.sl t x]
  | .ptr t, x => [.rp (encC t x) 0]
  | .clo f t, x => [.fn f [.rp (encC t x) 0]]
  | .clo0 f, _ => [.fn f []]
  | .clo2 f t u, x => [.fn f [.rp (encC t x.1) 0, .rp (encC u x.2) 0]]
  | .Span, x => encSpan x
  | .Hold, x => encHold x
  | .Truck, x => encTruck x
  | .Convoy, x => encConvoy x
  | .Meeting, x => encMeeting x
  | .Ride, x => encRide x
  | .Track, x => encTrack x
  | .Lanes, x => encLanes x
  | .Nearness, x => encNearness x
  | .Pair, x => encPair x
  | .Seed, x => encSeed x
  | .Ways, x => encWays x
def decC : (t : T) → List I → Option (den t)
  | .int k, r => (tI k r).bind fun p => tE p.2 p.1
  | .bool, r => (tB r).bind fun p => tE p.2 p.1
  | .str, r => (tS r).bind fun p => tE p.2 p.1
  | .sl t, r => (tL t r).bind fun p => tE p.2 p.1
  | .ptr t, r => tP (decC t) r
  | .clo f t, r => tC f (decC t) r
  | .clo0 f, r => tC0 f r
  | .clo2 f t u, r => tC2 f (decC t) (decC u) r
  | .Span, r => decSpan r
  | .Hold, r => decHold r
  | .Truck, r => decTruck r
  | .Convoy, r => decConvoy r
  | .Meeting, r => decMeeting r
  | .Ride, r => decRide r
  | .Track, r => decTrack r
  | .Lanes, r => decLanes r
  | .Nearness, r => decNearness r
  | .Pair, r => decPair r
  | .Seed, r => decSeed r
  | .Ways, r => decWays r
def encDSpan (x : Span) : List D := [.int .i64 x.Lo, .int .i64 x.Hi]
def encDHold (x : Hold) : List D := [.int .i64 x.At, .int .i64 x.Until]
def encDTruck (x : Truck) : List D := [.int .i64 x.Way, .int .i64 x.Start, .int .i64 x.Pace.Lo, .int .i64 x.Pace.Hi, .sl 2 x.Holds.length (fun i => encDHold (x.Holds.getD i dfltHold))]
def encDConvoy (x : Convoy) : List D := [.int .i64 x.Length, .int .i64 x.Gap, .int .i64 x.Fails, .sl 5 x.Trucks.length (fun i => encDTruck (x.Trucks.getD i dfltTruck))]
def encDMeeting (x : Meeting) : List D := [.int .i64 x.Minute, .int .i64 x.First, .int .i64 x.Second, .bool x.FirstFails, .bool x.SecondFails, .int .i64 x.At, .int .i64 x.Other]
def encDRide (x : Ride) : List D := [.int .i64 x.Truck.Way, .int .i64 x.Truck.Start, .int .i64 x.Truck.Pace.Lo, .int .i64 x.Truck.Pace.Hi, .sl 2 x.Truck.Holds.length (fun i => encDHold (x.Truck.Holds.getD i dfltHold)), .int .i64 x.length]
def encDTrack (x : Track) : List D := [.int .i64 x.ride.Truck.Way, .int .i64 x.ride.Truck.Start, .int .i64 x.ride.Truck.Pace.Lo, .int .i64 x.ride.Truck.Pace.Hi, .sl 2 x.ride.Truck.Holds.length (fun i => encDHold (x.ride.Truck.Holds.getD i dfltHold)), .int .i64 x.ride.length, .sl 2 x.gone.length (fun i => encDSpan (x.gone.getD i dfltSpan))]
def encDLanes (x : Lanes) : List D := [.int .i64 x.a.ride.Truck.Way, .int .i64 x.a.ride.Truck.Start, .int .i64 x.a.ride.Truck.Pace.Lo, .int .i64 x.a.ride.Truck.Pace.Hi, .sl 2 x.a.ride.Truck.Holds.length (fun i => encDHold (x.a.ride.Truck.Holds.getD i dfltHold)), .int .i64 x.a.ride.length, .sl 2 x.a.gone.length (fun i => encDSpan (x.a.gone.getD i dfltSpan)), .int .i64 x.b.ride.Truck.Way, .int .i64 x.b.ride.Truck.Start, .int .i64 x.b.ride.Truck.Pace.Lo, .int .i64 x.b.ride.Truck.Pace.Hi, .sl 2 x.b.ride.Truck.Holds.length (fun i => encDHold (x.b.ride.Truck.Holds.getD i dfltHold)), .int .i64 x.b.ride.length, .sl 2 x.b.gone.length (fun i => encDSpan (x.b.gone.getD i dfltSpan))]
def encDNearness (x : Nearness) : List D := [.int .i64 x.gap, .int .i64 x.fails]
def encDPair (x : Pair) : List D := [.int .i64 x.a, .int .i64 x.b]
def encDSeed (x : Seed) : List D := [.int .u64 x.word]
def encDWays (x : Ways) : List D := [.sl 2 x.a.length (fun i => encDSpan (x.a.getD i dfltSpan)), .sl 2 x.b.length (fun i => encDSpan (x.b.getD i dfltSpan))]
def encD : (t : T) → den t → List D
  | .int k, x => [.int k x]
  | .bool, x => [.bool x]
  | .str, x => [.str x]
  | .sl t, x => [.sl (sz t) x.length (fun i => encD t (x.getD i (dflt t)))]
  | .ptr t, x => [.rp (encD t x) 0]
  | .clo f t, x => [.fn f [.rp (encD t x) 0]]
  | .clo0 f, _ => [.fn f []]
  | .clo2 f t u, x => [.fn f [.rp (encD t x.1) 0, .rp (encD u x.2) 0]]
  | .Span, x => encDSpan x
  | .Hold, x => encDHold x
  | .Truck, x => encDTruck x
  | .Convoy, x => encDConvoy x
  | .Meeting, x => encDMeeting x
  | .Ride, x => encDRide x
  | .Track, x => encDTrack x
  | .Lanes, x => encDLanes x
  | .Nearness, x => encDNearness x
  | .Pair, x => encDPair x
  | .Seed, x => encDSeed x
  | .Ways, x => encDWays x
def slD (t : T) (l : List (den t)) : D := .sl (sz t) l.length (fun i => encD t (l.getD i (dflt t)))
def isSt : T → Bool
  | .int _ | .bool | .str | .sl _ | .ptr _ | .clo _ _ | .clo0 _ | .clo2 _ _ _ => false
  | _ => true
theorem encD_cell : ∀ (t : T) (x : den t), allCell (encD t x) = true := by intro t x; cases t <;> rfl
/-- The same but that nil is an empty slice. -/
inductive NilI : I → I → Prop
  | same (d : I) : NilI d d
  | nil (t : T) : NilI .nil (.sl t [])
inductive NilIL : List I → List I → Prop
  | nil : NilIL [] []
  | cons {d d' : I} {l l' : List I} : NilI d d' → NilIL l l' → NilIL (d :: l) (d' :: l')
theorem tI_bind {k : IntKind} {α : Type} {r : List I} {f : Int × List I → Option α} {x : α} (h : (tI k r).bind f = some x) : ∃ n r', r = .int k n :: r' ∧ f (n, r') = some x := by
  cases r with
  | nil => cases h
  | cons d r =>
    cases d <;> try (cases h; done)
    rename_i k' n
    simp only [tI] at h
    split at h
    · rename_i e; subst e; exact ⟨n, r, rfl, h⟩
    · cases h
theorem tB_bind {α : Type} {r : List I} {f : Bool × List I → Option α} {x : α} (h : (tB r).bind f = some x) : ∃ n r', r = .bool n :: r' ∧ f (n, r') = some x := by
  cases r with
  | nil => cases h
  | cons d r => cases d <;> first | (cases h; done) | exact ⟨_, _, rfl, h⟩
theorem tS_bind {α : Type} {r : List I} {f : ByteArray × List I → Option α} {x : α} (h : (tS r).bind f = some x) : ∃ n r', r = .str n :: r' ∧ f (n, r') = some x := by
  cases r with
  | nil => cases h
  | cons d r => cases d <;> first | (cases h; done) | exact ⟨_, _, rfl, h⟩
theorem asL_eq {t t' : T} {l : List (den t')} {m : List (den t)} (h : asL t t' l = some m) : (I.sl t' l) = .sl t m := by
  unfold asL at h
  split at h
  · rename_i e; subst e; simp only [Option.some.injEq] at h; subst h; rfl
  · cases h
theorem tL_bind {t : T} {α : Type} {r : List I} {f : List (den t) × List I → Option α} {x : α} (h : (tL t r).bind f = some x) : ∃ d l r', r = d :: r' ∧ NilI d (.sl t l) ∧ f (l, r') = some x := by
  cases r with
  | nil => cases h
  | cons d r =>
    cases d <;> try (cases h; done)
    · rename_i t' l
      simp only [tL] at h
      cases ha : asL t t' l with
      | none => rw [ha] at h; cases h
      | some m => rw [ha] at h; exact ⟨_, m, r, rfl, by rw [asL_eq ha]; exact .same _, h⟩
    · exact ⟨_, [], r, rfl, .nil t, h⟩
theorem noNil_eq : ∀ {l m : List I}, NilIL l m → noNil l = true → l = m
  | _, _, .nil, _ => rfl
  | _, _, .cons (d := d) (l := l) h1 h2, hn => by
    cases h1 with
    | same =>
      have : noNil l = true := by cases d <;> first | exact hn | exact absurd hn (by simp [noNil])
      rw [noNil_eq h2 this]
    | nil => cases hn
theorem tP_ok {α : Type} {dec : List I → Option α} {enc : α → List I} (hd : ∀ {r x}, dec r = some x → NilIL r (enc x)) {r : List I} {x : α} (h : tP dec r = some x) : r = [.rp (enc x) 0] := by
  unfold tP at h
  split at h
  · rename_i l o r'
    split at h
    · cases hc : noNil l && Nat.beq o 0 with
      | false => rw [hc] at h; cases h
      | true =>
        rw [hc] at h
        simp only [Bool.and_eq_true] at hc
        rw [noNil_eq (hd h) hc.1, Nat.eq_of_beq_eq_true hc.2]
    · cases h
  · cases h
theorem tC_ok {α : Type} {f : FuncId} {dec : List I → Option α} {enc : α → List I} (hd : ∀ {r x}, dec r = some x → NilIL r (enc x)) {r : List I} {x : α} (h : tC f dec r = some x) : r = [.fn f [.rp (enc x) 0]] := by
  unfold tC at h
  split at h
  · rename_i g c r'
    split at h
    · cases hc : Nat.beq g f with
      | false => rw [hc] at h; cases h
      | true =>
        rw [hc] at h
        rw [tP_ok hd h, Nat.eq_of_beq_eq_true hc]
    · cases h
  · cases h
theorem tC0_ok {f : FuncId} {r : List I} {x : Unit} (h : tC0 f r = some x) : r = [.fn f []] := by
  unfold tC0 at h
  split at h
  · rename_i g c r'
    split at h
    · cases hc : Nat.beq g f with
      | false => rw [hc] at h; cases h
      | true =>
        rw [hc] at h
        simp only [cond_true] at h
        split at h
        · rw [Nat.eq_of_beq_eq_true hc]
        · cases h
    · cases h
  · cases h
theorem tC2_ok {α β : Type} {f : FuncId} {da : List I → Option α} {db : List I → Option β} {ea : α → List I} {eb : β → List I} (ha : ∀ {r x}, da r = some x → NilIL r (ea x)) (hb : ∀ {r x}, db r = some x → NilIL r (eb x)) {r : List I} {x : α × β} (h : tC2 f da db r = some x) : r = [.fn f [.rp (ea x.1) 0, .rp (eb x.2) 0]] := by
  unfold tC2 at h
  split at h
  · rename_i g c r'
    split at h
    · cases hc : Nat.beq g f with
      | false => rw [hc] at h; cases h
      | true =>
        rw [hc] at h
        simp only [cond_true] at h
        split at h
        · rename_i y ys
          cases h1 : tP da [y] with
          | none => rw [h1] at h; cases h
          | some a =>
            rw [h1] at h
            simp only [Option.bind_some] at h
            cases h2 : tP db ys with
            | none => rw [h2] at h; cases h
            | some b =>
              rw [h2] at h
              simp only [Option.bind_some, Option.some.injEq] at h
              subst h
              have e1 := tP_ok ha h1
              have e2 := tP_ok hb h2
              simp only [List.cons.injEq, and_true] at e1
              rw [Nat.eq_of_beq_eq_true hc, e1, e2]
        · cases h
    · cases h
  · cases h
theorem tE_ok {α : Type} {r : List I} {a x : α} (h : tE r a = some x) : r = [] ∧ a = x := by
  cases r with
  | nil => exact ⟨rfl, by simpa [tE] using h⟩
  | cons => cases h
theorem decSpan_ok {r : List I} {x : Span} (h : decSpan r = some x) : NilIL r (encSpan x) := by
  have h0 := h; unfold decSpan at h0; clear h
  obtain ⟨n0, r0, q0, h1⟩ := tI_bind h0
  replace q0 : r = _ := q0; subst q0
  obtain ⟨n1, r1, q1, h2⟩ := tI_bind h1
  replace q1 : r0 = _ := q1; subst q1
  obtain ⟨qe, qx⟩ := tE_ok h2
  replace qe : r1 = [] := qe; subst qe; subst qx
  exact .cons (.same _) (.cons (.same _) (NilIL.nil))
theorem decHold_ok {r : List I} {x : Hold} (h : decHold r = some x) : NilIL r (encHold x) := by
  have h0 := h; unfold decHold at h0; clear h
  obtain ⟨n0, r0, q0, h1⟩ := tI_bind h0
  replace q0 : r = _ := q0; subst q0
  obtain ⟨n1, r1, q1, h2⟩ := tI_bind h1
  replace q1 : r0 = _ := q1; subst q1
  obtain ⟨qe, qx⟩ := tE_ok h2
  replace qe : r1 = [] := qe; subst qe; subst qx
  exact .cons (.same _) (.cons (.same _) (NilIL.nil))
theorem decTruck_ok {r : List I} {x : Truck} (h : decTruck r = some x) : NilIL r (encTruck x) := by
  have h0 := h; unfold decTruck at h0; clear h
  obtain ⟨n0, r0, q0, h1⟩ := tI_bind h0
  replace q0 : r = _ := q0; subst q0
  obtain ⟨n1, r1, q1, h2⟩ := tI_bind h1
  replace q1 : r0 = _ := q1; subst q1
  obtain ⟨n2, r2, q2, h3⟩ := tI_bind h2
  replace q2 : r1 = _ := q2; subst q2
  obtain ⟨n3, r3, q3, h4⟩ := tI_bind h3
  replace q3 : r2 = _ := q3; subst q3
  obtain ⟨d4, l4, r4, q4, e4, h5⟩ := tL_bind h4
  replace q4 : r3 = _ := q4; subst q4
  obtain ⟨qe, qx⟩ := tE_ok h5
  replace qe : r4 = [] := qe; subst qe; subst qx
  exact .cons (.same _) (.cons (.same _) (.cons (.same _) (.cons (.same _) (.cons e4 (NilIL.nil)))))
theorem decConvoy_ok {r : List I} {x : Convoy} (h : decConvoy r = some x) : NilIL r (encConvoy x) := by
  have h0 := h; unfold decConvoy at h0; clear h
  obtain ⟨n0, r0, q0, h1⟩ := tI_bind h0
  replace q0 : r = _ := q0; subst q0
  obtain ⟨n1, r1, q1, h2⟩ := tI_bind h1
  replace q1 : r0 = _ := q1; subst q1
  obtain ⟨n2, r2, q2, h3⟩ := tI_bind h2
  replace q2 : r1 = _ := q2; subst q2
  obtain ⟨d3, l3, r3, q3, e3, h4⟩ := tL_bind h3
  replace q3 : r2 = _ := q3; subst q3
  obtain ⟨qe, qx⟩ := tE_ok h4
  replace qe : r3 = [] := qe; subst qe; subst qx
  exact .cons (.same _) (.cons (.same _) (.cons (.same _) (.cons e3 (NilIL.nil))))
theorem decMeeting_ok {r : List I} {x : Meeting} (h : decMeeting r = some x) : NilIL r (encMeeting x) := by
  have h0 := h; unfold decMeeting at h0; clear h
  obtain ⟨n0, r0, q0, h1⟩ := tI_bind h0
  replace q0 : r = _ := q0; subst q0
  obtain ⟨n1, r1, q1, h2⟩ := tI_bind h1
  replace q1 : r0 = _ := q1; subst q1
  obtain ⟨n2, r2, q2, h3⟩ := tI_bind h2
  replace q2 : r1 = _ := q2; subst q2
  obtain ⟨n3, r3, q3, h4⟩ := tB_bind h3
  replace q3 : r2 = _ := q3; subst q3
  obtain ⟨n4, r4, q4, h5⟩ := tB_bind h4
  replace q4 : r3 = _ := q4; subst q4
  obtain ⟨n5, r5, q5, h6⟩ := tI_bind h5
  replace q5 : r4 = _ := q5; subst q5
  obtain ⟨n6, r6, q6, h7⟩ := tI_bind h6
  replace q6 : r5 = _ := q6; subst q6
  obtain ⟨qe, qx⟩ := tE_ok h7
  replace qe : r6 = [] := qe; subst qe; subst qx
  exact .cons (.same _) (.cons (.same _) (.cons (.same _) (.cons (.same _) (.cons (.same _) (.cons (.same _) (.cons (.same _) (NilIL.nil)))))))
theorem decRide_ok {r : List I} {x : Ride} (h : decRide r = some x) : NilIL r (encRide x) := by
  have h0 := h; unfold decRide at h0; clear h
  obtain ⟨n0, r0, q0, h1⟩ := tI_bind h0
  replace q0 : r = _ := q0; subst q0
  obtain ⟨n1, r1, q1, h2⟩ := tI_bind h1
  replace q1 : r0 = _ := q1; subst q1
  obtain ⟨n2, r2, q2, h3⟩ := tI_bind h2
  replace q2 : r1 = _ := q2; subst q2
  obtain ⟨n3, r3, q3, h4⟩ := tI_bind h3
  replace q3 : r2 = _ := q3; subst q3
  obtain ⟨d4, l4, r4, q4, e4, h5⟩ := tL_bind h4
  replace q4 : r3 = _ := q4; subst q4
  obtain ⟨n5, r5, q5, h6⟩ := tI_bind h5
  replace q5 : r4 = _ := q5; subst q5
  obtain ⟨qe, qx⟩ := tE_ok h6
  replace qe : r5 = [] := qe; subst qe; subst qx
  exact .cons (.same _) (.cons (.same _) (.cons (.same _) (.cons (.same _) (.cons e4 (.cons (.same _) (NilIL.nil))))))
theorem decTrack_ok {r : List I} {x : Track} (h : decTrack r = some x) : NilIL r (encTrack x) := by
  have h0 := h; unfold decTrack at h0; clear h
  obtain ⟨n0, r0, q0, h1⟩ := tI_bind h0
  replace q0 : r = _ := q0; subst q0
  obtain ⟨n1, r1, q1, h2⟩ := tI_bind h1
  replace q1 : r0 = _ := q1; subst q1
  obtain ⟨n2, r2, q2, h3⟩ := tI_bind h2
  replace q2 : r1 = _ := q2; subst q2
  obtain ⟨n3, r3, q3, h4⟩ := tI_bind h3
  replace q3 : r2 = _ := q3; subst q3
  obtain ⟨d4, l4, r4, q4, e4, h5⟩ := tL_bind h4
  replace q4 : r3 = _ := q4; subst q4
  obtain ⟨n5, r5, q5, h6⟩ := tI_bind h5
  replace q5 : r4 = _ := q5; subst q5
  obtain ⟨d6, l6, r6, q6, e6, h7⟩ := tL_bind h6
  replace q6 : r5 = _ := q6; subst q6
  obtain ⟨qe, qx⟩ := tE_ok h7
  replace qe : r6 = [] := qe; subst qe; subst qx
  exact .cons (.same _) (.cons (.same _) (.cons (.same _) (.cons (.same _) (.cons e4 (.cons (.same _) (.cons e6 (NilIL.nil)))))))
theorem decLanes_ok {r : List I} {x : Lanes} (h : decLanes r = some x) : NilIL r (encLanes x) := by
  have h0 := h; unfold decLanes at h0; clear h
  obtain ⟨n0, r0, q0, h1⟩ := tI_bind h0
  replace q0 : r = _ := q0; subst q0
  obtain ⟨n1, r1, q1, h2⟩ := tI_bind h1
  replace q1 : r0 = _ := q1; subst q1
  obtain ⟨n2, r2, q2, h3⟩ := tI_bind h2
  replace q2 : r1 = _ := q2; subst q2
  obtain ⟨n3, r3, q3, h4⟩ := tI_bind h3
  replace q3 : r2 = _ := q3; subst q3
  obtain ⟨d4, l4, r4, q4, e4, h5⟩ := tL_bind h4
  replace q4 : r3 = _ := q4; subst q4
  obtain ⟨n5, r5, q5, h6⟩ := tI_bind h5
  replace q5 : r4 = _ := q5; subst q5
  obtain ⟨d6, l6, r6, q6, e6, h7⟩ := tL_bind h6
  replace q6 : r5 = _ := q6; subst q6
  obtain ⟨n7, r7, q7, h8⟩ := tI_bind h7
  replace q7 : r6 = _ := q7; subst q7
  obtain ⟨n8, r8, q8, h9⟩ := tI_bind h8
  replace q8 : r7 = _ := q8; subst q8
  obtain ⟨n9, r9, q9, h10⟩ := tI_bind h9
  replace q9 : r8 = _ := q9; subst q9
  obtain ⟨n10, r10, q10, h11⟩ := tI_bind h10
  replace q10 : r9 = _ := q10; subst q10
  obtain ⟨d11, l11, r11, q11, e11, h12⟩ := tL_bind h11
  replace q11 : r10 = _ := q11; subst q11
  obtain ⟨n12, r12, q12, h13⟩ := tI_bind h12
  replace q12 : r11 = _ := q12; subst q12
  obtain ⟨d13, l13, r13, q13, e13, h14⟩ := tL_bind h13
  replace q13 : r12 = _ := q13; subst q13
  obtain ⟨qe, qx⟩ := tE_ok h14
  replace qe : r13 = [] := qe; subst qe; subst qx
  exact .cons (.same _) (.cons (.same _) (.cons (.same _) (.cons (.same _) (.cons e4 (.cons (.same _) (.cons e6 (.cons (.same _) (.cons (.same _) (.cons (.same _) (.cons (.same _) (.cons e11 (.cons (.same _) (.cons e13 (NilIL.nil))))))))))))))
theorem decNearness_ok {r : List I} {x : Nearness} (h : decNearness r = some x) : NilIL r (encNearness x) := by
  have h0 := h; unfold decNearness at h0; clear h
  obtain ⟨n0, r0, q0, h1⟩ := tI_bind h0
  replace q0 : r = _ := q0; subst q0
  obtain ⟨n1, r1, q1, h2⟩ := tI_bind h1
  replace q1 : r0 = _ := q1; subst q1
  obtain ⟨qe, qx⟩ := tE_ok h2
  replace qe : r1 = [] := qe; subst qe; subst qx
  exact .cons (.same _) (.cons (.same _) (NilIL.nil))
theorem decPair_ok {r : List I} {x : Pair} (h : decPair r = some x) : NilIL r (encPair x) := by
  have h0 := h; unfold decPair at h0; clear h
  obtain ⟨n0, r0, q0, h1⟩ := tI_bind h0
  replace q0 : r = _ := q0; subst q0
  obtain ⟨n1, r1, q1, h2⟩ := tI_bind h1
  replace q1 : r0 = _ := q1; subst q1
  obtain ⟨qe, qx⟩ := tE_ok h2
  replace qe : r1 = [] := qe; subst qe; subst qx
  exact .cons (.same _) (.cons (.same _) (NilIL.nil))
theorem decSeed_ok {r : List I} {x : Seed} (h : decSeed r = some x) : NilIL r (encSeed x) := by
  have h0 := h; unfold decSeed at h0; clear h
  obtain ⟨n0, r0, q0, h1⟩ := tI_bind h0
  replace q0 : r = _ := q0; subst q0
  obtain ⟨qe, qx⟩ := tE_ok h1
  replace qe : r0 = [] := qe; subst qe; subst qx
  exact .cons (.same _) (NilIL.nil)
theorem decWays_ok {r : List I} {x : Ways} (h : decWays r = some x) : NilIL r (encWays x) := by
  have h0 := h; unfold decWays at h0; clear h
  obtain ⟨d0, l0, r0, q0, e0, h1⟩ := tL_bind h0
  replace q0 : r = _ := q0; subst q0
  obtain ⟨d1, l1, r1, q1, e1, h2⟩ := tL_bind h1
  replace q1 : r0 = _ := q1; subst q1
  obtain ⟨qe, qx⟩ := tE_ok h2
  replace qe : r1 = [] := qe; subst qe; subst qx
  exact .cons e0 (.cons e1 (NilIL.nil))
theorem decC_ok : ∀ (t : T) {r : List I} {x : den t}, decC t r = some x → NilIL r (encC t x)
  | .int k, r, x, h => by
    obtain ⟨n, r2, q, h2⟩ := tI_bind (show (tI k r).bind _ = _ from h)
    obtain ⟨qe, qx⟩ := tE_ok h2
    replace qe : r2 = [] := qe
    subst q; subst qe; subst qx; exact .cons (.same _) .nil
  | .bool, r, x, h => by
    obtain ⟨n, r2, q, h2⟩ := tB_bind (show (tB r).bind _ = _ from h)
    obtain ⟨qe, qx⟩ := tE_ok h2
    replace qe : r2 = [] := qe
    subst q; subst qe; subst qx; exact .cons (.same _) .nil
  | .str, r, x, h => by
    obtain ⟨n, r2, q, h2⟩ := tS_bind (show (tS r).bind _ = _ from h)
    obtain ⟨qe, qx⟩ := tE_ok h2
    replace qe : r2 = [] := qe
    subst q; subst qe; subst qx; exact .cons (.same _) .nil
  | .sl t, r, x, h => by
    obtain ⟨d, l, r2, q, e, h2⟩ := tL_bind (show (tL t r).bind _ = _ from h)
    obtain ⟨qe, qx⟩ := tE_ok h2
    replace qe : r2 = [] := qe
    subst q; subst qe; subst qx; exact .cons e .nil
  | .ptr t, r, x, h => by rw [tP_ok (fun h => decC_ok t h) (show tP (decC t) r = some x from h)]; exact .cons (.same _) .nil
  | .clo f t, r, x, h => by rw [tC_ok (fun h => decC_ok t h) (show tC f (decC t) r = some x from h)]; exact .cons (.same _) .nil
  | .clo0 f, r, x, h => by rw [tC0_ok (show tC0 f r = some x from h)]; exact .cons (.same _) .nil
  | .clo2 f t u, r, x, h => by rw [tC2_ok (fun h => decC_ok t h) (fun h => decC_ok u h) (show tC2 f (decC t) (decC u) r = some x from h)]; exact .cons (.same _) .nil
  | .Span, r, x, h => decSpan_ok h
  | .Hold, r, x, h => decHold_ok h
  | .Truck, r, x, h => decTruck_ok h
  | .Convoy, r, x, h => decConvoy_ok h
  | .Meeting, r, x, h => decMeeting_ok h
  | .Ride, r, x, h => decRide_ok h
  | .Track, r, x, h => decTrack_ok h
  | .Lanes, r, x, h => decLanes_ok h
  | .Nearness, r, x, h => decNearness_ok h
  | .Pair, r, x, h => decPair_ok h
  | .Seed, r, x, h => decSeed_ok h
  | .Ways, r, x, h => decWays_ok h
/- How a value of the walk stands for an abstract one; h: the ages that are not known. -/
mutual
def I.toD (h : Nat → Nat) : I → D
  | .int k n => .int k n
  | .bool b => .bool b
  | .str s => .str s
  | .agg l => .agg (I.toDL h l)
  | .tup l => .tup (I.toDL h l)
  | .sl t l => slD t l
  | .nil => .nil
  | .rp l o => .rp (I.toDL h l) o
  | .bx s g o => .bx s (h s + g) o
  | .os s g => .os s (h s + g)
  | .op s g z i o => .op s (h s + g) z i o
  | .fn f c => .fn f (I.toDL h c)
  | .yl l => .yl (h l)
  | .mf f c => .mf f (I.toDL h c)
  | .undef => .undef
def I.toDL (h : Nat → Nat) : List I → List D
  | [] => []
  | d :: l => d.toD h :: I.toDL h l
end
theorem toDL_enc (h : Nat → Nat) : ∀ (t : T) (x : den t), I.toDL h (encC t x) = encD t x := by
  intro t
  induction t with
  | ptr t ih => intro x; show [D.rp (I.toDL h (encC t x)) 0] = _; rw [ih]; rfl
  | clo f t ih => intro x; show [D.fn f [D.rp (I.toDL h (encC t x)) 0]] = _; rw [ih]; rfl
  | clo2 f t u ih1 ih2 => intro x; show [D.fn f [D.rp (I.toDL h (encC t x.1)) 0, D.rp (I.toDL h (encC u x.2)) 0]] = _; rw [ih1, ih2]; rfl
  | _ => intro x; rfl
theorem pureSpan (x : Span) : PureL (encDSpan x) := PureL.cons (.int _ _) (PureL.cons (.int _ _) (PureL.nil))
theorem pureHold (x : Hold) : PureL (encDHold x) := PureL.cons (.int _ _) (PureL.cons (.int _ _) (PureL.nil))
theorem pureTruck (x : Truck) : PureL (encDTruck x) := PureL.cons (.int _ _) (PureL.cons (.int _ _) (PureL.cons (.int _ _) (PureL.cons (.int _ _) (PureL.cons (.sl _ _ _ fun i _ d hd => pureHold _ d hd) (PureL.nil)))))
theorem pureConvoy (x : Convoy) : PureL (encDConvoy x) := PureL.cons (.int _ _) (PureL.cons (.int _ _) (PureL.cons (.int _ _) (PureL.cons (.sl _ _ _ fun i _ d hd => pureTruck _ d hd) (PureL.nil))))
theorem pureMeeting (x : Meeting) : PureL (encDMeeting x) := PureL.cons (.int _ _) (PureL.cons (.int _ _) (PureL.cons (.int _ _) (PureL.cons (.bool _) (PureL.cons (.bool _) (PureL.cons (.int _ _) (PureL.cons (.int _ _) (PureL.nil)))))))
theorem pureRide (x : Ride) : PureL (encDRide x) := PureL.cons (.int _ _) (PureL.cons (.int _ _) (PureL.cons (.int _ _) (PureL.cons (.int _ _) (PureL.cons (.sl _ _ _ fun i _ d hd => pureHold _ d hd) (PureL.cons (.int _ _) (PureL.nil))))))
theorem pureTrack (x : Track) : PureL (encDTrack x) := PureL.cons (.int _ _) (PureL.cons (.int _ _) (PureL.cons (.int _ _) (PureL.cons (.int _ _) (PureL.cons (.sl _ _ _ fun i _ d hd => pureHold _ d hd) (PureL.cons (.int _ _) (PureL.cons (.sl _ _ _ fun i _ d hd => pureSpan _ d hd) (PureL.nil)))))))
theorem pureLanes (x : Lanes) : PureL (encDLanes x) := PureL.cons (.int _ _) (PureL.cons (.int _ _) (PureL.cons (.int _ _) (PureL.cons (.int _ _) (PureL.cons (.sl _ _ _ fun i _ d hd => pureHold _ d hd) (PureL.cons (.int _ _) (PureL.cons (.sl _ _ _ fun i _ d hd => pureSpan _ d hd) (PureL.cons (.int _ _) (PureL.cons (.int _ _) (PureL.cons (.int _ _) (PureL.cons (.int _ _) (PureL.cons (.sl _ _ _ fun i _ d hd => pureHold _ d hd) (PureL.cons (.int _ _) (PureL.cons (.sl _ _ _ fun i _ d hd => pureSpan _ d hd) (PureL.nil))))))))))))))
theorem pureNearness (x : Nearness) : PureL (encDNearness x) := PureL.cons (.int _ _) (PureL.cons (.int _ _) (PureL.nil))
theorem purePair (x : Pair) : PureL (encDPair x) := PureL.cons (.int _ _) (PureL.cons (.int _ _) (PureL.nil))
theorem pureSeed (x : Seed) : PureL (encDSeed x) := PureL.cons (.int _ _) (PureL.nil)
theorem pureWays (x : Ways) : PureL (encDWays x) := PureL.cons (.sl _ _ _ fun i _ d hd => pureSpan _ d hd) (PureL.cons (.sl _ _ _ fun i _ d hd => pureSpan _ d hd) (PureL.nil))
theorem encD_pure : ∀ (t : T) (x : den t), PureL (encD t x)
  | .int k, x => PureL.cons (.int _ _) PureL.nil
  | .bool, x => PureL.cons (.bool _) PureL.nil
  | .str, x => PureL.cons (.str _) PureL.nil
  | .sl t, x => PureL.cons (.sl _ _ _ fun i _ d hd => encD_pure t _ d hd) PureL.nil
  | .ptr t, x => PureL.cons (.rp _ _ (encD_pure t x)) PureL.nil
  | .clo f t, x => PureL.cons (.fn _ _ (PureL.cons (.rp _ _ (encD_pure t x)) PureL.nil)) PureL.nil
  | .clo0 f, x => PureL.cons (.fn _ _ PureL.nil) PureL.nil
  | .clo2 f t u, x => PureL.cons (.fn _ _ (PureL.cons (.rp _ _ (encD_pure t x.1)) (PureL.cons (.rp _ _ (encD_pure u x.2)) PureL.nil))) PureL.nil
  | .Span, x => pureSpan x
  | .Hold, x => pureHold x
  | .Truck, x => pureTruck x
  | .Convoy, x => pureConvoy x
  | .Meeting, x => pureMeeting x
  | .Ride, x => pureRide x
  | .Track, x => pureTrack x
  | .Lanes, x => pureLanes x
  | .Nearness, x => pureNearness x
  | .Pair, x => purePair x
  | .Seed, x => pureSeed x
  | .Ways, x => pureWays x
end Go.Ab


/- States of a walk by computing; what one operation does to them. -/
namespace Go.Ab
open Go Go.RowKit
set_option linter.all false

inductive IOwn where
  | none
  | box (l : List I)
  | arr (E : TypeId) (t : T) (l : List (den t))
  | arrp (E : TypeId) (t : T) (l : List (den t)) (i : Nat) (row : List I)
def IOwn.toOwn (h : Nat → Nat) : IOwn → Own
  | .none => .none
  | .box l => .box (I.toDL h l)
  | .arr E t l => .arr E (sz t) l.length (fun i => encD t (l.getD i (dflt t)))
  | .arrp E t l i row => .arr E (sz t) l.length (updF (fun i => encD t (l.getD i (dflt t))) i (I.toDL h row))
structure IS where
  rs : List (Nat × I)
  gs : List (Nat × Nat)
  os : List (Nat × IOwn)
def IS.get (S : IS) (t : Nat) : I := look .undef S.rs t
def IS.gen (S : IS) (s : Nat) : Nat := look 0 S.gs s
def IS.own (S : IS) (s : Nat) : IOwn := look .none S.os s
def IS.toSt (h : Nat → Nat) (S : IS) : St := ⟨fun t => (S.get t).toD h, fun s => h s + S.gen s, fun s => (S.own s).toOwn h⟩

structure ISeat extends Seat where
  gI : Nat → Option (List I)
  gI_ok : ∀ g h, toSeat.glob g = (gI g).map (I.toDL h)
  ty : Nat → Option T
  ty_ok : ∀ E t q, ty E = some t → nth toSeat.tab E = some q → Nat.beq q.k 9 = false ∧ q.sz = sz t ∧ q.zs.length = sz t
  ik : Nat → Option IntKind
  ik_ok : ∀ t k, ik t = some k → toSeat.P.underlying t = some (.int k)
  isB : Nat → Bool
  isB_ok : ∀ t, isB t = true → toSeat.P.underlying t = some .bool

def ofCI : Value → I
  | .int k n => .int k n
  | .bool b => .bool b
  | .string s => .str s
  | .slice none 0 0 => .nil
  | _ => .undef
def ofVI : Value → I
  | .agg cs => .agg (cs.toList.map ofCI)
  | v => ofCI v
def IS.ev (Z : ISeat) (nt : Nat) (S : IS) : Operand → I
  | .tmp t => bif Nat.blt t nt then S.get t else .undef
  | .const v => ofVI v
  | .global g => match Z.gI g with | some l => .rp l 0 | none => .undef
  | .func f => .fn f []

theorem toDL_map (h : Nat → Nat) : ∀ l : List I, I.toDL h l = l.map (I.toD h)
  | [] => rfl
  | d :: l => by simp only [I.toDL, List.map_cons, toDL_map h l]
theorem toD_ofC (h : Nat → Nat) (v : Value) : (ofCI v).toD h = ofC v := by
  cases v <;> try rfl
  rename_i a n c
  cases a <;> cases n <;> cases c <;> rfl
theorem toD_ofV (h : Nat → Nat) (v : Value) : (ofVI v).toD h = ofV v := by
  cases hv : v with
  | agg cs =>
    simp only [ofVI, ofV, I.toD, toDL_map, List.map_map]
    congr 1
    exact List.map_congr_left fun x _ => toD_ofC h x
  | _ => (try rfl) <;> (rw [← hv]; have := toD_ofC h v; rw [hv] at this ⊢; exact this)

/- Effects. -/
structure Ef where
  t : Option Nat
  d : I
  g : Option (Nat × Nat)
  o : Option (Nat × IOwn)
def Ef.wr (e : Ef) : Wr := ⟨e.t, e.g.map (·.1), e.o.map (·.1)⟩
def Ef.vl (h : Nat → Nat) (e : Ef) : Vl := ⟨e.d.toD h, match e.g with | some p => h p.1 + p.2 | none => 0, match e.o with | some p => p.2.toOwn h | none => .none⟩
def IS.eff (S : IS) (e : Ef) : IS :=
  ⟨match e.t with | some t => (t, e.d) :: S.rs | none => S.rs, match e.g with | some p => p :: S.gs | none => S.gs, match e.o with | some p => p :: S.os | none => S.os⟩

theorem look_cons {α β : Type} (f : α → β) (e : α) (i : Nat) (a : α) (l : List (Nat × α)) : (fun j => f (look e ((i, a) :: l) j)) = upd (fun j => f (look e l j)) i (f a) := by
  funext j
  simp only [look, upd]
  cases Nat.beq j i <;> rfl
theorem toSt_eff (h : Nat → Nat) (S : IS) (e : Ef) : (S.eff e).toSt h = (S.toSt h).app e.wr (e.vl h) := by
  obtain ⟨t, d, g, o⟩ := e
  unfold IS.toSt St.app IS.eff Ef.wr Ef.vl
  congr 1
  · cases t with
    | none => rfl
    | some t => exact look_cons (I.toD h) .undef t d S.rs
  · cases g with
    | none => rfl
    | some p =>
      funext j
      simp only [IS.gen, look, Option.map_some, updO, upd]
      cases hb : Nat.beq j p.1 with
      | false => rfl
      | true => have := Nat.eq_of_beq_eq_true hb; subst this; rfl
  · cases o with
    | none => rfl
    | some p => exact look_cons (IOwn.toOwn h) .none p.1 p.2 S.os

/- Which places a value refers to. -/
mutual
def plI : I → List Nat
  | .bx s _ _ => [s]
  | .os s _ => [s]
  | .op s _ _ _ _ => [s]
  | .agg l => plIL l
  | .tup l => plIL l
  | .fn _ l => plIL l
  | .mf _ l => plIL l
  | _ => []
def plIL : List I → List Nat
  | [] => []
  | d :: l => plI d ++ plIL l
end
mutual
theorem pl_toD (h : Nat → Nat) : ∀ d : I, plD (d.toD h) = plI d
  | .int _ _ => rfl | .bool _ => rfl | .str _ => rfl | .sl _ _ => rfl | .nil => rfl | .rp _ _ => rfl | .bx _ _ _ => rfl | .os _ _ => rfl | .op _ _ _ _ _ => rfl | .yl _ => rfl | .undef => rfl
  | .agg l => pl_toDL h l
  | .tup l => pl_toDL h l
  | .fn _ l => pl_toDL h l
  | .mf _ l => pl_toDL h l
theorem pl_toDL (h : Nat → Nat) : ∀ l : List I, plL (I.toDL h l) = plIL l
  | [] => rfl
  | d :: l => by simp only [I.toDL, plL, plIL, pl_toD h d, pl_toDL h l]
end
def plIS (Z : ISeat) (nt : Nat) (S : IS) : List Operand → List Nat
  | [] => []
  | x :: l => plI (S.ev Z nt x) ++ plIS Z nt S l
def lcI (Z : ISeat) (nt : Nat) (S : IS) (o : Oper) : Lc :=
  ⟨slotsOf o.op.operands.toList, (match lvl o with | 0 => [] | _ => plIS Z nt S o.op.operands.toList), (match lvl o with | 0 => [] | 1 => [] | _ => plIS Z nt S o.op.operands.toList)⟩

/-- What an operation does, whatever the rest of the state is. -/
def OpOk (X : Ctx) (o : Oper) (T T' : St) : Prop := ∀ κ sv a w, Sim X κ sv T a w → ∀ K Qw, (∀ κ' sv' a' w', Sim X κ' sv' T' a' w' → K a' w') → o.wpIn X.F 0 X.Z.P a w K Qw

structure At (X : Ctx) (Z : ISeat) (nt : Nat) : Prop where
  Z : X.Z = Z.toSeat
  nt : X.nt = nt

section
variable {X : Ctx} {Z : ISeat} {nt : Nat} {S : IS} {o : Oper} {h : Nat → Nat} {T : St}
theorem ev_toSt (hX : At X Z nt) (x : Operand) : (S.toSt h).ev X x = (S.ev Z nt x).toD h := by
  cases x with
  | tmp t =>
    simp only [St.ev, IS.ev, hX.nt]
    cases Nat.blt t nt <;> rfl
  | const v => exact (toD_ofV h v).symm
  | func f => rfl
  | global g =>
    simp only [St.ev, IS.ev, hX.Z]
    rw [Z.gI_ok g h]
    cases Z.gI g <;> rfl
theorem plS_toSt (hX : At X Z nt) : ∀ l : List Operand, plS X (S.toSt h) l = plIS Z nt S l
  | [] => rfl
  | x :: l => by simp only [plS, plIS, ev_toSt hX, pl_toD, plS_toSt hX l]
theorem lc_toSt (hX : At X Z nt) : lcOf X (S.toSt h) o = lcI Z nt S o := by
  simp only [lcOf, lcI, plS_toSt hX]
  cases lvl o with
  | zero => rfl
  | succ n => cases n <;> rfl

/-- State T is, in what operation o reads, as S says. -/
structure Ag (X : Ctx) (Z : ISeat) (nt : Nat) (S : IS) (h : Nat → Nat) (T : St) (o : Oper) : Prop where
  at' : At X Z nt
  agr : Agree (lcOf X (S.toSt h) o) (S.toSt h) T
theorem Ag.ev (ha : Ag X Z nt S h T o) {x : Operand} (hx : x ∈ o.op.operands.toList) {d : I} (hd : S.ev Z nt x = d) : T.ev X x = d.toD h := by
  rw [agree_ev ha.agr hx, ev_toSt ha.at', hd]
theorem Ag.γ (ha : Ag X Z nt S h T o) (hl : lvl o ≠ 0) {x : Operand} (hx : x ∈ o.op.operands.toList) {s : Nat} (hs : s ∈ plI (S.ev Z nt x)) : T.γ s = h s + S.gen s :=
  agree_γ ha.agr hl hx (by rw [ev_toSt ha.at', pl_toD]; exact hs)
theorem Ag.σ (ha : Ag X Z nt S h T o) (hl : lvl o = 2) {x : Operand} (hx : x ∈ o.op.operands.toList) {s : Nat} (hs : s ∈ plI (S.ev Z nt x)) : T.σ s = (S.own s).toOwn h :=
  agree_σ ha.agr hl hx (by rw [ev_toSt ha.at', pl_toD]; exact hs)
theorem Ag.self (hX : At X Z nt) : Ag X Z nt S h (S.toSt h) o := ⟨hX, ⟨fun _ _ => rfl, fun _ _ => rfl, fun _ _ => rfl⟩⟩

/-- The effect e of operation o in state S is right. -/
def EfOk (X : Ctx) (Z : ISeat) (nt : Nat) (o : Oper) (S : IS) (e : Ef) : Prop := ∀ h T, Ag X Z nt S h T o → (∀ p, e.g = some p → T.γ p.1 = h p.1 + S.gen p.1) → OpOk X o T (T.app e.wr (e.vl h))

theorem opOk_q {d : D} {t : Nat} {g : Nat} {ow : Own} (hd : o.dst = some t) (hq : QOp X o T d) : OpOk X o T (T.app ⟨some t, none, none⟩ ⟨d, g, ow⟩) := fun κ sv a w hs K Qw hK => by
  obtain ⟨v, h1, h2⟩ := hq κ sv a w hs
  refine op_val (h2 w (Below.refl _ _)) ?_
  rw [hd]
  exact hK κ sv _ _ (hs.put (some t) h1)
theorem opOk_n {T' : St} (hn : NOp X o T T') : OpOk X o T T' := fun κ sv a w hs K Qw hK => by
  obtain ⟨v, w', κ', sv', h1, h2⟩ := hn κ sv a w hs
  rcases h1 with h1 | ⟨h1, rfl⟩
  · exact op_val h1 (hK κ' sv' _ _ h2)
  · exact op_skip h1 (hK κ' sv' _ _ h2)
theorem OpOk.wk {T1 T2 : St} (h1 : OpOk X o T T1) (hw : Wk X T1 T2) : OpOk X o T T2 := fun κ sv a w hs K Qw hK =>
  h1 κ sv a w hs K Qw fun κ' sv' a' w' hs' =>
    let ⟨κ2, sv2, hs2⟩ := hw κ' sv' a' w' hs'
    hK κ2 sv2 a' w' hs2
def vE (t : Nat) (d : I) : Ef := ⟨some t, d, none, none⟩
theorem efq {d : I} {t : Nat} (hd : o.dst = some t) (hq : ∀ h T, Ag X Z nt S h T o → QOp X o T (d.toD h)) : EfOk X Z nt o S (vE t d) := fun h T ha _ => opOk_q hd (hq h T ha)
end

/- Checks. -/
def chk {R : Type} (b : Bool) (r : Option R) : Option R := bif b then r else none
theorem chk_some {R : Type} {b : Bool} {r : Option R} {x : R} (h : chk b r = some x) : b = true ∧ r = some x := by
  cases b with
  | true => exact ⟨rfl, h⟩
  | false => cases h

/- The same functions on cells of any kind. -/
section
variable {α β : Type}
def takeP : Nat → List α → Option (List α)
  | 0, _ => some []
  | n + 1, d :: l => match takeP n l with
    | some m => some (d :: m)
    | none => none
  | _ + 1, [] => none
def dropP : Nat → List α → List α
  | 0, l => l
  | n + 1, _ :: l => dropP n l
  | _ + 1, [] => []
def overP : List α → Nat → List α → Option (List α)
  | l, 0, [] => some l
  | _ :: l, 0, d :: m => match overP l 0 m with
    | some k => some (d :: k)
    | none => none
  | x :: l, j + 1, m => match overP l j m with
    | some k => some (x :: k)
    | none => none
  | [], _, _ => none
def bldP (pl : Nat → Option (Nat × Nat)) : List α → List (Nat × List α) → Option (List α)
  | l, [] => some l
  | l, (i, m) :: rest => match pl i with
    | some (off, sz) => bif Nat.beq m.length sz then (match overP l off m with | some l' => bldP pl l' rest | none => none) else none
    | none => none
end
theorem take_map (h : Nat → Nat) : ∀ {n : Nat} {l m : List I}, takeP n l = some m → takeN n (I.toDL h l) = some (I.toDL h m)
  | 0, l, m, e => by simp [takeP] at e; subst e; rfl
  | n + 1, [], m, e => by simp [takeP] at e
  | n + 1, d :: l, m, e => by
    unfold takeP at e
    cases h1 : takeP n l with
    | none => rw [h1] at e; cases e
    | some m' =>
      rw [h1] at e
      simp only [Option.some.injEq] at e
      subst e
      simp only [I.toDL, takeN, take_map h h1]
theorem drop_map (h : Nat → Nat) : ∀ (n : Nat) (l : List I), dropN n (I.toDL h l) = I.toDL h (dropP n l)
  | 0, l => by simp [dropN, dropP]
  | n + 1, [] => by simp [dropN, dropP, I.toDL]
  | n + 1, d :: l => by simp only [I.toDL, dropN, dropP, drop_map h n l]
theorem over_map (h : Nat → Nat) : ∀ {l m k : List I} {j : Nat}, overP l j m = some k → overN (I.toDL h l) j (I.toDL h m) = some (I.toDL h k)
  | l, [], k, 0, e => by
    cases l <;> (simp [overP] at e; subst e; simp [I.toDL, overN])
  | [], m, k, j + 1, e => by simp [overP] at e
  | [], d :: m, k, 0, e => by simp [overP] at e
  | x :: l, d :: m, k, 0, e => by
    unfold overP at e
    cases h1 : overP l 0 m with
    | none => rw [h1] at e; cases e
    | some k' =>
      rw [h1] at e
      simp only [Option.some.injEq] at e
      subst e
      simp only [I.toDL, overN, over_map h h1]
  | x :: l, m, k, j + 1, e => by
    unfold overP at e
    cases h1 : overP l j m with
    | none => rw [h1] at e; cases e
    | some k' =>
      rw [h1] at e
      simp only [Option.some.injEq] at e
      subst e
      have := over_map h h1
      cases m <;> simp only [I.toDL, overN] at this ⊢ <;> rw [this]
theorem toDL_len (h : Nat → Nat) (l : List I) : (I.toDL h l).length = l.length := by simp [toDL_map]
theorem bld_map (h : Nat → Nat) (pl : Nat → Option (Nat × Nat)) : ∀ {ps : List (Nat × List I)} {l k : List I}, bldP pl l ps = some k → bldN pl (I.toDL h l) (ps.map fun p => (p.1, I.toDL h p.2)) = some (I.toDL h k)
  | [], l, k, e => by simp [bldP] at e; subst e; rfl
  | (i, m) :: ps, l, k, e => by
    simp only [bldP] at e
    simp only [List.map_cons, bldN, toDL_len]
    cases hp : pl i with
    | none => rw [hp] at e; cases e
    | some q =>
      obtain ⟨off, sz⟩ := q
      rw [hp] at e
      simp only at e ⊢
      cases hb : Nat.beq m.length sz with
      | false => rw [hb] at e; cases e
      | true =>
        rw [hb] at e
        simp only [cond_true] at e ⊢
        cases ho : overP l off m with
        | none => rw [ho] at e; cases e
        | some l' =>
          rw [ho] at e
          rw [over_map h ho]
          exact bld_map h pl e
theorem nth_map (h : Nat → Nat) : ∀ {l : List I} {n : Nat} {d : I}, nth l n = some d → nth (I.toDL h l) n = some (d.toD h)
  | [], n, d, e => by simp [nth] at e
  | x :: l, 0, d, e => by simp [nth] at e; subst e; rfl
  | x :: l, n + 1, d, e => by simp only [nth] at e; simp only [I.toDL, nth]; exact nth_map h e

def I.isCell : I → Bool
  | .agg _ | .tup _ | .undef => false
  | _ => true
def I.cells : I → List I
  | .agg l => l
  | d => [d]
def allC : List I → Bool
  | [] => true
  | d :: l => d.isCell && allC l
theorem isCell_toD (h : Nat → Nat) (d : I) : (d.toD h).isCell = d.isCell := by cases d <;> rfl
theorem allC_toDL (h : Nat → Nat) : ∀ l : List I, allCell (I.toDL h l) = allC l
  | [] => rfl
  | d :: l => by simp only [I.toDL, allCell, allC, isCell_toD, allC_toDL h l]
theorem cells_toD (h : Nat → Nat) (d : I) : (d.toD h).cells = I.toDL h d.cells := by cases d <;> rfl
def zI : Zr → I
  | .i k => .int k 0
  | .b => .bool false
  | .s => .str ⟨#[]⟩
  | .sl => .nil
theorem zI_toDL (h : Nat → Nat) : ∀ zs : List Zr, I.toDL h (zs.map zI) = zs.map Zr.toD
  | [] => rfl
  | z :: zs => by simp only [List.map_cons, I.toDL, zI_toDL h zs]; cases z <;> rfl
end Go.Ab


/- Operations that only read, by computing. -/
namespace Go.Ab
open Go Go.RowKit
set_option linter.all false
set_option maxHeartbeats 1000000

section
variable {R : Type} {X : Ctx} {Z : ISeat} {nt : Nat} {S : IS} {o : Oper} {r : R} {k : Ef → Option R} {t : Nat}

def isNil : Operand → Bool
  | .const (.slice none 0 0) => true
  | _ => false
theorem isNil_eq {x : Operand} (h : isNil x = true) : x = .const (.slice none 0 0) := by
  unfold isNil at h
  split at h
  · rfl
  · cases h
def slTy (Z : ISeat) (ty : Nat) : Option (Nat × T) := match nth Z.tab ty with
  | some r => bif Nat.beq r.k 3 then (match Z.ty r.el with | some t => some (r.el, t) | none => none) else none
  | none => none
def ownE (S : IS) (t s : Nat) (ow : IOwn) : Ef := ⟨some t, .os s (S.gen s + 1), some (s, S.gen s + 1), some (s, ow)⟩
theorem owned_app {h : Nat → Nat} {T : St} {t s : Nat} {ow : IOwn} (hγ : T.γ s = h s + S.gen s) : T.owned t s (ow.toOwn h) = T.app (ownE S t s ow).wr ((ownE S t s ow).vl h) := by
  unfold St.owned St.app ownE Ef.wr Ef.vl
  rw [hγ]; rfl
theorem n_nil {T : St} {x : Operand} {E z : Nat} {f : Nat → List D} (ho : o.op = .move x ∨ o.op = .assign x) (hd : o.dst = some t) (hx : x = .const (.slice none 0 0)) : NOp X o T (T.owned t t (.arr E z 0 f)) := fun κ sv a w hs => by
  subst hx
  refine ⟨.slice none 0 0, w, κ, upd sv t (.slice none 0 0), .inl ?_, ?_⟩
  · rcases ho with ho | ho <;> simp [execOp, ho, Act.eval]
  · rw [hd]
    exact sim_owned hs t t (pv := .slice none 0 0) (ow := .arr E z 0 f) rfl (below_grown (Below.refl _ _) _) (fun b hb => by cases hb)
      ⟨[], by rw [upd_same]; exact World.ownsRow_nil _ _ _ _, fun _ h => by omega, fun _ h => by omega, fun _ h => by omega⟩
def opMv (Z : ISeat) (nt : Nat) (S : IS) (ty : Nat) (t : Nat) (x : Operand) (k : Ef → Option R) : Option R :=
  bif isNil x then (match slTy Z ty with | some p => k (ownE S t t (.arr p.1 p.2 [])) | none => k (vE t .nil)) else k (vE t (S.ev Z nt x))
theorem opMv_ok {x : Operand} {ty : Nat} (ho : o.op = .move x ∨ o.op = .assign x) (hd : o.dst = some t) (h : opMv Z nt S ty t x k = some r) : ∃ e, k e = some r ∧ EfOk X Z nt o S e := by
  have q : EfOk X Z nt o S (vE t (S.ev Z nt x)) := efq hd fun h T ha => by
    rcases ho with ho | ho
    · exact q_move ho (ha.ev (by rw [ho]; simp [Op.operands]) rfl)
    · exact q_assign ho (ha.ev (by rw [ho]; simp [Op.operands]) rfl)
  unfold opMv at h
  cases hn : isNil x with
  | false => rw [hn] at h; exact ⟨_, h, q⟩
  | true =>
    rw [hn] at h
    have hx := isNil_eq hn
    simp only [cond_true] at h
    cases hs : slTy Z ty with
    | none =>
      rw [hs] at h
      have : S.ev Z nt x = .nil := by rw [hx]; rfl
      rw [this] at q
      exact ⟨_, h, q⟩
    | some p =>
      rw [hs] at h
      refine ⟨_, h, fun h T ha hg => ?_⟩
      rw [← owned_app (hg _ rfl)]
      exact opOk_n (n_nil ho hd hx)

def opPk (Z : ISeat) (nt : Nat) (S : IS) (t : Nat) (c x y : Operand) (k : Ef → Option R) : Option R := match S.ev Z nt c with
  | .bool b => bif b then k (vE t (S.ev Z nt x)) else k (vE t (S.ev Z nt y))
  | _ => none
theorem opPk_ok {c x y : Operand} (ho : o.op = .pick c x y) (hd : o.dst = some t) (h : opPk Z nt S t c x y k = some r) : ∃ e, k e = some r ∧ EfOk X Z nt o S e := by
  unfold opPk at h
  split at h
  · rename_i b hb
    cases b with
    | true => exact ⟨_, h, efq hd fun h T ha => q_pickT ho (ha.ev (by rw [ho]; simp [Op.operands]) hb) (ha.ev (by rw [ho]; simp [Op.operands]) rfl)⟩
    | false => exact ⟨_, h, efq hd fun h T ha => q_pickF ho (ha.ev (by rw [ho]; simp [Op.operands]) hb) (ha.ev (by rw [ho]; simp [Op.operands]) rfl)⟩
  · cases h

/- Arithmetic and comparisons. -/
def zh : Nat → Nat := fun _ => 0
theorem eqL_h (h : Nat → Nat) : ∀ {l m : List I} {b : Bool}, eqL (I.toDL zh l) (I.toDL zh m) = some b → eqL (I.toDL h l) (I.toDL h m) = some b
  | [], [], b, e => e
  | [], _ :: _, b, e => by simp [I.toDL, eqL] at e
  | x :: l, [], b, e => by cases x <;> simp [I.toDL, I.toD, eqL, slD] at e
  | x :: l, y :: m, b, e => by
    cases x <;> cases y <;> simp only [I.toDL, I.toD, eqL, slD] at e ⊢ <;> try (cases e; done)
    · cases hk : (_ : IntKind) == _ with
      | false => simp [hk] at e
      | true =>
        simp only [hk] at e ⊢
        cases hr : eqL (I.toDL zh l) (I.toDL zh m) with
        | none => rw [hr] at e; simp at e
        | some r => rw [hr] at e; rw [eqL_h h hr]; exact e
    · cases hr : eqL (I.toDL zh l) (I.toDL zh m) with
      | none => rw [hr] at e; simp at e
      | some r => rw [hr] at e; rw [eqL_h h hr]; exact e
theorem fieldOk_h (h : Nat → Nat) (P : Program) (f : Field) (d : I) : fieldOk P f (d.toD h) = fieldOk P f (d.toD zh) := by cases d <;> rfl
theorem fieldsOk_h (h : Nat → Nat) (P : Program) : ∀ (fs : List Field) (l : List I) (n : Nat), fieldsOk P fs (I.toDL h l) n = fieldsOk P fs (I.toDL zh l) n
  | [], [], n => rfl
  | [], _ :: _, n => rfl
  | _ :: _, [], n => rfl
  | f :: fs, d :: l, n => by simp only [I.toDL, fieldsOk, fieldOk_h h, fieldsOk_h h P fs l]
theorem flatB_h (h : Nat → Nat) (P : Program) (ty : TypeId) (l : List I) : flatB P ty (I.toDL h l) = flatB P ty (I.toDL zh l) := by
  unfold flatB
  split
  · rw [fieldsOk_h]
  · rfl
def opBin (Z : ISeat) (t : Nat) (op : BinOp) (ty : TypeId) (k : Ef → Option R) : I → I → Option R
  | .int k1 m, .int k2 n => match op with
    | .eql => chk (decide (k1 = k2)) (k (vE t (.bool (m == n))))
    | .neq => chk (decide (k1 = k2)) (k (vE t (.bool (m != n))))
    | .lss => chk (decide (k1 = k2)) (k (vE t (.bool (decide (m < n)))))
    | .leq => chk (decide (k1 = k2)) (k (vE t (.bool (decide (m ≤ n)))))
    | .gtr => chk (decide (k1 = k2)) (k (vE t (.bool (decide (m > n)))))
    | .geq => chk (decide (k1 = k2)) (k (vE t (.bool (decide (m ≥ n)))))
    | .add => chk (decide (k1 = k2)) (k (vE t (.int k1 (k1.wrap (m + n)))))
    | .sub => chk (decide (k1 = k2)) (k (vE t (.int k1 (k1.wrap (m - n)))))
    | .mul => chk (decide (k1 = k2)) (k (vE t (.int k1 (k1.wrap (m * n)))))
    | .quo => chk (decide (k1 = k2)) (chk (n != 0) (k (vE t (.int k1 (k1.wrap (m.tdiv n))))))
    | .rem => chk (decide (k1 = k2)) (chk (n != 0) (k (vE t (.int k1 (m.tmod n)))))
    | .xor => chk (decide (k1 = k2)) (k (vE t (.int k1 (k1.wrap (BitVec.ofInt k1.bits m ^^^ BitVec.ofInt k1.bits n).toNat))))
    | .and => chk (decide (k1 = k2)) (k (vE t (.int k1 (k1.wrap (BitVec.ofInt k1.bits m &&& BitVec.ofInt k1.bits n).toNat))))
    | .shr => chk (decide (0 ≤ n)) (k (vE t (.int k1 (m.fdiv (2 ^ (min n.toNat k1.bits))))))
    | .shl => chk (decide (0 ≤ n)) (k (vE t (.int k1 (k1.wrap (m * 2 ^ (min n.toNat k1.bits))))))
    | _ => none
  | .bool a, .bool b => match op with
    | .eql => chk (Z.isB ty) (k (vE t (.bool (a == b))))
    | .neq => chk (Z.isB ty) (k (vE t (.bool (!(a == b)))))
    | _ => none
  | .agg l, .agg m => chk (flatB Z.P ty (I.toDL zh l)) (match eqL (I.toDL zh l) (I.toDL zh m) with
    | some b => (match op with
      | .eql => k (vE t (.bool b))
      | .neq => k (vE t (.bool (!b)))
      | _ => none)
    | none => none)
  | _, _ => none
theorem opBin_ok (hX : At X Z nt) {op : BinOp} {ty ty2 : TypeId} {x y : Operand} (ho : o.op = .binOp op ty x y ty2) (hd : o.dst = some t) (h : opBin Z t op ty k (S.ev Z nt x) (S.ev Z nt y) = some r) : ∃ e, k e = some r ∧ EfOk X Z nt o S e := by
  have mx : x ∈ o.op.operands.toList := by rw [ho]; simp [Op.operands]
  have my : y ∈ o.op.operands.toList := by rw [ho]; simp [Op.operands]
  unfold opBin at h
  split at h
  · rename_i k1 m k2 n hx hy
    have cm : ∀ {b : Bool}, k1 = k2 → cmpI op m n = some b → EfOk X Z nt o S (vE t (.bool b)) := fun e hc => by
      subst e
      exact efq hd fun h T ha => q_cmp ho (ha.ev mx hx) (ha.ev my hy) hc
    have ar : ∀ {e : Int}, k1 = k2 → arithI op m n = some e → EfOk X Z nt o S (vE t (.int k1 (k1.wrap e))) := fun e hc => by
      subst e
      exact efq hd fun h T ha => q_arithw ho (ha.ev mx hx) (ha.ev my hy) hc
    split at h <;> first
      | (obtain ⟨h1, h2⟩ := chk_some h; exact ⟨_, h2, cm (of_decide_eq_true h1) rfl⟩)
      | (obtain ⟨h1, h2⟩ := chk_some h; exact ⟨_, h2, ar (of_decide_eq_true h1) rfl⟩)
      | (obtain ⟨h1, h⟩ := chk_some h
         obtain ⟨h3, h2⟩ := chk_some h
         have := of_decide_eq_true h1
         subst this
         have hn : n ≠ 0 := by simpa using h3
         refine ⟨_, h2, efq hd fun h T ha => ?_⟩
         first
          | exact q_quot ho (ha.ev mx hx) (ha.ev my hy) hn
          | exact q_remt ho (ha.ev mx hx) (ha.ev my hy) hn)
      | (obtain ⟨h1, h2⟩ := chk_some h
         have := of_decide_eq_true h1
         subst this
         refine ⟨_, h2, efq hd fun h T ha => ?_⟩
         first
          | exact q_xor ho (ha.ev mx hx) (ha.ev my hy)
          | exact q_and ho (ha.ev mx hx) (ha.ev my hy))
      | (obtain ⟨h1, h2⟩ := chk_some h
         have := of_decide_eq_true h1
         refine ⟨_, h2, efq hd fun h T ha => ?_⟩
         first
          | exact q_shr ho (ha.ev mx hx) (ha.ev my hy) this
          | exact q_shl ho (ha.ev mx hx) (ha.ev my hy) this)
      | cases h
  · rename_i a b hx hy
    split at h
    · obtain ⟨h1, h2⟩ := chk_some h
      exact ⟨_, h2, efq hd fun h T ha => q_beq ho (by rw [hX.Z]; exact Z.isB_ok _ h1) (ha.ev mx hx) (ha.ev my hy)⟩
    · obtain ⟨h1, h2⟩ := chk_some h
      exact ⟨_, h2, efq hd fun h T ha => q_bneq ho (by rw [hX.Z]; exact Z.isB_ok _ h1) (ha.ev mx hx) (ha.ev my hy)⟩
    · cases h
  · rename_i l m hx hy
    obtain ⟨h1, h⟩ := chk_some h
    split at h
    · rename_i b hb
      split at h
      · exact ⟨_, h, efq hd fun h T ha => q_eqA ho (ha.ev mx hx) (ha.ev my hy) (eqL_h h hb) (by rw [hX.Z, flatB_h]; exact h1)⟩
      · exact ⟨_, h, efq hd fun h T ha => q_neA ho (ha.ev mx hx) (ha.ev my hy) (eqL_h h hb) (by rw [hX.Z, flatB_h]; exact h1)⟩
      · cases h
    · cases h
  · cases h

theorem q_negw {T : St} {ty : TypeId} {x : Operand} {kk : IntKind} {n : Int} (ho : o.op = .unOp .neg ty x) (hx : T.ev X x = .int kk n) : QOp X o T (.int kk (kk.wrap (-n))) := fun κ sv a w hs =>
  ⟨.int kk (kk.wrap (-n)), .int _ _, fun w' _ => by simp [execOp, ho, ev_int hs hx, Op.unary, Op.intArith]⟩
def opUn (t : Nat) (op : UnOp) (k : Ef → Option R) : I → Option R
  | .bool b => match op with | .not => k (vE t (.bool (!b))) | _ => none
  | .int kk n => match op with | .neg => k (vE t (.int kk (kk.wrap (-n)))) | _ => none
  | _ => none
theorem opUn_ok {op : UnOp} {ty : TypeId} {x : Operand} (ho : o.op = .unOp op ty x) (hd : o.dst = some t) (h : opUn t op k (S.ev Z nt x) = some r) : ∃ e, k e = some r ∧ EfOk X Z nt o S e := by
  have mx : x ∈ o.op.operands.toList := by rw [ho]; simp [Op.operands]
  unfold opUn at h
  split at h
  · rename_i b hx
    split at h
    · exact ⟨_, h, efq hd fun h T ha => q_not ho (ha.ev mx hx)⟩
    · cases h
  · rename_i b hx
    split at h
    · exact ⟨_, h, efq hd fun h T ha => q_negw ho (ha.ev mx hx)⟩
    · cases h
  · cases h

def opCv (Z : ISeat) (t : Nat) (ty ty2 : TypeId) (k : Ef → Option R) : I → Option R
  | .int _ n => chk ((Z.ik ty).isSome) (match Z.ik ty2 with | some k2 => k (vE t (.int k2 (k2.wrap n))) | none => none)
  | _ => none
theorem opCv_ok (hX : At X Z nt) {ty ty2 : TypeId} {x : Operand} (ho : o.op = .convert ty ty2 x) (hd : o.dst = some t) (h : opCv Z t ty ty2 k (S.ev Z nt x) = some r) : ∃ e, k e = some r ∧ EfOk X Z nt o S e := by
  have mx : x ∈ o.op.operands.toList := by rw [ho]; simp [Op.operands]
  unfold opCv at h
  split at h
  · rename_i kk n hx
    obtain ⟨h1, h⟩ := chk_some h
    obtain ⟨k1, e1⟩ := Option.isSome_iff_exists.1 h1
    split at h
    · rename_i k2 e2
      exact ⟨_, h, efq hd fun h T ha => q_conv ho (by rw [hX.Z, Z.ik_ok _ _ e1]; rfl) (by rw [hX.Z]; exact Z.ik_ok _ _ e2) (ha.ev mx hx)⟩
    · cases h
  · cases h

def opEx (t i : Nat) (k : Ef → Option R) : I → Option R
  | .tup l => match nth l i with | some d => k (vE t d) | none => none
  | _ => none
theorem opEx_ok {i : Nat} {x : Operand} (ho : o.op = .extract x i) (hd : o.dst = some t) (h : opEx t i k (S.ev Z nt x) = some r) : ∃ e, k e = some r ∧ EfOk X Z nt o S e := by
  have mx : x ∈ o.op.operands.toList := by rw [ho]; simp [Op.operands]
  unfold opEx at h
  split at h
  · rename_i l hx
    split at h
    · rename_i d hi
      exact ⟨_, h, efq hd fun h T ha => q_ext ho (ha.ev mx hx) (nth_map h hi)⟩
    · cases h
  · cases h
end
end Go.Ab


/- Operations that read memory, by computing. -/
namespace Go.Ab
open Go Go.RowKit
set_option linter.all false
set_option maxHeartbeats 1000000

section
variable {R : Type} {X : Ctx} {Z : ISeat} {nt : Nat} {S : IS} {o : Oper} {r : R} {k : Ef → Option R} {t : Nat}

def rowOf (Z : ISeat) (ty : Nat) (k : TRow → Option R) : Option R := match nth Z.tab ty with
  | some q => bif Nat.beq q.k 9 then none else k q
  | none => none
theorem rowOf_ok {ty : Nat} {f : TRow → Option R} (h : rowOf Z ty f = some r) : ∃ q, nth Z.tab ty = some q ∧ Nat.beq q.k 9 = false ∧ f q = some r := by
  unfold rowOf at h
  split at h
  · rename_i q hq
    cases hb : Nat.beq q.k 9 with
    | true => rw [hb] at h; cases h
    | false => rw [hb] at h; exact ⟨q, hq, hb, h⟩
  · cases h
def isAg (q : TRow) : Bool := Nat.beq q.k 1 || Nat.beq q.k 2

theorem q_fielda {T : St} {ty : TypeId} {x : Operand} {f off fsz : Nat} {l m : List D} {q : TRow} (ho : o.op = .field ty x f) (hx : T.ev X x = .agg l) (hr : nth X.Z.tab ty = some q) (hk : Nat.beq q.k 1 = true)
    (hf : nth q.fl f = some (off, fsz, true)) (hm : takeN fsz (dropN off l) = some m) : QOp X o T (.agg m) := fun κ sv a w hs => by
  have hok := X.Z.tabOk _ _ hr (by intro e; rw [e] at hk; cases hk)
  obtain ⟨i, dd, hi, hdd, _, _, _, h4⟩ := row_info hok
  have hk1 := Nat.eq_of_beq_eq_true hk
  cases dd <;> try (simp only at h4; omega)
  rename_i fs
  obtain ⟨_, hfl, hall⟩ := h4
  rw [nth_eq, ← hfl, List.getElem?_map] at hf
  obtain ⟨rfl, hlen⟩ := takeN_eq hm
  rw [dropN_eq] at hlen ⊢
  obtain ⟨vs, he, hl⟩ := ev_agg hs hx
  refine ⟨.agg ((vs.drop off).take fsz).toArray, .agg _ _ ((hl.drop _).take _), fun w' _ => ?_⟩
  cases hff : fs.toList[f]? with
  | none => rw [hff] at hf; cases hf
  | some fld =>
    rw [hff] at hf
    simp only [Option.map_some, Option.some.injEq, Prod.mk.injEq] at hf
    obtain ⟨h1, h2, h3⟩ := hf
    have hsome := List.all_eq_true.1 hall fld (List.mem_of_getElem? hff)
    rw [Bool.and_eq_true] at hsome
    obtain ⟨d2, hu2⟩ := Option.isSome_iff_exists.1 hsome.2
    obtain ⟨i2, hi2⟩ := Option.isSome_iff_exists.1 hsome.1
    have hff' : fs[f]? = some fld := by simpa using hff
    have hagg : (isAgg fld.type).run X.Z.P w' = .ok true w' := by rw [run_isAgg hu2, h3]
    have hsz : i2.size = fsz := by rw [← cellsOf_eq hi2, h2]
    have hext : vs.toArray.extract off (off + fsz) = ((vs.drop off).take fsz).toArray := by simp [List.extract_eq_drop_take]
    simp [execOp, ho, he, Instr.field, run_underlying hdd, hff', asAgg, part, hagg, h1, run_sizeOf hi2, hsz, hext]
def opFd (Z : ISeat) (t ty f : Nat) (k : Ef → Option R) : I → Option R
  | .agg l => rowOf Z ty fun q => chk (Nat.beq q.k 1) (match nth q.fl f with
    | some (off, fsz, true) => (match takeP fsz (dropP off l) with | some m => k (vE t (.agg m)) | none => none)
    | some (off, _, false) => (match nth l off with | some d => k (vE t d) | none => none)
    | none => none)
  | _ => none
theorem opFd_ok (hX : At X Z nt) {ty f : Nat} {x : Operand} (ho : o.op = .field ty x f) (hd : o.dst = some t) (h : opFd Z t ty f k (S.ev Z nt x) = some r) : ∃ e, k e = some r ∧ EfOk X Z nt o S e := by
  have mx : x ∈ o.op.operands.toList := by rw [ho]; simp [Op.operands]
  unfold opFd at h
  split at h
  · rename_i l hx
    obtain ⟨q, hq, h9, h⟩ := rowOf_ok h
    obtain ⟨hk, h⟩ := chk_some h
    split at h
    · rename_i off fsz hf
      split at h
      · rename_i m hm
        exact ⟨_, h, efq hd fun h T ha => q_fielda ho (ha.ev mx hx) (by rw [hX.Z]; exact hq) hk hf (by rw [drop_map]; exact take_map h hm)⟩
      · cases h
    · rename_i off fsz hf
      split at h
      · rename_i d hm
        exact ⟨_, h, efq hd fun h T ha => q_field ho (ha.ev mx hx) (by rw [hX.Z]; exact hq) hk hf rfl (nth_map h hm)⟩
      · cases h
    · cases h
  · cases h

def partsI (Z : ISeat) (nt : Nat) (S : IS) : List (Nat × Operand) → List (Nat × List I)
  | [] => []
  | (i, x) :: l => (i, (S.ev Z nt x).cells) :: partsI Z nt S l
def partsB (Z : ISeat) (nt : Nat) (S : IS) : List (Nat × Operand) → Bool
  | [] => true
  | (_, x) :: l => allC (S.ev Z nt x).cells && partsB Z nt S l
theorem parts_map {h : Nat → Nat} {T : St} (ha : Ag X Z nt S h T o) : ∀ {l : List (Nat × Operand)}, (∀ p ∈ l, p.2 ∈ o.op.operands.toList) →
    partsD X T l = (partsI Z nt S l).map (fun p => (p.1, I.toDL h p.2)) ∧ partsOk X T l = partsB Z nt S l
  | [], _ => ⟨rfl, rfl⟩
  | (i, x) :: l, hm => by
    obtain ⟨h1, h2⟩ := parts_map ha (l := l) fun p hp => hm p (List.mem_cons_of_mem _ hp)
    have h3 := ha.ev (hm (i, x) (List.mem_cons_self ..)) rfl
    simp only at h3
    simp only [partsD, partsI, partsOk, partsB, List.map_cons, h1, h2, h3, cells_toD, allC_toDL, and_self]
def opBd (Z : ISeat) (nt : Nat) (S : IS) (t ty : Nat) (ps : Array (Nat × Operand)) (k : Ef → Option R) : Option R := rowOf Z ty fun q => chk (partsB Z nt S ps.toList)
  (bif Nat.beq q.k 1 then (match bldP (plF q.fl) (q.zs.map zI) (partsI Z nt S ps.toList) with | some l => k (vE t (.agg l)) | none => none)
   else chk (Nat.beq q.k 2) (rowOf Z q.el fun q2 => match bldP (fun i => some (i * q2.sz, q2.sz)) (q.zs.map zI) (partsI Z nt S ps.toList) with | some l => k (vE t (.agg l)) | none => none))
theorem opBd_ok (hX : At X Z nt) {ty : Nat} {ps : Array (Nat × Operand)} (ho : o.op = .build ty ps) (hd : o.dst = some t) (h : opBd Z nt S t ty ps k = some r) : ∃ e, k e = some r ∧ EfOk X Z nt o S e := by
  have hm : ∀ p ∈ ps.toList, p.2 ∈ o.op.operands.toList := fun p hp => by rw [ho]; simp only [Op.operands]; exact List.mem_map.2 ⟨p, hp, rfl⟩
  unfold opBd at h
  obtain ⟨q, hq, h9, h⟩ := rowOf_ok h
  obtain ⟨hp, h⟩ := chk_some h
  cases hk : Nat.beq q.k 1 with
  | true =>
    rw [hk] at h
    simp only [cond_true] at h
    split at h
    · rename_i l hl
      refine ⟨_, h, efq hd fun h T ha => ?_⟩
      obtain ⟨h1, h2⟩ := parts_map ha hm
      exact q_bld ho (by rw [hX.Z]; exact hq) hk (h2.trans hp) (by rw [h1, ← zI_toDL h]; exact bld_map h _ hl)
    · cases h
  | false =>
    rw [hk] at h
    simp only [cond_false] at h
    obtain ⟨hk2, h⟩ := chk_some h
    obtain ⟨q2, hq2, h92, h⟩ := rowOf_ok h
    split at h
    · rename_i l hl
      refine ⟨_, h, efq hd fun h T ha => ?_⟩
      obtain ⟨h1, h2⟩ := parts_map ha hm
      exact q_blda ho (by rw [hX.Z]; exact hq) hk2 rfl (by rw [hX.Z]; exact hq2) h92 (h2.trans hp) (by rw [h1, ← zI_toDL h]; exact bld_map h _ hl)
    · cases h

/- Loads. -/
def ldC (q : TRow) (t : Nat) (l : List I) (j : Nat) (k : Ef → Option R) : Option R :=
  bif isAg q then (match takeP q.sz (dropP j l) with | some m => k (vE t (.agg m)) | none => none) else (match nth l j with | some d => k (vE t d) | none => none)
theorem ldC_ok {q : TRow} {l : List I} {j : Nat} (h : ldC q t l j k = some r) : (isAg q = true ∧ ∃ m, takeP q.sz (dropP j l) = some m ∧ k (vE t (.agg m)) = some r) ∨ (isAg q = false ∧ ∃ d, nth l j = some d ∧ k (vE t d) = some r) := by
  unfold ldC at h
  cases ha : isAg q with
  | true =>
    rw [ha] at h
    simp only [cond_true] at h
    split at h
    · exact .inl ⟨rfl, _, by assumption, h⟩
    · cases h
  | false =>
    rw [ha] at h
    simp only [cond_false] at h
    split at h
    · exact .inr ⟨rfl, _, by assumption, h⟩
    · cases h
def rowI (ty : T) (l : List (den ty)) (i : Nat) : List I := encC ty (l.getD i (dflt ty))
def opLd (Z : ISeat) (S : IS) (t ty : Nat) (k : Ef → Option R) : I → Option R
  | .rp l j => rowOf Z ty fun q => ldC q t l j k
  | .bx s g j => rowOf Z ty fun q => bif Nat.beq g (S.gen s) then (match S.own s with | .box l => ldC q t l j k | _ => none) else none
  | .op s g z i j => rowOf Z ty fun q => bif Nat.beq g (S.gen s) then (match S.own s with | .arr _ e l => chk (Nat.beq z (sz e)) (chk (decide (i < l.length)) (ldC q t (rowI e l i) j k)) | _ => none) else none
  | _ => none
theorem pl_bx {x : Operand} {s g j : Nat} (hx : S.ev Z nt x = .bx s g j) : s ∈ plI (S.ev Z nt x) := by rw [hx]; simp [plI]
theorem pl_os {x : Operand} {s g : Nat} (hx : S.ev Z nt x = .os s g) : s ∈ plI (S.ev Z nt x) := by rw [hx]; simp [plI]
theorem pl_op {x : Operand} {s g z i j : Nat} (hx : S.ev Z nt x = .op s g z i j) : s ∈ plI (S.ev Z nt x) := by rw [hx]; simp [plI]
theorem opLd_ok (hX : At X Z nt) {ty : Nat} {x : Operand} (ho : o.op = .load ty x) (hd : o.dst = some t) (h : opLd Z S t ty k (S.ev Z nt x) = some r) : ∃ e, k e = some r ∧ EfOk X Z nt o S e := by
  have mx : x ∈ o.op.operands.toList := by rw [ho]; simp [Op.operands]
  have hl2 : lvl o = 2 := by simp [lvl, ho]
  have hl1 : lvl o ≠ 0 := by rw [hl2]; simp
  unfold opLd at h
  split at h
  · rename_i l j hx
    obtain ⟨q, hq, h9, h⟩ := rowOf_ok h
    rcases ldC_ok h with ⟨hk, m, hm, h⟩ | ⟨hk, d, hm, h⟩
    · exact ⟨_, h, efq hd fun h T ha => q_ldra ho (ha.ev mx hx) (by rw [hX.Z]; exact hq) hk h9 (by rw [drop_map]; exact take_map h hm)⟩
    · exact ⟨_, h, efq hd fun h T ha => q_ldr ho (ha.ev mx hx) (by rw [hX.Z]; exact hq) hk h9 (nth_map h hm)⟩
  · rename_i s g j hx
    obtain ⟨q, hq, h9, h⟩ := rowOf_ok h
    cases hg : Nat.beq g (S.gen s) with
    | false => rw [hg] at h; cases h
    | true =>
    have hg := Nat.eq_of_beq_eq_true hg
    subst hg
    simp only [Nat.beq_refl, cond_true] at h
    split at h
    · rename_i l hσ
      have hp := pl_bx hx
      rcases ldC_ok h with ⟨hk, m, hm, h⟩ | ⟨hk, d, hm, h⟩
      · exact ⟨_, h, efq hd fun h T ha => q_ldba ho (ha.ev mx hx) (by rw [hX.Z]; exact hq) hk h9 (ha.γ hl1 mx hp) ((ha.σ hl2 mx hp).trans (by rw [hσ]; rfl)) (by rw [drop_map]; exact take_map h hm)⟩
      · exact ⟨_, h, efq hd fun h T ha => q_ldb ho (ha.ev mx hx) (by rw [hX.Z]; exact hq) hk h9 (ha.γ hl1 mx hp) ((ha.σ hl2 mx hp).trans (by rw [hσ]; rfl)) (nth_map h hm)⟩
    · cases h
  · rename_i s g z i j hx
    obtain ⟨q, hq, h9, h⟩ := rowOf_ok h
    cases hg : Nat.beq g (S.gen s) with
    | false => rw [hg] at h; cases h
    | true =>
    have hg := Nat.eq_of_beq_eq_true hg
    subst hg
    simp only [Nat.beq_refl, cond_true] at h
    split at h
    · rename_i E e l hσ
      obtain ⟨hz0, h2⟩ := chk_some h
      obtain ⟨hi0, h3⟩ := chk_some h2
      clear h h2
      have hz := Nat.eq_of_beq_eq_true hz0
      clear hz0
      subst hz
      have hi := of_decide_eq_true hi0
      have h := h3
      clear h3
      have hp := pl_op hx
      have er : ∀ h : Nat → Nat, encD e (l.getD i (dflt e)) = I.toDL h (rowI e l i) := fun h => (toDL_enc h e _).symm
      have hσT : ∀ h T, Ag X Z nt S h T o → T.σ s = .arr E (sz e) l.length (fun i => encD e (l.getD i (dflt e))) := fun h T ha => (ha.σ hl2 mx hp).trans (by rw [hσ]; rfl)
      rcases ldC_ok h with ⟨hk, m, hm, h⟩ | ⟨hk, d, hm, h⟩
      · exact ⟨_, h, efq hd fun h T ha => q_ldoa ho (ha.ev mx hx) (by rw [hX.Z]; exact hq) hk h9 (ha.γ hl1 mx hp) (hσT h T ha) hi (by rw [er h, drop_map]; exact take_map h hm)⟩
      · exact ⟨_, h, efq hd fun h T ha => q_ldo ho (ha.ev mx hx) (by rw [hX.Z]; exact hq) hk h9 (ha.γ hl1 mx hp) (hσT h T ha) hi (by rw [er h]; exact nth_map h hm)⟩
    · cases h
  · cases h
end
end Go.Ab


/- Addresses, lengths, function values; operations that lay memory or write it, by computing. -/
namespace Go.Ab
open Go Go.RowKit
set_option linter.all false
set_option maxHeartbeats 1000000

section
variable {R : Type} {X : Ctx} {Z : ISeat} {nt : Nat} {S : IS} {o : Oper} {r : R} {k : Ef → Option R} {t : Nat}

def live (S : IS) (s g : Nat) (x : Option R) : Option R := bif Nat.beq g (S.gen s) then x else none
theorem live_ok {s g : Nat} {x : Option R} (h : live S s g x = some r) : g = S.gen s ∧ x = some r := by
  unfold live at h
  cases hg : Nat.beq g (S.gen s) with
  | false => rw [hg] at h; cases h
  | true => rw [hg] at h; exact ⟨Nat.eq_of_beq_eq_true hg, h⟩

def opFa (Z : ISeat) (S : IS) (t ty f : Nat) (k : Ef → Option R) (d : I) : Option R := rowOf Z ty fun q => chk (Nat.beq q.k 1) (match nth q.fl f with
  | some (off, fsz, _) => bif Nat.beq fsz 0 then none else (match d with
    | .rp l j => k (vE t (.rp l (j + off)))
    | .bx s g j => live S s g (k (vE t (.bx s g (j + off))))
    | .op s g z i j => live S s g (k (vE t (.op s g z i (j + off))))
    | _ => none)
  | none => none)
theorem opFa_ok (hX : At X Z nt) {ty f : Nat} {x : Operand} (ho : o.op = .fieldAddr ty x f) (hd : o.dst = some t) (h : opFa Z S t ty f k (S.ev Z nt x) = some r) : ∃ e, k e = some r ∧ EfOk X Z nt o S e := by
  have mx : x ∈ o.op.operands.toList := by rw [ho]; simp [Op.operands]
  have hl1 : lvl o ≠ 0 := by simp [lvl, ho]
  unfold opFa at h
  obtain ⟨q, hq, h9, h⟩ := rowOf_ok h
  obtain ⟨hk, h⟩ := chk_some h
  split at h
  · rename_i off fsz ag hf
    cases hz : Nat.beq fsz 0 with
    | true => rw [hz] at h; cases h
    | false =>
      rw [hz] at h
      simp only [cond_false] at h
      split at h
      · rename_i l j hx
        exact ⟨_, h, efq hd fun h T ha => q_far ho (ha.ev mx hx) (by rw [hX.Z]; exact hq) hk hf hz⟩
      · rename_i s g j hx
        replace h := live_ok h
        obtain ⟨rfl, h⟩ := h
        exact ⟨_, h, efq hd fun h T ha => q_fab ho (ha.ev mx hx) (ha.γ hl1 mx (pl_bx hx)) (by rw [hX.Z]; exact hq) hk hf hz⟩
      · rename_i s g z i j hx
        replace h := live_ok h
        obtain ⟨rfl, h⟩ := h
        exact ⟨_, h, efq hd fun h T ha => q_fao ho (ha.ev mx hx) (ha.γ hl1 mx (pl_op hx)) (by rw [hX.Z]; exact hq) hk hf hz⟩
      · cases h
  · cases h

/-- A number below n, told. -/
def finIx (i : Int) (k : Nat → Option R) : Nat → Nat → Option R
  | 0, _ => none
  | n + 1, a => bif i == (a : Int) then k a else finIx i k n (a + 1)
theorem finIx_ok {i : Int} {k : Nat → Option R} : ∀ {n a : Nat}, finIx i k n a = some r → ∃ j : Nat, i = (j : Int) ∧ j < a + n ∧ k j = some r
  | 0, a, h => by cases h
  | n + 1, a, h => by
    unfold finIx at h
    cases hb : i == (a : Int) with
    | true => rw [hb] at h; exact ⟨a, by simpa using hb, by omega, h⟩
    | false =>
      rw [hb] at h
      obtain ⟨j, h1, h2, h3⟩ := finIx_ok h
      exact ⟨j, h1, by omega, h3⟩
theorem q_iaop {T : St} {ty : TypeId} {x y : Operand} {r q : TRow} {s g z i j : Nat} {k : Int} (ho : o.op = .indexAddr ty x y) (hx : T.ev X x = .op s g z i j) (hg : T.γ s = g) (hy : T.ev X y = .int .i64 k) (h0 : 0 ≤ k)
    (hr : nth X.Z.tab ty = some r) (hk : Nat.beq r.k 2 = true) (h1 : k < r.ln) (hq : nth X.Z.tab r.el = some q) (hq9 : Nat.beq q.k 9 = false) : QOp X o T (.op s g z i (j + k.toNat * q.sz)) := fun κ sv a w hs => by
  have hok := X.Z.tabOk _ _ hr (by intro e; rw [e] at hk; cases hk)
  have hokq := X.Z.tabOk _ _ hq (by intro e; rw [e] at hq9; cases hq9)
  have hyv := rep_int (hy ▸ hs.ev y)
  obtain ⟨b, n, cap, e1, e2⟩ := live_op hs hx hg
  exact ⟨.pointer (some ⟨b, i * z + (j + k.toNat * q.sz), none⟩), .op _ _ _ _ _ _ (by omega) (fun _ => ⟨b, n, cap, e1, rfl⟩) rfl, fun w' _ => by
    simp [execOp, ho, e2, hyv, Instr.indexAt, asIntOf, run_underlying (array_row hok hk), Instr.sureAddr, h0, h1, run_size_row hokq, addr_add, Nat.add_assoc]⟩
def opIa (Z : ISeat) (S : IS) (t ty : Nat) (k : Ef → Option R) (d y : I) : Option R := rowOf Z ty fun q => rowOf Z q.el fun q2 => match y with
  | .int .i64 i => (match d with
    | .sl e l => chk (Nat.beq q.k 3) (chk (Nat.beq q2.sz (sz e)) (chk (decide (0 ≤ i) && decide (i < l.length)) (k (vE t (.rp (rowI e l i.toNat) 0)))))
    | .os s g => live S s g (match S.own s with
      | .arr _ e l => chk (Nat.beq q.k 3) (chk (Nat.beq q2.sz (sz e)) (chk (decide (0 ≤ i) && decide (i < l.length)) (k (vE t (.op s g (sz e) i.toNat 0)))))
      | _ => none)
    | .bx s g j => live S s g (chk (Nat.beq q.k 2) (finIx i (fun a => k (vE t (.bx s g (j + a * q2.sz)))) q.ln 0))
    | .rp l j => chk (Nat.beq q.k 2) (finIx i (fun a => k (vE t (.rp l (j + a * q2.sz)))) q.ln 0)
    | .op s g z n j => live S s g (chk (Nat.beq q.k 2) (finIx i (fun a => k (vE t (.op s g z n (j + a * q2.sz)))) q.ln 0))
    | _ => none)
  | _ => none
theorem opIa_ok (hX : At X Z nt) {ty : Nat} {x y : Operand} (ho : o.op = .indexAddr ty x y) (hd : o.dst = some t) (h : opIa Z S t ty k (S.ev Z nt x) (S.ev Z nt y) = some r) : ∃ e, k e = some r ∧ EfOk X Z nt o S e := by
  have mx : x ∈ o.op.operands.toList := by rw [ho]; simp [Op.operands]
  have my : y ∈ o.op.operands.toList := by rw [ho]; simp [Op.operands]
  have hl2 : lvl o = 2 := by simp [lvl, ho]
  have hl1 : lvl o ≠ 0 := by rw [hl2]; simp
  unfold opIa at h
  obtain ⟨q, hq, h9, h⟩ := rowOf_ok h
  obtain ⟨q2, hq2, h92, h⟩ := rowOf_ok h
  have hq' : nth X.Z.tab ty = some q := by rw [hX.Z]; exact hq
  have hq2' : nth X.Z.tab q.el = some q2 := by rw [hX.Z]; exact hq2
  split at h
  · rename_i i hy
    split at h
    · rename_i e l hx
      obtain ⟨h3, h⟩ := chk_some h
      obtain ⟨hz, h⟩ := chk_some h
      obtain ⟨hi, h⟩ := chk_some h
      simp only [Bool.and_eq_true, decide_eq_true_eq] at hi
      refine ⟨_, h, efq hd fun h T ha => ?_⟩
      have := q_ia ho (ha.ev mx hx) (ha.ev my hy) hi.1 (by simpa using hi.2) hq' h3 hq2' h92 (Nat.eq_of_beq_eq_true hz)
      simp only [I.toD, rowI, toDL_enc]
      exact this
    · rename_i s g hx
      replace h := live_ok h
      obtain ⟨rfl, h⟩ := h
      split at h
      · rename_i E e l hσ
        obtain ⟨h3, h⟩ := chk_some h
        obtain ⟨hz, h⟩ := chk_some h
        obtain ⟨hi, h⟩ := chk_some h
        simp only [Bool.and_eq_true, decide_eq_true_eq] at hi
        exact ⟨_, h, efq hd fun h T ha => q_iao ho (ha.ev mx hx) (ha.γ hl1 mx (pl_os hx)) ((ha.σ hl2 mx (pl_os hx)).trans (by rw [hσ]; rfl)) (ha.ev my hy) hi.1 (by simpa using hi.2) hq' h3 hq2' h92 (Nat.eq_of_beq_eq_true hz)⟩
      · cases h
    · rename_i s g j hx
      replace h := live_ok h
      obtain ⟨rfl, h⟩ := h
      obtain ⟨h2, h⟩ := chk_some h
      obtain ⟨a, rfl, ha, h⟩ := finIx_ok h
      exact ⟨_, h, efq hd fun h T hT => by
        have := q_iab ho (hT.ev mx hx) (hT.γ hl1 mx (pl_bx hx)) (hT.ev my hy) (by omega) hq' h2 (by omega) hq2' h92
        simpa [I.toD] using this⟩
    · rename_i l j hx
      obtain ⟨h2, h⟩ := chk_some h
      obtain ⟨a, rfl, ha, h⟩ := finIx_ok h
      exact ⟨_, h, efq hd fun h T hT => by
        have := q_iar ho (hT.ev mx hx) (hT.ev my hy) (by omega) hq' h2 (by omega) hq2' h92
        simpa [I.toD] using this⟩
    · rename_i s g z n j hx
      replace h := live_ok h
      obtain ⟨rfl, h⟩ := h
      obtain ⟨h2, h⟩ := chk_some h
      obtain ⟨a, rfl, ha, h⟩ := finIx_ok h
      exact ⟨_, h, efq hd fun h T hT => by
        have := q_iaop ho (hT.ev mx hx) (hT.γ hl1 mx (pl_op hx)) (hT.ev my hy) (by omega) hq' h2 (by omega) hq2' h92
        simpa [I.toD] using this⟩
    · cases h
  · cases h

theorem q_idxc {T : St} {ty : TypeId} {x y : Operand} {q q2 : TRow} {l : List D} {d : D} {a : Int} (ho : o.op = .index ty x y) (hx : T.ev X x = .agg l) (hy : T.ev X y = .int .i64 a) (h0 : 0 ≤ a)
    (hr : nth X.Z.tab ty = some q) (hk : Nat.beq q.k 2 = true) (h1 : a < q.ln) (hq : nth X.Z.tab q.el = some q2) (h9 : Nat.beq q2.k 9 = false) (hqk : (Nat.beq q2.k 1 || Nat.beq q2.k 2) = false) (hm : nth l (a.toNat * q2.sz) = some d) : QOp X o T d := fun κ sv ac w hs => by
  have hok := X.Z.tabOk _ _ hr (by intro e; rw [e] at hk; cases hk)
  have hokq := X.Z.tabOk _ _ hq (by intro e; rw [e] at h9; cases h9)
  have hyv := rep_int (hy ▸ hs.ev y)
  obtain ⟨vs, e1, hl⟩ := ev_agg hs hx
  obtain ⟨iq, dq, hiq, hdq, hsq, _⟩ := row_info hokq
  rw [nth_eq] at hm
  obtain ⟨v, hv, hrep⟩ := hl.get hm
  refine ⟨v, hrep, fun w' _ => ?_⟩
  have hagg : (isAgg q.el).run X.Z.P w' = .ok false w' := by rw [run_isAgg hdq, aggOf_k hokq, hqk]
  simp [execOp, ho, e1, hyv, Instr.index, asIntOf, run_underlying (array_row hok hk), h0, h1, run_size_row hokq, part, hagg, hv]
def opIx (Z : ISeat) (t ty : Nat) (k : Ef → Option R) (d y : I) : Option R := match d, y with
  | .agg l, .int .i64 i => rowOf Z ty fun q => rowOf Z q.el fun q2 => chk (Nat.beq q.k 2) (finIx i (fun a => ldC q2 t l (a * q2.sz) k) q.ln 0)
  | _, _ => none
theorem opIx_ok (hX : At X Z nt) {ty : Nat} {x y : Operand} (ho : o.op = .index ty x y) (hd : o.dst = some t) (h : opIx Z t ty k (S.ev Z nt x) (S.ev Z nt y) = some r) : ∃ e, k e = some r ∧ EfOk X Z nt o S e := by
  have mx : x ∈ o.op.operands.toList := by rw [ho]; simp [Op.operands]
  have my : y ∈ o.op.operands.toList := by rw [ho]; simp [Op.operands]
  unfold opIx at h
  split at h
  · rename_i l i hx hy
    obtain ⟨q, hq, h9, h⟩ := rowOf_ok h
    obtain ⟨q2, hq2, h92, h⟩ := rowOf_ok h
    have hq' : nth X.Z.tab ty = some q := by rw [hX.Z]; exact hq
    have hq2' : nth X.Z.tab q.el = some q2 := by rw [hX.Z]; exact hq2
    obtain ⟨h2, h⟩ := chk_some h
    obtain ⟨a, rfl, ha, h⟩ := finIx_ok h
    rcases ldC_ok h with ⟨hk, m, hm, h⟩ | ⟨hk, d, hm, h⟩
    · exact ⟨_, h, efq hd fun h T hT => q_idx ho (hT.ev mx hx) (hT.ev my hy) (by omega) hq' h2 (by omega) hq2' hk (by rw [drop_map]; simpa using take_map h hm)⟩
    · exact ⟨_, h, efq hd fun h T hT => q_idxc ho (hT.ev mx hx) (hT.ev my hy) (by omega) hq' h2 (by omega) hq2' h92 hk (by simpa using nth_map h hm)⟩
  · cases h

def opNc (S : IS) (t : Nat) (k : Ef → Option R) : I → Option R
  | .bx s g j => live S s g (k (vE t (.bx s g j)))
  | .rp l j => k (vE t (.rp l j))
  | .op s g z i j => live S s g (k (vE t (.op s g z i j)))
  | _ => none
theorem opNc_ok {x : Operand} (ho : o.op = .nilCheck x) (hd : o.dst = some t) (h : opNc S t k (S.ev Z nt x) = some r) : ∃ e, k e = some r ∧ EfOk X Z nt o S e := by
  have mx : x ∈ o.op.operands.toList := by rw [ho]; simp [Op.operands]
  have hl1 : lvl o ≠ 0 := by simp [lvl, ho]
  unfold opNc at h
  split at h
  · rename_i s g j hx
    replace h := live_ok h
    obtain ⟨rfl, h⟩ := h
    exact ⟨_, h, efq hd fun h T ha => q_nck ho (ha.ev mx hx) (ha.γ hl1 mx (pl_bx hx))⟩
  · rename_i l j hx
    exact ⟨_, h, efq hd fun h T ha => q_nckr ho (ha.ev mx hx)⟩
  · rename_i s g z i j hx
    replace h := live_ok h
    obtain ⟨rfl, h⟩ := h
    exact ⟨_, h, efq hd fun h T ha => q_ncko ho (ha.ev mx hx) (ha.γ hl1 mx (pl_op hx))⟩
  · cases h

/- Built-in functions. -/
def opLen (Z : ISeat) (S : IS) (t : Nat) (ts : Array TypeId) (k : Ef → Option R) (d : I) : Option R := match ts[0]? with
  | some ty => rowOf Z ty fun q => chk (Nat.beq q.k 3) (match d with
    | .sl _ l => k (vE t (.int .i64 l.length))
    | .nil => k (vE t (.int .i64 0))
    | .os s g => live S s g (match S.own s with
      | .arr _ _ l => k (vE t (.int .i64 l.length))
      | _ => none)
    | _ => none)
  | none => none
theorem opLen_ok (hX : At X Z nt) {x : Operand} {ts : Array TypeId} (ho : o.op = .call { callee := .builtin .len, args := #[x], argTypes := ts }) (hd : o.dst = some t) (h : opLen Z S t ts k (S.ev Z nt x) = some r) : ∃ e, k e = some r ∧ EfOk X Z nt o S e := by
  have mx : x ∈ o.op.operands.toList := by rw [ho]; simp [Op.operands, Call.operands]
  have hl2 : lvl o = 2 := by simp [lvl, ho]
  have hl1 : lvl o ≠ 0 := by rw [hl2]; simp
  unfold opLen at h
  split at h
  · rename_i ty hT
    obtain ⟨q, hq, h9, h⟩ := rowOf_ok h
    obtain ⟨h3, h⟩ := chk_some h
    have hq' : nth X.Z.tab ty = some q := by rw [hX.Z]; exact hq
    split at h
    · rename_i e l hx
      exact ⟨_, h, efq hd fun h T ha => q_len ho hT (ha.ev mx hx) hq' h3⟩
    · rename_i hx
      exact ⟨_, h, efq hd fun h T ha => q_len0 ho hT (ha.ev mx hx) hq' h3⟩
    · rename_i s g hx
      replace h := live_ok h
      obtain ⟨rfl, h⟩ := h
      split at h
      · rename_i E e l hσ
        exact ⟨_, h, efq hd fun h T ha => q_leno ho hT (ha.ev mx hx) (ha.γ hl1 mx (pl_os hx)) ((ha.σ hl2 mx (pl_os hx)).trans (by rw [hσ]; rfl)) hq' h3⟩
      · cases h
    · cases h
  · cases h
def opMm (t : Nat) (mx : Bool) (k : Ef → Option R) : I → I → Option R
  | .int .i64 a, .int .i64 b => bif mx then k (vE t (.int .i64 (max a b))) else k (vE t (.int .i64 (min a b)))
  | _, _ => none
theorem opMin_ok {x y : Operand} {ts : Array TypeId} (ho : o.op = .call { callee := .builtin .min, args := #[x, y], argTypes := ts }) (hd : o.dst = some t) (h : opMm t false k (S.ev Z nt x) (S.ev Z nt y) = some r) : ∃ e, k e = some r ∧ EfOk X Z nt o S e := by
  have mx : x ∈ o.op.operands.toList := by rw [ho]; simp [Op.operands, Call.operands]
  have my : y ∈ o.op.operands.toList := by rw [ho]; simp [Op.operands, Call.operands]
  unfold opMm at h
  split at h
  · rename_i a b hx hy
    exact ⟨_, h, efq hd fun h T ha => q_min ho (ha.ev mx hx) (ha.ev my hy)⟩
  · cases h
theorem opMax_ok {x y : Operand} {ts : Array TypeId} (ho : o.op = .call { callee := .builtin .max, args := #[x, y], argTypes := ts }) (hd : o.dst = some t) (h : opMm t true k (S.ev Z nt x) (S.ev Z nt y) = some r) : ∃ e, k e = some r ∧ EfOk X Z nt o S e := by
  have mx : x ∈ o.op.operands.toList := by rw [ho]; simp [Op.operands, Call.operands]
  have my : y ∈ o.op.operands.toList := by rw [ho]; simp [Op.operands, Call.operands]
  unfold opMm at h
  split at h
  · rename_i a b hx hy
    exact ⟨_, h, efq hd fun h T ha => q_max ho (ha.ev mx hx) (ha.ev my hy)⟩
  · cases h

theorem evs_map {h : Nat → Nat} {T : St} (ha : Ag X Z nt S h T o) {l : List Operand} (hm : ∀ x ∈ l, x ∈ o.op.operands.toList) : l.map (T.ev X) = I.toDL h (l.map (S.ev Z nt)) := by
  rw [toDL_map, List.map_map]
  exact List.map_congr_left fun x hx => ha.ev (hm x hx) rfl
def opMf (Z : ISeat) (nt : Nat) (S : IS) (t : Nat) (fn : Fn) (first cap : Array Operand) (k : Ef → Option R) : Option R := match fn with
  | .func f => bif Nat.beq first.toList.length 0 then k (vE t (.fn f (cap.toList.map (S.ev Z nt)))) else chk (Nat.beq cap.toList.length 0) (k (vE t (.mf f (first.toList.map (S.ev Z nt)))))
  | _ => none
theorem arr_nil {α : Type} {a : Array α} (h : Nat.beq a.toList.length 0 = true) : a = #[] := by
  have := Nat.eq_of_beq_eq_true h
  apply Array.eq_empty_of_size_eq_zero; simpa using this
theorem opMf_ok {fn : Fn} {first cap : Array Operand} (ho : o.op = .makeFunc fn first cap) (hd : o.dst = some t) (h : opMf Z nt S t fn first cap k = some r) : ∃ e, k e = some r ∧ EfOk X Z nt o S e := by
  unfold opMf at h
  split at h
  · rename_i f
    cases hb : Nat.beq first.toList.length 0 with
    | true =>
      rw [hb] at h
      have e := arr_nil hb
      subst e
      refine ⟨_, h, efq hd fun h T ha => ?_⟩
      have := q_fn (X := X) (S := T) ho
      rw [evs_map ha (fun x hx => by rw [ho]; simpa [Op.operands] using hx)] at this
      exact this
    | false =>
      rw [hb] at h
      obtain ⟨hb, h⟩ := chk_some h
      have e := arr_nil hb
      subst e
      refine ⟨_, h, efq hd fun h T ha => ?_⟩
      have := q_mf (X := X) (S := T) ho
      rw [evs_map ha (fun x hx => by rw [ho]; simpa [Op.operands] using hx)] at this
      exact this
  · cases h

/- Boxes. -/
def boxE (S : IS) (s : Nat) (l : List I) : Ef := ⟨some s, .bx s (S.gen s + 1) 0, some (s, S.gen s + 1), some (s, .box l)⟩
theorem boxed_eff {h : Nat → Nat} {T : St} {s : Nat} {l : List I} (hγ : T.γ s = h s + S.gen s) : T.boxed s (I.toDL h l) = T.app (boxE S s l).wr ((boxE S s l).vl h) := by
  unfold St.boxed St.app boxE Ef.wr Ef.vl
  rw [hγ]; rfl
def opBx (S : IS) (t : Nat) (k : Ef → Option R) (d : I) : Option R := chk (allC d.cells) (k (boxE S t d.cells))
theorem opBx_ok {ty : Nat} {x : Operand} (ho : o.op = .box ty x) (hd : o.dst = some t) (h : opBx S t k (S.ev Z nt x) = some r) : ∃ e, k e = some r ∧ EfOk X Z nt o S e := by
  have mx : x ∈ o.op.operands.toList := by rw [ho]; simp [Op.operands]
  unfold opBx at h
  obtain ⟨hc, h⟩ := chk_some h
  refine ⟨_, h, fun h T ha hg => ?_⟩
  rw [← boxed_eff (hg _ rfl), ← cells_toD]
  exact opOk_n (n_box ho hd (ha.ev mx rfl) (by rw [cells_toD, allC_toDL]; exact hc))
def opAl (Z : ISeat) (S : IS) (t ty : Nat) (k : Ef → Option R) : Option R := rowOf Z ty fun q => k (boxE S t (q.zs.map zI))
theorem opAl_ok (hX : At X Z nt) {ty : Nat} (ho : o.op = .alloc ty) (hd : o.dst = some t) (h : opAl Z S t ty k = some r) : ∃ e, k e = some r ∧ EfOk X Z nt o S e := by
  unfold opAl at h
  obtain ⟨q, hq, h9, h⟩ := rowOf_ok h
  refine ⟨_, h, fun h T ha hg => ?_⟩
  rw [← boxed_eff (hg _ rfl), zI_toDL]
  exact opOk_n (n_alloc ho hd (by rw [hX.Z]; exact hq) h9)

/- Stores. -/
theorem nilIL_rel (h : Nat → Nat) : ∀ {l m : List I}, NilIL l m → NilL (I.toDL h l) (I.toDL h m)
  | _, _, .nil => trivial
  | _, _, .cons (.same d) h2 => ⟨.inl rfl, nilIL_rel h h2⟩
  | _, _, .cons (.nil t) h2 => ⟨.inr ⟨rfl, sz t, fun i => encD t (([] : List (den t)).getD i (dflt t)), rfl⟩, nilIL_rel h h2⟩
def stE (s : Nat) (ow : IOwn) : Ef := ⟨none, .undef, none, some (s, ow)⟩
def opSt (Z : ISeat) (S : IS) (ty : Nat) (k : Ef → Option R) (p d : I) : Option R := rowOf Z ty fun q => chk (allC d.cells) (chk (Nat.beq d.cells.length q.sz) (match p with
  | .bx s g j => live S s g (match S.own s with
    | .box l => (match overP l j d.cells with | some l' => k (stE s (.box l')) | none => none)
    | _ => none)
  | .op s g z i j => live S s g (match S.own s with
    | .arr E e l => chk (Nat.beq z (sz e)) (chk (decide (i < l.length)) (match overP (rowI e l i) j d.cells with
      | some l' => (match decC e l' with | some x => k (stE s (.arr E e (l.set i x))) | none => k (stE s (.arrp E e l i l')))
      | none => none))
    | _ => none)
  | _ => none))
theorem opSt_ok (hX : At X Z nt) {ty : Nat} {x y : Operand} (ho : o.op = .store ty x y) (hd : o.dst = none) (h : opSt Z S ty k (S.ev Z nt x) (S.ev Z nt y) = some r) : ∃ e, k e = some r ∧ EfOk X Z nt o S e := by
  have mx : x ∈ o.op.operands.toList := by rw [ho]; simp [Op.operands]
  have my : y ∈ o.op.operands.toList := by rw [ho]; simp [Op.operands]
  have hl2 : lvl o = 2 := by simp [lvl, ho]
  have hl1 : lvl o ≠ 0 := by rw [hl2]; simp
  unfold opSt at h
  obtain ⟨q, hq, h9, h⟩ := rowOf_ok h
  obtain ⟨hc, h⟩ := chk_some h
  obtain ⟨hsz, h⟩ := chk_some h
  have hq' : nth X.Z.tab ty = some q := by rw [hX.Z]; exact hq
  have hsz := Nat.eq_of_beq_eq_true hsz
  have hc' : ∀ h : Nat → Nat, allCell ((S.ev Z nt y).toD h).cells = true := fun h => by rw [cells_toD, allC_toDL]; exact hc
  have hn' : ∀ h : Nat → Nat, ((S.ev Z nt y).toD h).cells.length = q.sz := fun h => by rw [cells_toD, toDL_len]; exact hsz
  split at h
  · rename_i s g j hx
    replace h := live_ok h
    obtain ⟨rfl, h⟩ := h
    split at h
    · rename_i l hσ
      split at h
      · rename_i l' hl
        refine ⟨_, h, fun h T ha hg => ?_⟩
        have := n_stb ho (ha.ev mx hx) (ha.γ hl1 mx (pl_bx hx)) ((ha.σ hl2 mx (pl_bx hx)).trans (by rw [hσ]; rfl)) (ha.ev my rfl) (hc' h) hq' h9 (hn' h) (by rw [cells_toD]; exact over_map h hl) hd
        exact opOk_n this
      · cases h
    · cases h
  · rename_i s g z i j hx
    replace h := live_ok h
    obtain ⟨rfl, h⟩ := h
    split at h
    · rename_i E e l hσ
      obtain ⟨hz0, h2⟩ := chk_some h
      obtain ⟨hi0, h3⟩ := chk_some h2
      clear h h2
      have hz := Nat.eq_of_beq_eq_true hz0
      clear hz0
      subst hz
      have hi := of_decide_eq_true hi0
      split at h3
      · rename_i l' hl
        split at h3
        · rename_i v hv
          refine ⟨_, h3, fun h T ha hg => ?_⟩
          have hσT : T.σ s = .arr E (sz e) l.length (fun i => encD e (l.getD i (dflt e))) := (ha.σ hl2 mx (pl_op hx)).trans (by rw [hσ]; rfl)
          have := n_sto ho (ha.ev mx hx) (ha.γ hl1 mx (pl_op hx)) hσT hi (ha.ev my rfl) (hc' h) hq' h9 (hn' h) (k := I.toDL h l') (by rw [cells_toD, ← toDL_enc h]; exact over_map h hl) hd
          refine OpOk.wk (opOk_n this) ?_
          have hw := wk_arrN (X := X) (S := ⟨T.ρ, T.γ, upd T.σ s (.arr E (sz e) l.length (updF (fun i => encD e (l.getD i (dflt e))) i (I.toDL h l')))⟩) s (E := E) (z := sz e) (n := l.length) (f := updF (fun i => encD e (l.getD i (dflt e))) i (I.toDL h l')) (fun i' => encD e ((l.set i v).getD i' (dflt e))) (upd_same _ _ _) (fun i' hi' => by
            by_cases e1 : i' = i
            · subst e1
              rw [updF_same, List.getD_eq_getElem?_getD, List.getElem?_set_self hi, ← toDL_enc h]
              exact nilIL_rel h (decC_ok e hv)
            · rw [updF_ne _ _ e1]
              rw [List.getD_eq_getElem?_getD, List.getD_eq_getElem?_getD, List.getElem?_set_ne (fun h => e1 h.symm)]
              exact nilL_refl _)
          have e2 : (⟨T.ρ, T.γ, upd (upd T.σ s (.arr E (sz e) l.length (updF (fun i => encD e (l.getD i (dflt e))) i (I.toDL h l')))) s (.arr E (sz e) l.length (fun i' => encD e ((l.set i v).getD i' (dflt e))))⟩ : St) = T.app (stE s (.arr E e (l.set i v))).wr ((stE s (.arr E e (l.set i v))).vl h) := by
            unfold St.app stE Ef.wr Ef.vl
            simp only [Option.map_some, Option.map_none, updO, IOwn.toOwn, List.length_set]
            congr 1
            funext j
            simp only [upd]
            cases Nat.beq j s <;> rfl
          rw [e2] at hw
          exact hw
        · refine ⟨_, h3, fun h T ha hg => ?_⟩
          have hσT : T.σ s = .arr E (sz e) l.length (fun i => encD e (l.getD i (dflt e))) := (ha.σ hl2 mx (pl_op hx)).trans (by rw [hσ]; rfl)
          have := n_sto ho (ha.ev mx hx) (ha.γ hl1 mx (pl_op hx)) hσT hi (ha.ev my rfl) (hc' h) hq' h9 (hn' h) (k := I.toDL h l') (by rw [cells_toD, ← toDL_enc h]; exact over_map h hl) hd
          exact opOk_n this
      · cases h3
    · cases h
  · cases h
end
end Go.Ab


/- Slices: made, written out, grown, by computing. -/
namespace Go.Ab
open Go Go.RowKit
set_option linter.all false
set_option maxHeartbeats 1000000

section
variable {X : Ctx} {o : Oper} {T : St} {ty : TypeId} {q q2 : TRow}
/-- append to nil. -/
theorem n_app0 {x y : Operand} {z m t : Nat} {E : TypeId} {f : Nat → List D} {ts : Array TypeId} (ho : o.op = .call { callee := .builtin .append, args := #[x, y], argTypes := ts }) (hts : ts = #[ty, ty]) (hd : o.dst = some t)
    (hx : T.ev X x = .nil) (hy : T.ev X y = .sl z m f)
    (hr : nth X.Z.tab ty = some q) (hk : Nat.beq q.k 3 = true) (hE : q.el = E) (hq : nth X.Z.tab E = some q2) (hq9 : Nat.beq q2.k 9 = false) (hz : q2.sz = z) (hzs : Nat.beq q2.zs.length z = true) (hz0 : Nat.beq z 0 = false)
    (hb : m * q2.bytes ≤ 140737488355328) (hm : m ≤ 140737488355328) :
    NOp X o T (T.owned t t (.arr E z m f)) := fun κ sv a w hs => by
  subst hts
  have hokr := X.Z.tabOk _ _ hr (by intro e; rw [e] at hk; cases hk)
  have hokq := X.Z.tabOk _ _ hq (by intro e; rw [e] at hq9; cases hq9)
  obtain ⟨iq, dq, hiq, hdq, hsq, hbq, ⟨zv, hzv, hzf⟩, _⟩ := row_info hokq
  have hu := slice_row hokr hk
  rw [hE] at hu
  have hown : w.ownsRow X.w0.heap.size E z (.slice none 0 0) 0 [] := World.ownsRow_nil _ _ _ _
  have hxe : a.eval x = .slice none 0 0 := by
    have hxv := hs.ev x
    rw [hx] at hxv
    generalize a.eval x = v at hxv
    cases hxv; rfl
  have hyv := hs.ev y
  rw [hy] at hyv
  have hzl : zv.cells.size = z := by have := zr_len hzf; have h2 := Nat.eq_of_beq_eq_true hzs; simp at this; omega
  have hz1 : 0 < z := by
    cases z with
    | zero => cases hz0
    | succ z => omega
  have hle : ∀ pv, Le κ κ T.γ (upd T.γ t (T.γ t + 1)) sv (upd sv t pv) := le_renew κ T.γ sv t
  rw [hd]
  have bl : ∀ {w' : World}, w.grownBy w' (Value.slice none 0 0).ownBlock → Below w.heap.size w w' := fun hgr => ⟨hgr.os, hgr.tape, hgr.output, hgr.size, fun k hk => hgr.block k hk (by simp [Value.ownBlock])⟩
  generalize hye : a.eval y = yv at hyv
  cases hyv with
  | sl0 =>
    have hrun := run_append_owned_none (P := X.Z.P) (w := w) X.w0.heap.size ty o.type E iq z hu hiq (.slice none 0 0) 0 [] hown
    refine ⟨.slice none 0 0, w, κ, _, .inl ?_, sim_owned hs t t (pv := .slice none 0 0) rfl (below_grown (Below.refl _ _) _) (fun b hb => by cases hb) ?_⟩
    · simp [execOp, ho, resolve, invoke, builtin, hxe, hye, hrun]
    · exact ⟨[], by rw [upd_same]; exact hown, fun i hi => by omega, fun i hi => by omega, fun i hi => by omega⟩
  | slE _ _ ad cap =>
    obtain ⟨v', w', hrun, hown', hgr, hwh⟩ := run_append_where (P := X.Z.P) (w := w) X.w0.heap.size ty o.type E iq zv z q2.bytes hu hiq hzv (by rw [hsq, hz]) (by rw [hbq]) hzl hz1 (.slice none 0 0) 0 [] hown ad 0 cap [] (by simp)
      (fun j v hj => by simp at hj) (fun v hv => by simp at hv) (by unfold maxLen; omega) (by simp) hs.wld.base
    refine ⟨v', w', κ, _, .inl ?_, sim_owned hs t t (pv := v') ?_ (below_grown (bl hgr) _) (fun b' hb' => ?_) ?_⟩
    · simp [execOp, ho, resolve, invoke, builtin, hxe, hye, hrun]
    · rcases hown'.2 with ⟨e, _⟩ | ⟨_, _, _, e, _⟩ <;> rw [e] <;> rfl
    · refine .inl ((hwh b' ?_).resolve_right (by simp [Value.ownBlock]))
      rcases hown'.2 with ⟨e, _⟩ | ⟨_, _, _, e, _⟩ <;> (rw [e] at hb' ⊢; exact hb')
    · refine ⟨_, by rw [upd_same]; exact hown', fun i hi => ?_, fun i hi => ?_, fun i hi => ?_⟩ <;> omega
  | sl _ _ _ b off cap u hmc hlz hac hul hκ =>
    have hulen : ∀ i, i < m → (u i).length = z := fun i hi => by rw [(hul i hi).length, hlz i hi]
    have hnl : (((List.range m).map u).flatten).length = m * z := by
      rw [flat_len _ (z := z) (fun c hc => by
        obtain ⟨k, hk, rfl⟩ := List.mem_map.1 hc
        exact hulen k (by simpa using hk))]
      simp
    have hcellat : ∀ j v, (((List.range m).map u).flatten)[j]? = some v → ∃ i k, i < m ∧ k < z ∧ j = i * z + k ∧ (u i)[k]? = some v := by
      intro j v hj
      have hjl := (List.getElem?_eq_some_iff.1 hj).1
      rw [hnl] at hjl
      have hk : j % z < z := Nat.mod_lt _ hz1
      have hi : j / z < m := (Nat.div_lt_iff_lt_mul hz1).2 hjl
      have e : j = j / z * z + j % z := by rw [Nat.mul_comm]; exact (Nat.div_add_mod j z).symm
      refine ⟨j / z, j % z, hi, hk, e, ?_⟩
      rw [e, flat_at _ (z := z) (fun c hc => by
        obtain ⟨k, hk, rfl⟩ := List.mem_map.1 hc
        exact hulen k (by simpa using hk)) _ _ hk] at hj
      simpa [hi] using hj
    obtain ⟨v', w', hrun, hown', hgr, hwh⟩ := run_append_where (P := X.Z.P) (w := w) X.w0.heap.size ty o.type E iq zv z q2.bytes hu hiq hzv (by rw [hsq, hz]) (by rw [hbq]) hzl hz1 (.slice none 0 0) 0 [] hown ⟨b, off, none⟩ m cap (((List.range m).map u).flatten) hnl
      (fun j v hj => by
        obtain ⟨i, k, hi, hk, rfl, hv⟩ := hcellat j v hj
        rw [addr_add, ← Nat.add_assoc]
        exact hs.wld.imm _ _ _ (hκ i k v hi hv))
      (fun v hv => by
        obtain ⟨j, hj⟩ := List.getElem?_of_mem hv
        obtain ⟨i, k, hi, hk, rfl, hv⟩ := hcellat j v hj
        exact RepL.oneCells (hul i hi) (hac i hi) v (List.mem_of_getElem? hv))
      (by unfold maxLen; omega) (by rw [Nat.zero_add]; exact hb) hs.wld.base
    simp only [Nat.zero_add, List.nil_append] at hown'
    refine ⟨v', w', κ, _, .inl ?_, sim_owned hs t t (pv := v') ?_ (below_grown (bl hgr) _) (fun b' hb' => ?_) ?_⟩
    · simp [execOp, ho, resolve, invoke, builtin, hxe, hye, hrun]
    · rcases hown'.2 with ⟨e, _⟩ | ⟨_, _, _, e, _⟩ <;> rw [e] <;> rfl
    · refine .inl ((hwh b' ?_).resolve_right (by simp [Value.ownBlock]))
      rcases hown'.2 with ⟨e, _⟩ | ⟨_, _, _, e, _⟩ <;> (rw [e] at hb' ⊢; exact hb')
    · refine ⟨_, by rw [upd_same]; exact hown', fun i hi => hlz i hi, fun i hi => hac i hi, fun i hi => ?_⟩
      rw [flat_chunk u m hulen i hi]
      exact (hul i hi).mono (hle _)
end

section
variable {R : Type} {X : Ctx} {Z : ISeat} {nt : Nat} {S : IS} {o : Oper} {r : R} {k : Ef → Option R} {t : Nat}

def opdEq : Operand → Operand → Bool
  | .tmp a, .tmp b => Nat.beq a b
  | .const (.int k m), .const (.int k' n) => decide (k = k') && decide (m = n)
  | _, _ => false
theorem opdEq_eq {x y : Operand} (h : opdEq x y = true) : x = y := by
  unfold opdEq at h
  split at h
  · rw [Nat.eq_of_beq_eq_true h]
  · simp only [Bool.and_eq_true, decide_eq_true_eq] at h
    rw [h.1, h.2]
  · cases h
/-- So many elements of so many bytes may be laid. -/
def fitM (a : Int) (b : Nat) : Bool := decide (0 ≤ a) && decide (a * b ≤ 281474976710656) && decide (a ≤ 281474976710656)
def fitA (n b : Nat) : Bool := decide (n * b ≤ 140737488355328) && decide (n ≤ 140737488355328)
theorem wk_owned {T : St} {t s : Nat} {E z n : Nat} {f : Nat → List D} (f' : Nat → List D) (h : ∀ i, i < n → NilL (f i) (f' i)) : Wk X (T.owned t s (.arr E z n f)) (T.owned t s (.arr E z n f')) := by
  have := wk_arrN (X := X) (S := T.owned t s (.arr E z n f)) s (E := E) (z := z) (n := n) (f := f) f' (upd_same _ _ _) h
  have e : (⟨(T.owned t s (.arr E z n f)).ρ, (T.owned t s (.arr E z n f)).γ, upd (T.owned t s (.arr E z n f)).σ s (.arr E z n f')⟩ : St) = T.owned t s (.arr E z n f') := by
    unfold St.owned
    congr 1
    funext j
    simp only [upd]
    cases Nat.beq j s <;> rfl
  rwa [e] at this
def opMk (Z : ISeat) (S : IS) (t ty : Nat) (x y : Operand) (k : Ef → Option R) (d : I) : Option R := chk (opdEq x y) (match d with
  | .int .i64 a => rowOf Z ty fun q => rowOf Z q.el fun q2 => chk (Nat.beq q.k 3) (match Z.ty q.el with
    | some e => (match decC e (q2.zs.map zI) with
      | some v => chk (fitM a q2.bytes) (k (ownE S t t (.arr q.el e (List.replicate a.toNat v))))
      | none => none)
    | none => none)
  | _ => none)
theorem opMk_ok (hX : At X Z nt) {ty : Nat} {x y : Operand} (ho : o.op = .makeSlice ty x y) (hd : o.dst = some t) (h : opMk Z S t ty x y k (S.ev Z nt x) = some r) : ∃ e, k e = some r ∧ EfOk X Z nt o S e := by
  have mx : x ∈ o.op.operands.toList := by rw [ho]; simp [Op.operands]
  unfold opMk at h
  replace h := chk_some h
  obtain ⟨he, h⟩ := h
  have he := opdEq_eq he
  subst he
  split at h
  · rename_i a hx
    obtain ⟨q, hq, h9, h⟩ := rowOf_ok h
    obtain ⟨q2, hq2, h92, h⟩ := rowOf_ok h
    obtain ⟨h3, h⟩ := chk_some h
    split at h
    · rename_i e hty
      split at h
      · rename_i v hv
        obtain ⟨hf, h⟩ := chk_some h
        simp only [fitM, Bool.and_eq_true, decide_eq_true_eq] at hf
        obtain ⟨_, z1, z2⟩ := Z.ty_ok _ _ _ hty hq2
        refine ⟨_, h, fun h T ha hg => ?_⟩
        rw [← owned_app (hg _ rfl)]
        have := n_make ho hd (ha.ev mx hx) (ha.ev mx hx) hf.1.1 (by rw [hX.Z]; exact hq) h3 rfl (by rw [hX.Z]; exact hq2) h92 z1 (by rw [z2]; exact Nat.beq_refl _) hf.1.2 hf.2
        refine OpOk.wk (opOk_n this) ?_
        simp only [IOwn.toOwn, List.length_replicate]
        refine wk_owned _ fun i hi => ?_
        rw [List.getD_eq_getElem?_getD, List.getElem?_replicate, if_pos hi, ← zI_toDL h, ← toDL_enc h]
        exact nilIL_rel h (decC_ok e hv)
      · cases h
    · cases h
  · cases h

def decRs (e : T) : List (List I) → Option (List (den e))
  | [] => some []
  | c :: l => match decC e c with
    | some x => (match decRs e l with | some xs => some (x :: xs) | none => none)
    | none => none
theorem decRs_ok {e : T} : ∀ {cs : List (List I)} {xs : List (den e)}, decRs e cs = some xs → xs.length = cs.length ∧ ∀ (i : Nat) (x : den e), xs[i]? = some x → ∃ c, cs[i]? = some c ∧ NilIL c (encC e x)
  | [], xs, h => by simp [decRs] at h; subst h; exact ⟨rfl, fun i x h => by simp at h⟩
  | c :: l, xs, h => by
    unfold decRs at h
    split at h
    · rename_i x hx
      split at h
      · rename_i ys hy
        simp only [Option.some.injEq] at h
        subst h
        obtain ⟨h1, h2⟩ := decRs_ok hy
        refine ⟨by simp [h1], fun i y hi => ?_⟩
        cases i with
        | zero => simp at hi; subst hi; exact ⟨c, by simp, decC_ok e hx⟩
        | succ i => simpa using h2 i y (by simpa using hi)
      · cases h
    · cases h
def cellsI (Z : ISeat) (nt : Nat) (S : IS) : List Operand → List (List I)
  | [] => []
  | x :: l => (S.ev Z nt x).cells :: cellsI Z nt S l
def okCI (z : Nat) : List (List I) → Bool
  | [] => true
  | c :: l => Nat.beq c.length z && allC c && okCI z l
theorem cells_map {h : Nat → Nat} {T : St} (ha : Ag X Z nt S h T o) : ∀ {l : List Operand}, (∀ x ∈ l, x ∈ o.op.operands.toList) → evC X T l = (cellsI Z nt S l).map (I.toDL h)
  | [], _ => rfl
  | x :: l, hm => by
    have h1 := cells_map ha (l := l) fun p hp => hm p (List.mem_cons_of_mem _ hp)
    have h3 := ha.ev (hm x (List.mem_cons_self ..)) rfl
    simp only [evC, cellsI, List.map_cons, h1, h3, cells_toD]
theorem okC_map (h : Nat → Nat) (z : Nat) : ∀ l : List (List I), okC z (l.map (I.toDL h)) = okCI z l
  | [] => rfl
  | c :: l => by simp only [List.map_cons, okC, okCI, toDL_len, allC_toDL, okC_map h z l]
def noNils : List (List I) → Bool
  | [] => true
  | c :: l => noNil c && noNils l
/-- A slice written out; never written again if its slot is in fz. -/
def opBs (Z : ISeat) (nt : Nat) (S : IS) (fz : List Nat) (t ty n : Nat) (ps : Array (Nat × Operand)) (k : Ef → Option R) : Option R := rowOf Z ty fun q => rowOf Z q.el fun q2 => chk (Nat.beq q.k 3) (match Z.ty q.el with
  | some e => bif Nat.beq n 0 then chk (Nat.beq ps.toList.length 0) (bif memN t fz then k (ownE S t t (.arr q.el e [])) else k (ownE S t t (.arr q.el e []))) else (match seqP 0 ps.toList with
    | some xs => chk (Nat.beq xs.length n && !(Nat.beq (sz e) 0) && Nat.ble (n * sz e) 16777216 && okCI (sz e) (cellsI Z nt S xs)) (match decRs e (cellsI Z nt S xs) with
      | some l => bif memN t fz then chk (noNils (cellsI Z nt S xs)) (k (vE t (.sl e l))) else k (ownE S t t (.arr q.el e l))
      | none => none)
    | none => none)
  | none => none)
theorem noNils_at : ∀ {cs : List (List I)} {i : Nat} {c : List I}, noNils cs = true → cs[i]? = some c → noNil c = true
  | [], i, c, _, h => by simp at h
  | d :: l, 0, c, hn, h => by simp at h; subst h; simp only [noNils, Bool.and_eq_true] at hn; exact hn.1
  | d :: l, i + 1, c, hn, h => by simp only [noNils, Bool.and_eq_true] at hn; exact noNils_at hn.2 (by simpa using h)
theorem opBs_ok (hX : At X Z nt) {fz : List Nat} {ty n : Nat} {ps : Array (Nat × Operand)} (ho : o.op = .buildSlice ty n ps) (hd : o.dst = some t) (h : opBs Z nt S fz t ty n ps k = some r) : ∃ e, k e = some r ∧ EfOk X Z nt o S e := by
  unfold opBs at h
  obtain ⟨q, hq, h9, h⟩ := rowOf_ok h
  obtain ⟨q2, hq2, h92, h⟩ := rowOf_ok h
  obtain ⟨h3, h⟩ := chk_some h
  have hq' : nth X.Z.tab ty = some q := by rw [hX.Z]; exact hq
  have hq2' : nth X.Z.tab q.el = some q2 := by rw [hX.Z]; exact hq2
  split at h
  · rename_i e hty
    obtain ⟨_, z1, z2⟩ := Z.ty_ok _ _ _ hty hq2
    cases hn : Nat.beq n 0 with
    | true =>
      rw [hn] at h
      have hn0 := Nat.eq_of_beq_eq_true hn
      subst hn0
      simp only [cond_true] at h
      obtain ⟨hp, h⟩ := chk_some h
      have hp := arr_nil hp
      have h : k (ownE S t t (.arr q.el e [])) = some r := by
        cases hm : memN t fz <;> (rw [hm] at h; exact h)
      refine ⟨_, h, fun h T ha hg => ?_⟩
      rw [← owned_app (hg _ rfl)]
      exact opOk_n (n_bsl0 _ ho hd hp hq' h3 rfl hq2' h92 z1)
    | false =>
      rw [hn] at h
      simp only [cond_false] at h
      split at h
      · rename_i xs hxs
        obtain ⟨hc, h⟩ := chk_some h
        simp only [Bool.and_eq_true, Bool.not_eq_true'] at hc
        obtain ⟨⟨⟨c1, c2⟩, c3⟩, c4⟩ := hc
        have hmem : ∀ x ∈ xs, x ∈ o.op.operands.toList := by
          intro x hx
          rw [ho]
          have h1 := seqP_eq hxs
          simp only [Op.operands]
          rw [h1]
          simp only [List.map_map, List.mem_map, Function.comp_apply]
          obtain ⟨i, hi, rfl⟩ := List.getElem_of_mem hx
          exact ⟨(xs[i], i), by rw [List.mk_mem_zipIdx_iff_getElem?]; simp [hi], rfl⟩
        have hlen : n = xs.length := (Nat.eq_of_beq_eq_true c1).symm
        have hcl : (cellsI Z nt S xs).length = xs.length := by
          generalize xs = l
          induction l with
          | nil => rfl
          | cons x l ih => simp [cellsI, ih]
        split at h
        · rename_i l hl
          obtain ⟨e1, e2⟩ := decRs_ok hl
          have hat : ∀ (h : Nat → Nat) i, i < n → ∃ c, nthD ((cellsI Z nt S xs).map (I.toDL h)) i = I.toDL h c ∧ (cellsI Z nt S xs)[i]? = some c ∧ NilIL c (encC e (l.getD i (dflt e))) := fun h i hi => by
            have hil : i < l.length := by omega
            obtain ⟨c, hc1, hc2⟩ := e2 i l[i] (List.getElem?_eq_getElem hil)
            refine ⟨c, ?_, hc1, ?_⟩
            · simp [nthD, nth_eq, hc1]
            · rw [List.getD_eq_getElem?_getD, List.getElem?_eq_getElem hil]; exact hc2
          cases hm : memN t fz with
          | false =>
            rw [hm] at h
            refine ⟨_, h, fun h T ha hg => ?_⟩
            rw [← owned_app (hg _ rfl)]
            have hev := cells_map ha hmem
            have := n_bslo ho hd hxs c1 hq' h3 rfl hq2' h92 z1 c2 hn c3 hev (by rw [okC_map]; exact c4)
            refine OpOk.wk (opOk_n this) ?_
            have hll : n = l.length := by omega
            simp only [IOwn.toOwn]
            rw [← hll]
            refine wk_owned _ fun i hi => ?_
            obtain ⟨c, h1, _, h2⟩ := hat h i hi
            rw [h1, ← toDL_enc h]
            exact nilIL_rel h h2
          | true =>
            rw [hm] at h
            obtain ⟨hnn, h⟩ := chk_some h
            refine ⟨_, h, fun h T ha hg => ?_⟩
            have hev := cells_map ha hmem
            have := n_bsl ho hd hxs c1 hq' h3 rfl hq2' h92 z1 c2 hn c3 hev (by rw [okC_map]; exact c4)
            refine OpOk.wk (opOk_n this) ?_
            have hll : n = l.length := by omega
            have hw := wk_slf (X := X) (S := T.set t (.sl (sz e) n (nthD ((cellsI Z nt S xs).map (I.toDL h))))) t (fun i => encD e (l.getD i (dflt e))) (upd_same _ _ _) (fun i hi => by
              obtain ⟨c, h1, h4, h2⟩ := hat h i hi
              rw [h1, noNil_eq h2 (noNils_at hnn h4), toDL_enc])
            have e3 : (T.set t (.sl (sz e) n (nthD ((cellsI Z nt S xs).map (I.toDL h))))).set t (.sl (sz e) n (fun i => encD e (l.getD i (dflt e)))) = T.app (vE t (.sl e l)).wr ((vE t (.sl e l)).vl h) := by
              unfold St.set St.app vE Ef.wr Ef.vl
              simp only [Option.map_none, updO, I.toD, slD, hll]
              congr 1
              funext j
              simp only [upd]
              cases Nat.beq j t <;> rfl
            rw [e3] at hw
            exact hw
        · cases h
      · cases h
  · cases h

/- append. -/
def opAp (Z : ISeat) (S : IS) (t : Nat) (ts : Array TypeId) (k : Ef → Option R) (d y : I) : Option R := match ts.toList with
  | [ty, ty'] => chk (Nat.beq ty ty') (rowOf Z ty fun q => rowOf Z q.el fun q2 => chk (Nat.beq q.k 3) (match y with
    | .sl e' m => (match d with
      | .os s g => live S s g (match S.own s with
        | .arr E e l => chk (Nat.beq q.el E && Nat.beq q2.sz (sz e) && Nat.beq q2.zs.length (sz e) && !(Nat.beq (sz e) 0)) (match asL e e' m with
          | some m => chk (fitA (l.length + m.length) q2.bytes) (k (ownE S t s (.arr E e (l ++ m))))
          | none => none)
        | _ => none)
      | .nil => chk (Nat.beq q2.sz (sz e') && Nat.beq q2.zs.length (sz e') && !(Nat.beq (sz e') 0)) (chk (fitA m.length q2.bytes) (k (ownE S t t (.arr q.el e' m))))
      | _ => none)
    | _ => none))
  | _ => none
theorem opAp_ok (hX : At X Z nt) {x y : Operand} {ts : Array TypeId} (ho : o.op = .call { callee := .builtin .append, args := #[x, y], argTypes := ts }) (hd : o.dst = some t) (h : opAp Z S t ts k (S.ev Z nt x) (S.ev Z nt y) = some r) : ∃ e, k e = some r ∧ EfOk X Z nt o S e := by
  have mx : x ∈ o.op.operands.toList := by rw [ho]; simp [Op.operands, Call.operands]
  have my : y ∈ o.op.operands.toList := by rw [ho]; simp [Op.operands, Call.operands]
  have hl2 : lvl o = 2 := by simp [lvl, ho]
  have hl1 : lvl o ≠ 0 := by rw [hl2]; simp
  unfold opAp at h
  split at h
  · rename_i ty ty' hts
    replace h := chk_some h
    obtain ⟨he, h⟩ := h
    have he := Nat.eq_of_beq_eq_true he
    subst he
    have hts : ts = #[ty, ty] := by
      have : ts = ts.toList.toArray := by simp
      rw [this, hts]
    obtain ⟨q, hq, h9, h⟩ := rowOf_ok h
    obtain ⟨q2, hq2, h92, h⟩ := rowOf_ok h
    obtain ⟨h3, h⟩ := chk_some h
    have hq' : nth X.Z.tab ty = some q := by rw [hX.Z]; exact hq
    have hq2' : nth X.Z.tab q.el = some q2 := by rw [hX.Z]; exact hq2
    split at h
    · rename_i e' m hy
      split at h
      · rename_i s g hx
        replace h := live_ok h
        obtain ⟨rfl, h⟩ := h
        split at h
        · rename_i E e l hσ
          obtain ⟨hc, h⟩ := chk_some h
          simp only [Bool.and_eq_true, Bool.not_eq_true'] at hc
          obtain ⟨⟨⟨c1, c2⟩, c3⟩, c4⟩ := hc
          have hE := Nat.eq_of_beq_eq_true c1
          split at h
          · rename_i m' hm
            obtain ⟨hf, h⟩ := chk_some h
            simp only [fitA, Bool.and_eq_true, decide_eq_true_eq] at hf
            have hy' : S.ev Z nt y = .sl e m' := by rw [hy]; exact asL_eq hm
            refine ⟨_, h, fun h T ha hg => ?_⟩
            rw [← owned_app (hg _ rfl)]
            have := n_app (S := T) ho hts hd (ha.ev mx hx) (ha.γ hl1 mx (pl_os hx)) ((ha.σ hl2 mx (pl_os hx)).trans (by rw [hσ]; rfl)) (ha.ev my hy') hq' h3 hE (by rw [← hE]; exact hq2') h92 (Nat.eq_of_beq_eq_true c2) c3 c4 hf.1 hf.2
              (f' := fun i => encD e ((l ++ m').getD i (dflt e))) (n' := (l ++ m').length) (by simp) (fun i hi => by
                simp only [List.getD_eq_getElem?_getD]; rw [List.getElem?_append_left hi]) (fun i hi => by
                simp only [List.getD_eq_getElem?_getD]; rw [List.getElem?_append_right (by omega), Nat.add_sub_cancel_left])
            exact opOk_n this
          · cases h
        · cases h
      · rename_i hx
        obtain ⟨hc, h⟩ := chk_some h
        simp only [Bool.and_eq_true, Bool.not_eq_true'] at hc
        obtain ⟨⟨c2, c3⟩, c4⟩ := hc
        obtain ⟨hf, h⟩ := chk_some h
        simp only [fitA, Bool.and_eq_true, decide_eq_true_eq] at hf
        refine ⟨_, h, fun h T ha hg => ?_⟩
        rw [← owned_app (hg _ rfl)]
        exact opOk_n (n_app0 ho hts hd (ha.ev mx hx) (ha.ev my hy) hq' h3 rfl hq2' h92 (Nat.eq_of_beq_eq_true c2) c3 c4 hf.1 hf.2)
      · cases h
    · cases h
  · cases h
end
end Go.Ab

