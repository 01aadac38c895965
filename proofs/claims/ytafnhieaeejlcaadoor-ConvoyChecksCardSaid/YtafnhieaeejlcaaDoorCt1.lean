/- Walks through the functions that the laws of the convoys reach: what each of them gives for what it gets (contracts), written out by a program of ours; without a condition but those that stand in each theorem. -/
import Derived.Test.YtafnhieaeejlcaaDoorCdat
set_option linter.all false
namespace Go.Proofs.YtafnhieaeejlcaaDoor
open Go Go.Ab
set_option maxRecDepth 100000
set_option maxHeartbeats 4000000
attribute [local irreducible] W WL QOp NOp thenQ blockQ FinQ FinR WG FQ Want FinW WI WIL thenI blockI
theorem c64 (a b c : Int) : Contract seat 64 [.int .i64 a, .int .i64 b, .int .i64 c] (.bool (decide (b ≤ a ∧ a ≤ c))) := by
  refine contract_intro (fn := Tryd.f64) Tryd.func64 rfl (by kernel_rfl) rfl ?_ ?_ ?_
  · repeat' first | exact PureL.nil | refine PureL.cons (.int _ _) ?_
  · exact .bool _
  intro w κ
  repeat' (first
    | (apply WL_q; apply Eq.refl; apply Eq.refl; (first | (apply q_mvI <;> apply Eq.refl) | (apply q_cmp <;> apply Eq.refl) | (apply q_mvB <;> apply Eq.refl) | (apply q_asB <;> apply Eq.refl) | (apply q_pkT <;> apply Eq.refl) | (apply q_pkF <;> apply Eq.refl)))
    | apply W_seq
    | apply W_region
    | apply T_normal
    | apply WL_nil
    | apply W_ret
    | (apply WL_yes; apply Eq.refl; apply Eq.refl; apply Eq.refl)
    | (apply WL_no; apply Eq.refl; apply Eq.refl; apply Eq.refl; apply Eq.refl; apply Eq.refl)
    | (apply L_tD; apply Eq.refl; apply Eq.refl; apply Eq.refl; intro _; rotate_left 1; intro _; rotate_left 1))
  all_goals (refine fin_B rfl rfl ?_; simp; try omega)

/-- How far along its way a metre is. -/
def alongI (way len m : Int) : Int := if way = 2 then len - m else m
theorem c107 (t : Truck) (len m : Int) (h0 : -2305843009213693952 ≤ m) (h1 : m ≤ 2305843009213693952) (h2 : -2305843009213693952 ≤ len) (h3 : len ≤ 2305843009213693952) :
    Contract seat 107 [.agg (encRide t len), .int .i64 m] (.int .i64 (alongI t.way len m)) := by
  refine contract_intro (fn := Tryd.f107) Tryd.func107 rfl (by kernel_rfl) rfl ?_ ?_ ?_
  · exact PureL.cons (.agg _ (pure_ride t len)) (PureL.cons (.int _ _) PureL.nil)
  · exact .int _ _
  intro w κ
  repeat' (first
    | (apply WL_q; apply Eq.refl; apply Eq.refl; (first | (apply q_mvI <;> apply Eq.refl) | (apply q_asI <;> apply Eq.refl) | (apply q_ldb <;> apply Eq.refl) | (apply q_fab <;> apply Eq.refl) | (apply q_cmp <;> apply Eq.refl) | (apply q_arith <;> (first | apply Eq.refl | omega))))
    | apply W_seq
    | apply W_region
    | apply T_normal
    | apply WL_nil
    | apply T_ret
    | apply W_skip
    | apply W_ret
    | (apply WL_n; apply Eq.refl; (first | (apply n_boxa <;> apply Eq.refl)))
    | (apply W_cD; apply Eq.refl; intro _; rotate_left 1; intro _; rotate_left 1))
  all_goals (refine fin_I rfl rfl ?_; simp_all [alongI])

def chkHolds (way len : Int) : Option Int → List Hold → Int
  | _, [] => 0
  | p, h :: hs => if ¬ (1 ≤ h.a ∧ h.a ≤ len - 1) ∨ ¬ (0 ≤ h.u ∧ h.u ≤ 10000) then 2 else
    match p with
    | some q => if alongI way len h.a ≤ q then 11 else chkHolds way len (some (alongI way len h.a)) hs
    | none => chkHolds way len (some (alongI way len h.a)) hs
def chkTruck (c : Convoy) (t : Truck) : Int :=
  if ¬ (1 ≤ t.way ∧ t.way ≤ 2) then 4
  else if ¬ (0 ≤ t.start ∧ t.start ≤ 10000) ∨ ¬ (1 ≤ t.lo ∧ t.lo ≤ 1000) ∨ ¬ (1 ≤ t.hi ∧ t.hi ≤ 1000) then 2
  else if t.lo > t.hi then 11
  else if c.len > 1000 * t.lo then 13
  else if c.gap < 2 * t.hi then 12
  else if t.holds.length > 8 then 8
  else chkHolds t.way c.len none t.holds

theorem chkHolds_cons (way len : Int) (p : Option Int) (h : Hold) (hs : List Hold) : chkHolds way len p (h :: hs) = if ¬ (1 ≤ h.a ∧ h.a ≤ len - 1) ∨ ¬ (0 ≤ h.u ∧ h.u ≤ 10000) then 2 else
    match p with
    | some q => if alongI way len h.a ≤ q then 11 else chkHolds way len (some (alongI way len h.a)) hs
    | none => chkHolds way len (some (alongI way len h.a)) hs := by cases p <;> rfl
theorem drop_getD {α : Type} [Inhabited α] (l : List α) (k : Nat) (h : k < l.length) : l.drop k = l.getD k default :: l.drop (k + 1) := by
  rw [List.drop_eq_getElem_cons h]; simp [List.getD, h]
def chkPrev (way len : Int) (hs : List Hold) (k : Nat) : Option Int := if k = 0 then none else some (alongI way len (hs.getD (k - 1) default).a)
def chkInv (way len : Int) (hs : List Hold) (k : Nat) : Prop := k ≤ hs.length ∧ chkHolds way len (chkPrev way len hs k) (hs.drop k) = chkHolds way len none hs ∧
  (0 < k → 1 ≤ (hs.getD (k - 1) default).a ∧ (hs.getD (k - 1) default).a ≤ len - 1)
theorem chkInv_zero (way len : Int) (hs : List Hold) : chkInv way len hs 0 := ⟨Nat.zero_le _, by simp [chkPrev], fun h => by omega⟩
section
variable {way len : Int} {hs : List Hold} {k : Nat}
theorem chk_end (hi : chkInv way len hs k) (h : ¬ k < hs.length) : 0 = chkHolds way len none hs := by
  obtain ⟨h1, h2, _⟩ := hi
  rw [List.drop_eq_nil_of_le (by omega)] at h2
  simpa [chkHolds] using h2
theorem chk_2 (hi : chkInv way len hs k) (h : k < hs.length) (hb : ¬ (1 ≤ (hs.getD k default).a ∧ (hs.getD k default).a ≤ len - 1) ∨ ¬ (0 ≤ (hs.getD k default).u ∧ (hs.getD k default).u ≤ 10000)) : 2 = chkHolds way len none hs := by
  obtain ⟨h1, h2, _⟩ := hi
  rw [drop_getD _ _ h] at h2
  rw [chkHolds_cons] at h2
  rw [if_pos hb] at h2
  exact h2
theorem chk_11 (hi : chkInv way len hs k) (h : k < hs.length) (ha : 1 ≤ (hs.getD k default).a ∧ (hs.getD k default).a ≤ len - 1) (hu : 0 ≤ (hs.getD k default).u ∧ (hs.getD k default).u ≤ 10000) (h0 : 0 < k)
    (hle : alongI way len (hs.getD k default).a ≤ alongI way len (hs.getD (k - 1) default).a) : 11 = chkHolds way len none hs := by
  obtain ⟨h1, h2, _⟩ := hi
  rw [drop_getD _ _ h] at h2
  rw [chkHolds_cons] at h2
  rw [if_neg (by simp only [not_or, Classical.not_not]; exact ⟨ha, hu⟩)] at h2
  simp only [chkPrev, if_neg (show ¬ k = 0 by omega)] at h2
  rw [if_pos hle] at h2
  exact h2
theorem chk_next (hi : chkInv way len hs k) (h : k < hs.length) (ha : 1 ≤ (hs.getD k default).a ∧ (hs.getD k default).a ≤ len - 1) (hu : 0 ≤ (hs.getD k default).u ∧ (hs.getD k default).u ≤ 10000)
    (hle : 0 < k → ¬ alongI way len (hs.getD k default).a ≤ alongI way len (hs.getD (k - 1) default).a) : chkInv way len hs (k + 1) := by
  obtain ⟨h1, h2, _⟩ := hi
  rw [drop_getD _ _ h] at h2
  rw [chkHolds_cons] at h2
  rw [if_neg (by simp only [not_or, Classical.not_not]; exact ⟨ha, hu⟩)] at h2
  refine ⟨h, ?_, fun _ => by simpa using ha⟩
  rw [← h2]
  by_cases e : k = 0
  · subst e; simp [chkPrev]
  · simp only [chkPrev, if_neg e, if_neg (hle (by omega))]; simp
end
theorem c65 (c : Convoy) (t : Truck) (hl : 1 ≤ c.len) (hl2 : c.len ≤ 100000) : Contract seat 65 [.agg (encConvoy c), .agg (encTruck t)] (.int .i64 (chkTruck c t)) := by
  refine contract_intro (fn := Tryd.f65) Tryd.func65 rfl (by kernel_rfl) rfl ?_ ?_ ?_
  · exact PureL.cons (.agg _ (pure_convoy c)) (PureL.cons (.agg _ (pure_truck t)) PureL.nil)
  · exact .int _ _
  intro w κ
  repeat' (first
    | (apply WL_q; apply Eq.refl; apply Eq.refl; (first | (apply q_mvI <;> apply Eq.refl) | (apply q_asI <;> apply Eq.refl) | (apply q_ldb <;> apply Eq.refl) | (apply q_fab <;> apply Eq.refl) | (apply q_cmp <;> apply Eq.refl) | (apply q_mvB <;> apply Eq.refl) | (apply q_asB <;> apply Eq.refl) | (apply q_not <;> apply Eq.refl) | (apply q_ldr <;> apply Eq.refl) | (apply q_far <;> apply Eq.refl) | (apply q_arith <;> (first | apply Eq.refl | omega)) | (apply q_len <;> apply Eq.refl) | (apply q_pkT <;> apply Eq.refl) | (apply q_pkF <;> apply Eq.refl) | (apply q_ia <;> (first | apply Eq.refl | omega)) | (apply q_ldba <;> apply Eq.refl) | (apply q_ldra <;> apply Eq.refl) | (apply q_bld <;> apply Eq.refl)))
    | apply W_seq
    | apply W_region
    | apply T_normal
    | apply WL_nil
    | apply T_exit
    | apply T_ret
    | apply B_normal
    | apply B_ret
    | apply B_exit_eq
    | apply W_skip
    | apply W_exit
    | apply W_ret
    | apply W_block
    | (apply W_condT; apply Eq.refl)
    | (apply W_condF; apply Eq.refl)
    | (apply WL_call; apply Eq.refl; apply Eq.refl; rotate_left 1; apply Eq.refl; rotate_right 1; exact (c64 _ _ _); apply Eq.refl)
    | (apply WL_n; apply Eq.refl; (first | (apply n_boxa <;> apply Eq.refl) | (apply n_alloc <;> apply Eq.refl) | (apply n_stb <;> apply Eq.refl)))
    | (apply WL_yes; apply Eq.refl; apply Eq.refl; apply Eq.refl)
    | (apply WL_no; apply Eq.refl; apply Eq.refl; apply Eq.refl; apply Eq.refl; apply Eq.refl)
    | (apply L_tND; apply Eq.refl; apply Eq.refl; apply Eq.refl; intro _; rotate_left 1; intro _; rotate_left 1)
    | apply W_regionG
    | (apply WG_nil; kernel_rfl)
    | (apply WG_q; (first | (apply want_none; apply Eq.refl) | (apply want_some; apply Eq.refl; apply Eq.refl; apply Eq.refl)); apply Eq.refl; first | (apply fq_bld <;> apply Eq.refl) | (apply fq_blda <;> apply Eq.refl) | (apply fq_fn; apply Eq.refl) | (apply fq_mf; apply Eq.refl) | (apply FQ_intro; intro _; (first | (apply q_mvI <;> apply Eq.refl) | (apply q_asI <;> apply Eq.refl) | (apply q_ldb <;> apply Eq.refl) | (apply q_fab <;> apply Eq.refl) | (apply q_cmp <;> apply Eq.refl) | (apply q_mvB <;> apply Eq.refl) | (apply q_asB <;> apply Eq.refl) | (apply q_not <;> apply Eq.refl) | (apply q_ldr <;> apply Eq.refl) | (apply q_far <;> apply Eq.refl) | (apply q_arith <;> (first | apply Eq.refl | omega)) | (apply q_len <;> apply Eq.refl) | (apply q_pkT <;> apply Eq.refl) | (apply q_pkF <;> apply Eq.refl) | (apply q_ia <;> (first | apply Eq.refl | omega)) | (apply q_ldba <;> apply Eq.refl) | (apply q_ldra <;> apply Eq.refl) | (apply q_bld <;> apply Eq.refl))))
    | (apply WG_call; (first | (apply want_none; apply Eq.refl) | (apply want_some; apply Eq.refl; apply Eq.refl; apply Eq.refl)); apply Eq.refl; apply Eq.refl; apply Eq.refl; exact (c64 _ _ _))
    | (apply WG_no; apply Eq.refl; apply Eq.refl; apply Eq.refl; apply Eq.refl; apply Eq.refl)
    | (apply G_tD; apply Eq.refl; apply Eq.refl; apply Eq.refl; intro _; rotate_left 1; intro _; rotate_left 1)
    | (apply W_cD; apply Eq.refl; intro _; rotate_left 1; intro _; rotate_left 1)
    | (apply W_cND; apply Eq.refl; intro _; rotate_left 1; intro _; rotate_left 1))
  all_goals try (refine fin_I rfl rfl ?_; simp [chkTruck]; omega)
  rename_i h1 h2 h3 h4 h5 h6 h7 h8
  have hspec : chkTruck c t = chkHolds t.way c.len none t.holds := by simp [chkTruck]; omega
  rw [hspec]
  clear hspec
  refine W_loopM (α := Nat) (fun k => [(2, .bx 2 1 0), (3, .bx 3 1 0), (5, .bx 5 1 0), (66, slOf 2 encHold t.holds), (67, .int .i64 t.holds.length), (68, .int .i64 k)]) (fun _ => [(2, 1), (3, 1), (5, 1)])
    (fun _ => [(2, .box (encConvoy c)), (3, .box (encTruck t)), (5, .box (encRide t c.len))]) (chkInv t.way c.len t.holds) (fun k => t.holds.length - k) 0 (chkInv_zero _ _ _) (by refine ⟨?_, ?_, ?_⟩ <;> repeat' (first | exact trivial | apply And.intro | apply Eq.refl)) (fun k h hi => ?_)
  have hk := hi.1
  have hp := hi.2.2
  have e1 : 0 < k → ((k : Int) - 1).toNat = k - 1 := fun h => by omega
  have hp' : 0 < k → 1 ≤ (t.holds.getD ((k : Int) - 1).toNat default).a ∧ (t.holds.getD ((k : Int) - 1).toNat default).a ≤ c.len - 1 := fun h => by rw [e1 h]; exact hp h
  repeat' (first
    | (apply WL_q; apply Eq.refl; apply Eq.refl; (first | (apply q_mvI <;> apply Eq.refl) | (apply q_asI <;> apply Eq.refl) | (apply q_ldb <;> apply Eq.refl) | (apply q_fab <;> apply Eq.refl) | (apply q_cmp <;> apply Eq.refl) | (apply q_mvB <;> apply Eq.refl) | (apply q_asB <;> apply Eq.refl) | (apply q_not <;> apply Eq.refl) | (apply q_ldr <;> apply Eq.refl) | (apply q_far <;> apply Eq.refl) | (apply q_arith <;> (first | apply Eq.refl | omega)) | (apply q_len <;> apply Eq.refl) | (apply q_pkT <;> apply Eq.refl) | (apply q_pkF <;> apply Eq.refl) | (apply q_ia <;> (first | apply Eq.refl | omega)) | (apply q_ldba <;> apply Eq.refl) | (apply q_ldra <;> apply Eq.refl) | (apply q_bld <;> apply Eq.refl)))
    | apply W_seq
    | apply W_region
    | apply T_normal
    | apply WL_nil
    | apply T_exit
    | apply T_ret
    | apply B_normal
    | apply B_ret
    | apply B_exit_eq
    | apply W_skip
    | apply W_exit
    | apply W_ret
    | apply W_block
    | (apply W_condT; apply Eq.refl)
    | (apply W_condF; apply Eq.refl)
    | (apply WL_call; apply Eq.refl; apply Eq.refl; rotate_left 1; apply Eq.refl; rotate_right 1; exact (c64 _ _ _); apply Eq.refl)
    | (apply WL_call; apply Eq.refl; apply Eq.refl; rotate_left 1; apply Eq.refl; rotate_right 1; exact (c107 _ _ _ (by omega) (by omega) (by omega) (by omega)); apply Eq.refl)
    | (apply WL_n; apply Eq.refl; (first | (apply n_boxa <;> apply Eq.refl) | (apply n_alloc <;> apply Eq.refl) | (apply n_stb <;> apply Eq.refl)))
    | (apply WL_yes; apply Eq.refl; apply Eq.refl; apply Eq.refl)
    | (apply WL_no; apply Eq.refl; apply Eq.refl; apply Eq.refl; apply Eq.refl; apply Eq.refl)
    | (apply L_tND; apply Eq.refl; apply Eq.refl; apply Eq.refl; intro _; rotate_left 1; intro _; rotate_left 1)
    | apply W_regionG
    | (apply WG_nil; kernel_rfl)
    | (apply WG_q; (first | (apply want_none; apply Eq.refl) | (apply want_some; apply Eq.refl; apply Eq.refl; apply Eq.refl)); apply Eq.refl; first | (apply fq_bld <;> apply Eq.refl) | (apply fq_blda <;> apply Eq.refl) | (apply fq_fn; apply Eq.refl) | (apply fq_mf; apply Eq.refl) | (apply FQ_intro; intro _; (first | (apply q_mvI <;> apply Eq.refl) | (apply q_asI <;> apply Eq.refl) | (apply q_ldb <;> apply Eq.refl) | (apply q_fab <;> apply Eq.refl) | (apply q_cmp <;> apply Eq.refl) | (apply q_mvB <;> apply Eq.refl) | (apply q_asB <;> apply Eq.refl) | (apply q_not <;> apply Eq.refl) | (apply q_ldr <;> apply Eq.refl) | (apply q_far <;> apply Eq.refl) | (apply q_arith <;> (first | apply Eq.refl | omega)) | (apply q_len <;> apply Eq.refl) | (apply q_pkT <;> apply Eq.refl) | (apply q_pkF <;> apply Eq.refl) | (apply q_ia <;> (first | apply Eq.refl | omega)) | (apply q_ldba <;> apply Eq.refl) | (apply q_ldra <;> apply Eq.refl) | (apply q_bld <;> apply Eq.refl))))
    | (apply WG_call; (first | (apply want_none; apply Eq.refl) | (apply want_some; apply Eq.refl; apply Eq.refl; apply Eq.refl)); apply Eq.refl; apply Eq.refl; apply Eq.refl; exact (c64 _ _ _))
    | (apply WG_call; (first | (apply want_none; apply Eq.refl) | (apply want_some; apply Eq.refl; apply Eq.refl; apply Eq.refl)); apply Eq.refl; apply Eq.refl; apply Eq.refl; exact (c107 _ _ _ (by omega) (by omega) (by omega) (by omega)))
    | (apply WG_no; apply Eq.refl; apply Eq.refl; apply Eq.refl; apply Eq.refl; apply Eq.refl)
    | (apply G_tD; apply Eq.refl; apply Eq.refl; apply Eq.refl; intro _; rotate_left 1; intro _; rotate_left 1)
    | (apply W_cD; apply Eq.refl; intro _; rotate_left 1; intro _; rotate_left 1)
    | (apply W_cND; apply Eq.refl; intro _; rotate_left 1; intro _; rotate_left 1))
  all_goals try simp only [Int.toNat_natCast] at *
  all_goals first
    | (refine fin_I rfl rfl (chk_2 hi (by omega) (by first | (left; assumption) | (right; assumption))); done)
    | (refine fin_I rfl rfl (chk_11 hi (by omega) (by assumption) (by assumption) (by omega) (by rw [← e1 (by omega)]; assumption)); done)
    | (refine fin_I rfl rfl (chk_end hi (by omega)); done)
    | (refine ⟨k + 1, chk_next hi (by omega) (by assumption) (by assumption) (fun h => by first | (rw [← e1 h]; assumption) | omega), by omega, (by refine ⟨?_, ?_, ?_⟩ <;> repeat' (first | exact trivial | apply And.intro | apply Eq.refl))⟩; done)
end Go.Proofs.YtafnhieaeejlcaaDoor

