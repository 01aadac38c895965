/- Walks by computing: what each function of the program that the laws reach gives for what it gets, as plain Lean, and that it is so; without a condition but those that stand in each theorem. -/
import Derived.Test.YtafnhieaeejlcaaDoorW1
import Derived.Test.YtafnhieaeejlcaaDoorW2
set_option linter.all false
namespace Go.Proofs.YtafnhieaeejlcaaDoor
open Go Go.Ab
structure Hold where
  a : Int
  u : Int
  deriving DecidableEq
instance : Inhabited Hold := ⟨⟨0, 0⟩⟩
structure Span where
  lo : Int
  hi : Int
  deriving DecidableEq
instance : Inhabited Span := ⟨⟨0, 0⟩⟩
structure Truck where
  way : Int
  start : Int
  lo : Int
  hi : Int
  holds : List Hold
  deriving DecidableEq
instance : Inhabited Truck := ⟨⟨0, 0, 0, 0, []⟩⟩
structure Convoy where
  len : Int
  gap : Int
  fails : Int
  trucks : List Truck
  deriving DecidableEq
instance : Inhabited Convoy := ⟨⟨0, 0, 0, []⟩⟩
def encHold (h : Hold) : List D := [.int .i64 h.a, .int .i64 h.u]
def encSpan (h : Span) : List D := [.int .i64 h.lo, .int .i64 h.hi]
def encTruck (t : Truck) : List D := [.int .i64 t.way, .int .i64 t.start, .int .i64 t.lo, .int .i64 t.hi, slOf 2 encHold t.holds]
def encConvoy (c : Convoy) : List D := [.int .i64 c.len, .int .i64 c.gap, .int .i64 c.fails, slOf 5 encTruck c.trucks]
theorem pure_hold (h : Hold) : PureL (encHold h) := PureL.cons (.int _ _) (PureL.cons (.int _ _) PureL.nil)
theorem pure_span (h : Span) : PureL (encSpan h) := PureL.cons (.int _ _) (PureL.cons (.int _ _) PureL.nil)
theorem pure_truck (t : Truck) : PureL (encTruck t) := PureL.cons (.int _ _) (PureL.cons (.int _ _) (PureL.cons (.int _ _) (PureL.cons (.int _ _) (PureL.cons (pure_slOf pure_hold) PureL.nil))))
theorem pure_convoy (c : Convoy) : PureL (encConvoy c) := PureL.cons (.int _ _) (PureL.cons (.int _ _) (PureL.cons (.int _ _) (PureL.cons (pure_slOf pure_truck) PureL.nil)))
def encRide (t : Truck) (len : Int) : List D := encTruck t ++ [.int .i64 len]
theorem pure_ride (t : Truck) (len : Int) : PureL (encRide t len) := fun d hd => by
  rcases List.mem_append.1 hd with h | h
  · exact pure_truck t d h
  · simp at h; subst h; exact .int _ _
end Go.Proofs.YtafnhieaeejlcaaDoor
namespace Go.Proofs.YtafnhieaeejlcaaDoor
open Go Go.Ab
set_option maxRecDepth 100000
set_option maxHeartbeats 4000000
attribute [local irreducible] W WL QOp NOp thenQ blockQ FinQ WG FQ Want FinW WI WIL thenI blockI
theorem c64 (a b c : Int) : Contract seat 64 [.int .i64 a, .int .i64 b, .int .i64 c] (.bool (decide (b ≤ a ∧ a ≤ c))) := by
  refine contract_intro (fn := Tryd.f64) Tryd.func64 rfl (by kernel_rfl) rfl ?_ ?_ ?_
  · repeat' first | exact PureL.nil | refine PureL.cons (.int _ _) ?_
  · exact .bool _
  intro w κ
  repeat' (first
    | (apply WL_q; apply Eq.refl; apply Eq.refl; (first | (apply q_mvI <;> apply Eq.refl) | (apply q_cmp <;> apply Eq.refl) | (apply q_mvB <;> apply Eq.refl) | (apply q_asB <;> apply Eq.refl) | (apply q_pkT <;> apply Eq.refl) | (apply q_pkF <;> apply Eq.refl)))
    | apply W_seq
    | apply W_region
    | apply T_normal
    | apply WL_nil
    | apply W_ret
    | (apply WL_yes; apply Eq.refl; apply Eq.refl; apply Eq.refl)
    | (apply WL_no; apply Eq.refl; apply Eq.refl; apply Eq.refl; apply Eq.refl; apply Eq.refl)
    | (apply L_tD; apply Eq.refl; apply Eq.refl; apply Eq.refl; intro _; rotate_left 1; intro _; rotate_left 1))
  all_goals (refine fin_B rfl rfl ?_; simp; try omega)
def alongI (way len m : Int) : Int := if way = 2 then len - m else m
theorem c107 (t : Truck) (len m : Int) (h0 : -2305843009213693952 ≤ m) (h1 : m ≤ 2305843009213693952) (h2 : -2305843009213693952 ≤ len) (h3 : len ≤ 2305843009213693952) :
    Contract seat 107 [.agg (encRide t len), .int .i64 m] (.int .i64 (alongI t.way len m)) := by
  refine contract_intro (fn := Tryd.f107) Tryd.func107 rfl (by kernel_rfl) rfl ?_ ?_ ?_
  · exact PureL.cons (.agg _ (pure_ride t len)) (PureL.cons (.int _ _) PureL.nil)
  · exact .int _ _
  intro w κ
  repeat' (first
    | (apply WL_q; apply Eq.refl; apply Eq.refl; (first | (apply q_mvI <;> apply Eq.refl) | (apply q_asI <;> apply Eq.refl) | (apply q_ldb <;> apply Eq.refl) | (apply q_fab <;> apply Eq.refl) | (apply q_cmp <;> apply Eq.refl) | (apply q_arith <;> (first | apply Eq.refl | omega))))
    | apply W_seq
    | apply W_region
    | apply T_normal
    | apply WL_nil
    | apply T_ret
    | apply W_skip
    | apply W_ret
    | (apply WL_n; apply Eq.refl; (first | (apply n_boxa <;> apply Eq.refl)))
    | (apply W_cD; apply Eq.refl; intro _; rotate_left 1; intro _; rotate_left 1))
  all_goals (refine fin_I rfl rfl ?_; simp_all [alongI])
def chkHolds (way len : Int) : Option Int → List Hold → Int
  | _, [] => 0
  | p, h :: hs => if ¬ (1 ≤ h.a ∧ h.a ≤ len - 1) ∨ ¬ (0 ≤ h.u ∧ h.u ≤ 10000) then 2 else
    match p with
    | some q => if alongI way len h.a ≤ q then 11 else chkHolds way len (some (alongI way len h.a)) hs
    | none => chkHolds way len (some (alongI way len h.a)) hs
def chkTruck (c : Convoy) (t : Truck) : Int :=
  if ¬ (1 ≤ t.way ∧ t.way ≤ 2) then 4
  else if ¬ (0 ≤ t.start ∧ t.start ≤ 10000) ∨ ¬ (1 ≤ t.lo ∧ t.lo ≤ 1000) ∨ ¬ (1 ≤ t.hi ∧ t.hi ≤ 1000) then 2
  else if t.lo > t.hi then 11
  else if c.len > 1000 * t.lo then 13
  else if c.gap < 2 * t.hi then 12
  else if t.holds.length > 8 then 8
  else chkHolds t.way c.len none t.holds
theorem chkHolds_cons (way len : Int) (p : Option Int) (h : Hold) (hs : List Hold) : chkHolds way len p (h :: hs) = if ¬ (1 ≤ h.a ∧ h.a ≤ len - 1) ∨ ¬ (0 ≤ h.u ∧ h.u ≤ 10000) then 2 else
    match p with
    | some q => if alongI way len h.a ≤ q then 11 else chkHolds way len (some (alongI way len h.a)) hs
    | none => chkHolds way len (some (alongI way len h.a)) hs := by cases p <;> rfl
theorem drop_getD {α : Type} [Inhabited α] (l : List α) (k : Nat) (h : k < l.length) : l.drop k = l.getD k default :: l.drop (k + 1) := by
  rw [List.drop_eq_getElem_cons h]; simp [List.getD, h]
def chkPrev (way len : Int) (hs : List Hold) (k : Nat) : Option Int := if k = 0 then none else some (alongI way len (hs.getD (k - 1) default).a)
def chkInv (way len : Int) (hs : List Hold) (k : Nat) : Prop := k ≤ hs.length ∧ chkHolds way len (chkPrev way len hs k) (hs.drop k) = chkHolds way len none hs ∧
  (0 < k → 1 ≤ (hs.getD (k - 1) default).a ∧ (hs.getD (k - 1) default).a ≤ len - 1)
theorem chkInv_zero (way len : Int) (hs : List Hold) : chkInv way len hs 0 := ⟨Nat.zero_le _, by simp [chkPrev], fun h => by omega⟩
section
variable {way len : Int} {hs : List Hold} {k : Nat}
theorem chk_end (hi : chkInv way len hs k) (h : ¬ k < hs.length) : 0 = chkHolds way len none hs := by
  obtain ⟨h1, h2, _⟩ := hi
  rw [List.drop_eq_nil_of_le (by omega)] at h2
  simpa [chkHolds] using h2
theorem chk_2 (hi : chkInv way len hs k) (h : k < hs.length) (hb : ¬ (1 ≤ (hs.getD k default).a ∧ (hs.getD k default).a ≤ len - 1) ∨ ¬ (0 ≤ (hs.getD k default).u ∧ (hs.getD k default).u ≤ 10000)) : 2 = chkHolds way len none hs := by
  obtain ⟨h1, h2, _⟩ := hi
  rw [drop_getD _ _ h] at h2
  rw [chkHolds_cons] at h2
  rw [if_pos hb] at h2
  exact h2
theorem chk_11 (hi : chkInv way len hs k) (h : k < hs.length) (ha : 1 ≤ (hs.getD k default).a ∧ (hs.getD k default).a ≤ len - 1) (hu : 0 ≤ (hs.getD k default).u ∧ (hs.getD k default).u ≤ 10000) (h0 : 0 < k)
    (hle : alongI way len (hs.getD k default).a ≤ alongI way len (hs.getD (k - 1) default).a) : 11 = chkHolds way len none hs := by
  obtain ⟨h1, h2, _⟩ := hi
  rw [drop_getD _ _ h] at h2
  rw [chkHolds_cons] at h2
  rw [if_neg (by simp only [not_or, Classical.not_not]; exact ⟨ha, hu⟩)] at h2
  simp only [chkPrev, if_neg (show ¬ k = 0 by omega)] at h2
  rw [if_pos hle] at h2
  exact h2
theorem chk_next (hi : chkInv way len hs k) (h : k < hs.length) (ha : 1 ≤ (hs.getD k default).a ∧ (hs.getD k default).a ≤ len - 1) (hu : 0 ≤ (hs.getD k default).u ∧ (hs.getD k default).u ≤ 10000)
    (hle : 0 < k → ¬ alongI way len (hs.getD k default).a ≤ alongI way len (hs.getD (k - 1) default).a) : chkInv way len hs (k + 1) := by
  obtain ⟨h1, h2, _⟩ := hi
  rw [drop_getD _ _ h] at h2
  rw [chkHolds_cons] at h2
  rw [if_neg (by simp only [not_or, Classical.not_not]; exact ⟨ha, hu⟩)] at h2
  refine ⟨h, ?_, fun _ => by simpa using ha⟩
  rw [← h2]
  by_cases e : k = 0
  · subst e; simp [chkPrev]
  · simp only [chkPrev, if_neg e, if_neg (hle (by omega))]; simp
end
theorem c65 (c : Convoy) (t : Truck) (hl : 1 ≤ c.len) (hl2 : c.len ≤ 100000) : Contract seat 65 [.agg (encConvoy c), .agg (encTruck t)] (.int .i64 (chkTruck c t)) := by
  refine contract_intro (fn := Tryd.f65) Tryd.func65 rfl (by kernel_rfl) rfl ?_ ?_ ?_
  · exact PureL.cons (.agg _ (pure_convoy c)) (PureL.cons (.agg _ (pure_truck t)) PureL.nil)
  · exact .int _ _
  intro w κ
  repeat' (first
    | (apply WL_q; apply Eq.refl; apply Eq.refl; (first | (apply q_mvI <;> apply Eq.refl) | (apply q_asI <;> apply Eq.refl) | (apply q_ldb <;> apply Eq.refl) | (apply q_fab <;> apply Eq.refl) | (apply q_cmp <;> apply Eq.refl) | (apply q_mvB <;> apply Eq.refl) | (apply q_asB <;> apply Eq.refl) | (apply q_not <;> apply Eq.refl) | (apply q_ldr <;> apply Eq.refl) | (apply q_far <;> apply Eq.refl) | (apply q_arith <;> (first | apply Eq.refl | omega)) | (apply q_len <;> apply Eq.refl) | (apply q_pkT <;> apply Eq.refl) | (apply q_pkF <;> apply Eq.refl) | (apply q_ia <;> (first | apply Eq.refl | omega)) | (apply q_ldba <;> apply Eq.refl) | (apply q_ldra <;> apply Eq.refl) | (apply q_bld <;> apply Eq.refl)))
    | apply W_seq
    | apply W_region
    | apply T_normal
    | apply WL_nil
    | apply T_exit
    | apply T_ret
    | apply B_normal
    | apply B_ret
    | apply B_exit_eq
    | apply W_skip
    | apply W_exit
    | apply W_ret
    | apply W_block
    | (apply W_condT; apply Eq.refl)
    | (apply W_condF; apply Eq.refl)
    | (apply WL_call; apply Eq.refl; apply Eq.refl; rotate_left 1; apply Eq.refl; rotate_right 1; exact (c64 _ _ _); apply Eq.refl)
    | (apply WL_n; apply Eq.refl; (first | (apply n_boxa <;> apply Eq.refl) | (apply n_alloc <;> apply Eq.refl) | (apply n_stb <;> apply Eq.refl)))
    | (apply WL_yes; apply Eq.refl; apply Eq.refl; apply Eq.refl)
    | (apply WL_no; apply Eq.refl; apply Eq.refl; apply Eq.refl; apply Eq.refl; apply Eq.refl)
    | (apply L_tND; apply Eq.refl; apply Eq.refl; apply Eq.refl; intro _; rotate_left 1; intro _; rotate_left 1)
    | apply W_regionG
    | (apply WG_nil; kernel_rfl)
    | (apply WG_q; (first | (apply want_none; apply Eq.refl) | (apply want_some; apply Eq.refl; apply Eq.refl; apply Eq.refl)); apply Eq.refl; first | (apply fq_bld <;> apply Eq.refl) | (apply fq_blda <;> apply Eq.refl) | (apply fq_fn; apply Eq.refl) | (apply fq_mf; apply Eq.refl) | (apply FQ_intro; intro _; (first | (apply q_mvI <;> apply Eq.refl) | (apply q_asI <;> apply Eq.refl) | (apply q_ldb <;> apply Eq.refl) | (apply q_fab <;> apply Eq.refl) | (apply q_cmp <;> apply Eq.refl) | (apply q_mvB <;> apply Eq.refl) | (apply q_asB <;> apply Eq.refl) | (apply q_not <;> apply Eq.refl) | (apply q_ldr <;> apply Eq.refl) | (apply q_far <;> apply Eq.refl) | (apply q_arith <;> (first | apply Eq.refl | omega)) | (apply q_len <;> apply Eq.refl) | (apply q_pkT <;> apply Eq.refl) | (apply q_pkF <;> apply Eq.refl) | (apply q_ia <;> (first | apply Eq.refl | omega)) | (apply q_ldba <;> apply Eq.refl) | (apply q_ldra <;> apply Eq.refl) | (apply q_bld <;> apply Eq.refl))))
    | (apply WG_call; (first | (apply want_none; apply Eq.refl) | (apply want_some; apply Eq.refl; apply Eq.refl; apply Eq.refl)); apply Eq.refl; apply Eq.refl; apply Eq.refl; exact (c64 _ _ _))
    | (apply WG_no; apply Eq.refl; apply Eq.refl; apply Eq.refl; apply Eq.refl; apply Eq.refl)
    | (apply G_tD; apply Eq.refl; apply Eq.refl; apply Eq.refl; intro _; rotate_left 1; intro _; rotate_left 1)
    | (apply W_cD; apply Eq.refl; intro _; rotate_left 1; intro _; rotate_left 1)
    | (apply W_cND; apply Eq.refl; intro _; rotate_left 1; intro _; rotate_left 1))
  all_goals try (refine fin_I rfl rfl ?_; simp [chkTruck]; omega)
  rename_i h1 h2 h3 h4 h5 h6 h7 h8
  have hspec : chkTruck c t = chkHolds t.way c.len none t.holds := by simp [chkTruck]; omega
  rw [hspec]
  clear hspec
  refine W_loopM (α := Nat) (fun k => [(2, .bx 2 1 0), (3, .bx 3 1 0), (5, .bx 5 1 0), (66, slOf 2 encHold t.holds), (67, .int .i64 t.holds.length), (68, .int .i64 k)]) (fun _ => [(2, 1), (3, 1), (5, 1)])
    (fun _ => [(2, .box (encConvoy c)), (3, .box (encTruck t)), (5, .box (encRide t c.len))]) (chkInv t.way c.len t.holds) (fun k => t.holds.length - k) 0 (chkInv_zero _ _ _) (by refine ⟨?_, ?_, ?_⟩ <;> repeat' (first | exact trivial | apply And.intro | apply Eq.refl)) (fun k h hi => ?_)
  have hk := hi.1
  have hp := hi.2.2
  have e1 : 0 < k → ((k : Int) - 1).toNat = k - 1 := fun h => by omega
  have hp' : 0 < k → 1 ≤ (t.holds.getD ((k : Int) - 1).toNat default).a ∧ (t.holds.getD ((k : Int) - 1).toNat default).a ≤ c.len - 1 := fun h => by rw [e1 h]; exact hp h
  repeat' (first
    | (apply WL_q; apply Eq.refl; apply Eq.refl; (first | (apply q_mvI <;> apply Eq.refl) | (apply q_asI <;> apply Eq.refl) | (apply q_ldb <;> apply Eq.refl) | (apply q_fab <;> apply Eq.refl) | (apply q_cmp <;> apply Eq.refl) | (apply q_mvB <;> apply Eq.refl) | (apply q_asB <;> apply Eq.refl) | (apply q_not <;> apply Eq.refl) | (apply q_ldr <;> apply Eq.refl) | (apply q_far <;> apply Eq.refl) | (apply q_arith <;> (first | apply Eq.refl | omega)) | (apply q_len <;> apply Eq.refl) | (apply q_pkT <;> apply Eq.refl) | (apply q_pkF <;> apply Eq.refl) | (apply q_ia <;> (first | apply Eq.refl | omega)) | (apply q_ldba <;> apply Eq.refl) | (apply q_ldra <;> apply Eq.refl) | (apply q_bld <;> apply Eq.refl)))
    | apply W_seq
    | apply W_region
    | apply T_normal
    | apply WL_nil
    | apply T_exit
    | apply T_ret
    | apply B_normal
    | apply B_ret
    | apply B_exit_eq
    | apply W_skip
    | apply W_exit
    | apply W_ret
    | apply W_block
    | (apply W_condT; apply Eq.refl)
    | (apply W_condF; apply Eq.refl)
    | (apply WL_call; apply Eq.refl; apply Eq.refl; rotate_left 1; apply Eq.refl; rotate_right 1; exact (c64 _ _ _); apply Eq.refl)
    | (apply WL_call; apply Eq.refl; apply Eq.refl; rotate_left 1; apply Eq.refl; rotate_right 1; exact (c107 _ _ _ (by omega) (by omega) (by omega) (by omega)); apply Eq.refl)
    | (apply WL_n; apply Eq.refl; (first | (apply n_boxa <;> apply Eq.refl) | (apply n_alloc <;> apply Eq.refl) | (apply n_stb <;> apply Eq.refl)))
    | (apply WL_yes; apply Eq.refl; apply Eq.refl; apply Eq.refl)
    | (apply WL_no; apply Eq.refl; apply Eq.refl; apply Eq.refl; apply Eq.refl; apply Eq.refl)
    | (apply L_tND; apply Eq.refl; apply Eq.refl; apply Eq.refl; intro _; rotate_left 1; intro _; rotate_left 1)
    | apply W_regionG
    | (apply WG_nil; kernel_rfl)
    | (apply WG_q; (first | (apply want_none; apply Eq.refl) | (apply want_some; apply Eq.refl; apply Eq.refl; apply Eq.refl)); apply Eq.refl; first | (apply fq_bld <;> apply Eq.refl) | (apply fq_blda <;> apply Eq.refl) | (apply fq_fn; apply Eq.refl) | (apply fq_mf; apply Eq.refl) | (apply FQ_intro; intro _; (first | (apply q_mvI <;> apply Eq.refl) | (apply q_asI <;> apply Eq.refl) | (apply q_ldb <;> apply Eq.refl) | (apply q_fab <;> apply Eq.refl) | (apply q_cmp <;> apply Eq.refl) | (apply q_mvB <;> apply Eq.refl) | (apply q_asB <;> apply Eq.refl) | (apply q_not <;> apply Eq.refl) | (apply q_ldr <;> apply Eq.refl) | (apply q_far <;> apply Eq.refl) | (apply q_arith <;> (first | apply Eq.refl | omega)) | (apply q_len <;> apply Eq.refl) | (apply q_pkT <;> apply Eq.refl) | (apply q_pkF <;> apply Eq.refl) | (apply q_ia <;> (first | apply Eq.refl | omega)) | (apply q_ldba <;> apply Eq.refl) | (apply q_ldra <;> apply Eq.refl) | (apply q_bld <;> apply Eq.refl))))
    | (apply WG_call; (first | (apply want_none; apply Eq.refl) | (apply want_some; apply Eq.refl; apply Eq.refl; apply Eq.refl)); apply Eq.refl; apply Eq.refl; apply Eq.refl; exact (c64 _ _ _))
    | (apply WG_call; (first | (apply want_none; apply Eq.refl) | (apply want_some; apply Eq.refl; apply Eq.refl; apply Eq.refl)); apply Eq.refl; apply Eq.refl; apply Eq.refl; exact (c107 _ _ _ (by omega) (by omega) (by omega) (by omega)))
    | (apply WG_no; apply Eq.refl; apply Eq.refl; apply Eq.refl; apply Eq.refl; apply Eq.refl)
    | (apply G_tD; apply Eq.refl; apply Eq.refl; apply Eq.refl; intro _; rotate_left 1; intro _; rotate_left 1)
    | (apply W_cD; apply Eq.refl; intro _; rotate_left 1; intro _; rotate_left 1)
    | (apply W_cND; apply Eq.refl; intro _; rotate_left 1; intro _; rotate_left 1))
  all_goals try simp only [Int.toNat_natCast] at *
  all_goals first
    | (refine fin_I rfl rfl (chk_2 hi (by omega) (by first | (left; assumption) | (right; assumption))); done)
    | (refine fin_I rfl rfl (chk_11 hi (by omega) (by assumption) (by assumption) (by omega) (by rw [← e1 (by omega)]; assumption)); done)
    | (refine fin_I rfl rfl (chk_end hi (by omega)); done)
    | (refine ⟨k + 1, chk_next hi (by omega) (by assumption) (by assumption) (fun h => by first | (rw [← e1 h]; assumption) | omega), by omega, (by refine ⟨?_, ?_, ?_⟩ <;> repeat' (first | exact trivial | apply And.intro | apply Eq.refl))⟩; done)
end Go.Proofs.YtafnhieaeejlcaaDoor
namespace Go.Proofs.YtafnhieaeejlcaaDoor
open Go Go.Ab
set_option maxRecDepth 100000
set_option maxHeartbeats 4000000
attribute [local irreducible] W WL QOp NOp thenQ blockQ FinQ WG FQ Want FinW WI WIL thenI blockI
theorem c66 (a b c : Int) : Contract seat 66 [.int .i64 a, .int .i64 b, .int .i64 c] (.bool (decide (b ≤ a ∧ a ≤ c))) := by
  refine contract_intro (fn := Tryd.f66) Tryd.func66 rfl (by kernel_rfl) rfl ?_ ?_ ?_
  · repeat' first | exact PureL.nil | refine PureL.cons (.int _ _) ?_
  · exact .bool _
  intro w κ
  repeat' (first
    | (apply WL_q; apply Eq.refl; apply Eq.refl; (first | (apply q_mvI <;> apply Eq.refl) | (apply q_cmp <;> apply Eq.refl) | (apply q_mvB <;> apply Eq.refl) | (apply q_asB <;> apply Eq.refl) | (apply q_pkT <;> apply Eq.refl) | (apply q_pkF <;> apply Eq.refl)))
    | apply W_seq
    | apply W_region
    | apply T_normal
    | apply WL_nil
    | apply W_ret
    | (apply WL_yes; apply Eq.refl; apply Eq.refl; apply Eq.refl)
    | (apply WL_no; apply Eq.refl; apply Eq.refl; apply Eq.refl; apply Eq.refl; apply Eq.refl)
    | (apply L_tD; apply Eq.refl; apply Eq.refl; apply Eq.refl; intro _; rotate_left 1; intro _; rotate_left 1))
  all_goals (refine fin_B rfl rfl ?_; simp; try omega)
theorem c108 (c : Convoy) (t : Truck) (h : Hold) (h0 : -2305843009213693952 ≤ h.a) (h1 : h.a ≤ 2305843009213693952) (h2 : -2305843009213693952 ≤ c.len) (h3 : c.len ≤ 2305843009213693952) :
    Contract seat 108 [.agg (encConvoy c), .agg (encTruck t), .agg (encHold h)] (.int .i64 (alongI t.way c.len h.a)) := by
  refine contract_intro (fn := Tryd.f108) Tryd.func108 rfl (by kernel_rfl) rfl ?_ ?_ ?_
  · exact PureL.cons (.agg _ (pure_convoy c)) (PureL.cons (.agg _ (pure_truck t)) (PureL.cons (.agg _ (pure_hold h)) PureL.nil))
  · exact .int _ _
  intro w κ
  repeat' (first
    | (apply WL_q; apply Eq.refl; apply Eq.refl; (first | (apply q_asI <;> apply Eq.refl) | (apply q_ldb <;> apply Eq.refl) | (apply q_fab <;> apply Eq.refl) | (apply q_cmp <;> apply Eq.refl) | (apply q_arith <;> (first | apply Eq.refl | omega))))
    | apply W_seq
    | apply W_region
    | apply T_normal
    | apply WL_nil
    | apply T_ret
    | apply W_skip
    | apply W_ret
    | (apply WL_n; apply Eq.refl; (first | (apply n_boxa <;> apply Eq.refl)))
    | (apply W_cD; apply Eq.refl; intro _; rotate_left 1; intro _; rotate_left 1))
  all_goals (refine fin_I rfl rfl ?_; simp_all [alongI])
theorem c67 (c : Convoy) (t : Truck) (hl : 1 ≤ c.len) (hl2 : c.len ≤ 100000) : Contract seat 67 [.agg (encConvoy c), .agg (encTruck t)] (.int .i64 (chkTruck c t)) := by
  refine contract_intro (fn := Tryd.f67) Tryd.func67 rfl (by kernel_rfl) rfl ?_ ?_ ?_
  · exact PureL.cons (.agg _ (pure_convoy c)) (PureL.cons (.agg _ (pure_truck t)) PureL.nil)
  · exact .int _ _
  intro w κ
  repeat' (first
    | (apply WL_q; apply Eq.refl; apply Eq.refl; (first | (apply q_mvI <;> apply Eq.refl) | (apply q_asI <;> apply Eq.refl) | (apply q_ldb <;> apply Eq.refl) | (apply q_fab <;> apply Eq.refl) | (apply q_cmp <;> apply Eq.refl) | (apply q_mvB <;> apply Eq.refl) | (apply q_asB <;> apply Eq.refl) | (apply q_not <;> apply Eq.refl) | (apply q_arith <;> (first | apply Eq.refl | omega)) | (apply q_len <;> apply Eq.refl) | (apply q_pkT <;> apply Eq.refl) | (apply q_pkF <;> apply Eq.refl) | (apply q_ia <;> (first | apply Eq.refl | omega)) | (apply q_ldba <;> apply Eq.refl) | (apply q_ldra <;> apply Eq.refl)))
    | apply W_seq
    | apply W_region
    | apply T_normal
    | apply WL_nil
    | apply T_exit
    | apply T_ret
    | apply B_normal
    | apply B_ret
    | apply B_exit_eq
    | apply W_skip
    | apply W_exit
    | apply W_ret
    | apply W_block
    | (apply W_condT; apply Eq.refl)
    | (apply W_condF; apply Eq.refl)
    | (apply WL_call; apply Eq.refl; apply Eq.refl; rotate_left 1; apply Eq.refl; rotate_right 1; exact (c66 _ _ _); apply Eq.refl)
    | (apply WL_n; apply Eq.refl; (first | (apply n_boxa <;> apply Eq.refl) | (apply n_alloc <;> apply Eq.refl) | (apply n_stb <;> apply Eq.refl)))
    | (apply WL_yes; apply Eq.refl; apply Eq.refl; apply Eq.refl)
    | (apply WL_no; apply Eq.refl; apply Eq.refl; apply Eq.refl; apply Eq.refl; apply Eq.refl)
    | (apply L_tND; apply Eq.refl; apply Eq.refl; apply Eq.refl; intro _; rotate_left 1; intro _; rotate_left 1)
    | apply W_regionG
    | (apply WG_nil; kernel_rfl)
    | (apply WG_q; (first | (apply want_none; apply Eq.refl) | (apply want_some; apply Eq.refl; apply Eq.refl; apply Eq.refl)); apply Eq.refl; first | (apply fq_bld <;> apply Eq.refl) | (apply fq_blda <;> apply Eq.refl) | (apply fq_fn; apply Eq.refl) | (apply fq_mf; apply Eq.refl) | (apply FQ_intro; intro _; (first | (apply q_mvI <;> apply Eq.refl) | (apply q_asI <;> apply Eq.refl) | (apply q_ldb <;> apply Eq.refl) | (apply q_fab <;> apply Eq.refl) | (apply q_cmp <;> apply Eq.refl) | (apply q_mvB <;> apply Eq.refl) | (apply q_asB <;> apply Eq.refl) | (apply q_not <;> apply Eq.refl) | (apply q_arith <;> (first | apply Eq.refl | omega)) | (apply q_len <;> apply Eq.refl) | (apply q_pkT <;> apply Eq.refl) | (apply q_pkF <;> apply Eq.refl) | (apply q_ia <;> (first | apply Eq.refl | omega)) | (apply q_ldba <;> apply Eq.refl) | (apply q_ldra <;> apply Eq.refl))))
    | (apply WG_call; (first | (apply want_none; apply Eq.refl) | (apply want_some; apply Eq.refl; apply Eq.refl; apply Eq.refl)); apply Eq.refl; apply Eq.refl; apply Eq.refl; exact (c66 _ _ _))
    | (apply WG_no; apply Eq.refl; apply Eq.refl; apply Eq.refl; apply Eq.refl; apply Eq.refl)
    | (apply G_tD; apply Eq.refl; apply Eq.refl; apply Eq.refl; intro _; rotate_left 1; intro _; rotate_left 1)
    | (apply W_cD; apply Eq.refl; intro _; rotate_left 1; intro _; rotate_left 1)
    | (apply W_cND; apply Eq.refl; intro _; rotate_left 1; intro _; rotate_left 1))
  all_goals try (refine fin_I rfl rfl ?_; simp [chkTruck]; omega)
  all_goals
    have hspec : chkTruck c t = chkHolds t.way c.len none t.holds := by simp [chkTruck]; omega
    rw [hspec]
    clear hspec
    refine W_loopM (α := Nat) (fun k => [(2, .bx 2 1 0), (3, .bx 3 1 0), (5, .int .i64 k)]) (fun _ => [(2, 1), (3, 1)])
      (fun _ => [(2, .box (encConvoy c)), (3, .box (encTruck t))]) (chkInv t.way c.len t.holds) (fun k => t.holds.length - k) 0 (chkInv_zero _ _ _) (by refine ⟨?_, ?_, ?_⟩ <;> repeat' (first | exact trivial | apply And.intro | apply Eq.refl)) (fun k h hi => ?_)
    have hk := hi.1
    have hp := hi.2.2
    have e1 : 0 < k → ((k : Int) - 1).toNat = k - 1 := fun h => by omega
    have hp' : 0 < k → 1 ≤ (t.holds.getD ((k : Int) - 1).toNat default).a ∧ (t.holds.getD ((k : Int) - 1).toNat default).a ≤ c.len - 1 := fun h => by rw [e1 h]; exact hp h
    repeat' (first
    | (apply WL_q; apply Eq.refl; apply Eq.refl; (first | (apply q_mvI <;> apply Eq.refl) | (apply q_asI <;> apply Eq.refl) | (apply q_ldb <;> apply Eq.refl) | (apply q_fab <;> apply Eq.refl) | (apply q_cmp <;> apply Eq.refl) | (apply q_mvB <;> apply Eq.refl) | (apply q_asB <;> apply Eq.refl) | (apply q_not <;> apply Eq.refl) | (apply q_arith <;> (first | apply Eq.refl | omega)) | (apply q_len <;> apply Eq.refl) | (apply q_pkT <;> apply Eq.refl) | (apply q_pkF <;> apply Eq.refl) | (apply q_ia <;> (first | apply Eq.refl | omega)) | (apply q_ldba <;> apply Eq.refl) | (apply q_ldra <;> apply Eq.refl)))
    | apply W_seq
    | apply W_region
    | apply T_normal
    | apply WL_nil
    | apply T_exit
    | apply T_ret
    | apply B_normal
    | apply B_ret
    | apply B_exit_eq
    | apply W_skip
    | apply W_exit
    | apply W_ret
    | apply W_block
    | (apply W_condT; apply Eq.refl)
    | (apply W_condF; apply Eq.refl)
    | (apply WL_call; apply Eq.refl; apply Eq.refl; rotate_left 1; apply Eq.refl; rotate_right 1; exact (c66 _ _ _); apply Eq.refl)
    | (apply WL_call; apply Eq.refl; apply Eq.refl; rotate_left 1; apply Eq.refl; rotate_right 1; exact (c108 c t (t.holds.getD (k : Int).toNat default) (by omega) (by omega) (by omega) (by omega)); apply Eq.refl)
    | (apply WL_call; apply Eq.refl; apply Eq.refl; rotate_left 1; apply Eq.refl; rotate_right 1; exact (c108 c t (t.holds.getD ((k : Int) - 1).toNat default) (by omega) (by omega) (by omega) (by omega)); apply Eq.refl)
    | (apply WL_n; apply Eq.refl; (first | (apply n_boxa <;> apply Eq.refl) | (apply n_alloc <;> apply Eq.refl) | (apply n_stb <;> apply Eq.refl)))
    | (apply WL_yes; apply Eq.refl; apply Eq.refl; apply Eq.refl)
    | (apply WL_no; apply Eq.refl; apply Eq.refl; apply Eq.refl; apply Eq.refl; apply Eq.refl)
    | (apply L_tND; apply Eq.refl; apply Eq.refl; apply Eq.refl; intro _; rotate_left 1; intro _; rotate_left 1)
    | apply W_regionG
    | (apply WG_nil; kernel_rfl)
    | (apply WG_q; (first | (apply want_none; apply Eq.refl) | (apply want_some; apply Eq.refl; apply Eq.refl; apply Eq.refl)); apply Eq.refl; first | (apply fq_bld <;> apply Eq.refl) | (apply fq_blda <;> apply Eq.refl) | (apply fq_fn; apply Eq.refl) | (apply fq_mf; apply Eq.refl) | (apply FQ_intro; intro _; (first | (apply q_mvI <;> apply Eq.refl) | (apply q_asI <;> apply Eq.refl) | (apply q_ldb <;> apply Eq.refl) | (apply q_fab <;> apply Eq.refl) | (apply q_cmp <;> apply Eq.refl) | (apply q_mvB <;> apply Eq.refl) | (apply q_asB <;> apply Eq.refl) | (apply q_not <;> apply Eq.refl) | (apply q_arith <;> (first | apply Eq.refl | omega)) | (apply q_len <;> apply Eq.refl) | (apply q_pkT <;> apply Eq.refl) | (apply q_pkF <;> apply Eq.refl) | (apply q_ia <;> (first | apply Eq.refl | omega)) | (apply q_ldba <;> apply Eq.refl) | (apply q_ldra <;> apply Eq.refl))))
    | (apply WG_call; (first | (apply want_none; apply Eq.refl) | (apply want_some; apply Eq.refl; apply Eq.refl; apply Eq.refl)); apply Eq.refl; apply Eq.refl; apply Eq.refl; exact (c66 _ _ _))
    | (apply WG_call; (first | (apply want_none; apply Eq.refl) | (apply want_some; apply Eq.refl; apply Eq.refl; apply Eq.refl)); apply Eq.refl; apply Eq.refl; apply Eq.refl; exact (c108 c t (t.holds.getD (k : Int).toNat default) (by omega) (by omega) (by omega) (by omega)))
    | (apply WG_call; (first | (apply want_none; apply Eq.refl) | (apply want_some; apply Eq.refl; apply Eq.refl; apply Eq.refl)); apply Eq.refl; apply Eq.refl; apply Eq.refl; exact (c108 c t (t.holds.getD ((k : Int) - 1).toNat default) (by omega) (by omega) (by omega) (by omega)))
    | (apply WG_no; apply Eq.refl; apply Eq.refl; apply Eq.refl; apply Eq.refl; apply Eq.refl)
    | (apply G_tD; apply Eq.refl; apply Eq.refl; apply Eq.refl; intro _; rotate_left 1; intro _; rotate_left 1)
    | (apply W_cD; apply Eq.refl; intro _; rotate_left 1; intro _; rotate_left 1)
    | (apply W_cND; apply Eq.refl; intro _; rotate_left 1; intro _; rotate_left 1))
    all_goals try simp only [Int.toNat_natCast] at *
    all_goals first
      | (refine fin_I rfl rfl (chk_2 hi (by omega) (by first | (left; assumption) | (right; assumption))); done)
      | (refine fin_I rfl rfl (chk_11 hi (by omega) (by assumption) (by assumption) (by omega) (by rw [← e1 (by omega)]; assumption)); done)
      | (refine fin_I rfl rfl (chk_end hi (by omega)); done)
      | (refine ⟨k + 1, chk_next hi (by omega) (by assumption) (by assumption) (fun h => by first | (rw [← e1 h]; assumption) | omega), by omega, (by refine ⟨?_, ?_, ?_⟩ <;> repeat' (first | exact trivial | apply And.intro | apply Eq.refl))⟩; done)
      | skip
def chkTrucks (c : Convoy) : List Truck → Int
  | [] => 0
  | t :: ts => if chkTruck c t ≠ 0 then chkTruck c t else chkTrucks c ts
def chkConvoy (c : Convoy) : Int :=
  if ¬ (1 ≤ c.len ∧ c.len ≤ 100000) ∨ ¬ (1 ≤ c.gap ∧ c.gap ≤ 100000) ∨ ¬ (0 ≤ c.fails ∧ c.fails ≤ 20) then 2
  else if c.trucks.length > 20 then 8
  else chkTrucks c c.trucks
def ckInv (c : Convoy) (k : Nat) : Prop := k ≤ c.trucks.length ∧ chkTrucks c (c.trucks.drop k) = chkTrucks c c.trucks
theorem ck_end {c : Convoy} {k : Nat} (hi : ckInv c k) (h : ¬ k < c.trucks.length) : 0 = chkTrucks c c.trucks := by
  rw [← hi.2, List.drop_eq_nil_of_le (by omega)]; rfl
theorem ck_err {c : Convoy} {k : Nat} (hi : ckInv c k) (h : k < c.trucks.length) (he : chkTruck c (c.trucks.getD k default) ≠ 0) : chkTruck c (c.trucks.getD k default) = chkTrucks c c.trucks := by
  rw [← hi.2, drop_getD _ _ h, chkTrucks, if_pos he]
theorem ck_next {c : Convoy} {k : Nat} (hi : ckInv c k) (h : k < c.trucks.length) (he : chkTruck c (c.trucks.getD k default) = 0) : ckInv c (k + 1) :=
  ⟨h, by rw [← hi.2, drop_getD _ _ h, chkTrucks, if_neg (fun h => h he)]⟩
theorem c21 (c : Convoy) : Contract seat 21 [.agg (encConvoy c)] (.int .i64 (chkConvoy c)) := by
  refine contract_intro (fn := Tryd.f21) Tryd.func21 rfl (by kernel_rfl) rfl ?_ ?_ ?_
  · exact PureL.cons (.agg _ (pure_convoy c)) PureL.nil
  · exact .int _ _
  intro w κ
  repeat' (first
    | (apply WL_q; apply Eq.refl; apply Eq.refl; (first | (apply q_mvI <;> apply Eq.refl) | (apply q_asI <;> apply Eq.refl) | (apply q_ldb <;> apply Eq.refl) | (apply q_fab <;> apply Eq.refl) | (apply q_cmp <;> apply Eq.refl) | (apply q_mvB <;> apply Eq.refl) | (apply q_asB <;> apply Eq.refl) | (apply q_not <;> apply Eq.refl) | (apply q_arith <;> (first | apply Eq.refl | omega)) | (apply q_len <;> apply Eq.refl) | (apply q_pkT <;> apply Eq.refl) | (apply q_pkF <;> apply Eq.refl) | (apply q_ia <;> (first | apply Eq.refl | omega)) | (apply q_ldba <;> apply Eq.refl) | (apply q_ldra <;> apply Eq.refl)))
    | apply W_seq
    | apply W_region
    | apply T_normal
    | apply WL_nil
    | apply T_exit
    | apply T_ret
    | apply B_normal
    | apply B_ret
    | apply B_exit_eq
    | apply W_skip
    | apply W_exit
    | apply W_ret
    | apply W_block
    | (apply W_condT; apply Eq.refl)
    | (apply WL_call; apply Eq.refl; apply Eq.refl; rotate_left 1; apply Eq.refl; rotate_right 1; exact (c64 _ _ _); apply Eq.refl)
    | (apply WL_n; apply Eq.refl; (first | (apply n_boxa <;> apply Eq.refl) | (apply n_alloc <;> apply Eq.refl) | (apply n_stb <;> apply Eq.refl)))
    | (apply WL_yes; apply Eq.refl; apply Eq.refl; apply Eq.refl)
    | (apply WL_no; apply Eq.refl; apply Eq.refl; apply Eq.refl; apply Eq.refl; apply Eq.refl)
    | (apply L_tND; apply Eq.refl; apply Eq.refl; apply Eq.refl; intro _; rotate_left 1; intro _; rotate_left 1)
    | (apply W_cD; apply Eq.refl; intro _; rotate_left 1; intro _; rotate_left 1)
    | (apply W_cND; apply Eq.refl; intro _; rotate_left 1; intro _; rotate_left 1))
  all_goals try (refine fin_I rfl rfl ?_; simp [chkConvoy]; omega)
  all_goals
    have hspec : chkConvoy c = chkTrucks c c.trucks := by simp [chkConvoy]; omega
    rw [hspec]
    clear hspec
    refine W_loopM (α := Nat) (fun k => [(1, .bx 1 1 0), (29, slOf 5 encTruck c.trucks), (30, .int .i64 c.trucks.length), (31, .int .i64 k)]) (fun _ => [(1, 1)])
      (fun _ => [(1, .box (encConvoy c))]) (ckInv c) (fun k => c.trucks.length - k) 0 ⟨Nat.zero_le _, rfl⟩ (by refine ⟨?_, ?_, ?_⟩ <;> repeat' (first | exact trivial | apply And.intro | apply Eq.refl)) (fun k h hi => ?_)
    have hk := hi.1
    repeat' (first
    | (apply WL_q; apply Eq.refl; apply Eq.refl; (first | (apply q_mvI <;> apply Eq.refl) | (apply q_asI <;> apply Eq.refl) | (apply q_ldb <;> apply Eq.refl) | (apply q_fab <;> apply Eq.refl) | (apply q_cmp <;> apply Eq.refl) | (apply q_mvB <;> apply Eq.refl) | (apply q_asB <;> apply Eq.refl) | (apply q_not <;> apply Eq.refl) | (apply q_arith <;> (first | apply Eq.refl | omega)) | (apply q_len <;> apply Eq.refl) | (apply q_pkT <;> apply Eq.refl) | (apply q_pkF <;> apply Eq.refl) | (apply q_ia <;> (first | apply Eq.refl | omega)) | (apply q_ldba <;> apply Eq.refl) | (apply q_ldra <;> apply Eq.refl)))
    | apply W_seq
    | apply W_region
    | apply T_normal
    | apply WL_nil
    | apply T_exit
    | apply T_ret
    | apply B_normal
    | apply B_ret
    | apply B_exit_eq
    | apply W_skip
    | apply W_exit
    | apply W_ret
    | apply W_block
    | (apply W_condT; apply Eq.refl)
    | (apply WL_call; apply Eq.refl; apply Eq.refl; rotate_left 1; apply Eq.refl; rotate_right 1; exact (c65 c (c.trucks.getD k default) (by omega) (by omega)); apply Eq.refl)
    | (apply WL_n; apply Eq.refl; (first | (apply n_boxa <;> apply Eq.refl) | (apply n_alloc <;> apply Eq.refl) | (apply n_stb <;> apply Eq.refl)))
    | (apply WL_yes; apply Eq.refl; apply Eq.refl; apply Eq.refl)
    | (apply WL_no; apply Eq.refl; apply Eq.refl; apply Eq.refl; apply Eq.refl; apply Eq.refl)
    | (apply L_tND; apply Eq.refl; apply Eq.refl; apply Eq.refl; intro _; rotate_left 1; intro _; rotate_left 1)
    | (apply W_cD; apply Eq.refl; intro _; rotate_left 1; intro _; rotate_left 1)
    | (apply W_cND; apply Eq.refl; intro _; rotate_left 1; intro _; rotate_left 1))
    all_goals first
      | (refine fin_I rfl rfl (ck_err hi (by omega) (by assumption)); done)
      | (refine fin_I rfl rfl (ck_end hi (by omega)); done)
      | (refine ⟨k + 1, ck_next hi (by omega) (by assumption), by omega, (by refine ⟨?_, ?_, ?_⟩ <;> repeat' (first | exact trivial | apply And.intro | apply Eq.refl))⟩; done)
      | skip
theorem c22 (c : Convoy) : Contract seat 22 [.agg (encConvoy c)] (.int .i64 (chkConvoy c)) := by
  refine contract_intro (fn := Tryd.f22) Tryd.func22 rfl (by kernel_rfl) rfl ?_ ?_ ?_
  · exact PureL.cons (.agg _ (pure_convoy c)) PureL.nil
  · exact .int _ _
  intro w κ
  repeat' (first
    | (apply WL_q; apply Eq.refl; apply Eq.refl; (first | (apply q_mvI <;> apply Eq.refl) | (apply q_asI <;> apply Eq.refl) | (apply q_ldb <;> apply Eq.refl) | (apply q_fab <;> apply Eq.refl) | (apply q_cmp <;> apply Eq.refl) | (apply q_mvB <;> apply Eq.refl) | (apply q_not <;> apply Eq.refl) | (apply q_arith <;> (first | apply Eq.refl | omega)) | (apply q_len <;> apply Eq.refl) | (apply q_pkT <;> apply Eq.refl) | (apply q_pkF <;> apply Eq.refl) | (apply q_ia <;> (first | apply Eq.refl | omega)) | (apply q_ldba <;> apply Eq.refl) | (apply q_ldra <;> apply Eq.refl)))
    | apply W_seq
    | apply W_region
    | apply T_normal
    | apply WL_nil
    | apply T_exit
    | apply T_ret
    | apply B_normal
    | apply B_ret
    | apply B_exit_eq
    | apply W_skip
    | apply W_exit
    | apply W_ret
    | apply W_block
    | (apply W_condT; apply Eq.refl)
    | (apply WL_call; apply Eq.refl; apply Eq.refl; rotate_left 1; apply Eq.refl; rotate_right 1; exact (c66 _ _ _); apply Eq.refl)
    | (apply WL_n; apply Eq.refl; (first | (apply n_boxa <;> apply Eq.refl)))
    | (apply WL_yes; apply Eq.refl; apply Eq.refl; apply Eq.refl)
    | (apply WL_no; apply Eq.refl; apply Eq.refl; apply Eq.refl; apply Eq.refl; apply Eq.refl)
    | (apply L_tND; apply Eq.refl; apply Eq.refl; apply Eq.refl; intro _; rotate_left 1; intro _; rotate_left 1)
    | apply W_regionG
    | (apply WG_nil; kernel_rfl)
    | (apply WG_q; (first | (apply want_none; apply Eq.refl) | (apply want_some; apply Eq.refl; apply Eq.refl; apply Eq.refl)); apply Eq.refl; first | (apply fq_bld <;> apply Eq.refl) | (apply fq_blda <;> apply Eq.refl) | (apply fq_fn; apply Eq.refl) | (apply fq_mf; apply Eq.refl) | (apply FQ_intro; intro _; (first | (apply q_mvI <;> apply Eq.refl) | (apply q_asI <;> apply Eq.refl) | (apply q_ldb <;> apply Eq.refl) | (apply q_fab <;> apply Eq.refl) | (apply q_cmp <;> apply Eq.refl) | (apply q_mvB <;> apply Eq.refl) | (apply q_not <;> apply Eq.refl) | (apply q_arith <;> (first | apply Eq.refl | omega)) | (apply q_len <;> apply Eq.refl) | (apply q_pkT <;> apply Eq.refl) | (apply q_pkF <;> apply Eq.refl) | (apply q_ia <;> (first | apply Eq.refl | omega)) | (apply q_ldba <;> apply Eq.refl) | (apply q_ldra <;> apply Eq.refl))))
    | (apply WG_call; (first | (apply want_none; apply Eq.refl) | (apply want_some; apply Eq.refl; apply Eq.refl; apply Eq.refl)); apply Eq.refl; apply Eq.refl; apply Eq.refl; exact (c66 _ _ _))
    | (apply W_cD; apply Eq.refl; intro _; rotate_left 1; intro _; rotate_left 1)
    | (apply W_cND; apply Eq.refl; intro _; rotate_left 1; intro _; rotate_left 1))
  all_goals try (refine fin_I rfl rfl ?_; simp [chkConvoy]; omega)
  all_goals
    have hspec : chkConvoy c = chkTrucks c c.trucks := by simp [chkConvoy]; omega
    rw [hspec]
    clear hspec
    refine W_loopM (α := Nat) (fun k => [(1, .bx 1 1 0), (3, .int .i64 k)]) (fun _ => [(1, 1)])
      (fun _ => [(1, .box (encConvoy c))]) (ckInv c) (fun k => c.trucks.length - k) 0 ⟨Nat.zero_le _, rfl⟩ (by refine ⟨?_, ?_, ?_⟩ <;> repeat' (first | exact trivial | apply And.intro | apply Eq.refl)) (fun k h hi => ?_)
    have hk := hi.1
    repeat' (first
    | (apply WL_q; apply Eq.refl; apply Eq.refl; (first | (apply q_mvI <;> apply Eq.refl) | (apply q_asI <;> apply Eq.refl) | (apply q_ldb <;> apply Eq.refl) | (apply q_fab <;> apply Eq.refl) | (apply q_cmp <;> apply Eq.refl) | (apply q_mvB <;> apply Eq.refl) | (apply q_not <;> apply Eq.refl) | (apply q_arith <;> (first | apply Eq.refl | omega)) | (apply q_len <;> apply Eq.refl) | (apply q_pkT <;> apply Eq.refl) | (apply q_pkF <;> apply Eq.refl) | (apply q_ia <;> (first | apply Eq.refl | omega)) | (apply q_ldba <;> apply Eq.refl) | (apply q_ldra <;> apply Eq.refl)))
    | apply W_seq
    | apply W_region
    | apply T_normal
    | apply WL_nil
    | apply T_exit
    | apply T_ret
    | apply B_normal
    | apply B_ret
    | apply B_exit_eq
    | apply W_skip
    | apply W_exit
    | apply W_ret
    | apply W_block
    | (apply W_condT; apply Eq.refl)
    | (apply WL_call; apply Eq.refl; apply Eq.refl; rotate_left 1; apply Eq.refl; rotate_right 1; exact (c67 c (c.trucks.getD k default) (by omega) (by omega)); apply Eq.refl)
    | (apply WL_n; apply Eq.refl; (first | (apply n_boxa <;> apply Eq.refl)))
    | (apply WL_yes; apply Eq.refl; apply Eq.refl; apply Eq.refl)
    | (apply WL_no; apply Eq.refl; apply Eq.refl; apply Eq.refl; apply Eq.refl; apply Eq.refl)
    | (apply L_tND; apply Eq.refl; apply Eq.refl; apply Eq.refl; intro _; rotate_left 1; intro _; rotate_left 1)
    | apply W_regionG
    | (apply WG_nil; kernel_rfl)
    | (apply WG_q; (first | (apply want_none; apply Eq.refl) | (apply want_some; apply Eq.refl; apply Eq.refl; apply Eq.refl)); apply Eq.refl; first | (apply fq_bld <;> apply Eq.refl) | (apply fq_blda <;> apply Eq.refl) | (apply fq_fn; apply Eq.refl) | (apply fq_mf; apply Eq.refl) | (apply FQ_intro; intro _; (first | (apply q_mvI <;> apply Eq.refl) | (apply q_asI <;> apply Eq.refl) | (apply q_ldb <;> apply Eq.refl) | (apply q_fab <;> apply Eq.refl) | (apply q_cmp <;> apply Eq.refl) | (apply q_mvB <;> apply Eq.refl) | (apply q_not <;> apply Eq.refl) | (apply q_arith <;> (first | apply Eq.refl | omega)) | (apply q_len <;> apply Eq.refl) | (apply q_pkT <;> apply Eq.refl) | (apply q_pkF <;> apply Eq.refl) | (apply q_ia <;> (first | apply Eq.refl | omega)) | (apply q_ldba <;> apply Eq.refl) | (apply q_ldra <;> apply Eq.refl))))
    | (apply WG_call; (first | (apply want_none; apply Eq.refl) | (apply want_some; apply Eq.refl; apply Eq.refl; apply Eq.refl)); apply Eq.refl; apply Eq.refl; apply Eq.refl; exact (c67 c (c.trucks.getD k default) (by omega) (by omega)))
    | (apply W_cD; apply Eq.refl; intro _; rotate_left 1; intro _; rotate_left 1)
    | (apply W_cND; apply Eq.refl; intro _; rotate_left 1; intro _; rotate_left 1))
    all_goals first
      | (refine fin_I rfl rfl (ck_err hi (by omega) (by assumption)); done)
      | (refine fin_I rfl rfl (ck_end hi (by omega)); done)
      | (refine ⟨k + 1, ck_next hi (by omega) (by assumption), by omega, (by refine ⟨?_, ?_, ?_⟩ <;> repeat' (first | exact trivial | apply And.intro | apply Eq.refl))⟩; done)
      | skip
end Go.Proofs.YtafnhieaeejlcaaDoor
namespace Go.Proofs.YtafnhieaeejlcaaDoor
open Go Go.Ab
set_option maxRecDepth 100000
set_option maxHeartbeats 4000000
attribute [local irreducible] W WL QOp NOp thenQ blockQ FinQ WG FQ Want FinW WI WIL thenI blockI
def HOk (len : Int) (hs : List Hold) : Prop := hs.length ≤ 8 ∧ ∀ k, k < hs.length → 1 ≤ (hs.getD k default).a ∧ (hs.getD k default).a ≤ len - 1 ∧ 0 ≤ (hs.getD k default).u ∧ (hs.getD k default).u ≤ 10000
def stopR (way len : Int) (gone m : Int) : List Hold → Int
  | [] => len
  | h :: hs => if alongI way len h.a ≥ gone ∧ h.u > m then alongI way len h.a else stopR way len gone m hs
theorem stopR_end {way len gone m : Int} {hs : List Hold} {k : Nat} (hi : stopR way len gone m (hs.drop k) = stopR way len gone m hs) (h : ¬ k < hs.length) : len = stopR way len gone m hs := by
  rw [← hi, List.drop_eq_nil_of_le (by omega)]; rfl
theorem stopR_hit {way len gone m : Int} {hs : List Hold} {k : Nat} (hi : stopR way len gone m (hs.drop k) = stopR way len gone m hs) (h : k < hs.length) (h1 : alongI way len (hs.getD k default).a ≥ gone) (h2 : (hs.getD k default).u > m) :
    alongI way len (hs.getD k default).a = stopR way len gone m hs := by
  rw [← hi, drop_getD _ _ h, stopR, if_pos ⟨h1, h2⟩]
theorem stopR_next {way len gone m : Int} {hs : List Hold} {k : Nat} (hi : stopR way len gone m (hs.drop k) = stopR way len gone m hs) (h : k < hs.length) (h1 : ¬ (alongI way len (hs.getD k default).a ≥ gone ∧ (hs.getD k default).u > m)) :
    stopR way len gone m (hs.drop (k + 1)) = stopR way len gone m hs := by
  rw [← hi, drop_getD _ _ h, stopR, if_neg h1]
theorem c122 (c : Convoy) (t : Truck) (gone m : Int) (hl : 1 ≤ c.len) (hl2 : c.len ≤ 100000) (ho : HOk c.len t.holds) : Contract seat 122 [.agg (encConvoy c), .agg (encTruck t), .int .i64 gone, .int .i64 m] (.int .i64 (stopR t.way c.len gone m t.holds)) := by
  refine contract_intro (fn := Tryd.f122) Tryd.func122 rfl (by kernel_rfl) rfl ?_ ?_ ?_
  · exact PureL.cons (.agg _ (pure_convoy c)) (PureL.cons (.agg _ (pure_truck t)) (PureL.cons (.int _ _) (PureL.cons (.int _ _) PureL.nil)))
  · exact .int _ _
  intro w κ
  repeat' (first
    | (apply WL_q; apply Eq.refl; apply Eq.refl; (first | (apply q_mvI <;> apply Eq.refl) | (apply q_asI <;> apply Eq.refl) | (apply q_ldb <;> apply Eq.refl) | (apply q_fab <;> apply Eq.refl) | (apply q_cmp <;> apply Eq.refl) | (apply q_mvB <;> apply Eq.refl) | (apply q_ldr <;> apply Eq.refl) | (apply q_far <;> apply Eq.refl) | (apply q_arith <;> (first | apply Eq.refl | omega)) | (apply q_len <;> apply Eq.refl) | (apply q_pkT <;> apply Eq.refl) | (apply q_pkF <;> apply Eq.refl) | (apply q_ia <;> (first | apply Eq.refl | omega)) | (apply q_ldba <;> apply Eq.refl) | (apply q_ldra <;> apply Eq.refl)))
    | apply W_seq
    | apply W_region
    | apply T_normal
    | apply WL_nil
    | apply T_exit
    | apply T_ret
    | apply B_normal
    | apply B_ret
    | apply B_exit_eq
    | apply W_skip
    | apply W_exit
    | apply W_ret
    | apply W_block
    | (apply W_condF; apply Eq.refl)
    | (apply WL_n; apply Eq.refl; (first | (apply n_boxa <;> apply Eq.refl)))
    | apply W_regionG
    | (apply WG_nil; kernel_rfl)
    | (apply WG_q; (first | (apply want_none; apply Eq.refl) | (apply want_some; apply Eq.refl; apply Eq.refl; apply Eq.refl)); apply Eq.refl; first | (apply fq_bld <;> apply Eq.refl) | (apply fq_blda <;> apply Eq.refl) | (apply fq_fn; apply Eq.refl) | (apply fq_mf; apply Eq.refl) | (apply FQ_intro; intro _; (first | (apply q_mvI <;> apply Eq.refl) | (apply q_asI <;> apply Eq.refl) | (apply q_ldb <;> apply Eq.refl) | (apply q_fab <;> apply Eq.refl) | (apply q_cmp <;> apply Eq.refl) | (apply q_mvB <;> apply Eq.refl) | (apply q_ldr <;> apply Eq.refl) | (apply q_far <;> apply Eq.refl) | (apply q_arith <;> (first | apply Eq.refl | omega)) | (apply q_len <;> apply Eq.refl) | (apply q_pkT <;> apply Eq.refl) | (apply q_pkF <;> apply Eq.refl) | (apply q_ia <;> (first | apply Eq.refl | omega)) | (apply q_ldba <;> apply Eq.refl) | (apply q_ldra <;> apply Eq.refl))))
    | (apply WG_no; apply Eq.refl; apply Eq.refl; apply Eq.refl; apply Eq.refl; apply Eq.refl)
    | (apply G_tD; apply Eq.refl; apply Eq.refl; apply Eq.refl; intro _; rotate_left 1; intro _; rotate_left 1)
    | (apply W_cD; apply Eq.refl; intro _; rotate_left 1; intro _; rotate_left 1))
  refine W_loopM (α := Nat) (fun k => [(2, .int .i64 gone), (3, .int .i64 m), (4, .bx 4 1 0), (5, .bx 5 1 0), (9, .int .i64 k)]) (fun _ => [(4, 1), (5, 1)])
      (fun _ => [(4, .box (encConvoy c)), (5, .box (encTruck t))]) (fun k => k ≤ t.holds.length ∧ stopR t.way c.len gone m (t.holds.drop k) = stopR t.way c.len gone m t.holds) (fun k => t.holds.length - k) 0 ⟨Nat.zero_le _, rfl⟩ (by refine ⟨?_, ?_, ?_⟩ <;> repeat' (first | exact trivial | apply And.intro | apply Eq.refl)) (fun k h hi => ?_)
  have hk := hi.1
  have hl8 := ho.1
  have hb : ∀ hk' : (k : Int) < t.holds.length, 1 ≤ (t.holds.getD (k : Int).toNat default).a ∧ (t.holds.getD (k : Int).toNat default).a ≤ c.len - 1 := fun h => by
    have := ho.2 k (by omega); simp only [Int.toNat_natCast]; omega
  repeat' (first
    | (apply WL_q; apply Eq.refl; apply Eq.refl; (first | (apply q_mvI <;> apply Eq.refl) | (apply q_asI <;> apply Eq.refl) | (apply q_ldb <;> apply Eq.refl) | (apply q_fab <;> apply Eq.refl) | (apply q_cmp <;> apply Eq.refl) | (apply q_mvB <;> apply Eq.refl) | (apply q_ldr <;> apply Eq.refl) | (apply q_far <;> apply Eq.refl) | (apply q_arith <;> (first | apply Eq.refl | omega)) | (apply q_len <;> apply Eq.refl) | (apply q_pkT <;> apply Eq.refl) | (apply q_pkF <;> apply Eq.refl) | (apply q_ia <;> (first | apply Eq.refl | omega)) | (apply q_ldba <;> apply Eq.refl) | (apply q_ldra <;> apply Eq.refl)))
    | apply W_seq
    | apply W_region
    | apply T_normal
    | apply WL_nil
    | apply T_exit
    | apply T_ret
    | apply B_normal
    | apply B_ret
    | apply B_exit_eq
    | apply W_skip
    | apply W_exit
    | apply W_ret
    | apply W_block
    | (apply W_condF; apply Eq.refl)
    | (apply WL_n; apply Eq.refl; (first | (apply n_boxa <;> apply Eq.refl)))
    | apply W_regionG
    | (apply WG_nil; kernel_rfl)
    | (apply WG_q; (first | (apply want_none; apply Eq.refl) | (apply want_some; apply Eq.refl; apply Eq.refl; apply Eq.refl)); apply Eq.refl; first | (apply fq_bld <;> apply Eq.refl) | (apply fq_blda <;> apply Eq.refl) | (apply fq_fn; apply Eq.refl) | (apply fq_mf; apply Eq.refl) | (apply FQ_intro; intro _; (first | (apply q_mvI <;> apply Eq.refl) | (apply q_asI <;> apply Eq.refl) | (apply q_ldb <;> apply Eq.refl) | (apply q_fab <;> apply Eq.refl) | (apply q_cmp <;> apply Eq.refl) | (apply q_mvB <;> apply Eq.refl) | (apply q_ldr <;> apply Eq.refl) | (apply q_far <;> apply Eq.refl) | (apply q_arith <;> (first | apply Eq.refl | omega)) | (apply q_len <;> apply Eq.refl) | (apply q_pkT <;> apply Eq.refl) | (apply q_pkF <;> apply Eq.refl) | (apply q_ia <;> (first | apply Eq.refl | omega)) | (apply q_ldba <;> apply Eq.refl) | (apply q_ldra <;> apply Eq.refl))))
    | (apply WG_call; (first | (apply want_none; apply Eq.refl) | (apply want_some; apply Eq.refl; apply Eq.refl; apply Eq.refl)); apply Eq.refl; apply Eq.refl; apply Eq.refl; exact (c108 c t (t.holds.getD (k : Int).toNat default) (by have := hb (by assumption); omega) (by have := hb (by assumption); omega) (by omega) (by omega)))
    | (apply WG_no; apply Eq.refl; apply Eq.refl; apply Eq.refl; apply Eq.refl; apply Eq.refl)
    | (apply G_tD; apply Eq.refl; apply Eq.refl; apply Eq.refl; intro _; rotate_left 1; intro _; rotate_left 1)
    | (apply W_cD; apply Eq.refl; intro _; rotate_left 1; intro _; rotate_left 1))
  all_goals try simp only [Int.toNat_natCast] at *
  all_goals first
    | (refine fin_I rfl rfl (stopR_hit hi.2 (by omega) (by assumption) (by assumption)); done)
    | (refine fin_I rfl rfl (stopR_end hi.2 (by omega)); done)
    | (refine ⟨k + 1, ⟨by omega, stopR_next hi.2 (by omega) (by omega)⟩, by omega, (by refine ⟨?_, ?_, ?_⟩ <;> repeat' (first | exact trivial | apply And.intro | apply Eq.refl))⟩; done)
    | skip
def nextR (t : Truck) (len gone m pace : Int) : Int := min (gone + pace) (stopR t.way len gone m t.holds)
theorem c111 (c : Convoy) (t : Truck) (gone m pace : Int) (hl : 1 ≤ c.len) (hl2 : c.len ≤ 100000) (ho : HOk c.len t.holds) (h0 : 0 ≤ gone) (h1 : gone ≤ 100000) (h2 : 0 ≤ pace) (h3 : pace ≤ 100000) :
    Contract seat 111 [.agg (encConvoy c), .agg (encTruck t), .int .i64 gone, .int .i64 m, .int .i64 pace] (.int .i64 (nextR t c.len gone m pace)) := by
  refine contract_intro (fn := Tryd.f111) Tryd.func111 rfl (by kernel_rfl) rfl ?_ ?_ ?_
  · exact PureL.cons (.agg _ (pure_convoy c)) (PureL.cons (.agg _ (pure_truck t)) (PureL.cons (.int _ _) (PureL.cons (.int _ _) (PureL.cons (.int _ _) PureL.nil))))
  · exact .int _ _
  intro w κ
  repeat' (first
    | (apply WL_q; apply Eq.refl; apply Eq.refl; (first | (apply q_mvI <;> apply Eq.refl) | (apply q_asI <;> apply Eq.refl) | (apply q_arith <;> (first | apply Eq.refl | omega)) | (apply q_ldba <;> apply Eq.refl) | (apply q_min <;> apply Eq.refl)))
    | apply W_seq
    | apply W_region
    | apply T_normal
    | apply WL_nil
    | apply W_ret
    | (apply WL_call; apply Eq.refl; apply Eq.refl; rotate_left 1; apply Eq.refl; rotate_right 1; exact (c122 c t gone m hl hl2 ho); apply Eq.refl)
    | (apply WL_n; apply Eq.refl; (first | (apply n_boxa <;> apply Eq.refl))))
  all_goals (refine fin_I rfl rfl ?_; rfl)
def freeT (t : Truck) (b : Bool) : Truck := if b then { t with holds := [] } else t
theorem c73 (t : Truck) (b : Bool) : Contract seat 73 [.agg (encTruck t), .bool b] (.agg (encTruck (freeT t b))) := by
  refine contract_intro (fn := Tryd.f73) Tryd.func73 rfl (by kernel_rfl) rfl ?_ ?_ ?_
  · exact PureL.cons (.agg _ (pure_truck t)) (PureL.cons (.bool _) PureL.nil)
  · exact .agg _ (pure_truck _)
  intro w κ
  cases b
  · repeat' (first
    | (apply WL_q; apply Eq.refl; apply Eq.refl; (first | (apply q_fab <;> apply Eq.refl) | (apply q_mvB <;> apply Eq.refl) | (apply q_ldba <;> apply Eq.refl)))
    | apply W_seq
    | apply W_region
    | apply T_normal
    | apply WL_nil
    | apply W_skip
    | apply W_ret
    | (apply W_condT; apply Eq.refl)
    | (apply W_condF; apply Eq.refl)
    | (apply WL_n; apply Eq.refl; (first | (apply n_boxa <;> apply Eq.refl) | (apply n_alloc <;> apply Eq.refl) | (apply n_stb <;> apply Eq.refl))))
    all_goals (refine fin_A rfl rfl rfl rfl rfl rfl rfl rfl ?_; rfl)
  · repeat' (first
    | (refine W_wk (wk_nilbox 2 (l' := encTruck { t with holds := [] }) rfl ⟨.inl rfl, .inl rfl, .inl rfl, .inl rfl, .inr ⟨rfl, _, _, rfl⟩, trivial⟩) ?_)
    | (apply WL_q; apply Eq.refl; apply Eq.refl; (first | (apply q_fab <;> apply Eq.refl) | (apply q_mvB <;> apply Eq.refl) | (apply q_ldba <;> apply Eq.refl)))
    | apply W_seq
    | apply W_region
    | apply T_normal
    | apply WL_nil
    | apply W_skip
    | apply W_ret
    | (apply W_condT; apply Eq.refl)
    | (apply W_condF; apply Eq.refl)
    | (apply WL_n; apply Eq.refl; (first | (apply n_boxa <;> apply Eq.refl) | (apply n_alloc <;> apply Eq.refl) | (apply n_stb <;> apply Eq.refl))))
    all_goals (refine fin_A rfl rfl rfl rfl rfl rfl rfl rfl ?_; rfl)
end Go.Proofs.YtafnhieaeejlcaaDoor
namespace Go.Proofs.YtafnhieaeejlcaaDoor
open Go Go.Ab
set_option maxRecDepth 100000
set_option maxHeartbeats 4000000
attribute [local irreducible] W WL QOp NOp thenQ blockQ FinQ WG FQ Want FinW WI WIL thenI blockI
def posR (t : Truck) (len pace : Int) : Nat → Int
  | 0 => 0
  | k + 1 => nextR t len (posR t len pace k) (t.start + k) pace
def hit (f : Nat → Int) (len : Int) : Nat → Nat → Nat
  | 0, k => k
  | n + 1, k => if f k = len then k else hit f len n (k + 1)
theorem hit_of {f : Nat → Int} {len : Int} {K : Nat} (hK : f K = len) : ∀ (n k : Nat), k ≤ K → K ≤ k + n → (∀ j, k ≤ j → j < hit f len n k → f j ≠ len) ∧ f (hit f len n k) = len ∧ k ≤ hit f len n k ∧ hit f len n k ≤ K := by
  intro n
  induction n with
  | zero =>
    intro k h1 h2
    have : k = K := by omega
    subst this
    exact ⟨fun j a b => by simp only [hit] at b; omega, hK, Nat.le_refl _, Nat.le_refl _⟩
  | succ n ih =>
    intro k h1 h2
    by_cases e : f k = len
    · simp only [hit, if_pos e]
      exact ⟨fun j a b => by omega, e, Nat.le_refl _, h1⟩
    · simp only [hit, if_neg e]
      have hne : k ≠ K := by intro h; subst h; exact e hK
      obtain ⟨a, b, c, d⟩ := ih (k + 1) (by omega) (by omega)
      refine ⟨fun j hj hj2 => ?_, b, by omega, d⟩
      by_cases ej : j = k
      · subst ej; exact e
      · exact a j (by omega) hj2
theorem stopR_ge {way len gone m : Int} {hs : List Hold} (h1 : 1 ≤ len) (h : ∀ h ∈ hs, 1 ≤ h.a ∧ h.a ≤ len - 1) : 1 ≤ stopR way len gone m hs ∧ stopR way len gone m hs ≤ len := by
  induction hs with
  | nil => simp only [stopR]; omega
  | cons x hs ih =>
    have hx := h x (List.mem_cons_self ..)
    have := ih fun y hy => h y (List.mem_cons_of_mem _ hy)
    simp only [stopR]
    split
    · simp only [alongI]; split <;> omega
    · exact this
theorem stopR_late {way len gone m : Int} {hs : List Hold} (h : ∀ h ∈ hs, h.u ≤ m) : stopR way len gone m hs = len := by
  induction hs with
  | nil => rfl
  | cons x hs ih =>
    have hx := h x (List.mem_cons_self ..)
    simp only [stopR]
    rw [if_neg (by omega)]
    exact ih fun y hy => h y (List.mem_cons_of_mem _ hy)
theorem mem_getD {α : Type} [Inhabited α] {l : List α} {x : α} (h : x ∈ l) : ∃ k, k < l.length ∧ l.getD k default = x := by
  obtain ⟨k, hk, e⟩ := List.getElem_of_mem h
  exact ⟨k, hk, by simp [List.getD, hk, e]⟩
theorem HOk.mem {len : Int} {hs : List Hold} (h : HOk len hs) : ∀ x ∈ hs, 1 ≤ x.a ∧ x.a ≤ len - 1 ∧ 0 ≤ x.u ∧ x.u ≤ 10000 := fun x hx => by
  obtain ⟨k, hk, e⟩ := mem_getD hx
  exact e ▸ h.2 k hk
section
variable {t : Truck} {len pace : Int}
theorem posR_le (hl : 1 ≤ len) (ho : HOk len t.holds) (hp : 1 ≤ pace) : ∀ k, 0 ≤ posR t len pace k ∧ posR t len pace k ≤ len
  | 0 => ⟨Int.le_refl 0, by simp only [posR]; omega⟩
  | k + 1 => by
    have h1 := posR_le hl ho hp k
    have h2 := stopR_ge (way := t.way) (gone := posR t len pace k) (m := t.start + k) hl fun x hx => ⟨(ho.mem x hx).1, (ho.mem x hx).2.1⟩
    simp only [posR, nextR]
    omega
theorem posR_late (hs : 0 ≤ t.start) (hl : 1 ≤ len) (ho : HOk len t.holds) (hp : 1 ≤ pace) : ∀ j : Nat, min ((j : Int) * pace) len ≤ posR t len pace (10000 + j)
  | 0 => by have := (posR_le hl ho hp 10000).1; simp only [Nat.add_zero]; omega
  | j + 1 => by
    have h1 := posR_late hs hl ho hp j
    have h2 := posR_le hl ho hp (10000 + j)
    show _ ≤ posR t len pace (10000 + j + 1)
    simp only [posR, nextR]
    rw [stopR_late fun x hx => by have := (ho.mem x hx).2.2.2; omega]
    have h3 : ((j + 1 : Nat) : Int) * pace = j * pace + pace := by push_cast; rw [Int.add_mul, Int.one_mul]
    rw [h3]
    omega
theorem posR_hit (hs : 0 ≤ t.start) (hl : 1 ≤ len) (ho : HOk len t.holds) (hp : 1 ≤ pace) (hd : len ≤ 1000 * pace) : posR t len pace 11000 = len := by
  have h1 := posR_late hs hl ho hp 1000
  have h2 := posR_le hl ho hp (10000 + 1000)
  have h3 : posR t len pace (10000 + 1000) = len := by omega
  exact h3
end
def hitR (t : Truck) (len pace : Int) : Nat := hit (posR t len pace) len 11000 0
def arrS (c : Convoy) (t : Truck) : Span := ⟨if hitR t c.len t.hi ≤ hitR t c.len t.lo then t.start + hitR t c.len t.hi else -1, t.start + hitR t c.len t.lo⟩
structure TOk (c : Convoy) (t : Truck) : Prop where
  l1 : 1 ≤ c.len
  l2 : c.len ≤ 100000
  s1 : 0 ≤ t.start
  s2 : t.start ≤ 10000
  p1 : 1 ≤ t.lo
  p2 : t.lo ≤ t.hi
  p3 : t.hi ≤ 1000
  d1 : c.len ≤ 1000 * t.lo
  ho : HOk c.len t.holds
theorem hitR_spec {c : Convoy} {t : Truck} (h : TOk c t) {pace : Int} (hp : t.lo ≤ pace) : posR t c.len pace (hitR t c.len pace) = c.len ∧ (∀ j, j < hitR t c.len pace → posR t c.len pace j ≠ c.len) ∧ hitR t c.len pace ≤ 11000 := by
  have h1 := h.p1
  have h2 := h.d1
  have h0 : posR t c.len pace 11000 = c.len := posR_hit h.s1 h.l1 h.ho (by omega) (by omega)
  obtain ⟨a, b, _, d⟩ := hit_of h0 11000 0 (Nat.zero_le _) (by omega)
  exact ⟨b, fun j hj => a j (Nat.zero_le _) hj, d⟩
def loK (c : Convoy) (t : Truck) (k : Nat) : Int := if hitR t c.len t.hi < k then t.start + hitR t c.len t.hi else -1
def posP (t : Truck) (len pace : Int) (k : Nat) : Int := posR t len pace (k - 1)
theorem posP_eq (t : Truck) (len pace : Int) (k : Nat) : posP t len pace k = posR t len pace (k - 1) := rfl
theorem posP_zero (t : Truck) (len pace : Int) : posP t len pace 0 = 0 := rfl
theorem posP_next {t : Truck} {len pace : Int} {k : Nat} (h : 0 < k) : posP t len pace (k + 1) = nextR t len (posP t len pace k) (t.start + k - 1) pace := by
  obtain ⟨j, rfl⟩ : ∃ j, k = j + 1 := ⟨k - 1, by omega⟩
  show posR t len pace (j + 1) = nextR t len (posR t len pace j) _ pace
  rw [show t.start + ((j + 1 : Nat) : Int) - 1 = t.start + j by omega]; rfl
def arrInv (c : Convoy) (t : Truck) (x : Nat × Int) : Prop := (x.2 = -1 ∧ x.1 ≤ hitR t c.len t.lo) ∨ (x.1 = hitR t c.len t.lo + 1 ∧ x.2 = t.start + hitR t c.len t.lo)
theorem posP_succ (t : Truck) (len pace : Int) (k : Nat) : posP t len pace (k + 1) = posR t len pace k := rfl
theorem posP_01 (t : Truck) (len pace : Int) : posP t len pace 0 = posP t len pace (0 + 1) := rfl
theorem loK_eq (c : Convoy) (t : Truck) (k : Nat) : loK c t k = if hitR t c.len t.hi < k then t.start + hitR t c.len t.hi else -1 := rfl
theorem loK_end (c : Convoy) (t : Truck) : loK c t (hitR t c.len t.lo + 1) = (arrS c t).lo := by
  simp only [loK, arrS, Nat.lt_succ_iff]
theorem toB2 {x : Ab.Own} {k1 k2 : IntKind} {a b a' b' : Int} (h : x = .box [.int k1 a, .int k2 b]) (e1 : a = a') (e2 : b = b') : x = .box [.int k1 a', .int k2 b'] := by rw [h, e1, e2]
theorem loK_zero (c : Convoy) (t : Truck) : loK c t 0 = -1 := rfl
attribute [local irreducible] posP loK hitR posR nextR stopR
theorem c110 (c : Convoy) (t : Truck) (h : TOk c t) : Contract seat 110 [.agg (encConvoy c), .agg (encTruck t)] (.agg (encSpan (arrS c t))) := by
  refine contract_intro (fn := Tryd.f110) Tryd.func110 rfl (by kernel_rfl) rfl ?_ ?_ ?_
  · exact PureL.cons (.agg _ (pure_convoy c)) (PureL.cons (.agg _ (pure_truck t)) PureL.nil)
  · exact .agg _ (pure_span _)
  intro w κ
  obtain ⟨l1, l2, s1, s2, p1, p2, p3, d1, ho⟩ := h
  have h : TOk c t := ⟨l1, l2, s1, s2, p1, p2, p3, d1, ho⟩
  obtain ⟨e1, e2, e3⟩ := hitR_spec h (Int.le_refl t.lo)
  obtain ⟨f1, f2, f3⟩ := hitR_spec h p2
  have bnd := fun k => posR_le (t := t) (pace := t.lo) l1 ho p1 k
  have bnd2 := fun k => posR_le (t := t) (pace := t.hi) l1 ho (by omega) k
  repeat' (first
    | (apply WL_q; apply Eq.refl; apply Eq.refl; (first | (apply q_mvI <;> apply Eq.refl) | (apply q_asI <;> apply Eq.refl) | (apply q_ldb <;> apply Eq.refl) | (apply q_fab <;> apply Eq.refl) | (apply q_cmp <;> apply Eq.refl) | (apply q_mvB <;> apply Eq.refl) | (apply q_arith <;> (first | apply Eq.refl | omega)) | (apply q_pkT <;> apply Eq.refl) | (apply q_pkF <;> apply Eq.refl) | (apply q_ldba <;> apply Eq.refl) | (apply q_bld <;> apply Eq.refl)))
    | apply W_seq
    | apply W_region
    | apply T_normal
    | apply WL_nil
    | apply T_exit
    | apply B_normal
    | apply B_exit_eq
    | apply W_skip
    | apply W_exit
    | apply W_ret
    | apply W_block
    | (apply W_condF; apply Eq.refl)
    | (apply WL_n; apply Eq.refl; (first | (apply n_boxa <;> apply Eq.refl) | (apply n_alloc <;> apply Eq.refl) | (apply n_stb <;> apply Eq.refl)))
    | (apply WL_yes; apply Eq.refl; apply Eq.refl; apply Eq.refl)
    | (apply WL_no; apply Eq.refl; apply Eq.refl; apply Eq.refl; apply Eq.refl; apply Eq.refl)
    | (apply L_tD; apply Eq.refl; apply Eq.refl; apply Eq.refl; intro _; rotate_left 1; intro _; rotate_left 1)
    | apply W_regionG
    | (apply WG_nil; kernel_rfl)
    | (apply WG_q; (first | (apply want_none; apply Eq.refl) | (apply want_some; apply Eq.refl; apply Eq.refl; apply Eq.refl)); apply Eq.refl; first | (apply fq_bld <;> apply Eq.refl) | (apply fq_blda <;> apply Eq.refl) | (apply fq_fn; apply Eq.refl) | (apply fq_mf; apply Eq.refl) | (apply FQ_intro; intro _; (first | (apply q_mvI <;> apply Eq.refl) | (apply q_asI <;> apply Eq.refl) | (apply q_ldb <;> apply Eq.refl) | (apply q_fab <;> apply Eq.refl) | (apply q_cmp <;> apply Eq.refl) | (apply q_mvB <;> apply Eq.refl) | (apply q_arith <;> (first | apply Eq.refl | omega)) | (apply q_pkT <;> apply Eq.refl) | (apply q_pkF <;> apply Eq.refl) | (apply q_ldba <;> apply Eq.refl) | (apply q_bld <;> apply Eq.refl))))
    | (apply WG_n; (first | (apply want_none; apply Eq.refl) | (apply want_some; apply Eq.refl; apply Eq.refl; apply Eq.refl)); (first | (apply f_stb <;> apply Eq.refl)))
    | (apply W_cD; apply Eq.refl; intro _; rotate_left 1; intro _; rotate_left 1))
  refine W_loopM (α := Nat × Int) (fun x => [(2, .bx 2 1 0), (3, .bx 3 1 0), (4, .bx 4 1 0), (5, .bx 5 1 0), (6, .bx 6 1 0), (7, .int .i64 (t.start + x.1))]) (fun _ => [(2, 1), (3, 1), (4, 1), (5, 1), (6, 1)])
      (fun x => [(2, .box (encConvoy c)), (3, .box (encTruck t)), (4, .box [.int .i64 0, .int .i64 0]), (5, .box [.int .i64 (loK c t x.1), .int .i64 x.2]), (6, .box [.int .i64 (posP t c.len t.lo x.1), .int .i64 (posP t c.len t.hi x.1)])])
      (arrInv c t) (fun x => if x.2 < 0 then 20000 - x.1 else 0) (0, -1) (.inl ⟨rfl, Nat.zero_le _⟩) (by refine ⟨?_, ?_, ?_⟩ <;> repeat' (first | exact trivial | apply And.intro | apply Eq.refl | (refine toI rfl ?_; omega) | (refine toB rfl ?_; simp only [posP_zero, loK_zero]))) (fun x h hi => ?_)
  have hP1 : 0 ≤ posP t c.len t.lo x.1 ∧ posP t c.len t.lo x.1 ≤ c.len := by rw [posP_eq]; exact bnd _
  have hP2 : 0 ≤ posP t c.len t.hi x.1 ∧ posP t c.len t.hi x.1 ≤ c.len := by rw [posP_eq]; exact bnd2 _
  have hb : x.2 < 0 → x.2 = -1 ∧ x.1 ≤ hitR t c.len t.lo := fun h => by rcases hi with ⟨a, b⟩ | ⟨a, b⟩ <;> omega
  have hb2 : ¬ x.2 < 0 → x.1 = hitR t c.len t.lo + 1 ∧ x.2 = t.start + hitR t c.len t.lo := fun h => by rcases hi with ⟨a, b⟩ | ⟨a, b⟩ <;> omega
  have hk1 : x.1 ≤ 11001 := by rcases hi with ⟨a, b⟩ | ⟨a, b⟩ <;> omega
  have C1 : 0 < x.1 → Contract seat 111 [.agg (encConvoy c), .agg (encTruck t), .int .i64 (posP t c.len t.lo x.1), .int .i64 (t.start + x.1 - 1), .int .i64 t.lo] (.int .i64 (posP t c.len t.lo (x.1 + 1))) := fun h => by
    rw [posP_next h]; exact c111 c t _ _ _ l1 l2 ho (by omega) (by omega) (by omega) (by omega)
  have C2 : 0 < x.1 → Contract seat 111 [.agg (encConvoy c), .agg (encTruck t), .int .i64 (posP t c.len t.hi x.1), .int .i64 (t.start + x.1 - 1), .int .i64 t.hi] (.int .i64 (posP t c.len t.hi (x.1 + 1))) := fun h => by
    rw [posP_next h]; exact c111 c t _ _ _ l1 l2 ho (by omega) (by omega) (by omega) (by omega)
  have hlo : ∀ k, loK c t k = if hitR t c.len t.hi < k then t.start + hitR t c.len t.hi else -1 := fun k => by rw [loK_eq]
  have hlo0 := hlo x.1
  have hlo1 := hlo (x.1 + 1)
  have hZ : x.1 = 0 → posP t c.len t.lo x.1 = posP t c.len t.lo (x.1 + 1) ∧ posP t c.len t.hi x.1 = posP t c.len t.hi (x.1 + 1) := fun h => by rw [h]; exact ⟨posP_01 _ _ _, posP_01 _ _ _⟩
  have hn1 : x.1 < hitR t c.len t.lo → posP t c.len t.lo (x.1 + 1) ≠ c.len := fun h => by rw [posP_succ]; exact e2 _ h
  have hn2 : x.1 < hitR t c.len t.hi → posP t c.len t.hi (x.1 + 1) ≠ c.len := fun h => by rw [posP_succ]; exact f2 _ h
  have hq1 : x.1 = hitR t c.len t.lo → posP t c.len t.lo (x.1 + 1) = c.len := fun h => by rw [posP_succ, h]; exact e1
  have hq2 : x.1 = hitR t c.len t.hi → posP t c.len t.hi (x.1 + 1) = c.len := fun h => by rw [posP_succ, h]; exact f1
  have hA : posP t c.len t.hi (x.1 + 1) = c.len → loK c t x.1 < 0 → t.start + x.1 = loK c t (x.1 + 1) := fun h1 h2 => by split at hlo0 <;> split at hlo1 <;> omega
  have hB : posP t c.len t.hi (x.1 + 1) ≠ c.len → loK c t x.1 = loK c t (x.1 + 1) := fun h1 => by split at hlo0 <;> split at hlo1 <;> omega
  have hC : ¬ loK c t x.1 < 0 → loK c t x.1 = loK c t (x.1 + 1) := fun h1 => by split at hlo0 <;> split at hlo1 <;> omega
  have hE : x.2 < 0 → posP t c.len t.lo (x.1 + 1) = c.len → arrInv c t (x.1 + 1, t.start + x.1) ∧ (if t.start + (x.1 : Int) < 0 then 20000 - (x.1 + 1) else 0) < (if x.2 < 0 then 20000 - x.1 else 0) := fun h1 h2 => by
    have := hb h1
    have h3 : x.1 = hitR t c.len t.lo := by omega
    refine ⟨.inr ⟨by simp only; omega, by simp only; omega⟩, ?_⟩
    rw [if_neg (by omega), if_pos h1]; omega
  have hF : x.2 < 0 → posP t c.len t.lo (x.1 + 1) ≠ c.len → arrInv c t (x.1 + 1, x.2) ∧ (if x.2 < 0 then 20000 - (x.1 + 1) else 0) < (if x.2 < 0 then 20000 - x.1 else 0) := fun h1 h2 => by
    have := hb h1
    have h3 : x.1 < hitR t c.len t.lo := by omega
    refine ⟨.inl ⟨by simp only; omega, by simp only; omega⟩, ?_⟩
    rw [if_pos h1, if_pos h1]; omega
  clear hlo hlo0 hlo1 hn1 hn2 hq1 hq2
  repeat' (first
    | (apply WL_q; apply Eq.refl; apply Eq.refl; (first | (apply q_mvI <;> apply Eq.refl) | (apply q_asI <;> apply Eq.refl) | (apply q_ldb <;> apply Eq.refl) | (apply q_fab <;> apply Eq.refl) | (apply q_cmp <;> apply Eq.refl) | (apply q_mvB <;> apply Eq.refl) | (apply q_arith <;> (first | apply Eq.refl | omega)) | (apply q_pkT <;> apply Eq.refl) | (apply q_pkF <;> apply Eq.refl) | (apply q_ldba <;> apply Eq.refl) | (apply q_bld <;> apply Eq.refl)))
    | apply W_seq
    | apply W_region
    | apply T_normal
    | apply WL_nil
    | apply T_exit
    | apply B_normal
    | apply B_exit_eq
    | apply W_skip
    | apply W_exit
    | apply W_ret
    | apply W_block
    | (apply W_condF; apply Eq.refl)
    | (apply WL_n; apply Eq.refl; (first | (apply n_boxa <;> apply Eq.refl) | (apply n_alloc <;> apply Eq.refl) | (apply n_stb <;> apply Eq.refl)))
    | (apply WL_yes; apply Eq.refl; apply Eq.refl; apply Eq.refl)
    | (apply WL_no; apply Eq.refl; apply Eq.refl; apply Eq.refl; apply Eq.refl; apply Eq.refl)
    | (apply L_tD; apply Eq.refl; apply Eq.refl; apply Eq.refl; intro _; rotate_left 1; intro _; rotate_left 1)
    | apply W_regionG
    | (apply WG_nil; kernel_rfl)
    | (apply WG_q; (first | (apply want_none; apply Eq.refl) | (apply want_some; apply Eq.refl; apply Eq.refl; apply Eq.refl)); apply Eq.refl; first | (apply fq_bld <;> apply Eq.refl) | (apply fq_blda <;> apply Eq.refl) | (apply fq_fn; apply Eq.refl) | (apply fq_mf; apply Eq.refl) | (apply FQ_intro; intro _; (first | (apply q_mvI <;> apply Eq.refl) | (apply q_asI <;> apply Eq.refl) | (apply q_ldb <;> apply Eq.refl) | (apply q_fab <;> apply Eq.refl) | (apply q_cmp <;> apply Eq.refl) | (apply q_mvB <;> apply Eq.refl) | (apply q_arith <;> (first | apply Eq.refl | omega)) | (apply q_pkT <;> apply Eq.refl) | (apply q_pkF <;> apply Eq.refl) | (apply q_ldba <;> apply Eq.refl) | (apply q_bld <;> apply Eq.refl))))
    | (apply WG_call; (first | (apply want_none; apply Eq.refl) | (apply want_some; apply Eq.refl; apply Eq.refl; apply Eq.refl)); apply Eq.refl; apply Eq.refl; apply Eq.refl; exact (C1 (by omega)))
    | (apply WG_call; (first | (apply want_none; apply Eq.refl) | (apply want_some; apply Eq.refl; apply Eq.refl; apply Eq.refl)); apply Eq.refl; apply Eq.refl; apply Eq.refl; exact (C2 (by omega)))
    | (apply WG_n; (first | (apply want_none; apply Eq.refl) | (apply want_some; apply Eq.refl; apply Eq.refl; apply Eq.refl)); (first | (apply f_stb <;> apply Eq.refl)))
    | (apply W_cD; apply Eq.refl; intro _; rotate_left 1; intro _; rotate_left 1))
  all_goals first
    | (have G := hE (by assumption) (by first | assumption | (have := hZ (by omega); omega)); refine ⟨(x.1 + 1, t.start + x.1), G.1, G.2, ?_⟩; (refine ⟨?_, ?_, ?_⟩ <;> repeat' (first | exact trivial | apply And.intro | apply Eq.refl | (refine toI rfl ?_; omega) | (refine toB2 rfl ?_ ?_ <;> first | omega | exact hA (by first | assumption | (have := hZ (by omega); omega)) (by assumption) | exact hC (by assumption) | exact hB (by first | assumption | (have := hZ (by omega); omega)) | exact (hZ (by omega)).1 | exact (hZ (by omega)).2))); done)
    | (have G := hF (by assumption) (by first | assumption | (have := hZ (by omega); omega)); refine ⟨(x.1 + 1, x.2), G.1, G.2, ?_⟩; (refine ⟨?_, ?_, ?_⟩ <;> repeat' (first | exact trivial | apply And.intro | apply Eq.refl | (refine toI rfl ?_; omega) | (refine toB2 rfl ?_ ?_ <;> first | omega | exact hA (by first | assumption | (have := hZ (by omega); omega)) (by assumption) | exact hC (by assumption) | exact hB (by first | assumption | (have := hZ (by omega); omega)) | exact (hZ (by omega)).1 | exact (hZ (by omega)).2))); done)
    | skip
  all_goals (have G := hb2 (by assumption); refine fin_A rfl rfl rfl rfl rfl rfl rfl rfl ?_; rw [G.1, G.2, loK_end]; rfl)
end Go.Proofs.YtafnhieaeejlcaaDoor
namespace Go.Proofs.YtafnhieaeejlcaaDoor
open Go Go.Ab
set_option maxRecDepth 100000
set_option maxHeartbeats 4000000
attribute [local irreducible] W WL QOp NOp thenQ blockQ FinQ WG FQ Want FinW WI WIL thenI blockI
def mayC (keep fail : Nat → Int) (m : Int) : Nat → Option Int
  | 0 => some 0
  | k + 1 => match mayC keep fail m k with
    | none => none
    | some c => if keep k ≤ m then some c else if fail k > m then none else some (c + 1)
def mayF (keep fail : Nat → Int) (n : Nat) (fails m : Int) : Bool := match mayC keep fail m n with | none => false | some c => decide (c ≤ fails)
theorem mayC_none {keep fail : Nat → Int} {m : Int} {k : Nat} (h : mayC keep fail m k = none) : ∀ n, k ≤ n → mayC keep fail m n = none := by
  intro n hn
  induction n with
  | zero => have : k = 0 := by omega
            subst this; exact h
  | succ n ih =>
    by_cases e : k = n + 1
    · subst e; exact h
    · simp only [mayC, ih (by omega)]
theorem mayC_keep {keep fail : Nat → Int} {m c : Int} {k : Nat} (h : mayC keep fail m k = some c) (h1 : keep k ≤ m) : mayC keep fail m (k + 1) = some c := by simp only [mayC, h, if_pos h1]
theorem mayC_fail {keep fail : Nat → Int} {m c : Int} {k : Nat} (h : mayC keep fail m k = some c) (h1 : ¬ keep k ≤ m) (h2 : ¬ fail k > m) : mayC keep fail m (k + 1) = some (c + 1) := by simp only [mayC, h, if_neg h1, if_neg h2]
theorem mayC_stop {keep fail : Nat → Int} {m c : Int} {k : Nat} (h : mayC keep fail m k = some c) (h1 : ¬ keep k ≤ m) (h2 : fail k > m) : mayC keep fail m (k + 1) = none := by simp only [mayC, h, if_neg h1, if_pos h2]
theorem mayF_no {keep fail : Nat → Int} {m c fails : Int} {k n : Nat} (h : mayC keep fail m k = some c) (h1 : ¬ keep k ≤ m) (h2 : fail k > m) (hk : k < n) : false = mayF keep fail n fails m := by
  simp only [mayF, mayC_none (mayC_stop h h1 h2) n hk]
theorem mayF_end {keep fail : Nat → Int} {m c fails : Int} {k n : Nat} (h : mayC keep fail m k = some c) (hk : k ≤ n) (h2 : ¬ k < n) : decide (c ≤ fails) = mayF keep fail n fails m := by
  have : k = n := by omega
  subst this; simp only [mayF, h]
theorem mayF_late {keep fail : Nat → Int} {m fails : Int} {n : Nat} (h : ∀ k, k < n → keep k ≤ m) (hf : 0 ≤ fails) : mayF keep fail n fails m = true := by
  have : ∀ k, k ≤ n → mayC keep fail m k = some 0 := by
    intro k
    induction k with
    | zero => intro _; rfl
    | succ k ih => intro hk; exact mayC_keep (ih (by omega)) (h k (by omega))
  simp only [mayF, this n (Nat.le_refl _)]; simpa using hf
def mayInv (keep fail : Nat → Int) (m : Int) (n : Nat) (x : Nat × Int) : Prop := x.1 ≤ n ∧ mayC keep fail m x.1 = some x.2 ∧ 0 ≤ x.2 ∧ x.2 ≤ x.1
theorem c118 (keep fail : Nat → Int) (n : Nat) (fails m : Int) (hn : n ≤ 1000) : Contract seat 118 [.sl 1 n (fun i => encI (keep i)), .sl 1 n (fun i => encI (fail i)), .int .i64 fails, .int .i64 m] (.bool (mayF keep fail n fails m)) := by
  refine contract_intro (fn := Tryd.f118) Tryd.func118 rfl (by kernel_rfl) rfl ?_ ?_ ?_
  · exact PureL.cons (.sl _ _ _ fun _ _ d hd => pure_I _ d hd) (PureL.cons (.sl _ _ _ fun _ _ d hd => pure_I _ d hd) (PureL.cons (.int _ _) (PureL.cons (.int _ _) PureL.nil)))
  · exact .bool _
  intro w κ
  repeat' (first
    | (apply WL_q; apply Eq.refl; apply Eq.refl; (first | (apply q_mvI <;> apply Eq.refl) | (apply q_asI <;> apply Eq.refl) | (apply q_cmp <;> apply Eq.refl) | (apply q_asB <;> apply Eq.refl) | (apply q_ldr <;> apply Eq.refl) | (apply q_arith <;> (first | apply Eq.refl | omega)) | (apply q_len <;> apply Eq.refl) | (apply q_ia <;> (first | apply Eq.refl | omega)) | (apply q_mvS <;> apply Eq.refl)))
    | apply W_seq
    | apply W_region
    | apply T_normal
    | apply WL_nil
    | apply T_exit
    | apply T_ret
    | apply B_normal
    | apply B_ret
    | apply B_exit_eq
    | apply W_skip
    | apply W_exit
    | apply W_ret
    | apply W_block
    | (apply W_cD; apply Eq.refl; intro _; rotate_left 1; intro _; rotate_left 1))
  refine W_loopM (α := Nat × Int) (fun x => [(0, .sl 1 n (fun i => encI (keep i))), (1, .sl 1 n (fun i => encI (fail i))), (2, .int .i64 fails), (3, .int .i64 m), (9, .int .i64 x.2), (10, .int .i64 x.1)]) (fun _ => [])
      (fun _ => []) (mayInv keep fail m n) (fun x => n - x.1) (0, 0) ⟨Nat.zero_le _, rfl, Int.le_refl _, Int.le_refl _⟩ (by refine ⟨?_, ?_, ?_⟩ <;> repeat' (first | exact trivial | apply And.intro | apply Eq.refl)) (fun x h hi => ?_)
  obtain ⟨i1, i2, i3, i4⟩ := hi
  repeat' (first
    | (apply WL_q; apply Eq.refl; apply Eq.refl; (first | (apply q_mvI <;> apply Eq.refl) | (apply q_asI <;> apply Eq.refl) | (apply q_cmp <;> apply Eq.refl) | (apply q_asB <;> apply Eq.refl) | (apply q_ldr <;> apply Eq.refl) | (apply q_arith <;> (first | apply Eq.refl | omega)) | (apply q_len <;> apply Eq.refl) | (apply q_ia <;> (first | apply Eq.refl | omega)) | (apply q_mvS <;> apply Eq.refl)))
    | apply W_seq
    | apply W_region
    | apply T_normal
    | apply WL_nil
    | apply T_exit
    | apply T_ret
    | apply B_normal
    | apply B_ret
    | apply B_exit_eq
    | apply W_skip
    | apply W_exit
    | apply W_ret
    | apply W_block
    | (apply W_cD; apply Eq.refl; intro _; rotate_left 1; intro _; rotate_left 1))
  all_goals try simp only [Int.toNat_natCast] at *
  all_goals first
    | (refine fin_B rfl rfl (mayF_no i2 (by assumption) (by assumption) (by omega)); done)
    | (refine fin_B rfl rfl (mayF_end i2 i1 (by omega)); done)
    | (refine ⟨(x.1 + 1, x.2), ⟨by simp only; omega, mayC_keep i2 (by assumption), i3, by simp only; omega⟩, by simp only; omega, (by refine ⟨?_, ?_, ?_⟩ <;> repeat' (first | exact trivial | apply And.intro | apply Eq.refl))⟩; done)
    | (refine ⟨(x.1 + 1, x.2 + 1), ⟨by simp only; omega, mayC_fail i2 (by assumption) (by assumption), by simp only; omega, by simp only; omega⟩, by simp only; omega, (by refine ⟨?_, ?_, ?_⟩ <;> repeat' (first | exact trivial | apply And.intro | apply Eq.refl))⟩; done)
    | skip
end Go.Proofs.YtafnhieaeejlcaaDoor
namespace Go.Proofs.YtafnhieaeejlcaaDoor
open Go Go.Ab
set_option maxRecDepth 100000
set_option maxHeartbeats 4000000
attribute [local irreducible] W WL QOp NOp thenQ blockQ FinQ WG FQ Want FinW WI WIL thenI blockI
theorem chkHolds_ok {way len : Int} : ∀ {hs : List Hold} {p : Option Int}, chkHolds way len p hs = 0 → ∀ k, k < hs.length → 1 ≤ (hs.getD k default).a ∧ (hs.getD k default).a ≤ len - 1 ∧ 0 ≤ (hs.getD k default).u ∧ (hs.getD k default).u ≤ 10000
  | [], _, _, k, hk => by simp at hk
  | h :: hs, p, h0, k, hk => by
    rw [chkHolds_cons] at h0
    split at h0
    · cases h0
    · rename_i hb
      have hrest : ∃ p', chkHolds way len p' hs = 0 := by
        split at h0
        · split at h0
          · cases h0
          · exact ⟨_, h0⟩
        · exact ⟨_, h0⟩
      obtain ⟨p', hp'⟩ := hrest
      match k with
      | 0 => simp only [List.getD_cons_zero]; omega
      | k + 1 => simp only [List.getD_cons_succ]; exact chkHolds_ok hp' k (by simpa using hk)
theorem tok_of {c : Convoy} {t : Truck} (h1 : 1 ≤ c.len) (h2 : c.len ≤ 100000) (h : chkTruck c t = 0) : TOk c t := by
  unfold chkTruck at h
  split at h; · cases h
  split at h; · cases h
  split at h; · cases h
  split at h; · cases h
  split at h; · cases h
  split at h; · cases h
  exact ⟨h1, h2, by omega, by omega, by omega, by omega, by omega, by omega, by omega, chkHolds_ok h⟩
structure COk (c : Convoy) : Prop where
  l1 : 1 ≤ c.len
  l2 : c.len ≤ 100000
  g1 : 1 ≤ c.gap
  g2 : c.gap ≤ 100000
  f1 : 0 ≤ c.fails
  f2 : c.fails ≤ 20
  n : c.trucks.length ≤ 20
  t : ∀ k, k < c.trucks.length → TOk c (c.trucks.getD k default)
theorem chkTrucks_ok {c : Convoy} : ∀ {ts : List Truck}, chkTrucks c ts = 0 → ∀ t ∈ ts, chkTruck c t = 0
  | [], _, t, ht => by cases ht
  | x :: ts, h, t, ht => by
    unfold chkTrucks at h
    split at h
    · rename_i hn; exact absurd h hn
    · rename_i hn
      rcases List.mem_cons.1 ht with rfl | ht
      · exact Classical.not_not.1 hn
      · exact chkTrucks_ok h t ht
theorem cok_of {c : Convoy} (h : chkConvoy c = 0) : COk c := by
  unfold chkConvoy at h
  split at h; · cases h
  split at h; · cases h
  refine ⟨by omega, by omega, by omega, by omega, by omega, by omega, by omega, fun k hk => tok_of (by omega) (by omega) (chkTrucks_ok h _ ?_)⟩
  simp [List.getD, hk]
theorem TOk.free {c : Convoy} {t : Truck} (h : TOk c t) (b : Bool) : TOk c (freeT t b) := by
  cases b
  · exact h
  · exact ⟨h.l1, h.l2, h.s1, h.s2, h.p1, h.p2, h.p3, h.d1, Nat.zero_le _, fun k hk => by cases hk⟩
def keepF (c : Convoy) (k : Nat) : Int := (arrS c (c.trucks.getD k default)).lo
def failF (c : Convoy) (k : Nat) : Int := (arrS c (freeT (c.trucks.getD k default) true)).lo
def endF (c : Convoy) (k : Nat) : Int := (arrS c (c.trucks.getD k default)).hi
def maxUp (f : Nat → Int) : Nat → Int
  | 0 => 0
  | k + 1 => max (maxUp f k) (f k)
theorem arr_bnd {c : Convoy} {t : Truck} (h : TOk c t) : -1 ≤ (arrS c t).lo ∧ (arrS c t).lo ≤ 21000 ∧ 0 ≤ (arrS c t).hi ∧ (arrS c t).hi ≤ 21000 := by
  obtain ⟨_, _, e3⟩ := hitR_spec h (Int.le_refl t.lo)
  obtain ⟨_, _, f3⟩ := hitR_spec h h.p2
  have := h.s1
  have := h.s2
  simp only [arrS]
  split <;> omega
def offLo (c : Convoy) : Nat → Nat → Nat
  | 0, k => k
  | n + 1, k => if mayF (keepF c) (failF c) c.trucks.length c.fails k then k else offLo c n (k + 1)
def offS (c : Convoy) : Span := ⟨offLo c 21000 0, maxUp (endF c) c.trucks.length⟩
theorem offLo_spec (c : Convoy) {K : Nat} (hK : mayF (keepF c) (failF c) c.trucks.length c.fails K = true) : ∀ n k, k ≤ K → K ≤ k + n →
    (∀ j, k ≤ j → j < offLo c n k → mayF (keepF c) (failF c) c.trucks.length c.fails j = false) ∧ mayF (keepF c) (failF c) c.trucks.length c.fails (offLo c n k) = true ∧ offLo c n k ≤ K := by
  intro n
  induction n with
  | zero =>
    intro k h1 h2
    have : k = K := by omega
    subst this
    exact ⟨fun j a b => by simp only [offLo] at b; omega, hK, Nat.le_refl _⟩
  | succ n ih =>
    intro k h1 h2
    by_cases e : mayF (keepF c) (failF c) c.trucks.length c.fails k = true
    · simp only [offLo, if_pos e]
      exact ⟨fun j a b => by omega, e, h1⟩
    · simp only [offLo, if_neg e]
      have hne : k ≠ K := by intro h; subst h; exact e hK
      obtain ⟨a, b, d⟩ := ih (k + 1) (by omega) (by omega)
      refine ⟨fun j hj hj2 => ?_, b, d⟩
      by_cases ej : j = k
      · subst ej; simpa using e
      · exact a j (by omega) hj2
end Go.Proofs.YtafnhieaeejlcaaDoor
namespace Go.Proofs.YtafnhieaeejlcaaDoor
open Go Go.Ab
set_option maxRecDepth 100000
set_option maxHeartbeats 4000000
attribute [local irreducible] W WL QOp NOp thenQ blockQ FinQ WG FQ Want FinW WI WIL thenI blockI
theorem mayF_top {c : Convoy} (hc : COk c) : mayF (keepF c) (failF c) c.trucks.length c.fails 21000 = true :=
  mayF_late (fun k hk => (arr_bnd (hc.t k hk)).2.1) hc.f1
theorem maxUp_succ (c : Convoy) (k : Nat) : maxUp (endF c) (k + 1) = max (maxUp (endF c) k) (arrS c (c.trucks.getD (k : Int).toNat default)).hi := rfl
theorem maxUp_zero (f : Nat → Int) : maxUp f 0 = 0 := rfl
attribute [local irreducible] arrS freeT maxUp mayF offLo
theorem c95 (c : Convoy) (hc : COk c) : Contract seat 95 [.agg (encConvoy c)] (.agg (encSpan (offS c))) := by
  refine contract_intro (fn := Tryd.f95) Tryd.func95 rfl (by kernel_rfl) rfl ?_ ?_ ?_
  · exact PureL.cons (.agg _ (pure_convoy c)) PureL.nil
  · exact .agg _ (pure_span _)
  intro w κ
  have hn := hc.n
  have hf1 := hc.f1
  have hf2 := hc.f2
  have hmax0 := maxUp_zero (endF c)
  repeat' (first
    | (apply WL_q; apply Eq.refl; apply Eq.refl; (first | (apply q_mvI <;> apply Eq.refl) | (apply q_asI <;> apply Eq.refl) | (apply q_ldb <;> apply Eq.refl) | (apply q_fab <;> apply Eq.refl) | (apply q_cmp <;> apply Eq.refl) | (apply q_not <;> apply Eq.refl) | (apply q_arith <;> (first | apply Eq.refl | omega)) | (apply q_len <;> apply Eq.refl) | (apply q_ia <;> (first | apply Eq.refl | omega)) | (apply q_ldba <;> apply Eq.refl) | (apply q_ldra <;> apply Eq.refl) | (apply q_max <;> apply Eq.refl) | (apply q_mvS <;> apply Eq.refl) | (apply q_mvO <;> apply Eq.refl) | (apply q_asO <;> apply Eq.refl) | (apply q_asN <;> apply Eq.refl)))
    | apply W_seq
    | apply W_region
    | apply T_normal
    | apply WL_nil
    | apply T_exit
    | apply B_normal
    | apply B_exit_eq
    | apply W_skip
    | apply W_exit
    | apply W_ret
    | apply W_block
    | (apply WL_n; apply Eq.refl; (first | (apply n_boxa <;> apply Eq.refl) | (apply n_alloc <;> apply Eq.refl) | (apply n_stb <;> apply Eq.refl)))
    | apply W_regionG
    | (apply WG_nil; kernel_rfl)
    | (apply WG_q; (first | (apply want_none; apply Eq.refl) | (apply want_some; apply Eq.refl; apply Eq.refl; apply Eq.refl)); apply Eq.refl; first | (apply fq_bld <;> apply Eq.refl) | (apply fq_blda <;> apply Eq.refl) | (apply fq_fn; apply Eq.refl) | (apply fq_mf; apply Eq.refl) | (apply FQ_intro; intro _; (first | (apply q_mvI <;> apply Eq.refl) | (apply q_asI <;> apply Eq.refl) | (apply q_ldb <;> apply Eq.refl) | (apply q_fab <;> apply Eq.refl) | (apply q_cmp <;> apply Eq.refl) | (apply q_not <;> apply Eq.refl) | (apply q_arith <;> (first | apply Eq.refl | omega)) | (apply q_len <;> apply Eq.refl) | (apply q_ia <;> (first | apply Eq.refl | omega)) | (apply q_ldba <;> apply Eq.refl) | (apply q_ldra <;> apply Eq.refl) | (apply q_max <;> apply Eq.refl) | (apply q_mvS <;> apply Eq.refl) | (apply q_mvO <;> apply Eq.refl) | (apply q_asO <;> apply Eq.refl) | (apply q_asN <;> apply Eq.refl))))
    | (apply WG_n; (first | (apply want_none; apply Eq.refl) | (apply want_some; apply Eq.refl; apply Eq.refl; apply Eq.refl)); (first | (apply f_alloc <;> apply Eq.refl) | (apply f_stb <;> apply Eq.refl) | (apply f_bsl <;> apply Eq.refl)))
    | (apply W_cD; apply Eq.refl; intro _; rotate_left 1; intro _; rotate_left 1)
    | (apply W_cN; apply Eq.refl; intro _; rotate_left 1; intro _; rotate_left 1))
  refine W_wk (wk_nil 4 4 3 1 (fun i => encI (keepF c i)) rfl) ?_
  refine W_wk (wk_nil 5 5 3 1 (fun i => encI (failF c i)) rfl) ?_
  refine W_loopK [1, 2, 3] [1, 2] (fun k : Nat => [(4, .os 4 (k + 1)), (5, .os 5 (k + 1)), (6, .int .i64 k)]) (fun k => [(3, 1), (4, k + 1), (5, k + 1)])
      (fun k => [(3, .box [.int .i64 0, .int .i64 (maxUp (endF c) k)]), (4, .arr 3 1 k (fun i => encI (keepF c i))), (5, .arr 3 1 k (fun i => encI (failF c i)))])
      (fun k => k ≤ c.trucks.length) (fun k => c.trucks.length - k) 0 (Nat.zero_le _) (by refine ⟨?_, ?_, ?_⟩ <;> repeat' (first | exact trivial | apply And.intro | apply Eq.refl | (apply toI; apply Eq.refl; first | omega | assumption) | (apply toB; apply Eq.refl; repeat' (first | apply Eq.refl | apply consS | (apply consI; first | apply Eq.refl | omega | assumption))))) (fun k h hi => ?_)
  have hk := hi
  have ht : (k : Int) < c.trucks.length → TOk c (c.trucks.getD (k : Int).toNat default) := fun h => hc.t _ (by omega)
  have hmk := maxUp_succ c k
  repeat' (first
    | (apply WL_q; apply Eq.refl; apply Eq.refl; (first | (apply q_mvI <;> apply Eq.refl) | (apply q_asI <;> apply Eq.refl) | (apply q_ldb <;> apply Eq.refl) | (apply q_fab <;> apply Eq.refl) | (apply q_cmp <;> apply Eq.refl) | (apply q_not <;> apply Eq.refl) | (apply q_arith <;> (first | apply Eq.refl | omega)) | (apply q_len <;> apply Eq.refl) | (apply q_ia <;> (first | apply Eq.refl | omega)) | (apply q_ldba <;> apply Eq.refl) | (apply q_ldra <;> apply Eq.refl) | (apply q_max <;> apply Eq.refl) | (apply q_mvS <;> apply Eq.refl) | (apply q_mvO <;> apply Eq.refl) | (apply q_asO <;> apply Eq.refl) | (apply q_asN <;> apply Eq.refl)))
    | apply W_seq
    | apply W_region
    | apply T_normal
    | apply WL_nil
    | apply T_exit
    | apply B_normal
    | apply B_exit_eq
    | apply W_skip
    | apply W_exit
    | apply W_ret
    | apply W_block
    | (apply WL_call; apply Eq.refl; apply Eq.refl; rotate_left 1; apply Eq.refl; rotate_right 1; exact (c110 c (c.trucks.getD (k : Int).toNat default) (ht (by assumption))); apply Eq.refl)
    | (apply WL_call; apply Eq.refl; apply Eq.refl; rotate_left 1; apply Eq.refl; rotate_right 1; exact (c73 (c.trucks.getD (k : Int).toNat default) true); apply Eq.refl)
    | (apply WL_call; apply Eq.refl; apply Eq.refl; rotate_left 1; apply Eq.refl; rotate_right 1; exact (c110 c (freeT (c.trucks.getD (k : Int).toNat default) true) ((ht (by assumption)).free true)); apply Eq.refl)
    | (apply WL_n; apply Eq.refl; (first | (apply n_boxa <;> apply Eq.refl) | (apply n_alloc <;> apply Eq.refl) | (apply n_stb <;> apply Eq.refl)))
    | apply W_regionG
    | (apply WG_nil; kernel_rfl)
    | (apply WG_q; (first | (apply want_none; apply Eq.refl) | (apply want_some; apply Eq.refl; apply Eq.refl; apply Eq.refl)); apply Eq.refl; first | (apply fq_bld <;> apply Eq.refl) | (apply fq_blda <;> apply Eq.refl) | (apply fq_fn; apply Eq.refl) | (apply fq_mf; apply Eq.refl) | (apply FQ_intro; intro _; (first | (apply q_mvI <;> apply Eq.refl) | (apply q_asI <;> apply Eq.refl) | (apply q_ldb <;> apply Eq.refl) | (apply q_fab <;> apply Eq.refl) | (apply q_cmp <;> apply Eq.refl) | (apply q_not <;> apply Eq.refl) | (apply q_arith <;> (first | apply Eq.refl | omega)) | (apply q_len <;> apply Eq.refl) | (apply q_ia <;> (first | apply Eq.refl | omega)) | (apply q_ldba <;> apply Eq.refl) | (apply q_ldra <;> apply Eq.refl) | (apply q_max <;> apply Eq.refl) | (apply q_mvS <;> apply Eq.refl) | (apply q_mvO <;> apply Eq.refl) | (apply q_asO <;> apply Eq.refl) | (apply q_asN <;> apply Eq.refl))))
    | (apply WG_call; (first | (apply want_none; apply Eq.refl) | (apply want_some; apply Eq.refl; apply Eq.refl; apply Eq.refl)); apply Eq.refl; apply Eq.refl; apply Eq.refl; exact (c110 c (c.trucks.getD (k : Int).toNat default) (ht (by assumption))))
    | (apply WG_call; (first | (apply want_none; apply Eq.refl) | (apply want_some; apply Eq.refl; apply Eq.refl; apply Eq.refl)); apply Eq.refl; apply Eq.refl; apply Eq.refl; exact (c73 (c.trucks.getD (k : Int).toNat default) true))
    | (apply WG_call; (first | (apply want_none; apply Eq.refl) | (apply want_some; apply Eq.refl; apply Eq.refl; apply Eq.refl)); apply Eq.refl; apply Eq.refl; apply Eq.refl; exact (c110 c (freeT (c.trucks.getD (k : Int).toNat default) true) ((ht (by assumption)).free true)))
    | (apply WG_n; (first | (apply want_none; apply Eq.refl) | (apply want_some; apply Eq.refl; apply Eq.refl; apply Eq.refl)); (first | (refine f_app (f' := fun i => encI (keepF c i)) rfl rfl rfl rfl rfl rfl rfl rfl rfl rfl rfl rfl rfl rfl rfl (by first | omega | (show (k + 1) * 8 ≤ _; omega)) (by omega) rfl (fun i hi => rfl) (fun i hi => by (obtain rfl : i = 0 := by omega); rfl)) | (refine f_app (f' := fun i => encI (failF c i)) rfl rfl rfl rfl rfl rfl rfl rfl rfl rfl rfl rfl rfl rfl rfl (by first | omega | (show (k + 1) * 8 ≤ _; omega)) (by omega) rfl (fun i hi => rfl) (fun i hi => by (obtain rfl : i = 0 := by omega); rfl)) | (apply f_alloc <;> apply Eq.refl) | (apply f_stb <;> apply Eq.refl) | (apply f_bsl <;> apply Eq.refl)))
    | (apply W_cD; apply Eq.refl; intro _; rotate_left 1; intro _; rotate_left 1)
    | (apply W_cN; apply Eq.refl; intro _; rotate_left 1; intro _; rotate_left 1))
  · refine ⟨k + 1, by omega, by omega, (by refine ⟨?_, ?_, ?_, ?_, ?_⟩ <;> repeat' (first | exact trivial | apply And.intro | apply Eq.refl | (apply toI; apply Eq.refl; first | omega | assumption) | (apply toB; apply Eq.refl; repeat' (first | apply Eq.refl | apply consS | (apply consI; first | apply Eq.refl | omega | assumption)))))⟩
  obtain rfl : k = c.trucks.length := by omega
  refine W_wk (wk_freeze 4 rfl rfl rfl) ?_
  refine W_wk (wk_freeze 5 rfl rfl rfl) ?_
  have hK := mayF_top hc
  obtain ⟨o1, o2, o3⟩ := offLo_spec c (K := 21000) hK 21000 0 (by omega) (by omega)
  refine W_loopK [1, 2, 3, 4, 5] [1, 2, 4, 5] (fun j : Nat => []) (fun j => [(3, 1)])
      (fun j => [(3, .box [.int .i64 j, .int .i64 (maxUp (endF c) c.trucks.length)])])
      (fun j => j ≤ offLo c 21000 0) (fun j => offLo c 21000 0 - j) 0 (Nat.zero_le _) (by refine ⟨?_, ?_, ?_⟩ <;> repeat' (first | exact trivial | apply And.intro | apply Eq.refl | (apply toI; apply Eq.refl; first | omega | assumption) | (apply toB; apply Eq.refl; repeat' (first | apply Eq.refl | apply consS | (apply consI; first | apply Eq.refl | omega | assumption))))) (fun j h hj => ?_)
  have hn' : c.trucks.length ≤ 1000 := by omega
  repeat' (first
    | (apply WL_q; apply Eq.refl; apply Eq.refl; (first | (apply q_mvI <;> apply Eq.refl) | (apply q_asI <;> apply Eq.refl) | (apply q_ldb <;> apply Eq.refl) | (apply q_fab <;> apply Eq.refl) | (apply q_cmp <;> apply Eq.refl) | (apply q_not <;> apply Eq.refl) | (apply q_arith <;> (first | apply Eq.refl | omega)) | (apply q_len <;> apply Eq.refl) | (apply q_ia <;> (first | apply Eq.refl | omega)) | (apply q_ldba <;> apply Eq.refl) | (apply q_ldra <;> apply Eq.refl) | (apply q_max <;> apply Eq.refl) | (apply q_mvS <;> apply Eq.refl) | (apply q_mvO <;> apply Eq.refl) | (apply q_asO <;> apply Eq.refl) | (apply q_asN <;> apply Eq.refl)))
    | apply W_seq
    | apply W_region
    | apply T_normal
    | apply WL_nil
    | apply T_exit
    | apply B_normal
    | apply B_exit_eq
    | apply W_skip
    | apply W_exit
    | apply W_ret
    | apply W_block
    | (apply WL_call; apply Eq.refl; apply Eq.refl; rotate_left 1; apply Eq.refl; rotate_right 1; exact (c118 (keepF c) (failF c) c.trucks.length c.fails j hn'); apply Eq.refl)
    | (apply WL_n; apply Eq.refl; (first | (apply n_boxa <;> apply Eq.refl) | (apply n_alloc <;> apply Eq.refl) | (apply n_stb <;> apply Eq.refl)))
    | apply W_regionG
    | (apply WG_nil; kernel_rfl)
    | (apply WG_q; (first | (apply want_none; apply Eq.refl) | (apply want_some; apply Eq.refl; apply Eq.refl; apply Eq.refl)); apply Eq.refl; first | (apply fq_bld <;> apply Eq.refl) | (apply fq_blda <;> apply Eq.refl) | (apply fq_fn; apply Eq.refl) | (apply fq_mf; apply Eq.refl) | (apply FQ_intro; intro _; (first | (apply q_mvI <;> apply Eq.refl) | (apply q_asI <;> apply Eq.refl) | (apply q_ldb <;> apply Eq.refl) | (apply q_fab <;> apply Eq.refl) | (apply q_cmp <;> apply Eq.refl) | (apply q_not <;> apply Eq.refl) | (apply q_arith <;> (first | apply Eq.refl | omega)) | (apply q_len <;> apply Eq.refl) | (apply q_ia <;> (first | apply Eq.refl | omega)) | (apply q_ldba <;> apply Eq.refl) | (apply q_ldra <;> apply Eq.refl) | (apply q_max <;> apply Eq.refl) | (apply q_mvS <;> apply Eq.refl) | (apply q_mvO <;> apply Eq.refl) | (apply q_asO <;> apply Eq.refl) | (apply q_asN <;> apply Eq.refl))))
    | (apply WG_call; (first | (apply want_none; apply Eq.refl) | (apply want_some; apply Eq.refl; apply Eq.refl; apply Eq.refl)); apply Eq.refl; apply Eq.refl; apply Eq.refl; exact (c118 (keepF c) (failF c) c.trucks.length c.fails j hn'))
    | (apply WG_n; (first | (apply want_none; apply Eq.refl) | (apply want_some; apply Eq.refl; apply Eq.refl; apply Eq.refl)); (first | (apply f_alloc <;> apply Eq.refl) | (apply f_stb <;> apply Eq.refl) | (apply f_bsl <;> apply Eq.refl)))
    | (apply W_cD; apply Eq.refl; intro _; rotate_left 1; intro _; rotate_left 1)
    | (apply W_cN; apply Eq.refl; intro _; rotate_left 1; intro _; rotate_left 1))
  · have : ¬ j = offLo c 21000 0 := fun e => by rw [← e] at o2; simp_all
    refine ⟨j + 1, by omega, by omega, (by refine ⟨?_, ?_, ?_, ?_, ?_⟩ <;> repeat' (first | exact trivial | apply And.intro | apply Eq.refl | (apply toI; apply Eq.refl; first | omega | assumption) | (apply toB; apply Eq.refl; repeat' (first | apply Eq.refl | apply consS | (apply consI; first | apply Eq.refl | omega | assumption)))))⟩
  · have : ¬ j < offLo c 21000 0 := fun e => by have := o1 j (by omega) e; simp_all
    obtain rfl : j = offLo c 21000 0 := by omega
    refine fin_A rfl rfl rfl rfl rfl rfl rfl rfl ?_; rfl
end Go.Proofs.YtafnhieaeejlcaaDoor
namespace Go.Proofs.YtafnhieaeejlcaaDoor
open Go Go.Ab
set_option maxRecDepth 100000
set_option maxHeartbeats 4000000
attribute [local irreducible] W WL QOp NOp thenQ blockQ FinQ WG FQ Want FinW WI WIL thenI blockI
attribute [local irreducible] offS chkConvoy
theorem c52 (c : Convoy) : Contract seat 52 [.agg (encConvoy c)] (.tup [.agg (encSpan (if chkConvoy c = 0 then offS c else default)), .int .i64 (chkConvoy c)]) := by
  refine contract_intro (fn := Tryd.f52) Tryd.func52 rfl (by kernel_rfl) rfl ?_ ?_ ?_
  · exact PureL.cons (.agg _ (pure_convoy c)) PureL.nil
  · exact .tup _ (PureL.cons (.agg _ (pure_span _)) (PureL.cons (.int _ _) PureL.nil))
  intro w κ
  repeat' (first
    | (apply WL_q; apply Eq.refl; apply Eq.refl; (first | (apply q_mvI <;> apply Eq.refl) | (apply q_asI <;> apply Eq.refl) | (apply q_cmp <;> apply Eq.refl) | (apply q_ldba <;> apply Eq.refl) | (apply q_bld <;> apply Eq.refl)))
    | apply W_seq
    | apply W_region
    | apply T_normal
    | apply WL_nil
    | apply T_ret
    | apply W_skip
    | apply W_ret
    | (apply WL_call; apply Eq.refl; apply Eq.refl; rotate_left 1; apply Eq.refl; rotate_right 1; exact (c22 c); apply Eq.refl)
    | (apply WL_call; apply Eq.refl; apply Eq.refl; rotate_left 1; apply Eq.refl; rotate_right 1; exact (c95 c (cok_of (by assumption))); apply Eq.refl)
    | (apply WL_n; apply Eq.refl; (first | (apply n_boxa <;> apply Eq.refl) | (apply n_alloc <;> apply Eq.refl) | (apply n_stb <;> apply Eq.refl)))
    | (apply W_cND; apply Eq.refl; intro _; rotate_left 1; intro _; rotate_left 1))
  · ((try apply fin_now); first | (focus (apply fin_2; apply Eq.refl; (first | (apply rv_I; apply Eq.refl) | (apply rv_A <;> apply Eq.refl)); (first | (apply rv_I; apply Eq.refl) | (apply rv_A <;> apply Eq.refl)); all_goals try apply Eq.refl)))
    rw [if_neg (by assumption)]; rfl
  · ((try apply fin_now); first | (focus (apply fin_2; apply Eq.refl; (first | (apply rv_I; apply Eq.refl) | (apply rv_A <;> apply Eq.refl)); (first | (apply rv_I; apply Eq.refl) | (apply rv_A <;> apply Eq.refl)); all_goals try apply Eq.refl)))
    · rw [if_pos (by assumption)]; rfl
    · simp [*]
def bigS (c : Convoy) : Bool := (decide ((c.trucks.length : Int) > 5) && decide ((c.trucks.length : Int) ≤ 20)) || decide ((c.trucks.length : Int) > 25) || c.trucks.any (fun t => decide ((t.holds.length : Int) > 12)) || (decide (chkConvoy c = 0) && decide ((offS c).hi > 1500))
theorem any_yes {α : Type} [Inhabited α] {l : List α} {p : α → Bool} {k : Nat} (h : k < l.length) (hp : p (l.getD k default) = true) : l.any p = true := by
  rw [List.any_eq_true]
  exact ⟨_, by simp [List.getD, h], hp⟩
theorem any_no {α : Type} [Inhabited α] {l : List α} {p : α → Bool} (h : ∀ k, k < l.length → p (l.getD k default) = false) : l.any p = false := by
  rw [List.any_eq_false]
  intro x hx
  obtain ⟨k, hk, rfl⟩ := mem_getD hx
  rw [h k hk]; decide
theorem c18 (c : Convoy) : Contract seat 18 [.agg (encConvoy c)] (.bool (bigS c)) := by
  refine contract_intro (fn := Tryd.f18) Tryd.func18 rfl (by kernel_rfl) rfl ?_ ?_ ?_
  · exact PureL.cons (.agg _ (pure_convoy c)) PureL.nil
  · exact .bool _
  intro w κ
  repeat' (first
    | (apply WL_q; apply Eq.refl; apply Eq.refl; (first | (apply q_mvI <;> apply Eq.refl) | (apply q_asI <;> apply Eq.refl) | (apply q_ldb <;> apply Eq.refl) | (apply q_fab <;> apply Eq.refl) | (apply q_cmp <;> apply Eq.refl) | (apply q_mvB <;> apply Eq.refl) | (apply q_asB <;> apply Eq.refl) | (apply q_ldr <;> apply Eq.refl) | (apply q_far <;> apply Eq.refl) | (apply q_arith <;> (first | apply Eq.refl | omega)) | (apply q_len <;> apply Eq.refl) | (apply q_ext <;> apply Eq.refl) | (apply q_pkT <;> apply Eq.refl) | (apply q_pkF <;> apply Eq.refl) | (apply q_ia <;> (first | apply Eq.refl | omega)) | (apply q_ldba <;> apply Eq.refl) | (apply q_mvT <;> apply Eq.refl)))
    | apply W_seq
    | apply W_region
    | apply T_normal
    | apply WL_nil
    | apply T_exit
    | apply T_ret
    | apply B_normal
    | apply B_ret
    | apply B_exit_eq
    | apply W_skip
    | apply W_exit
    | apply W_ret
    | apply W_block
    | (apply W_condT; apply Eq.refl)
    | (apply WL_n; apply Eq.refl; (first | (apply n_boxa <;> apply Eq.refl) | (apply n_alloc <;> apply Eq.refl) | (apply n_stb <;> apply Eq.refl)))
    | (apply WL_yes; apply Eq.refl; apply Eq.refl; apply Eq.refl)
    | (apply WL_no; apply Eq.refl; apply Eq.refl; apply Eq.refl; apply Eq.refl; apply Eq.refl)
    | (apply L_tD; apply Eq.refl; apply Eq.refl; apply Eq.refl; intro _; rotate_left 1; intro _; rotate_left 1)
    | (apply W_cD; apply Eq.refl; intro _; rotate_left 1; intro _; rotate_left 1))
  all_goals first
    | (((try apply fin_now); first | (apply fin_B; apply Eq.refl; apply Eq.refl; try apply Eq.refl)); (unfold bigS; simp_all; done))
    | skip
  all_goals
    refine W_loopR [1] [1] (fun k : Nat => [(3, .int .i64 k)]) (fun k => []) (fun k => [])
      (fun k => k ≤ c.trucks.length ∧ ∀ i, i < k → (fun t : Truck => decide ((t.holds.length : Int) > 12)) (c.trucks.getD i default) = false) (fun k => c.trucks.length - k) 0 ⟨Nat.zero_le _, fun i h => by omega⟩ (by refine ⟨?_, ?_, ?_⟩ <;> repeat' (first | exact trivial | apply And.intro | apply Eq.refl | (apply toI; apply Eq.refl; first | omega | assumption) | (apply toB; apply Eq.refl; repeat' (first | apply Eq.refl | apply consS | (apply consI; first | apply Eq.refl | omega | assumption))))) (fun k h hi => ?_)
    obtain ⟨hk, hall⟩ := hi
    repeat' (first
    | (apply WL_q; apply Eq.refl; apply Eq.refl; (first | (apply q_mvI <;> apply Eq.refl) | (apply q_asI <;> apply Eq.refl) | (apply q_ldb <;> apply Eq.refl) | (apply q_fab <;> apply Eq.refl) | (apply q_cmp <;> apply Eq.refl) | (apply q_mvB <;> apply Eq.refl) | (apply q_asB <;> apply Eq.refl) | (apply q_ldr <;> apply Eq.refl) | (apply q_far <;> apply Eq.refl) | (apply q_arith <;> (first | apply Eq.refl | omega)) | (apply q_len <;> apply Eq.refl) | (apply q_ext <;> apply Eq.refl) | (apply q_pkT <;> apply Eq.refl) | (apply q_pkF <;> apply Eq.refl) | (apply q_ia <;> (first | apply Eq.refl | omega)) | (apply q_ldba <;> apply Eq.refl) | (apply q_mvT <;> apply Eq.refl)))
    | apply W_seq
    | apply W_region
    | apply T_normal
    | apply WL_nil
    | apply T_exit
    | apply T_ret
    | apply B_normal
    | apply B_ret
    | apply B_exit_eq
    | apply W_skip
    | apply W_exit
    | apply W_ret
    | apply W_block
    | (apply W_condT; apply Eq.refl)
    | (apply WL_call; apply Eq.refl; apply Eq.refl; rotate_left 1; apply Eq.refl; rotate_right 1; exact (c52 c); apply Eq.refl)
    | (apply WL_n; apply Eq.refl; (first | (apply n_boxa <;> apply Eq.refl) | (apply n_alloc <;> apply Eq.refl) | (apply n_stb <;> apply Eq.refl)))
    | (apply WL_yes; apply Eq.refl; apply Eq.refl; apply Eq.refl)
    | (apply WL_no; apply Eq.refl; apply Eq.refl; apply Eq.refl; apply Eq.refl; apply Eq.refl)
    | (apply L_tD; apply Eq.refl; apply Eq.refl; apply Eq.refl; intro _; rotate_left 1; intro _; rotate_left 1)
    | (apply W_cD; apply Eq.refl; intro _; rotate_left 1; intro _; rotate_left 1))
  all_goals try (refine ⟨k + 1, ⟨by omega, fun i hi => ?_⟩, by omega, ?_⟩; rotate_left 1; exact (by apply reach_now; refine ⟨?_, ?_, ?_, ?_, ?_⟩ <;> repeat' (first | exact trivial | apply And.intro | apply Eq.refl | (apply toI; apply Eq.refl; first | omega | assumption) | (apply toB; apply Eq.refl; repeat' (first | apply Eq.refl | apply consS | (apply consI; first | apply Eq.refl | omega | assumption))))))
  all_goals try (rcases Nat.lt_or_eq_of_le (Nat.le_of_lt_succ hi) with h1 | h1 <;> first | exact hall i h1 | (subst h1; simp_all; done))
  all_goals try (have h12 : ↑(c.trucks.getD (k : Int).toNat default).holds.length > (12 : Int) := by assumption
                 ((try apply fin_now); first | (apply fin_B; apply Eq.refl; apply Eq.refl; try apply Eq.refl))
                 rw [bigS, any_yes (k := k) (by omega) (by simpa using h12)]; simp)
  all_goals (have hany : c.trucks.any (fun t => decide ((t.holds.length : Int) > 12)) = false := any_no (fun i hi => hall i (by omega)); ((try apply fin_now); first | (apply fin_B; apply Eq.refl; apply Eq.refl; try apply Eq.refl)); simp only [bigS, hany]; simp only [*, if_true, if_false, decide_true, decide_false, Bool.false_and, Bool.true_and, Bool.false_or, Bool.or_false, Bool.and_false])
end Go.Proofs.YtafnhieaeejlcaaDoor
namespace Go.Proofs.YtafnhieaeejlcaaDoor
open Go Go.Ab
set_option maxRecDepth 100000
set_option maxHeartbeats 4000000
attribute [local irreducible] W WL QOp NOp thenQ blockQ FinQ WG FQ Want FinW WI WIL thenI blockI
theorem c20 (c : Convoy) (hn : c.trucks.length ≤ 25) (hh : ∀ k, k < c.trucks.length → (c.trucks.getD k default).holds.length ≤ 12) : Contract seat 20 [.agg (encConvoy c)] (.agg (encConvoy c)) := by
  refine contract_introW (fn := Tryd.f20) Tryd.func20 rfl (by kernel_rfl) rfl ?_ ?_ ?_
  · exact PureL.cons (.agg _ (pure_convoy c)) PureL.nil
  · exact .agg _ (pure_convoy _)
  intro w κ
  repeat' (first
    | (apply WL_q; apply Eq.refl; apply Eq.refl; (first | (apply q_mvI <;> apply Eq.refl) | (apply q_asI <;> apply Eq.refl) | (apply q_ldb <;> apply Eq.refl) | (apply q_fab <;> apply Eq.refl) | (apply q_cmp <;> apply Eq.refl) | (apply q_arith <;> (first | apply Eq.refl | omega)) | (apply q_ldba <;> apply Eq.refl) | (apply q_ldo <;> (first | apply Eq.refl | omega)) | (apply q_fao <;> apply Eq.refl) | (apply q_iao <;> (first | apply Eq.refl | omega)) | (apply q_leno <;> apply Eq.refl)))
    | apply W_seq
    | apply W_region
    | apply T_normal
    | apply WL_nil
    | apply T_exit
    | apply B_normal
    | apply B_exit_eq
    | apply W_skip
    | apply W_exit
    | apply W_ret
    | apply W_block
    | (apply WL_n; apply Eq.refl; (first | (refine n_bsl0 (fun i => encTruck (c.trucks.getD i default)) rfl rfl rfl rfl rfl rfl rfl rfl rfl) | (refine n_app (f' := fun i => encTruck (c.trucks.getD i default)) rfl rfl rfl rfl rfl rfl rfl rfl rfl rfl rfl rfl rfl rfl rfl (by show (0 + c.trucks.length) * 56 ≤ _; omega) (by omega) rfl (fun i hi => rfl) (fun i hi => by rw [Nat.zero_add])) | (apply n_boxa <;> apply Eq.refl) | (apply n_alloc <;> apply Eq.refl) | (apply n_stb <;> apply Eq.refl)))
    | apply W_regionG
    | (apply WG_nil; kernel_rfl)
    | (apply WG_q; (first | (apply want_none; apply Eq.refl) | (apply want_some; apply Eq.refl; apply Eq.refl; apply Eq.refl)); apply Eq.refl; first | (apply fq_bld <;> apply Eq.refl) | (apply fq_blda <;> apply Eq.refl) | (apply fq_fn; apply Eq.refl) | (apply fq_mf; apply Eq.refl) | (apply FQ_intro; intro _; (first | (apply q_mvI <;> apply Eq.refl) | (apply q_asI <;> apply Eq.refl) | (apply q_ldb <;> apply Eq.refl) | (apply q_fab <;> apply Eq.refl) | (apply q_cmp <;> apply Eq.refl) | (apply q_arith <;> (first | apply Eq.refl | omega)) | (apply q_ldba <;> apply Eq.refl) | (apply q_ldo <;> (first | apply Eq.refl | omega)) | (apply q_fao <;> apply Eq.refl) | (apply q_iao <;> (first | apply Eq.refl | omega)) | (apply q_leno <;> apply Eq.refl))))
    | (apply WG_n; (first | (apply want_none; apply Eq.refl) | (apply want_some; apply Eq.refl; apply Eq.refl; apply Eq.refl)); (first | (refine f_bsl0 (fun i => encTruck (c.trucks.getD i default)) rfl rfl rfl rfl rfl rfl rfl rfl rfl) | (refine f_app (f' := fun i => encTruck (c.trucks.getD i default)) rfl rfl rfl rfl rfl rfl rfl rfl rfl rfl rfl rfl rfl rfl rfl (by show (0 + c.trucks.length) * 56 ≤ _; omega) (by omega) rfl (fun i hi => rfl) (fun i hi => by rw [Nat.zero_add])) | (apply f_sto <;> (first | apply Eq.refl | omega))))
    | (apply W_cD; apply Eq.refl; intro _; rotate_left 1; intro _; rotate_left 1))
  refine W_loopR [1, 2] [1, 2] (fun k : Nat => [(3, .int .i64 k)]) (fun k => [(4, 2)]) (fun k => [(4, .arr 50 5 (0 + c.trucks.length) (fun i => encTruck (c.trucks.getD i default)))])
      (fun k => k ≤ c.trucks.length) (fun k => c.trucks.length - k) 0 (Nat.zero_le _) (by refine ⟨?_, ?_, ?_⟩ <;> repeat' (first | exact trivial | apply And.intro | apply Eq.refl | (apply toI; apply Eq.refl; first | omega | assumption) | (apply toB; apply Eq.refl; repeat' (first | apply Eq.refl | apply consS | (apply consI; first | apply Eq.refl | omega | assumption))))) (fun k h hi => ?_)
  repeat' (first
    | (apply WL_q; apply Eq.refl; apply Eq.refl; (first | (apply q_mvI <;> apply Eq.refl) | (apply q_asI <;> apply Eq.refl) | (apply q_ldb <;> apply Eq.refl) | (apply q_fab <;> apply Eq.refl) | (apply q_cmp <;> apply Eq.refl) | (apply q_arith <;> (first | apply Eq.refl | omega)) | (apply q_ldba <;> apply Eq.refl) | (apply q_ldo <;> (first | apply Eq.refl | omega)) | (apply q_fao <;> apply Eq.refl) | (apply q_iao <;> (first | apply Eq.refl | omega)) | (apply q_leno <;> apply Eq.refl)))
    | apply W_seq
    | apply W_region
    | apply T_normal
    | apply WL_nil
    | apply T_exit
    | apply B_normal
    | apply B_exit_eq
    | apply W_skip
    | apply W_exit
    | apply W_ret
    | apply W_block
    | (apply WL_n; apply Eq.refl; (first | (refine n_bsl0 (fun i => encHold ((c.trucks.getD k default).holds.getD i default)) rfl rfl rfl rfl rfl rfl rfl rfl rfl) | (refine n_app (f' := fun i => encHold ((c.trucks.getD k default).holds.getD i default)) rfl rfl rfl rfl rfl rfl rfl rfl rfl rfl rfl rfl rfl rfl rfl (by have := hh k (by omega); show (0 + (c.trucks.getD k default).holds.length) * 16 ≤ _; omega) (by have := hh k (by omega); show 0 + (c.trucks.getD k default).holds.length ≤ _; omega) rfl (fun i hi => rfl) (fun i hi => by rw [Nat.zero_add]; rfl)) | (apply n_boxa <;> apply Eq.refl) | (apply n_alloc <;> apply Eq.refl) | (apply n_stb <;> apply Eq.refl)))
    | apply W_regionG
    | (apply WG_nil; kernel_rfl)
    | (apply WG_q; (first | (apply want_none; apply Eq.refl) | (apply want_some; apply Eq.refl; apply Eq.refl; apply Eq.refl)); apply Eq.refl; first | (apply fq_bld <;> apply Eq.refl) | (apply fq_blda <;> apply Eq.refl) | (apply fq_fn; apply Eq.refl) | (apply fq_mf; apply Eq.refl) | (apply FQ_intro; intro _; (first | (apply q_mvI <;> apply Eq.refl) | (apply q_asI <;> apply Eq.refl) | (apply q_ldb <;> apply Eq.refl) | (apply q_fab <;> apply Eq.refl) | (apply q_cmp <;> apply Eq.refl) | (apply q_arith <;> (first | apply Eq.refl | omega)) | (apply q_ldba <;> apply Eq.refl) | (apply q_ldo <;> (first | apply Eq.refl | omega)) | (apply q_fao <;> apply Eq.refl) | (apply q_iao <;> (first | apply Eq.refl | omega)) | (apply q_leno <;> apply Eq.refl))))
    | (apply WG_n; (first | (apply want_none; apply Eq.refl) | (apply want_some; apply Eq.refl; apply Eq.refl; apply Eq.refl)); (first | (refine f_bsl0 (fun i => encHold ((c.trucks.getD k default).holds.getD i default)) rfl rfl rfl rfl rfl rfl rfl rfl rfl) | (refine f_app (f' := fun i => encHold ((c.trucks.getD k default).holds.getD i default)) rfl rfl rfl rfl rfl rfl rfl rfl rfl rfl rfl rfl rfl rfl rfl (by have := hh k (by omega); show (0 + (c.trucks.getD k default).holds.length) * 16 ≤ _; omega) (by have := hh k (by omega); show 0 + (c.trucks.getD k default).holds.length ≤ _; omega) rfl (fun i hi => rfl) (fun i hi => by rw [Nat.zero_add]; rfl)) | (apply f_sto <;> (first | apply Eq.refl | omega))))
    | (apply W_cD; apply Eq.refl; intro _; rotate_left 1; intro _; rotate_left 1))
  · refine ⟨k + 1, by omega, by omega, reach_wk (wk_freeze_elem 4 k 4 (s := 19) (f2' := fun i => encTruck (c.trucks.getD i default)) rfl rfl (by omega) (updF_same _ _ _) rfl rfl rfl rfl (fun j hj => ?_)) (by apply reach_now; refine ⟨?_, ?_, ?_, ?_, ?_⟩ <;> repeat' (first | exact trivial | apply And.intro | apply Eq.refl | (apply toI; apply Eq.refl; first | omega | assumption) | (apply toB; apply Eq.refl; repeat' (first | apply Eq.refl | apply consS | (apply consI; first | apply Eq.refl | omega | assumption)))))⟩
    by_cases e : j = k
    · subst e; rw [if_pos rfl]; rw [Nat.zero_add]; rfl
    · rw [if_neg e]; exact (updF_ne (fun i => encTruck (c.trucks.getD i default)) (i := (k : Int).toNat) (k := j) _ e).symm
  · refine fin_wk (wk_freeze_cell 2 3 (s := 4) rfl rfl rfl rfl rfl) (fin_now ?_)
    ((try apply fin_now); first | (apply fin_A; apply Eq.refl; apply Eq.refl; apply Eq.refl; apply Eq.refl; apply Eq.refl; apply Eq.refl; apply Eq.refl; apply Eq.refl; try apply Eq.refl))
    rw [Nat.zero_add]; rfl
theorem list_ext_getD {α : Type} [Inhabited α] {l m : List α} (h : l.length = m.length) (h2 : ∀ i, i < l.length → l.getD i default = m.getD i default) : l = m := by
  apply List.ext_getElem h
  intro i h3 h4
  have := h2 i h3
  simpa [List.getD, h3, h4] using this
theorem truck_eq {t u : Truck} (h1 : t.way = u.way) (h2 : t.start = u.start) (h3 : t.lo = u.lo) (h4 : t.hi = u.hi) (h5 : t.holds = u.holds) : t = u := by cases t; cases u; simp_all
theorem hold_eq {t u : Hold} (h1 : t.a = u.a) (h2 : t.u = u.u) : t = u := by cases t; cases u; simp_all
theorem convoy_eq {t u : Convoy} (h1 : t.len = u.len) (h2 : t.gap = u.gap) (h3 : t.fails = u.fails) (h5 : t.trucks = u.trucks) : t = u := by cases t; cases u; simp_all
theorem c23 (a b : Convoy) (hn : a.trucks.length ≤ 1000) (hh : ∀ k, k < a.trucks.length → (a.trucks.getD k default).holds.length ≤ 1000) : Contract seat 23 [.agg (encConvoy a), .agg (encConvoy b)] (.bool (decide (a = b))) := by
  refine contract_introW (fn := Tryd.f23) Tryd.func23 rfl (by kernel_rfl) rfl ?_ ?_ ?_
  · exact PureL.cons (.agg _ (pure_convoy a)) (PureL.cons (.agg _ (pure_convoy b)) PureL.nil)
  · exact .bool _
  intro w κ
  repeat' (first
    | (apply WL_q; apply Eq.refl; apply Eq.refl; (first | (apply q_mvI <;> apply Eq.refl) | (apply q_asI <;> apply Eq.refl) | (apply q_ldb <;> apply Eq.refl) | (apply q_fab <;> apply Eq.refl) | (apply q_cmp <;> apply Eq.refl) | (apply q_mvB <;> apply Eq.refl) | (apply q_asB <;> apply Eq.refl) | (apply q_arith <;> (first | apply Eq.refl | omega)) | (apply q_len <;> apply Eq.refl) | (apply q_pkT <;> apply Eq.refl) | (apply q_pkF <;> apply Eq.refl) | (apply q_ia <;> (first | apply Eq.refl | omega)) | (apply q_ldba <;> apply Eq.refl) | (apply q_ldra <;> apply Eq.refl) | (apply q_neA; apply Eq.refl; apply Eq.refl; apply Eq.refl; apply Eq.refl; kernel_rfl)))
    | apply W_seq
    | apply W_region
    | apply T_normal
    | apply WL_nil
    | apply T_exit
    | apply T_ret
    | apply B_normal
    | apply B_ret
    | apply B_exit_eq
    | apply W_skip
    | apply W_exit
    | apply W_ret
    | apply W_block
    | (apply W_condT; apply Eq.refl)
    | (apply WL_n; apply Eq.refl; (first | (apply n_boxa <;> apply Eq.refl)))
    | (apply WL_yes; apply Eq.refl; apply Eq.refl; apply Eq.refl)
    | (apply WL_no; apply Eq.refl; apply Eq.refl; apply Eq.refl; apply Eq.refl; apply Eq.refl)
    | (apply L_tND; apply Eq.refl; apply Eq.refl; apply Eq.refl; intro _; rotate_left 1; intro _; rotate_left 1)
    | (apply L_tN; apply Eq.refl; apply Eq.refl; apply Eq.refl; intro _; rotate_left 1; intro _; rotate_left 1)
    | apply W_regionG
    | (apply WG_nil; kernel_rfl)
    | (apply WG_q; (first | (apply want_none; apply Eq.refl) | (apply want_some; apply Eq.refl; apply Eq.refl; apply Eq.refl)); apply Eq.refl; first | (apply fq_bld <;> apply Eq.refl) | (apply fq_blda <;> apply Eq.refl) | (apply fq_fn; apply Eq.refl) | (apply fq_mf; apply Eq.refl) | (apply FQ_intro; intro _; (first | (apply q_mvI <;> apply Eq.refl) | (apply q_asI <;> apply Eq.refl) | (apply q_ldb <;> apply Eq.refl) | (apply q_fab <;> apply Eq.refl) | (apply q_cmp <;> apply Eq.refl) | (apply q_mvB <;> apply Eq.refl) | (apply q_asB <;> apply Eq.refl) | (apply q_arith <;> (first | apply Eq.refl | omega)) | (apply q_len <;> apply Eq.refl) | (apply q_pkT <;> apply Eq.refl) | (apply q_pkF <;> apply Eq.refl) | (apply q_ia <;> (first | apply Eq.refl | omega)) | (apply q_ldba <;> apply Eq.refl) | (apply q_ldra <;> apply Eq.refl) | (apply q_neA; apply Eq.refl; apply Eq.refl; apply Eq.refl; apply Eq.refl; kernel_rfl))))
    | (apply WG_n; (first | (apply want_none; apply Eq.refl) | (apply want_some; apply Eq.refl; apply Eq.refl; apply Eq.refl)); (first | (apply f_alloc <;> apply Eq.refl) | (apply f_stb <;> apply Eq.refl)))
    | (apply W_cD; apply Eq.refl; intro _; rotate_left 1; intro _; rotate_left 1)
    | (apply W_cND; apply Eq.refl; intro _; rotate_left 1; intro _; rotate_left 1)
    | (apply W_cN; apply Eq.refl; intro _; rotate_left 1; intro _; rotate_left 1))
  all_goals try (((try apply fin_now); first | (apply fin_B; apply Eq.refl; apply Eq.refl; try apply Eq.refl)); symm; apply decide_eq_false; rintro rfl; contradiction)
  have hlen : a.trucks.length = b.trucks.length := by omega
  refine W_loopR [2, 3] [2, 3] (fun k : Nat => [(5, .int .i64 k)]) (fun k => []) (fun k => [])
      (fun k => k ≤ a.trucks.length ∧ ∀ i, i < k → a.trucks.getD i default = b.trucks.getD i default) (fun k => a.trucks.length - k) 0 ⟨Nat.zero_le _, fun i h => by omega⟩ (by refine ⟨?_, ?_, ?_⟩ <;> repeat' (first | exact trivial | apply And.intro | apply Eq.refl | (apply toI; apply Eq.refl; first | omega | assumption) | (apply toB; apply Eq.refl; repeat' (first | apply Eq.refl | apply consS | (apply consI; first | apply Eq.refl | omega | assumption))))) (fun k h hi => ?_)
  obtain ⟨hk, hall⟩ := hi
  have hne : a.trucks.getD k default ≠ b.trucks.getD k default → ¬ a = b := fun h1 h2 => h1 (by rw [h2])
  repeat' (first
    | (apply WL_q; apply Eq.refl; apply Eq.refl; (first | (apply q_mvI <;> apply Eq.refl) | (apply q_asI <;> apply Eq.refl) | (apply q_ldb <;> apply Eq.refl) | (apply q_fab <;> apply Eq.refl) | (apply q_cmp <;> apply Eq.refl) | (apply q_mvB <;> apply Eq.refl) | (apply q_asB <;> apply Eq.refl) | (apply q_arith <;> (first | apply Eq.refl | omega)) | (apply q_len <;> apply Eq.refl) | (apply q_pkT <;> apply Eq.refl) | (apply q_pkF <;> apply Eq.refl) | (apply q_ia <;> (first | apply Eq.refl | omega)) | (apply q_ldba <;> apply Eq.refl) | (apply q_ldra <;> apply Eq.refl) | (apply q_neA; apply Eq.refl; apply Eq.refl; apply Eq.refl; apply Eq.refl; kernel_rfl)))
    | apply W_seq
    | apply W_region
    | apply T_normal
    | apply WL_nil
    | apply T_exit
    | apply T_ret
    | apply B_normal
    | apply B_ret
    | apply B_exit_eq
    | apply W_skip
    | apply W_exit
    | apply W_ret
    | apply W_block
    | (apply W_condT; apply Eq.refl)
    | (apply WL_n; apply Eq.refl; (first | (apply n_boxa <;> apply Eq.refl)))
    | (apply WL_yes; apply Eq.refl; apply Eq.refl; apply Eq.refl)
    | (apply WL_no; apply Eq.refl; apply Eq.refl; apply Eq.refl; apply Eq.refl; apply Eq.refl)
    | (apply L_tND; apply Eq.refl; apply Eq.refl; apply Eq.refl; intro _; rotate_left 1; intro _; rotate_left 1)
    | (apply L_tN; apply Eq.refl; apply Eq.refl; apply Eq.refl; intro _; rotate_left 1; intro _; rotate_left 1)
    | apply W_regionG
    | (apply WG_nil; kernel_rfl)
    | (apply WG_q; (first | (apply want_none; apply Eq.refl) | (apply want_some; apply Eq.refl; apply Eq.refl; apply Eq.refl)); apply Eq.refl; first | (apply fq_bld <;> apply Eq.refl) | (apply fq_blda <;> apply Eq.refl) | (apply fq_fn; apply Eq.refl) | (apply fq_mf; apply Eq.refl) | (apply FQ_intro; intro _; (first | (apply q_mvI <;> apply Eq.refl) | (apply q_asI <;> apply Eq.refl) | (apply q_ldb <;> apply Eq.refl) | (apply q_fab <;> apply Eq.refl) | (apply q_cmp <;> apply Eq.refl) | (apply q_mvB <;> apply Eq.refl) | (apply q_asB <;> apply Eq.refl) | (apply q_arith <;> (first | apply Eq.refl | omega)) | (apply q_len <;> apply Eq.refl) | (apply q_pkT <;> apply Eq.refl) | (apply q_pkF <;> apply Eq.refl) | (apply q_ia <;> (first | apply Eq.refl | omega)) | (apply q_ldba <;> apply Eq.refl) | (apply q_ldra <;> apply Eq.refl) | (apply q_neA; apply Eq.refl; apply Eq.refl; apply Eq.refl; apply Eq.refl; kernel_rfl))))
    | (apply WG_n; (first | (apply want_none; apply Eq.refl) | (apply want_some; apply Eq.refl; apply Eq.refl; apply Eq.refl)); (first | (apply f_alloc <;> apply Eq.refl) | (apply f_stb <;> apply Eq.refl)))
    | (apply W_cD; apply Eq.refl; intro _; rotate_left 1; intro _; rotate_left 1)
    | (apply W_cND; apply Eq.refl; intro _; rotate_left 1; intro _; rotate_left 1)
    | (apply W_cN; apply Eq.refl; intro _; rotate_left 1; intro _; rotate_left 1))
  all_goals try simp only [Int.toNat_natCast] at *
  all_goals try (((try apply fin_now); first | (apply fin_B; apply Eq.refl; apply Eq.refl; try apply Eq.refl)); symm; apply decide_eq_false; apply hne; intro e; simp_all; done)
  rotate_left 1
  · ((try apply fin_now); first | (apply fin_B; apply Eq.refl; apply Eq.refl; try apply Eq.refl)); symm; apply decide_eq_true
    exact convoy_eq (by assumption) (by assumption) (by assumption) (list_ext_getD hlen fun i h1 => hall i (by omega))
  simp only [Bool.and_true, Bool.and_eq_true, decide_eq_true_eq] at *
  have hp : (a.trucks.getD k default).lo = (b.trucks.getD k default).lo ∧ (a.trucks.getD k default).hi = (b.trucks.getD k default).hi := by assumption
  refine W_loopR [2, 3, 5, 6, 7, 37, 38, 39, 40, 41, 44, 45, 46, 47, 48, 49, 50, 51, 52, 53, 54, 55, 56, 57, 58, 59, 60, 61, 62, 63, 64, 65, 66, 67, 68, 69, 70, 71, 72, 73, 74, 75, 76, 77, 78, 79, 80, 81] [2, 3, 6, 7] (fun j : Nat => [(8, .int .i64 j)]) (fun j => []) (fun j => [])
      (fun j => j ≤ (a.trucks.getD k default).holds.length ∧ ∀ i, i < j → (a.trucks.getD k default).holds.getD i default = (b.trucks.getD k default).holds.getD i default) (fun j => (a.trucks.getD k default).holds.length - j) 0 ⟨Nat.zero_le _, fun i h => by omega⟩ (by refine ⟨?_, ?_, ?_⟩ <;> repeat' (first | exact trivial | apply And.intro | apply Eq.refl | (apply toI; apply Eq.refl; first | omega | assumption) | (apply toB; apply Eq.refl; repeat' (first | apply Eq.refl | apply consS | (apply consI; first | apply Eq.refl | omega | assumption))))) (fun j h' hj => ?_)
  obtain ⟨hj, hallj⟩ := hj
  have hhk := hh k (by omega)
  have hne2 : (a.trucks.getD k default).holds.getD j default ≠ (b.trucks.getD k default).holds.getD j default → ¬ a = b := fun h1 h2 => h1 (by rw [h2])
  repeat' (first
    | (apply WL_q; apply Eq.refl; apply Eq.refl; (first | (apply q_mvI <;> apply Eq.refl) | (apply q_asI <;> apply Eq.refl) | (apply q_ldb <;> apply Eq.refl) | (apply q_fab <;> apply Eq.refl) | (apply q_cmp <;> apply Eq.refl) | (apply q_mvB <;> apply Eq.refl) | (apply q_asB <;> apply Eq.refl) | (apply q_arith <;> (first | apply Eq.refl | omega)) | (apply q_len <;> apply Eq.refl) | (apply q_pkT <;> apply Eq.refl) | (apply q_pkF <;> apply Eq.refl) | (apply q_ia <;> (first | apply Eq.refl | omega)) | (apply q_ldba <;> apply Eq.refl) | (apply q_ldra <;> apply Eq.refl) | (apply q_neA; apply Eq.refl; apply Eq.refl; apply Eq.refl; apply Eq.refl; kernel_rfl)))
    | apply W_seq
    | apply W_region
    | apply T_normal
    | apply WL_nil
    | apply T_exit
    | apply T_ret
    | apply B_normal
    | apply B_ret
    | apply B_exit_eq
    | apply W_skip
    | apply W_exit
    | apply W_ret
    | apply W_block
    | (apply W_condT; apply Eq.refl)
    | (apply WL_n; apply Eq.refl; (first | (apply n_boxa <;> apply Eq.refl)))
    | (apply WL_yes; apply Eq.refl; apply Eq.refl; apply Eq.refl)
    | (apply WL_no; apply Eq.refl; apply Eq.refl; apply Eq.refl; apply Eq.refl; apply Eq.refl)
    | (apply L_tND; apply Eq.refl; apply Eq.refl; apply Eq.refl; intro _; rotate_left 1; intro _; rotate_left 1)
    | (apply L_tN; apply Eq.refl; apply Eq.refl; apply Eq.refl; intro _; rotate_left 1; intro _; rotate_left 1)
    | apply W_regionG
    | (apply WG_nil; kernel_rfl)
    | (apply WG_q; (first | (apply want_none; apply Eq.refl) | (apply want_some; apply Eq.refl; apply Eq.refl; apply Eq.refl)); apply Eq.refl; first | (apply fq_bld <;> apply Eq.refl) | (apply fq_blda <;> apply Eq.refl) | (apply fq_fn; apply Eq.refl) | (apply fq_mf; apply Eq.refl) | (apply FQ_intro; intro _; (first | (apply q_mvI <;> apply Eq.refl) | (apply q_asI <;> apply Eq.refl) | (apply q_ldb <;> apply Eq.refl) | (apply q_fab <;> apply Eq.refl) | (apply q_cmp <;> apply Eq.refl) | (apply q_mvB <;> apply Eq.refl) | (apply q_asB <;> apply Eq.refl) | (apply q_arith <;> (first | apply Eq.refl | omega)) | (apply q_len <;> apply Eq.refl) | (apply q_pkT <;> apply Eq.refl) | (apply q_pkF <;> apply Eq.refl) | (apply q_ia <;> (first | apply Eq.refl | omega)) | (apply q_ldba <;> apply Eq.refl) | (apply q_ldra <;> apply Eq.refl) | (apply q_neA; apply Eq.refl; apply Eq.refl; apply Eq.refl; apply Eq.refl; kernel_rfl))))
    | (apply WG_n; (first | (apply want_none; apply Eq.refl) | (apply want_some; apply Eq.refl; apply Eq.refl; apply Eq.refl)); (first | (apply f_alloc <;> apply Eq.refl) | (apply f_stb <;> apply Eq.refl)))
    | (apply W_cD; apply Eq.refl; intro _; rotate_left 1; intro _; rotate_left 1)
    | (apply W_cND; apply Eq.refl; intro _; rotate_left 1; intro _; rotate_left 1)
    | (apply W_cN; apply Eq.refl; intro _; rotate_left 1; intro _; rotate_left 1))
  all_goals try simp only [Int.toNat_natCast] at *
  all_goals try (((try apply fin_now); first | (apply fin_B; apply Eq.refl; apply Eq.refl; try apply Eq.refl)); symm; apply decide_eq_false; apply hne2; intro e; simp_all; done)
  · refine ⟨j + 1, ⟨by omega, fun i hi => ?_⟩, by omega, (by apply reach_now; refine ⟨?_, ?_, ?_, ?_, ?_⟩ <;> repeat' (first | exact trivial | apply And.intro | apply Eq.refl | (apply toI; apply Eq.refl; first | omega | assumption) | (apply toB; apply Eq.refl; repeat' (first | apply Eq.refl | apply consS | (apply consI; first | apply Eq.refl | omega | assumption)))))⟩
    rcases Nat.lt_or_eq_of_le (Nat.le_of_lt_succ hi) with h1 | h1
    · exact hallj i h1
    · subst h1
      simp only [Bool.and_true, Bool.and_eq_true, decide_eq_true_eq] at *
      exact hold_eq (by simp_all) (by simp_all)
  · refine ⟨k + 1, ⟨by omega, fun i hi => ?_⟩, by omega, (by apply reach_now; refine ⟨?_, ?_, ?_, ?_, ?_⟩ <;> repeat' (first | exact trivial | apply And.intro | apply Eq.refl | (apply toI; apply Eq.refl; first | omega | assumption) | (apply toB; apply Eq.refl; repeat' (first | apply Eq.refl | apply consS | (apply consI; first | apply Eq.refl | omega | assumption)))))⟩
    rcases Nat.lt_or_eq_of_le (Nat.le_of_lt_succ hi) with h1 | h1
    · exact hall i h1
    · subst h1
      exact truck_eq (by assumption) (by assumption) hp.1 hp.2 (list_ext_getD (by omega) fun i h1 => hallj i (by omega))
end Go.Proofs.YtafnhieaeejlcaaDoor
namespace Go.Proofs.YtafnhieaeejlcaaDoor
open Go Go.Ab
set_option maxRecDepth 100000
set_option maxHeartbeats 4000000
attribute [local irreducible] W WL QOp NOp thenQ blockQ FinQ WG FQ Want FinW WI WIL thenI blockI
def stopP (way len m : Int) : List Hold → Int
  | [] => len
  | h :: hs => if h.u > m then alongI way len h.a else stopP way len m hs
theorem stopP_end {way len m : Int} {hs : List Hold} {k : Nat} (hi : stopP way len m (hs.drop k) = stopP way len m hs) (h : ¬ k < hs.length) : len = stopP way len m hs := by
  rw [← hi, List.drop_eq_nil_of_le (by omega)]; rfl
theorem stopP_hit {way len m : Int} {hs : List Hold} {k : Nat} (hi : stopP way len m (hs.drop k) = stopP way len m hs) (h : k < hs.length) (h2 : (hs.getD k default).u > m) :
    alongI way len (hs.getD k default).a = stopP way len m hs := by
  rw [← hi, drop_getD _ _ h, stopP, if_pos h2]
theorem stopP_next {way len m : Int} {hs : List Hold} {k : Nat} (hi : stopP way len m (hs.drop k) = stopP way len m hs) (h : k < hs.length) (h1 : ¬ (hs.getD k default).u > m) :
    stopP way len m (hs.drop (k + 1)) = stopP way len m hs := by
  rw [← hi, drop_getD _ _ h, stopP, if_neg h1]
theorem c116 (t : Truck) (len m : Int) (hl : 1 ≤ len) (hl2 : len ≤ 100000) (ho : HOk len t.holds) : Contract seat 116 [.agg (encRide t len), .int .i64 m] (.int .i64 (stopP t.way len m t.holds)) := by
  refine contract_introW (fn := Tryd.f116) Tryd.func116 rfl (by kernel_rfl) rfl ?_ ?_ ?_
  · exact PureL.cons (.agg _ (pure_ride t len)) (PureL.cons (.int _ _) PureL.nil)
  · exact .int _ _
  intro w κ
  have hl8 := ho.1
  repeat' (first
    | (apply WL_q; apply Eq.refl; apply Eq.refl; (first | (apply q_mvI <;> apply Eq.refl) | (apply q_asI <;> apply Eq.refl) | (apply q_ldb <;> apply Eq.refl) | (apply q_fab <;> apply Eq.refl) | (apply q_cmp <;> apply Eq.refl) | (apply q_arith <;> (first | apply Eq.refl | omega)) | (apply q_len <;> apply Eq.refl) | (apply q_ia <;> (first | apply Eq.refl | omega)) | (apply q_ldba <;> apply Eq.refl) | (apply q_ldra <;> apply Eq.refl)))
    | apply W_seq
    | apply W_region
    | apply T_normal
    | apply WL_nil
    | apply T_exit
    | apply T_ret
    | apply B_normal
    | apply B_ret
    | apply B_exit_eq
    | apply W_skip
    | apply W_exit
    | apply W_ret
    | apply W_block
    | (apply WL_n; apply Eq.refl; (first | (apply n_boxa <;> apply Eq.refl) | (apply n_alloc <;> apply Eq.refl) | (apply n_stb <;> apply Eq.refl)))
    | (apply W_cD; apply Eq.refl; intro _; rotate_left 1; intro _; rotate_left 1))
  refine W_loopR [1, 2, 9, 10] [2] (fun k : Nat => [(11, .int .i64 k)]) (fun _ => []) (fun _ => []) (fun k => k ≤ t.holds.length ∧ stopP t.way len m (t.holds.drop k) = stopP t.way len m t.holds) (fun k => t.holds.length - k) 0 ⟨Nat.zero_le _, rfl⟩ (by refine ⟨?_, ?_, ?_⟩ <;> repeat' (first | exact trivial | apply And.intro | apply Eq.refl | (apply toI; apply Eq.refl; first | omega | assumption) | (apply toB; apply Eq.refl; repeat' (first | apply Eq.refl | apply consS | (apply consI; first | apply Eq.refl | omega | assumption))))) (fun k h hi => ?_)
  have hk := hi.1
  have hb : ∀ hk' : (k : Int) < t.holds.length, 1 ≤ (t.holds.getD (k : Int).toNat default).a ∧ (t.holds.getD (k : Int).toNat default).a ≤ len - 1 := fun h => by
    have := ho.2 k (by omega); simp only [Int.toNat_natCast]; omega
  repeat' (first
    | (apply WL_q; apply Eq.refl; apply Eq.refl; (first | (apply q_mvI <;> apply Eq.refl) | (apply q_asI <;> apply Eq.refl) | (apply q_ldb <;> apply Eq.refl) | (apply q_fab <;> apply Eq.refl) | (apply q_cmp <;> apply Eq.refl) | (apply q_arith <;> (first | apply Eq.refl | omega)) | (apply q_len <;> apply Eq.refl) | (apply q_ia <;> (first | apply Eq.refl | omega)) | (apply q_ldba <;> apply Eq.refl) | (apply q_ldra <;> apply Eq.refl)))
    | apply W_seq
    | apply W_region
    | apply T_normal
    | apply WL_nil
    | apply T_exit
    | apply T_ret
    | apply B_normal
    | apply B_ret
    | apply B_exit_eq
    | apply W_skip
    | apply W_exit
    | apply W_ret
    | apply W_block
    | (apply WL_call; apply Eq.refl; apply Eq.refl; rotate_left 1; apply Eq.refl; rotate_right 1; exact (c107 t len (t.holds.getD (k : Int).toNat default).a (by have := hb (by assumption); omega) (by have := hb (by assumption); omega) (by omega) (by omega)); apply Eq.refl)
    | (apply WL_n; apply Eq.refl; (first | (apply n_boxa <;> apply Eq.refl) | (apply n_alloc <;> apply Eq.refl) | (apply n_stb <;> apply Eq.refl)))
    | (apply W_cD; apply Eq.refl; intro _; rotate_left 1; intro _; rotate_left 1))
  all_goals try simp only [Int.toNat_natCast] at *
  all_goals first
    | (((try apply fin_now); first | (apply fin_I; apply Eq.refl; apply Eq.refl; try apply Eq.refl)); exact stopP_hit hi.2 (by omega) (by assumption))
    | (((try apply fin_now); first | (apply fin_I; apply Eq.refl; apply Eq.refl; try apply Eq.refl)); exact stopP_end hi.2 (by omega))
    | (refine ⟨k + 1, ⟨by omega, stopP_next hi.2 (by omega) (by omega)⟩, by omega, (by apply reach_now; refine ⟨?_, ?_, ?_, ?_, ?_⟩ <;> repeat' (first | exact trivial | apply And.intro | apply Eq.refl | (apply toI; apply Eq.refl; first | omega | assumption) | (apply toB; apply Eq.refl; repeat' (first | apply Eq.refl | apply consS | (apply consI; first | apply Eq.refl | omega | assumption)))))⟩; done)
def HSort (way len : Int) (hs : List Hold) : Prop := hs.Pairwise fun a b => alongI way len a.a < alongI way len b.a
theorem stop_eq {way len gone m : Int} : ∀ {hs : List Hold}, gone ≤ stopP way len m hs → stopR way len gone m hs = stopP way len m hs
  | [], _ => rfl
  | h :: hs, hg => by
    simp only [stopP, stopR] at hg ⊢
    by_cases e : h.u > m
    · rw [if_pos e] at hg ⊢; rw [if_pos ⟨hg, e⟩]
    · rw [if_neg e] at hg ⊢; rw [if_neg (fun h => e h.2)]; exact stop_eq hg
theorem stopP_ge {way len m x : Int} : ∀ {hs : List Hold}, x ≤ len → (∀ h ∈ hs, x ≤ alongI way len h.a) → x ≤ stopP way len m hs
  | [], h, _ => h
  | h :: hs, h1, h2 => by
    simp only [stopP]
    split
    · exact h2 h (List.mem_cons_self ..)
    · exact stopP_ge h1 fun y hy => h2 y (List.mem_cons_of_mem _ hy)
theorem stopP_mono {way len m m' : Int} (hm : m ≤ m') : ∀ {hs : List Hold}, HSort way len hs → (∀ h ∈ hs, alongI way len h.a ≤ len) → stopP way len m hs ≤ stopP way len m' hs
  | [], _, _ => Int.le_refl _
  | h :: hs, h1, h2 => by
    obtain ⟨h3, h4⟩ := List.pairwise_cons.1 h1
    have hl := h2 h (List.mem_cons_self ..)
    simp only [stopP]
    by_cases e : h.u > m
    · rw [if_pos e]
      by_cases e' : h.u > m'
      · rw [if_pos e']; exact Int.le_refl _
      · rw [if_neg e']; exact stopP_ge hl fun y hy => Int.le_of_lt (h3 y hy)
    · rw [if_neg e, if_neg (by omega)]; exact stopP_mono hm h4 fun y hy => h2 y (List.mem_cons_of_mem _ hy)
theorem along_le {way len : Int} {h : Hold} (h1 : 1 ≤ h.a) (h2 : h.a ≤ len - 1) : 1 ≤ alongI way len h.a ∧ alongI way len h.a ≤ len - 1 := by
  unfold alongI; split <;> omega
theorem posR_stop {t : Truck} {len pace : Int} (hl : 1 ≤ len) (ho : HOk len t.holds) (hso : HSort t.way len t.holds) (hp : 1 ≤ pace) : ∀ k, posR t len pace k ≤ stopP t.way len (t.start + k) t.holds
  | 0 => by
    refine Int.le_trans (show posR t len pace 0 ≤ 1 from by simp only [posR]; omega) (stopP_ge hl fun h hh => ?_)
    have := ho.mem h hh
    exact (along_le this.1 this.2.1).1
  | k + 1 => by
    have ih := posR_stop hl ho hso hp k
    simp only [posR, nextR]
    rw [stop_eq ih]
    refine Int.le_trans (Int.min_le_right _ _) (stopP_mono (by push_cast; omega) hso fun h hh => ?_)
    have := ho.mem h hh
    have := along_le (way := t.way) this.1 this.2.1
    omega
theorem posR_next {t : Truck} {len pace : Int} (hl : 1 ≤ len) (ho : HOk len t.holds) (hso : HSort t.way len t.holds) (hp : 1 ≤ pace) (k : Nat) : posR t len pace (k + 1) = min (posR t len pace k + pace) (stopP t.way len (t.start + k) t.holds) := by
  simp only [posR, nextR]
  rw [stop_eq (posR_stop hl ho hso hp k)]
end Go.Proofs.YtafnhieaeejlcaaDoor
namespace Go.Proofs.YtafnhieaeejlcaaDoor
open Go Go.Ab
set_option maxRecDepth 100000
set_option maxHeartbeats 4000000
attribute [local irreducible] W WL QOp NOp thenQ blockQ FinQ WG FQ Want FinW WI WIL thenI blockI
structure ROk (len : Int) (t : Truck) : Prop where
  l1 : 1 ≤ len
  l2 : len ≤ 100000
  s1 : 0 ≤ t.start
  s2 : t.start ≤ 10000
  p1 : 1 ≤ t.lo
  p2 : t.lo ≤ t.hi
  p3 : t.hi ≤ 1000
  d1 : len ≤ 1000 * t.lo
  ho : HOk len t.holds
  so : HSort t.way len t.holds
theorem ROk.tok {len : Int} {t : Truck} (h : ROk len t) (c : Convoy) (hc : c.len = len) : TOk c t := by
  subst hc; exact ⟨h.l1, h.l2, h.s1, h.s2, h.p1, h.p2, h.p3, h.d1, h.ho⟩
theorem hitR_ok {len : Int} {t : Truck} (h : ROk len t) {pace : Int} (hp : t.lo ≤ pace) : posR t len pace (hitR t len pace) = len ∧ (∀ j, j < hitR t len pace → posR t len pace j ≠ len) ∧ hitR t len pace ≤ 11000 :=
  hitR_spec (c := ⟨len, 0, 0, []⟩) (h.tok _ rfl) hp
def gone (t : Truck) (len : Int) (k : Nat) : Span := ⟨posR t len t.lo k, posR t len t.hi k⟩
def minV (t : Truck) (len : Int) (k : Nat) : List Value := [.int .i64 (t.start + k), .agg #[.int .i64 (gone t len k).lo, .int .i64 (gone t len k).hi]]
theorem i125 (t : Truck) (len : Int) (h : ROk len t) : ItC seat 125 [.rp (encRide t len) 0] (hitR t len t.lo + 1) (minV t len) := by
  obtain ⟨l1, l2, s1, s2, p1, p2, p3, d1, ho, so⟩ := h
  have h : ROk len t := ⟨l1, l2, s1, s2, p1, p2, p3, d1, ho, so⟩
  obtain ⟨e1, e2, e3⟩ := hitR_ok h (Int.le_refl t.lo)
  have bnd := fun k => posR_le (t := t) (pace := t.lo) l1 ho p1 k
  have bnd2 := fun k => posR_le (t := t) (pace := t.hi) l1 ho (by omega) k
  have nx1 := fun k => posR_next (t := t) (pace := t.lo) l1 ho so p1 k
  have nx2 := fun k => posR_next (t := t) (pace := t.hi) l1 ho so (by omega) k
  refine itC_intro (fn := Tryd.f125) Tryd.func125 rfl (by kernel_rfl) rfl (PureL.cons (.rp _ _ (pure_ride t len)) PureL.nil) rfl ?_
  rintro ⟨Z, nt, w, κ, l, n, vals, J, Jx, hJ, hJx, hY⟩ rfl rfl rfl rfl
  repeat' (first
    | (apply WL_q; apply Eq.refl; apply Eq.refl; (first | (apply q_mvI <;> apply Eq.refl) | (apply q_asI <;> apply Eq.refl) | (apply q_ldb <;> apply Eq.refl) | (apply q_fab <;> apply Eq.refl) | (apply q_cmp <;> apply Eq.refl) | (apply q_mvB <;> apply Eq.refl) | (apply q_ldr <;> apply Eq.refl) | (apply q_far <;> apply Eq.refl) | (apply q_arith <;> (first | apply Eq.refl | omega)) | (apply q_pkT <;> apply Eq.refl) | (apply q_pkF <;> apply Eq.refl) | (apply q_ldba <;> apply Eq.refl) | (apply q_ldra <;> apply Eq.refl) | (apply q_bld <;> apply Eq.refl) | (apply q_min <;> apply Eq.refl) | (apply q_mvYl <;> apply Eq.refl)))
    | apply W_region
    | apply WL_nil
    | apply W_skip
    | apply W_exit
    | (apply W_condF; apply Eq.refl)
    | (apply WL_n; apply Eq.refl; (first | (apply n_alloc <;> apply Eq.refl) | (apply n_stb <;> apply Eq.refl)))
    | (apply WL_yes; apply Eq.refl; apply Eq.refl; apply Eq.refl)
    | (apply WL_no; apply Eq.refl; apply Eq.refl; apply Eq.refl; apply Eq.refl; apply Eq.refl)
    | apply WI_seq
    | apply WI_block
    | apply TI_normal
    | apply TI_exit
    | apply BI_normal
    | apply BI_exit_eq
    | (apply WI_ofR; intro _)
    | (apply WI_ofC; intro _)
    | (apply W_cD; apply Eq.refl; intro _; rotate_left 1; intro _; rotate_left 1))
  refine WI_loopK [0, 1, 3] [] (α := Nat) (fun k => (k, false)) (fun k => [(4, .int .i64 (t.start + k))]) (fun _ => [(3, 1)]) (fun k => [(3, .box (encSpan (gone t len k)))]) (fun k => k ≤ hitR t len t.lo) (fun k => hitR t len t.lo - k) 0 (Nat.zero_le _) rfl (by refine ⟨?_, ?_, ?_⟩ <;> repeat' (first | exact trivial | apply And.intro | apply Eq.refl | (apply toI; apply Eq.refl; first | omega | assumption) | (apply toB; apply Eq.refl; repeat' (first | apply Eq.refl | apply consS | (apply consI; first | apply Eq.refl | omega | assumption))))) (fun k g hk => ?_)
  have g1 : 0 ≤ (gone t len k).lo ∧ (gone t len k).lo ≤ len := bnd k
  have g2 : 0 ≤ (gone t len k).hi ∧ (gone t len k).hi ≤ len := bnd2 k
  have nx1k : (gone t len (k + 1)).lo = min ((gone t len k).lo + t.lo) (stopP t.way len (t.start + k) t.holds) := nx1 k
  have nx2k : (gone t len (k + 1)).hi = min ((gone t len k).hi + t.hi) (stopP t.way len (t.start + k) t.holds) := nx2 k
  have gh : k = hitR t len t.lo → (gone t len k).lo = len := fun e => by rw [e]; exact e1
  have gn : k ≠ hitR t len t.lo → (gone t len k).lo ≠ len := fun e => e2 k (by omega)
  have st := stopP_ge (way := t.way) (m := t.start + k) (x := 1) l1 (fun h hh => (along_le (ho.mem h hh).1 (ho.mem h hh).2.1).1)
  repeat' (first
    | (apply WI_region (id := 2); apply WIL_split 3; intro _)
    | (refine And.intro rfl ?_; apply WIL_yield; apply Eq.refl; apply Eq.refl; apply Eq.refl; apply Eq.refl; apply Eq.refl; apply Eq.refl; (show k < hitR t len t.lo + 1; omega))
    | (apply WIL_of; intro _)
    | (apply WL_q; apply Eq.refl; apply Eq.refl; (first | (apply q_mvI <;> apply Eq.refl) | (apply q_asI <;> apply Eq.refl) | (apply q_ldb <;> apply Eq.refl) | (apply q_fab <;> apply Eq.refl) | (apply q_cmp <;> apply Eq.refl) | (apply q_mvB <;> apply Eq.refl) | (apply q_ldr <;> apply Eq.refl) | (apply q_far <;> apply Eq.refl) | (apply q_arith <;> (first | apply Eq.refl | omega)) | (apply q_pkT <;> apply Eq.refl) | (apply q_pkF <;> apply Eq.refl) | (apply q_ldba <;> apply Eq.refl) | (apply q_ldra <;> apply Eq.refl) | (apply q_bld <;> apply Eq.refl) | (apply q_min <;> apply Eq.refl) | (apply q_mvYl <;> apply Eq.refl)))
    | apply W_region
    | apply WL_nil
    | apply W_skip
    | apply W_exit
    | (apply W_condF; apply Eq.refl)
    | (apply WL_call; apply Eq.refl; apply Eq.refl; rotate_left 1; apply Eq.refl; rotate_right 1; exact (c116 t len (t.start + k) l1 l2 ho); apply Eq.refl)
    | (apply WL_n; apply Eq.refl; (first | (apply n_alloc <;> apply Eq.refl) | (apply n_stb <;> apply Eq.refl)))
    | (apply WL_yes; apply Eq.refl; apply Eq.refl; apply Eq.refl)
    | (apply WL_no; apply Eq.refl; apply Eq.refl; apply Eq.refl; apply Eq.refl; apply Eq.refl)
    | apply WI_seq
    | apply WI_block
    | apply TI_normal
    | apply TI_exit
    | apply BI_normal
    | apply BI_exit_eq
    | (apply WI_ofR; intro _)
    | (apply WI_ofC; intro _)
    | (apply W_cD; apply Eq.refl; intro _; rotate_left 1; intro _; rotate_left 1))
  · exact ⟨k + 1, by omega, by omega, rfl, fun U => (by apply reach_now; refine ⟨?_, ?_, ?_, ?_, ?_⟩ <;> repeat' (first | exact trivial | apply And.intro | apply Eq.refl | (apply toI; apply Eq.refl; first | omega | assumption) | (apply toB; apply Eq.refl; repeat' (first | apply Eq.refl | apply consS | (apply consI; first | apply Eq.refl | omega | assumption)))))⟩
  · exact ⟨.inl rfl, fun _ => by (show k + 1 = _); omega, by (show k + 1 ≤ _); omega⟩
  · exact ⟨.inl rfl, fun h => (by cases h), by (show k + 1 ≤ _); omega⟩
theorem c115 (t : Truck) (len : Int) : Contract seat 115 [.agg (encRide t len)] (.fn 125 [.rp (encRide t len) 0]) := by
  refine contract_introW (fn := Tryd.f115) Tryd.func115 rfl (by kernel_rfl) rfl ?_ ?_ ?_
  · exact PureL.cons (.agg _ (pure_ride t len)) PureL.nil
  · exact .fn _ _ (PureL.cons (.rp _ _ (pure_ride t len)) PureL.nil)
  intro w κ
  repeat' (first
    | (apply WL_q; apply Eq.refl; apply Eq.refl; (first | (apply q_fn <;> apply Eq.refl) | (apply q_asF <;> apply Eq.refl) | (apply q_asU <;> apply Eq.refl)))
    | apply W_seq
    | apply W_region
    | apply T_normal
    | apply WL_nil
    | apply W_ret
    | (apply WL_n; apply Eq.refl; (first | (apply n_boxa <;> apply Eq.refl))))
  refine fin_wk (wk_freeze_cap 2 0 (s := 1) rfl rfl rfl rfl rfl rfl) (fin_now ?_)
  ((try apply fin_now); first | (apply fin_Fn; apply Eq.refl; apply Eq.refl; try apply Eq.refl))
theorem c84 (c : Convoy) (k : Nat) (b : Bool) (hk : k < c.trucks.length) : Contract seat 84 [.agg (encConvoy c), .int .i64 k, .bool b] (.agg (encRide (freeT (c.trucks.getD k default) b) c.len)) := by
  refine contract_introW (fn := Tryd.f84) Tryd.func84 rfl (by kernel_rfl) rfl ?_ ?_ ?_
  · exact PureL.cons (.agg _ (pure_convoy c)) (PureL.cons (.int _ _) (PureL.cons (.bool _) PureL.nil))
  · exact .agg _ (pure_ride _ _)
  intro w κ
  cases b
  · repeat' (first
    | (apply WL_q; apply Eq.refl; apply Eq.refl; (first | (apply q_mvI <;> apply Eq.refl) | (apply q_ldb <;> apply Eq.refl) | (apply q_fab <;> apply Eq.refl) | (apply q_mvB <;> apply Eq.refl) | (apply q_ia <;> (first | apply Eq.refl | omega)) | (apply q_ldba <;> apply Eq.refl) | (apply q_ldra <;> apply Eq.refl)))
    | apply W_seq
    | apply W_region
    | apply T_normal
    | apply WL_nil
    | apply W_skip
    | apply W_ret
    | (apply W_condT; apply Eq.refl)
    | (apply W_condF; apply Eq.refl)
    | (apply WL_n; apply Eq.refl; (first | (apply n_boxa <;> apply Eq.refl) | (apply n_alloc <;> apply Eq.refl) | (apply n_stb <;> apply Eq.refl)))
    | apply W_regionG
    | (apply WG_nil; kernel_rfl)
    | (apply WG_q; (first | (apply want_none; apply Eq.refl) | (apply want_some; apply Eq.refl; apply Eq.refl; apply Eq.refl)); apply Eq.refl; first | (apply fq_bld <;> apply Eq.refl) | (apply fq_blda <;> apply Eq.refl) | (apply fq_fn; apply Eq.refl) | (apply fq_mf; apply Eq.refl) | (apply FQ_intro; intro _; (first | (apply q_mvI <;> apply Eq.refl) | (apply q_ldb <;> apply Eq.refl) | (apply q_fab <;> apply Eq.refl) | (apply q_mvB <;> apply Eq.refl) | (apply q_ia <;> (first | apply Eq.refl | omega)) | (apply q_ldba <;> apply Eq.refl) | (apply q_ldra <;> apply Eq.refl))))
    | (apply WG_n; (first | (apply want_none; apply Eq.refl) | (apply want_some; apply Eq.refl; apply Eq.refl; apply Eq.refl)); (first | (apply f_alloc <;> apply Eq.refl) | (apply f_stb <;> apply Eq.refl))))
    ((try apply fin_now); first | (apply fin_A; apply Eq.refl; apply Eq.refl; apply Eq.refl; apply Eq.refl; apply Eq.refl; apply Eq.refl; apply Eq.refl; apply Eq.refl; try apply Eq.refl))
  · repeat' (first
    | (apply WL_q; apply Eq.refl; apply Eq.refl; (first | (apply q_mvI <;> apply Eq.refl) | (apply q_ldb <;> apply Eq.refl) | (apply q_fab <;> apply Eq.refl) | (apply q_mvB <;> apply Eq.refl) | (apply q_ia <;> (first | apply Eq.refl | omega)) | (apply q_ldba <;> apply Eq.refl) | (apply q_ldra <;> apply Eq.refl)))
    | apply W_seq
    | apply W_region
    | apply T_normal
    | apply WL_nil
    | apply W_skip
    | apply W_ret
    | (apply W_condT; apply Eq.refl)
    | (apply W_condF; apply Eq.refl)
    | (apply WL_n; apply Eq.refl; (first | (apply n_boxa <;> apply Eq.refl) | (apply n_alloc <;> apply Eq.refl) | (apply n_stb <;> apply Eq.refl)))
    | apply W_regionG
    | (apply WG_nil; kernel_rfl)
    | (apply WG_q; (first | (apply want_none; apply Eq.refl) | (apply want_some; apply Eq.refl; apply Eq.refl; apply Eq.refl)); apply Eq.refl; first | (apply fq_bld <;> apply Eq.refl) | (apply fq_blda <;> apply Eq.refl) | (apply fq_fn; apply Eq.refl) | (apply fq_mf; apply Eq.refl) | (apply FQ_intro; intro _; (first | (apply q_mvI <;> apply Eq.refl) | (apply q_ldb <;> apply Eq.refl) | (apply q_fab <;> apply Eq.refl) | (apply q_mvB <;> apply Eq.refl) | (apply q_ia <;> (first | apply Eq.refl | omega)) | (apply q_ldba <;> apply Eq.refl) | (apply q_ldra <;> apply Eq.refl))))
    | (apply WG_n; (first | (apply want_none; apply Eq.refl) | (apply want_some; apply Eq.refl; apply Eq.refl; apply Eq.refl)); (first | (apply f_alloc <;> apply Eq.refl) | (apply f_stb <;> apply Eq.refl))))
    refine fin_wk (wk_nilbox 6 (l' := encRide (freeT (c.trucks.getD k default) true) c.len) rfl ⟨.inl rfl, .inl rfl, .inl rfl, .inl rfl, .inr ⟨rfl, _, _, rfl⟩, .inl rfl, trivial⟩) (fin_now ?_)
    ((try apply fin_now); first | (apply fin_A; apply Eq.refl; apply Eq.refl; apply Eq.refl; apply Eq.refl; apply Eq.refl; apply Eq.refl; apply Eq.refl; apply Eq.refl; try apply Eq.refl))
def goneL (t : Truck) (len : Int) : D := .sl 2 (hitR t len t.lo + 1) fun k => encSpan (gone t len k)
def encTrack (t : Truck) (len : Int) : List D := encRide t len ++ [goneL t len]
theorem pure_track (t : Truck) (len : Int) : PureL (encTrack t len) := fun d hd => by
  rcases List.mem_append.1 hd with h | h
  · exact pure_ride t len d h
  · simp at h; subst h; exact .sl _ _ _ fun _ _ d hd => pure_span _ d hd
theorem c83 (t : Truck) (len : Int) (h : ROk len t) : Contract seat 83 [.agg (encRide t len)] (.agg (encTrack t len)) := by
  have hn := (hitR_ok h (Int.le_refl t.lo)).2.2
  refine contract_introW (fn := Tryd.f83) Tryd.func83 rfl (by kernel_rfl) rfl ?_ ?_ ?_
  · exact PureL.cons (.agg _ (pure_ride t len)) PureL.nil
  · exact .agg _ (pure_track _ _)
  intro w κ
  repeat' (first
    | (apply WL_q; apply Eq.refl; apply Eq.refl; (first | (apply q_ldb <;> apply Eq.refl) | (apply q_fab <;> apply Eq.refl) | (apply q_ldba <;> apply Eq.refl) | (apply q_bld <;> apply Eq.refl)))
    | apply W_seq
    | apply W_region
    | apply T_normal
    | apply WL_nil
    | apply B_normal
    | apply W_ret
    | apply W_block
    | (apply WL_call; apply Eq.refl; apply Eq.refl; rotate_left 1; apply Eq.refl; rotate_right 1; exact (c115 t len); apply Eq.refl)
    | (apply WL_n; apply Eq.refl; (first | (apply n_boxa <;> apply Eq.refl) | (apply n_alloc <;> apply Eq.refl) | (apply n_stb <;> apply Eq.refl) | (apply n_bsl <;> apply Eq.refl))))
  refine W_wk (wk_nilc 3 6 50 47 2 (fun k => encSpan (gone t len k)) rfl rfl rfl rfl rfl) ?_
  refine W_rangeFunc rfl (i125 t len h) (fun k => [.int .i64 (t.start + k), .agg (encSpan (gone t len k))]) (fun k _ => rfl) (fun k _ => rfl) [1, 2] (fun k => [(3, 1), (50, k + 1)]) (fun k => [(3, .box (encRide t len ++ [.os 50 (k + 1)])), (50, .arr 47 2 k (fun k => encSpan (gone t len k)))]) (fun _ _ => False) ⟨⟨rfl, rfl, trivial⟩, rfl, rfl, trivial⟩ ?_ ?_ (fun _ h => h.elim) (fun _ _ h => h.elim) (fun _ _ h => h.elim)
  · intro k g hk hg κp γp svp T l Φ cl
    repeat' (first
    | (apply WL_q; apply Eq.refl; apply Eq.refl; (first | (apply q_ldb <;> apply Eq.refl) | (apply q_fab <;> apply Eq.refl) | (apply q_ldba <;> apply Eq.refl) | (apply q_bld <;> apply Eq.refl)))
    | apply W_seq
    | apply W_region
    | apply T_normal
    | apply WL_nil
    | apply B_normal
    | apply W_ret
    | apply W_block
    | (apply WL_n; apply Eq.refl; (first | (apply n_boxa <;> apply Eq.refl) | (apply n_alloc <;> apply Eq.refl) | (apply n_stb <;> apply Eq.refl) | (apply n_bsl <;> apply Eq.refl))))
    refine And.intro rfl (fun Φ' cl' => ?_)
    repeat' (first
    | (apply WL_q; apply Eq.refl; apply Eq.refl; (first | (apply q_ldb <;> apply Eq.refl) | (apply q_fab <;> apply Eq.refl) | (apply q_ldba <;> apply Eq.refl) | (apply q_bld <;> apply Eq.refl)))
    | apply W_seq
    | apply W_region
    | apply T_normal
    | apply WL_nil
    | apply B_normal
    | apply W_ret
    | apply W_block
    | (apply WL_n; apply Eq.refl; (first | (refine n_app (f' := fun k => encSpan (gone t len k)) rfl rfl rfl rfl rfl rfl rfl rfl rfl rfl rfl rfl rfl rfl rfl (by show (k + 1) * 16 ≤ _; omega) (by omega) rfl (fun i hi => rfl) (fun i hi => by (obtain rfl : i = 0 := by omega); rfl)) | (apply n_boxa <;> apply Eq.refl) | (apply n_alloc <;> apply Eq.refl) | (apply n_stb <;> apply Eq.refl) | (apply n_bsl <;> apply Eq.refl))))
    exact (by apply bq_now; refine ⟨?_, ?_, ?_⟩ <;> repeat' (first | exact trivial | apply And.intro | apply Eq.refl | (apply toI; apply Eq.refl; first | omega | assumption) | (apply toB; apply Eq.refl; repeat' (first | apply Eq.refl | apply consS | (apply consI; first | apply Eq.refl | omega | assumption)))))
  · intro g
    repeat' (first
    | (apply WL_q; apply Eq.refl; apply Eq.refl; (first | (apply q_ldb <;> apply Eq.refl) | (apply q_fab <;> apply Eq.refl) | (apply q_ldba <;> apply Eq.refl) | (apply q_bld <;> apply Eq.refl)))
    | apply W_seq
    | apply W_region
    | apply T_normal
    | apply WL_nil
    | apply B_normal
    | apply W_ret
    | apply W_block
    | (apply WL_n; apply Eq.refl; (first | (apply n_boxa <;> apply Eq.refl) | (apply n_alloc <;> apply Eq.refl) | (apply n_stb <;> apply Eq.refl) | (apply n_bsl <;> apply Eq.refl))))
    refine fin_wk (wk_freeze_cell 2 6 (s := 50) rfl rfl rfl rfl rfl) (fin_now ?_)
    ((try apply fin_now); first | (apply fin_A; apply Eq.refl; apply Eq.refl; apply Eq.refl; apply Eq.refl; apply Eq.refl; apply Eq.refl; apply Eq.refl; apply Eq.refl; try apply Eq.refl))
end Go.Proofs.YtafnhieaeejlcaaDoor
