/- Walks through the functions that the laws of the convoys reach: what each of them gives for what it gets (contracts), written out by a program of ours; without a condition but those that stand in each theorem. -/
import Derived.Test.YtafnhieaeejlcaaDoorCt4
set_option linter.all false
namespace Go.Proofs.YtafnhieaeejlcaaDoor
open Go Go.Ab
set_option maxRecDepth 100000
set_option maxHeartbeats 4000000
attribute [local irreducible] W WL QOp NOp thenQ blockQ FinQ FinR WG FQ Want FinW WI WIL thenI blockI
/-- How many of the first k have to fail; none if one is too late though it fails. -/
def mayC (keep fail : Nat → Int) (m : Int) : Nat → Option Int
  | 0 => some 0
  | k + 1 => match mayC keep fail m k with
    | none => none
    | some c => if keep k ≤ m then some c else if fail k > m then none else some (c + 1)
def mayF (keep fail : Nat → Int) (n : Nat) (fails m : Int) : Bool := match mayC keep fail m n with | none => false | some c => decide (c ≤ fails)
theorem mayC_none {keep fail : Nat → Int} {m : Int} {k : Nat} (h : mayC keep fail m k = none) : ∀ n, k ≤ n → mayC keep fail m n = none := by
  intro n hn
  induction n with
  | zero => have : k = 0 := by omega
            subst this; exact h
  | succ n ih =>
    by_cases e : k = n + 1
    · subst e; exact h
    · simp only [mayC, ih (by omega)]
theorem mayC_keep {keep fail : Nat → Int} {m c : Int} {k : Nat} (h : mayC keep fail m k = some c) (h1 : keep k ≤ m) : mayC keep fail m (k + 1) = some c := by simp only [mayC, h, if_pos h1]
theorem mayC_fail {keep fail : Nat → Int} {m c : Int} {k : Nat} (h : mayC keep fail m k = some c) (h1 : ¬ keep k ≤ m) (h2 : ¬ fail k > m) : mayC keep fail m (k + 1) = some (c + 1) := by simp only [mayC, h, if_neg h1, if_neg h2]
theorem mayC_stop {keep fail : Nat → Int} {m c : Int} {k : Nat} (h : mayC keep fail m k = some c) (h1 : ¬ keep k ≤ m) (h2 : fail k > m) : mayC keep fail m (k + 1) = none := by simp only [mayC, h, if_neg h1, if_pos h2]
theorem mayF_no {keep fail : Nat → Int} {m c fails : Int} {k n : Nat} (h : mayC keep fail m k = some c) (h1 : ¬ keep k ≤ m) (h2 : fail k > m) (hk : k < n) : false = mayF keep fail n fails m := by
  simp only [mayF, mayC_none (mayC_stop h h1 h2) n hk]
theorem mayF_end {keep fail : Nat → Int} {m c fails : Int} {k n : Nat} (h : mayC keep fail m k = some c) (hk : k ≤ n) (h2 : ¬ k < n) : decide (c ≤ fails) = mayF keep fail n fails m := by
  have : k = n := by omega
  subst this; simp only [mayF, h]
theorem mayF_late {keep fail : Nat → Int} {m fails : Int} {n : Nat} (h : ∀ k, k < n → keep k ≤ m) (hf : 0 ≤ fails) : mayF keep fail n fails m = true := by
  have : ∀ k, k ≤ n → mayC keep fail m k = some 0 := by
    intro k
    induction k with
    | zero => intro _; rfl
    | succ k ih => intro hk; exact mayC_keep (ih (by omega)) (h k (by omega))
  simp only [mayF, this n (Nat.le_refl _)]; simpa using hf

def mayInv (keep fail : Nat → Int) (m : Int) (n : Nat) (x : Nat × Int) : Prop := x.1 ≤ n ∧ mayC keep fail m x.1 = some x.2 ∧ 0 ≤ x.2 ∧ x.2 ≤ x.1
theorem c118 (keep fail : Nat → Int) (n : Nat) (fails m : Int) (hn : n ≤ 1000) : Contract seat 118 [.sl 1 n (fun i => encI (keep i)), .sl 1 n (fun i => encI (fail i)), .int .i64 fails, .int .i64 m] (.bool (mayF keep fail n fails m)) := by
  refine contract_intro (fn := Tryd.f118) Tryd.func118 rfl (by kernel_rfl) rfl ?_ ?_ ?_
  · exact PureL.cons (.sl _ _ _ fun _ _ d hd => pure_I _ d hd) (PureL.cons (.sl _ _ _ fun _ _ d hd => pure_I _ d hd) (PureL.cons (.int _ _) (PureL.cons (.int _ _) PureL.nil)))
  · exact .bool _
  intro w κ
  repeat' (first
    | (apply WL_q; apply Eq.refl; apply Eq.refl; (first | (apply q_mvI <;> apply Eq.refl) | (apply q_asI <;> apply Eq.refl) | (apply q_cmp <;> apply Eq.refl) | (apply q_asB <;> apply Eq.refl) | (apply q_ldr <;> apply Eq.refl) | (apply q_arith <;> (first | apply Eq.refl | omega)) | (apply q_len <;> apply Eq.refl) | (apply q_ia <;> (first | apply Eq.refl | omega)) | (apply q_mvS <;> apply Eq.refl)))
    | apply W_seq
    | apply W_region
    | apply T_normal
    | apply WL_nil
    | apply T_exit
    | apply T_ret
    | apply B_normal
    | apply B_ret
    | apply B_exit_eq
    | apply W_skip
    | apply W_exit
    | apply W_ret
    | apply W_block
    | (apply W_cD; apply Eq.refl; intro _; rotate_left 1; intro _; rotate_left 1))
  refine W_loopM (α := Nat × Int) (fun x => [(0, .sl 1 n (fun i => encI (keep i))), (1, .sl 1 n (fun i => encI (fail i))), (2, .int .i64 fails), (3, .int .i64 m), (9, .int .i64 x.2), (10, .int .i64 x.1)]) (fun _ => [])
      (fun _ => []) (mayInv keep fail m n) (fun x => n - x.1) (0, 0) ⟨Nat.zero_le _, rfl, Int.le_refl _, Int.le_refl _⟩ (by refine ⟨?_, ?_, ?_⟩ <;> repeat' (first | exact trivial | apply And.intro | apply Eq.refl)) (fun x h hi => ?_)
  obtain ⟨i1, i2, i3, i4⟩ := hi
  repeat' (first
    | (apply WL_q; apply Eq.refl; apply Eq.refl; (first | (apply q_mvI <;> apply Eq.refl) | (apply q_asI <;> apply Eq.refl) | (apply q_cmp <;> apply Eq.refl) | (apply q_asB <;> apply Eq.refl) | (apply q_ldr <;> apply Eq.refl) | (apply q_arith <;> (first | apply Eq.refl | omega)) | (apply q_len <;> apply Eq.refl) | (apply q_ia <;> (first | apply Eq.refl | omega)) | (apply q_mvS <;> apply Eq.refl)))
    | apply W_seq
    | apply W_region
    | apply T_normal
    | apply WL_nil
    | apply T_exit
    | apply T_ret
    | apply B_normal
    | apply B_ret
    | apply B_exit_eq
    | apply W_skip
    | apply W_exit
    | apply W_ret
    | apply W_block
    | (apply W_cD; apply Eq.refl; intro _; rotate_left 1; intro _; rotate_left 1))
  all_goals try simp only [Int.toNat_natCast] at *
  all_goals first
    | (refine fin_B rfl rfl (mayF_no i2 (by assumption) (by assumption) (by omega)); done)
    | (refine fin_B rfl rfl (mayF_end i2 i1 (by omega)); done)
    | (refine ⟨(x.1 + 1, x.2), ⟨by simp only; omega, mayC_keep i2 (by assumption), i3, by simp only; omega⟩, by simp only; omega, (by refine ⟨?_, ?_, ?_⟩ <;> repeat' (first | exact trivial | apply And.intro | apply Eq.refl))⟩; done)
    | (refine ⟨(x.1 + 1, x.2 + 1), ⟨by simp only; omega, mayC_fail i2 (by assumption) (by assumption), by simp only; omega, by simp only; omega⟩, by simp only; omega, (by refine ⟨?_, ?_, ?_⟩ <;> repeat' (first | exact trivial | apply And.intro | apply Eq.refl))⟩; done)
    | skip
end Go.Proofs.YtafnhieaeejlcaaDoor

