/- 'sastrugilaw07.RescueKnown' returns true, and what is given reads behind the call as it read before, without a condition. -/
import Derived.Test.YtoklcjdahicjmaaW1
import Derived.Test.YtoklcjdahicjmaaW2
import Derived.Test.YtoklcjdahicjmaaW3
import Derived.Test.YtoklcjdahicjmaaW4
import Derived.Test.YtoklcjdahicjmaaW5
import Derived.Test.YtoklcjdahicjmaaW6
import Derived.Test.YtoklcjdahicjmaaW7
import Derived.Test.YtoklcjdahicjmaaW8
import Derived.Test.YtoklcjdahicjmaaW9
set_option linter.all false
/- 'sastrugilaw07.RescueKnown' returns true, and what is given reads behind the call as it read before, without a condition. -/
namespace Go.Proofs.Rescue07
open Go Go.Ab
set_option linter.all false
set_option maxRecDepth 100000
theorem k15   : Contract Go.Proofs.Ytoklcjdahicjmaa.seat 15 [] (.bool true) := by
  have h := fn_contract (Z := Go.Proofs.Ytoklcjdahicjmaa.iseat) (ats := []) (ts := [.bool]) (E := E15) (fn := Try.f15) (c := bodyOf Try.f15) Try.func15 (by kernel_rfl) (by kernel_rfl) (by kernel_rfl) (by kernel_rfl) rfl ((e15 itN ).trans ((RescueKnown_eq ).symm.trans (RescueKnown_true  ))) zh zh
  have e : I.toDL zh (encA [] (())) = [] := by
    rfl
  rw [e] at h
  exact h
end Go.Proofs.Rescue07
namespace Go.Proofs.Ytoklcjdahicjmaa.rescueKnown
open Go Go.Ab Go.ChangeShapes Go.WideShapes Go.ChangeAt Go.RowKit
set_option maxRecDepth 100000
theorem contract (H : Type) (enc : TypeId × Value → H) (W : World) (base : Nat) (args : Array Value) (ds gs : List (DataW H)) (before : List MemPlace)
    (hval : ∀ (j : Nat) t v, Try.f15.params[j]? = some t → args[j]? = some v → Value.okWide Try.prog W .any base t v)
    (hW : DataW.Whole enc Try.prog Try.f15.params.toList Rows.rescueKnownSpec.vars false W args.toList ds gs before) (hL : laidMetH Try.prog Rows.rescueKnownRow.laid W) :
    Calls Try.prog 15 args W fun e W' => ∃ v, e = .returned v ∧ Rows.rescueKnownSpec.post enc Try.prog Try.f15 false true false false W args v W' := by
  have hW' := hW
  obtain ⟨p, q, hA, hV, rfl, _, _⟩ := hW
  rw [Try.params15] at hA hval
  obtain ⟨hargs, rfl, rfl⟩ := trodAll_nil hA
  obtain rfl : args = #[] := by cases args; simp_all
  obtain ⟨rfl, rfl⟩ := trodVars_none hV
  refine ((Go.Proofs.Rescue07.k15  ).calls W (allK W) [] (allK_fits W) glob_of .nil).mono fun e W' ⟨v, he, hv, hb⟩ => ?_
  subst he
  cases hv
  exact ⟨_, rfl, post_yes hW' rfl hb (by rw [Try.params15]; intro t ht; simp at ht) (by kernel_rfl) rfl rfl rfl⟩

theorem laid_met (os : Os) : laidMet Try.prog Rows.rescueKnownRow.laid ((laidWorld os).forCall (fun _ _ => 0) ⟨#[], #[], []⟩).memory :=
  laidMet_of_run' 8 (by kernel_rfl) (by kernel_rfl)
theorem reads (os : Os) {H : Type} (enc : TypeId × Value → H) : ∃ places, DataW.whole enc Try.prog ((laidWorld os).forCall (fun _ _ => 0) ⟨#[], #[], []⟩).memory Try.f15.params.toList Rows.rescueKnownSpec.vars false #[].toList 8 =
    some ([], [], places) :=
  ⟨[], by kernel_rfl⟩

theorem lifted (os : Os) (started : os.Started) (H : Type) (enc : TypeId × Value → H) (F : Stop.Interp) :
    ReturnsInHanded {} Try.checked os 15 .any ((OpenSpec.ofChange Rows.rescueKnownSpec).preRow enc Try.prog Try.f15 Rows.rescueKnownRow.domain false Rows.rescueKnownRow.laid) (((OpenSpec.ofChange Rows.rescueKnownSpec).at F).post enc Try.prog Try.f15 false true false false) := by
  obtain ⟨places, hx⟩ := reads os enc
  refine returnsInHanded_of_row (C := Try.checked) (s := OpenSpec.ofChange Rows.rescueKnownSpec) own started (by kernel_rfl) Try.func15
    (witness_row_at (enc := enc) (C := Try.checked) false (laidWorld os) #[] rfl (by kernel_rfl) (by kernel_rfl) (by kernel_rfl)
      (OpenSpec.preRow_of_cond 8 hx (by kernel_rfl) (fun k hk => by cases hk) (by kernel_rfl) (laid_met os))) ?_
  intro W base args ds gs before hval hW _ _ _ hL _ _
  exact contract H enc W base args ds gs before hval hW hL

theorem said : Rows.RescueKnownSaid :=
  OpenClaim.holds_of_cond 15 Try.f15 rfl rfl rfl rfl rfl rfl rfl ⟨rfl, rfl, rfl, rfl, rfl⟩ rfl rfl rfl rfl rfl (by kernel_rfl) Try.func15 (by kernel_rfl)
    (of_decide_eq_true (by kernel_rfl)) (by unfold Func.isWrapper; first | (rw [if_pos (by decide +kernel)]; kernel_rfl) | (rw [if_neg (by decide +kernel)]; exact ⟨rfl, rfl⟩))
    (fun os started H enc _ F => by rw [OpenClaim.pre_eq_preRow]; exact lifted os started H enc F)
end Go.Proofs.Ytoklcjdahicjmaa.rescueKnown

