/- 'sastrugilaw07.RescuePlaces' returns true for every list of numbers, and what is given reads behind the call as it read before, without a condition. -/
import Derived.Test.YtoklcjdahicjmaaW1
import Derived.Test.YtoklcjdahicjmaaW2
import Derived.Test.YtoklcjdahicjmaaW3
import Derived.Test.YtoklcjdahicjmaaW4
import Derived.Test.YtoklcjdahicjmaaW5
import Derived.Test.YtoklcjdahicjmaaW6
import Derived.Test.YtoklcjdahicjmaaW7
import Derived.Test.YtoklcjdahicjmaaW8
set_option linter.all false
/- 'sastrugilaw07.RescuePlaces' returns true for every list of numbers, and what is given reads behind the call as it read before, without a condition. -/
namespace Go.Proofs.Rescue07
open Go Go.Ab
set_option linter.all false
set_option maxRecDepth 100000
theorem k14 (x0 : List Int) (hx0 : x0.length ≤ 9223372036854775807) : Contract Go.Proofs.Ytoklcjdahicjmaa.seat 14 [slOf 1 encI x0] (.bool true) := by
  have h := fn_contract (Z := Go.Proofs.Ytoklcjdahicjmaa.iseat) (ats := [.sl (.int .i64)]) (ts := [.bool]) (E := E14) (fn := Try.f14) (c := bodyOf Try.f14) Try.func14 (by kernel_rfl) (by kernel_rfl) (by kernel_rfl) (by kernel_rfl) rfl ((e14 itN x0).trans ((RescuePlaces_eq x0).symm.trans (RescuePlaces_true x0 hx0))) zh zh
  have e : I.toDL zh (encA [.sl (.int .i64)] (x0, ())) = [slOf 1 encI x0] := by
    rfl
  rw [e] at h
  exact h
end Go.Proofs.Rescue07
namespace Go.Proofs.Ytoklcjdahicjmaa.rescuePlaces
open Go Go.Ab Go.ChangeShapes Go.WideShapes Go.ChangeAt Go.RowKit
set_option maxRecDepth 100000
theorem contract (H : Type) (enc : TypeId × Value → H) (W : World) (base : Nat) (args : Array Value) (ds gs : List (DataW H)) (before : List MemPlace)
    (hval : ∀ (j : Nat) t v, Try.f14.params[j]? = some t → args[j]? = some v → Value.okWide Try.prog W .any base t v)
    (hW : DataW.Whole enc Try.prog Try.f14.params.toList Rows.rescuePlacesSpec.vars false W args.toList ds gs before) (hL : laidMetH Try.prog Rows.rescuePlacesRow.laid W) :
    Calls Try.prog 14 args W fun e W' => ∃ v, e = .returned v ∧ Rows.rescuePlacesSpec.post enc Try.prog Try.f14 false true false false W args v W' := by
  have hW' := hW
  obtain ⟨p, q, hA, hV, rfl, _, _⟩ := hW
  rw [Try.params14] at hA hval
  obtain ⟨v0, vs0, d0, ds0, p0, q0, hargs, rfl, rfl, h0, r0⟩ := trodAll_cons hA
  obtain ⟨rfl, rfl, rfl⟩ := trodAll_nil r0
  obtain rfl : args = #[v0] := by cases args; simp_all
  obtain ⟨rfl, rfl⟩ := trodVars_none hV
  obtain ⟨x0, c0⟩ := arg_ints (hval 0 28 v0 rfl rfl) h0
  refine ((Go.Proofs.Rescue07.k14 x0 (ints_len (hval 0 28 v0 rfl rfl) c0)).calls W (allK W) [v0] (allK_fits W) glob_of (.cons _ _ _ _ c0 .nil)).mono fun e W' ⟨v, he, hv, hb⟩ => ?_
  subst he
  cases hv
  exact ⟨_, rfl, post_yes hW' rfl hb (by rw [Try.params14]; intro t ht; simp at ht; subst ht; exact ⟨by kernel_rfl, of_decide_eq_true (by kernel_rfl)⟩) (by kernel_rfl) rfl rfl rfl⟩

theorem laid_met (os : Os) : laidMet Try.prog Rows.rescuePlacesRow.laid ((laidWorld os).forCall (fun _ _ => 0) ⟨#[], #[.slice none 0 0], []⟩).memory :=
  laidMet_of_run' 8 (by kernel_rfl) (by kernel_rfl)
theorem reads (os : Os) {H : Type} (enc : TypeId × Value → H) : ∃ places, DataW.whole enc Try.prog ((laidWorld os).forCall (fun _ _ => 0) ⟨#[], #[.slice none 0 0], []⟩).memory Try.f14.params.toList Rows.rescuePlacesSpec.vars false #[.slice none 0 0].toList 8 =
    some ([.nil], [], places) :=
  ⟨[], by kernel_rfl⟩

theorem lifted (os : Os) (started : os.Started) (H : Type) (enc : TypeId × Value → H) (F : Stop.Interp) :
    ReturnsInHanded {} Try.checked os 14 .any ((OpenSpec.ofChange Rows.rescuePlacesSpec).preRow enc Try.prog Try.f14 Rows.rescuePlacesRow.domain false Rows.rescuePlacesRow.laid) (((OpenSpec.ofChange Rows.rescuePlacesSpec).at F).post enc Try.prog Try.f14 false true false false) := by
  obtain ⟨places, hx⟩ := reads os enc
  refine returnsInHanded_of_row (C := Try.checked) (s := OpenSpec.ofChange Rows.rescuePlacesSpec) own started (by kernel_rfl) Try.func14
    (witness_row_at (enc := enc) (C := Try.checked) false (laidWorld os) #[.slice none 0 0] rfl (by kernel_rfl) (by kernel_rfl) (by kernel_rfl)
      (OpenSpec.preRow_of_cond 8 hx (by kernel_rfl) (fun k hk => by cases hk) (by kernel_rfl) (laid_met os))) ?_
  intro W base args ds gs before hval hW _ _ _ hL _ _
  exact contract H enc W base args ds gs before hval hW hL

theorem said : Rows.RescuePlacesSaid :=
  OpenClaim.holds_of_cond 14 Try.f14 rfl rfl rfl rfl rfl rfl rfl ⟨rfl, rfl, rfl, rfl, rfl⟩ rfl rfl rfl rfl rfl (by kernel_rfl) Try.func14 (by kernel_rfl)
    (of_decide_eq_true (by kernel_rfl)) (by unfold Func.isWrapper; first | (rw [if_pos (by decide +kernel)]; kernel_rfl) | (rw [if_neg (by decide +kernel)]; exact ⟨rfl, rfl⟩))
    (fun os started H enc _ F => by rw [OpenClaim.pre_eq_preRow]; exact lifted os started H enc F)
end Go.Proofs.Ytoklcjdahicjmaa.rescuePlaces

