/- 'sastrugilaw04.ConvoyKnown' returns true, and what is given reads behind the call as it read before, without a condition: its tied card. -/
import Derived.Test.YtmoiedlfimodeaaDoorW1
import Derived.Test.YtmoiedlfimodeaaDoorW2
import Derived.Test.YtmoiedlfimodeaaDoorW3
import Derived.Test.YtmoiedlfimodeaaDoorW4
import Derived.Test.YtmoiedlfimodeaaDoorW5
import Derived.Test.YtmoiedlfimodeaaDoorW6
import Derived.Test.YtmoiedlfimodeaaDoorW7
import Derived.Test.YtmoiedlfimodeaaDoorW8
import Derived.Test.YtmoiedlfimodeaaDoorW9
import Derived.Test.YtmoiedlfimodeaaDoorW10
import Derived.Test.YtmoiedlfimodeaaDoorW11
set_option linter.all false
/- 'sastrugilaw04.ConvoyKnown' returns true, and what is given reads behind the call as it read before, without a condition: its tied card. -/
namespace Go.Proofs.Kn04
open Go Go.Ab
set_option linter.all false
set_option maxRecDepth 100000
theorem k4   : Contract Go.Proofs.YtmoiedlfimodeaaDoor.seat 4 [] (.bool true) := by
  have h := fn_contract (Z := Go.Proofs.YtmoiedlfimodeaaDoor.iseat) (ats := []) (ts := [.bool]) (E := E4) (fn := Tryd.f4) (c := bodyOf Tryd.f4) Tryd.func4 (by kernel_rfl) (by kernel_rfl) (by kernel_rfl) (by kernel_rfl) rfl t4 zh zh
  have e : I.toDL zh (encA [] (())) = [] := by
    rfl
  rw [e] at h
  exact h
end Go.Proofs.Kn04
namespace Go.Proofs.YtmoiedlfimodeaaDoor.convoyKnown
open Go Go.Ab Go.ChangeShapes Go.WideShapes Go.ChangeAt Go.RowKit
set_option maxRecDepth 100000
theorem contract (H : Type) (enc : TypeId × Value → H) (W : World) (base : Nat) (args : Array Value) (ds gs : List (DataW H)) (before : List MemPlace)
    (hval : ∀ (j : Nat) t v, Tryd.f4.params[j]? = some t → args[j]? = some v → Value.okWide Tryd.prog W .any base t v)
    (hW : DataW.Whole enc Tryd.prog Tryd.f4.params.toList Rows.convoyKnownSpec.vars false W args.toList ds gs before) (hL : laidMetH Tryd.prog Rows.convoyKnownRow.laid W) :
    Calls Tryd.prog 4 args W fun e W' => ∃ v, e = .returned v ∧ Rows.convoyKnownSpec.post enc Tryd.prog Tryd.f4 false true false false W args v W' := by
  have hW' := hW
  obtain ⟨p, q, hA, hV, rfl, _, _⟩ := hW
  rw [Tryd.params4] at hA hval
  obtain ⟨hargs, rfl, rfl⟩ := trodAll_nil hA
  obtain rfl : args = #[] := by cases args; simp_all
  obtain ⟨rfl, rfl⟩ := trodVars_none hV
  refine ((Go.Proofs.Kn04.k4  ).calls W (allK W) [] (allK_fits W) (glob_of hL) .nil).mono fun e W' ⟨v, he, hv, hb⟩ => ?_
  subst he
  cases hv
  exact ⟨_, rfl, post_yes hW' rfl hb (by rw [Tryd.params4]; intro t ht; simp at ht) (by kernel_rfl) rfl rfl rfl⟩

theorem laid_met (os : Os) : laidMet Tryd.prog Rows.convoyKnownRow.laid ((laidWorld os).forCall (fun _ _ => 0) ⟨#[], #[], []⟩).memory :=
  laidMet_of_run' 8 (by kernel_rfl) (by kernel_rfl)
theorem reads (os : Os) {H : Type} (enc : TypeId × Value → H) : ∃ places, DataW.whole enc Tryd.prog ((laidWorld os).forCall (fun _ _ => 0) ⟨#[], #[], []⟩).memory Tryd.f4.params.toList Rows.convoyKnownSpec.vars false #[].toList 8 =
    some ([], [], places) :=
  ⟨[], by kernel_rfl⟩

theorem lifted (os : Os) (started : os.Started) (H : Type) (enc : TypeId × Value → H) (F : Stop.Interp) :
    ReturnsInHanded {} Tryd.checked os 4 .any ((OpenSpec.ofChange Rows.convoyKnownSpec).preRow enc Tryd.prog Tryd.f4 Rows.convoyKnownRow.domain false Rows.convoyKnownRow.laid) (((OpenSpec.ofChange Rows.convoyKnownSpec).at F).post enc Tryd.prog Tryd.f4 false true false false) := by
  obtain ⟨places, hx⟩ := reads os enc
  refine returnsInHanded_of_row (C := Tryd.checked) (s := OpenSpec.ofChange Rows.convoyKnownSpec) own started (by kernel_rfl) Tryd.func4
    (witness_row_at (enc := enc) (C := Tryd.checked) false (laidWorld os) #[] rfl (by kernel_rfl) (by kernel_rfl) (by kernel_rfl)
      (OpenSpec.preRow_of_cond 8 hx (by kernel_rfl) (fun k hk => by cases hk) (by kernel_rfl) (laid_met os))) ?_
  intro W base args ds gs before hval hW _ _ _ hL _ _
  exact contract H enc W base args ds gs before hval hW hL

theorem said : Rows.ConvoyKnownSaid :=
  OpenClaim.holds_of_cond 4 Tryd.f4 rfl rfl rfl rfl rfl rfl rfl ⟨rfl, rfl, rfl, rfl, rfl⟩ rfl rfl rfl rfl rfl (by kernel_rfl) Tryd.func4 (by kernel_rfl)
    (of_decide_eq_true (by kernel_rfl)) (by unfold Func.isWrapper; first | (rw [if_pos (by decide +kernel)]; kernel_rfl) | (rw [if_neg (by decide +kernel)]; exact ⟨rfl, rfl⟩))
    (fun os started H enc _ F => by rw [OpenClaim.pre_eq_preRow]; exact lifted os started H enc F)

theorem plain (f : FuncId) (fn : Func) (hf : Tryd.pinned.checked.prog.funcNamed "sastrugi/sastrugilaw04.ConvoyKnown" = some f) (hfn : Tryd.pinned.checked.prog.funcs[f]? = some fn) :
    true = Tryd.pinned.checked.prog.looks [] ∧ ∀ (j : Nat) t, fn.params[j]? = some t → Tryd.pinned.checked.prog.wantsStandIn t = false := by
  obtain rfl : f = 4 := Option.some.inj ((show Tryd.prog.funcNamed "sastrugi/sastrugilaw04.ConvoyKnown" = some 4 by kernel_rfl).symm.trans hf) |>.symm
  obtain rfl : fn = Tryd.f4 := (Option.some.inj (Tryd.func4.symm.trans hfn)).symm
  refine ⟨by kernel_rfl, fun j t ht => ?_⟩
  rw [Tryd.params4] at ht
  simp at ht

theorem card : Rows.ConvoyKnownCardSaid :=
  Claim7.holds_tied_plain_at .later [] _ _ _ _ said (fun _ h => by cases h) (by kernel_rfl) (fun _ h => by cases h) convoyKnown_row_tie rfl ⟨rfl, rfl⟩ (by kernel_rfl) rfl plain (by kernel_rfl)
end Go.Proofs.YtmoiedlfimodeaaDoor.convoyKnown

