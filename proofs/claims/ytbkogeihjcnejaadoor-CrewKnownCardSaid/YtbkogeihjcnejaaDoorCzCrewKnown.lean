/- 'sastrugilaw09.CrewKnown' returns true, and what is given reads behind the call as it read before, without a condition: its tied card. -/
import Derived.Test.YtbkogeihjcnejaaDoorW1
import Derived.Test.YtbkogeihjcnejaaDoorW2
import Derived.Test.YtbkogeihjcnejaaDoorW3
import Derived.Test.YtbkogeihjcnejaaDoorW4
import Derived.Test.YtbkogeihjcnejaaDoorW5
import Derived.Test.YtbkogeihjcnejaaDoorW6
import Derived.Test.YtbkogeihjcnejaaDoorW7
import Derived.Test.YtbkogeihjcnejaaDoorW8
import Derived.Test.YtbkogeihjcnejaaDoorW9
import Derived.Test.YtbkogeihjcnejaaDoorW10
import Derived.Test.YtbkogeihjcnejaaDoorW11
import Derived.Test.YtbkogeihjcnejaaDoorW12
set_option linter.all false
/- 'sastrugilaw09.CrewKnown' returns true, and what is given reads behind the call as it read before, without a condition: its tied card. -/
namespace Go.Proofs.CrewK
open Go Go.Ab
set_option linter.all false
set_option maxRecDepth 100000
theorem k3   : Contract Go.Proofs.YtbkogeihjcnejaaDoor.seat 3 [] (.bool true) := by
  have h := fn_contract (Z := Go.Proofs.YtbkogeihjcnejaaDoor.iseat) (ats := []) (ts := [.bool]) (E := E3) (fn := Tryd.f3) (c := bodyOf Tryd.f3) Tryd.func3 (by kernel_rfl) (by kernel_rfl) (by kernel_rfl) (by kernel_rfl) rfl t3 zh zh
  have e : I.toDL zh (encA [] (())) = [] := by
    rfl
  rw [e] at h
  exact h
end Go.Proofs.CrewK
namespace Go.Proofs.YtbkogeihjcnejaaDoor.crewKnown
open Go Go.Ab Go.ChangeShapes Go.WideShapes Go.ChangeAt Go.RowKit
set_option maxRecDepth 100000
theorem contract (H : Type) (enc : TypeId × Value → H) (W : World) (base : Nat) (args : Array Value) (ds gs : List (DataW H)) (before : List MemPlace)
    (hval : ∀ (j : Nat) t v, Tryd.f3.params[j]? = some t → args[j]? = some v → Value.okWide Tryd.prog W .any base t v)
    (hW : DataW.Whole enc Tryd.prog Tryd.f3.params.toList Rows.crewKnownSpec.vars false W args.toList ds gs before) (hL : laidMetH Tryd.prog Rows.crewKnownRow.laid W) :
    Calls Tryd.prog 3 args W fun e W' => ∃ v, e = .returned v ∧ Rows.crewKnownSpec.post enc Tryd.prog Tryd.f3 false true false false W args v W' := by
  have hW' := hW
  obtain ⟨p, q, hA, hV, rfl, _, _⟩ := hW
  rw [Tryd.params3] at hA hval
  obtain ⟨hargs, rfl, rfl⟩ := trodAll_nil hA
  obtain rfl : args = #[] := by cases args; simp_all
  obtain ⟨rfl, rfl⟩ := trodVars_none hV
  refine ((Go.Proofs.CrewK.k3  ).calls W (allK W) [] (allK_fits W) (glob_of hL) .nil).mono fun e W' ⟨v, he, hv, hb⟩ => ?_
  subst he
  cases hv
  exact ⟨_, rfl, post_yes hW' rfl hb (by rw [Tryd.params3]; intro t ht; simp at ht) (by kernel_rfl) rfl rfl rfl⟩

theorem laid_met (os : Os) : laidMet Tryd.prog Rows.crewKnownRow.laid ((laidWorld os).forCall (fun _ _ => 0) ⟨#[], #[], []⟩).memory :=
  laidMet_of_run' 8 (by kernel_rfl) (by kernel_rfl)
theorem reads (os : Os) {H : Type} (enc : TypeId × Value → H) : ∃ places, DataW.whole enc Tryd.prog ((laidWorld os).forCall (fun _ _ => 0) ⟨#[], #[], []⟩).memory Tryd.f3.params.toList Rows.crewKnownSpec.vars false #[].toList 8 =
    some ([], [], places) :=
  ⟨[], by kernel_rfl⟩

theorem lifted (os : Os) (started : os.Started) (H : Type) (enc : TypeId × Value → H) (F : Stop.Interp) :
    ReturnsInHanded {} Tryd.checked os 3 .any ((OpenSpec.ofChange Rows.crewKnownSpec).preRow enc Tryd.prog Tryd.f3 Rows.crewKnownRow.domain false Rows.crewKnownRow.laid) (((OpenSpec.ofChange Rows.crewKnownSpec).at F).post enc Tryd.prog Tryd.f3 false true false false) := by
  obtain ⟨places, hx⟩ := reads os enc
  refine returnsInHanded_of_row (C := Tryd.checked) (s := OpenSpec.ofChange Rows.crewKnownSpec) own started (by kernel_rfl) Tryd.func3
    (witness_row_at (enc := enc) (C := Tryd.checked) false (laidWorld os) #[] rfl (by kernel_rfl) (by kernel_rfl) (by kernel_rfl)
      (OpenSpec.preRow_of_cond 8 hx (by kernel_rfl) (fun k hk => by cases hk) (by kernel_rfl) (laid_met os))) ?_
  intro W base args ds gs before hval hW _ _ _ hL _ _
  exact contract H enc W base args ds gs before hval hW hL

theorem said : Rows.CrewKnownSaid :=
  OpenClaim.holds_of_cond 3 Tryd.f3 rfl rfl rfl rfl rfl rfl rfl ⟨rfl, rfl, rfl, rfl, rfl⟩ rfl rfl rfl rfl rfl (by kernel_rfl) Tryd.func3 (by kernel_rfl)
    (of_decide_eq_true (by kernel_rfl)) (by unfold Func.isWrapper; first | (rw [if_pos (by decide +kernel)]; kernel_rfl) | (rw [if_neg (by decide +kernel)]; exact ⟨rfl, rfl⟩))
    (fun os started H enc _ F => by rw [OpenClaim.pre_eq_preRow]; exact lifted os started H enc F)

theorem plain (f : FuncId) (fn : Func) (hf : Tryd.pinned.checked.prog.funcNamed "sastrugi/sastrugilaw09.CrewKnown" = some f) (hfn : Tryd.pinned.checked.prog.funcs[f]? = some fn) :
    false = Tryd.pinned.checked.prog.looks [] ∧ ∀ (j : Nat) t, fn.params[j]? = some t → Tryd.pinned.checked.prog.wantsStandIn t = false := by
  obtain rfl : f = 3 := Option.some.inj ((show Tryd.prog.funcNamed "sastrugi/sastrugilaw09.CrewKnown" = some 3 by kernel_rfl).symm.trans hf) |>.symm
  obtain rfl : fn = Tryd.f3 := (Option.some.inj (Tryd.func3.symm.trans hfn)).symm
  refine ⟨by kernel_rfl, fun j t ht => ?_⟩
  rw [Tryd.params3] at ht
  simp at ht

theorem card : Rows.CrewKnownCardSaid :=
  Claim7.holds_tied_plain_at .later [] _ _ _ _ said (fun _ h => by cases h) (by kernel_rfl) (fun _ h => by cases h) crewKnown_row_tie rfl ⟨rfl, rfl⟩ (by kernel_rfl) rfl plain (by kernel_rfl)
end Go.Proofs.YtbkogeihjcnejaaDoor.crewKnown

