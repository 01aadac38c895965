/- 'sastrugilaw09.CrewAssigned' returns true for every list of numbers, and what is given reads behind the call as it read before, without a condition: its tied card. -/
import Derived.Test.YthmgcjmoiilggaaDoorW1
import Derived.Test.YthmgcjmoiilggaaDoorW2
import Derived.Test.YthmgcjmoiilggaaDoorW3
import Derived.Test.YthmgcjmoiilggaaDoorW4
import Derived.Test.YthmgcjmoiilggaaDoorW5
import Derived.Test.YthmgcjmoiilggaaDoorW6
import Derived.Test.YthmgcjmoiilggaaDoorW7
import Derived.Test.YthmgcjmoiilggaaDoorW8
import Derived.Test.YthmgcjmoiilggaaDoorW9
import Derived.Test.YthmgcjmoiilggaaDoorW10
import Derived.Test.YthmgcjmoiilggaaDoorW11
import Derived.Test.YthmgcjmoiilggaaDoorW12
set_option linter.all false
/- 'sastrugilaw09.CrewAssigned' returns true for every list of numbers, and what is given reads behind the call as it read before, without a condition: its tied card. -/
namespace Go.Proofs.Crew
open Go Go.Ab
set_option linter.all false
set_option maxRecDepth 100000
theorem k13 (x0 : List Int) (hx0 : x0.length ≤ 9223372036854775807) : Contract Go.Proofs.YthmgcjmoiilggaaDoor.seat 13 [slOf 1 encI x0] (.bool true) := by
  have h := fn_contract (Z := Go.Proofs.YthmgcjmoiilggaaDoor.iseat) (ats := [.sl (.int .i64)]) (ts := [.bool]) (E := E13) (fn := Tryd.f13) (c := bodyOf Tryd.f13) Tryd.func13 (by kernel_rfl) (by kernel_rfl) (by kernel_rfl) (by kernel_rfl) rfl ((e13 itN x0).trans ((CrewAssigned_eq x0).symm.trans (CrewAssigned_true awake_true  hx0))) zh zh
  have e : I.toDL zh (encA [.sl (.int .i64)] (x0, ())) = [slOf 1 encI x0] := by
    rfl
  rw [e] at h
  exact h
end Go.Proofs.Crew
namespace Go.Proofs.YthmgcjmoiilggaaDoor.crewAssigned
open Go Go.Ab Go.ChangeShapes Go.WideShapes Go.ChangeAt Go.RowKit
set_option maxRecDepth 100000
theorem contract (H : Type) (enc : TypeId × Value → H) (W : World) (base : Nat) (args : Array Value) (ds gs : List (DataW H)) (before : List MemPlace)
    (hval : ∀ (j : Nat) t v, Tryd.f13.params[j]? = some t → args[j]? = some v → Value.okWide Tryd.prog W .any base t v)
    (hW : DataW.Whole enc Tryd.prog Tryd.f13.params.toList Rows.crewAssignedSpec.vars false W args.toList ds gs before) (hL : laidMetH Tryd.prog Rows.crewAssignedRow.laid W) :
    Calls Tryd.prog 13 args W fun e W' => ∃ v, e = .returned v ∧ Rows.crewAssignedSpec.post enc Tryd.prog Tryd.f13 false true false false W args v W' := by
  have hW' := hW
  obtain ⟨p, q, hA, hV, rfl, _, _⟩ := hW
  rw [Tryd.params13] at hA hval
  obtain ⟨v0, vs0, d0, ds0, p0, q0, hargs, rfl, rfl, h0, r0⟩ := trodAll_cons hA
  obtain ⟨rfl, rfl, rfl⟩ := trodAll_nil r0
  obtain rfl : args = #[v0] := by cases args; simp_all
  obtain ⟨rfl, rfl⟩ := trodVars_none hV
  obtain ⟨x0, c0⟩ := arg_ints (hval 0 31 v0 rfl rfl) h0
  refine ((Go.Proofs.Crew.k13 x0 (ints_len (hval 0 31 v0 rfl rfl) c0)).calls W (allK W) [v0] (allK_fits W) glob_of (.cons _ _ _ _ c0 .nil)).mono fun e W' ⟨v, he, hv, hb⟩ => ?_
  subst he
  cases hv
  exact ⟨_, rfl, post_yes hW' rfl hb (by rw [Tryd.params13]; intro t ht; simp at ht; subst ht; exact ⟨by kernel_rfl, of_decide_eq_true (by kernel_rfl)⟩) (by kernel_rfl) rfl rfl rfl⟩

theorem laid_met (os : Os) : laidMet Tryd.prog Rows.crewAssignedRow.laid ((laidWorld os).forCall (fun _ _ => 0) ⟨#[], #[.slice none 0 0], []⟩).memory :=
  laidMet_of_run' 8 (by kernel_rfl) (by kernel_rfl)
theorem reads (os : Os) {H : Type} (enc : TypeId × Value → H) : ∃ places, DataW.whole enc Tryd.prog ((laidWorld os).forCall (fun _ _ => 0) ⟨#[], #[.slice none 0 0], []⟩).memory Tryd.f13.params.toList Rows.crewAssignedSpec.vars false #[.slice none 0 0].toList 8 =
    some ([.nil], [], places) :=
  ⟨[], by kernel_rfl⟩

theorem lifted (os : Os) (started : os.Started) (H : Type) (enc : TypeId × Value → H) (F : Stop.Interp) :
    ReturnsInHanded {} Tryd.checked os 13 .any ((OpenSpec.ofChange Rows.crewAssignedSpec).preRow enc Tryd.prog Tryd.f13 Rows.crewAssignedRow.domain false Rows.crewAssignedRow.laid) (((OpenSpec.ofChange Rows.crewAssignedSpec).at F).post enc Tryd.prog Tryd.f13 false true false false) := by
  obtain ⟨places, hx⟩ := reads os enc
  refine returnsInHanded_of_row (C := Tryd.checked) (s := OpenSpec.ofChange Rows.crewAssignedSpec) own started (by kernel_rfl) Tryd.func13
    (witness_row_at (enc := enc) (C := Tryd.checked) false (laidWorld os) #[.slice none 0 0] rfl (by kernel_rfl) (by kernel_rfl) (by kernel_rfl)
      (OpenSpec.preRow_of_cond 8 hx (by kernel_rfl) (fun k hk => by cases hk) (by kernel_rfl) (laid_met os))) ?_
  intro W base args ds gs before hval hW _ _ _ hL _ _
  exact contract H enc W base args ds gs before hval hW hL

theorem said : Rows.CrewAssignedSaid :=
  OpenClaim.holds_of_cond 13 Tryd.f13 rfl rfl rfl rfl rfl rfl rfl ⟨rfl, rfl, rfl, rfl, rfl⟩ rfl rfl rfl rfl rfl (by kernel_rfl) Tryd.func13 (by kernel_rfl)
    (of_decide_eq_true (by kernel_rfl)) (by unfold Func.isWrapper; first | (rw [if_pos (by decide +kernel)]; kernel_rfl) | (rw [if_neg (by decide +kernel)]; exact ⟨rfl, rfl⟩))
    (fun os started H enc _ F => by rw [OpenClaim.pre_eq_preRow]; exact lifted os started H enc F)

theorem plain (f : FuncId) (fn : Func) (hf : Tryd.pinned.checked.prog.funcNamed "sastrugi/sastrugilaw09.CrewAssigned" = some f) (hfn : Tryd.pinned.checked.prog.funcs[f]? = some fn) :
    false = Tryd.pinned.checked.prog.looks [] ∧ ∀ (j : Nat) t, fn.params[j]? = some t → Tryd.pinned.checked.prog.wantsStandIn t = false := by
  obtain rfl : f = 13 := Option.some.inj ((show Tryd.prog.funcNamed "sastrugi/sastrugilaw09.CrewAssigned" = some 13 by kernel_rfl).symm.trans hf) |>.symm
  obtain rfl : fn = Tryd.f13 := (Option.some.inj (Tryd.func13.symm.trans hfn)).symm
  refine ⟨by kernel_rfl, fun j t ht => ?_⟩
  rw [Tryd.params13] at ht
  have ht' : t = 31 := by simpa using Array.mem_of_getElem? ht
  subst ht'
  · exact (show Tryd.prog.wantsStandIn 31 = false by kernel_rfl)

theorem card : Rows.CrewAssignedCardSaid :=
  Claim7.holds_tied_plain_at .later [] _ _ _ _ said (fun _ h => by cases h) (by kernel_rfl) (fun _ h => by cases h) crewAssigned_row_tie rfl ⟨rfl, rfl⟩ (by kernel_rfl) rfl plain (by kernel_rfl)
end Go.Proofs.YthmgcjmoiilggaaDoor.crewAssigned

