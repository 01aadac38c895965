/- 'sastrugilaw09.CrewScales' returns true for every scale, number, list of numbers, limits, list of numbers, and what is given reads behind the call as it read before, without a condition: its tied card. -/
import Derived.Test.YthmgcjmoiilggaaDoorW1
import Derived.Test.YthmgcjmoiilggaaDoorW2
import Derived.Test.YthmgcjmoiilggaaDoorW3
import Derived.Test.YthmgcjmoiilggaaDoorW4
import Derived.Test.YthmgcjmoiilggaaDoorW5
import Derived.Test.YthmgcjmoiilggaaDoorW6
set_option linter.all false
/- 'sastrugilaw09.CrewScales' returns true for every scale, number, list of numbers, limits, list of numbers, and what is given reads behind the call as it read before, without a condition: its tied card. -/
namespace Go.Proofs.Crew
open Go Go.Ab
set_option linter.all false
set_option maxRecDepth 100000
theorem k10 (x0 : Scale) (x1 : Int) (x2 : List Int) (x3 : Allow) (x4 : List Int) (hx2 : x2.length ≤ 9223372036854775807) (hx4 : x4.length ≤ 9223372036854775807) : Contract Go.Proofs.YthmgcjmoiilggaaDoor.seat 10 [.agg (encDScale x0), .int .i64 x1, slOf 1 encI x2, .agg (encDAllow x3), slOf 1 encI x4] (.bool true) := by
  have h := fn_contract (Z := Go.Proofs.YthmgcjmoiilggaaDoor.iseat) (ats := [.Scale, .int .i64, .sl (.int .i64), .Allow, .sl (.int .i64)]) (ts := [.bool]) (E := E10) (fn := Tryd.f10) (c := bodyOf Tryd.f10) Tryd.func10 (by kernel_rfl) (by kernel_rfl) (by kernel_rfl) (by kernel_rfl) rfl ((e10 itN x0 x1 x2 x3 x4).trans ((CrewScales_eq x0 x1 x2 x3 x4).symm.trans (CrewScales_true awake_true x0 x1 x2 x3 hx4))) zh zh
  have e : I.toDL zh (encA [.Scale, .int .i64, .sl (.int .i64), .Allow, .sl (.int .i64)] (x0, x1, x2, x3, x4, ())) = [.agg (encDScale x0), .int .i64 x1, slOf 1 encI x2, .agg (encDAllow x3), slOf 1 encI x4] := by
    rfl
  rw [e] at h
  exact h
end Go.Proofs.Crew
namespace Go.Proofs.YthmgcjmoiilggaaDoor.crewScales
open Go Go.Ab Go.ChangeShapes Go.WideShapes Go.ChangeAt Go.RowKit
set_option maxRecDepth 100000
theorem contract (H : Type) (enc : TypeId × Value → H) (W : World) (base : Nat) (args : Array Value) (ds gs : List (DataW H)) (before : List MemPlace)
    (hval : ∀ (j : Nat) t v, Tryd.f10.params[j]? = some t → args[j]? = some v → Value.okWide Tryd.prog W .any base t v)
    (hW : DataW.Whole enc Tryd.prog Tryd.f10.params.toList Rows.crewScalesSpec.vars false W args.toList ds gs before) (hL : laidMetH Tryd.prog Rows.crewScalesRow.laid W) :
    Calls Tryd.prog 10 args W fun e W' => ∃ v, e = .returned v ∧ Rows.crewScalesSpec.post enc Tryd.prog Tryd.f10 false true false false W args v W' := by
  have hW' := hW
  obtain ⟨p, q, hA, hV, rfl, _, _⟩ := hW
  rw [Tryd.params10] at hA hval
  obtain ⟨v0, vs0, d0, ds0, p0, q0, hargs, rfl, rfl, h0, r0⟩ := trodAll_cons hA
  obtain ⟨v1, vs1, d1, ds1, p1, q1, e1, e2, e3, h1, r1⟩ := trodAll_cons r0
  subst e1 e2 e3
  obtain ⟨v2, vs2, d2, ds2, p2, q2, e1, e2, e3, h2, r2⟩ := trodAll_cons r1
  subst e1 e2 e3
  obtain ⟨v3, vs3, d3, ds3, p3, q3, e1, e2, e3, h3, r3⟩ := trodAll_cons r2
  subst e1 e2 e3
  obtain ⟨v4, vs4, d4, ds4, p4, q4, e1, e2, e3, h4, r4⟩ := trodAll_cons r3
  subst e1 e2 e3
  obtain ⟨rfl, rfl, rfl⟩ := trodAll_nil r4
  obtain rfl : args = #[v0, v1, v2, v3, v4] := by cases args; simp_all
  obtain ⟨rfl, rfl⟩ := trodVars_none hV
  obtain ⟨x0, c0⟩ := (arg_struct Tryd.underlying59 rd_scale) (hval 0 59 v0 rfl rfl) h0
  obtain ⟨x1, c1⟩ := arg_int (hval 1 3 v1 rfl rfl) h1
  obtain ⟨x2, c2⟩ := arg_ints (hval 2 31 v2 rfl rfl) h2
  obtain ⟨x3, c3⟩ := (arg_struct Tryd.underlying61 rd_allow) (hval 3 61 v3 rfl rfl) h3
  obtain ⟨x4, c4⟩ := arg_ints (hval 4 31 v4 rfl rfl) h4
  refine ((Go.Proofs.Crew.k10 x0 x1 x2 x3 x4 (ints_len (hval 2 31 v2 rfl rfl) c2) (ints_len (hval 4 31 v4 rfl rfl) c4)).calls W (allK W) [v0, v1, v2, v3, v4] (allK_fits W) glob_of (.cons _ _ _ _ c0 (.cons _ _ _ _ c1 (.cons _ _ _ _ c2 (.cons _ _ _ _ c3 (.cons _ _ _ _ c4 .nil)))))).mono fun e W' ⟨v, he, hv, hb⟩ => ?_
  subst he
  cases hv
  exact ⟨_, rfl, post_yes hW' rfl hb (by rw [Tryd.params10]; intro t ht; simp at ht; rcases ht with rfl | rfl | rfl | rfl | rfl <;> exact ⟨by kernel_rfl, of_decide_eq_true (by kernel_rfl)⟩) (by kernel_rfl) rfl rfl rfl⟩

theorem laid_met (os : Os) : laidMet Tryd.prog Rows.crewScalesRow.laid ((laidWorld os).forCall (fun _ _ => 0) ⟨#[], #[.agg #[.int .i64 0, .int .i64 0], .int .i64 0, .slice none 0 0, .agg #[.int .i64 0, .int .i64 0], .slice none 0 0], []⟩).memory :=
  laidMet_of_run' 8 (by kernel_rfl) (by kernel_rfl)
theorem reads (os : Os) {H : Type} (enc : TypeId × Value → H) : ∃ places, DataW.whole enc Tryd.prog ((laidWorld os).forCall (fun _ _ => 0) ⟨#[], #[.agg #[.int .i64 0, .int .i64 0], .int .i64 0, .slice none 0 0, .agg #[.int .i64 0, .int .i64 0], .slice none 0 0], []⟩).memory Tryd.f10.params.toList Rows.crewScalesSpec.vars false #[.agg #[.int .i64 0, .int .i64 0], .int .i64 0, .slice none 0 0, .agg #[.int .i64 0, .int .i64 0], .slice none 0 0].toList 8 =
    some ([.agg [.lit (.int .i64 0), .lit (.int .i64 0)], .lit (.int .i64 0), .nil, .agg [.lit (.int .i64 0), .lit (.int .i64 0)], .nil], [], places) :=
  ⟨[], by kernel_rfl⟩

theorem lifted (os : Os) (started : os.Started) (H : Type) (enc : TypeId × Value → H) (F : Stop.Interp) :
    ReturnsInHanded {} Tryd.checked os 10 .any ((OpenSpec.ofChange Rows.crewScalesSpec).preRow enc Tryd.prog Tryd.f10 Rows.crewScalesRow.domain false Rows.crewScalesRow.laid) (((OpenSpec.ofChange Rows.crewScalesSpec).at F).post enc Tryd.prog Tryd.f10 false true false false) := by
  obtain ⟨places, hx⟩ := reads os enc
  refine returnsInHanded_of_row (C := Tryd.checked) (s := OpenSpec.ofChange Rows.crewScalesSpec) own started (by kernel_rfl) Tryd.func10
    (witness_row_at (enc := enc) (C := Tryd.checked) false (laidWorld os) #[.agg #[.int .i64 0, .int .i64 0], .int .i64 0, .slice none 0 0, .agg #[.int .i64 0, .int .i64 0], .slice none 0 0] rfl (by kernel_rfl) (by kernel_rfl) (by kernel_rfl)
      (OpenSpec.preRow_of_cond 8 hx (by kernel_rfl) (fun k hk => by cases hk) (by kernel_rfl) (laid_met os))) ?_
  intro W base args ds gs before hval hW _ _ _ hL _ _
  exact contract H enc W base args ds gs before hval hW hL

theorem said : Rows.CrewScalesSaid :=
  OpenClaim.holds_of_cond 10 Tryd.f10 rfl rfl rfl rfl rfl rfl rfl ⟨rfl, rfl, rfl, rfl, rfl⟩ rfl rfl rfl rfl rfl (by kernel_rfl) Tryd.func10 (by kernel_rfl)
    (of_decide_eq_true (by kernel_rfl)) (by unfold Func.isWrapper; first | (rw [if_pos (by decide +kernel)]; kernel_rfl) | (rw [if_neg (by decide +kernel)]; exact ⟨rfl, rfl⟩))
    (fun os started H enc _ F => by rw [OpenClaim.pre_eq_preRow]; exact lifted os started H enc F)

theorem plain (f : FuncId) (fn : Func) (hf : Tryd.pinned.checked.prog.funcNamed "sastrugi/sastrugilaw09.CrewScales" = some f) (hfn : Tryd.pinned.checked.prog.funcs[f]? = some fn) :
    false = Tryd.pinned.checked.prog.looks [] ∧ ∀ (j : Nat) t, fn.params[j]? = some t → Tryd.pinned.checked.prog.wantsStandIn t = false := by
  obtain rfl : f = 10 := Option.some.inj ((show Tryd.prog.funcNamed "sastrugi/sastrugilaw09.CrewScales" = some 10 by kernel_rfl).symm.trans hf) |>.symm
  obtain rfl : fn = Tryd.f10 := (Option.some.inj (Tryd.func10.symm.trans hfn)).symm
  refine ⟨by kernel_rfl, fun j t ht => ?_⟩
  rw [Tryd.params10] at ht
  have ht' : t = 59 ∨ t = 3 ∨ t = 31 ∨ t = 61 ∨ t = 31 := by simpa using Array.mem_of_getElem? ht
  rcases ht' with rfl | rfl | rfl | rfl | rfl
  · exact (show Tryd.prog.wantsStandIn 59 = false by kernel_rfl)
  · exact (show Tryd.prog.wantsStandIn 3 = false by kernel_rfl)
  · exact (show Tryd.prog.wantsStandIn 31 = false by kernel_rfl)
  · exact (show Tryd.prog.wantsStandIn 61 = false by kernel_rfl)
  · exact (show Tryd.prog.wantsStandIn 31 = false by kernel_rfl)

theorem card : Rows.CrewScalesCardSaid :=
  Claim7.holds_tied_plain_at .later [] _ _ _ _ said (fun _ h => by cases h) (by kernel_rfl) (fun _ h => by cases h) crewScales_row_tie rfl ⟨rfl, rfl⟩ (by kernel_rfl) rfl plain (by kernel_rfl)
end Go.Proofs.YthmgcjmoiilggaaDoor.crewScales

