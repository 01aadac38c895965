/- 'sastrugilaw09.CrewHauls' returns true for every rules, list of drivers, list of hauls, list of numbers, and what is given reads behind the call as it read before, without a condition: its tied card. -/
import Derived.Test.YthmgcjmoiilggaaDoorW1
import Derived.Test.YthmgcjmoiilggaaDoorW2
import Derived.Test.YthmgcjmoiilggaaDoorW3
import Derived.Test.YthmgcjmoiilggaaDoorW4
import Derived.Test.YthmgcjmoiilggaaDoorW5
import Derived.Test.YthmgcjmoiilggaaDoorW6
import Derived.Test.YthmgcjmoiilggaaDoorW7
import Derived.Test.YthmgcjmoiilggaaDoorW8
import Derived.Test.YthmgcjmoiilggaaDoorW9
import Derived.Test.YthmgcjmoiilggaaDoorW10
import Derived.Test.YthmgcjmoiilggaaDoorW11
import Derived.Test.YthmgcjmoiilggaaDoorW12
set_option linter.all false
/- 'sastrugilaw09.CrewHauls' returns true for every rules, list of drivers, list of hauls, list of numbers, and what is given reads behind the call as it read before, without a condition: its tied card. -/
namespace Go.Proofs.Crew
open Go Go.Ab
set_option linter.all false
set_option maxRecDepth 100000
theorem k12 (x0 : Rules) (x1 : List Driver) (x2 : List Haul) (x3 : List Int) (hx1 : x1.length ≤ 9223372036854775807) (hx2 : x2.length ≤ 9223372036854775807) (hx3 : x3.length ≤ 9223372036854775807) : Contract Go.Proofs.YthmgcjmoiilggaaDoor.seat 12 [.agg (encDRules x0), slOf 3 encDDriver x1, slOf 3 encDHaul x2, slOf 1 encI x3] (.bool true) := by
  have h := fn_contract (Z := Go.Proofs.YthmgcjmoiilggaaDoor.iseat) (ats := [.Rules, .sl .Driver, .sl .Haul, .sl (.int .i64)]) (ts := [.bool]) (E := E12) (fn := Tryd.f12) (c := bodyOf Tryd.f12) Tryd.func12 (by kernel_rfl) (by kernel_rfl) (by kernel_rfl) (by kernel_rfl) rfl ((e12 itN x0 x1 x2 x3).trans ((CrewHauls_eq x0 x1 x2 x3).symm.trans (CrewHauls_true awake_true x0 x1 x2 hx1 hx2 hx3))) zh zh
  have e : I.toDL zh (encA [.Rules, .sl .Driver, .sl .Haul, .sl (.int .i64)] (x0, x1, x2, x3, ())) = [.agg (encDRules x0), slOf 3 encDDriver x1, slOf 3 encDHaul x2, slOf 1 encI x3] := by
    rfl
  rw [e] at h
  exact h
end Go.Proofs.Crew
namespace Go.Proofs.YthmgcjmoiilggaaDoor.crewHauls
open Go Go.Ab Go.ChangeShapes Go.WideShapes Go.ChangeAt Go.RowKit
set_option maxRecDepth 100000
theorem contract (H : Type) (enc : TypeId × Value → H) (W : World) (base : Nat) (args : Array Value) (ds gs : List (DataW H)) (before : List MemPlace)
    (hval : ∀ (j : Nat) t v, Tryd.f12.params[j]? = some t → args[j]? = some v → Value.okWide Tryd.prog W .any base t v)
    (hW : DataW.Whole enc Tryd.prog Tryd.f12.params.toList Rows.crewHaulsSpec.vars false W args.toList ds gs before) (hL : laidMetH Tryd.prog Rows.crewHaulsRow.laid W) :
    Calls Tryd.prog 12 args W fun e W' => ∃ v, e = .returned v ∧ Rows.crewHaulsSpec.post enc Tryd.prog Tryd.f12 false true false false W args v W' := by
  have hW' := hW
  obtain ⟨p, q, hA, hV, rfl, _, _⟩ := hW
  rw [Tryd.params12] at hA hval
  obtain ⟨v0, vs0, d0, ds0, p0, q0, hargs, rfl, rfl, h0, r0⟩ := trodAll_cons hA
  obtain ⟨v1, vs1, d1, ds1, p1, q1, e1, e2, e3, h1, r1⟩ := trodAll_cons r0
  subst e1 e2 e3
  obtain ⟨v2, vs2, d2, ds2, p2, q2, e1, e2, e3, h2, r2⟩ := trodAll_cons r1
  subst e1 e2 e3
  obtain ⟨v3, vs3, d3, ds3, p3, q3, e1, e2, e3, h3, r3⟩ := trodAll_cons r2
  subst e1 e2 e3
  obtain ⟨rfl, rfl, rfl⟩ := trodAll_nil r3
  obtain rfl : args = #[v0, v1, v2, v3] := by cases args; simp_all
  obtain ⟨rfl, rfl⟩ := trodVars_none hV
  obtain ⟨x0, c0⟩ := (arg_struct Tryd.underlying23 rd_rules) (hval 0 23 v0 rfl rfl) h0
  obtain ⟨x1, c1⟩ := arg_drivers (hval 1 41 v1 rfl rfl) h1
  obtain ⟨x2, c2⟩ := arg_hauls (hval 2 75 v2 rfl rfl) h2
  obtain ⟨x3, c3⟩ := arg_ints (hval 3 31 v3 rfl rfl) h3
  refine ((Go.Proofs.Crew.k12 x0 x1 x2 x3 (sl_len Tryd.underlying41 (hval 1 41 v1 rfl rfl) c1) (sl_len Tryd.underlying75 (hval 2 75 v2 rfl rfl) c2) (ints_len (hval 3 31 v3 rfl rfl) c3)).calls W (allK W) [v0, v1, v2, v3] (allK_fits W) glob_of (.cons _ _ _ _ c0 (.cons _ _ _ _ c1 (.cons _ _ _ _ c2 (.cons _ _ _ _ c3 .nil))))).mono fun e W' ⟨v, he, hv, hb⟩ => ?_
  subst he
  cases hv
  exact ⟨_, rfl, post_yes hW' rfl hb (by rw [Tryd.params12]; intro t ht; simp at ht; rcases ht with rfl | rfl | rfl | rfl <;> exact ⟨by kernel_rfl, of_decide_eq_true (by kernel_rfl)⟩) (by kernel_rfl) rfl rfl rfl⟩

theorem laid_met (os : Os) : laidMet Tryd.prog Rows.crewHaulsRow.laid ((laidWorld os).forCall (fun _ _ => 0) ⟨#[], #[.agg #[.int .i64 0, .int .i64 0, .int .i64 0, .int .i64 0], .slice none 0 0, .slice none 0 0, .slice none 0 0], []⟩).memory :=
  laidMet_of_run' 8 (by kernel_rfl) (by kernel_rfl)
theorem reads (os : Os) {H : Type} (enc : TypeId × Value → H) : ∃ places, DataW.whole enc Tryd.prog ((laidWorld os).forCall (fun _ _ => 0) ⟨#[], #[.agg #[.int .i64 0, .int .i64 0, .int .i64 0, .int .i64 0], .slice none 0 0, .slice none 0 0, .slice none 0 0], []⟩).memory Tryd.f12.params.toList Rows.crewHaulsSpec.vars false #[.agg #[.int .i64 0, .int .i64 0, .int .i64 0, .int .i64 0], .slice none 0 0, .slice none 0 0, .slice none 0 0].toList 8 =
    some ([.agg [.lit (.int .i64 0), .lit (.int .i64 0), .lit (.int .i64 0), .lit (.int .i64 0)], .nil, .nil, .nil], [], places) :=
  ⟨[], by kernel_rfl⟩

theorem lifted (os : Os) (started : os.Started) (H : Type) (enc : TypeId × Value → H) (F : Stop.Interp) :
    ReturnsInHanded {} Tryd.checked os 12 .any ((OpenSpec.ofChange Rows.crewHaulsSpec).preRow enc Tryd.prog Tryd.f12 Rows.crewHaulsRow.domain false Rows.crewHaulsRow.laid) (((OpenSpec.ofChange Rows.crewHaulsSpec).at F).post enc Tryd.prog Tryd.f12 false true false false) := by
  obtain ⟨places, hx⟩ := reads os enc
  refine returnsInHanded_of_row (C := Tryd.checked) (s := OpenSpec.ofChange Rows.crewHaulsSpec) own started (by kernel_rfl) Tryd.func12
    (witness_row_at (enc := enc) (C := Tryd.checked) false (laidWorld os) #[.agg #[.int .i64 0, .int .i64 0, .int .i64 0, .int .i64 0], .slice none 0 0, .slice none 0 0, .slice none 0 0] rfl (by kernel_rfl) (by kernel_rfl) (by kernel_rfl)
      (OpenSpec.preRow_of_cond 8 hx (by kernel_rfl) (fun k hk => by cases hk) (by kernel_rfl) (laid_met os))) ?_
  intro W base args ds gs before hval hW _ _ _ hL _ _
  exact contract H enc W base args ds gs before hval hW hL

theorem said : Rows.CrewHaulsSaid :=
  OpenClaim.holds_of_cond 12 Tryd.f12 rfl rfl rfl rfl rfl rfl rfl ⟨rfl, rfl, rfl, rfl, rfl⟩ rfl rfl rfl rfl rfl (by kernel_rfl) Tryd.func12 (by kernel_rfl)
    (of_decide_eq_true (by kernel_rfl)) (by unfold Func.isWrapper; first | (rw [if_pos (by decide +kernel)]; kernel_rfl) | (rw [if_neg (by decide +kernel)]; exact ⟨rfl, rfl⟩))
    (fun os started H enc _ F => by rw [OpenClaim.pre_eq_preRow]; exact lifted os started H enc F)

theorem plain (f : FuncId) (fn : Func) (hf : Tryd.pinned.checked.prog.funcNamed "sastrugi/sastrugilaw09.CrewHauls" = some f) (hfn : Tryd.pinned.checked.prog.funcs[f]? = some fn) :
    false = Tryd.pinned.checked.prog.looks [] ∧ ∀ (j : Nat) t, fn.params[j]? = some t → Tryd.pinned.checked.prog.wantsStandIn t = false := by
  obtain rfl : f = 12 := Option.some.inj ((show Tryd.prog.funcNamed "sastrugi/sastrugilaw09.CrewHauls" = some 12 by kernel_rfl).symm.trans hf) |>.symm
  obtain rfl : fn = Tryd.f12 := (Option.some.inj (Tryd.func12.symm.trans hfn)).symm
  refine ⟨by kernel_rfl, fun j t ht => ?_⟩
  rw [Tryd.params12] at ht
  have ht' : t = 23 ∨ t = 41 ∨ t = 75 ∨ t = 31 := by simpa using Array.mem_of_getElem? ht
  rcases ht' with rfl | rfl | rfl | rfl
  · exact (show Tryd.prog.wantsStandIn 23 = false by kernel_rfl)
  · exact (show Tryd.prog.wantsStandIn 41 = false by kernel_rfl)
  · exact (show Tryd.prog.wantsStandIn 75 = false by kernel_rfl)
  · exact (show Tryd.prog.wantsStandIn 31 = false by kernel_rfl)

theorem card : Rows.CrewHaulsCardSaid :=
  Claim7.holds_tied_plain_at .later [] _ _ _ _ said (fun _ h => by cases h) (by kernel_rfl) (fun _ h => by cases h) crewHauls_row_tie rfl ⟨rfl, rfl⟩ (by kernel_rfl) rfl plain (by kernel_rfl)
end Go.Proofs.YthmgcjmoiilggaaDoor.crewHauls

