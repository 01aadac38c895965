/- 'sastrugilaw09.CrewBooks' returns true for every list of drivers, every text, every list of numbers, and every damage, and what is given reads behind the call as it read before, without a condition: its tied card. -/
import Derived.Test.YtbkogeihjcnejaaGreatDoorW1
import Derived.Test.YtbkogeihjcnejaaGreatDoorW2
import Derived.Test.YtbkogeihjcnejaaGreatDoorW3
import Derived.Test.YtbkogeihjcnejaaGreatDoorW4
import Derived.Test.YtbkogeihjcnejaaGreatDoorW5
import Derived.Test.YtbkogeihjcnejaaGreatDoorW6
import Derived.Test.YtbkogeihjcnejaaGreatDoorW7
import Derived.Test.YtbkogeihjcnejaaGreatDoorW8
import Derived.Test.YtbkogeihjcnejaaGreatDoorW9
import Derived.Test.YtbkogeihjcnejaaGreatDoorW10
import Derived.Test.YtbkogeihjcnejaaGreatDoorW11
import Derived.Test.YtbkogeihjcnejaaGreatDoorW12
import Derived.Test.YtbkogeihjcnejaaGreatDoorW13
import Derived.Test.YtbkogeihjcnejaaGreatDoorW14
import Derived.Test.YtbkogeihjcnejaaGreatDoorW15
import Derived.Test.YtbkogeihjcnejaaGreatDoorW16
import Derived.Test.YtbkogeihjcnejaaGreatDoorW17
import Derived.Test.YtbkogeihjcnejaaGreatDoorW18
set_option linter.all false
/- 'sastrugilaw09.CrewBooks' returns true for every list of drivers, every text, every list of numbers, and every damage, and what is given reads behind the call as it read before, without a condition: its tied card. -/
namespace Go.Proofs.Tp09
open Go Go.Ab
set_option linter.all false
set_option maxRecDepth 100000
theorem k3 (c : List Driver) (x1 : ByteArray) (x2 : List Int) (x3 x4 x5 : Int) (h1 : c.length ≤ 9223372036854775807) (h2 : x2.length ≤ 9223372036854775807) (h5 : 0 ≤ x5 ∧ x5 < 256) : Contract Go.Proofs.YtbkogeihjcnejaaGreatDoor.seat 3 [slOf 3 encDDriver c, .str x1, slOf 1 encI x2, .int .i64 x3, .int .i64 x4, .int .u8 x5] (.bool true) := by
  have h := fn_contract (Z := Go.Proofs.YtbkogeihjcnejaaGreatDoor.iseat) (ats := [.sl .Driver, .str, .sl (.int .i64), .int .i64, .int .i64, .int .u8]) (ts := [.bool]) (E := E3) (fn := Tryz.f3) (c := bodyOf Tryz.f3) Tryz.func3 (by kernel_rfl) (by kernel_rfl) (by kernel_rfl) (by kernel_rfl) rfl ((e3 itN c x1 x2 x3 x4 x5).trans ((Books_eq c x1 x2 x3 x4 x5).symm.trans (Books_true h1 h2 h5))) zh zh
  have e : I.toDL zh (encA [.sl .Driver, .str, .sl (.int .i64), .int .i64, .int .i64, .int .u8] (c, x1, x2, x3, x4, x5, ())) = [slOf 3 encDDriver c, .str x1, slOf 1 encI x2, .int .i64 x3, .int .i64 x4, .int .u8 x5] := by
    show I.toD zh (.sl .Driver c) :: _ = _
    rfl
  rw [e] at h
  exact h
end Go.Proofs.Tp09
namespace Go.Proofs.YtbkogeihjcnejaaGreatDoor.crewBooks
open Go Go.Ab Go.ChangeShapes Go.WideShapes Go.ChangeAt Go.RowKit
set_option maxRecDepth 100000
theorem contract (H : Type) (enc : TypeId × Value → H) (W : World) (base : Nat) (args : Array Value) (ds gs : List (DataW H)) (before : List MemPlace)
    (hval : ∀ (j : Nat) t v, Tryz.f3.params[j]? = some t → args[j]? = some v → Value.okWide Tryz.prog W .any base t v)
    (hW : DataW.Whole enc Tryz.prog Tryz.f3.params.toList Rows.crewBooksSpec.vars false W args.toList ds gs before) (hL : laidMetH Tryz.prog Rows.crewBooksRow.laid W) (hsh : W.ShapedOpen Tryz.prog) :
    Calls Tryz.prog 3 args W fun e W' => ∃ v, e = .returned v ∧ Rows.crewBooksSpec.post enc Tryz.prog Tryz.f3 false true false false W args v W' := by
  have hW' := hW
  obtain ⟨p, q, hA, hV, rfl, _, _⟩ := hW
  rw [Tryz.params3] at hA hval
  obtain ⟨v0, vs0, d0, ds0, p0, q0, hargs, rfl, rfl, h0, r0⟩ := trodAll_cons hA
  obtain ⟨v1, vs1, d1, ds1, p1, q1, rfl, rfl, rfl, h1, r1⟩ := trodAll_cons r0
  obtain ⟨v2, vs2, d2, ds2, p2, q2, rfl, rfl, rfl, h2, r2⟩ := trodAll_cons r1
  obtain ⟨v3, vs3, d3, ds3, p3, q3, rfl, rfl, rfl, h3, r3⟩ := trodAll_cons r2
  obtain ⟨v4, vs4, d4, ds4, p4, q4, rfl, rfl, rfl, h4, r4⟩ := trodAll_cons r3
  obtain ⟨v5, vs5, d5, ds5, p5, q5, rfl, rfl, rfl, h5, r5⟩ := trodAll_cons r4
  obtain ⟨rfl, rfl, rfl⟩ := trodAll_nil r5
  obtain rfl : args = #[v0, v1, v2, v3, v4, v5] := by cases args; simp_all
  obtain ⟨rfl, rfl⟩ := trodVars_none hV
  obtain ⟨x0, c0⟩ := arg_drivers (hval 0 22 v0 rfl rfl) h0
  obtain ⟨x1, c1⟩ := arg_str (hval 1 9 v1 rfl rfl) h1
  obtain ⟨x2, c2⟩ := arg_ints (hval 2 23 v2 rfl rfl) h2
  obtain ⟨x3, c3⟩ := arg_int (hval 3 3 v3 rfl rfl) h3
  obtain ⟨x4, c4⟩ := arg_int (hval 4 3 v4 rfl rfl) h4
  obtain ⟨x5, c5, b5⟩ := arg_u8 (hval 5 5 v5 rfl rfl) h5
  refine ((Go.Proofs.Tp09.k3 x0 x1 x2 x3 x4 x5 (sl_len Tryz.underlying22 (hval 0 22 v0 rfl rfl) c0) (ints_len (hval 2 23 v2 rfl rfl) c2) b5).calls W (allK W) [v0, v1, v2, v3, v4, v5] (allK_fits W) (glob_of hL hsh) (.cons _ _ _ _ c0 (.cons _ _ _ _ c1 (.cons _ _ _ _ c2 (.cons _ _ _ _ c3 (.cons _ _ _ _ c4 (.cons _ _ _ _ c5 .nil))))))).mono fun e W' ⟨v, he, hv, hb⟩ => ?_
  subst he
  cases hv
  exact ⟨_, rfl, post_yes hW' rfl hb (by rw [Tryz.params3]; intro t ht; simp at ht; rcases ht with rfl | rfl | rfl | rfl | rfl | rfl <;> exact ⟨by kernel_rfl, of_decide_eq_true (by kernel_rfl)⟩) (by kernel_rfl) rfl rfl rfl⟩

theorem laid_met (os : Os) : laidMet Tryz.prog Rows.crewBooksRow.laid ((laidWorld os).forCall (fun _ _ => 0) ⟨#[], #[.slice none 0 0, .string ⟨#[]⟩, .slice none 0 0, .int .i64 0, .int .i64 0, .int .u8 0], []⟩).memory :=
  laidMet_of_run' 8 (by kernel_rfl) (by kernel_rfl)
theorem reads (os : Os) {H : Type} (enc : TypeId × Value → H) : ∃ places, DataW.whole enc Tryz.prog ((laidWorld os).forCall (fun _ _ => 0) ⟨#[], #[.slice none 0 0, .string ⟨#[]⟩, .slice none 0 0, .int .i64 0, .int .i64 0, .int .u8 0], []⟩).memory Tryz.f3.params.toList Rows.crewBooksSpec.vars false #[.slice none 0 0, .string ⟨#[]⟩, .slice none 0 0, .int .i64 0, .int .i64 0, .int .u8 0].toList 8 =
    some ([.nil, .lit (.string []), .nil, .lit (.int .i64 0), .lit (.int .i64 0), .lit (.int .u8 0)], [], places) :=
  ⟨[], by kernel_rfl⟩

theorem lifted (os : Os) (started : os.Started) (H : Type) (enc : TypeId × Value → H) (F : Stop.Interp) :
    ReturnsInHanded {} Tryz.checked os 3 .any ((OpenSpec.ofChange Rows.crewBooksSpec).preRow enc Tryz.prog Tryz.f3 Rows.crewBooksRow.domain false Rows.crewBooksRow.laid) (((OpenSpec.ofChange Rows.crewBooksSpec).at F).post enc Tryz.prog Tryz.f3 false true false false) := by
  obtain ⟨places, hx⟩ := reads os enc
  refine returnsInHanded_of_row (C := Tryz.checked) (s := OpenSpec.ofChange Rows.crewBooksSpec) own started (by kernel_rfl) Tryz.func3
    (witness_row_at (enc := enc) (C := Tryz.checked) false (laidWorld os) #[.slice none 0 0, .string ⟨#[]⟩, .slice none 0 0, .int .i64 0, .int .i64 0, .int .u8 0] rfl (by kernel_rfl) (by kernel_rfl) (by kernel_rfl)
      (OpenSpec.preRow_of_cond 8 hx (by kernel_rfl) (fun k hk => by cases hk) (by kernel_rfl) (laid_met os))) ?_
  intro W base args ds gs before hval hW _ _ _ hL hsh _
  exact contract H enc W base args ds gs before hval hW hL hsh

theorem said : Rows.CrewBooksSaid :=
  OpenClaim.holds_of_cond 3 Tryz.f3 rfl rfl rfl rfl rfl rfl rfl ⟨rfl, rfl, rfl, rfl, rfl⟩ rfl rfl rfl rfl rfl (by kernel_rfl) Tryz.func3 (by kernel_rfl)
    (of_decide_eq_true (by kernel_rfl)) (by unfold Func.isWrapper; first | (rw [if_pos (by decide +kernel)]; kernel_rfl) | (rw [if_neg (by decide +kernel)]; exact ⟨rfl, rfl⟩))
    (fun os started H enc _ F => by rw [OpenClaim.pre_eq_preRow]; exact lifted os started H enc F)

theorem plain (f : FuncId) (fn : Func) (hf : Tryz.pinned.checked.prog.funcNamed "sastrugi/sastrugilaw09.CrewBooks" = some f) (hfn : Tryz.pinned.checked.prog.funcs[f]? = some fn) :
    true = Tryz.pinned.checked.prog.looks [] ∧ ∀ (j : Nat) t, fn.params[j]? = some t → Tryz.pinned.checked.prog.wantsStandIn t = false := by
  obtain rfl : f = 3 := Option.some.inj ((show Tryz.prog.funcNamed "sastrugi/sastrugilaw09.CrewBooks" = some 3 by kernel_rfl).symm.trans hf) |>.symm
  obtain rfl : fn = Tryz.f3 := (Option.some.inj (Tryz.func3.symm.trans hfn)).symm
  refine ⟨by kernel_rfl, fun j t ht => ?_⟩
  rw [Tryz.params3] at ht
  have ht' : t = 22 ∨ t = 9 ∨ t = 23 ∨ t = 3 ∨ t = 5 := by
    have := Array.mem_of_getElem? ht
    simp at this
    omega
  rcases ht' with rfl | rfl | rfl | rfl | rfl
  · exact (show Tryz.prog.wantsStandIn 22 = false by kernel_rfl)
  · exact (show Tryz.prog.wantsStandIn 9 = false by kernel_rfl)
  · exact (show Tryz.prog.wantsStandIn 23 = false by kernel_rfl)
  · exact (show Tryz.prog.wantsStandIn 3 = false by kernel_rfl)
  · exact (show Tryz.prog.wantsStandIn 5 = false by kernel_rfl)

theorem card : Rows.CrewBooksCardSaid :=
  Claim7.holds_tied_plain_at .later [] _ _ _ _ said (fun _ h => by cases h) (by kernel_rfl) (fun _ h => by cases h) crewBooks_row_tie rfl ⟨rfl, rfl⟩ (by kernel_rfl) rfl plain (by kernel_rfl)
end Go.Proofs.YtbkogeihjcnejaaGreatDoor.crewBooks

