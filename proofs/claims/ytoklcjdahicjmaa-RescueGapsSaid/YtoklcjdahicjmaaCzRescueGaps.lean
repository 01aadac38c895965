/- 'sastrugilaw07.RescueGaps' returns true for every rescue, number, list of numbers, and what is given reads behind the call as it read before, without a condition. -/
import Derived.Test.YtoklcjdahicjmaaW1
import Derived.Test.YtoklcjdahicjmaaW2
import Derived.Test.YtoklcjdahicjmaaW3
import Derived.Test.YtoklcjdahicjmaaW4
import Derived.Test.YtoklcjdahicjmaaW5
import Derived.Test.YtoklcjdahicjmaaW6
import Derived.Test.YtoklcjdahicjmaaW7
import Derived.Test.YtoklcjdahicjmaaW8
set_option linter.all false
/- 'sastrugilaw07.RescueGaps' returns true for every rescue, number, list of numbers, and what is given reads behind the call as it read before, without a condition. -/
namespace Go.Proofs.Rescue07
open Go Go.Ab
set_option linter.all false
set_option maxRecDepth 100000
theorem k11 (x0 : Rescue) (x1 : Int) (x2 : List Int) (hx0 : x0.Posts.length ≤ 9223372036854775807) (hx2 : x2.length ≤ 9223372036854775807) : Contract Go.Proofs.Ytoklcjdahicjmaa.seat 11 [.agg (encDRescue x0), .int .i64 x1, slOf 1 encI x2] (.bool true) := by
  have h := fn_contract (Z := Go.Proofs.Ytoklcjdahicjmaa.iseat) (ats := [.Rescue, .int .i64, .sl (.int .i64)]) (ts := [.bool]) (E := E11) (fn := Try.f11) (c := bodyOf Try.f11) Try.func11 (by kernel_rfl) (by kernel_rfl) (by kernel_rfl) (by kernel_rfl) rfl ((e11 itN x0 x1 x2).trans ((RescueGaps_eq x0 x1 x2).symm.trans (RescueGaps_true x0 x1 x2 hx0 hx2))) zh zh
  have e : I.toDL zh (encA [.Rescue, .int .i64, .sl (.int .i64)] (x0, x1, x2, ())) = [.agg (encDRescue x0), .int .i64 x1, slOf 1 encI x2] := by
    rfl
  rw [e] at h
  exact h
end Go.Proofs.Rescue07
namespace Go.Proofs.Ytoklcjdahicjmaa.rescueGaps
open Go Go.Ab Go.ChangeShapes Go.WideShapes Go.ChangeAt Go.RowKit
set_option maxRecDepth 100000
theorem contract (H : Type) (enc : TypeId × Value → H) (W : World) (base : Nat) (args : Array Value) (ds gs : List (DataW H)) (before : List MemPlace)
    (hval : ∀ (j : Nat) t v, Try.f11.params[j]? = some t → args[j]? = some v → Value.okWide Try.prog W .any base t v)
    (hW : DataW.Whole enc Try.prog Try.f11.params.toList Rows.rescueGapsSpec.vars false W args.toList ds gs before) (hL : laidMetH Try.prog Rows.rescueGapsRow.laid W) :
    Calls Try.prog 11 args W fun e W' => ∃ v, e = .returned v ∧ Rows.rescueGapsSpec.post enc Try.prog Try.f11 false true false false W args v W' := by
  have hW' := hW
  obtain ⟨p, q, hA, hV, rfl, _, _⟩ := hW
  rw [Try.params11] at hA hval
  obtain ⟨v0, vs0, d0, ds0, p0, q0, hargs, rfl, rfl, h0, r0⟩ := trodAll_cons hA
  obtain ⟨v1, vs1, d1, ds1, p1, q1, e1, e2, e3, h1, r1⟩ := trodAll_cons r0
  subst e1 e2 e3
  obtain ⟨v2, vs2, d2, ds2, p2, q2, e1, e2, e3, h2, r2⟩ := trodAll_cons r1
  subst e1 e2 e3
  obtain ⟨rfl, rfl, rfl⟩ := trodAll_nil r2
  obtain rfl : args = #[v0, v1, v2] := by cases args; simp_all
  obtain ⟨rfl, rfl⟩ := trodVars_none hV
  obtain ⟨x0, c0⟩ := (arg_struct Try.underlying27 rd_rescue) (hval 0 27 v0 rfl rfl) h0
  obtain ⟨x1, c1⟩ := arg_int (hval 1 3 v1 rfl rfl) h1
  obtain ⟨x2, c2⟩ := arg_ints (hval 2 28 v2 rfl rfl) h2
  refine ((Go.Proofs.Rescue07.k11 x0 x1 x2 (posts_len (hval 0 27 v0 rfl rfl) c0) (ints_len (hval 2 28 v2 rfl rfl) c2)).calls W (allK W) [v0, v1, v2] (allK_fits W) glob_of (.cons _ _ _ _ c0 (.cons _ _ _ _ c1 (.cons _ _ _ _ c2 .nil)))).mono fun e W' ⟨v, he, hv, hb⟩ => ?_
  subst he
  cases hv
  exact ⟨_, rfl, post_yes hW' rfl hb (by rw [Try.params11]; intro t ht; simp at ht; rcases ht with rfl | rfl | rfl <;> exact ⟨by kernel_rfl, of_decide_eq_true (by kernel_rfl)⟩) (by kernel_rfl) rfl rfl rfl⟩

theorem laid_met (os : Os) : laidMet Try.prog Rows.rescueGapsRow.laid ((laidWorld os).forCall (fun _ _ => 0) ⟨#[], #[.agg #[.int .i64 0, .slice none 0 0, .slice none 0 0, .slice none 0 0, .slice none 0 0], .int .i64 0, .slice none 0 0], []⟩).memory :=
  laidMet_of_run' 8 (by kernel_rfl) (by kernel_rfl)
theorem reads (os : Os) {H : Type} (enc : TypeId × Value → H) : ∃ places, DataW.whole enc Try.prog ((laidWorld os).forCall (fun _ _ => 0) ⟨#[], #[.agg #[.int .i64 0, .slice none 0 0, .slice none 0 0, .slice none 0 0, .slice none 0 0], .int .i64 0, .slice none 0 0], []⟩).memory Try.f11.params.toList Rows.rescueGapsSpec.vars false #[.agg #[.int .i64 0, .slice none 0 0, .slice none 0 0, .slice none 0 0, .slice none 0 0], .int .i64 0, .slice none 0 0].toList 8 =
    some ([.agg [.lit (.int .i64 0), .nil, .nil, .nil, .nil], .lit (.int .i64 0), .nil], [], places) :=
  ⟨[], by kernel_rfl⟩

theorem lifted (os : Os) (started : os.Started) (H : Type) (enc : TypeId × Value → H) (F : Stop.Interp) :
    ReturnsInHanded {} Try.checked os 11 .any ((OpenSpec.ofChange Rows.rescueGapsSpec).preRow enc Try.prog Try.f11 Rows.rescueGapsRow.domain false Rows.rescueGapsRow.laid) (((OpenSpec.ofChange Rows.rescueGapsSpec).at F).post enc Try.prog Try.f11 false true false false) := by
  obtain ⟨places, hx⟩ := reads os enc
  refine returnsInHanded_of_row (C := Try.checked) (s := OpenSpec.ofChange Rows.rescueGapsSpec) own started (by kernel_rfl) Try.func11
    (witness_row_at (enc := enc) (C := Try.checked) false (laidWorld os) #[.agg #[.int .i64 0, .slice none 0 0, .slice none 0 0, .slice none 0 0, .slice none 0 0], .int .i64 0, .slice none 0 0] rfl (by kernel_rfl) (by kernel_rfl) (by kernel_rfl)
      (OpenSpec.preRow_of_cond 8 hx (by kernel_rfl) (fun k hk => by cases hk) (by kernel_rfl) (laid_met os))) ?_
  intro W base args ds gs before hval hW _ _ _ hL _ _
  exact contract H enc W base args ds gs before hval hW hL

theorem said : Rows.RescueGapsSaid :=
  OpenClaim.holds_of_cond 11 Try.f11 rfl rfl rfl rfl rfl rfl rfl ⟨rfl, rfl, rfl, rfl, rfl⟩ rfl rfl rfl rfl rfl (by kernel_rfl) Try.func11 (by kernel_rfl)
    (of_decide_eq_true (by kernel_rfl)) (by unfold Func.isWrapper; first | (rw [if_pos (by decide +kernel)]; kernel_rfl) | (rw [if_neg (by decide +kernel)]; exact ⟨rfl, rfl⟩))
    (fun os started H enc _ F => by rw [OpenClaim.pre_eq_preRow]; exact lifted os started H enc F)
end Go.Proofs.Ytoklcjdahicjmaa.rescueGaps

