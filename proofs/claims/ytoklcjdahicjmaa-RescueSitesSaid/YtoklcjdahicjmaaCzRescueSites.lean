/- 'sastrugilaw07.RescueSites' returns true for every rescue, list of numbers, span, number, list of numbers, and what is given reads behind the call as it read before, without a condition. -/
import Derived.Test.YtoklcjdahicjmaaW1
import Derived.Test.YtoklcjdahicjmaaW2
import Derived.Test.YtoklcjdahicjmaaW3
import Derived.Test.YtoklcjdahicjmaaW4
import Derived.Test.YtoklcjdahicjmaaW5
import Derived.Test.YtoklcjdahicjmaaW6
import Derived.Test.YtoklcjdahicjmaaW7
import Derived.Test.YtoklcjdahicjmaaW8
set_option linter.all false
/- 'sastrugilaw07.RescueSites' returns true for every rescue, list of numbers, span, number, list of numbers, and what is given reads behind the call as it read before, without a condition. -/
namespace Go.Proofs.Rescue07
open Go Go.Ab
set_option linter.all false
set_option maxRecDepth 100000
theorem k13 (x0 : Rescue) (x1 : List Int) (x2 : Span) (x3 : Int) (x4 : List Int) (hx0 : x0.Posts.length ≤ 9223372036854775807) (hx1 : x1.length ≤ 9223372036854775807) (hx4 : x4.length ≤ 9223372036854775807) : Contract Go.Proofs.Ytoklcjdahicjmaa.seat 13 [.agg (encDRescue x0), slOf 1 encI x1, .agg (encDSpan x2), .int .i64 x3, slOf 1 encI x4] (.bool true) := by
  have h := fn_contract (Z := Go.Proofs.Ytoklcjdahicjmaa.iseat) (ats := [.Rescue, .sl (.int .i64), .Span, .int .i64, .sl (.int .i64)]) (ts := [.bool]) (E := E13) (fn := Try.f13) (c := bodyOf Try.f13) Try.func13 (by kernel_rfl) (by kernel_rfl) (by kernel_rfl) (by kernel_rfl) rfl ((e13 itN x0 x1 x2 x3 x4).trans ((RescueSites_eq x0 x1 x2 x3 x4).symm.trans (RescueSites_true x0 x1 x2 x3 x4 hx0 hx1 hx4))) zh zh
  have e : I.toDL zh (encA [.Rescue, .sl (.int .i64), .Span, .int .i64, .sl (.int .i64)] (x0, x1, x2, x3, x4, ())) = [.agg (encDRescue x0), slOf 1 encI x1, .agg (encDSpan x2), .int .i64 x3, slOf 1 encI x4] := by
    rfl
  rw [e] at h
  exact h
end Go.Proofs.Rescue07
namespace Go.Proofs.Ytoklcjdahicjmaa.rescueSites
open Go Go.Ab Go.ChangeShapes Go.WideShapes Go.ChangeAt Go.RowKit
set_option maxRecDepth 100000
theorem contract (H : Type) (enc : TypeId × Value → H) (W : World) (base : Nat) (args : Array Value) (ds gs : List (DataW H)) (before : List MemPlace)
    (hval : ∀ (j : Nat) t v, Try.f13.params[j]? = some t → args[j]? = some v → Value.okWide Try.prog W .any base t v)
    (hW : DataW.Whole enc Try.prog Try.f13.params.toList Rows.rescueSitesSpec.vars false W args.toList ds gs before) (hL : laidMetH Try.prog Rows.rescueSitesRow.laid W) :
    Calls Try.prog 13 args W fun e W' => ∃ v, e = .returned v ∧ Rows.rescueSitesSpec.post enc Try.prog Try.f13 false true false false W args v W' := by
  have hW' := hW
  obtain ⟨p, q, hA, hV, rfl, _, _⟩ := hW
  rw [Try.params13] at hA hval
  obtain ⟨v0, vs0, d0, ds0, p0, q0, hargs, rfl, rfl, h0, r0⟩ := trodAll_cons hA
  obtain ⟨v1, vs1, d1, ds1, p1, q1, e1, e2, e3, h1, r1⟩ := trodAll_cons r0
  subst e1 e2 e3
  obtain ⟨v2, vs2, d2, ds2, p2, q2, e1, e2, e3, h2, r2⟩ := trodAll_cons r1
  subst e1 e2 e3
  obtain ⟨v3, vs3, d3, ds3, p3, q3, e1, e2, e3, h3, r3⟩ := trodAll_cons r2
  subst e1 e2 e3
  obtain ⟨v4, vs4, d4, ds4, p4, q4, e1, e2, e3, h4, r4⟩ := trodAll_cons r3
  subst e1 e2 e3
  obtain ⟨rfl, rfl, rfl⟩ := trodAll_nil r4
  obtain rfl : args = #[v0, v1, v2, v3, v4] := by cases args; simp_all
  obtain ⟨rfl, rfl⟩ := trodVars_none hV
  obtain ⟨x0, c0⟩ := (arg_struct Try.underlying27 rd_rescue) (hval 0 27 v0 rfl rfl) h0
  obtain ⟨x1, c1⟩ := arg_ints (hval 1 28 v1 rfl rfl) h1
  obtain ⟨x2, c2⟩ := (arg_struct Try.underlying51 rd_span) (hval 2 51 v2 rfl rfl) h2
  obtain ⟨x3, c3⟩ := arg_int (hval 3 3 v3 rfl rfl) h3
  obtain ⟨x4, c4⟩ := arg_ints (hval 4 28 v4 rfl rfl) h4
  refine ((Go.Proofs.Rescue07.k13 x0 x1 x2 x3 x4 (posts_len (hval 0 27 v0 rfl rfl) c0) (ints_len (hval 1 28 v1 rfl rfl) c1) (ints_len (hval 4 28 v4 rfl rfl) c4)).calls W (allK W) [v0, v1, v2, v3, v4] (allK_fits W) glob_of (.cons _ _ _ _ c0 (.cons _ _ _ _ c1 (.cons _ _ _ _ c2 (.cons _ _ _ _ c3 (.cons _ _ _ _ c4 .nil)))))).mono fun e W' ⟨v, he, hv, hb⟩ => ?_
  subst he
  cases hv
  exact ⟨_, rfl, post_yes hW' rfl hb (by rw [Try.params13]; intro t ht; simp at ht; rcases ht with rfl | rfl | rfl | rfl | rfl <;> exact ⟨by kernel_rfl, of_decide_eq_true (by kernel_rfl)⟩) (by kernel_rfl) rfl rfl rfl⟩

theorem laid_met (os : Os) : laidMet Try.prog Rows.rescueSitesRow.laid ((laidWorld os).forCall (fun _ _ => 0) ⟨#[], #[.agg #[.int .i64 0, .slice none 0 0, .slice none 0 0, .slice none 0 0, .slice none 0 0], .slice none 0 0, .agg #[.int .i64 0, .int .i64 0], .int .i64 0, .slice none 0 0], []⟩).memory :=
  laidMet_of_run' 8 (by kernel_rfl) (by kernel_rfl)
theorem reads (os : Os) {H : Type} (enc : TypeId × Value → H) : ∃ places, DataW.whole enc Try.prog ((laidWorld os).forCall (fun _ _ => 0) ⟨#[], #[.agg #[.int .i64 0, .slice none 0 0, .slice none 0 0, .slice none 0 0, .slice none 0 0], .slice none 0 0, .agg #[.int .i64 0, .int .i64 0], .int .i64 0, .slice none 0 0], []⟩).memory Try.f13.params.toList Rows.rescueSitesSpec.vars false #[.agg #[.int .i64 0, .slice none 0 0, .slice none 0 0, .slice none 0 0, .slice none 0 0], .slice none 0 0, .agg #[.int .i64 0, .int .i64 0], .int .i64 0, .slice none 0 0].toList 8 =
    some ([.agg [.lit (.int .i64 0), .nil, .nil, .nil, .nil], .nil, .agg [.lit (.int .i64 0), .lit (.int .i64 0)], .lit (.int .i64 0), .nil], [], places) :=
  ⟨[], by kernel_rfl⟩

theorem lifted (os : Os) (started : os.Started) (H : Type) (enc : TypeId × Value → H) (F : Stop.Interp) :
    ReturnsInHanded {} Try.checked os 13 .any ((OpenSpec.ofChange Rows.rescueSitesSpec).preRow enc Try.prog Try.f13 Rows.rescueSitesRow.domain false Rows.rescueSitesRow.laid) (((OpenSpec.ofChange Rows.rescueSitesSpec).at F).post enc Try.prog Try.f13 false true false false) := by
  obtain ⟨places, hx⟩ := reads os enc
  refine returnsInHanded_of_row (C := Try.checked) (s := OpenSpec.ofChange Rows.rescueSitesSpec) own started (by kernel_rfl) Try.func13
    (witness_row_at (enc := enc) (C := Try.checked) false (laidWorld os) #[.agg #[.int .i64 0, .slice none 0 0, .slice none 0 0, .slice none 0 0, .slice none 0 0], .slice none 0 0, .agg #[.int .i64 0, .int .i64 0], .int .i64 0, .slice none 0 0] rfl (by kernel_rfl) (by kernel_rfl) (by kernel_rfl)
      (OpenSpec.preRow_of_cond 8 hx (by kernel_rfl) (fun k hk => by cases hk) (by kernel_rfl) (laid_met os))) ?_
  intro W base args ds gs before hval hW _ _ _ hL _ _
  exact contract H enc W base args ds gs before hval hW hL

theorem said : Rows.RescueSitesSaid :=
  OpenClaim.holds_of_cond 13 Try.f13 rfl rfl rfl rfl rfl rfl rfl ⟨rfl, rfl, rfl, rfl, rfl⟩ rfl rfl rfl rfl rfl (by kernel_rfl) Try.func13 (by kernel_rfl)
    (of_decide_eq_true (by kernel_rfl)) (by unfold Func.isWrapper; first | (rw [if_pos (by decide +kernel)]; kernel_rfl) | (rw [if_neg (by decide +kernel)]; exact ⟨rfl, rfl⟩))
    (fun os started H enc _ F => by rw [OpenClaim.pre_eq_preRow]; exact lifted os started H enc F)
end Go.Proofs.Ytoklcjdahicjmaa.rescueSites

