/- 'sastrugilaw04.ConvoyReleases' returns true for every convoy, number, span, span, list of numbers, and what is given reads behind the call as it read before, without a condition: its tied card. -/
import Derived.Test.YtafnhieaeejlcaaDoorW1
import Derived.Test.YtafnhieaeejlcaaDoorW2
import Derived.Test.YtafnhieaeejlcaaDoorW3
import Derived.Test.YtafnhieaeejlcaaDoorW4
import Derived.Test.YtafnhieaeejlcaaDoorW5
import Derived.Test.YtafnhieaeejlcaaDoorW6
import Derived.Test.YtafnhieaeejlcaaDoorW7
import Derived.Test.YtafnhieaeejlcaaDoorW8
set_option linter.all false
/- 'sastrugilaw04.ConvoyReleases' returns true for every convoy, number, span, span, list of numbers, and what is given reads behind the call as it read before, without a condition: its tied card. -/
namespace Go.Proofs.Plain04
open Go Go.Ab
set_option linter.all false
set_option maxRecDepth 100000
theorem k13 (x0 : Go.Proofs.YtafnhieaeejlcaaDoor.Convoy) (x1 : Int) (x2 : Go.Proofs.YtafnhieaeejlcaaDoor.Span) (x3 : Go.Proofs.YtafnhieaeejlcaaDoor.Span) (x4 : List Int) (hx4 : x4.length ≤ 9223372036854775807) : Contract Go.Proofs.YtafnhieaeejlcaaDoor.seat 13 [.agg (Go.Proofs.YtafnhieaeejlcaaDoor.encConvoy x0), .int .i64 x1, .agg (Go.Proofs.YtafnhieaeejlcaaDoor.encSpan x2), .agg (Go.Proofs.YtafnhieaeejlcaaDoor.encSpan x3), slOf 1 encI x4] (.bool true) := by
  have h := fn_contract (Z := Go.Proofs.YtafnhieaeejlcaaDoor.iseat) (ats := [.Convoy, .int .i64, .Span, .Span, .sl (.int .i64)]) (ts := [.bool]) (E := E13) (fn := Tryd.f13) (c := bodyOf Tryd.f13) Tryd.func13 (by kernel_rfl) (by kernel_rfl) (by kernel_rfl) (by kernel_rfl) rfl ((e13 itN (nC x0) x1 (nS x2) (nS x3) x4).trans ((ConvoyReleases_eq (nC x0) x1 (nS x2) (nS x3) x4).symm.trans (ConvoyReleases_true (nC x0) x1 (nS x2) (nS x3) hx4))) zh zh
  have e : I.toDL zh (encA [.Convoy, .int .i64, .Span, .Span, .sl (.int .i64)] ((nC x0), x1, (nS x2), (nS x3), x4, ())) = [.agg (Go.Proofs.YtafnhieaeejlcaaDoor.encConvoy x0), .int .i64 x1, .agg (Go.Proofs.YtafnhieaeejlcaaDoor.encSpan x2), .agg (Go.Proofs.YtafnhieaeejlcaaDoor.encSpan x3), slOf 1 encI x4] := by
    show [(encV .Convoy (nC x0)).toD zh, .int .i64 x1, .agg (Go.Proofs.YtafnhieaeejlcaaDoor.encSpan x2), .agg (Go.Proofs.YtafnhieaeejlcaaDoor.encSpan x3), slOf 1 encI x4] = _
    rw [argC, oC_nC]
  rw [e] at h
  exact h
end Go.Proofs.Plain04
namespace Go.Proofs.YtafnhieaeejlcaaDoor.convoyReleases
open Go Go.Ab Go.ChangeShapes Go.WideShapes Go.ChangeAt Go.RowKit
set_option maxRecDepth 100000
theorem contract (H : Type) (enc : TypeId × Value → H) (W : World) (base : Nat) (args : Array Value) (ds gs : List (DataW H)) (before : List MemPlace)
    (hval : ∀ (j : Nat) t v, Tryd.f13.params[j]? = some t → args[j]? = some v → Value.okWide Tryd.prog W .any base t v)
    (hW : DataW.Whole enc Tryd.prog Tryd.f13.params.toList Rows.convoyReleasesSpec.vars false W args.toList ds gs before) (hL : laidMetH Tryd.prog Rows.convoyReleasesRow.laid W) :
    Calls Tryd.prog 13 args W fun e W' => ∃ v, e = .returned v ∧ Rows.convoyReleasesSpec.post enc Tryd.prog Tryd.f13 false true false false W args v W' := by
  have hW' := hW
  obtain ⟨p, q, hA, hV, rfl, _, _⟩ := hW
  rw [Tryd.params13] at hA hval
  obtain ⟨v0, vs0, d0, ds0, p0, q0, hargs, rfl, rfl, h0, r0⟩ := trodAll_cons hA
  obtain ⟨v1, vs1, d1, ds1, p1, q1, e1, e2, e3, h1, r1⟩ := trodAll_cons r0
  subst e1 e2 e3
  obtain ⟨v2, vs2, d2, ds2, p2, q2, e1, e2, e3, h2, r2⟩ := trodAll_cons r1
  subst e1 e2 e3
  obtain ⟨v3, vs3, d3, ds3, p3, q3, e1, e2, e3, h3, r3⟩ := trodAll_cons r2
  subst e1 e2 e3
  obtain ⟨v4, vs4, d4, ds4, p4, q4, e1, e2, e3, h4, r4⟩ := trodAll_cons r3
  subst e1 e2 e3
  obtain ⟨rfl, rfl, rfl⟩ := trodAll_nil r4
  obtain rfl : args = #[v0, v1, v2, v3, v4] := by cases args; simp_all
  obtain ⟨rfl, rfl⟩ := trodVars_none hV
  obtain ⟨x0, c0⟩ := arg_convoy (hval 0 24 v0 rfl rfl) h0
  obtain ⟨x1, c1⟩ := arg_int (hval 1 3 v1 rfl rfl) h1
  obtain ⟨x2, c2⟩ := arg_span (hval 2 47 v2 rfl rfl) h2
  obtain ⟨x3, c3⟩ := arg_span (hval 3 47 v3 rfl rfl) h3
  obtain ⟨x4, c4⟩ := arg_ints (hval 4 31 v4 rfl rfl) h4
  refine ((Go.Proofs.Plain04.k13 x0 x1 x2 x3 x4 (ints_len (hval 4 31 v4 rfl rfl) c4)).calls W (allK W) [v0, v1, v2, v3, v4] (allK_fits W) (glob_of hL) (.cons _ _ _ _ c0 (.cons _ _ _ _ c1 (.cons _ _ _ _ c2 (.cons _ _ _ _ c3 (.cons _ _ _ _ c4 .nil)))))).mono fun e W' ⟨v, he, hv, hb⟩ => ?_
  subst he
  cases hv
  exact ⟨_, rfl, post_yes hW' rfl hb (by rw [Tryd.params13]; intro t ht; simp at ht; rcases ht with rfl | rfl | rfl | rfl | rfl <;> exact ⟨by kernel_rfl, of_decide_eq_true (by kernel_rfl)⟩) (by kernel_rfl) rfl rfl rfl⟩

theorem laid_met (os : Os) : laidMet Tryd.prog Rows.convoyReleasesRow.laid ((laidWorld os).forCall (fun _ _ => 0) ⟨#[], #[cv0, .int .i64 0, .agg #[.int .i64 0, .int .i64 0], .agg #[.int .i64 0, .int .i64 0], .slice none 0 0], []⟩).memory :=
  laidMet_of_run' 8 (by kernel_rfl) (by kernel_rfl)
theorem reads (os : Os) {H : Type} (enc : TypeId × Value → H) : ∃ places, DataW.whole enc Tryd.prog ((laidWorld os).forCall (fun _ _ => 0) ⟨#[], #[cv0, .int .i64 0, .agg #[.int .i64 0, .int .i64 0], .agg #[.int .i64 0, .int .i64 0], .slice none 0 0], []⟩).memory Tryd.f13.params.toList Rows.convoyReleasesSpec.vars false #[cv0, .int .i64 0, .agg #[.int .i64 0, .int .i64 0], .agg #[.int .i64 0, .int .i64 0], .slice none 0 0].toList 8 =
    some ([.agg [.lit (.int .i64 0), .lit (.int .i64 0), .lit (.int .i64 0), .nil], .lit (.int .i64 0), .agg [.lit (.int .i64 0), .lit (.int .i64 0)], .agg [.lit (.int .i64 0), .lit (.int .i64 0)], .nil], [], places) :=
  ⟨[], by kernel_rfl⟩

theorem lifted (os : Os) (started : os.Started) (H : Type) (enc : TypeId × Value → H) (F : Stop.Interp) :
    ReturnsInHanded {} Tryd.checked os 13 .any ((OpenSpec.ofChange Rows.convoyReleasesSpec).preRow enc Tryd.prog Tryd.f13 Rows.convoyReleasesRow.domain false Rows.convoyReleasesRow.laid) (((OpenSpec.ofChange Rows.convoyReleasesSpec).at F).post enc Tryd.prog Tryd.f13 false true false false) := by
  obtain ⟨places, hx⟩ := reads os enc
  refine returnsInHanded_of_row (C := Tryd.checked) (s := OpenSpec.ofChange Rows.convoyReleasesSpec) own started (by kernel_rfl) Tryd.func13
    (witness_row_at (enc := enc) (C := Tryd.checked) false (laidWorld os) #[cv0, .int .i64 0, .agg #[.int .i64 0, .int .i64 0], .agg #[.int .i64 0, .int .i64 0], .slice none 0 0] rfl (by kernel_rfl) (by kernel_rfl) (by kernel_rfl)
      (OpenSpec.preRow_of_cond 8 hx (by kernel_rfl) (fun k hk => by cases hk) (by kernel_rfl) (laid_met os))) ?_
  intro W base args ds gs before hval hW _ _ _ hL _ _
  exact contract H enc W base args ds gs before hval hW hL

theorem said : Rows.ConvoyReleasesSaid :=
  OpenClaim.holds_of_cond 13 Tryd.f13 rfl rfl rfl rfl rfl rfl rfl ⟨rfl, rfl, rfl, rfl, rfl⟩ rfl rfl rfl rfl rfl (by kernel_rfl) Tryd.func13 (by kernel_rfl)
    (of_decide_eq_true (by kernel_rfl)) (by unfold Func.isWrapper; first | (rw [if_pos (by decide +kernel)]; kernel_rfl) | (rw [if_neg (by decide +kernel)]; exact ⟨rfl, rfl⟩))
    (fun os started H enc _ F => by rw [OpenClaim.pre_eq_preRow]; exact lifted os started H enc F)

theorem plain (f : FuncId) (fn : Func) (hf : Tryd.pinned.checked.prog.funcNamed "sastrugi/sastrugilaw04.ConvoyReleases" = some f) (hfn : Tryd.pinned.checked.prog.funcs[f]? = some fn) :
    false = Tryd.pinned.checked.prog.looks [] ∧ ∀ (j : Nat) t, fn.params[j]? = some t → Tryd.pinned.checked.prog.wantsStandIn t = false := by
  obtain rfl : f = 13 := Option.some.inj ((show Tryd.prog.funcNamed "sastrugi/sastrugilaw04.ConvoyReleases" = some 13 by kernel_rfl).symm.trans hf) |>.symm
  obtain rfl : fn = Tryd.f13 := (Option.some.inj (Tryd.func13.symm.trans hfn)).symm
  refine ⟨by kernel_rfl, fun j t ht => ?_⟩
  rw [Tryd.params13] at ht
  have ht' : t = 24 ∨ t = 3 ∨ t = 47 ∨ t = 47 ∨ t = 31 := by simpa using Array.mem_of_getElem? ht
  rcases ht' with rfl | rfl | rfl | rfl | rfl
  · exact (show Tryd.prog.wantsStandIn 24 = false by kernel_rfl)
  · exact (show Tryd.prog.wantsStandIn 3 = false by kernel_rfl)
  · exact (show Tryd.prog.wantsStandIn 47 = false by kernel_rfl)
  · exact (show Tryd.prog.wantsStandIn 47 = false by kernel_rfl)
  · exact (show Tryd.prog.wantsStandIn 31 = false by kernel_rfl)

theorem card : Rows.ConvoyReleasesCardSaid :=
  Claim7.holds_tied_plain_at .later [] _ _ _ _ said (fun _ h => by cases h) (by kernel_rfl) (fun _ h => by cases h) convoyReleases_row_tie rfl ⟨rfl, rfl⟩ (by kernel_rfl) rfl plain (by kernel_rfl)
end Go.Proofs.YtafnhieaeejlcaaDoor.convoyReleases

