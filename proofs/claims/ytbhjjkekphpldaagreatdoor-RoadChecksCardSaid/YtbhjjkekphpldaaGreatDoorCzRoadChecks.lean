/- 'sastrugilaw10.RoadChecks' returns true for every region, every list of numbers, and every number, and what is given reads behind the call as it read before, without a condition: its tied card. -/
import Derived.Test.YtbhjjkekphpldaaGreatDoorW1
import Derived.Test.YtbhjjkekphpldaaGreatDoorW2
import Derived.Test.YtbhjjkekphpldaaGreatDoorW3
import Derived.Test.YtbhjjkekphpldaaGreatDoorW4
import Derived.Test.YtbhjjkekphpldaaGreatDoorW5
import Derived.Test.YtbhjjkekphpldaaGreatDoorW6
import Derived.Test.YtbhjjkekphpldaaGreatDoorW7
import Derived.Test.YtbhjjkekphpldaaGreatDoorW8
import Derived.Test.YtbhjjkekphpldaaGreatDoorW9
import Derived.Test.YtbhjjkekphpldaaGreatDoorW10
import Derived.Test.YtbhjjkekphpldaaGreatDoorW11
import Derived.Test.YtbhjjkekphpldaaGreatDoorW12
import Derived.Test.YtbhjjkekphpldaaGreatDoorW13
import Derived.Test.YtbhjjkekphpldaaGreatDoorW14
import Derived.Test.YtbhjjkekphpldaaGreatDoorW15
import Derived.Test.YtbhjjkekphpldaaGreatDoorW16
import Derived.Test.YtbhjjkekphpldaaGreatDoorW17
import Derived.Test.YtbhjjkekphpldaaGreatDoorW18
import Derived.Test.YtbhjjkekphpldaaGreatDoorW19
import Derived.Test.YtbhjjkekphpldaaGreatDoorW20
import Derived.Test.YtbhjjkekphpldaaGreatDoorW21
import Derived.Test.YtbhjjkekphpldaaGreatDoorW22
set_option linter.all false
/- 'sastrugilaw10.RoadChecks' returns true for every region, every list of numbers, and every number, and what is given reads behind the call as it read before, without a condition: its tied card. -/
namespace Go.Proofs.fu
open Go Go.Ab
set_option linter.all false
set_option maxRecDepth 100000
theorem k3 (c : Region) (x1 : List Int) (x2 : Int) (h1 : x1.length ≤ 9223372036854775807) : ep Go.Proofs.YtbhjjkekphpldaaGreatDoor.Vn 3 [.agg (pJ c), DP 1 Da x1, .int .i64 x2] (.bool true) := by
  have h := ry (Z := Go.Proofs.YtbhjjkekphpldaaGreatDoor.ae) (bf := [.Region, .sl (.int .i64), .int .i64]) (ts := [.bool]) (E := ah9) (fn := Tryz.f3) (c := dB Tryz.f3) (a := (c, x1, x2, ())) Tryz.func3 (by kernel_rfl) (by kernel_rfl) (by kernel_rfl) (by kernel_rfl) rfl ((congrFun (congrFun ap6 aB) (c, x1, x2, ())).trans ((yG c x1 x2).symm.trans (F2 c x1 x2 h1))) zh zh
  have e : I.al zh (ck [.Region, .sl (.int .i64), .int .i64] (c, x1, x2, ())) = [.agg (pJ c), DP 1 Da x1, .int .i64 x2] := by
    show D.agg (I.al zh (bj .Region c)) :: _ = _
    rw [bd]; rfl
  rw [e] at h
  exact h
end Go.Proofs.fu
namespace Go.Proofs.YtbhjjkekphpldaaGreatDoor.roadChecks
open Go Go.Ab Go.ChangeShapes Go.WideShapes Go.ChangeAt Go.RowKit
set_option maxRecDepth 100000
theorem aal (H : Type) (enc : TypeId × Value → H) (W : World) (base : Nat) (args : Array Value) (ds gs : List (DataW H)) (before : List MemPlace)
    (Dl : ∀ (j : Nat) t v, Tryz.f3.params[j]? = some t → args[j]? = some v → Value.okWide Tryz.prog W .any base t v)
    (hW : DataW.Whole enc Tryz.prog Tryz.f3.params.toList Rows.roadChecksSpec.vars false W args.toList ds gs before) (hL : laidMetH Tryz.prog Rows.roadChecksRow.laid W) (zW : W.ShapedOpen Tryz.prog) :
    Calls Tryz.prog 3 args W fun e W' => ∃ v, e = .returned v ∧ Rows.roadChecksSpec.post enc Tryz.prog Tryz.f3 false true false false W args v W' := by
  have hW' := hW
  obtain ⟨p, q, hA, hV, rfl, _, _⟩ := hW
  rw [Tryz.params3] at hA Dl
  obtain ⟨v0, vs0, d0, B6, p0, q0, avS, rfl, rfl, h0, r0⟩ := trodAll_cons hA
  obtain ⟨v1, vs1, d1, ds1, p1, q1, rfl, rfl, rfl, h1, r1⟩ := trodAll_cons r0
  obtain ⟨v2, vs2, d2, ds2, p2, q2, rfl, rfl, rfl, h2, r2⟩ := trodAll_cons r1
  obtain ⟨rfl, rfl, rfl⟩ := trodAll_nil r2
  obtain rfl : args = #[v0, v1, v2] := by cases args; simp_all
  obtain ⟨rfl, rfl⟩ := trodVars_none hV
  obtain ⟨x0, c0⟩ := So Tryz.underlying49 asp (Dl 0 49 v0 rfl rfl) h0
  obtain ⟨x1, c1⟩ := Z5 (Dl 1 50 v1 rfl rfl) h1
  obtain ⟨x2, c2⟩ := aeU (Dl 2 3 v2 rfl rfl) h2
  refine ((Go.Proofs.fu.k3 x0 x1 x2 (aa1 (Dl 1 50 v1 rfl rfl) c1)).calls W (qG W) [v0, v1, v2] (Wb W) (afU hL zW) (.cons _ _ _ _ c0 (.cons _ _ _ _ c1 (.cons _ _ _ _ c2 .nil)))).mono fun e W' ⟨v, he, hv, hb⟩ => ?_
  subst he
  cases hv
  exact ⟨_, rfl, abO hW' rfl hb (by rw [Tryz.params3]; intro t ht; simp at ht; rcases ht with rfl | rfl | rfl <;> exact ⟨by kernel_rfl, of_decide_eq_true (by kernel_rfl)⟩) (by kernel_rfl) rfl rfl rfl⟩

def Vh : Array Value := ⟨[.slice none 0 0, .int .i64 0, .int .i64 0, .int .i64 0, .int .i64 0, .int .i64 0, .slice none 0 0, .slice none 0 0, .int .i64 0, .int .i64 0, .int .i64 0, .int .i64 0, .int .i64 0, .int .i64 0, .int .i64 0, .int .i64 0, .int .i64 0, .int .i64 0, .int .i64 0, .slice none 0 0, .slice none 0 0, .int .i64 0, .slice none 0 0, .slice none 0 0, .slice none 0 0, .slice none 0 0, .int .i64 0, .int .i64 0, .int .i64 0, .int .i64 0, .slice none 0 0, .int .i64 0, .int .i64 0, .int .i64 0, .int .i64 0]⟩
theorem aa7 (os : Os) : laidMet Tryz.prog Rows.roadChecksRow.laid ((Ac os).forCall (fun _ _ => 0) ⟨#[], #[.agg Vh, .slice none 0 0, .int .i64 0], []⟩).memory :=
  laidMet_of_run' 8 (by kernel_rfl) (by kernel_rfl)
theorem reads (os : Os) {H : Type} (enc : TypeId × Value → H) : ∃ places, DataW.whole enc Tryz.prog ((Ac os).forCall (fun _ _ => 0) ⟨#[], #[.agg Vh, .slice none 0 0, .int .i64 0], []⟩).memory Tryz.f3.params.toList Rows.roadChecksSpec.vars false #[.agg Vh, .slice none 0 0, .int .i64 0].toList 8 =
    some ([.agg [.agg [.nil, .agg [.lit (.int .i64 0), .lit (.int .i64 0), .lit (.int .i64 0)]], .agg [.agg [.lit (.int .i64 0), .lit (.int .i64 0)], .nil, .nil, .lit (.int .i64 0), .lit (.int .i64 0), .lit (.int .i64 0), .lit (.int .i64 0), .lit (.int .i64 0), .lit (.int .i64 0), .lit (.int .i64 0)], .lit (.int .i64 0), .lit (.int .i64 0), .agg [.lit (.int .i64 0), .lit (.int .i64 0)], .agg [.nil, .nil], .agg [.lit (.int .i64 0), .nil, .nil, .nil, .nil], .agg [.lit (.int .i64 0), .lit (.int .i64 0), .lit (.int .i64 0), .lit (.int .i64 0)], .nil, .agg [.lit (.int .i64 0), .lit (.int .i64 0)], .agg [.lit (.int .i64 0), .lit (.int .i64 0)]], .nil, .lit (.int .i64 0)], [], places) :=
  ⟨[], by kernel_rfl⟩

theorem lifted (os : Os) (started : os.Started) (H : Type) (enc : TypeId × Value → H) (F : Stop.Interp) :
    ReturnsInHanded {} Tryz.checked os 3 .any ((OpenSpec.ofChange Rows.roadChecksSpec).preRow enc Tryz.prog Tryz.f3 Rows.roadChecksRow.domain false Rows.roadChecksRow.laid) (((OpenSpec.ofChange Rows.roadChecksSpec).at F).post enc Tryz.prog Tryz.f3 false true false false) := by
  obtain ⟨places, hx⟩ := reads os enc
  refine returnsInHanded_of_row (C := Tryz.checked) (s := OpenSpec.ofChange Rows.roadChecksSpec) own started (by kernel_rfl) Tryz.func3
    (witness_row_at (enc := enc) (C := Tryz.checked) false (Ac os) #[.agg Vh, .slice none 0 0, .int .i64 0] rfl (by kernel_rfl) (by kernel_rfl) (by kernel_rfl)
      (OpenSpec.preRow_of_cond 8 hx (by kernel_rfl) (fun k hk => by cases hk) (by kernel_rfl) (aa7 os))) ?_
  intro W base args ds gs before Dl hW _ _ _ hL zW _
  exact aal H enc W base args ds gs before Dl hW hL zW

theorem said : Rows.RoadChecksSaid :=
  OpenClaim.holds_of_cond 3 Tryz.f3 rfl rfl rfl rfl rfl rfl rfl ⟨rfl, rfl, rfl, rfl, rfl⟩ rfl rfl rfl rfl rfl (by kernel_rfl) Tryz.func3 afd ans ap8
    (fun os started H enc _ F => by rw [OpenClaim.pre_eq_preRow]; exact lifted os started H enc F)

theorem plain (f : FuncId) (fn : Func) (hf : Tryz.pinned.checked.prog.funcNamed "sastrugi/sastrugilaw10.RoadChecks" = some f) (hfn : Tryz.pinned.checked.prog.funcs[f]? = some fn) :
    true = Tryz.pinned.checked.prog.looks [] ∧ ∀ (j : Nat) t, fn.params[j]? = some t → Tryz.pinned.checked.prog.wantsStandIn t = false := by
  obtain rfl : f = 3 := Option.some.inj ((show Tryz.prog.funcNamed "sastrugi/sastrugilaw10.RoadChecks" = some 3 by kernel_rfl).symm.trans hf) |>.symm
  obtain rfl : fn = Tryz.f3 := (Option.some.inj (Tryz.func3.symm.trans hfn)).symm
  refine ⟨by kernel_rfl, fun j t ht => ?_⟩
  rw [Tryz.params3] at ht
  have wc : t = 49 ∨ t = 50 ∨ t = 3 := by
    have := Array.mem_of_getElem? ht
    simp at this
    omega
  rcases wc with rfl | rfl | rfl
  · exact (show Tryz.prog.wantsStandIn 49 = false by kernel_rfl)
  · exact (show Tryz.prog.wantsStandIn 50 = false by kernel_rfl)
  · exact (show Tryz.prog.wantsStandIn 3 = false by kernel_rfl)

theorem card : Rows.RoadChecksCardSaid :=
  Claim7.holds_tied_plain_at .later [] _ _ _ _ said (fun _ h => by cases h) (by kernel_rfl) (fun _ h => by cases h) roadChecks_row_tie rfl ⟨rfl, rfl⟩ (by kernel_rfl) rfl plain (by kernel_rfl)
end Go.Proofs.YtbhjjkekphpldaaGreatDoor.roadChecks

