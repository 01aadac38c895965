/- Walks by computing: what each function of the program that the laws reach gives for what it gets, as plain Lean, and that it is so; without a condition but those that stand in each theorem. -/
import Derived.Test.YtafnhieaeejlcaaDoorW1
import Derived.Test.YtafnhieaeejlcaaDoorW2
import Derived.Test.YtafnhieaeejlcaaDoorW3
import Derived.Test.YtafnhieaeejlcaaDoorW4
import Derived.Test.YtafnhieaeejlcaaDoorW5
import Derived.Test.YtafnhieaeejlcaaDoorW6
import Derived.Test.YtafnhieaeejlcaaDoorW7
set_option linter.all false
namespace Go.Proofs.Plain04
open Go Go.Ab
open Go.Proofs.YtafnhieaeejlcaaDoor (iseat)
set_option linter.all false
set_option maxRecDepth 100000
noncomputable section
def Inside' (it : It (Seed × Int)) (s : Seed) (x : Span) : Option (Seed × Int) :=
  (From s x.Lo x.Hi).bind fun r =>
  (From r.1 x.Lo x.Hi).bind fun r2 =>
  (Of r2.1 [x.Lo, x.Hi, r.2, r2.2]).bind fun r3 =>
  some (r3.1, r3.2)
def Inside : Seed → Span → Option (Seed × Int) := opq (fun s x => Inside' itN s x)
theorem Inside_eq (s : Seed) (x : Span) : Inside s x = Inside' itN s x := by unfold Inside; rw [opq_eq]
def E80 : FEnv iseat := ⟨⟨24, [], [sp35, sp45], [], [], [], [], [22], [0], true⟩, []⟩
theorem e80 (it : It (Seed × Int)) (s : Seed) (x : Span) : fnRunR (bt := .Seed) (ts := [.int .i64]) it E80 (bodyOf Tryd.f80) Tryd.f80.results.toList (encC .Seed s) (encA [.Span] (x, ())) = Inside' it s x := by kernel_rfl
def sp80 : FnSpecR iseat.toSeat := mkSpecR iseat.toSeat 80 .Seed [.Span] [.int .i64] (fun b a => Inside b a.1) (fun b a y x hx h => fn_contractR (Z := iseat) (bt := .Seed) (ats := [.Span]) (ts := [.int .i64]) (E := E80) (fn := Tryd.f80) (c := bodyOf Tryd.f80) Tryd.func80 (by kernel_rfl) (by kernel_rfl) (by kernel_rfl) (by kernel_rfl) rfl ((e80 itN b a.1).trans ((Inside_eq b a.1).symm.trans hx)) h)
def Part' (it : It (Seed × Span)) (s : Seed) (x : Span) : Option (Seed × Span) :=
  (Inside s x).bind fun r =>
  (Inside r.1 x).bind fun r2 =>
  some (r2.1, (⟨(min r.2 r2.2), (max r.2 r2.2)⟩ : Span))
def Part : Seed → Span → Option (Seed × Span) := opq (fun s x => Part' itN s x)
theorem Part_eq (s : Seed) (x : Span) : Part s x = Part' itN s x := by unfold Part; rw [opq_eq]
def E34 : FEnv iseat := ⟨⟨20, [], [sp80], [], [], [], [], [], [0], true⟩, []⟩
theorem e34 (it : It (Seed × Span)) (s : Seed) (x : Span) : fnRunR (bt := .Seed) (ts := [.Span]) it E34 (bodyOf Tryd.f34) Tryd.f34.results.toList (encC .Seed s) (encA [.Span] (x, ())) = Part' it s x := by kernel_rfl
def sp34 : FnSpecR iseat.toSeat := mkSpecR iseat.toSeat 34 .Seed [.Span] [.Span] (fun b a => Part b a.1) (fun b a y x hx h => fn_contractR (Z := iseat) (bt := .Seed) (ats := [.Span]) (ts := [.Span]) (E := E34) (fn := Tryd.f34) (c := bodyOf Tryd.f34) Tryd.func34 (by kernel_rfl) (by kernel_rfl) (by kernel_rfl) (by kernel_rfl) rfl ((e34 itN b a.1).trans ((Part_eq b a.1).symm.trans hx)) h)
def In' (it : It Bool) (a : Span) (b : Span) : Option Bool :=
  bif (decide (a.Lo ≥ b.Lo)) then
    some (decide (a.Hi ≤ b.Hi))
  else
    some false
def In : Span → Span → Option Bool := opq (fun a b => In' itN a b)
theorem In_eq (a : Span) (b : Span) : In a b = In' itN a b := by unfold In; rw [opq_eq]
def E37 : FEnv iseat := ⟨⟨17, [], [], [], [], [], [], [], [], true⟩, []⟩
theorem e37 (it : It Bool) (a : Span) (b : Span) : fnRun (ts := [.bool]) it E37 (bodyOf Tryd.f37) Tryd.f37.results.toList (encA [.Span, .Span] (a, b, ())) = In' it a b := by kernel_rfl
def sp37 : FnSpec iseat.toSeat := mkSpec iseat.toSeat 37 [.Span, .Span] [.bool] true (fun a => In a.1 a.2.1) (fun a x hx h h' => fn_contract (Z := iseat) (ats := [.Span, .Span]) (ts := [.bool]) (E := E37) (fn := Tryd.f37) (c := bodyOf Tryd.f37) Tryd.func37 (by kernel_rfl) (by kernel_rfl) (by kernel_rfl) (by kernel_rfl) rfl ((e37 itN a.1 a.2.1).trans ((In_eq a.1 a.2.1).symm.trans hx)) h h') (fun _ x => rfl)
end
end Go.Proofs.Plain04
namespace Go.Ab
open Go Go.RowKit
set_option linter.all false
def Ok {α : Type} (P : α → Prop) (x : Option α) : Prop := ∃ a, x = some a ∧ P a
section
variable {α β : Type} {P : α → Prop} {Q : β → Prop}
theorem Ok.some {a : α} (h : P a) : Ok P (some a) := ⟨a, rfl, h⟩
theorem Ok.bind {x : Option α} {f : α → Option β} (hx : Ok P x) (hf : ∀ a, P a → Ok Q (f a)) : Ok Q (x.bind f) := by
  obtain ⟨a, rfl, ha⟩ := hx
  exact hf a ha
theorem Ok.mono {P' : α → Prop} {x : Option α} (hx : Ok P x) (h : ∀ a, P a → P' a) : Ok P' x := by
  obtain ⟨a, rfl, ha⟩ := hx
  exact ⟨a, rfl, h a ha⟩
theorem Ok.chk {b : Bool} {x : Option α} (hb : b = true) (hx : Ok P x) : Ok P (chk b x) := by subst hb; exact hx
theorem Ok.ite {c : Bool} {x y : Option α} (hx : c = true → Ok P x) (hy : c = false → Ok P y) : Ok P (bif c then x else y) := by
  cases c with
  | true => exact hx rfl
  | false => exact hy rfl
theorem Ok.rounds {γ : Type} {F : γ → (γ → Option α) → Option α} {v0 : γ} (inv : γ → Prop) (μ : γ → Nat) (hμ : μ v0 < FUEL) (h0 : inv v0)
    (step : ∀ v kn, inv v → (∀ v', inv v' → μ v' < μ v → Ok P (kn v')) → Ok P (F v kn)) : Ok P (itN γ F v0) := by
  have key : ∀ n v, inv v → μ v < n → Ok P (iter F n v) := by
    intro n
    induction n with
    | zero => intro v _ h; omega
    | succ n ih =>
      intro v hv hn
      exact step v (iter F n) hv fun v' hv' hlt => ih v' hv' (by omega)
  exact key FUEL v0 h0 hμ
end
theorem w64_id {n : Int} (h1 : -9223372036854775808 ≤ n) (h2 : n ≤ 9223372036854775807) : w64 n = n := by
  unfold w64 IntKind.wrap
  simp [IntKind.bits, IntKind.signed, Int.bmod_def]
  omega
end Go.Ab
namespace Go.Proofs.Plain04
open Go Go.Ab
set_option linter.all false
theorem u64_bnd (n : Int) : 0 ≤ IntKind.u64.wrap n ∧ IntKind.u64.wrap n < 18446744073709551616 := by
  unfold IntKind.wrap
  simp [IntKind.bits, IntKind.signed]
  omega
theorem u64_id {n : Int} (h1 : 0 ≤ n) (h2 : n < 18446744073709551616) : IntKind.u64.wrap n = n := by
  unfold IntKind.wrap
  simp [IntKind.bits, IntKind.signed]
  omega
theorem next_ok (s : Seed) : Ok (fun r => 0 ≤ r.2 ∧ r.2 < 18446744073709551616) (next s) := by
  rw [next_eq]
  exact ⟨_, rfl, u64_bnd _⟩
theorem Below_ok (s : Seed) {n : Int} (hn : n ≤ 1000000000) : Ok (fun r => 0 ≤ r.2 ∧ (r.2 < n ∨ r.2 = 0)) (Below s n) := by
  rw [Below_eq]
  refine Ok.ite (fun h => Ok.some ⟨Int.le_refl _, .inr rfl⟩) fun h => ?_
  have hn2 : ¬ n < 2 := by simpa using h
  refine Ok.bind (next_ok s) fun r hr => ?_
  have hu : IntKind.u64.wrap n = n := u64_id (by omega) (by omega)
  refine Ok.chk (by rw [hu]; simp; omega) (Ok.some ?_)
  rw [hu]
  have e : shrI .u64 r.2 1 = r.2 / 2 := by
    unfold shrI
    rw [Int.fdiv_eq_ediv_of_nonneg _ (by decide)]
    simp [IntKind.bits]
  rw [e, Int.tmod_eq_emod_of_nonneg (by omega)]
  have h1 := Int.emod_nonneg (r.2 / 2) (show n ≠ 0 by omega)
  have h2 := Int.emod_lt_of_pos (r.2 / 2) (show 0 < n by omega)
  rw [w64_id (by omega) (by omega)]
  exact ⟨h1, .inl h2⟩
theorem Yes_ok (s : Seed) {n : Int} (hn : n ≤ 1000000000) : Ok (fun _ => True) (Yes s n) := by
  rw [Yes_eq]
  exact Ok.bind (Below_ok s hn) fun r _ => Ok.some trivial
theorem From_ok (s : Seed) {low high : Int} (h1 : -1000000 ≤ low) (h2 : low ≤ 1000000) (h3 : -1000000 ≤ high) (h4 : high ≤ 1000000) : Ok (fun r => low ≤ r.2 ∧ (r.2 ≤ high ∨ r.2 = low)) (From s low high) := by
  rw [From_eq]
  refine Ok.bind (Below_ok s (n := w64 (w64 (high - low) + 1)) ?_) fun r hr => Ok.some ?_
  · rw [w64_id (n := high - low) (by omega) (by omega), w64_id (by omega) (by omega)]; omega
  · rw [w64_id (n := high - low) (by omega) (by omega), w64_id (n := high - low + 1) (by omega) (by omega)] at hr
    simp only
    rw [w64_id (by omega) (by omega)]
    omega
theorem Of_ok (s : Seed) {l : List Int} (h0 : l ≠ []) (hl : l.length ≤ 1000) : Ok (fun r => r.2 ∈ l) (Of s l) := by
  rw [Of_eq]
  have hp : 0 < l.length := List.length_pos_iff.2 h0
  refine Ok.ite (fun h => ?_) fun h => Ok.bind (Below_ok s (n := (l.length : Int)) (by omega)) fun r hr => Ok.chk ?_ (Ok.some ?_)
  · simp at h; exact absurd h h0
  · simp; omega
  · simp only
    rw [List.getD_eq_getElem?_getD, List.getElem?_eq_getElem (by omega)]
    exact List.getElem_mem _
theorem fitA_ok {n b : Nat} (hn : n ≤ 1000000) (hb : b ≤ 1000000) : fitA n b = true := by
  unfold fitA
  have : n * b ≤ 1000000 * 1000000 := Nat.mul_le_mul hn hb
  simp; omega
theorem TruckOf_ok (s : Seed) {length holds : Int} (h1 : 0 ≤ length) (h2 : length ≤ 1000000) (h3 : 0 ≤ holds) (h4 : holds ≤ 100) : Ok (fun r => (r.2.Holds.length : Int) ≤ holds) (TruckOf s length holds) := by
  rw [TruckOf_eq]
  refine Ok.bind (From_ok s (by omega) (by omega) (by omega) (by omega)) fun r hr => ?_
  refine Ok.bind (Below_ok _ (by omega)) fun r2 hr2 => ?_
  refine Ok.bind (Below_ok _ (by omega)) fun r3 hr3 => ?_
  refine Ok.bind (Of_ok _ (by simp) (by simp)) fun r4 hr4 => ?_
  refine Ok.bind (From_ok _ (by omega) (by omega) (by omega) (by omega)) fun r5 hr5 => ?_
  refine Ok.bind (Below_ok _ (by omega)) fun r6 hr6 => ?_
  refine Ok.bind (Of_ok _ (by simp) (by simp)) fun r7 hr7 => ?_
  refine Ok.bind (Below_ok _ (by rw [w64_id (by omega) (by omega)]; omega)) fun r8 hr8 => ?_
  rw [w64_id (n := holds + 1) (by omega) (by omega)] at hr8
  refine Ok.rounds (fun v => 0 ≤ v.1.2.2.2.2.1 ∧ v.1.2.2.2.2.1 ≤ holds ∧ (v.2.2.1.2.2.2.2.1.length : Int) + v.1.2.2.2.2.1 ≤ holds ∧ 0 ≤ v.1.2.2.2.1 ∧ v.1.2.2.2.1 ≤ 1000000) (fun v => v.1.2.2.2.2.1.toNat) ?_ ?_ ?_
  · show r8.2.toNat < 18446744073709551616
    omega
  · simp; omega
  · rintro ⟨⟨_, _, _, at_, i, _⟩, ⟨w, _⟩, ⟨way, st, lo, hi, hs, _⟩, _⟩ kn hi' hk
    simp only at hi'
    refine Ok.ite (fun hc => Ok.ite (fun hc2 => ?_) fun _ => Ok.some (by simp only; omega)) fun _ => Ok.some (by simp only; omega)
    simp only [decide_eq_true_eq] at hc hc2
    rw [w64_id (n := length - 1) (by omega) (by omega)] at hc2
    have e1 : w64 (at_ + 1) = at_ + 1 := w64_id (by omega) (by omega)
    have e2 : w64 (length - 1) = length - 1 := w64_id (by omega) (by omega)
    refine Ok.bind (From_ok _ (low := w64 (at_ + 1)) (high := w64 (length - 1)) (by omega) (by omega) (by omega) (by omega)) fun r9 hr9 => ?_
    rw [e1, e2] at hr9
    refine Ok.bind (Below_ok _ (by omega)) fun r10 hr10 => ?_
    have hi1 : w64 (i - 1) = i - 1 := w64_id (by omega) (by omega)
    refine Ok.ite (fun _ => ?_) fun _ => ?_
    all_goals
      refine Ok.chk (fitA_ok (by simp; omega) (by omega)) (hk _ ?_ ?_)
      · simp [hi1]; omega
      · simp [hi1]; omega
theorem NewSeed_ok {nums : List Int} (hn : nums.length ≤ 9223372036854775807) : Ok (fun _ => True) (NewSeed nums) := by
  rw [NewSeed_eq]
  refine Ok.rounds (fun v => 0 ≤ v.1.2.1 ∧ v.1.2.1 ≤ nums.length) (fun v => ((nums.length : Int) - v.1.2.1).toNat) ?_ ?_ ?_
  · show ((nums.length : Int) - 0).toNat < 18446744073709551616
    omega
  · simp
  · rintro ⟨⟨_, i, _⟩, ⟨w, _⟩, _⟩ kn hi' hk
    simp only at hi'
    refine Ok.ite (fun hlt => ?_) fun _ => Ok.some trivial
    simp only [decide_eq_true_eq] at hlt
    have e : w64 (i + 1) = i + 1 := w64_id (by omega) (by omega)
    refine Ok.chk (by simp; omega) (Ok.bind (next_ok _) fun r _ => hk _ ?_ ?_)
    · simp [e]; omega
    · simp [e]; omega
end Go.Proofs.Plain04
namespace Go.Proofs.Plain04
open Go Go.Ab
set_option linter.all false
theorem ok_eq {α : Type} {x : Option α} {a : α} (h : Ok (fun b => b = a) x) : x = some a := by obtain ⟨b, h1, rfl⟩ := h; exact h1
theorem Ok.beq {α β : Type} {Q : β → Prop} {x : Option α} {a : α} {f : α → Option β} (hx : x = some a) (hf : Ok Q (f a)) : Ok Q (x.bind f) := by subst hx; exact hf
theorem bif_t {α : Type} {b : Bool} (h : b = true) (x y : α) : (bif b then x else y) = x := by subst h; rfl
theorem bif_f {α : Type} {b : Bool} (h : b = false) (x y : α) : (bif b then x else y) = y := by subst h; rfl
theorem Ok.yes {α : Type} {b : Bool} {x y : Option α} {P : α → Prop} (h : b = true) (hx : Ok P x) : Ok P (bif b then x else y) := by subst h; exact hx
theorem Ok.no {α : Type} {b : Bool} {x y : Option α} {P : α → Prop} (h : b = false) (hx : Ok P y) : Ok P (bif b then x else y) := by subst h; exact hx
theorem ib {i : Int} {n : Nat} (h1 : 0 ≤ i) (h2 : i < n) : (decide (0 ≤ i) && decide (i < (n : Int))) = true := by simp; omega
theorem getD_mem {α : Type} {l : List α} {d : α} {i : Nat} (h : i < l.length) : l.getD i d ∈ l := by
  rw [List.getD_eq_getElem?_getD, List.getElem?_eq_getElem h]
  exact List.getElem_mem h
end Go.Proofs.Plain04
