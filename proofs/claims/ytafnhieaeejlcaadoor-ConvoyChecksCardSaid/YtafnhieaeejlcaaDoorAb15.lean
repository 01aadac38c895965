/- Loops of which only what varies is written down. -/
import Derived.Test.YtafnhieaeejlcaaDoorAb14
set_option linter.all false
namespace Go.Ab
open Go Go.RowKit

def keepR (S : St) : List Nat → List (Nat × D)
  | [] => []
  | i :: l => (i, S.ρ i) :: keepR S l
def keepG (S : St) : List Nat → List (Nat × Nat)
  | [] => []
  | i :: l => (i, S.γ i) :: keepG S l
def keepO (S : St) : List Nat → List (Nat × Own)
  | [] => []
  | i :: l => (i, S.σ i) :: keepO S l
theorem keepR_ok (S : St) : ∀ l, AllE S.ρ (keepR S l)
  | [] => trivial
  | _ :: l => ⟨rfl, keepR_ok S l⟩
theorem keepG_ok (S : St) : ∀ l, AllE S.γ (keepG S l)
  | [] => trivial
  | _ :: l => ⟨rfl, keepG_ok S l⟩
theorem keepO_ok (S : St) : ∀ l, AllE S.σ (keepO S l)
  | [] => trivial
  | _ :: l => ⟨rfl, keepO_ok S l⟩
def KeepR (S S' : St) : List Nat → Prop
  | [] => True
  | i :: l => S'.ρ i = S.ρ i ∧ KeepR S S' l
def KeepP (S S' : St) : List Nat → Prop
  | [] => True
  | i :: l => (S'.γ i = S.γ i ∧ S'.σ i = S.σ i) ∧ KeepP S S' l
theorem allE_append {α : Type} {f : Nat → α} : ∀ {l l' : List (Nat × α)}, AllE f l → AllE f l' → AllE f (l ++ l')
  | [], _, _, h => h
  | _ :: _, _, h1, h => ⟨h1.1, allE_append h1.2 h⟩
theorem keepR_all {S S' : St} : ∀ {l : List Nat}, KeepR S S' l → AllE S'.ρ (keepR S l)
  | [], _ => trivial
  | _ :: _, h => ⟨h.1, keepR_all h.2⟩
theorem keepG_all {S S' : St} : ∀ {l : List Nat}, KeepP S S' l → AllE S'.γ (keepG S l)
  | [], _ => trivial
  | _ :: _, h => ⟨h.1.1, keepG_all h.2⟩
theorem keepO_all {S S' : St} : ∀ {l : List Nat}, KeepP S S' l → AllE S'.σ (keepO S l)
  | [], _ => trivial
  | _ :: _, h => ⟨h.1.2, keepO_all h.2⟩

/-- What a state of a loop has to have. -/
structure MatchK (S S' : St) (kr kp : List Nat) (rs : List (Nat × D)) (gs : List (Nat × Nat)) (os : List (Nat × Own)) : Prop where
  rs : AllE S'.ρ rs
  gs : AllE S'.γ gs
  os : AllE S'.σ os
  kr : KeepR S S' kr
  kp : KeepP S S' kp
/-- The state at a loop's head: what is written down, and what is kept of the state ahead of it. -/
def mkK (S : St) (kr kp : List Nat) (rs : List (Nat × D)) (gs : List (Nat × Nat)) (os : List (Nat × Own)) (h : Nat → Nat) : St :=
  mk (rs ++ keepR S kr) (gs ++ keepG S kp) (os ++ keepO S kp) h

theorem matchK_match {S S' : St} {kr kp : List Nat} {rs : List (Nat × D)} {gs : List (Nat × Nat)} {os : List (Nat × Own)} (h : MatchK S S' kr kp rs gs os) :
    Match S' (rs ++ keepR S kr) (gs ++ keepG S kp) (os ++ keepO S kp) :=
  ⟨allE_append h.rs (keepR_all h.kr), allE_append h.gs (keepG_all h.kp), allE_append h.os (keepO_all h.kp)⟩

theorem consI {k : IntKind} {a b : Int} {l m : List D} (h : a = b) (h2 : l = m) : D.int k a :: l = D.int k b :: m := by rw [h, h2]
theorem consB {a b : Bool} {l m : List D} (h : a = b) (h2 : l = m) : D.bool a :: l = D.bool b :: m := by rw [h, h2]
theorem consS {d : D} {l m : List D} (h : l = m) : d :: l = d :: m := by rw [h]
theorem toBool {x : D} {a b : Bool} (h : x = .bool a) (e : a = b) : x = .bool b := by rw [h, e]
theorem toAgg {x : D} {a b : List D} (h : x = .agg a) (e : a = b) : x = .agg b := by rw [h, e]
section
variable {X : Ctx} {Q : Exit → St → Prop} {S : St}
theorem W_loopK {c : Code} {α : Type} (kr kp : List Nat) (rs : α → List (Nat × D)) (gs : α → List (Nat × Nat)) (os : α → List (Nat × Own)) (inv : α → Prop) (μ : α → Nat) (x0 : α) (h0 : inv x0) (hs : AllE S.ρ (rs x0) ∧ AllE S.γ (gs x0) ∧ AllE S.σ (os x0))
    (round : ∀ x h, inv x → W X c (thenQ (fun S' => ∃ x', inv x' ∧ μ x' < μ x ∧ MatchK S S' kr kp (rs x') (gs x') (os x')) Q) (mkK S kr kp (rs x) (gs x) (os x) h)) : W X (.loop c) Q S := by
  refine W_loopM (fun x => rs x ++ keepR S kr) (fun x => gs x ++ keepG S kp) (fun x => os x ++ keepO S kp) inv μ x0 h0 ⟨allE_append hs.1 (keepR_ok S kr), allE_append hs.2.1 (keepG_ok S kp), allE_append hs.2.2 (keepO_ok S kp)⟩ (fun x h hi => ?_)
  refine W_mono (round x h hi) (fun e S' hq => ?_)
  cases e with
  | normal =>
    obtain ⟨x', h1, h2, h3⟩ := hq
    exact ⟨x', h1, h2, matchK_match h3⟩
  | _ => exact hq
end
end Go.Ab
