/- Walks by computing: what each function of the program that the laws reach gives for what it gets, as plain Lean, and that it is so; without a condition but those that stand in each theorem. -/
import Derived.Test.YtmoiedlfimodeaaGreatDoorW1
import Derived.Test.YtmoiedlfimodeaaGreatDoorW2
import Derived.Test.YtmoiedlfimodeaaGreatDoorW3
import Derived.Test.YtmoiedlfimodeaaGreatDoorW4
import Derived.Test.YtmoiedlfimodeaaGreatDoorW5
import Derived.Test.YtmoiedlfimodeaaGreatDoorW6
import Derived.Test.YtmoiedlfimodeaaGreatDoorW7
import Derived.Test.YtmoiedlfimodeaaGreatDoorW8
import Derived.Test.YtmoiedlfimodeaaGreatDoorW9
import Derived.Test.YtmoiedlfimodeaaGreatDoorW10
set_option linter.all false
namespace Go.Proofs.Tt05
open Go Go.Ab
set_option linter.all false
set_option maxRecDepth 100000
def word (n : Int) : ByteArray := mk (digs n)
theorem mk_size (l : List UInt8) : (mk l).size = l.length := by show l.toArray.size = _; simp
theorem from_lt : ∀ (l : List UInt8) (acc n : Nat), Lib.decFrom acc l = some n → n < (acc + 1) * 10 ^ l.length
 | [], acc, n, h => by
  simp only [Lib.decFrom, Option.some.injEq] at h
  subst h; simp
 | b :: l, acc, n, h => by
  simp only [Lib.decFrom] at h
  split at h
  ·rename_i d hd
   have h1 := from_lt l _ n h
   have h9 : d ≤ 9 := by
    unfold Lib.digitVal at hd
    split at hd
    ·cases hd; omega
    ·cases hd
   rw [List.length_cons, Nat.pow_succ]
   refine Nat.lt_of_lt_of_le h1 ?_
   rw [Nat.mul_comm (10 ^ l.length) 10, ← Nat.mul_assoc]
   exact Nat.mul_le_mul_right _ (by omega)
  ·cases h
theorem decNat_lt {l : List UInt8} {m : Nat} (h : Lib.decNat l = some m) (hl : l.length ≤ 9) : m ≤ 999999999 := by
 unfold Lib.decNat at h
 split at h
 ·cases h
 ·have h1 := from_lt l 0 m h
  have h2 : 10 ^ l.length ≤ 10 ^ 9 := Nat.pow_le_pow_right (by decide) hl
  have h3 : (10 : Nat) ^ 9 = 1000000000 := by decide
  omega
theorem atoi_le {l : List UInt8} {n : Int} (h : Lib.atoi l = some n) (hl : l.length ≤ 9) : n ≤ 999999999 := by
 cases l with
 | nil => cases h
 | cons b r =>
  rw [List.length_cons] at hl
  simp only [Lib.atoi] at h
  split at h
  ·obtain ⟨m, h1, h2⟩ := Option.map_eq_some_iff.1 h
   omega
  ·split at h
   ·obtain ⟨m, h1, h2⟩ := Option.map_eq_some_iff.1 h
    have := decNat_lt h1 (by omega)
    omega
   ·obtain ⟨m, h1, h2⟩ := Option.map_eq_some_iff.1 h
    have := decNat_lt h1 (by rw [List.length_cons]; omega)
    omega
theorem atoiV_le {w : ByteArray} {n : Int} (h : Tx.atoiV w = (n, true)) (hl : w.size ≤ 9) : n ≤ 999999999 := by
 have hl2 : (bl w).length ≤ 9 := by
  have : (bl w).length = w.size := by show w.data.toList.length = w.data.size; simp
  omega
 unfold Tx.atoiV at h
 have h3 := Lib.atoiAll_short (bl w) (by omega)
 rw [show Lib.atoiAll w.data.toList = _ from h3] at h
 cases ha : Lib.atoi (bl w) with
 | none =>
  rw [ha] at h
  cases h
 | some v =>
  rw [ha] at h
  cases h
  exact atoi_le ha hl2
def isNum (w : ByteArray) : Prop := ∃ n, NumOk n ∧ w = word n
theorem word_inj {m n : Int} (hm : NumOk m) (hn : NumOk n) (h : word m = word n) : m = n := by
 have h1 := atoi_digs hm.1 hm.2
 have h2 := atoi_digs hn.1 hn.2
 rw [show mk (digs m) = mk (digs n) from h, h2] at h1
 injection h1 with h1
 exact h1.symm
theorem map_take_snoc {ws : List ByteArray} {j : Nat} (h : j < ws.length) : ws.take (j + 1) = ws.take j ++ [ws.getD j ⟨#[]⟩] := take_snoc h
theorem numbers_ok {ws : List ByteArray} {m : Int} (hl : ws.length ≤ 1000000) (hs : ∀ w ∈ ws, w.size ≤ 1000000) : Ok (fun r => (r.2 = true ∧ ws = r.1.map word ∧ (r.1.length : Int) = m ∧ ∀ n ∈ r.1, NumOk n) ∨ (r = ([], false) ∧ ((ws.length : Int) ≠ m ∨ ∃ w ∈ ws, ¬ isNum w))) (numbers ws m) := by
 rw [numbers_eq]
 unfold numbers'
 refine Ok.ite (fun q => Ok.some (.inr ⟨rfl, .inl (by simpa using q)⟩)) (fun q => ?_)
 have hm : (ws.length : Int) = m := by simpa using q
 refine Ok.rounds (inv := fun v => ∃ j : Nat, j ≤ ws.length ∧ v.1.2.1 = (j : Int) ∧ v.1.1.length = j ∧ ws.take j = v.1.1.map word ∧ ∀ n ∈ v.1.1, NumOk n) (μ := fun v => ws.length - v.1.2.1.toNat) (by show ws.length - 0 < FUEL; unfold FUEL; omega) ⟨0, Nat.zero_le _, rfl, rfl, rfl, fun n h => by cases h⟩ ?_
 rintro ⟨⟨out, x, u⟩, u2⟩ kn ⟨j, hj, e1, e2, e3, e4⟩ hk
 simp only at e1 e2 e3 e4 ⊢
 subst e1
 unfold numbers_L5
 rw [show ((j : Int)).toNat = j by omega]
 refine Ok.ite (fun hlt => ?_) (fun hge => ?_)
 ·have hlt : j < ws.length := by have := of_decide_eq_true hlt; omega
  refine Ok.chk (idx_ok hlt) ?_
  have hmem := getD_mem' (d := (⟨#[]⟩ : ByteArray)) hlt
  generalize hw : ws.getD j (⟨#[]⟩ : ByteArray) = w at hmem
  have hsz := hs w hmem
  have no : (¬ isNum w) → (False ∨ ((false = false) ∧ ((ws.length : Int) ≠ m ∨ ∃ w ∈ ws, ¬ isNum w))) := fun h => .inr ⟨rfl, .inr ⟨w, hmem, h⟩⟩
  have bad : (¬ isNum w) → Ok (fun r : List Int × Bool => (r.2 = true ∧ ws = r.1.map word ∧ (r.1.length : Int) = m ∧ ∀ n ∈ r.1, NumOk n) ∨ (r = ([], false) ∧ ((ws.length : Int) ≠ m ∨ ∃ w ∈ ws, ¬ isNum w))) (some (([] : List Int), false)) := fun h => Ok.some (.inr ⟨rfl, .inr ⟨w, hmem, h⟩⟩)
  refine Ok.bind (P := fun r => r = Tx.atoiV w) ⟨_, by unfold Tx.atoiP; rw [show Tx.okA w = true from decide_eq_true (by omega)]; rfl, rfl⟩ fun r hr => ?_
  have key : isNum w → ∃ n, NumOk n ∧ w = word n ∧ r = (n, true) := fun ⟨n, h1, h2⟩ => ⟨n, h1, h2, by rw [hr, h2]; exact atoi_digs h1.1 h1.2⟩
  refine Ok.ite (fun q1 => bad fun hn => ?_) (fun q1 => ?_)
  ·obtain ⟨n, _, _, h⟩ := key hn
   rw [h] at q1; cases q1
  have q1 : r.2 = true := by simpa using q1
  refine Ok.ite (fun q2 => bad fun hn => ?_) (fun q2 => ?_)
  ·obtain ⟨n, h1, _, h⟩ := key hn
   rw [h] at q2
   have := of_decide_eq_true q2
   have := h1.1
   omega
  have q2 : 0 ≤ r.1 := by have := of_decide_eq_false q2; omega
  refine Ok.ite (fun q3 => bad fun hn => ?_) (fun q3 => ?_)
  ·obtain ⟨n, h1, h2, h⟩ := key hn
   have h3 := of_decide_eq_true q3
   have h4 := digs_len h1.1 h1.2
   rw [h2, word, mk_size] at h3
   omega
  have q3 : w.size ≤ 9 := by have := of_decide_eq_false q3; omega
  have hno : NumOk r.1 := ⟨q2, atoiV_le (w := w) (by rw [← hr, ← q1]) q3⟩
  refine Ok.bind (P := fun r2 => r2 = word r.1) ⟨_, by unfold Tx.itoaP; rw [okI_of hno]; rfl, rfl⟩ fun r2 hr2 => ?_
  subst hr2
  refine Ok.ite (fun q4 => bad fun hn => ?_) (fun q4 => ?_)
  ·obtain ⟨n, h1, h2, h⟩ := key hn
   rw [h, ← h2] at q4
   simp at q4
  have q4 : word r.1 = w := eq_iff.1 (by simpa using q4)
  refine Ok.chk (by unfold fitA; simp; omega) ?_
  refine hk _ ⟨j + 1, hlt, ?_, ?_, ?_, ?_⟩ ?_
  ·show w64 ((j : Int) + 1) = _
   rw [w64_id (by omega) (by omega)]; push_cast; rfl
  ·show (out ++ [r.1]).length = _
   rw [List.length_append, e2]; rfl
  ·show _ = (out ++ [r.1]).map word
   rw [map_take_snoc hlt, hw, e3, List.map_append, List.map_singleton, q4]
  ·intro n hn
   rcases List.mem_append.1 hn with h | h
   ·exact e4 n h
   ·rw [List.mem_singleton.1 h]; exact hno
  ·show ws.length - (w64 ((j : Int) + 1)).toNat < ws.length - ((j : Int)).toNat
   rw [w64_id (by omega) (by omega)]; omega
 ·have hjn : j = ws.length := by have := of_decide_eq_false hge; omega
  refine Ok.some (.inl ⟨rfl, ?_, ?_, e4⟩)
  ·rw [← e3, hjn, List.take_length]
  ·show (out.length : Int) = m
   omega
theorem numbers_true {ws : List ByteArray} {m : Int} {ns : List Int} (hl : ws.length ≤ 1000000) (hs : ∀ w ∈ ws, w.size ≤ 1000000) (h : numbers ws m = some (ns, true)) : ws = ns.map word ∧ (ns.length : Int) = m ∧ ∀ n ∈ ns, NumOk n := by
 obtain ⟨r, h1, h2⟩ := numbers_ok (m := m) hl hs
 rw [h] at h1
 cases h1
 rcases h2 with ⟨_, b⟩ | ⟨a, _⟩
 ·exact b
 ·cases a
end Go.Proofs.Tt05
namespace Go.Ab
open Go Go.RowKit
set_option linter.all false
abbrev FB : Nat := 50000000
noncomputable def mkF (rs : List (Nat × D)) (os : List (Nat × Own)) (h : Nat → Nat) (bg : Nat → Own) : St := ⟨look .undef rs, h, fun s => bif Nat.ble FB s then bg s else look .none os s⟩
section
variable {X : Ctx} {Q : Exit → St → Prop} {S : St}
def MatchF (S : St) (rs : List (Nat × D)) (os : List (Nat × Own)) (bg : Nat → Own) : Prop := AllE S.ρ rs ∧ AllE S.σ os ∧ ∀ s, FB ≤ s → bg s = .none ∨ bg s = S.σ s
theorem wk_mkF {rs : List (Nat × D)} {os : List (Nat × Own)} {bg : Nat → Own} (h : MatchF S rs os bg) : Wk X S (mkF rs os S.γ bg) :=
 wk_gen (look_ok h.1) (fun _ => Nat.le_refl _) (fun s => by
  show (bif Nat.ble FB s then bg s else look .none os s) = .none ∨ (bif Nat.ble FB s then bg s else look .none os s) = S.σ s
  cases hb : Nat.ble FB s with
  | true => exact h.2.2 s (Nat.le_of_ble_eq_true hb)
  | false => exact look_ok h.2.1 s)
theorem W_loopF {c : Code} {α : Type} (rs : α → (Nat → Nat) → List (Nat × D)) (os : α → (Nat → Nat) → List (Nat × Own)) (bg : α → (Nat → Nat) → Nat → Own) (inv : α → Prop) (μ : α → Nat) (x0 : α) (h0 : inv x0) (hs : MatchF S (rs x0 S.γ) (os x0 S.γ) (bg x0 S.γ))
  (round : ∀ x h, inv x → W X c (thenQ (fun S' => ∃ x' S'', inv x' ∧ μ x' < μ x ∧ Wk X S' S'' ∧ MatchF S'' (rs x' S''.γ) (os x' S''.γ) (bg x' S''.γ)) Q) (mkF (rs x h) (os x h) h (bg x h))) : W X (.loop c) Q S := by
 refine W_loop (α := α × (Nat → Nat)) (fun x => mkF (rs x.1 x.2) (os x.1 x.2) x.2 (bg x.1 x.2)) (fun x => inv x.1) (fun x => μ x.1) (x0, S.γ) h0 (wk_mkF hs) (fun x hi => ?_)
 refine W_mono (round x.1 x.2 hi) (fun e S' hq => ?_)
 cases e with
 | normal =>
  obtain ⟨x', S'', h1, h2, h3, h4⟩ := hq
  exact ⟨(x', S''.γ), h1, h2, h3.trans (wk_mkF h4)⟩
 | _ => exact hq
end
def canF (i : Nat) : Nat × Nat := (i, 1)
def OwA.ownF (q : OwA) (f : Nat → Nat × Nat) : Own := .arr q.E q.z q.n (fun j => renLM f (q.el j))
structure OwnsF (base : Nat) (κ : Nat → Nat → Option Value) (sl : Nat → Value) (w : World) (k : Nat) (os : Nat → OwA) : Prop where
 own : ∀ i, i < k → Owns base κ (fun _ => 1) sl w i ((os i).ownF canF)
 sep : ∀ i, i < k → ∀ b, blk (os i).own (sl i) = some b → ∀ o, κ b o = none
 inj : ∀ i j b, i < k → j < k → blk (os i).own (sl i) = some b → blk (os j).own (sl j) = some b → i = j
structure ContractOF (Z : Seat) (f : FuncId) (A : List D) (R : D) (k : Nat) (os : Nat → OwA) : Prop where
 pureA : PureL A
 poR : POk k R
 poE : ∀ j, j < k → ∀ i, i < (os j).n → POkL k ((os j).el i)
 body : HasBody Z.P f
 calls : ∀ (w : World) (κ : Nat → Nat → Option Value) (args : List Value), Fits κ w → GlobOk Z κ w → RepL κ γ0 sv0 A args →
  Calls Z.P f args.toArray w fun e w' => ∃ v sl κ', e = .returned v ∧ Rep κ' (fun _ => 1) sl (renM canF R) v ∧ (∀ b o u, κ b o = some u → κ' b o = some u) ∧ (∀ b o u, b < w.heap.size → κ' b o = some u → κ b o = some u) ∧
   (∀ b o u, κ' b o = some u → w'.cell? ⟨b, o, none⟩ = some u) ∧ OwnsF w.heap.size κ' sl w' k os ∧ Below w.heap.size w w'
section
variable {X : Ctx} {Q : Exit → St → Prop} {S : St} {ops : Array Oper} {o : Oper} {rest : List Oper}
end
end Go.Ab
namespace Go.Ab
open Go Go.RowKit
set_option linter.all false
section
variable {X : Ctx} {S : St}
theorem wk_new (s E z : Nat) (f : Nat → List D) : Wk X S ⟨S.ρ, upd S.γ s (S.γ s + 1), upd S.σ s (.arr E z 0 f)⟩ := fun κ sv a w hs => by
 have hle := le_renew κ S.γ sv s (.slice none 0 0)
 have hW := hs.wld.renew s (.arr E z 0 f) (.slice none 0 0) (below_grown (Below.refl _ _) _) (fun b hb => by cases hb)
   ⟨[], by rw [upd_same]; exact ownsAt_nil _ _ _ _, fun _ h => by omega, fun _ h => by omega, fun _ h => by omega⟩ S.ρ
 exact ⟨κ, upd sv s (.slice none 0 0), ⟨hs.size, hs.defers, fun i hi => (hs.slot i hi).mono hle, hW⟩⟩
theorem wk_nil_elem (t i j s : Nat) (E z : Nat) (f : Nat → List D) {E2 z2 n2 : Nat} {f2 f2' : Nat → List D} {l' : List D} (hσt : S.σ t = .arr E2 z2 n2 f2) (hne : t ≠ s) (hi : i < n2) (hl : nth (f2 i) j = some .nil) (hl' : overN (f2 i) j [.os s (S.γ s + 1)] = some l')
  (hf : ∀ k, k < n2 → f2' k = if k = i then l' else f2 k) :
  Wk X S ⟨S.ρ, upd S.γ s (S.γ s + 1), upd (upd S.σ s (.arr E z 0 f)) t (.arr E2 z2 n2 f2')⟩ := fun κ sv a w hs => by
 obtain ⟨hl'e, hlen⟩ := overN_eq hl'
 have hle := le_renew κ S.γ sv s (.slice none 0 0)
 have hW := hs.wld.renew s (.arr E z 0 f) (.slice none 0 0) (below_grown (Below.refl _ _) _) (fun b hb => by cases hb)
   ⟨[], by rw [upd_same]; exact ownsAt_nil _ _ _ _, fun _ h => by omega, fun _ h => by omega, fun _ h => by omega⟩ S.ρ
 refine ⟨κ, upd sv s (.slice none 0 0), ⟨hs.size, hs.defers, fun i hi => (hs.slot i hi).mono hle, ?_⟩⟩
 have hown := hW.own t
 simp only [upd_ne _ _ _ _ hne, hσt] at hown
 obtain ⟨xs, e1, e2, e3, e4⟩ := hown
 refine hW.rewrite t (.arr E2 z2 n2 f2') (below_grown (Below.refl _ _) _) (by
   simp only [upd_ne _ _ _ _ hne, hσt]
   cases sv t with
   | pointer a => cases a <;> rfl
   | slice a => cases a <;> rfl
   | map a => cases a <;> rfl
   | _ => rfl) ⟨xs, e1, fun k hk => ?_, fun k hk => ?_, fun k hk => ?_⟩ _
 ·rw [hf k hk]
  split
  ·rename_i h; subst h; rw [hl'e]; have := e2 k hk; simp at hlen ⊢; omega
  ·exact e2 k hk
 ·rw [hf k hk]
  split
  ·rename_i h; subst h; rw [hl'e]; exact allCell_append (allCell_append (allCell_take (e3 k hk) _) rfl) (allCell_drop (e3 k hk) _)
  ·exact e3 k hk
 ·rw [hf k hk]
  split
  ·rename_i h
   subst h
   rw [hl'e]
   have e3' := e4 k hk
   rw [nth_eq] at hl
   obtain ⟨vj, hvj, hrj⟩ := e3'.get hl
   generalize (xs.drop (k * z2)).take z2 = cs at e3' hvj
   have hjl : j < cs.length := (List.getElem?_eq_some_iff.1 hvj).1
   have hcs : cs = cs.take j ++ [vj] ++ cs.drop (j + 1) := by
    have h3 : cs[j] = vj := by simpa [List.getElem?_eq_getElem hjl] using hvj
    rw [← h3, List.append_assoc, List.singleton_append, List.getElem_cons_drop, List.take_append_drop]
   rw [hcs]
   refine ((e3'.take j).append (.cons _ _ _ _ ?_ .nil)).append (e3'.drop _)
   cases hrj
   exact .os _ _ _ (by rw [upd_same]; exact Nat.le_refl _) (fun _ => by rw [upd_same]) rfl
  ·exact e4 k hk
end
end Go.Ab
