/- Walks by computing: what each function of the program that the laws reach gives for what it gets, as plain Lean, and that it is so; without a condition but those that stand in each theorem. -/
import Derived.Test.YtmoiedlfimodeaaGreatDoorW1
import Derived.Test.YtmoiedlfimodeaaGreatDoorW2
import Derived.Test.YtmoiedlfimodeaaGreatDoorW3
import Derived.Test.YtmoiedlfimodeaaGreatDoorW4
import Derived.Test.YtmoiedlfimodeaaGreatDoorW5
import Derived.Test.YtmoiedlfimodeaaGreatDoorW6
import Derived.Test.YtmoiedlfimodeaaGreatDoorW7
import Derived.Test.YtmoiedlfimodeaaGreatDoorW8
import Derived.Test.YtmoiedlfimodeaaGreatDoorW9
import Derived.Test.YtmoiedlfimodeaaGreatDoorW10
import Derived.Test.YtmoiedlfimodeaaGreatDoorW11
import Derived.Test.YtmoiedlfimodeaaGreatDoorW12
set_option linter.all false
namespace Go.Proofs.Tt05
open Go Go.Ab
set_option linter.all false
set_option maxRecDepth 100000
def valF (n : Nat) (b : UInt8) : Nat := 10 * n + (b.toNat - 48)
def valL (l : List UInt8) : Nat := l.foldl valF 0
theorem valL_snoc (l : List UInt8) (b : UInt8) : valL (l ++ [b]) = 10 * valL l + (b.toNat - 48) := by
 unfold valL
 rw [List.foldl_append]; rfl
theorem val_ge : ∀ (l : List UInt8) (n : Nat), 1 ≤ n → 1 ≤ l.foldl valF n
 | [], n, h => h
 | b :: l, n, h => val_ge l (valF n b) (by unfold valF; omega)
theorem val_lt : ∀ (k : Nat) (l : List UInt8), l.length = k → (∀ b ∈ l, 48 ≤ b.toNat ∧ b.toNat ≤ 57) → valL l < 10 ^ k
 | 0, l, h, _ => by
  rw [List.length_eq_zero_iff.1 h]; decide
 | k + 1, l, h, hd => by
  have hne : l ≠ [] := fun e => by rw [e] at h; cases h
  obtain ⟨a, b, rfl⟩ : ∃ a b, l = a ++ [b] := ⟨l.dropLast, l.getLast hne, (List.dropLast_concat_getLast hne).symm⟩
  have h1 : a.length = k := by rw [List.length_append] at h; exact Nat.succ.inj h
  have h2 := val_lt k a h1 fun x hx => hd x (List.mem_append_left _ hx)
  have h3 := hd b (by simp)
  rw [valL_snoc, Nat.pow_succ]
  omega
def isDig (b : UInt8) : Prop := 48 ≤ b.toNat ∧ b.toNat ≤ 57
theorem dec_val : ∀ (k f : Nat) (l : List UInt8), l.length = k → 0 < k → k ≤ f → (∀ b ∈ l, isDig b) → (k = 1 ∨ ∃ x r, l = x :: r ∧ x.toNat ≠ 48) → Tx.decF f (valL l) = l
 | 0, _, _, _, h, _, _, _ => absurd h (by decide)
 | k + 1, 0, _, _, _, h, _, _ => absurd h (by omega)
 | k + 1, f + 1, l, hl, _, hf, hd, hz => by
  have hne : l ≠ [] := fun e => by rw [e] at hl; cases hl
  obtain ⟨a, b, rfl⟩ : ∃ a b, l = a ++ [b] := ⟨l.dropLast, l.getLast hne, (List.dropLast_concat_getLast hne).symm⟩
  have h1 : a.length = k := by rw [List.length_append] at hl; exact Nat.succ.inj hl
  have h3 : isDig b := hd b (by simp)
  obtain ⟨h31, h32⟩ := h3
  have hb : UInt8.ofNat (48 + (b.toNat - 48)) = b := by
   rw [show 48 + (b.toNat - 48) = b.toNat by omega]; exact UInt8.ofNat_toNat
  rw [valL_snoc]
  unfold Tx.decF
  by_cases hk : k = 0
  ·have ha : a = [] := List.length_eq_zero_iff.1 (by omega)
   subst ha
   have hu : 10 * valL [] + (b.toNat - 48) = b.toNat - 48 := by show 10 * 0 + _ = _; omega
   rw [hu, show Nat.blt (b.toNat - 48) 10 = true by rw [Nat.blt_eq]; omega]
   show [UInt8.ofNat (48 + (b.toNat - 48))] = [b]
   rw [hb]
  ·have hza : ∃ x r, a = x :: r ∧ x.toNat ≠ 48 := by
    rcases hz with hz | ⟨x, r, e, hx⟩
    ·omega
    ·cases a with
     | nil => exact absurd h1.symm hk
     | cons y a =>
      rw [List.cons_append] at e
      injection e with e1 e2
      exact ⟨y, a, rfl, by rw [e1]; exact hx⟩
   have hda : ∀ b ∈ a, isDig b := fun x hx => hd x (List.mem_append_left _ hx)
   have hv : 1 ≤ valL a := by
    obtain ⟨x, r, rfl, hx⟩ := hza
    have := (hda x (by simp)).1
    exact val_ge r (valF 0 x) (by unfold valF; omega)
   have ih := dec_val k f a h1 (by omega) (by omega) hda (.inr hza)
   rw [show Nat.blt (10 * valL a + (b.toNat - 48)) 10 = false by
    cases hq : Nat.blt (10 * valL a + (b.toNat - 48)) 10 with
    | false => rfl
    | true => rw [Nat.blt_eq] at hq; omega]
   show Tx.decF f ((10 * valL a + (b.toNat - 48)) / 10) ++ [UInt8.ofNat (48 + (10 * valL a + (b.toNat - 48)) % 10)] = a ++ [b]
   rw [show (10 * valL a + (b.toNat - 48)) / 10 = valL a by omega, show (10 * valL a + (b.toNat - 48)) % 10 = b.toNat - 48 by omega, ih, hb]
theorem dec_head : ∀ (f u : Nat), 0 < f → 1 ≤ u → u < 10 ^ f → ∃ x r, Tx.decF f u = x :: r ∧ x.toNat ≠ 48
 | f + 1, u, _, h, hu => by
  unfold Tx.decF
  cases hb : Nat.blt u 10 with
  | true =>
   have hu10 : u < 10 := by rwa [Nat.blt_eq] at hb
   exact ⟨_, [], rfl, by rw [digit_toNat hu10]; omega⟩
  | false =>
   have hu10 : ¬ u < 10 := fun q => by rw [show Nat.blt u 10 = true by rwa [Nat.blt_eq]] at hb; cases hb
   have hf : 0 < f := by
    rcases Nat.eq_zero_or_pos f with rfl | h0
    ·simp at hu; omega
    ·exact h0
   obtain ⟨x, r, e, hx⟩ := dec_head f (u / 10) hf (by omega) (by rw [Nat.pow_succ] at hu; omega)
   exact ⟨x, r ++ [UInt8.ofNat (48 + u % 10)], by show Tx.decF f (u / 10) ++ _ = _; rw [e]; rfl, hx⟩
theorem digs_head {n : Int} (h : NumOk n) : (digs n).length = 1 ∨ ∃ x r, digs n = x :: r ∧ x.toNat ≠ 48 := by
 obtain ⟨h1, h2⟩ := h
 have e : digs n = Tx.decF 20 n.toNat := by unfold digs Tx.itoaL; rw [decide_eq_false (by omega)]; rfl
 rw [e]
 by_cases h0 : n.toNat = 0
 ·left; rw [h0]; rfl
 ·right
  have h20 : (10 : Nat) ^ 20 = 100000000000000000000 := by decide
  exact dec_head 20 n.toNat (by decide) (by omega) (by rw [h20]; omega)
theorem isNum_iff {l : List UInt8} (h1 : 1 ≤ l.length) (h9 : l.length ≤ 9) (hd : ∀ b ∈ l, isDig b) (hz : l.length = 1 ∨ ∃ x r, l = x :: r ∧ x.toNat ≠ 48) : NumOk (valL l : Int) ∧ mk l = word (valL l : Int) := by
 have hlt := val_lt l.length l rfl hd
 have h2 : 10 ^ l.length ≤ 10 ^ 9 := Nat.pow_le_pow_right (by decide) h9
 have h3 : (10 : Nat) ^ 9 = 1000000000 := by decide
 refine ⟨⟨by omega, by omega⟩, ?_⟩
 unfold word digs Tx.itoaL
 rw [decide_eq_false (by omega)]
 show mk l = mk (Tx.decF 20 ((valL l : Int)).toNat)
 rw [Int.toNat_natCast, dec_val l.length 20 l rfl (by omega) (by omega) hd hz]
theorem byteAt_at {R : Type} {s : ByteArray} {i : Nat} {k : Int → Option R} (h : i < (bl s).length) : byteAt s i k = k ((bl s)[i].toNat : Int) := by
 have hs : i < s.size := by rw [← bl_len]; exact h
 have e : s[i]? = some ((bl s)[i]) := by
  rw [getElem?_pos s i hs]
  congr 1
 unfold byteAt
 rw [e]; rfl
theorem u8_sub {b : UInt8} (h : isDig b) : IntKind.u8.wrap ((b.toNat : Int) - 48) = ((b.toNat - 48 : Nat) : Int) := by
 obtain ⟨h1, h2⟩ := h
 unfold IntKind.wrap
 simp [IntKind.bits, IntKind.signed]
 omega
theorem number_loop {s : ByteArray} {P : Int × Bool → Prop} (h9 : (bl s).length ≤ 9) (hbad : (∃ b ∈ bl s, ¬ isDig b) → P (0, false)) (hok : (∀ b ∈ bl s, isDig b) → P ((valL (bl s) : Int), true)) :
  Ok P (itN _ (fun (v_0 : (Int × Int × Unit) × (Unit)) kn => number04_L5 s v_0.1.1 v_0.1.2.1 (fun y0 y1 => kn ((y0, y1, ()), (())))) ((0, 0, ()), (()))) := by
 refine Ok.rounds (inv := fun v => ∃ j : Nat, j ≤ (bl s).length ∧ v.1.2.1 = (j : Int) ∧ v.1.1 = (valL ((bl s).take j) : Int) ∧ ∀ b ∈ (bl s).take j, isDig b) (μ := fun v => (bl s).length - v.1.2.1.toNat) (by show (bl s).length - 0 < FUEL; unfold FUEL; omega) ⟨0, Nat.zero_le _, rfl, rfl, fun b hb => by cases hb⟩ ?_
 rintro ⟨⟨n, x, u⟩, u2⟩ kn ⟨j, hj, e1, e2, e3⟩ hk
 simp only at e1 e2 ⊢
 subst e1 e2
 unfold number04_L5
 rw [show ((j : Int)).toNat = j by omega]
 have hsz := bl_len s
 refine Ok.ite (fun hlt => ?_) (fun hge => Ok.some ?_)
 ·have hlt : j < (bl s).length := by have := of_decide_eq_true hlt; omega
  have c0 : decide (0 ≤ (j : Int)) = true := decide_eq_true (by omega)
  have hmem : (bl s)[j] ∈ bl s := List.getElem_mem _
  refine Ok.chk c0 ?_
  rw [byteAt_at hlt]
  refine Ok.ite (fun q => Ok.some (hbad ⟨_, hmem, fun h => ?_⟩)) fun q1 => ?_
  ·have := of_decide_eq_true q; have := h.1; omega
  refine Ok.chk c0 ?_
  rw [byteAt_at hlt]
  refine Ok.ite (fun q => Ok.some (hbad ⟨_, hmem, fun h => ?_⟩)) fun q2 => ?_
  ·have := of_decide_eq_true q; have := h.2; omega
  have hd : isDig (bl s)[j] := by
   have := of_decide_eq_false q1; have := of_decide_eq_false q2
   exact ⟨by omega, by omega⟩
  refine Ok.chk c0 ?_
  rw [byteAt_at hlt, u8_sub hd]
  have hv := val_lt j ((bl s).take j) (by rw [List.length_take]; omega) e3
  have h2 : 10 ^ j ≤ 10 ^ 9 := Nat.pow_le_pow_right (by decide) (by omega)
  have h3 : (10 : Nat) ^ 9 = 1000000000 := by decide
  have hd2 := hd.2
  have ew : w64 (w64 (10 * (valL ((bl s).take j) : Int)) + w64 (((bl s)[j].toNat - 48 : Nat) : Int)) = (valL ((bl s).take (j + 1)) : Int) := by
   rw [w64_id (n := 10 * (valL ((bl s).take j) : Int)) (by omega) (by omega), w64_id (n := (((bl s)[j].toNat - 48 : Nat) : Int)) (by omega) (by omega), w64_id (by omega) (by omega)]
   rw [List.take_succ, List.getElem?_eq_getElem hlt]
   show _ = ((valL ((bl s).take j ++ [(bl s)[j]]) : Nat) : Int)
   rw [valL_snoc]; push_cast; rfl
  have ej : w64 ((j : Int) + 1) = ((j + 1 : Nat) : Int) := by rw [w64_id (by omega) (by omega)]; push_cast; rfl
  refine hk _ ⟨j + 1, hlt, ej, ew, fun b hb => ?_⟩ ?_
  ·rw [List.take_succ, List.getElem?_eq_getElem hlt] at hb
   rcases List.mem_append.1 hb with hb | hb
   ·exact e3 b hb
   ·rw [show b = (bl s)[j] by simpa using hb]; exact hd
  ·show (bl s).length - (w64 ((j : Int) + 1)).toNat < (bl s).length - ((j : Int)).toNat
   rw [ej]; omega
 ·have hjn : j = (bl s).length := by have := of_decide_eq_false hge; omega
  subst hjn
  rw [List.take_length] at e3 ⊢
  exact hok e3
theorem num_L5_2 : @number04_L5__2 = @number04_L5 := rfl
theorem number04_ok (s : ByteArray) : Ok (fun r => (r.2 = true ∧ NumOk r.1 ∧ s = word r.1) ∨ (r = (0, false) ∧ ¬ isNum s)) (number04 s) := by
 rw [number04_eq]
 unfold number04'
 have hsz := bl_len s
 have no : ∀ {p : Prop}, (isNum s → False) → (p ∨ (((0 : Int), false) = (0, false) ∧ ¬ isNum s)) := fun h => .inr ⟨rfl, h⟩
 have blw : ∀ {n : Int}, s = word n → bl s = digs n := fun h => by rw [h]; exact bl_mk _
 refine Ok.ite (fun q => Ok.some (no fun ⟨n, hn, e⟩ => ?_)) fun q1 => ?_
 ·have := of_decide_eq_true q
  have h0 : (bl s).length = 0 := by omega
  rw [blw e] at h0
  have : digs n = Tx.decF 20 n.toNat := by unfold digs Tx.itoaL; rw [decide_eq_false (by have := hn.1; omega)]; rfl
  rw [this] at h0
  exact dec_ne 20 _ (by decide) (List.length_eq_zero_iff.1 h0)
 have q1 : 1 ≤ (bl s).length := by have := of_decide_eq_false q1; omega
 refine Ok.ite (fun q => Ok.some (no fun ⟨n, hn, e⟩ => ?_)) fun q2 => ?_
 ·have := of_decide_eq_true q
  have h1 := digs_len hn.1 hn.2
  rw [← blw e] at h1
  omega
 have q2 : (bl s).length ≤ 9 := by have := of_decide_eq_false q2; omega
 have fin : ((bl s).length = 1 ∨ ∃ x r, bl s = x :: r ∧ x.toNat ≠ 48) → Ok (fun r => (r.2 = true ∧ NumOk r.1 ∧ s = word r.1) ∨ (r = (0, false) ∧ ¬ isNum s)) (itN _ (fun (v_0 : (Int × Int × Unit) × (Unit)) kn => number04_L5 s v_0.1.1 v_0.1.2.1 (fun y0 y1 => kn ((y0, y1, ()), (())))) ((0, 0, ()), (()))) := fun hz =>
  number_loop q2 (fun ⟨b, hb, hb2⟩ => no fun ⟨n, hn, e⟩ => hb2 (digs_mem hn.1 (blw e ▸ hb))) fun hd => by
   have := isNum_iff q1 q2 hd hz
   exact .inl ⟨rfl, this.1, this.2⟩
 refine Ok.chk (by decide) ?_
 rw [byteAt_at (show 0 < (bl s).length from q1), num_L5_2]
 refine Ok.ite (fun q3 => Ok.ite (fun q => Ok.some (no fun ⟨n, hn, e⟩ => ?_)) fun q4 => fin (.inl ?_)) fun q3 => fin (.inr ?_)
 ·have q := of_decide_eq_true q
  have h1 := digs_head hn
  rw [← blw e] at h1
  rcases h1 with h1 | ⟨x, r, h1, h2⟩
  ·omega
  ·have h3 : (bl s)[0] = x := by simp [h1]
   rw [h3] at q3
   have := eq_of_beq q3
   omega
 ·have := of_decide_eq_false q4; omega
 ·obtain ⟨x, r, h1⟩ := List.exists_cons_of_ne_nil (l := bl s) (fun e => by rw [e] at q1; exact absurd q1 (by decide))
  have h3 : (bl s)[0] = x := by simp [h1]
  rw [h3] at q3
  refine ⟨x, r, h1, fun e => ?_⟩
  rw [e] at q3
  cases q3
theorem numbers04_ok {ws : List ByteArray} {m : Int} (hl : ws.length ≤ 1000000) : Ok (fun r => (r.2 = true ∧ ws = r.1.map word ∧ (r.1.length : Int) = m ∧ ∀ n ∈ r.1, NumOk n) ∨ (r = ([], false) ∧ ((ws.length : Int) ≠ m ∨ ∃ w ∈ ws, ¬ isNum w))) (numbers04 ws m) := by
 rw [numbers04_eq]
 unfold numbers04'
 refine Ok.ite (fun q => Ok.some (.inr ⟨rfl, .inl (by simpa using q)⟩)) (fun q => ?_)
 have hm : (ws.length : Int) = m := by simpa using q
 refine Ok.rounds (inv := fun v => ∃ j : Nat, j ≤ ws.length ∧ v.1.2.1 = (j : Int) ∧ v.1.1.length = j ∧ ws.take j = v.1.1.map word ∧ ∀ n ∈ v.1.1, NumOk n) (μ := fun v => ws.length - v.1.2.1.toNat) (by show ws.length - 0 < FUEL; unfold FUEL; omega) ⟨0, Nat.zero_le _, rfl, rfl, rfl, fun n h => by cases h⟩ ?_
 rintro ⟨⟨out, x, u⟩, u2⟩ kn ⟨j, hj, e1, e2, e3, e4⟩ hk
 simp only at e1 e2 e3 e4 ⊢
 subst e1
 unfold numbers04_L5
 rw [show ((j : Int)).toNat = j by omega]
 refine Ok.ite (fun hlt => ?_) (fun hge => ?_)
 ·have hlt : j < ws.length := by have := of_decide_eq_true hlt; omega
  refine Ok.chk (idx_ok hlt) ?_
  have hmem := getD_mem' (d := (⟨#[]⟩ : ByteArray)) hlt
  generalize hw : ws.getD j (⟨#[]⟩ : ByteArray) = w at hmem
  refine Ok.bind (number04_ok w) fun r hr => ?_
  rcases hr with ⟨h1, h2, h3⟩ | ⟨h1, h2⟩
  ·rw [h1]
   refine Ok.chk (by unfold fitA; simp; omega) ?_
   have ej : w64 ((j : Int) + 1) = ((j + 1 : Nat) : Int) := by rw [w64_id (by omega) (by omega)]; push_cast; rfl
   refine hk _ ⟨j + 1, hlt, ej, ?_, ?_, ?_⟩ ?_
   ·show (out ++ [r.1]).length = _
    rw [List.length_append, e2]; rfl
   ·show _ = (out ++ [r.1]).map word
    rw [map_take_snoc hlt, hw, e3, List.map_append, List.map_singleton, ← h3]
   ·intro n hn
    rcases List.mem_append.1 hn with h | h
    ·exact e4 n h
    ·rw [List.mem_singleton.1 h]; exact h2
   ·show ws.length - (w64 ((j : Int) + 1)).toNat < ws.length - ((j : Int)).toNat
    rw [ej]; omega
  ·rw [h1]
   exact Ok.some (.inr ⟨rfl, .inr ⟨w, hmem, h2⟩⟩)
 ·have hjn : j = ws.length := by have := of_decide_eq_false hge; omega
  refine Ok.some (.inl ⟨rfl, ?_, ?_, e4⟩)
  ·rw [← e3, hjn, List.take_length]
  ·show (out.length : Int) = m
   omega
theorem words_inj : ∀ (l k : List Int), (∀ n ∈ l, NumOk n) → (∀ n ∈ k, NumOk n) → l.map word = k.map word → l = k
 | [], [], _, _, _ => rfl
 | [], _ :: _, _, _, e => by cases e
 | _ :: _, [], _, _, e => by cases e
 | x :: l, y :: k, h1, h2, e => by
  simp only [List.map_cons, List.cons.injEq] at e
  rw [word_inj (h1 _ (List.mem_cons_self ..)) (h2 _ (List.mem_cons_self ..)) e.1, words_inj l k (fun n hn => h1 n (List.mem_cons_of_mem _ hn)) (fun n hn => h2 n (List.mem_cons_of_mem _ hn)) e.2]
theorem numbers_same {ws : List ByteArray} {m : Int} (hl : ws.length ≤ 1000000) (hs : ∀ w ∈ ws, w.size ≤ 1000000) : numbers04 ws m = numbers ws m := by
 obtain ⟨r, h1, h2⟩ := numbers_ok (m := m) hl hs
 obtain ⟨r', h1', h2'⟩ := numbers04_ok (ws := ws) (m := m) hl
 rw [h1, h1']
 have no : ∀ {r : List Int × Bool}, r.2 = true ∧ ws = r.1.map word ∧ (r.1.length : Int) = m ∧ (∀ n ∈ r.1, NumOk n) → ¬ ((ws.length : Int) ≠ m ∨ ∃ w ∈ ws, ¬ isNum w) := fun {r} ⟨_, b, c, d⟩ h => by
  rcases h with h | ⟨w, hw, h⟩
  ·rw [b, List.length_map] at h; exact h c
  ·rw [b] at hw
   obtain ⟨n, hn, rfl⟩ := List.mem_map.1 hw
   exact h ⟨n, d n hn, rfl⟩
 rcases h2 with h2 | ⟨a, b⟩
 ·rcases h2' with h2' | ⟨a', b'⟩
  ·have := words_inj r'.1 r.1 h2'.2.2.2 h2.2.2.2 (h2'.2.1.symm.trans h2.2.1)
   obtain ⟨r1, r2⟩ := r
   obtain ⟨r1', r2'⟩ := r'
   simp only at this h2 h2'
   rw [this, h2.1, h2'.1]
  ·exact absurd b' (no h2)
 ·rcases h2' with h2' | ⟨a', b'⟩
  ·exact absurd b (no h2')
  ·rw [a, a']
theorem bl_sub (s : ByteArray) (i j : Nat) : bl (subS s (i : Int) (j : Int)) = ((bl s).take j).drop i := by
 unfold subS subB
 exact bl_mk _
theorem split04_ok {s : ByteArray} {c : UInt8} (h : s.size ≤ 1000000) : split04 s (c.toNat : Int) = some (Tx.splitV s ⟨#[c]⟩) := by
 refine ok_eq ?_
 rw [split04_eq]
 unfold split04'
 have hsz := bl_len s
 have hlen : ∀ k : List ByteArray, ∀ r, k.map bl ++ r = splitL c (bl s) → k.length ≤ 1000001 := fun k r e => by
  have h1 := split_len c (bl s)
  rw [← e, List.length_append, List.length_map] at h1
  omega
 refine Ok.rounds (inv := fun v => ∃ i f : Nat, v.1.2.2.1 = (i : Int) ∧ v.1.2.1 = (f : Int) ∧ f ≤ i ∧ ((i ≤ (bl s).length ∧ v.1.1.map bl ++ splitL c ((bl s).drop f) = splitL c (bl s) ∧ c ∉ ((bl s).drop f).take (i - f)) ∨ (i = (bl s).length + 1 ∧ v.1.1.map bl = splitL c (bl s)))) (μ := fun v => (bl s).length + 1 - v.1.2.2.1.toNat) (by show (bl s).length + 1 - 0 < FUEL; unfold FUEL; omega) ⟨0, 0, rfl, rfl, Nat.le_refl _, .inl ⟨Nat.zero_le _, rfl, fun hm => by rw [Nat.sub_self] at hm; cases hm⟩⟩ ?_
 rintro ⟨⟨out, x, y, u⟩, u2⟩ kn ⟨i, f, e1, e2, hf, hinv⟩ hk
 simp only at e1 e2 hinv ⊢
 subst e1 e2
 unfold split04_L4
 rw [show ((i : Int)).toNat = i by omega]
 have ei : i ≤ 1000001 → w64 ((i : Int) + 1) = ((i + 1 : Nat) : Int) := fun _ => by rw [w64_id (by omega) (by omega)]; push_cast; rfl
 rcases hinv with ⟨hi, h1, h2⟩ | ⟨hi, h1⟩
 ·refine Ok.ite (fun _ => ?_) (fun q => absurd (of_decide_eq_false q) (by omega))
  have hol := hlen out _ h1
  have sl : (decide (0 ≤ (f : Int)) && decide ((f : Int) ≤ (i : Int)) && decide ((i : Int) ≤ (s.size : Int))) = true := by simp; omega
  have fit : fitA (out.length + [subS s (f : Int) (i : Int)].length) 16 = true := by unfold fitA; simp; omega
  have piece : bl (subS s (f : Int) (i : Int)) = ((bl s).drop f).take (i - f) := by rw [bl_sub, List.drop_take]
  have dec : (bl s).length + 1 - (w64 ((i : Int) + 1)).toNat < (bl s).length + 1 - ((i : Int)).toNat := by rw [ei (by omega)]; omega
  refine Ok.ite (fun q => ?_) (fun q => ?_)
  ·have hin : i = (bl s).length := by have := eq_of_beq q; omega
   refine Ok.chk sl (Ok.chk fit (hk _ ⟨i + 1, i + 1, ei (by omega), ei (by omega), Nat.le_refl _, .inr ⟨by omega, ?_⟩⟩ dec))
   show (out ++ [subS s (f : Int) (i : Int)]).map bl = _
   have e3 : ((bl s).drop f).take (i - f) = (bl s).drop f := List.take_of_length_le (by rw [List.length_drop]; omega)
   rw [e3] at h2 piece
   rw [splitL_none c _ h2] at h1
   rw [List.map_append, List.map_singleton, piece]; exact h1
  ·have hin : i < (bl s).length := by
    have : ¬ (i : Int) = (s.size : Int) := by simpa using q
    omega
   refine Ok.chk (decide_eq_true (by omega)) ?_
   rw [byteAt_at hin]
   have hdrop : (bl s).drop f = ((bl s).drop f).take (i - f) ++ (bl s)[i] :: (bl s).drop (i + 1) := by
    have h3 : ((bl s).drop f).drop (i - f) = (bl s).drop i := by rw [List.drop_drop]; congr 1; omega
    have h4 := List.take_append_drop (i - f) ((bl s).drop f)
    rw [h3, List.drop_eq_getElem_cons hin] at h4
    exact h4.symm
   refine Ok.ite (fun q2 => ?_) (fun q2 => ?_)
   ·have hc : (bl s)[i] = c := by
     have := eq_of_beq q2
     exact UInt8.toNat_inj.1 (by omega)
    refine Ok.chk sl (Ok.chk fit (hk _ ⟨i + 1, i + 1, ei (by omega), ei (by omega), Nat.le_refl _, .inl ⟨hin, ?_, fun hm => by rw [Nat.sub_self] at hm; cases hm⟩⟩ dec))
    show (out ++ [subS s (f : Int) (i : Int)]).map bl ++ splitL c ((bl s).drop (i + 1)) = _
    rw [hdrop, hc, splitL_app c _ _ h2] at h1
    rw [List.map_append, List.map_singleton, piece, List.append_assoc]; exact h1
   ·have hc : (bl s)[i] ≠ c := fun e => by rw [e] at q2; simp at q2
    refine hk _ ⟨i + 1, f, ei (by omega), rfl, by omega, .inl ⟨hin, h1, fun hm => ?_⟩⟩ dec
    rw [show i + 1 - f = (i - f) + 1 by omega, List.take_succ] at hm
    have h5 : ((bl s).drop f)[i - f]? = some (bl s)[i] := by
     rw [List.getElem?_drop, show f + (i - f) = i by omega, List.getElem?_eq_getElem hin]
    rw [h5] at hm
    rcases List.mem_append.1 hm with hm | hm
    ·exact h2 hm
    ·have h6 : c = (bl s)[i] := by simpa using hm
     exact hc h6.symm
 ·refine Ok.ite (fun q => absurd (of_decide_eq_true q) (by omega)) (fun _ => Ok.some ?_)
  rw [splitV_eq, ← h1, List.map_map, show (mk ∘ bl) = id from rfl, List.map_id]
end Go.Proofs.Tt05
namespace Go.Proofs.Tt05
open Go Go.Ab
set_option linter.all false
set_option maxRecDepth 100000
theorem iter_map {α γ γ' : Type} {F : γ → (γ → Option α) → Option α} {F' : γ' → (γ' → Option α) → Option α} (φ : γ → γ') (h : ∀ v kn kn', (∀ w, kn w = kn' (φ w)) → F v kn = F' (φ v) kn') : ∀ n v, iter F n v = iter F' n (φ v)
 | 0, v => rfl
 | n + 1, v => h v _ _ (iter_map φ h n)
theorem it_map {α γ γ' : Type} {F : γ → (γ → Option α) → Option α} {F' : γ' → (γ' → Option α) → Option α} (φ : γ → γ') (h : ∀ v kn kn', (∀ w, kn w = kn' (φ w)) → F v kn = F' (φ v) kn') (v : γ) : itN γ F v = itN γ' F' (φ v) := iter_map φ h FUEL v
theorem within_same (n l h : Int) : within n l h = in_ n l h := by
 rw [within_eq, in__eq]; rfl
theorem along_same (c : Convoy) (t : Truck) (h : Hold) : along04 c t h = along ⟨t, c.Length⟩ h.At := by
 rw [along04_eq, along_eq]; rfl
theorem ct_2 : @checkTruck04_L14__2 = @checkTruck04_L14 := rfl
theorem holds_same (c : Convoy) (t : Truck) :
  itN _ (fun (v_0 : (Unit × Unit × Int × Unit) × (Unit)) kn => checkTruck04_L14 t c v_0.1.2.2.1 (fun y0 => kn (((), (), y0, ()), (())))) (((), (), 0, ()), (())) = itN _ (fun (v_0 : (Unit × Unit × Unit × Int × Unit) × (Unit)) kn => checkTruck_L15 t c v_0.1.2.2.2.1 (fun y0 => kn (((), (), (), y0, ()), (())))) (((), (), (), 0, ()), (())) := by
 refine it_map (γ := (Unit × Unit × Int × Unit) × Unit) (γ' := (Unit × Unit × Unit × Int × Unit) × Unit) (φ := fun v => (((), (), (), v.1.2.2.1, ()), ())) (fun v kn kn' hk => ?_) (((), (), 0, ()), ())
 unfold checkTruck04_L14 checkTruck_L15
 simp only [within_same, along_same, hk]
theorem truck_same (c : Convoy) (t : Truck) : checkTruck04 c t = checkTruck c t := by
 rw [checkTruck04_eq, checkTruck_eq]
 unfold checkTruck04' checkTruck'
 rw [in_ok t.Way 1 2, ct_2]
 simp only [within_same, holds_same]
 by_cases h1 : t.Way = 1
 ·rw [show (t.Way != 1) = false by simp [h1], show (decide (1 ≤ t.Way) && decide (t.Way ≤ 2)) = true by simp [h1]]
  rfl
 ·by_cases h2 : t.Way = 2
  ·rw [show (t.Way != 1) = true by simp [h1], show (t.Way != 2) = false by simp [h2], show (decide (1 ≤ t.Way) && decide (t.Way ≤ 2)) = true by simp [h2]]
   rfl
  ·rw [show (t.Way != 1) = true by simp [h1], show (t.Way != 2) = true by simp [h2], show (decide (1 ≤ t.Way) && decide (t.Way ≤ 2)) = false by simp; omega]
   rfl
theorem check_same (c : Convoy) : rCheck c = pCheck c := by
 rw [rCheck_eq, pCheck_eq]
 unfold rCheck' pCheck'
 simp only [within_same]
 have e : @rCheck_L6 = @pCheck_L6 := by
  funext c i kn
  unfold rCheck_L6 pCheck_L6
  rw [truck_same]
 rw [e]
theorem readR_no {row : ByteArray} {k : Nat} {c : Convoy} (hs : row.size ≤ 1000000 - 1) (h : goodRow (k + 1) c (Tx.splitV row bSp) = none) : Ok (fun r => r.2 = false) (readR c (Tx.splitV row bSp)) := by
 have P : Pieces row 32 (Tx.splitV row bSp) := pieces row 32
 rw [readR_eq]
 unfold readR'
 generalize Tx.splitV row bSp = ws at h P
 obtain ⟨w0, r, rfl⟩ := List.exists_cons_of_ne_nil P.ne
 have hlen : (w0 :: r).length ≤ 1000000 := by have := P.len; omega
 have hm : ∀ w ∈ r, w.size ≤ 1000000 := fun w hw => Nat.le_trans (P.mem w (List.mem_cons_of_mem _ hw)) (by omega)
 have hl : r.length ≤ 1000000 := by rw [List.length_cons] at hlen; omega
 have nc : ∀ {r : List ByteArray} {m : Int}, r.length ≤ 1000000 → (∀ w ∈ r, w.size ≤ 1000000) → (∃ ns, numbers r m = some (ns, true) ∧ numbers04 r m = some (ns, true) ∧ (ns.length : Int) = m) ∨ ∃ ns, numbers04 r m = some (ns, false) := fun {r m} a b => by
  rcases num_cases (m := m) a b with ⟨ns, h1, h2⟩ | ⟨ns, h1⟩
  ·exact .inl ⟨ns, h1, by rw [numbers_same a b, h1], h2⟩
  ·exact .inr ⟨ns, by rw [numbers_same a b, h1]⟩
 have c0 : (decide ((0 : Int) ≤ 0) && decide ((0 : Int) < (((w0 :: r).length : Nat) : Int))) = true := idx_ok (k := 0) (by simp)
 have sl1 : (decide ((0 : Int) ≤ 1) && decide ((1 : Int) ≤ (((w0 :: r).length : Nat) : Int)) && decide ((((w0 :: r).length : Nat) : Int) ≤ (((w0 :: r).length : Nat) : Int))) = true := by simp; omega
 unfold goodRow at h
 simp only at h
 rw [if_neg (Nat.succ_ne_zero k)] at h
 -- what is behind the truck's word
 have truck : eqB w0 bTruck = true → Ok (fun r : Convoy × Bool => r.2 = false) (
   bif (decide (((w0 :: r).length : Int) > 1)) then
    chk (decide ((0 : Int) ≤ 1) && decide (1 < ((w0 :: r).length : Int))) <|
    bif (((w0 :: r).getD 1 ⟨#[]⟩).toList == (⟨#[117, 112]⟩ : ByteArray).toList) then
     chk (decide ((0 : Int) ≤ 2) && decide (2 ≤ ((w0 :: r).length : Int)) && decide (((w0 :: r).length : Int) ≤ ((w0 :: r).length : Int))) <|
     (numbers04 (subL (w0 :: r) 2 ((w0 :: r).length : Int)) 3).bind fun r4 =>
     bif r4.2 then
      chk (decide ((0 : Int) ≤ 0) && decide (0 < (r4.1.length : Int))) <|
      chk (decide ((0 : Int) ≤ 1) && decide (1 < (r4.1.length : Int))) <|
      chk (decide ((0 : Int) ≤ 2) && decide (2 < (r4.1.length : Int))) <|
      chk (decide ((0 : Int) ≤ 1) && decide (1 < ((w0 :: r).length : Int))) <|
      bif (((w0 :: r).getD 1 ⟨#[]⟩).toList == (⟨#[100, 111, 119, 110]⟩ : ByteArray).toList) then
       none
      else
       none
     else
      some (c, r4.2)
    else
     chk (decide ((0 : Int) ≤ 1) && decide (1 < ((w0 :: r).length : Int))) <|
     bif (((w0 :: r).getD 1 ⟨#[]⟩).toList == (⟨#[100, 111, 119, 110]⟩ : ByteArray).toList) then
      chk (decide ((0 : Int) ≤ 2) && decide (2 ≤ ((w0 :: r).length : Int)) && decide (((w0 :: r).length : Int) ≤ ((w0 :: r).length : Int))) <|
      (numbers04 (subL (w0 :: r) 2 ((w0 :: r).length : Int)) 3).bind fun r5 =>
      bif r5.2 then
       chk (decide ((0 : Int) ≤ 0) && decide (0 < (r5.1.length : Int))) <|
       chk (decide ((0 : Int) ≤ 1) && decide (1 < (r5.1.length : Int))) <|
       chk (decide ((0 : Int) ≤ 2) && decide (2 < (r5.1.length : Int))) <|
       chk (decide ((0 : Int) ≤ 1) && decide (1 < ((w0 :: r).length : Int))) <|
       bif (((w0 :: r).getD 1 ⟨#[]⟩).toList == (⟨#[100, 111, 119, 110]⟩ : ByteArray).toList) then
        none
       else
        none
      else
       some (c, r5.2)
     else
      some (c, false)
   else
    some (c, false)) := fun q1 => by
  have q0 : eqB w0 bRoad = false := by rw [eqB_iff.1 q1]; exact eqB_mk wTruck wRoad
  rw [q0, q1] at h
  simp only [cond_true, cond_false] at h
  refine Ok.ite (fun q2 => ?_) (fun _ => Ok.some rfl)
  have hl1 : 1 < (w0 :: r).length := by have := of_decide_eq_true q2; omega
  obtain ⟨w1, r', rfl⟩ := List.exists_cons_of_ne_nil (l := r) (fun e => by subst e; simp at hl1)
  simp only at h
  have hm2 : ∀ w ∈ r', w.size ≤ 1000000 := fun w hw => hm w (List.mem_cons_of_mem _ hw)
  have hl2 : r'.length ≤ 1000000 := by rw [List.length_cons] at hl; omega
  have sl2 : (decide ((0 : Int) ≤ 2) && decide ((2 : Int) ≤ (((w0 :: w1 :: r').length : Nat) : Int)) && decide ((((w0 :: w1 :: r').length : Nat) : Int) ≤ (((w0 :: w1 :: r').length : Nat) : Int))) = true := by simp; omega
  refine Ok.chk (gt_one _ hl1) ?_
  refine Ok.ite (fun q3 => ?_) (fun q3 => ?_)
  ·have q3 : eqB w1 bUp = true := q3
   have q4 : eqB w1 bDown = false := by rw [eqB_iff.1 q3]; exact eqB_mk wUp wDown
   rw [q3, q4] at h
   refine Ok.chk sl2 ?_
   rw [subL_two]
   rcases nc (m := 3) hl2 hm2 with ⟨ns, h1, _, h2⟩ | ⟨ns, h1⟩
   ·obtain ⟨x, y, z, rfl⟩ := len3 h2
    rw [h1] at h; cases h
   ·rw [h1]; exact Ok.some rfl
  ·have q3 : eqB w1 bUp = false := q3
   refine Ok.chk (gt_one _ hl1) ?_
   refine Ok.ite (fun q4 => ?_) (fun _ => Ok.some rfl)
   have q4 : eqB w1 bDown = true := q4
   rw [q3, q4] at h
   refine Ok.chk sl2 ?_
   rw [subL_two]
   rcases nc (m := 3) hl2 hm2 with ⟨ns, h1, _, h2⟩ | ⟨ns, h1⟩
   ·obtain ⟨x, y, z, rfl⟩ := len3 h2
    rw [h1] at h; cases h
   ·rw [h1]; exact Ok.some rfl
 refine Ok.chk c0 ?_
 refine Ok.ite (fun q => ?_) (fun q => ?_)
 ·have q : eqB w0 bHold = true := q
  have q0 : eqB w0 bRoad = false := by rw [eqB_iff.1 q]; exact eqB_mk wHold wRoad
  have q1 : eqB w0 bTruck = false := by rw [eqB_iff.1 q]; exact eqB_mk wHold wTruck
  refine Ok.ite (fun q3 => ?_) fun _ => ?_
  ·have hne : c.Trucks ≠ [] := fun e => by rw [e] at q3; exact absurd q3 (by decide)
   rw [q0, q1, q] at h
   simp only [cond_true, cond_false] at h
   refine Ok.chk sl1 ?_
   rw [subL_one]
   rcases nc (m := 2) hl hm with ⟨ns, h1, _, h2⟩ | ⟨ns, h1⟩
   ·obtain ⟨x, y, rfl⟩ := len2 h2
    rw [h1, last_at hne] at h; cases h
   ·rw [h1]; exact Ok.some rfl
  ·refine Ok.chk c0 (Ok.ite (fun q2 => ?_) fun _ => Ok.some rfl)
   have q2 : eqB w0 bTruck = true := q2
   rw [q1] at q2; cases q2
 ·exact Ok.chk c0 (Ok.ite (fun q1 => truck q1) fun _ => Ok.some rfl)
end Go.Proofs.Tt05
namespace Go.Proofs.Tt05
open Go Go.Ab
set_option linter.all false
set_option maxRecDepth 100000
theorem cat_mk (a : List UInt8) (b : ByteArray) : catS (mk a) b = mk (a ++ bl b) := rfl
theorem row04_ok {w : ByteArray} {ns : List Int} (hn : ∀ n ∈ ns, NumOk n) (hw : (bl w).length ≤ 1000) (hl : ns.length ≤ 1000) : row04 w ns = some (mk (rowL (bl w) ns)) := by
 refine ok_eq ?_
 rw [row04_eq]
 unfold row04'
 refine Ok.rounds (inv := fun v => ∃ j : Nat, j ≤ ns.length ∧ v.1.2.1 = (j : Int) ∧ v.1.1 = mk (bl w ++ (ns.take j).flatMap numL)) (μ := fun v => ns.length - v.1.2.1.toNat) (by show ns.length - 0 < FUEL; unfold FUEL; omega) ⟨0, Nat.zero_le _, rfl, by show w = _; rw [List.take_zero, List.flatMap_nil, List.append_nil]; rfl⟩ ?_
 rintro ⟨⟨y, x, u⟩, u5⟩ kn ⟨j, hj, e1, e2⟩ hk
 simp only at e1 e2 ⊢
 subst e1 e2
 unfold row04_L2
 rw [show ((j : Int)).toNat = j by omega]
 have hpre := nums_len (ns.take j) fun n h => hn n (List.mem_of_mem_take h)
 rw [List.length_take] at hpre
 have hsz : (mk (bl w ++ (ns.take j).flatMap numL)).size ≤ 20000 := by rw [mk_size, List.length_append]; omega
 have h32 : (⟨#[32]⟩ : ByteArray).size = 1 := rfl
 have h10 : (⟨#[10]⟩ : ByteArray).size = 1 := rfl
 refine Ok.ite (fun hlt => ?_) (fun hge => ?_)
 ·have hlt : j < ns.length := by have := of_decide_eq_true hlt; omega
  refine Ok.chk (decide_eq_true (by omega)) (Ok.chk (idx_ok hlt) ?_)
  have hno := hn _ (getD_mem' (d := (0 : Int)) hlt)
  have hdl := digs_len hno.1 hno.2
  refine Ok.bind (P := fun r => r = mk (digs (ns.getD j 0))) ⟨_, by unfold Tx.itoaP; rw [okI_of hno]; rfl, rfl⟩ fun r2 hr2 => ?_
  subst hr2
  rw [cat_mk, cat_mk]
  refine Ok.chk (decide_eq_true ?_) ?_
  ·rw [mk_size, mk_size, List.length_append]
   rw [mk_size] at hsz
   have : (bl (⟨#[32]⟩ : ByteArray)).length = 1 := rfl
   omega
  ·have e : w64 ((j : Int) + 1) = ((j + 1 : Nat) : Int) := by rw [w64_id (by omega) (by omega)]; push_cast; rfl
   refine hk _ ⟨j + 1, hlt, e, ?_⟩ ?_
   ·show mk _ = mk _
    rw [flat_snoc (d := 0) numL hlt, List.append_assoc, List.append_assoc]; rfl
   ·show ns.length - (w64 ((j : Int) + 1)).toNat < ns.length - ((j : Int)).toNat
    rw [e]; omega
 ·have hjn : j = ns.length := by have := of_decide_eq_false hge; omega
  refine Ok.chk (decide_eq_true (by omega)) (Ok.some ?_)
  rw [cat_mk, hjn, List.take_length]; rfl
theorem W14_2 : @Write04_L14__2 = @Write04_L14 := rfl
theorem holds04_ok {c : Convoy} {k : Nat} {P : ByteArray × Int → Prop} {kn_ : ByteArray → Int → Option (ByteArray × Int)} {a : List UInt8} {t : Truck} (ht : c.Trucks.getD k dfltTruck = t) (hh : ∀ x ∈ t.Holds, NumOk x.At ∧ NumOk x.Until) (ha : a.length + (t.Holds.flatMap holdL).length ≤ 20000) (hm : t.Holds.length ≤ 1000000000)
  (hk : Ok P (kn_ (mk (a ++ t.Holds.flatMap holdL)) (w64 ((k : Int) + 1)))) : Ok P (itN _ (fun (v_0 : (Unit × ByteArray × Unit × Int × Unit) × (Unit)) kn => Write04_L14 c (k : Int) kn_ v_0.1.2.1 v_0.1.2.2.2.1 (fun y0 y1 => kn (((), y0, (), y1, ()), (())))) (((), mk a, (), 0, ()), (()))) := by
 refine Ok.rounds (inv := fun v => ∃ j : Nat, j ≤ t.Holds.length ∧ v.1.2.2.2.1 = (j : Int) ∧ v.1.2.1 = mk (a ++ (t.Holds.take j).flatMap holdL)) (μ := fun v => t.Holds.length - v.1.2.2.2.1.toNat) (by show t.Holds.length - 0 < FUEL; unfold FUEL; omega) ⟨0, Nat.zero_le _, rfl, by simp⟩ ?_
 rintro ⟨⟨u1, y, u2, x, u3⟩, u5⟩ kn ⟨j, hj, e1, e2⟩ hkn
 simp only at e1 e2 ⊢
 subst e1 e2
 unfold Write04_L14
 rw [show ((k : Int)).toNat = k by omega, show ((j : Int)).toNat = j by omega, ht]
 refine Ok.ite (fun hlt => ?_) (fun hge => ?_)
 ·have hlt : j < t.Holds.length := by have := of_decide_eq_true hlt; omega
  refine Ok.chk (idx_ok hlt) (Ok.chk (idx_ok hlt) ?_)
  have hn := hh _ (getD_mem' (d := dfltHold) hlt)
  have hp := flat_take holdL t.Holds (j + 1)
  rw [flat_snoc (d := dfltHold) holdL hlt, List.length_append] at hp
  refine Ok.beq (row04_ok (w := ⟨#[104, 111, 108, 100]⟩) (two_ok hn.1 hn.2) (by show 4 ≤ 1000; omega) (by show 2 ≤ 1000; omega)) ?_
  rw [cat_mk, bl_mk]
  refine Ok.chk (decide_eq_true ?_) ?_
  ·rw [mk_size, mk_size, List.length_append]
   show _ + (holdL (t.Holds.getD j dfltHold)).length ≤ _
   omega
  ·have e : w64 ((j : Int) + 1) = ((j + 1 : Nat) : Int) := by rw [w64_id (by omega) (by omega)]; push_cast; rfl
   refine hkn _ ⟨j + 1, hlt, e, ?_⟩ ?_
   ·show mk _ = mk _
    rw [flat_snoc (d := dfltHold) holdL hlt, List.append_assoc]; rfl
   ·show t.Holds.length - (w64 ((j : Int) + 1)).toNat < t.Holds.length - ((j : Int)).toNat
    rw [e]; omega
 ·have hjn : j = t.Holds.length := by have := of_decide_eq_false hge; omega
  rw [hjn, List.take_length]
  exact hk
theorem Write04_text {c : Convoy} (hc : pCheck c = some 0) (hn : NumC c) (hl : (textL c).length ≤ 20000) : Write04 c = some (mk (textL c), 0) := by
 refine ok_eq ?_
 rw [Write04_eq]
 unfold Write04'
 rw [check_same, hc]
 have hR : (roadL c).length + (c.Trucks.flatMap truckL).length ≤ 20000 := by unfold textL at hl; rwa [List.length_append] at hl
 have htt := text_trucks c
 show Ok _ ((row04 _ _).bind _)
 refine Ok.beq (row04_ok (w := ⟨#[114, 111, 97, 100]⟩) (three_ok hn.l hn.g hn.f) (by show 4 ≤ 1000; omega) (by show 3 ≤ 1000; omega)) ?_
 refine Ok.rounds (inv := fun v => ∃ k : Nat, k ≤ c.Trucks.length ∧ v.1.2.2.1 = (k : Int) ∧ v.1.2.1 = mk (roadL c ++ (c.Trucks.take k).flatMap truckL)) (μ := fun v => c.Trucks.length - v.1.2.2.1.toNat) (by show c.Trucks.length - 0 < FUEL; unfold FUEL; omega) ⟨0, Nat.zero_le _, rfl, by rw [List.take_zero, List.flatMap_nil, List.append_nil]; rfl⟩ ?_
 rintro ⟨⟨u1, y, x, u3⟩, u5⟩ kn ⟨k, hk, e1, e2⟩ hkn
 simp only at e1 e2 ⊢
 subst e1 e2
 unfold Write04_L6
 rw [show ((k : Int)).toNat = k by omega, W14_2]
 refine Ok.ite (fun hlt => ?_) (fun hge => ?_)
 ·have hlt : k < c.Trucks.length := by have := of_decide_eq_true hlt; omega
  refine Ok.chk (idx_ok hlt) ?_
  have hmem := getD_mem' (d := dfltTruck) hlt
  have ht := hn.t _ hmem
  have hth := htt.2 _ hmem
  have hp := flat_take truckL c.Trucks (k + 1)
  rw [flat_snoc (d := dfltTruck) truckL hlt, List.length_append] at hp
  generalize hT : c.Trucks.getD k dfltTruck = t at ht hp hth
  have hnum := three_ok ht.s ht.l ht.h
  have e3 : (truckL t).length = (headL t).length + (t.Holds.flatMap holdL).length := List.length_append
  have e : w64 ((k : Int) + 1) = ((k + 1 : Nat) : Int) := by rw [w64_id (by omega) (by omega)]; push_cast; rfl
  have hend : Ok (fun r => r = (mk (textL c), 0)) (itN _ (fun (v_0 : (Unit × ByteArray × Unit × Int × Unit) × (Unit)) kn2 => Write04_L14 c (k : Int) (fun y0 y1 => kn (((), y0, y1, ()), (()))) v_0.1.2.1 v_0.1.2.2.2.1 (fun y0 y1 => kn2 (((), y0, (), y1, ()), (())))) (((), mk (roadL c ++ (c.Trucks.take k).flatMap truckL ++ headL t), (), 0, ()), (()))) := by
   refine holds04_ok hT ht.hs (by rw [List.length_append, List.length_append]; omega) (by omega) ?_
   refine hkn _ ⟨k + 1, hlt, e, ?_⟩ ?_
   ·show mk _ = mk _
    rw [flat_snoc (d := dfltTruck) truckL hlt, hT]
    unfold truckL
    simp only [List.append_assoc]
   ·show c.Trucks.length - (w64 ((k : Int) + 1)).toNat < c.Trucks.length - ((k : Int)).toNat
    rw [e]; omega
  have hsz : ∀ {w : ByteArray}, rowL (bl w) [t.Start, t.Pace.Lo, t.Pace.Hi] = headL t → decide ((mk (roadL c ++ (c.Trucks.take k).flatMap truckL)).size + (mk (rowL (bl w) [t.Start, t.Pace.Lo, t.Pace.Hi])).size ≤ 9223372036854775807) = true := fun h => decide_eq_true (by rw [mk_size, mk_size, h, List.length_append]; omega)
  refine Ok.ite (fun q => ?_) (fun q => ?_)
  ·have hw : t.Way = 2 := by simpa using q
   have hh : rowL (bl (⟨#[116, 114, 117, 99, 107, 32, 100, 111, 119, 110]⟩ : ByteArray)) [t.Start, t.Pace.Lo, t.Pace.Hi] = headL t := by unfold headL wayL; rw [hw]; rfl
   refine Ok.beq (row04_ok hnum (by show 10 ≤ 1000; omega) (by show 3 ≤ 1000; omega)) ?_
   refine Ok.chk (hsz hh) ?_
   rw [cat_mk, bl_mk, hh]
   exact hend
  ·have hw : t.Way = 1 := by
    rcases ht.way with h | h
    ·exact h
    ·rw [h] at q; cases q
   have hh : rowL (bl (⟨#[116, 114, 117, 99, 107, 32, 117, 112]⟩ : ByteArray)) [t.Start, t.Pace.Lo, t.Pace.Hi] = headL t := by unfold headL wayL; rw [hw]; rfl
   refine Ok.beq (row04_ok hnum (by show 8 ≤ 1000; omega) (by show 3 ≤ 1000; omega)) ?_
   refine Ok.chk (hsz hh) ?_
   rw [cat_mk, bl_mk, hh]
   exact hend
 ·have hkn' : k = c.Trucks.length := by have := of_decide_eq_false hge; omega
  rw [hkn', List.take_length]
  show Ok _ (bif decide (((mk (textL c)).size : Int) > 20000) then _ else some (mk (textL c), 0))
  rw [mk_size, decide_eq_false (by omega)]
  exact Ok.some rfl
theorem write_both (c : Convoy) : ∃ r, Write c = some r ∧ Write04 c = some r ∧ r.1.size ≤ 6000 := by
 obtain ⟨e, h1, h2⟩ := check_total c
 by_cases h0 : e = 0
 ·have hv := h2 h0
  rw [h0] at h1
  have hl := cv_len hv
  exact ⟨_, Write_text h1 (cv_num hv) (by omega), Write04_text h1 (cv_num hv) (by omega), by rw [mk_size]; exact hl⟩
 ·have hb : (e != 0) = true := by simpa using h0
  refine ⟨(⟨#[]⟩, e), ?_, ?_, by show 0 ≤ 6000; omega⟩
  ·rw [Write_eq]
   unfold Write'
   rw [h1]
   show (bif e != 0 then _ else _) = _
   rw [hb]; rfl
  ·rw [Write04_eq]
   unfold Write04'
   rw [check_same, h1]
   show (bif e != 0 then _ else _) = _
   rw [hb]; rfl
end Go.Proofs.Tt05
namespace Go.Proofs.Tt05
open Go Go.Ab
set_option linter.all false
set_option maxRecDepth 100000
theorem succ64 {j : Nat} (h : j ≤ 1000000000) : w64 ((j : Int) + 1) = ((j + 1 : Nat) : Int) := by rw [w64_id (by omega) (by omega)]; push_cast; rfl
theorem stop04_ok {c : Convoy} {t : Truck} {gone minute : Int} (hv : TV c.Length t) (h1 : 1 ≤ c.Length) (h2 : c.Length ≤ 100000) (hg : gone ≤ c.Length) : Ok (fun r => gone ≤ r ∧ r ≤ c.Length ∧ (10000 ≤ minute → r = c.Length)) (stop04 c t gone minute) := by
 rw [stop04_eq]
 unfold stop04'
 have hn := hv.n
 refine Ok.rounds (inv := fun v => ∃ j : Nat, j ≤ t.Holds.length ∧ v.1.2.2.1 = (j : Int)) (μ := fun v => t.Holds.length - v.1.2.2.1.toNat) (by show t.Holds.length - 0 < FUEL; unfold FUEL; omega) ⟨0, Nat.zero_le _, rfl⟩ ?_
 rintro ⟨⟨u1, u2, x, u4⟩, u5⟩ kn ⟨j, hj, e1⟩ hk
 simp only at e1 ⊢
 subst e1
 unfold stop04_L2
 rw [show ((j : Int)).toNat = j by omega]
 refine Ok.ite (fun hlt => ?_) (fun _ => Ok.some ⟨hg, Int.le_refl _, fun _ => rfl⟩)
 have hlt : j < t.Holds.length := by have := of_decide_eq_true hlt; omega
 refine Ok.chk (idx_ok hlt) ?_
 have hm := hv.hs _ (getD_mem' (d := dfltHold) hlt)
 have e := succ64 (j := j) (by omega)
 have go : Ok (fun r => gone ≤ r ∧ r ≤ c.Length ∧ (10000 ≤ minute → r = c.Length)) (kn ((u1, u2, w64 ((j : Int) + 1), u4), u5)) := by
  refine hk _ ⟨j + 1, hlt, e⟩ ?_
  show t.Holds.length - (w64 ((j : Int) + 1)).toNat < t.Holds.length - ((j : Int)).toNat
  rw [e]; omega
 rw [along_same, along_ok]
 generalize ha : (if t.Way = 2 then w64 (c.Length - (t.Holds.getD j dfltHold).At) else (t.Holds.getD j dfltHold).At) = a
 have hal : a ≤ c.Length := by
  rw [← ha, w64_id (by omega) (by omega)]
  split <;> omega
 show Ok _ (bif decide (a ≥ gone) then _ else _)
 refine Ok.ite (fun q => ?_) (fun _ => go)
 have q := of_decide_eq_true q
 refine Ok.chk (idx_ok hlt) (Ok.ite (fun q2 => ?_) (fun _ => go))
 have q2 := of_decide_eq_true q2
 refine Ok.chk (idx_ok hlt) (Ok.some ⟨q, hal, fun hmin => ?_⟩)
 omega
theorem Next04_ok {c : Convoy} {t : Truck} {gone minute metres : Int} (hv : TV c.Length t) (h1 : 1 ≤ c.Length) (h2 : c.Length ≤ 100000) (h0 : 0 ≤ gone) (hg : gone ≤ c.Length) (m1 : 1 ≤ metres) (m2 : metres ≤ 1000) : Ok (fun r => gone ≤ r ∧ r ≤ c.Length ∧ (10000 ≤ minute → gone < c.Length → gone < r)) (Next04 c t gone minute metres) := by
 rw [Next04_eq]
 unfold Next04'
 refine Ok.bind (stop04_ok (minute := minute) hv h1 h2 hg) fun r hr => Ok.some ?_
 obtain ⟨a, b, d⟩ := hr
 rw [w64_id (by omega) (by omega)]
 refine ⟨by omega, by omega, fun h3 h4 => ?_⟩
 have := d h3
 omega
theorem arrives_ok {c : Convoy} {t : Truck} (hv : TV c.Length t) (h1 : 1 ≤ c.Length) (h2 : c.Length ≤ 100000) : Ok (fun r => r.Lo ≤ 200000) (arrives c t) := by
 rw [arrives_eq]
 unfold arrives'
 have hs0 := hv.num.s.1
 have hs1 := hv.s
 refine Ok.rounds (inv := fun v => t.Start ≤ v.1.2.2.2.2.2.1 ∧ v.1.2.2.2.2.2.1 ≤ 10003 + c.Length ∧ v.2.1.1 ≤ v.1.2.2.2.2.2.1 ∧ (v.2.1.2.1 < 0 → 0 ≤ v.2.2.1.1 ∧ v.2.2.1.1 < c.Length ∧ 0 ≤ v.2.2.1.2.1 ∧ v.2.2.1.2.1 ≤ c.Length ∧ v.1.2.2.2.2.2.1 ≤ 10001 + v.2.2.1.1)) (μ := fun v => (10004 + c.Length - v.1.2.2.2.2.2.1).toNat) (by show (10004 + c.Length - t.Start).toNat < FUEL; unfold FUEL; omega) ⟨Int.le_refl _, by show t.Start ≤ _; omega, by show (-1 : Int) ≤ t.Start; omega, fun _ => ⟨Int.le_refl _, by show (0 : Int) < _; omega, Int.le_refl _, by show (0 : Int) ≤ _; omega, by show t.Start ≤ 10001 + 0; omega⟩⟩ ?_
 rintro ⟨⟨u1, u2, u3, u4, u5, m, u6⟩, ⟨oL, oH, u7⟩, ⟨xL, xH, u8⟩, u9⟩ kn ⟨i1, i2, i3, i4⟩ hk
 simp only at i1 i2 i3 i4 ⊢
 unfold arrives_L4
 refine Ok.ite (fun q => ?_) (fun _ => Ok.some (show oL ≤ 200000 by omega))
 have q := of_decide_eq_true q
 obtain ⟨x1, x2, x3, x4, x5⟩ := i4 q
 have em : w64 (m + 1) = m + 1 := w64_id (by omega) (by omega)
 have go : ∀ (r r2 : Int), 0 ≤ r → r ≤ c.Length → 0 ≤ r2 → r2 ≤ c.Length → (m ≤ 10000 ∨ r > xL) → ∀ a b : Int, a ≤ m → (b < 0 → r ≠ c.Length) → Ok (fun r => r.Lo ≤ 200000) (kn ((u1, u2, u3, u4, u5, w64 (m + 1), u6), ((a, b, u7), (r, r2, u8), u9))) := fun r r2 r1 r3 r4 r5 hp a b ha hb => by
  refine hk _ ⟨?_, ?_, ?_, ?_⟩ ?_
  ·show t.Start ≤ w64 (m + 1); omega
  ·show w64 (m + 1) ≤ _; omega
  ·show a ≤ w64 (m + 1); omega
  ·intro hb0
   have := hb hb0
   show 0 ≤ r ∧ r < c.Length ∧ 0 ≤ r2 ∧ r2 ≤ c.Length ∧ w64 (m + 1) ≤ 10001 + r
   omega
  ·show (10004 + c.Length - w64 (m + 1)).toNat < (10004 + c.Length - m).toNat
   omega
 have tree : ∀ (r r2 : Int), 0 ≤ r → r ≤ c.Length → 0 ≤ r2 → r2 ≤ c.Length → (m ≤ 10000 ∨ r > xL) → Ok (fun r => r.Lo ≤ 200000) (
   bif (r2 == c.Length) then
    bif (decide (oL < 0)) then
     bif (r == c.Length) then
      kn ((u1, u2, u3, u4, u5, w64 (m + 1), u6), ((m, m, u7), (r, r2, u8), u9))
     else
      kn ((u1, u2, u3, u4, u5, w64 (m + 1), u6), ((m, oH, u7), (r, r2, u8), u9))
    else
     bif (r == c.Length) then
      kn ((u1, u2, u3, u4, u5, w64 (m + 1), u6), ((oL, m, u7), (r, r2, u8), u9))
     else
      kn ((u1, u2, u3, u4, u5, w64 (m + 1), u6), ((oL, oH, u7), (r, r2, u8), u9))
   else
    bif (r == c.Length) then
     kn ((u1, u2, u3, u4, u5, w64 (m + 1), u6), ((oL, m, u7), (r, r2, u8), u9))
    else
     kn ((u1, u2, u3, u4, u5, w64 (m + 1), u6), ((oL, oH, u7), (r, r2, u8), u9))) := fun r r2 r1 r3 r4 r5 hp => by
  have g := go r r2 r1 r3 r4 r5 hp
  have hm0 : ¬ m < 0 := by omega
  refine Ok.ite (fun _ => Ok.ite (fun _ => Ok.ite (fun _ => g _ _ (Int.le_refl _) fun h => absurd h hm0) fun qr => g _ _ (Int.le_refl _) fun _ => by simpa using qr) fun _ => Ok.ite (fun _ => g _ _ i3 fun h => absurd h hm0) fun qr => g _ _ i3 fun _ => by simpa using qr) fun _ => Ok.ite (fun _ => g _ _ i3 fun h => absurd h hm0) fun qr => g _ _ i3 fun _ => by simpa using qr
 refine Ok.ite (fun q2 => ?_) (fun q2 => ?_)
 ·have q2 := of_decide_eq_true q2
  have emm : w64 (m - 1) = m - 1 := w64_id (by omega) (by omega)
  rw [emm]
  refine Ok.bind (Next04_ok (minute := m - 1) hv h1 h2 x1 (by omega) hv.l1 hv.l2) fun r hr => ?_
  refine Ok.bind (Next04_ok (minute := m - 1) hv h1 h2 x3 x4 hv.h1 hv.h2) fun r2 hr2 => ?_
  obtain ⟨a1, a2, a3⟩ := hr
  obtain ⟨b1, b2, _⟩ := hr2
  refine tree r r2 (by omega) a2 (by omega) b2 ?_
  by_cases hm : m ≤ 10000
  ·exact .inl hm
  ·exact .inr (a3 (by omega) x2)
 ·have q2 := of_decide_eq_false q2
  exact tree xL xH x1 (by omega) x3 x4 (.inl (by omega))
theorem may_ok {keep fail : List Int} {fails minute : Int} (hl : keep.length = fail.length) (hn : keep.length ≤ 1000000) : Ok (fun r => (∀ x ∈ keep, x ≤ minute) → 0 ≤ fails → r = true) (may keep fail fails minute) := by
 rw [may_eq]
 unfold may'
 refine Ok.rounds (inv := fun v => ∃ j : Nat, j ≤ keep.length ∧ v.1.2.1 = (j : Int) ∧ 0 ≤ v.1.1 ∧ v.1.1 ≤ j ∧ ((∀ x ∈ keep, x ≤ minute) → v.1.1 = 0)) (μ := fun v => keep.length - v.1.2.1.toNat) (by show keep.length - 0 < FUEL; unfold FUEL; omega) ⟨0, Nat.zero_le _, rfl, Int.le_refl _, Int.le_refl _, fun _ => rfl⟩ ?_
 rintro ⟨⟨n, x, u4⟩, u5⟩ kn ⟨j, hj, e1, e2, e3, e4⟩ hk
 simp only at e1 e2 e3 e4 ⊢
 subst e1
 unfold may_L3
 rw [show ((j : Int)).toNat = j by omega]
 refine Ok.ite (fun hlt => ?_) (fun _ => Ok.some fun h h0 => ?_)
 ·have hlt : j < keep.length := by have := of_decide_eq_true hlt; omega
  have e := succ64 (j := j) (by omega)
  have dec : keep.length - (w64 ((j : Int) + 1)).toNat < keep.length - ((j : Int)).toNat := by rw [e]; omega
  have hmem := getD_mem' (d := (0 : Int)) hlt
  refine Ok.chk (idx_ok hlt) (Ok.ite (fun q => hk _ ⟨j + 1, hlt, e, e2, by show n ≤ _; push_cast; omega, e4⟩ dec) fun q => ?_)
  have q := of_decide_eq_false q
  refine Ok.chk (idx_ok (by omega)) (Ok.ite (fun _ => Ok.some fun h _ => absurd (h _ hmem) q) fun _ => ?_)
  have en : w64 (n + 1) = n + 1 := w64_id (by omega) (by omega)
  exact hk _ ⟨j + 1, hlt, e, by show 0 ≤ w64 (n + 1); omega, by show w64 (n + 1) ≤ _; push_cast; omega, fun h => absurd (h _ hmem) q⟩ dec
 ·exact decide_eq_true (by have := e4 h; omega)
theorem free_tv {len : Int} {t : Truck} (h : TV len t) : TV len ⟨t.Way, t.Start, t.Pace, []⟩ :=
 ⟨⟨h.num.way, h.num.s, h.num.l, h.num.h, fun x hx => by cases hx⟩, h.s, h.l1, h.l2, h.h1, h.h2, Nat.zero_le _, fun x hx => by cases hx⟩
theorem off04_ok {c : Convoy} (hv : CV c) : Ok (fun _ => True) (off04 c) := by
 rw [off04_eq]
 unfold off04'
 have hn := hv.n
 refine Ok.rounds (inv := fun v => ∃ j : Nat, j ≤ c.Trucks.length ∧ v.1.2.2.2.2.2.1 = (j : Int) ∧ v.1.2.2.2.1.length = j ∧ v.1.2.2.2.2.1.length = j ∧ (∀ x ∈ v.1.2.2.2.1, x ≤ 200000) ∧ v.2.1.1 = 0) (μ := fun v => c.Trucks.length - v.1.2.2.2.2.2.1.toNat) (by show c.Trucks.length - 0 < FUEL; unfold FUEL; omega) ⟨0, Nat.zero_le _, rfl, rfl, rfl, (fun x hx => by cases hx), rfl⟩ ?_
 rintro ⟨⟨u1, u2, u3, keep, fail, x, u4⟩, ⟨oL, oH, u5⟩, u6⟩ kn ⟨j, hj, e1, e2, e3, e4, e5⟩ hk
 simp only at e1 e2 e3 e4 e5 ⊢
 subst e1
 unfold off04_L4
 rw [show ((j : Int)).toNat = j by omega]
 refine Ok.ite (fun hlt => ?_) (fun _ => ?_)
 ·have hlt : j < c.Trucks.length := by have := of_decide_eq_true hlt; omega
  have e := succ64 (j := j) (by omega)
  have ht := hv.t _ (getD_mem' (d := dfltTruck) hlt)
  refine Ok.chk (idx_ok hlt) (Ok.bind (arrives_ok ht hv.l1 hv.l2) fun r hr => Ok.chk (idx_ok hlt) ?_)
  refine Ok.beq (a := ⟨(c.Trucks.getD j dfltTruck).Way, (c.Trucks.getD j dfltTruck).Start, (c.Trucks.getD j dfltTruck).Pace, []⟩) (by rw [free04_eq]; rfl) ?_
  refine Ok.bind (arrives_ok (free_tv ht) hv.l1 hv.l2) fun r3 hr3 => ?_
  refine Ok.chk (by unfold fitA; simp; omega) (Ok.chk (by unfold fitA; simp; omega) ?_)
  refine hk _ ⟨j + 1, hlt, e, ?_, ?_, ?_, e5⟩ ?_
  ·show (keep ++ [r.Lo]).length = _; rw [List.length_append, e2]; rfl
  ·show (fail ++ [r3.Lo]).length = _; rw [List.length_append, e3]; rfl
  ·intro y hy
   rcases List.mem_append.1 hy with hy | hy
   ·exact e4 y hy
   ·rw [List.mem_singleton.1 hy]; exact hr
  ·show c.Trucks.length - (w64 ((j : Int) + 1)).toNat < c.Trucks.length - ((j : Int)).toNat
   rw [e]; omega
 ·subst e5
  refine Ok.rounds (inv := fun v => ∃ m : Nat, m ≤ 200000 ∧ v.2.1.1 = (m : Int)) (μ := fun v => 200001 - v.2.1.1.toNat) (by show 200001 - 0 < FUEL; unfold FUEL; omega) ⟨0, Nat.zero_le _, rfl⟩ ?_
  rintro ⟨w1, ⟨aL, aH, w2⟩, w3⟩ kn2 ⟨m, hm, e6⟩ hk2
  simp only at e6 ⊢
  subst e6
  unfold off04_L9
  refine Ok.bind (may_ok (fails := c.Fails) (minute := (m : Int)) (e2.trans e3.symm) (by omega)) fun r hr => ?_
  refine Ok.ite (fun q => ?_) (fun _ => Ok.some trivial)
  have hm2 : m < 200000 := by
   rcases Nat.lt_or_ge m 200000 with h | h
   ·exact h
   ·have := hr (fun x hx => by have := e4 x hx; omega) hv.f1
    rw [this] at q; cases q
  have em := succ64 (j := m) (by omega)
  refine hk2 _ ⟨m + 1, hm2, em⟩ ?_
  show 200001 - (w64 ((m : Int) + 1)).toNat < 200001 - ((m : Int)).toNat
  rw [em]; omega
theorem Off04_ok (c : Convoy) : Ok (fun _ => True) (Off04 c) := by
 rw [Off04_eq]
 unfold Off04'
 obtain ⟨e, h1, h2⟩ := check_total c
 rw [check_same, h1]
 show Ok _ (bif e != 0 then _ else _)
 refine Ok.ite (fun _ => Ok.some trivial) fun q => ?_
 have h0 : e = 0 := by simpa using q
 exact Ok.bind (off04_ok (h2 h0)) fun _ _ => Ok.some trivial
theorem big_2 : @big_L4__2 = @big_L4 := rfl
theorem big_ok (c : Convoy) : Ok (fun _ => True) (big c) := by
 rw [big_eq]
 unfold big'
 rw [big_2]
 have loop : c.Trucks.length ≤ 25 → Ok (fun _ => True) (itN _ (fun (v_0 : (Unit × Int × Unit) × (Unit)) kn => big_L4 c v_0.1.2.1 (fun y0 => kn (((), y0, ()), (())))) (((), 0, ()), (()))) := fun hl => by
  refine Ok.rounds (inv := fun v => ∃ j : Nat, j ≤ c.Trucks.length ∧ v.1.2.1 = (j : Int)) (μ := fun v => c.Trucks.length - v.1.2.1.toNat) (by show c.Trucks.length - 0 < FUEL; unfold FUEL; omega) ⟨0, Nat.zero_le _, rfl⟩ ?_
  rintro ⟨⟨u1, x, u4⟩, u5⟩ kn ⟨j, hj, e1⟩ hk
  simp only at e1 ⊢
  subst e1
  unfold big_L4
  rw [show ((j : Int)).toNat = j by omega]
  refine Ok.ite (fun hlt => ?_) (fun _ => Ok.bind (Off04_ok c) fun r _ => Ok.ite (fun _ => Ok.some trivial) fun _ => Ok.some trivial)
  have hlt : j < c.Trucks.length := by have := of_decide_eq_true hlt; omega
  have e := succ64 (j := j) (by omega)
  refine Ok.chk (idx_ok hlt) (Ok.ite (fun _ => Ok.some trivial) fun _ => hk _ ⟨j + 1, hlt, e⟩ ?_)
  show c.Trucks.length - (w64 ((j : Int) + 1)).toNat < c.Trucks.length - ((j : Int)).toNat
  rw [e]; omega
 refine Ok.ite (fun _ => Ok.ite (fun _ => Ok.some trivial) fun _ => Ok.ite (fun _ => Ok.some trivial) fun q => loop ?_) fun _ => Ok.ite (fun _ => Ok.some trivial) fun q => loop ?_
 ·have := of_decide_eq_false q; omega
 ·have := of_decide_eq_false q; omega
end Go.Proofs.Tt05
