/- Walks by computing: what each function of the program that the laws reach gives for what it gets, as plain Lean, and that it is so; without a condition but those that stand in each theorem. -/
import Derived.Test.YtbkogeihjcnejaaGreatDoorW1
import Derived.Test.YtbkogeihjcnejaaGreatDoorW2
import Derived.Test.YtbkogeihjcnejaaGreatDoorW3
import Derived.Test.YtbkogeihjcnejaaGreatDoorW4
import Derived.Test.YtbkogeihjcnejaaGreatDoorW5
import Derived.Test.YtbkogeihjcnejaaGreatDoorW6
import Derived.Test.YtbkogeihjcnejaaGreatDoorW7
import Derived.Test.YtbkogeihjcnejaaGreatDoorW8
import Derived.Test.YtbkogeihjcnejaaGreatDoorW9
import Derived.Test.YtbkogeihjcnejaaGreatDoorW10
import Derived.Test.YtbkogeihjcnejaaGreatDoorW11
import Derived.Test.YtbkogeihjcnejaaGreatDoorW12
import Derived.Test.YtbkogeihjcnejaaGreatDoorW13
import Derived.Test.YtbkogeihjcnejaaGreatDoorW14
import Derived.Test.YtbkogeihjcnejaaGreatDoorW15
import Derived.Test.YtbkogeihjcnejaaGreatDoorW16
set_option linter.all false
namespace Go.Proofs.Tp09
open Go Go.Ab
set_option linter.all false
set_option maxRecDepth 100000
def valF (n : Nat) (b : UInt8) : Nat := 10 * n + (b.toNat - 48)
def valL (l : List UInt8) : Nat := l.foldl valF 0
theorem valL_snoc (l : List UInt8) (b : UInt8) : valL (l ++ [b]) = 10 * valL l + (b.toNat - 48) := by
 unfold valL
 rw [List.foldl_append]; rfl
theorem val_ge : ∀ (l : List UInt8) (n : Nat), 1 ≤ n → 1 ≤ l.foldl valF n
 | [], n, h => h
 | b :: l, n, h => val_ge l (valF n b) (by unfold valF; omega)
theorem val_lt : ∀ (k : Nat) (l : List UInt8), l.length = k → (∀ b ∈ l, 48 ≤ b.toNat ∧ b.toNat ≤ 57) → valL l < 10 ^ k
 | 0, l, h, _ => by
  rw [List.length_eq_zero_iff.1 h]; decide
 | k + 1, l, h, hd => by
  have hne : l ≠ [] := fun e => by rw [e] at h; cases h
  obtain ⟨a, b, rfl⟩ : ∃ a b, l = a ++ [b] := ⟨l.dropLast, l.getLast hne, (List.dropLast_concat_getLast hne).symm⟩
  have h1 : a.length = k := by rw [List.length_append] at h; exact Nat.succ.inj h
  have h2 := val_lt k a h1 fun x hx => hd x (List.mem_append_left _ hx)
  have h3 := hd b (by simp)
  rw [valL_snoc, Nat.pow_succ]
  omega
def isDig (b : UInt8) : Prop := 48 ≤ b.toNat ∧ b.toNat ≤ 57
theorem dec_val : ∀ (k f : Nat) (l : List UInt8), l.length = k → 0 < k → k ≤ f → (∀ b ∈ l, isDig b) → (k = 1 ∨ ∃ x r, l = x :: r ∧ x.toNat ≠ 48) → Tx.decF f (valL l) = l
 | 0, _, _, _, h, _, _, _ => absurd h (by decide)
 | k + 1, 0, _, _, _, h, _, _ => absurd h (by omega)
 | k + 1, f + 1, l, hl, _, hf, hd, hz => by
  have hne : l ≠ [] := fun e => by rw [e] at hl; cases hl
  obtain ⟨a, b, rfl⟩ : ∃ a b, l = a ++ [b] := ⟨l.dropLast, l.getLast hne, (List.dropLast_concat_getLast hne).symm⟩
  have h1 : a.length = k := by rw [List.length_append] at hl; exact Nat.succ.inj hl
  have h3 : isDig b := hd b (by simp)
  obtain ⟨h31, h32⟩ := h3
  have hb : UInt8.ofNat (48 + (b.toNat - 48)) = b := by
   rw [show 48 + (b.toNat - 48) = b.toNat by omega]; exact UInt8.ofNat_toNat
  rw [valL_snoc]
  unfold Tx.decF
  by_cases hk : k = 0
  ·have ha : a = [] := List.length_eq_zero_iff.1 (by omega)
   subst ha
   have hu : 10 * valL [] + (b.toNat - 48) = b.toNat - 48 := by show 10 * 0 + _ = _; omega
   rw [hu, show Nat.blt (b.toNat - 48) 10 = true by rw [Nat.blt_eq]; omega]
   show [UInt8.ofNat (48 + (b.toNat - 48))] = [b]
   rw [hb]
  ·have hza : ∃ x r, a = x :: r ∧ x.toNat ≠ 48 := by
    rcases hz with hz | ⟨x, r, e, hx⟩
    ·omega
    ·cases a with
     | nil => exact absurd h1.symm hk
     | cons y a =>
      rw [List.cons_append] at e
      injection e with e1 e2
      exact ⟨y, a, rfl, by rw [e1]; exact hx⟩
   have hda : ∀ b ∈ a, isDig b := fun x hx => hd x (List.mem_append_left _ hx)
   have hv : 1 ≤ valL a := by
    obtain ⟨x, r, rfl, hx⟩ := hza
    have := (hda x (by simp)).1
    exact val_ge r (valF 0 x) (by unfold valF; omega)
   have ih := dec_val k f a h1 (by omega) (by omega) hda (.inr hza)
   rw [show Nat.blt (10 * valL a + (b.toNat - 48)) 10 = false by
    cases hq : Nat.blt (10 * valL a + (b.toNat - 48)) 10 with
    | false => rfl
    | true => rw [Nat.blt_eq] at hq; omega]
   show Tx.decF f ((10 * valL a + (b.toNat - 48)) / 10) ++ [UInt8.ofNat (48 + (10 * valL a + (b.toNat - 48)) % 10)] = a ++ [b]
   rw [show (10 * valL a + (b.toNat - 48)) / 10 = valL a by omega, show (10 * valL a + (b.toNat - 48)) % 10 = b.toNat - 48 by omega, ih, hb]
theorem dec_head : ∀ (f u : Nat), 0 < f → 1 ≤ u → u < 10 ^ f → ∃ x r, Tx.decF f u = x :: r ∧ x.toNat ≠ 48
 | f + 1, u, _, h, hu => by
  unfold Tx.decF
  cases hb : Nat.blt u 10 with
  | true =>
   have hu10 : u < 10 := by rwa [Nat.blt_eq] at hb
   exact ⟨_, [], rfl, by rw [digit_toNat hu10]; omega⟩
  | false =>
   have hu10 : ¬ u < 10 := fun q => by rw [show Nat.blt u 10 = true by rwa [Nat.blt_eq]] at hb; cases hb
   have hf : 0 < f := by
    rcases Nat.eq_zero_or_pos f with rfl | h0
    ·simp at hu; omega
    ·exact h0
   obtain ⟨x, r, e, hx⟩ := dec_head f (u / 10) hf (by omega) (by rw [Nat.pow_succ] at hu; omega)
   exact ⟨x, r ++ [UInt8.ofNat (48 + u % 10)], by show Tx.decF f (u / 10) ++ _ = _; rw [e]; rfl, hx⟩
theorem digs_head {n : Int} (h : NumOk n) : (digs n).length = 1 ∨ ∃ x r, digs n = x :: r ∧ x.toNat ≠ 48 := by
 obtain ⟨h1, h2⟩ := h
 have e : digs n = Tx.decF 20 n.toNat := by unfold digs Tx.itoaL; rw [decide_eq_false (by omega)]; rfl
 rw [e]
 by_cases h0 : n.toNat = 0
 ·left; rw [h0]; rfl
 ·right
  have h20 : (10 : Nat) ^ 20 = 100000000000000000000 := by decide
  exact dec_head 20 n.toNat (by decide) (by omega) (by rw [h20]; omega)
theorem isNum_iff {l : List UInt8} (h1 : 1 ≤ l.length) (h9 : l.length ≤ 9) (hd : ∀ b ∈ l, isDig b) (hz : l.length = 1 ∨ ∃ x r, l = x :: r ∧ x.toNat ≠ 48) : mk l = word (valL l : Int) := by
 have hlt := val_lt l.length l rfl hd
 have h2 : 10 ^ l.length ≤ 10 ^ 9 := Nat.pow_le_pow_right (by decide) h9
 have h3 : (10 : Nat) ^ 9 = 1000000000 := by decide
 unfold word digs Tx.itoaL
 rw [decide_eq_false (by omega)]
 show mk l = mk (Tx.decF 20 ((valL l : Int)).toNat)
 rw [Int.toNat_natCast, dec_val l.length 20 l rfl (by omega) (by omega) hd hz]
theorem byteAt_at {R : Type} {s : ByteArray} {i : Nat} {k : Int → Option R} (h : i < (bl s).length) : byteAt s i k = k ((bl s)[i].toNat : Int) := by
 have hs : i < s.size := by rw [← bl_len]; exact h
 have e : s[i]? = some ((bl s)[i]) := by
  rw [getElem?_pos s i hs]
  congr 1
 unfold byteAt
 rw [e]; rfl
theorem u8_sub {b : UInt8} (h : isDig b) : IntKind.u8.wrap ((b.toNat : Int) - 48) = ((b.toNat - 48 : Nat) : Int) := by
 obtain ⟨h1, h2⟩ := h
 unfold IntKind.wrap
 simp [IntKind.bits, IntKind.signed]
 omega
def numF (u : ByteArray) (sg : Int) (n i : Int) (kn_ : Int → Int → Option (Int × Bool)) : Option (Int × Bool) :=
 bif (decide (i < (u.size : Int))) then
  chk (decide (0 ≤ i)) <|
  byteAt u i.toNat fun b3 =>
  bif (decide (b3 < 48)) then
   some (0, false)
  else
   chk (decide (0 ≤ i)) <|
   byteAt u i.toNat fun b4 =>
   bif (decide (b4 > 57)) then
    some (0, false)
   else
    chk (decide (0 ≤ i)) <|
    byteAt u i.toNat fun b5 =>
    kn_ (w64 ((w64 (10 * n)) + (w64 ((IntKind.u8.wrap (b5 - 48)))))) (w64 (i + 1))
 else
  some ((w64 (sg * n)), true)
theorem number_loop {s : ByteArray} {sg : Int} {P : Int × Bool → Prop} (h9 : (bl s).length ≤ 9) (hbad : (∃ b ∈ bl s, ¬ isDig b) → P (0, false)) (hok : (∀ b ∈ bl s, isDig b) → P (w64 (sg * (valL (bl s) : Int)), true)) :
  Ok P (itN _ (fun (v_0 : (Int × Int × Unit) × (Unit)) kn => numF s sg v_0.1.1 v_0.1.2.1 (fun y0 y1 => kn ((y0, y1, ()), (())))) ((0, 0, ()), (()))) := by
 refine Ok.rounds (inv := fun v => ∃ j : Nat, j ≤ (bl s).length ∧ v.1.2.1 = (j : Int) ∧ v.1.1 = (valL ((bl s).take j) : Int) ∧ ∀ b ∈ (bl s).take j, isDig b) (μ := fun v => (bl s).length - v.1.2.1.toNat) (by show (bl s).length - 0 < FUEL; unfold FUEL; omega) ⟨0, Nat.zero_le _, rfl, rfl, fun b hb => by cases hb⟩ ?_
 rintro ⟨⟨n, x, u⟩, u2⟩ kn ⟨j, hj, e1, e2, e3⟩ hk
 simp only at e1 e2 ⊢
 subst e1 e2
 unfold numF
 rw [show ((j : Int)).toNat = j by omega]
 have hsz := bl_len s
 refine Ok.ite (fun hlt => ?_) (fun hge => Ok.some ?_)
 ·have hlt : j < (bl s).length := by have := of_decide_eq_true hlt; omega
  have c0 : decide (0 ≤ (j : Int)) = true := decide_eq_true (by omega)
  have hmem : (bl s)[j] ∈ bl s := List.getElem_mem _
  refine Ok.chk c0 ?_
  rw [byteAt_at hlt]
  refine Ok.ite (fun q => Ok.some (hbad ⟨_, hmem, fun h => ?_⟩)) fun q1 => ?_
  ·have := of_decide_eq_true q; have := h.1; omega
  refine Ok.chk c0 ?_
  rw [byteAt_at hlt]
  refine Ok.ite (fun q => Ok.some (hbad ⟨_, hmem, fun h => ?_⟩)) fun q2 => ?_
  ·have := of_decide_eq_true q; have := h.2; omega
  have hd : isDig (bl s)[j] := by
   have := of_decide_eq_false q1; have := of_decide_eq_false q2
   exact ⟨by omega, by omega⟩
  refine Ok.chk c0 ?_
  rw [byteAt_at hlt, u8_sub hd]
  have hv := val_lt j ((bl s).take j) (by rw [List.length_take]; omega) e3
  have h2 : 10 ^ j ≤ 10 ^ 9 := Nat.pow_le_pow_right (by decide) (by omega)
  have h3 : (10 : Nat) ^ 9 = 1000000000 := by decide
  have hd2 := hd.2
  have ew : w64 (w64 (10 * (valL ((bl s).take j) : Int)) + w64 (((bl s)[j].toNat - 48 : Nat) : Int)) = (valL ((bl s).take (j + 1)) : Int) := by
   rw [w64_id (n := 10 * (valL ((bl s).take j) : Int)) (by omega) (by omega), w64_id (n := (((bl s)[j].toNat - 48 : Nat) : Int)) (by omega) (by omega), w64_id (by omega) (by omega)]
   rw [List.take_succ, List.getElem?_eq_getElem hlt]
   show _ = ((valL ((bl s).take j ++ [(bl s)[j]]) : Nat) : Int)
   rw [valL_snoc]; push_cast; rfl
  have ej : w64 ((j : Int) + 1) = ((j + 1 : Nat) : Int) := by rw [w64_id (by omega) (by omega)]; push_cast; rfl
  refine hk _ ⟨j + 1, hlt, ej, ew, fun b hb => ?_⟩ ?_
  ·rw [List.take_succ, List.getElem?_eq_getElem hlt] at hb
   rcases List.mem_append.1 hb with hb | hb
   ·exact e3 b hb
   ·rw [show b = (bl s)[j] by simpa using hb]; exact hd
  ·show (bl s).length - (w64 ((j : Int) + 1)).toNat < (bl s).length - ((j : Int)).toNat
   rw [ej]; omega
 ·have hjn : j = (bl s).length := by have := of_decide_eq_false hge; omega
  subst hjn
  rw [List.take_length] at e3 ⊢
  exact hok e3
theorem n8_1 (s : ByteArray) : number09_L8 s = numF (subS s 1 (s.size : Int)) (-1) := rfl
theorem n8_2 (s : ByteArray) : number09_L8__2 s = numF (subS s 1 (s.size : Int)) (-1) := rfl
theorem n8_3 (s : ByteArray) : number09_L8__3 s = numF s 1 := rfl
theorem n8_4 (s : ByteArray) : number09_L8__4 s = numF s 1 := rfl
theorem bl_sub (s : ByteArray) (i j : Nat) : bl (subS s (i : Int) (j : Int)) = ((bl s).take j).drop i := by
 unfold subS subB
 exact bl_mk _
def NumR (s : ByteArray) (r : Int × Bool) : Prop := (r.2 = true ∧ NumOk r.1 ∧ s = word r.1) ∨ (¬ isNum s ∧ (r.2 = false ∨ r.1 < 0))
theorem number09_ok (s : ByteArray) : Ok (NumR s) (number09 s 6) := by
 rw [number09_eq]
 unfold number09'
 simp only [n8_1, n8_2, n8_3, n8_4]
 have hsz := bl_len s
 have no : (isNum s → False) → NumR s (0, false) := fun h => .inr ⟨h, .inl rfl⟩
 have blw : ∀ {n : Int}, s = word n → bl s = digs n := fun h => by rw [h]; exact bl_mk _
 have none0 : (s.size : Int) < 1 → NumR s (0, false) := fun q => no fun ⟨n, hn, e⟩ => by
  have h0 : (bl s).length = 0 := by omega
  rw [blw e] at h0
  have : digs n = Tx.decF 20 n.toNat := by unfold digs Tx.itoaL; rw [decide_eq_false (by have := hn.1; omega)]; rfl
  rw [this] at h0
  exact dec_ne 20 _ (by decide) (List.length_eq_zero_iff.1 h0)
 refine Ok.ite (fun q0 => ?_) (fun q0 => Ok.ite (fun q => Ok.some (none0 (of_decide_eq_true q))) fun q => ?_)
 ·have q0 : 1 ≤ (bl s).length := by have := of_decide_eq_true q0; omega
  refine Ok.chk (by decide) ?_
  rw [byteAt_at (show 0 < (bl s).length from q0)]
  refine Ok.ite (fun qm => ?_) (fun qm => Ok.ite (fun q => Ok.some (none0 (of_decide_eq_true q))) fun q1 => Ok.ite (fun q => Ok.some (no fun ⟨n, hn, e⟩ => ?_)) fun q2 => ?_)
  ·have hmin : ¬ isNum s := fun ⟨n, hn, e⟩ => by
    have h1 : (bl s)[0] ∈ digs n := blw e ▸ List.getElem_mem _
    have h2 := (digs_mem hn.1 h1).1
    have := eq_of_beq qm
    omega
   have hl : bl (subS s 1 (s.size : Int)) = (bl s).drop 1 := by
    have h1 := bl_sub s 1 s.size
    rw [← hsz, List.take_length] at h1
    rw [← hsz]; exact h1
   have hls := bl_len (subS s 1 (s.size : Int))
   have hld : ((bl s).drop 1).length = (bl s).length - 1 := List.length_drop
   rw [hl] at hls
   have nof : NumR s (0, false) := .inr ⟨hmin, .inl rfl⟩
   refine Ok.chk (by simp; omega) (Ok.ite (fun _ => Ok.some nof) fun q1 => Ok.ite (fun _ => Ok.some nof) fun q2 => Ok.chk (by decide) ?_)
   have q1 := of_decide_eq_false q1
   have q2 := of_decide_eq_false q2
   have h0 : 0 < (bl (subS s 1 (s.size : Int))).length := by rw [hl]; omega
   rw [byteAt_at h0]
   refine Ok.ite (fun q3 => Ok.ite (fun _ => Ok.some nof) fun q4 => absurd (of_decide_eq_false q4) (by omega)) fun q3 => ?_
   refine number_loop (by rw [hl]; omega) (fun _ => nof) fun hd => .inr ⟨hmin, .inr ?_⟩
   have hv := val_lt _ _ rfl hd
   have h2 : 10 ^ (bl (subS s 1 (s.size : Int))).length ≤ 10 ^ 9 := Nat.pow_le_pow_right (by decide) (by rw [hl]; omega)
   have h3 : (10 : Nat) ^ 9 = 1000000000 := by decide
   have hge : 1 ≤ valL (bl (subS s 1 (s.size : Int))) := by
    generalize bl (subS s 1 (s.size : Int)) = l at h0 q3 hd
    cases l with
    | nil => exact absurd h0 (by decide)
    | cons x r =>
     have h4 : (x.toNat : Int) ≠ 48 := fun e => by
      rw [show (x :: r)[0] = x from rfl, e] at q3
      cases q3
     have := (hd x (by simp)).1
     exact val_ge r (valF 0 x) (by unfold valF; omega)
   show w64 (-1 * _) < 0
   rw [w64_id (by omega) (by omega)]
   omega
  ·have := of_decide_eq_true q
   have h1 := digs_len hn.1 hn.2
   rw [← blw e] at h1
   omega
  ·have q2 := of_decide_eq_false q2
   have fin : ((bl s).length = 1 ∨ ∃ x r, bl s = x :: r ∧ x.toNat ≠ 48) → Ok (NumR s) (itN _ (fun (v_0 : (Int × Int × Unit) × (Unit)) kn => numF s 1 v_0.1.1 v_0.1.2.1 (fun y0 y1 => kn ((y0, y1, ()), (())))) ((0, 0, ()), (()))) := fun hz =>
    number_loop (by omega) (fun ⟨b, hb, hb2⟩ => no fun ⟨n, hn, e⟩ => hb2 (digs_mem hn.1 (blw e ▸ hb))) fun hd => by
     have := isNum_iff q0 (by omega) hd hz
     have hw : w64 (1 * (valL (bl s) : Int)) = (valL (bl s) : Int) := by
      have hv := val_lt _ _ rfl hd
      have h2 : 10 ^ (bl s).length ≤ 10 ^ 9 := Nat.pow_le_pow_right (by decide) (by omega)
      have h3 : (10 : Nat) ^ 9 = 1000000000 := by decide
      rw [w64_id (by omega) (by omega), Int.one_mul]
     rw [hw]
     exact .inl ⟨rfl, ⟨by omega, by have hv := val_lt _ _ rfl hd; have h2 : 10 ^ (bl s).length ≤ 10 ^ 6 := Nat.pow_le_pow_right (by decide) (by omega); have h3 : (10 : Nat) ^ 6 = 1000000 := (by decide); show (valL (bl s) : Int) ≤ 999999; omega⟩, this⟩
   refine Ok.chk (by decide) ?_
   rw [byteAt_at (show 0 < (bl s).length from q0)]
   refine Ok.ite (fun q3 => Ok.ite (fun q => Ok.some (no fun ⟨n, hn, e⟩ => ?_)) fun q4 => fin (.inl ?_)) fun q3 => fin (.inr ?_)
   ·have q := of_decide_eq_true q
    have h1 := digs_head hn
    rw [← blw e] at h1
    rcases h1 with h1 | ⟨x, r, h1, h2⟩
    ·omega
    ·have h3 : (bl s)[0] = x := by simp [h1]
     rw [h3] at q3
     have := eq_of_beq q3
     omega
   ·have := of_decide_eq_false q4; omega
   ·obtain ⟨x, r, h1⟩ := List.exists_cons_of_ne_nil (l := bl s) (fun e => by rw [e] at q0; exact absurd q0 (by decide))
    have h3 : (bl s)[0] = x := by simp [h1]
    rw [h3] at q3
    refine ⟨x, r, h1, fun e => ?_⟩
    rw [e] at q3
    cases q3
 ·have := of_decide_eq_false q; have := of_decide_eq_false q0; omega
theorem numbers09_ok {ws : List ByteArray} {m : Int} (hl : ws.length ≤ 1000000) : Ok (fun r => (r.2 = true ∧ ws = r.1.map word ∧ (r.1.length : Int) = m ∧ ∀ n ∈ r.1, NumOk n) ∨ (r = ([], false) ∧ ((ws.length : Int) ≠ m ∨ ∃ w ∈ ws, ¬ isNum w))) (numbers09 ws m) := by
 rw [numbers09_eq]
 unfold numbers09'
 refine Ok.ite (fun q => Ok.some (.inr ⟨rfl, .inl (by simpa using q)⟩)) (fun q => ?_)
 have hm : (ws.length : Int) = m := by simpa using q
 refine Ok.rounds (inv := fun v => ∃ j : Nat, j ≤ ws.length ∧ v.1.2.1 = (j : Int) ∧ v.1.1.length = j ∧ ws.take j = v.1.1.map word ∧ ∀ n ∈ v.1.1, NumOk n) (μ := fun v => ws.length - v.1.2.1.toNat) (by show ws.length - 0 < FUEL; unfold FUEL; omega) ⟨0, Nat.zero_le _, rfl, rfl, rfl, fun n h => by cases h⟩ ?_
 rintro ⟨⟨out, x, u⟩, u2⟩ kn ⟨j, hj, e1, e2, e3, e4⟩ hk
 simp only at e1 e2 e3 e4 ⊢
 subst e1
 unfold numbers09_L5
 rw [show ((j : Int)).toNat = j by omega]
 refine Ok.ite (fun hlt => ?_) (fun hge => ?_)
 ·have hlt : j < ws.length := by have := of_decide_eq_true hlt; omega
  refine Ok.chk (idx_ok hlt) ?_
  have hmem := getD_mem' (d := (⟨#[]⟩ : ByteArray)) hlt
  generalize hw : ws.getD j (⟨#[]⟩ : ByteArray) = w at hmem
  refine Ok.bind (number09_ok w) fun r hr => ?_
  rcases hr with ⟨h1, h2, h3⟩ | ⟨h1, h2⟩
  ·rw [h1]
   refine Ok.ite (fun q => (nomatch (show false = true from q))) fun _ => Ok.ite (fun q => absurd (of_decide_eq_true q) (by have := h2.1; omega)) fun _ => ?_
   refine Ok.chk (by unfold fitA; simp; omega) ?_
   have ej : w64 ((j : Int) + 1) = ((j + 1 : Nat) : Int) := by rw [w64_id (by omega) (by omega)]; push_cast; rfl
   refine hk _ ⟨j + 1, hlt, ej, ?_, ?_, ?_⟩ ?_
   ·show (out ++ [r.1]).length = _
    rw [List.length_append, e2]; rfl
   ·show _ = (out ++ [r.1]).map word
    rw [map_take_snoc hlt, hw, e3, List.map_append, List.map_singleton, ← h3]
   ·intro n hn
    rcases List.mem_append.1 hn with h | h
    ·exact e4 n h
    ·rw [List.mem_singleton.1 h]; exact h2
   ·show ws.length - (w64 ((j : Int) + 1)).toNat < ws.length - ((j : Int)).toNat
    rw [ej]; omega
  ·have bad : Ok (fun r : List Int × Bool => (r.2 = true ∧ ws = r.1.map word ∧ (r.1.length : Int) = m ∧ ∀ n ∈ r.1, NumOk n) ∨ (r = ([], false) ∧ ((ws.length : Int) ≠ m ∨ ∃ w ∈ ws, ¬ isNum w))) (some (([] : List Int), false)) := Ok.some (.inr ⟨rfl, .inr ⟨w, hmem, h1⟩⟩)
   refine Ok.ite (fun _ => bad) fun q => Ok.ite (fun _ => bad) fun q2 => ?_
   rcases h2 with h2 | h2
   ·rw [h2] at q; cases q
   ·exact absurd h2 (of_decide_eq_false q2)
 ·have hjn : j = ws.length := by have := of_decide_eq_false hge; omega
  refine Ok.some (.inl ⟨rfl, ?_, ?_, e4⟩)
  ·rw [← e3, hjn, List.take_length]
  ·show (out.length : Int) = m
   omega
theorem words_inj : ∀ (l k : List Int), (∀ n ∈ l, NumOk n) → (∀ n ∈ k, NumOk n) → l.map word = k.map word → l = k
 | [], [], _, _, _ => rfl
 | [], _ :: _, _, _, e => by cases e
 | _ :: _, [], _, _, e => by cases e
 | x :: l, y :: k, h1, h2, e => by
  simp only [List.map_cons, List.cons.injEq] at e
  rw [word_inj (h1 _ (List.mem_cons_self ..)) (h2 _ (List.mem_cons_self ..)) e.1, words_inj l k (fun n hn => h1 n (List.mem_cons_of_mem _ hn)) (fun n hn => h2 n (List.mem_cons_of_mem _ hn)) e.2]
theorem numbers_both {ws : List ByteArray} {m : Int} (hl : ws.length ≤ 1000000) (hs : ∀ w ∈ ws, w.size ≤ 1000000) : (∃ ns, numbers ws m = some (ns, true) ∧ numbers09 ws m = some (ns, true) ∧ (ns.length : Int) = m) ∨ ((∃ ns, numbers ws m = some (ns, false)) ∧ numbers09 ws m = some ([], false)) := by
 obtain ⟨r, h1, h2⟩ := numbers_ok (m := m) hl hs
 obtain ⟨r', h1', h2'⟩ := numbers09_ok (ws := ws) (m := m) hl
 have no : ∀ {r : List Int × Bool}, r.2 = true ∧ ws = r.1.map word ∧ (r.1.length : Int) = m ∧ (∀ n ∈ r.1, NumOk n) → ¬ ((ws.length : Int) ≠ m ∨ ∃ w ∈ ws, ¬ isNum w) := fun {r} ⟨_, b, c, d⟩ h => by
  rcases h with h | ⟨w, hw, h⟩
  ·rw [b, List.length_map] at h; exact h c
  ·rw [b] at hw
   obtain ⟨n, hn, rfl⟩ := List.mem_map.1 hw
   exact h ⟨n, d n hn, rfl⟩
 obtain ⟨r1, r2⟩ := r
 obtain ⟨s1, s2⟩ := r'
 rcases h2 with h2 | ⟨a, b⟩
 ·rcases h2' with h2' | ⟨a', b'⟩
  ·have e := words_inj s1 r1 h2'.2.2.2 h2.2.2.2 (h2'.2.1.symm.trans h2.2.1)
   simp only at e h2 h2'
   exact .inl ⟨r1, by rw [h1, h2.1], by rw [h1', h2'.1, e], h2.2.2.1⟩
  ·exact absurd b' (no h2)
 ·rcases h2' with h2' | ⟨a', b'⟩
  ·exact absurd b (no h2')
  ·simp only at a
   exact .inr ⟨⟨r1, by rw [h1, a]⟩, by rw [h1', a']⟩
theorem split09_ok {s : ByteArray} {c : UInt8} (h : s.size ≤ 1000000) : split09 s (c.toNat : Int) = some (Tx.splitV s ⟨#[c]⟩) := by
 refine Crew.ok_eq ?_
 rw [split09_eq]
 unfold split09'
 have hsz := bl_len s
 have hlen : ∀ k : List ByteArray, ∀ r, k.map bl ++ r = splitL c (bl s) → k.length ≤ 1000001 := fun k r e => by
  have h1 := split_len c (bl s)
  rw [← e, List.length_append, List.length_map] at h1
  omega
 refine Ok.rounds (inv := fun v => ∃ i f : Nat, v.1.2.2.1 = (i : Int) ∧ v.1.2.1 = (f : Int) ∧ f ≤ i ∧ ((i ≤ (bl s).length ∧ v.1.1.map bl ++ splitL c ((bl s).drop f) = splitL c (bl s) ∧ c ∉ ((bl s).drop f).take (i - f)) ∨ (i = (bl s).length + 1 ∧ v.1.1.map bl = splitL c (bl s)))) (μ := fun v => (bl s).length + 1 - v.1.2.2.1.toNat) (by show (bl s).length + 1 - 0 < FUEL; unfold FUEL; omega) ⟨0, 0, rfl, rfl, Nat.le_refl _, .inl ⟨Nat.zero_le _, rfl, fun hm => by rw [Nat.sub_self] at hm; cases hm⟩⟩ ?_
 rintro ⟨⟨out, x, y, u⟩, u2⟩ kn ⟨i, f, e1, e2, hf, hinv⟩ hk
 simp only at e1 e2 hinv ⊢
 subst e1 e2
 unfold split09_L4
 rw [show ((i : Int)).toNat = i by omega]
 have ei : i ≤ 1000001 → w64 ((i : Int) + 1) = ((i + 1 : Nat) : Int) := fun _ => by rw [w64_id (by omega) (by omega)]; push_cast; rfl
 rcases hinv with ⟨hi, h1, h2⟩ | ⟨hi, h1⟩
 ·refine Ok.ite (fun _ => ?_) (fun q => absurd (of_decide_eq_false q) (by omega))
  have hol := hlen out _ h1
  have sl : (decide (0 ≤ (f : Int)) && decide ((f : Int) ≤ (i : Int)) && decide ((i : Int) ≤ (s.size : Int))) = true := by simp; omega
  have fit : fitA (out.length + [subS s (f : Int) (i : Int)].length) 16 = true := by unfold fitA; simp; omega
  have piece : bl (subS s (f : Int) (i : Int)) = ((bl s).drop f).take (i - f) := by rw [bl_sub, List.drop_take]
  have dec : (bl s).length + 1 - (w64 ((i : Int) + 1)).toNat < (bl s).length + 1 - ((i : Int)).toNat := by rw [ei (by omega)]; omega
  refine Ok.ite (fun q => ?_) (fun q => ?_)
  ·have hin : i = (bl s).length := by have := eq_of_beq q; omega
   refine Ok.chk sl (Ok.chk fit (hk _ ⟨i + 1, i + 1, ei (by omega), ei (by omega), Nat.le_refl _, .inr ⟨by omega, ?_⟩⟩ dec))
   show (out ++ [subS s (f : Int) (i : Int)]).map bl = _
   have e3 : ((bl s).drop f).take (i - f) = (bl s).drop f := List.take_of_length_le (by rw [List.length_drop]; omega)
   rw [e3] at h2 piece
   rw [splitL_none c _ h2] at h1
   rw [List.map_append, List.map_singleton, piece]; exact h1
  ·have hin : i < (bl s).length := by
    have : ¬ (i : Int) = (s.size : Int) := by simpa using q
    omega
   refine Ok.chk (decide_eq_true (by omega)) ?_
   rw [byteAt_at hin]
   have hdrop : (bl s).drop f = ((bl s).drop f).take (i - f) ++ (bl s)[i] :: (bl s).drop (i + 1) := by
    have h3 : ((bl s).drop f).drop (i - f) = (bl s).drop i := by rw [List.drop_drop]; congr 1; omega
    have h4 := List.take_append_drop (i - f) ((bl s).drop f)
    rw [h3, List.drop_eq_getElem_cons hin] at h4
    exact h4.symm
   refine Ok.ite (fun q2 => ?_) (fun q2 => ?_)
   ·have hc : (bl s)[i] = c := by
     have := eq_of_beq q2
     exact UInt8.toNat_inj.1 (by omega)
    refine Ok.chk sl (Ok.chk fit (hk _ ⟨i + 1, i + 1, ei (by omega), ei (by omega), Nat.le_refl _, .inl ⟨hin, ?_, fun hm => by rw [Nat.sub_self] at hm; cases hm⟩⟩ dec))
    show (out ++ [subS s (f : Int) (i : Int)]).map bl ++ splitL c ((bl s).drop (i + 1)) = _
    rw [hdrop, hc, splitL_app c _ _ h2] at h1
    rw [List.map_append, List.map_singleton, piece, List.append_assoc]; exact h1
   ·have hc : (bl s)[i] ≠ c := fun e => by rw [e] at q2; simp at q2
    refine hk _ ⟨i + 1, f, ei (by omega), rfl, by omega, .inl ⟨hin, h1, fun hm => ?_⟩⟩ dec
    rw [show i + 1 - f = (i - f) + 1 by omega, List.take_succ] at hm
    have h5 : ((bl s).drop f)[i - f]? = some (bl s)[i] := by
     rw [List.getElem?_drop, show f + (i - f) = i by omega, List.getElem?_eq_getElem hin]
    rw [h5] at hm
    rcases List.mem_append.1 hm with hm | hm
    ·exact h2 hm
    ·have h6 : c = (bl s)[i] := by simpa using hm
     exact hc h6.symm
 ·refine Ok.ite (fun q => absurd (of_decide_eq_true q) (by omega)) (fun _ => Ok.some ?_)
  rw [splitV_eq, ← h1, List.map_map, show (mk ∘ bl) = id from rfl, List.map_id]
end Go.Proofs.Tp09
namespace Go.Proofs.Tp09
open Go Go.Ab
open Go.Proofs.Crew (within moment within_sp pCheck az ib)
set_option linter.all false
set_option maxRecDepth 100000
theorem dw_all {α : Type} {p : α → Bool} : ∀ {l : List α}, (∀ b ∈ l.dropWhile p, p b = true) → ∀ b ∈ l, p b = true
 | [], _, b, hb => by cases hb
 | a :: l, h, b, hb => by
  cases ha : p a with
  | false =>
   rw [List.dropWhile_cons_of_neg (by rw [ha]; simp)] at h
   exact h b hb
  | true =>
   rw [List.dropWhile_cons_of_pos ha] at h
   rcases List.mem_cons.1 hb with rfl | hb
   ·exact ha
   ·exact dw_all h b hb
theorem dw_nil {α : Type} {p : α → Bool} : ∀ {l : List α}, (∀ b ∈ l, p b = true) → l.dropWhile p = []
 | [], _ => rfl
 | a :: l, h => by
  rw [List.dropWhile_cons_of_pos (h a (List.mem_cons_self ..))]
  exact dw_nil fun b hb => h b (List.mem_cons_of_mem _ hb)
theorem trimS_nil (l cs : List UInt8) : Lib.trimS l cs = [] ↔ ∀ b ∈ l, cs.contains b = true := by
 unfold Lib.trimS Lib.trimLeftS Lib.trimRightS
 constructor
 ·intro h
  have h1 : ∀ b ∈ (l.reverse.dropWhile (cs.contains ·)).reverse, cs.contains b = true := dw_all (p := (cs.contains ·)) (by rw [h]; intro b hb; cases hb)
  have h2 := dw_all (p := (cs.contains ·)) (l := l.reverse) (fun b hb => h1 b (by simpa using hb))
  exact fun b hb => h2 b (by simpa using hb)
 ·intro h
  have : l.reverse.dropWhile (cs.contains ·) = [] := dw_nil (p := (cs.contains ·)) fun b hb => h b (by simpa using hb)
  rw [this]; rfl
def lowB (b : UInt8) : Bool := decide (97 ≤ b.toNat) && decide (b.toNat ≤ 122)
theorem azc : ∀ n : Fin 256, az.data.toList.contains (UInt8.ofNat n.val) = (decide (97 ≤ n.val) && decide (n.val ≤ 122)) := by decide +kernel
theorem az_low (b : UInt8) : az.data.toList.contains b = lowB b := by
 have h := azc ⟨b.toNat, b.toNat_lt⟩
 simp only [UInt8.ofNat_toNat] at h
 exact h
def nameB (s : ByteArray) : Bool := decide (1 ≤ s.size) && decide (s.size ≤ 8) && s.data.toList.all lowB
theorem trim_any (s : ByteArray) (hs : s.size ≤ 1000000) : Tx.trim s az = some (Tx.trimV s az) := by
 rw [Tx.trim_eq]
 have h : Tx.okTrim s az = true := by
  unfold Tx.okTrim
  rw [decide_eq_true (show s.size ≤ 9223372036854775807 by omega)]
  decide +kernel
 rw [h]; rfl
theorem trimV_empty (s : ByteArray) : ((Tx.trimV s az).toList == (⟨#[]⟩ : ByteArray).toList) = s.data.toList.all lowB := by
 rw [Lib.toList_data, Lib.toList_data]
 have : (Tx.trimV s az).data.toList = Lib.trimS s.data.toList az.data.toList := by simp [Tx.trimV]
 rw [this]
 have hi := trimS_nil s.data.toList az.data.toList
 cases ha : s.data.toList.all lowB with
 | true =>
  rw [List.all_eq_true] at ha
  rw [hi.2 fun b hb => by rw [az_low]; exact ha b hb]
  rfl
 | false =>
  have hne : Lib.trimS s.data.toList az.data.toList ≠ [] := fun he => by
   have h2 := hi.1 he
   have : s.data.toList.all lowB = true := by
    rw [List.all_eq_true]
    intro b hb
    rw [← az_low]; exact h2 b hb
   rw [this] at ha; cases ha
  simpa using hne
theorem byteAt_get {R : Type} {s : ByteArray} {i : Nat} (h : i < s.size) (k : Int → Option R) : byteAt s i k = k (s.data.toList[i]'(by simpa using h)).toNat := by
 have : s[i]? = some (s.data.toList[i]'(by simpa using h)) := by
  rw [getElem?_pos s i h]
  congr 1
 unfold byteAt
 rw [this]
theorem named_sp (s : ByteArray) (hs : s.size ≤ 1000000) : named s = some (nameB s) := by
 apply Crew.ok_eq
 rw [named_eq]
 unfold named'
 refine Ok.rounds (fun v => ∃ i : Nat, v.1.1 = (i : Int) ∧ i ≤ s.size ∧ (s.data.toList.take i).all lowB = true) (fun v => (s.size - v.1.1).toNat) ?_ ⟨0, rfl, by omega, by simp⟩ ?_
 ·simp only; unfold FUEL; omega
 rintro ⟨⟨x, u1⟩, u2⟩ kn ⟨i, h1, h2, h3⟩ hk
 simp only at h1 h2 h3 hk ⊢
 subst h1
 unfold named_L2
 have hlen : s.data.toList.length = s.size := by simp
 refine Ok.ite (fun hc => ?_) (fun hc => ?_)
 ·have hi : i < s.size := by have := of_decide_eq_true hc; omega
  refine Ok.chk (decide_eq_true (by omega)) ?_
  simp only [Int.toNat_natCast]
  rw [byteAt_get hi]
  have hmem : s.data.toList[i]'(by omega) ∈ s.data.toList := List.getElem_mem _
  have hb : lowB (s.data.toList[i]'(by omega)) = false → nameB s = false := fun hf => by
   have : s.data.toList.all lowB = false := by
    rw [List.all_eq_false]
    exact ⟨_, hmem, by rw [hf]; simp⟩
   unfold nameB
   rw [this, Bool.and_false]
  generalize hbb : s.data.toList[i]'(by omega) = b at hb
  refine Ok.ite (fun hc => ?_) (fun hc => ?_)
  ·have hc := of_decide_eq_true hc
   exact Ok.some (hb (by unfold lowB; rw [decide_eq_false (show ¬ 97 ≤ b.toNat by omega)]; rfl)).symm
  ·have hc := of_decide_eq_false hc
   refine Ok.chk (decide_eq_true (by omega)) ?_
   rw [byteAt_get hi, hbb]
   refine Ok.ite (fun hc2 => ?_) (fun hc2 => ?_)
   ·have hc2 := of_decide_eq_true hc2
    exact Ok.some (hb (by unfold lowB; rw [decide_eq_false (show ¬ b.toNat ≤ 122 by omega), Bool.and_false])).symm
   ·have hc2 := of_decide_eq_false hc2
    have e1 : w64 ((i : Int) + 1) = (i : Int) + 1 := w64_id (by omega) (by omega)
    rw [e1]
    refine hk (((i : Int) + 1, ()), ()) ⟨i + 1, by simp, by omega, ?_⟩ (by simp only; omega)
    have hlo : lowB b = true := by unfold lowB; rw [decide_eq_true (show 97 ≤ b.toNat by omega), decide_eq_true (show b.toNat ≤ 122 by omega)]; rfl
    rw [List.take_succ, List.getElem?_eq_getElem (by omega), hbb]
    simp [h3, hlo]
 ·have hi : i = s.size := by have := of_decide_eq_false hc; omega
  subst hi
  rw [← hlen, List.take_length] at h3
  unfold nameB
  rw [h3]
  by_cases hz : 1 ≤ s.size
  ·rw [decide_eq_true (show (s.size : Int) ≥ 1 by omega), decide_eq_true hz]
   refine Ok.some ?_
   rw [Bool.true_and, Bool.and_true, decide_eq_decide]; omega
  ·rw [decide_eq_false (show ¬ (s.size : Int) ≥ 1 by omega), decide_eq_false hz]
   exact Ok.some rfl
theorem outside_sp (n a b : Int) : outside n a b = some (!(decide (a ≤ n) && decide (n ≤ b))) := by
 rw [outside_eq]; unfold outside'
 by_cases h : n < a
 ·rw [decide_eq_true h, decide_eq_false (show ¬ a ≤ n by omega)]; rfl
 ·rw [decide_eq_false h, decide_eq_true (show a ≤ n by omega)]
  by_cases h2 : n ≤ b
  ·rw [decide_eq_true h2, decide_eq_false (show ¬ n > b by omega)]; rfl
  ·rw [decide_eq_false h2, decide_eq_true (show n > b by omega)]; rfl
def inB (n a b : Int) : Bool := decide (a ≤ n) && decide (n ≤ b)
theorem within_in (n a b : Int) : within n a b = some (inB n a b) := within_sp n a b
theorem outside_in (n a b : Int) : outside n a b = some (!(inB n a b)) := outside_sp n a b
theorem inB_iff {n a b : Int} : inB n a b = true ↔ a ≤ n ∧ n ≤ b := by simp [inB]
def spanE (x : Span) : Int := bif inB x.Lo 0 3000 && inB x.Hi 0 3000 then (bif decide (x.Lo > x.Hi) then 11 else 0) else 2
theorem momE (x : Span) : moment x = some (spanE x) := by
 rw [Crew.moment_eq]; unfold Crew.moment' spanE
 simp only [within_in, Option.bind_some]
 cases inB x.Lo 0 3000 <;> cases inB x.Hi 0 3000 <;> cases decide (x.Lo > x.Hi) <;> rfl
theorem rSpanE (x : Span) : rSpan x = some (spanE x) := by
 rw [rSpan_eq]; unfold rSpan' spanE
 simp only [outside_in, Option.bind_some]
 cases inB x.Lo 0 3000 <;> cases inB x.Hi 0 3000 <;> cases decide (x.Lo > x.Hi) <;> rfl
def turnE (l : List Turn) (i : Nat) : Int := bif spanE (l.getD i dfltTurn).From != 0 then spanE (l.getD i dfltTurn).From else bif spanE (l.getD i dfltTurn).To != 0 then spanE (l.getD i dfltTurn).To else bif decide ((l.getD i dfltTurn).From.Hi > (l.getD i dfltTurn).To.Lo) then 11 else bif decide (0 < i) && decide ((l.getD i dfltTurn).From.Lo < (l.getD (i - 1) dfltTurn).To.Hi) then 12 else 0
def firstE (l : List Turn) : Nat → Nat → Int
 | _, 0 => 0
 | i, n + 1 => bif turnE l i == 0 then firstE l (i + 1) n else turnE l i
theorem firstE_zero {l : List Turn} : ∀ {n i : Nat}, firstE l i n = 0 → ∀ k, i ≤ k → k < i + n → turnE l k = 0
 | 0, i, _, k, h1, h2 => by omega
 | n + 1, i, h, k, h1, h2 => by
  simp only [firstE] at h
  cases ht : turnE l i == 0 with
  | false =>
   rw [ht] at h
   have : turnE l i ≠ 0 := by simpa using ht
   exact absurd h this
  | true =>
   rw [ht] at h
   by_cases e : k = i
   ·subst e; simpa using ht
   ·exact firstE_zero (n := n) (i := i + 1) h k (by omega) (by omega)
def checkE (d : Driver) : Int := bif nameB d.Name then (bif inB d.Skills 0 255 then (bif decide ((d.Turns.length : Int) > 20) then 8 else firstE d.Turns 0 d.Turns.length) else 2) else 3
theorem turnsLoop {d : Driver} {chkS : Span → Option Int} (hS : ∀ x, chkS x = some (spanE x)) {kn : Int → Option Int} {i : Nat} (hi : i < d.Turns.length) (hl : d.Turns.length ≤ 1000000)
  (hk : Ok (fun r => r = firstE d.Turns (i + 1) (d.Turns.length - (i + 1))) (kn ((i : Int) + 1))) :
  Ok (fun r => r = firstE d.Turns i (d.Turns.length - i)) (chk (decide (0 ≤ (i : Int)) && decide ((i : Int) < (d.Turns.length : Int))) <|
  (chkS ((d.Turns.getD (i : Int).toNat dfltTurn).From)).bind fun r9 =>
  bif (r9 != 0) then
   some r9
  else
   (chkS ((d.Turns.getD (i : Int).toNat dfltTurn).To)).bind fun r10 =>
   bif (r10 != 0) then
    some r10
   else
    bif (decide ((d.Turns.getD (i : Int).toNat dfltTurn).From.Hi > (d.Turns.getD (i : Int).toNat dfltTurn).To.Lo)) then
     some 11
    else
     bif (decide ((i : Int) > 0)) then
      chk (decide (0 ≤ (w64 ((i : Int) - 1))) && decide ((w64 ((i : Int) - 1)) < (d.Turns.length : Int))) <|
      bif (decide ((d.Turns.getD (i : Int).toNat dfltTurn).From.Lo < (d.Turns.getD (w64 ((i : Int) - 1)).toNat dfltTurn).To.Hi)) then
       some 12
      else
       kn (w64 ((i : Int) + 1))
     else
      kn (w64 ((i : Int) + 1))) := by
 have e1 : w64 ((i : Int) + 1) = (i : Int) + 1 := w64_id (by omega) (by omega)
 have hn : d.Turns.length - i = (d.Turns.length - (i + 1)) + 1 := by omega
 rw [hn]
 simp only [firstE, Int.toNat_natCast, e1]
 have bad : ∀ e : Int, turnE d.Turns i = e → e ≠ 0 → Ok (fun r => r = bif turnE d.Turns i == 0 then firstE d.Turns (i + 1) (d.Turns.length - (i + 1)) else turnE d.Turns i) (some e) := fun e he h0 => by
  refine Ok.some ?_
  have : (turnE d.Turns i == 0) = false := by rw [he]; simpa using h0
  rw [this, he]; rfl
 have good : turnE d.Turns i = 0 → Ok (fun r => r = bif turnE d.Turns i == 0 then firstE d.Turns (i + 1) (d.Turns.length - (i + 1)) else turnE d.Turns i) (kn ((i : Int) + 1)) := fun he => by
  rw [he]; exact hk
 refine Ok.chk (ib (by omega) (by omega)) ?_
 refine Crew.Ok.beq (hS _) ?_
 cases h1 : spanE (d.Turns.getD i dfltTurn).From != 0 with
 | true => exact bad _ (by unfold turnE; rw [h1]; rfl) (by simpa using h1)
 | false =>
  refine Crew.Ok.no rfl ?_
  refine Crew.Ok.beq (hS _) ?_
  cases h2 : spanE (d.Turns.getD i dfltTurn).To != 0 with
  | true => exact bad _ (by unfold turnE; rw [h1, h2]; rfl) (by simpa using h2)
  | false =>
   refine Crew.Ok.no rfl ?_
   refine Ok.ite (fun h3 => bad 11 (by unfold turnE; rw [h1, h2, h3]; rfl) (by decide)) (fun h3 => ?_)
   refine Ok.ite (fun h4 => ?_) (fun h4 => ?_)
   ·have hp := of_decide_eq_true h4
    have e2 : w64 ((i : Int) - 1) = (i : Int) - 1 := w64_id (by omega) (by omega)
    have e3 : ((i : Int) - 1).toNat = i - 1 := by omega
    rw [e2, e3]
    refine Ok.chk (by simp; omega) ?_
    have h4' : decide (0 < i) = true := decide_eq_true (by omega)
    refine Ok.ite (fun h5 => bad 12 (by unfold turnE; rw [h1, h2, h3, h4', h5]; rfl) (by decide)) (fun h5 => good (by unfold turnE; rw [h1, h2, h3, h5, Bool.and_false]; rfl))
   ·have hp := of_decide_eq_false h4
    have h4' : decide (0 < i) = false := decide_eq_false (by omega)
    exact good (by unfold turnE; rw [h1, h2, h3, h4']; rfl)
theorem pCheckE (d : Driver) (hs : d.Name.size ≤ 1000000) (hl : d.Turns.length ≤ 1000000) : pCheck d = some (checkE d) := by
 apply Crew.ok_eq
 rw [Crew.pCheck_eq]; unfold Crew.pCheck'
 unfold checkE
 refine Ok.ite (fun hc => ?_) (fun hc => ?_)
 ·have h1 := of_decide_eq_true hc
  have hb : nameB d.Name = false := by unfold nameB; rw [decide_eq_false (show ¬ 1 ≤ d.Name.size by omega)]; rfl
  rw [hc, hb]; exact Ok.some rfl
 have h1 := of_decide_eq_false hc
 refine Ok.ite (fun hc => ?_) (fun hc => ?_)
 ·have h2 := of_decide_eq_true hc
  have hb : nameB d.Name = false := by unfold nameB; rw [decide_eq_false (show ¬ d.Name.size ≤ 8 by omega), Bool.and_false]; rfl
  rw [hc, hb]; exact Ok.some rfl
 have h2 := of_decide_eq_false hc
 refine Crew.Ok.beq (trim_any _ hs) ?_
 rw [trimV_empty]
 have hb : nameB d.Name = d.Name.data.toList.all lowB := by unfold nameB; rw [decide_eq_true (show 1 ≤ d.Name.size by omega), decide_eq_true (show d.Name.size ≤ 8 by omega)]; rfl
 rw [hb]
 cases hn : d.Name.data.toList.all lowB with
 | false => exact Ok.some rfl
 | true =>
  refine Crew.Ok.no rfl ?_
  refine Crew.Ok.beq (within_in _ _ _) ?_
  cases hk : inB d.Skills 0 255 with
  | false => exact Ok.some rfl
  | true =>
   refine Crew.Ok.no rfl ?_
   refine Ok.ite (fun hc => ?_) (fun hc => ?_)
   ·rw [hc]; exact Ok.some rfl
   rw [hc]
   simp only [cond_true, cond_false]
   refine (Crew.Ok.roundsD (P := fun (v : (Unit × Int × Unit) × Unit) r => r = firstE d.Turns v.1.2.1.toNat (d.Turns.length - v.1.2.1.toNat)) (fun (v : (Unit × Int × Unit) × Unit) => ∃ i : Nat, v.1.2.1 = (i : Int) ∧ i ≤ d.Turns.length) (fun (v : (Unit × Int × Unit) × Unit) => (d.Turns.length - v.1.2.1).toNat) ?_ ⟨0, rfl, by omega⟩ ?_)
   ·simp only; unfold FUEL; omega
   rintro ⟨⟨u1, x, u2⟩, u3⟩ kn ⟨i, h3, h4⟩ hk
   simp only at h3 h4 hk ⊢
   subst h3
   unfold Crew.pCheck_L10__3
   refine Ok.ite (fun hc => ?_) (fun hc => ?_)
   ·have hi := of_decide_eq_true hc
    rw [Int.toNat_natCast]
    refine turnsLoop (kn := fun y => kn (((), y, ()), ())) momE (by omega) hl ?_
    have := hk (((), (i : Int) + 1, ()), ()) ⟨i + 1, by simp, by omega⟩ (by simp only; omega)
    simp only at this
    rw [show ((i : Int) + 1).toNat = i + 1 by omega] at this
    exact this
   ·have hi := of_decide_eq_false hc
    rw [Int.toNat_natCast, show d.Turns.length - i = 0 by omega]
    exact Ok.some rfl
theorem rCheckE (d : Driver) (hs : d.Name.size ≤ 1000000) (hl : d.Turns.length ≤ 1000000) : rCheck d = some (checkE d) := by
 apply Crew.ok_eq
 rw [rCheck_eq]; unfold rCheck'
 unfold checkE
 refine Crew.Ok.beq (named_sp _ hs) ?_
 cases hn : nameB d.Name with
 | false => exact Ok.some rfl
 | true =>
  refine Crew.Ok.no rfl ?_
  refine Crew.Ok.beq (outside_in _ _ _) ?_
  cases hk : inB d.Skills 0 255 with
  | false => exact Ok.some rfl
  | true =>
   refine Crew.Ok.no rfl ?_
   refine Ok.ite (fun hc => ?_) (fun hc => ?_)
   ·rw [hc]; exact Ok.some rfl
   rw [hc]
   simp only [cond_true, cond_false]
   refine (Crew.Ok.roundsD (P := fun (v : (Unit × Int × Unit) × Unit) r => r = firstE d.Turns v.1.2.1.toNat (d.Turns.length - v.1.2.1.toNat)) (fun (v : (Unit × Int × Unit) × Unit) => ∃ i : Nat, v.1.2.1 = (i : Int) ∧ i ≤ d.Turns.length) (fun (v : (Unit × Int × Unit) × Unit) => (d.Turns.length - v.1.2.1).toNat) ?_ ⟨0, rfl, by omega⟩ ?_)
   ·simp only; unfold FUEL; omega
   rintro ⟨⟨u1, x, u2⟩, u3⟩ kn ⟨i, h3, h4⟩ hk
   simp only at h3 h4 hk ⊢
   subst h3
   unfold rCheck_L8
   refine Ok.ite (fun hc => ?_) (fun hc => ?_)
   ·have hi := of_decide_eq_true hc
    rw [Int.toNat_natCast]
    refine turnsLoop (kn := fun y => kn (((), y, ()), ())) rSpanE (by omega) hl ?_
    have := hk (((), (i : Int) + 1, ()), ()) ⟨i + 1, by simp, by omega⟩ (by simp only; omega)
    simp only at this
    rw [show ((i : Int) + 1).toNat = i + 1 by omega] at this
    exact this
   ·have hi := of_decide_eq_false hc
    rw [Int.toNat_natCast, show d.Turns.length - i = 0 by omega]
    exact Ok.some rfl
theorem spanE_zero {x : Span} (h : spanE x = 0) : 0 ≤ x.Lo ∧ x.Lo ≤ x.Hi ∧ x.Hi ≤ 3000 := by
 unfold spanE at h
 cases h1 : inB x.Lo 0 3000 with
 | false => rw [h1] at h; cases h
 | true =>
  cases h2 : inB x.Hi 0 3000 with
  | false => rw [h1, h2] at h; cases h
  | true =>
   cases h3 : decide (x.Lo > x.Hi) with
   | true => rw [h1, h2, h3] at h; cases h
   | false =>
    have a := inB_iff.1 h1
    have b := inB_iff.1 h2
    have c := of_decide_eq_false h3
    omega
theorem turnE_zero {l : List Turn} {i : Nat} (h : turnE l i = 0) : Crew.TV (l.getD i dfltTurn) ∧ (l.getD i dfltTurn).To.Hi ≤ 3000 ∧ (0 < i → (l.getD (i - 1) dfltTurn).To.Hi ≤ (l.getD i dfltTurn).From.Lo) := by
 unfold turnE at h
 cases h1 : spanE (l.getD i dfltTurn).From != 0 with
 | true => rw [h1] at h; simp only [cond_true] at h; rw [h] at h1; cases h1
 | false =>
  cases h2 : spanE (l.getD i dfltTurn).To != 0 with
  | true => rw [h1, h2] at h; simp only [cond_true, cond_false] at h; rw [h] at h2; cases h2
  | false =>
   have a := spanE_zero (x := (l.getD i dfltTurn).From) (by simpa using h1)
   have b := spanE_zero (x := (l.getD i dfltTurn).To) (by simpa using h2)
   rw [h1, h2] at h
   simp only [cond_false] at h
   cases h3 : decide ((l.getD i dfltTurn).From.Hi > (l.getD i dfltTurn).To.Lo) with
   | true => rw [h3] at h; cases h
   | false =>
    rw [h3] at h
    simp only [cond_false] at h
    have c := of_decide_eq_false h3
    refine ⟨by simp only [Crew.TV]; omega, by omega, fun hp => ?_⟩
    rw [decide_eq_true hp, Bool.true_and] at h
    cases h4 : decide ((l.getD i dfltTurn).From.Lo < (l.getD (i - 1) dfltTurn).To.Hi) with
    | true => rw [h4] at h; cases h
    | false => have := of_decide_eq_false h4; omega
theorem at_of {l : List Turn} {t : Turn} (h : t ∈ l) : ∃ i : Nat, i < l.length ∧ l.getD i dfltTurn = t := by
 obtain ⟨i, hi, rfl⟩ := List.getElem_of_mem h
 exact ⟨i, hi, by rw [List.getD_eq_getElem?_getD, List.getElem?_eq_getElem hi]; rfl⟩
theorem checkE_ok {d : Driver} (h : checkE d = 0) : NumW d ∧ d.Name.size ≤ 8 ∧ d.Turns.length ≤ 20 := by
 unfold checkE at h
 cases hn : nameB d.Name with
 | false => rw [hn] at h; cases h
 | true =>
  cases hk : inB d.Skills 0 255 with
  | false => rw [hn, hk] at h; cases h
  | true =>
   cases hc : decide ((d.Turns.length : Int) > 20) with
   | true => rw [hn, hk, hc] at h; cases h
   | false =>
    rw [hn, hk, hc] at h
    simp only [cond_true, cond_false] at h
    have hl := of_decide_eq_false hc
    unfold nameB at hn
    simp only [Bool.and_eq_true, decide_eq_true_eq] at hn
    have hk := inB_iff.1 hk
    refine ⟨⟨⟨hk.1, by omega⟩, fun t htm => ?_⟩, hn.1.2, by omega⟩
    obtain ⟨i, hi, rfl⟩ := at_of htm
    have := turnE_zero (firstE_zero h i (by omega) (by omega))
    obtain ⟨⟨a, b, c, d⟩, e, _⟩ := this
    intro n hm
    simp only [turnNs, List.mem_cons, List.not_mem_nil, or_false] at hm
    unfold NumOk
    omega
def Sized (l : List Driver) : Prop := ∀ d ∈ l, d.Name.size ≤ 1000000 ∧ d.Turns.length ≤ 1000000
theorem checks_total {l : List Driver} (h : Sized l) : Ok (fun e => e = 0 → l.length ≤ 4 ∧ ∀ d ∈ l, checkE d = 0) (pChecks l) := by
 rw [pChecks_eq]
 unfold pChecks'
 refine Ok.ite (fun _ => Ok.some fun q => absurd q (by decide)) fun q => ?_
 have q := of_decide_eq_false q
 refine Ok.rounds (inv := fun v => ∃ j : Nat, j ≤ l.length ∧ v.1.1 = (j : Int) ∧ ∀ d ∈ l.take j, checkE d = 0) (μ := fun v => l.length - v.1.1.toNat) (by show l.length - 0 < FUEL; unfold FUEL; omega) ⟨0, Nat.zero_le _, rfl, fun d hd => by cases hd⟩ ?_
 rintro ⟨⟨x, u4⟩, u5⟩ kn ⟨j, hj, e1, e2⟩ hk
 simp only at e1 ⊢
 subst e1
 unfold pChecks_L4
 rw [show ((j : Int)).toNat = j by omega]
 refine Ok.ite (fun hlt => ?_) (fun hge => Ok.some fun _ => ⟨by omega, ?_⟩)
 ·have hlt : j < l.length := by have := of_decide_eq_true hlt; omega
  refine Ok.chk (idx_ok hlt) ?_
  have hmem := getD_mem' (d := dfltDriver) hlt
  refine Crew.Ok.beq (pCheckE _ (h _ hmem).1 (h _ hmem).2) (Ok.ite (fun q2 => Ok.some fun h0 => ?_) fun q2 => ?_)
  ·rw [h0] at q2; cases q2
  ·have e : w64 ((j : Int) + 1) = ((j + 1 : Nat) : Int) := by rw [w64_id (by omega) (by omega)]; push_cast; rfl
   refine hk _ ⟨j + 1, hlt, e, fun d hd => ?_⟩ ?_
   ·rw [take_snoc (d := dfltDriver) hlt] at hd
    rcases List.mem_append.1 hd with hd | hd
    ·exact e2 d hd
    ·rw [List.mem_singleton.1 hd]; simpa using q2
   ·show l.length - (w64 ((j : Int) + 1)).toNat < l.length - ((j : Int)).toNat
    rw [e]; omega
 ·have hjn : j = l.length := by have := of_decide_eq_false hge; omega
  rw [hjn, List.take_length] at e2
  exact e2
theorem valid_len {l : List Driver} (hl : l.length ≤ 4) (h : ∀ d ∈ l, checkE d = 0) : (∀ d ∈ l, NumW d) ∧ (textL l).length ≤ 3000 := by
 have hn : ∀ d ∈ l, NumW d := fun d hd => (checkE_ok (h d hd)).1
 refine ⟨hn, ?_⟩
 have h2 : ∀ d ∈ l, (driverL d).length ≤ 690 ∧ d.Turns.length ≤ 20 := fun d hd => by
  have hd2 := hn d hd
  obtain ⟨_, hs1, hs2⟩ := checkE_ok (h d hd)
  have h3 : (headL d).length ≤ 23 := by
   have := rowL_len (w := wDriver ++ 32 :: bl d.Name) (one_ok hd2.s)
   have e5 : wDriver.length = 6 := rfl
   have e6 := bl_len d.Name
   simp only [List.length_cons, List.length_nil, List.length_append] at this
   show (rowL _ _).length ≤ _
   omega
  have h4 : (d.Turns.flatMap turnL).length ≤ 33 * d.Turns.length := flat_len _ fun x hx => by
   have := rowL_len (w := wTurn) (hd2.t x hx)
   have e4 : wTurn.length = 4 := rfl
   have e5 : (turnNs x).length = 4 := rfl
   show (rowL wTurn _).length ≤ _
   omega
  refine ⟨?_, hs2⟩
  unfold driverL
  rw [List.length_append]; omega
 have h3 := flat_len l fun d hd => (h2 d hd).1
 have h5 : ∀ l : List Driver, (∀ d ∈ l, d.Turns.length ≤ 20) → cnt l ≤ 20 * l.length := fun l => by
  induction l with
  | nil => exact fun _ => Nat.le_refl _
  | cons x l ih =>
   intro hl
   have a := hl x (List.mem_cons_self ..)
   have b := ih fun d hd => hl d (List.mem_cons_of_mem _ hd)
   show x.Turns.length + cnt l ≤ _
   rw [List.length_cons]; omega
 have h6 := h5 l fun d hd => (h2 d hd).2
 have h7 := rowL_len (w := wEnd) (one_ok (a := (cnt l : Int)) ⟨by omega, by omega⟩)
 have e3 : wEnd.length = 3 := rfl
 simp only [List.length_cons, List.length_nil] at h7
 unfold textL bodyL endL
 rw [List.length_append]; omega
end Go.Proofs.Tp09
namespace Go.Proofs.Tp09
open Go Go.Ab
set_option linter.all false
set_option maxRecDepth 100000
theorem cat_mk (a : List UInt8) (b : ByteArray) : catS (mk a) b = mk (a ++ bl b) := rfl
theorem succ64 {j : Nat} (h : j ≤ 1000000000) : w64 ((j : Int) + 1) = ((j + 1 : Nat) : Int) := by rw [w64_id (by omega) (by omega)]; push_cast; rfl
theorem z32 : (⟨#[32]⟩ : ByteArray).size = 1 := rfl
theorem z10 : (⟨#[10]⟩ : ByteArray).size = 1 := rfl
theorem itoa_ok {β : Type} {P : β → Prop} {n : Int} {f : ByteArray → Option β} (hn : NumOk n) (hf : Ok P (f (mk (digs n)))) : Ok P ((Tx.itoaP n).bind f) :=
 Crew.Ok.beq (by unfold Tx.itoaP; rw [okI_of hn]; rfl) hf
theorem w16_ok {P : ByteArray × Int → Prop} {l : List Driver} {k i : Nat} {a : List UInt8} {tn : Int} {t : Turn} {kn_2 : ByteArray → Int → Int → Option (ByteArray × Int)} (ht : ((l.getD k dfltDriver).Turns).getD i dfltTurn = t) (hn : ∀ n ∈ turnNs t, NumOk n) (ha : a.length ≤ 950000)
  (hk : Ok P (kn_2 (mk (a ++ (turnNs t).flatMap numL ++ [10])) (w64 (tn + 1)) (w64 ((i : Int) + 1)))) :
  Ok P (itN _ (fun (v_0 : (ByteArray × Unit × Int × Unit) × (Unit)) kn => Write09_L16 l (k : Int) (i : Int) kn_2 tn v_0.1.1 v_0.1.2.2.1 (fun y0 y1 => kn ((y0, (), y1, ()), (())))) ((mk a, (), 0, ()), (()))) := by
 refine Ok.rounds (inv := fun v => ∃ j : Nat, j ≤ 4 ∧ v.1.2.2.1 = (j : Int) ∧ v.1.1 = mk (a ++ ((turnNs t).take j).flatMap numL)) (μ := fun v => 4 - v.1.2.2.1.toNat) (by show 4 - 0 < FUEL; unfold FUEL; omega) ⟨0, Nat.zero_le _, rfl, by simp⟩ ?_
 rintro ⟨⟨y, u1, x, u2⟩, u3⟩ kn ⟨j, hj, e1, e2⟩ hkn
 simp only at e1 e2 ⊢
 subst e1 e2
 unfold Write09_L16
 rw [show ((k : Int)).toNat = k by omega, show ((i : Int)).toNat = i by omega, show ((j : Int)).toNat = j by omega, ht, show ([t.From.Lo, t.From.Hi, t.To.Lo, t.To.Hi] : List Int) = turnNs t from rfl]
 have hl4 : (turnNs t).length = 4 := rfl
 have hpre := nums_len ((turnNs t).take j) fun n h => hn n (List.mem_of_mem_take h)
 rw [List.length_take] at hpre
 have hsz : (mk (a ++ ((turnNs t).take j).flatMap numL)).size ≤ 960000 := by rw [mk_size, List.length_append]; omega
 refine Ok.ite (fun hlt => ?_) (fun hge => ?_)
 ·have hlt : j < (turnNs t).length := by have := of_decide_eq_true hlt; omega
  refine Ok.chk (decide_eq_true (by rw [z32]; omega)) (Ok.chk (idx_ok hlt) (Ok.chk (decide_eq_true hlt) ?_))
  have hno := hn _ (getD_mem' (d := (0 : Int)) hlt)
  have hdl := digs_len hno.1 hno.2
  refine itoa_ok hno (Ok.chk (decide_eq_true (by rw [cat_size, z32, mk_size (digs _)]; omega)) ?_)
  refine hkn _ ⟨j + 1, by omega, succ64 (by omega), ?_⟩ ?_
  ·show catS (catS (mk _) _) _ = mk _
   rw [cat_mk, cat_mk, flat_snoc (d := 0) numL hlt, List.append_assoc, List.append_assoc]; rfl
  ·show 4 - (w64 ((j : Int) + 1)).toNat < 4 - ((j : Int)).toNat
   rw [succ64 (by omega)]; omega
 ·have hjn : j = (turnNs t).length := by have := of_decide_eq_false hge; omega
  refine Ok.chk (decide_eq_true (by rw [z10]; omega)) ?_
  rw [cat_mk, hjn, List.take_length]
  exact hk
theorem w10_ok {P : ByteArray × Int → Prop} {l : List Driver} {k tn : Nat} {d : Driver} {a : List UInt8} {kn_ : ByteArray → Int → Int → Option (ByteArray × Int)} (hd : l.getD k dfltDriver = d) (hkl : k < l.length) (hn : ∀ t ∈ d.Turns, ∀ n ∈ turnNs t, NumOk n) (ha : a.length + (d.Turns.flatMap turnL).length ≤ 900000) (htn : tn + d.Turns.length ≤ 1000000)
  (hk : Ok P (kn_ (mk (a ++ d.Turns.flatMap turnL)) ((tn + d.Turns.length : Nat) : Int) (w64 ((k : Int) + 1)))) :
  Ok P (itN _ (fun (v_0 : (ByteArray × Int × Int × Unit) × (Unit)) kn => Write09_L10 itN (k : Int) l kn_ v_0.1.1 v_0.1.2.1 v_0.1.2.2.1 (fun y0 y1 y2 => kn ((y0, y1, y2, ()), (())))) ((mk a, (tn : Int), 0, ()), (()))) := by
 refine Ok.rounds (inv := fun v => ∃ j : Nat, j ≤ d.Turns.length ∧ v.1.2.1 = ((tn + j : Nat) : Int) ∧ v.1.2.2.1 = (j : Int) ∧ v.1.1 = mk (a ++ (d.Turns.take j).flatMap turnL)) (μ := fun v => d.Turns.length - v.1.2.2.1.toNat) (by show d.Turns.length - 0 < FUEL; unfold FUEL; omega) ⟨0, Nat.zero_le _, rfl, rfl, by simp⟩ ?_
 rintro ⟨⟨y, tv, x, u2⟩, u3⟩ kn ⟨j, hj, e0, e1, e2⟩ hkn
 simp only at e0 e1 e2 ⊢
 subst e0 e1 e2
 unfold Write09_L10
 rw [show ((k : Int)).toNat = k by omega, hd]
 refine Ok.chk (idx_ok hkl) (Ok.ite (fun hlt => ?_) (fun hge => ?_))
 ·have hlt : j < d.Turns.length := by have := of_decide_eq_true hlt; omega
  have hp := flat_take turnL d.Turns (j + 1)
  rw [flat_snoc (d := dfltTurn) turnL hlt, List.length_append] at hp
  have hT : (turnL (d.Turns.getD j dfltTurn)).length = 4 + ((turnNs (d.Turns.getD j dfltTurn)).flatMap numL).length + 1 := by
   show ((wTurn ++ _) ++ [10]).length = _
   rw [List.length_append, List.length_append]; rfl
  have z4 : (⟨#[116, 117, 114, 110]⟩ : ByteArray).size = 4 := rfl
  refine Ok.chk (idx_ok hkl) (Ok.chk (idx_ok hlt) (Ok.chk (decide_eq_true (by rw [mk_size, z4, List.length_append]; omega)) ?_))
  rw [cat_mk]
  refine w16_ok (by rw [hd]) (hn _ (getD_mem' hlt)) (by simp only [List.length_append]; show _ + 4 ≤ _; omega) ?_
  refine hkn _ ⟨j + 1, hlt, ?_, succ64 (by omega), ?_⟩ ?_
  ·show w64 (((tn + j : Nat) : Int) + 1) = _
   rw [succ64 (by omega)]; rfl
  ·show mk _ = mk _
   rw [flat_snoc (d := dfltTurn) turnL hlt]
   simp only [List.append_assoc]
   rfl
  ·show d.Turns.length - (w64 ((j : Int) + 1)).toNat < d.Turns.length - ((j : Int)).toNat
   rw [succ64 (by omega)]; omega
 ·have hjn : j = d.Turns.length := by have := of_decide_eq_false hge; omega
  rw [hjn, List.take_length]
  exact hk
theorem checks_it (l : List Driver) (h : Sized l) : rChecks l = pChecks l := by
 obtain ⟨e, h1, _⟩ := checks_total h
 rw [rChecks_eq, pChecks_eq]
 unfold rChecks' pChecks'
 have e1 : @rChecks_L4 l = @pChecks_L4 l := by
  funext i kn
  unfold rChecks_L4 pChecks_L4
  cases hc : (decide (0 ≤ i) && decide (i < (l.length : Int))) with
  | false => rfl
  | true =>
   simp only [Bool.and_eq_true, decide_eq_true_eq] at hc
   have hm := getD_mem' (d := dfltDriver) (show i.toNat < l.length by omega)
   rw [rCheckE _ (h _ hm).1 (h _ hm).2, pCheckE _ (h _ hm).1 (h _ hm).2]
 rw [e1]
theorem Write09_text {l : List Driver} (hz : Sized l) (hc : pChecks l = some 0) (hn : ∀ d ∈ l, NumW d) (hl : (textL l).length ≤ 800000) : Write09 l = some (mk (textL l), 0) := by
 refine Crew.ok_eq ?_
 rw [Write09_eq]
 unfold Write09'
 rw [checks_it l hz, hc]
 refine Crew.Ok.beq (a := 0) rfl (Ok.ite (fun q => absurd q (by decide)) fun _ => ?_)
 have hR : (bodyL l).length + (endL (cnt l)).length ≤ 800000 := by unfold textL at hl; rwa [List.length_append] at hl
 have hcn := cnt_body l
 have hll : l.length ≤ (bodyL l).length := flat_cnt driverL driver_pos l
 refine Ok.rounds (inv := fun v => ∃ k : Nat, k ≤ l.length ∧ v.1.2.1 = ((cnt (l.take k) : Nat) : Int) ∧ v.1.2.2.1 = (k : Int) ∧ v.1.1 = mk (bodyL (l.take k))) (μ := fun v => l.length - v.1.2.2.1.toNat) (by show l.length - 0 < FUEL; unfold FUEL; omega) ⟨0, Nat.zero_le _, rfl, rfl, rfl⟩ ?_
 rintro ⟨⟨y, tv, x, u2⟩, u3⟩ kn ⟨k, hk, e0, e1, e2⟩ hkn
 simp only at e0 e1 e2 ⊢
 subst e0 e1 e2
 unfold Write09_L6
 rw [show ((k : Int)).toNat = k by omega]
 have z7 : (⟨#[100, 114, 105, 118, 101, 114, 32]⟩ : ByteArray).size = 7 := rfl
 refine Ok.ite (fun hlt => ?_) (fun hge => ?_)
 ·have hlt : k < l.length := by have := of_decide_eq_true hlt; omega
  have ht := hn _ (getD_mem' (d := dfltDriver) hlt)
  have hp := flat_take driverL l (k + 1)
  rw [flat_snoc (d := dfltDriver) driverL hlt, List.length_append] at hp
  have e : (bodyL l).length = (l.flatMap driverL).length := rfl
  have e' : (bodyL (l.take k)).length = ((l.take k).flatMap driverL).length := rfl
  have hct := cnt_take (d := dfltDriver) hlt
  have hcl := cnt_le l (k + 1)
  generalize hT : l.getD k dfltDriver = d at ht hp hct
  have hD : (driverL d).length = (headL d).length + (d.Turns.flatMap turnL).length := List.length_append
  have hH : (headL d).length = 6 + (1 + d.Name.size) + (1 + (digs d.Skills).length) + 1 := by
   show (((wDriver ++ 32 :: bl d.Name) ++ [d.Skills].flatMap numL) ++ [10]).length = _
   simp only [List.length_append, List.length_cons, List.length_nil, List.flatMap_cons, List.flatMap_nil, numL, List.append_nil]
   rw [bl_len]
   have : wDriver.length = 6 := rfl
   omega
  have hms := mk_size (bodyL (l.take k))
  have hmd := mk_size (digs d.Skills)
  have ix := idx_ok hlt
  refine Ok.chk (decide_eq_true (by omega)) (Ok.chk ix (Ok.chk (decide_eq_true (by rw [cat_size]; omega)) (Ok.chk (decide_eq_true (by rw [cat_size, cat_size, z32]; omega)) (Ok.chk ix ?_))))
  refine itoa_ok ht.s (Ok.chk (decide_eq_true (by rw [cat_size, cat_size, cat_size, z32]; omega)) (Ok.chk (decide_eq_true (by rw [cat_size, cat_size, cat_size, cat_size, z32, z10]; omega)) ?_))
  have hcat : catS (catS (catS (catS (catS (mk (bodyL (l.take k))) (⟨#[100, 114, 105, 118, 101, 114, 32]⟩ : ByteArray)) d.Name) (⟨#[32]⟩ : ByteArray)) (mk (digs d.Skills))) (⟨#[10]⟩ : ByteArray) = mk (bodyL (l.take k) ++ headL d) := by
   rw [cat_mk, cat_mk, cat_mk, cat_mk, cat_mk]
   congr 1
   show _ = _ ++ (((wDriver ++ 32 :: bl d.Name) ++ [d.Skills].flatMap numL) ++ [10])
   simp only [List.append_assoc, bl_mk, numL, List.flatMap_cons, List.flatMap_nil, List.append_nil]
   rfl
  rw [hcat]
  refine w10_ok (tn := cnt (l.take k)) hT hlt ht.t (by rw [List.length_append]; omega) (by omega) ?_
  refine hkn _ ⟨k + 1, hlt, ?_, succ64 (by omega), ?_⟩ ?_
  ·show _ = ((cnt (l.take (k + 1)) : Nat) : Int)
   rw [hct]
  ·show mk _ = mk ((l.take (k + 1)).flatMap driverL)
   rw [flat_snoc (d := dfltDriver) driverL hlt, hT]
   unfold driverL bodyL
   simp only [List.append_assoc]
   rfl
  ·show l.length - (w64 ((k : Int) + 1)).toNat < l.length - ((k : Int)).toNat
   rw [succ64 (by omega)]; omega
 ·have hkn' : k = l.length := by have := of_decide_eq_false hge; omega
  rw [hkn', List.take_length]
  have hcnt : NumOk ((cnt l : Nat) : Int) := ⟨by omega, by omega⟩
  have hms := mk_size (bodyL l)
  have hmd := mk_size (digs ((cnt l : Nat) : Int))
  have hdl := digs_len hcnt.1 hcnt.2
  have z4 : (⟨#[101, 110, 100, 32]⟩ : ByteArray).size = 4 := rfl
  refine Ok.chk (decide_eq_true (by omega)) (itoa_ok hcnt (Ok.chk (decide_eq_true (by rw [cat_size]; omega)) (Ok.chk (decide_eq_true (by rw [cat_size, cat_size, z10]; omega)) (Ok.some ?_))))
  rw [cat_mk, cat_mk, cat_mk]
  congr 2
  show _ = bodyL l ++ ((wEnd ++ [((cnt l : Nat) : Int)].flatMap numL) ++ [10])
  simp only [List.append_assoc, bl_mk, numL, List.flatMap_cons, List.flatMap_nil, List.append_nil]
  rfl
theorem write_both {l : List Driver} (hz : Sized l) : ∃ r, Write l = some r ∧ Write09 l = some r ∧ r.1.size ≤ 3000 := by
 obtain ⟨e, h1, h2⟩ := checks_total hz
 by_cases h0 : e = 0
 ·obtain ⟨h3, h4⟩ := h2 h0
  obtain ⟨hn, hl⟩ := valid_len h3 h4
  rw [h0] at h1
  exact ⟨_, Write_text h1 hn (by omega), Write09_text hz h1 hn (by omega), by rw [mk_size]; exact hl⟩
 ·have hb : (e != 0) = true := by simpa using h0
  refine ⟨(⟨#[]⟩, e), ?_, ?_, by show 0 ≤ 3000; omega⟩
  ·rw [Write_eq]
   unfold Write'
   rw [h1]
   show (bif e != 0 then _ else _) = _
   rw [hb]; rfl
  ·rw [Write09_eq]
   unfold Write09'
   rw [checks_it l hz, h1]
   show (bif e != 0 then _ else _) = _
   rw [hb]; rfl
end Go.Proofs.Tp09
