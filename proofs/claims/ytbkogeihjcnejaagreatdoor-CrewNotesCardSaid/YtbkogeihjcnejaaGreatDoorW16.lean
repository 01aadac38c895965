/- Walks by computing: what each function of the program that the laws reach gives for what it gets, as plain Lean, and that it is so; without a condition but those that stand in each theorem. -/
import Derived.Test.YtbkogeihjcnejaaGreatDoorCards
import Derived.Test.YtbkogeihjcnejaaGreatDoorTie
import Derived.WalkKit
import Derived.ProofKit
import Derived.OpenShut
import Derived.Deep.Slices
import Derived.Deep.DeepHandedRow
import Derived.Lib.LaidTab
import Derived.Shelf.Vars
import Derived.Test.YtbkogeihjcnejaaGreatDoorW1
import Derived.Test.YtbkogeihjcnejaaGreatDoorW2
import Derived.Test.YtbkogeihjcnejaaGreatDoorW3
import Derived.Test.YtbkogeihjcnejaaGreatDoorW4
import Derived.Test.YtbkogeihjcnejaaGreatDoorW5
import Derived.Test.YtbkogeihjcnejaaGreatDoorW6
import Derived.Test.YtbkogeihjcnejaaGreatDoorW7
import Derived.Test.YtbkogeihjcnejaaGreatDoorW8
import Derived.Test.YtbkogeihjcnejaaGreatDoorW9
import Derived.Test.YtbkogeihjcnejaaGreatDoorW10
import Derived.Test.YtbkogeihjcnejaaGreatDoorW11
import Derived.Test.YtbkogeihjcnejaaGreatDoorW12
import Derived.Test.YtbkogeihjcnejaaGreatDoorW13
import Derived.Test.YtbkogeihjcnejaaGreatDoorW14
import Derived.Test.YtbkogeihjcnejaaGreatDoorW15
set_option linter.all false
namespace Go.Proofs.Tp09
open Go Go.Ab
set_option linter.all false
set_option maxRecDepth 100000
def word (n : Int) : ByteArray := mk (digs n)
theorem from_lt : ∀ (l : List UInt8) (acc n : Nat), Lib.decFrom acc l = some n → n < (acc + 1) * 10 ^ l.length
  | [], acc, n, h => by
    simp only [Lib.decFrom, Option.some.injEq] at h
    subst h; simp
  | b :: l, acc, n, h => by
    simp only [Lib.decFrom] at h
    split at h
    · rename_i d hd
      have h1 := from_lt l _ n h
      have h9 : d ≤ 9 := by
        unfold Lib.digitVal at hd
        split at hd
        · cases hd; omega
        · cases hd
      rw [List.length_cons, Nat.pow_succ]
      refine Nat.lt_of_lt_of_le h1 ?_
      rw [Nat.mul_comm (10 ^ l.length) 10, ← Nat.mul_assoc]
      exact Nat.mul_le_mul_right _ (by omega)
    · cases h
theorem decNat_lt {l : List UInt8} {m : Nat} (h : Lib.decNat l = some m) (hl : l.length ≤ 6) : m ≤ 999999 := by
  unfold Lib.decNat at h
  split at h
  · cases h
  · have h1 := from_lt l 0 m h
    have h2 : 10 ^ l.length ≤ 10 ^ 6 := Nat.pow_le_pow_right (by decide) hl
    have h3 : (10 : Nat) ^ 6 = 1000000 := by decide
    omega
theorem atoi_le {l : List UInt8} {n : Int} (h : Lib.atoi l = some n) (hl : l.length ≤ 6) : n ≤ 999999 := by
  cases l with
  | nil => cases h
  | cons b r =>
    rw [List.length_cons] at hl
    simp only [Lib.atoi] at h
    split at h
    · obtain ⟨m, h1, h2⟩ := Option.map_eq_some_iff.1 h
      omega
    · split at h
      · obtain ⟨m, h1, h2⟩ := Option.map_eq_some_iff.1 h
        have := decNat_lt h1 (by omega)
        omega
      · obtain ⟨m, h1, h2⟩ := Option.map_eq_some_iff.1 h
        have := decNat_lt h1 (by rw [List.length_cons]; omega)
        omega
theorem atoiV_le {w : ByteArray} {n : Int} (h : Tx.atoiV w = (n, true)) (hl : w.size ≤ 6) : n ≤ 999999 := by
  have hl2 : (bl w).length ≤ 6 := by
    have : (bl w).length = w.size := by show w.data.toList.length = w.data.size; simp
    omega
  unfold Tx.atoiV at h
  have h3 := Lib.atoiAll_short (bl w) (by omega)
  rw [show Lib.atoiAll w.data.toList = _ from h3] at h
  cases ha : Lib.atoi (bl w) with
  | none =>
    rw [ha] at h
    cases h
  | some v =>
    rw [ha] at h
    cases h
    exact atoi_le ha hl2
def isNum (w : ByteArray) : Prop := ∃ n, NumOk n ∧ w = word n
theorem word_inj {m n : Int} (hm : NumOk m) (hn : NumOk n) (h : word m = word n) : m = n := by
  have h1 := atoi_digs hm.1 hm.2
  have h2 := atoi_digs hn.1 hn.2
  rw [show mk (digs m) = mk (digs n) from h, h2] at h1
  injection h1 with h1
  exact h1.symm
theorem map_take_snoc {ws : List ByteArray} {j : Nat} (h : j < ws.length) : ws.take (j + 1) = ws.take j ++ [ws.getD j ⟨#[]⟩] := take_snoc h
theorem numbers_ok {ws : List ByteArray} {m : Int} (hl : ws.length ≤ 1000000) (hs : ∀ w ∈ ws, w.size ≤ 1000000) : Ok (fun r => (r.2 = true ∧ ws = r.1.map word ∧ (r.1.length : Int) = m ∧ ∀ n ∈ r.1, NumOk n) ∨ (r.2 = false ∧ ((ws.length : Int) ≠ m ∨ ∃ w ∈ ws, ¬ isNum w))) (numbers ws m) := by
  rw [numbers_eq]
  unfold numbers'
  refine Ok.ite (fun q => Ok.some (.inr ⟨rfl, .inl (by simpa using q)⟩)) (fun q => ?_)
  have hm : (ws.length : Int) = m := by simpa using q
  refine Ok.rounds (inv := fun v => ∃ j : Nat, j ≤ ws.length ∧ v.1.2.1 = (j : Int) ∧ v.1.1.length = j ∧ ws.take j = v.1.1.map word ∧ ∀ n ∈ v.1.1, NumOk n) (μ := fun v => ws.length - v.1.2.1.toNat) (by show ws.length - 0 < FUEL; unfold FUEL; omega) ⟨0, Nat.zero_le _, rfl, rfl, rfl, fun n h => by cases h⟩ ?_
  rintro ⟨⟨out, x, u⟩, u2⟩ kn ⟨j, hj, e1, e2, e3, e4⟩ hk
  simp only at e1 e2 e3 e4 ⊢
  subst e1
  unfold numbers_L5
  rw [show ((j : Int)).toNat = j by omega]
  refine Ok.ite (fun hlt => ?_) (fun hge => ?_)
  · have hlt : j < ws.length := by have := of_decide_eq_true hlt; omega
    refine Ok.chk (idx_ok hlt) ?_
    have hmem := getD_mem' (d := (⟨#[]⟩ : ByteArray)) hlt
    generalize hw : ws.getD j (⟨#[]⟩ : ByteArray) = w at hmem
    have hsz := hs w hmem
    have no : (¬ isNum w) → (False ∨ ((false = false) ∧ ((ws.length : Int) ≠ m ∨ ∃ w ∈ ws, ¬ isNum w))) := fun h => .inr ⟨rfl, .inr ⟨w, hmem, h⟩⟩
    have bad : (¬ isNum w) → Ok (fun r : List Int × Bool => (r.2 = true ∧ ws = r.1.map word ∧ (r.1.length : Int) = m ∧ ∀ n ∈ r.1, NumOk n) ∨ (r.2 = false ∧ ((ws.length : Int) ≠ m ∨ ∃ w ∈ ws, ¬ isNum w))) (some (([] : List Int), false)) := fun h => Ok.some (.inr ⟨rfl, .inr ⟨w, hmem, h⟩⟩)
    refine Ok.bind (P := fun r => r = Tx.atoiV w) ⟨_, by unfold Tx.atoiP; rw [show Tx.okA w = true from decide_eq_true (by omega)]; rfl, rfl⟩ fun r hr => ?_
    have key : isNum w → ∃ n, NumOk n ∧ w = word n ∧ r = (n, true) := fun ⟨n, h1, h2⟩ => ⟨n, h1, h2, by rw [hr, h2]; exact atoi_digs h1.1 h1.2⟩
    refine Ok.ite (fun q1 => bad fun hn => ?_) (fun q1 => ?_)
    · obtain ⟨n, _, _, h⟩ := key hn
      rw [h] at q1; cases q1
    have q1 : r.2 = true := by simpa using q1
    refine Ok.ite (fun q2 => bad fun hn => ?_) (fun q2 => ?_)
    · obtain ⟨n, h1, _, h⟩ := key hn
      rw [h] at q2
      have := of_decide_eq_true q2
      have := h1.1
      omega
    have q2 : 0 ≤ r.1 := by have := of_decide_eq_false q2; omega
    refine Ok.ite (fun q3 => bad fun hn => ?_) (fun q3 => ?_)
    · obtain ⟨n, h1, h2, h⟩ := key hn
      have h3 := of_decide_eq_true q3
      have h4 := digs_len h1.1 h1.2
      rw [h2, word, mk_size] at h3
      omega
    have q3 : w.size ≤ 6 := by have := of_decide_eq_false q3; omega
    have hno : NumOk r.1 := ⟨q2, atoiV_le (w := w) (by rw [← hr, ← q1]) q3⟩
    refine Ok.bind (P := fun r2 => r2 = word r.1) ⟨_, by unfold Tx.itoaP; rw [okI_of hno]; rfl, rfl⟩ fun r2 hr2 => ?_
    subst hr2
    refine Ok.ite (fun q4 => bad fun hn => ?_) (fun q4 => ?_)
    · obtain ⟨n, h1, h2, h⟩ := key hn
      rw [h, ← h2] at q4
      simp at q4
    have q4 : word r.1 = w := eq_iff.1 (by simpa using q4)
    refine Ok.chk (by unfold fitA; simp; omega) ?_
    refine hk _ ⟨j + 1, hlt, ?_, ?_, ?_, ?_⟩ ?_
    · show w64 ((j : Int) + 1) = _
      rw [w64_id (by omega) (by omega)]; push_cast; rfl
    · show (out ++ [r.1]).length = _
      rw [List.length_append, e2]; rfl
    · show _ = (out ++ [r.1]).map word
      rw [map_take_snoc hlt, hw, e3, List.map_append, List.map_singleton, q4]
    · intro n hn
      rcases List.mem_append.1 hn with h | h
      · exact e4 n h
      · rw [List.mem_singleton.1 h]; exact hno
    · show ws.length - (w64 ((j : Int) + 1)).toNat < ws.length - ((j : Int)).toNat
      rw [w64_id (by omega) (by omega)]; omega
  · have hjn : j = ws.length := by have := of_decide_eq_false hge; omega
    refine Ok.some (.inl ⟨rfl, ?_, ?_, e4⟩)
    · rw [← e3, hjn, List.take_length]
    · show (out.length : Int) = m
      omega
theorem numbers_of {ns : List Int} {m : Int} (h : ∀ n ∈ ns, NumOk n) (hl : ns.length ≤ 1000000) (hm : (ns.length : Int) = m) : numbers (ns.map word) m = some (ns, true) := by
  obtain ⟨r, h1, h2⟩ := numbers_ok (ws := ns.map word) (m := m) (by rw [List.length_map]; exact hl) (fun w hw => by
    obtain ⟨n, hn, rfl⟩ := List.mem_map.1 hw
    have := digs_len (h n hn).1 (h n hn).2
    rw [word, mk_size]; omega)
  rcases h2 with ⟨a, b, c, d⟩ | ⟨a, b | ⟨w, hw, b⟩⟩
  · have e : ∀ (l k : List Int), (∀ n ∈ l, NumOk n) → (∀ n ∈ k, NumOk n) → l.map word = k.map word → l = k := fun l => by
      induction l with
      | nil => intro k _ _ e; cases k with
        | nil => rfl
        | cons _ _ => cases e
      | cons x l ih => intro k h1 h2 e; cases k with
        | nil => cases e
        | cons y k =>
          simp only [List.map_cons, List.cons.injEq] at e
          rw [word_inj (h1 _ (List.mem_cons_self ..)) (h2 _ (List.mem_cons_self ..)) e.1, ih k (fun n hn => h1 n (List.mem_cons_of_mem _ hn)) (fun n hn => h2 n (List.mem_cons_of_mem _ hn)) e.2]
    rw [h1, e ns r.1 h d b]
    obtain ⟨r1, r2⟩ := r
    cases a
    rfl
  · rw [List.length_map] at b; exact absurd hm b
  · obtain ⟨n, hn, rfl⟩ := List.mem_map.1 hw
    exact absurd ⟨n, h n hn, rfl⟩ b
theorem numbers_true {ws : List ByteArray} {m : Int} {ns : List Int} (hl : ws.length ≤ 1000000) (hs : ∀ w ∈ ws, w.size ≤ 1000000) (h : numbers ws m = some (ns, true)) : ws = ns.map word ∧ (ns.length : Int) = m ∧ ∀ n ∈ ns, NumOk n := by
  obtain ⟨r, h1, h2⟩ := numbers_ok (m := m) hl hs
  rw [h] at h1
  cases h1
  rcases h2 with ⟨_, b⟩ | ⟨a, _⟩
  · exact b
  · cases a
end Go.Proofs.Tp09
namespace Go.Proofs.Tp09
open Go Go.Ab
set_option linter.all false
set_option maxRecDepth 100000
def rowB (w : List UInt8) (ns : List Int) : List UInt8 := w ++ ns.flatMap numL
def headB (d : Driver) : List UInt8 := rowB (wDriver ++ 32 :: bl d.Name) [d.Skills]
def turnB (t : Turn) : List UInt8 := rowB wTurn (turnNs t)
def linesD (d : Driver) : List (List UInt8) := headB d :: d.Turns.map turnB
def endB (n : Int) : List UInt8 := rowB wEnd [n]
def lines (l : List Driver) : List (List UInt8) := l.flatMap linesD ++ [endB (cnt l)]
theorem rows_app (c : UInt8) (a b : List (List UInt8)) : rowsL c (a ++ b) = rowsL c a ++ rowsL c b := List.flatMap_append
theorem rows_turns : ∀ hs : List Turn, rowsL 10 (hs.map turnB) = hs.flatMap turnL
  | [] => rfl
  | h :: hs => by
    show (turnB h ++ [10]) ++ rowsL 10 (hs.map turnB) = turnL h ++ hs.flatMap turnL
    rw [rows_turns hs]; rfl
theorem rows_drivers : ∀ ts : List Driver, rowsL 10 (ts.flatMap linesD) = ts.flatMap driverL
  | [] => rfl
  | t :: ts => by
    rw [List.flatMap_cons, List.flatMap_cons, rows_app, rows_drivers ts]
    congr 1
    show (headB t ++ [10]) ++ rowsL 10 (t.Turns.map turnB) = driverL t
    rw [rows_turns]; rfl
theorem text_lines (l : List Driver) : textL l = rowsL 10 (lines l) := by
  unfold lines
  rw [rows_app, rows_drivers]
  show bodyL l ++ endL (cnt l) = bodyL l ++ ((endB (cnt l) ++ [10]) ++ [])
  rw [List.append_nil]; rfl
theorem rowB_join : ∀ (ns : List Int) (w : List UInt8), rowB w ns = joinL 32 (w :: ns.map digs)
  | [], w => by show w ++ [] = w; rw [List.append_nil]
  | n :: ns, w => by
    show _ = w ++ 32 :: joinL 32 (digs n :: ns.map digs)
    rw [← rowB_join ns (digs n)]
    unfold rowB
    rw [List.flatMap_cons]; rfl
theorem headB_join (d : Driver) : headB d = joinL 32 (wDriver :: bl d.Name :: [d.Skills].map digs) := by
  show _ = wDriver ++ 32 :: joinL 32 (bl d.Name :: [d.Skills].map digs)
  rw [← rowB_join]
  unfold headB rowB
  rw [List.append_assoc]; rfl
theorem digs_no {n : Int} (h : NumOk n) {b : UInt8} (hb : b.toNat < 48) : b ∉ digs n := fun hm => by
  have := digs_mem h.1 hm
  omega
theorem rowB_no {w : List UInt8} {ns : List Int} (hw : (10 : UInt8) ∉ w) (h : ∀ n ∈ ns, NumOk n) : (10 : UInt8) ∉ rowB w ns := fun hm => by
  rcases List.mem_append.1 hm with h1 | h1
  · exact hw h1
  · obtain ⟨n, hn, h2⟩ := List.mem_flatMap.1 h1
    rcases List.mem_cons.1 h2 with h3 | h3
    · cases h3
    · exact digs_no (h n hn) (by decide) h3
theorem split_sp {ws : List (List UInt8)} (h0 : ws ≠ []) (h : ∀ w ∈ ws, (32 : UInt8) ∉ w) : Tx.splitV (mk (joinL 32 ws)) bSp = ws.map mk := by
  rw [show bSp = (⟨#[32]⟩ : ByteArray) from rfl, splitV_eq, bl_mk, split_join 32 ws h0 h]
theorem words_no {ns : List Int} (h : ∀ n ∈ ns, NumOk n) : ∀ w ∈ ns.map digs, (32 : UInt8) ∉ w := fun w hw => by
  obtain ⟨n, hn, rfl⟩ := List.mem_map.1 hw
  exact digs_no (h n hn) (by decide)
theorem map_word (ns : List Int) : (ns.map digs).map mk = ns.map word := List.map_map ..
theorem rowB_split {w : List UInt8} {ns : List Int} (hw : (32 : UInt8) ∉ w) (h : ∀ n ∈ ns, NumOk n) : Tx.splitV (mk (rowB w ns)) bSp = mk w :: ns.map word := by
  rw [rowB_join, split_sp (by simp), List.map_cons, map_word]
  intro x hx
  rcases List.mem_cons.1 hx with rfl | hx
  · exact hw
  · exact words_no h x hx
theorem one_ok {a : Int} (ha : NumOk a) : ∀ n ∈ [a], NumOk n := fun n h => List.mem_singleton.1 h ▸ ha
theorem headB_split {d : Driver} (h : NumD d) : Tx.splitV (mk (headB d)) bSp = mk wDriver :: d.Name :: [d.Skills].map word := by
  rw [headB_join, split_sp (by simp), List.map_cons, List.map_cons, map_word]
  · rfl
  intro x hx
  rcases List.mem_cons.1 hx with rfl | hx
  · decide
  · rcases List.mem_cons.1 hx with rfl | hx
    · exact h.n32
    · exact words_no (one_ok h.s) x hx
theorem mk_inj {a b : List UInt8} (h : mk a = mk b) : a = b := by
  have := congrArg bl h
  rwa [bl_mk, bl_mk] at this
theorem eqB_iff {s t : ByteArray} : eqB s t = true ↔ s = t := eq_iff
theorem eqB_mk (a b : List UInt8) : eqB (mk a) (mk b) = decide (a = b) := by
  by_cases h : a = b
  · rw [h, decide_eq_true rfl]; exact eqB_iff.2 rfl
  · rw [decide_eq_false h]
    cases he : eqB (mk a) (mk b) with
    | false => rfl
    | true => exact absurd (mk_inj (eqB_iff.1 he)) h
theorem good_driver {k : Nat} {r : Reader} {w : ByteArray} {s : Int} (he : r.end_ = 0) (hw : bl w ≠ []) (hs : NumOk s) : goodRow k r (mk wDriver :: w :: [s].map word) = some (addDriver r w s) := by
  unfold goodRow
  simp only
  rw [he, numbers_of (m := 1) (one_ok hs) (by simp) rfl, show eqB (mk wDriver) bDriver = true from eqB_mk wDriver wDriver, show eqB w ⟨#[]⟩ = false from (eqB_mk (bl w) []).trans (decide_eq_false hw)]
  rfl
theorem good_turn {k : Nat} {r : Reader} {ts : List Driver} {d : Driver} {t : Turn} (he : r.end_ = 0) (hd : r.drivers = ts ++ [d]) (ht : ∀ n ∈ turnNs t, NumOk n) : goodRow k r (mk wTurn :: (turnNs t).map word) = some ⟨ts ++ [⟨d.Name, d.Skills, d.Turns ++ [t]⟩], r.turns + 1, r.end_, r.sum⟩ := by
  unfold goodRow
  simp only
  rw [he, numbers_of (m := 4) ht (by simp [turnNs]) rfl, show eqB (mk wTurn) bDriver = false from eqB_mk wTurn wDriver, show eqB (mk wTurn) bTurn = true from eqB_mk wTurn wTurn, hd, List.getLast?_concat]
  show some (addTurn r d t) = _
  unfold addTurn
  rw [hd, List.dropLast_concat, he]
theorem good_end {k : Nat} {r : Reader} {n : Int} (he : r.end_ = 0) (hn : NumOk n) : goodRow k r (mk wEnd :: [n].map word) = some ⟨r.drivers, r.turns, (k : Int) + 1, n⟩ := by
  unfold goodRow
  simp only
  rw [he, numbers_of (m := 1) (one_ok hn) (by simp) rfl, show eqB (mk wEnd) bDriver = false from eqB_mk wEnd wDriver, show eqB (mk wEnd) bTurn = false from eqB_mk wEnd wTurn, show eqB (mk wEnd) bEnd = true from eqB_mk wEnd wEnd]
  rfl
theorem okS_of {s : ByteArray} (h : s.size ≤ 1000000) : Tx.okS s bSp = true := by
  unfold Tx.okS
  rw [decide_eq_true (by omega), show decide (1 ≤ bSp.size) = true from rfl]; rfl
theorem readL_cons {row : ByteArray} {rows : List ByteArray} {k : Nat} {c c' : Reader} (ho : row.size ≤ 1000000) (hg : goodRow k c (Tx.splitV row bSp) = some c') : readL (row :: rows) k c = readL rows (k + 1) c' := by
  show chk (Tx.okS row bSp) _ = _
  rw [okS_of ho, hg]; rfl
def Short (l : List (List UInt8)) : Prop := ∀ w ∈ l, w.length ≤ 1000000
theorem read_turns : ∀ (hs : List Turn) (k : Nat) (m : Int) (ts : List Driver) (w : ByteArray) (s : Int) (h0 : List Turn) (rest : List ByteArray), (∀ t ∈ hs, ∀ n ∈ turnNs t, NumOk n) → Short (hs.map turnB) →
    ∃ k', readL ((hs.map turnB).map mk ++ rest) k ⟨ts ++ [⟨w, s, h0⟩], m, 0, 0⟩ = readL rest k' ⟨ts ++ [⟨w, s, h0 ++ hs⟩], m + (hs.length : Int), 0, 0⟩
  | [], k, m, ts, w, s, h0, rest, _, _ => ⟨k, by rw [List.append_nil, show m + (([] : List Turn).length : Int) = m from Int.add_zero m]; rfl⟩
  | h :: hs, k, m, ts, w, s, h0, rest, hh, hz => by
    have h1 := hh h (List.mem_cons_self ..)
    obtain ⟨k', e⟩ := read_turns hs (k + 1) (m + 1) ts w s (h0 ++ [h]) rest (fun x hx => hh x (List.mem_cons_of_mem _ hx)) fun x hx => hz x (List.mem_cons_of_mem _ hx)
    refine ⟨k', ?_⟩
    rw [List.append_assoc, show m + 1 + (hs.length : Int) = m + ((h :: hs).length : Int) by simp only [List.length_cons]; omega] at e
    refine Eq.trans ?_ e
    refine readL_cons ?_ ?_
    · rw [mk_size]; exact hz _ (List.mem_cons_self ..)
    · show goodRow k _ (Tx.splitV (mk (rowB wTurn (turnNs h))) bSp) = _
      rw [rowB_split (by decide) h1]
      exact good_turn (r := ⟨ts ++ [⟨w, s, h0⟩], m, 0, 0⟩) (d := ⟨w, s, h0⟩) rfl rfl h1
theorem read_drivers : ∀ (ts : List Driver) (k : Nat) (m : Int) (t0 : List Driver) (rest : List ByteArray), (∀ t ∈ ts, NumD t) → Short (ts.flatMap linesD) →
    ∃ k', readL ((ts.flatMap linesD).map mk ++ rest) k ⟨t0, m, 0, 0⟩ = readL rest k' ⟨t0 ++ ts, m + (cnt ts : Int), 0, 0⟩
  | [], k, m, t0, rest, _, _ => ⟨k, by rw [List.append_nil, show m + ((cnt [] : Nat) : Int) = m from Int.add_zero m]; rfl⟩
  | t :: ts, k, m, t0, rest, hh, hz => by
    have h1 := hh t (List.mem_cons_self ..)
    rw [List.flatMap_cons] at hz
    obtain ⟨k1, e1⟩ := read_turns t.Turns (k + 1) m t0 t.Name t.Skills [] ((ts.flatMap linesD).map mk ++ rest) h1.t fun x hx => hz x (List.mem_append_left _ (List.mem_cons_of_mem _ hx))
    obtain ⟨k2, e2⟩ := read_drivers ts k1 (m + (t.Turns.length : Int)) (t0 ++ [t]) rest (fun x hx => hh x (List.mem_cons_of_mem _ hx)) fun x hx => hz x (List.mem_append_right _ hx)
    refine ⟨k2, ?_⟩
    rw [List.append_assoc, show m + (t.Turns.length : Int) + (cnt ts : Int) = m + ((cnt (t :: ts) : Nat) : Int) by show _ = m + ((t.Turns.length + cnt ts : Nat) : Int); omega] at e2
    refine Eq.trans ?_ e2
    refine Eq.trans ?_ e1
    rw [List.flatMap_cons, List.map_append, List.append_assoc]
    refine readL_cons ?_ ?_
    · rw [mk_size]; exact hz _ (List.mem_append_left _ (List.mem_cons_self ..))
    · rw [headB_split h1]
      exact good_driver (r := ⟨t0, m, 0, 0⟩) rfl h1.n0 h1.s
theorem read_lines {l : List Driver} (h : ∀ d ∈ l, NumD d) (hz : Short (lines l)) (hc : cnt l ≤ 999999) : ∃ k : Nat, readL ((lines l).map mk) 0 zeroR = some (.ok ⟨l, cnt l, (k : Int) + 1, cnt l⟩) := by
  obtain ⟨k, e⟩ := read_drivers l 0 0 [] [mk (endB (cnt l))] h fun x hx => hz x (List.mem_append_left _ hx)
  rw [List.nil_append, Int.zero_add] at e
  refine ⟨k, ?_⟩
  unfold lines
  rw [List.map_append]
  refine e.trans ((readL_cons (c' := ⟨l, cnt l, (k : Int) + 1, cnt l⟩) ?_ ?_).trans rfl)
  · rw [mk_size]; exact hz _ (List.mem_append_right _ (List.mem_cons_self ..))
  · have hn : NumOk (cnt l : Int) := ⟨by omega, by omega⟩
    show goodRow k _ (Tx.splitV (mk (rowB wEnd [((cnt l : Nat) : Int)])) bSp) = _
    rw [rowB_split (by decide) (one_ok hn)]
    exact good_end (r := ⟨l, cnt l, 0, 0⟩) rfl hn
theorem lines_no {l : List Driver} (h : ∀ d ∈ l, NumD d) (hc : cnt l ≤ 999999) : ∀ w ∈ lines l, (10 : UInt8) ∉ w := fun w hw => by
  rcases List.mem_append.1 hw with hw | hw
  · obtain ⟨d, hd, hw⟩ := List.mem_flatMap.1 hw
    have h1 := h d hd
    rcases List.mem_cons.1 hw with rfl | hw
    · refine rowB_no (fun hm => ?_) (one_ok h1.s)
      rcases List.mem_append.1 hm with h2 | h2
      · exact absurd h2 (by decide)
      · rcases List.mem_cons.1 h2 with h3 | h3
        · cases h3
        · exact h1.n10 h3
    · obtain ⟨x, hx, rfl⟩ := List.mem_map.1 hw
      exact rowB_no (by decide) (h1.t x hx)
  · rw [List.mem_singleton.1 hw]
    exact rowB_no (by decide) (one_ok ⟨by omega, by omega⟩)
theorem rows_len (c : UInt8) (l : List (List UInt8)) : l.length ≤ (rowsL c l).length := flat_cnt (· ++ [c]) (fun x => by simp) l
theorem rows_mem (c : UInt8) {l : List (List UInt8)} {x : List UInt8} (h : x ∈ l) : x.length ≤ (rowsL c l).length := by
  have := flat_mem (· ++ [c]) h
  rw [List.length_append] at this
  exact Nat.le_trans (Nat.le_add_right _ _) this
theorem okS_nl {s : ByteArray} (h : s.size ≤ 1000000) : Tx.okS s bNl = true := by
  unfold Tx.okS
  rw [decide_eq_true (by omega), show decide (1 ≤ bNl.size) = true from rfl]; rfl
theorem cnt_text (l : List Driver) : cnt l ≤ (textL l).length := by
  have := cnt_body l
  unfold textL
  rw [List.length_append]; omega
theorem Read_text {l : List Driver} (hc : pChecks l = some 0) (hn : ∀ d ∈ l, NumD d) (hl : (textL l).length ≤ 10000) : Read (mk (textL l)) = some (l, 0, 0) := by
  have hcn := cnt_text l
  rw [Read_eq]
  unfold readF
  have hs : Tx.splitV (mk (textL l)) bNl = (lines l).map mk ++ [mk []] := by
    rw [show bNl = (⟨#[10]⟩ : ByteArray) from rfl, splitV_eq, bl_mk, text_lines, split_rows 10 _ (lines_no hn (by omega)), List.map_append]; rfl
  have hlen : (lines l).length ≤ 10000 := by
    have := rows_len 10 (lines l)
    rw [← text_lines] at this
    omega
  have hz : Short (lines l) := fun w hw => by
    have := rows_mem 10 hw
    rw [← text_lines] at this
    omega
  obtain ⟨k, hr⟩ := read_lines hn hz (by omega)
  have h1 : ((lines l).map mk ++ [mk []]).length = (lines l).length + 1 := by rw [List.length_append, List.length_map]; rfl
  rw [hs, List.getLast?_concat, List.dropLast_concat, hr, h1, mk_size, okS_nl (by rw [mk_size]; omega), decide_eq_false (by omega), decide_eq_true (by omega)]
  show readT ((lines l).length + 1 - 1) (mk []) (.ok ⟨l, cnt l, (k : Int) + 1, cnt l⟩) = some (l, 0, 0)
  unfold readT
  simp only
  rw [hc, show eqB (mk []) ⟨#[]⟩ = true from eqB_mk [] [], show (((k : Int) + 1) == 0) = false by simp; omega, show (((cnt l : Nat) : Int) != ((cnt l : Nat) : Int)) = false by simp]
  rfl
end Go.Proofs.Tp09
namespace Go.Proofs.Tp09
open Go Go.Ab
open Go.Proofs.Crew (within moment within_sp DOk)
set_option linter.all false
set_option maxRecDepth 100000
theorem moment_any (x : Span) : Ok (fun _ => True) (Crew.moment x) := by
  rw [Crew.moment_eq]
  unfold Crew.moment'
  rw [within_sp, within_sp]
  simp only [Option.bind_some]
  generalize (decide (0 ≤ x.Lo) && decide (x.Lo ≤ 3000)) = a
  generalize (decide (0 ≤ x.Hi) && decide (x.Hi ≤ 3000)) = b
  generalize decide (x.Lo > x.Hi) = c
  cases a <;> cases b <;> cases c <;> exact ⟨_, rfl, trivial⟩
theorem turns_any {d : Driver} (hl : d.Turns.length ≤ 1000000) : Ok (fun (_ : Int) => True) (itN _ (fun (v_0 : (Unit × Int × Unit) × (Unit)) kn => Crew.pCheck_L10__3 d v_0.1.2.1 (fun y0 => kn (((), y0, ()), (())))) (((), 0, ()), (()))) := by
  refine Ok.rounds (inv := fun v => ∃ j : Nat, j ≤ d.Turns.length ∧ v.1.2.1 = (j : Int)) (μ := fun v => d.Turns.length - v.1.2.1.toNat) (by show d.Turns.length - 0 < FUEL; unfold FUEL; omega) ⟨0, Nat.zero_le _, rfl⟩ ?_
  rintro ⟨⟨u1, x, u4⟩, u5⟩ kn ⟨j, hj, e1⟩ hk
  simp only at e1 ⊢
  subst e1
  unfold Crew.pCheck_L10__3
  refine Ok.ite (fun hlt => ?_) (fun _ => Ok.some trivial)
  have hlt : j < d.Turns.length := by have := of_decide_eq_true hlt; omega
  refine Ok.chk (idx_ok hlt) ?_
  have go : Ok (fun _ => True) (kn ((u1, w64 ((j : Int) + 1), u4), u5)) := by
    have e : w64 ((j : Int) + 1) = ((j + 1 : Nat) : Int) := by rw [w64_id (by omega) (by omega)]; push_cast; rfl
    refine hk _ ⟨j + 1, hlt, e⟩ ?_
    show d.Turns.length - (w64 ((j : Int) + 1)).toNat < d.Turns.length - ((j : Int)).toNat
    rw [e]; omega
  refine Ok.bind (moment_any _) fun _ _ => Ok.ite (fun _ => Ok.some trivial) fun _ => ?_
  refine Ok.bind (moment_any _) fun _ _ => Ok.ite (fun _ => Ok.some trivial) fun _ => ?_
  refine Ok.ite (fun _ => Ok.some trivial) fun _ => Ok.ite (fun q => ?_) fun _ => go
  have h0 : 0 < j := by have := of_decide_eq_true q; omega
  have e : w64 ((j : Int) - 1) = ((j - 1 : Nat) : Int) := by rw [w64_id (by omega) (by omega)]; omega
  rw [e]
  exact Ok.chk (idx_ok (by omega)) (Ok.ite (fun _ => Ok.some trivial) fun _ => go)
theorem check_any {d : Driver} (hl : d.Turns.length ≤ 1000000) (hn : d.Name.size ≤ 1000000) : Ok (fun _ => True) (Crew.pCheck d) := by
  rw [Crew.pCheck_eq]
  unfold Crew.pCheck'
  refine Ok.ite (fun q => Ok.ite (fun _ => Ok.some trivial) fun q2 => ?_) fun q => ?_
  · rw [q] at q2; cases q2
  refine Ok.ite (fun q => Ok.ite (fun _ => Ok.some trivial) fun q2 => ?_) fun q => ?_
  · rw [q] at q2; cases q2
  have ht : Tx.trim d.Name Crew.az = some (Tx.trimV d.Name Crew.az) := by rw [Tx.trim_eq, show Tx.okTrim d.Name Crew.az = true by unfold Tx.okTrim; rw [decide_eq_true (by omega)]; rfl]; rfl
  refine Ok.bind (P := fun _ => True) ⟨_, ht, trivial⟩ fun _ _ => ?_
  refine Ok.ite (fun _ => Ok.some trivial) fun _ => ?_
  rw [within_sp]
  refine Ok.bind (P := fun _ => True) ⟨_, rfl, trivial⟩ fun _ _ => Ok.ite (fun _ => Ok.some trivial) fun _ => Ok.ite (fun _ => Ok.some trivial) fun _ => turns_any hl
theorem checks_any {l : List Driver} (hh : ∀ d ∈ l, d.Turns.length ≤ 1000000 ∧ d.Name.size ≤ 1000000) : Ok (fun e => l.length ≤ 4 → (∀ d ∈ l, DOk d) → e = 0) (pChecks l) := by
  rw [pChecks_eq]
  unfold pChecks'
  refine Ok.ite (fun q => Ok.some fun h => ?_) fun q => ?_
  · have := of_decide_eq_true q; omega
  have q := of_decide_eq_false q
  refine Ok.rounds (inv := fun v => ∃ j : Nat, j ≤ l.length ∧ v.1.1 = (j : Int)) (μ := fun v => l.length - v.1.1.toNat) (by show l.length - 0 < FUEL; unfold FUEL; omega) ⟨0, Nat.zero_le _, rfl⟩ ?_
  rintro ⟨⟨x, u4⟩, u5⟩ kn ⟨j, hj, e1⟩ hk
  simp only at e1 ⊢
  subst e1
  unfold pChecks_L4
  rw [show ((j : Int)).toNat = j by omega]
  refine Ok.ite (fun hlt => ?_) (fun _ => Ok.some fun _ _ => rfl)
  have hlt : j < l.length := by have := of_decide_eq_true hlt; omega
  refine Ok.chk (idx_ok hlt) ?_
  have hmem := getD_mem' (d := dfltDriver) hlt
  obtain ⟨e0, h0, _⟩ := check_any (hh _ hmem).1 (hh _ hmem).2
  refine Ok.bind (P := fun r => r = e0) ⟨_, h0, rfl⟩ fun r hr => Ok.ite (fun q2 => Ok.some fun _ hd => ?_) fun _ => ?_
  · rw [Crew.pCheck_ok (hd _ hmem)] at h0
    cases h0; exact hr
  · have e : w64 ((j : Int) + 1) = ((j + 1 : Nat) : Int) := by rw [w64_id (by omega) (by omega)]; push_cast; rfl
    refine hk _ ⟨j + 1, hlt, e⟩ ?_
    show l.length - (w64 ((j : Int) + 1)).toNat < l.length - ((j : Int)).toNat
    rw [e]; omega
structure BMade (l : List Driver) : Prop where
  n : l.length ≤ 4
  d : ∀ d ∈ l, ∃ name : ByteArray, NameG name ∧ DMade name 6 d
theorem made_num {l : List Driver} (h : BMade l) : ∀ d ∈ l, NumD d := fun d hd => by
  obtain ⟨name, ⟨_, g1, g2, g3⟩, m⟩ := h.d d hd
  have := m.sk
  refine ⟨⟨⟨by omega, by omega⟩, fun t ht n hn => ?_⟩, by rw [m.nm]; exact g1, by rw [m.nm]; exact g2, by rw [m.nm]; exact g3⟩
  obtain ⟨⟨a, b, c, e⟩, f⟩ := m.tv t ht
  simp only [turnNs, List.mem_cons, List.not_mem_nil, or_false] at hn
  rcases hn with rfl | rfl | rfl | rfl <;> exact ⟨by omega, by omega⟩
theorem made_ok {l : List Driver} (h : BMade l) : ∀ d ∈ l, DOk d := fun d hd => by
  obtain ⟨name, ⟨g, _⟩, m⟩ := h.d d hd
  exact m.ok g (by decide)
theorem made_size {l : List Driver} (h : BMade l) : ∀ d ∈ l, d.Turns.length ≤ 6 ∧ d.Name.size ≤ 8 := fun d hd => by
  obtain ⟨name, ⟨g, _⟩, m⟩ := h.d d hd
  have h1 := m.len
  have h2 := (m.ok g (by decide)).nm.2.1
  exact ⟨by omega, h2⟩
theorem made_check {l : List Driver} (h : BMade l) : pChecks l = some 0 := by
  obtain ⟨e, h2, h3⟩ := checks_any (l := l) fun d hd => by have := made_size h d hd; omega
  rw [h2, h3 h.n (made_ok h)]
theorem flat_len {α : Type} {f : α → List UInt8} {K : Nat} : ∀ l : List α, (∀ x ∈ l, (f x).length ≤ K) → (l.flatMap f).length ≤ K * l.length
  | [], _ => Nat.zero_le _
  | x :: l, h => by
    have h1 := h x (List.mem_cons_self ..)
    have h2 := flat_len l fun y hy => h y (List.mem_cons_of_mem _ hy)
    rw [List.flatMap_cons, List.length_append, List.length_cons, Nat.mul_succ]
    omega
theorem rowL_len {w : List UInt8} {ns : List Int} (h : ∀ n ∈ ns, NumOk n) : (rowL w ns).length ≤ w.length + 7 * ns.length + 1 := by
  have := nums_len ns h
  unfold rowL
  simp only [List.length_append, List.length_cons, List.length_nil]; omega
theorem made_len {l : List Driver} (h : BMade l) : (textL l).length ≤ 10000 := by
  have hn := made_num h
  have h2 : ∀ d ∈ l, (driverL d).length ≤ 250 ∧ d.Turns.length ≤ 6 := fun d hd => by
    have hd2 := hn d hd
    have hs := made_size h d hd
    have h3 : (headL d).length ≤ 23 := by
      have := rowL_len (w := wDriver ++ 32 :: bl d.Name) (one_ok hd2.s)
      have e5 : wDriver.length = 6 := rfl
      have e6 := bl_len d.Name
      simp only [List.length_cons, List.length_nil, List.length_append] at this
      show (rowL _ _).length ≤ _
      omega
    have h4 : (d.Turns.flatMap turnL).length ≤ 33 * d.Turns.length := flat_len _ fun x hx => by
      have := rowL_len (w := wTurn) (hd2.t x hx)
      have e4 : wTurn.length = 4 := rfl
      have e5 : (turnNs x).length = 4 := rfl
      show (rowL wTurn _).length ≤ _
      omega
    refine ⟨?_, hs.1⟩
    unfold driverL
    rw [List.length_append]; omega
  have h3 := flat_len l fun d hd => (h2 d hd).1
  have h4 := h.n
  have h5 : ∀ l : List Driver, (∀ d ∈ l, d.Turns.length ≤ 6) → cnt l ≤ 6 * l.length := fun l => by
    induction l with
    | nil => exact fun _ => Nat.le_refl _
    | cons x l ih =>
      intro hl
      have a := hl x (List.mem_cons_self ..)
      have b := ih fun d hd => hl d (List.mem_cons_of_mem _ hd)
      show x.Turns.length + cnt l ≤ _
      rw [List.length_cons]; omega
  have h6 := h5 l fun d hd => (h2 d hd).2
  have h7 := rowL_len (w := wEnd) (one_ok (a := (cnt l : Int)) ⟨by omega, by omega⟩)
  have e3 : wEnd.length = 3 := rfl
  simp only [List.length_cons, List.length_nil] at h7
  unfold textL bodyL endL
  rw [List.length_append]; omega
theorem Same_self {l : List Driver} (hl : l.length ≤ 1000000) (hh : ∀ t ∈ l, t.Turns.length ≤ 1000000) : Same l l = some true := by
  refine Crew.ok_eq ?_
  rw [Same_eq]
  unfold Same'
  refine Ok.ite (fun q => by simp at q) fun _ => ?_
  refine Ok.rounds (inv := fun v => ∃ j : Nat, j ≤ l.length ∧ v.1.1 = (j : Int)) (μ := fun v => l.length - v.1.1.toNat) (by show l.length - 0 < FUEL; unfold FUEL; omega) ⟨0, Nat.zero_le _, rfl⟩ ?_
  rintro ⟨⟨x, u4⟩, u5⟩ kn ⟨j, hj, e1⟩ hk
  simp only at e1 ⊢
  subst e1
  unfold Same_L4
  rw [show ((j : Int)).toNat = j by omega]
  refine Ok.ite (fun hlt => ?_) (fun _ => Ok.some rfl)
  have hlt : j < l.length := by have := of_decide_eq_true hlt; omega
  have hmem := getD_mem' (d := dfltDriver) hlt
  have hb := hh _ hmem
  have ix := idx_ok hlt
  refine Ok.chk ix (Ok.chk ix (Ok.ite (fun q => by simp at q) fun _ => Ok.chk ix (Ok.chk ix (Ok.ite (fun q => by simp at q) fun _ => Ok.chk ix (Ok.chk ix (Ok.ite (fun q => by simp at q) fun _ => ?_))))))
  have e : w64 ((j : Int) + 1) = ((j + 1 : Nat) : Int) := by rw [w64_id (by omega) (by omega)]; push_cast; rfl
  have go : Ok (fun r => r = true) (kn ((w64 ((j : Int) + 1), u4), u5)) := by
    refine hk _ ⟨j + 1, hlt, e⟩ ?_
    show l.length - (w64 ((j : Int) + 1)).toNat < l.length - ((j : Int)).toNat
    rw [e]; omega
  refine Ok.rounds (inv := fun v => ∃ i : Nat, i ≤ (l.getD j dfltDriver).Turns.length ∧ v.1.1 = (i : Int)) (μ := fun v => (l.getD j dfltDriver).Turns.length - v.1.1.toNat) (by show (l.getD j dfltDriver).Turns.length - 0 < FUEL; unfold FUEL; omega) ⟨0, Nat.zero_le _, rfl⟩ ?_
  rintro ⟨⟨y, w5⟩, w6⟩ kn2 ⟨i, hi, e1⟩ hk2
  simp only at e1 ⊢
  subst e1
  unfold Same_L9
  rw [show ((j : Int)).toNat = j by omega, show ((i : Int)).toNat = i by omega]
  refine Ok.chk ix (Ok.ite (fun hlt2 => ?_) (fun _ => go))
  have hlt2 : i < (l.getD j dfltDriver).Turns.length := by have := of_decide_eq_true hlt2; omega
  refine Ok.chk ix (Ok.chk (idx_ok hlt2) (Ok.chk ix (Ok.chk (idx_ok hlt2) (Ok.ite (fun q => by simp at q) fun _ => ?_))))
  have e2 : w64 ((i : Int) + 1) = ((i + 1 : Nat) : Int) := by rw [w64_id (by omega) (by omega)]; push_cast; rfl
  refine hk2 _ ⟨i + 1, hlt2, e2⟩ ?_
  show (l.getD j dfltDriver).Turns.length - (w64 ((i : Int) + 1)).toNat < (l.getD j dfltDriver).Turns.length - ((i : Int)).toNat
  rw [e2]; omega
end Go.Proofs.Tp09
namespace Go.Proofs.Tp09
open Go Go.Ab
set_option linter.all false
set_option maxRecDepth 100000
theorem consH_len (b : UInt8) {l : List (List UInt8)} (h : l ≠ []) : (consH b l).length = l.length := by
  cases l with
  | nil => exact absurd rfl h
  | cons _ _ => rfl
theorem split_len (c : UInt8) : ∀ l : List UInt8, (splitL c l).length ≤ l.length + 1
  | [] => Nat.le_refl _
  | b :: l => by
    have ih := split_len c l
    unfold splitL
    split
    · show (splitL c l).length + 1 ≤ l.length + 1 + 1; omega
    · rw [consH_len _ (splitL_ne c l)]; exact Nat.le_succ_of_le ih
theorem split_mem (c : UInt8) : ∀ (l : List UInt8) (w : List UInt8), w ∈ splitL c l → w.length ≤ l.length
  | [], w, h => by
    rw [show splitL c [] = [[]] from rfl] at h
    rw [List.mem_singleton.1 h]; exact Nat.le_refl _
  | b :: l, w, h => by
    have ih := split_mem c l
    unfold splitL at h
    split at h
    · rcases List.mem_cons.1 h with rfl | h
      · exact Nat.zero_le _
      · exact Nat.le_succ_of_le (ih w h)
    · generalize hp : splitL c l = p at ih h
      cases p with
      | nil => exact absurd hp (splitL_ne c l)
      | cons y r =>
        rcases List.mem_cons.1 h with rfl | h
        · exact Nat.succ_le_succ (ih y (List.mem_cons_self ..))
        · exact Nat.le_succ_of_le (ih w (List.mem_cons_of_mem _ h))
structure Pieces (s : ByteArray) (c : UInt8) (ws : List ByteArray) : Prop where
  ne : ws ≠ []
  len : ws.length ≤ s.size + 1
  mem : ∀ w ∈ ws, w.size ≤ s.size
  join : joinL c (ws.map bl) = bl s
theorem pieces (s : ByteArray) (c : UInt8) : Pieces s c (Tx.splitV s ⟨#[c]⟩) := by
  rw [splitV_eq]
  refine ⟨?_, ?_, fun w hw => ?_, ?_⟩
  · have := splitL_ne c (bl s)
    intro h
    exact this (List.map_eq_nil_iff.1 h)
  · rw [List.length_map, ← bl_len]; exact split_len c _
  · obtain ⟨x, hx, rfl⟩ := List.mem_map.1 hw
    rw [mk_size, ← bl_len]
    exact split_mem c _ _ hx
  · rw [List.map_map]
    rw [show (bl ∘ mk) = id from rfl, List.map_id]
    exact join_split c _
theorem subL_one {α : Type} (w : α) (r : List α) : subL (w :: r) 1 (((w :: r).length : Nat) : Int) = r := by
  show (List.take ((((w :: r).length : Nat) : Int)).toNat (w :: r)).drop 1 = r
  rw [Int.toNat_natCast, List.take_length]; rfl
theorem num_cases {r : List ByteArray} {m : Int} (hl : r.length ≤ 1000000) (hs : ∀ w ∈ r, w.size ≤ 1000000) : (∃ ns, numbers r m = some (ns, true) ∧ (ns.length : Int) = m) ∨ ∃ ns, numbers r m = some (ns, false) := by
  obtain ⟨⟨ns, b⟩, h1, h2⟩ := numbers_ok (m := m) hl hs
  rcases h2 with ⟨a, _, h3, _⟩ | ⟨a, _⟩
  · cases a; exact .inl ⟨ns, h1, h3⟩
  · cases a; exact .inr ⟨ns, h1⟩
theorem len1 {ns : List Int} (h : (ns.length : Int) = 1) : ∃ a, ns = [a] := by
  match ns, h with
  | [a], _ => exact ⟨a, rfl⟩
  | [], h => cases h
  | _ :: _ :: _, h => simp only [List.length_cons] at h; omega
theorem len4 {ns : List Int} (h : (ns.length : Int) = 4) : ∃ a b c d, ns = [a, b, c, d] := by
  match ns, h with
  | [a, b, c, d], _ => exact ⟨a, b, c, d, rfl⟩
  | [], h => cases h
  | [_], h => cases h
  | [_, _], h => cases h
  | [_, _, _], h => cases h
  | _ :: _ :: _ :: _ :: _ :: _, h => simp only [List.length_cons] at h; omega
theorem no_of {r : Reader} {x : Option (Reader × Bool)} (h : Ok (fun y => y.2 = false) x) : no x = some () := by
  obtain ⟨y, rfl, h⟩ := h
  unfold no
  show (bif y.2 then none else some ()) = _
  rw [h]; rfl
theorem driver_no {k : Nat} {r : Reader} {w0 : ByteArray} {ws : List ByteArray} (hl : ws.length ≤ 1000000) (hm : ∀ w ∈ ws, w.size ≤ 1000000) (he : decide (r.end_ > 0) = false) (h0 : eqB w0 bDriver = true) (h : goodRow k r (w0 :: ws) = none) : Ok (fun y => y.2 = false) (driverR r ws) := by
  rw [driverR_eq]
  unfold driverR'
  refine Ok.ite (fun _ => Ok.some rfl) fun q => ?_
  cases ws with
  | nil => exact absurd q (by decide)
  | cons w1 r' =>
    refine Ok.chk (idx_ok (k := 0) (by simp)) (Ok.ite (fun _ => Ok.some rfl) fun q1 => ?_)
    have q1 : eqB w1 ⟨#[]⟩ = false := q1
    refine Ok.chk (by simp; omega) ?_
    rw [subL_one]
    rcases num_cases (r := r') (m := 1) (by rw [List.length_cons] at hl; omega) (fun w hw => hm w (List.mem_cons_of_mem _ hw)) with ⟨ns, h1, h2⟩ | ⟨ns, h1⟩
    · obtain ⟨x, rfl⟩ := len1 h2
      unfold goodRow at h
      simp only at h
      rw [he, h0, q1, h1] at h
      cases h
    · rw [h1]; exact Ok.some rfl
theorem turn_no {k : Nat} {r : Reader} {w0 : ByteArray} {ws : List ByteArray} (hl : ws.length ≤ 1000000) (hm : ∀ w ∈ ws, w.size ≤ 1000000) (he : decide (r.end_ > 0) = false) (h0 : eqB w0 bDriver = false) (h1 : eqB w0 bTurn = true) (h : goodRow k r (w0 :: ws) = none) : Ok (fun y => y.2 = false) (turnR r ws) := by
  rw [turnR_eq]
  unfold turnR'
  rcases num_cases (m := 4) hl hm with ⟨ns, h2, h3⟩ | ⟨ns, h2⟩
  · obtain ⟨a, b, c, d, rfl⟩ := len4 h3
    refine Crew.Ok.beq h2 (Ok.ite (fun q => (nomatch (show false = true from q))) fun _ => Ok.ite (fun _ => Ok.some rfl) fun q => ?_)
    have hne : r.drivers ≠ [] := fun e => by rw [e] at q; exact absurd q (by decide)
    unfold goodRow at h
    simp only at h
    rw [he, h0, h1, h2, last_at hne] at h
    cases h
  · rw [h2]; exact Ok.some rfl
theorem end_no {k : Nat} {r : Reader} {w0 : ByteArray} {ws : List ByteArray} (hl : ws.length ≤ 1000000) (hm : ∀ w ∈ ws, w.size ≤ 1000000) (he : decide (r.end_ > 0) = false) (h0 : eqB w0 bDriver = false) (h1 : eqB w0 bTurn = false) (h2 : eqB w0 bEnd = true) (h : goodRow k r (w0 :: ws) = none) : Ok (fun y => y.2 = false) (endedR r ws) := by
  rw [endedR_eq]
  unfold endedR'
  rcases num_cases (m := 1) hl hm with ⟨ns, h3, h4⟩ | ⟨ns, h3⟩
  · obtain ⟨a, rfl⟩ := len1 h4
    unfold goodRow at h
    simp only at h
    rw [he, h0, h1, h2, h3] at h
    cases h
  · rw [h3]; exact Ok.some rfl
theorem bad_ok {k : Nat} {r : Reader} {w0 : ByteArray} {ws : List ByteArray} (hl : ws.length ≤ 1000000) (hm : ∀ w ∈ ws, w.size ≤ 1000000) (h : goodRow k r (w0 :: ws) = none) : badRow r (w0 :: ws) = some () := by
  unfold badRow
  simp only
  cases h0 : eqB w0 bDriver with
  | true =>
    cases he : decide (r.end_ > 0) with
    | true => rfl
    | false => exact no_of (r := r) (driver_no hl hm he h0 h)
  | false =>
    cases h1 : eqB w0 bTurn with
    | true =>
      cases he : decide (r.end_ > 0) with
      | true => rfl
      | false => exact no_of (r := r) (turn_no hl hm he h0 h1 h)
    | false =>
      cases h2 : eqB w0 bEnd with
      | true =>
        cases he : decide (r.end_ > 0) with
        | true => rfl
        | false => exact no_of (r := r) (end_no hl hm he h0 h1 h2 h)
      | false => rfl
theorem map_bl_word (ns : List Int) : (ns.map word).map bl = ns.map digs := List.map_map ..
structure Inv (r : Reader) (ls : List (List UInt8)) : Prop where
  n : ∀ d ∈ r.drivers, NumW d
  t : r.turns = (cnt r.drivers : Int)
  e : 0 ≤ r.end_
  l : ls = r.drivers.flatMap linesD ++ (if r.end_ > 0 then [endB r.sum] else [])
theorem good_line {row : ByteArray} {k : Nat} {r r' : Reader} {ls : List (List UInt8)} (hs : row.size ≤ 1000000 - 1) (h : Good row k r r') (hi : Inv r ls) : Inv r' (ls ++ [bl row]) := by
  have key : ∀ {ws : List ByteArray}, Words row ws → Pieces row 32 ws := fun W => W.eq ▸ pieces row 32
  obtain ⟨i1, i2, i3, i4⟩ := hi
  cases h with
  | driver w0 w1 r' p he W h0 h1 hn =>
    have P := key W
    obtain ⟨e1, e2, e3⟩ := numbers_true (by have := P.len; simp only [List.length_cons] at this; omega) (fun w hw => by have := P.mem w (List.mem_cons_of_mem _ (List.mem_cons_of_mem _ hw)); omega) hn
    have he := of_decide_eq_false he
    rw [if_neg he, List.append_nil] at i4
    have hj := P.join
    rw [e1, eqB_iff.1 h0, List.map_cons, List.map_cons, map_bl_word] at hj
    refine ⟨fun d hd => ?_, ?_, i3, ?_⟩
    · rcases List.mem_append.1 hd with hd | hd
      · exact i1 d hd
      · rw [List.mem_singleton.1 hd]
        exact ⟨e3 p (by simp), fun t ht => by cases ht⟩
    · show r.turns = ((cnt (r.drivers ++ [(⟨w1, p, []⟩ : Driver)]) : Nat) : Int)
      rw [cnt_app, i2]; rfl
    · show _ = (r.drivers ++ [(⟨w1, p, []⟩ : Driver)]).flatMap linesD ++ (if r.end_ > 0 then _ else _)
      rw [if_neg he, List.append_nil, List.flatMap_append, List.flatMap_singleton, i4, ← hj]
      congr 1
      show _ = [headB _]
      rw [headB_join]; rfl
  | turn w0 ws t a b c d he W h0 hl hn =>
    have P := key W
    obtain ⟨e1, e2, e3⟩ := numbers_true (by have := P.len; rw [List.length_cons] at this; omega) (fun w hw => by have := P.mem w (List.mem_cons_of_mem _ hw); omega) hn
    have he := of_decide_eq_false he
    rw [if_neg he, List.append_nil] at i4
    have hj := P.join
    rw [e1, eqB_iff.1 h0, List.map_cons, map_bl_word] at hj
    obtain ⟨ts, hts⟩ := List.getLast?_eq_some_iff.1 hl
    have e : (addTurn r t (mkTurn a b c d)).drivers = ts ++ [⟨t.Name, t.Skills, t.Turns ++ [mkTurn a b c d]⟩] := by unfold addTurn; rw [hts, List.dropLast_concat]
    have hT := i1 t (by rw [hts]; simp)
    refine ⟨fun x hx => ?_, ?_, i3, ?_⟩
    · rw [e] at hx
      rcases List.mem_append.1 hx with hx | hx
      · exact i1 x (by rw [hts]; exact List.mem_append_left _ hx)
      · rw [List.mem_singleton.1 hx]
        refine ⟨hT.s, fun y hy => ?_⟩
        rcases List.mem_append.1 hy with hy | hy
        · exact hT.t y hy
        · rw [List.mem_singleton.1 hy]; exact e3
    · rw [e, cnt_app]
      show r.turns + 1 = ((cnt ts + ((t.Turns ++ [mkTurn a b c d]).length + 0) : Nat) : Int)
      rw [i2, hts, cnt_app, List.length_append]
      show ((cnt ts + (t.Turns.length + 0) : Nat) : Int) + 1 = ((cnt ts + (t.Turns.length + 1 + 0) : Nat) : Int)
      omega
    · rw [e]
      show _ = _ ++ (if r.end_ > 0 then _ else _)
      rw [if_neg he, List.append_nil, List.flatMap_append, List.flatMap_singleton, i4, ← hj, hts, List.flatMap_append, List.flatMap_singleton, List.append_assoc]
      congr 1
      show (headB t :: t.Turns.map turnB) ++ _ = headB t :: (t.Turns ++ [mkTurn a b c d]).map turnB
      rw [List.map_append, List.cons_append]
      congr 2
      show _ = [turnB _]
      unfold turnB
      rw [rowB_join]; rfl
  | fin w0 ws p he W h0 hn =>
    have P := key W
    obtain ⟨e1, e2, e3⟩ := numbers_true (by have := P.len; rw [List.length_cons] at this; omega) (fun w hw => by have := P.mem w (List.mem_cons_of_mem _ hw); omega) hn
    have he := of_decide_eq_false he
    rw [if_neg he, List.append_nil] at i4
    have hj := P.join
    rw [e1, eqB_iff.1 h0, List.map_cons, map_bl_word] at hj
    refine ⟨i1, i2, by show 0 ≤ (k : Int) + 1; omega, ?_⟩
    show _ = _ ++ (if (k : Int) + 1 > 0 then [endB p] else [])
    rw [if_pos (by omega), i4, ← hj]
    congr 1
    show _ = [endB _]
    unfold endB
    rw [rowB_join]; rfl
theorem row_cases {row : ByteArray} (hs : row.size ≤ 1000000 - 1) (rows : List ByteArray) (k : Nat) (r : Reader) :
    (∃ r', Good row k r r' ∧ readL (row :: rows) k r = readL rows (k + 1) r') ∨ readL (row :: rows) k r = some (.error ([], (k : Int) + 1, 3)) := by
  cases hg : goodRow k r (Tx.splitV row bSp) with
  | some r' => exact .inl ⟨r', good_of (okS_of (by omega)) hg, readL_cons (by omega) hg⟩
  | none =>
    refine .inr ?_
    have P : Pieces row 32 (Tx.splitV row bSp) := pieces row 32
    show chk (Tx.okS row bSp) _ = _
    rw [okS_of (by omega), hg]
    obtain ⟨w0, ws, hw⟩ := List.exists_cons_of_ne_nil P.ne
    rw [hw] at P hg
    show (badRow r (Tx.splitV row bSp)).bind _ = _
    rw [hw, bad_ok (by have := P.len; rw [List.length_cons] at this; omega) (fun w hm => by have := P.mem w (List.mem_cons_of_mem _ hm); omega) hg]
    rfl
theorem read_rows : ∀ (rows : List ByteArray) (k : Nat) (r : Reader) (ls : List (List UInt8)), Inv r ls → (∀ row ∈ rows, row.size ≤ 1000000 - 1) → Ok (fun x => (∃ r', x = .ok r' ∧ Inv r' (ls ++ rows.map bl)) ∨ ∃ n, x = .error ([], n, 3)) (readL rows k r)
  | [], k, r, ls, hi, _ => Ok.some (.inl ⟨r, rfl, by rw [List.map_nil, List.append_nil]; exact hi⟩)
  | row :: rows, k, r, ls, hi, hs => by
    have h0 := hs row (List.mem_cons_self ..)
    rcases row_cases h0 rows k r with ⟨r', h1, h2⟩ | h1
    · rw [h2]
      refine (read_rows rows (k + 1) r' _ (good_line h0 h1 hi) fun x hx => hs x (List.mem_cons_of_mem _ hx)).mono fun x hx => ?_
      rcases hx with ⟨r2, a1, a2⟩ | hx
      · refine .inl ⟨r2, a1, ?_⟩
        rw [List.append_assoc] at a2
        exact a2
      · exact .inr hx
    · rw [h1]; exact Ok.some (.inr ⟨_, rfl⟩)
theorem Read_ok {text : ByteArray} (hs : text.size ≤ 10000) : Ok (fun r => (r.2.2 ≠ 0 ∧ r.1 = []) ∨ (r.2.2 = 0 ∧ (∀ d ∈ r.1, NumW d) ∧ pChecks r.1 = some 0 ∧ textL r.1 = bl text)) (Read text) := by
  rw [Read_eq]
  unfold readF
  have P : Pieces text 10 (Tx.splitV text bNl) := pieces text 10
  generalize hr : Tx.splitV text bNl = rows at P
  rw [decide_eq_false (by omega)]
  refine Ok.chk (okS_nl (by omega)) ?_
  obtain ⟨ini, lst, rfl⟩ : ∃ a b, rows = a ++ [b] := ⟨rows.dropLast, rows.getLast P.ne, (List.dropLast_concat_getLast P.ne).symm⟩
  have hlen := P.len
  rw [List.length_append] at hlen
  have e1 : (ini ++ [lst]).length = ini.length + 1 := by rw [List.length_append]; rfl
  rw [List.getLast?_concat, List.dropLast_concat, e1]
  have hl1 : [lst].length = 1 := rfl
  refine Ok.chk (decide_eq_true (by omega)) ?_
  have hsz : ∀ row ∈ ini, row.size ≤ 1000000 - 1 := fun row hm => by have := P.mem row (List.mem_append_left _ hm); omega
  refine Ok.bind (read_rows ini 0 zeroR [] ⟨fun d h => (by cases h), rfl, Int.le_refl _, rfl⟩ hsz) fun x hx => ?_
  have no3 : ∀ n : Int, Ok (fun r : List Driver × Int × Int => (r.2.2 ≠ 0 ∧ r.1 = []) ∨ (r.2.2 = 0 ∧ (∀ d ∈ r.1, NumW d) ∧ pChecks r.1 = some 0 ∧ textL r.1 = bl text)) (some ([], n, 3)) := fun n => Ok.some (.inl ⟨(show (3 : Int) ≠ 0 by decide), rfl⟩)
  rcases hx with ⟨r, rfl, h1, h2, h3, h4⟩ | ⟨n, rfl⟩
  · unfold readT
    simp only
    refine Ok.ite (fun _ => no3 _) fun q0 => ?_
    have q0 : r.end_ ≠ 0 := by simpa using q0
    refine Ok.ite (fun q => ?_) fun _ => no3 _
    refine Ok.ite (fun _ => Ok.some (.inl ⟨(show (12 : Int) ≠ 0 by decide), rfl⟩)) fun q2 => ?_
    have q2 : r.sum = r.turns := by simpa using q2
    have hlst : bl lst = [] := by rw [eqB_iff.1 q]; rfl
    have hj := P.join
    rw [if_pos (by omega), q2, h2, List.nil_append] at h4
    rw [List.map_append, List.map_singleton, hlst, h4, join_rows, show r.drivers.flatMap linesD ++ [endB (cnt r.drivers : Int)] = lines r.drivers from rfl, ← text_lines] at hj
    have htl : (textL r.drivers).length ≤ 10000 := by rw [hj, bl_len]; exact hs
    have hd : ∀ d ∈ r.drivers, d.Turns.length ≤ 1000000 ∧ d.Name.size ≤ 1000000 := fun d hd => by
      have a := flat_mem driverL hd
      have b := flat_cnt turnL turn_pos d.Turns
      have c : (driverL d).length = (headL d).length + (d.Turns.flatMap turnL).length := List.length_append
      have e : d.Name.size ≤ (headL d).length := by
        rw [← bl_len]
        show _ ≤ (((wDriver ++ 32 :: bl d.Name) ++ [d.Skills].flatMap numL) ++ [10]).length
        simp only [List.length_append, List.length_cons]; omega
      have f : (textL r.drivers).length = (r.drivers.flatMap driverL).length + (endL (cnt r.drivers)).length := List.length_append
      omega
    refine Ok.bind (P := fun e => pChecks r.drivers = some e) ?_ fun e he => ?_
    · obtain ⟨e, h4, _⟩ := checks_any hd
      exact ⟨e, h4, h4⟩
    · refine Ok.ite (fun q => Ok.some (.inl ⟨(show e ≠ 0 by simpa using q), rfl⟩)) fun q => Ok.some (.inr ⟨rfl, h1, ?_, hj⟩)
      rw [he, show e = 0 by simpa using q]
  · exact no3 n
theorem Notes_true {nums : List Int} {text : ByteArray} (hn : nums.length ≤ 9223372036854775807) : Notes nums text = some true := by
  refine Crew.ok_eq ?_
  rw [Notes_eq]
  unfold Notes'
  have aw : Ok (fun r => r = true) (awake.bind fun r => some r) := by rw [awake_eq]; exact Ok.some rfl
  refine Ok.ite (fun _ => aw) fun hsz => ?_
  have hsz : text.size ≤ 2000 := by have := of_decide_eq_false hsz; omega
  refine Ok.bind (NewSeed_ok hn) fun s _ => ?_
  refine Ok.bind (CrewOf_ok s (most := 4) (turns := 6) (by decide) (by decide) (by decide) (by decide)) fun r3 h3 => ?_
  have hB : BMade r3.2 := ⟨by have := h3.1; omega, h3.2⟩
  have hc := made_check hB
  have hnum := made_num hB
  have hlen := made_len hB
  refine Crew.Ok.beq (Write_text hc (fun d hd => (hnum d hd).toNumW) (by omega)) ?_
  refine Crew.Ok.beq (Read_text hc hnum hlen) ?_
  have hn4 := hB.n
  refine Ok.ite (fun q => (nomatch (show false = true from q))) fun _ => Ok.ite (fun q => (nomatch (show false = true from q))) fun _ => Ok.ite (fun q => (nomatch (show false = true from q))) fun _ => ?_
  refine Crew.Ok.beq (Same_self (l := r3.2) (by omega) fun t h => Nat.le_trans (made_size hB t h).1 (by decide)) ?_
  refine Ok.ite (fun q => (nomatch (show false = true from q))) fun _ => ?_
  refine Ok.bind (Read_ok (text := text) (by omega)) fun r7 h7 => ?_
  rcases h7 with ⟨h7, h8⟩ | ⟨h0, h7, h8, h9⟩
  · refine Ok.ite (fun _ => ?_) fun q => ?_
    · rw [h8]; exact Ok.ite (fun _ => aw) fun q => (nomatch (show true = false from q))
    · rw [show r7.2.2 = 0 by simpa using q] at h7; exact absurd rfl h7
  · refine Ok.ite (fun q => ?_) fun q => ?_
    · rw [h0] at q; cases q
    refine Crew.Ok.beq (Write_text h8 h7 (by rw [h9, bl_len]; omega)) ?_
    refine Ok.ite (fun _ => ?_) fun q => (nomatch (show true = false from q))
    refine Ok.ite (fun _ => aw) fun q => ?_
    have : ((mk (textL r7.1)).toList == text.toList) = true := eq_iff.2 (by rw [h9]; rfl)
    rw [this] at q; cases q
end Go.Proofs.Tp09
namespace Go.Proofs.YtbkogeihjcnejaaGreatDoor
open Go Go.Ab Go.ChangeShapes Go.WideShapes Go.ChangeAt Go.RowKit
set_option maxRecDepth 100000
def allK (w : World) : Nat → Nat → Option Value := fun b o => w.cell? ⟨b, o, none⟩
theorem allK_fits (w : World) : Fits (allK w) w := fun _ _ _ h => h
theorem lv_tail {W : World} {x : String × DataW Unit} {r : List (String × DataW Unit)} {ps : List MemPlace} (h : DataW.LaidVars Tryz.prog W (x :: r) ps) : ∃ q, DataW.LaidVars Tryz.prog W r q := by
  obtain ⟨g, t, cs, fuel, p, q, _, _, _, _, h2, _⟩ := h
  exact ⟨q, h2⟩
theorem gl_ok {W : World} {name : String} {g : Nat} {cs : Array Value} {l : List D} {u : List Value} (hg : Tryz.prog.globalNamed name = some g) (hvar : W.var? Tryz.prog name = some cs) (hu : cs.toList = u) (hl : allCell l = true) (hr : RepL (allK W) γ0 sv0 l u) :
    allCell l = true ∧ ∃ u, RepL (allK W) γ0 sv0 l u ∧ ∀ j v, u[j]? = some v → allK W g j = some v :=
  ⟨hl, u, hr, fun j v hj => by
    have : W.cell? ⟨g, j, none⟩ = cs[j]? := World.var?_cell hg hvar j
    show W.cell? ⟨g, j, none⟩ = some v
    rw [this, ← hj, ← hu]; simp⟩
theorem rowSz_of {W : World} {name : String} {g : Nat} {cs : Array Value} (hg : Tryz.prog.globalNamed name = some g) (hvar : W.var? Tryz.prog name = some cs) : RowSz W g cs.size := by
  simp only [World.var?, hg, Option.bind_some] at hvar
  split at hvar
  · rename_i c t f h
    simp only [Option.some.injEq] at hvar
    subst hvar
    exact ⟨c, t, f, h, rfl⟩
  · cases hvar
theorem repL_int {κ : Nat → Nat → Option Value} {γ : Nat → Nat} {sv : Nat → Value} (k : IntKind) : ∀ zs : List Int, RepL κ γ sv (zs.map (D.int k)) (zs.map (Value.int k))
  | [] => .nil
  | z :: zs => .cons _ _ _ _ (.int k z) (repL_int k zs)
theorem cells3 : Tryz.prog.cellsOf 3 = 1 := by kernel_rfl
theorem cells60 : Tryz.prog.cellsOf 60 = 1 := by kernel_rfl
theorem cells146 : Tryz.prog.cellsOf 146 = 20 := by kernel_rfl
def pow10s : List Int := [1, 10, 100, 1000, 10000, 100000, 1000000, 10000000, 100000000, 1000000000, 10000000000, 100000000000, 1000000000000, 10000000000000, 100000000000000, 1000000000000000, 10000000000000000, 100000000000000000, 1000000000000000000, 10000000000000000000]
section
variable {W : World} {ps : List MemPlace} {r : List (String × DataW Unit)}
theorem pow_at (h : DataW.LaidVars Tryz.prog W (("internal/strconv.uint64pow10", Rows.laid_internal_strconv_uint64pow10) :: r) ps) : ∃ cs, W.var? Tryz.prog "internal/strconv.uint64pow10" = some cs ∧ cs.toList = pow10s.map (Value.int .u64) := by
  obtain ⟨g, t, cs, fuel, p, q, hg, ht, hvar, hd, _, _⟩ := h
  have hg0 : Tryz.prog.globalNamed "internal/strconv.uint64pow10" = some 0 := by kernel_rfl
  have ht0 : (Tryz.prog.globals[0]?).map (·.type) = some 146 := by kernel_rfl
  obtain rfl := Option.some.inj (hg0.symm.trans hg)
  obtain rfl := Option.some.inj (ht0.symm.trans ht)
  exact ⟨cs, hvar, Lib.cells_of_tab (zs := pow10s) Tryz.underlying146 Tryz.underlying60 cells60 cells146 hd⟩
end
theorem nn_of {H : Type} {enc : TypeId × Value → H} {P : Program} {w : World} {base : Nat} {spare : Nat → Bool} {held : Bool} {fuel : Nat} {t : TypeId} {ms : Array (String × TypeId)} {cs : List Value} {name : String} {d : DataW H} {ps : List MemPlace}
    (ht : P.underlying t = some (.interface ms)) (h : DataW.trod enc P w base spare held fuel t cs = some (.iface name d, ps)) : ∃ u v, cs = [.iface u v] := by
  cases fuel with
  | zero => simp [DataW.trod] at h
  | succ n =>
    rcases cs with _ | ⟨v, _ | ⟨v2, r⟩⟩
    · simp [DataW.trod, ht] at h
    · cases v with
      | iface u v => exact ⟨u, v, rfl⟩
      | _ => simp [DataW.trod, ht] at h
    · simp [DataW.trod, ht] at h
section
variable {W : World} {ps : List MemPlace} {r : List (String × DataW Unit)}
theorem er_at {name : String} {n : Nat} {nm : String} {d : DataW Unit} (hg0 : Tryz.prog.globalNamed name = some n) (ht0 : (Tryz.prog.globals[n]?).map (·.type) = some 70) (h : DataW.LaidVars Tryz.prog W ((name, .iface nm d) :: r) ps) : ∃ cs u v, W.var? Tryz.prog name = some cs ∧ cs.toList = [.iface u v] := by
  obtain ⟨g, t, cs, fuel, p, q, hg, ht, hvar, hd, _, _⟩ := h
  obtain rfl := Option.some.inj (hg0.symm.trans hg)
  obtain rfl := Option.some.inj (ht0.symm.trans ht)
  obtain ⟨u, v, e⟩ := nn_of Tryz.underlying70 hd
  exact ⟨cs, u, v, hvar, e⟩
end
theorem glob_of {W : World} (h : laidMetH Tryz.prog [("math/bits.deBruijn32tab", Rows.laid_math_bits_deBruijn32tab), ("math/bits.deBruijn64tab", Rows.laid_math_bits_deBruijn64tab), ("internal/strconv.uint64pow10", Rows.laid_internal_strconv_uint64pow10), ("unicode/utf8.acceptRanges", Rows.laid_unicode_utf8_acceptRanges), ("strconv.ErrRange", Rows.laid_strconv_ErrRange), ("strconv.ErrSyntax", Rows.laid_strconv_ErrSyntax), ("unicode/utf8.first", Rows.laid_unicode_utf8_first)] W) (hsh : W.ShapedOpen Tryz.prog) : GlobOk iseat.toSeat (allK W) W := by
  have h' : laidMet Tryz.prog [("math/bits.deBruijn32tab", Rows.laid_math_bits_deBruijn32tab), ("math/bits.deBruijn64tab", Rows.laid_math_bits_deBruijn64tab), ("internal/strconv.uint64pow10", Rows.laid_internal_strconv_uint64pow10), ("unicode/utf8.acceptRanges", Rows.laid_unicode_utf8_acceptRanges), ("strconv.ErrRange", Rows.laid_strconv_ErrRange), ("strconv.ErrSyntax", Rows.laid_strconv_ErrSyntax), ("unicode/utf8.first", Rows.laid_unicode_utf8_first)] W := h
  obtain ⟨ps, h0, _⟩ := h'
  obtain ⟨_, h1⟩ := lv_tail h0
  obtain ⟨_, h2⟩ := lv_tail h1
  obtain ⟨_, h3⟩ := lv_tail h2
  obtain ⟨_, h4⟩ := lv_tail h3
  obtain ⟨_, h5⟩ := lv_tail h4
  obtain ⟨c2, v2, u2⟩ := pow_at h2
  obtain ⟨c7, t7, p7, v7, u7⟩ := er_at (n := 3) (by kernel_rfl) (by kernel_rfl) h4
  obtain ⟨c6, t6, p6, v6, u6⟩ := er_at (n := 2) (by kernel_rfl) (by kernel_rfl) h5
  obtain ⟨m, hm⟩ := cell_of_shapedOpen_int (g := 1) (t := 3) (zero := #[.int .i64 0]) (k := .i64) hsh (of_decide_eq_true (by kernel_rfl)) (by kernel_rfl) rfl (by kernel_rfl) (by kernel_rfl) Tryz.underlying3
  constructor
  · intro g l hl
    have hl' : globs g = some l := hl
    unfold globs at hl'
    split at hl'
    · simp only [Option.some.injEq] at hl'
      subst hl'
      exact gl_ok (name := "internal/strconv.uint64pow10") (by kernel_rfl) v2 u2 rfl (repL_int .u64 pow10s)
    · simp only [Option.some.injEq] at hl'
      subst hl'
      refine ⟨rfl, [.int .i64 m], .cons _ _ _ _ (.lk _ _ ⟨m, rfl⟩) .nil, fun j v hj => ?_⟩
      rcases j with _ | j
      · cases hj; exact hm
      · cases hj
    · simp only [Option.some.injEq] at hl'
      subst hl'
      exact gl_ok (name := "strconv.ErrSyntax") (by kernel_rfl) v6 u6 rfl (.cons _ _ _ _ (.lk _ _ ⟨t6, p6, rfl⟩) .nil)
    · simp only [Option.some.injEq] at hl'
      subst hl'
      exact gl_ok (name := "strconv.ErrRange") (by kernel_rfl) v7 u7 rfl (.cons _ _ _ _ (.lk _ _ ⟨t7, p7, rfl⟩) .nil)
    · cases hl'
  · intro g n hn
    have hn' : gszs g = some n := hn
    unfold gszs at hn'
    split at hn'
    · simp only [Option.some.injEq] at hn'
      subst hn'
      have h5 := rowSz_of (name := "internal/strconv.uint64pow10") (g := 0) (by kernel_rfl) v2
      have h6 : c2.size = 20 := by
        have := congrArg List.length u2
        simpa [pow10s] using this
      rw [h6] at h5
      exact h5
    · cases hn'
section
variable {H : Type} {enc : TypeId × Value → H} {W : World}
def Rd {α : Type} (enc : TypeId × Value → H) (W : World) (t : TypeId) (ec : α → List D) : Prop :=
  ∀ n cs x, DataW.trod enc Tryz.prog W 0 (fun _ => true) true n t cs = some x → ∃ a : α, RepL (allK W) γ0 sv0 (ec a) cs
theorem rd_int : Rd enc W 3 encI := by
  intro n cs x h
  obtain ⟨a, rfl, _⟩ := DataW.trod_int Tryz.underlying3 h
  exact ⟨a, .cons _ _ _ _ (.int _ _) .nil⟩
theorem rd_slice {α : Type} [Inhabited α] {t e z : Nat} {ec : α → List D} (ht : Tryz.prog.underlying t = some (.slice e)) (hz : Tryz.prog.cellsOf e = z) (hz0 : 0 < z) (hl : ∀ a, (ec a).length = z)
    (hc : ∀ a, allCell (ec a) = true) (hr : Rd enc W e ec) : Rd enc W t (fun l : List α => [slOf z ec l]) := by
  intro n cs x h
  rcases Deep.open_slice ht h with ⟨rfl, rfl⟩ | ⟨a, len, cap, m, n', D, Pl, rfl, _, hlc, _, hm, rfl, hx⟩
  · exact ⟨[], .cons _ _ _ _ (.sl0 _ _) .nil⟩
  · simp only [if_true] at hm
    subst hm
    rw [hz] at hx
    rcases Nat.eq_zero_or_pos len with rfl | hpos
    · exact ⟨[], .cons _ _ _ _ (.slE _ _ _ _) .nil⟩
    · have hx' : ∀ i, i < len → ∃ p : α × List Value, W.cells? 0 (a.add (i * z)) z = some p.2 ∧ RepL (allK W) γ0 sv0 (ec p.1) p.2 := fun i hi => by
        obtain ⟨cs', h1, h2⟩ := hx i (by omega)
        obtain ⟨b, hb⟩ := hr _ _ _ h2
        exact ⟨(b, cs'), h1, hb⟩
      obtain ⟨F, hF⟩ := Deep.choose_lt hx'
      have hsp : a.spot = none := by
        obtain ⟨_, h1, h2⟩ := World.cells?_some (hF 0 hpos).1
        have h3 := h2 0 hz0
        rw [List.getElem?_eq_getElem (by omega)] at h3
        simpa [Addr.add] using World.cell?_spot h3
      obtain ⟨b, off, sp⟩ := a
      simp only at hsp
      subst hsp
      refine ⟨(List.range len).map (fun i => (F i).1), .cons _ _ _ _ ?_ .nil⟩
      have hlen : ((List.range len).map (fun i => (F i).1)).length = len := by simp
      have hg : ∀ i, i < len → ((List.range len).map (fun i => (F i).1)).getD i default = (F i).1 := fun i hi => by simp [List.getD, hi]
      unfold slOf
      rw [hlen]
      refine .sl z len _ b off m (fun i => (F i).2) hlc (fun i _ => hl _) (fun i _ => hc _) (fun i hi => by rw [hg i hi]; exact (hF i hi).2) (fun i j v hi hj => ?_)
      obtain ⟨_, h1, h2⟩ := World.cells?_some (hF i hi).1
      have hjl := (List.getElem?_eq_some_iff.1 hj).1
      have h3 := h2 j (by omega)
      rw [add_plain, add_plain, hj] at h3
      exact h3
theorem arg_ints {v : Value} {d : DataW H} {ps : List MemPlace} {base : Nat} (hv : Value.okWide Tryz.prog W .any base 23 v) (h : DataW.Trod enc Tryz.prog W 0 (fun _ => true) true 23 v d ps) :
    ∃ l : List Int, Rep (allK W) γ0 sv0 (slOf 1 encI l) v := by
  obtain ⟨n, hn⟩ := h
  obtain ⟨l, hl⟩ := rd_slice (ec := encI) Tryz.underlying23 cells3 (by decide) (fun _ => rfl) (fun _ => rfl) rd_int _ _ _ hn
  obtain ⟨a0, len, cap, rfl⟩ := okWide_slice Tryz.underlying23 hv
  cases hl with
  | cons _ _ _ _ k _ => exact ⟨l, k⟩
theorem arg_str {v : Value} {d : DataW H} {ps : List MemPlace} {base : Nat} (hv : Value.okWide Tryz.prog W .any base 9 v) (h : DataW.Trod enc Tryz.prog W 0 (fun _ => true) true 9 v d ps) :
    ∃ s : ByteArray, Rep (allK W) γ0 sv0 (.str s) v := by
  obtain ⟨n, hn⟩ := h
  obtain ⟨s, e, _⟩ := DataW.trod_string Tryz.underlying9 hn
  cases v with
  | string s => exact ⟨s, .str _⟩
  | agg cs => simp [Value.okWide, Cell.okWide, Cell.ok, Tryz.underlying9] at hv
  | _ => simp [Value.cells] at e
end
theorem ints_len {κ : Nat → Nat → Option Value} {γ : Nat → Nat} {sv : Nat → Value} {W : World} {base : Nat} {v : Value} {l : List Int} (hv : Value.okWide Tryz.prog W .any base 23 v) (h : Rep κ γ sv (slOf 1 encI l) v) : l.length ≤ 9223372036854775807 := by
  unfold slOf at h
  generalize hn : l.length = n at h
  cases h with
  | sl0 => omega
  | slE => omega
  | sl _ _ _ b off cap u hc =>
    simp only [Value.okWide, Cell.okWide, Cell.ok, Tryz.underlying23] at hv
    have h1 := hv.2.1
    have h2 : IntKind.i64.max = 9223372036854775807 := by decide
    rw [h2] at h1
    omega
theorem laidOut : laidOutB Tryz.prog = true := by kernel_rfl
theorem own : ownKnob Tryz.prog.godebug = none := by kernel_rfl
theorem trodAll_stays {H : Type} {enc : TypeId × Value → H} {W W' : World} {sp' : Nat → Bool} (hb : Below W.heap.size W W') : ∀ {ts : List TypeId} {vs : List Value} {ds : List (DataW H)} {ps : List MemPlace},
    (∀ t ∈ ts, Tryz.prog.readableRec t = true ∧ t < Tryz.prog.types.size) → DataW.TrodAll enc Tryz.prog W 0 (fun _ => true) true ts vs ds ps → (∀ p ∈ ps, p.block < W.heap.size) → (∀ p ∈ ps, sp' p.block = true) →
    DataW.TrodAll enc Tryz.prog W' 0 sp' true ts vs ds ps
  | [], [], [], _, _, h, _, _ => h
  | _ :: _, _ :: _, _ :: _, _, hT, ⟨p, q, h1, h2, e⟩, hlt, hs => ⟨p, q,
      WideElems.Trod_stays laidOut (hT _ (List.mem_cons_self ..)).1 (hT _ (List.mem_cons_self ..)).2 h1 (fun x hx => hb.same (hlt x (by rw [e]; exact List.mem_append_left _ hx))) (fun x hx => hs x (by rw [e]; exact List.mem_append_left _ hx)),
      trodAll_stays hb (fun t ht => hT t (List.mem_cons_of_mem _ ht)) h2 (fun x hx => hlt x (by rw [e]; exact List.mem_append_right _ hx)) (fun x hx => hs x (by rw [e]; exact List.mem_append_right _ hx)), e⟩
theorem post_yes {H : Type} {enc : TypeId × Value → H} {f : Func} {s : ChangeSpec} {W W' : World} {args : Array Value} {ds gs : List (DataW H)} {before : List MemPlace}
    (hW : DataW.Whole enc Tryz.prog f.params.toList s.vars false W args.toList ds gs before) (hv : s.vars = []) (hb : Below W.heap.size W W')
    (hT : ∀ t ∈ f.params.toList, Tryz.prog.readableRec t = true ∧ t < Tryz.prog.types.size) (hrt : f.resultTypes = #[4])
    (hr : (s.fn H (ds ++ gs)).results = [.lit (.bool true)]) (ha : (s.fn H (ds ++ gs)).args = ds) (hvs : (s.fn H (ds ++ gs)).vars = []) :
    s.post enc Tryz.prog f false true false false W args (.bool true) W' := by
  have hlt := hW.lt
  have hW2 := hW
  obtain ⟨p, q, hA, hV, rfl, _, _⟩ := hW
  rw [hv] at hV
  obtain ⟨rfl, rfl⟩ := trodVars_none hV
  refine ⟨ds, [], p ++ [], [], p, [], hW2, ?_, ?_, ?_, hb.frame _, fun h => by cases h⟩
  · rw [hr, hrt]
    exact trodAll_mk1 (shut_bool Tryz.underlying4 _)
  · rw [ha]
    exact trodAll_stays hb hT hA (fun x hx => hlt x (by simpa using hx)) (fun x hx => by simpa using hlt x (by simpa using hx))
  · rw [hvs, hv]; rfl
def layV (l : List Value) : Obj → Obj
  | .cells _ t frozen => .cells l.toArray t frozen
  | o => o
def deB32 : List Int := [0, 1, 28, 2, 29, 14, 24, 3, 30, 22, 20, 15, 25, 17, 4, 8, 31, 27, 13, 23, 21, 19, 16, 7, 26, 12, 18, 6, 11, 5, 10, 9]
def deB64 : List Int := [0, 1, 56, 2, 57, 49, 28, 3, 61, 58, 42, 50, 38, 29, 17, 4, 62, 47, 59, 36, 45, 43, 51, 22, 53, 39, 33, 30, 24, 18, 12, 5, 63, 55, 48, 27, 60, 41, 37, 16, 46, 35, 44, 21, 52, 32, 23, 11, 54, 26, 40, 15, 34, 20, 31, 10, 25, 14, 19, 9, 13, 8, 7, 6]
def acc : List Int := [128, 191, 160, 191, 128, 159, 144, 191, 128, 143, 0, 0, 0, 0, 0, 0, 0, 0, 0, 0, 0, 0, 0, 0, 0, 0, 0, 0, 0, 0, 0, 0]
def rangeS : ByteArray := ⟨#[118, 97, 108, 117, 101, 32, 111, 117, 116, 32, 111, 102, 32, 114, 97, 110, 103, 101]⟩
def synS : ByteArray := ⟨#[105, 110, 118, 97, 108, 105, 100, 32, 115, 121, 110, 116, 97, 120]⟩
noncomputable def low : Nat := (World.holding Tryz.prog default ⟨#[], #[], []⟩).heap.size
noncomputable def laidWorld (os : Os) : World :=
  { World.holding Tryz.prog os ⟨#[.cells #[.string rangeS] 176, .cells #[.string synS] 176], #[], []⟩ with heap := (((((((World.holding Tryz.prog os ⟨#[.cells #[.string rangeS] 176, .cells #[.string synS] 176], #[], []⟩).heap.modify 0 (layV (pow10s.map (Value.int .u64)))).modify 4 (layV (Go.Pinned.utf8FirstZ.map fun (n : Nat) => Value.int .u8 (n : Int)))).modify 5 (layV (acc.map (Value.int .u8)))).modify 2 (layV [.iface 174 (.pointer (some ⟨low + 1, 0, none⟩))])).modify 3 (layV [.iface 174 (.pointer (some ⟨low, 0, none⟩))])).modify 6 (layV (deB32.map (Value.int .u8)))).modify 7 (layV (deB64.map (Value.int .u8))) }
end Go.Proofs.YtbkogeihjcnejaaGreatDoor
