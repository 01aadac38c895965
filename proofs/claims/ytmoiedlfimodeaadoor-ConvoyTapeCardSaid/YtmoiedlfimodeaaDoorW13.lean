/- Walks by computing: what each function of the program that the laws reach gives for what it gets, as plain Lean, and that it is so; without a condition but those that stand in each theorem. -/
import Derived.Test.YtmoiedlfimodeaaDoorCards
import Derived.Test.YtmoiedlfimodeaaDoorTie
import Derived.WalkKit
import Derived.ProofKit
import Derived.OpenShut
import Derived.Deep.Slices
import Derived.Deep.DeepHandedRow
import Derived.Lib.LaidTab
import Derived.Shelf.Vars
import Derived.Test.YtmoiedlfimodeaaDoorW1
import Derived.Test.YtmoiedlfimodeaaDoorW2
import Derived.Test.YtmoiedlfimodeaaDoorW3
import Derived.Test.YtmoiedlfimodeaaDoorW4
import Derived.Test.YtmoiedlfimodeaaDoorW5
import Derived.Test.YtmoiedlfimodeaaDoorW6
import Derived.Test.YtmoiedlfimodeaaDoorW7
import Derived.Test.YtmoiedlfimodeaaDoorW8
import Derived.Test.YtmoiedlfimodeaaDoorW9
import Derived.Test.YtmoiedlfimodeaaDoorW10
import Derived.Test.YtmoiedlfimodeaaDoorW11
import Derived.Test.YtmoiedlfimodeaaDoorW12
set_option linter.all false
namespace Go.Proofs.Tp04
open Go Go.Ab
set_option linter.all false
set_option maxRecDepth 100000
def word (n : Int) : ByteArray := mk (digs n)
theorem mk_size (l : List UInt8) : (mk l).size = l.length := by show l.toArray.size = _; simp
theorem from_lt : ∀ (l : List UInt8) (acc n : Nat), Lib.decFrom acc l = some n → n < (acc + 1) * 10 ^ l.length
  | [], acc, n, h => by
    simp only [Lib.decFrom, Option.some.injEq] at h
    subst h; simp
  | b :: l, acc, n, h => by
    simp only [Lib.decFrom] at h
    split at h
    · rename_i d hd
      have h1 := from_lt l _ n h
      have h9 : d ≤ 9 := by
        unfold Lib.digitVal at hd
        split at hd
        · cases hd; omega
        · cases hd
      rw [List.length_cons, Nat.pow_succ]
      refine Nat.lt_of_lt_of_le h1 ?_
      rw [Nat.mul_comm (10 ^ l.length) 10, ← Nat.mul_assoc]
      exact Nat.mul_le_mul_right _ (by omega)
    · cases h
theorem decNat_lt {l : List UInt8} {m : Nat} (h : Lib.decNat l = some m) (hl : l.length ≤ 9) : m ≤ 999999999 := by
  unfold Lib.decNat at h
  split at h
  · cases h
  · have h1 := from_lt l 0 m h
    have h2 : 10 ^ l.length ≤ 10 ^ 9 := Nat.pow_le_pow_right (by decide) hl
    have h3 : (10 : Nat) ^ 9 = 1000000000 := by decide
    omega
theorem atoi_le {l : List UInt8} {n : Int} (h : Lib.atoi l = some n) (hl : l.length ≤ 9) : n ≤ 999999999 := by
  cases l with
  | nil => cases h
  | cons b r =>
    rw [List.length_cons] at hl
    simp only [Lib.atoi] at h
    split at h
    · obtain ⟨m, h1, h2⟩ := Option.map_eq_some_iff.1 h
      omega
    · split at h
      · obtain ⟨m, h1, h2⟩ := Option.map_eq_some_iff.1 h
        have := decNat_lt h1 (by omega)
        omega
      · obtain ⟨m, h1, h2⟩ := Option.map_eq_some_iff.1 h
        have := decNat_lt h1 (by rw [List.length_cons]; omega)
        omega
theorem atoiV_le {w : ByteArray} {n : Int} (h : Tx.atoiV w = (n, true)) (hl : w.size ≤ 9) : n ≤ 999999999 := by
  have hl2 : (bl w).length ≤ 9 := by
    have : (bl w).length = w.size := by show w.data.toList.length = w.data.size; simp
    omega
  unfold Tx.atoiV at h
  have h3 := Lib.atoiAll_short (bl w) (by omega)
  rw [show Lib.atoiAll w.data.toList = _ from h3] at h
  cases ha : Lib.atoi (bl w) with
  | none =>
    rw [ha] at h
    cases h
  | some v =>
    rw [ha] at h
    cases h
    exact atoi_le ha hl2
def isNum (w : ByteArray) : Prop := ∃ n, NumOk n ∧ w = word n
theorem word_inj {m n : Int} (hm : NumOk m) (hn : NumOk n) (h : word m = word n) : m = n := by
  have h1 := atoi_digs hm.1 hm.2
  have h2 := atoi_digs hn.1 hn.2
  rw [show mk (digs m) = mk (digs n) from h, h2] at h1
  injection h1 with h1
  exact h1.symm
theorem map_take_snoc {ws : List ByteArray} {j : Nat} (h : j < ws.length) : ws.take (j + 1) = ws.take j ++ [ws.getD j ⟨#[]⟩] := take_snoc h
theorem numbers_ok {ws : List ByteArray} {m : Int} (hl : ws.length ≤ 1000000) (hs : ∀ w ∈ ws, w.size ≤ 1000000) : Ok (fun r => (r.2 = true ∧ ws = r.1.map word ∧ (r.1.length : Int) = m ∧ ∀ n ∈ r.1, NumOk n) ∨ (r.2 = false ∧ ((ws.length : Int) ≠ m ∨ ∃ w ∈ ws, ¬ isNum w))) (numbers ws m) := by
  rw [numbers_eq]
  unfold numbers'
  refine Ok.ite (fun q => Ok.some (.inr ⟨rfl, .inl (by simpa using q)⟩)) (fun q => ?_)
  have hm : (ws.length : Int) = m := by simpa using q
  refine Ok.rounds (inv := fun v => ∃ j : Nat, j ≤ ws.length ∧ v.1.2.1 = (j : Int) ∧ v.1.1.length = j ∧ ws.take j = v.1.1.map word ∧ ∀ n ∈ v.1.1, NumOk n) (μ := fun v => ws.length - v.1.2.1.toNat) (by show ws.length - 0 < FUEL; unfold FUEL; omega) ⟨0, Nat.zero_le _, rfl, rfl, rfl, fun n h => by cases h⟩ ?_
  rintro ⟨⟨out, x, u⟩, u2⟩ kn ⟨j, hj, e1, e2, e3, e4⟩ hk
  simp only at e1 e2 e3 e4 ⊢
  subst e1
  unfold numbers_L5
  rw [show ((j : Int)).toNat = j by omega]
  refine Ok.ite (fun hlt => ?_) (fun hge => ?_)
  · have hlt : j < ws.length := by have := of_decide_eq_true hlt; omega
    refine Ok.chk (idx_ok hlt) ?_
    have hmem := getD_mem' (d := (⟨#[]⟩ : ByteArray)) hlt
    generalize hw : ws.getD j (⟨#[]⟩ : ByteArray) = w at hmem
    have hsz := hs w hmem
    have no : (¬ isNum w) → (False ∨ ((false = false) ∧ ((ws.length : Int) ≠ m ∨ ∃ w ∈ ws, ¬ isNum w))) := fun h => .inr ⟨rfl, .inr ⟨w, hmem, h⟩⟩
    have bad : (¬ isNum w) → Ok (fun r : List Int × Bool => (r.2 = true ∧ ws = r.1.map word ∧ (r.1.length : Int) = m ∧ ∀ n ∈ r.1, NumOk n) ∨ (r.2 = false ∧ ((ws.length : Int) ≠ m ∨ ∃ w ∈ ws, ¬ isNum w))) (some (([] : List Int), false)) := fun h => Ok.some (.inr ⟨rfl, .inr ⟨w, hmem, h⟩⟩)
    refine Ok.bind (P := fun r => r = Tx.atoiV w) ⟨_, by unfold Tx.atoiP; rw [show Tx.okA w = true from decide_eq_true (by omega)]; rfl, rfl⟩ fun r hr => ?_
    have key : isNum w → ∃ n, NumOk n ∧ w = word n ∧ r = (n, true) := fun ⟨n, h1, h2⟩ => ⟨n, h1, h2, by rw [hr, h2]; exact atoi_digs h1.1 h1.2⟩
    refine Ok.ite (fun q1 => bad fun hn => ?_) (fun q1 => ?_)
    · obtain ⟨n, _, _, h⟩ := key hn
      rw [h] at q1; cases q1
    have q1 : r.2 = true := by simpa using q1
    refine Ok.ite (fun q2 => bad fun hn => ?_) (fun q2 => ?_)
    · obtain ⟨n, h1, _, h⟩ := key hn
      rw [h] at q2
      have := of_decide_eq_true q2
      have := h1.1
      omega
    have q2 : 0 ≤ r.1 := by have := of_decide_eq_false q2; omega
    refine Ok.ite (fun q3 => bad fun hn => ?_) (fun q3 => ?_)
    · obtain ⟨n, h1, h2, h⟩ := key hn
      have h3 := of_decide_eq_true q3
      have h4 := digs_len h1.1 h1.2
      rw [h2, word, mk_size] at h3
      omega
    have q3 : w.size ≤ 9 := by have := of_decide_eq_false q3; omega
    have hno : NumOk r.1 := ⟨q2, atoiV_le (w := w) (by rw [← hr, ← q1]) q3⟩
    refine Ok.bind (P := fun r2 => r2 = word r.1) ⟨_, by unfold Tx.itoaP; rw [okI_of hno]; rfl, rfl⟩ fun r2 hr2 => ?_
    subst hr2
    refine Ok.ite (fun q4 => bad fun hn => ?_) (fun q4 => ?_)
    · obtain ⟨n, h1, h2, h⟩ := key hn
      rw [h, ← h2] at q4
      simp at q4
    have q4 : word r.1 = w := eq_iff.1 (by simpa using q4)
    refine Ok.chk (by unfold fitA; simp; omega) ?_
    refine hk _ ⟨j + 1, hlt, ?_, ?_, ?_, ?_⟩ ?_
    · show w64 ((j : Int) + 1) = _
      rw [w64_id (by omega) (by omega)]; push_cast; rfl
    · show (out ++ [r.1]).length = _
      rw [List.length_append, e2]; rfl
    · show _ = (out ++ [r.1]).map word
      rw [map_take_snoc hlt, hw, e3, List.map_append, List.map_singleton, q4]
    · intro n hn
      rcases List.mem_append.1 hn with h | h
      · exact e4 n h
      · rw [List.mem_singleton.1 h]; exact hno
    · show ws.length - (w64 ((j : Int) + 1)).toNat < ws.length - ((j : Int)).toNat
      rw [w64_id (by omega) (by omega)]; omega
  · have hjn : j = ws.length := by have := of_decide_eq_false hge; omega
    refine Ok.some (.inl ⟨rfl, ?_, ?_, e4⟩)
    · rw [← e3, hjn, List.take_length]
    · show (out.length : Int) = m
      omega
theorem numbers_of {ns : List Int} {m : Int} (h : ∀ n ∈ ns, NumOk n) (hl : ns.length ≤ 1000000) (hm : (ns.length : Int) = m) : numbers (ns.map word) m = some (ns, true) := by
  obtain ⟨r, h1, h2⟩ := numbers_ok (ws := ns.map word) (m := m) (by rw [List.length_map]; exact hl) (fun w hw => by
    obtain ⟨n, hn, rfl⟩ := List.mem_map.1 hw
    have := digs_len (h n hn).1 (h n hn).2
    rw [word, mk_size]; omega)
  rcases h2 with ⟨a, b, c, d⟩ | ⟨a, b | ⟨w, hw, b⟩⟩
  · have e : ∀ (l k : List Int), (∀ n ∈ l, NumOk n) → (∀ n ∈ k, NumOk n) → l.map word = k.map word → l = k := fun l => by
      induction l with
      | nil => intro k _ _ e; cases k with
        | nil => rfl
        | cons _ _ => cases e
      | cons x l ih => intro k h1 h2 e; cases k with
        | nil => cases e
        | cons y k =>
          simp only [List.map_cons, List.cons.injEq] at e
          rw [word_inj (h1 _ (List.mem_cons_self ..)) (h2 _ (List.mem_cons_self ..)) e.1, ih k (fun n hn => h1 n (List.mem_cons_of_mem _ hn)) (fun n hn => h2 n (List.mem_cons_of_mem _ hn)) e.2]
    rw [h1, e ns r.1 h d b]
    obtain ⟨r1, r2⟩ := r
    cases a
    rfl
  · rw [List.length_map] at b; exact absurd hm b
  · obtain ⟨n, hn, rfl⟩ := List.mem_map.1 hw
    exact absurd ⟨n, h n hn, rfl⟩ b
theorem numbers_true {ws : List ByteArray} {m : Int} {ns : List Int} (hl : ws.length ≤ 1000000) (hs : ∀ w ∈ ws, w.size ≤ 1000000) (h : numbers ws m = some (ns, true)) : ws = ns.map word ∧ (ns.length : Int) = m ∧ ∀ n ∈ ns, NumOk n := by
  obtain ⟨r, h1, h2⟩ := numbers_ok (m := m) hl hs
  rw [h] at h1
  cases h1
  rcases h2 with ⟨_, b⟩ | ⟨a, _⟩
  · exact b
  · cases a
end Go.Proofs.Tp04
namespace Go.Proofs.Tp04
open Go Go.Ab
set_option linter.all false
set_option maxRecDepth 100000
def rowB (w : List UInt8) (ns : List Int) : List UInt8 := w ++ ns.flatMap numL
def holdB (h : Hold) : List UInt8 := rowB wHold [h.At, h.Until]
def headB (t : Truck) : List UInt8 := rowB (wTruck ++ 32 :: wayL t.Way) [t.Start, t.Pace.Lo, t.Pace.Hi]
def linesT (t : Truck) : List (List UInt8) := headB t :: t.Holds.map holdB
def roadB (c : Convoy) : List UInt8 := rowB wRoad [c.Length, c.Gap, c.Fails]
def lines (c : Convoy) : List (List UInt8) := roadB c :: c.Trucks.flatMap linesT
theorem rows_app (c : UInt8) (a b : List (List UInt8)) : rowsL c (a ++ b) = rowsL c a ++ rowsL c b := List.flatMap_append
theorem rows_holds : ∀ hs : List Hold, rowsL 10 (hs.map holdB) = hs.flatMap holdL
  | [] => rfl
  | h :: hs => by
    show (holdB h ++ [10]) ++ rowsL 10 (hs.map holdB) = holdL h ++ hs.flatMap holdL
    rw [rows_holds hs]; rfl
theorem rows_trucks : ∀ ts : List Truck, rowsL 10 (ts.flatMap linesT) = ts.flatMap truckL
  | [] => rfl
  | t :: ts => by
    rw [List.flatMap_cons, List.flatMap_cons, rows_app, rows_trucks ts]
    congr 1
    show (headB t ++ [10]) ++ rowsL 10 (t.Holds.map holdB) = truckL t
    rw [rows_holds]; rfl
theorem text_lines (c : Convoy) : textL c = rowsL 10 (lines c) := by
  show _ = (roadB c ++ [10]) ++ rowsL 10 (c.Trucks.flatMap linesT)
  rw [rows_trucks]; rfl
theorem rowB_join : ∀ (ns : List Int) (w : List UInt8), rowB w ns = joinL 32 (w :: ns.map digs)
  | [], w => by show w ++ [] = w; rw [List.append_nil]
  | n :: ns, w => by
    show _ = w ++ 32 :: joinL 32 (digs n :: ns.map digs)
    rw [← rowB_join ns (digs n)]
    unfold rowB
    rw [List.flatMap_cons]; rfl
theorem headB_join (t : Truck) : headB t = joinL 32 (wTruck :: wayL t.Way :: [t.Start, t.Pace.Lo, t.Pace.Hi].map digs) := by
  show _ = wTruck ++ 32 :: joinL 32 (wayL t.Way :: [t.Start, t.Pace.Lo, t.Pace.Hi].map digs)
  rw [← rowB_join]
  unfold headB rowB
  rw [List.append_assoc]; rfl
theorem digs_no {n : Int} (h : NumOk n) {b : UInt8} (hb : b.toNat < 48) : b ∉ digs n := fun hm => by
  have := digs_mem h.1 hm
  omega
theorem rowB_no {w : List UInt8} {ns : List Int} (hw : (10 : UInt8) ∉ w) (h : ∀ n ∈ ns, NumOk n) : (10 : UInt8) ∉ rowB w ns := fun hm => by
  rcases List.mem_append.1 hm with h1 | h1
  · exact hw h1
  · obtain ⟨n, hn, h2⟩ := List.mem_flatMap.1 h1
    rcases List.mem_cons.1 h2 with h3 | h3
    · cases h3
    · exact digs_no (h n hn) (by decide) h3
theorem rowB_len {w : List UInt8} {ns : List Int} (h : ∀ n ∈ ns, NumOk n) : (rowB w ns).length ≤ w.length + 10 * ns.length := by
  have := nums_len ns h
  unfold rowB
  rw [List.length_append]; omega
theorem split_sp {ws : List (List UInt8)} (h0 : ws ≠ []) (h : ∀ w ∈ ws, (32 : UInt8) ∉ w) : Tx.splitV (mk (joinL 32 ws)) bSp = ws.map mk := by
  rw [show bSp = (⟨#[32]⟩ : ByteArray) from rfl, splitV_eq, bl_mk, split_join 32 ws h0 h]
theorem words_no {ns : List Int} (h : ∀ n ∈ ns, NumOk n) : ∀ w ∈ ns.map digs, (32 : UInt8) ∉ w := fun w hw => by
  obtain ⟨n, hn, rfl⟩ := List.mem_map.1 hw
  exact digs_no (h n hn) (by decide)
theorem map_word (ns : List Int) : (ns.map digs).map mk = ns.map word := List.map_map ..
theorem rowB_split {w : List UInt8} {ns : List Int} (hw : (32 : UInt8) ∉ w) (h : ∀ n ∈ ns, NumOk n) : Tx.splitV (mk (rowB w ns)) bSp = mk w :: ns.map word := by
  rw [rowB_join, split_sp (by simp), List.map_cons, map_word]
  intro x hx
  rcases List.mem_cons.1 hx with rfl | hx
  · exact hw
  · exact words_no h x hx
theorem way_no (w : Int) : (32 : UInt8) ∉ wayL w ∧ (10 : UInt8) ∉ wayL w := by
  unfold wayL
  split
  · exact ⟨by decide, by decide⟩
  · exact ⟨by decide, by decide⟩
theorem headB_split {t : Truck} (h : ∀ n ∈ [t.Start, t.Pace.Lo, t.Pace.Hi], NumOk n) : Tx.splitV (mk (headB t)) bSp = mk wTruck :: mk (wayL t.Way) :: [t.Start, t.Pace.Lo, t.Pace.Hi].map word := by
  rw [headB_join, split_sp (by simp), List.map_cons, List.map_cons, map_word]
  intro x hx
  rcases List.mem_cons.1 hx with rfl | hx
  · decide
  · rcases List.mem_cons.1 hx with rfl | hx
    · exact (way_no _).1
    · exact words_no h x hx
theorem mk_inj {a b : List UInt8} (h : mk a = mk b) : a = b := by
  have := congrArg bl h
  rwa [bl_mk, bl_mk] at this
theorem eqB_iff {s t : ByteArray} : eqB s t = true ↔ s = t := eq_iff
theorem eqB_mk (a b : List UInt8) : eqB (mk a) (mk b) = decide (a = b) := by
  by_cases h : a = b
  · rw [h, decide_eq_true rfl]; exact eqB_iff.2 rfl
  · rw [decide_eq_false h]
    cases he : eqB (mk a) (mk b) with
    | false => rfl
    | true => exact absurd (mk_inj (eqB_iff.1 he)) h
theorem good_road {c : Convoy} {l g f : Int} (hl : NumOk l) (hg : NumOk g) (hf : NumOk f) : goodRow 0 c (mk wRoad :: [l, g, f].map word) = some ⟨l, g, f, []⟩ := by
  unfold goodRow
  simp only
  rw [if_pos trivial, numbers_of (m := 3) (three_ok hl hg hf) (by simp) rfl, show eqB (mk wRoad) bRoad = true from eqB_mk wRoad wRoad]
  rfl
theorem good_truck {k : Nat} {c : Convoy} {w s l h : Int} (hw : w = 1 ∨ w = 2) (hs : NumOk s) (hl : NumOk l) (hh : NumOk h) : goodRow (k + 1) c (mk wTruck :: mk (wayL w) :: [s, l, h].map word) = some ⟨c.Length, c.Gap, c.Fails, c.Trucks ++ [⟨w, s, ⟨l, h⟩, []⟩]⟩ := by
  unfold goodRow
  simp only
  rw [if_neg (Nat.succ_ne_zero k), numbers_of (m := 3) (three_ok hs hl hh) (by simp) rfl, show eqB (mk wTruck) bRoad = false from eqB_mk wTruck wRoad, show eqB (mk wTruck) bTruck = true from eqB_mk wTruck wTruck]
  rcases hw with rfl | rfl
  · rw [show eqB (mk (wayL 1)) bUp = true from eqB_mk wUp wUp, show eqB (mk (wayL 1)) bDown = false from eqB_mk wUp wDown]
    rfl
  · rw [show eqB (mk (wayL 2)) bUp = false from eqB_mk wDown wUp, show eqB (mk (wayL 2)) bDown = true from eqB_mk wDown wDown]
    rfl
theorem good_hold {k : Nat} {c : Convoy} {ts : List Truck} {t : Truck} {x y : Int} (ht : c.Trucks = ts ++ [t]) (hx : NumOk x) (hy : NumOk y) : goodRow (k + 1) c (mk wHold :: [x, y].map word) = some ⟨c.Length, c.Gap, c.Fails, ts ++ [⟨t.Way, t.Start, t.Pace, t.Holds ++ [⟨x, y⟩]⟩]⟩ := by
  unfold goodRow
  simp only
  rw [if_neg (Nat.succ_ne_zero k), numbers_of (m := 2) (two_ok hx hy) (by simp) rfl, show eqB (mk wHold) bRoad = false from eqB_mk wHold wRoad, show eqB (mk wHold) bTruck = false from eqB_mk wHold wTruck, show eqB (mk wHold) bHold = true from eqB_mk wHold wHold, ht, List.getLast?_concat]
  simp only [cond_true, cond_false]
  unfold addHold
  rw [ht, List.dropLast_concat]
theorem okS_of {s : ByteArray} (h : s.size ≤ 1000000) : Tx.okS s bSp = true := by
  unfold Tx.okS
  rw [decide_eq_true (by omega), show decide (1 ≤ bSp.size) = true from rfl]; rfl
theorem readL_cons {row : ByteArray} {rows : List ByteArray} {k : Nat} {c c' : Convoy} (ho : row.size ≤ 1000000) (hg : goodRow k c (Tx.splitV row bSp) = some c') : readL (row :: rows) k c = readL rows (k + 1) c' := by
  show chk (Tx.okS row bSp) _ = _
  rw [okS_of ho, hg]; rfl
theorem read_holds : ∀ (hs : List Hold) (k : Nat) (l g f : Int) (ts : List Truck) (w s : Int) (p : Span) (h0 : List Hold) (rest : List ByteArray), (∀ x ∈ hs, NumOk x.At ∧ NumOk x.Until) →
    ∃ k', readL ((hs.map holdB).map mk ++ rest) (k + 1) ⟨l, g, f, ts ++ [⟨w, s, p, h0⟩]⟩ = readL rest (k' + 1) ⟨l, g, f, ts ++ [⟨w, s, p, h0 ++ hs⟩]⟩
  | [], k, l, g, f, ts, w, s, p, h0, rest, _ => ⟨k, by rw [List.append_nil]; rfl⟩
  | h :: hs, k, l, g, f, ts, w, s, p, h0, rest, hh => by
    have h1 := hh h (List.mem_cons_self ..)
    obtain ⟨k', e⟩ := read_holds hs (k + 1) l g f ts w s p (h0 ++ [h]) rest fun x hx => hh x (List.mem_cons_of_mem _ hx)
    refine ⟨k', ?_⟩
    rw [List.append_assoc] at e
    refine Eq.trans ?_ e
    have hn := two_ok h1.1 h1.2
    refine readL_cons ?_ ?_
    · have := rowB_len (w := wHold) hn
      rw [mk_size]
      show (rowB wHold [h.At, h.Until]).length ≤ _
      have e4 : wHold.length = 4 := rfl
      simp only [List.length_cons, List.length_nil] at this
      omega
    · show goodRow (k + 1) _ (Tx.splitV (mk (rowB wHold [h.At, h.Until])) bSp) = _
      rw [rowB_split (by decide) hn]
      exact good_hold (c := ⟨l, g, f, ts ++ [⟨w, s, p, h0⟩]⟩) (ts := ts) (t := ⟨w, s, p, h0⟩) rfl h1.1 h1.2
theorem way_len (w : Int) : (wayL w).length ≤ 4 := by
  unfold wayL
  split <;> decide
theorem read_trucks : ∀ (ts : List Truck) (k : Nat) (l g f : Int) (t0 : List Truck) (rest : List ByteArray), (∀ t ∈ ts, NumT t) →
    ∃ k', readL ((ts.flatMap linesT).map mk ++ rest) (k + 1) ⟨l, g, f, t0⟩ = readL rest (k' + 1) ⟨l, g, f, t0 ++ ts⟩
  | [], k, l, g, f, t0, rest, _ => ⟨k, by rw [List.append_nil]; rfl⟩
  | t :: ts, k, l, g, f, t0, rest, hh => by
    have h1 := hh t (List.mem_cons_self ..)
    have hn := three_ok h1.s h1.l h1.h
    obtain ⟨k1, e1⟩ := read_holds t.Holds (k + 1) l g f t0 t.Way t.Start t.Pace [] ((ts.flatMap linesT).map mk ++ rest) h1.hs
    obtain ⟨k2, e2⟩ := read_trucks ts k1 l g f (t0 ++ [t]) rest fun x hx => hh x (List.mem_cons_of_mem _ hx)
    refine ⟨k2, ?_⟩
    rw [List.append_assoc] at e2
    refine Eq.trans ?_ e2
    refine Eq.trans ?_ e1
    rw [List.flatMap_cons, List.map_append, List.append_assoc]
    refine readL_cons ?_ ?_
    · have := rowB_len (w := wTruck ++ 32 :: wayL t.Way) hn
      rw [mk_size]
      show (rowB (wTruck ++ 32 :: wayL t.Way) _).length ≤ _
      have e4 := way_len t.Way
      have e5 : wTruck.length = 5 := rfl
      simp only [List.length_cons, List.length_nil, List.length_append] at this
      omega
    · rw [headB_split hn]
      exact good_truck h1.way h1.s h1.l h1.h
theorem read_lines {c : Convoy} (h : NumC c) : readL ((lines c).map mk) 0 zeroC = some (.ok c) := by
  obtain ⟨k, e⟩ := read_trucks c.Trucks 0 c.Length c.Gap c.Fails [] [] h.t
  rw [List.append_nil] at e
  have hn := three_ok h.l h.g h.f
  refine Eq.trans (readL_cons (c' := ⟨c.Length, c.Gap, c.Fails, []⟩) ?_ ?_) (e.trans rfl)
  · have := rowB_len (w := wRoad) hn
    rw [mk_size]
    show (rowB wRoad _).length ≤ _
    have e4 : wRoad.length = 4 := rfl
    simp only [List.length_cons, List.length_nil] at this
    omega
  · show goodRow 0 _ (Tx.splitV (mk (rowB wRoad _)) bSp) = _
    rw [rowB_split (by decide) hn]
    exact good_road h.l h.g h.f
theorem lines_no {c : Convoy} (h : NumC c) : ∀ w ∈ lines c, (10 : UInt8) ∉ w := fun w hw => by
  rcases List.mem_cons.1 hw with rfl | hw
  · exact rowB_no (by decide) (three_ok h.l h.g h.f)
  · obtain ⟨t, ht, hw⟩ := List.mem_flatMap.1 hw
    have h1 := h.t t ht
    rcases List.mem_cons.1 hw with rfl | hw
    · refine rowB_no (fun hm => ?_) (three_ok h1.s h1.l h1.h)
      rcases List.mem_append.1 hm with h2 | h2
      · exact absurd h2 (by decide)
      · rcases List.mem_cons.1 h2 with h3 | h3
        · cases h3
        · exact (way_no _).2 h3
    · obtain ⟨x, hx, rfl⟩ := List.mem_map.1 hw
      have h2 := h1.hs x hx
      exact rowB_no (by decide) (two_ok h2.1 h2.2)
theorem rows_len (c : UInt8) : ∀ l : List (List UInt8), l.length ≤ (rowsL c l).length
  | [] => Nat.le_refl _
  | x :: l => by
    have := rows_len c l
    show l.length + 1 ≤ ((x ++ [c]) ++ rowsL c l).length
    simp only [List.length_append, List.length_singleton]; omega
theorem okS_nl {s : ByteArray} (h : s.size ≤ 1000000) : Tx.okS s bNl = true := by
  unfold Tx.okS
  rw [decide_eq_true (by omega), show decide (1 ≤ bNl.size) = true from rfl]; rfl
theorem Read_text {c : Convoy} (hc : pCheck c = some 0) (hn : NumC c) (hl : (textL c).length ≤ 20000) : Read (mk (textL c)) = some (c, 0, 0) := by
  rw [Read_eq]
  unfold readF
  have hs : Tx.splitV (mk (textL c)) bNl = (lines c).map mk ++ [mk []] := by
    rw [show bNl = (⟨#[10]⟩ : ByteArray) from rfl, splitV_eq, bl_mk, text_lines, split_rows 10 _ (lines_no hn), List.map_append]; rfl
  have hlen : (lines c).length ≤ 20000 := by
    have := rows_len 10 (lines c)
    rw [← text_lines] at this
    omega
  have h1 : ((lines c).map mk ++ [mk []]).length = (lines c).length + 1 := by rw [List.length_append, List.length_map]; rfl
  rw [hs, List.getLast?_concat, List.dropLast_concat, read_lines hn, h1, mk_size, okS_nl (by rw [mk_size]; omega), decide_eq_false (by omega), decide_eq_true (by omega)]
  show readT ((lines c).length + 1 - 1) (mk []) (.ok c) = _
  unfold readT
  have h2 : (lines c).length + 1 - 1 ≠ 0 := by
    have : (lines c).length = (c.Trucks.flatMap linesT).length + 1 := rfl
    omega
  simp only
  rw [if_neg h2, hc, show eqB (mk []) ⟨#[]⟩ = true from eqB_mk [] []]
  rfl
end Go.Proofs.Tp04
namespace Go.Proofs.Tp04
open Go Go.Ab
set_option linter.all false
set_option maxRecDepth 100000
def alongI (way len a : Int) : Int := if way = 2 then len - a else a
def HSort (way len : Int) (hs : List Hold) : Prop := hs.Pairwise fun h g => alongI way len h.At < alongI way len g.At
theorem u64_bnd (n : Int) : 0 ≤ IntKind.u64.wrap n ∧ IntKind.u64.wrap n < 18446744073709551616 := by
  unfold IntKind.wrap
  simp [IntKind.bits, IntKind.signed]
  omega
theorem u64_id {n : Int} (h1 : 0 ≤ n) (h2 : n < 18446744073709551616) : IntKind.u64.wrap n = n := by
  unfold IntKind.wrap
  simp [IntKind.bits, IntKind.signed]
  omega
theorem next_ok (s : Seed) : Ok (fun r => 0 ≤ r.2 ∧ r.2 < 18446744073709551616) (next s) := by
  rw [next_eq]
  exact ⟨_, rfl, u64_bnd _⟩
theorem Below_ok (s : Seed) {n : Int} (hn : n ≤ 1000000000) : Ok (fun r => 0 ≤ r.2 ∧ (r.2 < n ∨ r.2 = 0)) (Below s n) := by
  rw [Below_eq]
  refine Ok.ite (fun h => Ok.some ⟨Int.le_refl _, .inr rfl⟩) fun h => ?_
  have hn2 : ¬ n < 2 := by simpa using h
  refine Ok.bind (next_ok s) fun r hr => ?_
  have hu : IntKind.u64.wrap n = n := u64_id (by omega) (by omega)
  refine Ok.chk (by rw [hu]; simp; omega) (Ok.some ?_)
  rw [hu]
  have e : shrI .u64 r.2 1 = r.2 / 2 := by
    unfold shrI
    rw [Int.fdiv_eq_ediv_of_nonneg _ (by decide)]
    simp [IntKind.bits]
  rw [e, Int.tmod_eq_emod_of_nonneg (by omega)]
  have h1 := Int.emod_nonneg (r.2 / 2) (show n ≠ 0 by omega)
  have h2 := Int.emod_lt_of_pos (r.2 / 2) (show 0 < n by omega)
  rw [w64_id (by omega) (by omega)]
  exact ⟨h1, .inl h2⟩
theorem From_ok (s : Seed) {low high : Int} (h1 : -1000000 ≤ low) (h2 : low ≤ 1000000) (h3 : -1000000 ≤ high) (h4 : high ≤ 1000000) : Ok (fun r => low ≤ r.2 ∧ (r.2 ≤ high ∨ r.2 = low)) (From s low high) := by
  rw [From_eq]
  refine Ok.bind (Below_ok s (n := w64 (w64 (high - low) + 1)) ?_) fun r hr => Ok.some ?_
  · rw [w64_id (n := high - low) (by omega) (by omega), w64_id (by omega) (by omega)]; omega
  · rw [w64_id (n := high - low) (by omega) (by omega), w64_id (n := high - low + 1) (by omega) (by omega)] at hr
    simp only
    rw [w64_id (by omega) (by omega)]
    omega
theorem Of_ok (s : Seed) {l : List Int} (h0 : l ≠ []) (hl : l.length ≤ 1000) : Ok (fun r => r.2 ∈ l) (Of s l) := by
  rw [Of_eq]
  have hp : 0 < l.length := List.length_pos_iff.2 h0
  refine Ok.ite (fun h => ?_) fun h => Ok.bind (Below_ok s (n := (l.length : Int)) (by omega)) fun r hr => Ok.chk ?_ (Ok.some ?_)
  · simp at h; exact absurd h h0
  · simp; omega
  · simp only
    rw [List.getD_eq_getElem?_getD, List.getElem?_eq_getElem (by omega)]
    exact List.getElem_mem _
theorem NewSeed_ok {nums : List Int} (hn : nums.length ≤ 9223372036854775807) : Ok (fun _ => True) (NewSeed nums) := by
  rw [NewSeed_eq]
  refine Ok.rounds (fun v => 0 ≤ v.1.2.1 ∧ v.1.2.1 ≤ nums.length) (fun v => ((nums.length : Int) - v.1.2.1).toNat) ?_ ?_ ?_
  · show ((nums.length : Int) - 0).toNat < 18446744073709551616
    omega
  · simp
  · rintro ⟨⟨_, i, _⟩, ⟨w, _⟩, _⟩ kn hi' hk
    simp only at hi'
    refine Ok.ite (fun hlt => ?_) fun _ => Ok.some trivial
    simp only [decide_eq_true_eq] at hlt
    have e : w64 (i + 1) = i + 1 := w64_id (by omega) (by omega)
    refine Ok.chk (by simp; omega) (Ok.bind (next_ok _) fun r _ => hk _ ?_ ?_)
    · simp [e]; omega
    · simp [e]; omega
theorem fitA_ok {n b : Nat} (hn : n ≤ 1000000) (hb : b ≤ 1000000) : fitA n b = true := by
  unfold fitA
  have : n * b ≤ 1000000 * 1000000 := Nat.mul_le_mul hn hb
  simp; omega
theorem ok_eq {α : Type} {x : Option α} {a : α} (h : Ok (fun b => b = a) x) : x = some a := by obtain ⟨b, h1, rfl⟩ := h; exact h1
theorem Ok.beq {α β : Type} {Q : β → Prop} {x : Option α} {a : α} {f : α → Option β} (hx : x = some a) (hf : Ok Q (f a)) : Ok Q (x.bind f) := by subst hx; exact hf
theorem ib {i : Int} {n : Nat} (h1 : 0 ≤ i) (h2 : i < n) : (decide (0 ≤ i) && decide (i < (n : Int))) = true := by simp; omega
theorem getD_mem {α : Type} {l : List α} {d : α} {i : Nat} (h : i < l.length) : l.getD i d ∈ l := by
  rw [List.getD_eq_getElem?_getD, List.getElem?_eq_getElem h]
  exact List.getElem_mem h
structure TMade (len : Int) (n : Int) (t : Truck) : Prop where
  way : t.Way = 1 ∨ t.Way = 2
  s1 : 0 ≤ t.Start
  s2 : t.Start ≤ 199
  p1 : 5 ≤ t.Pace.Lo
  p2 : t.Pace.Lo ≤ t.Pace.Hi
  p3 : t.Pace.Hi ≤ 32
  n : (t.Holds.length : Int) ≤ n
  h : ∀ h ∈ t.Holds, 1 ≤ h.At ∧ h.At ≤ len - 1 ∧ 0 ≤ h.Until ∧ h.Until ≤ 149
  so : HSort t.Way len (t.Holds)
theorem hsort_snoc {way len : Int} {hs : List Hold} {h : Hold} (h1 : HSort way len hs) (h2 : ∀ x ∈ hs, alongI way len x.At < alongI way len h.At) : HSort way len (hs ++ [h]) := by
  refine List.pairwise_append.2 ⟨h1, List.pairwise_singleton _ _, fun a ha b hb => ?_⟩
  obtain rfl := List.mem_singleton.1 hb
  exact h2 a ha
theorem TruckOf_made (s : Seed) {length holds : Int} (h1 : 1 ≤ length) (h2 : length ≤ 1000000) (h3 : 0 ≤ holds) (h4 : holds ≤ 100) : Ok (fun r => TMade length holds r.2) (TruckOf s length holds) := by
  rw [TruckOf_eq]
  refine Ok.bind (From_ok s (by omega) (by omega) (by omega) (by omega)) fun r hr => ?_
  refine Ok.bind (Below_ok _ (by omega)) fun r2 hr2 => ?_
  refine Ok.bind (Below_ok _ (by omega)) fun r3 hr3 => ?_
  refine Ok.bind (Of_ok _ (by simp) (by simp)) fun r4 hr4 => ?_
  refine Ok.bind (From_ok _ (by omega) (by omega) (by omega) (by omega)) fun r5 hr5 => ?_
  refine Ok.bind (Below_ok _ (by omega)) fun r6 hr6 => ?_
  refine Ok.bind (Of_ok _ (by simp) (by simp)) fun r7 hr7 => ?_
  refine Ok.bind (Below_ok _ (by rw [w64_id (by omega) (by omega)]; omega)) fun r8 hr8 => ?_
  rw [w64_id (n := holds + 1) (by omega) (by omega)] at hr8
  have hst : 0 ≤ r4.2 ∧ r4.2 ≤ 199 := by
    simp only [List.mem_cons, List.not_mem_nil, or_false] at hr4
    omega
  have hph : 0 ≤ r7.2 ∧ r7.2 ≤ 7 := by
    simp only [List.mem_cons, List.not_mem_nil, or_false] at hr7
    omega
  have eh : w64 (r5.2 + r7.2) = r5.2 + r7.2 := w64_id (by omega) (by omega)
  refine Ok.rounds (fun v => 0 ≤ v.1.2.2.2.2.1 ∧ v.1.2.2.2.2.1 ≤ holds ∧ (v.2.2.1.2.2.2.2.1.length : Int) + v.1.2.2.2.2.1 ≤ holds ∧ 0 ≤ v.1.2.2.2.1 ∧ v.1.2.2.2.1 ≤ 1000000 ∧
      TMade length (v.2.2.1.2.2.2.2.1.length : Int) ⟨v.2.2.1.1, v.2.2.1.2.1, ⟨v.2.2.1.2.2.1, v.2.2.1.2.2.2.1⟩, v.2.2.1.2.2.2.2.1⟩ ∧ ∀ x ∈ v.2.2.1.2.2.2.2.1, alongI v.2.2.1.1 length x.At ≤ v.1.2.2.2.1) (fun v => v.1.2.2.2.2.1.toNat) ?_ ?_ ?_
  · show r8.2.toNat < 18446744073709551616
    omega
  · simp only [eh]
    refine ⟨by omega, by omega, by simp; omega, by omega, by omega, ⟨by simp only; omega, hst.1, hst.2, by simp only; omega, by simp only; omega, by simp only; omega, by simp, fun h hh => by simp at hh, List.Pairwise.nil⟩, fun x hx => by simp at hx⟩
  · rintro ⟨⟨_, _, _, at_, i, _⟩, ⟨w, _⟩, ⟨way, st, lo, hi, hs, _⟩, _⟩ kn ⟨i1, i2, i3, i4, i5, i6, i7⟩ hk
    simp only at i1 i2 i3 i4 i5 i6 i7 ⊢
    have i6' : TMade length holds ⟨way, st, ⟨lo, hi⟩, hs⟩ := ⟨i6.way, i6.s1, i6.s2, i6.p1, i6.p2, i6.p3, by show (hs.length : Int) ≤ holds; omega, i6.h, i6.so⟩
    refine Ok.ite (fun hc => Ok.ite (fun hc2 => ?_) fun _ => Ok.some i6') fun _ => Ok.some i6'
    simp only [decide_eq_true_eq] at hc hc2
    have e1 : w64 (at_ + 1) = at_ + 1 := w64_id (by omega) (by omega)
    have e2 : w64 (length - 1) = length - 1 := w64_id (by omega) (by omega)
    rw [e2] at hc2
    refine Ok.bind (From_ok _ (low := w64 (at_ + 1)) (high := w64 (length - 1)) (by omega) (by omega) (by omega) (by omega)) fun r9 hr9 => ?_
    rw [e1, e2] at hr9
    refine Ok.bind (Below_ok _ (by omega)) fun r10 hr10 => ?_
    have hi1 : w64 (i - 1) = i - 1 := w64_id (by omega) (by omega)
    have hi2 : w64 (length - r9.2) = length - r9.2 := w64_id (by omega) (by omega)
    have fin : ∀ A : Int, 1 ≤ A → A ≤ length - 1 → alongI way length A = r9.2 → Ok (fun r => TMade length holds r.2) (kn (((), (), (), r9.2, w64 (i - 1), ()), ((r10.1.word, ()), (way, st, lo, hi, hs ++ [⟨A, r10.2⟩], ()), ()))) := fun A a1 a2 a3 => by
      refine hk _ ?_ ?_
      · simp only [hi1]
        refine ⟨by omega, by omega, by simp; omega, by omega, by omega, ⟨i6.way, i6.s1, i6.s2, i6.p1, i6.p2, i6.p3, Int.le_refl _, ?_, ?_⟩, ?_⟩
        · show _
          intro h hh
          rcases List.mem_append.1 hh with hh | hh
          · exact i6.h h hh
          · obtain rfl := List.mem_singleton.1 hh
            (try simp only); omega
        · show _
          exact hsort_snoc i6.so fun x hx => by
            have := i7 x hx
            show alongI way length x.At < alongI way length (Hold.mk A r10.2).At
            (try simp only); omega
        · show _
          intro x hx
          rcases List.mem_append.1 hx with hx | hx
          · have := i7 x hx; omega
          · obtain rfl := List.mem_singleton.1 hx
            (try simp only); omega
      · simp only [hi1]; omega
    refine Ok.ite (fun hw => ?_) fun hw => ?_
    · refine Ok.chk (fitA_ok (by simp; omega) (by omega)) ?_
      rw [hi2]
      refine fin _ (by omega) (by omega) ?_
      have : way = 2 := by simpa using hw
      unfold alongI; rw [if_pos this]; omega
    · refine Ok.chk (fitA_ok (by simp; omega) (by omega)) (fin _ (by omega) (by omega) ?_)
      have : ¬ way = 2 := by simpa using hw
      unfold alongI; rw [if_neg this]
structure CMade (most : Int) (c : Convoy) : Prop where
  l1 : 20 ≤ c.Length
  l2 : c.Length ≤ 400
  g1 : 1 ≤ c.Gap
  g2 : c.Gap ≤ 100
  f1 : 0 ≤ c.Fails
  f2 : c.Fails ≤ 2
  n : (c.Trucks.length : Int) ≤ most
  t : ∀ t ∈ c.Trucks, TMade c.Length 3 t
  g : ∀ t ∈ c.Trucks, 2 * t.Pace.Hi ≤ c.Gap
theorem wide_made (s : Seed) {c : Convoy} {most : Int} (hm : most ≤ 1000) (l1 : 20 ≤ c.Length) (l2 : c.Length ≤ 400) (f1 : 0 ≤ c.Fails) (f2 : c.Fails ≤ 2) (n : (c.Trucks.length : Int) ≤ most) (ht : ∀ t ∈ c.Trucks, TMade c.Length 3 t) : Ok (fun r => CMade most r.2) (wide s c) := by
  rw [wide_eq]
  refine Ok.rounds (fun v => v.2.1.1 = c.Length ∧ v.2.1.2.2.1 = c.Fails ∧ v.2.1.2.2.2.1 = c.Trucks ∧ 0 ≤ v.1.2.2.2.1 ∧ v.1.2.2.2.1 ≤ c.Trucks.length ∧ 1 ≤ v.2.1.2.1 ∧ v.2.1.2.1 ≤ 64 ∧ ∀ j, j < v.1.2.2.2.1.toNat → 2 * (c.Trucks.getD j dfltTruck).Pace.Hi ≤ v.2.1.2.1) (fun v => ((c.Trucks.length : Int) - v.1.2.2.2.1).toNat) ?_ ?_ ?_
  · show ((c.Trucks.length : Int) - 0).toNat < 18446744073709551616
    omega
  · simp
  · rintro ⟨⟨_, _, _, i, _⟩, ⟨len, gap, fails, ts, _⟩, _⟩ kn hi' hk
    simp only at hi' ⊢
    obtain ⟨rfl, rfl, rfl, h1, h2, h3, h4, h5⟩ := hi'
    refine Ok.ite (fun hlt => ?_) fun hge => ?_
    · simp only [decide_eq_true_eq] at hlt
      have e : w64 (i + 1) = i + 1 := w64_id (by omega) (by omega)
      have hm := ht _ (getD_mem (d := dfltTruck) (show i.toNat < c.Trucks.length by omega))
      have e2 : w64 (2 * (c.Trucks.getD i.toNat dfltTruck).Pace.Hi) = 2 * (c.Trucks.getD i.toNat dfltTruck).Pace.Hi := by
        have := hm.p1; have := hm.p2; have := hm.p3
        exact w64_id (by omega) (by omega)
      refine Ok.chk (ib h1 hlt) (hk _ ?_ ?_)
      · simp only [e, e2]
        have := hm.p3
        refine ⟨trivial, trivial, trivial, by omega, by omega, by omega, by omega, fun j hj => ?_⟩
        by_cases hl : j < i.toNat
        · have := h5 j hl; omega
        · obtain rfl : j = i.toNat := by omega
          omega
      · simp only [e]; omega
    · simp only [decide_eq_false_iff_not] at hge
      refine Ok.bind (Below_ok _ (by omega)) fun r hr => Ok.bind (Of_ok _ (by simp) (by simp)) fun r2 hr2 => Ok.some ?_
      simp only [List.mem_cons, List.not_mem_nil, or_false] at hr2
      have e3 : w64 (gap + r2.2) = gap + r2.2 := w64_id (by omega) (by omega)
      rw [e3]
      refine ⟨l1, l2, by show 1 ≤ gap + r2.2; omega, by show gap + r2.2 ≤ 100; omega, f1, f2, n, ht, fun t htm => ?_⟩
      obtain ⟨k, hk2, rfl⟩ := List.mem_iff_getElem.1 htm
      have hk3 : k < c.Trucks.length := hk2
      have := h5 k (by omega)
      rw [List.getD_eq_getElem?_getD, List.getElem?_eq_getElem hk3] at this
      simp only [Option.getD_some] at this
      show 2 * (c.Trucks[k]).Pace.Hi ≤ gap + r2.2
      omega
theorem ConvoyOf_made (s : Seed) {most : Int} (h0 : 0 ≤ most) (h1 : most ≤ 20) : Ok (fun r => CMade most r.2) (ConvoyOf s most) := by
  rw [ConvoyOf_eq]
  refine Ok.bind (From_ok s (by omega) (by omega) (by omega) (by omega)) fun r hr => ?_
  refine Ok.bind (Below_ok _ (by omega)) fun r2 hr2 => ?_
  refine Ok.bind (Below_ok _ (by rw [w64_id (by omega) (by omega)]; omega)) fun r3 hr3 => ?_
  rw [w64_id (n := most + 1) (by omega) (by omega)] at hr3
  refine Ok.rounds (fun v => 0 ≤ v.1.2.2.2.1 ∧ v.1.2.2.2.1 ≤ most ∧ (v.2.2.1.2.2.2.1.length : Int) + v.1.2.2.2.1 ≤ most ∧ (∀ t ∈ v.2.2.1.2.2.2.1, TMade r.2 3 t) ∧ v.2.2.1.1 = r.2 ∧ v.2.2.1.2.2.1 = r2.2) (fun v => v.1.2.2.2.1.toNat) ?_ ?_ ?_
  · show r3.2.toNat < 18446744073709551616
    omega
  · simp; omega
  · rintro ⟨⟨_, _, _, i, _⟩, ⟨w, _⟩, ⟨len, gap, fails, ts, _⟩, _⟩ kn hi' hk
    simp only at hi' ⊢
    obtain ⟨a1, a2, a3, a4, rfl, rfl⟩ := hi'
    have e : w64 (i - 1) = i - 1 := w64_id (by omega) (by omega)
    refine Ok.ite (fun hlt => ?_) fun _ => ?_
    · simp only [decide_eq_true_eq] at hlt
      refine Ok.bind (TruckOf_made _ (length := r.2) (by omega) (by omega) (by omega) (by omega)) fun r4 hr4 => ?_
      refine Ok.chk (fitA_ok (by simp; omega) (by omega)) (hk _ ?_ ?_)
      · simp only [e, List.length_append, List.length_singleton]
        refine ⟨by omega, by omega, by push_cast; omega, fun t ht => ?_, trivial, trivial⟩
        rcases List.mem_append.1 ht with ht | ht
        · exact a4 t ht
        · simp only [List.mem_singleton] at ht; subst ht; exact hr4
      · simp [e]; omega
    · exact Ok.bind (wide_made _ (c := ⟨r.2, gap, r2.2, ts⟩) (most := most) (by omega) (by simp only; omega) (by simp only; omega) (by simp only; omega) (by simp only; omega) (by simp only; omega) a4) fun r5 hr5 => Ok.some hr5
end Go.Proofs.Tp04
namespace Go.Proofs.Tp04
open Go Go.Ab
set_option linter.all false
set_option maxRecDepth 100000
theorem in_ok (n lo hi : Int) : in_ n lo hi = some (decide (lo ≤ n) && decide (n ≤ hi)) := by
  rw [in__eq]
  unfold in_'
  cases decide (lo ≤ n) <;> rfl
theorem in_bad {a n b : Int} (q : (!(decide (a ≤ n) && decide (n ≤ b))) = true) (h1 : a ≤ n) (h2 : n ≤ b) : False := by
  rw [decide_eq_true h1, decide_eq_true h2] at q
  cases q
theorem along_ok (t : Truck) (len m : Int) : along ⟨t, len⟩ m = some (if t.Way = 2 then w64 (len - m) else m) := by
  rw [along_eq]
  unfold along'
  by_cases h : t.Way = 2
  · rw [if_pos h, show (t.Way == 2) = true by simp [h]]; rfl
  · rw [if_neg h, show (t.Way == 2) = false by simp [h]]; rfl
theorem sort_at {way len : Int} {hs : List Hold} {d : Hold} (h : HSort way len hs) {i : Nat} (h0 : 0 < i) (hi : i < hs.length) : alongI way len (hs.getD (i - 1) d).At < alongI way len (hs.getD i d).At := by
  have h2 := List.pairwise_iff_getElem.1 h (i - 1) i (by omega) hi (by omega)
  rw [List.getD_eq_getElem?_getD, List.getD_eq_getElem?_getD, List.getElem?_eq_getElem hi, List.getElem?_eq_getElem (show i - 1 < hs.length by omega)]
  exact h2
theorem along_id {t : Truck} {len m : Int} (h1 : 0 ≤ m) (h2 : m ≤ len) (h3 : len ≤ 400) : (if t.Way = 2 then w64 (len - m) else m) = alongI t.Way len m := by
  unfold alongI
  rw [w64_id (by omega) (by omega)]
theorem truck_ok {c : Convoy} {t : Truck} (hl : t.Holds.length ≤ 1000000) : Ok (fun e => TMade c.Length 3 t → c.Length ≤ 400 → 2 * t.Pace.Hi ≤ c.Gap → e = 0) (checkTruck c t) := by
  rw [checkTruck_eq]
  unfold checkTruck'
  refine Ok.beq (in_ok _ _ _) (Ok.ite (fun q => Ok.some fun h _ _ => ?_) fun _ => ?_)
  · have := h.way; exact (in_bad q (by omega) (by omega)).elim
  refine Ok.beq (in_ok _ _ _) (Ok.ite (fun q => Ok.some fun h _ _ => ?_) fun _ => ?_)
  · have := h.s1; have := h.s2; exact (in_bad q (by omega) (by omega)).elim
  refine Ok.beq (in_ok _ _ _) (Ok.ite (fun q => Ok.some fun h _ _ => ?_) fun _ => ?_)
  · have := h.p1; have := h.p2; have := h.p3; exact (in_bad q (by omega) (by omega)).elim
  refine Ok.beq (in_ok _ _ _) (Ok.ite (fun q => Ok.some fun h _ _ => ?_) fun _ => ?_)
  · have := h.p1; have := h.p2; have := h.p3; exact (in_bad q (by omega) (by omega)).elim
  refine Ok.ite (fun q => Ok.some fun h _ _ => ?_) fun _ => ?_
  · have := h.p2; have := of_decide_eq_true q; omega
  refine Ok.ite (fun q => Ok.some fun h h2 _ => ?_) fun _ => ?_
  · have := h.p1; have := h.p2; have := h.p3; have := of_decide_eq_true q
    rw [w64_id (by omega) (by omega)] at this; omega
  refine Ok.ite (fun q => Ok.some fun h h2 h3 => ?_) fun _ => ?_
  · have := h.p1; have := h.p2; have := h.p3; have := of_decide_eq_true q
    rw [w64_id (by omega) (by omega)] at this; omega
  refine Ok.ite (fun q => Ok.some fun h h2 h3 => ?_) fun _ => ?_
  · have := h.n; have := of_decide_eq_true q; omega
  refine Ok.rounds (inv := fun v => ∃ j : Nat, j ≤ t.Holds.length ∧ v.1.2.2.2.1 = (j : Int)) (μ := fun v => t.Holds.length - v.1.2.2.2.1.toNat) (by show t.Holds.length - 0 < FUEL; unfold FUEL; omega) ⟨0, Nat.zero_le _, rfl⟩ ?_
  rintro ⟨⟨u1, u2, u3, x, u4⟩, u5⟩ kn ⟨j, hj, e1⟩ hk
  simp only at e1 ⊢
  subst e1
  unfold checkTruck_L15
  rw [show ((j : Int)).toNat = j by omega]
  refine Ok.ite (fun hlt => ?_) (fun _ => Ok.some fun _ _ _ => rfl)
  have hlt : j < t.Holds.length := by have := of_decide_eq_true hlt; omega
  refine Ok.chk (idx_ok hlt) ?_
  have hmem := getD_mem' (d := dfltHold) hlt
  refine Ok.beq (in_ok _ _ _) (Ok.ite (fun q => Ok.some fun h h2 h3 => ?_) fun _ => ?_)
  · have := h.h _ hmem
    rw [w64_id (by omega) (by omega)] at q
    exact (in_bad q (by omega) (by omega)).elim
  refine Ok.beq (in_ok _ _ _) (Ok.ite (fun q => Ok.some fun h h2 h3 => ?_) fun _ => ?_)
  · have := h.h _ hmem
    exact (in_bad q (by omega) (by omega)).elim
  have go : Ok (fun e => TMade c.Length 3 t → c.Length ≤ 400 → 2 * t.Pace.Hi ≤ c.Gap → e = 0) (kn ((u1, u2, u3, w64 ((j : Int) + 1), u4), u5)) := by
    have e : w64 ((j : Int) + 1) = ((j + 1 : Nat) : Int) := by rw [w64_id (by omega) (by omega)]; push_cast; rfl
    refine hk _ ⟨j + 1, hlt, e⟩ ?_
    show t.Holds.length - (w64 ((j : Int) + 1)).toNat < t.Holds.length - ((j : Int)).toNat
    rw [e]; omega
  refine Ok.ite (fun q => ?_) (fun _ => go)
  have h0 : 0 < j := by have := of_decide_eq_true q; omega
  have e : w64 ((j : Int) - 1) = ((j - 1 : Nat) : Int) := by rw [w64_id (by omega) (by omega)]; omega
  refine Ok.beq (along_ok _ _ _) ?_
  rw [e]
  refine Ok.chk (idx_ok (by omega)) ?_
  rw [show (((j - 1 : Nat) : Int)).toNat = j - 1 by omega]
  refine Ok.beq (along_ok _ _ _) ?_
  refine Ok.ite (fun q => Ok.some fun h h2 h3 => ?_) (fun _ => go)
  have h4 := sort_at (d := dfltHold) h.so h0 hlt
  have h5 := h.h _ hmem
  have h6 := h.h _ (getD_mem' (d := dfltHold) (show j - 1 < t.Holds.length by omega))
  have q := of_decide_eq_true q
  rw [along_id (by omega) (by omega) h2, along_id (by omega) (by omega) h2] at q
  omega
theorem pCheck_ok {c : Convoy} (hl : c.Trucks.length ≤ 1000000) (hh : ∀ t ∈ c.Trucks, t.Holds.length ≤ 1000000) : Ok (fun e => ∀ m, m ≤ 20 → CMade m c → e = 0) (pCheck c) := by
  rw [pCheck_eq]
  unfold pCheck'
  refine Ok.beq (in_ok _ _ _) (Ok.ite (fun q => Ok.some fun m hm h => ?_) fun _ => ?_)
  · have := h.l1; have := h.l2; exact (in_bad q (by omega) (by omega)).elim
  refine Ok.beq (in_ok _ _ _) (Ok.ite (fun q => Ok.some fun m hm h => ?_) fun _ => ?_)
  · have := h.g1; have := h.g2; exact (in_bad q (by omega) (by omega)).elim
  refine Ok.beq (in_ok _ _ _) (Ok.ite (fun q => Ok.some fun m hm h => ?_) fun _ => ?_)
  · have := h.f1; have := h.f2; exact (in_bad q (by omega) (by omega)).elim
  refine Ok.ite (fun q => Ok.some fun m hm h => ?_) fun _ => ?_
  · have := h.n; have := of_decide_eq_true q; omega
  refine Ok.rounds (inv := fun v => ∃ j : Nat, j ≤ c.Trucks.length ∧ v.1.2.1 = (j : Int)) (μ := fun v => c.Trucks.length - v.1.2.1.toNat) (by show c.Trucks.length - 0 < FUEL; unfold FUEL; omega) ⟨0, Nat.zero_le _, rfl⟩ ?_
  rintro ⟨⟨u1, x, u4⟩, u5⟩ kn ⟨j, hj, e1⟩ hk
  simp only at e1 ⊢
  subst e1
  unfold pCheck_L6
  rw [show ((j : Int)).toNat = j by omega]
  refine Ok.ite (fun hlt => ?_) (fun _ => Ok.some fun _ _ _ => rfl)
  have hlt : j < c.Trucks.length := by have := of_decide_eq_true hlt; omega
  refine Ok.chk (idx_ok hlt) ?_
  have hmem := getD_mem' (d := dfltTruck) hlt
  refine Ok.bind (truck_ok (hh _ hmem)) fun r hr => ?_
  refine Ok.ite (fun q => Ok.some fun m hm h => ?_) (fun _ => ?_)
  · have := hr (h.t _ hmem) h.l2 (h.g _ hmem)
    rw [this]
  · have e : w64 ((j : Int) + 1) = ((j + 1 : Nat) : Int) := by rw [w64_id (by omega) (by omega)]; push_cast; rfl
    refine hk _ ⟨j + 1, hlt, e⟩ ?_
    show c.Trucks.length - (w64 ((j : Int) + 1)).toNat < c.Trucks.length - ((j : Int)).toNat
    rw [e]; omega
theorem made_num {m : Int} {c : Convoy} (h : CMade m c) : NumC c := by
  have := h.l1; have := h.l2; have := h.g1; have := h.g2; have := h.f1; have := h.f2
  refine ⟨⟨by omega, by omega⟩, ⟨by omega, by omega⟩, ⟨by omega, by omega⟩, fun t ht => ?_⟩
  have h1 := h.t t ht
  have := h1.s1; have := h1.s2; have := h1.p1; have := h1.p2; have := h1.p3
  refine ⟨h1.way, ⟨by omega, by omega⟩, ⟨by omega, by omega⟩, ⟨by omega, by omega⟩, fun x hx => ?_⟩
  have := h1.h x hx
  exact ⟨⟨by omega, by omega⟩, ⟨by omega, by omega⟩⟩
theorem made_check {m : Int} {c : Convoy} (hm : m ≤ 20) (h : CMade m c) : pCheck c = some 0 := by
  have h1 := h.n
  obtain ⟨e, h2, h3⟩ := pCheck_ok (c := c) (by omega) fun t ht => by have := (h.t t ht).n; omega
  rw [h2, h3 m hm h]
theorem flat_len {α : Type} {f : α → List UInt8} {K : Nat} : ∀ l : List α, (∀ x ∈ l, (f x).length ≤ K) → (l.flatMap f).length ≤ K * l.length
  | [], _ => Nat.zero_le _
  | x :: l, h => by
    have h1 := h x (List.mem_cons_self ..)
    have h2 := flat_len l fun y hy => h y (List.mem_cons_of_mem _ hy)
    rw [List.flatMap_cons, List.length_append, List.length_cons, Nat.mul_succ]
    omega
theorem rowL_len {w : List UInt8} {ns : List Int} (h : ∀ n ∈ ns, NumOk n) : (rowL w ns).length ≤ w.length + 10 * ns.length + 1 := by
  have := rowB_len (w := w) h
  show (rowB w ns ++ [10]).length ≤ _
  rw [List.length_append]
  exact Nat.succ_le_succ this
theorem made_len {m : Int} {c : Convoy} (hm : m ≤ 20) (h : CMade m c) : (textL c).length ≤ 20000 := by
  have hn := made_num h
  have h1 : (roadL c).length ≤ 40 := by
    have := rowL_len (w := wRoad) (three_ok hn.l hn.g hn.f)
    have e4 : wRoad.length = 4 := rfl
    simp only [List.length_cons, List.length_nil] at this
    show (rowL wRoad _).length ≤ _
    omega
  have h2 : ∀ t ∈ c.Trucks, (truckL t).length ≤ 200 := fun t ht => by
    have ht2 := hn.t t ht
    have h3 : (headL t).length ≤ 45 := by
      have := rowL_len (w := wTruck ++ 32 :: wayL t.Way) (three_ok ht2.s ht2.l ht2.h)
      have e4 := way_len t.Way
      have e5 : wTruck.length = 5 := rfl
      simp only [List.length_cons, List.length_nil, List.length_append] at this
      show (rowL _ _).length ≤ _
      omega
    have h4 : (t.Holds.flatMap holdL).length ≤ 30 * t.Holds.length := flat_len _ fun x hx => by
      have := rowL_len (w := wHold) (two_ok (ht2.hs x hx).1 (ht2.hs x hx).2)
      have e4 : wHold.length = 4 := rfl
      simp only [List.length_cons, List.length_nil] at this
      show (rowL wHold _).length ≤ _
      omega
    have h5 := (h.t t ht).n
    unfold truckL
    rw [List.length_append]; omega
  have h3 := flat_len _ h2
  have h4 := h.n
  unfold textL
  rw [List.length_append]; omega
theorem Same_self {c : Convoy} (hl : c.Trucks.length ≤ 1000000) (hh : ∀ t ∈ c.Trucks, t.Holds.length ≤ 1000000) : Same c c = some true := by
  refine ok_eq ?_
  rw [Same_eq]
  unfold Same'
  refine Ok.ite (fun q => by simp at q) fun _ => Ok.ite (fun q => by simp at q) fun _ => Ok.ite (fun q => by simp at q) fun _ => Ok.ite (fun q => by simp at q) fun _ => ?_
  refine Ok.rounds (inv := fun v => ∃ j : Nat, j ≤ c.Trucks.length ∧ v.1.2.2.1 = (j : Int)) (μ := fun v => c.Trucks.length - v.1.2.2.1.toNat) (by show c.Trucks.length - 0 < FUEL; unfold FUEL; omega) ⟨0, Nat.zero_le _, rfl⟩ ?_
  rintro ⟨⟨u1, u2, x, u4⟩, u5⟩ kn ⟨j, hj, e1⟩ hk
  simp only at e1 ⊢
  subst e1
  unfold Same_L4
  rw [show ((j : Int)).toNat = j by omega]
  refine Ok.ite (fun hlt => ?_) (fun _ => Ok.some rfl)
  have hlt : j < c.Trucks.length := by have := of_decide_eq_true hlt; omega
  have hmem := getD_mem' (d := dfltTruck) hlt
  have hb := hh _ hmem
  refine Ok.chk (idx_ok hlt) (Ok.chk (idx_ok hlt) ?_)
  refine Ok.ite (fun q => by simp at q) fun _ => Ok.ite (fun q => by simp at q) fun _ => Ok.ite (fun q => by simp at q) fun _ => Ok.ite (fun q => by simp at q) fun _ => ?_
  have e : w64 ((j : Int) + 1) = ((j + 1 : Nat) : Int) := by rw [w64_id (by omega) (by omega)]; push_cast; rfl
  have go : Ok (fun r => r = true) (kn ((u1, u2, w64 ((j : Int) + 1), u4), u5)) := by
    refine hk _ ⟨j + 1, hlt, e⟩ ?_
    show c.Trucks.length - (w64 ((j : Int) + 1)).toNat < c.Trucks.length - ((j : Int)).toNat
    rw [e]; omega
  refine Ok.rounds (inv := fun v => ∃ i : Nat, i ≤ (c.Trucks.getD j dfltTruck).Holds.length ∧ v.1.2.2.2.2.1 = (i : Int)) (μ := fun v => (c.Trucks.getD j dfltTruck).Holds.length - v.1.2.2.2.2.1.toNat) (by show (c.Trucks.getD j dfltTruck).Holds.length - 0 < FUEL; unfold FUEL; omega) ⟨0, Nat.zero_le _, rfl⟩ ?_
  rintro ⟨⟨w1, w2, w3, w4, y, w5⟩, w6⟩ kn2 ⟨i, hi, e1⟩ hk2
  simp only at e1 ⊢
  subst e1
  unfold Same_L10
  rw [show ((j : Int)).toNat = j by omega, show ((i : Int)).toNat = i by omega]
  refine Ok.ite (fun hlt2 => ?_) (fun _ => go)
  have hlt2 : i < (c.Trucks.getD j dfltTruck).Holds.length := by have := of_decide_eq_true hlt2; omega
  refine Ok.chk (idx_ok hlt2) (Ok.chk (idx_ok hlt2) (Ok.ite (fun q => by simp at q) fun _ => ?_))
  have e2 : w64 ((i : Int) + 1) = ((i + 1 : Nat) : Int) := by rw [w64_id (by omega) (by omega)]; push_cast; rfl
  refine hk2 _ ⟨i + 1, hlt2, e2⟩ ?_
  show (c.Trucks.getD j dfltTruck).Holds.length - (w64 ((i : Int) + 1)).toNat < (c.Trucks.getD j dfltTruck).Holds.length - ((i : Int)).toNat
  rw [e2]; omega
end Go.Proofs.Tp04
namespace Go.Proofs.Tp04
open Go Go.Ab
set_option linter.all false
set_option maxRecDepth 100000
theorem consH_len (b : UInt8) {l : List (List UInt8)} (h : l ≠ []) : (consH b l).length = l.length := by
  cases l with
  | nil => exact absurd rfl h
  | cons _ _ => rfl
theorem split_len (c : UInt8) : ∀ l : List UInt8, (splitL c l).length ≤ l.length + 1
  | [] => Nat.le_refl _
  | b :: l => by
    have ih := split_len c l
    unfold splitL
    split
    · show (splitL c l).length + 1 ≤ l.length + 1 + 1; omega
    · rw [consH_len _ (splitL_ne c l)]; exact Nat.le_succ_of_le ih
theorem split_mem (c : UInt8) : ∀ (l : List UInt8) (w : List UInt8), w ∈ splitL c l → w.length ≤ l.length
  | [], w, h => by
    rw [show splitL c [] = [[]] from rfl] at h
    rw [List.mem_singleton.1 h]; exact Nat.le_refl _
  | b :: l, w, h => by
    have ih := split_mem c l
    unfold splitL at h
    split at h
    · rcases List.mem_cons.1 h with rfl | h
      · exact Nat.zero_le _
      · exact Nat.le_succ_of_le (ih w h)
    · generalize hp : splitL c l = p at ih h
      cases p with
      | nil => exact absurd hp (splitL_ne c l)
      | cons y r =>
        rcases List.mem_cons.1 h with rfl | h
        · exact Nat.succ_le_succ (ih y (List.mem_cons_self ..))
        · exact Nat.le_succ_of_le (ih w (List.mem_cons_of_mem _ h))
theorem bl_len (s : ByteArray) : (bl s).length = s.size := by show s.data.toList.length = s.data.size; simp
structure Pieces (s : ByteArray) (c : UInt8) (ws : List ByteArray) : Prop where
  ne : ws ≠ []
  len : ws.length ≤ s.size + 1
  mem : ∀ w ∈ ws, w.size ≤ s.size
  join : joinL c (ws.map bl) = bl s
theorem pieces (s : ByteArray) (c : UInt8) : Pieces s c (Tx.splitV s ⟨#[c]⟩) := by
  rw [splitV_eq]
  refine ⟨?_, ?_, fun w hw => ?_, ?_⟩
  · have := splitL_ne c (bl s)
    intro h
    exact this (List.map_eq_nil_iff.1 h)
  · rw [List.length_map, ← bl_len]; exact split_len c _
  · obtain ⟨x, hx, rfl⟩ := List.mem_map.1 hw
    rw [mk_size, ← bl_len]
    exact split_mem c _ _ hx
  · rw [List.map_map]
    rw [show (bl ∘ mk) = id from rfl, List.map_id]
    exact join_split c _
theorem subL_one {α : Type} (w : α) (r : List α) : subL (w :: r) 1 (((w :: r).length : Nat) : Int) = r := by
  show (List.take ((((w :: r).length : Nat) : Int)).toNat (w :: r)).drop 1 = r
  rw [Int.toNat_natCast, List.take_length]; rfl
theorem subL_two {α : Type} (w v : α) (r : List α) : subL (w :: v :: r) 2 (((w :: v :: r).length : Nat) : Int) = r := by
  show (List.take ((((w :: v :: r).length : Nat) : Int)).toNat (w :: v :: r)).drop 2 = r
  rw [Int.toNat_natCast, List.take_length]; rfl
theorem num_cases {r : List ByteArray} {m : Int} (hl : r.length ≤ 1000000) (hs : ∀ w ∈ r, w.size ≤ 1000000) : (∃ ns, numbers r m = some (ns, true) ∧ (ns.length : Int) = m) ∨ ∃ ns, numbers r m = some (ns, false) := by
  obtain ⟨⟨ns, b⟩, h1, h2⟩ := numbers_ok (m := m) hl hs
  rcases h2 with ⟨a, _, h3, _⟩ | ⟨a, _⟩
  · cases a; exact .inl ⟨ns, h1, h3⟩
  · cases a; exact .inr ⟨ns, h1⟩
theorem len3 {ns : List Int} (h : (ns.length : Int) = 3) : ∃ a b c, ns = [a, b, c] := by
  match ns, h with
  | [a, b, c], _ => exact ⟨a, b, c, rfl⟩
  | [], h => cases h
  | [_], h => cases h
  | [_, _], h => cases h
  | _ :: _ :: _ :: _ :: _, h => simp only [List.length_cons] at h; omega
theorem len2 {ns : List Int} (h : (ns.length : Int) = 2) : ∃ a b, ns = [a, b] := by
  match ns, h with
  | [a, b], _ => exact ⟨a, b, rfl⟩
  | [], h => cases h
  | [_], h => cases h
  | _ :: _ :: _ :: _, h => simp only [List.length_cons] at h; omega
theorem gt_one (n : Nat) (h : 1 < n) : (decide (0 ≤ (1 : Int)) && decide ((1 : Int) < (n : Int))) = true := idx_ok (k := 1) h
theorem take_no {row : ByteArray} {k : Nat} {c : Convoy} (hs : row.size ≤ 1000000) (hlen : (Tx.splitV row bSp).length ≤ 1000000) (h : goodRow k c (Tx.splitV row bSp) = none) : Ok (fun r => r.2 = false) (takeR c k row) := by
  have P := pieces row 32
  rw [takeR_eq]
  unfold takeR'
  refine Ok.bind (P := fun r => r = Tx.splitV row bSp) ⟨_, by unfold Tx.splitP; rw [show Tx.okS row (⟨#[32]⟩ : ByteArray) = true from okS_of hs]; rfl, rfl⟩ fun ws hws => ?_
  rw [← hws] at h hlen
  have P : Pieces row 32 ws := by rw [hws]; exact P
  clear hws
  obtain ⟨w0, r, rfl⟩ := List.exists_cons_of_ne_nil P.ne
  have hm : ∀ w ∈ r, w.size ≤ 1000000 := fun w hw => Nat.le_trans (P.mem w (List.mem_cons_of_mem _ hw)) hs
  have hl : r.length ≤ 1000000 := by rw [List.length_cons] at hlen; omega
  have c0 : (decide ((0 : Int) ≤ 0) && decide ((0 : Int) < (((w0 :: r).length : Nat) : Int))) = true := idx_ok (k := 0) (by simp)
  refine Ok.chk c0 ?_
  refine Ok.ite (fun _ => Ok.some rfl) fun q => ?_
  have q : (((k : Int) == 0) == eqB w0 bRoad) = true := by
    cases hb : (((k : Int) == 0) == eqB w0 bRoad) with
    | true => rfl
    | false => exact absurd (show (!(((k : Int) == 0) == eqB w0 bRoad)) = false from q) (by rw [hb]; decide)
  have sl1 : (decide ((0 : Int) ≤ 1) && decide ((1 : Int) ≤ (((w0 :: r).length : Nat) : Int)) && decide ((((w0 :: r).length : Nat) : Int) ≤ (((w0 :: r).length : Nat) : Int))) = true := by simp; omega
  unfold goodRow at h
  simp only at h
  by_cases hk : k = 0
  · subst hk
    have q0 : eqB w0 bRoad = true := by simpa using q
    rw [if_pos rfl, q0] at h
    refine Ok.ite (fun _ => ?_) (fun q => absurd q (by decide))
    refine Ok.chk sl1 ?_
    rw [subL_one]
    rcases num_cases (m := 3) hl hm with ⟨ns, h1, h2⟩ | ⟨ns, h1⟩
    · obtain ⟨x, y, z, rfl⟩ := len3 h2
      rw [h1] at h; cases h
    · rw [h1]; exact Ok.some rfl
  · have hk2 : ((k : Int) == 0) = false := by simp; omega
    have q0 : eqB w0 bRoad = false := by rw [hk2] at q; simpa using q
    rw [if_neg hk, q0] at h
    simp only [cond_false] at h
    have hold : eqB w0 bTruck = false → Ok (fun r : Convoy × Bool => r.2 = false) (
      chk (decide ((0 : Int) ≤ 0) && decide (0 < (((w0 :: r).length : Nat) : Int))) <|
      bif (((w0 :: r).getD 0 ⟨#[]⟩).toList == (⟨#[104, 111, 108, 100]⟩ : ByteArray).toList) then
        bif (decide ((c.Trucks.length : Int) > 0)) then
          chk (decide ((0 : Int) ≤ 1) && decide (1 ≤ (((w0 :: r).length : Nat) : Int)) && decide ((((w0 :: r).length : Nat) : Int) ≤ (((w0 :: r).length : Nat) : Int))) <|
          (numbers (subL (w0 :: r) 1 (((w0 :: r).length : Nat) : Int)) 2).bind fun r7 =>
          bif r7.2 then
            chk (decide (0 ≤ (w64 ((c.Trucks.length : Int) - 1))) && decide ((w64 ((c.Trucks.length : Int) - 1)) < (c.Trucks.length : Int))) <|
            chk (decide ((0 : Int) ≤ 0) && decide (0 < (r7.1.length : Int))) <|
            chk (decide ((0 : Int) ≤ 1) && decide (1 < (r7.1.length : Int))) <|
            none
          else
            some (c, r7.2)
        else
          some (c, false)
      else
        some (c, false)) := fun ht => by
      rw [ht] at h
      simp only [cond_false] at h
      refine Ok.chk c0 (Ok.ite (fun q2 => ?_) fun _ => Ok.some rfl)
      have q2 : eqB w0 bHold = true := q2
      rw [q2] at h
      simp only [cond_true] at h
      refine Ok.ite (fun q3 => ?_) fun _ => Ok.some rfl
      have hne : c.Trucks ≠ [] := fun e => by rw [e] at q3; exact absurd q3 (by decide)
      refine Ok.chk sl1 ?_
      rw [subL_one]
      rcases num_cases (m := 2) hl hm with ⟨ns, h1, h2⟩ | ⟨ns, h1⟩
      · obtain ⟨x, y, rfl⟩ := len2 h2
        rw [h1, last_at hne] at h; cases h
      · rw [h1]; exact Ok.some rfl
    refine Ok.ite (fun q => absurd q (by rw [hk2]; decide)) fun _ => ?_
    refine Ok.chk c0 ?_
    refine Ok.ite (fun q1 => ?_) (fun q1 => hold q1)
    have q1 : eqB w0 bTruck = true := q1
    have noh : eqB w0 bHold = false := by
      rw [eqB_iff.1 q1]
      exact eqB_mk wTruck wHold
    rw [q1] at h
    simp only [cond_true] at h
    have no : ∀ {x y : Option (Convoy × Bool)}, Ok (fun r => r.2 = false) y → Ok (fun r => r.2 = false) (chk (decide ((0 : Int) ≤ 0) && decide (0 < (((w0 :: r).length : Nat) : Int))) (bif (((w0 :: r).getD 0 ⟨#[]⟩).toList == (⟨#[104, 111, 108, 100]⟩ : ByteArray).toList) then x else y)) := fun hy => Ok.chk c0 (Ok.ite (fun q => by
      have q : eqB w0 bHold = true := q
      rw [noh] at q; cases q) fun _ => hy)
    refine Ok.ite (fun q2 => ?_) (fun _ => no (Ok.some rfl))
    have hl1 : 1 < (w0 :: r).length := by have := of_decide_eq_true q2; omega
    obtain ⟨w1, r', rfl⟩ := List.exists_cons_of_ne_nil (l := r) (fun e => by subst e; simp at hl1)
    simp only at h
    have hm2 : ∀ w ∈ r', w.size ≤ 1000000 := fun w hw => hm w (List.mem_cons_of_mem _ hw)
    have hl2 : r'.length ≤ 1000000 := by rw [List.length_cons] at hl; omega
    have sl2 : (decide ((0 : Int) ≤ 2) && decide ((2 : Int) ≤ (((w0 :: w1 :: r').length : Nat) : Int)) && decide ((((w0 :: w1 :: r').length : Nat) : Int) ≤ (((w0 :: w1 :: r').length : Nat) : Int))) = true := by simp; omega
    refine Ok.chk (gt_one _ hl1) ?_
    refine Ok.ite (fun q3 => ?_) (fun q3 => ?_)
    · have q3 : eqB w1 bUp = true := q3
      have q4 : eqB w1 bDown = false := by rw [eqB_iff.1 q3]; exact eqB_mk wUp wDown
      rw [q3, q4] at h
      refine Ok.chk sl2 ?_
      rw [subL_two]
      rcases num_cases (m := 3) hl2 hm2 with ⟨ns, h1, h2⟩ | ⟨ns, h1⟩
      · obtain ⟨x, y, z, rfl⟩ := len3 h2
        rw [h1] at h; cases h
      · rw [h1]; exact Ok.some rfl
    · have q3 : eqB w1 bUp = false := q3
      refine Ok.chk (gt_one _ hl1) ?_
      refine Ok.ite (fun q4 => ?_) (fun _ => no (Ok.some rfl))
      have q4 : eqB w1 bDown = true := q4
      rw [q3, q4] at h
      refine Ok.chk sl2 ?_
      rw [subL_two]
      rcases num_cases (m := 3) hl2 hm2 with ⟨ns, h1, h2⟩ | ⟨ns, h1⟩
      · obtain ⟨x, y, z, rfl⟩ := len3 h2
        rw [h1] at h; cases h
      · rw [h1]; exact Ok.some rfl
theorem map_bl_word (ns : List Int) : (ns.map word).map bl = ns.map digs := List.map_map ..
theorem all3 {a b c : Int} (h : ∀ n ∈ [a, b, c], NumOk n) : NumOk a ∧ NumOk b ∧ NumOk c := ⟨h a (by simp), h b (by simp), h c (by simp)⟩
theorem good_line {row : ByteArray} {k : Nat} {c c' : Convoy} (hs : row.size ≤ 1000000 - 1) (h : Good row k c c') : (k = 0 ∧ NumC c' ∧ lines c' = [bl row]) ∨ (k ≠ 0 ∧ (NumC c → NumC c' ∧ lines c' = lines c ++ [bl row])) := by
  have key : ∀ {ws : List ByteArray}, Words row ws → Pieces row 32 ws := fun W => W.eq ▸ pieces row 32
  cases h with
  | road w0 r a b g hk W h0 hn =>
    have P := key W
    obtain ⟨e1, e2, e3⟩ := numbers_true (by have := P.len; rw [List.length_cons] at this; omega) (fun w hw => by have := P.mem w (List.mem_cons_of_mem _ hw); omega) hn
    have h4 := all3 e3
    refine .inl ⟨hk, ⟨h4.1, h4.2.1, h4.2.2, fun t ht => by cases ht⟩, ?_⟩
    have hj := P.join
    rw [e1, eqB_iff.1 h0, List.map_cons, map_bl_word] at hj
    rw [← hj]
    show [rowB wRoad [a, b, g]] = [joinL 32 (wRoad :: [a, b, g].map digs)]
    rw [rowB_join]
  | truck w0 w1 r d s l x hk W h0 h1 hu hd hn =>
    have P := key W
    obtain ⟨e1, e2, e3⟩ := numbers_true (by have := P.len; simp only [List.length_cons] at this; omega) (fun w hw => by have := P.mem w (List.mem_cons_of_mem _ (List.mem_cons_of_mem _ hw)); omega) hn
    have h4 := all3 e3
    refine .inr ⟨hk, fun hc => ⟨⟨hc.l, hc.g, hc.f, fun t ht => ?_⟩, ?_⟩⟩
    · rcases List.mem_append.1 ht with ht | ht
      · exact hc.t t ht
      · rw [List.mem_singleton.1 ht]
        exact ⟨by cases d <;> simp, h4.1, h4.2.1, h4.2.2, fun x hx => by cases hx⟩
    · have hj := P.join
      have hw1 : w1 = mk (wayL (if d then 2 else 1)) := by
        cases d with
        | true => exact eqB_iff.1 hd
        | false => exact eqB_iff.1 hu
      rw [e1, eqB_iff.1 h1, hw1, List.map_cons, List.map_cons, map_bl_word, bl_mk] at hj
      rw [← hj]
      show roadB c :: (c.Trucks ++ [_]).flatMap linesT = (roadB c :: c.Trucks.flatMap linesT) ++ [joinL 32 (wTruck :: wayL (if d then 2 else 1) :: [s, l, x].map digs)]
      rw [List.flatMap_append, List.cons_append]
      congr 2
      rw [List.flatMap_singleton]
      show [headB _] = _
      rw [headB_join]
  | hold w0 r t x y hk W h0 h1 h2 ht hn =>
    have P := key W
    obtain ⟨e1, e2, e3⟩ := numbers_true (by have := P.len; rw [List.length_cons] at this; omega) (fun w hw => by have := P.mem w (List.mem_cons_of_mem _ hw); omega) hn
    have hx : NumOk x := e3 x (by simp)
    have hy : NumOk y := e3 y (by simp)
    have hts : c.Trucks = c.Trucks.dropLast ++ [t] := by
      have hne : c.Trucks ≠ [] := fun e => by rw [e] at ht; cases ht
      have := List.dropLast_concat_getLast hne
      rw [List.getLast?_eq_some_getLast hne] at ht
      injection ht with ht
      rw [← ht]; exact this.symm
    refine .inr ⟨hk, fun hc => ?_⟩
    generalize c.Trucks.dropLast = ts at hts
    have ha : addHold c t x y = ⟨c.Length, c.Gap, c.Fails, ts ++ [⟨t.Way, t.Start, t.Pace, t.Holds ++ [Hold.mk x y]⟩]⟩ := by
      unfold addHold
      rw [hts, List.dropLast_concat]
    rw [ha]
    have htc : NumT t := hc.t t (by rw [hts]; simp)
    refine ⟨⟨hc.l, hc.g, hc.f, fun u hu => ?_⟩, ?_⟩
    · rcases List.mem_append.1 hu with hu | hu
      · exact hc.t u (by rw [hts]; exact List.mem_append_left _ hu)
      · rw [List.mem_singleton.1 hu]
        refine ⟨htc.way, htc.s, htc.l, htc.h, fun z hz => ?_⟩
        rcases List.mem_append.1 hz with hz | hz
        · exact htc.hs z hz
        · rw [List.mem_singleton.1 hz]; exact ⟨hx, hy⟩
    · have hj := P.join
      rw [e1, eqB_iff.1 h2, List.map_cons, map_bl_word] at hj
      rw [← hj]
      unfold lines
      rw [hts, List.flatMap_append, List.flatMap_append, List.flatMap_singleton, List.flatMap_singleton]
      show roadB c :: (ts.flatMap linesT ++ (headB t :: (t.Holds ++ [Hold.mk x y]).map holdB)) = (roadB c :: (ts.flatMap linesT ++ (headB t :: t.Holds.map holdB))) ++ [joinL 32 (wHold :: [x, y].map digs)]
      rw [List.map_append, List.cons_append, List.append_assoc, List.cons_append]
      congr 4
      show [holdB _] = _
      unfold holdB
      rw [rowB_join]
theorem row_cases {row : ByteArray} (hs : row.size ≤ 1000000 - 1) (rows : List ByteArray) (k : Nat) (c : Convoy) :
    (∃ c', Good row k c c' ∧ readL (row :: rows) k c = readL rows (k + 1) c') ∨ ∃ e, readL (row :: rows) k c = some (.error e) ∧ e.2.2 = 3 := by
  cases hg : goodRow k c (Tx.splitV row bSp) with
  | some c' => exact .inl ⟨c', good_of (okS_of (by omega)) hg, readL_cons (by omega) hg⟩
  | none =>
    refine .inr ⟨(zeroC, (k : Int) + 1, 3), ?_, rfl⟩
    have P : Pieces row 32 (Tx.splitV row bSp) := pieces row 32
    obtain ⟨r, h1, h2⟩ := take_no (c := c) (k := k) (by omega) (by have := P.len; omega) hg
    show chk (Tx.okS row bSp) _ = _
    rw [okS_of (by omega), hg]
    show (takeR c k row).bind _ = _
    rw [h1]
    show (bif r.2 then _ else _) = _
    rw [h2]; rfl
theorem read_next : ∀ (rows : List ByteArray) (k : Nat) (c : Convoy), NumC c → (∀ row ∈ rows, row.size ≤ 1000000 - 1) → Ok (fun x => (∃ c', x = .ok c' ∧ NumC c' ∧ lines c' = lines c ++ rows.map bl) ∨ ∃ e, x = .error e ∧ e.2.2 = 3) (readL rows (k + 1) c)
  | [], k, c, hc, _ => Ok.some (.inl ⟨c, rfl, hc, by simp⟩)
  | row :: rows, k, c, hc, hs => by
    have h0 := hs row (List.mem_cons_self ..)
    rcases row_cases h0 rows (k + 1) c with ⟨c', h1, h2⟩ | ⟨e, h1, h2⟩
    · rw [h2]
      rcases good_line h0 h1 with ⟨h3, _⟩ | ⟨_, h3⟩
      · cases h3
      · obtain ⟨h4, h5⟩ := h3 hc
        refine (read_next rows (k + 1) c' h4 fun r hr => hs r (List.mem_cons_of_mem _ hr)).mono fun x hx => ?_
        rcases hx with ⟨c2, a1, a2, a3⟩ | hx
        · exact .inl ⟨c2, a1, a2, by rw [a3, h5, List.append_assoc]; rfl⟩
        · exact .inr hx
    · rw [h1]; exact Ok.some (.inr ⟨e, rfl, h2⟩)
theorem read_first {rows : List ByteArray} (h : rows ≠ []) (hs : ∀ row ∈ rows, row.size ≤ 1000000 - 1) : Ok (fun x => (∃ c', x = .ok c' ∧ NumC c' ∧ lines c' = rows.map bl) ∨ ∃ e, x = .error e ∧ e.2.2 = 3) (readL rows 0 zeroC) := by
  obtain ⟨row, rows, rfl⟩ := List.exists_cons_of_ne_nil h
  have h0 := hs row (List.mem_cons_self ..)
  rcases row_cases h0 rows 0 zeroC with ⟨c', h1, h2⟩ | ⟨e, h1, h2⟩
  · rw [h2]
    rcases good_line h0 h1 with ⟨_, h4, h5⟩ | ⟨h3, _⟩
    · refine (read_next rows 0 c' h4 fun r hr => hs r (List.mem_cons_of_mem _ hr)).mono fun x hx => ?_
      rcases hx with ⟨c2, a1, a2, a3⟩ | hx
      · exact .inl ⟨c2, a1, a2, by rw [a3, h5]; rfl⟩
      · exact .inr hx
    · exact absurd rfl h3
  · rw [h1]; exact Ok.some (.inr ⟨e, rfl, h2⟩)
theorem text_trucks (c : Convoy) : c.Trucks.length ≤ (textL c).length ∧ ∀ t ∈ c.Trucks, t.Holds.length ≤ (textL c).length := by
  have h1 := rows_len 10 (lines c)
  rw [← text_lines] at h1
  have h2 : (lines c).length = (c.Trucks.flatMap linesT).length + 1 := rfl
  have h3 : ∀ l : List Truck, l.length ≤ (l.flatMap linesT).length ∧ ∀ t ∈ l, t.Holds.length ≤ (l.flatMap linesT).length := fun l => by
    induction l with
    | nil => exact ⟨Nat.le_refl _, fun t h => by cases h⟩
    | cons x l ih =>
      rw [List.flatMap_cons, List.length_append, List.length_cons]
      have e : (linesT x).length = x.Holds.length + 1 := by show (x.Holds.map holdB).length + 1 = _; rw [List.length_map]
      refine ⟨by omega, fun t ht => ?_⟩
      rcases List.mem_cons.1 ht with rfl | ht
      · omega
      · have := ih.2 t ht; omega
  have h4 := h3 c.Trucks
  exact ⟨by omega, fun t ht => by have := h4.2 t ht; omega⟩
theorem Read_ok {text : ByteArray} (hs : text.size ≤ 20000) : Ok (fun r => r.2.2 ≠ 0 ∨ (NumC r.1 ∧ pCheck r.1 = some 0 ∧ textL r.1 = bl text)) (Read text) := by
  rw [Read_eq]
  unfold readF
  have P : Pieces text 10 (Tx.splitV text bNl) := pieces text 10
  generalize hr : Tx.splitV text bNl = rows at P
  rw [decide_eq_false (by omega)]
  refine Ok.chk (okS_nl (by omega)) ?_
  obtain ⟨ini, lst, rfl⟩ : ∃ a b, rows = a ++ [b] := ⟨rows.dropLast, rows.getLast P.ne, (List.dropLast_concat_getLast P.ne).symm⟩
  have hlen := P.len
  rw [List.length_append] at hlen
  have e1 : (ini ++ [lst]).length = ini.length + 1 := by rw [List.length_append]; rfl
  rw [List.getLast?_concat, List.dropLast_concat, e1]
  have hl1 : [lst].length = 1 := rfl
  refine Ok.chk (decide_eq_true (by omega)) ?_
  have hsz : ∀ row ∈ ini, row.size ≤ 1000000 - 1 := fun row hm => by have := P.mem row (List.mem_append_left _ hm); omega
  by_cases h0 : ini = []
  · subst h0
    exact Ok.some (.inl (show (3 : Int) ≠ 0 by decide))
  · refine Ok.bind (read_first h0 hsz) fun x hx => ?_
    have hpos := List.length_pos_iff.2 h0
    rcases hx with ⟨c, rfl, h1, h2⟩ | ⟨e, rfl, h1⟩
    · unfold readT
      simp only
      rw [if_neg (by omega : ¬ ini.length + 1 - 1 = 0)]
      refine Ok.ite (fun q => ?_) fun _ => Ok.some (.inl (show (3 : Int) ≠ 0 by decide))
      have hlst : bl lst = [] := by rw [eqB_iff.1 q]; rfl
      have hj := P.join
      rw [List.map_append, List.map_singleton, hlst, ← h2, join_rows, ← text_lines] at hj
      have htl : (textL c).length ≤ 20000 := by rw [hj, bl_len]; exact hs
      have ht := text_trucks c
      refine Ok.bind (P := fun e => pCheck c = some e) ?_ fun e he => ?_
      · obtain ⟨e, h4, _⟩ := pCheck_ok (c := c) (by omega) fun t h => by have := ht.2 t h; omega
        exact ⟨e, h4, h4⟩
      · refine Ok.ite (fun q => Ok.some (.inl (show e ≠ 0 by simpa using q))) fun q => Ok.some (.inr ⟨h1, ?_, hj⟩)
        rw [he, show e = 0 by simpa using q]
    · exact Ok.some (.inl (by rw [h1]; decide))
theorem Tape_true {nums : List Int} {text : ByteArray} (hn : nums.length ≤ 9223372036854775807) : Tape nums text = some true := by
  refine ok_eq ?_
  rw [Tape_eq]
  unfold Tape'
  have aw : Ok (fun r => r = true) (awake.bind fun r => some r) := by rw [awake_eq]; exact Ok.some rfl
  refine Ok.ite (fun _ => aw) fun hsz => ?_
  have hsz : text.size ≤ 2000 := by have := of_decide_eq_false hsz; omega
  refine Ok.bind (NewSeed_ok hn) fun s _ => ?_
  refine Ok.bind (ConvoyOf_made s (most := 6) (by decide) (by decide)) fun r3 h3 => ?_
  have hc := made_check (by decide) h3
  have hnum := made_num h3
  have hlen := made_len (by decide) h3
  refine Ok.beq (Write_text hc hnum hlen) ?_
  refine Ok.beq (Read_text hc hnum hlen) ?_
  have ht := h3.n
  refine Ok.ite (fun q => (nomatch (show false = true from q))) fun _ => Ok.ite (fun q => (nomatch (show false = true from q))) fun _ => Ok.ite (fun q => (nomatch (show false = true from q))) fun _ => ?_
  refine Ok.beq (Same_self (by omega) fun t h => by have := (h3.t t h).n; omega) ?_
  refine Ok.ite (fun q => (nomatch (show false = true from q))) fun _ => ?_
  refine Ok.bind (Read_ok (text := text) (by omega)) fun r7 h7 => ?_
  refine Ok.ite (fun _ => aw) fun q => ?_
  rcases h7 with h7 | ⟨h7, h8, h9⟩
  · rw [show r7.2.2 = 0 by simpa using q] at h7; exact absurd rfl h7
  · refine Ok.beq (Write_text h8 h7 (by rw [h9, bl_len]; omega)) ?_
    refine Ok.ite (fun _ => ?_) fun q => (nomatch (show true = false from q))
    refine Ok.ite (fun _ => aw) fun q => ?_
    have : ((mk (textL r7.1)).toList == text.toList) = true := eq_iff.2 (by rw [h9]; rfl)
    rw [this] at q; cases q
end Go.Proofs.Tp04
namespace Go.Proofs.YtmoiedlfimodeaaDoor
open Go Go.Ab Go.ChangeShapes Go.WideShapes Go.ChangeAt Go.RowKit
set_option maxRecDepth 100000
def allK (w : World) : Nat → Nat → Option Value := fun b o => w.cell? ⟨b, o, none⟩
theorem allK_fits (w : World) : Fits (allK w) w := fun _ _ _ h => h
theorem lv_tail {W : World} {x : String × DataW Unit} {r : List (String × DataW Unit)} {ps : List MemPlace} (h : DataW.LaidVars Tryd.prog W (x :: r) ps) : ∃ q, DataW.LaidVars Tryd.prog W r q := by
  obtain ⟨g, t, cs, fuel, p, q, _, _, _, _, h2, _⟩ := h
  exact ⟨q, h2⟩
theorem gl_ok {W : World} {name : String} {g : Nat} {cs : Array Value} {l : List D} {u : List Value} (hg : Tryd.prog.globalNamed name = some g) (hvar : W.var? Tryd.prog name = some cs) (hu : cs.toList = u) (hl : allCell l = true) (hr : RepL (allK W) γ0 sv0 l u) :
    allCell l = true ∧ ∃ u, RepL (allK W) γ0 sv0 l u ∧ ∀ j v, u[j]? = some v → allK W g j = some v :=
  ⟨hl, u, hr, fun j v hj => by
    have : W.cell? ⟨g, j, none⟩ = cs[j]? := World.var?_cell hg hvar j
    show W.cell? ⟨g, j, none⟩ = some v
    rw [this, ← hj, ← hu]; simp⟩
theorem rowSz_of {W : World} {name : String} {g : Nat} {cs : Array Value} (hg : Tryd.prog.globalNamed name = some g) (hvar : W.var? Tryd.prog name = some cs) : RowSz W g cs.size := by
  simp only [World.var?, hg, Option.bind_some] at hvar
  split at hvar
  · rename_i c t f h
    simp only [Option.some.injEq] at hvar
    subst hvar
    exact ⟨c, t, f, h, rfl⟩
  · cases hvar
theorem repL_int {κ : Nat → Nat → Option Value} {γ : Nat → Nat} {sv : Nat → Value} (k : IntKind) : ∀ zs : List Int, RepL κ γ sv (zs.map (D.int k)) (zs.map (Value.int k))
  | [] => .nil
  | z :: zs => .cons _ _ _ _ (.int k z) (repL_int k zs)
theorem cells3 : Tryd.prog.cellsOf 3 = 1 := by kernel_rfl
theorem cells9 : Tryd.prog.cellsOf 9 = 1 := by kernel_rfl
theorem cells60 : Tryd.prog.cellsOf 60 = 1 := by kernel_rfl
theorem cells101 : Tryd.prog.cellsOf 101 = 3 := by kernel_rfl
theorem cells136 : Tryd.prog.cellsOf 136 = 2 := by kernel_rfl
theorem cells137 : Tryd.prog.cellsOf 137 = 8 := by kernel_rfl
theorem cells162 : Tryd.prog.cellsOf 162 = 20 := by kernel_rfl
def pow10s : List Int := [1, 10, 100, 1000, 10000, 100000, 1000000, 10000000, 100000000, 1000000000, 10000000000, 100000000000, 1000000000000, 10000000000000, 100000000000000, 1000000000000000, 10000000000000000, 100000000000000000, 1000000000000000000, 10000000000000000000]
section
variable {W : World} {ps : List MemPlace} {r : List (String × DataW Unit)}
theorem pow_at (h : DataW.LaidVars Tryd.prog W (("internal/strconv.uint64pow10", Rows.laid_internal_strconv_uint64pow10) :: r) ps) : ∃ cs, W.var? Tryd.prog "internal/strconv.uint64pow10" = some cs ∧ cs.toList = pow10s.map (Value.int .u64) := by
  obtain ⟨g, t, cs, fuel, p, q, hg, ht, hvar, hd, _, _⟩ := h
  have hg0 : Tryd.prog.globalNamed "internal/strconv.uint64pow10" = some 2 := by kernel_rfl
  have ht0 : (Tryd.prog.globals[2]?).map (·.type) = some 162 := by kernel_rfl
  obtain rfl := Option.some.inj (hg0.symm.trans hg)
  obtain rfl := Option.some.inj (ht0.symm.trans ht)
  exact ⟨cs, hvar, Lib.cells_of_tab (zs := pow10s) Tryd.underlying162 Tryd.underlying60 cells60 cells162 hd⟩
theorem cases_at (h : DataW.LaidVars Tryd.prog W (("sastrugi/convoy.cases", Rows.laid_sastrugi_convoy_cases) :: r) ps) : ∃ cs, W.var? Tryd.prog "sastrugi/convoy.cases" = some cs ∧ cs.toList = [0, 0, 1, 0, 0, 1, 1, 1].map (Value.int .i64) := by
  obtain ⟨g, t, cs, fuel, p, q, hg, ht, hvar, hd, _, _⟩ := h
  have hg0 : Tryd.prog.globalNamed "sastrugi/convoy.cases" = some 1 := by kernel_rfl
  have ht0 : (Tryd.prog.globals[1]?).map (·.type) = some 137 := by kernel_rfl
  obtain rfl := Option.some.inj (hg0.symm.trans hg)
  obtain rfl := Option.some.inj (ht0.symm.trans ht)
  obtain ⟨xs, m, rfl, hx, hlen, hxl, he⟩ := DataW.trod_array Tryd.underlying137 hd
  have hx1 := congrArg Prod.fst hx
  simp only [Rows.laid_sastrugi_convoy_cases, DataW.agg.injEq] at hx1
  rw [cells137] at hlen
  rw [cells136] at he
  have row : ∀ i a b, i < 4 → (xs.map (·.1))[i]? = some (.agg [.lit (.int .i64 a), .lit (.int .i64 b)]) → (cs.toList.drop (i * 2)).take 2 = [Value.int .i64 a, Value.int .i64 b] := fun i a b hi hi2 => by
    rw [List.getElem?_map] at hi2
    obtain ⟨y, hy, hy2⟩ := Option.map_eq_some_iff.1 hi2
    have h1 := he i hi
    rw [hy] at h1
    obtain ⟨d, p'⟩ := y
    simp only at hy2
    subst hy2
    exact Lib.cells_of_tab (zs := [a, b]) Tryd.underlying136 Tryd.underlying3 cells3 cells136 h1
  rw [← hx1] at row
  have r0 := row 0 0 0 (by decide) rfl
  have r1 := row 1 1 0 (by decide) rfl
  have r2 := row 2 0 1 (by decide) rfl
  have r3 := row 3 1 1 (by decide) rfl
  refine ⟨cs, hvar, ?_⟩
  generalize cs.toList = l at hlen r0 r1 r2 r3
  rcases l with _ | ⟨c0, _ | ⟨c1, _ | ⟨c2, _ | ⟨c3, _ | ⟨c4, _ | ⟨c5, _ | ⟨c6, _ | ⟨c7, _ | ⟨c8, l⟩⟩⟩⟩⟩⟩⟩⟩⟩ <;> simp at hlen
  simp at r0 r1 r2 r3
  obtain ⟨rfl, rfl⟩ := r0
  obtain ⟨rfl, rfl⟩ := r1
  obtain ⟨rfl, rfl⟩ := r2
  obtain ⟨rfl, rfl⟩ := r3
  rfl
theorem ways_at (h : DataW.LaidVars Tryd.prog W (("sastrugi/convoy.ways", Rows.laid_sastrugi_convoy_ways) :: r) ps) : ∃ cs, W.var? Tryd.prog "sastrugi/convoy.ways" = some cs ∧ cs.toList = [.string ⟨#[]⟩, .string ⟨#[117, 112]⟩, .string ⟨#[100, 111, 119, 110]⟩] := by
  obtain ⟨g, t, cs, fuel, p, q, hg, ht, hvar, hd, _, _⟩ := h
  have hg0 : Tryd.prog.globalNamed "sastrugi/convoy.ways" = some 0 := by kernel_rfl
  have ht0 : (Tryd.prog.globals[0]?).map (·.type) = some 101 := by kernel_rfl
  obtain rfl := Option.some.inj (hg0.symm.trans hg)
  obtain rfl := Option.some.inj (ht0.symm.trans ht)
  obtain ⟨xs, m, rfl, hx, hlen, hxl, he⟩ := DataW.trod_array Tryd.underlying101 hd
  have hx1 := congrArg Prod.fst hx
  simp only [Rows.laid_sastrugi_convoy_ways, DataW.agg.injEq] at hx1
  rw [cells101] at hlen
  rw [cells9] at he
  have row : ∀ i (b : List UInt8), i < 3 → (xs.map (·.1))[i]? = some (.lit (.string b)) → (cs.toList.drop (i * 1)).take 1 = [Value.string ⟨b.toArray⟩] := fun i b hi hi2 => by
    rw [List.getElem?_map] at hi2
    obtain ⟨y, hy, hy2⟩ := Option.map_eq_some_iff.1 hi2
    have h1 := he i hi
    rw [hy] at h1
    obtain ⟨d, p'⟩ := y
    simp only at hy2
    subst hy2
    obtain ⟨s, e1, e2, _⟩ := DataW.trod_string Tryd.underlying9 h1
    rw [e1]
    have e3 := congrArg Prod.fst e2
    simp only [DataW.lit.injEq, Lit.string.injEq] at e3
    subst e3
    simp
  rw [← hx1] at row
  have r0 := row 0 [] (by decide) rfl
  have r1 := row 1 [117, 112] (by decide) rfl
  have r2 := row 2 [100, 111, 119, 110] (by decide) rfl
  refine ⟨cs, hvar, ?_⟩
  generalize cs.toList = l at hlen r0 r1 r2
  rcases l with _ | ⟨c0, _ | ⟨c1, _ | ⟨c2, _ | ⟨c3, l⟩⟩⟩⟩ <;> simp at hlen
  simp at r0 r1 r2
  subst r0 r1 r2
  rfl
end
theorem nn_of {H : Type} {enc : TypeId × Value → H} {P : Program} {w : World} {base : Nat} {spare : Nat → Bool} {held : Bool} {fuel : Nat} {t : TypeId} {ms : Array (String × TypeId)} {cs : List Value} {name : String} {d : DataW H} {ps : List MemPlace}
    (ht : P.underlying t = some (.interface ms)) (h : DataW.trod enc P w base spare held fuel t cs = some (.iface name d, ps)) : ∃ u v, cs = [.iface u v] := by
  cases fuel with
  | zero => simp [DataW.trod] at h
  | succ n =>
    rcases cs with _ | ⟨v, _ | ⟨v2, r⟩⟩
    · simp [DataW.trod, ht] at h
    · cases v with
      | iface u v => exact ⟨u, v, rfl⟩
      | _ => simp [DataW.trod, ht] at h
    · simp [DataW.trod, ht] at h
section
variable {W : World} {ps : List MemPlace} {r : List (String × DataW Unit)}
theorem er_at {name : String} {n : Nat} {nm : String} {d : DataW Unit} (hg0 : Tryd.prog.globalNamed name = some n) (ht0 : (Tryd.prog.globals[n]?).map (·.type) = some 95) (h : DataW.LaidVars Tryd.prog W ((name, .iface nm d) :: r) ps) : ∃ cs u v, W.var? Tryd.prog name = some cs ∧ cs.toList = [.iface u v] := by
  obtain ⟨g, t, cs, fuel, p, q, hg, ht, hvar, hd, _, _⟩ := h
  obtain rfl := Option.some.inj (hg0.symm.trans hg)
  obtain rfl := Option.some.inj (ht0.symm.trans ht)
  obtain ⟨u, v, e⟩ := nn_of Tryd.underlying95 hd
  exact ⟨cs, u, v, hvar, e⟩
end
theorem glob_of {W : World} (h : laidMetH Tryd.prog [("math/bits.deBruijn32tab", Rows.laid_math_bits_deBruijn32tab), ("math/bits.deBruijn64tab", Rows.laid_math_bits_deBruijn64tab), ("internal/strconv.uint64pow10", Rows.laid_internal_strconv_uint64pow10), ("unicode/utf8.acceptRanges", Rows.laid_unicode_utf8_acceptRanges), ("strconv.ErrRange", Rows.laid_strconv_ErrRange), ("strconv.ErrSyntax", Rows.laid_strconv_ErrSyntax), ("sastrugi/convoy.cases", Rows.laid_sastrugi_convoy_cases), ("sastrugi/convoy.ways", Rows.laid_sastrugi_convoy_ways), ("unicode/utf8.first", Rows.laid_unicode_utf8_first)] W) (hsh : W.ShapedOpen Tryd.prog) : GlobOk iseat.toSeat (allK W) W := by
  have h' : laidMet Tryd.prog [("math/bits.deBruijn32tab", Rows.laid_math_bits_deBruijn32tab), ("math/bits.deBruijn64tab", Rows.laid_math_bits_deBruijn64tab), ("internal/strconv.uint64pow10", Rows.laid_internal_strconv_uint64pow10), ("unicode/utf8.acceptRanges", Rows.laid_unicode_utf8_acceptRanges), ("strconv.ErrRange", Rows.laid_strconv_ErrRange), ("strconv.ErrSyntax", Rows.laid_strconv_ErrSyntax), ("sastrugi/convoy.cases", Rows.laid_sastrugi_convoy_cases), ("sastrugi/convoy.ways", Rows.laid_sastrugi_convoy_ways), ("unicode/utf8.first", Rows.laid_unicode_utf8_first)] W := h
  obtain ⟨ps, h0, _⟩ := h'
  obtain ⟨_, h1⟩ := lv_tail h0
  obtain ⟨_, h2⟩ := lv_tail h1
  obtain ⟨_, h3⟩ := lv_tail h2
  obtain ⟨_, h4⟩ := lv_tail h3
  obtain ⟨_, h5⟩ := lv_tail h4
  obtain ⟨_, h6⟩ := lv_tail h5
  obtain ⟨_, h7⟩ := lv_tail h6
  obtain ⟨c2, v2, u2⟩ := pow_at h2
  obtain ⟨c1, v1, u1⟩ := cases_at h6
  obtain ⟨c0, v0, u0⟩ := ways_at h7
  obtain ⟨c7, t7, p7, v7, u7⟩ := er_at (n := 7) (by kernel_rfl) (by kernel_rfl) h4
  obtain ⟨c6, t6, p6, v6, u6⟩ := er_at (n := 6) (by kernel_rfl) (by kernel_rfl) h5
  obtain ⟨m, hm⟩ := cell_of_shapedOpen_int (g := 3) (t := 3) (zero := #[.int .i64 0]) (k := .i64) hsh (of_decide_eq_true (by kernel_rfl)) (by kernel_rfl) rfl (by kernel_rfl) (by kernel_rfl) Tryd.underlying3
  constructor
  · intro g l hl
    have hl' : globs g = some l := hl
    unfold globs at hl'
    split at hl'
    · simp only [Option.some.injEq] at hl'
      subst hl'
      exact gl_ok (name := "sastrugi/convoy.ways") (by kernel_rfl) v0 u0 rfl (.cons _ _ _ _ (.str _) (.cons _ _ _ _ (.str _) (.cons _ _ _ _ (.str _) .nil)))
    · simp only [Option.some.injEq] at hl'
      subst hl'
      exact gl_ok (name := "sastrugi/convoy.cases") (by kernel_rfl) v1 u1 rfl (repL_int .i64 [0, 0, 1, 0, 0, 1, 1, 1])
    · simp only [Option.some.injEq] at hl'
      subst hl'
      exact gl_ok (name := "internal/strconv.uint64pow10") (by kernel_rfl) v2 u2 rfl (repL_int .u64 pow10s)
    · simp only [Option.some.injEq] at hl'
      subst hl'
      refine ⟨rfl, [.int .i64 m], .cons _ _ _ _ (.lk _ _ ⟨m, rfl⟩) .nil, fun j v hj => ?_⟩
      rcases j with _ | j
      · cases hj; exact hm
      · cases hj
    · simp only [Option.some.injEq] at hl'
      subst hl'
      exact gl_ok (name := "strconv.ErrSyntax") (by kernel_rfl) v6 u6 rfl (.cons _ _ _ _ (.lk _ _ ⟨t6, p6, rfl⟩) .nil)
    · simp only [Option.some.injEq] at hl'
      subst hl'
      exact gl_ok (name := "strconv.ErrRange") (by kernel_rfl) v7 u7 rfl (.cons _ _ _ _ (.lk _ _ ⟨t7, p7, rfl⟩) .nil)
    · cases hl'
  · intro g n hn
    have hn' : gszs g = some n := hn
    unfold gszs at hn'
    split at hn'
    · simp only [Option.some.injEq] at hn'
      subst hn'
      have h5 := rowSz_of (name := "internal/strconv.uint64pow10") (g := 2) (by kernel_rfl) v2
      have h6 : c2.size = 20 := by
        have := congrArg List.length u2
        simpa [pow10s] using this
      rw [h6] at h5
      exact h5
    · cases hn'
section
variable {H : Type} {enc : TypeId × Value → H} {W : World}
def Rd {α : Type} (enc : TypeId × Value → H) (W : World) (t : TypeId) (ec : α → List D) : Prop :=
  ∀ n cs x, DataW.trod enc Tryd.prog W 0 (fun _ => true) true n t cs = some x → ∃ a : α, RepL (allK W) γ0 sv0 (ec a) cs
theorem rd_int : Rd enc W 3 encI := by
  intro n cs x h
  obtain ⟨a, rfl, _⟩ := DataW.trod_int Tryd.underlying3 h
  exact ⟨a, .cons _ _ _ _ (.int _ _) .nil⟩
theorem rd_slice {α : Type} [Inhabited α] {t e z : Nat} {ec : α → List D} (ht : Tryd.prog.underlying t = some (.slice e)) (hz : Tryd.prog.cellsOf e = z) (hz0 : 0 < z) (hl : ∀ a, (ec a).length = z)
    (hc : ∀ a, allCell (ec a) = true) (hr : Rd enc W e ec) : Rd enc W t (fun l : List α => [slOf z ec l]) := by
  intro n cs x h
  rcases Deep.open_slice ht h with ⟨rfl, rfl⟩ | ⟨a, len, cap, m, n', D, Pl, rfl, _, hlc, _, hm, rfl, hx⟩
  · exact ⟨[], .cons _ _ _ _ (.sl0 _ _) .nil⟩
  · simp only [if_true] at hm
    subst hm
    rw [hz] at hx
    rcases Nat.eq_zero_or_pos len with rfl | hpos
    · exact ⟨[], .cons _ _ _ _ (.slE _ _ _ _) .nil⟩
    · have hx' : ∀ i, i < len → ∃ p : α × List Value, W.cells? 0 (a.add (i * z)) z = some p.2 ∧ RepL (allK W) γ0 sv0 (ec p.1) p.2 := fun i hi => by
        obtain ⟨cs', h1, h2⟩ := hx i (by omega)
        obtain ⟨b, hb⟩ := hr _ _ _ h2
        exact ⟨(b, cs'), h1, hb⟩
      obtain ⟨F, hF⟩ := Deep.choose_lt hx'
      have hsp : a.spot = none := by
        obtain ⟨_, h1, h2⟩ := World.cells?_some (hF 0 hpos).1
        have h3 := h2 0 hz0
        rw [List.getElem?_eq_getElem (by omega)] at h3
        simpa [Addr.add] using World.cell?_spot h3
      obtain ⟨b, off, sp⟩ := a
      simp only at hsp
      subst hsp
      refine ⟨(List.range len).map (fun i => (F i).1), .cons _ _ _ _ ?_ .nil⟩
      have hlen : ((List.range len).map (fun i => (F i).1)).length = len := by simp
      have hg : ∀ i, i < len → ((List.range len).map (fun i => (F i).1)).getD i default = (F i).1 := fun i hi => by simp [List.getD, hi]
      unfold slOf
      rw [hlen]
      refine .sl z len _ b off m (fun i => (F i).2) hlc (fun i _ => hl _) (fun i _ => hc _) (fun i hi => by rw [hg i hi]; exact (hF i hi).2) (fun i j v hi hj => ?_)
      obtain ⟨_, h1, h2⟩ := World.cells?_some (hF i hi).1
      have hjl := (List.getElem?_eq_some_iff.1 hj).1
      have h3 := h2 j (by omega)
      rw [add_plain, add_plain, hj] at h3
      exact h3
theorem arg_ints {v : Value} {d : DataW H} {ps : List MemPlace} {base : Nat} (hv : Value.okWide Tryd.prog W .any base 22 v) (h : DataW.Trod enc Tryd.prog W 0 (fun _ => true) true 22 v d ps) :
    ∃ l : List Int, Rep (allK W) γ0 sv0 (slOf 1 encI l) v := by
  obtain ⟨n, hn⟩ := h
  obtain ⟨l, hl⟩ := rd_slice (ec := encI) Tryd.underlying22 cells3 (by decide) (fun _ => rfl) (fun _ => rfl) rd_int _ _ _ hn
  obtain ⟨a0, len, cap, rfl⟩ := okWide_slice Tryd.underlying22 hv
  cases hl with
  | cons _ _ _ _ k _ => exact ⟨l, k⟩
theorem arg_str {v : Value} {d : DataW H} {ps : List MemPlace} {base : Nat} (hv : Value.okWide Tryd.prog W .any base 9 v) (h : DataW.Trod enc Tryd.prog W 0 (fun _ => true) true 9 v d ps) :
    ∃ s : ByteArray, Rep (allK W) γ0 sv0 (.str s) v := by
  obtain ⟨n, hn⟩ := h
  obtain ⟨s, e, _⟩ := DataW.trod_string Tryd.underlying9 hn
  cases v with
  | string s => exact ⟨s, .str _⟩
  | agg cs => simp [Value.okWide, Cell.okWide, Cell.ok, Tryd.underlying9] at hv
  | _ => simp [Value.cells] at e
end
theorem ints_len {κ : Nat → Nat → Option Value} {γ : Nat → Nat} {sv : Nat → Value} {W : World} {base : Nat} {v : Value} {l : List Int} (hv : Value.okWide Tryd.prog W .any base 22 v) (h : Rep κ γ sv (slOf 1 encI l) v) : l.length ≤ 9223372036854775807 := by
  unfold slOf at h
  generalize hn : l.length = n at h
  cases h with
  | sl0 => omega
  | slE => omega
  | sl _ _ _ b off cap u hc =>
    simp only [Value.okWide, Cell.okWide, Cell.ok, Tryd.underlying22] at hv
    have h1 := hv.2.1
    have h2 : IntKind.i64.max = 9223372036854775807 := by decide
    rw [h2] at h1
    omega
theorem laidOut : laidOutB Tryd.prog = true := by kernel_rfl
theorem own : ownKnob Tryd.prog.godebug = none := by kernel_rfl
theorem trodAll_stays {H : Type} {enc : TypeId × Value → H} {W W' : World} {sp' : Nat → Bool} (hb : Below W.heap.size W W') : ∀ {ts : List TypeId} {vs : List Value} {ds : List (DataW H)} {ps : List MemPlace},
    (∀ t ∈ ts, Tryd.prog.readableRec t = true ∧ t < Tryd.prog.types.size) → DataW.TrodAll enc Tryd.prog W 0 (fun _ => true) true ts vs ds ps → (∀ p ∈ ps, p.block < W.heap.size) → (∀ p ∈ ps, sp' p.block = true) →
    DataW.TrodAll enc Tryd.prog W' 0 sp' true ts vs ds ps
  | [], [], [], _, _, h, _, _ => h
  | _ :: _, _ :: _, _ :: _, _, hT, ⟨p, q, h1, h2, e⟩, hlt, hs => ⟨p, q,
      WideElems.Trod_stays laidOut (hT _ (List.mem_cons_self ..)).1 (hT _ (List.mem_cons_self ..)).2 h1 (fun x hx => hb.same (hlt x (by rw [e]; exact List.mem_append_left _ hx))) (fun x hx => hs x (by rw [e]; exact List.mem_append_left _ hx)),
      trodAll_stays hb (fun t ht => hT t (List.mem_cons_of_mem _ ht)) h2 (fun x hx => hlt x (by rw [e]; exact List.mem_append_right _ hx)) (fun x hx => hs x (by rw [e]; exact List.mem_append_right _ hx)), e⟩
theorem post_yes {H : Type} {enc : TypeId × Value → H} {f : Func} {s : ChangeSpec} {W W' : World} {args : Array Value} {ds gs : List (DataW H)} {before : List MemPlace}
    (hW : DataW.Whole enc Tryd.prog f.params.toList s.vars false W args.toList ds gs before) (hv : s.vars = []) (hb : Below W.heap.size W W')
    (hT : ∀ t ∈ f.params.toList, Tryd.prog.readableRec t = true ∧ t < Tryd.prog.types.size) (hrt : f.resultTypes = #[4])
    (hr : (s.fn H (ds ++ gs)).results = [.lit (.bool true)]) (ha : (s.fn H (ds ++ gs)).args = ds) (hvs : (s.fn H (ds ++ gs)).vars = []) :
    s.post enc Tryd.prog f false true false false W args (.bool true) W' := by
  have hlt := hW.lt
  have hW2 := hW
  obtain ⟨p, q, hA, hV, rfl, _, _⟩ := hW
  rw [hv] at hV
  obtain ⟨rfl, rfl⟩ := trodVars_none hV
  refine ⟨ds, [], p ++ [], [], p, [], hW2, ?_, ?_, ?_, hb.frame _, fun h => by cases h⟩
  · rw [hr, hrt]
    exact trodAll_mk1 (shut_bool Tryd.underlying4 _)
  · rw [ha]
    exact trodAll_stays hb hT hA (fun x hx => hlt x (by simpa using hx)) (fun x hx => by simpa using hlt x (by simpa using hx))
  · rw [hvs, hv]; rfl
def layV (l : List Value) : Obj → Obj
  | .cells _ t frozen => .cells l.toArray t frozen
  | o => o
def deB32 : List Int := [0, 1, 28, 2, 29, 14, 24, 3, 30, 22, 20, 15, 25, 17, 4, 8, 31, 27, 13, 23, 21, 19, 16, 7, 26, 12, 18, 6, 11, 5, 10, 9]
def deB64 : List Int := [0, 1, 56, 2, 57, 49, 28, 3, 61, 58, 42, 50, 38, 29, 17, 4, 62, 47, 59, 36, 45, 43, 51, 22, 53, 39, 33, 30, 24, 18, 12, 5, 63, 55, 48, 27, 60, 41, 37, 16, 46, 35, 44, 21, 52, 32, 23, 11, 54, 26, 40, 15, 34, 20, 31, 10, 25, 14, 19, 9, 13, 8, 7, 6]
def acc : List Int := [128, 191, 160, 191, 128, 159, 144, 191, 128, 143, 0, 0, 0, 0, 0, 0, 0, 0, 0, 0, 0, 0, 0, 0, 0, 0, 0, 0, 0, 0, 0, 0]
def rangeS : ByteArray := ⟨#[118, 97, 108, 117, 101, 32, 111, 117, 116, 32, 111, 102, 32, 114, 97, 110, 103, 101]⟩
def synS : ByteArray := ⟨#[105, 110, 118, 97, 108, 105, 100, 32, 115, 121, 110, 116, 97, 120]⟩
noncomputable def low : Nat := (World.holding Tryd.prog default ⟨#[], #[], []⟩).heap.size
noncomputable def laidWorld (os : Os) : World :=
  { World.holding Tryd.prog os ⟨#[.cells #[.string rangeS] 191, .cells #[.string synS] 191], #[], []⟩ with heap := (((((((((World.holding Tryd.prog os ⟨#[.cells #[.string rangeS] 191, .cells #[.string synS] 191], #[], []⟩).heap.modify 0 (layV [.string ⟨#[]⟩, .string ⟨#[117, 112]⟩, .string ⟨#[100, 111, 119, 110]⟩])).modify 1 (layV ([0, 0, 1, 0, 0, 1, 1, 1].map (Value.int .i64)))).modify 2 (layV (pow10s.map (Value.int .u64)))).modify 4 (layV (Go.Pinned.utf8FirstZ.map fun (n : Nat) => Value.int .u8 (n : Int)))).modify 5 (layV (acc.map (Value.int .u8)))).modify 6 (layV [.iface 189 (.pointer (some ⟨low + 1, 0, none⟩))])).modify 7 (layV [.iface 189 (.pointer (some ⟨low, 0, none⟩))])).modify 8 (layV (deB32.map (Value.int .u8)))).modify 9 (layV (deB64.map (Value.int .u8))) }
end Go.Proofs.YtmoiedlfimodeaaDoor
