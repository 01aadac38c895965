/- Walks by computing: what each function of the program that the laws reach gives for what it gets, as plain Lean, and that it is so; without a condition but those that stand in each theorem. -/
import Derived.Test.YtbkogeihjcnejaaGreatDoorW1
import Derived.Test.YtbkogeihjcnejaaGreatDoorW2
import Derived.Test.YtbkogeihjcnejaaGreatDoorW3
import Derived.Test.YtbkogeihjcnejaaGreatDoorW4
import Derived.Test.YtbkogeihjcnejaaGreatDoorW5
import Derived.Test.YtbkogeihjcnejaaGreatDoorW6
import Derived.Test.YtbkogeihjcnejaaGreatDoorW7
import Derived.Test.YtbkogeihjcnejaaGreatDoorW8
import Derived.Test.YtbkogeihjcnejaaGreatDoorW9
import Derived.Test.YtbkogeihjcnejaaGreatDoorW10
import Derived.Test.YtbkogeihjcnejaaGreatDoorW11
import Derived.Test.YtbkogeihjcnejaaGreatDoorW12
import Derived.Test.YtbkogeihjcnejaaGreatDoorW13
import Derived.Test.YtbkogeihjcnejaaGreatDoorW14
import Derived.Test.YtbkogeihjcnejaaGreatDoorW15
set_option linter.all false
namespace Go.Proofs.Tp09
open Go Go.Ab
set_option linter.all false
set_option maxRecDepth 100000
def word (n : Int) : ByteArray := mk (digs n)
theorem from_lt : ∀ (l : List UInt8) (acc n : Nat), Lib.decFrom acc l = some n → n < (acc + 1) * 10 ^ l.length
 | [], acc, n, h => by
  simp only [Lib.decFrom, Option.some.injEq] at h
  subst h; simp
 | b :: l, acc, n, h => by
  simp only [Lib.decFrom] at h
  split at h
  ·rename_i d hd
   have h1 := from_lt l _ n h
   have h9 : d ≤ 9 := by
    unfold Lib.digitVal at hd
    split at hd
    ·cases hd; omega
    ·cases hd
   rw [List.length_cons, Nat.pow_succ]
   refine Nat.lt_of_lt_of_le h1 ?_
   rw [Nat.mul_comm (10 ^ l.length) 10, ← Nat.mul_assoc]
   exact Nat.mul_le_mul_right _ (by omega)
  ·cases h
theorem decNat_lt {l : List UInt8} {m : Nat} (h : Lib.decNat l = some m) (hl : l.length ≤ 6) : m ≤ 999999 := by
 unfold Lib.decNat at h
 split at h
 ·cases h
 ·have h1 := from_lt l 0 m h
  have h2 : 10 ^ l.length ≤ 10 ^ 6 := Nat.pow_le_pow_right (by decide) hl
  have h3 : (10 : Nat) ^ 6 = 1000000 := by decide
  omega
theorem atoi_le {l : List UInt8} {n : Int} (h : Lib.atoi l = some n) (hl : l.length ≤ 6) : n ≤ 999999 := by
 cases l with
 | nil => cases h
 | cons b r =>
  rw [List.length_cons] at hl
  simp only [Lib.atoi] at h
  split at h
  ·obtain ⟨m, h1, h2⟩ := Option.map_eq_some_iff.1 h
   omega
  ·split at h
   ·obtain ⟨m, h1, h2⟩ := Option.map_eq_some_iff.1 h
    have := decNat_lt h1 (by omega)
    omega
   ·obtain ⟨m, h1, h2⟩ := Option.map_eq_some_iff.1 h
    have := decNat_lt h1 (by rw [List.length_cons]; omega)
    omega
theorem atoiV_le {w : ByteArray} {n : Int} (h : Tx.atoiV w = (n, true)) (hl : w.size ≤ 6) : n ≤ 999999 := by
 have hl2 : (bl w).length ≤ 6 := by
  have : (bl w).length = w.size := by show w.data.toList.length = w.data.size; simp
  omega
 unfold Tx.atoiV at h
 have h3 := Lib.atoiAll_short (bl w) (by omega)
 rw [show Lib.atoiAll w.data.toList = _ from h3] at h
 cases ha : Lib.atoi (bl w) with
 | none =>
  rw [ha] at h
  cases h
 | some v =>
  rw [ha] at h
  cases h
  exact atoi_le ha hl2
def isNum (w : ByteArray) : Prop := ∃ n, NumOk n ∧ w = word n
theorem word_inj {m n : Int} (hm : NumOk m) (hn : NumOk n) (h : word m = word n) : m = n := by
 have h1 := atoi_digs hm.1 hm.2
 have h2 := atoi_digs hn.1 hn.2
 rw [show mk (digs m) = mk (digs n) from h, h2] at h1
 injection h1 with h1
 exact h1.symm
theorem map_take_snoc {ws : List ByteArray} {j : Nat} (h : j < ws.length) : ws.take (j + 1) = ws.take j ++ [ws.getD j ⟨#[]⟩] := take_snoc h
theorem numbers_ok {ws : List ByteArray} {m : Int} (hl : ws.length ≤ 1000000) (hs : ∀ w ∈ ws, w.size ≤ 1000000) : Ok (fun r => (r.2 = true ∧ ws = r.1.map word ∧ (r.1.length : Int) = m ∧ ∀ n ∈ r.1, NumOk n) ∨ (r.2 = false ∧ ((ws.length : Int) ≠ m ∨ ∃ w ∈ ws, ¬ isNum w))) (numbers ws m) := by
 rw [numbers_eq]
 unfold numbers'
 refine Ok.ite (fun q => Ok.some (.inr ⟨rfl, .inl (by simpa using q)⟩)) (fun q => ?_)
 have hm : (ws.length : Int) = m := by simpa using q
 refine Ok.rounds (inv := fun v => ∃ j : Nat, j ≤ ws.length ∧ v.1.2.1 = (j : Int) ∧ v.1.1.length = j ∧ ws.take j = v.1.1.map word ∧ ∀ n ∈ v.1.1, NumOk n) (μ := fun v => ws.length - v.1.2.1.toNat) (by show ws.length - 0 < FUEL; unfold FUEL; omega) ⟨0, Nat.zero_le _, rfl, rfl, rfl, fun n h => by cases h⟩ ?_
 rintro ⟨⟨out, x, u⟩, u2⟩ kn ⟨j, hj, e1, e2, e3, e4⟩ hk
 simp only at e1 e2 e3 e4 ⊢
 subst e1
 unfold numbers_L5
 rw [show ((j : Int)).toNat = j by omega]
 refine Ok.ite (fun hlt => ?_) (fun hge => ?_)
 ·have hlt : j < ws.length := by have := of_decide_eq_true hlt; omega
  refine Ok.chk (idx_ok hlt) ?_
  have hmem := getD_mem' (d := (⟨#[]⟩ : ByteArray)) hlt
  generalize hw : ws.getD j (⟨#[]⟩ : ByteArray) = w at hmem
  have hsz := hs w hmem
  have no : (¬ isNum w) → (False ∨ ((false = false) ∧ ((ws.length : Int) ≠ m ∨ ∃ w ∈ ws, ¬ isNum w))) := fun h => .inr ⟨rfl, .inr ⟨w, hmem, h⟩⟩
  have bad : (¬ isNum w) → Ok (fun r : List Int × Bool => (r.2 = true ∧ ws = r.1.map word ∧ (r.1.length : Int) = m ∧ ∀ n ∈ r.1, NumOk n) ∨ (r.2 = false ∧ ((ws.length : Int) ≠ m ∨ ∃ w ∈ ws, ¬ isNum w))) (some (([] : List Int), false)) := fun h => Ok.some (.inr ⟨rfl, .inr ⟨w, hmem, h⟩⟩)
  refine Ok.bind (P := fun r => r = Tx.atoiV w) ⟨_, by unfold Tx.atoiP; rw [show Tx.okA w = true from decide_eq_true (by omega)]; rfl, rfl⟩ fun r hr => ?_
  have key : isNum w → ∃ n, NumOk n ∧ w = word n ∧ r = (n, true) := fun ⟨n, h1, h2⟩ => ⟨n, h1, h2, by rw [hr, h2]; exact atoi_digs h1.1 h1.2⟩
  refine Ok.ite (fun q1 => bad fun hn => ?_) (fun q1 => ?_)
  ·obtain ⟨n, _, _, h⟩ := key hn
   rw [h] at q1; cases q1
  have q1 : r.2 = true := by simpa using q1
  refine Ok.ite (fun q2 => bad fun hn => ?_) (fun q2 => ?_)
  ·obtain ⟨n, h1, _, h⟩ := key hn
   rw [h] at q2
   have := of_decide_eq_true q2
   have := h1.1
   omega
  have q2 : 0 ≤ r.1 := by have := of_decide_eq_false q2; omega
  refine Ok.ite (fun q3 => bad fun hn => ?_) (fun q3 => ?_)
  ·obtain ⟨n, h1, h2, h⟩ := key hn
   have h3 := of_decide_eq_true q3
   have h4 := digs_len h1.1 h1.2
   rw [h2, word, mk_size] at h3
   omega
  have q3 : w.size ≤ 6 := by have := of_decide_eq_false q3; omega
  have hno : NumOk r.1 := ⟨q2, atoiV_le (w := w) (by rw [← hr, ← q1]) q3⟩
  refine Ok.bind (P := fun r2 => r2 = word r.1) ⟨_, by unfold Tx.itoaP; rw [okI_of hno]; rfl, rfl⟩ fun r2 hr2 => ?_
  subst hr2
  refine Ok.ite (fun q4 => bad fun hn => ?_) (fun q4 => ?_)
  ·obtain ⟨n, h1, h2, h⟩ := key hn
   rw [h, ← h2] at q4
   simp at q4
  have q4 : word r.1 = w := eq_iff.1 (by simpa using q4)
  refine Ok.chk (by unfold fitA; simp; omega) ?_
  refine hk _ ⟨j + 1, hlt, ?_, ?_, ?_, ?_⟩ ?_
  ·show w64 ((j : Int) + 1) = _
   rw [w64_id (by omega) (by omega)]; push_cast; rfl
  ·show (out ++ [r.1]).length = _
   rw [List.length_append, e2]; rfl
  ·show _ = (out ++ [r.1]).map word
   rw [map_take_snoc hlt, hw, e3, List.map_append, List.map_singleton, q4]
  ·intro n hn
   rcases List.mem_append.1 hn with h | h
   ·exact e4 n h
   ·rw [List.mem_singleton.1 h]; exact hno
  ·show ws.length - (w64 ((j : Int) + 1)).toNat < ws.length - ((j : Int)).toNat
   rw [w64_id (by omega) (by omega)]; omega
 ·have hjn : j = ws.length := by have := of_decide_eq_false hge; omega
  refine Ok.some (.inl ⟨rfl, ?_, ?_, e4⟩)
  ·rw [← e3, hjn, List.take_length]
  ·show (out.length : Int) = m
   omega
theorem numbers_true {ws : List ByteArray} {m : Int} {ns : List Int} (hl : ws.length ≤ 1000000) (hs : ∀ w ∈ ws, w.size ≤ 1000000) (h : numbers ws m = some (ns, true)) : ws = ns.map word ∧ (ns.length : Int) = m ∧ ∀ n ∈ ns, NumOk n := by
 obtain ⟨r, h1, h2⟩ := numbers_ok (m := m) hl hs
 rw [h] at h1
 cases h1
 rcases h2 with ⟨_, b⟩ | ⟨a, _⟩
 ·exact b
 ·cases a
end Go.Proofs.Tp09
namespace Go.Proofs.Tp09
open Go Go.Ab
set_option linter.all false
set_option maxRecDepth 100000
def rowB (w : List UInt8) (ns : List Int) : List UInt8 := w ++ ns.flatMap numL
def headB (d : Driver) : List UInt8 := rowB (wDriver ++ 32 :: bl d.Name) [d.Skills]
def turnB (t : Turn) : List UInt8 := rowB wTurn (turnNs t)
def linesD (d : Driver) : List (List UInt8) := headB d :: d.Turns.map turnB
def endB (n : Int) : List UInt8 := rowB wEnd [n]
def lines (l : List Driver) : List (List UInt8) := l.flatMap linesD ++ [endB (cnt l)]
theorem rows_app (c : UInt8) (a b : List (List UInt8)) : rowsL c (a ++ b) = rowsL c a ++ rowsL c b := List.flatMap_append
theorem rows_turns : ∀ hs : List Turn, rowsL 10 (hs.map turnB) = hs.flatMap turnL
 | [] => rfl
 | h :: hs => by
  show (turnB h ++ [10]) ++ rowsL 10 (hs.map turnB) = turnL h ++ hs.flatMap turnL
  rw [rows_turns hs]; rfl
theorem rows_drivers : ∀ ts : List Driver, rowsL 10 (ts.flatMap linesD) = ts.flatMap driverL
 | [] => rfl
 | t :: ts => by
  rw [List.flatMap_cons, List.flatMap_cons, rows_app, rows_drivers ts]
  congr 1
  show (headB t ++ [10]) ++ rowsL 10 (t.Turns.map turnB) = driverL t
  rw [rows_turns]; rfl
theorem text_lines (l : List Driver) : textL l = rowsL 10 (lines l) := by
 unfold lines
 rw [rows_app, rows_drivers]
 show bodyL l ++ endL (cnt l) = bodyL l ++ ((endB (cnt l) ++ [10]) ++ [])
 rw [List.append_nil]; rfl
theorem rowB_join : ∀ (ns : List Int) (w : List UInt8), rowB w ns = joinL 32 (w :: ns.map digs)
 | [], w => by show w ++ [] = w; rw [List.append_nil]
 | n :: ns, w => by
  show _ = w ++ 32 :: joinL 32 (digs n :: ns.map digs)
  rw [← rowB_join ns (digs n)]
  unfold rowB
  rw [List.flatMap_cons]; rfl
theorem headB_join (d : Driver) : headB d = joinL 32 (wDriver :: bl d.Name :: [d.Skills].map digs) := by
 show _ = wDriver ++ 32 :: joinL 32 (bl d.Name :: [d.Skills].map digs)
 rw [← rowB_join]
 unfold headB rowB
 rw [List.append_assoc]; rfl
theorem one_ok {a : Int} (ha : NumOk a) : ∀ n ∈ [a], NumOk n := fun n h => List.mem_singleton.1 h ▸ ha
theorem eqB_iff {s t : ByteArray} : eqB s t = true ↔ s = t := eq_iff
theorem okS_of {s : ByteArray} (h : s.size ≤ 1000000) : Tx.okS s bSp = true := by
 unfold Tx.okS
 rw [decide_eq_true (by omega), show decide (1 ≤ bSp.size) = true from rfl]; rfl
theorem readL_cons {row : ByteArray} {rows : List ByteArray} {k : Nat} {c c' : Reader} (ho : row.size ≤ 1000000) (hg : goodRow k c (Tx.splitV row bSp) = some c') : readL (row :: rows) k c = readL rows (k + 1) c' := by
 show chk (Tx.okS row bSp) _ = _
 rw [okS_of ho, hg]; rfl
theorem okS_nl {s : ByteArray} (h : s.size ≤ 1000000) : Tx.okS s bNl = true := by
 unfold Tx.okS
 rw [decide_eq_true (by omega), show decide (1 ≤ bNl.size) = true from rfl]; rfl
end Go.Proofs.Tp09
namespace Go.Proofs.Tp09
open Go Go.Ab
open Go.Proofs.Crew (within moment within_sp DOk)
set_option linter.all false
set_option maxRecDepth 100000
theorem moment_any (x : Span) : Ok (fun _ => True) (Crew.moment x) := by
 rw [Crew.moment_eq]
 unfold Crew.moment'
 rw [within_sp, within_sp]
 simp only [Option.bind_some]
 generalize (decide (0 ≤ x.Lo) && decide (x.Lo ≤ 3000)) = a
 generalize (decide (0 ≤ x.Hi) && decide (x.Hi ≤ 3000)) = b
 generalize decide (x.Lo > x.Hi) = c
 cases a <;> cases b <;> cases c <;> exact ⟨_, rfl, trivial⟩
theorem turns_any {d : Driver} (hl : d.Turns.length ≤ 1000000) : Ok (fun (_ : Int) => True) (itN _ (fun (v_0 : (Unit × Int × Unit) × (Unit)) kn => Crew.pCheck_L10__3 d v_0.1.2.1 (fun y0 => kn (((), y0, ()), (())))) (((), 0, ()), (()))) := by
 refine Ok.rounds (inv := fun v => ∃ j : Nat, j ≤ d.Turns.length ∧ v.1.2.1 = (j : Int)) (μ := fun v => d.Turns.length - v.1.2.1.toNat) (by show d.Turns.length - 0 < FUEL; unfold FUEL; omega) ⟨0, Nat.zero_le _, rfl⟩ ?_
 rintro ⟨⟨u1, x, u4⟩, u5⟩ kn ⟨j, hj, e1⟩ hk
 simp only at e1 ⊢
 subst e1
 unfold Crew.pCheck_L10__3
 refine Ok.ite (fun hlt => ?_) (fun _ => Ok.some trivial)
 have hlt : j < d.Turns.length := by have := of_decide_eq_true hlt; omega
 refine Ok.chk (idx_ok hlt) ?_
 have go : Ok (fun _ => True) (kn ((u1, w64 ((j : Int) + 1), u4), u5)) := by
  have e : w64 ((j : Int) + 1) = ((j + 1 : Nat) : Int) := by rw [w64_id (by omega) (by omega)]; push_cast; rfl
  refine hk _ ⟨j + 1, hlt, e⟩ ?_
  show d.Turns.length - (w64 ((j : Int) + 1)).toNat < d.Turns.length - ((j : Int)).toNat
  rw [e]; omega
 refine Ok.bind (moment_any _) fun _ _ => Ok.ite (fun _ => Ok.some trivial) fun _ => ?_
 refine Ok.bind (moment_any _) fun _ _ => Ok.ite (fun _ => Ok.some trivial) fun _ => ?_
 refine Ok.ite (fun _ => Ok.some trivial) fun _ => Ok.ite (fun q => ?_) fun _ => go
 have h0 : 0 < j := by have := of_decide_eq_true q; omega
 have e : w64 ((j : Int) - 1) = ((j - 1 : Nat) : Int) := by rw [w64_id (by omega) (by omega)]; omega
 rw [e]
 exact Ok.chk (idx_ok (by omega)) (Ok.ite (fun _ => Ok.some trivial) fun _ => go)
theorem check_any {d : Driver} (hl : d.Turns.length ≤ 1000000) (hn : d.Name.size ≤ 1000000) : Ok (fun _ => True) (Crew.pCheck d) := by
 rw [Crew.pCheck_eq]
 unfold Crew.pCheck'
 refine Ok.ite (fun q => Ok.ite (fun _ => Ok.some trivial) fun q2 => ?_) fun q => ?_
 ·rw [q] at q2; cases q2
 refine Ok.ite (fun q => Ok.ite (fun _ => Ok.some trivial) fun q2 => ?_) fun q => ?_
 ·rw [q] at q2; cases q2
 have ht : Tx.trim d.Name Crew.az = some (Tx.trimV d.Name Crew.az) := by rw [Tx.trim_eq, show Tx.okTrim d.Name Crew.az = true by unfold Tx.okTrim; rw [decide_eq_true (by omega)]; rfl]; rfl
 refine Ok.bind (P := fun _ => True) ⟨_, ht, trivial⟩ fun _ _ => ?_
 refine Ok.ite (fun _ => Ok.some trivial) fun _ => ?_
 rw [within_sp]
 refine Ok.bind (P := fun _ => True) ⟨_, rfl, trivial⟩ fun _ _ => Ok.ite (fun _ => Ok.some trivial) fun _ => Ok.ite (fun _ => Ok.some trivial) fun _ => turns_any hl
theorem checks_any {l : List Driver} (hh : ∀ d ∈ l, d.Turns.length ≤ 1000000 ∧ d.Name.size ≤ 1000000) : Ok (fun e => l.length ≤ 4 → (∀ d ∈ l, DOk d) → e = 0) (pChecks l) := by
 rw [pChecks_eq]
 unfold pChecks'
 refine Ok.ite (fun q => Ok.some fun h => ?_) fun q => ?_
 ·have := of_decide_eq_true q; omega
 have q := of_decide_eq_false q
 refine Ok.rounds (inv := fun v => ∃ j : Nat, j ≤ l.length ∧ v.1.1 = (j : Int)) (μ := fun v => l.length - v.1.1.toNat) (by show l.length - 0 < FUEL; unfold FUEL; omega) ⟨0, Nat.zero_le _, rfl⟩ ?_
 rintro ⟨⟨x, u4⟩, u5⟩ kn ⟨j, hj, e1⟩ hk
 simp only at e1 ⊢
 subst e1
 unfold pChecks_L4
 rw [show ((j : Int)).toNat = j by omega]
 refine Ok.ite (fun hlt => ?_) (fun _ => Ok.some fun _ _ => rfl)
 have hlt : j < l.length := by have := of_decide_eq_true hlt; omega
 refine Ok.chk (idx_ok hlt) ?_
 have hmem := getD_mem' (d := dfltDriver) hlt
 obtain ⟨e0, h0, _⟩ := check_any (hh _ hmem).1 (hh _ hmem).2
 refine Ok.bind (P := fun r => r = e0) ⟨_, h0, rfl⟩ fun r hr => Ok.ite (fun q2 => Ok.some fun _ hd => ?_) fun _ => ?_
 ·rw [Crew.pCheck_ok (hd _ hmem)] at h0
  cases h0; exact hr
 ·have e : w64 ((j : Int) + 1) = ((j + 1 : Nat) : Int) := by rw [w64_id (by omega) (by omega)]; push_cast; rfl
  refine hk _ ⟨j + 1, hlt, e⟩ ?_
  show l.length - (w64 ((j : Int) + 1)).toNat < l.length - ((j : Int)).toNat
  rw [e]; omega
structure BMade (l : List Driver) : Prop where
 n : l.length ≤ 4
 d : ∀ d ∈ l, ∃ name : ByteArray, NameG name ∧ DMade name 6 d
theorem flat_len {α : Type} {f : α → List UInt8} {K : Nat} : ∀ l : List α, (∀ x ∈ l, (f x).length ≤ K) → (l.flatMap f).length ≤ K * l.length
 | [], _ => Nat.zero_le _
 | x :: l, h => by
  have h1 := h x (List.mem_cons_self ..)
  have h2 := flat_len l fun y hy => h y (List.mem_cons_of_mem _ hy)
  rw [List.flatMap_cons, List.length_append, List.length_cons, Nat.mul_succ]
  omega
theorem rowL_len {w : List UInt8} {ns : List Int} (h : ∀ n ∈ ns, NumOk n) : (rowL w ns).length ≤ w.length + 7 * ns.length + 1 := by
 have := nums_len ns h
 unfold rowL
 simp only [List.length_append, List.length_cons, List.length_nil]; omega
theorem Same_self {l : List Driver} (hl : l.length ≤ 1000000) (hh : ∀ t ∈ l, t.Turns.length ≤ 1000000) : Same l l = some true := by
 refine Crew.ok_eq ?_
 rw [Same_eq]
 unfold Same'
 refine Ok.ite (fun q => by simp at q) fun _ => ?_
 refine Ok.rounds (inv := fun v => ∃ j : Nat, j ≤ l.length ∧ v.1.1 = (j : Int)) (μ := fun v => l.length - v.1.1.toNat) (by show l.length - 0 < FUEL; unfold FUEL; omega) ⟨0, Nat.zero_le _, rfl⟩ ?_
 rintro ⟨⟨x, u4⟩, u5⟩ kn ⟨j, hj, e1⟩ hk
 simp only at e1 ⊢
 subst e1
 unfold Same_L4
 rw [show ((j : Int)).toNat = j by omega]
 refine Ok.ite (fun hlt => ?_) (fun _ => Ok.some rfl)
 have hlt : j < l.length := by have := of_decide_eq_true hlt; omega
 have hmem := getD_mem' (d := dfltDriver) hlt
 have hb := hh _ hmem
 have ix := idx_ok hlt
 refine Ok.chk ix (Ok.chk ix (Ok.ite (fun q => by simp at q) fun _ => Ok.chk ix (Ok.chk ix (Ok.ite (fun q => by simp at q) fun _ => Ok.chk ix (Ok.chk ix (Ok.ite (fun q => by simp at q) fun _ => ?_))))))
 have e : w64 ((j : Int) + 1) = ((j + 1 : Nat) : Int) := by rw [w64_id (by omega) (by omega)]; push_cast; rfl
 have go : Ok (fun r => r = true) (kn ((w64 ((j : Int) + 1), u4), u5)) := by
  refine hk _ ⟨j + 1, hlt, e⟩ ?_
  show l.length - (w64 ((j : Int) + 1)).toNat < l.length - ((j : Int)).toNat
  rw [e]; omega
 refine Ok.rounds (inv := fun v => ∃ i : Nat, i ≤ (l.getD j dfltDriver).Turns.length ∧ v.1.1 = (i : Int)) (μ := fun v => (l.getD j dfltDriver).Turns.length - v.1.1.toNat) (by show (l.getD j dfltDriver).Turns.length - 0 < FUEL; unfold FUEL; omega) ⟨0, Nat.zero_le _, rfl⟩ ?_
 rintro ⟨⟨y, w5⟩, w6⟩ kn2 ⟨i, hi, e1⟩ hk2
 simp only at e1 ⊢
 subst e1
 unfold Same_L9
 rw [show ((j : Int)).toNat = j by omega, show ((i : Int)).toNat = i by omega]
 refine Ok.chk ix (Ok.ite (fun hlt2 => ?_) (fun _ => go))
 have hlt2 : i < (l.getD j dfltDriver).Turns.length := by have := of_decide_eq_true hlt2; omega
 refine Ok.chk ix (Ok.chk (idx_ok hlt2) (Ok.chk ix (Ok.chk (idx_ok hlt2) (Ok.ite (fun q => by simp at q) fun _ => ?_))))
 have e2 : w64 ((i : Int) + 1) = ((i + 1 : Nat) : Int) := by rw [w64_id (by omega) (by omega)]; push_cast; rfl
 refine hk2 _ ⟨i + 1, hlt2, e2⟩ ?_
 show (l.getD j dfltDriver).Turns.length - (w64 ((i : Int) + 1)).toNat < (l.getD j dfltDriver).Turns.length - ((i : Int)).toNat
 rw [e2]; omega
end Go.Proofs.Tp09
namespace Go.Proofs.Tp09
open Go Go.Ab
set_option linter.all false
set_option maxRecDepth 100000
theorem consH_len (b : UInt8) {l : List (List UInt8)} (h : l ≠ []) : (consH b l).length = l.length := by
 cases l with
 | nil => exact absurd rfl h
 | cons _ _ => rfl
theorem split_len (c : UInt8) : ∀ l : List UInt8, (splitL c l).length ≤ l.length + 1
 | [] => Nat.le_refl _
 | b :: l => by
  have ih := split_len c l
  unfold splitL
  split
  ·show (splitL c l).length + 1 ≤ l.length + 1 + 1; omega
  ·rw [consH_len _ (splitL_ne c l)]; exact Nat.le_succ_of_le ih
theorem split_mem (c : UInt8) : ∀ (l : List UInt8) (w : List UInt8), w ∈ splitL c l → w.length ≤ l.length
 | [], w, h => by
  rw [show splitL c [] = [[]] from rfl] at h
  rw [List.mem_singleton.1 h]; exact Nat.le_refl _
 | b :: l, w, h => by
  have ih := split_mem c l
  unfold splitL at h
  split at h
  ·rcases List.mem_cons.1 h with rfl | h
   ·exact Nat.zero_le _
   ·exact Nat.le_succ_of_le (ih w h)
  ·generalize hp : splitL c l = p at ih h
   cases p with
   | nil => exact absurd hp (splitL_ne c l)
   | cons y r =>
    rcases List.mem_cons.1 h with rfl | h
    ·exact Nat.succ_le_succ (ih y (List.mem_cons_self ..))
    ·exact Nat.le_succ_of_le (ih w (List.mem_cons_of_mem _ h))
structure Pieces (s : ByteArray) (c : UInt8) (ws : List ByteArray) : Prop where
 ne : ws ≠ []
 len : ws.length ≤ s.size + 1
 mem : ∀ w ∈ ws, w.size ≤ s.size
 join : joinL c (ws.map bl) = bl s
theorem pieces (s : ByteArray) (c : UInt8) : Pieces s c (Tx.splitV s ⟨#[c]⟩) := by
 rw [splitV_eq]
 refine ⟨?_, ?_, fun w hw => ?_, ?_⟩
 ·have := splitL_ne c (bl s)
  intro h
  exact this (List.map_eq_nil_iff.1 h)
 ·rw [List.length_map, ← bl_len]; exact split_len c _
 ·obtain ⟨x, hx, rfl⟩ := List.mem_map.1 hw
  rw [mk_size, ← bl_len]
  exact split_mem c _ _ hx
 ·rw [List.map_map]
  rw [show (bl ∘ mk) = id from rfl, List.map_id]
  exact join_split c _
theorem subL_one {α : Type} (w : α) (r : List α) : subL (w :: r) 1 (((w :: r).length : Nat) : Int) = r := by
 show (List.take ((((w :: r).length : Nat) : Int)).toNat (w :: r)).drop 1 = r
 rw [Int.toNat_natCast, List.take_length]; rfl
theorem num_cases {r : List ByteArray} {m : Int} (hl : r.length ≤ 1000000) (hs : ∀ w ∈ r, w.size ≤ 1000000) : (∃ ns, numbers r m = some (ns, true) ∧ (ns.length : Int) = m) ∨ ∃ ns, numbers r m = some (ns, false) := by
 obtain ⟨⟨ns, b⟩, h1, h2⟩ := numbers_ok (m := m) hl hs
 rcases h2 with ⟨a, _, h3, _⟩ | ⟨a, _⟩
 ·cases a; exact .inl ⟨ns, h1, h3⟩
 ·cases a; exact .inr ⟨ns, h1⟩
theorem len1 {ns : List Int} (h : (ns.length : Int) = 1) : ∃ a, ns = [a] := by
 match ns, h with
 | [a], _ => exact ⟨a, rfl⟩
 | [], h => cases h
 | _ :: _ :: _, h => simp only [List.length_cons] at h; omega
theorem len4 {ns : List Int} (h : (ns.length : Int) = 4) : ∃ a b c d, ns = [a, b, c, d] := by
 match ns, h with
 | [a, b, c, d], _ => exact ⟨a, b, c, d, rfl⟩
 | [], h => cases h
 | [_], h => cases h
 | [_, _], h => cases h
 | [_, _, _], h => cases h
 | _ :: _ :: _ :: _ :: _ :: _, h => simp only [List.length_cons] at h; omega
theorem no_of {r : Reader} {x : Option (Reader × Bool)} (h : Ok (fun y => y.2 = false) x) : no x = some () := by
 obtain ⟨y, rfl, h⟩ := h
 unfold no
 show (bif y.2 then none else some ()) = _
 rw [h]; rfl
theorem driver_no {k : Nat} {r : Reader} {w0 : ByteArray} {ws : List ByteArray} (hl : ws.length ≤ 1000000) (hm : ∀ w ∈ ws, w.size ≤ 1000000) (he : decide (r.end_ > 0) = false) (h0 : eqB w0 bDriver = true) (h : goodRow k r (w0 :: ws) = none) : Ok (fun y => y.2 = false) (driverR r ws) := by
 rw [driverR_eq]
 unfold driverR'
 refine Ok.ite (fun _ => Ok.some rfl) fun q => ?_
 cases ws with
 | nil => exact absurd q (by decide)
 | cons w1 r' =>
  refine Ok.chk (idx_ok (k := 0) (by simp)) (Ok.ite (fun _ => Ok.some rfl) fun q1 => ?_)
  have q1 : eqB w1 ⟨#[]⟩ = false := q1
  refine Ok.chk (by simp; omega) ?_
  rw [subL_one]
  rcases num_cases (r := r') (m := 1) (by rw [List.length_cons] at hl; omega) (fun w hw => hm w (List.mem_cons_of_mem _ hw)) with ⟨ns, h1, h2⟩ | ⟨ns, h1⟩
  ·obtain ⟨x, rfl⟩ := len1 h2
   unfold goodRow at h
   simp only at h
   rw [he, h0, q1, h1] at h
   cases h
  ·rw [h1]; exact Ok.some rfl
theorem turn_no {k : Nat} {r : Reader} {w0 : ByteArray} {ws : List ByteArray} (hl : ws.length ≤ 1000000) (hm : ∀ w ∈ ws, w.size ≤ 1000000) (he : decide (r.end_ > 0) = false) (h0 : eqB w0 bDriver = false) (h1 : eqB w0 bTurn = true) (h : goodRow k r (w0 :: ws) = none) : Ok (fun y => y.2 = false) (turnR r ws) := by
 rw [turnR_eq]
 unfold turnR'
 rcases num_cases (m := 4) hl hm with ⟨ns, h2, h3⟩ | ⟨ns, h2⟩
 ·obtain ⟨a, b, c, d, rfl⟩ := len4 h3
  refine Crew.Ok.beq h2 (Ok.ite (fun q => (nomatch (show false = true from q))) fun _ => Ok.ite (fun _ => Ok.some rfl) fun q => ?_)
  have hne : r.drivers ≠ [] := fun e => by rw [e] at q; exact absurd q (by decide)
  unfold goodRow at h
  simp only at h
  rw [he, h0, h1, h2, last_at hne] at h
  cases h
 ·rw [h2]; exact Ok.some rfl
theorem end_no {k : Nat} {r : Reader} {w0 : ByteArray} {ws : List ByteArray} (hl : ws.length ≤ 1000000) (hm : ∀ w ∈ ws, w.size ≤ 1000000) (he : decide (r.end_ > 0) = false) (h0 : eqB w0 bDriver = false) (h1 : eqB w0 bTurn = false) (h2 : eqB w0 bEnd = true) (h : goodRow k r (w0 :: ws) = none) : Ok (fun y => y.2 = false) (endedR r ws) := by
 rw [endedR_eq]
 unfold endedR'
 rcases num_cases (m := 1) hl hm with ⟨ns, h3, h4⟩ | ⟨ns, h3⟩
 ·obtain ⟨a, rfl⟩ := len1 h4
  unfold goodRow at h
  simp only at h
  rw [he, h0, h1, h2, h3] at h
  cases h
 ·rw [h3]; exact Ok.some rfl
theorem bad_ok {k : Nat} {r : Reader} {w0 : ByteArray} {ws : List ByteArray} (hl : ws.length ≤ 1000000) (hm : ∀ w ∈ ws, w.size ≤ 1000000) (h : goodRow k r (w0 :: ws) = none) : badRow r (w0 :: ws) = some () := by
 unfold badRow
 simp only
 cases h0 : eqB w0 bDriver with
 | true =>
  cases he : decide (r.end_ > 0) with
  | true => rfl
  | false => exact no_of (r := r) (driver_no hl hm he h0 h)
 | false =>
  cases h1 : eqB w0 bTurn with
  | true =>
   cases he : decide (r.end_ > 0) with
   | true => rfl
   | false => exact no_of (r := r) (turn_no hl hm he h0 h1 h)
  | false =>
   cases h2 : eqB w0 bEnd with
   | true =>
    cases he : decide (r.end_ > 0) with
    | true => rfl
    | false => exact no_of (r := r) (end_no hl hm he h0 h1 h2 h)
   | false => rfl
theorem map_bl_word (ns : List Int) : (ns.map word).map bl = ns.map digs := List.map_map ..
structure Inv (r : Reader) (ls : List (List UInt8)) : Prop where
 n : ∀ d ∈ r.drivers, NumW d
 t : r.turns = (cnt r.drivers : Int)
 e : 0 ≤ r.end_
 l : ls = r.drivers.flatMap linesD ++ (if r.end_ > 0 then [endB r.sum] else [])
theorem good_line {row : ByteArray} {k : Nat} {r r' : Reader} {ls : List (List UInt8)} (hs : row.size ≤ 1000000 - 1) (h : Good row k r r') (hi : Inv r ls) : Inv r' (ls ++ [bl row]) := by
 have key : ∀ {ws : List ByteArray}, Words row ws → Pieces row 32 ws := fun W => W.eq ▸ pieces row 32
 obtain ⟨i1, i2, i3, i4⟩ := hi
 cases h with
 | driver w0 w1 r' p he W h0 h1 hn =>
  have P := key W
  obtain ⟨e1, e2, e3⟩ := numbers_true (by have := P.len; simp only [List.length_cons] at this; omega) (fun w hw => by have := P.mem w (List.mem_cons_of_mem _ (List.mem_cons_of_mem _ hw)); omega) hn
  have he := of_decide_eq_false he
  rw [if_neg he, List.append_nil] at i4
  have hj := P.join
  rw [e1, eqB_iff.1 h0, List.map_cons, List.map_cons, map_bl_word] at hj
  refine ⟨fun d hd => ?_, ?_, i3, ?_⟩
  ·rcases List.mem_append.1 hd with hd | hd
   ·exact i1 d hd
   ·rw [List.mem_singleton.1 hd]
    exact ⟨e3 p (by simp), fun t ht => by cases ht⟩
  ·show r.turns = ((cnt (r.drivers ++ [(⟨w1, p, []⟩ : Driver)]) : Nat) : Int)
   rw [cnt_app, i2]; rfl
  ·show _ = (r.drivers ++ [(⟨w1, p, []⟩ : Driver)]).flatMap linesD ++ (if r.end_ > 0 then _ else _)
   rw [if_neg he, List.append_nil, List.flatMap_append, List.flatMap_singleton, i4, ← hj]
   congr 1
   show _ = [headB _]
   rw [headB_join]; rfl
 | turn w0 ws t a b c d he W h0 hl hn =>
  have P := key W
  obtain ⟨e1, e2, e3⟩ := numbers_true (by have := P.len; rw [List.length_cons] at this; omega) (fun w hw => by have := P.mem w (List.mem_cons_of_mem _ hw); omega) hn
  have he := of_decide_eq_false he
  rw [if_neg he, List.append_nil] at i4
  have hj := P.join
  rw [e1, eqB_iff.1 h0, List.map_cons, map_bl_word] at hj
  obtain ⟨ts, hts⟩ := List.getLast?_eq_some_iff.1 hl
  have e : (addTurn r t (mkTurn a b c d)).drivers = ts ++ [⟨t.Name, t.Skills, t.Turns ++ [mkTurn a b c d]⟩] := by unfold addTurn; rw [hts, List.dropLast_concat]
  have hT := i1 t (by rw [hts]; simp)
  refine ⟨fun x hx => ?_, ?_, i3, ?_⟩
  ·rw [e] at hx
   rcases List.mem_append.1 hx with hx | hx
   ·exact i1 x (by rw [hts]; exact List.mem_append_left _ hx)
   ·rw [List.mem_singleton.1 hx]
    refine ⟨hT.s, fun y hy => ?_⟩
    rcases List.mem_append.1 hy with hy | hy
    ·exact hT.t y hy
    ·rw [List.mem_singleton.1 hy]; exact e3
  ·rw [e, cnt_app]
   show r.turns + 1 = ((cnt ts + ((t.Turns ++ [mkTurn a b c d]).length + 0) : Nat) : Int)
   rw [i2, hts, cnt_app, List.length_append]
   show ((cnt ts + (t.Turns.length + 0) : Nat) : Int) + 1 = ((cnt ts + (t.Turns.length + 1 + 0) : Nat) : Int)
   omega
  ·rw [e]
   show _ = _ ++ (if r.end_ > 0 then _ else _)
   rw [if_neg he, List.append_nil, List.flatMap_append, List.flatMap_singleton, i4, ← hj, hts, List.flatMap_append, List.flatMap_singleton, List.append_assoc]
   congr 1
   show (headB t :: t.Turns.map turnB) ++ _ = headB t :: (t.Turns ++ [mkTurn a b c d]).map turnB
   rw [List.map_append, List.cons_append]
   congr 2
   show _ = [turnB _]
   unfold turnB
   rw [rowB_join]; rfl
 | fin w0 ws p he W h0 hn =>
  have P := key W
  obtain ⟨e1, e2, e3⟩ := numbers_true (by have := P.len; rw [List.length_cons] at this; omega) (fun w hw => by have := P.mem w (List.mem_cons_of_mem _ hw); omega) hn
  have he := of_decide_eq_false he
  rw [if_neg he, List.append_nil] at i4
  have hj := P.join
  rw [e1, eqB_iff.1 h0, List.map_cons, map_bl_word] at hj
  refine ⟨i1, i2, by show 0 ≤ (k : Int) + 1; omega, ?_⟩
  show _ = _ ++ (if (k : Int) + 1 > 0 then [endB p] else [])
  rw [if_pos (by omega), i4, ← hj]
  congr 1
  show _ = [endB _]
  unfold endB
  rw [rowB_join]; rfl
theorem row_cases {row : ByteArray} (hs : row.size ≤ 1000000 - 1) (rows : List ByteArray) (k : Nat) (r : Reader) :
  (∃ r', Good row k r r' ∧ readL (row :: rows) k r = readL rows (k + 1) r') ∨ readL (row :: rows) k r = some (.error ([], (k : Int) + 1, 3)) := by
 cases hg : goodRow k r (Tx.splitV row bSp) with
 | some r' => exact .inl ⟨r', good_of (okS_of (by omega)) hg, readL_cons (by omega) hg⟩
 | none =>
  refine .inr ?_
  have P : Pieces row 32 (Tx.splitV row bSp) := pieces row 32
  show chk (Tx.okS row bSp) _ = _
  rw [okS_of (by omega), hg]
  obtain ⟨w0, ws, hw⟩ := List.exists_cons_of_ne_nil P.ne
  rw [hw] at P hg
  show (badRow r (Tx.splitV row bSp)).bind _ = _
  rw [hw, bad_ok (by have := P.len; rw [List.length_cons] at this; omega) (fun w hm => by have := P.mem w (List.mem_cons_of_mem _ hm); omega) hg]
  rfl
theorem read_rows : ∀ (rows : List ByteArray) (k : Nat) (r : Reader) (ls : List (List UInt8)), Inv r ls → (∀ row ∈ rows, row.size ≤ 1000000 - 1) → Ok (fun x => (∃ r', x = .ok r' ∧ Inv r' (ls ++ rows.map bl)) ∨ ∃ n, x = .error ([], n, 3)) (readL rows k r)
 | [], k, r, ls, hi, _ => Ok.some (.inl ⟨r, rfl, by rw [List.map_nil, List.append_nil]; exact hi⟩)
 | row :: rows, k, r, ls, hi, hs => by
  have h0 := hs row (List.mem_cons_self ..)
  rcases row_cases h0 rows k r with ⟨r', h1, h2⟩ | h1
  ·rw [h2]
   refine (read_rows rows (k + 1) r' _ (good_line h0 h1 hi) fun x hx => hs x (List.mem_cons_of_mem _ hx)).mono fun x hx => ?_
   rcases hx with ⟨r2, a1, a2⟩ | hx
   ·refine .inl ⟨r2, a1, ?_⟩
    rw [List.append_assoc] at a2
    exact a2
   ·exact .inr hx
  ·rw [h1]; exact Ok.some (.inr ⟨_, rfl⟩)
theorem Read_ok {text : ByteArray} (hs : text.size ≤ 10000) : Ok (fun r => (r.2.2 ≠ 0 ∧ r.1 = []) ∨ (r.2.2 = 0 ∧ (∀ d ∈ r.1, NumW d) ∧ pChecks r.1 = some 0 ∧ textL r.1 = bl text)) (Read text) := by
 rw [Read_eq]
 unfold readF
 have P : Pieces text 10 (Tx.splitV text bNl) := pieces text 10
 generalize hr : Tx.splitV text bNl = rows at P
 rw [decide_eq_false (by omega)]
 refine Ok.chk (okS_nl (by omega)) ?_
 obtain ⟨ini, lst, rfl⟩ : ∃ a b, rows = a ++ [b] := ⟨rows.dropLast, rows.getLast P.ne, (List.dropLast_concat_getLast P.ne).symm⟩
 have hlen := P.len
 rw [List.length_append] at hlen
 have e1 : (ini ++ [lst]).length = ini.length + 1 := by rw [List.length_append]; rfl
 rw [List.getLast?_concat, List.dropLast_concat, e1]
 have hl1 : [lst].length = 1 := rfl
 refine Ok.chk (decide_eq_true (by omega)) ?_
 have hsz : ∀ row ∈ ini, row.size ≤ 1000000 - 1 := fun row hm => by have := P.mem row (List.mem_append_left _ hm); omega
 refine Ok.bind (read_rows ini 0 zeroR [] ⟨fun d h => (by cases h), rfl, Int.le_refl _, rfl⟩ hsz) fun x hx => ?_
 have no3 : ∀ n : Int, Ok (fun r : List Driver × Int × Int => (r.2.2 ≠ 0 ∧ r.1 = []) ∨ (r.2.2 = 0 ∧ (∀ d ∈ r.1, NumW d) ∧ pChecks r.1 = some 0 ∧ textL r.1 = bl text)) (some ([], n, 3)) := fun n => Ok.some (.inl ⟨(show (3 : Int) ≠ 0 by decide), rfl⟩)
 rcases hx with ⟨r, rfl, h1, h2, h3, h4⟩ | ⟨n, rfl⟩
 ·unfold readT
  simp only
  refine Ok.ite (fun _ => no3 _) fun q0 => ?_
  have q0 : r.end_ ≠ 0 := by simpa using q0
  refine Ok.ite (fun q => ?_) fun _ => no3 _
  refine Ok.ite (fun _ => Ok.some (.inl ⟨(show (12 : Int) ≠ 0 by decide), rfl⟩)) fun q2 => ?_
  have q2 : r.sum = r.turns := by simpa using q2
  have hlst : bl lst = [] := by rw [eqB_iff.1 q]; rfl
  have hj := P.join
  rw [if_pos (by omega), q2, h2, List.nil_append] at h4
  rw [List.map_append, List.map_singleton, hlst, h4, join_rows, show r.drivers.flatMap linesD ++ [endB (cnt r.drivers : Int)] = lines r.drivers from rfl, ← text_lines] at hj
  have htl : (textL r.drivers).length ≤ 10000 := by rw [hj, bl_len]; exact hs
  have hd : ∀ d ∈ r.drivers, d.Turns.length ≤ 1000000 ∧ d.Name.size ≤ 1000000 := fun d hd => by
   have a := flat_mem driverL hd
   have b := flat_cnt turnL turn_pos d.Turns
   have c : (driverL d).length = (headL d).length + (d.Turns.flatMap turnL).length := List.length_append
   have e : d.Name.size ≤ (headL d).length := by
    rw [← bl_len]
    show _ ≤ (((wDriver ++ 32 :: bl d.Name) ++ [d.Skills].flatMap numL) ++ [10]).length
    simp only [List.length_append, List.length_cons]; omega
   have f : (textL r.drivers).length = (r.drivers.flatMap driverL).length + (endL (cnt r.drivers)).length := List.length_append
   omega
  refine Ok.bind (P := fun e => pChecks r.drivers = some e) ?_ fun e he => ?_
  ·obtain ⟨e, h4, _⟩ := checks_any hd
   exact ⟨e, h4, h4⟩
  ·refine Ok.ite (fun q => Ok.some (.inl ⟨(show e ≠ 0 by simpa using q), rfl⟩)) fun q => Ok.some (.inr ⟨rfl, h1, ?_, hj⟩)
   rw [he, show e = 0 by simpa using q]
 ·exact no3 n
end Go.Proofs.Tp09
namespace Go.Proofs.Tp09
open Go Go.Ab
open Go.Proofs.YtbkogeihjcnejaaGreatDoor (iseat)
set_option linter.all false
set_option maxRecDepth 100000
noncomputable section
def outside' (it : It Bool) (n : Int) (low : Int) (high : Int) : Option Bool :=
 bif (decide (n < low)) then
 some true
 else
 some (decide (n > high))
def outside : Int → Int → Int → Option Bool := opq (fun n low high => outside' itN n low high)
theorem outside_eq (n : Int) (low : Int) (high : Int) : outside n low high = outside' itN n low high := by unfold outside; rw [opq_eq]
def E66 : FEnv iseat := ⟨⟨15, [], [], [], [], [], [], [], [], [], [], [], [], true⟩, []⟩
theorem e66 (it : It Bool) (n : Int) (low : Int) (high : Int) : fnRun (ts := [.bool]) it E66 (bodyOf Tryz.f66) Tryz.f66.results.toList (encA [.int .i64, .int .i64, .int .i64] (n, low, high, ())) = outside' it n low high := by kernel_rfl
def sp66 : FnSpec iseat.toSeat := mkSpec iseat.toSeat 66 [.int .i64, .int .i64, .int .i64] [.bool] true (fun a => outside a.1 a.2.1 a.2.2.1) (fun a x hx h h' => fn_contract (E := E66) Tryz.func66 (by kernel_rfl) (by kernel_rfl) (by kernel_rfl) (by kernel_rfl) rfl ((e66 itN a.1 a.2.1 a.2.2.1).trans ((outside_eq a.1 a.2.1 a.2.2.1).symm.trans hx)) h h') (fun _ x => rfl)
def rSpan' (it : It Int) (x : Span) : Option Int :=
 (outside x.Lo 0 3000).bind fun r =>
 bif r then
 some 2
 else
 (outside x.Hi 0 3000).bind fun r2 =>
 bif r2 then
 some 2
 else
 bif (decide (x.Lo > x.Hi)) then
 some 11
 else
 some 0
def rSpan : Span → Option Int := opq (fun x => rSpan' itN x)
theorem rSpan_eq (x : Span) : rSpan x = rSpan' itN x := by unfold rSpan; rw [opq_eq]
def E67 : FEnv iseat := ⟨⟨16, [sp66], [], [], [], [], [], [], [], [], [], [], [], true⟩, []⟩
theorem e67 (it : It Int) (x : Span) : fnRun (ts := [.int .i64]) it E67 (bodyOf Tryz.f67) Tryz.f67.results.toList (encA [.Span] (x, ())) = rSpan' it x := by kernel_rfl
def sp67 : FnSpec iseat.toSeat := mkSpec iseat.toSeat 67 [.Span] [.int .i64] true (fun a => rSpan a.1) (fun a x hx h h' => fn_contract (E := E67) Tryz.func67 (by kernel_rfl) (by kernel_rfl) (by kernel_rfl) (by kernel_rfl) rfl ((e67 itN a.1).trans ((rSpan_eq a.1).symm.trans hx)) h h') (fun _ x => rfl)
def named_L2 (s : ByteArray) (i : Int) (kn_ : Int → Option Bool) : Option Bool :=
 bif (decide (i < (s.size : Int))) then
 chk (decide (0 ≤ i)) <|
 byteAt s i.toNat fun b =>
 bif (decide (b < 97)) then
 some false
 else
 chk (decide (0 ≤ i)) <|
 byteAt s i.toNat fun b2 =>
 bif (decide (b2 > 122)) then
 some false
 else
 kn_ (w64 (i + 1))
 else
 bif (decide ((s.size : Int) ≥ 1)) then
 some (decide ((s.size : Int) ≤ 8))
 else
 some false
def named' (it : It Bool) (s : ByteArray) : Option Bool :=
 it _ (fun (v_0 : (Int × Unit) × (Unit)) kn => named_L2 s v_0.1.1 (fun y0 => kn ((y0, ()), (())))) ((0, ()), (()))
def named : ByteArray → Option Bool := opq (fun s => named' itN s)
theorem named_eq (s : ByteArray) : named s = named' itN s := by unfold named; rw [opq_eq]
def E65 : FEnv iseat := ⟨⟨28, [], [], [], [], [], [], [], [], [], [], [], [], true⟩, [(2, ⟨⟨[(3, .v (.int .i64))], []⟩, [0], [], []⟩)]⟩
theorem e65 (it : It Bool) (s : ByteArray) : fnRun (ts := [.bool]) it E65 (bodyOf Tryz.f65) Tryz.f65.results.toList (encA [.str] (s, ())) = named' it s := by kernel_rfl
def sp65 : FnSpec iseat.toSeat := mkSpec iseat.toSeat 65 [.str] [.bool] true (fun a => named a.1) (fun a x hx h h' => fn_contract (E := E65) Tryz.func65 (by kernel_rfl) (by kernel_rfl) (by kernel_rfl) (by kernel_rfl) rfl ((e65 itN a.1).trans ((named_eq a.1).symm.trans hx)) h h') (fun _ x => rfl)
def rCheck_L8 (d : Driver) (i : Int) (kn_ : Int → Option Int) : Option Int :=
 bif (decide (i < (d.Turns.length : Int))) then
 chk (decide (0 ≤ i) && decide (i < (d.Turns.length : Int))) <|
 (rSpan ((d.Turns.getD i.toNat dfltTurn).From)).bind fun r3 =>
 bif (r3 != 0) then
 some r3
 else
 (rSpan ((d.Turns.getD i.toNat dfltTurn).To)).bind fun r4 =>
 bif (r4 != 0) then
 some r4
 else
 bif (decide ((d.Turns.getD i.toNat dfltTurn).From.Hi > (d.Turns.getD i.toNat dfltTurn).To.Lo)) then
 some 11
 else
 bif (decide (i > 0)) then
 chk (decide (0 ≤ (w64 (i - 1))) && decide ((w64 (i - 1)) < (d.Turns.length : Int))) <|
 bif (decide ((d.Turns.getD i.toNat dfltTurn).From.Lo < (d.Turns.getD (w64 (i - 1)).toNat dfltTurn).To.Hi)) then
 some 12
 else
 kn_ (w64 (i + 1))
 else
 kn_ (w64 (i + 1))
 else
 some 0
def rCheck' (it : It Int) (d : Driver) : Option Int :=
 (named d.Name).bind fun r =>
 bif (!r) then
 some 3
 else
 (outside d.Skills 0 255).bind fun r2 =>
 bif r2 then
 some 2
 else
 bif (decide ((d.Turns.length : Int) > 20)) then
 some 8
 else
 it _ (fun (v_0 : (Unit × Int × Unit) × (Unit)) kn => rCheck_L8 d v_0.1.2.1 (fun y0 => kn (((), y0, ()), (())))) (((), 0, ()), (()))
def rCheck : Driver → Option Int := opq (fun d => rCheck' itN d)
theorem rCheck_eq (d : Driver) : rCheck d = rCheck' itN d := by unfold rCheck; rw [opq_eq]
def E52 : FEnv iseat := ⟨⟨65, [sp65, sp66, sp67], [], [], [], [], [], [], [], [], [], [], [], true⟩, [(8, ⟨⟨[(1, .bx 1 0), (3, .v (.int .i64))], []⟩, [], [1], []⟩)]⟩
theorem e52 (it : It Int) (d : Driver) : fnRun (ts := [.int .i64]) it E52 (bodyOf Tryz.f52) Tryz.f52.results.toList (encA [.Driver] (d, ())) = rCheck' it d := by kernel_rfl
def sp52 : FnSpec iseat.toSeat := mkSpec iseat.toSeat 52 [.Driver] [.int .i64] true (fun a => rCheck a.1) (fun a x hx h h' => fn_contract (E := E52) Tryz.func52 (by kernel_rfl) (by kernel_rfl) (by kernel_rfl) (by kernel_rfl) rfl ((e52 itN a.1).trans ((rCheck_eq a.1).symm.trans hx)) h h') (fun _ x => rfl)
def rChecks_L4 (l : List Driver) (i : Int) (kn_ : Int → Option Int) : Option Int :=
 bif (decide (i < (l.length : Int))) then
 chk (decide (0 ≤ i) && decide (i < (l.length : Int))) <|
 (rCheck (l.getD i.toNat dfltDriver)).bind fun r =>
 bif (r != 0) then
 some r
 else
 kn_ (w64 (i + 1))
 else
 some 0
def rChecks' (it : It Int) (l : List Driver) : Option Int :=
 bif (decide ((l.length : Int) > 4)) then
 some 8
 else
 it _ (fun (v_0 : (Int × Unit) × (Unit)) kn => rChecks_L4 l v_0.1.1 (fun y0 => kn ((y0, ()), (())))) ((0, ()), (()))
def rChecks : (List Driver) → Option Int := opq (fun l => rChecks' itN l)
theorem rChecks_eq (l : List Driver) : rChecks l = rChecks' itN l := by unfold rChecks; rw [opq_eq]
def E29 : FEnv iseat := ⟨⟨22, [sp52], [], [], [], [], [], [], [], [], [], [], [], true⟩, [(4, ⟨⟨[(3, .v (.int .i64))], []⟩, [0], [], []⟩)]⟩
theorem e29 (it : It Int) (l : List Driver) : fnRun (ts := [.int .i64]) it E29 (bodyOf Tryz.f29) Tryz.f29.results.toList (encA [.sl .Driver] (l, ())) = rChecks' it l := by kernel_rfl
def sp29 : FnSpec iseat.toSeat := mkSpec iseat.toSeat 29 [.sl .Driver] [.int .i64] true (fun a => rChecks a.1) (fun a x hx h h' => fn_contract (E := E29) Tryz.func29 (by kernel_rfl) (by kernel_rfl) (by kernel_rfl) (by kernel_rfl) rfl ((e29 itN a.1).trans ((rChecks_eq a.1).symm.trans hx)) h h') (fun _ x => rfl)
def Write09_L16 (l : List Driver) (i : Int) (k : Int) (kn_2 : ByteArray → Int → Int → Option (ByteArray × Int)) (turns2 : Int) (out3 : ByteArray) (j : Int) (kn_3 : ByteArray → Int → Option (ByteArray × Int)) : Option (ByteArray × Int) :=
 bif (decide (j < ([(((l.getD i.toNat dfltDriver).Turns).getD k.toNat dfltTurn).From.Lo, (((l.getD i.toNat dfltDriver).Turns).getD k.toNat dfltTurn).From.Hi, (((l.getD i.toNat dfltDriver).Turns).getD k.toNat dfltTurn).To.Lo, (((l.getD i.toNat dfltDriver).Turns).getD k.toNat dfltTurn).To.Hi].length : Int))) then
 chk (decide (out3.size + (⟨#[32]⟩ : ByteArray).size ≤ 9223372036854775807)) <|
 chk (decide (0 ≤ j) && decide (j < ([(((l.getD i.toNat dfltDriver).Turns).getD k.toNat dfltTurn).From.Lo, (((l.getD i.toNat dfltDriver).Turns).getD k.toNat dfltTurn).From.Hi, (((l.getD i.toNat dfltDriver).Turns).getD k.toNat dfltTurn).To.Lo, (((l.getD i.toNat dfltDriver).Turns).getD k.toNat dfltTurn).To.Hi].length : Int))) <|
 chk (decide (j.toNat < [(((l.getD i.toNat dfltDriver).Turns).getD k.toNat dfltTurn).From.Lo, (((l.getD i.toNat dfltDriver).Turns).getD k.toNat dfltTurn).From.Hi, (((l.getD i.toNat dfltDriver).Turns).getD k.toNat dfltTurn).To.Lo, (((l.getD i.toNat dfltDriver).Turns).getD k.toNat dfltTurn).To.Hi].length)) <|
 (Tx.itoaP ([(((l.getD i.toNat dfltDriver).Turns).getD k.toNat dfltTurn).From.Lo, (((l.getD i.toNat dfltDriver).Turns).getD k.toNat dfltTurn).From.Hi, (((l.getD i.toNat dfltDriver).Turns).getD k.toNat dfltTurn).To.Lo, (((l.getD i.toNat dfltDriver).Turns).getD k.toNat dfltTurn).To.Hi].getD j.toNat 0)).bind fun r3 =>
 chk (decide ((catS out3 (⟨#[32]⟩ : ByteArray)).size + r3.size ≤ 9223372036854775807)) <|
 kn_3 (catS (catS out3 (⟨#[32]⟩ : ByteArray)) r3) (w64 (j + 1))
 else
 chk (decide (out3.size + (⟨#[10]⟩ : ByteArray).size ≤ 9223372036854775807)) <|
 kn_2 (catS out3 (⟨#[10]⟩ : ByteArray)) (w64 (turns2 + 1)) (w64 (k + 1))
def Write09_L10 (it : It (ByteArray × Int)) (i : Int) (l : List Driver) (kn_ : ByteArray → Int → Int → Option (ByteArray × Int)) (out2 : ByteArray) (turns2 : Int) (k : Int) (kn_2 : ByteArray → Int → Int → Option (ByteArray × Int)) : Option (ByteArray × Int) :=
 chk (decide (0 ≤ i) && decide (i < (l.length : Int))) <|
 bif (decide (k < (((l.getD i.toNat dfltDriver).Turns).length : Int))) then
 chk (decide (0 ≤ i) && decide (i < (l.length : Int))) <|
 chk (decide (0 ≤ k) && decide (k < (((l.getD i.toNat dfltDriver).Turns).length : Int))) <|
 chk (decide (out2.size + (⟨#[116, 117, 114, 110]⟩ : ByteArray).size ≤ 9223372036854775807)) <|
 it _ (fun (v_0 : (ByteArray × Unit × Int × Unit) × (Unit)) kn => Write09_L16 l i k kn_2 turns2 v_0.1.1 v_0.1.2.2.1 (fun y0 y1 => kn ((y0, (), y1, ()), (())))) (((catS out2 (⟨#[116, 117, 114, 110]⟩ : ByteArray)), (), 0, ()), (()))
 else
 kn_ out2 turns2 (w64 (i + 1))
def Write09_L6 (it : It (ByteArray × Int)) (l : List Driver) (out : ByteArray) (turns : Int) (i : Int) (kn_ : ByteArray → Int → Int → Option (ByteArray × Int)) : Option (ByteArray × Int) :=
 bif (decide (i < (l.length : Int))) then
 chk (decide (out.size + (⟨#[100, 114, 105, 118, 101, 114, 32]⟩ : ByteArray).size ≤ 9223372036854775807)) <|
 chk (decide (0 ≤ i) && decide (i < (l.length : Int))) <|
 chk (decide ((catS out (⟨#[100, 114, 105, 118, 101, 114, 32]⟩ : ByteArray)).size + ((l.getD i.toNat dfltDriver).Name).size ≤ 9223372036854775807)) <|
 chk (decide ((catS (catS out (⟨#[100, 114, 105, 118, 101, 114, 32]⟩ : ByteArray)) ((l.getD i.toNat dfltDriver).Name)).size + (⟨#[32]⟩ : ByteArray).size ≤ 9223372036854775807)) <|
 chk (decide (0 ≤ i) && decide (i < (l.length : Int))) <|
 (Tx.itoaP ((l.getD i.toNat dfltDriver).Skills)).bind fun r2 =>
 chk (decide ((catS (catS (catS out (⟨#[100, 114, 105, 118, 101, 114, 32]⟩ : ByteArray)) ((l.getD i.toNat dfltDriver).Name)) (⟨#[32]⟩ : ByteArray)).size + r2.size ≤ 9223372036854775807)) <|
 chk (decide ((catS (catS (catS (catS out (⟨#[100, 114, 105, 118, 101, 114, 32]⟩ : ByteArray)) ((l.getD i.toNat dfltDriver).Name)) (⟨#[32]⟩ : ByteArray)) r2).size + (⟨#[10]⟩ : ByteArray).size ≤ 9223372036854775807)) <|
 it _ (fun (v_0 : (ByteArray × Int × Int × Unit) × (Unit)) kn => Write09_L10 it i l kn_ v_0.1.1 v_0.1.2.1 v_0.1.2.2.1 (fun y0 y1 y2 => kn ((y0, y1, y2, ()), (())))) (((catS (catS (catS (catS (catS out (⟨#[100, 114, 105, 118, 101, 114, 32]⟩ : ByteArray)) ((l.getD i.toNat dfltDriver).Name)) (⟨#[32]⟩ : ByteArray)) r2) (⟨#[10]⟩ : ByteArray)), turns, 0, ()), (()))
 else
 chk (decide (out.size + (⟨#[101, 110, 100, 32]⟩ : ByteArray).size ≤ 9223372036854775807)) <|
 (Tx.itoaP turns).bind fun r4 =>
 chk (decide ((catS out (⟨#[101, 110, 100, 32]⟩ : ByteArray)).size + r4.size ≤ 9223372036854775807)) <|
 chk (decide ((catS (catS out (⟨#[101, 110, 100, 32]⟩ : ByteArray)) r4).size + (⟨#[10]⟩ : ByteArray).size ≤ 9223372036854775807)) <|
 some ((catS (catS (catS out (⟨#[101, 110, 100, 32]⟩ : ByteArray)) r4) (⟨#[10]⟩ : ByteArray)), 0)
def Write09' (it : It (ByteArray × Int)) (l : List Driver) : Option (ByteArray × Int) :=
 (rChecks l).bind fun r =>
 bif (r != 0) then
 some ((⟨#[]⟩ : ByteArray), r)
 else
 it _ (fun (v_0 : (ByteArray × Int × Int × Unit) × (Unit)) kn => Write09_L6 it l v_0.1.1 v_0.1.2.1 v_0.1.2.2.1 (fun y0 y1 y2 => kn ((y0, y1, y2, ()), (())))) (((⟨#[]⟩ : ByteArray), 0, 0, ()), (()))
def Write09 : (List Driver) → Option (ByteArray × Int) := opq (fun l => Write09' itN l)
theorem Write09_eq (l : List Driver) : Write09 l = Write09' itN l := by unfold Write09; rw [opq_eq]
def E10 : FEnv iseat := ⟨⟨97, [sp29, Tx.sp27], [], [], [], [], [], [], [], [], [], [], [], true⟩, [(6, ⟨⟨[(5, .v .str), (6, .v (.int .i64)), (7, .v (.int .i64))], []⟩, [0], [], []⟩), (10, ⟨⟨[(5, .v .str), (6, .v (.int .i64)), (8, .v (.int .i64))], []⟩, [7], [], []⟩), (16, ⟨⟨[(5, .v .str), (10, .osr 70), (11, .v (.int .i64))], []⟩, [6, 8], [70], []⟩)]⟩
theorem e10 (it : It (ByteArray × Int)) (l : List Driver) : fnRun (ts := [.str, .int .i64]) it E10 (bodyOf Tryz.f10) Tryz.f10.results.toList (encA [.sl .Driver] (l, ())) = Write09' it l := by kernel_rfl
def sp10 : FnSpec iseat.toSeat := mkSpec iseat.toSeat 10 [.sl .Driver] [.str, .int .i64] true (fun a => Write09 a.1) (fun a x hx h h' => fn_contract (E := E10) Tryz.func10 (by kernel_rfl) (by kernel_rfl) (by kernel_rfl) (by kernel_rfl) rfl ((e10 itN a.1).trans ((Write09_eq a.1).symm.trans hx)) h h') (fun _ x => rfl)
def Wrap' (it : It Int) (x : Int) (n : Int) : Option Int :=
 bif (decide (n < 2)) then
 some 0
 else
 chk (n != 0) <|
 chk (n != 0) <|
 some ((w64 ((x.tmod n) + n)).tmod n)
def Wrap : Int → Int → Option Int := opq (fun x n => Wrap' itN x n)
theorem Wrap_eq (x : Int) (n : Int) : Wrap x n = Wrap' itN x n := by unfold Wrap; rw [opq_eq]
def E30 : FEnv iseat := ⟨⟨14, [], [], [], [], [], [], [], [], [], [], [], [], true⟩, []⟩
theorem e30 (it : It Int) (x : Int) (n : Int) : fnRun (ts := [.int .i64]) it E30 (bodyOf Tryz.f30) Tryz.f30.results.toList (encA [.int .i64, .int .i64] (x, n, ())) = Wrap' it x n := by kernel_rfl
def sp30 : FnSpec iseat.toSeat := mkSpec iseat.toSeat 30 [.int .i64, .int .i64] [.int .i64] true (fun a => Wrap a.1 a.2.1) (fun a x hx h h' => fn_contract (E := E30) Tryz.func30 (by kernel_rfl) (by kernel_rfl) (by kernel_rfl) (by kernel_rfl) rfl ((e30 itN a.1 a.2.1).trans ((Wrap_eq a.1 a.2.1).symm.trans hx)) h h') (fun _ x => rfl)
def Damage' (it : It ByteArray) (text : ByteArray) (at_ : Int) (how : Int) (by_ : Int) : Option ByteArray :=
 bif ((text.size : Int) == 0) then
 some text
 else
 (Wrap at_ (text.size : Int)).bind fun r =>
 (Wrap how 3).bind fun r2 =>
 bif (r2 == 0) then
 chk (decide (0 ≤ 0) && decide (0 ≤ r) && decide (r ≤ (text.size : Int))) <|
 chk (okB8 [by_]) <|
 chk (decide ((subS text 0 r).size + (⟨(byB8 [by_]).toArray⟩ : ByteArray).size ≤ 9223372036854775807)) <|
 chk (decide (0 ≤ (w64 (r + 1))) && decide ((w64 (r + 1)) ≤ (text.size : Int)) && decide ((text.size : Int) ≤ (text.size : Int))) <|
 chk (decide ((catS (subS text 0 r) (⟨(byB8 [by_]).toArray⟩ : ByteArray)).size + (subS text (w64 (r + 1)) (text.size : Int)).size ≤ 9223372036854775807)) <|
 some (catS (catS (subS text 0 r) (⟨(byB8 [by_]).toArray⟩ : ByteArray)) (subS text (w64 (r + 1)) (text.size : Int)))
 else
 bif (r2 == 1) then
 chk (decide (0 ≤ 0) && decide (0 ≤ r) && decide (r ≤ (text.size : Int))) <|
 chk (decide (0 ≤ (w64 (r + 1))) && decide ((w64 (r + 1)) ≤ (text.size : Int)) && decide ((text.size : Int) ≤ (text.size : Int))) <|
 chk (decide ((subS text 0 r).size + (subS text (w64 (r + 1)) (text.size : Int)).size ≤ 9223372036854775807)) <|
 some (catS (subS text 0 r) (subS text (w64 (r + 1)) (text.size : Int)))
 else
 chk (decide (0 ≤ 0) && decide (0 ≤ r) && decide (r ≤ (text.size : Int))) <|
 chk (okB8 [by_]) <|
 chk (decide ((subS text 0 r).size + (⟨(byB8 [by_]).toArray⟩ : ByteArray).size ≤ 9223372036854775807)) <|
 chk (decide (0 ≤ r) && decide (r ≤ (text.size : Int)) && decide ((text.size : Int) ≤ (text.size : Int))) <|
 chk (decide ((catS (subS text 0 r) (⟨(byB8 [by_]).toArray⟩ : ByteArray)).size + (subS text r (text.size : Int)).size ≤ 9223372036854775807)) <|
 some (catS (catS (subS text 0 r) (⟨(byB8 [by_]).toArray⟩ : ByteArray)) (subS text r (text.size : Int)))
def Damage : ByteArray → Int → Int → Int → Option ByteArray := opq (fun text at_ how by_ => Damage' itN text at_ how by_)
theorem Damage_eq (text : ByteArray) (at_ : Int) (how : Int) (by_ : Int) : Damage text at_ how by_ = Damage' itN text at_ how by_ := by unfold Damage; rw [opq_eq]
def E11 : FEnv iseat := ⟨⟨54, [sp30], [], [], [], [], [], [], [], [], [], [25, 47], [], true⟩, []⟩
theorem e11 (it : It ByteArray) (text : ByteArray) (at_ : Int) (how : Int) (by_ : Int) : fnRun (ts := [.str]) it E11 (bodyOf Tryz.f11) Tryz.f11.results.toList (encA [.str, .int .i64, .int .i64, .int .u8] (text, at_, how, by_, ())) = Damage' it text at_ how by_ := by kernel_rfl
def sp11 : FnSpec iseat.toSeat := mkSpec iseat.toSeat 11 [.str, .int .i64, .int .i64, .int .u8] [.str] true (fun a => Damage a.1 a.2.1 a.2.2.1 a.2.2.2.1) (fun a x hx h h' => fn_contract (E := E11) Tryz.func11 (by kernel_rfl) (by kernel_rfl) (by kernel_rfl) (by kernel_rfl) rfl ((e11 itN a.1 a.2.1 a.2.2.1 a.2.2.2.1).trans ((Damage_eq a.1 a.2.1 a.2.2.1 a.2.2.2.1).symm.trans hx)) h h') (fun _ x => rfl)
def split09_L4 (s : ByteArray) (by_ : Int) (out : List ByteArray) (from_ : Int) (i : Int) (kn_ : (List ByteArray) → Int → Int → Option (List ByteArray)) : Option (List ByteArray) :=
 bif (decide (i ≤ (s.size : Int))) then
 bif (i == (s.size : Int)) then
 chk (decide (0 ≤ from_) && decide (from_ ≤ i) && decide (i ≤ (s.size : Int))) <|
 chk (fitA (out.length + [(subS s from_ i)].length) 16) <|
 kn_ (out ++ [(subS s from_ i)]) (w64 (i + 1)) (w64 (i + 1))
 else
 chk (decide (0 ≤ i)) <|
 byteAt s i.toNat fun b =>
 bif (b == by_) then
 chk (decide (0 ≤ from_) && decide (from_ ≤ i) && decide (i ≤ (s.size : Int))) <|
 chk (fitA (out.length + [(subS s from_ i)].length) 16) <|
 kn_ (out ++ [(subS s from_ i)]) (w64 (i + 1)) (w64 (i + 1))
 else
 kn_ out from_ (w64 (i + 1))
 else
 some out
def split09' (it : It (List ByteArray)) (s : ByteArray) (by_ : Int) : Option (List ByteArray) :=
 it _ (fun (v_0 : ((List ByteArray) × Int × Int × Unit) × (Unit)) kn => split09_L4 s by_ v_0.1.1 v_0.1.2.1 v_0.1.2.2.1 (fun y0 y1 y2 => kn ((y0, y1, y2, ()), (())))) ((([] : List ByteArray), 0, 0, ()), (()))
def split09 : ByteArray → Int → Option (List ByteArray) := opq (fun s by_ => split09' itN s by_)
theorem split09_eq (s : ByteArray) (by_ : Int) : split09 s by_ = split09' itN s by_ := by unfold split09; rw [opq_eq]
def E35 : FEnv iseat := ⟨⟨35, [], [], [], [], [], [], [], [], [], [], [30], [], true⟩, [(4, ⟨⟨[(5, .os 5 9 .str), (6, .v (.int .i64)), (7, .v (.int .i64))], []⟩, [0, 1], [], []⟩)]⟩
theorem e35 (it : It (List ByteArray)) (s : ByteArray) (by_ : Int) : fnRun (ts := [.sl .str]) it E35 (bodyOf Tryz.f35) Tryz.f35.results.toList (encA [.str, .int .u8] (s, by_, ())) = split09' it s by_ := by kernel_rfl
def number09_L8 (s : ByteArray) (n : Int) (i : Int) (kn_ : Int → Int → Option (Int × Bool)) : Option (Int × Bool) :=
 bif (decide (i < ((subS s 1 (s.size : Int)).size : Int))) then
 chk (decide (0 ≤ i)) <|
 byteAt (subS s 1 (s.size : Int)) i.toNat fun b3 =>
 bif (decide (b3 < 48)) then
 some (0, false)
 else
 chk (decide (0 ≤ i)) <|
 byteAt (subS s 1 (s.size : Int)) i.toNat fun b4 =>
 bif (decide (b4 > 57)) then
 some (0, false)
 else
 chk (decide (0 ≤ i)) <|
 byteAt (subS s 1 (s.size : Int)) i.toNat fun b5 =>
 kn_ (w64 ((w64 (10 * n)) + (w64 ((IntKind.u8.wrap (b5 - 48)))))) (w64 (i + 1))
 else
 some ((w64 ((-1) * n)), true)
def number09_L8__2 (s : ByteArray) (n2 : Int) (i2 : Int) (kn_2 : Int → Int → Option (Int × Bool)) : Option (Int × Bool) :=
 bif (decide (i2 < ((subS s 1 (s.size : Int)).size : Int))) then
 chk (decide (0 ≤ i2)) <|
 byteAt (subS s 1 (s.size : Int)) i2.toNat fun b6 =>
 bif (decide (b6 < 48)) then
 some (0, false)
 else
 chk (decide (0 ≤ i2)) <|
 byteAt (subS s 1 (s.size : Int)) i2.toNat fun b7 =>
 bif (decide (b7 > 57)) then
 some (0, false)
 else
 chk (decide (0 ≤ i2)) <|
 byteAt (subS s 1 (s.size : Int)) i2.toNat fun b8 =>
 kn_2 (w64 ((w64 (10 * n2)) + (w64 ((IntKind.u8.wrap (b8 - 48)))))) (w64 (i2 + 1))
 else
 some ((w64 ((-1) * n2)), true)
def number09_L8__3 (s : ByteArray) (n3 : Int) (i3 : Int) (kn_3 : Int → Int → Option (Int × Bool)) : Option (Int × Bool) :=
 bif (decide (i3 < (s.size : Int))) then
 chk (decide (0 ≤ i3)) <|
 byteAt s i3.toNat fun b10 =>
 bif (decide (b10 < 48)) then
 some (0, false)
 else
 chk (decide (0 ≤ i3)) <|
 byteAt s i3.toNat fun b11 =>
 bif (decide (b11 > 57)) then
 some (0, false)
 else
 chk (decide (0 ≤ i3)) <|
 byteAt s i3.toNat fun b12 =>
 kn_3 (w64 ((w64 (10 * n3)) + (w64 ((IntKind.u8.wrap (b12 - 48)))))) (w64 (i3 + 1))
 else
 some ((w64 (1 * n3)), true)
def number09_L8__4 (s : ByteArray) (n4 : Int) (i4 : Int) (kn_4 : Int → Int → Option (Int × Bool)) : Option (Int × Bool) :=
 bif (decide (i4 < (s.size : Int))) then
 chk (decide (0 ≤ i4)) <|
 byteAt s i4.toNat fun b13 =>
 bif (decide (b13 < 48)) then
 some (0, false)
 else
 chk (decide (0 ≤ i4)) <|
 byteAt s i4.toNat fun b14 =>
 bif (decide (b14 > 57)) then
 some (0, false)
 else
 chk (decide (0 ≤ i4)) <|
 byteAt s i4.toNat fun b15 =>
 kn_4 (w64 ((w64 (10 * n4)) + (w64 ((IntKind.u8.wrap (b15 - 48)))))) (w64 (i4 + 1))
 else
 some ((w64 (1 * n4)), true)
def number09_L8__5 (s : ByteArray) (n5 : Int) (i5 : Int) (kn_5 : Int → Int → Option (Int × Bool)) : Option (Int × Bool) :=
 bif (decide (i5 < (s.size : Int))) then
 chk (decide (0 ≤ i5)) <|
 byteAt s i5.toNat fun b17 =>
 bif (decide (b17 < 48)) then
 some (0, false)
 else
 chk (decide (0 ≤ i5)) <|
 byteAt s i5.toNat fun b18 =>
 bif (decide (b18 > 57)) then
 some (0, false)
 else
 chk (decide (0 ≤ i5)) <|
 byteAt s i5.toNat fun b19 =>
 kn_5 (w64 ((w64 (10 * n5)) + (w64 ((IntKind.u8.wrap (b19 - 48)))))) (w64 (i5 + 1))
 else
 some ((w64 (1 * n5)), true)
def number09_L8__6 (s : ByteArray) (n6 : Int) (i6 : Int) (kn_6 : Int → Int → Option (Int × Bool)) : Option (Int × Bool) :=
 bif (decide (i6 < (s.size : Int))) then
 chk (decide (0 ≤ i6)) <|
 byteAt s i6.toNat fun b20 =>
 bif (decide (b20 < 48)) then
 some (0, false)
 else
 chk (decide (0 ≤ i6)) <|
 byteAt s i6.toNat fun b21 =>
 bif (decide (b21 > 57)) then
 some (0, false)
 else
 chk (decide (0 ≤ i6)) <|
 byteAt s i6.toNat fun b22 =>
 kn_6 (w64 ((w64 (10 * n6)) + (w64 ((IntKind.u8.wrap (b22 - 48)))))) (w64 (i6 + 1))
 else
 some ((w64 (1 * n6)), true)
def number09' (it : It (Int × Bool)) (s : ByteArray) (digits : Int) : Option (Int × Bool) :=
 bif (decide ((s.size : Int) > 0)) then
 chk (decide (0 ≤ 0)) <|
 byteAt s 0 fun b =>
 bif (b == 45) then
 chk (decide (0 ≤ 1) && decide (1 ≤ (s.size : Int)) && decide ((s.size : Int) ≤ (s.size : Int))) <|
 bif (decide (((subS s 1 (s.size : Int)).size : Int) < 1)) then
 some (0, false)
 else
 bif (decide (((subS s 1 (s.size : Int)).size : Int) > digits)) then
 some (0, false)
 else
 chk (decide (0 ≤ 0)) <|
 byteAt (subS s 1 (s.size : Int)) 0 fun b2 =>
 bif (b2 == 48) then
 bif (decide ((s.size : Int) > 1)) then
 some (0, false)
 else
 it _ (fun (v_0 : (Int × Int × Unit) × (Unit)) kn => number09_L8 s v_0.1.1 v_0.1.2.1 (fun y0 y1 => kn ((y0, y1, ()), (())))) ((0, 0, ()), (()))
 else
 it _ (fun (v_0 : (Int × Int × Unit) × (Unit)) kn => number09_L8__2 s v_0.1.1 v_0.1.2.1 (fun y0 y1 => kn ((y0, y1, ()), (())))) ((0, 0, ()), (()))
 else
 bif (decide ((s.size : Int) < 1)) then
 some (0, false)
 else
 bif (decide ((s.size : Int) > digits)) then
 some (0, false)
 else
 chk (decide (0 ≤ 0)) <|
 byteAt s 0 fun b9 =>
 bif (b9 == 48) then
 bif (decide ((s.size : Int) > 1)) then
 some (0, false)
 else
 it _ (fun (v_0 : (Int × Int × Unit) × (Unit)) kn => number09_L8__3 s v_0.1.1 v_0.1.2.1 (fun y0 y1 => kn ((y0, y1, ()), (())))) ((0, 0, ()), (()))
 else
 it _ (fun (v_0 : (Int × Int × Unit) × (Unit)) kn => number09_L8__4 s v_0.1.1 v_0.1.2.1 (fun y0 y1 => kn ((y0, y1, ()), (())))) ((0, 0, ()), (()))
 else
 bif (decide ((s.size : Int) < 1)) then
 some (0, false)
 else
 bif (decide ((s.size : Int) > digits)) then
 some (0, false)
 else
 chk (decide (0 ≤ 0)) <|
 byteAt s 0 fun b16 =>
 bif (b16 == 48) then
 bif (decide ((s.size : Int) > 1)) then
 some (0, false)
 else
 it _ (fun (v_0 : (Int × Int × Unit) × (Unit)) kn => number09_L8__5 s v_0.1.1 v_0.1.2.1 (fun y0 y1 => kn ((y0, y1, ()), (())))) ((0, 0, ()), (()))
 else
 it _ (fun (v_0 : (Int × Int × Unit) × (Unit)) kn => number09_L8__6 s v_0.1.1 v_0.1.2.1 (fun y0 y1 => kn ((y0, y1, ()), (())))) ((0, 0, ()), (()))
def number09 : ByteArray → Int → Option (Int × Bool) := opq (fun s digits => number09' itN s digits)
theorem number09_eq (s : ByteArray) (digits : Int) : number09 s digits = number09' itN s digits := by unfold number09; rw [opq_eq]
def E55 : FEnv iseat := ⟨⟨67, [], [], [], [], [], [], [], [], [], [], [], [], true⟩, [(8, ⟨⟨[(8, .v (.int .i64)), (9, .v (.int .i64))], []⟩, [6, 7], [], []⟩)]⟩
theorem e55 (it : It (Int × Bool)) (s : ByteArray) (digits : Int) : fnRun (ts := [.int .i64, .bool]) it E55 (bodyOf Tryz.f55) Tryz.f55.results.toList (encA [.str, .int .i64] (s, digits, ())) = number09' it s digits := by kernel_rfl
def sp55 : FnSpec iseat.toSeat := mkSpec iseat.toSeat 55 [.str, .int .i64] [.int .i64, .bool] true (fun a => number09 a.1 a.2.1) (fun a x hx h h' => fn_contract (E := E55) Tryz.func55 (by kernel_rfl) (by kernel_rfl) (by kernel_rfl) (by kernel_rfl) rfl ((e55 itN a.1 a.2.1).trans ((number09_eq a.1 a.2.1).symm.trans hx)) h h') (fun _ x => rfl)
def numbers09_L5 (words : List ByteArray) (out : List Int) (i : Int) (kn_ : (List Int) → Int → Option ((List Int) × Bool)) : Option ((List Int) × Bool) :=
 bif (decide (i < (words.length : Int))) then
 chk (decide (0 ≤ i) && decide (i < (words.length : Int))) <|
 (number09 (words.getD i.toNat ⟨#[]⟩) 6).bind fun r =>
 bif (!r.2) then
 some (([] : List Int), false)
 else
 bif (decide (r.1 < 0)) then
 some (([] : List Int), false)
 else
 chk (fitA (out.length + [r.1].length) 8) <|
 kn_ (out ++ [r.1]) (w64 (i + 1))
 else
 some (out, true)
def numbers09' (it : It ((List Int) × Bool)) (words : List ByteArray) (many : Int) : Option ((List Int) × Bool) :=
 bif ((words.length : Int) != many) then
 some (([] : List Int), false)
 else
 it _ (fun (v_0 : ((List Int) × Int × Unit) × (Unit)) kn => numbers09_L5 words v_0.1.1 v_0.1.2.1 (fun y0 y1 => kn ((y0, y1, ()), (())))) ((([] : List Int), 0, ()), (()))
def numbers09 : (List ByteArray) → Int → Option ((List Int) × Bool) := opq (fun words many => numbers09' itN words many)
theorem numbers09_eq (words : List ByteArray) (many : Int) : numbers09 words many = numbers09' itN words many := by unfold numbers09; rw [opq_eq]
def E36 : FEnv iseat := ⟨⟨39, [sp55], [], [], [], [], [], [], [], [], [], [36], [], true⟩, [(5, ⟨⟨[(6, .os 6 3 (.int .i64)), (7, .v (.int .i64))], []⟩, [0], [], []⟩)]⟩
theorem e36 (it : It ((List Int) × Bool)) (words : List ByteArray) (many : Int) : fnRun (ts := [.sl (.int .i64), .bool]) it E36 (bodyOf Tryz.f36) Tryz.f36.results.toList (encA [.sl .str, .int .i64] (words, many, ())) = numbers09' it words many := by kernel_rfl
def big' (it : It Bool) (d : Driver) : Option Bool :=
 bif (decide ((d.Name.size : Int) > 40)) then
 some true
 else
 some (decide ((d.Turns.length : Int) > 30))
def big : Driver → Option Bool := opq (fun d => big' itN d)
theorem big_eq (d : Driver) : big d = big' itN d := by unfold big; rw [opq_eq]
def E5 : FEnv iseat := ⟨⟨13, [], [], [], [], [], [], [], [], [], [], [], [], true⟩, []⟩
theorem e5 (it : It Bool) (d : Driver) : fnRun (ts := [.bool]) it E5 (bodyOf Tryz.f5) Tryz.f5.results.toList (encA [.Driver] (d, ())) = big' it d := by kernel_rfl
def sp5 : FnSpec iseat.toSeat := mkSpec iseat.toSeat 5 [.Driver] [.bool] true (fun a => big a.1) (fun a x hx h h' => fn_contract (E := E5) Tryz.func5 (by kernel_rfl) (by kernel_rfl) (by kernel_rfl) (by kernel_rfl) rfl ((e5 itN a.1).trans ((big_eq a.1).symm.trans hx)) h h') (fun _ x => rfl)
end
end Go.Proofs.Tp09
