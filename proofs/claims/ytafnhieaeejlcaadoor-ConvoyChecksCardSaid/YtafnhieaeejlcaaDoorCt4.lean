/- Walks through the functions that the laws of the convoys reach: what each of them gives for what it gets (contracts), written out by a program of ours; without a condition but those that stand in each theorem. -/
import Derived.Test.YtafnhieaeejlcaaDoorCt3
set_option linter.all false
namespace Go.Proofs.YtafnhieaeejlcaaDoor
open Go Go.Ab
set_option maxRecDepth 100000
set_option maxHeartbeats 4000000
attribute [local irreducible] W WL QOp NOp thenQ blockQ FinQ FinR WG FQ Want FinW WI WIL thenI blockI
def posR (t : Truck) (len pace : Int) : Nat → Int
  | 0 => 0
  | k + 1 => nextR t len (posR t len pace k) (t.start + k) pace
def hit (f : Nat → Int) (len : Int) : Nat → Nat → Nat
  | 0, k => k
  | n + 1, k => if f k = len then k else hit f len n (k + 1)
theorem hit_of {f : Nat → Int} {len : Int} {K : Nat} (hK : f K = len) : ∀ (n k : Nat), k ≤ K → K ≤ k + n → (∀ j, k ≤ j → j < hit f len n k → f j ≠ len) ∧ f (hit f len n k) = len ∧ k ≤ hit f len n k ∧ hit f len n k ≤ K := by
  intro n
  induction n with
  | zero =>
    intro k h1 h2
    have : k = K := by omega
    subst this
    exact ⟨fun j a b => by simp only [hit] at b; omega, hK, Nat.le_refl _, Nat.le_refl _⟩
  | succ n ih =>
    intro k h1 h2
    by_cases e : f k = len
    · simp only [hit, if_pos e]
      exact ⟨fun j a b => by omega, e, Nat.le_refl _, h1⟩
    · simp only [hit, if_neg e]
      have hne : k ≠ K := by intro h; subst h; exact e hK
      obtain ⟨a, b, c, d⟩ := ih (k + 1) (by omega) (by omega)
      refine ⟨fun j hj hj2 => ?_, b, by omega, d⟩
      by_cases ej : j = k
      · subst ej; exact e
      · exact a j (by omega) hj2

theorem stopR_ge {way len gone m : Int} {hs : List Hold} (h1 : 1 ≤ len) (h : ∀ h ∈ hs, 1 ≤ h.a ∧ h.a ≤ len - 1) : 1 ≤ stopR way len gone m hs ∧ stopR way len gone m hs ≤ len := by
  induction hs with
  | nil => simp only [stopR]; omega
  | cons x hs ih =>
    have hx := h x (List.mem_cons_self ..)
    have := ih fun y hy => h y (List.mem_cons_of_mem _ hy)
    simp only [stopR]
    split
    · simp only [alongI]; split <;> omega
    · exact this
theorem stopR_late {way len gone m : Int} {hs : List Hold} (h : ∀ h ∈ hs, h.u ≤ m) : stopR way len gone m hs = len := by
  induction hs with
  | nil => rfl
  | cons x hs ih =>
    have hx := h x (List.mem_cons_self ..)
    simp only [stopR]
    rw [if_neg (by omega)]
    exact ih fun y hy => h y (List.mem_cons_of_mem _ hy)
theorem mem_getD {α : Type} [Inhabited α] {l : List α} {x : α} (h : x ∈ l) : ∃ k, k < l.length ∧ l.getD k default = x := by
  obtain ⟨k, hk, e⟩ := List.getElem_of_mem h
  exact ⟨k, hk, by simp [List.getD, hk, e]⟩
theorem HOk.mem {len : Int} {hs : List Hold} (h : HOk len hs) : ∀ x ∈ hs, 1 ≤ x.a ∧ x.a ≤ len - 1 ∧ 0 ≤ x.u ∧ x.u ≤ 10000 := fun x hx => by
  obtain ⟨k, hk, e⟩ := mem_getD hx
  exact e ▸ h.2 k hk

section
variable {t : Truck} {len pace : Int}
theorem posR_le (hl : 1 ≤ len) (ho : HOk len t.holds) (hp : 1 ≤ pace) : ∀ k, 0 ≤ posR t len pace k ∧ posR t len pace k ≤ len
  | 0 => ⟨Int.le_refl 0, by simp only [posR]; omega⟩
  | k + 1 => by
    have h1 := posR_le hl ho hp k
    have h2 := stopR_ge (way := t.way) (gone := posR t len pace k) (m := t.start + k) hl fun x hx => ⟨(ho.mem x hx).1, (ho.mem x hx).2.1⟩
    simp only [posR, nextR]
    omega
theorem posR_late (hs : 0 ≤ t.start) (hl : 1 ≤ len) (ho : HOk len t.holds) (hp : 1 ≤ pace) : ∀ j : Nat, min ((j : Int) * pace) len ≤ posR t len pace (10000 + j)
  | 0 => by have := (posR_le hl ho hp 10000).1; simp only [Nat.add_zero]; omega
  | j + 1 => by
    have h1 := posR_late hs hl ho hp j
    have h2 := posR_le hl ho hp (10000 + j)
    show _ ≤ posR t len pace (10000 + j + 1)
    simp only [posR, nextR]
    rw [stopR_late fun x hx => by have := (ho.mem x hx).2.2.2; omega]
    have h3 : ((j + 1 : Nat) : Int) * pace = j * pace + pace := by push_cast; rw [Int.add_mul, Int.one_mul]
    rw [h3]
    omega
theorem posR_hit (hs : 0 ≤ t.start) (hl : 1 ≤ len) (ho : HOk len t.holds) (hp : 1 ≤ pace) (hd : len ≤ 1000 * pace) : posR t len pace 11000 = len := by
  have h1 := posR_late hs hl ho hp 1000
  have h2 := posR_le hl ho hp (10000 + 1000)
  have h3 : posR t len pace (10000 + 1000) = len := by omega
  exact h3
end
def hitR (t : Truck) (len pace : Int) : Nat := hit (posR t len pace) len 11000 0
def arrS (c : Convoy) (t : Truck) : Span := ⟨if hitR t c.len t.hi ≤ hitR t c.len t.lo then t.start + hitR t c.len t.hi else -1, t.start + hitR t c.len t.lo⟩
/-- What Check asks of a truck. -/
structure TOk (c : Convoy) (t : Truck) : Prop where
  l1 : 1 ≤ c.len
  l2 : c.len ≤ 100000
  s1 : 0 ≤ t.start
  s2 : t.start ≤ 10000
  p1 : 1 ≤ t.lo
  p2 : t.lo ≤ t.hi
  p3 : t.hi ≤ 1000
  d1 : c.len ≤ 1000 * t.lo
  ho : HOk c.len t.holds
theorem hitR_spec {c : Convoy} {t : Truck} (h : TOk c t) {pace : Int} (hp : t.lo ≤ pace) : posR t c.len pace (hitR t c.len pace) = c.len ∧ (∀ j, j < hitR t c.len pace → posR t c.len pace j ≠ c.len) ∧ hitR t c.len pace ≤ 11000 := by
  have h1 := h.p1
  have h2 := h.d1
  have h0 : posR t c.len pace 11000 = c.len := posR_hit h.s1 h.l1 h.ho (by omega) (by omega)
  obtain ⟨a, b, _, d⟩ := hit_of h0 11000 0 (Nat.zero_le _) (by omega)
  exact ⟨b, fun j hj => a j (Nat.zero_le _) hj, d⟩

/-- What has been found so far. -/
def loK (c : Convoy) (t : Truck) (k : Nat) : Int := if hitR t c.len t.hi < k then t.start + hitR t c.len t.hi else -1
def posP (t : Truck) (len pace : Int) (k : Nat) : Int := posR t len pace (k - 1)
theorem posP_eq (t : Truck) (len pace : Int) (k : Nat) : posP t len pace k = posR t len pace (k - 1) := rfl
theorem posP_zero (t : Truck) (len pace : Int) : posP t len pace 0 = 0 := rfl
theorem posP_next {t : Truck} {len pace : Int} {k : Nat} (h : 0 < k) : posP t len pace (k + 1) = nextR t len (posP t len pace k) (t.start + k - 1) pace := by
  obtain ⟨j, rfl⟩ : ∃ j, k = j + 1 := ⟨k - 1, by omega⟩
  show posR t len pace (j + 1) = nextR t len (posR t len pace j) _ pace
  rw [show t.start + ((j + 1 : Nat) : Int) - 1 = t.start + j by omega]; rfl
def arrInv (c : Convoy) (t : Truck) (x : Nat × Int) : Prop := (x.2 = -1 ∧ x.1 ≤ hitR t c.len t.lo) ∨ (x.1 = hitR t c.len t.lo + 1 ∧ x.2 = t.start + hitR t c.len t.lo)
theorem posP_succ (t : Truck) (len pace : Int) (k : Nat) : posP t len pace (k + 1) = posR t len pace k := rfl
theorem posP_01 (t : Truck) (len pace : Int) : posP t len pace 0 = posP t len pace (0 + 1) := rfl
theorem loK_eq (c : Convoy) (t : Truck) (k : Nat) : loK c t k = if hitR t c.len t.hi < k then t.start + hitR t c.len t.hi else -1 := rfl
theorem loK_end (c : Convoy) (t : Truck) : loK c t (hitR t c.len t.lo + 1) = (arrS c t).lo := by
  simp only [loK, arrS, Nat.lt_succ_iff]
theorem toB2 {x : Ab.Own} {k1 k2 : IntKind} {a b a' b' : Int} (h : x = .box [.int k1 a, .int k2 b]) (e1 : a = a') (e2 : b = b') : x = .box [.int k1 a', .int k2 b'] := by rw [h, e1, e2]
theorem loK_zero (c : Convoy) (t : Truck) : loK c t 0 = -1 := rfl
attribute [local irreducible] posP loK hitR posR nextR stopR
theorem c110 (c : Convoy) (t : Truck) (h : TOk c t) : Contract seat 110 [.agg (encConvoy c), .agg (encTruck t)] (.agg (encSpan (arrS c t))) := by
  refine contract_intro (fn := Tryd.f110) Tryd.func110 rfl (by kernel_rfl) rfl ?_ ?_ ?_
  · exact PureL.cons (.agg _ (pure_convoy c)) (PureL.cons (.agg _ (pure_truck t)) PureL.nil)
  · exact .agg _ (pure_span _)
  intro w κ
  obtain ⟨l1, l2, s1, s2, p1, p2, p3, d1, ho⟩ := h
  have h : TOk c t := ⟨l1, l2, s1, s2, p1, p2, p3, d1, ho⟩
  obtain ⟨e1, e2, e3⟩ := hitR_spec h (Int.le_refl t.lo)
  obtain ⟨f1, f2, f3⟩ := hitR_spec h p2
  have bnd := fun k => posR_le (t := t) (pace := t.lo) l1 ho p1 k
  have bnd2 := fun k => posR_le (t := t) (pace := t.hi) l1 ho (by omega) k
  repeat' (first
    | (apply WL_q; apply Eq.refl; apply Eq.refl; (first | (apply q_mvI <;> apply Eq.refl) | (apply q_asI <;> apply Eq.refl) | (apply q_ldb <;> apply Eq.refl) | (apply q_fab <;> apply Eq.refl) | (apply q_cmp <;> apply Eq.refl) | (apply q_mvB <;> apply Eq.refl) | (apply q_arith <;> (first | apply Eq.refl | omega)) | (apply q_pkT <;> apply Eq.refl) | (apply q_pkF <;> apply Eq.refl) | (apply q_ldba <;> apply Eq.refl) | (apply q_bld <;> apply Eq.refl)))
    | apply W_seq
    | apply W_region
    | apply T_normal
    | apply WL_nil
    | apply T_exit
    | apply B_normal
    | apply B_exit_eq
    | apply W_skip
    | apply W_exit
    | apply W_ret
    | apply W_block
    | (apply W_condF; apply Eq.refl)
    | (apply WL_n; apply Eq.refl; (first | (apply n_boxa <;> apply Eq.refl) | (apply n_alloc <;> apply Eq.refl) | (apply n_stb <;> apply Eq.refl)))
    | (apply WL_yes; apply Eq.refl; apply Eq.refl; apply Eq.refl)
    | (apply WL_no; apply Eq.refl; apply Eq.refl; apply Eq.refl; apply Eq.refl; apply Eq.refl)
    | (apply L_tD; apply Eq.refl; apply Eq.refl; apply Eq.refl; intro _; rotate_left 1; intro _; rotate_left 1)
    | apply W_regionG
    | (apply WG_nil; kernel_rfl)
    | (apply WG_q; (first | (apply want_none; apply Eq.refl) | (apply want_some; apply Eq.refl; apply Eq.refl; apply Eq.refl)); apply Eq.refl; first | (apply fq_bld <;> apply Eq.refl) | (apply fq_blda <;> apply Eq.refl) | (apply fq_fn; apply Eq.refl) | (apply fq_mf; apply Eq.refl) | (apply FQ_intro; intro _; (first | (apply q_mvI <;> apply Eq.refl) | (apply q_asI <;> apply Eq.refl) | (apply q_ldb <;> apply Eq.refl) | (apply q_fab <;> apply Eq.refl) | (apply q_cmp <;> apply Eq.refl) | (apply q_mvB <;> apply Eq.refl) | (apply q_arith <;> (first | apply Eq.refl | omega)) | (apply q_pkT <;> apply Eq.refl) | (apply q_pkF <;> apply Eq.refl) | (apply q_ldba <;> apply Eq.refl) | (apply q_bld <;> apply Eq.refl))))
    | (apply WG_n; (first | (apply want_none; apply Eq.refl) | (apply want_some; apply Eq.refl; apply Eq.refl; apply Eq.refl)); (first | (apply f_stb <;> apply Eq.refl)))
    | (apply W_cD; apply Eq.refl; intro _; rotate_left 1; intro _; rotate_left 1))
  refine W_loopM (α := Nat × Int) (fun x => [(2, .bx 2 1 0), (3, .bx 3 1 0), (4, .bx 4 1 0), (5, .bx 5 1 0), (6, .bx 6 1 0), (7, .int .i64 (t.start + x.1))]) (fun _ => [(2, 1), (3, 1), (4, 1), (5, 1), (6, 1)])
      (fun x => [(2, .box (encConvoy c)), (3, .box (encTruck t)), (4, .box [.int .i64 0, .int .i64 0]), (5, .box [.int .i64 (loK c t x.1), .int .i64 x.2]), (6, .box [.int .i64 (posP t c.len t.lo x.1), .int .i64 (posP t c.len t.hi x.1)])])
      (arrInv c t) (fun x => if x.2 < 0 then 20000 - x.1 else 0) (0, -1) (.inl ⟨rfl, Nat.zero_le _⟩) (by refine ⟨?_, ?_, ?_⟩ <;> repeat' (first | exact trivial | apply And.intro | apply Eq.refl | (refine toI rfl ?_; omega) | (refine toB rfl ?_; simp only [posP_zero, loK_zero]))) (fun x h hi => ?_)
  have hP1 : 0 ≤ posP t c.len t.lo x.1 ∧ posP t c.len t.lo x.1 ≤ c.len := by rw [posP_eq]; exact bnd _
  have hP2 : 0 ≤ posP t c.len t.hi x.1 ∧ posP t c.len t.hi x.1 ≤ c.len := by rw [posP_eq]; exact bnd2 _
  have hb : x.2 < 0 → x.2 = -1 ∧ x.1 ≤ hitR t c.len t.lo := fun h => by rcases hi with ⟨a, b⟩ | ⟨a, b⟩ <;> omega
  have hb2 : ¬ x.2 < 0 → x.1 = hitR t c.len t.lo + 1 ∧ x.2 = t.start + hitR t c.len t.lo := fun h => by rcases hi with ⟨a, b⟩ | ⟨a, b⟩ <;> omega
  have hk1 : x.1 ≤ 11001 := by rcases hi with ⟨a, b⟩ | ⟨a, b⟩ <;> omega
  have C1 : 0 < x.1 → Contract seat 111 [.agg (encConvoy c), .agg (encTruck t), .int .i64 (posP t c.len t.lo x.1), .int .i64 (t.start + x.1 - 1), .int .i64 t.lo] (.int .i64 (posP t c.len t.lo (x.1 + 1))) := fun h => by
    rw [posP_next h]; exact c111 c t _ _ _ l1 l2 ho (by omega) (by omega) (by omega) (by omega)
  have C2 : 0 < x.1 → Contract seat 111 [.agg (encConvoy c), .agg (encTruck t), .int .i64 (posP t c.len t.hi x.1), .int .i64 (t.start + x.1 - 1), .int .i64 t.hi] (.int .i64 (posP t c.len t.hi (x.1 + 1))) := fun h => by
    rw [posP_next h]; exact c111 c t _ _ _ l1 l2 ho (by omega) (by omega) (by omega) (by omega)
  have hlo : ∀ k, loK c t k = if hitR t c.len t.hi < k then t.start + hitR t c.len t.hi else -1 := fun k => by rw [loK_eq]
  have hlo0 := hlo x.1
  have hlo1 := hlo (x.1 + 1)
  have hZ : x.1 = 0 → posP t c.len t.lo x.1 = posP t c.len t.lo (x.1 + 1) ∧ posP t c.len t.hi x.1 = posP t c.len t.hi (x.1 + 1) := fun h => by rw [h]; exact ⟨posP_01 _ _ _, posP_01 _ _ _⟩
  have hn1 : x.1 < hitR t c.len t.lo → posP t c.len t.lo (x.1 + 1) ≠ c.len := fun h => by rw [posP_succ]; exact e2 _ h
  have hn2 : x.1 < hitR t c.len t.hi → posP t c.len t.hi (x.1 + 1) ≠ c.len := fun h => by rw [posP_succ]; exact f2 _ h
  have hq1 : x.1 = hitR t c.len t.lo → posP t c.len t.lo (x.1 + 1) = c.len := fun h => by rw [posP_succ, h]; exact e1
  have hq2 : x.1 = hitR t c.len t.hi → posP t c.len t.hi (x.1 + 1) = c.len := fun h => by rw [posP_succ, h]; exact f1
  have hA : posP t c.len t.hi (x.1 + 1) = c.len → loK c t x.1 < 0 → t.start + x.1 = loK c t (x.1 + 1) := fun h1 h2 => by split at hlo0 <;> split at hlo1 <;> omega
  have hB : posP t c.len t.hi (x.1 + 1) ≠ c.len → loK c t x.1 = loK c t (x.1 + 1) := fun h1 => by split at hlo0 <;> split at hlo1 <;> omega
  have hC : ¬ loK c t x.1 < 0 → loK c t x.1 = loK c t (x.1 + 1) := fun h1 => by split at hlo0 <;> split at hlo1 <;> omega
  have hE : x.2 < 0 → posP t c.len t.lo (x.1 + 1) = c.len → arrInv c t (x.1 + 1, t.start + x.1) ∧ (if t.start + (x.1 : Int) < 0 then 20000 - (x.1 + 1) else 0) < (if x.2 < 0 then 20000 - x.1 else 0) := fun h1 h2 => by
    have := hb h1
    have h3 : x.1 = hitR t c.len t.lo := by omega
    refine ⟨.inr ⟨by simp only; omega, by simp only; omega⟩, ?_⟩
    rw [if_neg (by omega), if_pos h1]; omega
  have hF : x.2 < 0 → posP t c.len t.lo (x.1 + 1) ≠ c.len → arrInv c t (x.1 + 1, x.2) ∧ (if x.2 < 0 then 20000 - (x.1 + 1) else 0) < (if x.2 < 0 then 20000 - x.1 else 0) := fun h1 h2 => by
    have := hb h1
    have h3 : x.1 < hitR t c.len t.lo := by omega
    refine ⟨.inl ⟨by simp only; omega, by simp only; omega⟩, ?_⟩
    rw [if_pos h1, if_pos h1]; omega
  clear hlo hlo0 hlo1 hn1 hn2 hq1 hq2
  repeat' (first
    | (apply WL_q; apply Eq.refl; apply Eq.refl; (first | (apply q_mvI <;> apply Eq.refl) | (apply q_asI <;> apply Eq.refl) | (apply q_ldb <;> apply Eq.refl) | (apply q_fab <;> apply Eq.refl) | (apply q_cmp <;> apply Eq.refl) | (apply q_mvB <;> apply Eq.refl) | (apply q_arith <;> (first | apply Eq.refl | omega)) | (apply q_pkT <;> apply Eq.refl) | (apply q_pkF <;> apply Eq.refl) | (apply q_ldba <;> apply Eq.refl) | (apply q_bld <;> apply Eq.refl)))
    | apply W_seq
    | apply W_region
    | apply T_normal
    | apply WL_nil
    | apply T_exit
    | apply B_normal
    | apply B_exit_eq
    | apply W_skip
    | apply W_exit
    | apply W_ret
    | apply W_block
    | (apply W_condF; apply Eq.refl)
    | (apply WL_n; apply Eq.refl; (first | (apply n_boxa <;> apply Eq.refl) | (apply n_alloc <;> apply Eq.refl) | (apply n_stb <;> apply Eq.refl)))
    | (apply WL_yes; apply Eq.refl; apply Eq.refl; apply Eq.refl)
    | (apply WL_no; apply Eq.refl; apply Eq.refl; apply Eq.refl; apply Eq.refl; apply Eq.refl)
    | (apply L_tD; apply Eq.refl; apply Eq.refl; apply Eq.refl; intro _; rotate_left 1; intro _; rotate_left 1)
    | apply W_regionG
    | (apply WG_nil; kernel_rfl)
    | (apply WG_q; (first | (apply want_none; apply Eq.refl) | (apply want_some; apply Eq.refl; apply Eq.refl; apply Eq.refl)); apply Eq.refl; first | (apply fq_bld <;> apply Eq.refl) | (apply fq_blda <;> apply Eq.refl) | (apply fq_fn; apply Eq.refl) | (apply fq_mf; apply Eq.refl) | (apply FQ_intro; intro _; (first | (apply q_mvI <;> apply Eq.refl) | (apply q_asI <;> apply Eq.refl) | (apply q_ldb <;> apply Eq.refl) | (apply q_fab <;> apply Eq.refl) | (apply q_cmp <;> apply Eq.refl) | (apply q_mvB <;> apply Eq.refl) | (apply q_arith <;> (first | apply Eq.refl | omega)) | (apply q_pkT <;> apply Eq.refl) | (apply q_pkF <;> apply Eq.refl) | (apply q_ldba <;> apply Eq.refl) | (apply q_bld <;> apply Eq.refl))))
    | (apply WG_call; (first | (apply want_none; apply Eq.refl) | (apply want_some; apply Eq.refl; apply Eq.refl; apply Eq.refl)); apply Eq.refl; apply Eq.refl; apply Eq.refl; exact (C1 (by omega)))
    | (apply WG_call; (first | (apply want_none; apply Eq.refl) | (apply want_some; apply Eq.refl; apply Eq.refl; apply Eq.refl)); apply Eq.refl; apply Eq.refl; apply Eq.refl; exact (C2 (by omega)))
    | (apply WG_n; (first | (apply want_none; apply Eq.refl) | (apply want_some; apply Eq.refl; apply Eq.refl; apply Eq.refl)); (first | (apply f_stb <;> apply Eq.refl)))
    | (apply W_cD; apply Eq.refl; intro _; rotate_left 1; intro _; rotate_left 1))
  all_goals first
    | (have G := hE (by assumption) (by first | assumption | (have := hZ (by omega); omega)); refine ⟨(x.1 + 1, t.start + x.1), G.1, G.2, ?_⟩; (refine ⟨?_, ?_, ?_⟩ <;> repeat' (first | exact trivial | apply And.intro | apply Eq.refl | (refine toI rfl ?_; omega) | (refine toB2 rfl ?_ ?_ <;> first | omega | exact hA (by first | assumption | (have := hZ (by omega); omega)) (by assumption) | exact hC (by assumption) | exact hB (by first | assumption | (have := hZ (by omega); omega)) | exact (hZ (by omega)).1 | exact (hZ (by omega)).2))); done)
    | (have G := hF (by assumption) (by first | assumption | (have := hZ (by omega); omega)); refine ⟨(x.1 + 1, x.2), G.1, G.2, ?_⟩; (refine ⟨?_, ?_, ?_⟩ <;> repeat' (first | exact trivial | apply And.intro | apply Eq.refl | (refine toI rfl ?_; omega) | (refine toB2 rfl ?_ ?_ <;> first | omega | exact hA (by first | assumption | (have := hZ (by omega); omega)) (by assumption) | exact hC (by assumption) | exact hB (by first | assumption | (have := hZ (by omega); omega)) | exact (hZ (by omega)).1 | exact (hZ (by omega)).2))); done)
    | skip
  all_goals (have G := hb2 (by assumption); refine fin_A rfl rfl rfl rfl rfl rfl rfl rfl ?_; rw [G.1, G.2, loK_end]; rfl)
end Go.Proofs.YtafnhieaeejlcaaDoor

