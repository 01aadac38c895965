/- Walks by computing: what each function of the program that the laws reach gives for what it gets, as plain Lean, and that it is so; without a condition but those that stand in each theorem. -/
import Derived.Test.YtoklcjdahicjmaaRows
import Derived.WalkKit
import Derived.ProofKit
import Derived.OpenShut
import Derived.Deep.Slices
import Derived.Deep.DeepHandedRow
import Derived.Lib.LaidTab
import Derived.Test.YtoklcjdahicjmaaW1
import Derived.Test.YtoklcjdahicjmaaW2
import Derived.Test.YtoklcjdahicjmaaW3
import Derived.Test.YtoklcjdahicjmaaW4
import Derived.Test.YtoklcjdahicjmaaW5
import Derived.Test.YtoklcjdahicjmaaW6
import Derived.Test.YtoklcjdahicjmaaW7
import Derived.Test.YtoklcjdahicjmaaW8
set_option linter.all false
/- The rescue: least times by the nearest spot first are the same; what truly is. -/
namespace Go.Proofs.Rescue07
open Go Go.Ab Go.Ways
set_option linter.all false
def dn (done : List Bool) (v : Int) : Bool := done.getD v.toNat false
/-- What holds between two rounds. -/
structure Dij (E : Edges) (n : Nat) (s : Int) (out : List Int) (done : List Bool) : Prop where
  fine : Fine E n 1000000 s out
  len : done.length = n
  s0 : gt out s ≤ 0
  near : ∀ u v : Int, 0 ≤ u → u < n → 0 ≤ v → v < n → dn done u = true → dn done v = false → gt out u ≤ gt out v
  stab : ∀ u v t, E u v t → dn done u = true → gt out v ≤ gt out u + t
theorem Dij.dist {E : Edges} {n : Nat} {s : Int} {out : List Int} {done : List Bool} (hg : GoodE E n 5000) (hs : 0 ≤ s ∧ s < n) (h : Dij E n s out done) (hend : ∀ v : Int, 0 ≤ v → v < n → dn done v = true ∨ 1000000 ≤ gt out v) : IsDist E s n 1000000 (gt out) := by
  refine ⟨fun v h0 h1 => (h.fine.2 v h0 h1).1, fun v h0 h1 => (h.fine.2 v h0 h1).2, fun v d hw => ?_⟩
  induction hw with
  | nil => exact h.s0
  | step hw he ih =>
    rename_i u v d t
    have hin := hg _ _ _ he
    rcases hend u (by omega) (by omega) with h1 | h1
    · have := h.stab _ _ _ he h1; omega
    · have := (h.fine.2 v (by omega) (by omega)).1; omega
end Go.Proofs.Rescue07


/- The rescue: true times of posts; RescueEnds. -/
namespace Go.Proofs.Rescue07
open Go Go.Ab Go.Ways
set_option linter.all false
/-- What truly is on the road and with the posts lies in what is said. -/
structure FactsT (r : Rescue) (f : Facts) : Prop where
  nT : f.Times.length = r.Paths.length
  tm : ∀ i, i < r.Paths.length → (r.Paths.getD i dfltPath).Time.Lo ≤ f.Times.getD i 0 ∧ f.Times.getD i 0 ≤ (r.Paths.getD i dfltPath).Time.Hi
  nO : f.Open.length = r.Paths.length
  op : ∀ i, i < r.Paths.length → ((r.Paths.getD i dfltPath).Open = 1 → f.Open.getD i false = true) ∧ ((r.Paths.getD i dfltPath).Open = 2 → f.Open.getD i false = false)
  nR : f.Ready.length = r.Posts.length
  rd : ∀ i, i < r.Posts.length → (r.Posts.getD i dfltPost).Ready.Lo ≤ f.Ready.getD i 0 ∧ f.Ready.getD i 0 ≤ (r.Posts.getD i dfltPost).Ready.Hi
  nF : f.Flies.length = r.Posts.length
  fl : ∀ i, i < r.Posts.length → ((r.Posts.getD i dfltPost).Flies = 1 → f.Flies.getD i false = true) ∧ ((r.Posts.getD i dfltPost).Flies = 2 → f.Flies.getD i false = false)
  nA : f.Air.length = r.Posts.length
  air : ∀ i, i < r.Posts.length → (f.Air.getD i []).length = (r.Posts.getD i dfltPost).Air.length ∧ ∀ k, k < (r.Posts.getD i dfltPost).Air.length → ((r.Posts.getD i dfltPost).Air.getD k dfltSpan).Lo ≤ (f.Air.getD i []).getD k 0 ∧ (f.Air.getD i []).getD k 0 ≤ ((r.Posts.getD i dfltPost).Air.getD k dfltSpan).Hi
def baseS (r : Rescue) (f : Facts) (p k : Nat) : Int := bif (r.Posts.getD p dfltPost).Flies == 0 then (bf r.Spots.toNat 1000000 (legs3 r.Paths f.Times f.Open) (r.Posts.getD p dfltPost).Spot).getD k 0 else (f.Air.getD p []).getD k 0
def truS (r : Rescue) (f : Facts) (p k : Nat) : Int := bif ((r.Posts.getD p dfltPost).Flies != 0) && !(f.Flies.getD p false) then 1000000 else min 1000000 (baseS r f p k + f.Ready.getD p 0)
theorem legs3_in {r : Rescue} (hv : RV r) {f : Facts} (hf : FactsT r f) : ∀ e ∈ legs3 r.Paths f.Times f.Open, LegIn r.Spots.toNat 5000 e := fun e he => by
  simp only [legs3, List.mem_map, List.mem_range] at he
  obtain ⟨i, hi, rfl⟩ := he
  obtain ⟨a0, a1, b0, b1, _, ⟨t0, t1, t2⟩, _⟩ := hv.paths _ (getD_mem (d := dfltPath) hi)
  have := hf.tm i hi
  unfold LegIn
  simp only; omega
theorem base_bnd {r : Rescue} (hv : RV r) {f : Facts} (hf : FactsT r f) {p k : Nat} (hp : p < r.Posts.length) (hk : k < r.Spots.toNat) : 0 ≤ baseS r f p k ∧ baseS r f p k ≤ 1000000 := by
  have hsp := hv.spots
  have hpo := hv.posts _ (getD_mem (d := dfltPost) hp)
  unfold baseS
  cases h : ((r.Posts.getD p dfltPost).Flies == 0) with
  | true =>
    have hs' : 0 ≤ (r.Posts.getD p dfltPost).Spot ∧ (r.Posts.getD p dfltPost).Spot < (r.Spots.toNat : Int) := by have := hpo.spot; omega
    have h1 := fine_pos (B := 1000000) (good_of (legs3_in hv hf)) (by decide) (bf_fine (legs3_in hv hf) hs' (by decide) r.Spots.toNat) (v := (k : Int)) (by omega) (by omega)
    unfold gt at h1
    simp only [Int.toNat_natCast] at h1
    exact h1
  | false =>
    have hf0 : (r.Posts.getD p dfltPost).Flies ≠ 0 := by simpa using h
    obtain ⟨hl, a1, a2, a3⟩ := air_in hpo hf0 hk
    have := (hf.air p hp).2 k hl
    simp only [cond_false]; omega
/-- True times lie in what is known. -/
theorem truS_in {r : Rescue} (hv : RV r) {f : Facts} (hf : FactsT r f) {p k : Nat} (hp : p < r.Posts.length) (hk : k < r.Spots.toNat) : (goS r (r.Posts.getD p dfltPost) k).Lo ≤ truS r f p k ∧ truS r f p k ≤ (goS r (r.Posts.getD p dfltPost) k).Hi := by
  have hsp := hv.spots
  have hpo := hv.posts _ (getD_mem (d := dfltPost) hp)
  have hrd := hf.rd p hp
  obtain ⟨r1, r2, r3⟩ := hpo.ready
  have hfl := hf.fl p hp
  have hb := base_bnd hv hf hp hk
  have key : loS r (r.Posts.getD p dfltPost) k ≤ baseS r f p k ∧ baseS r f p k ≤ hiS r (r.Posts.getD p dfltPost) k := by
    unfold loS hiS baseS
    cases h : ((r.Posts.getD p dfltPost).Flies == 0) with
    | true =>
      simp only [cond_true]
      have hs' : 0 ≤ (r.Posts.getD p dfltPost).Spot ∧ (r.Posts.getD p dfltPost).Spot < (r.Spots.toNat : Int) := by have := hpo.spot; omega
      have d1 := bf_dist (B := 1000000) (legs_mem hv true) hs' (by decide)
      have d2 := bf_dist (B := 1000000) (legs_mem hv false) hs' (by decide)
      have d3 := bf_dist (B := 1000000) (legs3_in hv hf) hs' (by decide)
      have m1 : ∀ u v t, EdgesOf (legs3 r.Paths f.Times f.Open) u v t → ∃ t', EdgesOf (legsOf r.Paths true) u v t' ∧ t' ≤ t := by
        rintro u v t ⟨e, he, ho, rfl, hab⟩
        simp only [legs3, List.mem_map, List.mem_range] at he
        obtain ⟨i, hi, rfl⟩ := he
        refine ⟨(r.Paths.getD i dfltPath).Time.Lo, ⟨_, List.mem_map_of_mem (getD_mem (d := dfltPath) hi), ?_, rfl, hab⟩, (hf.tm i hi).1⟩
        simp only [cond_true, bne_iff_ne, ne_eq]
        intro h2
        have := (hf.op i hi).2 h2
        simp only at ho
        rw [this] at ho; cases ho
      have m2 : ∀ u v t, EdgesOf (legsOf r.Paths false) u v t → ∃ t', EdgesOf (legs3 r.Paths f.Times f.Open) u v t' ∧ t' ≤ t := by
        rintro u v t ⟨e, he, ho, rfl, hab⟩
        simp only [legsOf, List.mem_map] at he
        obtain ⟨q, hq, rfl⟩ := he
        obtain ⟨i, hi, rfl⟩ := List.getElem_of_mem hq
        have hg : r.Paths.getD i dfltPath = r.Paths[i] := by rw [List.getD_eq_getElem?_getD, List.getElem?_eq_getElem hi]; rfl
        have ht := hf.tm i hi
        have hop := hf.op i hi
        rw [hg] at ht hop
        simp only [cond_false, beq_iff_eq] at ho hab
        refine ⟨f.Times.getD i 0, ⟨_, List.mem_map_of_mem (List.mem_range.2 hi), hop.1 ho, rfl, ?_⟩, ht.2⟩
        rw [hg]; exact hab
      have a := d1.mono d3 m1 (v := (k : Int)) (by omega) (by omega)
      have b := d3.mono d2 m2 (v := (k : Int)) (by omega) (by omega)
      unfold gt at a b
      simp only [Int.toNat_natCast] at a b
      exact ⟨a, b⟩
    | false =>
      have hf0 : (r.Posts.getD p dfltPost).Flies ≠ 0 := by simpa using h
      obtain ⟨hl, _⟩ := air_in hpo hf0 hk
      exact (hf.air p hp).2 k hl
  obtain ⟨k1, k2⟩ := key
  have hfv := hpo.flies
  unfold goS truS
  have h4 : (r.Posts.getD p dfltPost).Flies = 0 ∨ (r.Posts.getD p dfltPost).Flies = 1 ∨ (r.Posts.getD p dfltPost).Flies = 2 ∨ (r.Posts.getD p dfltPost).Flies = 3 := by omega
  rcases h4 with h4 | h4 | h4 | h4 <;> rw [h4] at hfl ⊢
  · simp only [show ((0:Int) == 2) = false from rfl, show ((0:Int) == 3) = false from rfl, show ((0:Int) != 0) = false from rfl, Bool.false_and, Bool.or_false, cond_false]; omega
  · rw [hfl.1 rfl]
    simp only [show ((1:Int) == 2) = false from rfl, show ((1:Int) == 3) = false from rfl, Bool.not_true, Bool.and_false, Bool.or_false, cond_false]; omega
  · rw [hfl.2 rfl]
    simp only [show ((2:Int) == 2) = true from rfl, show ((2:Int) != 0) = true from rfl, Bool.not_false, Bool.and_true, Bool.true_or, cond_true]; omega
  · simp only [show ((3:Int) == 2) = false from rfl, show ((3:Int) == 3) = true from rfl, show ((3:Int) != 0) = true from rfl, Bool.true_and, Bool.false_or, cond_true, cond_false]
    cases f.Flies.getD p false <;> simp only [Bool.not_true, Bool.not_false, cond_true, cond_false] <;> omega
/- The ends. -/
def extS (r : Rescue) (b : Bool) : Facts := ⟨r.Paths.map fun p => bif b then p.Time.Lo else p.Time.Hi, r.Posts.map fun p => bif b then p.Ready.Lo else p.Ready.Hi, [], [], r.Paths.map fun p => p.Open == 1 || (p.Open == 3 && b), r.Posts.map fun p => p.Flies == 1 || (p.Flies == 3 && b), r.Posts.map fun p => p.Air.map fun x => bif b then x.Lo else x.Hi⟩
theorem ext_facts {r : Rescue} (hv : RV r) (b : Bool) : FactsT r (extS r b) := by
  refine ⟨by simp [extS], fun i hi => ?_, by simp [extS], fun i hi => ?_, by simp [extS], fun i hi => ?_, by simp [extS], fun i hi => ?_, by simp [extS], fun i hi => ?_⟩ <;> simp only [extS]
  · rw [getD_map (d := dfltPath) _ hi]
    have := (hv.paths _ (getD_mem (d := dfltPath) hi)).time.2.1
    cases b <;> simp only [cond_true, cond_false] <;> omega
  · rw [getD_map (d := dfltPath) _ hi]
    exact ⟨fun h => by rw [h]; rfl, fun h => by rw [h]; rfl⟩
  · rw [getD_map (d := dfltPost) _ hi]
    have := (hv.posts _ (getD_mem (d := dfltPost) hi)).ready.2.1
    cases b <;> simp only [cond_true, cond_false] <;> omega
  · rw [getD_map (d := dfltPost) _ hi]
    exact ⟨fun h => by rw [h]; rfl, fun h => by rw [h]; rfl⟩
  · rw [getD_map (d := dfltPost) _ hi]
    refine ⟨by simp, fun k hk => ?_⟩
    rw [getD_map (d := dfltSpan) _ hk]
    have := ((hv.posts _ (getD_mem (d := dfltPost) hi)).air.2 _ (getD_mem (d := dfltSpan) hk)).2.1
    cases b <;> simp only [cond_true, cond_false] <;> omega
end Go.Proofs.Rescue07


/- The rescue: what truly is, made of numbers; RescueTruth. -/
namespace Go.Proofs.Rescue07
open Go Go.Ab Go.Ways
set_option linter.all false
def Pw {α : Type} (P : Nat → α → Prop) (d : α) (l : List α) : Prop := ∀ j, j < l.length → P j (l.getD j d)
theorem Pw.nil {α : Type} {P : Nat → α → Prop} {d : α} : Pw P d [] := fun j hj => by simp at hj
theorem Pw.snoc {α : Type} {P : Nat → α → Prop} {d : α} {l : List α} {x : α} (h : Pw P d l) (hx : P l.length x) : Pw P d (l ++ [x]) := fun j hj => by
  rw [getD_snoc]
  by_cases hl : j < l.length
  · rw [if_pos hl]; exact h j hl
  · have : j = l.length := by simp at hj; omega
    subst this
    rw [if_neg (by omega), if_pos rfl]; exact hx
theorem Inside_ok (s : Seed) {x : Span} {a b : Int} (h : SpIn x a b) (ha : -100000 ≤ a) (hb : b ≤ 100000) : Ok (fun r => x.Lo ≤ r.2 ∧ r.2 ≤ x.Hi) (Inside s x) := by
  obtain ⟨h0, h1, h2⟩ := h
  rw [Inside_eq]; unfold Inside'
  refine Ok.bind (From_ok s (by omega) (by omega) (by omega)) fun r1 q1 => ?_
  refine Ok.bind (From_ok _ (by omega) (by omega) (by omega)) fun r2 q2 => ?_
  refine Ok.bind (Of_ok _ (by simp) (by simp)) fun r3 q3 => Ok.some ?_
  simp only [List.mem_cons, List.not_mem_nil, or_false] at q3
  simp only
  omega
structure FactsV (r : Rescue) (f : Facts) : Prop where
  t : FactsT r f
  nW : f.Water.length = r.Water.length
  wa : ∀ i, i < r.Water.length → (r.Water.getD i dfltSpan).Lo ≤ f.Water.getD i 0 ∧ f.Water.getD i 0 ≤ (r.Water.getD i dfltSpan).Hi
  nL : f.Live.length = r.Chills.length
  li : ∀ i, i < r.Chills.length → (r.Chills.getD i dfltChill).Minutes.Lo ≤ f.Live.getD i 0 ∧ f.Live.getD i 0 ≤ (r.Chills.getD i dfltChill).Minutes.Hi
/- For how long one truly lives. -/
/-- The chills below a warmth: how many. -/
def lastC (l : List Chill) (w : Int) : Nat → Nat
  | 0 => 0
  | i + 1 => bif decide ((l.getD i dfltChill).Warm ≤ w) then i else lastC l w i
theorem min_mono {l : List Chill} (hl : ChillV l) : ∀ {i j : Nat}, i ≤ j → j < l.length → (l.getD i dfltChill).Minutes.Lo ≤ (l.getD j dfltChill).Minutes.Lo ∧ (l.getD i dfltChill).Minutes.Hi ≤ (l.getD j dfltChill).Minutes.Hi
  | i, 0, h, _ => by have : i = 0 := by omega
                     subst this; exact ⟨Int.le_refl _, Int.le_refl _⟩
  | i, j + 1, h, hj => by
    by_cases he : i = j + 1
    · subst he; exact ⟨Int.le_refl _, Int.le_refl _⟩
    · have h1 := min_mono hl (i := i) (j := j) (by omega) (by omega)
      have h2 := hl.upm (j + 1) (by omega) hj
      simp only [Nat.add_sub_cancel] at h2
      omega
theorem lastC_lt (l : List Chill) (w : Int) : ∀ n, 0 < n → lastC l w n < n
  | 0, h => by omega
  | n + 1, _ => by
    simp only [lastC]
    cases decide ((l.getD n dfltChill).Warm ≤ w) with
    | true => simp
    | false =>
      simp only [cond_false]
      by_cases h : 0 < n
      · have := lastC_lt l w n h; omega
      · have : n = 0 := by omega
        subst this; simp [lastC]
theorem lastC_mono {l : List Chill} {v w : Int} (h : v ≤ w) : ∀ n, lastC l v n ≤ lastC l w n
  | 0 => Nat.le_refl _
  | n + 1 => by
    simp only [lastC]
    cases hv : decide ((l.getD n dfltChill).Warm ≤ v) with
    | true =>
      have := of_decide_eq_true hv
      rw [decide_eq_true (show (l.getD n dfltChill).Warm ≤ w by omega)]; exact Nat.le_refl _
    | false =>
      cases decide ((l.getD n dfltChill).Warm ≤ w) with
      | true =>
        simp only [cond_true, cond_false]
        by_cases h0 : 0 < n
        · have := lastC_lt l v n h0; omega
        · have : n = 0 := by omega
          subst this; simp [lastC]
      | false => exact lastC_mono h n
theorem fold_last {α : Type} {l : List Chill} {w : Int} (g : Nat → α) : ∀ n, (∃ i, i < n ∧ (l.getD i dfltChill).Warm ≤ w) → ∀ x : α, (List.range n).foldl (fun y i => bif decide ((l.getD i dfltChill).Warm ≤ w) then g i else y) x = g (lastC l w n)
  | 0, ⟨i, hi, _⟩, x => by omega
  | n + 1, h, x => by
    rw [range_fold_succ]
    simp only [lastC]
    cases hd : decide ((l.getD n dfltChill).Warm ≤ w) with
    | true => rfl
    | false =>
      simp only [cond_false]
      refine fold_last g n ?_ x
      obtain ⟨i, hi, hw⟩ := h
      refine ⟨i, ?_, hw⟩
      have := of_decide_eq_false hd
      by_cases he : i = n
      · subst he; omega
      · omega
theorem fold_range {α β : Type} (f : β → α → β) (d : α) (l : List α) (x : β) : l.foldl f x = (List.range l.length).foldl (fun y i => f y (l.getD i d)) x := by
  conv => lhs; rw [eq_range (l := l) d]
  rw [List.foldl_map]
theorem chill_last {l : List Chill} (hl : ChillV l) {w : Int} (hw : -400 ≤ w) : chillS l w = (l.getD (lastC l w l.length) dfltChill).Minutes := by
  unfold chillS
  rw [fold_range _ dfltChill]
  exact fold_last (l := l) (w := w) (fun i => (l.getD i dfltChill).Minutes) l.length ⟨0, by have := hl.len; omega, by rw [hl.head]; exact hw⟩ _
/- RescueTruth. -/
def firS (r : Rescue) (f : Facts) (m : Int) (n k : Nat) : Int := (List.range n).foldl (fun x p => bif mannedB (r.Posts.getD p dfltPost) m then min x (truS r f p k) else x) 1000000
theorem fir_in {r : Rescue} (hv : RV r) {f : Facts} (hf : FactsT r f) (m : Int) {k : Nat} (hk : k < r.Spots.toNat) : (reachS r m k).Lo ≤ firS r f m r.Posts.length k ∧ firS r f m r.Posts.length k ≤ (reachS r m k).Hi := by
  unfold reachS
  rw [fold_range _ dfltPost]
  have : ∀ n, n ≤ r.Posts.length → ((List.range n).foldl (fun y i => bif mannedB (r.Posts.getD i dfltPost) m then minS y (goS r (r.Posts.getD i dfltPost) k) else y) topS).Lo ≤ firS r f m n k ∧ firS r f m n k ≤ ((List.range n).foldl (fun y i => bif mannedB (r.Posts.getD i dfltPost) m then minS y (goS r (r.Posts.getD i dfltPost) k) else y) topS).Hi := by
    intro n
    induction n with
    | zero => intro _; exact ⟨Int.le_refl _, Int.le_refl _⟩
    | succ n ih =>
      intro hn
      have hi := ih (by omega)
      have ht := truS_in hv hf (show n < r.Posts.length by omega) hk
      have e2 : firS r f m (n + 1) k = bif mannedB (r.Posts.getD n dfltPost) m then min (firS r f m n k) (truS r f n k) else firS r f m n k := by unfold firS; rw [range_fold_succ]
      rw [range_fold_succ, e2]
      obtain ⟨X, hX⟩ : ∃ X, (List.range n).foldl (fun y i => bif mannedB (r.Posts.getD i dfltPost) m then minS y (goS r (r.Posts.getD i dfltPost) k) else y) topS = X := ⟨_, rfl⟩
      rw [hX] at hi ⊢
      cases mannedB (r.Posts.getD n dfltPost) m with
      | true => simp only [cond_true, minS]; omega
      | false => exact hi
  exact this _ (Nat.le_refl _)
end Go.Proofs.Rescue07


/- The rescue: copies, and rescues of which more is known. -/
namespace Go.Proofs.Rescue07
open Go Go.Ab Go.Ways
set_option linter.all false
theorem getD_self {α : Type} {l : List α} {i : Nat} {x d : α} (h : i < l.length) : (l.set i x).getD i d = x := by
  rw [List.getD_eq_getElem?_getD, List.getElem?_set]; simp [h]
theorem getD_setG {α : Type} {l : List α} {i j : Nat} {x d : α} (h : i < l.length) : (l.set i x).getD j d = if j = i then x else l.getD j d := by
  rw [List.getD_eq_getElem?_getD, List.getElem?_set]
  by_cases e : i = j
  · subst e; simp [h]
  · have : ¬ j = i := fun h => e h.symm
    simp [e, this, List.getD_eq_getElem?_getD]
theorem set_same {α : Type} {l : List α} {i : Nat} {d : α} (h : i < l.length) : l.set i (l.getD i d) = l := by
  rw [List.getD_eq_getElem?_getD, List.getElem?_eq_getElem h]
  simp
theorem OwnSpans_sp (l : List Span) (hl : l.length ≤ 1000000) : OwnSpans l = some l := by
  rw [OwnSpans_eq]; unfold OwnSpans'
  rw [fitA_ok (by simp; omega) (by decide)]
  simp [chk]
abbrev VO3 := (Unit × Unit × Int × Unit) × ((Int × Unit × (List Post) × (List Span) × (List Chill) × Unit) × Unit)
theorem OwnRescue_sp {r : Rescue} (hv : RV r) : OwnRescue r = some r := by
  have hf := hv.few
  have hsp := hv.spots
  have hnp := hv.nPosts
  rw [OwnRescue_eq]; unfold OwnRescue'
  apply ok_eq
  have h1 := hv.nPaths
  have hwl := hv.water.1
  have hcl := hv.chills.len
  refine Ok.chk (fitA_ok (by simp; omega) (by decide)) (Ok.chk (fitA_ok (by simp; omega) (by decide)) ?_)
  refine Ok.rounds (fun (v : VO3) => 0 ≤ v.1.2.2.1 ∧ v.1.2.2.1 ≤ r.Posts.length ∧ v.2.1 = (r.Spots, (), r.Posts, r.Water, r.Chills, ())) (fun (v : VO3) => (r.Posts.length - v.1.2.2.1).toNat) (FUEL_big (by show ((r.Posts.length : Int) - 0).toNat ≤ _; omega)) ⟨Int.le_refl _, by simp, by simp⟩ ?_
  rintro ⟨⟨u1, u2, i, u3⟩, ⟨p, u4⟩⟩ kn ⟨i0, i1, i2⟩ hk
  simp only at i0 i1 i2 hk
  subst i2
  simp only
  unfold OwnRescue_L3
  refine Ok.ite (fun hc => ?_) (fun hc => ?_)
  · have hi := of_decide_eq_true hc
    have hi' : i.toNat < r.Posts.length := by omega
    have e1 : w64 (i + 1) = i + 1 := w64_id (by omega) (by omega)
    have cb := ib i0 hi
    have cb2 : decide (i.toNat < r.Posts.length) = true := decide_eq_true hi'
    refine Ok.chk cb (Ok.chk cb2 (Ok.beq (OwnSpans_sp _ (Nat.le_trans (hf.1 _ (getD_mem hi')) (by decide))) (Ok.chk cb (Ok.chk cb2 (Ok.chk cb2 ?_)))))
    rw [e1]
    have e2 : r.Posts.set i.toNat (⟨(r.Posts.getD i.toNat dfltPost).Spot, (r.Posts.getD i.toNat dfltPost).Ready, (r.Posts.getD i.toNat dfltPost).From, (r.Posts.getD i.toNat dfltPost).To, (r.Posts.getD i.toNat dfltPost).Flies, (r.Posts.getD i.toNat dfltPost).Air⟩ : Post) = r.Posts := set_same hi'
    rw [e2]
    exact hk ((u1, u2, i + 1, u3), _) ⟨by simp only; omega, by simp only; omega, rfl⟩ (by simp only; omega)
  · refine Ok.beq (OwnSpans_sp _ (by omega)) (Ok.chk (fitA_ok (by simp; omega) (by decide)) (Ok.some ?_))
    simp
theorem Part_ok (s : Seed) {x : Span} {a b : Int} (h : SpIn x a b) (ha : -100000 ≤ a) (hb : b ≤ 100000) : Ok (fun r => SpIn r.2 x.Lo x.Hi) (Part s x) := by
  rw [Part_eq]; unfold Part'
  refine Ok.bind (Inside_ok s h ha hb) fun p hp => Ok.bind (Inside_ok _ h ha hb) fun q hq => Ok.some ?_
  unfold SpIn
  simp only; omega
theorem decided_ok (s : Seed) (v : Int) : Ok (fun r => (v ≠ 3 → r.2 = v) ∧ (v = 3 → 1 ≤ r.2 ∧ r.2 ≤ 3)) (decided s v) := by
  rw [decided_eq]; unfold decided'
  refine Ok.ite (fun h => Ok.some ⟨fun _ => rfl, fun e => by simp [e] at h⟩) fun h => ?_
  have h : v = 3 := by simpa using h
  exact Ok.bind (From_ok s (by decide) (by decide) (by decide)) fun r hr => Ok.some ⟨fun e => absurd h e, fun _ => hr⟩
abbrev VPa := (Unit × (List Span) × Int × Unit) × ((Int × Unit) × Unit)
theorem Parts_ok (s : Seed) {l : List Span} {a b : Int} (hl : l.length ≤ 1000) (h : ∀ x ∈ l, SpIn x a b) (ha : -100000 ≤ a) (hb : b ≤ 100000) : Ok (fun r => r.2.length = l.length ∧ ∀ i, i < l.length → SpIn (r.2.getD i dfltSpan) (l.getD i dfltSpan).Lo (l.getD i dfltSpan).Hi) (Parts s l) := by
  rw [Parts_eq]; unfold Parts'
  refine Ok.rounds (fun (v : VPa) => 0 ≤ v.1.2.2.1 ∧ v.1.2.2.1 ≤ l.length ∧ (v.1.2.1.length : Int) = v.1.2.2.1 ∧ Pw (fun i x => SpIn x (l.getD i dfltSpan).Lo (l.getD i dfltSpan).Hi) dfltSpan v.1.2.1) (fun (v : VPa) => (l.length - v.1.2.2.1).toNat) (FUEL_big (by show ((l.length : Int) - 0).toNat ≤ _; omega)) ⟨Int.le_refl _, by simp, rfl, Pw.nil⟩ ?_
  rintro ⟨⟨u1, out, i, u2⟩, ⟨⟨w, u3⟩, u4⟩⟩ kn ⟨i0, i1, i2, i3⟩ hk
  simp only at i0 i1 i2 i3 hk ⊢
  unfold Parts_L3
  refine Ok.ite (fun hc => ?_) (fun hc => ?_)
  · have hi := of_decide_eq_true hc
    have hi' : i.toNat < l.length := by omega
    have e1 : w64 (i + 1) = i + 1 := w64_id (by omega) (by omega)
    refine Ok.chk (ib i0 hi) (Ok.bind (Part_ok _ (h _ (getD_mem (d := dfltSpan) hi')) ha hb) fun p hp => Ok.chk (fitA_ok (by simp; omega) (by decide)) ?_)
    rw [e1]
    refine hk ((u1, _, i + 1, u2), ((_, u3), u4)) ⟨by simp only; omega, by simp only; omega, by simp; omega, i3.snoc ?_⟩ (by simp only; omega)
    rw [show out.length = i.toNat by omega]; exact hp
  · have hi := of_decide_eq_false hc
    exact Ok.some ⟨by simp only; omega, fun j hj => i3 j (by omega)⟩
/-- More is known of a verdict. -/
def VIn (v w : Int) : Prop := (v ≠ 3 → w = v) ∧ (v = 3 → 1 ≤ w ∧ w ≤ 3)
structure PathIn (p q : Path) : Prop where
  a : q.A = p.A
  b : q.B = p.B
  time : SpIn q.Time p.Time.Lo p.Time.Hi
  op : VIn p.Open q.Open
structure PostIn (p q : Post) : Prop where
  spot : q.Spot = p.Spot
  from_ : q.From = p.From
  to_ : q.To = p.To
  ready : SpIn q.Ready p.Ready.Lo p.Ready.Hi
  flies : VIn p.Flies q.Flies
  nAir : q.Air.length = p.Air.length
  air : ∀ i, i < p.Air.length → SpIn (q.Air.getD i dfltSpan) (p.Air.getD i dfltSpan).Lo (p.Air.getD i dfltSpan).Hi
structure ChillIn (c d : Chill) : Prop where
  warm : d.Warm = c.Warm
  min : SpIn d.Minutes c.Minutes.Lo c.Minutes.Hi
structure Inr (r q : Rescue) : Prop where
  spots : q.Spots = r.Spots
  nPaths : q.Paths.length = r.Paths.length
  paths : ∀ i, i < r.Paths.length → PathIn (r.Paths.getD i dfltPath) (q.Paths.getD i dfltPath)
  nPosts : q.Posts.length = r.Posts.length
  posts : ∀ i, i < r.Posts.length → PostIn (r.Posts.getD i dfltPost) (q.Posts.getD i dfltPost)
  nWater : q.Water.length = r.Water.length
  water : ∀ i, i < r.Water.length → SpIn (q.Water.getD i dfltSpan) (r.Water.getD i dfltSpan).Lo (r.Water.getD i dfltSpan).Hi
  nChills : q.Chills.length = r.Chills.length
  chills : ∀ i, i < r.Chills.length → ChillIn (r.Chills.getD i dfltChill) (q.Chills.getD i dfltChill)
  upm : ∀ i, 0 < i → i < r.Chills.length → (q.Chills.getD (i - 1) dfltChill).Minutes.Lo ≤ (q.Chills.getD i dfltChill).Minutes.Lo ∧ (q.Chills.getD (i - 1) dfltChill).Minutes.Hi ≤ (q.Chills.getD i dfltChill).Minutes.Hi
abbrev VN3 := (Unit × Unit × Unit × Int × Unit) × ((Int × Unit) × (Int × (List Path) × Unit × Unit × Unit × Unit) × Unit)
abbrev VN7 := (Unit × Unit × Unit × Int × Unit) × ((Int × Unit) × (Int × Unit × (List Post) × Unit × Unit × Unit) × Unit)
abbrev VN13 := (Unit × Unit × Unit × Int × Unit) × ((Int × Unit) × (Int × Unit × Unit × (List Span) × (List Chill) × Unit) × Unit)
theorem InnerRescue_ok (s : Seed) {r : Rescue} (hv : RV r) : Ok (fun x => Inr r x.2) (InnerRescue s r) := by
  have hsp := hv.spots
  have hnp := hv.nPosts
  have hna := hv.nPaths
  have hwl := hv.water.1
  have hcl := hv.chills.len
  rw [InnerRescue_eq]; unfold InnerRescue'
  refine Ok.beq (OwnRescue_sp hv) ?_
  refine Ok.rounds (fun (v : VN3) => 0 ≤ v.1.2.2.2.1 ∧ v.1.2.2.2.1 ≤ r.Paths.length ∧ v.2.2.1.1 = r.Spots ∧ v.2.2.1.2.1.length = r.Paths.length ∧ ∀ j : Nat, j < r.Paths.length → if (j : Int) < v.1.2.2.2.1 then PathIn (r.Paths.getD j dfltPath) (v.2.2.1.2.1.getD j dfltPath) else v.2.2.1.2.1.getD j dfltPath = r.Paths.getD j dfltPath) (fun (v : VN3) => (r.Paths.length - v.1.2.2.2.1).toNat) (FUEL_big (by show ((r.Paths.length : Int) - 0).toNat ≤ _; omega)) ⟨Int.le_refl _, by simp, rfl, rfl, fun j hj => by simp only; rw [if_neg (by omega)]; trivial⟩ ?_
  rintro ⟨⟨u1, u2, u3, i, u4⟩, ⟨⟨w, u5⟩, ⟨sp, pa, u6, u7, u8, u9⟩, u10⟩⟩ kn ⟨i0, i1, i2, i3, i4⟩ hk
  simp only at i0 i1 i2 i3 i4 hk ⊢
  subst i2
  unfold InnerRescue_L3
  rw [i3]
  refine Ok.ite (fun hc => ?_) (fun hc => ?_)
  · have hi := of_decide_eq_true hc
    have hi' : i.toNat < r.Paths.length := by omega
    have hil : i.toNat < pa.length := by omega
    have e1 : w64 (i + 1) = i + 1 := w64_id (by omega) (by omega)
    have cb := ib i0 hi
    have cb2 : decide (i.toNat < r.Paths.length) = true := decide_eq_true hi'
    have hg := i4 i.toNat hi'
    rw [if_neg (by omega)] at hg
    have hpv := hv.paths _ (getD_mem (d := dfltPath) hi')
    rw [hg]
    simp only [List.length_set, i3, cb, cb2, chk, cond_true, getD_self hil, List.set_set, e1]
    refine Ok.bind (Part_ok _ hpv.time (by decide) (by decide)) fun t ht => Ok.bind (decided_ok _ _) fun o ho => ?_
    refine hk ((u1, u2, u3, i + 1, u4), ((_, u5), (_, _, u6, u7, u8, u9), u10)) ⟨by simp only; omega, by simp only; omega, rfl, by simp [i3], fun j hj => ?_⟩ (by simp only; omega)
    simp only
    rw [getD_setG hil]
    by_cases hji : j = i.toNat
    · subst hji
      rw [if_pos (by omega), if_pos rfl]
      exact ⟨rfl, rfl, ht, ho⟩
    · have := i4 j hj
      rw [if_neg hji]
      by_cases hlt : (j : Int) < i
      · rw [if_pos (by omega)]; rw [if_pos hlt] at this; exact this
      · rw [if_neg (by omega)]; rw [if_neg hlt] at this; exact this
  · have hi := of_decide_eq_false hc
    have hP : ∀ j, j < r.Paths.length → PathIn (r.Paths.getD j dfltPath) (pa.getD j dfltPath) := fun j hj => by have := i4 j hj; rwa [if_pos (by omega)] at this
    refine Ok.rounds (fun (v : VN7) => 0 ≤ v.1.2.2.2.1 ∧ v.1.2.2.2.1 ≤ r.Posts.length ∧ v.2.2.1.1 = r.Spots ∧ v.2.2.1.2.2.1.length = r.Posts.length ∧ ∀ j : Nat, j < r.Posts.length → if (j : Int) < v.1.2.2.2.1 then PostIn (r.Posts.getD j dfltPost) (v.2.2.1.2.2.1.getD j dfltPost) else v.2.2.1.2.2.1.getD j dfltPost = r.Posts.getD j dfltPost) (fun (v : VN7) => (r.Posts.length - v.1.2.2.2.1).toNat) (FUEL_big (by show ((r.Posts.length : Int) - 0).toNat ≤ _; omega)) ⟨Int.le_refl _, by simp, rfl, rfl, fun j hj => by simp only; rw [if_neg (by omega)]; trivial⟩ ?_
    rintro ⟨⟨v1, v2, v3, k, v4⟩, ⟨⟨w2, v5⟩, ⟨sp, v6, po, v7, v8, v9⟩, v10⟩⟩ kn2 ⟨k0, k1, k2, k3, k4⟩ hk2
    simp only at k0 k1 k2 k3 k4 hk2 ⊢
    subst k2
    unfold InnerRescue_L7
    rw [k3]
    refine Ok.ite (fun hc => ?_) (fun hc => ?_)
    · have hkk := of_decide_eq_true hc
      have hk' : k.toNat < r.Posts.length := by omega
      have hkl : k.toNat < po.length := by omega
      have e1 : w64 (k + 1) = k + 1 := w64_id (by omega) (by omega)
      have cb := ib k0 hkk
      have cb2 : decide (k.toNat < r.Posts.length) = true := decide_eq_true hk'
      have hg := k4 k.toNat hk'
      rw [if_neg (by omega)] at hg
      have hpv := hv.posts _ (getD_mem (d := dfltPost) hk')
      have hkl2 : ∀ x : Post, k.toNat < (po.set k.toNat x).length := fun x => by rw [List.length_set]; exact hkl
      rw [hg]
      simp only [List.length_set, k3, cb, cb2, chk, cond_true, getD_self hkl, List.set_set, e1]
      have hair : (r.Posts.getD k.toNat dfltPost).Air.length ≤ 1000 := by
        have := hpv.air.1
        split at this <;> omega
      refine Ok.bind (Part_ok _ hpv.ready (by decide) (by decide)) fun t ht => Ok.bind (decided_ok _ _) fun o ho => Ok.bind (Parts_ok _ hair hpv.air.2 (by decide) (by decide)) fun a ha => ?_
      refine hk2 ((v1, v2, v3, k + 1, v4), ((_, v5), (_, v6, _, v7, v8, v9), v10)) ⟨by simp only; omega, by simp only; omega, rfl, by simp [k3], fun j hj => ?_⟩ (by simp only; omega)
      simp only
      rw [getD_setG hkl]
      by_cases hji : j = k.toNat
      · subst hji
        rw [if_pos (by omega), if_pos rfl]
        exact ⟨rfl, rfl, rfl, ht, ho, ha.1, ha.2⟩
      · have := k4 j hj
        rw [if_neg hji]
        by_cases hlt : (j : Int) < k
        · rw [if_pos (by omega)]; rw [if_pos hlt] at this; exact this
        · rw [if_neg (by omega)]; rw [if_neg hlt] at this; exact this
    · have hkk := of_decide_eq_false hc
      have hQ : ∀ j, j < r.Posts.length → PostIn (r.Posts.getD j dfltPost) (po.getD j dfltPost) := fun j hj => by have := k4 j hj; rwa [if_pos (by omega)] at this
      refine Ok.bind (Parts_ok _ (by omega) hv.water.2 (by decide) (by decide)) fun wa hwa => ?_
      refine Ok.rounds (fun (v : VN13) => 0 ≤ v.1.2.2.2.1 ∧ v.1.2.2.2.1 ≤ r.Chills.length ∧ v.2.2.1.1 = r.Spots ∧ v.2.2.1.2.2.2.1 = wa.2 ∧ v.2.2.1.2.2.2.2.1.length = r.Chills.length ∧ (∀ j : Nat, j < r.Chills.length → if (j : Int) < v.1.2.2.2.1 then ChillIn (r.Chills.getD j dfltChill) (v.2.2.1.2.2.2.2.1.getD j dfltChill) else v.2.2.1.2.2.2.2.1.getD j dfltChill = r.Chills.getD j dfltChill) ∧ ∀ j : Nat, 0 < j → (j : Int) < v.1.2.2.2.1 → (v.2.2.1.2.2.2.2.1.getD (j - 1) dfltChill).Minutes.Lo ≤ (v.2.2.1.2.2.2.2.1.getD j dfltChill).Minutes.Lo ∧ (v.2.2.1.2.2.2.2.1.getD (j - 1) dfltChill).Minutes.Hi ≤ (v.2.2.1.2.2.2.2.1.getD j dfltChill).Minutes.Hi) (fun (v : VN13) => (r.Chills.length - v.1.2.2.2.1).toNat) (FUEL_big (by show ((r.Chills.length : Int) - 0).toNat ≤ _; omega)) ⟨Int.le_refl _, by simp, rfl, rfl, rfl, (fun j hj => by simp only; rw [if_neg (by omega)]; trivial), fun j h1 h2 => by simp only at h2; omega⟩ ?_
      rintro ⟨⟨x1, x2, x3, m, x4⟩, ⟨⟨w3, x5⟩, ⟨sp, x6, x7, ws, cs, x8⟩, x9⟩⟩ kn3 ⟨m0, m1, m2, m3, m4, m5, m6⟩ hk3
      simp only at m0 m1 m2 m3 m4 m5 m6 hk3 ⊢
      subst m2 m3
      unfold InnerRescue_L13
      rw [m4]
      refine Ok.ite (fun hc => ?_) (fun hc => ?_)
      · have hm := of_decide_eq_true hc
        have hm' : m.toNat < r.Chills.length := by omega
        have hml : m.toNat < cs.length := by omega
        have e1 : w64 (m + 1) = m + 1 := w64_id (by omega) (by omega)
        have cb := ib m0 hm
        have cb2 : decide (m.toNat < r.Chills.length) = true := decide_eq_true hm'
        have hg := m5 m.toNat hm'
        rw [if_neg (by omega)] at hg
        rw [hg]
        have hmn := hv.chills.min m.toNat hm'
        refine Ok.chk cb (Ok.chk cb2 (Ok.bind (Part_ok _ hmn (by decide) (by decide)) fun t ht => ?_))
        obtain ⟨t1, t2, t3⟩ := ht
        have next : ∀ x : Span, SpIn x (r.Chills.getD m.toNat dfltChill).Minutes.Lo (r.Chills.getD m.toNat dfltChill).Minutes.Hi → (0 < m → (cs.getD (m.toNat - 1) dfltChill).Minutes.Lo ≤ x.Lo ∧ (cs.getD (m.toNat - 1) dfltChill).Minutes.Hi ≤ x.Hi) → Ok (fun x => Inr r x.2) (kn3 ((x1, x2, x3, m + 1, x4), ((t.1.word, x5), (r.Spots, x6, x7, wa.2, cs.set m.toNat ⟨(r.Chills.getD m.toNat dfltChill).Warm, x⟩, x8), x9))) := fun x hx hpv => by
          refine hk3 ((x1, x2, x3, m + 1, x4), ((_, x5), (_, x6, x7, _, _, x8), x9)) ⟨by simp only; omega, by simp only; omega, rfl, rfl, by simp [m4], fun j hj => ?_, fun j h1 h2 => ?_⟩ (by simp only; omega)
          · simp only
            rw [getD_setG hml]
            by_cases hji : j = m.toNat
            · subst hji
              rw [if_pos (by omega), if_pos rfl]
              exact ⟨rfl, hx⟩
            · have := m5 j hj
              rw [if_neg hji]
              by_cases hlt : (j : Int) < m
              · rw [if_pos (by omega)]; rw [if_pos hlt] at this; exact this
              · rw [if_neg (by omega)]; rw [if_neg hlt] at this; exact this
          · simp only at h2 ⊢
            rw [getD_setG hml, getD_setG hml, if_neg (show ¬ j - 1 = m.toNat by omega)]
            by_cases hji : j = m.toNat
            · subst hji; rw [if_pos rfl]; exact hpv (by omega)
            · rw [if_neg hji]; exact m6 j h1 (by omega)
        refine Ok.ite (fun hp => ?_) (fun hp => ?_)
        · have hp := of_decide_eq_true hp
          have e2 : w64 (m - 1) = m - 1 := w64_id (by omega) (by omega)
          have e3 : (m - 1).toNat = m.toNat - 1 := by omega
          have cb3 := ib (i := m - 1) (n := r.Chills.length) (by omega) (by omega)
          have cb4 : decide (m.toNat - 1 < r.Chills.length) = true := decide_eq_true (by omega)
          rw [e2, e3, e1]
          refine Ok.chk cb3 (Ok.chk cb4 (Ok.chk cb3 (Ok.chk cb4 (Ok.chk cb (Ok.chk cb2 ?_)))))
          have hpr := m5 (m.toNat - 1) (by omega)
          rw [if_pos (by omega)] at hpr
          obtain ⟨p1, p2, p3⟩ := hpr.min
          have hup := hv.chills.upm m.toNat (by omega) hm'
          exact next ⟨max t.2.Lo _, max t.2.Hi _⟩ ⟨by simp only; omega, by simp only; omega, by simp only; omega⟩ fun _ => ⟨by simp only; omega, by simp only; omega⟩
        · have hp := of_decide_eq_false hp
          rw [e1]
          refine Ok.chk cb (Ok.chk cb2 ?_)
          exact next t.2 ⟨t1, t2, t3⟩ fun h => absurd h hp
      · have hm := of_decide_eq_false hc
        exact Ok.some ⟨rfl, i3, hP, k3, hQ, hwa.1, hwa.2, m4, fun j hj => by have := m5 j hj; rwa [if_pos (by omega)] at this, fun j h1 h2 => m6 j h1 (by omega)⟩
end Go.Proofs.Rescue07


/- RescueNarrows as a plain law. -/
namespace Go.Proofs.Rescue07
open Go Go.Ab Go.Ways
set_option linter.all false
theorem VIn.rng {v w : Int} (h : VIn v w) (hv : 0 ≤ v ∧ v ≤ 3) : 0 ≤ w ∧ w ≤ 3 ∧ (w = 0 ↔ v = 0) := by
  unfold VIn at h
  by_cases e : v = 3
  · have := h.2 e; omega
  · have := h.1 e; omega
theorem VIn.lo {v w : Int} (h : VIn v w) (hv : v = 2) : w = 2 := by unfold VIn at h; omega
theorem VIn.hi {v w : Int} (h : VIn v w) (hv : v = 1) : w = 1 := by unfold VIn at h; omega
theorem SpIn.sub {x y : Span} {a b : Int} (h : SpIn x y.Lo y.Hi) (h2 : SpIn y a b) : SpIn x a b := by unfold SpIn at *; omega
theorem mem_getD {α : Type} {l : List α} {d x : α} (h : x ∈ l) : ∃ i, i < l.length ∧ l.getD i d = x := by
  obtain ⟨i, hi, rfl⟩ := List.getElem_of_mem h
  exact ⟨i, hi, by rw [List.getD_eq_getElem?_getD, List.getElem?_eq_getElem hi]; rfl⟩
theorem Inr.valid {r q : Rescue} (h : Inr r q) (hv : RV r) : RV q := by
  obtain ⟨a1, a2, a3, a4, a5, a6, a7, a8, a9, a10⟩ := h
  refine ⟨by rw [a1]; exact hv.spots, by rw [a2]; exact hv.nPaths, fun p hp => ?_, by rw [a4]; exact hv.nPosts, fun p hp => ?_, ⟨by rw [a6, a1]; exact hv.water.1, fun x hx => ?_⟩, ⟨by rw [a8]; exact hv.chills.len, fun i hi => ?_, ?_, fun i h0 hi => ?_, fun i hi => ?_, fun i h0 hi => ?_⟩⟩
  · obtain ⟨i, hi, rfl⟩ := mem_getD (d := dfltPath) hp
    rw [a2] at hi
    have h1 := a3 i hi
    obtain ⟨v1, v2, v3, v4, v5, v6, v7⟩ := hv.paths _ (getD_mem (d := dfltPath) hi)
    have h2 := h1.op
    unfold VIn at h2
    refine ⟨by rw [h1.a]; exact v1, by rw [h1.a, a1]; exact v2, by rw [h1.b]; exact v3, by rw [h1.b, a1]; exact v4, by rw [h1.a, h1.b]; exact v5, h1.time.sub v6, by omega⟩
  · obtain ⟨i, hi, rfl⟩ := mem_getD (d := dfltPost) hp
    rw [a4] at hi
    have h1 := a5 i hi
    obtain ⟨v1, v2, v3, v4, v5, v6⟩ := hv.posts _ (getD_mem (d := dfltPost) hi)
    have h2 := h1.flies.rng v5
    refine ⟨by rw [h1.spot, a1]; exact v1, h1.ready.sub v2, by rw [h1.from_]; exact v3, by rw [h1.to_]; exact v4, ⟨h2.1, h2.2.1⟩, ⟨?_, fun x hx => ?_⟩⟩
    · rw [h1.nAir, a1]
      have := v6.1
      by_cases e : (r.Posts.getD i dfltPost).Flies = 0
      · rw [if_pos e] at this; rw [if_pos (h2.2.2.2 e)]; exact this
      · rw [if_neg e] at this; rw [if_neg (fun e2 => e (h2.2.2.1 e2))]; exact this
    · obtain ⟨k, hk, rfl⟩ := mem_getD (d := dfltSpan) hx
      rw [h1.nAir] at hk
      exact (h1.air k hk).sub (v6.2 _ (getD_mem (d := dfltSpan) hk))
  · obtain ⟨i, hi, rfl⟩ := mem_getD (d := dfltSpan) hx
    rw [a6] at hi
    exact (a7 i hi).sub (hv.water.2 _ (getD_mem (d := dfltSpan) hi))
  · rw [a8] at hi; rw [(a9 i hi).warm]; exact hv.chills.warm i hi
  · rw [(a9 0 (by have := hv.chills.len; omega)).warm]; exact hv.chills.head
  · rw [a8] at hi; rw [(a9 i hi).warm, (a9 (i - 1) (by omega)).warm]; exact hv.chills.up i h0 hi
  · rw [a8] at hi; exact (a9 i hi).min.sub (hv.chills.min i hi)
  · rw [a8] at hi; exact a10 i h0 hi
/-- With paths that are more, and shorter, nothing is farther. -/
theorem dist_le {r q : Rescue} {s : Int} {b c : Bool} (hr : RV r) (hq : RV q) (hn : q.Spots = r.Spots) (hs : 0 ≤ s ∧ s < r.Spots) (hm : ∀ u v t, EdgesOf (legsOf q.Paths c) u v t → ∃ t', EdgesOf (legsOf r.Paths b) u v t' ∧ t' ≤ t) {k : Nat} (hk : k < r.Spots.toNat) : (distL r s b).getD k 0 ≤ (distL q s c).getD k 0 := by
  have hsp := hr.spots
  have hs' : 0 ≤ s ∧ s < (r.Spots.toNat : Int) := by omega
  have d1 := bf_dist (B := 1000000) (legs_mem hr b) hs' (by decide)
  have d2 := bf_dist (B := 1000000) (legs_mem hq c) (by rw [hn]; exact hs') (by decide)
  rw [hn] at d2
  have a := d1.mono d2 hm (v := (k : Int)) (by omega) (by omega)
  unfold gt at a
  simp only [Int.toNat_natCast] at a
  unfold distL
  rw [hn]; exact a
theorem legs_at {ps : List Path} {b : Bool} {u v t : Int} (h : EdgesOf (legsOf ps b) u v t) : ∃ i, i < ps.length ∧ (bif b then (ps.getD i dfltPath).Open != 2 else (ps.getD i dfltPath).Open == 1) = true ∧ t = (bif b then (ps.getD i dfltPath).Time.Lo else (ps.getD i dfltPath).Time.Hi) ∧ (((ps.getD i dfltPath).A = u ∧ (ps.getD i dfltPath).B = v) ∨ ((ps.getD i dfltPath).A = v ∧ (ps.getD i dfltPath).B = u)) := by
  obtain ⟨e, he, ho, rfl, hab⟩ := h
  simp only [legsOf, List.mem_map] at he
  obtain ⟨p, hp, rfl⟩ := he
  obtain ⟨i, hi, rfl⟩ := mem_getD (d := dfltPath) hp
  exact ⟨i, hi, ho, rfl, hab⟩
theorem at_legs {ps : List Path} {b : Bool} {u v : Int} {i : Nat} (hi : i < ps.length) (ho : (bif b then (ps.getD i dfltPath).Open != 2 else (ps.getD i dfltPath).Open == 1) = true) (hab : ((ps.getD i dfltPath).A = u ∧ (ps.getD i dfltPath).B = v) ∨ ((ps.getD i dfltPath).A = v ∧ (ps.getD i dfltPath).B = u)) : EdgesOf (legsOf ps b) u v (bif b then (ps.getD i dfltPath).Time.Lo else (ps.getD i dfltPath).Time.Hi) :=
  ⟨_, List.mem_map_of_mem (getD_mem (d := dfltPath) hi), ho, rfl, hab⟩
theorem go_in {r q : Rescue} (hv : RV r) (h : Inr r q) {i k : Nat} (hi : i < r.Posts.length) (hk : k < r.Spots.toNat) : (goS r (r.Posts.getD i dfltPost) k).Lo ≤ (goS q (q.Posts.getD i dfltPost) k).Lo ∧ (goS q (q.Posts.getD i dfltPost) k).Hi ≤ (goS r (r.Posts.getD i dfltPost) k).Hi := by
  have hq := h.valid hv
  have hpo := hv.posts _ (getD_mem (d := dfltPost) hi)
  have hin := h.posts i hi
  obtain ⟨p, hp⟩ : ∃ p, r.Posts.getD i dfltPost = p := ⟨_, rfl⟩
  obtain ⟨p', hp'⟩ : ∃ p', q.Posts.getD i dfltPost = p' := ⟨_, rfl⟩
  rw [hp] at hpo hin ⊢
  rw [hp'] at hin ⊢
  obtain ⟨z1, z2, z3⟩ := hin.ready
  have hfr := hin.flies.rng hpo.flies
  have key : loS r p k ≤ loS q p' k ∧ hiS q p' k ≤ hiS r p k := by
    unfold loS hiS
    by_cases e : p.Flies = 0
    · have e' := hfr.2.2.2 e
      rw [show (p.Flies == 0) = true by simpa using e, show (p'.Flies == 0) = true by simpa using e']
      simp only [cond_true, hin.spot]
      have hs' := hpo.spot
      constructor
      · refine dist_le (b := true) (c := true) hv hq h.spots hs' (fun u v t he => ?_) hk
        obtain ⟨j, hj, ho, rfl, hab⟩ := legs_at he
        rw [h.nPaths] at hj
        have hpj := h.paths j hj
        rw [hpj.a, hpj.b] at hab
        refine ⟨_, at_legs hj ?_ hab, hpj.time.1⟩
        simp only [cond_true, bne_iff_ne, ne_eq] at ho ⊢
        exact fun e => ho (hpj.op.lo e)
      · have := dist_le (r := q) (q := r) (b := false) (c := false) (s := p.Spot) hq hv h.spots.symm (by rw [h.spots]; exact hs') (fun u v t he => ?_) (k := k) (by rw [h.spots]; exact hk)
        · exact this
        · obtain ⟨j, hj, ho, rfl, hab⟩ := legs_at he
          have hpj := h.paths j hj
          rw [← hpj.a, ← hpj.b] at hab
          refine ⟨_, at_legs (by rw [h.nPaths]; exact hj) ?_ hab, hpj.time.2.2⟩
          simp only [cond_false, beq_iff_eq] at ho ⊢
          exact hpj.op.hi ho
    · have e' : p'.Flies ≠ 0 := fun h => e (hfr.2.2.1 h)
      rw [show (p.Flies == 0) = false by simpa using e, show (p'.Flies == 0) = false by simpa using e']
      simp only [cond_false]
      obtain ⟨hl, _⟩ := air_in hpo e hk
      obtain ⟨y1, y2, y3⟩ := hin.air k hl
      exact ⟨y1, y3⟩
  obtain ⟨k1, k2⟩ := key
  have hfl := hin.flies
  unfold VIn at hfl
  have hr4 := hpo.flies
  unfold goS
  have h4 : p.Flies = 0 ∨ p.Flies = 1 ∨ p.Flies = 2 ∨ p.Flies = 3 := by omega
  rcases h4 with h4 | h4 | h4 | h4
  · have h5 : p'.Flies = 0 := by omega
    rw [h4, h5]
    simp only [show ((0:Int) == 2) = false from rfl, show ((0:Int) == 3) = false from rfl, Bool.or_false, cond_false]; omega
  · have h5 : p'.Flies = 1 := by omega
    rw [h4, h5]
    simp only [show ((1:Int) == 2) = false from rfl, show ((1:Int) == 3) = false from rfl, Bool.or_false, cond_false]; omega
  · have h5 : p'.Flies = 2 := by omega
    rw [h4, h5]
    simp only [show ((2:Int) == 2) = true from rfl, Bool.true_or, cond_true]; omega
  · have h5 : p'.Flies = 1 ∨ p'.Flies = 2 ∨ p'.Flies = 3 := by omega
    rw [h4]
    rcases h5 with h5 | h5 | h5 <;> rw [h5]
    · simp only [show ((3:Int) == 2) = false from rfl, show ((3:Int) == 3) = true from rfl, show ((1:Int) == 2) = false from rfl, show ((1:Int) == 3) = false from rfl, Bool.or_false, Bool.false_or, cond_false, cond_true]; omega
    · simp only [show ((3:Int) == 2) = false from rfl, show ((3:Int) == 3) = true from rfl, show ((2:Int) == 2) = true from rfl, Bool.true_or, Bool.false_or, cond_false, cond_true]; omega
    · simp only [show ((3:Int) == 2) = false from rfl, show ((3:Int) == 3) = true from rfl, Bool.false_or, cond_false, cond_true]; omega
theorem mannedB_same {p q : Post} (h1 : q.From = p.From) (h2 : q.To = p.To) (m : Int) : mannedB q m = mannedB p m := by unfold mannedB; rw [h1, h2]
theorem reach_in {r q : Rescue} (hv : RV r) (h : Inr r q) (m : Int) {k : Nat} (hk : k < r.Spots.toNat) : (reachS r m k).Lo ≤ (reachS q m k).Lo ∧ (reachS q m k).Hi ≤ (reachS r m k).Hi := by
  unfold reachS
  rw [fold_range _ dfltPost, fold_range (l := q.Posts) _ dfltPost, h.nPosts]
  have : ∀ n, n ≤ r.Posts.length → ((List.range n).foldl (fun y i => bif mannedB (r.Posts.getD i dfltPost) m then minS y (goS r (r.Posts.getD i dfltPost) k) else y) topS).Lo ≤ ((List.range n).foldl (fun y i => bif mannedB (q.Posts.getD i dfltPost) m then minS y (goS q (q.Posts.getD i dfltPost) k) else y) topS).Lo ∧ ((List.range n).foldl (fun y i => bif mannedB (q.Posts.getD i dfltPost) m then minS y (goS q (q.Posts.getD i dfltPost) k) else y) topS).Hi ≤ ((List.range n).foldl (fun y i => bif mannedB (r.Posts.getD i dfltPost) m then minS y (goS r (r.Posts.getD i dfltPost) k) else y) topS).Hi := by
    intro n
    induction n with
    | zero => intro _; exact ⟨Int.le_refl _, Int.le_refl _⟩
    | succ n ih =>
      intro hn
      have hi := ih (by omega)
      have hlt : n < r.Posts.length := by omega
      have hg := go_in hv h hlt hk
      have hpi := h.posts n hlt
      rw [range_fold_succ, range_fold_succ, mannedB_same hpi.from_ hpi.to_]
      obtain ⟨X, hX⟩ : ∃ X, (List.range n).foldl (fun y i => bif mannedB (r.Posts.getD i dfltPost) m then minS y (goS r (r.Posts.getD i dfltPost) k) else y) topS = X := ⟨_, rfl⟩
      obtain ⟨Y, hY⟩ : ∃ Y, (List.range n).foldl (fun y i => bif mannedB (q.Posts.getD i dfltPost) m then minS y (goS q (q.Posts.getD i dfltPost) k) else y) topS = Y := ⟨_, rfl⟩
      rw [hX, hY] at hi ⊢
      cases mannedB (r.Posts.getD n dfltPost) m with
      | true => simp only [cond_true, minS]; omega
      | false => exact hi
  exact this _ (Nat.le_refl _)
theorem reach_ord {r : Rescue} (hv : RV r) (m : Int) {k : Nat} (hk : k < r.Spots.toNat) : (reachS r m k).Lo ≤ (reachS r m k).Hi := by
  have := fir_in hv (ext_facts hv true) m hk; omega
theorem lastC_same {l l' : List Chill} (h : ∀ i, i < l.length → (l'.getD i dfltChill).Warm = (l.getD i dfltChill).Warm) (w : Int) : ∀ n, n ≤ l.length → lastC l' w n = lastC l w n
  | 0, _ => rfl
  | n + 1, hn => by simp only [lastC]; rw [h n (by omega), lastC_same h w n (by omega)]
theorem lives_ord {r : Rescue} (hv : RV r) {w : Span} (hw : SpIn w (-400) 400) : (livesS r w).Lo ≤ (livesS r w).Hi := by
  obtain ⟨w1, w2, w3⟩ := hw
  have hl := hv.chills
  have hlen := hl.len
  unfold livesS
  rw [chill_last hl w1, chill_last hl (show -400 ≤ w.Hi by omega)]
  have a1 := lastC_mono (l := r.Chills) w2 r.Chills.length
  have b1 := min_mono hl a1 (lastC_lt r.Chills _ r.Chills.length (by omega))
  have b2 := (hl.min _ (lastC_lt r.Chills w.Hi r.Chills.length (by omega))).2.1
  simp only; omega
theorem lives_in {r q : Rescue} (hv : RV r) (h : Inr r q) {k : Nat} (hk : k < r.Water.length) : (livesS r (r.Water.getD k dfltSpan)).Lo ≤ (livesS q (q.Water.getD k dfltSpan)).Lo ∧ (livesS q (q.Water.getD k dfltSpan)).Hi ≤ (livesS r (r.Water.getD k dfltSpan)).Hi := by
  have hq := h.valid hv
  obtain ⟨w1, w2, w3⟩ := hv.water.2 _ (getD_mem (d := dfltSpan) hk)
  obtain ⟨v1, v2, v3⟩ := h.water k hk
  have hl := hv.chills
  have hlen := hl.len
  unfold livesS
  rw [chill_last hl w1, chill_last hl (show -400 ≤ (r.Water.getD k dfltSpan).Hi by omega), chill_last hq.chills (show -400 ≤ (q.Water.getD k dfltSpan).Lo by omega), chill_last hq.chills (show -400 ≤ (q.Water.getD k dfltSpan).Hi by omega), h.nChills]
  have hsame : ∀ w, lastC q.Chills w r.Chills.length = lastC r.Chills w r.Chills.length := fun w => lastC_same (fun i hi => (h.chills i hi).warm) w _ (Nat.le_refl _)
  rw [hsame, hsame]
  have l1 := lastC_lt r.Chills (q.Water.getD k dfltSpan).Lo r.Chills.length (by omega)
  have l2 := lastC_lt r.Chills (r.Water.getD k dfltSpan).Hi r.Chills.length (by omega)
  have l3 := lastC_lt r.Chills (q.Water.getD k dfltSpan).Hi r.Chills.length (by omega)
  have a1 := min_mono hl (lastC_mono (l := r.Chills) v1 r.Chills.length) l1
  have a2 := min_mono hl (lastC_mono (l := r.Chills) v3 r.Chills.length) l2
  obtain ⟨c1, c2, c3⟩ := (h.chills _ l1).min
  obtain ⟨d1, d2, d3⟩ := (h.chills _ l3).min
  simp only; omega
theorem In_sp (a b : Span) : In a b = some (decide (a.Lo ≥ b.Lo) && decide (a.Hi ≤ b.Hi)) := by
  rw [In_eq]; unfold In'
  cases decide (a.Lo ≥ b.Lo) <;> rfl
theorem RescueNarrows_true (nums : List Int) (hn : nums.length ≤ 9223372036854775807) : RescueNarrows nums = some true := by
  apply ok_eq
  rw [RescueNarrows_eq]; unfold RescueNarrows'
  refine Ok.bind (NewSeed_ok hn) fun s0 _ => Ok.bind (RescueOf_ok s0 (by decide) (by decide) ⟨by decide, by decide⟩) fun s hM => ?_
  have hv := hM.1
  have hsp := hv.spots
  have hwl := hv.water.1
  refine Ok.bind (InnerRescue_ok _ hv) fun q hI => Ok.bind (Below_ok _ (by decide)) fun m hm => ?_
  have hq := hI.valid hv
  have hm' : 0 ≤ m.2 ∧ m.2 ≤ 1439 := by omega
  have hqw := hI.nWater
  have hqs := hI.spots
  refine Ok.beq (reach_ok hv hm') (Ok.beq (reach_ok hq hm') (Ok.beq (cover_ok hv hm') (Ok.beq (cover_ok hq hm') (Ok.beq (lives_ok hv) (Ok.beq (lives_ok hq) ?_)))))
  refine Ok.no rfl (Ok.no rfl (Ok.no rfl (Ok.no rfl (Ok.no rfl (Ok.no rfl (Ok.no (by simp [hqs]) (Ok.no (by simp [hqs]) (Ok.no (by simp [hqw]) (Ok.no (by simp; omega) (Ok.no (by simp; omega) (Ok.no (by simp; omega) ?_)))))))))))
  refine Ok.rounds (fun (v : V2) => 0 ≤ v.1.2.1 ∧ v.1.2.1 ≤ s.2.Spots) (fun (v : V2) => (s.2.Spots - v.1.2.1).toNat) (FUEL_big (by show (s.2.Spots - 0).toNat ≤ _; omega)) ⟨Int.le_refl _, by simp only; omega⟩ ?_
  rintro ⟨⟨u1, k, u2⟩, u3⟩ kn ⟨k0, k1⟩ hk
  simp only at k0 k1 hk ⊢
  unfold RescueNarrows_L13
  simp only [List.length_map, List.length_range, hqs, hqw]
  refine Ok.ite (fun hc => ?_) (fun _ => awake_ok)
  have hkk := of_decide_eq_true hc
  have hkn : k.toNat < s.2.Spots.toNat := by omega
  have hkw : k.toNat < s.2.Water.length := by omega
  have e1 : w64 (k + 1) = k + 1 := w64_id (by omega) (by omega)
  have cb : (decide (0 ≤ k) && decide (k < (s.2.Spots.toNat : Int))) = true := ib k0 (by omega)
  have cw : (decide (0 ≤ k) && decide (k < (s.2.Water.length : Int))) = true := ib k0 (by omega)
  obtain ⟨r1, r2⟩ := reach_in hv hI m.2 hkn
  obtain ⟨l1, l2⟩ := lives_in hv hI hkw
  have o1 := reach_ord hq m.2 (show k.toNat < q.2.Spots.toNat by rw [hqs]; exact hkn)
  have o2 := lives_ord hq (hq.water.2 _ (getD_mem (d := dfltSpan) (show k.toNat < q.2.Water.length by omega)))
  refine Ok.chk cb (Ok.chk cb (Ok.beq (In_sp _ _) ?_))
  rw [getD_range _ _ hkn, getD_range _ _ hkn, getD_range _ _ hkn, getD_range _ _ hkn, getD_map (d := dfltSpan) _ (show k.toNat < q.2.Water.length by omega), getD_map (d := dfltSpan) _ hkw]
  refine Ok.no (by rw [decide_eq_true r1, decide_eq_true r2]; rfl) (Ok.chk cw (Ok.chk cw (Ok.beq (In_sp _ _) (Ok.no (by rw [decide_eq_true l1, decide_eq_true l2]; rfl) (Ok.chk cb ?_)))))
  have next := hk ((u1, k + 1, u2), u3) ⟨by simp only; omega, by simp only; omega⟩ (by simp only; omega)
  rw [e1]
  refine Ok.ite (fun h3 => ?_) (fun _ => next)
  refine Ok.chk cb (Ok.chk cb (Ok.no ?_ next))
  unfold coverS verdS at h3 ⊢
  cases h1 : decide ((reachS s.2 m.2 k.toNat).Hi ≤ (livesS s.2 (s.2.Water.getD k.toNat dfltSpan)).Lo) with
  | true =>
    have h1 := of_decide_eq_true h1
    rw [decide_eq_true (show (reachS q.2 m.2 k.toNat).Hi ≤ (livesS q.2 (q.2.Water.getD k.toNat dfltSpan)).Lo by omega)]; rfl
  | false =>
    rw [h1] at h3
    cases h2 : decide ((reachS s.2 m.2 k.toNat).Lo > (livesS s.2 (s.2.Water.getD k.toNat dfltSpan)).Hi) with
    | true =>
      have h2 := of_decide_eq_true h2
      rw [decide_eq_false (show ¬ (reachS q.2 m.2 k.toNat).Hi ≤ (livesS q.2 (q.2.Water.getD k.toNat dfltSpan)).Lo by omega), decide_eq_true (show (reachS q.2 m.2 k.toNat).Lo > (livesS q.2 (q.2.Water.getD k.toNat dfltSpan)).Hi by omega)]; rfl
    | false => rw [h2] at h3; cases h3
end Go.Proofs.Rescue07


/- How the arguments of a law are read as plain data of Lean, what the table of the four cases holds, and what a law that writes nothing older than itself leaves: its arguments read as they did. -/
namespace Go.Proofs.Ytoklcjdahicjmaa
open Go Go.Ab Go.ChangeShapes Go.WideShapes Go.ChangeAt Go.RowKit
set_option maxRecDepth 100000

/-- All that a world's memory holds. -/
def allK (w : World) : Nat → Nat → Option Value := fun b o => w.cell? ⟨b, o, none⟩
theorem allK_fits (w : World) : Fits (allK w) w := fun _ _ _ h => h

theorem cells3 : Try.prog.cellsOf 3 = 1 := by kernel_rfl
section
variable {H : Type} {enc : TypeId × Value → H} {W : World}

/-- Whatever reads as the type, stands for a datum of Lean. -/
def Rd {α : Type} (enc : TypeId × Value → H) (W : World) (t : TypeId) (ec : α → List D) : Prop :=
  ∀ n cs x, DataW.trod enc Try.prog W 0 (fun _ => true) true n t cs = some x → ∃ a : α, RepL (allK W) γ0 sv0 (ec a) cs

theorem rd_int : Rd enc W 3 encI := by
  intro n cs x h
  obtain ⟨a, rfl, _⟩ := DataW.trod_int Try.underlying3 h
  exact ⟨a, .cons _ _ _ _ (.int _ _) .nil⟩

theorem rd_slice {α : Type} [Inhabited α] {t e z : Nat} {ec : α → List D} (ht : Try.prog.underlying t = some (.slice e)) (hz : Try.prog.cellsOf e = z) (hz0 : 0 < z) (hl : ∀ a, (ec a).length = z)
    (hc : ∀ a, allCell (ec a) = true) (hr : Rd enc W e ec) : Rd enc W t (fun l : List α => [slOf z ec l]) := by
  intro n cs x h
  rcases Deep.open_slice ht h with ⟨rfl, rfl⟩ | ⟨a, len, cap, m, n', D, Pl, rfl, _, hlc, _, hm, rfl, hx⟩
  · exact ⟨[], .cons _ _ _ _ (.sl0 _ _) .nil⟩
  · simp only [if_true] at hm
    subst hm
    rw [hz] at hx
    rcases Nat.eq_zero_or_pos len with rfl | hpos
    · exact ⟨[], .cons _ _ _ _ (.slE _ _ _ _) .nil⟩
    · have hx' : ∀ i, i < len → ∃ p : α × List Value, W.cells? 0 (a.add (i * z)) z = some p.2 ∧ RepL (allK W) γ0 sv0 (ec p.1) p.2 := fun i hi => by
        obtain ⟨cs', h1, h2⟩ := hx i (by omega)
        obtain ⟨b, hb⟩ := hr _ _ _ h2
        exact ⟨(b, cs'), h1, hb⟩
      obtain ⟨F, hF⟩ := Deep.choose_lt hx'
      have hsp : a.spot = none := by
        obtain ⟨_, h1, h2⟩ := World.cells?_some (hF 0 hpos).1
        have h3 := h2 0 hz0
        rw [List.getElem?_eq_getElem (by omega)] at h3
        simpa [Addr.add] using World.cell?_spot h3
      obtain ⟨b, off, sp⟩ := a
      simp only at hsp
      subst hsp
      refine ⟨(List.range len).map (fun i => (F i).1), .cons _ _ _ _ ?_ .nil⟩
      have hlen : ((List.range len).map (fun i => (F i).1)).length = len := by simp
      have hg : ∀ i, i < len → ((List.range len).map (fun i => (F i).1)).getD i default = (F i).1 := fun i hi => by simp [List.getD, hi]
      unfold slOf
      rw [hlen]
      refine .sl z len _ b off m (fun i => (F i).2) hlc (fun i _ => hl _) (fun i _ => hc _) (fun i hi => by rw [hg i hi]; exact (hF i hi).2) (fun i j v hi hj => ?_)
      obtain ⟨_, h1, h2⟩ := World.cells?_some (hF i hi).1
      have hjl := (List.getElem?_eq_some_iff.1 hj).1
      have h3 := h2 j (by omega)
      rw [add_plain, add_plain, hj] at h3
      exact h3

theorem arg_ints {v : Value} {d : DataW H} {ps : List MemPlace} {base : Nat} (hv : Value.okWide Try.prog W .any base 28 v) (h : DataW.Trod enc Try.prog W 0 (fun _ => true) true 28 v d ps) :
    ∃ l : List Int, Rep (allK W) γ0 sv0 (slOf 1 encI l) v := by
  obtain ⟨n, hn⟩ := h
  obtain ⟨l, hl⟩ := rd_slice (ec := encI) Try.underlying28 cells3 (by decide) (fun _ => rfl) (fun _ => rfl) rd_int _ _ _ hn
  obtain ⟨a0, len, cap, rfl⟩ := okWide_slice Try.underlying28 hv
  cases hl with
  | cons _ _ _ _ k _ => exact ⟨l, k⟩
end
theorem glob_of {W : World} : GlobOk seat (allK W) := fun g l h => by cases h
theorem laidOut : laidOutB Try.prog = true := by kernel_rfl
theorem own : ownKnob Try.prog.godebug = none := by kernel_rfl

theorem trodAll_stays {H : Type} {enc : TypeId × Value → H} {W W' : World} {sp' : Nat → Bool} (hb : Below W.heap.size W W') : ∀ {ts : List TypeId} {vs : List Value} {ds : List (DataW H)} {ps : List MemPlace},
    (∀ t ∈ ts, Try.prog.readableRec t = true ∧ t < Try.prog.types.size) → DataW.TrodAll enc Try.prog W 0 (fun _ => true) true ts vs ds ps → (∀ p ∈ ps, p.block < W.heap.size) → (∀ p ∈ ps, sp' p.block = true) →
    DataW.TrodAll enc Try.prog W' 0 sp' true ts vs ds ps
  | [], [], [], _, _, h, _, _ => h
  | _ :: _, _ :: _, _ :: _, _, hT, ⟨p, q, h1, h2, e⟩, hlt, hs => ⟨p, q,
      WideElems.Trod_stays laidOut (hT _ (List.mem_cons_self ..)).1 (hT _ (List.mem_cons_self ..)).2 h1 (fun x hx => hb.same (hlt x (by rw [e]; exact List.mem_append_left _ hx))) (fun x hx => hs x (by rw [e]; exact List.mem_append_left _ hx)),
      trodAll_stays hb (fun t ht => hT t (List.mem_cons_of_mem _ ht)) h2 (fun x hx => hlt x (by rw [e]; exact List.mem_append_right _ hx)) (fun x hx => hs x (by rw [e]; exact List.mem_append_right _ hx)), e⟩

/-- A law that says yes and writes nothing older than itself. -/
theorem post_yes {H : Type} {enc : TypeId × Value → H} {f : Func} {s : ChangeSpec} {W W' : World} {args : Array Value} {ds gs : List (DataW H)} {before : List MemPlace}
    (hW : DataW.Whole enc Try.prog f.params.toList s.vars false W args.toList ds gs before) (hv : s.vars = []) (hb : Below W.heap.size W W')
    (hT : ∀ t ∈ f.params.toList, Try.prog.readableRec t = true ∧ t < Try.prog.types.size) (hrt : f.resultTypes = #[4])
    (hr : (s.fn H (ds ++ gs)).results = [.lit (.bool true)]) (ha : (s.fn H (ds ++ gs)).args = ds) (hvs : (s.fn H (ds ++ gs)).vars = []) :
    s.post enc Try.prog f false true false false W args (.bool true) W' := by
  have hlt := hW.lt
  have hW2 := hW
  obtain ⟨p, q, hA, hV, rfl, _, _⟩ := hW
  rw [hv] at hV
  obtain ⟨rfl, rfl⟩ := trodVars_none hV
  refine ⟨ds, [], p ++ [], [], p, [], hW2, ?_, ?_, ?_, hb.frame _, fun h => by cases h⟩
  · rw [hr, hrt]
    exact trodAll_mk1 (shut_bool Try.underlying4 _)
  · rw [ha]
    exact trodAll_stays hb hT hA (fun x hx => hlt x (by simpa using hx)) (fun x hx => by simpa using hlt x (by simpa using hx))
  · rw [hvs, hv]; rfl

/-- A world for the witness: the settled one. -/
noncomputable def laidWorld (os : Os) : World := World.holding Try.prog os ⟨#[], #[], []⟩
theorem ints_len {κ : Nat → Nat → Option Value} {γ : Nat → Nat} {sv : Nat → Value} {W : World} {base : Nat} {v : Value} {l : List Int} (hv : Value.okWide Try.prog W .any base 28 v) (h : Rep κ γ sv (slOf 1 encI l) v) : l.length ≤ 9223372036854775807 := by
  unfold slOf at h
  generalize hn : l.length = n at h
  cases h with
  | sl0 => omega
  | slE => omega
  | sl _ _ _ b off cap u hc =>
    simp only [Value.okWide, Cell.okWide, Cell.ok, Try.underlying28] at hv
    have h1 := hv.2.1
    have h2 : IntKind.i64.max = 9223372036854775807 := by decide
    rw [h2] at h1
    omega
section
variable {H : Type} {enc : TypeId × Value → H} {W : World}
end
end Go.Proofs.Ytoklcjdahicjmaa



/- Further readers of arguments. -/
namespace Go.Proofs.Ytoklcjdahicjmaa
open Go Go.Ab Go.ChangeShapes Go.WideShapes Go.ChangeAt Go.RowKit
set_option linter.all false
set_option maxRecDepth 100000
section
variable {H : Type} {enc : TypeId × Value → H} {W : World}
theorem fld {fs : Array Field} {xs : List (DataW H × List MemPlace)} {cs : List Value} {n : Nat}
    (hf : ∀ (i : Nat) (f : Field), fs[i]? = some f → DataW.trod enc Try.prog W 0 (fun _ => true) true n f.type ((cs.drop f.offset).take (Try.prog.cellsOf f.type)) = xs[i]?)
    (hl : xs.length = fs.size) (i : Nat) (f : Field) (hi : fs[i]? = some f) : ∃ y, DataW.trod enc Try.prog W 0 (fun _ => true) true n f.type ((cs.drop f.offset).take (Try.prog.cellsOf f.type)) = some y := by
  have h1 := (Array.getElem?_eq_some_iff.1 hi).1
  rw [← hl] at h1
  exact ⟨xs[i], by rw [hf i f hi]; exact List.getElem?_eq_getElem h1⟩
end
end Go.Proofs.Ytoklcjdahicjmaa


/- RescueMore as a plain law. -/
namespace Go.Proofs.Rescue07
open Go Go.Ab Go.Ways
set_option linter.all false
/-- The same rescue with more paths and one post more. -/
def moreR (r : Rescue) (pa : List Path) (po : Post) : Rescue := ⟨r.Spots, r.Paths ++ pa, r.Posts ++ [po], r.Water, r.Chills⟩
theorem more_valid {r : Rescue} (hv : RV r) {pa : List Path} {po : Post} (hl : r.Paths.length + pa.length ≤ 120) (hpa : ∀ p ∈ pa, PathV r.Spots p) (hl2 : r.Posts.length ≤ 11) (hpo : PostV r.Spots po) : RV (moreR r pa po) := by
  refine ⟨hv.spots, by simp [moreR]; omega, fun p hp => ?_, by simp [moreR]; omega, fun p hp => ?_, hv.water, hv.chills⟩
  · rcases List.mem_append.1 hp with hp | hp
    · exact hv.paths p hp
    · exact hpa p hp
  · rcases List.mem_append.1 hp with hp | hp
    · exact hv.posts p hp
    · rw [List.mem_singleton.1 hp]; exact hpo
theorem more_go {r : Rescue} (hv : RV r) {pa : List Path} {po : Post} (hq : RV (moreR r pa po)) {p : Post} (hp : PostV r.Spots p) {k : Nat} (hk : k < r.Spots.toNat) : (goS (moreR r pa po) p k).Lo ≤ (goS r p k).Lo ∧ (goS (moreR r pa po) p k).Hi ≤ (goS r p k).Hi := by
  have hd : ∀ b : Bool, (distL (moreR r pa po) p.Spot b).getD k 0 ≤ (distL r p.Spot b).getD k 0 := fun b =>
    dist_le (r := moreR r pa po) (q := r) hq hv rfl hp.spot (fun u v t he => by
      obtain ⟨e, he, ho, rfl, hab⟩ := he
      refine ⟨_, ⟨e, ?_, ho, rfl, hab⟩, Int.le_refl _⟩
      simp only [legsOf, moreR, List.map_append]
      exact List.mem_append_left _ he) hk
  have h1 := hd true
  have h2 := hd false
  have key : loS (moreR r pa po) p k ≤ loS r p k ∧ hiS (moreR r pa po) p k ≤ hiS r p k := by
    unfold loS hiS
    cases (p.Flies == 0) with
    | true => exact ⟨h1, h2⟩
    | false => exact ⟨Int.le_refl _, Int.le_refl _⟩
  unfold goS
  cases (p.Flies == 2) <;> cases (p.Flies == 3) <;> simp only [cond_true, cond_false, Bool.or_true, Bool.or_false] <;> omega
theorem more_reach {r : Rescue} (hv : RV r) {pa : List Path} {po : Post} (hq : RV (moreR r pa po)) (m : Int) {k : Nat} (hk : k < r.Spots.toNat) : (reachS (moreR r pa po) m k).Lo ≤ (reachS r m k).Lo ∧ (reachS (moreR r pa po) m k).Hi ≤ (reachS r m k).Hi := by
  have key : ∀ (l : List Post) (x y : Span), (∀ p ∈ l, PostV r.Spots p) → x.Lo ≤ y.Lo → x.Hi ≤ y.Hi → (l.foldl (fun x p => bif mannedB p m then minS x (goS (moreR r pa po) p k) else x) x).Lo ≤ (l.foldl (fun x p => bif mannedB p m then minS x (goS r p k) else x) y).Lo ∧ (l.foldl (fun x p => bif mannedB p m then minS x (goS (moreR r pa po) p k) else x) x).Hi ≤ (l.foldl (fun x p => bif mannedB p m then minS x (goS r p k) else x) y).Hi := by
    intro l
    induction l with
    | nil => intro x y _ h1 h2; exact ⟨h1, h2⟩
    | cons p l ih =>
      intro x y hl h1 h2
      have hg := more_go hv hq (hl p (List.mem_cons_self ..)) hk
      rw [List.foldl_cons, List.foldl_cons]
      cases mannedB p m with
      | true => exact ih _ _ (fun p hp => hl p (List.mem_cons_of_mem _ hp)) (by simp only [cond_true, minS]; omega) (by simp only [cond_true, minS]; omega)
      | false => exact ih _ _ (fun p hp => hl p (List.mem_cons_of_mem _ hp)) h1 h2
  have h1 := key r.Posts topS topS hv.posts (Int.le_refl _) (Int.le_refl _)
  have hP : (moreR r pa po).Posts = r.Posts ++ [po] := rfl
  unfold reachS
  rw [hP, List.foldl_append]
  simp only [List.foldl_cons, List.foldl_nil]
  cases mannedB po m with
  | true =>
    have a : ∀ x y : Span, (minS x y).Lo ≤ x.Lo ∧ (minS x y).Hi ≤ x.Hi := fun x y => by unfold minS; constructor <;> simp only <;> omega
    exact ⟨Int.le_trans (a _ _).1 h1.1, Int.le_trans (a _ _).2 h1.2⟩
  | false => exact h1
def warmR (r : Rescue) (b : Int) : Rescue := ⟨r.Spots, r.Paths, r.Posts, r.Water.map fun x => ⟨x.Lo + b, x.Hi + b⟩, r.Chills⟩
theorem warm_valid {r : Rescue} (hv : RV r) (hw : ∀ x ∈ r.Water, SpIn x (-20) 60) {b : Int} (hb : 0 ≤ b ∧ b ≤ 100) : RV (warmR r b) := by
  refine ⟨hv.spots, hv.nPaths, hv.paths, hv.nPosts, hv.posts, ⟨by simp only [warmR, List.length_map]; exact hv.water.1, fun x hx => ?_⟩, hv.chills⟩
  simp only [warmR, List.mem_map] at hx
  obtain ⟨y, hy, rfl⟩ := hx
  obtain ⟨h1, h2, h3⟩ := hw y hy
  exact ⟨by simp only; omega, by simp only; omega, by simp only; omega⟩
theorem warm_lives {r : Rescue} (hv : RV r) {x : Span} (hx : SpIn x (-400) 400) {b : Int} (hb : 0 ≤ b) : (livesS r x).Lo ≤ (livesS r ⟨x.Lo + b, x.Hi + b⟩).Lo ∧ (livesS r x).Hi ≤ (livesS r ⟨x.Lo + b, x.Hi + b⟩).Hi := by
  obtain ⟨w1, w2, w3⟩ := hx
  have hl := hv.chills
  have hlen := hl.len
  unfold livesS
  simp only
  rw [chill_last hl w1, chill_last hl (show -400 ≤ x.Hi by omega), chill_last hl (show -400 ≤ x.Lo + b by omega), chill_last hl (show -400 ≤ x.Hi + b by omega)]
  have a1 := min_mono hl (lastC_mono (l := r.Chills) (show x.Lo ≤ x.Lo + b by omega) r.Chills.length) (lastC_lt r.Chills _ r.Chills.length (by omega))
  have a2 := min_mono hl (lastC_mono (l := r.Chills) (show x.Hi ≤ x.Hi + b by omega) r.Chills.length) (lastC_lt r.Chills _ r.Chills.length (by omega))
  omega
abbrev VM9 := (Unit × Unit × Unit × Int × Unit) × ((Int × Unit × Unit × Unit × Unit × Unit) × (Int × Unit × Unit × (List Span) × Unit × Unit) × Unit)
theorem more_loop {r : Rescue} (hv : RV r) {q w : Rescue} (hq : RV q) (hw : RV w) (hqs : q.Spots = r.Spots) (hws : w.Spots = r.Spots) {m : Int}
    (hreach : ∀ k, k < r.Spots.toNat → (reachS q m k).Lo ≤ (reachS r m k).Lo ∧ (reachS q m k).Hi ≤ (reachS r m k).Hi) (hlq : ∀ k, k < r.Spots.toNat → livesS q (q.Water.getD k dfltSpan) = livesS r (r.Water.getD k dfltSpan))
    (hlw : ∀ k, k < r.Spots.toNat → (livesS r (r.Water.getD k dfltSpan)).Lo ≤ (livesS w (w.Water.getD k dfltSpan)).Lo ∧ (livesS r (r.Water.getD k dfltSpan)).Hi ≤ (livesS w (w.Water.getD k dfltSpan)).Hi) {s : Seed × Rescue} (hs : s.2 = r) :
    Ok (fun b => b = true) (itN V2 (fun v_0 kn => RescueMore_L21 s ((List.range q.Spots.toNat).map (reachS q m), 0) ((List.range r.Spots.toNat).map (reachS r m), 0) ((List.range r.Spots.toNat).map (coverS r m), 0) ((List.range q.Spots.toNat).map (coverS q m), 0) (w.Water.map (livesS w), 0) (r.Water.map (livesS r), 0) v_0.1.2.1 (fun y0 => kn (((), y0, ()), ()))) (((), 0, ()), ())) := by
  have hsp := hv.spots
  have hwl := hv.water.1
  have hww := hw.water.1
  rw [hws] at hww
  refine Ok.rounds (fun (v : V2) => 0 ≤ v.1.2.1 ∧ v.1.2.1 ≤ r.Spots) (fun (v : V2) => (r.Spots - v.1.2.1).toNat) (FUEL_big (by show (r.Spots - 0).toNat ≤ _; omega)) ⟨Int.le_refl _, by simp only; omega⟩ ?_
  rintro ⟨⟨u1, k, u2⟩, u3⟩ kn ⟨k0, k1⟩ hk
  simp only at k0 k1 hk ⊢
  unfold RescueMore_L21
  simp only [List.length_map, List.length_range, hqs, hs]
  refine Ok.ite (fun hc => ?_) (fun _ => awake_ok)
  have hkk := of_decide_eq_true hc
  have hkn : k.toNat < r.Spots.toNat := by omega
  have e1 : w64 (k + 1) = k + 1 := w64_id (by omega) (by omega)
  have cb : (decide (0 ≤ k) && decide (k < (r.Spots.toNat : Int))) = true := ib k0 (by omega)
  have cw : (decide (0 ≤ k) && decide (k < (w.Water.length : Int))) = true := ib k0 (by omega)
  have cr : (decide (0 ≤ k) && decide (k < (r.Water.length : Int))) = true := ib k0 (by omega)
  obtain ⟨r1, r2⟩ := hreach _ hkn
  obtain ⟨l1, l2⟩ := hlw _ hkn
  have lq := hlq _ hkn
  rw [getD_range _ _ hkn, getD_range _ _ hkn, getD_range _ _ hkn, getD_range _ _ hkn, getD_map (d := dfltSpan) (livesS w) (show k.toNat < w.Water.length by omega), getD_map (d := dfltSpan) (livesS r) (show k.toNat < r.Water.length by omega)]
  have next := hk ((u1, k + 1, u2), u3) ⟨by simp only; omega, by simp only; omega⟩ (by simp only; omega)
  rw [e1]
  have tail : Ok (fun b => b = true) (chk (decide (0 ≤ k) && decide (k < (w.Water.length : Int))) <| chk (decide (0 ≤ k) && decide (k < (r.Water.length : Int))) <| bif decide ((livesS w (w.Water.getD k.toNat dfltSpan)).Lo < (livesS r (r.Water.getD k.toNat dfltSpan)).Lo) then some false else chk (decide (0 ≤ k) && decide (k < (w.Water.length : Int))) <| chk (decide (0 ≤ k) && decide (k < (r.Water.length : Int))) <| bif decide ((livesS w (w.Water.getD k.toNat dfltSpan)).Hi < (livesS r (r.Water.getD k.toNat dfltSpan)).Hi) then some false else kn ((u1, k + 1, u2), u3)) :=
    Ok.chk cw (Ok.chk cr (Ok.no (decide_eq_false (by omega)) (Ok.chk cw (Ok.chk cr (Ok.no (decide_eq_false (by omega)) next)))))
  refine Ok.chk cb (Ok.chk cb (Ok.no (decide_eq_false (by omega)) (Ok.chk cb (Ok.chk cb (Ok.no (decide_eq_false (by omega)) (Ok.chk cb ?_))))))
  refine Ok.ite (fun h1 => ?_) (fun _ => tail)
  refine Ok.chk cb (Ok.no ?_ tail)
  unfold coverS verdS at h1 ⊢
  rw [lq]
  cases h2 : decide ((reachS r m k.toNat).Hi ≤ (livesS r (r.Water.getD k.toNat dfltSpan)).Lo) with
  | true =>
    have h2 := of_decide_eq_true h2
    rw [decide_eq_true (show (reachS q m k.toNat).Hi ≤ (livesS r (r.Water.getD k.toNat dfltSpan)).Lo by omega)]; rfl
  | false =>
    rw [h2] at h1
    cases h3 : decide ((reachS r m k.toNat).Lo > (livesS r (r.Water.getD k.toNat dfltSpan)).Hi) <;> rw [h3] at h1 <;> cases h1
/-- The water is made warmer, then all is asked. -/
theorem more_warm {posts n : Int} {s : Seed × Rescue} (hM : Made posts n s.2) (hp11 : s.2.Posts.length ≤ 11) {b m : Seed × Int} (hb : 0 ≤ b.2 ∧ b.2 ≤ 19) (hm : 0 ≤ m.2 ∧ m.2 ≤ 1439) {pa : List Path} {po : Post} (hpa : ∀ p ∈ pa, PathV s.2.Spots p) (hpl : pa.length ≤ 1) (hpo : PostV s.2.Spots po)
    (G : VM9 → (VM9 → Option Bool) → Option Bool) (hG : ∀ v kn, G v kn = bif (decide (v.1.2.2.2.1 < (v.2.2.1.2.2.2.1.length : Int))) then
      chk (decide (0 ≤ v.1.2.2.2.1) && decide (v.1.2.2.2.1 < (v.2.2.1.2.2.2.1.length : Int))) <|
      chk (decide (v.1.2.2.2.1.toNat < v.2.2.1.2.2.2.1.length)) <|
      chk (decide (0 ≤ v.1.2.2.2.1) && decide (v.1.2.2.2.1 < (v.2.2.1.2.2.2.1.length : Int))) <|
      chk (decide (v.1.2.2.2.1.toNat < v.2.2.1.2.2.2.1.length)) <|
      (span (w64 ((v.2.2.1.2.2.2.1.getD v.1.2.2.2.1.toNat dfltSpan).Lo + b.2)) (w64 ((v.2.2.1.2.2.2.1.getD v.1.2.2.2.1.toNat dfltSpan).Hi + b.2))).bind fun r9 =>
      chk (decide (0 ≤ v.1.2.2.2.1) && decide (v.1.2.2.2.1 < (v.2.2.1.2.2.2.1.length : Int))) <|
      chk (decide (v.1.2.2.2.1.toNat < v.2.2.1.2.2.2.1.length)) <|
      kn (((), (), (), w64 (v.1.2.2.2.1 + 1), ()), ((v.2.1.1, (), (), (), (), ()), (v.2.2.1.1, (), (), v.2.2.1.2.2.2.1.set v.1.2.2.2.1.toNat r9, (), ()), ()))
      else (pReach s.2 m.2).bind fun r10 => (pReach (⟨v.2.1.1, s.2.Paths ++ pa, s.2.Posts ++ [po], s.2.Water, s.2.Chills⟩ : Rescue) m.2).bind fun r11 => (pCover s.2 m.2).bind fun r12 => (pCover (⟨v.2.1.1, s.2.Paths ++ pa, s.2.Posts ++ [po], s.2.Water, s.2.Chills⟩ : Rescue) m.2).bind fun r13 => (pLives s.2).bind fun r14 => (pLives (⟨v.2.2.1.1, s.2.Paths, s.2.Posts, v.2.2.1.2.2.2.1, s.2.Chills⟩ : Rescue)).bind fun r15 =>
        bif (r10.2 != 0) then some false else bif (r11.2 != 0) then some false else bif (r12.2 != 0) then some false else bif (r13.2 != 0) then some false else bif (r14.2 != 0) then some false else bif (r15.2 != 0) then some false else
        bif ((r10.1.length : Int) != s.2.Spots) then some false else bif ((r11.1.length : Int) != s.2.Spots) then some false else bif ((r12.1.length : Int) != s.2.Spots) then some false else bif ((r13.1.length : Int) != s.2.Spots) then some false else bif ((r14.1.length : Int) != s.2.Spots) then some false else bif ((r15.1.length : Int) != s.2.Spots) then some false else
        itN V2 (fun v_0 kn => RescueMore_L21 s r11 r10 r12 r13 r15 r14 v_0.1.2.1 (fun y0 => kn (((), y0, ()), ()))) (((), 0, ()), ())) :
    Ok (fun b => b = true) (itN VM9 G (((), (), (), 0, ()), ((s.2.Spots, (), (), (), (), ()), (s.2.Spots, (), (), s.2.Water, (), ()), ()))) := by
  have hv := hM.1
  have hsp := hv.spots
  have hwl := hv.water.1
  have hmp := hM.2.2.2.1
  have hmw := hM.2.2.2.2
  refine Ok.rounds (fun (v : VM9) => 0 ≤ v.1.2.2.2.1 ∧ v.1.2.2.2.1 ≤ s.2.Water.length ∧ v.2.1.1 = s.2.Spots ∧ v.2.2.1.1 = s.2.Spots ∧ v.2.2.1.2.2.2.1.length = s.2.Water.length ∧ ∀ j : Nat, j < s.2.Water.length → v.2.2.1.2.2.2.1.getD j dfltSpan = if (j : Int) < v.1.2.2.2.1 then ⟨(s.2.Water.getD j dfltSpan).Lo + b.2, (s.2.Water.getD j dfltSpan).Hi + b.2⟩ else s.2.Water.getD j dfltSpan) (fun (v : VM9) => (s.2.Water.length - v.1.2.2.2.1).toNat) (FUEL_big (by show ((s.2.Water.length : Int) - 0).toNat ≤ _; omega)) ⟨Int.le_refl _, by simp, rfl, rfl, rfl, fun j hj => by simp only; rw [if_neg (by omega)]⟩ ?_
  rintro ⟨⟨u1, u2, u3, i, u4⟩, ⟨⟨ms, u5, u6, u7, u8, u9⟩, ⟨ws, u10, u11, wa, u12, u13⟩, u14⟩⟩ kn ⟨i0, i1, i2, i3, i4, i5⟩ hk
  simp only at i0 i1 i2 i3 i4 i5 hk
  subst i2 i3
  rw [hG]
  simp only
  refine Ok.ite (fun hc => ?_) (fun hc => ?_)
  · have hi := of_decide_eq_true hc
    have hi' : i.toNat < s.2.Water.length := by omega
    have e1 : w64 (i + 1) = i + 1 := w64_id (by omega) (by omega)
    have cb := ib i0 hi
    have cb2 : decide (i.toNat < wa.length) = true := decide_eq_true (by omega)
    have hg := i5 i.toNat hi'
    rw [if_neg (by omega)] at hg
    obtain ⟨z1, z2, z3⟩ := hmw _ (getD_mem (d := dfltSpan) hi')
    rw [hg, w64_id (n := (s.2.Water.getD i.toNat dfltSpan).Lo + b.2) (by omega) (by omega), w64_id (n := (s.2.Water.getD i.toNat dfltSpan).Hi + b.2) (by omega) (by omega)]
    refine Ok.chk cb (Ok.chk cb2 (Ok.chk cb (Ok.chk cb2 (Ok.beq (span_sp _ _) (Ok.chk cb (Ok.chk cb2 ?_))))))
    rw [e1]
    refine hk ((u1, u2, u3, i + 1, u4), ((_, u5, u6, u7, u8, u9), (_, u10, u11, _, u12, u13), u14)) ⟨by simp only; omega, by simp only; omega, rfl, rfl, by simp [i4], fun j hj => ?_⟩ (by simp only; omega)
    simp only
    rw [getD_setG (by omega)]
    by_cases hji : j = i.toNat
    · subst hji; rw [if_pos rfl, if_pos (by omega)]
    · rw [if_neg hji, i5 j hj]
      by_cases hlt : (j : Int) < i
      · rw [if_pos hlt, if_pos (by omega)]
      · rw [if_neg hlt, if_neg (by omega)]
  · have hi := of_decide_eq_false hc
    have hwa : wa = s.2.Water.map fun x => ⟨x.Lo + b.2, x.Hi + b.2⟩ := by
      apply List.ext_getElem
      · simp [i4]
      · intro j c1 c2
        have hj : j < s.2.Water.length := by omega
        have := i5 j hj
        rw [if_pos (by omega), List.getD_eq_getElem?_getD, List.getElem?_eq_getElem c1, List.getD_eq_getElem?_getD, List.getElem?_eq_getElem hj] at this
        simpa using this
    have hq : RV (moreR s.2 pa po) := more_valid hv (by omega) hpa hp11 hpo
    have hw : RV (warmR s.2 b.2) := warm_valid hv hmw ⟨hb.1, by omega⟩
    have hwe : (⟨s.2.Spots, s.2.Paths, s.2.Posts, wa, s.2.Chills⟩ : Rescue) = warmR s.2 b.2 := by rw [hwa]; rfl
    have hqe : (⟨s.2.Spots, s.2.Paths ++ pa, s.2.Posts ++ [po], s.2.Water, s.2.Chills⟩ : Rescue) = moreR s.2 pa po := rfl
    rw [hwe, hqe]
    refine Ok.beq (reach_ok hv hm) (Ok.beq (reach_ok hq hm) (Ok.beq (cover_ok hv hm) (Ok.beq (cover_ok hq hm) (Ok.beq (lives_ok hv) (Ok.beq (lives_ok hw) ?_)))))
    have hqs : (moreR s.2 pa po).Spots = s.2.Spots := rfl
    have hww : (warmR s.2 b.2).Water.length = s.2.Water.length := by simp [warmR]
    refine Ok.no rfl (Ok.no rfl (Ok.no rfl (Ok.no rfl (Ok.no rfl (Ok.no rfl (Ok.no (by simp; omega) (Ok.no (by simp [hqs]; omega) (Ok.no (by simp; omega) (Ok.no (by simp [hqs]; omega) (Ok.no (by simp; omega) (Ok.no (by simp [hww]; omega) ?_)))))))))))
    exact more_loop hv hq hw rfl rfl (fun k hk => more_reach hv hq m.2 hk) (fun k hk => rfl) (fun k hk => by
      have hkw : k < s.2.Water.length := by omega
      have he : (warmR s.2 b.2).Water.getD k dfltSpan = ⟨(s.2.Water.getD k dfltSpan).Lo + b.2, (s.2.Water.getD k dfltSpan).Hi + b.2⟩ := getD_map (d := dfltSpan) _ hkw
      rw [he]
      exact warm_lives hv (hv.water.2 _ (getD_mem (d := dfltSpan) hkw)) hb.1) rfl
theorem RescueMore_true (nums : List Int) (hn : nums.length ≤ 9223372036854775807) : RescueMore nums = some true := by
  apply ok_eq
  rw [RescueMore_eq]; unfold RescueMore'
  refine Ok.bind (NewSeed_ok hn) fun s0 _ => Ok.bind (RescueOf_ok s0 (by decide) (by decide) ⟨by decide, by decide⟩) fun s hM => ?_
  have hv := hM.1
  have hsp := hv.spots
  have hmp := hM.2.2.2.1
  have hml := hM.2.2.1
  refine Ok.beq (OwnRescue_sp hv) (Ok.bind (Below_ok _ (by decide)) fun m hm => Ok.bind (Below_ok _ (by decide)) fun b hb => Ok.bind (PostOf_ok _ hsp.1 hsp.2) fun po hpo => Ok.chk (fitA_ok (by simp; omega) (by decide)) ?_)
  refine Ok.ite (fun hc => ?_) (fun hc => ?_)
  · have hc := of_decide_eq_true hc
    refine Ok.bind (PathOf_ok _ (by omega) hsp.2) fun pa hpa => Ok.chk (fitA_ok (by simp; omega) (by decide)) (Ok.beq (OwnRescue_sp hv) ?_)
    exact more_warm (b := b) (m := m) hM (by omega) (by omega) (by omega) (pa := [pa.2]) (po := po.2) (fun p hp => by rw [List.mem_singleton.1 hp]; exact hpa) (by simp) hpo _ (fun v kn => rfl)
  · refine Ok.beq (OwnRescue_sp hv) ?_
    refine more_warm (b := b) (m := m) hM (by omega) (by omega) (by omega) (pa := []) (po := po.2) (fun p hp => by cases hp) (by simp) hpo _ (fun v kn => ?_)
    rw [List.append_nil]; rfl
end Go.Proofs.Rescue07

