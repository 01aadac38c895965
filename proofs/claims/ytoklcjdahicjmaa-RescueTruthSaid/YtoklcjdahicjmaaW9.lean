/- Walks by computing: what each function of the program that the laws reach gives for what it gets, as plain Lean, and that it is so; without a condition but those that stand in each theorem. -/
import Derived.Test.YtoklcjdahicjmaaRows
import Derived.WalkKit
import Derived.ProofKit
import Derived.OpenShut
import Derived.Deep.Slices
import Derived.Deep.DeepHandedRow
import Derived.Lib.LaidTab
import Derived.Test.YtoklcjdahicjmaaW1
import Derived.Test.YtoklcjdahicjmaaW2
import Derived.Test.YtoklcjdahicjmaaW3
import Derived.Test.YtoklcjdahicjmaaW4
import Derived.Test.YtoklcjdahicjmaaW5
import Derived.Test.YtoklcjdahicjmaaW6
import Derived.Test.YtoklcjdahicjmaaW7
import Derived.Test.YtoklcjdahicjmaaW8
set_option linter.all false
/- The rescue: least times by the nearest spot first are the same; what truly is. -/
namespace Go.Proofs.Rescue07
open Go Go.Ab Go.Ways
set_option linter.all false
def dn (done : List Bool) (v : Int) : Bool := done.getD v.toNat false
theorem dn_set {done : List Bool} {i v : Int} (hi : 0 ≤ i) (hl : i < done.length) (hv : 0 ≤ v) : dn (done.set i.toNat true) v = (decide (v = i) || dn done v) := by
  unfold dn
  rw [List.getD_eq_getElem?_getD, List.getElem?_set]
  by_cases h : v = i
  · subst h
    have : v.toNat < done.length := by omega
    simp [this]
  · have : ¬ i.toNat = v.toNat := by omega
    simp [h, this, List.getD_eq_getElem?_getD]
def cntD : List Bool → Nat
  | [] => 0
  | b :: l => (bif b then 0 else 1) + cntD l
theorem cntD_set : ∀ {l : List Bool} {i : Nat}, i < l.length → l.getD i false = false → cntD (l.set i true) + 1 = cntD l
  | [], i, h, _ => by simp at h
  | b :: l, 0, _, h => by simp at h; subst h; simp [cntD]; omega
  | b :: l, i + 1, h, h1 => by
    have := cntD_set (l := l) (i := i) (by simpa using h) (by simpa using h1)
    simp only [List.set_cons_succ, cntD]; omega
theorem cntD_rep (n : Nat) : cntD (List.replicate n false) = n := by
  induction n with
  | zero => rfl
  | succ n ih => simp only [List.replicate_succ, cntD, ih, cond_false]; omega
/-- What holds between two rounds. -/
structure Dij (E : Edges) (n : Nat) (s : Int) (out : List Int) (done : List Bool) : Prop where
  fine : Fine E n 1000000 s out
  len : done.length = n
  s0 : gt out s ≤ 0
  near : ∀ u v : Int, 0 ≤ u → u < n → 0 ≤ v → v < n → dn done u = true → dn done v = false → gt out u ≤ gt out v
  stab : ∀ u v t, E u v t → dn done u = true → gt out v ≤ gt out u + t
theorem Dij.dist {E : Edges} {n : Nat} {s : Int} {out : List Int} {done : List Bool} (hg : GoodE E n 5000) (hs : 0 ≤ s ∧ s < n) (h : Dij E n s out done) (hend : ∀ v : Int, 0 ≤ v → v < n → dn done v = true ∨ 1000000 ≤ gt out v) : IsDist E s n 1000000 (gt out) := by
  refine ⟨fun v h0 h1 => (h.fine.2 v h0 h1).1, fun v h0 h1 => (h.fine.2 v h0 h1).2, fun v d hw => ?_⟩
  induction hw with
  | nil => exact h.s0
  | step hw he ih =>
    rename_i u v d t
    have hin := hg _ _ _ he
    rcases hend u (by omega) (by omega) with h1 | h1
    · have := h.stab _ _ _ he h1; omega
    · have := (h.fine.2 v (by omega) (by omega)).1; omega
abbrev VW3 := (Unit × Unit × (List Int) × Unit × Int × Unit) × Unit
abbrev VW500 := (Unit × Unit × (List Int) × (List Bool) × Unit) × Unit
abbrev VW9 := (Unit × Unit × Unit × Unit × Int × Int × Unit) × Unit
theorem walked_sp {r : Rescue} (hv : RV r) (f : Facts) {s : Int} (hs : 0 ≤ s ∧ s < r.Spots) (h1 : f.Times.length = r.Paths.length) (h2 : f.Open.length = r.Paths.length)
    (hes : ∀ e ∈ legs3 r.Paths f.Times f.Open, LegIn r.Spots.toNat 5000 e) : walked r f s = some (bf r.Spots.toNat 1000000 (legs3 r.Paths f.Times f.Open) s) := by
  have hsp := hv.spots
  have hnp := hv.nPaths
  obtain ⟨n, hn0⟩ : ∃ n, r.Spots.toNat = n := ⟨_, rfl⟩
  rw [hn0] at hes ⊢
  have hsn : r.Spots = (n : Int) := by omega
  obtain ⟨es, hE⟩ : ∃ es, legs3 r.Paths f.Times f.Open = es := ⟨_, rfl⟩
  rw [hE] at hes ⊢
  have hel : es.length = r.Paths.length := by rw [← hE]; simp [legs3]
  have hg : GoodE (EdgesOf es) n 5000 := good_of hes
  have hs' : 0 ≤ s ∧ s < (n : Int) := by omega
  rw [walked_eq]; unfold walked'
  apply ok_eq
  refine Ok.chk (by simp [fitM]; omega) (Ok.chk (by simp [fitM]; omega) ?_)
  refine Ok.rounds (fun (v : VW3) => 0 ≤ v.1.2.2.2.2.1 ∧ v.1.2.2.2.2.1 ≤ n ∧ v.1.2.2.1.length = n ∧ ∀ j : Nat, (j : Int) < v.1.2.2.2.2.1 → v.1.2.2.1.getD j 0 = 1000000) (fun (v : VW3) => (n - v.1.2.2.2.2.1).toNat) (FUEL_big (by show ((n : Int) - 0).toNat ≤ _; omega)) ⟨Int.le_refl _, by simp, by simp [hn0], fun j hj => by simp only at hj; omega⟩ ?_
  rintro ⟨⟨u1, u2, out, u3, i, u4⟩, u5⟩ kn ⟨i0, i1, i2, i3⟩ hk
  simp only at i0 i1 i2 i3 hk ⊢
  unfold walked_L3
  refine Ok.ite (fun hc => ?_) (fun hc => ?_)
  · have hi := of_decide_eq_true hc
    refine Ok.chk (ib i0 (by omega)) (Ok.chk (decide_eq_true (by omega)) ?_)
    have e1 : w64 (i + 1) = i + 1 := w64_id (by omega) (by omega)
    rw [e1]
    refine hk ((u1, u2, out.set i.toNat 1000000, u3, i + 1, u4), u5) ⟨by simp only; omega, by simp only; omega, by simp [i2], fun j hj => ?_⟩ (by simp only; omega)
    simp only at hj ⊢
    have := gt_set (out := out) (i := i) (x := 1000000) (v := j) i0 (by omega) (by omega)
    unfold gt at this
    simp only [Int.toNat_natCast] at this
    rw [this]
    split
    · rfl
    · exact i3 j (by omega)
  · have hi := of_decide_eq_false hc
    have ho : out = List.replicate n 1000000 := by
      rw [List.eq_replicate_iff]
      refine ⟨i2, fun b hb => ?_⟩
      obtain ⟨j, hj, rfl⟩ := List.getElem_of_mem hb
      have := i3 j (by omega)
      rw [List.getD_eq_getElem?_getD, List.getElem?_eq_getElem hj] at this
      exact this
    refine Ok.chk (ib hs.1 (by omega)) (Ok.chk (decide_eq_true (by omega)) ?_)
    have hst : out.set s.toNat 0 = startL n 1000000 s := by rw [ho]; rfl
    rw [hst, hn0]
    have dn0 : ∀ v, dn (List.replicate n false) v = false := fun v => by
      unfold dn
      rw [List.getD_eq_getElem?_getD, List.getElem?_replicate]
      split <;> rfl
    refine Ok.rounds (fun (v : VW500) => Dij (EdgesOf es) n s v.1.2.2.1 v.1.2.2.2.1) (fun (v : VW500) => cntD v.1.2.2.2.1) (FUEL_big (by show cntD (List.replicate n false) ≤ _; rw [cntD_rep]; omega)) ⟨bf_fine (B := 1000000) hes hs' (by decide) 0, by simp, by simp only; rw [gt_start hs' hs'.1 hs'.2]; simp, (fun u v _ _ _ _ hu => by simp only at hu; rw [dn0] at hu; cases hu), (fun u v t _ hu => by simp only at hu; rw [dn0] at hu; cases hu)⟩ ?_
    rintro ⟨⟨v1, v2, out2, done, v3⟩, v4⟩ kn2 hD hk2
    simp only at hD hk2 ⊢
    have hl2 := hD.fine.1
    have hld := hD.len
    unfold walked_L500003
    refine Ok.rounds (fun (v : VW9) => 0 ≤ v.1.2.2.2.2.2.1 ∧ v.1.2.2.2.2.2.1 ≤ n ∧ ((v.1.2.2.2.2.1 = -1 ∧ ∀ j : Int, 0 ≤ j → j < v.1.2.2.2.2.2.1 → dn done j = true ∨ 1000000 ≤ gt out2 j) ∨ (0 ≤ v.1.2.2.2.2.1 ∧ v.1.2.2.2.2.1 < n ∧ dn done v.1.2.2.2.2.1 = false ∧ gt out2 v.1.2.2.2.2.1 < 1000000 ∧ ∀ j : Int, 0 ≤ j → j < v.1.2.2.2.2.2.1 → dn done j = false → gt out2 v.1.2.2.2.2.1 ≤ gt out2 j))) (fun (v : VW9) => (n - v.1.2.2.2.2.2.1).toNat) (FUEL_big (by show ((n : Int) - 0).toNat ≤ _; omega)) ⟨Int.le_refl _, by simp, .inl ⟨rfl, fun j a b => by simp only at b; omega⟩⟩ ?_
    rintro ⟨⟨w1, w2, w3, w4, at_, q, w5⟩, w6⟩ kn3 ⟨q0, q1, q2⟩ hk3
    simp only at q0 q1 q2 hk3 ⊢
    unfold walked_L9
    refine Ok.ite (fun hc => ?_) (fun hc => ?_)
    · have hq := of_decide_eq_true hc
      have e1 : w64 (q + 1) = q + 1 := w64_id (by omega) (by omega)
      rw [e1]
      have cb : (decide (0 ≤ q) && decide (q < (out2.length : Int))) = true := ib q0 (by omega)
      have cb2 : decide (q.toNat < out2.length) = true := decide_eq_true (by omega)
      refine Ok.chk (ib q0 (by omega)) (Ok.chk (decide_eq_true (by omega)) ?_)
      have same : (dn done q = true ∨ 1000000 ≤ gt out2 q ∨ (0 ≤ at_ ∧ gt out2 at_ ≤ gt out2 q)) → Ok (fun b => b = bf n 1000000 es s) (kn3 ((w1, w2, w3, w4, at_, q + 1, w5), w6)) := fun h => by
        refine hk3 ((w1, w2, w3, w4, at_, q + 1, w5), w6) ⟨by simp only; omega, by simp only; omega, ?_⟩ (by simp only; omega)
        rcases q2 with ⟨a1, a2⟩ | ⟨a1, a2, a3, a4, a5⟩
        · refine .inl ⟨a1, fun j b1 b2 => ?_⟩
          simp only at b2
          by_cases hj : j = q
          · subst hj
            rcases h with h | h | h
            · exact .inl h
            · exact .inr h
            · omega
          · exact a2 j b1 (by omega)
        · refine .inr ⟨a1, a2, a3, a4, fun j b1 b2 b3 => ?_⟩
          simp only at b2
          by_cases hj : j = q
          · subst hj
            rcases h with h | h | h
            · rw [h] at b3; cases b3
            · simp only; omega
            · exact h.2
          · exact a5 j b1 (by omega) b3
      have take : dn done q = false → gt out2 q < 1000000 → (at_ < 0 ∨ gt out2 q < gt out2 at_) → Ok (fun b => b = bf n 1000000 es s) (kn3 ((w1, w2, w3, w4, q, q + 1, w5), w6)) := fun h1 h2 h3 => by
        refine hk3 ((w1, w2, w3, w4, q, q + 1, w5), w6) ⟨by simp only; omega, by simp only; omega, .inr ⟨q0, by simp only; omega, h1, h2, fun j b1 b2 b3 => ?_⟩⟩ (by simp only; omega)
        simp only at b2 ⊢
        by_cases hj : j = q
        · subst hj; exact Int.le_refl _
        · rcases q2 with ⟨a1, a2⟩ | ⟨a1, a2, a3, a4, a5⟩
          · rcases a2 j b1 (by omega) with h | h
            · rw [h] at b3; cases b3
            · omega
          · have := a5 j b1 (by omega) b3
            rcases h3 with h3 | h3 <;> omega
      refine Ok.ite (fun hd => ?_) (fun hd => ?_)
      · have hd : dn done q = false := by simpa [dn] using hd
        refine Ok.chk cb (Ok.chk cb2 ?_)
        refine Ok.ite (fun hb => ?_) (fun hb => ?_)
        · have hb : gt out2 q < 1000000 := of_decide_eq_true hb
          refine Ok.ite (fun ha => ?_) (fun ha => ?_)
          · exact take hd hb (.inl (of_decide_eq_true ha))
          · have ha := of_decide_eq_false ha
            have hat : 0 ≤ at_ ∧ at_ < n := by
              rcases q2 with ⟨a1, a2⟩ | ⟨a1, a2, a3, a4, a5⟩ <;> omega
            refine Ok.chk cb (Ok.chk cb2 (Ok.chk (ib hat.1 (by omega)) (Ok.chk (decide_eq_true (by omega)) ?_)))
            refine Ok.ite (fun hl => ?_) (fun hl => ?_)
            · exact take hd hb (.inr (of_decide_eq_true hl))
            · have hl : ¬ gt out2 q < gt out2 at_ := of_decide_eq_false hl
              exact same (.inr (.inr ⟨hat.1, by omega⟩))
        · have hb : ¬ gt out2 q < 1000000 := of_decide_eq_false hb
          exact same (.inr (.inl (by omega)))
      · have hd : dn done q = true := by simpa [dn] using hd
        exact same (.inl hd)
    · have hq := of_decide_eq_false hc
      refine Ok.ite (fun ha => ?_) (fun ha => ?_)
      · have ha := of_decide_eq_true ha
        rcases q2 with ⟨a1, a2⟩ | ⟨a1, _⟩
        · have hdist := hD.dist hg hs' fun v b0 b1 => a2 v b0 (by omega)
          have hbf := bf_dist (B := 1000000) hes hs' (by decide)
          refine Ok.some ?_
          apply List.ext_getElem
          · rw [hl2, bf_len]
          · intro j c1 c2
            have := hdist.eq hbf (v := (j : Int)) (by omega) (by omega)
            unfold gt at this
            rw [Int.toNat_natCast, List.getD_eq_getElem?_getD, List.getElem?_eq_getElem c1, List.getD_eq_getElem?_getD, List.getElem?_eq_getElem c2] at this
            exact this
        · omega
      · have ha := of_decide_eq_false ha
        rcases q2 with ⟨a1, _⟩ | ⟨a1, a2, a3, a4, a5⟩
        · omega
        have hmin : ∀ j : Int, 0 ≤ j → j < n → dn done j = false → gt out2 at_ ≤ gt out2 j := fun j b1 b2 b3 => a5 j b1 (by omega) b3
        have hpos := fine_pos (B := 1000000) hg (by decide) hD.fine (v := at_) a1 a2
        refine Ok.chk (ib a1 (by omega)) (Ok.chk (decide_eq_true (by omega)) ?_)
        have hdn : ∀ v : Int, 0 ≤ v → dn (done.set at_.toNat true) v = (decide (v = at_) || dn done v) := fun v b => dn_set a1 (by omega) b
        refine Ok.rounds (fun (v : VW3) => 0 ≤ v.1.2.2.2.2.1 ∧ v.1.2.2.2.2.1 ≤ es.length ∧ Fine (EdgesOf es) n 1000000 s v.1.2.2.1 ∧ gt v.1.2.2.1 s ≤ 0 ∧ (∀ u : Int, 0 ≤ u → u < n → (u = at_ ∨ dn done u = true) → gt v.1.2.2.1 u = gt out2 u) ∧ (∀ u : Int, 0 ≤ u → u < n → gt v.1.2.2.1 u ≤ gt out2 u ∧ (dn done u = false → gt out2 at_ ≤ gt v.1.2.2.1 u)) ∧ (∀ j : Nat, (j : Int) < v.1.2.2.2.2.1 → (es.getD j (0, 0, 0, false)).2.2.2 = true → ((es.getD j (0, 0, 0, false)).1 = at_ → gt v.1.2.2.1 (es.getD j (0, 0, 0, false)).2.1 ≤ gt out2 at_ + (es.getD j (0, 0, 0, false)).2.2.1) ∧ ((es.getD j (0, 0, 0, false)).2.1 = at_ → gt v.1.2.2.1 (es.getD j (0, 0, 0, false)).1 ≤ gt out2 at_ + (es.getD j (0, 0, 0, false)).2.2.1))) (fun (v : VW3) => (es.length - v.1.2.2.2.2.1).toNat) (FUEL_big (by show ((es.length : Int) - 0).toNat ≤ _; omega)) ⟨Int.le_refl _, by simp, hD.fine, hD.s0, fun u _ _ _ => rfl, fun u b0 b1 => ⟨Int.le_refl _, fun h => hmin u b0 b1 h⟩, fun j hj => by simp only at hj; omega⟩ ?_
        rintro ⟨⟨x1, x2, out3, x3, k, x4⟩, x5⟩ kn4 ⟨k0, k1, kf, ks, kd, kb, ke⟩ hk4
        simp only at k0 k1 kf ks kd kb ke hk4 ⊢
        have hl3 := kf.1
        unfold walked_L17
        refine Ok.ite (fun hc => ?_) (fun hc => ?_)
        · have hkl := of_decide_eq_true hc
          have hkl' : k.toNat < es.length := by omega
          have e1 : w64 (k + 1) = k + 1 := w64_id (by omega) (by omega)
          have hle := hes _ (getD_mem (d := ((0, 0, 0, false) : Leg)) hkl')
          have hmem := getD_mem (d := ((0, 0, 0, false) : Leg)) hkl'
          have he : es.getD k.toNat (0, 0, 0, false) = ((r.Paths.getD k.toNat dfltPath).A, (r.Paths.getD k.toNat dfltPath).B, f.Times.getD k.toNat 0, f.Open.getD k.toNat false) := by
            rw [← hE]; exact getD_range _ _ (by omega)
          have hpath := hv.paths _ (getD_mem (d := dfltPath) (show k.toNat < r.Paths.length by omega))
          have hne := hpath.ne
          obtain ⟨a, hA⟩ : ∃ a, (r.Paths.getD k.toNat dfltPath).A = a := ⟨_, rfl⟩
          obtain ⟨b, hB⟩ : ∃ b, (r.Paths.getD k.toNat dfltPath).B = b := ⟨_, rfl⟩
          obtain ⟨t, hT⟩ : ∃ t, f.Times.getD k.toNat 0 = t := ⟨_, rfl⟩
          rw [hA, hB, hT] at he
          rw [hA, hB] at hne
          rw [he] at hle hmem
          have hle' := hle
          unfold LegIn at hle'
          simp only at hle'
          rw [e1]
          simp only [hA, hB, hT]
          have skip : ((es.getD k.toNat (0, 0, 0, false)).2.2.2 = true → (es.getD k.toNat (0, 0, 0, false)).1 ≠ at_ ∧ (es.getD k.toNat (0, 0, 0, false)).2.1 ≠ at_) → Ok (fun b => b = bf n 1000000 es s) (kn4 ((x1, x2, out3, x3, k + 1, x4), x5)) := fun h => by
            refine hk4 ((x1, x2, out3, x3, k + 1, x4), x5) ⟨by simp only; omega, by simp only; omega, kf, ks, kd, kb, fun j hj ho => ?_⟩ (by simp only; omega)
            simp only at hj
            by_cases hjk : j = k.toNat
            · subst hjk
              obtain ⟨h1, h2⟩ := h ho
              exact ⟨fun e => absurd e h1, fun e => absurd e h2⟩
            · exact ke j (by omega) ho
          refine Ok.chk (ib k0 hkl) (Ok.chk (ib k0 (by omega)) ?_)
          cases hop : f.Open.getD k.toNat false with
          | false =>
            simp only [cond_false]
            exact skip fun h => by rw [he, hop] at h; cases h
          | true =>
            simp only [cond_true]
            rw [hop] at he hmem
            -- the other end w of a path from at_
            have step : ∀ w : Int, 0 ≤ w → w < n → w ≠ at_ → EdgesOf es at_ w t → ((a = at_ ∧ b = w) ∨ (b = at_ ∧ a = w)) → Ok (fun b => b = bf n 1000000 es s) (kn4 ((x1, x2, out3.set w.toNat (min (gt out3 w) (gt out3 at_ + t)), x3, k + 1, x4), x5)) := fun w w0 w1 wn hed hab => by
              have hgs : ∀ u : Int, 0 ≤ u → gt (out3.set w.toNat (min (gt out3 w) (gt out3 at_ + t))) u = if u = w then min (gt out3 w) (gt out3 at_ + t) else gt out3 u := fun u u0 => gt_set w0 (by omega) u0
              have hat3 := kd at_ a1 a2 (.inl rfl)
              have hw3 := kb w w0 w1
              have hdw : dn done w = true → gt out3 w ≤ gt out2 at_ := fun h => by
                rw [kd w w0 w1 (.inr h)]; exact hD.near w at_ w0 w1 a1 a2 h a3
              refine hk4 ((x1, x2, _, x3, k + 1, x4), x5) ⟨by simp only; omega, by simp only; omega, ⟨by simp [hl3], fun u u0 u1 => ?_⟩, ?_, fun u u0 u1 hu => ?_, fun u u0 u1 => ?_, fun j hj ho => ?_⟩ (by simp only; omega)
              · simp only
                rw [hgs u u0]
                have hu := kf.2 u u0 u1
                split
                · rename_i e
                  subst e
                  have hatf := kf.2 at_ a1 a2
                  by_cases hm : gt out3 u ≤ gt out3 at_ + t
                  · rw [Int.min_eq_left hm]; exact hu
                  · rw [Int.min_eq_right (by omega)]
                    refine ⟨by omega, .inr ?_⟩
                    rcases hatf.2 with h | h
                    · omega
                    · exact .step h hed
                · exact hu
              · simp only
                rw [hgs s hs'.1]
                split
                · rename_i e; rw [← e]; omega
                · exact ks
              · simp only
                rw [hgs u u0]
                split
                · rename_i e
                  subst e
                  rcases hu with hu | hu
                  · exact absurd hu wn
                  · have := hdw hu
                    rw [← kd u u0 u1 (.inr hu)]; omega
                · exact kd u u0 u1 hu
              · simp only
                rw [hgs u u0]
                have hu := kb u u0 u1
                split
                · rename_i e
                  subst e
                  refine ⟨by omega, fun h => ?_⟩
                  have := hu.2 h
                  omega
                · exact hu
              · simp only at hj ⊢
                have hje : ∀ u : Int, 0 ≤ u → gt (out3.set w.toNat (min (gt out3 w) (gt out3 at_ + t))) u ≤ gt out3 u := fun u u0 => by
                  rw [hgs u u0]; split
                  · rename_i e; rw [e]; omega
                  · omega
                by_cases hjk : j = k.toNat
                · subst hjk
                  rw [he]
                  simp only
                  refine ⟨fun e => ?_, fun e => ?_⟩
                  · have hbw : b = w := by rcases hab with ⟨_, h⟩ | ⟨h1, h2⟩ <;> omega
                    rw [hbw, hgs w w0, if_pos rfl]; omega
                  · have haw : a = w := by rcases hab with ⟨h1, h2⟩ | ⟨_, h⟩ <;> omega
                    rw [haw, hgs w w0, if_pos rfl]; omega
                · have hjl : j < es.length := by omega
                  have hlj := hes _ (getD_mem (d := ((0, 0, 0, false) : Leg)) hjl)
                  unfold LegIn at hlj
                  obtain ⟨z1, z2⟩ := ke j (by omega) ho
                  exact ⟨fun e => Int.le_trans (hje _ (by omega)) (z1 e), fun e => Int.le_trans (hje _ (by omega)) (z2 e)⟩
            have hed := edge_of hmem rfl
            simp only at hed
            have hatb := fine_pos (B := 1000000) hg (by decide) kf (v := at_) a1 a2
            have e2 : w64 (out3.getD at_.toNat 0 + t) = gt out3 at_ + t := w64_id (by show _ ≤ gt out3 at_ + t; omega) (by show gt out3 at_ + t ≤ _; omega)
            refine Ok.ite (fun h => ?_) (fun h => ?_)
            · have h : a = at_ := by simpa using h
              have e3 : w64 (w64 (a + b) - at_) = b := by rw [w64_id (n := a + b) (by omega) (by omega), w64_id (by omega) (by omega)]; omega
              rw [e3, e2]
              have cb : (decide (0 ≤ b) && decide (b < (out3.length : Int))) = true := ib (by omega) (by omega)
              have cb2 : decide (b.toNat < out3.length) = true := decide_eq_true (by omega)
              refine Ok.chk cb (Ok.chk cb2 (Ok.chk (ib a1 (by omega)) (Ok.chk (decide_eq_true (by omega)) (Ok.chk (ib k0 (by omega)) (Ok.chk cb (Ok.chk cb2 ?_))))))
              exact step b (by omega) (by omega) (by omega) (by rw [← h]; exact hed.1) (.inl ⟨h, rfl⟩)
            · have h : a ≠ at_ := by simpa using h
              refine Ok.ite (fun h2 => ?_) (fun h2 => ?_)
              · have h2 : b = at_ := by simpa using h2
                have e3 : w64 (w64 (a + b) - at_) = a := by rw [w64_id (n := a + b) (by omega) (by omega), w64_id (by omega) (by omega)]; omega
                rw [e3, e2]
                have cb : (decide (0 ≤ a) && decide (a < (out3.length : Int))) = true := ib (by omega) (by omega)
                have cb2 : decide (a.toNat < out3.length) = true := decide_eq_true (by omega)
                refine Ok.chk cb (Ok.chk cb2 (Ok.chk (ib a1 (by omega)) (Ok.chk (decide_eq_true (by omega)) (Ok.chk (ib k0 (by omega)) (Ok.chk cb (Ok.chk cb2 ?_))))))
                exact step a (by omega) (by omega) (by omega) (by rw [← h2]; exact hed.2) (.inr ⟨h2, rfl⟩)
              · have h2 : b ≠ at_ := by simpa using h2
                exact skip fun _ => by rw [he]; exact ⟨h, h2⟩
        · have hkl := of_decide_eq_false hc
          refine hk2 ((v1, v2, out3, done.set at_.toNat true, v3), v4) ⟨kf, by simp [hld], ks, fun u v u0 u1 v0 v1 hu hvn => ?_, fun u v t he hu => ?_⟩ ?_
          · rw [hdn u u0] at hu
            rw [hdn v v0] at hvn
            simp only [Bool.or_eq_true, decide_eq_true_eq] at hu
            simp only [Bool.or_eq_false_iff, decide_eq_false_iff_not] at hvn
            have h6 := (kb v v0 v1).2 hvn.2
            rcases hu with hu | hu
            · simp only; rw [kd u u0 u1 (.inl hu), hu]; exact h6
            · simp only; rw [kd u u0 u1 (.inr hu)]
              have := hD.near u at_ u0 u1 a1 a2 hu a3
              omega
          · have hin := hg _ _ _ he
            rw [hdn u (by omega)] at hu
            simp only [Bool.or_eq_true, decide_eq_true_eq] at hu
            simp only
            by_cases hua : u = at_
            · subst hua
              rw [kd u a1 a2 (.inl rfl)]
              obtain ⟨e, hme, ho, rfl, hab⟩ := he
              obtain ⟨j, hj, rfl⟩ := List.getElem_of_mem hme
              have hj2 := ke j (by omega)
              rw [List.getD_eq_getElem?_getD, List.getElem?_eq_getElem hj] at hj2
              obtain ⟨z1, z2⟩ := hj2 ho
              rcases hab with ⟨h3, h4⟩ | ⟨h3, h4⟩
              · rw [← h4]; exact z1 h3
              · rw [← h3]; exact z2 h4
            · rcases hu with hu | hu
              · exact absurd hu hua
              · have h3 := hD.stab _ _ _ he hu
                have h4 := (kb v (by omega) (by omega)).1
                rw [kd u (by omega) (by omega) (.inr hu)]
                omega
          · simp only
            have := cntD_set (l := done) (i := at_.toNat) (by omega) a3
            omega
end Go.Proofs.Rescue07


/- The rescue: true times of posts; RescueEnds. -/
namespace Go.Proofs.Rescue07
open Go Go.Ab Go.Ways
set_option linter.all false
/-- What truly is on the road and with the posts lies in what is said. -/
structure FactsT (r : Rescue) (f : Facts) : Prop where
  nT : f.Times.length = r.Paths.length
  tm : ∀ i, i < r.Paths.length → (r.Paths.getD i dfltPath).Time.Lo ≤ f.Times.getD i 0 ∧ f.Times.getD i 0 ≤ (r.Paths.getD i dfltPath).Time.Hi
  nO : f.Open.length = r.Paths.length
  op : ∀ i, i < r.Paths.length → ((r.Paths.getD i dfltPath).Open = 1 → f.Open.getD i false = true) ∧ ((r.Paths.getD i dfltPath).Open = 2 → f.Open.getD i false = false)
  nR : f.Ready.length = r.Posts.length
  rd : ∀ i, i < r.Posts.length → (r.Posts.getD i dfltPost).Ready.Lo ≤ f.Ready.getD i 0 ∧ f.Ready.getD i 0 ≤ (r.Posts.getD i dfltPost).Ready.Hi
  nF : f.Flies.length = r.Posts.length
  fl : ∀ i, i < r.Posts.length → ((r.Posts.getD i dfltPost).Flies = 1 → f.Flies.getD i false = true) ∧ ((r.Posts.getD i dfltPost).Flies = 2 → f.Flies.getD i false = false)
  nA : f.Air.length = r.Posts.length
  air : ∀ i, i < r.Posts.length → (f.Air.getD i []).length = (r.Posts.getD i dfltPost).Air.length ∧ ∀ k, k < (r.Posts.getD i dfltPost).Air.length → ((r.Posts.getD i dfltPost).Air.getD k dfltSpan).Lo ≤ (f.Air.getD i []).getD k 0 ∧ (f.Air.getD i []).getD k 0 ≤ ((r.Posts.getD i dfltPost).Air.getD k dfltSpan).Hi
def baseS (r : Rescue) (f : Facts) (p k : Nat) : Int := bif (r.Posts.getD p dfltPost).Flies == 0 then (bf r.Spots.toNat 1000000 (legs3 r.Paths f.Times f.Open) (r.Posts.getD p dfltPost).Spot).getD k 0 else (f.Air.getD p []).getD k 0
def truS (r : Rescue) (f : Facts) (p k : Nat) : Int := bif ((r.Posts.getD p dfltPost).Flies != 0) && !(f.Flies.getD p false) then 1000000 else min 1000000 (baseS r f p k + f.Ready.getD p 0)
theorem legs3_in {r : Rescue} (hv : RV r) {f : Facts} (hf : FactsT r f) : ∀ e ∈ legs3 r.Paths f.Times f.Open, LegIn r.Spots.toNat 5000 e := fun e he => by
  simp only [legs3, List.mem_map, List.mem_range] at he
  obtain ⟨i, hi, rfl⟩ := he
  obtain ⟨a0, a1, b0, b1, _, ⟨t0, t1, t2⟩, _⟩ := hv.paths _ (getD_mem (d := dfltPath) hi)
  have := hf.tm i hi
  unfold LegIn
  simp only; omega
theorem base_bnd {r : Rescue} (hv : RV r) {f : Facts} (hf : FactsT r f) {p k : Nat} (hp : p < r.Posts.length) (hk : k < r.Spots.toNat) : 0 ≤ baseS r f p k ∧ baseS r f p k ≤ 1000000 := by
  have hsp := hv.spots
  have hpo := hv.posts _ (getD_mem (d := dfltPost) hp)
  unfold baseS
  cases h : ((r.Posts.getD p dfltPost).Flies == 0) with
  | true =>
    have hs' : 0 ≤ (r.Posts.getD p dfltPost).Spot ∧ (r.Posts.getD p dfltPost).Spot < (r.Spots.toNat : Int) := by have := hpo.spot; omega
    have h1 := fine_pos (B := 1000000) (good_of (legs3_in hv hf)) (by decide) (bf_fine (legs3_in hv hf) hs' (by decide) r.Spots.toNat) (v := (k : Int)) (by omega) (by omega)
    unfold gt at h1
    simp only [Int.toNat_natCast] at h1
    exact h1
  | false =>
    have hf0 : (r.Posts.getD p dfltPost).Flies ≠ 0 := by simpa using h
    obtain ⟨hl, a1, a2, a3⟩ := air_in hpo hf0 hk
    have := (hf.air p hp).2 k hl
    simp only [cond_false]; omega
abbrev VT7 := (Unit × Unit × (List Int) × Int × Unit) × Unit
theorem truly_sp {r : Rescue} (hv : RV r) {f : Facts} (hf : FactsT r f) {p : Int} (hp : 0 ≤ p ∧ p < r.Posts.length) : truly r f p = some ((List.range r.Spots.toNat).map (truS r f p.toNat)) := by
  have hsp := hv.spots
  have hpn : p.toNat < r.Posts.length := by omega
  have hpo := hv.posts _ (getD_mem (d := dfltPost) hpn)
  have hrd := hf.rd p.toNat hpn
  obtain ⟨r1, r2, r3⟩ := hpo.ready
  rw [truly_eq]; unfold truly'
  apply ok_eq
  refine Ok.chk (ib hp.1 hp.2) ?_
  -- the loop, from a list that holds what it starts from
  have loop : ∀ (G : VT7 → (VT7 → Option (List Int)) → Option (List Int)) (out : List Int), out.length = r.Spots.toNat → (∀ j, j < r.Spots.toNat → out.getD j 0 = baseS r f p.toNat j) →
      (∀ v kn, G v kn = truly_L7 p f r v.1.2.2.1 v.1.2.2.2.1 (fun y0 y1 => kn (((), (), y0, y1, ()), ()))) → Ok (fun x => x = (List.range r.Spots.toNat).map (truS r f p.toNat)) (itN VT7 G (((), (), out, 0, ()), ())) := fun G out hlo hob hG => by
    refine Ok.rounds (fun (v : VT7) => 0 ≤ v.1.2.2.2.1 ∧ v.1.2.2.2.1 ≤ r.Spots ∧ v.1.2.2.1.length = r.Spots.toNat ∧ ∀ j : Nat, j < r.Spots.toNat → v.1.2.2.1.getD j 0 = if (j : Int) < v.1.2.2.2.1 then truS r f p.toNat j else baseS r f p.toNat j) (fun (v : VT7) => (r.Spots - v.1.2.2.2.1).toNat) (FUEL_big (by show (r.Spots - 0).toNat ≤ _; omega)) ⟨Int.le_refl _, by simp only; omega, hlo, fun j hj => by simp only; rw [if_neg (by omega)]; exact hob j hj⟩ ?_
    rintro ⟨⟨u1, u2, out, i, u3⟩, u4⟩ kn ⟨i0, i1, i2, i3⟩ hk
    simp only at i0 i1 i2 i3 hk
    rw [hG]
    simp only
    unfold truly_L7
    refine Ok.ite (fun hc => ?_) (fun hc => ?_)
    · have hi := of_decide_eq_true hc
      have hin : i.toNat < r.Spots.toNat := by omega
      have e1 : w64 (i + 1) = i + 1 := w64_id (by omega) (by omega)
      have hb := base_bnd hv hf hpn hin
      have hg := i3 i.toNat hin
      rw [if_neg (by omega)] at hg
      have e2 : w64 (out.getD i.toNat 0 + f.Ready.getD p.toNat 0) = baseS r f p.toNat i.toNat + f.Ready.getD p.toNat 0 := by rw [hg]; exact w64_id (by omega) (by omega)
      have c1 : (decide (0 ≤ i) && decide (i < (out.length : Int))) = true := ib i0 hi
      have c2 : decide (i.toNat < out.length) = true := decide_eq_true (by omega)
      have c3 : (decide (0 ≤ p) && decide (p < (f.Ready.length : Int))) = true := ib hp.1 (by rw [hf.nR]; exact hp.2)
      have c4 : (decide (0 ≤ p) && decide (p < (f.Flies.length : Int))) = true := ib hp.1 (by rw [hf.nF]; exact hp.2)
      have next : ∀ o : List Int, o.length = r.Spots.toNat → (∀ j : Nat, j < r.Spots.toNat → o.getD j 0 = if j = i.toNat then truS r f p.toNat i.toNat else out.getD j 0) → Ok (fun x => x = (List.range r.Spots.toNat).map (truS r f p.toNat)) (kn ((u1, u2, o, i + 1, u3), u4)) := fun o ho hoj => by
        refine hk ((u1, u2, o, i + 1, u3), u4) ⟨by simp only; omega, by simp only; omega, ho, fun j hj => ?_⟩ (by simp only; omega)
        simp only
        rw [hoj j hj, i3 j hj]
        by_cases hji : j = i.toNat
        · rw [if_pos hji, if_pos (by omega), hji]
        · rw [if_neg hji]
          by_cases hlt : (j : Int) < i
          · rw [if_pos hlt, if_pos (by omega)]
          · rw [if_neg hlt, if_neg (by omega)]
      have hset : ∀ (l : List Int) (x : Int), l.length = r.Spots.toNat → ∀ j, j < r.Spots.toNat → (l.set i.toNat x).getD j 0 = if j = i.toNat then x else l.getD j 0 := fun l x hl j hj => getD_set (by omega)
      simp only [e1, e2, c1, c2, c3, c4, chk, cond_true, List.length_set]
      have hT : truS r f p.toNat i.toNat = bif ((r.Posts.getD p.toNat dfltPost).Flies != 0) && !(f.Flies.getD p.toNat false) then 1000000 else min 1000000 (baseS r f p.toNat i.toNat + f.Ready.getD p.toNat 0) := rfl
      cases h1 : ((r.Posts.getD p.toNat dfltPost).Flies != 0) with
      | false =>
        rw [h1] at hT
        simp only [Bool.false_and, cond_false] at hT ⊢
        refine next _ (by simp [i2]) fun j hj => ?_
        rw [hset _ _ i2 j hj, hT]
      | true =>
        rw [h1] at hT
        cases h2 : f.Flies.getD p.toNat false with
        | true =>
          rw [h2] at hT
          simp only [Bool.not_true, Bool.and_false, cond_true, cond_false] at hT ⊢
          refine next _ (by simp [i2]) fun j hj => ?_
          rw [hset _ _ i2 j hj, hT]
        | false =>
          rw [h2] at hT
          simp only [Bool.not_false, Bool.and_true, cond_true] at hT ⊢
          refine next _ (by simp [i2]) fun j hj => ?_
          rw [hset _ _ (by simp [i2]) j hj, hset _ _ i2 j hj, hT]
          split
          · rfl
          · rfl
    · have hi := of_decide_eq_false hc
      refine Ok.some ?_
      apply List.ext_getElem
      · simp [i2]
      · intro j c1 c2
        have := i3 j (by omega)
        rw [if_pos (by omega), List.getD_eq_getElem?_getD, List.getElem?_eq_getElem c1] at this
        simpa using this
  cases h : ((r.Posts.getD p.toNat dfltPost).Flies == 0) with
  | true =>
    simp only [cond_true]
    refine Ok.beq (walked_sp hv f hpo.spot hf.nT hf.nO (legs3_in hv hf)) ?_
    exact loop _ _ (bf_len _ _) (fun j hj => by unfold baseS; rw [h]; rfl) (fun v kn => rfl)
  | false =>
    simp only [cond_false]
    have hf0 : (r.Posts.getD p.toNat dfltPost).Flies ≠ 0 := by simpa using h
    have hal : ((r.Posts.getD p.toNat dfltPost).Air.length : Int) = r.Spots := by have := hpo.air.1; rw [if_neg hf0] at this; exact this
    have hfa := (hf.air p.toNat hpn).1
    refine Ok.chk (ib hp.1 (by rw [hf.nA]; exact hp.2)) (Ok.beq (Own_sp _ (by omega)) ?_)
    exact loop _ _ (by omega) (fun j hj => by unfold baseS; rw [h]; rfl) (fun v kn => rfl)
/-- True times lie in what is known. -/
theorem truS_in {r : Rescue} (hv : RV r) {f : Facts} (hf : FactsT r f) {p k : Nat} (hp : p < r.Posts.length) (hk : k < r.Spots.toNat) : (goS r (r.Posts.getD p dfltPost) k).Lo ≤ truS r f p k ∧ truS r f p k ≤ (goS r (r.Posts.getD p dfltPost) k).Hi := by
  have hsp := hv.spots
  have hpo := hv.posts _ (getD_mem (d := dfltPost) hp)
  have hrd := hf.rd p hp
  obtain ⟨r1, r2, r3⟩ := hpo.ready
  have hfl := hf.fl p hp
  have hb := base_bnd hv hf hp hk
  have key : loS r (r.Posts.getD p dfltPost) k ≤ baseS r f p k ∧ baseS r f p k ≤ hiS r (r.Posts.getD p dfltPost) k := by
    unfold loS hiS baseS
    cases h : ((r.Posts.getD p dfltPost).Flies == 0) with
    | true =>
      simp only [cond_true]
      have hs' : 0 ≤ (r.Posts.getD p dfltPost).Spot ∧ (r.Posts.getD p dfltPost).Spot < (r.Spots.toNat : Int) := by have := hpo.spot; omega
      have d1 := bf_dist (B := 1000000) (legs_mem hv true) hs' (by decide)
      have d2 := bf_dist (B := 1000000) (legs_mem hv false) hs' (by decide)
      have d3 := bf_dist (B := 1000000) (legs3_in hv hf) hs' (by decide)
      have m1 : ∀ u v t, EdgesOf (legs3 r.Paths f.Times f.Open) u v t → ∃ t', EdgesOf (legsOf r.Paths true) u v t' ∧ t' ≤ t := by
        rintro u v t ⟨e, he, ho, rfl, hab⟩
        simp only [legs3, List.mem_map, List.mem_range] at he
        obtain ⟨i, hi, rfl⟩ := he
        refine ⟨(r.Paths.getD i dfltPath).Time.Lo, ⟨_, List.mem_map_of_mem (getD_mem (d := dfltPath) hi), ?_, rfl, hab⟩, (hf.tm i hi).1⟩
        simp only [cond_true, bne_iff_ne, ne_eq]
        intro h2
        have := (hf.op i hi).2 h2
        simp only at ho
        rw [this] at ho; cases ho
      have m2 : ∀ u v t, EdgesOf (legsOf r.Paths false) u v t → ∃ t', EdgesOf (legs3 r.Paths f.Times f.Open) u v t' ∧ t' ≤ t := by
        rintro u v t ⟨e, he, ho, rfl, hab⟩
        simp only [legsOf, List.mem_map] at he
        obtain ⟨q, hq, rfl⟩ := he
        obtain ⟨i, hi, rfl⟩ := List.getElem_of_mem hq
        have hg : r.Paths.getD i dfltPath = r.Paths[i] := by rw [List.getD_eq_getElem?_getD, List.getElem?_eq_getElem hi]; rfl
        have ht := hf.tm i hi
        have hop := hf.op i hi
        rw [hg] at ht hop
        simp only [cond_false, beq_iff_eq] at ho hab
        refine ⟨f.Times.getD i 0, ⟨_, List.mem_map_of_mem (List.mem_range.2 hi), hop.1 ho, rfl, ?_⟩, ht.2⟩
        rw [hg]; exact hab
      have a := d1.mono d3 m1 (v := (k : Int)) (by omega) (by omega)
      have b := d3.mono d2 m2 (v := (k : Int)) (by omega) (by omega)
      unfold gt at a b
      simp only [Int.toNat_natCast] at a b
      exact ⟨a, b⟩
    | false =>
      have hf0 : (r.Posts.getD p dfltPost).Flies ≠ 0 := by simpa using h
      obtain ⟨hl, _⟩ := air_in hpo hf0 hk
      exact (hf.air p hp).2 k hl
  obtain ⟨k1, k2⟩ := key
  have hfv := hpo.flies
  unfold goS truS
  have h4 : (r.Posts.getD p dfltPost).Flies = 0 ∨ (r.Posts.getD p dfltPost).Flies = 1 ∨ (r.Posts.getD p dfltPost).Flies = 2 ∨ (r.Posts.getD p dfltPost).Flies = 3 := by omega
  rcases h4 with h4 | h4 | h4 | h4 <;> rw [h4] at hfl ⊢
  · simp only [show ((0:Int) == 2) = false from rfl, show ((0:Int) == 3) = false from rfl, show ((0:Int) != 0) = false from rfl, Bool.false_and, Bool.or_false, cond_false]; omega
  · rw [hfl.1 rfl]
    simp only [show ((1:Int) == 2) = false from rfl, show ((1:Int) == 3) = false from rfl, Bool.not_true, Bool.and_false, Bool.or_false, cond_false]; omega
  · rw [hfl.2 rfl]
    simp only [show ((2:Int) == 2) = true from rfl, show ((2:Int) != 0) = true from rfl, Bool.not_false, Bool.and_true, Bool.true_or, cond_true]; omega
  · simp only [show ((3:Int) == 2) = false from rfl, show ((3:Int) == 3) = true from rfl, show ((3:Int) != 0) = true from rfl, Bool.true_and, Bool.false_or, cond_true, cond_false]
    cases f.Flies.getD p false <;> simp only [Bool.not_true, Bool.not_false, cond_true, cond_false] <;> omega
/- The ends. -/
theorem endS_sp (x : Span) (b : Bool) : endS x b = some (bif b then x.Lo else x.Hi) := by rw [endS_eq]; unfold endS'; cases b <;> rfl
def extS (r : Rescue) (b : Bool) : Facts := ⟨r.Paths.map fun p => bif b then p.Time.Lo else p.Time.Hi, r.Posts.map fun p => bif b then p.Ready.Lo else p.Ready.Hi, [], [], r.Paths.map fun p => p.Open == 1 || (p.Open == 3 && b), r.Posts.map fun p => p.Flies == 1 || (p.Flies == 3 && b), r.Posts.map fun p => p.Air.map fun x => bif b then x.Lo else x.Hi⟩
abbrev VE3 := (Unit × Unit × Unit × Int × Unit) × (((List Int) × Unit × Unit × Unit × (List Bool) × Unit × Unit × Unit) × Unit)
abbrev VE7 := (Unit × Unit × Unit × Int × Unit) × ((Unit × (List Int) × Unit × Unit × Unit × (List Bool) × (List (List Int)) × Unit) × Unit)
abbrev VE13 := (Unit × Unit × Unit × Unit × (List Int) × Int × Unit) × ((Unit × Unit × Unit × Unit × Unit × Unit × Unit × Unit) × Unit)
theorem air_loop {r : Rescue} (hv : RV r) {i : Int} (hi : 0 ≤ i ∧ i < r.Posts.length) (b : Bool) {fA : List (List Int)} (hA : fA.length ≤ 100) {kn : Int → List Int → List Bool → List (List Int) → Option Facts} {P : Facts → Prop} {fR : List Int} {x : Int} {fF : List Bool} {G : VE13 → (VE13 → Option Facts) → Option Facts} {y : Bool}
    (hG : ∀ v k, G v k = bif (decide (v.1.2.2.2.2.2.1 < (((r.Posts.getD i.toNat dfltPost).Air).length : Int))) then
      chk (decide (0 ≤ v.1.2.2.2.2.2.1) && decide (v.1.2.2.2.2.2.1 < (((r.Posts.getD i.toNat dfltPost).Air).length : Int))) <|
      (endS (((r.Posts.getD i.toNat dfltPost).Air).getD v.1.2.2.2.2.2.1.toNat dfltSpan) b).bind fun r4 =>
      chk (fitA (v.1.2.2.2.2.1.length + [r4].length) 8) <| k (((), (), (), (), v.1.2.2.2.2.1 ++ [r4], w64 (v.1.2.2.2.2.2.1 + 1), ()), (((), (), (), (), (), (), (), ()), ()))
      else chk (fitA (fA.length + [v.1.2.2.2.2.1].length) 24) <| kn (w64 (i + 1)) (fR ++ [x]) (fF ++ [y]) (fA ++ [v.1.2.2.2.2.1]))
    (hk : Ok P (kn (i + 1) (fR ++ [x]) (fF ++ [y]) (fA ++ [(r.Posts.getD i.toNat dfltPost).Air.map fun x => bif b then x.Lo else x.Hi]))) :
    Ok P (itN VE13 G (((), (), (), (), [], 0, ()), (((), (), (), (), (), (), (), ()), ()))) := by
  have hnp := hv.nPosts
  have hsp := hv.spots
  obtain ⟨l, hl⟩ : ∃ l, (r.Posts.getD i.toNat dfltPost).Air = l := ⟨_, rfl⟩
  have hll : (l.length : Int) ≤ 40 := by
    have := (hv.posts _ (getD_mem (d := dfltPost) (show i.toNat < r.Posts.length by omega))).air.1
    rw [hl] at this
    split at this <;> omega
  rw [hl] at hk
  simp only [hl] at hG
  refine Ok.rounds (fun (v : VE13) => 0 ≤ v.1.2.2.2.2.2.1 ∧ v.1.2.2.2.2.2.1 ≤ l.length ∧ v.1.2.2.2.2.1 = (l.take v.1.2.2.2.2.2.1.toNat).map fun x => bif b then x.Lo else x.Hi) (fun (v : VE13) => (l.length - v.1.2.2.2.2.2.1).toNat) (FUEL_big (by show ((l.length : Int) - 0).toNat ≤ _; omega)) ⟨Int.le_refl _, by simp, rfl⟩ ?_
  rintro ⟨⟨u1, u2, u3, u4, air, k, u5⟩, u6⟩ kn2 ⟨k0, k1, k2⟩ hk2
  simp only at k0 k1 k2 hk2
  rw [hG]
  simp only
  refine Ok.ite (fun hc => ?_) (fun hc => ?_)
  · have hkk := of_decide_eq_true hc
    have hk' : k.toNat < l.length := by omega
    have e1 : w64 (k + 1) = k + 1 := w64_id (by omega) (by omega)
    refine Ok.chk (ib k0 hkk) (Ok.beq (endS_sp _ _) (Ok.chk (fitA_ok (by rw [k2]; simp; omega) (by decide)) ?_))
    rw [e1]
    refine hk2 ((u1, u2, u3, u4, _, k + 1, u5), _) ⟨by simp only; omega, by simp only; omega, ?_⟩ (by simp only; omega)
    simp only [toNat_succ k0]
    rw [map_take_succ (d := dfltSpan) _ hk', k2]
  · have hkk := of_decide_eq_false hc
    rw [map_take_all _ (by omega)] at k2
    refine Ok.chk (fitA_ok (by simp; omega) (by decide)) ?_
    rw [w64_id (by omega) (by omega), k2]
    exact hk
theorem extreme_sp {r : Rescue} (hv : RV r) (b : Bool) : extreme r b = some (extS r b) := by
  have hnp := hv.nPosts
  have hna := hv.nPaths
  rw [extreme_eq]; unfold extreme'
  apply ok_eq
  refine Ok.rounds (fun (v : VE3) => 0 ≤ v.1.2.2.2.1 ∧ v.1.2.2.2.1 ≤ r.Paths.length ∧ v.2.1.1 = ((r.Paths.take v.1.2.2.2.1.toNat).map fun p => bif b then p.Time.Lo else p.Time.Hi) ∧ v.2.1.2.2.2.2.1 = (r.Paths.take v.1.2.2.2.1.toNat).map fun p => p.Open == 1 || (p.Open == 3 && b)) (fun (v : VE3) => (r.Paths.length - v.1.2.2.2.1).toNat) (FUEL_big (by show ((r.Paths.length : Int) - 0).toNat ≤ _; omega)) ⟨Int.le_refl _, by simp, rfl, rfl⟩ ?_
  rintro ⟨⟨u1, u2, u3, i, u4⟩, ⟨⟨ft, u5, u6, u7, fo, u8, u9, u10⟩, u11⟩⟩ kn ⟨i0, i1, i2, i3⟩ hk
  simp only at i0 i1 i2 i3 hk ⊢
  unfold extreme_L3
  refine Ok.ite (fun hc => ?_) (fun hc => ?_)
  · have hi := of_decide_eq_true hc
    have hi' : i.toNat < r.Paths.length := by omega
    have e1 : w64 (i + 1) = i + 1 := w64_id (by omega) (by omega)
    have cb := ib i0 hi
    have l2 : ft.length ≤ 120 := by rw [i2]; simp; omega
    have l3 : fo.length ≤ 120 := by rw [i3]; simp; omega
    have f2 : ∀ y : Bool, fitA (fo.length + [y].length) 1 = true := fun y => fitA_ok (by simp; omega) (by decide)
    have next : ∀ y : Bool, y = ((r.Paths.getD i.toNat dfltPath).Open == 1 || ((r.Paths.getD i.toNat dfltPath).Open == 3 && b)) → Ok (fun x => x = extS r b) (kn ((u1, u2, u3, i + 1, u4), ((ft ++ [bif b then (r.Paths.getD i.toNat dfltPath).Time.Lo else (r.Paths.getD i.toNat dfltPath).Time.Hi], u5, u6, u7, fo ++ [y], u8, u9, u10), u11))) := fun y hy => by
      refine hk ((u1, u2, u3, i + 1, u4), ((_, u5, u6, u7, _, u8, u9, u10), u11)) ⟨by simp only; omega, by simp only; omega, ?_, ?_⟩ (by simp only; omega) <;> simp only [toNat_succ i0] <;> rw [map_take_succ (d := dfltPath) _ hi']
      · rw [i2]
      · rw [i3, hy]
    refine Ok.chk cb (Ok.beq (endS_sp _ _) (Ok.chk (fitA_ok (by simp; omega) (by decide)) (Ok.chk cb ?_)))
    rw [e1]
    refine Ok.ite (fun h => ?_) (fun h => ?_)
    · exact Ok.chk (f2 _) (next true (by rw [h]; rfl))
    · refine Ok.chk cb (Ok.ite (fun h2 => ?_) (fun h2 => ?_))
      · exact Ok.chk (f2 _) (next b (by rw [h, h2]; simp))
      · exact Ok.chk (f2 _) (next false (by rw [h, h2]; simp))
  · have hi := of_decide_eq_false hc
    rw [map_take_all _ (by omega)] at i2 i3
    refine Ok.rounds (fun (v : VE7) => 0 ≤ v.1.2.2.2.1 ∧ v.1.2.2.2.1 ≤ r.Posts.length ∧ v.2.1.2.1 = ((r.Posts.take v.1.2.2.2.1.toNat).map fun p => bif b then p.Ready.Lo else p.Ready.Hi) ∧ v.2.1.2.2.2.2.2.1 = ((r.Posts.take v.1.2.2.2.1.toNat).map fun p => p.Flies == 1 || (p.Flies == 3 && b)) ∧ v.2.1.2.2.2.2.2.2.1 = (r.Posts.take v.1.2.2.2.1.toNat).map fun p => p.Air.map fun x => bif b then x.Lo else x.Hi) (fun (v : VE7) => (r.Posts.length - v.1.2.2.2.1).toNat) (FUEL_big (by show ((r.Posts.length : Int) - 0).toNat ≤ _; omega)) ⟨Int.le_refl _, by simp, rfl, rfl, rfl⟩ ?_
    rintro ⟨⟨v1, v2, v3, j, v4⟩, ⟨⟨v5, fr, v6, v7, v8, ff, fa, v9⟩, v10⟩⟩ kn2 ⟨j0, j1, j2, j3, j4⟩ hk2
    simp only at j0 j1 j2 j3 j4 hk2 ⊢
    unfold extreme_L7
    refine Ok.ite (fun hc => ?_) (fun hc => ?_)
    · have hj := of_decide_eq_true hc
      have hj' : j.toNat < r.Posts.length := by omega
      have cb := ib j0 hj
      have l2 : fr.length ≤ 12 := by rw [j2]; simp; omega
      have l3 : ff.length ≤ 12 := by rw [j3]; simp; omega
      have l4 : fa.length ≤ 12 := by rw [j4]; simp; omega
      have f2 : ∀ y : Bool, fitA (ff.length + [y].length) 1 = true := fun y => fitA_ok (by simp; omega) (by decide)
      have next : ∀ y : Bool, y = ((r.Posts.getD j.toNat dfltPost).Flies == 1 || ((r.Posts.getD j.toNat dfltPost).Flies == 3 && b)) → Ok (fun x => x = extS r b) (kn2 ((v1, v2, v3, j + 1, v4), ((v5, fr ++ [bif b then (r.Posts.getD j.toNat dfltPost).Ready.Lo else (r.Posts.getD j.toNat dfltPost).Ready.Hi], v6, v7, v8, ff ++ [y], fa ++ [(r.Posts.getD j.toNat dfltPost).Air.map fun x => bif b then x.Lo else x.Hi], v9), v10))) := fun y hy => by
        refine hk2 ((v1, v2, v3, j + 1, v4), ((v5, _, v6, v7, v8, _, _, v9), v10)) ⟨by simp only; omega, by simp only; omega, ?_, ?_, ?_⟩ (by simp only; omega) <;> simp only [toNat_succ j0] <;> rw [map_take_succ (d := dfltPost) _ hj']
        · rw [j2]
        · rw [j3, hy]
        · rw [j4]
      refine Ok.chk cb (Ok.beq (endS_sp _ _) (Ok.chk (fitA_ok (by simp; omega) (by decide)) ?_))
      refine Ok.ite (fun h => ?_) (fun h => ?_)
      · exact Ok.chk (f2 _) (air_loop (kn := fun a c d e => kn2 (((), (), (), a, ()), (((), c, (), (), (), d, e, ()), ()))) hv ⟨j0, hj⟩ b (by omega) (fun v k => by simp only [extreme_L13]) (next true (by rw [h]; rfl)))
      · refine Ok.ite (fun h2 => ?_) (fun h2 => ?_)
        · exact Ok.chk (f2 _) (air_loop (kn := fun a c d e => kn2 (((), (), (), a, ()), (((), c, (), (), (), d, e, ()), ()))) hv ⟨j0, hj⟩ b (by omega) (fun v k => by simp only [extreme_L13__2]) (next b (by rw [h, h2]; simp)))
        · exact Ok.chk (f2 _) (air_loop (kn := fun a c d e => kn2 (((), (), (), a, ()), (((), c, (), (), (), d, e, ()), ()))) hv ⟨j0, hj⟩ b (by omega) (fun v k => by simp only [extreme_L13__3]) (next false (by rw [h, h2]; simp)))
    · have hj := of_decide_eq_false hc
      rw [map_take_all _ (by omega)] at j2 j3 j4
      exact Ok.some (by rw [i2, i3, j2, j3, j4]; rfl)
theorem ext_facts {r : Rescue} (hv : RV r) (b : Bool) : FactsT r (extS r b) := by
  refine ⟨by simp [extS], fun i hi => ?_, by simp [extS], fun i hi => ?_, by simp [extS], fun i hi => ?_, by simp [extS], fun i hi => ?_, by simp [extS], fun i hi => ?_⟩ <;> simp only [extS]
  · rw [getD_map (d := dfltPath) _ hi]
    have := (hv.paths _ (getD_mem (d := dfltPath) hi)).time.2.1
    cases b <;> simp only [cond_true, cond_false] <;> omega
  · rw [getD_map (d := dfltPath) _ hi]
    exact ⟨fun h => by rw [h]; rfl, fun h => by rw [h]; rfl⟩
  · rw [getD_map (d := dfltPost) _ hi]
    have := (hv.posts _ (getD_mem (d := dfltPost) hi)).ready.2.1
    cases b <;> simp only [cond_true, cond_false] <;> omega
  · rw [getD_map (d := dfltPost) _ hi]
    exact ⟨fun h => by rw [h]; rfl, fun h => by rw [h]; rfl⟩
  · rw [getD_map (d := dfltPost) _ hi]
    refine ⟨by simp, fun k hk => ?_⟩
    rw [getD_map (d := dfltSpan) _ hk]
    have := ((hv.posts _ (getD_mem (d := dfltPost) hi)).air.2 _ (getD_mem (d := dfltSpan) hk)).2.1
    cases b <;> simp only [cond_true, cond_false] <;> omega
theorem legs_ext {r : Rescue} (hv : RV r) (b : Bool) : legs3 r.Paths (extS r b).Times (extS r b).Open = legsOf r.Paths b := by
  refine legs3_of rfl ?_
  simp only [extS]
  apply List.map_congr_left
  intro p hp
  have := (hv.paths p hp).open_
  have h3 : p.Open = 1 ∨ p.Open = 2 ∨ p.Open = 3 := by omega
  cases b <;> rcases h3 with h | h | h <;> rw [h] <;> rfl
theorem truS_ext {r : Rescue} (hv : RV r) {p k : Nat} (hp : p < r.Posts.length) (hk : k < r.Spots.toNat) : truS r (extS r true) p k = (goS r (r.Posts.getD p dfltPost) k).Lo ∧ truS r (extS r false) p k = (goS r (r.Posts.getD p dfltPost) k).Hi := by
  have hpo := hv.posts _ (getD_mem (d := dfltPost) hp)
  have hR : ∀ b, (extS r b).Ready.getD p 0 = bif b then (r.Posts.getD p dfltPost).Ready.Lo else (r.Posts.getD p dfltPost).Ready.Hi := fun b => getD_map _ hp
  have hF : ∀ b, (extS r b).Flies.getD p false = ((r.Posts.getD p dfltPost).Flies == 1 || ((r.Posts.getD p dfltPost).Flies == 3 && b)) := fun b => getD_map _ hp
  have hA : ∀ b, (extS r b).Air.getD p [] = (r.Posts.getD p dfltPost).Air.map fun x => bif b then x.Lo else x.Hi := fun b => getD_map _ hp
  have hbase : baseS r (extS r true) p k = loS r (r.Posts.getD p dfltPost) k ∧ baseS r (extS r false) p k = hiS r (r.Posts.getD p dfltPost) k := by
    unfold baseS loS hiS
    rw [legs_ext hv, legs_ext hv, hA, hA]
    cases h : ((r.Posts.getD p dfltPost).Flies == 0) with
    | true => exact ⟨rfl, rfl⟩
    | false =>
      have hf0 : (r.Posts.getD p dfltPost).Flies ≠ 0 := by simpa using h
      obtain ⟨hl, _⟩ := air_in hpo hf0 hk
      simp only [cond_false]
      rw [getD_map (d := dfltSpan) _ hl, getD_map (d := dfltSpan) _ hl]
      exact ⟨rfl, rfl⟩
  have hfv := hpo.flies
  unfold truS goS
  rw [hR, hR, hF, hF, hbase.1, hbase.2]
  have c1 : ∀ a b : Int, a + b = b + a := Int.add_comm
  rw [c1 (loS r (r.Posts.getD p dfltPost) k), c1 (hiS r (r.Posts.getD p dfltPost) k)]
  have h4 : (r.Posts.getD p dfltPost).Flies = 0 ∨ (r.Posts.getD p dfltPost).Flies = 1 ∨ (r.Posts.getD p dfltPost).Flies = 2 ∨ (r.Posts.getD p dfltPost).Flies = 3 := by omega
  rcases h4 with h4 | h4 | h4 | h4 <;> rw [h4] <;> exact ⟨rfl, rfl⟩
abbrev VR5 := (Unit × Unit × Unit × Int × Unit) × Unit
theorem RescueEnds_true (nums : List Int) (hn : nums.length ≤ 9223372036854775807) : RescueEnds nums = some true := by
  apply ok_eq
  rw [RescueEnds_eq]; unfold RescueEnds'
  refine Ok.bind (NewSeed_ok hn) fun s0 _ => Ok.bind (RescueOf_ok s0 (by decide) (by decide) ⟨by decide, by decide⟩) fun s hM => ?_
  have hv := hM.1
  have hsp := hv.spots
  have hnp := hv.nPosts
  refine Ok.beq (extreme_sp hv true) (Ok.beq (extreme_sp hv false) ?_)
  refine Ok.rounds (fun (v : VR5) => 0 ≤ v.1.2.2.2.1 ∧ v.1.2.2.2.1 ≤ s.2.Posts.length) (fun (v : VR5) => (s.2.Posts.length - v.1.2.2.2.1).toNat) (FUEL_big (by show ((s.2.Posts.length : Int) - 0).toNat ≤ _; omega)) ⟨Int.le_refl _, by simp⟩ ?_
  rintro ⟨⟨u1, u2, u3, p, u4⟩, u5⟩ kn ⟨p0, p1⟩ hk
  simp only at p0 p1 hk ⊢
  unfold RescueEnds_L5
  refine Ok.ite (fun hc => ?_) (fun _ => awake_ok)
  have hp := of_decide_eq_true hc
  have hp' : p.toNat < s.2.Posts.length := by omega
  refine Ok.beq (go_ok hv ⟨p0, hp⟩) (Ok.beq (truly_sp hv (ext_facts hv true) ⟨p0, hp⟩) (Ok.beq (truly_sp hv (ext_facts hv false) ⟨p0, hp⟩) (Ok.no rfl (Ok.no (by simp only; rw [goes_len]; simp; omega) ?_))))
  refine Ok.rounds (fun (v : VR5) => 0 ≤ v.1.2.2.2.1 ∧ v.1.2.2.2.1 ≤ s.2.Spots) (fun (v : VR5) => (s.2.Spots - v.1.2.2.2.1).toNat) (FUEL_big (by show (s.2.Spots - 0).toNat ≤ _; omega)) ⟨Int.le_refl _, by simp only; omega⟩ ?_
  rintro ⟨⟨w1, w2, w3, k, w4⟩, w5⟩ kn2 ⟨k0, k1⟩ hk2
  simp only at k0 k1 hk2 ⊢
  unfold RescueEnds_L12
  simp only [goes_len, len_range]
  refine Ok.ite (fun hc => ?_) (fun hc => ?_)
  · have hkk := of_decide_eq_true hc
    have hkn : k.toNat < s.2.Spots.toNat := by omega
    have e1 : w64 (k + 1) = k + 1 := w64_id (by omega) (by omega)
    obtain ⟨t1, t2⟩ := truS_ext hv hp' hkn
    refine Ok.chk (ib k0 hkk) (Ok.chk (ib k0 hkk) (Ok.chk (ib k0 hkk) (Ok.beq (span_sp _ _) ?_)))
    rw [getD_range _ _ hkn, getD_range _ _ hkn, goes_getD hkn, t1, t2]
    refine Ok.no (by simp) ?_
    rw [e1]
    exact hk2 ((w1, w2, w3, k + 1, w4), w5) ⟨by simp only; omega, by simp only; omega⟩ (by simp only; omega)
  · have e1 : w64 (p + 1) = p + 1 := w64_id (by omega) (by omega)
    rw [e1]
    exact hk ((u1, u2, u3, p + 1, u4), u5) ⟨by simp only; omega, by simp only; omega⟩ (by simp only; omega)
end Go.Proofs.Rescue07


/- How the arguments of a law are read as plain data of Lean, what the table of the four cases holds, and what a law that writes nothing older than itself leaves: its arguments read as they did. -/
namespace Go.Proofs.Ytoklcjdahicjmaa
open Go Go.Ab Go.ChangeShapes Go.WideShapes Go.ChangeAt Go.RowKit
set_option maxRecDepth 100000

/-- All that a world's memory holds. -/
def allK (w : World) : Nat → Nat → Option Value := fun b o => w.cell? ⟨b, o, none⟩
theorem allK_fits (w : World) : Fits (allK w) w := fun _ _ _ h => h

theorem cells3 : Try.prog.cellsOf 3 = 1 := by kernel_rfl
section
variable {H : Type} {enc : TypeId × Value → H} {W : World}

/-- Whatever reads as the type, stands for a datum of Lean. -/
def Rd {α : Type} (enc : TypeId × Value → H) (W : World) (t : TypeId) (ec : α → List D) : Prop :=
  ∀ n cs x, DataW.trod enc Try.prog W 0 (fun _ => true) true n t cs = some x → ∃ a : α, RepL (allK W) γ0 sv0 (ec a) cs

theorem rd_int : Rd enc W 3 encI := by
  intro n cs x h
  obtain ⟨a, rfl, _⟩ := DataW.trod_int Try.underlying3 h
  exact ⟨a, .cons _ _ _ _ (.int _ _) .nil⟩

theorem rd_slice {α : Type} [Inhabited α] {t e z : Nat} {ec : α → List D} (ht : Try.prog.underlying t = some (.slice e)) (hz : Try.prog.cellsOf e = z) (hz0 : 0 < z) (hl : ∀ a, (ec a).length = z)
    (hc : ∀ a, allCell (ec a) = true) (hr : Rd enc W e ec) : Rd enc W t (fun l : List α => [slOf z ec l]) := by
  intro n cs x h
  rcases Deep.open_slice ht h with ⟨rfl, rfl⟩ | ⟨a, len, cap, m, n', D, Pl, rfl, _, hlc, _, hm, rfl, hx⟩
  · exact ⟨[], .cons _ _ _ _ (.sl0 _ _) .nil⟩
  · simp only [if_true] at hm
    subst hm
    rw [hz] at hx
    rcases Nat.eq_zero_or_pos len with rfl | hpos
    · exact ⟨[], .cons _ _ _ _ (.slE _ _ _ _) .nil⟩
    · have hx' : ∀ i, i < len → ∃ p : α × List Value, W.cells? 0 (a.add (i * z)) z = some p.2 ∧ RepL (allK W) γ0 sv0 (ec p.1) p.2 := fun i hi => by
        obtain ⟨cs', h1, h2⟩ := hx i (by omega)
        obtain ⟨b, hb⟩ := hr _ _ _ h2
        exact ⟨(b, cs'), h1, hb⟩
      obtain ⟨F, hF⟩ := Deep.choose_lt hx'
      have hsp : a.spot = none := by
        obtain ⟨_, h1, h2⟩ := World.cells?_some (hF 0 hpos).1
        have h3 := h2 0 hz0
        rw [List.getElem?_eq_getElem (by omega)] at h3
        simpa [Addr.add] using World.cell?_spot h3
      obtain ⟨b, off, sp⟩ := a
      simp only at hsp
      subst hsp
      refine ⟨(List.range len).map (fun i => (F i).1), .cons _ _ _ _ ?_ .nil⟩
      have hlen : ((List.range len).map (fun i => (F i).1)).length = len := by simp
      have hg : ∀ i, i < len → ((List.range len).map (fun i => (F i).1)).getD i default = (F i).1 := fun i hi => by simp [List.getD, hi]
      unfold slOf
      rw [hlen]
      refine .sl z len _ b off m (fun i => (F i).2) hlc (fun i _ => hl _) (fun i _ => hc _) (fun i hi => by rw [hg i hi]; exact (hF i hi).2) (fun i j v hi hj => ?_)
      obtain ⟨_, h1, h2⟩ := World.cells?_some (hF i hi).1
      have hjl := (List.getElem?_eq_some_iff.1 hj).1
      have h3 := h2 j (by omega)
      rw [add_plain, add_plain, hj] at h3
      exact h3

theorem arg_ints {v : Value} {d : DataW H} {ps : List MemPlace} {base : Nat} (hv : Value.okWide Try.prog W .any base 28 v) (h : DataW.Trod enc Try.prog W 0 (fun _ => true) true 28 v d ps) :
    ∃ l : List Int, Rep (allK W) γ0 sv0 (slOf 1 encI l) v := by
  obtain ⟨n, hn⟩ := h
  obtain ⟨l, hl⟩ := rd_slice (ec := encI) Try.underlying28 cells3 (by decide) (fun _ => rfl) (fun _ => rfl) rd_int _ _ _ hn
  obtain ⟨a0, len, cap, rfl⟩ := okWide_slice Try.underlying28 hv
  cases hl with
  | cons _ _ _ _ k _ => exact ⟨l, k⟩
end
theorem glob_of {W : World} : GlobOk seat (allK W) := fun g l h => by cases h
theorem laidOut : laidOutB Try.prog = true := by kernel_rfl
theorem own : ownKnob Try.prog.godebug = none := by kernel_rfl

theorem trodAll_stays {H : Type} {enc : TypeId × Value → H} {W W' : World} {sp' : Nat → Bool} (hb : Below W.heap.size W W') : ∀ {ts : List TypeId} {vs : List Value} {ds : List (DataW H)} {ps : List MemPlace},
    (∀ t ∈ ts, Try.prog.readableRec t = true ∧ t < Try.prog.types.size) → DataW.TrodAll enc Try.prog W 0 (fun _ => true) true ts vs ds ps → (∀ p ∈ ps, p.block < W.heap.size) → (∀ p ∈ ps, sp' p.block = true) →
    DataW.TrodAll enc Try.prog W' 0 sp' true ts vs ds ps
  | [], [], [], _, _, h, _, _ => h
  | _ :: _, _ :: _, _ :: _, _, hT, ⟨p, q, h1, h2, e⟩, hlt, hs => ⟨p, q,
      WideElems.Trod_stays laidOut (hT _ (List.mem_cons_self ..)).1 (hT _ (List.mem_cons_self ..)).2 h1 (fun x hx => hb.same (hlt x (by rw [e]; exact List.mem_append_left _ hx))) (fun x hx => hs x (by rw [e]; exact List.mem_append_left _ hx)),
      trodAll_stays hb (fun t ht => hT t (List.mem_cons_of_mem _ ht)) h2 (fun x hx => hlt x (by rw [e]; exact List.mem_append_right _ hx)) (fun x hx => hs x (by rw [e]; exact List.mem_append_right _ hx)), e⟩

/-- A law that says yes and writes nothing older than itself. -/
theorem post_yes {H : Type} {enc : TypeId × Value → H} {f : Func} {s : ChangeSpec} {W W' : World} {args : Array Value} {ds gs : List (DataW H)} {before : List MemPlace}
    (hW : DataW.Whole enc Try.prog f.params.toList s.vars false W args.toList ds gs before) (hv : s.vars = []) (hb : Below W.heap.size W W')
    (hT : ∀ t ∈ f.params.toList, Try.prog.readableRec t = true ∧ t < Try.prog.types.size) (hrt : f.resultTypes = #[4])
    (hr : (s.fn H (ds ++ gs)).results = [.lit (.bool true)]) (ha : (s.fn H (ds ++ gs)).args = ds) (hvs : (s.fn H (ds ++ gs)).vars = []) :
    s.post enc Try.prog f false true false false W args (.bool true) W' := by
  have hlt := hW.lt
  have hW2 := hW
  obtain ⟨p, q, hA, hV, rfl, _, _⟩ := hW
  rw [hv] at hV
  obtain ⟨rfl, rfl⟩ := trodVars_none hV
  refine ⟨ds, [], p ++ [], [], p, [], hW2, ?_, ?_, ?_, hb.frame _, fun h => by cases h⟩
  · rw [hr, hrt]
    exact trodAll_mk1 (shut_bool Try.underlying4 _)
  · rw [ha]
    exact trodAll_stays hb hT hA (fun x hx => hlt x (by simpa using hx)) (fun x hx => by simpa using hlt x (by simpa using hx))
  · rw [hvs, hv]; rfl

/-- A world for the witness: the settled one. -/
noncomputable def laidWorld (os : Os) : World := World.holding Try.prog os ⟨#[], #[], []⟩
theorem ints_len {κ : Nat → Nat → Option Value} {γ : Nat → Nat} {sv : Nat → Value} {W : World} {base : Nat} {v : Value} {l : List Int} (hv : Value.okWide Try.prog W .any base 28 v) (h : Rep κ γ sv (slOf 1 encI l) v) : l.length ≤ 9223372036854775807 := by
  unfold slOf at h
  generalize hn : l.length = n at h
  cases h with
  | sl0 => omega
  | slE => omega
  | sl _ _ _ b off cap u hc =>
    simp only [Value.okWide, Cell.okWide, Cell.ok, Try.underlying28] at hv
    have h1 := hv.2.1
    have h2 : IntKind.i64.max = 9223372036854775807 := by decide
    rw [h2] at h1
    omega
section
variable {H : Type} {enc : TypeId × Value → H} {W : World}
end
end Go.Proofs.Ytoklcjdahicjmaa



/- Further readers of arguments. -/
namespace Go.Proofs.Ytoklcjdahicjmaa
open Go Go.Ab Go.ChangeShapes Go.WideShapes Go.ChangeAt Go.RowKit
set_option linter.all false
set_option maxRecDepth 100000
section
variable {H : Type} {enc : TypeId × Value → H} {W : World}
theorem fld {fs : Array Field} {xs : List (DataW H × List MemPlace)} {cs : List Value} {n : Nat}
    (hf : ∀ (i : Nat) (f : Field), fs[i]? = some f → DataW.trod enc Try.prog W 0 (fun _ => true) true n f.type ((cs.drop f.offset).take (Try.prog.cellsOf f.type)) = xs[i]?)
    (hl : xs.length = fs.size) (i : Nat) (f : Field) (hi : fs[i]? = some f) : ∃ y, DataW.trod enc Try.prog W 0 (fun _ => true) true n f.type ((cs.drop f.offset).take (Try.prog.cellsOf f.type)) = some y := by
  have h1 := (Array.getElem?_eq_some_iff.1 hi).1
  rw [← hl] at h1
  exact ⟨xs[i], by rw [hf i f hi]; exact List.getElem?_eq_getElem h1⟩
end
end Go.Proofs.Ytoklcjdahicjmaa


/- The rescue: what truly is, made of numbers; RescueTruth. -/
namespace Go.Proofs.Rescue07
open Go Go.Ab Go.Ways
set_option linter.all false
def Pw {α : Type} (P : Nat → α → Prop) (d : α) (l : List α) : Prop := ∀ j, j < l.length → P j (l.getD j d)
theorem Pw.nil {α : Type} {P : Nat → α → Prop} {d : α} : Pw P d [] := fun j hj => by simp at hj
theorem Pw.snoc {α : Type} {P : Nat → α → Prop} {d : α} {l : List α} {x : α} (h : Pw P d l) (hx : P l.length x) : Pw P d (l ++ [x]) := fun j hj => by
  rw [getD_snoc]
  by_cases hl : j < l.length
  · rw [if_pos hl]; exact h j hl
  · have : j = l.length := by simp at hj; omega
    subst this
    rw [if_neg (by omega), if_pos rfl]; exact hx
theorem Inside_ok (s : Seed) {x : Span} {a b : Int} (h : SpIn x a b) (ha : -100000 ≤ a) (hb : b ≤ 100000) : Ok (fun r => x.Lo ≤ r.2 ∧ r.2 ≤ x.Hi) (Inside s x) := by
  obtain ⟨h0, h1, h2⟩ := h
  rw [Inside_eq]; unfold Inside'
  refine Ok.bind (From_ok s (by omega) (by omega) (by omega)) fun r1 q1 => ?_
  refine Ok.bind (From_ok _ (by omega) (by omega) (by omega)) fun r2 q2 => ?_
  refine Ok.bind (Of_ok _ (by simp) (by simp)) fun r3 q3 => Ok.some ?_
  simp only [List.mem_cons, List.not_mem_nil, or_false] at q3
  simp only
  omega
theorem true2_ok (s : Seed) (v : Int) : Ok (fun r => (v = 1 → r.2 = true) ∧ (v = 2 → r.2 = false)) (true2 s v) := by
  rw [true2_eq]; unfold true2'
  refine Ok.ite (fun h => Ok.some ⟨fun _ => rfl, fun h2 => by simp at h; omega⟩) fun h => ?_
  have h : ¬ v = 1 := by simpa using h
  refine Ok.ite (fun h3 => ?_) fun h3 => Ok.some ⟨fun e => absurd e h, fun _ => rfl⟩
  have h3 : v = 3 := by simpa using h3
  exact Ok.bind (Yes_ok s (by decide)) fun y _ => Ok.some ⟨fun e => absurd e h, fun e => by omega⟩
structure FactsV (r : Rescue) (f : Facts) : Prop where
  t : FactsT r f
  nW : f.Water.length = r.Water.length
  wa : ∀ i, i < r.Water.length → (r.Water.getD i dfltSpan).Lo ≤ f.Water.getD i 0 ∧ f.Water.getD i 0 ≤ (r.Water.getD i dfltSpan).Hi
  nL : f.Live.length = r.Chills.length
  li : ∀ i, i < r.Chills.length → (r.Chills.getD i dfltChill).Minutes.Lo ≤ f.Live.getD i 0 ∧ f.Live.getD i 0 ≤ (r.Chills.getD i dfltChill).Minutes.Hi
abbrev VF3 := (Unit × Unit × Unit × Unit × Int × Unit) × ((Int × Unit) × ((List Int) × Unit × Unit × Unit × (List Bool) × Unit × Unit × Unit) × Unit)
abbrev VF7 := (Unit × Unit × Unit × Unit × Int × Unit) × ((Int × Unit) × (Unit × (List Int) × Unit × Unit × Unit × (List Bool) × (List (List Int)) × Unit) × Unit)
abbrev VF13 := (Unit × Unit × Unit × Unit × Unit × (List Int) × Int × Unit) × ((Int × Unit) × (Unit × Unit × Unit × Unit × Unit × Unit × Unit × Unit) × Unit)
abbrev VF18 := (Unit × Unit × Unit × Unit × Int × Unit) × ((Int × Unit) × (Unit × Unit × (List Int) × Unit × Unit × Unit × Unit × Unit) × Unit)
abbrev VF23 := (Unit × Unit × Unit × Unit × Int × Int × Unit) × ((Int × Unit) × (Unit × Unit × Unit × (List Int) × Unit × Unit × Unit × Unit) × Unit)
theorem FactsOf_ok (s : Seed) {r : Rescue} (hv : RV r) : Ok (fun x => FactsV r x.2) (FactsOf s r) := by
  have hnp := hv.nPosts
  have hna := hv.nPaths
  have hsp := hv.spots
  have hwl := hv.water.1
  have hcl := hv.chills.len
  rw [FactsOf_eq]; unfold FactsOf'
  refine Ok.rounds (fun (v : VF3) => 0 ≤ v.1.2.2.2.2.1 ∧ v.1.2.2.2.2.1 ≤ r.Paths.length ∧ (v.2.2.1.1.length : Int) = v.1.2.2.2.2.1 ∧ (v.2.2.1.2.2.2.2.1.length : Int) = v.1.2.2.2.2.1 ∧ Pw (fun i x => (r.Paths.getD i dfltPath).Time.Lo ≤ x ∧ x ≤ (r.Paths.getD i dfltPath).Time.Hi) 0 v.2.2.1.1 ∧ Pw (fun i x => ((r.Paths.getD i dfltPath).Open = 1 → x = true) ∧ ((r.Paths.getD i dfltPath).Open = 2 → x = false)) false v.2.2.1.2.2.2.2.1) (fun (v : VF3) => (r.Paths.length - v.1.2.2.2.2.1).toNat) (FUEL_big (by show ((r.Paths.length : Int) - 0).toNat ≤ _; omega)) ⟨Int.le_refl _, by simp, rfl, rfl, Pw.nil, Pw.nil⟩ ?_
  rintro ⟨⟨u1, u2, u3, u4, i, u5⟩, ⟨⟨w, u6⟩, ⟨ft, u7, u8, u9, fo, u10, u11, u12⟩, u13⟩⟩ kn ⟨i0, i1, i2, i3, i4, i5⟩ hk
  simp only at i0 i1 i2 i3 i4 i5 hk ⊢
  unfold FactsOf_L3
  refine Ok.ite (fun hc => ?_) (fun hc => ?_)
  · have hi := of_decide_eq_true hc
    have e1 : w64 (i + 1) = i + 1 := w64_id (by omega) (by omega)
    have cb := ib i0 hi
    refine Ok.chk cb (Ok.bind (Inside_ok _ (hv.paths _ (getD_mem (by omega))).time (by decide) (by decide)) fun x hx => Ok.chk (fitA_ok (by simp; omega) (by decide)) (Ok.chk cb (Ok.bind (true2_ok _ _) fun y hy => Ok.chk (fitA_ok (by simp; omega) (by decide)) ?_)))
    rw [e1]
    refine hk ((u1, u2, u3, u4, i + 1, u5), ((_, u6), (_, u7, u8, u9, _, u10, u11, u12), u13)) ⟨by simp only; omega, by simp only; omega, by simp; omega, by simp; omega, i4.snoc ?_, i5.snoc ?_⟩ (by simp only; omega)
    · rw [show ft.length = i.toNat by omega]; exact hx
    · rw [show fo.length = i.toNat by omega]; exact hy
  · have hi := of_decide_eq_false hc
    refine Ok.rounds (fun (v : VF7) => 0 ≤ v.1.2.2.2.2.1 ∧ v.1.2.2.2.2.1 ≤ r.Posts.length ∧ (v.2.2.1.2.1.length : Int) = v.1.2.2.2.2.1 ∧ (v.2.2.1.2.2.2.2.2.1.length : Int) = v.1.2.2.2.2.1 ∧ (v.2.2.1.2.2.2.2.2.2.1.length : Int) = v.1.2.2.2.2.1 ∧ Pw (fun i x => (r.Posts.getD i dfltPost).Ready.Lo ≤ x ∧ x ≤ (r.Posts.getD i dfltPost).Ready.Hi) 0 v.2.2.1.2.1 ∧ Pw (fun i x => ((r.Posts.getD i dfltPost).Flies = 1 → x = true) ∧ ((r.Posts.getD i dfltPost).Flies = 2 → x = false)) false v.2.2.1.2.2.2.2.2.1 ∧ Pw (fun i (x : List Int) => x.length = (r.Posts.getD i dfltPost).Air.length ∧ ∀ k, k < (r.Posts.getD i dfltPost).Air.length → ((r.Posts.getD i dfltPost).Air.getD k dfltSpan).Lo ≤ x.getD k 0 ∧ x.getD k 0 ≤ ((r.Posts.getD i dfltPost).Air.getD k dfltSpan).Hi) [] v.2.2.1.2.2.2.2.2.2.1) (fun (v : VF7) => (r.Posts.length - v.1.2.2.2.2.1).toNat) (FUEL_big (by show ((r.Posts.length : Int) - 0).toNat ≤ _; omega)) ⟨Int.le_refl _, by simp, rfl, rfl, rfl, Pw.nil, Pw.nil, Pw.nil⟩ ?_
    rintro ⟨⟨v1, v2, v3, v4, j, v5⟩, ⟨⟨w2, v6⟩, ⟨v7, fr, v8, v9, v10, ff, fa, v11⟩, v12⟩⟩ kn2 ⟨j0, j1, j2, j3, j4, j5, j6, j7⟩ hk2
    simp only at j0 j1 j2 j3 j4 j5 j6 j7 hk2 ⊢
    unfold FactsOf_L7
    refine Ok.ite (fun hc => ?_) (fun hc => ?_)
    · have hj := of_decide_eq_true hc
      have hj' : j.toNat < r.Posts.length := by omega
      have e1 : w64 (j + 1) = j + 1 := w64_id (by omega) (by omega)
      have cb := ib j0 hj
      have hpo := hv.posts _ (getD_mem (d := dfltPost) hj')
      refine Ok.chk cb (Ok.bind (Inside_ok _ hpo.ready (by decide) (by decide)) fun x hx => Ok.chk (fitA_ok (by simp; omega) (by decide)) (Ok.bind (true2_ok _ _) fun y hy => Ok.chk (fitA_ok (by simp; omega) (by decide)) ?_))
      obtain ⟨l, hl⟩ : ∃ l, (r.Posts.getD j.toNat dfltPost).Air = l := ⟨_, rfl⟩
      have hll : (l.length : Int) ≤ 40 := by
        have := hpo.air.1
        rw [hl] at this
        split at this <;> omega
      have hlm : ∀ z ∈ l, SpIn z 0 5000 := by rw [← hl]; exact hpo.air.2
      refine Ok.rounds (fun (v : VF13) => 0 ≤ v.1.2.2.2.2.2.2.1 ∧ v.1.2.2.2.2.2.2.1 ≤ l.length ∧ (v.1.2.2.2.2.2.1.length : Int) = v.1.2.2.2.2.2.2.1 ∧ Pw (fun k x => (l.getD k dfltSpan).Lo ≤ x ∧ x ≤ (l.getD k dfltSpan).Hi) 0 v.1.2.2.2.2.2.1) (fun (v : VF13) => (l.length - v.1.2.2.2.2.2.2.1).toNat) (FUEL_big (by show ((l.length : Int) - 0).toNat ≤ _; omega)) ⟨Int.le_refl _, by simp, rfl, Pw.nil⟩ ?_
      rintro ⟨⟨z1, z2, z3, z4, z5, air, k, z6⟩, ⟨⟨w3, z7⟩, z8, z9⟩⟩ kn3 ⟨k0, k1, k2, k3⟩ hk3
      simp only at k0 k1 k2 k3 hk3 ⊢
      unfold FactsOf_L13
      rw [hl]
      refine Ok.ite (fun hc => ?_) (fun hc => ?_)
      · have hkk := of_decide_eq_true hc
        have hk' : k.toNat < l.length := by omega
        have e2 : w64 (k + 1) = k + 1 := w64_id (by omega) (by omega)
        refine Ok.chk (ib k0 hkk) (Ok.bind (Inside_ok _ (hlm _ (getD_mem (d := dfltSpan) hk')) (by decide) (by decide)) fun q hq => Ok.chk (fitA_ok (by simp; omega) (by decide)) ?_)
        rw [e2]
        refine hk3 ((z1, z2, z3, z4, z5, _, k + 1, z6), ((_, z7), z8, z9)) ⟨by simp only; omega, by simp only; omega, by simp; omega, k3.snoc ?_⟩ (by simp only; omega)
        rw [show air.length = k.toNat by omega]; exact hq
      · have hkk := of_decide_eq_false hc
        refine Ok.chk (fitA_ok (by simp; omega) (by decide)) ?_
        rw [e1]
        refine hk2 ((v1, v2, v3, v4, j + 1, v5), ((_, v6), (v7, _, v8, v9, v10, _, _, v11), v12)) ⟨by simp only; omega, by simp only; omega, by simp; omega, by simp; omega, by simp; omega, j5.snoc ?_, j6.snoc ?_, j7.snoc ?_⟩ (by simp only; omega)
        · rw [show fr.length = j.toNat by omega]; exact hx
        · rw [show ff.length = j.toNat by omega]; exact hy
        · rw [show fa.length = j.toNat by omega, hl]
          exact ⟨by omega, fun t ht => k3 t (by omega)⟩
    · have hj := of_decide_eq_false hc
      refine Ok.rounds (fun (v : VF18) => 0 ≤ v.1.2.2.2.2.1 ∧ v.1.2.2.2.2.1 ≤ r.Water.length ∧ (v.2.2.1.2.2.1.length : Int) = v.1.2.2.2.2.1 ∧ Pw (fun i x => (r.Water.getD i dfltSpan).Lo ≤ x ∧ x ≤ (r.Water.getD i dfltSpan).Hi) 0 v.2.2.1.2.2.1) (fun (v : VF18) => (r.Water.length - v.1.2.2.2.2.1).toNat) (FUEL_big (by show ((r.Water.length : Int) - 0).toNat ≤ _; omega)) ⟨Int.le_refl _, by simp, rfl, Pw.nil⟩ ?_
      rintro ⟨⟨x1, x2, x3, x4, k, x5⟩, ⟨⟨w3, x6⟩, ⟨x7, x8, fw, x9, x10, x11, x12, x13⟩, x14⟩⟩ kn3 ⟨k0, k1, k2, k3⟩ hk3
      simp only at k0 k1 k2 k3 hk3 ⊢
      unfold FactsOf_L18
      refine Ok.ite (fun hc => ?_) (fun hc => ?_)
      · have hkk := of_decide_eq_true hc
        have hk' : k.toNat < r.Water.length := by omega
        have e2 : w64 (k + 1) = k + 1 := w64_id (by omega) (by omega)
        refine Ok.chk (ib k0 hkk) (Ok.bind (Inside_ok _ (hv.water.2 _ (getD_mem (d := dfltSpan) hk')) (by decide) (by decide)) fun q hq => Ok.chk (fitA_ok (by simp; omega) (by decide)) ?_)
        rw [e2]
        refine hk3 ((x1, x2, x3, x4, k + 1, x5), ((_, x6), (x7, x8, _, x9, x10, x11, x12, x13), x14)) ⟨by simp only; omega, by simp only; omega, by simp; omega, k3.snoc ?_⟩ (by simp only; omega)
        rw [show fw.length = k.toNat by omega]; exact hq
      · have hkk := of_decide_eq_false hc
        refine Ok.rounds (fun (v : VF23) => 0 ≤ v.1.2.2.2.2.2.1 ∧ v.1.2.2.2.2.2.1 ≤ r.Chills.length ∧ (v.2.2.1.2.2.2.1.length : Int) = v.1.2.2.2.2.2.1 ∧ Pw (fun i x => (r.Chills.getD i dfltChill).Minutes.Lo ≤ x ∧ x ≤ (r.Chills.getD i dfltChill).Minutes.Hi) 0 v.2.2.1.2.2.2.1 ∧ v.1.2.2.2.2.1 ≤ (if v.1.2.2.2.2.2.1 = 0 then 0 else (r.Chills.getD (v.1.2.2.2.2.2.1.toNat - 1) dfltChill).Minutes.Hi)) (fun (v : VF23) => (r.Chills.length - v.1.2.2.2.2.2.1).toNat) (FUEL_big (by show ((r.Chills.length : Int) - 0).toNat ≤ _; omega)) ⟨Int.le_refl _, by simp, rfl, Pw.nil, Int.le_refl _⟩ ?_
        rintro ⟨⟨y1, y2, y3, y4, least, t, y5⟩, ⟨⟨w4, y6⟩, ⟨y7, y8, y9, fl, y10, y11, y12, y13⟩, y14⟩⟩ kn4 ⟨t0, t1, t2, t3, t4⟩ hk4
        simp only at t0 t1 t2 t3 t4 hk4 ⊢
        unfold FactsOf_L23
        refine Ok.ite (fun hc => ?_) (fun hc => ?_)
        · have ht := of_decide_eq_true hc
          have ht' : t.toNat < r.Chills.length := by omega
          have e2 : w64 (t + 1) = t + 1 := w64_id (by omega) (by omega)
          have hmn := hv.chills.min t.toNat ht'
          refine Ok.chk (ib t0 ht) (Ok.bind (Inside_ok _ hmn (by decide) (by decide)) fun q hq => Ok.chk (fitA_ok (by simp; omega) (by decide)) ?_)
          rw [e2]
          obtain ⟨m1, m2, m3⟩ := hmn
          have hle : least ≤ (r.Chills.getD t.toNat dfltChill).Minutes.Hi := by
            by_cases hz : t = 0
            · rw [if_pos hz] at t4; omega
            · rw [if_neg hz] at t4
              have := (hv.chills.upm t.toNat (by omega) ht').2
              omega
          refine hk4 ((y1, y2, y3, y4, _, t + 1, y5), ((_, y6), (y7, y8, y9, _, y10, y11, y12, y13), y14)) ⟨by simp only; omega, by simp only; omega, by simp; omega, t3.snoc ?_, ?_⟩ (by simp only; omega)
          · rw [show fl.length = t.toNat by omega]; omega
          · simp only
            rw [if_neg (by omega), show (t + 1).toNat - 1 = t.toNat by omega]; omega
        · have ht := of_decide_eq_false hc
          refine Ok.some ⟨⟨by simp only; omega, fun i hi => i4 i (by omega), by simp only; omega, fun i hi => i5 i (by omega), by simp only; omega, fun i hi => j5 i (by omega), by simp only; omega, fun i hi => j6 i (by omega), by simp only; omega, fun i hi => j7 i (by omega)⟩, by simp only; omega, fun i hi => k3 i (by omega), by simp only; omega, fun i hi => t3 i (by omega)⟩
/- For how long one truly lives. -/
def alvS (r : Rescue) (f : Facts) (w : Int) : Int := (List.range r.Chills.length).foldl (fun n i => bif decide ((r.Chills.getD i dfltChill).Warm ≤ w) then f.Live.getD i 0 else n) 0
abbrev VAl := (Unit × Unit × Int × Int × Unit) × Unit
theorem alive_sp {r : Rescue} (hv : RV r) {f : Facts} (hf : FactsV r f) {k : Int} (hk : 0 ≤ k ∧ k < r.Spots) : alive r f k = some (alvS r f (f.Water.getD k.toNat 0)) := by
  have hcl := hv.chills.len
  have hwl := hv.water.1
  have hnw := hf.nW
  have hnl := hf.nL
  rw [alive_eq]; unfold alive'
  refine ok_eq (Ok.rounds (fun (v : VAl) => 0 ≤ v.1.2.2.2.1 ∧ v.1.2.2.2.1 ≤ r.Chills.length ∧ v.1.2.2.1 = (List.range v.1.2.2.2.1.toNat).foldl (fun n i => bif decide ((r.Chills.getD i dfltChill).Warm ≤ f.Water.getD k.toNat 0) then f.Live.getD i 0 else n) 0) (fun (v : VAl) => (r.Chills.length - v.1.2.2.2.1).toNat) (FUEL_big (by show ((r.Chills.length : Int) - 0).toNat ≤ _; omega)) ⟨Int.le_refl _, by simp, rfl⟩ ?_)
  rintro ⟨⟨u1, u2, n, i, u3⟩, u4⟩ kn ⟨i0, i1, i2⟩ hkn
  simp only at i0 i1 i2 hkn ⊢
  unfold alive_L3
  refine Ok.ite (fun hc => ?_) (fun hc => ?_)
  · have hi := of_decide_eq_true hc
    have e1 : w64 (i + 1) = i + 1 := w64_id (by omega) (by omega)
    have hs := range_fold_succ (fun (n : Int) (i : Nat) => bif decide ((r.Chills.getD i dfltChill).Warm ≤ f.Water.getD k.toNat 0) then f.Live.getD i 0 else n) 0 i.toNat
    rw [← i2] at hs
    refine Ok.chk (ib i0 hi) (Ok.chk (ib hk.1 (by omega)) ?_)
    rw [e1]
    refine Ok.ite (fun hw => ?_) (fun hw => ?_)
    · refine Ok.chk (ib i0 (by omega)) (hkn ((u1, u2, _, i + 1, u3), u4) ⟨by simp only; omega, by simp only; omega, ?_⟩ (by simp only; omega))
      simp only [toNat_succ i0]
      rw [hs, hw]; rfl
    · refine hkn ((u1, u2, _, i + 1, u3), u4) ⟨by simp only; omega, by simp only; omega, ?_⟩ (by simp only; omega)
      simp only [toNat_succ i0]
      rw [hs, hw]; rfl
  · have hi := of_decide_eq_false hc
    exact Ok.some (by rw [i2, show i.toNat = r.Chills.length by omega]; rfl)
/-- The chills below a warmth: how many. -/
def lastC (l : List Chill) (w : Int) : Nat → Nat
  | 0 => 0
  | i + 1 => bif decide ((l.getD i dfltChill).Warm ≤ w) then i else lastC l w i
theorem min_mono {l : List Chill} (hl : ChillV l) : ∀ {i j : Nat}, i ≤ j → j < l.length → (l.getD i dfltChill).Minutes.Lo ≤ (l.getD j dfltChill).Minutes.Lo ∧ (l.getD i dfltChill).Minutes.Hi ≤ (l.getD j dfltChill).Minutes.Hi
  | i, 0, h, _ => by have : i = 0 := by omega
                     subst this; exact ⟨Int.le_refl _, Int.le_refl _⟩
  | i, j + 1, h, hj => by
    by_cases he : i = j + 1
    · subst he; exact ⟨Int.le_refl _, Int.le_refl _⟩
    · have h1 := min_mono hl (i := i) (j := j) (by omega) (by omega)
      have h2 := hl.upm (j + 1) (by omega) hj
      simp only [Nat.add_sub_cancel] at h2
      omega
theorem lastC_lt (l : List Chill) (w : Int) : ∀ n, 0 < n → lastC l w n < n
  | 0, h => by omega
  | n + 1, _ => by
    simp only [lastC]
    cases decide ((l.getD n dfltChill).Warm ≤ w) with
    | true => simp
    | false =>
      simp only [cond_false]
      by_cases h : 0 < n
      · have := lastC_lt l w n h; omega
      · have : n = 0 := by omega
        subst this; simp [lastC]
theorem lastC_mono {l : List Chill} {v w : Int} (h : v ≤ w) : ∀ n, lastC l v n ≤ lastC l w n
  | 0 => Nat.le_refl _
  | n + 1 => by
    simp only [lastC]
    cases hv : decide ((l.getD n dfltChill).Warm ≤ v) with
    | true =>
      have := of_decide_eq_true hv
      rw [decide_eq_true (show (l.getD n dfltChill).Warm ≤ w by omega)]; exact Nat.le_refl _
    | false =>
      cases decide ((l.getD n dfltChill).Warm ≤ w) with
      | true =>
        simp only [cond_true, cond_false]
        by_cases h0 : 0 < n
        · have := lastC_lt l v n h0; omega
        · have : n = 0 := by omega
          subst this; simp [lastC]
      | false => exact lastC_mono h n
theorem fold_last {α : Type} {l : List Chill} {w : Int} (g : Nat → α) : ∀ n, (∃ i, i < n ∧ (l.getD i dfltChill).Warm ≤ w) → ∀ x : α, (List.range n).foldl (fun y i => bif decide ((l.getD i dfltChill).Warm ≤ w) then g i else y) x = g (lastC l w n)
  | 0, ⟨i, hi, _⟩, x => by omega
  | n + 1, h, x => by
    rw [range_fold_succ]
    simp only [lastC]
    cases hd : decide ((l.getD n dfltChill).Warm ≤ w) with
    | true => rfl
    | false =>
      simp only [cond_false]
      refine fold_last g n ?_ x
      obtain ⟨i, hi, hw⟩ := h
      refine ⟨i, ?_, hw⟩
      have := of_decide_eq_false hd
      by_cases he : i = n
      · subst he; omega
      · omega
theorem fold_range {α β : Type} (f : β → α → β) (d : α) (l : List α) (x : β) : l.foldl f x = (List.range l.length).foldl (fun y i => f y (l.getD i d)) x := by
  conv => lhs; rw [eq_range (l := l) d]
  rw [List.foldl_map]
theorem chill_last {l : List Chill} (hl : ChillV l) {w : Int} (hw : -400 ≤ w) : chillS l w = (l.getD (lastC l w l.length) dfltChill).Minutes := by
  unfold chillS
  rw [fold_range _ dfltChill]
  exact fold_last (l := l) (w := w) (fun i => (l.getD i dfltChill).Minutes) l.length ⟨0, by have := hl.len; omega, by rw [hl.head]; exact hw⟩ _
theorem alive_in {r : Rescue} (hv : RV r) {f : Facts} (hf : FactsV r f) {k : Nat} (hk : k < r.Water.length) : (livesS r (r.Water.getD k dfltSpan)).Lo ≤ alvS r f (f.Water.getD k 0) ∧ alvS r f (f.Water.getD k 0) ≤ (livesS r (r.Water.getD k dfltSpan)).Hi := by
  obtain ⟨w1, w2, w3⟩ := hv.water.2 _ (getD_mem (d := dfltSpan) hk)
  obtain ⟨v1, v2⟩ := hf.wa k hk
  have hl := hv.chills
  have hlen := hl.len
  obtain ⟨n, hn⟩ : ∃ n, r.Chills.length = n := ⟨_, rfl⟩
  have hA : alvS r f (f.Water.getD k 0) = f.Live.getD (lastC r.Chills (f.Water.getD k 0) r.Chills.length) 0 := by
    unfold alvS
    exact fold_last (fun i => f.Live.getD i 0) _ ⟨0, by omega, by rw [hl.head]; omega⟩ _
  have hlt := lastC_lt r.Chills (f.Water.getD k 0) r.Chills.length (by omega)
  obtain ⟨m1, m2⟩ := hf.li _ hlt
  unfold livesS
  rw [chill_last hl w1, chill_last hl (show -400 ≤ (r.Water.getD k dfltSpan).Hi by omega), hA]
  have a1 := lastC_mono (l := r.Chills) v1 r.Chills.length
  have a2 := lastC_mono (l := r.Chills) v2 r.Chills.length
  have b1 := min_mono hl a1 hlt
  have b2 := min_mono hl a2 (lastC_lt r.Chills _ r.Chills.length (by omega))
  simp only
  omega
/- RescueTruth. -/
def firS (r : Rescue) (f : Facts) (m : Int) (n k : Nat) : Int := (List.range n).foldl (fun x p => bif mannedB (r.Posts.getD p dfltPost) m then min x (truS r f p k) else x) 1000000
theorem fir_in {r : Rescue} (hv : RV r) {f : Facts} (hf : FactsT r f) (m : Int) {k : Nat} (hk : k < r.Spots.toNat) : (reachS r m k).Lo ≤ firS r f m r.Posts.length k ∧ firS r f m r.Posts.length k ≤ (reachS r m k).Hi := by
  unfold reachS
  rw [fold_range _ dfltPost]
  have : ∀ n, n ≤ r.Posts.length → ((List.range n).foldl (fun y i => bif mannedB (r.Posts.getD i dfltPost) m then minS y (goS r (r.Posts.getD i dfltPost) k) else y) topS).Lo ≤ firS r f m n k ∧ firS r f m n k ≤ ((List.range n).foldl (fun y i => bif mannedB (r.Posts.getD i dfltPost) m then minS y (goS r (r.Posts.getD i dfltPost) k) else y) topS).Hi := by
    intro n
    induction n with
    | zero => intro _; exact ⟨Int.le_refl _, Int.le_refl _⟩
    | succ n ih =>
      intro hn
      have hi := ih (by omega)
      have ht := truS_in hv hf (show n < r.Posts.length by omega) hk
      have e2 : firS r f m (n + 1) k = bif mannedB (r.Posts.getD n dfltPost) m then min (firS r f m n k) (truS r f n k) else firS r f m n k := by unfold firS; rw [range_fold_succ]
      rw [range_fold_succ, e2]
      obtain ⟨X, hX⟩ : ∃ X, (List.range n).foldl (fun y i => bif mannedB (r.Posts.getD i dfltPost) m then minS y (goS r (r.Posts.getD i dfltPost) k) else y) topS = X := ⟨_, rfl⟩
      rw [hX] at hi ⊢
      cases mannedB (r.Posts.getD n dfltPost) m with
      | true => simp only [cond_true, minS]; omega
      | false => exact hi
  exact this _ (Nat.le_refl _)
abbrev VU12 := (Unit × Unit × (List Int) × Int × Unit) × Unit
abbrev VU30 := (Unit × Unit × Unit × Int × Unit) × Unit
theorem RescueTruth_true (nums : List Int) (hn : nums.length ≤ 9223372036854775807) : RescueTruth nums = some true := by
  apply ok_eq
  rw [RescueTruth_eq]; unfold RescueTruth'
  refine Ok.bind (NewSeed_ok hn) fun s0 _ => Ok.bind (RescueOf_ok s0 (by decide) (by decide) ⟨by decide, by decide⟩) fun s hM => Ok.bind (Below_ok _ (by decide)) fun m hm => ?_
  have hv := hM.1
  have hsp := hv.spots
  have hnp := hv.nPosts
  have hwl := hv.water.1
  have hm' : 0 ≤ m.2 ∧ m.2 ≤ 1439 := by omega
  refine Ok.bind (FactsOf_ok _ hv) fun f hf => ?_
  refine Ok.beq (lives_ok hv) (Ok.beq (reach_ok hv hm') (Ok.beq (cover_ok hv hm') (Ok.no rfl (Ok.no rfl (Ok.no rfl (Ok.no (by simp; omega) (Ok.no (by simp; omega) (Ok.no (by simp; omega) (Ok.chk (by simp [fitM]; omega) ?_)))))))))
  obtain ⟨n, hn0⟩ : ∃ n, s.2.Spots.toNat = n := ⟨_, rfl⟩
  refine Ok.rounds (fun (v : VU12) => 0 ≤ v.1.2.2.2.1 ∧ v.1.2.2.2.1 ≤ s.2.Spots ∧ v.1.2.2.1.length = n ∧ ∀ j : Nat, (j : Int) < v.1.2.2.2.1 → v.1.2.2.1.getD j 0 = 1000000) (fun (v : VU12) => (s.2.Spots - v.1.2.2.2.1).toNat) (FUEL_big (by show (s.2.Spots - 0).toNat ≤ _; omega)) ⟨Int.le_refl _, by simp only; omega, by simp [hn0], fun j hj => by simp only at hj; omega⟩ ?_
  rintro ⟨⟨u1, u2, fst, i, u3⟩, u4⟩ kn ⟨i0, i1, i2, i3⟩ hk
  simp only at i0 i1 i2 i3 hk ⊢
  unfold RescueTruth_L12
  refine Ok.ite (fun hc => ?_) (fun hc => ?_)
  · have hi := of_decide_eq_true hc
    refine Ok.chk (ib i0 (by omega)) (Ok.chk (decide_eq_true (by omega)) ?_)
    have e1 : w64 (i + 1) = i + 1 := w64_id (by omega) (by omega)
    rw [e1]
    refine hk ((u1, u2, fst.set i.toNat 1000000, i + 1, u3), u4) ⟨by simp only; omega, by simp only; omega, by simp [i2], fun j hj => ?_⟩ (by simp only; omega)
    simp only at hj ⊢
    rw [getD_set (by omega)]
    split
    · rfl
    · exact i3 j (by omega)
  · have hi := of_decide_eq_false hc
    refine Ok.rounds (fun (v : VU12) => 0 ≤ v.1.2.2.2.1 ∧ v.1.2.2.2.1 ≤ s.2.Posts.length ∧ v.1.2.2.1.length = n ∧ ∀ j : Nat, j < n → v.1.2.2.1.getD j 0 = firS s.2 f.2 m.2 v.1.2.2.2.1.toNat j) (fun (v : VU12) => (s.2.Posts.length - v.1.2.2.2.1).toNat) (FUEL_big (by show ((s.2.Posts.length : Int) - 0).toNat ≤ _; omega)) ⟨Int.le_refl _, by simp, i2, fun j hj => i3 j (by omega)⟩ ?_
    rintro ⟨⟨v1, v2, fs, p, v3⟩, v4⟩ kn2 ⟨p0, p1, p2, p3⟩ hk2
    simp only at p0 p1 p2 p3 hk2 ⊢
    unfold RescueTruth_L16
    refine Ok.ite (fun hc => ?_) (fun hc => ?_)
    · have hp := of_decide_eq_true hc
      have hp' : p.toNat < s.2.Posts.length := by omega
      refine Ok.beq (go_ok hv ⟨p0, hp⟩) (Ok.beq (truly_sp hv hf.t ⟨p0, hp⟩) (Ok.no rfl (Ok.no (by simp only [goes_len, len_range]; simp) ?_)))
      refine Ok.rounds (fun (v : VU12) => 0 ≤ v.1.2.2.2.1 ∧ v.1.2.2.2.1 ≤ n ∧ v.1.2.2.1.length = n ∧ ∀ j : Nat, j < n → v.1.2.2.1.getD j 0 = if (j : Int) < v.1.2.2.2.1 then firS s.2 f.2 m.2 (p.toNat + 1) j else firS s.2 f.2 m.2 p.toNat j) (fun (v : VU12) => (n - v.1.2.2.2.1).toNat) (FUEL_big (by show ((n : Int) - 0).toNat ≤ _; omega)) ⟨Int.le_refl _, by simp only; omega, p2, fun j hj => by simp only; rw [if_neg (by omega)]; exact p3 j hj⟩ ?_
      rintro ⟨⟨w1, w2, fs2, k, w3⟩, w4⟩ kn3 ⟨k0, k1, k2, k3⟩ hk3
      simp only at k0 k1 k2 k3 hk3 ⊢
      unfold RescueTruth_L23
      simp only [len_range, goes_len, hn0]
      refine Ok.ite (fun hc => ?_) (fun hc => ?_)
      · have hkk := of_decide_eq_true hc
        have hkn : k.toNat < s.2.Spots.toNat := by omega
        have e1 : w64 (k + 1) = k + 1 := w64_id (by omega) (by omega)
        obtain ⟨t1, t2⟩ := truS_in hv hf.t hp' hkn
        have cb : (decide (0 ≤ k) && decide (k < (n : Int))) = true := ib k0 hkk
        have cb2 : (decide (0 ≤ k) && decide (k < (fs2.length : Int))) = true := ib k0 (by omega)
        have cb3 : decide (k.toNat < fs2.length) = true := decide_eq_true (by omega)
        refine Ok.chk cb (Ok.chk cb (Ok.beq (Has_sp _ _) ?_))
        have hgr : ((List.range n).map (truS s.2 f.2 p.toNat)).getD k.toNat 0 = truS s.2 f.2 p.toNat k.toNat := getD_range _ _ (by omega)
        rw [← hn0] at hgr ⊢
        rw [hgr, goes_getD hkn]
        refine Ok.no (by rw [cov_iff.2 ⟨t1, t2⟩]; rfl) ?_
        have hfs : firS s.2 f.2 m.2 (p.toNat + 1) k.toNat = bif mannedB (s.2.Posts.getD p.toNat dfltPost) m.2 then min (firS s.2 f.2 m.2 p.toNat k.toNat) (truS s.2 f.2 p.toNat k.toNat) else firS s.2 f.2 m.2 p.toNat k.toNat := by unfold firS; rw [range_fold_succ]
        have h3 := k3 k.toNat (by omega)
        rw [if_neg (by omega)] at h3
        have next : ∀ o : List Int, o.length = n → (∀ j : Nat, j < n → o.getD j 0 = if j = k.toNat then firS s.2 f.2 m.2 (p.toNat + 1) k.toNat else fs2.getD j 0) → Ok (fun b => b = true) (kn3 ((w1, w2, o, k + 1, w3), w4)) := fun o ho hoj => by
          refine hk3 ((w1, w2, o, k + 1, w3), w4) ⟨by simp only; omega, by simp only; omega, ho, fun j hj => ?_⟩ (by simp only; omega)
          simp only
          rw [hoj j hj, k3 j hj]
          by_cases hjk : j = k.toNat
          · rw [if_pos hjk, if_pos (by omega), hjk]
          · rw [if_neg hjk]
            by_cases hlt : (j : Int) < k
            · rw [if_pos hlt, if_pos (by omega)]
            · rw [if_neg hlt, if_neg (by omega)]
        refine Ok.chk (ib p0 hp) (Ok.beq (Manned_sp _ _) ?_)
        rw [e1]
        refine Ok.ite (fun hmn => ?_) (fun hmn => ?_)
        · refine Ok.chk cb2 (Ok.chk cb3 (Ok.chk (by rw [hn0]; exact cb) (Ok.chk cb2 (Ok.chk cb3 ?_))))
          rw [hmn] at hfs
          refine next _ (by simp [k2]) fun j hj => ?_
          rw [getD_set (by omega), h3, hfs]; rfl
        · rw [hmn] at hfs
          refine next fs2 k2 fun j hj => ?_
          split
          · rename_i e; rw [e, h3, hfs]; rfl
          · rfl
      · have hkk := of_decide_eq_false hc
        have e1 : w64 (p + 1) = p + 1 := w64_id (by omega) (by omega)
        rw [e1]
        refine hk2 ((v1, v2, fs2, p + 1, v3), v4) ⟨by simp only; omega, by simp only; omega, k2, fun j hj => ?_⟩ (by simp only; omega)
        simp only [toNat_succ p0]
        rw [k3 j hj, if_pos (by omega)]
    · have hp := of_decide_eq_false hc
      have hpl : p.toNat = s.2.Posts.length := by omega
      rw [hpl] at p3
      refine Ok.rounds (fun (v : VU30) => 0 ≤ v.1.2.2.2.1 ∧ v.1.2.2.2.1 ≤ s.2.Spots) (fun (v : VU30) => (s.2.Spots - v.1.2.2.2.1).toNat) (FUEL_big (by show (s.2.Spots - 0).toNat ≤ _; omega)) ⟨Int.le_refl _, by simp only; omega⟩ ?_
      rintro ⟨⟨w1, w2, w3, k, w4⟩, w5⟩ kn3 ⟨k0, k1⟩ hk3
      simp only at k0 k1 hk3 ⊢
      unfold RescueTruth_L30
      simp only [List.length_map, List.length_range]
      refine Ok.ite (fun hc => ?_) (fun _ => awake_ok)
      have hkk := of_decide_eq_true hc
      have hkn : k.toNat < s.2.Spots.toNat := by omega
      have hkw : k.toNat < s.2.Water.length := by omega
      have e1 : w64 (k + 1) = k + 1 := w64_id (by omega) (by omega)
      have cb : (decide (0 ≤ k) && decide (k < (fs.length : Int))) = true := ib k0 (by omega)
      have cb2 : decide (k.toNat < fs.length) = true := decide_eq_true (by omega)
      have cb3 : (decide (0 ≤ k) && decide (k < (s.2.Spots.toNat : Int))) = true := ib k0 (by omega)
      have cb4 : (decide (0 ≤ k) && decide (k < (s.2.Water.length : Int))) = true := ib k0 (by omega)
      have hal := alive_sp hv hf ⟨k0, hkk⟩
      obtain ⟨l1, l2⟩ := alive_in hv hf hkw
      obtain ⟨f1, f2⟩ := fir_in hv hf.t m.2 hkn
      obtain ⟨fk, hfk⟩ : ∃ x, fs.getD k.toNat 0 = x := ⟨_, rfl⟩
      have hfk2 := p3 k.toNat (by omega)
      rw [hfk] at hfk2
      rw [← hfk2] at f1 f2
      obtain ⟨al, hale⟩ : ∃ x, alvS s.2 f.2 (f.2.Water.getD k.toNat 0) = x := ⟨_, rfl⟩
      rw [hale] at hal l1 l2
      refine Ok.chk cb (Ok.chk cb2 (Ok.beq hal (Ok.chk cb3 (Ok.chk cb (Ok.chk cb2 (Ok.beq (Has_sp _ _) ?_))))))
      rw [getD_range _ _ hkn, getD_range _ _ hkn, getD_map (d := dfltSpan) _ hkw, hfk]
      refine Ok.no (by rw [cov_iff.2 ⟨f1, f2⟩]; rfl) (Ok.chk cb4 (Ok.beq hal (Ok.beq (Has_sp _ _) (Ok.no (by rw [cov_iff.2 ⟨l1, l2⟩]; rfl) (Ok.chk cb3 ?_)))))
      have next := hk3 ((w1, w2, w3, k + 1, w4), w5) ⟨by simp only; omega, by simp only; omega⟩ (by simp only; omega)
      rw [e1]
      unfold coverS verdS
      cases h1 : decide ((reachS s.2 m.2 k.toNat).Hi ≤ (livesS s.2 (s.2.Water.getD k.toNat dfltSpan)).Lo) with
      | true =>
        have h1 := of_decide_eq_true h1
        refine Ok.yes rfl (Ok.no (by rw [decide_eq_true (show fk ≤ al by omega)]; rfl) (Ok.chk cb3 (Ok.no rfl next)))
      | false =>
        cases h2 : decide ((reachS s.2 m.2 k.toNat).Lo > (livesS s.2 (s.2.Water.getD k.toNat dfltSpan)).Hi) with
        | true =>
          have h2 := of_decide_eq_true h2
          refine Ok.no rfl (Ok.chk cb3 (Ok.yes rfl (Ok.no (decide_eq_false (by omega)) next)))
        | false => exact Ok.no rfl (Ok.chk cb3 (Ok.no rfl next))
end Go.Proofs.Rescue07

