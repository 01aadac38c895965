/- Walks by computing: what each function of the program that the laws reach gives for what it gets, as plain Lean, and that it is so; without a condition but those that stand in each theorem. -/
import Derived.Test.YtoklcjdahicjmaaRows
import Derived.WalkKit
import Derived.ProofKit
import Derived.OpenShut
import Derived.Deep.Slices
import Derived.Deep.DeepHandedRow
import Derived.Lib.LaidTab
import Derived.Test.YtoklcjdahicjmaaW1
import Derived.Test.YtoklcjdahicjmaaW2
import Derived.Test.YtoklcjdahicjmaaW3
import Derived.Test.YtoklcjdahicjmaaW4
import Derived.Test.YtoklcjdahicjmaaW5
import Derived.Test.YtoklcjdahicjmaaW6
import Derived.Test.YtoklcjdahicjmaaW7
import Derived.Test.YtoklcjdahicjmaaW8
set_option linter.all false
namespace Go.Proofs.Rescue07
open Go Go.Ab Go.Ways
set_option linter.all false
def VA (may : List (List Int)) (l : List Int) : Prop := ∀ i, i < l.length → l.getD i 0 ∈ may.getD i [] ∧ (l.getD i 0 ≠ -1 → l.getD i 0 ∉ l.take i)
theorem VA.nil (may : List (List Int)) : VA may [] := fun i hi => by simp at hi
theorem getD_app_r {l m : List Int} {i : Nat} (h : l.length ≤ i) : (l ++ m).getD i 0 = m.getD (i - l.length) 0 := by
  rw [List.getD_eq_getElem?_getD, List.getElem?_append_right h, ← List.getD_eq_getElem?_getD]
theorem VA.last {may : List (List Int)} {l m : List Int} {k : Int} (h : VA may (l ++ k :: m)) : k ∈ may.getD l.length [] ∧ (k ≠ -1 → k ∉ l) := by
  have := h l.length (by simp)
  rw [getD_app_r (Nat.le_refl _), List.take_left' rfl] at this
  simpa using this
end Go.Proofs.Rescue07
namespace Go.Proofs.Rescue07
open Go Go.Ab Go.Ways
set_option linter.all false
theorem getD_set {l : List Int} {i j : Nat} {x : Int} (hi : i < l.length) : (l.set i x).getD j 0 = if j = i then x else l.getD j 0 := by
  rw [List.getD_eq_getElem?_getD, List.getElem?_set]
  by_cases h : i = j
  · subst h; simp [hi]
  · have : ¬ j = i := fun e => h e.symm
    simp [h, this, List.getD_eq_getElem?_getD]
theorem VA.set {may : List (List Int)} {l : List Int} {i : Nat} {x : Int} (h : VA may l) (hi : i < l.length) (hx : x ∈ may.getD i []) (hn : x ∉ l) : VA may (l.set i x) := fun j hj => by
  have hj' : j < l.length := by simpa using hj
  rw [getD_set hi]
  have hm : ∀ y, y ∈ (l.set i x).take j → y = x ∨ y ∈ l.take j := fun y hy => by
    rw [List.take_set] at hy
    rcases List.mem_or_eq_of_mem_set hy with h | h
    · exact .inr h
    · exact .inl h
  by_cases hji : j = i
  · subst hji
    rw [if_pos rfl]
    refine ⟨hx, fun _ hy => ?_⟩
    have hy2 : x ∈ l.take j := by
      rw [List.take_set_of_le (by omega)] at hy
      exact hy
    exact hn (List.mem_of_mem_take hy2)
  · rw [if_neg hji]
    obtain ⟨h1, h2⟩ := h j hj'
    refine ⟨h1, fun h3 hy => ?_⟩
    rcases hm _ hy with e | hy
    · exact hn (by rw [← e]; exact getD_mem hj')
    · exact h2 h3 hy
end Go.Proofs.Rescue07
namespace Go.Proofs.Rescue07
open Go Go.Ab Go.Ways
set_option linter.all false
end Go.Proofs.Rescue07
namespace Go.Proofs.Rescue07
open Go Go.Ab Go.Ways
set_option linter.all false
def stepG (c : Bool) (out : List Span) (m : Int) : List Span := bif c then out else bif decide (0 < out.length) && ((out.getD (out.length - 1) dfltSpan).Hi == m - 1) then out.set (out.length - 1) ⟨(out.getD (out.length - 1) dfltSpan).Lo, m⟩ else out ++ [⟨m, m⟩]
def gapsL (C : Nat → Bool) : Nat → List Span
  | 0 => []
  | n + 1 => stepG (C n) (gapsL C n) n
theorem stepG_len (c : Bool) (out : List Span) (m : Int) : (stepG c out m).length ≤ out.length + 1 := by
  unfold stepG
  cases c with
  | true => simp
  | false =>
    simp only [cond_false]
    cases (decide (0 < out.length) && ((out.getD (out.length - 1) dfltSpan).Hi == m - 1)) <;> simp
theorem gapsL_len (C : Nat → Bool) : ∀ n, (gapsL C n).length ≤ n
  | 0 => by simp [gapsL]
  | n + 1 => by
    have h1 := gapsL_len C n
    have h2 := stepG_len (C n) (gapsL C n) n
    simp only [gapsL]; omega
theorem Clip_sp (s : List Span) : Clip s = some s := by
  rw [Clip_eq]; unfold Clip'
  have e : subL s 0 (s.length : Int) = s := by unfold subL; simp
  rw [e]
  simp [chk]
def gapsS (r : Rescue) (k : Int) : List Span := gapsL (fun m => coverS r (m : Int) k.toNat == 1) 1440
def gapsE (r : Rescue) (k : Int) : List Span × Int := bif eR r != 0 then ([], eR r) else bif !(inR k 0 (r.Spots - 1)) then ([], 7) else (gapsS r k, 0)
theorem step_code {α : Type} {P : α → Prop} {F : List Span → Option α} {out : List Span} {m : Int} (hl : out.length ≤ 1440) (hm : 0 ≤ m ∧ m < 1440) (h : Ok P (F (stepG false out m))) (h0 : 0 < out.length) :
    Ok P (chk (decide (0 ≤ (w64 ((out.length : Int) - 1))) && decide ((w64 ((out.length : Int) - 1)) < (out.length : Int))) <|
        chk (decide ((w64 ((out.length : Int) - 1)).toNat < out.length)) <|
        bif ((out.getD (w64 ((out.length : Int) - 1)).toNat dfltSpan).Hi == (w64 (m - 1))) then
          chk (decide (0 ≤ (w64 ((out.length : Int) - 1))) && decide ((w64 ((out.length : Int) - 1)) < (out.length : Int))) <|
          chk (decide ((w64 ((out.length : Int) - 1)).toNat < out.length)) <|
          F (out.set (w64 ((out.length : Int) - 1)).toNat (⟨(out.getD (w64 ((out.length : Int) - 1)).toNat dfltSpan).Lo, m⟩ : Span))
        else
          chk (fitA (out.length + ([(⟨m, m⟩ : Span)] : List Span).length) 16) <|
          F (out ++ ([(⟨m, m⟩ : Span)] : List Span))) := by
  have e1 : w64 ((out.length : Int) - 1) = (out.length : Int) - 1 := w64_id (by omega) (by omega)
  have e2 : w64 (m - 1) = m - 1 := w64_id (by omega) (by omega)
  have e3 : ((out.length : Int) - 1).toNat = out.length - 1 := by omega
  have c1 : (decide (0 ≤ (out.length : Int) - 1) && decide ((out.length : Int) - 1 < (out.length : Int))) = true := ib (by omega) (by omega)
  have c2 : decide (out.length - 1 < out.length) = true := decide_eq_true (by omega)
  rw [e1, e2, e3]
  simp only [c1, c2, chk, cond_true, fitA_ok (show out.length + ([(⟨m, m⟩ : Span)] : List Span).length ≤ 1000000 by simp; omega) (show 16 ≤ 1000000 by decide)]
  unfold stepG at h
  rw [decide_eq_true h0] at h
  simp only [cond_false, Bool.true_and] at h
  cases hb : ((out.getD (out.length - 1) dfltSpan).Hi == m - 1) <;> rw [hb] at h <;> exact h
theorem step_code0 {α : Type} {P : α → Prop} {F : List Span → Option α} {out : List Span} {m : Int} (h : Ok P (F (stepG false out m))) (h0 : ¬ 0 < out.length) :
    Ok P (chk (fitA (out.length + ([(⟨m, m⟩ : Span)] : List Span).length) 16) <| F (out ++ ([(⟨m, m⟩ : Span)] : List Span))) := by
  refine Ok.chk (fitA_ok (by simp; omega) (by decide)) ?_
  unfold stepG at h
  rw [decide_eq_false h0] at h
  exact h
theorem pGaps_sp {r : Rescue} (hf : Few r) (k : Int) : pGaps r k = some (gapsE r k) := by
  rw [pGaps_eq]; unfold pGaps' gapsE
  rw [asked_sp hf]
  simp only [Option.bind_some]
  cases he : (eR r != 0) with
  | true => simp only [cond_true, he]
  | false =>
  rw [show inR 0 0 1439 = true from rfl]
  simp only [cond_false, Bool.not_true, show ((0:Int) != 0) = false from rfl, within_sp, Option.bind_some]
  have hv := eR_zero.1 (show eR r = 0 by simpa using he)
  have hsp := hv.spots
  have e0 : w64 (r.Spots - 1) = r.Spots - 1 := w64_id (by omega) (by omega)
  rw [e0]
  cases hin : inR k 0 (r.Spots - 1) with
  | false => rfl
  | true =>
  have hk := inR_iff.1 hin
  simp only [cond_false, Bool.not_true]
  refine ok_eq (Ok.rounds (fun (v : VS2) => 0 ≤ v.1.2.2.1 ∧ v.1.2.2.1 ≤ 1440 ∧ v.1.2.1 = gapsL (fun m => coverS r (m : Int) k.toNat == 1) v.1.2.2.1.toNat) (fun (v : VS2) => (1440 - v.1.2.2.1).toNat) (FUEL_big (by show ((1440 : Int) - 0).toNat ≤ _; omega)) ⟨Int.le_refl _, by simp, rfl⟩ ?_)
  rintro ⟨⟨u1, out, m, u2⟩, u3⟩ kn ⟨i0, i1, i2⟩ hkn
  simp only at i0 i1 i2 hkn ⊢
  have hlen := gapsL_len (fun m => coverS r (m : Int) k.toNat == 1) m.toNat
  rw [← i2] at hlen
  unfold pGaps_L8
  refine Ok.ite (fun hc => ?_) (fun hc => ?_)
  · have hm := of_decide_eq_true hc
    have e1 : w64 (m + 1) = m + 1 := w64_id (by omega) (by omega)
    have next : Ok (fun x => x = (gapsS r k, 0)) (kn ((u1, stepG (coverS r m k.toNat == 1) out m, m + 1, u2), u3)) := by
      refine hkn ((u1, _, m + 1, u2), u3) ⟨by simp only; omega, by simp only; omega, ?_⟩ (by simp only; omega)
      simp only [toNat_succ i0]
      rw [i2]
      simp only [gapsL, Int.toNat_of_nonneg i0]
    refine Ok.beq (coverW_sp hv m ⟨hk.1, by omega⟩) ?_
    rw [e1]
    cases hcv : (coverS r m k.toNat == 1) with
    | true => rw [hcv] at next; exact next
    | false =>
      rw [hcv] at next
      simp only [cond_false]
      refine Ok.ite (fun hn => ?_) (fun hn => ?_)
      · have hn := of_decide_eq_true hn
        rw [w64_id (n := (out.length : Int) - 1) (by omega) (by omega)] at hn
        exact step_code (F := fun o => kn ((u1, o, m + 1, u2), u3)) (by omega) ⟨i0, hm⟩ next (by omega)
      · have hn := of_decide_eq_false hn
        rw [w64_id (n := (out.length : Int) - 1) (by omega) (by omega)] at hn
        exact step_code0 (F := fun o => kn ((u1, o, m + 1, u2), u3)) next (by omega)
  · have hm := of_decide_eq_false hc
    rw [show m.toNat = 1440 by omega] at i2
    exact Ok.beq (Clip_sp out) (Ok.some (by rw [i2]; rfl))
theorem chill_mem {l : List Chill} (hl : ChillV l) (w : Int) : SpIn (chillS l w) 0 5000 := by
  unfold chillS
  refine foldl_inv (I := fun x => SpIn x 0 5000) (hl.min 0 (by have := hl.len; omega)) fun x c hc hx => ?_
  obtain ⟨i, hi, rfl⟩ := List.getElem_of_mem hc
  have := hl.min i hi
  rw [List.getD_eq_getElem?_getD, List.getElem?_eq_getElem hi] at this
  cases decide (l[i].Warm ≤ w) with
  | true => exact this
  | false => exact hx
theorem reach_Hi (r : Rescue) (m : Int) (k : Nat) (L : Int) : ∀ (l : List Post) (x : Span), decide ((l.foldl (fun x p => bif mannedB p m then minS x (goS r p k) else x) x).Hi ≤ L) = (decide (x.Hi ≤ L) || l.any fun p => mannedB p m && decide ((goS r p k).Hi ≤ L))
  | [], x => (Bool.or_false _).symm
  | p :: l, x => by
    rw [List.foldl_cons, reach_Hi r m k L l, List.any_cons]
    cases mannedB p m with
    | false => simp
    | true =>
      simp only [cond_true, Bool.true_and]
      have : decide ((minS x (goS r p k)).Hi ≤ L) = (decide (x.Hi ≤ L) || decide ((goS r p k).Hi ≤ L)) := by
        unfold minS
        by_cases h1 : x.Hi ≤ L <;> by_cases h2 : (goS r p k).Hi ≤ L <;> simp only [h1, h2, decide_true, decide_false, Bool.or_true, Bool.or_false, decide_eq_true_eq, decide_eq_false_iff_not] <;> omega
      rw [this, Bool.or_assoc]
def sureS (r : Rescue) (m : Int) (k : Nat) : Bool := r.Posts.any fun p => mannedB p m && decide ((goS r p k).Hi ≤ (livesS r (r.Water.getD k dfltSpan)).Lo)
theorem lives_small {r : Rescue} (hv : RV r) (w : Span) : 0 ≤ (livesS r w).Lo ∧ (livesS r w).Lo ≤ 5000 ∧ 0 ≤ (livesS r w).Hi ∧ (livesS r w).Hi ≤ 5000 := by
  obtain ⟨a1, a2, a3⟩ := chill_mem hv.chills w.Lo
  obtain ⟨b1, b2, b3⟩ := chill_mem hv.chills w.Hi
  unfold livesS
  simp only
  omega
theorem cover_sure {r : Rescue} (hv : RV r) (m : Int) (k : Nat) : (coverS r m k == 1) = sureS r m k := by
  have hs := (lives_small hv (r.Water.getD k dfltSpan))
  have h := reach_Hi r m k (livesS r (r.Water.getD k dfltSpan)).Lo r.Posts topS
  have ht : decide (topS.Hi ≤ (livesS r (r.Water.getD k dfltSpan)).Lo) = false := decide_eq_false (by unfold topS; simp only; omega)
  rw [ht, Bool.false_or] at h
  unfold sureS
  rw [← h]
  unfold coverS verdS reachS
  cases decide ((r.Posts.foldl (fun x p => bif mannedB p m then minS x (goS r p k) else x) topS).Hi ≤ (livesS r (r.Water.getD k dfltSpan)).Lo) with
  | true => rfl
  | false =>
    simp only [cond_false]
    cases decide ((r.Posts.foldl (fun x p => bif mannedB p m then minS x (goS r p k) else x) topS).Lo > (livesS r (r.Water.getD k dfltSpan)).Hi) <;> rfl
end Go.Proofs.Rescue07
namespace Go.Proofs.Rescue07
open Go Go.Ab
set_option linter.all false
def postS (ready : Span) (s : Int) : Post := ⟨s, ready, 0, 0, 0, []⟩
def sitR (r : Rescue) (c : List Int) (ready : Span) : Rescue := ⟨r.Spots, r.Paths, c.map (postS ready), r.Water, r.Chills⟩
def sureC (r : Rescue) (c : List Int) (ready : Span) (k : Nat) : Bool := c.any fun s => decide ((goS r (postS ready s) k).Hi ≤ (livesS r (r.Water.getD k dfltSpan)).Lo)
def covN (r : Rescue) (c : List Int) (ready : Span) : Int := (((List.range r.Spots.toNat).filter (sureC r c ready)).length : Int)
structure SitV (r : Rescue) (c : List Int) (ready : Span) : Prop where
  len : c.length ≤ 10
  at_ : ∀ s ∈ c, 0 ≤ s ∧ s < r.Spots
  ready_ : SpIn ready 0 5000
theorem post_valid {r : Rescue} {c : List Int} {ready : Span} (h : SitV r c ready) {s : Int} (hs : s ∈ c) : PostV r.Spots (postS ready s) := by
  refine ePost_zero.1 ?_
  obtain ⟨h1, h2⟩ := h.at_ s hs
  unfold ePost postS
  simp only
  rw [show inR s 0 (r.Spots - 1) = true from inR_iff.2 ⟨h1, by omega⟩, eSpan_zero.2 h.ready_]
  rfl
theorem sit_valid {r : Rescue} (hv : RV r) {c : List Int} {ready : Span} (h : SitV r c ready) : RV (sitR r c ready) :=
  ⟨hv.spots, hv.nPaths, hv.paths, by simp [sitR]; have := h.len; omega, fun p hp => by
    simp only [sitR, List.mem_map] at hp
    obtain ⟨s, hs, rfl⟩ := hp
    exact post_valid h hs, hv.water, hv.chills⟩
theorem sure_sit (r : Rescue) (c : List Int) (ready : Span) (k : Nat) : sureS (sitR r c ready) 0 k = sureC r c ready k := by
  unfold sureS sureC
  show (c.map (postS ready)).any _ = _
  rw [List.any_map]
  rfl
theorem filter_succ (P : Nat → Bool) (n : Nat) : ((List.range (n + 1)).filter P).length = ((List.range n).filter P).length + (if P n = true then 1 else 0) := by
  rw [List.range_succ, List.filter_append, List.length_append]
  congr 1
  cases h : P n with
  | true => simp [h]
  | false => simp [h]
theorem filter_le (P : Nat → Bool) (n : Nat) : ((List.range n).filter P).length ≤ n := by
  have := List.length_filter_le P (List.range n)
  simpa using this
abbrev VPc := (Unit × Unit × Int × Unit) × ((Int × (List Path) × (List Post) × (List Span) × (List Chill) × Unit) × Unit)
abbrev VN2 := (Unit × Int × Int × Unit) × Unit
theorem pCovered_sp {r : Rescue} (hv : RV r) {c : List Int} {ready : Span} (h : SitV r c ready) : pCovered r c ready = some (covN r c ready) := by
  have hsp := hv.spots
  have hcl := h.len
  have hv' := sit_valid hv h
  rw [pCovered_eq]; unfold pCovered'
  refine ok_eq (Ok.rounds (fun (v : VPc) => 0 ≤ v.1.2.2.1 ∧ v.1.2.2.1 ≤ c.length ∧ v.2.1 = (r.Spots, r.Paths, (c.take v.1.2.2.1.toNat).map (postS ready), r.Water, r.Chills, ())) (fun (v : VPc) => (c.length - v.1.2.2.1).toNat) (FUEL_big (by show ((c.length : Int) - 0).toNat ≤ _; omega)) ⟨Int.le_refl _, by simp, by simp⟩ ?_)
  rintro ⟨⟨u1, u2, i, u3⟩, ⟨sp, pa, po, wa, chl, u5⟩, u4⟩ kn ⟨i0, i1, i2⟩ hk
  simp only at i0 i1 i2 hk ⊢
  cases i2
  unfold pCovered_L3
  refine Ok.ite (fun hc => ?_) (fun hc => ?_)
  · have hi := of_decide_eq_true hc
    have e1 : w64 (i + 1) = i + 1 := w64_id (by omega) (by omega)
    rw [e1]
    refine Ok.chk (ib i0 hi) (Ok.chk (fitA_ok (by simp; omega) (by decide)) ?_)
    refine hk ((u1, u2, i + 1, u3), (_, _, _, _, _, ()), u4) ⟨by simp only; omega, by simp only; omega, ?_⟩ (by simp only; omega)
    simp only [toNat_succ i0]
    rw [map_take_succ (d := (0 : Int)) (postS ready) (show i.toNat < c.length by omega)]
    rfl
  · have hi := of_decide_eq_false hc
    rw [map_take_all _ (by omega)]
    have hw := watchOf_sp hv'
    refine Ok.beq (a := watchS (sitR r c ready)) hw ?_
    refine Ok.rounds (fun (v : VN2) => 0 ≤ v.1.2.2.1 ∧ v.1.2.2.1 ≤ r.Spots ∧ v.1.2.1 = (((List.range v.1.2.2.1.toNat).filter (sureC r c ready)).length : Int)) (fun (v : VN2) => (r.Spots - v.1.2.2.1).toNat) (FUEL_big (by show (r.Spots - 0).toNat ≤ _; omega)) ⟨Int.le_refl _, by simp only; omega, by simp⟩ ?_
    rintro ⟨⟨w1, n, k, w2⟩, w3⟩ kn2 ⟨k0, k1, k2⟩ hk2
    simp only at k0 k1 k2 hk2 ⊢
    unfold pCovered_L9
    refine Ok.ite (fun hc2 => ?_) (fun hc2 => ?_)
    · have hkk := of_decide_eq_true hc2
      have e1 : w64 (k + 1) = k + 1 := w64_id (by omega) (by omega)
      have hnb := filter_le (sureC r c ready) k.toNat
      have e2 : w64 (n + 1) = n + 1 := w64_id (by omega) (by omega)
      rw [e1, e2]
      refine Ok.beq (coverW_sp hv' 0 ⟨k0, hkk⟩) ?_
      rw [cover_sure hv' 0 k.toNat, sure_sit]
      refine Ok.ite (fun hs => ?_) (fun hs => ?_)
      · refine hk2 ((w1, n + 1, k + 1, w2), w3) ⟨by simp only; omega, by simp only; omega, ?_⟩ (by simp only; omega)
        simp only [toNat_succ k0]
        rw [filter_succ, if_pos hs, k2]; simp
      · refine hk2 ((w1, n, k + 1, w2), w3) ⟨by simp only; omega, by simp only; omega, ?_⟩ (by simp only; omega)
        simp only [toNat_succ k0]
        rw [filter_succ, if_neg (by rw [hs]; simp), k2]; simp
    · have hkk := of_decide_eq_false hc2
      refine Ok.some ?_
      rw [k2, show k = r.Spots by omega]; rfl
end Go.Proofs.Rescue07
namespace Go.Proofs.Rescue07
open Go Go.Ab
set_option linter.all false
def eSite (r : Rescue) (c : List Int) (k : Nat) : Int := bif !(inR (c.getD k 0) 0 (r.Spots - 1)) then 7 else bif decide (c.getD k 0 ∈ subL c 0 (k : Int)) then 9 else 0
def eFrom (r : Rescue) (c : List Int) (ready : Span) (i : Nat) : Int := bif first (((List.range c.length).map (eSite r c)).drop i) != 0 then first (((List.range c.length).map (eSite r c)).drop i) else eSpan ready 0 5000
def eSites (r : Rescue) (c : List Int) (ready : Span) : Int := bif eR r != 0 then eR r else bif decide ((c.length : Int) > 10) then 8 else eFrom r c ready 0
abbrev VSi3 := (Unit × Unit × Int × Unit) × Unit
theorem subL_len (c : List Int) (i j : Int) : (subL c i j).length ≤ c.length := by
  unfold subL
  simp only [List.length_take, List.length_drop]
  omega
theorem eFrom_step (r : Rescue) (c : List Int) (ready : Span) {i : Nat} (h : i < c.length) : eFrom r c ready i = bif eSite r c i != 0 then eSite r c i else eFrom r c ready (i + 1) := by
  unfold eFrom
  rw [range_drop h]
  cases he : (eSite r c i != 0) with
  | true => simp only [cond_true, he]
  | false => simp only [cond_false]
theorem pCheckSites_sp {r : Rescue} (hf : Few r) (c : List Int) (ready : Span) : pCheckSites r c ready = some (eSites r c ready) := by
  rw [pCheckSites_eq]; unfold pCheckSites' eSites
  rw [pCheck_sp r hf]
  simp only [Option.bind_some]
  refine ok_eq (Ok.ite (fun h => Ok.some (by rw [h]; rfl)) (fun h => ?_))
  rw [h]
  have hv := eR_zero.1 (show eR r = 0 by simpa using h)
  have hsp := hv.spots
  refine Ok.ite (fun h => Ok.some (by rw [h]; rfl)) (fun h => ?_)
  have h10 := of_decide_eq_false h
  rw [h]
  simp only [cond_false]
  refine Ok.mono (P := fun y => y = eFrom r c ready 0) ?_ (fun _ h => h)
  refine Ok.roundsD (fun (v : VSi3) => 0 ≤ v.1.2.2.1 ∧ v.1.2.2.1 ≤ c.length) (fun (v : VSi3) => (c.length - v.1.2.2.1).toNat) (fun (v : VSi3) y => y = eFrom r c ready v.1.2.2.1.toNat) (FUEL_big (by show ((c.length : Int) - 0).toNat ≤ _; omega)) ⟨Int.le_refl _, by simp⟩ ?_
  rintro ⟨⟨u1, u2, i, u3⟩, u4⟩ kn ⟨i0, i1⟩ hk
  simp only at i0 i1 hk ⊢
  unfold pCheckSites_L7
  refine Ok.ite (fun hc => ?_) (fun hc => ?_)
  · have hi := of_decide_eq_true hc
    have e1 : w64 (i + 1) = i + 1 := w64_id (by omega) (by omega)
    have e2 : w64 (r.Spots - 1) = r.Spots - 1 := w64_id (by omega) (by omega)
    have hst := eFrom_step r c ready (show i.toNat < c.length by omega)
    have hii : ((i.toNat : Nat) : Int) = i := by omega
    have he : eSite r c i.toNat = bif !(inR (c.getD i.toNat 0) 0 (r.Spots - 1)) then 7 else bif decide (c.getD i.toNat 0 ∈ subL c 0 i) then 9 else 0 := by unfold eSite; rw [hii]
    rw [he] at hst
    rw [e1, e2, within_sp]
    refine Ok.chk (ib i0 hi) (Ok.beq rfl (Ok.ite (fun h1 => Ok.some ?_) (fun h1 => ?_)))
    · rw [hst, h1]; rfl
    · refine Ok.chk (by simp; omega) (Ok.beq (Contains_sp _ _ (Nat.le_trans (subL_len _ _ _) (by omega))) (Ok.ite (fun h2 => Ok.some ?_) (fun h2 => ?_)))
      · rw [hst, h1, h2]; rfl
      · refine Ok.mono (hk ((u1, u2, i + 1, u3), u4) ⟨by simp only; omega, by simp only; omega⟩ (by simp only; omega)) fun y hy => ?_
        simp only at hy
        rw [hst, h1, h2, hy, toNat_succ i0]; rfl
  · have hi := of_decide_eq_false hc
    rw [fault_sp]
    refine Ok.some ?_
    unfold eFrom
    rw [range_end (by omega)]; rfl
theorem eSites_zero {r : Rescue} {c : List Int} {ready : Span} (h : eSites r c ready = 0) : RV r ∧ SitV r c ready := by
  unfold eSites at h
  rw [bnz, bz (by decide)] at h
  obtain ⟨h1, h2, h3⟩ := h
  have hv := eR_zero.1 h1
  have h2 := of_decide_eq_false h2
  unfold eFrom at h3
  rw [bnz] at h3
  obtain ⟨h3, h4⟩ := h3
  refine ⟨hv, by omega, fun s hs => ?_, eSpan_zero.1 h4⟩
  obtain ⟨i, hi, rfl⟩ := List.getElem_of_mem hs
  have h5 := first_zero.1 h3 (eSite r c i) (by
    rw [List.drop_zero]
    exact List.mem_map.2 ⟨i, List.mem_range.2 hi, rfl⟩)
  unfold eSite at h5
  rw [bz (by decide)] at h5
  have h6 : inR (c.getD i 0) 0 (r.Spots - 1) = true := by simpa using h5.1
  rw [List.getD_eq_getElem?_getD, List.getElem?_eq_getElem hi] at h6
  have := inR_iff.1 h6
  simp only [Option.getD_some] at this
  omega
def stepM (r : Rescue) (ready : Span) (x : List Int × Int) (c : List Int) : List Int × Int := bif decide (covN r c ready > x.2) then (c, covN r c ready) else x
def mostS (r : Rescue) (c : List Int) (ready : Span) (m : Nat) : List Int × Int := (chs m c).foldl (stepM r ready) ([], -1)
theorem sit_choice {r : Rescue} {c : List Int} {ready : Span} (h : SitV r c ready) {m : Nat} {d : List Int} (hd : d ∈ chs m c) (hm : m ≤ 10) : SitV r d ready := by
  obtain ⟨h1, h2⟩ := chs_mem m c d hd
  exact ⟨by omega, fun s hs => h.at_ s (h2 s hs), h.ready_⟩
end Go.Proofs.Rescue07
namespace Go.Proofs.Rescue07
open Go Go.Ab
set_option linter.all false
def fewL (r : Rescue) (c : List Int) (ready : Span) : List Int → List Int × Int
  | [] => ([], 7)
  | m :: ms => match (chs m.toNat c).find? (fun d => covN r d ready == r.Spots) with
    | some d => (d, 0)
    | none => fewL r c ready ms
def fewS (r : Rescue) (c : List Int) (ready : Span) : List Int × Int := bif eSites r c ready != 0 then ([], eSites r c ready) else fewL r c ready (idx 0 ((c.length : Int) + 1))
def mostE (r : Rescue) (c : List Int) (ready : Span) (many : Int) : List Int × Int × Int := bif eSites r c ready != 0 then ([], 0, eSites r c ready) else bif !(inR many 0 (c.length : Int)) then ([], 0, 2) else ((mostS r c ready many.toNat).1, (mostS r c ready many.toNat).2, 0)
theorem someC_sp (c : List Int) (m : Int) : someC c m = some (m, c) := by rw [someC_eq]; rfl
abbrev VFw2 := (Unit × Unit × Unit × Unit × Int × Unit) × ((Unit × Unit) × (Int × Unit) × Unit)
abbrev VFw3 := ((Unit × Unit × Unit × Unit × Unit) × ((Unit × Unit) × (Int × Unit) × Unit)) × List ((List Int) × Unit)
theorem pFewest_sp {r : Rescue} (hf : Few r) (c : List Int) (ready : Span) : pFewest r c ready = some (fewS r c ready) := by
  rw [pFewest_eq]; unfold pFewest' fewS
  rw [pCheckSites_sp hf]
  simp only [Option.bind_some]
  refine ok_eq (Ok.ite (fun h => Ok.some (by rw [h]; rfl)) (fun h => ?_))
  rw [h]
  obtain ⟨hv, hs⟩ := eSites_zero (show eSites r c ready = 0 by simpa using h)
  have hcl := hs.len
  have hsp := hv.spots
  simp only [cond_false]
  have e0 : w64 ((c.length : Int) + 1) = (c.length : Int) + 1 := w64_id (by omega) (by omega)
  refine Ok.mono (P := fun y => y = fewL r c ready (idx 0 ((c.length : Int) + 1))) ?_ (fun _ h => h)
  refine Ok.roundsD (fun (v : VFw2) => 0 ≤ v.1.2.2.2.2.1 ∧ v.1.2.2.2.2.1 ≤ (c.length : Int) + 1) (fun (v : VFw2) => ((c.length : Int) + 1 - v.1.2.2.2.2.1).toNat) (fun (v : VFw2) y => y = fewL r c ready (idx v.1.2.2.2.2.1 ((c.length : Int) + 1))) (FUEL_big (by show ((c.length : Int) + 1 - 0).toNat ≤ _; omega)) ⟨Int.le_refl _, by simp only; omega⟩ ?_
  rintro ⟨⟨u1, u2, u3, u4, m, u5⟩, ⟨u6, u7⟩, ⟨x7, u8⟩, u9⟩ kn ⟨m0, m1⟩ hk
  simp only at m0 m1 hk ⊢
  unfold pFewest_L5
  rw [e0]
  refine Ok.ite (fun hc => ?_) (fun hc => ?_)
  · have hm := of_decide_eq_true hc
    have e1 : w64 (m + 1) = m + 1 := w64_id (by omega) (by omega)
    have hmn : ((m.toNat : Nat) : Int) = m := by omega
    refine Ok.beq (someC_sp c m) ?_
    simp only
    refine Ok.beq (a := its (chs m.toNat c)) (by have := some1_sp (m := m.toNat) hcl (by omega); rw [hmn] at this; exact this) ?_
    have hlen : (chs m.toNat c).length ≤ 1024 := Nat.le_trans (chs_len _ _) (pow10 hcl)
    rw [idx_cons hm]
    refine Ok.mono (P := fun y => y = match (chs m.toNat c).find? (fun d => covN r d ready == r.Spots) with | some d => (d, (0 : Int)) | none => fewL r c ready (idx (m + 1) ((c.length : Int) + 1))) ?_ (fun _ h => h)
    refine Ok.roundsD (fun (v : VFw3) => ∃ L : List (List Int), v.2 = its L ∧ ∀ d ∈ L, d ∈ chs m.toNat c) (fun (v : VFw3) => v.2.length) (fun (v : VFw3) y => y = match (v.2.map (·.1)).find? (fun d => covN r d ready == r.Spots) with | some d => (d, (0 : Int)) | none => fewL r c ready (idx (m + 1) ((c.length : Int) + 1))) (FUEL_big (by show (its (chs m.toNat c)).length ≤ _; simp; omega)) ⟨_, rfl, fun d hd => hd⟩ ?_ |>.mono fun y hy => ?_
    · rintro ⟨⟨w0, ⟨w1, w2⟩, ⟨y7, w3⟩, w4⟩, l⟩ kn2 ⟨L, hL, hmem⟩ hk2
      simp only at hL hk2 ⊢
      subst hL
      cases L with
      | nil =>
        simp only [List.map_nil, List.find?_nil]
        unfold pFewest_E8
        rw [e1]
        exact hk ((u1, u2, u3, u4, m + 1, u5), (u6, u7), (y7, u8), u9) ⟨by simp only; omega, by simp only; omega⟩ (by simp only; omega)
      | cons d L =>
        simp only [List.map_cons, List.find?_cons]
        unfold pFewest_L8
        refine Ok.beq (pCovered_sp hv (sit_choice hs (hmem d (List.mem_cons_self ..)) (by omega))) ?_
        refine Ok.ite (fun he => Ok.some (by rw [he])) (fun he => ?_)
        rw [he]
        exact hk2 ((w0, (w1, w2), (y7, w3), w4), its L) ⟨L, rfl, fun d hd => hmem d (List.mem_cons_of_mem _ hd)⟩ (by simp)
    · rw [hy]
      simp [List.map_map, Function.comp_def]
  · have hm := of_decide_eq_false hc
    rw [idx_nil (by omega)]
    exact Ok.some rfl
abbrev VMo5 := ((Unit × Unit × Unit × Unit × Unit) × (((List Int) × Unit) × (Int × Unit) × Unit)) × List ((List Int) × Unit)
theorem pMost_sp {r : Rescue} (hf : Few r) (c : List Int) (ready : Span) (many : Int) : pMost r c ready many = some (mostE r c ready many) := by
  rw [pMost_eq]; unfold pMost' mostE
  rw [pCheckSites_sp hf]
  simp only [Option.bind_some]
  refine ok_eq (Ok.ite (fun h => Ok.some (by rw [h]; rfl)) (fun h => ?_))
  rw [h]
  obtain ⟨hv, hs⟩ := eSites_zero (show eSites r c ready = 0 by simpa using h)
  have hcl := hs.len
  simp only [cond_false]
  rw [within_sp]
  simp only [Option.bind_some]
  refine Ok.ite (fun h => Ok.some (by rw [h]; rfl)) (fun h => ?_)
  rw [h]
  have hin := inR_iff.1 (show inR many 0 (c.length : Int) = true by simpa using h)
  have hmn : ((many.toNat : Nat) : Int) = many := by omega
  refine Ok.beq (someC_sp c many) ?_
  simp only
  refine Ok.beq (a := its (chs many.toNat c)) (by have := some1_sp (m := many.toNat) hcl (by omega); rw [hmn] at this; exact this) ?_
  have hlen : (chs many.toNat c).length ≤ 1024 := Nat.le_trans (chs_len _ _) (pow10 hcl)
  simp only [cond_false]
  refine Ok.roundsD (fun (v : VMo5) => ∃ L : List (List Int), v.2 = its L ∧ ∀ d ∈ L, d ∈ chs many.toNat c) (fun (v : VMo5) => v.2.length) (fun (v : VMo5) y => y = (((v.2.map (·.1)).foldl (stepM r ready) (v.1.2.1.1, v.1.2.2.1.1)).1, ((v.2.map (·.1)).foldl (stepM r ready) (v.1.2.1.1, v.1.2.2.1.1)).2, (0 : Int))) (FUEL_big (by show (its (chs many.toNat c)).length ≤ _; simp; omega)) ⟨_, rfl, fun d hd => hd⟩ ?_ |>.mono fun y hy => ?_
  · rintro ⟨⟨w0, ⟨po, w1⟩, ⟨n, w3⟩, w4⟩, l⟩ kn2 ⟨L, hL, hmem⟩ hk2
    simp only at hL hk2 ⊢
    subst hL
    cases L with
    | nil => exact Ok.some rfl
    | cons d L =>
      simp only [List.map_cons, List.foldl_cons]
      unfold pMost_L8
      refine Ok.beq (pCovered_sp hv (sit_choice hs (hmem d (List.mem_cons_self ..)) (by omega))) ?_
      have hst : stepM r ready (po, n) d = bif decide (covN r d ready > n) then (d, covN r d ready) else (po, n) := rfl
      rw [hst]
      refine Ok.ite (fun he => ?_) (fun he => ?_)
      · rw [he]
        exact hk2 ((w0, (d, w1), (covN r d ready, w3), w4), its L) ⟨L, rfl, fun d hd => hmem d (List.mem_cons_of_mem _ hd)⟩ (by simp)
      · rw [he]
        exact hk2 ((w0, (po, w1), (n, w3), w4), its L) ⟨L, rfl, fun d hd => hmem d (List.mem_cons_of_mem _ hd)⟩ (by simp)
  · rw [hy]
    simp only [List.map_map, Function.comp_def, List.map_id']
    rfl
end Go.Proofs.Rescue07
namespace Go.Proofs.Rescue07
open Go Go.Ab
open Go.Proofs.Ytoklcjdahicjmaa (iseat)
set_option linter.all false
set_option maxRecDepth 100000
noncomputable section
def roadO' (it : It Rescue)  : Option Rescue :=
 (span 5 8).bind fun r =>
 (span 10 20).bind fun r2 =>
 (one 12).bind fun r3 =>
 (span 3 4).bind fun r4 =>
 (span 2 3).bind fun r5 =>
 (one 1).bind fun r6 =>
 (span 30 40).bind fun r7 =>
 (span 20 25).bind fun r8 =>
 (one 0).bind fun r9 =>
 (span 6 9).bind fun r10 =>
 (span 0 10).bind fun r11 =>
 (span 10 20).bind fun r12 =>
 (span (-10) 0).bind fun r13 =>
 (span 50 60).bind fun r14 =>
 (span 10 20).bind fun r15 =>
 (span 15 30).bind fun r16 =>
 (span 30 60).bind fun r17 =>
 (span 60 90).bind fun r18 =>
 some (⟨4, ([(⟨0, 1, r, 1⟩ : Path), (⟨1, 2, r2, 1⟩ : Path), (⟨0, 2, r3, 3⟩ : Path), (⟨2, 3, r4, 2⟩ : Path)] : List Path), ([(⟨0, r5, 0, 0, 0, []⟩ : Post), (⟨2, r6, 360, 1080, 3, ([r7, r8, r9, r10] : List Span)⟩ : Post)] : List Post), ([r11, r12, r13, r14] : List Span), ([(⟨(-400), r15⟩ : Chill), (⟨0, r16⟩ : Chill), (⟨15, r17⟩ : Chill), (⟨50, r18⟩ : Chill)] : List Chill)⟩ : Rescue)
def roadO : Option Rescue := opq (roadO' itN)
theorem roadO_eq  : roadO  = roadO' itN  := by unfold roadO; rw [opq_eq]
def E64o : FEnv iseat := ⟨⟨35, [sp28, sp65], [], [], [], [], [], [], [], [], [], [], [], true⟩, []⟩
theorem e64o (it : It Rescue)  : fnRunOM .Rescue [none, some (55, .Path), some (57, .Post), some (51, .Span), some (94, .Chill)] it E64o (bodyOf Try.f64) Try.f64.results.toList (encA [] (())) = roadO' it  := by kernel_rfl
def sp64o : FnSpecOM iseat.toSeat := mkSpecOM iseat.toSeat 64 [] .Rescue [none, some (55, .Path), some (57, .Post), some (51, .Span), some (94, .Chill)] (fun a => roadO ) (fun a x hx os d hd h => fn_contractOM (Z := iseat) (ats := []) (E := E64o) (fn := Try.f64) (c := bodyOf Try.f64) Try.func64 (by kernel_rfl) (by kernel_rfl) (by kernel_rfl) (by kernel_rfl) rfl ((e64o itN ).trans ((roadO_eq ).symm.trans hx)) hd h)
def RescueKnown' (it : It Bool)  : Option Bool :=
 (roadO).bind fun r =>
 (roadO).bind fun r2 =>
 (roadO).bind fun r3 =>
 chk (decide (0 ≤ 1) && decide (1 < (r3.Posts.length : Int))) <|
 chk (decide (1 < r3.Posts.length)) <|
 chk (decide (0 ≤ 0) && decide (0 ≤ 3) && decide (3 ≤ (((r3.Posts.getD 1 dfltPost).Air).length : Int))) <|
 chk (decide (0 ≤ 0) && decide (0 < (r2.Paths.length : Int))) <|
 chk (decide (0 < r2.Paths.length)) <|
 chk (decide (0 ≤ 1) && decide (1 < (r3.Posts.length : Int))) <|
 chk (decide (1 < r3.Posts.length)) <|
 (awake).bind fun r4 =>
 bif (!r4) then
 some false
 else
 (road).bind fun r5 =>
 (pCheck r5).bind fun r6 =>
 bif (r6 != 0) then
 some false
 else
 (pCheck (⟨r.Spots, r.Paths, r.Posts, r.Water, []⟩ : Rescue)).bind fun r7 =>
 bif (r7 != 6) then
 some false
 else
 (pCheck (⟨r2.Spots, (r2.Paths.set 0 (⟨1, (r2.Paths.getD 0 dfltPath).B, (r2.Paths.getD 0 dfltPath).Time, (r2.Paths.getD 0 dfltPath).Open⟩ : Path)), r2.Posts, r2.Water, r2.Chills⟩ : Rescue)).bind fun r8 =>
 bif (r8 != 12) then
 some false
 else
 (pCheck (⟨r3.Spots, r3.Paths, (r3.Posts.set 1 (⟨(r3.Posts.getD 1 dfltPost).Spot, (r3.Posts.getD 1 dfltPost).Ready, (r3.Posts.getD 1 dfltPost).From, (r3.Posts.getD 1 dfltPost).To, (r3.Posts.getD 1 dfltPost).Flies, (subL ((r3.Posts.getD 1 dfltPost).Air) 0 3)⟩ : Post)), r3.Water, r3.Chills⟩ : Rescue)).bind fun r9 =>
 bif (r9 != 3) then
 some false
 else
 (roadO).bind fun r10 =>
 (pGo r10 1).bind fun r11 =>
 (roadO).bind fun r12 =>
 (pLives r12).bind fun r13 =>
 (roadO).bind fun r14 =>
 (pReach r14 400).bind fun r15 =>
 (roadO).bind fun r16 =>
 (pReach r16 1080).bind fun r17 =>
 (roadO).bind fun r18 =>
 (pCover r18 1080).bind fun r19 =>
 bif (r11.2 != 0) then
 some false
 else
 bif (r13.2 != 0) then
 some false
 else
 bif (r15.2 != 0) then
 some false
 else
 bif (r17.2 != 0) then
 some false
 else
 bif (r19.2 != 0) then
 some false
 else
 (span 31 1000000).bind fun r20 =>
 (span 21 1000000).bind fun r21 =>
 (span 1 1000000).bind fun r22 =>
 (span 7 1000000).bind fun r23 =>
 (SameSpans r11.1 ([r20, r21, r22, r23] : List Span)).bind fun r24 =>
 bif (!r24) then
 some false
 else
 (span 15 30).bind fun r25 =>
 (span 15 60).bind fun r26 =>
 (span 10 30).bind fun r27 =>
 (span 60 90).bind fun r28 =>
 (SameSpans r13.1 ([r25, r26, r27, r28] : List Span)).bind fun r29 =>
 bif (!r29) then
 some false
 else
 (span 2 3).bind fun r30 =>
 (span 7 11).bind fun r31 =>
 (span 1 31).bind fun r32 =>
 (span 7 1000000).bind fun r33 =>
 (SameSpans r15.1 ([r30, r31, r32, r33] : List Span)).bind fun r34 =>
 bif r34 then
 (span 2 3).bind fun r35 =>
 (span 7 11).bind fun r36 =>
 (span 14 31).bind fun r37 =>
 (one 1000000).bind fun r38 =>
 (SameSpans r17.1 ([r35, r36, r37, r38] : List Span)).bind fun r39 =>
 bif r39 then
 (Same r19.1 [1, 1, 3, 2]).bind fun r40 =>
 bif r40 then
 (others).bind fun r41 =>
 some r41
 else
 some false
 else
 some false
 else
 some false
def RescueKnown : Option Bool := opq (RescueKnown' itN)
theorem RescueKnown_eq  : RescueKnown  = RescueKnown' itN  := by unfold RescueKnown; rw [opq_eq]
def E15 : FEnv iseat := ⟨⟨149, [sp17, sp33, sp26, sp31, sp41, sp43, sp28, sp35, sp65, sp24, sp66, sp64], [], [], [], [], [], [], [], [sp64o], [], [112, 121, 130, 138, 143], [], true⟩, []⟩
theorem e15 (_it : It Bool)  : fnRun (ts := [.bool]) itN E15 (bodyOf Try.f15) Try.f15.results.toList (encA [] (())) = RescueKnown' itN  := by kernel_rfl
end
end Go.Proofs.Rescue07
namespace Go.Proofs.Rescue07
open Go Go.Ab Go.Ways
set_option linter.all false
set_option maxRecDepth 100000
theorem roadO_sp : roadO = some roadR := by
  rw [roadO_eq]; unfold roadO'
  simp only [span_sp, one_sp, Option.bind_some]; rfl
theorem others_true : others = some true := by
  rw [others_eq]; unfold others'
  simp only [road_sp, Option.bind_some, pGaps_sp roadR_few, pSend_sp roadR_few, pFewest_sp roadR_few, pMost_sp roadR_few, span_sp]
  rw [show gapsE roadR 0 = ([], 0) by decide +kernel, show gapsE roadR 3 = ([⟨0, 1439⟩], 0) by decide +kernel,
    show sendS roadR 400 [1] = ([0], 1, 0) by decide +kernel, show sendS roadR 400 [2] = ([-1], 0, 0) by decide +kernel,
    show fewS roadR [0, 1, 3] ⟨2, 3⟩ = ([], 7) by decide +kernel, show fewS roadR [0, 1, 2, 3] ⟨2, 3⟩ = ([0, 2, 3], 0) by decide +kernel,
    show mostE roadR [0, 1, 2, 3] ⟨2, 3⟩ 2 = ([0, 2], 3, 0) by decide +kernel]
  simp only [SameSpans_self [⟨0, 1439⟩] (by decide), Same_self [0] (by decide), Same_self [-1] (by decide), Same_self [0, 2, 3] (by decide), Same_self [0, 2] (by decide), Option.bind_some]
  rfl
def roadA : Rescue := ⟨roadR.Spots, roadR.Paths, roadR.Posts, roadR.Water, []⟩
def roadB : Rescue := ⟨roadR.Spots, (roadR.Paths.set 0 (⟨1, (roadR.Paths.getD 0 dfltPath).B, (roadR.Paths.getD 0 dfltPath).Time, (roadR.Paths.getD 0 dfltPath).Open⟩ : Path)), roadR.Posts, roadR.Water, roadR.Chills⟩
def roadC : Rescue := ⟨roadR.Spots, roadR.Paths, (roadR.Posts.set 1 (⟨(roadR.Posts.getD 1 dfltPost).Spot, (roadR.Posts.getD 1 dfltPost).Ready, (roadR.Posts.getD 1 dfltPost).From, (roadR.Posts.getD 1 dfltPost).To, (roadR.Posts.getD 1 dfltPost).Flies, (subL ((roadR.Posts.getD 1 dfltPost).Air) 0 3)⟩ : Post)), roadR.Water, roadR.Chills⟩
theorem roadA_few : Few roadA := by unfold Few; decide
theorem roadB_few : Few roadB := by unfold Few; decide
theorem roadC_few : Few roadC := by unfold Few; decide
theorem RescueKnown_true : RescueKnown = some true := by
  rw [RescueKnown_eq]; unfold RescueKnown'
  simp only [roadO_sp, Option.bind_some]
  rw [show (⟨roadR.Spots, roadR.Paths, roadR.Posts, roadR.Water, []⟩ : Rescue) = roadA from rfl, show (⟨roadR.Spots, (roadR.Paths.set 0 (⟨1, (roadR.Paths.getD 0 dfltPath).B, (roadR.Paths.getD 0 dfltPath).Time, (roadR.Paths.getD 0 dfltPath).Open⟩ : Path)), roadR.Posts, roadR.Water, roadR.Chills⟩ : Rescue) = roadB from rfl,
    show (⟨roadR.Spots, roadR.Paths, (roadR.Posts.set 1 (⟨(roadR.Posts.getD 1 dfltPost).Spot, (roadR.Posts.getD 1 dfltPost).Ready, (roadR.Posts.getD 1 dfltPost).From, (roadR.Posts.getD 1 dfltPost).To, (roadR.Posts.getD 1 dfltPost).Flies, (subL ((roadR.Posts.getD 1 dfltPost).Air) 0 3)⟩ : Post)), roadR.Water, roadR.Chills⟩ : Rescue) = roadC from rfl]
  simp only [awake_true, road_sp, Option.bind_some, pGo_sp roadR_few, pCover_sp roadR_few, pReach_sp roadR_few, pLives_sp roadR_few, pCheck_sp _ roadR_few, pCheck_sp _ roadA_few, pCheck_sp _ roadB_few, pCheck_sp _ roadC_few, span_sp, one_sp, others_true]
  rw [show eR roadR = 0 by decide +kernel, show eR roadA = 6 by decide +kernel, show eR roadB = 12 by decide +kernel, show eR roadC = 3 by decide +kernel]
  simp only [show ((0:Int) != 0) = false from rfl, cond_false]
  rw [show (bif !(inR 1 0 ((roadR.Posts.length : Int) - 1)) then (([] : List Span), (7 : Int)) else (goesS roadR (roadR.Posts.getD (1:Int).toNat dfltPost), 0)) = ([⟨31, 1000000⟩, ⟨21, 1000000⟩, ⟨1, 1000000⟩, ⟨7, 1000000⟩], 0) by decide +kernel,
    show roadR.Water.map (livesS roadR) = [⟨15, 30⟩, ⟨15, 60⟩, ⟨10, 30⟩, ⟨60, 90⟩] by decide +kernel,
    show askS roadR 400 [] ((List.range roadR.Spots.toNat).map (reachS roadR 400)) = ([⟨2, 3⟩, ⟨7, 11⟩, ⟨1, 31⟩, ⟨7, 1000000⟩], 0) by decide +kernel,
    show askS roadR 1080 [] ((List.range roadR.Spots.toNat).map (reachS roadR 1080)) = ([⟨2, 3⟩, ⟨7, 11⟩, ⟨14, 31⟩, ⟨1000000, 1000000⟩], 0) by decide +kernel,
    show askS roadR 1080 [] ((List.range roadR.Spots.toNat).map (coverS roadR 1080)) = ([1, 1, 3, 2], 0) by decide +kernel]
  simp only [SameSpans_self [⟨31, 1000000⟩, ⟨21, 1000000⟩, ⟨1, 1000000⟩, ⟨7, 1000000⟩] (by decide), SameSpans_self [⟨15, 30⟩, ⟨15, 60⟩, ⟨10, 30⟩, ⟨60, 90⟩] (by decide), SameSpans_self [⟨2, 3⟩, ⟨7, 11⟩, ⟨1, 31⟩, ⟨7, 1000000⟩] (by decide), SameSpans_self [⟨2, 3⟩, ⟨7, 11⟩, ⟨14, 31⟩, ⟨1000000, 1000000⟩] (by decide), Same_self [1, 1, 3, 2] (by decide), Option.bind_some]
  rfl
end Go.Proofs.Rescue07
namespace Go.Proofs.Ytoklcjdahicjmaa
open Go Go.Ab Go.ChangeShapes Go.WideShapes Go.ChangeAt Go.RowKit
set_option maxRecDepth 100000
def allK (w : World) : Nat → Nat → Option Value := fun b o => w.cell? ⟨b, o, none⟩
theorem allK_fits (w : World) : Fits (allK w) w := fun _ _ _ h => h
section
variable {H : Type} {enc : TypeId × Value → H} {W : World}
end
theorem glob_of {W : World} : GlobOk seat (allK W) := fun g l h => by cases h
theorem laidOut : laidOutB Try.prog = true := by kernel_rfl
theorem own : ownKnob Try.prog.godebug = none := by kernel_rfl
theorem trodAll_stays {H : Type} {enc : TypeId × Value → H} {W W' : World} {sp' : Nat → Bool} (hb : Below W.heap.size W W') : ∀ {ts : List TypeId} {vs : List Value} {ds : List (DataW H)} {ps : List MemPlace},
    (∀ t ∈ ts, Try.prog.readableRec t = true ∧ t < Try.prog.types.size) → DataW.TrodAll enc Try.prog W 0 (fun _ => true) true ts vs ds ps → (∀ p ∈ ps, p.block < W.heap.size) → (∀ p ∈ ps, sp' p.block = true) →
    DataW.TrodAll enc Try.prog W' 0 sp' true ts vs ds ps
  | [], [], [], _, _, h, _, _ => h
  | _ :: _, _ :: _, _ :: _, _, hT, ⟨p, q, h1, h2, e⟩, hlt, hs => ⟨p, q,
      WideElems.Trod_stays laidOut (hT _ (List.mem_cons_self ..)).1 (hT _ (List.mem_cons_self ..)).2 h1 (fun x hx => hb.same (hlt x (by rw [e]; exact List.mem_append_left _ hx))) (fun x hx => hs x (by rw [e]; exact List.mem_append_left _ hx)),
      trodAll_stays hb (fun t ht => hT t (List.mem_cons_of_mem _ ht)) h2 (fun x hx => hlt x (by rw [e]; exact List.mem_append_right _ hx)) (fun x hx => hs x (by rw [e]; exact List.mem_append_right _ hx)), e⟩
theorem post_yes {H : Type} {enc : TypeId × Value → H} {f : Func} {s : ChangeSpec} {W W' : World} {args : Array Value} {ds gs : List (DataW H)} {before : List MemPlace}
    (hW : DataW.Whole enc Try.prog f.params.toList s.vars false W args.toList ds gs before) (hv : s.vars = []) (hb : Below W.heap.size W W')
    (hT : ∀ t ∈ f.params.toList, Try.prog.readableRec t = true ∧ t < Try.prog.types.size) (hrt : f.resultTypes = #[4])
    (hr : (s.fn H (ds ++ gs)).results = [.lit (.bool true)]) (ha : (s.fn H (ds ++ gs)).args = ds) (hvs : (s.fn H (ds ++ gs)).vars = []) :
    s.post enc Try.prog f false true false false W args (.bool true) W' := by
  have hlt := hW.lt
  have hW2 := hW
  obtain ⟨p, q, hA, hV, rfl, _, _⟩ := hW
  rw [hv] at hV
  obtain ⟨rfl, rfl⟩ := trodVars_none hV
  refine ⟨ds, [], p ++ [], [], p, [], hW2, ?_, ?_, ?_, hb.frame _, fun h => by cases h⟩
  · rw [hr, hrt]
    exact trodAll_mk1 (shut_bool Try.underlying4 _)
  · rw [ha]
    exact trodAll_stays hb hT hA (fun x hx => hlt x (by simpa using hx)) (fun x hx => by simpa using hlt x (by simpa using hx))
  · rw [hvs, hv]; rfl
noncomputable def laidWorld (os : Os) : World := World.holding Try.prog os ⟨#[], #[], []⟩
section
variable {H : Type} {enc : TypeId × Value → H} {W : World}
end
end Go.Proofs.Ytoklcjdahicjmaa
namespace Go.Proofs.Ytoklcjdahicjmaa
open Go Go.Ab Go.ChangeShapes Go.WideShapes Go.ChangeAt Go.RowKit
set_option linter.all false
set_option maxRecDepth 100000
section
variable {H : Type} {enc : TypeId × Value → H} {W : World}
theorem fld {fs : Array Field} {xs : List (DataW H × List MemPlace)} {cs : List Value} {n : Nat}
    (hf : ∀ (i : Nat) (f : Field), fs[i]? = some f → DataW.trod enc Try.prog W 0 (fun _ => true) true n f.type ((cs.drop f.offset).take (Try.prog.cellsOf f.type)) = xs[i]?)
    (hl : xs.length = fs.size) (i : Nat) (f : Field) (hi : fs[i]? = some f) : ∃ y, DataW.trod enc Try.prog W 0 (fun _ => true) true n f.type ((cs.drop f.offset).take (Try.prog.cellsOf f.type)) = some y := by
  have h1 := (Array.getElem?_eq_some_iff.1 hi).1
  rw [← hl] at h1
  exact ⟨xs[i], by rw [hf i f hi]; exact List.getElem?_eq_getElem h1⟩
end
end Go.Proofs.Ytoklcjdahicjmaa
