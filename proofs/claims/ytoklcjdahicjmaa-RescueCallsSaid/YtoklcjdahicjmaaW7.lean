/- Walks by computing: what each function of the program that the laws reach gives for what it gets, as plain Lean, and that it is so; without a condition but those that stand in each theorem. -/
import Derived.Test.YtoklcjdahicjmaaRows
import Derived.WalkKit
import Derived.ProofKit
import Derived.OpenShut
import Derived.Deep.Slices
import Derived.Deep.DeepHandedRow
import Derived.Lib.LaidTab
import Derived.Test.YtoklcjdahicjmaaW1
import Derived.Test.YtoklcjdahicjmaaW2
import Derived.Test.YtoklcjdahicjmaaW3
import Derived.Test.YtoklcjdahicjmaaW4
import Derived.Test.YtoklcjdahicjmaaW5
import Derived.Test.YtoklcjdahicjmaaW6
set_option linter.all false
/- The rescue: Go, Lives, Reach, Cover, by both. -/
namespace Go.Proofs.Rescue07
open Go Go.Ab Go.Ways
set_option linter.all false
theorem foldl_filter {α β γ : Type} (f : γ → β → γ) (g : α → β) (p : α → Bool) : ∀ (l : List α) (x : γ), ((l.filter p).map g).foldl f x = l.foldl (fun x a => bif p a then f x (g a) else x) x
  | [], _ => rfl
  | a :: l, x => by
    simp only [List.filter_cons, List.foldl_cons]
    cases h : p a with
    | true => simp only [if_true, List.map_cons, List.foldl_cons, cond_true]; exact foldl_filter f g p l _
    | false => simp only [Bool.false_eq_true, if_false, cond_false]; exact foldl_filter f g p l _
theorem filter_take {α : Type} (p : α → Bool) {l : List α} {i : Nat} {d : α} (h : i < l.length) : (l.take (i + 1)).filter p = (l.take i).filter p ++ (bif p (l.getD i d) then [l.getD i d] else []) := by
  rw [List.take_succ, List.getElem?_eq_getElem h, List.filter_append, List.getD_eq_getElem?_getD, List.getElem?_eq_getElem h]
  cases hp : p l[i] <;> simp [hp]
theorem getD_map {α β : Type} (f : α → β) {l : List α} {i : Nat} {d : α} {e : β} (h : i < l.length) : (l.map f).getD i e = f (l.getD i d) := by
  simp [List.getD_eq_getElem?_getD, List.getElem?_map, List.getElem?_eq_getElem h]
theorem pGo_sp {r : Rescue} (hf : Few r) (k : Int) : pGo r k = some (bif eR r != 0 then ([], eR r) else bif !(inR k 0 ((r.Posts.length : Int) - 1)) then ([], 7) else (goesS r (r.Posts.getD k.toNat dfltPost), 0)) := by
  rw [pGo_eq]; unfold pGo'
  rw [pCheck_sp r hf]
  simp only [Option.bind_some, within_sp]
  cases he : (eR r != 0) with
  | true => rfl
  | false =>
    have hv := eR_zero.1 (show eR r = 0 by simpa using he)
    have h2 := hv.nPosts
    have e1 : w64 ((r.Posts.length : Int) - 1) = (r.Posts.length : Int) - 1 := w64_id (by omega) (by omega)
    rw [e1]
    cases hk : inR k 0 ((r.Posts.length : Int) - 1) with
    | false => rfl
    | true =>
      have hk' := inR_iff.1 hk
      simp only [Bool.not_true, cond_false]
      rw [show (decide (0 ≤ k) && decide (k < (r.Posts.length : Int))) = true from ib hk'.1 (by omega)]
      simp only [chk, cond_true]
      rw [goes_sp hv (hv.posts _ (getD_mem (by omega)))]
      rfl
abbrev VS2 := (Unit × List Span × Int × Unit) × Unit
theorem pLives_sp {r : Rescue} (hf : Few r) : pLives r = some (bif eR r != 0 then ([], eR r) else (r.Water.map (livesS r), 0)) := by
  rw [pLives_eq]; unfold pLives'
  rw [pCheck_sp r hf]
  simp only [Option.bind_some]
  cases he : (eR r != 0) with
  | true => rfl
  | false =>
    have hv := eR_zero.1 (show eR r = 0 by simpa using he)
    have hw := hv.water
    have hsp := hv.spots
    have hwl := hw.1
    simp only [cond_false]
    refine ok_eq (Ok.rounds (fun (v : VS2) => 0 ≤ v.1.2.2.1 ∧ v.1.2.2.1 ≤ r.Water.length ∧ v.1.2.1 = (r.Water.take v.1.2.2.1.toNat).map (livesS r)) (fun (v : VS2) => (r.Water.length - v.1.2.2.1).toNat) (FUEL_big (by show ((r.Water.length : Int) - 0).toNat ≤ _; omega)) ⟨Int.le_refl _, by simp, rfl⟩ ?_)
    rintro ⟨⟨u1, out, i, u2⟩, u3⟩ kn ⟨i0, i1, i2⟩ hk
    simp only at i0 i1 i2 hk ⊢
    unfold pLives_L6
    refine Ok.ite (fun hc => ?_) (fun hc => ?_)
    · have hi := of_decide_eq_true hc
      have hi' : i.toNat < r.Water.length := by omega
      have e1 : w64 (i + 1) = i + 1 := w64_id (by omega) (by omega)
      refine Ok.chk (ib i0 hi) (Ok.beq (lives_sp hv.chills (hw.2 _ (getD_mem hi'))) (Ok.chk (fitA_ok (by rw [i2]; simp; omega) (by decide)) ?_))
      rw [e1]
      refine hk ((u1, _, i + 1, u2), u3) ⟨by simp only; omega, by simp only; omega, ?_⟩ (by simp only; omega)
      simp only [toNat_succ i0]
      rw [map_take_succ (d := dfltSpan) _ hi', i2]
    · have hi := of_decide_eq_false hc
      exact Ok.some (by rw [i2, map_take_all _ (by omega)])
def mannedB (p : Post) (m : Int) : Bool := bif decide (p.From < p.To) then decide (p.From ≤ m) && decide (m < p.To) else decide (m ≥ p.From) || decide (m < p.To)
theorem manned_sp (p : Post) (m : Int) : manned p m = some (mannedB p m) := by
  rw [manned_eq]; unfold manned' mannedB
  cases decide (p.From < p.To) <;> cases decide (p.From ≤ m) <;> cases decide (m ≥ p.From) <;> rfl
theorem Manned_sp (p : Post) (m : Int) : Manned p m = some (mannedB p m) := by
  rw [Manned_eq]; unfold Manned' mannedB
  have : decide (m ≥ p.From) = decide (p.From ≤ m) := rfl
  rw [this]
  cases decide (p.From < p.To) <;> cases decide (p.From ≤ m) <;> rfl
def minS (x y : Span) : Span := ⟨min x.Lo y.Lo, min x.Hi y.Hi⟩
def topS : Span := ⟨1000000, 1000000⟩
def reachS (r : Rescue) (m : Int) (k : Nat) : Span := r.Posts.foldl (fun x p => bif mannedB p m then minS x (goS r p k) else x) topS
def verdS (x y : Span) : Int := bif decide (x.Hi ≤ y.Lo) then 1 else bif decide (x.Lo > y.Hi) then 2 else 3
def coverS (r : Rescue) (m : Int) (k : Nat) : Int := verdS (reachS r m k) (livesS r (r.Water.getD k dfltSpan))
def watchS (r : Rescue) : Watch := ⟨r, r.Posts.map (goesS r), r.Water.map (livesS r)⟩
abbrev VW1 := (Unit × Unit × Unit × Int × Unit) × ((Int × (List Path) × (List Post) × (List Span) × (List Chill) × (List (List Span)) × Unit × Unit) × Unit)
abbrev VW2 := (Unit × Unit × Unit × Int × Unit) × ((Int × (List Path) × (List Post) × (List Span) × (List Chill) × Unit × (List Span) × Unit) × Unit)
theorem watchOf_sp {r : Rescue} (hv : RV r) : watchOf r = some (watchS r) := by
  have hw := hv.water
  have hsp := hv.spots
  have hwl := hw.1
  have hnp := hv.nPosts
  rw [watchOf_eq]; unfold watchOf'
  refine ok_eq (Ok.rounds (fun (v : VW1) => 0 ≤ v.1.2.2.2.1 ∧ v.1.2.2.2.1 ≤ r.Posts.length ∧ v.2 = ((r.Spots, r.Paths, r.Posts, r.Water, r.Chills, (r.Posts.take v.1.2.2.2.1.toNat).map (goesS r), (), ()), ())) (fun (v : VW1) => (r.Posts.length - v.1.2.2.2.1).toNat) (FUEL_big (by show ((r.Posts.length : Int) - 0).toNat ≤ _; omega)) ⟨Int.le_refl _, by simp, rfl⟩ ?_)
  rintro ⟨⟨u1, u2, u3, i, u4⟩, v2⟩ kn ⟨i0, i1, i2⟩ hk
  simp only at i0 i1 i2 hk
  subst i2
  simp only
  unfold watchOf_L3
  refine Ok.ite (fun hc => ?_) (fun hc => ?_)
  · have hi := of_decide_eq_true hc
    have hi' : i.toNat < r.Posts.length := by omega
    have e1 : w64 (i + 1) = i + 1 := w64_id (by omega) (by omega)
    refine Ok.chk (ib i0 hi) (Ok.beq (goes_sp hv (hv.posts _ (getD_mem hi'))) (Ok.chk (fitA_ok (by simp; omega) (by decide)) ?_))
    rw [e1, ← map_take_succ (d := dfltPost) _ hi', ← toNat_succ i0]
    exact hk ((u1, u2, u3, i + 1, u4), _) ⟨by simp only; omega, by simp only; omega, rfl⟩ (by simp only; omega)
  · have hi := of_decide_eq_false hc
    rw [map_take_all _ (by omega)]
    refine Ok.rounds (fun (v : VW2) => 0 ≤ v.1.2.2.2.1 ∧ v.1.2.2.2.1 ≤ r.Water.length ∧ v.2 = ((r.Spots, r.Paths, r.Posts, r.Water, r.Chills, (), (r.Water.take v.1.2.2.2.1.toNat).map (livesS r), ()), ())) (fun (v : VW2) => (r.Water.length - v.1.2.2.2.1).toNat) (FUEL_big (by show ((r.Water.length : Int) - 0).toNat ≤ _; omega)) ⟨Int.le_refl _, by simp, rfl⟩ ?_
    rintro ⟨⟨u1, u2, u3, i, u4⟩, v2⟩ kn ⟨i0, i1, i2⟩ hk
    simp only at i0 i1 i2 hk
    subst i2
    simp only
    unfold watchOf_L8
    refine Ok.ite (fun hc => ?_) (fun hc => ?_)
    · have hi := of_decide_eq_true hc
      have hi' : i.toNat < r.Water.length := by omega
      have e1 : w64 (i + 1) = i + 1 := w64_id (by omega) (by omega)
      refine Ok.chk (ib i0 hi) (Ok.beq (lives_sp hv.chills (hw.2 _ (getD_mem hi'))) (Ok.chk (fitA_ok (by simp; omega) (by decide)) ?_))
      rw [e1, ← map_take_succ (d := dfltSpan) _ hi', ← toNat_succ i0]
      exact hk ((u1, u2, u3, i + 1, u4), _) ⟨by simp only; omega, by simp only; omega, rfl⟩ (by simp only; omega)
    · have hi := of_decide_eq_false hc
      exact Ok.some (by rw [map_take_all _ (by omega)]; rfl)
theorem goes_getD {r : Rescue} {p : Post} {k : Nat} (hk : k < r.Spots.toNat) : (goesS r p).getD k dfltSpan = goS r p k := getD_range _ _ hk
theorem goes_len (r : Rescue) (p : Post) : (goesS r p).length = r.Spots.toNat := len_range _ _
theorem times_getD {r : Rescue} {i : Nat} (hi : i < r.Posts.length) : (r.Posts.map (goesS r)).getD i [] = goesS r (r.Posts.getD i dfltPost) := getD_map _ hi
abbrev VX := (Unit × Unit × Int × Unit) × ((Int × Int × Unit) × Unit)
theorem soonest_sp (l : List Span) (hl : l.length ≤ 1000) : soonest l = some (l.foldl minS topS) := by
  rw [soonest_eq]; unfold soonest'
  refine ok_eq (Ok.rounds (fun (v : VX) => 0 ≤ v.1.2.2.1 ∧ v.1.2.2.1 ≤ l.length ∧ (⟨v.2.1.1, v.2.1.2.1⟩ : Span) = (l.take v.1.2.2.1.toNat).foldl minS topS) (fun (v : VX) => (l.length - v.1.2.2.1).toNat) (FUEL_big (by show ((l.length : Int) - 0).toNat ≤ _; omega)) ⟨Int.le_refl _, by simp, rfl⟩ ?_)
  rintro ⟨⟨u1, u2, i, u3⟩, ⟨⟨a, b, u4⟩, u5⟩⟩ kn ⟨i0, i1, i2⟩ hk
  simp only at i0 i1 i2 hk ⊢
  unfold soonest_L3
  refine Ok.ite (fun hc => ?_) (fun hc => ?_)
  · have hi := of_decide_eq_true hc
    have e1 : w64 (i + 1) = i + 1 := w64_id (by omega) (by omega)
    refine Ok.chk (ib i0 hi) ?_
    rw [e1]
    refine hk ((u1, u2, i + 1, u3), ((_, _, u4), u5)) ⟨by simp only; omega, by simp only; omega, ?_⟩ (by simp only; omega)
    simp only [toNat_succ i0]
    rw [foldl_take minS (d := dfltSpan) (show i.toNat < l.length by omega), ← i2]; rfl
  · have hi := of_decide_eq_false hc
    exact Ok.some (by rw [i2, List.take_of_length_le (by omega)])
abbrev VR := (Unit × Unit × List Span × Int × Unit) × Unit
theorem reachW_sp {r : Rescue} (hv : RV r) (m : Int) {k : Int} (hk : 0 ≤ k ∧ k < r.Spots) : reachW (watchS r) m k = some (reachS r m k.toNat) := by
  have hnp := hv.nPosts
  have hkn : k.toNat < r.Spots.toNat := by omega
  rw [reachW_eq]; unfold reachW'
  refine ok_eq (Ok.rounds (fun (v : VR) => 0 ≤ v.1.2.2.2.1 ∧ v.1.2.2.2.1 ≤ r.Posts.length ∧ v.1.2.2.1 = ((r.Posts.take v.1.2.2.2.1.toNat).filter fun p => mannedB p m).map (fun p => goS r p k.toNat)) (fun (v : VR) => (r.Posts.length - v.1.2.2.2.1).toNat) (FUEL_big (by show ((r.Posts.length : Int) - 0).toNat ≤ _; omega)) ⟨Int.le_refl _, by simp, rfl⟩ ?_)
  rintro ⟨⟨u1, u2, l, i, u3⟩, u4⟩ kn ⟨i0, i1, i2⟩ hk2
  simp only at i0 i1 i2 hk2 ⊢
  unfold reachW_L3
  show Ok _ (bif decide (i < (r.Posts.length : Int)) then _ else _)
  have hll : l.length ≤ r.Posts.length := by
    rw [i2, List.length_map]
    exact Nat.le_trans (List.length_filter_le _ _) (by simp; omega)
  refine Ok.ite (fun hc => ?_) (fun hc => ?_)
  · have hi := of_decide_eq_true hc
    have hi' : i.toNat < r.Posts.length := by omega
    have e1 : w64 (i + 1) = i + 1 := w64_id (by omega) (by omega)
    have hg : (watchS r).times.getD i.toNat [] = goesS r (r.Posts.getD i.toNat dfltPost) := times_getD hi'
    have hwr : (watchS r).Rescue = r := rfl
    refine Ok.chk (ib i0 hi) (Ok.beq (manned_sp _ _) ?_)
    rw [e1, hg, hwr, goes_getD hkn]
    have hft := filter_take (fun p => mannedB p m) (d := dfltPost) hi'
    have hlt : (watchS r).times.length = r.Posts.length := by simp [watchS]
    refine Ok.ite (fun hm => ?_) (fun hm => ?_)
    · refine Ok.chk (by rw [hlt]; exact ib i0 hi) (Ok.chk (by rw [goes_len]; exact ib hk.1 (by omega)) (Ok.chk (fitA_ok (by simp; omega) (by decide)) ?_))
      refine hk2 ((u1, u2, _, i + 1, u3), u4) ⟨by simp only; omega, by simp only; omega, ?_⟩ (by simp only; omega)
      simp only [toNat_succ i0]
      rw [hft, hm, List.map_append, ← i2]; rfl
    · refine hk2 ((u1, u2, _, i + 1, u3), u4) ⟨by simp only; omega, by simp only; omega, ?_⟩ (by simp only; omega)
      simp only [toNat_succ i0]
      rw [hft, hm, List.map_append, ← i2]; simp
  · have hi := of_decide_eq_false hc
    refine Ok.beq (soonest_sp l (by omega)) (Ok.some ?_)
    rw [i2, List.take_of_length_le (by omega), foldl_filter]; rfl
theorem coverW_sp {r : Rescue} (hv : RV r) (m : Int) {k : Int} (hk : 0 ≤ k ∧ k < r.Spots) : coverW (watchS r) m k = some (coverS r m k.toNat) := by
  have hw := hv.water.1
  rw [coverW_eq]; unfold coverW'
  rw [reachW_sp hv m hk]
  have hl : (decide (0 ≤ k) && decide (k < ((watchS r).lives.length : Int))) = true := ib hk.1 (by simp [watchS]; omega)
  have hg : (watchS r).lives.getD k.toNat dfltSpan = livesS r (r.Water.getD k.toNat dfltSpan) := getD_map _ (by omega)
  simp only [Option.bind_some, hl, chk, cond_true, hg]
  unfold coverS verdS
  cases decide ((reachS r m k.toNat).Hi ≤ (livesS r (r.Water.getD k.toNat dfltSpan)).Lo) <;> cases decide ((reachS r m k.toNat).Lo > (livesS r (r.Water.getD k.toNat dfltSpan)).Hi) <;> rfl
theorem asked_sp {r : Rescue} (hf : Few r) (m : Int) : asked r m = some (bif eR r != 0 then (⟨⟨0, [], [], [], []⟩, [], []⟩, eR r) else bif !(inR m 0 1439) then (⟨⟨0, [], [], [], []⟩, [], []⟩, 2) else (watchS r, 0)) := by
  rw [asked_eq]; unfold asked'
  rw [pCheck_sp r hf]
  simp only [Option.bind_some, within_sp]
  cases he : (eR r != 0) with
  | true => rfl
  | false =>
    cases hm : inR m 0 1439 with
    | false => rfl
    | true => rw [watchOf_sp (eR_zero.1 (show eR r = 0 by simpa using he))]; rfl
def askS {α : Type} (r : Rescue) (m : Int) (d x : α) : α × Int := bif eR r != 0 then (d, eR r) else bif !(inR m 0 1439) then (d, 2) else (x, 0)
abbrev VI2 := (Unit × List Int × Int × Unit) × Unit
theorem pCover_sp {r : Rescue} (hf : Few r) (m : Int) : pCover r m = some (askS r m [] ((List.range r.Spots.toNat).map (coverS r m))) := by
  rw [pCover_eq]; unfold pCover'
  rw [asked_sp hf]
  simp only [Option.bind_some]
  unfold askS
  cases he : (eR r != 0) with
  | true => simp only [cond_true, he]
  | false =>
    cases hm : inR m 0 1439 with
    | false => rfl
    | true =>
      have hv := eR_zero.1 (show eR r = 0 by simpa using he)
      have hsp := hv.spots
      simp only [cond_false, Bool.not_true, show ((0:Int) != 0) = false from rfl]
      refine ok_eq (Ok.rounds (fun (v : VI2) => 0 ≤ v.1.2.2.1 ∧ v.1.2.2.1 ≤ r.Spots ∧ v.1.2.1 = (List.range v.1.2.2.1.toNat).map (coverS r m)) (fun (v : VI2) => (r.Spots - v.1.2.2.1).toNat) (FUEL_big (by show (r.Spots - 0).toNat ≤ _; omega)) ⟨Int.le_refl _, by simp; omega, rfl⟩ ?_)
      rintro ⟨⟨u1, out, k, u2⟩, u3⟩ kn ⟨i0, i1, i2⟩ hk
      simp only at i0 i1 i2 hk ⊢
      unfold pCover_L6
      refine Ok.ite (fun hc => ?_) (fun hc => ?_)
      · have hi := of_decide_eq_true hc
        have e1 : w64 (k + 1) = k + 1 := w64_id (by omega) (by omega)
        refine Ok.beq (coverW_sp hv m ⟨i0, hi⟩) (Ok.chk (fitA_ok (by rw [i2]; simp; omega) (by decide)) ?_)
        rw [e1]
        refine hk ((u1, _, k + 1, u2), u3) ⟨by simp only; omega, by simp only; omega, ?_⟩ (by simp only; omega)
        simp only [toNat_succ i0]
        rw [← range_snoc, i2]
      · have hi := of_decide_eq_false hc
        exact Ok.some (by rw [i2, show k.toNat = r.Spots.toNat by omega])
end Go.Proofs.Rescue07


/- The rescue: who is sent where, by both. -/
namespace Go.Proofs.Rescue07
open Go Go.Ab Go.Ways
set_option linter.all false
theorem Clone_sp (s : List Int) (hs : s.length ≤ 1000) : Clone s = some s := by
  rw [Clone_eq]; unfold Clone'
  have hf : fitA (([] : List Int).length + s.length) 8 = true := fitA_ok (by simp; omega) (by decide)
  rw [hf]
  simp only [chk, cond_true, List.nil_append]
  rw [opNil_eq]
  intro h
  rw [List.isEmpty_iff] at h; subst h; rfl
theorem mem_drop {l : List Int} {v : Int} {i : Nat} {d : Int} (h : i < l.length) : v ∈ l.drop i ↔ v = l.getD i d ∨ v ∈ l.drop (i + 1) := by rw [drop_get (d := d) h, List.mem_cons]
theorem Index_sp (l : List Int) (v : Int) (hl : l.length ≤ 1000) : Ok (fun r => decide (r ≥ 0) = decide (v ∈ l)) (Index l v) := by
  rw [Index_eq]; unfold Index'
  refine Ok.mono (Ok.roundsD (P := fun (w : V1) r => decide (r ≥ 0) = decide (v ∈ l.drop w.1.1.toNat)) (fun (w : V1) => 0 ≤ w.1.1 ∧ w.1.1 ≤ l.length) (fun (w : V1) => (l.length - w.1.1).toNat) (FUEL_big (by show ((l.length : Int) - 0).toNat ≤ _; omega)) ⟨Int.le_refl _, by simp⟩ ?_) (fun r h => by simpa using h)
  rintro ⟨⟨i, u⟩, u'⟩ kn ⟨h0, h1⟩ hk
  simp only at h0 h1 hk ⊢
  unfold Index_L2
  refine Ok.ite (fun hc => ?_) (fun hc => ?_)
  · have hi := of_decide_eq_true hc
    have hd := mem_drop (v := v) (d := 0) (show i.toNat < l.length by omega)
    refine Ok.chk (ib h0 hi) ?_
    refine Ok.ite (fun h => ?_) (fun h => ?_)
    · have h : v = l.getD i.toNat 0 := by simpa using h
      exact Ok.some (by rw [decide_eq_true (hd.2 (.inl h))]; exact decide_eq_true h0)
    · have h : ¬ v = l.getD i.toNat 0 := by simpa using h
      have e1 : w64 (i + 1) = i + 1 := w64_id (by omega) (by omega)
      rw [e1]
      refine (hk ((i + 1, u), u') ⟨by simp only; omega, by simp only; omega⟩ (by simp only; omega)).mono fun r hr => ?_
      simp only [toNat_succ h0] at hr
      rw [hr]
      simp only [hd, h, false_or]
  · have := of_decide_eq_false hc
    exact Ok.some (by rw [List.drop_eq_nil_of_le (by omega)]; simp)
theorem Contains_sp (l : List Int) (v : Int) (hl : l.length ≤ 1000) : Contains l v = some (decide (v ∈ l)) := by
  rw [Contains_eq]; unfold Contains'
  exact ok_eq (Ok.bind (Index_sp l v hl) fun r hr => Ok.some hr)
/-- The search for the posts with which most calls are saved. -/
def srch (n : Nat) (may : List (List Int)) : Nat → List Int → Int → Int × List Int → Int × List Int
  | 0, _, _, st => st
  | d + 1, now, sum, st => bif decide (sum + n - now.length ≤ st.1) then st else bif decide (now.length = n) then (sum, now) else
    (may.getD now.length []).foldl (fun st k => bif k == -1 then srch n may d (now ++ [k]) sum st else bif !(decide (k ∈ now)) then srch n may d (now ++ [k]) (sum + 1) st else st) st
theorem foldl_inv {α β : Type} {I : β → Prop} {f : β → α → β} : ∀ {l : List α} {x : β}, I x → (∀ x a, a ∈ l → I x → I (f x a)) → I (l.foldl f x)
  | [], _, h, _ => h
  | a :: l, x, h, hf => foldl_inv (l := l) (hf x a (List.mem_cons_self ..) h) fun x b hb => hf x b (List.mem_cons_of_mem _ hb)
theorem srch_bnd (n : Nat) (may : List (List Int)) : ∀ (d : Nat) (now : List Int) (sum : Int) (st : Int × List Int), 0 ≤ sum → sum ≤ now.length → now.length + d ≤ n + 1 → -1 ≤ st.1 ∧ st.1 ≤ n → -1 ≤ (srch n may d now sum st).1 ∧ (srch n may d now sum st).1 ≤ n
  | 0, now, sum, st, _, _, _, h => h
  | d + 1, now, sum, st, h1, h2, h3, h => by
    simp only [srch]
    cases decide (sum + n - now.length ≤ st.1) with
    | true => exact h
    | false =>
      cases decide (now.length = n) with
      | true => simp only [cond_true, cond_false]; omega
      | false =>
        simp only [cond_false]
        refine foldl_inv (I := fun st : Int × List Int => -1 ≤ st.1 ∧ st.1 ≤ n) h fun x k _ hx => ?_
        cases (k == -1) with
        | true => exact srch_bnd n may d _ _ _ h1 (by simp; omega) (by simp; omega) hx
        | false =>
          cases decide (k ∈ now) with
          | true => exact hx
          | false => exact srch_bnd n may d _ _ _ (by omega) (by simp; omega) (by simp; omega) hx
abbrev VTry := (Unit × Int × Unit) × ((Unit × Unit) × (Int × Unit) × ((List Int) × Unit) × Unit)
theorem trySF_sp (calls : List Int) (may : List (List Int)) (hl : may.length = calls.length) (hn : calls.length ≤ 100) (hm : ∀ l ∈ may, l.length ≤ 1000) :
    ∀ (d N : Nat) (now : List Int) (sum x1 : Int) (x2 : List Int), now.length + d = calls.length → d < N → 0 ≤ sum → sum ≤ now.length → -1 ≤ x1 ∧ x1 ≤ calls.length →
      trySF N (calls, x1, x2, may, ()) (now, sum, ()) = some ((srch calls.length may (d + 1) now sum (x1, x2)).1, (srch calls.length may (d + 1) now sum (x1, x2)).2, ()) := by
  intro d
  induction d with
  | zero =>
    intro N now sum x1 x2 h1 h2 h3 h4 h5
    obtain ⟨N, rfl⟩ : ∃ M, N = M + 1 := ⟨N - 1, by omega⟩
    simp only [trySF, tryS', srch]
    have e1 : w64 (w64 (sum + (calls.length : Int)) - (now.length : Int)) = sum + calls.length - now.length := by
      rw [w64_id (n := sum + (calls.length : Int)) (by omega) (by omega)]; exact w64_id (by omega) (by omega)
    rw [e1]
    cases decide (sum + (calls.length : Int) - now.length ≤ x1) with
    | true => rfl
    | false =>
      rw [show ((now.length : Int) == (calls.length : Int)) = true by simp; omega, decide_eq_true (show now.length = calls.length by omega)]
      simp only [cond_true, cond_false]
      rw [Clone_sp now (by omega)]
      rfl
  | succ d ih =>
    intro N now sum x1 x2 h1 h2 h3 h4 h5
    obtain ⟨N, rfl⟩ : ∃ M, N = M + 1 := ⟨N - 1, by omega⟩
    have e1 : w64 (w64 (sum + (calls.length : Int)) - (now.length : Int)) = sum + calls.length - now.length := by
      rw [w64_id (n := sum + (calls.length : Int)) (by omega) (by omega)]; exact w64_id (by omega) (by omega)
    rw [srch]
    simp only [trySF, tryS']
    rw [e1]
    cases decide (sum + (calls.length : Int) - now.length ≤ x1) with
    | true => rfl
    | false =>
      have hlt : now.length < may.length := by omega
      rw [show ((now.length : Int) == (calls.length : Int)) = false by simp; omega, decide_eq_false (show ¬ now.length = calls.length by omega)]
      simp only [cond_false]
      rw [show (decide (0 ≤ (now.length : Int)) && decide ((now.length : Int) < (may.length : Int))) = true from ib (by omega) (by omega)]
      simp only [chk, cond_true]
      obtain ⟨ks, hks⟩ : ∃ ks, may.getD now.length [] = ks := ⟨_, rfl⟩
      have hkl : ks.length ≤ 1000 := by rw [← hks]; exact hm _ (getD_mem hlt)
      obtain ⟨f, hf⟩ : ∃ f : Int × List Int → Int → Int × List Int, (fun (st : Int × List Int) (k : Int) => bif k == -1 then srch calls.length may (d + 1) (now ++ [k]) sum st else bif !(decide (k ∈ now)) then srch calls.length may (d + 1) (now ++ [k]) (sum + 1) st else st) = f := ⟨_, rfl⟩
      have hfe : ∀ st k, f st k = bif k == -1 then srch calls.length may (d + 1) (now ++ [k]) sum st else bif !(decide (k ∈ now)) then srch calls.length may (d + 1) (now ++ [k]) (sum + 1) st else st := fun st k => by rw [← hf]
      rw [hf, hks]
      apply ok_eq
      refine Ok.rounds (fun (v : VTry) => 0 ≤ v.1.2.1 ∧ v.1.2.1 ≤ ks.length ∧ (v.2.2.1.1, v.2.2.2.1.1) = (ks.take v.1.2.1.toNat).foldl f (x1, x2) ∧ -1 ≤ v.2.2.1.1 ∧ v.2.2.1.1 ≤ calls.length) (fun (v : VTry) => (ks.length - v.1.2.1).toNat) (FUEL_big (by show ((ks.length : Int) - 0).toNat ≤ _; omega)) ⟨Int.le_refl _, by simp, rfl, h5.1, h5.2⟩ ?_
      rintro ⟨⟨u1, i, u2⟩, ⟨⟨u3, u4⟩, ⟨s2, u5⟩, ⟨b2, u6⟩, u7⟩⟩ kn ⟨i0, i1, i2, i3, i4⟩ hk
      simp only at i0 i1 i2 i3 i4 hk ⊢
      unfold tryS_L4
      simp only [Int.toNat_natCast, hks]
      refine Ok.ite (fun hc => ?_) (fun hc => ?_)
      · have hi := of_decide_eq_true hc
        have hi' : i.toNat < ks.length := by omega
        have e2 : w64 (i + 1) = i + 1 := w64_id (by omega) (by omega)
        have e3 : w64 (sum + 1) = sum + 1 := w64_id (by omega) (by omega)
        have hft := foldl_take f (d := 0) hi' (x1, x2)
        rw [← i2, hfe] at hft
        obtain ⟨k, hk0⟩ : ∃ k, ks.getD i.toNat 0 = k := ⟨_, rfl⟩
        rw [hk0] at hft ⊢
        rw [e2, e3]
        have next : ∀ st : Int × List Int, (ks.take (i.toNat + 1)).foldl f (x1, x2) = st → -1 ≤ st.1 ∧ st.1 ≤ calls.length → Ok (fun b => b = ((ks.foldl f (x1, x2)).1, (ks.foldl f (x1, x2)).2, ())) (kn ((u1, i + 1, u2), ((u3, u4), (st.1, u5), (st.2, u6), u7))) := fun st h6 h7 =>
          hk ((u1, i + 1, u2), ((u3, u4), (st.1, u5), (st.2, u6), u7)) ⟨by simp only; omega, by simp only; omega, by simp only [toNat_succ i0]; rw [h6], h7.1, h7.2⟩ (by simp only; omega)
        refine Ok.chk (ib i0 hi) ?_
        have hfit : fitA (now.length + [k].length) 8 = true := fitA_ok (by simp; omega) (by decide)
        cases hk1 : (k == -1) with
        | true =>
          rw [hk1] at hft
          simp only [cond_true] at hft ⊢
          refine Ok.beq (Clone_sp now (by omega)) (Ok.chk hfit (Ok.beq (ih N (now ++ [k]) sum s2 b2 (by simp; omega) (by omega) h3 (by simp; omega) ⟨i3, i4⟩) ?_))
          exact next _ hft (srch_bnd _ _ _ _ _ _ h3 (by simp; omega) (by simp; omega) ⟨i3, i4⟩)
        | false =>
          rw [hk1] at hft
          simp only [cond_false] at hft ⊢
          refine Ok.beq (Contains_sp now k (by omega)) ?_
          cases hk2 : decide (k ∈ now) with
          | true =>
            rw [hk2] at hft
            exact next (s2, b2) hft ⟨i3, i4⟩
          | false =>
            rw [hk2] at hft
            simp only [Bool.not_false, cond_true] at hft ⊢
            refine Ok.beq (Clone_sp now (by omega)) (Ok.chk hfit (Ok.beq (ih N (now ++ [k]) (sum + 1) s2 b2 (by simp; omega) (by omega) (by omega) (by simp; omega) ⟨i3, i4⟩) ?_))
            exact next _ hft (srch_bnd _ _ _ _ _ _ (by omega) (by simp; omega) (by simp; omega) ⟨i3, i4⟩)
      · have hi := of_decide_eq_false hc
        rw [List.take_of_length_le (by omega)] at i2
        exact Ok.some (by rw [← i2])
/-- Which posts a call may have. -/
def canS (r : Rescue) (m : Int) (spot k : Nat) : Bool := mannedB (r.Posts.getD k dfltPost) m && decide ((goS r (r.Posts.getD k dfltPost) spot).Hi ≤ (livesS r (r.Water.getD spot dfltSpan)).Lo)
def mayS (r : Rescue) (m : Int) (spot : Nat) : List Int := ((List.range r.Posts.length).filter (canS r m spot)).map (fun (k : Nat) => (k : Int)) ++ [-1]
theorem mayS_len (r : Rescue) (m : Int) (spot : Nat) : (mayS r m spot).length ≤ r.Posts.length + 1 := by
  simp only [mayS, List.length_append, List.length_map, List.length_singleton]
  have := List.length_filter_le (canS r m spot) (List.range r.Posts.length)
  simp at this; omega
theorem range_filter_succ (f : Nat → Bool) (i : Nat) : (List.range (i + 1)).filter f = (List.range i).filter f ++ (bif f i then [i] else []) := by
  rw [List.range_succ, List.filter_append]
  cases h : f i <;> simp [h]
abbrev VCh := (Unit × Int × Unit) × Unit
abbrev VCh5 := (Unit × (List Int) × Int × Unit) × Unit
def itemsS (r : Rescue) (m : Int) (calls : List Int) (a n : Nat) : List (Int × List Int × Unit) := (List.range' a n).map fun (i : Nat) => ((i : Int), mayS r m (calls.getD i 0).toNat, ())
theorem choices1_sp {r : Rescue} (hv : RV r) (m : Int) (calls : List Int) (hn : calls.length ≤ 6) (hc : ∀ c ∈ calls, 0 ≤ c ∧ c < r.Spots) : choices1 calls (watchS r) m = some (itemsS r m calls 0 calls.length) := by
  have hnp := hv.nPosts
  have hwl := hv.water.1
  rw [choices1_eq]; unfold choices1'
  apply ok_eq
  refine Ok.mono (Ok.roundsD (P := fun (v : VCh) x => x = itemsS r m calls v.1.2.1.toNat (calls.length - v.1.2.1.toNat)) (fun (v : VCh) => 0 ≤ v.1.2.1 ∧ v.1.2.1 ≤ calls.length) (fun (v : VCh) => (calls.length - v.1.2.1).toNat) (FUEL_big (by show ((calls.length : Int) - 0).toNat ≤ _; omega)) ⟨Int.le_refl _, by simp⟩ ?_) (fun x h => by simpa using h)
  rintro ⟨⟨u1, i, u2⟩, u3⟩ kn ⟨i0, i1⟩ hk
  simp only at i0 i1 hk ⊢
  unfold choices1_L1
  refine Ok.ite (fun hcc => ?_) (fun hcc => ?_)
  · have hi := of_decide_eq_true hcc
    have hi' : i.toNat < calls.length := by omega
    refine Ok.chk (ib i0 hi) ?_
    obtain ⟨c, hc0⟩ : ∃ c, calls.getD i.toNat 0 = c := ⟨_, rfl⟩
    have hcb : 0 ≤ c ∧ c < r.Spots := by rw [← hc0]; exact hc _ (getD_mem hi')
    have hcn : c.toNat < r.Spots.toNat := by omega
    refine Ok.rounds (fun (v : VCh5) => 0 ≤ v.1.2.2.1 ∧ v.1.2.2.1 ≤ r.Posts.length ∧ v.1.2.1 = ((List.range v.1.2.2.1.toNat).filter (canS r m c.toNat)).map (fun (k : Nat) => (k : Int))) (fun (v : VCh5) => (r.Posts.length - v.1.2.2.1).toNat) (FUEL_big (by show ((r.Posts.length : Int) - 0).toNat ≤ _; omega)) ⟨Int.le_refl _, by simp, rfl⟩ ?_
    rintro ⟨⟨w1, l, j, w2⟩, w3⟩ kn2 ⟨j0, j1, j2⟩ hk2
    simp only at j0 j1 j2 hk2 ⊢
    have hll : l.length ≤ r.Posts.length := by
      rw [j2, List.length_map]
      exact Nat.le_trans (List.length_filter_le _ _) (by simp; omega)
    unfold choices1_L5
    show Ok _ (bif decide (j < (r.Posts.length : Int)) then _ else _)
    refine Ok.ite (fun hcc => ?_) (fun hcc => ?_)
    · have hj := of_decide_eq_true hcc
      have hj' : j.toNat < r.Posts.length := by omega
      have e1 : w64 (j + 1) = j + 1 := w64_id (by omega) (by omega)
      have hg : (watchS r).times.getD j.toNat [] = goesS r (r.Posts.getD j.toNat dfltPost) := times_getD hj'
      have hwr : (watchS r).Rescue = r := rfl
      have hlt : (watchS r).times.length = r.Posts.length := by simp [watchS]
      have hlv : (watchS r).lives.getD c.toNat dfltSpan = livesS r (r.Water.getD c.toNat dfltSpan) := getD_map _ (by omega)
      have hll2 : (watchS r).lives.length = r.Water.length := by simp [watchS]
      have hrf := range_filter_succ (canS r m c.toNat) j.toNat
      refine Ok.chk (ib j0 hj) (Ok.beq (manned_sp _ _) ?_)
      rw [e1, hg, hwr, hc0, hlv, goes_getD hcn]
      have next : ∀ o, o = ((List.range (j.toNat + 1)).filter (canS r m c.toNat)).map (fun (k : Nat) => (k : Int)) → Ok (fun x => x = itemsS r m calls i.toNat (calls.length - i.toNat)) (kn2 ((w1, o, j + 1, w2), w3)) := fun o ho =>
        hk2 ((w1, o, j + 1, w2), w3) ⟨by simp only; omega, by simp only; omega, by simp only [toNat_succ j0]; exact ho⟩ (by simp only; omega)
      refine Ok.ite (fun hm => ?_) (fun hm => ?_)
      · refine Ok.chk (by rw [hlt]; exact ib j0 hj) (Ok.chk (by rw [goes_len]; exact ib hcb.1 (by omega)) (Ok.chk (by rw [hll2]; exact ib hcb.1 (by omega)) ?_))
        refine Ok.ite (fun hh => ?_) (fun hh => ?_)
        · refine Ok.chk (fitA_ok (by simp; omega) (by decide)) (next _ ?_)
          have : canS r m c.toNat j.toNat = true := by unfold canS; rw [hm, hh]; rfl
          rw [hrf, this, List.map_append, ← j2]
          simp; omega
        · refine next _ ?_
          have : canS r m c.toNat j.toNat = false := by unfold canS; rw [hm, hh]; rfl
          rw [hrf, this, List.map_append, ← j2]; simp
      · refine next _ ?_
        have : canS r m c.toNat j.toNat = false := by unfold canS; rw [hm]; rfl
        rw [hrf, this, List.map_append, ← j2]; simp
    · have hj := of_decide_eq_false hcc
      rw [show j.toNat = r.Posts.length by omega] at j2
      have e1 : w64 (i + 1) = i + 1 := w64_id (by omega) (by omega)
      refine Ok.chk (fitA_ok (by simp; omega) (by decide)) ?_
      obtain ⟨x, hx1, hx2⟩ := hk ((u1, i + 1, u2), u3) ⟨by simp only; omega, by simp only; omega⟩ (by simp only; omega)
      simp only [toNat_succ i0] at hx2
      refine ⟨(i, l ++ [-1], ()) :: x, ?_, ?_⟩
      · rw [e1]; simp only [consM, hx1]
      · obtain ⟨q, hq⟩ : ∃ q, calls.length - i.toNat = q + 1 := ⟨calls.length - i.toNat - 1, by omega⟩
        rw [hx2, hq, show calls.length - (i.toNat + 1) = q by omega]
        simp only [itemsS, List.range'_succ, List.map_cons, hc0]
        rw [j2, Int.toNat_of_nonneg i0]; rfl
  · have hi := of_decide_eq_false hcc
    exact Ok.some (by rw [show calls.length - i.toNat = 0 by omega]; rfl)
theorem choices_sp (w : Watch) (m : Int) (calls : List Int) : choices w m calls = some (calls, w, m) := by rw [choices_eq]; rfl
/-- What is found. -/
def foundS (r : Rescue) (m : Int) (calls : List Int) : Int × List Int := srch calls.length (calls.map fun c => mayS r m c.toNat) (calls.length + 1) [] 0 (-1, [])
def eCalls (r : Rescue) (calls : List Int) : Int := bif decide ((calls.length : Int) > 6) then 8 else first (calls.map fun c => bif !(inR c 0 (r.Spots - 1)) then 7 else 0)
def sendS (r : Rescue) (m : Int) (calls : List Int) : List Int × Int × Int := bif eR r != 0 then ([], 0, eR r) else bif !(inR m 0 1439) then ([], 0, 2) else bif eCalls r calls != 0 then ([], 0, eCalls r calls) else ((foundS r m calls).2, (foundS r m calls).1, 0)
abbrev VPS := (Unit × Unit × Unit × Unit × Unit × Int × Unit) × ((Unit × Unit) × (Int × Unit) × Unit)
abbrev VPM := ((Unit × Unit × Unit × Unit × Unit) × (((List (List Int)) × Unit) × Unit)) × List (Int × (List Int) × Unit)
theorem first7 {r : Rescue} {calls : List Int} (h : first (calls.map fun c => bif !(inR c 0 (r.Spots - 1)) then 7 else 0) = 0) : ∀ c ∈ calls, 0 ≤ c ∧ c < r.Spots := fun c hc => by
  rw [first_zero] at h
  have := h _ (List.mem_map_of_mem hc)
  rw [bz (by decide), Bool.not_eq_false', inR_iff] at this
  omega
theorem trySend {r : Rescue} (m : Int) (calls : List Int) (hn : calls.length ≤ 6) (hp : r.Posts.length ≤ 12) : tryS (calls, (-1), [], calls.map (fun c => mayS r m c.toNat), ()) ([], 0, ()) = some ((foundS r m calls).1, (foundS r m calls).2, ()) := by
  unfold tryS; rw [opq_eq]
  exact trySF_sp calls _ (by simp) (by omega) (fun l hl => by
    simp only [List.mem_map] at hl
    obtain ⟨c, _, rfl⟩ := hl
    have := mayS_len r m c.toNat; omega) calls.length FUELR [] 0 (-1) [] (by simp) (by unfold FUELR; omega) (by decide) (by simp) ⟨by decide, by omega⟩
theorem pSend_sp {r : Rescue} (hf : Few r) (m : Int) (calls : List Int) : pSend r m calls = some (sendS r m calls) := by
  rw [pSend_eq]; unfold pSend' sendS
  rw [asked_sp hf]
  simp only [Option.bind_some]
  cases he : (eR r != 0) with
  | true => simp only [cond_true, he]
  | false =>
  cases hm : inR m 0 1439 with
  | false => rfl
  | true =>
  simp only [cond_false, Bool.not_true, show ((0:Int) != 0) = false from rfl]
  unfold eCalls
  cases hc : decide ((calls.length : Int) > 6) with
  | true => rfl
  | false =>
  have hn := of_decide_eq_false hc
  have hv := eR_zero.1 (show eR r = 0 by simpa using he)
  have hsp := hv.spots
  have e0 : w64 (r.Spots - 1) = r.Spots - 1 := w64_id (by omega) (by omega)
  simp only [cond_false]
  apply ok_eq
  refine Ok.mono (Ok.roundsD (P := fun (v : VPS) x => x = bif first ((calls.map fun c => bif !(inR c 0 (r.Spots - 1)) then 7 else 0).drop v.1.2.2.2.2.2.1.toNat) != 0 then ([], 0, first ((calls.map fun c => bif !(inR c 0 (r.Spots - 1)) then 7 else 0).drop v.1.2.2.2.2.2.1.toNat)) else ((foundS r m calls).2, (foundS r m calls).1, 0)) (fun (v : VPS) => 0 ≤ v.1.2.2.2.2.2.1 ∧ v.1.2.2.2.2.2.1 ≤ calls.length ∧ first ((calls.map fun c => bif !(inR c 0 (r.Spots - 1)) then (7:Int) else 0).take v.1.2.2.2.2.2.1.toNat) = 0) (fun (v : VPS) => (calls.length - v.1.2.2.2.2.2.1).toNat) (FUEL_big (by show ((calls.length : Int) - 0).toNat ≤ _; omega)) ⟨Int.le_refl _, by simp, rfl⟩ ?_) (fun x h => by simpa using h)
  rintro ⟨⟨u1, u2, u3, u4, u5, i, u6⟩, ⟨⟨u7, u8⟩, ⟨sv, u9⟩, u10⟩⟩ kn ⟨i0, i1, hfz⟩ hk
  simp only at i0 i1 hfz hk ⊢
  unfold pSend_L7
  refine Ok.ite (fun hcc => ?_) (fun hcc => ?_)
  · have hi := of_decide_eq_true hcc
    have hi' : i.toNat < calls.length := by omega
    have e1 : w64 (i + 1) = i + 1 := w64_id (by omega) (by omega)
    refine Ok.chk (ib i0 hi) (Ok.beq (within_sp _ _ _) ?_)
    rw [e0, e1]
    have hfd := first_drop (f := fun c => bif !(inR c 0 (r.Spots - 1)) then (7:Int) else 0) (d := 0) hi'
    cases hin : inR (calls.getD i.toNat 0) 0 (r.Spots - 1) with
    | false =>
      rw [hin] at hfd
      exact Ok.some (by rw [hfd]; rfl)
    | true =>
      rw [hin] at hfd
      have := hk ((u1, u2, u3, u4, u5, i + 1, u6), ((u7, u8), (sv, u9), u10)) ⟨by simp only; omega, by simp only; omega, ?_⟩ (by simp only; omega)
      · simp only [toNat_succ i0] at this
        rw [hfd]; exact this
      · simp only [toNat_succ i0]
        rw [← List.map_take, map_take_succ (d := 0) _ hi', first_zero]
        rw [← List.map_take, first_zero] at hfz
        intro e hme
        rcases List.mem_append.1 hme with hme | hme
        · exact hfz e hme
        · rw [List.mem_singleton.1 hme, hin]; rfl
  · have hi := of_decide_eq_false hcc
    have hil : calls.length ≤ i.toNat := by omega
    rw [List.take_of_length_le (by simpa using hil)] at hfz
    rw [first_end hil]
    have hcs := first7 hfz
    show Ok (fun x => x = ((foundS r m calls).2, (foundS r m calls).1, 0)) _
    refine Ok.chk (by simp [fitM]; omega) (Ok.beq (choices_sp _ _ _) (Ok.beq (choices1_sp hv m calls (by omega) hcs) ?_))
    refine Ok.rounds (fun (v : VPM) => ∃ a : Nat, a ≤ calls.length ∧ v.2 = itemsS r m calls a (calls.length - a) ∧ v.1.2.1.1.length = calls.length ∧ ∀ j, j < a → v.1.2.1.1.getD j [] = mayS r m (calls.getD j 0).toNat) (fun (v : VPM) => v.2.length) (FUEL_big (by simp [itemsS]; omega)) ⟨0, by omega, rfl, by simp, fun j hj => by omega⟩ ?_
    rintro ⟨⟨u1, ⟨⟨may, u2⟩, u3⟩⟩, its⟩ kn ⟨a, ha, h1, h2, h3⟩ hk2
    simp only at h1 h2 h3 hk2 ⊢
    cases its with
    | nil =>
      have hal : a = calls.length := by
        have := congrArg List.length h1
        simp [itemsS] at this; omega
      have hmay : may = calls.map fun c => mayS r m c.toNat := by
        apply List.ext_getElem
        · simp [h2]
        · intro j hj1 hj2
          have hj3 : j < calls.length := by omega
          have := h3 j (by omega)
          rw [List.getD_eq_getElem?_getD, List.getElem?_eq_getElem hj1, List.getD_eq_getElem?_getD, List.getElem?_eq_getElem hj3] at this
          simpa using this
      simp only [pSend_E14]
      rw [hmay]
      exact Ok.beq (trySend m calls (by omega) hv.nPosts) (Ok.some rfl)
    | cons it0 its =>
      have hal : a < calls.length := by
        have := congrArg List.length h1
        simp [itemsS] at this; omega
      obtain ⟨q, hq⟩ : ∃ q, calls.length - a = q + 1 := ⟨calls.length - a - 1, by omega⟩
      rw [hq] at h1
      simp only [itemsS, List.range'_succ, List.map_cons, List.cons.injEq] at h1
      obtain ⟨rfl, h1⟩ := h1
      simp only [pSend_L14]
      refine Ok.chk (ib (by omega) (by omega)) (Ok.chk (decide_eq_true (by simp; omega)) ?_)
      simp only [Int.toNat_natCast]
      refine hk2 ((u1, ((may.set a (mayS r m (calls.getD a 0).toNat), u2), u3)), its) ⟨a + 1, by omega, ?_, by simp [h2], fun j hj => ?_⟩ (by simp)
      · simp only [h1, itemsS]; rw [show calls.length - (a + 1) = q by omega]
      · simp only
        by_cases hja : j = a
        · subst hja; simp [List.getD_eq_getElem?_getD, List.getElem?_set, h2, hal]
        · have : ¬ a = j := fun e => hja e.symm
          simp only [List.getD_eq_getElem?_getD, List.getElem?_set, this, if_false]
          have := h3 j (by omega)
          rwa [List.getD_eq_getElem?_getD, List.getD_eq_getElem?_getD] at this
end Go.Proofs.Rescue07


/- The rescue: the reference's Send. -/
namespace Go.Proofs.Rescue07
open Go Go.Ab Go.Ways
set_option linter.all false
end Go.Proofs.Rescue07


/- The rescue: what is made of numbers is valid. -/
namespace Go.Proofs.Rescue07
open Go Go.Ab Go.Ways
set_option linter.all false
theorem u64_bnd (n : Int) : 0 ≤ IntKind.u64.wrap n ∧ IntKind.u64.wrap n < 18446744073709551616 := by
  unfold IntKind.wrap
  simp [IntKind.bits, IntKind.signed]
  omega
theorem u64_id {n : Int} (h1 : 0 ≤ n) (h2 : n < 18446744073709551616) : IntKind.u64.wrap n = n := by
  unfold IntKind.wrap
  simp [IntKind.bits, IntKind.signed]
  omega
theorem next_ok (s : Seed) : Ok (fun r => 0 ≤ r.2 ∧ r.2 < 18446744073709551616) (next s) := by
  rw [next_eq]
  exact ⟨_, rfl, u64_bnd _⟩
theorem Below_ok (s : Seed) {n : Int} (hn : n ≤ 1000000000) : Ok (fun r => 0 ≤ r.2 ∧ (r.2 < n ∨ r.2 = 0)) (Below s n) := by
  rw [Below_eq]
  refine Ok.ite (fun h => Ok.some ⟨Int.le_refl _, .inr rfl⟩) fun h => ?_
  have hn2 : ¬ n < 2 := by simpa using h
  refine Ok.bind (next_ok s) fun r hr => ?_
  have hu : IntKind.u64.wrap n = n := u64_id (by omega) (by omega)
  refine Ok.chk (by rw [hu]; simp; omega) (Ok.some ?_)
  rw [hu]
  have e : shrI .u64 r.2 1 = r.2 / 2 := by
    unfold shrI
    rw [Int.fdiv_eq_ediv_of_nonneg _ (by decide)]
    simp [IntKind.bits]
  rw [e, Int.tmod_eq_emod_of_nonneg (by omega)]
  have h1 := Int.emod_nonneg (r.2 / 2) (show n ≠ 0 by omega)
  have h2 := Int.emod_lt_of_pos (r.2 / 2) (show 0 < n by omega)
  rw [w64_id (by omega) (by omega)]
  exact ⟨h1, .inl h2⟩
theorem Yes_ok (s : Seed) {n : Int} (hn : n ≤ 1000000000) : Ok (fun _ => True) (Yes s n) := by
  rw [Yes_eq]
  exact Ok.bind (Below_ok s hn) fun r _ => Ok.some trivial
theorem From_ok (s : Seed) {low high : Int} (h1 : -1000000 ≤ low) (h2 : low ≤ high) (h4 : high ≤ 1000000) : Ok (fun r => low ≤ r.2 ∧ r.2 ≤ high) (From s low high) := by
  rw [From_eq]
  refine Ok.bind (Below_ok s (n := w64 (w64 (high - low) + 1)) ?_) fun r hr => Ok.some ?_
  · rw [w64_id (n := high - low) (by omega) (by omega), w64_id (by omega) (by omega)]; omega
  · rw [w64_id (n := high - low) (by omega) (by omega), w64_id (n := high - low + 1) (by omega) (by omega)] at hr
    simp only
    rw [w64_id (by omega) (by omega)]
    omega
theorem Of_ok (s : Seed) {l : List Int} (h0 : l ≠ []) (hl : l.length ≤ 1000) : Ok (fun r => r.2 ∈ l) (Of s l) := by
  rw [Of_eq]
  have hp : 0 < l.length := List.length_pos_iff.2 h0
  refine Ok.ite (fun h => ?_) fun h => Ok.bind (Below_ok s (n := (l.length : Int)) (by omega)) fun r hr => Ok.chk ?_ (Ok.some ?_)
  · simp at h; exact absurd h h0
  · simp; omega
  · simp only
    rw [List.getD_eq_getElem?_getD, List.getElem?_eq_getElem (by omega)]
    exact List.getElem_mem _
theorem NewSeed_ok {nums : List Int} (hn : nums.length ≤ 9223372036854775807) : Ok (fun _ => True) (NewSeed nums) := by
  rw [NewSeed_eq]
  refine Ok.rounds (fun v => 0 ≤ v.1.2.1 ∧ v.1.2.1 ≤ nums.length) (fun v => ((nums.length : Int) - v.1.2.1).toNat) ?_ ?_ ?_
  · show ((nums.length : Int) - 0).toNat < 18446744073709551616
    omega
  · simp
  · rintro ⟨⟨_, i, _⟩, ⟨w, _⟩, _⟩ kn hi' hk
    simp only at hi'
    refine Ok.ite (fun hlt => ?_) fun _ => Ok.some trivial
    simp only [decide_eq_true_eq] at hlt
    have e : w64 (i + 1) = i + 1 := w64_id (by omega) (by omega)
    refine Ok.chk (by simp; omega) (Ok.bind (next_ok _) fun r _ => hk _ ?_ ?_)
    · simp [e]; omega
    · simp [e]; omega
theorem SpanOf_ok (s : Seed) {low high : Int} (h1 : -100000 ≤ low) (h2 : low ≤ high) (h3 : high ≤ 100000) : Ok (fun r => SpIn r.2 low high) (SpanOf s low high) := by
  rw [SpanOf_eq]; unfold SpanOf'
  refine Ok.bind (From_ok s (by omega) h2 (by omega)) fun a ha => Ok.bind (Below_ok _ (by decide)) fun b _ => ?_
  have e1 : w64 (a.2 + 1) = a.2 + 1 := w64_id (by omega) (by omega)
  have e2 : w64 (high - low) = high - low := w64_id (by omega) (by omega)
  have e3 : (high - low).tdiv 10 = (high - low) / 10 := Int.tdiv_eq_ediv_of_nonneg (by omega)
  have e4 : w64 ((high - low) / 10) = (high - low) / 10 := w64_id (by omega) (by omega)
  have e5 : w64 (a.2 + 1 + (high - low) / 10) = a.2 + 1 + (high - low) / 10 := w64_id (by omega) (by omega)
  rw [e1, e2, e3, e4, e5]
  refine Ok.ite (fun _ => ?_) fun _ => Ok.ite (fun _ => ?_) fun _ => ?_
  · exact Ok.bind (From_ok _ (by omega) (by omega) (by omega)) fun c hc => Ok.some ⟨by simp only; omega, by simp only; omega, by simp only; omega⟩
  · exact Ok.bind (From_ok _ (by omega) (by omega) (by omega)) fun c hc => Ok.some ⟨by simp only; omega, by simp only; omega, by simp only; omega⟩
  · exact Ok.some ⟨by simp only; omega, by simp only; omega, by simp only; omega⟩
theorem SpIn.wide {x : Span} {a b c d : Int} (h : SpIn x a b) (h1 : c ≤ a) (h2 : b ≤ d) : SpIn x c d := by obtain ⟨p, q, r⟩ := h; exact ⟨by omega, q, by omega⟩
theorem PathOf_ok (s : Seed) {n : Int} (h1 : 2 ≤ n) (h2 : n ≤ 40) : Ok (fun r => PathV n r.2) (PathOf s n) := by
  rw [PathOf_eq]; unfold PathOf'
  refine Ok.bind (Below_ok s (by omega)) fun a ha => Ok.bind (Of_ok _ (by simp) (by simp)) fun b hb => ?_
  simp only [List.mem_cons, List.not_mem_nil, or_false] at hb
  refine Ok.bind (SpanOf_ok _ (by decide) (by omega) (by omega)) fun t ht => Ok.bind (Of_ok _ (by simp) (by simp)) fun o ho => ?_
  simp only [List.mem_cons, List.not_mem_nil, or_false] at ho
  have e1 : w64 (n - 1) = n - 1 := w64_id (by omega) (by omega)
  rw [e1]
  refine Ok.bind (From_ok _ (by decide) (by omega) (by omega)) fun k hk => Ok.chk (by simp; omega) (Ok.some ?_)
  have e2 : w64 (a.2 + k.2) = a.2 + k.2 := w64_id (by omega) (by omega)
  have e3 : (a.2 + k.2).tmod n = (a.2 + k.2) % n := Int.tmod_eq_emod_of_nonneg (by omega)
  rw [e2, e3]
  have h5 := Int.emod_nonneg (a.2 + k.2) (show n ≠ 0 by omega)
  have h6 := Int.emod_lt_of_pos (a.2 + k.2) (show 0 < n by omega)
  refine ⟨ha.1, by simp only; omega, h5, h6, fun e => ?_, ht.wide (by decide) (by omega), by simp only; omega⟩
  simp only at e
  have h7 := Int.mul_ediv_add_emod (a.2 + k.2) n
  rw [← e] at h7
  have h8 : n * ((a.2 + k.2) / n) = k.2 := by omega
  have h9 : 0 < (a.2 + k.2) / n := by
    refine Classical.byContradiction fun hc => ?_
    have : n * ((a.2 + k.2) / n) ≤ 0 := Int.mul_nonpos_of_nonneg_of_nonpos (by omega) (by omega)
    omega
  have : n * 1 ≤ n * ((a.2 + k.2) / n) := Int.mul_le_mul_of_nonneg_left (by omega) (by omega)
  omega
abbrev VPo := (Unit × Unit × Unit × Int × Unit) × ((Int × Unit) × (Int × Int × Int × Int × Int × Int × (List Span) × Unit) × Unit)
theorem PostOf_ok (s : Seed) {n : Int} (h1 : 1 ≤ n) (h2 : n ≤ 40) : Ok (fun r => PostV n r.2) (PostOf s n) := by
  rw [PostOf_eq]; unfold PostOf'
  refine Ok.bind (Below_ok s (by omega)) fun a ha => Ok.bind (SpanOf_ok _ (by decide) (by decide) (by decide)) fun t ht => Ok.bind (Below_ok _ (by decide)) fun b hb => Ok.bind (Of_ok _ (by simp) (by simp)) fun f hf => Ok.bind (Below_ok _ (by decide)) fun c hc => Ok.bind (Of_ok _ (by simp) (by simp)) fun g hg => Ok.bind (Yes_ok _ (by decide)) fun y _ => ?_
  simp only [List.mem_cons, List.not_mem_nil, or_false] at hf hg
  refine Ok.ite (fun _ => ?_) fun _ => ?_
  · refine Ok.bind (From_ok _ (by decide) (by decide) (by decide)) fun fl hfl => ?_
    refine Ok.rounds (fun (v : VPo) => 0 ≤ v.1.2.2.2.1 ∧ v.1.2.2.2.1 ≤ n ∧ ∃ air, v.2.2.1 = (a.2, t.2.Lo, t.2.Hi, f.2, g.2, fl.2, air, ()) ∧ (air.length : Int) = v.1.2.2.2.1 ∧ ∀ x ∈ air, SpIn x 0 5000) (fun (v : VPo) => (n - v.1.2.2.2.1).toNat) (FUEL_big (by show (n - 0).toNat ≤ _; omega)) ⟨Int.le_refl _, by simp only; omega, [], rfl, rfl, fun x hx => by cases hx⟩ ?_
    rintro ⟨⟨u1, u2, u3, i, u4⟩, ⟨⟨w, u5⟩, p, u6⟩⟩ kn ⟨i0, i1, air, i2, i3, i4⟩ hk
    simp only at i0 i1 i2 i3 hk
    subst i2
    simp only
    unfold PostOf_L5
    refine Ok.ite (fun hc => ?_) fun hc => ?_
    · have hi := of_decide_eq_true hc
      have e1 : w64 (i + 1) = i + 1 := w64_id (by omega) (by omega)
      refine Ok.bind (SpanOf_ok _ (by decide) (by decide) (by decide)) fun x hx => Ok.chk (fitA_ok (by simp; omega) (by decide)) ?_
      rw [e1]
      refine hk ((u1, u2, u3, i + 1, u4), ((_, u5), _, u6)) ⟨by simp only; omega, by simp only; omega, _, rfl, by simp only; simp; omega, fun y hy => ?_⟩ (by simp only; omega)
      rcases List.mem_append.1 hy with hy | hy
      · exact i4 y hy
      · rw [List.mem_singleton.1 hy]; exact hx.wide (by decide) (by decide)
    · have hi := of_decide_eq_false hc
      refine Ok.some ⟨by simp only; omega, ht.wide (by decide) (by decide), by simp only; omega, by simp only; omega, by simp only; omega, ?_⟩
      simp only
      rw [if_neg (by omega)]
      exact ⟨by omega, i4⟩
  · refine Ok.some ⟨by simp only; omega, ht.wide (by decide) (by decide), by simp only; omega, by simp only; omega, by simp only; omega, ?_⟩
    simp only [if_true]
    exact ⟨rfl, fun x hx => by cases hx⟩
theorem getD_snoc {α : Type} {l : List α} {c d : α} {i : Nat} : (l ++ [c]).getD i d = if i < l.length then l.getD i d else if i = l.length then c else d := by
  by_cases h : i < l.length
  · rw [if_pos h, List.getD_eq_getElem?_getD, List.getElem?_append_left h, ← List.getD_eq_getElem?_getD]
  · rw [if_neg h, List.getD_eq_getElem?_getD, List.getElem?_append_right (by omega)]
    by_cases h2 : i = l.length
    · rw [if_pos h2, h2]; simp
    · rw [if_neg h2, List.getElem?_eq_none (by simp; omega)]; rfl
/-- Chills that are being made: the next one's warmth and minutes. -/
structure ChillP (l : List Chill) (wm : Int) (live : Span) : Prop where
  len : l.length ≤ 20
  warm : ∀ i, i < l.length → -400 ≤ (l.getD i dfltChill).Warm ∧ (l.getD i dfltChill).Warm ≤ 400
  head : 0 < l.length → (l.getD 0 dfltChill).Warm = -400
  up : ∀ i, 0 < i → i < l.length → (l.getD (i - 1) dfltChill).Warm < (l.getD i dfltChill).Warm
  min : ∀ i, i < l.length → SpIn (l.getD i dfltChill).Minutes 0 5000
  upm : ∀ i, 0 < i → i < l.length → (l.getD (i - 1) dfltChill).Minutes.Lo ≤ (l.getD i dfltChill).Minutes.Lo ∧ (l.getD (i - 1) dfltChill).Minutes.Hi ≤ (l.getD i dfltChill).Minutes.Hi
  last : 0 < l.length → (l.getD (l.length - 1) dfltChill).Warm < wm ∧ (l.getD (l.length - 1) dfltChill).Minutes.Lo ≤ live.Lo ∧ (l.getD (l.length - 1) dfltChill).Minutes.Hi ≤ live.Hi
  next0 : l.length = 0 → wm = -400
theorem ChillP.snoc {l : List Chill} {warm w2 : Int} {live l2 : Span} (h : ChillP l warm live) (h1 : l.length < 20) (hw : -400 ≤ warm ∧ warm ≤ 400) (hl : SpIn live 0 5000) (hw2 : warm < w2) (hl2 : live.Lo ≤ l2.Lo ∧ live.Hi ≤ l2.Hi) : ChillP (l ++ [⟨warm, live⟩]) w2 l2 := by
  obtain ⟨a1, a2, a3, a4, a5, a6, a7, a8⟩ := h
  have lt : ∀ i, i < (l ++ [(⟨warm, live⟩ : Chill)]).length → i < l.length ∨ i = l.length := fun i hi => by simp at hi; omega
  have g1 : ∀ i, i < l.length → (l ++ [(⟨warm, live⟩ : Chill)]).getD i dfltChill = l.getD i dfltChill := fun i hi => by rw [getD_snoc, if_pos hi]
  have g2 : (l ++ [(⟨warm, live⟩ : Chill)]).getD l.length dfltChill = ⟨warm, live⟩ := by rw [getD_snoc, if_neg (by omega), if_pos rfl]
  refine ⟨by simp; omega, fun i hi => ?_, fun _ => ?_, fun i h0 hi => ?_, fun i hi => ?_, fun i h0 hi => ?_, fun _ => ?_, fun h => by simp at h⟩
  · rcases lt i hi with h | rfl
    · rw [g1 i h]; exact a2 i h
    · rw [g2]; exact hw
  · by_cases hz : 0 < l.length
    · rw [g1 0 hz]; exact a3 hz
    · have : l.length = 0 := by omega
      rw [show (0:Nat) = l.length by omega, g2]; exact a8 this
  · rcases lt i hi with h | rfl
    · rw [g1 i h, g1 _ (by omega)]; exact a4 i h0 h
    · rw [g2, g1 _ (by omega)]; exact (a7 h0).1
  · rcases lt i hi with h | rfl
    · rw [g1 i h]; exact a5 i h
    · rw [g2]; exact hl
  · rcases lt i hi with h | rfl
    · rw [g1 i h, g1 _ (by omega)]; exact a6 i h0 h
    · rw [g2, g1 _ (by omega)]; exact (a7 h0).2
  · have : (l ++ [(⟨warm, live⟩ : Chill)]).length - 1 = l.length := by simp
    rw [this, g2]
    exact ⟨hw2, hl2⟩
abbrev VQ3 := (Unit × Unit × Unit × Int × Unit) × ((Int × Unit) × (Int × (List Path) × Unit × Unit × Unit × Unit) × Unit)
abbrev VQ7 := (Unit × Unit × Unit × Int × Unit) × ((Int × Unit) × (Int × Unit × (List Post) × Unit × Unit × Unit) × Unit)
abbrev VQ11 := (Unit × Unit × Unit × Int × Unit) × ((Int × Unit) × (Int × Unit × Unit × (List Span) × Unit × Unit) × Unit)
abbrev VQ16 := (Unit × Unit × Unit × Int × Unit × Int × Unit) × ((Int × Unit) × (Int × Unit × Unit × Unit × (List Chill) × Unit) × (Int × Int × Unit) × Unit)
def Made (spots posts : Int) (r : Rescue) : Prop := RV r ∧ r.Spots ≤ spots ∧ (r.Posts.length : Int) ≤ posts ∧ r.Paths.length ≤ 100
theorem RescueOf_posts {spots posts n : Int} (h1 : 1 ≤ n ∧ n ≤ spots) (hs : spots ≤ 20) (hp : 0 ≤ posts ∧ posts ≤ 11) {paths : List Path} (hl : paths.length ≤ 100) (hpa : ∀ p ∈ paths, PathV n p) (w : Int) :
    Ok (fun r => Made spots posts r.2) ((Below (⟨w⟩ : Seed) (w64 (posts + 1))).bind fun r4 =>
      itN _ (fun (v_0 : VQ7) kn => RescueOf_L7 itN paths v_0.1.2.2.2.1 v_0.2.1.1 v_0.2.2.1.1 v_0.2.2.1.2.2.1 (fun y0 y1 y2 y3 => kn (((), (), (), y0, ()), ((y1, ()), (y2, (), y3, (), (), ()), ())))) (((), (), (), r4.2, ()), ((r4.1.word, ()), (n, (), [], (), (), ()), ()))) := by
  have ep : w64 (posts + 1) = posts + 1 := w64_id (by omega) (by omega)
  rw [ep]
  refine Ok.bind (Below_ok _ (by omega)) fun b hb => ?_
  refine Ok.rounds (fun (v : VQ7) => 0 ≤ v.1.2.2.2.1 ∧ v.2.2.1.1 = n ∧ (v.2.2.1.2.2.1.length : Int) + v.1.2.2.2.1 ≤ posts ∧ ∀ p ∈ v.2.2.1.2.2.1, PostV n p) (fun (v : VQ7) => v.1.2.2.2.1.toNat) (FUEL_big (by show b.2.toNat ≤ _; omega)) ⟨by simp only; omega, rfl, by simp; omega, fun p hp => by cases hp⟩ ?_
  rintro ⟨⟨u1, u2, u3, i, u4⟩, ⟨⟨w2, u5⟩, ⟨n2, u6, ps, u7, u8, u9⟩, u10⟩⟩ kn ⟨i0, i1, i2, i3⟩ hk
  simp only at i0 i1 i2 i3 hk ⊢
  subst i1
  unfold RescueOf_L7
  refine Ok.ite (fun hc => ?_) fun hc => ?_
  · have hi := of_decide_eq_true hc
    have e1 : w64 (i - 1) = i - 1 := w64_id (by omega) (by omega)
    refine Ok.bind (PostOf_ok _ h1.1 (by omega)) fun q hq => Ok.chk (fitA_ok (by simp; omega) (by decide)) ?_
    rw [e1]
    refine hk ((u1, u2, u3, i - 1, u4), ((_, u5), (n2, u6, _, u7, u8, u9), u10)) ⟨by simp only; omega, rfl, by simp; omega, fun p hp => ?_⟩ (by simp only; omega)
    rcases List.mem_append.1 hp with hp | hp
    · exact i3 p hp
    · rw [List.mem_singleton.1 hp]; exact hq
  · have hi := of_decide_eq_false hc
    have hi0 : i = 0 := by omega
    subst hi0
    refine Ok.rounds (fun (v : VQ11) => 0 ≤ v.1.2.2.2.1 ∧ v.1.2.2.2.1 ≤ n2 ∧ v.2.2.1.1 = n2 ∧ (v.2.2.1.2.2.2.1.length : Int) = v.1.2.2.2.1 ∧ ∀ x ∈ v.2.2.1.2.2.2.1, SpIn x (-20) 60) (fun (v : VQ11) => (n2 - v.1.2.2.2.1).toNat) (FUEL_big (by show (n2 - 0).toNat ≤ _; omega)) ⟨Int.le_refl _, by simp only; omega, rfl, rfl, fun x hx => by cases hx⟩ ?_
    rintro ⟨⟨v1, v2, v3, j, v4⟩, ⟨⟨w3, v5⟩, ⟨n3, v6, v7, ws, v8, v9⟩, v10⟩⟩ kn2 ⟨j0, j1, j2, j3, j4⟩ hk2
    simp only at j0 j1 j2 j3 j4 hk2 ⊢
    subst j2
    unfold RescueOf_L11
    refine Ok.ite (fun hc => ?_) fun hc => ?_
    · have hj := of_decide_eq_true hc
      have e1 : w64 (j + 1) = j + 1 := w64_id (by omega) (by omega)
      refine Ok.bind (Of_ok _ (by simp) (by simp)) fun a ha => ?_
      simp only [List.mem_cons, List.not_mem_nil, or_false] at ha
      refine Ok.bind (SpanOf_ok _ (by decide) (by omega) (by omega)) fun x hx => Ok.chk (fitA_ok (by simp; omega) (by decide)) ?_
      rw [e1]
      refine hk2 ((v1, v2, v3, j + 1, v4), ((_, v5), (n3, v6, v7, _, v8, v9), v10)) ⟨by simp only; omega, by simp only; omega, rfl, by simp; omega, fun y hy => ?_⟩ (by simp only; omega)
      rcases List.mem_append.1 hy with hy | hy
      · exact j4 y hy
      · rw [List.mem_singleton.1 hy]; exact hx.wide (by decide) (by omega)
    · have hj := of_decide_eq_false hc
      have hwater : SpsIn ws n3 (-400) 400 := ⟨by omega, fun x hx => (j4 x hx).wide (by decide) (by decide)⟩
      refine Ok.bind (SpanOf_ok _ (by decide) (by decide) (by decide)) fun lv hlv => Ok.bind (From_ok _ (by decide) (by decide) (by decide)) fun c hc => ?_
      refine Ok.rounds (fun (v : VQ16) => 0 ≤ v.1.2.2.2.2.2.1 ∧ v.2.2.1.1 = n3 ∧ (v.2.2.1.2.2.2.2.1.length : Int) + v.1.2.2.2.2.2.1 ≤ 4 ∧ 1 ≤ (v.2.2.1.2.2.2.2.1.length : Int) + v.1.2.2.2.2.2.1 ∧ ChillP v.2.2.1.2.2.2.2.1 v.1.2.2.2.1 ⟨v.2.2.2.1.1, v.2.2.2.1.2.1⟩ ∧ -400 ≤ v.1.2.2.2.1 ∧ v.1.2.2.2.1 ≤ -30 + 30 * (v.2.2.1.2.2.2.2.1.length : Int) ∧ SpIn ⟨v.2.2.2.1.1, v.2.2.2.1.2.1⟩ 0 (20 + 40 * (v.2.2.1.2.2.2.2.1.length : Int))) (fun (v : VQ16) => v.1.2.2.2.2.2.1.toNat) (FUEL_big (by show c.2.toNat ≤ _; omega)) ⟨by simp only; omega, rfl, by simp only [List.length_nil]; omega, by simp only [List.length_nil]; omega, ⟨by simp, fun i hi => by simp at hi, fun h => by simp at h, fun i _ hi => by simp at hi, fun i hi => by simp at hi, fun i _ hi => by simp at hi, fun h => by simp at h, fun _ => rfl⟩, Int.le_refl _, by simp, hlv.wide (by decide) (by simp)⟩ ?_
      rintro ⟨⟨x1, x2, x3, warm, x4, q, x5⟩, ⟨⟨w4, x6⟩, ⟨n4, x7, x8, x9, cs, x10⟩, ⟨lo, hi, x11⟩, x12⟩⟩ kn3 ⟨q0, q1, q2, q3, q4, q5, q6, q7⟩ hk3
      simp only at q0 q1 q2 q3 q4 q5 q6 q7 hk3 ⊢
      subst q1
      unfold RescueOf_L16
      refine Ok.ite (fun hc => ?_) fun hc => ?_
      · have hq := of_decide_eq_true hc
        obtain ⟨z1, z2, z3⟩ := q7
        simp only at z1 z2 z3
        refine Ok.chk (fitA_ok (by simp; omega) (by decide)) (Ok.bind (From_ok _ (by decide) (by decide) (by decide)) fun d1 hd1 => Ok.bind (Below_ok _ (by decide)) fun d2 hd2 => Ok.bind (Below_ok _ (by decide)) fun d3 hd3 => ?_)
        rw [w64_id (n := max (-30) warm + d1.2) (by omega) (by omega), w64_id (n := q - 1) (by omega) (by omega), w64_id (n := lo + d2.2) (by omega) (by omega), w64_id (n := hi + 20) (by omega) (by omega), w64_id (n := hi + 20 + d3.2) (by omega) (by omega)]
        refine hk3 ((x1, x2, x3, _, x4, q - 1, x5), ((_, x6), (n4, x7, x8, x9, _, x10), (_, _, x11), x12)) ⟨by simp only; omega, rfl, by simp; omega, by simp; omega, q4.snoc (by omega) ⟨q5, by omega⟩ ⟨z1, z2, by simp only; omega⟩ (show warm < max (-30) warm + d1.2 by omega) ⟨by simp only; omega, by simp only; omega⟩, by simp only; omega, by simp only [List.length_append, List.length_singleton]; omega, by simp only; omega, by simp only; omega, by simp only [List.length_append, List.length_singleton]; omega⟩ (by simp only; omega)
      · have hq := of_decide_eq_false hc
        obtain ⟨a1, a2, a3, a4, a5, a6, a7, a8⟩ := q4
        exact Ok.some ⟨⟨⟨h1.1, by simp only; omega⟩, by simp only; omega, hpa, by simp only; omega, i3, hwater, ⟨⟨by simp only; omega, by simp only; omega⟩, a2, a3 (by omega), a4, a5, a6⟩⟩, h1.2, by simp only; omega, hl⟩
theorem RescueOf_ok (s : Seed) {spots posts : Int} (h1 : 1 ≤ spots) (h2 : spots ≤ 20) (hp : 0 ≤ posts ∧ posts ≤ 11) : Ok (fun r => Made spots posts r.2) (RescueOf s spots posts) := by
  rw [RescueOf_eq]; unfold RescueOf'
  refine Ok.bind (From_ok s (by decide) h1 (by omega)) fun a ha => ?_
  have e3 : w64 (3 * a.2) = 3 * a.2 := w64_id (by omega) (by omega)
  rw [e3]
  refine Ok.bind (Below_ok _ (by omega)) fun b hb => ?_
  refine Ok.rounds (fun (v : VQ3) => 0 ≤ v.1.2.2.2.1 ∧ v.2.2.1.1 = a.2 ∧ (v.2.2.1.2.1.length : Int) + v.1.2.2.2.1 ≤ 60 ∧ (∀ p ∈ v.2.2.1.2.1, PathV a.2 p)) (fun (v : VQ3) => v.1.2.2.2.1.toNat) (FUEL_big (by show b.2.toNat ≤ _; omega)) ⟨by simp only; omega, rfl, by simp; omega, fun p hp => by cases hp⟩ ?_
  rintro ⟨⟨u1, u2, u3, i, u4⟩, ⟨⟨w2, u5⟩, ⟨n2, ps, u6, u7, u8, u9⟩, u10⟩⟩ kn ⟨i0, i1, i2, i3⟩ hk
  simp only at i0 i1 i2 i3 hk ⊢
  subst i1
  unfold RescueOf_L3
  refine Ok.ite (fun hc => ?_) fun hc => ?_
  · have hi := of_decide_eq_true hc
    refine Ok.ite (fun hn => ?_) fun hn => ?_
    · have hn := of_decide_eq_true hn
      have e1 : w64 (i - 1) = i - 1 := w64_id (by omega) (by omega)
      refine Ok.bind (PathOf_ok _ (by omega) (by omega)) fun q hq => Ok.chk (fitA_ok (by simp; omega) (by decide)) ?_
      rw [e1]
      refine hk ((u1, u2, u3, i - 1, u4), ((_, u5), (_, _, u6, u7, u8, u9), u10)) ⟨by simp only; omega, rfl, by simp; omega, fun p hp => ?_⟩ (by simp only; omega)
      rcases List.mem_append.1 hp with hp | hp
      · exact i3 p hp
      · rw [List.mem_singleton.1 hp]; exact hq
    · exact RescueOf_posts ha h2 hp (by omega) i3 w2
  · exact RescueOf_posts ha h2 hp (by omega) i3 w2
end Go.Proofs.Rescue07


/- The rescue, part 2: laws. Written out by gen2.py (ours). -/
namespace Go.Proofs.Rescue07
open Go Go.Ab
open Go.Proofs.Ytoklcjdahicjmaa (iseat)
set_option linter.all false
set_option maxRecDepth 100000
noncomputable section
def big_L2 (r : Rescue) (i : Int) (kn_ : Int → Option Bool) : Option Bool :=
  bif (decide (i < (r.Posts.length : Int))) then
    chk (decide (0 ≤ i) && decide (i < (r.Posts.length : Int))) <|
    bif (decide ((((r.Posts.getD i.toNat dfltPost).Air).length : Int) > 60)) then
      some true
    else
      kn_ (w64 (i + 1))
  else
    bif (decide ((r.Paths.length : Int) > 130)) then
      some true
    else
      bif (decide ((r.Posts.length : Int) > 20)) then
        some true
      else
        bif (decide ((r.Water.length : Int) > 60)) then
          some true
        else
          some (decide ((r.Chills.length : Int) > 40))
def big' (it : It Bool) (r : Rescue) : Option Bool :=
  it _ (fun (v_0 : (Unit × Int × Unit) × (Unit)) kn => big_L2 r v_0.1.2.1 (fun y0 => kn (((), y0, ()), (())))) (((), 0, ()), (()))
def big : Rescue → Option Bool := opq (fun r => big' itN r)
theorem big_eq (r : Rescue) : big r = big' itN r := by unfold big; rw [opq_eq]
def E16 : FEnv iseat := ⟨⟨41, [], [], [], [], [], [], [], [], [], [], true⟩, [(2, ⟨⟨[(1, .bx 1 0), (3, .v (.int .i64))], []⟩, [], [1], []⟩)]⟩
theorem e16 (it : It Bool) (r : Rescue) : fnRun (ts := [.bool]) it E16 (bodyOf Try.f16) Try.f16.results.toList (encA [.Rescue] (r, ())) = big' it r := by kernel_rfl
def sp16 : FnSpec iseat.toSeat := mkSpec iseat.toSeat 16 [.Rescue] [.bool] true (fun a => big a.1) (fun a x hx h h' => fn_contract (Z := iseat) (ats := [.Rescue]) (ts := [.bool]) (E := E16) (fn := Try.f16) (c := bodyOf Try.f16) Try.func16 (by kernel_rfl) (by kernel_rfl) (by kernel_rfl) (by kernel_rfl) rfl ((e16 itN a.1).trans ((big_eq a.1).symm.trans hx)) h h') (fun _ x => rfl)
def Own' (it : It (List Int)) (l : List Int) : Option (List Int) :=
  chk (fitA (([] : List Int).length + l.length) 8) <|
  some (([] : List Int) ++ l)
def Own : (List Int) → Option (List Int) := opq (fun l => Own' itN l)
def Listed_L2 (l : List Int) (n : Int) (i : Int) (kn_ : Int → Option Bool) : Option Bool :=
  bif (decide (i < (l.length : Int))) then
    chk (decide (0 ≤ i) && decide (i < (l.length : Int))) <|
    bif ((l.getD i.toNat 0) == n) then
      some true
    else
      kn_ (w64 (i + 1))
  else
    some false
def Listed' (it : It Bool) (l : List Int) (n : Int) : Option Bool :=
  it _ (fun (v_0 : (Int × Unit) × (Unit)) kn => Listed_L2 l n v_0.1.1 (fun y0 => kn ((y0, ()), (())))) ((0, ()), (()))
def Listed : (List Int) → Int → Option Bool := opq (fun l n => Listed' itN l n)
theorem Listed_eq (l : List Int) (n : Int) : Listed l n = Listed' itN l n := by unfold Listed; rw [opq_eq]
def E36 : FEnv iseat := ⟨⟨18, [], [], [], [], [], [], [], [], [], [], true⟩, [(2, ⟨⟨[(5, .v (.int .i64))], []⟩, [0, 1], [], []⟩)]⟩
theorem e36 (it : It Bool) (l : List Int) (n : Int) : fnRun (ts := [.bool]) it E36 (bodyOf Try.f36) Try.f36.results.toList (encA [.sl (.int .i64), .int .i64] (l, n, ())) = Listed' it l n := by kernel_rfl
def sp36 : FnSpec iseat.toSeat := mkSpec iseat.toSeat 36 [.sl (.int .i64), .int .i64] [.bool] true (fun a => Listed a.1 a.2.1) (fun a x hx h h' => fn_contract (Z := iseat) (ats := [.sl (.int .i64), .int .i64]) (ts := [.bool]) (E := E36) (fn := Try.f36) (c := bodyOf Try.f36) Try.func36 (by kernel_rfl) (by kernel_rfl) (by kernel_rfl) (by kernel_rfl) rfl ((e36 itN a.1 a.2.1).trans ((Listed_eq a.1 a.2.1).symm.trans hx)) h h') (fun _ x => rfl)
def saves' (it : It Bool) (r : Rescue) (live : List Span) (times : List (List Span)) (minute : Int) (post : Int) (spot : Int) : Option Bool :=
  chk (decide (0 ≤ post) && decide (post < (r.Posts.length : Int))) <|
  (Manned (r.Posts.getD post.toNat dfltPost) minute).bind fun r2 =>
  bif r2 then
    chk (decide (0 ≤ post) && decide (post < (times.length : Int))) <|
    chk (decide (0 ≤ spot) && decide (spot < ((times.getD post.toNat []).length : Int))) <|
    chk (decide (0 ≤ spot) && decide (spot < (live.length : Int))) <|
    some (decide (((times.getD post.toNat []).getD spot.toNat dfltSpan).Hi ≤ (live.getD spot.toNat dfltSpan).Lo))
  else
    some false
def saves : Rescue → (List Span) → (List (List Span)) → Int → Int → Int → Option Bool := opq (fun r live times minute post spot => saves' itN r live times minute post spot)
theorem saves_eq (r : Rescue) (live : List Span) (times : List (List Span)) (minute : Int) (post : Int) (spot : Int) : saves r live times minute post spot = saves' itN r live times minute post spot := by unfold saves; rw [opq_eq]
def E37 : FEnv iseat := ⟨⟨36, [sp47], [], [], [], [], [], [], [], [], [], true⟩, []⟩
theorem e37 (it : It Bool) (r : Rescue) (live : List Span) (times : List (List Span)) (minute : Int) (post : Int) (spot : Int) : fnRun (ts := [.bool]) it E37 (bodyOf Try.f37) Try.f37.results.toList (encA [.Rescue, .sl .Span, .sl (.sl .Span), .int .i64, .int .i64, .int .i64] (r, live, times, minute, post, spot, ())) = saves' it r live times minute post spot := by kernel_rfl
def sp37 : FnSpec iseat.toSeat := mkSpec iseat.toSeat 37 [.Rescue, .sl .Span, .sl (.sl .Span), .int .i64, .int .i64, .int .i64] [.bool] true (fun a => saves a.1 a.2.1 a.2.2.1 a.2.2.2.1 a.2.2.2.2.1 a.2.2.2.2.2.1) (fun a x hx h h' => fn_contract (Z := iseat) (ats := [.Rescue, .sl .Span, .sl (.sl .Span), .int .i64, .int .i64, .int .i64]) (ts := [.bool]) (E := E37) (fn := Try.f37) (c := bodyOf Try.f37) Try.func37 (by kernel_rfl) (by kernel_rfl) (by kernel_rfl) (by kernel_rfl) rfl ((e37 itN a.1 a.2.1 a.2.2.1 a.2.2.2.1 a.2.2.2.2.1 a.2.2.2.2.2.1).trans ((saves_eq a.1 a.2.1 a.2.2.1 a.2.2.2.1 a.2.2.2.2.1 a.2.2.2.2.2.1).symm.trans hx)) h h') (fun _ x => rfl)
def Wrap' (it : It Int) (x : Int) (n : Int) : Option Int :=
  bif (decide (n < 2)) then
    some 0
  else
    chk (n != 0) <|
    chk (n != 0) <|
    some ((w64 ((x.tmod n) + n)).tmod n)
def Wrap : Int → Int → Option Int := opq (fun x n => Wrap' itN x n)
theorem Wrap_eq (x : Int) (n : Int) : Wrap x n = Wrap' itN x n := by unfold Wrap; rw [opq_eq]
def E38 : FEnv iseat := ⟨⟨14, [], [], [], [], [], [], [], [], [], [], true⟩, []⟩
theorem e38 (it : It Int) (x : Int) (n : Int) : fnRun (ts := [.int .i64]) it E38 (bodyOf Try.f38) Try.f38.results.toList (encA [.int .i64, .int .i64] (x, n, ())) = Wrap' it x n := by kernel_rfl
def sp38 : FnSpec iseat.toSeat := mkSpec iseat.toSeat 38 [.int .i64, .int .i64] [.int .i64] true (fun a => Wrap a.1 a.2.1) (fun a x hx h h' => fn_contract (Z := iseat) (ats := [.int .i64, .int .i64]) (ts := [.int .i64]) (E := E38) (fn := Try.f38) (c := bodyOf Try.f38) Try.func38 (by kernel_rfl) (by kernel_rfl) (by kernel_rfl) (by kernel_rfl) rfl ((e38 itN a.1 a.2.1).trans ((Wrap_eq a.1 a.2.1).symm.trans hx)) h h') (fun _ x => rfl)
def RescueCalls_L36 (calls : List Int) (r2 : (Seed × Rescue)) (r7 : ((List Span) × Int)) (times : List (List Span)) (r3 : (Seed × Int)) (r6 : ((List Int) × Int × Int)) (kn_4 : Int → Int → Option Bool) (round : Int) (used : List Int) (i4 : Int) (x30_word3 : Int) (kn_5 : (List Int) → Int → Int → Option Bool) : Option Bool :=
  bif (decide (i4 < (calls.length : Int))) then
    (Below (⟨x30_word3⟩ : Seed) (r2.2.Posts.length : Int)).bind fun r11 =>
    (Listed used r11.2).bind fun r12 =>
    bif (!r12) then
      chk (decide (0 ≤ i4) && decide (i4 < (calls.length : Int))) <|
      (saves r2.2 r7.1 times r3.2 r11.2 (calls.getD i4.toNat 0)).bind fun r13 =>
      bif r13 then
        chk (fitA (used.length + [r11.2].length) 8) <|
        kn_5 (used ++ [r11.2]) (w64 (i4 + 1)) r11.1.word
      else
        kn_5 used (w64 (i4 + 1)) r11.1.word
    else
      kn_5 used (w64 (i4 + 1)) r11.1.word
  else
    bif (decide ((used.length : Int) > r6.2.1)) then
      some false
    else
      kn_4 (w64 (round + 1)) x30_word3
def RescueCalls_L48 (r2 : (Seed × Rescue)) (i5 : Int) (r6 : ((List Int) × Int × Int)) (calls : List Int) (r7 : ((List Span) × Int)) (times : List (List Span)) (r3 : (Seed × Int)) (kn_6 : Int → Option Bool) (any : Bool) (p : Int) (kn_7 : Bool → Int → Option Bool) : Option Bool :=
  bif (decide (p < (r2.2.Posts.length : Int))) then
    bif any then
      chk (decide (0 ≤ i5) && decide (i5 < (r6.1.length : Int))) <|
      bif ((r6.1.getD i5.toNat 0) == (-1)) then
        (Listed r6.1 p).bind fun r14 =>
        bif (!r14) then
          chk (decide (0 ≤ i5) && decide (i5 < (calls.length : Int))) <|
          (saves r2.2 r7.1 times r3.2 p (calls.getD i5.toNat 0)).bind fun r15 =>
          bif r15 then
            some false
          else
            kn_7 true (w64 (p + 1))
        else
          kn_7 true (w64 (p + 1))
      else
        kn_7 true (w64 (p + 1))
    else
      chk (decide (0 ≤ i5) && decide (i5 < (calls.length : Int))) <|
      (saves r2.2 r7.1 times r3.2 p (calls.getD i5.toNat 0)).bind fun r16 =>
      chk (decide (0 ≤ i5) && decide (i5 < (r6.1.length : Int))) <|
      bif ((r6.1.getD i5.toNat 0) == (-1)) then
        (Listed r6.1 p).bind fun r17 =>
        bif (!r17) then
          chk (decide (0 ≤ i5) && decide (i5 < (calls.length : Int))) <|
          (saves r2.2 r7.1 times r3.2 p (calls.getD i5.toNat 0)).bind fun r18 =>
          bif r18 then
            some false
          else
            kn_7 r16 (w64 (p + 1))
        else
          kn_7 r16 (w64 (p + 1))
      else
        kn_7 r16 (w64 (p + 1))
  else
    chk (decide (0 ≤ i5) && decide (i5 ≤ (w64 (i5 + 1))) && decide ((w64 (i5 + 1)) ≤ (calls.length : Int))) <|
    (pSend r2.2 r3.2 (subL calls i5 (w64 (i5 + 1)))).bind fun r19 =>
    bif (r19.2.2 != 0) then
      some false
    else
      bif (!((r19.2.1 == 1) == any)) then
        some false
      else
        bif (decide (r19.2.1 > 1)) then
          some false
        else
          kn_6 (w64 (i5 + 1))
def RescueCalls_L44 (it : It Bool) (calls : List Int) (r2 : (Seed × Rescue)) (r6 : ((List Int) × Int × Int)) (r7 : ((List Span) × Int)) (times : List (List Span)) (r3 : (Seed × Int)) (i5 : Int) (kn_6 : Int → Option Bool) : Option Bool :=
  bif (decide (i5 < (calls.length : Int))) then
    it _ (fun (v_0 : (Unit × Unit × Bool × Int × Unit) × (Unit)) kn => RescueCalls_L48 r2 i5 r6 calls r7 times r3 kn_6 v_0.1.2.2.1 v_0.1.2.2.2.1 (fun y0 y1 => kn (((), (), y0, y1, ()), (())))) (((), (), false, 0, ()), (()))
  else
    (awake).bind fun r20 =>
    some r20
def RescueCalls_L48__2 (r2 : (Seed × Rescue)) (i6 : Int) (r6 : ((List Int) × Int × Int)) (calls : List Int) (r7 : ((List Span) × Int)) (times : List (List Span)) (r3 : (Seed × Int)) (kn_8 : Int → Option Bool) (any2 : Bool) (p2 : Int) (kn_9 : Bool → Int → Option Bool) : Option Bool :=
  bif (decide (p2 < (r2.2.Posts.length : Int))) then
    bif any2 then
      chk (decide (0 ≤ i6) && decide (i6 < (r6.1.length : Int))) <|
      bif ((r6.1.getD i6.toNat 0) == (-1)) then
        (Listed r6.1 p2).bind fun r21 =>
        bif (!r21) then
          chk (decide (0 ≤ i6) && decide (i6 < (calls.length : Int))) <|
          (saves r2.2 r7.1 times r3.2 p2 (calls.getD i6.toNat 0)).bind fun r22 =>
          bif r22 then
            some false
          else
            kn_9 true (w64 (p2 + 1))
        else
          kn_9 true (w64 (p2 + 1))
      else
        kn_9 true (w64 (p2 + 1))
    else
      chk (decide (0 ≤ i6) && decide (i6 < (calls.length : Int))) <|
      (saves r2.2 r7.1 times r3.2 p2 (calls.getD i6.toNat 0)).bind fun r23 =>
      chk (decide (0 ≤ i6) && decide (i6 < (r6.1.length : Int))) <|
      bif ((r6.1.getD i6.toNat 0) == (-1)) then
        (Listed r6.1 p2).bind fun r24 =>
        bif (!r24) then
          chk (decide (0 ≤ i6) && decide (i6 < (calls.length : Int))) <|
          (saves r2.2 r7.1 times r3.2 p2 (calls.getD i6.toNat 0)).bind fun r25 =>
          bif r25 then
            some false
          else
            kn_9 r23 (w64 (p2 + 1))
        else
          kn_9 r23 (w64 (p2 + 1))
      else
        kn_9 r23 (w64 (p2 + 1))
  else
    chk (decide (0 ≤ i6) && decide (i6 ≤ (w64 (i6 + 1))) && decide ((w64 (i6 + 1)) ≤ (calls.length : Int))) <|
    (pSend r2.2 r3.2 (subL calls i6 (w64 (i6 + 1)))).bind fun r26 =>
    bif (r26.2.2 != 0) then
      some false
    else
      bif (!((r26.2.1 == 1) == any2)) then
        some false
      else
        bif (decide (r26.2.1 > 1)) then
          some false
        else
          kn_8 (w64 (i6 + 1))
def RescueCalls_L44__2 (it : It Bool) (calls : List Int) (r2 : (Seed × Rescue)) (r6 : ((List Int) × Int × Int)) (r7 : ((List Span) × Int)) (times : List (List Span)) (r3 : (Seed × Int)) (i6 : Int) (kn_8 : Int → Option Bool) : Option Bool :=
  bif (decide (i6 < (calls.length : Int))) then
    it _ (fun (v_0 : (Unit × Unit × Bool × Int × Unit) × (Unit)) kn => RescueCalls_L48__2 r2 i6 r6 calls r7 times r3 kn_8 v_0.1.2.2.1 v_0.1.2.2.2.1 (fun y0 y1 => kn (((), (), y0, y1, ()), (())))) (((), (), false, 0, ()), (()))
  else
    (awake).bind fun r27 =>
    some r27
def RescueCalls_L32 (it : It Bool) (r2 : (Seed × Rescue)) (calls : List Int) (r7 : ((List Span) × Int)) (times : List (List Span)) (r3 : (Seed × Int)) (r6 : ((List Int) × Int × Int)) (round : Int) (x30_word2 : Int) (kn_4 : Int → Int → Option Bool) : Option Bool :=
  bif (decide (round < 10)) then
    bif (decide ((r2.2.Posts.length : Int) > 0)) then
      it _ (fun (v_0 : (Unit × Unit × Unit × (List Int) × Int × Unit) × ((Int × Unit) × Unit)) kn => RescueCalls_L36 calls r2 r7 times r3 r6 kn_4 round v_0.1.2.2.2.1 v_0.1.2.2.2.2.1 v_0.2.1.1 (fun y0 y1 y2 => kn (((), (), (), y0, y1, ()), ((y2, ()), ())))) (((), (), (), ([] : List Int), 0, ()), ((x30_word2, ()), ()))
    else
      it _ (fun (v_0 : (Unit × Unit × Int × Unit) × (Unit)) kn => RescueCalls_L44 it calls r2 r6 r7 times r3 v_0.1.2.2.1 (fun y0 => kn (((), (), y0, ()), (())))) (((), (), 0, ()), (()))
  else
    it _ (fun (v_0 : (Unit × Unit × Int × Unit) × (Unit)) kn => RescueCalls_L44__2 it calls r2 r6 r7 times r3 v_0.1.2.2.1 (fun y0 => kn (((), (), y0, ()), (())))) (((), (), 0, ()), (()))
def RescueCalls_L23 (it : It Bool) (r6 : ((List Int) × Int × Int)) (r2 : (Seed × Rescue)) (calls : List Int) (r7 : ((List Span) × Int)) (times : List (List Span)) (r3 : (Seed × Int)) (x30_word : Int) (saved : Int) (i3 : Int) (kn_3 : Int → Int → Option Bool) : Option Bool :=
  bif (decide (i3 < (r6.1.length : Int))) then
    chk (decide (0 ≤ i3) && decide (i3 < (r6.1.length : Int))) <|
    bif ((r6.1.getD i3.toNat 0) == (-1)) then
      kn_3 saved (w64 (i3 + 1))
    else
      chk (decide (0 ≤ i3) && decide (i3 < (r6.1.length : Int))) <|
      bif (decide ((r6.1.getD i3.toNat 0) < 0)) then
        some false
      else
        chk (decide (0 ≤ i3) && decide (i3 < (r6.1.length : Int))) <|
        bif (decide ((r6.1.getD i3.toNat 0) ≥ (r2.2.Posts.length : Int))) then
          some false
        else
          chk (decide (0 ≤ 0) && decide (0 ≤ i3) && decide (i3 ≤ (r6.1.length : Int))) <|
          chk (decide (0 ≤ i3) && decide (i3 < (r6.1.length : Int))) <|
          (Listed (subL r6.1 0 i3) (r6.1.getD i3.toNat 0)).bind fun r9 =>
          bif r9 then
            some false
          else
            chk (decide (0 ≤ i3) && decide (i3 < (r6.1.length : Int))) <|
            chk (decide (0 ≤ i3) && decide (i3 < (calls.length : Int))) <|
            (saves r2.2 r7.1 times r3.2 (r6.1.getD i3.toNat 0) (calls.getD i3.toNat 0)).bind fun r10 =>
            bif (!r10) then
              some false
            else
              kn_3 (w64 (saved + 1)) (w64 (i3 + 1))
  else
    bif (saved != r6.2.1) then
      some false
    else
      it _ (fun (v_0 : (Unit × Unit × Unit × Int × Unit) × ((Int × Unit) × Unit)) kn => RescueCalls_L32 it r2 calls r7 times r3 r6 v_0.1.2.2.2.1 v_0.2.1.1 (fun y0 y1 => kn (((), (), (), y0, ()), ((y1, ()), ())))) (((), (), (), 0, ()), ((x30_word, ()), ()))
def RescueCalls_L15 (it : It Bool) (r2 : (Seed × Rescue)) (r6 : ((List Int) × Int × Int)) (calls : List Int) (r7 : ((List Span) × Int)) (r3 : (Seed × Int)) (x30_word : Int) (times : List (List Span)) (i2 : Int) (kn_2 : (List (List Span)) → Int → Option Bool) : Option Bool :=
  bif (decide (i2 < (r2.2.Posts.length : Int))) then
    (pGo r2.2 i2).bind fun r8 =>
    bif (r8.2 != 0) then
      some false
    else
      bif ((r8.1.length : Int) != r2.2.Spots) then
        some false
      else
        chk (fitA (times.length + [r8.1].length) 24) <|
        kn_2 (times ++ [r8.1]) (w64 (i2 + 1))
  else
    it _ (fun (v_0 : (Unit × Unit × Unit × Int × Int × Unit) × (Unit)) kn => RescueCalls_L23 it r6 r2 calls r7 times r3 x30_word v_0.1.2.2.2.1 v_0.1.2.2.2.2.1 (fun y0 y1 => kn (((), (), (), y0, y1, ()), (())))) (((), (), (), 0, 0, ()), (()))
def RescueCalls_L6 (it : It Bool) (r2 : (Seed × Rescue)) (r3 : (Seed × Int)) (calls : List Int) (i : Int) (x30_word : Int) (kn_ : (List Int) → Int → Int → Option Bool) : Option Bool :=
  bif (decide (i > 0)) then
    (Below (⟨x30_word⟩ : Seed) r2.2.Spots).bind fun r5 =>
    chk (fitA (calls.length + [r5.2].length) 8) <|
    kn_ (calls ++ [r5.2]) (w64 (i - 1)) r5.1.word
  else
    (pSend r2.2 r3.2 calls).bind fun r6 =>
    (pLives r2.2).bind fun r7 =>
    bif (r6.2.2 != 0) then
      some false
    else
      bif (r7.2 != 0) then
        some false
      else
        bif ((r6.1.length : Int) != (calls.length : Int)) then
          some false
        else
          bif ((r7.1.length : Int) != r2.2.Spots) then
            some false
          else
            it _ (fun (v_0 : (Unit × Unit × (List (List Span)) × Int × Unit) × (Unit)) kn => RescueCalls_L15 it r2 r6 calls r7 r3 x30_word v_0.1.2.2.1 v_0.1.2.2.2.1 (fun y0 y1 => kn (((), (), y0, y1, ()), (())))) (((), (), ([] : List (List Span)), 0, ()), (()))
def RescueCalls' (it : It Bool) (nums : List Int) : Option Bool :=
  (NewSeed nums).bind fun r =>
  (RescueOf r 5 5).bind fun r2 =>
  (Below r2.1 1440).bind fun r3 =>
  (Below r3.1 5).bind fun r4 =>
  it _ (fun (v_0 : (Unit × Unit × (List Int) × Int × Unit) × ((Int × Unit) × Unit)) kn => RescueCalls_L6 it r2 r3 v_0.1.2.2.1 v_0.1.2.2.2.1 v_0.2.1.1 (fun y0 y1 y2 => kn (((), (), y0, y1, ()), ((y2, ()), ())))) (((), (), ([] : List Int), r4.2, ()), ((r4.1.word, ()), ()))
def RescueCalls : (List Int) → Option Bool := opq (fun nums => RescueCalls' itN nums)
theorem RescueCalls_eq (nums : List Int) : RescueCalls nums = RescueCalls' itN nums := by unfold RescueCalls; rw [opq_eq]
def E6 : FEnv iseat := ⟨⟨283, [sp22, sp31, sp26, sp36, sp37, sp17], [sp19, sp20], [sp18], [], [], [], [], [], [46, 105, 203], [], true⟩, [(6, ⟨⟨[(3, .bx 30 0), (4, .bx 4 0), (6, .os 6 3 (.int .i64)), (7, .v (.int .i64))], [(30, [.v (.int .u64)])]⟩, [5], [4], []⟩), (15, ⟨⟨[(3, .bx 30 0), (4, .bx 4 0), (13, .os 13 24 (.sl .Span)), (14, .v (.int .i64))], []⟩, [5, 6, 8, 9, 11], [30, 4], []⟩), (23, ⟨⟨[(3, .bx 30 0), (4, .bx 4 0), (13, .osr 13), (17, .v (.int .i64)), (18, .v (.int .i64))], []⟩, [5, 6, 8, 9, 11], [30, 4, 13], []⟩), (32, ⟨⟨[(3, .bx 30 0), (4, .bx 4 0), (13, .osr 13), (19, .v (.int .i64))], [(30, [.v (.int .u64)])]⟩, [5, 6, 8, 9, 11], [4, 13], []⟩), (36, ⟨⟨[(3, .bx 30 0), (4, .bx 4 0), (13, .osr 13), (20, .os 20 3 (.int .i64)), (21, .v (.int .i64))], [(30, [.v (.int .u64)])]⟩, [19], [], []⟩), (44, ⟨⟨[(4, .bx 4 0), (13, .osr 13), (23, .v (.int .i64))], []⟩, [5, 6, 8, 11], [4, 13], []⟩), (48, ⟨⟨[(4, .bx 4 0), (13, .osr 13), (24, .v .bool), (25, .v (.int .i64))], []⟩, [23], [], []⟩)]⟩
theorem e6 (it : It Bool) (nums : List Int) : fnRun (ts := [.bool]) it E6 (bodyOf Try.f6) Try.f6.results.toList (encA [.sl (.int .i64)] (nums, ())) = RescueCalls' it nums := by kernel_rfl
def RescueCovers_L11 (r : Rescue) (r5 : (Seed × Rescue)) (minute : Int) (r11 : Int) (i : Int) (kn_ : Int → Option Bool) : Option Bool :=
  bif (decide (i < (([r, r5.2, r5.2] : List Rescue).length : Int))) then
    chk (decide (0 ≤ i) && decide (i < (([r, r5.2, r5.2] : List Rescue).length : Int))) <|
    chk (decide (i.toNat < ([r, r5.2, r5.2] : List Rescue).length)) <|
    chk (decide (0 ≤ i) && decide (i < ([minute, r11, minute].length : Int))) <|
    chk (decide (i.toNat < [minute, r11, minute].length)) <|
    (pReach (([r, r5.2, r5.2] : List Rescue).getD i.toNat dfltRescue) ([minute, r11, minute].getD i.toNat 0)).bind fun r12 =>
    chk (decide (0 ≤ i) && decide (i < (([r, r5.2, r5.2] : List Rescue).length : Int))) <|
    chk (decide (i.toNat < ([r, r5.2, r5.2] : List Rescue).length)) <|
    chk (decide (0 ≤ i) && decide (i < ([minute, r11, minute].length : Int))) <|
    chk (decide (i.toNat < [minute, r11, minute].length)) <|
    (rReach (([r, r5.2, r5.2] : List Rescue).getD i.toNat dfltRescue) ([minute, r11, minute].getD i.toNat 0)).bind fun r13 =>
    chk (decide (0 ≤ i) && decide (i < (([r, r5.2, r5.2] : List Rescue).length : Int))) <|
    chk (decide (i.toNat < ([r, r5.2, r5.2] : List Rescue).length)) <|
    chk (decide (0 ≤ i) && decide (i < ([minute, r11, minute].length : Int))) <|
    chk (decide (i.toNat < [minute, r11, minute].length)) <|
    (pCover (([r, r5.2, r5.2] : List Rescue).getD i.toNat dfltRescue) ([minute, r11, minute].getD i.toNat 0)).bind fun r14 =>
    chk (decide (0 ≤ i) && decide (i < (([r, r5.2, r5.2] : List Rescue).length : Int))) <|
    chk (decide (i.toNat < ([r, r5.2, r5.2] : List Rescue).length)) <|
    chk (decide (0 ≤ i) && decide (i < ([minute, r11, minute].length : Int))) <|
    chk (decide (i.toNat < [minute, r11, minute].length)) <|
    (rCover (([r, r5.2, r5.2] : List Rescue).getD i.toNat dfltRescue) ([minute, r11, minute].getD i.toNat 0)).bind fun r15 =>
    bif (r12.2 != r13.2) then
      some false
    else
      bif (r14.2 != r15.2) then
        some false
      else
        (SameSpans r12.1 r13.1).bind fun r16 =>
        bif (!r16) then
          some false
        else
          (Same r14.1 r15.1).bind fun r17 =>
          bif (!r17) then
            some false
          else
            kn_ (w64 (i + 1))
  else
    (awake).bind fun r18 =>
    some r18
def RescueCovers_L11__2 (r : Rescue) (r5 : (Seed × Rescue)) (minute : Int) (r6 : (Seed × Int)) (i2 : Int) (kn_2 : Int → Option Bool) : Option Bool :=
  bif (decide (i2 < (([r, r5.2, r5.2] : List Rescue).length : Int))) then
    chk (decide (0 ≤ i2) && decide (i2 < (([r, r5.2, r5.2] : List Rescue).length : Int))) <|
    chk (decide (i2.toNat < ([r, r5.2, r5.2] : List Rescue).length)) <|
    chk (decide (0 ≤ i2) && decide (i2 < ([minute, r6.2, minute].length : Int))) <|
    chk (decide (i2.toNat < [minute, r6.2, minute].length)) <|
    (pReach (([r, r5.2, r5.2] : List Rescue).getD i2.toNat dfltRescue) ([minute, r6.2, minute].getD i2.toNat 0)).bind fun r19 =>
    chk (decide (0 ≤ i2) && decide (i2 < (([r, r5.2, r5.2] : List Rescue).length : Int))) <|
    chk (decide (i2.toNat < ([r, r5.2, r5.2] : List Rescue).length)) <|
    chk (decide (0 ≤ i2) && decide (i2 < ([minute, r6.2, minute].length : Int))) <|
    chk (decide (i2.toNat < [minute, r6.2, minute].length)) <|
    (rReach (([r, r5.2, r5.2] : List Rescue).getD i2.toNat dfltRescue) ([minute, r6.2, minute].getD i2.toNat 0)).bind fun r20 =>
    chk (decide (0 ≤ i2) && decide (i2 < (([r, r5.2, r5.2] : List Rescue).length : Int))) <|
    chk (decide (i2.toNat < ([r, r5.2, r5.2] : List Rescue).length)) <|
    chk (decide (0 ≤ i2) && decide (i2 < ([minute, r6.2, minute].length : Int))) <|
    chk (decide (i2.toNat < [minute, r6.2, minute].length)) <|
    (pCover (([r, r5.2, r5.2] : List Rescue).getD i2.toNat dfltRescue) ([minute, r6.2, minute].getD i2.toNat 0)).bind fun r21 =>
    chk (decide (0 ≤ i2) && decide (i2 < (([r, r5.2, r5.2] : List Rescue).length : Int))) <|
    chk (decide (i2.toNat < ([r, r5.2, r5.2] : List Rescue).length)) <|
    chk (decide (0 ≤ i2) && decide (i2 < ([minute, r6.2, minute].length : Int))) <|
    chk (decide (i2.toNat < [minute, r6.2, minute].length)) <|
    (rCover (([r, r5.2, r5.2] : List Rescue).getD i2.toNat dfltRescue) ([minute, r6.2, minute].getD i2.toNat 0)).bind fun r22 =>
    bif (r19.2 != r20.2) then
      some false
    else
      bif (r21.2 != r22.2) then
        some false
      else
        (SameSpans r19.1 r20.1).bind fun r23 =>
        bif (!r23) then
          some false
        else
          (Same r21.1 r22.1).bind fun r24 =>
          bif (!r24) then
            some false
          else
            kn_2 (w64 (i2 + 1))
  else
    (awake).bind fun r25 =>
    some r25
def RescueCovers_L11__3 (r : Rescue) (r5 : (Seed × Rescue)) (minute : Int) (r6 : (Seed × Int)) (i3 : Int) (kn_3 : Int → Option Bool) : Option Bool :=
  bif (decide (i3 < (([r, r5.2, r5.2] : List Rescue).length : Int))) then
    chk (decide (0 ≤ i3) && decide (i3 < (([r, r5.2, r5.2] : List Rescue).length : Int))) <|
    chk (decide (i3.toNat < ([r, r5.2, r5.2] : List Rescue).length)) <|
    chk (decide (0 ≤ i3) && decide (i3 < ([minute, r6.2, minute].length : Int))) <|
    chk (decide (i3.toNat < [minute, r6.2, minute].length)) <|
    (pReach (([r, r5.2, r5.2] : List Rescue).getD i3.toNat dfltRescue) ([minute, r6.2, minute].getD i3.toNat 0)).bind fun r26 =>
    chk (decide (0 ≤ i3) && decide (i3 < (([r, r5.2, r5.2] : List Rescue).length : Int))) <|
    chk (decide (i3.toNat < ([r, r5.2, r5.2] : List Rescue).length)) <|
    chk (decide (0 ≤ i3) && decide (i3 < ([minute, r6.2, minute].length : Int))) <|
    chk (decide (i3.toNat < [minute, r6.2, minute].length)) <|
    (rReach (([r, r5.2, r5.2] : List Rescue).getD i3.toNat dfltRescue) ([minute, r6.2, minute].getD i3.toNat 0)).bind fun r27 =>
    chk (decide (0 ≤ i3) && decide (i3 < (([r, r5.2, r5.2] : List Rescue).length : Int))) <|
    chk (decide (i3.toNat < ([r, r5.2, r5.2] : List Rescue).length)) <|
    chk (decide (0 ≤ i3) && decide (i3 < ([minute, r6.2, minute].length : Int))) <|
    chk (decide (i3.toNat < [minute, r6.2, minute].length)) <|
    (pCover (([r, r5.2, r5.2] : List Rescue).getD i3.toNat dfltRescue) ([minute, r6.2, minute].getD i3.toNat 0)).bind fun r28 =>
    chk (decide (0 ≤ i3) && decide (i3 < (([r, r5.2, r5.2] : List Rescue).length : Int))) <|
    chk (decide (i3.toNat < ([r, r5.2, r5.2] : List Rescue).length)) <|
    chk (decide (0 ≤ i3) && decide (i3 < ([minute, r6.2, minute].length : Int))) <|
    chk (decide (i3.toNat < [minute, r6.2, minute].length)) <|
    (rCover (([r, r5.2, r5.2] : List Rescue).getD i3.toNat dfltRescue) ([minute, r6.2, minute].getD i3.toNat 0)).bind fun r29 =>
    bif (r26.2 != r27.2) then
      some false
    else
      bif (r28.2 != r29.2) then
        some false
      else
        (SameSpans r26.1 r27.1).bind fun r30 =>
        bif (!r30) then
          some false
        else
          (Same r28.1 r29.1).bind fun r31 =>
          bif (!r31) then
            some false
          else
            kn_3 (w64 (i3 + 1))
  else
    (awake).bind fun r32 =>
    some r32
def RescueCovers' (it : It Bool) (r : Rescue) (minute : Int) (nums : List Int) : Option Bool :=
  (big r).bind fun r2 =>
  bif r2 then
    (awake).bind fun r3 =>
    some r3
  else
    (NewSeed nums).bind fun r4 =>
    (RescueOf r4 6 4).bind fun r5 =>
    (Below r5.1 1440).bind fun r6 =>
    bif (decide ((r5.2.Posts.length : Int) > 0)) then
      (Yes r6.1 2).bind fun r7 =>
      bif r7.2 then
        (Below r7.1 (r5.2.Posts.length : Int)).bind fun r8 =>
        chk (decide (0 ≤ r8.2) && decide (r8.2 < (r5.2.Posts.length : Int))) <|
        (Of r8.1 [(r5.2.Posts.getD r8.2.toNat dfltPost).From, (r5.2.Posts.getD r8.2.toNat dfltPost).To]).bind fun r9 =>
        (From r9.1 (-1) 1).bind fun r10 =>
        (Wrap (w64 (r9.2 + r10.2)) 1440).bind fun r11 =>
        it _ (fun (v_0 : (Unit × Unit × Int × Unit) × (Unit)) kn => RescueCovers_L11 r r5 minute r11 v_0.1.2.2.1 (fun y0 => kn (((), (), y0, ()), (())))) (((), (), 0, ()), (()))
      else
        it _ (fun (v_0 : (Unit × Unit × Int × Unit) × (Unit)) kn => RescueCovers_L11__2 r r5 minute r6 v_0.1.2.2.1 (fun y0 => kn (((), (), y0, ()), (())))) (((), (), 0, ()), (()))
    else
      it _ (fun (v_0 : (Unit × Unit × Int × Unit) × (Unit)) kn => RescueCovers_L11__3 r r5 minute r6 v_0.1.2.2.1 (fun y0 => kn (((), (), y0, ()), (())))) (((), (), 0, ()), (()))
def E7 : FEnv iseat := ⟨⟨142, [sp16, sp17, sp38, sp41, sp42, sp43, sp44, sp35, sp24], [sp19, sp20, sp29, sp39, sp40], [sp18], [], [], [], [], [], [53], [], true⟩, [(11, ⟨⟨[(11, .osr 62), (12, .osr 66), (13, .v (.int .i64))], []⟩, [], [62, 66], []⟩)]⟩
theorem e7 (it : It Bool) (r : Rescue) (minute : Int) (nums : List Int) : fnRun (ts := [.bool]) it E7 (bodyOf Try.f7) Try.f7.results.toList (encA [.Rescue, .int .i64, .sl (.int .i64)] (r, minute, nums, ())) = RescueCovers' it r minute nums := by kernel_rfl
end
end Go.Proofs.Rescue07


/- The rescue: the examples of awake hold; RescueCovers. -/
namespace Go.Proofs.Rescue07
open Go Go.Ab Go.Ways
set_option linter.all false
theorem Same_self (a : List Int) (ha : a.length ≤ 1000000) : Same a a = some true := by
  rw [Same_eq]; unfold Same'
  rw [show ((a.length : Int) != (a.length : Int)) = false by simp, cond_false]
  apply ok_eq
  refine Ok.rounds (fun (v : V1) => 0 ≤ v.1.1 ∧ v.1.1 ≤ a.length) (fun (v : V1) => (a.length - v.1.1).toNat) (FUEL_big (by show ((a.length : Int) - 0).toNat ≤ _; omega)) ⟨Int.le_refl _, by simp⟩ ?_
  rintro ⟨⟨i, u⟩, u'⟩ kn ⟨h0, h1⟩ hk
  simp only at h0 h1 hk ⊢
  unfold Same_L4
  refine Ok.ite (fun hc => ?_) (fun hc => Ok.some rfl)
  have hi := of_decide_eq_true hc
  have e1 : w64 (i + 1) = i + 1 := w64_id (by omega) (by omega)
  refine Ok.chk (ib h0 hi) (Ok.chk (ib h0 hi) (Ok.no (by simp) ?_))
  rw [e1]
  exact hk ((i + 1, u), u') ⟨by simp only; omega, by simp only; omega⟩ (by simp only; omega)
theorem SameSpans_self (a : List Span) (ha : a.length ≤ 1000000) : SameSpans a a = some true := by
  rw [SameSpans_eq]; unfold SameSpans'
  rw [show ((a.length : Int) != (a.length : Int)) = false by simp, cond_false]
  apply ok_eq
  refine Ok.rounds (fun (v : V1) => 0 ≤ v.1.1 ∧ v.1.1 ≤ a.length) (fun (v : V1) => (a.length - v.1.1).toNat) (FUEL_big (by show ((a.length : Int) - 0).toNat ≤ _; omega)) ⟨Int.le_refl _, by simp⟩ ?_
  rintro ⟨⟨i, u⟩, u'⟩ kn ⟨h0, h1⟩ hk
  simp only at h0 h1 hk ⊢
  unfold SameSpans_L4
  refine Ok.ite (fun hc => ?_) (fun hc => Ok.some rfl)
  have hi := of_decide_eq_true hc
  have e1 : w64 (i + 1) = i + 1 := w64_id (by omega) (by omega)
  refine Ok.chk (ib h0 hi) (Ok.chk (ib h0 hi) (Ok.no (by simp) ?_))
  rw [e1]
  exact hk ((i + 1, u), u') ⟨by simp only; omega, by simp only; omega⟩ (by simp only; omega)
theorem span_sp (a b : Int) : span a b = some ⟨a, b⟩ := by rw [span_eq]; rfl
theorem one_sp (a : Int) : one a = some ⟨a, a⟩ := by rw [one_eq]; unfold one'; rw [span_sp]; rfl
def roadR : Rescue := ⟨4, [⟨0, 1, ⟨5, 8⟩, 1⟩, ⟨1, 2, ⟨10, 20⟩, 1⟩, ⟨0, 2, ⟨12, 12⟩, 3⟩, ⟨2, 3, ⟨3, 4⟩, 2⟩], [⟨0, ⟨2, 3⟩, 0, 0, 0, []⟩, ⟨2, ⟨1, 1⟩, 360, 1080, 3, [⟨30, 40⟩, ⟨20, 25⟩, ⟨0, 0⟩, ⟨6, 9⟩]⟩], [⟨0, 10⟩, ⟨10, 20⟩, ⟨-10, 0⟩, ⟨50, 60⟩], [⟨-400, ⟨10, 20⟩⟩, ⟨0, ⟨15, 30⟩⟩, ⟨15, ⟨30, 60⟩⟩, ⟨50, ⟨60, 90⟩⟩]⟩
theorem road_sp : road = some roadR := by
  rw [road_eq]; unfold road'
  simp only [span_sp, one_sp, Option.bind_some]; rfl
theorem roadR_few : Few roadR := by unfold Few; decide
theorem awake_true : awake = some true := by
  rw [awake_eq]; unfold awake'
  simp only [road_sp, Option.bind_some, pGo_sp roadR_few, pCover_sp roadR_few, pSend_sp roadR_few]
  rw [show (bif eR roadR != 0 then (([] : List Span), eR roadR) else bif !(inR 0 0 ((roadR.Posts.length : Int) - 1)) then ([], 7) else (goesS roadR (roadR.Posts.getD (0:Int).toNat dfltPost), 0)) = ([⟨2, 3⟩, ⟨7, 11⟩, ⟨14, 31⟩, ⟨1000000, 1000000⟩], 0) by decide +kernel,
    show askS roadR 400 [] ((List.range roadR.Spots.toNat).map (coverS roadR 400)) = ([1, 1, 3, 3], 0) by decide +kernel,
    show sendS roadR 400 [1, 0] = ([0, -1], 1, 0) by decide +kernel]
  simp only [show ((0:Int) == 0) = true from rfl, cond_true, span_sp, one_sp, Option.bind_some, SameSpans_self _ (show ([⟨2, 3⟩, ⟨7, 11⟩, ⟨14, 31⟩, ⟨1000000, 1000000⟩] : List Span).length ≤ 1000000 by decide), Same_self [1, 1, 3, 3] (by decide), Same_self [0, -1] (by decide)]
  rfl
theorem Made.few {a b : Int} {r : Rescue} (h : Made a b r) : Few r := h.1.few
theorem awake_ok : Ok (fun b => b = true) (awake.bind fun r => some r) := by rw [awake_true]; exact Ok.some rfl
end Go.Proofs.Rescue07


/- The rescue: no choice of posts saves more than what is found. -/
namespace Go.Proofs.Rescue07
open Go Go.Ab Go.Ways
set_option linter.all false
/-- How many calls get a post. -/
def cnt : List Int → Int
  | [] => 0
  | k :: l => (bif k == -1 then 0 else 1) + cnt l
theorem cnt_append : ∀ a b : List Int, cnt (a ++ b) = cnt a + cnt b
  | [], b => by simp [cnt]
  | k :: a, b => by simp only [List.cons_append, cnt, cnt_append a b]; omega
theorem cnt_bnd : ∀ l : List Int, 0 ≤ cnt l ∧ cnt l ≤ l.length
  | [] => by simp [cnt]
  | k :: l => by
    have := cnt_bnd l
    simp only [cnt, List.length_cons]
    cases (k == -1) <;> simp only [cond_true, cond_false] <;> omega
/-- Each call gets a post that it may have, none twice, or none. -/
def VA (may : List (List Int)) (l : List Int) : Prop := ∀ i, i < l.length → l.getD i 0 ∈ may.getD i [] ∧ (l.getD i 0 ≠ -1 → l.getD i 0 ∉ l.take i)
theorem VA.nil (may : List (List Int)) : VA may [] := fun i hi => by simp at hi
theorem getD_app_l {l m : List Int} {i : Nat} (h : i < l.length) : (l ++ m).getD i 0 = l.getD i 0 := by
  rw [List.getD_eq_getElem?_getD, List.getElem?_append_left h, ← List.getD_eq_getElem?_getD]
theorem getD_app_r {l m : List Int} {i : Nat} (h : l.length ≤ i) : (l ++ m).getD i 0 = m.getD (i - l.length) 0 := by
  rw [List.getD_eq_getElem?_getD, List.getElem?_append_right h, ← List.getD_eq_getElem?_getD]
theorem VA.snoc {may : List (List Int)} {l : List Int} {k : Int} (h : VA may l) (h1 : k ∈ may.getD l.length []) (h2 : k ≠ -1 → k ∉ l) : VA may (l ++ [k]) := fun i hi => by
  by_cases hl : i < l.length
  · rw [getD_app_l hl, List.take_append_of_le_length (by omega)]; exact h i hl
  · have : i = l.length := by simp at hi; omega
    subst this
    rw [getD_app_r (Nat.le_refl _), List.take_left' rfl]; simp only [Nat.sub_self, List.getD_cons_zero]
    exact ⟨h1, h2⟩
theorem VA.last {may : List (List Int)} {l m : List Int} {k : Int} (h : VA may (l ++ k :: m)) : k ∈ may.getD l.length [] ∧ (k ≠ -1 → k ∉ l) := by
  have := h l.length (by simp)
  rw [getD_app_r (Nat.le_refl _), List.take_left' rfl] at this
  simpa using this
theorem fold_best {β : Type} {I : Int × β → Prop} {f : Int × β → Int → Int × β} {c : Int} : ∀ (l : List Int) (x : Int × β), I x → (∀ x a, a ∈ l → I x → I (f x a) ∧ x.1 ≤ (f x a).1) → (∃ a ∈ l, ∀ x, I x → c ≤ (f x a).1) → c ≤ (l.foldl f x).1
  | [], x, _, _, ⟨a, ha, _⟩ => by cases ha
  | b :: l, x, hx, hf, ⟨a, ha, hc⟩ => by
    rw [List.foldl_cons]
    have h1 := hf x b (List.mem_cons_self ..) hx
    have hmono : ∀ (l : List Int) (x : Int × β), I x → (∀ x a, a ∈ l → I x → I (f x a) ∧ x.1 ≤ (f x a).1) → x.1 ≤ (l.foldl f x).1 := by
      intro l
      induction l with
      | nil => intro x _ _; exact Int.le_refl _
      | cons b l ih =>
        intro x hx hf
        have h1 := hf x b (List.mem_cons_self ..) hx
        have h2 := ih (f x b) h1.1 fun y a ha => hf y a (List.mem_cons_of_mem _ ha)
        rw [List.foldl_cons]; omega
    rcases List.mem_cons.1 ha with rfl | ha
    · have h2 := hmono l (f x a) h1.1 fun y a' ha' => hf y a' (List.mem_cons_of_mem _ ha')
      have := hc x hx; omega
    · exact fold_best l (f x b) h1.1 (fun y a' ha' => hf y a' (List.mem_cons_of_mem _ ha')) ⟨a, ha, hc⟩
/-- What is held while searching. -/
def Held (may : List (List Int)) (n : Nat) (st : Int × List Int) : Prop := st = (-1, []) ∨ (VA may st.2 ∧ st.2.length = n ∧ st.1 = cnt st.2)
theorem srch_ok (n : Nat) (may : List (List Int)) : ∀ (d : Nat) (now : List Int) (st : Int × List Int), now.length + d = n + 1 → VA may now → Held may n st →
    Held may n (srch n may d now (cnt now) st) ∧ st.1 ≤ (srch n may d now (cnt now) st).1 ∧ ∀ l, VA may (now ++ l) → (now ++ l).length = n → cnt (now ++ l) ≤ (srch n may d now (cnt now) st).1
  | 0, now, st, h1, h2, h3 => ⟨h3, Int.le_refl _, fun l _ hl => by simp at hl; omega⟩
  | d + 1, now, st, h1, h2, h3 => by
    simp only [srch]
    cases hp : decide (cnt now + n - now.length ≤ st.1) with
    | true =>
      have hp := of_decide_eq_true hp
      refine ⟨h3, Int.le_refl _, fun l _ hl => ?_⟩
      have := cnt_bnd l
      rw [cnt_append]
      simp at hl
      simp only [cond_true]; omega
    | false =>
      have hp := of_decide_eq_false hp
      cases hn : decide (now.length = n) with
      | true =>
        have hn := of_decide_eq_true hn
        simp only [cond_true, cond_false]
        refine ⟨.inr ⟨h2, hn, rfl⟩, by omega, fun l _ hl => ?_⟩
        have : l = [] := List.eq_nil_of_length_eq_zero (by simp at hl; omega)
        subst this; simp
      | false =>
        have hn := of_decide_eq_false hn
        simp only [cond_false]
        have hk1 : ∀ k, k == -1 → cnt (now ++ [k]) = cnt now := fun k hk => by rw [cnt_append]; simp only [cnt]; rw [hk]; simp
        have hk2 : ∀ k, (k == -1) = false → cnt (now ++ [k]) = cnt now + 1 := fun k hk => by rw [cnt_append]; simp only [cnt]; rw [hk]; simp
        have step : ∀ (x : Int × List Int) (k : Int), k ∈ may.getD now.length [] → Held may n x → Held may n (bif k == -1 then srch n may d (now ++ [k]) (cnt now) x else bif !(decide (k ∈ now)) then srch n may d (now ++ [k]) (cnt now + 1) x else x) ∧ x.1 ≤ (bif k == -1 then srch n may d (now ++ [k]) (cnt now) x else bif !(decide (k ∈ now)) then srch n may d (now ++ [k]) (cnt now + 1) x else x).1 ∧ ∀ l, VA may (now ++ k :: l) → (now ++ k :: l).length = n → cnt (now ++ k :: l) ≤ (bif k == -1 then srch n may d (now ++ [k]) (cnt now) x else bif !(decide (k ∈ now)) then srch n may d (now ++ [k]) (cnt now + 1) x else x).1 := fun x k hk hx => by
          have e : ∀ l, now ++ k :: l = (now ++ [k]) ++ l := fun l => by simp
          cases hm : (k == -1) with
          | true =>
            simp only [cond_true]
            have ih := srch_ok n may d (now ++ [k]) x (by simp; omega) (h2.snoc hk fun h => by simp at hm; exact absurd hm h) hx
            rw [hk1 k hm] at ih
            exact ⟨ih.1, ih.2.1, fun l a b => by rw [e] at a b ⊢; exact ih.2.2 l a b⟩
          | false =>
            simp only [cond_false]
            cases hin : decide (k ∈ now) with
            | true =>
              refine ⟨hx, Int.le_refl _, fun l a b => ?_⟩
              exact absurd (of_decide_eq_true hin) (a.last.2 (by simpa using hm))
            | false =>
              simp only [Bool.not_false, cond_true]
              have ih := srch_ok n may d (now ++ [k]) x (by simp; omega) (h2.snoc hk fun _ => of_decide_eq_false hin) hx
              rw [hk2 k hm] at ih
              exact ⟨ih.1, ih.2.1, fun l a b => by rw [e] at a b ⊢; exact ih.2.2 l a b⟩
        have hH : Held may n ((may.getD now.length []).foldl (fun st k => bif k == -1 then srch n may d (now ++ [k]) (cnt now) st else bif !(decide (k ∈ now)) then srch n may d (now ++ [k]) (cnt now + 1) st else st) st) :=
          foldl_inv (I := Held may n) h3 fun x a ha hx => (step x a ha hx).1
        refine ⟨hH, ?_, fun l a b => ?_⟩
        · have hmono : ∀ (l : List Int) (x : Int × List Int), Held may n x → (∀ a ∈ l, a ∈ may.getD now.length []) → x.1 ≤ (l.foldl (fun st k => bif k == -1 then srch n may d (now ++ [k]) (cnt now) st else bif !(decide (k ∈ now)) then srch n may d (now ++ [k]) (cnt now + 1) st else st) x).1 := by
            intro l
            induction l with
            | nil => intro x _ _; exact Int.le_refl _
            | cons b l ih =>
              intro x hx hl
              have s1 := step x b (hl b (List.mem_cons_self ..)) hx
              have s2 := ih _ s1.1 fun a ha => hl a (List.mem_cons_of_mem _ ha)
              rw [List.foldl_cons]
              exact Int.le_trans s1.2.1 s2
          exact hmono _ _ h3 fun a ha => ha
        · cases l with
          | nil => simp at b; exact absurd b hn
          | cons k l =>
            refine fold_best (I := Held may n) _ _ h3 (fun x a ha hx => ⟨(step x a ha hx).1, (step x a ha hx).2.1⟩) ⟨k, a.last.1, fun x hx => (step x k a.last.1 hx).2.2 l a b⟩
/-- What is found: a choice, and none saves more. -/
theorem found_ok (r : Rescue) (m : Int) (calls : List Int) : VA (calls.map fun c => mayS r m c.toNat) (foundS r m calls).2 ∧ (foundS r m calls).2.length = calls.length ∧ (foundS r m calls).1 = cnt (foundS r m calls).2 ∧ ∀ l, VA (calls.map fun c => mayS r m c.toNat) l → l.length = calls.length → cnt l ≤ (foundS r m calls).1 := by
  have h := srch_ok calls.length (calls.map fun c => mayS r m c.toNat) (calls.length + 1) [] (-1, []) (by simp) (VA.nil _) (.inl rfl)
  have hc : cnt [] = 0 := rfl
  rw [hc] at h
  simp only [List.nil_append] at h
  have hall : VA (calls.map fun c => mayS r m c.toNat) (List.replicate calls.length (-1)) := fun i hi => by
    have hi' : i < calls.length := by simpa using hi
    have hg : (List.replicate calls.length (-1 : Int)).getD i 0 = -1 := by simp [List.getD_eq_getElem?_getD, hi']
    rw [hg]
    refine ⟨?_, fun h => absurd rfl h⟩
    rw [getD_map (d := 0) _ hi']
    simp [mayS]
  have h0 := h.2.2 _ hall (by simp)
  have h1 := (cnt_bnd (List.replicate calls.length (-1))).1
  rcases h.1 with h2 | ⟨h2, h3, h4⟩
  · rw [h2] at h0; simp only at h0; omega
  · exact ⟨h2, h3, h4, h.2.2⟩
theorem mem_may {r : Rescue} {m : Int} {spot : Nat} {k : Int} : k ∈ mayS r m spot ↔ k = -1 ∨ (0 ≤ k ∧ k.toNat < r.Posts.length ∧ canS r m spot k.toNat = true) := by
  simp only [mayS, List.mem_append, List.mem_map, List.mem_filter, List.mem_range, List.mem_singleton]
  constructor
  · rintro (⟨j, ⟨h1, h2⟩, rfl⟩ | h)
    · right; simpa using ⟨h1, h2⟩
    · exact .inl h
  · rintro (h | ⟨h1, h2, h3⟩)
    · exact .inr h
    · exact .inl ⟨k.toNat, ⟨h2, h3⟩, by omega⟩
theorem Listed_sp (l : List Int) (v : Int) (hl : l.length ≤ 1000) : Listed l v = some (decide (v ∈ l)) := by
  rw [Listed_eq]; unfold Listed'
  apply ok_eq
  refine Ok.mono (Ok.roundsD (P := fun (w : V1) r => r = decide (v ∈ l.drop w.1.1.toNat)) (fun (w : V1) => 0 ≤ w.1.1 ∧ w.1.1 ≤ l.length) (fun (w : V1) => (l.length - w.1.1).toNat) (FUEL_big (by show ((l.length : Int) - 0).toNat ≤ _; omega)) ⟨Int.le_refl _, by simp⟩ ?_) (fun r h => by simpa using h)
  rintro ⟨⟨i, u⟩, u'⟩ kn ⟨h0, h1⟩ hk
  simp only at h0 h1 hk ⊢
  unfold Listed_L2
  refine Ok.ite (fun hc => ?_) (fun hc => ?_)
  · have hi := of_decide_eq_true hc
    have hd := mem_drop (v := v) (d := 0) (show i.toNat < l.length by omega)
    refine Ok.chk (ib h0 hi) ?_
    refine Ok.ite (fun h => ?_) (fun h => ?_)
    · have h : l.getD i.toNat 0 = v := by simpa using h
      exact Ok.some (by rw [decide_eq_true (hd.2 (.inl h.symm))])
    · have h : ¬ v = l.getD i.toNat 0 := fun e => by rw [e] at h; simp at h
      have e1 : w64 (i + 1) = i + 1 := w64_id (by omega) (by omega)
      rw [e1]
      refine (hk ((i + 1, u), u') ⟨by simp only; omega, by simp only; omega⟩ (by simp only; omega)).mono fun r hr => ?_
      simp only [toNat_succ h0] at hr
      rw [hr]
      simp only [hd, h, false_or]
  · have := of_decide_eq_false hc
    exact Ok.some (by rw [List.drop_eq_nil_of_le (by omega)]; simp)
theorem saves_sp {r : Rescue} (hv : RV r) (m : Int) {p c : Int} (hp : 0 ≤ p ∧ p < r.Posts.length) (hc : 0 ≤ c ∧ c < r.Spots) : saves r (r.Water.map (livesS r)) (r.Posts.map (goesS r)) m p c = some (canS r m c.toNat p.toNat) := by
  have hw := hv.water.1
  have hcn : c.toNat < r.Spots.toNat := by omega
  have hpn : p.toNat < r.Posts.length := by omega
  rw [saves_eq]; unfold saves'
  rw [show (decide (0 ≤ p) && decide (p < (r.Posts.length : Int))) = true from ib hp.1 hp.2, Manned_sp, times_getD hpn, goes_getD hcn, getD_map (d := dfltSpan) (livesS r) (show c.toNat < r.Water.length by omega), List.length_map, List.length_map, goes_len]
  rw [show (decide (0 ≤ p) && decide (p < (r.Posts.length : Int))) = true from ib hp.1 hp.2, show (decide (0 ≤ c) && decide (c < (r.Spots.toNat : Int))) = true from ib hc.1 (by omega), show (decide (0 ≤ c) && decide (c < (r.Water.length : Int))) = true from ib hc.1 (by omega)]
  unfold canS
  cases mannedB (r.Posts.getD p.toNat dfltPost) m <;> rfl
end Go.Proofs.Rescue07


/- RescueCalls as a plain law. -/
namespace Go.Proofs.Rescue07
open Go Go.Ab Go.Ways
set_option linter.all false
def InCalls (r : Rescue) (calls : List Int) : Prop := calls.length ≤ 6 ∧ ∀ c ∈ calls, 0 ≤ c ∧ c < r.Spots
theorem send_ok {r : Rescue} (hv : RV r) {m : Int} (hm : 0 ≤ m ∧ m ≤ 1439) {calls : List Int} (hc : InCalls r calls) : pSend r m calls = some ((foundS r m calls).2, (foundS r m calls).1, 0) := by
  rw [pSend_sp hv.few]
  unfold sendS
  have e : eCalls r calls = 0 := by
    unfold eCalls
    rw [bz (by decide), first_zero]
    refine ⟨decide_eq_false (by have := hc.1; omega), fun e he => ?_⟩
    simp only [List.mem_map] at he
    obtain ⟨c, h1, rfl⟩ := he
    have := hc.2 c h1
    rw [inR_iff.2 ⟨this.1, by omega⟩]; rfl
  rw [eR_zero.2 hv, e, inR_iff.2 hm]; rfl
theorem lives_ok {r : Rescue} (hv : RV r) : pLives r = some (r.Water.map (livesS r), 0) := by
  rw [pLives_sp hv.few, eR_zero.2 hv]; rfl
theorem go_ok {r : Rescue} (hv : RV r) {k : Int} (hk : 0 ≤ k ∧ k < r.Posts.length) : pGo r k = some (goesS r (r.Posts.getD k.toNat dfltPost), 0) := by
  rw [pGo_sp hv.few, eR_zero.2 hv, inR_iff.2 ⟨hk.1, by omega⟩]; rfl
theorem cnt_take {l : List Int} {i : Nat} (h : i < l.length) : cnt (l.take (i + 1)) = cnt (l.take i) + (bif l.getD i 0 == -1 then 0 else 1) := by
  rw [List.take_succ, List.getElem?_eq_getElem h, cnt_append, List.getD_eq_getElem?_getD, List.getElem?_eq_getElem h]
  simp [cnt]
theorem getD_set {l : List Int} {i j : Nat} {x : Int} (hi : i < l.length) : (l.set i x).getD j 0 = if j = i then x else l.getD j 0 := by
  rw [List.getD_eq_getElem?_getD, List.getElem?_set]
  by_cases h : i = j
  · subst h; simp [hi]
  · have : ¬ j = i := fun e => h e.symm
    simp [h, this, List.getD_eq_getElem?_getD]
theorem cnt_set : ∀ {l : List Int} {i : Nat} {x : Int}, i < l.length → l.getD i 0 = -1 → x ≠ -1 → cnt (l.set i x) = cnt l + 1
  | [], i, x, h, _, _ => by simp at h
  | k :: l, 0, x, _, h, hx => by
    simp at h
    have e : (x == -1) = false := by simpa using hx
    simp only [List.set_cons_zero, cnt, h, e]; simp; omega
  | k :: l, i + 1, x, h, h1, hx => by
    have := cnt_set (l := l) (i := i) (by simpa using h) (by simpa using h1) hx
    simp only [List.set_cons_succ, cnt, this]; omega
theorem VA.set {may : List (List Int)} {l : List Int} {i : Nat} {x : Int} (h : VA may l) (hi : i < l.length) (hx : x ∈ may.getD i []) (hn : x ∉ l) : VA may (l.set i x) := fun j hj => by
  have hj' : j < l.length := by simpa using hj
  rw [getD_set hi]
  have hm : ∀ y, y ∈ (l.set i x).take j → y = x ∨ y ∈ l.take j := fun y hy => by
    rw [List.take_set] at hy
    rcases List.mem_or_eq_of_mem_set hy with h | h
    · exact .inr h
    · exact .inl h
  by_cases hji : j = i
  · subst hji
    rw [if_pos rfl]
    refine ⟨hx, fun _ hy => ?_⟩
    have hy2 : x ∈ l.take j := by
      rw [List.take_set_of_le (by omega)] at hy
      exact hy
    exact hn (List.mem_of_mem_take hy2)
  · rw [if_neg hji]
    obtain ⟨h1, h2⟩ := h j hj'
    refine ⟨h1, fun h3 hy => ?_⟩
    rcases hm _ hy with e | hy
    · exact hn (by rw [← e]; exact getD_mem hj')
    · exact h2 h3 hy
theorem subL_one {l : List Int} {i : Int} (h0 : 0 ≤ i) (h : i < l.length) : subL l i (i + 1) = [l.getD i.toNat 0] := by
  unfold subL
  have hi : i.toNat < l.length := by omega
  rw [show (i + 1).toNat = i.toNat + 1 by omega, List.take_succ, List.getElem?_eq_getElem hi, List.drop_append_of_le_length (by simp; omega), List.drop_eq_nil_of_le (by simp; omega), List.getD_eq_getElem?_getD, List.getElem?_eq_getElem hi]
  rfl
theorem may_getD {r : Rescue} {m : Int} {calls : List Int} {i : Nat} (hi : i < calls.length) : (calls.map fun c => mayS r m c.toNat).getD i [] = mayS r m (calls.getD i 0).toNat := getD_map _ hi
def anyC (r : Rescue) (m : Int) (c n : Nat) : Bool := (List.range n).any (canS r m c)
theorem anyC_succ (r : Rescue) (m : Int) (c n : Nat) : anyC r m c (n + 1) = (anyC r m c n || canS r m c n) := by
  unfold anyC; rw [List.range_succ, List.any_append]; simp
abbrev V5a := (Unit × Unit × Bool × Int × Unit) × Unit
abbrev V4a := (Unit × Unit × Int × Unit) × Unit
theorem one_found {r : Rescue} {m c : Int} : (foundS r m [c]).1 ≤ 1 ∧ ((foundS r m [c]).1 == 1) = anyC r m c.toNat r.Posts.length := by
  obtain ⟨h1, h2, h3, h4⟩ := found_ok r m [c]
  have hb := cnt_bnd (foundS r m [c]).2
  have hle : (foundS r m [c]).1 ≤ 1 := by rw [h3]; rw [h2] at hb; simp at hb; omega
  refine ⟨hle, ?_⟩
  cases ha : anyC r m c.toNat r.Posts.length with
  | true =>
    unfold anyC at ha
    rw [List.any_eq_true] at ha
    obtain ⟨p, hp, hcan⟩ := ha
    have hp := List.mem_range.1 hp
    have := h4 [(p : Int)] (fun i hi => by
      have : i = 0 := by simp at hi; exact hi
      subst this
      refine ⟨?_, fun _ => by simp⟩
      simp only [List.map_cons, List.getD_cons_zero]
      exact mem_may.2 (.inr ⟨by omega, by simpa using hp, by simpa using hcan⟩)) rfl
    have e : cnt [(p : Int)] = 1 := by
      have : ((p : Int) == -1) = false := by simp
      simp [cnt, this]
    rw [e] at this
    simp; omega
  | false =>
    obtain ⟨k, hk⟩ : ∃ k, (foundS r m [c]).2 = [k] := by
      rcases hl : (foundS r m [c]).2 with _ | ⟨a, _ | ⟨b, l⟩⟩
      · rw [hl] at h2; simp at h2
      · exact ⟨a, rfl⟩
      · rw [hl] at h2; simp at h2
    have hk1 := (h1 0 (by rw [hk]; simp)).1
    rw [hk] at hk1
    simp only [List.map_cons, List.getD_cons_zero] at hk1
    rcases mem_may.1 hk1 with e | ⟨a, b, d⟩
    · rw [h3, hk, e]; rfl
    · unfold anyC at ha
      rw [List.any_eq_false] at ha
      exact absurd d (by have := ha k.toNat (List.mem_range.2 b); simpa using this)
theorem calls_last {s : Seed × Rescue} {posts n : Int} (hM : Made posts n s.2) {m : Seed × Int} (hm : 0 ≤ m.2 ∧ m.2 ≤ 1439) {calls : List Int} (hc : InCalls s.2 calls) :
    Ok (fun b => b = true) (itN V4a (fun v_0 kn => RescueCalls_L44 itN calls s ((foundS s.2 m.2 calls).2, (foundS s.2 m.2 calls).1, 0) (s.2.Water.map (livesS s.2), 0) (s.2.Posts.map (goesS s.2)) m v_0.1.2.2.1 (fun y0 => kn (((), (), y0, ()), ()))) (((), (), 0, ()), ())) := by
  obtain ⟨r, hr⟩ : ∃ r, s.2 = r := ⟨_, rfl⟩
  obtain ⟨mm, hmm⟩ : ∃ mm, m.2 = mm := ⟨_, rfl⟩
  rw [hr] at hM hc ⊢
  rw [hmm] at hm ⊢
  have hv := hM.1
  have hnp := hv.nPosts
  obtain ⟨f1, f2, f3, f4⟩ := found_ok r mm calls
  obtain ⟨ps, hps⟩ : ∃ ps, (foundS r mm calls).2 = ps := ⟨_, rfl⟩
  rw [hps] at f1 f2 f3 ⊢
  refine Ok.rounds (fun (v : V4a) => 0 ≤ v.1.2.2.1 ∧ v.1.2.2.1 ≤ calls.length) (fun (v : V4a) => (calls.length - v.1.2.2.1).toNat) (FUEL_big (by show ((calls.length : Int) - 0).toNat ≤ _; have := hc.1; omega)) ⟨Int.le_refl _, by simp⟩ ?_
  rintro ⟨⟨u1, u2, i, u3⟩, u4⟩ kn ⟨h0, h1⟩ hk
  simp only at h0 h1 hk ⊢
  unfold RescueCalls_L44
  refine Ok.ite (fun hcc => ?_) fun _ => awake_ok
  have hi := of_decide_eq_true hcc
  have hi' : i.toNat < calls.length := by omega
  obtain ⟨c, hc0⟩ : ∃ c, calls.getD i.toNat 0 = c := ⟨_, rfl⟩
  have hcb : 0 ≤ c ∧ c < r.Spots := by rw [← hc0]; exact hc.2 _ (getD_mem hi')
  refine Ok.rounds (fun (v : V5a) => 0 ≤ v.1.2.2.2.1 ∧ v.1.2.2.2.1 ≤ r.Posts.length ∧ v.1.2.2.1 = anyC r mm c.toNat v.1.2.2.2.1.toNat) (fun (v : V5a) => (r.Posts.length - v.1.2.2.2.1).toNat) (FUEL_big (by show ((r.Posts.length : Int) - 0).toNat ≤ _; omega)) ⟨Int.le_refl _, by simp, rfl⟩ ?_
  rintro ⟨⟨w1, w2, any, p, w3⟩, w4⟩ kn2 ⟨p0, p1, p2⟩ hk2
  simp only at p0 p1 p2 hk2 ⊢
  unfold RescueCalls_L48
  simp only [hr, hmm, hc0]
  refine Ok.ite (fun hcc => ?_) (fun hcc => ?_)
  · have hp := of_decide_eq_true hcc
    have e1 : w64 (p + 1) = p + 1 := w64_id (by omega) (by omega)
    have hsv := saves_sp hv mm ⟨p0, hp⟩ hcb
    have hs := anyC_succ r mm c.toNat p.toNat
    rw [← p2] at hs
    have next : ∀ b, b = anyC r mm c.toNat (p.toNat + 1) → Ok (fun b => b = true) (kn2 ((w1, w2, b, p + 1, w3), w4)) := fun b hb => by
      refine hk2 ((w1, w2, b, p + 1, w3), w4) ⟨by simp only; omega, by simp only; omega, ?_⟩ (by simp only; omega)
      simp only [toNat_succ p0]; exact hb
    have hno : ps.getD i.toNat 0 = -1 → p ∉ ps → canS r mm c.toNat p.toNat = true → False := fun h3 h4 h5 => by
      have hi2 : i.toNat < ps.length := by omega
      have hmem : p ∈ (calls.map fun c => mayS r mm c.toNat).getD i.toNat [] := by
        rw [may_getD hi', hc0]; exact mem_may.2 (.inr ⟨p0, by omega, h5⟩)
      have h6 := f4 (ps.set i.toNat p) (f1.set hi2 hmem h4) (by simp [f2])
      rw [cnt_set hi2 h3 (by omega), f3] at h6
      omega
    have c1 : (decide (0 ≤ i) && decide (i < (ps.length : Int))) = true := ib h0 (by omega)
    have c2 : (decide (0 ≤ i) && decide (i < (calls.length : Int))) = true := ib h0 hi
    have hL := Listed_sp ps p (by have := hc.1; omega)
    simp only [c1, c2, chk, cond_true, hL, hsv, Option.bind_some, e1]
    cases any with
    | true =>
      simp only [cond_true]
      simp only [Bool.true_or] at hs
      cases h3 : (ps.getD i.toNat 0 == -1) with
      | true =>
        simp only [cond_true]
        cases h4 : decide (p ∈ ps) with
        | true => exact next true hs.symm
        | false =>
          simp only [Bool.not_false, cond_true]
          cases h5 : canS r mm c.toNat p.toNat with
          | true => exact (hno (by simpa using h3) (of_decide_eq_false h4) h5).elim
          | false => exact next true hs.symm
      | false => exact next true hs.symm
    | false =>
      simp only [cond_false]
      simp only [Bool.false_or] at hs
      cases h3 : (ps.getD i.toNat 0 == -1) with
      | true =>
        simp only [cond_true]
        cases h4 : decide (p ∈ ps) with
        | true => exact next _ hs.symm
        | false =>
          simp only [Bool.not_false, cond_true]
          cases h5 : canS r mm c.toNat p.toNat with
          | true => exact (hno (by simpa using h3) (of_decide_eq_false h4) h5).elim
          | false => rw [h5] at hs; exact next _ hs.symm
      | false => exact next _ hs.symm
  · have hp := of_decide_eq_false hcc
    rw [show p.toNat = r.Posts.length by omega] at p2
    have e1 : w64 (i + 1) = i + 1 := w64_id (by have := hc.1; omega) (by have := hc.1; omega)
    rw [e1, subL_one h0 hi, hc0]
    refine Ok.chk (by simp; omega) (Ok.beq (send_ok hv hm ⟨by simp, fun x hx => by rw [List.mem_singleton.1 hx]; exact hcb⟩) ?_)
    obtain ⟨o1, o2⟩ := one_found (r := r) (m := mm) (c := c)
    refine Ok.no rfl (Ok.no (by simp only; rw [o2, p2]; simp) (Ok.no (decide_eq_false (by simp only; omega)) ?_))
    exact hk ((u1, u2, i + 1, u3), u4) ⟨by simp only; omega, by simp only; omega⟩ (by simp only; omega)
abbrev VL6 := (Unit × Unit × List Int × Int × Unit) × ((Int × Unit) × Unit)
abbrev VL15 := (Unit × Unit × List (List Span) × Int × Unit) × Unit
abbrev VL23 := (Unit × Unit × Unit × Int × Int × Unit) × Unit
abbrev VL32 := (Unit × Unit × Unit × Int × Unit) × ((Int × Unit) × Unit)
abbrev VL36 := (Unit × Unit × Unit × List Int × Int × Unit) × ((Int × Unit) × Unit)
theorem RescueCalls_true (nums : List Int) (hn : nums.length ≤ 9223372036854775807) : RescueCalls nums = some true := by
  apply ok_eq
  rw [RescueCalls_eq]; unfold RescueCalls'
  refine Ok.bind (NewSeed_ok hn) fun s0 _ => Ok.bind (RescueOf_ok s0 (by decide) (by decide) ⟨by decide, by decide⟩) fun s hM => Ok.bind (Below_ok _ (by decide)) fun m hm => Ok.bind (Below_ok _ (by decide)) fun q hq => ?_
  have hv := hM.1
  have hsp := hv.spots
  have hnp := hv.nPosts
  have hwl := hv.water.1
  have hm' : 0 ≤ m.2 ∧ m.2 ≤ 1439 := by omega
  refine Ok.rounds (fun (v : VL6) => 0 ≤ v.1.2.2.2.1 ∧ (v.1.2.2.1.length : Int) + v.1.2.2.2.1 ≤ 4 ∧ ∀ c ∈ v.1.2.2.1, 0 ≤ c ∧ c < s.2.Spots) (fun (v : VL6) => v.1.2.2.2.1.toNat) (FUEL_big (by show q.2.toNat ≤ _; omega)) ⟨by simp only; omega, by simp; omega, fun c hc => by cases hc⟩ ?_
  rintro ⟨⟨u1, u2, calls, i, u3⟩, ⟨⟨w, u4⟩, u5⟩⟩ kn ⟨i0, i1, i2⟩ hk
  simp only at i0 i1 i2 hk ⊢
  unfold RescueCalls_L6
  refine Ok.ite (fun hcc => ?_) (fun hcc => ?_)
  · have hi := of_decide_eq_true hcc
    have e1 : w64 (i - 1) = i - 1 := w64_id (by omega) (by omega)
    refine Ok.bind (Below_ok _ (by omega)) fun c hc => Ok.chk (fitA_ok (by simp; omega) (by decide)) ?_
    rw [e1]
    refine hk ((u1, u2, _, i - 1, u3), ((_, u4), u5)) ⟨by simp only; omega, by simp; omega, fun x hx => ?_⟩ (by simp only; omega)
    rcases List.mem_append.1 hx with hx | hx
    · exact i2 x hx
    · rw [List.mem_singleton.1 hx]; omega
  · have hc : InCalls s.2 calls := ⟨by omega, i2⟩
    obtain ⟨f1, f2, f3, f4⟩ := found_ok s.2 m.2 calls
    have hlast := calls_last hM hm' hc
    refine Ok.beq (send_ok hv hm' hc) (Ok.beq (lives_ok hv) (Ok.no rfl (Ok.no rfl (Ok.no (by simp only; rw [f2]; simp) (Ok.no (by simp only [List.length_map]; rw [hwl]; simp) ?_)))))
    refine Ok.rounds (fun (v : VL15) => 0 ≤ v.1.2.2.2.1 ∧ v.1.2.2.2.1 ≤ s.2.Posts.length ∧ v.1.2.2.1 = (s.2.Posts.take v.1.2.2.2.1.toNat).map (goesS s.2)) (fun (v : VL15) => (s.2.Posts.length - v.1.2.2.2.1).toNat) (FUEL_big (by show ((s.2.Posts.length : Int) - 0).toNat ≤ _; omega)) ⟨Int.le_refl _, by simp, rfl⟩ ?_
    rintro ⟨⟨a1, a2, times, j, a3⟩, a4⟩ kn2 ⟨j0, j1, j2⟩ hk2
    simp only at j0 j1 j2 hk2 ⊢
    unfold RescueCalls_L15
    refine Ok.ite (fun hcc => ?_) (fun hcc => ?_)
    · have hj := of_decide_eq_true hcc
      have hj' : j.toNat < s.2.Posts.length := by omega
      have e1 : w64 (j + 1) = j + 1 := w64_id (by omega) (by omega)
      refine Ok.beq (go_ok hv ⟨j0, hj⟩) (Ok.no rfl (Ok.no (by simp only; rw [goes_len]; simp; omega) (Ok.chk (fitA_ok (by rw [j2]; simp; omega) (by decide)) ?_)))
      rw [e1]
      refine hk2 ((a1, a2, _, j + 1, a3), a4) ⟨by simp only; omega, by simp only; omega, ?_⟩ (by simp only; omega)
      simp only [toNat_succ j0]
      rw [map_take_succ (d := dfltPost) _ hj', j2]
    · have hj := of_decide_eq_false hcc
      rw [map_take_all _ (by omega)] at j2
      subst j2
      obtain ⟨ps, hps⟩ : ∃ ps, (foundS s.2 m.2 calls).2 = ps := ⟨_, rfl⟩
      obtain ⟨nf, hnf⟩ : ∃ nf, (foundS s.2 m.2 calls).1 = nf := ⟨_, rfl⟩
      rw [hps, hnf] at hlast ⊢
      rw [hps] at f1 f2 f3
      rw [hnf] at f3 f4
      refine Ok.rounds (fun (v : VL23) => 0 ≤ v.1.2.2.2.2.1 ∧ v.1.2.2.2.2.1 ≤ ps.length ∧ v.1.2.2.2.1 = cnt (ps.take v.1.2.2.2.2.1.toNat)) (fun (v : VL23) => (ps.length - v.1.2.2.2.2.1).toNat) (FUEL_big (by show ((ps.length : Int) - 0).toNat ≤ _; omega)) ⟨Int.le_refl _, by simp, rfl⟩ ?_
      rintro ⟨⟨b1, b2, b3, sv, k, b4⟩, b5⟩ kn3 ⟨k0, k1, k2⟩ hk3
      simp only at k0 k1 k2 hk3 ⊢
      unfold RescueCalls_L23
      refine Ok.ite (fun hcc => ?_) (fun hcc => ?_)
      · have hkk := of_decide_eq_true hcc
        have hk' : k.toNat < ps.length := by simp only at hkk; omega
        have hkc : k.toNat < calls.length := by omega
        have e1 : w64 (k + 1) = k + 1 := w64_id (by omega) (by omega)
        have hct := cnt_take hk'
        rw [← k2] at hct
        obtain ⟨v1, v2⟩ := f1 k.toNat hk'
        rw [may_getD hkc] at v1
        have c1 : (decide (0 ≤ k) && decide (k < (ps.length : Int))) = true := ib k0 (by omega)
        have c2 : (decide (0 ≤ k) && decide (k < (calls.length : Int))) = true := ib k0 (by omega)
        have next : ∀ sv', sv' = cnt (ps.take (k.toNat + 1)) → Ok (fun b => b = true) (kn3 ((b1, b2, b3, sv', k + 1, b4), b5)) := fun sv' h => by
          refine hk3 ((b1, b2, b3, sv', k + 1, b4), b5) ⟨by simp only; omega, by simp only; omega, ?_⟩ (by simp only; omega)
          simp only [toNat_succ k0]; exact h
        simp only [c1, c2, chk, cond_true, e1]
        obtain ⟨x, hx⟩ : ∃ x, ps.getD k.toNat 0 = x := ⟨_, rfl⟩
        rw [hx] at hct v1 v2 ⊢
        refine Ok.ite (fun h => ?_) (fun h => ?_)
        · rw [h] at hct; exact next sv (by rw [hct]; simp)
        · have hx1 : x ≠ -1 := by simpa using h
          rcases mem_may.1 v1 with e | ⟨y1, y2, y3⟩
          · exact absurd e hx1
          · have hcb := hc.2 _ (getD_mem (d := 0) hkc)
            have hsb := cnt_bnd (ps.take k.toNat)
            rw [← k2] at hsb
            simp at hsb
            rw [h] at hct
            refine Ok.no (decide_eq_false (by omega)) (Ok.no (decide_eq_false (by omega)) (Ok.chk (by simp; omega) ?_))
            have hsub : subL ps 0 k = ps.take k.toNat := by unfold subL; simp
            rw [hsub]
            refine Ok.beq (Listed_sp _ _ (by simp; omega)) (Ok.no (decide_eq_false (v2 hx1)) (Ok.beq (saves_sp hv m.2 ⟨y1, by omega⟩ hcb) (Ok.no (by rw [y3]; rfl) ?_)))
            exact next _ (by rw [hct, w64_id (by omega) (by omega)]; simp)
      · have hkk := of_decide_eq_false hcc
        simp only at hkk
        rw [List.take_of_length_le (by omega)] at k2
        refine Ok.no (by rw [k2, f3]; simp) ?_
        refine Ok.rounds (fun (v : VL32) => 0 ≤ v.1.2.2.2.1 ∧ v.1.2.2.2.1 ≤ 10) (fun (v : VL32) => (10 - v.1.2.2.2.1).toNat) (FUEL_big (by show ((10 : Int) - 0).toNat ≤ _; omega)) ⟨Int.le_refl _, by simp⟩ ?_
        rintro ⟨⟨d1, d2, d3, rd, d4⟩, ⟨⟨w5, d5⟩, d6⟩⟩ kn4 ⟨r0, r1⟩ hk4
        simp only at r0 r1 hk4 ⊢
        unfold RescueCalls_L32
        refine Ok.ite (fun hcc => ?_) (fun _ => hlast)
        have hrd := of_decide_eq_true hcc
        refine Ok.ite (fun hpp => ?_) (fun _ => hlast)
        have hpp := of_decide_eq_true hpp
        refine Ok.rounds (fun (v : VL36) => 0 ≤ v.1.2.2.2.2.1 ∧ v.1.2.2.2.2.1 ≤ calls.length ∧ ∃ as2 : List Int, (as2.length : Int) = v.1.2.2.2.2.1 ∧ VA (calls.map fun c => mayS s.2 m.2 c.toNat) as2 ∧ cnt as2 = v.1.2.2.2.1.length ∧ ∀ k ∈ as2, k ≠ -1 → k ∈ v.1.2.2.2.1) (fun (v : VL36) => (calls.length - v.1.2.2.2.2.1).toNat) (FUEL_big (by show ((calls.length : Int) - 0).toNat ≤ _; omega)) ⟨Int.le_refl _, by simp, [], rfl, VA.nil _, rfl, fun k hk => by cases hk⟩ ?_
        rintro ⟨⟨g1, g2, g3, used, x, g4⟩, ⟨⟨w6, g5⟩, g6⟩⟩ kn5 ⟨x0, x1, as2, x2, x3, x4, x5⟩ hk5
        simp only at x0 x1 x2 x4 x5 hk5 ⊢
        have hul : (used.length : Int) ≤ x := by have := (cnt_bnd as2).2; omega
        unfold RescueCalls_L36
        refine Ok.ite (fun hcc => ?_) (fun hcc => ?_)
        · have hx := of_decide_eq_true hcc
          have hx' : x.toNat < calls.length := by omega
          have e1 : w64 (x + 1) = x + 1 := w64_id (by omega) (by omega)
          have hal : as2.length = x.toNat := by omega
          rw [e1]
          refine Ok.bind (Below_ok _ (by omega)) fun p hp => Ok.beq (Listed_sp _ _ (by omega)) ?_
          have skip : ∀ w7, Ok (fun b => b = true) (kn5 ((g1, g2, g3, used, x + 1, g4), ((w7, g5), g6))) := fun w7 => by
            refine hk5 ((g1, g2, g3, used, x + 1, g4), ((w7, g5), g6)) ⟨by simp only; omega, by simp only; omega, as2 ++ [-1], by simp; omega, x3.snoc (by rw [hal, may_getD hx']; exact mem_may.2 (.inl rfl)) (fun h => absurd rfl h), by rw [cnt_append, x4]; simp [cnt], fun k hk1 hk2 => ?_⟩ (by simp only; omega)
            rcases List.mem_append.1 hk1 with hk1 | hk1
            · exact x5 k hk1 hk2
            · exact absurd (List.mem_singleton.1 hk1) hk2
          refine Ok.ite (fun hl => ?_) (fun _ => skip _)
          have hl : p.2 ∉ used := by simpa using hl
          have hcb := hc.2 _ (getD_mem (d := 0) hx')
          refine Ok.chk (ib x0 hx) (Ok.beq (saves_sp hv m.2 ⟨hp.1, by omega⟩ hcb) ?_)
          refine Ok.ite (fun hcan => ?_) (fun _ => skip _)
          refine Ok.chk (fitA_ok (by simp; omega) (by decide)) ?_
          refine hk5 ((g1, g2, g3, _, x + 1, g4), ((_, g5), g6)) ⟨by simp only; omega, by simp only; omega, as2 ++ [p.2], by simp; omega, x3.snoc (by rw [hal, may_getD hx']; exact mem_may.2 (.inr ⟨hp.1, by omega, hcan⟩)) (fun h1 h2 => hl (x5 _ h2 h1)), ?_, fun k hk1 hk2 => ?_⟩ (by simp only; omega)
          · have : (p.2 == -1) = false := by simp; omega
            rw [cnt_append, x4]; simp [cnt, this]
          · rcases List.mem_append.1 hk1 with hk1 | hk1
            · exact List.mem_append_left _ (x5 k hk1 hk2)
            · exact List.mem_append_right _ hk1
        · have hx := of_decide_eq_false hcc
          have h7 := f4 as2 x3 (by omega)
          refine Ok.no (decide_eq_false (by simp only; omega)) ?_
          have e1 : w64 (rd + 1) = rd + 1 := w64_id (by omega) (by omega)
          rw [e1]
          exact hk4 ((d1, d2, d3, rd + 1, d4), ((_, d5), d6)) ⟨by simp only; omega, by simp only; omega⟩ (by simp only; omega)
end Go.Proofs.Rescue07


/- How the arguments of a law are read as plain data of Lean, what the table of the four cases holds, and what a law that writes nothing older than itself leaves: its arguments read as they did. -/
namespace Go.Proofs.Ytoklcjdahicjmaa
open Go Go.Ab Go.ChangeShapes Go.WideShapes Go.ChangeAt Go.RowKit
set_option maxRecDepth 100000

/-- All that a world's memory holds. -/
def allK (w : World) : Nat → Nat → Option Value := fun b o => w.cell? ⟨b, o, none⟩
theorem allK_fits (w : World) : Fits (allK w) w := fun _ _ _ h => h

theorem cells3 : Try.prog.cellsOf 3 = 1 := by kernel_rfl
section
variable {H : Type} {enc : TypeId × Value → H} {W : World}

/-- Whatever reads as the type, stands for a datum of Lean. -/
def Rd {α : Type} (enc : TypeId × Value → H) (W : World) (t : TypeId) (ec : α → List D) : Prop :=
  ∀ n cs x, DataW.trod enc Try.prog W 0 (fun _ => true) true n t cs = some x → ∃ a : α, RepL (allK W) γ0 sv0 (ec a) cs

theorem rd_int : Rd enc W 3 encI := by
  intro n cs x h
  obtain ⟨a, rfl, _⟩ := DataW.trod_int Try.underlying3 h
  exact ⟨a, .cons _ _ _ _ (.int _ _) .nil⟩

theorem rd_slice {α : Type} [Inhabited α] {t e z : Nat} {ec : α → List D} (ht : Try.prog.underlying t = some (.slice e)) (hz : Try.prog.cellsOf e = z) (hz0 : 0 < z) (hl : ∀ a, (ec a).length = z)
    (hc : ∀ a, allCell (ec a) = true) (hr : Rd enc W e ec) : Rd enc W t (fun l : List α => [slOf z ec l]) := by
  intro n cs x h
  rcases Deep.open_slice ht h with ⟨rfl, rfl⟩ | ⟨a, len, cap, m, n', D, Pl, rfl, _, hlc, _, hm, rfl, hx⟩
  · exact ⟨[], .cons _ _ _ _ (.sl0 _ _) .nil⟩
  · simp only [if_true] at hm
    subst hm
    rw [hz] at hx
    rcases Nat.eq_zero_or_pos len with rfl | hpos
    · exact ⟨[], .cons _ _ _ _ (.slE _ _ _ _) .nil⟩
    · have hx' : ∀ i, i < len → ∃ p : α × List Value, W.cells? 0 (a.add (i * z)) z = some p.2 ∧ RepL (allK W) γ0 sv0 (ec p.1) p.2 := fun i hi => by
        obtain ⟨cs', h1, h2⟩ := hx i (by omega)
        obtain ⟨b, hb⟩ := hr _ _ _ h2
        exact ⟨(b, cs'), h1, hb⟩
      obtain ⟨F, hF⟩ := Deep.choose_lt hx'
      have hsp : a.spot = none := by
        obtain ⟨_, h1, h2⟩ := World.cells?_some (hF 0 hpos).1
        have h3 := h2 0 hz0
        rw [List.getElem?_eq_getElem (by omega)] at h3
        simpa [Addr.add] using World.cell?_spot h3
      obtain ⟨b, off, sp⟩ := a
      simp only at hsp
      subst hsp
      refine ⟨(List.range len).map (fun i => (F i).1), .cons _ _ _ _ ?_ .nil⟩
      have hlen : ((List.range len).map (fun i => (F i).1)).length = len := by simp
      have hg : ∀ i, i < len → ((List.range len).map (fun i => (F i).1)).getD i default = (F i).1 := fun i hi => by simp [List.getD, hi]
      unfold slOf
      rw [hlen]
      refine .sl z len _ b off m (fun i => (F i).2) hlc (fun i _ => hl _) (fun i _ => hc _) (fun i hi => by rw [hg i hi]; exact (hF i hi).2) (fun i j v hi hj => ?_)
      obtain ⟨_, h1, h2⟩ := World.cells?_some (hF i hi).1
      have hjl := (List.getElem?_eq_some_iff.1 hj).1
      have h3 := h2 j (by omega)
      rw [add_plain, add_plain, hj] at h3
      exact h3

theorem arg_ints {v : Value} {d : DataW H} {ps : List MemPlace} {base : Nat} (hv : Value.okWide Try.prog W .any base 28 v) (h : DataW.Trod enc Try.prog W 0 (fun _ => true) true 28 v d ps) :
    ∃ l : List Int, Rep (allK W) γ0 sv0 (slOf 1 encI l) v := by
  obtain ⟨n, hn⟩ := h
  obtain ⟨l, hl⟩ := rd_slice (ec := encI) Try.underlying28 cells3 (by decide) (fun _ => rfl) (fun _ => rfl) rd_int _ _ _ hn
  obtain ⟨a0, len, cap, rfl⟩ := okWide_slice Try.underlying28 hv
  cases hl with
  | cons _ _ _ _ k _ => exact ⟨l, k⟩
end
theorem glob_of {W : World} : GlobOk seat (allK W) := fun g l h => by cases h
theorem laidOut : laidOutB Try.prog = true := by kernel_rfl
theorem own : ownKnob Try.prog.godebug = none := by kernel_rfl

theorem trodAll_stays {H : Type} {enc : TypeId × Value → H} {W W' : World} {sp' : Nat → Bool} (hb : Below W.heap.size W W') : ∀ {ts : List TypeId} {vs : List Value} {ds : List (DataW H)} {ps : List MemPlace},
    (∀ t ∈ ts, Try.prog.readableRec t = true ∧ t < Try.prog.types.size) → DataW.TrodAll enc Try.prog W 0 (fun _ => true) true ts vs ds ps → (∀ p ∈ ps, p.block < W.heap.size) → (∀ p ∈ ps, sp' p.block = true) →
    DataW.TrodAll enc Try.prog W' 0 sp' true ts vs ds ps
  | [], [], [], _, _, h, _, _ => h
  | _ :: _, _ :: _, _ :: _, _, hT, ⟨p, q, h1, h2, e⟩, hlt, hs => ⟨p, q,
      WideElems.Trod_stays laidOut (hT _ (List.mem_cons_self ..)).1 (hT _ (List.mem_cons_self ..)).2 h1 (fun x hx => hb.same (hlt x (by rw [e]; exact List.mem_append_left _ hx))) (fun x hx => hs x (by rw [e]; exact List.mem_append_left _ hx)),
      trodAll_stays hb (fun t ht => hT t (List.mem_cons_of_mem _ ht)) h2 (fun x hx => hlt x (by rw [e]; exact List.mem_append_right _ hx)) (fun x hx => hs x (by rw [e]; exact List.mem_append_right _ hx)), e⟩

/-- A law that says yes and writes nothing older than itself. -/
theorem post_yes {H : Type} {enc : TypeId × Value → H} {f : Func} {s : ChangeSpec} {W W' : World} {args : Array Value} {ds gs : List (DataW H)} {before : List MemPlace}
    (hW : DataW.Whole enc Try.prog f.params.toList s.vars false W args.toList ds gs before) (hv : s.vars = []) (hb : Below W.heap.size W W')
    (hT : ∀ t ∈ f.params.toList, Try.prog.readableRec t = true ∧ t < Try.prog.types.size) (hrt : f.resultTypes = #[4])
    (hr : (s.fn H (ds ++ gs)).results = [.lit (.bool true)]) (ha : (s.fn H (ds ++ gs)).args = ds) (hvs : (s.fn H (ds ++ gs)).vars = []) :
    s.post enc Try.prog f false true false false W args (.bool true) W' := by
  have hlt := hW.lt
  have hW2 := hW
  obtain ⟨p, q, hA, hV, rfl, _, _⟩ := hW
  rw [hv] at hV
  obtain ⟨rfl, rfl⟩ := trodVars_none hV
  refine ⟨ds, [], p ++ [], [], p, [], hW2, ?_, ?_, ?_, hb.frame _, fun h => by cases h⟩
  · rw [hr, hrt]
    exact trodAll_mk1 (shut_bool Try.underlying4 _)
  · rw [ha]
    exact trodAll_stays hb hT hA (fun x hx => hlt x (by simpa using hx)) (fun x hx => by simpa using hlt x (by simpa using hx))
  · rw [hvs, hv]; rfl

/-- A world for the witness: the settled one. -/
noncomputable def laidWorld (os : Os) : World := World.holding Try.prog os ⟨#[], #[], []⟩
theorem ints_len {κ : Nat → Nat → Option Value} {γ : Nat → Nat} {sv : Nat → Value} {W : World} {base : Nat} {v : Value} {l : List Int} (hv : Value.okWide Try.prog W .any base 28 v) (h : Rep κ γ sv (slOf 1 encI l) v) : l.length ≤ 9223372036854775807 := by
  unfold slOf at h
  generalize hn : l.length = n at h
  cases h with
  | sl0 => omega
  | slE => omega
  | sl _ _ _ b off cap u hc =>
    simp only [Value.okWide, Cell.okWide, Cell.ok, Try.underlying28] at hv
    have h1 := hv.2.1
    have h2 : IntKind.i64.max = 9223372036854775807 := by decide
    rw [h2] at h1
    omega
section
variable {H : Type} {enc : TypeId × Value → H} {W : World}
end
end Go.Proofs.Ytoklcjdahicjmaa



/- Further readers of arguments. -/
namespace Go.Proofs.Ytoklcjdahicjmaa
open Go Go.Ab Go.ChangeShapes Go.WideShapes Go.ChangeAt Go.RowKit
set_option linter.all false
set_option maxRecDepth 100000
section
variable {H : Type} {enc : TypeId × Value → H} {W : World}
theorem fld {fs : Array Field} {xs : List (DataW H × List MemPlace)} {cs : List Value} {n : Nat}
    (hf : ∀ (i : Nat) (f : Field), fs[i]? = some f → DataW.trod enc Try.prog W 0 (fun _ => true) true n f.type ((cs.drop f.offset).take (Try.prog.cellsOf f.type)) = xs[i]?)
    (hl : xs.length = fs.size) (i : Nat) (f : Field) (hi : fs[i]? = some f) : ∃ y, DataW.trod enc Try.prog W 0 (fun _ => true) true n f.type ((cs.drop f.offset).take (Try.prog.cellsOf f.type)) = some y := by
  have h1 := (Array.getElem?_eq_some_iff.1 hi).1
  rw [← hl] at h1
  exact ⟨xs[i], by rw [hf i f hi]; exact List.getElem?_eq_getElem h1⟩
end
end Go.Proofs.Ytoklcjdahicjmaa

