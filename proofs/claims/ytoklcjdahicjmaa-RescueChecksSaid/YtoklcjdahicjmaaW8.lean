/- Walks by computing: what each function of the program that the laws reach gives for what it gets, as plain Lean, and that it is so; without a condition but those that stand in each theorem. -/
import Derived.Test.YtoklcjdahicjmaaW1
import Derived.Test.YtoklcjdahicjmaaW2
import Derived.Test.YtoklcjdahicjmaaW3
import Derived.Test.YtoklcjdahicjmaaW4
import Derived.Test.YtoklcjdahicjmaaW5
import Derived.Test.YtoklcjdahicjmaaW6
import Derived.Test.YtoklcjdahicjmaaW7
set_option linter.all false
namespace Go.Proofs.Rescue07
open Go Go.Ab Go.Ways
set_option linter.all false
theorem foldl_filter {α β γ : Type} (f : γ → β → γ) (g : α → β) (p : α → Bool) : ∀ (l : List α) (x : γ), ((l.filter p).map g).foldl f x = l.foldl (fun x a => bif p a then f x (g a) else x) x
  | [], _ => rfl
  | a :: l, x => by
    simp only [List.filter_cons, List.foldl_cons]
    cases h : p a with
    | true => simp only [if_true, List.map_cons, List.foldl_cons, cond_true]; exact foldl_filter f g p l _
    | false => simp only [Bool.false_eq_true, if_false, cond_false]; exact foldl_filter f g p l _
theorem filter_take {α : Type} (p : α → Bool) {l : List α} {i : Nat} {d : α} (h : i < l.length) : (l.take (i + 1)).filter p = (l.take i).filter p ++ (bif p (l.getD i d) then [l.getD i d] else []) := by
  rw [List.take_succ, List.getElem?_eq_getElem h, List.filter_append, List.getD_eq_getElem?_getD, List.getElem?_eq_getElem h]
  cases hp : p l[i] <;> simp [hp]
theorem getD_map {α β : Type} (f : α → β) {l : List α} {i : Nat} {d : α} {e : β} (h : i < l.length) : (l.map f).getD i e = f (l.getD i d) := by
  simp [List.getD_eq_getElem?_getD, List.getElem?_map, List.getElem?_eq_getElem h]
theorem pGo_sp {r : Rescue} (hf : Few r) (k : Int) : pGo r k = some (bif eR r != 0 then ([], eR r) else bif !(inR k 0 ((r.Posts.length : Int) - 1)) then ([], 7) else (goesS r (r.Posts.getD k.toNat dfltPost), 0)) := by
  rw [pGo_eq]; unfold pGo'
  rw [pCheck_sp r hf]
  simp only [Option.bind_some, within_sp]
  cases he : (eR r != 0) with
  | true => rfl
  | false =>
    have hv := eR_zero.1 (show eR r = 0 by simpa using he)
    have h2 := hv.nPosts
    have e1 : w64 ((r.Posts.length : Int) - 1) = (r.Posts.length : Int) - 1 := w64_id (by omega) (by omega)
    rw [e1]
    cases hk : inR k 0 ((r.Posts.length : Int) - 1) with
    | false => rfl
    | true =>
      have hk' := inR_iff.1 hk
      simp only [Bool.not_true, cond_false]
      rw [show (decide (0 ≤ k) && decide (k < (r.Posts.length : Int))) = true from ib hk'.1 (by omega)]
      simp only [chk, cond_true]
      rw [goes_sp hv (hv.posts _ (getD_mem (by omega)))]
      rfl
theorem rGo_sp {r : Rescue} (hf : Few r) (k : Int) : rGo r k = some (bif eR r != 0 then ([], eR r) else bif !(inR k 0 ((r.Posts.length : Int) - 1)) then ([], 7) else (goesS r (r.Posts.getD k.toNat dfltPost), 0)) := by
  rw [rGo_eq]; unfold rGo'
  rw [rCheck_sp r hf]
  simp only [Option.bind_some, outside_sp]
  cases he : (eR r != 0) with
  | true => rfl
  | false =>
    have hv := eR_zero.1 (show eR r = 0 by simpa using he)
    have h2 := hv.nPosts
    have e1 : w64 ((r.Posts.length : Int) - 1) = (r.Posts.length : Int) - 1 := w64_id (by omega) (by omega)
    rw [e1]
    cases hk : inR k 0 ((r.Posts.length : Int) - 1) with
    | false => rfl
    | true =>
      have hk' := inR_iff.1 hk
      simp only [Bool.not_true, cond_false]
      rw [show (decide (0 ≤ k) && decide (k < (r.Posts.length : Int))) = true from ib hk'.1 (by omega)]
      simp only [chk, cond_true]
      rw [rGoes_sp hv (hv.posts _ (getD_mem (by omega)))]
      rfl
abbrev VS2 := (Unit × List Span × Int × Unit) × Unit
theorem pLives_sp {r : Rescue} (hf : Few r) : pLives r = some (bif eR r != 0 then ([], eR r) else (r.Water.map (livesS r), 0)) := by
  rw [pLives_eq]; unfold pLives'
  rw [pCheck_sp r hf]
  simp only [Option.bind_some]
  cases he : (eR r != 0) with
  | true => rfl
  | false =>
    have hv := eR_zero.1 (show eR r = 0 by simpa using he)
    have hw := hv.water
    have hsp := hv.spots
    have hwl := hw.1
    simp only [cond_false]
    refine ok_eq (Ok.rounds (fun (v : VS2) => 0 ≤ v.1.2.2.1 ∧ v.1.2.2.1 ≤ r.Water.length ∧ v.1.2.1 = (r.Water.take v.1.2.2.1.toNat).map (livesS r)) (fun (v : VS2) => (r.Water.length - v.1.2.2.1).toNat) (FUEL_big (by show ((r.Water.length : Int) - 0).toNat ≤ _; omega)) ⟨Int.le_refl _, by simp, rfl⟩ ?_)
    rintro ⟨⟨u1, out, i, u2⟩, u3⟩ kn ⟨i0, i1, i2⟩ hk
    simp only at i0 i1 i2 hk ⊢
    unfold pLives_L6
    refine Ok.ite (fun hc => ?_) (fun hc => ?_)
    · have hi := of_decide_eq_true hc
      have hi' : i.toNat < r.Water.length := by omega
      have e1 : w64 (i + 1) = i + 1 := w64_id (by omega) (by omega)
      refine Ok.chk (ib i0 hi) (Ok.beq (lives_sp hv.chills (hw.2 _ (getD_mem hi'))) (Ok.chk (fitA_ok (by rw [i2]; simp; omega) (by decide)) ?_))
      rw [e1]
      refine hk ((u1, _, i + 1, u2), u3) ⟨by simp only; omega, by simp only; omega, ?_⟩ (by simp only; omega)
      simp only [toNat_succ i0]
      rw [map_take_succ (d := dfltSpan) _ hi', i2]
    · have hi := of_decide_eq_false hc
      exact Ok.some (by rw [i2, map_take_all _ (by omega)])
theorem rLives0_sp {r : Rescue} (hv : RV r) : rLives0 r = some (r.Water.map (livesS r)) := by
  have hw := hv.water
  have hsp := hv.spots
  have hwl := hw.1
  rw [rLives0_eq]; unfold rLives0'
  refine ok_eq (Ok.rounds (fun (v : VS2) => 0 ≤ v.1.2.2.1 ∧ v.1.2.2.1 ≤ r.Water.length ∧ v.1.2.1 = (r.Water.take v.1.2.2.1.toNat).map (livesS r)) (fun (v : VS2) => (r.Water.length - v.1.2.2.1).toNat) (FUEL_big (by show ((r.Water.length : Int) - 0).toNat ≤ _; omega)) ⟨Int.le_refl _, by simp, rfl⟩ ?_)
  rintro ⟨⟨u1, out, i, u2⟩, u3⟩ kn ⟨i0, i1, i2⟩ hk
  simp only at i0 i1 i2 hk ⊢
  unfold rLives0_L3
  refine Ok.ite (fun hc => ?_) (fun hc => ?_)
  · have hi := of_decide_eq_true hc
    have hi' : i.toNat < r.Water.length := by omega
    have e1 : w64 (i + 1) = i + 1 := w64_id (by omega) (by omega)
    refine Ok.chk (ib i0 hi) (Ok.beq (chill_sp hv.chills.len _) (Ok.chk (ib i0 hi) (Ok.beq (chill_sp hv.chills.len _) (Ok.chk (fitA_ok (by rw [i2]; simp; omega) (by decide)) ?_))))
    rw [e1]
    refine hk ((u1, _, i + 1, u2), u3) ⟨by simp only; omega, by simp only; omega, ?_⟩ (by simp only; omega)
    simp only [toNat_succ i0]
    rw [map_take_succ (d := dfltSpan) _ hi', i2]; rfl
  · have hi := of_decide_eq_false hc
    exact Ok.some (by rw [i2, map_take_all _ (by omega)])
theorem rLives_sp {r : Rescue} (hf : Few r) : rLives r = some (bif eR r != 0 then ([], eR r) else (r.Water.map (livesS r), 0)) := by
  rw [rLives_eq]; unfold rLives'
  rw [rCheck_sp r hf]
  simp only [Option.bind_some]
  cases he : (eR r != 0) with
  | true => rfl
  | false =>
    rw [rLives0_sp (eR_zero.1 (show eR r = 0 by simpa using he))]; rfl
def mannedB (p : Post) (m : Int) : Bool := bif decide (p.From < p.To) then decide (p.From ≤ m) && decide (m < p.To) else decide (m ≥ p.From) || decide (m < p.To)
theorem manned_sp (p : Post) (m : Int) : manned p m = some (mannedB p m) := by
  rw [manned_eq]; unfold manned' mannedB
  cases decide (p.From < p.To) <;> cases decide (p.From ≤ m) <;> cases decide (m ≥ p.From) <;> rfl
def minS (x y : Span) : Span := ⟨min x.Lo y.Lo, min x.Hi y.Hi⟩
def topS : Span := ⟨1000000, 1000000⟩
def reachS (r : Rescue) (m : Int) (k : Nat) : Span := r.Posts.foldl (fun x p => bif mannedB p m then minS x (goS r p k) else x) topS
def verdS (x y : Span) : Int := bif decide (x.Hi ≤ y.Lo) then 1 else bif decide (x.Lo > y.Hi) then 2 else 3
def coverS (r : Rescue) (m : Int) (k : Nat) : Int := verdS (reachS r m k) (livesS r (r.Water.getD k dfltSpan))
def watchS (r : Rescue) : Watch := ⟨r, r.Posts.map (goesS r), r.Water.map (livesS r)⟩
abbrev VW1 := (Unit × Unit × Unit × Int × Unit) × ((Int × (List Path) × (List Post) × (List Span) × (List Chill) × (List (List Span)) × Unit × Unit) × Unit)
abbrev VW2 := (Unit × Unit × Unit × Int × Unit) × ((Int × (List Path) × (List Post) × (List Span) × (List Chill) × Unit × (List Span) × Unit) × Unit)
theorem watchOf_sp {r : Rescue} (hv : RV r) : watchOf r = some (watchS r) := by
  have hw := hv.water
  have hsp := hv.spots
  have hwl := hw.1
  have hnp := hv.nPosts
  rw [watchOf_eq]; unfold watchOf'
  refine ok_eq (Ok.rounds (fun (v : VW1) => 0 ≤ v.1.2.2.2.1 ∧ v.1.2.2.2.1 ≤ r.Posts.length ∧ v.2 = ((r.Spots, r.Paths, r.Posts, r.Water, r.Chills, (r.Posts.take v.1.2.2.2.1.toNat).map (goesS r), (), ()), ())) (fun (v : VW1) => (r.Posts.length - v.1.2.2.2.1).toNat) (FUEL_big (by show ((r.Posts.length : Int) - 0).toNat ≤ _; omega)) ⟨Int.le_refl _, by simp, rfl⟩ ?_)
  rintro ⟨⟨u1, u2, u3, i, u4⟩, v2⟩ kn ⟨i0, i1, i2⟩ hk
  simp only at i0 i1 i2 hk
  subst i2
  simp only
  unfold watchOf_L3
  refine Ok.ite (fun hc => ?_) (fun hc => ?_)
  · have hi := of_decide_eq_true hc
    have hi' : i.toNat < r.Posts.length := by omega
    have e1 : w64 (i + 1) = i + 1 := w64_id (by omega) (by omega)
    refine Ok.chk (ib i0 hi) (Ok.beq (goes_sp hv (hv.posts _ (getD_mem hi'))) (Ok.chk (fitA_ok (by simp; omega) (by decide)) ?_))
    rw [e1, ← map_take_succ (d := dfltPost) _ hi', ← toNat_succ i0]
    exact hk ((u1, u2, u3, i + 1, u4), _) ⟨by simp only; omega, by simp only; omega, rfl⟩ (by simp only; omega)
  · have hi := of_decide_eq_false hc
    rw [map_take_all _ (by omega)]
    refine Ok.rounds (fun (v : VW2) => 0 ≤ v.1.2.2.2.1 ∧ v.1.2.2.2.1 ≤ r.Water.length ∧ v.2 = ((r.Spots, r.Paths, r.Posts, r.Water, r.Chills, (), (r.Water.take v.1.2.2.2.1.toNat).map (livesS r), ()), ())) (fun (v : VW2) => (r.Water.length - v.1.2.2.2.1).toNat) (FUEL_big (by show ((r.Water.length : Int) - 0).toNat ≤ _; omega)) ⟨Int.le_refl _, by simp, rfl⟩ ?_
    rintro ⟨⟨u1, u2, u3, i, u4⟩, v2⟩ kn ⟨i0, i1, i2⟩ hk
    simp only at i0 i1 i2 hk
    subst i2
    simp only
    unfold watchOf_L8
    refine Ok.ite (fun hc => ?_) (fun hc => ?_)
    · have hi := of_decide_eq_true hc
      have hi' : i.toNat < r.Water.length := by omega
      have e1 : w64 (i + 1) = i + 1 := w64_id (by omega) (by omega)
      refine Ok.chk (ib i0 hi) (Ok.beq (lives_sp hv.chills (hw.2 _ (getD_mem hi'))) (Ok.chk (fitA_ok (by simp; omega) (by decide)) ?_))
      rw [e1, ← map_take_succ (d := dfltSpan) _ hi', ← toNat_succ i0]
      exact hk ((u1, u2, u3, i + 1, u4), _) ⟨by simp only; omega, by simp only; omega, rfl⟩ (by simp only; omega)
    · have hi := of_decide_eq_false hc
      exact Ok.some (by rw [map_take_all _ (by omega)]; rfl)
theorem goes_getD {r : Rescue} {p : Post} {k : Nat} (hk : k < r.Spots.toNat) : (goesS r p).getD k dfltSpan = goS r p k := getD_range _ _ hk
theorem goes_len (r : Rescue) (p : Post) : (goesS r p).length = r.Spots.toNat := len_range _ _
theorem times_getD {r : Rescue} {i : Nat} (hi : i < r.Posts.length) : (r.Posts.map (goesS r)).getD i [] = goesS r (r.Posts.getD i dfltPost) := getD_map _ hi
abbrev VX := (Unit × Unit × Int × Unit) × ((Int × Int × Unit) × Unit)
theorem soonest_sp (l : List Span) (hl : l.length ≤ 1000) : soonest l = some (l.foldl minS topS) := by
  rw [soonest_eq]; unfold soonest'
  refine ok_eq (Ok.rounds (fun (v : VX) => 0 ≤ v.1.2.2.1 ∧ v.1.2.2.1 ≤ l.length ∧ (⟨v.2.1.1, v.2.1.2.1⟩ : Span) = (l.take v.1.2.2.1.toNat).foldl minS topS) (fun (v : VX) => (l.length - v.1.2.2.1).toNat) (FUEL_big (by show ((l.length : Int) - 0).toNat ≤ _; omega)) ⟨Int.le_refl _, by simp, rfl⟩ ?_)
  rintro ⟨⟨u1, u2, i, u3⟩, ⟨⟨a, b, u4⟩, u5⟩⟩ kn ⟨i0, i1, i2⟩ hk
  simp only at i0 i1 i2 hk ⊢
  unfold soonest_L3
  refine Ok.ite (fun hc => ?_) (fun hc => ?_)
  · have hi := of_decide_eq_true hc
    have e1 : w64 (i + 1) = i + 1 := w64_id (by omega) (by omega)
    refine Ok.chk (ib i0 hi) ?_
    rw [e1]
    refine hk ((u1, u2, i + 1, u3), ((_, _, u4), u5)) ⟨by simp only; omega, by simp only; omega, ?_⟩ (by simp only; omega)
    simp only [toNat_succ i0]
    rw [foldl_take minS (d := dfltSpan) (show i.toNat < l.length by omega), ← i2]; rfl
  · have hi := of_decide_eq_false hc
    exact Ok.some (by rw [i2, List.take_of_length_le (by omega)])
abbrev VR := (Unit × Unit × List Span × Int × Unit) × Unit
theorem reachW_sp {r : Rescue} (hv : RV r) (m : Int) {k : Int} (hk : 0 ≤ k ∧ k < r.Spots) : reachW (watchS r) m k = some (reachS r m k.toNat) := by
  have hnp := hv.nPosts
  have hkn : k.toNat < r.Spots.toNat := by omega
  rw [reachW_eq]; unfold reachW'
  refine ok_eq (Ok.rounds (fun (v : VR) => 0 ≤ v.1.2.2.2.1 ∧ v.1.2.2.2.1 ≤ r.Posts.length ∧ v.1.2.2.1 = ((r.Posts.take v.1.2.2.2.1.toNat).filter fun p => mannedB p m).map (fun p => goS r p k.toNat)) (fun (v : VR) => (r.Posts.length - v.1.2.2.2.1).toNat) (FUEL_big (by show ((r.Posts.length : Int) - 0).toNat ≤ _; omega)) ⟨Int.le_refl _, by simp, rfl⟩ ?_)
  rintro ⟨⟨u1, u2, l, i, u3⟩, u4⟩ kn ⟨i0, i1, i2⟩ hk2
  simp only at i0 i1 i2 hk2 ⊢
  unfold reachW_L3
  show Ok _ (bif decide (i < (r.Posts.length : Int)) then _ else _)
  have hll : l.length ≤ r.Posts.length := by
    rw [i2, List.length_map]
    exact Nat.le_trans (List.length_filter_le _ _) (by simp; omega)
  refine Ok.ite (fun hc => ?_) (fun hc => ?_)
  · have hi := of_decide_eq_true hc
    have hi' : i.toNat < r.Posts.length := by omega
    have e1 : w64 (i + 1) = i + 1 := w64_id (by omega) (by omega)
    have hg : (watchS r).times.getD i.toNat [] = goesS r (r.Posts.getD i.toNat dfltPost) := times_getD hi'
    have hwr : (watchS r).Rescue = r := rfl
    refine Ok.chk (ib i0 hi) (Ok.beq (manned_sp _ _) ?_)
    rw [e1, hg, hwr, goes_getD hkn]
    have hft := filter_take (fun p => mannedB p m) (d := dfltPost) hi'
    have hlt : (watchS r).times.length = r.Posts.length := by simp [watchS]
    refine Ok.ite (fun hm => ?_) (fun hm => ?_)
    · refine Ok.chk (by rw [hlt]; exact ib i0 hi) (Ok.chk (by rw [goes_len]; exact ib hk.1 (by omega)) (Ok.chk (fitA_ok (by simp; omega) (by decide)) ?_))
      refine hk2 ((u1, u2, _, i + 1, u3), u4) ⟨by simp only; omega, by simp only; omega, ?_⟩ (by simp only; omega)
      simp only [toNat_succ i0]
      rw [hft, hm, List.map_append, ← i2]; rfl
    · refine hk2 ((u1, u2, _, i + 1, u3), u4) ⟨by simp only; omega, by simp only; omega, ?_⟩ (by simp only; omega)
      simp only [toNat_succ i0]
      rw [hft, hm, List.map_append, ← i2]; simp
  · have hi := of_decide_eq_false hc
    refine Ok.beq (soonest_sp l (by omega)) (Ok.some ?_)
    rw [i2, List.take_of_length_le (by omega), foldl_filter]; rfl
theorem coverW_sp {r : Rescue} (hv : RV r) (m : Int) {k : Int} (hk : 0 ≤ k ∧ k < r.Spots) : coverW (watchS r) m k = some (coverS r m k.toNat) := by
  have hw := hv.water.1
  rw [coverW_eq]; unfold coverW'
  rw [reachW_sp hv m hk]
  have hl : (decide (0 ≤ k) && decide (k < ((watchS r).lives.length : Int))) = true := ib hk.1 (by simp [watchS]; omega)
  have hg : (watchS r).lives.getD k.toNat dfltSpan = livesS r (r.Water.getD k.toNat dfltSpan) := getD_map _ (by omega)
  simp only [Option.bind_some, hl, chk, cond_true, hg]
  unfold coverS verdS
  cases decide ((reachS r m k.toNat).Hi ≤ (livesS r (r.Water.getD k.toNat dfltSpan)).Lo) <;> cases decide ((reachS r m k.toNat).Lo > (livesS r (r.Water.getD k.toNat dfltSpan)).Hi) <;> rfl
theorem asked_sp {r : Rescue} (hf : Few r) (m : Int) : asked r m = some (bif eR r != 0 then (⟨⟨0, [], [], [], []⟩, [], []⟩, eR r) else bif !(inR m 0 1439) then (⟨⟨0, [], [], [], []⟩, [], []⟩, 2) else (watchS r, 0)) := by
  rw [asked_eq]; unfold asked'
  rw [pCheck_sp r hf]
  simp only [Option.bind_some, within_sp]
  cases he : (eR r != 0) with
  | true => rfl
  | false =>
    cases hm : inR m 0 1439 with
    | false => rfl
    | true => rw [watchOf_sp (eR_zero.1 (show eR r = 0 by simpa using he))]; rfl
def askS {α : Type} (r : Rescue) (m : Int) (d x : α) : α × Int := bif eR r != 0 then (d, eR r) else bif !(inR m 0 1439) then (d, 2) else (x, 0)
abbrev VI2 := (Unit × List Int × Int × Unit) × Unit
theorem pCover_sp {r : Rescue} (hf : Few r) (m : Int) : pCover r m = some (askS r m [] ((List.range r.Spots.toNat).map (coverS r m))) := by
  rw [pCover_eq]; unfold pCover'
  rw [asked_sp hf]
  simp only [Option.bind_some]
  unfold askS
  cases he : (eR r != 0) with
  | true => simp only [cond_true, he]
  | false =>
    cases hm : inR m 0 1439 with
    | false => rfl
    | true =>
      have hv := eR_zero.1 (show eR r = 0 by simpa using he)
      have hsp := hv.spots
      simp only [cond_false, Bool.not_true, show ((0:Int) != 0) = false from rfl]
      refine ok_eq (Ok.rounds (fun (v : VI2) => 0 ≤ v.1.2.2.1 ∧ v.1.2.2.1 ≤ r.Spots ∧ v.1.2.1 = (List.range v.1.2.2.1.toNat).map (coverS r m)) (fun (v : VI2) => (r.Spots - v.1.2.2.1).toNat) (FUEL_big (by show (r.Spots - 0).toNat ≤ _; omega)) ⟨Int.le_refl _, by simp; omega, rfl⟩ ?_)
      rintro ⟨⟨u1, out, k, u2⟩, u3⟩ kn ⟨i0, i1, i2⟩ hk
      simp only at i0 i1 i2 hk ⊢
      unfold pCover_L6
      refine Ok.ite (fun hc => ?_) (fun hc => ?_)
      · have hi := of_decide_eq_true hc
        have e1 : w64 (k + 1) = k + 1 := w64_id (by omega) (by omega)
        refine Ok.beq (coverW_sp hv m ⟨i0, hi⟩) (Ok.chk (fitA_ok (by rw [i2]; simp; omega) (by decide)) ?_)
        rw [e1]
        refine hk ((u1, _, k + 1, u2), u3) ⟨by simp only; omega, by simp only; omega, ?_⟩ (by simp only; omega)
        simp only [toNat_succ i0]
        rw [← range_snoc, i2]
      · have hi := of_decide_eq_false hc
        exact Ok.some (by rw [i2, show k.toNat = r.Spots.toNat by omega])
end Go.Proofs.Rescue07
namespace Go.Proofs.Rescue07
open Go Go.Ab Go.Ways
set_option linter.all false
theorem Clone_sp (s : List Int) (hs : s.length ≤ 1000) : Clone s = some s := by
  rw [Clone_eq]; unfold Clone'
  have hf : fitA (([] : List Int).length + s.length) 8 = true := fitA_ok (by simp; omega) (by decide)
  rw [hf]
  simp only [chk, cond_true, List.nil_append]
  rw [opNil_eq]
  intro h
  rw [List.isEmpty_iff] at h; subst h; rfl
theorem mem_drop {l : List Int} {v : Int} {i : Nat} {d : Int} (h : i < l.length) : v ∈ l.drop i ↔ v = l.getD i d ∨ v ∈ l.drop (i + 1) := by rw [drop_get (d := d) h, List.mem_cons]
theorem Index_sp (l : List Int) (v : Int) (hl : l.length ≤ 1000) : Ok (fun r => decide (r ≥ 0) = decide (v ∈ l)) (Index l v) := by
  rw [Index_eq]; unfold Index'
  refine Ok.mono (Ok.roundsD (P := fun (w : V1) r => decide (r ≥ 0) = decide (v ∈ l.drop w.1.1.toNat)) (fun (w : V1) => 0 ≤ w.1.1 ∧ w.1.1 ≤ l.length) (fun (w : V1) => (l.length - w.1.1).toNat) (FUEL_big (by show ((l.length : Int) - 0).toNat ≤ _; omega)) ⟨Int.le_refl _, by simp⟩ ?_) (fun r h => by simpa using h)
  rintro ⟨⟨i, u⟩, u'⟩ kn ⟨h0, h1⟩ hk
  simp only at h0 h1 hk ⊢
  unfold Index_L2
  refine Ok.ite (fun hc => ?_) (fun hc => ?_)
  · have hi := of_decide_eq_true hc
    have hd := mem_drop (v := v) (d := 0) (show i.toNat < l.length by omega)
    refine Ok.chk (ib h0 hi) ?_
    refine Ok.ite (fun h => ?_) (fun h => ?_)
    · have h : v = l.getD i.toNat 0 := by simpa using h
      exact Ok.some (by rw [decide_eq_true (hd.2 (.inl h))]; exact decide_eq_true h0)
    · have h : ¬ v = l.getD i.toNat 0 := by simpa using h
      have e1 : w64 (i + 1) = i + 1 := w64_id (by omega) (by omega)
      rw [e1]
      refine (hk ((i + 1, u), u') ⟨by simp only; omega, by simp only; omega⟩ (by simp only; omega)).mono fun r hr => ?_
      simp only [toNat_succ h0] at hr
      rw [hr]
      simp only [hd, h, false_or]
  · have := of_decide_eq_false hc
    exact Ok.some (by rw [List.drop_eq_nil_of_le (by omega)]; simp)
theorem Contains_sp (l : List Int) (v : Int) (hl : l.length ≤ 1000) : Contains l v = some (decide (v ∈ l)) := by
  rw [Contains_eq]; unfold Contains'
  exact ok_eq (Ok.bind (Index_sp l v hl) fun r hr => Ok.some hr)
def srch (n : Nat) (may : List (List Int)) : Nat → List Int → Int → Int × List Int → Int × List Int
  | 0, _, _, st => st
  | d + 1, now, sum, st => bif decide (sum + n - now.length ≤ st.1) then st else bif decide (now.length = n) then (sum, now) else
    (may.getD now.length []).foldl (fun st k => bif k == -1 then srch n may d (now ++ [k]) sum st else bif !(decide (k ∈ now)) then srch n may d (now ++ [k]) (sum + 1) st else st) st
theorem foldl_inv {α β : Type} {I : β → Prop} {f : β → α → β} : ∀ {l : List α} {x : β}, I x → (∀ x a, a ∈ l → I x → I (f x a)) → I (l.foldl f x)
  | [], _, h, _ => h
  | a :: l, x, h, hf => foldl_inv (l := l) (hf x a (List.mem_cons_self ..) h) fun x b hb => hf x b (List.mem_cons_of_mem _ hb)
theorem srch_bnd (n : Nat) (may : List (List Int)) : ∀ (d : Nat) (now : List Int) (sum : Int) (st : Int × List Int), 0 ≤ sum → sum ≤ now.length → now.length + d ≤ n + 1 → -1 ≤ st.1 ∧ st.1 ≤ n → -1 ≤ (srch n may d now sum st).1 ∧ (srch n may d now sum st).1 ≤ n
  | 0, now, sum, st, _, _, _, h => h
  | d + 1, now, sum, st, h1, h2, h3, h => by
    simp only [srch]
    cases decide (sum + n - now.length ≤ st.1) with
    | true => exact h
    | false =>
      cases decide (now.length = n) with
      | true => simp only [cond_true, cond_false]; omega
      | false =>
        simp only [cond_false]
        refine foldl_inv (I := fun st : Int × List Int => -1 ≤ st.1 ∧ st.1 ≤ n) h fun x k _ hx => ?_
        cases (k == -1) with
        | true => exact srch_bnd n may d _ _ _ h1 (by simp; omega) (by simp; omega) hx
        | false =>
          cases decide (k ∈ now) with
          | true => exact hx
          | false => exact srch_bnd n may d _ _ _ (by omega) (by simp; omega) (by simp; omega) hx
abbrev VTry := (Unit × Int × Unit) × ((Unit × Unit) × (Int × Unit) × ((List Int) × Unit) × Unit)
theorem trySF_sp (calls : List Int) (may : List (List Int)) (hl : may.length = calls.length) (hn : calls.length ≤ 100) (hm : ∀ l ∈ may, l.length ≤ 1000) :
    ∀ (d N : Nat) (now : List Int) (sum x1 : Int) (x2 : List Int), now.length + d = calls.length → d < N → 0 ≤ sum → sum ≤ now.length → -1 ≤ x1 ∧ x1 ≤ calls.length →
      trySF N (calls, x1, x2, may, ()) (now, sum, ()) = some ((srch calls.length may (d + 1) now sum (x1, x2)).1, (srch calls.length may (d + 1) now sum (x1, x2)).2, ()) := by
  intro d
  induction d with
  | zero =>
    intro N now sum x1 x2 h1 h2 h3 h4 h5
    obtain ⟨N, rfl⟩ : ∃ M, N = M + 1 := ⟨N - 1, by omega⟩
    simp only [trySF, tryS', srch]
    have e1 : w64 (w64 (sum + (calls.length : Int)) - (now.length : Int)) = sum + calls.length - now.length := by
      rw [w64_id (n := sum + (calls.length : Int)) (by omega) (by omega)]; exact w64_id (by omega) (by omega)
    rw [e1]
    cases decide (sum + (calls.length : Int) - now.length ≤ x1) with
    | true => rfl
    | false =>
      rw [show ((now.length : Int) == (calls.length : Int)) = true by simp; omega, decide_eq_true (show now.length = calls.length by omega)]
      simp only [cond_true, cond_false]
      rw [Clone_sp now (by omega)]
      rfl
  | succ d ih =>
    intro N now sum x1 x2 h1 h2 h3 h4 h5
    obtain ⟨N, rfl⟩ : ∃ M, N = M + 1 := ⟨N - 1, by omega⟩
    have e1 : w64 (w64 (sum + (calls.length : Int)) - (now.length : Int)) = sum + calls.length - now.length := by
      rw [w64_id (n := sum + (calls.length : Int)) (by omega) (by omega)]; exact w64_id (by omega) (by omega)
    rw [srch]
    simp only [trySF, tryS']
    rw [e1]
    cases decide (sum + (calls.length : Int) - now.length ≤ x1) with
    | true => rfl
    | false =>
      have hlt : now.length < may.length := by omega
      rw [show ((now.length : Int) == (calls.length : Int)) = false by simp; omega, decide_eq_false (show ¬ now.length = calls.length by omega)]
      simp only [cond_false]
      rw [show (decide (0 ≤ (now.length : Int)) && decide ((now.length : Int) < (may.length : Int))) = true from ib (by omega) (by omega)]
      simp only [chk, cond_true]
      obtain ⟨ks, hks⟩ : ∃ ks, may.getD now.length [] = ks := ⟨_, rfl⟩
      have hkl : ks.length ≤ 1000 := by rw [← hks]; exact hm _ (getD_mem hlt)
      obtain ⟨f, hf⟩ : ∃ f : Int × List Int → Int → Int × List Int, (fun (st : Int × List Int) (k : Int) => bif k == -1 then srch calls.length may (d + 1) (now ++ [k]) sum st else bif !(decide (k ∈ now)) then srch calls.length may (d + 1) (now ++ [k]) (sum + 1) st else st) = f := ⟨_, rfl⟩
      have hfe : ∀ st k, f st k = bif k == -1 then srch calls.length may (d + 1) (now ++ [k]) sum st else bif !(decide (k ∈ now)) then srch calls.length may (d + 1) (now ++ [k]) (sum + 1) st else st := fun st k => by rw [← hf]
      rw [hf, hks]
      apply ok_eq
      refine Ok.rounds (fun (v : VTry) => 0 ≤ v.1.2.1 ∧ v.1.2.1 ≤ ks.length ∧ (v.2.2.1.1, v.2.2.2.1.1) = (ks.take v.1.2.1.toNat).foldl f (x1, x2) ∧ -1 ≤ v.2.2.1.1 ∧ v.2.2.1.1 ≤ calls.length) (fun (v : VTry) => (ks.length - v.1.2.1).toNat) (FUEL_big (by show ((ks.length : Int) - 0).toNat ≤ _; omega)) ⟨Int.le_refl _, by simp, rfl, h5.1, h5.2⟩ ?_
      rintro ⟨⟨u1, i, u2⟩, ⟨⟨u3, u4⟩, ⟨s2, u5⟩, ⟨b2, u6⟩, u7⟩⟩ kn ⟨i0, i1, i2, i3, i4⟩ hk
      simp only at i0 i1 i2 i3 i4 hk ⊢
      unfold tryS_L4
      simp only [Int.toNat_natCast, hks]
      refine Ok.ite (fun hc => ?_) (fun hc => ?_)
      · have hi := of_decide_eq_true hc
        have hi' : i.toNat < ks.length := by omega
        have e2 : w64 (i + 1) = i + 1 := w64_id (by omega) (by omega)
        have e3 : w64 (sum + 1) = sum + 1 := w64_id (by omega) (by omega)
        have hft := foldl_take f (d := 0) hi' (x1, x2)
        rw [← i2, hfe] at hft
        obtain ⟨k, hk0⟩ : ∃ k, ks.getD i.toNat 0 = k := ⟨_, rfl⟩
        rw [hk0] at hft ⊢
        rw [e2, e3]
        have next : ∀ st : Int × List Int, (ks.take (i.toNat + 1)).foldl f (x1, x2) = st → -1 ≤ st.1 ∧ st.1 ≤ calls.length → Ok (fun b => b = ((ks.foldl f (x1, x2)).1, (ks.foldl f (x1, x2)).2, ())) (kn ((u1, i + 1, u2), ((u3, u4), (st.1, u5), (st.2, u6), u7))) := fun st h6 h7 =>
          hk ((u1, i + 1, u2), ((u3, u4), (st.1, u5), (st.2, u6), u7)) ⟨by simp only; omega, by simp only; omega, by simp only [toNat_succ i0]; rw [h6], h7.1, h7.2⟩ (by simp only; omega)
        refine Ok.chk (ib i0 hi) ?_
        have hfit : fitA (now.length + [k].length) 8 = true := fitA_ok (by simp; omega) (by decide)
        cases hk1 : (k == -1) with
        | true =>
          rw [hk1] at hft
          simp only [cond_true] at hft ⊢
          refine Ok.beq (Clone_sp now (by omega)) (Ok.chk hfit (Ok.beq (ih N (now ++ [k]) sum s2 b2 (by simp; omega) (by omega) h3 (by simp; omega) ⟨i3, i4⟩) ?_))
          exact next _ hft (srch_bnd _ _ _ _ _ _ h3 (by simp; omega) (by simp; omega) ⟨i3, i4⟩)
        | false =>
          rw [hk1] at hft
          simp only [cond_false] at hft ⊢
          refine Ok.beq (Contains_sp now k (by omega)) ?_
          cases hk2 : decide (k ∈ now) with
          | true =>
            rw [hk2] at hft
            exact next (s2, b2) hft ⟨i3, i4⟩
          | false =>
            rw [hk2] at hft
            simp only [Bool.not_false, cond_true] at hft ⊢
            refine Ok.beq (Clone_sp now (by omega)) (Ok.chk hfit (Ok.beq (ih N (now ++ [k]) (sum + 1) s2 b2 (by simp; omega) (by omega) (by omega) (by simp; omega) ⟨i3, i4⟩) ?_))
            exact next _ hft (srch_bnd _ _ _ _ _ _ (by omega) (by simp; omega) (by simp; omega) ⟨i3, i4⟩)
      · have hi := of_decide_eq_false hc
        rw [List.take_of_length_le (by omega)] at i2
        exact Ok.some (by rw [← i2])
def canS (r : Rescue) (m : Int) (spot k : Nat) : Bool := mannedB (r.Posts.getD k dfltPost) m && decide ((goS r (r.Posts.getD k dfltPost) spot).Hi ≤ (livesS r (r.Water.getD spot dfltSpan)).Lo)
def mayS (r : Rescue) (m : Int) (spot : Nat) : List Int := ((List.range r.Posts.length).filter (canS r m spot)).map (fun (k : Nat) => (k : Int)) ++ [-1]
theorem mayS_len (r : Rescue) (m : Int) (spot : Nat) : (mayS r m spot).length ≤ r.Posts.length + 1 := by
  simp only [mayS, List.length_append, List.length_map, List.length_singleton]
  have := List.length_filter_le (canS r m spot) (List.range r.Posts.length)
  simp at this; omega
theorem range_filter_succ (f : Nat → Bool) (i : Nat) : (List.range (i + 1)).filter f = (List.range i).filter f ++ (bif f i then [i] else []) := by
  rw [List.range_succ, List.filter_append]
  cases h : f i <;> simp [h]
abbrev VCh := (Unit × Int × Unit) × Unit
abbrev VCh5 := (Unit × (List Int) × Int × Unit) × Unit
def itemsS (r : Rescue) (m : Int) (calls : List Int) (a n : Nat) : List (Int × List Int × Unit) := (List.range' a n).map fun (i : Nat) => ((i : Int), mayS r m (calls.getD i 0).toNat, ())
theorem choices1_sp {r : Rescue} (hv : RV r) (m : Int) (calls : List Int) (hn : calls.length ≤ 6) (hc : ∀ c ∈ calls, 0 ≤ c ∧ c < r.Spots) : choices1 calls (watchS r) m = some (itemsS r m calls 0 calls.length) := by
  have hnp := hv.nPosts
  have hwl := hv.water.1
  rw [choices1_eq]; unfold choices1'
  apply ok_eq
  refine Ok.mono (Ok.roundsD (P := fun (v : VCh) x => x = itemsS r m calls v.1.2.1.toNat (calls.length - v.1.2.1.toNat)) (fun (v : VCh) => 0 ≤ v.1.2.1 ∧ v.1.2.1 ≤ calls.length) (fun (v : VCh) => (calls.length - v.1.2.1).toNat) (FUEL_big (by show ((calls.length : Int) - 0).toNat ≤ _; omega)) ⟨Int.le_refl _, by simp⟩ ?_) (fun x h => by simpa using h)
  rintro ⟨⟨u1, i, u2⟩, u3⟩ kn ⟨i0, i1⟩ hk
  simp only at i0 i1 hk ⊢
  unfold choices1_L1
  refine Ok.ite (fun hcc => ?_) (fun hcc => ?_)
  · have hi := of_decide_eq_true hcc
    have hi' : i.toNat < calls.length := by omega
    refine Ok.chk (ib i0 hi) ?_
    obtain ⟨c, hc0⟩ : ∃ c, calls.getD i.toNat 0 = c := ⟨_, rfl⟩
    have hcb : 0 ≤ c ∧ c < r.Spots := by rw [← hc0]; exact hc _ (getD_mem hi')
    have hcn : c.toNat < r.Spots.toNat := by omega
    refine Ok.rounds (fun (v : VCh5) => 0 ≤ v.1.2.2.1 ∧ v.1.2.2.1 ≤ r.Posts.length ∧ v.1.2.1 = ((List.range v.1.2.2.1.toNat).filter (canS r m c.toNat)).map (fun (k : Nat) => (k : Int))) (fun (v : VCh5) => (r.Posts.length - v.1.2.2.1).toNat) (FUEL_big (by show ((r.Posts.length : Int) - 0).toNat ≤ _; omega)) ⟨Int.le_refl _, by simp, rfl⟩ ?_
    rintro ⟨⟨w1, l, j, w2⟩, w3⟩ kn2 ⟨j0, j1, j2⟩ hk2
    simp only at j0 j1 j2 hk2 ⊢
    have hll : l.length ≤ r.Posts.length := by
      rw [j2, List.length_map]
      exact Nat.le_trans (List.length_filter_le _ _) (by simp; omega)
    unfold choices1_L5
    show Ok _ (bif decide (j < (r.Posts.length : Int)) then _ else _)
    refine Ok.ite (fun hcc => ?_) (fun hcc => ?_)
    · have hj := of_decide_eq_true hcc
      have hj' : j.toNat < r.Posts.length := by omega
      have e1 : w64 (j + 1) = j + 1 := w64_id (by omega) (by omega)
      have hg : (watchS r).times.getD j.toNat [] = goesS r (r.Posts.getD j.toNat dfltPost) := times_getD hj'
      have hwr : (watchS r).Rescue = r := rfl
      have hlt : (watchS r).times.length = r.Posts.length := by simp [watchS]
      have hlv : (watchS r).lives.getD c.toNat dfltSpan = livesS r (r.Water.getD c.toNat dfltSpan) := getD_map _ (by omega)
      have hll2 : (watchS r).lives.length = r.Water.length := by simp [watchS]
      have hrf := range_filter_succ (canS r m c.toNat) j.toNat
      refine Ok.chk (ib j0 hj) (Ok.beq (manned_sp _ _) ?_)
      rw [e1, hg, hwr, hc0, hlv, goes_getD hcn]
      have next : ∀ o, o = ((List.range (j.toNat + 1)).filter (canS r m c.toNat)).map (fun (k : Nat) => (k : Int)) → Ok (fun x => x = itemsS r m calls i.toNat (calls.length - i.toNat)) (kn2 ((w1, o, j + 1, w2), w3)) := fun o ho =>
        hk2 ((w1, o, j + 1, w2), w3) ⟨by simp only; omega, by simp only; omega, by simp only [toNat_succ j0]; exact ho⟩ (by simp only; omega)
      refine Ok.ite (fun hm => ?_) (fun hm => ?_)
      · refine Ok.chk (by rw [hlt]; exact ib j0 hj) (Ok.chk (by rw [goes_len]; exact ib hcb.1 (by omega)) (Ok.chk (by rw [hll2]; exact ib hcb.1 (by omega)) ?_))
        refine Ok.ite (fun hh => ?_) (fun hh => ?_)
        · refine Ok.chk (fitA_ok (by simp; omega) (by decide)) (next _ ?_)
          have : canS r m c.toNat j.toNat = true := by unfold canS; rw [hm, hh]; rfl
          rw [hrf, this, List.map_append, ← j2]
          simp; omega
        · refine next _ ?_
          have : canS r m c.toNat j.toNat = false := by unfold canS; rw [hm, hh]; rfl
          rw [hrf, this, List.map_append, ← j2]; simp
      · refine next _ ?_
        have : canS r m c.toNat j.toNat = false := by unfold canS; rw [hm]; rfl
        rw [hrf, this, List.map_append, ← j2]; simp
    · have hj := of_decide_eq_false hcc
      rw [show j.toNat = r.Posts.length by omega] at j2
      have e1 : w64 (i + 1) = i + 1 := w64_id (by omega) (by omega)
      refine Ok.chk (fitA_ok (by simp; omega) (by decide)) ?_
      obtain ⟨x, hx1, hx2⟩ := hk ((u1, i + 1, u2), u3) ⟨by simp only; omega, by simp only; omega⟩ (by simp only; omega)
      simp only [toNat_succ i0] at hx2
      refine ⟨(i, l ++ [-1], ()) :: x, ?_, ?_⟩
      · rw [e1]; simp only [consM, hx1]
      · obtain ⟨q, hq⟩ : ∃ q, calls.length - i.toNat = q + 1 := ⟨calls.length - i.toNat - 1, by omega⟩
        rw [hx2, hq, show calls.length - (i.toNat + 1) = q by omega]
        simp only [itemsS, List.range'_succ, List.map_cons, hc0]
        rw [j2, Int.toNat_of_nonneg i0]; rfl
  · have hi := of_decide_eq_false hcc
    exact Ok.some (by rw [show calls.length - i.toNat = 0 by omega]; rfl)
theorem choices_sp (w : Watch) (m : Int) (calls : List Int) : choices w m calls = some (calls, w, m) := by rw [choices_eq]; rfl
def foundS (r : Rescue) (m : Int) (calls : List Int) : Int × List Int := srch calls.length (calls.map fun c => mayS r m c.toNat) (calls.length + 1) [] 0 (-1, [])
def eCalls (r : Rescue) (calls : List Int) : Int := bif decide ((calls.length : Int) > 6) then 8 else first (calls.map fun c => bif !(inR c 0 (r.Spots - 1)) then 7 else 0)
def sendS (r : Rescue) (m : Int) (calls : List Int) : List Int × Int × Int := bif eR r != 0 then ([], 0, eR r) else bif !(inR m 0 1439) then ([], 0, 2) else bif eCalls r calls != 0 then ([], 0, eCalls r calls) else ((foundS r m calls).2, (foundS r m calls).1, 0)
abbrev VPS := (Unit × Unit × Unit × Unit × Unit × Int × Unit) × ((Unit × Unit) × (Int × Unit) × Unit)
abbrev VPM := ((Unit × Unit × Unit × Unit × Unit) × (((List (List Int)) × Unit) × Unit)) × List (Int × (List Int) × Unit)
theorem first7 {r : Rescue} {calls : List Int} (h : first (calls.map fun c => bif !(inR c 0 (r.Spots - 1)) then 7 else 0) = 0) : ∀ c ∈ calls, 0 ≤ c ∧ c < r.Spots := fun c hc => by
  rw [first_zero] at h
  have := h _ (List.mem_map_of_mem hc)
  rw [bz (by decide), Bool.not_eq_false', inR_iff] at this
  omega
theorem trySend {r : Rescue} (m : Int) (calls : List Int) (hn : calls.length ≤ 6) (hp : r.Posts.length ≤ 12) : tryS (calls, (-1), [], calls.map (fun c => mayS r m c.toNat), ()) ([], 0, ()) = some ((foundS r m calls).1, (foundS r m calls).2, ()) := by
  unfold tryS; rw [opq_eq]
  exact trySF_sp calls _ (by simp) (by omega) (fun l hl => by
    simp only [List.mem_map] at hl
    obtain ⟨c, _, rfl⟩ := hl
    have := mayS_len r m c.toNat; omega) calls.length FUELR [] 0 (-1) [] (by simp) (by unfold FUELR; omega) (by decide) (by simp) ⟨by decide, by omega⟩
theorem pSend_sp {r : Rescue} (hf : Few r) (m : Int) (calls : List Int) : pSend r m calls = some (sendS r m calls) := by
  rw [pSend_eq]; unfold pSend' sendS
  rw [asked_sp hf]
  simp only [Option.bind_some]
  cases he : (eR r != 0) with
  | true => simp only [cond_true, he]
  | false =>
  cases hm : inR m 0 1439 with
  | false => rfl
  | true =>
  simp only [cond_false, Bool.not_true, show ((0:Int) != 0) = false from rfl]
  unfold eCalls
  cases hc : decide ((calls.length : Int) > 6) with
  | true => rfl
  | false =>
  have hn := of_decide_eq_false hc
  have hv := eR_zero.1 (show eR r = 0 by simpa using he)
  have hsp := hv.spots
  have e0 : w64 (r.Spots - 1) = r.Spots - 1 := w64_id (by omega) (by omega)
  simp only [cond_false]
  apply ok_eq
  refine Ok.mono (Ok.roundsD (P := fun (v : VPS) x => x = bif first ((calls.map fun c => bif !(inR c 0 (r.Spots - 1)) then 7 else 0).drop v.1.2.2.2.2.2.1.toNat) != 0 then ([], 0, first ((calls.map fun c => bif !(inR c 0 (r.Spots - 1)) then 7 else 0).drop v.1.2.2.2.2.2.1.toNat)) else ((foundS r m calls).2, (foundS r m calls).1, 0)) (fun (v : VPS) => 0 ≤ v.1.2.2.2.2.2.1 ∧ v.1.2.2.2.2.2.1 ≤ calls.length ∧ first ((calls.map fun c => bif !(inR c 0 (r.Spots - 1)) then (7:Int) else 0).take v.1.2.2.2.2.2.1.toNat) = 0) (fun (v : VPS) => (calls.length - v.1.2.2.2.2.2.1).toNat) (FUEL_big (by show ((calls.length : Int) - 0).toNat ≤ _; omega)) ⟨Int.le_refl _, by simp, rfl⟩ ?_) (fun x h => by simpa using h)
  rintro ⟨⟨u1, u2, u3, u4, u5, i, u6⟩, ⟨⟨u7, u8⟩, ⟨sv, u9⟩, u10⟩⟩ kn ⟨i0, i1, hfz⟩ hk
  simp only at i0 i1 hfz hk ⊢
  unfold pSend_L7
  refine Ok.ite (fun hcc => ?_) (fun hcc => ?_)
  · have hi := of_decide_eq_true hcc
    have hi' : i.toNat < calls.length := by omega
    have e1 : w64 (i + 1) = i + 1 := w64_id (by omega) (by omega)
    refine Ok.chk (ib i0 hi) (Ok.beq (within_sp _ _ _) ?_)
    rw [e0, e1]
    have hfd := first_drop (f := fun c => bif !(inR c 0 (r.Spots - 1)) then (7:Int) else 0) (d := 0) hi'
    cases hin : inR (calls.getD i.toNat 0) 0 (r.Spots - 1) with
    | false =>
      rw [hin] at hfd
      exact Ok.some (by rw [hfd]; rfl)
    | true =>
      rw [hin] at hfd
      have := hk ((u1, u2, u3, u4, u5, i + 1, u6), ((u7, u8), (sv, u9), u10)) ⟨by simp only; omega, by simp only; omega, ?_⟩ (by simp only; omega)
      · simp only [toNat_succ i0] at this
        rw [hfd]; exact this
      · simp only [toNat_succ i0]
        rw [← List.map_take, map_take_succ (d := 0) _ hi', first_zero]
        rw [← List.map_take, first_zero] at hfz
        intro e hme
        rcases List.mem_append.1 hme with hme | hme
        · exact hfz e hme
        · rw [List.mem_singleton.1 hme, hin]; rfl
  · have hi := of_decide_eq_false hcc
    have hil : calls.length ≤ i.toNat := by omega
    rw [List.take_of_length_le (by simpa using hil)] at hfz
    rw [first_end hil]
    have hcs := first7 hfz
    show Ok (fun x => x = ((foundS r m calls).2, (foundS r m calls).1, 0)) _
    refine Ok.chk (by simp [fitM]; omega) (Ok.beq (choices_sp _ _ _) (Ok.beq (choices1_sp hv m calls (by omega) hcs) ?_))
    refine Ok.rounds (fun (v : VPM) => ∃ a : Nat, a ≤ calls.length ∧ v.2 = itemsS r m calls a (calls.length - a) ∧ v.1.2.1.1.length = calls.length ∧ ∀ j, j < a → v.1.2.1.1.getD j [] = mayS r m (calls.getD j 0).toNat) (fun (v : VPM) => v.2.length) (FUEL_big (by simp [itemsS]; omega)) ⟨0, by omega, rfl, by simp, fun j hj => by omega⟩ ?_
    rintro ⟨⟨u1, ⟨⟨may, u2⟩, u3⟩⟩, its⟩ kn ⟨a, ha, h1, h2, h3⟩ hk2
    simp only at h1 h2 h3 hk2 ⊢
    cases its with
    | nil =>
      have hal : a = calls.length := by
        have := congrArg List.length h1
        simp [itemsS] at this; omega
      have hmay : may = calls.map fun c => mayS r m c.toNat := by
        apply List.ext_getElem
        · simp [h2]
        · intro j hj1 hj2
          have hj3 : j < calls.length := by omega
          have := h3 j (by omega)
          rw [List.getD_eq_getElem?_getD, List.getElem?_eq_getElem hj1, List.getD_eq_getElem?_getD, List.getElem?_eq_getElem hj3] at this
          simpa using this
      simp only [pSend_E14]
      rw [hmay]
      exact Ok.beq (trySend m calls (by omega) hv.nPosts) (Ok.some rfl)
    | cons it0 its =>
      have hal : a < calls.length := by
        have := congrArg List.length h1
        simp [itemsS] at this; omega
      obtain ⟨q, hq⟩ : ∃ q, calls.length - a = q + 1 := ⟨calls.length - a - 1, by omega⟩
      rw [hq] at h1
      simp only [itemsS, List.range'_succ, List.map_cons, List.cons.injEq] at h1
      obtain ⟨rfl, h1⟩ := h1
      simp only [pSend_L14]
      refine Ok.chk (ib (by omega) (by omega)) (Ok.chk (decide_eq_true (by simp; omega)) ?_)
      simp only [Int.toNat_natCast]
      refine hk2 ((u1, ((may.set a (mayS r m (calls.getD a 0).toNat), u2), u3)), its) ⟨a + 1, by omega, ?_, by simp [h2], fun j hj => ?_⟩ (by simp)
      · simp only [h1, itemsS]; rw [show calls.length - (a + 1) = q by omega]
      · simp only
        by_cases hja : j = a
        · subst hja; simp [List.getD_eq_getElem?_getD, List.getElem?_set, h2, hal]
        · have : ¬ a = j := fun e => hja e.symm
          simp only [List.getD_eq_getElem?_getD, List.getElem?_set, this, if_false]
          have := h3 j (by omega)
          rwa [List.getD_eq_getElem?_getD, List.getD_eq_getElem?_getD] at this
end Go.Proofs.Rescue07
namespace Go.Proofs.Rescue07
open Go Go.Ab Go.Ways
set_option linter.all false
end Go.Proofs.Rescue07
namespace Go.Proofs.Rescue07
open Go Go.Ab Go.Ways
set_option linter.all false
theorem u64_bnd (n : Int) : 0 ≤ IntKind.u64.wrap n ∧ IntKind.u64.wrap n < 18446744073709551616 := by
  unfold IntKind.wrap
  simp [IntKind.bits, IntKind.signed]
  omega
theorem u64_id {n : Int} (h1 : 0 ≤ n) (h2 : n < 18446744073709551616) : IntKind.u64.wrap n = n := by
  unfold IntKind.wrap
  simp [IntKind.bits, IntKind.signed]
  omega
theorem next_ok (s : Seed) : Ok (fun r => 0 ≤ r.2 ∧ r.2 < 18446744073709551616) (next s) := by
  rw [next_eq]
  exact ⟨_, rfl, u64_bnd _⟩
theorem Below_ok (s : Seed) {n : Int} (hn : n ≤ 1000000000) : Ok (fun r => 0 ≤ r.2 ∧ (r.2 < n ∨ r.2 = 0)) (Below s n) := by
  rw [Below_eq]
  refine Ok.ite (fun h => Ok.some ⟨Int.le_refl _, .inr rfl⟩) fun h => ?_
  have hn2 : ¬ n < 2 := by simpa using h
  refine Ok.bind (next_ok s) fun r hr => ?_
  have hu : IntKind.u64.wrap n = n := u64_id (by omega) (by omega)
  refine Ok.chk (by rw [hu]; simp; omega) (Ok.some ?_)
  rw [hu]
  have e : shrI .u64 r.2 1 = r.2 / 2 := by
    unfold shrI
    rw [Int.fdiv_eq_ediv_of_nonneg _ (by decide)]
    simp [IntKind.bits]
  rw [e, Int.tmod_eq_emod_of_nonneg (by omega)]
  have h1 := Int.emod_nonneg (r.2 / 2) (show n ≠ 0 by omega)
  have h2 := Int.emod_lt_of_pos (r.2 / 2) (show 0 < n by omega)
  rw [w64_id (by omega) (by omega)]
  exact ⟨h1, .inl h2⟩
theorem Yes_ok (s : Seed) {n : Int} (hn : n ≤ 1000000000) : Ok (fun _ => True) (Yes s n) := by
  rw [Yes_eq]
  exact Ok.bind (Below_ok s hn) fun r _ => Ok.some trivial
theorem From_ok (s : Seed) {low high : Int} (h1 : -1000000 ≤ low) (h2 : low ≤ high) (h4 : high ≤ 1000000) : Ok (fun r => low ≤ r.2 ∧ r.2 ≤ high) (From s low high) := by
  rw [From_eq]
  refine Ok.bind (Below_ok s (n := w64 (w64 (high - low) + 1)) ?_) fun r hr => Ok.some ?_
  · rw [w64_id (n := high - low) (by omega) (by omega), w64_id (by omega) (by omega)]; omega
  · rw [w64_id (n := high - low) (by omega) (by omega), w64_id (n := high - low + 1) (by omega) (by omega)] at hr
    simp only
    rw [w64_id (by omega) (by omega)]
    omega
theorem Of_ok (s : Seed) {l : List Int} (h0 : l ≠ []) (hl : l.length ≤ 1000) : Ok (fun r => r.2 ∈ l) (Of s l) := by
  rw [Of_eq]
  have hp : 0 < l.length := List.length_pos_iff.2 h0
  refine Ok.ite (fun h => ?_) fun h => Ok.bind (Below_ok s (n := (l.length : Int)) (by omega)) fun r hr => Ok.chk ?_ (Ok.some ?_)
  · simp at h; exact absurd h h0
  · simp; omega
  · simp only
    rw [List.getD_eq_getElem?_getD, List.getElem?_eq_getElem (by omega)]
    exact List.getElem_mem _
theorem NewSeed_ok {nums : List Int} (hn : nums.length ≤ 9223372036854775807) : Ok (fun _ => True) (NewSeed nums) := by
  rw [NewSeed_eq]
  refine Ok.rounds (fun v => 0 ≤ v.1.2.1 ∧ v.1.2.1 ≤ nums.length) (fun v => ((nums.length : Int) - v.1.2.1).toNat) ?_ ?_ ?_
  · show ((nums.length : Int) - 0).toNat < 18446744073709551616
    omega
  · simp
  · rintro ⟨⟨_, i, _⟩, ⟨w, _⟩, _⟩ kn hi' hk
    simp only at hi'
    refine Ok.ite (fun hlt => ?_) fun _ => Ok.some trivial
    simp only [decide_eq_true_eq] at hlt
    have e : w64 (i + 1) = i + 1 := w64_id (by omega) (by omega)
    refine Ok.chk (by simp; omega) (Ok.bind (next_ok _) fun r _ => hk _ ?_ ?_)
    · simp [e]; omega
    · simp [e]; omega
theorem SpanOf_ok (s : Seed) {low high : Int} (h1 : -100000 ≤ low) (h2 : low ≤ high) (h3 : high ≤ 100000) : Ok (fun r => SpIn r.2 low high) (SpanOf s low high) := by
  rw [SpanOf_eq]; unfold SpanOf'
  refine Ok.bind (From_ok s (by omega) h2 (by omega)) fun a ha => Ok.bind (Below_ok _ (by decide)) fun b _ => ?_
  have e1 : w64 (a.2 + 1) = a.2 + 1 := w64_id (by omega) (by omega)
  have e2 : w64 (high - low) = high - low := w64_id (by omega) (by omega)
  have e3 : (high - low).tdiv 10 = (high - low) / 10 := Int.tdiv_eq_ediv_of_nonneg (by omega)
  have e4 : w64 ((high - low) / 10) = (high - low) / 10 := w64_id (by omega) (by omega)
  have e5 : w64 (a.2 + 1 + (high - low) / 10) = a.2 + 1 + (high - low) / 10 := w64_id (by omega) (by omega)
  rw [e1, e2, e3, e4, e5]
  refine Ok.ite (fun _ => ?_) fun _ => Ok.ite (fun _ => ?_) fun _ => ?_
  · exact Ok.bind (From_ok _ (by omega) (by omega) (by omega)) fun c hc => Ok.some ⟨by simp only; omega, by simp only; omega, by simp only; omega⟩
  · exact Ok.bind (From_ok _ (by omega) (by omega) (by omega)) fun c hc => Ok.some ⟨by simp only; omega, by simp only; omega, by simp only; omega⟩
  · exact Ok.some ⟨by simp only; omega, by simp only; omega, by simp only; omega⟩
theorem SpIn.wide {x : Span} {a b c d : Int} (h : SpIn x a b) (h1 : c ≤ a) (h2 : b ≤ d) : SpIn x c d := by obtain ⟨p, q, r⟩ := h; exact ⟨by omega, q, by omega⟩
theorem PathOf_ok (s : Seed) {n : Int} (h1 : 2 ≤ n) (h2 : n ≤ 40) : Ok (fun r => PathV n r.2) (PathOf s n) := by
  rw [PathOf_eq]; unfold PathOf'
  refine Ok.bind (Below_ok s (by omega)) fun a ha => Ok.bind (Of_ok _ (by simp) (by simp)) fun b hb => ?_
  simp only [List.mem_cons, List.not_mem_nil, or_false] at hb
  refine Ok.bind (SpanOf_ok _ (by decide) (by omega) (by omega)) fun t ht => Ok.bind (Of_ok _ (by simp) (by simp)) fun o ho => ?_
  simp only [List.mem_cons, List.not_mem_nil, or_false] at ho
  have e1 : w64 (n - 1) = n - 1 := w64_id (by omega) (by omega)
  rw [e1]
  refine Ok.bind (From_ok _ (by decide) (by omega) (by omega)) fun k hk => Ok.chk (by simp; omega) (Ok.some ?_)
  have e2 : w64 (a.2 + k.2) = a.2 + k.2 := w64_id (by omega) (by omega)
  have e3 : (a.2 + k.2).tmod n = (a.2 + k.2) % n := Int.tmod_eq_emod_of_nonneg (by omega)
  rw [e2, e3]
  have h5 := Int.emod_nonneg (a.2 + k.2) (show n ≠ 0 by omega)
  have h6 := Int.emod_lt_of_pos (a.2 + k.2) (show 0 < n by omega)
  refine ⟨ha.1, by simp only; omega, h5, h6, fun e => ?_, ht.wide (by decide) (by omega), by simp only; omega⟩
  simp only at e
  have h7 := Int.mul_ediv_add_emod (a.2 + k.2) n
  rw [← e] at h7
  have h8 : n * ((a.2 + k.2) / n) = k.2 := by omega
  have h9 : 0 < (a.2 + k.2) / n := by
    refine Classical.byContradiction fun hc => ?_
    have : n * ((a.2 + k.2) / n) ≤ 0 := Int.mul_nonpos_of_nonneg_of_nonpos (by omega) (by omega)
    omega
  have : n * 1 ≤ n * ((a.2 + k.2) / n) := Int.mul_le_mul_of_nonneg_left (by omega) (by omega)
  omega
abbrev VPo := (Unit × Unit × Unit × Int × Unit) × ((Int × Unit) × (Int × Int × Int × Int × Int × Int × (List Span) × Unit) × Unit)
theorem PostOf_ok (s : Seed) {n : Int} (h1 : 1 ≤ n) (h2 : n ≤ 40) : Ok (fun r => PostV n r.2) (PostOf s n) := by
  rw [PostOf_eq]; unfold PostOf'
  refine Ok.bind (Below_ok s (by omega)) fun a ha => Ok.bind (SpanOf_ok _ (by decide) (by decide) (by decide)) fun t ht => Ok.bind (Below_ok _ (by decide)) fun b hb => Ok.bind (Of_ok _ (by simp) (by simp)) fun f hf => Ok.bind (Below_ok _ (by decide)) fun c hc => Ok.bind (Of_ok _ (by simp) (by simp)) fun g hg => Ok.bind (Yes_ok _ (by decide)) fun y _ => ?_
  simp only [List.mem_cons, List.not_mem_nil, or_false] at hf hg
  refine Ok.ite (fun _ => ?_) fun _ => ?_
  · refine Ok.bind (From_ok _ (by decide) (by decide) (by decide)) fun fl hfl => ?_
    refine Ok.rounds (fun (v : VPo) => 0 ≤ v.1.2.2.2.1 ∧ v.1.2.2.2.1 ≤ n ∧ ∃ air, v.2.2.1 = (a.2, t.2.Lo, t.2.Hi, f.2, g.2, fl.2, air, ()) ∧ (air.length : Int) = v.1.2.2.2.1 ∧ ∀ x ∈ air, SpIn x 0 5000) (fun (v : VPo) => (n - v.1.2.2.2.1).toNat) (FUEL_big (by show (n - 0).toNat ≤ _; omega)) ⟨Int.le_refl _, by simp only; omega, [], rfl, rfl, fun x hx => by cases hx⟩ ?_
    rintro ⟨⟨u1, u2, u3, i, u4⟩, ⟨⟨w, u5⟩, p, u6⟩⟩ kn ⟨i0, i1, air, i2, i3, i4⟩ hk
    simp only at i0 i1 i2 i3 hk
    subst i2
    simp only
    unfold PostOf_L5
    refine Ok.ite (fun hc => ?_) fun hc => ?_
    · have hi := of_decide_eq_true hc
      have e1 : w64 (i + 1) = i + 1 := w64_id (by omega) (by omega)
      refine Ok.bind (SpanOf_ok _ (by decide) (by decide) (by decide)) fun x hx => Ok.chk (fitA_ok (by simp; omega) (by decide)) ?_
      rw [e1]
      refine hk ((u1, u2, u3, i + 1, u4), ((_, u5), _, u6)) ⟨by simp only; omega, by simp only; omega, _, rfl, by simp only; simp; omega, fun y hy => ?_⟩ (by simp only; omega)
      rcases List.mem_append.1 hy with hy | hy
      · exact i4 y hy
      · rw [List.mem_singleton.1 hy]; exact hx.wide (by decide) (by decide)
    · have hi := of_decide_eq_false hc
      refine Ok.some ⟨by simp only; omega, ht.wide (by decide) (by decide), by simp only; omega, by simp only; omega, by simp only; omega, ?_⟩
      simp only
      rw [if_neg (by omega)]
      exact ⟨by omega, i4⟩
  · refine Ok.some ⟨by simp only; omega, ht.wide (by decide) (by decide), by simp only; omega, by simp only; omega, by simp only; omega, ?_⟩
    simp only [if_true]
    exact ⟨rfl, fun x hx => by cases hx⟩
theorem getD_snoc {α : Type} {l : List α} {c d : α} {i : Nat} : (l ++ [c]).getD i d = if i < l.length then l.getD i d else if i = l.length then c else d := by
  by_cases h : i < l.length
  · rw [if_pos h, List.getD_eq_getElem?_getD, List.getElem?_append_left h, ← List.getD_eq_getElem?_getD]
  · rw [if_neg h, List.getD_eq_getElem?_getD, List.getElem?_append_right (by omega)]
    by_cases h2 : i = l.length
    · rw [if_pos h2, h2]; simp
    · rw [if_neg h2, List.getElem?_eq_none (by simp; omega)]; rfl
structure ChillP (l : List Chill) (wm : Int) (live : Span) : Prop where
  len : l.length ≤ 20
  warm : ∀ i, i < l.length → -400 ≤ (l.getD i dfltChill).Warm ∧ (l.getD i dfltChill).Warm ≤ 400
  head : 0 < l.length → (l.getD 0 dfltChill).Warm = -400
  up : ∀ i, 0 < i → i < l.length → (l.getD (i - 1) dfltChill).Warm < (l.getD i dfltChill).Warm
  min : ∀ i, i < l.length → SpIn (l.getD i dfltChill).Minutes 0 5000
  upm : ∀ i, 0 < i → i < l.length → (l.getD (i - 1) dfltChill).Minutes.Lo ≤ (l.getD i dfltChill).Minutes.Lo ∧ (l.getD (i - 1) dfltChill).Minutes.Hi ≤ (l.getD i dfltChill).Minutes.Hi
  last : 0 < l.length → (l.getD (l.length - 1) dfltChill).Warm < wm ∧ (l.getD (l.length - 1) dfltChill).Minutes.Lo ≤ live.Lo ∧ (l.getD (l.length - 1) dfltChill).Minutes.Hi ≤ live.Hi
  next0 : l.length = 0 → wm = -400
theorem ChillP.snoc {l : List Chill} {warm w2 : Int} {live l2 : Span} (h : ChillP l warm live) (h1 : l.length < 20) (hw : -400 ≤ warm ∧ warm ≤ 400) (hl : SpIn live 0 5000) (hw2 : warm < w2) (hl2 : live.Lo ≤ l2.Lo ∧ live.Hi ≤ l2.Hi) : ChillP (l ++ [⟨warm, live⟩]) w2 l2 := by
  obtain ⟨a1, a2, a3, a4, a5, a6, a7, a8⟩ := h
  have lt : ∀ i, i < (l ++ [(⟨warm, live⟩ : Chill)]).length → i < l.length ∨ i = l.length := fun i hi => by simp at hi; omega
  have g1 : ∀ i, i < l.length → (l ++ [(⟨warm, live⟩ : Chill)]).getD i dfltChill = l.getD i dfltChill := fun i hi => by rw [getD_snoc, if_pos hi]
  have g2 : (l ++ [(⟨warm, live⟩ : Chill)]).getD l.length dfltChill = ⟨warm, live⟩ := by rw [getD_snoc, if_neg (by omega), if_pos rfl]
  refine ⟨by simp; omega, fun i hi => ?_, fun _ => ?_, fun i h0 hi => ?_, fun i hi => ?_, fun i h0 hi => ?_, fun _ => ?_, fun h => by simp at h⟩
  · rcases lt i hi with h | rfl
    · rw [g1 i h]; exact a2 i h
    · rw [g2]; exact hw
  · by_cases hz : 0 < l.length
    · rw [g1 0 hz]; exact a3 hz
    · have : l.length = 0 := by omega
      rw [show (0:Nat) = l.length by omega, g2]; exact a8 this
  · rcases lt i hi with h | rfl
    · rw [g1 i h, g1 _ (by omega)]; exact a4 i h0 h
    · rw [g2, g1 _ (by omega)]; exact (a7 h0).1
  · rcases lt i hi with h | rfl
    · rw [g1 i h]; exact a5 i h
    · rw [g2]; exact hl
  · rcases lt i hi with h | rfl
    · rw [g1 i h, g1 _ (by omega)]; exact a6 i h0 h
    · rw [g2, g1 _ (by omega)]; exact (a7 h0).2
  · have : (l ++ [(⟨warm, live⟩ : Chill)]).length - 1 = l.length := by simp
    rw [this, g2]
    exact ⟨hw2, hl2⟩
abbrev VQ3 := (Unit × Unit × Unit × Int × Unit) × ((Int × Unit) × (Int × (List Path) × Unit × Unit × Unit × Unit) × Unit)
abbrev VQ7 := (Unit × Unit × Unit × Int × Unit) × ((Int × Unit) × (Int × Unit × (List Post) × Unit × Unit × Unit) × Unit)
abbrev VQ11 := (Unit × Unit × Unit × Int × Unit) × ((Int × Unit) × (Int × Unit × Unit × (List Span) × Unit × Unit) × Unit)
abbrev VQ16 := (Unit × Unit × Unit × Int × Unit × Int × Unit) × ((Int × Unit) × (Int × Unit × Unit × Unit × (List Chill) × Unit) × (Int × Int × Unit) × Unit)
def Made (spots posts : Int) (r : Rescue) : Prop := RV r ∧ r.Spots ≤ spots ∧ (r.Posts.length : Int) ≤ posts ∧ r.Paths.length ≤ 100 ∧ ∀ x ∈ r.Water, SpIn x (-20) 60
theorem RescueOf_posts {spots posts n : Int} (h1 : 1 ≤ n ∧ n ≤ spots) (hs : spots ≤ 20) (hp : 0 ≤ posts ∧ posts ≤ 11) {paths : List Path} (hl : paths.length ≤ 100) (hpa : ∀ p ∈ paths, PathV n p) (w : Int) :
    Ok (fun r => Made spots posts r.2) ((Below (⟨w⟩ : Seed) (w64 (posts + 1))).bind fun r4 =>
      itN _ (fun (v_0 : VQ7) kn => RescueOf_L7 itN paths v_0.1.2.2.2.1 v_0.2.1.1 v_0.2.2.1.1 v_0.2.2.1.2.2.1 (fun y0 y1 y2 y3 => kn (((), (), (), y0, ()), ((y1, ()), (y2, (), y3, (), (), ()), ())))) (((), (), (), r4.2, ()), ((r4.1.word, ()), (n, (), [], (), (), ()), ()))) := by
  have ep : w64 (posts + 1) = posts + 1 := w64_id (by omega) (by omega)
  rw [ep]
  refine Ok.bind (Below_ok _ (by omega)) fun b hb => ?_
  refine Ok.rounds (fun (v : VQ7) => 0 ≤ v.1.2.2.2.1 ∧ v.2.2.1.1 = n ∧ (v.2.2.1.2.2.1.length : Int) + v.1.2.2.2.1 ≤ posts ∧ ∀ p ∈ v.2.2.1.2.2.1, PostV n p) (fun (v : VQ7) => v.1.2.2.2.1.toNat) (FUEL_big (by show b.2.toNat ≤ _; omega)) ⟨by simp only; omega, rfl, by simp; omega, fun p hp => by cases hp⟩ ?_
  rintro ⟨⟨u1, u2, u3, i, u4⟩, ⟨⟨w2, u5⟩, ⟨n2, u6, ps, u7, u8, u9⟩, u10⟩⟩ kn ⟨i0, i1, i2, i3⟩ hk
  simp only at i0 i1 i2 i3 hk ⊢
  subst i1
  unfold RescueOf_L7
  refine Ok.ite (fun hc => ?_) fun hc => ?_
  · have hi := of_decide_eq_true hc
    have e1 : w64 (i - 1) = i - 1 := w64_id (by omega) (by omega)
    refine Ok.bind (PostOf_ok _ h1.1 (by omega)) fun q hq => Ok.chk (fitA_ok (by simp; omega) (by decide)) ?_
    rw [e1]
    refine hk ((u1, u2, u3, i - 1, u4), ((_, u5), (n2, u6, _, u7, u8, u9), u10)) ⟨by simp only; omega, rfl, by simp; omega, fun p hp => ?_⟩ (by simp only; omega)
    rcases List.mem_append.1 hp with hp | hp
    · exact i3 p hp
    · rw [List.mem_singleton.1 hp]; exact hq
  · have hi := of_decide_eq_false hc
    have hi0 : i = 0 := by omega
    subst hi0
    refine Ok.rounds (fun (v : VQ11) => 0 ≤ v.1.2.2.2.1 ∧ v.1.2.2.2.1 ≤ n2 ∧ v.2.2.1.1 = n2 ∧ (v.2.2.1.2.2.2.1.length : Int) = v.1.2.2.2.1 ∧ ∀ x ∈ v.2.2.1.2.2.2.1, SpIn x (-20) 60) (fun (v : VQ11) => (n2 - v.1.2.2.2.1).toNat) (FUEL_big (by show (n2 - 0).toNat ≤ _; omega)) ⟨Int.le_refl _, by simp only; omega, rfl, rfl, fun x hx => by cases hx⟩ ?_
    rintro ⟨⟨v1, v2, v3, j, v4⟩, ⟨⟨w3, v5⟩, ⟨n3, v6, v7, ws, v8, v9⟩, v10⟩⟩ kn2 ⟨j0, j1, j2, j3, j4⟩ hk2
    simp only at j0 j1 j2 j3 j4 hk2 ⊢
    subst j2
    unfold RescueOf_L11
    refine Ok.ite (fun hc => ?_) fun hc => ?_
    · have hj := of_decide_eq_true hc
      have e1 : w64 (j + 1) = j + 1 := w64_id (by omega) (by omega)
      refine Ok.bind (Of_ok _ (by simp) (by simp)) fun a ha => ?_
      simp only [List.mem_cons, List.not_mem_nil, or_false] at ha
      refine Ok.bind (SpanOf_ok _ (by decide) (by omega) (by omega)) fun x hx => Ok.chk (fitA_ok (by simp; omega) (by decide)) ?_
      rw [e1]
      refine hk2 ((v1, v2, v3, j + 1, v4), ((_, v5), (n3, v6, v7, _, v8, v9), v10)) ⟨by simp only; omega, by simp only; omega, rfl, by simp; omega, fun y hy => ?_⟩ (by simp only; omega)
      rcases List.mem_append.1 hy with hy | hy
      · exact j4 y hy
      · rw [List.mem_singleton.1 hy]; exact hx.wide (by decide) (by omega)
    · have hj := of_decide_eq_false hc
      have hwater : SpsIn ws n3 (-400) 400 := ⟨by omega, fun x hx => (j4 x hx).wide (by decide) (by decide)⟩
      refine Ok.bind (SpanOf_ok _ (by decide) (by decide) (by decide)) fun lv hlv => Ok.bind (From_ok _ (by decide) (by decide) (by decide)) fun c hc => ?_
      refine Ok.rounds (fun (v : VQ16) => 0 ≤ v.1.2.2.2.2.2.1 ∧ v.2.2.1.1 = n3 ∧ (v.2.2.1.2.2.2.2.1.length : Int) + v.1.2.2.2.2.2.1 ≤ 4 ∧ 1 ≤ (v.2.2.1.2.2.2.2.1.length : Int) + v.1.2.2.2.2.2.1 ∧ ChillP v.2.2.1.2.2.2.2.1 v.1.2.2.2.1 ⟨v.2.2.2.1.1, v.2.2.2.1.2.1⟩ ∧ -400 ≤ v.1.2.2.2.1 ∧ v.1.2.2.2.1 ≤ -30 + 30 * (v.2.2.1.2.2.2.2.1.length : Int) ∧ SpIn ⟨v.2.2.2.1.1, v.2.2.2.1.2.1⟩ 0 (20 + 40 * (v.2.2.1.2.2.2.2.1.length : Int))) (fun (v : VQ16) => v.1.2.2.2.2.2.1.toNat) (FUEL_big (by show c.2.toNat ≤ _; omega)) ⟨by simp only; omega, rfl, by simp only [List.length_nil]; omega, by simp only [List.length_nil]; omega, ⟨by simp, fun i hi => by simp at hi, fun h => by simp at h, fun i _ hi => by simp at hi, fun i hi => by simp at hi, fun i _ hi => by simp at hi, fun h => by simp at h, fun _ => rfl⟩, Int.le_refl _, by simp, hlv.wide (by decide) (by simp)⟩ ?_
      rintro ⟨⟨x1, x2, x3, warm, x4, q, x5⟩, ⟨⟨w4, x6⟩, ⟨n4, x7, x8, x9, cs, x10⟩, ⟨lo, hi, x11⟩, x12⟩⟩ kn3 ⟨q0, q1, q2, q3, q4, q5, q6, q7⟩ hk3
      simp only at q0 q1 q2 q3 q4 q5 q6 q7 hk3 ⊢
      subst q1
      unfold RescueOf_L16
      refine Ok.ite (fun hc => ?_) fun hc => ?_
      · have hq := of_decide_eq_true hc
        obtain ⟨z1, z2, z3⟩ := q7
        simp only at z1 z2 z3
        refine Ok.chk (fitA_ok (by simp; omega) (by decide)) (Ok.bind (From_ok _ (by decide) (by decide) (by decide)) fun d1 hd1 => Ok.bind (Below_ok _ (by decide)) fun d2 hd2 => Ok.bind (Below_ok _ (by decide)) fun d3 hd3 => ?_)
        rw [w64_id (n := max (-30) warm + d1.2) (by omega) (by omega), w64_id (n := q - 1) (by omega) (by omega), w64_id (n := lo + d2.2) (by omega) (by omega), w64_id (n := hi + 20) (by omega) (by omega), w64_id (n := hi + 20 + d3.2) (by omega) (by omega)]
        refine hk3 ((x1, x2, x3, _, x4, q - 1, x5), ((_, x6), (n4, x7, x8, x9, _, x10), (_, _, x11), x12)) ⟨by simp only; omega, rfl, by simp; omega, by simp; omega, q4.snoc (by omega) ⟨q5, by omega⟩ ⟨z1, z2, by simp only; omega⟩ (show warm < max (-30) warm + d1.2 by omega) ⟨by simp only; omega, by simp only; omega⟩, by simp only; omega, by simp only [List.length_append, List.length_singleton]; omega, by simp only; omega, by simp only; omega, by simp only [List.length_append, List.length_singleton]; omega⟩ (by simp only; omega)
      · have hq := of_decide_eq_false hc
        obtain ⟨a1, a2, a3, a4, a5, a6, a7, a8⟩ := q4
        exact Ok.some ⟨⟨⟨h1.1, by simp only; omega⟩, by simp only; omega, hpa, by simp only; omega, i3, hwater, ⟨⟨by simp only; omega, by simp only; omega⟩, a2, a3 (by omega), a4, a5, a6⟩⟩, h1.2, by simp only; omega, hl, j4⟩
theorem RescueOf_ok (s : Seed) {spots posts : Int} (h1 : 1 ≤ spots) (h2 : spots ≤ 20) (hp : 0 ≤ posts ∧ posts ≤ 11) : Ok (fun r => Made spots posts r.2) (RescueOf s spots posts) := by
  rw [RescueOf_eq]; unfold RescueOf'
  refine Ok.bind (From_ok s (by decide) h1 (by omega)) fun a ha => ?_
  have e3 : w64 (3 * a.2) = 3 * a.2 := w64_id (by omega) (by omega)
  rw [e3]
  refine Ok.bind (Below_ok _ (by omega)) fun b hb => ?_
  refine Ok.rounds (fun (v : VQ3) => 0 ≤ v.1.2.2.2.1 ∧ v.2.2.1.1 = a.2 ∧ (v.2.2.1.2.1.length : Int) + v.1.2.2.2.1 ≤ 60 ∧ (∀ p ∈ v.2.2.1.2.1, PathV a.2 p)) (fun (v : VQ3) => v.1.2.2.2.1.toNat) (FUEL_big (by show b.2.toNat ≤ _; omega)) ⟨by simp only; omega, rfl, by simp; omega, fun p hp => by cases hp⟩ ?_
  rintro ⟨⟨u1, u2, u3, i, u4⟩, ⟨⟨w2, u5⟩, ⟨n2, ps, u6, u7, u8, u9⟩, u10⟩⟩ kn ⟨i0, i1, i2, i3⟩ hk
  simp only at i0 i1 i2 i3 hk ⊢
  subst i1
  unfold RescueOf_L3
  refine Ok.ite (fun hc => ?_) fun hc => ?_
  · have hi := of_decide_eq_true hc
    refine Ok.ite (fun hn => ?_) fun hn => ?_
    · have hn := of_decide_eq_true hn
      have e1 : w64 (i - 1) = i - 1 := w64_id (by omega) (by omega)
      refine Ok.bind (PathOf_ok _ (by omega) (by omega)) fun q hq => Ok.chk (fitA_ok (by simp; omega) (by decide)) ?_
      rw [e1]
      refine hk ((u1, u2, u3, i - 1, u4), ((_, u5), (_, _, u6, u7, u8, u9), u10)) ⟨by simp only; omega, rfl, by simp; omega, fun p hp => ?_⟩ (by simp only; omega)
      rcases List.mem_append.1 hp with hp | hp
      · exact i3 p hp
      · rw [List.mem_singleton.1 hp]; exact hq
    · exact RescueOf_posts ha h2 hp (by omega) i3 w2
  · exact RescueOf_posts ha h2 hp (by omega) i3 w2
end Go.Proofs.Rescue07
namespace Go.Proofs.Rescue07
open Go Go.Ab
open Go.Proofs.Ytoklcjdahicjmaa (iseat)
set_option linter.all false
set_option maxRecDepth 100000
noncomputable section
def big_L2 (r : Rescue) (i : Int) (kn_ : Int → Option Bool) : Option Bool :=
 bif (decide (i < (r.Posts.length : Int))) then
 chk (decide (0 ≤ i) && decide (i < (r.Posts.length : Int))) <|
 bif (decide ((((r.Posts.getD i.toNat dfltPost).Air).length : Int) > 60)) then
 some true
 else
 kn_ (w64 (i + 1))
 else
 bif (decide ((r.Paths.length : Int) > 130)) then
 some true
 else
 bif (decide ((r.Posts.length : Int) > 20)) then
 some true
 else
 bif (decide ((r.Water.length : Int) > 60)) then
 some true
 else
 some (decide ((r.Chills.length : Int) > 40))
def big' (it : It Bool) (r : Rescue) : Option Bool :=
 it _ (fun (v_0 : (Unit × Int × Unit) × (Unit)) kn => big_L2 r v_0.1.2.1 (fun y0 => kn (((), y0, ()), (())))) (((), 0, ()), (()))
def big : Rescue → Option Bool := opq (fun r => big' itN r)
theorem big_eq (r : Rescue) : big r = big' itN r := by unfold big; rw [opq_eq]
def E16 : FEnv iseat := ⟨⟨41, [], [], [], [], [], [], [], [], [], [], [], [], true⟩, [(2, ⟨⟨[(1, .bx 1 0), (3, .v (.int .i64))], []⟩, [], [1], []⟩)]⟩
theorem e16 (it : It Bool) (r : Rescue) : fnRun (ts := [.bool]) it E16 (bodyOf Try.f16) Try.f16.results.toList (encA [.Rescue] (r, ())) = big' it r := by kernel_rfl
def sp16 : FnSpec iseat.toSeat := mkSpec iseat.toSeat 16 [.Rescue] [.bool] true (fun a => big a.1) (fun a x hx h h' => fn_contract (Z := iseat) (ats := [.Rescue]) (ts := [.bool]) (E := E16) (fn := Try.f16) (c := bodyOf Try.f16) Try.func16 (by kernel_rfl) (by kernel_rfl) (by kernel_rfl) (by kernel_rfl) rfl ((e16 itN a.1).trans ((big_eq a.1).symm.trans hx)) h h') (fun _ x => rfl)
def Own' (it : It (List Int)) (l : List Int) : Option (List Int) :=
 chk (fitA (([] : List Int).length + l.length) 8) <|
 some (([] : List Int) ++ l)
def Own : (List Int) → Option (List Int) := opq (fun l => Own' itN l)
theorem Own_eq (l : List Int) : Own l = Own' itN l := by unfold Own; rw [opq_eq]
def E21 : FEnv iseat := ⟨⟨6, [], [], [], [], [], [], [], [], [], [], [], [], true⟩, []⟩
theorem e21 (it : It (List Int)) (l : List Int) : fnRunO (.sl (.int .i64)) 0 3 (.int .i64) it E21 (bodyOf Try.f21) Try.f21.results.toList (encA [.sl (.int .i64)] (l, ())) = Own' it l := by kernel_rfl
def sp21 : FnSpecO iseat.toSeat := mkSpecO iseat.toSeat 21 [.sl (.int .i64)] (.sl (.int .i64)) 0 3 (.int .i64) (fun a => Own a.1) (fun a x hx l d hd h => fn_contractO (Z := iseat) (ats := [.sl (.int .i64)]) (E := E21) (fn := Try.f21) (c := bodyOf Try.f21) Try.func21 (by kernel_rfl) (by kernel_rfl) (by kernel_rfl) (by kernel_rfl) rfl ((e21 itN a.1).trans ((Own_eq a.1).symm.trans hx)) hd h)
def endS' (it : It Int) (x : Span) (low : Bool) : Option Int :=
 bif low then
 some x.Lo
 else
 some x.Hi
def endS : Span → Bool → Option Int := opq (fun x low => endS' itN x low)
theorem endS_eq (x : Span) (low : Bool) : endS x low = endS' itN x low := by unfold endS; rw [opq_eq]
def E79 : FEnv iseat := ⟨⟨10, [], [], [], [], [], [], [], [], [], [], [], [], true⟩, []⟩
theorem e79 (it : It Int) (x : Span) (low : Bool) : fnRun (ts := [.int .i64]) it E79 (bodyOf Try.f79) Try.f79.results.toList (encA [.Span, .bool] (x, low, ())) = endS' it x low := by kernel_rfl
def sp79 : FnSpec iseat.toSeat := mkSpec iseat.toSeat 79 [.Span, .bool] [.int .i64] true (fun a => endS a.1 a.2.1) (fun a x hx h h' => fn_contract (Z := iseat) (ats := [.Span, .bool]) (ts := [.int .i64]) (E := E79) (fn := Try.f79) (c := bodyOf Try.f79) Try.func79 (by kernel_rfl) (by kernel_rfl) (by kernel_rfl) (by kernel_rfl) rfl ((e79 itN a.1 a.2.1).trans ((endS_eq a.1 a.2.1).symm.trans hx)) h h') (fun _ x => rfl)
def extreme_L13 (r : Rescue) (i2 : Int) (best : Bool) (f_Air : List (List Int)) (kn_2 : Int → (List Int) → (List Bool) → (List (List Int)) → Option Facts) (f_Ready : List Int) (r3 : Int) (f_Flies : List Bool) (air : List Int) (k : Int) (kn_3 : (List Int) → Int → Option Facts) : Option Facts :=
 bif (decide (k < (((r.Posts.getD i2.toNat dfltPost).Air).length : Int))) then
 chk (decide (0 ≤ k) && decide (k < (((r.Posts.getD i2.toNat dfltPost).Air).length : Int))) <|
 (endS (((r.Posts.getD i2.toNat dfltPost).Air).getD k.toNat dfltSpan) best).bind fun r4 =>
 chk (fitA (air.length + [r4].length) 8) <|
 kn_3 (air ++ [r4]) (w64 (k + 1))
 else
 chk (fitA (f_Air.length + [air].length) 24) <|
 kn_2 (w64 (i2 + 1)) (f_Ready ++ [r3]) (f_Flies ++ [true]) (f_Air ++ [air])
def extreme_L13__2 (r : Rescue) (i2 : Int) (best : Bool) (f_Air : List (List Int)) (kn_2 : Int → (List Int) → (List Bool) → (List (List Int)) → Option Facts) (f_Ready : List Int) (r3 : Int) (f_Flies : List Bool) (air2 : List Int) (k2 : Int) (kn_4 : (List Int) → Int → Option Facts) : Option Facts :=
 bif (decide (k2 < (((r.Posts.getD i2.toNat dfltPost).Air).length : Int))) then
 chk (decide (0 ≤ k2) && decide (k2 < (((r.Posts.getD i2.toNat dfltPost).Air).length : Int))) <|
 (endS (((r.Posts.getD i2.toNat dfltPost).Air).getD k2.toNat dfltSpan) best).bind fun r5 =>
 chk (fitA (air2.length + [r5].length) 8) <|
 kn_4 (air2 ++ [r5]) (w64 (k2 + 1))
 else
 chk (fitA (f_Air.length + [air2].length) 24) <|
 kn_2 (w64 (i2 + 1)) (f_Ready ++ [r3]) (f_Flies ++ [best]) (f_Air ++ [air2])
def extreme_L13__3 (r : Rescue) (i2 : Int) (best : Bool) (f_Air : List (List Int)) (kn_2 : Int → (List Int) → (List Bool) → (List (List Int)) → Option Facts) (f_Ready : List Int) (r3 : Int) (f_Flies : List Bool) (air3 : List Int) (k3 : Int) (kn_5 : (List Int) → Int → Option Facts) : Option Facts :=
 bif (decide (k3 < (((r.Posts.getD i2.toNat dfltPost).Air).length : Int))) then
 chk (decide (0 ≤ k3) && decide (k3 < (((r.Posts.getD i2.toNat dfltPost).Air).length : Int))) <|
 (endS (((r.Posts.getD i2.toNat dfltPost).Air).getD k3.toNat dfltSpan) best).bind fun r6 =>
 chk (fitA (air3.length + [r6].length) 8) <|
 kn_5 (air3 ++ [r6]) (w64 (k3 + 1))
 else
 chk (fitA (f_Air.length + [air3].length) 24) <|
 kn_2 (w64 (i2 + 1)) (f_Ready ++ [r3]) (f_Flies ++ [false]) (f_Air ++ [air3])
def extreme_L7 (it : It Facts) (r : Rescue) (best : Bool) (f_Times : List Int) (f_Open : List Bool) (i2 : Int) (f_Ready : List Int) (f_Flies : List Bool) (f_Air : List (List Int)) (kn_2 : Int → (List Int) → (List Bool) → (List (List Int)) → Option Facts) : Option Facts :=
 bif (decide (i2 < (r.Posts.length : Int))) then
 chk (decide (0 ≤ i2) && decide (i2 < (r.Posts.length : Int))) <|
 (endS ((r.Posts.getD i2.toNat dfltPost).Ready) best).bind fun r3 =>
 chk (fitA (f_Ready.length + [r3].length) 8) <|
 bif ((r.Posts.getD i2.toNat dfltPost).Flies == 1) then
 chk (fitA (f_Flies.length + [true].length) 1) <|
 it _ (fun (v_0 : (Unit × Unit × Unit × Unit × (List Int) × Int × Unit) × ((Unit × Unit × Unit × Unit × Unit × Unit × Unit × Unit) × Unit)) kn => extreme_L13 r i2 best f_Air kn_2 f_Ready r3 f_Flies v_0.1.2.2.2.2.1 v_0.1.2.2.2.2.2.1 (fun y0 y1 => kn (((), (), (), (), y0, y1, ()), (((), (), (), (), (), (), (), ()), ())))) (((), (), (), (), ([] : List Int), 0, ()), (((), (), (), (), (), (), (), ()), ()))
 else
 bif ((r.Posts.getD i2.toNat dfltPost).Flies == 3) then
 chk (fitA (f_Flies.length + [best].length) 1) <|
 it _ (fun (v_0 : (Unit × Unit × Unit × Unit × (List Int) × Int × Unit) × ((Unit × Unit × Unit × Unit × Unit × Unit × Unit × Unit) × Unit)) kn => extreme_L13__2 r i2 best f_Air kn_2 f_Ready r3 f_Flies v_0.1.2.2.2.2.1 v_0.1.2.2.2.2.2.1 (fun y0 y1 => kn (((), (), (), (), y0, y1, ()), (((), (), (), (), (), (), (), ()), ())))) (((), (), (), (), ([] : List Int), 0, ()), (((), (), (), (), (), (), (), ()), ()))
 else
 chk (fitA (f_Flies.length + [false].length) 1) <|
 it _ (fun (v_0 : (Unit × Unit × Unit × Unit × (List Int) × Int × Unit) × ((Unit × Unit × Unit × Unit × Unit × Unit × Unit × Unit) × Unit)) kn => extreme_L13__3 r i2 best f_Air kn_2 f_Ready r3 f_Flies v_0.1.2.2.2.2.1 v_0.1.2.2.2.2.2.1 (fun y0 y1 => kn (((), (), (), (), y0, y1, ()), (((), (), (), (), (), (), (), ()), ())))) (((), (), (), (), ([] : List Int), 0, ()), (((), (), (), (), (), (), (), ()), ()))
 else
 some (⟨f_Times, f_Ready, [], [], f_Open, f_Flies, f_Air⟩ : Facts)
def extreme_L3 (it : It Facts) (r : Rescue) (best : Bool) (i : Int) (f_Times : List Int) (f_Open : List Bool) (kn_ : Int → (List Int) → (List Bool) → Option Facts) : Option Facts :=
 bif (decide (i < (r.Paths.length : Int))) then
 chk (decide (0 ≤ i) && decide (i < (r.Paths.length : Int))) <|
 (endS ((r.Paths.getD i.toNat dfltPath).Time) best).bind fun r2 =>
 chk (fitA (f_Times.length + [r2].length) 8) <|
 chk (decide (0 ≤ i) && decide (i < (r.Paths.length : Int))) <|
 bif ((r.Paths.getD i.toNat dfltPath).Open == 1) then
 chk (fitA (f_Open.length + [true].length) 1) <|
 kn_ (w64 (i + 1)) (f_Times ++ [r2]) (f_Open ++ [true])
 else
 chk (decide (0 ≤ i) && decide (i < (r.Paths.length : Int))) <|
 bif ((r.Paths.getD i.toNat dfltPath).Open == 3) then
 chk (fitA (f_Open.length + [best].length) 1) <|
 kn_ (w64 (i + 1)) (f_Times ++ [r2]) (f_Open ++ [best])
 else
 chk (fitA (f_Open.length + [false].length) 1) <|
 kn_ (w64 (i + 1)) (f_Times ++ [r2]) (f_Open ++ [false])
 else
 it _ (fun (v_0 : (Unit × Unit × Unit × Int × Unit) × ((Unit × (List Int) × Unit × Unit × Unit × (List Bool) × (List (List Int)) × Unit) × Unit)) kn => extreme_L7 it r best f_Times f_Open v_0.1.2.2.2.1 v_0.2.1.2.1 v_0.2.1.2.2.2.2.2.1 v_0.2.1.2.2.2.2.2.2.1 (fun y0 y1 y2 y3 => kn (((), (), (), y0, ()), (((), y1, (), (), (), y2, y3, ()), ())))) (((), (), (), 0, ()), (((), [], (), (), (), [], [], ()), ()))
def extreme' (it : It Facts) (r : Rescue) (best : Bool) : Option Facts :=
 it _ (fun (v_0 : (Unit × Unit × Unit × Int × Unit) × (((List Int) × Unit × Unit × Unit × (List Bool) × Unit × Unit × Unit) × Unit)) kn => extreme_L3 it r best v_0.1.2.2.2.1 v_0.2.1.1 v_0.2.1.2.2.2.2.1 (fun y0 y1 y2 => kn (((), (), (), y0, ()), ((y1, (), (), (), y2, (), (), ()), ())))) (((), (), (), 0, ()), (([], (), (), (), [], (), (), ()), ()))
def extreme : Rescue → Bool → Option Facts := opq (fun r best => extreme' itN r best)
theorem extreme_eq (r : Rescue) (best : Bool) : extreme r best = extreme' itN r best := by unfold extreme; rw [opq_eq]
def E25 : FEnv iseat := ⟨⟨116, [sp79], [], [], [], [], [], [], [], [], [], [28, 51, 73, 88, 107, 112], [], true⟩, [(3, ⟨⟨[(2, .bx 2 0), (4, .bx 4 0), (5, .bx 5 0), (6, .v (.int .i64))], [(5, [.os 29 3 (.int .i64), .nilc, .nilc, .nilc, .os 52 4 .bool, .nilc, .nilc])]⟩, [1], [2, 4], []⟩), (7, ⟨⟨[(2, .bx 2 0), (4, .bx 4 0), (5, .bx 5 0), (7, .v (.int .i64))], [(5, [.osr 29, .os 74 3 (.int .i64), .nilc, .nilc, .osr 52, .os 89 4 .bool, .os 113 28 (.sl (.int .i64))])]⟩, [1], [2, 4, 29, 52], []⟩), (13, ⟨⟨[(2, .bx 2 0), (4, .bx 4 0), (5, .bx 5 0), (8, .bx 8 0), (9, .os 9 3 (.int .i64)), (10, .v (.int .i64))], [(5, [.osr 29, .osr 74, .nilc, .nilc, .osr 52, .osr 89, .osr 113])]⟩, [7], [8, 74, 89, 113], []⟩)]⟩
theorem e25 (it : It Facts) (r : Rescue) (best : Bool) : fnRun (ts := [.Facts]) it E25 (bodyOf Try.f25) Try.f25.results.toList (encA [.Rescue, .bool] (r, best, ())) = extreme' it r best := by kernel_rfl
def sp25 : FnSpec iseat.toSeat := mkSpec iseat.toSeat 25 [.Rescue, .bool] [.Facts] false (fun a => extreme a.1 a.2.1) (fun a x hx h h' => fn_contract (Z := iseat) (ats := [.Rescue, .bool]) (ts := [.Facts]) (E := E25) (fn := Try.f25) (c := bodyOf Try.f25) Try.func25 (by kernel_rfl) (by kernel_rfl) (by kernel_rfl) (by kernel_rfl) rfl ((e25 itN a.1 a.2.1).trans ((extreme_eq a.1 a.2.1).symm.trans hx)) h h') (fun h => nomatch h)
def walked_L17 (r : Rescue) (f : Facts) (at_ : Int) (kn_2 : (List Int) → (List Bool) → Option (List Int)) (done : List Bool) (out3 : List Int) (i3 : Int) (kn_4 : (List Int) → Int → Option (List Int)) : Option (List Int) :=
 bif (decide (i3 < (r.Paths.length : Int))) then
 chk (decide (0 ≤ i3) && decide (i3 < (r.Paths.length : Int))) <|
 chk (decide (0 ≤ i3) && decide (i3 < (f.Open.length : Int))) <|
 bif (f.Open.getD i3.toNat false) then
 bif ((r.Paths.getD i3.toNat dfltPath).A == at_) then
 chk (decide (0 ≤ (w64 ((w64 ((r.Paths.getD i3.toNat dfltPath).A + (r.Paths.getD i3.toNat dfltPath).B)) - at_))) && decide ((w64 ((w64 ((r.Paths.getD i3.toNat dfltPath).A + (r.Paths.getD i3.toNat dfltPath).B)) - at_)) < (out3.length : Int))) <|
 chk (decide ((w64 ((w64 ((r.Paths.getD i3.toNat dfltPath).A + (r.Paths.getD i3.toNat dfltPath).B)) - at_)).toNat < out3.length)) <|
 chk (decide (0 ≤ at_) && decide (at_ < (out3.length : Int))) <|
 chk (decide (at_.toNat < out3.length)) <|
 chk (decide (0 ≤ i3) && decide (i3 < (f.Times.length : Int))) <|
 chk (decide (0 ≤ (w64 ((w64 ((r.Paths.getD i3.toNat dfltPath).A + (r.Paths.getD i3.toNat dfltPath).B)) - at_))) && decide ((w64 ((w64 ((r.Paths.getD i3.toNat dfltPath).A + (r.Paths.getD i3.toNat dfltPath).B)) - at_)) < (out3.length : Int))) <|
 chk (decide ((w64 ((w64 ((r.Paths.getD i3.toNat dfltPath).A + (r.Paths.getD i3.toNat dfltPath).B)) - at_)).toNat < out3.length)) <|
 kn_4 (out3.set (w64 ((w64 ((r.Paths.getD i3.toNat dfltPath).A + (r.Paths.getD i3.toNat dfltPath).B)) - at_)).toNat (min (out3.getD (w64 ((w64 ((r.Paths.getD i3.toNat dfltPath).A + (r.Paths.getD i3.toNat dfltPath).B)) - at_)).toNat 0) (w64 ((out3.getD at_.toNat 0) + (f.Times.getD i3.toNat 0))))) (w64 (i3 + 1))
 else
 bif ((r.Paths.getD i3.toNat dfltPath).B == at_) then
 chk (decide (0 ≤ (w64 ((w64 ((r.Paths.getD i3.toNat dfltPath).A + (r.Paths.getD i3.toNat dfltPath).B)) - at_))) && decide ((w64 ((w64 ((r.Paths.getD i3.toNat dfltPath).A + (r.Paths.getD i3.toNat dfltPath).B)) - at_)) < (out3.length : Int))) <|
 chk (decide ((w64 ((w64 ((r.Paths.getD i3.toNat dfltPath).A + (r.Paths.getD i3.toNat dfltPath).B)) - at_)).toNat < out3.length)) <|
 chk (decide (0 ≤ at_) && decide (at_ < (out3.length : Int))) <|
 chk (decide (at_.toNat < out3.length)) <|
 chk (decide (0 ≤ i3) && decide (i3 < (f.Times.length : Int))) <|
 chk (decide (0 ≤ (w64 ((w64 ((r.Paths.getD i3.toNat dfltPath).A + (r.Paths.getD i3.toNat dfltPath).B)) - at_))) && decide ((w64 ((w64 ((r.Paths.getD i3.toNat dfltPath).A + (r.Paths.getD i3.toNat dfltPath).B)) - at_)) < (out3.length : Int))) <|
 chk (decide ((w64 ((w64 ((r.Paths.getD i3.toNat dfltPath).A + (r.Paths.getD i3.toNat dfltPath).B)) - at_)).toNat < out3.length)) <|
 kn_4 (out3.set (w64 ((w64 ((r.Paths.getD i3.toNat dfltPath).A + (r.Paths.getD i3.toNat dfltPath).B)) - at_)).toNat (min (out3.getD (w64 ((w64 ((r.Paths.getD i3.toNat dfltPath).A + (r.Paths.getD i3.toNat dfltPath).B)) - at_)).toNat 0) (w64 ((out3.getD at_.toNat 0) + (f.Times.getD i3.toNat 0))))) (w64 (i3 + 1))
 else
 kn_4 out3 (w64 (i3 + 1))
 else
 kn_4 out3 (w64 (i3 + 1))
 else
 kn_2 out3 (done.set at_.toNat true)
def walked_L9 (it : It (List Int)) (r : Rescue) (done : List Bool) (out2 : List Int) (f : Facts) (kn_2 : (List Int) → (List Bool) → Option (List Int)) (at_ : Int) (i2 : Int) (kn_3 : Int → Int → Option (List Int)) : Option (List Int) :=
 bif (decide (i2 < r.Spots)) then
 chk (decide (0 ≤ i2) && decide (i2 < (done.length : Int))) <|
 chk (decide (i2.toNat < done.length)) <|
 bif (!(done.getD i2.toNat false)) then
 chk (decide (0 ≤ i2) && decide (i2 < (out2.length : Int))) <|
 chk (decide (i2.toNat < out2.length)) <|
 bif (decide ((out2.getD i2.toNat 0) < 1000000)) then
 bif (decide (at_ < 0)) then
 kn_3 i2 (w64 (i2 + 1))
 else
 chk (decide (0 ≤ i2) && decide (i2 < (out2.length : Int))) <|
 chk (decide (i2.toNat < out2.length)) <|
 chk (decide (0 ≤ at_) && decide (at_ < (out2.length : Int))) <|
 chk (decide (at_.toNat < out2.length)) <|
 bif (decide ((out2.getD i2.toNat 0) < (out2.getD at_.toNat 0))) then
 kn_3 i2 (w64 (i2 + 1))
 else
 kn_3 at_ (w64 (i2 + 1))
 else
 kn_3 at_ (w64 (i2 + 1))
 else
 kn_3 at_ (w64 (i2 + 1))
 else
 bif (decide (at_ < 0)) then
 some out2
 else
 chk (decide (0 ≤ at_) && decide (at_ < (done.length : Int))) <|
 chk (decide (at_.toNat < done.length)) <|
 it _ (fun (v_0 : (Unit × Unit × (List Int) × Unit × Int × Unit) × (Unit)) kn => walked_L17 r f at_ kn_2 done v_0.1.2.2.1 v_0.1.2.2.2.2.1 (fun y0 y1 => kn (((), (), y0, (), y1, ()), (())))) (((), (), out2, (), 0, ()), (()))
def walked_L500003 (it : It (List Int)) (r : Rescue) (f : Facts) (out2 : List Int) (done : List Bool) (kn_2 : (List Int) → (List Bool) → Option (List Int)) : Option (List Int) :=
 it _ (fun (v_0 : (Unit × Unit × Unit × Unit × Int × Int × Unit) × (Unit)) kn => walked_L9 it r done out2 f kn_2 v_0.1.2.2.2.2.1 v_0.1.2.2.2.2.2.1 (fun y0 y1 => kn (((), (), (), (), y0, y1, ()), (())))) (((), (), (), (), (-1), 0, ()), (()))
def walked_L3 (it : It (List Int)) (r : Rescue) (from_ : Int) (f : Facts) (out : List Int) (i : Int) (kn_ : (List Int) → Int → Option (List Int)) : Option (List Int) :=
 bif (decide (i < r.Spots)) then
 chk (decide (0 ≤ i) && decide (i < (out.length : Int))) <|
 chk (decide (i.toNat < out.length)) <|
 kn_ (out.set i.toNat 1000000) (w64 (i + 1))
 else
 chk (decide (0 ≤ from_) && decide (from_ < (out.length : Int))) <|
 chk (decide (from_.toNat < out.length)) <|
 it _ (fun (v_0 : (Unit × Unit × (List Int) × (List Bool) × Unit) × (Unit)) kn => walked_L500003 it r f v_0.1.2.2.1 v_0.1.2.2.2.1 (fun y0 y1 => kn (((), (), y0, y1, ()), (())))) (((), (), (out.set from_.toNat 0), (List.replicate r.Spots.toNat false), ()), (()))
def walked' (it : It (List Int)) (r : Rescue) (f : Facts) (from_ : Int) : Option (List Int) :=
 chk (fitM r.Spots 8) <|
 chk (fitM r.Spots 1) <|
 it _ (fun (v_0 : (Unit × Unit × (List Int) × Unit × Int × Unit) × (Unit)) kn => walked_L3 it r from_ f v_0.1.2.2.1 v_0.1.2.2.2.2.1 (fun y0 y1 => kn (((), (), y0, (), y1, ()), (())))) (((), (), (List.replicate r.Spots.toNat 0), (), 0, ()), (()))
def walked : Rescue → Facts → Int → Option (List Int) := opq (fun r f from_ => walked' itN r f from_)
theorem walked_eq (r : Rescue) (f : Facts) (from_ : Int) : walked r f from_ = walked' itN r f from_ := by unfold walked; rw [opq_eq]
def E81 : FEnv iseat := ⟨⟨131, [], [], [], [], [], [], [], [], [], [], [], [], true⟩, [(3, ⟨⟨[(3, .bx 3 0), (4, .bx 4 0), (7, .os 16 3 (.int .i64)), (8, .osr 19), (9, .v (.int .i64))], []⟩, [2], [3, 4, 19], []⟩), (9, ⟨⟨[(3, .bx 3 0), (4, .bx 4 0), (7, .osr 16), (8, .osr 19), (10, .v (.int .i64)), (11, .v (.int .i64))], []⟩, [], [16, 19], []⟩), (17, ⟨⟨[(3, .bx 3 0), (4, .bx 4 0), (7, .os 16 3 (.int .i64)), (8, .osr 19), (12, .v (.int .i64))], []⟩, [10], [19], []⟩), (500003, ⟨⟨[(3, .bx 3 0), (4, .bx 4 0), (7, .os 16 3 (.int .i64)), (8, .os 19 4 .bool)], []⟩, [], [3, 4], []⟩)]⟩
theorem e81 (it : It (List Int)) (r : Rescue) (f : Facts) (from_ : Int) : fnRunO (.sl (.int .i64)) 0 3 (.int .i64) it E81 (bodyOf Try.f81) Try.f81.results.toList (encA [.Rescue, .Facts, .int .i64] (r, f, from_, ())) = walked' it r f from_ := by kernel_rfl
def sp81 : FnSpecO iseat.toSeat := mkSpecO iseat.toSeat 81 [.Rescue, .Facts, .int .i64] (.sl (.int .i64)) 0 3 (.int .i64) (fun a => walked a.1 a.2.1 a.2.2.1) (fun a x hx l d hd h => fn_contractO (Z := iseat) (ats := [.Rescue, .Facts, .int .i64]) (E := E81) (fn := Try.f81) (c := bodyOf Try.f81) Try.func81 (by kernel_rfl) (by kernel_rfl) (by kernel_rfl) (by kernel_rfl) rfl ((e81 itN a.1 a.2.1 a.2.2.1).trans ((walked_eq a.1 a.2.1 a.2.2.1).symm.trans hx)) hd h)
def truly_L7 (post : Int) (f : Facts) (r : Rescue) (out : List Int) (i : Int) (kn_ : (List Int) → Int → Option (List Int)) : Option (List Int) :=
 bif (decide (i < (out.length : Int))) then
 chk (decide (0 ≤ i) && decide (i < (out.length : Int))) <|
 chk (decide (i.toNat < out.length)) <|
 chk (decide (0 ≤ post) && decide (post < (f.Ready.length : Int))) <|
 chk (decide (0 ≤ i) && decide (i < (out.length : Int))) <|
 chk (decide (i.toNat < out.length)) <|
 bif ((r.Posts.getD post.toNat dfltPost).Flies != 0) then
 chk (decide (0 ≤ post) && decide (post < (f.Flies.length : Int))) <|
 bif (!(f.Flies.getD post.toNat false)) then
 chk (decide (0 ≤ i) && decide (i < ((out.set i.toNat (min 1000000 (w64 ((out.getD i.toNat 0) + (f.Ready.getD post.toNat 0))))).length : Int))) <|
 chk (decide (i.toNat < (out.set i.toNat (min 1000000 (w64 ((out.getD i.toNat 0) + (f.Ready.getD post.toNat 0))))).length)) <|
 kn_ ((out.set i.toNat (min 1000000 (w64 ((out.getD i.toNat 0) + (f.Ready.getD post.toNat 0))))).set i.toNat 1000000) (w64 (i + 1))
 else
 kn_ (out.set i.toNat (min 1000000 (w64 ((out.getD i.toNat 0) + (f.Ready.getD post.toNat 0))))) (w64 (i + 1))
 else
 kn_ (out.set i.toNat (min 1000000 (w64 ((out.getD i.toNat 0) + (f.Ready.getD post.toNat 0))))) (w64 (i + 1))
 else
 some out
def truly_L7__2 (post : Int) (f : Facts) (r : Rescue) (out2 : List Int) (i2 : Int) (kn_2 : (List Int) → Int → Option (List Int)) : Option (List Int) :=
 bif (decide (i2 < (out2.length : Int))) then
 chk (decide (0 ≤ i2) && decide (i2 < (out2.length : Int))) <|
 chk (decide (i2.toNat < out2.length)) <|
 chk (decide (0 ≤ post) && decide (post < (f.Ready.length : Int))) <|
 chk (decide (0 ≤ i2) && decide (i2 < (out2.length : Int))) <|
 chk (decide (i2.toNat < out2.length)) <|
 bif ((r.Posts.getD post.toNat dfltPost).Flies != 0) then
 chk (decide (0 ≤ post) && decide (post < (f.Flies.length : Int))) <|
 bif (!(f.Flies.getD post.toNat false)) then
 chk (decide (0 ≤ i2) && decide (i2 < ((out2.set i2.toNat (min 1000000 (w64 ((out2.getD i2.toNat 0) + (f.Ready.getD post.toNat 0))))).length : Int))) <|
 chk (decide (i2.toNat < (out2.set i2.toNat (min 1000000 (w64 ((out2.getD i2.toNat 0) + (f.Ready.getD post.toNat 0))))).length)) <|
 kn_2 ((out2.set i2.toNat (min 1000000 (w64 ((out2.getD i2.toNat 0) + (f.Ready.getD post.toNat 0))))).set i2.toNat 1000000) (w64 (i2 + 1))
 else
 kn_2 (out2.set i2.toNat (min 1000000 (w64 ((out2.getD i2.toNat 0) + (f.Ready.getD post.toNat 0))))) (w64 (i2 + 1))
 else
 kn_2 (out2.set i2.toNat (min 1000000 (w64 ((out2.getD i2.toNat 0) + (f.Ready.getD post.toNat 0))))) (w64 (i2 + 1))
 else
 some out2
def truly' (it : It (List Int)) (r : Rescue) (f : Facts) (post : Int) : Option (List Int) :=
 chk (decide (0 ≤ post) && decide (post < (r.Posts.length : Int))) <|
 bif ((r.Posts.getD post.toNat dfltPost).Flies == 0) then
 (walked r f ((r.Posts.getD post.toNat dfltPost).Spot)).bind fun r2 =>
 it _ (fun (v_0 : (Unit × Unit × (List Int) × Int × Unit) × (Unit)) kn => truly_L7 post f r v_0.1.2.2.1 v_0.1.2.2.2.1 (fun y0 y1 => kn (((), (), y0, y1, ()), (())))) (((), (), r2, 0, ()), (()))
 else
 chk (decide (0 ≤ post) && decide (post < (f.Air.length : Int))) <|
 (Own (f.Air.getD post.toNat [])).bind fun r3 =>
 it _ (fun (v_0 : (Unit × Unit × (List Int) × Int × Unit) × (Unit)) kn => truly_L7__2 post f r v_0.1.2.2.1 v_0.1.2.2.2.1 (fun y0 y1 => kn (((), (), y0, y1, ()), (())))) (((), (), r3, 0, ()), (()))
def truly : Rescue → Facts → Int → Option (List Int) := opq (fun r f post => truly' itN r f post)
theorem truly_eq (r : Rescue) (f : Facts) (post : Int) : truly r f post = truly' itN r f post := by unfold truly; rw [opq_eq]
def E27 : FEnv iseat := ⟨⟨64, [], [], [], [sp81, sp21], [], [], [], [], [], [], [], [], true⟩, [(7, ⟨⟨[(4, .bx 4 0), (7, .bx 7 0), (8, .os 22 3 (.int .i64)), (9, .v (.int .i64))], []⟩, [2], [4, 7], [(8, 22)]⟩), (7, ⟨⟨[(4, .bx 4 0), (7, .bx 7 0), (8, .os 28 3 (.int .i64)), (9, .v (.int .i64))], []⟩, [2], [4, 7], [(8, 28)]⟩)]⟩
theorem e27 (it : It (List Int)) (r : Rescue) (f : Facts) (post : Int) : fnRun (ts := [.sl (.int .i64)]) it E27 (bodyOf Try.f27) Try.f27.results.toList (encA [.Rescue, .Facts, .int .i64] (r, f, post, ())) = truly' it r f post := by kernel_rfl
def sp27 : FnSpec iseat.toSeat := mkSpec iseat.toSeat 27 [.Rescue, .Facts, .int .i64] [.sl (.int .i64)] false (fun a => truly a.1 a.2.1 a.2.2.1) (fun a x hx h h' => fn_contract (Z := iseat) (ats := [.Rescue, .Facts, .int .i64]) (ts := [.sl (.int .i64)]) (E := E27) (fn := Try.f27) (c := bodyOf Try.f27) Try.func27 (by kernel_rfl) (by kernel_rfl) (by kernel_rfl) (by kernel_rfl) rfl ((e27 itN a.1 a.2.1 a.2.2.1).trans ((truly_eq a.1 a.2.1 a.2.2.1).symm.trans hx)) h h') (fun h => nomatch h)
def Listed_L2 (l : List Int) (n : Int) (i : Int) (kn_ : Int → Option Bool) : Option Bool :=
 bif (decide (i < (l.length : Int))) then
 chk (decide (0 ≤ i) && decide (i < (l.length : Int))) <|
 bif ((l.getD i.toNat 0) == n) then
 some true
 else
 kn_ (w64 (i + 1))
 else
 some false
def Listed' (it : It Bool) (l : List Int) (n : Int) : Option Bool :=
 it _ (fun (v_0 : (Int × Unit) × (Unit)) kn => Listed_L2 l n v_0.1.1 (fun y0 => kn ((y0, ()), (())))) ((0, ()), (()))
def Listed : (List Int) → Int → Option Bool := opq (fun l n => Listed' itN l n)
theorem Listed_eq (l : List Int) (n : Int) : Listed l n = Listed' itN l n := by unfold Listed; rw [opq_eq]
def E36 : FEnv iseat := ⟨⟨18, [], [], [], [], [], [], [], [], [], [], [], [], true⟩, [(2, ⟨⟨[(5, .v (.int .i64))], []⟩, [0, 1], [], []⟩)]⟩
theorem e36 (it : It Bool) (l : List Int) (n : Int) : fnRun (ts := [.bool]) it E36 (bodyOf Try.f36) Try.f36.results.toList (encA [.sl (.int .i64), .int .i64] (l, n, ())) = Listed' it l n := by kernel_rfl
def sp36 : FnSpec iseat.toSeat := mkSpec iseat.toSeat 36 [.sl (.int .i64), .int .i64] [.bool] true (fun a => Listed a.1 a.2.1) (fun a x hx h h' => fn_contract (Z := iseat) (ats := [.sl (.int .i64), .int .i64]) (ts := [.bool]) (E := E36) (fn := Try.f36) (c := bodyOf Try.f36) Try.func36 (by kernel_rfl) (by kernel_rfl) (by kernel_rfl) (by kernel_rfl) rfl ((e36 itN a.1 a.2.1).trans ((Listed_eq a.1 a.2.1).symm.trans hx)) h h') (fun _ x => rfl)
def saves' (it : It Bool) (r : Rescue) (live : List Span) (times : List (List Span)) (minute : Int) (post : Int) (spot : Int) : Option Bool :=
 chk (decide (0 ≤ post) && decide (post < (r.Posts.length : Int))) <|
 (Manned (r.Posts.getD post.toNat dfltPost) minute).bind fun r2 =>
 bif r2 then
 chk (decide (0 ≤ post) && decide (post < (times.length : Int))) <|
 chk (decide (0 ≤ spot) && decide (spot < ((times.getD post.toNat []).length : Int))) <|
 chk (decide (0 ≤ spot) && decide (spot < (live.length : Int))) <|
 some (decide (((times.getD post.toNat []).getD spot.toNat dfltSpan).Hi ≤ (live.getD spot.toNat dfltSpan).Lo))
 else
 some false
def saves : Rescue → (List Span) → (List (List Span)) → Int → Int → Int → Option Bool := opq (fun r live times minute post spot => saves' itN r live times minute post spot)
theorem saves_eq (r : Rescue) (live : List Span) (times : List (List Span)) (minute : Int) (post : Int) (spot : Int) : saves r live times minute post spot = saves' itN r live times minute post spot := by unfold saves; rw [opq_eq]
def E37 : FEnv iseat := ⟨⟨36, [sp47], [], [], [], [], [], [], [], [], [], [], [], true⟩, []⟩
theorem e37 (it : It Bool) (r : Rescue) (live : List Span) (times : List (List Span)) (minute : Int) (post : Int) (spot : Int) : fnRun (ts := [.bool]) it E37 (bodyOf Try.f37) Try.f37.results.toList (encA [.Rescue, .sl .Span, .sl (.sl .Span), .int .i64, .int .i64, .int .i64] (r, live, times, minute, post, spot, ())) = saves' it r live times minute post spot := by kernel_rfl
def sp37 : FnSpec iseat.toSeat := mkSpec iseat.toSeat 37 [.Rescue, .sl .Span, .sl (.sl .Span), .int .i64, .int .i64, .int .i64] [.bool] true (fun a => saves a.1 a.2.1 a.2.2.1 a.2.2.2.1 a.2.2.2.2.1 a.2.2.2.2.2.1) (fun a x hx h h' => fn_contract (Z := iseat) (ats := [.Rescue, .sl .Span, .sl (.sl .Span), .int .i64, .int .i64, .int .i64]) (ts := [.bool]) (E := E37) (fn := Try.f37) (c := bodyOf Try.f37) Try.func37 (by kernel_rfl) (by kernel_rfl) (by kernel_rfl) (by kernel_rfl) rfl ((e37 itN a.1 a.2.1 a.2.2.1 a.2.2.2.1 a.2.2.2.2.1 a.2.2.2.2.2.1).trans ((saves_eq a.1 a.2.1 a.2.2.1 a.2.2.2.1 a.2.2.2.2.1 a.2.2.2.2.2.1).symm.trans hx)) h h') (fun _ x => rfl)
def Wrap' (it : It Int) (x : Int) (n : Int) : Option Int :=
 bif (decide (n < 2)) then
 some 0
 else
 chk (n != 0) <|
 chk (n != 0) <|
 some ((w64 ((x.tmod n) + n)).tmod n)
def Wrap : Int → Int → Option Int := opq (fun x n => Wrap' itN x n)
theorem Wrap_eq (x : Int) (n : Int) : Wrap x n = Wrap' itN x n := by unfold Wrap; rw [opq_eq]
def E38 : FEnv iseat := ⟨⟨14, [], [], [], [], [], [], [], [], [], [], [], [], true⟩, []⟩
theorem e38 (it : It Int) (x : Int) (n : Int) : fnRun (ts := [.int .i64]) it E38 (bodyOf Try.f38) Try.f38.results.toList (encA [.int .i64, .int .i64] (x, n, ())) = Wrap' it x n := by kernel_rfl
def sp38 : FnSpec iseat.toSeat := mkSpec iseat.toSeat 38 [.int .i64, .int .i64] [.int .i64] true (fun a => Wrap a.1 a.2.1) (fun a x hx h h' => fn_contract (Z := iseat) (ats := [.int .i64, .int .i64]) (ts := [.int .i64]) (E := E38) (fn := Try.f38) (c := bodyOf Try.f38) Try.func38 (by kernel_rfl) (by kernel_rfl) (by kernel_rfl) (by kernel_rfl) rfl ((e38 itN a.1 a.2.1).trans ((Wrap_eq a.1 a.2.1).symm.trans hx)) h h') (fun _ x => rfl)
def true2' (it : It (Seed × Bool)) (s : Seed) (v : Int) : Option (Seed × Bool) :=
 bif (v == 1) then
 some (s, true)
 else
 bif (v == 3) then
 (Yes s 2).bind fun r =>
 some (r.1, r.2)
 else
 some (s, false)
def true2 : Seed → Int → Option (Seed × Bool) := opq (fun s v => true2' itN s v)
theorem true2_eq (s : Seed) (v : Int) : true2 s v = true2' itN s v := by unfold true2; rw [opq_eq]
def E97 : FEnv iseat := ⟨⟨15, [], [sp29], [], [], [], [], [], [], [], [], [], [0], true⟩, []⟩
theorem e97 (it : It (Seed × Bool)) (s : Seed) (v : Int) : fnRunR (bt := .Seed) (ts := [.bool]) it E97 (bodyOf Try.f97) Try.f97.results.toList (encC .Seed s) (encA [.int .i64] (v, ())) = true2' it s v := by kernel_rfl
def sp97 : FnSpecR iseat.toSeat := mkSpecR iseat.toSeat 97 .Seed [.int .i64] [.bool] (fun b a => true2 b a.1) (fun b a y x hx h => fn_contractR (Z := iseat) (bt := .Seed) (ats := [.int .i64]) (ts := [.bool]) (E := E97) (fn := Try.f97) (c := bodyOf Try.f97) Try.func97 (by kernel_rfl) (by kernel_rfl) (by kernel_rfl) (by kernel_rfl) rfl ((e97 itN b a.1).trans ((true2_eq b a.1).symm.trans hx)) h)
def FactsOf_L13 (r : Rescue) (i2 : Int) (f_Air : List (List Int)) (kn_2 : Int → Int → (List Int) → (List Bool) → (List (List Int)) → Option (Seed × Facts)) (f_Ready : List Int) (r4 : (Seed × Int)) (f_Flies : List Bool) (r5 : (Seed × Bool)) (air : List Int) (k : Int) (s_word3 : Int) (kn_3 : (List Int) → Int → Int → Option (Seed × Facts)) : Option (Seed × Facts) :=
 bif (decide (k < (((r.Posts.getD i2.toNat dfltPost).Air).length : Int))) then
 chk (decide (0 ≤ k) && decide (k < (((r.Posts.getD i2.toNat dfltPost).Air).length : Int))) <|
 (Inside (⟨s_word3⟩ : Seed) (((r.Posts.getD i2.toNat dfltPost).Air).getD k.toNat dfltSpan)).bind fun r6 =>
 chk (fitA (air.length + [r6.2].length) 8) <|
 kn_3 (air ++ [r6.2]) (w64 (k + 1)) r6.1.word
 else
 chk (fitA (f_Air.length + [air].length) 24) <|
 kn_2 (w64 (i2 + 1)) s_word3 (f_Ready ++ [r4.2]) (f_Flies ++ [r5.2]) (f_Air ++ [air])
def FactsOf_L23 (r : Rescue) (f_Times : List Int) (f_Ready : List Int) (f_Water : List Int) (f_Open : List Bool) (f_Flies : List Bool) (f_Air : List (List Int)) (least : Int) (i4 : Int) (s_word5 : Int) (f_Live : List Int) (kn_5 : Int → Int → Int → (List Int) → Option (Seed × Facts)) : Option (Seed × Facts) :=
 bif (decide (i4 < (r.Chills.length : Int))) then
 chk (decide (0 ≤ i4) && decide (i4 < (r.Chills.length : Int))) <|
 (Inside (⟨s_word5⟩ : Seed) ((r.Chills.getD i4.toNat dfltChill).Minutes)).bind fun r8 =>
 chk (fitA (f_Live.length + [(max least r8.2)].length) 8) <|
 kn_5 (max least r8.2) (w64 (i4 + 1)) r8.1.word (f_Live ++ [(max least r8.2)])
 else
 some ((⟨s_word5⟩ : Seed), (⟨f_Times, f_Ready, f_Water, f_Live, f_Open, f_Flies, f_Air⟩ : Facts))
def FactsOf_L18 (it : It (Seed × Facts)) (r : Rescue) (f_Times : List Int) (f_Ready : List Int) (f_Open : List Bool) (f_Flies : List Bool) (f_Air : List (List Int)) (i3 : Int) (s_word4 : Int) (f_Water : List Int) (kn_4 : Int → Int → (List Int) → Option (Seed × Facts)) : Option (Seed × Facts) :=
 bif (decide (i3 < (r.Water.length : Int))) then
 chk (decide (0 ≤ i3) && decide (i3 < (r.Water.length : Int))) <|
 (Inside (⟨s_word4⟩ : Seed) (r.Water.getD i3.toNat dfltSpan)).bind fun r7 =>
 chk (fitA (f_Water.length + [r7.2].length) 8) <|
 kn_4 (w64 (i3 + 1)) r7.1.word (f_Water ++ [r7.2])
 else
 it _ (fun (v_0 : (Unit × Unit × Unit × Unit × Int × Int × Unit) × ((Int × Unit) × (Unit × Unit × Unit × (List Int) × Unit × Unit × Unit × Unit) × Unit)) kn => FactsOf_L23 r f_Times f_Ready f_Water f_Open f_Flies f_Air v_0.1.2.2.2.2.1 v_0.1.2.2.2.2.2.1 v_0.2.1.1 v_0.2.2.1.2.2.2.1 (fun y0 y1 y2 y3 => kn (((), (), (), (), y0, y1, ()), ((y2, ()), ((), (), (), y3, (), (), (), ()), ())))) (((), (), (), (), 0, 0, ()), ((s_word4, ()), ((), (), (), [], (), (), (), ()), ()))
def FactsOf_L7 (it : It (Seed × Facts)) (r : Rescue) (f_Times : List Int) (f_Open : List Bool) (i2 : Int) (s_word2 : Int) (f_Ready : List Int) (f_Flies : List Bool) (f_Air : List (List Int)) (kn_2 : Int → Int → (List Int) → (List Bool) → (List (List Int)) → Option (Seed × Facts)) : Option (Seed × Facts) :=
 bif (decide (i2 < (r.Posts.length : Int))) then
 chk (decide (0 ≤ i2) && decide (i2 < (r.Posts.length : Int))) <|
 (Inside (⟨s_word2⟩ : Seed) ((r.Posts.getD i2.toNat dfltPost).Ready)).bind fun r4 =>
 chk (fitA (f_Ready.length + [r4.2].length) 8) <|
 (true2 r4.1 ((r.Posts.getD i2.toNat dfltPost).Flies)).bind fun r5 =>
 chk (fitA (f_Flies.length + [r5.2].length) 1) <|
 it _ (fun (v_0 : (Unit × Unit × Unit × Unit × Unit × (List Int) × Int × Unit) × ((Int × Unit) × (Unit × Unit × Unit × Unit × Unit × Unit × Unit × Unit) × Unit)) kn => FactsOf_L13 r i2 f_Air kn_2 f_Ready r4 f_Flies r5 v_0.1.2.2.2.2.2.1 v_0.1.2.2.2.2.2.2.1 v_0.2.1.1 (fun y0 y1 y2 => kn (((), (), (), (), (), y0, y1, ()), ((y2, ()), ((), (), (), (), (), (), (), ()), ())))) (((), (), (), (), (), ([] : List Int), 0, ()), ((r5.1.word, ()), ((), (), (), (), (), (), (), ()), ()))
 else
 it _ (fun (v_0 : (Unit × Unit × Unit × Unit × Int × Unit) × ((Int × Unit) × (Unit × Unit × (List Int) × Unit × Unit × Unit × Unit × Unit) × Unit)) kn => FactsOf_L18 it r f_Times f_Ready f_Open f_Flies f_Air v_0.1.2.2.2.2.1 v_0.2.1.1 v_0.2.2.1.2.2.1 (fun y0 y1 y2 => kn (((), (), (), (), y0, ()), ((y1, ()), ((), (), y2, (), (), (), (), ()), ())))) (((), (), (), (), 0, ()), ((s_word2, ()), ((), (), [], (), (), (), (), ()), ()))
def FactsOf_L3 (it : It (Seed × Facts)) (r : Rescue) (i : Int) (s_word : Int) (f_Times : List Int) (f_Open : List Bool) (kn_ : Int → Int → (List Int) → (List Bool) → Option (Seed × Facts)) : Option (Seed × Facts) :=
 bif (decide (i < (r.Paths.length : Int))) then
 chk (decide (0 ≤ i) && decide (i < (r.Paths.length : Int))) <|
 (Inside (⟨s_word⟩ : Seed) ((r.Paths.getD i.toNat dfltPath).Time)).bind fun r2 =>
 chk (fitA (f_Times.length + [r2.2].length) 8) <|
 chk (decide (0 ≤ i) && decide (i < (r.Paths.length : Int))) <|
 (true2 r2.1 ((r.Paths.getD i.toNat dfltPath).Open)).bind fun r3 =>
 chk (fitA (f_Open.length + [r3.2].length) 1) <|
 kn_ (w64 (i + 1)) r3.1.word (f_Times ++ [r2.2]) (f_Open ++ [r3.2])
 else
 it _ (fun (v_0 : (Unit × Unit × Unit × Unit × Int × Unit) × ((Int × Unit) × (Unit × (List Int) × Unit × Unit × Unit × (List Bool) × (List (List Int)) × Unit) × Unit)) kn => FactsOf_L7 it r f_Times f_Open v_0.1.2.2.2.2.1 v_0.2.1.1 v_0.2.2.1.2.1 v_0.2.2.1.2.2.2.2.2.1 v_0.2.2.1.2.2.2.2.2.2.1 (fun y0 y1 y2 y3 y4 => kn (((), (), (), (), y0, ()), ((y1, ()), ((), y2, (), (), (), y3, y4, ()), ())))) (((), (), (), (), 0, ()), ((s_word, ()), ((), [], (), (), (), [], [], ()), ()))
def FactsOf' (it : It (Seed × Facts)) (s : Seed) (r : Rescue) : Option (Seed × Facts) :=
 it _ (fun (v_0 : (Unit × Unit × Unit × Unit × Int × Unit) × ((Int × Unit) × ((List Int) × Unit × Unit × Unit × (List Bool) × Unit × Unit × Unit) × Unit)) kn => FactsOf_L3 it r v_0.1.2.2.2.2.1 v_0.2.1.1 v_0.2.2.1.1 v_0.2.2.1.2.2.2.2.1 (fun y0 y1 y2 y3 => kn (((), (), (), (), y0, ()), ((y1, ()), (y2, (), (), (), y3, (), (), ()), ())))) (((), (), (), (), 0, ()), ((s.word, ()), ([], (), (), (), [], (), (), ()), ()))
def FactsOf : Seed → Rescue → Option (Seed × Facts) := opq (fun s r => FactsOf' itN s r)
theorem FactsOf_eq (s : Seed) (r : Rescue) : FactsOf s r = FactsOf' itN s r := by unfold FactsOf; rw [opq_eq]
def E45 : FEnv iseat := ⟨⟨143, [], [sp96, sp97], [], [], [], [], [], [], [], [], [31, 43, 65, 73, 92, 97, 116, 139], [0], true⟩, [(3, ⟨⟨[(0, .bx 0 0), (3, .bx 3 0), (4, .bx 4 0), (5, .bx 5 0), (6, .v (.int .i64))], [(0, [.v (.int .u64)]), (5, [.os 32 3 (.int .i64), .nilc, .nilc, .nilc, .os 44 4 .bool, .nilc, .nilc])]⟩, [], [3, 4], []⟩), (7, ⟨⟨[(0, .bx 0 0), (3, .bx 3 0), (4, .bx 4 0), (5, .bx 5 0), (7, .v (.int .i64))], [(0, [.v (.int .u64)]), (5, [.osr 32, .os 66 3 (.int .i64), .nilc, .nilc, .osr 44, .os 74 4 .bool, .os 98 28 (.sl (.int .i64))])]⟩, [], [3, 4, 32, 44], []⟩), (13, ⟨⟨[(0, .bx 0 0), (3, .bx 3 0), (4, .bx 4 0), (5, .bx 5 0), (8, .bx 8 0), (9, .os 9 3 (.int .i64)), (10, .v (.int .i64))], [(0, [.v (.int .u64)]), (5, [.osr 32, .osr 66, .nilc, .nilc, .osr 44, .osr 74, .osr 98])]⟩, [7], [8, 66, 74, 98], []⟩), (18, ⟨⟨[(0, .bx 0 0), (3, .bx 3 0), (4, .bx 4 0), (5, .bx 5 0), (11, .v (.int .i64))], [(0, [.v (.int .u64)]), (5, [.osr 32, .osr 66, .os 117 3 (.int .i64), .nilc, .osr 44, .osr 74, .osr 98])]⟩, [], [3, 4, 32, 66, 44, 74, 98], []⟩), (23, ⟨⟨[(0, .bx 0 0), (3, .bx 3 0), (4, .bx 4 0), (5, .bx 5 0), (12, .v (.int .i64)), (13, .v (.int .i64))], [(0, [.v (.int .u64)]), (5, [.osr 32, .osr 66, .osr 117, .os 140 3 (.int .i64), .osr 44, .osr 74, .osr 98])]⟩, [], [3, 4, 32, 66, 117, 44, 74, 98], []⟩)]⟩
theorem e45 (it : It (Seed × Facts)) (s : Seed) (r : Rescue) : fnRunR (bt := .Seed) (ts := [.Facts]) it E45 (bodyOf Try.f45) Try.f45.results.toList (encC .Seed s) (encA [.Rescue] (r, ())) = FactsOf' it s r := by kernel_rfl
def sp45 : FnSpecR iseat.toSeat := mkSpecR iseat.toSeat 45 .Seed [.Rescue] [.Facts] (fun b a => FactsOf b a.1) (fun b a y x hx h => fn_contractR (Z := iseat) (bt := .Seed) (ats := [.Rescue]) (ts := [.Facts]) (E := E45) (fn := Try.f45) (c := bodyOf Try.f45) Try.func45 (by kernel_rfl) (by kernel_rfl) (by kernel_rfl) (by kernel_rfl) rfl ((e45 itN b a.1).trans ((FactsOf_eq b a.1).symm.trans hx)) h)
def Has' (it : It Bool) (x : Span) (n : Int) : Option Bool :=
 bif (decide (x.Lo ≤ n)) then
 some (decide (n ≤ x.Hi))
 else
 some false
def Has : Span → Int → Option Bool := opq (fun x n => Has' itN x n)
theorem Has_eq (x : Span) (n : Int) : Has x n = Has' itN x n := by unfold Has; rw [opq_eq]
def E46 : FEnv iseat := ⟨⟨15, [], [], [], [], [], [], [], [], [], [], [], [], true⟩, []⟩
theorem e46 (it : It Bool) (x : Span) (n : Int) : fnRun (ts := [.bool]) it E46 (bodyOf Try.f46) Try.f46.results.toList (encA [.Span, .int .i64] (x, n, ())) = Has' it x n := by kernel_rfl
def sp46 : FnSpec iseat.toSeat := mkSpec iseat.toSeat 46 [.Span, .int .i64] [.bool] true (fun a => Has a.1 a.2.1) (fun a x hx h h' => fn_contract (Z := iseat) (ats := [.Span, .int .i64]) (ts := [.bool]) (E := E46) (fn := Try.f46) (c := bodyOf Try.f46) Try.func46 (by kernel_rfl) (by kernel_rfl) (by kernel_rfl) (by kernel_rfl) rfl ((e46 itN a.1 a.2.1).trans ((Has_eq a.1 a.2.1).symm.trans hx)) h h') (fun _ x => rfl)
def alive_L3 (r : Rescue) (spot : Int) (f : Facts) (n : Int) (i : Int) (kn_ : Int → Int → Option Int) : Option Int :=
 bif (decide (i < (r.Chills.length : Int))) then
 chk (decide (0 ≤ i) && decide (i < (r.Chills.length : Int))) <|
 chk (decide (0 ≤ spot) && decide (spot < (f.Water.length : Int))) <|
 bif (decide ((r.Chills.getD i.toNat dfltChill).Warm ≤ (f.Water.getD spot.toNat 0))) then
 chk (decide (0 ≤ i) && decide (i < (f.Live.length : Int))) <|
 kn_ (f.Live.getD i.toNat 0) (w64 (i + 1))
 else
 kn_ n (w64 (i + 1))
 else
 some n
def alive' (it : It Int) (r : Rescue) (f : Facts) (spot : Int) : Option Int :=
 it _ (fun (v_0 : (Unit × Unit × Int × Int × Unit) × (Unit)) kn => alive_L3 r spot f v_0.1.2.2.1 v_0.1.2.2.2.1 (fun y0 y1 => kn (((), (), y0, y1, ()), (())))) (((), (), 0, 0, ()), (()))
def alive : Rescue → Facts → Int → Option Int := opq (fun r f spot => alive' itN r f spot)
theorem alive_eq (r : Rescue) (f : Facts) (spot : Int) : alive r f spot = alive' itN r f spot := by unfold alive; rw [opq_eq]
def E48 : FEnv iseat := ⟨⟨34, [], [], [], [], [], [], [], [], [], [], [], [], true⟩, [(3, ⟨⟨[(3, .bx 3 0), (4, .bx 4 0), (7, .v (.int .i64)), (8, .v (.int .i64))], []⟩, [2], [3, 4], []⟩)]⟩
theorem e48 (it : It Int) (r : Rescue) (f : Facts) (spot : Int) : fnRun (ts := [.int .i64]) it E48 (bodyOf Try.f48) Try.f48.results.toList (encA [.Rescue, .Facts, .int .i64] (r, f, spot, ())) = alive' it r f spot := by kernel_rfl
def sp48 : FnSpec iseat.toSeat := mkSpec iseat.toSeat 48 [.Rescue, .Facts, .int .i64] [.int .i64] true (fun a => alive a.1 a.2.1 a.2.2.1) (fun a x hx h h' => fn_contract (Z := iseat) (ats := [.Rescue, .Facts, .int .i64]) (ts := [.int .i64]) (E := E48) (fn := Try.f48) (c := bodyOf Try.f48) Try.func48 (by kernel_rfl) (by kernel_rfl) (by kernel_rfl) (by kernel_rfl) rfl ((e48 itN a.1 a.2.1 a.2.2.1).trans ((alive_eq a.1 a.2.1 a.2.2.1).symm.trans hx)) h h') (fun _ x => rfl)
def decided' (it : It (Seed × Int)) (s : Seed) (v : Int) : Option (Seed × Int) :=
 bif (v != 3) then
 some (s, v)
 else
 (From s 1 3).bind fun r =>
 some (r.1, r.2)
def decided : Seed → Int → Option (Seed × Int) := opq (fun s v => decided' itN s v)
theorem decided_eq (s : Seed) (v : Int) : decided s v = decided' itN s v := by unfold decided; rw [opq_eq]
def E99 : FEnv iseat := ⟨⟨10, [], [sp40], [], [], [], [], [], [], [], [], [], [0], true⟩, []⟩
theorem e99 (it : It (Seed × Int)) (s : Seed) (v : Int) : fnRunR (bt := .Seed) (ts := [.int .i64]) it E99 (bodyOf Try.f99) Try.f99.results.toList (encC .Seed s) (encA [.int .i64] (v, ())) = decided' it s v := by kernel_rfl
def sp99 : FnSpecR iseat.toSeat := mkSpecR iseat.toSeat 99 .Seed [.int .i64] [.int .i64] (fun b a => decided b a.1) (fun b a y x hx h => fn_contractR (Z := iseat) (bt := .Seed) (ats := [.int .i64]) (ts := [.int .i64]) (E := E99) (fn := Try.f99) (c := bodyOf Try.f99) Try.func99 (by kernel_rfl) (by kernel_rfl) (by kernel_rfl) (by kernel_rfl) rfl ((e99 itN b a.1).trans ((decided_eq b a.1).symm.trans hx)) h)
def Parts_L3 (l : List Span) (out : List Span) (i : Int) (s_word : Int) (kn_ : (List Span) → Int → Int → Option (Seed × List Span)) : Option (Seed × List Span) :=
 bif (decide (i < (l.length : Int))) then
 chk (decide (0 ≤ i) && decide (i < (l.length : Int))) <|
 (Part (⟨s_word⟩ : Seed) (l.getD i.toNat dfltSpan)).bind fun r =>
 chk (fitA (out.length + ([r.2] : List Span).length) 16) <|
 kn_ (out ++ ([r.2] : List Span)) (w64 (i + 1)) r.1.word
 else
 some ((⟨s_word⟩ : Seed), out)
def Parts' (it : It (Seed × List Span)) (s : Seed) (l : List Span) : Option (Seed × List Span) :=
 it _ (fun (v_0 : (Unit × (List Span) × Int × Unit) × ((Int × Unit) × Unit)) kn => Parts_L3 l v_0.1.2.1 v_0.1.2.2.1 v_0.2.1.1 (fun y0 y1 y2 => kn (((), y0, y1, ()), ((y2, ()), ())))) (((), ([] : List Span), 0, ()), ((s.word, ()), ()))
def Parts : Seed → (List Span) → Option (Seed × List Span) := opq (fun s l => Parts' itN s l)
theorem Parts_eq (s : Seed) (l : List Span) : Parts s l = Parts' itN s l := by unfold Parts; rw [opq_eq]
def E100 : FEnv iseat := ⟨⟨23, [], [sp98], [], [], [], [], [], [], [], [], [20], [0], true⟩, [(3, ⟨⟨[(0, .bx 0 0), (5, .os 5 51 .Span), (6, .v (.int .i64))], [(0, [.v (.int .u64)])]⟩, [1], [], []⟩)]⟩
theorem e100 (it : It (Seed × List Span)) (s : Seed) (l : List Span) : fnRunR (bt := .Seed) (ts := [.sl .Span]) it E100 (bodyOf Try.f100) Try.f100.results.toList (encC .Seed s) (encA [.sl .Span] (l, ())) = Parts' it s l := by kernel_rfl
def sp100 : FnSpecR iseat.toSeat := mkSpecR iseat.toSeat 100 .Seed [.sl .Span] [.sl .Span] (fun b a => Parts b a.1) (fun b a y x hx h => fn_contractR (Z := iseat) (bt := .Seed) (ats := [.sl .Span]) (ts := [.sl .Span]) (E := E100) (fn := Try.f100) (c := bodyOf Try.f100) Try.func100 (by kernel_rfl) (by kernel_rfl) (by kernel_rfl) (by kernel_rfl) rfl ((e100 itN b a.1).trans ((Parts_eq b a.1).symm.trans hx)) h)
def In' (it : It Bool) (a : Span) (b : Span) : Option Bool :=
 bif (decide (a.Lo ≥ b.Lo)) then
 some (decide (a.Hi ≤ b.Hi))
 else
 some false
def In : Span → Span → Option Bool := opq (fun a b => In' itN a b)
theorem In_eq (a : Span) (b : Span) : In a b = In' itN a b := by unfold In; rw [opq_eq]
def E50 : FEnv iseat := ⟨⟨17, [], [], [], [], [], [], [], [], [], [], [], [], true⟩, []⟩
theorem e50 (it : It Bool) (a : Span) (b : Span) : fnRun (ts := [.bool]) it E50 (bodyOf Try.f50) Try.f50.results.toList (encA [.Span, .Span] (a, b, ())) = In' it a b := by kernel_rfl
def sp50 : FnSpec iseat.toSeat := mkSpec iseat.toSeat 50 [.Span, .Span] [.bool] true (fun a => In a.1 a.2.1) (fun a x hx h h' => fn_contract (Z := iseat) (ats := [.Span, .Span]) (ts := [.bool]) (E := E50) (fn := Try.f50) (c := bodyOf Try.f50) Try.func50 (by kernel_rfl) (by kernel_rfl) (by kernel_rfl) (by kernel_rfl) rfl ((e50 itN a.1 a.2.1).trans ((In_eq a.1 a.2.1).symm.trans hx)) h h') (fun _ x => rfl)
def OwnSpans' (it : It (List Span)) (l : List Span) : Option (List Span) :=
 chk (fitA (([] : List Span).length + l.length) 16) <|
 some (([] : List Span) ++ l)
def OwnSpans : (List Span) → Option (List Span) := opq (fun l => OwnSpans' itN l)
theorem OwnSpans_eq (l : List Span) : OwnSpans l = OwnSpans' itN l := by unfold OwnSpans; rw [opq_eq]
def E101 : FEnv iseat := ⟨⟨6, [], [], [], [], [], [], [], [], [], [], [], [], true⟩, []⟩
theorem e101 (it : It (List Span)) (l : List Span) : fnRunO (.sl .Span) 0 51 .Span it E101 (bodyOf Try.f101) Try.f101.results.toList (encA [.sl .Span] (l, ())) = OwnSpans' it l := by kernel_rfl
def sp101 : FnSpecO iseat.toSeat := mkSpecO iseat.toSeat 101 [.sl .Span] (.sl .Span) 0 51 .Span (fun a => OwnSpans a.1) (fun a x hx l d hd h => fn_contractO (Z := iseat) (ats := [.sl .Span]) (E := E101) (fn := Try.f101) (c := bodyOf Try.f101) Try.func101 (by kernel_rfl) (by kernel_rfl) (by kernel_rfl) (by kernel_rfl) rfl ((e101 itN a.1).trans ((OwnSpans_eq a.1).symm.trans hx)) hd h)
def OwnRescue_L3 (r : Rescue) (i : Int) (r_Spots : Int) (r_Posts : List Post) (r_Water : List Span) (r_Chills : List Chill) (kn_ : Int → Int → (List Post) → (List Span) → (List Chill) → Option Rescue) : Option Rescue :=
 bif (decide (i < (r_Posts.length : Int))) then
 chk (decide (0 ≤ i) && decide (i < (r_Posts.length : Int))) <|
 chk (decide (i.toNat < r_Posts.length)) <|
 (OwnSpans ((r_Posts.getD i.toNat dfltPost).Air)).bind fun r2 =>
 chk (decide (0 ≤ i) && decide (i < (r_Posts.length : Int))) <|
 chk (decide (i.toNat < r_Posts.length)) <|
 chk (decide (i.toNat < r_Posts.length)) <|
 kn_ (w64 (i + 1)) r_Spots (r_Posts.set i.toNat (⟨(r_Posts.getD i.toNat dfltPost).Spot, (r_Posts.getD i.toNat dfltPost).Ready, (r_Posts.getD i.toNat dfltPost).From, (r_Posts.getD i.toNat dfltPost).To, (r_Posts.getD i.toNat dfltPost).Flies, r2⟩ : Post)) r_Water r_Chills
 else
 (OwnSpans r_Water).bind fun r3 =>
 chk (fitA (([] : List Chill).length + r_Chills.length) 24) <|
 some (⟨r_Spots, (([] : List Path) ++ r.Paths), r_Posts, r3, (([] : List Chill) ++ r_Chills)⟩ : Rescue)
def OwnRescue' (it : It Rescue) (r : Rescue) : Option Rescue :=
 chk (fitA (([] : List Path).length + r.Paths.length) 40) <|
 chk (fitA (([] : List Post).length + r.Posts.length) 72) <|
 it _ (fun (v_0 : (Unit × Unit × Int × Unit) × ((Int × Unit × (List Post) × (List Span) × (List Chill) × Unit) × Unit)) kn => OwnRescue_L3 r v_0.1.2.2.1 v_0.2.1.1 v_0.2.1.2.2.1 v_0.2.1.2.2.2.1 v_0.2.1.2.2.2.2.1 (fun y0 y1 y2 y3 y4 => kn (((), (), y0, ()), ((y1, (), y2, y3, y4, ()), ())))) (((), (), 0, ()), ((r.Spots, (), (([] : List Post) ++ r.Posts), r.Water, r.Chills, ()), ()))
def OwnRescue : Rescue → Option Rescue := opq (fun r => OwnRescue' itN r)
theorem OwnRescue_eq (r : Rescue) : OwnRescue r = OwnRescue' itN r := by unfold OwnRescue; rw [opq_eq]
def E51 : FEnv iseat := ⟨⟨43, [], [], [], [sp101], [], [], [], [], [], [], [], [], true⟩, [(3, ⟨⟨[(1, .bx 1 0), (2, .bx 2 0), (3, .v (.int .i64))], [(1, [.v (.int .i64), .osr 4, .os 8 57 .Post, .v (.sl .Span), .v (.sl .Chill)])]⟩, [], [2, 4], []⟩)]⟩
theorem e51 (it : It Rescue) (r : Rescue) : fnRunOM .Rescue [none, some (55, .Path), some (57, .Post), some (51, .Span), some (94, .Chill)] it E51 (bodyOf Try.f51) Try.f51.results.toList (encA [.Rescue] (r, ())) = OwnRescue' it r := by kernel_rfl
def sp51 : FnSpecOM iseat.toSeat := mkSpecOM iseat.toSeat 51 [.Rescue] .Rescue [none, some (55, .Path), some (57, .Post), some (51, .Span), some (94, .Chill)] (fun a => OwnRescue a.1) (fun a x hx os d hd h => fn_contractOM (Z := iseat) (ats := [.Rescue]) (E := E51) (fn := Try.f51) (c := bodyOf Try.f51) Try.func51 (by kernel_rfl) (by kernel_rfl) (by kernel_rfl) (by kernel_rfl) rfl ((e51 itN a.1).trans ((OwnRescue_eq a.1).symm.trans hx)) hd h)
def InnerRescue_L13 (out_Paths : List Path) (out_Posts : List Post) (i3 : Int) (s_word3 : Int) (out_Spots3 : Int) (out_Water : List Span) (out_Chills : List Chill) (kn_3 : Int → Int → Int → (List Span) → (List Chill) → Option (Seed × Rescue)) : Option (Seed × Rescue) :=
 bif (decide (i3 < (out_Chills.length : Int))) then
 chk (decide (0 ≤ i3) && decide (i3 < (out_Chills.length : Int))) <|
 chk (decide (i3.toNat < out_Chills.length)) <|
 (Part (⟨s_word3⟩ : Seed) ((out_Chills.getD i3.toNat dfltChill).Minutes)).bind fun r9 =>
 bif (decide (i3 > 0)) then
 chk (decide (0 ≤ (w64 (i3 - 1))) && decide ((w64 (i3 - 1)) < (out_Chills.length : Int))) <|
 chk (decide ((w64 (i3 - 1)).toNat < out_Chills.length)) <|
 chk (decide (0 ≤ (w64 (i3 - 1))) && decide ((w64 (i3 - 1)) < (out_Chills.length : Int))) <|
 chk (decide ((w64 (i3 - 1)).toNat < out_Chills.length)) <|
 chk (decide (0 ≤ i3) && decide (i3 < (out_Chills.length : Int))) <|
 chk (decide (i3.toNat < out_Chills.length)) <|
 kn_3 (w64 (i3 + 1)) r9.1.word out_Spots3 out_Water (out_Chills.set i3.toNat (⟨(out_Chills.getD i3.toNat dfltChill).Warm, ⟨(max r9.2.Lo ((out_Chills.getD (w64 (i3 - 1)).toNat dfltChill).Minutes.Lo)), (max r9.2.Hi ((out_Chills.getD (w64 (i3 - 1)).toNat dfltChill).Minutes.Hi))⟩⟩ : Chill))
 else
 chk (decide (0 ≤ i3) && decide (i3 < (out_Chills.length : Int))) <|
 chk (decide (i3.toNat < out_Chills.length)) <|
 kn_3 (w64 (i3 + 1)) r9.1.word out_Spots3 out_Water (out_Chills.set i3.toNat (⟨(out_Chills.getD i3.toNat dfltChill).Warm, r9.2⟩ : Chill))
 else
 some ((⟨s_word3⟩ : Seed), (⟨out_Spots3, out_Paths, out_Posts, out_Water, out_Chills⟩ : Rescue))
def InnerRescue_L7 (it : It (Seed × Rescue)) (r2 : Rescue) (out_Paths : List Path) (i2 : Int) (s_word2 : Int) (out_Spots2 : Int) (out_Posts : List Post) (kn_2 : Int → Int → Int → (List Post) → Option (Seed × Rescue)) : Option (Seed × Rescue) :=
 bif (decide (i2 < (out_Posts.length : Int))) then
 chk (decide (0 ≤ i2) && decide (i2 < (out_Posts.length : Int))) <|
 chk (decide (i2.toNat < out_Posts.length)) <|
 (Part (⟨s_word2⟩ : Seed) ((out_Posts.getD i2.toNat dfltPost).Ready)).bind fun r5 =>
 chk (decide (i2.toNat < out_Posts.length)) <|
 (decided r5.1 ((out_Posts.getD i2.toNat dfltPost).Flies)).bind fun r6 =>
 chk (decide (i2.toNat < out_Posts.length)) <|
 (Parts r6.1 ((out_Posts.getD i2.toNat dfltPost).Air)).bind fun r7 =>
 chk (decide (i2.toNat < out_Posts.length)) <|
 chk (decide (i2.toNat < (out_Posts.set i2.toNat (⟨(out_Posts.getD i2.toNat dfltPost).Spot, r5.2, (out_Posts.getD i2.toNat dfltPost).From, (out_Posts.getD i2.toNat dfltPost).To, (out_Posts.getD i2.toNat dfltPost).Flies, (out_Posts.getD i2.toNat dfltPost).Air⟩ : Post)).length)) <|
 chk (decide (i2.toNat < ((out_Posts.set i2.toNat (⟨(out_Posts.getD i2.toNat dfltPost).Spot, r5.2, (out_Posts.getD i2.toNat dfltPost).From, (out_Posts.getD i2.toNat dfltPost).To, (out_Posts.getD i2.toNat dfltPost).Flies, (out_Posts.getD i2.toNat dfltPost).Air⟩ : Post)).set i2.toNat (⟨((out_Posts.set i2.toNat (⟨(out_Posts.getD i2.toNat dfltPost).Spot, r5.2, (out_Posts.getD i2.toNat dfltPost).From, (out_Posts.getD i2.toNat dfltPost).To, (out_Posts.getD i2.toNat dfltPost).Flies, (out_Posts.getD i2.toNat dfltPost).Air⟩ : Post)).getD i2.toNat dfltPost).Spot, ((out_Posts.set i2.toNat (⟨(out_Posts.getD i2.toNat dfltPost).Spot, r5.2, (out_Posts.getD i2.toNat dfltPost).From, (out_Posts.getD i2.toNat dfltPost).To, (out_Posts.getD i2.toNat dfltPost).Flies, (out_Posts.getD i2.toNat dfltPost).Air⟩ : Post)).getD i2.toNat dfltPost).Ready, ((out_Posts.set i2.toNat (⟨(out_Posts.getD i2.toNat dfltPost).Spot, r5.2, (out_Posts.getD i2.toNat dfltPost).From, (out_Posts.getD i2.toNat dfltPost).To, (out_Posts.getD i2.toNat dfltPost).Flies, (out_Posts.getD i2.toNat dfltPost).Air⟩ : Post)).getD i2.toNat dfltPost).From, ((out_Posts.set i2.toNat (⟨(out_Posts.getD i2.toNat dfltPost).Spot, r5.2, (out_Posts.getD i2.toNat dfltPost).From, (out_Posts.getD i2.toNat dfltPost).To, (out_Posts.getD i2.toNat dfltPost).Flies, (out_Posts.getD i2.toNat dfltPost).Air⟩ : Post)).getD i2.toNat dfltPost).To, r6.2, ((out_Posts.set i2.toNat (⟨(out_Posts.getD i2.toNat dfltPost).Spot, r5.2, (out_Posts.getD i2.toNat dfltPost).From, (out_Posts.getD i2.toNat dfltPost).To, (out_Posts.getD i2.toNat dfltPost).Flies, (out_Posts.getD i2.toNat dfltPost).Air⟩ : Post)).getD i2.toNat dfltPost).Air⟩ : Post)).length)) <|
 kn_2 (w64 (i2 + 1)) r7.1.word out_Spots2 (((out_Posts.set i2.toNat (⟨(out_Posts.getD i2.toNat dfltPost).Spot, r5.2, (out_Posts.getD i2.toNat dfltPost).From, (out_Posts.getD i2.toNat dfltPost).To, (out_Posts.getD i2.toNat dfltPost).Flies, (out_Posts.getD i2.toNat dfltPost).Air⟩ : Post)).set i2.toNat (⟨((out_Posts.set i2.toNat (⟨(out_Posts.getD i2.toNat dfltPost).Spot, r5.2, (out_Posts.getD i2.toNat dfltPost).From, (out_Posts.getD i2.toNat dfltPost).To, (out_Posts.getD i2.toNat dfltPost).Flies, (out_Posts.getD i2.toNat dfltPost).Air⟩ : Post)).getD i2.toNat dfltPost).Spot, ((out_Posts.set i2.toNat (⟨(out_Posts.getD i2.toNat dfltPost).Spot, r5.2, (out_Posts.getD i2.toNat dfltPost).From, (out_Posts.getD i2.toNat dfltPost).To, (out_Posts.getD i2.toNat dfltPost).Flies, (out_Posts.getD i2.toNat dfltPost).Air⟩ : Post)).getD i2.toNat dfltPost).Ready, ((out_Posts.set i2.toNat (⟨(out_Posts.getD i2.toNat dfltPost).Spot, r5.2, (out_Posts.getD i2.toNat dfltPost).From, (out_Posts.getD i2.toNat dfltPost).To, (out_Posts.getD i2.toNat dfltPost).Flies, (out_Posts.getD i2.toNat dfltPost).Air⟩ : Post)).getD i2.toNat dfltPost).From, ((out_Posts.set i2.toNat (⟨(out_Posts.getD i2.toNat dfltPost).Spot, r5.2, (out_Posts.getD i2.toNat dfltPost).From, (out_Posts.getD i2.toNat dfltPost).To, (out_Posts.getD i2.toNat dfltPost).Flies, (out_Posts.getD i2.toNat dfltPost).Air⟩ : Post)).getD i2.toNat dfltPost).To, r6.2, ((out_Posts.set i2.toNat (⟨(out_Posts.getD i2.toNat dfltPost).Spot, r5.2, (out_Posts.getD i2.toNat dfltPost).From, (out_Posts.getD i2.toNat dfltPost).To, (out_Posts.getD i2.toNat dfltPost).Flies, (out_Posts.getD i2.toNat dfltPost).Air⟩ : Post)).getD i2.toNat dfltPost).Air⟩ : Post)).set i2.toNat (⟨(((out_Posts.set i2.toNat (⟨(out_Posts.getD i2.toNat dfltPost).Spot, r5.2, (out_Posts.getD i2.toNat dfltPost).From, (out_Posts.getD i2.toNat dfltPost).To, (out_Posts.getD i2.toNat dfltPost).Flies, (out_Posts.getD i2.toNat dfltPost).Air⟩ : Post)).set i2.toNat (⟨((out_Posts.set i2.toNat (⟨(out_Posts.getD i2.toNat dfltPost).Spot, r5.2, (out_Posts.getD i2.toNat dfltPost).From, (out_Posts.getD i2.toNat dfltPost).To, (out_Posts.getD i2.toNat dfltPost).Flies, (out_Posts.getD i2.toNat dfltPost).Air⟩ : Post)).getD i2.toNat dfltPost).Spot, ((out_Posts.set i2.toNat (⟨(out_Posts.getD i2.toNat dfltPost).Spot, r5.2, (out_Posts.getD i2.toNat dfltPost).From, (out_Posts.getD i2.toNat dfltPost).To, (out_Posts.getD i2.toNat dfltPost).Flies, (out_Posts.getD i2.toNat dfltPost).Air⟩ : Post)).getD i2.toNat dfltPost).Ready, ((out_Posts.set i2.toNat (⟨(out_Posts.getD i2.toNat dfltPost).Spot, r5.2, (out_Posts.getD i2.toNat dfltPost).From, (out_Posts.getD i2.toNat dfltPost).To, (out_Posts.getD i2.toNat dfltPost).Flies, (out_Posts.getD i2.toNat dfltPost).Air⟩ : Post)).getD i2.toNat dfltPost).From, ((out_Posts.set i2.toNat (⟨(out_Posts.getD i2.toNat dfltPost).Spot, r5.2, (out_Posts.getD i2.toNat dfltPost).From, (out_Posts.getD i2.toNat dfltPost).To, (out_Posts.getD i2.toNat dfltPost).Flies, (out_Posts.getD i2.toNat dfltPost).Air⟩ : Post)).getD i2.toNat dfltPost).To, r6.2, ((out_Posts.set i2.toNat (⟨(out_Posts.getD i2.toNat dfltPost).Spot, r5.2, (out_Posts.getD i2.toNat dfltPost).From, (out_Posts.getD i2.toNat dfltPost).To, (out_Posts.getD i2.toNat dfltPost).Flies, (out_Posts.getD i2.toNat dfltPost).Air⟩ : Post)).getD i2.toNat dfltPost).Air⟩ : Post)).getD i2.toNat dfltPost).Spot, (((out_Posts.set i2.toNat (⟨(out_Posts.getD i2.toNat dfltPost).Spot, r5.2, (out_Posts.getD i2.toNat dfltPost).From, (out_Posts.getD i2.toNat dfltPost).To, (out_Posts.getD i2.toNat dfltPost).Flies, (out_Posts.getD i2.toNat dfltPost).Air⟩ : Post)).set i2.toNat (⟨((out_Posts.set i2.toNat (⟨(out_Posts.getD i2.toNat dfltPost).Spot, r5.2, (out_Posts.getD i2.toNat dfltPost).From, (out_Posts.getD i2.toNat dfltPost).To, (out_Posts.getD i2.toNat dfltPost).Flies, (out_Posts.getD i2.toNat dfltPost).Air⟩ : Post)).getD i2.toNat dfltPost).Spot, ((out_Posts.set i2.toNat (⟨(out_Posts.getD i2.toNat dfltPost).Spot, r5.2, (out_Posts.getD i2.toNat dfltPost).From, (out_Posts.getD i2.toNat dfltPost).To, (out_Posts.getD i2.toNat dfltPost).Flies, (out_Posts.getD i2.toNat dfltPost).Air⟩ : Post)).getD i2.toNat dfltPost).Ready, ((out_Posts.set i2.toNat (⟨(out_Posts.getD i2.toNat dfltPost).Spot, r5.2, (out_Posts.getD i2.toNat dfltPost).From, (out_Posts.getD i2.toNat dfltPost).To, (out_Posts.getD i2.toNat dfltPost).Flies, (out_Posts.getD i2.toNat dfltPost).Air⟩ : Post)).getD i2.toNat dfltPost).From, ((out_Posts.set i2.toNat (⟨(out_Posts.getD i2.toNat dfltPost).Spot, r5.2, (out_Posts.getD i2.toNat dfltPost).From, (out_Posts.getD i2.toNat dfltPost).To, (out_Posts.getD i2.toNat dfltPost).Flies, (out_Posts.getD i2.toNat dfltPost).Air⟩ : Post)).getD i2.toNat dfltPost).To, r6.2, ((out_Posts.set i2.toNat (⟨(out_Posts.getD i2.toNat dfltPost).Spot, r5.2, (out_Posts.getD i2.toNat dfltPost).From, (out_Posts.getD i2.toNat dfltPost).To, (out_Posts.getD i2.toNat dfltPost).Flies, (out_Posts.getD i2.toNat dfltPost).Air⟩ : Post)).getD i2.toNat dfltPost).Air⟩ : Post)).getD i2.toNat dfltPost).Ready, (((out_Posts.set i2.toNat (⟨(out_Posts.getD i2.toNat dfltPost).Spot, r5.2, (out_Posts.getD i2.toNat dfltPost).From, (out_Posts.getD i2.toNat dfltPost).To, (out_Posts.getD i2.toNat dfltPost).Flies, (out_Posts.getD i2.toNat dfltPost).Air⟩ : Post)).set i2.toNat (⟨((out_Posts.set i2.toNat (⟨(out_Posts.getD i2.toNat dfltPost).Spot, r5.2, (out_Posts.getD i2.toNat dfltPost).From, (out_Posts.getD i2.toNat dfltPost).To, (out_Posts.getD i2.toNat dfltPost).Flies, (out_Posts.getD i2.toNat dfltPost).Air⟩ : Post)).getD i2.toNat dfltPost).Spot, ((out_Posts.set i2.toNat (⟨(out_Posts.getD i2.toNat dfltPost).Spot, r5.2, (out_Posts.getD i2.toNat dfltPost).From, (out_Posts.getD i2.toNat dfltPost).To, (out_Posts.getD i2.toNat dfltPost).Flies, (out_Posts.getD i2.toNat dfltPost).Air⟩ : Post)).getD i2.toNat dfltPost).Ready, ((out_Posts.set i2.toNat (⟨(out_Posts.getD i2.toNat dfltPost).Spot, r5.2, (out_Posts.getD i2.toNat dfltPost).From, (out_Posts.getD i2.toNat dfltPost).To, (out_Posts.getD i2.toNat dfltPost).Flies, (out_Posts.getD i2.toNat dfltPost).Air⟩ : Post)).getD i2.toNat dfltPost).From, ((out_Posts.set i2.toNat (⟨(out_Posts.getD i2.toNat dfltPost).Spot, r5.2, (out_Posts.getD i2.toNat dfltPost).From, (out_Posts.getD i2.toNat dfltPost).To, (out_Posts.getD i2.toNat dfltPost).Flies, (out_Posts.getD i2.toNat dfltPost).Air⟩ : Post)).getD i2.toNat dfltPost).To, r6.2, ((out_Posts.set i2.toNat (⟨(out_Posts.getD i2.toNat dfltPost).Spot, r5.2, (out_Posts.getD i2.toNat dfltPost).From, (out_Posts.getD i2.toNat dfltPost).To, (out_Posts.getD i2.toNat dfltPost).Flies, (out_Posts.getD i2.toNat dfltPost).Air⟩ : Post)).getD i2.toNat dfltPost).Air⟩ : Post)).getD i2.toNat dfltPost).From, (((out_Posts.set i2.toNat (⟨(out_Posts.getD i2.toNat dfltPost).Spot, r5.2, (out_Posts.getD i2.toNat dfltPost).From, (out_Posts.getD i2.toNat dfltPost).To, (out_Posts.getD i2.toNat dfltPost).Flies, (out_Posts.getD i2.toNat dfltPost).Air⟩ : Post)).set i2.toNat (⟨((out_Posts.set i2.toNat (⟨(out_Posts.getD i2.toNat dfltPost).Spot, r5.2, (out_Posts.getD i2.toNat dfltPost).From, (out_Posts.getD i2.toNat dfltPost).To, (out_Posts.getD i2.toNat dfltPost).Flies, (out_Posts.getD i2.toNat dfltPost).Air⟩ : Post)).getD i2.toNat dfltPost).Spot, ((out_Posts.set i2.toNat (⟨(out_Posts.getD i2.toNat dfltPost).Spot, r5.2, (out_Posts.getD i2.toNat dfltPost).From, (out_Posts.getD i2.toNat dfltPost).To, (out_Posts.getD i2.toNat dfltPost).Flies, (out_Posts.getD i2.toNat dfltPost).Air⟩ : Post)).getD i2.toNat dfltPost).Ready, ((out_Posts.set i2.toNat (⟨(out_Posts.getD i2.toNat dfltPost).Spot, r5.2, (out_Posts.getD i2.toNat dfltPost).From, (out_Posts.getD i2.toNat dfltPost).To, (out_Posts.getD i2.toNat dfltPost).Flies, (out_Posts.getD i2.toNat dfltPost).Air⟩ : Post)).getD i2.toNat dfltPost).From, ((out_Posts.set i2.toNat (⟨(out_Posts.getD i2.toNat dfltPost).Spot, r5.2, (out_Posts.getD i2.toNat dfltPost).From, (out_Posts.getD i2.toNat dfltPost).To, (out_Posts.getD i2.toNat dfltPost).Flies, (out_Posts.getD i2.toNat dfltPost).Air⟩ : Post)).getD i2.toNat dfltPost).To, r6.2, ((out_Posts.set i2.toNat (⟨(out_Posts.getD i2.toNat dfltPost).Spot, r5.2, (out_Posts.getD i2.toNat dfltPost).From, (out_Posts.getD i2.toNat dfltPost).To, (out_Posts.getD i2.toNat dfltPost).Flies, (out_Posts.getD i2.toNat dfltPost).Air⟩ : Post)).getD i2.toNat dfltPost).Air⟩ : Post)).getD i2.toNat dfltPost).To, (((out_Posts.set i2.toNat (⟨(out_Posts.getD i2.toNat dfltPost).Spot, r5.2, (out_Posts.getD i2.toNat dfltPost).From, (out_Posts.getD i2.toNat dfltPost).To, (out_Posts.getD i2.toNat dfltPost).Flies, (out_Posts.getD i2.toNat dfltPost).Air⟩ : Post)).set i2.toNat (⟨((out_Posts.set i2.toNat (⟨(out_Posts.getD i2.toNat dfltPost).Spot, r5.2, (out_Posts.getD i2.toNat dfltPost).From, (out_Posts.getD i2.toNat dfltPost).To, (out_Posts.getD i2.toNat dfltPost).Flies, (out_Posts.getD i2.toNat dfltPost).Air⟩ : Post)).getD i2.toNat dfltPost).Spot, ((out_Posts.set i2.toNat (⟨(out_Posts.getD i2.toNat dfltPost).Spot, r5.2, (out_Posts.getD i2.toNat dfltPost).From, (out_Posts.getD i2.toNat dfltPost).To, (out_Posts.getD i2.toNat dfltPost).Flies, (out_Posts.getD i2.toNat dfltPost).Air⟩ : Post)).getD i2.toNat dfltPost).Ready, ((out_Posts.set i2.toNat (⟨(out_Posts.getD i2.toNat dfltPost).Spot, r5.2, (out_Posts.getD i2.toNat dfltPost).From, (out_Posts.getD i2.toNat dfltPost).To, (out_Posts.getD i2.toNat dfltPost).Flies, (out_Posts.getD i2.toNat dfltPost).Air⟩ : Post)).getD i2.toNat dfltPost).From, ((out_Posts.set i2.toNat (⟨(out_Posts.getD i2.toNat dfltPost).Spot, r5.2, (out_Posts.getD i2.toNat dfltPost).From, (out_Posts.getD i2.toNat dfltPost).To, (out_Posts.getD i2.toNat dfltPost).Flies, (out_Posts.getD i2.toNat dfltPost).Air⟩ : Post)).getD i2.toNat dfltPost).To, r6.2, ((out_Posts.set i2.toNat (⟨(out_Posts.getD i2.toNat dfltPost).Spot, r5.2, (out_Posts.getD i2.toNat dfltPost).From, (out_Posts.getD i2.toNat dfltPost).To, (out_Posts.getD i2.toNat dfltPost).Flies, (out_Posts.getD i2.toNat dfltPost).Air⟩ : Post)).getD i2.toNat dfltPost).Air⟩ : Post)).getD i2.toNat dfltPost).Flies, r7.2⟩ : Post))
 else
 (Parts (⟨s_word2⟩ : Seed) r2.Water).bind fun r8 =>
 it _ (fun (v_0 : (Unit × Unit × Unit × Int × Unit) × ((Int × Unit) × (Int × Unit × Unit × (List Span) × (List Chill) × Unit) × Unit)) kn => InnerRescue_L13 out_Paths out_Posts v_0.1.2.2.2.1 v_0.2.1.1 v_0.2.2.1.1 v_0.2.2.1.2.2.2.1 v_0.2.2.1.2.2.2.2.1 (fun y0 y1 y2 y3 y4 => kn (((), (), (), y0, ()), ((y1, ()), (y2, (), (), y3, y4, ()), ())))) (((), (), (), 0, ()), ((r8.1.word, ()), (out_Spots2, (), (), r8.2, r2.Chills, ()), ()))
def InnerRescue_L3 (it : It (Seed × Rescue)) (r2 : Rescue) (i : Int) (s_word : Int) (out_Spots : Int) (out_Paths : List Path) (kn_ : Int → Int → Int → (List Path) → Option (Seed × Rescue)) : Option (Seed × Rescue) :=
 bif (decide (i < (out_Paths.length : Int))) then
 chk (decide (0 ≤ i) && decide (i < (out_Paths.length : Int))) <|
 chk (decide (i.toNat < out_Paths.length)) <|
 (Part (⟨s_word⟩ : Seed) ((out_Paths.getD i.toNat dfltPath).Time)).bind fun r3 =>
 chk (decide (0 ≤ i) && decide (i < (out_Paths.length : Int))) <|
 chk (decide (i.toNat < out_Paths.length)) <|
 (decided r3.1 ((out_Paths.getD i.toNat dfltPath).Open)).bind fun r4 =>
 chk (decide (0 ≤ i) && decide (i < (out_Paths.length : Int))) <|
 chk (decide (i.toNat < out_Paths.length)) <|
 chk (decide (0 ≤ i) && decide (i < ((out_Paths.set i.toNat (⟨(out_Paths.getD i.toNat dfltPath).A, (out_Paths.getD i.toNat dfltPath).B, r3.2, (out_Paths.getD i.toNat dfltPath).Open⟩ : Path)).length : Int))) <|
 chk (decide (i.toNat < (out_Paths.set i.toNat (⟨(out_Paths.getD i.toNat dfltPath).A, (out_Paths.getD i.toNat dfltPath).B, r3.2, (out_Paths.getD i.toNat dfltPath).Open⟩ : Path)).length)) <|
 kn_ (w64 (i + 1)) r4.1.word out_Spots ((out_Paths.set i.toNat (⟨(out_Paths.getD i.toNat dfltPath).A, (out_Paths.getD i.toNat dfltPath).B, r3.2, (out_Paths.getD i.toNat dfltPath).Open⟩ : Path)).set i.toNat (⟨((out_Paths.set i.toNat (⟨(out_Paths.getD i.toNat dfltPath).A, (out_Paths.getD i.toNat dfltPath).B, r3.2, (out_Paths.getD i.toNat dfltPath).Open⟩ : Path)).getD i.toNat dfltPath).A, ((out_Paths.set i.toNat (⟨(out_Paths.getD i.toNat dfltPath).A, (out_Paths.getD i.toNat dfltPath).B, r3.2, (out_Paths.getD i.toNat dfltPath).Open⟩ : Path)).getD i.toNat dfltPath).B, ((out_Paths.set i.toNat (⟨(out_Paths.getD i.toNat dfltPath).A, (out_Paths.getD i.toNat dfltPath).B, r3.2, (out_Paths.getD i.toNat dfltPath).Open⟩ : Path)).getD i.toNat dfltPath).Time, r4.2⟩ : Path))
 else
 it _ (fun (v_0 : (Unit × Unit × Unit × Int × Unit) × ((Int × Unit) × (Int × Unit × (List Post) × Unit × Unit × Unit) × Unit)) kn => InnerRescue_L7 it r2 out_Paths v_0.1.2.2.2.1 v_0.2.1.1 v_0.2.2.1.1 v_0.2.2.1.2.2.1 (fun y0 y1 y2 y3 => kn (((), (), (), y0, ()), ((y1, ()), (y2, (), y3, (), (), ()), ())))) (((), (), (), 0, ()), ((s_word, ()), (out_Spots, (), r2.Posts, (), (), ()), ()))
def InnerRescue' (it : It (Seed × Rescue)) (s : Seed) (r : Rescue) : Option (Seed × Rescue) :=
 (OwnRescue r).bind fun r2 =>
 it _ (fun (v_0 : (Unit × Unit × Unit × Int × Unit) × ((Int × Unit) × (Int × (List Path) × Unit × Unit × Unit × Unit) × Unit)) kn => InnerRescue_L3 it r2 v_0.1.2.2.2.1 v_0.2.1.1 v_0.2.2.1.1 v_0.2.2.1.2.1 (fun y0 y1 y2 y3 => kn (((), (), (), y0, ()), ((y1, ()), (y2, y3, (), (), (), ()), ())))) (((), (), (), 0, ()), ((s.word, ()), (r2.Spots, r2.Paths, (), (), (), ()), ()))
def InnerRescue : Seed → Rescue → Option (Seed × Rescue) := opq (fun s r => InnerRescue' itN s r)
theorem InnerRescue_eq (s : Seed) (r : Rescue) : InnerRescue s r = InnerRescue' itN s r := by unfold InnerRescue; rw [opq_eq]
def E49 : FEnv iseat := ⟨⟨136, [], [sp98, sp99, sp100], [], [], [], [], [], [], [sp51], [], [], [0], true⟩, [(3, ⟨⟨[(0, .bx 0 0), (4, .bx 4 0), (5, .bx 5 0), (6, .v (.int .i64))], [(0, [.v (.int .u64)]), (5, [.v (.int .i64), .os 12 55 .Path, .osr 10012, .osr 20012, .osr 30012])]⟩, [], [4, 10012, 20012, 30012], []⟩), (7, ⟨⟨[(0, .bx 0 0), (4, .bx 4 0), (5, .bx 5 0), (7, .v (.int .i64))], [(0, [.v (.int .u64)]), (5, [.v (.int .i64), .osr 12, .os 10012 57 .Post, .osr 20012, .osr 30012])]⟩, [], [4, 12, 20012, 30012], []⟩), (13, ⟨⟨[(0, .bx 0 0), (4, .bx 4 0), (5, .bx 5 0), (9, .v (.int .i64))], [(0, [.v (.int .u64)]), (5, [.v (.int .i64), .osr 12, .osr 10012, .v (.sl .Span), .os 30012 94 .Chill])]⟩, [], [4, 12, 10012], []⟩)]⟩
theorem e49 (it : It (Seed × Rescue)) (s : Seed) (r : Rescue) : fnRunR (bt := .Seed) (ts := [.Rescue]) it E49 (bodyOf Try.f49) Try.f49.results.toList (encC .Seed s) (encA [.Rescue] (r, ())) = InnerRescue' it s r := by kernel_rfl
def sp49 : FnSpecR iseat.toSeat := mkSpecR iseat.toSeat 49 .Seed [.Rescue] [.Rescue] (fun b a => InnerRescue b a.1) (fun b a y x hx h => fn_contractR (Z := iseat) (bt := .Seed) (ats := [.Rescue]) (ts := [.Rescue]) (E := E49) (fn := Try.f49) (c := bodyOf Try.f49) Try.func49 (by kernel_rfl) (by kernel_rfl) (by kernel_rfl) (by kernel_rfl) rfl ((e49 itN b a.1).trans ((InnerRescue_eq b a.1).symm.trans hx)) h)
def Clip' (it : It (List Span)) (s : List Span) : Option (List Span) :=
 chk (decide (0 ≤ 0) && decide (0 ≤ (s.length : Int)) && decide ((s.length : Int) ≤ (s.length : Int)) && decide ((s.length : Int) ≤ (s.length : Int))) <|
 some (subL s 0 (s.length : Int))
def Clip : (List Span) → Option (List Span) := opq (fun s => Clip' itN s)
theorem Clip_eq (s : List Span) : Clip s = Clip' itN s := by unfold Clip; rw [opq_eq]
def E102 : FEnv iseat := ⟨⟨9, [], [], [], [], [], [], [], [], [], [], [], [], true⟩, []⟩
theorem e102 (it : It (List Span)) (s : List Span) : fnRun (ts := [.sl .Span]) it E102 (bodyOf Try.f102) Try.f102.results.toList (encA [.sl .Span] (s, ())) = Clip' it s := by kernel_rfl
def sp102 : FnSpec iseat.toSeat := mkSpec iseat.toSeat 102 [.sl .Span] [.sl .Span] false (fun a => Clip a.1) (fun a x hx h h' => fn_contract (Z := iseat) (ats := [.sl .Span]) (ts := [.sl .Span]) (E := E102) (fn := Try.f102) (c := bodyOf Try.f102) Try.func102 (by kernel_rfl) (by kernel_rfl) (by kernel_rfl) (by kernel_rfl) rfl ((e102 itN a.1).trans ((Clip_eq a.1).symm.trans hx)) h h') (fun h => nomatch h)
def pGaps_L8 (r2 : (Watch × Int)) (spot : Int) (out : List Span) (x25 : Int) (kn_ : (List Span) → Int → Option ((List Span) × Int)) : Option ((List Span) × Int) :=
 bif (decide (x25 < 1440)) then
 (coverW r2.1 x25 spot).bind fun r4 =>
 bif (r4 == 1) then
 kn_ out (w64 (x25 + 1))
 else
 bif (decide ((w64 ((out.length : Int) - 1)) ≥ 0)) then
 chk (decide (0 ≤ (w64 ((out.length : Int) - 1))) && decide ((w64 ((out.length : Int) - 1)) < (out.length : Int))) <|
 chk (decide ((w64 ((out.length : Int) - 1)).toNat < out.length)) <|
 bif ((out.getD (w64 ((out.length : Int) - 1)).toNat dfltSpan).Hi == (w64 (x25 - 1))) then
 chk (decide (0 ≤ (w64 ((out.length : Int) - 1))) && decide ((w64 ((out.length : Int) - 1)) < (out.length : Int))) <|
 chk (decide ((w64 ((out.length : Int) - 1)).toNat < out.length)) <|
 kn_ (out.set (w64 ((out.length : Int) - 1)).toNat (⟨(out.getD (w64 ((out.length : Int) - 1)).toNat dfltSpan).Lo, x25⟩ : Span)) (w64 (x25 + 1))
 else
 chk (fitA (out.length + ([(⟨x25, x25⟩ : Span)] : List Span).length) 16) <|
 kn_ (out ++ ([(⟨x25, x25⟩ : Span)] : List Span)) (w64 (x25 + 1))
 else
 chk (fitA (out.length + ([(⟨x25, x25⟩ : Span)] : List Span).length) 16) <|
 kn_ (out ++ ([(⟨x25, x25⟩ : Span)] : List Span)) (w64 (x25 + 1))
 else
 (Clip out).bind fun r5 =>
 some (r5, 0)
def pGaps' (it : It ((List Span) × Int)) (r : Rescue) (spot : Int) : Option ((List Span) × Int) :=
 (asked r 0).bind fun r2 =>
 bif (r2.2 != 0) then
 some (([] : List Span), r2.2)
 else
 (within spot 0 (w64 (r.Spots - 1))).bind fun r3 =>
 bif (!r3) then
 some (([] : List Span), 7)
 else
 it _ (fun (v_0 : (Unit × (List Span) × Int × Unit) × (Unit)) kn => pGaps_L8 r2 spot v_0.1.2.1 v_0.1.2.2.1 (fun y0 y1 => kn (((), y0, y1, ()), (())))) (((), ([] : List Span), 0, ()), (()))
def pGaps : Rescue → Int → Option ((List Span) × Int) := opq (fun r spot => pGaps' itN r spot)
theorem pGaps_eq (r : Rescue) (spot : Int) : pGaps r spot = pGaps' itN r spot := by unfold pGaps; rw [opq_eq]
def E54 : FEnv iseat := ⟨⟨62, [sp68, sp69, sp94, sp102], [], [], [], [], [], [], [], [], [], [57], [], true⟩, [(8, ⟨⟨[(6, .bx 6 0), (8, .os 8 51 .Span), (25, .v (.int .i64))], []⟩, [1], [6], []⟩)]⟩
theorem e54 (it : It ((List Span) × Int)) (r : Rescue) (spot : Int) : fnRun (ts := [.sl .Span, .int .i64]) it E54 (bodyOf Try.f54) Try.f54.results.toList (encA [.Rescue, .int .i64] (r, spot, ())) = pGaps' it r spot := by kernel_rfl
def sp54 : FnSpec iseat.toSeat := mkSpec iseat.toSeat 54 [.Rescue, .int .i64] [.sl .Span, .int .i64] false (fun a => pGaps a.1 a.2.1) (fun a x hx h h' => fn_contract (Z := iseat) (ats := [.Rescue, .int .i64]) (ts := [.sl .Span, .int .i64]) (E := E54) (fn := Try.f54) (c := bodyOf Try.f54) Try.func54 (by kernel_rfl) (by kernel_rfl) (by kernel_rfl) (by kernel_rfl) rfl ((e54 itN a.1 a.2.1).trans ((pGaps_eq a.1 a.2.1).symm.trans hx)) h h') (fun h => nomatch h)
def rGaps_L13 (r : Rescue) (m : Int) (r4 : List (List Span)) (spot : Int) (r5 : List Span) (kn_ : (List Span) → Int → Option ((List Span) × Int)) (out : List Span) (sure : Bool) (i : Int) (kn_2 : Bool → Int → Option ((List Span) × Int)) : Option ((List Span) × Int) :=
 bif (decide (i < (r.Posts.length : Int))) then
 bif sure then
 kn_2 true (w64 (i + 1))
 else
 chk (decide (0 ≤ i) && decide (i < (r.Posts.length : Int))) <|
 (Manned (r.Posts.getD i.toNat dfltPost) m).bind fun r6 =>
 bif r6 then
 chk (decide (0 ≤ i) && decide (i < (r4.length : Int))) <|
 chk (decide (0 ≤ spot) && decide (spot < ((r4.getD i.toNat []).length : Int))) <|
 kn_2 (decide (((r4.getD i.toNat []).getD spot.toNat dfltSpan).Hi ≤ (r5.getD spot.toNat dfltSpan).Lo)) (w64 (i + 1))
 else
 kn_2 false (w64 (i + 1))
 else
 bif sure then
 kn_ out (w64 (m + 1))
 else
 bif (decide ((out.length : Int) > 0)) then
 chk (decide (0 ≤ (w64 ((out.length : Int) - 1))) && decide ((w64 ((out.length : Int) - 1)) < (out.length : Int))) <|
 chk (decide ((w64 ((out.length : Int) - 1)).toNat < out.length)) <|
 bif ((out.getD (w64 ((out.length : Int) - 1)).toNat dfltSpan).Hi == (w64 (m - 1))) then
 chk (decide (0 ≤ (w64 ((out.length : Int) - 1))) && decide ((w64 ((out.length : Int) - 1)) < (out.length : Int))) <|
 chk (decide ((w64 ((out.length : Int) - 1)).toNat < out.length)) <|
 kn_ (out.set (w64 ((out.length : Int) - 1)).toNat (⟨(out.getD (w64 ((out.length : Int) - 1)).toNat dfltSpan).Lo, m⟩ : Span)) (w64 (m + 1))
 else
 chk (fitA (out.length + ([(⟨m, m⟩ : Span)] : List Span).length) 16) <|
 kn_ (out ++ ([(⟨m, m⟩ : Span)] : List Span)) (w64 (m + 1))
 else
 chk (fitA (out.length + ([(⟨m, m⟩ : Span)] : List Span).length) 16) <|
 kn_ (out ++ ([(⟨m, m⟩ : Span)] : List Span)) (w64 (m + 1))
def rGaps_L9 (it : It ((List Span) × Int)) (r : Rescue) (r4 : List (List Span)) (spot : Int) (r5 : List Span) (out : List Span) (m : Int) (kn_ : (List Span) → Int → Option ((List Span) × Int)) : Option ((List Span) × Int) :=
 bif (decide (m < 1440)) then
 it _ (fun (v_0 : (Unit × Unit × Unit × Bool × Int × Unit) × (Unit)) kn => rGaps_L13 r m r4 spot r5 kn_ out v_0.1.2.2.2.1 v_0.1.2.2.2.2.1 (fun y0 y1 => kn (((), (), (), y0, y1, ()), (())))) (((), (), (), false, 0, ()), (()))
 else
 some (out, 0)
def rGaps' (it : It ((List Span) × Int)) (r : Rescue) (spot : Int) : Option ((List Span) × Int) :=
 (rCheck r).bind fun r2 =>
 bif (r2 != 0) then
 some (([] : List Span), r2)
 else
 (outside spot 0 (w64 (r.Spots - 1))).bind fun r3 =>
 bif r3 then
 some (([] : List Span), 7)
 else
 (timesR r).bind fun r4 =>
 (rLives0 r).bind fun r5 =>
 chk (decide (0 ≤ spot) && decide (spot < (r5.length : Int))) <|
 it _ (fun (v_0 : (Unit × Unit × (List Span) × Int × Unit) × (Unit)) kn => rGaps_L9 it r r4 spot r5 v_0.1.2.2.1 v_0.1.2.2.2.1 (fun y0 y1 => kn (((), (), y0, y1, ()), (())))) (((), (), ([] : List Span), 0, ()), (()))
def rGaps : Rescue → Int → Option ((List Span) × Int) := opq (fun r spot => rGaps' itN r spot)
theorem rGaps_eq (r : Rescue) (spot : Int) : rGaps r spot = rGaps' itN r spot := by unfold rGaps; rw [opq_eq]
def E55 : FEnv iseat := ⟨⟨94, [sp34, sp75, sp76, sp77, sp47], [], [], [], [], [], [], [], [], [], [91], [], true⟩, [(9, ⟨⟨[(2, .bx 2 0), (8, .bx 8 0), (9, .os 9 51 .Span), (10, .v (.int .i64))], []⟩, [1, 7], [2, 8], []⟩), (13, ⟨⟨[(2, .bx 2 0), (8, .bx 8 0), (9, .osr 9), (11, .v .bool), (12, .v (.int .i64))], []⟩, [10], [9], []⟩)]⟩
theorem e55 (it : It ((List Span) × Int)) (r : Rescue) (spot : Int) : fnRun (ts := [.sl .Span, .int .i64]) it E55 (bodyOf Try.f55) Try.f55.results.toList (encA [.Rescue, .int .i64] (r, spot, ())) = rGaps' it r spot := by kernel_rfl
def sp55 : FnSpec iseat.toSeat := mkSpec iseat.toSeat 55 [.Rescue, .int .i64] [.sl .Span, .int .i64] false (fun a => rGaps a.1 a.2.1) (fun a x hx h h' => fn_contract (Z := iseat) (ats := [.Rescue, .int .i64]) (ts := [.sl .Span, .int .i64]) (E := E55) (fn := Try.f55) (c := bodyOf Try.f55) Try.func55 (by kernel_rfl) (by kernel_rfl) (by kernel_rfl) (by kernel_rfl) rfl ((e55 itN a.1 a.2.1).trans ((rGaps_eq a.1 a.2.1).symm.trans hx)) h h') (fun h => nomatch h)
def RescueSends_L12 (r : Rescue) (r6 : (Seed × Rescue)) (calls : List Int) (some_ : List Int) (minute : Int) (r9 : (Seed × Int)) (i2 : Int) (kn_2 : Int → Option Bool) : Option Bool :=
 bif (decide (i2 < (([r, r6.2, r6.2] : List Rescue).length : Int))) then
 chk (decide (0 ≤ i2) && decide (i2 < ([calls, some_, calls].length : Int))) <|
 chk (decide (i2.toNat < [calls, some_, calls].length)) <|
 (Own ([calls, some_, calls].getD i2.toNat [])).bind fun r10 =>
 chk (decide (0 ≤ i2) && decide (i2 < (([r, r6.2, r6.2] : List Rescue).length : Int))) <|
 chk (decide (i2.toNat < ([r, r6.2, r6.2] : List Rescue).length)) <|
 chk (decide (0 ≤ i2) && decide (i2 < ([minute, r9.2, minute].length : Int))) <|
 chk (decide (i2.toNat < [minute, r9.2, minute].length)) <|
 (pSend (([r, r6.2, r6.2] : List Rescue).getD i2.toNat dfltRescue) ([minute, r9.2, minute].getD i2.toNat 0) r10).bind fun r11 =>
 chk (decide (0 ≤ i2) && decide (i2 < (([r, r6.2, r6.2] : List Rescue).length : Int))) <|
 chk (decide (i2.toNat < ([r, r6.2, r6.2] : List Rescue).length)) <|
 chk (decide (0 ≤ i2) && decide (i2 < ([minute, r9.2, minute].length : Int))) <|
 chk (decide (i2.toNat < [minute, r9.2, minute].length)) <|
 chk (decide (0 ≤ i2) && decide (i2 < ([calls, some_, calls].length : Int))) <|
 chk (decide (i2.toNat < [calls, some_, calls].length)) <|
 (rSend (([r, r6.2, r6.2] : List Rescue).getD i2.toNat dfltRescue) ([minute, r9.2, minute].getD i2.toNat 0) ([calls, some_, calls].getD i2.toNat [])).bind fun r12 =>
 bif (r11.2.1 != r12.2.1) then
 some false
 else
 bif (r11.2.2 != r12.2.2) then
 some false
 else
 (Same r11.1 r12.1).bind fun r13 =>
 bif (!r13) then
 some false
 else
 chk (decide (0 ≤ i2) && decide (i2 < ([calls, some_, calls].length : Int))) <|
 chk (decide (i2.toNat < [calls, some_, calls].length)) <|
 (Same r10 ([calls, some_, calls].getD i2.toNat [])).bind fun r14 =>
 bif (!r14) then
 some false
 else
 kn_2 (w64 (i2 + 1))
 else
 (awake).bind fun r15 =>
 some r15
def RescueSends_L7 (it : It Bool) (r6 : (Seed × Rescue)) (r : Rescue) (calls : List Int) (minute : Int) (some_ : List Int) (i : Int) (x33_word : Int) (kn_ : (List Int) → Int → Int → Option Bool) : Option Bool :=
 bif (decide (i > 0)) then
 (Below (⟨x33_word⟩ : Seed) r6.2.Spots).bind fun r8 =>
 chk (fitA (some_.length + [r8.2].length) 8) <|
 kn_ (some_ ++ [r8.2]) (w64 (i - 1)) r8.1.word
 else
 (Below (⟨x33_word⟩ : Seed) 1440).bind fun r9 =>
 it _ (fun (v_0 : (Unit × Unit × Unit × Int × Unit) × (Unit)) kn => RescueSends_L12 r r6 calls some_ minute r9 v_0.1.2.2.2.1 (fun y0 => kn (((), (), (), y0, ()), (())))) (((), (), (), 0, ()), (()))
def RescueSends' (it : It Bool) (r : Rescue) (minute : Int) (calls : List Int) (nums : List Int) : Option Bool :=
 (big r).bind fun r2 =>
 bif r2 then
 (awake).bind fun r3 =>
 some r3
 else
 bif (decide ((calls.length : Int) > 10)) then
 (awake).bind fun r4 =>
 some r4
 else
 (NewSeed nums).bind fun r5 =>
 (RescueOf r5 5 5).bind fun r6 =>
 (Below r6.1 5).bind fun r7 =>
 it _ (fun (v_0 : (Unit × Unit × Unit × (List Int) × Int × Unit) × ((Int × Unit) × Unit)) kn => RescueSends_L7 it r6 r calls minute v_0.1.2.2.2.1 v_0.1.2.2.2.2.1 v_0.2.1.1 (fun y0 y1 y2 => kn (((), (), (), y0, y1, ()), ((y2, ()), ())))) (((), (), (), ([] : List Int), r7.2, ()), ((r7.1.word, ()), ()))
def E3 : FEnv iseat := ⟨⟨128, [sp16, sp17, sp22, sp23, sp24], [sp19, sp20], [sp18], [sp21], [], [], [], [], [], [], [47], [], true⟩, [(7, ⟨⟨[(4, .bx 4 0), (9, .bx 33 0), (10, .bx 10 0), (11, .os 11 3 (.int .i64)), (12, .v (.int .i64))], [(33, [.v (.int .u64)])]⟩, [1, 2], [4, 10], []⟩), (12, ⟨⟨[(13, .osr 52), (14, .osr 57), (15, .osr 61), (16, .v (.int .i64))], []⟩, [], [52, 57, 61], []⟩), (1000010, ⟨⟨[], []⟩, [], [11], []⟩), (1000015, ⟨⟨[], []⟩, [], [72], []⟩)]⟩
theorem e3 (it : It Bool) (r : Rescue) (minute : Int) (calls : List Int) (nums : List Int) : fnRun (ts := [.bool]) it E3 (bodyOf Try.f3) Try.f3.results.toList (encA [.Rescue, .int .i64, .sl (.int .i64), .sl (.int .i64)] (r, minute, calls, nums, ())) = RescueSends' it r minute calls nums := by kernel_rfl
def RescueEnds_L12 (r5 : ((List Span) × Int)) (r6 : List Int) (r7 : List Int) (kn_ : Int → Option Bool) (p : Int) (k : Int) (kn_2 : Int → Option Bool) : Option Bool :=
 bif (decide (k < (r5.1.length : Int))) then
 chk (decide (0 ≤ k) && decide (k < (r5.1.length : Int))) <|
 chk (decide (0 ≤ k) && decide (k < (r6.length : Int))) <|
 chk (decide (0 ≤ k) && decide (k < (r7.length : Int))) <|
 (span (r6.getD k.toNat 0) (r7.getD k.toNat 0)).bind fun r8 =>
 bif (!(decide ((r5.1.getD k.toNat dfltSpan).Lo = r8.Lo) && (decide ((r5.1.getD k.toNat dfltSpan).Hi = r8.Hi) && true))) then
 some false
 else
 kn_2 (w64 (k + 1))
 else
 kn_ (w64 (p + 1))
def RescueEnds_L5 (it : It Bool) (r2 : (Seed × Rescue)) (r3 : Facts) (r4 : Facts) (p : Int) (kn_ : Int → Option Bool) : Option Bool :=
 bif (decide (p < (r2.2.Posts.length : Int))) then
 (pGo r2.2 p).bind fun r5 =>
 (truly r2.2 r3 p).bind fun r6 =>
 (truly r2.2 r4 p).bind fun r7 =>
 bif (r5.2 != 0) then
 some false
 else
 bif ((r5.1.length : Int) != r2.2.Spots) then
 some false
 else
 it _ (fun (v_0 : (Unit × Unit × Unit × Int × Unit) × (Unit)) kn => RescueEnds_L12 r5 r6 r7 kn_ p v_0.1.2.2.2.1 (fun y0 => kn (((), (), (), y0, ()), (())))) (((), (), (), 0, ()), (()))
 else
 (awake).bind fun r9 =>
 some r9
def RescueEnds' (it : It Bool) (nums : List Int) : Option Bool :=
 (NewSeed nums).bind fun r =>
 (RescueOf r 6 4).bind fun r2 =>
 (extreme r2.2 true).bind fun r3 =>
 (extreme r2.2 false).bind fun r4 =>
 it _ (fun (v_0 : (Unit × Unit × Unit × Int × Unit) × (Unit)) kn => RescueEnds_L5 it r2 r3 r4 v_0.1.2.2.2.1 (fun y0 => kn (((), (), (), y0, ()), (())))) (((), (), (), 0, ()), (()))
def E4 : FEnv iseat := ⟨⟨72, [sp25, sp26, sp27, sp28, sp17], [sp19], [sp18], [], [], [], [], [], [], [], [], [], true⟩, [(5, ⟨⟨[(4, .bx 4 0), (5, .bx 5 0), (6, .bx 6 0), (7, .v (.int .i64))], []⟩, [], [4, 5, 6], []⟩), (12, ⟨⟨[(4, .bx 4 0), (5, .bx 5 0), (6, .bx 6 0), (12, .v (.int .i64))], []⟩, [7, 8, 10, 11], [], []⟩)]⟩
theorem e4 (it : It Bool) (nums : List Int) : fnRun (ts := [.bool]) it E4 (bodyOf Try.f4) Try.f4.results.toList (encA [.sl (.int .i64)] (nums, ())) = RescueEnds' it nums := by kernel_rfl
def RescueCalls_L36 (calls : List Int) (r2 : (Seed × Rescue)) (r7 : ((List Span) × Int)) (times : List (List Span)) (r3 : (Seed × Int)) (r6 : ((List Int) × Int × Int)) (kn_4 : Int → Int → Option Bool) (round : Int) (used : List Int) (i4 : Int) (x30_word3 : Int) (kn_5 : (List Int) → Int → Int → Option Bool) : Option Bool :=
 bif (decide (i4 < (calls.length : Int))) then
 (Below (⟨x30_word3⟩ : Seed) (r2.2.Posts.length : Int)).bind fun r11 =>
 (Listed used r11.2).bind fun r12 =>
 bif (!r12) then
 chk (decide (0 ≤ i4) && decide (i4 < (calls.length : Int))) <|
 (saves r2.2 r7.1 times r3.2 r11.2 (calls.getD i4.toNat 0)).bind fun r13 =>
 bif r13 then
 chk (fitA (used.length + [r11.2].length) 8) <|
 kn_5 (used ++ [r11.2]) (w64 (i4 + 1)) r11.1.word
 else
 kn_5 used (w64 (i4 + 1)) r11.1.word
 else
 kn_5 used (w64 (i4 + 1)) r11.1.word
 else
 bif (decide ((used.length : Int) > r6.2.1)) then
 some false
 else
 kn_4 (w64 (round + 1)) x30_word3
def RescueCalls_L48 (r2 : (Seed × Rescue)) (i5 : Int) (r6 : ((List Int) × Int × Int)) (calls : List Int) (r7 : ((List Span) × Int)) (times : List (List Span)) (r3 : (Seed × Int)) (kn_6 : Int → Option Bool) (any : Bool) (p : Int) (kn_7 : Bool → Int → Option Bool) : Option Bool :=
 bif (decide (p < (r2.2.Posts.length : Int))) then
 bif any then
 chk (decide (0 ≤ i5) && decide (i5 < (r6.1.length : Int))) <|
 bif ((r6.1.getD i5.toNat 0) == (-1)) then
 (Listed r6.1 p).bind fun r14 =>
 bif (!r14) then
 chk (decide (0 ≤ i5) && decide (i5 < (calls.length : Int))) <|
 (saves r2.2 r7.1 times r3.2 p (calls.getD i5.toNat 0)).bind fun r15 =>
 bif r15 then
 some false
 else
 kn_7 true (w64 (p + 1))
 else
 kn_7 true (w64 (p + 1))
 else
 kn_7 true (w64 (p + 1))
 else
 chk (decide (0 ≤ i5) && decide (i5 < (calls.length : Int))) <|
 (saves r2.2 r7.1 times r3.2 p (calls.getD i5.toNat 0)).bind fun r16 =>
 chk (decide (0 ≤ i5) && decide (i5 < (r6.1.length : Int))) <|
 bif ((r6.1.getD i5.toNat 0) == (-1)) then
 (Listed r6.1 p).bind fun r17 =>
 bif (!r17) then
 chk (decide (0 ≤ i5) && decide (i5 < (calls.length : Int))) <|
 (saves r2.2 r7.1 times r3.2 p (calls.getD i5.toNat 0)).bind fun r18 =>
 bif r18 then
 some false
 else
 kn_7 r16 (w64 (p + 1))
 else
 kn_7 r16 (w64 (p + 1))
 else
 kn_7 r16 (w64 (p + 1))
 else
 chk (decide (0 ≤ i5) && decide (i5 ≤ (w64 (i5 + 1))) && decide ((w64 (i5 + 1)) ≤ (calls.length : Int))) <|
 (pSend r2.2 r3.2 (subL calls i5 (w64 (i5 + 1)))).bind fun r19 =>
 bif (r19.2.2 != 0) then
 some false
 else
 bif (!((r19.2.1 == 1) == any)) then
 some false
 else
 bif (decide (r19.2.1 > 1)) then
 some false
 else
 kn_6 (w64 (i5 + 1))
def RescueCalls_L44 (it : It Bool) (calls : List Int) (r2 : (Seed × Rescue)) (r6 : ((List Int) × Int × Int)) (r7 : ((List Span) × Int)) (times : List (List Span)) (r3 : (Seed × Int)) (i5 : Int) (kn_6 : Int → Option Bool) : Option Bool :=
 bif (decide (i5 < (calls.length : Int))) then
 it _ (fun (v_0 : (Unit × Unit × Bool × Int × Unit) × (Unit)) kn => RescueCalls_L48 r2 i5 r6 calls r7 times r3 kn_6 v_0.1.2.2.1 v_0.1.2.2.2.1 (fun y0 y1 => kn (((), (), y0, y1, ()), (())))) (((), (), false, 0, ()), (()))
 else
 (awake).bind fun r20 =>
 some r20
def RescueCalls_L48__2 (r2 : (Seed × Rescue)) (i6 : Int) (r6 : ((List Int) × Int × Int)) (calls : List Int) (r7 : ((List Span) × Int)) (times : List (List Span)) (r3 : (Seed × Int)) (kn_8 : Int → Option Bool) (any2 : Bool) (p2 : Int) (kn_9 : Bool → Int → Option Bool) : Option Bool :=
 bif (decide (p2 < (r2.2.Posts.length : Int))) then
 bif any2 then
 chk (decide (0 ≤ i6) && decide (i6 < (r6.1.length : Int))) <|
 bif ((r6.1.getD i6.toNat 0) == (-1)) then
 (Listed r6.1 p2).bind fun r21 =>
 bif (!r21) then
 chk (decide (0 ≤ i6) && decide (i6 < (calls.length : Int))) <|
 (saves r2.2 r7.1 times r3.2 p2 (calls.getD i6.toNat 0)).bind fun r22 =>
 bif r22 then
 some false
 else
 kn_9 true (w64 (p2 + 1))
 else
 kn_9 true (w64 (p2 + 1))
 else
 kn_9 true (w64 (p2 + 1))
 else
 chk (decide (0 ≤ i6) && decide (i6 < (calls.length : Int))) <|
 (saves r2.2 r7.1 times r3.2 p2 (calls.getD i6.toNat 0)).bind fun r23 =>
 chk (decide (0 ≤ i6) && decide (i6 < (r6.1.length : Int))) <|
 bif ((r6.1.getD i6.toNat 0) == (-1)) then
 (Listed r6.1 p2).bind fun r24 =>
 bif (!r24) then
 chk (decide (0 ≤ i6) && decide (i6 < (calls.length : Int))) <|
 (saves r2.2 r7.1 times r3.2 p2 (calls.getD i6.toNat 0)).bind fun r25 =>
 bif r25 then
 some false
 else
 kn_9 r23 (w64 (p2 + 1))
 else
 kn_9 r23 (w64 (p2 + 1))
 else
 kn_9 r23 (w64 (p2 + 1))
 else
 chk (decide (0 ≤ i6) && decide (i6 ≤ (w64 (i6 + 1))) && decide ((w64 (i6 + 1)) ≤ (calls.length : Int))) <|
 (pSend r2.2 r3.2 (subL calls i6 (w64 (i6 + 1)))).bind fun r26 =>
 bif (r26.2.2 != 0) then
 some false
 else
 bif (!((r26.2.1 == 1) == any2)) then
 some false
 else
 bif (decide (r26.2.1 > 1)) then
 some false
 else
 kn_8 (w64 (i6 + 1))
def RescueCalls_L44__2 (it : It Bool) (calls : List Int) (r2 : (Seed × Rescue)) (r6 : ((List Int) × Int × Int)) (r7 : ((List Span) × Int)) (times : List (List Span)) (r3 : (Seed × Int)) (i6 : Int) (kn_8 : Int → Option Bool) : Option Bool :=
 bif (decide (i6 < (calls.length : Int))) then
 it _ (fun (v_0 : (Unit × Unit × Bool × Int × Unit) × (Unit)) kn => RescueCalls_L48__2 r2 i6 r6 calls r7 times r3 kn_8 v_0.1.2.2.1 v_0.1.2.2.2.1 (fun y0 y1 => kn (((), (), y0, y1, ()), (())))) (((), (), false, 0, ()), (()))
 else
 (awake).bind fun r27 =>
 some r27
def RescueCalls_L32 (it : It Bool) (r2 : (Seed × Rescue)) (calls : List Int) (r7 : ((List Span) × Int)) (times : List (List Span)) (r3 : (Seed × Int)) (r6 : ((List Int) × Int × Int)) (round : Int) (x30_word2 : Int) (kn_4 : Int → Int → Option Bool) : Option Bool :=
 bif (decide (round < 10)) then
 bif (decide ((r2.2.Posts.length : Int) > 0)) then
 it _ (fun (v_0 : (Unit × Unit × Unit × (List Int) × Int × Unit) × ((Int × Unit) × Unit)) kn => RescueCalls_L36 calls r2 r7 times r3 r6 kn_4 round v_0.1.2.2.2.1 v_0.1.2.2.2.2.1 v_0.2.1.1 (fun y0 y1 y2 => kn (((), (), (), y0, y1, ()), ((y2, ()), ())))) (((), (), (), ([] : List Int), 0, ()), ((x30_word2, ()), ()))
 else
 it _ (fun (v_0 : (Unit × Unit × Int × Unit) × (Unit)) kn => RescueCalls_L44 it calls r2 r6 r7 times r3 v_0.1.2.2.1 (fun y0 => kn (((), (), y0, ()), (())))) (((), (), 0, ()), (()))
 else
 it _ (fun (v_0 : (Unit × Unit × Int × Unit) × (Unit)) kn => RescueCalls_L44__2 it calls r2 r6 r7 times r3 v_0.1.2.2.1 (fun y0 => kn (((), (), y0, ()), (())))) (((), (), 0, ()), (()))
def RescueCalls_L23 (it : It Bool) (r6 : ((List Int) × Int × Int)) (r2 : (Seed × Rescue)) (calls : List Int) (r7 : ((List Span) × Int)) (times : List (List Span)) (r3 : (Seed × Int)) (x30_word : Int) (saved : Int) (i3 : Int) (kn_3 : Int → Int → Option Bool) : Option Bool :=
 bif (decide (i3 < (r6.1.length : Int))) then
 chk (decide (0 ≤ i3) && decide (i3 < (r6.1.length : Int))) <|
 bif ((r6.1.getD i3.toNat 0) == (-1)) then
 kn_3 saved (w64 (i3 + 1))
 else
 chk (decide (0 ≤ i3) && decide (i3 < (r6.1.length : Int))) <|
 bif (decide ((r6.1.getD i3.toNat 0) < 0)) then
 some false
 else
 chk (decide (0 ≤ i3) && decide (i3 < (r6.1.length : Int))) <|
 bif (decide ((r6.1.getD i3.toNat 0) ≥ (r2.2.Posts.length : Int))) then
 some false
 else
 chk (decide (0 ≤ 0) && decide (0 ≤ i3) && decide (i3 ≤ (r6.1.length : Int))) <|
 chk (decide (0 ≤ i3) && decide (i3 < (r6.1.length : Int))) <|
 (Listed (subL r6.1 0 i3) (r6.1.getD i3.toNat 0)).bind fun r9 =>
 bif r9 then
 some false
 else
 chk (decide (0 ≤ i3) && decide (i3 < (r6.1.length : Int))) <|
 chk (decide (0 ≤ i3) && decide (i3 < (calls.length : Int))) <|
 (saves r2.2 r7.1 times r3.2 (r6.1.getD i3.toNat 0) (calls.getD i3.toNat 0)).bind fun r10 =>
 bif (!r10) then
 some false
 else
 kn_3 (w64 (saved + 1)) (w64 (i3 + 1))
 else
 bif (saved != r6.2.1) then
 some false
 else
 it _ (fun (v_0 : (Unit × Unit × Unit × Int × Unit) × ((Int × Unit) × Unit)) kn => RescueCalls_L32 it r2 calls r7 times r3 r6 v_0.1.2.2.2.1 v_0.2.1.1 (fun y0 y1 => kn (((), (), (), y0, ()), ((y1, ()), ())))) (((), (), (), 0, ()), ((x30_word, ()), ()))
def RescueCalls_L15 (it : It Bool) (r2 : (Seed × Rescue)) (r6 : ((List Int) × Int × Int)) (calls : List Int) (r7 : ((List Span) × Int)) (r3 : (Seed × Int)) (x30_word : Int) (times : List (List Span)) (i2 : Int) (kn_2 : (List (List Span)) → Int → Option Bool) : Option Bool :=
 bif (decide (i2 < (r2.2.Posts.length : Int))) then
 (pGo r2.2 i2).bind fun r8 =>
 bif (r8.2 != 0) then
 some false
 else
 bif ((r8.1.length : Int) != r2.2.Spots) then
 some false
 else
 chk (fitA (times.length + [r8.1].length) 24) <|
 kn_2 (times ++ [r8.1]) (w64 (i2 + 1))
 else
 it _ (fun (v_0 : (Unit × Unit × Unit × Int × Int × Unit) × (Unit)) kn => RescueCalls_L23 it r6 r2 calls r7 times r3 x30_word v_0.1.2.2.2.1 v_0.1.2.2.2.2.1 (fun y0 y1 => kn (((), (), (), y0, y1, ()), (())))) (((), (), (), 0, 0, ()), (()))
def RescueCalls_L6 (it : It Bool) (r2 : (Seed × Rescue)) (r3 : (Seed × Int)) (calls : List Int) (i : Int) (x30_word : Int) (kn_ : (List Int) → Int → Int → Option Bool) : Option Bool :=
 bif (decide (i > 0)) then
 (Below (⟨x30_word⟩ : Seed) r2.2.Spots).bind fun r5 =>
 chk (fitA (calls.length + [r5.2].length) 8) <|
 kn_ (calls ++ [r5.2]) (w64 (i - 1)) r5.1.word
 else
 (pSend r2.2 r3.2 calls).bind fun r6 =>
 (pLives r2.2).bind fun r7 =>
 bif (r6.2.2 != 0) then
 some false
 else
 bif (r7.2 != 0) then
 some false
 else
 bif ((r6.1.length : Int) != (calls.length : Int)) then
 some false
 else
 bif ((r7.1.length : Int) != r2.2.Spots) then
 some false
 else
 it _ (fun (v_0 : (Unit × Unit × (List (List Span)) × Int × Unit) × (Unit)) kn => RescueCalls_L15 it r2 r6 calls r7 r3 x30_word v_0.1.2.2.1 v_0.1.2.2.2.1 (fun y0 y1 => kn (((), (), y0, y1, ()), (())))) (((), (), ([] : List (List Span)), 0, ()), (()))
def RescueCalls' (it : It Bool) (nums : List Int) : Option Bool :=
 (NewSeed nums).bind fun r =>
 (RescueOf r 5 5).bind fun r2 =>
 (Below r2.1 1440).bind fun r3 =>
 (Below r3.1 5).bind fun r4 =>
 it _ (fun (v_0 : (Unit × Unit × (List Int) × Int × Unit) × ((Int × Unit) × Unit)) kn => RescueCalls_L6 it r2 r3 v_0.1.2.2.1 v_0.1.2.2.2.1 v_0.2.1.1 (fun y0 y1 y2 => kn (((), (), y0, y1, ()), ((y2, ()), ())))) (((), (), ([] : List Int), r4.2, ()), ((r4.1.word, ()), ()))
def E6 : FEnv iseat := ⟨⟨283, [sp22, sp31, sp26, sp36, sp37, sp17], [sp19, sp20], [sp18], [], [], [], [], [], [], [], [46, 105, 203], [], true⟩, [(6, ⟨⟨[(3, .bx 30 0), (4, .bx 4 0), (6, .os 6 3 (.int .i64)), (7, .v (.int .i64))], [(30, [.v (.int .u64)])]⟩, [5], [4], []⟩), (15, ⟨⟨[(3, .bx 30 0), (4, .bx 4 0), (13, .os 13 24 (.sl .Span)), (14, .v (.int .i64))], []⟩, [5, 6, 8, 9, 11], [30, 4], []⟩), (23, ⟨⟨[(3, .bx 30 0), (4, .bx 4 0), (13, .osr 13), (17, .v (.int .i64)), (18, .v (.int .i64))], []⟩, [5, 6, 8, 9, 11], [30, 4, 13], []⟩), (32, ⟨⟨[(3, .bx 30 0), (4, .bx 4 0), (13, .osr 13), (19, .v (.int .i64))], [(30, [.v (.int .u64)])]⟩, [5, 6, 8, 9, 11], [4, 13], []⟩), (36, ⟨⟨[(3, .bx 30 0), (4, .bx 4 0), (13, .osr 13), (20, .os 20 3 (.int .i64)), (21, .v (.int .i64))], [(30, [.v (.int .u64)])]⟩, [19], [], []⟩), (44, ⟨⟨[(4, .bx 4 0), (13, .osr 13), (23, .v (.int .i64))], []⟩, [5, 6, 8, 11], [4, 13], []⟩), (48, ⟨⟨[(4, .bx 4 0), (13, .osr 13), (24, .v .bool), (25, .v (.int .i64))], []⟩, [23], [], []⟩)]⟩
theorem e6 (it : It Bool) (nums : List Int) : fnRun (ts := [.bool]) it E6 (bodyOf Try.f6) Try.f6.results.toList (encA [.sl (.int .i64)] (nums, ())) = RescueCalls' it nums := by kernel_rfl
def RescueCovers_L11 (r : Rescue) (r5 : (Seed × Rescue)) (minute : Int) (r11 : Int) (i : Int) (kn_ : Int → Option Bool) : Option Bool :=
 bif (decide (i < (([r, r5.2, r5.2] : List Rescue).length : Int))) then
 chk (decide (0 ≤ i) && decide (i < (([r, r5.2, r5.2] : List Rescue).length : Int))) <|
 chk (decide (i.toNat < ([r, r5.2, r5.2] : List Rescue).length)) <|
 chk (decide (0 ≤ i) && decide (i < ([minute, r11, minute].length : Int))) <|
 chk (decide (i.toNat < [minute, r11, minute].length)) <|
 (pReach (([r, r5.2, r5.2] : List Rescue).getD i.toNat dfltRescue) ([minute, r11, minute].getD i.toNat 0)).bind fun r12 =>
 chk (decide (0 ≤ i) && decide (i < (([r, r5.2, r5.2] : List Rescue).length : Int))) <|
 chk (decide (i.toNat < ([r, r5.2, r5.2] : List Rescue).length)) <|
 chk (decide (0 ≤ i) && decide (i < ([minute, r11, minute].length : Int))) <|
 chk (decide (i.toNat < [minute, r11, minute].length)) <|
 (rReach (([r, r5.2, r5.2] : List Rescue).getD i.toNat dfltRescue) ([minute, r11, minute].getD i.toNat 0)).bind fun r13 =>
 chk (decide (0 ≤ i) && decide (i < (([r, r5.2, r5.2] : List Rescue).length : Int))) <|
 chk (decide (i.toNat < ([r, r5.2, r5.2] : List Rescue).length)) <|
 chk (decide (0 ≤ i) && decide (i < ([minute, r11, minute].length : Int))) <|
 chk (decide (i.toNat < [minute, r11, minute].length)) <|
 (pCover (([r, r5.2, r5.2] : List Rescue).getD i.toNat dfltRescue) ([minute, r11, minute].getD i.toNat 0)).bind fun r14 =>
 chk (decide (0 ≤ i) && decide (i < (([r, r5.2, r5.2] : List Rescue).length : Int))) <|
 chk (decide (i.toNat < ([r, r5.2, r5.2] : List Rescue).length)) <|
 chk (decide (0 ≤ i) && decide (i < ([minute, r11, minute].length : Int))) <|
 chk (decide (i.toNat < [minute, r11, minute].length)) <|
 (rCover (([r, r5.2, r5.2] : List Rescue).getD i.toNat dfltRescue) ([minute, r11, minute].getD i.toNat 0)).bind fun r15 =>
 bif (r12.2 != r13.2) then
 some false
 else
 bif (r14.2 != r15.2) then
 some false
 else
 (SameSpans r12.1 r13.1).bind fun r16 =>
 bif (!r16) then
 some false
 else
 (Same r14.1 r15.1).bind fun r17 =>
 bif (!r17) then
 some false
 else
 kn_ (w64 (i + 1))
 else
 (awake).bind fun r18 =>
 some r18
def RescueCovers_L11__2 (r : Rescue) (r5 : (Seed × Rescue)) (minute : Int) (r6 : (Seed × Int)) (i2 : Int) (kn_2 : Int → Option Bool) : Option Bool :=
 bif (decide (i2 < (([r, r5.2, r5.2] : List Rescue).length : Int))) then
 chk (decide (0 ≤ i2) && decide (i2 < (([r, r5.2, r5.2] : List Rescue).length : Int))) <|
 chk (decide (i2.toNat < ([r, r5.2, r5.2] : List Rescue).length)) <|
 chk (decide (0 ≤ i2) && decide (i2 < ([minute, r6.2, minute].length : Int))) <|
 chk (decide (i2.toNat < [minute, r6.2, minute].length)) <|
 (pReach (([r, r5.2, r5.2] : List Rescue).getD i2.toNat dfltRescue) ([minute, r6.2, minute].getD i2.toNat 0)).bind fun r19 =>
 chk (decide (0 ≤ i2) && decide (i2 < (([r, r5.2, r5.2] : List Rescue).length : Int))) <|
 chk (decide (i2.toNat < ([r, r5.2, r5.2] : List Rescue).length)) <|
 chk (decide (0 ≤ i2) && decide (i2 < ([minute, r6.2, minute].length : Int))) <|
 chk (decide (i2.toNat < [minute, r6.2, minute].length)) <|
 (rReach (([r, r5.2, r5.2] : List Rescue).getD i2.toNat dfltRescue) ([minute, r6.2, minute].getD i2.toNat 0)).bind fun r20 =>
 chk (decide (0 ≤ i2) && decide (i2 < (([r, r5.2, r5.2] : List Rescue).length : Int))) <|
 chk (decide (i2.toNat < ([r, r5.2, r5.2] : List Rescue).length)) <|
 chk (decide (0 ≤ i2) && decide (i2 < ([minute, r6.2, minute].length : Int))) <|
 chk (decide (i2.toNat < [minute, r6.2, minute].length)) <|
 (pCover (([r, r5.2, r5.2] : List Rescue).getD i2.toNat dfltRescue) ([minute, r6.2, minute].getD i2.toNat 0)).bind fun r21 =>
 chk (decide (0 ≤ i2) && decide (i2 < (([r, r5.2, r5.2] : List Rescue).length : Int))) <|
 chk (decide (i2.toNat < ([r, r5.2, r5.2] : List Rescue).length)) <|
 chk (decide (0 ≤ i2) && decide (i2 < ([minute, r6.2, minute].length : Int))) <|
 chk (decide (i2.toNat < [minute, r6.2, minute].length)) <|
 (rCover (([r, r5.2, r5.2] : List Rescue).getD i2.toNat dfltRescue) ([minute, r6.2, minute].getD i2.toNat 0)).bind fun r22 =>
 bif (r19.2 != r20.2) then
 some false
 else
 bif (r21.2 != r22.2) then
 some false
 else
 (SameSpans r19.1 r20.1).bind fun r23 =>
 bif (!r23) then
 some false
 else
 (Same r21.1 r22.1).bind fun r24 =>
 bif (!r24) then
 some false
 else
 kn_2 (w64 (i2 + 1))
 else
 (awake).bind fun r25 =>
 some r25
def RescueCovers_L11__3 (r : Rescue) (r5 : (Seed × Rescue)) (minute : Int) (r6 : (Seed × Int)) (i3 : Int) (kn_3 : Int → Option Bool) : Option Bool :=
 bif (decide (i3 < (([r, r5.2, r5.2] : List Rescue).length : Int))) then
 chk (decide (0 ≤ i3) && decide (i3 < (([r, r5.2, r5.2] : List Rescue).length : Int))) <|
 chk (decide (i3.toNat < ([r, r5.2, r5.2] : List Rescue).length)) <|
 chk (decide (0 ≤ i3) && decide (i3 < ([minute, r6.2, minute].length : Int))) <|
 chk (decide (i3.toNat < [minute, r6.2, minute].length)) <|
 (pReach (([r, r5.2, r5.2] : List Rescue).getD i3.toNat dfltRescue) ([minute, r6.2, minute].getD i3.toNat 0)).bind fun r26 =>
 chk (decide (0 ≤ i3) && decide (i3 < (([r, r5.2, r5.2] : List Rescue).length : Int))) <|
 chk (decide (i3.toNat < ([r, r5.2, r5.2] : List Rescue).length)) <|
 chk (decide (0 ≤ i3) && decide (i3 < ([minute, r6.2, minute].length : Int))) <|
 chk (decide (i3.toNat < [minute, r6.2, minute].length)) <|
 (rReach (([r, r5.2, r5.2] : List Rescue).getD i3.toNat dfltRescue) ([minute, r6.2, minute].getD i3.toNat 0)).bind fun r27 =>
 chk (decide (0 ≤ i3) && decide (i3 < (([r, r5.2, r5.2] : List Rescue).length : Int))) <|
 chk (decide (i3.toNat < ([r, r5.2, r5.2] : List Rescue).length)) <|
 chk (decide (0 ≤ i3) && decide (i3 < ([minute, r6.2, minute].length : Int))) <|
 chk (decide (i3.toNat < [minute, r6.2, minute].length)) <|
 (pCover (([r, r5.2, r5.2] : List Rescue).getD i3.toNat dfltRescue) ([minute, r6.2, minute].getD i3.toNat 0)).bind fun r28 =>
 chk (decide (0 ≤ i3) && decide (i3 < (([r, r5.2, r5.2] : List Rescue).length : Int))) <|
 chk (decide (i3.toNat < ([r, r5.2, r5.2] : List Rescue).length)) <|
 chk (decide (0 ≤ i3) && decide (i3 < ([minute, r6.2, minute].length : Int))) <|
 chk (decide (i3.toNat < [minute, r6.2, minute].length)) <|
 (rCover (([r, r5.2, r5.2] : List Rescue).getD i3.toNat dfltRescue) ([minute, r6.2, minute].getD i3.toNat 0)).bind fun r29 =>
 bif (r26.2 != r27.2) then
 some false
 else
 bif (r28.2 != r29.2) then
 some false
 else
 (SameSpans r26.1 r27.1).bind fun r30 =>
 bif (!r30) then
 some false
 else
 (Same r28.1 r29.1).bind fun r31 =>
 bif (!r31) then
 some false
 else
 kn_3 (w64 (i3 + 1))
 else
 (awake).bind fun r32 =>
 some r32
def RescueCovers' (it : It Bool) (r : Rescue) (minute : Int) (nums : List Int) : Option Bool :=
 (big r).bind fun r2 =>
 bif r2 then
 (awake).bind fun r3 =>
 some r3
 else
 (NewSeed nums).bind fun r4 =>
 (RescueOf r4 6 4).bind fun r5 =>
 (Below r5.1 1440).bind fun r6 =>
 bif (decide ((r5.2.Posts.length : Int) > 0)) then
 (Yes r6.1 2).bind fun r7 =>
 bif r7.2 then
 (Below r7.1 (r5.2.Posts.length : Int)).bind fun r8 =>
 chk (decide (0 ≤ r8.2) && decide (r8.2 < (r5.2.Posts.length : Int))) <|
 (Of r8.1 [(r5.2.Posts.getD r8.2.toNat dfltPost).From, (r5.2.Posts.getD r8.2.toNat dfltPost).To]).bind fun r9 =>
 (From r9.1 (-1) 1).bind fun r10 =>
 (Wrap (w64 (r9.2 + r10.2)) 1440).bind fun r11 =>
 it _ (fun (v_0 : (Unit × Unit × Int × Unit) × (Unit)) kn => RescueCovers_L11 r r5 minute r11 v_0.1.2.2.1 (fun y0 => kn (((), (), y0, ()), (())))) (((), (), 0, ()), (()))
 else
 it _ (fun (v_0 : (Unit × Unit × Int × Unit) × (Unit)) kn => RescueCovers_L11__2 r r5 minute r6 v_0.1.2.2.1 (fun y0 => kn (((), (), y0, ()), (())))) (((), (), 0, ()), (()))
 else
 it _ (fun (v_0 : (Unit × Unit × Int × Unit) × (Unit)) kn => RescueCovers_L11__3 r r5 minute r6 v_0.1.2.2.1 (fun y0 => kn (((), (), y0, ()), (())))) (((), (), 0, ()), (()))
def E7 : FEnv iseat := ⟨⟨142, [sp16, sp17, sp38, sp41, sp42, sp43, sp44, sp35, sp24], [sp19, sp20, sp29, sp39, sp40], [sp18], [], [], [], [], [], [], [], [53], [], true⟩, [(11, ⟨⟨[(11, .osr 62), (12, .osr 66), (13, .v (.int .i64))], []⟩, [], [62, 66], []⟩)]⟩
theorem e7 (it : It Bool) (r : Rescue) (minute : Int) (nums : List Int) : fnRun (ts := [.bool]) it E7 (bodyOf Try.f7) Try.f7.results.toList (encA [.Rescue, .int .i64, .sl (.int .i64)] (r, minute, nums, ())) = RescueCovers' it r minute nums := by kernel_rfl
def RescueTruth_L23 (r9 : List Int) (r8 : ((List Span) × Int)) (p : Int) (r2 : (Seed × Rescue)) (r3 : (Seed × Int)) (kn_2 : (List Int) → Int → Option Bool) (first3 : List Int) (k : Int) (kn_3 : (List Int) → Int → Option Bool) : Option Bool :=
 bif (decide (k < (r9.length : Int))) then
 chk (decide (0 ≤ k) && decide (k < (r8.1.length : Int))) <|
 chk (decide (0 ≤ k) && decide (k < (r9.length : Int))) <|
 (Has (r8.1.getD k.toNat dfltSpan) (r9.getD k.toNat 0)).bind fun r10 =>
 bif (!r10) then
 some false
 else
 chk (decide (0 ≤ p) && decide (p < (r2.2.Posts.length : Int))) <|
 (Manned (r2.2.Posts.getD p.toNat dfltPost) r3.2).bind fun r11 =>
 bif r11 then
 chk (decide (0 ≤ k) && decide (k < (first3.length : Int))) <|
 chk (decide (k.toNat < first3.length)) <|
 chk (decide (0 ≤ k) && decide (k < (r9.length : Int))) <|
 chk (decide (0 ≤ k) && decide (k < (first3.length : Int))) <|
 chk (decide (k.toNat < first3.length)) <|
 kn_3 (first3.set k.toNat (min (first3.getD k.toNat 0) (r9.getD k.toNat 0))) (w64 (k + 1))
 else
 kn_3 first3 (w64 (k + 1))
 else
 kn_2 first3 (w64 (p + 1))
def RescueTruth_L30 (r2 : (Seed × Rescue)) (first2 : List Int) (r4 : (Seed × Facts)) (r6 : ((List Span) × Int)) (r5 : ((List Span) × Int)) (r7 : ((List Int) × Int)) (k2 : Int) (kn_4 : Int → Option Bool) : Option Bool :=
 bif (decide (k2 < r2.2.Spots)) then
 chk (decide (0 ≤ k2) && decide (k2 < (first2.length : Int))) <|
 chk (decide (k2.toNat < first2.length)) <|
 (alive r2.2 r4.2 k2).bind fun r12 =>
 chk (decide (0 ≤ k2) && decide (k2 < (r6.1.length : Int))) <|
 chk (decide (0 ≤ k2) && decide (k2 < (first2.length : Int))) <|
 chk (decide (k2.toNat < first2.length)) <|
 (Has (r6.1.getD k2.toNat dfltSpan) (first2.getD k2.toNat 0)).bind fun r13 =>
 bif (!r13) then
 some false
 else
 chk (decide (0 ≤ k2) && decide (k2 < (r5.1.length : Int))) <|
 (alive r2.2 r4.2 k2).bind fun r14 =>
 (Has (r5.1.getD k2.toNat dfltSpan) r14).bind fun r15 =>
 bif (!r15) then
 some false
 else
 chk (decide (0 ≤ k2) && decide (k2 < (r7.1.length : Int))) <|
 bif ((r7.1.getD k2.toNat 0) == 1) then
 bif (!(decide ((first2.getD k2.toNat 0) ≤ r12))) then
 some false
 else
 chk (decide (0 ≤ k2) && decide (k2 < (r7.1.length : Int))) <|
 bif ((r7.1.getD k2.toNat 0) == 2) then
 bif (decide ((first2.getD k2.toNat 0) ≤ r12)) then
 some false
 else
 kn_4 (w64 (k2 + 1))
 else
 kn_4 (w64 (k2 + 1))
 else
 chk (decide (0 ≤ k2) && decide (k2 < (r7.1.length : Int))) <|
 bif ((r7.1.getD k2.toNat 0) == 2) then
 bif (decide ((first2.getD k2.toNat 0) ≤ r12)) then
 some false
 else
 kn_4 (w64 (k2 + 1))
 else
 kn_4 (w64 (k2 + 1))
 else
 (awake).bind fun r16 =>
 some r16
def RescueTruth_L16 (it : It Bool) (r2 : (Seed × Rescue)) (r4 : (Seed × Facts)) (r3 : (Seed × Int)) (r6 : ((List Span) × Int)) (r5 : ((List Span) × Int)) (r7 : ((List Int) × Int)) (first2 : List Int) (p : Int) (kn_2 : (List Int) → Int → Option Bool) : Option Bool :=
 bif (decide (p < (r2.2.Posts.length : Int))) then
 (pGo r2.2 p).bind fun r8 =>
 (truly r2.2 r4.2 p).bind fun r9 =>
 bif (r8.2 != 0) then
 some false
 else
 bif ((r8.1.length : Int) != (r9.length : Int)) then
 some false
 else
 it _ (fun (v_0 : (Unit × Unit × (List Int) × Int × Unit) × (Unit)) kn => RescueTruth_L23 r9 r8 p r2 r3 kn_2 v_0.1.2.2.1 v_0.1.2.2.2.1 (fun y0 y1 => kn (((), (), y0, y1, ()), (())))) (((), (), first2, 0, ()), (()))
 else
 it _ (fun (v_0 : (Unit × Unit × Unit × Int × Unit) × (Unit)) kn => RescueTruth_L30 r2 first2 r4 r6 r5 r7 v_0.1.2.2.2.1 (fun y0 => kn (((), (), (), y0, ()), (())))) (((), (), (), 0, ()), (()))
def RescueTruth_L12 (it : It Bool) (r2 : (Seed × Rescue)) (r4 : (Seed × Facts)) (r3 : (Seed × Int)) (r6 : ((List Span) × Int)) (r5 : ((List Span) × Int)) (r7 : ((List Int) × Int)) (first : List Int) (i : Int) (kn_ : (List Int) → Int → Option Bool) : Option Bool :=
 bif (decide (i < r2.2.Spots)) then
 chk (decide (0 ≤ i) && decide (i < (first.length : Int))) <|
 chk (decide (i.toNat < first.length)) <|
 kn_ (first.set i.toNat 1000000) (w64 (i + 1))
 else
 it _ (fun (v_0 : (Unit × Unit × (List Int) × Int × Unit) × (Unit)) kn => RescueTruth_L16 it r2 r4 r3 r6 r5 r7 v_0.1.2.2.1 v_0.1.2.2.2.1 (fun y0 y1 => kn (((), (), y0, y1, ()), (())))) (((), (), first, 0, ()), (()))
def RescueTruth' (it : It Bool) (nums : List Int) : Option Bool :=
 (NewSeed nums).bind fun r =>
 (RescueOf r 6 4).bind fun r2 =>
 (Below r2.1 1440).bind fun r3 =>
 (FactsOf r3.1 r2.2).bind fun r4 =>
 (pLives r2.2).bind fun r5 =>
 (pReach r2.2 r3.2).bind fun r6 =>
 (pCover r2.2 r3.2).bind fun r7 =>
 bif (r5.2 != 0) then
 some false
 else
 bif (r6.2 != 0) then
 some false
 else
 bif (r7.2 != 0) then
 some false
 else
 bif ((r5.1.length : Int) != r2.2.Spots) then
 some false
 else
 bif ((r6.1.length : Int) != r2.2.Spots) then
 some false
 else
 bif ((r7.1.length : Int) != r2.2.Spots) then
 some false
 else
 chk (fitM r2.2.Spots 8) <|
 it _ (fun (v_0 : (Unit × Unit × (List Int) × Int × Unit) × (Unit)) kn => RescueTruth_L12 it r2 r4 r3 r6 r5 r7 v_0.1.2.2.1 v_0.1.2.2.2.1 (fun y0 y1 => kn (((), (), y0, y1, ()), (())))) (((), (), (List.replicate r2.2.Spots.toNat 0), 0, ()), (()))
def E8 : FEnv iseat := ⟨⟨211, [sp31, sp41, sp43, sp26, sp27, sp46, sp47, sp48, sp17], [sp19, sp20, sp45], [sp18], [], [], [], [], [], [], [], [], [], true⟩, [(12, ⟨⟨[(4, .bx 4 0), (6, .bx 6 0), (13, .os 81 3 (.int .i64)), (14, .v (.int .i64))], []⟩, [5, 7, 9, 11], [4, 6], []⟩), (16, ⟨⟨[(4, .bx 4 0), (6, .bx 6 0), (13, .os 81 3 (.int .i64)), (15, .v (.int .i64))], []⟩, [5, 7, 9, 11], [4, 6], []⟩), (23, ⟨⟨[(4, .bx 4 0), (6, .bx 6 0), (13, .os 81 3 (.int .i64)), (19, .v (.int .i64))], []⟩, [15, 16, 18], [], []⟩), (30, ⟨⟨[(4, .bx 4 0), (6, .bx 6 0), (13, .osr 81), (20, .v (.int .i64))], []⟩, [7, 9, 11], [4, 6, 81], []⟩)]⟩
theorem e8 (it : It Bool) (nums : List Int) : fnRun (ts := [.bool]) it E8 (bodyOf Try.f8) Try.f8.results.toList (encA [.sl (.int .i64)] (nums, ())) = RescueTruth' it nums := by kernel_rfl
def RescueNarrows_L13 (r2 : (Seed × Rescue)) (r6 : ((List Span) × Int)) (r5 : ((List Span) × Int)) (r10 : ((List Span) × Int)) (r9 : ((List Span) × Int)) (r7 : ((List Int) × Int)) (r8 : ((List Int) × Int)) (k : Int) (kn_ : Int → Option Bool) : Option Bool :=
 bif (decide (k < r2.2.Spots)) then
 chk (decide (0 ≤ k) && decide (k < (r6.1.length : Int))) <|
 chk (decide (0 ≤ k) && decide (k < (r5.1.length : Int))) <|
 (In (r6.1.getD k.toNat dfltSpan) (r5.1.getD k.toNat dfltSpan)).bind fun r11 =>
 bif (!r11) then
 some false
 else
 chk (decide (0 ≤ k) && decide (k < (r10.1.length : Int))) <|
 chk (decide (0 ≤ k) && decide (k < (r9.1.length : Int))) <|
 (In (r10.1.getD k.toNat dfltSpan) (r9.1.getD k.toNat dfltSpan)).bind fun r12 =>
 bif (!r12) then
 some false
 else
 chk (decide (0 ≤ k) && decide (k < (r7.1.length : Int))) <|
 bif ((r7.1.getD k.toNat 0) != 3) then
 chk (decide (0 ≤ k) && decide (k < (r7.1.length : Int))) <|
 chk (decide (0 ≤ k) && decide (k < (r8.1.length : Int))) <|
 bif ((r7.1.getD k.toNat 0) != (r8.1.getD k.toNat 0)) then
 some false
 else
 kn_ (w64 (k + 1))
 else
 kn_ (w64 (k + 1))
 else
 (awake).bind fun r13 =>
 some r13
def RescueNarrows' (it : It Bool) (nums : List Int) : Option Bool :=
 (NewSeed nums).bind fun r =>
 (RescueOf r 6 4).bind fun r2 =>
 (InnerRescue r2.1 r2.2).bind fun r3 =>
 (Below r3.1 1440).bind fun r4 =>
 (pReach r2.2 r4.2).bind fun r5 =>
 (pReach r3.2 r4.2).bind fun r6 =>
 (pCover r2.2 r4.2).bind fun r7 =>
 (pCover r3.2 r4.2).bind fun r8 =>
 (pLives r2.2).bind fun r9 =>
 (pLives r3.2).bind fun r10 =>
 bif (r5.2 != 0) then
 some false
 else
 bif (r6.2 != 0) then
 some false
 else
 bif (r7.2 != 0) then
 some false
 else
 bif (r8.2 != 0) then
 some false
 else
 bif (r9.2 != 0) then
 some false
 else
 bif (r10.2 != 0) then
 some false
 else
 bif ((r5.1.length : Int) != (r6.1.length : Int)) then
 some false
 else
 bif ((r7.1.length : Int) != (r8.1.length : Int)) then
 some false
 else
 bif ((r9.1.length : Int) != (r10.1.length : Int)) then
 some false
 else
 bif ((r7.1.length : Int) != r2.2.Spots) then
 some false
 else
 bif ((r5.1.length : Int) != r2.2.Spots) then
 some false
 else
 bif ((r9.1.length : Int) != r2.2.Spots) then
 some false
 else
 it _ (fun (v_0 : (Unit × Int × Unit) × (Unit)) kn => RescueNarrows_L13 r2 r6 r5 r10 r9 r7 r8 v_0.1.2.1 (fun y0 => kn (((), y0, ()), (())))) (((), 0, ()), (()))
def E9 : FEnv iseat := ⟨⟨174, [sp41, sp43, sp31, sp50, sp17], [sp19, sp49, sp20], [sp18], [], [], [], [], [], [], [], [], [], true⟩, [(13, ⟨⟨[(4, .bx 4 0), (19, .v (.int .i64))], []⟩, [7, 9, 11, 13, 15, 17], [4], []⟩)]⟩
theorem e9 (it : It Bool) (nums : List Int) : fnRun (ts := [.bool]) it E9 (bodyOf Try.f9) Try.f9.results.toList (encA [.sl (.int .i64)] (nums, ())) = RescueNarrows' it nums := by kernel_rfl
def RescueMore_L21 (r2 : (Seed × Rescue)) (r11 : ((List Span) × Int)) (r10 : ((List Span) × Int)) (r12 : ((List Int) × Int)) (r13 : ((List Int) × Int)) (r15 : ((List Span) × Int)) (r14 : ((List Span) × Int)) (k : Int) (kn_2 : Int → Option Bool) : Option Bool :=
 bif (decide (k < r2.2.Spots)) then
 chk (decide (0 ≤ k) && decide (k < (r11.1.length : Int))) <|
 chk (decide (0 ≤ k) && decide (k < (r10.1.length : Int))) <|
 bif (decide ((r11.1.getD k.toNat dfltSpan).Lo > (r10.1.getD k.toNat dfltSpan).Lo)) then
 some false
 else
 chk (decide (0 ≤ k) && decide (k < (r11.1.length : Int))) <|
 chk (decide (0 ≤ k) && decide (k < (r10.1.length : Int))) <|
 bif (decide ((r11.1.getD k.toNat dfltSpan).Hi > (r10.1.getD k.toNat dfltSpan).Hi)) then
 some false
 else
 chk (decide (0 ≤ k) && decide (k < (r12.1.length : Int))) <|
 bif ((r12.1.getD k.toNat 0) == 1) then
 chk (decide (0 ≤ k) && decide (k < (r13.1.length : Int))) <|
 bif ((r13.1.getD k.toNat 0) != 1) then
 some false
 else
 chk (decide (0 ≤ k) && decide (k < (r15.1.length : Int))) <|
 chk (decide (0 ≤ k) && decide (k < (r14.1.length : Int))) <|
 bif (decide ((r15.1.getD k.toNat dfltSpan).Lo < (r14.1.getD k.toNat dfltSpan).Lo)) then
 some false
 else
 chk (decide (0 ≤ k) && decide (k < (r15.1.length : Int))) <|
 chk (decide (0 ≤ k) && decide (k < (r14.1.length : Int))) <|
 bif (decide ((r15.1.getD k.toNat dfltSpan).Hi < (r14.1.getD k.toNat dfltSpan).Hi)) then
 some false
 else
 kn_2 (w64 (k + 1))
 else
 chk (decide (0 ≤ k) && decide (k < (r15.1.length : Int))) <|
 chk (decide (0 ≤ k) && decide (k < (r14.1.length : Int))) <|
 bif (decide ((r15.1.getD k.toNat dfltSpan).Lo < (r14.1.getD k.toNat dfltSpan).Lo)) then
 some false
 else
 chk (decide (0 ≤ k) && decide (k < (r15.1.length : Int))) <|
 chk (decide (0 ≤ k) && decide (k < (r14.1.length : Int))) <|
 bif (decide ((r15.1.getD k.toNat dfltSpan).Hi < (r14.1.getD k.toNat dfltSpan).Hi)) then
 some false
 else
 kn_2 (w64 (k + 1))
 else
 (awake).bind fun r16 =>
 some r16
def RescueMore_L9 (it : It Bool) (r5 : (Seed × Int)) (r2 : (Seed × Rescue)) (r4 : (Seed × Int)) (r3 : Rescue) (r7 : (Seed × Path)) (r6 : (Seed × Post)) (r8 : Rescue) (i : Int) (more_Spots : Int) (warm_Spots : Int) (warm_Water : List Span) (kn_ : Int → Int → Int → (List Span) → Option Bool) : Option Bool :=
 bif (decide (i < (warm_Water.length : Int))) then
 chk (decide (0 ≤ i) && decide (i < (warm_Water.length : Int))) <|
 chk (decide (i.toNat < warm_Water.length)) <|
 chk (decide (0 ≤ i) && decide (i < (warm_Water.length : Int))) <|
 chk (decide (i.toNat < warm_Water.length)) <|
 (span (w64 ((warm_Water.getD i.toNat dfltSpan).Lo + r5.2)) (w64 ((warm_Water.getD i.toNat dfltSpan).Hi + r5.2))).bind fun r9 =>
 chk (decide (0 ≤ i) && decide (i < (warm_Water.length : Int))) <|
 chk (decide (i.toNat < warm_Water.length)) <|
 kn_ (w64 (i + 1)) more_Spots warm_Spots (warm_Water.set i.toNat r9)
 else
 (pReach r2.2 r4.2).bind fun r10 =>
 (pReach (⟨more_Spots, (r3.Paths ++ ([r7.2] : List Path)), (r3.Posts ++ ([r6.2] : List Post)), r3.Water, r3.Chills⟩ : Rescue) r4.2).bind fun r11 =>
 (pCover r2.2 r4.2).bind fun r12 =>
 (pCover (⟨more_Spots, (r3.Paths ++ ([r7.2] : List Path)), (r3.Posts ++ ([r6.2] : List Post)), r3.Water, r3.Chills⟩ : Rescue) r4.2).bind fun r13 =>
 (pLives r2.2).bind fun r14 =>
 (pLives (⟨warm_Spots, r8.Paths, r8.Posts, warm_Water, r8.Chills⟩ : Rescue)).bind fun r15 =>
 bif (r10.2 != 0) then
 some false
 else
 bif (r11.2 != 0) then
 some false
 else
 bif (r12.2 != 0) then
 some false
 else
 bif (r13.2 != 0) then
 some false
 else
 bif (r14.2 != 0) then
 some false
 else
 bif (r15.2 != 0) then
 some false
 else
 bif ((r10.1.length : Int) != r2.2.Spots) then
 some false
 else
 bif ((r11.1.length : Int) != r2.2.Spots) then
 some false
 else
 bif ((r12.1.length : Int) != r2.2.Spots) then
 some false
 else
 bif ((r13.1.length : Int) != r2.2.Spots) then
 some false
 else
 bif ((r14.1.length : Int) != r2.2.Spots) then
 some false
 else
 bif ((r15.1.length : Int) != r2.2.Spots) then
 some false
 else
 it _ (fun (v_0 : (Unit × Int × Unit) × (Unit)) kn => RescueMore_L21 r2 r11 r10 r12 r13 r15 r14 v_0.1.2.1 (fun y0 => kn (((), y0, ()), (())))) (((), 0, ()), (()))
def RescueMore_L21__2 (r2 : (Seed × Rescue)) (r20 : ((List Span) × Int)) (r19 : ((List Span) × Int)) (r21 : ((List Int) × Int)) (r22 : ((List Int) × Int)) (r24 : ((List Span) × Int)) (r23 : ((List Span) × Int)) (k2 : Int) (kn_4 : Int → Option Bool) : Option Bool :=
 bif (decide (k2 < r2.2.Spots)) then
 chk (decide (0 ≤ k2) && decide (k2 < (r20.1.length : Int))) <|
 chk (decide (0 ≤ k2) && decide (k2 < (r19.1.length : Int))) <|
 bif (decide ((r20.1.getD k2.toNat dfltSpan).Lo > (r19.1.getD k2.toNat dfltSpan).Lo)) then
 some false
 else
 chk (decide (0 ≤ k2) && decide (k2 < (r20.1.length : Int))) <|
 chk (decide (0 ≤ k2) && decide (k2 < (r19.1.length : Int))) <|
 bif (decide ((r20.1.getD k2.toNat dfltSpan).Hi > (r19.1.getD k2.toNat dfltSpan).Hi)) then
 some false
 else
 chk (decide (0 ≤ k2) && decide (k2 < (r21.1.length : Int))) <|
 bif ((r21.1.getD k2.toNat 0) == 1) then
 chk (decide (0 ≤ k2) && decide (k2 < (r22.1.length : Int))) <|
 bif ((r22.1.getD k2.toNat 0) != 1) then
 some false
 else
 chk (decide (0 ≤ k2) && decide (k2 < (r24.1.length : Int))) <|
 chk (decide (0 ≤ k2) && decide (k2 < (r23.1.length : Int))) <|
 bif (decide ((r24.1.getD k2.toNat dfltSpan).Lo < (r23.1.getD k2.toNat dfltSpan).Lo)) then
 some false
 else
 chk (decide (0 ≤ k2) && decide (k2 < (r24.1.length : Int))) <|
 chk (decide (0 ≤ k2) && decide (k2 < (r23.1.length : Int))) <|
 bif (decide ((r24.1.getD k2.toNat dfltSpan).Hi < (r23.1.getD k2.toNat dfltSpan).Hi)) then
 some false
 else
 kn_4 (w64 (k2 + 1))
 else
 chk (decide (0 ≤ k2) && decide (k2 < (r24.1.length : Int))) <|
 chk (decide (0 ≤ k2) && decide (k2 < (r23.1.length : Int))) <|
 bif (decide ((r24.1.getD k2.toNat dfltSpan).Lo < (r23.1.getD k2.toNat dfltSpan).Lo)) then
 some false
 else
 chk (decide (0 ≤ k2) && decide (k2 < (r24.1.length : Int))) <|
 chk (decide (0 ≤ k2) && decide (k2 < (r23.1.length : Int))) <|
 bif (decide ((r24.1.getD k2.toNat dfltSpan).Hi < (r23.1.getD k2.toNat dfltSpan).Hi)) then
 some false
 else
 kn_4 (w64 (k2 + 1))
 else
 (awake).bind fun r25 =>
 some r25
def RescueMore_L9__2 (it : It Bool) (r5 : (Seed × Int)) (r2 : (Seed × Rescue)) (r4 : (Seed × Int)) (r3 : Rescue) (r6 : (Seed × Post)) (r17 : Rescue) (i2 : Int) (more_Spots2 : Int) (warm_Spots2 : Int) (warm_Water2 : List Span) (kn_3 : Int → Int → Int → (List Span) → Option Bool) : Option Bool :=
 bif (decide (i2 < (warm_Water2.length : Int))) then
 chk (decide (0 ≤ i2) && decide (i2 < (warm_Water2.length : Int))) <|
 chk (decide (i2.toNat < warm_Water2.length)) <|
 chk (decide (0 ≤ i2) && decide (i2 < (warm_Water2.length : Int))) <|
 chk (decide (i2.toNat < warm_Water2.length)) <|
 (span (w64 ((warm_Water2.getD i2.toNat dfltSpan).Lo + r5.2)) (w64 ((warm_Water2.getD i2.toNat dfltSpan).Hi + r5.2))).bind fun r18 =>
 chk (decide (0 ≤ i2) && decide (i2 < (warm_Water2.length : Int))) <|
 chk (decide (i2.toNat < warm_Water2.length)) <|
 kn_3 (w64 (i2 + 1)) more_Spots2 warm_Spots2 (warm_Water2.set i2.toNat r18)
 else
 (pReach r2.2 r4.2).bind fun r19 =>
 (pReach (⟨more_Spots2, r3.Paths, (r3.Posts ++ ([r6.2] : List Post)), r3.Water, r3.Chills⟩ : Rescue) r4.2).bind fun r20 =>
 (pCover r2.2 r4.2).bind fun r21 =>
 (pCover (⟨more_Spots2, r3.Paths, (r3.Posts ++ ([r6.2] : List Post)), r3.Water, r3.Chills⟩ : Rescue) r4.2).bind fun r22 =>
 (pLives r2.2).bind fun r23 =>
 (pLives (⟨warm_Spots2, r17.Paths, r17.Posts, warm_Water2, r17.Chills⟩ : Rescue)).bind fun r24 =>
 bif (r19.2 != 0) then
 some false
 else
 bif (r20.2 != 0) then
 some false
 else
 bif (r21.2 != 0) then
 some false
 else
 bif (r22.2 != 0) then
 some false
 else
 bif (r23.2 != 0) then
 some false
 else
 bif (r24.2 != 0) then
 some false
 else
 bif ((r19.1.length : Int) != r2.2.Spots) then
 some false
 else
 bif ((r20.1.length : Int) != r2.2.Spots) then
 some false
 else
 bif ((r21.1.length : Int) != r2.2.Spots) then
 some false
 else
 bif ((r22.1.length : Int) != r2.2.Spots) then
 some false
 else
 bif ((r23.1.length : Int) != r2.2.Spots) then
 some false
 else
 bif ((r24.1.length : Int) != r2.2.Spots) then
 some false
 else
 it _ (fun (v_0 : (Unit × Int × Unit) × (Unit)) kn => RescueMore_L21__2 r2 r20 r19 r21 r22 r24 r23 v_0.1.2.1 (fun y0 => kn (((), y0, ()), (())))) (((), 0, ()), (()))
def RescueMore' (it : It Bool) (nums : List Int) : Option Bool :=
 (NewSeed nums).bind fun r =>
 (RescueOf r 6 4).bind fun r2 =>
 (OwnRescue r2.2).bind fun r3 =>
 (Below r2.1 1440).bind fun r4 =>
 (Below r4.1 20).bind fun r5 =>
 (PostOf r5.1 r2.2.Spots).bind fun r6 =>
 chk (fitA (r3.Posts.length + ([r6.2] : List Post).length) 72) <|
 bif (decide (r2.2.Spots > 1)) then
 (PathOf r6.1 r2.2.Spots).bind fun r7 =>
 chk (fitA (r3.Paths.length + ([r7.2] : List Path).length) 40) <|
 (OwnRescue r2.2).bind fun r8 =>
 it _ (fun (v_0 : (Unit × Unit × Unit × Int × Unit) × ((Int × Unit × Unit × Unit × Unit × Unit) × (Int × Unit × Unit × (List Span) × Unit × Unit) × Unit)) kn => RescueMore_L9 it r5 r2 r4 r3 r7 r6 r8 v_0.1.2.2.2.1 v_0.2.1.1 v_0.2.2.1.1 v_0.2.2.1.2.2.2.1 (fun y0 y1 y2 y3 => kn (((), (), (), y0, ()), ((y1, (), (), (), (), ()), (y2, (), (), y3, (), ()), ())))) (((), (), (), 0, ()), ((r3.Spots, (), (), (), (), ()), (r8.Spots, (), (), r8.Water, (), ()), ()))
 else
 (OwnRescue r2.2).bind fun r17 =>
 it _ (fun (v_0 : (Unit × Unit × Unit × Int × Unit) × ((Int × Unit × Unit × Unit × Unit × Unit) × (Int × Unit × Unit × (List Span) × Unit × Unit) × Unit)) kn => RescueMore_L9__2 it r5 r2 r4 r3 r6 r17 v_0.1.2.2.2.1 v_0.2.1.1 v_0.2.2.1.1 v_0.2.2.1.2.2.2.1 (fun y0 y1 y2 y3 => kn (((), (), (), y0, ()), ((y1, (), (), (), (), ()), (y2, (), (), y3, (), ()), ())))) (((), (), (), 0, ()), ((r3.Spots, (), (), (), (), ()), (r17.Spots, (), (), r17.Water, (), ()), ()))
def E10 : FEnv iseat := ⟨⟨253, [sp28, sp41, sp43, sp31, sp17], [sp19, sp20, sp52, sp53], [sp18], [], [], [], [], [], [sp51], [], [39, 51], [], true⟩, [(9, ⟨⟨[(4, .bx 4 0), (5, .bx 5 0), (8, .bx 8 0), (9, .v (.int .i64))], [(5, [.v (.int .i64), .osr 28, .osr 10028, .osr 20028, .osr 30028]), (8, [.v (.int .i64), .osr 55, .osr 10055, .os 20055 51 .Span, .osr 30055])]⟩, [6, 7], [4, 28, 10028, 20028, 30028, 55, 10055, 30055], []⟩), (21, ⟨⟨[(4, .bx 4 0), (22, .v (.int .i64))], []⟩, [10, 12, 14, 16, 18, 20], [4], []⟩)]⟩
theorem e10 (it : It Bool) (nums : List Int) : fnRun (ts := [.bool]) it E10 (bodyOf Try.f10) Try.f10.results.toList (encA [.sl (.int .i64)] (nums, ())) = RescueMore' it nums := by kernel_rfl
def RescueGaps_L7 (r : Rescue) (r5 : (Seed × Rescue)) (spot : Int) (r6 : (Seed × Int)) (i : Int) (kn_ : Int → Option Bool) : Option Bool :=
 bif (decide (i < (([r, r5.2, r5.2] : List Rescue).length : Int))) then
 chk (decide (0 ≤ i) && decide (i < (([r, r5.2, r5.2] : List Rescue).length : Int))) <|
 chk (decide (i.toNat < ([r, r5.2, r5.2] : List Rescue).length)) <|
 chk (decide (0 ≤ i) && decide (i < ([spot, r6.2, spot].length : Int))) <|
 chk (decide (i.toNat < [spot, r6.2, spot].length)) <|
 (pGaps (([r, r5.2, r5.2] : List Rescue).getD i.toNat dfltRescue) ([spot, r6.2, spot].getD i.toNat 0)).bind fun r7 =>
 chk (decide (0 ≤ i) && decide (i < (([r, r5.2, r5.2] : List Rescue).length : Int))) <|
 chk (decide (i.toNat < ([r, r5.2, r5.2] : List Rescue).length)) <|
 chk (decide (0 ≤ i) && decide (i < ([spot, r6.2, spot].length : Int))) <|
 chk (decide (i.toNat < [spot, r6.2, spot].length)) <|
 (rGaps (([r, r5.2, r5.2] : List Rescue).getD i.toNat dfltRescue) ([spot, r6.2, spot].getD i.toNat 0)).bind fun r8 =>
 bif (r7.2 != r8.2) then
 some false
 else
 (SameSpans r7.1 r8.1).bind fun r9 =>
 bif (!r9) then
 some false
 else
 kn_ (w64 (i + 1))
 else
 (awake).bind fun r10 =>
 some r10
def RescueGaps' (it : It Bool) (r : Rescue) (spot : Int) (nums : List Int) : Option Bool :=
 (big r).bind fun r2 =>
 bif r2 then
 (awake).bind fun r3 =>
 some r3
 else
 (NewSeed nums).bind fun r4 =>
 (RescueOf r4 5 5).bind fun r5 =>
 (Below r5.1 r5.2.Spots).bind fun r6 =>
 it _ (fun (v_0 : (Unit × Unit × Int × Unit) × (Unit)) kn => RescueGaps_L7 r r5 spot r6 v_0.1.2.2.1 (fun y0 => kn (((), (), y0, ()), (())))) (((), (), 0, ()), (()))
def E11 : FEnv iseat := ⟨⟨74, [sp16, sp17, sp54, sp55, sp35], [sp19, sp20], [sp18], [], [], [], [], [], [], [], [], [], true⟩, [(7, ⟨⟨[(9, .osr 26), (10, .osr 33), (11, .v (.int .i64))], []⟩, [], [26, 33], []⟩)]⟩
theorem e11 (it : It Bool) (r : Rescue) (spot : Int) (nums : List Int) : fnRun (ts := [.bool]) it E11 (bodyOf Try.f11) Try.f11.results.toList (encA [.Rescue, .int .i64, .sl (.int .i64)] (r, spot, nums, ())) = RescueGaps' it r spot nums := by kernel_rfl
def RescueDay_L23 (r4 : ((List Span) × Int)) (i3 : Int) (minutes2 : List Int) (r2 : (Seed × Rescue)) (r3 : (Seed × Int)) (kn_3 : Int → Option Bool) (is : Bool) (k : Int) (kn_4 : Bool → Int → Option Bool) : Option Bool :=
 bif (decide (k < (r4.1.length : Int))) then
 bif is then
 kn_4 true (w64 (k + 1))
 else
 chk (decide (0 ≤ k) && decide (k < (r4.1.length : Int))) <|
 chk (decide (0 ≤ i3) && decide (i3 < (minutes2.length : Int))) <|
 chk (decide (i3.toNat < minutes2.length)) <|
 (Has (r4.1.getD k.toNat dfltSpan) (minutes2.getD i3.toNat 0)).bind fun r7 =>
 kn_4 r7 (w64 (k + 1))
 else
 chk (decide (0 ≤ i3) && decide (i3 < (minutes2.length : Int))) <|
 chk (decide (i3.toNat < minutes2.length)) <|
 (pCover r2.2 (minutes2.getD i3.toNat 0)).bind fun r8 =>
 bif (r8.2 != 0) then
 some false
 else
 bif ((r8.1.length : Int) != r2.2.Spots) then
 some false
 else
 chk (decide (0 ≤ r3.2) && decide (r3.2 < (r8.1.length : Int))) <|
 bif (!(is == ((r8.1.getD r3.2.toNat 0) != 1))) then
 some false
 else
 kn_3 (w64 (i3 + 1))
def RescueDay_L19 (it : It Bool) (minutes2 : List Int) (r4 : ((List Span) × Int)) (r2 : (Seed × Rescue)) (r3 : (Seed × Int)) (i3 : Int) (kn_3 : Int → Option Bool) : Option Bool :=
 bif (decide (i3 < (minutes2.length : Int))) then
 it _ (fun (v_0 : (Unit × Unit × Bool × Int × Unit) × (Unit)) kn => RescueDay_L23 r4 i3 minutes2 r2 r3 kn_3 v_0.1.2.2.1 v_0.1.2.2.2.1 (fun y0 y1 => kn (((), (), y0, y1, ()), (())))) (((), (), false, 0, ()), (()))
 else
 (awake).bind fun r9 =>
 some r9
def RescueDay_L15 (it : It Bool) (r2 : (Seed × Rescue)) (r4 : ((List Span) × Int)) (r3 : (Seed × Int)) (minutes2 : List Int) (i2 : Int) (kn_2 : (List Int) → Int → Option Bool) : Option Bool :=
 bif (decide (i2 < (r2.2.Posts.length : Int))) then
 chk (decide (0 ≤ i2) && decide (i2 < (r2.2.Posts.length : Int))) <|
 chk (decide (0 ≤ i2) && decide (i2 < (r2.2.Posts.length : Int))) <|
 chk (decide (0 ≤ i2) && decide (i2 < (r2.2.Posts.length : Int))) <|
 (Wrap (w64 ((r2.2.Posts.getD i2.toNat dfltPost).To - 1)) 1440).bind fun r6 =>
 chk (fitA (minutes2.length + [(r2.2.Posts.getD i2.toNat dfltPost).From, (r2.2.Posts.getD i2.toNat dfltPost).To, r6].length) 8) <|
 kn_2 (minutes2 ++ [(r2.2.Posts.getD i2.toNat dfltPost).From, (r2.2.Posts.getD i2.toNat dfltPost).To, r6]) (w64 (i2 + 1))
 else
 it _ (fun (v_0 : (Unit × Unit × Int × Unit) × (Unit)) kn => RescueDay_L19 it minutes2 r4 r2 r3 v_0.1.2.2.1 (fun y0 => kn (((), (), y0, ()), (())))) (((), (), 0, ()), (()))
def RescueDay_L9 (it : It Bool) (r4 : ((List Span) × Int)) (r2 : (Seed × Rescue)) (r3 : (Seed × Int)) (minutes : List Int) (i : Int) (kn_ : (List Int) → Int → Option Bool) : Option Bool :=
 bif (decide (i < (r4.1.length : Int))) then
 chk (decide (0 ≤ i) && decide (i < (r4.1.length : Int))) <|
 chk (decide (0 ≤ i) && decide (i < (r4.1.length : Int))) <|
 bif (decide ((r4.1.getD i.toNat dfltSpan).Lo > (r4.1.getD i.toNat dfltSpan).Hi)) then
 some false
 else
 chk (decide (0 ≤ i) && decide (i < (r4.1.length : Int))) <|
 bif (decide ((r4.1.getD i.toNat dfltSpan).Lo < 0)) then
 some false
 else
 chk (decide (0 ≤ i) && decide (i < (r4.1.length : Int))) <|
 bif (decide ((r4.1.getD i.toNat dfltSpan).Hi ≥ 1440)) then
 some false
 else
 bif (decide (i > 0)) then
 chk (decide (0 ≤ i) && decide (i < (r4.1.length : Int))) <|
 chk (decide (0 ≤ (w64 (i - 1))) && decide ((w64 (i - 1)) < (r4.1.length : Int))) <|
 bif (decide ((r4.1.getD i.toNat dfltSpan).Lo ≤ (w64 ((r4.1.getD (w64 (i - 1)).toNat dfltSpan).Hi + 1)))) then
 some false
 else
 chk (decide (0 ≤ i) && decide (i < (r4.1.length : Int))) <|
 chk (decide (0 ≤ i) && decide (i < (r4.1.length : Int))) <|
 chk (fitA (minutes.length + [(r4.1.getD i.toNat dfltSpan).Lo, (r4.1.getD i.toNat dfltSpan).Hi].length) 8) <|
 kn_ (minutes ++ [(r4.1.getD i.toNat dfltSpan).Lo, (r4.1.getD i.toNat dfltSpan).Hi]) (w64 (i + 1))
 else
 chk (decide (0 ≤ i) && decide (i < (r4.1.length : Int))) <|
 chk (decide (0 ≤ i) && decide (i < (r4.1.length : Int))) <|
 chk (fitA (minutes.length + [(r4.1.getD i.toNat dfltSpan).Lo, (r4.1.getD i.toNat dfltSpan).Hi].length) 8) <|
 kn_ (minutes ++ [(r4.1.getD i.toNat dfltSpan).Lo, (r4.1.getD i.toNat dfltSpan).Hi]) (w64 (i + 1))
 else
 it _ (fun (v_0 : (Unit × (List Int) × Int × Unit) × (Unit)) kn => RescueDay_L15 it r2 r4 r3 v_0.1.2.1 v_0.1.2.2.1 (fun y0 y1 => kn (((), y0, y1, ()), (())))) (((), minutes, 0, ()), (()))
def RescueDay' (it : It Bool) (nums : List Int) : Option Bool :=
 (NewSeed nums).bind fun r =>
 (RescueOf r 5 5).bind fun r2 =>
 (Below r2.1 r2.2.Spots).bind fun r3 =>
 (pGaps r2.2 r3.2).bind fun r4 =>
 bif (r4.2 != 0) then
 some false
 else
 (Below r3.1 1440).bind fun r5 =>
 it _ (fun (v_0 : (Unit × (List Int) × Int × Unit) × (Unit)) kn => RescueDay_L9 it r4 r2 r3 v_0.1.2.1 v_0.1.2.2.1 (fun y0 y1 => kn (((), y0, y1, ()), (())))) (((), [0, 1439, r5.2], 0, ()), (()))
def E12 : FEnv iseat := ⟨⟨182, [sp54, sp38, sp46, sp43, sp17], [sp19, sp20], [sp18], [], [], [], [], [], [], [], [98, 128], [], true⟩, [(9, ⟨⟨[(4, .bx 4 0), (8, .os 34 3 (.int .i64)), (9, .v (.int .i64))], []⟩, [5, 6], [4], []⟩), (15, ⟨⟨[(4, .bx 4 0), (8, .os 34 3 (.int .i64)), (10, .v (.int .i64))], []⟩, [5, 6], [4], []⟩), (19, ⟨⟨[(4, .bx 4 0), (8, .osr 34), (11, .v (.int .i64))], []⟩, [5, 6], [4, 34], []⟩), (23, ⟨⟨[(4, .bx 4 0), (8, .osr 34), (12, .v .bool), (13, .v (.int .i64))], []⟩, [11], [], []⟩)]⟩
theorem e12 (it : It Bool) (nums : List Int) : fnRun (ts := [.bool]) it E12 (bodyOf Try.f12) Try.f12.results.toList (encA [.sl (.int .i64)] (nums, ())) = RescueDay' it nums := by kernel_rfl
end
end Go.Proofs.Rescue07
namespace Go.Proofs.Rescue07
open Go Go.Ab Go.Ways
set_option linter.all false
theorem Same_self (a : List Int) (ha : a.length ≤ 1000000) : Same a a = some true := by
  rw [Same_eq]; unfold Same'
  rw [show ((a.length : Int) != (a.length : Int)) = false by simp, cond_false]
  apply ok_eq
  refine Ok.rounds (fun (v : V1) => 0 ≤ v.1.1 ∧ v.1.1 ≤ a.length) (fun (v : V1) => (a.length - v.1.1).toNat) (FUEL_big (by show ((a.length : Int) - 0).toNat ≤ _; omega)) ⟨Int.le_refl _, by simp⟩ ?_
  rintro ⟨⟨i, u⟩, u'⟩ kn ⟨h0, h1⟩ hk
  simp only at h0 h1 hk ⊢
  unfold Same_L4
  refine Ok.ite (fun hc => ?_) (fun hc => Ok.some rfl)
  have hi := of_decide_eq_true hc
  have e1 : w64 (i + 1) = i + 1 := w64_id (by omega) (by omega)
  refine Ok.chk (ib h0 hi) (Ok.chk (ib h0 hi) (Ok.no (by simp) ?_))
  rw [e1]
  exact hk ((i + 1, u), u') ⟨by simp only; omega, by simp only; omega⟩ (by simp only; omega)
theorem SameSpans_self (a : List Span) (ha : a.length ≤ 1000000) : SameSpans a a = some true := by
  rw [SameSpans_eq]; unfold SameSpans'
  rw [show ((a.length : Int) != (a.length : Int)) = false by simp, cond_false]
  apply ok_eq
  refine Ok.rounds (fun (v : V1) => 0 ≤ v.1.1 ∧ v.1.1 ≤ a.length) (fun (v : V1) => (a.length - v.1.1).toNat) (FUEL_big (by show ((a.length : Int) - 0).toNat ≤ _; omega)) ⟨Int.le_refl _, by simp⟩ ?_
  rintro ⟨⟨i, u⟩, u'⟩ kn ⟨h0, h1⟩ hk
  simp only at h0 h1 hk ⊢
  unfold SameSpans_L4
  refine Ok.ite (fun hc => ?_) (fun hc => Ok.some rfl)
  have hi := of_decide_eq_true hc
  have e1 : w64 (i + 1) = i + 1 := w64_id (by omega) (by omega)
  refine Ok.chk (ib h0 hi) (Ok.chk (ib h0 hi) (Ok.no (by simp) ?_))
  rw [e1]
  exact hk ((i + 1, u), u') ⟨by simp only; omega, by simp only; omega⟩ (by simp only; omega)
theorem span_sp (a b : Int) : span a b = some ⟨a, b⟩ := by rw [span_eq]; rfl
theorem one_sp (a : Int) : one a = some ⟨a, a⟩ := by rw [one_eq]; unfold one'; rw [span_sp]; rfl
def roadR : Rescue := ⟨4, [⟨0, 1, ⟨5, 8⟩, 1⟩, ⟨1, 2, ⟨10, 20⟩, 1⟩, ⟨0, 2, ⟨12, 12⟩, 3⟩, ⟨2, 3, ⟨3, 4⟩, 2⟩], [⟨0, ⟨2, 3⟩, 0, 0, 0, []⟩, ⟨2, ⟨1, 1⟩, 360, 1080, 3, [⟨30, 40⟩, ⟨20, 25⟩, ⟨0, 0⟩, ⟨6, 9⟩]⟩], [⟨0, 10⟩, ⟨10, 20⟩, ⟨-10, 0⟩, ⟨50, 60⟩], [⟨-400, ⟨10, 20⟩⟩, ⟨0, ⟨15, 30⟩⟩, ⟨15, ⟨30, 60⟩⟩, ⟨50, ⟨60, 90⟩⟩]⟩
theorem road_sp : road = some roadR := by
  rw [road_eq]; unfold road'
  simp only [span_sp, one_sp, Option.bind_some]; rfl
theorem roadR_few : Few roadR := by unfold Few; decide
theorem awake_true : awake = some true := by
  rw [awake_eq]; unfold awake'
  simp only [road_sp, Option.bind_some, pGo_sp roadR_few, pCover_sp roadR_few, pSend_sp roadR_few]
  rw [show (bif eR roadR != 0 then (([] : List Span), eR roadR) else bif !(inR 0 0 ((roadR.Posts.length : Int) - 1)) then ([], 7) else (goesS roadR (roadR.Posts.getD (0:Int).toNat dfltPost), 0)) = ([⟨2, 3⟩, ⟨7, 11⟩, ⟨14, 31⟩, ⟨1000000, 1000000⟩], 0) by decide +kernel,
    show askS roadR 400 [] ((List.range roadR.Spots.toNat).map (coverS roadR 400)) = ([1, 1, 3, 3], 0) by decide +kernel,
    show sendS roadR 400 [1, 0] = ([0, -1], 1, 0) by decide +kernel]
  simp only [show ((0:Int) == 0) = true from rfl, cond_true, span_sp, one_sp, Option.bind_some, SameSpans_self _ (show ([⟨2, 3⟩, ⟨7, 11⟩, ⟨14, 31⟩, ⟨1000000, 1000000⟩] : List Span).length ≤ 1000000 by decide), Same_self [1, 1, 3, 3] (by decide), Same_self [0, -1] (by decide)]
  rfl
theorem big_ok (r : Rescue) (hr : r.Posts.length ≤ 9223372036854775807) : Ok (fun b => b = false → Few r) (big r) := by
  rw [big_eq]; unfold big'
  refine Ok.rounds (fun (v : V2) => 0 ≤ v.1.2.1 ∧ v.1.2.1 ≤ r.Posts.length ∧ ∀ p ∈ r.Posts.take v.1.2.1.toNat, p.Air.length ≤ 100000) (fun (v : V2) => (r.Posts.length - v.1.2.1).toNat) (by show ((r.Posts.length : Int) - 0).toNat < _; unfold FUEL; omega) ⟨Int.le_refl _, by simp, fun p hp => by simp at hp⟩ ?_
  rintro ⟨⟨u1, i, u2⟩, u3⟩ kn ⟨h0, h1, h2⟩ hk
  simp only at h0 h1 h2 hk ⊢
  unfold big_L2
  refine Ok.ite (fun hc => ?_) (fun hc => ?_)
  · have hi := of_decide_eq_true hc
    have e1 : w64 (i + 1) = i + 1 := w64_id (by omega) (by omega)
    refine Ok.chk (ib h0 hi) (Ok.ite (fun h => Ok.some fun h => by cases h) fun h => ?_)
    have h3 := of_decide_eq_false h
    rw [e1]
    refine hk ((u1, i + 1, u2), u3) ⟨by simp only; omega, by simp only; omega, fun p hp => ?_⟩ (by simp only; omega)
    simp only [toNat_succ h0] at hp
    rw [List.take_succ, List.getElem?_eq_getElem (show i.toNat < r.Posts.length by omega)] at hp
    rcases List.mem_append.1 hp with hp | hp
    · exact h2 p hp
    · simp only [Option.toList_some, List.mem_singleton] at hp
      subst hp
      rw [List.getD_eq_getElem?_getD, List.getElem?_eq_getElem (show i.toNat < r.Posts.length by omega)] at h3
      simp only [Option.getD_some] at h3
      omega
  · have hi := of_decide_eq_false hc
    rw [List.take_of_length_le (by omega)] at h2
    refine Ok.ite (fun h => Ok.some fun h => by cases h) fun q1 => Ok.ite (fun h => Ok.some fun h => by cases h) fun q2 => Ok.ite (fun h => Ok.some fun h => by cases h) fun q3 => Ok.some fun q4 => ?_
    have := of_decide_eq_false q1; have := of_decide_eq_false q2; have := of_decide_eq_false q3; have := of_decide_eq_false q4
    exact ⟨h2, by omega, by omega, by omega, by omega⟩
abbrev V2u := (Unit × Unit × Int × Unit) × Unit
theorem Made.few {a b : Int} {r : Rescue} (h : Made a b r) : Few r := h.1.few
theorem awake_ok : Ok (fun b => b = true) (awake.bind fun r => some r) := by rw [awake_true]; exact Ok.some rfl
end Go.Proofs.Rescue07
namespace Go.Ab
open Go Go.RowKit
noncomputable section
set_option linter.all false
set_option maxHeartbeats 1000000
section
variable {X : Ctx} {Z : ISeat}
def finKROM (Z : ISeat) (nt : Nat) (rv : List ResultVar) (bt rt : T) (ms : Mask) (S : IS) : Option (den bt × den rt) := match S.own 0 with
  | .box l => (match decC bt l, finKOM Z nt rv rt ms S with | some y, some x => some (y, x) | _, _ => none)
  | _ => none
def fnRunROM {bt : T} (rt : T) (ms : Mask) (it : It (den bt × den rt)) (E : FEnv Z) (c : Code) (rv : List ResultVar) (l A : List I) : Option (den bt × den rt) :=
  runC it E c ⟨[], []⟩ (initR l A) (finKROM Z E.nt rv bt rt ms) (fun e S => match e with | none => finKROM Z E.nt rv bt rt ms S | some _ => none)
theorem fn_contractROM {bt : T} {ats : List T} {rt : T} {ms : Mask} {E : FEnv Z} {f : FuncId} {fn : Func} {c : Code} (hf : Z.P.funcs[f]? = some fn) (hb : fn.body = some c) (hname : (fn.name == "runtime.NumGoroutine") = false) (hn : Nat.beq fn.ntmps E.nt = true) (hl : Nat.ble (ats.length + 1) fn.ntmps = true) (hp : E.pin = [0])
    {b y : den bt} {a : argD ats} {x : den rt} (hr : fnRunROM rt ms itN E c fn.results.toList (encC bt b) (encA ats a) = some (y, x)) {os : List OwT} {d : I} (hd : tmplM rt ms x = some (os, d)) (h : Nat → Nat) :
    ContractROM Z.toSeat f (I.toDL h (encC bt b)) (I.toDL h (encC bt y)) (I.toDL h (encA ats a)) (d.toD h) os.length (osF os) := by
  have hk : ∃ k, tmM ms (encC rt x) 0 = some (os, k) ∧ d = wrapC rt k := by
    unfold tmplM at hd
    split at hd
    · rename_i p hp
      simp only [Option.some.injEq, Prod.mk.injEq] at hd
      obtain ⟨rfl, rfl⟩ := hd
      exact ⟨_, hp, rfl⟩
    · cases hd
  obtain ⟨k, hk, hdk⟩ := hk
  subst hdk
  have pb : ∀ (h : Nat → Nat) (z : den bt), PureL (I.toDL h (encC bt z)) := fun h z => by rw [toDL_enc]; exact encD_pure bt z
  have cb : ∀ (h : Nat → Nat) (z : den bt), allCell (I.toDL h (encC bt z)) = true := fun h z => by rw [toDL_enc]; exact encD_cell bt z
  rw [encA_h' h zh, toDL_enc h bt b, ← toDL_enc zh bt b]
  refine contractROM_intro hf hb hname (by rw [toDL_len, encA_len]; exact hl) (pb _ _) (pb _ _) (cb _ _) (cb _ _) (encA_pure _ _ _) (tm_po hk h) (fun j _ i _ => encD_pure _ _) fun w κ b' => ?_
  have hX : At (Ctx.plain Z.toSeat fn.ntmps w κ (some b')) Z E.nt := ⟨rfl, Nat.eq_of_beq_eq_true hn⟩
  rw [← toSt_initR]
  have fin : ∀ h2 S, Inv E.pin (fun _ => 1) ⟨[], []⟩ h2 S → finKROM Z E.nt fn.results.toList bt rt ms S = some (y, x) → ∃ S' l, ∃ ss : Nat → Nat, ∃ ds, Wk (Ctx.plain Z.toSeat fn.ntmps w κ (some b')) (IS.toSt h2 S) S' ∧ S'.γ 0 = 1 ∧ S'.σ 0 = .box l ∧ (∀ κ γ sv vs, RepL κ γ sv l vs → RepL κ γ sv (I.toDL h (encC bt y)) vs) ∧ (∀ i j, i < os.length → j < os.length → ss i = ss j → i = j) ∧ (∀ i, i < os.length → S'.σ (ss i) = (osF os i).own) ∧ ResL (Ctx.plain Z.toSeat fn.ntmps w κ (some b')) S' fn.results.toList ds ∧ tupOf ds = renM (fun i => (ss i, S'.γ (ss i))) ((wrapC rt k).toD h) := fun h2 S hi hq => by
    unfold finKROM at hq
    split at hq
    · rename_i l hl0
      split at hq
      · rename_i y' x' hy hx
        simp only [Option.some.injEq, Prod.mk.injEq] at hq
        obtain ⟨rfl, rfl⟩ := hq
        obtain ⟨os', d', h3, ss, h4, h5, ds, h6, h7⟩ := finKOM_ok hX (h := h2) (h' := h) hx
        rw [hd] at h3
        simp only [Option.some.injEq, Prod.mk.injEq] at h3
        obtain ⟨rfl, rfl⟩ := h3
        refine ⟨_, I.toDL h2 l, ss, ds, Wk.refl _ _, hi.1 0 (by rw [hp]; exact List.mem_cons_self ..), by show (S.own 0).toOwn h2 = _; rw [hl0]; rfl, fun κ γ sv vs hv => ?_, h4, h5, h6, h7⟩
        rw [toDL_enc, ← toDL_enc h2]
        exact nilL_rep (nilIL_rel h2 (decC_ok bt hy)) hv
      · cases hq
    · cases hq
  refine W_mono (run_ok c hX (fun _ => ⟨_, _, _, _, _, rfl⟩) (g0 := fun _ => 1) ⟨[], []⟩ rfl _ _ _ zh ⟨(fun g hg => by rw [hp] at hg; simp only [List.mem_singleton] at hg; subst hg; rfl), ⟨(fun p hp => (nomatch hp)), (fun p hp => (nomatch hp))⟩⟩ hr) ?_
  rintro e T ⟨h2, S, rfl, hi, hq⟩
  cases e with
  | normal => exact fin h2 S hi hq
  | ret => exact fin h2 S hi hq
  | exit i => cases hq
  | _ => exact hq.elim
def mkSpecROM (Z : Seat) (f : FuncId) (bt : T) (ats : List T) (rt : T) (ms : Mask) (F : den bt → argD ats → Option (den bt × den rt)) (hF : ∀ b a y x, F b a = some (y, x) → ∀ os d, tmplM rt ms x = some (os, d) → ∀ h, ContractROM Z f (I.toDL h (encC bt b)) (I.toDL h (encC bt y)) (I.toDL h (encA ats a)) (d.toD h) os.length (osF os)) : FnSpecROM Z where
  f := f
  app := fun l A k => match decC bt l, decA ats A with
    | some b, some a => (F b a).bind fun p => (match tmplM rt ms p.2 with | some y => k (encC bt p.1) y.1 y.2 | none => none)
    | _, _ => none
  ok := fun l A k r h => by
    split at h
    · rename_i b a hb ha
      cases hx : F b a with
      | none => rw [hx] at h; cases h
      | some p =>
        obtain ⟨y, x⟩ := p
        rw [hx] at h
        simp only [Option.bind_some] at h
        split at h
        · rename_i q hq
          refine ⟨_, _, _, h, fun h => ?_⟩
          have hc := hF b a y x hx q.1 q.2 hq h
          exact ⟨decA_pure ha, nilIL_pure (decC_ok bt hb) h (by rw [toDL_enc]; exact encD_pure bt b), hc.purel', hc.cell', hc.poR, hc.pureE, hc.body, fun w κ args b T cs h1 h2 h3 h4 h5 h6 => hc.calls w κ args b T cs h1 h2 h3 (nilL_rep (nilIL_rel h (decC_ok bt hb)) h4) h5 (decA_rep ha h6)⟩
        · cases h
    · cases h
end
end
end Go.Ab
namespace Go.Proofs.Rescue07
open Go Go.Ab
open Go.Proofs.Ytoklcjdahicjmaa (iseat)
set_option linter.all false
set_option maxRecDepth 100000
noncomputable section
def RescueOfO_L16 (r_Paths : List Path) (r_Posts : List Post) (r_Water : List Span) (warm : Int) (i4 : Int) (s_word4 : Int) (r_Spots4 : Int) (r_Chills : List Chill) (live_Lo : Int) (live_Hi : Int) (kn_4 : Int → Int → Int → Int → (List Chill) → Int → Int → Option (Seed × Rescue)) : Option (Seed × Rescue) :=
 bif (decide (i4 > 0)) then
 chk (fitA (r_Chills.length + ([(⟨warm, ⟨live_Lo, live_Hi⟩⟩ : Chill)] : List Chill).length) 24) <|
 (From (⟨s_word4⟩ : Seed) 1 30).bind fun r10 =>
 (Below r10.1 20).bind fun r11 =>
 (Below r11.1 20).bind fun r12 =>
 kn_4 (w64 ((max (-30) warm) + r10.2)) (w64 (i4 - 1)) r12.1.word r_Spots4 (r_Chills ++ ([(⟨warm, ⟨live_Lo, live_Hi⟩⟩ : Chill)] : List Chill)) (w64 (live_Lo + r11.2)) (w64 ((w64 (live_Hi + 20)) + r12.2))
 else
 some ((⟨s_word4⟩ : Seed), (⟨r_Spots4, r_Paths, r_Posts, r_Water, r_Chills⟩ : Rescue))
def RescueOfO_L11 (it : It (Seed × Rescue)) (r_Paths : List Path) (r_Posts : List Post) (i3 : Int) (s_word3 : Int) (r_Spots3 : Int) (r_Water : List Span) (kn_3 : Int → Int → Int → (List Span) → Option (Seed × Rescue)) : Option (Seed × Rescue) :=
 bif (decide (i3 < r_Spots3)) then
 (Of (⟨s_word3⟩ : Seed) [20, 60]).bind fun r6 =>
 (SpanOf r6.1 (-20) r6.2).bind fun r7 =>
 chk (fitA (r_Water.length + ([r7.2] : List Span).length) 16) <|
 kn_3 (w64 (i3 + 1)) r7.1.word r_Spots3 (r_Water ++ ([r7.2] : List Span))
 else
 (SpanOf (⟨s_word3⟩ : Seed) 0 20).bind fun r8 =>
 (From r8.1 1 4).bind fun r9 =>
 it _ (fun (v_0 : (Unit × Unit × Unit × Int × Unit × Int × Unit) × ((Int × Unit) × (Int × Unit × Unit × Unit × (List Chill) × Unit) × (Int × Int × Unit) × Unit)) kn => RescueOfO_L16 r_Paths r_Posts r_Water v_0.1.2.2.2.1 v_0.1.2.2.2.2.2.1 v_0.2.1.1 v_0.2.2.1.1 v_0.2.2.1.2.2.2.2.1 v_0.2.2.2.1.1 v_0.2.2.2.1.2.1 (fun y0 y1 y2 y3 y4 y5 y6 => kn (((), (), (), y0, (), y1, ()), ((y2, ()), (y3, (), (), (), y4, ()), (y5, y6, ()), ())))) (((), (), (), (-400), (), r9.2, ()), ((r9.1.word, ()), (r_Spots3, (), (), (), [], ()), (r8.2.Lo, r8.2.Hi, ()), ()))
def RescueOfO_L7 (it : It (Seed × Rescue)) (r_Paths : List Path) (i2 : Int) (s_word2 : Int) (r_Spots2 : Int) (r_Posts : List Post) (kn_2 : Int → Int → Int → (List Post) → Option (Seed × Rescue)) : Option (Seed × Rescue) :=
 bif (decide (i2 > 0)) then
 (PostOf (⟨s_word2⟩ : Seed) r_Spots2).bind fun r5 =>
 chk (fitA (r_Posts.length + ([r5.2] : List Post).length) 72) <|
 kn_2 (w64 (i2 - 1)) r5.1.word r_Spots2 (r_Posts ++ ([r5.2] : List Post))
 else
 it _ (fun (v_0 : (Unit × Unit × Unit × Int × Unit) × ((Int × Unit) × (Int × Unit × Unit × (List Span) × Unit × Unit) × Unit)) kn => RescueOfO_L11 it r_Paths r_Posts v_0.1.2.2.2.1 v_0.2.1.1 v_0.2.2.1.1 v_0.2.2.1.2.2.2.1 (fun y0 y1 y2 y3 => kn (((), (), (), y0, ()), ((y1, ()), (y2, (), (), y3, (), ()), ())))) (((), (), (), 0, ()), ((s_word2, ()), (r_Spots2, (), (), [], (), ()), ()))
def RescueOfO_L16__2 (r_Paths : List Path) (r_Posts2 : List Post) (r_Water2 : List Span) (warm2 : Int) (i7 : Int) (s_word7 : Int) (r_Spots7 : Int) (r_Chills2 : List Chill) (live_Lo2 : Int) (live_Hi2 : Int) (kn_7 : Int → Int → Int → Int → (List Chill) → Int → Int → Option (Seed × Rescue)) : Option (Seed × Rescue) :=
 bif (decide (i7 > 0)) then
 chk (fitA (r_Chills2.length + ([(⟨warm2, ⟨live_Lo2, live_Hi2⟩⟩ : Chill)] : List Chill).length) 24) <|
 (From (⟨s_word7⟩ : Seed) 1 30).bind fun r19 =>
 (Below r19.1 20).bind fun r20 =>
 (Below r20.1 20).bind fun r21 =>
 kn_7 (w64 ((max (-30) warm2) + r19.2)) (w64 (i7 - 1)) r21.1.word r_Spots7 (r_Chills2 ++ ([(⟨warm2, ⟨live_Lo2, live_Hi2⟩⟩ : Chill)] : List Chill)) (w64 (live_Lo2 + r20.2)) (w64 ((w64 (live_Hi2 + 20)) + r21.2))
 else
 some ((⟨s_word7⟩ : Seed), (⟨r_Spots7, r_Paths, r_Posts2, r_Water2, r_Chills2⟩ : Rescue))
def RescueOfO_L11__2 (it : It (Seed × Rescue)) (r_Paths : List Path) (r_Posts2 : List Post) (i6 : Int) (s_word6 : Int) (r_Spots6 : Int) (r_Water2 : List Span) (kn_6 : Int → Int → Int → (List Span) → Option (Seed × Rescue)) : Option (Seed × Rescue) :=
 bif (decide (i6 < r_Spots6)) then
 (Of (⟨s_word6⟩ : Seed) [20, 60]).bind fun r15 =>
 (SpanOf r15.1 (-20) r15.2).bind fun r16 =>
 chk (fitA (r_Water2.length + ([r16.2] : List Span).length) 16) <|
 kn_6 (w64 (i6 + 1)) r16.1.word r_Spots6 (r_Water2 ++ ([r16.2] : List Span))
 else
 (SpanOf (⟨s_word6⟩ : Seed) 0 20).bind fun r17 =>
 (From r17.1 1 4).bind fun r18 =>
 it _ (fun (v_0 : (Unit × Unit × Unit × Int × Unit × Int × Unit) × ((Int × Unit) × (Int × Unit × Unit × Unit × (List Chill) × Unit) × (Int × Int × Unit) × Unit)) kn => RescueOfO_L16__2 r_Paths r_Posts2 r_Water2 v_0.1.2.2.2.1 v_0.1.2.2.2.2.2.1 v_0.2.1.1 v_0.2.2.1.1 v_0.2.2.1.2.2.2.2.1 v_0.2.2.2.1.1 v_0.2.2.2.1.2.1 (fun y0 y1 y2 y3 y4 y5 y6 => kn (((), (), (), y0, (), y1, ()), ((y2, ()), (y3, (), (), (), y4, ()), (y5, y6, ()), ())))) (((), (), (), (-400), (), r18.2, ()), ((r18.1.word, ()), (r_Spots6, (), (), (), [], ()), (r17.2.Lo, r17.2.Hi, ()), ()))
def RescueOfO_L7__2 (it : It (Seed × Rescue)) (r_Paths : List Path) (i5 : Int) (s_word5 : Int) (r_Spots5 : Int) (r_Posts2 : List Post) (kn_5 : Int → Int → Int → (List Post) → Option (Seed × Rescue)) : Option (Seed × Rescue) :=
 bif (decide (i5 > 0)) then
 (PostOf (⟨s_word5⟩ : Seed) r_Spots5).bind fun r14 =>
 chk (fitA (r_Posts2.length + ([r14.2] : List Post).length) 72) <|
 kn_5 (w64 (i5 - 1)) r14.1.word r_Spots5 (r_Posts2 ++ ([r14.2] : List Post))
 else
 it _ (fun (v_0 : (Unit × Unit × Unit × Int × Unit) × ((Int × Unit) × (Int × Unit × Unit × (List Span) × Unit × Unit) × Unit)) kn => RescueOfO_L11__2 it r_Paths r_Posts2 v_0.1.2.2.2.1 v_0.2.1.1 v_0.2.2.1.1 v_0.2.2.1.2.2.2.1 (fun y0 y1 y2 y3 => kn (((), (), (), y0, ()), ((y1, ()), (y2, (), (), y3, (), ()), ())))) (((), (), (), 0, ()), ((s_word5, ()), (r_Spots5, (), (), [], (), ()), ()))
def RescueOfO_L3 (it : It (Seed × Rescue)) (posts : Int) (i : Int) (s_word : Int) (r_Spots : Int) (r_Paths : List Path) (kn_ : Int → Int → Int → (List Path) → Option (Seed × Rescue)) : Option (Seed × Rescue) :=
 bif (decide (i > 0)) then
 bif (decide (r_Spots > 1)) then
 (PathOf (⟨s_word⟩ : Seed) r_Spots).bind fun r3 =>
 chk (fitA (r_Paths.length + ([r3.2] : List Path).length) 40) <|
 kn_ (w64 (i - 1)) r3.1.word r_Spots (r_Paths ++ ([r3.2] : List Path))
 else
 (Below (⟨s_word⟩ : Seed) (w64 (posts + 1))).bind fun r4 =>
 it _ (fun (v_0 : (Unit × Unit × Unit × Int × Unit) × ((Int × Unit) × (Int × Unit × (List Post) × Unit × Unit × Unit) × Unit)) kn => RescueOfO_L7 it r_Paths v_0.1.2.2.2.1 v_0.2.1.1 v_0.2.2.1.1 v_0.2.2.1.2.2.1 (fun y0 y1 y2 y3 => kn (((), (), (), y0, ()), ((y1, ()), (y2, (), y3, (), (), ()), ())))) (((), (), (), r4.2, ()), ((r4.1.word, ()), (r_Spots, (), [], (), (), ()), ()))
 else
 (Below (⟨s_word⟩ : Seed) (w64 (posts + 1))).bind fun r13 =>
 it _ (fun (v_0 : (Unit × Unit × Unit × Int × Unit) × ((Int × Unit) × (Int × Unit × (List Post) × Unit × Unit × Unit) × Unit)) kn => RescueOfO_L7__2 it r_Paths v_0.1.2.2.2.1 v_0.2.1.1 v_0.2.2.1.1 v_0.2.2.1.2.2.1 (fun y0 y1 y2 y3 => kn (((), (), (), y0, ()), ((y1, ()), (y2, (), y3, (), (), ()), ())))) (((), (), (), r13.2, ()), ((r13.1.word, ()), (r_Spots, (), [], (), (), ()), ()))
def RescueOfO' (it : It (Seed × Rescue)) (s : Seed) (spots : Int) (posts : Int) : Option (Seed × Rescue) :=
 (From s 1 spots).bind fun r =>
 (Below r.1 (w64 (3 * r.2))).bind fun r2 =>
 it _ (fun (v_0 : (Unit × Unit × Unit × Int × Unit) × ((Int × Unit) × (Int × (List Path) × Unit × Unit × Unit × Unit) × Unit)) kn => RescueOfO_L3 it posts v_0.1.2.2.2.1 v_0.2.1.1 v_0.2.2.1.1 v_0.2.2.1.2.1 (fun y0 y1 y2 y3 => kn (((), (), (), y0, ()), ((y1, ()), (y2, y3, (), (), (), ()), ())))) (((), (), (), r2.2, ()), ((r2.1.word, ()), (r.2, [], (), (), (), ()), ()))
def RescueOfO : Seed → Int → Int → Option (Seed × Rescue) := opq (fun s spots posts => RescueOfO' itN s spots posts)
theorem RescueOfO_eq (s : Seed) (spots : Int) (posts : Int) : RescueOfO s spots posts = RescueOfO' itN s spots posts := by unfold RescueOfO; rw [opq_eq]
def E19o : FEnv iseat := ⟨⟨108, [], [sp40, sp20, sp53, sp52, sp39, sp57], [], [], [], [], [], [], [], [], [38, 55, 68, 71, 87], [0], true⟩, [(3, ⟨⟨[(0, .bx 0 0), (6, .bx 6 0), (7, .bx 7 0), (8, .v (.int .i64))], [(0, [.v (.int .u64)]), (7, [.v (.int .i64), .os 39 55 .Path, .nilc, .nilc, .nilc])]⟩, [2], [6], []⟩), (7, ⟨⟨[(0, .bx 0 0), (6, .bx 6 0), (7, .bx 7 0), (9, .v (.int .i64))], [(0, [.v (.int .u64)]), (7, [.v (.int .i64), .osr 39, .os 56 57 .Post, .nilc, .nilc])]⟩, [], [6, 39], []⟩), (11, ⟨⟨[(0, .bx 0 0), (6, .bx 6 0), (7, .bx 7 0), (10, .v (.int .i64))], [(0, [.v (.int .u64)]), (7, [.v (.int .i64), .osr 39, .osr 56, .os 72 51 .Span, .nilc])]⟩, [], [6, 39, 56], []⟩), (16, ⟨⟨[(0, .bx 0 0), (6, .bx 6 0), (7, .bx 7 0), (11, .v (.int .i64)), (12, .bx 12 0), (13, .v (.int .i64))], [(0, [.v (.int .u64)]), (7, [.v (.int .i64), .osr 39, .osr 56, .osr 72, .os 88 94 .Chill]), (12, [.v (.int .i64), .v (.int .i64)])]⟩, [], [6, 39, 56, 72], []⟩)]⟩
theorem e19o (it : It (Seed × Rescue)) (s : Seed) (spots : Int) (posts : Int) : fnRunROM (bt := .Seed) .Rescue [none, some (55, .Path), some (57, .Post), some (51, .Span), some (94, .Chill)] it E19o (bodyOf Try.f19) Try.f19.results.toList (encC .Seed s) (encA [.int .i64, .int .i64] (spots, posts, ())) = RescueOfO' it s spots posts := by kernel_rfl
def sp19o : FnSpecROM iseat.toSeat := mkSpecROM iseat.toSeat 19 .Seed [.int .i64, .int .i64] .Rescue [none, some (55, .Path), some (57, .Post), some (51, .Span), some (94, .Chill)] (fun b a => RescueOfO b a.1 a.2.1) (fun b a y x hx os d hd h => fn_contractROM (Z := iseat) (bt := .Seed) (ats := [.int .i64, .int .i64]) (E := E19o) (fn := Try.f19) (c := bodyOf Try.f19) Try.func19 (by kernel_rfl) (by kernel_rfl) (by kernel_rfl) (by kernel_rfl) rfl ((e19o itN b a.1 a.2.1).trans ((RescueOfO_eq b a.1 a.2.1).symm.trans hx)) hd h)
def RescueChecks_L11 (r : Rescue) (r6 : (Seed × Rescue)) (r8 : (Seed × Int)) (p : Path) (r10 : (Seed × Int)) (q : Post) (post : Int) (r11 : (Seed × Int)) (i : Int) (kn_ : Int → Option Bool) : Option Bool :=
 bif (decide (i < (([r, (⟨r6.2.Spots, (r6.2.Paths.set r8.2.toNat p), (r6.2.Posts.set r10.2.toNat q), r6.2.Water, r6.2.Chills⟩ : Rescue), (⟨r6.2.Spots, (r6.2.Paths.set r8.2.toNat p), (r6.2.Posts.set r10.2.toNat q), r6.2.Water, r6.2.Chills⟩ : Rescue)] : List Rescue).length : Int))) then
 chk (decide (0 ≤ i) && decide (i < (([r, (⟨r6.2.Spots, (r6.2.Paths.set r8.2.toNat p), (r6.2.Posts.set r10.2.toNat q), r6.2.Water, r6.2.Chills⟩ : Rescue), (⟨r6.2.Spots, (r6.2.Paths.set r8.2.toNat p), (r6.2.Posts.set r10.2.toNat q), r6.2.Water, r6.2.Chills⟩ : Rescue)] : List Rescue).length : Int))) <|
 chk (decide (i.toNat < ([r, (⟨r6.2.Spots, (r6.2.Paths.set r8.2.toNat p), (r6.2.Posts.set r10.2.toNat q), r6.2.Water, r6.2.Chills⟩ : Rescue), (⟨r6.2.Spots, (r6.2.Paths.set r8.2.toNat p), (r6.2.Posts.set r10.2.toNat q), r6.2.Water, r6.2.Chills⟩ : Rescue)] : List Rescue).length)) <|
 chk (decide (0 ≤ i) && decide (i < ([post, r11.2, post].length : Int))) <|
 chk (decide (i.toNat < [post, r11.2, post].length)) <|
 (pGo (([r, (⟨r6.2.Spots, (r6.2.Paths.set r8.2.toNat p), (r6.2.Posts.set r10.2.toNat q), r6.2.Water, r6.2.Chills⟩ : Rescue), (⟨r6.2.Spots, (r6.2.Paths.set r8.2.toNat p), (r6.2.Posts.set r10.2.toNat q), r6.2.Water, r6.2.Chills⟩ : Rescue)] : List Rescue).getD i.toNat dfltRescue) ([post, r11.2, post].getD i.toNat 0)).bind fun r12 =>
 chk (decide (0 ≤ i) && decide (i < (([r, (⟨r6.2.Spots, (r6.2.Paths.set r8.2.toNat p), (r6.2.Posts.set r10.2.toNat q), r6.2.Water, r6.2.Chills⟩ : Rescue), (⟨r6.2.Spots, (r6.2.Paths.set r8.2.toNat p), (r6.2.Posts.set r10.2.toNat q), r6.2.Water, r6.2.Chills⟩ : Rescue)] : List Rescue).length : Int))) <|
 chk (decide (i.toNat < ([r, (⟨r6.2.Spots, (r6.2.Paths.set r8.2.toNat p), (r6.2.Posts.set r10.2.toNat q), r6.2.Water, r6.2.Chills⟩ : Rescue), (⟨r6.2.Spots, (r6.2.Paths.set r8.2.toNat p), (r6.2.Posts.set r10.2.toNat q), r6.2.Water, r6.2.Chills⟩ : Rescue)] : List Rescue).length)) <|
 chk (decide (0 ≤ i) && decide (i < ([post, r11.2, post].length : Int))) <|
 chk (decide (i.toNat < [post, r11.2, post].length)) <|
 (rGo (([r, (⟨r6.2.Spots, (r6.2.Paths.set r8.2.toNat p), (r6.2.Posts.set r10.2.toNat q), r6.2.Water, r6.2.Chills⟩ : Rescue), (⟨r6.2.Spots, (r6.2.Paths.set r8.2.toNat p), (r6.2.Posts.set r10.2.toNat q), r6.2.Water, r6.2.Chills⟩ : Rescue)] : List Rescue).getD i.toNat dfltRescue) ([post, r11.2, post].getD i.toNat 0)).bind fun r13 =>
 chk (decide (0 ≤ i) && decide (i < (([r, (⟨r6.2.Spots, (r6.2.Paths.set r8.2.toNat p), (r6.2.Posts.set r10.2.toNat q), r6.2.Water, r6.2.Chills⟩ : Rescue), (⟨r6.2.Spots, (r6.2.Paths.set r8.2.toNat p), (r6.2.Posts.set r10.2.toNat q), r6.2.Water, r6.2.Chills⟩ : Rescue)] : List Rescue).length : Int))) <|
 chk (decide (i.toNat < ([r, (⟨r6.2.Spots, (r6.2.Paths.set r8.2.toNat p), (r6.2.Posts.set r10.2.toNat q), r6.2.Water, r6.2.Chills⟩ : Rescue), (⟨r6.2.Spots, (r6.2.Paths.set r8.2.toNat p), (r6.2.Posts.set r10.2.toNat q), r6.2.Water, r6.2.Chills⟩ : Rescue)] : List Rescue).length)) <|
 (pLives (([r, (⟨r6.2.Spots, (r6.2.Paths.set r8.2.toNat p), (r6.2.Posts.set r10.2.toNat q), r6.2.Water, r6.2.Chills⟩ : Rescue), (⟨r6.2.Spots, (r6.2.Paths.set r8.2.toNat p), (r6.2.Posts.set r10.2.toNat q), r6.2.Water, r6.2.Chills⟩ : Rescue)] : List Rescue).getD i.toNat dfltRescue)).bind fun r14 =>
 chk (decide (0 ≤ i) && decide (i < (([r, (⟨r6.2.Spots, (r6.2.Paths.set r8.2.toNat p), (r6.2.Posts.set r10.2.toNat q), r6.2.Water, r6.2.Chills⟩ : Rescue), (⟨r6.2.Spots, (r6.2.Paths.set r8.2.toNat p), (r6.2.Posts.set r10.2.toNat q), r6.2.Water, r6.2.Chills⟩ : Rescue)] : List Rescue).length : Int))) <|
 chk (decide (i.toNat < ([r, (⟨r6.2.Spots, (r6.2.Paths.set r8.2.toNat p), (r6.2.Posts.set r10.2.toNat q), r6.2.Water, r6.2.Chills⟩ : Rescue), (⟨r6.2.Spots, (r6.2.Paths.set r8.2.toNat p), (r6.2.Posts.set r10.2.toNat q), r6.2.Water, r6.2.Chills⟩ : Rescue)] : List Rescue).length)) <|
 (rLives (([r, (⟨r6.2.Spots, (r6.2.Paths.set r8.2.toNat p), (r6.2.Posts.set r10.2.toNat q), r6.2.Water, r6.2.Chills⟩ : Rescue), (⟨r6.2.Spots, (r6.2.Paths.set r8.2.toNat p), (r6.2.Posts.set r10.2.toNat q), r6.2.Water, r6.2.Chills⟩ : Rescue)] : List Rescue).getD i.toNat dfltRescue)).bind fun r15 =>
 chk (decide (0 ≤ i) && decide (i < (([r, (⟨r6.2.Spots, (r6.2.Paths.set r8.2.toNat p), (r6.2.Posts.set r10.2.toNat q), r6.2.Water, r6.2.Chills⟩ : Rescue), (⟨r6.2.Spots, (r6.2.Paths.set r8.2.toNat p), (r6.2.Posts.set r10.2.toNat q), r6.2.Water, r6.2.Chills⟩ : Rescue)] : List Rescue).length : Int))) <|
 chk (decide (i.toNat < ([r, (⟨r6.2.Spots, (r6.2.Paths.set r8.2.toNat p), (r6.2.Posts.set r10.2.toNat q), r6.2.Water, r6.2.Chills⟩ : Rescue), (⟨r6.2.Spots, (r6.2.Paths.set r8.2.toNat p), (r6.2.Posts.set r10.2.toNat q), r6.2.Water, r6.2.Chills⟩ : Rescue)] : List Rescue).length)) <|
 (pCheck (([r, (⟨r6.2.Spots, (r6.2.Paths.set r8.2.toNat p), (r6.2.Posts.set r10.2.toNat q), r6.2.Water, r6.2.Chills⟩ : Rescue), (⟨r6.2.Spots, (r6.2.Paths.set r8.2.toNat p), (r6.2.Posts.set r10.2.toNat q), r6.2.Water, r6.2.Chills⟩ : Rescue)] : List Rescue).getD i.toNat dfltRescue)).bind fun r16 =>
 chk (decide (0 ≤ i) && decide (i < (([r, (⟨r6.2.Spots, (r6.2.Paths.set r8.2.toNat p), (r6.2.Posts.set r10.2.toNat q), r6.2.Water, r6.2.Chills⟩ : Rescue), (⟨r6.2.Spots, (r6.2.Paths.set r8.2.toNat p), (r6.2.Posts.set r10.2.toNat q), r6.2.Water, r6.2.Chills⟩ : Rescue)] : List Rescue).length : Int))) <|
 chk (decide (i.toNat < ([r, (⟨r6.2.Spots, (r6.2.Paths.set r8.2.toNat p), (r6.2.Posts.set r10.2.toNat q), r6.2.Water, r6.2.Chills⟩ : Rescue), (⟨r6.2.Spots, (r6.2.Paths.set r8.2.toNat p), (r6.2.Posts.set r10.2.toNat q), r6.2.Water, r6.2.Chills⟩ : Rescue)] : List Rescue).length)) <|
 (rCheck (([r, (⟨r6.2.Spots, (r6.2.Paths.set r8.2.toNat p), (r6.2.Posts.set r10.2.toNat q), r6.2.Water, r6.2.Chills⟩ : Rescue), (⟨r6.2.Spots, (r6.2.Paths.set r8.2.toNat p), (r6.2.Posts.set r10.2.toNat q), r6.2.Water, r6.2.Chills⟩ : Rescue)] : List Rescue).getD i.toNat dfltRescue)).bind fun r17 =>
 bif (r16 != r17) then
 some false
 else
 bif (r12.2 != r13.2) then
 some false
 else
 bif (r14.2 != r15.2) then
 some false
 else
 (SameSpans r12.1 r13.1).bind fun r18 =>
 bif (!r18) then
 some false
 else
 (SameSpans r14.1 r15.1).bind fun r19 =>
 bif (!r19) then
 some false
 else
 kn_ (w64 (i + 1))
 else
 (awake).bind fun r20 =>
 some r20
def RescueChecks_L11__2 (r : Rescue) (r6 : (Seed × Rescue)) (r8 : (Seed × Int)) (p : Path) (post : Int) (r21 : (Seed × Int)) (i2 : Int) (kn_2 : Int → Option Bool) : Option Bool :=
 bif (decide (i2 < (([r, (⟨r6.2.Spots, (r6.2.Paths.set r8.2.toNat p), r6.2.Posts, r6.2.Water, r6.2.Chills⟩ : Rescue), (⟨r6.2.Spots, (r6.2.Paths.set r8.2.toNat p), r6.2.Posts, r6.2.Water, r6.2.Chills⟩ : Rescue)] : List Rescue).length : Int))) then
 chk (decide (0 ≤ i2) && decide (i2 < (([r, (⟨r6.2.Spots, (r6.2.Paths.set r8.2.toNat p), r6.2.Posts, r6.2.Water, r6.2.Chills⟩ : Rescue), (⟨r6.2.Spots, (r6.2.Paths.set r8.2.toNat p), r6.2.Posts, r6.2.Water, r6.2.Chills⟩ : Rescue)] : List Rescue).length : Int))) <|
 chk (decide (i2.toNat < ([r, (⟨r6.2.Spots, (r6.2.Paths.set r8.2.toNat p), r6.2.Posts, r6.2.Water, r6.2.Chills⟩ : Rescue), (⟨r6.2.Spots, (r6.2.Paths.set r8.2.toNat p), r6.2.Posts, r6.2.Water, r6.2.Chills⟩ : Rescue)] : List Rescue).length)) <|
 chk (decide (0 ≤ i2) && decide (i2 < ([post, r21.2, post].length : Int))) <|
 chk (decide (i2.toNat < [post, r21.2, post].length)) <|
 (pGo (([r, (⟨r6.2.Spots, (r6.2.Paths.set r8.2.toNat p), r6.2.Posts, r6.2.Water, r6.2.Chills⟩ : Rescue), (⟨r6.2.Spots, (r6.2.Paths.set r8.2.toNat p), r6.2.Posts, r6.2.Water, r6.2.Chills⟩ : Rescue)] : List Rescue).getD i2.toNat dfltRescue) ([post, r21.2, post].getD i2.toNat 0)).bind fun r22 =>
 chk (decide (0 ≤ i2) && decide (i2 < (([r, (⟨r6.2.Spots, (r6.2.Paths.set r8.2.toNat p), r6.2.Posts, r6.2.Water, r6.2.Chills⟩ : Rescue), (⟨r6.2.Spots, (r6.2.Paths.set r8.2.toNat p), r6.2.Posts, r6.2.Water, r6.2.Chills⟩ : Rescue)] : List Rescue).length : Int))) <|
 chk (decide (i2.toNat < ([r, (⟨r6.2.Spots, (r6.2.Paths.set r8.2.toNat p), r6.2.Posts, r6.2.Water, r6.2.Chills⟩ : Rescue), (⟨r6.2.Spots, (r6.2.Paths.set r8.2.toNat p), r6.2.Posts, r6.2.Water, r6.2.Chills⟩ : Rescue)] : List Rescue).length)) <|
 chk (decide (0 ≤ i2) && decide (i2 < ([post, r21.2, post].length : Int))) <|
 chk (decide (i2.toNat < [post, r21.2, post].length)) <|
 (rGo (([r, (⟨r6.2.Spots, (r6.2.Paths.set r8.2.toNat p), r6.2.Posts, r6.2.Water, r6.2.Chills⟩ : Rescue), (⟨r6.2.Spots, (r6.2.Paths.set r8.2.toNat p), r6.2.Posts, r6.2.Water, r6.2.Chills⟩ : Rescue)] : List Rescue).getD i2.toNat dfltRescue) ([post, r21.2, post].getD i2.toNat 0)).bind fun r23 =>
 chk (decide (0 ≤ i2) && decide (i2 < (([r, (⟨r6.2.Spots, (r6.2.Paths.set r8.2.toNat p), r6.2.Posts, r6.2.Water, r6.2.Chills⟩ : Rescue), (⟨r6.2.Spots, (r6.2.Paths.set r8.2.toNat p), r6.2.Posts, r6.2.Water, r6.2.Chills⟩ : Rescue)] : List Rescue).length : Int))) <|
 chk (decide (i2.toNat < ([r, (⟨r6.2.Spots, (r6.2.Paths.set r8.2.toNat p), r6.2.Posts, r6.2.Water, r6.2.Chills⟩ : Rescue), (⟨r6.2.Spots, (r6.2.Paths.set r8.2.toNat p), r6.2.Posts, r6.2.Water, r6.2.Chills⟩ : Rescue)] : List Rescue).length)) <|
 (pLives (([r, (⟨r6.2.Spots, (r6.2.Paths.set r8.2.toNat p), r6.2.Posts, r6.2.Water, r6.2.Chills⟩ : Rescue), (⟨r6.2.Spots, (r6.2.Paths.set r8.2.toNat p), r6.2.Posts, r6.2.Water, r6.2.Chills⟩ : Rescue)] : List Rescue).getD i2.toNat dfltRescue)).bind fun r24 =>
 chk (decide (0 ≤ i2) && decide (i2 < (([r, (⟨r6.2.Spots, (r6.2.Paths.set r8.2.toNat p), r6.2.Posts, r6.2.Water, r6.2.Chills⟩ : Rescue), (⟨r6.2.Spots, (r6.2.Paths.set r8.2.toNat p), r6.2.Posts, r6.2.Water, r6.2.Chills⟩ : Rescue)] : List Rescue).length : Int))) <|
 chk (decide (i2.toNat < ([r, (⟨r6.2.Spots, (r6.2.Paths.set r8.2.toNat p), r6.2.Posts, r6.2.Water, r6.2.Chills⟩ : Rescue), (⟨r6.2.Spots, (r6.2.Paths.set r8.2.toNat p), r6.2.Posts, r6.2.Water, r6.2.Chills⟩ : Rescue)] : List Rescue).length)) <|
 (rLives (([r, (⟨r6.2.Spots, (r6.2.Paths.set r8.2.toNat p), r6.2.Posts, r6.2.Water, r6.2.Chills⟩ : Rescue), (⟨r6.2.Spots, (r6.2.Paths.set r8.2.toNat p), r6.2.Posts, r6.2.Water, r6.2.Chills⟩ : Rescue)] : List Rescue).getD i2.toNat dfltRescue)).bind fun r25 =>
 chk (decide (0 ≤ i2) && decide (i2 < (([r, (⟨r6.2.Spots, (r6.2.Paths.set r8.2.toNat p), r6.2.Posts, r6.2.Water, r6.2.Chills⟩ : Rescue), (⟨r6.2.Spots, (r6.2.Paths.set r8.2.toNat p), r6.2.Posts, r6.2.Water, r6.2.Chills⟩ : Rescue)] : List Rescue).length : Int))) <|
 chk (decide (i2.toNat < ([r, (⟨r6.2.Spots, (r6.2.Paths.set r8.2.toNat p), r6.2.Posts, r6.2.Water, r6.2.Chills⟩ : Rescue), (⟨r6.2.Spots, (r6.2.Paths.set r8.2.toNat p), r6.2.Posts, r6.2.Water, r6.2.Chills⟩ : Rescue)] : List Rescue).length)) <|
 (pCheck (([r, (⟨r6.2.Spots, (r6.2.Paths.set r8.2.toNat p), r6.2.Posts, r6.2.Water, r6.2.Chills⟩ : Rescue), (⟨r6.2.Spots, (r6.2.Paths.set r8.2.toNat p), r6.2.Posts, r6.2.Water, r6.2.Chills⟩ : Rescue)] : List Rescue).getD i2.toNat dfltRescue)).bind fun r26 =>
 chk (decide (0 ≤ i2) && decide (i2 < (([r, (⟨r6.2.Spots, (r6.2.Paths.set r8.2.toNat p), r6.2.Posts, r6.2.Water, r6.2.Chills⟩ : Rescue), (⟨r6.2.Spots, (r6.2.Paths.set r8.2.toNat p), r6.2.Posts, r6.2.Water, r6.2.Chills⟩ : Rescue)] : List Rescue).length : Int))) <|
 chk (decide (i2.toNat < ([r, (⟨r6.2.Spots, (r6.2.Paths.set r8.2.toNat p), r6.2.Posts, r6.2.Water, r6.2.Chills⟩ : Rescue), (⟨r6.2.Spots, (r6.2.Paths.set r8.2.toNat p), r6.2.Posts, r6.2.Water, r6.2.Chills⟩ : Rescue)] : List Rescue).length)) <|
 (rCheck (([r, (⟨r6.2.Spots, (r6.2.Paths.set r8.2.toNat p), r6.2.Posts, r6.2.Water, r6.2.Chills⟩ : Rescue), (⟨r6.2.Spots, (r6.2.Paths.set r8.2.toNat p), r6.2.Posts, r6.2.Water, r6.2.Chills⟩ : Rescue)] : List Rescue).getD i2.toNat dfltRescue)).bind fun r27 =>
 bif (r26 != r27) then
 some false
 else
 bif (r22.2 != r23.2) then
 some false
 else
 bif (r24.2 != r25.2) then
 some false
 else
 (SameSpans r22.1 r23.1).bind fun r28 =>
 bif (!r28) then
 some false
 else
 (SameSpans r24.1 r25.1).bind fun r29 =>
 bif (!r29) then
 some false
 else
 kn_2 (w64 (i2 + 1))
 else
 (awake).bind fun r30 =>
 some r30
def RescueChecks_L11__3 (r : Rescue) (r6 : (Seed × Rescue)) (r8 : (Seed × Int)) (p : Path) (post : Int) (r31 : (Seed × Int)) (i3 : Int) (kn_3 : Int → Option Bool) : Option Bool :=
 bif (decide (i3 < (([r, (⟨r6.2.Spots, (r6.2.Paths.set r8.2.toNat p), r6.2.Posts, r6.2.Water, r6.2.Chills⟩ : Rescue), (⟨r6.2.Spots, (r6.2.Paths.set r8.2.toNat p), r6.2.Posts, r6.2.Water, r6.2.Chills⟩ : Rescue)] : List Rescue).length : Int))) then
 chk (decide (0 ≤ i3) && decide (i3 < (([r, (⟨r6.2.Spots, (r6.2.Paths.set r8.2.toNat p), r6.2.Posts, r6.2.Water, r6.2.Chills⟩ : Rescue), (⟨r6.2.Spots, (r6.2.Paths.set r8.2.toNat p), r6.2.Posts, r6.2.Water, r6.2.Chills⟩ : Rescue)] : List Rescue).length : Int))) <|
 chk (decide (i3.toNat < ([r, (⟨r6.2.Spots, (r6.2.Paths.set r8.2.toNat p), r6.2.Posts, r6.2.Water, r6.2.Chills⟩ : Rescue), (⟨r6.2.Spots, (r6.2.Paths.set r8.2.toNat p), r6.2.Posts, r6.2.Water, r6.2.Chills⟩ : Rescue)] : List Rescue).length)) <|
 chk (decide (0 ≤ i3) && decide (i3 < ([post, r31.2, post].length : Int))) <|
 chk (decide (i3.toNat < [post, r31.2, post].length)) <|
 (pGo (([r, (⟨r6.2.Spots, (r6.2.Paths.set r8.2.toNat p), r6.2.Posts, r6.2.Water, r6.2.Chills⟩ : Rescue), (⟨r6.2.Spots, (r6.2.Paths.set r8.2.toNat p), r6.2.Posts, r6.2.Water, r6.2.Chills⟩ : Rescue)] : List Rescue).getD i3.toNat dfltRescue) ([post, r31.2, post].getD i3.toNat 0)).bind fun r32 =>
 chk (decide (0 ≤ i3) && decide (i3 < (([r, (⟨r6.2.Spots, (r6.2.Paths.set r8.2.toNat p), r6.2.Posts, r6.2.Water, r6.2.Chills⟩ : Rescue), (⟨r6.2.Spots, (r6.2.Paths.set r8.2.toNat p), r6.2.Posts, r6.2.Water, r6.2.Chills⟩ : Rescue)] : List Rescue).length : Int))) <|
 chk (decide (i3.toNat < ([r, (⟨r6.2.Spots, (r6.2.Paths.set r8.2.toNat p), r6.2.Posts, r6.2.Water, r6.2.Chills⟩ : Rescue), (⟨r6.2.Spots, (r6.2.Paths.set r8.2.toNat p), r6.2.Posts, r6.2.Water, r6.2.Chills⟩ : Rescue)] : List Rescue).length)) <|
 chk (decide (0 ≤ i3) && decide (i3 < ([post, r31.2, post].length : Int))) <|
 chk (decide (i3.toNat < [post, r31.2, post].length)) <|
 (rGo (([r, (⟨r6.2.Spots, (r6.2.Paths.set r8.2.toNat p), r6.2.Posts, r6.2.Water, r6.2.Chills⟩ : Rescue), (⟨r6.2.Spots, (r6.2.Paths.set r8.2.toNat p), r6.2.Posts, r6.2.Water, r6.2.Chills⟩ : Rescue)] : List Rescue).getD i3.toNat dfltRescue) ([post, r31.2, post].getD i3.toNat 0)).bind fun r33 =>
 chk (decide (0 ≤ i3) && decide (i3 < (([r, (⟨r6.2.Spots, (r6.2.Paths.set r8.2.toNat p), r6.2.Posts, r6.2.Water, r6.2.Chills⟩ : Rescue), (⟨r6.2.Spots, (r6.2.Paths.set r8.2.toNat p), r6.2.Posts, r6.2.Water, r6.2.Chills⟩ : Rescue)] : List Rescue).length : Int))) <|
 chk (decide (i3.toNat < ([r, (⟨r6.2.Spots, (r6.2.Paths.set r8.2.toNat p), r6.2.Posts, r6.2.Water, r6.2.Chills⟩ : Rescue), (⟨r6.2.Spots, (r6.2.Paths.set r8.2.toNat p), r6.2.Posts, r6.2.Water, r6.2.Chills⟩ : Rescue)] : List Rescue).length)) <|
 (pLives (([r, (⟨r6.2.Spots, (r6.2.Paths.set r8.2.toNat p), r6.2.Posts, r6.2.Water, r6.2.Chills⟩ : Rescue), (⟨r6.2.Spots, (r6.2.Paths.set r8.2.toNat p), r6.2.Posts, r6.2.Water, r6.2.Chills⟩ : Rescue)] : List Rescue).getD i3.toNat dfltRescue)).bind fun r34 =>
 chk (decide (0 ≤ i3) && decide (i3 < (([r, (⟨r6.2.Spots, (r6.2.Paths.set r8.2.toNat p), r6.2.Posts, r6.2.Water, r6.2.Chills⟩ : Rescue), (⟨r6.2.Spots, (r6.2.Paths.set r8.2.toNat p), r6.2.Posts, r6.2.Water, r6.2.Chills⟩ : Rescue)] : List Rescue).length : Int))) <|
 chk (decide (i3.toNat < ([r, (⟨r6.2.Spots, (r6.2.Paths.set r8.2.toNat p), r6.2.Posts, r6.2.Water, r6.2.Chills⟩ : Rescue), (⟨r6.2.Spots, (r6.2.Paths.set r8.2.toNat p), r6.2.Posts, r6.2.Water, r6.2.Chills⟩ : Rescue)] : List Rescue).length)) <|
 (rLives (([r, (⟨r6.2.Spots, (r6.2.Paths.set r8.2.toNat p), r6.2.Posts, r6.2.Water, r6.2.Chills⟩ : Rescue), (⟨r6.2.Spots, (r6.2.Paths.set r8.2.toNat p), r6.2.Posts, r6.2.Water, r6.2.Chills⟩ : Rescue)] : List Rescue).getD i3.toNat dfltRescue)).bind fun r35 =>
 chk (decide (0 ≤ i3) && decide (i3 < (([r, (⟨r6.2.Spots, (r6.2.Paths.set r8.2.toNat p), r6.2.Posts, r6.2.Water, r6.2.Chills⟩ : Rescue), (⟨r6.2.Spots, (r6.2.Paths.set r8.2.toNat p), r6.2.Posts, r6.2.Water, r6.2.Chills⟩ : Rescue)] : List Rescue).length : Int))) <|
 chk (decide (i3.toNat < ([r, (⟨r6.2.Spots, (r6.2.Paths.set r8.2.toNat p), r6.2.Posts, r6.2.Water, r6.2.Chills⟩ : Rescue), (⟨r6.2.Spots, (r6.2.Paths.set r8.2.toNat p), r6.2.Posts, r6.2.Water, r6.2.Chills⟩ : Rescue)] : List Rescue).length)) <|
 (pCheck (([r, (⟨r6.2.Spots, (r6.2.Paths.set r8.2.toNat p), r6.2.Posts, r6.2.Water, r6.2.Chills⟩ : Rescue), (⟨r6.2.Spots, (r6.2.Paths.set r8.2.toNat p), r6.2.Posts, r6.2.Water, r6.2.Chills⟩ : Rescue)] : List Rescue).getD i3.toNat dfltRescue)).bind fun r36 =>
 chk (decide (0 ≤ i3) && decide (i3 < (([r, (⟨r6.2.Spots, (r6.2.Paths.set r8.2.toNat p), r6.2.Posts, r6.2.Water, r6.2.Chills⟩ : Rescue), (⟨r6.2.Spots, (r6.2.Paths.set r8.2.toNat p), r6.2.Posts, r6.2.Water, r6.2.Chills⟩ : Rescue)] : List Rescue).length : Int))) <|
 chk (decide (i3.toNat < ([r, (⟨r6.2.Spots, (r6.2.Paths.set r8.2.toNat p), r6.2.Posts, r6.2.Water, r6.2.Chills⟩ : Rescue), (⟨r6.2.Spots, (r6.2.Paths.set r8.2.toNat p), r6.2.Posts, r6.2.Water, r6.2.Chills⟩ : Rescue)] : List Rescue).length)) <|
 (rCheck (([r, (⟨r6.2.Spots, (r6.2.Paths.set r8.2.toNat p), r6.2.Posts, r6.2.Water, r6.2.Chills⟩ : Rescue), (⟨r6.2.Spots, (r6.2.Paths.set r8.2.toNat p), r6.2.Posts, r6.2.Water, r6.2.Chills⟩ : Rescue)] : List Rescue).getD i3.toNat dfltRescue)).bind fun r37 =>
 bif (r36 != r37) then
 some false
 else
 bif (r32.2 != r33.2) then
 some false
 else
 bif (r34.2 != r35.2) then
 some false
 else
 (SameSpans r32.1 r33.1).bind fun r38 =>
 bif (!r38) then
 some false
 else
 (SameSpans r34.1 r35.1).bind fun r39 =>
 bif (!r39) then
 some false
 else
 kn_3 (w64 (i3 + 1))
 else
 (awake).bind fun r40 =>
 some r40
def RescueChecks_L11__4 (r : Rescue) (r6 : (Seed × Rescue)) (r42 : (Seed × Int)) (q : Post) (post : Int) (r43 : (Seed × Int)) (i4 : Int) (kn_4 : Int → Option Bool) : Option Bool :=
 bif (decide (i4 < (([r, (⟨r6.2.Spots, r6.2.Paths, (r6.2.Posts.set r42.2.toNat q), r6.2.Water, r6.2.Chills⟩ : Rescue), (⟨r6.2.Spots, r6.2.Paths, (r6.2.Posts.set r42.2.toNat q), r6.2.Water, r6.2.Chills⟩ : Rescue)] : List Rescue).length : Int))) then
 chk (decide (0 ≤ i4) && decide (i4 < (([r, (⟨r6.2.Spots, r6.2.Paths, (r6.2.Posts.set r42.2.toNat q), r6.2.Water, r6.2.Chills⟩ : Rescue), (⟨r6.2.Spots, r6.2.Paths, (r6.2.Posts.set r42.2.toNat q), r6.2.Water, r6.2.Chills⟩ : Rescue)] : List Rescue).length : Int))) <|
 chk (decide (i4.toNat < ([r, (⟨r6.2.Spots, r6.2.Paths, (r6.2.Posts.set r42.2.toNat q), r6.2.Water, r6.2.Chills⟩ : Rescue), (⟨r6.2.Spots, r6.2.Paths, (r6.2.Posts.set r42.2.toNat q), r6.2.Water, r6.2.Chills⟩ : Rescue)] : List Rescue).length)) <|
 chk (decide (0 ≤ i4) && decide (i4 < ([post, r43.2, post].length : Int))) <|
 chk (decide (i4.toNat < [post, r43.2, post].length)) <|
 (pGo (([r, (⟨r6.2.Spots, r6.2.Paths, (r6.2.Posts.set r42.2.toNat q), r6.2.Water, r6.2.Chills⟩ : Rescue), (⟨r6.2.Spots, r6.2.Paths, (r6.2.Posts.set r42.2.toNat q), r6.2.Water, r6.2.Chills⟩ : Rescue)] : List Rescue).getD i4.toNat dfltRescue) ([post, r43.2, post].getD i4.toNat 0)).bind fun r44 =>
 chk (decide (0 ≤ i4) && decide (i4 < (([r, (⟨r6.2.Spots, r6.2.Paths, (r6.2.Posts.set r42.2.toNat q), r6.2.Water, r6.2.Chills⟩ : Rescue), (⟨r6.2.Spots, r6.2.Paths, (r6.2.Posts.set r42.2.toNat q), r6.2.Water, r6.2.Chills⟩ : Rescue)] : List Rescue).length : Int))) <|
 chk (decide (i4.toNat < ([r, (⟨r6.2.Spots, r6.2.Paths, (r6.2.Posts.set r42.2.toNat q), r6.2.Water, r6.2.Chills⟩ : Rescue), (⟨r6.2.Spots, r6.2.Paths, (r6.2.Posts.set r42.2.toNat q), r6.2.Water, r6.2.Chills⟩ : Rescue)] : List Rescue).length)) <|
 chk (decide (0 ≤ i4) && decide (i4 < ([post, r43.2, post].length : Int))) <|
 chk (decide (i4.toNat < [post, r43.2, post].length)) <|
 (rGo (([r, (⟨r6.2.Spots, r6.2.Paths, (r6.2.Posts.set r42.2.toNat q), r6.2.Water, r6.2.Chills⟩ : Rescue), (⟨r6.2.Spots, r6.2.Paths, (r6.2.Posts.set r42.2.toNat q), r6.2.Water, r6.2.Chills⟩ : Rescue)] : List Rescue).getD i4.toNat dfltRescue) ([post, r43.2, post].getD i4.toNat 0)).bind fun r45 =>
 chk (decide (0 ≤ i4) && decide (i4 < (([r, (⟨r6.2.Spots, r6.2.Paths, (r6.2.Posts.set r42.2.toNat q), r6.2.Water, r6.2.Chills⟩ : Rescue), (⟨r6.2.Spots, r6.2.Paths, (r6.2.Posts.set r42.2.toNat q), r6.2.Water, r6.2.Chills⟩ : Rescue)] : List Rescue).length : Int))) <|
 chk (decide (i4.toNat < ([r, (⟨r6.2.Spots, r6.2.Paths, (r6.2.Posts.set r42.2.toNat q), r6.2.Water, r6.2.Chills⟩ : Rescue), (⟨r6.2.Spots, r6.2.Paths, (r6.2.Posts.set r42.2.toNat q), r6.2.Water, r6.2.Chills⟩ : Rescue)] : List Rescue).length)) <|
 (pLives (([r, (⟨r6.2.Spots, r6.2.Paths, (r6.2.Posts.set r42.2.toNat q), r6.2.Water, r6.2.Chills⟩ : Rescue), (⟨r6.2.Spots, r6.2.Paths, (r6.2.Posts.set r42.2.toNat q), r6.2.Water, r6.2.Chills⟩ : Rescue)] : List Rescue).getD i4.toNat dfltRescue)).bind fun r46 =>
 chk (decide (0 ≤ i4) && decide (i4 < (([r, (⟨r6.2.Spots, r6.2.Paths, (r6.2.Posts.set r42.2.toNat q), r6.2.Water, r6.2.Chills⟩ : Rescue), (⟨r6.2.Spots, r6.2.Paths, (r6.2.Posts.set r42.2.toNat q), r6.2.Water, r6.2.Chills⟩ : Rescue)] : List Rescue).length : Int))) <|
 chk (decide (i4.toNat < ([r, (⟨r6.2.Spots, r6.2.Paths, (r6.2.Posts.set r42.2.toNat q), r6.2.Water, r6.2.Chills⟩ : Rescue), (⟨r6.2.Spots, r6.2.Paths, (r6.2.Posts.set r42.2.toNat q), r6.2.Water, r6.2.Chills⟩ : Rescue)] : List Rescue).length)) <|
 (rLives (([r, (⟨r6.2.Spots, r6.2.Paths, (r6.2.Posts.set r42.2.toNat q), r6.2.Water, r6.2.Chills⟩ : Rescue), (⟨r6.2.Spots, r6.2.Paths, (r6.2.Posts.set r42.2.toNat q), r6.2.Water, r6.2.Chills⟩ : Rescue)] : List Rescue).getD i4.toNat dfltRescue)).bind fun r47 =>
 chk (decide (0 ≤ i4) && decide (i4 < (([r, (⟨r6.2.Spots, r6.2.Paths, (r6.2.Posts.set r42.2.toNat q), r6.2.Water, r6.2.Chills⟩ : Rescue), (⟨r6.2.Spots, r6.2.Paths, (r6.2.Posts.set r42.2.toNat q), r6.2.Water, r6.2.Chills⟩ : Rescue)] : List Rescue).length : Int))) <|
 chk (decide (i4.toNat < ([r, (⟨r6.2.Spots, r6.2.Paths, (r6.2.Posts.set r42.2.toNat q), r6.2.Water, r6.2.Chills⟩ : Rescue), (⟨r6.2.Spots, r6.2.Paths, (r6.2.Posts.set r42.2.toNat q), r6.2.Water, r6.2.Chills⟩ : Rescue)] : List Rescue).length)) <|
 (pCheck (([r, (⟨r6.2.Spots, r6.2.Paths, (r6.2.Posts.set r42.2.toNat q), r6.2.Water, r6.2.Chills⟩ : Rescue), (⟨r6.2.Spots, r6.2.Paths, (r6.2.Posts.set r42.2.toNat q), r6.2.Water, r6.2.Chills⟩ : Rescue)] : List Rescue).getD i4.toNat dfltRescue)).bind fun r48 =>
 chk (decide (0 ≤ i4) && decide (i4 < (([r, (⟨r6.2.Spots, r6.2.Paths, (r6.2.Posts.set r42.2.toNat q), r6.2.Water, r6.2.Chills⟩ : Rescue), (⟨r6.2.Spots, r6.2.Paths, (r6.2.Posts.set r42.2.toNat q), r6.2.Water, r6.2.Chills⟩ : Rescue)] : List Rescue).length : Int))) <|
 chk (decide (i4.toNat < ([r, (⟨r6.2.Spots, r6.2.Paths, (r6.2.Posts.set r42.2.toNat q), r6.2.Water, r6.2.Chills⟩ : Rescue), (⟨r6.2.Spots, r6.2.Paths, (r6.2.Posts.set r42.2.toNat q), r6.2.Water, r6.2.Chills⟩ : Rescue)] : List Rescue).length)) <|
 (rCheck (([r, (⟨r6.2.Spots, r6.2.Paths, (r6.2.Posts.set r42.2.toNat q), r6.2.Water, r6.2.Chills⟩ : Rescue), (⟨r6.2.Spots, r6.2.Paths, (r6.2.Posts.set r42.2.toNat q), r6.2.Water, r6.2.Chills⟩ : Rescue)] : List Rescue).getD i4.toNat dfltRescue)).bind fun r49 =>
 bif (r48 != r49) then
 some false
 else
 bif (r44.2 != r45.2) then
 some false
 else
 bif (r46.2 != r47.2) then
 some false
 else
 (SameSpans r44.1 r45.1).bind fun r50 =>
 bif (!r50) then
 some false
 else
 (SameSpans r46.1 r47.1).bind fun r51 =>
 bif (!r51) then
 some false
 else
 kn_4 (w64 (i4 + 1))
 else
 (awake).bind fun r52 =>
 some r52
def RescueChecks_L11__5 (r : Rescue) (r6 : (Seed × Rescue)) (post : Int) (r53 : (Seed × Int)) (i5 : Int) (kn_5 : Int → Option Bool) : Option Bool :=
 bif (decide (i5 < (([r, r6.2, r6.2] : List Rescue).length : Int))) then
 chk (decide (0 ≤ i5) && decide (i5 < (([r, r6.2, r6.2] : List Rescue).length : Int))) <|
 chk (decide (i5.toNat < ([r, r6.2, r6.2] : List Rescue).length)) <|
 chk (decide (0 ≤ i5) && decide (i5 < ([post, r53.2, post].length : Int))) <|
 chk (decide (i5.toNat < [post, r53.2, post].length)) <|
 (pGo (([r, r6.2, r6.2] : List Rescue).getD i5.toNat dfltRescue) ([post, r53.2, post].getD i5.toNat 0)).bind fun r54 =>
 chk (decide (0 ≤ i5) && decide (i5 < (([r, r6.2, r6.2] : List Rescue).length : Int))) <|
 chk (decide (i5.toNat < ([r, r6.2, r6.2] : List Rescue).length)) <|
 chk (decide (0 ≤ i5) && decide (i5 < ([post, r53.2, post].length : Int))) <|
 chk (decide (i5.toNat < [post, r53.2, post].length)) <|
 (rGo (([r, r6.2, r6.2] : List Rescue).getD i5.toNat dfltRescue) ([post, r53.2, post].getD i5.toNat 0)).bind fun r55 =>
 chk (decide (0 ≤ i5) && decide (i5 < (([r, r6.2, r6.2] : List Rescue).length : Int))) <|
 chk (decide (i5.toNat < ([r, r6.2, r6.2] : List Rescue).length)) <|
 (pLives (([r, r6.2, r6.2] : List Rescue).getD i5.toNat dfltRescue)).bind fun r56 =>
 chk (decide (0 ≤ i5) && decide (i5 < (([r, r6.2, r6.2] : List Rescue).length : Int))) <|
 chk (decide (i5.toNat < ([r, r6.2, r6.2] : List Rescue).length)) <|
 (rLives (([r, r6.2, r6.2] : List Rescue).getD i5.toNat dfltRescue)).bind fun r57 =>
 chk (decide (0 ≤ i5) && decide (i5 < (([r, r6.2, r6.2] : List Rescue).length : Int))) <|
 chk (decide (i5.toNat < ([r, r6.2, r6.2] : List Rescue).length)) <|
 (pCheck (([r, r6.2, r6.2] : List Rescue).getD i5.toNat dfltRescue)).bind fun r58 =>
 chk (decide (0 ≤ i5) && decide (i5 < (([r, r6.2, r6.2] : List Rescue).length : Int))) <|
 chk (decide (i5.toNat < ([r, r6.2, r6.2] : List Rescue).length)) <|
 (rCheck (([r, r6.2, r6.2] : List Rescue).getD i5.toNat dfltRescue)).bind fun r59 =>
 bif (r58 != r59) then
 some false
 else
 bif (r54.2 != r55.2) then
 some false
 else
 bif (r56.2 != r57.2) then
 some false
 else
 (SameSpans r54.1 r55.1).bind fun r60 =>
 bif (!r60) then
 some false
 else
 (SameSpans r56.1 r57.1).bind fun r61 =>
 bif (!r61) then
 some false
 else
 kn_5 (w64 (i5 + 1))
 else
 (awake).bind fun r62 =>
 some r62
def RescueChecks_L11__6 (r : Rescue) (r6 : (Seed × Rescue)) (post : Int) (r63 : (Seed × Int)) (i6 : Int) (kn_6 : Int → Option Bool) : Option Bool :=
 bif (decide (i6 < (([r, r6.2, r6.2] : List Rescue).length : Int))) then
 chk (decide (0 ≤ i6) && decide (i6 < (([r, r6.2, r6.2] : List Rescue).length : Int))) <|
 chk (decide (i6.toNat < ([r, r6.2, r6.2] : List Rescue).length)) <|
 chk (decide (0 ≤ i6) && decide (i6 < ([post, r63.2, post].length : Int))) <|
 chk (decide (i6.toNat < [post, r63.2, post].length)) <|
 (pGo (([r, r6.2, r6.2] : List Rescue).getD i6.toNat dfltRescue) ([post, r63.2, post].getD i6.toNat 0)).bind fun r64 =>
 chk (decide (0 ≤ i6) && decide (i6 < (([r, r6.2, r6.2] : List Rescue).length : Int))) <|
 chk (decide (i6.toNat < ([r, r6.2, r6.2] : List Rescue).length)) <|
 chk (decide (0 ≤ i6) && decide (i6 < ([post, r63.2, post].length : Int))) <|
 chk (decide (i6.toNat < [post, r63.2, post].length)) <|
 (rGo (([r, r6.2, r6.2] : List Rescue).getD i6.toNat dfltRescue) ([post, r63.2, post].getD i6.toNat 0)).bind fun r65 =>
 chk (decide (0 ≤ i6) && decide (i6 < (([r, r6.2, r6.2] : List Rescue).length : Int))) <|
 chk (decide (i6.toNat < ([r, r6.2, r6.2] : List Rescue).length)) <|
 (pLives (([r, r6.2, r6.2] : List Rescue).getD i6.toNat dfltRescue)).bind fun r66 =>
 chk (decide (0 ≤ i6) && decide (i6 < (([r, r6.2, r6.2] : List Rescue).length : Int))) <|
 chk (decide (i6.toNat < ([r, r6.2, r6.2] : List Rescue).length)) <|
 (rLives (([r, r6.2, r6.2] : List Rescue).getD i6.toNat dfltRescue)).bind fun r67 =>
 chk (decide (0 ≤ i6) && decide (i6 < (([r, r6.2, r6.2] : List Rescue).length : Int))) <|
 chk (decide (i6.toNat < ([r, r6.2, r6.2] : List Rescue).length)) <|
 (pCheck (([r, r6.2, r6.2] : List Rescue).getD i6.toNat dfltRescue)).bind fun r68 =>
 chk (decide (0 ≤ i6) && decide (i6 < (([r, r6.2, r6.2] : List Rescue).length : Int))) <|
 chk (decide (i6.toNat < ([r, r6.2, r6.2] : List Rescue).length)) <|
 (rCheck (([r, r6.2, r6.2] : List Rescue).getD i6.toNat dfltRescue)).bind fun r69 =>
 bif (r68 != r69) then
 some false
 else
 bif (r64.2 != r65.2) then
 some false
 else
 bif (r66.2 != r67.2) then
 some false
 else
 (SameSpans r64.1 r65.1).bind fun r70 =>
 bif (!r70) then
 some false
 else
 (SameSpans r66.1 r67.1).bind fun r71 =>
 bif (!r71) then
 some false
 else
 kn_6 (w64 (i6 + 1))
 else
 (awake).bind fun r72 =>
 some r72
def RescueChecks_L11__7 (r : Rescue) (r6 : (Seed × Rescue)) (r74 : (Seed × Int)) (q : Post) (post : Int) (r75 : (Seed × Int)) (i7 : Int) (kn_7 : Int → Option Bool) : Option Bool :=
 bif (decide (i7 < (([r, (⟨r6.2.Spots, r6.2.Paths, (r6.2.Posts.set r74.2.toNat q), r6.2.Water, r6.2.Chills⟩ : Rescue), (⟨r6.2.Spots, r6.2.Paths, (r6.2.Posts.set r74.2.toNat q), r6.2.Water, r6.2.Chills⟩ : Rescue)] : List Rescue).length : Int))) then
 chk (decide (0 ≤ i7) && decide (i7 < (([r, (⟨r6.2.Spots, r6.2.Paths, (r6.2.Posts.set r74.2.toNat q), r6.2.Water, r6.2.Chills⟩ : Rescue), (⟨r6.2.Spots, r6.2.Paths, (r6.2.Posts.set r74.2.toNat q), r6.2.Water, r6.2.Chills⟩ : Rescue)] : List Rescue).length : Int))) <|
 chk (decide (i7.toNat < ([r, (⟨r6.2.Spots, r6.2.Paths, (r6.2.Posts.set r74.2.toNat q), r6.2.Water, r6.2.Chills⟩ : Rescue), (⟨r6.2.Spots, r6.2.Paths, (r6.2.Posts.set r74.2.toNat q), r6.2.Water, r6.2.Chills⟩ : Rescue)] : List Rescue).length)) <|
 chk (decide (0 ≤ i7) && decide (i7 < ([post, r75.2, post].length : Int))) <|
 chk (decide (i7.toNat < [post, r75.2, post].length)) <|
 (pGo (([r, (⟨r6.2.Spots, r6.2.Paths, (r6.2.Posts.set r74.2.toNat q), r6.2.Water, r6.2.Chills⟩ : Rescue), (⟨r6.2.Spots, r6.2.Paths, (r6.2.Posts.set r74.2.toNat q), r6.2.Water, r6.2.Chills⟩ : Rescue)] : List Rescue).getD i7.toNat dfltRescue) ([post, r75.2, post].getD i7.toNat 0)).bind fun r76 =>
 chk (decide (0 ≤ i7) && decide (i7 < (([r, (⟨r6.2.Spots, r6.2.Paths, (r6.2.Posts.set r74.2.toNat q), r6.2.Water, r6.2.Chills⟩ : Rescue), (⟨r6.2.Spots, r6.2.Paths, (r6.2.Posts.set r74.2.toNat q), r6.2.Water, r6.2.Chills⟩ : Rescue)] : List Rescue).length : Int))) <|
 chk (decide (i7.toNat < ([r, (⟨r6.2.Spots, r6.2.Paths, (r6.2.Posts.set r74.2.toNat q), r6.2.Water, r6.2.Chills⟩ : Rescue), (⟨r6.2.Spots, r6.2.Paths, (r6.2.Posts.set r74.2.toNat q), r6.2.Water, r6.2.Chills⟩ : Rescue)] : List Rescue).length)) <|
 chk (decide (0 ≤ i7) && decide (i7 < ([post, r75.2, post].length : Int))) <|
 chk (decide (i7.toNat < [post, r75.2, post].length)) <|
 (rGo (([r, (⟨r6.2.Spots, r6.2.Paths, (r6.2.Posts.set r74.2.toNat q), r6.2.Water, r6.2.Chills⟩ : Rescue), (⟨r6.2.Spots, r6.2.Paths, (r6.2.Posts.set r74.2.toNat q), r6.2.Water, r6.2.Chills⟩ : Rescue)] : List Rescue).getD i7.toNat dfltRescue) ([post, r75.2, post].getD i7.toNat 0)).bind fun r77 =>
 chk (decide (0 ≤ i7) && decide (i7 < (([r, (⟨r6.2.Spots, r6.2.Paths, (r6.2.Posts.set r74.2.toNat q), r6.2.Water, r6.2.Chills⟩ : Rescue), (⟨r6.2.Spots, r6.2.Paths, (r6.2.Posts.set r74.2.toNat q), r6.2.Water, r6.2.Chills⟩ : Rescue)] : List Rescue).length : Int))) <|
 chk (decide (i7.toNat < ([r, (⟨r6.2.Spots, r6.2.Paths, (r6.2.Posts.set r74.2.toNat q), r6.2.Water, r6.2.Chills⟩ : Rescue), (⟨r6.2.Spots, r6.2.Paths, (r6.2.Posts.set r74.2.toNat q), r6.2.Water, r6.2.Chills⟩ : Rescue)] : List Rescue).length)) <|
 (pLives (([r, (⟨r6.2.Spots, r6.2.Paths, (r6.2.Posts.set r74.2.toNat q), r6.2.Water, r6.2.Chills⟩ : Rescue), (⟨r6.2.Spots, r6.2.Paths, (r6.2.Posts.set r74.2.toNat q), r6.2.Water, r6.2.Chills⟩ : Rescue)] : List Rescue).getD i7.toNat dfltRescue)).bind fun r78 =>
 chk (decide (0 ≤ i7) && decide (i7 < (([r, (⟨r6.2.Spots, r6.2.Paths, (r6.2.Posts.set r74.2.toNat q), r6.2.Water, r6.2.Chills⟩ : Rescue), (⟨r6.2.Spots, r6.2.Paths, (r6.2.Posts.set r74.2.toNat q), r6.2.Water, r6.2.Chills⟩ : Rescue)] : List Rescue).length : Int))) <|
 chk (decide (i7.toNat < ([r, (⟨r6.2.Spots, r6.2.Paths, (r6.2.Posts.set r74.2.toNat q), r6.2.Water, r6.2.Chills⟩ : Rescue), (⟨r6.2.Spots, r6.2.Paths, (r6.2.Posts.set r74.2.toNat q), r6.2.Water, r6.2.Chills⟩ : Rescue)] : List Rescue).length)) <|
 (rLives (([r, (⟨r6.2.Spots, r6.2.Paths, (r6.2.Posts.set r74.2.toNat q), r6.2.Water, r6.2.Chills⟩ : Rescue), (⟨r6.2.Spots, r6.2.Paths, (r6.2.Posts.set r74.2.toNat q), r6.2.Water, r6.2.Chills⟩ : Rescue)] : List Rescue).getD i7.toNat dfltRescue)).bind fun r79 =>
 chk (decide (0 ≤ i7) && decide (i7 < (([r, (⟨r6.2.Spots, r6.2.Paths, (r6.2.Posts.set r74.2.toNat q), r6.2.Water, r6.2.Chills⟩ : Rescue), (⟨r6.2.Spots, r6.2.Paths, (r6.2.Posts.set r74.2.toNat q), r6.2.Water, r6.2.Chills⟩ : Rescue)] : List Rescue).length : Int))) <|
 chk (decide (i7.toNat < ([r, (⟨r6.2.Spots, r6.2.Paths, (r6.2.Posts.set r74.2.toNat q), r6.2.Water, r6.2.Chills⟩ : Rescue), (⟨r6.2.Spots, r6.2.Paths, (r6.2.Posts.set r74.2.toNat q), r6.2.Water, r6.2.Chills⟩ : Rescue)] : List Rescue).length)) <|
 (pCheck (([r, (⟨r6.2.Spots, r6.2.Paths, (r6.2.Posts.set r74.2.toNat q), r6.2.Water, r6.2.Chills⟩ : Rescue), (⟨r6.2.Spots, r6.2.Paths, (r6.2.Posts.set r74.2.toNat q), r6.2.Water, r6.2.Chills⟩ : Rescue)] : List Rescue).getD i7.toNat dfltRescue)).bind fun r80 =>
 chk (decide (0 ≤ i7) && decide (i7 < (([r, (⟨r6.2.Spots, r6.2.Paths, (r6.2.Posts.set r74.2.toNat q), r6.2.Water, r6.2.Chills⟩ : Rescue), (⟨r6.2.Spots, r6.2.Paths, (r6.2.Posts.set r74.2.toNat q), r6.2.Water, r6.2.Chills⟩ : Rescue)] : List Rescue).length : Int))) <|
 chk (decide (i7.toNat < ([r, (⟨r6.2.Spots, r6.2.Paths, (r6.2.Posts.set r74.2.toNat q), r6.2.Water, r6.2.Chills⟩ : Rescue), (⟨r6.2.Spots, r6.2.Paths, (r6.2.Posts.set r74.2.toNat q), r6.2.Water, r6.2.Chills⟩ : Rescue)] : List Rescue).length)) <|
 (rCheck (([r, (⟨r6.2.Spots, r6.2.Paths, (r6.2.Posts.set r74.2.toNat q), r6.2.Water, r6.2.Chills⟩ : Rescue), (⟨r6.2.Spots, r6.2.Paths, (r6.2.Posts.set r74.2.toNat q), r6.2.Water, r6.2.Chills⟩ : Rescue)] : List Rescue).getD i7.toNat dfltRescue)).bind fun r81 =>
 bif (r80 != r81) then
 some false
 else
 bif (r76.2 != r77.2) then
 some false
 else
 bif (r78.2 != r79.2) then
 some false
 else
 (SameSpans r76.1 r77.1).bind fun r82 =>
 bif (!r82) then
 some false
 else
 (SameSpans r78.1 r79.1).bind fun r83 =>
 bif (!r83) then
 some false
 else
 kn_7 (w64 (i7 + 1))
 else
 (awake).bind fun r84 =>
 some r84
def RescueChecks_L11__8 (r : Rescue) (r6 : (Seed × Rescue)) (post : Int) (r85 : (Seed × Int)) (i8 : Int) (kn_8 : Int → Option Bool) : Option Bool :=
 bif (decide (i8 < (([r, r6.2, r6.2] : List Rescue).length : Int))) then
 chk (decide (0 ≤ i8) && decide (i8 < (([r, r6.2, r6.2] : List Rescue).length : Int))) <|
 chk (decide (i8.toNat < ([r, r6.2, r6.2] : List Rescue).length)) <|
 chk (decide (0 ≤ i8) && decide (i8 < ([post, r85.2, post].length : Int))) <|
 chk (decide (i8.toNat < [post, r85.2, post].length)) <|
 (pGo (([r, r6.2, r6.2] : List Rescue).getD i8.toNat dfltRescue) ([post, r85.2, post].getD i8.toNat 0)).bind fun r86 =>
 chk (decide (0 ≤ i8) && decide (i8 < (([r, r6.2, r6.2] : List Rescue).length : Int))) <|
 chk (decide (i8.toNat < ([r, r6.2, r6.2] : List Rescue).length)) <|
 chk (decide (0 ≤ i8) && decide (i8 < ([post, r85.2, post].length : Int))) <|
 chk (decide (i8.toNat < [post, r85.2, post].length)) <|
 (rGo (([r, r6.2, r6.2] : List Rescue).getD i8.toNat dfltRescue) ([post, r85.2, post].getD i8.toNat 0)).bind fun r87 =>
 chk (decide (0 ≤ i8) && decide (i8 < (([r, r6.2, r6.2] : List Rescue).length : Int))) <|
 chk (decide (i8.toNat < ([r, r6.2, r6.2] : List Rescue).length)) <|
 (pLives (([r, r6.2, r6.2] : List Rescue).getD i8.toNat dfltRescue)).bind fun r88 =>
 chk (decide (0 ≤ i8) && decide (i8 < (([r, r6.2, r6.2] : List Rescue).length : Int))) <|
 chk (decide (i8.toNat < ([r, r6.2, r6.2] : List Rescue).length)) <|
 (rLives (([r, r6.2, r6.2] : List Rescue).getD i8.toNat dfltRescue)).bind fun r89 =>
 chk (decide (0 ≤ i8) && decide (i8 < (([r, r6.2, r6.2] : List Rescue).length : Int))) <|
 chk (decide (i8.toNat < ([r, r6.2, r6.2] : List Rescue).length)) <|
 (pCheck (([r, r6.2, r6.2] : List Rescue).getD i8.toNat dfltRescue)).bind fun r90 =>
 chk (decide (0 ≤ i8) && decide (i8 < (([r, r6.2, r6.2] : List Rescue).length : Int))) <|
 chk (decide (i8.toNat < ([r, r6.2, r6.2] : List Rescue).length)) <|
 (rCheck (([r, r6.2, r6.2] : List Rescue).getD i8.toNat dfltRescue)).bind fun r91 =>
 bif (r90 != r91) then
 some false
 else
 bif (r86.2 != r87.2) then
 some false
 else
 bif (r88.2 != r89.2) then
 some false
 else
 (SameSpans r86.1 r87.1).bind fun r92 =>
 bif (!r92) then
 some false
 else
 (SameSpans r88.1 r89.1).bind fun r93 =>
 bif (!r93) then
 some false
 else
 kn_8 (w64 (i8 + 1))
 else
 (awake).bind fun r94 =>
 some r94
def RescueChecks_L11__9 (r : Rescue) (r6 : (Seed × Rescue)) (post : Int) (r95 : (Seed × Int)) (i9 : Int) (kn_9 : Int → Option Bool) : Option Bool :=
 bif (decide (i9 < (([r, r6.2, r6.2] : List Rescue).length : Int))) then
 chk (decide (0 ≤ i9) && decide (i9 < (([r, r6.2, r6.2] : List Rescue).length : Int))) <|
 chk (decide (i9.toNat < ([r, r6.2, r6.2] : List Rescue).length)) <|
 chk (decide (0 ≤ i9) && decide (i9 < ([post, r95.2, post].length : Int))) <|
 chk (decide (i9.toNat < [post, r95.2, post].length)) <|
 (pGo (([r, r6.2, r6.2] : List Rescue).getD i9.toNat dfltRescue) ([post, r95.2, post].getD i9.toNat 0)).bind fun r96 =>
 chk (decide (0 ≤ i9) && decide (i9 < (([r, r6.2, r6.2] : List Rescue).length : Int))) <|
 chk (decide (i9.toNat < ([r, r6.2, r6.2] : List Rescue).length)) <|
 chk (decide (0 ≤ i9) && decide (i9 < ([post, r95.2, post].length : Int))) <|
 chk (decide (i9.toNat < [post, r95.2, post].length)) <|
 (rGo (([r, r6.2, r6.2] : List Rescue).getD i9.toNat dfltRescue) ([post, r95.2, post].getD i9.toNat 0)).bind fun r97 =>
 chk (decide (0 ≤ i9) && decide (i9 < (([r, r6.2, r6.2] : List Rescue).length : Int))) <|
 chk (decide (i9.toNat < ([r, r6.2, r6.2] : List Rescue).length)) <|
 (pLives (([r, r6.2, r6.2] : List Rescue).getD i9.toNat dfltRescue)).bind fun r98 =>
 chk (decide (0 ≤ i9) && decide (i9 < (([r, r6.2, r6.2] : List Rescue).length : Int))) <|
 chk (decide (i9.toNat < ([r, r6.2, r6.2] : List Rescue).length)) <|
 (rLives (([r, r6.2, r6.2] : List Rescue).getD i9.toNat dfltRescue)).bind fun r99 =>
 chk (decide (0 ≤ i9) && decide (i9 < (([r, r6.2, r6.2] : List Rescue).length : Int))) <|
 chk (decide (i9.toNat < ([r, r6.2, r6.2] : List Rescue).length)) <|
 (pCheck (([r, r6.2, r6.2] : List Rescue).getD i9.toNat dfltRescue)).bind fun r100 =>
 chk (decide (0 ≤ i9) && decide (i9 < (([r, r6.2, r6.2] : List Rescue).length : Int))) <|
 chk (decide (i9.toNat < ([r, r6.2, r6.2] : List Rescue).length)) <|
 (rCheck (([r, r6.2, r6.2] : List Rescue).getD i9.toNat dfltRescue)).bind fun r101 =>
 bif (r100 != r101) then
 some false
 else
 bif (r96.2 != r97.2) then
 some false
 else
 bif (r98.2 != r99.2) then
 some false
 else
 (SameSpans r96.1 r97.1).bind fun r102 =>
 bif (!r102) then
 some false
 else
 (SameSpans r98.1 r99.1).bind fun r103 =>
 bif (!r103) then
 some false
 else
 kn_9 (w64 (i9 + 1))
 else
 (awake).bind fun r104 =>
 some r104
def RescueChecks' (it : It Bool) (r : Rescue) (post : Int) (p : Path) (q : Post) (nums : List Int) : Option Bool :=
 (big r).bind fun r2 =>
 bif r2 then
 (awake).bind fun r3 =>
 some r3
 else
 bif (decide ((q.Air.length : Int) > 60)) then
 (awake).bind fun r4 =>
 some r4
 else
 (NewSeed nums).bind fun r5 =>
 (RescueOfO r5 6 4).bind fun r6 =>
 bif (decide ((r6.2.Paths.length : Int) > 0)) then
 (Yes r6.1 4).bind fun r7 =>
 bif r7.2 then
 (Below r7.1 (r6.2.Paths.length : Int)).bind fun r8 =>
 chk (decide (0 ≤ r8.2) && decide (r8.2 < (r6.2.Paths.length : Int))) <|
 chk (decide (r8.2.toNat < r6.2.Paths.length)) <|
 bif (decide ((r6.2.Posts.length : Int) > 0)) then
 (Yes r8.1 4).bind fun r9 =>
 bif r9.2 then
 (Below r9.1 (r6.2.Posts.length : Int)).bind fun r10 =>
 chk (decide (0 ≤ r10.2) && decide (r10.2 < (r6.2.Posts.length : Int))) <|
 chk (decide (r10.2.toNat < r6.2.Posts.length)) <|
 (Below r10.1 (w64 (((r6.2.Posts.set r10.2.toNat q).length : Int) + 1))).bind fun r11 =>
 it _ (fun (v_0 : (Unit × Unit × Int × Unit) × (Unit)) kn => RescueChecks_L11 r r6 r8 p r10 q post r11 v_0.1.2.2.1 (fun y0 => kn (((), (), y0, ()), (())))) (((), (), 0, ()), (()))
 else
 (Below r9.1 (w64 ((r6.2.Posts.length : Int) + 1))).bind fun r21 =>
 it _ (fun (v_0 : (Unit × Unit × Int × Unit) × (Unit)) kn => RescueChecks_L11__2 r r6 r8 p post r21 v_0.1.2.2.1 (fun y0 => kn (((), (), y0, ()), (())))) (((), (), 0, ()), (()))
 else
 (Below r8.1 (w64 ((r6.2.Posts.length : Int) + 1))).bind fun r31 =>
 it _ (fun (v_0 : (Unit × Unit × Int × Unit) × (Unit)) kn => RescueChecks_L11__3 r r6 r8 p post r31 v_0.1.2.2.1 (fun y0 => kn (((), (), y0, ()), (())))) (((), (), 0, ()), (()))
 else
 bif (decide ((r6.2.Posts.length : Int) > 0)) then
 (Yes r7.1 4).bind fun r41 =>
 bif r41.2 then
 (Below r41.1 (r6.2.Posts.length : Int)).bind fun r42 =>
 chk (decide (0 ≤ r42.2) && decide (r42.2 < (r6.2.Posts.length : Int))) <|
 chk (decide (r42.2.toNat < r6.2.Posts.length)) <|
 (Below r42.1 (w64 (((r6.2.Posts.set r42.2.toNat q).length : Int) + 1))).bind fun r43 =>
 it _ (fun (v_0 : (Unit × Unit × Int × Unit) × (Unit)) kn => RescueChecks_L11__4 r r6 r42 q post r43 v_0.1.2.2.1 (fun y0 => kn (((), (), y0, ()), (())))) (((), (), 0, ()), (()))
 else
 (Below r41.1 (w64 ((r6.2.Posts.length : Int) + 1))).bind fun r53 =>
 it _ (fun (v_0 : (Unit × Unit × Int × Unit) × (Unit)) kn => RescueChecks_L11__5 r r6 post r53 v_0.1.2.2.1 (fun y0 => kn (((), (), y0, ()), (())))) (((), (), 0, ()), (()))
 else
 (Below r7.1 (w64 ((r6.2.Posts.length : Int) + 1))).bind fun r63 =>
 it _ (fun (v_0 : (Unit × Unit × Int × Unit) × (Unit)) kn => RescueChecks_L11__6 r r6 post r63 v_0.1.2.2.1 (fun y0 => kn (((), (), y0, ()), (())))) (((), (), 0, ()), (()))
 else
 bif (decide ((r6.2.Posts.length : Int) > 0)) then
 (Yes r6.1 4).bind fun r73 =>
 bif r73.2 then
 (Below r73.1 (r6.2.Posts.length : Int)).bind fun r74 =>
 chk (decide (0 ≤ r74.2) && decide (r74.2 < (r6.2.Posts.length : Int))) <|
 chk (decide (r74.2.toNat < r6.2.Posts.length)) <|
 (Below r74.1 (w64 (((r6.2.Posts.set r74.2.toNat q).length : Int) + 1))).bind fun r75 =>
 it _ (fun (v_0 : (Unit × Unit × Int × Unit) × (Unit)) kn => RescueChecks_L11__7 r r6 r74 q post r75 v_0.1.2.2.1 (fun y0 => kn (((), (), y0, ()), (())))) (((), (), 0, ()), (()))
 else
 (Below r73.1 (w64 ((r6.2.Posts.length : Int) + 1))).bind fun r85 =>
 it _ (fun (v_0 : (Unit × Unit × Int × Unit) × (Unit)) kn => RescueChecks_L11__8 r r6 post r85 v_0.1.2.2.1 (fun y0 => kn (((), (), y0, ()), (())))) (((), (), 0, ()), (()))
 else
 (Below r6.1 (w64 ((r6.2.Posts.length : Int) + 1))).bind fun r95 =>
 it _ (fun (v_0 : (Unit × Unit × Int × Unit) × (Unit)) kn => RescueChecks_L11__9 r r6 post r95 v_0.1.2.2.1 (fun y0 => kn (((), (), y0, ()), (())))) (((), (), 0, ()), (()))
def RescueChecks : Rescue → Int → Path → Post → (List Int) → Option Bool := opq (fun r post p q nums => RescueChecks' itN r post p q nums)
theorem RescueChecks_eq (r : Rescue) (post : Int) (p : Path) (q : Post) (nums : List Int) : RescueChecks r post p q nums = RescueChecks' itN r post p q nums := by unfold RescueChecks; rw [opq_eq]
def E5 : FEnv iseat := ⟨⟨164, [sp16, sp17, sp26, sp30, sp31, sp32, sp33, sp34, sp35], [sp29, sp20], [sp18], [], [], [], [], [], [], [sp19o], [], [], true⟩, [(11, ⟨⟨[(13, .osr 74), (14, .osr 83), (15, .v (.int .i64))], []⟩, [], [74, 83], []⟩), (1000009, ⟨⟨[], []⟩, [], [36, 10036, 20036, 30036], []⟩)]⟩
theorem e5 (it : It Bool) (r : Rescue) (post : Int) (p : Path) (q : Post) (nums : List Int) : fnRun (ts := [.bool]) it E5 (bodyOf Try.f5) Try.f5.results.toList (encA [.Rescue, .int .i64, .Path, .Post, .sl (.int .i64)] (r, post, p, q, nums, ())) = RescueChecks' it r post p q nums := by kernel_rfl
end
end Go.Proofs.Rescue07
namespace Go.Proofs.Rescue07
open Go Go.Ab Go.Ways
set_option linter.all false
theorem RescueOfO_same (s : Seed) (a b : Int) : RescueOfO s a b = RescueOf s a b := by
  rw [RescueOfO_eq, RescueOf_eq]; rfl
theorem go_len (r : Rescue) (k : Int) : (bif eR r != 0 then ([], eR r) else bif !(inR k 0 ((r.Posts.length : Int) - 1)) then ([], 7) else (goesS r (r.Posts.getD k.toNat dfltPost), 0) : List Span × Int).1.length ≤ 40 := by
  cases he : (eR r != 0) with
  | true => simp
  | false =>
    have hv := eR_zero.1 (show eR r = 0 by simpa using he)
    have := hv.spots
    cases inR k 0 ((r.Posts.length : Int) - 1) with
    | false => simp
    | true => simp [goes_len]; omega
theorem lives_len (r : Rescue) : (bif eR r != 0 then ([], eR r) else (r.Water.map (livesS r), 0) : List Span × Int).1.length ≤ 40 := by
  cases he : (eR r != 0) with
  | true => simp
  | false =>
    have hv := eR_zero.1 (show eR r = 0 by simpa using he)
    have := hv.spots
    have := hv.water.1
    simp; omega
theorem checks_loop {r : Rescue} {own : Seed × Rescue} (hr : Few r) (ho : Few own.2) (m : Int) (x : Seed × Int) :
    Ok (fun b => b = true) (itN V2u (fun v_0 kn => RescueChecks_L11__9 r own m x v_0.1.2.2.1 (fun y0 => kn (((), (), y0, ()), ()))) (((), (), 0, ()), ())) := by
  refine Ok.rounds (fun (v : V2u) => 0 ≤ v.1.2.2.1 ∧ v.1.2.2.1 ≤ 3) (fun (v : V2u) => (3 - v.1.2.2.1).toNat) (FUEL_big (by show ((3 : Int) - 0).toNat ≤ _; omega)) ⟨Int.le_refl _, by simp⟩ ?_
  rintro ⟨⟨u1, u2, i, u3⟩, u4⟩ kn ⟨h0, h1⟩ hk
  simp only at h0 h1 hk ⊢
  unfold RescueChecks_L11__9
  have l1 : ([r, own.2, own.2] : List Rescue).length = 3 := rfl
  have l2 : ([m, x.2, m] : List Int).length = 3 := rfl
  rw [l1, l2]
  refine Ok.ite (fun hc => ?_) (fun hc => awake_ok)
  have hi : i < 3 := by simpa using hc
  have c1 : (decide (0 ≤ i) && decide (i < ((3 : Nat) : Int))) = true := ib h0 (by omega)
  have c2 : decide (i.toNat < 3) = true := decide_eq_true (by omega)
  obtain ⟨z, hz⟩ : ∃ z, ([r, own.2, own.2] : List Rescue).getD i.toNat dfltRescue = z := ⟨_, rfl⟩
  obtain ⟨y, hy⟩ : ∃ y, ([m, x.2, m] : List Int).getD i.toNat 0 = y := ⟨_, rfl⟩
  have hf : Few z := by
    have := getD_mem (d := dfltRescue) (show i.toNat < ([r, own.2, own.2] : List Rescue).length by rw [l1]; omega)
    rw [hz] at this
    simp only [List.mem_cons, List.not_mem_nil, or_false] at this
    rcases this with rfl | rfl | rfl <;> assumption
  have e1 : w64 (i + 1) = i + 1 := w64_id (by omega) (by omega)
  simp only [c1, c2, hz, hy, chk, cond_true, pGo_sp hf, rGo_sp hf, pLives_sp hf, rLives_sp hf, pCheck_sp z hf, rCheck_sp z hf, Option.bind_some, bne_self_eq_false, cond_false, SameSpans_self _ (Nat.le_trans (go_len _ _) (by decide)), SameSpans_self _ (Nat.le_trans (lives_len _) (by decide)), Bool.not_true, e1]
  exact hk ((u1, u2, i + 1, u3), u4) ⟨by simp only; omega, by simp only; omega⟩ (by simp only; omega)
theorem few_set {r : Rescue} (hf : Few r) {q : Post} (hq : q.Air.length ≤ 100000) (k : Nat) (ps : List Path) (hp : ps.length = r.Paths.length) : Few ⟨r.Spots, ps, r.Posts.set k q, r.Water, r.Chills⟩ := by
  obtain ⟨h1, h2, h3, h4, h5⟩ := hf
  refine ⟨fun p hp => ?_, by simp only; omega, by simp only [List.length_set]; exact h3, h4, h5⟩
  rcases List.mem_or_eq_of_mem_set hp with h | rfl
  · exact h1 p h
  · exact hq
theorem few_path {r : Rescue} (hf : Few r) (ps : List Path) (hp : ps.length = r.Paths.length) : Few ⟨r.Spots, ps, r.Posts, r.Water, r.Chills⟩ := by
  obtain ⟨h1, h2, h3, h4, h5⟩ := hf
  exact ⟨h1, by simp only; omega, h3, h4, h5⟩
theorem RescueChecks_true (r : Rescue) (m : Int) (p : Path) (q : Post) (nums : List Int) (hr : r.Posts.length ≤ 9223372036854775807) (hq : q.Air.length ≤ 9223372036854775807) (hn : nums.length ≤ 9223372036854775807) : RescueChecks r m p q nums = some true := by
  apply ok_eq
  rw [RescueChecks_eq]; unfold RescueChecks'
  refine Ok.bind (big_ok r hr) fun b hb => Ok.ite (fun _ => awake_ok) fun h => ?_
  have hf := hb h
  refine Ok.ite (fun _ => awake_ok) fun h => ?_
  have h60 := of_decide_eq_false h
  have hq' : q.Air.length ≤ 100000 := by omega
  refine Ok.bind (NewSeed_ok hn) fun s _ => Ok.bind (by rw [RescueOfO_same]; exact RescueOf_ok s (by decide) (by decide) ⟨by decide, by decide⟩) fun own ho => ?_
  have ho' := ho.few
  have hpl := ho.2.2.2.1
  have hql := ho.2.2.1
  have w1 : w64 ((own.2.Posts.length : Int) + 1) = (own.2.Posts.length : Int) + 1 := w64_id (by omega) (by omega)
  have w2 : ∀ k : Nat, w64 (((own.2.Posts.set k q).length : Int) + 1) = (own.2.Posts.length : Int) + 1 := fun k => by rw [List.length_set]; exact w1
  simp only [w1, w2]
  refine Ok.ite (fun hp => ?_) fun hp => ?_
  · have hp := of_decide_eq_true hp
    refine Ok.bind (Yes_ok _ (by decide)) fun y _ => Ok.ite (fun _ => ?_) fun _ => ?_
    · refine Ok.bind (Below_ok _ (by omega)) fun k hk => Ok.chk (ib hk.1 (by omega)) (Ok.chk (decide_eq_true (by omega)) ?_)
      refine Ok.ite (fun hp2 => ?_) fun hp2 => Ok.bind (Below_ok _ (by omega)) fun x _ => checks_loop hf (own := (own.1, _)) (few_path ho' _ (by simp)) m x
      have hp2 := of_decide_eq_true hp2
      refine Ok.bind (Yes_ok _ (by decide)) fun y2 _ => Ok.ite (fun _ => ?_) fun _ => Ok.bind (Below_ok _ (by omega)) fun x _ => checks_loop hf (own := (own.1, _)) (few_path ho' _ (by simp)) m x
      refine Ok.bind (Below_ok _ (by omega)) fun k2 hk2 => Ok.chk (ib hk2.1 (by omega)) (Ok.chk (decide_eq_true (by omega)) (Ok.bind (Below_ok _ (by omega)) fun x _ => checks_loop hf (own := (own.1, _)) (few_set ho' hq' _ _ (by simp)) m x))
    · refine Ok.ite (fun hp2 => ?_) fun hp2 => Ok.bind (Below_ok _ (by omega)) fun x _ => checks_loop hf (own := own) ho' m x
      have hp2 := of_decide_eq_true hp2
      refine Ok.bind (Yes_ok _ (by decide)) fun y2 _ => Ok.ite (fun _ => ?_) fun _ => Ok.bind (Below_ok _ (by omega)) fun x _ => checks_loop hf (own := own) ho' m x
      refine Ok.bind (Below_ok _ (by omega)) fun k2 hk2 => Ok.chk (ib hk2.1 (by omega)) (Ok.chk (decide_eq_true (by omega)) (Ok.bind (Below_ok _ (by omega)) fun x _ => checks_loop hf (own := (own.1, _)) (few_set ho' hq' _ _ rfl) m x))
  · refine Ok.ite (fun hp2 => ?_) fun hp2 => Ok.bind (Below_ok _ (by omega)) fun x _ => checks_loop hf (own := own) ho' m x
    have hp2 := of_decide_eq_true hp2
    refine Ok.bind (Yes_ok _ (by decide)) fun y2 _ => Ok.ite (fun _ => ?_) fun _ => Ok.bind (Below_ok _ (by omega)) fun x _ => checks_loop hf (own := own) ho' m x
    refine Ok.bind (Below_ok _ (by omega)) fun k2 hk2 => Ok.chk (ib hk2.1 (by omega)) (Ok.chk (decide_eq_true (by omega)) (Ok.bind (Below_ok _ (by omega)) fun x _ => checks_loop hf (own := (own.1, _)) (few_set ho' hq' _ _ rfl) m x))
end Go.Proofs.Rescue07
