/- Walks through the functions that the laws of the convoys reach: what each of them gives for what it gets (contracts), written out by a program of ours; without a condition but those that stand in each theorem. -/
import Derived.Test.YtafnhieaeejlcaaDoorCt13
set_option linter.all false
namespace Go.Proofs.YtafnhieaeejlcaaDoor
open Go Go.Ab
set_option maxRecDepth 100000
set_option maxHeartbeats 4000000
attribute [local irreducible] W WL QOp NOp thenQ blockQ FinQ FinR WG FQ Want FinW WI WIL thenI blockI
/-- How far the truck may have gone in a minute. -/
def atP (t : Truck) (len m : Int) : Span := if min (m - t.start) (hitR t len t.lo) < 0 then default else gone t len (min (m - t.start) (hitR t len t.lo)).toNat
theorem c87 (t : Truck) (len m : Int) (h : ROk len t) (m0 : 0 ≤ m) (m1 : m ≤ 100000) : Contract seat 87 [.agg (encTrack t len), .int .i64 m] (.agg (encSpan (atP t len m))) := by
  have hn := (hitR_ok h (Int.le_refl t.lo)).2.2
  have s1 := h.s1
  have s2 := h.s2
  refine contract_introW (fn := Tryd.f87) Tryd.func87 rfl (by kernel_rfl) rfl ?_ ?_ ?_
  · exact PureL.cons (.agg _ (pure_track t len)) (PureL.cons (.int _ _) PureL.nil)
  · exact .agg _ (pure_span _)
  intro w κ
  repeat' (first
    | (apply WL_q; apply Eq.refl; apply Eq.refl; (first | (apply q_mvI <;> apply Eq.refl) | (apply q_asI <;> apply Eq.refl) | (apply q_ldb <;> apply Eq.refl) | (apply q_fab <;> apply Eq.refl) | (apply q_cmp <;> apply Eq.refl) | (apply q_arith <;> (first | apply Eq.refl | omega)) | (apply q_len <;> apply Eq.refl) | (apply q_ia <;> (first | apply Eq.refl | omega)) | (apply q_ldra <;> apply Eq.refl) | (apply q_bld <;> apply Eq.refl) | (apply q_min <;> apply Eq.refl)))
    | apply W_seq
    | apply W_region
    | apply T_normal
    | apply WL_nil
    | apply T_ret
    | apply W_skip
    | apply W_ret
    | (apply WL_n; apply Eq.refl; (first | (apply n_boxa <;> apply Eq.refl) | (apply n_alloc <;> apply Eq.refl) | (apply n_stb <;> apply Eq.refl)))
    | (apply W_cD; apply Eq.refl; intro _; rotate_left 1; intro _; rotate_left 1))
  all_goals (have e : ((hitR t len t.lo + 1 : Nat) : Int) - 1 = hitR t len t.lo := by omega)
  · rename_i hx
    rw [e] at hx
    ((try apply fin_now); first | (apply fin_A; apply Eq.refl; apply Eq.refl; apply Eq.refl; apply Eq.refl; apply Eq.refl; apply Eq.refl; apply Eq.refl; apply Eq.refl; try apply Eq.refl))
    unfold atP; rw [if_pos hx]; rfl
  · rename_i hx
    rw [e] at hx
    ((try apply fin_now); first | (apply fin_A; apply Eq.refl; apply Eq.refl; apply Eq.refl; apply Eq.refl; apply Eq.refl; apply Eq.refl; apply Eq.refl; apply Eq.refl; try apply Eq.refl))
    unfold atP; rw [if_neg hx, e]; rfl
/-- A span of the way as metres of the road. -/
def roadP (way len : Int) (g : Span) : Span := ⟨min (alongI way len g.lo) (alongI way len g.hi), max (alongI way len g.lo) (alongI way len g.hi)⟩
theorem c86 (t : Truck) (len : Int) (g : Span) (h1 : -1000000 ≤ g.lo) (h2 : g.lo ≤ 1000000) (h3 : -1000000 ≤ g.hi) (h4 : g.hi ≤ 1000000) (l1 : 1 ≤ len) (l2 : len ≤ 100000) : Contract seat 86 [.agg (encTrack t len), .agg (encSpan g)] (.agg (encSpan (roadP t.way len g))) := by
  refine contract_introW (fn := Tryd.f86) Tryd.func86 rfl (by kernel_rfl) rfl ?_ ?_ ?_
  · exact PureL.cons (.agg _ (pure_track t len)) (PureL.cons (.agg _ (pure_span g)) PureL.nil)
  · exact .agg _ (pure_span _)
  intro w κ
  repeat' (first
    | (apply WL_q; apply Eq.refl; apply Eq.refl; (first | (apply q_mvI <;> apply Eq.refl) | (apply q_asI <;> apply Eq.refl) | (apply q_ldb <;> apply Eq.refl) | (apply q_fab <;> apply Eq.refl) | (apply q_ldba <;> apply Eq.refl) | (apply q_bld <;> apply Eq.refl) | (apply q_min <;> apply Eq.refl) | (apply q_max <;> apply Eq.refl)))
    | apply W_seq
    | apply W_region
    | apply T_normal
    | apply WL_nil
    | apply W_ret
    | (apply WL_n; apply Eq.refl; (first | (apply n_boxa <;> apply Eq.refl) | (apply n_alloc <;> apply Eq.refl) | (apply n_stb <;> apply Eq.refl)))
    | apply W_regionG
    | (apply WG_nil; kernel_rfl)
    | (apply WG_q; (first | (apply want_none; apply Eq.refl) | (apply want_some; apply Eq.refl; apply Eq.refl; apply Eq.refl)); apply Eq.refl; first | (apply fq_bld <;> apply Eq.refl) | (apply fq_blda <;> apply Eq.refl) | (apply fq_fn; apply Eq.refl) | (apply fq_mf; apply Eq.refl) | (apply FQ_intro; intro _; (first | (apply q_mvI <;> apply Eq.refl) | (apply q_asI <;> apply Eq.refl) | (apply q_ldb <;> apply Eq.refl) | (apply q_fab <;> apply Eq.refl) | (apply q_ldba <;> apply Eq.refl) | (apply q_bld <;> apply Eq.refl) | (apply q_min <;> apply Eq.refl) | (apply q_max <;> apply Eq.refl))))
    | (apply WG_call; (first | (apply want_none; apply Eq.refl) | (apply want_some; apply Eq.refl; apply Eq.refl; apply Eq.refl)); apply Eq.refl; apply Eq.refl; apply Eq.refl; exact (c107 t len g.lo (by omega) (by omega) (by omega) (by omega)))
    | (apply WG_call; (first | (apply want_none; apply Eq.refl) | (apply want_some; apply Eq.refl; apply Eq.refl; apply Eq.refl)); apply Eq.refl; apply Eq.refl; apply Eq.refl; exact (c107 t len g.hi (by omega) (by omega) (by omega) (by omega))))
  ((try apply fin_now); first | (apply fin_A; apply Eq.refl; apply Eq.refl; apply Eq.refl; apply Eq.refl; apply Eq.refl; apply Eq.refl; apply Eq.refl; apply Eq.refl; try apply Eq.refl))
/-- Where the truck may be on the lane, and whether it is there (1: surely; 3: perhaps; 2: not). -/
def laneP (t : Truck) (len m : Int) : Span × Int :=
  if m < t.start then (default, 2)
  else if (atP t len m).hi < stopP t.way len m t.holds then (roadP t.way len (atP t len m), 1)
  else if (atP t len m).lo ≥ stopP t.way len m t.holds then (default, 2)
  else (roadP t.way len ⟨(atP t len m).lo, stopP t.way len m t.holds - 1⟩, 3)
theorem atP_bnd {t : Truck} {len m : Int} (h : ROk len t) : 0 ≤ (atP t len m).lo ∧ (atP t len m).lo ≤ len ∧ 0 ≤ (atP t len m).hi ∧ (atP t len m).hi ≤ len := by
  have l1 := h.l1
  unfold atP
  split
  · exact ⟨Int.le_refl 0, by show (0:Int) ≤ len; omega, Int.le_refl 0, by show (0:Int) ≤ len; omega⟩
  · have a := posR_le h.l1 h.ho h.p1 (min (m - t.start) (hitR t len t.lo)).toNat
    have b := posR_le h.l1 h.ho (show 1 ≤ t.hi by have := h.p1; have := h.p2; omega) (min (m - t.start) (hitR t len t.lo)).toNat
    exact ⟨a.1, a.2, b.1, b.2⟩
theorem stopP_bnd {t : Truck} {len m : Int} (h : ROk len t) : 1 ≤ stopP t.way len m t.holds ∧ stopP t.way len m t.holds ≤ len := by
  refine ⟨stopP_ge h.l1 fun x hx => (along_le (h.ho.mem x hx).1 (h.ho.mem x hx).2.1).1, ?_⟩
  have : ∀ hs : List Hold, (∀ x ∈ hs, alongI t.way len x.a ≤ len) → stopP t.way len m hs ≤ len := by
    intro hs
    induction hs with
    | nil => intro _; exact Int.le_refl _
    | cons x hs ih =>
      intro hx
      simp only [stopP]
      split
      · exact hx x (List.mem_cons_self ..)
      · exact ih fun y hy => hx y (List.mem_cons_of_mem _ hy)
  refine this _ fun x hx => ?_
  have := along_le (way := t.way) (h.ho.mem x hx).1 (h.ho.mem x hx).2.1
  omega
theorem c85 (t : Truck) (len m : Int) (h : ROk len t) (m0 : 0 ≤ m) (m1 : m ≤ 100000) : Contract seat 85 [.agg (encTrack t len), .int .i64 m] (.tup [.agg (encSpan (laneP t len m).1), .int .i64 (laneP t len m).2]) := by
  have l1 := h.l1
  have l2 := h.l2
  obtain ⟨b1, b2, b3, b4⟩ := atP_bnd (m := m) h
  obtain ⟨p1, p2⟩ := stopP_bnd (m := m) h
  refine contract_introW (fn := Tryd.f85) Tryd.func85 rfl (by kernel_rfl) rfl ?_ ?_ ?_
  · exact PureL.cons (.agg _ (pure_track t len)) (PureL.cons (.int _ _) PureL.nil)
  · exact .tup _ (PureL.cons (.agg _ (pure_span _)) (PureL.cons (.int _ _) PureL.nil))
  intro w κ
  repeat' (first
    | (apply WL_q; apply Eq.refl; apply Eq.refl; (first | (apply q_mvI <;> apply Eq.refl) | (apply q_asI <;> apply Eq.refl) | (apply q_ldb <;> apply Eq.refl) | (apply q_fab <;> apply Eq.refl) | (apply q_cmp <;> apply Eq.refl) | (apply q_asB <;> apply Eq.refl) | (apply q_arith <;> (first | apply Eq.refl | omega)) | (apply q_ldba <;> apply Eq.refl) | (apply q_bld <;> apply Eq.refl)))
    | apply W_seq
    | apply W_region
    | apply T_normal
    | apply WL_nil
    | apply T_ret
    | apply B_normal
    | apply B_ret
    | apply W_skip
    | apply W_ret
    | apply W_block
    | (apply WL_call; apply Eq.refl; apply Eq.refl; rotate_left 1; apply Eq.refl; rotate_right 1; exact (c87 t len m h m0 m1); apply Eq.refl)
    | (apply WL_call; apply Eq.refl; apply Eq.refl; rotate_left 1; apply Eq.refl; rotate_right 1; exact (c116 t len m l1 l2 h.ho); apply Eq.refl)
    | (apply WL_call; apply Eq.refl; apply Eq.refl; rotate_left 1; apply Eq.refl; rotate_right 1; exact (c86 t len (atP t len m) (by omega) (by omega) (by omega) (by omega) l1 l2); apply Eq.refl)
    | (apply WL_call; apply Eq.refl; apply Eq.refl; rotate_left 1; apply Eq.refl; rotate_right 1; exact (c86 t len ⟨(atP t len m).lo, stopP t.way len m t.holds - 1⟩ (by show _ ≤ (atP t len m).lo; omega) (by show (atP t len m).lo ≤ _; omega) (by show _ ≤ stopP t.way len m t.holds - 1; omega) (by show stopP t.way len m t.holds - 1 ≤ _; omega) l1 l2); apply Eq.refl)
    | (apply WL_n; apply Eq.refl; (first | (apply n_boxa <;> apply Eq.refl) | (apply n_alloc <;> apply Eq.refl) | (apply n_stb <;> apply Eq.refl)))
    | apply W_regionG
    | (apply WG_nil; kernel_rfl)
    | (apply WG_q; (first | (apply want_none; apply Eq.refl) | (apply want_some; apply Eq.refl; apply Eq.refl; apply Eq.refl)); apply Eq.refl; first | (apply fq_bld <;> apply Eq.refl) | (apply fq_blda <;> apply Eq.refl) | (apply fq_fn; apply Eq.refl) | (apply fq_mf; apply Eq.refl) | (apply FQ_intro; intro _; (first | (apply q_mvI <;> apply Eq.refl) | (apply q_asI <;> apply Eq.refl) | (apply q_ldb <;> apply Eq.refl) | (apply q_fab <;> apply Eq.refl) | (apply q_cmp <;> apply Eq.refl) | (apply q_asB <;> apply Eq.refl) | (apply q_arith <;> (first | apply Eq.refl | omega)) | (apply q_ldba <;> apply Eq.refl) | (apply q_bld <;> apply Eq.refl))))
    | (apply WG_call; (first | (apply want_none; apply Eq.refl) | (apply want_some; apply Eq.refl; apply Eq.refl; apply Eq.refl)); apply Eq.refl; apply Eq.refl; apply Eq.refl; exact (c87 t len m h m0 m1))
    | (apply WG_call; (first | (apply want_none; apply Eq.refl) | (apply want_some; apply Eq.refl; apply Eq.refl; apply Eq.refl)); apply Eq.refl; apply Eq.refl; apply Eq.refl; exact (c116 t len m l1 l2 h.ho))
    | (apply WG_call; (first | (apply want_none; apply Eq.refl) | (apply want_some; apply Eq.refl; apply Eq.refl; apply Eq.refl)); apply Eq.refl; apply Eq.refl; apply Eq.refl; exact (c86 t len (atP t len m) (by omega) (by omega) (by omega) (by omega) l1 l2))
    | (apply WG_call; (first | (apply want_none; apply Eq.refl) | (apply want_some; apply Eq.refl; apply Eq.refl; apply Eq.refl)); apply Eq.refl; apply Eq.refl; apply Eq.refl; exact (c86 t len ⟨(atP t len m).lo, stopP t.way len m t.holds - 1⟩ (by show _ ≤ (atP t len m).lo; omega) (by show (atP t len m).lo ≤ _; omega) (by show _ ≤ stopP t.way len m t.holds - 1; omega) (by show stopP t.way len m t.holds - 1 ≤ _; omega) l1 l2))
    | (apply WG_n; (first | (apply want_none; apply Eq.refl) | (apply want_some; apply Eq.refl; apply Eq.refl; apply Eq.refl)); (first | (apply f_alloc <;> apply Eq.refl) | (apply f_stb <;> apply Eq.refl)))
    | (apply W_cD; apply Eq.refl; intro _; rotate_left 1; intro _; rotate_left 1))
  · rename_i a1
    have e : laneP t len m = (default, 2) := by unfold laneP; rw [if_pos a1]
    rw [e]; ((try apply fin_now); first | (focus (apply fin_2; apply Eq.refl; (first | (apply rv_I; apply Eq.refl) | (apply rv_A <;> apply Eq.refl)); (first | (apply rv_I; apply Eq.refl) | (apply rv_A <;> apply Eq.refl)); all_goals try apply Eq.refl)))
  · rename_i a1 a2
    have e : laneP t len m = (roadP t.way len (atP t len m), 1) := by unfold laneP; rw [if_neg a1, if_pos a2]
    rw [e]; ((try apply fin_now); first | (focus (apply fin_2; apply Eq.refl; (first | (apply rv_I; apply Eq.refl) | (apply rv_A <;> apply Eq.refl)); (first | (apply rv_I; apply Eq.refl) | (apply rv_A <;> apply Eq.refl)); all_goals try apply Eq.refl)))
  · rename_i a1 a2 a3
    have e : laneP t len m = (default, 2) := by unfold laneP; rw [if_neg a1, if_neg a2, if_pos a3]
    rw [e]; ((try apply fin_now); first | (focus (apply fin_2; apply Eq.refl; (first | (apply rv_I; apply Eq.refl) | (apply rv_A <;> apply Eq.refl)); (first | (apply rv_I; apply Eq.refl) | (apply rv_A <;> apply Eq.refl)); all_goals try apply Eq.refl)))
  · rename_i a1 a2 a3
    have e : laneP t len m = (roadP t.way len ⟨(atP t len m).lo, stopP t.way len m t.holds - 1⟩, 3) := by unfold laneP; rw [if_neg a1, if_neg a2, if_neg a3]
    rw [e]; ((try apply fin_now); first | (focus (apply fin_2; apply Eq.refl; (first | (apply rv_I; apply Eq.refl) | (apply rv_A <;> apply Eq.refl)); (first | (apply rv_I; apply Eq.refl) | (apply rv_A <;> apply Eq.refl)); all_goals try apply Eq.refl)))
end Go.Proofs.YtafnhieaeejlcaaDoor

