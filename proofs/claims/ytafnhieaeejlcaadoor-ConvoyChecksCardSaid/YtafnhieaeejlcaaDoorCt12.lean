/- Walks through the functions that the laws of the convoys reach: what each of them gives for what it gets (contracts), written out by a program of ours; without a condition but those that stand in each theorem. -/
import Derived.Test.YtafnhieaeejlcaaDoorCt11
set_option linter.all false
namespace Go.Proofs.YtafnhieaeejlcaaDoor
open Go Go.Ab
set_option maxRecDepth 100000
set_option maxHeartbeats 4000000
attribute [local irreducible] W WL QOp NOp thenQ blockQ FinQ FinR WG FQ Want FinW WI WIL thenI blockI
theorem c98 (t : Truck) (len : Int) (h : ROk len t) : Contract seat 98 [.agg (encTrack t len)] (.int .i64 (t.start + hitR t len t.lo)) := by
  have hn := (hitR_ok h (Int.le_refl t.lo)).2.2
  have s1 := h.s1
  have s2 := h.s2
  refine contract_introW (fn := Tryd.f98) Tryd.func98 rfl (by kernel_rfl) rfl ?_ ?_ ?_
  · exact PureL.cons (.agg _ (pure_track t len)) PureL.nil
  · exact .int _ _
  intro w κ
  repeat' (first
    | (apply WL_q; apply Eq.refl; apply Eq.refl; (first | (apply q_asI <;> apply Eq.refl) | (apply q_ldb <;> apply Eq.refl) | (apply q_fab <;> apply Eq.refl) | (apply q_arith <;> (first | apply Eq.refl | omega)) | (apply q_len <;> apply Eq.refl)))
    | apply W_seq
    | apply W_region
    | apply T_normal
    | apply WL_nil
    | apply W_ret
    | (apply WL_n; apply Eq.refl; (first | (apply n_boxa <;> apply Eq.refl))))
  ((try apply fin_now); first | (apply fin_I; apply Eq.refl; apply Eq.refl; try apply Eq.refl))
  push_cast; omega
theorem c124 (x : Span) (t : Truck) (len : Int) : Contract seat 124 [.agg (encSpan x), .rp (encTrack t len) 0] (.bool (decide (x.hi = len))) := by
  refine contract_introW (fn := Tryd.f124) Tryd.func124 rfl (by kernel_rfl) rfl ?_ ?_ ?_
  · exact PureL.cons (.agg _ (pure_span x)) (PureL.cons (.rp _ _ (pure_track t len)) PureL.nil)
  · exact .bool _
  intro w κ
  repeat' (first
    | (apply WL_q; apply Eq.refl; apply Eq.refl; (first | (apply q_ldb <;> apply Eq.refl) | (apply q_fab <;> apply Eq.refl) | (apply q_cmp <;> apply Eq.refl) | (apply q_asB <;> apply Eq.refl) | (apply q_ldr <;> apply Eq.refl) | (apply q_far <;> apply Eq.refl)))
    | apply W_seq
    | apply W_region
    | apply T_normal
    | apply WL_nil
    | apply W_ret
    | (apply WL_n; apply Eq.refl; (first | (apply n_boxa <;> apply Eq.refl))))
  ((try apply fin_now); first | (apply fin_B; apply Eq.refl; apply Eq.refl; try apply Eq.refl))
/-- The first number from k on at which p is so. -/
def idxF (p : Nat → Bool) : Nat → Nat → Int
  | 0, _ => -1
  | f + 1, k => if p k then k else idxF p f (k + 1)
theorem idxF_end {p : Nat → Bool} {n k : Nat} {r : Int} (hi : idxF p (n - k) k = r) (h : ¬ k < n) : -1 = r := by rw [← hi, show n - k = 0 by omega]; rfl
theorem idxF_hit {p : Nat → Bool} {n k : Nat} {r : Int} (hi : idxF p (n - k) k = r) (h : k < n) (hp : p k = true) : (k : Int) = r := by
  rw [← hi, show n - k = (n - (k + 1)) + 1 by omega, idxF, if_pos hp]
theorem idxF_next {p : Nat → Bool} {n k : Nat} {r : Int} (hi : idxF p (n - k) k = r) (h : k < n) (hp : p k = false) : idxF p (n - (k + 1)) (k + 1) = r := by
  rw [← hi, show n - k = (n - (k + 1)) + 1 by omega, idxF, hp]; rfl
theorem idxF_spec {p : Nat → Bool} {K : Nat} (hK : p K = true) (h : ∀ j, j < K → p j = false) : ∀ (f k : Nat), k ≤ K → K < k + f → idxF p f k = K
  | 0, k, h1, h2 => by omega
  | f + 1, k, h1, h2 => by
    simp only [idxF]
    by_cases e : k = K
    · subst e; rw [if_pos hK]
    · rw [h k (by omega)]; exact idxF_spec hK h f (k + 1) (by omega) (by omega)
theorem c123 (g : Nat → Span) (n : Nat) (hn : n ≤ 100000) (f : FuncId) (c : List D) (p : Span → Bool) (hf : ∀ x, Contract seat f ([.agg (encSpan x)] ++ c) (.bool (p x))) :
    Contract seat 123 [.sl 2 n (fun k => encSpan (g k)), .fn f c] (.int .i64 (idxF (fun k => p (g k)) n 0)) := by
  have hpc : PureL c := fun d hd => (hf default).pureA d (by simp [hd])
  refine contract_introW (fn := Tryd.f123) Tryd.func123 rfl (by kernel_rfl) rfl ?_ ?_ ?_
  · exact PureL.cons (.sl _ _ _ fun _ _ d hd => pure_span _ d hd) (PureL.cons (.fn _ _ hpc) PureL.nil)
  · exact .int _ _
  intro w κ
  repeat' (first
    | (apply WL_q; apply Eq.refl; apply Eq.refl; (first | (apply q_mvI <;> apply Eq.refl) | (apply q_asI <;> apply Eq.refl) | (apply q_cmp <;> apply Eq.refl) | (apply q_arith <;> (first | apply Eq.refl | omega)) | (apply q_len <;> apply Eq.refl) | (apply q_ia <;> (first | apply Eq.refl | omega)) | (apply q_ldra <;> apply Eq.refl) | (apply q_mvS <;> apply Eq.refl) | (apply q_mvF <;> apply Eq.refl)))
    | apply W_seq
    | apply W_region
    | apply T_normal
    | apply WL_nil
    | apply T_exit
    | apply T_ret
    | apply B_normal
    | apply B_ret
    | apply B_exit_eq
    | apply W_skip
    | apply W_exit
    | apply W_ret
    | apply W_block
    | (apply W_cD; apply Eq.refl; intro _; rotate_left 1; intro _; rotate_left 1)
    | (apply W_cond; apply Eq.refl; intro _; rotate_left 1; intro _; rotate_left 1))
  refine W_loopR [0, 1, 7] [] (fun k : Nat => [(8, .int .i64 k)]) (fun _ => []) (fun _ => []) (fun k => k ≤ n ∧ idxF (fun k => p (g k)) (n - k) k = idxF (fun k => p (g k)) n 0) (fun k => n - k) 0 ⟨Nat.zero_le _, rfl⟩ (by refine ⟨?_, ?_, ?_⟩ <;> repeat' (first | exact trivial | apply And.intro | apply Eq.refl | (apply toI; apply Eq.refl; first | omega | assumption) | (apply toB; apply Eq.refl; repeat' (first | apply Eq.refl | apply consS | (apply consI; first | apply Eq.refl | omega | assumption))))) (fun k h hi => ?_)
  have hk := hi.1
  repeat' (first
    | (apply WL_q; apply Eq.refl; apply Eq.refl; (first | (apply q_mvI <;> apply Eq.refl) | (apply q_asI <;> apply Eq.refl) | (apply q_cmp <;> apply Eq.refl) | (apply q_arith <;> (first | apply Eq.refl | omega)) | (apply q_len <;> apply Eq.refl) | (apply q_ia <;> (first | apply Eq.refl | omega)) | (apply q_ldra <;> apply Eq.refl) | (apply q_mvS <;> apply Eq.refl) | (apply q_mvF <;> apply Eq.refl)))
    | apply W_seq
    | apply W_region
    | apply T_normal
    | apply WL_nil
    | apply T_exit
    | apply T_ret
    | apply B_normal
    | apply B_ret
    | apply B_exit_eq
    | apply W_skip
    | apply W_exit
    | apply W_ret
    | apply W_block
    | (apply WL_callv; apply Eq.refl; apply Eq.refl; apply Eq.refl; exact (hf (g (k : Int).toNat)); (focus ((repeat' (first | exact FzL.nil | refine FzL.cons _ _ _ _ ?_ ?_ | exact Fz.os _ _ _ _ _ _ rfl rfl | exact Fz.bx _ _ _ _ rfl rfl | refine Fz.fn _ _ _ ?_ | exact Fz.same _ | exact fz_refl _ _)); done)); apply Eq.refl; apply Eq.refl)
    | (apply W_cD; apply Eq.refl; intro _; rotate_left 1; intro _; rotate_left 1)
    | (apply W_cond; apply Eq.refl; intro _; rotate_left 1; intro _; rotate_left 1))
  all_goals try simp only [Int.toNat_natCast] at *
  all_goals first
    | (refine ⟨k + 1, ⟨by omega, idxF_next hi.2 (by omega) (by assumption)⟩, by omega, (by apply reach_now; refine ⟨?_, ?_, ?_, ?_, ?_⟩ <;> repeat' (first | exact trivial | apply And.intro | apply Eq.refl | (apply toI; apply Eq.refl; first | omega | assumption) | (apply toB; apply Eq.refl; repeat' (first | apply Eq.refl | apply consS | (apply consI; first | apply Eq.refl | omega | assumption)))))⟩; done)
    | (((try apply fin_now); first | (apply fin_I; apply Eq.refl; apply Eq.refl; try apply Eq.refl)); exact idxF_hit hi.2 (by omega) (by assumption))
    | (((try apply fin_now); first | (apply fin_I; apply Eq.refl; apply Eq.refl; try apply Eq.refl)); exact idxF_end hi.2 (by omega))
theorem c113 (g : Nat → Int) (n : Nat) (hn : n ≤ 100000) (v : Int) : Contract seat 113 [.sl 1 n (fun k => encI (g k)), .int .i64 v] (.int .i64 (idxF (fun k => decide (v = g k)) n 0)) := by
  refine contract_introW (fn := Tryd.f113) Tryd.func113 rfl (by kernel_rfl) rfl ?_ ?_ ?_
  · exact PureL.cons (.sl _ _ _ fun _ _ d hd => pure_I _ d hd) (PureL.cons (.int _ _) PureL.nil)
  · exact .int _ _
  intro w κ
  repeat' (first
    | (apply WL_q; apply Eq.refl; apply Eq.refl; (first | (apply q_mvI <;> apply Eq.refl) | (apply q_asI <;> apply Eq.refl) | (apply q_cmp <;> apply Eq.refl) | (apply q_ldr <;> apply Eq.refl) | (apply q_arith <;> (first | apply Eq.refl | omega)) | (apply q_len <;> apply Eq.refl) | (apply q_ia <;> (first | apply Eq.refl | omega)) | (apply q_mvS <;> apply Eq.refl)))
    | apply W_seq
    | apply W_region
    | apply T_normal
    | apply WL_nil
    | apply T_exit
    | apply T_ret
    | apply B_normal
    | apply B_ret
    | apply B_exit_eq
    | apply W_skip
    | apply W_exit
    | apply W_ret
    | apply W_block
    | (apply W_cD; apply Eq.refl; intro _; rotate_left 1; intro _; rotate_left 1))
  refine W_loopR [0, 1, 7] [] (fun k : Nat => [(8, .int .i64 k)]) (fun _ => []) (fun _ => []) (fun k => k ≤ n ∧ idxF (fun k => decide (v = g k)) (n - k) k = idxF (fun k => decide (v = g k)) n 0) (fun k => n - k) 0 ⟨Nat.zero_le _, rfl⟩ (by refine ⟨?_, ?_, ?_⟩ <;> repeat' (first | exact trivial | apply And.intro | apply Eq.refl | (apply toI; apply Eq.refl; first | omega | assumption) | (apply toB; apply Eq.refl; repeat' (first | apply Eq.refl | apply consS | (apply consI; first | apply Eq.refl | omega | assumption))))) (fun k h hi => ?_)
  have hk := hi.1
  repeat' (first
    | (apply WL_q; apply Eq.refl; apply Eq.refl; (first | (apply q_mvI <;> apply Eq.refl) | (apply q_asI <;> apply Eq.refl) | (apply q_cmp <;> apply Eq.refl) | (apply q_ldr <;> apply Eq.refl) | (apply q_arith <;> (first | apply Eq.refl | omega)) | (apply q_len <;> apply Eq.refl) | (apply q_ia <;> (first | apply Eq.refl | omega)) | (apply q_mvS <;> apply Eq.refl)))
    | apply W_seq
    | apply W_region
    | apply T_normal
    | apply WL_nil
    | apply T_exit
    | apply T_ret
    | apply B_normal
    | apply B_ret
    | apply B_exit_eq
    | apply W_skip
    | apply W_exit
    | apply W_ret
    | apply W_block
    | (apply W_cD; apply Eq.refl; intro _; rotate_left 1; intro _; rotate_left 1))
  all_goals try simp only [Int.toNat_natCast] at *
  all_goals first
    | (refine ⟨k + 1, ⟨by omega, idxF_next hi.2 (by omega) (by simp; assumption)⟩, by omega, (by apply reach_now; refine ⟨?_, ?_, ?_, ?_, ?_⟩ <;> repeat' (first | exact trivial | apply And.intro | apply Eq.refl | (apply toI; apply Eq.refl; first | omega | assumption) | (apply toB; apply Eq.refl; repeat' (first | apply Eq.refl | apply consS | (apply consI; first | apply Eq.refl | omega | assumption)))))⟩; done)
    | (((try apply fin_now); first | (apply fin_I; apply Eq.refl; apply Eq.refl; try apply Eq.refl)); exact idxF_hit hi.2 (by omega) (by simp; assumption))
    | (((try apply fin_now); first | (apply fin_I; apply Eq.refl; apply Eq.refl; try apply Eq.refl)); exact idxF_end hi.2 (by omega))
def maxN (g : Nat → Int) : Nat → Int
  | 0 => g 0
  | k + 1 => max (maxN g k) (g (k + 1))
theorem c114 (g : Nat → Int) (n : Nat) (hn : n ≤ 100000) (h0 : 1 ≤ n) : Contract seat 114 [.sl 1 n (fun k => encI (g k))] (.int .i64 (maxN g (n - 1))) := by
  refine contract_introW (fn := Tryd.f114) Tryd.func114 rfl (by kernel_rfl) rfl ?_ ?_ ?_
  · exact PureL.cons (.sl _ _ _ fun _ _ d hd => pure_I _ d hd) PureL.nil
  · exact .int _ _
  intro w κ
  repeat' (first
    | (apply WL_q; apply Eq.refl; apply Eq.refl; (first | (apply q_mvI <;> apply Eq.refl) | (apply q_asI <;> apply Eq.refl) | (apply q_cmp <;> apply Eq.refl) | (apply q_ldr <;> apply Eq.refl) | (apply q_arith <;> (first | apply Eq.refl | omega)) | (apply q_len <;> apply Eq.refl) | (apply q_ia <;> (first | apply Eq.refl | omega)) | (apply q_max <;> apply Eq.refl) | (apply q_mvS <;> apply Eq.refl)))
    | apply W_seq
    | apply W_region
    | apply T_normal
    | apply WL_nil
    | apply T_exit
    | apply B_normal
    | apply B_exit_eq
    | apply W_skip
    | apply W_exit
    | apply W_ret
    | apply W_block
    | (apply WL_n; apply Eq.refl; (first | (apply n_sto <;> (first | apply Eq.refl | omega))))
    | (apply W_cD; apply Eq.refl; intro _; rotate_left 1; intro _; rotate_left 1))
  any_goals first | (exfalso; omega) | skip
  refine W_loopR [0, 2] [] (fun k : Nat => [(3, .int .i64 (maxN g (k - 1))), (4, .int .i64 k)]) (fun _ => []) (fun _ => []) (fun k => 1 ≤ k ∧ k ≤ n) (fun k => n - k) 1 ⟨Nat.le_refl _, h0⟩ (by refine ⟨?_, ?_, ?_⟩ <;> repeat' (first | exact trivial | apply And.intro | apply Eq.refl | (apply toI; apply Eq.refl; first | omega | assumption) | (apply toB; apply Eq.refl; repeat' (first | apply Eq.refl | apply consS | (apply consI; first | apply Eq.refl | omega | assumption))))) (fun k h hi => ?_)
  have hk := hi.1
  have hm : maxN g (k + 1 - 1) = max (maxN g (k - 1)) (g (k : Int).toNat) := by
    obtain ⟨j, rfl⟩ : ∃ j, k = j + 1 := ⟨k - 1, by omega⟩
    rfl
  repeat' (first
    | (apply WL_q; apply Eq.refl; apply Eq.refl; (first | (apply q_mvI <;> apply Eq.refl) | (apply q_asI <;> apply Eq.refl) | (apply q_cmp <;> apply Eq.refl) | (apply q_ldr <;> apply Eq.refl) | (apply q_arith <;> (first | apply Eq.refl | omega)) | (apply q_len <;> apply Eq.refl) | (apply q_ia <;> (first | apply Eq.refl | omega)) | (apply q_max <;> apply Eq.refl) | (apply q_mvS <;> apply Eq.refl)))
    | apply W_seq
    | apply W_region
    | apply T_normal
    | apply WL_nil
    | apply T_exit
    | apply B_normal
    | apply B_exit_eq
    | apply W_skip
    | apply W_exit
    | apply W_ret
    | apply W_block
    | (apply WL_n; apply Eq.refl; (first | (apply n_sto <;> (first | apply Eq.refl | omega))))
    | (apply W_cD; apply Eq.refl; intro _; rotate_left 1; intro _; rotate_left 1))
  · refine ⟨k + 1, ⟨by omega, by omega⟩, by omega, (by apply reach_now; refine ⟨?_, ?_, ?_, ?_, ?_⟩ <;> repeat' (first | exact trivial | apply And.intro | apply Eq.refl | (apply toI; apply Eq.refl; first | omega | assumption) | (apply toB; apply Eq.refl; repeat' (first | apply Eq.refl | apply consS | (apply consI; first | apply Eq.refl | omega | assumption)))))⟩
  · obtain rfl : k = n := by omega
    ((try apply fin_now); first | (apply fin_I; apply Eq.refl; apply Eq.refl; try apply Eq.refl))
theorem posR_lohi {t : Truck} {len : Int} (h : ROk len t) : ∀ k, posR t len t.lo k ≤ posR t len t.hi k
  | 0 => Int.le_refl _
  | k + 1 => by
    have ih := posR_lohi h k
    have h2 := h.p2
    have h3 := h.p1
    rw [posR_next h.l1 h.ho h.so h.p1 k, posR_next h.l1 h.ho h.so (by omega) k]
    omega
theorem hit_lohi {t : Truck} {len : Int} (h : ROk len t) : hitR t len t.hi ≤ hitR t len t.lo := by
  obtain ⟨e1, e2, _⟩ := hitR_ok h (Int.le_refl t.lo)
  obtain ⟨f1, f2, _⟩ := hitR_ok h h.p2
  have hb := (posR_le h.l1 h.ho (show 1 ≤ t.hi by have := h.p1; have := h.p2; omega) (hitR t len t.lo)).2
  have := posR_lohi h (hitR t len t.lo)
  have he : posR t len t.hi (hitR t len t.lo) = len := by omega
  exact Nat.le_of_not_lt fun hlt => f2 _ hlt he
theorem c112 (t : Truck) (len : Int) (h : ROk len t) : Contract seat 112 [.agg (encTrack t len)] (.int .i64 (t.start + hitR t len t.hi)) := by
  have hn := (hitR_ok h (Int.le_refl t.lo)).2.2
  obtain ⟨f1, f2, f3⟩ := hitR_ok h h.p2
  have s1 := h.s1
  have s2 := h.s2
  have hx : idxF (fun k => decide ((gone t len k).hi = len)) (hitR t len t.lo + 1) 0 = hitR t len t.hi := idxF_spec (decide_eq_true f1) (fun j hj => decide_eq_false (f2 j hj)) _ 0 (Nat.zero_le _) (by have := hit_lohi h; omega)
  have c1 := c123 (gone t len) (hitR t len t.lo + 1) (by omega) 124 [.rp (encTrack t len) 0] (fun x => decide (x.hi = len)) (fun x => c124 x t len)
  rw [hx] at c1
  refine contract_introW (fn := Tryd.f112) Tryd.func112 rfl (by kernel_rfl) rfl ?_ ?_ ?_
  · exact PureL.cons (.agg _ (pure_track t len)) PureL.nil
  · exact .int _ _
  intro w κ
  repeat' (first
    | (apply WL_q; apply Eq.refl; apply Eq.refl; (first | (apply q_asI <;> apply Eq.refl) | (apply q_ldb <;> apply Eq.refl) | (apply q_fab <;> apply Eq.refl) | (apply q_arith <;> (first | apply Eq.refl | omega))))
    | apply W_seq
    | apply W_region
    | apply T_normal
    | apply WL_nil
    | apply W_ret
    | (apply WL_n; apply Eq.refl; (first | (apply n_boxa <;> apply Eq.refl)))
    | apply W_regionG
    | (apply WG_nil; kernel_rfl)
    | (apply WG_q; (first | (apply want_none; apply Eq.refl) | (apply want_some; apply Eq.refl; apply Eq.refl; apply Eq.refl)); apply Eq.refl; first | (apply fq_bld <;> apply Eq.refl) | (apply fq_blda <;> apply Eq.refl) | (apply fq_fn; apply Eq.refl) | (apply fq_mf; apply Eq.refl) | (apply FQ_intro; intro _; (first | (apply q_asI <;> apply Eq.refl) | (apply q_ldb <;> apply Eq.refl) | (apply q_fab <;> apply Eq.refl) | (apply q_arith <;> (first | apply Eq.refl | omega)))))
    | (apply WG_calls; (first | (apply want_none; apply Eq.refl) | (apply want_some; apply Eq.refl; apply Eq.refl; apply Eq.refl)); apply Eq.refl; apply Eq.refl; exact (fz_refl _ _); exact (c1); apply Eq.refl)
    | (apply WG_calls; (first | (apply want_none; apply Eq.refl) | (apply want_some; apply Eq.refl; apply Eq.refl; apply Eq.refl)); apply Eq.refl; apply Eq.refl; rotate_left 1; exact (c1); apply Eq.refl; rotate_left 1; (focus ((repeat' (first | exact FzL.nil | refine FzL.cons _ _ _ _ ?_ ?_ | exact Fz.os _ _ _ _ _ _ rfl rfl | exact Fz.bx _ _ _ _ rfl rfl | refine Fz.fn _ _ _ ?_ | exact Fz.same _ | exact fz_refl _ _)); done))))
  ((try apply fin_now); first | (apply fin_I; apply Eq.refl; apply Eq.refl; try apply Eq.refl))
end Go.Proofs.YtafnhieaeejlcaaDoor

