/- Walks by computing: what each function of the program that the laws reach gives for what it gets, as plain Lean, and that it is so; without a condition but those that stand in each theorem. -/
import Derived.Test.YtafnhieaeejlcaaDoorW1
import Derived.Test.YtafnhieaeejlcaaDoorW2
import Derived.Test.YtafnhieaeejlcaaDoorW3
set_option linter.all false
namespace Go.Proofs.YtafnhieaeejlcaaDoor
open Go Go.Ab
set_option maxRecDepth 100000
set_option maxHeartbeats 4000000
attribute [local irreducible] W WL QOp NOp thenQ blockQ FinQ WG FQ Want FinW WI WIL thenI blockI
theorem c98 (t : Truck) (len : Int) (h : ROk len t) : Contract seat 98 [.agg (encTrack t len)] (.int .i64 (t.start + hitR t len t.lo)) := by
  have hn := (hitR_ok h (Int.le_refl t.lo)).2.2
  have s1 := h.s1
  have s2 := h.s2
  refine contract_introW (fn := Tryd.f98) Tryd.func98 rfl (by kernel_rfl) rfl ?_ ?_ ?_
  · exact PureL.cons (.agg _ (pure_track t len)) PureL.nil
  · exact .int _ _
  intro w κ
  repeat' (first
    | (apply WL_q; apply Eq.refl; apply Eq.refl; (first | (apply q_asI <;> apply Eq.refl) | (apply q_ldb <;> apply Eq.refl) | (apply q_fab <;> apply Eq.refl) | (apply q_arith <;> (first | apply Eq.refl | omega)) | (apply q_len <;> apply Eq.refl)))
    | apply W_seq
    | apply W_region
    | apply T_normal
    | apply WL_nil
    | apply W_ret
    | (apply WL_n; apply Eq.refl; (first | (apply n_boxa <;> apply Eq.refl))))
  ((try apply fin_now); first | (apply fin_I; apply Eq.refl; apply Eq.refl; try apply Eq.refl))
  push_cast; omega
theorem c124 (x : Span) (t : Truck) (len : Int) : Contract seat 124 [.agg (encSpan x), .rp (encTrack t len) 0] (.bool (decide (x.hi = len))) := by
  refine contract_introW (fn := Tryd.f124) Tryd.func124 rfl (by kernel_rfl) rfl ?_ ?_ ?_
  · exact PureL.cons (.agg _ (pure_span x)) (PureL.cons (.rp _ _ (pure_track t len)) PureL.nil)
  · exact .bool _
  intro w κ
  repeat' (first
    | (apply WL_q; apply Eq.refl; apply Eq.refl; (first | (apply q_ldb <;> apply Eq.refl) | (apply q_fab <;> apply Eq.refl) | (apply q_cmp <;> apply Eq.refl) | (apply q_asB <;> apply Eq.refl) | (apply q_ldr <;> apply Eq.refl) | (apply q_far <;> apply Eq.refl)))
    | apply W_seq
    | apply W_region
    | apply T_normal
    | apply WL_nil
    | apply W_ret
    | (apply WL_n; apply Eq.refl; (first | (apply n_boxa <;> apply Eq.refl))))
  ((try apply fin_now); first | (apply fin_B; apply Eq.refl; apply Eq.refl; try apply Eq.refl))
def idxF (p : Nat → Bool) : Nat → Nat → Int
  | 0, _ => -1
  | f + 1, k => if p k then k else idxF p f (k + 1)
theorem idxF_end {p : Nat → Bool} {n k : Nat} {r : Int} (hi : idxF p (n - k) k = r) (h : ¬ k < n) : -1 = r := by rw [← hi, show n - k = 0 by omega]; rfl
theorem idxF_hit {p : Nat → Bool} {n k : Nat} {r : Int} (hi : idxF p (n - k) k = r) (h : k < n) (hp : p k = true) : (k : Int) = r := by
  rw [← hi, show n - k = (n - (k + 1)) + 1 by omega, idxF, if_pos hp]
theorem idxF_next {p : Nat → Bool} {n k : Nat} {r : Int} (hi : idxF p (n - k) k = r) (h : k < n) (hp : p k = false) : idxF p (n - (k + 1)) (k + 1) = r := by
  rw [← hi, show n - k = (n - (k + 1)) + 1 by omega, idxF, hp]; rfl
theorem idxF_spec {p : Nat → Bool} {K : Nat} (hK : p K = true) (h : ∀ j, j < K → p j = false) : ∀ (f k : Nat), k ≤ K → K < k + f → idxF p f k = K
  | 0, k, h1, h2 => by omega
  | f + 1, k, h1, h2 => by
    simp only [idxF]
    by_cases e : k = K
    · subst e; rw [if_pos hK]
    · rw [h k (by omega)]; exact idxF_spec hK h f (k + 1) (by omega) (by omega)
theorem c123 (g : Nat → Span) (n : Nat) (hn : n ≤ 100000) (f : FuncId) (c : List D) (p : Span → Bool) (hf : ∀ x, Contract seat f ([.agg (encSpan x)] ++ c) (.bool (p x))) :
    Contract seat 123 [.sl 2 n (fun k => encSpan (g k)), .fn f c] (.int .i64 (idxF (fun k => p (g k)) n 0)) := by
  have hpc : PureL c := fun d hd => (hf default).pureA d (by simp [hd])
  refine contract_introW (fn := Tryd.f123) Tryd.func123 rfl (by kernel_rfl) rfl ?_ ?_ ?_
  · exact PureL.cons (.sl _ _ _ fun _ _ d hd => pure_span _ d hd) (PureL.cons (.fn _ _ hpc) PureL.nil)
  · exact .int _ _
  intro w κ
  repeat' (first
    | (apply WL_q; apply Eq.refl; apply Eq.refl; (first | (apply q_mvI <;> apply Eq.refl) | (apply q_asI <;> apply Eq.refl) | (apply q_cmp <;> apply Eq.refl) | (apply q_arith <;> (first | apply Eq.refl | omega)) | (apply q_len <;> apply Eq.refl) | (apply q_ia <;> (first | apply Eq.refl | omega)) | (apply q_ldra <;> apply Eq.refl) | (apply q_mvS <;> apply Eq.refl) | (apply q_mvF <;> apply Eq.refl)))
    | apply W_seq
    | apply W_region
    | apply T_normal
    | apply WL_nil
    | apply T_exit
    | apply T_ret
    | apply B_normal
    | apply B_ret
    | apply B_exit_eq
    | apply W_skip
    | apply W_exit
    | apply W_ret
    | apply W_block
    | (apply W_cD; apply Eq.refl; intro _; rotate_left 1; intro _; rotate_left 1)
    | (apply W_cond; apply Eq.refl; intro _; rotate_left 1; intro _; rotate_left 1))
  refine W_loopR [0, 1, 7] [] (fun k : Nat => [(8, .int .i64 k)]) (fun _ => []) (fun _ => []) (fun k => k ≤ n ∧ idxF (fun k => p (g k)) (n - k) k = idxF (fun k => p (g k)) n 0) (fun k => n - k) 0 ⟨Nat.zero_le _, rfl⟩ (by refine ⟨?_, ?_, ?_⟩ <;> repeat' (first | exact trivial | apply And.intro | apply Eq.refl | (apply toI; apply Eq.refl; first | omega | assumption) | (apply toB; apply Eq.refl; repeat' (first | apply Eq.refl | apply consS | (apply consI; first | apply Eq.refl | omega | assumption))))) (fun k h hi => ?_)
  have hk := hi.1
  repeat' (first
    | (apply WL_q; apply Eq.refl; apply Eq.refl; (first | (apply q_mvI <;> apply Eq.refl) | (apply q_asI <;> apply Eq.refl) | (apply q_cmp <;> apply Eq.refl) | (apply q_arith <;> (first | apply Eq.refl | omega)) | (apply q_len <;> apply Eq.refl) | (apply q_ia <;> (first | apply Eq.refl | omega)) | (apply q_ldra <;> apply Eq.refl) | (apply q_mvS <;> apply Eq.refl) | (apply q_mvF <;> apply Eq.refl)))
    | apply W_seq
    | apply W_region
    | apply T_normal
    | apply WL_nil
    | apply T_exit
    | apply T_ret
    | apply B_normal
    | apply B_ret
    | apply B_exit_eq
    | apply W_skip
    | apply W_exit
    | apply W_ret
    | apply W_block
    | (apply WL_callv; apply Eq.refl; apply Eq.refl; apply Eq.refl; exact (hf (g (k : Int).toNat)); (focus ((repeat' (first | exact FzL.nil | refine FzL.cons _ _ _ _ ?_ ?_ | exact Fz.os _ _ _ _ _ _ rfl rfl | exact Fz.bx _ _ _ _ rfl rfl | refine Fz.fn _ _ _ ?_ | exact Fz.same _ | exact fz_refl _ _)); done)); apply Eq.refl; apply Eq.refl)
    | (apply W_cD; apply Eq.refl; intro _; rotate_left 1; intro _; rotate_left 1)
    | (apply W_cond; apply Eq.refl; intro _; rotate_left 1; intro _; rotate_left 1))
  all_goals try simp only [Int.toNat_natCast] at *
  all_goals first
    | (refine ⟨k + 1, ⟨by omega, idxF_next hi.2 (by omega) (by assumption)⟩, by omega, (by apply reach_now; refine ⟨?_, ?_, ?_, ?_, ?_⟩ <;> repeat' (first | exact trivial | apply And.intro | apply Eq.refl | (apply toI; apply Eq.refl; first | omega | assumption) | (apply toB; apply Eq.refl; repeat' (first | apply Eq.refl | apply consS | (apply consI; first | apply Eq.refl | omega | assumption)))))⟩; done)
    | (((try apply fin_now); first | (apply fin_I; apply Eq.refl; apply Eq.refl; try apply Eq.refl)); exact idxF_hit hi.2 (by omega) (by assumption))
    | (((try apply fin_now); first | (apply fin_I; apply Eq.refl; apply Eq.refl; try apply Eq.refl)); exact idxF_end hi.2 (by omega))
theorem c113 (g : Nat → Int) (n : Nat) (hn : n ≤ 100000) (v : Int) : Contract seat 113 [.sl 1 n (fun k => encI (g k)), .int .i64 v] (.int .i64 (idxF (fun k => decide (v = g k)) n 0)) := by
  refine contract_introW (fn := Tryd.f113) Tryd.func113 rfl (by kernel_rfl) rfl ?_ ?_ ?_
  · exact PureL.cons (.sl _ _ _ fun _ _ d hd => pure_I _ d hd) (PureL.cons (.int _ _) PureL.nil)
  · exact .int _ _
  intro w κ
  repeat' (first
    | (apply WL_q; apply Eq.refl; apply Eq.refl; (first | (apply q_mvI <;> apply Eq.refl) | (apply q_asI <;> apply Eq.refl) | (apply q_cmp <;> apply Eq.refl) | (apply q_ldr <;> apply Eq.refl) | (apply q_arith <;> (first | apply Eq.refl | omega)) | (apply q_len <;> apply Eq.refl) | (apply q_ia <;> (first | apply Eq.refl | omega)) | (apply q_mvS <;> apply Eq.refl)))
    | apply W_seq
    | apply W_region
    | apply T_normal
    | apply WL_nil
    | apply T_exit
    | apply T_ret
    | apply B_normal
    | apply B_ret
    | apply B_exit_eq
    | apply W_skip
    | apply W_exit
    | apply W_ret
    | apply W_block
    | (apply W_cD; apply Eq.refl; intro _; rotate_left 1; intro _; rotate_left 1))
  refine W_loopR [0, 1, 7] [] (fun k : Nat => [(8, .int .i64 k)]) (fun _ => []) (fun _ => []) (fun k => k ≤ n ∧ idxF (fun k => decide (v = g k)) (n - k) k = idxF (fun k => decide (v = g k)) n 0) (fun k => n - k) 0 ⟨Nat.zero_le _, rfl⟩ (by refine ⟨?_, ?_, ?_⟩ <;> repeat' (first | exact trivial | apply And.intro | apply Eq.refl | (apply toI; apply Eq.refl; first | omega | assumption) | (apply toB; apply Eq.refl; repeat' (first | apply Eq.refl | apply consS | (apply consI; first | apply Eq.refl | omega | assumption))))) (fun k h hi => ?_)
  have hk := hi.1
  repeat' (first
    | (apply WL_q; apply Eq.refl; apply Eq.refl; (first | (apply q_mvI <;> apply Eq.refl) | (apply q_asI <;> apply Eq.refl) | (apply q_cmp <;> apply Eq.refl) | (apply q_ldr <;> apply Eq.refl) | (apply q_arith <;> (first | apply Eq.refl | omega)) | (apply q_len <;> apply Eq.refl) | (apply q_ia <;> (first | apply Eq.refl | omega)) | (apply q_mvS <;> apply Eq.refl)))
    | apply W_seq
    | apply W_region
    | apply T_normal
    | apply WL_nil
    | apply T_exit
    | apply T_ret
    | apply B_normal
    | apply B_ret
    | apply B_exit_eq
    | apply W_skip
    | apply W_exit
    | apply W_ret
    | apply W_block
    | (apply W_cD; apply Eq.refl; intro _; rotate_left 1; intro _; rotate_left 1))
  all_goals try simp only [Int.toNat_natCast] at *
  all_goals first
    | (refine ⟨k + 1, ⟨by omega, idxF_next hi.2 (by omega) (by simp; assumption)⟩, by omega, (by apply reach_now; refine ⟨?_, ?_, ?_, ?_, ?_⟩ <;> repeat' (first | exact trivial | apply And.intro | apply Eq.refl | (apply toI; apply Eq.refl; first | omega | assumption) | (apply toB; apply Eq.refl; repeat' (first | apply Eq.refl | apply consS | (apply consI; first | apply Eq.refl | omega | assumption)))))⟩; done)
    | (((try apply fin_now); first | (apply fin_I; apply Eq.refl; apply Eq.refl; try apply Eq.refl)); exact idxF_hit hi.2 (by omega) (by simp; assumption))
    | (((try apply fin_now); first | (apply fin_I; apply Eq.refl; apply Eq.refl; try apply Eq.refl)); exact idxF_end hi.2 (by omega))
def maxN (g : Nat → Int) : Nat → Int
  | 0 => g 0
  | k + 1 => max (maxN g k) (g (k + 1))
theorem c114 (g : Nat → Int) (n : Nat) (hn : n ≤ 100000) (h0 : 1 ≤ n) : Contract seat 114 [.sl 1 n (fun k => encI (g k))] (.int .i64 (maxN g (n - 1))) := by
  refine contract_introW (fn := Tryd.f114) Tryd.func114 rfl (by kernel_rfl) rfl ?_ ?_ ?_
  · exact PureL.cons (.sl _ _ _ fun _ _ d hd => pure_I _ d hd) PureL.nil
  · exact .int _ _
  intro w κ
  repeat' (first
    | (apply WL_q; apply Eq.refl; apply Eq.refl; (first | (apply q_mvI <;> apply Eq.refl) | (apply q_asI <;> apply Eq.refl) | (apply q_cmp <;> apply Eq.refl) | (apply q_ldr <;> apply Eq.refl) | (apply q_arith <;> (first | apply Eq.refl | omega)) | (apply q_len <;> apply Eq.refl) | (apply q_ia <;> (first | apply Eq.refl | omega)) | (apply q_max <;> apply Eq.refl) | (apply q_mvS <;> apply Eq.refl)))
    | apply W_seq
    | apply W_region
    | apply T_normal
    | apply WL_nil
    | apply T_exit
    | apply B_normal
    | apply B_exit_eq
    | apply W_skip
    | apply W_exit
    | apply W_ret
    | apply W_block
    | (apply WL_n; apply Eq.refl; (first | (apply n_sto <;> (first | apply Eq.refl | omega))))
    | (apply W_cD; apply Eq.refl; intro _; rotate_left 1; intro _; rotate_left 1))
  any_goals first | (exfalso; omega) | skip
  refine W_loopR [0, 2] [] (fun k : Nat => [(3, .int .i64 (maxN g (k - 1))), (4, .int .i64 k)]) (fun _ => []) (fun _ => []) (fun k => 1 ≤ k ∧ k ≤ n) (fun k => n - k) 1 ⟨Nat.le_refl _, h0⟩ (by refine ⟨?_, ?_, ?_⟩ <;> repeat' (first | exact trivial | apply And.intro | apply Eq.refl | (apply toI; apply Eq.refl; first | omega | assumption) | (apply toB; apply Eq.refl; repeat' (first | apply Eq.refl | apply consS | (apply consI; first | apply Eq.refl | omega | assumption))))) (fun k h hi => ?_)
  have hk := hi.1
  have hm : maxN g (k + 1 - 1) = max (maxN g (k - 1)) (g (k : Int).toNat) := by
    obtain ⟨j, rfl⟩ : ∃ j, k = j + 1 := ⟨k - 1, by omega⟩
    rfl
  repeat' (first
    | (apply WL_q; apply Eq.refl; apply Eq.refl; (first | (apply q_mvI <;> apply Eq.refl) | (apply q_asI <;> apply Eq.refl) | (apply q_cmp <;> apply Eq.refl) | (apply q_ldr <;> apply Eq.refl) | (apply q_arith <;> (first | apply Eq.refl | omega)) | (apply q_len <;> apply Eq.refl) | (apply q_ia <;> (first | apply Eq.refl | omega)) | (apply q_max <;> apply Eq.refl) | (apply q_mvS <;> apply Eq.refl)))
    | apply W_seq
    | apply W_region
    | apply T_normal
    | apply WL_nil
    | apply T_exit
    | apply B_normal
    | apply B_exit_eq
    | apply W_skip
    | apply W_exit
    | apply W_ret
    | apply W_block
    | (apply WL_n; apply Eq.refl; (first | (apply n_sto <;> (first | apply Eq.refl | omega))))
    | (apply W_cD; apply Eq.refl; intro _; rotate_left 1; intro _; rotate_left 1))
  · refine ⟨k + 1, ⟨by omega, by omega⟩, by omega, (by apply reach_now; refine ⟨?_, ?_, ?_, ?_, ?_⟩ <;> repeat' (first | exact trivial | apply And.intro | apply Eq.refl | (apply toI; apply Eq.refl; first | omega | assumption) | (apply toB; apply Eq.refl; repeat' (first | apply Eq.refl | apply consS | (apply consI; first | apply Eq.refl | omega | assumption)))))⟩
  · obtain rfl : k = n := by omega
    ((try apply fin_now); first | (apply fin_I; apply Eq.refl; apply Eq.refl; try apply Eq.refl))
theorem posR_lohi {t : Truck} {len : Int} (h : ROk len t) : ∀ k, posR t len t.lo k ≤ posR t len t.hi k
  | 0 => Int.le_refl _
  | k + 1 => by
    have ih := posR_lohi h k
    have h2 := h.p2
    have h3 := h.p1
    rw [posR_next h.l1 h.ho h.so h.p1 k, posR_next h.l1 h.ho h.so (by omega) k]
    omega
theorem hit_lohi {t : Truck} {len : Int} (h : ROk len t) : hitR t len t.hi ≤ hitR t len t.lo := by
  obtain ⟨e1, e2, _⟩ := hitR_ok h (Int.le_refl t.lo)
  obtain ⟨f1, f2, _⟩ := hitR_ok h h.p2
  have hb := (posR_le h.l1 h.ho (show 1 ≤ t.hi by have := h.p1; have := h.p2; omega) (hitR t len t.lo)).2
  have := posR_lohi h (hitR t len t.lo)
  have he : posR t len t.hi (hitR t len t.lo) = len := by omega
  exact Nat.le_of_not_lt fun hlt => f2 _ hlt he
theorem c112 (t : Truck) (len : Int) (h : ROk len t) : Contract seat 112 [.agg (encTrack t len)] (.int .i64 (t.start + hitR t len t.hi)) := by
  have hn := (hitR_ok h (Int.le_refl t.lo)).2.2
  obtain ⟨f1, f2, f3⟩ := hitR_ok h h.p2
  have s1 := h.s1
  have s2 := h.s2
  have hx : idxF (fun k => decide ((gone t len k).hi = len)) (hitR t len t.lo + 1) 0 = hitR t len t.hi := idxF_spec (decide_eq_true f1) (fun j hj => decide_eq_false (f2 j hj)) _ 0 (Nat.zero_le _) (by have := hit_lohi h; omega)
  have c1 := c123 (gone t len) (hitR t len t.lo + 1) (by omega) 124 [.rp (encTrack t len) 0] (fun x => decide (x.hi = len)) (fun x => c124 x t len)
  rw [hx] at c1
  refine contract_introW (fn := Tryd.f112) Tryd.func112 rfl (by kernel_rfl) rfl ?_ ?_ ?_
  · exact PureL.cons (.agg _ (pure_track t len)) PureL.nil
  · exact .int _ _
  intro w κ
  repeat' (first
    | (apply WL_q; apply Eq.refl; apply Eq.refl; (first | (apply q_asI <;> apply Eq.refl) | (apply q_ldb <;> apply Eq.refl) | (apply q_fab <;> apply Eq.refl) | (apply q_arith <;> (first | apply Eq.refl | omega))))
    | apply W_seq
    | apply W_region
    | apply T_normal
    | apply WL_nil
    | apply W_ret
    | (apply WL_n; apply Eq.refl; (first | (apply n_boxa <;> apply Eq.refl)))
    | apply W_regionG
    | (apply WG_nil; kernel_rfl)
    | (apply WG_q; (first | (apply want_none; apply Eq.refl) | (apply want_some; apply Eq.refl; apply Eq.refl; apply Eq.refl)); apply Eq.refl; first | (apply fq_bld <;> apply Eq.refl) | (apply fq_blda <;> apply Eq.refl) | (apply fq_fn; apply Eq.refl) | (apply fq_mf; apply Eq.refl) | (apply FQ_intro; intro _; (first | (apply q_asI <;> apply Eq.refl) | (apply q_ldb <;> apply Eq.refl) | (apply q_fab <;> apply Eq.refl) | (apply q_arith <;> (first | apply Eq.refl | omega)))))
    | (apply WG_calls; (first | (apply want_none; apply Eq.refl) | (apply want_some; apply Eq.refl; apply Eq.refl; apply Eq.refl)); apply Eq.refl; apply Eq.refl; exact (fz_refl _ _); exact (c1); apply Eq.refl)
    | (apply WG_calls; (first | (apply want_none; apply Eq.refl) | (apply want_some; apply Eq.refl; apply Eq.refl; apply Eq.refl)); apply Eq.refl; apply Eq.refl; rotate_left 1; exact (c1); apply Eq.refl; rotate_left 1; (focus ((repeat' (first | exact FzL.nil | refine FzL.cons _ _ _ _ ?_ ?_ | exact Fz.os _ _ _ _ _ _ rfl rfl | exact Fz.bx _ _ _ _ rfl rfl | refine Fz.fn _ _ _ ?_ | exact Fz.same _ | exact fz_refl _ _)); done))))
  ((try apply fin_now); first | (apply fin_I; apply Eq.refl; apply Eq.refl; try apply Eq.refl))
end Go.Proofs.YtafnhieaeejlcaaDoor
namespace Go.Proofs.YtafnhieaeejlcaaDoor
open Go Go.Ab
set_option maxRecDepth 100000
set_option maxHeartbeats 4000000
attribute [local irreducible] W WL QOp NOp thenQ blockQ FinQ WG FQ Want FinW WI WIL thenI blockI
theorem chkHolds_sort {way len : Int} : ∀ {hs : List Hold} {p : Option Int}, chkHolds way len p hs = 0 → HSort way len hs ∧ ∀ q, p = some q → ∀ h ∈ hs, q < alongI way len h.a
  | [], _, _ => ⟨List.Pairwise.nil, fun _ _ h hh => by cases hh⟩
  | h :: hs, p, h0 => by
    rw [chkHolds_cons] at h0
    split at h0
    · cases h0
    · have rest : chkHolds way len (some (alongI way len h.a)) hs = 0 ∧ ∀ q, p = some q → q < alongI way len h.a := by
        split at h0
        · rename_i q
          split at h0
          · cases h0
          · rename_i hq; exact ⟨h0, fun q' e => by cases e; omega⟩
        · exact ⟨h0, fun q' e => by cases e⟩
      obtain ⟨r1, r2⟩ := rest
      obtain ⟨i1, i2⟩ := chkHolds_sort r1
      refine ⟨List.pairwise_cons.2 ⟨fun y hy => i2 _ rfl y hy, i1⟩, fun q hq y hy => ?_⟩
      rcases List.mem_cons.1 hy with rfl | hy
      · exact r2 q hq
      · have := i2 _ rfl y hy
        have := r2 q hq
        omega
theorem rok_of {c : Convoy} {t : Truck} (h1 : 1 ≤ c.len) (h2 : c.len ≤ 100000) (h : chkTruck c t = 0) : ROk c.len t := by
  obtain ⟨a1, a2, a3, a4, a5, a6, a7, a8, a9⟩ := tok_of h1 h2 h
  refine ⟨a1, a2, a3, a4, a5, a6, a7, a8, a9, ?_⟩
  unfold chkTruck at h
  split at h; · cases h
  split at h; · cases h
  split at h; · cases h
  split at h; · cases h
  split at h; · cases h
  split at h; · cases h
  exact (chkHolds_sort h).1
theorem ROk.free {len : Int} {t : Truck} (h : ROk len t) (b : Bool) : ROk len (freeT t b) := by
  cases b
  · exact h
  · exact ⟨h.l1, h.l2, h.s1, h.s2, h.p1, h.p2, h.p3, h.d1, ⟨Nat.zero_le _, fun k hk => by cases hk⟩, List.Pairwise.nil⟩
structure CR (c : Convoy) : Prop where
  ok : COk c
  r : ∀ k, k < c.trucks.length → ROk c.len (c.trucks.getD k default)
theorem cr_of {c : Convoy} (h : chkConvoy c = 0) : CR c := by
  have hc := cok_of h
  refine ⟨hc, fun k hk => rok_of hc.l1 hc.l2 ?_⟩
  unfold chkConvoy at h
  split at h; · cases h
  split at h; · cases h
  exact chkTrucks_ok h _ (by simp [List.getD, hk])
theorem arr_lo {c : Convoy} {t : Truck} (h : ROk c.len t) : (arrS c t).lo = t.start + hitR t c.len t.hi := by
  simp only [arrS]; rw [if_pos (hit_lohi h)]
theorem keepF_eq {c : Convoy} (h : CR c) {k : Nat} (hk : k < c.trucks.length) : keepF c k = (c.trucks.getD k default).start + hitR (c.trucks.getD k default) c.len (c.trucks.getD k default).hi := arr_lo (h.r k hk)
theorem failF_eq {c : Convoy} (h : CR c) {k : Nat} (hk : k < c.trucks.length) : failF c k = (c.trucks.getD k default).start + hitR (freeT (c.trucks.getD k default) true) c.len (c.trucks.getD k default).hi := arr_lo ((h.r k hk).free true)
def worst (s : Nat → Int) (n : Nat) : Nat := (idxF (fun i => decide (maxN s (n - 1) = s i)) n 0).toNat
def dropS (s : Nat → Int) (k : Nat) : Nat → Int := fun i => if i = k then -1 else s i
def soonP (s : Nat → Int) (n : Nat) : Nat → Nat → Int
  | 0 => s
  | m + 1 => dropS (soonP s n m) (worst (soonP s n m) n)
def loP (s fast : Nat → Int) (n : Nat) : Nat → Int
  | 0 => 0
  | m + 1 => max (loP s fast n m) (fast (worst (soonP s n m) n))
def maxL (lo : Int) (s : Nat → Int) : Nat → Int
  | 0 => lo
  | k + 1 => max (maxL lo s k) (s k)
def failsP (c : Convoy) : Nat := min c.fails.toNat c.trucks.length
def offPLo (c : Convoy) : Int := maxL (loP (keepF c) (failF c) c.trucks.length (failsP c)) (soonP (keepF c) c.trucks.length (failsP c)) c.trucks.length
def offP (c : Convoy) : Span := ⟨offPLo c, maxUp (endF c) c.trucks.length⟩
theorem maxN_hit (s : Nat → Int) : ∀ n, ∃ k, k ≤ n ∧ maxN s n = s k
  | 0 => ⟨0, Nat.le_refl _, rfl⟩
  | n + 1 => by
    obtain ⟨k, h1, h2⟩ := maxN_hit s n
    simp only [maxN]
    by_cases h : s (n + 1) ≤ maxN s n
    · exact ⟨k, by omega, by omega⟩
    · exact ⟨n + 1, Nat.le_refl _, by omega⟩
theorem maxN_ge (s : Nat → Int) : ∀ n k, k ≤ n → s k ≤ maxN s n
  | 0, k, h => by obtain rfl : k = 0 := by omega
                  exact Int.le_refl _
  | n + 1, k, h => by
    simp only [maxN]
    by_cases e : k = n + 1
    · subst e; omega
    · have := maxN_ge s n k (by omega); omega
theorem idxF_found {p : Nat → Bool} : ∀ (f k K : Nat), k ≤ K → K < k + f → p K = true → ∃ j, k ≤ j ∧ j ≤ K ∧ p j = true ∧ idxF p f k = j
  | 0, k, K, h1, h2, _ => by omega
  | f + 1, k, K, h1, h2, h3 => by
    simp only [idxF]
    by_cases e : p k = true
    · rw [if_pos e]; exact ⟨k, Nat.le_refl _, h1, e, rfl⟩
    · rw [if_neg e]
      have hne : k ≠ K := fun h => e (h ▸ h3)
      obtain ⟨j, a, b, d, e⟩ := idxF_found f (k + 1) K (by omega) (by omega) h3
      exact ⟨j, by omega, b, d, e⟩
theorem worst_spec (s : Nat → Int) {n : Nat} (hn : 1 ≤ n) : worst s n < n ∧ s (worst s n) = maxN s (n - 1) ∧ idxF (fun i => decide (maxN s (n - 1) = s i)) n 0 = (worst s n : Int) := by
  obtain ⟨K, h1, h2⟩ := maxN_hit s (n - 1)
  obtain ⟨j, a, b, d, e⟩ := idxF_found (p := fun i => decide (maxN s (n - 1) = s i)) n 0 K (Nat.zero_le _) (by omega) (by simpa using h2)
  have hw : worst s n = j := by unfold worst; rw [e]; rfl
  rw [hw]
  exact ⟨by omega, by simpa using (of_decide_eq_true d).symm, e⟩
theorem maxUp_s (f : Nat → Int) (k : Nat) : maxUp f (k + 1) = max (maxUp f k) (f k) := rfl
theorem soonP_zero (s : Nat → Int) (n : Nat) : soonP s n 0 = s := rfl
theorem loP_zero (s f : Nat → Int) (n : Nat) : loP s f n 0 = 0 := rfl
theorem maxL_zero (lo : Int) (s : Nat → Int) : maxL lo s 0 = lo := rfl
theorem soonP_succ (s : Nat → Int) (n m i : Nat) : soonP s n (m + 1) i = if i = worst (soonP s n m) n then -1 else soonP s n m i := rfl
theorem loP_succ (s f : Nat → Int) (n m : Nat) : loP s f n (m + 1) = max (loP s f n m) (f (worst (soonP s n m) n)) := rfl
theorem maxL_succ (lo : Int) (s : Nat → Int) (k : Nat) : maxL lo s (k + 1) = max (maxL lo s k) (s k) := rfl
theorem updI (g : Nat → Int) (j : Nat) (v : Int) (i : Nat) : updF (fun i => encI (g i)) j [.int .i64 v] i = encI (if i = j then v else g i) := by
  unfold updF; split <;> simp [encI]
theorem endF_eq (c : Convoy) (k : Nat) : endF c k = (c.trucks.getD k default).start + hitR (c.trucks.getD k default) c.len (c.trucks.getD k default).lo := rfl
attribute [local irreducible] worst soonP loP maxL maxN keepF failF endF maxUp
theorem c81 (c : Convoy) (hc : CR c) : Contract seat 81 [.agg (encConvoy c)] (.agg (encSpan (offP c))) := by
  refine contract_introW (fn := Tryd.f81) Tryd.func81 rfl (by kernel_rfl) rfl ?_ ?_ ?_
  · exact PureL.cons (.agg _ (pure_convoy c)) PureL.nil
  · exact .agg _ (pure_span _)
  intro w κ
  have hn := hc.ok.n
  have hf1 := hc.ok.f1
  have hf2 := hc.ok.f2
  have hmax0 := maxUp_zero (endF c)
  repeat' (first
    | (apply WL_q; apply Eq.refl; apply Eq.refl; (first | (apply q_mvI <;> apply Eq.refl) | (apply q_asI <;> apply Eq.refl) | (apply q_ldb <;> apply Eq.refl) | (apply q_fab <;> apply Eq.refl) | (apply q_cmp <;> apply Eq.refl) | (apply q_arith <;> (first | apply Eq.refl | omega)) | (apply q_len <;> apply Eq.refl) | (apply q_ldba <;> apply Eq.refl) | (apply q_min <;> apply Eq.refl) | (apply q_max <;> apply Eq.refl) | (apply q_ldo <;> (first | apply Eq.refl | omega)) | (apply q_iao <;> (first | apply Eq.refl | omega)) | (apply q_leno <;> apply Eq.refl) | (apply q_mvO <;> apply Eq.refl) | (apply q_asO <;> apply Eq.refl) | (apply q_asN <;> apply Eq.refl)))
    | apply W_seq
    | apply W_region
    | apply T_normal
    | apply WL_nil
    | apply T_exit
    | apply B_normal
    | apply B_exit_eq
    | apply W_skip
    | apply W_exit
    | apply W_ret
    | apply W_block
    | (apply WL_n; apply Eq.refl; (first | (apply n_boxa <;> apply Eq.refl) | (apply n_alloc <;> apply Eq.refl) | (apply n_stb <;> apply Eq.refl) | (apply n_sto <;> (first | apply Eq.refl | omega))))
    | apply W_regionG
    | (apply WG_nil; kernel_rfl)
    | (apply WG_q; (first | (apply want_none; apply Eq.refl) | (apply want_some; apply Eq.refl; apply Eq.refl; apply Eq.refl)); apply Eq.refl; first | (apply fq_bld <;> apply Eq.refl) | (apply fq_blda <;> apply Eq.refl) | (apply fq_fn; apply Eq.refl) | (apply fq_mf; apply Eq.refl) | (apply FQ_intro; intro _; (first | (apply q_mvI <;> apply Eq.refl) | (apply q_asI <;> apply Eq.refl) | (apply q_ldb <;> apply Eq.refl) | (apply q_fab <;> apply Eq.refl) | (apply q_cmp <;> apply Eq.refl) | (apply q_arith <;> (first | apply Eq.refl | omega)) | (apply q_len <;> apply Eq.refl) | (apply q_ldba <;> apply Eq.refl) | (apply q_min <;> apply Eq.refl) | (apply q_max <;> apply Eq.refl) | (apply q_ldo <;> (first | apply Eq.refl | omega)) | (apply q_iao <;> (first | apply Eq.refl | omega)) | (apply q_leno <;> apply Eq.refl) | (apply q_mvO <;> apply Eq.refl) | (apply q_asO <;> apply Eq.refl) | (apply q_asN <;> apply Eq.refl))))
    | (apply WG_n; (first | (apply want_none; apply Eq.refl) | (apply want_some; apply Eq.refl; apply Eq.refl; apply Eq.refl)); (first | (apply f_alloc <;> apply Eq.refl) | (apply f_stb <;> apply Eq.refl) | (apply f_bsl <;> apply Eq.refl)))
    | (apply W_cD; apply Eq.refl; intro _; rotate_left 1; intro _; rotate_left 1))
  refine W_wk (wk_nil 4 4 3 1 (fun i => encI (keepF c i)) rfl) ?_
  refine W_wk (wk_nil 5 5 3 1 (fun i => encI (failF c i)) rfl) ?_
  refine W_loopR [1, 2, 3, 15] [1, 2] (fun k : Nat => [(4, .os 4 (k + 1)), (5, .os 5 (k + 1)), (16, .int .i64 k)]) (fun k => [(3, 1), (4, k + 1), (5, k + 1)])
      (fun k => [(3, .box [.int .i64 0, .int .i64 (maxUp (endF c) k)]), (4, .arr 3 1 k (fun i => encI (keepF c i))), (5, .arr 3 1 k (fun i => encI (failF c i)))])
      (fun k => k ≤ c.trucks.length) (fun k => c.trucks.length - k) 0 (Nat.zero_le _) (by refine ⟨?_, ?_, ?_⟩ <;> repeat' (first | exact trivial | apply And.intro | apply Eq.refl | (apply toI; apply Eq.refl; first | omega | assumption) | (apply toB; apply Eq.refl; repeat' (first | apply Eq.refl | apply consS | (apply consI; first | apply Eq.refl | omega | assumption))))) (fun k h hk => ?_)
  have hr : (k : Int) < c.trucks.length → ROk c.len (c.trucks.getD k default) := fun h => hc.r _ (by omega)
  have k1 : (k : Int) < c.trucks.length → Contract seat 112 [.agg (encTrack (freeT (c.trucks.getD k default) false) c.len)] (.int .i64 (keepF c k)) := fun h => by rw [keepF_eq hc (by omega)]; exact c112 _ _ (hr h)
  have k2 : (k : Int) < c.trucks.length → Contract seat 112 [.agg (encTrack (freeT (c.trucks.getD k default) true) c.len)] (.int .i64 (failF c k)) := fun h => by rw [failF_eq hc (by omega)]; exact c112 _ _ ((hr h).free true)
  have k3 : (k : Int) < c.trucks.length → Contract seat 98 [.agg (encTrack (freeT (c.trucks.getD k default) false) c.len)] (.int .i64 (endF c k)) := fun h => by rw [endF_eq]; exact c98 _ _ (hr h)
  repeat' (first
    | (apply WL_q; apply Eq.refl; apply Eq.refl; (first | (apply q_mvI <;> apply Eq.refl) | (apply q_asI <;> apply Eq.refl) | (apply q_ldb <;> apply Eq.refl) | (apply q_fab <;> apply Eq.refl) | (apply q_cmp <;> apply Eq.refl) | (apply q_arith <;> (first | apply Eq.refl | omega)) | (apply q_len <;> apply Eq.refl) | (apply q_ldba <;> apply Eq.refl) | (apply q_min <;> apply Eq.refl) | (apply q_max <;> apply Eq.refl) | (apply q_ldo <;> (first | apply Eq.refl | omega)) | (apply q_iao <;> (first | apply Eq.refl | omega)) | (apply q_leno <;> apply Eq.refl) | (apply q_mvO <;> apply Eq.refl) | (apply q_asO <;> apply Eq.refl) | (apply q_asN <;> apply Eq.refl)))
    | apply W_seq
    | apply W_region
    | apply T_normal
    | apply WL_nil
    | apply T_exit
    | apply B_normal
    | apply B_exit_eq
    | apply W_skip
    | apply W_exit
    | apply W_ret
    | apply W_block
    | (apply WL_calls; apply Eq.refl; apply Eq.refl; rotate_left 1; exact (fz_refl _ _); rotate_right 1; exact (c84 c k false (by omega)); apply Eq.refl; apply Eq.refl)
    | (apply WL_calls; apply Eq.refl; apply Eq.refl; exact (c84 c k false (by omega)); (focus ((repeat' (first | exact FzL.nil | refine FzL.cons _ _ _ _ ?_ ?_ | exact Fz.os _ _ _ _ _ _ rfl rfl | exact Fz.bx _ _ _ _ rfl rfl | refine Fz.fn _ _ _ ?_ | exact Fz.same _ | exact fz_refl _ _)); done)); apply Eq.refl; apply Eq.refl)
    | (apply WL_calls; apply Eq.refl; apply Eq.refl; rotate_left 1; exact (fz_refl _ _); rotate_right 1; exact (c84 c k true (by omega)); apply Eq.refl; apply Eq.refl)
    | (apply WL_calls; apply Eq.refl; apply Eq.refl; exact (c84 c k true (by omega)); (focus ((repeat' (first | exact FzL.nil | refine FzL.cons _ _ _ _ ?_ ?_ | exact Fz.os _ _ _ _ _ _ rfl rfl | exact Fz.bx _ _ _ _ rfl rfl | refine Fz.fn _ _ _ ?_ | exact Fz.same _ | exact fz_refl _ _)); done)); apply Eq.refl; apply Eq.refl)
    | (apply WL_calls; apply Eq.refl; apply Eq.refl; rotate_left 1; exact (fz_refl _ _); rotate_right 1; exact (c83 (freeT (c.trucks.getD k default) false) c.len ((hr (by assumption)).free false)); apply Eq.refl; apply Eq.refl)
    | (apply WL_calls; apply Eq.refl; apply Eq.refl; exact (c83 (freeT (c.trucks.getD k default) false) c.len ((hr (by assumption)).free false)); (focus ((repeat' (first | exact FzL.nil | refine FzL.cons _ _ _ _ ?_ ?_ | exact Fz.os _ _ _ _ _ _ rfl rfl | exact Fz.bx _ _ _ _ rfl rfl | refine Fz.fn _ _ _ ?_ | exact Fz.same _ | exact fz_refl _ _)); done)); apply Eq.refl; apply Eq.refl)
    | (apply WL_calls; apply Eq.refl; apply Eq.refl; rotate_left 1; exact (fz_refl _ _); rotate_right 1; exact (c83 (freeT (c.trucks.getD k default) true) c.len ((hr (by assumption)).free true)); apply Eq.refl; apply Eq.refl)
    | (apply WL_calls; apply Eq.refl; apply Eq.refl; exact (c83 (freeT (c.trucks.getD k default) true) c.len ((hr (by assumption)).free true)); (focus ((repeat' (first | exact FzL.nil | refine FzL.cons _ _ _ _ ?_ ?_ | exact Fz.os _ _ _ _ _ _ rfl rfl | exact Fz.bx _ _ _ _ rfl rfl | refine Fz.fn _ _ _ ?_ | exact Fz.same _ | exact fz_refl _ _)); done)); apply Eq.refl; apply Eq.refl)
    | (apply WL_calls; apply Eq.refl; apply Eq.refl; rotate_left 1; exact (fz_refl _ _); rotate_right 1; exact (k1 (by assumption)); apply Eq.refl; apply Eq.refl)
    | (apply WL_calls; apply Eq.refl; apply Eq.refl; exact (k1 (by assumption)); (focus ((repeat' (first | exact FzL.nil | refine FzL.cons _ _ _ _ ?_ ?_ | exact Fz.os _ _ _ _ _ _ rfl rfl | exact Fz.bx _ _ _ _ rfl rfl | refine Fz.fn _ _ _ ?_ | exact Fz.same _ | exact fz_refl _ _)); done)); apply Eq.refl; apply Eq.refl)
    | (apply WL_calls; apply Eq.refl; apply Eq.refl; rotate_left 1; exact (fz_refl _ _); rotate_right 1; exact (k2 (by assumption)); apply Eq.refl; apply Eq.refl)
    | (apply WL_calls; apply Eq.refl; apply Eq.refl; exact (k2 (by assumption)); (focus ((repeat' (first | exact FzL.nil | refine FzL.cons _ _ _ _ ?_ ?_ | exact Fz.os _ _ _ _ _ _ rfl rfl | exact Fz.bx _ _ _ _ rfl rfl | refine Fz.fn _ _ _ ?_ | exact Fz.same _ | exact fz_refl _ _)); done)); apply Eq.refl; apply Eq.refl)
    | (apply WL_calls; apply Eq.refl; apply Eq.refl; rotate_left 1; exact (fz_refl _ _); rotate_right 1; exact (k3 (by assumption)); apply Eq.refl; apply Eq.refl)
    | (apply WL_calls; apply Eq.refl; apply Eq.refl; exact (k3 (by assumption)); (focus ((repeat' (first | exact FzL.nil | refine FzL.cons _ _ _ _ ?_ ?_ | exact Fz.os _ _ _ _ _ _ rfl rfl | exact Fz.bx _ _ _ _ rfl rfl | refine Fz.fn _ _ _ ?_ | exact Fz.same _ | exact fz_refl _ _)); done)); apply Eq.refl; apply Eq.refl)
    | (apply WL_n; apply Eq.refl; (first | (apply n_boxa <;> apply Eq.refl) | (apply n_alloc <;> apply Eq.refl) | (apply n_stb <;> apply Eq.refl) | (apply n_sto <;> (first | apply Eq.refl | omega))))
    | apply W_regionG
    | (apply WG_nil; kernel_rfl)
    | (apply WG_q; (first | (apply want_none; apply Eq.refl) | (apply want_some; apply Eq.refl; apply Eq.refl; apply Eq.refl)); apply Eq.refl; first | (apply fq_bld <;> apply Eq.refl) | (apply fq_blda <;> apply Eq.refl) | (apply fq_fn; apply Eq.refl) | (apply fq_mf; apply Eq.refl) | (apply FQ_intro; intro _; (first | (apply q_mvI <;> apply Eq.refl) | (apply q_asI <;> apply Eq.refl) | (apply q_ldb <;> apply Eq.refl) | (apply q_fab <;> apply Eq.refl) | (apply q_cmp <;> apply Eq.refl) | (apply q_arith <;> (first | apply Eq.refl | omega)) | (apply q_len <;> apply Eq.refl) | (apply q_ldba <;> apply Eq.refl) | (apply q_min <;> apply Eq.refl) | (apply q_max <;> apply Eq.refl) | (apply q_ldo <;> (first | apply Eq.refl | omega)) | (apply q_iao <;> (first | apply Eq.refl | omega)) | (apply q_leno <;> apply Eq.refl) | (apply q_mvO <;> apply Eq.refl) | (apply q_asO <;> apply Eq.refl) | (apply q_asN <;> apply Eq.refl))))
    | (apply WG_call; (first | (apply want_none; apply Eq.refl) | (apply want_some; apply Eq.refl; apply Eq.refl; apply Eq.refl)); apply Eq.refl; apply Eq.refl; apply Eq.refl; exact (c84 c k false (by omega)))
    | (apply WG_call; (first | (apply want_none; apply Eq.refl) | (apply want_some; apply Eq.refl; apply Eq.refl; apply Eq.refl)); apply Eq.refl; apply Eq.refl; apply Eq.refl; exact (c84 c k true (by omega)))
    | (apply WG_call; (first | (apply want_none; apply Eq.refl) | (apply want_some; apply Eq.refl; apply Eq.refl; apply Eq.refl)); apply Eq.refl; apply Eq.refl; apply Eq.refl; exact (c83 (freeT (c.trucks.getD k default) false) c.len ((hr (by assumption)).free false)))
    | (apply WG_call; (first | (apply want_none; apply Eq.refl) | (apply want_some; apply Eq.refl; apply Eq.refl; apply Eq.refl)); apply Eq.refl; apply Eq.refl; apply Eq.refl; exact (c83 (freeT (c.trucks.getD k default) true) c.len ((hr (by assumption)).free true)))
    | (apply WG_call; (first | (apply want_none; apply Eq.refl) | (apply want_some; apply Eq.refl; apply Eq.refl; apply Eq.refl)); apply Eq.refl; apply Eq.refl; apply Eq.refl; exact (k1 (by assumption)))
    | (apply WG_call; (first | (apply want_none; apply Eq.refl) | (apply want_some; apply Eq.refl; apply Eq.refl; apply Eq.refl)); apply Eq.refl; apply Eq.refl; apply Eq.refl; exact (k2 (by assumption)))
    | (apply WG_call; (first | (apply want_none; apply Eq.refl) | (apply want_some; apply Eq.refl; apply Eq.refl; apply Eq.refl)); apply Eq.refl; apply Eq.refl; apply Eq.refl; exact (k3 (by assumption)))
    | (apply WG_n; (first | (apply want_none; apply Eq.refl) | (apply want_some; apply Eq.refl; apply Eq.refl; apply Eq.refl)); (first | (refine f_app (f' := fun i => encI (keepF c i)) rfl rfl rfl rfl rfl rfl rfl rfl rfl rfl rfl rfl rfl rfl rfl (by first | omega | (show (k + 1) * 8 ≤ _; omega)) (by omega) rfl (fun i hi => rfl) (fun i hi => by (obtain rfl : i = 0 := by omega); rfl)) | (refine f_app (f' := fun i => encI (failF c i)) rfl rfl rfl rfl rfl rfl rfl rfl rfl rfl rfl rfl rfl rfl rfl (by first | omega | (show (k + 1) * 8 ≤ _; omega)) (by omega) rfl (fun i hi => rfl) (fun i hi => by (obtain rfl : i = 0 := by omega); rfl)) | (apply f_alloc <;> apply Eq.refl) | (apply f_stb <;> apply Eq.refl) | (apply f_bsl <;> apply Eq.refl)))
    | (apply W_cD; apply Eq.refl; intro _; rotate_left 1; intro _; rotate_left 1))
  · have hmk := maxUp_s (endF c) k
    exact ⟨k + 1, by omega, by omega, (by apply reach_now; refine ⟨?_, ?_, ?_, ?_, ?_⟩ <;> repeat' (first | exact trivial | apply And.intro | apply Eq.refl | (apply toI; apply Eq.refl; first | omega | assumption) | (apply toB; apply Eq.refl; repeat' (first | apply Eq.refl | apply consS | (apply consI; first | apply Eq.refl | omega | assumption)))))⟩
  obtain rfl : k = c.trucks.length := by omega
  clear k1 k2 k3 hr
  have hz1 := soonP_zero (keepF c) c.trucks.length
  have hz2 := loP_zero (keepF c) (failF c) c.trucks.length
  have hfp : ((failsP c : Nat) : Int) = min c.fails c.trucks.length := by unfold failsP; omega
  refine W_loopR [1, 2, 3, 5] [1, 2, 5] (fun m : Nat => [(4, .os 4 (c.trucks.length + 1)), (9, .int .i64 m)]) (fun m => [(3, 1), (4, c.trucks.length + 1)])
      (fun m => [(3, .box [.int .i64 (loP (keepF c) (failF c) c.trucks.length m), .int .i64 (maxUp (endF c) c.trucks.length)]), (4, .arr 3 1 c.trucks.length (fun i => encI (soonP (keepF c) c.trucks.length m i)))])
      (fun m => m ≤ failsP c) (fun m => failsP c - m) 0 (Nat.zero_le _) (by refine ⟨?_, ?_, ?_⟩ <;> repeat' (first | exact trivial | apply And.intro | apply Eq.refl | (apply toI; apply Eq.refl; first | omega | assumption) | (apply toB; apply Eq.refl; repeat' (first | apply Eq.refl | apply consS | (apply consI; first | apply Eq.refl | omega | assumption))) | (apply toArr; apply Eq.refl; intro i; rw [hz1]))) (fun m g hm => ?_)
  have hw : m < failsP c → _ := fun h => worst_spec (soonP (keepF c) c.trucks.length m) (n := c.trucks.length) (by omega)
  have k1 : m < failsP c → Contract seat 114 [.sl 1 c.trucks.length (fun i => encI (soonP (keepF c) c.trucks.length m i))] _ := fun h => c114 _ _ (by omega) (by omega)
  have k2 : m < failsP c → Contract seat 113 [.sl 1 c.trucks.length (fun i => encI (soonP (keepF c) c.trucks.length m i)), .int .i64 (maxN (soonP (keepF c) c.trucks.length m) (c.trucks.length - 1))] (.int .i64 ((worst (soonP (keepF c) c.trucks.length m) c.trucks.length : Nat) : Int)) := fun h => by
    rw [← (hw h).2.2]; exact c113 _ _ (by omega) _
  have hw1 : m < failsP c → worst (soonP (keepF c) c.trucks.length m) c.trucks.length < c.trucks.length := fun h => (hw h).1
  have hl2 : max (loP (keepF c) (failF c) c.trucks.length m) (failF c ((worst (soonP (keepF c) c.trucks.length m) c.trucks.length : Nat) : Int).toNat) = loP (keepF c) (failF c) c.trucks.length (m + 1) := (loP_succ (keepF c) (failF c) c.trucks.length m).symm
  have hs2 := soonP_succ (keepF c) c.trucks.length m
  clear hw
  repeat' (first
    | (apply WL_q; apply Eq.refl; apply Eq.refl; (first | (apply q_mvI <;> apply Eq.refl) | (apply q_asI <;> apply Eq.refl) | (apply q_ldb <;> apply Eq.refl) | (apply q_fab <;> apply Eq.refl) | (apply q_cmp <;> apply Eq.refl) | (apply q_arith <;> (first | apply Eq.refl | omega)) | (apply q_len <;> apply Eq.refl) | (apply q_ldba <;> apply Eq.refl) | (apply q_min <;> apply Eq.refl) | (apply q_max <;> apply Eq.refl) | (apply q_ldo <;> (first | apply Eq.refl | omega)) | (apply q_iao <;> (first | apply Eq.refl | omega)) | (apply q_leno <;> apply Eq.refl) | (apply q_mvO <;> apply Eq.refl) | (apply q_asO <;> apply Eq.refl) | (apply q_asN <;> apply Eq.refl)))
    | apply W_seq
    | apply W_region
    | apply T_normal
    | apply WL_nil
    | apply T_exit
    | apply B_normal
    | apply B_exit_eq
    | apply W_skip
    | apply W_exit
    | apply W_ret
    | apply W_block
    | (apply WL_calls; apply Eq.refl; apply Eq.refl; rotate_left 1; exact (fz_refl _ _); rotate_right 1; exact (k1 (by omega)); apply Eq.refl; apply Eq.refl)
    | (apply WL_calls; apply Eq.refl; apply Eq.refl; exact (k1 (by omega)); (focus ((repeat' (first | exact FzL.nil | refine FzL.cons _ _ _ _ ?_ ?_ | exact Fz.os _ _ _ _ _ _ rfl rfl | exact Fz.bx _ _ _ _ rfl rfl | refine Fz.fn _ _ _ ?_ | exact Fz.same _ | exact fz_refl _ _)); done)); apply Eq.refl; apply Eq.refl)
    | (apply WL_calls; apply Eq.refl; apply Eq.refl; rotate_left 1; exact (fz_refl _ _); rotate_right 1; exact (k2 (by omega)); apply Eq.refl; apply Eq.refl)
    | (apply WL_calls; apply Eq.refl; apply Eq.refl; exact (k2 (by omega)); (focus ((repeat' (first | exact FzL.nil | refine FzL.cons _ _ _ _ ?_ ?_ | exact Fz.os _ _ _ _ _ _ rfl rfl | exact Fz.bx _ _ _ _ rfl rfl | refine Fz.fn _ _ _ ?_ | exact Fz.same _ | exact fz_refl _ _)); done)); apply Eq.refl; apply Eq.refl)
    | (apply WL_n; apply Eq.refl; (first | (apply n_boxa <;> apply Eq.refl) | (apply n_alloc <;> apply Eq.refl) | (apply n_stb <;> apply Eq.refl) | (apply n_sto <;> (first | apply Eq.refl | omega))))
    | apply W_regionG
    | (apply WG_nil; kernel_rfl)
    | (apply WG_q; (first | (apply want_none; apply Eq.refl) | (apply want_some; apply Eq.refl; apply Eq.refl; apply Eq.refl)); apply Eq.refl; first | (apply fq_bld <;> apply Eq.refl) | (apply fq_blda <;> apply Eq.refl) | (apply fq_fn; apply Eq.refl) | (apply fq_mf; apply Eq.refl) | (apply FQ_intro; intro _; (first | (apply q_mvI <;> apply Eq.refl) | (apply q_asI <;> apply Eq.refl) | (apply q_ldb <;> apply Eq.refl) | (apply q_fab <;> apply Eq.refl) | (apply q_cmp <;> apply Eq.refl) | (apply q_arith <;> (first | apply Eq.refl | omega)) | (apply q_len <;> apply Eq.refl) | (apply q_ldba <;> apply Eq.refl) | (apply q_min <;> apply Eq.refl) | (apply q_max <;> apply Eq.refl) | (apply q_ldo <;> (first | apply Eq.refl | omega)) | (apply q_iao <;> (first | apply Eq.refl | omega)) | (apply q_leno <;> apply Eq.refl) | (apply q_mvO <;> apply Eq.refl) | (apply q_asO <;> apply Eq.refl) | (apply q_asN <;> apply Eq.refl))))
    | (apply WG_call; (first | (apply want_none; apply Eq.refl) | (apply want_some; apply Eq.refl; apply Eq.refl; apply Eq.refl)); apply Eq.refl; apply Eq.refl; apply Eq.refl; exact (k1 (by omega)))
    | (apply WG_call; (first | (apply want_none; apply Eq.refl) | (apply want_some; apply Eq.refl; apply Eq.refl; apply Eq.refl)); apply Eq.refl; apply Eq.refl; apply Eq.refl; exact (k2 (by omega)))
    | (apply WG_n; (first | (apply want_none; apply Eq.refl) | (apply want_some; apply Eq.refl; apply Eq.refl; apply Eq.refl)); (first | (apply f_alloc <;> apply Eq.refl) | (apply f_stb <;> apply Eq.refl) | (apply f_bsl <;> apply Eq.refl)))
    | (apply W_cD; apply Eq.refl; intro _; rotate_left 1; intro _; rotate_left 1))
  · exact ⟨m + 1, by omega, by omega, (by apply reach_now; refine ⟨?_, ?_, ?_, ?_, ?_⟩ <;> repeat' (first | exact trivial | apply And.intro | apply Eq.refl | (apply toI; apply Eq.refl; first | omega | assumption) | (apply toB; apply Eq.refl; repeat' (first | apply Eq.refl | apply consS | (apply consI; first | apply Eq.refl | omega | assumption))) | (apply toArr; apply Eq.refl; intro i; rw [hs2]; exact updI _ _ _ _)))⟩
  obtain rfl : m = failsP c := by omega
  clear k1 k2 hw1 hl2 hs2
  have hz3 := maxL_zero (loP (keepF c) (failF c) c.trucks.length (failsP c)) (soonP (keepF c) c.trucks.length (failsP c))
  refine W_loopR [2, 3, 68, 69] [2] (fun k : Nat => [(68, .os 4 (c.trucks.length + 1)), (70, .int .i64 k)]) (fun m => [(3, 1), (4, c.trucks.length + 1)])
      (fun k => [(3, .box [.int .i64 (maxL (loP (keepF c) (failF c) c.trucks.length (failsP c)) (soonP (keepF c) c.trucks.length (failsP c)) k), .int .i64 (maxUp (endF c) c.trucks.length)]), (4, .arr 3 1 c.trucks.length (fun i => encI (soonP (keepF c) c.trucks.length (failsP c) i)))])
      (fun k => k ≤ c.trucks.length) (fun k => c.trucks.length - k) 0 (Nat.zero_le _) (by refine ⟨?_, ?_, ?_⟩ <;> repeat' (first | exact trivial | apply And.intro | apply Eq.refl | (apply toI; apply Eq.refl; first | omega | assumption) | (apply toB; apply Eq.refl; repeat' (first | apply Eq.refl | apply consS | (apply consI; first | apply Eq.refl | omega | assumption))))) (fun k g hk => ?_)
  have hl3 : max (maxL (loP (keepF c) (failF c) c.trucks.length (failsP c)) (soonP (keepF c) c.trucks.length (failsP c)) k) (soonP (keepF c) c.trucks.length (failsP c) (k : Int).toNat) = maxL (loP (keepF c) (failF c) c.trucks.length (failsP c)) (soonP (keepF c) c.trucks.length (failsP c)) (k + 1) := (maxL_succ _ _ _).symm
  repeat' (first
    | (apply WL_q; apply Eq.refl; apply Eq.refl; (first | (apply q_mvI <;> apply Eq.refl) | (apply q_asI <;> apply Eq.refl) | (apply q_ldb <;> apply Eq.refl) | (apply q_fab <;> apply Eq.refl) | (apply q_cmp <;> apply Eq.refl) | (apply q_arith <;> (first | apply Eq.refl | omega)) | (apply q_len <;> apply Eq.refl) | (apply q_ldba <;> apply Eq.refl) | (apply q_min <;> apply Eq.refl) | (apply q_max <;> apply Eq.refl) | (apply q_ldo <;> (first | apply Eq.refl | omega)) | (apply q_iao <;> (first | apply Eq.refl | omega)) | (apply q_leno <;> apply Eq.refl) | (apply q_mvO <;> apply Eq.refl) | (apply q_asO <;> apply Eq.refl) | (apply q_asN <;> apply Eq.refl)))
    | apply W_seq
    | apply W_region
    | apply T_normal
    | apply WL_nil
    | apply T_exit
    | apply B_normal
    | apply B_exit_eq
    | apply W_skip
    | apply W_exit
    | apply W_ret
    | apply W_block
    | (apply WL_n; apply Eq.refl; (first | (apply n_boxa <;> apply Eq.refl) | (apply n_alloc <;> apply Eq.refl) | (apply n_stb <;> apply Eq.refl) | (apply n_sto <;> (first | apply Eq.refl | omega))))
    | apply W_regionG
    | (apply WG_nil; kernel_rfl)
    | (apply WG_q; (first | (apply want_none; apply Eq.refl) | (apply want_some; apply Eq.refl; apply Eq.refl; apply Eq.refl)); apply Eq.refl; first | (apply fq_bld <;> apply Eq.refl) | (apply fq_blda <;> apply Eq.refl) | (apply fq_fn; apply Eq.refl) | (apply fq_mf; apply Eq.refl) | (apply FQ_intro; intro _; (first | (apply q_mvI <;> apply Eq.refl) | (apply q_asI <;> apply Eq.refl) | (apply q_ldb <;> apply Eq.refl) | (apply q_fab <;> apply Eq.refl) | (apply q_cmp <;> apply Eq.refl) | (apply q_arith <;> (first | apply Eq.refl | omega)) | (apply q_len <;> apply Eq.refl) | (apply q_ldba <;> apply Eq.refl) | (apply q_min <;> apply Eq.refl) | (apply q_max <;> apply Eq.refl) | (apply q_ldo <;> (first | apply Eq.refl | omega)) | (apply q_iao <;> (first | apply Eq.refl | omega)) | (apply q_leno <;> apply Eq.refl) | (apply q_mvO <;> apply Eq.refl) | (apply q_asO <;> apply Eq.refl) | (apply q_asN <;> apply Eq.refl))))
    | (apply WG_n; (first | (apply want_none; apply Eq.refl) | (apply want_some; apply Eq.refl; apply Eq.refl; apply Eq.refl)); (first | (apply f_alloc <;> apply Eq.refl) | (apply f_stb <;> apply Eq.refl) | (apply f_bsl <;> apply Eq.refl)))
    | (apply W_cD; apply Eq.refl; intro _; rotate_left 1; intro _; rotate_left 1))
  · exact ⟨k + 1, by omega, by omega, (by apply reach_now; refine ⟨?_, ?_, ?_, ?_, ?_⟩ <;> repeat' (first | exact trivial | apply And.intro | apply Eq.refl | (apply toI; apply Eq.refl; first | omega | assumption) | (apply toB; apply Eq.refl; repeat' (first | apply Eq.refl | apply consS | (apply consI; first | apply Eq.refl | omega | assumption)))))⟩
  · obtain rfl : k = c.trucks.length := by omega
    ((try apply fin_now); first | (apply fin_A; apply Eq.refl; apply Eq.refl; apply Eq.refl; apply Eq.refl; apply Eq.refl; apply Eq.refl; apply Eq.refl; apply Eq.refl; try apply Eq.refl))
theorem c36 (c : Convoy) : Contract seat 36 [.agg (encConvoy c)] (.tup [.agg (encSpan (if chkConvoy c = 0 then offP c else default)), .int .i64 (chkConvoy c)]) := by
  refine contract_introW (fn := Tryd.f36) Tryd.func36 rfl (by kernel_rfl) rfl ?_ ?_ ?_
  · exact PureL.cons (.agg _ (pure_convoy c)) PureL.nil
  · exact .tup _ (PureL.cons (.agg _ (pure_span _)) (PureL.cons (.int _ _) PureL.nil))
  intro w κ
  repeat' (first
    | (apply WL_q; apply Eq.refl; apply Eq.refl; (first | (apply q_mvI <;> apply Eq.refl) | (apply q_asI <;> apply Eq.refl) | (apply q_cmp <;> apply Eq.refl) | (apply q_ldba <;> apply Eq.refl) | (apply q_bld <;> apply Eq.refl)))
    | apply W_seq
    | apply W_region
    | apply T_normal
    | apply WL_nil
    | apply T_ret
    | apply W_skip
    | apply W_ret
    | (apply WL_call; apply Eq.refl; apply Eq.refl; rotate_left 1; apply Eq.refl; rotate_right 1; exact (c21 c); apply Eq.refl)
    | (apply WL_call; apply Eq.refl; apply Eq.refl; rotate_left 1; apply Eq.refl; rotate_right 1; exact (c81 c (cr_of (by assumption))); apply Eq.refl)
    | (apply WL_n; apply Eq.refl; (first | (apply n_boxa <;> apply Eq.refl) | (apply n_alloc <;> apply Eq.refl) | (apply n_stb <;> apply Eq.refl)))
    | (apply W_cND; apply Eq.refl; intro _; rotate_left 1; intro _; rotate_left 1))
  · ((try apply fin_now); first | (focus (apply fin_2; apply Eq.refl; (first | (apply rv_I; apply Eq.refl) | (apply rv_A <;> apply Eq.refl)); (first | (apply rv_I; apply Eq.refl) | (apply rv_A <;> apply Eq.refl)); all_goals try apply Eq.refl)))
    rw [if_neg (by assumption)]; rfl
  · ((try apply fin_now); first | (focus (apply fin_2; apply Eq.refl; (first | (apply rv_I; apply Eq.refl) | (apply rv_A <;> apply Eq.refl)); (first | (apply rv_I; apply Eq.refl) | (apply rv_A <;> apply Eq.refl)); all_goals try apply Eq.refl)))
    · rw [if_pos (by assumption)]; rfl
    · simp [*]
end Go.Proofs.YtafnhieaeejlcaaDoor
namespace Go.Proofs.YtafnhieaeejlcaaDoor
open Go Go.Ab
set_option maxRecDepth 100000
set_option maxHeartbeats 4000000
attribute [local irreducible] W WL QOp NOp thenQ blockQ FinQ WG FQ Want FinW WI WIL thenI blockI
def atP (t : Truck) (len m : Int) : Span := if min (m - t.start) (hitR t len t.lo) < 0 then default else gone t len (min (m - t.start) (hitR t len t.lo)).toNat
theorem c87 (t : Truck) (len m : Int) (h : ROk len t) (m0 : 0 ≤ m) (m1 : m ≤ 100000) : Contract seat 87 [.agg (encTrack t len), .int .i64 m] (.agg (encSpan (atP t len m))) := by
  have hn := (hitR_ok h (Int.le_refl t.lo)).2.2
  have s1 := h.s1
  have s2 := h.s2
  refine contract_introW (fn := Tryd.f87) Tryd.func87 rfl (by kernel_rfl) rfl ?_ ?_ ?_
  · exact PureL.cons (.agg _ (pure_track t len)) (PureL.cons (.int _ _) PureL.nil)
  · exact .agg _ (pure_span _)
  intro w κ
  repeat' (first
    | (apply WL_q; apply Eq.refl; apply Eq.refl; (first | (apply q_mvI <;> apply Eq.refl) | (apply q_asI <;> apply Eq.refl) | (apply q_ldb <;> apply Eq.refl) | (apply q_fab <;> apply Eq.refl) | (apply q_cmp <;> apply Eq.refl) | (apply q_arith <;> (first | apply Eq.refl | omega)) | (apply q_len <;> apply Eq.refl) | (apply q_ia <;> (first | apply Eq.refl | omega)) | (apply q_ldra <;> apply Eq.refl) | (apply q_bld <;> apply Eq.refl) | (apply q_min <;> apply Eq.refl)))
    | apply W_seq
    | apply W_region
    | apply T_normal
    | apply WL_nil
    | apply T_ret
    | apply W_skip
    | apply W_ret
    | (apply WL_n; apply Eq.refl; (first | (apply n_boxa <;> apply Eq.refl) | (apply n_alloc <;> apply Eq.refl) | (apply n_stb <;> apply Eq.refl)))
    | (apply W_cD; apply Eq.refl; intro _; rotate_left 1; intro _; rotate_left 1))
  all_goals (have e : ((hitR t len t.lo + 1 : Nat) : Int) - 1 = hitR t len t.lo := by omega)
  · rename_i hx
    rw [e] at hx
    ((try apply fin_now); first | (apply fin_A; apply Eq.refl; apply Eq.refl; apply Eq.refl; apply Eq.refl; apply Eq.refl; apply Eq.refl; apply Eq.refl; apply Eq.refl; try apply Eq.refl))
    unfold atP; rw [if_pos hx]; rfl
  · rename_i hx
    rw [e] at hx
    ((try apply fin_now); first | (apply fin_A; apply Eq.refl; apply Eq.refl; apply Eq.refl; apply Eq.refl; apply Eq.refl; apply Eq.refl; apply Eq.refl; apply Eq.refl; try apply Eq.refl))
    unfold atP; rw [if_neg hx, e]; rfl
def roadP (way len : Int) (g : Span) : Span := ⟨min (alongI way len g.lo) (alongI way len g.hi), max (alongI way len g.lo) (alongI way len g.hi)⟩
theorem c86 (t : Truck) (len : Int) (g : Span) (h1 : -1000000 ≤ g.lo) (h2 : g.lo ≤ 1000000) (h3 : -1000000 ≤ g.hi) (h4 : g.hi ≤ 1000000) (l1 : 1 ≤ len) (l2 : len ≤ 100000) : Contract seat 86 [.agg (encTrack t len), .agg (encSpan g)] (.agg (encSpan (roadP t.way len g))) := by
  refine contract_introW (fn := Tryd.f86) Tryd.func86 rfl (by kernel_rfl) rfl ?_ ?_ ?_
  · exact PureL.cons (.agg _ (pure_track t len)) (PureL.cons (.agg _ (pure_span g)) PureL.nil)
  · exact .agg _ (pure_span _)
  intro w κ
  repeat' (first
    | (apply WL_q; apply Eq.refl; apply Eq.refl; (first | (apply q_mvI <;> apply Eq.refl) | (apply q_asI <;> apply Eq.refl) | (apply q_ldb <;> apply Eq.refl) | (apply q_fab <;> apply Eq.refl) | (apply q_ldba <;> apply Eq.refl) | (apply q_bld <;> apply Eq.refl) | (apply q_min <;> apply Eq.refl) | (apply q_max <;> apply Eq.refl)))
    | apply W_seq
    | apply W_region
    | apply T_normal
    | apply WL_nil
    | apply W_ret
    | (apply WL_n; apply Eq.refl; (first | (apply n_boxa <;> apply Eq.refl) | (apply n_alloc <;> apply Eq.refl) | (apply n_stb <;> apply Eq.refl)))
    | apply W_regionG
    | (apply WG_nil; kernel_rfl)
    | (apply WG_q; (first | (apply want_none; apply Eq.refl) | (apply want_some; apply Eq.refl; apply Eq.refl; apply Eq.refl)); apply Eq.refl; first | (apply fq_bld <;> apply Eq.refl) | (apply fq_blda <;> apply Eq.refl) | (apply fq_fn; apply Eq.refl) | (apply fq_mf; apply Eq.refl) | (apply FQ_intro; intro _; (first | (apply q_mvI <;> apply Eq.refl) | (apply q_asI <;> apply Eq.refl) | (apply q_ldb <;> apply Eq.refl) | (apply q_fab <;> apply Eq.refl) | (apply q_ldba <;> apply Eq.refl) | (apply q_bld <;> apply Eq.refl) | (apply q_min <;> apply Eq.refl) | (apply q_max <;> apply Eq.refl))))
    | (apply WG_call; (first | (apply want_none; apply Eq.refl) | (apply want_some; apply Eq.refl; apply Eq.refl; apply Eq.refl)); apply Eq.refl; apply Eq.refl; apply Eq.refl; exact (c107 t len g.lo (by omega) (by omega) (by omega) (by omega)))
    | (apply WG_call; (first | (apply want_none; apply Eq.refl) | (apply want_some; apply Eq.refl; apply Eq.refl; apply Eq.refl)); apply Eq.refl; apply Eq.refl; apply Eq.refl; exact (c107 t len g.hi (by omega) (by omega) (by omega) (by omega))))
  ((try apply fin_now); first | (apply fin_A; apply Eq.refl; apply Eq.refl; apply Eq.refl; apply Eq.refl; apply Eq.refl; apply Eq.refl; apply Eq.refl; apply Eq.refl; try apply Eq.refl))
def laneP (t : Truck) (len m : Int) : Span × Int :=
  if m < t.start then (default, 2)
  else if (atP t len m).hi < stopP t.way len m t.holds then (roadP t.way len (atP t len m), 1)
  else if (atP t len m).lo ≥ stopP t.way len m t.holds then (default, 2)
  else (roadP t.way len ⟨(atP t len m).lo, stopP t.way len m t.holds - 1⟩, 3)
theorem atP_bnd {t : Truck} {len m : Int} (h : ROk len t) : 0 ≤ (atP t len m).lo ∧ (atP t len m).lo ≤ len ∧ 0 ≤ (atP t len m).hi ∧ (atP t len m).hi ≤ len := by
  have l1 := h.l1
  unfold atP
  split
  · exact ⟨Int.le_refl 0, by show (0:Int) ≤ len; omega, Int.le_refl 0, by show (0:Int) ≤ len; omega⟩
  · have a := posR_le h.l1 h.ho h.p1 (min (m - t.start) (hitR t len t.lo)).toNat
    have b := posR_le h.l1 h.ho (show 1 ≤ t.hi by have := h.p1; have := h.p2; omega) (min (m - t.start) (hitR t len t.lo)).toNat
    exact ⟨a.1, a.2, b.1, b.2⟩
theorem stopP_bnd {t : Truck} {len m : Int} (h : ROk len t) : 1 ≤ stopP t.way len m t.holds ∧ stopP t.way len m t.holds ≤ len := by
  refine ⟨stopP_ge h.l1 fun x hx => (along_le (h.ho.mem x hx).1 (h.ho.mem x hx).2.1).1, ?_⟩
  have : ∀ hs : List Hold, (∀ x ∈ hs, alongI t.way len x.a ≤ len) → stopP t.way len m hs ≤ len := by
    intro hs
    induction hs with
    | nil => intro _; exact Int.le_refl _
    | cons x hs ih =>
      intro hx
      simp only [stopP]
      split
      · exact hx x (List.mem_cons_self ..)
      · exact ih fun y hy => hx y (List.mem_cons_of_mem _ hy)
  refine this _ fun x hx => ?_
  have := along_le (way := t.way) (h.ho.mem x hx).1 (h.ho.mem x hx).2.1
  omega
theorem c85 (t : Truck) (len m : Int) (h : ROk len t) (m0 : 0 ≤ m) (m1 : m ≤ 100000) : Contract seat 85 [.agg (encTrack t len), .int .i64 m] (.tup [.agg (encSpan (laneP t len m).1), .int .i64 (laneP t len m).2]) := by
  have l1 := h.l1
  have l2 := h.l2
  obtain ⟨b1, b2, b3, b4⟩ := atP_bnd (m := m) h
  obtain ⟨p1, p2⟩ := stopP_bnd (m := m) h
  refine contract_introW (fn := Tryd.f85) Tryd.func85 rfl (by kernel_rfl) rfl ?_ ?_ ?_
  · exact PureL.cons (.agg _ (pure_track t len)) (PureL.cons (.int _ _) PureL.nil)
  · exact .tup _ (PureL.cons (.agg _ (pure_span _)) (PureL.cons (.int _ _) PureL.nil))
  intro w κ
  repeat' (first
    | (apply WL_q; apply Eq.refl; apply Eq.refl; (first | (apply q_mvI <;> apply Eq.refl) | (apply q_asI <;> apply Eq.refl) | (apply q_ldb <;> apply Eq.refl) | (apply q_fab <;> apply Eq.refl) | (apply q_cmp <;> apply Eq.refl) | (apply q_asB <;> apply Eq.refl) | (apply q_arith <;> (first | apply Eq.refl | omega)) | (apply q_ldba <;> apply Eq.refl) | (apply q_bld <;> apply Eq.refl)))
    | apply W_seq
    | apply W_region
    | apply T_normal
    | apply WL_nil
    | apply T_ret
    | apply B_normal
    | apply B_ret
    | apply W_skip
    | apply W_ret
    | apply W_block
    | (apply WL_call; apply Eq.refl; apply Eq.refl; rotate_left 1; apply Eq.refl; rotate_right 1; exact (c87 t len m h m0 m1); apply Eq.refl)
    | (apply WL_call; apply Eq.refl; apply Eq.refl; rotate_left 1; apply Eq.refl; rotate_right 1; exact (c116 t len m l1 l2 h.ho); apply Eq.refl)
    | (apply WL_call; apply Eq.refl; apply Eq.refl; rotate_left 1; apply Eq.refl; rotate_right 1; exact (c86 t len (atP t len m) (by omega) (by omega) (by omega) (by omega) l1 l2); apply Eq.refl)
    | (apply WL_call; apply Eq.refl; apply Eq.refl; rotate_left 1; apply Eq.refl; rotate_right 1; exact (c86 t len ⟨(atP t len m).lo, stopP t.way len m t.holds - 1⟩ (by show _ ≤ (atP t len m).lo; omega) (by show (atP t len m).lo ≤ _; omega) (by show _ ≤ stopP t.way len m t.holds - 1; omega) (by show stopP t.way len m t.holds - 1 ≤ _; omega) l1 l2); apply Eq.refl)
    | (apply WL_n; apply Eq.refl; (first | (apply n_boxa <;> apply Eq.refl) | (apply n_alloc <;> apply Eq.refl) | (apply n_stb <;> apply Eq.refl)))
    | apply W_regionG
    | (apply WG_nil; kernel_rfl)
    | (apply WG_q; (first | (apply want_none; apply Eq.refl) | (apply want_some; apply Eq.refl; apply Eq.refl; apply Eq.refl)); apply Eq.refl; first | (apply fq_bld <;> apply Eq.refl) | (apply fq_blda <;> apply Eq.refl) | (apply fq_fn; apply Eq.refl) | (apply fq_mf; apply Eq.refl) | (apply FQ_intro; intro _; (first | (apply q_mvI <;> apply Eq.refl) | (apply q_asI <;> apply Eq.refl) | (apply q_ldb <;> apply Eq.refl) | (apply q_fab <;> apply Eq.refl) | (apply q_cmp <;> apply Eq.refl) | (apply q_asB <;> apply Eq.refl) | (apply q_arith <;> (first | apply Eq.refl | omega)) | (apply q_ldba <;> apply Eq.refl) | (apply q_bld <;> apply Eq.refl))))
    | (apply WG_call; (first | (apply want_none; apply Eq.refl) | (apply want_some; apply Eq.refl; apply Eq.refl; apply Eq.refl)); apply Eq.refl; apply Eq.refl; apply Eq.refl; exact (c87 t len m h m0 m1))
    | (apply WG_call; (first | (apply want_none; apply Eq.refl) | (apply want_some; apply Eq.refl; apply Eq.refl; apply Eq.refl)); apply Eq.refl; apply Eq.refl; apply Eq.refl; exact (c116 t len m l1 l2 h.ho))
    | (apply WG_call; (first | (apply want_none; apply Eq.refl) | (apply want_some; apply Eq.refl; apply Eq.refl; apply Eq.refl)); apply Eq.refl; apply Eq.refl; apply Eq.refl; exact (c86 t len (atP t len m) (by omega) (by omega) (by omega) (by omega) l1 l2))
    | (apply WG_call; (first | (apply want_none; apply Eq.refl) | (apply want_some; apply Eq.refl; apply Eq.refl; apply Eq.refl)); apply Eq.refl; apply Eq.refl; apply Eq.refl; exact (c86 t len ⟨(atP t len m).lo, stopP t.way len m t.holds - 1⟩ (by show _ ≤ (atP t len m).lo; omega) (by show (atP t len m).lo ≤ _; omega) (by show _ ≤ stopP t.way len m t.holds - 1; omega) (by show stopP t.way len m t.holds - 1 ≤ _; omega) l1 l2))
    | (apply WG_n; (first | (apply want_none; apply Eq.refl) | (apply want_some; apply Eq.refl; apply Eq.refl; apply Eq.refl)); (first | (apply f_alloc <;> apply Eq.refl) | (apply f_stb <;> apply Eq.refl)))
    | (apply W_cD; apply Eq.refl; intro _; rotate_left 1; intro _; rotate_left 1))
  · rename_i a1
    have e : laneP t len m = (default, 2) := by unfold laneP; rw [if_pos a1]
    rw [e]; ((try apply fin_now); first | (focus (apply fin_2; apply Eq.refl; (first | (apply rv_I; apply Eq.refl) | (apply rv_A <;> apply Eq.refl)); (first | (apply rv_I; apply Eq.refl) | (apply rv_A <;> apply Eq.refl)); all_goals try apply Eq.refl)))
  · rename_i a1 a2
    have e : laneP t len m = (roadP t.way len (atP t len m), 1) := by unfold laneP; rw [if_neg a1, if_pos a2]
    rw [e]; ((try apply fin_now); first | (focus (apply fin_2; apply Eq.refl; (first | (apply rv_I; apply Eq.refl) | (apply rv_A <;> apply Eq.refl)); (first | (apply rv_I; apply Eq.refl) | (apply rv_A <;> apply Eq.refl)); all_goals try apply Eq.refl)))
  · rename_i a1 a2 a3
    have e : laneP t len m = (default, 2) := by unfold laneP; rw [if_neg a1, if_neg a2, if_pos a3]
    rw [e]; ((try apply fin_now); first | (focus (apply fin_2; apply Eq.refl; (first | (apply rv_I; apply Eq.refl) | (apply rv_A <;> apply Eq.refl)); (first | (apply rv_I; apply Eq.refl) | (apply rv_A <;> apply Eq.refl)); all_goals try apply Eq.refl)))
  · rename_i a1 a2 a3
    have e : laneP t len m = (roadP t.way len ⟨(atP t len m).lo, stopP t.way len m t.holds - 1⟩, 3) := by unfold laneP; rw [if_neg a1, if_neg a2, if_neg a3]
    rw [e]; ((try apply fin_now); first | (focus (apply fin_2; apply Eq.refl; (first | (apply rv_I; apply Eq.refl) | (apply rv_A <;> apply Eq.refl)); (first | (apply rv_I; apply Eq.refl) | (apply rv_A <;> apply Eq.refl)); all_goals try apply Eq.refl)))
end Go.Proofs.YtafnhieaeejlcaaDoor
namespace Go.Proofs.YtafnhieaeejlcaaDoor
open Go Go.Ab
set_option maxRecDepth 100000
set_option maxHeartbeats 4000000
attribute [local irreducible] W WL QOp NOp thenQ blockQ FinQ WG FQ Want FinW WI WIL thenI blockI
theorem along_bnd {way len x : Int} (h : 0 ≤ x ∧ x ≤ len) : 0 ≤ alongI way len x ∧ alongI way len x ≤ len := by unfold alongI; split <;> omega
theorem roadP_bnd {way len : Int} {g : Span} (h1 : 0 ≤ g.lo ∧ g.lo ≤ len) (h2 : 0 ≤ g.hi ∧ g.hi ≤ len) : 0 ≤ (roadP way len g).lo ∧ (roadP way len g).lo ≤ len ∧ 0 ≤ (roadP way len g).hi ∧ (roadP way len g).hi ≤ len := by
  have a := along_bnd (way := way) h1
  have b := along_bnd (way := way) h2
  simp only [roadP]; omega
theorem laneP_bnd {t : Truck} {len m : Int} (h : ROk len t) : 0 ≤ (laneP t len m).1.lo ∧ (laneP t len m).1.lo ≤ len ∧ 0 ≤ (laneP t len m).1.hi ∧ (laneP t len m).1.hi ≤ len := by
  obtain ⟨b1, b2, b3, b4⟩ := atP_bnd (m := m) h
  obtain ⟨p1, p2⟩ := stopP_bnd (m := m) h
  have l1 := h.l1
  have hz : (0 : Int) ≤ (default : Span).lo ∧ (default : Span).lo ≤ len ∧ 0 ≤ (default : Span).hi ∧ (default : Span).hi ≤ len := ⟨Int.le_refl 0, by show (0:Int) ≤ len; omega, Int.le_refl 0, by show (0:Int) ≤ len; omega⟩
  unfold laneP
  split
  · exact hz
  · split
    · exact roadP_bnd ⟨b1, b2⟩ ⟨b3, b4⟩
    · split
      · exact hz
      · exact roadP_bnd ⟨b1, b2⟩ ⟨by show 0 ≤ stopP t.way len m t.holds - 1; omega, by show stopP t.way len m t.holds - 1 ≤ len; omega⟩
def nearP (gap : Int) (x y : Span × Int) : Int × Int × Bool :=
  if x.2 = 2 ∨ y.2 = 2 then (0, 0, false)
  else (max x.1.lo (y.1.lo - gap + 1), max y.1.lo (max x.1.lo (y.1.lo - gap + 1) - gap + 1), decide (max x.1.lo (y.1.lo - gap + 1) ≤ x.1.hi) && decide (max y.1.lo (max x.1.lo (y.1.lo - gap + 1) - gap + 1) ≤ y.1.hi))
theorem c121 (gap fails : Int) (t u : Truck) (len m : Int) (ht : ROk len t) (hu : ROk len u) (g0 : 0 ≤ gap) (g1 : gap ≤ 100000) (m0 : 0 ≤ m) (m1 : m ≤ 100000) :
    Contract seat 121 [.agg [.int .i64 gap, .int .i64 fails], .agg (encTrack t len), .agg (encTrack u len), .int .i64 m]
      (.tup [.int .i64 (nearP gap (laneP t len m) (laneP u len m)).1, .int .i64 (nearP gap (laneP t len m) (laneP u len m)).2.1, .bool (nearP gap (laneP t len m) (laneP u len m)).2.2]) := by
  obtain ⟨b1, b2, b3, b4⟩ := laneP_bnd (m := m) ht
  obtain ⟨d1, d2, d3, d4⟩ := laneP_bnd (m := m) hu
  have l2 := ht.l2
  have r1 := c85 t len m ht m0 m1
  have r2 := c85 u len m hu m0 m1
  generalize laneP t len m = x at *
  generalize laneP u len m = y at *
  refine contract_introW (fn := Tryd.f121) Tryd.func121 rfl (by kernel_rfl) rfl ?_ ?_ ?_
  · exact PureL.cons (.agg _ (PureL.cons (.int _ _) (PureL.cons (.int _ _) PureL.nil))) (PureL.cons (.agg _ (pure_track _ _)) (PureL.cons (.agg _ (pure_track _ _)) (PureL.cons (.int _ _) PureL.nil)))
  · exact .tup _ (PureL.cons (.int _ _) (PureL.cons (.int _ _) (PureL.cons (.bool _) PureL.nil)))
  intro w κ
  repeat' (first
    | (apply WL_q; apply Eq.refl; apply Eq.refl; (first | (apply q_mvI <;> apply Eq.refl) | (apply q_asI <;> apply Eq.refl) | (apply q_ldb <;> apply Eq.refl) | (apply q_fab <;> apply Eq.refl) | (apply q_cmp <;> apply Eq.refl) | (apply q_mvB <;> apply Eq.refl) | (apply q_asB <;> apply Eq.refl) | (apply q_arith <;> (first | apply Eq.refl | omega)) | (apply q_ext <;> apply Eq.refl) | (apply q_pkT <;> apply Eq.refl) | (apply q_pkF <;> apply Eq.refl) | (apply q_ldba <;> apply Eq.refl) | (apply q_max <;> apply Eq.refl) | (apply q_mvT <;> apply Eq.refl)))
    | apply W_seq
    | apply W_region
    | apply T_normal
    | apply WL_nil
    | apply T_ret
    | apply W_skip
    | apply W_ret
    | (apply W_condT; apply Eq.refl)
    | (apply WL_call; apply Eq.refl; apply Eq.refl; rotate_left 1; apply Eq.refl; rotate_right 1; exact (r1); apply Eq.refl)
    | (apply WL_call; apply Eq.refl; apply Eq.refl; rotate_left 1; apply Eq.refl; rotate_right 1; exact (r2); apply Eq.refl)
    | (apply WL_n; apply Eq.refl; (first | (apply n_boxa <;> apply Eq.refl) | (apply n_alloc <;> apply Eq.refl) | (apply n_stb <;> apply Eq.refl)))
    | (apply WL_yes; apply Eq.refl; apply Eq.refl; apply Eq.refl)
    | (apply WL_no; apply Eq.refl; apply Eq.refl; apply Eq.refl; apply Eq.refl; apply Eq.refl)
    | (apply L_tD; apply Eq.refl; apply Eq.refl; apply Eq.refl; intro _; rotate_left 1; intro _; rotate_left 1)
    | apply W_regionG
    | (apply WG_nil; kernel_rfl)
    | (apply WG_q; (first | (apply want_none; apply Eq.refl) | (apply want_some; apply Eq.refl; apply Eq.refl; apply Eq.refl)); apply Eq.refl; first | (apply fq_bld <;> apply Eq.refl) | (apply fq_blda <;> apply Eq.refl) | (apply fq_fn; apply Eq.refl) | (apply fq_mf; apply Eq.refl) | (apply FQ_intro; intro _; (first | (apply q_mvI <;> apply Eq.refl) | (apply q_asI <;> apply Eq.refl) | (apply q_ldb <;> apply Eq.refl) | (apply q_fab <;> apply Eq.refl) | (apply q_cmp <;> apply Eq.refl) | (apply q_mvB <;> apply Eq.refl) | (apply q_asB <;> apply Eq.refl) | (apply q_arith <;> (first | apply Eq.refl | omega)) | (apply q_ext <;> apply Eq.refl) | (apply q_pkT <;> apply Eq.refl) | (apply q_pkF <;> apply Eq.refl) | (apply q_ldba <;> apply Eq.refl) | (apply q_max <;> apply Eq.refl) | (apply q_mvT <;> apply Eq.refl))))
    | (apply WG_no; apply Eq.refl; apply Eq.refl; apply Eq.refl; apply Eq.refl; apply Eq.refl)
    | (apply G_tD; apply Eq.refl; apply Eq.refl; apply Eq.refl; intro _; rotate_left 1; intro _; rotate_left 1)
    | (apply W_cD; apply Eq.refl; intro _; rotate_left 1; intro _; rotate_left 1))
  · rename_i a1
    have e : nearP gap x y = (0, 0, false) := by unfold nearP; rw [if_pos (.inl a1)]
    rw [e]; ((try apply fin_now); first | (focus (apply fin_3; apply Eq.refl; (first | (apply rv_I; apply Eq.refl) | (apply rv_B; apply Eq.refl)); (first | (apply rv_I; apply Eq.refl) | (apply rv_B; apply Eq.refl)); (first | (apply rv_I; apply Eq.refl) | (apply rv_B; apply Eq.refl)); all_goals try apply Eq.refl)))
  · rename_i a1 a2
    have e : nearP gap x y = (0, 0, false) := by unfold nearP; rw [if_pos (.inr a2)]
    rw [e]; ((try apply fin_now); first | (focus (apply fin_3; apply Eq.refl; (first | (apply rv_I; apply Eq.refl) | (apply rv_B; apply Eq.refl)); (first | (apply rv_I; apply Eq.refl) | (apply rv_B; apply Eq.refl)); (first | (apply rv_I; apply Eq.refl) | (apply rv_B; apply Eq.refl)); all_goals try apply Eq.refl)))
  · rename_i a1 a2 a3
    have hn : ¬ (x.2 = 2 ∨ y.2 = 2) := fun h => h.elim a1 a2
    simp only [nearP, if_neg hn]
    ((try apply fin_now); first | (focus (apply fin_3; apply Eq.refl; (first | (apply rv_I; apply Eq.refl) | (apply rv_B; apply Eq.refl)); (first | (apply rv_I; apply Eq.refl) | (apply rv_B; apply Eq.refl)); (first | (apply rv_I; apply Eq.refl) | (apply rv_B; apply Eq.refl)); all_goals try apply Eq.refl)))
    simp [a3]
  · rename_i a1 a2 a3
    have hn : ¬ (x.2 = 2 ∨ y.2 = 2) := fun h => h.elim a1 a2
    simp only [nearP, if_neg hn]
    ((try apply fin_now); first | (focus (apply fin_3; apply Eq.refl; (first | (apply rv_I; apply Eq.refl) | (apply rv_B; apply Eq.refl)); (first | (apply rv_I; apply Eq.refl) | (apply rv_B; apply Eq.refl)); (first | (apply rv_I; apply Eq.refl) | (apply rv_B; apply Eq.refl)); all_goals try apply Eq.refl)))
    simp [a3]
structure Meeting where
  m : Int
  i : Int
  k : Int
  fi : Bool
  fk : Bool
  p : Int
  q : Int
  deriving DecidableEq
instance : Inhabited Meeting := ⟨⟨0, 0, 0, false, false, 0, 0⟩⟩
def encMeeting (x : Meeting) : List D := [.int .i64 x.m, .int .i64 x.i, .int .i64 x.k, .bool x.fi, .bool x.fk, .int .i64 x.p, .int .i64 x.q]
theorem pure_meeting (x : Meeting) : PureL (encMeeting x) := PureL.cons (.int _ _) (PureL.cons (.int _ _) (PureL.cons (.int _ _) (PureL.cons (.bool _) (PureL.cons (.bool _) (PureL.cons (.int _ _) (PureL.cons (.int _ _) PureL.nil))))))
def encLanes (t : Truck) (len : Int) : List D := encTrack (freeT t false) len ++ encTrack (freeT t true) len
theorem pure_lanes (t : Truck) (len : Int) : PureL (encLanes t len) := fun d hd => by
  rcases List.mem_append.1 hd with h | h <;> exact pure_track _ _ d h
def caseL : List (Bool × Bool) := [(false, false), (true, false), (false, true), (true, true)]
def nearC (gap : Int) (t u : Truck) (len m : Int) (b : Bool × Bool) : Int × Int × Bool := nearP gap (laneP (freeT t b.1) len m) (laneP (freeT u b.2) len m)
def bI (b : Bool) : Int := if b then 1 else 0
def meetC (gap fails : Int) (t u : Truck) (len m : Int) : List (Bool × Bool) → Option Meeting
  | [] => none
  | b :: l => if bI b.1 + bI b.2 > fails then meetC gap fails t u len m l
    else if (nearC gap t u len m b).2.2 then some ⟨m, 0, 0, b.1, b.2, (nearC gap t u len m b).1, (nearC gap t u len m b).2.1⟩ else meetC gap fails t u len m l
def meetP (gap fails : Int) (t u : Truck) (len m : Int) : Option Meeting := meetC gap fails t u len m caseL
theorem meet_skip {gap fails : Int} {t u : Truck} {len m : Int} {b : Bool × Bool} {l : List (Bool × Bool)} {R : Option Meeting} (h : meetC gap fails t u len m (b :: l) = R) (h1 : bI b.1 + bI b.2 > fails) : meetC gap fails t u len m l = R := by
  rw [← h, meetC, if_pos h1]
theorem meet_hit {gap fails : Int} {t u : Truck} {len m : Int} {b : Bool × Bool} {l : List (Bool × Bool)} {R : Option Meeting} (h : meetC gap fails t u len m (b :: l) = R) (h1 : ¬ bI b.1 + bI b.2 > fails) (h2 : (nearC gap t u len m b).2.2 = true) :
    R = some ⟨m, 0, 0, b.1, b.2, (nearC gap t u len m b).1, (nearC gap t u len m b).2.1⟩ := by
  rw [← h, meetC, if_neg h1, if_pos h2]
theorem meet_next {gap fails : Int} {t u : Truck} {len m : Int} {b : Bool × Bool} {l : List (Bool × Bool)} {R : Option Meeting} (h : meetC gap fails t u len m (b :: l) = R) (h1 : ¬ bI b.1 + bI b.2 > fails) (h2 : (nearC gap t u len m b).2.2 = false) : meetC gap fails t u len m l = R := by
  rw [← h, meetC, if_neg h1, h2]; rfl
def optM : Option Meeting → Meeting
  | some x => x
  | none => default
attribute [local irreducible] nearC
theorem c109 (gap fails : Int) (t u : Truck) (len m : Int) (ht : ROk len t) (hu : ROk len u) (g0 : 0 ≤ gap) (g1 : gap ≤ 100000) (m0 : 0 ≤ m) (m1 : m ≤ 100000) :
    Contract seat 109 [.agg [.int .i64 gap, .int .i64 fails], .agg (encLanes t len), .agg (encLanes u len), .int .i64 m]
      (.tup [.agg (encMeeting (optM (meetP gap fails t u len m))), .bool (meetP gap fails t u len m).isSome]) := by
  have hnear : ∀ b : Bool × Bool, Contract seat 121 [.agg [.int .i64 gap, .int .i64 fails], .agg (encTrack (freeT t b.1) len), .agg (encTrack (freeT u b.2) len), .int .i64 m]
      (.tup [.int .i64 (nearC gap t u len m b).1, .int .i64 (nearC gap t u len m b).2.1, .bool (nearC gap t u len m b).2.2]) := fun b => by
    unfold nearC; exact c121 gap fails _ _ len m (ht.free _) (hu.free _) g0 g1 m0 m1
  refine contract_introW (fn := Tryd.f109) Tryd.func109 rfl (by kernel_rfl) rfl ?_ ?_ ?_
  · exact PureL.cons (.agg _ (PureL.cons (.int _ _) (PureL.cons (.int _ _) PureL.nil))) (PureL.cons (.agg _ (pure_lanes _ _)) (PureL.cons (.agg _ (pure_lanes _ _)) (PureL.cons (.int _ _) PureL.nil)))
  · exact .tup _ (PureL.cons (.agg _ (pure_meeting _)) (PureL.cons (.bool _) PureL.nil))
  intro w κ
  have hM : meetC gap fails t u len m caseL = meetP gap fails t u len m := rfl
  generalize meetP gap fails t u len m = R at *
  repeat' (first
    | (apply WL_q; apply Eq.refl; apply Eq.refl; (first | (apply q_mvI <;> apply Eq.refl) | (apply q_asI <;> apply Eq.refl) | (apply q_ldb <;> apply Eq.refl) | (apply q_fab <;> apply Eq.refl) | (apply q_cmp <;> apply Eq.refl) | (apply q_mvB <;> apply Eq.refl) | (apply q_asB <;> apply Eq.refl) | (apply q_arith <;> (first | apply Eq.refl | omega)) | (apply q_ext <;> apply Eq.refl) | (apply q_ldba <;> apply Eq.refl) | (apply q_ldra <;> apply Eq.refl) | (apply q_bld <;> apply Eq.refl) | (apply q_mvT <;> apply Eq.refl) | (apply q_iab; apply Eq.refl; apply Eq.refl; apply Eq.refl; apply Eq.refl; (first | omega | decide); apply Eq.refl; apply Eq.refl; (first | omega | decide); apply Eq.refl; apply Eq.refl) | (apply q_idx; apply Eq.refl; apply Eq.refl; apply Eq.refl; (first | omega | decide); apply Eq.refl; apply Eq.refl; (first | omega | decide); apply Eq.refl; apply Eq.refl; apply Eq.refl)))
    | apply W_seq
    | apply W_region
    | apply T_normal
    | apply WL_nil
    | apply T_exit
    | apply T_ret
    | apply B_normal
    | apply B_ret
    | apply B_exit_eq
    | apply W_skip
    | apply W_exit
    | apply W_ret
    | apply W_block
    | (apply W_condT; apply Eq.refl)
    | (apply W_condF; apply Eq.refl)
    | (apply WL_n; apply Eq.refl; (first | (apply n_boxa <;> apply Eq.refl) | (apply n_alloc <;> apply Eq.refl) | (apply n_stb <;> apply Eq.refl)))
    | apply W_regionG
    | (apply WG_nil; kernel_rfl)
    | (apply WG_q; (first | (apply want_none; apply Eq.refl) | (apply want_some; apply Eq.refl; apply Eq.refl; apply Eq.refl)); apply Eq.refl; first | (apply fq_bld <;> apply Eq.refl) | (apply fq_blda <;> apply Eq.refl) | (apply fq_fn; apply Eq.refl) | (apply fq_mf; apply Eq.refl) | (apply FQ_intro; intro _; (first | (apply q_mvI <;> apply Eq.refl) | (apply q_asI <;> apply Eq.refl) | (apply q_ldb <;> apply Eq.refl) | (apply q_fab <;> apply Eq.refl) | (apply q_cmp <;> apply Eq.refl) | (apply q_mvB <;> apply Eq.refl) | (apply q_asB <;> apply Eq.refl) | (apply q_arith <;> (first | apply Eq.refl | omega)) | (apply q_ext <;> apply Eq.refl) | (apply q_ldba <;> apply Eq.refl) | (apply q_ldra <;> apply Eq.refl) | (apply q_bld <;> apply Eq.refl) | (apply q_mvT <;> apply Eq.refl) | (apply q_iab; apply Eq.refl; apply Eq.refl; apply Eq.refl; apply Eq.refl; (first | omega | decide); apply Eq.refl; apply Eq.refl; (first | omega | decide); apply Eq.refl; apply Eq.refl) | (apply q_idx; apply Eq.refl; apply Eq.refl; apply Eq.refl; (first | omega | decide); apply Eq.refl; apply Eq.refl; (first | omega | decide); apply Eq.refl; apply Eq.refl; apply Eq.refl))))
    | (apply W_cD; apply Eq.refl; intro _; rotate_left 1; intro _; rotate_left 1)
    | (apply W_cond; apply Eq.refl; intro _; rotate_left 1; intro _; rotate_left 1))
  refine W_loopR [3, 4, 5, 6, 8, 15] [4, 5, 6] (fun k : Nat => [(16, .int .i64 k)]) (fun _ => [(8, 1)]) (fun _ => [(8, .box (encMeeting default))])
    (fun k => k ≤ 4 ∧ meetC gap fails t u len m (caseL.drop k) = R) (fun k => 4 - k) 0 ⟨Nat.zero_le _, hM⟩ (by refine ⟨?_, ?_, ?_⟩ <;> repeat' (first | exact trivial | apply And.intro | apply Eq.refl | (apply toI; apply Eq.refl; first | omega | assumption) | (apply toB; apply Eq.refl; repeat' (first | apply Eq.refl | apply consS | (apply consI; first | apply Eq.refl | omega | assumption))))) (fun k g hi => ?_)
  obtain ⟨hk, hi⟩ := hi
  obtain rfl | rfl | rfl | rfl | rfl : k = 0 ∨ k = 1 ∨ k = 2 ∨ k = 3 ∨ k = 4 := by omega
  · repeat' (first
    | (apply WL_q; apply Eq.refl; apply Eq.refl; (first | (apply q_mvI <;> apply Eq.refl) | (apply q_asI <;> apply Eq.refl) | (apply q_ldb <;> apply Eq.refl) | (apply q_fab <;> apply Eq.refl) | (apply q_cmp <;> apply Eq.refl) | (apply q_mvB <;> apply Eq.refl) | (apply q_asB <;> apply Eq.refl) | (apply q_arith <;> (first | apply Eq.refl | omega)) | (apply q_ext <;> apply Eq.refl) | (apply q_ldba <;> apply Eq.refl) | (apply q_ldra <;> apply Eq.refl) | (apply q_bld <;> apply Eq.refl) | (apply q_mvT <;> apply Eq.refl) | (apply q_iab; apply Eq.refl; apply Eq.refl; apply Eq.refl; apply Eq.refl; (first | omega | decide); apply Eq.refl; apply Eq.refl; (first | omega | decide); apply Eq.refl; apply Eq.refl) | (apply q_idx; apply Eq.refl; apply Eq.refl; apply Eq.refl; (first | omega | decide); apply Eq.refl; apply Eq.refl; (first | omega | decide); apply Eq.refl; apply Eq.refl; apply Eq.refl)))
    | apply W_seq
    | apply W_region
    | apply T_normal
    | apply WL_nil
    | apply T_exit
    | apply T_ret
    | apply B_normal
    | apply B_ret
    | apply B_exit_eq
    | apply W_skip
    | apply W_exit
    | apply W_ret
    | apply W_block
    | (apply W_condT; apply Eq.refl)
    | (apply W_condF; apply Eq.refl)
    | (apply WL_n; apply Eq.refl; (first | (apply n_boxa <;> apply Eq.refl) | (apply n_alloc <;> apply Eq.refl) | (apply n_stb <;> apply Eq.refl)))
    | apply W_regionG
    | (apply WG_nil; kernel_rfl)
    | (apply WG_q; (first | (apply want_none; apply Eq.refl) | (apply want_some; apply Eq.refl; apply Eq.refl; apply Eq.refl)); apply Eq.refl; first | (apply fq_bld <;> apply Eq.refl) | (apply fq_blda <;> apply Eq.refl) | (apply fq_fn; apply Eq.refl) | (apply fq_mf; apply Eq.refl) | (apply FQ_intro; intro _; (first | (apply q_mvI <;> apply Eq.refl) | (apply q_asI <;> apply Eq.refl) | (apply q_ldb <;> apply Eq.refl) | (apply q_fab <;> apply Eq.refl) | (apply q_cmp <;> apply Eq.refl) | (apply q_mvB <;> apply Eq.refl) | (apply q_asB <;> apply Eq.refl) | (apply q_arith <;> (first | apply Eq.refl | omega)) | (apply q_ext <;> apply Eq.refl) | (apply q_ldba <;> apply Eq.refl) | (apply q_ldra <;> apply Eq.refl) | (apply q_bld <;> apply Eq.refl) | (apply q_mvT <;> apply Eq.refl) | (apply q_iab; apply Eq.refl; apply Eq.refl; apply Eq.refl; apply Eq.refl; (first | omega | decide); apply Eq.refl; apply Eq.refl; (first | omega | decide); apply Eq.refl; apply Eq.refl) | (apply q_idx; apply Eq.refl; apply Eq.refl; apply Eq.refl; (first | omega | decide); apply Eq.refl; apply Eq.refl; (first | omega | decide); apply Eq.refl; apply Eq.refl; apply Eq.refl))))
    | (apply WG_call; (first | (apply want_none; apply Eq.refl) | (apply want_some; apply Eq.refl; apply Eq.refl; apply Eq.refl)); apply Eq.refl; apply Eq.refl; apply Eq.refl; exact (hnear (false, false)))
    | (apply W_cD; apply Eq.refl; intro _; rotate_left 1; intro _; rotate_left 1)
    | (apply W_cond; apply Eq.refl; intro _; rotate_left 1; intro _; rotate_left 1))
    · rename_i a1
      exact ⟨1, ⟨by omega, meet_skip hi a1⟩, by omega, (by apply reach_now; refine ⟨?_, ?_, ?_, ?_, ?_⟩ <;> repeat' (first | exact trivial | apply And.intro | apply Eq.refl | (apply toI; apply Eq.refl; first | omega | assumption) | (apply toB; apply Eq.refl; repeat' (first | apply Eq.refl | apply consS | (apply consI; first | apply Eq.refl | omega | assumption)))))⟩
    · rename_i a1 a2
      rw [meet_hit hi a1 a2]
      ((try apply fin_now); first | (focus (apply fin_2; apply Eq.refl; (first | (apply rv_B; apply Eq.refl) | (apply rv_A <;> apply Eq.refl)); (first | (apply rv_B; apply Eq.refl) | (apply rv_A <;> apply Eq.refl)); all_goals try apply Eq.refl)))
    · rename_i a1 a2
      exact ⟨1, ⟨by omega, meet_next hi a1 a2⟩, by omega, (by apply reach_now; refine ⟨?_, ?_, ?_, ?_, ?_⟩ <;> repeat' (first | exact trivial | apply And.intro | apply Eq.refl | (apply toI; apply Eq.refl; first | omega | assumption) | (apply toB; apply Eq.refl; repeat' (first | apply Eq.refl | apply consS | (apply consI; first | apply Eq.refl | omega | assumption)))))⟩
  · repeat' (first
    | (apply WL_q; apply Eq.refl; apply Eq.refl; (first | (apply q_mvI <;> apply Eq.refl) | (apply q_asI <;> apply Eq.refl) | (apply q_ldb <;> apply Eq.refl) | (apply q_fab <;> apply Eq.refl) | (apply q_cmp <;> apply Eq.refl) | (apply q_mvB <;> apply Eq.refl) | (apply q_asB <;> apply Eq.refl) | (apply q_arith <;> (first | apply Eq.refl | omega)) | (apply q_ext <;> apply Eq.refl) | (apply q_ldba <;> apply Eq.refl) | (apply q_ldra <;> apply Eq.refl) | (apply q_bld <;> apply Eq.refl) | (apply q_mvT <;> apply Eq.refl) | (apply q_iab; apply Eq.refl; apply Eq.refl; apply Eq.refl; apply Eq.refl; (first | omega | decide); apply Eq.refl; apply Eq.refl; (first | omega | decide); apply Eq.refl; apply Eq.refl) | (apply q_idx; apply Eq.refl; apply Eq.refl; apply Eq.refl; (first | omega | decide); apply Eq.refl; apply Eq.refl; (first | omega | decide); apply Eq.refl; apply Eq.refl; apply Eq.refl)))
    | apply W_seq
    | apply W_region
    | apply T_normal
    | apply WL_nil
    | apply T_exit
    | apply T_ret
    | apply B_normal
    | apply B_ret
    | apply B_exit_eq
    | apply W_skip
    | apply W_exit
    | apply W_ret
    | apply W_block
    | (apply W_condT; apply Eq.refl)
    | (apply W_condF; apply Eq.refl)
    | (apply WL_n; apply Eq.refl; (first | (apply n_boxa <;> apply Eq.refl) | (apply n_alloc <;> apply Eq.refl) | (apply n_stb <;> apply Eq.refl)))
    | apply W_regionG
    | (apply WG_nil; kernel_rfl)
    | (apply WG_q; (first | (apply want_none; apply Eq.refl) | (apply want_some; apply Eq.refl; apply Eq.refl; apply Eq.refl)); apply Eq.refl; first | (apply fq_bld <;> apply Eq.refl) | (apply fq_blda <;> apply Eq.refl) | (apply fq_fn; apply Eq.refl) | (apply fq_mf; apply Eq.refl) | (apply FQ_intro; intro _; (first | (apply q_mvI <;> apply Eq.refl) | (apply q_asI <;> apply Eq.refl) | (apply q_ldb <;> apply Eq.refl) | (apply q_fab <;> apply Eq.refl) | (apply q_cmp <;> apply Eq.refl) | (apply q_mvB <;> apply Eq.refl) | (apply q_asB <;> apply Eq.refl) | (apply q_arith <;> (first | apply Eq.refl | omega)) | (apply q_ext <;> apply Eq.refl) | (apply q_ldba <;> apply Eq.refl) | (apply q_ldra <;> apply Eq.refl) | (apply q_bld <;> apply Eq.refl) | (apply q_mvT <;> apply Eq.refl) | (apply q_iab; apply Eq.refl; apply Eq.refl; apply Eq.refl; apply Eq.refl; (first | omega | decide); apply Eq.refl; apply Eq.refl; (first | omega | decide); apply Eq.refl; apply Eq.refl) | (apply q_idx; apply Eq.refl; apply Eq.refl; apply Eq.refl; (first | omega | decide); apply Eq.refl; apply Eq.refl; (first | omega | decide); apply Eq.refl; apply Eq.refl; apply Eq.refl))))
    | (apply WG_call; (first | (apply want_none; apply Eq.refl) | (apply want_some; apply Eq.refl; apply Eq.refl; apply Eq.refl)); apply Eq.refl; apply Eq.refl; apply Eq.refl; exact (hnear (true, false)))
    | (apply W_cD; apply Eq.refl; intro _; rotate_left 1; intro _; rotate_left 1)
    | (apply W_cond; apply Eq.refl; intro _; rotate_left 1; intro _; rotate_left 1))
    · rename_i a1
      exact ⟨2, ⟨by omega, meet_skip hi a1⟩, by omega, (by apply reach_now; refine ⟨?_, ?_, ?_, ?_, ?_⟩ <;> repeat' (first | exact trivial | apply And.intro | apply Eq.refl | (apply toI; apply Eq.refl; first | omega | assumption) | (apply toB; apply Eq.refl; repeat' (first | apply Eq.refl | apply consS | (apply consI; first | apply Eq.refl | omega | assumption)))))⟩
    · rename_i a1 a2
      rw [meet_hit hi a1 a2]
      ((try apply fin_now); first | (focus (apply fin_2; apply Eq.refl; (first | (apply rv_B; apply Eq.refl) | (apply rv_A <;> apply Eq.refl)); (first | (apply rv_B; apply Eq.refl) | (apply rv_A <;> apply Eq.refl)); all_goals try apply Eq.refl)))
    · rename_i a1 a2
      exact ⟨2, ⟨by omega, meet_next hi a1 a2⟩, by omega, (by apply reach_now; refine ⟨?_, ?_, ?_, ?_, ?_⟩ <;> repeat' (first | exact trivial | apply And.intro | apply Eq.refl | (apply toI; apply Eq.refl; first | omega | assumption) | (apply toB; apply Eq.refl; repeat' (first | apply Eq.refl | apply consS | (apply consI; first | apply Eq.refl | omega | assumption)))))⟩
  · repeat' (first
    | (apply WL_q; apply Eq.refl; apply Eq.refl; (first | (apply q_mvI <;> apply Eq.refl) | (apply q_asI <;> apply Eq.refl) | (apply q_ldb <;> apply Eq.refl) | (apply q_fab <;> apply Eq.refl) | (apply q_cmp <;> apply Eq.refl) | (apply q_mvB <;> apply Eq.refl) | (apply q_asB <;> apply Eq.refl) | (apply q_arith <;> (first | apply Eq.refl | omega)) | (apply q_ext <;> apply Eq.refl) | (apply q_ldba <;> apply Eq.refl) | (apply q_ldra <;> apply Eq.refl) | (apply q_bld <;> apply Eq.refl) | (apply q_mvT <;> apply Eq.refl) | (apply q_iab; apply Eq.refl; apply Eq.refl; apply Eq.refl; apply Eq.refl; (first | omega | decide); apply Eq.refl; apply Eq.refl; (first | omega | decide); apply Eq.refl; apply Eq.refl) | (apply q_idx; apply Eq.refl; apply Eq.refl; apply Eq.refl; (first | omega | decide); apply Eq.refl; apply Eq.refl; (first | omega | decide); apply Eq.refl; apply Eq.refl; apply Eq.refl)))
    | apply W_seq
    | apply W_region
    | apply T_normal
    | apply WL_nil
    | apply T_exit
    | apply T_ret
    | apply B_normal
    | apply B_ret
    | apply B_exit_eq
    | apply W_skip
    | apply W_exit
    | apply W_ret
    | apply W_block
    | (apply W_condT; apply Eq.refl)
    | (apply W_condF; apply Eq.refl)
    | (apply WL_n; apply Eq.refl; (first | (apply n_boxa <;> apply Eq.refl) | (apply n_alloc <;> apply Eq.refl) | (apply n_stb <;> apply Eq.refl)))
    | apply W_regionG
    | (apply WG_nil; kernel_rfl)
    | (apply WG_q; (first | (apply want_none; apply Eq.refl) | (apply want_some; apply Eq.refl; apply Eq.refl; apply Eq.refl)); apply Eq.refl; first | (apply fq_bld <;> apply Eq.refl) | (apply fq_blda <;> apply Eq.refl) | (apply fq_fn; apply Eq.refl) | (apply fq_mf; apply Eq.refl) | (apply FQ_intro; intro _; (first | (apply q_mvI <;> apply Eq.refl) | (apply q_asI <;> apply Eq.refl) | (apply q_ldb <;> apply Eq.refl) | (apply q_fab <;> apply Eq.refl) | (apply q_cmp <;> apply Eq.refl) | (apply q_mvB <;> apply Eq.refl) | (apply q_asB <;> apply Eq.refl) | (apply q_arith <;> (first | apply Eq.refl | omega)) | (apply q_ext <;> apply Eq.refl) | (apply q_ldba <;> apply Eq.refl) | (apply q_ldra <;> apply Eq.refl) | (apply q_bld <;> apply Eq.refl) | (apply q_mvT <;> apply Eq.refl) | (apply q_iab; apply Eq.refl; apply Eq.refl; apply Eq.refl; apply Eq.refl; (first | omega | decide); apply Eq.refl; apply Eq.refl; (first | omega | decide); apply Eq.refl; apply Eq.refl) | (apply q_idx; apply Eq.refl; apply Eq.refl; apply Eq.refl; (first | omega | decide); apply Eq.refl; apply Eq.refl; (first | omega | decide); apply Eq.refl; apply Eq.refl; apply Eq.refl))))
    | (apply WG_call; (first | (apply want_none; apply Eq.refl) | (apply want_some; apply Eq.refl; apply Eq.refl; apply Eq.refl)); apply Eq.refl; apply Eq.refl; apply Eq.refl; exact (hnear (false, true)))
    | (apply W_cD; apply Eq.refl; intro _; rotate_left 1; intro _; rotate_left 1)
    | (apply W_cond; apply Eq.refl; intro _; rotate_left 1; intro _; rotate_left 1))
    · rename_i a1
      exact ⟨3, ⟨by omega, meet_skip hi a1⟩, by omega, (by apply reach_now; refine ⟨?_, ?_, ?_, ?_, ?_⟩ <;> repeat' (first | exact trivial | apply And.intro | apply Eq.refl | (apply toI; apply Eq.refl; first | omega | assumption) | (apply toB; apply Eq.refl; repeat' (first | apply Eq.refl | apply consS | (apply consI; first | apply Eq.refl | omega | assumption)))))⟩
    · rename_i a1 a2
      rw [meet_hit hi a1 a2]
      ((try apply fin_now); first | (focus (apply fin_2; apply Eq.refl; (first | (apply rv_B; apply Eq.refl) | (apply rv_A <;> apply Eq.refl)); (first | (apply rv_B; apply Eq.refl) | (apply rv_A <;> apply Eq.refl)); all_goals try apply Eq.refl)))
    · rename_i a1 a2
      exact ⟨3, ⟨by omega, meet_next hi a1 a2⟩, by omega, (by apply reach_now; refine ⟨?_, ?_, ?_, ?_, ?_⟩ <;> repeat' (first | exact trivial | apply And.intro | apply Eq.refl | (apply toI; apply Eq.refl; first | omega | assumption) | (apply toB; apply Eq.refl; repeat' (first | apply Eq.refl | apply consS | (apply consI; first | apply Eq.refl | omega | assumption)))))⟩
  · repeat' (first
    | (apply WL_q; apply Eq.refl; apply Eq.refl; (first | (apply q_mvI <;> apply Eq.refl) | (apply q_asI <;> apply Eq.refl) | (apply q_ldb <;> apply Eq.refl) | (apply q_fab <;> apply Eq.refl) | (apply q_cmp <;> apply Eq.refl) | (apply q_mvB <;> apply Eq.refl) | (apply q_asB <;> apply Eq.refl) | (apply q_arith <;> (first | apply Eq.refl | omega)) | (apply q_ext <;> apply Eq.refl) | (apply q_ldba <;> apply Eq.refl) | (apply q_ldra <;> apply Eq.refl) | (apply q_bld <;> apply Eq.refl) | (apply q_mvT <;> apply Eq.refl) | (apply q_iab; apply Eq.refl; apply Eq.refl; apply Eq.refl; apply Eq.refl; (first | omega | decide); apply Eq.refl; apply Eq.refl; (first | omega | decide); apply Eq.refl; apply Eq.refl) | (apply q_idx; apply Eq.refl; apply Eq.refl; apply Eq.refl; (first | omega | decide); apply Eq.refl; apply Eq.refl; (first | omega | decide); apply Eq.refl; apply Eq.refl; apply Eq.refl)))
    | apply W_seq
    | apply W_region
    | apply T_normal
    | apply WL_nil
    | apply T_exit
    | apply T_ret
    | apply B_normal
    | apply B_ret
    | apply B_exit_eq
    | apply W_skip
    | apply W_exit
    | apply W_ret
    | apply W_block
    | (apply W_condT; apply Eq.refl)
    | (apply W_condF; apply Eq.refl)
    | (apply WL_n; apply Eq.refl; (first | (apply n_boxa <;> apply Eq.refl) | (apply n_alloc <;> apply Eq.refl) | (apply n_stb <;> apply Eq.refl)))
    | apply W_regionG
    | (apply WG_nil; kernel_rfl)
    | (apply WG_q; (first | (apply want_none; apply Eq.refl) | (apply want_some; apply Eq.refl; apply Eq.refl; apply Eq.refl)); apply Eq.refl; first | (apply fq_bld <;> apply Eq.refl) | (apply fq_blda <;> apply Eq.refl) | (apply fq_fn; apply Eq.refl) | (apply fq_mf; apply Eq.refl) | (apply FQ_intro; intro _; (first | (apply q_mvI <;> apply Eq.refl) | (apply q_asI <;> apply Eq.refl) | (apply q_ldb <;> apply Eq.refl) | (apply q_fab <;> apply Eq.refl) | (apply q_cmp <;> apply Eq.refl) | (apply q_mvB <;> apply Eq.refl) | (apply q_asB <;> apply Eq.refl) | (apply q_arith <;> (first | apply Eq.refl | omega)) | (apply q_ext <;> apply Eq.refl) | (apply q_ldba <;> apply Eq.refl) | (apply q_ldra <;> apply Eq.refl) | (apply q_bld <;> apply Eq.refl) | (apply q_mvT <;> apply Eq.refl) | (apply q_iab; apply Eq.refl; apply Eq.refl; apply Eq.refl; apply Eq.refl; (first | omega | decide); apply Eq.refl; apply Eq.refl; (first | omega | decide); apply Eq.refl; apply Eq.refl) | (apply q_idx; apply Eq.refl; apply Eq.refl; apply Eq.refl; (first | omega | decide); apply Eq.refl; apply Eq.refl; (first | omega | decide); apply Eq.refl; apply Eq.refl; apply Eq.refl))))
    | (apply WG_call; (first | (apply want_none; apply Eq.refl) | (apply want_some; apply Eq.refl; apply Eq.refl; apply Eq.refl)); apply Eq.refl; apply Eq.refl; apply Eq.refl; exact (hnear (true, true)))
    | (apply W_cD; apply Eq.refl; intro _; rotate_left 1; intro _; rotate_left 1)
    | (apply W_cond; apply Eq.refl; intro _; rotate_left 1; intro _; rotate_left 1))
    · rename_i a1
      exact ⟨4, ⟨by omega, meet_skip hi a1⟩, by omega, (by apply reach_now; refine ⟨?_, ?_, ?_, ?_, ?_⟩ <;> repeat' (first | exact trivial | apply And.intro | apply Eq.refl | (apply toI; apply Eq.refl; first | omega | assumption) | (apply toB; apply Eq.refl; repeat' (first | apply Eq.refl | apply consS | (apply consI; first | apply Eq.refl | omega | assumption)))))⟩
    · rename_i a1 a2
      rw [meet_hit hi a1 a2]
      ((try apply fin_now); first | (focus (apply fin_2; apply Eq.refl; (first | (apply rv_B; apply Eq.refl) | (apply rv_A <;> apply Eq.refl)); (first | (apply rv_B; apply Eq.refl) | (apply rv_A <;> apply Eq.refl)); all_goals try apply Eq.refl)))
    · rename_i a1 a2
      exact ⟨4, ⟨by omega, meet_next hi a1 a2⟩, by omega, (by apply reach_now; refine ⟨?_, ?_, ?_, ?_, ?_⟩ <;> repeat' (first | exact trivial | apply And.intro | apply Eq.refl | (apply toI; apply Eq.refl; first | omega | assumption) | (apply toB; apply Eq.refl; repeat' (first | apply Eq.refl | apply consS | (apply consI; first | apply Eq.refl | omega | assumption)))))⟩
  · have hR : R = none := hi.symm
    rw [hR]
    repeat' (first
    | (apply WL_q; apply Eq.refl; apply Eq.refl; (first | (apply q_mvI <;> apply Eq.refl) | (apply q_asI <;> apply Eq.refl) | (apply q_ldb <;> apply Eq.refl) | (apply q_fab <;> apply Eq.refl) | (apply q_cmp <;> apply Eq.refl) | (apply q_mvB <;> apply Eq.refl) | (apply q_asB <;> apply Eq.refl) | (apply q_arith <;> (first | apply Eq.refl | omega)) | (apply q_ext <;> apply Eq.refl) | (apply q_ldba <;> apply Eq.refl) | (apply q_ldra <;> apply Eq.refl) | (apply q_bld <;> apply Eq.refl) | (apply q_mvT <;> apply Eq.refl) | (apply q_iab; apply Eq.refl; apply Eq.refl; apply Eq.refl; apply Eq.refl; (first | omega | decide); apply Eq.refl; apply Eq.refl; (first | omega | decide); apply Eq.refl; apply Eq.refl) | (apply q_idx; apply Eq.refl; apply Eq.refl; apply Eq.refl; (first | omega | decide); apply Eq.refl; apply Eq.refl; (first | omega | decide); apply Eq.refl; apply Eq.refl; apply Eq.refl)))
    | apply W_seq
    | apply W_region
    | apply T_normal
    | apply WL_nil
    | apply T_exit
    | apply T_ret
    | apply B_normal
    | apply B_ret
    | apply B_exit_eq
    | apply W_skip
    | apply W_exit
    | apply W_ret
    | apply W_block
    | (apply W_condT; apply Eq.refl)
    | (apply W_condF; apply Eq.refl)
    | (apply WL_n; apply Eq.refl; (first | (apply n_boxa <;> apply Eq.refl) | (apply n_alloc <;> apply Eq.refl) | (apply n_stb <;> apply Eq.refl)))
    | apply W_regionG
    | (apply WG_nil; kernel_rfl)
    | (apply WG_q; (first | (apply want_none; apply Eq.refl) | (apply want_some; apply Eq.refl; apply Eq.refl; apply Eq.refl)); apply Eq.refl; first | (apply fq_bld <;> apply Eq.refl) | (apply fq_blda <;> apply Eq.refl) | (apply fq_fn; apply Eq.refl) | (apply fq_mf; apply Eq.refl) | (apply FQ_intro; intro _; (first | (apply q_mvI <;> apply Eq.refl) | (apply q_asI <;> apply Eq.refl) | (apply q_ldb <;> apply Eq.refl) | (apply q_fab <;> apply Eq.refl) | (apply q_cmp <;> apply Eq.refl) | (apply q_mvB <;> apply Eq.refl) | (apply q_asB <;> apply Eq.refl) | (apply q_arith <;> (first | apply Eq.refl | omega)) | (apply q_ext <;> apply Eq.refl) | (apply q_ldba <;> apply Eq.refl) | (apply q_ldra <;> apply Eq.refl) | (apply q_bld <;> apply Eq.refl) | (apply q_mvT <;> apply Eq.refl) | (apply q_iab; apply Eq.refl; apply Eq.refl; apply Eq.refl; apply Eq.refl; (first | omega | decide); apply Eq.refl; apply Eq.refl; (first | omega | decide); apply Eq.refl; apply Eq.refl) | (apply q_idx; apply Eq.refl; apply Eq.refl; apply Eq.refl; (first | omega | decide); apply Eq.refl; apply Eq.refl; (first | omega | decide); apply Eq.refl; apply Eq.refl; apply Eq.refl))))
    | (apply W_cD; apply Eq.refl; intro _; rotate_left 1; intro _; rotate_left 1)
    | (apply W_cond; apply Eq.refl; intro _; rotate_left 1; intro _; rotate_left 1))
    ((try apply fin_now); first | (focus (apply fin_2; apply Eq.refl; (first | (apply rv_B; apply Eq.refl) | (apply rv_A <;> apply Eq.refl)); (first | (apply rv_B; apply Eq.refl) | (apply rv_A <;> apply Eq.refl)); all_goals try apply Eq.refl)))
end Go.Proofs.YtafnhieaeejlcaaDoor
namespace Go.Proofs.YtafnhieaeejlcaaDoor
open Go Go.Ab
set_option maxRecDepth 100000
set_option maxHeartbeats 4000000
attribute [local irreducible] W WL QOp NOp thenQ blockQ FinQ WG FQ Want FinW WI WIL thenI blockI
def lanesD (c : Convoy) : D := .sl 14 c.trucks.length fun k => encLanes (c.trucks.getD k default) c.len
theorem pure_lanesD (c : Convoy) : Pure (lanesD c) := .sl _ _ _ fun _ _ d hd => pure_lanes _ _ d hd
theorem c89 (c : Convoy) (hc : CR c) : Contract seat 89 [.agg (encConvoy c)] (lanesD c) := by
  refine contract_introW (fn := Tryd.f89) Tryd.func89 rfl (by kernel_rfl) rfl ?_ ?_ ?_
  · exact PureL.cons (.agg _ (pure_convoy c)) PureL.nil
  · exact pure_lanesD c
  intro w κ
  have hn := hc.ok.n
  repeat' (first
    | (apply WL_q; apply Eq.refl; apply Eq.refl; (first | (apply q_mvI <;> apply Eq.refl) | (apply q_asI <;> apply Eq.refl) | (apply q_ldb <;> apply Eq.refl) | (apply q_fab <;> apply Eq.refl) | (apply q_cmp <;> apply Eq.refl) | (apply q_arith <;> (first | apply Eq.refl | omega)) | (apply q_len <;> apply Eq.refl) | (apply q_ldba <;> apply Eq.refl) | (apply q_mvO <;> apply Eq.refl) | (apply q_asO <;> apply Eq.refl) | (apply q_asN <;> apply Eq.refl)))
    | apply W_seq
    | apply W_region
    | apply T_normal
    | apply WL_nil
    | apply T_exit
    | apply B_normal
    | apply B_exit_eq
    | apply W_skip
    | apply W_exit
    | apply W_ret
    | apply W_block
    | (apply WL_n; apply Eq.refl; (first | (apply n_boxa <;> apply Eq.refl)))
    | apply W_regionG
    | (apply WG_nil; kernel_rfl)
    | (apply WG_q; (first | (apply want_none; apply Eq.refl) | (apply want_some; apply Eq.refl; apply Eq.refl; apply Eq.refl)); apply Eq.refl; first | (apply fq_bld <;> apply Eq.refl) | (apply fq_blda <;> apply Eq.refl) | (apply fq_fn; apply Eq.refl) | (apply fq_mf; apply Eq.refl) | (apply FQ_intro; intro _; (first | (apply q_mvI <;> apply Eq.refl) | (apply q_asI <;> apply Eq.refl) | (apply q_ldb <;> apply Eq.refl) | (apply q_fab <;> apply Eq.refl) | (apply q_cmp <;> apply Eq.refl) | (apply q_arith <;> (first | apply Eq.refl | omega)) | (apply q_len <;> apply Eq.refl) | (apply q_ldba <;> apply Eq.refl) | (apply q_mvO <;> apply Eq.refl) | (apply q_asO <;> apply Eq.refl) | (apply q_asN <;> apply Eq.refl))))
    | (apply WG_n; (first | (apply want_none; apply Eq.refl) | (apply want_some; apply Eq.refl; apply Eq.refl; apply Eq.refl)); (first | (apply f_bsl <;> apply Eq.refl)))
    | (apply W_cD; apply Eq.refl; intro _; rotate_left 1; intro _; rotate_left 1))
  refine W_wk (wk_nil 3 3 132 14 (fun k => encLanes (c.trucks.getD k default) c.len) rfl) ?_
  refine W_loopR [1, 2, 7] [1, 2] (fun k : Nat => [(3, .os 3 (k + 1)), (8, .int .i64 k)]) (fun k => [(3, k + 1)]) (fun k => [(3, .arr 132 14 k (fun k => encLanes (c.trucks.getD k default) c.len))])
      (fun k => k ≤ c.trucks.length) (fun k => c.trucks.length - k) 0 (Nat.zero_le _) (by refine ⟨?_, ?_, ?_⟩ <;> repeat' (first | exact trivial | apply And.intro | apply Eq.refl | (apply toI; apply Eq.refl; first | omega | assumption) | (apply toB; apply Eq.refl; repeat' (first | apply Eq.refl | apply consS | (apply consI; first | apply Eq.refl | omega | assumption))))) (fun k h hk => ?_)
  have hr : (k : Int) < c.trucks.length → ROk c.len (c.trucks.getD k default) := fun h => hc.r _ (by omega)
  repeat' (first
    | (apply WL_q; apply Eq.refl; apply Eq.refl; (first | (apply q_mvI <;> apply Eq.refl) | (apply q_asI <;> apply Eq.refl) | (apply q_ldb <;> apply Eq.refl) | (apply q_fab <;> apply Eq.refl) | (apply q_cmp <;> apply Eq.refl) | (apply q_arith <;> (first | apply Eq.refl | omega)) | (apply q_len <;> apply Eq.refl) | (apply q_ldba <;> apply Eq.refl) | (apply q_mvO <;> apply Eq.refl) | (apply q_asO <;> apply Eq.refl) | (apply q_asN <;> apply Eq.refl)))
    | apply W_seq
    | apply W_region
    | apply T_normal
    | apply WL_nil
    | apply T_exit
    | apply B_normal
    | apply B_exit_eq
    | apply W_skip
    | apply W_exit
    | apply W_ret
    | apply W_block
    | (apply WL_n; apply Eq.refl; (first | (apply n_boxa <;> apply Eq.refl)))
    | apply W_regionG
    | (apply WG_nil; kernel_rfl)
    | (apply WG_q; (first | (apply want_none; apply Eq.refl) | (apply want_some; apply Eq.refl; apply Eq.refl; apply Eq.refl)); apply Eq.refl; first | (apply fq_bld <;> apply Eq.refl) | (apply fq_blda <;> apply Eq.refl) | (apply fq_fn; apply Eq.refl) | (apply fq_mf; apply Eq.refl) | (apply FQ_intro; intro _; (first | (apply q_mvI <;> apply Eq.refl) | (apply q_asI <;> apply Eq.refl) | (apply q_ldb <;> apply Eq.refl) | (apply q_fab <;> apply Eq.refl) | (apply q_cmp <;> apply Eq.refl) | (apply q_arith <;> (first | apply Eq.refl | omega)) | (apply q_len <;> apply Eq.refl) | (apply q_ldba <;> apply Eq.refl) | (apply q_mvO <;> apply Eq.refl) | (apply q_asO <;> apply Eq.refl) | (apply q_asN <;> apply Eq.refl))))
    | (apply WG_call; (first | (apply want_none; apply Eq.refl) | (apply want_some; apply Eq.refl; apply Eq.refl; apply Eq.refl)); apply Eq.refl; apply Eq.refl; apply Eq.refl; exact (c84 c k false (by omega)))
    | (apply WG_call; (first | (apply want_none; apply Eq.refl) | (apply want_some; apply Eq.refl; apply Eq.refl; apply Eq.refl)); apply Eq.refl; apply Eq.refl; apply Eq.refl; exact (c84 c k true (by omega)))
    | (apply WG_call; (first | (apply want_none; apply Eq.refl) | (apply want_some; apply Eq.refl; apply Eq.refl; apply Eq.refl)); apply Eq.refl; apply Eq.refl; apply Eq.refl; exact (c83 (freeT (c.trucks.getD k default) false) c.len ((hr (by assumption)).free false)))
    | (apply WG_call; (first | (apply want_none; apply Eq.refl) | (apply want_some; apply Eq.refl; apply Eq.refl; apply Eq.refl)); apply Eq.refl; apply Eq.refl; apply Eq.refl; exact (c83 (freeT (c.trucks.getD k default) true) c.len ((hr (by assumption)).free true)))
    | (apply WG_n; (first | (apply want_none; apply Eq.refl) | (apply want_some; apply Eq.refl; apply Eq.refl; apply Eq.refl)); (first | (refine f_app (f' := fun k => encLanes (c.trucks.getD k default) c.len) rfl rfl rfl rfl rfl rfl rfl rfl rfl rfl rfl rfl rfl rfl rfl (by show (k + 1) * 176 ≤ _; omega) (by omega) rfl (fun i hi => rfl) (fun i hi => by (obtain rfl : i = 0 := by omega); rfl)) | (apply f_bsl <;> apply Eq.refl)))
    | (apply W_cD; apply Eq.refl; intro _; rotate_left 1; intro _; rotate_left 1))
  · exact ⟨k + 1, by omega, by omega, (by apply reach_now; refine ⟨?_, ?_, ?_, ?_, ?_⟩ <;> repeat' (first | exact trivial | apply And.intro | apply Eq.refl | (apply toI; apply Eq.refl; first | omega | assumption) | (apply toB; apply Eq.refl; repeat' (first | apply Eq.refl | apply consS | (apply consI; first | apply Eq.refl | omega | assumption)))))⟩
  · obtain rfl : k = c.trucks.length := by omega
    refine fin_wk (wk_freeze 2 (s := 3) rfl rfl rfl) (fin_now ?_)
    ((try apply fin_now); first | (apply fin_Sl; apply Eq.refl; apply Eq.refl; apply Eq.refl; try apply Eq.refl))
def firstS {α : Type} (f : Nat → Option α) : Nat → Nat → Option α
  | 0, _ => none
  | n + 1, k => match f k with
    | some a => some a
    | none => firstS f n (k + 1)
section
variable {α : Type} {f : Nat → Option α} {n k : Nat} {R : Option α}
theorem firstS_end (hi : firstS f (n - k) k = R) (h : ¬ k < n) : R = none := by rw [← hi, show n - k = 0 by omega]; rfl
theorem firstS_hit {a : α} (hi : firstS f (n - k) k = R) (h : k < n) (hp : f k = some a) : R = some a := by
  rw [← hi, show n - k = (n - (k + 1)) + 1 by omega, firstS, hp]
theorem firstS_next (hi : firstS f (n - k) k = R) (h : k < n) (hp : f k = none) : firstS f (n - (k + 1)) (k + 1) = R := by
  rw [← hi, show n - k = (n - (k + 1)) + 1 by omega, firstS, hp]
end
def pairM (c : Convoy) (m i k : Nat) : Option Meeting := (meetP c.gap c.fails (c.trucks.getD i default) (c.trucks.getD k default) c.len m).map fun x => { x with i := i, k := k }
def srchK (c : Convoy) (m i : Nat) : Option Meeting := firstS (pairM c m i) (c.trucks.length - (i + 1)) (i + 1)
def srchI (c : Convoy) (m : Nat) : Option Meeting := firstS (srchK c m) c.trucks.length 0
def lastP (c : Convoy) : Nat := (maxUp (endF c) c.trucks.length).toNat
def meetingP (c : Convoy) : Option Meeting := firstS (srchI c) (lastP c + 1) 0
theorem endF_bnd {c : Convoy} (hc : CR c) {k : Nat} (hk : k < c.trucks.length) : 0 ≤ endF c k ∧ endF c k ≤ 21000 := (arr_bnd (hc.ok.t k hk)).2.2
theorem maxUp_bnd {c : Convoy} (hc : CR c) : ∀ k, k ≤ c.trucks.length → 0 ≤ maxUp (endF c) k ∧ maxUp (endF c) k ≤ 21000
  | 0, _ => by simp only [maxUp]; omega
  | k + 1, h => by
    have a := maxUp_bnd hc k (by omega)
    have b := endF_bnd hc (k := k) (by omega)
    simp only [maxUp]; omega
attribute [local irreducible] maxUp endF pairM srchK srchI meetP
theorem c70 (c : Convoy) (hc : CR c) : Contract seat 70 [.agg (encConvoy c)] (.tup [.agg (encMeeting (optM (meetingP c))), .bool (meetingP c).isSome]) := by
  refine contract_introW (fn := Tryd.f70) Tryd.func70 rfl (by kernel_rfl) rfl ?_ ?_ ?_
  · exact PureL.cons (.agg _ (pure_convoy c)) PureL.nil
  · exact .tup _ (PureL.cons (.agg _ (pure_meeting _)) (PureL.cons (.bool _) PureL.nil))
  intro w κ
  have hn := hc.ok.n
  have hmax0 := maxUp_zero (endF c)
  repeat' (first
    | (apply WL_q; apply Eq.refl; apply Eq.refl; (first | (apply q_mvI <;> apply Eq.refl) | (apply q_asI <;> apply Eq.refl) | (apply q_ldb <;> apply Eq.refl) | (apply q_fab <;> apply Eq.refl) | (apply q_cmp <;> apply Eq.refl) | (apply q_mvB <;> apply Eq.refl) | (apply q_asB <;> apply Eq.refl) | (apply q_arith <;> (first | apply Eq.refl | omega)) | (apply q_len <;> apply Eq.refl) | (apply q_ext <;> apply Eq.refl) | (apply q_ia <;> (first | apply Eq.refl | omega)) | (apply q_ldba <;> apply Eq.refl) | (apply q_ldra <;> apply Eq.refl) | (apply q_bld <;> apply Eq.refl) | (apply q_max <;> apply Eq.refl) | (apply q_mvS <;> apply Eq.refl) | (apply q_asS <;> apply Eq.refl) | (apply q_mvT <;> apply Eq.refl) | (apply q_mf <;> apply Eq.refl) | (apply q_mvMf <;> apply Eq.refl) | (apply q_asMf <;> apply Eq.refl) | (apply q_iab; apply Eq.refl; apply Eq.refl; apply Eq.refl; apply Eq.refl; (first | omega | decide); apply Eq.refl; apply Eq.refl; (first | omega | decide); apply Eq.refl; apply Eq.refl)))
    | apply W_seq
    | apply W_region
    | apply T_normal
    | apply WL_nil
    | apply T_exit
    | apply T_ret
    | apply B_normal
    | apply B_ret
    | apply B_exit_eq
    | apply W_skip
    | apply W_exit
    | apply W_ret
    | apply W_block
    | (apply W_condT; apply Eq.refl)
    | (apply W_condF; apply Eq.refl)
    | (apply WL_call; apply Eq.refl; apply Eq.refl; rotate_left 1; apply Eq.refl; rotate_right 1; exact (c89 c hc); apply Eq.refl)
    | (apply WL_n; apply Eq.refl; (first | (apply n_boxa <;> apply Eq.refl) | (apply n_alloc <;> apply Eq.refl) | (apply n_stb <;> apply Eq.refl)))
    | apply W_regionG
    | (apply WG_nil; kernel_rfl)
    | (apply WG_q; (first | (apply want_none; apply Eq.refl) | (apply want_some; apply Eq.refl; apply Eq.refl; apply Eq.refl)); apply Eq.refl; first | (apply fq_bld <;> apply Eq.refl) | (apply fq_blda <;> apply Eq.refl) | (apply fq_fn; apply Eq.refl) | (apply fq_mf; apply Eq.refl) | (apply FQ_intro; intro _; (first | (apply q_mvI <;> apply Eq.refl) | (apply q_asI <;> apply Eq.refl) | (apply q_ldb <;> apply Eq.refl) | (apply q_fab <;> apply Eq.refl) | (apply q_cmp <;> apply Eq.refl) | (apply q_mvB <;> apply Eq.refl) | (apply q_asB <;> apply Eq.refl) | (apply q_arith <;> (first | apply Eq.refl | omega)) | (apply q_len <;> apply Eq.refl) | (apply q_ext <;> apply Eq.refl) | (apply q_ia <;> (first | apply Eq.refl | omega)) | (apply q_ldba <;> apply Eq.refl) | (apply q_ldra <;> apply Eq.refl) | (apply q_bld <;> apply Eq.refl) | (apply q_max <;> apply Eq.refl) | (apply q_mvS <;> apply Eq.refl) | (apply q_asS <;> apply Eq.refl) | (apply q_mvT <;> apply Eq.refl) | (apply q_mf <;> apply Eq.refl) | (apply q_mvMf <;> apply Eq.refl) | (apply q_asMf <;> apply Eq.refl) | (apply q_iab; apply Eq.refl; apply Eq.refl; apply Eq.refl; apply Eq.refl; (first | omega | decide); apply Eq.refl; apply Eq.refl; (first | omega | decide); apply Eq.refl; apply Eq.refl))))
    | (apply WG_callm; (first | (apply want_none; apply Eq.refl) | (apply want_some; apply Eq.refl; apply Eq.refl; apply Eq.refl)); apply Eq.refl; apply Eq.refl; apply Eq.refl; exact (c89 c hc); (focus ((repeat' (first | exact FzL.nil | refine FzL.cons _ _ _ _ ?_ ?_ | exact Fz.os _ _ _ _ _ _ rfl rfl | exact Fz.bx _ _ _ _ rfl rfl | refine Fz.fn _ _ _ ?_ | exact Fz.same _ | exact fz_refl _ _)); done)); apply Eq.refl)
    | (apply WG_n; (first | (apply want_none; apply Eq.refl) | (apply want_some; apply Eq.refl; apply Eq.refl; apply Eq.refl)); (first | (apply f_alloc <;> apply Eq.refl) | (apply f_stb <;> apply Eq.refl)))
    | (apply W_cD; apply Eq.refl; intro _; rotate_left 1; intro _; rotate_left 1))
  refine W_loopR [2, 3, 4, 6, 24, 25] [2] (fun k : Nat => [(7, .int .i64 (maxUp (endF c) k)), (26, .int .i64 k)]) (fun k => []) (fun k => [])
      (fun k => k ≤ c.trucks.length) (fun k => c.trucks.length - k) 0 (Nat.zero_le _) (by refine ⟨?_, ?_, ?_⟩ <;> repeat' (first | exact trivial | apply And.intro | apply Eq.refl | (apply toI; apply Eq.refl; first | omega | assumption) | (apply toB; apply Eq.refl; repeat' (first | apply Eq.refl | apply consS | (apply consI; first | apply Eq.refl | omega | assumption))))) (fun k h hk => ?_)
  have hmk := maxUp_s (endF c) k
  have hr : (k : Int) < c.trucks.length → ROk c.len (c.trucks.getD k default) := fun h => hc.r _ (by omega)
  have k3 : (k : Int) < c.trucks.length → Contract seat 98 [.agg (encTrack (freeT (c.trucks.getD k default) false) c.len)] (.int .i64 (endF c k)) := fun h => by rw [endF_eq]; exact c98 _ _ (hr h)
  repeat' (first
    | (apply WL_q; apply Eq.refl; apply Eq.refl; (first | (apply q_mvI <;> apply Eq.refl) | (apply q_asI <;> apply Eq.refl) | (apply q_ldb <;> apply Eq.refl) | (apply q_fab <;> apply Eq.refl) | (apply q_cmp <;> apply Eq.refl) | (apply q_mvB <;> apply Eq.refl) | (apply q_asB <;> apply Eq.refl) | (apply q_arith <;> (first | apply Eq.refl | omega)) | (apply q_len <;> apply Eq.refl) | (apply q_ext <;> apply Eq.refl) | (apply q_ia <;> (first | apply Eq.refl | omega)) | (apply q_ldba <;> apply Eq.refl) | (apply q_ldra <;> apply Eq.refl) | (apply q_bld <;> apply Eq.refl) | (apply q_max <;> apply Eq.refl) | (apply q_mvS <;> apply Eq.refl) | (apply q_asS <;> apply Eq.refl) | (apply q_mvT <;> apply Eq.refl) | (apply q_mf <;> apply Eq.refl) | (apply q_mvMf <;> apply Eq.refl) | (apply q_asMf <;> apply Eq.refl) | (apply q_iab; apply Eq.refl; apply Eq.refl; apply Eq.refl; apply Eq.refl; (first | omega | decide); apply Eq.refl; apply Eq.refl; (first | omega | decide); apply Eq.refl; apply Eq.refl)))
    | apply W_seq
    | apply W_region
    | apply T_normal
    | apply WL_nil
    | apply T_exit
    | apply T_ret
    | apply B_normal
    | apply B_ret
    | apply B_exit_eq
    | apply W_skip
    | apply W_exit
    | apply W_ret
    | apply W_block
    | (apply W_condT; apply Eq.refl)
    | (apply W_condF; apply Eq.refl)
    | (apply WL_call; apply Eq.refl; apply Eq.refl; rotate_left 1; apply Eq.refl; rotate_right 1; exact (k3 (by assumption)); apply Eq.refl)
    | (apply WL_n; apply Eq.refl; (first | (apply n_boxa <;> apply Eq.refl) | (apply n_alloc <;> apply Eq.refl) | (apply n_stb <;> apply Eq.refl)))
    | apply W_regionG
    | (apply WG_nil; kernel_rfl)
    | (apply WG_q; (first | (apply want_none; apply Eq.refl) | (apply want_some; apply Eq.refl; apply Eq.refl; apply Eq.refl)); apply Eq.refl; first | (apply fq_bld <;> apply Eq.refl) | (apply fq_blda <;> apply Eq.refl) | (apply fq_fn; apply Eq.refl) | (apply fq_mf; apply Eq.refl) | (apply FQ_intro; intro _; (first | (apply q_mvI <;> apply Eq.refl) | (apply q_asI <;> apply Eq.refl) | (apply q_ldb <;> apply Eq.refl) | (apply q_fab <;> apply Eq.refl) | (apply q_cmp <;> apply Eq.refl) | (apply q_mvB <;> apply Eq.refl) | (apply q_asB <;> apply Eq.refl) | (apply q_arith <;> (first | apply Eq.refl | omega)) | (apply q_len <;> apply Eq.refl) | (apply q_ext <;> apply Eq.refl) | (apply q_ia <;> (first | apply Eq.refl | omega)) | (apply q_ldba <;> apply Eq.refl) | (apply q_ldra <;> apply Eq.refl) | (apply q_bld <;> apply Eq.refl) | (apply q_max <;> apply Eq.refl) | (apply q_mvS <;> apply Eq.refl) | (apply q_asS <;> apply Eq.refl) | (apply q_mvT <;> apply Eq.refl) | (apply q_mf <;> apply Eq.refl) | (apply q_mvMf <;> apply Eq.refl) | (apply q_asMf <;> apply Eq.refl) | (apply q_iab; apply Eq.refl; apply Eq.refl; apply Eq.refl; apply Eq.refl; (first | omega | decide); apply Eq.refl; apply Eq.refl; (first | omega | decide); apply Eq.refl; apply Eq.refl))))
    | (apply WG_callm; (first | (apply want_none; apply Eq.refl) | (apply want_some; apply Eq.refl; apply Eq.refl; apply Eq.refl)); apply Eq.refl; apply Eq.refl; apply Eq.refl; exact (k3 (by assumption)); (focus ((repeat' (first | exact FzL.nil | refine FzL.cons _ _ _ _ ?_ ?_ | exact Fz.os _ _ _ _ _ _ rfl rfl | exact Fz.bx _ _ _ _ rfl rfl | refine Fz.fn _ _ _ ?_ | exact Fz.same _ | exact fz_refl _ _)); done)); apply Eq.refl)
    | (apply WG_n; (first | (apply want_none; apply Eq.refl) | (apply want_some; apply Eq.refl; apply Eq.refl; apply Eq.refl)); (first | (apply f_alloc <;> apply Eq.refl) | (apply f_stb <;> apply Eq.refl)))
    | (apply W_cD; apply Eq.refl; intro _; rotate_left 1; intro _; rotate_left 1))
  · exact ⟨k + 1, by omega, by omega, (by apply reach_now; refine ⟨?_, ?_, ?_, ?_, ?_⟩ <;> repeat' (first | exact trivial | apply And.intro | apply Eq.refl | (apply toI; apply Eq.refl; first | omega | assumption) | (apply toB; apply Eq.refl; repeat' (first | apply Eq.refl | apply consS | (apply consI; first | apply Eq.refl | omega | assumption)))))⟩
  obtain rfl : k = c.trucks.length := by omega
  clear hr k3 hmk hmax0
  obtain ⟨mb1, mb2⟩ := maxUp_bnd hc c.trucks.length (Nat.le_refl _)
  have hlast : ((lastP c : Nat) : Int) = maxUp (endF c) c.trucks.length := by unfold lastP; omega
  refine W_loopR [2, 4, 6, 7] [] (fun m : Nat => [(3, .bool false), (10, .int .i64 m)]) (fun m => [(2, 1)]) (fun m => [(2, .box (encMeeting default))])
      (fun m => m ≤ lastP c + 1 ∧ firstS (srchI c) (lastP c + 1 - m) m = meetingP c) (fun m => lastP c + 1 - m) 0 ⟨Nat.zero_le _, rfl⟩ (by refine ⟨?_, ?_, ?_⟩ <;> repeat' (first | exact trivial | apply And.intro | apply Eq.refl | (apply toI; apply Eq.refl; first | omega | assumption) | (apply toB; apply Eq.refl; repeat' (first | apply Eq.refl | apply consS | (apply consI; first | apply Eq.refl | omega | assumption))))) (fun m h1 hm => ?_)
  obtain ⟨hm1, hm2⟩ := hm
  repeat' (first
    | (apply WL_q; apply Eq.refl; apply Eq.refl; (first | (apply q_mvI <;> apply Eq.refl) | (apply q_asI <;> apply Eq.refl) | (apply q_ldb <;> apply Eq.refl) | (apply q_fab <;> apply Eq.refl) | (apply q_cmp <;> apply Eq.refl) | (apply q_mvB <;> apply Eq.refl) | (apply q_asB <;> apply Eq.refl) | (apply q_arith <;> (first | apply Eq.refl | omega)) | (apply q_len <;> apply Eq.refl) | (apply q_ext <;> apply Eq.refl) | (apply q_ia <;> (first | apply Eq.refl | omega)) | (apply q_ldba <;> apply Eq.refl) | (apply q_ldra <;> apply Eq.refl) | (apply q_bld <;> apply Eq.refl) | (apply q_max <;> apply Eq.refl) | (apply q_mvS <;> apply Eq.refl) | (apply q_asS <;> apply Eq.refl) | (apply q_mvT <;> apply Eq.refl) | (apply q_mf <;> apply Eq.refl) | (apply q_mvMf <;> apply Eq.refl) | (apply q_asMf <;> apply Eq.refl) | (apply q_iab; apply Eq.refl; apply Eq.refl; apply Eq.refl; apply Eq.refl; (first | omega | decide); apply Eq.refl; apply Eq.refl; (first | omega | decide); apply Eq.refl; apply Eq.refl)))
    | apply W_seq
    | apply W_region
    | apply T_normal
    | apply WL_nil
    | apply T_exit
    | apply T_ret
    | apply B_normal
    | apply B_ret
    | apply B_exit_eq
    | apply W_skip
    | apply W_exit
    | apply W_ret
    | apply W_block
    | (apply W_condT; apply Eq.refl)
    | (apply W_condF; apply Eq.refl)
    | (apply WL_n; apply Eq.refl; (first | (apply n_boxa <;> apply Eq.refl) | (apply n_alloc <;> apply Eq.refl) | (apply n_stb <;> apply Eq.refl)))
    | apply W_regionG
    | (apply WG_nil; kernel_rfl)
    | (apply WG_q; (first | (apply want_none; apply Eq.refl) | (apply want_some; apply Eq.refl; apply Eq.refl; apply Eq.refl)); apply Eq.refl; first | (apply fq_bld <;> apply Eq.refl) | (apply fq_blda <;> apply Eq.refl) | (apply fq_fn; apply Eq.refl) | (apply fq_mf; apply Eq.refl) | (apply FQ_intro; intro _; (first | (apply q_mvI <;> apply Eq.refl) | (apply q_asI <;> apply Eq.refl) | (apply q_ldb <;> apply Eq.refl) | (apply q_fab <;> apply Eq.refl) | (apply q_cmp <;> apply Eq.refl) | (apply q_mvB <;> apply Eq.refl) | (apply q_asB <;> apply Eq.refl) | (apply q_arith <;> (first | apply Eq.refl | omega)) | (apply q_len <;> apply Eq.refl) | (apply q_ext <;> apply Eq.refl) | (apply q_ia <;> (first | apply Eq.refl | omega)) | (apply q_ldba <;> apply Eq.refl) | (apply q_ldra <;> apply Eq.refl) | (apply q_bld <;> apply Eq.refl) | (apply q_max <;> apply Eq.refl) | (apply q_mvS <;> apply Eq.refl) | (apply q_asS <;> apply Eq.refl) | (apply q_mvT <;> apply Eq.refl) | (apply q_mf <;> apply Eq.refl) | (apply q_mvMf <;> apply Eq.refl) | (apply q_asMf <;> apply Eq.refl) | (apply q_iab; apply Eq.refl; apply Eq.refl; apply Eq.refl; apply Eq.refl; (first | omega | decide); apply Eq.refl; apply Eq.refl; (first | omega | decide); apply Eq.refl; apply Eq.refl))))
    | (apply WG_n; (first | (apply want_none; apply Eq.refl) | (apply want_some; apply Eq.refl; apply Eq.refl; apply Eq.refl)); (first | (apply f_alloc <;> apply Eq.refl) | (apply f_stb <;> apply Eq.refl)))
    | (apply W_cD; apply Eq.refl; intro _; rotate_left 1; intro _; rotate_left 1))
  rotate_left 1
  · have := firstS_end hm2 (by omega)
    rw [this]; ((try apply fin_now); first | (focus (apply fin_2; apply Eq.refl; (first | (apply rv_B; apply Eq.refl) | (apply rv_A <;> apply Eq.refl)); (first | (apply rv_B; apply Eq.refl) | (apply rv_A <;> apply Eq.refl)); all_goals try apply Eq.refl)))
  have hmlt : m < lastP c + 1 := by omega
  refine W_loopR [2, 4, 6, 7, 10, 36, 37, 38, 41, 42] [] (fun i : Nat => [(3, .bool false), (43, .int .i64 i)]) (fun i => [(2, 1)]) (fun i => [(2, .box (encMeeting default))])
      (fun i => i ≤ c.trucks.length ∧ firstS (srchK c m) (c.trucks.length - i) i = srchI c m) (fun i => c.trucks.length - i) 0 ⟨Nat.zero_le _, by unfold srchI; rfl⟩ (by refine ⟨?_, ?_, ?_⟩ <;> repeat' (first | exact trivial | apply And.intro | apply Eq.refl | (apply toI; apply Eq.refl; first | omega | assumption) | (apply toB; apply Eq.refl; repeat' (first | apply Eq.refl | apply consS | (apply consI; first | apply Eq.refl | omega | assumption))))) (fun i h2 hi => ?_)
  obtain ⟨hi1, hi2⟩ := hi
  repeat' (first
    | (apply WL_q; apply Eq.refl; apply Eq.refl; (first | (apply q_mvI <;> apply Eq.refl) | (apply q_asI <;> apply Eq.refl) | (apply q_ldb <;> apply Eq.refl) | (apply q_fab <;> apply Eq.refl) | (apply q_cmp <;> apply Eq.refl) | (apply q_mvB <;> apply Eq.refl) | (apply q_asB <;> apply Eq.refl) | (apply q_arith <;> (first | apply Eq.refl | omega)) | (apply q_len <;> apply Eq.refl) | (apply q_ext <;> apply Eq.refl) | (apply q_ia <;> (first | apply Eq.refl | omega)) | (apply q_ldba <;> apply Eq.refl) | (apply q_ldra <;> apply Eq.refl) | (apply q_bld <;> apply Eq.refl) | (apply q_max <;> apply Eq.refl) | (apply q_mvS <;> apply Eq.refl) | (apply q_asS <;> apply Eq.refl) | (apply q_mvT <;> apply Eq.refl) | (apply q_mf <;> apply Eq.refl) | (apply q_mvMf <;> apply Eq.refl) | (apply q_asMf <;> apply Eq.refl) | (apply q_iab; apply Eq.refl; apply Eq.refl; apply Eq.refl; apply Eq.refl; (first | omega | decide); apply Eq.refl; apply Eq.refl; (first | omega | decide); apply Eq.refl; apply Eq.refl)))
    | apply W_seq
    | apply W_region
    | apply T_normal
    | apply WL_nil
    | apply T_exit
    | apply T_ret
    | apply B_normal
    | apply B_ret
    | apply B_exit_eq
    | apply W_skip
    | apply W_exit
    | apply W_ret
    | apply W_block
    | (apply W_condT; apply Eq.refl)
    | (apply W_condF; apply Eq.refl)
    | (apply WL_n; apply Eq.refl; (first | (apply n_boxa <;> apply Eq.refl) | (apply n_alloc <;> apply Eq.refl) | (apply n_stb <;> apply Eq.refl)))
    | apply W_regionG
    | (apply WG_nil; kernel_rfl)
    | (apply WG_q; (first | (apply want_none; apply Eq.refl) | (apply want_some; apply Eq.refl; apply Eq.refl; apply Eq.refl)); apply Eq.refl; first | (apply fq_bld <;> apply Eq.refl) | (apply fq_blda <;> apply Eq.refl) | (apply fq_fn; apply Eq.refl) | (apply fq_mf; apply Eq.refl) | (apply FQ_intro; intro _; (first | (apply q_mvI <;> apply Eq.refl) | (apply q_asI <;> apply Eq.refl) | (apply q_ldb <;> apply Eq.refl) | (apply q_fab <;> apply Eq.refl) | (apply q_cmp <;> apply Eq.refl) | (apply q_mvB <;> apply Eq.refl) | (apply q_asB <;> apply Eq.refl) | (apply q_arith <;> (first | apply Eq.refl | omega)) | (apply q_len <;> apply Eq.refl) | (apply q_ext <;> apply Eq.refl) | (apply q_ia <;> (first | apply Eq.refl | omega)) | (apply q_ldba <;> apply Eq.refl) | (apply q_ldra <;> apply Eq.refl) | (apply q_bld <;> apply Eq.refl) | (apply q_max <;> apply Eq.refl) | (apply q_mvS <;> apply Eq.refl) | (apply q_asS <;> apply Eq.refl) | (apply q_mvT <;> apply Eq.refl) | (apply q_mf <;> apply Eq.refl) | (apply q_mvMf <;> apply Eq.refl) | (apply q_asMf <;> apply Eq.refl) | (apply q_iab; apply Eq.refl; apply Eq.refl; apply Eq.refl; apply Eq.refl; (first | omega | decide); apply Eq.refl; apply Eq.refl; (first | omega | decide); apply Eq.refl; apply Eq.refl))))
    | (apply WG_n; (first | (apply want_none; apply Eq.refl) | (apply want_some; apply Eq.refl; apply Eq.refl; apply Eq.refl)); (first | (apply f_alloc <;> apply Eq.refl) | (apply f_stb <;> apply Eq.refl)))
    | (apply W_cD; apply Eq.refl; intro _; rotate_left 1; intro _; rotate_left 1))
  rotate_left 1
  · have := firstS_end hi2 (by omega)
    exact ⟨m + 1, ⟨by omega, firstS_next hm2 hmlt this⟩, by omega, (by apply reach_now; refine ⟨?_, ?_, ?_, ?_, ?_⟩ <;> repeat' (first | exact trivial | apply And.intro | apply Eq.refl | (apply toI; apply Eq.refl; first | omega | assumption) | (apply toB; apply Eq.refl; repeat' (first | apply Eq.refl | apply consS | (apply consI; first | apply Eq.refl | omega | assumption)))))⟩
  have hilt : i < c.trucks.length := by omega
  refine W_loopR [2, 4, 6, 7, 10, 11, 36, 37, 38, 41, 42, 43, 44, 45, 46, 47] [] (fun k : Nat => [(3, .bool false), (12, .int .i64 k)]) (fun k => [(2, 1)]) (fun k => [(2, .box (encMeeting default))])
      (fun k => i + 1 ≤ k ∧ k ≤ c.trucks.length ∧ firstS (pairM c m i) (c.trucks.length - k) k = srchK c m i) (fun k => c.trucks.length - k) (i + 1) ⟨Nat.le_refl _, by omega, by unfold srchK; rfl⟩ (by refine ⟨?_, ?_, ?_⟩ <;> repeat' (first | exact trivial | apply And.intro | apply Eq.refl | (apply toI; apply Eq.refl; first | omega | assumption) | (apply toB; apply Eq.refl; repeat' (first | apply Eq.refl | apply consS | (apply consI; first | apply Eq.refl | omega | assumption))))) (fun k h3 hk => ?_)
  obtain ⟨hk0, hk1, hk2⟩ := hk
  repeat' (first
    | (apply WL_q; apply Eq.refl; apply Eq.refl; (first | (apply q_mvI <;> apply Eq.refl) | (apply q_asI <;> apply Eq.refl) | (apply q_ldb <;> apply Eq.refl) | (apply q_fab <;> apply Eq.refl) | (apply q_cmp <;> apply Eq.refl) | (apply q_mvB <;> apply Eq.refl) | (apply q_asB <;> apply Eq.refl) | (apply q_arith <;> (first | apply Eq.refl | omega)) | (apply q_len <;> apply Eq.refl) | (apply q_ext <;> apply Eq.refl) | (apply q_ia <;> (first | apply Eq.refl | omega)) | (apply q_ldba <;> apply Eq.refl) | (apply q_ldra <;> apply Eq.refl) | (apply q_bld <;> apply Eq.refl) | (apply q_max <;> apply Eq.refl) | (apply q_mvS <;> apply Eq.refl) | (apply q_asS <;> apply Eq.refl) | (apply q_mvT <;> apply Eq.refl) | (apply q_mf <;> apply Eq.refl) | (apply q_mvMf <;> apply Eq.refl) | (apply q_asMf <;> apply Eq.refl) | (apply q_iab; apply Eq.refl; apply Eq.refl; apply Eq.refl; apply Eq.refl; (first | omega | decide); apply Eq.refl; apply Eq.refl; (first | omega | decide); apply Eq.refl; apply Eq.refl)))
    | apply W_seq
    | apply W_region
    | apply T_normal
    | apply WL_nil
    | apply T_exit
    | apply T_ret
    | apply B_normal
    | apply B_ret
    | apply B_exit_eq
    | apply W_skip
    | apply W_exit
    | apply W_ret
    | apply W_block
    | (apply W_condT; apply Eq.refl)
    | (apply W_condF; apply Eq.refl)
    | (apply WL_n; apply Eq.refl; (first | (apply n_boxa <;> apply Eq.refl) | (apply n_alloc <;> apply Eq.refl) | (apply n_stb <;> apply Eq.refl)))
    | apply W_regionG
    | (apply WG_nil; kernel_rfl)
    | (apply WG_q; (first | (apply want_none; apply Eq.refl) | (apply want_some; apply Eq.refl; apply Eq.refl; apply Eq.refl)); apply Eq.refl; first | (apply fq_bld <;> apply Eq.refl) | (apply fq_blda <;> apply Eq.refl) | (apply fq_fn; apply Eq.refl) | (apply fq_mf; apply Eq.refl) | (apply FQ_intro; intro _; (first | (apply q_mvI <;> apply Eq.refl) | (apply q_asI <;> apply Eq.refl) | (apply q_ldb <;> apply Eq.refl) | (apply q_fab <;> apply Eq.refl) | (apply q_cmp <;> apply Eq.refl) | (apply q_mvB <;> apply Eq.refl) | (apply q_asB <;> apply Eq.refl) | (apply q_arith <;> (first | apply Eq.refl | omega)) | (apply q_len <;> apply Eq.refl) | (apply q_ext <;> apply Eq.refl) | (apply q_ia <;> (first | apply Eq.refl | omega)) | (apply q_ldba <;> apply Eq.refl) | (apply q_ldra <;> apply Eq.refl) | (apply q_bld <;> apply Eq.refl) | (apply q_max <;> apply Eq.refl) | (apply q_mvS <;> apply Eq.refl) | (apply q_asS <;> apply Eq.refl) | (apply q_mvT <;> apply Eq.refl) | (apply q_mf <;> apply Eq.refl) | (apply q_mvMf <;> apply Eq.refl) | (apply q_asMf <;> apply Eq.refl) | (apply q_iab; apply Eq.refl; apply Eq.refl; apply Eq.refl; apply Eq.refl; (first | omega | decide); apply Eq.refl; apply Eq.refl; (first | omega | decide); apply Eq.refl; apply Eq.refl))))
    | (apply WG_n; (first | (apply want_none; apply Eq.refl) | (apply want_some; apply Eq.refl; apply Eq.refl; apply Eq.refl)); (first | (apply f_alloc <;> apply Eq.refl) | (apply f_stb <;> apply Eq.refl)))
    | (apply W_cD; apply Eq.refl; intro _; rotate_left 1; intro _; rotate_left 1))
  · have hklt : k < c.trucks.length := by omega
    have kk := c109 c.gap c.fails (c.trucks.getD i default) (c.trucks.getD k default) c.len m (hc.r i hilt) (hc.r k hklt) (by have := hc.ok.g1; omega) hc.ok.g2 (by omega) (by omega)
    have hp : pairM c m i k = (meetP c.gap c.fails (c.trucks.getD i default) (c.trucks.getD k default) c.len m).map fun x => { x with i := i, k := k } := by unfold pairM; rfl
    generalize meetP c.gap c.fails (c.trucks.getD i default) (c.trucks.getD k default) c.len m = R at kk hp
    cases R with
    | none =>
      repeat' (first
    | (apply WL_q; apply Eq.refl; apply Eq.refl; (first | (apply q_mvI <;> apply Eq.refl) | (apply q_asI <;> apply Eq.refl) | (apply q_ldb <;> apply Eq.refl) | (apply q_fab <;> apply Eq.refl) | (apply q_cmp <;> apply Eq.refl) | (apply q_mvB <;> apply Eq.refl) | (apply q_asB <;> apply Eq.refl) | (apply q_arith <;> (first | apply Eq.refl | omega)) | (apply q_len <;> apply Eq.refl) | (apply q_ext <;> apply Eq.refl) | (apply q_ia <;> (first | apply Eq.refl | omega)) | (apply q_ldba <;> apply Eq.refl) | (apply q_ldra <;> apply Eq.refl) | (apply q_bld <;> apply Eq.refl) | (apply q_max <;> apply Eq.refl) | (apply q_mvS <;> apply Eq.refl) | (apply q_asS <;> apply Eq.refl) | (apply q_mvT <;> apply Eq.refl) | (apply q_mf <;> apply Eq.refl) | (apply q_mvMf <;> apply Eq.refl) | (apply q_asMf <;> apply Eq.refl) | (apply q_iab; apply Eq.refl; apply Eq.refl; apply Eq.refl; apply Eq.refl; (first | omega | decide); apply Eq.refl; apply Eq.refl; (first | omega | decide); apply Eq.refl; apply Eq.refl)))
    | apply W_seq
    | apply W_region
    | apply T_normal
    | apply WL_nil
    | apply T_exit
    | apply T_ret
    | apply B_normal
    | apply B_ret
    | apply B_exit_eq
    | apply W_skip
    | apply W_exit
    | apply W_ret
    | apply W_block
    | (apply W_condT; apply Eq.refl)
    | (apply W_condF; apply Eq.refl)
    | (apply WL_call; apply Eq.refl; apply Eq.refl; rotate_left 1; apply Eq.refl; rotate_right 1; exact (kk); apply Eq.refl)
    | (apply WL_n; apply Eq.refl; (first | (apply n_boxa <;> apply Eq.refl) | (apply n_alloc <;> apply Eq.refl) | (apply n_stb <;> apply Eq.refl)))
    | apply W_regionG
    | (apply WG_nil; kernel_rfl)
    | (apply WG_q; (first | (apply want_none; apply Eq.refl) | (apply want_some; apply Eq.refl; apply Eq.refl; apply Eq.refl)); apply Eq.refl; first | (apply fq_bld <;> apply Eq.refl) | (apply fq_blda <;> apply Eq.refl) | (apply fq_fn; apply Eq.refl) | (apply fq_mf; apply Eq.refl) | (apply FQ_intro; intro _; (first | (apply q_mvI <;> apply Eq.refl) | (apply q_asI <;> apply Eq.refl) | (apply q_ldb <;> apply Eq.refl) | (apply q_fab <;> apply Eq.refl) | (apply q_cmp <;> apply Eq.refl) | (apply q_mvB <;> apply Eq.refl) | (apply q_asB <;> apply Eq.refl) | (apply q_arith <;> (first | apply Eq.refl | omega)) | (apply q_len <;> apply Eq.refl) | (apply q_ext <;> apply Eq.refl) | (apply q_ia <;> (first | apply Eq.refl | omega)) | (apply q_ldba <;> apply Eq.refl) | (apply q_ldra <;> apply Eq.refl) | (apply q_bld <;> apply Eq.refl) | (apply q_max <;> apply Eq.refl) | (apply q_mvS <;> apply Eq.refl) | (apply q_asS <;> apply Eq.refl) | (apply q_mvT <;> apply Eq.refl) | (apply q_mf <;> apply Eq.refl) | (apply q_mvMf <;> apply Eq.refl) | (apply q_asMf <;> apply Eq.refl) | (apply q_iab; apply Eq.refl; apply Eq.refl; apply Eq.refl; apply Eq.refl; (first | omega | decide); apply Eq.refl; apply Eq.refl; (first | omega | decide); apply Eq.refl; apply Eq.refl))))
    | (apply WG_callm; (first | (apply want_none; apply Eq.refl) | (apply want_some; apply Eq.refl; apply Eq.refl; apply Eq.refl)); apply Eq.refl; apply Eq.refl; apply Eq.refl; exact (kk); (focus ((repeat' (first | exact FzL.nil | refine FzL.cons _ _ _ _ ?_ ?_ | exact Fz.os _ _ _ _ _ _ rfl rfl | exact Fz.bx _ _ _ _ rfl rfl | refine Fz.fn _ _ _ ?_ | exact Fz.same _ | exact fz_refl _ _)); done)); apply Eq.refl)
    | (apply WG_n; (first | (apply want_none; apply Eq.refl) | (apply want_some; apply Eq.refl; apply Eq.refl; apply Eq.refl)); (first | (apply f_alloc <;> apply Eq.refl) | (apply f_stb <;> apply Eq.refl)))
    | (apply W_cD; apply Eq.refl; intro _; rotate_left 1; intro _; rotate_left 1))
      exact ⟨k + 1, ⟨by omega, by omega, firstS_next hk2 hklt hp⟩, by omega, (by apply reach_now; refine ⟨?_, ?_, ?_, ?_, ?_⟩ <;> repeat' (first | exact trivial | apply And.intro | apply Eq.refl | (apply toI; apply Eq.refl; first | omega | assumption) | (apply toB; apply Eq.refl; repeat' (first | apply Eq.refl | apply consS | (apply consI; first | apply Eq.refl | omega | assumption)))))⟩
    | some x =>
      have hres : meetingP c = some { x with i := i, k := k } := by
        refine (firstS_hit hm2 hmlt (a := _) ?_)
        refine (firstS_hit hi2 hilt (a := _) ?_)
        exact firstS_hit hk2 hklt hp
      rw [hres]
      repeat' (first
    | (apply WL_q; apply Eq.refl; apply Eq.refl; (first | (apply q_mvI <;> apply Eq.refl) | (apply q_asI <;> apply Eq.refl) | (apply q_ldb <;> apply Eq.refl) | (apply q_fab <;> apply Eq.refl) | (apply q_cmp <;> apply Eq.refl) | (apply q_mvB <;> apply Eq.refl) | (apply q_asB <;> apply Eq.refl) | (apply q_arith <;> (first | apply Eq.refl | omega)) | (apply q_len <;> apply Eq.refl) | (apply q_ext <;> apply Eq.refl) | (apply q_ia <;> (first | apply Eq.refl | omega)) | (apply q_ldba <;> apply Eq.refl) | (apply q_ldra <;> apply Eq.refl) | (apply q_bld <;> apply Eq.refl) | (apply q_max <;> apply Eq.refl) | (apply q_mvS <;> apply Eq.refl) | (apply q_asS <;> apply Eq.refl) | (apply q_mvT <;> apply Eq.refl) | (apply q_mf <;> apply Eq.refl) | (apply q_mvMf <;> apply Eq.refl) | (apply q_asMf <;> apply Eq.refl) | (apply q_iab; apply Eq.refl; apply Eq.refl; apply Eq.refl; apply Eq.refl; (first | omega | decide); apply Eq.refl; apply Eq.refl; (first | omega | decide); apply Eq.refl; apply Eq.refl)))
    | apply W_seq
    | apply W_region
    | apply T_normal
    | apply WL_nil
    | apply T_exit
    | apply T_ret
    | apply B_normal
    | apply B_ret
    | apply B_exit_eq
    | apply W_skip
    | apply W_exit
    | apply W_ret
    | apply W_block
    | (apply W_condT; apply Eq.refl)
    | (apply W_condF; apply Eq.refl)
    | (apply WL_call; apply Eq.refl; apply Eq.refl; rotate_left 1; apply Eq.refl; rotate_right 1; exact (kk); apply Eq.refl)
    | (apply WL_n; apply Eq.refl; (first | (apply n_boxa <;> apply Eq.refl) | (apply n_alloc <;> apply Eq.refl) | (apply n_stb <;> apply Eq.refl)))
    | apply W_regionG
    | (apply WG_nil; kernel_rfl)
    | (apply WG_q; (first | (apply want_none; apply Eq.refl) | (apply want_some; apply Eq.refl; apply Eq.refl; apply Eq.refl)); apply Eq.refl; first | (apply fq_bld <;> apply Eq.refl) | (apply fq_blda <;> apply Eq.refl) | (apply fq_fn; apply Eq.refl) | (apply fq_mf; apply Eq.refl) | (apply FQ_intro; intro _; (first | (apply q_mvI <;> apply Eq.refl) | (apply q_asI <;> apply Eq.refl) | (apply q_ldb <;> apply Eq.refl) | (apply q_fab <;> apply Eq.refl) | (apply q_cmp <;> apply Eq.refl) | (apply q_mvB <;> apply Eq.refl) | (apply q_asB <;> apply Eq.refl) | (apply q_arith <;> (first | apply Eq.refl | omega)) | (apply q_len <;> apply Eq.refl) | (apply q_ext <;> apply Eq.refl) | (apply q_ia <;> (first | apply Eq.refl | omega)) | (apply q_ldba <;> apply Eq.refl) | (apply q_ldra <;> apply Eq.refl) | (apply q_bld <;> apply Eq.refl) | (apply q_max <;> apply Eq.refl) | (apply q_mvS <;> apply Eq.refl) | (apply q_asS <;> apply Eq.refl) | (apply q_mvT <;> apply Eq.refl) | (apply q_mf <;> apply Eq.refl) | (apply q_mvMf <;> apply Eq.refl) | (apply q_asMf <;> apply Eq.refl) | (apply q_iab; apply Eq.refl; apply Eq.refl; apply Eq.refl; apply Eq.refl; (first | omega | decide); apply Eq.refl; apply Eq.refl; (first | omega | decide); apply Eq.refl; apply Eq.refl))))
    | (apply WG_callm; (first | (apply want_none; apply Eq.refl) | (apply want_some; apply Eq.refl; apply Eq.refl; apply Eq.refl)); apply Eq.refl; apply Eq.refl; apply Eq.refl; exact (kk); (focus ((repeat' (first | exact FzL.nil | refine FzL.cons _ _ _ _ ?_ ?_ | exact Fz.os _ _ _ _ _ _ rfl rfl | exact Fz.bx _ _ _ _ rfl rfl | refine Fz.fn _ _ _ ?_ | exact Fz.same _ | exact fz_refl _ _)); done)); apply Eq.refl)
    | (apply WG_n; (first | (apply want_none; apply Eq.refl) | (apply want_some; apply Eq.refl; apply Eq.refl; apply Eq.refl)); (first | (apply f_alloc <;> apply Eq.refl) | (apply f_stb <;> apply Eq.refl)))
    | (apply W_cD; apply Eq.refl; intro _; rotate_left 1; intro _; rotate_left 1))
      ((try apply fin_now); first | (focus (apply fin_2; apply Eq.refl; (first | (apply rv_B; apply Eq.refl) | (apply rv_A <;> apply Eq.refl)); (first | (apply rv_B; apply Eq.refl) | (apply rv_A <;> apply Eq.refl)); all_goals try apply Eq.refl)))
  · have := firstS_end hk2 (by omega)
    exact ⟨i + 1, ⟨by omega, firstS_next hi2 hilt this⟩, by omega, (by apply reach_now; refine ⟨?_, ?_, ?_, ?_, ?_⟩ <;> repeat' (first | exact trivial | apply And.intro | apply Eq.refl | (apply toI; apply Eq.refl; first | omega | assumption) | (apply toB; apply Eq.refl; repeat' (first | apply Eq.refl | apply consS | (apply consI; first | apply Eq.refl | omega | assumption)))))⟩
theorem c27 (c : Convoy) : Contract seat 27 [.agg (encConvoy c)] (.tup [.agg (encMeeting (if chkConvoy c = 0 then optM (meetingP c) else default)), .int .i64 (if chkConvoy c = 0 then (if (meetingP c).isSome then 0 else 7) else chkConvoy c)]) := by
  refine contract_introW (fn := Tryd.f27) Tryd.func27 rfl (by kernel_rfl) rfl ?_ ?_ ?_
  · exact PureL.cons (.agg _ (pure_convoy c)) PureL.nil
  · exact .tup _ (PureL.cons (.agg _ (pure_meeting _)) (PureL.cons (.int _ _) PureL.nil))
  intro w κ
  by_cases h0 : chkConvoy c = 0
  · have h1 := c21 c
    have k1 := c70 c (cr_of h0)
    rw [if_pos h0, if_pos h0]
    rw [h0] at h1
    generalize meetingP c = R at *
    cases R with
    | none =>
      repeat' (first
    | (apply WL_q; apply Eq.refl; apply Eq.refl; (first | (apply q_mvI <;> apply Eq.refl) | (apply q_asI <;> apply Eq.refl) | (apply q_cmp <;> apply Eq.refl) | (apply q_mvB <;> apply Eq.refl) | (apply q_asB <;> apply Eq.refl) | (apply q_not <;> apply Eq.refl) | (apply q_arith <;> (first | apply Eq.refl | omega)) | (apply q_ext <;> apply Eq.refl) | (apply q_ldba <;> apply Eq.refl) | (apply q_bld <;> apply Eq.refl) | (apply q_mvT <;> apply Eq.refl)))
    | apply W_seq
    | apply W_region
    | apply T_normal
    | apply WL_nil
    | apply T_ret
    | apply W_skip
    | apply W_ret
    | (apply W_condT; apply Eq.refl)
    | (apply W_condF; apply Eq.refl)
    | (apply WL_call; apply Eq.refl; apply Eq.refl; rotate_left 1; apply Eq.refl; rotate_right 1; exact (h1); apply Eq.refl)
    | (apply WL_call; apply Eq.refl; apply Eq.refl; rotate_left 1; apply Eq.refl; rotate_right 1; exact (k1); apply Eq.refl)
    | (apply WL_n; apply Eq.refl; (first | (apply n_boxa <;> apply Eq.refl) | (apply n_alloc <;> apply Eq.refl) | (apply n_stb <;> apply Eq.refl) | (apply n_sto <;> (first | apply Eq.refl | omega))))
    | (apply W_cND; apply Eq.refl; intro _; rotate_left 1; intro _; rotate_left 1))
      ((try apply fin_now); first | (focus (apply fin_2; apply Eq.refl; (first | (apply rv_I; apply Eq.refl) | (apply rv_A <;> apply Eq.refl)); (first | (apply rv_I; apply Eq.refl) | (apply rv_A <;> apply Eq.refl)); all_goals try apply Eq.refl)))
    | some x =>
      repeat' (first
    | (apply WL_q; apply Eq.refl; apply Eq.refl; (first | (apply q_mvI <;> apply Eq.refl) | (apply q_asI <;> apply Eq.refl) | (apply q_cmp <;> apply Eq.refl) | (apply q_mvB <;> apply Eq.refl) | (apply q_asB <;> apply Eq.refl) | (apply q_not <;> apply Eq.refl) | (apply q_arith <;> (first | apply Eq.refl | omega)) | (apply q_ext <;> apply Eq.refl) | (apply q_ldba <;> apply Eq.refl) | (apply q_bld <;> apply Eq.refl) | (apply q_mvT <;> apply Eq.refl)))
    | apply W_seq
    | apply W_region
    | apply T_normal
    | apply WL_nil
    | apply T_ret
    | apply W_skip
    | apply W_ret
    | (apply W_condT; apply Eq.refl)
    | (apply W_condF; apply Eq.refl)
    | (apply WL_call; apply Eq.refl; apply Eq.refl; rotate_left 1; apply Eq.refl; rotate_right 1; exact (h1); apply Eq.refl)
    | (apply WL_call; apply Eq.refl; apply Eq.refl; rotate_left 1; apply Eq.refl; rotate_right 1; exact (k1); apply Eq.refl)
    | (apply WL_n; apply Eq.refl; (first | (apply n_boxa <;> apply Eq.refl) | (apply n_alloc <;> apply Eq.refl) | (apply n_stb <;> apply Eq.refl) | (apply n_sto <;> (first | apply Eq.refl | omega))))
    | (apply W_cND; apply Eq.refl; intro _; rotate_left 1; intro _; rotate_left 1))
      ((try apply fin_now); first | (focus (apply fin_2; apply Eq.refl; (first | (apply rv_I; apply Eq.refl) | (apply rv_A <;> apply Eq.refl)); (first | (apply rv_I; apply Eq.refl) | (apply rv_A <;> apply Eq.refl)); all_goals try apply Eq.refl)))
  · rw [if_neg h0, if_neg h0]
    repeat' (first
    | (apply WL_q; apply Eq.refl; apply Eq.refl; (first | (apply q_mvI <;> apply Eq.refl) | (apply q_asI <;> apply Eq.refl) | (apply q_cmp <;> apply Eq.refl) | (apply q_mvB <;> apply Eq.refl) | (apply q_asB <;> apply Eq.refl) | (apply q_not <;> apply Eq.refl) | (apply q_arith <;> (first | apply Eq.refl | omega)) | (apply q_ext <;> apply Eq.refl) | (apply q_ldba <;> apply Eq.refl) | (apply q_bld <;> apply Eq.refl) | (apply q_mvT <;> apply Eq.refl)))
    | apply W_seq
    | apply W_region
    | apply T_normal
    | apply WL_nil
    | apply T_ret
    | apply W_skip
    | apply W_ret
    | (apply W_condT; apply Eq.refl)
    | (apply W_condF; apply Eq.refl)
    | (apply WL_call; apply Eq.refl; apply Eq.refl; rotate_left 1; apply Eq.refl; rotate_right 1; exact (c21 c); apply Eq.refl)
    | (apply WL_n; apply Eq.refl; (first | (apply n_boxa <;> apply Eq.refl) | (apply n_alloc <;> apply Eq.refl) | (apply n_stb <;> apply Eq.refl) | (apply n_sto <;> (first | apply Eq.refl | omega))))
    | (apply W_cND; apply Eq.refl; intro _; rotate_left 1; intro _; rotate_left 1))
    · ((try apply fin_now); first | (focus (apply fin_2; apply Eq.refl; (first | (apply rv_I; apply Eq.refl) | (apply rv_A <;> apply Eq.refl)); (first | (apply rv_I; apply Eq.refl) | (apply rv_A <;> apply Eq.refl)); all_goals try apply Eq.refl)))
    · contradiction
end Go.Proofs.YtafnhieaeejlcaaDoor
namespace Go.Proofs.YtafnhieaeejlcaaDoor
open Go Go.Ab
set_option maxRecDepth 100000
set_option maxHeartbeats 4000000
attribute [local irreducible] W WL QOp NOp thenQ blockQ FinQ WG FQ Want FinW WI WIL thenI blockI
theorem c41 (a b : Int) : Contract seat 41 [.int .i64 a, .int .i64 b] (.agg (encSpan ⟨a, b⟩)) := by
  refine contract_introW (fn := Tryd.f41) Tryd.func41 rfl (by kernel_rfl) rfl ?_ ?_ ?_
  · exact PureL.cons (.int _ _) (PureL.cons (.int _ _) PureL.nil)
  · exact .agg _ (pure_span _)
  intro w κ
  repeat' (first
    | (apply WL_q; apply Eq.refl; apply Eq.refl; (first | (apply q_mvI <;> apply Eq.refl) | (apply q_bld <;> apply Eq.refl)))
    | apply W_seq
    | apply W_region
    | apply T_normal
    | apply WL_nil
    | apply W_ret
    | (apply WL_n; apply Eq.refl; (first | (apply n_alloc <;> apply Eq.refl) | (apply n_stb <;> apply Eq.refl))))
  ((try apply fin_now); first | (apply fin_A; apply Eq.refl; apply Eq.refl; apply Eq.refl; apply Eq.refl; apply Eq.refl; apply Eq.refl; apply Eq.refl; apply Eq.refl; try apply Eq.refl))
def twoE : Nat → List D := nthD [[.int .i64 1, .int .i64 0, .int .i64 50, .int .i64 100, .nil], [.int .i64 2, .int .i64 0, .int .i64 50, .int .i64 100, .nil]]
theorem o106 : ContractO seat 106 [] (.agg [.int .i64 1000, .int .i64 200, .int .i64 0, .os 0 1]) 50 5 2 twoE := by
  refine contractO_intro (fn := Tryd.f106) Tryd.func106 rfl (by kernel_rfl) rfl PureL.nil ?_ ?_ ?_
  · exact .agg _ (.cons _ _ (.pure _ (.int _ _)) (.cons _ _ (.pure _ (.int _ _)) (.cons _ _ (.pure _ (.int _ _)) (.cons _ _ (.os _ _) .nil))))
  · intro i hi
    obtain rfl | rfl : i = 0 ∨ i = 1 := by omega
    all_goals exact PureL.cons (.int _ _) (PureL.cons (.int _ _) (PureL.cons (.int _ _) (PureL.cons (.int _ _) (PureL.cons .nil PureL.nil))))
  intro w κ
  repeat' (first
    | (apply WL_q; apply Eq.refl; apply Eq.refl; (first | (apply q_bld <;> apply Eq.refl)))
    | apply W_seq
    | apply W_region
    | apply T_normal
    | apply WL_nil
    | apply W_ret
    | (apply WL_call; apply Eq.refl; apply Eq.refl; rotate_left 1; apply Eq.refl; rotate_right 1; exact (c41 50 100); apply Eq.refl)
    | (apply WL_n; apply Eq.refl; (first | (refine n_bslo rfl rfl rfl rfl rfl rfl rfl rfl rfl rfl rfl rfl rfl rfl rfl) | (apply n_alloc <;> apply Eq.refl) | (apply n_stb <;> apply Eq.refl))))
  refine ⟨5, 1, rfl, rfl, [.agg [.int .i64 1000, .int .i64 200, .int .i64 0, .os 5 1]], ?_, rfl⟩
  show ResL _ _ [ResultVar.cell 0 24] [_]
  exact ⟨rv_A rfl rfl rfl rfl rfl rfl rfl, trivial⟩
def heldC : Convoy := ⟨1000, 200, 0, [⟨1, 0, 50, 100, [⟨300, 20⟩]⟩, ⟨2, 0, 50, 100, []⟩]⟩
def failC : Convoy := ⟨1000, 200, 1, [⟨1, 0, 50, 100, [⟨300, 20⟩]⟩, ⟨2, 0, 50, 100, []⟩]⟩
theorem c63 : Contract seat 63 [] (.agg (encConvoy heldC)) := by
  refine contract_introW (fn := Tryd.f63) Tryd.func63 rfl (by kernel_rfl) rfl PureL.nil (.agg _ (pure_convoy _)) ?_
  intro w κ
  repeat' (first
    | (apply WL_callo 50; apply Eq.refl; apply Eq.refl; exact o106; apply Eq.refl; apply Eq.refl; apply Eq.refl)
    | (apply WL_q; apply Eq.refl; apply Eq.refl; (first | (apply q_ldb <;> apply Eq.refl) | (apply q_fab <;> apply Eq.refl) | (apply q_ldba <;> apply Eq.refl) | (apply q_bld <;> apply Eq.refl) | (apply q_fao <;> apply Eq.refl) | (apply q_iao <;> (first | apply Eq.refl | omega))))
    | apply W_seq
    | apply W_region
    | apply T_normal
    | apply WL_nil
    | apply W_ret
    | (apply WL_n; apply Eq.refl; (first | (refine n_wk (n_bsl rfl rfl rfl rfl rfl rfl rfl rfl rfl rfl rfl rfl rfl rfl rfl) (wk_slf 6 (fun i => encHold ([(⟨300, 20⟩ : Hold)].getD i default)) rfl (fun i hi => by (obtain rfl : i = 0 := by omega); rfl))) | (apply n_alloc <;> apply Eq.refl) | (apply n_stb <;> apply Eq.refl) | (apply n_bsl <;> apply Eq.refl) | (apply n_sto <;> (first | apply Eq.refl | omega)))))
  refine fin_wk (wk_arrN 50 (fun i => encTruck (heldC.trucks.getD i default)) rfl (fun i hi => ?_)) (fin_wk (wk_freeze_cell 0 3 (s := 50) rfl rfl rfl rfl rfl) (fin_now ?_))
  · obtain rfl | rfl : i = 0 ∨ i = 1 := by omega
    · exact ⟨.inl rfl, .inl rfl, .inl rfl, .inl rfl, .inl rfl, trivial⟩
    · exact ⟨.inl rfl, .inl rfl, .inl rfl, .inl rfl, .inr ⟨rfl, _, _, rfl⟩, trivial⟩
  · ((try apply fin_now); first | (apply fin_A; apply Eq.refl; apply Eq.refl; apply Eq.refl; apply Eq.refl; apply Eq.refl; apply Eq.refl; apply Eq.refl; apply Eq.refl; try apply Eq.refl))
theorem c62 : Contract seat 62 [] (.agg (encConvoy failC)) := by
  refine contract_introW (fn := Tryd.f62) Tryd.func62 rfl (by kernel_rfl) rfl PureL.nil (.agg _ (pure_convoy _)) ?_
  intro w κ
  repeat' (first
    | (apply WL_q; apply Eq.refl; apply Eq.refl; (first | (apply q_fab <;> apply Eq.refl) | (apply q_ldba <;> apply Eq.refl)))
    | apply W_seq
    | apply W_region
    | apply T_normal
    | apply WL_nil
    | apply W_ret
    | (apply WL_call; apply Eq.refl; apply Eq.refl; rotate_left 1; apply Eq.refl; rotate_right 1; exact (c63); apply Eq.refl)
    | (apply WL_n; apply Eq.refl; (first | (apply n_alloc <;> apply Eq.refl) | (apply n_stb <;> apply Eq.refl))))
  ((try apply fin_now); first | (apply fin_A; apply Eq.refl; apply Eq.refl; apply Eq.refl; apply Eq.refl; apply Eq.refl; apply Eq.refl; apply Eq.refl; apply Eq.refl; try apply Eq.refl))
theorem chk_held : chkConvoy heldC = 0 := by kernel_rfl
theorem chk_fail : chkConvoy failC = 0 := by kernel_rfl
theorem meet_held : meetingP heldC = none := by kernel_rfl
theorem meet_fail : meetingP failC = some ⟨5, 0, 1, true, false, 301, 500⟩ := by kernel_rfl
theorem off_held : offP heldC = ⟨27, 34⟩ := by kernel_rfl
theorem k27f : Contract seat 27 [.agg (encConvoy failC)] (.tup [.agg (encMeeting ⟨5, 0, 1, true, false, 301, 500⟩), .int .i64 0]) := by
  have h := c27 failC
  rw [meet_fail, chk_fail] at h
  exact h
theorem k27h : Contract seat 27 [.agg (encConvoy heldC)] (.tup [.agg (encMeeting default), .int .i64 7]) := by
  have h := c27 heldC
  rw [meet_held, chk_held] at h
  exact h
theorem k36h : Contract seat 36 [.agg (encConvoy heldC)] (.tup [.agg (encSpan ⟨27, 34⟩), .int .i64 0]) := by
  have h := c36 heldC
  rw [off_held, chk_held] at h
  exact h
theorem c19 : Contract seat 19 [] (.bool true) := by
  refine contract_introW (fn := Tryd.f19) Tryd.func19 rfl (by kernel_rfl) rfl PureL.nil (.bool _) ?_
  intro w κ
  repeat' (first
    | (apply WL_q; apply Eq.refl; apply Eq.refl; (first | (apply q_mvI <;> apply Eq.refl) | (apply q_asI <;> apply Eq.refl) | (apply q_cmp <;> apply Eq.refl) | (apply q_mvB <;> apply Eq.refl) | (apply q_asB <;> apply Eq.refl) | (apply q_ext <;> apply Eq.refl) | (apply q_pkT <;> apply Eq.refl) | (apply q_ldba <;> apply Eq.refl) | (apply q_mvT <;> apply Eq.refl) | (apply q_eqA; apply Eq.refl; apply Eq.refl; apply Eq.refl; apply Eq.refl; kernel_rfl)))
    | apply W_seq
    | apply W_region
    | apply T_normal
    | apply WL_nil
    | apply W_ret
    | (apply WL_call; apply Eq.refl; apply Eq.refl; rotate_left 1; apply Eq.refl; rotate_right 1; exact (c62); apply Eq.refl)
    | (apply WL_call; apply Eq.refl; apply Eq.refl; rotate_left 1; apply Eq.refl; rotate_right 1; exact (k27f); apply Eq.refl)
    | (apply WL_call; apply Eq.refl; apply Eq.refl; rotate_left 1; apply Eq.refl; rotate_right 1; exact (c63); apply Eq.refl)
    | (apply WL_call; apply Eq.refl; apply Eq.refl; rotate_left 1; apply Eq.refl; rotate_right 1; exact (k27h); apply Eq.refl)
    | (apply WL_call; apply Eq.refl; apply Eq.refl; rotate_left 1; apply Eq.refl; rotate_right 1; exact (k36h); apply Eq.refl)
    | (apply WL_call; apply Eq.refl; apply Eq.refl; rotate_left 1; apply Eq.refl; rotate_right 1; exact (c41 27 34); apply Eq.refl)
    | (apply WL_n; apply Eq.refl; (first | (apply n_alloc <;> apply Eq.refl) | (apply n_stb <;> apply Eq.refl)))
    | apply W_regionG
    | (apply WG_nil; kernel_rfl)
    | (apply WG_q; (first | (apply want_none; apply Eq.refl) | (apply want_some; apply Eq.refl; apply Eq.refl; apply Eq.refl)); apply Eq.refl; first | (apply fq_bld <;> apply Eq.refl) | (apply fq_blda <;> apply Eq.refl) | (apply fq_fn; apply Eq.refl) | (apply fq_mf; apply Eq.refl) | (apply FQ_intro; intro _; (first | (apply q_mvI <;> apply Eq.refl) | (apply q_asI <;> apply Eq.refl) | (apply q_cmp <;> apply Eq.refl) | (apply q_mvB <;> apply Eq.refl) | (apply q_asB <;> apply Eq.refl) | (apply q_ext <;> apply Eq.refl) | (apply q_pkT <;> apply Eq.refl) | (apply q_ldba <;> apply Eq.refl) | (apply q_mvT <;> apply Eq.refl) | (apply q_eqA; apply Eq.refl; apply Eq.refl; apply Eq.refl; apply Eq.refl; kernel_rfl))))
    | (apply WG_call; (first | (apply want_none; apply Eq.refl) | (apply want_some; apply Eq.refl; apply Eq.refl; apply Eq.refl)); apply Eq.refl; apply Eq.refl; apply Eq.refl; exact (c62))
    | (apply WG_call; (first | (apply want_none; apply Eq.refl) | (apply want_some; apply Eq.refl; apply Eq.refl; apply Eq.refl)); apply Eq.refl; apply Eq.refl; apply Eq.refl; exact (k27f))
    | (apply WG_call; (first | (apply want_none; apply Eq.refl) | (apply want_some; apply Eq.refl; apply Eq.refl; apply Eq.refl)); apply Eq.refl; apply Eq.refl; apply Eq.refl; exact (c63))
    | (apply WG_call; (first | (apply want_none; apply Eq.refl) | (apply want_some; apply Eq.refl; apply Eq.refl; apply Eq.refl)); apply Eq.refl; apply Eq.refl; apply Eq.refl; exact (k27h))
    | (apply WG_call; (first | (apply want_none; apply Eq.refl) | (apply want_some; apply Eq.refl; apply Eq.refl; apply Eq.refl)); apply Eq.refl; apply Eq.refl; apply Eq.refl; exact (k36h))
    | (apply WG_call; (first | (apply want_none; apply Eq.refl) | (apply want_some; apply Eq.refl; apply Eq.refl; apply Eq.refl)); apply Eq.refl; apply Eq.refl; apply Eq.refl; exact (c41 27 34)))
  ((try apply fin_now); first | (apply fin_B; apply Eq.refl; apply Eq.refl; try apply Eq.refl))
end Go.Proofs.YtafnhieaeejlcaaDoor
namespace Go.Proofs.YtafnhieaeejlcaaDoor
open Go Go.Ab
set_option maxRecDepth 100000
set_option maxHeartbeats 4000000
attribute [local irreducible] W WL QOp NOp thenQ blockQ FinQ WG FQ Want FinW WI WIL thenI blockI
theorem big_no {c : Convoy} (h : bigS c = false) : c.trucks.length ≤ 25 ∧ ∀ k, k < c.trucks.length → (c.trucks.getD k default).holds.length ≤ 12 := by
  unfold bigS at h
  simp only [Bool.or_eq_false_iff] at h
  obtain ⟨⟨⟨h1, h2⟩, h3⟩, _⟩ := h
  refine ⟨by simp at h2; omega, fun k hk => ?_⟩
  rw [List.any_eq_false] at h3
  have := h3 (c.trucks.getD k default) (by simp [List.getD, hk])
  simp at this ⊢; omega
attribute [local irreducible] bigS chkConvoy
theorem c3 (c : Convoy) : Contract seat 3 [.agg (encConvoy c)] (.bool true) := by
  refine contract_introW (fn := Tryd.f3) Tryd.func3 rfl (by kernel_rfl) rfl ?_ ?_ ?_
  · exact PureL.cons (.agg _ (pure_convoy c)) PureL.nil
  · exact .bool _
  intro w κ
  have hb := c18 c
  cases hB : bigS c with
  | true =>
    rw [hB] at hb
    repeat' (first
    | (apply WL_q; apply Eq.refl; apply Eq.refl; (first | (apply q_cmp <;> apply Eq.refl) | (apply q_mvB <;> apply Eq.refl) | (apply q_asB <;> apply Eq.refl) | (apply q_pkT <;> apply Eq.refl) | (apply q_ldba <;> apply Eq.refl)))
    | apply W_seq
    | apply W_region
    | apply T_normal
    | apply WL_nil
    | apply T_ret
    | apply W_skip
    | apply W_ret
    | (apply W_condT; apply Eq.refl)
    | (apply W_condF; apply Eq.refl)
    | (apply WL_call; apply Eq.refl; apply Eq.refl; rotate_left 1; apply Eq.refl; rotate_right 1; exact (hb); apply Eq.refl)
    | (apply WL_call; apply Eq.refl; apply Eq.refl; rotate_left 1; apply Eq.refl; rotate_right 1; exact (c19); apply Eq.refl)
    | (apply WL_n; apply Eq.refl; (first | (apply n_boxa <;> apply Eq.refl) | (apply n_alloc <;> apply Eq.refl) | (apply n_stb <;> apply Eq.refl)))
    | apply W_regionG
    | (apply WG_nil; kernel_rfl)
    | (apply WG_q; (first | (apply want_none; apply Eq.refl) | (apply want_some; apply Eq.refl; apply Eq.refl; apply Eq.refl)); apply Eq.refl; first | (apply fq_bld <;> apply Eq.refl) | (apply fq_blda <;> apply Eq.refl) | (apply fq_fn; apply Eq.refl) | (apply fq_mf; apply Eq.refl) | (apply FQ_intro; intro _; (first | (apply q_cmp <;> apply Eq.refl) | (apply q_mvB <;> apply Eq.refl) | (apply q_asB <;> apply Eq.refl) | (apply q_pkT <;> apply Eq.refl) | (apply q_ldba <;> apply Eq.refl))))
    | (apply WG_call; (first | (apply want_none; apply Eq.refl) | (apply want_some; apply Eq.refl; apply Eq.refl; apply Eq.refl)); apply Eq.refl; apply Eq.refl; apply Eq.refl; exact (hb))
    | (apply WG_call; (first | (apply want_none; apply Eq.refl) | (apply want_some; apply Eq.refl; apply Eq.refl; apply Eq.refl)); apply Eq.refl; apply Eq.refl; apply Eq.refl; exact (c19))
    | (apply G_tS; apply Eq.refl; apply Eq.refl; apply Eq.refl))
    ((try apply fin_now); first | (apply fin_B; apply Eq.refl; apply Eq.refl; try apply Eq.refl))
  | false =>
    rw [hB] at hb
    obtain ⟨h1, h2⟩ := big_no hB
    have hs := c23 c c (by omega) (fun k hk => by have := h2 k hk; omega)
    rw [decide_eq_true (rfl : c = c)] at hs
    repeat' (first
    | (apply WL_q; apply Eq.refl; apply Eq.refl; (first | (apply q_cmp <;> apply Eq.refl) | (apply q_mvB <;> apply Eq.refl) | (apply q_asB <;> apply Eq.refl) | (apply q_pkT <;> apply Eq.refl) | (apply q_ldba <;> apply Eq.refl)))
    | apply W_seq
    | apply W_region
    | apply T_normal
    | apply WL_nil
    | apply T_ret
    | apply W_skip
    | apply W_ret
    | (apply W_condT; apply Eq.refl)
    | (apply W_condF; apply Eq.refl)
    | (apply WL_call; apply Eq.refl; apply Eq.refl; rotate_left 1; apply Eq.refl; rotate_right 1; exact (hb); apply Eq.refl)
    | (apply WL_call; apply Eq.refl; apply Eq.refl; rotate_left 1; apply Eq.refl; rotate_right 1; exact (c20 c h1 h2); apply Eq.refl)
    | (apply WL_call; apply Eq.refl; apply Eq.refl; rotate_left 1; apply Eq.refl; rotate_right 1; exact (c21 c); apply Eq.refl)
    | (apply WL_call; apply Eq.refl; apply Eq.refl; rotate_left 1; apply Eq.refl; rotate_right 1; exact (c22 c); apply Eq.refl)
    | (apply WL_call; apply Eq.refl; apply Eq.refl; rotate_left 1; apply Eq.refl; rotate_right 1; exact (hs); apply Eq.refl)
    | (apply WL_call; apply Eq.refl; apply Eq.refl; rotate_left 1; apply Eq.refl; rotate_right 1; exact (c19); apply Eq.refl)
    | (apply WL_n; apply Eq.refl; (first | (apply n_boxa <;> apply Eq.refl) | (apply n_alloc <;> apply Eq.refl) | (apply n_stb <;> apply Eq.refl)))
    | apply W_regionG
    | (apply WG_nil; kernel_rfl)
    | (apply WG_q; (first | (apply want_none; apply Eq.refl) | (apply want_some; apply Eq.refl; apply Eq.refl; apply Eq.refl)); apply Eq.refl; first | (apply fq_bld <;> apply Eq.refl) | (apply fq_blda <;> apply Eq.refl) | (apply fq_fn; apply Eq.refl) | (apply fq_mf; apply Eq.refl) | (apply FQ_intro; intro _; (first | (apply q_cmp <;> apply Eq.refl) | (apply q_mvB <;> apply Eq.refl) | (apply q_asB <;> apply Eq.refl) | (apply q_pkT <;> apply Eq.refl) | (apply q_ldba <;> apply Eq.refl))))
    | (apply WG_call; (first | (apply want_none; apply Eq.refl) | (apply want_some; apply Eq.refl; apply Eq.refl; apply Eq.refl)); apply Eq.refl; apply Eq.refl; apply Eq.refl; exact (hb))
    | (apply WG_call; (first | (apply want_none; apply Eq.refl) | (apply want_some; apply Eq.refl; apply Eq.refl; apply Eq.refl)); apply Eq.refl; apply Eq.refl; apply Eq.refl; exact (c20 c h1 h2))
    | (apply WG_call; (first | (apply want_none; apply Eq.refl) | (apply want_some; apply Eq.refl; apply Eq.refl; apply Eq.refl)); apply Eq.refl; apply Eq.refl; apply Eq.refl; exact (c21 c))
    | (apply WG_call; (first | (apply want_none; apply Eq.refl) | (apply want_some; apply Eq.refl; apply Eq.refl; apply Eq.refl)); apply Eq.refl; apply Eq.refl; apply Eq.refl; exact (c22 c))
    | (apply WG_call; (first | (apply want_none; apply Eq.refl) | (apply want_some; apply Eq.refl; apply Eq.refl; apply Eq.refl)); apply Eq.refl; apply Eq.refl; apply Eq.refl; exact (hs))
    | (apply WG_call; (first | (apply want_none; apply Eq.refl) | (apply want_some; apply Eq.refl; apply Eq.refl; apply Eq.refl)); apply Eq.refl; apply Eq.refl; apply Eq.refl; exact (c19))
    | (apply G_tS; apply Eq.refl; apply Eq.refl; apply Eq.refl))
    ((try apply fin_now); first | (apply fin_B; apply Eq.refl; apply Eq.refl; try apply Eq.refl))
end Go.Proofs.YtafnhieaeejlcaaDoor
namespace Go.Proofs.YtafnhieaeejlcaaDoor
open Go Go.Ab
set_option maxRecDepth 100000
set_option maxHeartbeats 4000000
attribute [local irreducible] W WL QOp NOp thenQ blockQ FinQ WG FQ Want FinW WI WIL thenI blockI
attribute [local irreducible] arrS maxUp
theorem c71 (c : Convoy) (hc : COk c) : Contract seat 71 [.agg (encConvoy c)] (.int .i64 (maxUp (endF c) c.trucks.length)) := by
  refine contract_introW (fn := Tryd.f71) Tryd.func71 rfl (by kernel_rfl) rfl ?_ ?_ ?_
  · exact PureL.cons (.agg _ (pure_convoy c)) PureL.nil
  · exact .int _ _
  intro w κ
  have hn := hc.n
  have hmax0 := maxUp_zero (endF c)
  repeat' (first
    | (apply WL_q; apply Eq.refl; apply Eq.refl; (first | (apply q_mvI <;> apply Eq.refl) | (apply q_asI <;> apply Eq.refl) | (apply q_ldb <;> apply Eq.refl) | (apply q_fab <;> apply Eq.refl) | (apply q_cmp <;> apply Eq.refl) | (apply q_arith <;> (first | apply Eq.refl | omega)) | (apply q_len <;> apply Eq.refl) | (apply q_ia <;> (first | apply Eq.refl | omega)) | (apply q_ldba <;> apply Eq.refl) | (apply q_ldra <;> apply Eq.refl) | (apply q_max <;> apply Eq.refl) | (apply q_field <;> apply Eq.refl)))
    | apply W_seq
    | apply W_region
    | apply T_normal
    | apply WL_nil
    | apply T_exit
    | apply B_normal
    | apply B_exit_eq
    | apply W_skip
    | apply W_exit
    | apply W_ret
    | apply W_block
    | (apply WL_n; apply Eq.refl; (first | (apply n_boxa <;> apply Eq.refl)))
    | apply W_regionG
    | (apply WG_nil; kernel_rfl)
    | (apply WG_q; (first | (apply want_none; apply Eq.refl) | (apply want_some; apply Eq.refl; apply Eq.refl; apply Eq.refl)); apply Eq.refl; first | (apply fq_bld <;> apply Eq.refl) | (apply fq_blda <;> apply Eq.refl) | (apply fq_fn; apply Eq.refl) | (apply fq_mf; apply Eq.refl) | (apply FQ_intro; intro _; (first | (apply q_mvI <;> apply Eq.refl) | (apply q_asI <;> apply Eq.refl) | (apply q_ldb <;> apply Eq.refl) | (apply q_fab <;> apply Eq.refl) | (apply q_cmp <;> apply Eq.refl) | (apply q_arith <;> (first | apply Eq.refl | omega)) | (apply q_len <;> apply Eq.refl) | (apply q_ia <;> (first | apply Eq.refl | omega)) | (apply q_ldba <;> apply Eq.refl) | (apply q_ldra <;> apply Eq.refl) | (apply q_max <;> apply Eq.refl) | (apply q_field <;> apply Eq.refl))))
    | (apply W_cD; apply Eq.refl; intro _; rotate_left 1; intro _; rotate_left 1))
  refine W_loopR [1, 2] [1] (fun k : Nat => [(3, .int .i64 (maxUp (endF c) k)), (4, .int .i64 k)]) (fun k => []) (fun k => [])
      (fun k => k ≤ c.trucks.length) (fun k => c.trucks.length - k) 0 (Nat.zero_le _) (by refine ⟨?_, ?_, ?_⟩ <;> repeat' (first | exact trivial | apply And.intro | apply Eq.refl | (apply toI; apply Eq.refl; first | omega | assumption) | (apply toB; apply Eq.refl; repeat' (first | apply Eq.refl | apply consS | (apply consI; first | apply Eq.refl | omega | assumption))))) (fun k h hk => ?_)
  have ht : (k : Int) < c.trucks.length → TOk c (c.trucks.getD (k : Int).toNat default) := fun h => hc.t _ (by omega)
  have hmk := maxUp_succ c k
  repeat' (first
    | (apply WL_q; apply Eq.refl; apply Eq.refl; (first | (apply q_mvI <;> apply Eq.refl) | (apply q_asI <;> apply Eq.refl) | (apply q_ldb <;> apply Eq.refl) | (apply q_fab <;> apply Eq.refl) | (apply q_cmp <;> apply Eq.refl) | (apply q_arith <;> (first | apply Eq.refl | omega)) | (apply q_len <;> apply Eq.refl) | (apply q_ia <;> (first | apply Eq.refl | omega)) | (apply q_ldba <;> apply Eq.refl) | (apply q_ldra <;> apply Eq.refl) | (apply q_max <;> apply Eq.refl) | (apply q_field <;> apply Eq.refl)))
    | apply W_seq
    | apply W_region
    | apply T_normal
    | apply WL_nil
    | apply T_exit
    | apply B_normal
    | apply B_exit_eq
    | apply W_skip
    | apply W_exit
    | apply W_ret
    | apply W_block
    | (apply WL_n; apply Eq.refl; (first | (apply n_boxa <;> apply Eq.refl)))
    | apply W_regionG
    | (apply WG_nil; kernel_rfl)
    | (apply WG_q; (first | (apply want_none; apply Eq.refl) | (apply want_some; apply Eq.refl; apply Eq.refl; apply Eq.refl)); apply Eq.refl; first | (apply fq_bld <;> apply Eq.refl) | (apply fq_blda <;> apply Eq.refl) | (apply fq_fn; apply Eq.refl) | (apply fq_mf; apply Eq.refl) | (apply FQ_intro; intro _; (first | (apply q_mvI <;> apply Eq.refl) | (apply q_asI <;> apply Eq.refl) | (apply q_ldb <;> apply Eq.refl) | (apply q_fab <;> apply Eq.refl) | (apply q_cmp <;> apply Eq.refl) | (apply q_arith <;> (first | apply Eq.refl | omega)) | (apply q_len <;> apply Eq.refl) | (apply q_ia <;> (first | apply Eq.refl | omega)) | (apply q_ldba <;> apply Eq.refl) | (apply q_ldra <;> apply Eq.refl) | (apply q_max <;> apply Eq.refl) | (apply q_field <;> apply Eq.refl))))
    | (apply WG_call; (first | (apply want_none; apply Eq.refl) | (apply want_some; apply Eq.refl; apply Eq.refl; apply Eq.refl)); apply Eq.refl; apply Eq.refl; apply Eq.refl; exact (c110 c (c.trucks.getD (k : Int).toNat default) (ht (by assumption))))
    | (apply W_cD; apply Eq.refl; intro _; rotate_left 1; intro _; rotate_left 1))
  · exact ⟨k + 1, by omega, by omega, (by apply reach_now; refine ⟨?_, ?_, ?_, ?_, ?_⟩ <;> repeat' (first | exact trivial | apply And.intro | apply Eq.refl | (apply toI; apply Eq.refl; first | omega | assumption) | (apply toB; apply Eq.refl; repeat' (first | apply Eq.refl | apply consS | (apply consI; first | apply Eq.refl | omega | assumption)))))⟩
  · obtain rfl : k = c.trucks.length := by omega
    ((try apply fin_now); first | (apply fin_I; apply Eq.refl; apply Eq.refl; try apply Eq.refl))
def posW (t : Truck) (len pace : Int) (k : Nat) : Int := posR t len pace ((k : Int) - 1 - t.start).toNat
def wayR (t : Truck) (len : Int) (k : Nat) : Span := ⟨posW t len t.lo (k + 1), posW t len t.hi (k + 1)⟩
theorem posW_zero {t : Truck} {len pace : Int} (h : 0 ≤ t.start) : posW t len pace 0 = 0 := by
  unfold posW
  rw [show (((0 : Nat) : Int) - 1 - t.start).toNat = 0 by omega]; rfl
theorem posW_step {t : Truck} {len pace : Int} {k : Nat} (h : t.start < k) : posW t len pace (k + 1) = nextR t len (posW t len pace k) ((k : Int) - 1) pace := by
  unfold posW
  obtain ⟨j, hj⟩ : ∃ j : Nat, (k : Int) - t.start = j + 1 := ⟨((k : Int) - t.start - 1).toNat, by omega⟩
  rw [show (((k + 1 : Nat) : Int) - 1 - t.start).toNat = j + 1 by omega, show ((k : Int) - 1 - t.start).toNat = j by omega, show (k : Int) - 1 = t.start + j by omega]
  rfl
theorem posW_stay {t : Truck} {len pace : Int} {k : Nat} (h : ¬ t.start < k) : posW t len pace (k + 1) = posW t len pace k := by
  unfold posW
  rw [show (((k + 1 : Nat) : Int) - 1 - t.start).toNat = 0 by omega, show ((k : Int) - 1 - t.start).toNat = 0 by omega]
theorem wayR_step {t : Truck} {len : Int} {k : Nat} (h : t.start < k) : encSpan (wayR t len k) = [.int .i64 (nextR t len (posW t len t.lo k) ((k : Int) - 1) t.lo), .int .i64 (nextR t len (posW t len t.hi k) ((k : Int) - 1) t.hi)] := by
  simp only [wayR, encSpan, posW_step h]
theorem wayR_stay {t : Truck} {len : Int} {k : Nat} (h : ¬ t.start < k) : encSpan (wayR t len k) = [.int .i64 (posW t len t.lo k), .int .i64 (posW t len t.hi k)] := by
  simp only [wayR, encSpan, posW_stay h]
attribute [local irreducible] posW nextR posR stopR
theorem c72 (c : Convoy) (t : Truck) (e : Nat) (h : TOk c t) (e1 : e ≤ 100000) : Contract seat 72 [.agg (encConvoy c), .agg (encTruck t), .int .i64 e] (.sl 2 (e + 1) (fun i => encSpan (wayR t c.len i))) := by
  obtain ⟨l1, l2, s1, s2, p1, p2, p3, d1, ho⟩ := h
  refine contract_introW (fn := Tryd.f72) Tryd.func72 rfl (by kernel_rfl) rfl ?_ ?_ ?_
  · exact PureL.cons (.agg _ (pure_convoy c)) (PureL.cons (.agg _ (pure_truck t)) (PureL.cons (.int _ _) PureL.nil))
  · exact .sl _ _ _ (fun _ _ d hd => pure_span _ d hd)
  intro w κ
  have bnd := fun k => posR_le (t := t) (pace := t.lo) l1 ho p1 k
  have bnd2 := fun k => posR_le (t := t) (pace := t.hi) l1 ho (by omega) k
  have z1 := posW_zero (t := t) (len := c.len) (pace := t.lo) s1
  have z2 := posW_zero (t := t) (len := c.len) (pace := t.hi) s1
  repeat' (first
    | (apply WL_q; apply Eq.refl; apply Eq.refl; (first | (apply q_mvI <;> apply Eq.refl) | (apply q_asI <;> apply Eq.refl) | (apply q_ldb <;> apply Eq.refl) | (apply q_fab <;> apply Eq.refl) | (apply q_cmp <;> apply Eq.refl) | (apply q_arith <;> (first | apply Eq.refl | omega)) | (apply q_ldba <;> apply Eq.refl) | (apply q_mvO <;> apply Eq.refl) | (apply q_asO <;> apply Eq.refl) | (apply q_asN <;> apply Eq.refl)))
    | apply W_seq
    | apply W_region
    | apply T_normal
    | apply WL_nil
    | apply T_exit
    | apply B_normal
    | apply B_exit_eq
    | apply W_skip
    | apply W_exit
    | apply W_ret
    | apply W_block
    | (apply WL_n; apply Eq.refl; (first | (apply n_boxa <;> apply Eq.refl) | (apply n_alloc <;> apply Eq.refl) | (apply n_bsl <;> apply Eq.refl)))
    | apply W_regionG
    | (apply WG_nil; kernel_rfl)
    | (apply WG_q; (first | (apply want_none; apply Eq.refl) | (apply want_some; apply Eq.refl; apply Eq.refl; apply Eq.refl)); apply Eq.refl; first | (apply fq_bld <;> apply Eq.refl) | (apply fq_blda <;> apply Eq.refl) | (apply fq_fn; apply Eq.refl) | (apply fq_mf; apply Eq.refl) | (apply FQ_intro; intro _; (first | (apply q_mvI <;> apply Eq.refl) | (apply q_asI <;> apply Eq.refl) | (apply q_ldb <;> apply Eq.refl) | (apply q_fab <;> apply Eq.refl) | (apply q_cmp <;> apply Eq.refl) | (apply q_arith <;> (first | apply Eq.refl | omega)) | (apply q_ldba <;> apply Eq.refl) | (apply q_mvO <;> apply Eq.refl) | (apply q_asO <;> apply Eq.refl) | (apply q_asN <;> apply Eq.refl))))
    | (apply WG_n; (first | (apply want_none; apply Eq.refl) | (apply want_some; apply Eq.refl; apply Eq.refl; apply Eq.refl)); (first | (apply f_stb <;> apply Eq.refl)))
    | (apply W_cD; apply Eq.refl; intro _; rotate_left 1; intro _; rotate_left 1))
  refine W_wk (wk_nil 7 7 47 2 (fun i => encSpan (wayR t c.len i)) rfl) ?_
  refine W_loopR [2, 3, 4, 6, 8] [3, 4, 6] (fun k : Nat => [(7, .os 7 (k + 1)), (9, .int .i64 k)]) (fun k => [(7, k + 1), (8, 1)])
      (fun k => [(7, .arr 47 2 k (fun i => encSpan (wayR t c.len i))), (8, .box [.int .i64 (posW t c.len t.lo k), .int .i64 (posW t c.len t.hi k)])])
      (fun k => k ≤ e + 1) (fun k => e + 1 - k) 0 (Nat.zero_le _) (by refine ⟨?_, ?_, ?_⟩ <;> repeat' (first | exact trivial | apply And.intro | apply Eq.refl | (apply toI; apply Eq.refl; first | omega | assumption) | (apply toB; apply Eq.refl; repeat' (first | apply Eq.refl | apply consS | (apply consI; first | apply Eq.refl | omega | assumption))))) (fun k h hk => ?_)
  have b1 : 0 ≤ posW t c.len t.lo k ∧ posW t c.len t.lo k ≤ c.len := by unfold posW; exact bnd _
  have b2 : 0 ≤ posW t c.len t.hi k ∧ posW t c.len t.hi k ≤ c.len := by unfold posW; exact bnd2 _
  have w1 := wayR_step (t := t) (len := c.len) (k := k)
  have w2 := wayR_stay (t := t) (len := c.len) (k := k)
  have y1 := posW_step (t := t) (len := c.len) (pace := t.lo) (k := k)
  have y2 := posW_step (t := t) (len := c.len) (pace := t.hi) (k := k)
  have y3 := posW_stay (t := t) (len := c.len) (pace := t.lo) (k := k)
  have y4 := posW_stay (t := t) (len := c.len) (pace := t.hi) (k := k)
  repeat' (first
    | (apply WL_q; apply Eq.refl; apply Eq.refl; (first | (apply q_mvI <;> apply Eq.refl) | (apply q_asI <;> apply Eq.refl) | (apply q_ldb <;> apply Eq.refl) | (apply q_fab <;> apply Eq.refl) | (apply q_cmp <;> apply Eq.refl) | (apply q_arith <;> (first | apply Eq.refl | omega)) | (apply q_ldba <;> apply Eq.refl) | (apply q_mvO <;> apply Eq.refl) | (apply q_asO <;> apply Eq.refl) | (apply q_asN <;> apply Eq.refl)))
    | apply W_seq
    | apply W_region
    | apply T_normal
    | apply WL_nil
    | apply T_exit
    | apply B_normal
    | apply B_exit_eq
    | apply W_skip
    | apply W_exit
    | apply W_ret
    | apply W_block
    | (apply WL_n; apply Eq.refl; (first | (refine n_app (f' := fun i => encSpan (wayR t c.len i)) rfl rfl rfl rfl rfl rfl rfl rfl rfl rfl rfl rfl rfl rfl rfl (by first | omega | (show (k + 1) * 16 ≤ _; omega)) (by omega) rfl (fun i hi => rfl) (fun i hi => by (obtain rfl : i = 0 := by omega); first | exact w1 (by omega) | exact w2 (by omega))) | (apply n_boxa <;> apply Eq.refl) | (apply n_alloc <;> apply Eq.refl) | (apply n_bsl <;> apply Eq.refl)))
    | apply W_regionG
    | (apply WG_nil; kernel_rfl)
    | (apply WG_q; (first | (apply want_none; apply Eq.refl) | (apply want_some; apply Eq.refl; apply Eq.refl; apply Eq.refl)); apply Eq.refl; first | (apply fq_bld <;> apply Eq.refl) | (apply fq_blda <;> apply Eq.refl) | (apply fq_fn; apply Eq.refl) | (apply fq_mf; apply Eq.refl) | (apply FQ_intro; intro _; (first | (apply q_mvI <;> apply Eq.refl) | (apply q_asI <;> apply Eq.refl) | (apply q_ldb <;> apply Eq.refl) | (apply q_fab <;> apply Eq.refl) | (apply q_cmp <;> apply Eq.refl) | (apply q_arith <;> (first | apply Eq.refl | omega)) | (apply q_ldba <;> apply Eq.refl) | (apply q_mvO <;> apply Eq.refl) | (apply q_asO <;> apply Eq.refl) | (apply q_asN <;> apply Eq.refl))))
    | (apply WG_call; (first | (apply want_none; apply Eq.refl) | (apply want_some; apply Eq.refl; apply Eq.refl; apply Eq.refl)); apply Eq.refl; apply Eq.refl; apply Eq.refl; exact (c111 c t (posW t c.len t.lo k) ((k : Int) - 1) t.lo l1 l2 ho (by omega) (by omega) (by omega) (by omega)))
    | (apply WG_call; (first | (apply want_none; apply Eq.refl) | (apply want_some; apply Eq.refl; apply Eq.refl; apply Eq.refl)); apply Eq.refl; apply Eq.refl; apply Eq.refl; exact (c111 c t (posW t c.len t.hi k) ((k : Int) - 1) t.hi l1 l2 ho (by omega) (by omega) (by omega) (by omega)))
    | (apply WG_n; (first | (apply want_none; apply Eq.refl) | (apply want_some; apply Eq.refl; apply Eq.refl; apply Eq.refl)); (first | (apply f_stb <;> apply Eq.refl)))
    | (apply W_cD; apply Eq.refl; intro _; rotate_left 1; intro _; rotate_left 1))
  · have q1 := (y1 (by omega)).symm
    have q2 := (y2 (by omega)).symm
    exact ⟨k + 1, by omega, by omega, (by apply reach_now; refine ⟨?_, ?_, ?_, ?_, ?_⟩ <;> repeat' (first | exact trivial | apply And.intro | apply Eq.refl | (apply toI; apply Eq.refl; first | omega | assumption) | (apply toB; apply Eq.refl; repeat' (first | apply Eq.refl | apply consS | (apply consI; first | apply Eq.refl | omega | assumption)))))⟩
  · have q1 := (y3 (by omega)).symm
    have q2 := (y4 (by omega)).symm
    exact ⟨k + 1, by omega, by omega, (by apply reach_now; refine ⟨?_, ?_, ?_, ?_, ?_⟩ <;> repeat' (first | exact trivial | apply And.intro | apply Eq.refl | (apply toI; apply Eq.refl; first | omega | assumption) | (apply toB; apply Eq.refl; repeat' (first | apply Eq.refl | apply consS | (apply consI; first | apply Eq.refl | omega | assumption)))))⟩
  · obtain rfl : k = e + 1 := by omega
    refine fin_wk (wk_freeze 6 (s := 7) rfl rfl rfl) (fin_now ?_)
    ((try apply fin_now); first | (apply fin_Sl; apply Eq.refl; apply Eq.refl; apply Eq.refl; try apply Eq.refl))
def roadR (way len : Int) (g : Span) : Span := if way = 2 then ⟨len - g.hi, len - g.lo⟩ else g
theorem c76 (c : Convoy) (t : Truck) (g : Span) (h1 : -1000000 ≤ g.lo) (h2 : g.lo ≤ 1000000) (h3 : -1000000 ≤ g.hi) (h4 : g.hi ≤ 1000000) (l1 : 1 ≤ c.len) (l2 : c.len ≤ 100000) :
    Contract seat 76 [.agg (encConvoy c), .agg (encTruck t), .agg (encSpan g)] (.agg (encSpan (roadR t.way c.len g))) := by
  refine contract_introW (fn := Tryd.f76) Tryd.func76 rfl (by kernel_rfl) rfl ?_ ?_ ?_
  · exact PureL.cons (.agg _ (pure_convoy c)) (PureL.cons (.agg _ (pure_truck t)) (PureL.cons (.agg _ (pure_span g)) PureL.nil))
  · exact .agg _ (pure_span _)
  intro w κ
  repeat' (first
    | (apply WL_q; apply Eq.refl; apply Eq.refl; (first | (apply q_ldb <;> apply Eq.refl) | (apply q_fab <;> apply Eq.refl) | (apply q_cmp <;> apply Eq.refl) | (apply q_arith <;> (first | apply Eq.refl | omega)) | (apply q_ldba <;> apply Eq.refl) | (apply q_bld <;> apply Eq.refl)))
    | apply W_seq
    | apply W_region
    | apply T_normal
    | apply WL_nil
    | apply T_ret
    | apply W_skip
    | apply W_ret
    | (apply WL_n; apply Eq.refl; (first | (apply n_boxa <;> apply Eq.refl) | (apply n_alloc <;> apply Eq.refl) | (apply n_stb <;> apply Eq.refl)))
    | (apply W_cD; apply Eq.refl; intro _; rotate_left 1; intro _; rotate_left 1))
  · rename_i a1
    have e : roadR t.way c.len g = ⟨c.len - g.hi, c.len - g.lo⟩ := by unfold roadR; rw [if_pos a1]
    rw [e]; ((try apply fin_now); first | (apply fin_A; apply Eq.refl; apply Eq.refl; apply Eq.refl; apply Eq.refl; apply Eq.refl; apply Eq.refl; apply Eq.refl; apply Eq.refl; try apply Eq.refl))
  · rename_i a1
    have e : roadR t.way c.len g = g := by unfold roadR; rw [if_neg a1]
    rw [e]; ((try apply fin_now); first | (apply fin_A; apply Eq.refl; apply Eq.refl; apply Eq.refl; apply Eq.refl; apply Eq.refl; apply Eq.refl; apply Eq.refl; apply Eq.refl; try apply Eq.refl))
def nearR (a b : Span) (gap : Int) : Int × Int × Bool :=
  (max a.lo (b.lo - gap + 1), max b.lo (max a.lo (b.lo - gap + 1) - gap + 1),
    (decide (max a.lo (b.lo - gap + 1) ≤ a.hi) && decide (max b.lo (max a.lo (b.lo - gap + 1) - gap + 1) ≤ b.hi)) && decide (max b.lo (max a.lo (b.lo - gap + 1) - gap + 1) - max a.lo (b.lo - gap + 1) < gap))
theorem c75 (a b : Span) (gap : Int) (h1 : -1000000 ≤ a.lo) (h2 : a.lo ≤ 1000000) (h3 : -1000000 ≤ b.lo) (h4 : b.lo ≤ 1000000) (g0 : 0 ≤ gap) (g1 : gap ≤ 100000) :
    Contract seat 75 [.agg (encSpan a), .agg (encSpan b), .int .i64 gap] (.tup [.int .i64 (nearR a b gap).1, .int .i64 (nearR a b gap).2.1, .bool (nearR a b gap).2.2]) := by
  refine contract_introW (fn := Tryd.f75) Tryd.func75 rfl (by kernel_rfl) rfl ?_ ?_ ?_
  · exact PureL.cons (.agg _ (pure_span a)) (PureL.cons (.agg _ (pure_span b)) (PureL.cons (.int _ _) PureL.nil))
  · exact .tup _ (PureL.cons (.int _ _) (PureL.cons (.int _ _) (PureL.cons (.bool _) PureL.nil)))
  intro w κ
  repeat' (first
    | (apply WL_q; apply Eq.refl; apply Eq.refl; (first | (apply q_mvI <;> apply Eq.refl) | (apply q_asI <;> apply Eq.refl) | (apply q_ldb <;> apply Eq.refl) | (apply q_fab <;> apply Eq.refl) | (apply q_cmp <;> apply Eq.refl) | (apply q_mvB <;> apply Eq.refl) | (apply q_asB <;> apply Eq.refl) | (apply q_arith <;> (first | apply Eq.refl | omega)) | (apply q_pkT <;> apply Eq.refl) | (apply q_pkF <;> apply Eq.refl) | (apply q_max <;> apply Eq.refl)))
    | apply W_seq
    | apply W_region
    | apply T_normal
    | apply WL_nil
    | apply W_ret
    | (apply WL_n; apply Eq.refl; (first | (apply n_boxa <;> apply Eq.refl)))
    | (apply WL_yes; apply Eq.refl; apply Eq.refl; apply Eq.refl)
    | (apply WL_no; apply Eq.refl; apply Eq.refl; apply Eq.refl; apply Eq.refl; apply Eq.refl)
    | (apply L_tD; apply Eq.refl; apply Eq.refl; apply Eq.refl; intro _; rotate_left 1; intro _; rotate_left 1))
  all_goals simp only [nearR]
  all_goals ((try apply fin_now); first | (focus (apply fin_3; apply Eq.refl; (first | (apply rv_I; apply Eq.refl) | (apply rv_B; apply Eq.refl)); (first | (apply rv_I; apply Eq.refl) | (apply rv_B; apply Eq.refl)); (first | (apply rv_I; apply Eq.refl) | (apply rv_B; apply Eq.refl)); all_goals try apply Eq.refl)))
  all_goals simp [*]
def heldB (way len g m : Int) : List Hold → Bool
  | [] => true
  | h :: hs => if alongI way len h.a = g ∧ h.u > m then false else heldB way len g m hs
def laneB (t : Truck) (len g m : Int) : Bool := if m < t.start ∨ g ≥ len then false else heldB t.way len g m t.holds
theorem heldB_end {way len g m : Int} {hs : List Hold} {k : Nat} (hi : heldB way len g m (hs.drop k) = heldB way len g m hs) (h : ¬ k < hs.length) : true = heldB way len g m hs := by
  rw [← hi, List.drop_eq_nil_of_le (by omega)]; rfl
theorem heldB_hit {way len g m : Int} {hs : List Hold} {k : Nat} (hi : heldB way len g m (hs.drop k) = heldB way len g m hs) (h : k < hs.length) (h1 : alongI way len (hs.getD k default).a = g) (h2 : (hs.getD k default).u > m) :
    false = heldB way len g m hs := by
  rw [← hi, drop_getD _ _ h, heldB, if_pos ⟨h1, h2⟩]
theorem heldB_next {way len g m : Int} {hs : List Hold} {k : Nat} (hi : heldB way len g m (hs.drop k) = heldB way len g m hs) (h : k < hs.length) (h1 : ¬ (alongI way len (hs.getD k default).a = g ∧ (hs.getD k default).u > m)) :
    heldB way len g m (hs.drop (k + 1)) = heldB way len g m hs := by
  rw [← hi, drop_getD _ _ h, heldB, if_neg h1]
attribute [local irreducible] heldB
theorem c79 (c : Convoy) (t : Truck) (g m : Int) (hl : 1 ≤ c.len) (hl2 : c.len ≤ 100000) (ho : HOk c.len t.holds) : Contract seat 79 [.agg (encConvoy c), .agg (encTruck t), .int .i64 g, .int .i64 m] (.bool (laneB t c.len g m)) := by
  refine contract_introW (fn := Tryd.f79) Tryd.func79 rfl (by kernel_rfl) rfl ?_ ?_ ?_
  · exact PureL.cons (.agg _ (pure_convoy c)) (PureL.cons (.agg _ (pure_truck t)) (PureL.cons (.int _ _) (PureL.cons (.int _ _) PureL.nil)))
  · exact .bool _
  intro w κ
  have hl8 := ho.1
  repeat' (first
    | (apply WL_q; apply Eq.refl; apply Eq.refl; (first | (apply q_mvI <;> apply Eq.refl) | (apply q_asI <;> apply Eq.refl) | (apply q_ldb <;> apply Eq.refl) | (apply q_fab <;> apply Eq.refl) | (apply q_cmp <;> apply Eq.refl) | (apply q_mvB <;> apply Eq.refl) | (apply q_asB <;> apply Eq.refl) | (apply q_ldr <;> apply Eq.refl) | (apply q_far <;> apply Eq.refl) | (apply q_arith <;> (first | apply Eq.refl | omega)) | (apply q_len <;> apply Eq.refl) | (apply q_pkT <;> apply Eq.refl) | (apply q_pkF <;> apply Eq.refl) | (apply q_ia <;> (first | apply Eq.refl | omega)) | (apply q_ldba <;> apply Eq.refl) | (apply q_ldra <;> apply Eq.refl)))
    | apply W_seq
    | apply W_region
    | apply T_normal
    | apply WL_nil
    | apply T_exit
    | apply T_ret
    | apply B_normal
    | apply B_ret
    | apply B_exit_eq
    | apply W_skip
    | apply W_exit
    | apply W_ret
    | apply W_block
    | (apply W_condT; apply Eq.refl)
    | (apply W_condF; apply Eq.refl)
    | (apply WL_n; apply Eq.refl; (first | (apply n_boxa <;> apply Eq.refl)))
    | (apply WL_yes; apply Eq.refl; apply Eq.refl; apply Eq.refl)
    | (apply WL_no; apply Eq.refl; apply Eq.refl; apply Eq.refl; apply Eq.refl; apply Eq.refl)
    | (apply L_tD; apply Eq.refl; apply Eq.refl; apply Eq.refl; intro _; rotate_left 1; intro _; rotate_left 1)
    | apply W_regionG
    | (apply WG_nil; kernel_rfl)
    | (apply WG_q; (first | (apply want_none; apply Eq.refl) | (apply want_some; apply Eq.refl; apply Eq.refl; apply Eq.refl)); apply Eq.refl; first | (apply fq_bld <;> apply Eq.refl) | (apply fq_blda <;> apply Eq.refl) | (apply fq_fn; apply Eq.refl) | (apply fq_mf; apply Eq.refl) | (apply FQ_intro; intro _; (first | (apply q_mvI <;> apply Eq.refl) | (apply q_asI <;> apply Eq.refl) | (apply q_ldb <;> apply Eq.refl) | (apply q_fab <;> apply Eq.refl) | (apply q_cmp <;> apply Eq.refl) | (apply q_mvB <;> apply Eq.refl) | (apply q_asB <;> apply Eq.refl) | (apply q_ldr <;> apply Eq.refl) | (apply q_far <;> apply Eq.refl) | (apply q_arith <;> (first | apply Eq.refl | omega)) | (apply q_len <;> apply Eq.refl) | (apply q_pkT <;> apply Eq.refl) | (apply q_pkF <;> apply Eq.refl) | (apply q_ia <;> (first | apply Eq.refl | omega)) | (apply q_ldba <;> apply Eq.refl) | (apply q_ldra <;> apply Eq.refl))))
    | (apply WG_no; apply Eq.refl; apply Eq.refl; apply Eq.refl; apply Eq.refl; apply Eq.refl)
    | (apply G_tD; apply Eq.refl; apply Eq.refl; apply Eq.refl; intro _; rotate_left 1; intro _; rotate_left 1)
    | (apply W_cD; apply Eq.refl; intro _; rotate_left 1; intro _; rotate_left 1))
  · rename_i a1
    have e : laneB t c.len g m = false := by unfold laneB; rw [if_pos (.inl a1)]
    rw [e]; ((try apply fin_now); first | (apply fin_B; apply Eq.refl; apply Eq.refl; try apply Eq.refl))
  · rename_i a1 a2
    have e : laneB t c.len g m = false := by unfold laneB; rw [if_pos (.inr a2)]
    rw [e]; ((try apply fin_now); first | (apply fin_B; apply Eq.refl; apply Eq.refl; try apply Eq.refl))
  rename_i a1 a2
  have e : laneB t c.len g m = heldB t.way c.len g m t.holds := by unfold laneB; rw [if_neg (fun h => h.elim a1 a2)]
  rw [e]
  refine W_loopR [2, 3, 4, 5] [4, 5] (fun k : Nat => [(9, .int .i64 k)]) (fun _ => []) (fun _ => []) (fun k => k ≤ t.holds.length ∧ heldB t.way c.len g m (t.holds.drop k) = heldB t.way c.len g m t.holds) (fun k => t.holds.length - k) 0 ⟨Nat.zero_le _, rfl⟩ (by refine ⟨?_, ?_, ?_⟩ <;> repeat' (first | exact trivial | apply And.intro | apply Eq.refl | (apply toI; apply Eq.refl; first | omega | assumption) | (apply toB; apply Eq.refl; repeat' (first | apply Eq.refl | apply consS | (apply consI; first | apply Eq.refl | omega | assumption))))) (fun k h hi => ?_)
  have hk := hi.1
  have hb : ∀ hk' : (k : Int) < t.holds.length, 1 ≤ (t.holds.getD (k : Int).toNat default).a ∧ (t.holds.getD (k : Int).toNat default).a ≤ c.len - 1 := fun h => by
    have := ho.2 k (by omega); simp only [Int.toNat_natCast]; omega
  repeat' (first
    | (apply WL_q; apply Eq.refl; apply Eq.refl; (first | (apply q_mvI <;> apply Eq.refl) | (apply q_asI <;> apply Eq.refl) | (apply q_ldb <;> apply Eq.refl) | (apply q_fab <;> apply Eq.refl) | (apply q_cmp <;> apply Eq.refl) | (apply q_mvB <;> apply Eq.refl) | (apply q_asB <;> apply Eq.refl) | (apply q_ldr <;> apply Eq.refl) | (apply q_far <;> apply Eq.refl) | (apply q_arith <;> (first | apply Eq.refl | omega)) | (apply q_len <;> apply Eq.refl) | (apply q_pkT <;> apply Eq.refl) | (apply q_pkF <;> apply Eq.refl) | (apply q_ia <;> (first | apply Eq.refl | omega)) | (apply q_ldba <;> apply Eq.refl) | (apply q_ldra <;> apply Eq.refl)))
    | apply W_seq
    | apply W_region
    | apply T_normal
    | apply WL_nil
    | apply T_exit
    | apply T_ret
    | apply B_normal
    | apply B_ret
    | apply B_exit_eq
    | apply W_skip
    | apply W_exit
    | apply W_ret
    | apply W_block
    | (apply W_condT; apply Eq.refl)
    | (apply W_condF; apply Eq.refl)
    | (apply WL_n; apply Eq.refl; (first | (apply n_boxa <;> apply Eq.refl)))
    | (apply WL_yes; apply Eq.refl; apply Eq.refl; apply Eq.refl)
    | (apply WL_no; apply Eq.refl; apply Eq.refl; apply Eq.refl; apply Eq.refl; apply Eq.refl)
    | (apply L_tD; apply Eq.refl; apply Eq.refl; apply Eq.refl; intro _; rotate_left 1; intro _; rotate_left 1)
    | apply W_regionG
    | (apply WG_nil; kernel_rfl)
    | (apply WG_q; (first | (apply want_none; apply Eq.refl) | (apply want_some; apply Eq.refl; apply Eq.refl; apply Eq.refl)); apply Eq.refl; first | (apply fq_bld <;> apply Eq.refl) | (apply fq_blda <;> apply Eq.refl) | (apply fq_fn; apply Eq.refl) | (apply fq_mf; apply Eq.refl) | (apply FQ_intro; intro _; (first | (apply q_mvI <;> apply Eq.refl) | (apply q_asI <;> apply Eq.refl) | (apply q_ldb <;> apply Eq.refl) | (apply q_fab <;> apply Eq.refl) | (apply q_cmp <;> apply Eq.refl) | (apply q_mvB <;> apply Eq.refl) | (apply q_asB <;> apply Eq.refl) | (apply q_ldr <;> apply Eq.refl) | (apply q_far <;> apply Eq.refl) | (apply q_arith <;> (first | apply Eq.refl | omega)) | (apply q_len <;> apply Eq.refl) | (apply q_pkT <;> apply Eq.refl) | (apply q_pkF <;> apply Eq.refl) | (apply q_ia <;> (first | apply Eq.refl | omega)) | (apply q_ldba <;> apply Eq.refl) | (apply q_ldra <;> apply Eq.refl))))
    | (apply WG_call; (first | (apply want_none; apply Eq.refl) | (apply want_some; apply Eq.refl; apply Eq.refl; apply Eq.refl)); apply Eq.refl; apply Eq.refl; apply Eq.refl; exact (c108 c t (t.holds.getD (k : Int).toNat default) (by have := hb (by assumption); omega) (by have := hb (by assumption); omega) (by omega) (by omega)))
    | (apply WG_no; apply Eq.refl; apply Eq.refl; apply Eq.refl; apply Eq.refl; apply Eq.refl)
    | (apply G_tD; apply Eq.refl; apply Eq.refl; apply Eq.refl; intro _; rotate_left 1; intro _; rotate_left 1)
    | (apply W_cD; apply Eq.refl; intro _; rotate_left 1; intro _; rotate_left 1))
  all_goals try simp only [Int.toNat_natCast] at *
  all_goals first
    | (((try apply fin_now); first | (apply fin_B; apply Eq.refl; apply Eq.refl; try apply Eq.refl)); exact heldB_hit hi.2 (by omega) (by assumption) (by assumption))
    | (((try apply fin_now); first | (apply fin_B; apply Eq.refl; apply Eq.refl; try apply Eq.refl)); exact heldB_end hi.2 (by omega))
    | (refine ⟨k + 1, ⟨by omega, heldB_next hi.2 (by omega) (fun hh => by first | exact absurd hh.1 (by assumption) | exact absurd hh.2 (by assumption))⟩, by omega, (by apply reach_now; refine ⟨?_, ?_, ?_, ?_, ?_⟩ <;> repeat' (first | exact trivial | apply And.intro | apply Eq.refl | (apply toI; apply Eq.refl; first | omega | assumption) | (apply toB; apply Eq.refl; repeat' (first | apply Eq.refl | apply consS | (apply consI; first | apply Eq.refl | omega | assumption)))))⟩; done)
    | skip
def onlaneR (t : Truck) (len : Int) (x : Span) (m : Int) : Span × Bool :=
  (⟨x.lo, if laneB t len x.hi m then x.hi else x.hi - 1⟩, decide (m ≥ t.start) && decide (x.lo ≤ (if laneB t len x.hi m then x.hi else x.hi - 1)))
attribute [local irreducible] laneB
theorem c74 (c : Convoy) (t : Truck) (x : Span) (m : Int) (hl : 1 ≤ c.len) (hl2 : c.len ≤ 100000) (ho : HOk c.len t.holds) (h3 : -1000000 ≤ x.hi) (h4 : x.hi ≤ 1000000) :
    Contract seat 74 [.agg (encConvoy c), .agg (encTruck t), .agg (encSpan x), .int .i64 m] (.tup [.agg (encSpan (onlaneR t c.len x m).1), .bool (onlaneR t c.len x m).2]) := by
  refine contract_introW (fn := Tryd.f74) Tryd.func74 rfl (by kernel_rfl) rfl ?_ ?_ ?_
  · exact PureL.cons (.agg _ (pure_convoy c)) (PureL.cons (.agg _ (pure_truck t)) (PureL.cons (.agg _ (pure_span x)) (PureL.cons (.int _ _) PureL.nil)))
  · exact .tup _ (PureL.cons (.agg _ (pure_span _)) (PureL.cons (.bool _) PureL.nil))
  intro w κ
  have r := c79 c t x.hi m hl hl2 ho
  unfold onlaneR
  generalize laneB t c.len x.hi m = b at *
  cases b
  · simp only [Bool.false_eq_true, if_false]
    repeat' (first
    | (apply WL_q; apply Eq.refl; apply Eq.refl; (first | (apply q_mvI <;> apply Eq.refl) | (apply q_ldb <;> apply Eq.refl) | (apply q_fab <;> apply Eq.refl) | (apply q_cmp <;> apply Eq.refl) | (apply q_mvB <;> apply Eq.refl) | (apply q_asB <;> apply Eq.refl) | (apply q_not <;> apply Eq.refl) | (apply q_arith <;> (first | apply Eq.refl | omega)) | (apply q_pkT <;> apply Eq.refl) | (apply q_pkF <;> apply Eq.refl) | (apply q_ldba <;> apply Eq.refl)))
    | apply W_seq
    | apply W_region
    | apply T_normal
    | apply WL_nil
    | apply W_skip
    | apply W_ret
    | (apply W_condT; apply Eq.refl)
    | (apply W_condF; apply Eq.refl)
    | (apply WL_call; apply Eq.refl; apply Eq.refl; rotate_left 1; apply Eq.refl; rotate_right 1; exact (r); apply Eq.refl)
    | (apply WL_n; apply Eq.refl; (first | (apply n_boxa <;> apply Eq.refl) | (apply n_alloc <;> apply Eq.refl) | (apply n_stb <;> apply Eq.refl)))
    | apply W_regionG
    | (apply WG_nil; kernel_rfl)
    | (apply WG_q; (first | (apply want_none; apply Eq.refl) | (apply want_some; apply Eq.refl; apply Eq.refl; apply Eq.refl)); apply Eq.refl; first | (apply fq_bld <;> apply Eq.refl) | (apply fq_blda <;> apply Eq.refl) | (apply fq_fn; apply Eq.refl) | (apply fq_mf; apply Eq.refl) | (apply FQ_intro; intro _; (first | (apply q_mvI <;> apply Eq.refl) | (apply q_ldb <;> apply Eq.refl) | (apply q_fab <;> apply Eq.refl) | (apply q_cmp <;> apply Eq.refl) | (apply q_mvB <;> apply Eq.refl) | (apply q_asB <;> apply Eq.refl) | (apply q_not <;> apply Eq.refl) | (apply q_arith <;> (first | apply Eq.refl | omega)) | (apply q_pkT <;> apply Eq.refl) | (apply q_pkF <;> apply Eq.refl) | (apply q_ldba <;> apply Eq.refl))))
    | (apply WG_n; (first | (apply want_none; apply Eq.refl) | (apply want_some; apply Eq.refl; apply Eq.refl; apply Eq.refl)); (first | (apply f_stb <;> apply Eq.refl)))
    | (apply WG_no; apply Eq.refl; apply Eq.refl; apply Eq.refl; apply Eq.refl; apply Eq.refl)
    | (apply G_tD; apply Eq.refl; apply Eq.refl; apply Eq.refl; intro _; rotate_left 1; intro _; rotate_left 1))
    all_goals ((try apply fin_now); first | (focus (apply fin_2; apply Eq.refl; (first | (apply rv_B; apply Eq.refl) | (apply rv_A <;> apply Eq.refl)); (first | (apply rv_B; apply Eq.refl) | (apply rv_A <;> apply Eq.refl)); all_goals try apply Eq.refl)))
    all_goals simp [*]
  · simp only [if_true]
    repeat' (first
    | (apply WL_q; apply Eq.refl; apply Eq.refl; (first | (apply q_mvI <;> apply Eq.refl) | (apply q_ldb <;> apply Eq.refl) | (apply q_fab <;> apply Eq.refl) | (apply q_cmp <;> apply Eq.refl) | (apply q_mvB <;> apply Eq.refl) | (apply q_asB <;> apply Eq.refl) | (apply q_not <;> apply Eq.refl) | (apply q_arith <;> (first | apply Eq.refl | omega)) | (apply q_pkT <;> apply Eq.refl) | (apply q_pkF <;> apply Eq.refl) | (apply q_ldba <;> apply Eq.refl)))
    | apply W_seq
    | apply W_region
    | apply T_normal
    | apply WL_nil
    | apply W_skip
    | apply W_ret
    | (apply W_condT; apply Eq.refl)
    | (apply W_condF; apply Eq.refl)
    | (apply WL_call; apply Eq.refl; apply Eq.refl; rotate_left 1; apply Eq.refl; rotate_right 1; exact (r); apply Eq.refl)
    | (apply WL_n; apply Eq.refl; (first | (apply n_boxa <;> apply Eq.refl) | (apply n_alloc <;> apply Eq.refl) | (apply n_stb <;> apply Eq.refl)))
    | apply W_regionG
    | (apply WG_nil; kernel_rfl)
    | (apply WG_q; (first | (apply want_none; apply Eq.refl) | (apply want_some; apply Eq.refl; apply Eq.refl; apply Eq.refl)); apply Eq.refl; first | (apply fq_bld <;> apply Eq.refl) | (apply fq_blda <;> apply Eq.refl) | (apply fq_fn; apply Eq.refl) | (apply fq_mf; apply Eq.refl) | (apply FQ_intro; intro _; (first | (apply q_mvI <;> apply Eq.refl) | (apply q_ldb <;> apply Eq.refl) | (apply q_fab <;> apply Eq.refl) | (apply q_cmp <;> apply Eq.refl) | (apply q_mvB <;> apply Eq.refl) | (apply q_asB <;> apply Eq.refl) | (apply q_not <;> apply Eq.refl) | (apply q_arith <;> (first | apply Eq.refl | omega)) | (apply q_pkT <;> apply Eq.refl) | (apply q_pkF <;> apply Eq.refl) | (apply q_ldba <;> apply Eq.refl))))
    | (apply WG_n; (first | (apply want_none; apply Eq.refl) | (apply want_some; apply Eq.refl; apply Eq.refl; apply Eq.refl)); (first | (apply f_stb <;> apply Eq.refl)))
    | (apply WG_no; apply Eq.refl; apply Eq.refl; apply Eq.refl; apply Eq.refl; apply Eq.refl)
    | (apply G_tD; apply Eq.refl; apply Eq.refl; apply Eq.refl; intro _; rotate_left 1; intro _; rotate_left 1))
    all_goals ((try apply fin_now); first | (focus (apply fin_2; apply Eq.refl; (first | (apply rv_B; apply Eq.refl) | (apply rv_A <;> apply Eq.refl)); (first | (apply rv_B; apply Eq.refl) | (apply rv_A <;> apply Eq.refl)); all_goals try apply Eq.refl)))
    all_goals simp [*]
end Go.Proofs.YtafnhieaeejlcaaDoor
namespace Go.Proofs.YtafnhieaeejlcaaDoor
open Go Go.Ab
theorem posR_stay {t : Truck} {len pace : Int} (h : ROk len t) (hp : 1 ≤ pace) {k : Nat} (hk : posR t len pace k = len) : posR t len pace (k + 1) = len := by
  have h1 := posR_stop h.l1 h.ho h.so hp k
  have h2 := (stopP_bnd (m := t.start + k) h).2
  rw [posR_next h.l1 h.ho h.so hp k, hk]
  omega
theorem posR_after {t : Truck} {len pace : Int} (h : ROk len t) (hp : 1 ≤ pace) {k : Nat} (hk : posR t len pace k = len) : ∀ j, posR t len pace (k + j) = len
  | 0 => hk
  | j + 1 => posR_stay h hp (posR_after h hp hk j)
theorem gone_after {t : Truck} {len : Int} (h : ROk len t) {k : Nat} (hk : hitR t len t.lo ≤ k) : gone t len k = gone t len (hitR t len t.lo) := by
  obtain ⟨j, rfl⟩ : ∃ j, k = hitR t len t.lo + j := ⟨k - hitR t len t.lo, by omega⟩
  have h1 := (hitR_ok h (Int.le_refl t.lo)).1
  have h2 : posR t len t.hi (hitR t len t.lo) = len := by
    have a := posR_lohi h (hitR t len t.lo)
    have b := (posR_le h.l1 h.ho (show 1 ≤ t.hi by have := h.p1; have := h.p2; omega) (hitR t len t.lo)).2
    omega
  unfold gone
  rw [posR_after h h.p1 h1 j, posR_after h (by have := h.p1; have := h.p2; omega) h2 j, h1, h2]
theorem wayR_eq {t : Truck} {len : Int} {m : Nat} : wayR t len m = gone t len ((m : Int) - t.start).toNat := by
  unfold wayR posW gone
  rw [show ((m + 1 : Nat) : Int) - 1 - t.start = (m : Int) - t.start by omega]
theorem atP_eq {t : Truck} {len : Int} (h : ROk len t) {m : Nat} (hm : t.start ≤ m) : atP t len m = wayR t len m := by
  rw [wayR_eq]
  unfold atP
  rw [if_neg (by omega)]
  by_cases e : (m : Int) - t.start ≤ hitR t len t.lo
  · rw [Int.min_eq_left e]
  · rw [Int.min_eq_right (by omega), gone_after h (k := ((m : Int) - t.start).toNat) (by omega)]
    rw [show ((hitR t len t.lo : Nat) : Int).toNat = hitR t len t.lo by omega]
theorem held_lt {way len m g : Int} : ∀ {hs : List Hold}, HSort way len hs → g < stopP way len m hs → heldB way len g m hs = true
  | [], _, _ => by simp only [heldB]
  | h :: hs, h1, h2 => by
    obtain ⟨h3, h4⟩ := List.pairwise_cons.1 h1
    simp only [stopP] at h2
    simp only [heldB]
    by_cases e : h.u > m
    · rw [if_pos e] at h2
      rw [if_neg (fun hh => by omega)]
      clear h1 h4
      induction hs with
      | nil => simp only [heldB]
      | cons x hs ih =>
        simp only [heldB]
        have := h3 x (List.mem_cons_self ..)
        rw [if_neg (fun hh => by omega)]
        exact ih fun y hy => h3 y (List.mem_cons_of_mem _ hy)
    · rw [if_neg e] at h2
      rw [if_neg (fun hh => e hh.2)]
      exact held_lt h4 h2
theorem held_eq {way len m : Int} : ∀ {hs : List Hold}, stopP way len m hs ≠ len → heldB way len (stopP way len m hs) m hs = false
  | [], h => absurd rfl h
  | h :: hs, h1 => by
    simp only [stopP] at h1 ⊢
    by_cases e : h.u > m
    · rw [if_pos e] at h1 ⊢
      simp only [heldB]
      rw [if_pos ⟨trivial, e⟩]
    · rw [if_neg e] at h1 ⊢
      simp only [heldB]
      rw [if_neg (fun hh => e hh.2)]
      exact held_eq h1
theorem lane_lt {t : Truck} {len g : Int} (h : ROk len t) {m : Int} (hm : t.start ≤ m) (hg : g ≤ stopP t.way len m t.holds) : laneB t len g m = decide (g < stopP t.way len m t.holds) := by
  obtain ⟨_, s2⟩ := stopP_bnd (m := m) h
  unfold laneB
  by_cases e : g < stopP t.way len m t.holds
  · rw [if_neg (by omega), held_lt h.so e]; simp [e]
  · have : g = stopP t.way len m t.holds := by omega
    subst this
    simp only [Int.lt_irrefl, decide_false]
    by_cases e2 : stopP t.way len m t.holds = len
    · rw [if_pos (.inr (by omega))]
    · rw [if_neg (by omega), held_eq e2]
theorem road_eq {way len : Int} {g : Span} (h : g.lo ≤ g.hi) : roadP way len g = roadR way len g := by
  unfold roadP roadR alongI
  by_cases e : way = 2
  · simp only [if_pos e, Span.mk.injEq]; omega
  · simp only [if_neg e]
    cases g
    simp only [Span.mk.injEq] at h ⊢; omega
theorem way_bnds {t : Truck} {len : Int} (h : ROk len t) {m : Nat} : 0 ≤ (wayR t len m).lo ∧ (wayR t len m).lo ≤ (wayR t len m).hi ∧ (wayR t len m).hi ≤ len ∧ (t.start ≤ m → (wayR t len m).hi ≤ stopP t.way len m t.holds) := by
  rw [wayR_eq]
  have p := h.p1
  have p' := h.p2
  refine ⟨(posR_le h.l1 h.ho h.p1 _).1, posR_lohi h _, (posR_le h.l1 h.ho (by omega) _).2, fun hm => ?_⟩
  have := posR_stop (pace := t.hi) h.l1 h.ho h.so (by omega) ((m : Int) - t.start).toNat
  rw [show t.start + ((((m : Int) - t.start).toNat : Nat) : Int) = m by omega] at this
  exact this
theorem lane_off {t : Truck} {len : Int} (h : ROk len t) {m : Nat} (ho : (onlaneR t len (wayR t len m) m).2 = false) : (laneP t len m).2 = 2 := by
  unfold laneP
  by_cases hm : (m : Int) < t.start
  · rw [if_pos hm]
  obtain ⟨_, b2, _, b4⟩ := way_bnds h (m := m)
  have b4 := b4 (by omega)
  rw [if_neg hm, atP_eq h (by omega)]
  simp only [onlaneR, lane_lt h (show t.start ≤ (m : Int) by omega) b4] at ho
  by_cases e : (wayR t len m).hi < stopP t.way len m t.holds
  · simp [e] at ho; omega
  · simp [e] at ho
    rw [if_neg e, if_pos (by omega)]
theorem lane_on {t : Truck} {len : Int} (h : ROk len t) {m : Nat} (ho : (onlaneR t len (wayR t len m) m).2 = true) :
    (laneP t len m).2 ≠ 2 ∧ (laneP t len m).1 = roadR t.way len (onlaneR t len (wayR t len m) m).1 := by
  by_cases hm : (m : Int) < t.start
  · simp only [onlaneR] at ho; simp at ho; omega
  obtain ⟨_, b2, _, b4⟩ := way_bnds h (m := m)
  have b4 := b4 (by omega)
  unfold laneP
  rw [if_neg hm, atP_eq h (by omega)]
  simp only [onlaneR, lane_lt h (show t.start ≤ (m : Int) by omega) b4] at ho ⊢
  by_cases e : (wayR t len m).hi < stopP t.way len m t.holds
  · simp only [e, decide_true, if_true]
    exact ⟨by decide, road_eq b2⟩
  · have e2 : (wayR t len m).hi = stopP t.way len m t.holds := by omega
    simp [e] at ho
    rw [if_neg e, if_neg (by omega)]
    simp only [e, decide_false, Bool.false_eq_true, if_false]
    rw [← e2]
    exact ⟨by decide, road_eq (by show (wayR t len m).lo ≤ (wayR t len m).hi - 1; omega)⟩
def nearQ (gap : Int) (t u : Truck) (len : Int) (m : Nat) : Int × Int × Bool :=
  if (onlaneR t len (wayR t len m) m).2 = false then (0, 0, false) else if (onlaneR u len (wayR u len m) m).2 = false then (0, 0, false)
  else nearR (roadR t.way len (onlaneR t len (wayR t len m) m).1) (roadR u.way len (onlaneR u len (wayR u len m) m).1) gap
theorem nearQ_eq {gap len : Int} {t u : Truck} (ht : ROk len t) (hu : ROk len u) (hg : 1 ≤ gap) (m : Nat) : nearQ gap t u len m = nearP gap (laneP t len m) (laneP u len m) := by
  unfold nearQ nearP
  cases e1 : (onlaneR t len (wayR t len m) m).2 with
  | false => rw [if_pos rfl, if_pos (.inl (lane_off ht e1))]
  | true =>
    obtain ⟨a1, a2⟩ := lane_on ht e1
    rw [if_neg (by decide)]
    cases e2 : (onlaneR u len (wayR u len m) m).2 with
    | false => rw [if_pos rfl, if_pos (.inr (lane_off hu e2))]
    | true =>
      obtain ⟨b1, b2⟩ := lane_on hu e2
      rw [if_neg (by decide), if_neg (fun h => h.elim a1 b1), a2, b2]
      unfold nearR
      simp only [Prod.mk.injEq, true_and]
      rw [decide_eq_true (show max (roadR u.way len (onlaneR u len (wayR u len m) m).1).lo (max (roadR t.way len (onlaneR t len (wayR t len m) m).1).lo ((roadR u.way len (onlaneR u len (wayR u len m) m).1).lo - gap + 1) - gap + 1) - max (roadR t.way len (onlaneR t len (wayR t len m) m).1).lo ((roadR u.way len (onlaneR u len (wayR u len m) m).1).lo - gap + 1) < gap by omega), Bool.and_true]
end Go.Proofs.YtafnhieaeejlcaaDoor
namespace Go.Ab
open Go Go.RowKit
section
variable {X : Ctx} {o : Oper} {S : St} {x y : Operand}
theorem q_iar {T : TypeId} {r q : TRow} {l : List D} {j : Nat} {k : Int} (ho : o.op = .indexAddr T x y) (hx : S.ev X x = .rp l j) (hy : S.ev X y = .int .i64 k) (h0 : 0 ≤ k)
    (hr : nth X.Z.tab T = some r) (hk : Nat.beq r.k 2 = true) (h1 : k < r.ln) (hq : nth X.Z.tab r.el = some q) (hq9 : Nat.beq q.k 9 = false) : QOp X o S (.rp l (j + k.toNat * q.sz)) := fun κ sv a w hs => by
  have hok := X.Z.tabOk _ _ hr (by intro e; rw [e] at hk; cases hk)
  have hokq := X.Z.tabOk _ _ hq (by intro e; rw [e] at hq9; cases hq9)
  have hyv := rep_int (hy ▸ hs.ev y)
  have h1' := hs.ev x
  rw [hx] at h1'
  generalize he : a.eval x = v at h1'
  cases h1' with
  | rp _ _ b bo u hc hu hκ =>
    refine ⟨.pointer (some ⟨b, bo + (j + k.toNat * q.sz), none⟩), .rp l _ b bo u hc hu hκ, fun w' _ => ?_⟩
    simp [execOp, ho, he, hyv, Instr.indexAt, asIntOf, run_underlying (array_row hok hk), Instr.sureAddr, h0, h1, run_size_row hokq, addr_add, Nat.add_assoc]
end
end Go.Ab
namespace Go.Proofs.YtafnhieaeejlcaaDoor
open Go Go.Ab
set_option maxRecDepth 100000
set_option maxHeartbeats 0
attribute [local irreducible] W WL QOp NOp thenQ blockQ FinQ WG FQ Want FinW WI WIL thenI blockI
def slW (t : Truck) (len : Int) (e : Nat) : D := .sl 2 (e + 1) (fun i => encSpan (wayR t len i))
theorem nearC_eq {gap len : Int} {t u : Truck} (ht : ROk len t) (hu : ROk len u) (hg : 1 ≤ gap) (m : Nat) (b : Bool × Bool) : nearQ gap (freeT t b.1) (freeT u b.2) len m = nearC gap t u len m b := by
  unfold nearC; exact nearQ_eq (ht.free _) (hu.free _) hg m
theorem nearQ_no1 {gap len : Int} {t u : Truck} {m : Nat} (h : (onlaneR t len (wayR t len m) m).2 = false) : nearQ gap t u len m = (0, 0, false) := by unfold nearQ; rw [if_pos h]
theorem nearQ_no2 {gap len : Int} {t u : Truck} {m : Nat} (h : (onlaneR u len (wayR u len m) m).2 = false) : (nearQ gap t u len m).2.2 = false := by
  unfold nearQ; rw [if_pos h]; split <;> rfl
theorem nearQ_yes {gap len : Int} {t u : Truck} {m : Nat} (h : (onlaneR t len (wayR t len m) m).2 = true) (h2 : (onlaneR u len (wayR u len m) m).2 = true) :
    nearQ gap t u len m = nearR (roadR t.way len (onlaneR t len (wayR t len m) m).1) (roadR u.way len (onlaneR u len (wayR u len m) m).1) gap := by
  unfold nearQ; rw [if_neg (by simp [h]), if_neg (by simp [h2])]
theorem road_bnd {way len : Int} {g : Span} (h : -1 ≤ g.lo ∧ g.lo ≤ 100000) (h' : -1 ≤ g.hi ∧ g.hi ≤ 100000) (h1 : 1 ≤ len) (h2 : len ≤ 100000) : -1000000 ≤ (roadR way len g).lo ∧ (roadR way len g).lo ≤ 1000000 := by
  unfold roadR; split
  · show -1000000 ≤ len - g.hi ∧ len - g.hi ≤ 1000000; omega
  · omega
theorem onlane_bnd {t : Truck} {len : Int} (h : ROk len t) {m : Nat} : (-1 ≤ (onlaneR t len (wayR t len m) m).1.lo ∧ (onlaneR t len (wayR t len m) m).1.lo ≤ 100000) ∧ (-1 ≤ (onlaneR t len (wayR t len m) m).1.hi ∧ (onlaneR t len (wayR t len m) m).1.hi ≤ 100000) := by
  obtain ⟨b1, b2, b3, _⟩ := way_bnds h (m := m)
  have := h.l2
  unfold onlaneR
  refine ⟨⟨by show -1 ≤ (wayR t len m).lo; omega, by show (wayR t len m).lo ≤ _; omega⟩, ?_⟩
  show -1 ≤ (if laneB t len (wayR t len m).hi m = true then (wayR t len m).hi else (wayR t len m).hi - 1) ∧ (if laneB t len (wayR t len m).hi m = true then (wayR t len m).hi else (wayR t len m).hi - 1) ≤ 100000
  split <;> omega
attribute [local irreducible] maxUp wayR onlaneR nearR roadR nearQ nearC arrS
theorem c28 (c : Convoy) : Contract seat 28 [.agg (encConvoy c)] (.tup [.agg (encMeeting (if chkConvoy c = 0 then optM (meetingP c) else default)), .int .i64 (if chkConvoy c = 0 then (if (meetingP c).isSome then 0 else 7) else chkConvoy c)]) := by
  refine contract_introW (fn := Tryd.f28) Tryd.func28 rfl (by kernel_rfl) rfl ?_ ?_ ?_
  · exact PureL.cons (.agg _ (pure_convoy c)) PureL.nil
  · exact .tup _ (PureL.cons (.agg _ (pure_meeting _)) (PureL.cons (.int _ _) PureL.nil))
  intro w κ
  by_cases h0 : chkConvoy c = 0
  rotate_left 1
  · rw [if_neg h0, if_neg h0]
    repeat' (first
    | (apply WL_q; apply Eq.refl; apply Eq.refl; (first | (apply q_mvI <;> apply Eq.refl) | (apply q_asI <;> apply Eq.refl) | (apply q_ldb <;> apply Eq.refl) | (apply q_fab <;> apply Eq.refl) | (apply q_cmp <;> apply Eq.refl) | (apply q_mvB <;> apply Eq.refl) | (apply q_asB <;> apply Eq.refl) | (apply q_not <;> apply Eq.refl) | (apply q_ldr <;> apply Eq.refl) | (apply q_arith <;> (first | apply Eq.refl | omega)) | (apply q_len <;> apply Eq.refl) | (apply q_ext <;> apply Eq.refl) | (apply q_pkT <;> apply Eq.refl) | (apply q_pkF <;> apply Eq.refl) | (apply q_ia <;> (first | apply Eq.refl | omega)) | (apply q_ldba <;> apply Eq.refl) | (apply q_ldra <;> apply Eq.refl) | (apply q_bld <;> apply Eq.refl) | (apply q_mvS <;> apply Eq.refl) | (apply q_mvO <;> apply Eq.refl) | (apply q_asO <;> apply Eq.refl) | (apply q_asN <;> apply Eq.refl) | (apply q_blda <;> apply Eq.refl) | (apply q_mvT <;> apply Eq.refl) | (apply q_iar; apply Eq.refl; apply Eq.refl; apply Eq.refl; (first | omega | decide); apply Eq.refl; apply Eq.refl; (first | omega | decide); apply Eq.refl; apply Eq.refl) | (apply q_iab; apply Eq.refl; apply Eq.refl; apply Eq.refl; apply Eq.refl; (first | omega | decide); apply Eq.refl; apply Eq.refl; (first | omega | decide); apply Eq.refl; apply Eq.refl)))
    | apply W_seq
    | apply W_region
    | apply T_normal
    | apply WL_nil
    | apply T_exit
    | apply T_ret
    | apply B_normal
    | apply B_ret
    | apply B_exit_eq
    | apply W_skip
    | apply W_exit
    | apply W_ret
    | apply W_block
    | (apply W_condT; apply Eq.refl)
    | (apply W_condF; apply Eq.refl)
    | (apply WL_call; apply Eq.refl; apply Eq.refl; rotate_left 1; apply Eq.refl; rotate_right 1; exact (c22 c); apply Eq.refl)
    | (apply WL_n; apply Eq.refl; (first | (apply n_boxa <;> apply Eq.refl) | (apply n_alloc <;> apply Eq.refl) | (apply n_stb <;> apply Eq.refl)))
    | (apply WL_yes; apply Eq.refl; apply Eq.refl; apply Eq.refl)
    | (apply WL_no; apply Eq.refl; apply Eq.refl; apply Eq.refl; apply Eq.refl; apply Eq.refl)
    | (apply L_tN; apply Eq.refl; apply Eq.refl; apply Eq.refl; intro _; rotate_left 1; intro _; rotate_left 1)
    | apply W_regionG
    | (apply WG_nil; kernel_rfl)
    | (apply WG_q; (first | (apply want_none; apply Eq.refl) | (apply want_some; apply Eq.refl; apply Eq.refl; apply Eq.refl)); apply Eq.refl; first | (apply fq_bld <;> apply Eq.refl) | (apply fq_blda <;> apply Eq.refl) | (apply fq_fn; apply Eq.refl) | (apply fq_mf; apply Eq.refl) | (apply FQ_intro; intro _; (first | (apply q_mvI <;> apply Eq.refl) | (apply q_asI <;> apply Eq.refl) | (apply q_ldb <;> apply Eq.refl) | (apply q_fab <;> apply Eq.refl) | (apply q_cmp <;> apply Eq.refl) | (apply q_mvB <;> apply Eq.refl) | (apply q_asB <;> apply Eq.refl) | (apply q_not <;> apply Eq.refl) | (apply q_ldr <;> apply Eq.refl) | (apply q_arith <;> (first | apply Eq.refl | omega)) | (apply q_len <;> apply Eq.refl) | (apply q_ext <;> apply Eq.refl) | (apply q_pkT <;> apply Eq.refl) | (apply q_pkF <;> apply Eq.refl) | (apply q_ia <;> (first | apply Eq.refl | omega)) | (apply q_ldba <;> apply Eq.refl) | (apply q_ldra <;> apply Eq.refl) | (apply q_bld <;> apply Eq.refl) | (apply q_mvS <;> apply Eq.refl) | (apply q_mvO <;> apply Eq.refl) | (apply q_asO <;> apply Eq.refl) | (apply q_asN <;> apply Eq.refl) | (apply q_blda <;> apply Eq.refl) | (apply q_mvT <;> apply Eq.refl) | (apply q_iar; apply Eq.refl; apply Eq.refl; apply Eq.refl; (first | omega | decide); apply Eq.refl; apply Eq.refl; (first | omega | decide); apply Eq.refl; apply Eq.refl) | (apply q_iab; apply Eq.refl; apply Eq.refl; apply Eq.refl; apply Eq.refl; (first | omega | decide); apply Eq.refl; apply Eq.refl; (first | omega | decide); apply Eq.refl; apply Eq.refl))))
    | (apply WG_call; (first | (apply want_none; apply Eq.refl) | (apply want_some; apply Eq.refl; apply Eq.refl; apply Eq.refl)); apply Eq.refl; apply Eq.refl; apply Eq.refl; exact (c22 c))
    | (apply WG_n; (first | (apply want_none; apply Eq.refl) | (apply want_some; apply Eq.refl; apply Eq.refl; apply Eq.refl)); (first | (apply f_alloc <;> apply Eq.refl) | (apply f_stb <;> apply Eq.refl) | (apply f_bsl <;> apply Eq.refl)))
    | (apply W_cD; apply Eq.refl; intro _; rotate_left 1; intro _; rotate_left 1)
    | (apply W_cND; apply Eq.refl; intro _; rotate_left 1; intro _; rotate_left 1)
    | (apply W_cN; apply Eq.refl; intro _; rotate_left 1; intro _; rotate_left 1)
    | (apply W_cond; apply Eq.refl; intro _; rotate_left 1; intro _; rotate_left 1))
    · ((try apply fin_now); first | (focus (apply fin_2; apply Eq.refl; (first | (apply rv_I; apply Eq.refl) | (apply rv_A <;> apply Eq.refl)); (first | (apply rv_I; apply Eq.refl) | (apply rv_A <;> apply Eq.refl)); all_goals try apply Eq.refl)))
    · contradiction
  have hc := cr_of h0
  have h1 := c22 c
  rw [if_pos h0, if_pos h0]
  rw [h0] at h1
  obtain ⟨mb1, mb2⟩ := maxUp_bnd hc c.trucks.length (Nat.le_refl _)
  have hlast : ((lastP c : Nat) : Int) = maxUp (endF c) c.trucks.length := by unfold lastP; omega
  have h2 := c71 c hc.ok
  rw [← hlast] at h2
  have hn := hc.ok.n
  repeat' (first
    | (apply WL_q; apply Eq.refl; apply Eq.refl; (first | (apply q_mvI <;> apply Eq.refl) | (apply q_asI <;> apply Eq.refl) | (apply q_ldb <;> apply Eq.refl) | (apply q_fab <;> apply Eq.refl) | (apply q_cmp <;> apply Eq.refl) | (apply q_mvB <;> apply Eq.refl) | (apply q_asB <;> apply Eq.refl) | (apply q_not <;> apply Eq.refl) | (apply q_ldr <;> apply Eq.refl) | (apply q_arith <;> (first | apply Eq.refl | omega)) | (apply q_len <;> apply Eq.refl) | (apply q_ext <;> apply Eq.refl) | (apply q_pkT <;> apply Eq.refl) | (apply q_pkF <;> apply Eq.refl) | (apply q_ia <;> (first | apply Eq.refl | omega)) | (apply q_ldba <;> apply Eq.refl) | (apply q_ldra <;> apply Eq.refl) | (apply q_bld <;> apply Eq.refl) | (apply q_mvS <;> apply Eq.refl) | (apply q_mvO <;> apply Eq.refl) | (apply q_asO <;> apply Eq.refl) | (apply q_asN <;> apply Eq.refl) | (apply q_blda <;> apply Eq.refl) | (apply q_mvT <;> apply Eq.refl) | (apply q_iar; apply Eq.refl; apply Eq.refl; apply Eq.refl; (first | omega | decide); apply Eq.refl; apply Eq.refl; (first | omega | decide); apply Eq.refl; apply Eq.refl) | (apply q_iab; apply Eq.refl; apply Eq.refl; apply Eq.refl; apply Eq.refl; (first | omega | decide); apply Eq.refl; apply Eq.refl; (first | omega | decide); apply Eq.refl; apply Eq.refl)))
    | apply W_seq
    | apply W_region
    | apply T_normal
    | apply WL_nil
    | apply T_exit
    | apply T_ret
    | apply B_normal
    | apply B_ret
    | apply B_exit_eq
    | apply W_skip
    | apply W_exit
    | apply W_ret
    | apply W_block
    | (apply W_condT; apply Eq.refl)
    | (apply W_condF; apply Eq.refl)
    | (apply WL_call; apply Eq.refl; apply Eq.refl; rotate_left 1; apply Eq.refl; rotate_right 1; exact (h1); apply Eq.refl)
    | (apply WL_call; apply Eq.refl; apply Eq.refl; rotate_left 1; apply Eq.refl; rotate_right 1; exact (h2); apply Eq.refl)
    | (apply WL_n; apply Eq.refl; (first | (apply n_boxa <;> apply Eq.refl) | (apply n_alloc <;> apply Eq.refl) | (apply n_stb <;> apply Eq.refl)))
    | (apply WL_yes; apply Eq.refl; apply Eq.refl; apply Eq.refl)
    | (apply WL_no; apply Eq.refl; apply Eq.refl; apply Eq.refl; apply Eq.refl; apply Eq.refl)
    | (apply L_tN; apply Eq.refl; apply Eq.refl; apply Eq.refl; intro _; rotate_left 1; intro _; rotate_left 1)
    | apply W_regionG
    | (apply WG_nil; kernel_rfl)
    | (apply WG_q; (first | (apply want_none; apply Eq.refl) | (apply want_some; apply Eq.refl; apply Eq.refl; apply Eq.refl)); apply Eq.refl; first | (apply fq_bld <;> apply Eq.refl) | (apply fq_blda <;> apply Eq.refl) | (apply fq_fn; apply Eq.refl) | (apply fq_mf; apply Eq.refl) | (apply FQ_intro; intro _; (first | (apply q_mvI <;> apply Eq.refl) | (apply q_asI <;> apply Eq.refl) | (apply q_ldb <;> apply Eq.refl) | (apply q_fab <;> apply Eq.refl) | (apply q_cmp <;> apply Eq.refl) | (apply q_mvB <;> apply Eq.refl) | (apply q_asB <;> apply Eq.refl) | (apply q_not <;> apply Eq.refl) | (apply q_ldr <;> apply Eq.refl) | (apply q_arith <;> (first | apply Eq.refl | omega)) | (apply q_len <;> apply Eq.refl) | (apply q_ext <;> apply Eq.refl) | (apply q_pkT <;> apply Eq.refl) | (apply q_pkF <;> apply Eq.refl) | (apply q_ia <;> (first | apply Eq.refl | omega)) | (apply q_ldba <;> apply Eq.refl) | (apply q_ldra <;> apply Eq.refl) | (apply q_bld <;> apply Eq.refl) | (apply q_mvS <;> apply Eq.refl) | (apply q_mvO <;> apply Eq.refl) | (apply q_asO <;> apply Eq.refl) | (apply q_asN <;> apply Eq.refl) | (apply q_blda <;> apply Eq.refl) | (apply q_mvT <;> apply Eq.refl) | (apply q_iar; apply Eq.refl; apply Eq.refl; apply Eq.refl; (first | omega | decide); apply Eq.refl; apply Eq.refl; (first | omega | decide); apply Eq.refl; apply Eq.refl) | (apply q_iab; apply Eq.refl; apply Eq.refl; apply Eq.refl; apply Eq.refl; (first | omega | decide); apply Eq.refl; apply Eq.refl; (first | omega | decide); apply Eq.refl; apply Eq.refl))))
    | (apply WG_call; (first | (apply want_none; apply Eq.refl) | (apply want_some; apply Eq.refl; apply Eq.refl; apply Eq.refl)); apply Eq.refl; apply Eq.refl; apply Eq.refl; exact (h1))
    | (apply WG_call; (first | (apply want_none; apply Eq.refl) | (apply want_some; apply Eq.refl; apply Eq.refl; apply Eq.refl)); apply Eq.refl; apply Eq.refl; apply Eq.refl; exact (h2))
    | (apply WG_n; (first | (apply want_none; apply Eq.refl) | (apply want_some; apply Eq.refl; apply Eq.refl; apply Eq.refl)); (first | (apply f_alloc <;> apply Eq.refl) | (apply f_stb <;> apply Eq.refl) | (apply f_bsl <;> apply Eq.refl)))
    | (apply W_cD; apply Eq.refl; intro _; rotate_left 1; intro _; rotate_left 1)
    | (apply W_cND; apply Eq.refl; intro _; rotate_left 1; intro _; rotate_left 1)
    | (apply W_cN; apply Eq.refl; intro _; rotate_left 1; intro _; rotate_left 1)
    | (apply W_cond; apply Eq.refl; intro _; rotate_left 1; intro _; rotate_left 1))
  refine W_wk (wk_nil 6 6 101 2 (fun i => [slW (c.trucks.getD i default) c.len (lastP c), slW (freeT (c.trucks.getD i default) true) c.len (lastP c)]) rfl) ?_
  refine W_loopR [1, 2, 3, 5] [1, 2] (fun k : Nat => [(6, .os 6 (k + 1)), (7, .int .i64 k)]) (fun k => [(6, k + 1)])
      (fun k => [(6, .arr 101 2 k (fun i => [slW (c.trucks.getD i default) c.len (lastP c), slW (freeT (c.trucks.getD i default) true) c.len (lastP c)]))])
      (fun k => k ≤ c.trucks.length) (fun k => c.trucks.length - k) 0 (Nat.zero_le _) (by refine ⟨?_, ?_, ?_⟩ <;> repeat' (first | exact trivial | apply And.intro | apply Eq.refl | (apply toI; apply Eq.refl; first | omega | assumption) | (apply toB; apply Eq.refl; repeat' (first | apply Eq.refl | apply consS | (apply consI; first | apply Eq.refl | omega | assumption))))) (fun k h hk => ?_)
  have ht : (k : Int) < c.trucks.length → TOk c (c.trucks.getD (k : Int).toNat default) := fun h => hc.ok.t _ (by omega)
  have hw1 : (k : Int) < c.trucks.length → Contract seat 72 [.agg (encConvoy c), .agg (encTruck (c.trucks.getD (k : Int).toNat default)), .int .i64 (lastP c : Nat)] (slW (c.trucks.getD (k : Int).toNat default) c.len (lastP c)) := fun h => by unfold slW; exact c72 c _ (lastP c) (ht h) (by omega)
  have hw2 : (k : Int) < c.trucks.length → Contract seat 72 [.agg (encConvoy c), .agg (encTruck (freeT (c.trucks.getD (k : Int).toNat default) true)), .int .i64 (lastP c : Nat)] (slW (freeT (c.trucks.getD (k : Int).toNat default) true) c.len (lastP c)) := fun h => by unfold slW; exact c72 c _ (lastP c) ((ht h).free true) (by omega)
  repeat' (first
    | (apply WL_q; apply Eq.refl; apply Eq.refl; (first | (apply q_mvI <;> apply Eq.refl) | (apply q_asI <;> apply Eq.refl) | (apply q_ldb <;> apply Eq.refl) | (apply q_fab <;> apply Eq.refl) | (apply q_cmp <;> apply Eq.refl) | (apply q_mvB <;> apply Eq.refl) | (apply q_asB <;> apply Eq.refl) | (apply q_not <;> apply Eq.refl) | (apply q_ldr <;> apply Eq.refl) | (apply q_arith <;> (first | apply Eq.refl | omega)) | (apply q_len <;> apply Eq.refl) | (apply q_ext <;> apply Eq.refl) | (apply q_pkT <;> apply Eq.refl) | (apply q_pkF <;> apply Eq.refl) | (apply q_ia <;> (first | apply Eq.refl | omega)) | (apply q_ldba <;> apply Eq.refl) | (apply q_ldra <;> apply Eq.refl) | (apply q_bld <;> apply Eq.refl) | (apply q_mvS <;> apply Eq.refl) | (apply q_mvO <;> apply Eq.refl) | (apply q_asO <;> apply Eq.refl) | (apply q_asN <;> apply Eq.refl) | (apply q_blda <;> apply Eq.refl) | (apply q_mvT <;> apply Eq.refl) | (apply q_iar; apply Eq.refl; apply Eq.refl; apply Eq.refl; (first | omega | decide); apply Eq.refl; apply Eq.refl; (first | omega | decide); apply Eq.refl; apply Eq.refl) | (apply q_iab; apply Eq.refl; apply Eq.refl; apply Eq.refl; apply Eq.refl; (first | omega | decide); apply Eq.refl; apply Eq.refl; (first | omega | decide); apply Eq.refl; apply Eq.refl)))
    | apply W_seq
    | apply W_region
    | apply T_normal
    | apply WL_nil
    | apply T_exit
    | apply T_ret
    | apply B_normal
    | apply B_ret
    | apply B_exit_eq
    | apply W_skip
    | apply W_exit
    | apply W_ret
    | apply W_block
    | (apply W_condT; apply Eq.refl)
    | (apply W_condF; apply Eq.refl)
    | (apply WL_call; apply Eq.refl; apply Eq.refl; rotate_left 1; apply Eq.refl; rotate_right 1; exact (hw1 (by assumption)); apply Eq.refl)
    | (apply WL_call; apply Eq.refl; apply Eq.refl; rotate_left 1; apply Eq.refl; rotate_right 1; exact (hw2 (by assumption)); apply Eq.refl)
    | (apply WL_call; apply Eq.refl; apply Eq.refl; rotate_left 1; apply Eq.refl; rotate_right 1; exact (c73 (c.trucks.getD (k : Int).toNat default) true); apply Eq.refl)
    | (apply WL_n; apply Eq.refl; (first | (apply n_boxa <;> apply Eq.refl) | (apply n_alloc <;> apply Eq.refl) | (apply n_stb <;> apply Eq.refl)))
    | (apply WL_yes; apply Eq.refl; apply Eq.refl; apply Eq.refl)
    | (apply WL_no; apply Eq.refl; apply Eq.refl; apply Eq.refl; apply Eq.refl; apply Eq.refl)
    | (apply L_tN; apply Eq.refl; apply Eq.refl; apply Eq.refl; intro _; rotate_left 1; intro _; rotate_left 1)
    | apply W_regionG
    | (apply WG_nil; kernel_rfl)
    | (apply WG_q; (first | (apply want_none; apply Eq.refl) | (apply want_some; apply Eq.refl; apply Eq.refl; apply Eq.refl)); apply Eq.refl; first | (apply fq_bld <;> apply Eq.refl) | (apply fq_blda <;> apply Eq.refl) | (apply fq_fn; apply Eq.refl) | (apply fq_mf; apply Eq.refl) | (apply FQ_intro; intro _; (first | (apply q_mvI <;> apply Eq.refl) | (apply q_asI <;> apply Eq.refl) | (apply q_ldb <;> apply Eq.refl) | (apply q_fab <;> apply Eq.refl) | (apply q_cmp <;> apply Eq.refl) | (apply q_mvB <;> apply Eq.refl) | (apply q_asB <;> apply Eq.refl) | (apply q_not <;> apply Eq.refl) | (apply q_ldr <;> apply Eq.refl) | (apply q_arith <;> (first | apply Eq.refl | omega)) | (apply q_len <;> apply Eq.refl) | (apply q_ext <;> apply Eq.refl) | (apply q_pkT <;> apply Eq.refl) | (apply q_pkF <;> apply Eq.refl) | (apply q_ia <;> (first | apply Eq.refl | omega)) | (apply q_ldba <;> apply Eq.refl) | (apply q_ldra <;> apply Eq.refl) | (apply q_bld <;> apply Eq.refl) | (apply q_mvS <;> apply Eq.refl) | (apply q_mvO <;> apply Eq.refl) | (apply q_asO <;> apply Eq.refl) | (apply q_asN <;> apply Eq.refl) | (apply q_blda <;> apply Eq.refl) | (apply q_mvT <;> apply Eq.refl) | (apply q_iar; apply Eq.refl; apply Eq.refl; apply Eq.refl; (first | omega | decide); apply Eq.refl; apply Eq.refl; (first | omega | decide); apply Eq.refl; apply Eq.refl) | (apply q_iab; apply Eq.refl; apply Eq.refl; apply Eq.refl; apply Eq.refl; (first | omega | decide); apply Eq.refl; apply Eq.refl; (first | omega | decide); apply Eq.refl; apply Eq.refl))))
    | (apply WG_call; (first | (apply want_none; apply Eq.refl) | (apply want_some; apply Eq.refl; apply Eq.refl; apply Eq.refl)); apply Eq.refl; apply Eq.refl; apply Eq.refl; exact (hw1 (by assumption)))
    | (apply WG_call; (first | (apply want_none; apply Eq.refl) | (apply want_some; apply Eq.refl; apply Eq.refl; apply Eq.refl)); apply Eq.refl; apply Eq.refl; apply Eq.refl; exact (hw2 (by assumption)))
    | (apply WG_call; (first | (apply want_none; apply Eq.refl) | (apply want_some; apply Eq.refl; apply Eq.refl; apply Eq.refl)); apply Eq.refl; apply Eq.refl; apply Eq.refl; exact (c73 (c.trucks.getD (k : Int).toNat default) true))
    | (apply WG_n; (first | (apply want_none; apply Eq.refl) | (apply want_some; apply Eq.refl; apply Eq.refl; apply Eq.refl)); (first | (refine f_app (f' := fun i => [slW (c.trucks.getD i default) c.len (lastP c), slW (freeT (c.trucks.getD i default) true) c.len (lastP c)]) rfl rfl rfl rfl rfl rfl rfl rfl rfl rfl rfl rfl rfl rfl rfl (by first | omega | (show (k + 1) * 48 ≤ _; omega)) (by omega) rfl (fun i hi => rfl) (fun i hi => by (obtain rfl : i = 0 := by omega); rfl)) | (apply f_alloc <;> apply Eq.refl) | (apply f_stb <;> apply Eq.refl) | (apply f_bsl <;> apply Eq.refl)))
    | (apply W_cD; apply Eq.refl; intro _; rotate_left 1; intro _; rotate_left 1)
    | (apply W_cND; apply Eq.refl; intro _; rotate_left 1; intro _; rotate_left 1)
    | (apply W_cN; apply Eq.refl; intro _; rotate_left 1; intro _; rotate_left 1)
    | (apply W_cond; apply Eq.refl; intro _; rotate_left 1; intro _; rotate_left 1))
  · exact ⟨k + 1, by omega, by omega, (by apply reach_now; refine ⟨?_, ?_, ?_, ?_, ?_⟩ <;> repeat' (first | exact trivial | apply And.intro | apply Eq.refl | (apply toI; apply Eq.refl; first | omega | assumption) | (apply toB; apply Eq.refl; repeat' (first | apply Eq.refl | apply consS | (apply consI; first | apply Eq.refl | omega | assumption)))))⟩
  obtain rfl : k = c.trucks.length := by omega
  refine W_wk (wk_freeze 6 (s := 6) rfl rfl rfl) ?_
  clear ht hw1 hw2
  refine W_loopR [1, 2, 5, 6, 9] [1, 9] (fun m : Nat => [(3, .int .i64 0), (10, .int .i64 m)]) (fun m => [(2, 1)]) (fun m => [(2, .box (encMeeting default))])
      (fun m => m ≤ lastP c + 1 ∧ firstS (srchI c) (lastP c + 1 - m) m = meetingP c) (fun m => lastP c + 1 - m) 0 ⟨Nat.zero_le _, rfl⟩ (by refine ⟨?_, ?_, ?_⟩ <;> repeat' (first | exact trivial | apply And.intro | apply Eq.refl | (apply toI; apply Eq.refl; first | omega | assumption) | (apply toB; apply Eq.refl; repeat' (first | apply Eq.refl | apply consS | (apply consI; first | apply Eq.refl | omega | assumption))))) (fun m h1 hm => ?_)
  obtain ⟨hm1, hm2⟩ := hm
  repeat' (first
    | (apply WL_q; apply Eq.refl; apply Eq.refl; (first | (apply q_mvI <;> apply Eq.refl) | (apply q_asI <;> apply Eq.refl) | (apply q_ldb <;> apply Eq.refl) | (apply q_fab <;> apply Eq.refl) | (apply q_cmp <;> apply Eq.refl) | (apply q_mvB <;> apply Eq.refl) | (apply q_asB <;> apply Eq.refl) | (apply q_not <;> apply Eq.refl) | (apply q_ldr <;> apply Eq.refl) | (apply q_arith <;> (first | apply Eq.refl | omega)) | (apply q_len <;> apply Eq.refl) | (apply q_ext <;> apply Eq.refl) | (apply q_pkT <;> apply Eq.refl) | (apply q_pkF <;> apply Eq.refl) | (apply q_ia <;> (first | apply Eq.refl | omega)) | (apply q_ldba <;> apply Eq.refl) | (apply q_ldra <;> apply Eq.refl) | (apply q_bld <;> apply Eq.refl) | (apply q_mvS <;> apply Eq.refl) | (apply q_mvO <;> apply Eq.refl) | (apply q_asO <;> apply Eq.refl) | (apply q_asN <;> apply Eq.refl) | (apply q_blda <;> apply Eq.refl) | (apply q_mvT <;> apply Eq.refl) | (apply q_iar; apply Eq.refl; apply Eq.refl; apply Eq.refl; (first | omega | decide); apply Eq.refl; apply Eq.refl; (first | omega | decide); apply Eq.refl; apply Eq.refl) | (apply q_iab; apply Eq.refl; apply Eq.refl; apply Eq.refl; apply Eq.refl; (first | omega | decide); apply Eq.refl; apply Eq.refl; (first | omega | decide); apply Eq.refl; apply Eq.refl)))
    | apply W_seq
    | apply W_region
    | apply T_normal
    | apply WL_nil
    | apply T_exit
    | apply T_ret
    | apply B_normal
    | apply B_ret
    | apply B_exit_eq
    | apply W_skip
    | apply W_exit
    | apply W_ret
    | apply W_block
    | (apply W_condT; apply Eq.refl)
    | (apply W_condF; apply Eq.refl)
    | (apply WL_n; apply Eq.refl; (first | (apply n_boxa <;> apply Eq.refl) | (apply n_alloc <;> apply Eq.refl) | (apply n_stb <;> apply Eq.refl)))
    | (apply WL_yes; apply Eq.refl; apply Eq.refl; apply Eq.refl)
    | (apply WL_no; apply Eq.refl; apply Eq.refl; apply Eq.refl; apply Eq.refl; apply Eq.refl)
    | (apply L_tN; apply Eq.refl; apply Eq.refl; apply Eq.refl; intro _; rotate_left 1; intro _; rotate_left 1)
    | apply W_regionG
    | (apply WG_nil; kernel_rfl)
    | (apply WG_q; (first | (apply want_none; apply Eq.refl) | (apply want_some; apply Eq.refl; apply Eq.refl; apply Eq.refl)); apply Eq.refl; first | (apply fq_bld <;> apply Eq.refl) | (apply fq_blda <;> apply Eq.refl) | (apply fq_fn; apply Eq.refl) | (apply fq_mf; apply Eq.refl) | (apply FQ_intro; intro _; (first | (apply q_mvI <;> apply Eq.refl) | (apply q_asI <;> apply Eq.refl) | (apply q_ldb <;> apply Eq.refl) | (apply q_fab <;> apply Eq.refl) | (apply q_cmp <;> apply Eq.refl) | (apply q_mvB <;> apply Eq.refl) | (apply q_asB <;> apply Eq.refl) | (apply q_not <;> apply Eq.refl) | (apply q_ldr <;> apply Eq.refl) | (apply q_arith <;> (first | apply Eq.refl | omega)) | (apply q_len <;> apply Eq.refl) | (apply q_ext <;> apply Eq.refl) | (apply q_pkT <;> apply Eq.refl) | (apply q_pkF <;> apply Eq.refl) | (apply q_ia <;> (first | apply Eq.refl | omega)) | (apply q_ldba <;> apply Eq.refl) | (apply q_ldra <;> apply Eq.refl) | (apply q_bld <;> apply Eq.refl) | (apply q_mvS <;> apply Eq.refl) | (apply q_mvO <;> apply Eq.refl) | (apply q_asO <;> apply Eq.refl) | (apply q_asN <;> apply Eq.refl) | (apply q_blda <;> apply Eq.refl) | (apply q_mvT <;> apply Eq.refl) | (apply q_iar; apply Eq.refl; apply Eq.refl; apply Eq.refl; (first | omega | decide); apply Eq.refl; apply Eq.refl; (first | omega | decide); apply Eq.refl; apply Eq.refl) | (apply q_iab; apply Eq.refl; apply Eq.refl; apply Eq.refl; apply Eq.refl; (first | omega | decide); apply Eq.refl; apply Eq.refl; (first | omega | decide); apply Eq.refl; apply Eq.refl))))
    | (apply WG_n; (first | (apply want_none; apply Eq.refl) | (apply want_some; apply Eq.refl; apply Eq.refl; apply Eq.refl)); (first | (apply f_alloc <;> apply Eq.refl) | (apply f_stb <;> apply Eq.refl) | (apply f_bsl <;> apply Eq.refl)))
    | (apply W_cD; apply Eq.refl; intro _; rotate_left 1; intro _; rotate_left 1)
    | (apply W_cND; apply Eq.refl; intro _; rotate_left 1; intro _; rotate_left 1)
    | (apply W_cN; apply Eq.refl; intro _; rotate_left 1; intro _; rotate_left 1)
    | (apply W_cond; apply Eq.refl; intro _; rotate_left 1; intro _; rotate_left 1))
  rotate_left 1
  · have := firstS_end hm2 (by omega)
    rw [this]; ((try apply fin_now); first | (focus (apply fin_2; apply Eq.refl; (first | (apply rv_I; apply Eq.refl) | (apply rv_A <;> apply Eq.refl)); (first | (apply rv_I; apply Eq.refl) | (apply rv_A <;> apply Eq.refl)); all_goals try apply Eq.refl)))
  have hmlt : m < lastP c + 1 := by omega
  refine W_loopR [1, 2, 5, 6, 9, 10] [1, 9] (fun i : Nat => [(3, .int .i64 0), (11, .int .i64 i)]) (fun i => [(2, 1)]) (fun i => [(2, .box (encMeeting default))])
      (fun i => i ≤ c.trucks.length ∧ firstS (srchK c m) (c.trucks.length - i) i = srchI c m) (fun i => c.trucks.length - i) 0 ⟨Nat.zero_le _, by unfold srchI; rfl⟩ (by refine ⟨?_, ?_, ?_⟩ <;> repeat' (first | exact trivial | apply And.intro | apply Eq.refl | (apply toI; apply Eq.refl; first | omega | assumption) | (apply toB; apply Eq.refl; repeat' (first | apply Eq.refl | apply consS | (apply consI; first | apply Eq.refl | omega | assumption))))) (fun i h2 hi => ?_)
  obtain ⟨hi1, hi2⟩ := hi
  repeat' (first
    | (apply WL_q; apply Eq.refl; apply Eq.refl; (first | (apply q_mvI <;> apply Eq.refl) | (apply q_asI <;> apply Eq.refl) | (apply q_ldb <;> apply Eq.refl) | (apply q_fab <;> apply Eq.refl) | (apply q_cmp <;> apply Eq.refl) | (apply q_mvB <;> apply Eq.refl) | (apply q_asB <;> apply Eq.refl) | (apply q_not <;> apply Eq.refl) | (apply q_ldr <;> apply Eq.refl) | (apply q_arith <;> (first | apply Eq.refl | omega)) | (apply q_len <;> apply Eq.refl) | (apply q_ext <;> apply Eq.refl) | (apply q_pkT <;> apply Eq.refl) | (apply q_pkF <;> apply Eq.refl) | (apply q_ia <;> (first | apply Eq.refl | omega)) | (apply q_ldba <;> apply Eq.refl) | (apply q_ldra <;> apply Eq.refl) | (apply q_bld <;> apply Eq.refl) | (apply q_mvS <;> apply Eq.refl) | (apply q_mvO <;> apply Eq.refl) | (apply q_asO <;> apply Eq.refl) | (apply q_asN <;> apply Eq.refl) | (apply q_blda <;> apply Eq.refl) | (apply q_mvT <;> apply Eq.refl) | (apply q_iar; apply Eq.refl; apply Eq.refl; apply Eq.refl; (first | omega | decide); apply Eq.refl; apply Eq.refl; (first | omega | decide); apply Eq.refl; apply Eq.refl) | (apply q_iab; apply Eq.refl; apply Eq.refl; apply Eq.refl; apply Eq.refl; (first | omega | decide); apply Eq.refl; apply Eq.refl; (first | omega | decide); apply Eq.refl; apply Eq.refl)))
    | apply W_seq
    | apply W_region
    | apply T_normal
    | apply WL_nil
    | apply T_exit
    | apply T_ret
    | apply B_normal
    | apply B_ret
    | apply B_exit_eq
    | apply W_skip
    | apply W_exit
    | apply W_ret
    | apply W_block
    | (apply W_condT; apply Eq.refl)
    | (apply W_condF; apply Eq.refl)
    | (apply WL_n; apply Eq.refl; (first | (apply n_boxa <;> apply Eq.refl) | (apply n_alloc <;> apply Eq.refl) | (apply n_stb <;> apply Eq.refl)))
    | (apply WL_yes; apply Eq.refl; apply Eq.refl; apply Eq.refl)
    | (apply WL_no; apply Eq.refl; apply Eq.refl; apply Eq.refl; apply Eq.refl; apply Eq.refl)
    | (apply L_tN; apply Eq.refl; apply Eq.refl; apply Eq.refl; intro _; rotate_left 1; intro _; rotate_left 1)
    | apply W_regionG
    | (apply WG_nil; kernel_rfl)
    | (apply WG_q; (first | (apply want_none; apply Eq.refl) | (apply want_some; apply Eq.refl; apply Eq.refl; apply Eq.refl)); apply Eq.refl; first | (apply fq_bld <;> apply Eq.refl) | (apply fq_blda <;> apply Eq.refl) | (apply fq_fn; apply Eq.refl) | (apply fq_mf; apply Eq.refl) | (apply FQ_intro; intro _; (first | (apply q_mvI <;> apply Eq.refl) | (apply q_asI <;> apply Eq.refl) | (apply q_ldb <;> apply Eq.refl) | (apply q_fab <;> apply Eq.refl) | (apply q_cmp <;> apply Eq.refl) | (apply q_mvB <;> apply Eq.refl) | (apply q_asB <;> apply Eq.refl) | (apply q_not <;> apply Eq.refl) | (apply q_ldr <;> apply Eq.refl) | (apply q_arith <;> (first | apply Eq.refl | omega)) | (apply q_len <;> apply Eq.refl) | (apply q_ext <;> apply Eq.refl) | (apply q_pkT <;> apply Eq.refl) | (apply q_pkF <;> apply Eq.refl) | (apply q_ia <;> (first | apply Eq.refl | omega)) | (apply q_ldba <;> apply Eq.refl) | (apply q_ldra <;> apply Eq.refl) | (apply q_bld <;> apply Eq.refl) | (apply q_mvS <;> apply Eq.refl) | (apply q_mvO <;> apply Eq.refl) | (apply q_asO <;> apply Eq.refl) | (apply q_asN <;> apply Eq.refl) | (apply q_blda <;> apply Eq.refl) | (apply q_mvT <;> apply Eq.refl) | (apply q_iar; apply Eq.refl; apply Eq.refl; apply Eq.refl; (first | omega | decide); apply Eq.refl; apply Eq.refl; (first | omega | decide); apply Eq.refl; apply Eq.refl) | (apply q_iab; apply Eq.refl; apply Eq.refl; apply Eq.refl; apply Eq.refl; (first | omega | decide); apply Eq.refl; apply Eq.refl; (first | omega | decide); apply Eq.refl; apply Eq.refl))))
    | (apply WG_n; (first | (apply want_none; apply Eq.refl) | (apply want_some; apply Eq.refl; apply Eq.refl; apply Eq.refl)); (first | (apply f_alloc <;> apply Eq.refl) | (apply f_stb <;> apply Eq.refl) | (apply f_bsl <;> apply Eq.refl)))
    | (apply W_cD; apply Eq.refl; intro _; rotate_left 1; intro _; rotate_left 1)
    | (apply W_cND; apply Eq.refl; intro _; rotate_left 1; intro _; rotate_left 1)
    | (apply W_cN; apply Eq.refl; intro _; rotate_left 1; intro _; rotate_left 1)
    | (apply W_cond; apply Eq.refl; intro _; rotate_left 1; intro _; rotate_left 1))
  rotate_left 1
  · have := firstS_end hi2 (by omega)
    exact ⟨m + 1, ⟨by omega, firstS_next hm2 hmlt this⟩, by omega, (by apply reach_now; refine ⟨?_, ?_, ?_, ?_, ?_⟩ <;> repeat' (first | exact trivial | apply And.intro | apply Eq.refl | (apply toI; apply Eq.refl; first | omega | assumption) | (apply toB; apply Eq.refl; repeat' (first | apply Eq.refl | apply consS | (apply consI; first | apply Eq.refl | omega | assumption)))))⟩
  have hilt : i < c.trucks.length := by omega
  refine W_loopR [1, 2, 5, 6, 9, 10, 11] [1, 9] (fun k : Nat => [(3, .int .i64 0), (12, .int .i64 k)]) (fun k => [(2, 1)]) (fun k => [(2, .box (encMeeting default))])
      (fun k => i + 1 ≤ k ∧ k ≤ c.trucks.length ∧ firstS (pairM c m i) (c.trucks.length - k) k = srchK c m i) (fun k => c.trucks.length - k) (i + 1) ⟨Nat.le_refl _, by omega, by unfold srchK; rfl⟩ (by refine ⟨?_, ?_, ?_⟩ <;> repeat' (first | exact trivial | apply And.intro | apply Eq.refl | (apply toI; apply Eq.refl; first | omega | assumption) | (apply toB; apply Eq.refl; repeat' (first | apply Eq.refl | apply consS | (apply consI; first | apply Eq.refl | omega | assumption))))) (fun k h3 hk => ?_)
  obtain ⟨hk0, hk1, hk2⟩ := hk
  repeat' (first
    | (apply WL_q; apply Eq.refl; apply Eq.refl; (first | (apply q_mvI <;> apply Eq.refl) | (apply q_asI <;> apply Eq.refl) | (apply q_ldb <;> apply Eq.refl) | (apply q_fab <;> apply Eq.refl) | (apply q_cmp <;> apply Eq.refl) | (apply q_mvB <;> apply Eq.refl) | (apply q_asB <;> apply Eq.refl) | (apply q_not <;> apply Eq.refl) | (apply q_ldr <;> apply Eq.refl) | (apply q_arith <;> (first | apply Eq.refl | omega)) | (apply q_len <;> apply Eq.refl) | (apply q_ext <;> apply Eq.refl) | (apply q_pkT <;> apply Eq.refl) | (apply q_pkF <;> apply Eq.refl) | (apply q_ia <;> (first | apply Eq.refl | omega)) | (apply q_ldba <;> apply Eq.refl) | (apply q_ldra <;> apply Eq.refl) | (apply q_bld <;> apply Eq.refl) | (apply q_mvS <;> apply Eq.refl) | (apply q_mvO <;> apply Eq.refl) | (apply q_asO <;> apply Eq.refl) | (apply q_asN <;> apply Eq.refl) | (apply q_blda <;> apply Eq.refl) | (apply q_mvT <;> apply Eq.refl) | (apply q_iar; apply Eq.refl; apply Eq.refl; apply Eq.refl; (first | omega | decide); apply Eq.refl; apply Eq.refl; (first | omega | decide); apply Eq.refl; apply Eq.refl) | (apply q_iab; apply Eq.refl; apply Eq.refl; apply Eq.refl; apply Eq.refl; (first | omega | decide); apply Eq.refl; apply Eq.refl; (first | omega | decide); apply Eq.refl; apply Eq.refl)))
    | apply W_seq
    | apply W_region
    | apply T_normal
    | apply WL_nil
    | apply T_exit
    | apply T_ret
    | apply B_normal
    | apply B_ret
    | apply B_exit_eq
    | apply W_skip
    | apply W_exit
    | apply W_ret
    | apply W_block
    | (apply W_condT; apply Eq.refl)
    | (apply W_condF; apply Eq.refl)
    | (apply WL_n; apply Eq.refl; (first | (apply n_boxa <;> apply Eq.refl) | (apply n_alloc <;> apply Eq.refl) | (apply n_stb <;> apply Eq.refl)))
    | (apply WL_yes; apply Eq.refl; apply Eq.refl; apply Eq.refl)
    | (apply WL_no; apply Eq.refl; apply Eq.refl; apply Eq.refl; apply Eq.refl; apply Eq.refl)
    | (apply L_tN; apply Eq.refl; apply Eq.refl; apply Eq.refl; intro _; rotate_left 1; intro _; rotate_left 1)
    | apply W_regionG
    | (apply WG_nil; kernel_rfl)
    | (apply WG_q; (first | (apply want_none; apply Eq.refl) | (apply want_some; apply Eq.refl; apply Eq.refl; apply Eq.refl)); apply Eq.refl; first | (apply fq_bld <;> apply Eq.refl) | (apply fq_blda <;> apply Eq.refl) | (apply fq_fn; apply Eq.refl) | (apply fq_mf; apply Eq.refl) | (apply FQ_intro; intro _; (first | (apply q_mvI <;> apply Eq.refl) | (apply q_asI <;> apply Eq.refl) | (apply q_ldb <;> apply Eq.refl) | (apply q_fab <;> apply Eq.refl) | (apply q_cmp <;> apply Eq.refl) | (apply q_mvB <;> apply Eq.refl) | (apply q_asB <;> apply Eq.refl) | (apply q_not <;> apply Eq.refl) | (apply q_ldr <;> apply Eq.refl) | (apply q_arith <;> (first | apply Eq.refl | omega)) | (apply q_len <;> apply Eq.refl) | (apply q_ext <;> apply Eq.refl) | (apply q_pkT <;> apply Eq.refl) | (apply q_pkF <;> apply Eq.refl) | (apply q_ia <;> (first | apply Eq.refl | omega)) | (apply q_ldba <;> apply Eq.refl) | (apply q_ldra <;> apply Eq.refl) | (apply q_bld <;> apply Eq.refl) | (apply q_mvS <;> apply Eq.refl) | (apply q_mvO <;> apply Eq.refl) | (apply q_asO <;> apply Eq.refl) | (apply q_asN <;> apply Eq.refl) | (apply q_blda <;> apply Eq.refl) | (apply q_mvT <;> apply Eq.refl) | (apply q_iar; apply Eq.refl; apply Eq.refl; apply Eq.refl; (first | omega | decide); apply Eq.refl; apply Eq.refl; (first | omega | decide); apply Eq.refl; apply Eq.refl) | (apply q_iab; apply Eq.refl; apply Eq.refl; apply Eq.refl; apply Eq.refl; (first | omega | decide); apply Eq.refl; apply Eq.refl; (first | omega | decide); apply Eq.refl; apply Eq.refl))))
    | (apply WG_n; (first | (apply want_none; apply Eq.refl) | (apply want_some; apply Eq.refl; apply Eq.refl; apply Eq.refl)); (first | (apply f_alloc <;> apply Eq.refl) | (apply f_stb <;> apply Eq.refl) | (apply f_bsl <;> apply Eq.refl)))
    | (apply W_cD; apply Eq.refl; intro _; rotate_left 1; intro _; rotate_left 1)
    | (apply W_cND; apply Eq.refl; intro _; rotate_left 1; intro _; rotate_left 1)
    | (apply W_cN; apply Eq.refl; intro _; rotate_left 1; intro _; rotate_left 1)
    | (apply W_cond; apply Eq.refl; intro _; rotate_left 1; intro _; rotate_left 1))
  rotate_left 1
  · have := firstS_end hk2 (by omega)
    exact ⟨i + 1, ⟨by omega, firstS_next hi2 hilt this⟩, by omega, (by apply reach_now; refine ⟨?_, ?_, ?_, ?_, ?_⟩ <;> repeat' (first | exact trivial | apply And.intro | apply Eq.refl | (apply toI; apply Eq.refl; first | omega | assumption) | (apply toB; apply Eq.refl; repeat' (first | apply Eq.refl | apply consS | (apply consI; first | apply Eq.refl | omega | assumption)))))⟩
  have hklt : k < c.trucks.length := by omega
  have hp : pairM c m i k = (meetC c.gap c.fails (c.trucks.getD i default) (c.trucks.getD k default) c.len m caseL).map fun x => { x with i := i, k := k } := by unfold pairM; rfl
  have hT := hc.r i hilt
  have hU := hc.r k hklt
  have hg : 1 ≤ c.gap := hc.ok.g1
  have hg2 : c.gap ≤ 100000 := hc.ok.g2
  refine W_loopM (α := Nat) (fun n => [(1, .bx 1 1 0), (2, .bx 2 1 0), (3, .int .i64 0), (5, .int .i64 (lastP c : Nat)), (6, .sl 2 c.trucks.length (fun i => [slW (c.trucks.getD i default) c.len (lastP c), slW (freeT (c.trucks.getD i default) true) c.len (lastP c)])), (9, .bx 9 (h 9 + 1) 0), (10, .int .i64 m), (11, .int .i64 i), (12, .int .i64 k), (13, .int .i64 n)]) (fun _ => [(1, 1), (2, 1), (9, h 9 + 1)])
      (fun _ => [(1, .box (encConvoy c)), (2, .box (encMeeting default)), (9, .box [.int .i64 0, .int .i64 0, .int .i64 1, .int .i64 0, .int .i64 0, .int .i64 1, .int .i64 1, .int .i64 1])])
      (fun n => n ≤ 4 ∧ meetC c.gap c.fails (c.trucks.getD i default) (c.trucks.getD k default) c.len m (caseL.drop n) = meetC c.gap c.fails (c.trucks.getD i default) (c.trucks.getD k default) c.len m caseL) (fun n => 4 - n) 0 ⟨Nat.zero_le _, rfl⟩ (by refine ⟨?_, ?_, ?_⟩ <;> repeat' (first | exact trivial | apply And.intro | apply Eq.refl)) (fun n h4 hn' => ?_)
  obtain ⟨hn4, hi⟩ := hn'
  have cA : ∀ b : Bool, Contract seat 74 [.agg (encConvoy c), .agg (encTruck (freeT (c.trucks.getD i default) b)), .agg (encSpan (wayR (freeT (c.trucks.getD i default) b) c.len m)), .int .i64 m]
      (.tup [.agg (encSpan (onlaneR (freeT (c.trucks.getD i default) b) c.len (wayR (freeT (c.trucks.getD i default) b) c.len m) m).1), .bool (onlaneR (freeT (c.trucks.getD i default) b) c.len (wayR (freeT (c.trucks.getD i default) b) c.len m) m).2]) := fun b => by
    have h := hT.free b
    obtain ⟨b1, b2, b3, _⟩ := way_bnds h (m := m)
    have := h.l2
    exact c74 c _ _ m h.l1 h.l2 h.ho (by omega) (by omega)
  have cB : ∀ b : Bool, Contract seat 74 [.agg (encConvoy c), .agg (encTruck (freeT (c.trucks.getD k default) b)), .agg (encSpan (wayR (freeT (c.trucks.getD k default) b) c.len m)), .int .i64 m]
      (.tup [.agg (encSpan (onlaneR (freeT (c.trucks.getD k default) b) c.len (wayR (freeT (c.trucks.getD k default) b) c.len m) m).1), .bool (onlaneR (freeT (c.trucks.getD k default) b) c.len (wayR (freeT (c.trucks.getD k default) b) c.len m) m).2]) := fun b => by
    have h := hU.free b
    obtain ⟨b1, b2, b3, _⟩ := way_bnds h (m := m)
    have := h.l2
    exact c74 c _ _ m h.l1 h.l2 h.ho (by omega) (by omega)
  have cC : ∀ b : Bool, Contract seat 76 [.agg (encConvoy c), .agg (encTruck (freeT (c.trucks.getD i default) b)), .agg (encSpan (onlaneR (freeT (c.trucks.getD i default) b) c.len (wayR (freeT (c.trucks.getD i default) b) c.len m) m).1)]
      (.agg (encSpan (roadR (freeT (c.trucks.getD i default) b).way c.len (onlaneR (freeT (c.trucks.getD i default) b) c.len (wayR (freeT (c.trucks.getD i default) b) c.len m) m).1))) := fun b => by
    obtain ⟨⟨b1, b2⟩, b3, b4⟩ := onlane_bnd (hT.free b) (m := m)
    exact c76 c _ _ (by omega) (by omega) (by omega) (by omega) hT.l1 hT.l2
  have cD : ∀ b : Bool, Contract seat 76 [.agg (encConvoy c), .agg (encTruck (freeT (c.trucks.getD k default) b)), .agg (encSpan (onlaneR (freeT (c.trucks.getD k default) b) c.len (wayR (freeT (c.trucks.getD k default) b) c.len m) m).1)]
      (.agg (encSpan (roadR (freeT (c.trucks.getD k default) b).way c.len (onlaneR (freeT (c.trucks.getD k default) b) c.len (wayR (freeT (c.trucks.getD k default) b) c.len m) m).1))) := fun b => by
    obtain ⟨⟨b1, b2⟩, b3, b4⟩ := onlane_bnd (hU.free b) (m := m)
    exact c76 c _ _ (by omega) (by omega) (by omega) (by omega) hT.l1 hT.l2
  have cE : ∀ b b' : Bool, Contract seat 75 [.agg (encSpan (roadR (freeT (c.trucks.getD i default) b).way c.len (onlaneR (freeT (c.trucks.getD i default) b) c.len (wayR (freeT (c.trucks.getD i default) b) c.len m) m).1)), .agg (encSpan (roadR (freeT (c.trucks.getD k default) b').way c.len (onlaneR (freeT (c.trucks.getD k default) b') c.len (wayR (freeT (c.trucks.getD k default) b') c.len m) m).1)), .int .i64 c.gap] _ := fun b b' => by
    obtain ⟨x1, x2⟩ := onlane_bnd (hT.free b) (m := m)
    obtain ⟨y1, y2⟩ := onlane_bnd (hU.free b') (m := m)
    have r1 := road_bnd (way := (freeT (c.trucks.getD i default) b).way) x1 x2 hT.l1 hT.l2
    have r2 := road_bnd (way := (freeT (c.trucks.getD k default) b').way) y1 y2 hT.l1 hT.l2
    exact c75 _ _ c.gap r1.1 r1.2 r2.1 r2.2 (by omega) hg2
  obtain rfl | rfl | rfl | rfl | rfl : n = 0 ∨ n = 1 ∨ n = 2 ∨ n = 3 ∨ n = 4 := by omega
  · repeat' (first
    | (apply WL_q; apply Eq.refl; apply Eq.refl; (first | (apply q_mvI <;> apply Eq.refl) | (apply q_asI <;> apply Eq.refl) | (apply q_ldb <;> apply Eq.refl) | (apply q_fab <;> apply Eq.refl) | (apply q_cmp <;> apply Eq.refl) | (apply q_mvB <;> apply Eq.refl) | (apply q_asB <;> apply Eq.refl) | (apply q_not <;> apply Eq.refl) | (apply q_ldr <;> apply Eq.refl) | (apply q_arith <;> (first | apply Eq.refl | omega)) | (apply q_len <;> apply Eq.refl) | (apply q_ext <;> apply Eq.refl) | (apply q_pkT <;> apply Eq.refl) | (apply q_pkF <;> apply Eq.refl) | (apply q_ia <;> (first | apply Eq.refl | omega)) | (apply q_ldba <;> apply Eq.refl) | (apply q_ldra <;> apply Eq.refl) | (apply q_bld <;> apply Eq.refl) | (apply q_mvS <;> apply Eq.refl) | (apply q_mvO <;> apply Eq.refl) | (apply q_asO <;> apply Eq.refl) | (apply q_asN <;> apply Eq.refl) | (apply q_blda <;> apply Eq.refl) | (apply q_mvT <;> apply Eq.refl) | (apply q_iar; apply Eq.refl; apply Eq.refl; apply Eq.refl; (first | omega | decide); apply Eq.refl; apply Eq.refl; (first | omega | decide); apply Eq.refl; apply Eq.refl) | (apply q_iab; apply Eq.refl; apply Eq.refl; apply Eq.refl; apply Eq.refl; (first | omega | decide); apply Eq.refl; apply Eq.refl; (first | omega | decide); apply Eq.refl; apply Eq.refl)))
    | apply W_seq
    | apply W_region
    | apply T_normal
    | apply WL_nil
    | apply T_exit
    | apply T_ret
    | apply B_normal
    | apply B_ret
    | apply B_exit_eq
    | apply W_skip
    | apply W_exit
    | apply W_ret
    | apply W_block
    | (apply W_condT; apply Eq.refl)
    | (apply W_condF; apply Eq.refl)
    | (apply WL_call; apply Eq.refl; apply Eq.refl; rotate_left 1; apply Eq.refl; rotate_right 1; exact (c73 (c.trucks.getD i default) false); apply Eq.refl)
    | (apply WL_call; apply Eq.refl; apply Eq.refl; rotate_left 1; apply Eq.refl; rotate_right 1; exact (c73 (c.trucks.getD k default) false); apply Eq.refl)
    | (apply WL_call; apply Eq.refl; apply Eq.refl; rotate_left 1; apply Eq.refl; rotate_right 1; exact (cA false); apply Eq.refl)
    | (apply WL_call; apply Eq.refl; apply Eq.refl; rotate_left 1; apply Eq.refl; rotate_right 1; exact (cB false); apply Eq.refl)
    | (apply WL_call; apply Eq.refl; apply Eq.refl; rotate_left 1; apply Eq.refl; rotate_right 1; exact (cC false); apply Eq.refl)
    | (apply WL_call; apply Eq.refl; apply Eq.refl; rotate_left 1; apply Eq.refl; rotate_right 1; exact (cD false); apply Eq.refl)
    | (apply WL_call; apply Eq.refl; apply Eq.refl; rotate_left 1; apply Eq.refl; rotate_right 1; exact (cE false false); apply Eq.refl)
    | (apply WL_n; apply Eq.refl; (first | (apply n_boxa <;> apply Eq.refl) | (apply n_alloc <;> apply Eq.refl) | (apply n_stb <;> apply Eq.refl)))
    | (apply WL_yes; apply Eq.refl; apply Eq.refl; apply Eq.refl)
    | (apply WL_no; apply Eq.refl; apply Eq.refl; apply Eq.refl; apply Eq.refl; apply Eq.refl)
    | (apply L_tN; apply Eq.refl; apply Eq.refl; apply Eq.refl; intro _; rotate_left 1; intro _; rotate_left 1)
    | apply W_regionG
    | (apply WG_nil; kernel_rfl)
    | (apply WG_q; (first | (apply want_none; apply Eq.refl) | (apply want_some; apply Eq.refl; apply Eq.refl; apply Eq.refl)); apply Eq.refl; first | (apply fq_bld <;> apply Eq.refl) | (apply fq_blda <;> apply Eq.refl) | (apply fq_fn; apply Eq.refl) | (apply fq_mf; apply Eq.refl) | (apply FQ_intro; intro _; (first | (apply q_mvI <;> apply Eq.refl) | (apply q_asI <;> apply Eq.refl) | (apply q_ldb <;> apply Eq.refl) | (apply q_fab <;> apply Eq.refl) | (apply q_cmp <;> apply Eq.refl) | (apply q_mvB <;> apply Eq.refl) | (apply q_asB <;> apply Eq.refl) | (apply q_not <;> apply Eq.refl) | (apply q_ldr <;> apply Eq.refl) | (apply q_arith <;> (first | apply Eq.refl | omega)) | (apply q_len <;> apply Eq.refl) | (apply q_ext <;> apply Eq.refl) | (apply q_pkT <;> apply Eq.refl) | (apply q_pkF <;> apply Eq.refl) | (apply q_ia <;> (first | apply Eq.refl | omega)) | (apply q_ldba <;> apply Eq.refl) | (apply q_ldra <;> apply Eq.refl) | (apply q_bld <;> apply Eq.refl) | (apply q_mvS <;> apply Eq.refl) | (apply q_mvO <;> apply Eq.refl) | (apply q_asO <;> apply Eq.refl) | (apply q_asN <;> apply Eq.refl) | (apply q_blda <;> apply Eq.refl) | (apply q_mvT <;> apply Eq.refl) | (apply q_iar; apply Eq.refl; apply Eq.refl; apply Eq.refl; (first | omega | decide); apply Eq.refl; apply Eq.refl; (first | omega | decide); apply Eq.refl; apply Eq.refl) | (apply q_iab; apply Eq.refl; apply Eq.refl; apply Eq.refl; apply Eq.refl; (first | omega | decide); apply Eq.refl; apply Eq.refl; (first | omega | decide); apply Eq.refl; apply Eq.refl))))
    | (apply WG_call; (first | (apply want_none; apply Eq.refl) | (apply want_some; apply Eq.refl; apply Eq.refl; apply Eq.refl)); apply Eq.refl; apply Eq.refl; apply Eq.refl; exact (c73 (c.trucks.getD i default) false))
    | (apply WG_call; (first | (apply want_none; apply Eq.refl) | (apply want_some; apply Eq.refl; apply Eq.refl; apply Eq.refl)); apply Eq.refl; apply Eq.refl; apply Eq.refl; exact (c73 (c.trucks.getD k default) false))
    | (apply WG_call; (first | (apply want_none; apply Eq.refl) | (apply want_some; apply Eq.refl; apply Eq.refl; apply Eq.refl)); apply Eq.refl; apply Eq.refl; apply Eq.refl; exact (cA false))
    | (apply WG_call; (first | (apply want_none; apply Eq.refl) | (apply want_some; apply Eq.refl; apply Eq.refl; apply Eq.refl)); apply Eq.refl; apply Eq.refl; apply Eq.refl; exact (cB false))
    | (apply WG_call; (first | (apply want_none; apply Eq.refl) | (apply want_some; apply Eq.refl; apply Eq.refl; apply Eq.refl)); apply Eq.refl; apply Eq.refl; apply Eq.refl; exact (cC false))
    | (apply WG_call; (first | (apply want_none; apply Eq.refl) | (apply want_some; apply Eq.refl; apply Eq.refl; apply Eq.refl)); apply Eq.refl; apply Eq.refl; apply Eq.refl; exact (cD false))
    | (apply WG_call; (first | (apply want_none; apply Eq.refl) | (apply want_some; apply Eq.refl; apply Eq.refl; apply Eq.refl)); apply Eq.refl; apply Eq.refl; apply Eq.refl; exact (cE false false))
    | (apply WG_n; (first | (apply want_none; apply Eq.refl) | (apply want_some; apply Eq.refl; apply Eq.refl; apply Eq.refl)); (first | (apply f_alloc <;> apply Eq.refl) | (apply f_stb <;> apply Eq.refl) | (apply f_bsl <;> apply Eq.refl)))
    | (apply W_cD; apply Eq.refl; intro _; rotate_left 1; intro _; rotate_left 1)
    | (apply W_cND; apply Eq.refl; intro _; rotate_left 1; intro _; rotate_left 1)
    | (apply W_cN; apply Eq.refl; intro _; rotate_left 1; intro _; rotate_left 1)
    | (apply W_cond; apply Eq.refl; intro _; rotate_left 1; intro _; rotate_left 1))
    · rename_i a1
      exact ⟨1, ⟨by omega, meet_skip hi a1⟩, by omega, (by refine ⟨?_, ?_, ?_⟩ <;> repeat' (first | exact trivial | apply And.intro | apply Eq.refl))⟩
    · rename_i a1 a2
      exact ⟨1, ⟨by omega, meet_next hi a1 (by rw [← nearC_eq hT hU hg m (false, false), nearQ_no1 a2])⟩, by omega, (by refine ⟨?_, ?_, ?_⟩ <;> repeat' (first | exact trivial | apply And.intro | apply Eq.refl))⟩
    · rename_i a1 a2 a3
      exact ⟨1, ⟨by omega, meet_next hi a1 (by rw [← nearC_eq hT hU hg m (false, false)]; exact nearQ_no2 a3)⟩, by omega, (by refine ⟨?_, ?_, ?_⟩ <;> repeat' (first | exact trivial | apply And.intro | apply Eq.refl))⟩
    · rename_i a1 a2 a3 a4
      have e := nearC_eq hT hU hg m (false, false)
      rw [nearQ_yes a2 a3] at e
      have hM := meet_hit hi a1 (by rw [← e]; exact a4)
      rw [← e] at hM
      rw [hM] at hp
      rw [firstS_hit hm2 hmlt (firstS_hit hi2 hilt (firstS_hit hk2 hklt hp))]
      ((try apply fin_now); first | (focus (apply fin_2; apply Eq.refl; (first | (apply rv_I; apply Eq.refl) | (apply rv_A <;> apply Eq.refl)); (first | (apply rv_I; apply Eq.refl) | (apply rv_A <;> apply Eq.refl)); all_goals try apply Eq.refl)))
    · rename_i a1 a2 a3 a4
      have e := nearC_eq hT hU hg m (false, false)
      rw [nearQ_yes a2 a3] at e
      exact ⟨1, ⟨by omega, meet_next hi a1 (by rw [← e]; exact a4)⟩, by omega, (by refine ⟨?_, ?_, ?_⟩ <;> repeat' (first | exact trivial | apply And.intro | apply Eq.refl))⟩
  · repeat' (first
    | (apply WL_q; apply Eq.refl; apply Eq.refl; (first | (apply q_mvI <;> apply Eq.refl) | (apply q_asI <;> apply Eq.refl) | (apply q_ldb <;> apply Eq.refl) | (apply q_fab <;> apply Eq.refl) | (apply q_cmp <;> apply Eq.refl) | (apply q_mvB <;> apply Eq.refl) | (apply q_asB <;> apply Eq.refl) | (apply q_not <;> apply Eq.refl) | (apply q_ldr <;> apply Eq.refl) | (apply q_arith <;> (first | apply Eq.refl | omega)) | (apply q_len <;> apply Eq.refl) | (apply q_ext <;> apply Eq.refl) | (apply q_pkT <;> apply Eq.refl) | (apply q_pkF <;> apply Eq.refl) | (apply q_ia <;> (first | apply Eq.refl | omega)) | (apply q_ldba <;> apply Eq.refl) | (apply q_ldra <;> apply Eq.refl) | (apply q_bld <;> apply Eq.refl) | (apply q_mvS <;> apply Eq.refl) | (apply q_mvO <;> apply Eq.refl) | (apply q_asO <;> apply Eq.refl) | (apply q_asN <;> apply Eq.refl) | (apply q_blda <;> apply Eq.refl) | (apply q_mvT <;> apply Eq.refl) | (apply q_iar; apply Eq.refl; apply Eq.refl; apply Eq.refl; (first | omega | decide); apply Eq.refl; apply Eq.refl; (first | omega | decide); apply Eq.refl; apply Eq.refl) | (apply q_iab; apply Eq.refl; apply Eq.refl; apply Eq.refl; apply Eq.refl; (first | omega | decide); apply Eq.refl; apply Eq.refl; (first | omega | decide); apply Eq.refl; apply Eq.refl)))
    | apply W_seq
    | apply W_region
    | apply T_normal
    | apply WL_nil
    | apply T_exit
    | apply T_ret
    | apply B_normal
    | apply B_ret
    | apply B_exit_eq
    | apply W_skip
    | apply W_exit
    | apply W_ret
    | apply W_block
    | (apply W_condT; apply Eq.refl)
    | (apply W_condF; apply Eq.refl)
    | (apply WL_call; apply Eq.refl; apply Eq.refl; rotate_left 1; apply Eq.refl; rotate_right 1; exact (c73 (c.trucks.getD i default) true); apply Eq.refl)
    | (apply WL_call; apply Eq.refl; apply Eq.refl; rotate_left 1; apply Eq.refl; rotate_right 1; exact (c73 (c.trucks.getD k default) false); apply Eq.refl)
    | (apply WL_call; apply Eq.refl; apply Eq.refl; rotate_left 1; apply Eq.refl; rotate_right 1; exact (cA true); apply Eq.refl)
    | (apply WL_call; apply Eq.refl; apply Eq.refl; rotate_left 1; apply Eq.refl; rotate_right 1; exact (cB false); apply Eq.refl)
    | (apply WL_call; apply Eq.refl; apply Eq.refl; rotate_left 1; apply Eq.refl; rotate_right 1; exact (cC true); apply Eq.refl)
    | (apply WL_call; apply Eq.refl; apply Eq.refl; rotate_left 1; apply Eq.refl; rotate_right 1; exact (cD false); apply Eq.refl)
    | (apply WL_call; apply Eq.refl; apply Eq.refl; rotate_left 1; apply Eq.refl; rotate_right 1; exact (cE true false); apply Eq.refl)
    | (apply WL_n; apply Eq.refl; (first | (apply n_boxa <;> apply Eq.refl) | (apply n_alloc <;> apply Eq.refl) | (apply n_stb <;> apply Eq.refl)))
    | (apply WL_yes; apply Eq.refl; apply Eq.refl; apply Eq.refl)
    | (apply WL_no; apply Eq.refl; apply Eq.refl; apply Eq.refl; apply Eq.refl; apply Eq.refl)
    | (apply L_tN; apply Eq.refl; apply Eq.refl; apply Eq.refl; intro _; rotate_left 1; intro _; rotate_left 1)
    | apply W_regionG
    | (apply WG_nil; kernel_rfl)
    | (apply WG_q; (first | (apply want_none; apply Eq.refl) | (apply want_some; apply Eq.refl; apply Eq.refl; apply Eq.refl)); apply Eq.refl; first | (apply fq_bld <;> apply Eq.refl) | (apply fq_blda <;> apply Eq.refl) | (apply fq_fn; apply Eq.refl) | (apply fq_mf; apply Eq.refl) | (apply FQ_intro; intro _; (first | (apply q_mvI <;> apply Eq.refl) | (apply q_asI <;> apply Eq.refl) | (apply q_ldb <;> apply Eq.refl) | (apply q_fab <;> apply Eq.refl) | (apply q_cmp <;> apply Eq.refl) | (apply q_mvB <;> apply Eq.refl) | (apply q_asB <;> apply Eq.refl) | (apply q_not <;> apply Eq.refl) | (apply q_ldr <;> apply Eq.refl) | (apply q_arith <;> (first | apply Eq.refl | omega)) | (apply q_len <;> apply Eq.refl) | (apply q_ext <;> apply Eq.refl) | (apply q_pkT <;> apply Eq.refl) | (apply q_pkF <;> apply Eq.refl) | (apply q_ia <;> (first | apply Eq.refl | omega)) | (apply q_ldba <;> apply Eq.refl) | (apply q_ldra <;> apply Eq.refl) | (apply q_bld <;> apply Eq.refl) | (apply q_mvS <;> apply Eq.refl) | (apply q_mvO <;> apply Eq.refl) | (apply q_asO <;> apply Eq.refl) | (apply q_asN <;> apply Eq.refl) | (apply q_blda <;> apply Eq.refl) | (apply q_mvT <;> apply Eq.refl) | (apply q_iar; apply Eq.refl; apply Eq.refl; apply Eq.refl; (first | omega | decide); apply Eq.refl; apply Eq.refl; (first | omega | decide); apply Eq.refl; apply Eq.refl) | (apply q_iab; apply Eq.refl; apply Eq.refl; apply Eq.refl; apply Eq.refl; (first | omega | decide); apply Eq.refl; apply Eq.refl; (first | omega | decide); apply Eq.refl; apply Eq.refl))))
    | (apply WG_call; (first | (apply want_none; apply Eq.refl) | (apply want_some; apply Eq.refl; apply Eq.refl; apply Eq.refl)); apply Eq.refl; apply Eq.refl; apply Eq.refl; exact (c73 (c.trucks.getD i default) true))
    | (apply WG_call; (first | (apply want_none; apply Eq.refl) | (apply want_some; apply Eq.refl; apply Eq.refl; apply Eq.refl)); apply Eq.refl; apply Eq.refl; apply Eq.refl; exact (c73 (c.trucks.getD k default) false))
    | (apply WG_call; (first | (apply want_none; apply Eq.refl) | (apply want_some; apply Eq.refl; apply Eq.refl; apply Eq.refl)); apply Eq.refl; apply Eq.refl; apply Eq.refl; exact (cA true))
    | (apply WG_call; (first | (apply want_none; apply Eq.refl) | (apply want_some; apply Eq.refl; apply Eq.refl; apply Eq.refl)); apply Eq.refl; apply Eq.refl; apply Eq.refl; exact (cB false))
    | (apply WG_call; (first | (apply want_none; apply Eq.refl) | (apply want_some; apply Eq.refl; apply Eq.refl; apply Eq.refl)); apply Eq.refl; apply Eq.refl; apply Eq.refl; exact (cC true))
    | (apply WG_call; (first | (apply want_none; apply Eq.refl) | (apply want_some; apply Eq.refl; apply Eq.refl; apply Eq.refl)); apply Eq.refl; apply Eq.refl; apply Eq.refl; exact (cD false))
    | (apply WG_call; (first | (apply want_none; apply Eq.refl) | (apply want_some; apply Eq.refl; apply Eq.refl; apply Eq.refl)); apply Eq.refl; apply Eq.refl; apply Eq.refl; exact (cE true false))
    | (apply WG_n; (first | (apply want_none; apply Eq.refl) | (apply want_some; apply Eq.refl; apply Eq.refl; apply Eq.refl)); (first | (apply f_alloc <;> apply Eq.refl) | (apply f_stb <;> apply Eq.refl) | (apply f_bsl <;> apply Eq.refl)))
    | (apply W_cD; apply Eq.refl; intro _; rotate_left 1; intro _; rotate_left 1)
    | (apply W_cND; apply Eq.refl; intro _; rotate_left 1; intro _; rotate_left 1)
    | (apply W_cN; apply Eq.refl; intro _; rotate_left 1; intro _; rotate_left 1)
    | (apply W_cond; apply Eq.refl; intro _; rotate_left 1; intro _; rotate_left 1))
    · rename_i a1
      exact ⟨2, ⟨by omega, meet_skip hi a1⟩, by omega, (by refine ⟨?_, ?_, ?_⟩ <;> repeat' (first | exact trivial | apply And.intro | apply Eq.refl))⟩
    · rename_i a1 a2
      exact ⟨2, ⟨by omega, meet_next hi a1 (by rw [← nearC_eq hT hU hg m (true, false), nearQ_no1 a2])⟩, by omega, (by refine ⟨?_, ?_, ?_⟩ <;> repeat' (first | exact trivial | apply And.intro | apply Eq.refl))⟩
    · rename_i a1 a2 a3
      exact ⟨2, ⟨by omega, meet_next hi a1 (by rw [← nearC_eq hT hU hg m (true, false)]; exact nearQ_no2 a3)⟩, by omega, (by refine ⟨?_, ?_, ?_⟩ <;> repeat' (first | exact trivial | apply And.intro | apply Eq.refl))⟩
    · rename_i a1 a2 a3 a4
      have e := nearC_eq hT hU hg m (true, false)
      rw [nearQ_yes a2 a3] at e
      have hM := meet_hit hi a1 (by rw [← e]; exact a4)
      rw [← e] at hM
      rw [hM] at hp
      rw [firstS_hit hm2 hmlt (firstS_hit hi2 hilt (firstS_hit hk2 hklt hp))]
      ((try apply fin_now); first | (focus (apply fin_2; apply Eq.refl; (first | (apply rv_I; apply Eq.refl) | (apply rv_A <;> apply Eq.refl)); (first | (apply rv_I; apply Eq.refl) | (apply rv_A <;> apply Eq.refl)); all_goals try apply Eq.refl)))
    · rename_i a1 a2 a3 a4
      have e := nearC_eq hT hU hg m (true, false)
      rw [nearQ_yes a2 a3] at e
      exact ⟨2, ⟨by omega, meet_next hi a1 (by rw [← e]; exact a4)⟩, by omega, (by refine ⟨?_, ?_, ?_⟩ <;> repeat' (first | exact trivial | apply And.intro | apply Eq.refl))⟩
  · repeat' (first
    | (apply WL_q; apply Eq.refl; apply Eq.refl; (first | (apply q_mvI <;> apply Eq.refl) | (apply q_asI <;> apply Eq.refl) | (apply q_ldb <;> apply Eq.refl) | (apply q_fab <;> apply Eq.refl) | (apply q_cmp <;> apply Eq.refl) | (apply q_mvB <;> apply Eq.refl) | (apply q_asB <;> apply Eq.refl) | (apply q_not <;> apply Eq.refl) | (apply q_ldr <;> apply Eq.refl) | (apply q_arith <;> (first | apply Eq.refl | omega)) | (apply q_len <;> apply Eq.refl) | (apply q_ext <;> apply Eq.refl) | (apply q_pkT <;> apply Eq.refl) | (apply q_pkF <;> apply Eq.refl) | (apply q_ia <;> (first | apply Eq.refl | omega)) | (apply q_ldba <;> apply Eq.refl) | (apply q_ldra <;> apply Eq.refl) | (apply q_bld <;> apply Eq.refl) | (apply q_mvS <;> apply Eq.refl) | (apply q_mvO <;> apply Eq.refl) | (apply q_asO <;> apply Eq.refl) | (apply q_asN <;> apply Eq.refl) | (apply q_blda <;> apply Eq.refl) | (apply q_mvT <;> apply Eq.refl) | (apply q_iar; apply Eq.refl; apply Eq.refl; apply Eq.refl; (first | omega | decide); apply Eq.refl; apply Eq.refl; (first | omega | decide); apply Eq.refl; apply Eq.refl) | (apply q_iab; apply Eq.refl; apply Eq.refl; apply Eq.refl; apply Eq.refl; (first | omega | decide); apply Eq.refl; apply Eq.refl; (first | omega | decide); apply Eq.refl; apply Eq.refl)))
    | apply W_seq
    | apply W_region
    | apply T_normal
    | apply WL_nil
    | apply T_exit
    | apply T_ret
    | apply B_normal
    | apply B_ret
    | apply B_exit_eq
    | apply W_skip
    | apply W_exit
    | apply W_ret
    | apply W_block
    | (apply W_condT; apply Eq.refl)
    | (apply W_condF; apply Eq.refl)
    | (apply WL_call; apply Eq.refl; apply Eq.refl; rotate_left 1; apply Eq.refl; rotate_right 1; exact (c73 (c.trucks.getD i default) false); apply Eq.refl)
    | (apply WL_call; apply Eq.refl; apply Eq.refl; rotate_left 1; apply Eq.refl; rotate_right 1; exact (c73 (c.trucks.getD k default) true); apply Eq.refl)
    | (apply WL_call; apply Eq.refl; apply Eq.refl; rotate_left 1; apply Eq.refl; rotate_right 1; exact (cA false); apply Eq.refl)
    | (apply WL_call; apply Eq.refl; apply Eq.refl; rotate_left 1; apply Eq.refl; rotate_right 1; exact (cB true); apply Eq.refl)
    | (apply WL_call; apply Eq.refl; apply Eq.refl; rotate_left 1; apply Eq.refl; rotate_right 1; exact (cC false); apply Eq.refl)
    | (apply WL_call; apply Eq.refl; apply Eq.refl; rotate_left 1; apply Eq.refl; rotate_right 1; exact (cD true); apply Eq.refl)
    | (apply WL_call; apply Eq.refl; apply Eq.refl; rotate_left 1; apply Eq.refl; rotate_right 1; exact (cE false true); apply Eq.refl)
    | (apply WL_n; apply Eq.refl; (first | (apply n_boxa <;> apply Eq.refl) | (apply n_alloc <;> apply Eq.refl) | (apply n_stb <;> apply Eq.refl)))
    | (apply WL_yes; apply Eq.refl; apply Eq.refl; apply Eq.refl)
    | (apply WL_no; apply Eq.refl; apply Eq.refl; apply Eq.refl; apply Eq.refl; apply Eq.refl)
    | (apply L_tN; apply Eq.refl; apply Eq.refl; apply Eq.refl; intro _; rotate_left 1; intro _; rotate_left 1)
    | apply W_regionG
    | (apply WG_nil; kernel_rfl)
    | (apply WG_q; (first | (apply want_none; apply Eq.refl) | (apply want_some; apply Eq.refl; apply Eq.refl; apply Eq.refl)); apply Eq.refl; first | (apply fq_bld <;> apply Eq.refl) | (apply fq_blda <;> apply Eq.refl) | (apply fq_fn; apply Eq.refl) | (apply fq_mf; apply Eq.refl) | (apply FQ_intro; intro _; (first | (apply q_mvI <;> apply Eq.refl) | (apply q_asI <;> apply Eq.refl) | (apply q_ldb <;> apply Eq.refl) | (apply q_fab <;> apply Eq.refl) | (apply q_cmp <;> apply Eq.refl) | (apply q_mvB <;> apply Eq.refl) | (apply q_asB <;> apply Eq.refl) | (apply q_not <;> apply Eq.refl) | (apply q_ldr <;> apply Eq.refl) | (apply q_arith <;> (first | apply Eq.refl | omega)) | (apply q_len <;> apply Eq.refl) | (apply q_ext <;> apply Eq.refl) | (apply q_pkT <;> apply Eq.refl) | (apply q_pkF <;> apply Eq.refl) | (apply q_ia <;> (first | apply Eq.refl | omega)) | (apply q_ldba <;> apply Eq.refl) | (apply q_ldra <;> apply Eq.refl) | (apply q_bld <;> apply Eq.refl) | (apply q_mvS <;> apply Eq.refl) | (apply q_mvO <;> apply Eq.refl) | (apply q_asO <;> apply Eq.refl) | (apply q_asN <;> apply Eq.refl) | (apply q_blda <;> apply Eq.refl) | (apply q_mvT <;> apply Eq.refl) | (apply q_iar; apply Eq.refl; apply Eq.refl; apply Eq.refl; (first | omega | decide); apply Eq.refl; apply Eq.refl; (first | omega | decide); apply Eq.refl; apply Eq.refl) | (apply q_iab; apply Eq.refl; apply Eq.refl; apply Eq.refl; apply Eq.refl; (first | omega | decide); apply Eq.refl; apply Eq.refl; (first | omega | decide); apply Eq.refl; apply Eq.refl))))
    | (apply WG_call; (first | (apply want_none; apply Eq.refl) | (apply want_some; apply Eq.refl; apply Eq.refl; apply Eq.refl)); apply Eq.refl; apply Eq.refl; apply Eq.refl; exact (c73 (c.trucks.getD i default) false))
    | (apply WG_call; (first | (apply want_none; apply Eq.refl) | (apply want_some; apply Eq.refl; apply Eq.refl; apply Eq.refl)); apply Eq.refl; apply Eq.refl; apply Eq.refl; exact (c73 (c.trucks.getD k default) true))
    | (apply WG_call; (first | (apply want_none; apply Eq.refl) | (apply want_some; apply Eq.refl; apply Eq.refl; apply Eq.refl)); apply Eq.refl; apply Eq.refl; apply Eq.refl; exact (cA false))
    | (apply WG_call; (first | (apply want_none; apply Eq.refl) | (apply want_some; apply Eq.refl; apply Eq.refl; apply Eq.refl)); apply Eq.refl; apply Eq.refl; apply Eq.refl; exact (cB true))
    | (apply WG_call; (first | (apply want_none; apply Eq.refl) | (apply want_some; apply Eq.refl; apply Eq.refl; apply Eq.refl)); apply Eq.refl; apply Eq.refl; apply Eq.refl; exact (cC false))
    | (apply WG_call; (first | (apply want_none; apply Eq.refl) | (apply want_some; apply Eq.refl; apply Eq.refl; apply Eq.refl)); apply Eq.refl; apply Eq.refl; apply Eq.refl; exact (cD true))
    | (apply WG_call; (first | (apply want_none; apply Eq.refl) | (apply want_some; apply Eq.refl; apply Eq.refl; apply Eq.refl)); apply Eq.refl; apply Eq.refl; apply Eq.refl; exact (cE false true))
    | (apply WG_n; (first | (apply want_none; apply Eq.refl) | (apply want_some; apply Eq.refl; apply Eq.refl; apply Eq.refl)); (first | (apply f_alloc <;> apply Eq.refl) | (apply f_stb <;> apply Eq.refl) | (apply f_bsl <;> apply Eq.refl)))
    | (apply W_cD; apply Eq.refl; intro _; rotate_left 1; intro _; rotate_left 1)
    | (apply W_cND; apply Eq.refl; intro _; rotate_left 1; intro _; rotate_left 1)
    | (apply W_cN; apply Eq.refl; intro _; rotate_left 1; intro _; rotate_left 1)
    | (apply W_cond; apply Eq.refl; intro _; rotate_left 1; intro _; rotate_left 1))
    · rename_i a1
      exact ⟨3, ⟨by omega, meet_skip hi a1⟩, by omega, (by refine ⟨?_, ?_, ?_⟩ <;> repeat' (first | exact trivial | apply And.intro | apply Eq.refl))⟩
    · rename_i a1 a2
      exact ⟨3, ⟨by omega, meet_next hi a1 (by rw [← nearC_eq hT hU hg m (false, true), nearQ_no1 a2])⟩, by omega, (by refine ⟨?_, ?_, ?_⟩ <;> repeat' (first | exact trivial | apply And.intro | apply Eq.refl))⟩
    · rename_i a1 a2 a3
      exact ⟨3, ⟨by omega, meet_next hi a1 (by rw [← nearC_eq hT hU hg m (false, true)]; exact nearQ_no2 a3)⟩, by omega, (by refine ⟨?_, ?_, ?_⟩ <;> repeat' (first | exact trivial | apply And.intro | apply Eq.refl))⟩
    · rename_i a1 a2 a3 a4
      have e := nearC_eq hT hU hg m (false, true)
      rw [nearQ_yes a2 a3] at e
      have hM := meet_hit hi a1 (by rw [← e]; exact a4)
      rw [← e] at hM
      rw [hM] at hp
      rw [firstS_hit hm2 hmlt (firstS_hit hi2 hilt (firstS_hit hk2 hklt hp))]
      ((try apply fin_now); first | (focus (apply fin_2; apply Eq.refl; (first | (apply rv_I; apply Eq.refl) | (apply rv_A <;> apply Eq.refl)); (first | (apply rv_I; apply Eq.refl) | (apply rv_A <;> apply Eq.refl)); all_goals try apply Eq.refl)))
    · rename_i a1 a2 a3 a4
      have e := nearC_eq hT hU hg m (false, true)
      rw [nearQ_yes a2 a3] at e
      exact ⟨3, ⟨by omega, meet_next hi a1 (by rw [← e]; exact a4)⟩, by omega, (by refine ⟨?_, ?_, ?_⟩ <;> repeat' (first | exact trivial | apply And.intro | apply Eq.refl))⟩
  · repeat' (first
    | (apply WL_q; apply Eq.refl; apply Eq.refl; (first | (apply q_mvI <;> apply Eq.refl) | (apply q_asI <;> apply Eq.refl) | (apply q_ldb <;> apply Eq.refl) | (apply q_fab <;> apply Eq.refl) | (apply q_cmp <;> apply Eq.refl) | (apply q_mvB <;> apply Eq.refl) | (apply q_asB <;> apply Eq.refl) | (apply q_not <;> apply Eq.refl) | (apply q_ldr <;> apply Eq.refl) | (apply q_arith <;> (first | apply Eq.refl | omega)) | (apply q_len <;> apply Eq.refl) | (apply q_ext <;> apply Eq.refl) | (apply q_pkT <;> apply Eq.refl) | (apply q_pkF <;> apply Eq.refl) | (apply q_ia <;> (first | apply Eq.refl | omega)) | (apply q_ldba <;> apply Eq.refl) | (apply q_ldra <;> apply Eq.refl) | (apply q_bld <;> apply Eq.refl) | (apply q_mvS <;> apply Eq.refl) | (apply q_mvO <;> apply Eq.refl) | (apply q_asO <;> apply Eq.refl) | (apply q_asN <;> apply Eq.refl) | (apply q_blda <;> apply Eq.refl) | (apply q_mvT <;> apply Eq.refl) | (apply q_iar; apply Eq.refl; apply Eq.refl; apply Eq.refl; (first | omega | decide); apply Eq.refl; apply Eq.refl; (first | omega | decide); apply Eq.refl; apply Eq.refl) | (apply q_iab; apply Eq.refl; apply Eq.refl; apply Eq.refl; apply Eq.refl; (first | omega | decide); apply Eq.refl; apply Eq.refl; (first | omega | decide); apply Eq.refl; apply Eq.refl)))
    | apply W_seq
    | apply W_region
    | apply T_normal
    | apply WL_nil
    | apply T_exit
    | apply T_ret
    | apply B_normal
    | apply B_ret
    | apply B_exit_eq
    | apply W_skip
    | apply W_exit
    | apply W_ret
    | apply W_block
    | (apply W_condT; apply Eq.refl)
    | (apply W_condF; apply Eq.refl)
    | (apply WL_call; apply Eq.refl; apply Eq.refl; rotate_left 1; apply Eq.refl; rotate_right 1; exact (c73 (c.trucks.getD i default) true); apply Eq.refl)
    | (apply WL_call; apply Eq.refl; apply Eq.refl; rotate_left 1; apply Eq.refl; rotate_right 1; exact (c73 (c.trucks.getD k default) true); apply Eq.refl)
    | (apply WL_call; apply Eq.refl; apply Eq.refl; rotate_left 1; apply Eq.refl; rotate_right 1; exact (cA true); apply Eq.refl)
    | (apply WL_call; apply Eq.refl; apply Eq.refl; rotate_left 1; apply Eq.refl; rotate_right 1; exact (cB true); apply Eq.refl)
    | (apply WL_call; apply Eq.refl; apply Eq.refl; rotate_left 1; apply Eq.refl; rotate_right 1; exact (cC true); apply Eq.refl)
    | (apply WL_call; apply Eq.refl; apply Eq.refl; rotate_left 1; apply Eq.refl; rotate_right 1; exact (cD true); apply Eq.refl)
    | (apply WL_call; apply Eq.refl; apply Eq.refl; rotate_left 1; apply Eq.refl; rotate_right 1; exact (cE true true); apply Eq.refl)
    | (apply WL_n; apply Eq.refl; (first | (apply n_boxa <;> apply Eq.refl) | (apply n_alloc <;> apply Eq.refl) | (apply n_stb <;> apply Eq.refl)))
    | (apply WL_yes; apply Eq.refl; apply Eq.refl; apply Eq.refl)
    | (apply WL_no; apply Eq.refl; apply Eq.refl; apply Eq.refl; apply Eq.refl; apply Eq.refl)
    | (apply L_tN; apply Eq.refl; apply Eq.refl; apply Eq.refl; intro _; rotate_left 1; intro _; rotate_left 1)
    | apply W_regionG
    | (apply WG_nil; kernel_rfl)
    | (apply WG_q; (first | (apply want_none; apply Eq.refl) | (apply want_some; apply Eq.refl; apply Eq.refl; apply Eq.refl)); apply Eq.refl; first | (apply fq_bld <;> apply Eq.refl) | (apply fq_blda <;> apply Eq.refl) | (apply fq_fn; apply Eq.refl) | (apply fq_mf; apply Eq.refl) | (apply FQ_intro; intro _; (first | (apply q_mvI <;> apply Eq.refl) | (apply q_asI <;> apply Eq.refl) | (apply q_ldb <;> apply Eq.refl) | (apply q_fab <;> apply Eq.refl) | (apply q_cmp <;> apply Eq.refl) | (apply q_mvB <;> apply Eq.refl) | (apply q_asB <;> apply Eq.refl) | (apply q_not <;> apply Eq.refl) | (apply q_ldr <;> apply Eq.refl) | (apply q_arith <;> (first | apply Eq.refl | omega)) | (apply q_len <;> apply Eq.refl) | (apply q_ext <;> apply Eq.refl) | (apply q_pkT <;> apply Eq.refl) | (apply q_pkF <;> apply Eq.refl) | (apply q_ia <;> (first | apply Eq.refl | omega)) | (apply q_ldba <;> apply Eq.refl) | (apply q_ldra <;> apply Eq.refl) | (apply q_bld <;> apply Eq.refl) | (apply q_mvS <;> apply Eq.refl) | (apply q_mvO <;> apply Eq.refl) | (apply q_asO <;> apply Eq.refl) | (apply q_asN <;> apply Eq.refl) | (apply q_blda <;> apply Eq.refl) | (apply q_mvT <;> apply Eq.refl) | (apply q_iar; apply Eq.refl; apply Eq.refl; apply Eq.refl; (first | omega | decide); apply Eq.refl; apply Eq.refl; (first | omega | decide); apply Eq.refl; apply Eq.refl) | (apply q_iab; apply Eq.refl; apply Eq.refl; apply Eq.refl; apply Eq.refl; (first | omega | decide); apply Eq.refl; apply Eq.refl; (first | omega | decide); apply Eq.refl; apply Eq.refl))))
    | (apply WG_call; (first | (apply want_none; apply Eq.refl) | (apply want_some; apply Eq.refl; apply Eq.refl; apply Eq.refl)); apply Eq.refl; apply Eq.refl; apply Eq.refl; exact (c73 (c.trucks.getD i default) true))
    | (apply WG_call; (first | (apply want_none; apply Eq.refl) | (apply want_some; apply Eq.refl; apply Eq.refl; apply Eq.refl)); apply Eq.refl; apply Eq.refl; apply Eq.refl; exact (c73 (c.trucks.getD k default) true))
    | (apply WG_call; (first | (apply want_none; apply Eq.refl) | (apply want_some; apply Eq.refl; apply Eq.refl; apply Eq.refl)); apply Eq.refl; apply Eq.refl; apply Eq.refl; exact (cA true))
    | (apply WG_call; (first | (apply want_none; apply Eq.refl) | (apply want_some; apply Eq.refl; apply Eq.refl; apply Eq.refl)); apply Eq.refl; apply Eq.refl; apply Eq.refl; exact (cB true))
    | (apply WG_call; (first | (apply want_none; apply Eq.refl) | (apply want_some; apply Eq.refl; apply Eq.refl; apply Eq.refl)); apply Eq.refl; apply Eq.refl; apply Eq.refl; exact (cC true))
    | (apply WG_call; (first | (apply want_none; apply Eq.refl) | (apply want_some; apply Eq.refl; apply Eq.refl; apply Eq.refl)); apply Eq.refl; apply Eq.refl; apply Eq.refl; exact (cD true))
    | (apply WG_call; (first | (apply want_none; apply Eq.refl) | (apply want_some; apply Eq.refl; apply Eq.refl; apply Eq.refl)); apply Eq.refl; apply Eq.refl; apply Eq.refl; exact (cE true true))
    | (apply WG_n; (first | (apply want_none; apply Eq.refl) | (apply want_some; apply Eq.refl; apply Eq.refl; apply Eq.refl)); (first | (apply f_alloc <;> apply Eq.refl) | (apply f_stb <;> apply Eq.refl) | (apply f_bsl <;> apply Eq.refl)))
    | (apply W_cD; apply Eq.refl; intro _; rotate_left 1; intro _; rotate_left 1)
    | (apply W_cND; apply Eq.refl; intro _; rotate_left 1; intro _; rotate_left 1)
    | (apply W_cN; apply Eq.refl; intro _; rotate_left 1; intro _; rotate_left 1)
    | (apply W_cond; apply Eq.refl; intro _; rotate_left 1; intro _; rotate_left 1))
    · rename_i a1
      exact ⟨4, ⟨by omega, meet_skip hi a1⟩, by omega, (by refine ⟨?_, ?_, ?_⟩ <;> repeat' (first | exact trivial | apply And.intro | apply Eq.refl))⟩
    · rename_i a1 a2
      exact ⟨4, ⟨by omega, meet_next hi a1 (by rw [← nearC_eq hT hU hg m (true, true), nearQ_no1 a2])⟩, by omega, (by refine ⟨?_, ?_, ?_⟩ <;> repeat' (first | exact trivial | apply And.intro | apply Eq.refl))⟩
    · rename_i a1 a2 a3
      exact ⟨4, ⟨by omega, meet_next hi a1 (by rw [← nearC_eq hT hU hg m (true, true)]; exact nearQ_no2 a3)⟩, by omega, (by refine ⟨?_, ?_, ?_⟩ <;> repeat' (first | exact trivial | apply And.intro | apply Eq.refl))⟩
    · rename_i a1 a2 a3 a4
      have e := nearC_eq hT hU hg m (true, true)
      rw [nearQ_yes a2 a3] at e
      have hM := meet_hit hi a1 (by rw [← e]; exact a4)
      rw [← e] at hM
      rw [hM] at hp
      rw [firstS_hit hm2 hmlt (firstS_hit hi2 hilt (firstS_hit hk2 hklt hp))]
      ((try apply fin_now); first | (focus (apply fin_2; apply Eq.refl; (first | (apply rv_I; apply Eq.refl) | (apply rv_A <;> apply Eq.refl)); (first | (apply rv_I; apply Eq.refl) | (apply rv_A <;> apply Eq.refl)); all_goals try apply Eq.refl)))
    · rename_i a1 a2 a3 a4
      have e := nearC_eq hT hU hg m (true, true)
      rw [nearQ_yes a2 a3] at e
      exact ⟨4, ⟨by omega, meet_next hi a1 (by rw [← e]; exact a4)⟩, by omega, (by refine ⟨?_, ?_, ?_⟩ <;> repeat' (first | exact trivial | apply And.intro | apply Eq.refl))⟩
  · rw [← hi] at hp
    repeat' (first
    | (apply WL_q; apply Eq.refl; apply Eq.refl; (first | (apply q_mvI <;> apply Eq.refl) | (apply q_asI <;> apply Eq.refl) | (apply q_ldb <;> apply Eq.refl) | (apply q_fab <;> apply Eq.refl) | (apply q_cmp <;> apply Eq.refl) | (apply q_mvB <;> apply Eq.refl) | (apply q_asB <;> apply Eq.refl) | (apply q_not <;> apply Eq.refl) | (apply q_ldr <;> apply Eq.refl) | (apply q_arith <;> (first | apply Eq.refl | omega)) | (apply q_len <;> apply Eq.refl) | (apply q_ext <;> apply Eq.refl) | (apply q_pkT <;> apply Eq.refl) | (apply q_pkF <;> apply Eq.refl) | (apply q_ia <;> (first | apply Eq.refl | omega)) | (apply q_ldba <;> apply Eq.refl) | (apply q_ldra <;> apply Eq.refl) | (apply q_bld <;> apply Eq.refl) | (apply q_mvS <;> apply Eq.refl) | (apply q_mvO <;> apply Eq.refl) | (apply q_asO <;> apply Eq.refl) | (apply q_asN <;> apply Eq.refl) | (apply q_blda <;> apply Eq.refl) | (apply q_mvT <;> apply Eq.refl) | (apply q_iar; apply Eq.refl; apply Eq.refl; apply Eq.refl; (first | omega | decide); apply Eq.refl; apply Eq.refl; (first | omega | decide); apply Eq.refl; apply Eq.refl) | (apply q_iab; apply Eq.refl; apply Eq.refl; apply Eq.refl; apply Eq.refl; (first | omega | decide); apply Eq.refl; apply Eq.refl; (first | omega | decide); apply Eq.refl; apply Eq.refl)))
    | apply W_seq
    | apply W_region
    | apply T_normal
    | apply WL_nil
    | apply T_exit
    | apply T_ret
    | apply B_normal
    | apply B_ret
    | apply B_exit_eq
    | apply W_skip
    | apply W_exit
    | apply W_ret
    | apply W_block
    | (apply W_condT; apply Eq.refl)
    | (apply W_condF; apply Eq.refl)
    | (apply WL_n; apply Eq.refl; (first | (apply n_boxa <;> apply Eq.refl) | (apply n_alloc <;> apply Eq.refl) | (apply n_stb <;> apply Eq.refl)))
    | (apply WL_yes; apply Eq.refl; apply Eq.refl; apply Eq.refl)
    | (apply WL_no; apply Eq.refl; apply Eq.refl; apply Eq.refl; apply Eq.refl; apply Eq.refl)
    | (apply L_tN; apply Eq.refl; apply Eq.refl; apply Eq.refl; intro _; rotate_left 1; intro _; rotate_left 1)
    | apply W_regionG
    | (apply WG_nil; kernel_rfl)
    | (apply WG_q; (first | (apply want_none; apply Eq.refl) | (apply want_some; apply Eq.refl; apply Eq.refl; apply Eq.refl)); apply Eq.refl; first | (apply fq_bld <;> apply Eq.refl) | (apply fq_blda <;> apply Eq.refl) | (apply fq_fn; apply Eq.refl) | (apply fq_mf; apply Eq.refl) | (apply FQ_intro; intro _; (first | (apply q_mvI <;> apply Eq.refl) | (apply q_asI <;> apply Eq.refl) | (apply q_ldb <;> apply Eq.refl) | (apply q_fab <;> apply Eq.refl) | (apply q_cmp <;> apply Eq.refl) | (apply q_mvB <;> apply Eq.refl) | (apply q_asB <;> apply Eq.refl) | (apply q_not <;> apply Eq.refl) | (apply q_ldr <;> apply Eq.refl) | (apply q_arith <;> (first | apply Eq.refl | omega)) | (apply q_len <;> apply Eq.refl) | (apply q_ext <;> apply Eq.refl) | (apply q_pkT <;> apply Eq.refl) | (apply q_pkF <;> apply Eq.refl) | (apply q_ia <;> (first | apply Eq.refl | omega)) | (apply q_ldba <;> apply Eq.refl) | (apply q_ldra <;> apply Eq.refl) | (apply q_bld <;> apply Eq.refl) | (apply q_mvS <;> apply Eq.refl) | (apply q_mvO <;> apply Eq.refl) | (apply q_asO <;> apply Eq.refl) | (apply q_asN <;> apply Eq.refl) | (apply q_blda <;> apply Eq.refl) | (apply q_mvT <;> apply Eq.refl) | (apply q_iar; apply Eq.refl; apply Eq.refl; apply Eq.refl; (first | omega | decide); apply Eq.refl; apply Eq.refl; (first | omega | decide); apply Eq.refl; apply Eq.refl) | (apply q_iab; apply Eq.refl; apply Eq.refl; apply Eq.refl; apply Eq.refl; (first | omega | decide); apply Eq.refl; apply Eq.refl; (first | omega | decide); apply Eq.refl; apply Eq.refl))))
    | (apply WG_n; (first | (apply want_none; apply Eq.refl) | (apply want_some; apply Eq.refl; apply Eq.refl; apply Eq.refl)); (first | (apply f_alloc <;> apply Eq.refl) | (apply f_stb <;> apply Eq.refl) | (apply f_bsl <;> apply Eq.refl)))
    | (apply W_cD; apply Eq.refl; intro _; rotate_left 1; intro _; rotate_left 1)
    | (apply W_cND; apply Eq.refl; intro _; rotate_left 1; intro _; rotate_left 1)
    | (apply W_cN; apply Eq.refl; intro _; rotate_left 1; intro _; rotate_left 1)
    | (apply W_cond; apply Eq.refl; intro _; rotate_left 1; intro _; rotate_left 1))
    exact ⟨k + 1, ⟨by omega, by omega, firstS_next hk2 hklt hp⟩, by omega, (by apply reach_now; refine ⟨?_, ?_, ?_, ?_, ?_⟩ <;> repeat' (first | exact trivial | apply And.intro | apply Eq.refl | (apply toI; apply Eq.refl; first | omega | assumption) | (apply toB; apply Eq.refl; repeat' (first | apply Eq.refl | apply consS | (apply consI; first | apply Eq.refl | omega | assumption)))))⟩
end Go.Proofs.YtafnhieaeejlcaaDoor
namespace Go.Ab
open Go Go.RowKit
section
variable {X : Ctx} {Q : Exit → St → Prop} {S T0 : St} {ops : Array Oper} {o : Oper} {rest : List Oper} {S0 : St} {E : List Ent} {V : List Vl}
end
end Go.Ab
