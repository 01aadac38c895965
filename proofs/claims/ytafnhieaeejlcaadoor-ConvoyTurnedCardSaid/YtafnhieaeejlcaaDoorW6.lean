/- Walks by computing: what each function of the program that the laws reach gives for what it gets, as plain Lean, and that it is so; without a condition but those that stand in each theorem. -/
import Derived.Lib.AppendStr
import Derived.Laws.Concat
import Derived.Test.YtafnhieaeejlcaaDoorW1
import Derived.Test.YtafnhieaeejlcaaDoorW2
import Derived.Test.YtafnhieaeejlcaaDoorW3
import Derived.Test.YtafnhieaeejlcaaDoorW4
import Derived.Test.YtafnhieaeejlcaaDoorW5
set_option linter.all false
namespace Go.Proofs.YtafnhieaeejlcaaDoor
open Go Go.Ab
set_option maxRecDepth 100000
set_option maxHeartbeats 4000000
attribute [local irreducible] W WL QOp NOp thenQ blockQ FinQ WG FQ Want FinW WI WIL thenI blockI
theorem c98 (t : Truck) (len : Int) (h : ROk len t) : Contract seat 98 [.agg (encTrack t len)] (.int .i64 (t.start + hitR t len t.lo)) := by
  have hn := (hitR_ok h (Int.le_refl t.lo)).2.2
  have s1 := h.s1
  have s2 := h.s2
  refine contract_introW (fn := Tryd.f98) Tryd.func98 rfl (by kernel_rfl) rfl ?_ ?_ ?_
  · exact PureL.cons (.agg _ (pure_track t len)) PureL.nil
  · exact .int _ _
  intro w κ
  repeat' (first
    | (apply WL_q; apply Eq.refl; apply Eq.refl; (first | (apply q_asI <;> apply Eq.refl) | (apply q_ldb <;> apply Eq.refl) | (apply q_fab <;> apply Eq.refl) | (apply q_arith <;> (first | apply Eq.refl | omega)) | (apply q_len <;> apply Eq.refl)))
    | apply W_seq
    | apply W_region
    | apply T_normal
    | apply WL_nil
    | apply W_ret
    | (apply WL_n; apply Eq.refl; (first | (apply n_boxa <;> apply Eq.refl))))
  ((try apply fin_now); first | (apply fin_I; apply Eq.refl; apply Eq.refl; try apply Eq.refl))
  push_cast; omega
theorem c124 (x : Span) (t : Truck) (len : Int) : Contract seat 124 [.agg (encSpan x), .rp (encTrack t len) 0] (.bool (decide (x.hi = len))) := by
  refine contract_introW (fn := Tryd.f124) Tryd.func124 rfl (by kernel_rfl) rfl ?_ ?_ ?_
  · exact PureL.cons (.agg _ (pure_span x)) (PureL.cons (.rp _ _ (pure_track t len)) PureL.nil)
  · exact .bool _
  intro w κ
  repeat' (first
    | (apply WL_q; apply Eq.refl; apply Eq.refl; (first | (apply q_ldb <;> apply Eq.refl) | (apply q_fab <;> apply Eq.refl) | (apply q_cmp <;> apply Eq.refl) | (apply q_asB <;> apply Eq.refl) | (apply q_ldr <;> apply Eq.refl) | (apply q_far <;> apply Eq.refl)))
    | apply W_seq
    | apply W_region
    | apply T_normal
    | apply WL_nil
    | apply W_ret
    | (apply WL_n; apply Eq.refl; (first | (apply n_boxa <;> apply Eq.refl))))
  ((try apply fin_now); first | (apply fin_B; apply Eq.refl; apply Eq.refl; try apply Eq.refl))
def idxF (p : Nat → Bool) : Nat → Nat → Int
  | 0, _ => -1
  | f + 1, k => if p k then k else idxF p f (k + 1)
theorem idxF_end {p : Nat → Bool} {n k : Nat} {r : Int} (hi : idxF p (n - k) k = r) (h : ¬ k < n) : -1 = r := by rw [← hi, show n - k = 0 by omega]; rfl
theorem idxF_hit {p : Nat → Bool} {n k : Nat} {r : Int} (hi : idxF p (n - k) k = r) (h : k < n) (hp : p k = true) : (k : Int) = r := by
  rw [← hi, show n - k = (n - (k + 1)) + 1 by omega, idxF, if_pos hp]
theorem idxF_next {p : Nat → Bool} {n k : Nat} {r : Int} (hi : idxF p (n - k) k = r) (h : k < n) (hp : p k = false) : idxF p (n - (k + 1)) (k + 1) = r := by
  rw [← hi, show n - k = (n - (k + 1)) + 1 by omega, idxF, hp]; rfl
theorem idxF_spec {p : Nat → Bool} {K : Nat} (hK : p K = true) (h : ∀ j, j < K → p j = false) : ∀ (f k : Nat), k ≤ K → K < k + f → idxF p f k = K
  | 0, k, h1, h2 => by omega
  | f + 1, k, h1, h2 => by
    simp only [idxF]
    by_cases e : k = K
    · subst e; rw [if_pos hK]
    · rw [h k (by omega)]; exact idxF_spec hK h f (k + 1) (by omega) (by omega)
theorem c123 (g : Nat → Span) (n : Nat) (hn : n ≤ 100000) (f : FuncId) (c : List D) (p : Span → Bool) (hf : ∀ x, Contract seat f ([.agg (encSpan x)] ++ c) (.bool (p x))) :
    Contract seat 123 [.sl 2 n (fun k => encSpan (g k)), .fn f c] (.int .i64 (idxF (fun k => p (g k)) n 0)) := by
  have hpc : PureL c := fun d hd => (hf default).pureA d (by simp [hd])
  refine contract_introW (fn := Tryd.f123) Tryd.func123 rfl (by kernel_rfl) rfl ?_ ?_ ?_
  · exact PureL.cons (.sl _ _ _ fun _ _ d hd => pure_span _ d hd) (PureL.cons (.fn _ _ hpc) PureL.nil)
  · exact .int _ _
  intro w κ
  repeat' (first
    | (apply WL_q; apply Eq.refl; apply Eq.refl; (first | (apply q_mvI <;> apply Eq.refl) | (apply q_asI <;> apply Eq.refl) | (apply q_cmp <;> apply Eq.refl) | (apply q_arith <;> (first | apply Eq.refl | omega)) | (apply q_len <;> apply Eq.refl) | (apply q_ia <;> (first | apply Eq.refl | omega)) | (apply q_ldra <;> apply Eq.refl) | (apply q_mvS <;> apply Eq.refl) | (apply q_mvF <;> apply Eq.refl)))
    | apply W_seq
    | apply W_region
    | apply T_normal
    | apply WL_nil
    | apply T_exit
    | apply T_ret
    | apply B_normal
    | apply B_ret
    | apply B_exit_eq
    | apply W_skip
    | apply W_exit
    | apply W_ret
    | apply W_block
    | (apply W_cD; apply Eq.refl; intro _; rotate_left 1; intro _; rotate_left 1)
    | (apply W_cond; apply Eq.refl; intro _; rotate_left 1; intro _; rotate_left 1))
  refine W_loopR [0, 1, 7] [] (fun k : Nat => [(8, .int .i64 k)]) (fun _ => []) (fun _ => []) (fun k => k ≤ n ∧ idxF (fun k => p (g k)) (n - k) k = idxF (fun k => p (g k)) n 0) (fun k => n - k) 0 ⟨Nat.zero_le _, rfl⟩ (by refine ⟨?_, ?_, ?_⟩ <;> repeat' (first | exact trivial | apply And.intro | apply Eq.refl | (apply toI; apply Eq.refl; first | omega | assumption) | (apply toB; apply Eq.refl; repeat' (first | apply Eq.refl | apply consS | (apply consI; first | apply Eq.refl | omega | assumption))))) (fun k h hi => ?_)
  have hk := hi.1
  repeat' (first
    | (apply WL_q; apply Eq.refl; apply Eq.refl; (first | (apply q_mvI <;> apply Eq.refl) | (apply q_asI <;> apply Eq.refl) | (apply q_cmp <;> apply Eq.refl) | (apply q_arith <;> (first | apply Eq.refl | omega)) | (apply q_len <;> apply Eq.refl) | (apply q_ia <;> (first | apply Eq.refl | omega)) | (apply q_ldra <;> apply Eq.refl) | (apply q_mvS <;> apply Eq.refl) | (apply q_mvF <;> apply Eq.refl)))
    | apply W_seq
    | apply W_region
    | apply T_normal
    | apply WL_nil
    | apply T_exit
    | apply T_ret
    | apply B_normal
    | apply B_ret
    | apply B_exit_eq
    | apply W_skip
    | apply W_exit
    | apply W_ret
    | apply W_block
    | (apply WL_callv; apply Eq.refl; apply Eq.refl; apply Eq.refl; exact (hf (g (k : Int).toNat)); (focus ((repeat' (first | exact FzL.nil | refine FzL.cons _ _ _ _ ?_ ?_ | exact Fz.os _ _ _ _ _ _ rfl rfl | exact Fz.bx _ _ _ _ rfl rfl | refine Fz.fn _ _ _ ?_ | exact Fz.same _ | exact fz_refl _ _)); done)); apply Eq.refl; apply Eq.refl)
    | (apply W_cD; apply Eq.refl; intro _; rotate_left 1; intro _; rotate_left 1)
    | (apply W_cond; apply Eq.refl; intro _; rotate_left 1; intro _; rotate_left 1))
  all_goals try simp only [Int.toNat_natCast] at *
  all_goals first
    | (refine ⟨k + 1, ⟨by omega, idxF_next hi.2 (by omega) (by assumption)⟩, by omega, (by apply reach_now; refine ⟨?_, ?_, ?_, ?_, ?_⟩ <;> repeat' (first | exact trivial | apply And.intro | apply Eq.refl | (apply toI; apply Eq.refl; first | omega | assumption) | (apply toB; apply Eq.refl; repeat' (first | apply Eq.refl | apply consS | (apply consI; first | apply Eq.refl | omega | assumption)))))⟩; done)
    | (((try apply fin_now); first | (apply fin_I; apply Eq.refl; apply Eq.refl; try apply Eq.refl)); exact idxF_hit hi.2 (by omega) (by assumption))
    | (((try apply fin_now); first | (apply fin_I; apply Eq.refl; apply Eq.refl; try apply Eq.refl)); exact idxF_end hi.2 (by omega))
theorem c113 (g : Nat → Int) (n : Nat) (hn : n ≤ 100000) (v : Int) : Contract seat 113 [.sl 1 n (fun k => encI (g k)), .int .i64 v] (.int .i64 (idxF (fun k => decide (v = g k)) n 0)) := by
  refine contract_introW (fn := Tryd.f113) Tryd.func113 rfl (by kernel_rfl) rfl ?_ ?_ ?_
  · exact PureL.cons (.sl _ _ _ fun _ _ d hd => pure_I _ d hd) (PureL.cons (.int _ _) PureL.nil)
  · exact .int _ _
  intro w κ
  repeat' (first
    | (apply WL_q; apply Eq.refl; apply Eq.refl; (first | (apply q_mvI <;> apply Eq.refl) | (apply q_asI <;> apply Eq.refl) | (apply q_cmp <;> apply Eq.refl) | (apply q_ldr <;> apply Eq.refl) | (apply q_arith <;> (first | apply Eq.refl | omega)) | (apply q_len <;> apply Eq.refl) | (apply q_ia <;> (first | apply Eq.refl | omega)) | (apply q_mvS <;> apply Eq.refl)))
    | apply W_seq
    | apply W_region
    | apply T_normal
    | apply WL_nil
    | apply T_exit
    | apply T_ret
    | apply B_normal
    | apply B_ret
    | apply B_exit_eq
    | apply W_skip
    | apply W_exit
    | apply W_ret
    | apply W_block
    | (apply W_cD; apply Eq.refl; intro _; rotate_left 1; intro _; rotate_left 1))
  refine W_loopR [0, 1, 7] [] (fun k : Nat => [(8, .int .i64 k)]) (fun _ => []) (fun _ => []) (fun k => k ≤ n ∧ idxF (fun k => decide (v = g k)) (n - k) k = idxF (fun k => decide (v = g k)) n 0) (fun k => n - k) 0 ⟨Nat.zero_le _, rfl⟩ (by refine ⟨?_, ?_, ?_⟩ <;> repeat' (first | exact trivial | apply And.intro | apply Eq.refl | (apply toI; apply Eq.refl; first | omega | assumption) | (apply toB; apply Eq.refl; repeat' (first | apply Eq.refl | apply consS | (apply consI; first | apply Eq.refl | omega | assumption))))) (fun k h hi => ?_)
  have hk := hi.1
  repeat' (first
    | (apply WL_q; apply Eq.refl; apply Eq.refl; (first | (apply q_mvI <;> apply Eq.refl) | (apply q_asI <;> apply Eq.refl) | (apply q_cmp <;> apply Eq.refl) | (apply q_ldr <;> apply Eq.refl) | (apply q_arith <;> (first | apply Eq.refl | omega)) | (apply q_len <;> apply Eq.refl) | (apply q_ia <;> (first | apply Eq.refl | omega)) | (apply q_mvS <;> apply Eq.refl)))
    | apply W_seq
    | apply W_region
    | apply T_normal
    | apply WL_nil
    | apply T_exit
    | apply T_ret
    | apply B_normal
    | apply B_ret
    | apply B_exit_eq
    | apply W_skip
    | apply W_exit
    | apply W_ret
    | apply W_block
    | (apply W_cD; apply Eq.refl; intro _; rotate_left 1; intro _; rotate_left 1))
  all_goals try simp only [Int.toNat_natCast] at *
  all_goals first
    | (refine ⟨k + 1, ⟨by omega, idxF_next hi.2 (by omega) (by simp; assumption)⟩, by omega, (by apply reach_now; refine ⟨?_, ?_, ?_, ?_, ?_⟩ <;> repeat' (first | exact trivial | apply And.intro | apply Eq.refl | (apply toI; apply Eq.refl; first | omega | assumption) | (apply toB; apply Eq.refl; repeat' (first | apply Eq.refl | apply consS | (apply consI; first | apply Eq.refl | omega | assumption)))))⟩; done)
    | (((try apply fin_now); first | (apply fin_I; apply Eq.refl; apply Eq.refl; try apply Eq.refl)); exact idxF_hit hi.2 (by omega) (by simp; assumption))
    | (((try apply fin_now); first | (apply fin_I; apply Eq.refl; apply Eq.refl; try apply Eq.refl)); exact idxF_end hi.2 (by omega))
def maxN (g : Nat → Int) : Nat → Int
  | 0 => g 0
  | k + 1 => max (maxN g k) (g (k + 1))
theorem c114 (g : Nat → Int) (n : Nat) (hn : n ≤ 100000) (h0 : 1 ≤ n) : Contract seat 114 [.sl 1 n (fun k => encI (g k))] (.int .i64 (maxN g (n - 1))) := by
  refine contract_introW (fn := Tryd.f114) Tryd.func114 rfl (by kernel_rfl) rfl ?_ ?_ ?_
  · exact PureL.cons (.sl _ _ _ fun _ _ d hd => pure_I _ d hd) PureL.nil
  · exact .int _ _
  intro w κ
  repeat' (first
    | (apply WL_q; apply Eq.refl; apply Eq.refl; (first | (apply q_mvI <;> apply Eq.refl) | (apply q_asI <;> apply Eq.refl) | (apply q_cmp <;> apply Eq.refl) | (apply q_ldr <;> apply Eq.refl) | (apply q_arith <;> (first | apply Eq.refl | omega)) | (apply q_len <;> apply Eq.refl) | (apply q_ia <;> (first | apply Eq.refl | omega)) | (apply q_max <;> apply Eq.refl) | (apply q_mvS <;> apply Eq.refl)))
    | apply W_seq
    | apply W_region
    | apply T_normal
    | apply WL_nil
    | apply T_exit
    | apply B_normal
    | apply B_exit_eq
    | apply W_skip
    | apply W_exit
    | apply W_ret
    | apply W_block
    | (apply WL_n; apply Eq.refl; (first | (apply n_sto <;> (first | apply Eq.refl | omega))))
    | (apply W_cD; apply Eq.refl; intro _; rotate_left 1; intro _; rotate_left 1))
  any_goals first | (exfalso; omega) | skip
  refine W_loopR [0, 2] [] (fun k : Nat => [(3, .int .i64 (maxN g (k - 1))), (4, .int .i64 k)]) (fun _ => []) (fun _ => []) (fun k => 1 ≤ k ∧ k ≤ n) (fun k => n - k) 1 ⟨Nat.le_refl _, h0⟩ (by refine ⟨?_, ?_, ?_⟩ <;> repeat' (first | exact trivial | apply And.intro | apply Eq.refl | (apply toI; apply Eq.refl; first | omega | assumption) | (apply toB; apply Eq.refl; repeat' (first | apply Eq.refl | apply consS | (apply consI; first | apply Eq.refl | omega | assumption))))) (fun k h hi => ?_)
  have hk := hi.1
  have hm : maxN g (k + 1 - 1) = max (maxN g (k - 1)) (g (k : Int).toNat) := by
    obtain ⟨j, rfl⟩ : ∃ j, k = j + 1 := ⟨k - 1, by omega⟩
    rfl
  repeat' (first
    | (apply WL_q; apply Eq.refl; apply Eq.refl; (first | (apply q_mvI <;> apply Eq.refl) | (apply q_asI <;> apply Eq.refl) | (apply q_cmp <;> apply Eq.refl) | (apply q_ldr <;> apply Eq.refl) | (apply q_arith <;> (first | apply Eq.refl | omega)) | (apply q_len <;> apply Eq.refl) | (apply q_ia <;> (first | apply Eq.refl | omega)) | (apply q_max <;> apply Eq.refl) | (apply q_mvS <;> apply Eq.refl)))
    | apply W_seq
    | apply W_region
    | apply T_normal
    | apply WL_nil
    | apply T_exit
    | apply B_normal
    | apply B_exit_eq
    | apply W_skip
    | apply W_exit
    | apply W_ret
    | apply W_block
    | (apply WL_n; apply Eq.refl; (first | (apply n_sto <;> (first | apply Eq.refl | omega))))
    | (apply W_cD; apply Eq.refl; intro _; rotate_left 1; intro _; rotate_left 1))
  · refine ⟨k + 1, ⟨by omega, by omega⟩, by omega, (by apply reach_now; refine ⟨?_, ?_, ?_, ?_, ?_⟩ <;> repeat' (first | exact trivial | apply And.intro | apply Eq.refl | (apply toI; apply Eq.refl; first | omega | assumption) | (apply toB; apply Eq.refl; repeat' (first | apply Eq.refl | apply consS | (apply consI; first | apply Eq.refl | omega | assumption)))))⟩
  · obtain rfl : k = n := by omega
    ((try apply fin_now); first | (apply fin_I; apply Eq.refl; apply Eq.refl; try apply Eq.refl))
theorem posR_lohi {t : Truck} {len : Int} (h : ROk len t) : ∀ k, posR t len t.lo k ≤ posR t len t.hi k
  | 0 => Int.le_refl _
  | k + 1 => by
    have ih := posR_lohi h k
    have h2 := h.p2
    have h3 := h.p1
    rw [posR_next h.l1 h.ho h.so h.p1 k, posR_next h.l1 h.ho h.so (by omega) k]
    omega
theorem hit_lohi {t : Truck} {len : Int} (h : ROk len t) : hitR t len t.hi ≤ hitR t len t.lo := by
  obtain ⟨e1, e2, _⟩ := hitR_ok h (Int.le_refl t.lo)
  obtain ⟨f1, f2, _⟩ := hitR_ok h h.p2
  have hb := (posR_le h.l1 h.ho (show 1 ≤ t.hi by have := h.p1; have := h.p2; omega) (hitR t len t.lo)).2
  have := posR_lohi h (hitR t len t.lo)
  have he : posR t len t.hi (hitR t len t.lo) = len := by omega
  exact Nat.le_of_not_lt fun hlt => f2 _ hlt he
theorem c112 (t : Truck) (len : Int) (h : ROk len t) : Contract seat 112 [.agg (encTrack t len)] (.int .i64 (t.start + hitR t len t.hi)) := by
  have hn := (hitR_ok h (Int.le_refl t.lo)).2.2
  obtain ⟨f1, f2, f3⟩ := hitR_ok h h.p2
  have s1 := h.s1
  have s2 := h.s2
  have hx : idxF (fun k => decide ((gone t len k).hi = len)) (hitR t len t.lo + 1) 0 = hitR t len t.hi := idxF_spec (decide_eq_true f1) (fun j hj => decide_eq_false (f2 j hj)) _ 0 (Nat.zero_le _) (by have := hit_lohi h; omega)
  have c1 := c123 (gone t len) (hitR t len t.lo + 1) (by omega) 124 [.rp (encTrack t len) 0] (fun x => decide (x.hi = len)) (fun x => c124 x t len)
  rw [hx] at c1
  refine contract_introW (fn := Tryd.f112) Tryd.func112 rfl (by kernel_rfl) rfl ?_ ?_ ?_
  · exact PureL.cons (.agg _ (pure_track t len)) PureL.nil
  · exact .int _ _
  intro w κ
  repeat' (first
    | (apply WL_q; apply Eq.refl; apply Eq.refl; (first | (apply q_asI <;> apply Eq.refl) | (apply q_ldb <;> apply Eq.refl) | (apply q_fab <;> apply Eq.refl) | (apply q_arith <;> (first | apply Eq.refl | omega))))
    | apply W_seq
    | apply W_region
    | apply T_normal
    | apply WL_nil
    | apply W_ret
    | (apply WL_n; apply Eq.refl; (first | (apply n_boxa <;> apply Eq.refl)))
    | apply W_regionG
    | (apply WG_nil; kernel_rfl)
    | (apply WG_q; (first | (apply want_none; apply Eq.refl) | (apply want_some; apply Eq.refl; apply Eq.refl; apply Eq.refl)); apply Eq.refl; first | (apply fq_bld <;> apply Eq.refl) | (apply fq_blda <;> apply Eq.refl) | (apply fq_fn; apply Eq.refl) | (apply fq_mf; apply Eq.refl) | (apply FQ_intro; intro _; (first | (apply q_asI <;> apply Eq.refl) | (apply q_ldb <;> apply Eq.refl) | (apply q_fab <;> apply Eq.refl) | (apply q_arith <;> (first | apply Eq.refl | omega)))))
    | (apply WG_calls; (first | (apply want_none; apply Eq.refl) | (apply want_some; apply Eq.refl; apply Eq.refl; apply Eq.refl)); apply Eq.refl; apply Eq.refl; exact (fz_refl _ _); exact (c1); apply Eq.refl)
    | (apply WG_calls; (first | (apply want_none; apply Eq.refl) | (apply want_some; apply Eq.refl; apply Eq.refl; apply Eq.refl)); apply Eq.refl; apply Eq.refl; rotate_left 1; exact (c1); apply Eq.refl; rotate_left 1; (focus ((repeat' (first | exact FzL.nil | refine FzL.cons _ _ _ _ ?_ ?_ | exact Fz.os _ _ _ _ _ _ rfl rfl | exact Fz.bx _ _ _ _ rfl rfl | refine Fz.fn _ _ _ ?_ | exact Fz.same _ | exact fz_refl _ _)); done))))
  ((try apply fin_now); first | (apply fin_I; apply Eq.refl; apply Eq.refl; try apply Eq.refl))
end Go.Proofs.YtafnhieaeejlcaaDoor
namespace Go.Proofs.YtafnhieaeejlcaaDoor
open Go Go.Ab
set_option maxRecDepth 100000
set_option maxHeartbeats 4000000
attribute [local irreducible] W WL QOp NOp thenQ blockQ FinQ WG FQ Want FinW WI WIL thenI blockI
theorem chkHolds_sort {way len : Int} : ∀ {hs : List Hold} {p : Option Int}, chkHolds way len p hs = 0 → HSort way len hs ∧ ∀ q, p = some q → ∀ h ∈ hs, q < alongI way len h.a
  | [], _, _ => ⟨List.Pairwise.nil, fun _ _ h hh => by cases hh⟩
  | h :: hs, p, h0 => by
    rw [chkHolds_cons] at h0
    split at h0
    · cases h0
    · have rest : chkHolds way len (some (alongI way len h.a)) hs = 0 ∧ ∀ q, p = some q → q < alongI way len h.a := by
        split at h0
        · rename_i q
          split at h0
          · cases h0
          · rename_i hq; exact ⟨h0, fun q' e => by cases e; omega⟩
        · exact ⟨h0, fun q' e => by cases e⟩
      obtain ⟨r1, r2⟩ := rest
      obtain ⟨i1, i2⟩ := chkHolds_sort r1
      refine ⟨List.pairwise_cons.2 ⟨fun y hy => i2 _ rfl y hy, i1⟩, fun q hq y hy => ?_⟩
      rcases List.mem_cons.1 hy with rfl | hy
      · exact r2 q hq
      · have := i2 _ rfl y hy
        have := r2 q hq
        omega
theorem rok_of {c : Convoy} {t : Truck} (h1 : 1 ≤ c.len) (h2 : c.len ≤ 100000) (h : chkTruck c t = 0) : ROk c.len t := by
  obtain ⟨a1, a2, a3, a4, a5, a6, a7, a8, a9⟩ := tok_of h1 h2 h
  refine ⟨a1, a2, a3, a4, a5, a6, a7, a8, a9, ?_⟩
  unfold chkTruck at h
  split at h; · cases h
  split at h; · cases h
  split at h; · cases h
  split at h; · cases h
  split at h; · cases h
  split at h; · cases h
  exact (chkHolds_sort h).1
theorem ROk.free {len : Int} {t : Truck} (h : ROk len t) (b : Bool) : ROk len (freeT t b) := by
  cases b
  · exact h
  · exact ⟨h.l1, h.l2, h.s1, h.s2, h.p1, h.p2, h.p3, h.d1, ⟨Nat.zero_le _, fun k hk => by cases hk⟩, List.Pairwise.nil⟩
structure CR (c : Convoy) : Prop where
  ok : COk c
  r : ∀ k, k < c.trucks.length → ROk c.len (c.trucks.getD k default)
theorem cr_of {c : Convoy} (h : chkConvoy c = 0) : CR c := by
  have hc := cok_of h
  refine ⟨hc, fun k hk => rok_of hc.l1 hc.l2 ?_⟩
  unfold chkConvoy at h
  split at h; · cases h
  split at h; · cases h
  exact chkTrucks_ok h _ (by simp [List.getD, hk])
theorem arr_lo {c : Convoy} {t : Truck} (h : ROk c.len t) : (arrS c t).lo = t.start + hitR t c.len t.hi := by
  simp only [arrS]; rw [if_pos (hit_lohi h)]
theorem keepF_eq {c : Convoy} (h : CR c) {k : Nat} (hk : k < c.trucks.length) : keepF c k = (c.trucks.getD k default).start + hitR (c.trucks.getD k default) c.len (c.trucks.getD k default).hi := arr_lo (h.r k hk)
theorem failF_eq {c : Convoy} (h : CR c) {k : Nat} (hk : k < c.trucks.length) : failF c k = (c.trucks.getD k default).start + hitR (freeT (c.trucks.getD k default) true) c.len (c.trucks.getD k default).hi := arr_lo ((h.r k hk).free true)
def worst (s : Nat → Int) (n : Nat) : Nat := (idxF (fun i => decide (maxN s (n - 1) = s i)) n 0).toNat
def dropS (s : Nat → Int) (k : Nat) : Nat → Int := fun i => if i = k then -1 else s i
def soonP (s : Nat → Int) (n : Nat) : Nat → Nat → Int
  | 0 => s
  | m + 1 => dropS (soonP s n m) (worst (soonP s n m) n)
def loP (s fast : Nat → Int) (n : Nat) : Nat → Int
  | 0 => 0
  | m + 1 => max (loP s fast n m) (fast (worst (soonP s n m) n))
def maxL (lo : Int) (s : Nat → Int) : Nat → Int
  | 0 => lo
  | k + 1 => max (maxL lo s k) (s k)
def failsP (c : Convoy) : Nat := min c.fails.toNat c.trucks.length
def offPLo (c : Convoy) : Int := maxL (loP (keepF c) (failF c) c.trucks.length (failsP c)) (soonP (keepF c) c.trucks.length (failsP c)) c.trucks.length
def offP (c : Convoy) : Span := ⟨offPLo c, maxUp (endF c) c.trucks.length⟩
theorem maxN_hit (s : Nat → Int) : ∀ n, ∃ k, k ≤ n ∧ maxN s n = s k
  | 0 => ⟨0, Nat.le_refl _, rfl⟩
  | n + 1 => by
    obtain ⟨k, h1, h2⟩ := maxN_hit s n
    simp only [maxN]
    by_cases h : s (n + 1) ≤ maxN s n
    · exact ⟨k, by omega, by omega⟩
    · exact ⟨n + 1, Nat.le_refl _, by omega⟩
theorem idxF_found {p : Nat → Bool} : ∀ (f k K : Nat), k ≤ K → K < k + f → p K = true → ∃ j, k ≤ j ∧ j ≤ K ∧ p j = true ∧ idxF p f k = j
  | 0, k, K, h1, h2, _ => by omega
  | f + 1, k, K, h1, h2, h3 => by
    simp only [idxF]
    by_cases e : p k = true
    · rw [if_pos e]; exact ⟨k, Nat.le_refl _, h1, e, rfl⟩
    · rw [if_neg e]
      have hne : k ≠ K := fun h => e (h ▸ h3)
      obtain ⟨j, a, b, d, e⟩ := idxF_found f (k + 1) K (by omega) (by omega) h3
      exact ⟨j, by omega, b, d, e⟩
theorem worst_spec (s : Nat → Int) {n : Nat} (hn : 1 ≤ n) : worst s n < n ∧ s (worst s n) = maxN s (n - 1) ∧ idxF (fun i => decide (maxN s (n - 1) = s i)) n 0 = (worst s n : Int) := by
  obtain ⟨K, h1, h2⟩ := maxN_hit s (n - 1)
  obtain ⟨j, a, b, d, e⟩ := idxF_found (p := fun i => decide (maxN s (n - 1) = s i)) n 0 K (Nat.zero_le _) (by omega) (by simpa using h2)
  have hw : worst s n = j := by unfold worst; rw [e]; rfl
  rw [hw]
  exact ⟨by omega, by simpa using (of_decide_eq_true d).symm, e⟩
theorem maxUp_s (f : Nat → Int) (k : Nat) : maxUp f (k + 1) = max (maxUp f k) (f k) := rfl
theorem soonP_zero (s : Nat → Int) (n : Nat) : soonP s n 0 = s := rfl
theorem loP_zero (s f : Nat → Int) (n : Nat) : loP s f n 0 = 0 := rfl
theorem maxL_zero (lo : Int) (s : Nat → Int) : maxL lo s 0 = lo := rfl
theorem soonP_succ (s : Nat → Int) (n m i : Nat) : soonP s n (m + 1) i = if i = worst (soonP s n m) n then -1 else soonP s n m i := rfl
theorem loP_succ (s f : Nat → Int) (n m : Nat) : loP s f n (m + 1) = max (loP s f n m) (f (worst (soonP s n m) n)) := rfl
theorem maxL_succ (lo : Int) (s : Nat → Int) (k : Nat) : maxL lo s (k + 1) = max (maxL lo s k) (s k) := rfl
theorem updI (g : Nat → Int) (j : Nat) (v : Int) (i : Nat) : updF (fun i => encI (g i)) j [.int .i64 v] i = encI (if i = j then v else g i) := by
  unfold updF; split <;> simp [encI]
theorem endF_eq (c : Convoy) (k : Nat) : endF c k = (c.trucks.getD k default).start + hitR (c.trucks.getD k default) c.len (c.trucks.getD k default).lo := rfl
attribute [local irreducible] worst soonP loP maxL maxN keepF failF endF maxUp
theorem c81 (c : Convoy) (hc : CR c) : Contract seat 81 [.agg (encConvoy c)] (.agg (encSpan (offP c))) := by
  refine contract_introW (fn := Tryd.f81) Tryd.func81 rfl (by kernel_rfl) rfl ?_ ?_ ?_
  · exact PureL.cons (.agg _ (pure_convoy c)) PureL.nil
  · exact .agg _ (pure_span _)
  intro w κ
  have hn := hc.ok.n
  have hf1 := hc.ok.f1
  have hf2 := hc.ok.f2
  have hmax0 := maxUp_zero (endF c)
  repeat' (first
    | (apply WL_q; apply Eq.refl; apply Eq.refl; (first | (apply q_mvI <;> apply Eq.refl) | (apply q_asI <;> apply Eq.refl) | (apply q_ldb <;> apply Eq.refl) | (apply q_fab <;> apply Eq.refl) | (apply q_cmp <;> apply Eq.refl) | (apply q_arith <;> (first | apply Eq.refl | omega)) | (apply q_len <;> apply Eq.refl) | (apply q_ldba <;> apply Eq.refl) | (apply q_min <;> apply Eq.refl) | (apply q_max <;> apply Eq.refl) | (apply q_ldo <;> (first | apply Eq.refl | omega)) | (apply q_iao <;> (first | apply Eq.refl | omega)) | (apply q_leno <;> apply Eq.refl) | (apply q_mvO <;> apply Eq.refl) | (apply q_asO <;> apply Eq.refl) | (apply q_asN <;> apply Eq.refl)))
    | apply W_seq
    | apply W_region
    | apply T_normal
    | apply WL_nil
    | apply T_exit
    | apply B_normal
    | apply B_exit_eq
    | apply W_skip
    | apply W_exit
    | apply W_ret
    | apply W_block
    | (apply WL_n; apply Eq.refl; (first | (apply n_boxa <;> apply Eq.refl) | (apply n_alloc <;> apply Eq.refl) | (apply n_stb <;> (first | apply Eq.refl | (intro _ e; cases e))) | (apply n_sto <;> (first | apply Eq.refl | omega))))
    | apply W_regionG
    | (apply WG_nil; kernel_rfl)
    | (apply WG_q; (first | (apply want_none; apply Eq.refl) | (apply want_some; apply Eq.refl; apply Eq.refl; apply Eq.refl)); apply Eq.refl; first | (apply fq_bld <;> apply Eq.refl) | (apply fq_blda <;> apply Eq.refl) | (apply fq_fn; apply Eq.refl) | (apply fq_mf; apply Eq.refl) | (apply FQ_intro; intro _; (first | (apply q_mvI <;> apply Eq.refl) | (apply q_asI <;> apply Eq.refl) | (apply q_ldb <;> apply Eq.refl) | (apply q_fab <;> apply Eq.refl) | (apply q_cmp <;> apply Eq.refl) | (apply q_arith <;> (first | apply Eq.refl | omega)) | (apply q_len <;> apply Eq.refl) | (apply q_ldba <;> apply Eq.refl) | (apply q_min <;> apply Eq.refl) | (apply q_max <;> apply Eq.refl) | (apply q_ldo <;> (first | apply Eq.refl | omega)) | (apply q_iao <;> (first | apply Eq.refl | omega)) | (apply q_leno <;> apply Eq.refl) | (apply q_mvO <;> apply Eq.refl) | (apply q_asO <;> apply Eq.refl) | (apply q_asN <;> apply Eq.refl))))
    | (apply WG_n; (first | (apply want_none; apply Eq.refl) | (apply want_some; apply Eq.refl; apply Eq.refl; apply Eq.refl)); (first | (apply f_alloc <;> apply Eq.refl) | (apply f_stb <;> (first | apply Eq.refl | (intro _ e; cases e))) | (apply f_bsl <;> apply Eq.refl)))
    | (apply W_cD; apply Eq.refl; intro _; rotate_left 1; intro _; rotate_left 1))
  refine W_wk (wk_nil 4 4 3 1 (fun i => encI (keepF c i)) rfl) ?_
  refine W_wk (wk_nil 5 5 3 1 (fun i => encI (failF c i)) rfl) ?_
  refine W_loopR [1, 2, 3, 15] [1, 2] (fun k : Nat => [(4, .os 4 (k + 1)), (5, .os 5 (k + 1)), (16, .int .i64 k)]) (fun k => [(3, 1), (4, k + 1), (5, k + 1)])
      (fun k => [(3, .box [.int .i64 0, .int .i64 (maxUp (endF c) k)]), (4, .arr 3 1 k (fun i => encI (keepF c i))), (5, .arr 3 1 k (fun i => encI (failF c i)))])
      (fun k => k ≤ c.trucks.length) (fun k => c.trucks.length - k) 0 (Nat.zero_le _) (by refine ⟨?_, ?_, ?_⟩ <;> repeat' (first | exact trivial | apply And.intro | apply Eq.refl | (apply toI; apply Eq.refl; first | omega | assumption) | (apply toB; apply Eq.refl; repeat' (first | apply Eq.refl | apply consS | (apply consI; first | apply Eq.refl | omega | assumption))))) (fun k h hk => ?_)
  have hr : (k : Int) < c.trucks.length → ROk c.len (c.trucks.getD k default) := fun h => hc.r _ (by omega)
  have k1 : (k : Int) < c.trucks.length → Contract seat 112 [.agg (encTrack (freeT (c.trucks.getD k default) false) c.len)] (.int .i64 (keepF c k)) := fun h => by rw [keepF_eq hc (by omega)]; exact c112 _ _ (hr h)
  have k2 : (k : Int) < c.trucks.length → Contract seat 112 [.agg (encTrack (freeT (c.trucks.getD k default) true) c.len)] (.int .i64 (failF c k)) := fun h => by rw [failF_eq hc (by omega)]; exact c112 _ _ ((hr h).free true)
  have k3 : (k : Int) < c.trucks.length → Contract seat 98 [.agg (encTrack (freeT (c.trucks.getD k default) false) c.len)] (.int .i64 (endF c k)) := fun h => by rw [endF_eq]; exact c98 _ _ (hr h)
  repeat' (first
    | (apply WL_q; apply Eq.refl; apply Eq.refl; (first | (apply q_mvI <;> apply Eq.refl) | (apply q_asI <;> apply Eq.refl) | (apply q_ldb <;> apply Eq.refl) | (apply q_fab <;> apply Eq.refl) | (apply q_cmp <;> apply Eq.refl) | (apply q_arith <;> (first | apply Eq.refl | omega)) | (apply q_len <;> apply Eq.refl) | (apply q_ldba <;> apply Eq.refl) | (apply q_min <;> apply Eq.refl) | (apply q_max <;> apply Eq.refl) | (apply q_ldo <;> (first | apply Eq.refl | omega)) | (apply q_iao <;> (first | apply Eq.refl | omega)) | (apply q_leno <;> apply Eq.refl) | (apply q_mvO <;> apply Eq.refl) | (apply q_asO <;> apply Eq.refl) | (apply q_asN <;> apply Eq.refl)))
    | apply W_seq
    | apply W_region
    | apply T_normal
    | apply WL_nil
    | apply T_exit
    | apply B_normal
    | apply B_exit_eq
    | apply W_skip
    | apply W_exit
    | apply W_ret
    | apply W_block
    | (apply WL_calls; apply Eq.refl; apply Eq.refl; rotate_left 1; exact (fz_refl _ _); rotate_right 1; exact (c84 c k false (by omega)); apply Eq.refl; apply Eq.refl)
    | (apply WL_calls; apply Eq.refl; apply Eq.refl; exact (c84 c k false (by omega)); (focus ((repeat' (first | exact FzL.nil | refine FzL.cons _ _ _ _ ?_ ?_ | exact Fz.os _ _ _ _ _ _ rfl rfl | exact Fz.bx _ _ _ _ rfl rfl | refine Fz.fn _ _ _ ?_ | exact Fz.same _ | exact fz_refl _ _)); done)); apply Eq.refl; apply Eq.refl)
    | (apply WL_calls; apply Eq.refl; apply Eq.refl; rotate_left 1; exact (fz_refl _ _); rotate_right 1; exact (c84 c k true (by omega)); apply Eq.refl; apply Eq.refl)
    | (apply WL_calls; apply Eq.refl; apply Eq.refl; exact (c84 c k true (by omega)); (focus ((repeat' (first | exact FzL.nil | refine FzL.cons _ _ _ _ ?_ ?_ | exact Fz.os _ _ _ _ _ _ rfl rfl | exact Fz.bx _ _ _ _ rfl rfl | refine Fz.fn _ _ _ ?_ | exact Fz.same _ | exact fz_refl _ _)); done)); apply Eq.refl; apply Eq.refl)
    | (apply WL_calls; apply Eq.refl; apply Eq.refl; rotate_left 1; exact (fz_refl _ _); rotate_right 1; exact (c83 (freeT (c.trucks.getD k default) false) c.len ((hr (by assumption)).free false)); apply Eq.refl; apply Eq.refl)
    | (apply WL_calls; apply Eq.refl; apply Eq.refl; exact (c83 (freeT (c.trucks.getD k default) false) c.len ((hr (by assumption)).free false)); (focus ((repeat' (first | exact FzL.nil | refine FzL.cons _ _ _ _ ?_ ?_ | exact Fz.os _ _ _ _ _ _ rfl rfl | exact Fz.bx _ _ _ _ rfl rfl | refine Fz.fn _ _ _ ?_ | exact Fz.same _ | exact fz_refl _ _)); done)); apply Eq.refl; apply Eq.refl)
    | (apply WL_calls; apply Eq.refl; apply Eq.refl; rotate_left 1; exact (fz_refl _ _); rotate_right 1; exact (c83 (freeT (c.trucks.getD k default) true) c.len ((hr (by assumption)).free true)); apply Eq.refl; apply Eq.refl)
    | (apply WL_calls; apply Eq.refl; apply Eq.refl; exact (c83 (freeT (c.trucks.getD k default) true) c.len ((hr (by assumption)).free true)); (focus ((repeat' (first | exact FzL.nil | refine FzL.cons _ _ _ _ ?_ ?_ | exact Fz.os _ _ _ _ _ _ rfl rfl | exact Fz.bx _ _ _ _ rfl rfl | refine Fz.fn _ _ _ ?_ | exact Fz.same _ | exact fz_refl _ _)); done)); apply Eq.refl; apply Eq.refl)
    | (apply WL_calls; apply Eq.refl; apply Eq.refl; rotate_left 1; exact (fz_refl _ _); rotate_right 1; exact (k1 (by assumption)); apply Eq.refl; apply Eq.refl)
    | (apply WL_calls; apply Eq.refl; apply Eq.refl; exact (k1 (by assumption)); (focus ((repeat' (first | exact FzL.nil | refine FzL.cons _ _ _ _ ?_ ?_ | exact Fz.os _ _ _ _ _ _ rfl rfl | exact Fz.bx _ _ _ _ rfl rfl | refine Fz.fn _ _ _ ?_ | exact Fz.same _ | exact fz_refl _ _)); done)); apply Eq.refl; apply Eq.refl)
    | (apply WL_calls; apply Eq.refl; apply Eq.refl; rotate_left 1; exact (fz_refl _ _); rotate_right 1; exact (k2 (by assumption)); apply Eq.refl; apply Eq.refl)
    | (apply WL_calls; apply Eq.refl; apply Eq.refl; exact (k2 (by assumption)); (focus ((repeat' (first | exact FzL.nil | refine FzL.cons _ _ _ _ ?_ ?_ | exact Fz.os _ _ _ _ _ _ rfl rfl | exact Fz.bx _ _ _ _ rfl rfl | refine Fz.fn _ _ _ ?_ | exact Fz.same _ | exact fz_refl _ _)); done)); apply Eq.refl; apply Eq.refl)
    | (apply WL_calls; apply Eq.refl; apply Eq.refl; rotate_left 1; exact (fz_refl _ _); rotate_right 1; exact (k3 (by assumption)); apply Eq.refl; apply Eq.refl)
    | (apply WL_calls; apply Eq.refl; apply Eq.refl; exact (k3 (by assumption)); (focus ((repeat' (first | exact FzL.nil | refine FzL.cons _ _ _ _ ?_ ?_ | exact Fz.os _ _ _ _ _ _ rfl rfl | exact Fz.bx _ _ _ _ rfl rfl | refine Fz.fn _ _ _ ?_ | exact Fz.same _ | exact fz_refl _ _)); done)); apply Eq.refl; apply Eq.refl)
    | (apply WL_n; apply Eq.refl; (first | (apply n_boxa <;> apply Eq.refl) | (apply n_alloc <;> apply Eq.refl) | (apply n_stb <;> (first | apply Eq.refl | (intro _ e; cases e))) | (apply n_sto <;> (first | apply Eq.refl | omega))))
    | apply W_regionG
    | (apply WG_nil; kernel_rfl)
    | (apply WG_q; (first | (apply want_none; apply Eq.refl) | (apply want_some; apply Eq.refl; apply Eq.refl; apply Eq.refl)); apply Eq.refl; first | (apply fq_bld <;> apply Eq.refl) | (apply fq_blda <;> apply Eq.refl) | (apply fq_fn; apply Eq.refl) | (apply fq_mf; apply Eq.refl) | (apply FQ_intro; intro _; (first | (apply q_mvI <;> apply Eq.refl) | (apply q_asI <;> apply Eq.refl) | (apply q_ldb <;> apply Eq.refl) | (apply q_fab <;> apply Eq.refl) | (apply q_cmp <;> apply Eq.refl) | (apply q_arith <;> (first | apply Eq.refl | omega)) | (apply q_len <;> apply Eq.refl) | (apply q_ldba <;> apply Eq.refl) | (apply q_min <;> apply Eq.refl) | (apply q_max <;> apply Eq.refl) | (apply q_ldo <;> (first | apply Eq.refl | omega)) | (apply q_iao <;> (first | apply Eq.refl | omega)) | (apply q_leno <;> apply Eq.refl) | (apply q_mvO <;> apply Eq.refl) | (apply q_asO <;> apply Eq.refl) | (apply q_asN <;> apply Eq.refl))))
    | (apply WG_call; (first | (apply want_none; apply Eq.refl) | (apply want_some; apply Eq.refl; apply Eq.refl; apply Eq.refl)); apply Eq.refl; apply Eq.refl; apply Eq.refl; exact (c84 c k false (by omega)))
    | (apply WG_call; (first | (apply want_none; apply Eq.refl) | (apply want_some; apply Eq.refl; apply Eq.refl; apply Eq.refl)); apply Eq.refl; apply Eq.refl; apply Eq.refl; exact (c84 c k true (by omega)))
    | (apply WG_call; (first | (apply want_none; apply Eq.refl) | (apply want_some; apply Eq.refl; apply Eq.refl; apply Eq.refl)); apply Eq.refl; apply Eq.refl; apply Eq.refl; exact (c83 (freeT (c.trucks.getD k default) false) c.len ((hr (by assumption)).free false)))
    | (apply WG_call; (first | (apply want_none; apply Eq.refl) | (apply want_some; apply Eq.refl; apply Eq.refl; apply Eq.refl)); apply Eq.refl; apply Eq.refl; apply Eq.refl; exact (c83 (freeT (c.trucks.getD k default) true) c.len ((hr (by assumption)).free true)))
    | (apply WG_call; (first | (apply want_none; apply Eq.refl) | (apply want_some; apply Eq.refl; apply Eq.refl; apply Eq.refl)); apply Eq.refl; apply Eq.refl; apply Eq.refl; exact (k1 (by assumption)))
    | (apply WG_call; (first | (apply want_none; apply Eq.refl) | (apply want_some; apply Eq.refl; apply Eq.refl; apply Eq.refl)); apply Eq.refl; apply Eq.refl; apply Eq.refl; exact (k2 (by assumption)))
    | (apply WG_call; (first | (apply want_none; apply Eq.refl) | (apply want_some; apply Eq.refl; apply Eq.refl; apply Eq.refl)); apply Eq.refl; apply Eq.refl; apply Eq.refl; exact (k3 (by assumption)))
    | (apply WG_n; (first | (apply want_none; apply Eq.refl) | (apply want_some; apply Eq.refl; apply Eq.refl; apply Eq.refl)); (first | (refine f_app (f' := fun i => encI (keepF c i)) rfl rfl rfl rfl rfl rfl rfl rfl rfl rfl rfl rfl rfl rfl rfl (by first | omega | (show (k + 1) * 8 ≤ _; omega)) (by omega) rfl (fun i hi => rfl) (fun i hi => by (obtain rfl : i = 0 := by omega); rfl)) | (refine f_app (f' := fun i => encI (failF c i)) rfl rfl rfl rfl rfl rfl rfl rfl rfl rfl rfl rfl rfl rfl rfl (by first | omega | (show (k + 1) * 8 ≤ _; omega)) (by omega) rfl (fun i hi => rfl) (fun i hi => by (obtain rfl : i = 0 := by omega); rfl)) | (apply f_alloc <;> apply Eq.refl) | (apply f_stb <;> (first | apply Eq.refl | (intro _ e; cases e))) | (apply f_bsl <;> apply Eq.refl)))
    | (apply W_cD; apply Eq.refl; intro _; rotate_left 1; intro _; rotate_left 1))
  · have hmk := maxUp_s (endF c) k
    exact ⟨k + 1, by omega, by omega, (by apply reach_now; refine ⟨?_, ?_, ?_, ?_, ?_⟩ <;> repeat' (first | exact trivial | apply And.intro | apply Eq.refl | (apply toI; apply Eq.refl; first | omega | assumption) | (apply toB; apply Eq.refl; repeat' (first | apply Eq.refl | apply consS | (apply consI; first | apply Eq.refl | omega | assumption)))))⟩
  obtain rfl : k = c.trucks.length := by omega
  clear k1 k2 k3 hr
  have hz1 := soonP_zero (keepF c) c.trucks.length
  have hz2 := loP_zero (keepF c) (failF c) c.trucks.length
  have hfp : ((failsP c : Nat) : Int) = min c.fails c.trucks.length := by unfold failsP; omega
  refine W_loopR [1, 2, 3, 5] [1, 2, 5] (fun m : Nat => [(4, .os 4 (c.trucks.length + 1)), (9, .int .i64 m)]) (fun m => [(3, 1), (4, c.trucks.length + 1)])
      (fun m => [(3, .box [.int .i64 (loP (keepF c) (failF c) c.trucks.length m), .int .i64 (maxUp (endF c) c.trucks.length)]), (4, .arr 3 1 c.trucks.length (fun i => encI (soonP (keepF c) c.trucks.length m i)))])
      (fun m => m ≤ failsP c) (fun m => failsP c - m) 0 (Nat.zero_le _) (by refine ⟨?_, ?_, ?_⟩ <;> repeat' (first | exact trivial | apply And.intro | apply Eq.refl | (apply toI; apply Eq.refl; first | omega | assumption) | (apply toB; apply Eq.refl; repeat' (first | apply Eq.refl | apply consS | (apply consI; first | apply Eq.refl | omega | assumption))) | (apply toArr; apply Eq.refl; intro i; rw [hz1]))) (fun m g hm => ?_)
  have hw : m < failsP c → _ := fun h => worst_spec (soonP (keepF c) c.trucks.length m) (n := c.trucks.length) (by omega)
  have k1 : m < failsP c → Contract seat 114 [.sl 1 c.trucks.length (fun i => encI (soonP (keepF c) c.trucks.length m i))] _ := fun h => c114 _ _ (by omega) (by omega)
  have k2 : m < failsP c → Contract seat 113 [.sl 1 c.trucks.length (fun i => encI (soonP (keepF c) c.trucks.length m i)), .int .i64 (maxN (soonP (keepF c) c.trucks.length m) (c.trucks.length - 1))] (.int .i64 ((worst (soonP (keepF c) c.trucks.length m) c.trucks.length : Nat) : Int)) := fun h => by
    rw [← (hw h).2.2]; exact c113 _ _ (by omega) _
  have hw1 : m < failsP c → worst (soonP (keepF c) c.trucks.length m) c.trucks.length < c.trucks.length := fun h => (hw h).1
  have hl2 : max (loP (keepF c) (failF c) c.trucks.length m) (failF c ((worst (soonP (keepF c) c.trucks.length m) c.trucks.length : Nat) : Int).toNat) = loP (keepF c) (failF c) c.trucks.length (m + 1) := (loP_succ (keepF c) (failF c) c.trucks.length m).symm
  have hs2 := soonP_succ (keepF c) c.trucks.length m
  clear hw
  repeat' (first
    | (apply WL_q; apply Eq.refl; apply Eq.refl; (first | (apply q_mvI <;> apply Eq.refl) | (apply q_asI <;> apply Eq.refl) | (apply q_ldb <;> apply Eq.refl) | (apply q_fab <;> apply Eq.refl) | (apply q_cmp <;> apply Eq.refl) | (apply q_arith <;> (first | apply Eq.refl | omega)) | (apply q_len <;> apply Eq.refl) | (apply q_ldba <;> apply Eq.refl) | (apply q_min <;> apply Eq.refl) | (apply q_max <;> apply Eq.refl) | (apply q_ldo <;> (first | apply Eq.refl | omega)) | (apply q_iao <;> (first | apply Eq.refl | omega)) | (apply q_leno <;> apply Eq.refl) | (apply q_mvO <;> apply Eq.refl) | (apply q_asO <;> apply Eq.refl) | (apply q_asN <;> apply Eq.refl)))
    | apply W_seq
    | apply W_region
    | apply T_normal
    | apply WL_nil
    | apply T_exit
    | apply B_normal
    | apply B_exit_eq
    | apply W_skip
    | apply W_exit
    | apply W_ret
    | apply W_block
    | (apply WL_calls; apply Eq.refl; apply Eq.refl; rotate_left 1; exact (fz_refl _ _); rotate_right 1; exact (k1 (by omega)); apply Eq.refl; apply Eq.refl)
    | (apply WL_calls; apply Eq.refl; apply Eq.refl; exact (k1 (by omega)); (focus ((repeat' (first | exact FzL.nil | refine FzL.cons _ _ _ _ ?_ ?_ | exact Fz.os _ _ _ _ _ _ rfl rfl | exact Fz.bx _ _ _ _ rfl rfl | refine Fz.fn _ _ _ ?_ | exact Fz.same _ | exact fz_refl _ _)); done)); apply Eq.refl; apply Eq.refl)
    | (apply WL_calls; apply Eq.refl; apply Eq.refl; rotate_left 1; exact (fz_refl _ _); rotate_right 1; exact (k2 (by omega)); apply Eq.refl; apply Eq.refl)
    | (apply WL_calls; apply Eq.refl; apply Eq.refl; exact (k2 (by omega)); (focus ((repeat' (first | exact FzL.nil | refine FzL.cons _ _ _ _ ?_ ?_ | exact Fz.os _ _ _ _ _ _ rfl rfl | exact Fz.bx _ _ _ _ rfl rfl | refine Fz.fn _ _ _ ?_ | exact Fz.same _ | exact fz_refl _ _)); done)); apply Eq.refl; apply Eq.refl)
    | (apply WL_n; apply Eq.refl; (first | (apply n_boxa <;> apply Eq.refl) | (apply n_alloc <;> apply Eq.refl) | (apply n_stb <;> (first | apply Eq.refl | (intro _ e; cases e))) | (apply n_sto <;> (first | apply Eq.refl | omega))))
    | apply W_regionG
    | (apply WG_nil; kernel_rfl)
    | (apply WG_q; (first | (apply want_none; apply Eq.refl) | (apply want_some; apply Eq.refl; apply Eq.refl; apply Eq.refl)); apply Eq.refl; first | (apply fq_bld <;> apply Eq.refl) | (apply fq_blda <;> apply Eq.refl) | (apply fq_fn; apply Eq.refl) | (apply fq_mf; apply Eq.refl) | (apply FQ_intro; intro _; (first | (apply q_mvI <;> apply Eq.refl) | (apply q_asI <;> apply Eq.refl) | (apply q_ldb <;> apply Eq.refl) | (apply q_fab <;> apply Eq.refl) | (apply q_cmp <;> apply Eq.refl) | (apply q_arith <;> (first | apply Eq.refl | omega)) | (apply q_len <;> apply Eq.refl) | (apply q_ldba <;> apply Eq.refl) | (apply q_min <;> apply Eq.refl) | (apply q_max <;> apply Eq.refl) | (apply q_ldo <;> (first | apply Eq.refl | omega)) | (apply q_iao <;> (first | apply Eq.refl | omega)) | (apply q_leno <;> apply Eq.refl) | (apply q_mvO <;> apply Eq.refl) | (apply q_asO <;> apply Eq.refl) | (apply q_asN <;> apply Eq.refl))))
    | (apply WG_call; (first | (apply want_none; apply Eq.refl) | (apply want_some; apply Eq.refl; apply Eq.refl; apply Eq.refl)); apply Eq.refl; apply Eq.refl; apply Eq.refl; exact (k1 (by omega)))
    | (apply WG_call; (first | (apply want_none; apply Eq.refl) | (apply want_some; apply Eq.refl; apply Eq.refl; apply Eq.refl)); apply Eq.refl; apply Eq.refl; apply Eq.refl; exact (k2 (by omega)))
    | (apply WG_n; (first | (apply want_none; apply Eq.refl) | (apply want_some; apply Eq.refl; apply Eq.refl; apply Eq.refl)); (first | (apply f_alloc <;> apply Eq.refl) | (apply f_stb <;> (first | apply Eq.refl | (intro _ e; cases e))) | (apply f_bsl <;> apply Eq.refl)))
    | (apply W_cD; apply Eq.refl; intro _; rotate_left 1; intro _; rotate_left 1))
  · exact ⟨m + 1, by omega, by omega, (by apply reach_now; refine ⟨?_, ?_, ?_, ?_, ?_⟩ <;> repeat' (first | exact trivial | apply And.intro | apply Eq.refl | (apply toI; apply Eq.refl; first | omega | assumption) | (apply toB; apply Eq.refl; repeat' (first | apply Eq.refl | apply consS | (apply consI; first | apply Eq.refl | omega | assumption))) | (apply toArr; apply Eq.refl; intro i; rw [hs2]; exact updI _ _ _ _)))⟩
  obtain rfl : m = failsP c := by omega
  clear k1 k2 hw1 hl2 hs2
  have hz3 := maxL_zero (loP (keepF c) (failF c) c.trucks.length (failsP c)) (soonP (keepF c) c.trucks.length (failsP c))
  refine W_loopR [2, 3, 68, 69] [2] (fun k : Nat => [(68, .os 4 (c.trucks.length + 1)), (70, .int .i64 k)]) (fun m => [(3, 1), (4, c.trucks.length + 1)])
      (fun k => [(3, .box [.int .i64 (maxL (loP (keepF c) (failF c) c.trucks.length (failsP c)) (soonP (keepF c) c.trucks.length (failsP c)) k), .int .i64 (maxUp (endF c) c.trucks.length)]), (4, .arr 3 1 c.trucks.length (fun i => encI (soonP (keepF c) c.trucks.length (failsP c) i)))])
      (fun k => k ≤ c.trucks.length) (fun k => c.trucks.length - k) 0 (Nat.zero_le _) (by refine ⟨?_, ?_, ?_⟩ <;> repeat' (first | exact trivial | apply And.intro | apply Eq.refl | (apply toI; apply Eq.refl; first | omega | assumption) | (apply toB; apply Eq.refl; repeat' (first | apply Eq.refl | apply consS | (apply consI; first | apply Eq.refl | omega | assumption))))) (fun k g hk => ?_)
  have hl3 : max (maxL (loP (keepF c) (failF c) c.trucks.length (failsP c)) (soonP (keepF c) c.trucks.length (failsP c)) k) (soonP (keepF c) c.trucks.length (failsP c) (k : Int).toNat) = maxL (loP (keepF c) (failF c) c.trucks.length (failsP c)) (soonP (keepF c) c.trucks.length (failsP c)) (k + 1) := (maxL_succ _ _ _).symm
  repeat' (first
    | (apply WL_q; apply Eq.refl; apply Eq.refl; (first | (apply q_mvI <;> apply Eq.refl) | (apply q_asI <;> apply Eq.refl) | (apply q_ldb <;> apply Eq.refl) | (apply q_fab <;> apply Eq.refl) | (apply q_cmp <;> apply Eq.refl) | (apply q_arith <;> (first | apply Eq.refl | omega)) | (apply q_len <;> apply Eq.refl) | (apply q_ldba <;> apply Eq.refl) | (apply q_min <;> apply Eq.refl) | (apply q_max <;> apply Eq.refl) | (apply q_ldo <;> (first | apply Eq.refl | omega)) | (apply q_iao <;> (first | apply Eq.refl | omega)) | (apply q_leno <;> apply Eq.refl) | (apply q_mvO <;> apply Eq.refl) | (apply q_asO <;> apply Eq.refl) | (apply q_asN <;> apply Eq.refl)))
    | apply W_seq
    | apply W_region
    | apply T_normal
    | apply WL_nil
    | apply T_exit
    | apply B_normal
    | apply B_exit_eq
    | apply W_skip
    | apply W_exit
    | apply W_ret
    | apply W_block
    | (apply WL_n; apply Eq.refl; (first | (apply n_boxa <;> apply Eq.refl) | (apply n_alloc <;> apply Eq.refl) | (apply n_stb <;> (first | apply Eq.refl | (intro _ e; cases e))) | (apply n_sto <;> (first | apply Eq.refl | omega))))
    | apply W_regionG
    | (apply WG_nil; kernel_rfl)
    | (apply WG_q; (first | (apply want_none; apply Eq.refl) | (apply want_some; apply Eq.refl; apply Eq.refl; apply Eq.refl)); apply Eq.refl; first | (apply fq_bld <;> apply Eq.refl) | (apply fq_blda <;> apply Eq.refl) | (apply fq_fn; apply Eq.refl) | (apply fq_mf; apply Eq.refl) | (apply FQ_intro; intro _; (first | (apply q_mvI <;> apply Eq.refl) | (apply q_asI <;> apply Eq.refl) | (apply q_ldb <;> apply Eq.refl) | (apply q_fab <;> apply Eq.refl) | (apply q_cmp <;> apply Eq.refl) | (apply q_arith <;> (first | apply Eq.refl | omega)) | (apply q_len <;> apply Eq.refl) | (apply q_ldba <;> apply Eq.refl) | (apply q_min <;> apply Eq.refl) | (apply q_max <;> apply Eq.refl) | (apply q_ldo <;> (first | apply Eq.refl | omega)) | (apply q_iao <;> (first | apply Eq.refl | omega)) | (apply q_leno <;> apply Eq.refl) | (apply q_mvO <;> apply Eq.refl) | (apply q_asO <;> apply Eq.refl) | (apply q_asN <;> apply Eq.refl))))
    | (apply WG_n; (first | (apply want_none; apply Eq.refl) | (apply want_some; apply Eq.refl; apply Eq.refl; apply Eq.refl)); (first | (apply f_alloc <;> apply Eq.refl) | (apply f_stb <;> (first | apply Eq.refl | (intro _ e; cases e))) | (apply f_bsl <;> apply Eq.refl)))
    | (apply W_cD; apply Eq.refl; intro _; rotate_left 1; intro _; rotate_left 1))
  · exact ⟨k + 1, by omega, by omega, (by apply reach_now; refine ⟨?_, ?_, ?_, ?_, ?_⟩ <;> repeat' (first | exact trivial | apply And.intro | apply Eq.refl | (apply toI; apply Eq.refl; first | omega | assumption) | (apply toB; apply Eq.refl; repeat' (first | apply Eq.refl | apply consS | (apply consI; first | apply Eq.refl | omega | assumption)))))⟩
  · obtain rfl : k = c.trucks.length := by omega
    ((try apply fin_now); first | (apply fin_A; apply Eq.refl; apply Eq.refl; apply Eq.refl; apply Eq.refl; apply Eq.refl; apply Eq.refl; apply Eq.refl; apply Eq.refl; try apply Eq.refl))
theorem c36 (c : Convoy) : Contract seat 36 [.agg (encConvoy c)] (.tup [.agg (encSpan (if chkConvoy c = 0 then offP c else default)), .int .i64 (chkConvoy c)]) := by
  refine contract_introW (fn := Tryd.f36) Tryd.func36 rfl (by kernel_rfl) rfl ?_ ?_ ?_
  · exact PureL.cons (.agg _ (pure_convoy c)) PureL.nil
  · exact .tup _ (PureL.cons (.agg _ (pure_span _)) (PureL.cons (.int _ _) PureL.nil))
  intro w κ
  repeat' (first
    | (apply WL_q; apply Eq.refl; apply Eq.refl; (first | (apply q_mvI <;> apply Eq.refl) | (apply q_asI <;> apply Eq.refl) | (apply q_cmp <;> apply Eq.refl) | (apply q_ldba <;> apply Eq.refl) | (apply q_bld <;> apply Eq.refl)))
    | apply W_seq
    | apply W_region
    | apply T_normal
    | apply WL_nil
    | apply T_ret
    | apply W_skip
    | apply W_ret
    | (apply WL_call; apply Eq.refl; apply Eq.refl; rotate_left 1; apply Eq.refl; rotate_right 1; exact (c21 c); apply Eq.refl)
    | (apply WL_call; apply Eq.refl; apply Eq.refl; rotate_left 1; apply Eq.refl; rotate_right 1; exact (c81 c (cr_of (by assumption))); apply Eq.refl)
    | (apply WL_n; apply Eq.refl; (first | (apply n_boxa <;> apply Eq.refl) | (apply n_alloc <;> apply Eq.refl) | (apply n_stb <;> (first | apply Eq.refl | (intro _ e; cases e)))))
    | (apply W_cND; apply Eq.refl; intro _; rotate_left 1; intro _; rotate_left 1))
  · ((try apply fin_now); first | (focus (apply fin_2; apply Eq.refl; (first | (apply rv_I; apply Eq.refl) | (apply rv_A <;> apply Eq.refl)); (first | (apply rv_I; apply Eq.refl) | (apply rv_A <;> apply Eq.refl)); all_goals try apply Eq.refl)))
    rw [if_neg (by assumption)]; rfl
  · ((try apply fin_now); first | (focus (apply fin_2; apply Eq.refl; (first | (apply rv_I; apply Eq.refl) | (apply rv_A <;> apply Eq.refl)); (first | (apply rv_I; apply Eq.refl) | (apply rv_A <;> apply Eq.refl)); all_goals try apply Eq.refl)))
    · rw [if_pos (by assumption)]; rfl
    · simp [*]
end Go.Proofs.YtafnhieaeejlcaaDoor
namespace Go.Proofs.YtafnhieaeejlcaaDoor
open Go Go.Ab
set_option maxRecDepth 100000
set_option maxHeartbeats 4000000
attribute [local irreducible] W WL QOp NOp thenQ blockQ FinQ WG FQ Want FinW WI WIL thenI blockI
def atP (t : Truck) (len m : Int) : Span := if min (m - t.start) (hitR t len t.lo) < 0 then default else gone t len (min (m - t.start) (hitR t len t.lo)).toNat
theorem c87 (t : Truck) (len m : Int) (h : ROk len t) (m0 : 0 ≤ m) (m1 : m ≤ 100000) : Contract seat 87 [.agg (encTrack t len), .int .i64 m] (.agg (encSpan (atP t len m))) := by
  have hn := (hitR_ok h (Int.le_refl t.lo)).2.2
  have s1 := h.s1
  have s2 := h.s2
  refine contract_introW (fn := Tryd.f87) Tryd.func87 rfl (by kernel_rfl) rfl ?_ ?_ ?_
  · exact PureL.cons (.agg _ (pure_track t len)) (PureL.cons (.int _ _) PureL.nil)
  · exact .agg _ (pure_span _)
  intro w κ
  repeat' (first
    | (apply WL_q; apply Eq.refl; apply Eq.refl; (first | (apply q_mvI <;> apply Eq.refl) | (apply q_asI <;> apply Eq.refl) | (apply q_ldb <;> apply Eq.refl) | (apply q_fab <;> apply Eq.refl) | (apply q_cmp <;> apply Eq.refl) | (apply q_arith <;> (first | apply Eq.refl | omega)) | (apply q_len <;> apply Eq.refl) | (apply q_ia <;> (first | apply Eq.refl | omega)) | (apply q_ldra <;> apply Eq.refl) | (apply q_bld <;> apply Eq.refl) | (apply q_min <;> apply Eq.refl)))
    | apply W_seq
    | apply W_region
    | apply T_normal
    | apply WL_nil
    | apply T_ret
    | apply W_skip
    | apply W_ret
    | (apply WL_n; apply Eq.refl; (first | (apply n_boxa <;> apply Eq.refl) | (apply n_alloc <;> apply Eq.refl) | (apply n_stb <;> (first | apply Eq.refl | (intro _ e; cases e)))))
    | (apply W_cD; apply Eq.refl; intro _; rotate_left 1; intro _; rotate_left 1))
  all_goals (have e : ((hitR t len t.lo + 1 : Nat) : Int) - 1 = hitR t len t.lo := by omega)
  · rename_i hx
    rw [e] at hx
    ((try apply fin_now); first | (apply fin_A; apply Eq.refl; apply Eq.refl; apply Eq.refl; apply Eq.refl; apply Eq.refl; apply Eq.refl; apply Eq.refl; apply Eq.refl; try apply Eq.refl))
    unfold atP; rw [if_pos hx]; rfl
  · rename_i hx
    rw [e] at hx
    ((try apply fin_now); first | (apply fin_A; apply Eq.refl; apply Eq.refl; apply Eq.refl; apply Eq.refl; apply Eq.refl; apply Eq.refl; apply Eq.refl; apply Eq.refl; try apply Eq.refl))
    unfold atP; rw [if_neg hx, e]; rfl
def roadP (way len : Int) (g : Span) : Span := ⟨min (alongI way len g.lo) (alongI way len g.hi), max (alongI way len g.lo) (alongI way len g.hi)⟩
theorem c86 (t : Truck) (len : Int) (g : Span) (h1 : -1000000 ≤ g.lo) (h2 : g.lo ≤ 1000000) (h3 : -1000000 ≤ g.hi) (h4 : g.hi ≤ 1000000) (l1 : 1 ≤ len) (l2 : len ≤ 100000) : Contract seat 86 [.agg (encTrack t len), .agg (encSpan g)] (.agg (encSpan (roadP t.way len g))) := by
  refine contract_introW (fn := Tryd.f86) Tryd.func86 rfl (by kernel_rfl) rfl ?_ ?_ ?_
  · exact PureL.cons (.agg _ (pure_track t len)) (PureL.cons (.agg _ (pure_span g)) PureL.nil)
  · exact .agg _ (pure_span _)
  intro w κ
  repeat' (first
    | (apply WL_q; apply Eq.refl; apply Eq.refl; (first | (apply q_mvI <;> apply Eq.refl) | (apply q_asI <;> apply Eq.refl) | (apply q_ldb <;> apply Eq.refl) | (apply q_fab <;> apply Eq.refl) | (apply q_ldba <;> apply Eq.refl) | (apply q_bld <;> apply Eq.refl) | (apply q_min <;> apply Eq.refl) | (apply q_max <;> apply Eq.refl)))
    | apply W_seq
    | apply W_region
    | apply T_normal
    | apply WL_nil
    | apply W_ret
    | (apply WL_n; apply Eq.refl; (first | (apply n_boxa <;> apply Eq.refl) | (apply n_alloc <;> apply Eq.refl) | (apply n_stb <;> (first | apply Eq.refl | (intro _ e; cases e)))))
    | apply W_regionG
    | (apply WG_nil; kernel_rfl)
    | (apply WG_q; (first | (apply want_none; apply Eq.refl) | (apply want_some; apply Eq.refl; apply Eq.refl; apply Eq.refl)); apply Eq.refl; first | (apply fq_bld <;> apply Eq.refl) | (apply fq_blda <;> apply Eq.refl) | (apply fq_fn; apply Eq.refl) | (apply fq_mf; apply Eq.refl) | (apply FQ_intro; intro _; (first | (apply q_mvI <;> apply Eq.refl) | (apply q_asI <;> apply Eq.refl) | (apply q_ldb <;> apply Eq.refl) | (apply q_fab <;> apply Eq.refl) | (apply q_ldba <;> apply Eq.refl) | (apply q_bld <;> apply Eq.refl) | (apply q_min <;> apply Eq.refl) | (apply q_max <;> apply Eq.refl))))
    | (apply WG_call; (first | (apply want_none; apply Eq.refl) | (apply want_some; apply Eq.refl; apply Eq.refl; apply Eq.refl)); apply Eq.refl; apply Eq.refl; apply Eq.refl; exact (c107 t len g.lo (by omega) (by omega) (by omega) (by omega)))
    | (apply WG_call; (first | (apply want_none; apply Eq.refl) | (apply want_some; apply Eq.refl; apply Eq.refl; apply Eq.refl)); apply Eq.refl; apply Eq.refl; apply Eq.refl; exact (c107 t len g.hi (by omega) (by omega) (by omega) (by omega))))
  ((try apply fin_now); first | (apply fin_A; apply Eq.refl; apply Eq.refl; apply Eq.refl; apply Eq.refl; apply Eq.refl; apply Eq.refl; apply Eq.refl; apply Eq.refl; try apply Eq.refl))
def laneP (t : Truck) (len m : Int) : Span × Int :=
  if m < t.start then (default, 2)
  else if (atP t len m).hi < stopP t.way len m t.holds then (roadP t.way len (atP t len m), 1)
  else if (atP t len m).lo ≥ stopP t.way len m t.holds then (default, 2)
  else (roadP t.way len ⟨(atP t len m).lo, stopP t.way len m t.holds - 1⟩, 3)
theorem atP_bnd {t : Truck} {len m : Int} (h : ROk len t) : 0 ≤ (atP t len m).lo ∧ (atP t len m).lo ≤ len ∧ 0 ≤ (atP t len m).hi ∧ (atP t len m).hi ≤ len := by
  have l1 := h.l1
  unfold atP
  split
  · exact ⟨Int.le_refl 0, by show (0:Int) ≤ len; omega, Int.le_refl 0, by show (0:Int) ≤ len; omega⟩
  · have a := posR_le h.l1 h.ho h.p1 (min (m - t.start) (hitR t len t.lo)).toNat
    have b := posR_le h.l1 h.ho (show 1 ≤ t.hi by have := h.p1; have := h.p2; omega) (min (m - t.start) (hitR t len t.lo)).toNat
    exact ⟨a.1, a.2, b.1, b.2⟩
theorem stopP_bnd {t : Truck} {len m : Int} (h : ROk len t) : 1 ≤ stopP t.way len m t.holds ∧ stopP t.way len m t.holds ≤ len := by
  refine ⟨stopP_ge h.l1 fun x hx => (along_le (h.ho.mem x hx).1 (h.ho.mem x hx).2.1).1, ?_⟩
  have : ∀ hs : List Hold, (∀ x ∈ hs, alongI t.way len x.a ≤ len) → stopP t.way len m hs ≤ len := by
    intro hs
    induction hs with
    | nil => intro _; exact Int.le_refl _
    | cons x hs ih =>
      intro hx
      simp only [stopP]
      split
      · exact hx x (List.mem_cons_self ..)
      · exact ih fun y hy => hx y (List.mem_cons_of_mem _ hy)
  refine this _ fun x hx => ?_
  have := along_le (way := t.way) (h.ho.mem x hx).1 (h.ho.mem x hx).2.1
  omega
theorem c85 (t : Truck) (len m : Int) (h : ROk len t) (m0 : 0 ≤ m) (m1 : m ≤ 100000) : Contract seat 85 [.agg (encTrack t len), .int .i64 m] (.tup [.agg (encSpan (laneP t len m).1), .int .i64 (laneP t len m).2]) := by
  have l1 := h.l1
  have l2 := h.l2
  obtain ⟨b1, b2, b3, b4⟩ := atP_bnd (m := m) h
  obtain ⟨p1, p2⟩ := stopP_bnd (m := m) h
  refine contract_introW (fn := Tryd.f85) Tryd.func85 rfl (by kernel_rfl) rfl ?_ ?_ ?_
  · exact PureL.cons (.agg _ (pure_track t len)) (PureL.cons (.int _ _) PureL.nil)
  · exact .tup _ (PureL.cons (.agg _ (pure_span _)) (PureL.cons (.int _ _) PureL.nil))
  intro w κ
  repeat' (first
    | (apply WL_q; apply Eq.refl; apply Eq.refl; (first | (apply q_mvI <;> apply Eq.refl) | (apply q_asI <;> apply Eq.refl) | (apply q_ldb <;> apply Eq.refl) | (apply q_fab <;> apply Eq.refl) | (apply q_cmp <;> apply Eq.refl) | (apply q_asB <;> apply Eq.refl) | (apply q_arith <;> (first | apply Eq.refl | omega)) | (apply q_ldba <;> apply Eq.refl) | (apply q_bld <;> apply Eq.refl)))
    | apply W_seq
    | apply W_region
    | apply T_normal
    | apply WL_nil
    | apply T_ret
    | apply B_normal
    | apply B_ret
    | apply W_skip
    | apply W_ret
    | apply W_block
    | (apply WL_call; apply Eq.refl; apply Eq.refl; rotate_left 1; apply Eq.refl; rotate_right 1; exact (c87 t len m h m0 m1); apply Eq.refl)
    | (apply WL_call; apply Eq.refl; apply Eq.refl; rotate_left 1; apply Eq.refl; rotate_right 1; exact (c116 t len m l1 l2 h.ho); apply Eq.refl)
    | (apply WL_call; apply Eq.refl; apply Eq.refl; rotate_left 1; apply Eq.refl; rotate_right 1; exact (c86 t len (atP t len m) (by omega) (by omega) (by omega) (by omega) l1 l2); apply Eq.refl)
    | (apply WL_call; apply Eq.refl; apply Eq.refl; rotate_left 1; apply Eq.refl; rotate_right 1; exact (c86 t len ⟨(atP t len m).lo, stopP t.way len m t.holds - 1⟩ (by show _ ≤ (atP t len m).lo; omega) (by show (atP t len m).lo ≤ _; omega) (by show _ ≤ stopP t.way len m t.holds - 1; omega) (by show stopP t.way len m t.holds - 1 ≤ _; omega) l1 l2); apply Eq.refl)
    | (apply WL_n; apply Eq.refl; (first | (apply n_boxa <;> apply Eq.refl) | (apply n_alloc <;> apply Eq.refl) | (apply n_stb <;> (first | apply Eq.refl | (intro _ e; cases e)))))
    | apply W_regionG
    | (apply WG_nil; kernel_rfl)
    | (apply WG_q; (first | (apply want_none; apply Eq.refl) | (apply want_some; apply Eq.refl; apply Eq.refl; apply Eq.refl)); apply Eq.refl; first | (apply fq_bld <;> apply Eq.refl) | (apply fq_blda <;> apply Eq.refl) | (apply fq_fn; apply Eq.refl) | (apply fq_mf; apply Eq.refl) | (apply FQ_intro; intro _; (first | (apply q_mvI <;> apply Eq.refl) | (apply q_asI <;> apply Eq.refl) | (apply q_ldb <;> apply Eq.refl) | (apply q_fab <;> apply Eq.refl) | (apply q_cmp <;> apply Eq.refl) | (apply q_asB <;> apply Eq.refl) | (apply q_arith <;> (first | apply Eq.refl | omega)) | (apply q_ldba <;> apply Eq.refl) | (apply q_bld <;> apply Eq.refl))))
    | (apply WG_call; (first | (apply want_none; apply Eq.refl) | (apply want_some; apply Eq.refl; apply Eq.refl; apply Eq.refl)); apply Eq.refl; apply Eq.refl; apply Eq.refl; exact (c87 t len m h m0 m1))
    | (apply WG_call; (first | (apply want_none; apply Eq.refl) | (apply want_some; apply Eq.refl; apply Eq.refl; apply Eq.refl)); apply Eq.refl; apply Eq.refl; apply Eq.refl; exact (c116 t len m l1 l2 h.ho))
    | (apply WG_call; (first | (apply want_none; apply Eq.refl) | (apply want_some; apply Eq.refl; apply Eq.refl; apply Eq.refl)); apply Eq.refl; apply Eq.refl; apply Eq.refl; exact (c86 t len (atP t len m) (by omega) (by omega) (by omega) (by omega) l1 l2))
    | (apply WG_call; (first | (apply want_none; apply Eq.refl) | (apply want_some; apply Eq.refl; apply Eq.refl; apply Eq.refl)); apply Eq.refl; apply Eq.refl; apply Eq.refl; exact (c86 t len ⟨(atP t len m).lo, stopP t.way len m t.holds - 1⟩ (by show _ ≤ (atP t len m).lo; omega) (by show (atP t len m).lo ≤ _; omega) (by show _ ≤ stopP t.way len m t.holds - 1; omega) (by show stopP t.way len m t.holds - 1 ≤ _; omega) l1 l2))
    | (apply WG_n; (first | (apply want_none; apply Eq.refl) | (apply want_some; apply Eq.refl; apply Eq.refl; apply Eq.refl)); (first | (apply f_alloc <;> apply Eq.refl) | (apply f_stb <;> (first | apply Eq.refl | (intro _ e; cases e)))))
    | (apply W_cD; apply Eq.refl; intro _; rotate_left 1; intro _; rotate_left 1))
  · rename_i a1
    have e : laneP t len m = (default, 2) := by unfold laneP; rw [if_pos a1]
    rw [e]; ((try apply fin_now); first | (focus (apply fin_2; apply Eq.refl; (first | (apply rv_I; apply Eq.refl) | (apply rv_A <;> apply Eq.refl)); (first | (apply rv_I; apply Eq.refl) | (apply rv_A <;> apply Eq.refl)); all_goals try apply Eq.refl)))
  · rename_i a1 a2
    have e : laneP t len m = (roadP t.way len (atP t len m), 1) := by unfold laneP; rw [if_neg a1, if_pos a2]
    rw [e]; ((try apply fin_now); first | (focus (apply fin_2; apply Eq.refl; (first | (apply rv_I; apply Eq.refl) | (apply rv_A <;> apply Eq.refl)); (first | (apply rv_I; apply Eq.refl) | (apply rv_A <;> apply Eq.refl)); all_goals try apply Eq.refl)))
  · rename_i a1 a2 a3
    have e : laneP t len m = (default, 2) := by unfold laneP; rw [if_neg a1, if_neg a2, if_pos a3]
    rw [e]; ((try apply fin_now); first | (focus (apply fin_2; apply Eq.refl; (first | (apply rv_I; apply Eq.refl) | (apply rv_A <;> apply Eq.refl)); (first | (apply rv_I; apply Eq.refl) | (apply rv_A <;> apply Eq.refl)); all_goals try apply Eq.refl)))
  · rename_i a1 a2 a3
    have e : laneP t len m = (roadP t.way len ⟨(atP t len m).lo, stopP t.way len m t.holds - 1⟩, 3) := by unfold laneP; rw [if_neg a1, if_neg a2, if_neg a3]
    rw [e]; ((try apply fin_now); first | (focus (apply fin_2; apply Eq.refl; (first | (apply rv_I; apply Eq.refl) | (apply rv_A <;> apply Eq.refl)); (first | (apply rv_I; apply Eq.refl) | (apply rv_A <;> apply Eq.refl)); all_goals try apply Eq.refl)))
end Go.Proofs.YtafnhieaeejlcaaDoor
namespace Go.Proofs.YtafnhieaeejlcaaDoor
open Go Go.Ab
set_option maxRecDepth 100000
set_option maxHeartbeats 4000000
attribute [local irreducible] W WL QOp NOp thenQ blockQ FinQ WG FQ Want FinW WI WIL thenI blockI
theorem along_bnd {way len x : Int} (h : 0 ≤ x ∧ x ≤ len) : 0 ≤ alongI way len x ∧ alongI way len x ≤ len := by unfold alongI; split <;> omega
theorem roadP_bnd {way len : Int} {g : Span} (h1 : 0 ≤ g.lo ∧ g.lo ≤ len) (h2 : 0 ≤ g.hi ∧ g.hi ≤ len) : 0 ≤ (roadP way len g).lo ∧ (roadP way len g).lo ≤ len ∧ 0 ≤ (roadP way len g).hi ∧ (roadP way len g).hi ≤ len := by
  have a := along_bnd (way := way) h1
  have b := along_bnd (way := way) h2
  simp only [roadP]; omega
theorem laneP_bnd {t : Truck} {len m : Int} (h : ROk len t) : 0 ≤ (laneP t len m).1.lo ∧ (laneP t len m).1.lo ≤ len ∧ 0 ≤ (laneP t len m).1.hi ∧ (laneP t len m).1.hi ≤ len := by
  obtain ⟨b1, b2, b3, b4⟩ := atP_bnd (m := m) h
  obtain ⟨p1, p2⟩ := stopP_bnd (m := m) h
  have l1 := h.l1
  have hz : (0 : Int) ≤ (default : Span).lo ∧ (default : Span).lo ≤ len ∧ 0 ≤ (default : Span).hi ∧ (default : Span).hi ≤ len := ⟨Int.le_refl 0, by show (0:Int) ≤ len; omega, Int.le_refl 0, by show (0:Int) ≤ len; omega⟩
  unfold laneP
  split
  · exact hz
  · split
    · exact roadP_bnd ⟨b1, b2⟩ ⟨b3, b4⟩
    · split
      · exact hz
      · exact roadP_bnd ⟨b1, b2⟩ ⟨by show 0 ≤ stopP t.way len m t.holds - 1; omega, by show stopP t.way len m t.holds - 1 ≤ len; omega⟩
def nearP (gap : Int) (x y : Span × Int) : Int × Int × Bool :=
  if x.2 = 2 ∨ y.2 = 2 then (0, 0, false)
  else (max x.1.lo (y.1.lo - gap + 1), max y.1.lo (max x.1.lo (y.1.lo - gap + 1) - gap + 1), decide (max x.1.lo (y.1.lo - gap + 1) ≤ x.1.hi) && decide (max y.1.lo (max x.1.lo (y.1.lo - gap + 1) - gap + 1) ≤ y.1.hi))
theorem c121 (gap fails : Int) (t u : Truck) (len m : Int) (ht : ROk len t) (hu : ROk len u) (g0 : 0 ≤ gap) (g1 : gap ≤ 100000) (m0 : 0 ≤ m) (m1 : m ≤ 100000) :
    Contract seat 121 [.agg [.int .i64 gap, .int .i64 fails], .agg (encTrack t len), .agg (encTrack u len), .int .i64 m]
      (.tup [.int .i64 (nearP gap (laneP t len m) (laneP u len m)).1, .int .i64 (nearP gap (laneP t len m) (laneP u len m)).2.1, .bool (nearP gap (laneP t len m) (laneP u len m)).2.2]) := by
  obtain ⟨b1, b2, b3, b4⟩ := laneP_bnd (m := m) ht
  obtain ⟨d1, d2, d3, d4⟩ := laneP_bnd (m := m) hu
  have l2 := ht.l2
  have r1 := c85 t len m ht m0 m1
  have r2 := c85 u len m hu m0 m1
  generalize laneP t len m = x at *
  generalize laneP u len m = y at *
  refine contract_introW (fn := Tryd.f121) Tryd.func121 rfl (by kernel_rfl) rfl ?_ ?_ ?_
  · exact PureL.cons (.agg _ (PureL.cons (.int _ _) (PureL.cons (.int _ _) PureL.nil))) (PureL.cons (.agg _ (pure_track _ _)) (PureL.cons (.agg _ (pure_track _ _)) (PureL.cons (.int _ _) PureL.nil)))
  · exact .tup _ (PureL.cons (.int _ _) (PureL.cons (.int _ _) (PureL.cons (.bool _) PureL.nil)))
  intro w κ
  repeat' (first
    | (apply WL_q; apply Eq.refl; apply Eq.refl; (first | (apply q_mvI <;> apply Eq.refl) | (apply q_asI <;> apply Eq.refl) | (apply q_ldb <;> apply Eq.refl) | (apply q_fab <;> apply Eq.refl) | (apply q_cmp <;> apply Eq.refl) | (apply q_mvB <;> apply Eq.refl) | (apply q_asB <;> apply Eq.refl) | (apply q_arith <;> (first | apply Eq.refl | omega)) | (apply q_ext <;> apply Eq.refl) | (apply q_pkT <;> apply Eq.refl) | (apply q_pkF <;> apply Eq.refl) | (apply q_ldba <;> apply Eq.refl) | (apply q_max <;> apply Eq.refl) | (apply q_mvT <;> apply Eq.refl)))
    | apply W_seq
    | apply W_region
    | apply T_normal
    | apply WL_nil
    | apply T_ret
    | apply W_skip
    | apply W_ret
    | (apply W_condT; apply Eq.refl)
    | (apply WL_call; apply Eq.refl; apply Eq.refl; rotate_left 1; apply Eq.refl; rotate_right 1; exact (r1); apply Eq.refl)
    | (apply WL_call; apply Eq.refl; apply Eq.refl; rotate_left 1; apply Eq.refl; rotate_right 1; exact (r2); apply Eq.refl)
    | (apply WL_n; apply Eq.refl; (first | (apply n_boxa <;> apply Eq.refl) | (apply n_alloc <;> apply Eq.refl) | (apply n_stb <;> (first | apply Eq.refl | (intro _ e; cases e)))))
    | (apply WL_yes; apply Eq.refl; apply Eq.refl; apply Eq.refl)
    | (apply WL_no; apply Eq.refl; apply Eq.refl; apply Eq.refl; apply Eq.refl; apply Eq.refl)
    | (apply L_tD; apply Eq.refl; apply Eq.refl; apply Eq.refl; intro _; rotate_left 1; intro _; rotate_left 1)
    | apply W_regionG
    | (apply WG_nil; kernel_rfl)
    | (apply WG_q; (first | (apply want_none; apply Eq.refl) | (apply want_some; apply Eq.refl; apply Eq.refl; apply Eq.refl)); apply Eq.refl; first | (apply fq_bld <;> apply Eq.refl) | (apply fq_blda <;> apply Eq.refl) | (apply fq_fn; apply Eq.refl) | (apply fq_mf; apply Eq.refl) | (apply FQ_intro; intro _; (first | (apply q_mvI <;> apply Eq.refl) | (apply q_asI <;> apply Eq.refl) | (apply q_ldb <;> apply Eq.refl) | (apply q_fab <;> apply Eq.refl) | (apply q_cmp <;> apply Eq.refl) | (apply q_mvB <;> apply Eq.refl) | (apply q_asB <;> apply Eq.refl) | (apply q_arith <;> (first | apply Eq.refl | omega)) | (apply q_ext <;> apply Eq.refl) | (apply q_pkT <;> apply Eq.refl) | (apply q_pkF <;> apply Eq.refl) | (apply q_ldba <;> apply Eq.refl) | (apply q_max <;> apply Eq.refl) | (apply q_mvT <;> apply Eq.refl))))
    | (apply WG_no; apply Eq.refl; apply Eq.refl; apply Eq.refl; apply Eq.refl; apply Eq.refl)
    | (apply G_tD; apply Eq.refl; apply Eq.refl; apply Eq.refl; intro _; rotate_left 1; intro _; rotate_left 1)
    | (apply W_cD; apply Eq.refl; intro _; rotate_left 1; intro _; rotate_left 1))
  · rename_i a1
    have e : nearP gap x y = (0, 0, false) := by unfold nearP; rw [if_pos (.inl a1)]
    rw [e]; ((try apply fin_now); first | (focus (apply fin_3; apply Eq.refl; (first | (apply rv_I; apply Eq.refl) | (apply rv_B; apply Eq.refl)); (first | (apply rv_I; apply Eq.refl) | (apply rv_B; apply Eq.refl)); (first | (apply rv_I; apply Eq.refl) | (apply rv_B; apply Eq.refl)); all_goals try apply Eq.refl)))
  · rename_i a1 a2
    have e : nearP gap x y = (0, 0, false) := by unfold nearP; rw [if_pos (.inr a2)]
    rw [e]; ((try apply fin_now); first | (focus (apply fin_3; apply Eq.refl; (first | (apply rv_I; apply Eq.refl) | (apply rv_B; apply Eq.refl)); (first | (apply rv_I; apply Eq.refl) | (apply rv_B; apply Eq.refl)); (first | (apply rv_I; apply Eq.refl) | (apply rv_B; apply Eq.refl)); all_goals try apply Eq.refl)))
  · rename_i a1 a2 a3
    have hn : ¬ (x.2 = 2 ∨ y.2 = 2) := fun h => h.elim a1 a2
    simp only [nearP, if_neg hn]
    ((try apply fin_now); first | (focus (apply fin_3; apply Eq.refl; (first | (apply rv_I; apply Eq.refl) | (apply rv_B; apply Eq.refl)); (first | (apply rv_I; apply Eq.refl) | (apply rv_B; apply Eq.refl)); (first | (apply rv_I; apply Eq.refl) | (apply rv_B; apply Eq.refl)); all_goals try apply Eq.refl)))
    simp [a3]
  · rename_i a1 a2 a3
    have hn : ¬ (x.2 = 2 ∨ y.2 = 2) := fun h => h.elim a1 a2
    simp only [nearP, if_neg hn]
    ((try apply fin_now); first | (focus (apply fin_3; apply Eq.refl; (first | (apply rv_I; apply Eq.refl) | (apply rv_B; apply Eq.refl)); (first | (apply rv_I; apply Eq.refl) | (apply rv_B; apply Eq.refl)); (first | (apply rv_I; apply Eq.refl) | (apply rv_B; apply Eq.refl)); all_goals try apply Eq.refl)))
    simp [a3]
structure Meeting where
  m : Int
  i : Int
  k : Int
  fi : Bool
  fk : Bool
  p : Int
  q : Int
  deriving DecidableEq
instance : Inhabited Meeting := ⟨⟨0, 0, 0, false, false, 0, 0⟩⟩
def encMeeting (x : Meeting) : List D := [.int .i64 x.m, .int .i64 x.i, .int .i64 x.k, .bool x.fi, .bool x.fk, .int .i64 x.p, .int .i64 x.q]
theorem pure_meeting (x : Meeting) : PureL (encMeeting x) := PureL.cons (.int _ _) (PureL.cons (.int _ _) (PureL.cons (.int _ _) (PureL.cons (.bool _) (PureL.cons (.bool _) (PureL.cons (.int _ _) (PureL.cons (.int _ _) PureL.nil))))))
def encLanes (t : Truck) (len : Int) : List D := encTrack (freeT t false) len ++ encTrack (freeT t true) len
theorem pure_lanes (t : Truck) (len : Int) : PureL (encLanes t len) := fun d hd => by
  rcases List.mem_append.1 hd with h | h <;> exact pure_track _ _ d h
def caseL : List (Bool × Bool) := [(false, false), (true, false), (false, true), (true, true)]
def nearC (gap : Int) (t u : Truck) (len m : Int) (b : Bool × Bool) : Int × Int × Bool := nearP gap (laneP (freeT t b.1) len m) (laneP (freeT u b.2) len m)
def bI (b : Bool) : Int := if b then 1 else 0
def meetC (gap fails : Int) (t u : Truck) (len m : Int) : List (Bool × Bool) → Option Meeting
  | [] => none
  | b :: l => if bI b.1 + bI b.2 > fails then meetC gap fails t u len m l
    else if (nearC gap t u len m b).2.2 then some ⟨m, 0, 0, b.1, b.2, (nearC gap t u len m b).1, (nearC gap t u len m b).2.1⟩ else meetC gap fails t u len m l
def meetP (gap fails : Int) (t u : Truck) (len m : Int) : Option Meeting := meetC gap fails t u len m caseL
theorem meet_skip {gap fails : Int} {t u : Truck} {len m : Int} {b : Bool × Bool} {l : List (Bool × Bool)} {R : Option Meeting} (h : meetC gap fails t u len m (b :: l) = R) (h1 : bI b.1 + bI b.2 > fails) : meetC gap fails t u len m l = R := by
  rw [← h, meetC, if_pos h1]
theorem meet_hit {gap fails : Int} {t u : Truck} {len m : Int} {b : Bool × Bool} {l : List (Bool × Bool)} {R : Option Meeting} (h : meetC gap fails t u len m (b :: l) = R) (h1 : ¬ bI b.1 + bI b.2 > fails) (h2 : (nearC gap t u len m b).2.2 = true) :
    R = some ⟨m, 0, 0, b.1, b.2, (nearC gap t u len m b).1, (nearC gap t u len m b).2.1⟩ := by
  rw [← h, meetC, if_neg h1, if_pos h2]
theorem meet_next {gap fails : Int} {t u : Truck} {len m : Int} {b : Bool × Bool} {l : List (Bool × Bool)} {R : Option Meeting} (h : meetC gap fails t u len m (b :: l) = R) (h1 : ¬ bI b.1 + bI b.2 > fails) (h2 : (nearC gap t u len m b).2.2 = false) : meetC gap fails t u len m l = R := by
  rw [← h, meetC, if_neg h1, h2]; rfl
def optM : Option Meeting → Meeting
  | some x => x
  | none => default
attribute [local irreducible] nearC
theorem c109 (gap fails : Int) (t u : Truck) (len m : Int) (ht : ROk len t) (hu : ROk len u) (g0 : 0 ≤ gap) (g1 : gap ≤ 100000) (m0 : 0 ≤ m) (m1 : m ≤ 100000) :
    Contract seat 109 [.agg [.int .i64 gap, .int .i64 fails], .agg (encLanes t len), .agg (encLanes u len), .int .i64 m]
      (.tup [.agg (encMeeting (optM (meetP gap fails t u len m))), .bool (meetP gap fails t u len m).isSome]) := by
  have hnear : ∀ b : Bool × Bool, Contract seat 121 [.agg [.int .i64 gap, .int .i64 fails], .agg (encTrack (freeT t b.1) len), .agg (encTrack (freeT u b.2) len), .int .i64 m]
      (.tup [.int .i64 (nearC gap t u len m b).1, .int .i64 (nearC gap t u len m b).2.1, .bool (nearC gap t u len m b).2.2]) := fun b => by
    unfold nearC; exact c121 gap fails _ _ len m (ht.free _) (hu.free _) g0 g1 m0 m1
  refine contract_introW (fn := Tryd.f109) Tryd.func109 rfl (by kernel_rfl) rfl ?_ ?_ ?_
  · exact PureL.cons (.agg _ (PureL.cons (.int _ _) (PureL.cons (.int _ _) PureL.nil))) (PureL.cons (.agg _ (pure_lanes _ _)) (PureL.cons (.agg _ (pure_lanes _ _)) (PureL.cons (.int _ _) PureL.nil)))
  · exact .tup _ (PureL.cons (.agg _ (pure_meeting _)) (PureL.cons (.bool _) PureL.nil))
  intro w κ
  have hM : meetC gap fails t u len m caseL = meetP gap fails t u len m := rfl
  generalize meetP gap fails t u len m = R at *
  repeat' (first
    | (apply WL_q; apply Eq.refl; apply Eq.refl; (first | (apply q_mvI <;> apply Eq.refl) | (apply q_asI <;> apply Eq.refl) | (apply q_ldb <;> apply Eq.refl) | (apply q_fab <;> apply Eq.refl) | (apply q_cmp <;> apply Eq.refl) | (apply q_mvB <;> apply Eq.refl) | (apply q_asB <;> apply Eq.refl) | (apply q_arith <;> (first | apply Eq.refl | omega)) | (apply q_ext <;> apply Eq.refl) | (apply q_ldba <;> apply Eq.refl) | (apply q_ldra <;> apply Eq.refl) | (apply q_bld <;> apply Eq.refl) | (apply q_mvT <;> apply Eq.refl) | (apply q_iab; apply Eq.refl; apply Eq.refl; apply Eq.refl; apply Eq.refl; (first | omega | decide); apply Eq.refl; apply Eq.refl; (first | omega | decide); apply Eq.refl; apply Eq.refl) | (apply q_idx; apply Eq.refl; apply Eq.refl; apply Eq.refl; (first | omega | decide); apply Eq.refl; apply Eq.refl; (first | omega | decide); apply Eq.refl; apply Eq.refl; apply Eq.refl)))
    | apply W_seq
    | apply W_region
    | apply T_normal
    | apply WL_nil
    | apply T_exit
    | apply T_ret
    | apply B_normal
    | apply B_ret
    | apply B_exit_eq
    | apply W_skip
    | apply W_exit
    | apply W_ret
    | apply W_block
    | (apply W_condT; apply Eq.refl)
    | (apply W_condF; apply Eq.refl)
    | (apply WL_n; apply Eq.refl; (first | (apply n_boxa <;> apply Eq.refl) | (apply n_alloc <;> apply Eq.refl) | (apply n_stb <;> (first | apply Eq.refl | (intro _ e; cases e)))))
    | apply W_regionG
    | (apply WG_nil; kernel_rfl)
    | (apply WG_q; (first | (apply want_none; apply Eq.refl) | (apply want_some; apply Eq.refl; apply Eq.refl; apply Eq.refl)); apply Eq.refl; first | (apply fq_bld <;> apply Eq.refl) | (apply fq_blda <;> apply Eq.refl) | (apply fq_fn; apply Eq.refl) | (apply fq_mf; apply Eq.refl) | (apply FQ_intro; intro _; (first | (apply q_mvI <;> apply Eq.refl) | (apply q_asI <;> apply Eq.refl) | (apply q_ldb <;> apply Eq.refl) | (apply q_fab <;> apply Eq.refl) | (apply q_cmp <;> apply Eq.refl) | (apply q_mvB <;> apply Eq.refl) | (apply q_asB <;> apply Eq.refl) | (apply q_arith <;> (first | apply Eq.refl | omega)) | (apply q_ext <;> apply Eq.refl) | (apply q_ldba <;> apply Eq.refl) | (apply q_ldra <;> apply Eq.refl) | (apply q_bld <;> apply Eq.refl) | (apply q_mvT <;> apply Eq.refl) | (apply q_iab; apply Eq.refl; apply Eq.refl; apply Eq.refl; apply Eq.refl; (first | omega | decide); apply Eq.refl; apply Eq.refl; (first | omega | decide); apply Eq.refl; apply Eq.refl) | (apply q_idx; apply Eq.refl; apply Eq.refl; apply Eq.refl; (first | omega | decide); apply Eq.refl; apply Eq.refl; (first | omega | decide); apply Eq.refl; apply Eq.refl; apply Eq.refl))))
    | (apply W_cD; apply Eq.refl; intro _; rotate_left 1; intro _; rotate_left 1)
    | (apply W_cond; apply Eq.refl; intro _; rotate_left 1; intro _; rotate_left 1))
  refine W_loopR [3, 4, 5, 6, 8, 15] [4, 5, 6] (fun k : Nat => [(16, .int .i64 k)]) (fun _ => [(8, 1)]) (fun _ => [(8, .box (encMeeting default))])
    (fun k => k ≤ 4 ∧ meetC gap fails t u len m (caseL.drop k) = R) (fun k => 4 - k) 0 ⟨Nat.zero_le _, hM⟩ (by refine ⟨?_, ?_, ?_⟩ <;> repeat' (first | exact trivial | apply And.intro | apply Eq.refl | (apply toI; apply Eq.refl; first | omega | assumption) | (apply toB; apply Eq.refl; repeat' (first | apply Eq.refl | apply consS | (apply consI; first | apply Eq.refl | omega | assumption))))) (fun k g hi => ?_)
  obtain ⟨hk, hi⟩ := hi
  obtain rfl | rfl | rfl | rfl | rfl : k = 0 ∨ k = 1 ∨ k = 2 ∨ k = 3 ∨ k = 4 := by omega
  · repeat' (first
    | (apply WL_q; apply Eq.refl; apply Eq.refl; (first | (apply q_mvI <;> apply Eq.refl) | (apply q_asI <;> apply Eq.refl) | (apply q_ldb <;> apply Eq.refl) | (apply q_fab <;> apply Eq.refl) | (apply q_cmp <;> apply Eq.refl) | (apply q_mvB <;> apply Eq.refl) | (apply q_asB <;> apply Eq.refl) | (apply q_arith <;> (first | apply Eq.refl | omega)) | (apply q_ext <;> apply Eq.refl) | (apply q_ldba <;> apply Eq.refl) | (apply q_ldra <;> apply Eq.refl) | (apply q_bld <;> apply Eq.refl) | (apply q_mvT <;> apply Eq.refl) | (apply q_iab; apply Eq.refl; apply Eq.refl; apply Eq.refl; apply Eq.refl; (first | omega | decide); apply Eq.refl; apply Eq.refl; (first | omega | decide); apply Eq.refl; apply Eq.refl) | (apply q_idx; apply Eq.refl; apply Eq.refl; apply Eq.refl; (first | omega | decide); apply Eq.refl; apply Eq.refl; (first | omega | decide); apply Eq.refl; apply Eq.refl; apply Eq.refl)))
    | apply W_seq
    | apply W_region
    | apply T_normal
    | apply WL_nil
    | apply T_exit
    | apply T_ret
    | apply B_normal
    | apply B_ret
    | apply B_exit_eq
    | apply W_skip
    | apply W_exit
    | apply W_ret
    | apply W_block
    | (apply W_condT; apply Eq.refl)
    | (apply W_condF; apply Eq.refl)
    | (apply WL_n; apply Eq.refl; (first | (apply n_boxa <;> apply Eq.refl) | (apply n_alloc <;> apply Eq.refl) | (apply n_stb <;> (first | apply Eq.refl | (intro _ e; cases e)))))
    | apply W_regionG
    | (apply WG_nil; kernel_rfl)
    | (apply WG_q; (first | (apply want_none; apply Eq.refl) | (apply want_some; apply Eq.refl; apply Eq.refl; apply Eq.refl)); apply Eq.refl; first | (apply fq_bld <;> apply Eq.refl) | (apply fq_blda <;> apply Eq.refl) | (apply fq_fn; apply Eq.refl) | (apply fq_mf; apply Eq.refl) | (apply FQ_intro; intro _; (first | (apply q_mvI <;> apply Eq.refl) | (apply q_asI <;> apply Eq.refl) | (apply q_ldb <;> apply Eq.refl) | (apply q_fab <;> apply Eq.refl) | (apply q_cmp <;> apply Eq.refl) | (apply q_mvB <;> apply Eq.refl) | (apply q_asB <;> apply Eq.refl) | (apply q_arith <;> (first | apply Eq.refl | omega)) | (apply q_ext <;> apply Eq.refl) | (apply q_ldba <;> apply Eq.refl) | (apply q_ldra <;> apply Eq.refl) | (apply q_bld <;> apply Eq.refl) | (apply q_mvT <;> apply Eq.refl) | (apply q_iab; apply Eq.refl; apply Eq.refl; apply Eq.refl; apply Eq.refl; (first | omega | decide); apply Eq.refl; apply Eq.refl; (first | omega | decide); apply Eq.refl; apply Eq.refl) | (apply q_idx; apply Eq.refl; apply Eq.refl; apply Eq.refl; (first | omega | decide); apply Eq.refl; apply Eq.refl; (first | omega | decide); apply Eq.refl; apply Eq.refl; apply Eq.refl))))
    | (apply WG_call; (first | (apply want_none; apply Eq.refl) | (apply want_some; apply Eq.refl; apply Eq.refl; apply Eq.refl)); apply Eq.refl; apply Eq.refl; apply Eq.refl; exact (hnear (false, false)))
    | (apply W_cD; apply Eq.refl; intro _; rotate_left 1; intro _; rotate_left 1)
    | (apply W_cond; apply Eq.refl; intro _; rotate_left 1; intro _; rotate_left 1))
    · rename_i a1
      exact ⟨1, ⟨by omega, meet_skip hi a1⟩, by omega, (by apply reach_now; refine ⟨?_, ?_, ?_, ?_, ?_⟩ <;> repeat' (first | exact trivial | apply And.intro | apply Eq.refl | (apply toI; apply Eq.refl; first | omega | assumption) | (apply toB; apply Eq.refl; repeat' (first | apply Eq.refl | apply consS | (apply consI; first | apply Eq.refl | omega | assumption)))))⟩
    · rename_i a1 a2
      rw [meet_hit hi a1 a2]
      ((try apply fin_now); first | (focus (apply fin_2; apply Eq.refl; (first | (apply rv_B; apply Eq.refl) | (apply rv_A <;> apply Eq.refl)); (first | (apply rv_B; apply Eq.refl) | (apply rv_A <;> apply Eq.refl)); all_goals try apply Eq.refl)))
    · rename_i a1 a2
      exact ⟨1, ⟨by omega, meet_next hi a1 a2⟩, by omega, (by apply reach_now; refine ⟨?_, ?_, ?_, ?_, ?_⟩ <;> repeat' (first | exact trivial | apply And.intro | apply Eq.refl | (apply toI; apply Eq.refl; first | omega | assumption) | (apply toB; apply Eq.refl; repeat' (first | apply Eq.refl | apply consS | (apply consI; first | apply Eq.refl | omega | assumption)))))⟩
  · repeat' (first
    | (apply WL_q; apply Eq.refl; apply Eq.refl; (first | (apply q_mvI <;> apply Eq.refl) | (apply q_asI <;> apply Eq.refl) | (apply q_ldb <;> apply Eq.refl) | (apply q_fab <;> apply Eq.refl) | (apply q_cmp <;> apply Eq.refl) | (apply q_mvB <;> apply Eq.refl) | (apply q_asB <;> apply Eq.refl) | (apply q_arith <;> (first | apply Eq.refl | omega)) | (apply q_ext <;> apply Eq.refl) | (apply q_ldba <;> apply Eq.refl) | (apply q_ldra <;> apply Eq.refl) | (apply q_bld <;> apply Eq.refl) | (apply q_mvT <;> apply Eq.refl) | (apply q_iab; apply Eq.refl; apply Eq.refl; apply Eq.refl; apply Eq.refl; (first | omega | decide); apply Eq.refl; apply Eq.refl; (first | omega | decide); apply Eq.refl; apply Eq.refl) | (apply q_idx; apply Eq.refl; apply Eq.refl; apply Eq.refl; (first | omega | decide); apply Eq.refl; apply Eq.refl; (first | omega | decide); apply Eq.refl; apply Eq.refl; apply Eq.refl)))
    | apply W_seq
    | apply W_region
    | apply T_normal
    | apply WL_nil
    | apply T_exit
    | apply T_ret
    | apply B_normal
    | apply B_ret
    | apply B_exit_eq
    | apply W_skip
    | apply W_exit
    | apply W_ret
    | apply W_block
    | (apply W_condT; apply Eq.refl)
    | (apply W_condF; apply Eq.refl)
    | (apply WL_n; apply Eq.refl; (first | (apply n_boxa <;> apply Eq.refl) | (apply n_alloc <;> apply Eq.refl) | (apply n_stb <;> (first | apply Eq.refl | (intro _ e; cases e)))))
    | apply W_regionG
    | (apply WG_nil; kernel_rfl)
    | (apply WG_q; (first | (apply want_none; apply Eq.refl) | (apply want_some; apply Eq.refl; apply Eq.refl; apply Eq.refl)); apply Eq.refl; first | (apply fq_bld <;> apply Eq.refl) | (apply fq_blda <;> apply Eq.refl) | (apply fq_fn; apply Eq.refl) | (apply fq_mf; apply Eq.refl) | (apply FQ_intro; intro _; (first | (apply q_mvI <;> apply Eq.refl) | (apply q_asI <;> apply Eq.refl) | (apply q_ldb <;> apply Eq.refl) | (apply q_fab <;> apply Eq.refl) | (apply q_cmp <;> apply Eq.refl) | (apply q_mvB <;> apply Eq.refl) | (apply q_asB <;> apply Eq.refl) | (apply q_arith <;> (first | apply Eq.refl | omega)) | (apply q_ext <;> apply Eq.refl) | (apply q_ldba <;> apply Eq.refl) | (apply q_ldra <;> apply Eq.refl) | (apply q_bld <;> apply Eq.refl) | (apply q_mvT <;> apply Eq.refl) | (apply q_iab; apply Eq.refl; apply Eq.refl; apply Eq.refl; apply Eq.refl; (first | omega | decide); apply Eq.refl; apply Eq.refl; (first | omega | decide); apply Eq.refl; apply Eq.refl) | (apply q_idx; apply Eq.refl; apply Eq.refl; apply Eq.refl; (first | omega | decide); apply Eq.refl; apply Eq.refl; (first | omega | decide); apply Eq.refl; apply Eq.refl; apply Eq.refl))))
    | (apply WG_call; (first | (apply want_none; apply Eq.refl) | (apply want_some; apply Eq.refl; apply Eq.refl; apply Eq.refl)); apply Eq.refl; apply Eq.refl; apply Eq.refl; exact (hnear (true, false)))
    | (apply W_cD; apply Eq.refl; intro _; rotate_left 1; intro _; rotate_left 1)
    | (apply W_cond; apply Eq.refl; intro _; rotate_left 1; intro _; rotate_left 1))
    · rename_i a1
      exact ⟨2, ⟨by omega, meet_skip hi a1⟩, by omega, (by apply reach_now; refine ⟨?_, ?_, ?_, ?_, ?_⟩ <;> repeat' (first | exact trivial | apply And.intro | apply Eq.refl | (apply toI; apply Eq.refl; first | omega | assumption) | (apply toB; apply Eq.refl; repeat' (first | apply Eq.refl | apply consS | (apply consI; first | apply Eq.refl | omega | assumption)))))⟩
    · rename_i a1 a2
      rw [meet_hit hi a1 a2]
      ((try apply fin_now); first | (focus (apply fin_2; apply Eq.refl; (first | (apply rv_B; apply Eq.refl) | (apply rv_A <;> apply Eq.refl)); (first | (apply rv_B; apply Eq.refl) | (apply rv_A <;> apply Eq.refl)); all_goals try apply Eq.refl)))
    · rename_i a1 a2
      exact ⟨2, ⟨by omega, meet_next hi a1 a2⟩, by omega, (by apply reach_now; refine ⟨?_, ?_, ?_, ?_, ?_⟩ <;> repeat' (first | exact trivial | apply And.intro | apply Eq.refl | (apply toI; apply Eq.refl; first | omega | assumption) | (apply toB; apply Eq.refl; repeat' (first | apply Eq.refl | apply consS | (apply consI; first | apply Eq.refl | omega | assumption)))))⟩
  · repeat' (first
    | (apply WL_q; apply Eq.refl; apply Eq.refl; (first | (apply q_mvI <;> apply Eq.refl) | (apply q_asI <;> apply Eq.refl) | (apply q_ldb <;> apply Eq.refl) | (apply q_fab <;> apply Eq.refl) | (apply q_cmp <;> apply Eq.refl) | (apply q_mvB <;> apply Eq.refl) | (apply q_asB <;> apply Eq.refl) | (apply q_arith <;> (first | apply Eq.refl | omega)) | (apply q_ext <;> apply Eq.refl) | (apply q_ldba <;> apply Eq.refl) | (apply q_ldra <;> apply Eq.refl) | (apply q_bld <;> apply Eq.refl) | (apply q_mvT <;> apply Eq.refl) | (apply q_iab; apply Eq.refl; apply Eq.refl; apply Eq.refl; apply Eq.refl; (first | omega | decide); apply Eq.refl; apply Eq.refl; (first | omega | decide); apply Eq.refl; apply Eq.refl) | (apply q_idx; apply Eq.refl; apply Eq.refl; apply Eq.refl; (first | omega | decide); apply Eq.refl; apply Eq.refl; (first | omega | decide); apply Eq.refl; apply Eq.refl; apply Eq.refl)))
    | apply W_seq
    | apply W_region
    | apply T_normal
    | apply WL_nil
    | apply T_exit
    | apply T_ret
    | apply B_normal
    | apply B_ret
    | apply B_exit_eq
    | apply W_skip
    | apply W_exit
    | apply W_ret
    | apply W_block
    | (apply W_condT; apply Eq.refl)
    | (apply W_condF; apply Eq.refl)
    | (apply WL_n; apply Eq.refl; (first | (apply n_boxa <;> apply Eq.refl) | (apply n_alloc <;> apply Eq.refl) | (apply n_stb <;> (first | apply Eq.refl | (intro _ e; cases e)))))
    | apply W_regionG
    | (apply WG_nil; kernel_rfl)
    | (apply WG_q; (first | (apply want_none; apply Eq.refl) | (apply want_some; apply Eq.refl; apply Eq.refl; apply Eq.refl)); apply Eq.refl; first | (apply fq_bld <;> apply Eq.refl) | (apply fq_blda <;> apply Eq.refl) | (apply fq_fn; apply Eq.refl) | (apply fq_mf; apply Eq.refl) | (apply FQ_intro; intro _; (first | (apply q_mvI <;> apply Eq.refl) | (apply q_asI <;> apply Eq.refl) | (apply q_ldb <;> apply Eq.refl) | (apply q_fab <;> apply Eq.refl) | (apply q_cmp <;> apply Eq.refl) | (apply q_mvB <;> apply Eq.refl) | (apply q_asB <;> apply Eq.refl) | (apply q_arith <;> (first | apply Eq.refl | omega)) | (apply q_ext <;> apply Eq.refl) | (apply q_ldba <;> apply Eq.refl) | (apply q_ldra <;> apply Eq.refl) | (apply q_bld <;> apply Eq.refl) | (apply q_mvT <;> apply Eq.refl) | (apply q_iab; apply Eq.refl; apply Eq.refl; apply Eq.refl; apply Eq.refl; (first | omega | decide); apply Eq.refl; apply Eq.refl; (first | omega | decide); apply Eq.refl; apply Eq.refl) | (apply q_idx; apply Eq.refl; apply Eq.refl; apply Eq.refl; (first | omega | decide); apply Eq.refl; apply Eq.refl; (first | omega | decide); apply Eq.refl; apply Eq.refl; apply Eq.refl))))
    | (apply WG_call; (first | (apply want_none; apply Eq.refl) | (apply want_some; apply Eq.refl; apply Eq.refl; apply Eq.refl)); apply Eq.refl; apply Eq.refl; apply Eq.refl; exact (hnear (false, true)))
    | (apply W_cD; apply Eq.refl; intro _; rotate_left 1; intro _; rotate_left 1)
    | (apply W_cond; apply Eq.refl; intro _; rotate_left 1; intro _; rotate_left 1))
    · rename_i a1
      exact ⟨3, ⟨by omega, meet_skip hi a1⟩, by omega, (by apply reach_now; refine ⟨?_, ?_, ?_, ?_, ?_⟩ <;> repeat' (first | exact trivial | apply And.intro | apply Eq.refl | (apply toI; apply Eq.refl; first | omega | assumption) | (apply toB; apply Eq.refl; repeat' (first | apply Eq.refl | apply consS | (apply consI; first | apply Eq.refl | omega | assumption)))))⟩
    · rename_i a1 a2
      rw [meet_hit hi a1 a2]
      ((try apply fin_now); first | (focus (apply fin_2; apply Eq.refl; (first | (apply rv_B; apply Eq.refl) | (apply rv_A <;> apply Eq.refl)); (first | (apply rv_B; apply Eq.refl) | (apply rv_A <;> apply Eq.refl)); all_goals try apply Eq.refl)))
    · rename_i a1 a2
      exact ⟨3, ⟨by omega, meet_next hi a1 a2⟩, by omega, (by apply reach_now; refine ⟨?_, ?_, ?_, ?_, ?_⟩ <;> repeat' (first | exact trivial | apply And.intro | apply Eq.refl | (apply toI; apply Eq.refl; first | omega | assumption) | (apply toB; apply Eq.refl; repeat' (first | apply Eq.refl | apply consS | (apply consI; first | apply Eq.refl | omega | assumption)))))⟩
  · repeat' (first
    | (apply WL_q; apply Eq.refl; apply Eq.refl; (first | (apply q_mvI <;> apply Eq.refl) | (apply q_asI <;> apply Eq.refl) | (apply q_ldb <;> apply Eq.refl) | (apply q_fab <;> apply Eq.refl) | (apply q_cmp <;> apply Eq.refl) | (apply q_mvB <;> apply Eq.refl) | (apply q_asB <;> apply Eq.refl) | (apply q_arith <;> (first | apply Eq.refl | omega)) | (apply q_ext <;> apply Eq.refl) | (apply q_ldba <;> apply Eq.refl) | (apply q_ldra <;> apply Eq.refl) | (apply q_bld <;> apply Eq.refl) | (apply q_mvT <;> apply Eq.refl) | (apply q_iab; apply Eq.refl; apply Eq.refl; apply Eq.refl; apply Eq.refl; (first | omega | decide); apply Eq.refl; apply Eq.refl; (first | omega | decide); apply Eq.refl; apply Eq.refl) | (apply q_idx; apply Eq.refl; apply Eq.refl; apply Eq.refl; (first | omega | decide); apply Eq.refl; apply Eq.refl; (first | omega | decide); apply Eq.refl; apply Eq.refl; apply Eq.refl)))
    | apply W_seq
    | apply W_region
    | apply T_normal
    | apply WL_nil
    | apply T_exit
    | apply T_ret
    | apply B_normal
    | apply B_ret
    | apply B_exit_eq
    | apply W_skip
    | apply W_exit
    | apply W_ret
    | apply W_block
    | (apply W_condT; apply Eq.refl)
    | (apply W_condF; apply Eq.refl)
    | (apply WL_n; apply Eq.refl; (first | (apply n_boxa <;> apply Eq.refl) | (apply n_alloc <;> apply Eq.refl) | (apply n_stb <;> (first | apply Eq.refl | (intro _ e; cases e)))))
    | apply W_regionG
    | (apply WG_nil; kernel_rfl)
    | (apply WG_q; (first | (apply want_none; apply Eq.refl) | (apply want_some; apply Eq.refl; apply Eq.refl; apply Eq.refl)); apply Eq.refl; first | (apply fq_bld <;> apply Eq.refl) | (apply fq_blda <;> apply Eq.refl) | (apply fq_fn; apply Eq.refl) | (apply fq_mf; apply Eq.refl) | (apply FQ_intro; intro _; (first | (apply q_mvI <;> apply Eq.refl) | (apply q_asI <;> apply Eq.refl) | (apply q_ldb <;> apply Eq.refl) | (apply q_fab <;> apply Eq.refl) | (apply q_cmp <;> apply Eq.refl) | (apply q_mvB <;> apply Eq.refl) | (apply q_asB <;> apply Eq.refl) | (apply q_arith <;> (first | apply Eq.refl | omega)) | (apply q_ext <;> apply Eq.refl) | (apply q_ldba <;> apply Eq.refl) | (apply q_ldra <;> apply Eq.refl) | (apply q_bld <;> apply Eq.refl) | (apply q_mvT <;> apply Eq.refl) | (apply q_iab; apply Eq.refl; apply Eq.refl; apply Eq.refl; apply Eq.refl; (first | omega | decide); apply Eq.refl; apply Eq.refl; (first | omega | decide); apply Eq.refl; apply Eq.refl) | (apply q_idx; apply Eq.refl; apply Eq.refl; apply Eq.refl; (first | omega | decide); apply Eq.refl; apply Eq.refl; (first | omega | decide); apply Eq.refl; apply Eq.refl; apply Eq.refl))))
    | (apply WG_call; (first | (apply want_none; apply Eq.refl) | (apply want_some; apply Eq.refl; apply Eq.refl; apply Eq.refl)); apply Eq.refl; apply Eq.refl; apply Eq.refl; exact (hnear (true, true)))
    | (apply W_cD; apply Eq.refl; intro _; rotate_left 1; intro _; rotate_left 1)
    | (apply W_cond; apply Eq.refl; intro _; rotate_left 1; intro _; rotate_left 1))
    · rename_i a1
      exact ⟨4, ⟨by omega, meet_skip hi a1⟩, by omega, (by apply reach_now; refine ⟨?_, ?_, ?_, ?_, ?_⟩ <;> repeat' (first | exact trivial | apply And.intro | apply Eq.refl | (apply toI; apply Eq.refl; first | omega | assumption) | (apply toB; apply Eq.refl; repeat' (first | apply Eq.refl | apply consS | (apply consI; first | apply Eq.refl | omega | assumption)))))⟩
    · rename_i a1 a2
      rw [meet_hit hi a1 a2]
      ((try apply fin_now); first | (focus (apply fin_2; apply Eq.refl; (first | (apply rv_B; apply Eq.refl) | (apply rv_A <;> apply Eq.refl)); (first | (apply rv_B; apply Eq.refl) | (apply rv_A <;> apply Eq.refl)); all_goals try apply Eq.refl)))
    · rename_i a1 a2
      exact ⟨4, ⟨by omega, meet_next hi a1 a2⟩, by omega, (by apply reach_now; refine ⟨?_, ?_, ?_, ?_, ?_⟩ <;> repeat' (first | exact trivial | apply And.intro | apply Eq.refl | (apply toI; apply Eq.refl; first | omega | assumption) | (apply toB; apply Eq.refl; repeat' (first | apply Eq.refl | apply consS | (apply consI; first | apply Eq.refl | omega | assumption)))))⟩
  · have hR : R = none := hi.symm
    rw [hR]
    repeat' (first
    | (apply WL_q; apply Eq.refl; apply Eq.refl; (first | (apply q_mvI <;> apply Eq.refl) | (apply q_asI <;> apply Eq.refl) | (apply q_ldb <;> apply Eq.refl) | (apply q_fab <;> apply Eq.refl) | (apply q_cmp <;> apply Eq.refl) | (apply q_mvB <;> apply Eq.refl) | (apply q_asB <;> apply Eq.refl) | (apply q_arith <;> (first | apply Eq.refl | omega)) | (apply q_ext <;> apply Eq.refl) | (apply q_ldba <;> apply Eq.refl) | (apply q_ldra <;> apply Eq.refl) | (apply q_bld <;> apply Eq.refl) | (apply q_mvT <;> apply Eq.refl) | (apply q_iab; apply Eq.refl; apply Eq.refl; apply Eq.refl; apply Eq.refl; (first | omega | decide); apply Eq.refl; apply Eq.refl; (first | omega | decide); apply Eq.refl; apply Eq.refl) | (apply q_idx; apply Eq.refl; apply Eq.refl; apply Eq.refl; (first | omega | decide); apply Eq.refl; apply Eq.refl; (first | omega | decide); apply Eq.refl; apply Eq.refl; apply Eq.refl)))
    | apply W_seq
    | apply W_region
    | apply T_normal
    | apply WL_nil
    | apply T_exit
    | apply T_ret
    | apply B_normal
    | apply B_ret
    | apply B_exit_eq
    | apply W_skip
    | apply W_exit
    | apply W_ret
    | apply W_block
    | (apply W_condT; apply Eq.refl)
    | (apply W_condF; apply Eq.refl)
    | (apply WL_n; apply Eq.refl; (first | (apply n_boxa <;> apply Eq.refl) | (apply n_alloc <;> apply Eq.refl) | (apply n_stb <;> (first | apply Eq.refl | (intro _ e; cases e)))))
    | apply W_regionG
    | (apply WG_nil; kernel_rfl)
    | (apply WG_q; (first | (apply want_none; apply Eq.refl) | (apply want_some; apply Eq.refl; apply Eq.refl; apply Eq.refl)); apply Eq.refl; first | (apply fq_bld <;> apply Eq.refl) | (apply fq_blda <;> apply Eq.refl) | (apply fq_fn; apply Eq.refl) | (apply fq_mf; apply Eq.refl) | (apply FQ_intro; intro _; (first | (apply q_mvI <;> apply Eq.refl) | (apply q_asI <;> apply Eq.refl) | (apply q_ldb <;> apply Eq.refl) | (apply q_fab <;> apply Eq.refl) | (apply q_cmp <;> apply Eq.refl) | (apply q_mvB <;> apply Eq.refl) | (apply q_asB <;> apply Eq.refl) | (apply q_arith <;> (first | apply Eq.refl | omega)) | (apply q_ext <;> apply Eq.refl) | (apply q_ldba <;> apply Eq.refl) | (apply q_ldra <;> apply Eq.refl) | (apply q_bld <;> apply Eq.refl) | (apply q_mvT <;> apply Eq.refl) | (apply q_iab; apply Eq.refl; apply Eq.refl; apply Eq.refl; apply Eq.refl; (first | omega | decide); apply Eq.refl; apply Eq.refl; (first | omega | decide); apply Eq.refl; apply Eq.refl) | (apply q_idx; apply Eq.refl; apply Eq.refl; apply Eq.refl; (first | omega | decide); apply Eq.refl; apply Eq.refl; (first | omega | decide); apply Eq.refl; apply Eq.refl; apply Eq.refl))))
    | (apply W_cD; apply Eq.refl; intro _; rotate_left 1; intro _; rotate_left 1)
    | (apply W_cond; apply Eq.refl; intro _; rotate_left 1; intro _; rotate_left 1))
    ((try apply fin_now); first | (focus (apply fin_2; apply Eq.refl; (first | (apply rv_B; apply Eq.refl) | (apply rv_A <;> apply Eq.refl)); (first | (apply rv_B; apply Eq.refl) | (apply rv_A <;> apply Eq.refl)); all_goals try apply Eq.refl)))
end Go.Proofs.YtafnhieaeejlcaaDoor
namespace Go.Proofs.YtafnhieaeejlcaaDoor
open Go Go.Ab
set_option maxRecDepth 100000
set_option maxHeartbeats 4000000
attribute [local irreducible] W WL QOp NOp thenQ blockQ FinQ WG FQ Want FinW WI WIL thenI blockI
def lanesD (c : Convoy) : D := .sl 14 c.trucks.length fun k => encLanes (c.trucks.getD k default) c.len
theorem pure_lanesD (c : Convoy) : Pure (lanesD c) := .sl _ _ _ fun _ _ d hd => pure_lanes _ _ d hd
theorem c89 (c : Convoy) (hc : CR c) : Contract seat 89 [.agg (encConvoy c)] (lanesD c) := by
  refine contract_introW (fn := Tryd.f89) Tryd.func89 rfl (by kernel_rfl) rfl ?_ ?_ ?_
  · exact PureL.cons (.agg _ (pure_convoy c)) PureL.nil
  · exact pure_lanesD c
  intro w κ
  have hn := hc.ok.n
  repeat' (first
    | (apply WL_q; apply Eq.refl; apply Eq.refl; (first | (apply q_mvI <;> apply Eq.refl) | (apply q_asI <;> apply Eq.refl) | (apply q_ldb <;> apply Eq.refl) | (apply q_fab <;> apply Eq.refl) | (apply q_cmp <;> apply Eq.refl) | (apply q_arith <;> (first | apply Eq.refl | omega)) | (apply q_len <;> apply Eq.refl) | (apply q_ldba <;> apply Eq.refl) | (apply q_mvO <;> apply Eq.refl) | (apply q_asO <;> apply Eq.refl) | (apply q_asN <;> apply Eq.refl)))
    | apply W_seq
    | apply W_region
    | apply T_normal
    | apply WL_nil
    | apply T_exit
    | apply B_normal
    | apply B_exit_eq
    | apply W_skip
    | apply W_exit
    | apply W_ret
    | apply W_block
    | (apply WL_n; apply Eq.refl; (first | (apply n_boxa <;> apply Eq.refl)))
    | apply W_regionG
    | (apply WG_nil; kernel_rfl)
    | (apply WG_q; (first | (apply want_none; apply Eq.refl) | (apply want_some; apply Eq.refl; apply Eq.refl; apply Eq.refl)); apply Eq.refl; first | (apply fq_bld <;> apply Eq.refl) | (apply fq_blda <;> apply Eq.refl) | (apply fq_fn; apply Eq.refl) | (apply fq_mf; apply Eq.refl) | (apply FQ_intro; intro _; (first | (apply q_mvI <;> apply Eq.refl) | (apply q_asI <;> apply Eq.refl) | (apply q_ldb <;> apply Eq.refl) | (apply q_fab <;> apply Eq.refl) | (apply q_cmp <;> apply Eq.refl) | (apply q_arith <;> (first | apply Eq.refl | omega)) | (apply q_len <;> apply Eq.refl) | (apply q_ldba <;> apply Eq.refl) | (apply q_mvO <;> apply Eq.refl) | (apply q_asO <;> apply Eq.refl) | (apply q_asN <;> apply Eq.refl))))
    | (apply WG_n; (first | (apply want_none; apply Eq.refl) | (apply want_some; apply Eq.refl; apply Eq.refl; apply Eq.refl)); (first | (apply f_bsl <;> apply Eq.refl)))
    | (apply W_cD; apply Eq.refl; intro _; rotate_left 1; intro _; rotate_left 1))
  refine W_wk (wk_nil 3 3 132 14 (fun k => encLanes (c.trucks.getD k default) c.len) rfl) ?_
  refine W_loopR [1, 2, 7] [1, 2] (fun k : Nat => [(3, .os 3 (k + 1)), (8, .int .i64 k)]) (fun k => [(3, k + 1)]) (fun k => [(3, .arr 132 14 k (fun k => encLanes (c.trucks.getD k default) c.len))])
      (fun k => k ≤ c.trucks.length) (fun k => c.trucks.length - k) 0 (Nat.zero_le _) (by refine ⟨?_, ?_, ?_⟩ <;> repeat' (first | exact trivial | apply And.intro | apply Eq.refl | (apply toI; apply Eq.refl; first | omega | assumption) | (apply toB; apply Eq.refl; repeat' (first | apply Eq.refl | apply consS | (apply consI; first | apply Eq.refl | omega | assumption))))) (fun k h hk => ?_)
  have hr : (k : Int) < c.trucks.length → ROk c.len (c.trucks.getD k default) := fun h => hc.r _ (by omega)
  repeat' (first
    | (apply WL_q; apply Eq.refl; apply Eq.refl; (first | (apply q_mvI <;> apply Eq.refl) | (apply q_asI <;> apply Eq.refl) | (apply q_ldb <;> apply Eq.refl) | (apply q_fab <;> apply Eq.refl) | (apply q_cmp <;> apply Eq.refl) | (apply q_arith <;> (first | apply Eq.refl | omega)) | (apply q_len <;> apply Eq.refl) | (apply q_ldba <;> apply Eq.refl) | (apply q_mvO <;> apply Eq.refl) | (apply q_asO <;> apply Eq.refl) | (apply q_asN <;> apply Eq.refl)))
    | apply W_seq
    | apply W_region
    | apply T_normal
    | apply WL_nil
    | apply T_exit
    | apply B_normal
    | apply B_exit_eq
    | apply W_skip
    | apply W_exit
    | apply W_ret
    | apply W_block
    | (apply WL_n; apply Eq.refl; (first | (apply n_boxa <;> apply Eq.refl)))
    | apply W_regionG
    | (apply WG_nil; kernel_rfl)
    | (apply WG_q; (first | (apply want_none; apply Eq.refl) | (apply want_some; apply Eq.refl; apply Eq.refl; apply Eq.refl)); apply Eq.refl; first | (apply fq_bld <;> apply Eq.refl) | (apply fq_blda <;> apply Eq.refl) | (apply fq_fn; apply Eq.refl) | (apply fq_mf; apply Eq.refl) | (apply FQ_intro; intro _; (first | (apply q_mvI <;> apply Eq.refl) | (apply q_asI <;> apply Eq.refl) | (apply q_ldb <;> apply Eq.refl) | (apply q_fab <;> apply Eq.refl) | (apply q_cmp <;> apply Eq.refl) | (apply q_arith <;> (first | apply Eq.refl | omega)) | (apply q_len <;> apply Eq.refl) | (apply q_ldba <;> apply Eq.refl) | (apply q_mvO <;> apply Eq.refl) | (apply q_asO <;> apply Eq.refl) | (apply q_asN <;> apply Eq.refl))))
    | (apply WG_call; (first | (apply want_none; apply Eq.refl) | (apply want_some; apply Eq.refl; apply Eq.refl; apply Eq.refl)); apply Eq.refl; apply Eq.refl; apply Eq.refl; exact (c84 c k false (by omega)))
    | (apply WG_call; (first | (apply want_none; apply Eq.refl) | (apply want_some; apply Eq.refl; apply Eq.refl; apply Eq.refl)); apply Eq.refl; apply Eq.refl; apply Eq.refl; exact (c84 c k true (by omega)))
    | (apply WG_call; (first | (apply want_none; apply Eq.refl) | (apply want_some; apply Eq.refl; apply Eq.refl; apply Eq.refl)); apply Eq.refl; apply Eq.refl; apply Eq.refl; exact (c83 (freeT (c.trucks.getD k default) false) c.len ((hr (by assumption)).free false)))
    | (apply WG_call; (first | (apply want_none; apply Eq.refl) | (apply want_some; apply Eq.refl; apply Eq.refl; apply Eq.refl)); apply Eq.refl; apply Eq.refl; apply Eq.refl; exact (c83 (freeT (c.trucks.getD k default) true) c.len ((hr (by assumption)).free true)))
    | (apply WG_n; (first | (apply want_none; apply Eq.refl) | (apply want_some; apply Eq.refl; apply Eq.refl; apply Eq.refl)); (first | (refine f_app (f' := fun k => encLanes (c.trucks.getD k default) c.len) rfl rfl rfl rfl rfl rfl rfl rfl rfl rfl rfl rfl rfl rfl rfl (by show (k + 1) * 176 ≤ _; omega) (by omega) rfl (fun i hi => rfl) (fun i hi => by (obtain rfl : i = 0 := by omega); rfl)) | (apply f_bsl <;> apply Eq.refl)))
    | (apply W_cD; apply Eq.refl; intro _; rotate_left 1; intro _; rotate_left 1))
  · exact ⟨k + 1, by omega, by omega, (by apply reach_now; refine ⟨?_, ?_, ?_, ?_, ?_⟩ <;> repeat' (first | exact trivial | apply And.intro | apply Eq.refl | (apply toI; apply Eq.refl; first | omega | assumption) | (apply toB; apply Eq.refl; repeat' (first | apply Eq.refl | apply consS | (apply consI; first | apply Eq.refl | omega | assumption)))))⟩
  · obtain rfl : k = c.trucks.length := by omega
    refine fin_wk (wk_freeze 2 (s := 3) rfl rfl rfl) (fin_now ?_)
    ((try apply fin_now); first | (apply fin_Sl; apply Eq.refl; apply Eq.refl; apply Eq.refl; try apply Eq.refl))
def firstS {α : Type} (f : Nat → Option α) : Nat → Nat → Option α
  | 0, _ => none
  | n + 1, k => match f k with
    | some a => some a
    | none => firstS f n (k + 1)
section
variable {α : Type} {f : Nat → Option α} {n k : Nat} {R : Option α}
theorem firstS_end (hi : firstS f (n - k) k = R) (h : ¬ k < n) : R = none := by rw [← hi, show n - k = 0 by omega]; rfl
theorem firstS_hit {a : α} (hi : firstS f (n - k) k = R) (h : k < n) (hp : f k = some a) : R = some a := by
  rw [← hi, show n - k = (n - (k + 1)) + 1 by omega, firstS, hp]
theorem firstS_next (hi : firstS f (n - k) k = R) (h : k < n) (hp : f k = none) : firstS f (n - (k + 1)) (k + 1) = R := by
  rw [← hi, show n - k = (n - (k + 1)) + 1 by omega, firstS, hp]
end
def pairM (c : Convoy) (m i k : Nat) : Option Meeting := (meetP c.gap c.fails (c.trucks.getD i default) (c.trucks.getD k default) c.len m).map fun x => { x with i := i, k := k }
def srchK (c : Convoy) (m i : Nat) : Option Meeting := firstS (pairM c m i) (c.trucks.length - (i + 1)) (i + 1)
def srchI (c : Convoy) (m : Nat) : Option Meeting := firstS (srchK c m) c.trucks.length 0
def lastP (c : Convoy) : Nat := (maxUp (endF c) c.trucks.length).toNat
def meetingP (c : Convoy) : Option Meeting := firstS (srchI c) (lastP c + 1) 0
theorem endF_bnd {c : Convoy} (hc : CR c) {k : Nat} (hk : k < c.trucks.length) : 0 ≤ endF c k ∧ endF c k ≤ 21000 := (arr_bnd (hc.ok.t k hk)).2.2
theorem maxUp_bnd {c : Convoy} (hc : CR c) : ∀ k, k ≤ c.trucks.length → 0 ≤ maxUp (endF c) k ∧ maxUp (endF c) k ≤ 21000
  | 0, _ => by simp only [maxUp]; omega
  | k + 1, h => by
    have a := maxUp_bnd hc k (by omega)
    have b := endF_bnd hc (k := k) (by omega)
    simp only [maxUp]; omega
attribute [local irreducible] maxUp endF pairM srchK srchI meetP
theorem c70 (c : Convoy) (hc : CR c) : Contract seat 70 [.agg (encConvoy c)] (.tup [.agg (encMeeting (optM (meetingP c))), .bool (meetingP c).isSome]) := by
  refine contract_introW (fn := Tryd.f70) Tryd.func70 rfl (by kernel_rfl) rfl ?_ ?_ ?_
  · exact PureL.cons (.agg _ (pure_convoy c)) PureL.nil
  · exact .tup _ (PureL.cons (.agg _ (pure_meeting _)) (PureL.cons (.bool _) PureL.nil))
  intro w κ
  have hn := hc.ok.n
  have hmax0 := maxUp_zero (endF c)
  repeat' (first
    | (apply WL_q; apply Eq.refl; apply Eq.refl; (first | (apply q_mvI <;> apply Eq.refl) | (apply q_asI <;> apply Eq.refl) | (apply q_ldb <;> apply Eq.refl) | (apply q_fab <;> apply Eq.refl) | (apply q_cmp <;> apply Eq.refl) | (apply q_mvB <;> apply Eq.refl) | (apply q_asB <;> apply Eq.refl) | (apply q_arith <;> (first | apply Eq.refl | omega)) | (apply q_len <;> apply Eq.refl) | (apply q_ext <;> apply Eq.refl) | (apply q_ia <;> (first | apply Eq.refl | omega)) | (apply q_ldba <;> apply Eq.refl) | (apply q_ldra <;> apply Eq.refl) | (apply q_bld <;> apply Eq.refl) | (apply q_max <;> apply Eq.refl) | (apply q_mvS <;> apply Eq.refl) | (apply q_asS <;> apply Eq.refl) | (apply q_mvT <;> apply Eq.refl) | (apply q_mf <;> apply Eq.refl) | (apply q_mvMf <;> apply Eq.refl) | (apply q_asMf <;> apply Eq.refl) | (apply q_iab; apply Eq.refl; apply Eq.refl; apply Eq.refl; apply Eq.refl; (first | omega | decide); apply Eq.refl; apply Eq.refl; (first | omega | decide); apply Eq.refl; apply Eq.refl)))
    | apply W_seq
    | apply W_region
    | apply T_normal
    | apply WL_nil
    | apply T_exit
    | apply T_ret
    | apply B_normal
    | apply B_ret
    | apply B_exit_eq
    | apply W_skip
    | apply W_exit
    | apply W_ret
    | apply W_block
    | (apply W_condT; apply Eq.refl)
    | (apply W_condF; apply Eq.refl)
    | (apply WL_call; apply Eq.refl; apply Eq.refl; rotate_left 1; apply Eq.refl; rotate_right 1; exact (c89 c hc); apply Eq.refl)
    | (apply WL_n; apply Eq.refl; (first | (apply n_boxa <;> apply Eq.refl) | (apply n_alloc <;> apply Eq.refl) | (apply n_stb <;> (first | apply Eq.refl | (intro _ e; cases e)))))
    | apply W_regionG
    | (apply WG_nil; kernel_rfl)
    | (apply WG_q; (first | (apply want_none; apply Eq.refl) | (apply want_some; apply Eq.refl; apply Eq.refl; apply Eq.refl)); apply Eq.refl; first | (apply fq_bld <;> apply Eq.refl) | (apply fq_blda <;> apply Eq.refl) | (apply fq_fn; apply Eq.refl) | (apply fq_mf; apply Eq.refl) | (apply FQ_intro; intro _; (first | (apply q_mvI <;> apply Eq.refl) | (apply q_asI <;> apply Eq.refl) | (apply q_ldb <;> apply Eq.refl) | (apply q_fab <;> apply Eq.refl) | (apply q_cmp <;> apply Eq.refl) | (apply q_mvB <;> apply Eq.refl) | (apply q_asB <;> apply Eq.refl) | (apply q_arith <;> (first | apply Eq.refl | omega)) | (apply q_len <;> apply Eq.refl) | (apply q_ext <;> apply Eq.refl) | (apply q_ia <;> (first | apply Eq.refl | omega)) | (apply q_ldba <;> apply Eq.refl) | (apply q_ldra <;> apply Eq.refl) | (apply q_bld <;> apply Eq.refl) | (apply q_max <;> apply Eq.refl) | (apply q_mvS <;> apply Eq.refl) | (apply q_asS <;> apply Eq.refl) | (apply q_mvT <;> apply Eq.refl) | (apply q_mf <;> apply Eq.refl) | (apply q_mvMf <;> apply Eq.refl) | (apply q_asMf <;> apply Eq.refl) | (apply q_iab; apply Eq.refl; apply Eq.refl; apply Eq.refl; apply Eq.refl; (first | omega | decide); apply Eq.refl; apply Eq.refl; (first | omega | decide); apply Eq.refl; apply Eq.refl))))
    | (apply WG_callm; (first | (apply want_none; apply Eq.refl) | (apply want_some; apply Eq.refl; apply Eq.refl; apply Eq.refl)); apply Eq.refl; apply Eq.refl; apply Eq.refl; exact (c89 c hc); (focus ((repeat' (first | exact FzL.nil | refine FzL.cons _ _ _ _ ?_ ?_ | exact Fz.os _ _ _ _ _ _ rfl rfl | exact Fz.bx _ _ _ _ rfl rfl | refine Fz.fn _ _ _ ?_ | exact Fz.same _ | exact fz_refl _ _)); done)); apply Eq.refl)
    | (apply WG_n; (first | (apply want_none; apply Eq.refl) | (apply want_some; apply Eq.refl; apply Eq.refl; apply Eq.refl)); (first | (apply f_alloc <;> apply Eq.refl) | (apply f_stb <;> (first | apply Eq.refl | (intro _ e; cases e)))))
    | (apply W_cD; apply Eq.refl; intro _; rotate_left 1; intro _; rotate_left 1))
  refine W_loopR [2, 3, 4, 6, 24, 25] [2] (fun k : Nat => [(7, .int .i64 (maxUp (endF c) k)), (26, .int .i64 k)]) (fun k => []) (fun k => [])
      (fun k => k ≤ c.trucks.length) (fun k => c.trucks.length - k) 0 (Nat.zero_le _) (by refine ⟨?_, ?_, ?_⟩ <;> repeat' (first | exact trivial | apply And.intro | apply Eq.refl | (apply toI; apply Eq.refl; first | omega | assumption) | (apply toB; apply Eq.refl; repeat' (first | apply Eq.refl | apply consS | (apply consI; first | apply Eq.refl | omega | assumption))))) (fun k h hk => ?_)
  have hmk := maxUp_s (endF c) k
  have hr : (k : Int) < c.trucks.length → ROk c.len (c.trucks.getD k default) := fun h => hc.r _ (by omega)
  have k3 : (k : Int) < c.trucks.length → Contract seat 98 [.agg (encTrack (freeT (c.trucks.getD k default) false) c.len)] (.int .i64 (endF c k)) := fun h => by rw [endF_eq]; exact c98 _ _ (hr h)
  repeat' (first
    | (apply WL_q; apply Eq.refl; apply Eq.refl; (first | (apply q_mvI <;> apply Eq.refl) | (apply q_asI <;> apply Eq.refl) | (apply q_ldb <;> apply Eq.refl) | (apply q_fab <;> apply Eq.refl) | (apply q_cmp <;> apply Eq.refl) | (apply q_mvB <;> apply Eq.refl) | (apply q_asB <;> apply Eq.refl) | (apply q_arith <;> (first | apply Eq.refl | omega)) | (apply q_len <;> apply Eq.refl) | (apply q_ext <;> apply Eq.refl) | (apply q_ia <;> (first | apply Eq.refl | omega)) | (apply q_ldba <;> apply Eq.refl) | (apply q_ldra <;> apply Eq.refl) | (apply q_bld <;> apply Eq.refl) | (apply q_max <;> apply Eq.refl) | (apply q_mvS <;> apply Eq.refl) | (apply q_asS <;> apply Eq.refl) | (apply q_mvT <;> apply Eq.refl) | (apply q_mf <;> apply Eq.refl) | (apply q_mvMf <;> apply Eq.refl) | (apply q_asMf <;> apply Eq.refl) | (apply q_iab; apply Eq.refl; apply Eq.refl; apply Eq.refl; apply Eq.refl; (first | omega | decide); apply Eq.refl; apply Eq.refl; (first | omega | decide); apply Eq.refl; apply Eq.refl)))
    | apply W_seq
    | apply W_region
    | apply T_normal
    | apply WL_nil
    | apply T_exit
    | apply T_ret
    | apply B_normal
    | apply B_ret
    | apply B_exit_eq
    | apply W_skip
    | apply W_exit
    | apply W_ret
    | apply W_block
    | (apply W_condT; apply Eq.refl)
    | (apply W_condF; apply Eq.refl)
    | (apply WL_call; apply Eq.refl; apply Eq.refl; rotate_left 1; apply Eq.refl; rotate_right 1; exact (k3 (by assumption)); apply Eq.refl)
    | (apply WL_n; apply Eq.refl; (first | (apply n_boxa <;> apply Eq.refl) | (apply n_alloc <;> apply Eq.refl) | (apply n_stb <;> (first | apply Eq.refl | (intro _ e; cases e)))))
    | apply W_regionG
    | (apply WG_nil; kernel_rfl)
    | (apply WG_q; (first | (apply want_none; apply Eq.refl) | (apply want_some; apply Eq.refl; apply Eq.refl; apply Eq.refl)); apply Eq.refl; first | (apply fq_bld <;> apply Eq.refl) | (apply fq_blda <;> apply Eq.refl) | (apply fq_fn; apply Eq.refl) | (apply fq_mf; apply Eq.refl) | (apply FQ_intro; intro _; (first | (apply q_mvI <;> apply Eq.refl) | (apply q_asI <;> apply Eq.refl) | (apply q_ldb <;> apply Eq.refl) | (apply q_fab <;> apply Eq.refl) | (apply q_cmp <;> apply Eq.refl) | (apply q_mvB <;> apply Eq.refl) | (apply q_asB <;> apply Eq.refl) | (apply q_arith <;> (first | apply Eq.refl | omega)) | (apply q_len <;> apply Eq.refl) | (apply q_ext <;> apply Eq.refl) | (apply q_ia <;> (first | apply Eq.refl | omega)) | (apply q_ldba <;> apply Eq.refl) | (apply q_ldra <;> apply Eq.refl) | (apply q_bld <;> apply Eq.refl) | (apply q_max <;> apply Eq.refl) | (apply q_mvS <;> apply Eq.refl) | (apply q_asS <;> apply Eq.refl) | (apply q_mvT <;> apply Eq.refl) | (apply q_mf <;> apply Eq.refl) | (apply q_mvMf <;> apply Eq.refl) | (apply q_asMf <;> apply Eq.refl) | (apply q_iab; apply Eq.refl; apply Eq.refl; apply Eq.refl; apply Eq.refl; (first | omega | decide); apply Eq.refl; apply Eq.refl; (first | omega | decide); apply Eq.refl; apply Eq.refl))))
    | (apply WG_callm; (first | (apply want_none; apply Eq.refl) | (apply want_some; apply Eq.refl; apply Eq.refl; apply Eq.refl)); apply Eq.refl; apply Eq.refl; apply Eq.refl; exact (k3 (by assumption)); (focus ((repeat' (first | exact FzL.nil | refine FzL.cons _ _ _ _ ?_ ?_ | exact Fz.os _ _ _ _ _ _ rfl rfl | exact Fz.bx _ _ _ _ rfl rfl | refine Fz.fn _ _ _ ?_ | exact Fz.same _ | exact fz_refl _ _)); done)); apply Eq.refl)
    | (apply WG_n; (first | (apply want_none; apply Eq.refl) | (apply want_some; apply Eq.refl; apply Eq.refl; apply Eq.refl)); (first | (apply f_alloc <;> apply Eq.refl) | (apply f_stb <;> (first | apply Eq.refl | (intro _ e; cases e)))))
    | (apply W_cD; apply Eq.refl; intro _; rotate_left 1; intro _; rotate_left 1))
  · exact ⟨k + 1, by omega, by omega, (by apply reach_now; refine ⟨?_, ?_, ?_, ?_, ?_⟩ <;> repeat' (first | exact trivial | apply And.intro | apply Eq.refl | (apply toI; apply Eq.refl; first | omega | assumption) | (apply toB; apply Eq.refl; repeat' (first | apply Eq.refl | apply consS | (apply consI; first | apply Eq.refl | omega | assumption)))))⟩
  obtain rfl : k = c.trucks.length := by omega
  clear hr k3 hmk hmax0
  obtain ⟨mb1, mb2⟩ := maxUp_bnd hc c.trucks.length (Nat.le_refl _)
  have hlast : ((lastP c : Nat) : Int) = maxUp (endF c) c.trucks.length := by unfold lastP; omega
  refine W_loopR [2, 4, 6, 7] [] (fun m : Nat => [(3, .bool false), (10, .int .i64 m)]) (fun m => [(2, 1)]) (fun m => [(2, .box (encMeeting default))])
      (fun m => m ≤ lastP c + 1 ∧ firstS (srchI c) (lastP c + 1 - m) m = meetingP c) (fun m => lastP c + 1 - m) 0 ⟨Nat.zero_le _, rfl⟩ (by refine ⟨?_, ?_, ?_⟩ <;> repeat' (first | exact trivial | apply And.intro | apply Eq.refl | (apply toI; apply Eq.refl; first | omega | assumption) | (apply toB; apply Eq.refl; repeat' (first | apply Eq.refl | apply consS | (apply consI; first | apply Eq.refl | omega | assumption))))) (fun m h1 hm => ?_)
  obtain ⟨hm1, hm2⟩ := hm
  repeat' (first
    | (apply WL_q; apply Eq.refl; apply Eq.refl; (first | (apply q_mvI <;> apply Eq.refl) | (apply q_asI <;> apply Eq.refl) | (apply q_ldb <;> apply Eq.refl) | (apply q_fab <;> apply Eq.refl) | (apply q_cmp <;> apply Eq.refl) | (apply q_mvB <;> apply Eq.refl) | (apply q_asB <;> apply Eq.refl) | (apply q_arith <;> (first | apply Eq.refl | omega)) | (apply q_len <;> apply Eq.refl) | (apply q_ext <;> apply Eq.refl) | (apply q_ia <;> (first | apply Eq.refl | omega)) | (apply q_ldba <;> apply Eq.refl) | (apply q_ldra <;> apply Eq.refl) | (apply q_bld <;> apply Eq.refl) | (apply q_max <;> apply Eq.refl) | (apply q_mvS <;> apply Eq.refl) | (apply q_asS <;> apply Eq.refl) | (apply q_mvT <;> apply Eq.refl) | (apply q_mf <;> apply Eq.refl) | (apply q_mvMf <;> apply Eq.refl) | (apply q_asMf <;> apply Eq.refl) | (apply q_iab; apply Eq.refl; apply Eq.refl; apply Eq.refl; apply Eq.refl; (first | omega | decide); apply Eq.refl; apply Eq.refl; (first | omega | decide); apply Eq.refl; apply Eq.refl)))
    | apply W_seq
    | apply W_region
    | apply T_normal
    | apply WL_nil
    | apply T_exit
    | apply T_ret
    | apply B_normal
    | apply B_ret
    | apply B_exit_eq
    | apply W_skip
    | apply W_exit
    | apply W_ret
    | apply W_block
    | (apply W_condT; apply Eq.refl)
    | (apply W_condF; apply Eq.refl)
    | (apply WL_n; apply Eq.refl; (first | (apply n_boxa <;> apply Eq.refl) | (apply n_alloc <;> apply Eq.refl) | (apply n_stb <;> (first | apply Eq.refl | (intro _ e; cases e)))))
    | apply W_regionG
    | (apply WG_nil; kernel_rfl)
    | (apply WG_q; (first | (apply want_none; apply Eq.refl) | (apply want_some; apply Eq.refl; apply Eq.refl; apply Eq.refl)); apply Eq.refl; first | (apply fq_bld <;> apply Eq.refl) | (apply fq_blda <;> apply Eq.refl) | (apply fq_fn; apply Eq.refl) | (apply fq_mf; apply Eq.refl) | (apply FQ_intro; intro _; (first | (apply q_mvI <;> apply Eq.refl) | (apply q_asI <;> apply Eq.refl) | (apply q_ldb <;> apply Eq.refl) | (apply q_fab <;> apply Eq.refl) | (apply q_cmp <;> apply Eq.refl) | (apply q_mvB <;> apply Eq.refl) | (apply q_asB <;> apply Eq.refl) | (apply q_arith <;> (first | apply Eq.refl | omega)) | (apply q_len <;> apply Eq.refl) | (apply q_ext <;> apply Eq.refl) | (apply q_ia <;> (first | apply Eq.refl | omega)) | (apply q_ldba <;> apply Eq.refl) | (apply q_ldra <;> apply Eq.refl) | (apply q_bld <;> apply Eq.refl) | (apply q_max <;> apply Eq.refl) | (apply q_mvS <;> apply Eq.refl) | (apply q_asS <;> apply Eq.refl) | (apply q_mvT <;> apply Eq.refl) | (apply q_mf <;> apply Eq.refl) | (apply q_mvMf <;> apply Eq.refl) | (apply q_asMf <;> apply Eq.refl) | (apply q_iab; apply Eq.refl; apply Eq.refl; apply Eq.refl; apply Eq.refl; (first | omega | decide); apply Eq.refl; apply Eq.refl; (first | omega | decide); apply Eq.refl; apply Eq.refl))))
    | (apply WG_n; (first | (apply want_none; apply Eq.refl) | (apply want_some; apply Eq.refl; apply Eq.refl; apply Eq.refl)); (first | (apply f_alloc <;> apply Eq.refl) | (apply f_stb <;> (first | apply Eq.refl | (intro _ e; cases e)))))
    | (apply W_cD; apply Eq.refl; intro _; rotate_left 1; intro _; rotate_left 1))
  rotate_left 1
  · have := firstS_end hm2 (by omega)
    rw [this]; ((try apply fin_now); first | (focus (apply fin_2; apply Eq.refl; (first | (apply rv_B; apply Eq.refl) | (apply rv_A <;> apply Eq.refl)); (first | (apply rv_B; apply Eq.refl) | (apply rv_A <;> apply Eq.refl)); all_goals try apply Eq.refl)))
  have hmlt : m < lastP c + 1 := by omega
  refine W_loopR [2, 4, 6, 7, 10, 36, 37, 38, 41, 42] [] (fun i : Nat => [(3, .bool false), (43, .int .i64 i)]) (fun i => [(2, 1)]) (fun i => [(2, .box (encMeeting default))])
      (fun i => i ≤ c.trucks.length ∧ firstS (srchK c m) (c.trucks.length - i) i = srchI c m) (fun i => c.trucks.length - i) 0 ⟨Nat.zero_le _, by unfold srchI; rfl⟩ (by refine ⟨?_, ?_, ?_⟩ <;> repeat' (first | exact trivial | apply And.intro | apply Eq.refl | (apply toI; apply Eq.refl; first | omega | assumption) | (apply toB; apply Eq.refl; repeat' (first | apply Eq.refl | apply consS | (apply consI; first | apply Eq.refl | omega | assumption))))) (fun i h2 hi => ?_)
  obtain ⟨hi1, hi2⟩ := hi
  repeat' (first
    | (apply WL_q; apply Eq.refl; apply Eq.refl; (first | (apply q_mvI <;> apply Eq.refl) | (apply q_asI <;> apply Eq.refl) | (apply q_ldb <;> apply Eq.refl) | (apply q_fab <;> apply Eq.refl) | (apply q_cmp <;> apply Eq.refl) | (apply q_mvB <;> apply Eq.refl) | (apply q_asB <;> apply Eq.refl) | (apply q_arith <;> (first | apply Eq.refl | omega)) | (apply q_len <;> apply Eq.refl) | (apply q_ext <;> apply Eq.refl) | (apply q_ia <;> (first | apply Eq.refl | omega)) | (apply q_ldba <;> apply Eq.refl) | (apply q_ldra <;> apply Eq.refl) | (apply q_bld <;> apply Eq.refl) | (apply q_max <;> apply Eq.refl) | (apply q_mvS <;> apply Eq.refl) | (apply q_asS <;> apply Eq.refl) | (apply q_mvT <;> apply Eq.refl) | (apply q_mf <;> apply Eq.refl) | (apply q_mvMf <;> apply Eq.refl) | (apply q_asMf <;> apply Eq.refl) | (apply q_iab; apply Eq.refl; apply Eq.refl; apply Eq.refl; apply Eq.refl; (first | omega | decide); apply Eq.refl; apply Eq.refl; (first | omega | decide); apply Eq.refl; apply Eq.refl)))
    | apply W_seq
    | apply W_region
    | apply T_normal
    | apply WL_nil
    | apply T_exit
    | apply T_ret
    | apply B_normal
    | apply B_ret
    | apply B_exit_eq
    | apply W_skip
    | apply W_exit
    | apply W_ret
    | apply W_block
    | (apply W_condT; apply Eq.refl)
    | (apply W_condF; apply Eq.refl)
    | (apply WL_n; apply Eq.refl; (first | (apply n_boxa <;> apply Eq.refl) | (apply n_alloc <;> apply Eq.refl) | (apply n_stb <;> (first | apply Eq.refl | (intro _ e; cases e)))))
    | apply W_regionG
    | (apply WG_nil; kernel_rfl)
    | (apply WG_q; (first | (apply want_none; apply Eq.refl) | (apply want_some; apply Eq.refl; apply Eq.refl; apply Eq.refl)); apply Eq.refl; first | (apply fq_bld <;> apply Eq.refl) | (apply fq_blda <;> apply Eq.refl) | (apply fq_fn; apply Eq.refl) | (apply fq_mf; apply Eq.refl) | (apply FQ_intro; intro _; (first | (apply q_mvI <;> apply Eq.refl) | (apply q_asI <;> apply Eq.refl) | (apply q_ldb <;> apply Eq.refl) | (apply q_fab <;> apply Eq.refl) | (apply q_cmp <;> apply Eq.refl) | (apply q_mvB <;> apply Eq.refl) | (apply q_asB <;> apply Eq.refl) | (apply q_arith <;> (first | apply Eq.refl | omega)) | (apply q_len <;> apply Eq.refl) | (apply q_ext <;> apply Eq.refl) | (apply q_ia <;> (first | apply Eq.refl | omega)) | (apply q_ldba <;> apply Eq.refl) | (apply q_ldra <;> apply Eq.refl) | (apply q_bld <;> apply Eq.refl) | (apply q_max <;> apply Eq.refl) | (apply q_mvS <;> apply Eq.refl) | (apply q_asS <;> apply Eq.refl) | (apply q_mvT <;> apply Eq.refl) | (apply q_mf <;> apply Eq.refl) | (apply q_mvMf <;> apply Eq.refl) | (apply q_asMf <;> apply Eq.refl) | (apply q_iab; apply Eq.refl; apply Eq.refl; apply Eq.refl; apply Eq.refl; (first | omega | decide); apply Eq.refl; apply Eq.refl; (first | omega | decide); apply Eq.refl; apply Eq.refl))))
    | (apply WG_n; (first | (apply want_none; apply Eq.refl) | (apply want_some; apply Eq.refl; apply Eq.refl; apply Eq.refl)); (first | (apply f_alloc <;> apply Eq.refl) | (apply f_stb <;> (first | apply Eq.refl | (intro _ e; cases e)))))
    | (apply W_cD; apply Eq.refl; intro _; rotate_left 1; intro _; rotate_left 1))
  rotate_left 1
  · have := firstS_end hi2 (by omega)
    exact ⟨m + 1, ⟨by omega, firstS_next hm2 hmlt this⟩, by omega, (by apply reach_now; refine ⟨?_, ?_, ?_, ?_, ?_⟩ <;> repeat' (first | exact trivial | apply And.intro | apply Eq.refl | (apply toI; apply Eq.refl; first | omega | assumption) | (apply toB; apply Eq.refl; repeat' (first | apply Eq.refl | apply consS | (apply consI; first | apply Eq.refl | omega | assumption)))))⟩
  have hilt : i < c.trucks.length := by omega
  refine W_loopR [2, 4, 6, 7, 10, 11, 36, 37, 38, 41, 42, 43, 44, 45, 46, 47] [] (fun k : Nat => [(3, .bool false), (12, .int .i64 k)]) (fun k => [(2, 1)]) (fun k => [(2, .box (encMeeting default))])
      (fun k => i + 1 ≤ k ∧ k ≤ c.trucks.length ∧ firstS (pairM c m i) (c.trucks.length - k) k = srchK c m i) (fun k => c.trucks.length - k) (i + 1) ⟨Nat.le_refl _, by omega, by unfold srchK; rfl⟩ (by refine ⟨?_, ?_, ?_⟩ <;> repeat' (first | exact trivial | apply And.intro | apply Eq.refl | (apply toI; apply Eq.refl; first | omega | assumption) | (apply toB; apply Eq.refl; repeat' (first | apply Eq.refl | apply consS | (apply consI; first | apply Eq.refl | omega | assumption))))) (fun k h3 hk => ?_)
  obtain ⟨hk0, hk1, hk2⟩ := hk
  repeat' (first
    | (apply WL_q; apply Eq.refl; apply Eq.refl; (first | (apply q_mvI <;> apply Eq.refl) | (apply q_asI <;> apply Eq.refl) | (apply q_ldb <;> apply Eq.refl) | (apply q_fab <;> apply Eq.refl) | (apply q_cmp <;> apply Eq.refl) | (apply q_mvB <;> apply Eq.refl) | (apply q_asB <;> apply Eq.refl) | (apply q_arith <;> (first | apply Eq.refl | omega)) | (apply q_len <;> apply Eq.refl) | (apply q_ext <;> apply Eq.refl) | (apply q_ia <;> (first | apply Eq.refl | omega)) | (apply q_ldba <;> apply Eq.refl) | (apply q_ldra <;> apply Eq.refl) | (apply q_bld <;> apply Eq.refl) | (apply q_max <;> apply Eq.refl) | (apply q_mvS <;> apply Eq.refl) | (apply q_asS <;> apply Eq.refl) | (apply q_mvT <;> apply Eq.refl) | (apply q_mf <;> apply Eq.refl) | (apply q_mvMf <;> apply Eq.refl) | (apply q_asMf <;> apply Eq.refl) | (apply q_iab; apply Eq.refl; apply Eq.refl; apply Eq.refl; apply Eq.refl; (first | omega | decide); apply Eq.refl; apply Eq.refl; (first | omega | decide); apply Eq.refl; apply Eq.refl)))
    | apply W_seq
    | apply W_region
    | apply T_normal
    | apply WL_nil
    | apply T_exit
    | apply T_ret
    | apply B_normal
    | apply B_ret
    | apply B_exit_eq
    | apply W_skip
    | apply W_exit
    | apply W_ret
    | apply W_block
    | (apply W_condT; apply Eq.refl)
    | (apply W_condF; apply Eq.refl)
    | (apply WL_n; apply Eq.refl; (first | (apply n_boxa <;> apply Eq.refl) | (apply n_alloc <;> apply Eq.refl) | (apply n_stb <;> (first | apply Eq.refl | (intro _ e; cases e)))))
    | apply W_regionG
    | (apply WG_nil; kernel_rfl)
    | (apply WG_q; (first | (apply want_none; apply Eq.refl) | (apply want_some; apply Eq.refl; apply Eq.refl; apply Eq.refl)); apply Eq.refl; first | (apply fq_bld <;> apply Eq.refl) | (apply fq_blda <;> apply Eq.refl) | (apply fq_fn; apply Eq.refl) | (apply fq_mf; apply Eq.refl) | (apply FQ_intro; intro _; (first | (apply q_mvI <;> apply Eq.refl) | (apply q_asI <;> apply Eq.refl) | (apply q_ldb <;> apply Eq.refl) | (apply q_fab <;> apply Eq.refl) | (apply q_cmp <;> apply Eq.refl) | (apply q_mvB <;> apply Eq.refl) | (apply q_asB <;> apply Eq.refl) | (apply q_arith <;> (first | apply Eq.refl | omega)) | (apply q_len <;> apply Eq.refl) | (apply q_ext <;> apply Eq.refl) | (apply q_ia <;> (first | apply Eq.refl | omega)) | (apply q_ldba <;> apply Eq.refl) | (apply q_ldra <;> apply Eq.refl) | (apply q_bld <;> apply Eq.refl) | (apply q_max <;> apply Eq.refl) | (apply q_mvS <;> apply Eq.refl) | (apply q_asS <;> apply Eq.refl) | (apply q_mvT <;> apply Eq.refl) | (apply q_mf <;> apply Eq.refl) | (apply q_mvMf <;> apply Eq.refl) | (apply q_asMf <;> apply Eq.refl) | (apply q_iab; apply Eq.refl; apply Eq.refl; apply Eq.refl; apply Eq.refl; (first | omega | decide); apply Eq.refl; apply Eq.refl; (first | omega | decide); apply Eq.refl; apply Eq.refl))))
    | (apply WG_n; (first | (apply want_none; apply Eq.refl) | (apply want_some; apply Eq.refl; apply Eq.refl; apply Eq.refl)); (first | (apply f_alloc <;> apply Eq.refl) | (apply f_stb <;> (first | apply Eq.refl | (intro _ e; cases e)))))
    | (apply W_cD; apply Eq.refl; intro _; rotate_left 1; intro _; rotate_left 1))
  · have hklt : k < c.trucks.length := by omega
    have kk := c109 c.gap c.fails (c.trucks.getD i default) (c.trucks.getD k default) c.len m (hc.r i hilt) (hc.r k hklt) (by have := hc.ok.g1; omega) hc.ok.g2 (by omega) (by omega)
    have hp : pairM c m i k = (meetP c.gap c.fails (c.trucks.getD i default) (c.trucks.getD k default) c.len m).map fun x => { x with i := i, k := k } := by unfold pairM; rfl
    generalize meetP c.gap c.fails (c.trucks.getD i default) (c.trucks.getD k default) c.len m = R at kk hp
    cases R with
    | none =>
      repeat' (first
    | (apply WL_q; apply Eq.refl; apply Eq.refl; (first | (apply q_mvI <;> apply Eq.refl) | (apply q_asI <;> apply Eq.refl) | (apply q_ldb <;> apply Eq.refl) | (apply q_fab <;> apply Eq.refl) | (apply q_cmp <;> apply Eq.refl) | (apply q_mvB <;> apply Eq.refl) | (apply q_asB <;> apply Eq.refl) | (apply q_arith <;> (first | apply Eq.refl | omega)) | (apply q_len <;> apply Eq.refl) | (apply q_ext <;> apply Eq.refl) | (apply q_ia <;> (first | apply Eq.refl | omega)) | (apply q_ldba <;> apply Eq.refl) | (apply q_ldra <;> apply Eq.refl) | (apply q_bld <;> apply Eq.refl) | (apply q_max <;> apply Eq.refl) | (apply q_mvS <;> apply Eq.refl) | (apply q_asS <;> apply Eq.refl) | (apply q_mvT <;> apply Eq.refl) | (apply q_mf <;> apply Eq.refl) | (apply q_mvMf <;> apply Eq.refl) | (apply q_asMf <;> apply Eq.refl) | (apply q_iab; apply Eq.refl; apply Eq.refl; apply Eq.refl; apply Eq.refl; (first | omega | decide); apply Eq.refl; apply Eq.refl; (first | omega | decide); apply Eq.refl; apply Eq.refl)))
    | apply W_seq
    | apply W_region
    | apply T_normal
    | apply WL_nil
    | apply T_exit
    | apply T_ret
    | apply B_normal
    | apply B_ret
    | apply B_exit_eq
    | apply W_skip
    | apply W_exit
    | apply W_ret
    | apply W_block
    | (apply W_condT; apply Eq.refl)
    | (apply W_condF; apply Eq.refl)
    | (apply WL_call; apply Eq.refl; apply Eq.refl; rotate_left 1; apply Eq.refl; rotate_right 1; exact (kk); apply Eq.refl)
    | (apply WL_n; apply Eq.refl; (first | (apply n_boxa <;> apply Eq.refl) | (apply n_alloc <;> apply Eq.refl) | (apply n_stb <;> (first | apply Eq.refl | (intro _ e; cases e)))))
    | apply W_regionG
    | (apply WG_nil; kernel_rfl)
    | (apply WG_q; (first | (apply want_none; apply Eq.refl) | (apply want_some; apply Eq.refl; apply Eq.refl; apply Eq.refl)); apply Eq.refl; first | (apply fq_bld <;> apply Eq.refl) | (apply fq_blda <;> apply Eq.refl) | (apply fq_fn; apply Eq.refl) | (apply fq_mf; apply Eq.refl) | (apply FQ_intro; intro _; (first | (apply q_mvI <;> apply Eq.refl) | (apply q_asI <;> apply Eq.refl) | (apply q_ldb <;> apply Eq.refl) | (apply q_fab <;> apply Eq.refl) | (apply q_cmp <;> apply Eq.refl) | (apply q_mvB <;> apply Eq.refl) | (apply q_asB <;> apply Eq.refl) | (apply q_arith <;> (first | apply Eq.refl | omega)) | (apply q_len <;> apply Eq.refl) | (apply q_ext <;> apply Eq.refl) | (apply q_ia <;> (first | apply Eq.refl | omega)) | (apply q_ldba <;> apply Eq.refl) | (apply q_ldra <;> apply Eq.refl) | (apply q_bld <;> apply Eq.refl) | (apply q_max <;> apply Eq.refl) | (apply q_mvS <;> apply Eq.refl) | (apply q_asS <;> apply Eq.refl) | (apply q_mvT <;> apply Eq.refl) | (apply q_mf <;> apply Eq.refl) | (apply q_mvMf <;> apply Eq.refl) | (apply q_asMf <;> apply Eq.refl) | (apply q_iab; apply Eq.refl; apply Eq.refl; apply Eq.refl; apply Eq.refl; (first | omega | decide); apply Eq.refl; apply Eq.refl; (first | omega | decide); apply Eq.refl; apply Eq.refl))))
    | (apply WG_callm; (first | (apply want_none; apply Eq.refl) | (apply want_some; apply Eq.refl; apply Eq.refl; apply Eq.refl)); apply Eq.refl; apply Eq.refl; apply Eq.refl; exact (kk); (focus ((repeat' (first | exact FzL.nil | refine FzL.cons _ _ _ _ ?_ ?_ | exact Fz.os _ _ _ _ _ _ rfl rfl | exact Fz.bx _ _ _ _ rfl rfl | refine Fz.fn _ _ _ ?_ | exact Fz.same _ | exact fz_refl _ _)); done)); apply Eq.refl)
    | (apply WG_n; (first | (apply want_none; apply Eq.refl) | (apply want_some; apply Eq.refl; apply Eq.refl; apply Eq.refl)); (first | (apply f_alloc <;> apply Eq.refl) | (apply f_stb <;> (first | apply Eq.refl | (intro _ e; cases e)))))
    | (apply W_cD; apply Eq.refl; intro _; rotate_left 1; intro _; rotate_left 1))
      exact ⟨k + 1, ⟨by omega, by omega, firstS_next hk2 hklt hp⟩, by omega, (by apply reach_now; refine ⟨?_, ?_, ?_, ?_, ?_⟩ <;> repeat' (first | exact trivial | apply And.intro | apply Eq.refl | (apply toI; apply Eq.refl; first | omega | assumption) | (apply toB; apply Eq.refl; repeat' (first | apply Eq.refl | apply consS | (apply consI; first | apply Eq.refl | omega | assumption)))))⟩
    | some x =>
      have hres : meetingP c = some { x with i := i, k := k } := by
        refine (firstS_hit hm2 hmlt (a := _) ?_)
        refine (firstS_hit hi2 hilt (a := _) ?_)
        exact firstS_hit hk2 hklt hp
      rw [hres]
      repeat' (first
    | (apply WL_q; apply Eq.refl; apply Eq.refl; (first | (apply q_mvI <;> apply Eq.refl) | (apply q_asI <;> apply Eq.refl) | (apply q_ldb <;> apply Eq.refl) | (apply q_fab <;> apply Eq.refl) | (apply q_cmp <;> apply Eq.refl) | (apply q_mvB <;> apply Eq.refl) | (apply q_asB <;> apply Eq.refl) | (apply q_arith <;> (first | apply Eq.refl | omega)) | (apply q_len <;> apply Eq.refl) | (apply q_ext <;> apply Eq.refl) | (apply q_ia <;> (first | apply Eq.refl | omega)) | (apply q_ldba <;> apply Eq.refl) | (apply q_ldra <;> apply Eq.refl) | (apply q_bld <;> apply Eq.refl) | (apply q_max <;> apply Eq.refl) | (apply q_mvS <;> apply Eq.refl) | (apply q_asS <;> apply Eq.refl) | (apply q_mvT <;> apply Eq.refl) | (apply q_mf <;> apply Eq.refl) | (apply q_mvMf <;> apply Eq.refl) | (apply q_asMf <;> apply Eq.refl) | (apply q_iab; apply Eq.refl; apply Eq.refl; apply Eq.refl; apply Eq.refl; (first | omega | decide); apply Eq.refl; apply Eq.refl; (first | omega | decide); apply Eq.refl; apply Eq.refl)))
    | apply W_seq
    | apply W_region
    | apply T_normal
    | apply WL_nil
    | apply T_exit
    | apply T_ret
    | apply B_normal
    | apply B_ret
    | apply B_exit_eq
    | apply W_skip
    | apply W_exit
    | apply W_ret
    | apply W_block
    | (apply W_condT; apply Eq.refl)
    | (apply W_condF; apply Eq.refl)
    | (apply WL_call; apply Eq.refl; apply Eq.refl; rotate_left 1; apply Eq.refl; rotate_right 1; exact (kk); apply Eq.refl)
    | (apply WL_n; apply Eq.refl; (first | (apply n_boxa <;> apply Eq.refl) | (apply n_alloc <;> apply Eq.refl) | (apply n_stb <;> (first | apply Eq.refl | (intro _ e; cases e)))))
    | apply W_regionG
    | (apply WG_nil; kernel_rfl)
    | (apply WG_q; (first | (apply want_none; apply Eq.refl) | (apply want_some; apply Eq.refl; apply Eq.refl; apply Eq.refl)); apply Eq.refl; first | (apply fq_bld <;> apply Eq.refl) | (apply fq_blda <;> apply Eq.refl) | (apply fq_fn; apply Eq.refl) | (apply fq_mf; apply Eq.refl) | (apply FQ_intro; intro _; (first | (apply q_mvI <;> apply Eq.refl) | (apply q_asI <;> apply Eq.refl) | (apply q_ldb <;> apply Eq.refl) | (apply q_fab <;> apply Eq.refl) | (apply q_cmp <;> apply Eq.refl) | (apply q_mvB <;> apply Eq.refl) | (apply q_asB <;> apply Eq.refl) | (apply q_arith <;> (first | apply Eq.refl | omega)) | (apply q_len <;> apply Eq.refl) | (apply q_ext <;> apply Eq.refl) | (apply q_ia <;> (first | apply Eq.refl | omega)) | (apply q_ldba <;> apply Eq.refl) | (apply q_ldra <;> apply Eq.refl) | (apply q_bld <;> apply Eq.refl) | (apply q_max <;> apply Eq.refl) | (apply q_mvS <;> apply Eq.refl) | (apply q_asS <;> apply Eq.refl) | (apply q_mvT <;> apply Eq.refl) | (apply q_mf <;> apply Eq.refl) | (apply q_mvMf <;> apply Eq.refl) | (apply q_asMf <;> apply Eq.refl) | (apply q_iab; apply Eq.refl; apply Eq.refl; apply Eq.refl; apply Eq.refl; (first | omega | decide); apply Eq.refl; apply Eq.refl; (first | omega | decide); apply Eq.refl; apply Eq.refl))))
    | (apply WG_callm; (first | (apply want_none; apply Eq.refl) | (apply want_some; apply Eq.refl; apply Eq.refl; apply Eq.refl)); apply Eq.refl; apply Eq.refl; apply Eq.refl; exact (kk); (focus ((repeat' (first | exact FzL.nil | refine FzL.cons _ _ _ _ ?_ ?_ | exact Fz.os _ _ _ _ _ _ rfl rfl | exact Fz.bx _ _ _ _ rfl rfl | refine Fz.fn _ _ _ ?_ | exact Fz.same _ | exact fz_refl _ _)); done)); apply Eq.refl)
    | (apply WG_n; (first | (apply want_none; apply Eq.refl) | (apply want_some; apply Eq.refl; apply Eq.refl; apply Eq.refl)); (first | (apply f_alloc <;> apply Eq.refl) | (apply f_stb <;> (first | apply Eq.refl | (intro _ e; cases e)))))
    | (apply W_cD; apply Eq.refl; intro _; rotate_left 1; intro _; rotate_left 1))
      ((try apply fin_now); first | (focus (apply fin_2; apply Eq.refl; (first | (apply rv_B; apply Eq.refl) | (apply rv_A <;> apply Eq.refl)); (first | (apply rv_B; apply Eq.refl) | (apply rv_A <;> apply Eq.refl)); all_goals try apply Eq.refl)))
  · have := firstS_end hk2 (by omega)
    exact ⟨i + 1, ⟨by omega, firstS_next hi2 hilt this⟩, by omega, (by apply reach_now; refine ⟨?_, ?_, ?_, ?_, ?_⟩ <;> repeat' (first | exact trivial | apply And.intro | apply Eq.refl | (apply toI; apply Eq.refl; first | omega | assumption) | (apply toB; apply Eq.refl; repeat' (first | apply Eq.refl | apply consS | (apply consI; first | apply Eq.refl | omega | assumption)))))⟩
theorem c27 (c : Convoy) : Contract seat 27 [.agg (encConvoy c)] (.tup [.agg (encMeeting (if chkConvoy c = 0 then optM (meetingP c) else default)), .int .i64 (if chkConvoy c = 0 then (if (meetingP c).isSome then 0 else 7) else chkConvoy c)]) := by
  refine contract_introW (fn := Tryd.f27) Tryd.func27 rfl (by kernel_rfl) rfl ?_ ?_ ?_
  · exact PureL.cons (.agg _ (pure_convoy c)) PureL.nil
  · exact .tup _ (PureL.cons (.agg _ (pure_meeting _)) (PureL.cons (.int _ _) PureL.nil))
  intro w κ
  by_cases h0 : chkConvoy c = 0
  · have h1 := c21 c
    have k1 := c70 c (cr_of h0)
    rw [if_pos h0, if_pos h0]
    rw [h0] at h1
    generalize meetingP c = R at *
    cases R with
    | none =>
      repeat' (first
    | (apply WL_q; apply Eq.refl; apply Eq.refl; (first | (apply q_mvI <;> apply Eq.refl) | (apply q_asI <;> apply Eq.refl) | (apply q_cmp <;> apply Eq.refl) | (apply q_mvB <;> apply Eq.refl) | (apply q_asB <;> apply Eq.refl) | (apply q_not <;> apply Eq.refl) | (apply q_arith <;> (first | apply Eq.refl | omega)) | (apply q_ext <;> apply Eq.refl) | (apply q_ldba <;> apply Eq.refl) | (apply q_bld <;> apply Eq.refl) | (apply q_mvT <;> apply Eq.refl)))
    | apply W_seq
    | apply W_region
    | apply T_normal
    | apply WL_nil
    | apply T_ret
    | apply W_skip
    | apply W_ret
    | (apply W_condT; apply Eq.refl)
    | (apply W_condF; apply Eq.refl)
    | (apply WL_call; apply Eq.refl; apply Eq.refl; rotate_left 1; apply Eq.refl; rotate_right 1; exact (h1); apply Eq.refl)
    | (apply WL_call; apply Eq.refl; apply Eq.refl; rotate_left 1; apply Eq.refl; rotate_right 1; exact (k1); apply Eq.refl)
    | (apply WL_n; apply Eq.refl; (first | (apply n_boxa <;> apply Eq.refl) | (apply n_alloc <;> apply Eq.refl) | (apply n_stb <;> (first | apply Eq.refl | (intro _ e; cases e))) | (apply n_sto <;> (first | apply Eq.refl | omega))))
    | (apply W_cND; apply Eq.refl; intro _; rotate_left 1; intro _; rotate_left 1))
      ((try apply fin_now); first | (focus (apply fin_2; apply Eq.refl; (first | (apply rv_I; apply Eq.refl) | (apply rv_A <;> apply Eq.refl)); (first | (apply rv_I; apply Eq.refl) | (apply rv_A <;> apply Eq.refl)); all_goals try apply Eq.refl)))
    | some x =>
      repeat' (first
    | (apply WL_q; apply Eq.refl; apply Eq.refl; (first | (apply q_mvI <;> apply Eq.refl) | (apply q_asI <;> apply Eq.refl) | (apply q_cmp <;> apply Eq.refl) | (apply q_mvB <;> apply Eq.refl) | (apply q_asB <;> apply Eq.refl) | (apply q_not <;> apply Eq.refl) | (apply q_arith <;> (first | apply Eq.refl | omega)) | (apply q_ext <;> apply Eq.refl) | (apply q_ldba <;> apply Eq.refl) | (apply q_bld <;> apply Eq.refl) | (apply q_mvT <;> apply Eq.refl)))
    | apply W_seq
    | apply W_region
    | apply T_normal
    | apply WL_nil
    | apply T_ret
    | apply W_skip
    | apply W_ret
    | (apply W_condT; apply Eq.refl)
    | (apply W_condF; apply Eq.refl)
    | (apply WL_call; apply Eq.refl; apply Eq.refl; rotate_left 1; apply Eq.refl; rotate_right 1; exact (h1); apply Eq.refl)
    | (apply WL_call; apply Eq.refl; apply Eq.refl; rotate_left 1; apply Eq.refl; rotate_right 1; exact (k1); apply Eq.refl)
    | (apply WL_n; apply Eq.refl; (first | (apply n_boxa <;> apply Eq.refl) | (apply n_alloc <;> apply Eq.refl) | (apply n_stb <;> (first | apply Eq.refl | (intro _ e; cases e))) | (apply n_sto <;> (first | apply Eq.refl | omega))))
    | (apply W_cND; apply Eq.refl; intro _; rotate_left 1; intro _; rotate_left 1))
      ((try apply fin_now); first | (focus (apply fin_2; apply Eq.refl; (first | (apply rv_I; apply Eq.refl) | (apply rv_A <;> apply Eq.refl)); (first | (apply rv_I; apply Eq.refl) | (apply rv_A <;> apply Eq.refl)); all_goals try apply Eq.refl)))
  · rw [if_neg h0, if_neg h0]
    repeat' (first
    | (apply WL_q; apply Eq.refl; apply Eq.refl; (first | (apply q_mvI <;> apply Eq.refl) | (apply q_asI <;> apply Eq.refl) | (apply q_cmp <;> apply Eq.refl) | (apply q_mvB <;> apply Eq.refl) | (apply q_asB <;> apply Eq.refl) | (apply q_not <;> apply Eq.refl) | (apply q_arith <;> (first | apply Eq.refl | omega)) | (apply q_ext <;> apply Eq.refl) | (apply q_ldba <;> apply Eq.refl) | (apply q_bld <;> apply Eq.refl) | (apply q_mvT <;> apply Eq.refl)))
    | apply W_seq
    | apply W_region
    | apply T_normal
    | apply WL_nil
    | apply T_ret
    | apply W_skip
    | apply W_ret
    | (apply W_condT; apply Eq.refl)
    | (apply W_condF; apply Eq.refl)
    | (apply WL_call; apply Eq.refl; apply Eq.refl; rotate_left 1; apply Eq.refl; rotate_right 1; exact (c21 c); apply Eq.refl)
    | (apply WL_n; apply Eq.refl; (first | (apply n_boxa <;> apply Eq.refl) | (apply n_alloc <;> apply Eq.refl) | (apply n_stb <;> (first | apply Eq.refl | (intro _ e; cases e))) | (apply n_sto <;> (first | apply Eq.refl | omega))))
    | (apply W_cND; apply Eq.refl; intro _; rotate_left 1; intro _; rotate_left 1))
    · ((try apply fin_now); first | (focus (apply fin_2; apply Eq.refl; (first | (apply rv_I; apply Eq.refl) | (apply rv_A <;> apply Eq.refl)); (first | (apply rv_I; apply Eq.refl) | (apply rv_A <;> apply Eq.refl)); all_goals try apply Eq.refl)))
    · contradiction
end Go.Proofs.YtafnhieaeejlcaaDoor
namespace Go.Proofs.YtafnhieaeejlcaaDoor
open Go Go.Ab
set_option linter.all false
set_option maxRecDepth 100000
def turnH (len : Int) (h : Hold) : Hold := ⟨len - h.a, h.u⟩
def turnT (len : Int) (t : Truck) : Truck := ⟨3 - t.way, t.start, t.lo, t.hi, t.holds.map (turnH len)⟩
def turnC (c : Convoy) : Convoy := ⟨c.len, c.gap, c.fails, c.trucks.map (turnT c.len)⟩
def WayOk (w : Int) : Prop := w = 1 ∨ w = 2
theorem along_turn {w len a : Int} (h : WayOk w) : alongI (3 - w) len (len - a) = alongI w len a := by
  unfold alongI
  rcases h with rfl | rfl
  · rw [if_pos (by decide), if_neg (by decide)]; omega
  · rw [if_neg (by decide), if_pos (by decide)]
theorem stopP_turn {w len m : Int} (h : WayOk w) : ∀ hs : List Hold, stopP (3 - w) len m (hs.map (turnH len)) = stopP w len m hs
  | [] => rfl
  | x :: hs => by
    show (if (turnH len x).u > m then alongI (3 - w) len (turnH len x).a else stopP (3 - w) len m (hs.map (turnH len))) = (if x.u > m then alongI w len x.a else stopP w len m hs)
    rw [stopP_turn h hs]
    show (if x.u > m then alongI (3 - w) len (len - x.a) else _) = _
    rw [along_turn h]
theorem stopR_turn {w len g m : Int} (h : WayOk w) : ∀ hs : List Hold, stopR (3 - w) len g m (hs.map (turnH len)) = stopR w len g m hs
  | [] => rfl
  | x :: hs => by
    show (if alongI (3 - w) len (len - x.a) ≥ g ∧ x.u > m then alongI (3 - w) len (len - x.a) else stopR (3 - w) len g m (hs.map (turnH len))) = (if alongI w len x.a ≥ g ∧ x.u > m then alongI w len x.a else stopR w len g m hs)
    rw [stopR_turn h hs, along_turn h]
theorem nextR_turn {t : Truck} {len g m pace : Int} (h : WayOk t.way) : nextR (turnT len t) len g m pace = nextR t len g m pace := by
  show min (g + pace) (stopR (3 - t.way) len g m (t.holds.map (turnH len))) = min (g + pace) (stopR t.way len g m t.holds)
  rw [stopR_turn h]
theorem posR_turn {t : Truck} {len pace : Int} (h : WayOk t.way) : ∀ k, posR (turnT len t) len pace k = posR t len pace k
  | 0 => rfl
  | k + 1 => by
    show nextR (turnT len t) len (posR (turnT len t) len pace k) (t.start + k) pace = nextR t len (posR t len pace k) (t.start + k) pace
    rw [posR_turn h k, nextR_turn h]
theorem hitR_turn {t : Truck} {len pace : Int} (h : WayOk t.way) : hitR (turnT len t) len pace = hitR t len pace := by
  unfold hitR
  rw [show posR (turnT len t) len pace = posR t len pace from funext (posR_turn h)]
theorem freeT_turn (t : Truck) (len : Int) (b : Bool) : freeT (turnT len t) b = turnT len (freeT t b) := by cases b <;> rfl
theorem freeT_way (t : Truck) (b : Bool) : (freeT t b).way = t.way := by cases b <;> rfl
theorem arrS_turn {c : Convoy} {t : Truck} (h : WayOk t.way) : arrS (turnC c) (turnT c.len t) = arrS c t := by
  show (⟨if hitR (turnT c.len t) c.len t.hi ≤ hitR (turnT c.len t) c.len t.lo then t.start + hitR (turnT c.len t) c.len t.hi else -1, t.start + hitR (turnT c.len t) c.len t.lo⟩ : Span) = _
  rw [hitR_turn h, hitR_turn h]; rfl
def WaysOk (c : Convoy) : Prop := ∀ k, k < c.trucks.length → WayOk (c.trucks.getD k default).way
theorem len_turn (c : Convoy) : (turnC c).trucks.length = c.trucks.length := by simp [turnC]
theorem getD_turn (c : Convoy) {k : Nat} (hk : k < c.trucks.length) : (turnC c).trucks.getD k default = turnT c.len (c.trucks.getD k default) := by
  simp [turnC, List.getD, List.getElem?_eq_getElem hk]
theorem getD_out (c : Convoy) {k : Nat} (hk : ¬ k < c.trucks.length) : (turnC c).trucks.getD k default = default ∧ c.trucks.getD k default = default := by
  constructor
  · simp [turnC, List.getD, List.getElem?_eq_none (show c.trucks.length ≤ k by omega)]
  · simp [List.getD, List.getElem?_eq_none (show c.trucks.length ≤ k by omega)]
theorem keepF_turn {c : Convoy} (h : WaysOk c) : keepF (turnC c) = keepF c := funext fun k => by
  unfold keepF
  by_cases hk : k < c.trucks.length
  · rw [getD_turn c hk, arrS_turn (h k hk)]
  · rw [(getD_out c hk).1, (getD_out c hk).2]; rfl
theorem endF_turn {c : Convoy} (h : WaysOk c) : endF (turnC c) = endF c := funext fun k => by
  unfold endF
  by_cases hk : k < c.trucks.length
  · rw [getD_turn c hk, arrS_turn (h k hk)]
  · rw [(getD_out c hk).1, (getD_out c hk).2]; rfl
theorem failF_turn {c : Convoy} (h : WaysOk c) : failF (turnC c) = failF c := funext fun k => by
  unfold failF
  by_cases hk : k < c.trucks.length
  · rw [getD_turn c hk, freeT_turn, arrS_turn (by rw [freeT_way]; exact h k hk)]
  · rw [(getD_out c hk).1, (getD_out c hk).2]; rfl
theorem chkHolds_turn {w len : Int} (h : WayOk w) : ∀ (hs : List Hold) (p : Option Int), chkHolds (3 - w) len p (hs.map (turnH len)) = chkHolds w len p hs
  | [], p => by cases p <;> rfl
  | x :: hs, p => by
    rw [List.map_cons, chkHolds_cons, chkHolds_cons]
    have e1 : (¬ (1 ≤ (turnH len x).a ∧ (turnH len x).a ≤ len - 1) ∨ ¬ (0 ≤ (turnH len x).u ∧ (turnH len x).u ≤ 10000)) ↔ (¬ (1 ≤ x.a ∧ x.a ≤ len - 1) ∨ ¬ (0 ≤ x.u ∧ x.u ≤ 10000)) := by
      show (¬ (1 ≤ len - x.a ∧ len - x.a ≤ len - 1) ∨ ¬ (0 ≤ x.u ∧ x.u ≤ 10000)) ↔ _
      omega
    have e2 : alongI (3 - w) len (turnH len x).a = alongI w len x.a := along_turn h
    rw [e2]
    simp only [e1, chkHolds_turn h hs]
theorem chkTruck_turn {c : Convoy} {t : Truck} (h : WayOk t.way) : chkTruck (turnC c) (turnT c.len t) = chkTruck c t := by
  unfold chkTruck
  have e0 : chkHolds (turnT c.len t).way (turnC c).len none (turnT c.len t).holds = chkHolds t.way c.len none t.holds := chkHolds_turn h _ _
  have e1 : (¬ (1 ≤ (turnT c.len t).way ∧ (turnT c.len t).way ≤ 2)) ↔ (¬ (1 ≤ t.way ∧ t.way ≤ 2)) := by
    show (¬ (1 ≤ 3 - t.way ∧ 3 - t.way ≤ 2)) ↔ _
    omega
  have e2 : (turnT c.len t).holds.length = t.holds.length := by simp [turnT]
  rw [e0, e2]
  simp only [e1]
  rfl
theorem chkTrucks_turn {c : Convoy} : ∀ ts : List Truck, (∀ t ∈ ts, WayOk t.way) → chkTrucks (turnC c) (ts.map (turnT c.len)) = chkTrucks c ts
  | [], _ => rfl
  | t :: ts, h => by
    show (if chkTruck (turnC c) (turnT c.len t) ≠ 0 then chkTruck (turnC c) (turnT c.len t) else chkTrucks (turnC c) (ts.map (turnT c.len))) = (if chkTruck c t ≠ 0 then chkTruck c t else chkTrucks c ts)
    rw [chkTruck_turn (h t (List.mem_cons_self ..)), chkTrucks_turn ts fun u hu => h u (List.mem_cons_of_mem _ hu)]
theorem chkConvoy_turn {c : Convoy} (h : ∀ t ∈ c.trucks, WayOk t.way) : chkConvoy (turnC c) = chkConvoy c := by
  show (if ¬ (1 ≤ c.len ∧ c.len ≤ 100000) ∨ ¬ (1 ≤ c.gap ∧ c.gap ≤ 100000) ∨ ¬ (0 ≤ c.fails ∧ c.fails ≤ 20) then 2
    else if (turnC c).trucks.length > 20 then 8 else chkTrucks (turnC c) (c.trucks.map (turnT c.len))) = _
  rw [len_turn, chkTrucks_turn _ h]; rfl
def mirP (len : Int) (x : Span × Int) : Span × Int := if x.2 = 2 then x else (⟨len - x.1.hi, len - x.1.lo⟩, x.2)
theorem roadP_turn {w len : Int} {g : Span} (h : WayOk w) : roadP (3 - w) len g = ⟨len - (roadP w len g).hi, len - (roadP w len g).lo⟩ := by
  unfold roadP alongI
  rcases h with rfl | rfl
  · rw [if_pos (by decide), if_pos (by decide), if_neg (by decide), if_neg (by decide)]
    simp only [Span.mk.injEq]
    constructor <;> omega
  · rw [if_neg (by decide), if_neg (by decide), if_pos (by decide), if_pos (by decide)]
    simp only [Span.mk.injEq]
    constructor <;> omega
theorem atP_turn {t : Truck} {len m : Int} (h : WayOk t.way) : atP (turnT len t) len m = atP t len m := by
  unfold atP
  have e1 : hitR (turnT len t) len (turnT len t).lo = hitR t len t.lo := hitR_turn h
  rw [e1]
  show (if min (m - t.start) (hitR t len t.lo) < 0 then default else (⟨posR (turnT len t) len t.lo _, posR (turnT len t) len t.hi _⟩ : Span)) = _
  rw [posR_turn h, posR_turn h]; rfl
theorem laneP_turn {t : Truck} {len m : Int} (h : WayOk t.way) : laneP (turnT len t) len m = mirP len (laneP t len m) := by
  unfold laneP
  have e1 : stopP (turnT len t).way len m (turnT len t).holds = stopP t.way len m t.holds := stopP_turn h _
  have e2 : ∀ g, roadP (turnT len t).way len g = ⟨len - (roadP t.way len g).hi, len - (roadP t.way len g).lo⟩ := fun g => roadP_turn h
  have e3 : (turnT len t).start = t.start := rfl
  rw [e1, atP_turn h, e3]
  simp only [e2]
  unfold mirP
  split
  · rfl
  · split
    · rfl
    · split <;> rfl
theorem laneP_le {t : Truck} {len m : Int} : (laneP t len m).2 = 2 ∨ (laneP t len m).1.lo ≤ (laneP t len m).1.hi := by
  unfold laneP
  split
  · exact .inl rfl
  · split
    · right; show min _ _ ≤ max _ _; omega
    · split
      · exact .inl rfl
      · right; show min _ _ ≤ max _ _; omega
theorem nearP_turn {gap len : Int} {x y : Span × Int} (hg : 1 ≤ gap) (hx : x.2 = 2 ∨ x.1.lo ≤ x.1.hi) (hy : y.2 = 2 ∨ y.1.lo ≤ y.1.hi) : (nearP gap (mirP len x) (mirP len y)).2.2 = (nearP gap x y).2.2 := by
  by_cases h1 : x.2 = 2
  · have : mirP len x = x := by unfold mirP; rw [if_pos h1]
    unfold nearP
    rw [this, if_pos (.inl h1), if_pos (.inl h1)]
  · by_cases h2 : y.2 = 2
    · have : mirP len y = y := by unfold mirP; rw [if_pos h2]
      unfold nearP
      rw [this, if_pos (.inr h2), if_pos (.inr h2)]
    · have hx := hx.resolve_left h1
      have hy := hy.resolve_left h2
      have ex : mirP len x = (⟨len - x.1.hi, len - x.1.lo⟩, x.2) := by unfold mirP; rw [if_neg h1]
      have ey : mirP len y = (⟨len - y.1.hi, len - y.1.lo⟩, y.2) := by unfold mirP; rw [if_neg h2]
      unfold nearP
      rw [ex, ey, if_neg (by intro h; exact h.elim h1 h2), if_neg (by intro h; exact h.elim h1 h2)]
      simp only
      rw [Bool.eq_iff_iff]
      simp only [Bool.and_eq_true, decide_eq_true_eq]
      omega
def strip (x : Meeting) : Int × Int × Int × Bool × Bool := (x.m, x.i, x.k, x.fi, x.fk)
theorem nearC_turn {gap len m : Int} {t u : Truck} {b : Bool × Bool} (hg : 1 ≤ gap) (ht : WayOk t.way) (hu : WayOk u.way) : (nearC gap (turnT len t) (turnT len u) len m b).2.2 = (nearC gap t u len m b).2.2 := by
  unfold nearC
  rw [freeT_turn, freeT_turn, laneP_turn (by rw [freeT_way]; exact ht), laneP_turn (by rw [freeT_way]; exact hu)]
  exact nearP_turn hg laneP_le laneP_le
theorem meetC_turn {gap fails len m : Int} {t u : Truck} (hg : 1 ≤ gap) (ht : WayOk t.way) (hu : WayOk u.way) (l : List (Bool × Bool)) : (meetC gap fails (turnT len t) (turnT len u) len m l).map strip = (meetC gap fails t u len m l).map strip := by
  induction l with
  | nil => simp only [meetC]
  | cons b l ih =>
    simp only [meetC]
    rw [nearC_turn hg ht hu]
    split
    · exact ih
    · split
      · simp only [Option.map_some, strip]
      · exact ih
theorem firstS_map {α β : Type} {f f' : Nat → Option α} {g : α → β} : ∀ (n k : Nat), (∀ j, k ≤ j → j < k + n → (f j).map g = (f' j).map g) → (firstS f n k).map g = (firstS f' n k).map g
  | 0, k, _ => rfl
  | n + 1, k, h => by
    have h0 := h k (Nat.le_refl _) (by omega)
    have ih := firstS_map (g := g) n (k + 1) fun j h1 h2 => h j (by omega) (by omega)
    unfold firstS
    cases h1 : f k with
    | none =>
      cases h2 : f' k with
      | none => exact ih
      | some y => rw [h1, h2] at h0; cases h0
    | some x =>
      cases h2 : f' k with
      | none => rw [h1, h2] at h0; cases h0
      | some y => rw [h1, h2] at h0; exact h0
theorem meetingP_turn {c : Convoy} (hg : 1 ≤ c.gap) (h : WaysOk c) : (meetingP (turnC c)).map strip = (meetingP c).map strip := by
  unfold meetingP
  have e : lastP (turnC c) = lastP c := by unfold lastP; rw [endF_turn h, len_turn]
  rw [e]
  refine firstS_map _ _ fun m _ _ => ?_
  unfold srchI
  rw [len_turn]
  refine firstS_map _ _ fun i _ hi => ?_
  unfold srchK
  rw [len_turn]
  refine firstS_map _ _ fun k hk1 hk2 => ?_
  have hi' : i < c.trucks.length := by omega
  have hk' : k < c.trucks.length := by omega
  unfold pairM
  rw [getD_turn c hi', getD_turn c hk']
  have key := meetC_turn (gap := c.gap) (fails := c.fails) (len := c.len) (m := m) hg (h i hi') (h k hk') caseL
  show ((meetP c.gap c.fails (turnT c.len (c.trucks.getD i default)) (turnT c.len (c.trucks.getD k default)) c.len m).map _).map strip = _
  unfold meetP
  revert key
  cases meetC c.gap c.fails (turnT c.len (c.trucks.getD i default)) (turnT c.len (c.trucks.getD k default)) c.len m caseL with
  | none =>
    cases meetC c.gap c.fails (c.trucks.getD i default) (c.trucks.getD k default) c.len m caseL with
    | none => exact fun _ => rfl
    | some y => intro e; cases e
  | some x =>
    cases meetC c.gap c.fails (c.trucks.getD i default) (c.trucks.getD k default) c.len m caseL with
    | none => intro e; cases e
    | some y =>
      intro e
      simp only [Option.map_some, Option.some.injEq, strip, Prod.mk.injEq] at e ⊢
      exact ⟨e.1, trivial, trivial, e.2.2.2⟩
theorem optM_turn {c : Convoy} (hg : 1 ≤ c.gap) (h : WaysOk c) : strip (optM (meetingP (turnC c))) = strip (optM (meetingP c)) := by
  have e := meetingP_turn hg h
  revert e
  cases meetingP (turnC c) with
  | none =>
    cases meetingP c with
    | none => exact fun _ => rfl
    | some y => intro e; cases e
  | some x =>
    cases meetingP c with
    | none => intro e; cases e
    | some y => intro e; exact Option.some.inj e
end Go.Proofs.YtafnhieaeejlcaaDoor
namespace Go.Proofs.YtafnhieaeejlcaaDoor
open Go Go.Ab
set_option maxRecDepth 100000
set_option maxHeartbeats 4000000
attribute [local irreducible] W WL QOp NOp thenQ blockQ FinQ WG FQ Want FinW WI WIL thenI blockI
theorem nilL_refl : ∀ l : List D, NilL l l
  | [] => trivial
  | _ :: l => ⟨.inl rfl, nilL_refl l⟩
theorem wk_arr_ext {X : Ctx} {S : St} (s : Nat) {E z n : Nat} {f : Nat → List D} (f' : Nat → List D) (hσ : S.σ s = .arr E z n f) (h : ∀ i, i < n → f' i = f i) : Wk X S ⟨S.ρ, S.γ, upd S.σ s (.arr E z n f')⟩ :=
  wk_arrN s f' hσ fun i hi => by rw [h i hi]; exact nilL_refl _
def plF : Nat → Nat
  | 0 => 7
  | i + 1 => FB + i
def subF (s : Nat) : Nat := s - FB
theorem subF_add (i : Nat) : subF (FB + i) = i := Nat.add_sub_cancel_left ..
theorem add_subF {s : Nat} (h : FB ≤ s) : FB + subF s = s := Nat.add_sub_of_le h
def ixF (s : Nat) : Nat := bif Nat.beq s 7 then 0 else subF s + 1
def pF (m : Nat) (s : Nat) : Bool := Nat.beq s 7 || (Nat.ble FB s && Nat.blt (subF s) m)
theorem FB_ne (i : Nat) : Nat.beq (FB + i) 7 = false := by
  cases hb : Nat.beq (FB + i) 7 with
  | false => rfl
  | true =>
    have h := Nat.eq_of_beq_eq_true hb
    have h2 : FB ≤ 7 := h ▸ Nat.le_add_right _ _
    exact absurd h2 (by decide)
theorem ixF_fam (i : Nat) : ixF (FB + i) = i + 1 := by
  unfold ixF
  rw [FB_ne, cond_false, subF_add]
theorem fam_of {s : Nat} (h : Nat.ble FB s = true) : ∃ i, s = FB + i := ⟨subF s, (add_subF (Nat.le_of_ble_eq_true h)).symm⟩
theorem pF_of {m s : Nat} (h : pF m s = true) : s = 7 ∨ ∃ i, i < m ∧ s = FB + i := by
  unfold pF at h
  rw [Bool.or_eq_true, Bool.and_eq_true] at h
  rcases h with h | ⟨h1, h2⟩
  · exact .inl (Nat.eq_of_beq_eq_true h)
  · obtain ⟨i, e⟩ := fam_of h1
    rw [e, subF_add] at h2
    exact .inr ⟨i, by simpa [Nat.blt_eq] using h2, e⟩
theorem hpF (m : Nat) (s : Nat) (h : pF m s = true) : ixF s < m + 1 ∧ plF (ixF s) = s := by
  rcases pF_of h with e | ⟨i, hi, e⟩
  · subst e; exact ⟨Nat.succ_pos _, rfl⟩
  · subst e
    rw [ixF_fam]
    exact ⟨Nat.succ_lt_succ hi, rfl⟩
theorem pF_fam {m i : Nat} (hi : i < m) : pF m (FB + i) = true := by
  unfold pF
  rw [Nat.ble_eq_true_of_le (Nat.le_add_right FB i), subF_add, show Nat.blt i m = true by simpa [Nat.blt_eq] using hi]
  simp
theorem hplF (m : Nat) (i : Nat) (hi : i < m + 1) : pF m (plF i) = true ∧ ixF (plF i) = i := by
  cases i with
  | zero => exact ⟨by unfold pF plF; rfl, rfl⟩
  | succ i =>
    refine ⟨pF_fam (Nat.lt_of_succ_lt_succ hi), ?_⟩
    exact ixF_fam i
def hsJ (len : Int) (hs : List Hold) (j : Nat) : List Hold := (hs.take j).map (turnH len) ++ hs.drop j
theorem hsJ_len (len : Int) (hs : List Hold) (j : Nat) : (hsJ len hs j).length = hs.length := by simp [hsJ]; omega
theorem hsJ_zero (len : Int) (hs : List Hold) : hsJ len hs 0 = hs := by simp [hsJ]
theorem hsJ_all (len : Int) {hs : List Hold} {j : Nat} (h : hs.length ≤ j) : hsJ len hs j = hs.map (turnH len) := by simp [hsJ, List.take_of_length_le h, List.drop_eq_nil_of_le h]
theorem hsJ_at (len : Int) {hs : List Hold} {j : Nat} (h : j < hs.length) : (hsJ len hs j).getD j default = hs.getD j default := by
  simp [hsJ, List.getD, List.getElem?_append_right, Nat.min_eq_left (Nat.le_of_lt h)]
theorem hsJ_next (len : Int) {hs : List Hold} {j : Nat} (h : j < hs.length) : (hsJ len hs j).set j (turnH len (hs.getD j default)) = hsJ len hs (j + 1) := by
  apply List.ext_getElem (by simp [hsJ]; omega)
  intro i h1 h2
  simp only [hsJ, List.length_append, List.length_map, List.length_take, List.length_drop, List.length_set] at h1 h2
  rw [List.getElem_set]
  by_cases e : j = i
  · subst e
    rw [if_pos rfl]
    simp [hsJ, List.getElem_append, List.getD, h, Nat.min_eq_left (Nat.succ_le_of_lt h)]
  · rw [if_neg e]
    simp only [hsJ, List.getElem_append, List.length_map, List.length_take]
    by_cases h3 : i < j
    · rw [dif_pos (by omega), dif_pos (by omega)]; simp
    · rw [dif_neg (by omega), dif_neg (by omega)]
      simp only [List.getElem_drop]
      congr 1; omega
theorem updF_list {L : List Hold} {j : Nat} {x : Hold} (h : j < L.length) : updF (fun i => encHold (L.getD i default)) j (encHold x) = fun i => encHold ((L.set j x).getD i default) := funext fun i => by
  by_cases e : i = j
  · subst e
    rw [updF_same]; simp [List.getD, h]
  · rw [updF_ne _ _ e]; simp [List.getD, List.getElem?_set_ne (show j ≠ i from fun q => e q.symm)]
def trK (c : Convoy) (k i : Nat) : Truck := if i < k then turnT c.len (c.trucks.getD i default) else c.trucks.getD i default
def gK (c : Convoy) (h : Nat → Nat) (k : Nat) : Nat → List D := fun i => trC (trK c k i) (FB + i) (h (FB + i))
def bgT (c : Convoy) (k : Nat) : Nat → Ab.Own := fun s => if subF s < c.trucks.length then .arr 89 2 (c.trucks.getD (subF s) default).holds.length (fun j => encHold ((trK c k (subF s)).holds.getD j default)) else .none
def rsT (k : Nat) (h : Nat → Nat) : List (Nat × D) := [(1, .bx 1 (h 1) 0), (2, .bx 2 (h 2) 0), (3, .int .i64 k)]
def osT (c : Convoy) (k : Nat) (h : Nat → Nat) : List (Nat × Ab.Own) := [(1, .box [.int .i64 c.len, .int .i64 c.gap, .int .i64 c.fails, .os 7 (h 7)]), (2, .box [.int .i64 0, .int .i64 0, .int .i64 0, .nil]), (7, .arr 50 5 c.trucks.length (gK c h k))]
def trI (c : Convoy) (k : Nat) : Truck := { c.trucks.getD k default with way := 3 - (c.trucks.getD k default).way }
def gI (c : Convoy) (h : Nat → Nat) (k : Nat) : Nat → List D := fun i => if i = k then trC (trI c k) 60 (h 60) else gK c h k i
def bgI (c : Convoy) (k : Nat) : Nat → Ab.Own := fun s => if s = FB + k then .none else bgT c k s
def rsI (k j : Nat) (h : Nat → Nat) : List (Nat × D) := [(1, .bx 1 (h 1) 0), (2, .bx 2 (h 2) 0), (3, .int .i64 k), (4, .op 7 (h 7) 5 ((k : Int)).toNat 0), (5, .int .i64 j)]
def iK (c : Convoy) (k j : Nat) : Nat → List D := fun i => encHold ((hsJ c.len (c.trucks.getD k default).holds j).getD i default)
def osI (c : Convoy) (k j : Nat) (h : Nat → Nat) : List (Nat × Ab.Own) := [(1, .box [.int .i64 c.len, .int .i64 c.gap, .int .i64 c.fails, .os 7 (h 7)]), (2, .box [.int .i64 0, .int .i64 0, .int .i64 0, .nil]), (7, .arr 50 5 c.trucks.length (gI c h k)), (60, .arr 89 2 (c.trucks.getD k default).holds.length (iK c k j))]
def Bnd (c : Convoy) : Prop := c.trucks.length ≤ 25 ∧ -1000000000 ≤ c.len ∧ c.len ≤ 1000000000 ∧ ∀ k, k < c.trucks.length → (c.trucks.getD k default).holds.length ≤ 12 ∧ -1000000000 ≤ (c.trucks.getD k default).way ∧ (c.trucks.getD k default).way ≤ 1000000000 ∧
  ∀ j, j < (c.trucks.getD k default).holds.length → -1000000000 ≤ ((c.trucks.getD k default).holds.getD j default).a ∧ ((c.trucks.getD k default).holds.getD j default).a ≤ 1000000000
theorem trK_self (c : Convoy) (k : Nat) : trK c k k = c.trucks.getD k default := if_neg (Nat.lt_irrefl k)
theorem trK_zero (c : Convoy) (i : Nat) : trK c 0 i = c.trucks.getD i default := if_neg (Nat.not_lt_zero i)
theorem bgT_at (c : Convoy) (k : Nat) {i : Nat} (hi : i < c.trucks.length) : bgT c k (FB + i) = .arr 89 2 (c.trucks.getD i default).holds.length (fun j => encHold ((trK c k i).holds.getD j default)) := by
  unfold bgT
  rw [subF_add, if_pos hi]
theorem bgT_out (c : Convoy) (k : Nat) {i : Nat} (hi : ¬ i < c.trucks.length) : bgT c k (FB + i) = .none := by
  unfold bgT
  rw [subF_add, if_neg hi]
theorem ge_fam {s : Nat} (h : FB ≤ s) : ∃ i, s = FB + i := ⟨subF s, (add_subF h).symm⟩
theorem fam_inj {i k : Nat} (h : FB + i = FB + k) : i = k := Nat.add_left_cancel h
theorem fam_ne {s k : Nat} (hs : s < FB) : s ≠ FB + k := fun e => absurd (e ▸ hs) (Nat.not_lt.2 (Nat.le_add_right _ _))
section
variable {X : Ctx} {Q : Exit → St → Prop} {S : St} {c : Convoy}
theorem W_turn {code : Code} (r1 : S.ρ 1 = .bx 1 (S.γ 1) 0) (r2 : S.ρ 2 = .bx 2 (S.γ 2) 0) (r3 : S.ρ 3 = .int .i64 0) (s1 : S.σ 1 = .box [.int .i64 c.len, .int .i64 c.gap, .int .i64 c.fails, .os 7 (S.γ 7)]) (s2 : S.σ 2 = .box [.int .i64 0, .int .i64 0, .int .i64 0, .nil])
    {f : Nat → List D} (s7 : S.σ 7 = .arr 50 5 c.trucks.length f) (hf : ∀ i, i < c.trucks.length → f i = trC (c.trucks.getD i default) (FB + i) (S.γ (FB + i))) (hF : ∀ i, i < c.trucks.length → S.σ (FB + i) = .arr 89 2 (c.trucks.getD i default).holds.length (fun j => encHold ((c.trucks.getD i default).holds.getD j default)))
    (round : ∀ k h, k ≤ c.trucks.length → W X code (thenQ (fun S' => ∃ k' S'', k' ≤ c.trucks.length ∧ c.trucks.length - k' < c.trucks.length - k ∧ Wk X S' S'' ∧ MatchF S'' (rsT k' S''.γ) (osT c k' S''.γ) (bgT c k')) Q) (mkF (rsT k h) (osT c k h) h (bgT c k))) : W X (.loop code) Q S := by
  refine W_wk (wk_arr_ext 7 (gK c S.γ 0) s7 fun i hi => ?_) ?_
  · rw [hf i hi]; unfold gK; rw [trK_zero]
  refine W_loopF (α := Nat) rsT (osT c) (fun k _ => bgT c k) (fun k => k ≤ c.trucks.length) (fun k => c.trucks.length - k) 0 (Nat.zero_le _) ?_ round
  have h7 : ∀ s, s ≠ 7 → upd S.σ 7 (.arr 50 5 c.trucks.length (gK c S.γ 0)) s = S.σ s := fun s h => upd_ne _ _ _ _ h
  refine ⟨⟨r1, r2, r3, trivial⟩, ⟨(h7 1 (by decide)).trans s1, (h7 2 (by decide)).trans s2, (upd_same S.σ 7 (.arr 50 5 c.trucks.length (gK c S.γ 0)) : upd _ 7 _ 7 = _), trivial⟩, fun s hs => ?_⟩
  obtain ⟨i, rfl⟩ := ge_fam hs
  by_cases hi : i < c.trucks.length
  · right
    rw [bgT_at c 0 hi, trK_zero]
    exact ((h7 _ (fam_ne (by decide)).symm).trans (hF i hi)).symm
  · exact .inl (bgT_out c 0 hi)
theorem W_turnI {code : Code} {k : Nat} {h : Nat → Nat} (hk : k < c.trucks.length) (hx : ∀ s, X.xa s = false) (r1 : S.ρ 1 = .bx 1 (S.γ 1) 0) (r2 : S.ρ 2 = .bx 2 (S.γ 2) 0) (r3 : S.ρ 3 = .int .i64 k) (r4 : S.ρ 4 = .op 7 (S.γ 7) 5 ((k : Int)).toNat 0) (r5 : S.ρ 5 = .int .i64 0)
    (s1 : S.σ 1 = .box [.int .i64 c.len, .int .i64 c.gap, .int .i64 c.fails, .os 7 (S.γ 7)]) (s2 : S.σ 2 = .box [.int .i64 0, .int .i64 0, .int .i64 0, .nil])
    (s7 : S.σ 7 = .arr 50 5 c.trucks.length (updF (gK c h k) k (trC (trI c k) (FB + k) (h (FB + k))))) (hγ : S.γ = h) (hσ : ∀ s, FB ≤ s → S.σ s = bgT c k s)
    (round : ∀ j h', j ≤ (c.trucks.getD k default).holds.length → W X code (thenQ (fun S' => ∃ j' S'', j' ≤ (c.trucks.getD k default).holds.length ∧ (c.trucks.getD k default).holds.length - j' < (c.trucks.getD k default).holds.length - j ∧ Wk X S' S'' ∧ MatchF S'' (rsI k j' S''.γ) (osI c k j' S''.γ) (bgI c k)) Q) (mkF (rsI k j h') (osI c k j h') h' (bgI c k))) : W X (.loop code) Q S := by
  have h760 : (60 : Nat) < FB := by decide
  have h77 : (7 : Nat) < FB := by decide
  have hne : FB + k ≠ 60 := (fam_ne h760).symm
  have hm := wk_mv_elem (X := X) (S := S) 7 k 4 60 (s := FB + k) (g := h (FB + k)) (f2' := gI c (upd S.γ 60 (S.γ 60 + 1)) k) (l' := trC (trI c k) 60 (S.γ 60 + 1)) s7 (fam_ne h77) (by decide) hne hk (updF_same _ _ _) rfl (by rw [hγ]) ((hσ _ (Nat.le_add_right _ _)).trans (bgT_at c k hk)) rfl (fun i hi => by
    by_cases e : i = k
    · subst e
      rw [if_pos rfl]; unfold gI; rw [if_pos rfl, upd_same]
    · rw [if_neg e, updF_ne _ _ e]
      unfold gI
      rw [if_neg e]
      unfold gK
      rw [upd_big h760 (Nat.le_add_right _ _), hγ]) (hx _) (hx _)
  refine W_wk hm ?_
  refine W_loopF (α := Nat) (rsI k) (osI c k) (fun j _ => bgI c k) (fun j => j ≤ (c.trucks.getD k default).holds.length) (fun j => (c.trucks.getD k default).holds.length - j) 0 (Nat.zero_le _) ?_ round
  generalize hA : (Ab.Own.arr 89 2 (c.trucks.getD k default).holds.length fun j => encHold ((trK c k k).holds.getD j default)) = A
  have hg : ∀ s, s ≠ 60 → upd S.γ 60 (S.γ 60 + 1) s = S.γ s := fun s h => upd_ne _ _ _ _ h
  have h7 : ∀ s, s ≠ 7 → s ≠ FB + k → s ≠ 60 → upd (upd (upd S.σ 60 A) (FB + k) .none) 7 (.arr 50 5 c.trucks.length (gI c (upd S.γ 60 (S.γ 60 + 1)) k)) s = S.σ s := fun s q1 q2 q3 => by
    rw [upd_ne _ _ _ _ q1, upd_ne _ _ _ _ q2, upd_ne _ _ _ _ q3]
  refine ⟨⟨?_, ?_, r3, ?_, r5, trivial⟩, ⟨?_, ?_, ?_, ?_, trivial⟩, fun s hs => ?_⟩
  · show S.ρ 1 = .bx 1 (upd S.γ 60 (S.γ 60 + 1) 1) 0
    rw [hg 1 (by decide)]; exact r1
  · show S.ρ 2 = .bx 2 (upd S.γ 60 (S.γ 60 + 1) 2) 0
    rw [hg 2 (by decide)]; exact r2
  · show S.ρ 4 = .op 7 (upd S.γ 60 (S.γ 60 + 1) 7) 5 ((k : Int)).toNat 0
    rw [hg 7 (by decide)]; exact r4
  · refine (h7 1 (by decide) (fam_ne (by decide)) (by decide)).trans (s1.trans ?_)
    show _ = Ab.Own.box [.int .i64 c.len, .int .i64 c.gap, .int .i64 c.fails, .os 7 (upd S.γ 60 (S.γ 60 + 1) 7)]
    rw [hg 7 (by decide)]
  · exact (h7 2 (by decide) (fam_ne (by decide)) (by decide)).trans s2
  · exact (upd_same (upd (upd S.σ 60 A) (FB + k) .none) 7 (.arr 50 5 c.trucks.length (gI c (upd S.γ 60 (S.γ 60 + 1)) k)) : upd _ 7 _ 7 = _)
  · show upd (upd (upd S.σ 60 A) (FB + k) .none) 7 (.arr 50 5 c.trucks.length (gI c (upd S.γ 60 (S.γ 60 + 1)) k)) 60 = .arr 89 2 (c.trucks.getD k default).holds.length (iK c k 0)
    rw [upd_ne _ _ _ _ (by decide), upd_ne _ _ _ _ hne.symm, upd_same, ← hA, trK_self]
    unfold iK
    rw [hsJ_zero]
  · by_cases e : s = FB + k
    · left; show bgI c k s = .none; unfold bgI; rw [if_pos e]
    · right
      show bgI c k s = upd (upd (upd S.σ 60 A) (FB + k) .none) 7 (.arr 50 5 c.trucks.length (gI c (upd S.γ 60 (S.γ 60 + 1)) k)) s
      unfold bgI
      rw [if_neg e, upd_big h77 hs, upd_ne _ _ _ _ e, upd_big h760 hs, hσ s hs]
theorem turn_close {k : Nat} {h : Nat → Nat} (hk : k < c.trucks.length) (hx : ∀ s, X.xa s = false) (r1 : S.ρ 1 = .bx 1 (S.γ 1) 0) (r2 : S.ρ 2 = .bx 2 (S.γ 2) 0) (r3 : S.ρ 3 = .int .i64 ((k : Int) + 1))
    (s1 : S.σ 1 = .box [.int .i64 c.len, .int .i64 c.gap, .int .i64 c.fails, .os 7 (S.γ 7)]) (s2 : S.σ 2 = .box [.int .i64 0, .int .i64 0, .int .i64 0, .nil])
    (s7 : S.σ 7 = .arr 50 5 c.trucks.length (gI c h k)) (s60 : S.σ 60 = .arr 89 2 (c.trucks.getD k default).holds.length (iK c k (c.trucks.getD k default).holds.length)) (hγ : S.γ = h) (hσ : ∀ s, FB ≤ s → S.σ s = bgI c k s) :
    ∃ S'', Wk X S S'' ∧ MatchF S'' (rsT (k + 1) S''.γ) (osT c (k + 1) S''.γ) (bgT c (k + 1)) := by
  have h760 : (60 : Nat) < FB := by decide
  have h77 : (7 : Nat) < FB := by decide
  have hne : FB + k ≠ 60 := (fam_ne h760).symm
  have hm := wk_mv_elem (X := X) (S := S) 7 k 4 (FB + k) (s := 60) (g := h 60) (f2' := gK c (upd S.γ (FB + k) (S.γ (FB + k) + 1)) (k + 1)) (l' := trC (trI c k) (FB + k) (S.γ (FB + k) + 1)) (l0 := trC (trI c k) 60 (h 60)) s7 (by decide) (fam_ne h77) hne.symm hk (by unfold gI; rw [if_pos rfl]) rfl (by rw [hγ]) s60 rfl (fun i hi => by
    by_cases e : i = k
    · subst e
      rw [if_pos rfl]; unfold gK trK; rw [if_pos (Nat.lt_succ_self _), upd_same]; rfl
    · rw [if_neg e]
      unfold gI
      rw [if_neg e]
      unfold gK
      rw [upd_ne _ _ _ _ (fun q => e (fam_inj q)), hγ]
      have : trK c (k + 1) i = trK c k i := by
        unfold trK
        by_cases e2 : i < k
        · rw [if_pos e2, if_pos (by omega)]
        · rw [if_neg e2, if_neg (by omega)]
      rw [this]) (hx _) (hx _)
  generalize hA : (Ab.Own.arr 89 2 (c.trucks.getD k default).holds.length (iK c k (c.trucks.getD k default).holds.length)) = A at hm
  have hg : ∀ s, s < FB → upd S.γ (FB + k) (S.γ (FB + k) + 1) s = S.γ s := fun s h => upd_fam h
  have h7 : ∀ s, s ≠ 7 → s ≠ FB + k → s ≠ 60 → upd (upd (upd S.σ (FB + k) A) 60 .none) 7 (.arr 50 5 c.trucks.length (gK c (upd S.γ (FB + k) (S.γ (FB + k) + 1)) (k + 1))) s = S.σ s := fun s q1 q2 q3 => by
    rw [upd_ne _ _ _ _ q1, upd_ne _ _ _ _ q3, upd_ne _ _ _ _ q2]
  refine ⟨_, hm, ⟨?_, ?_, r3.trans (by push_cast; rfl), trivial⟩, ⟨?_, ?_, ?_, trivial⟩, fun s hs => ?_⟩
  · show S.ρ 1 = .bx 1 (upd S.γ (FB + k) (S.γ (FB + k) + 1) 1) 0
    rw [hg 1 (by decide)]; exact r1
  · show S.ρ 2 = .bx 2 (upd S.γ (FB + k) (S.γ (FB + k) + 1) 2) 0
    rw [hg 2 (by decide)]; exact r2
  · refine (h7 1 (by decide) (fam_ne (by decide)) (by decide)).trans (s1.trans ?_)
    show _ = Ab.Own.box [.int .i64 c.len, .int .i64 c.gap, .int .i64 c.fails, .os 7 (upd S.γ (FB + k) (S.γ (FB + k) + 1) 7)]
    rw [hg 7 (by decide)]
  · exact (h7 2 (by decide) (fam_ne (by decide)) (by decide)).trans s2
  · exact (upd_same (upd (upd S.σ (FB + k) A) 60 .none) 7 (.arr 50 5 c.trucks.length (gK c (upd S.γ (FB + k) (S.γ (FB + k) + 1)) (k + 1))) : upd _ 7 _ 7 = _)
  · obtain ⟨i, rfl⟩ := ge_fam hs
    by_cases hi : i < c.trucks.length
    · right
      show bgT c (k + 1) (FB + i) = upd (upd (upd S.σ (FB + k) A) 60 .none) 7 (.arr 50 5 c.trucks.length (gK c (upd S.γ (FB + k) (S.γ (FB + k) + 1)) (k + 1))) (FB + i)
      rw [upd_big h77 hs, upd_big h760 hs, bgT_at c _ hi]
      by_cases e : i = k
      · subst e
        rw [upd_same, ← hA]
        unfold trK iK
        rw [if_pos (Nat.lt_succ_self _), hsJ_all c.len (Nat.le_refl _)]; rfl
      · rw [upd_ne _ _ _ _ (fun q => e (fam_inj q)), hσ _ hs]
        unfold bgI
        rw [if_neg (fun q => e (fam_inj q)), bgT_at c _ hi]
        have : trK c (k + 1) i = trK c k i := by
          unfold trK
          by_cases e2 : i < k
          · rw [if_pos e2, if_pos (by omega)]
          · rw [if_neg e2, if_neg (by omega)]
        rw [this]
    · exact .inl (bgT_out c _ hi)
end
theorem turn_fin {X : Ctx} {S : St} {c : Convoy} {h : Nat → Nat} (hx : ∀ s, X.xa s = false) (s2 : S.σ 2 = .box [.int .i64 c.len, .int .i64 c.gap, .int .i64 c.fails, .os 7 (S.γ 7)]) (s7 : S.σ 7 = .arr 50 5 c.trucks.length (gK c h c.trucks.length)) (hγ : S.γ = h) (hσ : ∀ s, FB ≤ s → S.σ s = bgT c c.trucks.length s) :
    ∃ S', Wk X S S' ∧ S'.ρ = S.ρ ∧ S'.γ = S.γ ∧ S'.σ 2 = .box (encConvoy (turnC c)) := by
  obtain ⟨S1, w1, r1, g1, ⟨f1, t1, e1⟩, o1, _⟩ := wk_freeze_fam (X := X) (S := S) 7 4 (E := 89) (z := 2) (n := fun i => (c.trucks.getD i default).holds.length) (el := fun i j => encHold ((trK c c.trucks.length i).holds.getD j default)) (f2 := gK c h c.trucks.length)
    (f2' := fun i => [.int .i64 (trK c c.trucks.length i).way, .int .i64 (trK c c.trucks.length i).start, .int .i64 (trK c c.trucks.length i).lo, .int .i64 (trK c c.trucks.length i).hi, .sl 2 (c.trucks.getD i default).holds.length (fun j => encHold ((trK c c.trucks.length i).holds.getD j default))])
    (by decide) s7 (fun i hi => by rw [hγ]; rfl) (fun i hi => (hσ _ (Nat.le_add_right _ _)).trans (bgT_at c _ hi)) (fun i hi => rfl) hx c.trucks.length (Nat.le_refl _)
  have w2 := wk_arr_ext (X := X) (S := S1) 7 (fun i => encTruck ((turnC c).trucks.getD i default)) t1 (fun i hi => by
    rw [e1 i hi, if_pos hi, getD_turn c hi]
    have e : trK c c.trucks.length i = turnT c.len (c.trucks.getD i default) := by unfold trK; rw [if_pos hi]
    have hl : (turnT c.len (c.trucks.getD i default)).holds.length = (c.trucks.getD i default).holds.length := by simp [turnT]
    rw [e]
    unfold encTruck slOf
    rw [hl])
  have h27 : upd S1.σ 7 (.arr 50 5 c.trucks.length (fun i => encTruck ((turnC c).trucks.getD i default))) 2 = .box [.int .i64 c.len, .int .i64 c.gap, .int .i64 c.fails, .os 7 (S.γ 7)] := by
    rw [upd_ne _ _ _ _ (by decide), o1 2 (by decide) (by decide)]; exact s2
  have h77 : upd S1.σ 7 (.arr 50 5 c.trucks.length (fun i => encTruck ((turnC c).trucks.getD i default))) 7 = (.arr 50 5 c.trucks.length (fun i => encTruck ((turnC c).trucks.getD i default))) := upd_same _ _ _
  have w3 := wk_freeze_cell (X := X) (S := ⟨S1.ρ, S1.γ, upd S1.σ 7 (.arr 50 5 c.trucks.length (fun i => encTruck ((turnC c).trucks.getD i default)))⟩) 2 3 (s := 7) (g := S.γ 7) (l' := encConvoy (turnC c)) (E := 50) (z := 5) (n := c.trucks.length) (f := fun i => encTruck ((turnC c).trucks.getD i default)) h27 rfl (by rw [g1]) h77 (by
    unfold encConvoy slOf
    rw [len_turn]; rfl) (hx 7)
  exact ⟨_, w1.trans (w2.trans w3), r1, g1, (upd_same (upd (upd S1.σ 7 (.arr 50 5 c.trucks.length (fun i => encTruck ((turnC c).trucks.getD i default)))) 7 .none) 2 (.box (encConvoy (turnC c))) : upd _ 2 _ 2 = _)⟩
theorem c42 (c : Convoy) (hb : Bnd c) : Contract seat 42 [.agg (encConvoy c)] (.agg (encConvoy (turnC c))) := by
  obtain ⟨hn, hl1, hl2, hk⟩ := hb
  refine contract_introW (fn := Tryd.f42) Tryd.func42 rfl (by kernel_rfl) rfl ?_ ?_ ?_
  · exact PureL.cons (.agg _ (pure_convoy c)) PureL.nil
  · exact .agg _ (pure_convoy _)
  intro w κ
  repeat' (first
    | (refine WL_callOF plF ixF (pF c.trucks.length) (hpF _) (hplF _) rfl rfl (c20F c hn fun k h => (hk k h).1) rfl rfl rfl ?_)
    | (apply WL_q; apply Eq.refl; apply Eq.refl; (first | (apply q_mvI <;> apply Eq.refl) | (apply q_asI <;> apply Eq.refl) | (apply q_ldb <;> apply Eq.refl) | (apply q_fab <;> apply Eq.refl) | (apply q_cmp <;> apply Eq.refl) | (apply q_arith <;> (first | apply Eq.refl | omega)) | (apply q_ldba <;> apply Eq.refl) | (apply q_ldo <;> (first | apply Eq.refl | omega)) | (apply q_fao <;> apply Eq.refl) | (apply q_iao <;> (first | apply Eq.refl | omega)) | (apply q_leno <;> apply Eq.refl) | (apply q_ncko <;> apply Eq.refl) | (apply q_mvP <;> apply Eq.refl) | (apply q_asP <;> apply Eq.refl)))
    | apply W_seq
    | apply W_region
    | apply T_normal
    | apply WL_nil
    | apply T_exit
    | apply B_normal
    | apply B_exit_eq
    | apply W_skip
    | apply W_exit
    | apply W_ret
    | apply W_block
    | (apply WL_n; apply Eq.refl; (first | (apply n_boxa <;> apply Eq.refl) | (apply n_alloc <;> apply Eq.refl) | (apply n_stb <;> (first | apply Eq.refl | (intro _ e; cases e))) | (apply n_sto <;> (first | apply Eq.refl | omega))))
    | apply W_regionG
    | (apply WG_nil; kernel_rfl)
    | (apply WG_q; (first | (apply want_none; apply Eq.refl) | (apply want_some; apply Eq.refl; apply Eq.refl; apply Eq.refl)); apply Eq.refl; first | (apply fq_bld <;> apply Eq.refl) | (apply fq_blda <;> apply Eq.refl) | (apply fq_fn; apply Eq.refl) | (apply fq_mf; apply Eq.refl) | (apply FQ_intro; intro _; (first | (apply q_mvI <;> apply Eq.refl) | (apply q_asI <;> apply Eq.refl) | (apply q_ldb <;> apply Eq.refl) | (apply q_fab <;> apply Eq.refl) | (apply q_cmp <;> apply Eq.refl) | (apply q_arith <;> (first | apply Eq.refl | omega)) | (apply q_ldba <;> apply Eq.refl) | (apply q_ldo <;> (first | apply Eq.refl | omega)) | (apply q_fao <;> apply Eq.refl) | (apply q_iao <;> (first | apply Eq.refl | omega)) | (apply q_leno <;> apply Eq.refl) | (apply q_ncko <;> apply Eq.refl) | (apply q_mvP <;> apply Eq.refl) | (apply q_asP <;> apply Eq.refl))))
    | (apply WG_n; (first | (apply want_none; apply Eq.refl) | (apply want_some; apply Eq.refl; apply Eq.refl; apply Eq.refl)); (first | (apply f_sto <;> (first | apply Eq.refl | omega))))
    | (apply W_cD; apply Eq.refl; intro _; rotate_left 1; intro _; rotate_left 1))
  refine W_turn (c := c) ?_ ?_ ?_ ?_ ?_ (f := fun j => renLM (fun i => (plF i, (upd (upd (fun _ => 0) 1 1) 2 1) (plF i) + 1)) ((osO c 0).el j)) ?_ ?_ ?_ (fun k h hkn => ?_)
  · rfl
  · rfl
  · rfl
  · rfl
  · rfl
  · rfl
  · intro i hi
    exact congrArg (trC (c.trucks.getD i default) (FB + i)) (mrg_t (p := pF c.trucks.length) (f := fun s => (upd (upd (fun _ => 0) 1 1) 2 1) s + 1) (pF_fam hi)).symm
  · intro i hi
    have e1 : ∀ (g : Nat → Ab.Own) (v : Ab.Own), upd (mrg (pF c.trucks.length) (fun s => (osO c (ixF s)).ownF (fun i => (plF i, (upd (upd (fun _ => 0) 1 1) 2 1) (plF i) + 1))) g) 1 v (FB + i) = .arr 89 2 (c.trucks.getD i default).holds.length (fun j => encHold ((c.trucks.getD i default).holds.getD j default)) := fun g v => by
      rw [upd_big (by decide) (Nat.le_add_right _ _), mrg_t (pF_fam hi), ixF_fam]
      rfl
    exact e1 _ _
  have hkk : ((k : Int)).toNat = k := Int.toNat_natCast k
  have hcell0 : nth (gK c h k ((k : Int)).toNat) 0 = some (.int .i64 (c.trucks.getD k default).way) := by
    rw [hkk]; unfold gK; rw [trK_self]; rfl
  have hover0 : ∀ d : D, d.isCell = true → overN (gK c h k ((k : Int)).toNat) 0 [d] = some [d, .int .i64 (c.trucks.getD k default).start, .int .i64 (c.trucks.getD k default).lo, .int .i64 (c.trucks.getD k default).hi, .os (FB + k) (h (FB + k))] := fun d _ => by
    rw [hkk]; unfold gK; rw [trK_self]; rfl
  have hw : k < c.trucks.length → -1000000000 ≤ (c.trucks.getD k default).way ∧ (c.trucks.getD k default).way ≤ 1000000000 := fun q => ⟨(hk k q).2.1, (hk k q).2.2.1⟩
  repeat' (first
    | (apply WL_q; apply Eq.refl; apply Eq.refl; apply q_ldo; apply Eq.refl; apply Eq.refl; apply Eq.refl; apply Eq.refl; apply Eq.refl; apply Eq.refl; apply Eq.refl; omega; exact hcell0)
    | (apply WL_q; apply Eq.refl; apply Eq.refl; (first | (apply q_mvI <;> apply Eq.refl) | (apply q_asI <;> apply Eq.refl) | (apply q_ldb <;> apply Eq.refl) | (apply q_fab <;> apply Eq.refl) | (apply q_cmp <;> apply Eq.refl) | (apply q_arith <;> (first | apply Eq.refl | omega)) | (apply q_ldba <;> apply Eq.refl) | (apply q_ldo <;> (first | apply Eq.refl | omega)) | (apply q_fao <;> apply Eq.refl) | (apply q_iao <;> (first | apply Eq.refl | omega)) | (apply q_leno <;> apply Eq.refl) | (apply q_ncko <;> apply Eq.refl) | (apply q_mvP <;> apply Eq.refl) | (apply q_asP <;> apply Eq.refl)))
    | apply W_seq
    | apply W_region
    | apply T_normal
    | apply WL_nil
    | apply T_exit
    | apply B_normal
    | apply B_exit_eq
    | apply W_skip
    | apply W_exit
    | apply W_ret
    | apply W_block
    | (apply WL_n; apply Eq.refl; (first | (refine n_sto rfl rfl rfl rfl (by omega) rfl rfl rfl rfl rfl (hover0 _ rfl) rfl) | (apply n_boxa <;> apply Eq.refl) | (apply n_alloc <;> apply Eq.refl) | (apply n_stb <;> (first | apply Eq.refl | (intro _ e; cases e))) | (apply n_sto <;> (first | apply Eq.refl | omega))))
    | apply W_regionG
    | (apply WG_nil; kernel_rfl)
    | (apply WG_q; (first | (apply want_none; apply Eq.refl) | (apply want_some; apply Eq.refl; apply Eq.refl; apply Eq.refl)); apply Eq.refl; first | (apply fq_bld <;> apply Eq.refl) | (apply fq_blda <;> apply Eq.refl) | (apply fq_fn; apply Eq.refl) | (apply fq_mf; apply Eq.refl) | (apply FQ_intro; intro _; (first | (apply q_mvI <;> apply Eq.refl) | (apply q_asI <;> apply Eq.refl) | (apply q_ldb <;> apply Eq.refl) | (apply q_fab <;> apply Eq.refl) | (apply q_cmp <;> apply Eq.refl) | (apply q_arith <;> (first | apply Eq.refl | omega)) | (apply q_ldba <;> apply Eq.refl) | (apply q_ldo <;> (first | apply Eq.refl | omega)) | (apply q_fao <;> apply Eq.refl) | (apply q_iao <;> (first | apply Eq.refl | omega)) | (apply q_leno <;> apply Eq.refl) | (apply q_ncko <;> apply Eq.refl) | (apply q_mvP <;> apply Eq.refl) | (apply q_asP <;> apply Eq.refl))))
    | (apply WG_n; (first | (apply want_none; apply Eq.refl) | (apply want_some; apply Eq.refl; apply Eq.refl; apply Eq.refl)); (first | (refine f_sto rfl rfl rfl rfl (by omega) rfl rfl rfl rfl rfl (hover0 _ rfl) rfl) | (apply f_sto <;> (first | apply Eq.refl | omega))))
    | (apply W_cD; apply Eq.refl; intro _; rotate_left 1; intro _; rotate_left 1))
  · have hkn' : k < c.trucks.length := by omega
    refine W_turnI (c := c) (k := k) (h := h) hkn' (fun _ => rfl) ?_ ?_ ?_ ?_ ?_ ?_ ?_ ?_ ?_ ?_ (fun j h' hj => ?_)
    · rfl
    · rfl
    · rfl
    · rfl
    · rfl
    · rfl
    · rfl
    · rfl
    · rfl
    · intro s hs
      exact (upd_big (i := 7) (by decide) hs).trans (mkF_big (rs := rsT k h) (h := h) hs)
    have hcellI : nth (gI c h' k ((k : Int)).toNat) 4 = some (.os 60 (h' 60)) := by
      rw [hkk]; unfold gI; rw [if_pos rfl]; rfl
    have hjj : ((j : Int)).toNat = j := Int.toNat_natCast j
    have hcellA : j < (c.trucks.getD k default).holds.length → nth (iK c k j ((j : Int)).toNat) 0 = some (.int .i64 ((c.trucks.getD k default).holds.getD j default).a) := fun q => by
      rw [hjj]; unfold iK; rw [hsJ_at c.len q]; rfl
    have hoverA : j < (c.trucks.getD k default).holds.length → ∀ d : D, d.isCell = true → overN (iK c k j ((j : Int)).toNat) 0 [d] = some [d, .int .i64 ((c.trucks.getD k default).holds.getD j default).u] := fun q d _ => by
      rw [hjj]; unfold iK; rw [hsJ_at c.len q]; rfl
    have hab : j < (c.trucks.getD k default).holds.length → -1000000000 ≤ ((c.trucks.getD k default).holds.getD j default).a ∧ ((c.trucks.getD k default).holds.getD j default).a ≤ 1000000000 := fun q => (hk k hkn').2.2.2 j q
    have hnh := (hk k hkn').1
    repeat' (first
    | (apply WL_q; apply Eq.refl; apply Eq.refl; apply q_ldo; apply Eq.refl; apply Eq.refl; apply Eq.refl; apply Eq.refl; apply Eq.refl; apply Eq.refl; apply Eq.refl; omega; exact hcellI)
    | (apply WG_q; (apply want_none; apply Eq.refl); apply Eq.refl; apply FQ_intro; intro _; apply q_ldo; apply Eq.refl; apply Eq.refl; apply Eq.refl; apply Eq.refl; apply Eq.refl; apply Eq.refl; apply Eq.refl; omega; exact hcellI)
    | (apply WG_q; (apply want_none; apply Eq.refl); apply Eq.refl; apply FQ_intro; intro _; apply q_ldo; apply Eq.refl; apply Eq.refl; apply Eq.refl; apply Eq.refl; apply Eq.refl; apply Eq.refl; apply Eq.refl; omega; exact hcellA (by omega))
    | (apply WL_q; apply Eq.refl; apply Eq.refl; (first | (apply q_mvI <;> apply Eq.refl) | (apply q_asI <;> apply Eq.refl) | (apply q_ldb <;> apply Eq.refl) | (apply q_fab <;> apply Eq.refl) | (apply q_cmp <;> apply Eq.refl) | (apply q_arith <;> (first | apply Eq.refl | omega)) | (apply q_ldba <;> apply Eq.refl) | (apply q_ldo <;> (first | apply Eq.refl | omega)) | (apply q_fao <;> apply Eq.refl) | (apply q_iao <;> (first | apply Eq.refl | omega)) | (apply q_leno <;> apply Eq.refl) | (apply q_ncko <;> apply Eq.refl) | (apply q_mvP <;> apply Eq.refl) | (apply q_asP <;> apply Eq.refl)))
    | apply W_seq
    | apply W_region
    | apply T_normal
    | apply WL_nil
    | apply T_exit
    | apply B_normal
    | apply B_exit_eq
    | apply W_skip
    | apply W_exit
    | apply W_ret
    | apply W_block
    | (apply WL_n; apply Eq.refl; (first | (refine n_sto rfl rfl rfl rfl (by omega) rfl rfl rfl rfl rfl (hoverA (by omega) _ rfl) rfl) | (apply n_boxa <;> apply Eq.refl) | (apply n_alloc <;> apply Eq.refl) | (apply n_stb <;> (first | apply Eq.refl | (intro _ e; cases e))) | (apply n_sto <;> (first | apply Eq.refl | omega))))
    | apply W_regionG
    | (apply WG_nil; kernel_rfl)
    | (apply WG_q; (first | (apply want_none; apply Eq.refl) | (apply want_some; apply Eq.refl; apply Eq.refl; apply Eq.refl)); apply Eq.refl; first | (apply fq_bld <;> apply Eq.refl) | (apply fq_blda <;> apply Eq.refl) | (apply fq_fn; apply Eq.refl) | (apply fq_mf; apply Eq.refl) | (apply FQ_intro; intro _; (first | (apply q_mvI <;> apply Eq.refl) | (apply q_asI <;> apply Eq.refl) | (apply q_ldb <;> apply Eq.refl) | (apply q_fab <;> apply Eq.refl) | (apply q_cmp <;> apply Eq.refl) | (apply q_arith <;> (first | apply Eq.refl | omega)) | (apply q_ldba <;> apply Eq.refl) | (apply q_ldo <;> (first | apply Eq.refl | omega)) | (apply q_fao <;> apply Eq.refl) | (apply q_iao <;> (first | apply Eq.refl | omega)) | (apply q_leno <;> apply Eq.refl) | (apply q_ncko <;> apply Eq.refl) | (apply q_mvP <;> apply Eq.refl) | (apply q_asP <;> apply Eq.refl))))
    | (apply WG_n; (first | (apply want_none; apply Eq.refl) | (apply want_some; apply Eq.refl; apply Eq.refl; apply Eq.refl)); (first | (refine f_sto rfl rfl rfl rfl (by omega) rfl rfl rfl rfl rfl (hoverA (by omega) _ rfl) rfl) | (apply f_sto <;> (first | apply Eq.refl | omega))))
    | (apply W_cD; apply Eq.refl; intro _; rotate_left 1; intro _; rotate_left 1))
    · have hlt : j < (c.trucks.getD k default).holds.length := by omega
      have eI : updF (iK c k j) ((j : Int)).toNat (encHold (turnH c.len ((c.trucks.getD k default).holds.getD j default))) = iK c k (j + 1) := by
        rw [hjj]; unfold iK
        rw [updF_list (by rw [hsJ_len]; exact hlt), hsJ_next c.len hlt]
      refine ⟨j + 1, _, by omega, by omega, Wk.refl _ _, ⟨⟨rfl, rfl, rfl, rfl, (show D.int .i64 ((j : Int) + 1) = D.int .i64 ((j + 1 : Nat) : Int) from by push_cast; rfl), trivial⟩, ⟨rfl, rfl, rfl, ?_, trivial⟩, fun s hs => .inr ?_⟩⟩
      · exact congrArg (Ab.Own.arr 89 2 (c.trucks.getD k default).holds.length) eI
      · exact ((upd_big (i := 60) (by decide) hs).trans (mkF_big (rs := rsI k j h') (h := h') hs)).symm
    · have hjn : j = (c.trucks.getD k default).holds.length := by omega
      subst hjn
      refine ⟨k + 1, Exists.imp (fun S'' hh => ⟨by omega, by omega, hh.1, hh.2⟩) (turn_close (c := c) (k := k) (h := h') hkn' (fun _ => rfl) ?_ ?_ ?_ ?_ ?_ ?_ ?_ ?_ ?_)⟩
      · rfl
      · rfl
      · rfl
      · rfl
      · rfl
      · rfl
      · rfl
      · rfl
      · exact fun s hs => mkF_big (rs := rsI k (c.trucks.getD k default).holds.length h') (h := h') hs
  · have hkn' : k = c.trucks.length := by omega
    subst hkn'
    refine Exists.elim (turn_fin (c := c) (h := h) (fun _ => rfl) ?_ ?_ ?_ ?_) (fun S' hh => fin_wk hh.1 (fin_now (fin_A (p := 2) (T := 24) (s := 2) (g := h 2) (j := 0) (l := encConvoy (turnC c)) rfl ?_ ?_ hh.2.2.2 rfl rfl rfl rfl rfl)))
    · rfl
    · rfl
    · rfl
    · exact fun s hs => (upd_big (i := 2) (by decide) hs).trans (mkF_big (rs := rsT c.trucks.length h) (h := h) hs)
    · show S'.ρ 2 = .bx 2 (h 2) 0
      rw [hh.2.1]; rfl
    · rw [hh.2.2.1]; rfl
end Go.Proofs.YtafnhieaeejlcaaDoor
namespace Go.Proofs.YtafnhieaeejlcaaDoor
open Go Go.Ab
set_option linter.all false
theorem offP_turn {c : Convoy} (h : WaysOk c) : offP (turnC c) = offP c := by
  unfold offP offPLo failsP
  rw [keepF_turn h, failF_turn h, endF_turn h, len_turn]
  rfl
end Go.Proofs.YtafnhieaeejlcaaDoor
namespace Go.Ab
open Go Go.RowKit
set_option linter.all false
structure Span where
  Lo : Int
  Hi : Int
  deriving DecidableEq
def dfltSpan : Span := ⟨0, 0⟩
instance : Inhabited Span := ⟨dfltSpan⟩
structure Hold where
  At : Int
  Until : Int
  deriving DecidableEq
def dfltHold : Hold := ⟨0, 0⟩
instance : Inhabited Hold := ⟨dfltHold⟩
structure Truck where
  Way : Int
  Start : Int
  Pace : Span
  Holds : List Hold
  deriving DecidableEq
def dfltTruck : Truck := ⟨0, 0, dfltSpan, []⟩
instance : Inhabited Truck := ⟨dfltTruck⟩
structure Convoy where
  Length : Int
  Gap : Int
  Fails : Int
  Trucks : List Truck
  deriving DecidableEq
def dfltConvoy : Convoy := ⟨0, 0, 0, []⟩
instance : Inhabited Convoy := ⟨dfltConvoy⟩
structure Meeting where
  Minute : Int
  First : Int
  Second : Int
  FirstFails : Bool
  SecondFails : Bool
  At : Int
  Other : Int
  deriving DecidableEq
def dfltMeeting : Meeting := ⟨0, 0, 0, false, false, 0, 0⟩
instance : Inhabited Meeting := ⟨dfltMeeting⟩
structure Ride where
  Truck : Truck
  length : Int
  deriving DecidableEq
def dfltRide : Ride := ⟨dfltTruck, 0⟩
instance : Inhabited Ride := ⟨dfltRide⟩
structure Track where
  ride : Ride
  gone : List Span
  deriving DecidableEq
def dfltTrack : Track := ⟨dfltRide, []⟩
instance : Inhabited Track := ⟨dfltTrack⟩
structure Lanes where
  a : Track
  b : Track
  deriving DecidableEq
def dfltLanes : Lanes := ⟨dfltTrack, dfltTrack⟩
instance : Inhabited Lanes := ⟨dfltLanes⟩
structure Nearness where
  gap : Int
  fails : Int
  deriving DecidableEq
def dfltNearness : Nearness := ⟨0, 0⟩
instance : Inhabited Nearness := ⟨dfltNearness⟩
structure Pair where
  a : Int
  b : Int
  deriving DecidableEq
def dfltPair : Pair := ⟨0, 0⟩
instance : Inhabited Pair := ⟨dfltPair⟩
structure Seed where
  word : Int
  deriving DecidableEq
def dfltSeed : Seed := ⟨0⟩
instance : Inhabited Seed := ⟨dfltSeed⟩
structure Ways where
  a : List Span
  b : List Span
  deriving DecidableEq
def dfltWays : Ways := ⟨[], []⟩
instance : Inhabited Ways := ⟨dfltWays⟩
inductive T where
  | int (k : IntKind) | bool | str | sl (t : T) | ptr (t : T) | clo (f : FuncId) (t : T) | clo0 (f : FuncId) | err | clo2 (f : FuncId) (t u : T) | clo3 (f : FuncId) (t u v : T) | mfn (f : FuncId) (t : T)
  | Span | Hold | Truck | Convoy | Meeting | Ride | Track | Lanes | Nearness | Pair | Seed | Ways
  deriving DecidableEq
@[reducible] def den : T → Type
  | .int _ => Int
  | .bool => Bool
  | .str => ByteArray
  | .sl t => List (den t)
  | .ptr t => den t
  | .clo _ t => den t
  | .clo0 _ => Unit
  | .err => Bool
  | .clo2 _ t u => den t × den u
  | .clo3 _ t u v => den t × den u × den v
  | .mfn _ t => den t
  | .Span => Span
  | .Hold => Hold
  | .Truck => Truck
  | .Convoy => Convoy
  | .Meeting => Meeting
  | .Ride => Ride
  | .Track => Track
  | .Lanes => Lanes
  | .Nearness => Nearness
  | .Pair => Pair
  | .Seed => Seed
  | .Ways => Ways
def sz : T → Nat
  | .Span => 2
  | .Hold => 2
  | .Truck => 5
  | .Convoy => 4
  | .Meeting => 7
  | .Ride => 6
  | .Track => 7
  | .Lanes => 14
  | .Nearness => 2
  | .Pair => 2
  | .Seed => 1
  | .Ways => 2
  | _ => 1
def dflt : (t : T) → den t
  | .int _ => (0 : Int)
  | .bool => false
  | .str => (⟨#[]⟩ : ByteArray)
  | .sl t => ([] : List (den t))
  | .ptr t => dflt t
  | .clo _ t => dflt t
  | .clo0 _ => ()
  | .err => false
  | .clo2 _ t u => (dflt t, dflt u)
  | .clo3 _ t u v => (dflt t, dflt u, dflt v)
  | .mfn _ t => dflt t
  | .Span => dfltSpan
  | .Hold => dfltHold
  | .Truck => dfltTruck
  | .Convoy => dfltConvoy
  | .Meeting => dfltMeeting
  | .Ride => dfltRide
  | .Track => dfltTrack
  | .Lanes => dfltLanes
  | .Nearness => dfltNearness
  | .Pair => dfltPair
  | .Seed => dfltSeed
  | .Ways => dfltWays
inductive I where
  | int (k : IntKind) (n : Int)
  | bool (b : Bool)
  | str (s : ByteArray)
  | agg (l : List I)
  | tup (l : List I)
  | sl (t : T) (l : List (den t))
  | nsl (t : T) (l : List (den t))
  | nil
  | rp (l : List I) (o : Nat)
  | bx (s g o : Nat)
  | mb (s g : Nat) (T : TypeId)
  | os (s g : Nat)
  | op (s g z i o : Nat)
  | ow (s g z a m : Nat)
  | fn (f : FuncId) (c : List I)
  | yl (l : Nat)
  | mf (f : FuncId) (c : List I)
  | one
  | lk (c : LK)
  | er (b : Bool)
  | undef
instance : Inhabited I := ⟨.undef⟩
def ofB (b : Bool) : LK := bif b then .ni else .nn
def tEr : List I → Option Bool
  | [.er b] => some b
  | _ => none
theorem tEr_ok {r : List I} {x : Bool} (h : tEr r = some x) : r = [.er x] := by
  unfold tEr at h
  split at h
  · simp only [Option.some.injEq] at h; rw [h]
  · cases h
def tI (k : IntKind) : List I → Option (Int × List I)
  | .int k' n :: r => if k' = k then some (n, r) else none
  | _ => none
def tB : List I → Option (Bool × List I)
  | .bool b :: r => some (b, r)
  | _ => none
def tS : List I → Option (ByteArray × List I)
  | .str b :: r => some (b, r)
  | _ => none
def asL (t t' : T) (l : List (den t')) : Option (List (den t)) := if h : t' = t then some (h ▸ l) else none
def tL (t : T) : List I → Option (List (den t) × List I)
  | .sl t' l :: r => match asL t t' l with | some l => some (l, r) | none => none
  | .nsl t' l :: r => match asL t t' l with | some l => some (l, r) | none => none
  | .nil :: r => some ([], r)
  | _ => none
def tE {α : Type} : List I → α → Option α
  | [], a => some a
  | _, _ => none
def noNil : List I → Bool
  | [] => true
  | .nil :: _ => false
  | .nsl _ _ :: _ => false
  | _ :: l => noNil l
def tP {α : Type} (dec : List I → Option α) : List I → Option α
  | .rp l o :: r => (match r with | [] => bif noNil l && Nat.beq o 0 then dec l else none | _ => none)
  | _ => none
def tC {α : Type} (f : FuncId) (dec : List I → Option α) : List I → Option α
  | .fn g c :: r => (match r with | [] => bif Nat.beq g f then tP dec c else none | _ => none)
  | _ => none
def tC0 (f : FuncId) : List I → Option Unit
  | .fn g c :: r => (match r with | [] => bif Nat.beq g f then (match c with | [] => some () | _ => none) else none | _ => none)
  | _ => none
def tC2 {α β : Type} (f : FuncId) (da : List I → Option α) (db : List I → Option β) : List I → Option (α × β)
  | .fn g c :: r => (match r with | [] => bif Nat.beq g f then (match c with | x :: ys => (tP da [x]).bind fun a => (tP db ys).bind fun b => some (a, b) | _ => none) else none | _ => none)
  | _ => none
def tC3 {α β γ : Type} (f : FuncId) (da : List I → Option α) (db : List I → Option β) (dc : List I → Option γ) : List I → Option (α × β × γ)
  | .fn g c :: r => (match r with | [] => bif Nat.beq g f then (match c with | x :: y :: ys => (tP da [x]).bind fun a => (tP db [y]).bind fun b => (tP dc ys).bind fun d => some (a, b, d) | _ => none) else none | _ => none)
  | _ => none
def tM {α : Type} (f : FuncId) (dec : List I → Option α) : List I → Option α
  | .mf g c :: r => (match r with | [] => bif Nat.beq g f then (match c with | [.agg l] => bif noNil l then dec l else none | _ => none) else none | _ => none)
  | _ => none
@[reducible] def encs (t : T) (l : List (den t)) : List I := [.sl t l]
def encSpan (x : Span) : List I := [.int .i64 x.Lo, .int .i64 x.Hi]
def decSpan (r : List I) : Option Span := (tI .i64 r).bind fun p0 => (tI .i64 p0.2).bind fun p1 => tE p1.2 ⟨p0.1, p1.1⟩
def encHold (x : Hold) : List I := [.int .i64 x.At, .int .i64 x.Until]
def decHold (r : List I) : Option Hold := (tI .i64 r).bind fun p0 => (tI .i64 p0.2).bind fun p1 => tE p1.2 ⟨p0.1, p1.1⟩
def encTruck (x : Truck) : List I := [.int .i64 x.Way, .int .i64 x.Start, .int .i64 x.Pace.Lo, .int .i64 x.Pace.Hi, .sl .Hold x.Holds]
def decTruck (r : List I) : Option Truck := (tI .i64 r).bind fun p0 => (tI .i64 p0.2).bind fun p1 => (tI .i64 p1.2).bind fun p2 => (tI .i64 p2.2).bind fun p3 => (tL .Hold p3.2).bind fun p4 => tE p4.2 ⟨p0.1, p1.1, ⟨p2.1, p3.1⟩, p4.1⟩
def encConvoy (x : Convoy) : List I := [.int .i64 x.Length, .int .i64 x.Gap, .int .i64 x.Fails, .sl .Truck x.Trucks]
def decConvoy (r : List I) : Option Convoy := (tI .i64 r).bind fun p0 => (tI .i64 p0.2).bind fun p1 => (tI .i64 p1.2).bind fun p2 => (tL .Truck p2.2).bind fun p3 => tE p3.2 ⟨p0.1, p1.1, p2.1, p3.1⟩
def encMeeting (x : Meeting) : List I := [.int .i64 x.Minute, .int .i64 x.First, .int .i64 x.Second, .bool x.FirstFails, .bool x.SecondFails, .int .i64 x.At, .int .i64 x.Other]
def decMeeting (r : List I) : Option Meeting := (tI .i64 r).bind fun p0 => (tI .i64 p0.2).bind fun p1 => (tI .i64 p1.2).bind fun p2 => (tB p2.2).bind fun p3 => (tB p3.2).bind fun p4 => (tI .i64 p4.2).bind fun p5 => (tI .i64 p5.2).bind fun p6 => tE p6.2 ⟨p0.1, p1.1, p2.1, p3.1, p4.1, p5.1, p6.1⟩
def encRide (x : Ride) : List I := [.int .i64 x.Truck.Way, .int .i64 x.Truck.Start, .int .i64 x.Truck.Pace.Lo, .int .i64 x.Truck.Pace.Hi, .sl .Hold x.Truck.Holds, .int .i64 x.length]
def decRide (r : List I) : Option Ride := (tI .i64 r).bind fun p0 => (tI .i64 p0.2).bind fun p1 => (tI .i64 p1.2).bind fun p2 => (tI .i64 p2.2).bind fun p3 => (tL .Hold p3.2).bind fun p4 => (tI .i64 p4.2).bind fun p5 => tE p5.2 ⟨⟨p0.1, p1.1, ⟨p2.1, p3.1⟩, p4.1⟩, p5.1⟩
def encTrack (x : Track) : List I := [.int .i64 x.ride.Truck.Way, .int .i64 x.ride.Truck.Start, .int .i64 x.ride.Truck.Pace.Lo, .int .i64 x.ride.Truck.Pace.Hi, .sl .Hold x.ride.Truck.Holds, .int .i64 x.ride.length, .sl .Span x.gone]
def decTrack (r : List I) : Option Track := (tI .i64 r).bind fun p0 => (tI .i64 p0.2).bind fun p1 => (tI .i64 p1.2).bind fun p2 => (tI .i64 p2.2).bind fun p3 => (tL .Hold p3.2).bind fun p4 => (tI .i64 p4.2).bind fun p5 => (tL .Span p5.2).bind fun p6 => tE p6.2 ⟨⟨⟨p0.1, p1.1, ⟨p2.1, p3.1⟩, p4.1⟩, p5.1⟩, p6.1⟩
def encLanes (x : Lanes) : List I := [.int .i64 x.a.ride.Truck.Way, .int .i64 x.a.ride.Truck.Start, .int .i64 x.a.ride.Truck.Pace.Lo, .int .i64 x.a.ride.Truck.Pace.Hi, .sl .Hold x.a.ride.Truck.Holds, .int .i64 x.a.ride.length, .sl .Span x.a.gone, .int .i64 x.b.ride.Truck.Way, .int .i64 x.b.ride.Truck.Start, .int .i64 x.b.ride.Truck.Pace.Lo, .int .i64 x.b.ride.Truck.Pace.Hi, .sl .Hold x.b.ride.Truck.Holds, .int .i64 x.b.ride.length, .sl .Span x.b.gone]
def decLanes (r : List I) : Option Lanes := (tI .i64 r).bind fun p0 => (tI .i64 p0.2).bind fun p1 => (tI .i64 p1.2).bind fun p2 => (tI .i64 p2.2).bind fun p3 => (tL .Hold p3.2).bind fun p4 => (tI .i64 p4.2).bind fun p5 => (tL .Span p5.2).bind fun p6 => (tI .i64 p6.2).bind fun p7 => (tI .i64 p7.2).bind fun p8 => (tI .i64 p8.2).bind fun p9 => (tI .i64 p9.2).bind fun p10 => (tL .Hold p10.2).bind fun p11 => (tI .i64 p11.2).bind fun p12 => (tL .Span p12.2).bind fun p13 => tE p13.2 ⟨⟨⟨⟨p0.1, p1.1, ⟨p2.1, p3.1⟩, p4.1⟩, p5.1⟩, p6.1⟩, ⟨⟨⟨p7.1, p8.1, ⟨p9.1, p10.1⟩, p11.1⟩, p12.1⟩, p13.1⟩⟩
def encNearness (x : Nearness) : List I := [.int .i64 x.gap, .int .i64 x.fails]
def decNearness (r : List I) : Option Nearness := (tI .i64 r).bind fun p0 => (tI .i64 p0.2).bind fun p1 => tE p1.2 ⟨p0.1, p1.1⟩
def encPair (x : Pair) : List I := [.int .i64 x.a, .int .i64 x.b]
def decPair (r : List I) : Option Pair := (tI .i64 r).bind fun p0 => (tI .i64 p0.2).bind fun p1 => tE p1.2 ⟨p0.1, p1.1⟩
def encSeed (x : Seed) : List I := [.int .u64 x.word]
def decSeed (r : List I) : Option Seed := (tI .u64 r).bind fun p0 => tE p0.2 ⟨p0.1⟩
def encWays (x : Ways) : List I := [.sl .Span x.a, .sl .Span x.b]
def decWays (r : List I) : Option Ways := (tL .Span r).bind fun p0 => (tL .Span p0.2).bind fun p1 => tE p1.2 ⟨p0.1, p1.1⟩
def encC : (t : T) → den t → List I
  | .int k, x => [.int k x]
  | .bool, x => [.bool x]
  | .str, x => [.str x]
  | .sl t, x => [.sl t x]
  | .ptr t, x => [.rp (encC t x) 0]
  | .clo f t, x => [.fn f [.rp (encC t x) 0]]
  | .clo0 f, _ => [.fn f []]
  | .err, x => [.er x]
  | .clo2 f t u, x => [.fn f [.rp (encC t x.1) 0, .rp (encC u x.2) 0]]
  | .clo3 f t u v, x => [.fn f [.rp (encC t x.1) 0, .rp (encC u x.2.1) 0, .rp (encC v x.2.2) 0]]
  | .mfn f t, x => [.mf f [.agg (encC t x)]]
  | .Span, x => encSpan x
  | .Hold, x => encHold x
  | .Truck, x => encTruck x
  | .Convoy, x => encConvoy x
  | .Meeting, x => encMeeting x
  | .Ride, x => encRide x
  | .Track, x => encTrack x
  | .Lanes, x => encLanes x
  | .Nearness, x => encNearness x
  | .Pair, x => encPair x
  | .Seed, x => encSeed x
  | .Ways, x => encWays x
def decC : (t : T) → List I → Option (den t)
  | .int k, r => (tI k r).bind fun p => tE p.2 p.1
  | .bool, r => (tB r).bind fun p => tE p.2 p.1
  | .str, r => (tS r).bind fun p => tE p.2 p.1
  | .sl t, r => (tL t r).bind fun p => tE p.2 p.1
  | .ptr t, r => tP (decC t) r
  | .clo f t, r => tC f (decC t) r
  | .clo0 f, r => tC0 f r
  | .err, r => tEr r
  | .clo2 f t u, r => tC2 f (decC t) (decC u) r
  | .clo3 f t u v, r => tC3 f (decC t) (decC u) (decC v) r
  | .mfn f t, r => tM f (decC t) r
  | .Span, r => decSpan r
  | .Hold, r => decHold r
  | .Truck, r => decTruck r
  | .Convoy, r => decConvoy r
  | .Meeting, r => decMeeting r
  | .Ride, r => decRide r
  | .Track, r => decTrack r
  | .Lanes, r => decLanes r
  | .Nearness, r => decNearness r
  | .Pair, r => decPair r
  | .Seed, r => decSeed r
  | .Ways, r => decWays r
def encDSpan (x : Span) : List D := [.int .i64 x.Lo, .int .i64 x.Hi]
def encDHold (x : Hold) : List D := [.int .i64 x.At, .int .i64 x.Until]
def encDTruck (x : Truck) : List D := [.int .i64 x.Way, .int .i64 x.Start, .int .i64 x.Pace.Lo, .int .i64 x.Pace.Hi, .sl 2 x.Holds.length (fun i => encDHold (x.Holds.getD i dfltHold))]
def encDConvoy (x : Convoy) : List D := [.int .i64 x.Length, .int .i64 x.Gap, .int .i64 x.Fails, .sl 5 x.Trucks.length (fun i => encDTruck (x.Trucks.getD i dfltTruck))]
def encDMeeting (x : Meeting) : List D := [.int .i64 x.Minute, .int .i64 x.First, .int .i64 x.Second, .bool x.FirstFails, .bool x.SecondFails, .int .i64 x.At, .int .i64 x.Other]
def encDRide (x : Ride) : List D := [.int .i64 x.Truck.Way, .int .i64 x.Truck.Start, .int .i64 x.Truck.Pace.Lo, .int .i64 x.Truck.Pace.Hi, .sl 2 x.Truck.Holds.length (fun i => encDHold (x.Truck.Holds.getD i dfltHold)), .int .i64 x.length]
def encDTrack (x : Track) : List D := [.int .i64 x.ride.Truck.Way, .int .i64 x.ride.Truck.Start, .int .i64 x.ride.Truck.Pace.Lo, .int .i64 x.ride.Truck.Pace.Hi, .sl 2 x.ride.Truck.Holds.length (fun i => encDHold (x.ride.Truck.Holds.getD i dfltHold)), .int .i64 x.ride.length, .sl 2 x.gone.length (fun i => encDSpan (x.gone.getD i dfltSpan))]
def encDLanes (x : Lanes) : List D := [.int .i64 x.a.ride.Truck.Way, .int .i64 x.a.ride.Truck.Start, .int .i64 x.a.ride.Truck.Pace.Lo, .int .i64 x.a.ride.Truck.Pace.Hi, .sl 2 x.a.ride.Truck.Holds.length (fun i => encDHold (x.a.ride.Truck.Holds.getD i dfltHold)), .int .i64 x.a.ride.length, .sl 2 x.a.gone.length (fun i => encDSpan (x.a.gone.getD i dfltSpan)), .int .i64 x.b.ride.Truck.Way, .int .i64 x.b.ride.Truck.Start, .int .i64 x.b.ride.Truck.Pace.Lo, .int .i64 x.b.ride.Truck.Pace.Hi, .sl 2 x.b.ride.Truck.Holds.length (fun i => encDHold (x.b.ride.Truck.Holds.getD i dfltHold)), .int .i64 x.b.ride.length, .sl 2 x.b.gone.length (fun i => encDSpan (x.b.gone.getD i dfltSpan))]
def encDNearness (x : Nearness) : List D := [.int .i64 x.gap, .int .i64 x.fails]
def encDPair (x : Pair) : List D := [.int .i64 x.a, .int .i64 x.b]
def encDSeed (x : Seed) : List D := [.int .u64 x.word]
def encDWays (x : Ways) : List D := [.sl 2 x.a.length (fun i => encDSpan (x.a.getD i dfltSpan)), .sl 2 x.b.length (fun i => encDSpan (x.b.getD i dfltSpan))]
def encD : (t : T) → den t → List D
  | .int k, x => [.int k x]
  | .bool, x => [.bool x]
  | .str, x => [.str x]
  | .sl t, x => [.sl (sz t) x.length (fun i => encD t (x.getD i (dflt t)))]
  | .ptr t, x => [.rp (encD t x) 0]
  | .clo f t, x => [.fn f [.rp (encD t x) 0]]
  | .clo0 f, _ => [.fn f []]
  | .err, x => [.lk (ofB x)]
  | .clo2 f t u, x => [.fn f [.rp (encD t x.1) 0, .rp (encD u x.2) 0]]
  | .clo3 f t u v, x => [.fn f [.rp (encD t x.1) 0, .rp (encD u x.2.1) 0, .rp (encD v x.2.2) 0]]
  | .mfn f t, x => [.mf f [.agg (encD t x)]]
  | .Span, x => encDSpan x
  | .Hold, x => encDHold x
  | .Truck, x => encDTruck x
  | .Convoy, x => encDConvoy x
  | .Meeting, x => encDMeeting x
  | .Ride, x => encDRide x
  | .Track, x => encDTrack x
  | .Lanes, x => encDLanes x
  | .Nearness, x => encDNearness x
  | .Pair, x => encDPair x
  | .Seed, x => encDSeed x
  | .Ways, x => encDWays x
def slD (t : T) (l : List (den t)) : D := .sl (sz t) l.length (fun i => encD t (l.getD i (dflt t)))
def slN (t : T) (l : List (den t)) : D := match l with | [] => .nil | _ :: _ => slD t l
def isSt : T → Bool
  | .int _ | .bool | .str | .sl _ | .ptr _ | .clo _ _ | .clo0 _ | .err | .clo2 _ _ _ | .clo3 _ _ _ _ | .mfn _ _ => false
  | _ => true
theorem encD_cell : ∀ (t : T) (x : den t), allCell (encD t x) = true := by intro t x; cases t <;> rfl
inductive NilI : I → I → Prop
  | same (d : I) : NilI d d
  | nil (t : T) : NilI .nil (.sl t [])
  | nsl (t : T) (l : List (den t)) : NilI (.nsl t l) (.sl t l)
inductive NilIL : List I → List I → Prop
  | nil : NilIL [] []
  | cons {d d' : I} {l l' : List I} : NilI d d' → NilIL l l' → NilIL (d :: l) (d' :: l')
theorem tI_bind {k : IntKind} {α : Type} {r : List I} {f : Int × List I → Option α} {x : α} (h : (tI k r).bind f = some x) : ∃ n r', r = .int k n :: r' ∧ f (n, r') = some x := by
  cases r with
  | nil => cases h
  | cons d r =>
    cases d <;> try (cases h; done)
    rename_i k' n
    simp only [tI] at h
    split at h
    · rename_i e; subst e; exact ⟨n, r, rfl, h⟩
    · cases h
theorem tB_bind {α : Type} {r : List I} {f : Bool × List I → Option α} {x : α} (h : (tB r).bind f = some x) : ∃ n r', r = .bool n :: r' ∧ f (n, r') = some x := by
  cases r with
  | nil => cases h
  | cons d r => cases d <;> first | (cases h; done) | exact ⟨_, _, rfl, h⟩
theorem tS_bind {α : Type} {r : List I} {f : ByteArray × List I → Option α} {x : α} (h : (tS r).bind f = some x) : ∃ n r', r = .str n :: r' ∧ f (n, r') = some x := by
  cases r with
  | nil => cases h
  | cons d r => cases d <;> first | (cases h; done) | exact ⟨_, _, rfl, h⟩
theorem asL_eq {t t' : T} {l : List (den t')} {m : List (den t)} (h : asL t t' l = some m) : (I.sl t' l) = .sl t m := by
  unfold asL at h
  split at h
  · rename_i e; subst e; simp only [Option.some.injEq] at h; subst h; rfl
  · cases h
theorem tL_bind {t : T} {α : Type} {r : List I} {f : List (den t) × List I → Option α} {x : α} (h : (tL t r).bind f = some x) : ∃ d l r', r = d :: r' ∧ NilI d (.sl t l) ∧ f (l, r') = some x := by
  cases r with
  | nil => cases h
  | cons d r =>
    cases d <;> try (cases h; done)
    · rename_i t' l
      simp only [tL] at h
      cases ha : asL t t' l with
      | none => rw [ha] at h; cases h
      | some m => rw [ha] at h; exact ⟨_, m, r, rfl, by rw [asL_eq ha]; exact .same _, h⟩
    · rename_i t' l
      simp only [tL] at h
      cases ha : asL t t' l with
      | none => rw [ha] at h; cases h
      | some m =>
        rw [ha] at h
        have e := asL_eq ha
        simp only [I.sl.injEq] at e
        obtain ⟨rfl, e⟩ := e
        have e := eq_of_heq e
        subst e
        exact ⟨_, _, r, rfl, .nsl _ _, h⟩
    · exact ⟨_, [], r, rfl, .nil t, h⟩
theorem noNil_eq : ∀ {l m : List I}, NilIL l m → noNil l = true → l = m
  | _, _, .nil, _ => rfl
  | _, _, .cons (d := d) (l := l) h1 h2, hn => by
    cases h1 with
    | same =>
      have : noNil l = true := by cases d <;> first | exact hn | exact absurd hn (by simp [noNil])
      rw [noNil_eq h2 this]
    | nil => cases hn
    | nsl => cases hn
theorem tP_ok {α : Type} {dec : List I → Option α} {enc : α → List I} (hd : ∀ {r x}, dec r = some x → NilIL r (enc x)) {r : List I} {x : α} (h : tP dec r = some x) : r = [.rp (enc x) 0] := by
  unfold tP at h
  split at h
  · rename_i l o r'
    split at h
    · cases hc : noNil l && Nat.beq o 0 with
      | false => rw [hc] at h; cases h
      | true =>
        rw [hc] at h
        simp only [Bool.and_eq_true] at hc
        rw [noNil_eq (hd h) hc.1, Nat.eq_of_beq_eq_true hc.2]
    · cases h
  · cases h
theorem tC_ok {α : Type} {f : FuncId} {dec : List I → Option α} {enc : α → List I} (hd : ∀ {r x}, dec r = some x → NilIL r (enc x)) {r : List I} {x : α} (h : tC f dec r = some x) : r = [.fn f [.rp (enc x) 0]] := by
  unfold tC at h
  split at h
  · rename_i g c r'
    split at h
    · cases hc : Nat.beq g f with
      | false => rw [hc] at h; cases h
      | true =>
        rw [hc] at h
        rw [tP_ok hd h, Nat.eq_of_beq_eq_true hc]
    · cases h
  · cases h
theorem tC0_ok {f : FuncId} {r : List I} {x : Unit} (h : tC0 f r = some x) : r = [.fn f []] := by
  unfold tC0 at h
  split at h
  · rename_i g c r'
    split at h
    · cases hc : Nat.beq g f with
      | false => rw [hc] at h; cases h
      | true =>
        rw [hc] at h
        simp only [cond_true] at h
        split at h
        · rw [Nat.eq_of_beq_eq_true hc]
        · cases h
    · cases h
  · cases h
theorem tC2_ok {α β : Type} {f : FuncId} {da : List I → Option α} {db : List I → Option β} {ea : α → List I} {eb : β → List I} (ha : ∀ {r x}, da r = some x → NilIL r (ea x)) (hb : ∀ {r x}, db r = some x → NilIL r (eb x)) {r : List I} {x : α × β} (h : tC2 f da db r = some x) : r = [.fn f [.rp (ea x.1) 0, .rp (eb x.2) 0]] := by
  unfold tC2 at h
  split at h
  · rename_i g c r'
    split at h
    · cases hc : Nat.beq g f with
      | false => rw [hc] at h; cases h
      | true =>
        rw [hc] at h
        simp only [cond_true] at h
        split at h
        · rename_i y ys
          cases h1 : tP da [y] with
          | none => rw [h1] at h; cases h
          | some a =>
            rw [h1] at h
            simp only [Option.bind_some] at h
            cases h2 : tP db ys with
            | none => rw [h2] at h; cases h
            | some b =>
              rw [h2] at h
              simp only [Option.bind_some, Option.some.injEq] at h
              subst h
              have e1 := tP_ok ha h1
              have e2 := tP_ok hb h2
              simp only [List.cons.injEq, and_true] at e1
              rw [Nat.eq_of_beq_eq_true hc, e1, e2]
        · cases h
    · cases h
  · cases h
theorem tC3_ok {α β γ : Type} {f : FuncId} {da : List I → Option α} {db : List I → Option β} {dc : List I → Option γ} {ea : α → List I} {eb : β → List I} {ec : γ → List I} (ha : ∀ {r x}, da r = some x → NilIL r (ea x)) (hb : ∀ {r x}, db r = some x → NilIL r (eb x)) (hc' : ∀ {r x}, dc r = some x → NilIL r (ec x)) {r : List I} {x : α × β × γ} (h : tC3 f da db dc r = some x) : r = [.fn f [.rp (ea x.1) 0, .rp (eb x.2.1) 0, .rp (ec x.2.2) 0]] := by
  unfold tC3 at h
  split at h
  · rename_i g c r'
    split at h
    · cases hc : Nat.beq g f with
      | false => rw [hc] at h; cases h
      | true =>
        rw [hc] at h
        simp only [cond_true] at h
        split at h
        · rename_i y y2 ys
          cases h1 : tP da [y] with
          | none => rw [h1] at h; cases h
          | some a =>
            rw [h1] at h
            simp only [Option.bind_some] at h
            cases h2 : tP db [y2] with
            | none => rw [h2] at h; cases h
            | some b =>
              rw [h2] at h
              simp only [Option.bind_some] at h
              cases h3 : tP dc ys with
              | none => rw [h3] at h; cases h
              | some d =>
                rw [h3] at h
                simp only [Option.bind_some, Option.some.injEq] at h
                subst h
                have e1 := tP_ok ha h1
                have e2 := tP_ok hb h2
                have e3 := tP_ok hc' h3
                simp only [List.cons.injEq, and_true] at e1 e2
                rw [Nat.eq_of_beq_eq_true hc, e1, e2, e3]
        · cases h
    · cases h
  · cases h
theorem tM_ok {α : Type} {f : FuncId} {dec : List I → Option α} {enc : α → List I} (hd : ∀ {r x}, dec r = some x → NilIL r (enc x)) {r : List I} {x : α} (h : tM f dec r = some x) : r = [.mf f [.agg (enc x)]] := by
  unfold tM at h
  split at h
  · rename_i g c r'
    split at h
    · cases hc : Nat.beq g f with
      | false => rw [hc] at h; cases h
      | true =>
        rw [hc] at h
        simp only [cond_true] at h
        split at h
        · rename_i l
          cases hn : noNil l with
          | false => rw [hn] at h; cases h
          | true =>
            rw [hn] at h
            rw [Nat.eq_of_beq_eq_true hc, noNil_eq (hd h) hn]
        · cases h
    · cases h
  · cases h
theorem tE_ok {α : Type} {r : List I} {a x : α} (h : tE r a = some x) : r = [] ∧ a = x := by
  cases r with
  | nil => exact ⟨rfl, by simpa [tE] using h⟩
  | cons => cases h
theorem decSpan_ok {r : List I} {x : Span} (h : decSpan r = some x) : NilIL r (encSpan x) := by
  have h0 := h; unfold decSpan at h0; clear h
  obtain ⟨n0, r0, q0, h1⟩ := tI_bind h0
  replace q0 : r = _ := q0; subst q0
  obtain ⟨n1, r1, q1, h2⟩ := tI_bind h1
  replace q1 : r0 = _ := q1; subst q1
  obtain ⟨qe, qx⟩ := tE_ok h2
  replace qe : r1 = [] := qe; subst qe; subst qx
  exact .cons (.same _) (.cons (.same _) (NilIL.nil))
theorem decHold_ok {r : List I} {x : Hold} (h : decHold r = some x) : NilIL r (encHold x) := by
  have h0 := h; unfold decHold at h0; clear h
  obtain ⟨n0, r0, q0, h1⟩ := tI_bind h0
  replace q0 : r = _ := q0; subst q0
  obtain ⟨n1, r1, q1, h2⟩ := tI_bind h1
  replace q1 : r0 = _ := q1; subst q1
  obtain ⟨qe, qx⟩ := tE_ok h2
  replace qe : r1 = [] := qe; subst qe; subst qx
  exact .cons (.same _) (.cons (.same _) (NilIL.nil))
theorem decTruck_ok {r : List I} {x : Truck} (h : decTruck r = some x) : NilIL r (encTruck x) := by
  have h0 := h; unfold decTruck at h0; clear h
  obtain ⟨n0, r0, q0, h1⟩ := tI_bind h0
  replace q0 : r = _ := q0; subst q0
  obtain ⟨n1, r1, q1, h2⟩ := tI_bind h1
  replace q1 : r0 = _ := q1; subst q1
  obtain ⟨n2, r2, q2, h3⟩ := tI_bind h2
  replace q2 : r1 = _ := q2; subst q2
  obtain ⟨n3, r3, q3, h4⟩ := tI_bind h3
  replace q3 : r2 = _ := q3; subst q3
  obtain ⟨d4, l4, r4, q4, e4, h5⟩ := tL_bind h4
  replace q4 : r3 = _ := q4; subst q4
  obtain ⟨qe, qx⟩ := tE_ok h5
  replace qe : r4 = [] := qe; subst qe; subst qx
  exact .cons (.same _) (.cons (.same _) (.cons (.same _) (.cons (.same _) (.cons e4 (NilIL.nil)))))
theorem decConvoy_ok {r : List I} {x : Convoy} (h : decConvoy r = some x) : NilIL r (encConvoy x) := by
  have h0 := h; unfold decConvoy at h0; clear h
  obtain ⟨n0, r0, q0, h1⟩ := tI_bind h0
  replace q0 : r = _ := q0; subst q0
  obtain ⟨n1, r1, q1, h2⟩ := tI_bind h1
  replace q1 : r0 = _ := q1; subst q1
  obtain ⟨n2, r2, q2, h3⟩ := tI_bind h2
  replace q2 : r1 = _ := q2; subst q2
  obtain ⟨d3, l3, r3, q3, e3, h4⟩ := tL_bind h3
  replace q3 : r2 = _ := q3; subst q3
  obtain ⟨qe, qx⟩ := tE_ok h4
  replace qe : r3 = [] := qe; subst qe; subst qx
  exact .cons (.same _) (.cons (.same _) (.cons (.same _) (.cons e3 (NilIL.nil))))
theorem decMeeting_ok {r : List I} {x : Meeting} (h : decMeeting r = some x) : NilIL r (encMeeting x) := by
  have h0 := h; unfold decMeeting at h0; clear h
  obtain ⟨n0, r0, q0, h1⟩ := tI_bind h0
  replace q0 : r = _ := q0; subst q0
  obtain ⟨n1, r1, q1, h2⟩ := tI_bind h1
  replace q1 : r0 = _ := q1; subst q1
  obtain ⟨n2, r2, q2, h3⟩ := tI_bind h2
  replace q2 : r1 = _ := q2; subst q2
  obtain ⟨n3, r3, q3, h4⟩ := tB_bind h3
  replace q3 : r2 = _ := q3; subst q3
  obtain ⟨n4, r4, q4, h5⟩ := tB_bind h4
  replace q4 : r3 = _ := q4; subst q4
  obtain ⟨n5, r5, q5, h6⟩ := tI_bind h5
  replace q5 : r4 = _ := q5; subst q5
  obtain ⟨n6, r6, q6, h7⟩ := tI_bind h6
  replace q6 : r5 = _ := q6; subst q6
  obtain ⟨qe, qx⟩ := tE_ok h7
  replace qe : r6 = [] := qe; subst qe; subst qx
  exact .cons (.same _) (.cons (.same _) (.cons (.same _) (.cons (.same _) (.cons (.same _) (.cons (.same _) (.cons (.same _) (NilIL.nil)))))))
theorem decRide_ok {r : List I} {x : Ride} (h : decRide r = some x) : NilIL r (encRide x) := by
  have h0 := h; unfold decRide at h0; clear h
  obtain ⟨n0, r0, q0, h1⟩ := tI_bind h0
  replace q0 : r = _ := q0; subst q0
  obtain ⟨n1, r1, q1, h2⟩ := tI_bind h1
  replace q1 : r0 = _ := q1; subst q1
  obtain ⟨n2, r2, q2, h3⟩ := tI_bind h2
  replace q2 : r1 = _ := q2; subst q2
  obtain ⟨n3, r3, q3, h4⟩ := tI_bind h3
  replace q3 : r2 = _ := q3; subst q3
  obtain ⟨d4, l4, r4, q4, e4, h5⟩ := tL_bind h4
  replace q4 : r3 = _ := q4; subst q4
  obtain ⟨n5, r5, q5, h6⟩ := tI_bind h5
  replace q5 : r4 = _ := q5; subst q5
  obtain ⟨qe, qx⟩ := tE_ok h6
  replace qe : r5 = [] := qe; subst qe; subst qx
  exact .cons (.same _) (.cons (.same _) (.cons (.same _) (.cons (.same _) (.cons e4 (.cons (.same _) (NilIL.nil))))))
theorem decTrack_ok {r : List I} {x : Track} (h : decTrack r = some x) : NilIL r (encTrack x) := by
  have h0 := h; unfold decTrack at h0; clear h
  obtain ⟨n0, r0, q0, h1⟩ := tI_bind h0
  replace q0 : r = _ := q0; subst q0
  obtain ⟨n1, r1, q1, h2⟩ := tI_bind h1
  replace q1 : r0 = _ := q1; subst q1
  obtain ⟨n2, r2, q2, h3⟩ := tI_bind h2
  replace q2 : r1 = _ := q2; subst q2
  obtain ⟨n3, r3, q3, h4⟩ := tI_bind h3
  replace q3 : r2 = _ := q3; subst q3
  obtain ⟨d4, l4, r4, q4, e4, h5⟩ := tL_bind h4
  replace q4 : r3 = _ := q4; subst q4
  obtain ⟨n5, r5, q5, h6⟩ := tI_bind h5
  replace q5 : r4 = _ := q5; subst q5
  obtain ⟨d6, l6, r6, q6, e6, h7⟩ := tL_bind h6
  replace q6 : r5 = _ := q6; subst q6
  obtain ⟨qe, qx⟩ := tE_ok h7
  replace qe : r6 = [] := qe; subst qe; subst qx
  exact .cons (.same _) (.cons (.same _) (.cons (.same _) (.cons (.same _) (.cons e4 (.cons (.same _) (.cons e6 (NilIL.nil)))))))
theorem decLanes_ok {r : List I} {x : Lanes} (h : decLanes r = some x) : NilIL r (encLanes x) := by
  have h0 := h; unfold decLanes at h0; clear h
  obtain ⟨n0, r0, q0, h1⟩ := tI_bind h0
  replace q0 : r = _ := q0; subst q0
  obtain ⟨n1, r1, q1, h2⟩ := tI_bind h1
  replace q1 : r0 = _ := q1; subst q1
  obtain ⟨n2, r2, q2, h3⟩ := tI_bind h2
  replace q2 : r1 = _ := q2; subst q2
  obtain ⟨n3, r3, q3, h4⟩ := tI_bind h3
  replace q3 : r2 = _ := q3; subst q3
  obtain ⟨d4, l4, r4, q4, e4, h5⟩ := tL_bind h4
  replace q4 : r3 = _ := q4; subst q4
  obtain ⟨n5, r5, q5, h6⟩ := tI_bind h5
  replace q5 : r4 = _ := q5; subst q5
  obtain ⟨d6, l6, r6, q6, e6, h7⟩ := tL_bind h6
  replace q6 : r5 = _ := q6; subst q6
  obtain ⟨n7, r7, q7, h8⟩ := tI_bind h7
  replace q7 : r6 = _ := q7; subst q7
  obtain ⟨n8, r8, q8, h9⟩ := tI_bind h8
  replace q8 : r7 = _ := q8; subst q8
  obtain ⟨n9, r9, q9, h10⟩ := tI_bind h9
  replace q9 : r8 = _ := q9; subst q9
  obtain ⟨n10, r10, q10, h11⟩ := tI_bind h10
  replace q10 : r9 = _ := q10; subst q10
  obtain ⟨d11, l11, r11, q11, e11, h12⟩ := tL_bind h11
  replace q11 : r10 = _ := q11; subst q11
  obtain ⟨n12, r12, q12, h13⟩ := tI_bind h12
  replace q12 : r11 = _ := q12; subst q12
  obtain ⟨d13, l13, r13, q13, e13, h14⟩ := tL_bind h13
  replace q13 : r12 = _ := q13; subst q13
  obtain ⟨qe, qx⟩ := tE_ok h14
  replace qe : r13 = [] := qe; subst qe; subst qx
  exact .cons (.same _) (.cons (.same _) (.cons (.same _) (.cons (.same _) (.cons e4 (.cons (.same _) (.cons e6 (.cons (.same _) (.cons (.same _) (.cons (.same _) (.cons (.same _) (.cons e11 (.cons (.same _) (.cons e13 (NilIL.nil))))))))))))))
theorem decNearness_ok {r : List I} {x : Nearness} (h : decNearness r = some x) : NilIL r (encNearness x) := by
  have h0 := h; unfold decNearness at h0; clear h
  obtain ⟨n0, r0, q0, h1⟩ := tI_bind h0
  replace q0 : r = _ := q0; subst q0
  obtain ⟨n1, r1, q1, h2⟩ := tI_bind h1
  replace q1 : r0 = _ := q1; subst q1
  obtain ⟨qe, qx⟩ := tE_ok h2
  replace qe : r1 = [] := qe; subst qe; subst qx
  exact .cons (.same _) (.cons (.same _) (NilIL.nil))
theorem decPair_ok {r : List I} {x : Pair} (h : decPair r = some x) : NilIL r (encPair x) := by
  have h0 := h; unfold decPair at h0; clear h
  obtain ⟨n0, r0, q0, h1⟩ := tI_bind h0
  replace q0 : r = _ := q0; subst q0
  obtain ⟨n1, r1, q1, h2⟩ := tI_bind h1
  replace q1 : r0 = _ := q1; subst q1
  obtain ⟨qe, qx⟩ := tE_ok h2
  replace qe : r1 = [] := qe; subst qe; subst qx
  exact .cons (.same _) (.cons (.same _) (NilIL.nil))
theorem decSeed_ok {r : List I} {x : Seed} (h : decSeed r = some x) : NilIL r (encSeed x) := by
  have h0 := h; unfold decSeed at h0; clear h
  obtain ⟨n0, r0, q0, h1⟩ := tI_bind h0
  replace q0 : r = _ := q0; subst q0
  obtain ⟨qe, qx⟩ := tE_ok h1
  replace qe : r0 = [] := qe; subst qe; subst qx
  exact .cons (.same _) (NilIL.nil)
theorem decWays_ok {r : List I} {x : Ways} (h : decWays r = some x) : NilIL r (encWays x) := by
  have h0 := h; unfold decWays at h0; clear h
  obtain ⟨d0, l0, r0, q0, e0, h1⟩ := tL_bind h0
  replace q0 : r = _ := q0; subst q0
  obtain ⟨d1, l1, r1, q1, e1, h2⟩ := tL_bind h1
  replace q1 : r0 = _ := q1; subst q1
  obtain ⟨qe, qx⟩ := tE_ok h2
  replace qe : r1 = [] := qe; subst qe; subst qx
  exact .cons e0 (.cons e1 (NilIL.nil))
theorem decC_ok : ∀ (t : T) {r : List I} {x : den t}, decC t r = some x → NilIL r (encC t x)
  | .int k, r, x, h => by
    obtain ⟨n, r2, q, h2⟩ := tI_bind (show (tI k r).bind _ = _ from h)
    obtain ⟨qe, qx⟩ := tE_ok h2
    replace qe : r2 = [] := qe
    subst q; subst qe; subst qx; exact .cons (.same _) .nil
  | .bool, r, x, h => by
    obtain ⟨n, r2, q, h2⟩ := tB_bind (show (tB r).bind _ = _ from h)
    obtain ⟨qe, qx⟩ := tE_ok h2
    replace qe : r2 = [] := qe
    subst q; subst qe; subst qx; exact .cons (.same _) .nil
  | .str, r, x, h => by
    obtain ⟨n, r2, q, h2⟩ := tS_bind (show (tS r).bind _ = _ from h)
    obtain ⟨qe, qx⟩ := tE_ok h2
    replace qe : r2 = [] := qe
    subst q; subst qe; subst qx; exact .cons (.same _) .nil
  | .sl t, r, x, h => by
    obtain ⟨d, l, r2, q, e, h2⟩ := tL_bind (show (tL t r).bind _ = _ from h)
    obtain ⟨qe, qx⟩ := tE_ok h2
    replace qe : r2 = [] := qe
    subst q; subst qe; subst qx; exact .cons e .nil
  | .ptr t, r, x, h => by rw [tP_ok (fun h => decC_ok t h) (show tP (decC t) r = some x from h)]; exact .cons (.same _) .nil
  | .clo f t, r, x, h => by rw [tC_ok (fun h => decC_ok t h) (show tC f (decC t) r = some x from h)]; exact .cons (.same _) .nil
  | .clo0 f, r, x, h => by rw [tC0_ok (show tC0 f r = some x from h)]; exact .cons (.same _) .nil
  | .err, r, x, h => by rw [tEr_ok (show tEr r = some x from h)]; exact .cons (.same _) .nil
  | .clo3 f t u v, r, x, h => by rw [tC3_ok (fun h => decC_ok t h) (fun h => decC_ok u h) (fun h => decC_ok v h) (show tC3 f (decC t) (decC u) (decC v) r = some x from h)]; exact .cons (.same _) .nil
  | .clo2 f t u, r, x, h => by rw [tC2_ok (fun h => decC_ok t h) (fun h => decC_ok u h) (show tC2 f (decC t) (decC u) r = some x from h)]; exact .cons (.same _) .nil
  | .mfn f t, r, x, h => by rw [tM_ok (fun h => decC_ok t h) (show tM f (decC t) r = some x from h)]; exact .cons (.same _) .nil
  | .Span, r, x, h => decSpan_ok h
  | .Hold, r, x, h => decHold_ok h
  | .Truck, r, x, h => decTruck_ok h
  | .Convoy, r, x, h => decConvoy_ok h
  | .Meeting, r, x, h => decMeeting_ok h
  | .Ride, r, x, h => decRide_ok h
  | .Track, r, x, h => decTrack_ok h
  | .Lanes, r, x, h => decLanes_ok h
  | .Nearness, r, x, h => decNearness_ok h
  | .Pair, r, x, h => decPair_ok h
  | .Seed, r, x, h => decSeed_ok h
  | .Ways, r, x, h => decWays_ok h
mutual
def I.toD (h : Nat → Nat) : I → D
  | .int k n => .int k n
  | .bool b => .bool b
  | .str s => .str s
  | .agg l => .agg (I.toDL h l)
  | .tup l => .tup (I.toDL h l)
  | .sl t l => slD t l
  | .nsl t l => slN t l
  | .nil => .nil
  | .rp l o => .rp (I.toDL h l) o
  | .bx s g o => .bx s (h s + g) o
  | .mb s g T => .mb s (h s + g) T
  | .os s g => .os s (h s + g)
  | .op s g z i o => .op s (h s + g) z i o
  | .ow s g z a m => .ow s (h s + g) z a m
  | .fn f c => .fn f (I.toDL h c)
  | .yl l => .yl (h l)
  | .mf f c => .mf f (I.toDL h c)
  | .one => .one
  | .lk c => .lk c
  | .er b => .lk (ofB b)
  | .undef => .undef
def I.toDL (h : Nat → Nat) : List I → List D
  | [] => []
  | d :: l => d.toD h :: I.toDL h l
end
theorem toDL_enc (h : Nat → Nat) : ∀ (t : T) (x : den t), I.toDL h (encC t x) = encD t x := by
  intro t
  induction t with
  | ptr t ih => intro x; show [D.rp (I.toDL h (encC t x)) 0] = _; rw [ih]; rfl
  | clo f t ih => intro x; show [D.fn f [D.rp (I.toDL h (encC t x)) 0]] = _; rw [ih]; rfl
  | clo3 f t u v ih1 ih2 ih3 => intro x; show [D.fn f [D.rp (I.toDL h (encC t x.1)) 0, D.rp (I.toDL h (encC u x.2.1)) 0, D.rp (I.toDL h (encC v x.2.2)) 0]] = _; rw [ih1, ih2, ih3]; rfl
  | clo2 f t u ih1 ih2 => intro x; show [D.fn f [D.rp (I.toDL h (encC t x.1)) 0, D.rp (I.toDL h (encC u x.2)) 0]] = _; rw [ih1, ih2]; rfl
  | mfn f t ih => intro x; show [D.mf f [D.agg (I.toDL h (encC t x))]] = _; rw [ih]; rfl
  | _ => intro x; rfl
theorem pureSpan (x : Span) : PureL (encDSpan x) := PureL.cons (.int _ _) (PureL.cons (.int _ _) (PureL.nil))
theorem pureHold (x : Hold) : PureL (encDHold x) := PureL.cons (.int _ _) (PureL.cons (.int _ _) (PureL.nil))
theorem pureTruck (x : Truck) : PureL (encDTruck x) := PureL.cons (.int _ _) (PureL.cons (.int _ _) (PureL.cons (.int _ _) (PureL.cons (.int _ _) (PureL.cons (.sl _ _ _ fun i _ d hd => pureHold _ d hd) (PureL.nil)))))
theorem pureConvoy (x : Convoy) : PureL (encDConvoy x) := PureL.cons (.int _ _) (PureL.cons (.int _ _) (PureL.cons (.int _ _) (PureL.cons (.sl _ _ _ fun i _ d hd => pureTruck _ d hd) (PureL.nil))))
theorem pureMeeting (x : Meeting) : PureL (encDMeeting x) := PureL.cons (.int _ _) (PureL.cons (.int _ _) (PureL.cons (.int _ _) (PureL.cons (.bool _) (PureL.cons (.bool _) (PureL.cons (.int _ _) (PureL.cons (.int _ _) (PureL.nil)))))))
theorem pureRide (x : Ride) : PureL (encDRide x) := PureL.cons (.int _ _) (PureL.cons (.int _ _) (PureL.cons (.int _ _) (PureL.cons (.int _ _) (PureL.cons (.sl _ _ _ fun i _ d hd => pureHold _ d hd) (PureL.cons (.int _ _) (PureL.nil))))))
theorem pureTrack (x : Track) : PureL (encDTrack x) := PureL.cons (.int _ _) (PureL.cons (.int _ _) (PureL.cons (.int _ _) (PureL.cons (.int _ _) (PureL.cons (.sl _ _ _ fun i _ d hd => pureHold _ d hd) (PureL.cons (.int _ _) (PureL.cons (.sl _ _ _ fun i _ d hd => pureSpan _ d hd) (PureL.nil)))))))
theorem pureLanes (x : Lanes) : PureL (encDLanes x) := PureL.cons (.int _ _) (PureL.cons (.int _ _) (PureL.cons (.int _ _) (PureL.cons (.int _ _) (PureL.cons (.sl _ _ _ fun i _ d hd => pureHold _ d hd) (PureL.cons (.int _ _) (PureL.cons (.sl _ _ _ fun i _ d hd => pureSpan _ d hd) (PureL.cons (.int _ _) (PureL.cons (.int _ _) (PureL.cons (.int _ _) (PureL.cons (.int _ _) (PureL.cons (.sl _ _ _ fun i _ d hd => pureHold _ d hd) (PureL.cons (.int _ _) (PureL.cons (.sl _ _ _ fun i _ d hd => pureSpan _ d hd) (PureL.nil))))))))))))))
theorem pureNearness (x : Nearness) : PureL (encDNearness x) := PureL.cons (.int _ _) (PureL.cons (.int _ _) (PureL.nil))
theorem purePair (x : Pair) : PureL (encDPair x) := PureL.cons (.int _ _) (PureL.cons (.int _ _) (PureL.nil))
theorem pureSeed (x : Seed) : PureL (encDSeed x) := PureL.cons (.int _ _) (PureL.nil)
theorem pureWays (x : Ways) : PureL (encDWays x) := PureL.cons (.sl _ _ _ fun i _ d hd => pureSpan _ d hd) (PureL.cons (.sl _ _ _ fun i _ d hd => pureSpan _ d hd) (PureL.nil))
theorem encD_pure : ∀ (t : T) (x : den t), PureL (encD t x)
  | .int k, x => PureL.cons (.int _ _) PureL.nil
  | .bool, x => PureL.cons (.bool _) PureL.nil
  | .str, x => PureL.cons (.str _) PureL.nil
  | .sl t, x => PureL.cons (.sl _ _ _ fun i _ d hd => encD_pure t _ d hd) PureL.nil
  | .ptr t, x => PureL.cons (.rp _ _ (encD_pure t x)) PureL.nil
  | .clo f t, x => PureL.cons (.fn _ _ (PureL.cons (.rp _ _ (encD_pure t x)) PureL.nil)) PureL.nil
  | .clo0 f, x => PureL.cons (.fn _ _ PureL.nil) PureL.nil
  | .err, x => PureL.cons (.lk _) PureL.nil
  | .clo3 f t u v, x => PureL.cons (.fn _ _ (PureL.cons (.rp _ _ (encD_pure t x.1)) (PureL.cons (.rp _ _ (encD_pure u x.2.1)) (PureL.cons (.rp _ _ (encD_pure v x.2.2)) PureL.nil)))) PureL.nil
  | .clo2 f t u, x => PureL.cons (.fn _ _ (PureL.cons (.rp _ _ (encD_pure t x.1)) (PureL.cons (.rp _ _ (encD_pure u x.2)) PureL.nil))) PureL.nil
  | .mfn f t, x => PureL.cons (.mf _ _ (PureL.cons (.agg _ (encD_pure t x)) PureL.nil)) PureL.nil
  | .Span, x => pureSpan x
  | .Hold, x => pureHold x
  | .Truck, x => pureTruck x
  | .Convoy, x => pureConvoy x
  | .Meeting, x => pureMeeting x
  | .Ride, x => pureRide x
  | .Track, x => pureTrack x
  | .Lanes, x => pureLanes x
  | .Nearness, x => pureNearness x
  | .Pair, x => purePair x
  | .Seed, x => pureSeed x
  | .Ways, x => pureWays x
end Go.Ab
namespace Go.Ab
open Go Go.RowKit
set_option linter.all false
section
variable {P : Program} {w : World}
theorem run_append_room_off_str (t u ty e : TypeId) (i : TypeInfo) (ht : P.underlying t = some (.slice e)) (hu : P.underlying u = some .string) (hi : P.info? e = some i) (hs1 : i.size = 1)
    (g off sLen sCap : Nat) (cur : Array Value) (hg : w.heap[g]? = some (.cells cur e (0, 0))) (s : ByteArray) (hroom : sLen + s.size ≤ sCap) (hfit : off + sLen + s.size ≤ cur.size) :
    (Builtin.append_ #[t, u] ty #[.slice (some ⟨g, off, none⟩) sLen sCap, .string s]).run P w =
      .ok (.slice (some ⟨g, off, none⟩) (sLen + s.size) sCap) (w.setRow g (cur.toList.take (off + sLen) ++ Lib.strCells s ++ cur.toList.drop (off + sLen + s.size)).toArray) := by
  have hf := Lib.run_firstCells_string (P := P) w 1 s
  have hst := run_storeCells_at P g (off + sLen) e (Lib.strCells s) 0 cur w hg (by simpa [Lib.strCells_length] using hfit) (Lib.strCells_oneCell s)
  simp only [Nat.add_zero, Lib.strCells_length] at hst
  have hadd : ∀ k, (⟨g, off, none⟩ : Addr).add k = ⟨g, off + k, none⟩ := fun k => by unfold Addr.add; split <;> simp_all
  simp [Builtin.append_, run_underlying ht, run_underlying hu, sizeOf, typeInfo, hi, hs1, Builtin.lenOf, hroom, hf, hadd, hst]
theorem run_append_where_str (base : Nat) (t u ty e : TypeId) (i : TypeInfo) (z : Value) (ht : P.underlying t = some (.slice e)) (hu : P.underlying u = some .string) (hi : P.info? e = some i) (hz : i.zero = some z) (hsize : i.size = 1) (hby : i.bytes = 1) (hz1 : z.cells.size = 1)
    (v : Value) (n : Nat) (xs : List Value) (hown : ownsAt w base e 1 v n xs) (s : ByteArray) (h63 : n + s.size ≤ maxLen) (hbytes : n + s.size ≤ 140737488355328) (hbase : base ≤ w.heap.size) :
    ∃ v' w', (Builtin.append_ #[t, u] ty #[v, .string s]).run P w = .ok v' w' ∧ ownsAt w' base e 1 v' (n + s.size) (xs ++ Lib.strCells s) ∧ w.grownBy w' v.ownBlock ∧
      (∀ b, v'.ownBlock = some b → w.heap.size ≤ b ∨ v.ownBlock = some b) := by
  have hsmall : n + s.size ≤ 9223372036854775807 := by simp only [maxLen] at h63; omega
  have hxl : xs.length = n := by simpa using hown.1
  have hlen : (xs ++ Lib.strCells s).length = (n + s.size) * 1 := by rw [List.length_append, hxl, Lib.strCells_length, Nat.mul_one]
  have grown : ∀ (old : Nat), old < n + s.size →
      (w.drew.alloc (.cells (xs.toArray ++ (Lib.strCells s).toArray ++ Builtin.zeroCells z.cells (grownCap w (n + s.size) old e - (n + s.size))) e)).ownsRow w.heap.size e 1
        (.slice (some ⟨w.heap.size, 0, none⟩) (n + s.size) (grownCap w (n + s.size) old e)) (n + s.size) (xs ++ Lib.strCells s) ∧
      w.grownBy (w.drew.alloc (.cells (xs.toArray ++ (Lib.strCells s).toArray ++ Builtin.zeroCells z.cells (grownCap w (n + s.size) old e - (n + s.size))) e)) v.ownBlock := by
    intro old ho
    refine ⟨⟨hlen, .inr ⟨w.heap.size, _, _, rfl, Nat.le_refl _, heap_alloc_new w.drew _, grownCap_ge w (n + s.size) old e, grownCap_le_maxLen w (n + s.size) old e h63, ?_, ?_⟩⟩, ⟨rfl, rfl, rfl, by simp, fun k hk _ => (by first | exact heap_alloc_old w.drew _ k hk | exact heap_alloc_old w.drew _ hk)⟩⟩
    · have := grownCap_ge w (n + s.size) old e
      simp only [Array.size_append, List.size_toArray, size_zeroCells, hz1, hxl, Lib.strCells_length]
      omega
    · simp only [Array.toList_append, List.append_assoc]
      rw [← List.append_assoc, ← hlen]
      exact List.take_left
  rcases hown.2 with ⟨rfl, rfl⟩ | ⟨g, off, cap, cur, rfl, hbg, hg, hnc, hcm, hcs, htake⟩
  · have hx : xs = [] := List.eq_nil_of_length_eq_zero hxl
    subst hx
    by_cases hm : s.size = 0
    · have hn : Lib.strCells s = [] := List.eq_nil_of_length_eq_zero (by rw [Lib.strCells_length]; exact hm)
      refine ⟨.slice none 0 0, w, ?_, by rw [hm, hn]; exact hown, ⟨rfl, rfl, rfl, Nat.le_refl _, fun _ _ _ => rfl⟩, fun b hb => by cases hb⟩
      have hf := Lib.run_firstCells_string (P := P) w 1 s
      rw [hm] at hf
      simp [Builtin.append_, run_underlying ht, run_underlying hu, sizeOf, typeInfo, hi, hsize, Builtin.lenOf, hm, hf]
    · have hr := run_append_nil_string (P := P) w t u ty e i z ht hu hi hz s (by omega) (by omega) (by rw [hby]; omega)
      have hgr := grown 0 (by omega)
      simp only [Nat.zero_add, List.nil_append, Array.empty_append] at hgr ⊢
      have e1 : (s.data.map fun b => Value.int .u8 b.toNat) = (Lib.strCells s).toArray := by
        apply Array.ext'
        simp [Lib.strCells]
      rw [e1] at hr
      exact ⟨_, _, hr, owns_base (ownsAt_of hgr.1) hbase, hgr.2, fun b hb => .inl (hgr.1.lt b hb).1⟩
  · by_cases hroom : n + s.size ≤ cap
    · have hr := run_append_room_off_str (P := P) (w := w) t u ty e i ht hu hi hsize g off n cap cur hg s hroom (by omega)
      refine ⟨_, _, hr, ⟨hlen, .inr ⟨g, off, cap, _, rfl, hbg, setRow_heap w g cur _ e _ hg, hroom, hcm, ?_, ?_⟩⟩, ⟨rfl, rfl, rfl, by simp, fun k _ hk => setRow_other w g k _ (fun e => hk (by simp [Value.ownBlock, e]))⟩, fun b hb => .inr hb⟩
      · simp only [List.size_toArray, List.length_append, List.length_take, List.length_drop, Array.length_toList, Lib.strCells_length]
        omega
      · have e1 : (cur.toList.take (off + n) ++ Lib.strCells s ++ cur.toList.drop (off + n + s.size)).drop off = (cur.toList.drop off).take (n * 1) ++ Lib.strCells s ++ cur.toList.drop (off + n + s.size) := by
          rw [List.append_assoc, List.drop_append, List.length_take, Array.length_toList, Nat.min_eq_left (by omega), show off - (off + n) = 0 by omega, List.drop_zero, List.drop_take, List.append_assoc]
          rw [show off + n - off = n * 1 by omega]
        rw [List.toList_toArray, e1, htake, ← hlen]
        exact List.take_left
    · have holds : ∀ j u, xs[j]? = some u → w.cell? ((⟨g, off, none⟩ : Addr).add j) = some u := hown.cells
      have hr := Lib.run_append_grow_string (P := P) w t u ty e i z ht hu hi hz ⟨g, off, none⟩ n cap xs (by rw [hsize]; simpa using hxl) holds s (by omega) (by omega) (by rw [hby]; exact growslice_fits (by omega) (by omega))
      have hgr := grown cap (by omega)
      exact ⟨_, _, hr, owns_base (ownsAt_of hgr.1) hbase, hgr.2, fun b hb => .inl (hgr.1.lt b hb).1⟩
end
section
variable {X : Ctx} {Q : Exit → St → Prop} {S : St} {ops : Array Oper} {o : Oper} {rest : List Oper} {T : TypeId}
theorem n_appS {x y : Operand} {s g n t n' : Nat} {E T2 : TypeId} {f f' : Nat → List D} {b : ByteArray} {ts : Array TypeId} (ho : o.op = .call { callee := .builtin .append, args := #[x, y], argTypes := ts }) (hts : ts = #[T, T2]) (hd : o.dst = some t)
    (hx : S.ev X x = .os s g) (hg : S.γ s = g) (hσ : S.σ s = .arr E 1 n f) (hy : S.ev X y = .str b)
    {r q : TRow} (hr : nth X.Z.tab T = some r) (hk : Nat.beq r.k 3 = true) (hE : r.el = E) (hr2 : X.Z.P.underlying T2 = some .string) (hq : nth X.Z.tab E = some q) (hq9 : Nat.beq q.k 9 = false) (hz : q.sz = 1) (hzs : q.zs = [.i .u8]) (hqb : q.bytes = 1)
    (hm : n + b.size ≤ 140737488355328) (hn' : n' = n + b.size) (h1 : ∀ i, i < n → f' i = f i) (h2 : ∀ i, i < b.size → f' (n + i) = [.int .u8 ((b.data.toList.getD i 0).toNat : Int)]) :
    NOp X o S (S.owned t s (.arr E 1 n' f')) := fun κ sv a w hs => by
  subst hts hn'
  have hokr := X.Z.tabOk _ _ hr (by intro e; rw [e] at hk; cases hk)
  have hokq := X.Z.tabOk _ _ hq (by intro e; rw [e] at hq9; cases hq9)
  obtain ⟨iq, dq, hiq, hdq, hsq, hbq, ⟨zv, hzv, hzf⟩, _⟩ := row_info hokq
  have hu := slice_row hokr hk
  rw [hE] at hu
  have hown0 := hs.wld.own s
  rw [hσ] at hown0
  obtain ⟨xs, hown, hfl, hfc, hfr⟩ := hown0
  have hxv := hs.ev x
  rw [hx] at hxv
  have hxe : a.eval x = sv s := by
    generalize a.eval x = v at hxv
    cases hxv with
    | os _ _ _ _ hh _ => exact hh hg.symm
  have hyv := hs.ev y
  rw [hy] at hyv
  have hye : a.eval y = .string b := by
    generalize a.eval y = v at hyv
    cases hyv; rfl
  have hzl : zv.cells.size = 1 := by have := zr_len hzf; rw [hzs] at this; simpa using this
  have hle : ∀ pv, Le κ κ S.γ (upd S.γ s (S.γ s + 1)) sv (upd sv s pv) := le_renew κ S.γ sv s
  have hxl : xs.length = n * 1 := hown.1
  rw [hd]
  obtain ⟨v', w', hrun, hown', hgr, hwh⟩ := run_append_where_str (P := X.Z.P) (w := w) (X.base s) T T2 o.type E iq zv hu hr2 hiq hzv (by rw [hsq, hz]) (by rw [hbq, hqb]) hzl (sv s) n xs hown b (by unfold maxLen; omega) hm (hs.wld.baseS _)
  have hob : (sv s).ownBlock = blk (S.σ s) (sv s) := by
    rw [hσ]
    rcases hown.2 with ⟨e, _⟩ | ⟨_, _, _, _, e, _⟩ <;> rw [e] <;> rfl
  rw [hob] at hgr
  refine ⟨v', w', κ, _, .inl ?_, sim_owned hs t s (pv := v') ?_ hgr (fun b' hb' => ?_) ?_⟩
  · simp [execOp, ho, resolve, invoke, builtin, hxe, hye, hrun]
  · rcases hown'.2 with ⟨e, _⟩ | ⟨_, _, _, _, e, _⟩ <;> rw [e] <;> rfl
  · rw [← hob]
    refine hwh b' ?_
    rcases hown'.2 with ⟨e, _⟩ | ⟨_, _, _, _, e, _⟩ <;> (rw [e] at hb' ⊢; exact hb')
  · have hcell : ∀ k, k < b.size → ((xs ++ Lib.strCells b).drop ((n + k) * 1)).take 1 = [.int .u8 ((b.data.toList.getD k 0).toNat : Int)] := fun k hk => by
      have hk2 : k < b.data.toList.length := by rw [Array.length_toList]; exact hk
      rw [append_chunkR hxl, Nat.mul_one, Lib.strCells, List.drop_eq_getElem_cons (by simpa using hk2)]
      have hk3 : k < b.data.size := hk
      simp only [List.map_cons, List.map_nil, List.map_drop, List.take_succ_cons, List.take_zero, List.getElem_map, List.getD_eq_getElem?_getD, List.getElem?_eq_getElem hk2, Option.getD_some]
    refine ⟨_, by rw [upd_same]; exact hown', fun i hi => ?_, fun i hi => ?_, fun i hi => ?_⟩
    · by_cases hin : i < n
      · rw [h1 i hin]; exact hfl i hin
      · obtain ⟨k, rfl⟩ : ∃ k, i = n + k := ⟨i - n, by omega⟩
        rw [h2 k (by omega)]; rfl
    · by_cases hin : i < n
      · rw [h1 i hin]; exact hfc i hin
      · obtain ⟨k, rfl⟩ : ∃ k, i = n + k := ⟨i - n, by omega⟩
        rw [h2 k (by omega)]; rfl
    · by_cases hin : i < n
      · rw [h1 i hin, append_chunkL hxl hin]; exact (hfr i hin).mono (hle _)
      · obtain ⟨k, rfl⟩ : ∃ k, i = n + k := ⟨i - n, by omega⟩
        rw [h2 k (by omega), hcell k (by omega)]
        exact .cons _ _ _ _ (.int _ _) .nil
def catS (a b : ByteArray) : ByteArray := ⟨(a.data.toList ++ b.data.toList).toArray⟩
theorem catS_eq (a b : ByteArray) : catS a b = a ++ b := by
  apply ByteArray.ext
  simp [catS, ByteArray.data_append]
theorem q_addS {x y : Operand} {T2 : TypeId} {a b : ByteArray} (ho : o.op = .binOp .add T x y T2) (hx : S.ev X x = .str a) (hy : S.ev X y = .str b) (hn : a.size + b.size ≤ 9223372036854775807) : QOp X o S (.str (catS a b)) := fun κ sv act w hs => by
  have hxv := hs.ev x
  rw [hx] at hxv
  have hxe : act.eval x = .string a := by
    generalize act.eval x = v at hxv
    cases hxv; rfl
  have hyv := hs.ev y
  rw [hy] at hyv
  have hye : act.eval y = .string b := by
    generalize act.eval y = v at hyv
    cases hyv; rfl
  refine ⟨.string (catS a b), .str _, fun w' _ => ?_⟩
  rw [catS_eq]
  simp only [execOp, ho, hxe, hye]
  simp [eqGuard, binOp, run_string_add_sum w' a b hn]
def subB (s : ByteArray) (i j : Nat) : ByteArray := ⟨((s.data.toList.take j).drop i).toArray⟩
theorem subB_eq (s : ByteArray) (i j : Nat) : s.extract i j = subB s i j := by
  apply ByteArray.ext
  apply Array.toList_inj.1
  simp [subB, ByteArray.data_extract, List.drop_take]
theorem q_slS {x : Operand} {lo hi : Option Operand} {s : ByteArray} {i j : Nat} (ho : o.op = .slice T x lo hi none) (hx : S.ev X x = .str s) (hlo : bndd X S lo i 0) (hhi : bndd X S hi j s.size) (hij : i ≤ j) (hjn : j ≤ s.size) (hu : X.Z.P.underlying T = some .string) : QOp X o S (.str (subB s i j)) := fun κ sv act w hs => by
  have hxv := hs.ev x
  rw [hx] at hxv
  have hxe : act.eval x = .string s := by
    generalize act.eval x = v at hxv
    cases hxv; rfl
  refine ⟨.string (subB s i j), .str _, fun w' _ => ?_⟩
  have h1 := hlo.v hs
  have h2 := hhi.v hs
  rw [← subB_eq]
  have key : (Instr.sliceAt T (.string s) (lo.map act.eval) (hi.map act.eval) none).run X.Z.P w' = .ok (.string (s.extract i j)) w' := by
    rcases h1 with ⟨h1, rfl⟩ | h1 <;> rcases h2 with ⟨h2, rfl⟩ | h2 <;> rw [h1, h2] <;> simp [Instr.sliceAt, Instr.slice, Instr.sliceBounds, Instr.sliceBound, asIntOf, run_underlying hu, hij, hjn]
  simp only [execOp, ho, hxe, Option.map_none]
  simp [key]
end
end Go.Ab
