/- Walks through the functions that the laws of the convoys reach: what each of them gives for what it gets (contracts), written out by a program of ours; without a condition but those that stand in each theorem. -/
import Derived.Test.YtafnhieaeejlcaaDoorCt12
set_option linter.all false
namespace Go.Proofs.YtafnhieaeejlcaaDoor
open Go Go.Ab
set_option maxRecDepth 100000
set_option maxHeartbeats 4000000
attribute [local irreducible] W WL QOp NOp thenQ blockQ FinQ FinR WG FQ Want FinW WI WIL thenI blockI
theorem chkHolds_sort {way len : Int} : ∀ {hs : List Hold} {p : Option Int}, chkHolds way len p hs = 0 → HSort way len hs ∧ ∀ q, p = some q → ∀ h ∈ hs, q < alongI way len h.a
  | [], _, _ => ⟨List.Pairwise.nil, fun _ _ h hh => by cases hh⟩
  | h :: hs, p, h0 => by
    rw [chkHolds_cons] at h0
    split at h0
    · cases h0
    · have rest : chkHolds way len (some (alongI way len h.a)) hs = 0 ∧ ∀ q, p = some q → q < alongI way len h.a := by
        split at h0
        · rename_i q
          split at h0
          · cases h0
          · rename_i hq; exact ⟨h0, fun q' e => by cases e; omega⟩
        · exact ⟨h0, fun q' e => by cases e⟩
      obtain ⟨r1, r2⟩ := rest
      obtain ⟨i1, i2⟩ := chkHolds_sort r1
      refine ⟨List.pairwise_cons.2 ⟨fun y hy => i2 _ rfl y hy, i1⟩, fun q hq y hy => ?_⟩
      rcases List.mem_cons.1 hy with rfl | hy
      · exact r2 q hq
      · have := i2 _ rfl y hy
        have := r2 q hq
        omega
theorem rok_of {c : Convoy} {t : Truck} (h1 : 1 ≤ c.len) (h2 : c.len ≤ 100000) (h : chkTruck c t = 0) : ROk c.len t := by
  obtain ⟨a1, a2, a3, a4, a5, a6, a7, a8, a9⟩ := tok_of h1 h2 h
  refine ⟨a1, a2, a3, a4, a5, a6, a7, a8, a9, ?_⟩
  unfold chkTruck at h
  split at h; · cases h
  split at h; · cases h
  split at h; · cases h
  split at h; · cases h
  split at h; · cases h
  split at h; · cases h
  exact (chkHolds_sort h).1
theorem ROk.free {len : Int} {t : Truck} (h : ROk len t) (b : Bool) : ROk len (freeT t b) := by
  cases b
  · exact h
  · exact ⟨h.l1, h.l2, h.s1, h.s2, h.p1, h.p2, h.p3, h.d1, ⟨Nat.zero_le _, fun k hk => by cases hk⟩, List.Pairwise.nil⟩
structure CR (c : Convoy) : Prop where
  ok : COk c
  r : ∀ k, k < c.trucks.length → ROk c.len (c.trucks.getD k default)
theorem cr_of {c : Convoy} (h : chkConvoy c = 0) : CR c := by
  have hc := cok_of h
  refine ⟨hc, fun k hk => rok_of hc.l1 hc.l2 ?_⟩
  unfold chkConvoy at h
  split at h; · cases h
  split at h; · cases h
  exact chkTrucks_ok h _ (by simp [List.getD, hk])
theorem arr_lo {c : Convoy} {t : Truck} (h : ROk c.len t) : (arrS c t).lo = t.start + hitR t c.len t.hi := by
  simp only [arrS]; rw [if_pos (hit_lohi h)]
theorem keepF_eq {c : Convoy} (h : CR c) {k : Nat} (hk : k < c.trucks.length) : keepF c k = (c.trucks.getD k default).start + hitR (c.trucks.getD k default) c.len (c.trucks.getD k default).hi := arr_lo (h.r k hk)
theorem failF_eq {c : Convoy} (h : CR c) {k : Nat} (hk : k < c.trucks.length) : failF c k = (c.trucks.getD k default).start + hitR (freeT (c.trucks.getD k default) true) c.len (c.trucks.getD k default).hi := arr_lo ((h.r k hk).free true)
/-- Those fail that would be the last ones. -/
def worst (s : Nat → Int) (n : Nat) : Nat := (idxF (fun i => decide (maxN s (n - 1) = s i)) n 0).toNat
def dropS (s : Nat → Int) (k : Nat) : Nat → Int := fun i => if i = k then -1 else s i
def soonP (s : Nat → Int) (n : Nat) : Nat → Nat → Int
  | 0 => s
  | m + 1 => dropS (soonP s n m) (worst (soonP s n m) n)
def loP (s fast : Nat → Int) (n : Nat) : Nat → Int
  | 0 => 0
  | m + 1 => max (loP s fast n m) (fast (worst (soonP s n m) n))
def maxL (lo : Int) (s : Nat → Int) : Nat → Int
  | 0 => lo
  | k + 1 => max (maxL lo s k) (s k)
def failsP (c : Convoy) : Nat := min c.fails.toNat c.trucks.length
def offPLo (c : Convoy) : Int := maxL (loP (keepF c) (failF c) c.trucks.length (failsP c)) (soonP (keepF c) c.trucks.length (failsP c)) c.trucks.length
def offP (c : Convoy) : Span := ⟨offPLo c, maxUp (endF c) c.trucks.length⟩
theorem maxN_hit (s : Nat → Int) : ∀ n, ∃ k, k ≤ n ∧ maxN s n = s k
  | 0 => ⟨0, Nat.le_refl _, rfl⟩
  | n + 1 => by
    obtain ⟨k, h1, h2⟩ := maxN_hit s n
    simp only [maxN]
    by_cases h : s (n + 1) ≤ maxN s n
    · exact ⟨k, by omega, by omega⟩
    · exact ⟨n + 1, Nat.le_refl _, by omega⟩
theorem maxN_ge (s : Nat → Int) : ∀ n k, k ≤ n → s k ≤ maxN s n
  | 0, k, h => by obtain rfl : k = 0 := by omega
                  exact Int.le_refl _
  | n + 1, k, h => by
    simp only [maxN]
    by_cases e : k = n + 1
    · subst e; omega
    · have := maxN_ge s n k (by omega); omega
theorem idxF_found {p : Nat → Bool} : ∀ (f k K : Nat), k ≤ K → K < k + f → p K = true → ∃ j, k ≤ j ∧ j ≤ K ∧ p j = true ∧ idxF p f k = j
  | 0, k, K, h1, h2, _ => by omega
  | f + 1, k, K, h1, h2, h3 => by
    simp only [idxF]
    by_cases e : p k = true
    · rw [if_pos e]; exact ⟨k, Nat.le_refl _, h1, e, rfl⟩
    · rw [if_neg e]
      have hne : k ≠ K := fun h => e (h ▸ h3)
      obtain ⟨j, a, b, d, e⟩ := idxF_found f (k + 1) K (by omega) (by omega) h3
      exact ⟨j, by omega, b, d, e⟩
theorem worst_spec (s : Nat → Int) {n : Nat} (hn : 1 ≤ n) : worst s n < n ∧ s (worst s n) = maxN s (n - 1) ∧ idxF (fun i => decide (maxN s (n - 1) = s i)) n 0 = (worst s n : Int) := by
  obtain ⟨K, h1, h2⟩ := maxN_hit s (n - 1)
  obtain ⟨j, a, b, d, e⟩ := idxF_found (p := fun i => decide (maxN s (n - 1) = s i)) n 0 K (Nat.zero_le _) (by omega) (by simpa using h2)
  have hw : worst s n = j := by unfold worst; rw [e]; rfl
  rw [hw]
  exact ⟨by omega, by simpa using (of_decide_eq_true d).symm, e⟩
theorem maxUp_s (f : Nat → Int) (k : Nat) : maxUp f (k + 1) = max (maxUp f k) (f k) := rfl
theorem soonP_zero (s : Nat → Int) (n : Nat) : soonP s n 0 = s := rfl
theorem loP_zero (s f : Nat → Int) (n : Nat) : loP s f n 0 = 0 := rfl
theorem maxL_zero (lo : Int) (s : Nat → Int) : maxL lo s 0 = lo := rfl
theorem soonP_succ (s : Nat → Int) (n m i : Nat) : soonP s n (m + 1) i = if i = worst (soonP s n m) n then -1 else soonP s n m i := rfl
theorem loP_succ (s f : Nat → Int) (n m : Nat) : loP s f n (m + 1) = max (loP s f n m) (f (worst (soonP s n m) n)) := rfl
theorem maxL_succ (lo : Int) (s : Nat → Int) (k : Nat) : maxL lo s (k + 1) = max (maxL lo s k) (s k) := rfl
theorem updI (g : Nat → Int) (j : Nat) (v : Int) (i : Nat) : updF (fun i => encI (g i)) j [.int .i64 v] i = encI (if i = j then v else g i) := by
  unfold updF; split <;> simp [encI]
theorem endF_eq (c : Convoy) (k : Nat) : endF c k = (c.trucks.getD k default).start + hitR (c.trucks.getD k default) c.len (c.trucks.getD k default).lo := rfl
attribute [local irreducible] worst soonP loP maxL maxN keepF failF endF maxUp
theorem c81 (c : Convoy) (hc : CR c) : Contract seat 81 [.agg (encConvoy c)] (.agg (encSpan (offP c))) := by
  refine contract_introW (fn := Tryd.f81) Tryd.func81 rfl (by kernel_rfl) rfl ?_ ?_ ?_
  · exact PureL.cons (.agg _ (pure_convoy c)) PureL.nil
  · exact .agg _ (pure_span _)
  intro w κ
  have hn := hc.ok.n
  have hf1 := hc.ok.f1
  have hf2 := hc.ok.f2
  have hmax0 := maxUp_zero (endF c)
  repeat' (first
    | (apply WL_q; apply Eq.refl; apply Eq.refl; (first | (apply q_mvI <;> apply Eq.refl) | (apply q_asI <;> apply Eq.refl) | (apply q_ldb <;> apply Eq.refl) | (apply q_fab <;> apply Eq.refl) | (apply q_cmp <;> apply Eq.refl) | (apply q_arith <;> (first | apply Eq.refl | omega)) | (apply q_len <;> apply Eq.refl) | (apply q_ldba <;> apply Eq.refl) | (apply q_min <;> apply Eq.refl) | (apply q_max <;> apply Eq.refl) | (apply q_ldo <;> (first | apply Eq.refl | omega)) | (apply q_iao <;> (first | apply Eq.refl | omega)) | (apply q_leno <;> apply Eq.refl) | (apply q_mvO <;> apply Eq.refl) | (apply q_asO <;> apply Eq.refl) | (apply q_asN <;> apply Eq.refl)))
    | apply W_seq
    | apply W_region
    | apply T_normal
    | apply WL_nil
    | apply T_exit
    | apply B_normal
    | apply B_exit_eq
    | apply W_skip
    | apply W_exit
    | apply W_ret
    | apply W_block
    | (apply WL_n; apply Eq.refl; (first | (apply n_boxa <;> apply Eq.refl) | (apply n_alloc <;> apply Eq.refl) | (apply n_stb <;> apply Eq.refl) | (apply n_sto <;> (first | apply Eq.refl | omega))))
    | apply W_regionG
    | (apply WG_nil; kernel_rfl)
    | (apply WG_q; (first | (apply want_none; apply Eq.refl) | (apply want_some; apply Eq.refl; apply Eq.refl; apply Eq.refl)); apply Eq.refl; first | (apply fq_bld <;> apply Eq.refl) | (apply fq_blda <;> apply Eq.refl) | (apply fq_fn; apply Eq.refl) | (apply fq_mf; apply Eq.refl) | (apply FQ_intro; intro _; (first | (apply q_mvI <;> apply Eq.refl) | (apply q_asI <;> apply Eq.refl) | (apply q_ldb <;> apply Eq.refl) | (apply q_fab <;> apply Eq.refl) | (apply q_cmp <;> apply Eq.refl) | (apply q_arith <;> (first | apply Eq.refl | omega)) | (apply q_len <;> apply Eq.refl) | (apply q_ldba <;> apply Eq.refl) | (apply q_min <;> apply Eq.refl) | (apply q_max <;> apply Eq.refl) | (apply q_ldo <;> (first | apply Eq.refl | omega)) | (apply q_iao <;> (first | apply Eq.refl | omega)) | (apply q_leno <;> apply Eq.refl) | (apply q_mvO <;> apply Eq.refl) | (apply q_asO <;> apply Eq.refl) | (apply q_asN <;> apply Eq.refl))))
    | (apply WG_n; (first | (apply want_none; apply Eq.refl) | (apply want_some; apply Eq.refl; apply Eq.refl; apply Eq.refl)); (first | (apply f_alloc <;> apply Eq.refl) | (apply f_stb <;> apply Eq.refl) | (apply f_bsl <;> apply Eq.refl)))
    | (apply W_cD; apply Eq.refl; intro _; rotate_left 1; intro _; rotate_left 1))
  refine W_wk (wk_nil 4 4 3 1 (fun i => encI (keepF c i)) rfl) ?_
  refine W_wk (wk_nil 5 5 3 1 (fun i => encI (failF c i)) rfl) ?_
  refine W_loopR [1, 2, 3, 15] [1, 2] (fun k : Nat => [(4, .os 4 (k + 1)), (5, .os 5 (k + 1)), (16, .int .i64 k)]) (fun k => [(3, 1), (4, k + 1), (5, k + 1)])
      (fun k => [(3, .box [.int .i64 0, .int .i64 (maxUp (endF c) k)]), (4, .arr 3 1 k (fun i => encI (keepF c i))), (5, .arr 3 1 k (fun i => encI (failF c i)))])
      (fun k => k ≤ c.trucks.length) (fun k => c.trucks.length - k) 0 (Nat.zero_le _) (by refine ⟨?_, ?_, ?_⟩ <;> repeat' (first | exact trivial | apply And.intro | apply Eq.refl | (apply toI; apply Eq.refl; first | omega | assumption) | (apply toB; apply Eq.refl; repeat' (first | apply Eq.refl | apply consS | (apply consI; first | apply Eq.refl | omega | assumption))))) (fun k h hk => ?_)
  have hr : (k : Int) < c.trucks.length → ROk c.len (c.trucks.getD k default) := fun h => hc.r _ (by omega)
  have k1 : (k : Int) < c.trucks.length → Contract seat 112 [.agg (encTrack (freeT (c.trucks.getD k default) false) c.len)] (.int .i64 (keepF c k)) := fun h => by rw [keepF_eq hc (by omega)]; exact c112 _ _ (hr h)
  have k2 : (k : Int) < c.trucks.length → Contract seat 112 [.agg (encTrack (freeT (c.trucks.getD k default) true) c.len)] (.int .i64 (failF c k)) := fun h => by rw [failF_eq hc (by omega)]; exact c112 _ _ ((hr h).free true)
  have k3 : (k : Int) < c.trucks.length → Contract seat 98 [.agg (encTrack (freeT (c.trucks.getD k default) false) c.len)] (.int .i64 (endF c k)) := fun h => by rw [endF_eq]; exact c98 _ _ (hr h)
  repeat' (first
    | (apply WL_q; apply Eq.refl; apply Eq.refl; (first | (apply q_mvI <;> apply Eq.refl) | (apply q_asI <;> apply Eq.refl) | (apply q_ldb <;> apply Eq.refl) | (apply q_fab <;> apply Eq.refl) | (apply q_cmp <;> apply Eq.refl) | (apply q_arith <;> (first | apply Eq.refl | omega)) | (apply q_len <;> apply Eq.refl) | (apply q_ldba <;> apply Eq.refl) | (apply q_min <;> apply Eq.refl) | (apply q_max <;> apply Eq.refl) | (apply q_ldo <;> (first | apply Eq.refl | omega)) | (apply q_iao <;> (first | apply Eq.refl | omega)) | (apply q_leno <;> apply Eq.refl) | (apply q_mvO <;> apply Eq.refl) | (apply q_asO <;> apply Eq.refl) | (apply q_asN <;> apply Eq.refl)))
    | apply W_seq
    | apply W_region
    | apply T_normal
    | apply WL_nil
    | apply T_exit
    | apply B_normal
    | apply B_exit_eq
    | apply W_skip
    | apply W_exit
    | apply W_ret
    | apply W_block
    | (apply WL_calls; apply Eq.refl; apply Eq.refl; rotate_left 1; exact (fz_refl _ _); rotate_right 1; exact (c84 c k false (by omega)); apply Eq.refl; apply Eq.refl)
    | (apply WL_calls; apply Eq.refl; apply Eq.refl; exact (c84 c k false (by omega)); (focus ((repeat' (first | exact FzL.nil | refine FzL.cons _ _ _ _ ?_ ?_ | exact Fz.os _ _ _ _ _ _ rfl rfl | exact Fz.bx _ _ _ _ rfl rfl | refine Fz.fn _ _ _ ?_ | exact Fz.same _ | exact fz_refl _ _)); done)); apply Eq.refl; apply Eq.refl)
    | (apply WL_calls; apply Eq.refl; apply Eq.refl; rotate_left 1; exact (fz_refl _ _); rotate_right 1; exact (c84 c k true (by omega)); apply Eq.refl; apply Eq.refl)
    | (apply WL_calls; apply Eq.refl; apply Eq.refl; exact (c84 c k true (by omega)); (focus ((repeat' (first | exact FzL.nil | refine FzL.cons _ _ _ _ ?_ ?_ | exact Fz.os _ _ _ _ _ _ rfl rfl | exact Fz.bx _ _ _ _ rfl rfl | refine Fz.fn _ _ _ ?_ | exact Fz.same _ | exact fz_refl _ _)); done)); apply Eq.refl; apply Eq.refl)
    | (apply WL_calls; apply Eq.refl; apply Eq.refl; rotate_left 1; exact (fz_refl _ _); rotate_right 1; exact (c83 (freeT (c.trucks.getD k default) false) c.len ((hr (by assumption)).free false)); apply Eq.refl; apply Eq.refl)
    | (apply WL_calls; apply Eq.refl; apply Eq.refl; exact (c83 (freeT (c.trucks.getD k default) false) c.len ((hr (by assumption)).free false)); (focus ((repeat' (first | exact FzL.nil | refine FzL.cons _ _ _ _ ?_ ?_ | exact Fz.os _ _ _ _ _ _ rfl rfl | exact Fz.bx _ _ _ _ rfl rfl | refine Fz.fn _ _ _ ?_ | exact Fz.same _ | exact fz_refl _ _)); done)); apply Eq.refl; apply Eq.refl)
    | (apply WL_calls; apply Eq.refl; apply Eq.refl; rotate_left 1; exact (fz_refl _ _); rotate_right 1; exact (c83 (freeT (c.trucks.getD k default) true) c.len ((hr (by assumption)).free true)); apply Eq.refl; apply Eq.refl)
    | (apply WL_calls; apply Eq.refl; apply Eq.refl; exact (c83 (freeT (c.trucks.getD k default) true) c.len ((hr (by assumption)).free true)); (focus ((repeat' (first | exact FzL.nil | refine FzL.cons _ _ _ _ ?_ ?_ | exact Fz.os _ _ _ _ _ _ rfl rfl | exact Fz.bx _ _ _ _ rfl rfl | refine Fz.fn _ _ _ ?_ | exact Fz.same _ | exact fz_refl _ _)); done)); apply Eq.refl; apply Eq.refl)
    | (apply WL_calls; apply Eq.refl; apply Eq.refl; rotate_left 1; exact (fz_refl _ _); rotate_right 1; exact (k1 (by assumption)); apply Eq.refl; apply Eq.refl)
    | (apply WL_calls; apply Eq.refl; apply Eq.refl; exact (k1 (by assumption)); (focus ((repeat' (first | exact FzL.nil | refine FzL.cons _ _ _ _ ?_ ?_ | exact Fz.os _ _ _ _ _ _ rfl rfl | exact Fz.bx _ _ _ _ rfl rfl | refine Fz.fn _ _ _ ?_ | exact Fz.same _ | exact fz_refl _ _)); done)); apply Eq.refl; apply Eq.refl)
    | (apply WL_calls; apply Eq.refl; apply Eq.refl; rotate_left 1; exact (fz_refl _ _); rotate_right 1; exact (k2 (by assumption)); apply Eq.refl; apply Eq.refl)
    | (apply WL_calls; apply Eq.refl; apply Eq.refl; exact (k2 (by assumption)); (focus ((repeat' (first | exact FzL.nil | refine FzL.cons _ _ _ _ ?_ ?_ | exact Fz.os _ _ _ _ _ _ rfl rfl | exact Fz.bx _ _ _ _ rfl rfl | refine Fz.fn _ _ _ ?_ | exact Fz.same _ | exact fz_refl _ _)); done)); apply Eq.refl; apply Eq.refl)
    | (apply WL_calls; apply Eq.refl; apply Eq.refl; rotate_left 1; exact (fz_refl _ _); rotate_right 1; exact (k3 (by assumption)); apply Eq.refl; apply Eq.refl)
    | (apply WL_calls; apply Eq.refl; apply Eq.refl; exact (k3 (by assumption)); (focus ((repeat' (first | exact FzL.nil | refine FzL.cons _ _ _ _ ?_ ?_ | exact Fz.os _ _ _ _ _ _ rfl rfl | exact Fz.bx _ _ _ _ rfl rfl | refine Fz.fn _ _ _ ?_ | exact Fz.same _ | exact fz_refl _ _)); done)); apply Eq.refl; apply Eq.refl)
    | (apply WL_n; apply Eq.refl; (first | (apply n_boxa <;> apply Eq.refl) | (apply n_alloc <;> apply Eq.refl) | (apply n_stb <;> apply Eq.refl) | (apply n_sto <;> (first | apply Eq.refl | omega))))
    | apply W_regionG
    | (apply WG_nil; kernel_rfl)
    | (apply WG_q; (first | (apply want_none; apply Eq.refl) | (apply want_some; apply Eq.refl; apply Eq.refl; apply Eq.refl)); apply Eq.refl; first | (apply fq_bld <;> apply Eq.refl) | (apply fq_blda <;> apply Eq.refl) | (apply fq_fn; apply Eq.refl) | (apply fq_mf; apply Eq.refl) | (apply FQ_intro; intro _; (first | (apply q_mvI <;> apply Eq.refl) | (apply q_asI <;> apply Eq.refl) | (apply q_ldb <;> apply Eq.refl) | (apply q_fab <;> apply Eq.refl) | (apply q_cmp <;> apply Eq.refl) | (apply q_arith <;> (first | apply Eq.refl | omega)) | (apply q_len <;> apply Eq.refl) | (apply q_ldba <;> apply Eq.refl) | (apply q_min <;> apply Eq.refl) | (apply q_max <;> apply Eq.refl) | (apply q_ldo <;> (first | apply Eq.refl | omega)) | (apply q_iao <;> (first | apply Eq.refl | omega)) | (apply q_leno <;> apply Eq.refl) | (apply q_mvO <;> apply Eq.refl) | (apply q_asO <;> apply Eq.refl) | (apply q_asN <;> apply Eq.refl))))
    | (apply WG_call; (first | (apply want_none; apply Eq.refl) | (apply want_some; apply Eq.refl; apply Eq.refl; apply Eq.refl)); apply Eq.refl; apply Eq.refl; apply Eq.refl; exact (c84 c k false (by omega)))
    | (apply WG_call; (first | (apply want_none; apply Eq.refl) | (apply want_some; apply Eq.refl; apply Eq.refl; apply Eq.refl)); apply Eq.refl; apply Eq.refl; apply Eq.refl; exact (c84 c k true (by omega)))
    | (apply WG_call; (first | (apply want_none; apply Eq.refl) | (apply want_some; apply Eq.refl; apply Eq.refl; apply Eq.refl)); apply Eq.refl; apply Eq.refl; apply Eq.refl; exact (c83 (freeT (c.trucks.getD k default) false) c.len ((hr (by assumption)).free false)))
    | (apply WG_call; (first | (apply want_none; apply Eq.refl) | (apply want_some; apply Eq.refl; apply Eq.refl; apply Eq.refl)); apply Eq.refl; apply Eq.refl; apply Eq.refl; exact (c83 (freeT (c.trucks.getD k default) true) c.len ((hr (by assumption)).free true)))
    | (apply WG_call; (first | (apply want_none; apply Eq.refl) | (apply want_some; apply Eq.refl; apply Eq.refl; apply Eq.refl)); apply Eq.refl; apply Eq.refl; apply Eq.refl; exact (k1 (by assumption)))
    | (apply WG_call; (first | (apply want_none; apply Eq.refl) | (apply want_some; apply Eq.refl; apply Eq.refl; apply Eq.refl)); apply Eq.refl; apply Eq.refl; apply Eq.refl; exact (k2 (by assumption)))
    | (apply WG_call; (first | (apply want_none; apply Eq.refl) | (apply want_some; apply Eq.refl; apply Eq.refl; apply Eq.refl)); apply Eq.refl; apply Eq.refl; apply Eq.refl; exact (k3 (by assumption)))
    | (apply WG_n; (first | (apply want_none; apply Eq.refl) | (apply want_some; apply Eq.refl; apply Eq.refl; apply Eq.refl)); (first | (refine f_app (f' := fun i => encI (keepF c i)) rfl rfl rfl rfl rfl rfl rfl rfl rfl rfl rfl rfl rfl rfl rfl (by first | omega | (show (k + 1) * 8 ≤ _; omega)) (by omega) rfl (fun i hi => rfl) (fun i hi => by (obtain rfl : i = 0 := by omega); rfl)) | (refine f_app (f' := fun i => encI (failF c i)) rfl rfl rfl rfl rfl rfl rfl rfl rfl rfl rfl rfl rfl rfl rfl (by first | omega | (show (k + 1) * 8 ≤ _; omega)) (by omega) rfl (fun i hi => rfl) (fun i hi => by (obtain rfl : i = 0 := by omega); rfl)) | (apply f_alloc <;> apply Eq.refl) | (apply f_stb <;> apply Eq.refl) | (apply f_bsl <;> apply Eq.refl)))
    | (apply W_cD; apply Eq.refl; intro _; rotate_left 1; intro _; rotate_left 1))
  · have hmk := maxUp_s (endF c) k
    exact ⟨k + 1, by omega, by omega, (by apply reach_now; refine ⟨?_, ?_, ?_, ?_, ?_⟩ <;> repeat' (first | exact trivial | apply And.intro | apply Eq.refl | (apply toI; apply Eq.refl; first | omega | assumption) | (apply toB; apply Eq.refl; repeat' (first | apply Eq.refl | apply consS | (apply consI; first | apply Eq.refl | omega | assumption)))))⟩
  obtain rfl : k = c.trucks.length := by omega
  clear k1 k2 k3 hr
  have hz1 := soonP_zero (keepF c) c.trucks.length
  have hz2 := loP_zero (keepF c) (failF c) c.trucks.length
  have hfp : ((failsP c : Nat) : Int) = min c.fails c.trucks.length := by unfold failsP; omega
  refine W_loopR [1, 2, 3, 5] [1, 2, 5] (fun m : Nat => [(4, .os 4 (c.trucks.length + 1)), (9, .int .i64 m)]) (fun m => [(3, 1), (4, c.trucks.length + 1)])
      (fun m => [(3, .box [.int .i64 (loP (keepF c) (failF c) c.trucks.length m), .int .i64 (maxUp (endF c) c.trucks.length)]), (4, .arr 3 1 c.trucks.length (fun i => encI (soonP (keepF c) c.trucks.length m i)))])
      (fun m => m ≤ failsP c) (fun m => failsP c - m) 0 (Nat.zero_le _) (by refine ⟨?_, ?_, ?_⟩ <;> repeat' (first | exact trivial | apply And.intro | apply Eq.refl | (apply toI; apply Eq.refl; first | omega | assumption) | (apply toB; apply Eq.refl; repeat' (first | apply Eq.refl | apply consS | (apply consI; first | apply Eq.refl | omega | assumption))) | (apply toArr; apply Eq.refl; intro i; rw [hz1]))) (fun m g hm => ?_)
  have hw : m < failsP c → _ := fun h => worst_spec (soonP (keepF c) c.trucks.length m) (n := c.trucks.length) (by omega)
  have k1 : m < failsP c → Contract seat 114 [.sl 1 c.trucks.length (fun i => encI (soonP (keepF c) c.trucks.length m i))] _ := fun h => c114 _ _ (by omega) (by omega)
  have k2 : m < failsP c → Contract seat 113 [.sl 1 c.trucks.length (fun i => encI (soonP (keepF c) c.trucks.length m i)), .int .i64 (maxN (soonP (keepF c) c.trucks.length m) (c.trucks.length - 1))] (.int .i64 ((worst (soonP (keepF c) c.trucks.length m) c.trucks.length : Nat) : Int)) := fun h => by
    rw [← (hw h).2.2]; exact c113 _ _ (by omega) _
  have hw1 : m < failsP c → worst (soonP (keepF c) c.trucks.length m) c.trucks.length < c.trucks.length := fun h => (hw h).1
  have hl2 : max (loP (keepF c) (failF c) c.trucks.length m) (failF c ((worst (soonP (keepF c) c.trucks.length m) c.trucks.length : Nat) : Int).toNat) = loP (keepF c) (failF c) c.trucks.length (m + 1) := (loP_succ (keepF c) (failF c) c.trucks.length m).symm
  have hs2 := soonP_succ (keepF c) c.trucks.length m
  clear hw
  repeat' (first
    | (apply WL_q; apply Eq.refl; apply Eq.refl; (first | (apply q_mvI <;> apply Eq.refl) | (apply q_asI <;> apply Eq.refl) | (apply q_ldb <;> apply Eq.refl) | (apply q_fab <;> apply Eq.refl) | (apply q_cmp <;> apply Eq.refl) | (apply q_arith <;> (first | apply Eq.refl | omega)) | (apply q_len <;> apply Eq.refl) | (apply q_ldba <;> apply Eq.refl) | (apply q_min <;> apply Eq.refl) | (apply q_max <;> apply Eq.refl) | (apply q_ldo <;> (first | apply Eq.refl | omega)) | (apply q_iao <;> (first | apply Eq.refl | omega)) | (apply q_leno <;> apply Eq.refl) | (apply q_mvO <;> apply Eq.refl) | (apply q_asO <;> apply Eq.refl) | (apply q_asN <;> apply Eq.refl)))
    | apply W_seq
    | apply W_region
    | apply T_normal
    | apply WL_nil
    | apply T_exit
    | apply B_normal
    | apply B_exit_eq
    | apply W_skip
    | apply W_exit
    | apply W_ret
    | apply W_block
    | (apply WL_calls; apply Eq.refl; apply Eq.refl; rotate_left 1; exact (fz_refl _ _); rotate_right 1; exact (k1 (by omega)); apply Eq.refl; apply Eq.refl)
    | (apply WL_calls; apply Eq.refl; apply Eq.refl; exact (k1 (by omega)); (focus ((repeat' (first | exact FzL.nil | refine FzL.cons _ _ _ _ ?_ ?_ | exact Fz.os _ _ _ _ _ _ rfl rfl | exact Fz.bx _ _ _ _ rfl rfl | refine Fz.fn _ _ _ ?_ | exact Fz.same _ | exact fz_refl _ _)); done)); apply Eq.refl; apply Eq.refl)
    | (apply WL_calls; apply Eq.refl; apply Eq.refl; rotate_left 1; exact (fz_refl _ _); rotate_right 1; exact (k2 (by omega)); apply Eq.refl; apply Eq.refl)
    | (apply WL_calls; apply Eq.refl; apply Eq.refl; exact (k2 (by omega)); (focus ((repeat' (first | exact FzL.nil | refine FzL.cons _ _ _ _ ?_ ?_ | exact Fz.os _ _ _ _ _ _ rfl rfl | exact Fz.bx _ _ _ _ rfl rfl | refine Fz.fn _ _ _ ?_ | exact Fz.same _ | exact fz_refl _ _)); done)); apply Eq.refl; apply Eq.refl)
    | (apply WL_n; apply Eq.refl; (first | (apply n_boxa <;> apply Eq.refl) | (apply n_alloc <;> apply Eq.refl) | (apply n_stb <;> apply Eq.refl) | (apply n_sto <;> (first | apply Eq.refl | omega))))
    | apply W_regionG
    | (apply WG_nil; kernel_rfl)
    | (apply WG_q; (first | (apply want_none; apply Eq.refl) | (apply want_some; apply Eq.refl; apply Eq.refl; apply Eq.refl)); apply Eq.refl; first | (apply fq_bld <;> apply Eq.refl) | (apply fq_blda <;> apply Eq.refl) | (apply fq_fn; apply Eq.refl) | (apply fq_mf; apply Eq.refl) | (apply FQ_intro; intro _; (first | (apply q_mvI <;> apply Eq.refl) | (apply q_asI <;> apply Eq.refl) | (apply q_ldb <;> apply Eq.refl) | (apply q_fab <;> apply Eq.refl) | (apply q_cmp <;> apply Eq.refl) | (apply q_arith <;> (first | apply Eq.refl | omega)) | (apply q_len <;> apply Eq.refl) | (apply q_ldba <;> apply Eq.refl) | (apply q_min <;> apply Eq.refl) | (apply q_max <;> apply Eq.refl) | (apply q_ldo <;> (first | apply Eq.refl | omega)) | (apply q_iao <;> (first | apply Eq.refl | omega)) | (apply q_leno <;> apply Eq.refl) | (apply q_mvO <;> apply Eq.refl) | (apply q_asO <;> apply Eq.refl) | (apply q_asN <;> apply Eq.refl))))
    | (apply WG_call; (first | (apply want_none; apply Eq.refl) | (apply want_some; apply Eq.refl; apply Eq.refl; apply Eq.refl)); apply Eq.refl; apply Eq.refl; apply Eq.refl; exact (k1 (by omega)))
    | (apply WG_call; (first | (apply want_none; apply Eq.refl) | (apply want_some; apply Eq.refl; apply Eq.refl; apply Eq.refl)); apply Eq.refl; apply Eq.refl; apply Eq.refl; exact (k2 (by omega)))
    | (apply WG_n; (first | (apply want_none; apply Eq.refl) | (apply want_some; apply Eq.refl; apply Eq.refl; apply Eq.refl)); (first | (apply f_alloc <;> apply Eq.refl) | (apply f_stb <;> apply Eq.refl) | (apply f_bsl <;> apply Eq.refl)))
    | (apply W_cD; apply Eq.refl; intro _; rotate_left 1; intro _; rotate_left 1))
  · exact ⟨m + 1, by omega, by omega, (by apply reach_now; refine ⟨?_, ?_, ?_, ?_, ?_⟩ <;> repeat' (first | exact trivial | apply And.intro | apply Eq.refl | (apply toI; apply Eq.refl; first | omega | assumption) | (apply toB; apply Eq.refl; repeat' (first | apply Eq.refl | apply consS | (apply consI; first | apply Eq.refl | omega | assumption))) | (apply toArr; apply Eq.refl; intro i; rw [hs2]; exact updI _ _ _ _)))⟩
  obtain rfl : m = failsP c := by omega
  clear k1 k2 hw1 hl2 hs2
  have hz3 := maxL_zero (loP (keepF c) (failF c) c.trucks.length (failsP c)) (soonP (keepF c) c.trucks.length (failsP c))
  refine W_loopR [2, 3, 68, 69] [2] (fun k : Nat => [(68, .os 4 (c.trucks.length + 1)), (70, .int .i64 k)]) (fun m => [(3, 1), (4, c.trucks.length + 1)])
      (fun k => [(3, .box [.int .i64 (maxL (loP (keepF c) (failF c) c.trucks.length (failsP c)) (soonP (keepF c) c.trucks.length (failsP c)) k), .int .i64 (maxUp (endF c) c.trucks.length)]), (4, .arr 3 1 c.trucks.length (fun i => encI (soonP (keepF c) c.trucks.length (failsP c) i)))])
      (fun k => k ≤ c.trucks.length) (fun k => c.trucks.length - k) 0 (Nat.zero_le _) (by refine ⟨?_, ?_, ?_⟩ <;> repeat' (first | exact trivial | apply And.intro | apply Eq.refl | (apply toI; apply Eq.refl; first | omega | assumption) | (apply toB; apply Eq.refl; repeat' (first | apply Eq.refl | apply consS | (apply consI; first | apply Eq.refl | omega | assumption))))) (fun k g hk => ?_)
  have hl3 : max (maxL (loP (keepF c) (failF c) c.trucks.length (failsP c)) (soonP (keepF c) c.trucks.length (failsP c)) k) (soonP (keepF c) c.trucks.length (failsP c) (k : Int).toNat) = maxL (loP (keepF c) (failF c) c.trucks.length (failsP c)) (soonP (keepF c) c.trucks.length (failsP c)) (k + 1) := (maxL_succ _ _ _).symm
  repeat' (first
    | (apply WL_q; apply Eq.refl; apply Eq.refl; (first | (apply q_mvI <;> apply Eq.refl) | (apply q_asI <;> apply Eq.refl) | (apply q_ldb <;> apply Eq.refl) | (apply q_fab <;> apply Eq.refl) | (apply q_cmp <;> apply Eq.refl) | (apply q_arith <;> (first | apply Eq.refl | omega)) | (apply q_len <;> apply Eq.refl) | (apply q_ldba <;> apply Eq.refl) | (apply q_min <;> apply Eq.refl) | (apply q_max <;> apply Eq.refl) | (apply q_ldo <;> (first | apply Eq.refl | omega)) | (apply q_iao <;> (first | apply Eq.refl | omega)) | (apply q_leno <;> apply Eq.refl) | (apply q_mvO <;> apply Eq.refl) | (apply q_asO <;> apply Eq.refl) | (apply q_asN <;> apply Eq.refl)))
    | apply W_seq
    | apply W_region
    | apply T_normal
    | apply WL_nil
    | apply T_exit
    | apply B_normal
    | apply B_exit_eq
    | apply W_skip
    | apply W_exit
    | apply W_ret
    | apply W_block
    | (apply WL_n; apply Eq.refl; (first | (apply n_boxa <;> apply Eq.refl) | (apply n_alloc <;> apply Eq.refl) | (apply n_stb <;> apply Eq.refl) | (apply n_sto <;> (first | apply Eq.refl | omega))))
    | apply W_regionG
    | (apply WG_nil; kernel_rfl)
    | (apply WG_q; (first | (apply want_none; apply Eq.refl) | (apply want_some; apply Eq.refl; apply Eq.refl; apply Eq.refl)); apply Eq.refl; first | (apply fq_bld <;> apply Eq.refl) | (apply fq_blda <;> apply Eq.refl) | (apply fq_fn; apply Eq.refl) | (apply fq_mf; apply Eq.refl) | (apply FQ_intro; intro _; (first | (apply q_mvI <;> apply Eq.refl) | (apply q_asI <;> apply Eq.refl) | (apply q_ldb <;> apply Eq.refl) | (apply q_fab <;> apply Eq.refl) | (apply q_cmp <;> apply Eq.refl) | (apply q_arith <;> (first | apply Eq.refl | omega)) | (apply q_len <;> apply Eq.refl) | (apply q_ldba <;> apply Eq.refl) | (apply q_min <;> apply Eq.refl) | (apply q_max <;> apply Eq.refl) | (apply q_ldo <;> (first | apply Eq.refl | omega)) | (apply q_iao <;> (first | apply Eq.refl | omega)) | (apply q_leno <;> apply Eq.refl) | (apply q_mvO <;> apply Eq.refl) | (apply q_asO <;> apply Eq.refl) | (apply q_asN <;> apply Eq.refl))))
    | (apply WG_n; (first | (apply want_none; apply Eq.refl) | (apply want_some; apply Eq.refl; apply Eq.refl; apply Eq.refl)); (first | (apply f_alloc <;> apply Eq.refl) | (apply f_stb <;> apply Eq.refl) | (apply f_bsl <;> apply Eq.refl)))
    | (apply W_cD; apply Eq.refl; intro _; rotate_left 1; intro _; rotate_left 1))
  · exact ⟨k + 1, by omega, by omega, (by apply reach_now; refine ⟨?_, ?_, ?_, ?_, ?_⟩ <;> repeat' (first | exact trivial | apply And.intro | apply Eq.refl | (apply toI; apply Eq.refl; first | omega | assumption) | (apply toB; apply Eq.refl; repeat' (first | apply Eq.refl | apply consS | (apply consI; first | apply Eq.refl | omega | assumption)))))⟩
  · obtain rfl : k = c.trucks.length := by omega
    ((try apply fin_now); first | (apply fin_A; apply Eq.refl; apply Eq.refl; apply Eq.refl; apply Eq.refl; apply Eq.refl; apply Eq.refl; apply Eq.refl; apply Eq.refl; try apply Eq.refl))
theorem c36 (c : Convoy) : Contract seat 36 [.agg (encConvoy c)] (.tup [.agg (encSpan (if chkConvoy c = 0 then offP c else default)), .int .i64 (chkConvoy c)]) := by
  refine contract_introW (fn := Tryd.f36) Tryd.func36 rfl (by kernel_rfl) rfl ?_ ?_ ?_
  · exact PureL.cons (.agg _ (pure_convoy c)) PureL.nil
  · exact .tup _ (PureL.cons (.agg _ (pure_span _)) (PureL.cons (.int _ _) PureL.nil))
  intro w κ
  repeat' (first
    | (apply WL_q; apply Eq.refl; apply Eq.refl; (first | (apply q_mvI <;> apply Eq.refl) | (apply q_asI <;> apply Eq.refl) | (apply q_cmp <;> apply Eq.refl) | (apply q_ldba <;> apply Eq.refl) | (apply q_bld <;> apply Eq.refl)))
    | apply W_seq
    | apply W_region
    | apply T_normal
    | apply WL_nil
    | apply T_ret
    | apply W_skip
    | apply W_ret
    | (apply WL_call; apply Eq.refl; apply Eq.refl; rotate_left 1; apply Eq.refl; rotate_right 1; exact (c21 c); apply Eq.refl)
    | (apply WL_call; apply Eq.refl; apply Eq.refl; rotate_left 1; apply Eq.refl; rotate_right 1; exact (c81 c (cr_of (by assumption))); apply Eq.refl)
    | (apply WL_n; apply Eq.refl; (first | (apply n_boxa <;> apply Eq.refl) | (apply n_alloc <;> apply Eq.refl) | (apply n_stb <;> apply Eq.refl)))
    | (apply W_cND; apply Eq.refl; intro _; rotate_left 1; intro _; rotate_left 1))
  · ((try apply fin_now); first | (focus (apply fin_2; apply Eq.refl; (first | (apply rv_I; apply Eq.refl) | (apply rv_A <;> apply Eq.refl)); (first | (apply rv_I; apply Eq.refl) | (apply rv_A <;> apply Eq.refl)); all_goals try apply Eq.refl)))
    rw [if_neg (by assumption)]; rfl
  · ((try apply fin_now); first | (focus (apply fin_2; apply Eq.refl; (first | (apply rv_I; apply Eq.refl) | (apply rv_A <;> apply Eq.refl)); (first | (apply rv_I; apply Eq.refl) | (apply rv_A <;> apply Eq.refl)); all_goals try apply Eq.refl)))
    · rw [if_pos (by assumption)]; rfl
    · simp [*]
end Go.Proofs.YtafnhieaeejlcaaDoor

