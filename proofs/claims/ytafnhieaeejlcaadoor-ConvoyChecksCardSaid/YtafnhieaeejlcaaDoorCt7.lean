/- Walks through the functions that the laws of the convoys reach: what each of them gives for what it gets (contracts), written out by a program of ours; without a condition but those that stand in each theorem. -/
import Derived.Test.YtafnhieaeejlcaaDoorCt6
set_option linter.all false
namespace Go.Proofs.YtafnhieaeejlcaaDoor
open Go Go.Ab
set_option maxRecDepth 100000
set_option maxHeartbeats 4000000
attribute [local irreducible] W WL QOp NOp thenQ blockQ FinQ FinR WG FQ Want FinW WI WIL thenI blockI
theorem mayF_top {c : Convoy} (hc : COk c) : mayF (keepF c) (failF c) c.trucks.length c.fails 21000 = true :=
  mayF_late (fun k hk => (arr_bnd (hc.t k hk)).2.1) hc.f1
theorem maxUp_succ (c : Convoy) (k : Nat) : maxUp (endF c) (k + 1) = max (maxUp (endF c) k) (arrS c (c.trucks.getD (k : Int).toNat default)).hi := rfl
theorem maxUp_zero (f : Nat → Int) : maxUp f 0 = 0 := rfl
attribute [local irreducible] arrS freeT maxUp mayF offLo
theorem c95 (c : Convoy) (hc : COk c) : Contract seat 95 [.agg (encConvoy c)] (.agg (encSpan (offS c))) := by
  refine contract_intro (fn := Tryd.f95) Tryd.func95 rfl (by kernel_rfl) rfl ?_ ?_ ?_
  · exact PureL.cons (.agg _ (pure_convoy c)) PureL.nil
  · exact .agg _ (pure_span _)
  intro w κ
  have hn := hc.n
  have hf1 := hc.f1
  have hf2 := hc.f2
  have hmax0 := maxUp_zero (endF c)
  repeat' (first
    | (apply WL_q; apply Eq.refl; apply Eq.refl; (first | (apply q_mvI <;> apply Eq.refl) | (apply q_asI <;> apply Eq.refl) | (apply q_ldb <;> apply Eq.refl) | (apply q_fab <;> apply Eq.refl) | (apply q_cmp <;> apply Eq.refl) | (apply q_not <;> apply Eq.refl) | (apply q_arith <;> (first | apply Eq.refl | omega)) | (apply q_len <;> apply Eq.refl) | (apply q_ia <;> (first | apply Eq.refl | omega)) | (apply q_ldba <;> apply Eq.refl) | (apply q_ldra <;> apply Eq.refl) | (apply q_max <;> apply Eq.refl) | (apply q_mvS <;> apply Eq.refl) | (apply q_mvO <;> apply Eq.refl) | (apply q_asO <;> apply Eq.refl) | (apply q_asN <;> apply Eq.refl)))
    | apply W_seq
    | apply W_region
    | apply T_normal
    | apply WL_nil
    | apply T_exit
    | apply B_normal
    | apply B_exit_eq
    | apply W_skip
    | apply W_exit
    | apply W_ret
    | apply W_block
    | (apply WL_n; apply Eq.refl; (first | (apply n_boxa <;> apply Eq.refl) | (apply n_alloc <;> apply Eq.refl) | (apply n_stb <;> apply Eq.refl)))
    | apply W_regionG
    | (apply WG_nil; kernel_rfl)
    | (apply WG_q; (first | (apply want_none; apply Eq.refl) | (apply want_some; apply Eq.refl; apply Eq.refl; apply Eq.refl)); apply Eq.refl; first | (apply fq_bld <;> apply Eq.refl) | (apply fq_blda <;> apply Eq.refl) | (apply fq_fn; apply Eq.refl) | (apply fq_mf; apply Eq.refl) | (apply FQ_intro; intro _; (first | (apply q_mvI <;> apply Eq.refl) | (apply q_asI <;> apply Eq.refl) | (apply q_ldb <;> apply Eq.refl) | (apply q_fab <;> apply Eq.refl) | (apply q_cmp <;> apply Eq.refl) | (apply q_not <;> apply Eq.refl) | (apply q_arith <;> (first | apply Eq.refl | omega)) | (apply q_len <;> apply Eq.refl) | (apply q_ia <;> (first | apply Eq.refl | omega)) | (apply q_ldba <;> apply Eq.refl) | (apply q_ldra <;> apply Eq.refl) | (apply q_max <;> apply Eq.refl) | (apply q_mvS <;> apply Eq.refl) | (apply q_mvO <;> apply Eq.refl) | (apply q_asO <;> apply Eq.refl) | (apply q_asN <;> apply Eq.refl))))
    | (apply WG_n; (first | (apply want_none; apply Eq.refl) | (apply want_some; apply Eq.refl; apply Eq.refl; apply Eq.refl)); (first | (apply f_alloc <;> apply Eq.refl) | (apply f_stb <;> apply Eq.refl) | (apply f_bsl <;> apply Eq.refl)))
    | (apply W_cD; apply Eq.refl; intro _; rotate_left 1; intro _; rotate_left 1)
    | (apply W_cN; apply Eq.refl; intro _; rotate_left 1; intro _; rotate_left 1))
  refine W_wk (wk_nil 4 4 3 1 (fun i => encI (keepF c i)) rfl) ?_
  refine W_wk (wk_nil 5 5 3 1 (fun i => encI (failF c i)) rfl) ?_
  refine W_loopK [1, 2, 3] [1, 2] (fun k : Nat => [(4, .os 4 (k + 1)), (5, .os 5 (k + 1)), (6, .int .i64 k)]) (fun k => [(3, 1), (4, k + 1), (5, k + 1)])
      (fun k => [(3, .box [.int .i64 0, .int .i64 (maxUp (endF c) k)]), (4, .arr 3 1 k (fun i => encI (keepF c i))), (5, .arr 3 1 k (fun i => encI (failF c i)))])
      (fun k => k ≤ c.trucks.length) (fun k => c.trucks.length - k) 0 (Nat.zero_le _) (by refine ⟨?_, ?_, ?_⟩ <;> repeat' (first | exact trivial | apply And.intro | apply Eq.refl | (apply toI; apply Eq.refl; first | omega | assumption) | (apply toB; apply Eq.refl; repeat' (first | apply Eq.refl | apply consS | (apply consI; first | apply Eq.refl | omega | assumption))))) (fun k h hi => ?_)
  have hk := hi
  have ht : (k : Int) < c.trucks.length → TOk c (c.trucks.getD (k : Int).toNat default) := fun h => hc.t _ (by omega)
  have hmk := maxUp_succ c k
  repeat' (first
    | (apply WL_q; apply Eq.refl; apply Eq.refl; (first | (apply q_mvI <;> apply Eq.refl) | (apply q_asI <;> apply Eq.refl) | (apply q_ldb <;> apply Eq.refl) | (apply q_fab <;> apply Eq.refl) | (apply q_cmp <;> apply Eq.refl) | (apply q_not <;> apply Eq.refl) | (apply q_arith <;> (first | apply Eq.refl | omega)) | (apply q_len <;> apply Eq.refl) | (apply q_ia <;> (first | apply Eq.refl | omega)) | (apply q_ldba <;> apply Eq.refl) | (apply q_ldra <;> apply Eq.refl) | (apply q_max <;> apply Eq.refl) | (apply q_mvS <;> apply Eq.refl) | (apply q_mvO <;> apply Eq.refl) | (apply q_asO <;> apply Eq.refl) | (apply q_asN <;> apply Eq.refl)))
    | apply W_seq
    | apply W_region
    | apply T_normal
    | apply WL_nil
    | apply T_exit
    | apply B_normal
    | apply B_exit_eq
    | apply W_skip
    | apply W_exit
    | apply W_ret
    | apply W_block
    | (apply WL_call; apply Eq.refl; apply Eq.refl; rotate_left 1; apply Eq.refl; rotate_right 1; exact (c110 c (c.trucks.getD (k : Int).toNat default) (ht (by assumption))); apply Eq.refl)
    | (apply WL_call; apply Eq.refl; apply Eq.refl; rotate_left 1; apply Eq.refl; rotate_right 1; exact (c73 (c.trucks.getD (k : Int).toNat default) true); apply Eq.refl)
    | (apply WL_call; apply Eq.refl; apply Eq.refl; rotate_left 1; apply Eq.refl; rotate_right 1; exact (c110 c (freeT (c.trucks.getD (k : Int).toNat default) true) ((ht (by assumption)).free true)); apply Eq.refl)
    | (apply WL_n; apply Eq.refl; (first | (apply n_boxa <;> apply Eq.refl) | (apply n_alloc <;> apply Eq.refl) | (apply n_stb <;> apply Eq.refl)))
    | apply W_regionG
    | (apply WG_nil; kernel_rfl)
    | (apply WG_q; (first | (apply want_none; apply Eq.refl) | (apply want_some; apply Eq.refl; apply Eq.refl; apply Eq.refl)); apply Eq.refl; first | (apply fq_bld <;> apply Eq.refl) | (apply fq_blda <;> apply Eq.refl) | (apply fq_fn; apply Eq.refl) | (apply fq_mf; apply Eq.refl) | (apply FQ_intro; intro _; (first | (apply q_mvI <;> apply Eq.refl) | (apply q_asI <;> apply Eq.refl) | (apply q_ldb <;> apply Eq.refl) | (apply q_fab <;> apply Eq.refl) | (apply q_cmp <;> apply Eq.refl) | (apply q_not <;> apply Eq.refl) | (apply q_arith <;> (first | apply Eq.refl | omega)) | (apply q_len <;> apply Eq.refl) | (apply q_ia <;> (first | apply Eq.refl | omega)) | (apply q_ldba <;> apply Eq.refl) | (apply q_ldra <;> apply Eq.refl) | (apply q_max <;> apply Eq.refl) | (apply q_mvS <;> apply Eq.refl) | (apply q_mvO <;> apply Eq.refl) | (apply q_asO <;> apply Eq.refl) | (apply q_asN <;> apply Eq.refl))))
    | (apply WG_call; (first | (apply want_none; apply Eq.refl) | (apply want_some; apply Eq.refl; apply Eq.refl; apply Eq.refl)); apply Eq.refl; apply Eq.refl; apply Eq.refl; exact (c110 c (c.trucks.getD (k : Int).toNat default) (ht (by assumption))))
    | (apply WG_call; (first | (apply want_none; apply Eq.refl) | (apply want_some; apply Eq.refl; apply Eq.refl; apply Eq.refl)); apply Eq.refl; apply Eq.refl; apply Eq.refl; exact (c73 (c.trucks.getD (k : Int).toNat default) true))
    | (apply WG_call; (first | (apply want_none; apply Eq.refl) | (apply want_some; apply Eq.refl; apply Eq.refl; apply Eq.refl)); apply Eq.refl; apply Eq.refl; apply Eq.refl; exact (c110 c (freeT (c.trucks.getD (k : Int).toNat default) true) ((ht (by assumption)).free true)))
    | (apply WG_n; (first | (apply want_none; apply Eq.refl) | (apply want_some; apply Eq.refl; apply Eq.refl; apply Eq.refl)); (first | (refine f_app (f' := fun i => encI (keepF c i)) rfl rfl rfl rfl rfl rfl rfl rfl rfl rfl rfl rfl rfl rfl rfl (by first | omega | (show (k + 1) * 8 ≤ _; omega)) (by omega) rfl (fun i hi => rfl) (fun i hi => by (obtain rfl : i = 0 := by omega); rfl)) | (refine f_app (f' := fun i => encI (failF c i)) rfl rfl rfl rfl rfl rfl rfl rfl rfl rfl rfl rfl rfl rfl rfl (by first | omega | (show (k + 1) * 8 ≤ _; omega)) (by omega) rfl (fun i hi => rfl) (fun i hi => by (obtain rfl : i = 0 := by omega); rfl)) | (apply f_alloc <;> apply Eq.refl) | (apply f_stb <;> apply Eq.refl) | (apply f_bsl <;> apply Eq.refl)))
    | (apply W_cD; apply Eq.refl; intro _; rotate_left 1; intro _; rotate_left 1)
    | (apply W_cN; apply Eq.refl; intro _; rotate_left 1; intro _; rotate_left 1))
  · refine ⟨k + 1, by omega, by omega, (by refine ⟨?_, ?_, ?_, ?_, ?_⟩ <;> repeat' (first | exact trivial | apply And.intro | apply Eq.refl | (apply toI; apply Eq.refl; first | omega | assumption) | (apply toB; apply Eq.refl; repeat' (first | apply Eq.refl | apply consS | (apply consI; first | apply Eq.refl | omega | assumption)))))⟩
  obtain rfl : k = c.trucks.length := by omega
  refine W_wk (wk_freeze 4 rfl rfl rfl) ?_
  refine W_wk (wk_freeze 5 rfl rfl rfl) ?_
  have hK := mayF_top hc
  obtain ⟨o1, o2, o3⟩ := offLo_spec c (K := 21000) hK 21000 0 (by omega) (by omega)
  refine W_loopK [1, 2, 3, 4, 5] [1, 2, 4, 5] (fun j : Nat => []) (fun j => [(3, 1)])
      (fun j => [(3, .box [.int .i64 j, .int .i64 (maxUp (endF c) c.trucks.length)])])
      (fun j => j ≤ offLo c 21000 0) (fun j => offLo c 21000 0 - j) 0 (Nat.zero_le _) (by refine ⟨?_, ?_, ?_⟩ <;> repeat' (first | exact trivial | apply And.intro | apply Eq.refl | (apply toI; apply Eq.refl; first | omega | assumption) | (apply toB; apply Eq.refl; repeat' (first | apply Eq.refl | apply consS | (apply consI; first | apply Eq.refl | omega | assumption))))) (fun j h hj => ?_)
  have hn' : c.trucks.length ≤ 1000 := by omega
  repeat' (first
    | (apply WL_q; apply Eq.refl; apply Eq.refl; (first | (apply q_mvI <;> apply Eq.refl) | (apply q_asI <;> apply Eq.refl) | (apply q_ldb <;> apply Eq.refl) | (apply q_fab <;> apply Eq.refl) | (apply q_cmp <;> apply Eq.refl) | (apply q_not <;> apply Eq.refl) | (apply q_arith <;> (first | apply Eq.refl | omega)) | (apply q_len <;> apply Eq.refl) | (apply q_ia <;> (first | apply Eq.refl | omega)) | (apply q_ldba <;> apply Eq.refl) | (apply q_ldra <;> apply Eq.refl) | (apply q_max <;> apply Eq.refl) | (apply q_mvS <;> apply Eq.refl) | (apply q_mvO <;> apply Eq.refl) | (apply q_asO <;> apply Eq.refl) | (apply q_asN <;> apply Eq.refl)))
    | apply W_seq
    | apply W_region
    | apply T_normal
    | apply WL_nil
    | apply T_exit
    | apply B_normal
    | apply B_exit_eq
    | apply W_skip
    | apply W_exit
    | apply W_ret
    | apply W_block
    | (apply WL_call; apply Eq.refl; apply Eq.refl; rotate_left 1; apply Eq.refl; rotate_right 1; exact (c118 (keepF c) (failF c) c.trucks.length c.fails j hn'); apply Eq.refl)
    | (apply WL_n; apply Eq.refl; (first | (apply n_boxa <;> apply Eq.refl) | (apply n_alloc <;> apply Eq.refl) | (apply n_stb <;> apply Eq.refl)))
    | apply W_regionG
    | (apply WG_nil; kernel_rfl)
    | (apply WG_q; (first | (apply want_none; apply Eq.refl) | (apply want_some; apply Eq.refl; apply Eq.refl; apply Eq.refl)); apply Eq.refl; first | (apply fq_bld <;> apply Eq.refl) | (apply fq_blda <;> apply Eq.refl) | (apply fq_fn; apply Eq.refl) | (apply fq_mf; apply Eq.refl) | (apply FQ_intro; intro _; (first | (apply q_mvI <;> apply Eq.refl) | (apply q_asI <;> apply Eq.refl) | (apply q_ldb <;> apply Eq.refl) | (apply q_fab <;> apply Eq.refl) | (apply q_cmp <;> apply Eq.refl) | (apply q_not <;> apply Eq.refl) | (apply q_arith <;> (first | apply Eq.refl | omega)) | (apply q_len <;> apply Eq.refl) | (apply q_ia <;> (first | apply Eq.refl | omega)) | (apply q_ldba <;> apply Eq.refl) | (apply q_ldra <;> apply Eq.refl) | (apply q_max <;> apply Eq.refl) | (apply q_mvS <;> apply Eq.refl) | (apply q_mvO <;> apply Eq.refl) | (apply q_asO <;> apply Eq.refl) | (apply q_asN <;> apply Eq.refl))))
    | (apply WG_call; (first | (apply want_none; apply Eq.refl) | (apply want_some; apply Eq.refl; apply Eq.refl; apply Eq.refl)); apply Eq.refl; apply Eq.refl; apply Eq.refl; exact (c118 (keepF c) (failF c) c.trucks.length c.fails j hn'))
    | (apply WG_n; (first | (apply want_none; apply Eq.refl) | (apply want_some; apply Eq.refl; apply Eq.refl; apply Eq.refl)); (first | (apply f_alloc <;> apply Eq.refl) | (apply f_stb <;> apply Eq.refl) | (apply f_bsl <;> apply Eq.refl)))
    | (apply W_cD; apply Eq.refl; intro _; rotate_left 1; intro _; rotate_left 1)
    | (apply W_cN; apply Eq.refl; intro _; rotate_left 1; intro _; rotate_left 1))
  · have : ¬ j = offLo c 21000 0 := fun e => by rw [← e] at o2; simp_all
    refine ⟨j + 1, by omega, by omega, (by refine ⟨?_, ?_, ?_, ?_, ?_⟩ <;> repeat' (first | exact trivial | apply And.intro | apply Eq.refl | (apply toI; apply Eq.refl; first | omega | assumption) | (apply toB; apply Eq.refl; repeat' (first | apply Eq.refl | apply consS | (apply consI; first | apply Eq.refl | omega | assumption)))))⟩
  · have : ¬ j < offLo c 21000 0 := fun e => by have := o1 j (by omega) e; simp_all
    obtain rfl : j = offLo c 21000 0 := by omega
    refine fin_A rfl rfl rfl rfl rfl rfl rfl rfl ?_; rfl
end Go.Proofs.YtafnhieaeejlcaaDoor

