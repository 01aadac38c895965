/- Walks through the functions that the laws of the convoys reach: what each of them gives for what it gets (contracts), written out by a program of ours; without a condition but those that stand in each theorem. -/
import Derived.Test.YtafnhieaeejlcaaDoorCt2
set_option linter.all false
namespace Go.Proofs.YtafnhieaeejlcaaDoor
open Go Go.Ab
set_option maxRecDepth 100000
set_option maxHeartbeats 4000000
attribute [local irreducible] W WL QOp NOp thenQ blockQ FinQ FinR WG FQ Want FinW WI WIL thenI blockI
/-- Each hold lies on the way. -/
def HOk (len : Int) (hs : List Hold) : Prop := hs.length ≤ 8 ∧ ∀ k, k < hs.length → 1 ≤ (hs.getD k default).a ∧ (hs.getD k default).a ≤ len - 1 ∧ 0 ≤ (hs.getD k default).u ∧ (hs.getD k default).u ≤ 10000
def stopR (way len : Int) (gone m : Int) : List Hold → Int
  | [] => len
  | h :: hs => if alongI way len h.a ≥ gone ∧ h.u > m then alongI way len h.a else stopR way len gone m hs
theorem stopR_end {way len gone m : Int} {hs : List Hold} {k : Nat} (hi : stopR way len gone m (hs.drop k) = stopR way len gone m hs) (h : ¬ k < hs.length) : len = stopR way len gone m hs := by
  rw [← hi, List.drop_eq_nil_of_le (by omega)]; rfl
theorem stopR_hit {way len gone m : Int} {hs : List Hold} {k : Nat} (hi : stopR way len gone m (hs.drop k) = stopR way len gone m hs) (h : k < hs.length) (h1 : alongI way len (hs.getD k default).a ≥ gone) (h2 : (hs.getD k default).u > m) :
    alongI way len (hs.getD k default).a = stopR way len gone m hs := by
  rw [← hi, drop_getD _ _ h, stopR, if_pos ⟨h1, h2⟩]
theorem stopR_next {way len gone m : Int} {hs : List Hold} {k : Nat} (hi : stopR way len gone m (hs.drop k) = stopR way len gone m hs) (h : k < hs.length) (h1 : ¬ (alongI way len (hs.getD k default).a ≥ gone ∧ (hs.getD k default).u > m)) :
    stopR way len gone m (hs.drop (k + 1)) = stopR way len gone m hs := by
  rw [← hi, drop_getD _ _ h, stopR, if_neg h1]

theorem c122 (c : Convoy) (t : Truck) (gone m : Int) (hl : 1 ≤ c.len) (hl2 : c.len ≤ 100000) (ho : HOk c.len t.holds) : Contract seat 122 [.agg (encConvoy c), .agg (encTruck t), .int .i64 gone, .int .i64 m] (.int .i64 (stopR t.way c.len gone m t.holds)) := by
  refine contract_intro (fn := Tryd.f122) Tryd.func122 rfl (by kernel_rfl) rfl ?_ ?_ ?_
  · exact PureL.cons (.agg _ (pure_convoy c)) (PureL.cons (.agg _ (pure_truck t)) (PureL.cons (.int _ _) (PureL.cons (.int _ _) PureL.nil)))
  · exact .int _ _
  intro w κ
  repeat' (first
    | (apply WL_q; apply Eq.refl; apply Eq.refl; (first | (apply q_mvI <;> apply Eq.refl) | (apply q_asI <;> apply Eq.refl) | (apply q_ldb <;> apply Eq.refl) | (apply q_fab <;> apply Eq.refl) | (apply q_cmp <;> apply Eq.refl) | (apply q_mvB <;> apply Eq.refl) | (apply q_ldr <;> apply Eq.refl) | (apply q_far <;> apply Eq.refl) | (apply q_arith <;> (first | apply Eq.refl | omega)) | (apply q_len <;> apply Eq.refl) | (apply q_pkT <;> apply Eq.refl) | (apply q_pkF <;> apply Eq.refl) | (apply q_ia <;> (first | apply Eq.refl | omega)) | (apply q_ldba <;> apply Eq.refl) | (apply q_ldra <;> apply Eq.refl)))
    | apply W_seq
    | apply W_region
    | apply T_normal
    | apply WL_nil
    | apply T_exit
    | apply T_ret
    | apply B_normal
    | apply B_ret
    | apply B_exit_eq
    | apply W_skip
    | apply W_exit
    | apply W_ret
    | apply W_block
    | (apply W_condF; apply Eq.refl)
    | (apply WL_n; apply Eq.refl; (first | (apply n_boxa <;> apply Eq.refl)))
    | apply W_regionG
    | (apply WG_nil; kernel_rfl)
    | (apply WG_q; (first | (apply want_none; apply Eq.refl) | (apply want_some; apply Eq.refl; apply Eq.refl; apply Eq.refl)); apply Eq.refl; first | (apply fq_bld <;> apply Eq.refl) | (apply fq_blda <;> apply Eq.refl) | (apply fq_fn; apply Eq.refl) | (apply fq_mf; apply Eq.refl) | (apply FQ_intro; intro _; (first | (apply q_mvI <;> apply Eq.refl) | (apply q_asI <;> apply Eq.refl) | (apply q_ldb <;> apply Eq.refl) | (apply q_fab <;> apply Eq.refl) | (apply q_cmp <;> apply Eq.refl) | (apply q_mvB <;> apply Eq.refl) | (apply q_ldr <;> apply Eq.refl) | (apply q_far <;> apply Eq.refl) | (apply q_arith <;> (first | apply Eq.refl | omega)) | (apply q_len <;> apply Eq.refl) | (apply q_pkT <;> apply Eq.refl) | (apply q_pkF <;> apply Eq.refl) | (apply q_ia <;> (first | apply Eq.refl | omega)) | (apply q_ldba <;> apply Eq.refl) | (apply q_ldra <;> apply Eq.refl))))
    | (apply WG_no; apply Eq.refl; apply Eq.refl; apply Eq.refl; apply Eq.refl; apply Eq.refl)
    | (apply G_tD; apply Eq.refl; apply Eq.refl; apply Eq.refl; intro _; rotate_left 1; intro _; rotate_left 1)
    | (apply W_cD; apply Eq.refl; intro _; rotate_left 1; intro _; rotate_left 1))
  refine W_loopM (α := Nat) (fun k => [(2, .int .i64 gone), (3, .int .i64 m), (4, .bx 4 1 0), (5, .bx 5 1 0), (9, .int .i64 k)]) (fun _ => [(4, 1), (5, 1)])
      (fun _ => [(4, .box (encConvoy c)), (5, .box (encTruck t))]) (fun k => k ≤ t.holds.length ∧ stopR t.way c.len gone m (t.holds.drop k) = stopR t.way c.len gone m t.holds) (fun k => t.holds.length - k) 0 ⟨Nat.zero_le _, rfl⟩ (by refine ⟨?_, ?_, ?_⟩ <;> repeat' (first | exact trivial | apply And.intro | apply Eq.refl)) (fun k h hi => ?_)
  have hk := hi.1
  have hl8 := ho.1
  have hb : ∀ hk' : (k : Int) < t.holds.length, 1 ≤ (t.holds.getD (k : Int).toNat default).a ∧ (t.holds.getD (k : Int).toNat default).a ≤ c.len - 1 := fun h => by
    have := ho.2 k (by omega); simp only [Int.toNat_natCast]; omega
  repeat' (first
    | (apply WL_q; apply Eq.refl; apply Eq.refl; (first | (apply q_mvI <;> apply Eq.refl) | (apply q_asI <;> apply Eq.refl) | (apply q_ldb <;> apply Eq.refl) | (apply q_fab <;> apply Eq.refl) | (apply q_cmp <;> apply Eq.refl) | (apply q_mvB <;> apply Eq.refl) | (apply q_ldr <;> apply Eq.refl) | (apply q_far <;> apply Eq.refl) | (apply q_arith <;> (first | apply Eq.refl | omega)) | (apply q_len <;> apply Eq.refl) | (apply q_pkT <;> apply Eq.refl) | (apply q_pkF <;> apply Eq.refl) | (apply q_ia <;> (first | apply Eq.refl | omega)) | (apply q_ldba <;> apply Eq.refl) | (apply q_ldra <;> apply Eq.refl)))
    | apply W_seq
    | apply W_region
    | apply T_normal
    | apply WL_nil
    | apply T_exit
    | apply T_ret
    | apply B_normal
    | apply B_ret
    | apply B_exit_eq
    | apply W_skip
    | apply W_exit
    | apply W_ret
    | apply W_block
    | (apply W_condF; apply Eq.refl)
    | (apply WL_n; apply Eq.refl; (first | (apply n_boxa <;> apply Eq.refl)))
    | apply W_regionG
    | (apply WG_nil; kernel_rfl)
    | (apply WG_q; (first | (apply want_none; apply Eq.refl) | (apply want_some; apply Eq.refl; apply Eq.refl; apply Eq.refl)); apply Eq.refl; first | (apply fq_bld <;> apply Eq.refl) | (apply fq_blda <;> apply Eq.refl) | (apply fq_fn; apply Eq.refl) | (apply fq_mf; apply Eq.refl) | (apply FQ_intro; intro _; (first | (apply q_mvI <;> apply Eq.refl) | (apply q_asI <;> apply Eq.refl) | (apply q_ldb <;> apply Eq.refl) | (apply q_fab <;> apply Eq.refl) | (apply q_cmp <;> apply Eq.refl) | (apply q_mvB <;> apply Eq.refl) | (apply q_ldr <;> apply Eq.refl) | (apply q_far <;> apply Eq.refl) | (apply q_arith <;> (first | apply Eq.refl | omega)) | (apply q_len <;> apply Eq.refl) | (apply q_pkT <;> apply Eq.refl) | (apply q_pkF <;> apply Eq.refl) | (apply q_ia <;> (first | apply Eq.refl | omega)) | (apply q_ldba <;> apply Eq.refl) | (apply q_ldra <;> apply Eq.refl))))
    | (apply WG_call; (first | (apply want_none; apply Eq.refl) | (apply want_some; apply Eq.refl; apply Eq.refl; apply Eq.refl)); apply Eq.refl; apply Eq.refl; apply Eq.refl; exact (c108 c t (t.holds.getD (k : Int).toNat default) (by have := hb (by assumption); omega) (by have := hb (by assumption); omega) (by omega) (by omega)))
    | (apply WG_no; apply Eq.refl; apply Eq.refl; apply Eq.refl; apply Eq.refl; apply Eq.refl)
    | (apply G_tD; apply Eq.refl; apply Eq.refl; apply Eq.refl; intro _; rotate_left 1; intro _; rotate_left 1)
    | (apply W_cD; apply Eq.refl; intro _; rotate_left 1; intro _; rotate_left 1))
  all_goals try simp only [Int.toNat_natCast] at *
  all_goals first
    | (refine fin_I rfl rfl (stopR_hit hi.2 (by omega) (by assumption) (by assumption)); done)
    | (refine fin_I rfl rfl (stopR_end hi.2 (by omega)); done)
    | (refine ⟨k + 1, ⟨by omega, stopR_next hi.2 (by omega) (by omega)⟩, by omega, (by refine ⟨?_, ?_, ?_⟩ <;> repeat' (first | exact trivial | apply And.intro | apply Eq.refl))⟩; done)
    | skip

def nextR (t : Truck) (len gone m pace : Int) : Int := min (gone + pace) (stopR t.way len gone m t.holds)
theorem c111 (c : Convoy) (t : Truck) (gone m pace : Int) (hl : 1 ≤ c.len) (hl2 : c.len ≤ 100000) (ho : HOk c.len t.holds) (h0 : 0 ≤ gone) (h1 : gone ≤ 100000) (h2 : 0 ≤ pace) (h3 : pace ≤ 100000) :
    Contract seat 111 [.agg (encConvoy c), .agg (encTruck t), .int .i64 gone, .int .i64 m, .int .i64 pace] (.int .i64 (nextR t c.len gone m pace)) := by
  refine contract_intro (fn := Tryd.f111) Tryd.func111 rfl (by kernel_rfl) rfl ?_ ?_ ?_
  · exact PureL.cons (.agg _ (pure_convoy c)) (PureL.cons (.agg _ (pure_truck t)) (PureL.cons (.int _ _) (PureL.cons (.int _ _) (PureL.cons (.int _ _) PureL.nil))))
  · exact .int _ _
  intro w κ
  repeat' (first
    | (apply WL_q; apply Eq.refl; apply Eq.refl; (first | (apply q_mvI <;> apply Eq.refl) | (apply q_asI <;> apply Eq.refl) | (apply q_arith <;> (first | apply Eq.refl | omega)) | (apply q_ldba <;> apply Eq.refl) | (apply q_min <;> apply Eq.refl)))
    | apply W_seq
    | apply W_region
    | apply T_normal
    | apply WL_nil
    | apply W_ret
    | (apply WL_call; apply Eq.refl; apply Eq.refl; rotate_left 1; apply Eq.refl; rotate_right 1; exact (c122 c t gone m hl hl2 ho); apply Eq.refl)
    | (apply WL_n; apply Eq.refl; (first | (apply n_boxa <;> apply Eq.refl))))
  all_goals (refine fin_I rfl rfl ?_; rfl)

def freeT (t : Truck) (b : Bool) : Truck := if b then { t with holds := [] } else t
theorem c73 (t : Truck) (b : Bool) : Contract seat 73 [.agg (encTruck t), .bool b] (.agg (encTruck (freeT t b))) := by
  refine contract_intro (fn := Tryd.f73) Tryd.func73 rfl (by kernel_rfl) rfl ?_ ?_ ?_
  · exact PureL.cons (.agg _ (pure_truck t)) (PureL.cons (.bool _) PureL.nil)
  · exact .agg _ (pure_truck _)
  intro w κ
  cases b
  · repeat' (first
    | (apply WL_q; apply Eq.refl; apply Eq.refl; (first | (apply q_fab <;> apply Eq.refl) | (apply q_mvB <;> apply Eq.refl) | (apply q_ldba <;> apply Eq.refl)))
    | apply W_seq
    | apply W_region
    | apply T_normal
    | apply WL_nil
    | apply W_skip
    | apply W_ret
    | (apply W_condT; apply Eq.refl)
    | (apply W_condF; apply Eq.refl)
    | (apply WL_n; apply Eq.refl; (first | (apply n_boxa <;> apply Eq.refl) | (apply n_alloc <;> apply Eq.refl) | (apply n_stb <;> apply Eq.refl))))
    all_goals (refine fin_A rfl rfl rfl rfl rfl rfl rfl rfl ?_; rfl)
  · repeat' (first
    | (refine W_wk (wk_nilbox 2 (l' := encTruck { t with holds := [] }) rfl ⟨.inl rfl, .inl rfl, .inl rfl, .inl rfl, .inr ⟨rfl, _, _, rfl⟩, trivial⟩) ?_)
    | (apply WL_q; apply Eq.refl; apply Eq.refl; (first | (apply q_fab <;> apply Eq.refl) | (apply q_mvB <;> apply Eq.refl) | (apply q_ldba <;> apply Eq.refl)))
    | apply W_seq
    | apply W_region
    | apply T_normal
    | apply WL_nil
    | apply W_skip
    | apply W_ret
    | (apply W_condT; apply Eq.refl)
    | (apply W_condF; apply Eq.refl)
    | (apply WL_n; apply Eq.refl; (first | (apply n_boxa <;> apply Eq.refl) | (apply n_alloc <;> apply Eq.refl) | (apply n_stb <;> apply Eq.refl))))
    all_goals (refine fin_A rfl rfl rfl rfl rfl rfl rfl rfl ?_; rfl)
end Go.Proofs.YtafnhieaeejlcaaDoor

