/- Walks through the functions that the laws of the convoys reach: what each of them gives for what it gets (contracts), written out by a program of ours; without a condition but those that stand in each theorem. -/
import Derived.Test.YtafnhieaeejlcaaDoorCt16
import Derived.Test.YtafnhieaeejlcaaDoorAb20
set_option linter.all false
namespace Go.Proofs.YtafnhieaeejlcaaDoor
open Go Go.Ab
set_option maxRecDepth 100000
set_option maxHeartbeats 4000000
attribute [local irreducible] W WL QOp NOp thenQ blockQ FinQ FinR WG FQ Want FinW WI WIL thenI blockI
theorem c41 (a b : Int) : Contract seat 41 [.int .i64 a, .int .i64 b] (.agg (encSpan ⟨a, b⟩)) := by
  refine contract_introW (fn := Tryd.f41) Tryd.func41 rfl (by kernel_rfl) rfl ?_ ?_ ?_
  · exact PureL.cons (.int _ _) (PureL.cons (.int _ _) PureL.nil)
  · exact .agg _ (pure_span _)
  intro w κ
  repeat' (first
    | (apply WL_q; apply Eq.refl; apply Eq.refl; (first | (apply q_mvI <;> apply Eq.refl) | (apply q_bld <;> apply Eq.refl)))
    | apply W_seq
    | apply W_region
    | apply T_normal
    | apply WL_nil
    | apply W_ret
    | (apply WL_n; apply Eq.refl; (first | (apply n_alloc <;> apply Eq.refl) | (apply n_stb <;> apply Eq.refl))))
  ((try apply fin_now); first | (apply fin_A; apply Eq.refl; apply Eq.refl; apply Eq.refl; apply Eq.refl; apply Eq.refl; apply Eq.refl; apply Eq.refl; apply Eq.refl; try apply Eq.refl))
def twoE : Nat → List D := nthD [[.int .i64 1, .int .i64 0, .int .i64 50, .int .i64 100, .nil], [.int .i64 2, .int .i64 0, .int .i64 50, .int .i64 100, .nil]]
theorem o106 : ContractO seat 106 [] (.agg [.int .i64 1000, .int .i64 200, .int .i64 0, .os 0 1]) 50 5 2 twoE := by
  refine contractO_intro (fn := Tryd.f106) Tryd.func106 rfl (by kernel_rfl) rfl PureL.nil ?_ ?_ ?_
  · exact .agg _ (.cons _ _ (.pure _ (.int _ _)) (.cons _ _ (.pure _ (.int _ _)) (.cons _ _ (.pure _ (.int _ _)) (.cons _ _ (.os _ _) .nil))))
  · intro i hi
    obtain rfl | rfl : i = 0 ∨ i = 1 := by omega
    all_goals exact PureL.cons (.int _ _) (PureL.cons (.int _ _) (PureL.cons (.int _ _) (PureL.cons (.int _ _) (PureL.cons .nil PureL.nil))))
  intro w κ
  repeat' (first
    | (apply WL_q; apply Eq.refl; apply Eq.refl; (first | (apply q_bld <;> apply Eq.refl)))
    | apply W_seq
    | apply W_region
    | apply T_normal
    | apply WL_nil
    | apply W_ret
    | (apply WL_call; apply Eq.refl; apply Eq.refl; rotate_left 1; apply Eq.refl; rotate_right 1; exact (c41 50 100); apply Eq.refl)
    | (apply WL_n; apply Eq.refl; (first | (refine n_bslo rfl rfl rfl rfl rfl rfl rfl rfl rfl rfl rfl rfl rfl rfl rfl) | (apply n_alloc <;> apply Eq.refl) | (apply n_stb <;> apply Eq.refl))))
  refine ⟨5, 1, rfl, rfl, [.agg [.int .i64 1000, .int .i64 200, .int .i64 0, .os 5 1]], ?_, rfl⟩
  show ResL _ _ [ResultVar.cell 0 24] [_]
  exact ⟨rv_A rfl rfl rfl rfl rfl rfl rfl, trivial⟩
def heldC : Convoy := ⟨1000, 200, 0, [⟨1, 0, 50, 100, [⟨300, 20⟩]⟩, ⟨2, 0, 50, 100, []⟩]⟩
def failC : Convoy := ⟨1000, 200, 1, [⟨1, 0, 50, 100, [⟨300, 20⟩]⟩, ⟨2, 0, 50, 100, []⟩]⟩
theorem c63 : Contract seat 63 [] (.agg (encConvoy heldC)) := by
  refine contract_introW (fn := Tryd.f63) Tryd.func63 rfl (by kernel_rfl) rfl PureL.nil (.agg _ (pure_convoy _)) ?_
  intro w κ
  repeat' (first
    | (apply WL_callo 50; apply Eq.refl; apply Eq.refl; exact o106; apply Eq.refl; apply Eq.refl; apply Eq.refl)
    | (apply WL_q; apply Eq.refl; apply Eq.refl; (first | (apply q_ldb <;> apply Eq.refl) | (apply q_fab <;> apply Eq.refl) | (apply q_ldba <;> apply Eq.refl) | (apply q_bld <;> apply Eq.refl) | (apply q_fao <;> apply Eq.refl) | (apply q_iao <;> (first | apply Eq.refl | omega))))
    | apply W_seq
    | apply W_region
    | apply T_normal
    | apply WL_nil
    | apply W_ret
    | (apply WL_n; apply Eq.refl; (first | (refine n_wk (n_bsl rfl rfl rfl rfl rfl rfl rfl rfl rfl rfl rfl rfl rfl rfl rfl) (wk_slf 6 (fun i => encHold ([(⟨300, 20⟩ : Hold)].getD i default)) rfl (fun i hi => by (obtain rfl : i = 0 := by omega); rfl))) | (apply n_alloc <;> apply Eq.refl) | (apply n_stb <;> apply Eq.refl) | (apply n_bsl <;> apply Eq.refl) | (apply n_sto <;> (first | apply Eq.refl | omega)))))
  refine fin_wk (wk_arrN 50 (fun i => encTruck (heldC.trucks.getD i default)) rfl (fun i hi => ?_)) (fin_wk (wk_freeze_cell 0 3 (s := 50) rfl rfl rfl rfl rfl) (fin_now ?_))
  · obtain rfl | rfl : i = 0 ∨ i = 1 := by omega
    · exact ⟨.inl rfl, .inl rfl, .inl rfl, .inl rfl, .inl rfl, trivial⟩
    · exact ⟨.inl rfl, .inl rfl, .inl rfl, .inl rfl, .inr ⟨rfl, _, _, rfl⟩, trivial⟩
  · ((try apply fin_now); first | (apply fin_A; apply Eq.refl; apply Eq.refl; apply Eq.refl; apply Eq.refl; apply Eq.refl; apply Eq.refl; apply Eq.refl; apply Eq.refl; try apply Eq.refl))
theorem c62 : Contract seat 62 [] (.agg (encConvoy failC)) := by
  refine contract_introW (fn := Tryd.f62) Tryd.func62 rfl (by kernel_rfl) rfl PureL.nil (.agg _ (pure_convoy _)) ?_
  intro w κ
  repeat' (first
    | (apply WL_q; apply Eq.refl; apply Eq.refl; (first | (apply q_fab <;> apply Eq.refl) | (apply q_ldba <;> apply Eq.refl)))
    | apply W_seq
    | apply W_region
    | apply T_normal
    | apply WL_nil
    | apply W_ret
    | (apply WL_call; apply Eq.refl; apply Eq.refl; rotate_left 1; apply Eq.refl; rotate_right 1; exact (c63); apply Eq.refl)
    | (apply WL_n; apply Eq.refl; (first | (apply n_alloc <;> apply Eq.refl) | (apply n_stb <;> apply Eq.refl))))
  ((try apply fin_now); first | (apply fin_A; apply Eq.refl; apply Eq.refl; apply Eq.refl; apply Eq.refl; apply Eq.refl; apply Eq.refl; apply Eq.refl; apply Eq.refl; try apply Eq.refl))
theorem chk_held : chkConvoy heldC = 0 := by kernel_rfl
theorem chk_fail : chkConvoy failC = 0 := by kernel_rfl
theorem meet_held : meetingP heldC = none := by kernel_rfl
theorem meet_fail : meetingP failC = some ⟨5, 0, 1, true, false, 301, 500⟩ := by kernel_rfl
theorem off_held : offP heldC = ⟨27, 34⟩ := by kernel_rfl
theorem k27f : Contract seat 27 [.agg (encConvoy failC)] (.tup [.agg (encMeeting ⟨5, 0, 1, true, false, 301, 500⟩), .int .i64 0]) := by
  have h := c27 failC
  rw [meet_fail, chk_fail] at h
  exact h
theorem k27h : Contract seat 27 [.agg (encConvoy heldC)] (.tup [.agg (encMeeting default), .int .i64 7]) := by
  have h := c27 heldC
  rw [meet_held, chk_held] at h
  exact h
theorem k36h : Contract seat 36 [.agg (encConvoy heldC)] (.tup [.agg (encSpan ⟨27, 34⟩), .int .i64 0]) := by
  have h := c36 heldC
  rw [off_held, chk_held] at h
  exact h
theorem c19 : Contract seat 19 [] (.bool true) := by
  refine contract_introW (fn := Tryd.f19) Tryd.func19 rfl (by kernel_rfl) rfl PureL.nil (.bool _) ?_
  intro w κ
  repeat' (first
    | (apply WL_q; apply Eq.refl; apply Eq.refl; (first | (apply q_mvI <;> apply Eq.refl) | (apply q_asI <;> apply Eq.refl) | (apply q_cmp <;> apply Eq.refl) | (apply q_mvB <;> apply Eq.refl) | (apply q_asB <;> apply Eq.refl) | (apply q_ext <;> apply Eq.refl) | (apply q_pkT <;> apply Eq.refl) | (apply q_ldba <;> apply Eq.refl) | (apply q_mvT <;> apply Eq.refl) | (apply q_eqA; apply Eq.refl; apply Eq.refl; apply Eq.refl; apply Eq.refl; kernel_rfl)))
    | apply W_seq
    | apply W_region
    | apply T_normal
    | apply WL_nil
    | apply W_ret
    | (apply WL_call; apply Eq.refl; apply Eq.refl; rotate_left 1; apply Eq.refl; rotate_right 1; exact (c62); apply Eq.refl)
    | (apply WL_call; apply Eq.refl; apply Eq.refl; rotate_left 1; apply Eq.refl; rotate_right 1; exact (k27f); apply Eq.refl)
    | (apply WL_call; apply Eq.refl; apply Eq.refl; rotate_left 1; apply Eq.refl; rotate_right 1; exact (c63); apply Eq.refl)
    | (apply WL_call; apply Eq.refl; apply Eq.refl; rotate_left 1; apply Eq.refl; rotate_right 1; exact (k27h); apply Eq.refl)
    | (apply WL_call; apply Eq.refl; apply Eq.refl; rotate_left 1; apply Eq.refl; rotate_right 1; exact (k36h); apply Eq.refl)
    | (apply WL_call; apply Eq.refl; apply Eq.refl; rotate_left 1; apply Eq.refl; rotate_right 1; exact (c41 27 34); apply Eq.refl)
    | (apply WL_n; apply Eq.refl; (first | (apply n_alloc <;> apply Eq.refl) | (apply n_stb <;> apply Eq.refl)))
    | apply W_regionG
    | (apply WG_nil; kernel_rfl)
    | (apply WG_q; (first | (apply want_none; apply Eq.refl) | (apply want_some; apply Eq.refl; apply Eq.refl; apply Eq.refl)); apply Eq.refl; first | (apply fq_bld <;> apply Eq.refl) | (apply fq_blda <;> apply Eq.refl) | (apply fq_fn; apply Eq.refl) | (apply fq_mf; apply Eq.refl) | (apply FQ_intro; intro _; (first | (apply q_mvI <;> apply Eq.refl) | (apply q_asI <;> apply Eq.refl) | (apply q_cmp <;> apply Eq.refl) | (apply q_mvB <;> apply Eq.refl) | (apply q_asB <;> apply Eq.refl) | (apply q_ext <;> apply Eq.refl) | (apply q_pkT <;> apply Eq.refl) | (apply q_ldba <;> apply Eq.refl) | (apply q_mvT <;> apply Eq.refl) | (apply q_eqA; apply Eq.refl; apply Eq.refl; apply Eq.refl; apply Eq.refl; kernel_rfl))))
    | (apply WG_call; (first | (apply want_none; apply Eq.refl) | (apply want_some; apply Eq.refl; apply Eq.refl; apply Eq.refl)); apply Eq.refl; apply Eq.refl; apply Eq.refl; exact (c62))
    | (apply WG_call; (first | (apply want_none; apply Eq.refl) | (apply want_some; apply Eq.refl; apply Eq.refl; apply Eq.refl)); apply Eq.refl; apply Eq.refl; apply Eq.refl; exact (k27f))
    | (apply WG_call; (first | (apply want_none; apply Eq.refl) | (apply want_some; apply Eq.refl; apply Eq.refl; apply Eq.refl)); apply Eq.refl; apply Eq.refl; apply Eq.refl; exact (c63))
    | (apply WG_call; (first | (apply want_none; apply Eq.refl) | (apply want_some; apply Eq.refl; apply Eq.refl; apply Eq.refl)); apply Eq.refl; apply Eq.refl; apply Eq.refl; exact (k27h))
    | (apply WG_call; (first | (apply want_none; apply Eq.refl) | (apply want_some; apply Eq.refl; apply Eq.refl; apply Eq.refl)); apply Eq.refl; apply Eq.refl; apply Eq.refl; exact (k36h))
    | (apply WG_call; (first | (apply want_none; apply Eq.refl) | (apply want_some; apply Eq.refl; apply Eq.refl; apply Eq.refl)); apply Eq.refl; apply Eq.refl; apply Eq.refl; exact (c41 27 34)))
  ((try apply fin_now); first | (apply fin_B; apply Eq.refl; apply Eq.refl; try apply Eq.refl))
end Go.Proofs.YtafnhieaeejlcaaDoor

