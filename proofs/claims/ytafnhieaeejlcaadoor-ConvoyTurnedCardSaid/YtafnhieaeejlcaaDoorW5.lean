/- Walks by computing: what each function of the program that the laws reach gives for what it gets, as plain Lean, and that it is so; without a condition but those that stand in each theorem. -/
import Derived.Test.YtafnhieaeejlcaaDoorW1
import Derived.Test.YtafnhieaeejlcaaDoorW2
import Derived.Test.YtafnhieaeejlcaaDoorW3
import Derived.Test.YtafnhieaeejlcaaDoorW4
set_option linter.all false
namespace Go.Proofs.YtafnhieaeejlcaaDoor
open Go Go.Ab
set_option maxRecDepth 100000
set_option maxHeartbeats 4000000
attribute [local irreducible] W WL QOp NOp thenQ blockQ FinQ WG FQ Want FinW WI WIL thenI blockI
def trC (t : Truck) (p g : Nat) : List D := [.int .i64 t.way, .int .i64 t.start, .int .i64 t.lo, .int .i64 t.hi, .os p g]
def osO (c : Convoy) : Nat → OwA
  | 0 => ⟨50, 5, c.trucks.length, fun i => trC (c.trucks.getD i default) (i + 1) 1⟩
  | i + 1 => ⟨89, 2, (c.trucks.getD i default).holds.length, fun j => encHold ((c.trucks.getD i default).holds.getD j default)⟩
def resO (c : Convoy) : D := .agg [.int .i64 c.len, .int .i64 c.gap, .int .i64 c.fails, .os 0 1]
def fK (c : Convoy) (h : Nat → Nat) (k : Nat) : Nat → List D := fun i => if i < k then trC (c.trucks.getD i default) (FB + i) (h (FB + i)) else encTruck (c.trucks.getD i default)
def bgK (c : Convoy) (k : Nat) : Nat → Ab.Own := fun s => if s - FB < k then .arr 89 2 (0 + (c.trucks.getD (s - FB) default).holds.length) (fun j => encHold ((c.trucks.getD (s - FB) default).holds.getD j default)) else .none
def rsK (k : Nat) (h : Nat → Nat) : List (Nat × D) := [(1, .bx 1 (h 1) 0), (2, .bx 2 (h 2) 0), (3, .int .i64 k)]
def osK (c : Convoy) (k : Nat) (h : Nat → Nat) : List (Nat × Ab.Own) := [(1, .box [.int .i64 c.len, .int .i64 c.gap, .int .i64 c.fails, .os 4 (h 4)]), (2, .box [.int .i64 0, .int .i64 0, .int .i64 0, .nil]), (4, .arr 50 5 (0 + c.trucks.length) (fK c h k))]
theorem upd_big {α : Type} {f : Nat → α} {i s : Nat} {v : α} (hi : i < FB) (hs : FB ≤ s) : upd f i v s = f s := upd_ne _ _ _ _ (by omega)
theorem upd_fam {α : Type} {f : Nat → α} {i s : Nat} {v : α} (hs : s < FB) : upd f (FB + i) v s = f s := upd_ne _ _ _ _ (by omega)
theorem mkF_big {rs : List (Nat × D)} {os : List (Nat × Ab.Own)} {h : Nat → Nat} {bg : Nat → Ab.Own} {s : Nat} (hs : FB ≤ s) : (mkF rs os h bg).σ s = bg s := by
  show (bif Nat.ble FB s then bg s else Ab.look Ab.Own.none os s) = bg s
  rw [Nat.ble_eq_true_of_le hs]; rfl
def plO : Nat → Nat
  | 0 => 4
  | i + 1 => FB + i
theorem plO_inj : ∀ i j, plO i = plO j → i = j
  | 0, 0, _ => rfl
  | 0, j + 1, e => by have e : 4 = 50000000 + j := e; omega
  | i + 1, 0, e => by have e : 50000000 + i = 4 := e; omega
  | i + 1, j + 1, e => by have e : 50000000 + i = 50000000 + j := e; omega
theorem own_end {X : Ctx} {S : St} {c : Convoy} {h : Nat → Nat} {k : Nat} (hk : k < c.trucks.length) (r1 : S.ρ 1 = .bx 1 (S.γ 1) 0) (r2 : S.ρ 2 = .bx 2 (S.γ 2) 0) (r3 : S.ρ 3 = .int .i64 ((k : Int) + 1)) (hγ : ∀ s, FB ≤ s → S.γ s = h s)
    (s1 : S.σ 1 = .box [.int .i64 c.len, .int .i64 c.gap, .int .i64 c.fails, .os 4 (S.γ 4)]) (s2 : S.σ 2 = .box [.int .i64 0, .int .i64 0, .int .i64 0, .nil]) (s4 : S.σ 4 = .arr 50 5 (0 + c.trucks.length) (updF (fK c h k) k (trC (c.trucks.getD k default) 19 (S.γ 19))))
    (s19 : S.σ 19 = .arr 89 2 (0 + (c.trucks.getD k default).holds.length) (fun j => encHold ((c.trucks.getD k default).holds.getD j default))) (hF : ∀ s, FB ≤ s → S.σ s = bgK c k s) (hx : ∀ s, X.xa s = false) :
    ∃ S'', Wk X S S'' ∧ MatchF S'' (rsK (k + 1) S''.γ) (osK c (k + 1) S''.γ) (bgK c (k + 1)) := by
  have hw := wk_mv_elem (X := X) (S := S) 4 k 4 (FB + k) (s := 19) (g := S.γ 19) (f2' := fK c (upd S.γ (FB + k) (S.γ (FB + k) + 1)) (k + 1)) (l' := trC (c.trucks.getD k default) (FB + k) (S.γ (FB + k) + 1)) s4 (by decide) (by show 4 ≠ 50000000 + k; omega) (by show 19 ≠ 50000000 + k; omega) (by omega) (updF_same _ _ _) rfl rfl s19 rfl (fun i hi => by
    by_cases e : i = k
    · subst e
      rw [if_pos rfl]
      unfold fK
      rw [if_pos (by omega), upd_same]
    · rw [if_neg e, updF_ne _ _ e]
      unfold fK
      by_cases e2 : i < k
      · rw [if_pos e2, if_pos (by omega), upd_ne _ _ _ _ (by omega), hγ _ (Nat.le_add_right _ _)]
      · rw [if_neg e2, if_neg (by omega)]) (hx _) (hx _)
  have hg : ∀ s, s < FB → upd S.γ (FB + k) (S.γ (FB + k) + 1) s = S.γ s := fun s hs => upd_fam hs
  have hs3 : ∀ s, s < FB → s ≠ 4 → s ≠ 19 → upd (upd (upd S.σ (FB + k) (.arr 89 2 (0 + (c.trucks.getD k default).holds.length) (fun j => encHold ((c.trucks.getD k default).holds.getD j default)))) 19 .none) 4 (.arr 50 5 (0 + c.trucks.length) (fK c (upd S.γ (FB + k) (S.γ (FB + k) + 1)) (k + 1))) s = S.σ s := fun s h1 h2 h3 => by
    rw [upd_ne _ _ _ _ h2, upd_ne _ _ _ _ h3, upd_fam h1]
  refine ⟨_, hw, ⟨?_, ?_, r3.trans (by push_cast; rfl), trivial⟩, ⟨?_, ?_, ?_, trivial⟩, fun s hs => ?_⟩
  · show S.ρ 1 = .bx 1 (upd S.γ (FB + k) (S.γ (FB + k) + 1) 1) 0
    rw [hg 1 (by decide)]; exact r1
  · show S.ρ 2 = .bx 2 (upd S.γ (FB + k) (S.γ (FB + k) + 1) 2) 0
    rw [hg 2 (by decide)]; exact r2
  · refine (hs3 1 (by decide) (by decide) (by decide)).trans (s1.trans ?_)
    show _ = Ab.Own.box [.int .i64 c.len, .int .i64 c.gap, .int .i64 c.fails, .os 4 (upd S.γ (FB + k) (S.γ (FB + k) + 1) 4)]
    rw [hg 4 (by decide)]
  · exact (hs3 2 (by decide) (by decide) (by decide)).trans s2
  · exact (upd_same (upd (upd S.σ (FB + k) (.arr 89 2 (0 + (c.trucks.getD k default).holds.length) (fun j => encHold ((c.trucks.getD k default).holds.getD j default)))) 19 .none) 4 (.arr 50 5 (0 + c.trucks.length) (fK c (upd S.γ (FB + k) (S.γ (FB + k) + 1)) (k + 1))) : upd _ 4 _ 4 = _)
  · right
    refine Eq.symm ?_
    show upd (upd (upd S.σ (FB + k) (.arr 89 2 (0 + (c.trucks.getD k default).holds.length) (fun j => encHold ((c.trucks.getD k default).holds.getD j default)))) 19 .none) 4 (.arr 50 5 (0 + c.trucks.length) (fK c (upd S.γ (FB + k) (S.γ (FB + k) + 1)) (k + 1))) s = _
    have h4 : (4 : Nat) < FB := by decide
    have h19 : (19 : Nat) < FB := by decide
    rw [upd_big h4 hs, upd_big h19 hs]
    by_cases e : s = FB + k
    · subst e
      rw [upd_same]
      unfold bgK
      rw [Nat.add_sub_cancel_left, if_pos (by omega)]
    · rw [upd_ne _ _ _ _ e, hF s hs]
      unfold bgK
      by_cases e2 : s - FB < k
      · rw [if_pos e2, if_pos (by omega)]
      · rw [if_neg e2, if_neg (by omega)]
theorem c20F (c : Convoy) (hn : c.trucks.length ≤ 25) (hh : ∀ k, k < c.trucks.length → (c.trucks.getD k default).holds.length ≤ 12) : ContractOF seat 20 [.agg (encConvoy c)] (resO c) (c.trucks.length + 1) (osO c) := by
  refine contractOF_intro (fn := Tryd.f20) Tryd.func20 rfl (by kernel_rfl) rfl ?_ ?_ ?_ ?_
  · exact PureL.cons (.agg _ (pure_convoy c)) PureL.nil
  · exact .agg _ (.cons _ _ (.pure _ (.int _ _)) (.cons _ _ (.pure _ (.int _ _)) (.cons _ _ (.pure _ (.int _ _)) (.cons _ _ (.os _ _ (Nat.succ_pos _)) .nil))))
  · intro j hj i hi
    cases j with
    | zero => exact .cons _ _ (.pure _ (.int _ _)) (.cons _ _ (.pure _ (.int _ _)) (.cons _ _ (.pure _ (.int _ _)) (.cons _ _ (.pure _ (.int _ _)) (.cons _ _ (.os _ _ (Nat.succ_lt_succ hi)) .nil))))
    | succ j => exact pokl_of (pure_hold _)
  intro w κ
  repeat' (first
    | (apply WL_q; apply Eq.refl; apply Eq.refl; (first | (apply q_mvI <;> apply Eq.refl) | (apply q_asI <;> apply Eq.refl) | (apply q_ldb <;> apply Eq.refl) | (apply q_fab <;> apply Eq.refl) | (apply q_cmp <;> apply Eq.refl) | (apply q_arith <;> (first | apply Eq.refl | omega)) | (apply q_ldba <;> apply Eq.refl) | (apply q_ldo <;> (first | apply Eq.refl | omega)) | (apply q_fao <;> apply Eq.refl) | (apply q_iao <;> (first | apply Eq.refl | omega)) | (apply q_leno <;> apply Eq.refl)))
    | apply W_seq
    | apply W_region
    | apply T_normal
    | apply WL_nil
    | apply T_exit
    | apply B_normal
    | apply B_exit_eq
    | apply W_skip
    | apply W_exit
    | apply W_ret
    | apply W_block
    | (apply WL_n; apply Eq.refl; (first | (refine n_bsl0 (fun i => encTruck (c.trucks.getD i default)) rfl rfl rfl rfl rfl rfl rfl rfl rfl) | (refine n_app (f' := fun i => encTruck (c.trucks.getD i default)) rfl rfl rfl rfl rfl rfl rfl rfl rfl rfl rfl rfl rfl rfl rfl (by show (0 + c.trucks.length) * 56 ≤ _; omega) (by omega) rfl (fun i hi => rfl) (fun i hi => by rw [Nat.zero_add])) | (apply n_boxa <;> apply Eq.refl) | (apply n_alloc <;> apply Eq.refl) | (apply n_stb <;> (first | apply Eq.refl | (intro _ e; cases e)))))
    | apply W_regionG
    | (apply WG_nil; kernel_rfl)
    | (apply WG_q; (first | (apply want_none; apply Eq.refl) | (apply want_some; apply Eq.refl; apply Eq.refl; apply Eq.refl)); apply Eq.refl; first | (apply fq_bld <;> apply Eq.refl) | (apply fq_blda <;> apply Eq.refl) | (apply fq_fn; apply Eq.refl) | (apply fq_mf; apply Eq.refl) | (apply FQ_intro; intro _; (first | (apply q_mvI <;> apply Eq.refl) | (apply q_asI <;> apply Eq.refl) | (apply q_ldb <;> apply Eq.refl) | (apply q_fab <;> apply Eq.refl) | (apply q_cmp <;> apply Eq.refl) | (apply q_arith <;> (first | apply Eq.refl | omega)) | (apply q_ldba <;> apply Eq.refl) | (apply q_ldo <;> (first | apply Eq.refl | omega)) | (apply q_fao <;> apply Eq.refl) | (apply q_iao <;> (first | apply Eq.refl | omega)) | (apply q_leno <;> apply Eq.refl))))
    | (apply WG_n; (first | (apply want_none; apply Eq.refl) | (apply want_some; apply Eq.refl; apply Eq.refl; apply Eq.refl)); (first | (refine f_bsl0 (fun i => encTruck (c.trucks.getD i default)) rfl rfl rfl rfl rfl rfl rfl rfl rfl) | (refine f_app (f' := fun i => encTruck (c.trucks.getD i default)) rfl rfl rfl rfl rfl rfl rfl rfl rfl rfl rfl rfl rfl rfl rfl (by show (0 + c.trucks.length) * 56 ≤ _; omega) (by omega) rfl (fun i hi => rfl) (fun i hi => by rw [Nat.zero_add])) | (apply f_sto <;> (first | apply Eq.refl | omega))))
    | (apply W_cD; apply Eq.refl; intro _; rotate_left 1; intro _; rotate_left 1))
  refine W_loopF (α := Nat) rsK (osK c) (fun k _ => bgK c k) (fun k => k ≤ c.trucks.length) (fun k => c.trucks.length - k) 0 (Nat.zero_le _) ?_ (fun k h hi => ?_)
  · refine ⟨⟨rfl, rfl, rfl, trivial⟩, ⟨rfl, rfl, ?_, trivial⟩, fun s hs => .inl (by unfold bgK; rw [if_neg (by omega)])⟩
    show Ab.Own.arr 50 5 (0 + c.trucks.length) _ = Ab.Own.arr 50 5 (0 + c.trucks.length) (fK c _ 0)
    congr 1
  have hkk : ((k : Int)).toNat = k := Int.toNat_natCast k
  have hcell : nth (fK c h k ((k : Int)).toNat) 4 = some (.sl 2 (c.trucks.getD k default).holds.length (fun j => encHold ((c.trucks.getD k default).holds.getD j default))) := by
    rw [hkk]; unfold fK; rw [if_neg (by omega)]; rfl
  have hover : ∀ d : D, d.isCell = true → overN (fK c h k ((k : Int)).toNat) 4 [d] = some [.int .i64 (c.trucks.getD k default).way, .int .i64 (c.trucks.getD k default).start, .int .i64 (c.trucks.getD k default).lo, .int .i64 (c.trucks.getD k default).hi, d] := fun d _ => by
    rw [hkk]; unfold fK; rw [if_neg (by omega)]; rfl
  repeat' (first
    | (apply WG_q; (apply want_none; apply Eq.refl); apply Eq.refl; apply FQ_intro; intro _; apply q_ldo; apply Eq.refl; apply Eq.refl; apply Eq.refl; apply Eq.refl; apply Eq.refl; apply Eq.refl; apply Eq.refl; omega; exact hcell)
    | (apply WL_q; apply Eq.refl; apply Eq.refl; (first | (apply q_mvI <;> apply Eq.refl) | (apply q_asI <;> apply Eq.refl) | (apply q_ldb <;> apply Eq.refl) | (apply q_fab <;> apply Eq.refl) | (apply q_cmp <;> apply Eq.refl) | (apply q_arith <;> (first | apply Eq.refl | omega)) | (apply q_ldba <;> apply Eq.refl) | (apply q_ldo <;> (first | apply Eq.refl | omega)) | (apply q_fao <;> apply Eq.refl) | (apply q_iao <;> (first | apply Eq.refl | omega)) | (apply q_leno <;> apply Eq.refl)))
    | apply W_seq
    | apply W_region
    | apply T_normal
    | apply WL_nil
    | apply T_exit
    | apply B_normal
    | apply B_exit_eq
    | apply W_skip
    | apply W_exit
    | apply W_ret
    | apply W_block
    | (apply WL_n; apply Eq.refl; (first | (refine n_bsl0 (fun i => encHold ((c.trucks.getD k default).holds.getD i default)) rfl rfl rfl rfl rfl rfl rfl rfl rfl) | (refine n_app (f' := fun i => encHold ((c.trucks.getD k default).holds.getD i default)) rfl rfl rfl rfl rfl rfl rfl rfl rfl rfl rfl rfl rfl rfl rfl (by have := hh k (by omega); show (0 + (c.trucks.getD k default).holds.length) * 16 ≤ _; omega) (by have := hh k (by omega); show 0 + (c.trucks.getD k default).holds.length ≤ _; omega) rfl (fun i hi => rfl) (fun i hi => by rw [Nat.zero_add])) | (apply n_boxa <;> apply Eq.refl) | (apply n_alloc <;> apply Eq.refl) | (apply n_stb <;> (first | apply Eq.refl | (intro _ e; cases e)))))
    | apply W_regionG
    | (apply WG_nil; kernel_rfl)
    | (apply WG_q; (first | (apply want_none; apply Eq.refl) | (apply want_some; apply Eq.refl; apply Eq.refl; apply Eq.refl)); apply Eq.refl; first | (apply fq_bld <;> apply Eq.refl) | (apply fq_blda <;> apply Eq.refl) | (apply fq_fn; apply Eq.refl) | (apply fq_mf; apply Eq.refl) | (apply FQ_intro; intro _; (first | (apply q_mvI <;> apply Eq.refl) | (apply q_asI <;> apply Eq.refl) | (apply q_ldb <;> apply Eq.refl) | (apply q_fab <;> apply Eq.refl) | (apply q_cmp <;> apply Eq.refl) | (apply q_arith <;> (first | apply Eq.refl | omega)) | (apply q_ldba <;> apply Eq.refl) | (apply q_ldo <;> (first | apply Eq.refl | omega)) | (apply q_fao <;> apply Eq.refl) | (apply q_iao <;> (first | apply Eq.refl | omega)) | (apply q_leno <;> apply Eq.refl))))
    | (apply WG_n; (first | (apply want_none; apply Eq.refl) | (apply want_some; apply Eq.refl; apply Eq.refl; apply Eq.refl)); (first | (refine f_sto rfl rfl rfl rfl (by omega) rfl rfl rfl rfl rfl (hover _ rfl) rfl) | (refine f_bsl0 (fun i => encHold ((c.trucks.getD k default).holds.getD i default)) rfl rfl rfl rfl rfl rfl rfl rfl rfl) | (refine f_app (f' := fun i => encHold ((c.trucks.getD k default).holds.getD i default)) rfl rfl rfl rfl rfl rfl rfl rfl rfl rfl rfl rfl rfl rfl rfl (by have := hh k (by omega); show (0 + (c.trucks.getD k default).holds.length) * 16 ≤ _; omega) (by have := hh k (by omega); show 0 + (c.trucks.getD k default).holds.length ≤ _; omega) rfl (fun i hi => rfl) (fun i hi => by rw [Nat.zero_add])) | (apply f_sto <;> (first | apply Eq.refl | omega))))
    | (apply W_cD; apply Eq.refl; intro _; rotate_left 1; intro _; rotate_left 1))
  · refine ⟨k + 1, Exists.imp (fun S'' hh => ⟨by omega, by omega, hh.1, hh.2⟩) (own_end (h := h) (c := c) (k := k) ?_ ?_ ?_ ?_ ?_ ?_ ?_ ?_ ?_ ?_ ?_)⟩
    · omega
    · rfl
    · rfl
    · rfl
    · intro s hs
      show upd (upd h 19 (h 19 + 1)) 19 (upd h 19 (h 19 + 1) 19 + 1) s = h s
      rw [upd_big (by decide) hs, upd_big (by decide) hs]
    · rfl
    · rfl
    · rfl
    · rfl
    · intro s hs
      refine (upd_big (i := 4) (by decide) hs).trans ((upd_big (i := 19) (by decide) hs).trans ((upd_big (i := 19) (by decide) hs).trans (mkF_big (rs := rsK k h) (h := h) hs)))
    · exact fun _ => rfl
  · have hkn : k = c.trucks.length := by omega
    refine ⟨plO, fun i j _ _ e => plO_inj i j e, fun i hi => ?_, [.agg [.int .i64 c.len, .int .i64 c.gap, .int .i64 c.fails, .os 4 (h 4)]], ?_, rfl⟩
    · cases i with
      | zero =>
        refine ⟨fK c h k, (show _ = Ab.Own.arr 50 5 (0 + c.trucks.length) (fK c h k) from rfl).trans (by rw [Nat.zero_add]; rfl), fun j hj => ?_⟩
        have hj : j < c.trucks.length := hj
        unfold fK
        rw [if_pos (by omega)]
        rfl
      | succ i =>
        have hi : i < c.trucks.length := by omega
        refine ⟨fun j => encHold ((c.trucks.getD i default).holds.getD j default), ?_, fun j hj => rfl⟩
        have e : bgK c k (FB + i) = .arr 89 2 (c.trucks.getD i default).holds.length (fun j => encHold ((c.trucks.getD i default).holds.getD j default)) := by
          unfold bgK
          rw [Nat.add_sub_cancel_left, if_pos (by omega), Nat.zero_add]
        refine Eq.trans ?_ e
        exact (upd_big (i := 2) (by decide) (Nat.le_add_right _ _)).trans (mkF_big (rs := rsK k h) (h := h) (Nat.le_add_right _ _))
    · show ResL _ _ [ResultVar.cell 2 24] [_]
      exact ⟨rv_A rfl rfl rfl rfl rfl rfl rfl, trivial⟩
end Go.Proofs.YtafnhieaeejlcaaDoor
namespace Go.Proofs.YtafnhieaeejlcaaDoor
open Go Go.Ab
set_option maxRecDepth 100000
set_option maxHeartbeats 4000000
attribute [local irreducible] W WL QOp NOp thenQ blockQ FinQ WG FQ Want FinW WI WIL thenI blockI
theorem c64 (a b c : Int) : Contract seat 64 [.int .i64 a, .int .i64 b, .int .i64 c] (.bool (decide (b ≤ a ∧ a ≤ c))) := by
  refine contract_intro (fn := Tryd.f64) Tryd.func64 rfl (by kernel_rfl) rfl ?_ ?_ ?_
  · repeat' first | exact PureL.nil | refine PureL.cons (.int _ _) ?_
  · exact .bool _
  intro w κ
  repeat' (first
    | (apply WL_q; apply Eq.refl; apply Eq.refl; (first | (apply q_mvI <;> apply Eq.refl) | (apply q_cmp <;> apply Eq.refl) | (apply q_mvB <;> apply Eq.refl) | (apply q_asB <;> apply Eq.refl) | (apply q_pkT <;> apply Eq.refl) | (apply q_pkF <;> apply Eq.refl)))
    | apply W_seq
    | apply W_region
    | apply T_normal
    | apply WL_nil
    | apply W_ret
    | (apply WL_yes; apply Eq.refl; apply Eq.refl; apply Eq.refl)
    | (apply WL_no; apply Eq.refl; apply Eq.refl; apply Eq.refl; apply Eq.refl; apply Eq.refl)
    | (apply L_tD; apply Eq.refl; apply Eq.refl; apply Eq.refl; intro _; rotate_left 1; intro _; rotate_left 1))
  all_goals (refine fin_B rfl rfl ?_; simp; try omega)
def alongI (way len m : Int) : Int := if way = 2 then len - m else m
theorem c107 (t : Truck) (len m : Int) (h0 : -2305843009213693952 ≤ m) (h1 : m ≤ 2305843009213693952) (h2 : -2305843009213693952 ≤ len) (h3 : len ≤ 2305843009213693952) :
    Contract seat 107 [.agg (encRide t len), .int .i64 m] (.int .i64 (alongI t.way len m)) := by
  refine contract_intro (fn := Tryd.f107) Tryd.func107 rfl (by kernel_rfl) rfl ?_ ?_ ?_
  · exact PureL.cons (.agg _ (pure_ride t len)) (PureL.cons (.int _ _) PureL.nil)
  · exact .int _ _
  intro w κ
  repeat' (first
    | (apply WL_q; apply Eq.refl; apply Eq.refl; (first | (apply q_mvI <;> apply Eq.refl) | (apply q_asI <;> apply Eq.refl) | (apply q_ldb <;> apply Eq.refl) | (apply q_fab <;> apply Eq.refl) | (apply q_cmp <;> apply Eq.refl) | (apply q_arith <;> (first | apply Eq.refl | omega))))
    | apply W_seq
    | apply W_region
    | apply T_normal
    | apply WL_nil
    | apply T_ret
    | apply W_skip
    | apply W_ret
    | (apply WL_n; apply Eq.refl; (first | (apply n_boxa <;> apply Eq.refl)))
    | (apply W_cD; apply Eq.refl; intro _; rotate_left 1; intro _; rotate_left 1))
  all_goals (refine fin_I rfl rfl ?_; simp_all [alongI])
def chkHolds (way len : Int) : Option Int → List Hold → Int
  | _, [] => 0
  | p, h :: hs => if ¬ (1 ≤ h.a ∧ h.a ≤ len - 1) ∨ ¬ (0 ≤ h.u ∧ h.u ≤ 10000) then 2 else
    match p with
    | some q => if alongI way len h.a ≤ q then 11 else chkHolds way len (some (alongI way len h.a)) hs
    | none => chkHolds way len (some (alongI way len h.a)) hs
def chkTruck (c : Convoy) (t : Truck) : Int :=
  if ¬ (1 ≤ t.way ∧ t.way ≤ 2) then 4
  else if ¬ (0 ≤ t.start ∧ t.start ≤ 10000) ∨ ¬ (1 ≤ t.lo ∧ t.lo ≤ 1000) ∨ ¬ (1 ≤ t.hi ∧ t.hi ≤ 1000) then 2
  else if t.lo > t.hi then 11
  else if c.len > 1000 * t.lo then 13
  else if c.gap < 2 * t.hi then 12
  else if t.holds.length > 8 then 8
  else chkHolds t.way c.len none t.holds
theorem chkHolds_cons (way len : Int) (p : Option Int) (h : Hold) (hs : List Hold) : chkHolds way len p (h :: hs) = if ¬ (1 ≤ h.a ∧ h.a ≤ len - 1) ∨ ¬ (0 ≤ h.u ∧ h.u ≤ 10000) then 2 else
    match p with
    | some q => if alongI way len h.a ≤ q then 11 else chkHolds way len (some (alongI way len h.a)) hs
    | none => chkHolds way len (some (alongI way len h.a)) hs := by cases p <;> rfl
theorem drop_getD {α : Type} [Inhabited α] (l : List α) (k : Nat) (h : k < l.length) : l.drop k = l.getD k default :: l.drop (k + 1) := by
  rw [List.drop_eq_getElem_cons h]; simp [List.getD, h]
def chkPrev (way len : Int) (hs : List Hold) (k : Nat) : Option Int := if k = 0 then none else some (alongI way len (hs.getD (k - 1) default).a)
def chkInv (way len : Int) (hs : List Hold) (k : Nat) : Prop := k ≤ hs.length ∧ chkHolds way len (chkPrev way len hs k) (hs.drop k) = chkHolds way len none hs ∧
  (0 < k → 1 ≤ (hs.getD (k - 1) default).a ∧ (hs.getD (k - 1) default).a ≤ len - 1)
theorem chkInv_zero (way len : Int) (hs : List Hold) : chkInv way len hs 0 := ⟨Nat.zero_le _, by simp [chkPrev], fun h => by omega⟩
section
variable {way len : Int} {hs : List Hold} {k : Nat}
theorem chk_end (hi : chkInv way len hs k) (h : ¬ k < hs.length) : 0 = chkHolds way len none hs := by
  obtain ⟨h1, h2, _⟩ := hi
  rw [List.drop_eq_nil_of_le (by omega)] at h2
  simpa [chkHolds] using h2
theorem chk_2 (hi : chkInv way len hs k) (h : k < hs.length) (hb : ¬ (1 ≤ (hs.getD k default).a ∧ (hs.getD k default).a ≤ len - 1) ∨ ¬ (0 ≤ (hs.getD k default).u ∧ (hs.getD k default).u ≤ 10000)) : 2 = chkHolds way len none hs := by
  obtain ⟨h1, h2, _⟩ := hi
  rw [drop_getD _ _ h] at h2
  rw [chkHolds_cons] at h2
  rw [if_pos hb] at h2
  exact h2
theorem chk_11 (hi : chkInv way len hs k) (h : k < hs.length) (ha : 1 ≤ (hs.getD k default).a ∧ (hs.getD k default).a ≤ len - 1) (hu : 0 ≤ (hs.getD k default).u ∧ (hs.getD k default).u ≤ 10000) (h0 : 0 < k)
    (hle : alongI way len (hs.getD k default).a ≤ alongI way len (hs.getD (k - 1) default).a) : 11 = chkHolds way len none hs := by
  obtain ⟨h1, h2, _⟩ := hi
  rw [drop_getD _ _ h] at h2
  rw [chkHolds_cons] at h2
  rw [if_neg (by simp only [not_or, Classical.not_not]; exact ⟨ha, hu⟩)] at h2
  simp only [chkPrev, if_neg (show ¬ k = 0 by omega)] at h2
  rw [if_pos hle] at h2
  exact h2
theorem chk_next (hi : chkInv way len hs k) (h : k < hs.length) (ha : 1 ≤ (hs.getD k default).a ∧ (hs.getD k default).a ≤ len - 1) (hu : 0 ≤ (hs.getD k default).u ∧ (hs.getD k default).u ≤ 10000)
    (hle : 0 < k → ¬ alongI way len (hs.getD k default).a ≤ alongI way len (hs.getD (k - 1) default).a) : chkInv way len hs (k + 1) := by
  obtain ⟨h1, h2, _⟩ := hi
  rw [drop_getD _ _ h] at h2
  rw [chkHolds_cons] at h2
  rw [if_neg (by simp only [not_or, Classical.not_not]; exact ⟨ha, hu⟩)] at h2
  refine ⟨h, ?_, fun _ => by simpa using ha⟩
  rw [← h2]
  by_cases e : k = 0
  · subst e; simp [chkPrev]
  · simp only [chkPrev, if_neg e, if_neg (hle (by omega))]; simp
end
theorem c65 (c : Convoy) (t : Truck) (hl : 1 ≤ c.len) (hl2 : c.len ≤ 100000) : Contract seat 65 [.agg (encConvoy c), .agg (encTruck t)] (.int .i64 (chkTruck c t)) := by
  refine contract_intro (fn := Tryd.f65) Tryd.func65 rfl (by kernel_rfl) rfl ?_ ?_ ?_
  · exact PureL.cons (.agg _ (pure_convoy c)) (PureL.cons (.agg _ (pure_truck t)) PureL.nil)
  · exact .int _ _
  intro w κ
  repeat' (first
    | (apply WL_q; apply Eq.refl; apply Eq.refl; (first | (apply q_mvI <;> apply Eq.refl) | (apply q_asI <;> apply Eq.refl) | (apply q_ldb <;> apply Eq.refl) | (apply q_fab <;> apply Eq.refl) | (apply q_cmp <;> apply Eq.refl) | (apply q_mvB <;> apply Eq.refl) | (apply q_asB <;> apply Eq.refl) | (apply q_not <;> apply Eq.refl) | (apply q_ldr <;> apply Eq.refl) | (apply q_far <;> apply Eq.refl) | (apply q_arith <;> (first | apply Eq.refl | omega)) | (apply q_len <;> apply Eq.refl) | (apply q_pkT <;> apply Eq.refl) | (apply q_pkF <;> apply Eq.refl) | (apply q_ia <;> (first | apply Eq.refl | omega)) | (apply q_ldba <;> apply Eq.refl) | (apply q_ldra <;> apply Eq.refl) | (apply q_bld <;> apply Eq.refl)))
    | apply W_seq
    | apply W_region
    | apply T_normal
    | apply WL_nil
    | apply T_exit
    | apply T_ret
    | apply B_normal
    | apply B_ret
    | apply B_exit_eq
    | apply W_skip
    | apply W_exit
    | apply W_ret
    | apply W_block
    | (apply W_condT; apply Eq.refl)
    | (apply W_condF; apply Eq.refl)
    | (apply WL_call; apply Eq.refl; apply Eq.refl; rotate_left 1; apply Eq.refl; rotate_right 1; exact (c64 _ _ _); apply Eq.refl)
    | (apply WL_n; apply Eq.refl; (first | (apply n_boxa <;> apply Eq.refl) | (apply n_alloc <;> apply Eq.refl) | (apply n_stb <;> (first | apply Eq.refl | (intro _ e; cases e)))))
    | (apply WL_yes; apply Eq.refl; apply Eq.refl; apply Eq.refl)
    | (apply WL_no; apply Eq.refl; apply Eq.refl; apply Eq.refl; apply Eq.refl; apply Eq.refl)
    | (apply L_tND; apply Eq.refl; apply Eq.refl; apply Eq.refl; intro _; rotate_left 1; intro _; rotate_left 1)
    | apply W_regionG
    | (apply WG_nil; kernel_rfl)
    | (apply WG_q; (first | (apply want_none; apply Eq.refl) | (apply want_some; apply Eq.refl; apply Eq.refl; apply Eq.refl)); apply Eq.refl; first | (apply fq_bld <;> apply Eq.refl) | (apply fq_blda <;> apply Eq.refl) | (apply fq_fn; apply Eq.refl) | (apply fq_mf; apply Eq.refl) | (apply FQ_intro; intro _; (first | (apply q_mvI <;> apply Eq.refl) | (apply q_asI <;> apply Eq.refl) | (apply q_ldb <;> apply Eq.refl) | (apply q_fab <;> apply Eq.refl) | (apply q_cmp <;> apply Eq.refl) | (apply q_mvB <;> apply Eq.refl) | (apply q_asB <;> apply Eq.refl) | (apply q_not <;> apply Eq.refl) | (apply q_ldr <;> apply Eq.refl) | (apply q_far <;> apply Eq.refl) | (apply q_arith <;> (first | apply Eq.refl | omega)) | (apply q_len <;> apply Eq.refl) | (apply q_pkT <;> apply Eq.refl) | (apply q_pkF <;> apply Eq.refl) | (apply q_ia <;> (first | apply Eq.refl | omega)) | (apply q_ldba <;> apply Eq.refl) | (apply q_ldra <;> apply Eq.refl) | (apply q_bld <;> apply Eq.refl))))
    | (apply WG_call; (first | (apply want_none; apply Eq.refl) | (apply want_some; apply Eq.refl; apply Eq.refl; apply Eq.refl)); apply Eq.refl; apply Eq.refl; apply Eq.refl; exact (c64 _ _ _))
    | (apply WG_no; apply Eq.refl; apply Eq.refl; apply Eq.refl; apply Eq.refl; apply Eq.refl)
    | (apply G_tD; apply Eq.refl; apply Eq.refl; apply Eq.refl; intro _; rotate_left 1; intro _; rotate_left 1)
    | (apply W_cD; apply Eq.refl; intro _; rotate_left 1; intro _; rotate_left 1)
    | (apply W_cND; apply Eq.refl; intro _; rotate_left 1; intro _; rotate_left 1))
  all_goals try (refine fin_I rfl rfl ?_; simp [chkTruck]; omega)
  rename_i h1 h2 h3 h4 h5 h6 h7 h8
  have hspec : chkTruck c t = chkHolds t.way c.len none t.holds := by simp [chkTruck]; omega
  rw [hspec]
  clear hspec
  refine W_loopM (α := Nat) (fun k => [(2, .bx 2 1 0), (3, .bx 3 1 0), (5, .bx 5 1 0), (66, slOf 2 encHold t.holds), (67, .int .i64 t.holds.length), (68, .int .i64 k)]) (fun _ => [(2, 1), (3, 1), (5, 1)])
    (fun _ => [(2, .box (encConvoy c)), (3, .box (encTruck t)), (5, .box (encRide t c.len))]) (chkInv t.way c.len t.holds) (fun k => t.holds.length - k) 0 (chkInv_zero _ _ _) (by refine ⟨?_, ?_, ?_⟩ <;> repeat' (first | exact trivial | apply And.intro | apply Eq.refl)) (fun k h hi => ?_)
  have hk := hi.1
  have hp := hi.2.2
  have e1 : 0 < k → ((k : Int) - 1).toNat = k - 1 := fun h => by omega
  have hp' : 0 < k → 1 ≤ (t.holds.getD ((k : Int) - 1).toNat default).a ∧ (t.holds.getD ((k : Int) - 1).toNat default).a ≤ c.len - 1 := fun h => by rw [e1 h]; exact hp h
  repeat' (first
    | (apply WL_q; apply Eq.refl; apply Eq.refl; (first | (apply q_mvI <;> apply Eq.refl) | (apply q_asI <;> apply Eq.refl) | (apply q_ldb <;> apply Eq.refl) | (apply q_fab <;> apply Eq.refl) | (apply q_cmp <;> apply Eq.refl) | (apply q_mvB <;> apply Eq.refl) | (apply q_asB <;> apply Eq.refl) | (apply q_not <;> apply Eq.refl) | (apply q_ldr <;> apply Eq.refl) | (apply q_far <;> apply Eq.refl) | (apply q_arith <;> (first | apply Eq.refl | omega)) | (apply q_len <;> apply Eq.refl) | (apply q_pkT <;> apply Eq.refl) | (apply q_pkF <;> apply Eq.refl) | (apply q_ia <;> (first | apply Eq.refl | omega)) | (apply q_ldba <;> apply Eq.refl) | (apply q_ldra <;> apply Eq.refl) | (apply q_bld <;> apply Eq.refl)))
    | apply W_seq
    | apply W_region
    | apply T_normal
    | apply WL_nil
    | apply T_exit
    | apply T_ret
    | apply B_normal
    | apply B_ret
    | apply B_exit_eq
    | apply W_skip
    | apply W_exit
    | apply W_ret
    | apply W_block
    | (apply W_condT; apply Eq.refl)
    | (apply W_condF; apply Eq.refl)
    | (apply WL_call; apply Eq.refl; apply Eq.refl; rotate_left 1; apply Eq.refl; rotate_right 1; exact (c64 _ _ _); apply Eq.refl)
    | (apply WL_call; apply Eq.refl; apply Eq.refl; rotate_left 1; apply Eq.refl; rotate_right 1; exact (c107 _ _ _ (by omega) (by omega) (by omega) (by omega)); apply Eq.refl)
    | (apply WL_n; apply Eq.refl; (first | (apply n_boxa <;> apply Eq.refl) | (apply n_alloc <;> apply Eq.refl) | (apply n_stb <;> (first | apply Eq.refl | (intro _ e; cases e)))))
    | (apply WL_yes; apply Eq.refl; apply Eq.refl; apply Eq.refl)
    | (apply WL_no; apply Eq.refl; apply Eq.refl; apply Eq.refl; apply Eq.refl; apply Eq.refl)
    | (apply L_tND; apply Eq.refl; apply Eq.refl; apply Eq.refl; intro _; rotate_left 1; intro _; rotate_left 1)
    | apply W_regionG
    | (apply WG_nil; kernel_rfl)
    | (apply WG_q; (first | (apply want_none; apply Eq.refl) | (apply want_some; apply Eq.refl; apply Eq.refl; apply Eq.refl)); apply Eq.refl; first | (apply fq_bld <;> apply Eq.refl) | (apply fq_blda <;> apply Eq.refl) | (apply fq_fn; apply Eq.refl) | (apply fq_mf; apply Eq.refl) | (apply FQ_intro; intro _; (first | (apply q_mvI <;> apply Eq.refl) | (apply q_asI <;> apply Eq.refl) | (apply q_ldb <;> apply Eq.refl) | (apply q_fab <;> apply Eq.refl) | (apply q_cmp <;> apply Eq.refl) | (apply q_mvB <;> apply Eq.refl) | (apply q_asB <;> apply Eq.refl) | (apply q_not <;> apply Eq.refl) | (apply q_ldr <;> apply Eq.refl) | (apply q_far <;> apply Eq.refl) | (apply q_arith <;> (first | apply Eq.refl | omega)) | (apply q_len <;> apply Eq.refl) | (apply q_pkT <;> apply Eq.refl) | (apply q_pkF <;> apply Eq.refl) | (apply q_ia <;> (first | apply Eq.refl | omega)) | (apply q_ldba <;> apply Eq.refl) | (apply q_ldra <;> apply Eq.refl) | (apply q_bld <;> apply Eq.refl))))
    | (apply WG_call; (first | (apply want_none; apply Eq.refl) | (apply want_some; apply Eq.refl; apply Eq.refl; apply Eq.refl)); apply Eq.refl; apply Eq.refl; apply Eq.refl; exact (c64 _ _ _))
    | (apply WG_call; (first | (apply want_none; apply Eq.refl) | (apply want_some; apply Eq.refl; apply Eq.refl; apply Eq.refl)); apply Eq.refl; apply Eq.refl; apply Eq.refl; exact (c107 _ _ _ (by omega) (by omega) (by omega) (by omega)))
    | (apply WG_no; apply Eq.refl; apply Eq.refl; apply Eq.refl; apply Eq.refl; apply Eq.refl)
    | (apply G_tD; apply Eq.refl; apply Eq.refl; apply Eq.refl; intro _; rotate_left 1; intro _; rotate_left 1)
    | (apply W_cD; apply Eq.refl; intro _; rotate_left 1; intro _; rotate_left 1)
    | (apply W_cND; apply Eq.refl; intro _; rotate_left 1; intro _; rotate_left 1))
  all_goals try simp only [Int.toNat_natCast] at *
  all_goals first
    | (refine fin_I rfl rfl (chk_2 hi (by omega) (by first | (left; assumption) | (right; assumption))); done)
    | (refine fin_I rfl rfl (chk_11 hi (by omega) (by assumption) (by assumption) (by omega) (by rw [← e1 (by omega)]; assumption)); done)
    | (refine fin_I rfl rfl (chk_end hi (by omega)); done)
    | (refine ⟨k + 1, chk_next hi (by omega) (by assumption) (by assumption) (fun h => by first | (rw [← e1 h]; assumption) | omega), by omega, (by refine ⟨?_, ?_, ?_⟩ <;> repeat' (first | exact trivial | apply And.intro | apply Eq.refl))⟩; done)
end Go.Proofs.YtafnhieaeejlcaaDoor
namespace Go.Proofs.YtafnhieaeejlcaaDoor
open Go Go.Ab
set_option maxRecDepth 100000
set_option maxHeartbeats 4000000
attribute [local irreducible] W WL QOp NOp thenQ blockQ FinQ WG FQ Want FinW WI WIL thenI blockI
def chkTrucks (c : Convoy) : List Truck → Int
  | [] => 0
  | t :: ts => if chkTruck c t ≠ 0 then chkTruck c t else chkTrucks c ts
def chkConvoy (c : Convoy) : Int :=
  if ¬ (1 ≤ c.len ∧ c.len ≤ 100000) ∨ ¬ (1 ≤ c.gap ∧ c.gap ≤ 100000) ∨ ¬ (0 ≤ c.fails ∧ c.fails ≤ 20) then 2
  else if c.trucks.length > 20 then 8
  else chkTrucks c c.trucks
def ckInv (c : Convoy) (k : Nat) : Prop := k ≤ c.trucks.length ∧ chkTrucks c (c.trucks.drop k) = chkTrucks c c.trucks
theorem ck_end {c : Convoy} {k : Nat} (hi : ckInv c k) (h : ¬ k < c.trucks.length) : 0 = chkTrucks c c.trucks := by
  rw [← hi.2, List.drop_eq_nil_of_le (by omega)]; rfl
theorem ck_err {c : Convoy} {k : Nat} (hi : ckInv c k) (h : k < c.trucks.length) (he : chkTruck c (c.trucks.getD k default) ≠ 0) : chkTruck c (c.trucks.getD k default) = chkTrucks c c.trucks := by
  rw [← hi.2, drop_getD _ _ h, chkTrucks, if_pos he]
theorem ck_next {c : Convoy} {k : Nat} (hi : ckInv c k) (h : k < c.trucks.length) (he : chkTruck c (c.trucks.getD k default) = 0) : ckInv c (k + 1) :=
  ⟨h, by rw [← hi.2, drop_getD _ _ h, chkTrucks, if_neg (fun h => h he)]⟩
theorem c21 (c : Convoy) : Contract seat 21 [.agg (encConvoy c)] (.int .i64 (chkConvoy c)) := by
  refine contract_intro (fn := Tryd.f21) Tryd.func21 rfl (by kernel_rfl) rfl ?_ ?_ ?_
  · exact PureL.cons (.agg _ (pure_convoy c)) PureL.nil
  · exact .int _ _
  intro w κ
  repeat' (first
    | (apply WL_q; apply Eq.refl; apply Eq.refl; (first | (apply q_mvI <;> apply Eq.refl) | (apply q_asI <;> apply Eq.refl) | (apply q_ldb <;> apply Eq.refl) | (apply q_fab <;> apply Eq.refl) | (apply q_cmp <;> apply Eq.refl) | (apply q_mvB <;> apply Eq.refl) | (apply q_asB <;> apply Eq.refl) | (apply q_not <;> apply Eq.refl) | (apply q_arith <;> (first | apply Eq.refl | omega)) | (apply q_len <;> apply Eq.refl) | (apply q_pkT <;> apply Eq.refl) | (apply q_pkF <;> apply Eq.refl) | (apply q_ia <;> (first | apply Eq.refl | omega)) | (apply q_ldba <;> apply Eq.refl) | (apply q_ldra <;> apply Eq.refl)))
    | apply W_seq
    | apply W_region
    | apply T_normal
    | apply WL_nil
    | apply T_exit
    | apply T_ret
    | apply B_normal
    | apply B_ret
    | apply B_exit_eq
    | apply W_skip
    | apply W_exit
    | apply W_ret
    | apply W_block
    | (apply W_condT; apply Eq.refl)
    | (apply WL_call; apply Eq.refl; apply Eq.refl; rotate_left 1; apply Eq.refl; rotate_right 1; exact (c64 _ _ _); apply Eq.refl)
    | (apply WL_n; apply Eq.refl; (first | (apply n_boxa <;> apply Eq.refl) | (apply n_alloc <;> apply Eq.refl) | (apply n_stb <;> (first | apply Eq.refl | (intro _ e; cases e)))))
    | (apply WL_yes; apply Eq.refl; apply Eq.refl; apply Eq.refl)
    | (apply WL_no; apply Eq.refl; apply Eq.refl; apply Eq.refl; apply Eq.refl; apply Eq.refl)
    | (apply L_tND; apply Eq.refl; apply Eq.refl; apply Eq.refl; intro _; rotate_left 1; intro _; rotate_left 1)
    | (apply W_cD; apply Eq.refl; intro _; rotate_left 1; intro _; rotate_left 1)
    | (apply W_cND; apply Eq.refl; intro _; rotate_left 1; intro _; rotate_left 1))
  all_goals try (refine fin_I rfl rfl ?_; simp [chkConvoy]; omega)
  all_goals
    have hspec : chkConvoy c = chkTrucks c c.trucks := by simp [chkConvoy]; omega
    rw [hspec]
    clear hspec
    refine W_loopM (α := Nat) (fun k => [(1, .bx 1 1 0), (29, slOf 5 encTruck c.trucks), (30, .int .i64 c.trucks.length), (31, .int .i64 k)]) (fun _ => [(1, 1)])
      (fun _ => [(1, .box (encConvoy c))]) (ckInv c) (fun k => c.trucks.length - k) 0 ⟨Nat.zero_le _, rfl⟩ (by refine ⟨?_, ?_, ?_⟩ <;> repeat' (first | exact trivial | apply And.intro | apply Eq.refl)) (fun k h hi => ?_)
    have hk := hi.1
    repeat' (first
    | (apply WL_q; apply Eq.refl; apply Eq.refl; (first | (apply q_mvI <;> apply Eq.refl) | (apply q_asI <;> apply Eq.refl) | (apply q_ldb <;> apply Eq.refl) | (apply q_fab <;> apply Eq.refl) | (apply q_cmp <;> apply Eq.refl) | (apply q_mvB <;> apply Eq.refl) | (apply q_asB <;> apply Eq.refl) | (apply q_not <;> apply Eq.refl) | (apply q_arith <;> (first | apply Eq.refl | omega)) | (apply q_len <;> apply Eq.refl) | (apply q_pkT <;> apply Eq.refl) | (apply q_pkF <;> apply Eq.refl) | (apply q_ia <;> (first | apply Eq.refl | omega)) | (apply q_ldba <;> apply Eq.refl) | (apply q_ldra <;> apply Eq.refl)))
    | apply W_seq
    | apply W_region
    | apply T_normal
    | apply WL_nil
    | apply T_exit
    | apply T_ret
    | apply B_normal
    | apply B_ret
    | apply B_exit_eq
    | apply W_skip
    | apply W_exit
    | apply W_ret
    | apply W_block
    | (apply W_condT; apply Eq.refl)
    | (apply WL_call; apply Eq.refl; apply Eq.refl; rotate_left 1; apply Eq.refl; rotate_right 1; exact (c65 c (c.trucks.getD k default) (by omega) (by omega)); apply Eq.refl)
    | (apply WL_n; apply Eq.refl; (first | (apply n_boxa <;> apply Eq.refl) | (apply n_alloc <;> apply Eq.refl) | (apply n_stb <;> (first | apply Eq.refl | (intro _ e; cases e)))))
    | (apply WL_yes; apply Eq.refl; apply Eq.refl; apply Eq.refl)
    | (apply WL_no; apply Eq.refl; apply Eq.refl; apply Eq.refl; apply Eq.refl; apply Eq.refl)
    | (apply L_tND; apply Eq.refl; apply Eq.refl; apply Eq.refl; intro _; rotate_left 1; intro _; rotate_left 1)
    | (apply W_cD; apply Eq.refl; intro _; rotate_left 1; intro _; rotate_left 1)
    | (apply W_cND; apply Eq.refl; intro _; rotate_left 1; intro _; rotate_left 1))
    all_goals first
      | (refine fin_I rfl rfl (ck_err hi (by omega) (by assumption)); done)
      | (refine fin_I rfl rfl (ck_end hi (by omega)); done)
      | (refine ⟨k + 1, ck_next hi (by omega) (by assumption), by omega, (by refine ⟨?_, ?_, ?_⟩ <;> repeat' (first | exact trivial | apply And.intro | apply Eq.refl))⟩; done)
      | skip
end Go.Proofs.YtafnhieaeejlcaaDoor
namespace Go.Proofs.YtafnhieaeejlcaaDoor
open Go Go.Ab
set_option maxRecDepth 100000
set_option maxHeartbeats 4000000
attribute [local irreducible] W WL QOp NOp thenQ blockQ FinQ WG FQ Want FinW WI WIL thenI blockI
def HOk (len : Int) (hs : List Hold) : Prop := hs.length ≤ 8 ∧ ∀ k, k < hs.length → 1 ≤ (hs.getD k default).a ∧ (hs.getD k default).a ≤ len - 1 ∧ 0 ≤ (hs.getD k default).u ∧ (hs.getD k default).u ≤ 10000
def stopR (way len : Int) (gone m : Int) : List Hold → Int
  | [] => len
  | h :: hs => if alongI way len h.a ≥ gone ∧ h.u > m then alongI way len h.a else stopR way len gone m hs
def nextR (t : Truck) (len gone m pace : Int) : Int := min (gone + pace) (stopR t.way len gone m t.holds)
def freeT (t : Truck) (b : Bool) : Truck := if b then { t with holds := [] } else t
end Go.Proofs.YtafnhieaeejlcaaDoor
namespace Go.Proofs.YtafnhieaeejlcaaDoor
open Go Go.Ab
set_option maxRecDepth 100000
set_option maxHeartbeats 4000000
attribute [local irreducible] W WL QOp NOp thenQ blockQ FinQ WG FQ Want FinW WI WIL thenI blockI
def posR (t : Truck) (len pace : Int) : Nat → Int
  | 0 => 0
  | k + 1 => nextR t len (posR t len pace k) (t.start + k) pace
def hit (f : Nat → Int) (len : Int) : Nat → Nat → Nat
  | 0, k => k
  | n + 1, k => if f k = len then k else hit f len n (k + 1)
theorem hit_of {f : Nat → Int} {len : Int} {K : Nat} (hK : f K = len) : ∀ (n k : Nat), k ≤ K → K ≤ k + n → (∀ j, k ≤ j → j < hit f len n k → f j ≠ len) ∧ f (hit f len n k) = len ∧ k ≤ hit f len n k ∧ hit f len n k ≤ K := by
  intro n
  induction n with
  | zero =>
    intro k h1 h2
    have : k = K := by omega
    subst this
    exact ⟨fun j a b => by simp only [hit] at b; omega, hK, Nat.le_refl _, Nat.le_refl _⟩
  | succ n ih =>
    intro k h1 h2
    by_cases e : f k = len
    · simp only [hit, if_pos e]
      exact ⟨fun j a b => by omega, e, Nat.le_refl _, h1⟩
    · simp only [hit, if_neg e]
      have hne : k ≠ K := by intro h; subst h; exact e hK
      obtain ⟨a, b, c, d⟩ := ih (k + 1) (by omega) (by omega)
      refine ⟨fun j hj hj2 => ?_, b, by omega, d⟩
      by_cases ej : j = k
      · subst ej; exact e
      · exact a j (by omega) hj2
theorem stopR_ge {way len gone m : Int} {hs : List Hold} (h1 : 1 ≤ len) (h : ∀ h ∈ hs, 1 ≤ h.a ∧ h.a ≤ len - 1) : 1 ≤ stopR way len gone m hs ∧ stopR way len gone m hs ≤ len := by
  induction hs with
  | nil => simp only [stopR]; omega
  | cons x hs ih =>
    have hx := h x (List.mem_cons_self ..)
    have := ih fun y hy => h y (List.mem_cons_of_mem _ hy)
    simp only [stopR]
    split
    · simp only [alongI]; split <;> omega
    · exact this
theorem stopR_late {way len gone m : Int} {hs : List Hold} (h : ∀ h ∈ hs, h.u ≤ m) : stopR way len gone m hs = len := by
  induction hs with
  | nil => rfl
  | cons x hs ih =>
    have hx := h x (List.mem_cons_self ..)
    simp only [stopR]
    rw [if_neg (by omega)]
    exact ih fun y hy => h y (List.mem_cons_of_mem _ hy)
theorem mem_getD {α : Type} [Inhabited α] {l : List α} {x : α} (h : x ∈ l) : ∃ k, k < l.length ∧ l.getD k default = x := by
  obtain ⟨k, hk, e⟩ := List.getElem_of_mem h
  exact ⟨k, hk, by simp [List.getD, hk, e]⟩
theorem HOk.mem {len : Int} {hs : List Hold} (h : HOk len hs) : ∀ x ∈ hs, 1 ≤ x.a ∧ x.a ≤ len - 1 ∧ 0 ≤ x.u ∧ x.u ≤ 10000 := fun x hx => by
  obtain ⟨k, hk, e⟩ := mem_getD hx
  exact e ▸ h.2 k hk
section
variable {t : Truck} {len pace : Int}
theorem posR_le (hl : 1 ≤ len) (ho : HOk len t.holds) (hp : 1 ≤ pace) : ∀ k, 0 ≤ posR t len pace k ∧ posR t len pace k ≤ len
  | 0 => ⟨Int.le_refl 0, by simp only [posR]; omega⟩
  | k + 1 => by
    have h1 := posR_le hl ho hp k
    have h2 := stopR_ge (way := t.way) (gone := posR t len pace k) (m := t.start + k) hl fun x hx => ⟨(ho.mem x hx).1, (ho.mem x hx).2.1⟩
    simp only [posR, nextR]
    omega
theorem posR_late (hs : 0 ≤ t.start) (hl : 1 ≤ len) (ho : HOk len t.holds) (hp : 1 ≤ pace) : ∀ j : Nat, min ((j : Int) * pace) len ≤ posR t len pace (10000 + j)
  | 0 => by have := (posR_le hl ho hp 10000).1; simp only [Nat.add_zero]; omega
  | j + 1 => by
    have h1 := posR_late hs hl ho hp j
    have h2 := posR_le hl ho hp (10000 + j)
    show _ ≤ posR t len pace (10000 + j + 1)
    simp only [posR, nextR]
    rw [stopR_late fun x hx => by have := (ho.mem x hx).2.2.2; omega]
    have h3 : ((j + 1 : Nat) : Int) * pace = j * pace + pace := by push_cast; rw [Int.add_mul, Int.one_mul]
    rw [h3]
    omega
theorem posR_hit (hs : 0 ≤ t.start) (hl : 1 ≤ len) (ho : HOk len t.holds) (hp : 1 ≤ pace) (hd : len ≤ 1000 * pace) : posR t len pace 11000 = len := by
  have h1 := posR_late hs hl ho hp 1000
  have h2 := posR_le hl ho hp (10000 + 1000)
  have h3 : posR t len pace (10000 + 1000) = len := by omega
  exact h3
end
def hitR (t : Truck) (len pace : Int) : Nat := hit (posR t len pace) len 11000 0
def arrS (c : Convoy) (t : Truck) : Span := ⟨if hitR t c.len t.hi ≤ hitR t c.len t.lo then t.start + hitR t c.len t.hi else -1, t.start + hitR t c.len t.lo⟩
structure TOk (c : Convoy) (t : Truck) : Prop where
  l1 : 1 ≤ c.len
  l2 : c.len ≤ 100000
  s1 : 0 ≤ t.start
  s2 : t.start ≤ 10000
  p1 : 1 ≤ t.lo
  p2 : t.lo ≤ t.hi
  p3 : t.hi ≤ 1000
  d1 : c.len ≤ 1000 * t.lo
  ho : HOk c.len t.holds
theorem hitR_spec {c : Convoy} {t : Truck} (h : TOk c t) {pace : Int} (hp : t.lo ≤ pace) : posR t c.len pace (hitR t c.len pace) = c.len ∧ (∀ j, j < hitR t c.len pace → posR t c.len pace j ≠ c.len) ∧ hitR t c.len pace ≤ 11000 := by
  have h1 := h.p1
  have h2 := h.d1
  have h0 : posR t c.len pace 11000 = c.len := posR_hit h.s1 h.l1 h.ho (by omega) (by omega)
  obtain ⟨a, b, _, d⟩ := hit_of h0 11000 0 (Nat.zero_le _) (by omega)
  exact ⟨b, fun j hj => a j (Nat.zero_le _) hj, d⟩
attribute [local irreducible] hitR posR nextR stopR
end Go.Proofs.YtafnhieaeejlcaaDoor
namespace Go.Proofs.YtafnhieaeejlcaaDoor
open Go Go.Ab
set_option maxRecDepth 100000
set_option maxHeartbeats 4000000
attribute [local irreducible] W WL QOp NOp thenQ blockQ FinQ WG FQ Want FinW WI WIL thenI blockI
end Go.Proofs.YtafnhieaeejlcaaDoor
namespace Go.Proofs.YtafnhieaeejlcaaDoor
open Go Go.Ab
set_option maxRecDepth 100000
set_option maxHeartbeats 4000000
attribute [local irreducible] W WL QOp NOp thenQ blockQ FinQ WG FQ Want FinW WI WIL thenI blockI
theorem chkHolds_ok {way len : Int} : ∀ {hs : List Hold} {p : Option Int}, chkHolds way len p hs = 0 → ∀ k, k < hs.length → 1 ≤ (hs.getD k default).a ∧ (hs.getD k default).a ≤ len - 1 ∧ 0 ≤ (hs.getD k default).u ∧ (hs.getD k default).u ≤ 10000
  | [], _, _, k, hk => by simp at hk
  | h :: hs, p, h0, k, hk => by
    rw [chkHolds_cons] at h0
    split at h0
    · cases h0
    · rename_i hb
      have hrest : ∃ p', chkHolds way len p' hs = 0 := by
        split at h0
        · split at h0
          · cases h0
          · exact ⟨_, h0⟩
        · exact ⟨_, h0⟩
      obtain ⟨p', hp'⟩ := hrest
      match k with
      | 0 => simp only [List.getD_cons_zero]; omega
      | k + 1 => simp only [List.getD_cons_succ]; exact chkHolds_ok hp' k (by simpa using hk)
theorem tok_of {c : Convoy} {t : Truck} (h1 : 1 ≤ c.len) (h2 : c.len ≤ 100000) (h : chkTruck c t = 0) : TOk c t := by
  unfold chkTruck at h
  split at h; · cases h
  split at h; · cases h
  split at h; · cases h
  split at h; · cases h
  split at h; · cases h
  split at h; · cases h
  exact ⟨h1, h2, by omega, by omega, by omega, by omega, by omega, by omega, by omega, chkHolds_ok h⟩
structure COk (c : Convoy) : Prop where
  l1 : 1 ≤ c.len
  l2 : c.len ≤ 100000
  g1 : 1 ≤ c.gap
  g2 : c.gap ≤ 100000
  f1 : 0 ≤ c.fails
  f2 : c.fails ≤ 20
  n : c.trucks.length ≤ 20
  t : ∀ k, k < c.trucks.length → TOk c (c.trucks.getD k default)
theorem chkTrucks_ok {c : Convoy} : ∀ {ts : List Truck}, chkTrucks c ts = 0 → ∀ t ∈ ts, chkTruck c t = 0
  | [], _, t, ht => by cases ht
  | x :: ts, h, t, ht => by
    unfold chkTrucks at h
    split at h
    · rename_i hn; exact absurd h hn
    · rename_i hn
      rcases List.mem_cons.1 ht with rfl | ht
      · exact Classical.not_not.1 hn
      · exact chkTrucks_ok h t ht
theorem cok_of {c : Convoy} (h : chkConvoy c = 0) : COk c := by
  unfold chkConvoy at h
  split at h; · cases h
  split at h; · cases h
  refine ⟨by omega, by omega, by omega, by omega, by omega, by omega, by omega, fun k hk => tok_of (by omega) (by omega) (chkTrucks_ok h _ ?_)⟩
  simp [List.getD, hk]
theorem TOk.free {c : Convoy} {t : Truck} (h : TOk c t) (b : Bool) : TOk c (freeT t b) := by
  cases b
  · exact h
  · exact ⟨h.l1, h.l2, h.s1, h.s2, h.p1, h.p2, h.p3, h.d1, Nat.zero_le _, fun k hk => by cases hk⟩
def keepF (c : Convoy) (k : Nat) : Int := (arrS c (c.trucks.getD k default)).lo
def failF (c : Convoy) (k : Nat) : Int := (arrS c (freeT (c.trucks.getD k default) true)).lo
def endF (c : Convoy) (k : Nat) : Int := (arrS c (c.trucks.getD k default)).hi
def maxUp (f : Nat → Int) : Nat → Int
  | 0 => 0
  | k + 1 => max (maxUp f k) (f k)
theorem arr_bnd {c : Convoy} {t : Truck} (h : TOk c t) : -1 ≤ (arrS c t).lo ∧ (arrS c t).lo ≤ 21000 ∧ 0 ≤ (arrS c t).hi ∧ (arrS c t).hi ≤ 21000 := by
  obtain ⟨_, _, e3⟩ := hitR_spec h (Int.le_refl t.lo)
  obtain ⟨_, _, f3⟩ := hitR_spec h h.p2
  have := h.s1
  have := h.s2
  simp only [arrS]
  split <;> omega
end Go.Proofs.YtafnhieaeejlcaaDoor
namespace Go.Proofs.YtafnhieaeejlcaaDoor
open Go Go.Ab
set_option maxRecDepth 100000
set_option maxHeartbeats 4000000
attribute [local irreducible] W WL QOp NOp thenQ blockQ FinQ WG FQ Want FinW WI WIL thenI blockI
theorem maxUp_zero (f : Nat → Int) : maxUp f 0 = 0 := rfl
attribute [local irreducible] arrS freeT maxUp
end Go.Proofs.YtafnhieaeejlcaaDoor
namespace Go.Proofs.YtafnhieaeejlcaaDoor
open Go Go.Ab
set_option maxRecDepth 100000
set_option maxHeartbeats 4000000
attribute [local irreducible] W WL QOp NOp thenQ blockQ FinQ WG FQ Want FinW WI WIL thenI blockI
attribute [local irreducible] chkConvoy
end Go.Proofs.YtafnhieaeejlcaaDoor
namespace Go.Proofs.YtafnhieaeejlcaaDoor
open Go Go.Ab
set_option maxRecDepth 100000
set_option maxHeartbeats 4000000
attribute [local irreducible] W WL QOp NOp thenQ blockQ FinQ WG FQ Want FinW WI WIL thenI blockI
end Go.Proofs.YtafnhieaeejlcaaDoor
namespace Go.Proofs.YtafnhieaeejlcaaDoor
open Go Go.Ab
set_option maxRecDepth 100000
set_option maxHeartbeats 4000000
attribute [local irreducible] W WL QOp NOp thenQ blockQ FinQ WG FQ Want FinW WI WIL thenI blockI
def stopP (way len m : Int) : List Hold → Int
  | [] => len
  | h :: hs => if h.u > m then alongI way len h.a else stopP way len m hs
theorem stopP_end {way len m : Int} {hs : List Hold} {k : Nat} (hi : stopP way len m (hs.drop k) = stopP way len m hs) (h : ¬ k < hs.length) : len = stopP way len m hs := by
  rw [← hi, List.drop_eq_nil_of_le (by omega)]; rfl
theorem stopP_hit {way len m : Int} {hs : List Hold} {k : Nat} (hi : stopP way len m (hs.drop k) = stopP way len m hs) (h : k < hs.length) (h2 : (hs.getD k default).u > m) :
    alongI way len (hs.getD k default).a = stopP way len m hs := by
  rw [← hi, drop_getD _ _ h, stopP, if_pos h2]
theorem stopP_next {way len m : Int} {hs : List Hold} {k : Nat} (hi : stopP way len m (hs.drop k) = stopP way len m hs) (h : k < hs.length) (h1 : ¬ (hs.getD k default).u > m) :
    stopP way len m (hs.drop (k + 1)) = stopP way len m hs := by
  rw [← hi, drop_getD _ _ h, stopP, if_neg h1]
theorem c116 (t : Truck) (len m : Int) (hl : 1 ≤ len) (hl2 : len ≤ 100000) (ho : HOk len t.holds) : Contract seat 116 [.agg (encRide t len), .int .i64 m] (.int .i64 (stopP t.way len m t.holds)) := by
  refine contract_introW (fn := Tryd.f116) Tryd.func116 rfl (by kernel_rfl) rfl ?_ ?_ ?_
  · exact PureL.cons (.agg _ (pure_ride t len)) (PureL.cons (.int _ _) PureL.nil)
  · exact .int _ _
  intro w κ
  have hl8 := ho.1
  repeat' (first
    | (apply WL_q; apply Eq.refl; apply Eq.refl; (first | (apply q_mvI <;> apply Eq.refl) | (apply q_asI <;> apply Eq.refl) | (apply q_ldb <;> apply Eq.refl) | (apply q_fab <;> apply Eq.refl) | (apply q_cmp <;> apply Eq.refl) | (apply q_arith <;> (first | apply Eq.refl | omega)) | (apply q_len <;> apply Eq.refl) | (apply q_ia <;> (first | apply Eq.refl | omega)) | (apply q_ldba <;> apply Eq.refl) | (apply q_ldra <;> apply Eq.refl)))
    | apply W_seq
    | apply W_region
    | apply T_normal
    | apply WL_nil
    | apply T_exit
    | apply T_ret
    | apply B_normal
    | apply B_ret
    | apply B_exit_eq
    | apply W_skip
    | apply W_exit
    | apply W_ret
    | apply W_block
    | (apply WL_n; apply Eq.refl; (first | (apply n_boxa <;> apply Eq.refl) | (apply n_alloc <;> apply Eq.refl) | (apply n_stb <;> (first | apply Eq.refl | (intro _ e; cases e)))))
    | (apply W_cD; apply Eq.refl; intro _; rotate_left 1; intro _; rotate_left 1))
  refine W_loopR [1, 2, 9, 10] [2] (fun k : Nat => [(11, .int .i64 k)]) (fun _ => []) (fun _ => []) (fun k => k ≤ t.holds.length ∧ stopP t.way len m (t.holds.drop k) = stopP t.way len m t.holds) (fun k => t.holds.length - k) 0 ⟨Nat.zero_le _, rfl⟩ (by refine ⟨?_, ?_, ?_⟩ <;> repeat' (first | exact trivial | apply And.intro | apply Eq.refl | (apply toI; apply Eq.refl; first | omega | assumption) | (apply toB; apply Eq.refl; repeat' (first | apply Eq.refl | apply consS | (apply consI; first | apply Eq.refl | omega | assumption))))) (fun k h hi => ?_)
  have hk := hi.1
  have hb : ∀ hk' : (k : Int) < t.holds.length, 1 ≤ (t.holds.getD (k : Int).toNat default).a ∧ (t.holds.getD (k : Int).toNat default).a ≤ len - 1 := fun h => by
    have := ho.2 k (by omega); simp only [Int.toNat_natCast]; omega
  repeat' (first
    | (apply WL_q; apply Eq.refl; apply Eq.refl; (first | (apply q_mvI <;> apply Eq.refl) | (apply q_asI <;> apply Eq.refl) | (apply q_ldb <;> apply Eq.refl) | (apply q_fab <;> apply Eq.refl) | (apply q_cmp <;> apply Eq.refl) | (apply q_arith <;> (first | apply Eq.refl | omega)) | (apply q_len <;> apply Eq.refl) | (apply q_ia <;> (first | apply Eq.refl | omega)) | (apply q_ldba <;> apply Eq.refl) | (apply q_ldra <;> apply Eq.refl)))
    | apply W_seq
    | apply W_region
    | apply T_normal
    | apply WL_nil
    | apply T_exit
    | apply T_ret
    | apply B_normal
    | apply B_ret
    | apply B_exit_eq
    | apply W_skip
    | apply W_exit
    | apply W_ret
    | apply W_block
    | (apply WL_call; apply Eq.refl; apply Eq.refl; rotate_left 1; apply Eq.refl; rotate_right 1; exact (c107 t len (t.holds.getD (k : Int).toNat default).a (by have := hb (by assumption); omega) (by have := hb (by assumption); omega) (by omega) (by omega)); apply Eq.refl)
    | (apply WL_n; apply Eq.refl; (first | (apply n_boxa <;> apply Eq.refl) | (apply n_alloc <;> apply Eq.refl) | (apply n_stb <;> (first | apply Eq.refl | (intro _ e; cases e)))))
    | (apply W_cD; apply Eq.refl; intro _; rotate_left 1; intro _; rotate_left 1))
  all_goals try simp only [Int.toNat_natCast] at *
  all_goals first
    | (((try apply fin_now); first | (apply fin_I; apply Eq.refl; apply Eq.refl; try apply Eq.refl)); exact stopP_hit hi.2 (by omega) (by assumption))
    | (((try apply fin_now); first | (apply fin_I; apply Eq.refl; apply Eq.refl; try apply Eq.refl)); exact stopP_end hi.2 (by omega))
    | (refine ⟨k + 1, ⟨by omega, stopP_next hi.2 (by omega) (by omega)⟩, by omega, (by apply reach_now; refine ⟨?_, ?_, ?_, ?_, ?_⟩ <;> repeat' (first | exact trivial | apply And.intro | apply Eq.refl | (apply toI; apply Eq.refl; first | omega | assumption) | (apply toB; apply Eq.refl; repeat' (first | apply Eq.refl | apply consS | (apply consI; first | apply Eq.refl | omega | assumption)))))⟩; done)
def HSort (way len : Int) (hs : List Hold) : Prop := hs.Pairwise fun a b => alongI way len a.a < alongI way len b.a
theorem stop_eq {way len gone m : Int} : ∀ {hs : List Hold}, gone ≤ stopP way len m hs → stopR way len gone m hs = stopP way len m hs
  | [], _ => rfl
  | h :: hs, hg => by
    simp only [stopP, stopR] at hg ⊢
    by_cases e : h.u > m
    · rw [if_pos e] at hg ⊢; rw [if_pos ⟨hg, e⟩]
    · rw [if_neg e] at hg ⊢; rw [if_neg (fun h => e h.2)]; exact stop_eq hg
theorem stopP_ge {way len m x : Int} : ∀ {hs : List Hold}, x ≤ len → (∀ h ∈ hs, x ≤ alongI way len h.a) → x ≤ stopP way len m hs
  | [], h, _ => h
  | h :: hs, h1, h2 => by
    simp only [stopP]
    split
    · exact h2 h (List.mem_cons_self ..)
    · exact stopP_ge h1 fun y hy => h2 y (List.mem_cons_of_mem _ hy)
theorem stopP_mono {way len m m' : Int} (hm : m ≤ m') : ∀ {hs : List Hold}, HSort way len hs → (∀ h ∈ hs, alongI way len h.a ≤ len) → stopP way len m hs ≤ stopP way len m' hs
  | [], _, _ => Int.le_refl _
  | h :: hs, h1, h2 => by
    obtain ⟨h3, h4⟩ := List.pairwise_cons.1 h1
    have hl := h2 h (List.mem_cons_self ..)
    simp only [stopP]
    by_cases e : h.u > m
    · rw [if_pos e]
      by_cases e' : h.u > m'
      · rw [if_pos e']; exact Int.le_refl _
      · rw [if_neg e']; exact stopP_ge hl fun y hy => Int.le_of_lt (h3 y hy)
    · rw [if_neg e, if_neg (by omega)]; exact stopP_mono hm h4 fun y hy => h2 y (List.mem_cons_of_mem _ hy)
theorem along_le {way len : Int} {h : Hold} (h1 : 1 ≤ h.a) (h2 : h.a ≤ len - 1) : 1 ≤ alongI way len h.a ∧ alongI way len h.a ≤ len - 1 := by
  unfold alongI; split <;> omega
theorem posR_stop {t : Truck} {len pace : Int} (hl : 1 ≤ len) (ho : HOk len t.holds) (hso : HSort t.way len t.holds) (hp : 1 ≤ pace) : ∀ k, posR t len pace k ≤ stopP t.way len (t.start + k) t.holds
  | 0 => by
    refine Int.le_trans (show posR t len pace 0 ≤ 1 from by simp only [posR]; omega) (stopP_ge hl fun h hh => ?_)
    have := ho.mem h hh
    exact (along_le this.1 this.2.1).1
  | k + 1 => by
    have ih := posR_stop hl ho hso hp k
    simp only [posR, nextR]
    rw [stop_eq ih]
    refine Int.le_trans (Int.min_le_right _ _) (stopP_mono (by push_cast; omega) hso fun h hh => ?_)
    have := ho.mem h hh
    have := along_le (way := t.way) this.1 this.2.1
    omega
theorem posR_next {t : Truck} {len pace : Int} (hl : 1 ≤ len) (ho : HOk len t.holds) (hso : HSort t.way len t.holds) (hp : 1 ≤ pace) (k : Nat) : posR t len pace (k + 1) = min (posR t len pace k + pace) (stopP t.way len (t.start + k) t.holds) := by
  simp only [posR, nextR]
  rw [stop_eq (posR_stop hl ho hso hp k)]
end Go.Proofs.YtafnhieaeejlcaaDoor
namespace Go.Proofs.YtafnhieaeejlcaaDoor
open Go Go.Ab
set_option maxRecDepth 100000
set_option maxHeartbeats 4000000
attribute [local irreducible] W WL QOp NOp thenQ blockQ FinQ WG FQ Want FinW WI WIL thenI blockI
structure ROk (len : Int) (t : Truck) : Prop where
  l1 : 1 ≤ len
  l2 : len ≤ 100000
  s1 : 0 ≤ t.start
  s2 : t.start ≤ 10000
  p1 : 1 ≤ t.lo
  p2 : t.lo ≤ t.hi
  p3 : t.hi ≤ 1000
  d1 : len ≤ 1000 * t.lo
  ho : HOk len t.holds
  so : HSort t.way len t.holds
theorem ROk.tok {len : Int} {t : Truck} (h : ROk len t) (c : Convoy) (hc : c.len = len) : TOk c t := by
  subst hc; exact ⟨h.l1, h.l2, h.s1, h.s2, h.p1, h.p2, h.p3, h.d1, h.ho⟩
theorem hitR_ok {len : Int} {t : Truck} (h : ROk len t) {pace : Int} (hp : t.lo ≤ pace) : posR t len pace (hitR t len pace) = len ∧ (∀ j, j < hitR t len pace → posR t len pace j ≠ len) ∧ hitR t len pace ≤ 11000 :=
  hitR_spec (c := ⟨len, 0, 0, []⟩) (h.tok _ rfl) hp
def gone (t : Truck) (len : Int) (k : Nat) : Span := ⟨posR t len t.lo k, posR t len t.hi k⟩
def minV (t : Truck) (len : Int) (k : Nat) : List D := [.int .i64 (t.start + k), .agg (encSpan (gone t len k))]
theorem WIL_yield0 {E : Env} {k : Nat} {Q : Nat → Bool → Exit → St → Prop} {S : St} {ops : Array Oper} {o : Oper} {rest : List Oper} {x : Operand} {xs : Array Operand} {ts : Array TypeId} {d : Nat} {A : List D} (ho : o.op = .call { callee := .value x, args := xs, argTypes := ts }) (hg : o.guard = none) (hd : o.dst = some d)
    (hx : S.ev (E.X k false fun _ => False) x = .yl E.l) (hA : xs.toList.map (S.ev (E.X k false fun _ => False)) = A) (hv : GivL S [] A (E.its k)) (hk : k < E.n)
    (hT : WIL E ops rest Q (k + 1) false (S.set d (.bool true))) (hF : WIL E ops rest Q (k + 1) true (S.set d (.bool false))) : WIL E ops (o :: rest) Q k false S := WIL_yield (ps := []) ho hg hd hx hA hv hk hT hF
theorem giv_min {S : St} {a b c : Int} : GivL S [] [.int .i64 a, .agg [.int .i64 b, .int .i64 c]] [.int .i64 a, .agg [.int .i64 b, .int .i64 c]] :=
  .cons _ _ _ _ (.conv _ _ fun κ γ sv v h κ' γ' sv' => by cases h; exact .int _ _) (.cons _ _ _ _ (.conv _ _ fun κ γ sv v h κ' γ' sv' => by
    cases h with
    | agg _ vs hl =>
      cases hl with
      | cons _ _ _ _ h1 h2 =>
        cases h2 with
        | cons _ _ _ _ h3 h4 =>
          cases h4; cases h1; cases h3
          exact .agg _ _ (.cons _ _ _ _ (.int _ _) (.cons _ _ _ _ (.int _ _) .nil))) .nil)
theorem pure_min (t : Truck) (len : Int) (k : Nat) : PureL (minV t len k) := PureL.cons (.int _ _) (PureL.cons (.agg _ (pure_span _)) PureL.nil)
theorem i125 (t : Truck) (len : Int) (h : ROk len t) : ItC seat 125 [.rp (encRide t len) 0] (hitR t len t.lo + 1) (minV t len) := by
  obtain ⟨l1, l2, s1, s2, p1, p2, p3, d1, ho, so⟩ := h
  have h : ROk len t := ⟨l1, l2, s1, s2, p1, p2, p3, d1, ho, so⟩
  obtain ⟨e1, e2, e3⟩ := hitR_ok h (Int.le_refl t.lo)
  have bnd := fun k => posR_le (t := t) (pace := t.lo) l1 ho p1 k
  have bnd2 := fun k => posR_le (t := t) (pace := t.hi) l1 ho (by omega) k
  have nx1 := fun k => posR_next (t := t) (pace := t.lo) l1 ho so p1 k
  have nx2 := fun k => posR_next (t := t) (pace := t.hi) l1 ho so (by omega) k
  refine itC_intro (fn := Tryd.f125) Tryd.func125 rfl (by kernel_rfl) rfl (PureL.cons (.rp _ _ (pure_ride t len)) PureL.nil) (fun k _ => pure_min t len k) rfl ?_
  rintro ⟨Z, nt, w, κ, l, n, vals, J, Jx, w1, κ1, ex, γp, svp, P, hw, hex, hκ, hκ1, hJ, hJx, hY⟩ rfl rfl rfl rfl
  repeat' (first
    | (apply WL_q; apply Eq.refl; apply Eq.refl; (first | (apply q_mvI <;> apply Eq.refl) | (apply q_asI <;> apply Eq.refl) | (apply q_ldb <;> apply Eq.refl) | (apply q_fab <;> apply Eq.refl) | (apply q_cmp <;> apply Eq.refl) | (apply q_mvB <;> apply Eq.refl) | (apply q_ldr <;> apply Eq.refl) | (apply q_far <;> apply Eq.refl) | (apply q_arith <;> (first | apply Eq.refl | omega)) | (apply q_pkT <;> apply Eq.refl) | (apply q_pkF <;> apply Eq.refl) | (apply q_ldba <;> apply Eq.refl) | (apply q_ldra <;> apply Eq.refl) | (apply q_bld <;> apply Eq.refl) | (apply q_min <;> apply Eq.refl) | (apply q_mvYl <;> apply Eq.refl)))
    | apply W_region
    | apply WL_nil
    | apply W_skip
    | apply W_exit
    | (apply W_condF; apply Eq.refl)
    | (apply WL_n; apply Eq.refl; (first | (apply n_alloc <;> apply Eq.refl) | (apply n_stb <;> (first | apply Eq.refl | (intro _ e; cases e)))))
    | (apply WL_yes; apply Eq.refl; apply Eq.refl; apply Eq.refl)
    | (apply WL_no; apply Eq.refl; apply Eq.refl; apply Eq.refl; apply Eq.refl; apply Eq.refl)
    | apply WI_seq
    | apply WI_block
    | apply TI_normal
    | apply TI_exit
    | apply BI_normal
    | apply BI_exit_eq
    | (apply WI_ofR; intro _)
    | (apply WI_ofC; intro _)
    | (apply W_cD; apply Eq.refl; intro _; rotate_left 1; intro _; rotate_left 1))
  refine WI_loopK [0, 1, 3] [] (α := Nat) (fun k => (k, false)) (fun k => [(4, .int .i64 (t.start + k))]) (fun _ => [(3, 1)]) (fun k => [(3, .box (encSpan (gone t len k)))]) (fun k => k ≤ hitR t len t.lo) (fun k => hitR t len t.lo - k) 0 (Nat.zero_le _) rfl (by refine ⟨?_, ?_, ?_⟩ <;> repeat' (first | exact trivial | apply And.intro | apply Eq.refl | (apply toI; apply Eq.refl; first | omega | assumption) | (apply toB; apply Eq.refl; repeat' (first | apply Eq.refl | apply consS | (apply consI; first | apply Eq.refl | omega | assumption))))) (fun k g hk => ?_)
  have g1 : 0 ≤ (gone t len k).lo ∧ (gone t len k).lo ≤ len := bnd k
  have g2 : 0 ≤ (gone t len k).hi ∧ (gone t len k).hi ≤ len := bnd2 k
  have nx1k : (gone t len (k + 1)).lo = min ((gone t len k).lo + t.lo) (stopP t.way len (t.start + k) t.holds) := nx1 k
  have nx2k : (gone t len (k + 1)).hi = min ((gone t len k).hi + t.hi) (stopP t.way len (t.start + k) t.holds) := nx2 k
  have gh : k = hitR t len t.lo → (gone t len k).lo = len := fun e => by rw [e]; exact e1
  have gn : k ≠ hitR t len t.lo → (gone t len k).lo ≠ len := fun e => e2 k (by omega)
  have st := stopP_ge (way := t.way) (m := t.start + k) (x := 1) l1 (fun h hh => (along_le (ho.mem h hh).1 (ho.mem h hh).2.1).1)
  repeat' (first
    | (apply WI_region (id := 2); apply WIL_split 3; intro _)
    | (refine And.intro rfl ?_; apply WIL_yield0; apply Eq.refl; apply Eq.refl; apply Eq.refl; apply Eq.refl; apply Eq.refl; exact giv_min; (show k < hitR t len t.lo + 1; omega))
    | (apply WIL_of; intro _)
    | (apply WL_q; apply Eq.refl; apply Eq.refl; (first | (apply q_mvI <;> apply Eq.refl) | (apply q_asI <;> apply Eq.refl) | (apply q_ldb <;> apply Eq.refl) | (apply q_fab <;> apply Eq.refl) | (apply q_cmp <;> apply Eq.refl) | (apply q_mvB <;> apply Eq.refl) | (apply q_ldr <;> apply Eq.refl) | (apply q_far <;> apply Eq.refl) | (apply q_arith <;> (first | apply Eq.refl | omega)) | (apply q_pkT <;> apply Eq.refl) | (apply q_pkF <;> apply Eq.refl) | (apply q_ldba <;> apply Eq.refl) | (apply q_ldra <;> apply Eq.refl) | (apply q_bld <;> apply Eq.refl) | (apply q_min <;> apply Eq.refl) | (apply q_mvYl <;> apply Eq.refl)))
    | apply W_region
    | apply WL_nil
    | apply W_skip
    | apply W_exit
    | (apply W_condF; apply Eq.refl)
    | (apply WL_call; apply Eq.refl; apply Eq.refl; rotate_left 1; apply Eq.refl; rotate_right 1; exact (c116 t len (t.start + k) l1 l2 ho); apply Eq.refl)
    | (apply WL_n; apply Eq.refl; (first | (apply n_alloc <;> apply Eq.refl) | (apply n_stb <;> (first | apply Eq.refl | (intro _ e; cases e)))))
    | (apply WL_yes; apply Eq.refl; apply Eq.refl; apply Eq.refl)
    | (apply WL_no; apply Eq.refl; apply Eq.refl; apply Eq.refl; apply Eq.refl; apply Eq.refl)
    | apply WI_seq
    | apply WI_block
    | apply TI_normal
    | apply TI_exit
    | apply BI_normal
    | apply BI_exit_eq
    | (apply WI_ofR; intro _)
    | (apply WI_ofC; intro _)
    | (apply W_cD; apply Eq.refl; intro _; rotate_left 1; intro _; rotate_left 1))
  · exact ⟨k + 1, by omega, by omega, rfl, fun U => (by apply reach_now; refine ⟨?_, ?_, ?_, ?_, ?_⟩ <;> repeat' (first | exact trivial | apply And.intro | apply Eq.refl | (apply toI; apply Eq.refl; first | omega | assumption) | (apply toB; apply Eq.refl; repeat' (first | apply Eq.refl | apply consS | (apply consI; first | apply Eq.refl | omega | assumption)))))⟩
  · exact ⟨.inl rfl, fun _ => by (show k + 1 = _); omega, by (show k + 1 ≤ _); omega⟩
  · exact ⟨.inl rfl, fun h => (by cases h), by (show k + 1 ≤ _); omega⟩
theorem c115 (t : Truck) (len : Int) : Contract seat 115 [.agg (encRide t len)] (.fn 125 [.rp (encRide t len) 0]) := by
  refine contract_introW (fn := Tryd.f115) Tryd.func115 rfl (by kernel_rfl) rfl ?_ ?_ ?_
  · exact PureL.cons (.agg _ (pure_ride t len)) PureL.nil
  · exact .fn _ _ (PureL.cons (.rp _ _ (pure_ride t len)) PureL.nil)
  intro w κ
  repeat' (first
    | (apply WL_q; apply Eq.refl; apply Eq.refl; (first | (apply q_fn <;> apply Eq.refl) | (apply q_asF <;> apply Eq.refl) | (apply q_asU <;> apply Eq.refl)))
    | apply W_seq
    | apply W_region
    | apply T_normal
    | apply WL_nil
    | apply W_ret
    | (apply WL_n; apply Eq.refl; (first | (apply n_boxa <;> apply Eq.refl))))
  refine fin_wk (wk_freeze_cap 2 0 (s := 1) ⟨rfl, fun _ h => h⟩ rfl rfl rfl rfl rfl) (fin_now ?_)
  ((try apply fin_now); first | (apply fin_Fn; apply Eq.refl; apply Eq.refl; try apply Eq.refl))
theorem c84 (c : Convoy) (k : Nat) (b : Bool) (hk : k < c.trucks.length) : Contract seat 84 [.agg (encConvoy c), .int .i64 k, .bool b] (.agg (encRide (freeT (c.trucks.getD k default) b) c.len)) := by
  refine contract_introW (fn := Tryd.f84) Tryd.func84 rfl (by kernel_rfl) rfl ?_ ?_ ?_
  · exact PureL.cons (.agg _ (pure_convoy c)) (PureL.cons (.int _ _) (PureL.cons (.bool _) PureL.nil))
  · exact .agg _ (pure_ride _ _)
  intro w κ
  cases b
  · repeat' (first
    | (apply WL_q; apply Eq.refl; apply Eq.refl; (first | (apply q_mvI <;> apply Eq.refl) | (apply q_ldb <;> apply Eq.refl) | (apply q_fab <;> apply Eq.refl) | (apply q_mvB <;> apply Eq.refl) | (apply q_ia <;> (first | apply Eq.refl | omega)) | (apply q_ldba <;> apply Eq.refl) | (apply q_ldra <;> apply Eq.refl)))
    | apply W_seq
    | apply W_region
    | apply T_normal
    | apply WL_nil
    | apply W_skip
    | apply W_ret
    | (apply W_condT; apply Eq.refl)
    | (apply W_condF; apply Eq.refl)
    | (apply WL_n; apply Eq.refl; (first | (apply n_boxa <;> apply Eq.refl) | (apply n_alloc <;> apply Eq.refl) | (apply n_stb <;> (first | apply Eq.refl | (intro _ e; cases e)))))
    | apply W_regionG
    | (apply WG_nil; kernel_rfl)
    | (apply WG_q; (first | (apply want_none; apply Eq.refl) | (apply want_some; apply Eq.refl; apply Eq.refl; apply Eq.refl)); apply Eq.refl; first | (apply fq_bld <;> apply Eq.refl) | (apply fq_blda <;> apply Eq.refl) | (apply fq_fn; apply Eq.refl) | (apply fq_mf; apply Eq.refl) | (apply FQ_intro; intro _; (first | (apply q_mvI <;> apply Eq.refl) | (apply q_ldb <;> apply Eq.refl) | (apply q_fab <;> apply Eq.refl) | (apply q_mvB <;> apply Eq.refl) | (apply q_ia <;> (first | apply Eq.refl | omega)) | (apply q_ldba <;> apply Eq.refl) | (apply q_ldra <;> apply Eq.refl))))
    | (apply WG_n; (first | (apply want_none; apply Eq.refl) | (apply want_some; apply Eq.refl; apply Eq.refl; apply Eq.refl)); (first | (apply f_alloc <;> apply Eq.refl) | (apply f_stb <;> (first | apply Eq.refl | (intro _ e; cases e))))))
    ((try apply fin_now); first | (apply fin_A; apply Eq.refl; apply Eq.refl; apply Eq.refl; apply Eq.refl; apply Eq.refl; apply Eq.refl; apply Eq.refl; apply Eq.refl; try apply Eq.refl))
  · repeat' (first
    | (apply WL_q; apply Eq.refl; apply Eq.refl; (first | (apply q_mvI <;> apply Eq.refl) | (apply q_ldb <;> apply Eq.refl) | (apply q_fab <;> apply Eq.refl) | (apply q_mvB <;> apply Eq.refl) | (apply q_ia <;> (first | apply Eq.refl | omega)) | (apply q_ldba <;> apply Eq.refl) | (apply q_ldra <;> apply Eq.refl)))
    | apply W_seq
    | apply W_region
    | apply T_normal
    | apply WL_nil
    | apply W_skip
    | apply W_ret
    | (apply W_condT; apply Eq.refl)
    | (apply W_condF; apply Eq.refl)
    | (apply WL_n; apply Eq.refl; (first | (apply n_boxa <;> apply Eq.refl) | (apply n_alloc <;> apply Eq.refl) | (apply n_stb <;> (first | apply Eq.refl | (intro _ e; cases e)))))
    | apply W_regionG
    | (apply WG_nil; kernel_rfl)
    | (apply WG_q; (first | (apply want_none; apply Eq.refl) | (apply want_some; apply Eq.refl; apply Eq.refl; apply Eq.refl)); apply Eq.refl; first | (apply fq_bld <;> apply Eq.refl) | (apply fq_blda <;> apply Eq.refl) | (apply fq_fn; apply Eq.refl) | (apply fq_mf; apply Eq.refl) | (apply FQ_intro; intro _; (first | (apply q_mvI <;> apply Eq.refl) | (apply q_ldb <;> apply Eq.refl) | (apply q_fab <;> apply Eq.refl) | (apply q_mvB <;> apply Eq.refl) | (apply q_ia <;> (first | apply Eq.refl | omega)) | (apply q_ldba <;> apply Eq.refl) | (apply q_ldra <;> apply Eq.refl))))
    | (apply WG_n; (first | (apply want_none; apply Eq.refl) | (apply want_some; apply Eq.refl; apply Eq.refl; apply Eq.refl)); (first | (apply f_alloc <;> apply Eq.refl) | (apply f_stb <;> (first | apply Eq.refl | (intro _ e; cases e))))))
    refine fin_wk (wk_nilbox 6 (l' := encRide (freeT (c.trucks.getD k default) true) c.len) rfl ⟨.inl rfl, .inl rfl, .inl rfl, .inl rfl, .inr ⟨rfl, _, _, rfl⟩, .inl rfl, trivial⟩) (fin_now ?_)
    ((try apply fin_now); first | (apply fin_A; apply Eq.refl; apply Eq.refl; apply Eq.refl; apply Eq.refl; apply Eq.refl; apply Eq.refl; apply Eq.refl; apply Eq.refl; try apply Eq.refl))
def goneL (t : Truck) (len : Int) : D := .sl 2 (hitR t len t.lo + 1) fun k => encSpan (gone t len k)
def encTrack (t : Truck) (len : Int) : List D := encRide t len ++ [goneL t len]
theorem pure_track (t : Truck) (len : Int) : PureL (encTrack t len) := fun d hd => by
  rcases List.mem_append.1 hd with h | h
  · exact pure_ride t len d h
  · simp at h; subst h; exact .sl _ _ _ fun _ _ d hd => pure_span _ d hd
theorem c83 (t : Truck) (len : Int) (h : ROk len t) : Contract seat 83 [.agg (encRide t len)] (.agg (encTrack t len)) := by
  have hn := (hitR_ok h (Int.le_refl t.lo)).2.2
  refine contract_introW (fn := Tryd.f83) Tryd.func83 rfl (by kernel_rfl) rfl ?_ ?_ ?_
  · exact PureL.cons (.agg _ (pure_ride t len)) PureL.nil
  · exact .agg _ (pure_track _ _)
  intro w κ
  repeat' (first
    | (apply WL_q; apply Eq.refl; apply Eq.refl; (first | (apply q_ldb <;> apply Eq.refl) | (apply q_fab <;> apply Eq.refl) | (apply q_ldba <;> apply Eq.refl) | (apply q_bld <;> apply Eq.refl)))
    | apply W_seq
    | apply W_region
    | apply T_normal
    | apply WL_nil
    | apply B_normal
    | apply W_ret
    | apply W_block
    | (apply WL_call; apply Eq.refl; apply Eq.refl; rotate_left 1; apply Eq.refl; rotate_right 1; exact (c115 t len); apply Eq.refl)
    | (apply WL_n; apply Eq.refl; (first | (apply n_boxa <;> apply Eq.refl) | (apply n_alloc <;> apply Eq.refl) | (apply n_stb <;> (first | apply Eq.refl | (intro _ e; cases e))) | (apply n_bsl <;> apply Eq.refl))))
  refine W_wk (wk_nilc 3 6 50 47 2 (fun k => encSpan (gone t len k)) rfl rfl rfl rfl rfl) ?_
  refine W_rangeFunc (minV t len) rfl (i125 t len h) (fun k _ => rfl) [1, 2] (fun k => [(3, 1), (50, k + 1)]) (fun k => [(3, .box (encRide t len ++ [.os 50 (k + 1)])), (50, .arr 47 2 k (fun k => encSpan (gone t len k)))]) (fun _ _ => False) ⟨⟨rfl, rfl, trivial⟩, rfl, rfl, trivial⟩ ?_ ?_ (fun _ h => h.elim) (fun _ _ h => h.elim) (fun _ _ h => h.elim)
  · intro k g hk hg κp γp svp T l Φ cl fr
    repeat' (first
    | (apply WL_q; apply Eq.refl; apply Eq.refl; (first | (apply q_ldb <;> apply Eq.refl) | (apply q_fab <;> apply Eq.refl) | (apply q_ldba <;> apply Eq.refl) | (apply q_bld <;> apply Eq.refl)))
    | apply W_seq
    | apply W_region
    | apply T_normal
    | apply WL_nil
    | apply B_normal
    | apply W_ret
    | apply W_block
    | (apply WL_n; apply Eq.refl; (first | (apply n_boxa <;> apply Eq.refl) | (apply n_alloc <;> apply Eq.refl) | (apply n_stb <;> (first | apply Eq.refl | (intro _ e; cases e))) | (apply n_bsl <;> apply Eq.refl))))
    refine And.intro rfl (fun Φ' cl' fr' => ?_)
    repeat' (first
    | (apply WL_q; apply Eq.refl; apply Eq.refl; (first | (apply q_ldb <;> apply Eq.refl) | (apply q_fab <;> apply Eq.refl) | (apply q_ldba <;> apply Eq.refl) | (apply q_bld <;> apply Eq.refl)))
    | apply W_seq
    | apply W_region
    | apply T_normal
    | apply WL_nil
    | apply B_normal
    | apply W_ret
    | apply W_block
    | (apply WL_n; apply Eq.refl; (first | (refine n_app (f' := fun k => encSpan (gone t len k)) rfl rfl rfl rfl rfl rfl rfl rfl rfl rfl rfl rfl rfl rfl rfl (by show (k + 1) * 16 ≤ _; omega) (by omega) rfl (fun i hi => rfl) (fun i hi => by (obtain rfl : i = 0 := by omega); rfl)) | (apply n_boxa <;> apply Eq.refl) | (apply n_alloc <;> apply Eq.refl) | (apply n_stb <;> (first | apply Eq.refl | (intro _ e; cases e))) | (apply n_bsl <;> apply Eq.refl))))
    exact (by apply bq_now; refine ⟨?_, ?_, ?_⟩ <;> repeat' (first | exact trivial | apply And.intro | apply Eq.refl | (apply toI; apply Eq.refl; first | omega | assumption) | (apply toB; apply Eq.refl; repeat' (first | apply Eq.refl | apply consS | (apply consI; first | apply Eq.refl | omega | assumption)))))
  · intro g
    repeat' (first
    | (apply WL_q; apply Eq.refl; apply Eq.refl; (first | (apply q_ldb <;> apply Eq.refl) | (apply q_fab <;> apply Eq.refl) | (apply q_ldba <;> apply Eq.refl) | (apply q_bld <;> apply Eq.refl)))
    | apply W_seq
    | apply W_region
    | apply T_normal
    | apply WL_nil
    | apply B_normal
    | apply W_ret
    | apply W_block
    | (apply WL_n; apply Eq.refl; (first | (apply n_boxa <;> apply Eq.refl) | (apply n_alloc <;> apply Eq.refl) | (apply n_stb <;> (first | apply Eq.refl | (intro _ e; cases e))) | (apply n_bsl <;> apply Eq.refl))))
    refine fin_wk (wk_freeze_cell 2 6 (s := 50) rfl rfl rfl rfl rfl) (fin_now ?_)
    ((try apply fin_now); first | (apply fin_A; apply Eq.refl; apply Eq.refl; apply Eq.refl; apply Eq.refl; apply Eq.refl; apply Eq.refl; apply Eq.refl; apply Eq.refl; try apply Eq.refl))
end Go.Proofs.YtafnhieaeejlcaaDoor
