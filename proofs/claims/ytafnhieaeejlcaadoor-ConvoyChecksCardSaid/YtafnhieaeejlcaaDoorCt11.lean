/- Walks through the functions that the laws of the convoys reach: what each of them gives for what it gets (contracts), written out by a program of ours; without a condition but those that stand in each theorem. -/
import Derived.Test.YtafnhieaeejlcaaDoorCt10
set_option linter.all false
namespace Go.Proofs.YtafnhieaeejlcaaDoor
open Go Go.Ab
set_option maxRecDepth 100000
set_option maxHeartbeats 4000000
attribute [local irreducible] W WL QOp NOp thenQ blockQ FinQ FinR WG FQ Want FinW WI WIL thenI blockI
/-- What is asked of a ride: it is a truck of a valid convoy, or one that has no holds. -/
structure ROk (len : Int) (t : Truck) : Prop where
  l1 : 1 ≤ len
  l2 : len ≤ 100000
  s1 : 0 ≤ t.start
  s2 : t.start ≤ 10000
  p1 : 1 ≤ t.lo
  p2 : t.lo ≤ t.hi
  p3 : t.hi ≤ 1000
  d1 : len ≤ 1000 * t.lo
  ho : HOk len t.holds
  so : HSort t.way len t.holds
theorem ROk.tok {len : Int} {t : Truck} (h : ROk len t) (c : Convoy) (hc : c.len = len) : TOk c t := by
  subst hc; exact ⟨h.l1, h.l2, h.s1, h.s2, h.p1, h.p2, h.p3, h.d1, h.ho⟩
theorem hitR_ok {len : Int} {t : Truck} (h : ROk len t) {pace : Int} (hp : t.lo ≤ pace) : posR t len pace (hitR t len pace) = len ∧ (∀ j, j < hitR t len pace → posR t len pace j ≠ len) ∧ hitR t len pace ≤ 11000 :=
  hitR_spec (c := ⟨len, 0, 0, []⟩) (h.tok _ rfl) hp
/-- How far the truck may have gone, k minutes behind its start. -/
def gone (t : Truck) (len : Int) (k : Nat) : Span := ⟨posR t len t.lo k, posR t len t.hi k⟩
def minV (t : Truck) (len : Int) (k : Nat) : List Value := [.int .i64 (t.start + k), .agg #[.int .i64 (gone t len k).lo, .int .i64 (gone t len k).hi]]
theorem i125 (t : Truck) (len : Int) (h : ROk len t) : ItC seat 125 [.rp (encRide t len) 0] (hitR t len t.lo + 1) (minV t len) := by
  obtain ⟨l1, l2, s1, s2, p1, p2, p3, d1, ho, so⟩ := h
  have h : ROk len t := ⟨l1, l2, s1, s2, p1, p2, p3, d1, ho, so⟩
  obtain ⟨e1, e2, e3⟩ := hitR_ok h (Int.le_refl t.lo)
  have bnd := fun k => posR_le (t := t) (pace := t.lo) l1 ho p1 k
  have bnd2 := fun k => posR_le (t := t) (pace := t.hi) l1 ho (by omega) k
  have nx1 := fun k => posR_next (t := t) (pace := t.lo) l1 ho so p1 k
  have nx2 := fun k => posR_next (t := t) (pace := t.hi) l1 ho so (by omega) k
  refine itC_intro (fn := Tryd.f125) Tryd.func125 rfl (by kernel_rfl) rfl (PureL.cons (.rp _ _ (pure_ride t len)) PureL.nil) rfl ?_
  rintro ⟨Z, nt, w, κ, l, n, vals, J, Jx, hJ, hJx, hY⟩ rfl rfl rfl rfl
  repeat' (first
    | (apply WL_q; apply Eq.refl; apply Eq.refl; (first | (apply q_mvI <;> apply Eq.refl) | (apply q_asI <;> apply Eq.refl) | (apply q_ldb <;> apply Eq.refl) | (apply q_fab <;> apply Eq.refl) | (apply q_cmp <;> apply Eq.refl) | (apply q_mvB <;> apply Eq.refl) | (apply q_ldr <;> apply Eq.refl) | (apply q_far <;> apply Eq.refl) | (apply q_arith <;> (first | apply Eq.refl | omega)) | (apply q_pkT <;> apply Eq.refl) | (apply q_pkF <;> apply Eq.refl) | (apply q_ldba <;> apply Eq.refl) | (apply q_ldra <;> apply Eq.refl) | (apply q_bld <;> apply Eq.refl) | (apply q_min <;> apply Eq.refl) | (apply q_mvYl <;> apply Eq.refl)))
    | apply W_region
    | apply WL_nil
    | apply W_skip
    | apply W_exit
    | (apply W_condF; apply Eq.refl)
    | (apply WL_n; apply Eq.refl; (first | (apply n_alloc <;> apply Eq.refl) | (apply n_stb <;> apply Eq.refl)))
    | (apply WL_yes; apply Eq.refl; apply Eq.refl; apply Eq.refl)
    | (apply WL_no; apply Eq.refl; apply Eq.refl; apply Eq.refl; apply Eq.refl; apply Eq.refl)
    | apply WI_seq
    | apply WI_block
    | apply TI_normal
    | apply TI_exit
    | apply BI_normal
    | apply BI_exit_eq
    | (apply WI_ofR; intro _)
    | (apply WI_ofC; intro _)
    | (apply W_cD; apply Eq.refl; intro _; rotate_left 1; intro _; rotate_left 1))
  refine WI_loopK [0, 1, 3] [] (α := Nat) (fun k => (k, false)) (fun k => [(4, .int .i64 (t.start + k))]) (fun _ => [(3, 1)]) (fun k => [(3, .box (encSpan (gone t len k)))]) (fun k => k ≤ hitR t len t.lo) (fun k => hitR t len t.lo - k) 0 (Nat.zero_le _) rfl (by refine ⟨?_, ?_, ?_⟩ <;> repeat' (first | exact trivial | apply And.intro | apply Eq.refl | (apply toI; apply Eq.refl; first | omega | assumption) | (apply toB; apply Eq.refl; repeat' (first | apply Eq.refl | apply consS | (apply consI; first | apply Eq.refl | omega | assumption))))) (fun k g hk => ?_)
  have g1 : 0 ≤ (gone t len k).lo ∧ (gone t len k).lo ≤ len := bnd k
  have g2 : 0 ≤ (gone t len k).hi ∧ (gone t len k).hi ≤ len := bnd2 k
  have nx1k : (gone t len (k + 1)).lo = min ((gone t len k).lo + t.lo) (stopP t.way len (t.start + k) t.holds) := nx1 k
  have nx2k : (gone t len (k + 1)).hi = min ((gone t len k).hi + t.hi) (stopP t.way len (t.start + k) t.holds) := nx2 k
  have gh : k = hitR t len t.lo → (gone t len k).lo = len := fun e => by rw [e]; exact e1
  have gn : k ≠ hitR t len t.lo → (gone t len k).lo ≠ len := fun e => e2 k (by omega)
  have st := stopP_ge (way := t.way) (m := t.start + k) (x := 1) l1 (fun h hh => (along_le (ho.mem h hh).1 (ho.mem h hh).2.1).1)
  repeat' (first
    | (apply WI_region (id := 2); apply WIL_split 3; intro _)
    | (refine And.intro rfl ?_; apply WIL_yield; apply Eq.refl; apply Eq.refl; apply Eq.refl; apply Eq.refl; apply Eq.refl; apply Eq.refl; (show k < hitR t len t.lo + 1; omega))
    | (apply WIL_of; intro _)
    | (apply WL_q; apply Eq.refl; apply Eq.refl; (first | (apply q_mvI <;> apply Eq.refl) | (apply q_asI <;> apply Eq.refl) | (apply q_ldb <;> apply Eq.refl) | (apply q_fab <;> apply Eq.refl) | (apply q_cmp <;> apply Eq.refl) | (apply q_mvB <;> apply Eq.refl) | (apply q_ldr <;> apply Eq.refl) | (apply q_far <;> apply Eq.refl) | (apply q_arith <;> (first | apply Eq.refl | omega)) | (apply q_pkT <;> apply Eq.refl) | (apply q_pkF <;> apply Eq.refl) | (apply q_ldba <;> apply Eq.refl) | (apply q_ldra <;> apply Eq.refl) | (apply q_bld <;> apply Eq.refl) | (apply q_min <;> apply Eq.refl) | (apply q_mvYl <;> apply Eq.refl)))
    | apply W_region
    | apply WL_nil
    | apply W_skip
    | apply W_exit
    | (apply W_condF; apply Eq.refl)
    | (apply WL_call; apply Eq.refl; apply Eq.refl; rotate_left 1; apply Eq.refl; rotate_right 1; exact (c116 t len (t.start + k) l1 l2 ho); apply Eq.refl)
    | (apply WL_n; apply Eq.refl; (first | (apply n_alloc <;> apply Eq.refl) | (apply n_stb <;> apply Eq.refl)))
    | (apply WL_yes; apply Eq.refl; apply Eq.refl; apply Eq.refl)
    | (apply WL_no; apply Eq.refl; apply Eq.refl; apply Eq.refl; apply Eq.refl; apply Eq.refl)
    | apply WI_seq
    | apply WI_block
    | apply TI_normal
    | apply TI_exit
    | apply BI_normal
    | apply BI_exit_eq
    | (apply WI_ofR; intro _)
    | (apply WI_ofC; intro _)
    | (apply W_cD; apply Eq.refl; intro _; rotate_left 1; intro _; rotate_left 1))
  · exact ⟨k + 1, by omega, by omega, rfl, fun U => (by apply reach_now; refine ⟨?_, ?_, ?_, ?_, ?_⟩ <;> repeat' (first | exact trivial | apply And.intro | apply Eq.refl | (apply toI; apply Eq.refl; first | omega | assumption) | (apply toB; apply Eq.refl; repeat' (first | apply Eq.refl | apply consS | (apply consI; first | apply Eq.refl | omega | assumption)))))⟩
  · exact ⟨.inl rfl, fun _ => by (show k + 1 = _); omega, by (show k + 1 ≤ _); omega⟩
  · exact ⟨.inl rfl, fun h => (by cases h), by (show k + 1 ≤ _); omega⟩
theorem c115 (t : Truck) (len : Int) : Contract seat 115 [.agg (encRide t len)] (.fn 125 [.rp (encRide t len) 0]) := by
  refine contract_introW (fn := Tryd.f115) Tryd.func115 rfl (by kernel_rfl) rfl ?_ ?_ ?_
  · exact PureL.cons (.agg _ (pure_ride t len)) PureL.nil
  · exact .fn _ _ (PureL.cons (.rp _ _ (pure_ride t len)) PureL.nil)
  intro w κ
  repeat' (first
    | (apply WL_q; apply Eq.refl; apply Eq.refl; (first | (apply q_fn <;> apply Eq.refl) | (apply q_asF <;> apply Eq.refl) | (apply q_asU <;> apply Eq.refl)))
    | apply W_seq
    | apply W_region
    | apply T_normal
    | apply WL_nil
    | apply W_ret
    | (apply WL_n; apply Eq.refl; (first | (apply n_boxa <;> apply Eq.refl))))
  refine fin_wk (wk_freeze_cap 2 0 (s := 1) rfl rfl rfl rfl rfl rfl) (fin_now ?_)
  ((try apply fin_now); first | (apply fin_Fn; apply Eq.refl; apply Eq.refl; try apply Eq.refl))
theorem c84 (c : Convoy) (k : Nat) (b : Bool) (hk : k < c.trucks.length) : Contract seat 84 [.agg (encConvoy c), .int .i64 k, .bool b] (.agg (encRide (freeT (c.trucks.getD k default) b) c.len)) := by
  refine contract_introW (fn := Tryd.f84) Tryd.func84 rfl (by kernel_rfl) rfl ?_ ?_ ?_
  · exact PureL.cons (.agg _ (pure_convoy c)) (PureL.cons (.int _ _) (PureL.cons (.bool _) PureL.nil))
  · exact .agg _ (pure_ride _ _)
  intro w κ
  cases b
  · repeat' (first
    | (apply WL_q; apply Eq.refl; apply Eq.refl; (first | (apply q_mvI <;> apply Eq.refl) | (apply q_ldb <;> apply Eq.refl) | (apply q_fab <;> apply Eq.refl) | (apply q_mvB <;> apply Eq.refl) | (apply q_ia <;> (first | apply Eq.refl | omega)) | (apply q_ldba <;> apply Eq.refl) | (apply q_ldra <;> apply Eq.refl)))
    | apply W_seq
    | apply W_region
    | apply T_normal
    | apply WL_nil
    | apply W_skip
    | apply W_ret
    | (apply W_condT; apply Eq.refl)
    | (apply W_condF; apply Eq.refl)
    | (apply WL_n; apply Eq.refl; (first | (apply n_boxa <;> apply Eq.refl) | (apply n_alloc <;> apply Eq.refl) | (apply n_stb <;> apply Eq.refl)))
    | apply W_regionG
    | (apply WG_nil; kernel_rfl)
    | (apply WG_q; (first | (apply want_none; apply Eq.refl) | (apply want_some; apply Eq.refl; apply Eq.refl; apply Eq.refl)); apply Eq.refl; first | (apply fq_bld <;> apply Eq.refl) | (apply fq_blda <;> apply Eq.refl) | (apply fq_fn; apply Eq.refl) | (apply fq_mf; apply Eq.refl) | (apply FQ_intro; intro _; (first | (apply q_mvI <;> apply Eq.refl) | (apply q_ldb <;> apply Eq.refl) | (apply q_fab <;> apply Eq.refl) | (apply q_mvB <;> apply Eq.refl) | (apply q_ia <;> (first | apply Eq.refl | omega)) | (apply q_ldba <;> apply Eq.refl) | (apply q_ldra <;> apply Eq.refl))))
    | (apply WG_n; (first | (apply want_none; apply Eq.refl) | (apply want_some; apply Eq.refl; apply Eq.refl; apply Eq.refl)); (first | (apply f_alloc <;> apply Eq.refl) | (apply f_stb <;> apply Eq.refl))))
    ((try apply fin_now); first | (apply fin_A; apply Eq.refl; apply Eq.refl; apply Eq.refl; apply Eq.refl; apply Eq.refl; apply Eq.refl; apply Eq.refl; apply Eq.refl; try apply Eq.refl))
  · repeat' (first
    | (apply WL_q; apply Eq.refl; apply Eq.refl; (first | (apply q_mvI <;> apply Eq.refl) | (apply q_ldb <;> apply Eq.refl) | (apply q_fab <;> apply Eq.refl) | (apply q_mvB <;> apply Eq.refl) | (apply q_ia <;> (first | apply Eq.refl | omega)) | (apply q_ldba <;> apply Eq.refl) | (apply q_ldra <;> apply Eq.refl)))
    | apply W_seq
    | apply W_region
    | apply T_normal
    | apply WL_nil
    | apply W_skip
    | apply W_ret
    | (apply W_condT; apply Eq.refl)
    | (apply W_condF; apply Eq.refl)
    | (apply WL_n; apply Eq.refl; (first | (apply n_boxa <;> apply Eq.refl) | (apply n_alloc <;> apply Eq.refl) | (apply n_stb <;> apply Eq.refl)))
    | apply W_regionG
    | (apply WG_nil; kernel_rfl)
    | (apply WG_q; (first | (apply want_none; apply Eq.refl) | (apply want_some; apply Eq.refl; apply Eq.refl; apply Eq.refl)); apply Eq.refl; first | (apply fq_bld <;> apply Eq.refl) | (apply fq_blda <;> apply Eq.refl) | (apply fq_fn; apply Eq.refl) | (apply fq_mf; apply Eq.refl) | (apply FQ_intro; intro _; (first | (apply q_mvI <;> apply Eq.refl) | (apply q_ldb <;> apply Eq.refl) | (apply q_fab <;> apply Eq.refl) | (apply q_mvB <;> apply Eq.refl) | (apply q_ia <;> (first | apply Eq.refl | omega)) | (apply q_ldba <;> apply Eq.refl) | (apply q_ldra <;> apply Eq.refl))))
    | (apply WG_n; (first | (apply want_none; apply Eq.refl) | (apply want_some; apply Eq.refl; apply Eq.refl; apply Eq.refl)); (first | (apply f_alloc <;> apply Eq.refl) | (apply f_stb <;> apply Eq.refl))))
    refine fin_wk (wk_nilbox 6 (l' := encRide (freeT (c.trucks.getD k default) true) c.len) rfl ⟨.inl rfl, .inl rfl, .inl rfl, .inl rfl, .inr ⟨rfl, _, _, rfl⟩, .inl rfl, trivial⟩) (fin_now ?_)
    ((try apply fin_now); first | (apply fin_A; apply Eq.refl; apply Eq.refl; apply Eq.refl; apply Eq.refl; apply Eq.refl; apply Eq.refl; apply Eq.refl; apply Eq.refl; try apply Eq.refl))
/-- A track: a ride, and how far it may have gone in each minute. -/
def goneL (t : Truck) (len : Int) : D := .sl 2 (hitR t len t.lo + 1) fun k => encSpan (gone t len k)
def encTrack (t : Truck) (len : Int) : List D := encRide t len ++ [goneL t len]
theorem pure_track (t : Truck) (len : Int) : PureL (encTrack t len) := fun d hd => by
  rcases List.mem_append.1 hd with h | h
  · exact pure_ride t len d h
  · simp at h; subst h; exact .sl _ _ _ fun _ _ d hd => pure_span _ d hd
theorem c83 (t : Truck) (len : Int) (h : ROk len t) : Contract seat 83 [.agg (encRide t len)] (.agg (encTrack t len)) := by
  have hn := (hitR_ok h (Int.le_refl t.lo)).2.2
  refine contract_introW (fn := Tryd.f83) Tryd.func83 rfl (by kernel_rfl) rfl ?_ ?_ ?_
  · exact PureL.cons (.agg _ (pure_ride t len)) PureL.nil
  · exact .agg _ (pure_track _ _)
  intro w κ
  repeat' (first
    | (apply WL_q; apply Eq.refl; apply Eq.refl; (first | (apply q_ldb <;> apply Eq.refl) | (apply q_fab <;> apply Eq.refl) | (apply q_ldba <;> apply Eq.refl) | (apply q_bld <;> apply Eq.refl)))
    | apply W_seq
    | apply W_region
    | apply T_normal
    | apply WL_nil
    | apply B_normal
    | apply W_ret
    | apply W_block
    | (apply WL_call; apply Eq.refl; apply Eq.refl; rotate_left 1; apply Eq.refl; rotate_right 1; exact (c115 t len); apply Eq.refl)
    | (apply WL_n; apply Eq.refl; (first | (apply n_boxa <;> apply Eq.refl) | (apply n_alloc <;> apply Eq.refl) | (apply n_stb <;> apply Eq.refl) | (apply n_bsl <;> apply Eq.refl))))
  refine W_wk (wk_nilc 3 6 50 47 2 (fun k => encSpan (gone t len k)) rfl rfl rfl rfl rfl) ?_
  refine W_rangeFunc rfl (i125 t len h) (fun k => [.int .i64 (t.start + k), .agg (encSpan (gone t len k))]) (fun k _ => rfl) (fun k _ => rfl) [1, 2] (fun k => [(3, 1), (50, k + 1)]) (fun k => [(3, .box (encRide t len ++ [.os 50 (k + 1)])), (50, .arr 47 2 k (fun k => encSpan (gone t len k)))]) (fun _ _ => False) ⟨⟨rfl, rfl, trivial⟩, rfl, rfl, trivial⟩ ?_ ?_ (fun _ h => h.elim) (fun _ _ h => h.elim) (fun _ _ h => h.elim)
  · intro k g hk hg κp γp svp T l Φ cl
    repeat' (first
    | (apply WL_q; apply Eq.refl; apply Eq.refl; (first | (apply q_ldb <;> apply Eq.refl) | (apply q_fab <;> apply Eq.refl) | (apply q_ldba <;> apply Eq.refl) | (apply q_bld <;> apply Eq.refl)))
    | apply W_seq
    | apply W_region
    | apply T_normal
    | apply WL_nil
    | apply B_normal
    | apply W_ret
    | apply W_block
    | (apply WL_n; apply Eq.refl; (first | (apply n_boxa <;> apply Eq.refl) | (apply n_alloc <;> apply Eq.refl) | (apply n_stb <;> apply Eq.refl) | (apply n_bsl <;> apply Eq.refl))))
    refine And.intro rfl (fun Φ' cl' => ?_)
    repeat' (first
    | (apply WL_q; apply Eq.refl; apply Eq.refl; (first | (apply q_ldb <;> apply Eq.refl) | (apply q_fab <;> apply Eq.refl) | (apply q_ldba <;> apply Eq.refl) | (apply q_bld <;> apply Eq.refl)))
    | apply W_seq
    | apply W_region
    | apply T_normal
    | apply WL_nil
    | apply B_normal
    | apply W_ret
    | apply W_block
    | (apply WL_n; apply Eq.refl; (first | (refine n_app (f' := fun k => encSpan (gone t len k)) rfl rfl rfl rfl rfl rfl rfl rfl rfl rfl rfl rfl rfl rfl rfl (by show (k + 1) * 16 ≤ _; omega) (by omega) rfl (fun i hi => rfl) (fun i hi => by (obtain rfl : i = 0 := by omega); rfl)) | (apply n_boxa <;> apply Eq.refl) | (apply n_alloc <;> apply Eq.refl) | (apply n_stb <;> apply Eq.refl) | (apply n_bsl <;> apply Eq.refl))))
    exact (by apply bq_now; refine ⟨?_, ?_, ?_⟩ <;> repeat' (first | exact trivial | apply And.intro | apply Eq.refl | (apply toI; apply Eq.refl; first | omega | assumption) | (apply toB; apply Eq.refl; repeat' (first | apply Eq.refl | apply consS | (apply consI; first | apply Eq.refl | omega | assumption)))))
  · intro g
    repeat' (first
    | (apply WL_q; apply Eq.refl; apply Eq.refl; (first | (apply q_ldb <;> apply Eq.refl) | (apply q_fab <;> apply Eq.refl) | (apply q_ldba <;> apply Eq.refl) | (apply q_bld <;> apply Eq.refl)))
    | apply W_seq
    | apply W_region
    | apply T_normal
    | apply WL_nil
    | apply B_normal
    | apply W_ret
    | apply W_block
    | (apply WL_n; apply Eq.refl; (first | (apply n_boxa <;> apply Eq.refl) | (apply n_alloc <;> apply Eq.refl) | (apply n_stb <;> apply Eq.refl) | (apply n_bsl <;> apply Eq.refl))))
    refine fin_wk (wk_freeze_cell 2 6 (s := 50) rfl rfl rfl rfl rfl) (fin_now ?_)
    ((try apply fin_now); first | (apply fin_A; apply Eq.refl; apply Eq.refl; apply Eq.refl; apply Eq.refl; apply Eq.refl; apply Eq.refl; apply Eq.refl; apply Eq.refl; try apply Eq.refl))
end Go.Proofs.YtafnhieaeejlcaaDoor

