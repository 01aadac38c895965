/- Walks by computing: what each function of the program that the laws reach gives for what it gets, as plain Lean, and that it is so; without a condition but those that stand in each theorem. -/
import Derived.Test.YtmoiedlfimodeaaGreatDoorW1
import Derived.Test.YtmoiedlfimodeaaGreatDoorW2
import Derived.Test.YtmoiedlfimodeaaGreatDoorW3
import Derived.Test.YtmoiedlfimodeaaGreatDoorW4
import Derived.Test.YtmoiedlfimodeaaGreatDoorW5
import Derived.Test.YtmoiedlfimodeaaGreatDoorW6
import Derived.Test.YtmoiedlfimodeaaGreatDoorW7
import Derived.Test.YtmoiedlfimodeaaGreatDoorW8
import Derived.Test.YtmoiedlfimodeaaGreatDoorW9
import Derived.Test.YtmoiedlfimodeaaGreatDoorW10
import Derived.Test.YtmoiedlfimodeaaGreatDoorW11
import Derived.Test.YtmoiedlfimodeaaGreatDoorW12
import Derived.Test.YtmoiedlfimodeaaGreatDoorW13
set_option linter.all false
namespace Go.Proofs.Tt05
open Go Go.Ab
open Go.Proofs.YtmoiedlfimodeaaGreatDoor (iseat)
set_option linter.all false
set_option maxRecDepth 100000
set_option maxHeartbeats 4000000
attribute [local irreducible] W WL QOp NOp thenQ blockQ FinQ FinR WG FQ Want FinW WI WIL thenI blockI
def wsD (ws : List ByteArray) : D := .sl 1 ws.length (fun i => [.str (ws.getD i ⟨#[]⟩)])
theorem c37 {s : ByteArray} {c : UInt8} (h : s.size ≤ 1000000) : Contract Z0 37 [.str s, .int .u8 (c.toNat : Int)] (wsD (Tx.splitV s ⟨#[c]⟩)) := by
 have h2 := fn_contract (Z := iseat) (ats := [.str, .int .u8]) (ts := [.sl .str]) (E := E37) (fn := Tryz.f37) (c := bodyOf Tryz.f37) Tryz.func37 (by kernel_rfl) (by kernel_rfl) (by kernel_rfl) (by kernel_rfl) rfl (a := (s, (c.toNat : Int), ())) (x := Tx.splitV s ⟨#[c]⟩) ((e37 itN s (c.toNat : Int)).trans ((split04_eq s _).symm.trans (split04_ok h))) zh zh
 exact h2
theorem c39 {ws : List ByteArray} {m : Int} {l : List Int} {b : Bool} (hl : ws.length ≤ 1000000) (hs : ∀ w ∈ ws, w.size ≤ 1000000) (h : numbers ws m = some (l, b)) : Contract Z0 39 [.sl 1 ws.length (fun i => [.str (ws.getD i ⟨#[]⟩)]), .int .i64 m] (.tup [.sl 1 l.length (fun i => [.int .i64 (l.getD i 0)]), .bool b]) := by
 have h2 := fn_contract (Z := iseat) (ats := [.sl .str, .int .i64]) (ts := [.sl (.int .i64), .bool]) (E := E39) (fn := Tryz.f39) (c := bodyOf Tryz.f39) Tryz.func39 (by kernel_rfl) (by kernel_rfl) (by kernel_rfl) (by kernel_rfl) rfl (a := (ws, m, ())) (x := (l, b)) ((e39 itN ws m).trans ((numbers04_eq ws m).symm.trans ((numbers_same hl hs).trans h))) zh zh
 exact h2
theorem c32 {c : Convoy} {e : Int} (h : pCheck c = some e) : Contract Z0 32 [.agg (encD .Convoy c)] (.int .i64 e) := by
 have h2 := fn_contract (Z := iseat) (ats := [.Convoy]) (ts := [.int .i64]) (E := E32) (fn := Tryz.f32) (c := bodyOf Tryz.f32) Tryz.func32 (by kernel_rfl) (by kernel_rfl) (by kernel_rfl) (by kernel_rfl) rfl (a := (c, ())) (x := e) ((e32 itN c).trans ((rCheck_eq c).symm.trans ((check_same c).trans h))) zh zh
 exact h2
theorem read_bad {ws : List ByteArray} {c c' : Convoy} {b : Bool} (h : readR c ws = some (c', b)) : ContractR Z0 38 (encD .Convoy c) (encD .Convoy c') [wsD ws] (.bool b) := by
 have h2 := fn_contractR (Z := iseat) (bt := .Convoy) (ats := [.sl .str]) (ts := [.bool]) (E := E38) (fn := Tryz.f38) (c := bodyOf Tryz.f38) Tryz.func38 (by kernel_rfl) (by kernel_rfl) (by kernel_rfl) (by kernel_rfl) rfl (b := c) (a := (ws, ())) (y := c') (x := b) ((e38 itN c ws).trans ((readR_eq c ws).symm.trans h)) zh
 rw [toDL_enc, toDL_enc] at h2
 exact h2
structure Small (r : List ByteArray) : Prop where
 l : r.length ≤ 1000000
 s : ∀ w ∈ r, w.size ≤ 1000000
theorem read_truck {w0 w1 : ByteArray} {r : List ByteArray} {a b c s l h : Int} {ts : List Truck} (d : Bool) (hr : Small r) (h0 : eqB w0 bHold = false) (h1 : eqB w0 bTruck = true) (hu : eqB w1 bUp = !d) (hd : eqB w1 bDown = d) (hn : numbers r 3 = some ([s, l, h], true)) (hl : ts.length ≤ 1000000) :
  ContractN Z0 38 2 q3 (osT a b c ts.length (encTs ts)) (osT a b c (ts.length + 1) (addT ts (if d then 2 else 1) s l h)) mv1 [.bx 0 1 0, .sl 1 (r.length + 1 + 1) (fun i => [.str ((w0 :: w1 :: r).getD i ⟨#[]⟩)])] (.bool true) := by
 have cn : Contract Z0 39 [.sl 1 r.length (fun i => [.str (r.getD i ⟨#[]⟩)]), .int .i64 3] (.tup [.sl 1 3 (fun i => [.int .i64 ([s, l, h].getD i 0)]), .bool true]) := c39 hr.l hr.s hn
 have hlen : decide (((r.length + 1 + 1 : Nat) : Int) > 1) = true := decide_eq_true (by omega)
 refine contractN_intro (fn := Tryz.f38) Tryz.func38 rfl (by kernel_rfl) rfl (fun i j _ _ e => q3_inj i j e) ?_ ?_ (.pure _ (.bool _)) ?_ ?_
 ·intro i hi E z m f ho
  match i, hi, ho with
  | 0, _, ho => cases ho
  | 1, _, _ => exact (by decide : 900000000 ≤ 900000001)
 ·intro i hi
  match i, hi with
  | 0, _ => exact .box _ _
  | 1, _ => exact .arr _ _ _ _ _ _ _ _
 ·intro i j hi hj hji hm
  match i, j, hi, hj, hji, hm with
  | 0, _, _, _, _, hm => cases hm
  | 1, 0, _, _, _, _ => exact ⟨rfl, fun v b h => h⟩
  | 1, 1, _, _, hji, _ => exact absurd rfl hji
 intro w κ bs sv
 obtain ⟨wy, hwy⟩ : ∃ x : Int, x = if d then 2 else 1 := ⟨_, rfl⟩
 rw [← hwy]
 cases d
 all_goals
  repeat' (first
  | (apply WL_noE; apply rr; apply rr; apply rr; apply rr; apply rr)
  | (apply WL_q; apply rr; apply rr; apply q_mvY; apply rr; apply rr)
  | (apply WL_q; apply rr; apply rr; apply q_eqSB; apply rr; apply rr; apply rr; (first | exact h0 | exact h1 | exact hu | exact hd))
  | (apply WL_q; apply rr; apply rr; apply q_cmpB; apply rr; apply rr; apply rr; apply rr; exact hlen)
  | (apply WG_q; (first | (apply want_none; apply rr) | (apply want_some; apply rr; apply rr; apply rr)); apply rr; apply FQ_intro; intro _; apply q_eqSB; apply rr; apply rr; apply rr; (first | exact h1 | exact hu | exact hd))
  | (apply WG_q; (first | (apply want_none; apply rr) | (apply want_some; apply rr; apply rr; apply rr)); apply rr; apply FQ_intro; intro _; apply q_cmpB; apply rr; apply rr; apply rr; apply rr; exact hlen)
  | (apply WL_q; apply rr; apply rr; refine q_slF (i := 2) (j := r.length + 2) (f' := fun i => [.str (r.getD i ⟨#[]⟩)]) rfl rfl (.inr ⟨_, rfl, rfl⟩) (.inl ⟨rfl, rfl⟩) (by omega) (by omega) rfl rfl rfl rfl rfl (fun k _ => by rw [Nat.add_comm]; rfl))
  | (apply WG_n; (apply want_none; apply rr); refine f_app (f' := addT ts wy s l h) rfl rfl rfl rfl rfl rfl rfl rfl rfl rfl rfl rfl rfl rfl rfl ?_ ?_ rfl ?_ ?_; (show (ts.length + 1) * 56 ≤ _; omega); omega; exact (fun i hi => if_pos hi); exact (fun i hi => by rw [show i = 0 by omega, hwy]; exact addT_last _ _ _ _ _))
  | (apply WL_q; apply rr; apply rr; (first | (apply q_asI <;> apply rr) | (apply q_ldb <;> apply rr) | (apply q_fab <;> apply rr) | (apply q_mvB <;> apply rr) | (apply q_asB <;> apply rr) | (apply q_ldr <;> apply rr) | (apply q_len <;> apply rr) | (apply q_ext <;> apply rr) | (apply q_pkT <;> apply rr) | (apply q_pkF <;> apply rr) | (apply q_ia <;> (first | apply rr | omega)) | (apply q_ldba <;> apply rr) | (apply q_leno <;> apply rr) | (apply q_mvS <;> apply rr) | (apply q_asS <;> apply rr) | (apply q_mvX <;> apply rr) | (apply q_nck <;> apply rr) | (apply q_mvT <;> apply rr)))
  | apply W_seq
  | apply W_region
  | apply T_normal
  | apply WL_nil
  | apply T_ret
  | apply B_ret
  | apply W_skip
  | apply W_ret
  | apply W_block
  | (apply W_condT; apply rr)
  | (apply W_condF; apply rr)
  | (apply WL_call; apply rr; apply rr; rotate_left 1; apply rr; rotate_right 1; exact (cn); apply rr)
  | (apply WL_n; apply rr; (first | (apply n_stb <;> (first | apply rr | (intro _ e; cases e)))))
  | (apply WL_yes; apply rr; apply rr; apply rr)
  | apply W_regionG
  | (apply WG_nil; kernel_rfl)
  | (apply WG_q; (first | (apply want_none; apply rr) | (apply want_some; apply rr; apply rr; apply rr)); apply rr; first | (apply fq_bld <;> apply rr) | (apply fq_blda <;> apply rr) | (apply fq_fn; apply rr) | (apply fq_mf; apply rr) | (apply FQ_intro; intro _; (first | (apply q_asI <;> apply rr) | (apply q_ldb <;> apply rr) | (apply q_fab <;> apply rr) | (apply q_mvB <;> apply rr) | (apply q_asB <;> apply rr) | (apply q_ldr <;> apply rr) | (apply q_len <;> apply rr) | (apply q_ext <;> apply rr) | (apply q_pkT <;> apply rr) | (apply q_pkF <;> apply rr) | (apply q_ia <;> (first | apply rr | omega)) | (apply q_ldba <;> apply rr) | (apply q_leno <;> apply rr) | (apply q_mvS <;> apply rr) | (apply q_asS <;> apply rr) | (apply q_mvX <;> apply rr) | (apply q_nck <;> apply rr) | (apply q_mvT <;> apply rr))))
  | (apply WG_n; (first | (apply want_none; apply rr) | (apply want_some; apply rr; apply rr; apply rr)); (first | (apply f_alloc <;> apply rr) | (apply f_stb <;> (first | apply rr | (intro _ e; cases e))) | (apply f_bsl <;> apply rr))))
 all_goals refine ⟨_, [.bool true], .bool true, Wk.refl _ _, ?_, ?_, fun _ _ _ _ h => h, .pure _ (.bool _)⟩
 all_goals first | exact finT rfl rfl rfl (fun i _ => pure_addT _ _ _ _ _ i) | exact ⟨rfl, trivial⟩
theorem read_hold {w0 : ByteArray} {r : List ByteArray} {a b c x y : Int} {ts : List Truck} {t : Truck} {hs : List Hold} (hr : Small r) (h2 : eqB w0 bHold = true) (hn : numbers r 2 = some ([x, y], true)) (hl : ts.length ≤ 1000000) (hk : hs.length ≤ 1000000) :
  ContractN Z0 38 3 q3 (osH a b c ts t hs) (osH a b c ts t (hs ++ [Hold.mk x y])) mv2 [.bx 0 1 0, .sl 1 (r.length + 1) (fun i => [.str ((w0 :: r).getD i ⟨#[]⟩)])] (.bool true) := by
 have cn : Contract Z0 39 [.sl 1 r.length (fun i => [.str (r.getD i ⟨#[]⟩)]), .int .i64 2] (.tup [.sl 1 2 (fun i => [.int .i64 ([x, y].getD i 0)]), .bool true]) := c39 hr.l hr.s hn
 have hlen : decide (((ts.length + 1 : Nat) : Int) > 0) = true := decide_eq_true (by omega)
 have hkk : (((ts.length + 1 : Nat) : Int) - 1).toNat = ts.length := by omega
 have hcell : nth (holT ts t 1 ((((ts.length + 1 : Nat) : Int) - 1).toNat)) 4 = some (.os (XB + 2) 1) := by
  rw [hkk]; unfold holT; rw [if_pos rfl]; rfl
 have hover : ∀ d : D, d.isCell = true → overN (holT ts t 1 ((((ts.length + 1 : Nat) : Int) - 1).toNat)) 4 [d] = some [.int .i64 t.Way, .int .i64 t.Start, .int .i64 t.Pace.Lo, .int .i64 t.Pace.Hi, d] := fun d _ => by
  rw [hkk]; unfold holT; rw [if_pos rfl]; rfl
 refine contractN_intro (fn := Tryz.f38) Tryz.func38 rfl (by kernel_rfl) rfl (fun i j _ _ e => q3_inj i j e) ?_ ?_ (.pure _ (.bool _)) ?_ ?_
 ·intro i hi E z m f ho
  match i, hi, ho with
  | 0, _, ho => cases ho
  | 1, _, _ => exact (by decide : 900000000 ≤ 900000001)
  | 2, _, _ => exact (by decide : 900000000 ≤ 900000002)
 ·intro i hi
  match i, hi with
  | 0, _ => exact .box _ _
  | 1, _ => exact .arr _ _ _ _ _ _ _ _
  | 2, _ => exact .arr _ _ _ _ _ _ _ _
 ·intro i j hi hj hji hm
  match i, j, hi, hj, hji, hm with
  | 0, _, _, _, _, hm => cases hm
  | 1, _, _, _, _, hm => cases hm
  | 2, 0, _, _, _, _ => exact ⟨rfl, fun v b h => h⟩
  | 2, 1, _, _, _, _ => exact ⟨rfl, fun v b h => h⟩
  | 2, 2, _, _, hji, _ => exact absurd rfl hji
 intro w κ bs sv
 repeat' (first
  | (apply WL_q; apply rr; apply rr; apply q_mvY; apply rr; apply rr)
  | (apply WL_q; apply rr; apply rr; apply q_eqSB; apply rr; apply rr; apply rr; exact h2)
  | (apply WL_q; apply rr; apply rr; apply q_cmpB; apply rr; apply rr; apply rr; apply rr; exact hlen)
  | (apply WG_q; (first | (apply want_none; apply rr) | (apply want_some; apply rr; apply rr; apply rr)); apply rr; apply FQ_intro; intro _; apply q_eqSB; apply rr; apply rr; apply rr; exact h2)
  | (apply WL_q; apply rr; apply rr; refine q_slF (i := 1) (j := r.length + 1) (f' := fun i => [.str (r.getD i ⟨#[]⟩)]) rfl rfl (.inr ⟨_, rfl, rfl⟩) (.inl ⟨rfl, rfl⟩) (by omega) (by omega) rfl rfl rfl rfl rfl (fun k _ => by rw [Nat.add_comm]; rfl))
  | (apply WG_q; (first | (apply want_none; apply rr) | (apply want_some; apply rr; apply rr; apply rr)); apply rr; apply FQ_intro; intro _; apply q_ldo; apply rr; apply rr; apply rr; apply rr; apply rr; apply rr; apply rr; omega; exact hcell)
  | (apply WG_n; (apply want_none; apply rr); refine f_sto rfl rfl rfl rfl ?_ rfl rfl rfl rfl rfl (hover _ rfl) rfl; omega)
  | (apply WG_n; (apply want_none; apply rr); refine f_app (n' := (hs ++ [Hold.mk x y]).length) (f' := encHs (hs ++ [Hold.mk x y])) rfl rfl rfl rfl rfl rfl rfl rfl rfl rfl rfl rfl rfl rfl rfl ?_ ?_ ?_ ?_ ?_; (show (hs.length + 1) * 16 ≤ _; omega); omega; (exact List.length_append); exact (fun i hi => encHs_lt hi); exact (fun i hi => by rw [show i = 0 by omega]; exact encHs_at _ _))
  | (apply WL_q; apply rr; apply rr; (first | (apply q_mvI <;> apply rr) | (apply q_asI <;> apply rr) | (apply q_ldb <;> apply rr) | (apply q_fab <;> apply rr) | (apply q_mvB <;> apply rr) | (apply q_asB <;> apply rr) | (apply q_ldr <;> apply rr) | (apply q_arith <;> (first | apply rr | omega)) | (apply q_ext <;> apply rr) | (apply q_pkT <;> apply rr) | (apply q_ia <;> (first | apply rr | omega)) | (apply q_ldo <;> (first | apply rr | omega)) | (apply q_fao <;> apply rr) | (apply q_iao <;> (first | apply rr | omega)) | (apply q_leno <;> apply rr) | (apply q_mvS <;> apply rr) | (apply q_asS <;> apply rr) | (apply q_mvX <;> apply rr) | (apply q_nck <;> apply rr) | (apply q_mvT <;> apply rr)))
  | apply W_seq
  | apply W_region
  | apply T_normal
  | apply WL_nil
  | apply T_ret
  | apply B_ret
  | apply W_ret
  | apply W_block
  | (apply W_condT; apply rr)
  | (apply WL_call; apply rr; apply rr; rotate_left 1; apply rr; rotate_right 1; exact (cn); apply rr)
  | (apply WL_yes; apply rr; apply rr; apply rr)
  | apply W_regionG
  | (apply WG_nil; kernel_rfl)
  | (apply WG_q; (first | (apply want_none; apply rr) | (apply want_some; apply rr; apply rr; apply rr)); apply rr; first | (apply fq_bld <;> apply rr) | (apply fq_blda <;> apply rr) | (apply fq_fn; apply rr) | (apply fq_mf; apply rr) | (apply FQ_intro; intro _; (first | (apply q_mvI <;> apply rr) | (apply q_asI <;> apply rr) | (apply q_ldb <;> apply rr) | (apply q_fab <;> apply rr) | (apply q_mvB <;> apply rr) | (apply q_asB <;> apply rr) | (apply q_ldr <;> apply rr) | (apply q_arith <;> (first | apply rr | omega)) | (apply q_ext <;> apply rr) | (apply q_pkT <;> apply rr) | (apply q_ia <;> (first | apply rr | omega)) | (apply q_ldo <;> (first | apply rr | omega)) | (apply q_fao <;> apply rr) | (apply q_iao <;> (first | apply rr | omega)) | (apply q_leno <;> apply rr) | (apply q_mvS <;> apply rr) | (apply q_asS <;> apply rr) | (apply q_mvX <;> apply rr) | (apply q_nck <;> apply rr) | (apply q_mvT <;> apply rr))))
  | (apply WG_n; (first | (apply want_none; apply rr) | (apply want_some; apply rr; apply rr; apply rr)); (first | (apply f_bsl <;> apply rr) | (apply f_sto <;> (first | apply rr | omega)))))
 refine ⟨_, [.bool true], .bool true, Wk.refl _ _, ?_, ?_, fun _ _ _ _ h => h, .pure _ (.bool _)⟩
 ·exact finH rfl rfl rfl rfl (fun i => holT_upd hkk i) rfl
 ·exact ⟨rfl, trivial⟩
end Go.Proofs.Tt05
namespace Go.Proofs.Tt05
open Go Go.Ab
open Go.Proofs.YtmoiedlfimodeaaGreatDoor (iseat)
set_option linter.all false
set_option maxRecDepth 100000
set_option maxHeartbeats 4000000
attribute [local irreducible] W WL QOp NOp thenQ blockQ FinQ FinR WG FQ Want FinW WI WIL thenI blockI
def zB : Nat × Ab.Own := (2, .box [.int .i64 0, .int .i64 0, .int .i64 0, .nil])
def osG6 (c : Convoy) (h : Nat → Nat) : List (Nat × Ab.Own) := [zB, (6, .box (bxR c.Length c.Gap c.Fails 100 (h 100))), (100, .arr 45 5 c.Trucks.length (lhT c.Trucks (h 101))), (101, .arr 76 2 (lastH c.Trucks).length (encHs (lastH c.Trucks)))]
def osZ6 : List (Nat × Ab.Own) := [zB, (6, .box [.int .i64 0, .int .i64 0, .int .i64 0, .nil])]
def osR6 (x : Nat × Convoy) (h : Nat → Nat) : List (Nat × Ab.Own) := if x.1 = 0 then osZ6 else osG6 x.2 h
def osP6 (c : Convoy) (h : Nat → Nat) : List (Nat × Ab.Own) := [zB, (6, .box (bxR c.Length c.Gap c.Fails 100 (h 100))), (100, .arr 45 5 c.Trucks.length (encTs c.Trucks))]
def osB6 (c : Convoy) : List (Nat × Ab.Own) := [zB, (6, .box (encD .Convoy c))]
theorem wk_trk6 {X : Ctx} {rs : List (Nat × D)} {c : Convoy} {h : Nat → Nat} (hx : ∀ s, s < 200 → X.xa s = false) : Wk X (mkF rs (osG6 c h) h bg0) (mkF rs (osP6 c h) h bg0) := by
 have hm : ∀ {S' : St}, Wk X (mkF rs (osG6 c h) h bg0) S' → S'.ρ = (mkF rs (osG6 c h) h bg0).ρ → S'.γ = h → S'.σ 2 = zB.2 → S'.σ 6 = .box (bxR c.Length c.Gap c.Fails 100 (h 100)) → S'.σ 100 = .arr 45 5 c.Trucks.length (encTs c.Trucks) → Wk X (mkF rs (osG6 c h) h bg0) (mkF rs (osP6 c h) h bg0) := fun {S'} hw hr hg h0 h2 h3 => by
  refine hw.trans (wk_gen (fun i => ?_) (fun s => ?_) (fun s => ?_))
  ·right; rw [hr]; rfl
  ·rw [hg]; exact Nat.le_refl _
  ·exact mk_sub (os := osP6 c h) (f := S'.σ) ⟨h0, h2, h3, trivial⟩ s
 by_cases hn : c.Trucks = []
 ·refine hm (Wk.refl _ _) rfl rfl rfl rfl ?_
  show Ab.Own.arr 45 5 c.Trucks.length (lhT c.Trucks (h 101)) = _
  rw [hn, show lhT [] (h 101) = encTs [] from funext fun i => if_neg (by simp)]
 ·have hl := List.length_pos_iff.2 hn
  have hw := wk_freeze_elem (X := X) (S := mkF rs (osG6 c h) h bg0) 100 (c.Trucks.length - 1) 4 (s := 101) (g := h 101) (E := 76) (z := 2) (n := (lastH c.Trucks).length) (f := encHs (lastH c.Trucks)) (E2 := 45) (z2 := 5) (n2 := c.Trucks.length) (f2 := lhT c.Trucks (h 101)) (f2' := encTs c.Trucks) (l0 := lastT (c.Trucks.getD (c.Trucks.length - 1) dfltTruck) 101 (h 101)) (l' := encTs c.Trucks (c.Trucks.length - 1)) rfl rfl (by omega) (by unfold lhT; rw [if_pos (by omega)]) rfl rfl rfl (by
   have e : lastH c.Trucks = (c.Trucks.getD (c.Trucks.length - 1) dfltTruck).Holds := by unfold lastH; rw [last_at hn]
   rw [e]; rfl) (fun k hk => by
   split
   ·rename_i e; rw [e]
   ·rename_i e; unfold lhT; rw [if_neg (by omega)]) (hx _ (by decide))
  refine hm hw rfl rfl ?_ ?_ ?_
  ·exact (upd_ne (upd (mkF rs (osG6 c h) h bg0).σ 101 .none) 100 2 (.arr 45 5 c.Trucks.length (encTs c.Trucks)) (by decide)).trans ((upd_ne (mkF rs (osG6 c h) h bg0).σ 101 2 .none (by decide)).trans rfl)
  ·exact (upd_ne (upd (mkF rs (osG6 c h) h bg0).σ 101 .none) 100 6 (.arr 45 5 c.Trucks.length (encTs c.Trucks)) (by decide)).trans ((upd_ne (mkF rs (osG6 c h) h bg0).σ 101 6 .none (by decide)).trans rfl)
  ·exact upd_same (upd (mkF rs (osG6 c h) h bg0).σ 101 .none) 100 (.arr 45 5 c.Trucks.length (encTs c.Trucks))
theorem wk_bad6 {X : Ctx} {rs : List (Nat × D)} {c : Convoy} {h : Nat → Nat} (hx : ∀ s, s < 200 → X.xa s = false) : Wk X (mkF rs (osP6 c h) h bg0) (mkF rs (osB6 c) h bg0) := by
 have hw := wk_freeze_cell (X := X) (S := mkF rs (osP6 c h) h bg0) 6 3 (s := 100) (g := h 100) (E := 45) (z := 5) (n := c.Trucks.length) (f := encTs c.Trucks) (l := bxR c.Length c.Gap c.Fails 100 (h 100)) (l' := encD .Convoy c) rfl rfl rfl rfl rfl (hx _ (by decide))
 refine hw.trans (wk_gen (fun i => .inr rfl) (fun s => Nat.le_refl _) (fun s => ?_))
 exact mk_sub (os := osB6 c) (f := upd (upd (mkF rs (osP6 c h) h bg0).σ 100 .none) 6 (.box (encD .Convoy c))) ⟨rfl, upd_same _ _ _, trivial⟩ s
theorem wk_zero6 {X : Ctx} {rs : List (Nat × D)} {h : Nat → Nat} : Wk X (mkF rs osZ6 h bg0) (mkF rs (osB6 zeroC) h bg0) := by
 have hw := wk_nilbox (X := X) (S := mkF rs osZ6 h bg0) 6 (l := [.int .i64 0, .int .i64 0, .int .i64 0, .nil]) (l' := encD .Convoy zeroC) rfl nil_zero
 refine hw.trans (wk_gen (fun i => .inr rfl) (fun s => Nat.le_refl _) (fun s => ?_))
 exact mk_sub (os := osB6 zeroC) (f := upd (mkF rs osZ6 h bg0).σ 6 (.box (encD .Convoy zeroC))) ⟨rfl, upd_same _ _ _, trivial⟩ s
theorem wk_all6 {X : Ctx} {rs : List (Nat × D)} {k : Nat} {x : Convoy} {h : Nat → Nat} (hz : k = 0 → x = zeroC) (hx : ∀ s, s < 200 → X.xa s = false) : Wk X (mkF rs (osR6 (k, x) h) h bg0) (mkF rs (osB6 x) h bg0) := by
 by_cases hk0 : k = 0
 ·rw [hz hk0, show osR6 (k, zeroC) h = osZ6 from if_pos hk0]; exact wk_zero6
 ·rw [show osR6 (k, x) h = osG6 x h from if_neg hk0]; exact (wk_trk6 hx).trans (wk_bad6 hx)
def pR6 (i : Nat) : Nat := match i with | 0 => 6 | 1 => 100 | i + 2 => 101 + i
theorem pR6_inj : ∀ i j, i < 3 → j < 3 → pR6 i = pR6 j → i = j
 | 0, 0, _, _, _ => rfl | 1, 1, _, _, _ => rfl | 2, 2, _, _, _ => rfl
 | 0, 1, _, _, e => by cases e
 | 0, 2, _, _, e => by cases e
 | 1, 0, _, _, e => by cases e
 | 1, 2, _, _, e => by cases e
 | 2, 0, _, _, e => by cases e
 | 2, 1, _, _, e => by cases e
 | i + 3, _, h, _, _ => by omega
 | _, i + 3, _, h, _ => by omega
section
variable {X : Ctx} {Q : Exit → St → Prop} {S : St} {ops : Array Oper} {o : Oper} {rest : List Oper}
theorem WL_truck6 {x0 x1 : Operand} {ty : Array TypeId} {a b c s l h w : Int} {ws : List ByteArray} {nw : Nat} {ts : List Truck} {tt : Nat} (hZ : X.Z = Z0) (hc : ContractN Z0 38 2 q3 (osT a b c ts.length (encTs ts)) (osT a b c (ts.length + 1) (addT ts w s l h)) mv1 [.bx 0 1 0, .sl 1 nw (fun i => [.str (ws.getD i ⟨#[]⟩)])] (.bool true))
  (hg : o.guard = none) (ho : o.op = .call { callee := .value (.func 38), args := #[x0, x1], argTypes := ty }) (h0 : S.ev X x0 = .bx 6 (S.γ 6) 0) (h1 : S.ev X x1 = .sl 1 nw (fun i => [.str (ws.getD i ⟨#[]⟩)])) (hd : o.dst = some tt)
  (s2 : S.σ 6 = .box (bxR a b c 100 (S.γ 100))) (s1 : S.σ 100 = .arr 45 5 ts.length (encTs ts))
  (hk : WL X ops rest Q ⟨upd S.ρ tt (.bool true), upd S.γ 100 (S.γ 100 + 1), upd (upd S.σ 6 (.box (bxR a b c 100 (S.γ 100 + 1)))) 100 (.arr 45 5 (ts.length + 1) (addT ts w s l h))⟩) : WL X ops (o :: rest) Q S := by
 rw [← hZ] at hc
 have i2 : ∀ i, i < 2 → i = 0 ∨ i = 1 := fun i hi => by omega
 refine WL_callN (n := 2) (q := q3) (ps := pR6) (c := []) (fun i j hi hj e => pR6_inj i j (by omega) (by omega) e) (fun i j _ _ e => q3_inj i j e) hg ho rfl (fun i hi => ?_) ?_ hc (γ' := upd S.γ 100 (S.γ 100 + 1)) (fun s hs => upd_ne _ _ _ _ (fun e => hs 1 (by decide) e.symm)) (fun i hi => ?_) (.pure _ (.bool _)) hd (σ' := upd (upd S.σ 6 (.box (bxR a b c 100 (S.γ 100 + 1)))) 100 (.arr 45 5 (ts.length + 1) (addT ts w s l h))) (fun s hs => (upd_ne _ _ _ _ (fun e => hs 1 (by decide) e.symm)).trans (upd_ne _ _ _ _ (fun e => hs 0 (by decide) e.symm))) (fun i hi => ?_) hk
 ·rcases i2 i hi with rfl | rfl
  ·rw [show S.σ (pR6 0) = _ from s2]; exact .box _ _ (rn_bxG (p := pR6) (g := fun j => S.γ (pR6 j)) (p' := q3) (g' := one) a b c (by decide))
  ·rw [show S.σ (pR6 1) = _ from s1]; exact .arrP _ _ _ _ (fun i _ => pure_T _)
 ·show RnL _ _ _ _ _ [S.ev X x0, S.ev X x1] _
  rw [h0, h1]
  exact .cons _ _ _ _ (Rn.bx (p := pR6) (g := fun j => S.γ (pR6 j)) (p' := q3) (g' := one) 0 0 (by decide)) (.cons _ _ _ _ (.pure _ (.sl _ _ _ (fun i _ => PureL.cons (.str _) PureL.nil))) .nil)
 ·rcases i2 i hi with rfl | rfl
  ·exact upd_ne _ _ _ _ (by decide)
  ·exact upd_same _ _ _
 ·rcases i2 i hi with rfl | rfl
  ·rw [show upd (upd S.σ 6 (.box (bxR a b c 100 (S.γ 100 + 1)))) 100 (.arr 45 5 (ts.length + 1) (addT ts w s l h)) (pR6 0) = .box (bxR a b c 100 (S.γ 100 + 1)) from (upd_ne _ _ _ _ (by decide)).trans (upd_same _ _ _)]
   have := rn_bxG (n := 2) (p := q3) (g := one) (p' := pR6) (g' := fun j => upd S.γ 100 (S.γ 100 + 1) (pR6 j)) a b c (by decide)
   simp only [show pR6 1 = 100 from rfl, upd_same] at this
   exact .box _ _ this
  ·rw [show upd (upd S.σ 6 (.box (bxR a b c 100 (S.γ 100 + 1)))) 100 (.arr 45 5 (ts.length + 1) (addT ts w s l h)) (pR6 1) = _ from upd_same _ _ _]
   exact .arrP _ _ _ _ (fun i _ => pure_addT _ _ _ _ _ i)
theorem WL_hold6 {x0 x1 : Operand} {ty : Array TypeId} {a b c : Int} {ws : List ByteArray} {nw : Nat} {ts : List Truck} {t : Truck} {hs hs' : List Hold} {tt : Nat} (hZ : X.Z = Z0) (hc : ContractN Z0 38 3 q3 (osH a b c ts t hs) (osH a b c ts t hs') mv2 [.bx 0 1 0, .sl 1 nw (fun i => [.str (ws.getD i ⟨#[]⟩)])] (.bool true))
  (hg : o.guard = none) (ho : o.op = .call { callee := .value (.func 38), args := #[x0, x1], argTypes := ty }) (h0 : S.ev X x0 = .bx 6 (S.γ 6) 0) (h1 : S.ev X x1 = .sl 1 nw (fun i => [.str (ws.getD i ⟨#[]⟩)])) (hd : o.dst = some tt)
  (s2 : S.σ 6 = .box (bxR a b c 100 (S.γ 100))) (s1 : S.σ 100 = .arr 45 5 (ts.length + 1) (holG ts t (S.γ 101))) (s3 : S.σ 101 = .arr 76 2 hs.length (encHs hs))
  (hk : WL X ops rest Q ⟨upd S.ρ tt (.bool true), upd S.γ 101 (S.γ 101 + 1), upd (upd S.σ 100 (.arr 45 5 (ts.length + 1) (holG ts t (S.γ 101 + 1)))) 101 (.arr 76 2 hs'.length (encHs hs'))⟩) : WL X ops (o :: rest) Q S := by
 rw [← hZ] at hc
 have i3 : ∀ i, i < 3 → i = 0 ∨ i = 1 ∨ i = 2 := fun i hi => by omega
 have key : ∀ {p p' g g' : Nat → Nat}, ∀ i, RnL 3 p g p' g' (if i = ts.length then lastT t (p 2) (g 2) else encTs ts i) (if i = ts.length then lastT t (p' 2) (g' 2) else encTs ts i) := fun {p p' g g'} i => by
  split
  ·exact rn_lastG t (by decide)
  ·exact rnLp (pure_T _)
 refine WL_callN (n := 3) (q := q3) (ps := pR6) (c := []) (fun i j hi hj e => pR6_inj i j hi hj e) (fun i j _ _ e => q3_inj i j e) hg ho rfl (fun i hi => ?_) ?_ hc (γ' := upd S.γ 101 (S.γ 101 + 1)) (fun s hs => upd_ne _ _ _ _ (fun e => hs 2 (by decide) e.symm)) (fun i hi => ?_) (.pure _ (.bool _)) hd (σ' := upd (upd S.σ 100 (.arr 45 5 (ts.length + 1) (holG ts t (S.γ 101 + 1)))) 101 (.arr 76 2 hs'.length (encHs hs'))) (fun s hs => (upd_ne _ _ _ _ (fun e => hs 2 (by decide) e.symm)).trans (upd_ne _ _ _ _ (fun e => hs 1 (by decide) e.symm))) (fun i hi => ?_) hk
 ·rcases i3 i hi with rfl | rfl | rfl
  ·rw [show S.σ (pR6 0) = _ from s2]; exact .box _ _ (rn_bxG (p := pR6) (g := fun j => S.γ (pR6 j)) (p' := q3) (g' := one) a b c (by decide))
  ·rw [show S.σ (pR6 1) = _ from s1]; exact .arr _ _ _ _ _ (fun i _ => key (p := pR6) (g := fun j => S.γ (pR6 j)) (p' := q3) (g' := one) i)
  ·rw [show S.σ (pR6 2) = _ from s3]; exact .arrP _ _ _ _ (fun i _ => encD_pure _ _)
 ·show RnL _ _ _ _ _ [S.ev X x0, S.ev X x1] _
  rw [h0, h1]
  exact .cons _ _ _ _ (Rn.bx (p := pR6) (g := fun j => S.γ (pR6 j)) (p' := q3) (g' := one) 0 0 (by decide)) (.cons _ _ _ _ (.pure _ (.sl _ _ _ (fun i _ => PureL.cons (.str _) PureL.nil))) .nil)
 ·rcases i3 i hi with rfl | rfl | rfl
  ·exact upd_ne _ _ _ _ (by decide)
  ·exact upd_ne _ _ _ _ (by decide)
  ·exact upd_same _ _ _
 ·rcases i3 i hi with rfl | rfl | rfl
  ·rw [show upd (upd S.σ 100 (.arr 45 5 (ts.length + 1) (holG ts t (S.γ 101 + 1)))) 101 (.arr 76 2 hs'.length (encHs hs')) (pR6 0) = .box (bxR a b c 100 (S.γ 100)) from (upd_ne _ _ _ _ (by decide)).trans ((upd_ne _ _ _ _ (by decide)).trans s2)]
   have := rn_bxG (n := 3) (p := q3) (g := one) (p' := pR6) (g' := fun j => upd S.γ 101 (S.γ 101 + 1) (pR6 j)) a b c (by decide)
   simp only [show pR6 1 = 100 from rfl, upd_ne S.γ 101 100 (S.γ 101 + 1) (by decide)] at this
   exact .box _ _ this
  ·rw [show upd (upd S.σ 100 (.arr 45 5 (ts.length + 1) (holG ts t (S.γ 101 + 1)))) 101 (.arr 76 2 hs'.length (encHs hs')) (pR6 1) = _ from (upd_ne _ _ _ _ (by decide)).trans (upd_same _ _ _)]
   refine .arr _ _ _ _ _ (fun i _ => ?_)
   have := key (p := q3) (g := one) (p' := pR6) (g' := fun j => upd S.γ 101 (S.γ 101 + 1) (pR6 j)) i
   simp only [show pR6 2 = 101 from rfl, upd_same] at this
   exact this
  ·rw [show upd (upd S.σ 100 (.arr 45 5 (ts.length + 1) (holG ts t (S.γ 101 + 1)))) 101 (.arr 76 2 hs'.length (encHs hs')) (pR6 2) = _ from upd_same _ _ _]
   exact .arrP _ _ _ _ (fun i _ => encD_pure _ _)
end
theorem osG6_snoc (L G F : Int) (ts : List Truck) (t : Truck) (h : Nat → Nat) : osG6 ⟨L, G, F, ts ++ [t]⟩ h = [zB, (6, .box (bxR L G F 100 (h 100))), (100, .arr 45 5 (ts.length + 1) (holG ts t (h 101))), (101, .arr 76 2 t.Holds.length (encHs t.Holds))] := by
 unfold osG6
 rw [lhT_snoc, lastH_snoc, List.length_append]; rfl
section
variable {X : Ctx} {S : St}
theorem end_road6 {rs : List (Nat × D)} {a b g : Int} (hr : AllE S.ρ rs) (s0 : S.σ 2 = zB.2) (s2 : S.σ 6 = .box [.int .i64 a, .int .i64 b, .int .i64 g, .nil]) (s1 : S.σ 100 = .none) :
  ∃ S'', Wk X S S'' ∧ S''.ρ = S.ρ ∧ (∀ s, s < 100 → S''.γ s = S.γ s) ∧ AllE S''.σ (osG6 ⟨a, b, g, []⟩ S''.γ) := by
 have w1 := wk_nilc (X := X) (S := S) 6 3 100 45 5 (lhT [] (S.γ 101 + 1)) (l' := bxR a b g 100 (S.γ 100 + 1)) s2 rfl s1 rfl rfl
 have w2 := wk_new (X := X) (S := ⟨S.ρ, upd S.γ 100 (S.γ 100 + 1), upd (upd S.σ 100 (.arr 45 5 0 (lhT [] (S.γ 101 + 1)))) 6 (.box (bxR a b g 100 (S.γ 100 + 1)))⟩) 101 76 2 (encHs [])
 exact ⟨_, w1.trans w2, rfl, fun s hs => (upd_ne _ _ _ _ (by omega)).trans (upd_ne _ _ _ _ (by omega)), s0, rfl, rfl, rfl, trivial⟩
theorem end_truck6 {a b c w s l h : Int} {ts : List Truck} (s0 : S.σ 2 = zB.2) (s2 : S.σ 6 = .box (bxR a b c 100 (S.γ 100))) (s1 : S.σ 100 = .arr 45 5 (ts.length + 1) (addT ts w s l h)) :
  ∃ S'', Wk X S S'' ∧ S''.ρ = S.ρ ∧ (∀ s, s < 100 → S''.γ s = S.γ s) ∧ AllE S''.σ (osG6 ⟨a, b, c, ts ++ [⟨w, s, ⟨l, h⟩, []⟩]⟩ S''.γ) := by
 have w1 := wk_nil_elem (X := X) (S := S) 100 ts.length 4 101 76 2 (encHs []) (f2' := holG ts ⟨w, s, ⟨l, h⟩, []⟩ (S.γ 101 + 1)) (l' := lastT ⟨w, s, ⟨l, h⟩, []⟩ 101 (S.γ 101 + 1)) s1 (by decide) (Nat.lt_succ_self _) (by unfold addT; rw [if_neg (Nat.lt_irrefl _)]; rfl) (by unfold addT; rw [if_neg (Nat.lt_irrefl _)]; rfl) (fun k hk => by
  unfold holG addT
  by_cases e : k = ts.length
  ·rw [if_pos e, if_pos e]
  ·rw [if_neg e, if_neg e, if_pos (by omega)])
 refine ⟨_, w1, rfl, fun s hs => upd_ne _ _ _ _ (by omega), ?_⟩
 rw [osG6_snoc]
 exact ⟨s0, s2, rfl, rfl, trivial⟩
theorem end_hold6 {a b c x y : Int} {ts : List Truck} {t : Truck} (s0 : S.σ 2 = zB.2) (s2 : S.σ 6 = .box (bxR a b c 100 (S.γ 100))) (s1 : S.σ 100 = .arr 45 5 (ts.length + 1) (holG ts t (S.γ 101))) (s3 : S.σ 101 = .arr 76 2 (t.Holds ++ [Hold.mk x y]).length (encHs (t.Holds ++ [Hold.mk x y]))) :
  AllE S.σ (osG6 ⟨a, b, c, ts ++ [⟨t.Way, t.Start, t.Pace, t.Holds ++ [Hold.mk x y]⟩]⟩ S.γ) := by
 rw [osG6_snoc]
 exact ⟨s0, s2, s1, s3, trivial⟩
end
def rsM (ini : List ByteArray) (lst : ByteArray) (k : Nat) (h : Nat → Nat) : List (Nat × D) := [(2, .bx 2 (h 2) 0), (5, .sl 1 (ini.length + 1) (rowsD (ini ++ [lst]))), (6, .bx 6 (h 6) 0), (7, .int .i64 (k : Int))]
theorem fin_conv6 {X : Ctx} {S : St} {l : List D} {c : Convoy} {a b : Int} (hZ : X.Z = Z0) (e2 : S.ev X (.tmp 2) = .bx 2 (S.γ 2) 0) (e3 : S.ev X (.tmp 3) = .int .i64 a) (e4 : S.ev X (.tmp 4) = .int .i64 b) (s2 : S.σ 2 = .box l) (hl : NilL l (encD .Convoy c)) : FinN X [.cell 2 24, .tmp 3, .tmp 4] (.tup [.agg (encD .Convoy c), .int .i64 a, .int .i64 b]) .ret S := fin_conv hZ e2 e3 e4 s2 hl
theorem endW6 {X : Ctx} {S : St} {ini : List ByteArray} {lst : ByteArray} {k' : Nat} {c' : Convoy} {P M : Prop} (h : ∃ S'', Wk X S S'' ∧ S''.ρ = S.ρ ∧ (∀ s, s < 100 → S''.γ s = S.γ s) ∧ AllE S''.σ (osG6 c' S''.γ)) (hk : k' ≠ 0) (hr : AllE S.ρ (rsM ini lst k' S.γ)) (hp : P) (hm : M) :
  ∃ S'', P ∧ M ∧ Wk X S S'' ∧ MatchF S'' (rsM ini lst k' S''.γ) (osR6 (k', c') S''.γ) bg0 := by
 obtain ⟨S'', h1, h2, h3, h4⟩ := h
 refine ⟨S'', hp, hm, h1, ?_, ?_, fun _ _ => .inl rfl⟩
 ·rw [h2]
  unfold rsM at hr ⊢
  rw [h3 2 (by decide), h3 6 (by decide)]; exact hr
 ·rw [show osR6 (k', c') S''.γ = osG6 c' S''.γ from if_neg hk]; exact h4
theorem small_of {row : ByteArray} {w0 : ByteArray} {r : List ByteArray} (hs : row.size ≤ 1000000 - 1) (h : Words row (w0 :: r)) : Small r := by
 have P : Pieces row 32 (w0 :: r) := h.eq ▸ pieces row 32
 have := P.len
 rw [List.length_cons] at this
 exact ⟨by omega, fun w hw => Nat.le_trans (P.mem w (List.mem_cons_of_mem _ hw)) (by omega)⟩
theorem words_c {row : ByteArray} {w0 : ByteArray} {r : List ByteArray} (hs : row.size ≤ 1000000 - 1) (h : Tx.splitV row bSp = w0 :: r) : Contract Z0 37 [.str row, .int .u8 32] (.sl 1 (r.length + 1) (fun i => [.str ((w0 :: r).getD i ⟨#[]⟩)])) := by
 have := c37 (s := row) (c := 32) (by omega)
 rw [show Tx.splitV row ⟨#[32]⟩ = w0 :: r from h] at this
 exact this
theorem c12 {text : ByteArray} {c : Convoy} {row e : Int} (h : readF text = some (c, row, e)) : Contract Z0 12 [.str text] (.tup [.agg (encD .Convoy c), .int .i64 row, .int .i64 e]) := by
 unfold readF at h
 refine contract_introN (fn := Tryz.f12) Tryz.func12 rfl (by kernel_rfl) rfl (PureL.cons (.str _) PureL.nil) (.tup _ (PureL.cons (.agg _ (encD_pure _ _)) (PureL.cons (.int _ _) (PureL.cons (.int _ _) PureL.nil)))) ?_
 intro w κ
 cases hsz : decide ((text.size : Int) > 20000)
 case' true =>
  rw [hsz] at h
  cases h
 case' false =>
  rw [hsz] at h
  have hts : text.size ≤ 20000 := by have := of_decide_eq_false hsz; omega
  obtain ⟨ho, h⟩ := chk_some h
  obtain ⟨lst, hl, h⟩ : ∃ lst, (Tx.splitV text bNl).getLast? = some lst ∧ chk (decide ((Tx.splitV text bNl).length ≤ 1000000)) ((readL (Tx.splitV text bNl).dropLast 0 zeroC).bind (readT ((Tx.splitV text bNl).length - 1) lst)) = some (c, row, e) := by
   split at h
   ·cases h
   ·rename_i lst hl
    exact ⟨lst, hl, h⟩
  obtain ⟨hm, h⟩ := chk_some h
  obtain ⟨ini, hini⟩ := List.getLast?_eq_some_iff.1 hl
  have PT : Pieces text 10 (ini ++ [lst]) := hini ▸ pieces text 10
  have cw : Contract Z0 37 [.str text, .int .u8 10] (.sl 1 (ini.length + 1) (rowsD (ini ++ [lst]))) := by
   have := c37 (s := text) (c := 10) (by omega)
   rw [show Tx.splitV text ⟨#[10]⟩ = ini ++ [lst] from hini] at this
   have this : Contract Z0 37 [.str text, .int .u8 10] (.sl 1 (ini ++ [lst]).length (rowsD (ini ++ [lst]))) := this
   rw [List.length_append] at this
   exact this
  rw [hini] at h
  rw [List.dropLast_concat, List.length_append, show ini.length + [lst].length - 1 = ini.length from rfl] at h
  have hm : ini.length + 1 ≤ 1000000 := by
   have := PT.len
   rw [List.length_append] at this
   have h1 : [lst].length = 1 := rfl
   omega
  have hsub : ((ini.length + 1 : Nat) : Int) - 1 = (ini.length : Int) := by omega
  clear hini hl ho
 all_goals
  repeat' (first
  | (apply WL_q; apply rr; apply rr; apply q_mvY; apply rr; apply rr)
  | (apply WL_q; apply rr; apply rr; apply q_lenS; apply rr; apply rr; apply rr; exact Tryz.underlying9)
  | (apply WL_q; apply rr; apply rr; apply q_cmpB; apply rr; apply rr; apply rr; apply rr; exact hsz)
  | (apply WL_q; apply rr; apply rr; (first | (apply q_mvI <;> apply rr) | (apply q_asI <;> apply rr) | (apply q_fab <;> apply rr) | (apply q_mvB <;> apply rr) | (apply q_asB <;> apply rr) | (apply q_not <;> apply rr) | (apply q_ldr <;> apply rr) | (apply q_arith <;> (first | apply rr | omega)) | (apply q_len <;> apply rr) | (apply q_ext <;> apply rr) | (apply q_pkT <;> apply rr) | (apply q_pkF <;> apply rr) | (apply q_ia <;> (first | apply rr | omega)) | (apply q_ldba <;> apply rr) | (apply q_bld <;> apply rr) | (apply q_mvS <;> apply rr) | (apply q_asS <;> apply rr) | (apply q_mvT <;> apply rr)))
  | apply W_seq
  | apply W_region
  | apply T_normal
  | apply WL_nil
  | apply T_exit
  | apply T_ret
  | apply B_normal
  | apply B_ret
  | apply B_exit_eq
  | apply W_skip
  | apply W_exit
  | apply W_ret
  | apply W_block
  | (apply W_condT; apply rr)
  | (apply W_condF; apply rr)
  | (apply WL_call; apply rr; apply rr; rotate_left 1; apply rr; rotate_right 1; exact (cw); apply rr)
  | (apply WL_n; apply rr; (first | (apply n_alloc <;> apply rr) | (apply n_stb <;> (first | apply rr | (intro _ e; cases e)))))
  | (apply WL_yes; apply rr; apply rr; apply rr)
  | apply W_regionG
  | (apply WG_nil; kernel_rfl)
  | (apply WG_q; (first | (apply want_none; apply rr) | (apply want_some; apply rr; apply rr; apply rr)); apply rr; first | (apply fq_bld <;> apply rr) | (apply fq_blda <;> apply rr) | (apply fq_fn; apply rr) | (apply fq_mf; apply rr) | (apply FQ_intro; intro _; (first | (apply q_mvI <;> apply rr) | (apply q_asI <;> apply rr) | (apply q_fab <;> apply rr) | (apply q_mvB <;> apply rr) | (apply q_asB <;> apply rr) | (apply q_not <;> apply rr) | (apply q_ldr <;> apply rr) | (apply q_arith <;> (first | apply rr | omega)) | (apply q_len <;> apply rr) | (apply q_ext <;> apply rr) | (apply q_pkT <;> apply rr) | (apply q_pkF <;> apply rr) | (apply q_ia <;> (first | apply rr | omega)) | (apply q_ldba <;> apply rr) | (apply q_bld <;> apply rr) | (apply q_mvS <;> apply rr) | (apply q_asS <;> apply rr) | (apply q_mvT <;> apply rr))))
  | (apply WG_n; (first | (apply want_none; apply rr) | (apply want_some; apply rr; apply rr; apply rr)); (first | (apply f_stb <;> (first | apply rr | (intro _ e; cases e))))))
 case true => exact fin_conv6 (c := zeroC) rfl rfl rfl rfl rfl nil_zero
 case false =>
  refine W_loopF (α := Nat × Convoy) (fun x h => rsM ini lst x.1 h) osR6 (fun _ _ => bg0) (fun x => x.1 ≤ ini.length ∧ (x.1 = 0 → x.2 = zeroC) ∧ x.2.Trucks.length ≤ x.1 ∧ (lastH x.2.Trucks).length ≤ x.1 ∧ (readL (ini.drop x.1) x.1 x.2).bind (readT ini.length lst) = some (c, row, e)) (fun x => ini.length - x.1) (0, zeroC) ⟨Nat.zero_le _, fun _ => rfl, Nat.le_refl _, Nat.le_refl _, h⟩ ⟨⟨rfl, rfl, rfl, rfl, trivial⟩, ⟨rfl, rfl, trivial⟩, fun _ _ => .inl rfl⟩ ?_
  clear h
  rintro ⟨k, x⟩ hh ⟨hk, hz, hb1, hb2, hr⟩
  simp only at hk hz hb1 hb2 hr ⊢
  by_cases hkn : k = ini.length
  ·rw [show ini.drop k = [] by rw [hkn]; exact List.drop_length] at hr
   have hr : readT ini.length lst (.ok x) = some (c, row, e) := hr
   have hge : decide ((k : Int) < (ini.length : Int)) = false := decide_eq_false (by omega)
   refine W_wk (wk_all6 hz fun _ _ => rfl) ?_
   unfold readT at hr
   simp only at hr
   have hgl : (ini ++ [lst]).getD ini.length ⟨#[]⟩ = lst := by simp [List.getD_eq_getElem?_getD]
   by_cases hz0 : ini.length = 0
   case' pos =>
    rw [if_pos hz0] at hr
    cases hr
    have hn0 : (((ini.length + 1 : Nat) : Int) == 1) = true := by rw [hz0]; rfl
   case' neg =>
    rw [if_neg hz0] at hr
    have hn0 : (((ini.length + 1 : Nat) : Int) == 1) = false := by simp; omega
    cases hl : eqB lst ⟨#[]⟩
    case' false =>
     rw [hl] at hr
     cases hr
     have hls : (!(((ini ++ [lst]).getD ini.length ⟨#[]⟩).toList == (⟨#[]⟩ : ByteArray).toList)) = true := by rw [hgl]; unfold eqB at hl; rw [hl]; rfl
    case' true =>
     rw [hl] at hr
     have hls : (!(((ini ++ [lst]).getD ini.length ⟨#[]⟩).toList == (⟨#[]⟩ : ByteArray).toList)) = false := by rw [hgl]; unfold eqB at hl; rw [hl]; rfl
     obtain ⟨e0, hp, hr⟩ := Option.bind_eq_some_iff.1 hr
     have cp := c32 hp
     cases hbe : (e0 != 0)
     case' true =>
      rw [hbe] at hr
      cases hr
     case' false =>
      rw [hbe] at hr
      cases hr
   all_goals
    repeat' (first
  | (apply WL_q; apply rr; apply rr; apply q_mvY; apply rr; apply rr)
  | (apply WL_q; apply rr; apply rr; refine q_arithB rfl rfl rfl rfl ?_ ?_ hsub; omega; omega)
  | (apply WL_q; apply rr; apply rr; apply q_cmpB; apply rr; apply rr; apply rr; apply rr; (first | exact hge | exact hn0 | exact hbe))
  | (apply WL_q; apply rr; apply rr; apply q_neSB; apply rr; apply rr; apply rr; exact hls)
  | (apply WL_noE; apply rr; apply rr; apply rr; apply rr; apply rr)
  | (apply WL_q; apply rr; apply rr; (first | (apply q_mvI <;> apply rr) | (apply q_asI <;> apply rr) | (apply q_fab <;> apply rr) | (apply q_mvB <;> apply rr) | (apply q_asB <;> apply rr) | (apply q_not <;> apply rr) | (apply q_ldr <;> apply rr) | (apply q_arith <;> (first | apply rr | omega)) | (apply q_len <;> apply rr) | (apply q_ext <;> apply rr) | (apply q_pkT <;> apply rr) | (apply q_pkF <;> apply rr) | (apply q_ia <;> (first | apply rr | omega)) | (apply q_ldba <;> apply rr) | (apply q_bld <;> apply rr) | (apply q_mvS <;> apply rr) | (apply q_asS <;> apply rr) | (apply q_mvT <;> apply rr)))
  | apply W_seq
  | apply W_region
  | apply T_normal
  | apply WL_nil
  | apply T_exit
  | apply T_ret
  | apply B_normal
  | apply B_ret
  | apply B_exit_eq
  | apply W_skip
  | apply W_exit
  | apply W_ret
  | apply W_block
  | (apply W_condT; apply rr)
  | (apply W_condF; apply rr)
  | (apply WL_call; apply rr; apply rr; rotate_left 1; apply rr; rotate_right 1; exact (cp); apply rr)
  | (apply WL_n; apply rr; (first | (apply n_alloc <;> apply rr) | (apply n_stb <;> (first | apply rr | (intro _ e; cases e)))))
  | (apply WL_yes; apply rr; apply rr; apply rr)
  | apply W_regionG
  | (apply WG_nil; kernel_rfl)
  | (apply WG_q; (first | (apply want_none; apply rr) | (apply want_some; apply rr; apply rr; apply rr)); apply rr; first | (apply fq_bld <;> apply rr) | (apply fq_blda <;> apply rr) | (apply fq_fn; apply rr) | (apply fq_mf; apply rr) | (apply FQ_intro; intro _; (first | (apply q_mvI <;> apply rr) | (apply q_asI <;> apply rr) | (apply q_fab <;> apply rr) | (apply q_mvB <;> apply rr) | (apply q_asB <;> apply rr) | (apply q_not <;> apply rr) | (apply q_ldr <;> apply rr) | (apply q_arith <;> (first | apply rr | omega)) | (apply q_len <;> apply rr) | (apply q_ext <;> apply rr) | (apply q_pkT <;> apply rr) | (apply q_pkF <;> apply rr) | (apply q_ia <;> (first | apply rr | omega)) | (apply q_ldba <;> apply rr) | (apply q_bld <;> apply rr) | (apply q_mvS <;> apply rr) | (apply q_asS <;> apply rr) | (apply q_mvT <;> apply rr))))
  | (apply WG_n; (first | (apply want_none; apply rr) | (apply want_some; apply rr; apply rr; apply rr)); (first | (apply f_stb <;> (first | apply rr | (intro _ e; cases e))))))
   all_goals first | exact fin_conv6 (c := zeroC) rfl rfl rfl rfl rfl nil_zero | exact fin_conv6 rfl rfl rfl rfl rfl ⟨.inl rfl, .inl rfl, .inl rfl, .inl rfl, trivial⟩
  have hlt : decide ((k : Int) < (ini.length : Int)) = true := decide_eq_true (by omega)
  have hkl : k < ini.length := by omega
  rw [List.drop_eq_getElem_cons hkl] at hr
  have hrow : ini[k] = (ini ++ [lst]).getD k ⟨#[]⟩ := by rw [List.getD_eq_getElem?_getD, List.getElem?_append_left hkl, List.getElem?_eq_getElem hkl]; rfl
  have hrs : ((ini ++ [lst]).getD k ⟨#[]⟩).size ≤ 1000000 - 1 := by
   have := PT.mem _ (List.mem_append_left [lst] (List.getElem_mem hkl))
   rw [hrow] at this
   omega
  rw [hrow] at hr
  unfold readL at hr
  obtain ⟨res, hr1, hr2⟩ := Option.bind_eq_some_iff.1 hr
  obtain ⟨ho, hr1⟩ := chk_some hr1
  have PW : Pieces ((ini ++ [lst]).getD k ⟨#[]⟩) 32 (Tx.splitV ((ini ++ [lst]).getD k ⟨#[]⟩) bSp) := pieces _ 32
  cases hg : goodRow k x (Tx.splitV ((ini ++ [lst]).getD k ⟨#[]⟩) bSp)
  case' none =>
   rw [hg] at hr1
   obtain ⟨⟨y, b⟩, ht, hr1⟩ := Option.bind_eq_some_iff.1 hr1
   obtain rfl : b = false := by
    cases b
    ·rfl
    ·cases hr1
   cases hr1
   cases hr2
   refine W_wk (wk_all6 hz fun _ _ => rfl) ?_
   obtain ⟨w0, r, hws⟩ := List.exists_cons_of_ne_nil PW.ne
   have cs := words_c hrs hws
   rcases Nat.eq_zero_or_pos k with hk0 | hk0
   case' inr =>
    have hgt : decide ((k : Int) > 0) = true := decide_eq_true (by omega)
    obtain ⟨k, rfl⟩ : ∃ j, k = j + 1 := ⟨k - 1, by omega⟩
    obtain ⟨⟨y2, b2⟩, h1, h2⟩ := readR_no hrs hg
    have h2 : b2 = false := h2
    subst h2
    have cb := read_bad h1
    rw [hws] at cb
   case' inl =>
    have hgt : decide ((k : Int) > 0) = false := decide_eq_false (by omega)
    have hS : Small r := small_of hrs ⟨okS_of (by omega), hws⟩
    obtain rfl : k = 0 := hk0
    rw [hws] at hg
    unfold goodRow at hg
    simp only at hg
    rw [if_pos trivial] at hg
    rcases num_cases (m := 3) hS.l hS.s with ⟨ns, h1, h2⟩ | ⟨ns, h1⟩
    case' inl =>
     obtain ⟨a, b, g, rfl⟩ := len3 h2
     have cn := c39 hS.l hS.s h1
     rw [h1] at hg
     have hnr : (!(w0.toList == (⟨#[114, 111, 97, 100]⟩ : ByteArray).toList)) = true := by
      cases hq : eqB w0 bRoad with
      | true => rw [hq] at hg; cases hg
      | false => show (!(eqB w0 bRoad)) = true; rw [hq]; rfl
    case' inr => have cn := c39 hS.l hS.s h1
  case' some =>
   rename_i c'
   rw [hg] at hr1
   have hG := good_of ho hg
   have hr3 : (readL (ini.drop (k + 1)) (k + 1) c').bind (readT ini.length lst) = some (c, row, e) := Option.bind_eq_some_iff.2 ⟨res, hr1, hr2⟩
   cases hG
   case' road w0 r a b g hk0 hw h0 hn =>
    subst hk0
    rw [show osR6 (0, x) hh = osZ6 from rfl]
    have hS := small_of hrs hw
    have cs := words_c hrs hw.eq
    have cn : Contract Z0 39 [.sl 1 r.length (fun i => [.str (r.getD i ⟨#[]⟩)]), .int .i64 3] (.tup [.sl 1 3 (fun i => [.int .i64 ([a, b, g].getD i 0)]), .bool true]) := c39 hS.l hS.s hn
    have hgt : decide (((0 : Nat) : Int) > 0) = false := rfl
    have hnr : (!(w0.toList == (⟨#[114, 111, 97, 100]⟩ : ByteArray).toList)) = false := by
     show (!(eqB w0 bRoad)) = false
     rw [h0]; rfl
   case' truck w0 w1 r d s l h hk0 hw h0 h1 hu hd hn =>
    have hS : Small (w1 :: r) := small_of hrs hw
    have hS2 : Small r := ⟨by have := hS.l; rw [List.length_cons] at this; omega, fun w hw => hS.s w (List.mem_cons_of_mem _ hw)⟩
    have cs := words_c hrs hw.eq
    have hnh : eqB w0 bHold = false := by rw [eqB_iff.1 h1]; exact eqB_mk wTruck wHold
    have crt := read_truck (a := x.Length) (b := x.Gap) (c := x.Fails) (ts := x.Trucks) d hS2 hnh h1 hu hd hn (by omega)
    have hgt : decide ((k : Int) > 0) = true := decide_eq_true (by omega)
    rw [show osR6 (k, x) hh = osG6 x hh from if_neg hk0]
    refine W_wk (wk_trk6 fun _ _ => rfl) ?_
   case' hold w0 r t p q hk0 hw h0 h1 h2 hl hn =>
    obtain ⟨ts, hts⟩ := List.getLast?_eq_some_iff.1 hl
    obtain ⟨L, G, F, tr⟩ := x
    simp only at hts
    subst hts
    have hb3 : ts.length + 1 ≤ k := by simpa using hb1
    have hb4 : t.Holds.length ≤ k := by simpa [lastH_snoc] using hb2
    have hS := small_of hrs hw
    have cs := words_c hrs hw.eq
    have crh := read_hold (a := L) (b := G) (c := F) (ts := ts) (t := t) (hs := t.Holds) hS h2 hn (by omega) (by omega)
    have hgt : decide ((k : Int) > 0) = true := decide_eq_true (by omega)
    rw [show osR6 (k, ⟨L, G, F, ts ++ [t]⟩) hh = osG6 ⟨L, G, F, ts ++ [t]⟩ hh from if_neg hk0, osG6_snoc]
  all_goals
   repeat' (first
  | (apply WL_q; apply rr; apply rr; apply q_mvY; apply rr; apply rr)
  | (apply WL_q; apply rr; apply rr; apply q_asY; apply rr; apply rr)
  | (apply WL_q; apply rr; apply rr; refine q_arithB rfl rfl rfl rfl ?_ ?_ hsub; omega; omega)
  | (apply WL_q; apply rr; apply rr; apply q_cmpB; apply rr; apply rr; apply rr; apply rr; (first | exact hlt | exact hgt))
  | (apply WL_q; apply rr; apply rr; refine q_slF (i := 1) (j := r.length + 1) (f' := fun i => [.str (r.getD i ⟨#[]⟩)]) rfl rfl (.inr ⟨_, rfl, rfl⟩) (.inl ⟨rfl, rfl⟩) (by omega) (by omega) rfl rfl rfl rfl rfl (fun k _ => by rw [Nat.add_comm]; rfl))
  | (apply WL_q; apply rr; apply rr; apply q_neSB; apply rr; apply rr; apply rr; exact hnr)
  | (apply WL_noE; apply rr; apply rr; apply rr; apply rr; apply rr)
  | (refine WL_callR (xs := [.tmp 32]) rfl rfl rfl rfl rfl cb rfl rfl ?_)
  | (refine WL_truck6 (a := x.Length) (b := x.Gap) (c := x.Fails) (ws := w0 :: w1 :: r) (ts := x.Trucks) rfl crt rfl rfl rfl rfl rfl rfl rfl ?_)
  | (refine WL_hold6 (a := L) (b := G) (c := F) (ws := w0 :: r) (ts := ts) rfl crh rfl rfl rfl rfl rfl rfl rfl rfl ?_)
  | (apply WL_q; apply rr; apply rr; (first | (apply q_mvI <;> apply rr) | (apply q_asI <;> apply rr) | (apply q_fab <;> apply rr) | (apply q_mvB <;> apply rr) | (apply q_asB <;> apply rr) | (apply q_not <;> apply rr) | (apply q_ldr <;> apply rr) | (apply q_arith <;> (first | apply rr | omega)) | (apply q_len <;> apply rr) | (apply q_ext <;> apply rr) | (apply q_pkT <;> apply rr) | (apply q_pkF <;> apply rr) | (apply q_ia <;> (first | apply rr | omega)) | (apply q_ldba <;> apply rr) | (apply q_bld <;> apply rr) | (apply q_mvS <;> apply rr) | (apply q_asS <;> apply rr) | (apply q_mvT <;> apply rr)))
  | apply W_seq
  | apply W_region
  | apply T_normal
  | apply WL_nil
  | apply T_exit
  | apply T_ret
  | apply B_normal
  | apply B_ret
  | apply B_exit_eq
  | apply W_skip
  | apply W_exit
  | apply W_ret
  | apply W_block
  | (apply W_condT; apply rr)
  | (apply W_condF; apply rr)
  | (apply WL_call; apply rr; apply rr; rotate_left 1; apply rr; rotate_right 1; exact (cs); apply rr)
  | (apply WL_call; apply rr; apply rr; rotate_left 1; apply rr; rotate_right 1; exact (cn); apply rr)
  | (apply WL_n; apply rr; (first | (apply n_alloc <;> apply rr) | (apply n_stb <;> (first | apply rr | (intro _ e; cases e)))))
  | (apply WL_yes; apply rr; apply rr; apply rr)
  | apply W_regionG
  | (apply WG_nil; kernel_rfl)
  | (apply WG_q; (first | (apply want_none; apply rr) | (apply want_some; apply rr; apply rr; apply rr)); apply rr; first | (apply fq_bld <;> apply rr) | (apply fq_blda <;> apply rr) | (apply fq_fn; apply rr) | (apply fq_mf; apply rr) | (apply FQ_intro; intro _; (first | (apply q_mvI <;> apply rr) | (apply q_asI <;> apply rr) | (apply q_fab <;> apply rr) | (apply q_mvB <;> apply rr) | (apply q_asB <;> apply rr) | (apply q_not <;> apply rr) | (apply q_ldr <;> apply rr) | (apply q_arith <;> (first | apply rr | omega)) | (apply q_len <;> apply rr) | (apply q_ext <;> apply rr) | (apply q_pkT <;> apply rr) | (apply q_pkF <;> apply rr) | (apply q_ia <;> (first | apply rr | omega)) | (apply q_ldba <;> apply rr) | (apply q_bld <;> apply rr) | (apply q_mvS <;> apply rr) | (apply q_asS <;> apply rr) | (apply q_mvT <;> apply rr))))
  | (apply WG_n; (first | (apply want_none; apply rr) | (apply want_some; apply rr; apply rr; apply rr)); (first | (apply f_stb <;> (first | apply rr | (intro _ e; cases e))))))
  case neg.some.road =>
   refine ⟨(0 + 1, ⟨a, b, g, []⟩), endW6 (end_road6 (rs := []) trivial rfl rfl rfl) (Nat.succ_ne_zero 0) ⟨rfl, rfl, rfl, rfl, trivial⟩ ⟨hkl, fun q => (by cases q), Nat.zero_le _, Nat.zero_le _, hr3⟩ ?_⟩
   show ini.length - (0 + 1) < ini.length - 0
   omega
  case neg.some.truck =>
   refine ⟨(k + 1, addTruck x d s l h), endW6 (end_truck6 rfl rfl rfl) (Nat.succ_ne_zero k) ⟨rfl, rfl, rfl, rfl, trivial⟩ ⟨hkl, fun q => absurd q (Nat.succ_ne_zero k), ?_, ?_, hr3⟩ ?_⟩
   ·show (x.Trucks ++ [_]).length ≤ k + 1
    rw [List.length_append]; exact Nat.succ_le_succ hb1
   ·show (lastH (x.Trucks ++ [_])).length ≤ k + 1
    rw [lastH_snoc]; exact Nat.zero_le _
   ·show ini.length - (k + 1) < ini.length - k
    omega
  case neg.some.hold =>
   have e : addHold ⟨L, G, F, ts ++ [t]⟩ t p q = ⟨L, G, F, ts ++ [⟨t.Way, t.Start, t.Pace, t.Holds ++ [Hold.mk p q]⟩]⟩ := by unfold addHold; simp
   rw [e] at hr3
   refine ⟨(k + 1, ⟨L, G, F, ts ++ [⟨t.Way, t.Start, t.Pace, t.Holds ++ [Hold.mk p q]⟩]⟩), endW6 ⟨_, Wk.refl _ _, rfl, fun _ _ => rfl, end_hold6 rfl rfl rfl rfl⟩ (Nat.succ_ne_zero k) ⟨rfl, rfl, rfl, rfl, trivial⟩ ⟨hkl, fun q => absurd q (Nat.succ_ne_zero k), ?_, ?_, hr3⟩ ?_⟩
   ·show (ts ++ [_]).length ≤ k + 1
    rw [List.length_append]; exact Nat.le_succ_of_le hb3
   ·show (lastH (ts ++ [_])).length ≤ k + 1
    rw [lastH_snoc, List.length_append]; exact Nat.succ_le_succ hb4
   ·show ini.length - (k + 1) < ini.length - k
    omega
  all_goals exact fin_conv6 (c := zeroC) rfl rfl rfl rfl rfl nil_zero
noncomputable section
def sp12 : FnSpec iseat.toSeat := mkSpec iseat.toSeat 12 [.str] [.Convoy, .int .i64, .int .i64] false (fun a => Read a.1) (fun a x hx h h' => by
 obtain ⟨t, u⟩ := a
 obtain ⟨c, r, e⟩ := x
 replace hx : Read t = some (c, r, e) := hx
 rw [Read_eq] at hx
 have h2 := c12 hx
 have e1 : (encR [.Convoy, .int .i64, .int .i64] (c, r, e)).toD h' = .tup [.agg (encD .Convoy c), .int .i64 r, .int .i64 e] := by
  show D.tup [.agg (I.toDL h' (encC .Convoy c)), _, _] = _
  rw [toDL_enc]; rfl
 rw [e1]; exact h2) (fun h => nomatch h)
end
end Go.Proofs.Tt05
