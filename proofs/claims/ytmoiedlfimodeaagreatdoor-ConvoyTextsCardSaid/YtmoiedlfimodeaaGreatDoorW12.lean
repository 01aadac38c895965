/- Walks by computing: what each function of the program that the laws reach gives for what it gets, as plain Lean, and that it is so; without a condition but those that stand in each theorem. -/
import Derived.Test.YtmoiedlfimodeaaGreatDoorW1
import Derived.Test.YtmoiedlfimodeaaGreatDoorW2
import Derived.Test.YtmoiedlfimodeaaGreatDoorW3
import Derived.Test.YtmoiedlfimodeaaGreatDoorW4
import Derived.Test.YtmoiedlfimodeaaGreatDoorW5
import Derived.Test.YtmoiedlfimodeaaGreatDoorW6
import Derived.Test.YtmoiedlfimodeaaGreatDoorW7
import Derived.Test.YtmoiedlfimodeaaGreatDoorW8
import Derived.Test.YtmoiedlfimodeaaGreatDoorW9
import Derived.Test.YtmoiedlfimodeaaGreatDoorW10
import Derived.Test.YtmoiedlfimodeaaGreatDoorW11
set_option linter.all false
namespace Go.Proofs.Tt05
open Go Go.Ab
open Go.Proofs.YtmoiedlfimodeaaGreatDoor (iseat)
set_option linter.all false
set_option maxRecDepth 100000
set_option maxHeartbeats 4000000
attribute [local irreducible] W WL QOp NOp thenQ blockQ FinQ FinR WG FQ Want FinW WI WIL thenI blockI
noncomputable abbrev Z0 : Seat := iseat.toSeat
section
variable {X : Ctx} {S : St} {o : Oper} {T T2 : TypeId} {x y : Operand}
theorem q_cmpB {op : BinOp} {k : IntKind} {m n : Int} {b b' : Bool} (ho : o.op = .binOp op T x y T2) (hx : S.ev X x = .int k m) (hy : S.ev X y = .int k n) (hc : cmpI op m n = some b') (hb : b' = b) : QOp X o S (.bool b) := hb ▸ q_cmp ho hx hy hc
theorem q_eqSB {s t : ByteArray} {b : Bool} (ho : o.op = .binOp .eql T x y T2) (hx : S.ev X x = .str s) (hy : S.ev X y = .str t) (hb : (s.toList == t.toList) = b) : QOp X o S (.bool b) := hb ▸ q_eqS ho hx hy
end
def bRoad : ByteArray := ⟨#[114, 111, 97, 100]⟩
def bTruck : ByteArray := ⟨#[116, 114, 117, 99, 107]⟩
def bUp : ByteArray := ⟨#[117, 112]⟩
def bDown : ByteArray := ⟨#[100, 111, 119, 110]⟩
def bHold : ByteArray := ⟨#[104, 111, 108, 100]⟩
def bSp : ByteArray := ⟨#[32]⟩
def eqB (s t : ByteArray) : Bool := s.toList == t.toList
structure Words (row : ByteArray) (ws : List ByteArray) : Prop where
 ok : Tx.okS row bSp = true
 eq : Tx.splitV row bSp = ws
theorem Words.c {row : ByteArray} {ws : List ByteArray} (h : Words row ws) : Contract Z0 35 [.str row, .str bSp] (.sl 1 ws.length (fun i => [.str (ws.getD i ⟨#[]⟩)])) := by
 have := Tx.c35 row bSp h.ok
 rw [h.eq] at this
 exact this
theorem c52 {ws : List ByteArray} {m : Int} {l : List Int} {b : Bool} (h : numbers ws m = some (l, b)) : Contract Z0 52 [.sl 1 ws.length (fun i => [.str (ws.getD i ⟨#[]⟩)]), .int .i64 m] (.tup [.sl 1 l.length (fun i => [.int .i64 (l.getD i 0)]), .bool b]) := by
 have h2 := fn_contract (Z := iseat) (ats := [.sl .str, .int .i64]) (ts := [.sl (.int .i64), .bool]) (E := E52) (fn := Tryz.f52) (c := bodyOf Tryz.f52) Tryz.func52 (by kernel_rfl) (by kernel_rfl) (by kernel_rfl) (by kernel_rfl) rfl (a := (ws, m, ())) (x := (l, b)) ((e52 itN ws m).trans ((numbers_eq ws m).symm.trans h)) zh zh
 exact h2
theorem take_road {row w0 : ByteArray} {r : List ByteArray} {a b c : Int} (hw : Words row (w0 :: r)) (h0 : eqB w0 bRoad = true) (hn : numbers r 3 = some ([a, b, c], true)) :
  ContractR Z0 36 [.int .i64 0, .int .i64 0, .int .i64 0, .nil] [.int .i64 a, .int .i64 b, .int .i64 c, .nil] [.int .i64 0, .str row] (.bool true) := by
 have cw : Contract Z0 35 [.str row, .str bSp] (.sl 1 (r.length + 1) (fun i => [.str ((w0 :: r).getD i ⟨#[]⟩)])) := hw.c
 have cn : Contract Z0 52 [.sl 1 r.length (fun i => [.str (r.getD i ⟨#[]⟩)]), .int .i64 3] (.tup [.sl 1 3 (fun i => [.int .i64 ([a, b, c].getD i 0)]), .bool true]) := c52 hn
 refine contractR_intro (fn := Tryz.f36) Tryz.func36 rfl (by kernel_rfl) rfl ?_ ?_ rfl rfl ?_ (.bool _) ?_
 ·exact PureL.cons (.int _ _) (PureL.cons (.int _ _) (PureL.cons (.int _ _) (PureL.cons .nil PureL.nil)))
 ·exact PureL.cons (.int _ _) (PureL.cons (.int _ _) (PureL.cons (.int _ _) (PureL.cons .nil PureL.nil)))
 ·exact PureL.cons (.int _ _) (PureL.cons (.str _) PureL.nil)
 intro w κ bb
 repeat' (first
  | (apply WL_q; apply rr; apply rr; apply q_mvY; apply rr; apply rr)
  | (apply WL_q; apply rr; apply rr; apply q_eqSB; apply rr; apply rr; apply rr; exact h0)
  | (apply WL_q; apply rr; apply rr; refine q_slF (i := 1) (j := r.length + 1) (f' := fun i => [.str (r.getD i ⟨#[]⟩)]) rfl rfl (.inr ⟨_, rfl, rfl⟩) (.inl ⟨rfl, rfl⟩) (by omega) (by omega) rfl rfl rfl rfl rfl (fun k _ => by rw [Nat.add_comm]; rfl))
  | (apply WL_q; apply rr; apply rr; (first | (apply q_mvI <;> apply rr) | (apply q_fab <;> apply rr) | (apply q_cmp <;> apply rr) | (apply q_mvB <;> apply rr) | (apply q_asB <;> apply rr) | (apply q_ldr <;> apply rr) | (apply q_ext <;> apply rr) | (apply q_ia <;> (first | apply rr | omega)) | (apply q_mvS <;> apply rr) | (apply q_asS <;> apply rr) | (apply q_mvX <;> apply rr) | (apply q_nck <;> apply rr) | (apply q_bneq <;> apply rr) | (apply q_mvT <;> apply rr)))
  | apply W_seq
  | apply W_region
  | apply T_normal
  | apply WL_nil
  | apply T_ret
  | apply B_ret
  | apply W_ret
  | apply W_block
  | (apply W_condT; apply rr)
  | (apply W_condF; apply rr)
  | (apply WL_call; apply rr; apply rr; rotate_left 1; apply rr; rotate_right 1; exact (cw); apply rr)
  | (apply WL_call; apply rr; apply rr; rotate_left 1; apply rr; rotate_right 1; exact (cn); apply rr)
  | apply W_regionG
  | (apply WG_nil; kernel_rfl)
  | (apply WG_q; (first | (apply want_none; apply rr) | (apply want_some; apply rr; apply rr; apply rr)); apply rr; first | (apply fq_bld <;> apply rr) | (apply fq_blda <;> apply rr) | (apply fq_fn; apply rr) | (apply fq_mf; apply rr) | (apply FQ_intro; intro _; (first | (apply q_mvI <;> apply rr) | (apply q_fab <;> apply rr) | (apply q_cmp <;> apply rr) | (apply q_mvB <;> apply rr) | (apply q_asB <;> apply rr) | (apply q_ldr <;> apply rr) | (apply q_ext <;> apply rr) | (apply q_ia <;> (first | apply rr | omega)) | (apply q_mvS <;> apply rr) | (apply q_asS <;> apply rr) | (apply q_mvX <;> apply rr) | (apply q_nck <;> apply rr) | (apply q_bneq <;> apply rr) | (apply q_mvT <;> apply rr))))
  | (apply WG_n; (first | (apply want_none; apply rr) | (apply want_some; apply rr; apply rr; apply rr)); (first | (apply f_stb <;> (first | apply rr | (intro _ e; cases e))))))
 refine finR_of ?_ rfl rfl
 ((try apply fin_now); first | (apply fin_B; apply rr; apply rr; try apply rr))
def q3 (i : Nat) : Nat := match i with | 0 => 0 | i + 1 => XB + (i + 1)
theorem q3_inj : ∀ i j, q3 i = q3 j → i = j
 | 0, 0, _ => rfl
 | 0, j + 1, e => by have e : 0 = 900000000 + (j + 1) := e; omega
 | i + 1, 0, e => by have e : 900000000 + (i + 1) = 0 := e; omega
 | i + 1, j + 1, e => by have e : 900000000 + (i + 1) = 900000000 + (j + 1) := e; omega
def bxR (a b c : Int) (p g : Nat) : List D := [.int .i64 a, .int .i64 b, .int .i64 c, .os p g]
def encTs (ts : List Truck) (i : Nat) : List D := encD .Truck (ts.getD i dfltTruck)
def newT (w s l h : Int) : List D := [.int .i64 w, .int .i64 s, .int .i64 l, .int .i64 h, .nil]
def addT (ts : List Truck) (w s l h : Int) (i : Nat) : List D := if i < ts.length then encTs ts i else newT w s l h
theorem addT_last (ts : List Truck) (w s l h : Int) : addT ts w s l h (ts.length + 0) = newT w s l h := if_neg (by omega)
def osT (a b c : Int) (n : Nat) (f : Nat → List D) (i : Nat) : Ab.Own := match i with | 0 => .box (bxR a b c (XB + 1) 1) | _ => .arr 45 5 n f
def mv1 (i : Nat) : Bool := Nat.beq i 1
theorem pure_T (t : Truck) : PureL (encD .Truck t) := encD_pure _ _
theorem pure_new (w s l h : Int) : PureL (newT w s l h) := PureL.cons (.int _ _) (PureL.cons (.int _ _) (PureL.cons (.int _ _) (PureL.cons (.int _ _) (PureL.cons .nil PureL.nil))))
theorem pure_addT (ts : List Truck) (w s l h : Int) (i : Nat) : PureL (addT ts w s l h i) := by
 unfold addT
 split
 ·exact pure_T _
 ·exact pure_new _ _ _ _
theorem rn_bx {n : Nat} {g g' : Nat → Nat} (a b c : Int) (hn : 1 < n) : RnL n q3 g q3 g' (bxR a b c (XB + 1) (g 1)) (bxR a b c (XB + 1) (g' 1)) :=
 .cons _ _ _ _ (.pure _ (.int _ _)) (.cons _ _ _ _ (.pure _ (.int _ _)) (.cons _ _ _ _ (.pure _ (.int _ _)) (.cons _ _ _ _ (Rn.os (p := q3) (g := g) (p' := q3) (g' := g') 1 hn) .nil)))
theorem finT {S : St} {a b c : Int} {n : Nat} {f : Nat → List D} (g0 : S.γ 0 = 1) (s0 : S.σ 0 = .box (bxR a b c (XB + 1) (S.γ (XB + 1)))) (s1 : S.σ (XB + 1) = .arr 45 5 n f) (hf : ∀ i, i < n → PureL (f i)) :
  ∀ i, i < 2 → (mv1 i = false → S.γ (q3 i) = 1) ∧ ∃ o2, OwCv (S.σ (q3 i)) o2 ∧ OwRn 2 q3 (fun j => S.γ (q3 j)) q3 one o2 (osT a b c n f i) := by
 intro i hi
 match i, hi with
 | 0, _ => exact ⟨fun _ => g0, _, rfl_cv _, by rw [show S.σ (q3 0) = _ from s0]; exact .box _ _ (rn_bx (g := fun j => S.γ (q3 j)) (g' := one) a b c (by decide))⟩
 | 1, _ => exact ⟨fun (e : true = false) => (by cases e), _, rfl_cv _, by rw [show S.σ (q3 1) = _ from s1]; exact .arrP _ _ _ _ hf⟩
theorem take_truck {row w0 w1 : ByteArray} {r : List ByteArray} {a b c s l h p : Int} {ts : List Truck} (d : Bool) (hw : Words row (w0 :: w1 :: r)) (hp : (p == 0) = false) (h0 : eqB w0 bRoad = false) (h1 : eqB w0 bTruck = true) (hu : eqB w1 bUp = !d) (hd : eqB w1 bDown = d) (hn : numbers r 3 = some ([s, l, h], true)) (hl : ts.length ≤ 1000000) :
  ContractN Z0 36 2 q3 (osT a b c ts.length (encTs ts)) (osT a b c (ts.length + 1) (addT ts (if d then 2 else 1) s l h)) mv1 [.bx 0 1 0, .int .i64 p, .str row] (.bool true) := by
 have cw : Contract Z0 35 [.str row, .str bSp] (.sl 1 (r.length + 1 + 1) (fun i => [.str ((w0 :: w1 :: r).getD i ⟨#[]⟩)])) := hw.c
 have cn : Contract Z0 52 [.sl 1 r.length (fun i => [.str (r.getD i ⟨#[]⟩)]), .int .i64 3] (.tup [.sl 1 3 (fun i => [.int .i64 ([s, l, h].getD i 0)]), .bool true]) := c52 hn
 have hlen : decide (((r.length + 1 + 1 : Nat) : Int) > 1) = true := decide_eq_true (by omega)
 refine contractN_intro (fn := Tryz.f36) Tryz.func36 rfl (by kernel_rfl) rfl (fun i j _ _ e => q3_inj i j e) ?_ ?_ (.pure _ (.bool _)) ?_ ?_
 ·intro i hi E z m f ho
  match i, hi, ho with
  | 0, _, ho => cases ho
  | 1, _, _ => exact (by decide : 900000000 ≤ 900000001)
 ·intro i hi
  match i, hi with
  | 0, _ => exact .box _ _
  | 1, _ => exact .arr _ _ _ _ _ _ _ _
 ·intro i j hi hj hji hm
  match i, j, hi, hj, hji, hm with
  | 0, _, _, _, _, hm => cases hm
  | 1, 0, _, _, _, _ => exact ⟨rfl, fun v b h => h⟩
  | 1, 1, _, _, hji, _ => exact absurd rfl hji
 intro w κ bs sv
 obtain ⟨wy, hwy⟩ : ∃ x : Int, x = if d then 2 else 1 := ⟨_, rfl⟩
 rw [← hwy]
 cases d
 all_goals
  repeat' (first
  | (apply WL_q; apply rr; apply rr; apply q_mvY; apply rr; apply rr)
  | (apply WL_q; apply rr; apply rr; apply q_eqSB; apply rr; apply rr; apply rr; (first | exact h0 | exact h1 | exact hu | exact hd))
  | (apply WL_q; apply rr; apply rr; apply q_cmpB; apply rr; apply rr; apply rr; apply rr; (first | exact hp | exact hlen))
  | (apply WG_q; (first | (apply want_none; apply rr) | (apply want_some; apply rr; apply rr; apply rr)); apply rr; apply FQ_intro; intro _; apply q_eqSB; apply rr; apply rr; apply rr; (first | exact h1 | exact hu | exact hd))
  | (apply WG_q; (first | (apply want_none; apply rr) | (apply want_some; apply rr; apply rr; apply rr)); apply rr; apply FQ_intro; intro _; apply q_cmpB; apply rr; apply rr; apply rr; apply rr; exact hlen)
  | (apply WL_q; apply rr; apply rr; refine q_slF (i := 2) (j := r.length + 2) (f' := fun i => [.str (r.getD i ⟨#[]⟩)]) rfl rfl (.inr ⟨_, rfl, rfl⟩) (.inl ⟨rfl, rfl⟩) (by omega) (by omega) rfl rfl rfl rfl rfl (fun k _ => by rw [Nat.add_comm]; rfl))
  | (apply WG_n; (apply want_none; apply rr); refine f_app (f' := addT ts wy s l h) rfl rfl rfl rfl rfl rfl rfl rfl rfl rfl rfl rfl rfl rfl rfl ?_ ?_ rfl ?_ ?_; (show (ts.length + 1) * 56 ≤ _; omega); omega; exact (fun i hi => if_pos hi); exact (fun i hi => by rw [show i = 0 by omega, hwy]; exact addT_last _ _ _ _ _))
  | (apply WL_q; apply rr; apply rr; (first | (apply q_mvI <;> apply rr) | (apply q_ldb <;> apply rr) | (apply q_fab <;> apply rr) | (apply q_mvB <;> apply rr) | (apply q_asB <;> apply rr) | (apply q_ldr <;> apply rr) | (apply q_len <;> apply rr) | (apply q_ext <;> apply rr) | (apply q_pkT <;> apply rr) | (apply q_pkF <;> apply rr) | (apply q_ia <;> (first | apply rr | omega)) | (apply q_ldba <;> apply rr) | (apply q_mvS <;> apply rr) | (apply q_asS <;> apply rr) | (apply q_mvX <;> apply rr) | (apply q_nck <;> apply rr) | (apply q_bneq <;> apply rr) | (apply q_mvT <;> apply rr) | (apply q_iar; apply rr; apply rr; apply rr; (first | omega | decide); apply rr; apply rr; (first | omega | decide); apply rr; apply rr)))
  | apply W_seq
  | apply W_region
  | apply T_normal
  | apply WL_nil
  | apply T_ret
  | apply B_ret
  | apply W_skip
  | apply W_ret
  | apply W_block
  | (apply W_condT; apply rr)
  | (apply W_condF; apply rr)
  | (apply WL_call; apply rr; apply rr; rotate_left 1; apply rr; rotate_right 1; exact (cw); apply rr)
  | (apply WL_call; apply rr; apply rr; rotate_left 1; apply rr; rotate_right 1; exact (cn); apply rr)
  | (apply WL_n; apply rr; (first | (apply n_stb <;> (first | apply rr | (intro _ e; cases e)))))
  | apply W_regionG
  | (apply WG_nil; kernel_rfl)
  | (apply WG_q; (first | (apply want_none; apply rr) | (apply want_some; apply rr; apply rr; apply rr)); apply rr; first | (apply fq_bld <;> apply rr) | (apply fq_blda <;> apply rr) | (apply fq_fn; apply rr) | (apply fq_mf; apply rr) | (apply FQ_intro; intro _; (first | (apply q_mvI <;> apply rr) | (apply q_ldb <;> apply rr) | (apply q_fab <;> apply rr) | (apply q_mvB <;> apply rr) | (apply q_asB <;> apply rr) | (apply q_ldr <;> apply rr) | (apply q_len <;> apply rr) | (apply q_ext <;> apply rr) | (apply q_pkT <;> apply rr) | (apply q_pkF <;> apply rr) | (apply q_ia <;> (first | apply rr | omega)) | (apply q_ldba <;> apply rr) | (apply q_mvS <;> apply rr) | (apply q_asS <;> apply rr) | (apply q_mvX <;> apply rr) | (apply q_nck <;> apply rr) | (apply q_bneq <;> apply rr) | (apply q_mvT <;> apply rr) | (apply q_iar; apply rr; apply rr; apply rr; (first | omega | decide); apply rr; apply rr; (first | omega | decide); apply rr; apply rr))))
  | (apply WG_n; (first | (apply want_none; apply rr) | (apply want_some; apply rr; apply rr; apply rr)); (first | (apply f_alloc <;> apply rr) | (apply f_stb <;> (first | apply rr | (intro _ e; cases e))) | (apply f_bsl <;> apply rr)))
  | (apply WG_no; apply rr; apply rr; apply rr; apply rr; apply rr))
 all_goals refine ⟨_, [.bool true], .bool true, Wk.refl _ _, ?_, ?_, fun _ _ _ _ h => h, .pure _ (.bool _)⟩
 all_goals first | exact finT rfl rfl rfl (fun i _ => pure_addT _ _ _ _ _ i) | exact ⟨rfl, trivial⟩
def lastT (t : Truck) (p g : Nat) : List D := [.int .i64 t.Way, .int .i64 t.Start, .int .i64 t.Pace.Lo, .int .i64 t.Pace.Hi, .os p g]
def holT (ts : List Truck) (t : Truck) (g : Nat) (i : Nat) : List D := if i = ts.length then lastT t (XB + 2) g else encTs ts i
def encHs (hs : List Hold) (i : Nat) : List D := encD .Hold (hs.getD i dfltHold)
def osH (a b c : Int) (ts : List Truck) (t : Truck) (hs : List Hold) (i : Nat) : Ab.Own := match i with | 0 => .box (bxR a b c (XB + 1) 1) | 1 => .arr 45 5 (ts.length + 1) (holT ts t 1) | _ => .arr 76 2 hs.length (encHs hs)
def mv2 (i : Nat) : Bool := Nat.beq i 2
theorem rn_last {n : Nat} {g g' : Nat → Nat} (t : Truck) (hn : 2 < n) : RnL n q3 g q3 g' (lastT t (XB + 2) (g 2)) (lastT t (XB + 2) (g' 2)) :=
 .cons _ _ _ _ (.pure _ (.int _ _)) (.cons _ _ _ _ (.pure _ (.int _ _)) (.cons _ _ _ _ (.pure _ (.int _ _)) (.cons _ _ _ _ (.pure _ (.int _ _)) (.cons _ _ _ _ (Rn.os (p := q3) (g := g) (p' := q3) (g' := g') 2 hn) .nil))))
theorem rn_holT {n : Nat} {g g' : Nat → Nat} (ts : List Truck) (t : Truck) (hn : 2 < n) (i : Nat) : RnL n q3 g q3 g' (holT ts t (g 2) i) (holT ts t (g' 2) i) := by
 unfold holT
 split
 ·exact rn_last t hn
 ·exact rnLp (pure_T _)
theorem finH {S : St} {a b c : Int} {ts : List Truck} {t : Truck} {hs : List Hold} {f : Nat → List D} (g0 : S.γ 0 = 1) (g1 : S.γ (XB + 1) = 1) (s0 : S.σ 0 = .box (bxR a b c (XB + 1) (S.γ (XB + 1)))) (s1 : S.σ (XB + 1) = .arr 45 5 (ts.length + 1) f) (hf : ∀ i, f i = holT ts t (S.γ (XB + 2)) i)
  (s2 : S.σ (XB + 2) = .arr 76 2 hs.length (encHs hs)) :
  ∀ i, i < 3 → (mv2 i = false → S.γ (q3 i) = 1) ∧ ∃ o2, OwCv (S.σ (q3 i)) o2 ∧ OwRn 3 q3 (fun j => S.γ (q3 j)) q3 one o2 (osH a b c ts t hs i) := by
 intro i hi
 match i, hi with
 | 0, _ => exact ⟨fun _ => g0, _, rfl_cv _, by rw [show S.σ (q3 0) = _ from s0]; exact .box _ _ (rn_bx (g := fun j => S.γ (q3 j)) (g' := one) a b c (by decide))⟩
 | 1, _ => exact ⟨fun _ => g1, _, rfl_cv _, by rw [show S.σ (q3 1) = _ from s1]; exact .arr _ _ _ _ _ (fun i _ => by rw [hf i]; exact rn_holT (g := fun j => S.γ (q3 j)) (g' := one) ts t (by decide) i)⟩
 | 2, _ => exact ⟨fun (e : true = false) => (by cases e), _, rfl_cv _, by rw [show S.σ (q3 2) = _ from s2]; exact .arrP _ _ _ _ (fun i _ => encD_pure _ _)⟩
theorem encHs_lt {hs : List Hold} {h : Hold} {i : Nat} (hi : i < hs.length) : encHs (hs ++ [h]) i = encHs hs i := by
 unfold encHs
 rw [List.getD_eq_getElem?_getD, List.getD_eq_getElem?_getD, List.getElem?_append_left hi]
theorem encHs_at (hs : List Hold) (h : Hold) : encHs (hs ++ [h]) (hs.length + 0) = encD .Hold h := by
 unfold encHs
 simp [List.getD_eq_getElem?_getD]
theorem holT_upd {ts : List Truck} {t : Truck} {g g' k : Nat} (hk : k = ts.length) (i : Nat) : updF (holT ts t g) k (lastT t (XB + 2) g') i = holT ts t g' i := by
 subst hk
 by_cases e : i = ts.length
 ·subst e; rw [updF_same]; unfold holT; rw [if_pos rfl]
 ·rw [updF_ne _ _ e]; unfold holT; rw [if_neg e, if_neg e]
theorem take_hold {row w0 : ByteArray} {r : List ByteArray} {a b c p x y : Int} {ts : List Truck} {t : Truck} {hs : List Hold} (hw : Words row (w0 :: r)) (hp : (p == 0) = false) (h0 : eqB w0 bRoad = false) (h1 : eqB w0 bTruck = false) (h2 : eqB w0 bHold = true) (hn : numbers r 2 = some ([x, y], true)) (hl : ts.length ≤ 1000000) (hk : hs.length ≤ 1000000) :
  ContractN Z0 36 3 q3 (osH a b c ts t hs) (osH a b c ts t (hs ++ [Hold.mk x y])) mv2 [.bx 0 1 0, .int .i64 p, .str row] (.bool true) := by
 have cw : Contract Z0 35 [.str row, .str bSp] (.sl 1 (r.length + 1) (fun i => [.str ((w0 :: r).getD i ⟨#[]⟩)])) := hw.c
 have cn : Contract Z0 52 [.sl 1 r.length (fun i => [.str (r.getD i ⟨#[]⟩)]), .int .i64 2] (.tup [.sl 1 2 (fun i => [.int .i64 ([x, y].getD i 0)]), .bool true]) := c52 hn
 have hlen : decide (((ts.length + 1 : Nat) : Int) > 0) = true := decide_eq_true (by omega)
 have hkk : (((ts.length + 1 : Nat) : Int) - 1).toNat = ts.length := by omega
 have hcell : nth (holT ts t 1 ((((ts.length + 1 : Nat) : Int) - 1).toNat)) 4 = some (.os (XB + 2) 1) := by
  rw [hkk]; unfold holT; rw [if_pos rfl]; rfl
 have hover : ∀ d : D, d.isCell = true → overN (holT ts t 1 ((((ts.length + 1 : Nat) : Int) - 1).toNat)) 4 [d] = some [.int .i64 t.Way, .int .i64 t.Start, .int .i64 t.Pace.Lo, .int .i64 t.Pace.Hi, d] := fun d _ => by
  rw [hkk]; unfold holT; rw [if_pos rfl]; rfl
 refine contractN_intro (fn := Tryz.f36) Tryz.func36 rfl (by kernel_rfl) rfl (fun i j _ _ e => q3_inj i j e) ?_ ?_ (.pure _ (.bool _)) ?_ ?_
 ·intro i hi E z m f ho
  match i, hi, ho with
  | 0, _, ho => cases ho
  | 1, _, _ => exact (by decide : 900000000 ≤ 900000001)
  | 2, _, _ => exact (by decide : 900000000 ≤ 900000002)
 ·intro i hi
  match i, hi with
  | 0, _ => exact .box _ _
  | 1, _ => exact .arr _ _ _ _ _ _ _ _
  | 2, _ => exact .arr _ _ _ _ _ _ _ _
 ·intro i j hi hj hji hm
  match i, j, hi, hj, hji, hm with
  | 0, _, _, _, _, hm => cases hm
  | 1, _, _, _, _, hm => cases hm
  | 2, 0, _, _, _, _ => exact ⟨rfl, fun v b h => h⟩
  | 2, 1, _, _, _, _ => exact ⟨rfl, fun v b h => h⟩
  | 2, 2, _, _, hji, _ => exact absurd rfl hji
 intro w κ bs sv
 repeat' (first
  | (apply WG_noU; apply rr; apply rr; apply rr; apply rr)
  | (apply WG_noE; apply rr; apply rr; apply rr; apply rr; apply rr)
  | (apply WL_q; apply rr; apply rr; apply q_mvY; apply rr; apply rr)
  | (apply WL_q; apply rr; apply rr; apply q_eqSB; apply rr; apply rr; apply rr; (first | exact h0 | exact h2))
  | (apply WL_q; apply rr; apply rr; apply q_cmpB; apply rr; apply rr; apply rr; apply rr; (first | exact hp | exact hlen))
  | (apply WG_q; (first | (apply want_none; apply rr) | (apply want_some; apply rr; apply rr; apply rr)); apply rr; apply FQ_intro; intro _; apply q_eqSB; apply rr; apply rr; apply rr; exact h1)
  | (apply WL_q; apply rr; apply rr; refine q_slF (i := 1) (j := r.length + 1) (f' := fun i => [.str (r.getD i ⟨#[]⟩)]) rfl rfl (.inr ⟨_, rfl, rfl⟩) (.inl ⟨rfl, rfl⟩) (by omega) (by omega) rfl rfl rfl rfl rfl (fun k _ => by rw [Nat.add_comm]; rfl))
  | (apply WG_q; (first | (apply want_none; apply rr) | (apply want_some; apply rr; apply rr; apply rr)); apply rr; apply FQ_intro; intro _; apply q_ldo; apply rr; apply rr; apply rr; apply rr; apply rr; apply rr; apply rr; omega; exact hcell)
  | (apply WG_n; (apply want_none; apply rr); refine f_sto rfl rfl rfl rfl ?_ rfl rfl rfl rfl rfl (hover _ rfl) rfl; omega)
  | (apply WG_n; (apply want_none; apply rr); refine f_app (n' := (hs ++ [Hold.mk x y]).length) (f' := encHs (hs ++ [Hold.mk x y])) rfl rfl rfl rfl rfl rfl rfl rfl rfl rfl rfl rfl rfl rfl rfl ?_ ?_ ?_ ?_ ?_; (show (hs.length + 1) * 16 ≤ _; omega); omega; (exact List.length_append); exact (fun i hi => encHs_lt hi); exact (fun i hi => by rw [show i = 0 by omega]; exact encHs_at _ _))
  | (apply WL_q; apply rr; apply rr; (first | (apply q_mvI <;> apply rr) | (apply q_ldb <;> apply rr) | (apply q_fab <;> apply rr) | (apply q_mvB <;> apply rr) | (apply q_asB <;> apply rr) | (apply q_ldr <;> apply rr) | (apply q_arith <;> (first | apply rr | omega)) | (apply q_ext <;> apply rr) | (apply q_pkT <;> apply rr) | (apply q_pkF <;> apply rr) | (apply q_ia <;> (first | apply rr | omega)) | (apply q_ldo <;> (first | apply rr | omega)) | (apply q_fao <;> apply rr) | (apply q_iao <;> (first | apply rr | omega)) | (apply q_leno <;> apply rr) | (apply q_mvS <;> apply rr) | (apply q_asS <;> apply rr) | (apply q_mvX <;> apply rr) | (apply q_nck <;> apply rr) | (apply q_ncko <;> apply rr) | (apply q_bneq <;> apply rr) | (apply q_mvT <;> apply rr) | (apply q_mvP <;> apply rr) | (apply q_asP <;> apply rr)))
  | apply W_seq
  | apply W_region
  | apply T_normal
  | apply WL_nil
  | apply T_ret
  | apply B_ret
  | apply W_ret
  | apply W_block
  | (apply W_condT; apply rr)
  | (apply W_condF; apply rr)
  | (apply WL_call; apply rr; apply rr; rotate_left 1; apply rr; rotate_right 1; exact (cw); apply rr)
  | (apply WL_call; apply rr; apply rr; rotate_left 1; apply rr; rotate_right 1; exact (cn); apply rr)
  | (apply WL_yes; apply rr; apply rr; apply rr)
  | apply W_regionG
  | (apply WG_nil; kernel_rfl)
  | (apply WG_q; (first | (apply want_none; apply rr) | (apply want_some; apply rr; apply rr; apply rr)); apply rr; first | (apply fq_bld <;> apply rr) | (apply fq_blda <;> apply rr) | (apply fq_fn; apply rr) | (apply fq_mf; apply rr) | (apply FQ_intro; intro _; (first | (apply q_mvI <;> apply rr) | (apply q_ldb <;> apply rr) | (apply q_fab <;> apply rr) | (apply q_mvB <;> apply rr) | (apply q_asB <;> apply rr) | (apply q_ldr <;> apply rr) | (apply q_arith <;> (first | apply rr | omega)) | (apply q_ext <;> apply rr) | (apply q_pkT <;> apply rr) | (apply q_pkF <;> apply rr) | (apply q_ia <;> (first | apply rr | omega)) | (apply q_ldo <;> (first | apply rr | omega)) | (apply q_fao <;> apply rr) | (apply q_iao <;> (first | apply rr | omega)) | (apply q_leno <;> apply rr) | (apply q_mvS <;> apply rr) | (apply q_asS <;> apply rr) | (apply q_mvX <;> apply rr) | (apply q_nck <;> apply rr) | (apply q_ncko <;> apply rr) | (apply q_bneq <;> apply rr) | (apply q_mvT <;> apply rr) | (apply q_mvP <;> apply rr) | (apply q_asP <;> apply rr))))
  | (apply WG_n; (first | (apply want_none; apply rr) | (apply want_some; apply rr; apply rr; apply rr)); (first | (apply f_bsl <;> apply rr) | (apply f_sto <;> (first | apply rr | omega)))))
 refine ⟨_, [.bool true], .bool true, Wk.refl _ _, ?_, ?_, fun _ _ _ _ h => h, .pure _ (.bool _)⟩
 ·exact finH rfl rfl rfl rfl (fun i => holT_upd hkk i) rfl
 ·exact ⟨rfl, trivial⟩
end Go.Proofs.Tt05
namespace Go.Proofs.Tt05
open Go Go.Ab
open Go.Proofs.YtmoiedlfimodeaaGreatDoor (iseat)
set_option linter.all false
set_option maxRecDepth 100000
def bNl : ByteArray := ⟨#[10]⟩
def zeroC : Convoy := ⟨0, 0, 0, []⟩
def addHold (c : Convoy) (t : Truck) (x y : Int) : Convoy := ⟨c.Length, c.Gap, c.Fails, c.Trucks.dropLast ++ [⟨t.Way, t.Start, t.Pace, t.Holds ++ [Hold.mk x y]⟩]⟩
def addTruck (c : Convoy) (d : Bool) (s l h : Int) : Convoy := ⟨c.Length, c.Gap, c.Fails, c.Trucks ++ [⟨if d then 2 else 1, s, ⟨l, h⟩, []⟩]⟩
noncomputable def goodRow (k : Nat) (c : Convoy) : List ByteArray → Option Convoy
 | [] => none
 | w0 :: r =>
  if k = 0 then (bif eqB w0 bRoad then (match numbers r 3 with | some ([a, b, g], true) => some ⟨a, b, g, []⟩ | _ => none) else none)
  else bif eqB w0 bRoad then none else bif eqB w0 bTruck then
   (match r with
    | w1 :: r' => bif eqB w1 bUp == !eqB w1 bDown then (match numbers r' 3 with | some ([s, l, h], true) => some (addTruck c (eqB w1 bDown) s l h) | _ => none) else none
    | [] => none)
  else bif eqB w0 bHold then
   (match c.Trucks.getLast? with
    | some t => (match numbers r 2 with | some ([x, y], true) => some (addHold c t x y) | _ => none)
    | none => none)
  else none
abbrev RdR := Convoy × Int × Int
noncomputable def readL : List ByteArray → Nat → Convoy → Option (Except RdR Convoy)
 | [], _, c => some (.ok c)
 | row :: rows, k, c => chk (Tx.okS row bSp) (match goodRow k c (Tx.splitV row bSp) with
  | some c' => readL rows (k + 1) c'
  | none => (takeR c k row).bind fun r => bif r.2 then none else some (.error (zeroC, (k : Int) + 1, 3)))
noncomputable def readT (n : Nat) (lst : ByteArray) : Except RdR Convoy → Option RdR
 | .error x => some x
 | .ok c => if n = 0 then some (zeroC, (n : Int) + 1, 3) else bif eqB lst ⟨#[]⟩ then (pCheck c).bind fun e => bif e != 0 then some (zeroC, 0, e) else some (c, 0, 0) else some (zeroC, (n : Int) + 1, 3)
noncomputable def readF (text : ByteArray) : Option RdR :=
 bif decide ((text.size : Int) > 20000) then some (zeroC, 0, 5) else
 chk (Tx.okS text bNl) (match (Tx.splitV text bNl).getLast? with
  | none => none
  | some lst => chk (decide ((Tx.splitV text bNl).length ≤ 1000000)) ((readL (Tx.splitV text bNl).dropLast 0 zeroC).bind (readT ((Tx.splitV text bNl).length - 1) lst)))
inductive Good (row : ByteArray) (k : Nat) (c : Convoy) : Convoy → Prop
 | road (w0 : ByteArray) (r : List ByteArray) (a b g : Int) : k = 0 → Words row (w0 :: r) → eqB w0 bRoad = true → numbers r 3 = some ([a, b, g], true) → Good row k c ⟨a, b, g, []⟩
 | truck (w0 w1 : ByteArray) (r : List ByteArray) (d : Bool) (s l h : Int) : k ≠ 0 → Words row (w0 :: w1 :: r) → eqB w0 bRoad = false → eqB w0 bTruck = true → eqB w1 bUp = (!d) → eqB w1 bDown = d → numbers r 3 = some ([s, l, h], true) → Good row k c (addTruck c d s l h)
 | hold (w0 : ByteArray) (r : List ByteArray) (t : Truck) (x y : Int) : k ≠ 0 → Words row (w0 :: r) → eqB w0 bRoad = false → eqB w0 bTruck = false → eqB w0 bHold = true → c.Trucks.getLast? = some t → numbers r 2 = some ([x, y], true) → Good row k c (addHold c t x y)
theorem good_of {row : ByteArray} {k : Nat} {c c' : Convoy} (ho : Tx.okS row bSp = true) (h : goodRow k c (Tx.splitV row bSp) = some c') : Good row k c c' := by
 generalize hw : Tx.splitV row bSp = ws at h
 unfold goodRow at h
 match ws, h, hw with
 | w0 :: r, h, hw =>
  simp only at h
  have W : Words row (w0 :: r) := ⟨ho, hw⟩
  by_cases hk : k = 0
  ·rw [if_pos hk] at h
   cases h0 : eqB w0 bRoad with
   | false => rw [h0] at h; cases h
   | true =>
    rw [h0] at h
    simp only [cond_true] at h
    split at h
    ·rename_i a b g hn
     cases h
     exact .road w0 r a b g hk W h0 hn
    ·cases h
  ·rw [if_neg hk] at h
   cases h0 : eqB w0 bRoad with
   | true => rw [h0] at h; cases h
   | false =>
    rw [h0] at h
    simp only [cond_false] at h
    cases h1 : eqB w0 bTruck with
    | true =>
     rw [h1] at h
     simp only [cond_true] at h
     match r, h, W with
     | w1 :: r', h, W =>
      simp only at h
      cases hd : (eqB w1 bUp == !eqB w1 bDown) with
      | false => rw [hd] at h; cases h
      | true =>
       rw [hd] at h
       simp only [cond_true] at h
       split at h
       ·rename_i s l x hn
        cases h
        exact .truck w0 w1 r' (eqB w1 bDown) s l x hk W h0 h1 (eq_of_beq hd) rfl hn
       ·cases h
    | false =>
     rw [h1] at h
     simp only [cond_false] at h
     cases h2 : eqB w0 bHold with
     | false => rw [h2] at h; cases h
     | true =>
      rw [h2] at h
      simp only [cond_true] at h
      split at h
      ·rename_i t ht
       split at h
       ·rename_i x y hn
        cases h
        exact .hold w0 r t x y hk W h0 h1 h2 ht hn
       ·cases h
      ·cases h
theorem take_bad {row : ByteArray} {k : Nat} {c c' : Convoy} {b : Bool} (h : takeR c k row = some (c', b)) : ContractR Z0 36 (encD .Convoy c) (encD .Convoy c') [.int .i64 k, .str row] (.bool b) := by
 have h2 := fn_contractR (Z := iseat) (bt := .Convoy) (ats := [.int .i64, .str]) (ts := [.bool]) (E := E36) (fn := Tryz.f36) (c := bodyOf Tryz.f36) Tryz.func36 (by kernel_rfl) (by kernel_rfl) (by kernel_rfl) (by kernel_rfl) rfl (b := c) (a := ((k : Int), row, ())) (y := c') (x := b) ((e36 itN c k row).trans ((takeR_eq c k row).symm.trans h)) zh
 rw [toDL_enc, toDL_enc] at h2
 exact h2
theorem c25 {c : Convoy} {e : Int} (h : pCheck c = some e) : Contract Z0 25 [.agg (encD .Convoy c)] (.int .i64 e) := by
 have h2 := fn_contract (Z := iseat) (ats := [.Convoy]) (ts := [.int .i64]) (E := E25) (fn := Tryz.f25) (c := bodyOf Tryz.f25) Tryz.func25 (by kernel_rfl) (by kernel_rfl) (by kernel_rfl) (by kernel_rfl) rfl (a := (c, ())) (x := e) ((e25 itN c).trans ((pCheck_eq c).symm.trans h)) zh zh
 exact h2
end Go.Proofs.Tt05
namespace Go.Proofs.Tt05
open Go Go.Ab
open Go.Proofs.YtmoiedlfimodeaaGreatDoor (iseat)
set_option linter.all false
set_option maxRecDepth 100000
set_option maxHeartbeats 4000000
attribute [local irreducible] W WL QOp NOp thenQ blockQ FinQ FinR WG FQ Want FinW WI WIL thenI blockI
section
variable {X : Ctx} {S : St} {o : Oper} {T T2 : TypeId} {x y : Operand}
theorem q_arithB {op : BinOp} {m n e e' : Int} (ho : o.op = .binOp op T x y T2) (hx : S.ev X x = .int .i64 m) (hy : S.ev X y = .int .i64 n) (hc : arithI op m n = some e') (h1 : -9223372036854775808 ≤ e') (h2 : e' ≤ 9223372036854775807) (he : e' = e) : QOp X o S (.int .i64 e) := he ▸ q_arith ho hx hy hc h1 h2
end
theorem q_neSB {X : Ctx} {S : St} {o : Oper} {T T2 : TypeId} {x y : Operand} {s t : ByteArray} {b : Bool} (ho : o.op = .binOp .neq T x y T2) (hx : S.ev X x = .str s) (hy : S.ev X y = .str t) (hb : (!(s.toList == t.toList)) = b) : QOp X o S (.bool b) := hb ▸ q_neS ho hx hy
def bg0 : Nat → Ab.Own := fun _ => .none
def lhT (ts : List Truck) (g : Nat) (i : Nat) : List D := if i + 1 = ts.length then lastT (ts.getD i dfltTruck) 101 g else encTs ts i
def lastH (ts : List Truck) : List Hold := match ts.getLast? with | some t => t.Holds | none => []
def osG (c : Convoy) (h : Nat → Nat) : List (Nat × Ab.Own) := [(2, .box (bxR c.Length c.Gap c.Fails 100 (h 100))), (100, .arr 45 5 c.Trucks.length (lhT c.Trucks (h 101))), (101, .arr 76 2 (lastH c.Trucks).length (encHs (lastH c.Trucks)))]
def osZ : List (Nat × Ab.Own) := [(2, .box [.int .i64 0, .int .i64 0, .int .i64 0, .nil])]
def osR (x : Nat × Convoy) (h : Nat → Nat) : List (Nat × Ab.Own) := if x.1 = 0 then osZ else osG x.2 h
def osP (c : Convoy) (h : Nat → Nat) : List (Nat × Ab.Own) := [(2, .box (bxR c.Length c.Gap c.Fails 100 (h 100))), (100, .arr 45 5 c.Trucks.length (encTs c.Trucks))]
def osB (c : Convoy) : List (Nat × Ab.Own) := [(2, .box (encD .Convoy c))]
theorem mk_sub {rs : List (Nat × D)} {os : List (Nat × Ab.Own)} {h : Nat → Nat} {f : Nat → Ab.Own} (ha : AllE f os) (s : Nat) : (mkF rs os h bg0).σ s = .none ∨ (mkF rs os h bg0).σ s = f s := by
 show (bif Nat.ble FB s then bg0 s else Ab.look Ab.Own.none os s) = Ab.Own.none ∨ (bif Nat.ble FB s then bg0 s else Ab.look Ab.Own.none os s) = f s
 cases Nat.ble FB s with
 | true => exact .inl rfl
 | false => exact look_ok ha s
theorem last_at {ts : List Truck} (h : ts ≠ []) : ts.getLast? = some (ts.getD (ts.length - 1) dfltTruck) := by
 have hl : ts.length - 1 < ts.length := by have := List.length_pos_iff.2 h; omega
 rw [List.getLast?_eq_getElem?, List.getD_eq_getElem?_getD, List.getElem?_eq_getElem hl]; rfl
theorem wk_trk {X : Ctx} {rs : List (Nat × D)} {c : Convoy} {h : Nat → Nat} (hx : ∀ s, s < 200 → X.xa s = false) : Wk X (mkF rs (osG c h) h bg0) (mkF rs (osP c h) h bg0) := by
 have hm : ∀ {S' : St}, Wk X (mkF rs (osG c h) h bg0) S' → S'.ρ = (mkF rs (osG c h) h bg0).ρ → S'.γ = h → S'.σ 2 = .box (bxR c.Length c.Gap c.Fails 100 (h 100)) → S'.σ 100 = .arr 45 5 c.Trucks.length (encTs c.Trucks) → Wk X (mkF rs (osG c h) h bg0) (mkF rs (osP c h) h bg0) := fun {S'} hw hr hg h2 h3 => by
  refine hw.trans (wk_gen (fun i => ?_) (fun s => ?_) (fun s => ?_))
  ·right; rw [hr]; rfl
  ·rw [hg]; exact Nat.le_refl _
  ·exact mk_sub (os := osP c h) (f := S'.σ) ⟨h2, h3, trivial⟩ s
 by_cases hn : c.Trucks = []
 ·refine hm (Wk.refl _ _) rfl rfl rfl ?_
  show Ab.Own.arr 45 5 c.Trucks.length (lhT c.Trucks (h 101)) = _
  rw [hn, show lhT [] (h 101) = encTs [] from funext fun i => if_neg (by simp)]
 ·have hl := List.length_pos_iff.2 hn
  have hw := wk_freeze_elem (X := X) (S := mkF rs (osG c h) h bg0) 100 (c.Trucks.length - 1) 4 (s := 101) (g := h 101) (E := 76) (z := 2) (n := (lastH c.Trucks).length) (f := encHs (lastH c.Trucks)) (E2 := 45) (z2 := 5) (n2 := c.Trucks.length) (f2 := lhT c.Trucks (h 101)) (f2' := encTs c.Trucks) (l0 := lastT (c.Trucks.getD (c.Trucks.length - 1) dfltTruck) 101 (h 101)) (l' := encTs c.Trucks (c.Trucks.length - 1)) rfl rfl (by omega) (by unfold lhT; rw [if_pos (by omega)]) rfl rfl rfl (by
   have e : lastH c.Trucks = (c.Trucks.getD (c.Trucks.length - 1) dfltTruck).Holds := by unfold lastH; rw [last_at hn]
   rw [e]; rfl) (fun k hk => by
   split
   ·rename_i e; rw [e]
   ·rename_i e; unfold lhT; rw [if_neg (by omega)]) (hx _ (by decide))
  refine hm hw rfl rfl ?_ ?_
  ·exact (upd_ne (upd (mkF rs (osG c h) h bg0).σ 101 .none) 100 2 (.arr 45 5 c.Trucks.length (encTs c.Trucks)) (by decide)).trans ((upd_ne (mkF rs (osG c h) h bg0).σ 101 2 .none (by decide)).trans rfl)
  ·exact upd_same (upd (mkF rs (osG c h) h bg0).σ 101 .none) 100 (.arr 45 5 c.Trucks.length (encTs c.Trucks))
theorem wk_bad {X : Ctx} {rs : List (Nat × D)} {c : Convoy} {h : Nat → Nat} (hx : ∀ s, s < 200 → X.xa s = false) : Wk X (mkF rs (osP c h) h bg0) (mkF rs (osB c) h bg0) := by
 have hw := wk_freeze_cell (X := X) (S := mkF rs (osP c h) h bg0) 2 3 (s := 100) (g := h 100) (E := 45) (z := 5) (n := c.Trucks.length) (f := encTs c.Trucks) (l := bxR c.Length c.Gap c.Fails 100 (h 100)) (l' := encD .Convoy c) rfl rfl rfl rfl rfl (hx _ (by decide))
 refine hw.trans (wk_gen (fun i => .inr rfl) (fun s => Nat.le_refl _) (fun s => ?_))
 exact mk_sub (os := osB c) (f := upd (upd (mkF rs (osP c h) h bg0).σ 100 .none) 2 (.box (encD .Convoy c))) ⟨upd_same _ _ _, trivial⟩ s
theorem wk_zero {X : Ctx} {rs : List (Nat × D)} {h : Nat → Nat} : Wk X (mkF rs osZ h bg0) (mkF rs (osB zeroC) h bg0) := by
 have hw := wk_nilbox (X := X) (S := mkF rs osZ h bg0) 2 (l := [.int .i64 0, .int .i64 0, .int .i64 0, .nil]) (l' := encD .Convoy zeroC) rfl ⟨.inl rfl, .inl rfl, .inl rfl, .inr ⟨rfl, _, _, rfl⟩, trivial⟩
 refine hw.trans (wk_gen (fun i => .inr rfl) (fun s => Nat.le_refl _) (fun s => ?_))
 exact mk_sub (os := osB zeroC) (f := upd (mkF rs osZ h bg0).σ 2 (.box (encD .Convoy zeroC))) ⟨upd_same _ _ _, trivial⟩ s
def pR (i : Nat) : Nat := match i with | 0 => 2 | 1 => 100 | i + 2 => 101 + i
theorem pR_inj : ∀ i j, i < 3 → j < 3 → pR i = pR j → i = j
 | 0, 0, _, _, _ => rfl | 1, 1, _, _, _ => rfl | 2, 2, _, _, _ => rfl
 | 0, 1, _, _, e => by cases e
 | 0, 2, _, _, e => by cases e
 | 1, 0, _, _, e => by cases e
 | 1, 2, _, _, e => by cases e
 | 2, 0, _, _, e => by cases e
 | 2, 1, _, _, e => by cases e
 | i + 3, _, h, _, _ => by omega
 | _, i + 3, _, h, _ => by omega
theorem rn_bxG {n : Nat} {p g p' g' : Nat → Nat} (a b c : Int) (hn : 1 < n) : RnL n p g p' g' (bxR a b c (p 1) (g 1)) (bxR a b c (p' 1) (g' 1)) :=
 .cons _ _ _ _ (.pure _ (.int _ _)) (.cons _ _ _ _ (.pure _ (.int _ _)) (.cons _ _ _ _ (.pure _ (.int _ _)) (.cons _ _ _ _ (Rn.os (p := p) (g := g) (p' := p') (g' := g') 1 hn) .nil)))
theorem rn_lastG {n : Nat} {p g p' g' : Nat → Nat} (t : Truck) (hn : 2 < n) : RnL n p g p' g' (lastT t (p 2) (g 2)) (lastT t (p' 2) (g' 2)) :=
 .cons _ _ _ _ (.pure _ (.int _ _)) (.cons _ _ _ _ (.pure _ (.int _ _)) (.cons _ _ _ _ (.pure _ (.int _ _)) (.cons _ _ _ _ (.pure _ (.int _ _)) (.cons _ _ _ _ (Rn.os (p := p) (g := g) (p' := p') (g' := g') 2 hn) .nil))))
section
variable {X : Ctx} {Q : Exit → St → Prop} {S : St} {ops : Array Oper} {o : Oper} {rest : List Oper}
theorem WL_truck {x0 x1 x2 : Operand} {ty : Array TypeId} {a b c p s l h w : Int} {row : ByteArray} {ts : List Truck} {tt : Nat} (hZ : X.Z = Z0) (hc : ContractN Z0 36 2 q3 (osT a b c ts.length (encTs ts)) (osT a b c (ts.length + 1) (addT ts w s l h)) mv1 [.bx 0 1 0, .int .i64 p, .str row] (.bool true))
  (hg : o.guard = none) (ho : o.op = .call { callee := .value (.func 36), args := #[x0, x1, x2], argTypes := ty }) (h0 : S.ev X x0 = .bx 2 (S.γ 2) 0) (h1 : S.ev X x1 = .int .i64 p) (h2 : S.ev X x2 = .str row) (hd : o.dst = some tt)
  (s2 : S.σ 2 = .box (bxR a b c 100 (S.γ 100))) (s1 : S.σ 100 = .arr 45 5 ts.length (encTs ts))
  (hk : WL X ops rest Q ⟨upd S.ρ tt (.bool true), upd S.γ 100 (S.γ 100 + 1), upd (upd S.σ 2 (.box (bxR a b c 100 (S.γ 100 + 1)))) 100 (.arr 45 5 (ts.length + 1) (addT ts w s l h))⟩) : WL X ops (o :: rest) Q S := by
 rw [← hZ] at hc
 have i2 : ∀ i, i < 2 → i = 0 ∨ i = 1 := fun i hi => by omega
 refine WL_callN (n := 2) (q := q3) (ps := pR) (c := []) (fun i j hi hj e => pR_inj i j (by omega) (by omega) e) (fun i j _ _ e => q3_inj i j e) hg ho rfl (fun i hi => ?_) ?_ hc (γ' := upd S.γ 100 (S.γ 100 + 1)) (fun s hs => upd_ne _ _ _ _ (fun e => hs 1 (by decide) e.symm)) (fun i hi => ?_) (.pure _ (.bool _)) hd (σ' := upd (upd S.σ 2 (.box (bxR a b c 100 (S.γ 100 + 1)))) 100 (.arr 45 5 (ts.length + 1) (addT ts w s l h))) (fun s hs => (upd_ne _ _ _ _ (fun e => hs 1 (by decide) e.symm)).trans (upd_ne _ _ _ _ (fun e => hs 0 (by decide) e.symm))) (fun i hi => ?_) hk
 ·rcases i2 i hi with rfl | rfl
  ·rw [show S.σ (pR 0) = _ from s2]; exact .box _ _ (rn_bxG (p := pR) (g := fun j => S.γ (pR j)) (p' := q3) (g' := one) a b c (by decide))
  ·rw [show S.σ (pR 1) = _ from s1]; exact .arrP _ _ _ _ (fun i _ => pure_T _)
 ·show RnL _ _ _ _ _ [S.ev X x0, S.ev X x1, S.ev X x2] _
  rw [h0, h1, h2]
  exact .cons _ _ _ _ (Rn.bx (p := pR) (g := fun j => S.γ (pR j)) (p' := q3) (g' := one) 0 0 (by decide)) (.cons _ _ _ _ (.pure _ (.int _ _)) (.cons _ _ _ _ (.pure _ (.str _)) .nil))
 ·rcases i2 i hi with rfl | rfl
  ·exact upd_ne _ _ _ _ (by decide)
  ·exact upd_same _ _ _
 ·rcases i2 i hi with rfl | rfl
  ·rw [show upd (upd S.σ 2 (.box (bxR a b c 100 (S.γ 100 + 1)))) 100 (.arr 45 5 (ts.length + 1) (addT ts w s l h)) (pR 0) = .box (bxR a b c 100 (S.γ 100 + 1)) from (upd_ne _ _ _ _ (by decide)).trans (upd_same _ _ _)]
   have := rn_bxG (n := 2) (p := q3) (g := one) (p' := pR) (g' := fun j => upd S.γ 100 (S.γ 100 + 1) (pR j)) a b c (by decide)
   simp only [show pR 1 = 100 from rfl, upd_same] at this
   exact .box _ _ this
  ·rw [show upd (upd S.σ 2 (.box (bxR a b c 100 (S.γ 100 + 1)))) 100 (.arr 45 5 (ts.length + 1) (addT ts w s l h)) (pR 1) = _ from upd_same _ _ _]
   exact .arrP _ _ _ _ (fun i _ => pure_addT _ _ _ _ _ i)
def holG (ts : List Truck) (t : Truck) (g : Nat) (i : Nat) : List D := if i = ts.length then lastT t 101 g else encTs ts i
theorem WL_hold {x0 x1 x2 : Operand} {ty : Array TypeId} {a b c p : Int} {row : ByteArray} {ts : List Truck} {t : Truck} {hs hs' : List Hold} {tt : Nat} (hZ : X.Z = Z0) (hc : ContractN Z0 36 3 q3 (osH a b c ts t hs) (osH a b c ts t hs') mv2 [.bx 0 1 0, .int .i64 p, .str row] (.bool true))
  (hg : o.guard = none) (ho : o.op = .call { callee := .value (.func 36), args := #[x0, x1, x2], argTypes := ty }) (h0 : S.ev X x0 = .bx 2 (S.γ 2) 0) (h1 : S.ev X x1 = .int .i64 p) (h2 : S.ev X x2 = .str row) (hd : o.dst = some tt)
  (s2 : S.σ 2 = .box (bxR a b c 100 (S.γ 100))) (s1 : S.σ 100 = .arr 45 5 (ts.length + 1) (holG ts t (S.γ 101))) (s3 : S.σ 101 = .arr 76 2 hs.length (encHs hs))
  (hk : WL X ops rest Q ⟨upd S.ρ tt (.bool true), upd S.γ 101 (S.γ 101 + 1), upd (upd S.σ 100 (.arr 45 5 (ts.length + 1) (holG ts t (S.γ 101 + 1)))) 101 (.arr 76 2 hs'.length (encHs hs'))⟩) : WL X ops (o :: rest) Q S := by
 rw [← hZ] at hc
 have i3 : ∀ i, i < 3 → i = 0 ∨ i = 1 ∨ i = 2 := fun i hi => by omega
 have key : ∀ {p p' g g' : Nat → Nat}, ∀ i, RnL 3 p g p' g' (if i = ts.length then lastT t (p 2) (g 2) else encTs ts i) (if i = ts.length then lastT t (p' 2) (g' 2) else encTs ts i) := fun {p p' g g'} i => by
  split
  ·exact rn_lastG t (by decide)
  ·exact rnLp (pure_T _)
 refine WL_callN (n := 3) (q := q3) (ps := pR) (c := []) (fun i j hi hj e => pR_inj i j hi hj e) (fun i j _ _ e => q3_inj i j e) hg ho rfl (fun i hi => ?_) ?_ hc (γ' := upd S.γ 101 (S.γ 101 + 1)) (fun s hs => upd_ne _ _ _ _ (fun e => hs 2 (by decide) e.symm)) (fun i hi => ?_) (.pure _ (.bool _)) hd (σ' := upd (upd S.σ 100 (.arr 45 5 (ts.length + 1) (holG ts t (S.γ 101 + 1)))) 101 (.arr 76 2 hs'.length (encHs hs'))) (fun s hs => (upd_ne _ _ _ _ (fun e => hs 2 (by decide) e.symm)).trans (upd_ne _ _ _ _ (fun e => hs 1 (by decide) e.symm))) (fun i hi => ?_) hk
 ·rcases i3 i hi with rfl | rfl | rfl
  ·rw [show S.σ (pR 0) = _ from s2]; exact .box _ _ (rn_bxG (p := pR) (g := fun j => S.γ (pR j)) (p' := q3) (g' := one) a b c (by decide))
  ·rw [show S.σ (pR 1) = _ from s1]; exact .arr _ _ _ _ _ (fun i _ => key (p := pR) (g := fun j => S.γ (pR j)) (p' := q3) (g' := one) i)
  ·rw [show S.σ (pR 2) = _ from s3]; exact .arrP _ _ _ _ (fun i _ => encD_pure _ _)
 ·show RnL _ _ _ _ _ [S.ev X x0, S.ev X x1, S.ev X x2] _
  rw [h0, h1, h2]
  exact .cons _ _ _ _ (Rn.bx (p := pR) (g := fun j => S.γ (pR j)) (p' := q3) (g' := one) 0 0 (by decide)) (.cons _ _ _ _ (.pure _ (.int _ _)) (.cons _ _ _ _ (.pure _ (.str _)) .nil))
 ·rcases i3 i hi with rfl | rfl | rfl
  ·exact upd_ne _ _ _ _ (by decide)
  ·exact upd_ne _ _ _ _ (by decide)
  ·exact upd_same _ _ _
 ·rcases i3 i hi with rfl | rfl | rfl
  ·rw [show upd (upd S.σ 100 (.arr 45 5 (ts.length + 1) (holG ts t (S.γ 101 + 1)))) 101 (.arr 76 2 hs'.length (encHs hs')) (pR 0) = .box (bxR a b c 100 (S.γ 100)) from (upd_ne _ _ _ _ (by decide)).trans ((upd_ne _ _ _ _ (by decide)).trans s2)]
   have := rn_bxG (n := 3) (p := q3) (g := one) (p' := pR) (g' := fun j => upd S.γ 101 (S.γ 101 + 1) (pR j)) a b c (by decide)
   simp only [show pR 1 = 100 from rfl, upd_ne S.γ 101 100 (S.γ 101 + 1) (by decide)] at this
   exact .box _ _ this
  ·rw [show upd (upd S.σ 100 (.arr 45 5 (ts.length + 1) (holG ts t (S.γ 101 + 1)))) 101 (.arr 76 2 hs'.length (encHs hs')) (pR 1) = _ from (upd_ne _ _ _ _ (by decide)).trans (upd_same _ _ _)]
   refine .arr _ _ _ _ _ (fun i _ => ?_)
   have := key (p := q3) (g := one) (p' := pR) (g' := fun j => upd S.γ 101 (S.γ 101 + 1) (pR j)) i
   simp only [show pR 2 = 101 from rfl, upd_same] at this
   exact this
  ·rw [show upd (upd S.σ 100 (.arr 45 5 (ts.length + 1) (holG ts t (S.γ 101 + 1)))) 101 (.arr 76 2 hs'.length (encHs hs')) (pR 2) = _ from upd_same _ _ _]
   exact .arrP _ _ _ _ (fun i _ => encD_pure _ _)
end
theorem lhT_snoc (ts : List Truck) (t : Truck) (g : Nat) : lhT (ts ++ [t]) g = holG ts t g := funext fun i => by
 unfold lhT holG
 rw [List.length_append]
 by_cases e : i = ts.length
 ·subst e
  rw [if_pos (show ts.length + 1 = ts.length + [t].length from rfl), if_pos rfl]
  simp [List.getD_eq_getElem?_getD]
 ·rw [if_neg (show ¬ (i + 1 = ts.length + [t].length) from fun q => e (Nat.succ.inj q)), if_neg e]
  unfold encTs
  rw [List.getD_eq_getElem?_getD, List.getD_eq_getElem?_getD]
  by_cases h : i < ts.length
  ·rw [List.getElem?_append_left h]
  ·rw [List.getElem?_eq_none (show ts.length ≤ i by omega), List.getElem?_eq_none (by simp; omega)]
theorem lastH_snoc (ts : List Truck) (t : Truck) : lastH (ts ++ [t]) = t.Holds := by unfold lastH; simp
theorem osG_snoc (L G F : Int) (ts : List Truck) (t : Truck) (h : Nat → Nat) : osG ⟨L, G, F, ts ++ [t]⟩ h = [(2, .box (bxR L G F 100 (h 100))), (100, .arr 45 5 (ts.length + 1) (holG ts t (h 101))), (101, .arr 76 2 t.Holds.length (encHs t.Holds))] := by
 unfold osG
 rw [lhT_snoc, lastH_snoc, List.length_append]; rfl
section
variable {X : Ctx} {S : St}
theorem end_road {rs : List (Nat × D)} {a b g : Int} (hr : AllE S.ρ rs) (s2 : S.σ 2 = .box [.int .i64 a, .int .i64 b, .int .i64 g, .nil]) (s1 : S.σ 100 = .none) :
  ∃ S'', Wk X S S'' ∧ S''.ρ = S.ρ ∧ (∀ s, s < 100 → S''.γ s = S.γ s) ∧ AllE S''.σ (osG ⟨a, b, g, []⟩ S''.γ) := by
 have w1 := wk_nilc (X := X) (S := S) 2 3 100 45 5 (lhT [] (S.γ 101 + 1)) (l' := bxR a b g 100 (S.γ 100 + 1)) s2 rfl s1 rfl rfl
 have w2 := wk_new (X := X) (S := ⟨S.ρ, upd S.γ 100 (S.γ 100 + 1), upd (upd S.σ 100 (.arr 45 5 0 (lhT [] (S.γ 101 + 1)))) 2 (.box (bxR a b g 100 (S.γ 100 + 1)))⟩) 101 76 2 (encHs [])
 exact ⟨_, w1.trans w2, rfl, fun s hs => (upd_ne _ _ _ _ (by omega)).trans (upd_ne _ _ _ _ (by omega)), rfl, rfl, rfl, trivial⟩
theorem end_truck {a b c w s l h : Int} {ts : List Truck} (s2 : S.σ 2 = .box (bxR a b c 100 (S.γ 100))) (s1 : S.σ 100 = .arr 45 5 (ts.length + 1) (addT ts w s l h)) :
  ∃ S'', Wk X S S'' ∧ S''.ρ = S.ρ ∧ (∀ s, s < 100 → S''.γ s = S.γ s) ∧ AllE S''.σ (osG ⟨a, b, c, ts ++ [⟨w, s, ⟨l, h⟩, []⟩]⟩ S''.γ) := by
 have w1 := wk_nil_elem (X := X) (S := S) 100 ts.length 4 101 76 2 (encHs []) (f2' := holG ts ⟨w, s, ⟨l, h⟩, []⟩ (S.γ 101 + 1)) (l' := lastT ⟨w, s, ⟨l, h⟩, []⟩ 101 (S.γ 101 + 1)) s1 (by decide) (Nat.lt_succ_self _) (by unfold addT; rw [if_neg (Nat.lt_irrefl _)]; rfl) (by unfold addT; rw [if_neg (Nat.lt_irrefl _)]; rfl) (fun k hk => by
  unfold holG addT
  by_cases e : k = ts.length
  ·rw [if_pos e, if_pos e]
  ·rw [if_neg e, if_neg e, if_pos (by omega)])
 refine ⟨_, w1, rfl, fun s hs => upd_ne _ _ _ _ (by omega), ?_⟩
 rw [osG_snoc]
 exact ⟨s2, rfl, rfl, trivial⟩
theorem end_hold {a b c x y : Int} {ts : List Truck} {t : Truck} (s2 : S.σ 2 = .box (bxR a b c 100 (S.γ 100))) (s1 : S.σ 100 = .arr 45 5 (ts.length + 1) (holG ts t (S.γ 101))) (s3 : S.σ 101 = .arr 76 2 (t.Holds ++ [Hold.mk x y]).length (encHs (t.Holds ++ [Hold.mk x y]))) :
  AllE S.σ (osG ⟨a, b, c, ts ++ [⟨t.Way, t.Start, t.Pace, t.Holds ++ [Hold.mk x y]⟩]⟩ S.γ) := by
 rw [osG_snoc]
 exact ⟨s2, s1, s3, trivial⟩
end
def rowsD (l : List ByteArray) (i : Nat) : List D := [.str (l.getD i ⟨#[]⟩)]
theorem rowsD_snoc (l : List ByteArray) (x : ByteArray) {i : Nat} (h : i < l.length) : rowsD (l ++ [x]) i = rowsD l i := by
 unfold rowsD
 rw [List.getD_eq_getElem?_getD, List.getD_eq_getElem?_getD, List.getElem?_append_left h]
def rsL (ini : List ByteArray) (lst : ByteArray) (k : Nat) (h : Nat → Nat) : List (Nat × D) := [(2, .bx 2 (h 2) 0), (5, .sl 1 (ini.length + 1) (rowsD (ini ++ [lst]))), (6, .int .i64 (ini.length : Int)), (21, .sl 1 ini.length (rowsD ini)), (22, .int .i64 (ini.length : Int)), (23, .int .i64 (k : Int))]
theorem fin_conv {X : Ctx} {S : St} {l : List D} {c : Convoy} {a b : Int} (hZ : X.Z = Z0) (e2 : S.ev X (.tmp 2) = .bx 2 (S.γ 2) 0) (e3 : S.ev X (.tmp 3) = .int .i64 a) (e4 : S.ev X (.tmp 4) = .int .i64 b) (s2 : S.σ 2 = .box l) (hl : NilL l (encD .Convoy c)) : FinN X [.cell 2 24, .tmp 3, .tmp 4] (.tup [.agg (encD .Convoy c), .int .i64 a, .int .i64 b]) .ret S := by
 have hw := wk_nilbox (X := X) (S := S) 2 (l := l) (l' := encD .Convoy c) s2 hl
 exact ⟨_, [.agg (encD .Convoy c), .int .i64 a, .int .i64 b], hw, ⟨rv_A (l := encD .Convoy c) (S := ⟨S.ρ, S.γ, upd S.σ 2 (.box (encD .Convoy c))⟩) e2 rfl rfl (by rw [hZ]; rfl) rfl rfl rfl, rv_I e3, rv_I e4, trivial⟩, fun _ _ _ _ q => q⟩
theorem nil_zero : NilL [.int .i64 0, .int .i64 0, .int .i64 0, .nil] (encD .Convoy zeroC) := ⟨.inl rfl, .inl rfl, .inl rfl, .inr ⟨rfl, _, _, rfl⟩, trivial⟩
theorem endW {X : Ctx} {S : St} {ini : List ByteArray} {lst : ByteArray} {k' : Nat} {c' : Convoy} {P M : Prop} (h : ∃ S'', Wk X S S'' ∧ S''.ρ = S.ρ ∧ (∀ s, s < 100 → S''.γ s = S.γ s) ∧ AllE S''.σ (osG c' S''.γ)) (hk : k' ≠ 0) (hr : AllE S.ρ (rsL ini lst k' S.γ)) (hp : P) (hm : M) :
  ∃ S'', P ∧ M ∧ Wk X S S'' ∧ MatchF S'' (rsL ini lst k' S''.γ) (osR (k', c') S''.γ) bg0 := by
 obtain ⟨S'', h1, h2, h3, h4⟩ := h
 refine ⟨S'', hp, hm, h1, ?_, ?_, fun _ _ => .inl rfl⟩
 ·rw [h2]
  unfold rsL at hr ⊢
  rw [h3 2 (by decide)]; exact hr
 ·rw [show osR (k', c') S''.γ = osG c' S''.γ from if_neg hk]; exact h4
theorem c11 {text : ByteArray} {c : Convoy} {row e : Int} (h : readF text = some (c, row, e)) : Contract Z0 11 [.str text] (.tup [.agg (encD .Convoy c), .int .i64 row, .int .i64 e]) := by
 unfold readF at h
 refine contract_introN (fn := Tryz.f11) Tryz.func11 rfl (by kernel_rfl) rfl (PureL.cons (.str _) PureL.nil) (.tup _ (PureL.cons (.agg _ (encD_pure _ _)) (PureL.cons (.int _ _) (PureL.cons (.int _ _) PureL.nil)))) ?_
 intro w κ
 cases hsz : decide ((text.size : Int) > 20000)
 case' true =>
  rw [hsz] at h
  cases h
 case' false =>
  rw [hsz] at h
  obtain ⟨ho, h⟩ := chk_some h
  obtain ⟨lst, hl, h⟩ : ∃ lst, (Tx.splitV text bNl).getLast? = some lst ∧ chk (decide ((Tx.splitV text bNl).length ≤ 1000000)) ((readL (Tx.splitV text bNl).dropLast 0 zeroC).bind (readT ((Tx.splitV text bNl).length - 1) lst)) = some (c, row, e) := by
   split at h
   ·cases h
   ·rename_i lst hl
    exact ⟨lst, hl, h⟩
  obtain ⟨hm, h⟩ := chk_some h
  have hm := of_decide_eq_true hm
  obtain ⟨ini, hini⟩ := List.getLast?_eq_some_iff.1 hl
  have cw : Contract Z0 35 [.str text, .str bNl] (.sl 1 (ini.length + 1) (rowsD (ini ++ [lst]))) := by
   have := Tx.c35 text bNl ho
   rw [hini] at this
   have this : Contract Z0 35 [.str text, .str bNl] (.sl 1 (ini ++ [lst]).length (rowsD (ini ++ [lst]))) := this
   rw [List.length_append] at this
   exact this
  rw [hini] at h hm
  rw [List.dropLast_concat, List.length_append, show ini.length + [lst].length - 1 = ini.length from rfl] at h
  rw [List.length_append] at hm
  have hm : ini.length + 1 ≤ 1000000 := hm
  have hsub : ((ini.length + 1 : Nat) : Int) - 1 = (ini.length : Int) := by omega
  clear hini hl ho
 all_goals
  repeat' (first
  | (apply WL_q; apply rr; apply rr; apply q_mvY; apply rr; apply rr)
  | (apply WL_q; apply rr; apply rr; apply q_lenS; apply rr; apply rr; apply rr; exact Tryz.underlying9)
  | (apply WL_q; apply rr; apply rr; apply q_cmpB; apply rr; apply rr; apply rr; apply rr; exact hsz)
  | (apply WL_q; apply rr; apply rr; refine q_arithB rfl rfl rfl rfl ?_ ?_ hsub; omega; omega)
  | (apply WL_q; apply rr; apply rr; refine q_slF (i := 0) (j := ini.length) (f' := rowsD ini) rfl rfl (.inl ⟨rfl, rfl⟩) (.inr ⟨_, rfl, rfl⟩) (by omega) (by omega) rfl rfl rfl rfl rfl (fun k hk => by rw [Nat.zero_add]; exact (rowsD_snoc ini lst hk).symm))
  | (apply WL_q; apply rr; apply rr; (first | (apply q_mvI <;> apply rr) | (apply q_asI <;> apply rr) | (apply q_mvB <;> apply rr) | (apply q_not <;> apply rr) | (apply q_ldr <;> apply rr) | (apply q_arith <;> (first | apply rr | omega)) | (apply q_len <;> apply rr) | (apply q_pkT <;> apply rr) | (apply q_pkF <;> apply rr) | (apply q_ia <;> (first | apply rr | omega)) | (apply q_ldba <;> apply rr) | (apply q_bld <;> apply rr) | (apply q_mvS <;> apply rr) | (apply q_asS <;> apply rr)))
  | apply W_seq
  | apply W_region
  | apply T_normal
  | apply WL_nil
  | apply T_exit
  | apply T_ret
  | apply B_normal
  | apply B_ret
  | apply B_exit_eq
  | apply W_skip
  | apply W_exit
  | apply W_ret
  | apply W_block
  | (apply W_condT; apply rr)
  | (apply W_condF; apply rr)
  | (apply WL_call; apply rr; apply rr; rotate_left 1; apply rr; rotate_right 1; exact (cw); apply rr)
  | (apply WL_n; apply rr; (first | (apply n_alloc <;> apply rr) | (apply n_stb <;> (first | apply rr | (intro _ e; cases e)))))
  | (apply WL_yes; apply rr; apply rr; apply rr))
 case true => exact fin_conv (c := zeroC) rfl rfl rfl rfl rfl nil_zero
 case false =>
  refine W_loopF (α := Nat × Convoy) (fun x h => rsL ini lst x.1 h) osR (fun _ _ => bg0) (fun x => x.1 ≤ ini.length ∧ (x.1 = 0 → x.2 = zeroC) ∧ x.2.Trucks.length ≤ x.1 ∧ (lastH x.2.Trucks).length ≤ x.1 ∧ (readL (ini.drop x.1) x.1 x.2).bind (readT ini.length lst) = some (c, row, e)) (fun x => ini.length - x.1) (0, zeroC) ⟨Nat.zero_le _, fun _ => rfl, Nat.le_refl _, Nat.le_refl _, h⟩ ⟨⟨rfl, rfl, rfl, rfl, rfl, rfl, trivial⟩, ⟨rfl, trivial⟩, fun _ _ => .inl rfl⟩ ?_
  clear h
  rintro ⟨k, x⟩ hh ⟨hk, hz, hb1, hb2, hr⟩
  simp only at hk hz hb1 hb2 hr ⊢
  have hB : Wk (Ctx.plain Z0 Tryz.f11.ntmps w κ none) (mkF (rsL ini lst k hh) (osR (k, x) hh) hh bg0) (mkF (rsL ini lst k hh) (osB x) hh bg0) := by
   by_cases hk0 : k = 0
   ·rw [hz hk0, show osR (k, zeroC) hh = osZ from if_pos hk0]; exact wk_zero
   ·rw [show osR (k, x) hh = osG x hh from if_neg hk0]; exact (wk_trk fun _ _ => rfl).trans (wk_bad fun _ _ => rfl)
  by_cases hkn : k = ini.length
  ·rw [show ini.drop k = [] by rw [hkn]; exact List.drop_length] at hr
   have hr : readT ini.length lst (.ok x) = some (c, row, e) := hr
   have hge : decide ((k : Int) < (ini.length : Int)) = false := decide_eq_false (by omega)
   refine W_wk hB ?_
   unfold readT at hr
   simp only at hr
   have hgl : (ini ++ [lst]).getD ini.length ⟨#[]⟩ = lst := by simp [List.getD_eq_getElem?_getD]
   by_cases hz0 : ini.length = 0
   case' pos =>
    rw [if_pos hz0] at hr
    cases hr
    have hn0 : ((ini.length : Int) == 0) = true := by rw [hz0]; rfl
   case' neg =>
    rw [if_neg hz0] at hr
    have hn0 : ((ini.length : Int) == 0) = false := by simpa using hz0
    cases hl : eqB lst ⟨#[]⟩
    case' false =>
     rw [hl] at hr
     cases hr
     have hls : (!(((ini ++ [lst]).getD ini.length ⟨#[]⟩).toList == (⟨#[]⟩ : ByteArray).toList)) = true := by rw [hgl]; unfold eqB at hl; rw [hl]; rfl
    case' true =>
     rw [hl] at hr
     have hls : (!(((ini ++ [lst]).getD ini.length ⟨#[]⟩).toList == (⟨#[]⟩ : ByteArray).toList)) = false := by rw [hgl]; unfold eqB at hl; rw [hl]; rfl
     obtain ⟨e0, hp, hr⟩ := Option.bind_eq_some_iff.1 hr
     have cp := c25 hp
     cases hbe : (e0 != 0)
     case' true =>
      rw [hbe] at hr
      cases hr
     case' false =>
      rw [hbe] at hr
      cases hr
   all_goals
    repeat' (first
  | (apply WL_q; apply rr; apply rr; apply q_mvY; apply rr; apply rr)
  | (apply WL_q; apply rr; apply rr; apply q_cmpB; apply rr; apply rr; apply rr; apply rr; (first | exact hge | exact hn0 | exact hbe))
  | (apply WL_q; apply rr; apply rr; apply q_neSB; apply rr; apply rr; apply rr; exact hls)
  | (apply WL_noE; apply rr; apply rr; apply rr; apply rr; apply rr)
  | (apply WL_q; apply rr; apply rr; (first | (apply q_mvI <;> apply rr) | (apply q_asI <;> apply rr) | (apply q_mvB <;> apply rr) | (apply q_not <;> apply rr) | (apply q_ldr <;> apply rr) | (apply q_arith <;> (first | apply rr | omega)) | (apply q_len <;> apply rr) | (apply q_pkT <;> apply rr) | (apply q_pkF <;> apply rr) | (apply q_ia <;> (first | apply rr | omega)) | (apply q_ldba <;> apply rr) | (apply q_bld <;> apply rr) | (apply q_mvS <;> apply rr) | (apply q_asS <;> apply rr)))
  | apply W_seq
  | apply W_region
  | apply T_normal
  | apply WL_nil
  | apply T_exit
  | apply T_ret
  | apply B_normal
  | apply B_ret
  | apply B_exit_eq
  | apply W_skip
  | apply W_exit
  | apply W_ret
  | apply W_block
  | (apply W_condT; apply rr)
  | (apply W_condF; apply rr)
  | (apply WL_call; apply rr; apply rr; rotate_left 1; apply rr; rotate_right 1; exact (cp); apply rr)
  | (apply WL_n; apply rr; (first | (apply n_alloc <;> apply rr) | (apply n_stb <;> (first | apply rr | (intro _ e; cases e)))))
  | (apply WL_yes; apply rr; apply rr; apply rr))
   all_goals first | exact fin_conv (c := zeroC) rfl rfl rfl rfl rfl nil_zero | exact fin_conv rfl rfl rfl rfl rfl ⟨.inl rfl, .inl rfl, .inl rfl, .inl rfl, trivial⟩
  have hlt : decide ((k : Int) < (ini.length : Int)) = true := decide_eq_true (by omega)
  have hkl : k < ini.length := by omega
  rw [List.drop_eq_getElem_cons hkl] at hr
  have hrow : ini[k] = ini.getD k ⟨#[]⟩ := by rw [List.getD_eq_getElem?_getD, List.getElem?_eq_getElem hkl]; rfl
  rw [hrow] at hr
  unfold readL at hr
  obtain ⟨res, hr1, hr2⟩ := Option.bind_eq_some_iff.1 hr
  obtain ⟨ho, hr1⟩ := chk_some hr1
  cases hg : goodRow k x (Tx.splitV (ini.getD k ⟨#[]⟩) bSp)
  case' none =>
   rw [hg] at hr1
   obtain ⟨⟨y, b⟩, ht, hr1⟩ := Option.bind_eq_some_iff.1 hr1
   obtain rfl : b = false := by
    cases b
    ·rfl
    ·cases hr1
   cases hr1
   cases hr2
   have cr := take_bad ht
   refine W_wk hB ?_
  case' some =>
   rename_i c'
   rw [hg] at hr1
   have hG := good_of ho hg
   have hr3 : (readL (ini.drop (k + 1)) (k + 1) c').bind (readT ini.length lst) = some (c, row, e) := Option.bind_eq_some_iff.2 ⟨res, hr1, hr2⟩
   cases hG
   case' road w0 r a b g hk0 hw h0 hn =>
    subst hk0
    rw [show osR (0, x) hh = osZ from rfl]
    have cr := take_road hw h0 hn
   case' truck w0 w1 r d s l h hk0 hw h0 h1 hu hd hn =>
    have crt := take_truck (a := x.Length) (b := x.Gap) (c := x.Fails) (p := (k : Int)) (ts := x.Trucks) d hw (by simp; omega) h0 h1 hu hd hn (by omega)
    rw [show osR (k, x) hh = osG x hh from if_neg hk0]
    refine W_wk (wk_trk fun _ _ => rfl) ?_
   case' hold w0 r t p q hk0 hw h0 h1 h2 hl hn =>
    obtain ⟨ts, hts⟩ := List.getLast?_eq_some_iff.1 hl
    obtain ⟨L, G, F, tr⟩ := x
    simp only at hts
    subst hts
    have hb3 : ts.length + 1 ≤ k := by simpa using hb1
    have hb4 : t.Holds.length ≤ k := by simpa [lastH_snoc] using hb2
    have crh := take_hold (a := L) (b := G) (c := F) (p := (k : Int)) (ts := ts) (t := t) (hs := t.Holds) hw (by simp; omega) h0 h1 h2 hn (by omega) (by omega)
    rw [show osR (k, ⟨L, G, F, ts ++ [t]⟩) hh = osG ⟨L, G, F, ts ++ [t]⟩ hh from if_neg hk0, osG_snoc]
  all_goals
   repeat' (first
  | (apply WL_q; apply rr; apply rr; apply q_mvY; apply rr; apply rr)
  | (apply WL_q; apply rr; apply rr; apply q_asY; apply rr; apply rr)
  | (apply WL_q; apply rr; apply rr; apply q_cmpB; apply rr; apply rr; apply rr; apply rr; exact hlt)
  | (refine WL_callR (xs := [.tmp 28, .tmp 29]) rfl rfl rfl rfl rfl cr rfl rfl ?_)
  | (refine WL_truck (a := x.Length) (b := x.Gap) (c := x.Fails) (p := (k : Int)) (ts := x.Trucks) rfl crt rfl rfl rfl rfl rfl rfl rfl rfl ?_)
  | (refine WL_hold (a := L) (b := G) (c := F) (p := (k : Int)) (ts := ts) rfl crh rfl rfl rfl rfl rfl rfl rfl rfl rfl ?_)
  | (apply WL_q; apply rr; apply rr; (first | (apply q_mvI <;> apply rr) | (apply q_asI <;> apply rr) | (apply q_mvB <;> apply rr) | (apply q_not <;> apply rr) | (apply q_ldr <;> apply rr) | (apply q_arith <;> (first | apply rr | omega)) | (apply q_len <;> apply rr) | (apply q_pkT <;> apply rr) | (apply q_pkF <;> apply rr) | (apply q_ia <;> (first | apply rr | omega)) | (apply q_ldba <;> apply rr) | (apply q_bld <;> apply rr) | (apply q_mvS <;> apply rr) | (apply q_asS <;> apply rr)))
  | apply W_seq
  | apply W_region
  | apply T_normal
  | apply WL_nil
  | apply T_exit
  | apply T_ret
  | apply B_normal
  | apply B_ret
  | apply B_exit_eq
  | apply W_skip
  | apply W_exit
  | apply W_ret
  | apply W_block
  | (apply W_condT; apply rr)
  | (apply W_condF; apply rr)
  | (apply WL_n; apply rr; (first | (apply n_alloc <;> apply rr) | (apply n_stb <;> (first | apply rr | (intro _ e; cases e)))))
  | (apply WL_yes; apply rr; apply rr; apply rr))
  case neg.some.road =>
   refine ⟨(0 + 1, ⟨a, b, g, []⟩), endW (end_road (rs := []) trivial rfl rfl) (Nat.succ_ne_zero 0) ⟨rfl, rfl, rfl, rfl, rfl, rfl, trivial⟩ ⟨hkl, fun q => (by cases q), Nat.zero_le _, Nat.zero_le _, hr3⟩ ?_⟩
   show ini.length - (0 + 1) < ini.length - 0
   omega
  case neg.some.truck =>
   refine ⟨(k + 1, addTruck x d s l h), endW (end_truck rfl rfl) (Nat.succ_ne_zero k) ⟨rfl, rfl, rfl, rfl, rfl, rfl, trivial⟩ ⟨hkl, fun q => absurd q (Nat.succ_ne_zero k), ?_, ?_, hr3⟩ ?_⟩
   ·show (x.Trucks ++ [_]).length ≤ k + 1
    rw [List.length_append]; exact Nat.succ_le_succ hb1
   ·show (lastH (x.Trucks ++ [_])).length ≤ k + 1
    rw [lastH_snoc]; exact Nat.zero_le _
   ·show ini.length - (k + 1) < ini.length - k
    omega
  case neg.some.hold =>
   have e : addHold ⟨L, G, F, ts ++ [t]⟩ t p q = ⟨L, G, F, ts ++ [⟨t.Way, t.Start, t.Pace, t.Holds ++ [Hold.mk p q]⟩]⟩ := by unfold addHold; simp
   rw [e] at hr3
   refine ⟨(k + 1, ⟨L, G, F, ts ++ [⟨t.Way, t.Start, t.Pace, t.Holds ++ [Hold.mk p q]⟩]⟩), endW ⟨_, Wk.refl _ _, rfl, fun _ _ => rfl, end_hold rfl rfl rfl⟩ (Nat.succ_ne_zero k) ⟨rfl, rfl, rfl, rfl, rfl, rfl, trivial⟩ ⟨hkl, fun q => absurd q (Nat.succ_ne_zero k), ?_, ?_, hr3⟩ ?_⟩
   ·show (ts ++ [_]).length ≤ k + 1
    rw [List.length_append]; exact Nat.le_succ_of_le hb3
   ·show (lastH (ts ++ [_])).length ≤ k + 1
    rw [lastH_snoc, List.length_append]; exact Nat.succ_le_succ hb4
   ·show ini.length - (k + 1) < ini.length - k
    omega
  all_goals exact fin_conv (c := zeroC) rfl rfl rfl rfl rfl nil_zero
noncomputable section
def Read : ByteArray → Option (Convoy × Int × Int) := opq readF
theorem Read_eq (t : ByteArray) : Read t = readF t := by unfold Read; rw [opq_eq]
def sp11 : FnSpec iseat.toSeat := mkSpec iseat.toSeat 11 [.str] [.Convoy, .int .i64, .int .i64] false (fun a => Read a.1) (fun a x hx h h' => by
 obtain ⟨t, u⟩ := a
 obtain ⟨c, r, e⟩ := x
 replace hx : Read t = some (c, r, e) := hx
 rw [Read_eq] at hx
 have h2 := c11 hx
 have e1 : (encR [.Convoy, .int .i64, .int .i64] (c, r, e)).toD h' = .tup [.agg (encD .Convoy c), .int .i64 r, .int .i64 e] := by
  show D.tup [.agg (I.toDL h' (encC .Convoy c)), _, _] = _
  rw [toDL_enc]; rfl
 rw [e1]; exact h2) (fun h => nomatch h)
end
end Go.Proofs.Tt05
namespace Go.Proofs.Tt05
open Go Go.Ab
set_option linter.all false
set_option maxRecDepth 100000
def rowB (w : List UInt8) (ns : List Int) : List UInt8 := w ++ ns.flatMap numL
def holdB (h : Hold) : List UInt8 := rowB wHold [h.At, h.Until]
def headB (t : Truck) : List UInt8 := rowB (wTruck ++ 32 :: wayL t.Way) [t.Start, t.Pace.Lo, t.Pace.Hi]
def linesT (t : Truck) : List (List UInt8) := headB t :: t.Holds.map holdB
def roadB (c : Convoy) : List UInt8 := rowB wRoad [c.Length, c.Gap, c.Fails]
def lines (c : Convoy) : List (List UInt8) := roadB c :: c.Trucks.flatMap linesT
theorem rows_app (c : UInt8) (a b : List (List UInt8)) : rowsL c (a ++ b) = rowsL c a ++ rowsL c b := List.flatMap_append
theorem rows_holds : ∀ hs : List Hold, rowsL 10 (hs.map holdB) = hs.flatMap holdL
 | [] => rfl
 | h :: hs => by
  show (holdB h ++ [10]) ++ rowsL 10 (hs.map holdB) = holdL h ++ hs.flatMap holdL
  rw [rows_holds hs]; rfl
theorem rows_trucks : ∀ ts : List Truck, rowsL 10 (ts.flatMap linesT) = ts.flatMap truckL
 | [] => rfl
 | t :: ts => by
  rw [List.flatMap_cons, List.flatMap_cons, rows_app, rows_trucks ts]
  congr 1
  show (headB t ++ [10]) ++ rowsL 10 (t.Holds.map holdB) = truckL t
  rw [rows_holds]; rfl
theorem text_lines (c : Convoy) : textL c = rowsL 10 (lines c) := by
 show _ = (roadB c ++ [10]) ++ rowsL 10 (c.Trucks.flatMap linesT)
 rw [rows_trucks]; rfl
theorem rowB_join : ∀ (ns : List Int) (w : List UInt8), rowB w ns = joinL 32 (w :: ns.map digs)
 | [], w => by show w ++ [] = w; rw [List.append_nil]
 | n :: ns, w => by
  show _ = w ++ 32 :: joinL 32 (digs n :: ns.map digs)
  rw [← rowB_join ns (digs n)]
  unfold rowB
  rw [List.flatMap_cons]; rfl
theorem headB_join (t : Truck) : headB t = joinL 32 (wTruck :: wayL t.Way :: [t.Start, t.Pace.Lo, t.Pace.Hi].map digs) := by
 show _ = wTruck ++ 32 :: joinL 32 (wayL t.Way :: [t.Start, t.Pace.Lo, t.Pace.Hi].map digs)
 rw [← rowB_join]
 unfold headB rowB
 rw [List.append_assoc]; rfl
theorem rowB_len {w : List UInt8} {ns : List Int} (h : ∀ n ∈ ns, NumOk n) : (rowB w ns).length ≤ w.length + 10 * ns.length := by
 have := nums_len ns h
 unfold rowB
 rw [List.length_append]; omega
theorem mk_inj {a b : List UInt8} (h : mk a = mk b) : a = b := by
 have := congrArg bl h
 rwa [bl_mk, bl_mk] at this
theorem eqB_iff {s t : ByteArray} : eqB s t = true ↔ s = t := eq_iff
theorem eqB_mk (a b : List UInt8) : eqB (mk a) (mk b) = decide (a = b) := by
 by_cases h : a = b
 ·rw [h, decide_eq_true rfl]; exact eqB_iff.2 rfl
 ·rw [decide_eq_false h]
  cases he : eqB (mk a) (mk b) with
  | false => rfl
  | true => exact absurd (mk_inj (eqB_iff.1 he)) h
theorem okS_of {s : ByteArray} (h : s.size ≤ 1000000) : Tx.okS s bSp = true := by
 unfold Tx.okS
 rw [decide_eq_true (by omega), show decide (1 ≤ bSp.size) = true from rfl]; rfl
theorem readL_cons {row : ByteArray} {rows : List ByteArray} {k : Nat} {c c' : Convoy} (ho : row.size ≤ 1000000) (hg : goodRow k c (Tx.splitV row bSp) = some c') : readL (row :: rows) k c = readL rows (k + 1) c' := by
 show chk (Tx.okS row bSp) _ = _
 rw [okS_of ho, hg]; rfl
theorem way_len (w : Int) : (wayL w).length ≤ 4 := by
 unfold wayL
 split <;> decide
theorem rows_len (c : UInt8) : ∀ l : List (List UInt8), l.length ≤ (rowsL c l).length
 | [] => Nat.le_refl _
 | x :: l => by
  have := rows_len c l
  show l.length + 1 ≤ ((x ++ [c]) ++ rowsL c l).length
  simp only [List.length_append, List.length_singleton]; omega
theorem okS_nl {s : ByteArray} (h : s.size ≤ 1000000) : Tx.okS s bNl = true := by
 unfold Tx.okS
 rw [decide_eq_true (by omega), show decide (1 ≤ bNl.size) = true from rfl]; rfl
end Go.Proofs.Tt05
namespace Go.Proofs.Tt05
open Go Go.Ab
set_option linter.all false
set_option maxRecDepth 100000
theorem u64_bnd (n : Int) : 0 ≤ IntKind.u64.wrap n ∧ IntKind.u64.wrap n < 18446744073709551616 := by
 unfold IntKind.wrap
 simp [IntKind.bits, IntKind.signed]
 omega
theorem u64_id {n : Int} (h1 : 0 ≤ n) (h2 : n < 18446744073709551616) : IntKind.u64.wrap n = n := by
 unfold IntKind.wrap
 simp [IntKind.bits, IntKind.signed]
 omega
theorem next_ok (s : Seed) : Ok (fun r => 0 ≤ r.2 ∧ r.2 < 18446744073709551616) (next s) := by
 rw [next_eq]
 exact ⟨_, rfl, u64_bnd _⟩
theorem NewSeed_ok {nums : List Int} (hn : nums.length ≤ 9223372036854775807) : Ok (fun _ => True) (NewSeed nums) := by
 rw [NewSeed_eq]
 refine Ok.rounds (fun v => 0 ≤ v.1.2.1 ∧ v.1.2.1 ≤ nums.length) (fun v => ((nums.length : Int) - v.1.2.1).toNat) ?_ ?_ ?_
 ·show ((nums.length : Int) - 0).toNat < 18446744073709551616
  omega
 ·simp
 ·rintro ⟨⟨_, i, _⟩, ⟨w, _⟩, _⟩ kn hi' hk
  simp only at hi'
  refine Ok.ite (fun hlt => ?_) fun _ => Ok.some trivial
  simp only [decide_eq_true_eq] at hlt
  have e : w64 (i + 1) = i + 1 := w64_id (by omega) (by omega)
  refine Ok.chk (by simp; omega) (Ok.bind (next_ok _) fun r _ => hk _ ?_ ?_)
  ·simp [e]; omega
  ·simp [e]; omega
theorem fitA_ok {n b : Nat} (hn : n ≤ 1000000) (hb : b ≤ 1000000) : fitA n b = true := by
 unfold fitA
 have : n * b ≤ 1000000 * 1000000 := Nat.mul_le_mul hn hb
 simp; omega
theorem ok_eq {α : Type} {x : Option α} {a : α} (h : Ok (fun b => b = a) x) : x = some a := by obtain ⟨b, h1, rfl⟩ := h; exact h1
theorem Ok.beq {α β : Type} {Q : β → Prop} {x : Option α} {a : α} {f : α → Option β} (hx : x = some a) (hf : Ok Q (f a)) : Ok Q (x.bind f) := by subst hx; exact hf
theorem ib {i : Int} {n : Nat} (h1 : 0 ≤ i) (h2 : i < n) : (decide (0 ≤ i) && decide (i < (n : Int))) = true := by simp; omega
theorem w64_bnd (n : Int) : -9223372036854775808 ≤ w64 n ∧ w64 n ≤ 9223372036854775807 := by
 unfold w64 IntKind.wrap
 simp [IntKind.bits, IntKind.signed, Int.bmod_def]
 omega
theorem Below_ok (s : Seed) {n : Int} (hn : n ≤ 9223372036854775807) : Ok (fun r => 0 ≤ r.2 ∧ (r.2 < n ∨ r.2 = 0)) (Below s n) := by
 rw [Below_eq]
 refine Ok.ite (fun h => Ok.some ⟨Int.le_refl _, .inr rfl⟩) fun h => ?_
 have hn2 : ¬ n < 2 := by simpa using h
 refine Ok.bind (next_ok s) fun r hr => ?_
 have hu : IntKind.u64.wrap n = n := u64_id (by omega) (by omega)
 refine Ok.chk (by rw [hu]; simp; omega) (Ok.some ?_)
 rw [hu]
 have e : shrI .u64 r.2 1 = r.2 / 2 := by
  unfold shrI
  rw [Int.fdiv_eq_ediv_of_nonneg _ (by decide)]
  simp [IntKind.bits]
 rw [e, Int.tmod_eq_emod_of_nonneg (by omega)]
 have h1 := Int.emod_nonneg (r.2 / 2) (show n ≠ 0 by omega)
 have h2 := Int.emod_lt_of_pos (r.2 / 2) (show 0 < n by omega)
 rw [w64_id (by omega) (by omega)]
 exact ⟨h1, .inl h2⟩
theorem From_ok (s : Seed) (low high : Int) : Ok (fun _ => True) (From s low high) := by
 rw [From_eq]
 exact Ok.bind (Below_ok s (w64_bnd _).2) fun r hr => Ok.some trivial
theorem Of_ok (s : Seed) {l : List Int} (h0 : l ≠ []) (hl : l.length ≤ 1000) : Ok (fun _ => True) (Of s l) := by
 rw [Of_eq]
 have hp : 0 < l.length := List.length_pos_iff.2 h0
 refine Ok.ite (fun h => ?_) fun h => Ok.bind (Below_ok s (n := (l.length : Int)) (by omega)) fun r hr => Ok.chk ?_ (Ok.some trivial)
 ·simp at h; exact absurd h h0
 ·simp; omega
theorem TruckOf_ok (s : Seed) (length : Int) {holds : Int} (h3 : 0 ≤ holds) (h4 : holds ≤ 100) : Ok (fun _ => True) (TruckOf s length holds) := by
 rw [TruckOf_eq]
 refine Ok.bind (From_ok s _ _) fun r hr => Ok.bind (Below_ok _ (by omega)) fun r2 hr2 => Ok.bind (Below_ok _ (by omega)) fun r3 hr3 => Ok.bind (Of_ok _ (by simp) (by simp)) fun r4 hr4 => Ok.bind (From_ok _ _ _) fun r5 hr5 => Ok.bind (Below_ok _ (by omega)) fun r6 hr6 => Ok.bind (Of_ok _ (by simp) (by simp)) fun r7 hr7 => Ok.bind (Below_ok _ (w64_bnd _).2) fun r8 hr8 => ?_
 rw [w64_id (n := holds + 1) (by omega) (by omega)] at hr8
 refine Ok.rounds (fun v => 0 ≤ v.1.2.2.2.2.1 ∧ v.1.2.2.2.2.1 ≤ 101 ∧ (v.2.2.1.2.2.2.2.1.length : Int) + v.1.2.2.2.2.1 ≤ 101) (fun v => v.1.2.2.2.2.1.toNat) (by show r8.2.toNat < 18446744073709551616; omega) ⟨by show 0 ≤ r8.2; omega, by show r8.2 ≤ 101; omega, by show ((0 : Nat) : Int) + r8.2 ≤ 101; omega⟩ ?_
 rintro ⟨⟨_, _, _, at_, i, _⟩, ⟨w, _⟩, ⟨way, st, lo, hi, hs, _⟩, _⟩ kn ⟨i1, i2, i3⟩ hk
 simp only at i1 i2 i3 ⊢
 refine Ok.ite (fun hc => Ok.ite (fun hc2 => ?_) fun _ => Ok.some trivial) fun _ => Ok.some trivial
 have hc := of_decide_eq_true hc
 have hi1 : w64 (i - 1) = i - 1 := w64_id (by omega) (by omega)
 have fin : ∀ (a A u : Int) (w : Int), Ok (fun _ => True) (kn (((), (), (), a, w64 (i - 1), ()), ((w, ()), (way, st, lo, hi, hs ++ [⟨A, u⟩], ()), ()))) := fun a A u w => by
  refine hk _ ⟨by show 0 ≤ w64 (i - 1); omega, by show w64 (i - 1) ≤ _; omega, ?_⟩ (by show (w64 (i - 1)).toNat < i.toNat; omega)
  show (((hs ++ [(⟨A, u⟩ : Hold)]).length : Nat) : Int) + w64 (i - 1) ≤ 101
  rw [List.length_append, hi1]
  show ((hs.length + 1 : Nat) : Int) + (i - 1) ≤ 101
  omega
 refine Ok.bind (From_ok _ _ _) fun r9 hr9 => Ok.bind (Below_ok _ (by omega)) fun r10 hr10 => ?_
 exact Ok.ite (fun _ => Ok.chk (fitA_ok (by simp; omega) (by omega)) (fin _ _ _ _)) fun _ => Ok.chk (fitA_ok (by simp; omega) (by omega)) (fin _ _ _ _)
theorem wide_ok (s : Seed) {c : Convoy} (n : c.Trucks.length ≤ 1000) : Ok (fun _ => True) (wide s c) := by
 rw [wide_eq]
 refine Ok.rounds (fun v => v.2.1.2.2.2.1 = c.Trucks ∧ 0 ≤ v.1.2.2.2.1 ∧ v.1.2.2.2.1 ≤ c.Trucks.length) (fun v => ((c.Trucks.length : Int) - v.1.2.2.2.1).toNat) (by show ((c.Trucks.length : Int) - 0).toNat < 18446744073709551616; omega) ⟨rfl, Int.le_refl _, by show (0 : Int) ≤ _; omega⟩ ?_
 rintro ⟨⟨_, _, _, i, _⟩, ⟨len, gap, fails, ts, _⟩, _⟩ kn hi' hk
 simp only at hi' ⊢
 obtain ⟨rfl, h1, h2⟩ := hi'
 refine Ok.ite (fun hlt => ?_) fun hge => Ok.bind (Below_ok _ (by omega)) fun r hr => Ok.bind (Of_ok _ (by simp) (by simp)) fun r2 hr2 => Ok.some trivial
 have hlt := of_decide_eq_true hlt
 have e : w64 (i + 1) = i + 1 := w64_id (by omega) (by omega)
 exact Ok.chk (ib h1 hlt) (hk _ ⟨rfl, by show 0 ≤ w64 (i + 1); omega, by show w64 (i + 1) ≤ _; omega⟩ (by show ((c.Trucks.length : Int) - w64 (i + 1)).toNat < ((c.Trucks.length : Int) - i).toNat; omega))
theorem ConvoyOf_ok (s : Seed) {most : Int} (h0 : 0 ≤ most) (h1 : most ≤ 20) : Ok (fun _ => True) (ConvoyOf s most) := by
 rw [ConvoyOf_eq]
 refine Ok.bind (From_ok s _ _) fun r hr => Ok.bind (Below_ok _ (by omega)) fun r2 hr2 => Ok.bind (Below_ok _ (w64_bnd _).2) fun r3 hr3 => ?_
 rw [w64_id (n := most + 1) (by omega) (by omega)] at hr3
 refine Ok.rounds (fun v => 0 ≤ v.1.2.2.2.1 ∧ v.1.2.2.2.1 ≤ 21 ∧ (v.2.2.1.2.2.2.1.length : Int) + v.1.2.2.2.1 ≤ 21) (fun v => v.1.2.2.2.1.toNat) (by show r3.2.toNat < 18446744073709551616; omega) ⟨by show 0 ≤ r3.2; omega, by show r3.2 ≤ 21; omega, by show ((0 : Nat) : Int) + r3.2 ≤ 21; omega⟩ ?_
 rintro ⟨⟨_, _, _, i, _⟩, ⟨w, _⟩, ⟨len, gap, fails, ts, _⟩, _⟩ kn ⟨i1, i2, i3⟩ hk
 simp only at i1 i2 i3 ⊢
 have e : w64 (i - 1) = i - 1 := w64_id (by omega) (by omega)
 refine Ok.ite (fun hlt => ?_) fun _ => Ok.bind (wide_ok _ (c := ⟨len, gap, fails, ts⟩) (by show ts.length ≤ 1000; omega)) fun r5 hr5 => Ok.some trivial
 have hlt := of_decide_eq_true hlt
 refine Ok.bind (TruckOf_ok _ _ (by omega) (by omega)) fun r4 hr4 => Ok.chk (fitA_ok (by simp; omega) (by omega)) (hk _ ⟨by show 0 ≤ w64 (i - 1); omega, by show w64 (i - 1) ≤ _; omega, ?_⟩ (by show (w64 (i - 1)).toNat < i.toNat; omega))
 show (((ts ++ [r4.2]).length : Nat) : Int) + w64 (i - 1) ≤ 21
 rw [List.length_append, e]
 show ((ts.length + 1 : Nat) : Int) + (i - 1) ≤ 21
 omega
end Go.Proofs.Tt05
namespace Go.Proofs.Tt05
open Go Go.Ab
set_option linter.all false
set_option maxRecDepth 100000
theorem in_ok (n lo hi : Int) : in_ n lo hi = some (decide (lo ≤ n) && decide (n ≤ hi)) := by
 rw [in__eq]
 unfold in_'
 cases decide (lo ≤ n) <;> rfl
theorem along_ok (t : Truck) (len m : Int) : along ⟨t, len⟩ m = some (if t.Way = 2 then w64 (len - m) else m) := by
 rw [along_eq]
 unfold along'
 by_cases h : t.Way = 2
 ·rw [if_pos h, show (t.Way == 2) = true by simp [h]]; rfl
 ·rw [if_neg h, show (t.Way == 2) = false by simp [h]]; rfl
structure TV (len : Int) (t : Truck) : Prop where
 num : NumT t
 s : t.Start ≤ 10000
 l1 : 1 ≤ t.Pace.Lo
 l2 : t.Pace.Lo ≤ 1000
 h1 : 1 ≤ t.Pace.Hi
 h2 : t.Pace.Hi ≤ 1000
 n : t.Holds.length ≤ 8
 hs : ∀ x ∈ t.Holds, 1 ≤ x.At ∧ x.At ≤ len - 1 ∧ x.Until ≤ 10000
theorem in_good {a n b : Int} (q : (!(decide (a ≤ n) && decide (n ≤ b))) = false) : a ≤ n ∧ n ≤ b := by
 simpa using q
theorem truck_tv {c : Convoy} {t : Truck} (h1 : 1 ≤ c.Length) (h2 : c.Length ≤ 100000) : Ok (fun e => e = 0 → TV c.Length t) (checkTruck c t) := by
 rw [checkTruck_eq]
 unfold checkTruck'
 have no : ∀ {n : Int}, n ≠ 0 → (n = 0 → TV c.Length t) := fun h e => absurd e h
 refine Ok.beq (in_ok _ _ _) (Ok.ite (fun q => Ok.some (no (by decide))) fun q1 => ?_)
 refine Ok.beq (in_ok _ _ _) (Ok.ite (fun q => Ok.some (no (by decide))) fun q2 => ?_)
 refine Ok.beq (in_ok _ _ _) (Ok.ite (fun q => Ok.some (no (by decide))) fun q3 => ?_)
 refine Ok.beq (in_ok _ _ _) (Ok.ite (fun q => Ok.some (no (by decide))) fun q4 => ?_)
 refine Ok.ite (fun q => Ok.some (no (by decide))) fun _ => ?_
 refine Ok.ite (fun q => Ok.some (no (by decide))) fun _ => ?_
 refine Ok.ite (fun q => Ok.some (no (by decide))) fun _ => ?_
 refine Ok.ite (fun q => Ok.some (no (by decide))) fun q8 => ?_
 have q1 := in_good q1; have q2 := in_good q2; have q3 := in_good q3; have q4 := in_good q4
 have hl : t.Holds.length ≤ 8 := by have := of_decide_eq_false q8; omega
 refine Ok.rounds (inv := fun v => ∃ j : Nat, j ≤ t.Holds.length ∧ v.1.2.2.2.1 = (j : Int) ∧ ∀ x ∈ t.Holds.take j, 1 ≤ x.At ∧ x.At ≤ c.Length - 1 ∧ 0 ≤ x.Until ∧ x.Until ≤ 10000) (μ := fun v => t.Holds.length - v.1.2.2.2.1.toNat) (by show t.Holds.length - 0 < FUEL; unfold FUEL; omega) ⟨0, Nat.zero_le _, rfl, fun x hx => by cases hx⟩ ?_
 rintro ⟨⟨u1, u2, u3, x, u4⟩, u5⟩ kn ⟨j, hj, e1, e2⟩ hk
 simp only at e1 ⊢
 subst e1
 unfold checkTruck_L15
 rw [show ((j : Int)).toNat = j by omega]
 refine Ok.ite (fun hlt => ?_) (fun hge => Ok.some fun _ => ?_)
 ·have hlt : j < t.Holds.length := by have := of_decide_eq_true hlt; omega
  refine Ok.chk (idx_ok hlt) ?_
  refine Ok.beq (in_ok _ _ _) (Ok.ite (fun q => Ok.some (no (by decide))) fun p1 => ?_)
  refine Ok.beq (in_ok _ _ _) (Ok.ite (fun q => Ok.some (no (by decide))) fun p2 => ?_)
  have p1 := in_good p1; have p2 := in_good p2
  rw [w64_id (by omega) (by omega)] at p1
  have e : w64 ((j : Int) + 1) = ((j + 1 : Nat) : Int) := by rw [w64_id (by omega) (by omega)]; push_cast; rfl
  have go : Ok (fun e => e = 0 → TV c.Length t) (kn ((u1, u2, u3, w64 ((j : Int) + 1), u4), u5)) := by
   refine hk _ ⟨j + 1, hlt, e, fun x hx => ?_⟩ ?_
   ·rw [take_snoc (d := dfltHold) hlt] at hx
    rcases List.mem_append.1 hx with hx | hx
    ·exact e2 x hx
    ·rw [List.mem_singleton.1 hx]; exact ⟨p1.1, p1.2, p2.1, p2.2⟩
   ·show t.Holds.length - (w64 ((j : Int) + 1)).toNat < t.Holds.length - ((j : Int)).toNat
    rw [e]; omega
  refine Ok.ite (fun q => ?_) (fun _ => go)
  have h0 : 0 < j := by have := of_decide_eq_true q; omega
  have e3 : w64 ((j : Int) - 1) = ((j - 1 : Nat) : Int) := by rw [w64_id (by omega) (by omega)]; omega
  refine Ok.beq (along_ok _ _ _) ?_
  rw [e3]
  refine Ok.chk (idx_ok (by omega)) ?_
  refine Ok.beq (along_ok _ _ _) ?_
  exact Ok.ite (fun q => Ok.some (no (by decide))) (fun _ => go)
 ·have hjn : j = t.Holds.length := by have := of_decide_eq_false hge; omega
  rw [hjn, List.take_length] at e2
  refine ⟨⟨by omega, ⟨by omega, by omega⟩, ⟨by omega, by omega⟩, ⟨by omega, by omega⟩, fun x hx => ?_⟩, q2.2, q3.1, q3.2, q4.1, q4.2, hl, fun x hx => ?_⟩
  ·have := e2 x hx
   exact ⟨⟨by omega, by omega⟩, ⟨by omega, by omega⟩⟩
  ·have := e2 x hx
   exact ⟨this.1, this.2.1, this.2.2.2⟩
structure CV (c : Convoy) : Prop where
 l1 : 1 ≤ c.Length
 l2 : c.Length ≤ 100000
 g1 : 1 ≤ c.Gap
 g2 : c.Gap ≤ 100000
 f1 : 0 ≤ c.Fails
 f2 : c.Fails ≤ 20
 n : c.Trucks.length ≤ 20
 t : ∀ t ∈ c.Trucks, TV c.Length t
theorem check_cv (c : Convoy) : Ok (fun e => e = 0 → CV c) (pCheck c) := by
 rw [pCheck_eq]
 unfold pCheck'
 have no : ∀ {n : Int}, n ≠ 0 → (n = 0 → CV c) := fun h e => absurd e h
 refine Ok.beq (in_ok _ _ _) (Ok.ite (fun q => Ok.some (no (by decide))) fun q1 => ?_)
 refine Ok.beq (in_ok _ _ _) (Ok.ite (fun q => Ok.some (no (by decide))) fun q2 => ?_)
 refine Ok.beq (in_ok _ _ _) (Ok.ite (fun q => Ok.some (no (by decide))) fun q3 => ?_)
 refine Ok.ite (fun q => Ok.some (no (by decide))) fun q4 => ?_
 have q1 := in_good q1; have q2 := in_good q2; have q3 := in_good q3
 have hl : c.Trucks.length ≤ 20 := by have := of_decide_eq_false q4; omega
 refine Ok.rounds (inv := fun v => ∃ j : Nat, j ≤ c.Trucks.length ∧ v.1.2.1 = (j : Int) ∧ ∀ t ∈ c.Trucks.take j, TV c.Length t) (μ := fun v => c.Trucks.length - v.1.2.1.toNat) (by show c.Trucks.length - 0 < FUEL; unfold FUEL; omega) ⟨0, Nat.zero_le _, rfl, fun x hx => by cases hx⟩ ?_
 rintro ⟨⟨u1, x, u4⟩, u5⟩ kn ⟨j, hj, e1, e2⟩ hk
 simp only at e1 ⊢
 subst e1
 unfold pCheck_L6
 rw [show ((j : Int)).toNat = j by omega]
 refine Ok.ite (fun hlt => ?_) (fun hge => Ok.some fun _ => ?_)
 ·have hlt : j < c.Trucks.length := by have := of_decide_eq_true hlt; omega
  refine Ok.chk (idx_ok hlt) ?_
  refine Ok.bind (truck_tv q1.1 q1.2) fun r hr => ?_
  refine Ok.ite (fun q => Ok.some (no (by simpa using q))) (fun q => ?_)
  have hr0 : r = 0 := by simpa using q
  have e : w64 ((j : Int) + 1) = ((j + 1 : Nat) : Int) := by rw [w64_id (by omega) (by omega)]; push_cast; rfl
  refine hk _ ⟨j + 1, hlt, e, fun t ht => ?_⟩ ?_
  ·rw [take_snoc (d := dfltTruck) hlt] at ht
   rcases List.mem_append.1 ht with ht | ht
   ·exact e2 t ht
   ·rw [List.mem_singleton.1 ht]; exact hr hr0
  ·show c.Trucks.length - (w64 ((j : Int) + 1)).toNat < c.Trucks.length - ((j : Int)).toNat
   rw [e]; omega
 ·have hjn : j = c.Trucks.length := by have := of_decide_eq_false hge; omega
  rw [hjn, List.take_length] at e2
  exact ⟨q1.1, q1.2, q2.1, q2.2, q3.1, q3.2, hl, e2⟩
theorem check_total (c : Convoy) : ∃ e, pCheck c = some e ∧ (e = 0 → CV c) := by
 obtain ⟨e, h1, h2⟩ := check_cv c
 exact ⟨e, h1, h2⟩
theorem cv_num {c : Convoy} (h : CV c) : NumC c := by
 have := h.l1; have := h.l2; have := h.g1; have := h.g2; have := h.f1; have := h.f2
 exact ⟨⟨by omega, by omega⟩, ⟨by omega, by omega⟩, ⟨by omega, by omega⟩, fun t ht => (h.t t ht).num⟩
theorem flat_len {α : Type} {f : α → List UInt8} {K : Nat} : ∀ l : List α, (∀ x ∈ l, (f x).length ≤ K) → (l.flatMap f).length ≤ K * l.length
 | [], _ => Nat.zero_le _
 | x :: l, h => by
  have h1 := h x (List.mem_cons_self ..)
  have h2 := flat_len l fun y hy => h y (List.mem_cons_of_mem _ hy)
  rw [List.flatMap_cons, List.length_append, List.length_cons, Nat.mul_succ]
  omega
theorem rowL_len {w : List UInt8} {ns : List Int} (h : ∀ n ∈ ns, NumOk n) : (rowL w ns).length ≤ w.length + 10 * ns.length + 1 := by
 have := rowB_len (w := w) h
 show (rowB w ns ++ [10]).length ≤ _
 rw [List.length_append]
 exact Nat.succ_le_succ this
theorem cv_len {c : Convoy} (h : CV c) : (textL c).length ≤ 6000 := by
 have hn := cv_num h
 have h1 : (roadL c).length ≤ 40 := by
  have := rowL_len (w := wRoad) (three_ok hn.l hn.g hn.f)
  have e4 : wRoad.length = 4 := rfl
  simp only [List.length_cons, List.length_nil] at this
  show (rowL wRoad _).length ≤ _
  omega
 have h2 : ∀ t ∈ c.Trucks, (truckL t).length ≤ 290 := fun t ht => by
  have ht2 := hn.t t ht
  have h3 : (headL t).length ≤ 45 := by
   have := rowL_len (w := wTruck ++ 32 :: wayL t.Way) (three_ok ht2.s ht2.l ht2.h)
   have e4 := way_len t.Way
   have e5 : wTruck.length = 5 := rfl
   simp only [List.length_cons, List.length_nil, List.length_append] at this
   show (rowL _ _).length ≤ _
   omega
  have h4 : (t.Holds.flatMap holdL).length ≤ 30 * t.Holds.length := flat_len _ fun x hx => by
   have := rowL_len (w := wHold) (two_ok (ht2.hs x hx).1 (ht2.hs x hx).2)
   have e4 : wHold.length = 4 := rfl
   simp only [List.length_cons, List.length_nil] at this
   show (rowL wHold _).length ≤ _
   omega
  have h5 := (h.t t ht).n
  unfold truckL
  rw [List.length_append]; omega
 have h3 := flat_len _ h2
 have h4 := h.n
 unfold textL
 rw [List.length_append]; omega
theorem Same_self {c : Convoy} (hl : c.Trucks.length ≤ 1000000) (hh : ∀ t ∈ c.Trucks, t.Holds.length ≤ 1000000) : Same c c = some true := by
 refine ok_eq ?_
 rw [Same_eq]
 unfold Same'
 refine Ok.ite (fun q => by simp at q) fun _ => Ok.ite (fun q => by simp at q) fun _ => Ok.ite (fun q => by simp at q) fun _ => Ok.ite (fun q => by simp at q) fun _ => ?_
 refine Ok.rounds (inv := fun v => ∃ j : Nat, j ≤ c.Trucks.length ∧ v.1.2.2.1 = (j : Int)) (μ := fun v => c.Trucks.length - v.1.2.2.1.toNat) (by show c.Trucks.length - 0 < FUEL; unfold FUEL; omega) ⟨0, Nat.zero_le _, rfl⟩ ?_
 rintro ⟨⟨u1, u2, x, u4⟩, u5⟩ kn ⟨j, hj, e1⟩ hk
 simp only at e1 ⊢
 subst e1
 unfold Same_L4
 rw [show ((j : Int)).toNat = j by omega]
 refine Ok.ite (fun hlt => ?_) (fun _ => Ok.some rfl)
 have hlt : j < c.Trucks.length := by have := of_decide_eq_true hlt; omega
 have hmem := getD_mem' (d := dfltTruck) hlt
 have hb := hh _ hmem
 refine Ok.chk (idx_ok hlt) (Ok.chk (idx_ok hlt) ?_)
 refine Ok.ite (fun q => by simp at q) fun _ => Ok.ite (fun q => by simp at q) fun _ => Ok.ite (fun q => by simp at q) fun _ => Ok.ite (fun q => by simp at q) fun _ => ?_
 have e : w64 ((j : Int) + 1) = ((j + 1 : Nat) : Int) := by rw [w64_id (by omega) (by omega)]; push_cast; rfl
 have go : Ok (fun r => r = true) (kn ((u1, u2, w64 ((j : Int) + 1), u4), u5)) := by
  refine hk _ ⟨j + 1, hlt, e⟩ ?_
  show c.Trucks.length - (w64 ((j : Int) + 1)).toNat < c.Trucks.length - ((j : Int)).toNat
  rw [e]; omega
 refine Ok.rounds (inv := fun v => ∃ i : Nat, i ≤ (c.Trucks.getD j dfltTruck).Holds.length ∧ v.1.2.2.2.2.1 = (i : Int)) (μ := fun v => (c.Trucks.getD j dfltTruck).Holds.length - v.1.2.2.2.2.1.toNat) (by show (c.Trucks.getD j dfltTruck).Holds.length - 0 < FUEL; unfold FUEL; omega) ⟨0, Nat.zero_le _, rfl⟩ ?_
 rintro ⟨⟨w1, w2, w3, w4, y, w5⟩, w6⟩ kn2 ⟨i, hi, e1⟩ hk2
 simp only at e1 ⊢
 subst e1
 unfold Same_L10
 rw [show ((j : Int)).toNat = j by omega, show ((i : Int)).toNat = i by omega]
 refine Ok.ite (fun hlt2 => ?_) (fun _ => go)
 have hlt2 : i < (c.Trucks.getD j dfltTruck).Holds.length := by have := of_decide_eq_true hlt2; omega
 refine Ok.chk (idx_ok hlt2) (Ok.chk (idx_ok hlt2) (Ok.ite (fun q => by simp at q) fun _ => ?_))
 have e2 : w64 ((i : Int) + 1) = ((i + 1 : Nat) : Int) := by rw [w64_id (by omega) (by omega)]; push_cast; rfl
 refine hk2 _ ⟨i + 1, hlt2, e2⟩ ?_
 show (c.Trucks.getD j dfltTruck).Holds.length - (w64 ((i : Int) + 1)).toNat < (c.Trucks.getD j dfltTruck).Holds.length - ((i : Int)).toNat
 rw [e2]; omega
end Go.Proofs.Tt05
namespace Go.Proofs.Tt05
open Go Go.Ab
set_option linter.all false
set_option maxRecDepth 100000
theorem consH_len (b : UInt8) {l : List (List UInt8)} (h : l ≠ []) : (consH b l).length = l.length := by
 cases l with
 | nil => exact absurd rfl h
 | cons _ _ => rfl
theorem split_len (c : UInt8) : ∀ l : List UInt8, (splitL c l).length ≤ l.length + 1
 | [] => Nat.le_refl _
 | b :: l => by
  have ih := split_len c l
  unfold splitL
  split
  ·show (splitL c l).length + 1 ≤ l.length + 1 + 1; omega
  ·rw [consH_len _ (splitL_ne c l)]; exact Nat.le_succ_of_le ih
theorem split_mem (c : UInt8) : ∀ (l : List UInt8) (w : List UInt8), w ∈ splitL c l → w.length ≤ l.length
 | [], w, h => by
  rw [show splitL c [] = [[]] from rfl] at h
  rw [List.mem_singleton.1 h]; exact Nat.le_refl _
 | b :: l, w, h => by
  have ih := split_mem c l
  unfold splitL at h
  split at h
  ·rcases List.mem_cons.1 h with rfl | h
   ·exact Nat.zero_le _
   ·exact Nat.le_succ_of_le (ih w h)
  ·generalize hp : splitL c l = p at ih h
   cases p with
   | nil => exact absurd hp (splitL_ne c l)
   | cons y r =>
    rcases List.mem_cons.1 h with rfl | h
    ·exact Nat.succ_le_succ (ih y (List.mem_cons_self ..))
    ·exact Nat.le_succ_of_le (ih w (List.mem_cons_of_mem _ h))
theorem bl_len (s : ByteArray) : (bl s).length = s.size := by show s.data.toList.length = s.data.size; simp
structure Pieces (s : ByteArray) (c : UInt8) (ws : List ByteArray) : Prop where
 ne : ws ≠ []
 len : ws.length ≤ s.size + 1
 mem : ∀ w ∈ ws, w.size ≤ s.size
 join : joinL c (ws.map bl) = bl s
theorem pieces (s : ByteArray) (c : UInt8) : Pieces s c (Tx.splitV s ⟨#[c]⟩) := by
 rw [splitV_eq]
 refine ⟨?_, ?_, fun w hw => ?_, ?_⟩
 ·have := splitL_ne c (bl s)
  intro h
  exact this (List.map_eq_nil_iff.1 h)
 ·rw [List.length_map, ← bl_len]; exact split_len c _
 ·obtain ⟨x, hx, rfl⟩ := List.mem_map.1 hw
  rw [mk_size, ← bl_len]
  exact split_mem c _ _ hx
 ·rw [List.map_map]
  rw [show (bl ∘ mk) = id from rfl, List.map_id]
  exact join_split c _
theorem subL_one {α : Type} (w : α) (r : List α) : subL (w :: r) 1 (((w :: r).length : Nat) : Int) = r := by
 show (List.take ((((w :: r).length : Nat) : Int)).toNat (w :: r)).drop 1 = r
 rw [Int.toNat_natCast, List.take_length]; rfl
theorem subL_two {α : Type} (w v : α) (r : List α) : subL (w :: v :: r) 2 (((w :: v :: r).length : Nat) : Int) = r := by
 show (List.take ((((w :: v :: r).length : Nat) : Int)).toNat (w :: v :: r)).drop 2 = r
 rw [Int.toNat_natCast, List.take_length]; rfl
theorem num_cases {r : List ByteArray} {m : Int} (hl : r.length ≤ 1000000) (hs : ∀ w ∈ r, w.size ≤ 1000000) : (∃ ns, numbers r m = some (ns, true) ∧ (ns.length : Int) = m) ∨ ∃ ns, numbers r m = some (ns, false) := by
 obtain ⟨⟨ns, b⟩, h1, h2⟩ := numbers_ok (m := m) hl hs
 rcases h2 with ⟨a, _, h3, _⟩ | ⟨a, _⟩
 ·cases a; exact .inl ⟨ns, h1, h3⟩
 ·cases a; exact .inr ⟨_, h1⟩
theorem len3 {ns : List Int} (h : (ns.length : Int) = 3) : ∃ a b c, ns = [a, b, c] := by
 match ns, h with
 | [a, b, c], _ => exact ⟨a, b, c, rfl⟩
 | [], h => cases h
 | [_], h => cases h
 | [_, _], h => cases h
 | _ :: _ :: _ :: _ :: _, h => simp only [List.length_cons] at h; omega
theorem len2 {ns : List Int} (h : (ns.length : Int) = 2) : ∃ a b, ns = [a, b] := by
 match ns, h with
 | [a, b], _ => exact ⟨a, b, rfl⟩
 | [], h => cases h
 | [_], h => cases h
 | _ :: _ :: _ :: _, h => simp only [List.length_cons] at h; omega
theorem gt_one (n : Nat) (h : 1 < n) : (decide (0 ≤ (1 : Int)) && decide ((1 : Int) < (n : Int))) = true := idx_ok (k := 1) h
theorem take_no {row : ByteArray} {k : Nat} {c : Convoy} (hs : row.size ≤ 1000000) (hlen : (Tx.splitV row bSp).length ≤ 1000000) (h : goodRow k c (Tx.splitV row bSp) = none) : Ok (fun r => r.2 = false) (takeR c k row) := by
 have P := pieces row 32
 rw [takeR_eq]
 unfold takeR'
 refine Ok.bind (P := fun r => r = Tx.splitV row bSp) ⟨_, by unfold Tx.splitP; rw [show Tx.okS row (⟨#[32]⟩ : ByteArray) = true from okS_of hs]; rfl, rfl⟩ fun ws hws => ?_
 rw [← hws] at h hlen
 have P : Pieces row 32 ws := by rw [hws]; exact P
 clear hws
 obtain ⟨w0, r, rfl⟩ := List.exists_cons_of_ne_nil P.ne
 have hm : ∀ w ∈ r, w.size ≤ 1000000 := fun w hw => Nat.le_trans (P.mem w (List.mem_cons_of_mem _ hw)) hs
 have hl : r.length ≤ 1000000 := by rw [List.length_cons] at hlen; omega
 have c0 : (decide ((0 : Int) ≤ 0) && decide ((0 : Int) < (((w0 :: r).length : Nat) : Int))) = true := idx_ok (k := 0) (by simp)
 refine Ok.chk c0 ?_
 refine Ok.ite (fun _ => Ok.some rfl) fun q => ?_
 have q : (((k : Int) == 0) == eqB w0 bRoad) = true := by
  cases hb : (((k : Int) == 0) == eqB w0 bRoad) with
  | true => rfl
  | false => exact absurd (show (!(((k : Int) == 0) == eqB w0 bRoad)) = false from q) (by rw [hb]; decide)
 have sl1 : (decide ((0 : Int) ≤ 1) && decide ((1 : Int) ≤ (((w0 :: r).length : Nat) : Int)) && decide ((((w0 :: r).length : Nat) : Int) ≤ (((w0 :: r).length : Nat) : Int))) = true := by simp; omega
 unfold goodRow at h
 simp only at h
 by_cases hk : k = 0
 ·subst hk
  have q0 : eqB w0 bRoad = true := by simpa using q
  rw [if_pos rfl, q0] at h
  refine Ok.ite (fun _ => ?_) (fun q => absurd q (by decide))
  refine Ok.chk sl1 ?_
  rw [subL_one]
  rcases num_cases (m := 3) hl hm with ⟨ns, h1, h2⟩ | ⟨ns, h1⟩
  ·obtain ⟨x, y, z, rfl⟩ := len3 h2
   rw [h1] at h; cases h
  ·rw [h1]; exact Ok.some rfl
 ·have hk2 : ((k : Int) == 0) = false := by simp; omega
  have q0 : eqB w0 bRoad = false := by rw [hk2] at q; simpa using q
  rw [if_neg hk, q0] at h
  simp only [cond_false] at h
  have hold : eqB w0 bTruck = false → Ok (fun r : Convoy × Bool => r.2 = false) (
   chk (decide ((0 : Int) ≤ 0) && decide (0 < (((w0 :: r).length : Nat) : Int))) <|
   bif (((w0 :: r).getD 0 ⟨#[]⟩).toList == (⟨#[104, 111, 108, 100]⟩ : ByteArray).toList) then
    bif (decide ((c.Trucks.length : Int) > 0)) then
     chk (decide ((0 : Int) ≤ 1) && decide (1 ≤ (((w0 :: r).length : Nat) : Int)) && decide ((((w0 :: r).length : Nat) : Int) ≤ (((w0 :: r).length : Nat) : Int))) <|
     (numbers (subL (w0 :: r) 1 (((w0 :: r).length : Nat) : Int)) 2).bind fun r7 =>
     bif r7.2 then
      chk (decide (0 ≤ (w64 ((c.Trucks.length : Int) - 1))) && decide ((w64 ((c.Trucks.length : Int) - 1)) < (c.Trucks.length : Int))) <|
      chk (decide ((0 : Int) ≤ 0) && decide (0 < (r7.1.length : Int))) <|
      chk (decide ((0 : Int) ≤ 1) && decide (1 < (r7.1.length : Int))) <|
      none
     else
      some (c, r7.2)
    else
     some (c, false)
   else
    some (c, false)) := fun ht => by
   rw [ht] at h
   simp only [cond_false] at h
   refine Ok.chk c0 (Ok.ite (fun q2 => ?_) fun _ => Ok.some rfl)
   have q2 : eqB w0 bHold = true := q2
   rw [q2] at h
   simp only [cond_true] at h
   refine Ok.ite (fun q3 => ?_) fun _ => Ok.some rfl
   have hne : c.Trucks ≠ [] := fun e => by rw [e] at q3; exact absurd q3 (by decide)
   refine Ok.chk sl1 ?_
   rw [subL_one]
   rcases num_cases (m := 2) hl hm with ⟨ns, h1, h2⟩ | ⟨ns, h1⟩
   ·obtain ⟨x, y, rfl⟩ := len2 h2
    rw [h1, last_at hne] at h; cases h
   ·rw [h1]; exact Ok.some rfl
  refine Ok.ite (fun q => absurd q (by rw [hk2]; decide)) fun _ => ?_
  refine Ok.chk c0 ?_
  refine Ok.ite (fun q1 => ?_) (fun q1 => hold q1)
  have q1 : eqB w0 bTruck = true := q1
  have noh : eqB w0 bHold = false := by
   rw [eqB_iff.1 q1]
   exact eqB_mk wTruck wHold
  rw [q1] at h
  simp only [cond_true] at h
  have no : ∀ {x y : Option (Convoy × Bool)}, Ok (fun r => r.2 = false) y → Ok (fun r => r.2 = false) (chk (decide ((0 : Int) ≤ 0) && decide (0 < (((w0 :: r).length : Nat) : Int))) (bif (((w0 :: r).getD 0 ⟨#[]⟩).toList == (⟨#[104, 111, 108, 100]⟩ : ByteArray).toList) then x else y)) := fun hy => Ok.chk c0 (Ok.ite (fun q => by
   have q : eqB w0 bHold = true := q
   rw [noh] at q; cases q) fun _ => hy)
  refine Ok.ite (fun q2 => ?_) (fun _ => no (Ok.some rfl))
  have hl1 : 1 < (w0 :: r).length := by have := of_decide_eq_true q2; omega
  obtain ⟨w1, r', rfl⟩ := List.exists_cons_of_ne_nil (l := r) (fun e => by subst e; simp at hl1)
  simp only at h
  have hm2 : ∀ w ∈ r', w.size ≤ 1000000 := fun w hw => hm w (List.mem_cons_of_mem _ hw)
  have hl2 : r'.length ≤ 1000000 := by rw [List.length_cons] at hl; omega
  have sl2 : (decide ((0 : Int) ≤ 2) && decide ((2 : Int) ≤ (((w0 :: w1 :: r').length : Nat) : Int)) && decide ((((w0 :: w1 :: r').length : Nat) : Int) ≤ (((w0 :: w1 :: r').length : Nat) : Int))) = true := by simp; omega
  refine Ok.chk (gt_one _ hl1) ?_
  refine Ok.ite (fun q3 => ?_) (fun q3 => ?_)
  ·have q3 : eqB w1 bUp = true := q3
   have q4 : eqB w1 bDown = false := by rw [eqB_iff.1 q3]; exact eqB_mk wUp wDown
   rw [q3, q4] at h
   refine Ok.chk sl2 ?_
   rw [subL_two]
   rcases num_cases (m := 3) hl2 hm2 with ⟨ns, h1, h2⟩ | ⟨ns, h1⟩
   ·obtain ⟨x, y, z, rfl⟩ := len3 h2
    rw [h1] at h; cases h
   ·rw [h1]; exact Ok.some rfl
  ·have q3 : eqB w1 bUp = false := q3
   refine Ok.chk (gt_one _ hl1) ?_
   refine Ok.ite (fun q4 => ?_) (fun _ => no (Ok.some rfl))
   have q4 : eqB w1 bDown = true := q4
   rw [q3, q4] at h
   refine Ok.chk sl2 ?_
   rw [subL_two]
   rcases num_cases (m := 3) hl2 hm2 with ⟨ns, h1, h2⟩ | ⟨ns, h1⟩
   ·obtain ⟨x, y, z, rfl⟩ := len3 h2
    rw [h1] at h; cases h
   ·rw [h1]; exact Ok.some rfl
theorem map_bl_word (ns : List Int) : (ns.map word).map bl = ns.map digs := List.map_map ..
theorem all3 {a b c : Int} (h : ∀ n ∈ [a, b, c], NumOk n) : NumOk a ∧ NumOk b ∧ NumOk c := ⟨h a (by simp), h b (by simp), h c (by simp)⟩
theorem good_line {row : ByteArray} {k : Nat} {c c' : Convoy} (hs : row.size ≤ 1000000 - 1) (h : Good row k c c') : (k = 0 ∧ NumC c' ∧ lines c' = [bl row]) ∨ (k ≠ 0 ∧ (NumC c → NumC c' ∧ lines c' = lines c ++ [bl row])) := by
 have key : ∀ {ws : List ByteArray}, Words row ws → Pieces row 32 ws := fun W => W.eq ▸ pieces row 32
 cases h with
 | road w0 r a b g hk W h0 hn =>
  have P := key W
  obtain ⟨e1, e2, e3⟩ := numbers_true (by have := P.len; rw [List.length_cons] at this; omega) (fun w hw => by have := P.mem w (List.mem_cons_of_mem _ hw); omega) hn
  have h4 := all3 e3
  refine .inl ⟨hk, ⟨h4.1, h4.2.1, h4.2.2, fun t ht => by cases ht⟩, ?_⟩
  have hj := P.join
  rw [e1, eqB_iff.1 h0, List.map_cons, map_bl_word] at hj
  rw [← hj]
  show [rowB wRoad [a, b, g]] = [joinL 32 (wRoad :: [a, b, g].map digs)]
  rw [rowB_join]
 | truck w0 w1 r d s l x hk W h0 h1 hu hd hn =>
  have P := key W
  obtain ⟨e1, e2, e3⟩ := numbers_true (by have := P.len; simp only [List.length_cons] at this; omega) (fun w hw => by have := P.mem w (List.mem_cons_of_mem _ (List.mem_cons_of_mem _ hw)); omega) hn
  have h4 := all3 e3
  refine .inr ⟨hk, fun hc => ⟨⟨hc.l, hc.g, hc.f, fun t ht => ?_⟩, ?_⟩⟩
  ·rcases List.mem_append.1 ht with ht | ht
   ·exact hc.t t ht
   ·rw [List.mem_singleton.1 ht]
    exact ⟨by cases d <;> simp, h4.1, h4.2.1, h4.2.2, fun x hx => by cases hx⟩
  ·have hj := P.join
   have hw1 : w1 = mk (wayL (if d then 2 else 1)) := by
    cases d with
    | true => exact eqB_iff.1 hd
    | false => exact eqB_iff.1 hu
   rw [e1, eqB_iff.1 h1, hw1, List.map_cons, List.map_cons, map_bl_word, bl_mk] at hj
   rw [← hj]
   show roadB c :: (c.Trucks ++ [_]).flatMap linesT = (roadB c :: c.Trucks.flatMap linesT) ++ [joinL 32 (wTruck :: wayL (if d then 2 else 1) :: [s, l, x].map digs)]
   rw [List.flatMap_append, List.cons_append]
   congr 2
   rw [List.flatMap_singleton]
   show [headB _] = _
   rw [headB_join]
 | hold w0 r t x y hk W h0 h1 h2 ht hn =>
  have P := key W
  obtain ⟨e1, e2, e3⟩ := numbers_true (by have := P.len; rw [List.length_cons] at this; omega) (fun w hw => by have := P.mem w (List.mem_cons_of_mem _ hw); omega) hn
  have hx : NumOk x := e3 x (by simp)
  have hy : NumOk y := e3 y (by simp)
  have hts : c.Trucks = c.Trucks.dropLast ++ [t] := by
   have hne : c.Trucks ≠ [] := fun e => by rw [e] at ht; cases ht
   have := List.dropLast_concat_getLast hne
   rw [List.getLast?_eq_some_getLast hne] at ht
   injection ht with ht
   rw [← ht]; exact this.symm
  refine .inr ⟨hk, fun hc => ?_⟩
  generalize c.Trucks.dropLast = ts at hts
  have ha : addHold c t x y = ⟨c.Length, c.Gap, c.Fails, ts ++ [⟨t.Way, t.Start, t.Pace, t.Holds ++ [Hold.mk x y]⟩]⟩ := by
   unfold addHold
   rw [hts, List.dropLast_concat]
  rw [ha]
  have htc : NumT t := hc.t t (by rw [hts]; simp)
  refine ⟨⟨hc.l, hc.g, hc.f, fun u hu => ?_⟩, ?_⟩
  ·rcases List.mem_append.1 hu with hu | hu
   ·exact hc.t u (by rw [hts]; exact List.mem_append_left _ hu)
   ·rw [List.mem_singleton.1 hu]
    refine ⟨htc.way, htc.s, htc.l, htc.h, fun z hz => ?_⟩
    rcases List.mem_append.1 hz with hz | hz
    ·exact htc.hs z hz
    ·rw [List.mem_singleton.1 hz]; exact ⟨hx, hy⟩
  ·have hj := P.join
   rw [e1, eqB_iff.1 h2, List.map_cons, map_bl_word] at hj
   rw [← hj]
   unfold lines
   rw [hts, List.flatMap_append, List.flatMap_append, List.flatMap_singleton, List.flatMap_singleton]
   show roadB c :: (ts.flatMap linesT ++ (headB t :: (t.Holds ++ [Hold.mk x y]).map holdB)) = (roadB c :: (ts.flatMap linesT ++ (headB t :: t.Holds.map holdB))) ++ [joinL 32 (wHold :: [x, y].map digs)]
   rw [List.map_append, List.cons_append, List.append_assoc, List.cons_append]
   congr 4
   show [holdB _] = _
   unfold holdB
   rw [rowB_join]
theorem row_cases {row : ByteArray} (hs : row.size ≤ 1000000 - 1) (rows : List ByteArray) (k : Nat) (c : Convoy) :
  (∃ c', Good row k c c' ∧ readL (row :: rows) k c = readL rows (k + 1) c') ∨ ∃ e, readL (row :: rows) k c = some (.error e) ∧ (e.2.2 = 3 ∧ e.1 = zeroC) := by
 cases hg : goodRow k c (Tx.splitV row bSp) with
 | some c' => exact .inl ⟨c', good_of (okS_of (by omega)) hg, readL_cons (by omega) hg⟩
 | none =>
  refine .inr ⟨(zeroC, (k : Int) + 1, 3), ?_, rfl, rfl⟩
  have P : Pieces row 32 (Tx.splitV row bSp) := pieces row 32
  obtain ⟨r, h1, h2⟩ := take_no (c := c) (k := k) (by omega) (by have := P.len; omega) hg
  show chk (Tx.okS row bSp) _ = _
  rw [okS_of (by omega), hg]
  show (takeR c k row).bind _ = _
  rw [h1]
  show (bif r.2 then _ else _) = _
  rw [h2]; rfl
theorem read_next : ∀ (rows : List ByteArray) (k : Nat) (c : Convoy), NumC c → (∀ row ∈ rows, row.size ≤ 1000000 - 1) → Ok (fun x => (∃ c', x = .ok c' ∧ NumC c' ∧ lines c' = lines c ++ rows.map bl) ∨ ∃ e, x = .error e ∧ (e.2.2 = 3 ∧ e.1 = zeroC)) (readL rows (k + 1) c)
 | [], k, c, hc, _ => Ok.some (.inl ⟨c, rfl, hc, by simp⟩)
 | row :: rows, k, c, hc, hs => by
  have h0 := hs row (List.mem_cons_self ..)
  rcases row_cases h0 rows (k + 1) c with ⟨c', h1, h2⟩ | ⟨e, h1, h2⟩
  ·rw [h2]
   rcases good_line h0 h1 with ⟨h3, _⟩ | ⟨_, h3⟩
   ·cases h3
   ·obtain ⟨h4, h5⟩ := h3 hc
    refine (read_next rows (k + 1) c' h4 fun r hr => hs r (List.mem_cons_of_mem _ hr)).mono fun x hx => ?_
    rcases hx with ⟨c2, a1, a2, a3⟩ | hx
    ·exact .inl ⟨c2, a1, a2, by rw [a3, h5, List.append_assoc]; rfl⟩
    ·exact .inr hx
  ·rw [h1]; exact Ok.some (.inr ⟨e, rfl, h2⟩)
theorem read_first {rows : List ByteArray} (h : rows ≠ []) (hs : ∀ row ∈ rows, row.size ≤ 1000000 - 1) : Ok (fun x => (∃ c', x = .ok c' ∧ NumC c' ∧ lines c' = rows.map bl) ∨ ∃ e, x = .error e ∧ (e.2.2 = 3 ∧ e.1 = zeroC)) (readL rows 0 zeroC) := by
 obtain ⟨row, rows, rfl⟩ := List.exists_cons_of_ne_nil h
 have h0 := hs row (List.mem_cons_self ..)
 rcases row_cases h0 rows 0 zeroC with ⟨c', h1, h2⟩ | ⟨e, h1, h2⟩
 ·rw [h2]
  rcases good_line h0 h1 with ⟨_, h4, h5⟩ | ⟨h3, _⟩
  ·refine (read_next rows 0 c' h4 fun r hr => hs r (List.mem_cons_of_mem _ hr)).mono fun x hx => ?_
   rcases hx with ⟨c2, a1, a2, a3⟩ | hx
   ·exact .inl ⟨c2, a1, a2, by rw [a3, h5]; rfl⟩
   ·exact .inr hx
  ·exact absurd rfl h3
 ·rw [h1]; exact Ok.some (.inr ⟨e, rfl, h2⟩)
theorem text_trucks (c : Convoy) : c.Trucks.length ≤ (textL c).length ∧ ∀ t ∈ c.Trucks, t.Holds.length ≤ (textL c).length := by
 have h1 := rows_len 10 (lines c)
 rw [← text_lines] at h1
 have h2 : (lines c).length = (c.Trucks.flatMap linesT).length + 1 := rfl
 have h3 : ∀ l : List Truck, l.length ≤ (l.flatMap linesT).length ∧ ∀ t ∈ l, t.Holds.length ≤ (l.flatMap linesT).length := fun l => by
  induction l with
  | nil => exact ⟨Nat.le_refl _, fun t h => by cases h⟩
  | cons x l ih =>
   rw [List.flatMap_cons, List.length_append, List.length_cons]
   have e : (linesT x).length = x.Holds.length + 1 := by show (x.Holds.map holdB).length + 1 = _; rw [List.length_map]
   refine ⟨by omega, fun t ht => ?_⟩
   rcases List.mem_cons.1 ht with rfl | ht
   ·omega
   ·have := ih.2 t ht; omega
 have h4 := h3 c.Trucks
 exact ⟨by omega, fun t ht => by have := h4.2 t ht; omega⟩
theorem Read_ok {text : ByteArray} (hs : text.size ≤ 20000) : Ok (fun r => (r.2.2 ≠ 0 ∧ r.1 = zeroC) ∨ (NumC r.1 ∧ pCheck r.1 = some 0 ∧ textL r.1 = bl text)) (Read text) := by
 rw [Read_eq]
 unfold readF
 have P : Pieces text 10 (Tx.splitV text bNl) := pieces text 10
 generalize hr : Tx.splitV text bNl = rows at P
 rw [decide_eq_false (by omega)]
 refine Ok.chk (okS_nl (by omega)) ?_
 obtain ⟨ini, lst, rfl⟩ : ∃ a b, rows = a ++ [b] := ⟨rows.dropLast, rows.getLast P.ne, (List.dropLast_concat_getLast P.ne).symm⟩
 have hlen := P.len
 rw [List.length_append] at hlen
 have e1 : (ini ++ [lst]).length = ini.length + 1 := by rw [List.length_append]; rfl
 rw [List.getLast?_concat, List.dropLast_concat, e1]
 have hl1 : [lst].length = 1 := rfl
 refine Ok.chk (decide_eq_true (by omega)) ?_
 have hsz : ∀ row ∈ ini, row.size ≤ 1000000 - 1 := fun row hm => by have := P.mem row (List.mem_append_left _ hm); omega
 by_cases h0 : ini = []
 ·subst h0
  exact Ok.some (.inl ⟨show (3 : Int) ≠ 0 by decide, rfl⟩)
 ·refine Ok.bind (read_first h0 hsz) fun x hx => ?_
  have hpos := List.length_pos_iff.2 h0
  rcases hx with ⟨c, rfl, h1, h2⟩ | ⟨e, rfl, h1⟩
  ·unfold readT
   simp only
   rw [if_neg (by omega : ¬ ini.length + 1 - 1 = 0)]
   refine Ok.ite (fun q => ?_) fun _ => Ok.some (.inl ⟨show (3 : Int) ≠ 0 by decide, rfl⟩)
   have hlst : bl lst = [] := by rw [eqB_iff.1 q]; rfl
   have hj := P.join
   rw [List.map_append, List.map_singleton, hlst, ← h2, join_rows, ← text_lines] at hj
   have htl : (textL c).length ≤ 20000 := by rw [hj, bl_len]; exact hs
   have ht := text_trucks c
   refine Ok.bind (P := fun e => pCheck c = some e) ?_ fun e he => ?_
   ·obtain ⟨e, h4, _⟩ := check_total c
    exact ⟨e, h4, h4⟩
   ·refine Ok.ite (fun q => Ok.some (.inl ⟨show e ≠ 0 by simpa using q, rfl⟩)) fun q => Ok.some (.inr ⟨h1, ?_, hj⟩)
    rw [he, show e = 0 by simpa using q]
  ·exact Ok.some (.inl ⟨by rw [h1.1]; decide, h1.2⟩)
end Go.Proofs.Tt05
