/- Walks by computing: what each function of the program that the laws reach gives for what it gets, as plain Lean, and that it is so; without a condition but those that stand in each theorem. -/
import Derived.Test.YtmoiedlfimodeaaDoorW1
import Derived.Test.YtmoiedlfimodeaaDoorW2
import Derived.Test.YtmoiedlfimodeaaDoorW3
import Derived.Test.YtmoiedlfimodeaaDoorW4
import Derived.Test.YtmoiedlfimodeaaDoorW5
import Derived.Test.YtmoiedlfimodeaaDoorW6
import Derived.Test.YtmoiedlfimodeaaDoorW7
import Derived.Test.YtmoiedlfimodeaaDoorW8
import Derived.Test.YtmoiedlfimodeaaDoorW9
set_option linter.all false
namespace Go.Proofs.Tp04
open Go Go.Ab
open Go.Proofs.YtmoiedlfimodeaaDoor (iseat)
set_option linter.all false
set_option maxRecDepth 100000
set_option maxHeartbeats 4000000
attribute [local irreducible] W WL QOp NOp thenQ blockQ FinQ FinR WG FQ Want FinW WI WIL thenI blockI
noncomputable abbrev Z0 : Seat := iseat.toSeat
section
variable {X : Ctx} {S : St} {o : Oper} {T T2 : TypeId} {x y : Operand}
theorem q_cmpB {op : BinOp} {k : IntKind} {m n : Int} {b b' : Bool} (ho : o.op = .binOp op T x y T2) (hx : S.ev X x = .int k m) (hy : S.ev X y = .int k n) (hc : cmpI op m n = some b') (hb : b' = b) : QOp X o S (.bool b) := hb ▸ q_cmp ho hx hy hc
theorem q_eqSB {s t : ByteArray} {b : Bool} (ho : o.op = .binOp .eql T x y T2) (hx : S.ev X x = .str s) (hy : S.ev X y = .str t) (hb : (s.toList == t.toList) = b) : QOp X o S (.bool b) := hb ▸ q_eqS ho hx hy
end
def bRoad : ByteArray := ⟨#[114, 111, 97, 100]⟩
def bTruck : ByteArray := ⟨#[116, 114, 117, 99, 107]⟩
def bUp : ByteArray := ⟨#[117, 112]⟩
def bDown : ByteArray := ⟨#[100, 111, 119, 110]⟩
def bHold : ByteArray := ⟨#[104, 111, 108, 100]⟩
def bSp : ByteArray := ⟨#[32]⟩
def eqB (s t : ByteArray) : Bool := s.toList == t.toList
structure Words (row : ByteArray) (ws : List ByteArray) : Prop where
  ok : Tx.okS row bSp = true
  eq : Tx.splitV row bSp = ws
theorem Words.c {row : ByteArray} {ws : List ByteArray} (h : Words row ws) : Contract Z0 49 [.str row, .str bSp] (.sl 1 ws.length (fun i => [.str (ws.getD i ⟨#[]⟩)])) := by
  have := Tx.c49 row bSp h.ok
  rw [h.eq] at this
  exact this
theorem c72 {ws : List ByteArray} {m : Int} {l : List Int} {b : Bool} (h : numbers ws m = some (l, b)) : Contract Z0 72 [.sl 1 ws.length (fun i => [.str (ws.getD i ⟨#[]⟩)]), .int .i64 m] (.tup [.sl 1 l.length (fun i => [.int .i64 (l.getD i 0)]), .bool b]) := by
  have h2 := fn_contract (Z := iseat) (ats := [.sl .str, .int .i64]) (ts := [.sl (.int .i64), .bool]) (E := E72) (fn := Tryd.f72) (c := bodyOf Tryd.f72) Tryd.func72 (by kernel_rfl) (by kernel_rfl) (by kernel_rfl) (by kernel_rfl) rfl (a := (ws, m, ())) (x := (l, b)) ((e72 itN ws m).trans ((numbers_eq ws m).symm.trans h)) zh zh
  exact h2
theorem take_road {row w0 : ByteArray} {r : List ByteArray} {a b c : Int} (hw : Words row (w0 :: r)) (h0 : eqB w0 bRoad = true) (hn : numbers r 3 = some ([a, b, c], true)) :
    ContractR Z0 50 [.int .i64 0, .int .i64 0, .int .i64 0, .nil] [.int .i64 a, .int .i64 b, .int .i64 c, .nil] [.int .i64 0, .str row] (.bool true) := by
  have cw : Contract Z0 49 [.str row, .str bSp] (.sl 1 (r.length + 1) (fun i => [.str ((w0 :: r).getD i ⟨#[]⟩)])) := hw.c
  have cn : Contract Z0 72 [.sl 1 r.length (fun i => [.str (r.getD i ⟨#[]⟩)]), .int .i64 3] (.tup [.sl 1 3 (fun i => [.int .i64 ([a, b, c].getD i 0)]), .bool true]) := c72 hn
  refine contractR_intro (fn := Tryd.f50) Tryd.func50 rfl (by kernel_rfl) rfl ?_ ?_ rfl rfl ?_ (.bool _) ?_
  · exact PureL.cons (.int _ _) (PureL.cons (.int _ _) (PureL.cons (.int _ _) (PureL.cons .nil PureL.nil)))
  · exact PureL.cons (.int _ _) (PureL.cons (.int _ _) (PureL.cons (.int _ _) (PureL.cons .nil PureL.nil)))
  · exact PureL.cons (.int _ _) (PureL.cons (.str _) PureL.nil)
  intro w κ bb
  repeat' (first
    | (apply WL_q; apply Eq.refl; apply Eq.refl; apply q_mvY; apply Eq.refl; apply Eq.refl)
    | (apply WL_q; apply Eq.refl; apply Eq.refl; apply q_eqSB; apply Eq.refl; apply Eq.refl; apply Eq.refl; exact h0)
    | (apply WL_q; apply Eq.refl; apply Eq.refl; refine q_slF (i := 1) (j := r.length + 1) (f' := fun i => [.str (r.getD i ⟨#[]⟩)]) rfl rfl (.inr ⟨_, rfl, rfl⟩) (.inl ⟨rfl, rfl⟩) (by omega) (by omega) rfl rfl rfl rfl rfl (fun k _ => by rw [Nat.add_comm]; rfl))
    | (apply WL_q; apply Eq.refl; apply Eq.refl; (first | (apply q_mvI <;> apply Eq.refl) | (apply q_fab <;> apply Eq.refl) | (apply q_cmp <;> apply Eq.refl) | (apply q_mvB <;> apply Eq.refl) | (apply q_asB <;> apply Eq.refl) | (apply q_ldr <;> apply Eq.refl) | (apply q_ext <;> apply Eq.refl) | (apply q_ia <;> (first | apply Eq.refl | omega)) | (apply q_mvS <;> apply Eq.refl) | (apply q_asS <;> apply Eq.refl) | (apply q_mvX <;> apply Eq.refl) | (apply q_nck <;> apply Eq.refl) | (apply q_bneq <;> apply Eq.refl) | (apply q_mvT <;> apply Eq.refl)))
    | apply W_seq
    | apply W_region
    | apply T_normal
    | apply WL_nil
    | apply T_ret
    | apply B_ret
    | apply W_ret
    | apply W_block
    | (apply W_condT; apply Eq.refl)
    | (apply W_condF; apply Eq.refl)
    | (apply WL_call; apply Eq.refl; apply Eq.refl; rotate_left 1; apply Eq.refl; rotate_right 1; exact (cw); apply Eq.refl)
    | (apply WL_call; apply Eq.refl; apply Eq.refl; rotate_left 1; apply Eq.refl; rotate_right 1; exact (cn); apply Eq.refl)
    | apply W_regionG
    | (apply WG_nil; kernel_rfl)
    | (apply WG_q; (first | (apply want_none; apply Eq.refl) | (apply want_some; apply Eq.refl; apply Eq.refl; apply Eq.refl)); apply Eq.refl; first | (apply fq_bld <;> apply Eq.refl) | (apply fq_blda <;> apply Eq.refl) | (apply fq_fn; apply Eq.refl) | (apply fq_mf; apply Eq.refl) | (apply FQ_intro; intro _; (first | (apply q_mvI <;> apply Eq.refl) | (apply q_fab <;> apply Eq.refl) | (apply q_cmp <;> apply Eq.refl) | (apply q_mvB <;> apply Eq.refl) | (apply q_asB <;> apply Eq.refl) | (apply q_ldr <;> apply Eq.refl) | (apply q_ext <;> apply Eq.refl) | (apply q_ia <;> (first | apply Eq.refl | omega)) | (apply q_mvS <;> apply Eq.refl) | (apply q_asS <;> apply Eq.refl) | (apply q_mvX <;> apply Eq.refl) | (apply q_nck <;> apply Eq.refl) | (apply q_bneq <;> apply Eq.refl) | (apply q_mvT <;> apply Eq.refl))))
    | (apply WG_n; (first | (apply want_none; apply Eq.refl) | (apply want_some; apply Eq.refl; apply Eq.refl; apply Eq.refl)); (first | (apply f_stb <;> (first | apply Eq.refl | (intro _ e; cases e))))))
  refine finR_of ?_ rfl rfl
  ((try apply fin_now); first | (apply fin_B; apply Eq.refl; apply Eq.refl; try apply Eq.refl))
def q3 (i : Nat) : Nat := match i with | 0 => 0 | i + 1 => XB + (i + 1)
theorem q3_inj : ∀ i j, q3 i = q3 j → i = j
  | 0, 0, _ => rfl
  | 0, j + 1, e => by have e : 0 = 900000000 + (j + 1) := e; omega
  | i + 1, 0, e => by have e : 900000000 + (i + 1) = 0 := e; omega
  | i + 1, j + 1, e => by have e : 900000000 + (i + 1) = 900000000 + (j + 1) := e; omega
def bxR (a b c : Int) (p g : Nat) : List D := [.int .i64 a, .int .i64 b, .int .i64 c, .os p g]
def encTs (ts : List Truck) (i : Nat) : List D := encD .Truck (ts.getD i dfltTruck)
def newT (w s l h : Int) : List D := [.int .i64 w, .int .i64 s, .int .i64 l, .int .i64 h, .nil]
def addT (ts : List Truck) (w s l h : Int) (i : Nat) : List D := if i < ts.length then encTs ts i else newT w s l h
theorem addT_last (ts : List Truck) (w s l h : Int) : addT ts w s l h (ts.length + 0) = newT w s l h := if_neg (by omega)
def osT (a b c : Int) (n : Nat) (f : Nat → List D) (i : Nat) : Ab.Own := match i with | 0 => .box (bxR a b c (XB + 1) 1) | _ => .arr 44 5 n f
def mv1 (i : Nat) : Bool := Nat.beq i 1
theorem pure_T (t : Truck) : PureL (encD .Truck t) := encD_pure _ _
theorem pure_new (w s l h : Int) : PureL (newT w s l h) := PureL.cons (.int _ _) (PureL.cons (.int _ _) (PureL.cons (.int _ _) (PureL.cons (.int _ _) (PureL.cons .nil PureL.nil))))
theorem pure_addT (ts : List Truck) (w s l h : Int) (i : Nat) : PureL (addT ts w s l h i) := by
  unfold addT
  split
  · exact pure_T _
  · exact pure_new _ _ _ _
theorem rn_bx {n : Nat} {g g' : Nat → Nat} (a b c : Int) (hn : 1 < n) : RnL n q3 g q3 g' (bxR a b c (XB + 1) (g 1)) (bxR a b c (XB + 1) (g' 1)) :=
  .cons _ _ _ _ (.pure _ (.int _ _)) (.cons _ _ _ _ (.pure _ (.int _ _)) (.cons _ _ _ _ (.pure _ (.int _ _)) (.cons _ _ _ _ (Rn.os (p := q3) (g := g) (p' := q3) (g' := g') 1 hn) .nil)))
theorem finT {S : St} {a b c : Int} {n : Nat} {f : Nat → List D} (g0 : S.γ 0 = 1) (s0 : S.σ 0 = .box (bxR a b c (XB + 1) (S.γ (XB + 1)))) (s1 : S.σ (XB + 1) = .arr 44 5 n f) (hf : ∀ i, i < n → PureL (f i)) :
    ∀ i, i < 2 → (mv1 i = false → S.γ (q3 i) = 1) ∧ ∃ o2, OwCv (S.σ (q3 i)) o2 ∧ OwRn 2 q3 (fun j => S.γ (q3 j)) q3 one o2 (osT a b c n f i) := by
  intro i hi
  match i, hi with
  | 0, _ => exact ⟨fun _ => g0, _, rfl_cv _, by rw [show S.σ (q3 0) = _ from s0]; exact .box _ _ (rn_bx (g := fun j => S.γ (q3 j)) (g' := one) a b c (by decide))⟩
  | 1, _ => exact ⟨fun (e : true = false) => (by cases e), _, rfl_cv _, by rw [show S.σ (q3 1) = _ from s1]; exact .arrP _ _ _ _ hf⟩
theorem take_truck {row w0 w1 : ByteArray} {r : List ByteArray} {a b c s l h p : Int} {ts : List Truck} (d : Bool) (hw : Words row (w0 :: w1 :: r)) (hp : (p == 0) = false) (h0 : eqB w0 bRoad = false) (h1 : eqB w0 bTruck = true) (hu : eqB w1 bUp = !d) (hd : eqB w1 bDown = d) (hn : numbers r 3 = some ([s, l, h], true)) (hl : ts.length ≤ 1000000) :
    ContractN Z0 50 2 q3 (osT a b c ts.length (encTs ts)) (osT a b c (ts.length + 1) (addT ts (if d then 2 else 1) s l h)) mv1 [.bx 0 1 0, .int .i64 p, .str row] (.bool true) := by
  have cw : Contract Z0 49 [.str row, .str bSp] (.sl 1 (r.length + 1 + 1) (fun i => [.str ((w0 :: w1 :: r).getD i ⟨#[]⟩)])) := hw.c
  have cn : Contract Z0 72 [.sl 1 r.length (fun i => [.str (r.getD i ⟨#[]⟩)]), .int .i64 3] (.tup [.sl 1 3 (fun i => [.int .i64 ([s, l, h].getD i 0)]), .bool true]) := c72 hn
  have hlen : decide (((r.length + 1 + 1 : Nat) : Int) > 1) = true := decide_eq_true (by omega)
  refine contractN_intro (fn := Tryd.f50) Tryd.func50 rfl (by kernel_rfl) rfl (fun i j _ _ e => q3_inj i j e) ?_ ?_ (.pure _ (.bool _)) ?_ ?_
  · intro i hi E z m f ho
    match i, hi, ho with
    | 0, _, ho => cases ho
    | 1, _, _ => exact (by decide : 900000000 ≤ 900000001)
  · intro i hi
    match i, hi with
    | 0, _ => exact .box _ _
    | 1, _ => exact .arr _ _ _ _ _ _ _ _
  · intro i j hi hj hji hm
    match i, j, hi, hj, hji, hm with
    | 0, _, _, _, _, hm => cases hm
    | 1, 0, _, _, _, _ => exact ⟨rfl, fun v b h => h⟩
    | 1, 1, _, _, hji, _ => exact absurd rfl hji
  intro w κ bs sv
  obtain ⟨wy, hwy⟩ : ∃ x : Int, x = if d then 2 else 1 := ⟨_, rfl⟩
  rw [← hwy]
  cases d
  all_goals
    repeat' (first
    | (apply WL_q; apply Eq.refl; apply Eq.refl; apply q_mvY; apply Eq.refl; apply Eq.refl)
    | (apply WL_q; apply Eq.refl; apply Eq.refl; apply q_eqSB; apply Eq.refl; apply Eq.refl; apply Eq.refl; (first | exact h0 | exact h1 | exact hu | exact hd))
    | (apply WL_q; apply Eq.refl; apply Eq.refl; apply q_cmpB; apply Eq.refl; apply Eq.refl; apply Eq.refl; apply Eq.refl; (first | exact hp | exact hlen))
    | (apply WG_q; (first | (apply want_none; apply Eq.refl) | (apply want_some; apply Eq.refl; apply Eq.refl; apply Eq.refl)); apply Eq.refl; apply FQ_intro; intro _; apply q_eqSB; apply Eq.refl; apply Eq.refl; apply Eq.refl; (first | exact h1 | exact hu | exact hd))
    | (apply WG_q; (first | (apply want_none; apply Eq.refl) | (apply want_some; apply Eq.refl; apply Eq.refl; apply Eq.refl)); apply Eq.refl; apply FQ_intro; intro _; apply q_cmpB; apply Eq.refl; apply Eq.refl; apply Eq.refl; apply Eq.refl; exact hlen)
    | (apply WL_q; apply Eq.refl; apply Eq.refl; refine q_slF (i := 2) (j := r.length + 2) (f' := fun i => [.str (r.getD i ⟨#[]⟩)]) rfl rfl (.inr ⟨_, rfl, rfl⟩) (.inl ⟨rfl, rfl⟩) (by omega) (by omega) rfl rfl rfl rfl rfl (fun k _ => by rw [Nat.add_comm]; rfl))
    | (apply WG_n; (apply want_none; apply Eq.refl); refine f_app (f' := addT ts wy s l h) rfl rfl rfl rfl rfl rfl rfl rfl rfl rfl rfl rfl rfl rfl rfl ?_ ?_ rfl ?_ ?_; (show (ts.length + 1) * 56 ≤ _; omega); omega; exact (fun i hi => if_pos hi); exact (fun i hi => by rw [show i = 0 by omega, hwy]; exact addT_last _ _ _ _ _))
    | (apply WL_q; apply Eq.refl; apply Eq.refl; (first | (apply q_mvI <;> apply Eq.refl) | (apply q_ldb <;> apply Eq.refl) | (apply q_fab <;> apply Eq.refl) | (apply q_mvB <;> apply Eq.refl) | (apply q_asB <;> apply Eq.refl) | (apply q_ldr <;> apply Eq.refl) | (apply q_len <;> apply Eq.refl) | (apply q_ext <;> apply Eq.refl) | (apply q_pkT <;> apply Eq.refl) | (apply q_pkF <;> apply Eq.refl) | (apply q_ia <;> (first | apply Eq.refl | omega)) | (apply q_ldba <;> apply Eq.refl) | (apply q_mvS <;> apply Eq.refl) | (apply q_asS <;> apply Eq.refl) | (apply q_mvX <;> apply Eq.refl) | (apply q_nck <;> apply Eq.refl) | (apply q_bneq <;> apply Eq.refl) | (apply q_mvT <;> apply Eq.refl) | (apply q_iar; apply Eq.refl; apply Eq.refl; apply Eq.refl; (first | omega | decide); apply Eq.refl; apply Eq.refl; (first | omega | decide); apply Eq.refl; apply Eq.refl)))
    | apply W_seq
    | apply W_region
    | apply T_normal
    | apply WL_nil
    | apply T_ret
    | apply B_ret
    | apply W_skip
    | apply W_ret
    | apply W_block
    | (apply W_condT; apply Eq.refl)
    | (apply W_condF; apply Eq.refl)
    | (apply WL_call; apply Eq.refl; apply Eq.refl; rotate_left 1; apply Eq.refl; rotate_right 1; exact (cw); apply Eq.refl)
    | (apply WL_call; apply Eq.refl; apply Eq.refl; rotate_left 1; apply Eq.refl; rotate_right 1; exact (cn); apply Eq.refl)
    | (apply WL_n; apply Eq.refl; (first | (apply n_stb <;> (first | apply Eq.refl | (intro _ e; cases e)))))
    | apply W_regionG
    | (apply WG_nil; kernel_rfl)
    | (apply WG_q; (first | (apply want_none; apply Eq.refl) | (apply want_some; apply Eq.refl; apply Eq.refl; apply Eq.refl)); apply Eq.refl; first | (apply fq_bld <;> apply Eq.refl) | (apply fq_blda <;> apply Eq.refl) | (apply fq_fn; apply Eq.refl) | (apply fq_mf; apply Eq.refl) | (apply FQ_intro; intro _; (first | (apply q_mvI <;> apply Eq.refl) | (apply q_ldb <;> apply Eq.refl) | (apply q_fab <;> apply Eq.refl) | (apply q_mvB <;> apply Eq.refl) | (apply q_asB <;> apply Eq.refl) | (apply q_ldr <;> apply Eq.refl) | (apply q_len <;> apply Eq.refl) | (apply q_ext <;> apply Eq.refl) | (apply q_pkT <;> apply Eq.refl) | (apply q_pkF <;> apply Eq.refl) | (apply q_ia <;> (first | apply Eq.refl | omega)) | (apply q_ldba <;> apply Eq.refl) | (apply q_mvS <;> apply Eq.refl) | (apply q_asS <;> apply Eq.refl) | (apply q_mvX <;> apply Eq.refl) | (apply q_nck <;> apply Eq.refl) | (apply q_bneq <;> apply Eq.refl) | (apply q_mvT <;> apply Eq.refl) | (apply q_iar; apply Eq.refl; apply Eq.refl; apply Eq.refl; (first | omega | decide); apply Eq.refl; apply Eq.refl; (first | omega | decide); apply Eq.refl; apply Eq.refl))))
    | (apply WG_n; (first | (apply want_none; apply Eq.refl) | (apply want_some; apply Eq.refl; apply Eq.refl; apply Eq.refl)); (first | (apply f_alloc <;> apply Eq.refl) | (apply f_stb <;> (first | apply Eq.refl | (intro _ e; cases e))) | (apply f_bsl <;> apply Eq.refl)))
    | (apply WG_no; apply Eq.refl; apply Eq.refl; apply Eq.refl; apply Eq.refl; apply Eq.refl))
  all_goals refine ⟨_, [.bool true], .bool true, Wk.refl _ _, ?_, ?_, fun _ _ _ _ h => h, .pure _ (.bool _)⟩
  all_goals first | exact finT rfl rfl rfl (fun i _ => pure_addT _ _ _ _ _ i) | exact ⟨rfl, trivial⟩
def lastT (t : Truck) (p g : Nat) : List D := [.int .i64 t.Way, .int .i64 t.Start, .int .i64 t.Pace.Lo, .int .i64 t.Pace.Hi, .os p g]
def holT (ts : List Truck) (t : Truck) (g : Nat) (i : Nat) : List D := if i = ts.length then lastT t (XB + 2) g else encTs ts i
def encHs (hs : List Hold) (i : Nat) : List D := encD .Hold (hs.getD i dfltHold)
def osH (a b c : Int) (ts : List Truck) (t : Truck) (hs : List Hold) (i : Nat) : Ab.Own := match i with | 0 => .box (bxR a b c (XB + 1) 1) | 1 => .arr 44 5 (ts.length + 1) (holT ts t 1) | _ => .arr 66 2 hs.length (encHs hs)
def mv2 (i : Nat) : Bool := Nat.beq i 2
theorem rn_last {n : Nat} {g g' : Nat → Nat} (t : Truck) (hn : 2 < n) : RnL n q3 g q3 g' (lastT t (XB + 2) (g 2)) (lastT t (XB + 2) (g' 2)) :=
  .cons _ _ _ _ (.pure _ (.int _ _)) (.cons _ _ _ _ (.pure _ (.int _ _)) (.cons _ _ _ _ (.pure _ (.int _ _)) (.cons _ _ _ _ (.pure _ (.int _ _)) (.cons _ _ _ _ (Rn.os (p := q3) (g := g) (p' := q3) (g' := g') 2 hn) .nil))))
theorem rn_holT {n : Nat} {g g' : Nat → Nat} (ts : List Truck) (t : Truck) (hn : 2 < n) (i : Nat) : RnL n q3 g q3 g' (holT ts t (g 2) i) (holT ts t (g' 2) i) := by
  unfold holT
  split
  · exact rn_last t hn
  · exact rnLp (pure_T _)
theorem finH {S : St} {a b c : Int} {ts : List Truck} {t : Truck} {hs : List Hold} {f : Nat → List D} (g0 : S.γ 0 = 1) (g1 : S.γ (XB + 1) = 1) (s0 : S.σ 0 = .box (bxR a b c (XB + 1) (S.γ (XB + 1)))) (s1 : S.σ (XB + 1) = .arr 44 5 (ts.length + 1) f) (hf : ∀ i, f i = holT ts t (S.γ (XB + 2)) i)
    (s2 : S.σ (XB + 2) = .arr 66 2 hs.length (encHs hs)) :
    ∀ i, i < 3 → (mv2 i = false → S.γ (q3 i) = 1) ∧ ∃ o2, OwCv (S.σ (q3 i)) o2 ∧ OwRn 3 q3 (fun j => S.γ (q3 j)) q3 one o2 (osH a b c ts t hs i) := by
  intro i hi
  match i, hi with
  | 0, _ => exact ⟨fun _ => g0, _, rfl_cv _, by rw [show S.σ (q3 0) = _ from s0]; exact .box _ _ (rn_bx (g := fun j => S.γ (q3 j)) (g' := one) a b c (by decide))⟩
  | 1, _ => exact ⟨fun _ => g1, _, rfl_cv _, by rw [show S.σ (q3 1) = _ from s1]; exact .arr _ _ _ _ _ (fun i _ => by rw [hf i]; exact rn_holT (g := fun j => S.γ (q3 j)) (g' := one) ts t (by decide) i)⟩
  | 2, _ => exact ⟨fun (e : true = false) => (by cases e), _, rfl_cv _, by rw [show S.σ (q3 2) = _ from s2]; exact .arrP _ _ _ _ (fun i _ => encD_pure _ _)⟩
theorem encHs_lt {hs : List Hold} {h : Hold} {i : Nat} (hi : i < hs.length) : encHs (hs ++ [h]) i = encHs hs i := by
  unfold encHs
  rw [List.getD_eq_getElem?_getD, List.getD_eq_getElem?_getD, List.getElem?_append_left hi]
theorem encHs_at (hs : List Hold) (h : Hold) : encHs (hs ++ [h]) (hs.length + 0) = encD .Hold h := by
  unfold encHs
  simp [List.getD_eq_getElem?_getD]
theorem holT_upd {ts : List Truck} {t : Truck} {g g' k : Nat} (hk : k = ts.length) (i : Nat) : updF (holT ts t g) k (lastT t (XB + 2) g') i = holT ts t g' i := by
  subst hk
  by_cases e : i = ts.length
  · subst e; rw [updF_same]; unfold holT; rw [if_pos rfl]
  · rw [updF_ne _ _ e]; unfold holT; rw [if_neg e, if_neg e]
theorem take_hold {row w0 : ByteArray} {r : List ByteArray} {a b c p x y : Int} {ts : List Truck} {t : Truck} {hs : List Hold} (hw : Words row (w0 :: r)) (hp : (p == 0) = false) (h0 : eqB w0 bRoad = false) (h1 : eqB w0 bTruck = false) (h2 : eqB w0 bHold = true) (hn : numbers r 2 = some ([x, y], true)) (hl : ts.length ≤ 1000000) (hk : hs.length ≤ 1000000) :
    ContractN Z0 50 3 q3 (osH a b c ts t hs) (osH a b c ts t (hs ++ [Hold.mk x y])) mv2 [.bx 0 1 0, .int .i64 p, .str row] (.bool true) := by
  have cw : Contract Z0 49 [.str row, .str bSp] (.sl 1 (r.length + 1) (fun i => [.str ((w0 :: r).getD i ⟨#[]⟩)])) := hw.c
  have cn : Contract Z0 72 [.sl 1 r.length (fun i => [.str (r.getD i ⟨#[]⟩)]), .int .i64 2] (.tup [.sl 1 2 (fun i => [.int .i64 ([x, y].getD i 0)]), .bool true]) := c72 hn
  have hlen : decide (((ts.length + 1 : Nat) : Int) > 0) = true := decide_eq_true (by omega)
  have hkk : (((ts.length + 1 : Nat) : Int) - 1).toNat = ts.length := by omega
  have hcell : nth (holT ts t 1 ((((ts.length + 1 : Nat) : Int) - 1).toNat)) 4 = some (.os (XB + 2) 1) := by
    rw [hkk]; unfold holT; rw [if_pos rfl]; rfl
  have hover : ∀ d : D, d.isCell = true → overN (holT ts t 1 ((((ts.length + 1 : Nat) : Int) - 1).toNat)) 4 [d] = some [.int .i64 t.Way, .int .i64 t.Start, .int .i64 t.Pace.Lo, .int .i64 t.Pace.Hi, d] := fun d _ => by
    rw [hkk]; unfold holT; rw [if_pos rfl]; rfl
  refine contractN_intro (fn := Tryd.f50) Tryd.func50 rfl (by kernel_rfl) rfl (fun i j _ _ e => q3_inj i j e) ?_ ?_ (.pure _ (.bool _)) ?_ ?_
  · intro i hi E z m f ho
    match i, hi, ho with
    | 0, _, ho => cases ho
    | 1, _, _ => exact (by decide : 900000000 ≤ 900000001)
    | 2, _, _ => exact (by decide : 900000000 ≤ 900000002)
  · intro i hi
    match i, hi with
    | 0, _ => exact .box _ _
    | 1, _ => exact .arr _ _ _ _ _ _ _ _
    | 2, _ => exact .arr _ _ _ _ _ _ _ _
  · intro i j hi hj hji hm
    match i, j, hi, hj, hji, hm with
    | 0, _, _, _, _, hm => cases hm
    | 1, _, _, _, _, hm => cases hm
    | 2, 0, _, _, _, _ => exact ⟨rfl, fun v b h => h⟩
    | 2, 1, _, _, _, _ => exact ⟨rfl, fun v b h => h⟩
    | 2, 2, _, _, hji, _ => exact absurd rfl hji
  intro w κ bs sv
  repeat' (first
    | (apply WG_noU; apply Eq.refl; apply Eq.refl; apply Eq.refl; apply Eq.refl)
    | (apply WG_noE; apply Eq.refl; apply Eq.refl; apply Eq.refl; apply Eq.refl; apply Eq.refl)
    | (apply WL_q; apply Eq.refl; apply Eq.refl; apply q_mvY; apply Eq.refl; apply Eq.refl)
    | (apply WL_q; apply Eq.refl; apply Eq.refl; apply q_eqSB; apply Eq.refl; apply Eq.refl; apply Eq.refl; (first | exact h0 | exact h2))
    | (apply WL_q; apply Eq.refl; apply Eq.refl; apply q_cmpB; apply Eq.refl; apply Eq.refl; apply Eq.refl; apply Eq.refl; (first | exact hp | exact hlen))
    | (apply WG_q; (first | (apply want_none; apply Eq.refl) | (apply want_some; apply Eq.refl; apply Eq.refl; apply Eq.refl)); apply Eq.refl; apply FQ_intro; intro _; apply q_eqSB; apply Eq.refl; apply Eq.refl; apply Eq.refl; exact h1)
    | (apply WL_q; apply Eq.refl; apply Eq.refl; refine q_slF (i := 1) (j := r.length + 1) (f' := fun i => [.str (r.getD i ⟨#[]⟩)]) rfl rfl (.inr ⟨_, rfl, rfl⟩) (.inl ⟨rfl, rfl⟩) (by omega) (by omega) rfl rfl rfl rfl rfl (fun k _ => by rw [Nat.add_comm]; rfl))
    | (apply WG_q; (first | (apply want_none; apply Eq.refl) | (apply want_some; apply Eq.refl; apply Eq.refl; apply Eq.refl)); apply Eq.refl; apply FQ_intro; intro _; apply q_ldo; apply Eq.refl; apply Eq.refl; apply Eq.refl; apply Eq.refl; apply Eq.refl; apply Eq.refl; apply Eq.refl; omega; exact hcell)
    | (apply WG_n; (apply want_none; apply Eq.refl); refine f_sto rfl rfl rfl rfl ?_ rfl rfl rfl rfl rfl (hover _ rfl) rfl; omega)
    | (apply WG_n; (apply want_none; apply Eq.refl); refine f_app (n' := (hs ++ [Hold.mk x y]).length) (f' := encHs (hs ++ [Hold.mk x y])) rfl rfl rfl rfl rfl rfl rfl rfl rfl rfl rfl rfl rfl rfl rfl ?_ ?_ ?_ ?_ ?_; (show (hs.length + 1) * 16 ≤ _; omega); omega; (exact List.length_append); exact (fun i hi => encHs_lt hi); exact (fun i hi => by rw [show i = 0 by omega]; exact encHs_at _ _))
    | (apply WL_q; apply Eq.refl; apply Eq.refl; (first | (apply q_mvI <;> apply Eq.refl) | (apply q_ldb <;> apply Eq.refl) | (apply q_fab <;> apply Eq.refl) | (apply q_mvB <;> apply Eq.refl) | (apply q_asB <;> apply Eq.refl) | (apply q_ldr <;> apply Eq.refl) | (apply q_arith <;> (first | apply Eq.refl | omega)) | (apply q_ext <;> apply Eq.refl) | (apply q_pkT <;> apply Eq.refl) | (apply q_pkF <;> apply Eq.refl) | (apply q_ia <;> (first | apply Eq.refl | omega)) | (apply q_ldo <;> (first | apply Eq.refl | omega)) | (apply q_fao <;> apply Eq.refl) | (apply q_iao <;> (first | apply Eq.refl | omega)) | (apply q_leno <;> apply Eq.refl) | (apply q_mvS <;> apply Eq.refl) | (apply q_asS <;> apply Eq.refl) | (apply q_mvX <;> apply Eq.refl) | (apply q_nck <;> apply Eq.refl) | (apply q_ncko <;> apply Eq.refl) | (apply q_bneq <;> apply Eq.refl) | (apply q_mvT <;> apply Eq.refl) | (apply q_mvP <;> apply Eq.refl) | (apply q_asP <;> apply Eq.refl)))
    | apply W_seq
    | apply W_region
    | apply T_normal
    | apply WL_nil
    | apply T_ret
    | apply B_ret
    | apply W_ret
    | apply W_block
    | (apply W_condT; apply Eq.refl)
    | (apply W_condF; apply Eq.refl)
    | (apply WL_call; apply Eq.refl; apply Eq.refl; rotate_left 1; apply Eq.refl; rotate_right 1; exact (cw); apply Eq.refl)
    | (apply WL_call; apply Eq.refl; apply Eq.refl; rotate_left 1; apply Eq.refl; rotate_right 1; exact (cn); apply Eq.refl)
    | (apply WL_yes; apply Eq.refl; apply Eq.refl; apply Eq.refl)
    | apply W_regionG
    | (apply WG_nil; kernel_rfl)
    | (apply WG_q; (first | (apply want_none; apply Eq.refl) | (apply want_some; apply Eq.refl; apply Eq.refl; apply Eq.refl)); apply Eq.refl; first | (apply fq_bld <;> apply Eq.refl) | (apply fq_blda <;> apply Eq.refl) | (apply fq_fn; apply Eq.refl) | (apply fq_mf; apply Eq.refl) | (apply FQ_intro; intro _; (first | (apply q_mvI <;> apply Eq.refl) | (apply q_ldb <;> apply Eq.refl) | (apply q_fab <;> apply Eq.refl) | (apply q_mvB <;> apply Eq.refl) | (apply q_asB <;> apply Eq.refl) | (apply q_ldr <;> apply Eq.refl) | (apply q_arith <;> (first | apply Eq.refl | omega)) | (apply q_ext <;> apply Eq.refl) | (apply q_pkT <;> apply Eq.refl) | (apply q_pkF <;> apply Eq.refl) | (apply q_ia <;> (first | apply Eq.refl | omega)) | (apply q_ldo <;> (first | apply Eq.refl | omega)) | (apply q_fao <;> apply Eq.refl) | (apply q_iao <;> (first | apply Eq.refl | omega)) | (apply q_leno <;> apply Eq.refl) | (apply q_mvS <;> apply Eq.refl) | (apply q_asS <;> apply Eq.refl) | (apply q_mvX <;> apply Eq.refl) | (apply q_nck <;> apply Eq.refl) | (apply q_ncko <;> apply Eq.refl) | (apply q_bneq <;> apply Eq.refl) | (apply q_mvT <;> apply Eq.refl) | (apply q_mvP <;> apply Eq.refl) | (apply q_asP <;> apply Eq.refl))))
    | (apply WG_n; (first | (apply want_none; apply Eq.refl) | (apply want_some; apply Eq.refl; apply Eq.refl; apply Eq.refl)); (first | (apply f_bsl <;> apply Eq.refl) | (apply f_sto <;> (first | apply Eq.refl | omega)))))
  refine ⟨_, [.bool true], .bool true, Wk.refl _ _, ?_, ?_, fun _ _ _ _ h => h, .pure _ (.bool _)⟩
  · exact finH rfl rfl rfl rfl (fun i => holT_upd hkk i) rfl
  · exact ⟨rfl, trivial⟩
end Go.Proofs.Tp04
namespace Go.Proofs.Tp04
open Go Go.Ab
open Go.Proofs.YtmoiedlfimodeaaDoor (iseat)
set_option linter.all false
set_option maxRecDepth 100000
def bNl : ByteArray := ⟨#[10]⟩
def zeroC : Convoy := ⟨0, 0, 0, []⟩
def addHold (c : Convoy) (t : Truck) (x y : Int) : Convoy := ⟨c.Length, c.Gap, c.Fails, c.Trucks.dropLast ++ [⟨t.Way, t.Start, t.Pace, t.Holds ++ [Hold.mk x y]⟩]⟩
def addTruck (c : Convoy) (d : Bool) (s l h : Int) : Convoy := ⟨c.Length, c.Gap, c.Fails, c.Trucks ++ [⟨if d then 2 else 1, s, ⟨l, h⟩, []⟩]⟩
noncomputable def goodRow (k : Nat) (c : Convoy) : List ByteArray → Option Convoy
  | [] => none
  | w0 :: r =>
    if k = 0 then (bif eqB w0 bRoad then (match numbers r 3 with | some ([a, b, g], true) => some ⟨a, b, g, []⟩ | _ => none) else none)
    else bif eqB w0 bRoad then none else bif eqB w0 bTruck then
      (match r with
       | w1 :: r' => bif eqB w1 bUp == !eqB w1 bDown then (match numbers r' 3 with | some ([s, l, h], true) => some (addTruck c (eqB w1 bDown) s l h) | _ => none) else none
       | [] => none)
    else bif eqB w0 bHold then
      (match c.Trucks.getLast? with
       | some t => (match numbers r 2 with | some ([x, y], true) => some (addHold c t x y) | _ => none)
       | none => none)
    else none
abbrev RdR := Convoy × Int × Int
noncomputable def readL : List ByteArray → Nat → Convoy → Option (Except RdR Convoy)
  | [], _, c => some (.ok c)
  | row :: rows, k, c => chk (Tx.okS row bSp) (match goodRow k c (Tx.splitV row bSp) with
    | some c' => readL rows (k + 1) c'
    | none => (takeR c k row).bind fun r => bif r.2 then none else some (.error (zeroC, (k : Int) + 1, 3)))
noncomputable def readT (n : Nat) (lst : ByteArray) : Except RdR Convoy → Option RdR
  | .error x => some x
  | .ok c => if n = 0 then some (zeroC, (n : Int) + 1, 3) else bif eqB lst ⟨#[]⟩ then (pCheck c).bind fun e => bif e != 0 then some (zeroC, 0, e) else some (c, 0, 0) else some (zeroC, (n : Int) + 1, 3)
noncomputable def readF (text : ByteArray) : Option RdR :=
  bif decide ((text.size : Int) > 20000) then some (zeroC, 0, 5) else
  chk (Tx.okS text bNl) (match (Tx.splitV text bNl).getLast? with
    | none => none
    | some lst => chk (decide ((Tx.splitV text bNl).length ≤ 1000000)) ((readL (Tx.splitV text bNl).dropLast 0 zeroC).bind (readT ((Tx.splitV text bNl).length - 1) lst)))
inductive Good (row : ByteArray) (k : Nat) (c : Convoy) : Convoy → Prop
  | road (w0 : ByteArray) (r : List ByteArray) (a b g : Int) : k = 0 → Words row (w0 :: r) → eqB w0 bRoad = true → numbers r 3 = some ([a, b, g], true) → Good row k c ⟨a, b, g, []⟩
  | truck (w0 w1 : ByteArray) (r : List ByteArray) (d : Bool) (s l h : Int) : k ≠ 0 → Words row (w0 :: w1 :: r) → eqB w0 bRoad = false → eqB w0 bTruck = true → eqB w1 bUp = (!d) → eqB w1 bDown = d → numbers r 3 = some ([s, l, h], true) → Good row k c (addTruck c d s l h)
  | hold (w0 : ByteArray) (r : List ByteArray) (t : Truck) (x y : Int) : k ≠ 0 → Words row (w0 :: r) → eqB w0 bRoad = false → eqB w0 bTruck = false → eqB w0 bHold = true → c.Trucks.getLast? = some t → numbers r 2 = some ([x, y], true) → Good row k c (addHold c t x y)
theorem good_of {row : ByteArray} {k : Nat} {c c' : Convoy} (ho : Tx.okS row bSp = true) (h : goodRow k c (Tx.splitV row bSp) = some c') : Good row k c c' := by
  generalize hw : Tx.splitV row bSp = ws at h
  unfold goodRow at h
  match ws, h, hw with
  | w0 :: r, h, hw =>
    simp only at h
    have W : Words row (w0 :: r) := ⟨ho, hw⟩
    by_cases hk : k = 0
    · rw [if_pos hk] at h
      cases h0 : eqB w0 bRoad with
      | false => rw [h0] at h; cases h
      | true =>
        rw [h0] at h
        simp only [cond_true] at h
        split at h
        · rename_i a b g hn
          cases h
          exact .road w0 r a b g hk W h0 hn
        · cases h
    · rw [if_neg hk] at h
      cases h0 : eqB w0 bRoad with
      | true => rw [h0] at h; cases h
      | false =>
        rw [h0] at h
        simp only [cond_false] at h
        cases h1 : eqB w0 bTruck with
        | true =>
          rw [h1] at h
          simp only [cond_true] at h
          match r, h, W with
          | w1 :: r', h, W =>
            simp only at h
            cases hd : (eqB w1 bUp == !eqB w1 bDown) with
            | false => rw [hd] at h; cases h
            | true =>
              rw [hd] at h
              simp only [cond_true] at h
              split at h
              · rename_i s l x hn
                cases h
                exact .truck w0 w1 r' (eqB w1 bDown) s l x hk W h0 h1 (eq_of_beq hd) rfl hn
              · cases h
        | false =>
          rw [h1] at h
          simp only [cond_false] at h
          cases h2 : eqB w0 bHold with
          | false => rw [h2] at h; cases h
          | true =>
            rw [h2] at h
            simp only [cond_true] at h
            split at h
            · rename_i t ht
              split at h
              · rename_i x y hn
                cases h
                exact .hold w0 r t x y hk W h0 h1 h2 ht hn
              · cases h
            · cases h
theorem take_bad {row : ByteArray} {k : Nat} {c c' : Convoy} {b : Bool} (h : takeR c k row = some (c', b)) : ContractR Z0 50 (encD .Convoy c) (encD .Convoy c') [.int .i64 k, .str row] (.bool b) := by
  have h2 := fn_contractR (Z := iseat) (bt := .Convoy) (ats := [.int .i64, .str]) (ts := [.bool]) (E := E50) (fn := Tryd.f50) (c := bodyOf Tryd.f50) Tryd.func50 (by kernel_rfl) (by kernel_rfl) (by kernel_rfl) (by kernel_rfl) rfl (b := c) (a := ((k : Int), row, ())) (y := c') (x := b) ((e50 itN c k row).trans ((takeR_eq c k row).symm.trans h)) zh
  rw [toDL_enc, toDL_enc] at h2
  exact h2
theorem c13 {c : Convoy} {e : Int} (h : pCheck c = some e) : Contract Z0 13 [.agg (encD .Convoy c)] (.int .i64 e) := by
  have h2 := fn_contract (Z := iseat) (ats := [.Convoy]) (ts := [.int .i64]) (E := E13) (fn := Tryd.f13) (c := bodyOf Tryd.f13) Tryd.func13 (by kernel_rfl) (by kernel_rfl) (by kernel_rfl) (by kernel_rfl) rfl (a := (c, ())) (x := e) ((e13 itN c).trans ((pCheck_eq c).symm.trans h)) zh zh
  exact h2
end Go.Proofs.Tp04
namespace Go.Proofs.Tp04
open Go Go.Ab
open Go.Proofs.YtmoiedlfimodeaaDoor (iseat)
set_option linter.all false
set_option maxRecDepth 100000
set_option maxHeartbeats 4000000
attribute [local irreducible] W WL QOp NOp thenQ blockQ FinQ FinR WG FQ Want FinW WI WIL thenI blockI
section
variable {X : Ctx} {S : St} {o : Oper} {T T2 : TypeId} {x y : Operand}
theorem q_arithB {op : BinOp} {m n e e' : Int} (ho : o.op = .binOp op T x y T2) (hx : S.ev X x = .int .i64 m) (hy : S.ev X y = .int .i64 n) (hc : arithI op m n = some e') (h1 : -9223372036854775808 ≤ e') (h2 : e' ≤ 9223372036854775807) (he : e' = e) : QOp X o S (.int .i64 e) := he ▸ q_arith ho hx hy hc h1 h2
end
theorem q_neSB {X : Ctx} {S : St} {o : Oper} {T T2 : TypeId} {x y : Operand} {s t : ByteArray} {b : Bool} (ho : o.op = .binOp .neq T x y T2) (hx : S.ev X x = .str s) (hy : S.ev X y = .str t) (hb : (!(s.toList == t.toList)) = b) : QOp X o S (.bool b) := hb ▸ q_neS ho hx hy
def bg0 : Nat → Ab.Own := fun _ => .none
def lhT (ts : List Truck) (g : Nat) (i : Nat) : List D := if i + 1 = ts.length then lastT (ts.getD i dfltTruck) 101 g else encTs ts i
def lastH (ts : List Truck) : List Hold := match ts.getLast? with | some t => t.Holds | none => []
def osG (c : Convoy) (h : Nat → Nat) : List (Nat × Ab.Own) := [(2, .box (bxR c.Length c.Gap c.Fails 100 (h 100))), (100, .arr 44 5 c.Trucks.length (lhT c.Trucks (h 101))), (101, .arr 66 2 (lastH c.Trucks).length (encHs (lastH c.Trucks)))]
def osZ : List (Nat × Ab.Own) := [(2, .box [.int .i64 0, .int .i64 0, .int .i64 0, .nil])]
def osR (x : Nat × Convoy) (h : Nat → Nat) : List (Nat × Ab.Own) := if x.1 = 0 then osZ else osG x.2 h
def osP (c : Convoy) (h : Nat → Nat) : List (Nat × Ab.Own) := [(2, .box (bxR c.Length c.Gap c.Fails 100 (h 100))), (100, .arr 44 5 c.Trucks.length (encTs c.Trucks))]
def osB (c : Convoy) : List (Nat × Ab.Own) := [(2, .box (encD .Convoy c))]
theorem mk_sub {rs : List (Nat × D)} {os : List (Nat × Ab.Own)} {h : Nat → Nat} {f : Nat → Ab.Own} (ha : AllE f os) (s : Nat) : (mkF rs os h bg0).σ s = .none ∨ (mkF rs os h bg0).σ s = f s := by
  show (bif Nat.ble FB s then bg0 s else Ab.look Ab.Own.none os s) = Ab.Own.none ∨ (bif Nat.ble FB s then bg0 s else Ab.look Ab.Own.none os s) = f s
  cases Nat.ble FB s with
  | true => exact .inl rfl
  | false => exact look_ok ha s
theorem last_at {ts : List Truck} (h : ts ≠ []) : ts.getLast? = some (ts.getD (ts.length - 1) dfltTruck) := by
  have hl : ts.length - 1 < ts.length := by have := List.length_pos_iff.2 h; omega
  rw [List.getLast?_eq_getElem?, List.getD_eq_getElem?_getD, List.getElem?_eq_getElem hl]; rfl
theorem wk_trk {X : Ctx} {rs : List (Nat × D)} {c : Convoy} {h : Nat → Nat} (hx : ∀ s, s < 200 → X.xa s = false) : Wk X (mkF rs (osG c h) h bg0) (mkF rs (osP c h) h bg0) := by
  have hm : ∀ {S' : St}, Wk X (mkF rs (osG c h) h bg0) S' → S'.ρ = (mkF rs (osG c h) h bg0).ρ → S'.γ = h → S'.σ 2 = .box (bxR c.Length c.Gap c.Fails 100 (h 100)) → S'.σ 100 = .arr 44 5 c.Trucks.length (encTs c.Trucks) → Wk X (mkF rs (osG c h) h bg0) (mkF rs (osP c h) h bg0) := fun {S'} hw hr hg h2 h3 => by
    refine hw.trans (wk_gen (fun i => ?_) (fun s => ?_) (fun s => ?_))
    · right; rw [hr]; rfl
    · rw [hg]; exact Nat.le_refl _
    · exact mk_sub (os := osP c h) (f := S'.σ) ⟨h2, h3, trivial⟩ s
  by_cases hn : c.Trucks = []
  · refine hm (Wk.refl _ _) rfl rfl rfl ?_
    show Ab.Own.arr 44 5 c.Trucks.length (lhT c.Trucks (h 101)) = _
    rw [hn, show lhT [] (h 101) = encTs [] from funext fun i => if_neg (by simp)]
  · have hl := List.length_pos_iff.2 hn
    have hw := wk_freeze_elem (X := X) (S := mkF rs (osG c h) h bg0) 100 (c.Trucks.length - 1) 4 (s := 101) (g := h 101) (E := 66) (z := 2) (n := (lastH c.Trucks).length) (f := encHs (lastH c.Trucks)) (E2 := 44) (z2 := 5) (n2 := c.Trucks.length) (f2 := lhT c.Trucks (h 101)) (f2' := encTs c.Trucks) (l0 := lastT (c.Trucks.getD (c.Trucks.length - 1) dfltTruck) 101 (h 101)) (l' := encTs c.Trucks (c.Trucks.length - 1)) rfl rfl (by omega) (by unfold lhT; rw [if_pos (by omega)]) rfl rfl rfl (by
      have e : lastH c.Trucks = (c.Trucks.getD (c.Trucks.length - 1) dfltTruck).Holds := by unfold lastH; rw [last_at hn]
      rw [e]; rfl) (fun k hk => by
      split
      · rename_i e; rw [e]
      · rename_i e; unfold lhT; rw [if_neg (by omega)]) (hx _ (by decide))
    refine hm hw rfl rfl ?_ ?_
    · exact (upd_ne (upd (mkF rs (osG c h) h bg0).σ 101 .none) 100 2 (.arr 44 5 c.Trucks.length (encTs c.Trucks)) (by decide)).trans ((upd_ne (mkF rs (osG c h) h bg0).σ 101 2 .none (by decide)).trans rfl)
    · exact upd_same (upd (mkF rs (osG c h) h bg0).σ 101 .none) 100 (.arr 44 5 c.Trucks.length (encTs c.Trucks))
theorem wk_bad {X : Ctx} {rs : List (Nat × D)} {c : Convoy} {h : Nat → Nat} (hx : ∀ s, s < 200 → X.xa s = false) : Wk X (mkF rs (osP c h) h bg0) (mkF rs (osB c) h bg0) := by
  have hw := wk_freeze_cell (X := X) (S := mkF rs (osP c h) h bg0) 2 3 (s := 100) (g := h 100) (E := 44) (z := 5) (n := c.Trucks.length) (f := encTs c.Trucks) (l := bxR c.Length c.Gap c.Fails 100 (h 100)) (l' := encD .Convoy c) rfl rfl rfl rfl rfl (hx _ (by decide))
  refine hw.trans (wk_gen (fun i => .inr rfl) (fun s => Nat.le_refl _) (fun s => ?_))
  exact mk_sub (os := osB c) (f := upd (upd (mkF rs (osP c h) h bg0).σ 100 .none) 2 (.box (encD .Convoy c))) ⟨upd_same _ _ _, trivial⟩ s
theorem wk_zero {X : Ctx} {rs : List (Nat × D)} {h : Nat → Nat} : Wk X (mkF rs osZ h bg0) (mkF rs (osB zeroC) h bg0) := by
  have hw := wk_nilbox (X := X) (S := mkF rs osZ h bg0) 2 (l := [.int .i64 0, .int .i64 0, .int .i64 0, .nil]) (l' := encD .Convoy zeroC) rfl ⟨.inl rfl, .inl rfl, .inl rfl, .inr ⟨rfl, _, _, rfl⟩, trivial⟩
  refine hw.trans (wk_gen (fun i => .inr rfl) (fun s => Nat.le_refl _) (fun s => ?_))
  exact mk_sub (os := osB zeroC) (f := upd (mkF rs osZ h bg0).σ 2 (.box (encD .Convoy zeroC))) ⟨upd_same _ _ _, trivial⟩ s
def pR (i : Nat) : Nat := match i with | 0 => 2 | 1 => 100 | i + 2 => 101 + i
theorem pR_inj : ∀ i j, i < 3 → j < 3 → pR i = pR j → i = j
  | 0, 0, _, _, _ => rfl | 1, 1, _, _, _ => rfl | 2, 2, _, _, _ => rfl
  | 0, 1, _, _, e => by cases e
  | 0, 2, _, _, e => by cases e
  | 1, 0, _, _, e => by cases e
  | 1, 2, _, _, e => by cases e
  | 2, 0, _, _, e => by cases e
  | 2, 1, _, _, e => by cases e
  | i + 3, _, h, _, _ => by omega
  | _, i + 3, _, h, _ => by omega
theorem rn_bxG {n : Nat} {p g p' g' : Nat → Nat} (a b c : Int) (hn : 1 < n) : RnL n p g p' g' (bxR a b c (p 1) (g 1)) (bxR a b c (p' 1) (g' 1)) :=
  .cons _ _ _ _ (.pure _ (.int _ _)) (.cons _ _ _ _ (.pure _ (.int _ _)) (.cons _ _ _ _ (.pure _ (.int _ _)) (.cons _ _ _ _ (Rn.os (p := p) (g := g) (p' := p') (g' := g') 1 hn) .nil)))
theorem rn_lastG {n : Nat} {p g p' g' : Nat → Nat} (t : Truck) (hn : 2 < n) : RnL n p g p' g' (lastT t (p 2) (g 2)) (lastT t (p' 2) (g' 2)) :=
  .cons _ _ _ _ (.pure _ (.int _ _)) (.cons _ _ _ _ (.pure _ (.int _ _)) (.cons _ _ _ _ (.pure _ (.int _ _)) (.cons _ _ _ _ (.pure _ (.int _ _)) (.cons _ _ _ _ (Rn.os (p := p) (g := g) (p' := p') (g' := g') 2 hn) .nil))))
section
variable {X : Ctx} {Q : Exit → St → Prop} {S : St} {ops : Array Oper} {o : Oper} {rest : List Oper}
theorem WL_truck {x0 x1 x2 : Operand} {ty : Array TypeId} {a b c p s l h w : Int} {row : ByteArray} {ts : List Truck} {tt : Nat} (hZ : X.Z = Z0) (hc : ContractN Z0 50 2 q3 (osT a b c ts.length (encTs ts)) (osT a b c (ts.length + 1) (addT ts w s l h)) mv1 [.bx 0 1 0, .int .i64 p, .str row] (.bool true))
    (hg : o.guard = none) (ho : o.op = .call { callee := .value (.func 50), args := #[x0, x1, x2], argTypes := ty }) (h0 : S.ev X x0 = .bx 2 (S.γ 2) 0) (h1 : S.ev X x1 = .int .i64 p) (h2 : S.ev X x2 = .str row) (hd : o.dst = some tt)
    (s2 : S.σ 2 = .box (bxR a b c 100 (S.γ 100))) (s1 : S.σ 100 = .arr 44 5 ts.length (encTs ts))
    (hk : WL X ops rest Q ⟨upd S.ρ tt (.bool true), upd S.γ 100 (S.γ 100 + 1), upd (upd S.σ 2 (.box (bxR a b c 100 (S.γ 100 + 1)))) 100 (.arr 44 5 (ts.length + 1) (addT ts w s l h))⟩) : WL X ops (o :: rest) Q S := by
  rw [← hZ] at hc
  have i2 : ∀ i, i < 2 → i = 0 ∨ i = 1 := fun i hi => by omega
  refine WL_callN (n := 2) (q := q3) (ps := pR) (c := []) (fun i j hi hj e => pR_inj i j (by omega) (by omega) e) (fun i j _ _ e => q3_inj i j e) hg ho rfl (fun i hi => ?_) ?_ hc (γ' := upd S.γ 100 (S.γ 100 + 1)) (fun s hs => upd_ne _ _ _ _ (fun e => hs 1 (by decide) e.symm)) (fun i hi => ?_) (.pure _ (.bool _)) hd (σ' := upd (upd S.σ 2 (.box (bxR a b c 100 (S.γ 100 + 1)))) 100 (.arr 44 5 (ts.length + 1) (addT ts w s l h))) (fun s hs => (upd_ne _ _ _ _ (fun e => hs 1 (by decide) e.symm)).trans (upd_ne _ _ _ _ (fun e => hs 0 (by decide) e.symm))) (fun i hi => ?_) hk
  · rcases i2 i hi with rfl | rfl
    · rw [show S.σ (pR 0) = _ from s2]; exact .box _ _ (rn_bxG (p := pR) (g := fun j => S.γ (pR j)) (p' := q3) (g' := one) a b c (by decide))
    · rw [show S.σ (pR 1) = _ from s1]; exact .arrP _ _ _ _ (fun i _ => pure_T _)
  · show RnL _ _ _ _ _ [S.ev X x0, S.ev X x1, S.ev X x2] _
    rw [h0, h1, h2]
    exact .cons _ _ _ _ (Rn.bx (p := pR) (g := fun j => S.γ (pR j)) (p' := q3) (g' := one) 0 0 (by decide)) (.cons _ _ _ _ (.pure _ (.int _ _)) (.cons _ _ _ _ (.pure _ (.str _)) .nil))
  · rcases i2 i hi with rfl | rfl
    · exact upd_ne _ _ _ _ (by decide)
    · exact upd_same _ _ _
  · rcases i2 i hi with rfl | rfl
    · rw [show upd (upd S.σ 2 (.box (bxR a b c 100 (S.γ 100 + 1)))) 100 (.arr 44 5 (ts.length + 1) (addT ts w s l h)) (pR 0) = .box (bxR a b c 100 (S.γ 100 + 1)) from (upd_ne _ _ _ _ (by decide)).trans (upd_same _ _ _)]
      have := rn_bxG (n := 2) (p := q3) (g := one) (p' := pR) (g' := fun j => upd S.γ 100 (S.γ 100 + 1) (pR j)) a b c (by decide)
      simp only [show pR 1 = 100 from rfl, upd_same] at this
      exact .box _ _ this
    · rw [show upd (upd S.σ 2 (.box (bxR a b c 100 (S.γ 100 + 1)))) 100 (.arr 44 5 (ts.length + 1) (addT ts w s l h)) (pR 1) = _ from upd_same _ _ _]
      exact .arrP _ _ _ _ (fun i _ => pure_addT _ _ _ _ _ i)
def holG (ts : List Truck) (t : Truck) (g : Nat) (i : Nat) : List D := if i = ts.length then lastT t 101 g else encTs ts i
theorem WL_hold {x0 x1 x2 : Operand} {ty : Array TypeId} {a b c p : Int} {row : ByteArray} {ts : List Truck} {t : Truck} {hs hs' : List Hold} {tt : Nat} (hZ : X.Z = Z0) (hc : ContractN Z0 50 3 q3 (osH a b c ts t hs) (osH a b c ts t hs') mv2 [.bx 0 1 0, .int .i64 p, .str row] (.bool true))
    (hg : o.guard = none) (ho : o.op = .call { callee := .value (.func 50), args := #[x0, x1, x2], argTypes := ty }) (h0 : S.ev X x0 = .bx 2 (S.γ 2) 0) (h1 : S.ev X x1 = .int .i64 p) (h2 : S.ev X x2 = .str row) (hd : o.dst = some tt)
    (s2 : S.σ 2 = .box (bxR a b c 100 (S.γ 100))) (s1 : S.σ 100 = .arr 44 5 (ts.length + 1) (holG ts t (S.γ 101))) (s3 : S.σ 101 = .arr 66 2 hs.length (encHs hs))
    (hk : WL X ops rest Q ⟨upd S.ρ tt (.bool true), upd S.γ 101 (S.γ 101 + 1), upd (upd S.σ 100 (.arr 44 5 (ts.length + 1) (holG ts t (S.γ 101 + 1)))) 101 (.arr 66 2 hs'.length (encHs hs'))⟩) : WL X ops (o :: rest) Q S := by
  rw [← hZ] at hc
  have i3 : ∀ i, i < 3 → i = 0 ∨ i = 1 ∨ i = 2 := fun i hi => by omega
  have key : ∀ {p p' g g' : Nat → Nat}, ∀ i, RnL 3 p g p' g' (if i = ts.length then lastT t (p 2) (g 2) else encTs ts i) (if i = ts.length then lastT t (p' 2) (g' 2) else encTs ts i) := fun {p p' g g'} i => by
    split
    · exact rn_lastG t (by decide)
    · exact rnLp (pure_T _)
  refine WL_callN (n := 3) (q := q3) (ps := pR) (c := []) (fun i j hi hj e => pR_inj i j hi hj e) (fun i j _ _ e => q3_inj i j e) hg ho rfl (fun i hi => ?_) ?_ hc (γ' := upd S.γ 101 (S.γ 101 + 1)) (fun s hs => upd_ne _ _ _ _ (fun e => hs 2 (by decide) e.symm)) (fun i hi => ?_) (.pure _ (.bool _)) hd (σ' := upd (upd S.σ 100 (.arr 44 5 (ts.length + 1) (holG ts t (S.γ 101 + 1)))) 101 (.arr 66 2 hs'.length (encHs hs'))) (fun s hs => (upd_ne _ _ _ _ (fun e => hs 2 (by decide) e.symm)).trans (upd_ne _ _ _ _ (fun e => hs 1 (by decide) e.symm))) (fun i hi => ?_) hk
  · rcases i3 i hi with rfl | rfl | rfl
    · rw [show S.σ (pR 0) = _ from s2]; exact .box _ _ (rn_bxG (p := pR) (g := fun j => S.γ (pR j)) (p' := q3) (g' := one) a b c (by decide))
    · rw [show S.σ (pR 1) = _ from s1]; exact .arr _ _ _ _ _ (fun i _ => key (p := pR) (g := fun j => S.γ (pR j)) (p' := q3) (g' := one) i)
    · rw [show S.σ (pR 2) = _ from s3]; exact .arrP _ _ _ _ (fun i _ => encD_pure _ _)
  · show RnL _ _ _ _ _ [S.ev X x0, S.ev X x1, S.ev X x2] _
    rw [h0, h1, h2]
    exact .cons _ _ _ _ (Rn.bx (p := pR) (g := fun j => S.γ (pR j)) (p' := q3) (g' := one) 0 0 (by decide)) (.cons _ _ _ _ (.pure _ (.int _ _)) (.cons _ _ _ _ (.pure _ (.str _)) .nil))
  · rcases i3 i hi with rfl | rfl | rfl
    · exact upd_ne _ _ _ _ (by decide)
    · exact upd_ne _ _ _ _ (by decide)
    · exact upd_same _ _ _
  · rcases i3 i hi with rfl | rfl | rfl
    · rw [show upd (upd S.σ 100 (.arr 44 5 (ts.length + 1) (holG ts t (S.γ 101 + 1)))) 101 (.arr 66 2 hs'.length (encHs hs')) (pR 0) = .box (bxR a b c 100 (S.γ 100)) from (upd_ne _ _ _ _ (by decide)).trans ((upd_ne _ _ _ _ (by decide)).trans s2)]
      have := rn_bxG (n := 3) (p := q3) (g := one) (p' := pR) (g' := fun j => upd S.γ 101 (S.γ 101 + 1) (pR j)) a b c (by decide)
      simp only [show pR 1 = 100 from rfl, upd_ne S.γ 101 100 (S.γ 101 + 1) (by decide)] at this
      exact .box _ _ this
    · rw [show upd (upd S.σ 100 (.arr 44 5 (ts.length + 1) (holG ts t (S.γ 101 + 1)))) 101 (.arr 66 2 hs'.length (encHs hs')) (pR 1) = _ from (upd_ne _ _ _ _ (by decide)).trans (upd_same _ _ _)]
      refine .arr _ _ _ _ _ (fun i _ => ?_)
      have := key (p := q3) (g := one) (p' := pR) (g' := fun j => upd S.γ 101 (S.γ 101 + 1) (pR j)) i
      simp only [show pR 2 = 101 from rfl, upd_same] at this
      exact this
    · rw [show upd (upd S.σ 100 (.arr 44 5 (ts.length + 1) (holG ts t (S.γ 101 + 1)))) 101 (.arr 66 2 hs'.length (encHs hs')) (pR 2) = _ from upd_same _ _ _]
      exact .arrP _ _ _ _ (fun i _ => encD_pure _ _)
end
theorem lhT_snoc (ts : List Truck) (t : Truck) (g : Nat) : lhT (ts ++ [t]) g = holG ts t g := funext fun i => by
  unfold lhT holG
  rw [List.length_append]
  by_cases e : i = ts.length
  · subst e
    rw [if_pos (show ts.length + 1 = ts.length + [t].length from rfl), if_pos rfl]
    simp [List.getD_eq_getElem?_getD]
  · rw [if_neg (show ¬ (i + 1 = ts.length + [t].length) from fun q => e (Nat.succ.inj q)), if_neg e]
    unfold encTs
    rw [List.getD_eq_getElem?_getD, List.getD_eq_getElem?_getD]
    by_cases h : i < ts.length
    · rw [List.getElem?_append_left h]
    · rw [List.getElem?_eq_none (show ts.length ≤ i by omega), List.getElem?_eq_none (by simp; omega)]
theorem lastH_snoc (ts : List Truck) (t : Truck) : lastH (ts ++ [t]) = t.Holds := by unfold lastH; simp
theorem osG_snoc (L G F : Int) (ts : List Truck) (t : Truck) (h : Nat → Nat) : osG ⟨L, G, F, ts ++ [t]⟩ h = [(2, .box (bxR L G F 100 (h 100))), (100, .arr 44 5 (ts.length + 1) (holG ts t (h 101))), (101, .arr 66 2 t.Holds.length (encHs t.Holds))] := by
  unfold osG
  rw [lhT_snoc, lastH_snoc, List.length_append]; rfl
section
variable {X : Ctx} {S : St}
theorem end_road {rs : List (Nat × D)} {a b g : Int} (hr : AllE S.ρ rs) (s2 : S.σ 2 = .box [.int .i64 a, .int .i64 b, .int .i64 g, .nil]) (s1 : S.σ 100 = .none) :
    ∃ S'', Wk X S S'' ∧ S''.ρ = S.ρ ∧ (∀ s, s < 100 → S''.γ s = S.γ s) ∧ AllE S''.σ (osG ⟨a, b, g, []⟩ S''.γ) := by
  have w1 := wk_nilc (X := X) (S := S) 2 3 100 44 5 (lhT [] (S.γ 101 + 1)) (l' := bxR a b g 100 (S.γ 100 + 1)) s2 rfl s1 rfl rfl
  have w2 := wk_new (X := X) (S := ⟨S.ρ, upd S.γ 100 (S.γ 100 + 1), upd (upd S.σ 100 (.arr 44 5 0 (lhT [] (S.γ 101 + 1)))) 2 (.box (bxR a b g 100 (S.γ 100 + 1)))⟩) 101 66 2 (encHs [])
  exact ⟨_, w1.trans w2, rfl, fun s hs => (upd_ne _ _ _ _ (by omega)).trans (upd_ne _ _ _ _ (by omega)), rfl, rfl, rfl, trivial⟩
theorem end_truck {a b c w s l h : Int} {ts : List Truck} (s2 : S.σ 2 = .box (bxR a b c 100 (S.γ 100))) (s1 : S.σ 100 = .arr 44 5 (ts.length + 1) (addT ts w s l h)) :
    ∃ S'', Wk X S S'' ∧ S''.ρ = S.ρ ∧ (∀ s, s < 100 → S''.γ s = S.γ s) ∧ AllE S''.σ (osG ⟨a, b, c, ts ++ [⟨w, s, ⟨l, h⟩, []⟩]⟩ S''.γ) := by
  have w1 := wk_nil_elem (X := X) (S := S) 100 ts.length 4 101 66 2 (encHs []) (f2' := holG ts ⟨w, s, ⟨l, h⟩, []⟩ (S.γ 101 + 1)) (l' := lastT ⟨w, s, ⟨l, h⟩, []⟩ 101 (S.γ 101 + 1)) s1 (by decide) (Nat.lt_succ_self _) (by unfold addT; rw [if_neg (Nat.lt_irrefl _)]; rfl) (by unfold addT; rw [if_neg (Nat.lt_irrefl _)]; rfl) (fun k hk => by
    unfold holG addT
    by_cases e : k = ts.length
    · rw [if_pos e, if_pos e]
    · rw [if_neg e, if_neg e, if_pos (by omega)])
  refine ⟨_, w1, rfl, fun s hs => upd_ne _ _ _ _ (by omega), ?_⟩
  rw [osG_snoc]
  exact ⟨s2, rfl, rfl, trivial⟩
theorem end_hold {a b c x y : Int} {ts : List Truck} {t : Truck} (s2 : S.σ 2 = .box (bxR a b c 100 (S.γ 100))) (s1 : S.σ 100 = .arr 44 5 (ts.length + 1) (holG ts t (S.γ 101))) (s3 : S.σ 101 = .arr 66 2 (t.Holds ++ [Hold.mk x y]).length (encHs (t.Holds ++ [Hold.mk x y]))) :
    AllE S.σ (osG ⟨a, b, c, ts ++ [⟨t.Way, t.Start, t.Pace, t.Holds ++ [Hold.mk x y]⟩]⟩ S.γ) := by
  rw [osG_snoc]
  exact ⟨s2, s1, s3, trivial⟩
end
def rowsD (l : List ByteArray) (i : Nat) : List D := [.str (l.getD i ⟨#[]⟩)]
theorem rowsD_snoc (l : List ByteArray) (x : ByteArray) {i : Nat} (h : i < l.length) : rowsD (l ++ [x]) i = rowsD l i := by
  unfold rowsD
  rw [List.getD_eq_getElem?_getD, List.getD_eq_getElem?_getD, List.getElem?_append_left h]
def rsL (ini : List ByteArray) (lst : ByteArray) (k : Nat) (h : Nat → Nat) : List (Nat × D) := [(2, .bx 2 (h 2) 0), (5, .sl 1 (ini.length + 1) (rowsD (ini ++ [lst]))), (6, .int .i64 (ini.length : Int)), (21, .sl 1 ini.length (rowsD ini)), (22, .int .i64 (ini.length : Int)), (23, .int .i64 (k : Int))]
theorem fin_conv {X : Ctx} {S : St} {l : List D} {c : Convoy} {a b : Int} (hZ : X.Z = Z0) (e2 : S.ev X (.tmp 2) = .bx 2 (S.γ 2) 0) (e3 : S.ev X (.tmp 3) = .int .i64 a) (e4 : S.ev X (.tmp 4) = .int .i64 b) (s2 : S.σ 2 = .box l) (hl : NilL l (encD .Convoy c)) : FinN X [.cell 2 25, .tmp 3, .tmp 4] (.tup [.agg (encD .Convoy c), .int .i64 a, .int .i64 b]) .ret S := by
  have hw := wk_nilbox (X := X) (S := S) 2 (l := l) (l' := encD .Convoy c) s2 hl
  exact ⟨_, [.agg (encD .Convoy c), .int .i64 a, .int .i64 b], hw, ⟨rv_A (l := encD .Convoy c) (S := ⟨S.ρ, S.γ, upd S.σ 2 (.box (encD .Convoy c))⟩) e2 rfl rfl (by rw [hZ]; rfl) rfl rfl rfl, rv_I e3, rv_I e4, trivial⟩, fun _ _ _ _ q => q⟩
theorem nil_zero : NilL [.int .i64 0, .int .i64 0, .int .i64 0, .nil] (encD .Convoy zeroC) := ⟨.inl rfl, .inl rfl, .inl rfl, .inr ⟨rfl, _, _, rfl⟩, trivial⟩
theorem endW {X : Ctx} {S : St} {ini : List ByteArray} {lst : ByteArray} {k' : Nat} {c' : Convoy} {P M : Prop} (h : ∃ S'', Wk X S S'' ∧ S''.ρ = S.ρ ∧ (∀ s, s < 100 → S''.γ s = S.γ s) ∧ AllE S''.σ (osG c' S''.γ)) (hk : k' ≠ 0) (hr : AllE S.ρ (rsL ini lst k' S.γ)) (hp : P) (hm : M) :
    ∃ S'', P ∧ M ∧ Wk X S S'' ∧ MatchF S'' (rsL ini lst k' S''.γ) (osR (k', c') S''.γ) bg0 := by
  obtain ⟨S'', h1, h2, h3, h4⟩ := h
  refine ⟨S'', hp, hm, h1, ?_, ?_, fun _ _ => .inl rfl⟩
  · rw [h2]
    unfold rsL at hr ⊢
    rw [h3 2 (by decide)]; exact hr
  · rw [show osR (k', c') S''.γ = osG c' S''.γ from if_neg hk]; exact h4
theorem c20 {text : ByteArray} {c : Convoy} {row e : Int} (h : readF text = some (c, row, e)) : Contract Z0 20 [.str text] (.tup [.agg (encD .Convoy c), .int .i64 row, .int .i64 e]) := by
  unfold readF at h
  refine contract_introN (fn := Tryd.f20) Tryd.func20 rfl (by kernel_rfl) rfl (PureL.cons (.str _) PureL.nil) (.tup _ (PureL.cons (.agg _ (encD_pure _ _)) (PureL.cons (.int _ _) (PureL.cons (.int _ _) PureL.nil)))) ?_
  intro w κ
  cases hsz : decide ((text.size : Int) > 20000) with
  | true =>
    rw [hsz] at h
    cases h
    repeat' (first
    | (apply WL_q; apply Eq.refl; apply Eq.refl; apply q_mvY; apply Eq.refl; apply Eq.refl)
    | (apply WL_q; apply Eq.refl; apply Eq.refl; apply q_lenS; apply Eq.refl; apply Eq.refl; apply Eq.refl; exact Tryd.underlying9)
    | (apply WL_q; apply Eq.refl; apply Eq.refl; apply q_cmpB; apply Eq.refl; apply Eq.refl; apply Eq.refl; apply Eq.refl; exact hsz)
    | (apply WL_q; apply Eq.refl; apply Eq.refl; (first | (apply q_mvI <;> apply Eq.refl) | (apply q_asI <;> apply Eq.refl) | (apply q_mvB <;> apply Eq.refl) | (apply q_not <;> apply Eq.refl) | (apply q_ldr <;> apply Eq.refl) | (apply q_arith <;> (first | apply Eq.refl | omega)) | (apply q_len <;> apply Eq.refl) | (apply q_pkT <;> apply Eq.refl) | (apply q_pkF <;> apply Eq.refl) | (apply q_ia <;> (first | apply Eq.refl | omega)) | (apply q_ldba <;> apply Eq.refl) | (apply q_bld <;> apply Eq.refl) | (apply q_mvS <;> apply Eq.refl) | (apply q_asS <;> apply Eq.refl)))
    | apply W_seq
    | apply W_region
    | apply T_normal
    | apply WL_nil
    | apply T_exit
    | apply T_ret
    | apply B_normal
    | apply B_ret
    | apply B_exit_eq
    | apply W_skip
    | apply W_exit
    | apply W_ret
    | apply W_block
    | (apply W_condT; apply Eq.refl)
    | (apply W_condF; apply Eq.refl)
    | (apply WL_n; apply Eq.refl; (first | (apply n_alloc <;> apply Eq.refl) | (apply n_stb <;> (first | apply Eq.refl | (intro _ e; cases e)))))
    | (apply WL_yes; apply Eq.refl; apply Eq.refl; apply Eq.refl))
    exact fin_conv (c := zeroC) rfl rfl rfl rfl rfl nil_zero
  | false =>
    rw [hsz] at h
    obtain ⟨ho, h⟩ := chk_some h
    split at h
    · cases h
    rename_i lst hl
    obtain ⟨hm, h⟩ := chk_some h
    have hm := of_decide_eq_true hm
    obtain ⟨ini, hini⟩ := List.getLast?_eq_some_iff.1 hl
    have cw : Contract Z0 49 [.str text, .str bNl] (.sl 1 (ini.length + 1) (rowsD (ini ++ [lst]))) := by
      have := Tx.c49 text bNl ho
      rw [hini] at this
      have this : Contract Z0 49 [.str text, .str bNl] (.sl 1 (ini ++ [lst]).length (rowsD (ini ++ [lst]))) := this
      rw [List.length_append] at this
      exact this
    rw [hini] at h hm
    rw [List.dropLast_concat, List.length_append, show ini.length + [lst].length - 1 = ini.length from rfl] at h
    rw [List.length_append] at hm
    have hm : ini.length + 1 ≤ 1000000 := hm
    have hsub : ((ini.length + 1 : Nat) : Int) - 1 = (ini.length : Int) := by omega
    clear hini hl ho
    repeat' (first
    | (apply WL_q; apply Eq.refl; apply Eq.refl; apply q_mvY; apply Eq.refl; apply Eq.refl)
    | (apply WL_q; apply Eq.refl; apply Eq.refl; apply q_lenS; apply Eq.refl; apply Eq.refl; apply Eq.refl; exact Tryd.underlying9)
    | (apply WL_q; apply Eq.refl; apply Eq.refl; apply q_cmpB; apply Eq.refl; apply Eq.refl; apply Eq.refl; apply Eq.refl; exact hsz)
    | (apply WL_q; apply Eq.refl; apply Eq.refl; refine q_arithB rfl rfl rfl rfl ?_ ?_ hsub; omega; omega)
    | (apply WL_q; apply Eq.refl; apply Eq.refl; refine q_slF (i := 0) (j := ini.length) (f' := rowsD ini) rfl rfl (.inl ⟨rfl, rfl⟩) (.inr ⟨_, rfl, rfl⟩) (by omega) (by omega) rfl rfl rfl rfl rfl (fun k hk => by rw [Nat.zero_add]; exact (rowsD_snoc ini lst hk).symm))
    | (apply WL_q; apply Eq.refl; apply Eq.refl; (first | (apply q_mvI <;> apply Eq.refl) | (apply q_asI <;> apply Eq.refl) | (apply q_mvB <;> apply Eq.refl) | (apply q_not <;> apply Eq.refl) | (apply q_ldr <;> apply Eq.refl) | (apply q_arith <;> (first | apply Eq.refl | omega)) | (apply q_len <;> apply Eq.refl) | (apply q_pkT <;> apply Eq.refl) | (apply q_pkF <;> apply Eq.refl) | (apply q_ia <;> (first | apply Eq.refl | omega)) | (apply q_ldba <;> apply Eq.refl) | (apply q_bld <;> apply Eq.refl) | (apply q_mvS <;> apply Eq.refl) | (apply q_asS <;> apply Eq.refl)))
    | apply W_seq
    | apply W_region
    | apply T_normal
    | apply WL_nil
    | apply T_exit
    | apply T_ret
    | apply B_normal
    | apply B_ret
    | apply B_exit_eq
    | apply W_skip
    | apply W_exit
    | apply W_ret
    | apply W_block
    | (apply W_condT; apply Eq.refl)
    | (apply W_condF; apply Eq.refl)
    | (apply WL_call; apply Eq.refl; apply Eq.refl; rotate_left 1; apply Eq.refl; rotate_right 1; exact (cw); apply Eq.refl)
    | (apply WL_n; apply Eq.refl; (first | (apply n_alloc <;> apply Eq.refl) | (apply n_stb <;> (first | apply Eq.refl | (intro _ e; cases e)))))
    | (apply WL_yes; apply Eq.refl; apply Eq.refl; apply Eq.refl))
    refine W_loopF (α := Nat × Convoy) (fun x h => rsL ini lst x.1 h) osR (fun _ _ => bg0) (fun x => x.1 ≤ ini.length ∧ (x.1 = 0 → x.2 = zeroC) ∧ x.2.Trucks.length ≤ x.1 ∧ (lastH x.2.Trucks).length ≤ x.1 ∧ (readL (ini.drop x.1) x.1 x.2).bind (readT ini.length lst) = some (c, row, e)) (fun x => ini.length - x.1) (0, zeroC) ⟨Nat.zero_le _, fun _ => rfl, Nat.le_refl _, Nat.le_refl _, h⟩ ⟨⟨rfl, rfl, rfl, rfl, rfl, rfl, trivial⟩, ⟨rfl, trivial⟩, fun _ _ => .inl rfl⟩ ?_
    clear h
    rintro ⟨k, x⟩ hh ⟨hk, hz, hb1, hb2, hr⟩
    simp only at hk hz hb1 hb2 hr ⊢
    by_cases hkn : k = ini.length
    · rw [show ini.drop k = [] by rw [hkn]; exact List.drop_length] at hr
      have hr : readT ini.length lst (.ok x) = some (c, row, e) := hr
      have hge : decide ((k : Int) < (ini.length : Int)) = false := decide_eq_false (by omega)
      have hB : Wk (Ctx.plain Z0 Tryd.f20.ntmps w κ none) (mkF (rsL ini lst k hh) (osR (k, x) hh) hh bg0) (mkF (rsL ini lst k hh) (osB x) hh bg0) := by
        by_cases hk0 : k = 0
        · rw [hz hk0, show osR (k, zeroC) hh = osZ from if_pos hk0]; exact wk_zero
        · rw [show osR (k, x) hh = osG x hh from if_neg hk0]; exact (wk_trk fun _ _ => rfl).trans (wk_bad fun _ _ => rfl)
      refine W_wk hB ?_
      unfold readT at hr
      simp only at hr
      by_cases hz0 : ini.length = 0
      · rw [if_pos hz0] at hr
        cases hr
        have hn0 : ((ini.length : Int) == 0) = true := by rw [hz0]; rfl
        repeat' (first
    | (apply WL_q; apply Eq.refl; apply Eq.refl; apply q_mvY; apply Eq.refl; apply Eq.refl)
    | (apply WL_q; apply Eq.refl; apply Eq.refl; apply q_cmpB; apply Eq.refl; apply Eq.refl; apply Eq.refl; apply Eq.refl; (first | exact hge | exact hn0))
    | (apply WL_noE; apply Eq.refl; apply Eq.refl; apply Eq.refl; apply Eq.refl; apply Eq.refl)
    | (apply WL_q; apply Eq.refl; apply Eq.refl; (first | (apply q_mvI <;> apply Eq.refl) | (apply q_asI <;> apply Eq.refl) | (apply q_mvB <;> apply Eq.refl) | (apply q_not <;> apply Eq.refl) | (apply q_ldr <;> apply Eq.refl) | (apply q_arith <;> (first | apply Eq.refl | omega)) | (apply q_len <;> apply Eq.refl) | (apply q_pkT <;> apply Eq.refl) | (apply q_pkF <;> apply Eq.refl) | (apply q_ia <;> (first | apply Eq.refl | omega)) | (apply q_ldba <;> apply Eq.refl) | (apply q_bld <;> apply Eq.refl) | (apply q_mvS <;> apply Eq.refl) | (apply q_asS <;> apply Eq.refl)))
    | apply W_seq
    | apply W_region
    | apply T_normal
    | apply WL_nil
    | apply T_exit
    | apply T_ret
    | apply B_normal
    | apply B_ret
    | apply B_exit_eq
    | apply W_skip
    | apply W_exit
    | apply W_ret
    | apply W_block
    | (apply W_condT; apply Eq.refl)
    | (apply W_condF; apply Eq.refl)
    | (apply WL_n; apply Eq.refl; (first | (apply n_alloc <;> apply Eq.refl) | (apply n_stb <;> (first | apply Eq.refl | (intro _ e; cases e)))))
    | (apply WL_yes; apply Eq.refl; apply Eq.refl; apply Eq.refl))
        exact fin_conv (c := zeroC) rfl rfl rfl rfl rfl nil_zero
      · rw [if_neg hz0] at hr
        have hn0 : ((ini.length : Int) == 0) = false := by simpa using hz0
        have hgl : (ini ++ [lst]).getD ini.length ⟨#[]⟩ = lst := by simp [List.getD_eq_getElem?_getD]
        cases hl : eqB lst ⟨#[]⟩ with
        | false =>
          rw [hl] at hr
          cases hr
          have hls : (!(((ini ++ [lst]).getD ini.length ⟨#[]⟩).toList == (⟨#[]⟩ : ByteArray).toList)) = true := by rw [hgl]; unfold eqB at hl; rw [hl]; rfl
          repeat' (first
    | (apply WL_q; apply Eq.refl; apply Eq.refl; apply q_mvY; apply Eq.refl; apply Eq.refl)
    | (apply WL_q; apply Eq.refl; apply Eq.refl; apply q_cmpB; apply Eq.refl; apply Eq.refl; apply Eq.refl; apply Eq.refl; (first | exact hge | exact hn0))
    | (apply WL_q; apply Eq.refl; apply Eq.refl; apply q_neSB; apply Eq.refl; apply Eq.refl; apply Eq.refl; exact hls)
    | (apply WL_noE; apply Eq.refl; apply Eq.refl; apply Eq.refl; apply Eq.refl; apply Eq.refl)
    | (apply WL_q; apply Eq.refl; apply Eq.refl; (first | (apply q_mvI <;> apply Eq.refl) | (apply q_asI <;> apply Eq.refl) | (apply q_mvB <;> apply Eq.refl) | (apply q_not <;> apply Eq.refl) | (apply q_ldr <;> apply Eq.refl) | (apply q_arith <;> (first | apply Eq.refl | omega)) | (apply q_len <;> apply Eq.refl) | (apply q_pkT <;> apply Eq.refl) | (apply q_pkF <;> apply Eq.refl) | (apply q_ia <;> (first | apply Eq.refl | omega)) | (apply q_ldba <;> apply Eq.refl) | (apply q_bld <;> apply Eq.refl) | (apply q_mvS <;> apply Eq.refl) | (apply q_asS <;> apply Eq.refl)))
    | apply W_seq
    | apply W_region
    | apply T_normal
    | apply WL_nil
    | apply T_exit
    | apply T_ret
    | apply B_normal
    | apply B_ret
    | apply B_exit_eq
    | apply W_skip
    | apply W_exit
    | apply W_ret
    | apply W_block
    | (apply W_condT; apply Eq.refl)
    | (apply W_condF; apply Eq.refl)
    | (apply WL_n; apply Eq.refl; (first | (apply n_alloc <;> apply Eq.refl) | (apply n_stb <;> (first | apply Eq.refl | (intro _ e; cases e)))))
    | (apply WL_yes; apply Eq.refl; apply Eq.refl; apply Eq.refl))
          exact fin_conv (c := zeroC) rfl rfl rfl rfl rfl nil_zero
        | true =>
          rw [hl] at hr
          have hls : (!(((ini ++ [lst]).getD ini.length ⟨#[]⟩).toList == (⟨#[]⟩ : ByteArray).toList)) = false := by rw [hgl]; unfold eqB at hl; rw [hl]; rfl
          obtain ⟨e0, hp, hr⟩ := Option.bind_eq_some_iff.1 hr
          have cp := c13 hp
          cases hbe : (e0 != 0) with
          | true =>
            rw [hbe] at hr
            cases hr
            repeat' (first
    | (apply WL_q; apply Eq.refl; apply Eq.refl; apply q_mvY; apply Eq.refl; apply Eq.refl)
    | (apply WL_q; apply Eq.refl; apply Eq.refl; apply q_cmpB; apply Eq.refl; apply Eq.refl; apply Eq.refl; apply Eq.refl; (first | exact hge | exact hn0 | exact hbe))
    | (apply WL_q; apply Eq.refl; apply Eq.refl; apply q_neSB; apply Eq.refl; apply Eq.refl; apply Eq.refl; exact hls)
    | (apply WL_noE; apply Eq.refl; apply Eq.refl; apply Eq.refl; apply Eq.refl; apply Eq.refl)
    | (apply WL_q; apply Eq.refl; apply Eq.refl; (first | (apply q_mvI <;> apply Eq.refl) | (apply q_asI <;> apply Eq.refl) | (apply q_mvB <;> apply Eq.refl) | (apply q_not <;> apply Eq.refl) | (apply q_ldr <;> apply Eq.refl) | (apply q_arith <;> (first | apply Eq.refl | omega)) | (apply q_len <;> apply Eq.refl) | (apply q_pkT <;> apply Eq.refl) | (apply q_pkF <;> apply Eq.refl) | (apply q_ia <;> (first | apply Eq.refl | omega)) | (apply q_ldba <;> apply Eq.refl) | (apply q_bld <;> apply Eq.refl) | (apply q_mvS <;> apply Eq.refl) | (apply q_asS <;> apply Eq.refl)))
    | apply W_seq
    | apply W_region
    | apply T_normal
    | apply WL_nil
    | apply T_exit
    | apply T_ret
    | apply B_normal
    | apply B_ret
    | apply B_exit_eq
    | apply W_skip
    | apply W_exit
    | apply W_ret
    | apply W_block
    | (apply W_condT; apply Eq.refl)
    | (apply W_condF; apply Eq.refl)
    | (apply WL_call; apply Eq.refl; apply Eq.refl; rotate_left 1; apply Eq.refl; rotate_right 1; exact (cp); apply Eq.refl)
    | (apply WL_n; apply Eq.refl; (first | (apply n_alloc <;> apply Eq.refl) | (apply n_stb <;> (first | apply Eq.refl | (intro _ e; cases e)))))
    | (apply WL_yes; apply Eq.refl; apply Eq.refl; apply Eq.refl))
            exact fin_conv (c := zeroC) rfl rfl rfl rfl rfl nil_zero
          | false =>
            rw [hbe] at hr
            cases hr
            repeat' (first
    | (apply WL_q; apply Eq.refl; apply Eq.refl; apply q_mvY; apply Eq.refl; apply Eq.refl)
    | (apply WL_q; apply Eq.refl; apply Eq.refl; apply q_cmpB; apply Eq.refl; apply Eq.refl; apply Eq.refl; apply Eq.refl; (first | exact hge | exact hn0 | exact hbe))
    | (apply WL_q; apply Eq.refl; apply Eq.refl; apply q_neSB; apply Eq.refl; apply Eq.refl; apply Eq.refl; exact hls)
    | (apply WL_noE; apply Eq.refl; apply Eq.refl; apply Eq.refl; apply Eq.refl; apply Eq.refl)
    | (apply WL_q; apply Eq.refl; apply Eq.refl; (first | (apply q_mvI <;> apply Eq.refl) | (apply q_asI <;> apply Eq.refl) | (apply q_mvB <;> apply Eq.refl) | (apply q_not <;> apply Eq.refl) | (apply q_ldr <;> apply Eq.refl) | (apply q_arith <;> (first | apply Eq.refl | omega)) | (apply q_len <;> apply Eq.refl) | (apply q_pkT <;> apply Eq.refl) | (apply q_pkF <;> apply Eq.refl) | (apply q_ia <;> (first | apply Eq.refl | omega)) | (apply q_ldba <;> apply Eq.refl) | (apply q_bld <;> apply Eq.refl) | (apply q_mvS <;> apply Eq.refl) | (apply q_asS <;> apply Eq.refl)))
    | apply W_seq
    | apply W_region
    | apply T_normal
    | apply WL_nil
    | apply T_exit
    | apply T_ret
    | apply B_normal
    | apply B_ret
    | apply B_exit_eq
    | apply W_skip
    | apply W_exit
    | apply W_ret
    | apply W_block
    | (apply W_condT; apply Eq.refl)
    | (apply W_condF; apply Eq.refl)
    | (apply WL_call; apply Eq.refl; apply Eq.refl; rotate_left 1; apply Eq.refl; rotate_right 1; exact (cp); apply Eq.refl)
    | (apply WL_n; apply Eq.refl; (first | (apply n_alloc <;> apply Eq.refl) | (apply n_stb <;> (first | apply Eq.refl | (intro _ e; cases e)))))
    | (apply WL_yes; apply Eq.refl; apply Eq.refl; apply Eq.refl))
            exact fin_conv (c := c) rfl rfl rfl rfl rfl ⟨.inl rfl, .inl rfl, .inl rfl, .inl rfl, trivial⟩
    have hlt : decide ((k : Int) < (ini.length : Int)) = true := decide_eq_true (by omega)
    have hkl : k < ini.length := by omega
    rw [List.drop_eq_getElem_cons hkl] at hr
    have hrow : ini[k] = ini.getD k ⟨#[]⟩ := by rw [List.getD_eq_getElem?_getD, List.getElem?_eq_getElem hkl]; rfl
    rw [hrow] at hr
    unfold readL at hr
    obtain ⟨res, hr1, hr2⟩ := Option.bind_eq_some_iff.1 hr
    obtain ⟨ho, hr1⟩ := chk_some hr1
    cases hg : goodRow k x (Tx.splitV (ini.getD k ⟨#[]⟩) bSp) with
    | none =>
      rw [hg] at hr1
      obtain ⟨⟨y, b⟩, ht, hr1⟩ := Option.bind_eq_some_iff.1 hr1
      cases b with
      | true => cases hr1
      | false =>
        cases hr1
        cases hr2
        have cb := take_bad ht
        have hB : Wk (Ctx.plain Z0 Tryd.f20.ntmps w κ none) (mkF (rsL ini lst k hh) (osR (k, x) hh) hh bg0) (mkF (rsL ini lst k hh) (osB x) hh bg0) := by
          by_cases hk0 : k = 0
          · rw [hz hk0, show osR (k, zeroC) hh = osZ from if_pos hk0]; exact wk_zero
          · rw [show osR (k, x) hh = osG x hh from if_neg hk0]; exact (wk_trk fun _ _ => rfl).trans (wk_bad fun _ _ => rfl)
        refine W_wk hB ?_
        repeat' (first
    | (apply WL_q; apply Eq.refl; apply Eq.refl; apply q_mvY; apply Eq.refl; apply Eq.refl)
    | (apply WL_q; apply Eq.refl; apply Eq.refl; apply q_asY; apply Eq.refl; apply Eq.refl)
    | (apply WL_q; apply Eq.refl; apply Eq.refl; apply q_cmpB; apply Eq.refl; apply Eq.refl; apply Eq.refl; apply Eq.refl; exact hlt)
    | (refine WL_callR (xs := [.tmp 28, .tmp 29]) rfl rfl rfl rfl rfl cb rfl rfl ?_)
    | (apply WL_q; apply Eq.refl; apply Eq.refl; (first | (apply q_mvI <;> apply Eq.refl) | (apply q_asI <;> apply Eq.refl) | (apply q_mvB <;> apply Eq.refl) | (apply q_not <;> apply Eq.refl) | (apply q_ldr <;> apply Eq.refl) | (apply q_arith <;> (first | apply Eq.refl | omega)) | (apply q_len <;> apply Eq.refl) | (apply q_pkT <;> apply Eq.refl) | (apply q_pkF <;> apply Eq.refl) | (apply q_ia <;> (first | apply Eq.refl | omega)) | (apply q_ldba <;> apply Eq.refl) | (apply q_bld <;> apply Eq.refl) | (apply q_mvS <;> apply Eq.refl) | (apply q_asS <;> apply Eq.refl)))
    | apply W_seq
    | apply W_region
    | apply T_normal
    | apply WL_nil
    | apply T_exit
    | apply T_ret
    | apply B_normal
    | apply B_ret
    | apply B_exit_eq
    | apply W_skip
    | apply W_exit
    | apply W_ret
    | apply W_block
    | (apply W_condT; apply Eq.refl)
    | (apply W_condF; apply Eq.refl)
    | (apply WL_n; apply Eq.refl; (first | (apply n_alloc <;> apply Eq.refl) | (apply n_stb <;> (first | apply Eq.refl | (intro _ e; cases e)))))
    | (apply WL_yes; apply Eq.refl; apply Eq.refl; apply Eq.refl))
        exact fin_conv (c := zeroC) rfl rfl rfl rfl rfl nil_zero
    | some c' =>
      rw [hg] at hr1
      have hG := good_of ho hg
      have hr3 : (readL (ini.drop (k + 1)) (k + 1) c').bind (readT ini.length lst) = some (c, row, e) := Option.bind_eq_some_iff.2 ⟨res, hr1, hr2⟩
      cases hG with
      | road w0 r a b g hk0 hw h0 hn =>
        subst hk0
        rw [show osR (0, x) hh = osZ from rfl]
        have cr := take_road hw h0 hn
        repeat' (first
    | (apply WL_q; apply Eq.refl; apply Eq.refl; apply q_mvY; apply Eq.refl; apply Eq.refl)
    | (apply WL_q; apply Eq.refl; apply Eq.refl; apply q_asY; apply Eq.refl; apply Eq.refl)
    | (apply WL_q; apply Eq.refl; apply Eq.refl; apply q_cmpB; apply Eq.refl; apply Eq.refl; apply Eq.refl; apply Eq.refl; exact hlt)
    | (refine WL_callR (xs := [.tmp 28, .tmp 29]) rfl rfl rfl rfl rfl cr rfl rfl ?_)
    | (apply WL_q; apply Eq.refl; apply Eq.refl; (first | (apply q_mvI <;> apply Eq.refl) | (apply q_asI <;> apply Eq.refl) | (apply q_mvB <;> apply Eq.refl) | (apply q_not <;> apply Eq.refl) | (apply q_ldr <;> apply Eq.refl) | (apply q_arith <;> (first | apply Eq.refl | omega)) | (apply q_len <;> apply Eq.refl) | (apply q_pkT <;> apply Eq.refl) | (apply q_pkF <;> apply Eq.refl) | (apply q_ia <;> (first | apply Eq.refl | omega)) | (apply q_ldba <;> apply Eq.refl) | (apply q_bld <;> apply Eq.refl) | (apply q_mvS <;> apply Eq.refl) | (apply q_asS <;> apply Eq.refl)))
    | apply W_seq
    | apply W_region
    | apply T_normal
    | apply WL_nil
    | apply T_exit
    | apply T_ret
    | apply B_normal
    | apply B_ret
    | apply B_exit_eq
    | apply W_skip
    | apply W_exit
    | apply W_ret
    | apply W_block
    | (apply W_condT; apply Eq.refl)
    | (apply W_condF; apply Eq.refl)
    | (apply WL_n; apply Eq.refl; (first | (apply n_alloc <;> apply Eq.refl) | (apply n_stb <;> (first | apply Eq.refl | (intro _ e; cases e)))))
    | (apply WL_yes; apply Eq.refl; apply Eq.refl; apply Eq.refl))
        refine ⟨(0 + 1, ⟨a, b, g, []⟩), endW (end_road (rs := []) trivial rfl rfl) (Nat.succ_ne_zero 0) ⟨rfl, rfl, rfl, rfl, rfl, rfl, trivial⟩ ⟨hkl, fun q => (by cases q), Nat.zero_le _, Nat.zero_le _, hr3⟩ ?_⟩
        show ini.length - (0 + 1) < ini.length - 0
        omega
      | truck w0 w1 r d s l h hk0 hw h0 h1 hu hd hn =>
        have cr := take_truck (a := x.Length) (b := x.Gap) (c := x.Fails) (p := (k : Int)) (ts := x.Trucks) d hw (by simp; omega) h0 h1 hu hd hn (by omega)
        rw [show osR (k, x) hh = osG x hh from if_neg hk0]
        refine W_wk (wk_trk fun _ _ => rfl) ?_
        repeat' (first
    | (apply WL_q; apply Eq.refl; apply Eq.refl; apply q_mvY; apply Eq.refl; apply Eq.refl)
    | (apply WL_q; apply Eq.refl; apply Eq.refl; apply q_asY; apply Eq.refl; apply Eq.refl)
    | (apply WL_q; apply Eq.refl; apply Eq.refl; apply q_cmpB; apply Eq.refl; apply Eq.refl; apply Eq.refl; apply Eq.refl; exact hlt)
    | (refine WL_truck (a := x.Length) (b := x.Gap) (c := x.Fails) (p := (k : Int)) (ts := x.Trucks) rfl cr rfl rfl rfl rfl rfl rfl rfl rfl ?_)
    | (apply WL_q; apply Eq.refl; apply Eq.refl; (first | (apply q_mvI <;> apply Eq.refl) | (apply q_asI <;> apply Eq.refl) | (apply q_mvB <;> apply Eq.refl) | (apply q_not <;> apply Eq.refl) | (apply q_ldr <;> apply Eq.refl) | (apply q_arith <;> (first | apply Eq.refl | omega)) | (apply q_len <;> apply Eq.refl) | (apply q_pkT <;> apply Eq.refl) | (apply q_pkF <;> apply Eq.refl) | (apply q_ia <;> (first | apply Eq.refl | omega)) | (apply q_ldba <;> apply Eq.refl) | (apply q_bld <;> apply Eq.refl) | (apply q_mvS <;> apply Eq.refl) | (apply q_asS <;> apply Eq.refl)))
    | apply W_seq
    | apply W_region
    | apply T_normal
    | apply WL_nil
    | apply T_exit
    | apply T_ret
    | apply B_normal
    | apply B_ret
    | apply B_exit_eq
    | apply W_skip
    | apply W_exit
    | apply W_ret
    | apply W_block
    | (apply W_condT; apply Eq.refl)
    | (apply W_condF; apply Eq.refl)
    | (apply WL_n; apply Eq.refl; (first | (apply n_alloc <;> apply Eq.refl) | (apply n_stb <;> (first | apply Eq.refl | (intro _ e; cases e)))))
    | (apply WL_yes; apply Eq.refl; apply Eq.refl; apply Eq.refl))
        refine ⟨(k + 1, addTruck x d s l h), endW (end_truck rfl rfl) (Nat.succ_ne_zero k) ⟨rfl, rfl, rfl, rfl, rfl, rfl, trivial⟩ ⟨hkl, fun q => absurd q (Nat.succ_ne_zero k), ?_, ?_, hr3⟩ ?_⟩
        · show (x.Trucks ++ [_]).length ≤ k + 1
          rw [List.length_append]; exact Nat.succ_le_succ hb1
        · show (lastH (x.Trucks ++ [_])).length ≤ k + 1
          rw [lastH_snoc]; exact Nat.zero_le _
        · show ini.length - (k + 1) < ini.length - k
          omega
      | hold w0 r t p q hk0 hw h0 h1 h2 hl hn =>
        obtain ⟨ts, hts⟩ := List.getLast?_eq_some_iff.1 hl
        obtain ⟨L, G, F, tr⟩ := x
        simp only at hts
        subst hts
        have hb3 : ts.length + 1 ≤ k := by simpa using hb1
        have hb4 : t.Holds.length ≤ k := by simpa [lastH_snoc] using hb2
        have cr := take_hold (a := L) (b := G) (c := F) (p := (k : Int)) (ts := ts) (t := t) (hs := t.Holds) hw (by simp; omega) h0 h1 h2 hn (by omega) (by omega)
        rw [show osR (k, ⟨L, G, F, ts ++ [t]⟩) hh = osG ⟨L, G, F, ts ++ [t]⟩ hh from if_neg hk0, osG_snoc]
        repeat' (first
    | (apply WL_q; apply Eq.refl; apply Eq.refl; apply q_mvY; apply Eq.refl; apply Eq.refl)
    | (apply WL_q; apply Eq.refl; apply Eq.refl; apply q_asY; apply Eq.refl; apply Eq.refl)
    | (apply WL_q; apply Eq.refl; apply Eq.refl; apply q_cmpB; apply Eq.refl; apply Eq.refl; apply Eq.refl; apply Eq.refl; exact hlt)
    | (refine WL_hold (a := L) (b := G) (c := F) (p := (k : Int)) (ts := ts) rfl cr rfl rfl rfl rfl rfl rfl rfl rfl rfl ?_)
    | (apply WL_q; apply Eq.refl; apply Eq.refl; (first | (apply q_mvI <;> apply Eq.refl) | (apply q_asI <;> apply Eq.refl) | (apply q_mvB <;> apply Eq.refl) | (apply q_not <;> apply Eq.refl) | (apply q_ldr <;> apply Eq.refl) | (apply q_arith <;> (first | apply Eq.refl | omega)) | (apply q_len <;> apply Eq.refl) | (apply q_pkT <;> apply Eq.refl) | (apply q_pkF <;> apply Eq.refl) | (apply q_ia <;> (first | apply Eq.refl | omega)) | (apply q_ldba <;> apply Eq.refl) | (apply q_bld <;> apply Eq.refl) | (apply q_mvS <;> apply Eq.refl) | (apply q_asS <;> apply Eq.refl)))
    | apply W_seq
    | apply W_region
    | apply T_normal
    | apply WL_nil
    | apply T_exit
    | apply T_ret
    | apply B_normal
    | apply B_ret
    | apply B_exit_eq
    | apply W_skip
    | apply W_exit
    | apply W_ret
    | apply W_block
    | (apply W_condT; apply Eq.refl)
    | (apply W_condF; apply Eq.refl)
    | (apply WL_n; apply Eq.refl; (first | (apply n_alloc <;> apply Eq.refl) | (apply n_stb <;> (first | apply Eq.refl | (intro _ e; cases e)))))
    | (apply WL_yes; apply Eq.refl; apply Eq.refl; apply Eq.refl))
        have e : addHold ⟨L, G, F, ts ++ [t]⟩ t p q = ⟨L, G, F, ts ++ [⟨t.Way, t.Start, t.Pace, t.Holds ++ [Hold.mk p q]⟩]⟩ := by unfold addHold; simp
        rw [e] at hr3
        refine ⟨(k + 1, ⟨L, G, F, ts ++ [⟨t.Way, t.Start, t.Pace, t.Holds ++ [Hold.mk p q]⟩]⟩), endW ⟨_, Wk.refl _ _, rfl, fun _ _ => rfl, end_hold rfl rfl rfl⟩ (Nat.succ_ne_zero k) ⟨rfl, rfl, rfl, rfl, rfl, rfl, trivial⟩ ⟨hkl, fun q => absurd q (Nat.succ_ne_zero k), ?_, ?_, hr3⟩ ?_⟩
        · show (ts ++ [_]).length ≤ k + 1
          rw [List.length_append]; exact Nat.le_succ_of_le hb3
        · show (lastH (ts ++ [_])).length ≤ k + 1
          rw [lastH_snoc, List.length_append]; exact Nat.succ_le_succ hb4
        · show ini.length - (k + 1) < ini.length - k
          omega
noncomputable section
def Read : ByteArray → Option (Convoy × Int × Int) := opq readF
theorem Read_eq (t : ByteArray) : Read t = readF t := by unfold Read; rw [opq_eq]
def sp20 : FnSpec iseat.toSeat := mkSpec iseat.toSeat 20 [.str] [.Convoy, .int .i64, .int .i64] false (fun a => Read a.1) (fun a x hx h h' => by
  obtain ⟨t, u⟩ := a
  obtain ⟨c, r, e⟩ := x
  replace hx : Read t = some (c, r, e) := hx
  rw [Read_eq] at hx
  have h2 := c20 hx
  have e1 : (encR [.Convoy, .int .i64, .int .i64] (c, r, e)).toD h' = .tup [.agg (encD .Convoy c), .int .i64 r, .int .i64 e] := by
    show D.tup [.agg (I.toDL h' (encC .Convoy c)), _, _] = _
    rw [toDL_enc]; rfl
  rw [e1]; exact h2) (fun h => nomatch h)
end
end Go.Proofs.Tp04
