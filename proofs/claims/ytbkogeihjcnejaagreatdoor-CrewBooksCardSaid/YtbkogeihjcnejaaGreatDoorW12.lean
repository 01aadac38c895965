/- Walks by computing: what each function of the program that the laws reach gives for what it gets, as plain Lean, and that it is so; without a condition but those that stand in each theorem. -/
import Derived.Test.YtbkogeihjcnejaaGreatDoorW1
import Derived.Test.YtbkogeihjcnejaaGreatDoorW2
import Derived.Test.YtbkogeihjcnejaaGreatDoorW3
import Derived.Test.YtbkogeihjcnejaaGreatDoorW4
import Derived.Test.YtbkogeihjcnejaaGreatDoorW5
import Derived.Test.YtbkogeihjcnejaaGreatDoorW6
import Derived.Test.YtbkogeihjcnejaaGreatDoorW7
import Derived.Test.YtbkogeihjcnejaaGreatDoorW8
import Derived.Test.YtbkogeihjcnejaaGreatDoorW9
import Derived.Test.YtbkogeihjcnejaaGreatDoorW10
import Derived.Test.YtbkogeihjcnejaaGreatDoorW11
set_option linter.all false
namespace Go.Proofs.Tp09
open Go Go.Ab
open Go.Proofs.YtbkogeihjcnejaaGreatDoor (iseat)
set_option linter.all false
set_option maxRecDepth 100000
set_option maxHeartbeats 4000000
attribute [local irreducible] W WL QOp NOp thenQ blockQ WG FQ Want WI WIL thenI blockI
noncomputable abbrev Z0 : Seat := iseat.toSeat
section
variable {X : Ctx} {S : St} {o : Oper} {T T2 : TypeId} {x y : Operand}
theorem q_cmpB {op : BinOp} {k : IntKind} {m n : Int} {b b' : Bool} (ho : o.op = .binOp op T x y T2) (hx : S.ev X x = .int k m) (hy : S.ev X y = .int k n) (hc : cmpI op m n = some b') (hb : b' = b) : QOp X o S (.bool b) := hb ▸ q_cmp ho hx hy hc
theorem q_eqSB {s t : ByteArray} {b : Bool} (ho : o.op = .binOp .eql T x y T2) (hx : S.ev X x = .str s) (hy : S.ev X y = .str t) (hb : (s.toList == t.toList) = b) : QOp X o S (.bool b) := hb ▸ q_eqS ho hx hy
end
def bDriver : ByteArray := ⟨#[100, 114, 105, 118, 101, 114]⟩
def bTurn : ByteArray := ⟨#[116, 117, 114, 110]⟩
def bEnd : ByteArray := ⟨#[101, 110, 100]⟩
def bSp : ByteArray := ⟨#[32]⟩
def eqB (s t : ByteArray) : Bool := s.toList == t.toList
abbrev wordsD (ws : List ByteArray) (i : Nat) : List D := [.str (ws.getD i ⟨#[]⟩)]
structure Words (row : ByteArray) (ws : List ByteArray) : Prop where
 ok : Tx.okS row bSp = true
 eq : Tx.splitV row bSp = ws
theorem Words.c {row : ByteArray} {ws : List ByteArray} (h : Words row ws) : Contract Z0 34 [.str row, .str bSp] (.sl 1 ws.length (wordsD ws)) := by
 have := Tx.c34 row bSp h.ok
 rw [h.eq] at this
 exact this
theorem c53 {ws : List ByteArray} {m : Int} {l : List Int} {b : Bool} (h : numbers ws m = some (l, b)) : Contract Z0 53 [.sl 1 ws.length (wordsD ws), .int .i64 m] (.tup [.sl 1 l.length (fun i => [.int .i64 (l.getD i 0)]), .bool b]) := by
 have h2 := fn_contract (Z := iseat) (ats := [.sl .str, .int .i64]) (ts := [.sl (.int .i64), .bool]) (E := E53) (fn := Tryz.f53) (c := bodyOf Tryz.f53) Tryz.func53 (by kernel_rfl) (by kernel_rfl) (by kernel_rfl) (by kernel_rfl) rfl (a := (ws, m, ())) (x := (l, b)) ((e53 itN ws m).trans ((numbers_eq ws m).symm.trans h)) zh zh
 exact h2
def q3 (i : Nat) : Nat := match i with | 0 => 0 | i + 1 => XB + (i + 1)
theorem q3_inj : ∀ i j, q3 i = q3 j → i = j
 | 0, 0, _ => rfl
 | 0, j + 1, e => by have e : 0 = 900000000 + (j + 1) := e; omega
 | i + 1, 0, e => by have e : 900000000 + (i + 1) = 0 := e; omega
 | i + 1, j + 1, e => by have e : 900000000 + (i + 1) = 900000000 + (j + 1) := e; omega
def bxR (m e s : Int) (p g : Nat) : List D := [.os p g, .int .i64 m, .int .i64 e, .int .i64 s]
def encTs (ts : List Driver) (i : Nat) : List D := encD .Driver (ts.getD i dfltDriver)
def newT (w : ByteArray) (p : Int) : List D := [.str w, .int .i64 p, .nil]
def addT (ts : List Driver) (w : ByteArray) (p : Int) (i : Nat) : List D := if i < ts.length then encTs ts i else newT w p
theorem addT_last (ts : List Driver) (w : ByteArray) (p : Int) : addT ts w p (ts.length + 0) = newT w p := if_neg (by omega)
def osT (m e s : Int) (n : Nat) (f : Nat → List D) (i : Nat) : Ab.Own := match i with | 0 => .box (bxR m e s (XB + 1) 1) | _ => .arr 27 3 n f
def mv1 (i : Nat) : Bool := Nat.beq i 1
theorem pure_T (t : Driver) : PureL (encD .Driver t) := encD_pure _ _
theorem pure_new (w : ByteArray) (p : Int) : PureL (newT w p) := PureL.cons (.str _) (PureL.cons (.int _ _) (PureL.cons .nil PureL.nil))
theorem pure_addT (ts : List Driver) (w : ByteArray) (p : Int) (i : Nat) : PureL (addT ts w p i) := by
 unfold addT
 split
 ·exact pure_T _
 ·exact pure_new _ _
theorem rn_bx {n : Nat} {g g' : Nat → Nat} (a b c : Int) (hn : 1 < n) : RnL n q3 g q3 g' (bxR a b c (XB + 1) (g 1)) (bxR a b c (XB + 1) (g' 1)) :=
 .cons _ _ _ _ (Rn.os (p := q3) (g := g) (p' := q3) (g' := g') 1 hn) (.cons _ _ _ _ (.pure _ (.int _ _)) (.cons _ _ _ _ (.pure _ (.int _ _)) (.cons _ _ _ _ (.pure _ (.int _ _)) .nil)))
theorem finT {S : St} {a b c : Int} {n : Nat} {f : Nat → List D} (g0 : S.γ 0 = 1) (s0 : S.σ 0 = .box (bxR a b c (XB + 1) (S.γ (XB + 1)))) (s1 : S.σ (XB + 1) = .arr 27 3 n f) (hf : ∀ i, i < n → PureL (f i)) :
  ∀ i, i < 2 → (mv1 i = false → S.γ (q3 i) = 1) ∧ ∃ o2, OwCv (S.σ (q3 i)) o2 ∧ OwRn 2 q3 (fun j => S.γ (q3 j)) q3 one o2 (osT a b c n f i) := by
 intro i hi
 match i, hi with
 | 0, _ => exact ⟨fun _ => g0, _, rfl_cv _, by rw [show S.σ (q3 0) = _ from s0]; exact .box _ _ (rn_bx (g := fun j => S.γ (q3 j)) (g' := one) a b c (by decide))⟩
 | 1, _ => exact ⟨fun (e : true = false) => (by cases e), _, rfl_cv _, by rw [show S.σ (q3 1) = _ from s1]; exact .arrP _ _ _ _ hf⟩
theorem go_driver {w1 : ByteArray} {r : List ByteArray} {m e s p : Int} {ts : List Driver} (h1 : eqB w1 ⟨#[]⟩ = false) (hn : numbers r 1 = some ([p], true)) (hl : ts.length ≤ 1000000) :
  ContractN Z0 31 2 q3 (osT m e s ts.length (encTs ts)) (osT m e s (ts.length + 1) (addT ts w1 p)) mv1 [.bx 0 1 0, .sl 1 (r.length + 1) (wordsD (w1 :: r))] (.bool true) := by
 have cn : Contract Z0 53 [.sl 1 r.length (wordsD r), .int .i64 1] (.tup [.sl 1 1 (fun i => [.int .i64 ([p].getD i 0)]), .bool true]) := c53 hn
 have hlen : decide (((r.length + 1 : Nat) : Int) < 1) = false := decide_eq_false (by omega)
 refine contractN_intro (fn := Tryz.f31) Tryz.func31 rfl (by kernel_rfl) rfl (fun i j _ _ e => q3_inj i j e) ?_ ?_ (.pure _ (.bool _)) ?_ ?_
 ·intro i hi E z m f ho
  match i, hi, ho with
  | 0, _, ho => cases ho
  | 1, _, _ => exact (by decide : 900000000 ≤ 900000001)
 ·intro i hi
  match i, hi with
  | 0, _ => exact .box _ _
  | 1, _ => exact .arr _ _ _ _ _ _ _ _
 ·intro i j hi hj hji hm
  match i, j, hi, hj, hji, hm with
  | 0, _, _, _, _, hm => cases hm
  | 1, 0, _, _, _, _ => exact ⟨rfl, fun v b h => h⟩
  | 1, 1, _, _, hji, _ => exact absurd rfl hji
 intro w κ bs sv
 repeat' (first
  | (apply WL_q; apply rr; apply rr; apply q_mvY; apply rr; apply rr)
  | (apply WL_q; apply rr; apply rr; apply q_eqSB; apply rr; apply rr; apply rr; exact h1)
  | (apply WL_q; apply rr; apply rr; apply q_cmpB; apply rr; apply rr; apply rr; apply rr; exact hlen)
  | (apply WL_q; apply rr; apply rr; refine q_slF (i := 1) (j := r.length + 1) (f' := wordsD r) rfl rfl (.inr ⟨_, rfl, rfl⟩) (.inl ⟨rfl, rfl⟩) (by omega) (by omega) rfl rfl rfl rfl rfl (fun k _ => by rw [Nat.add_comm]; rfl))
  | (apply WG_n; (apply want_none; apply rr); refine f_app (f' := addT ts w1 p) rfl rfl rfl rfl rfl rfl rfl rfl rfl rfl rfl rfl rfl rfl rfl ?_ ?_ rfl ?_ ?_; (show (ts.length + 1) * 48 ≤ _; omega); omega; exact (fun i hi => if_pos hi); exact (fun i hi => by rw [show i = 0 by omega]; exact addT_last _ _ _))
  | (apply WL_q; apply rr; apply rr; (first | (apply q_ldb <;> apply rr) | (apply q_fab <;> apply rr) | (apply q_mvB <;> apply rr) | (apply q_asB <;> apply rr) | (apply q_ldr <;> apply rr) | (apply q_len <;> apply rr) | (apply q_ext <;> apply rr) | (apply q_pkF <;> apply rr) | (apply q_ia <;> (first | apply rr | omega)) | (apply q_mvS <;> apply rr) | (apply q_asS <;> apply rr) | (apply q_mvX <;> apply rr) | (apply q_nck <;> apply rr) | (apply q_mvT <;> apply rr)))
  | apply W_seq
  | apply W_region
  | apply T_normal
  | apply WL_nil
  | apply W_skip
  | apply W_ret
  | (apply W_condT; apply rr)
  | (apply W_condF; apply rr)
  | (apply WL_call; apply rr; apply rr; rotate_left 1; apply rr; rotate_right 1; exact (cn); apply rr)
  | (apply WL_yes; apply rr; apply rr; apply rr)
  | apply W_regionG
  | (apply WG_nil; kernel_rfl)
  | (apply WG_q; (first | (apply want_none; apply rr) | (apply want_some; apply rr; apply rr; apply rr)); apply rr; first | (apply fq_bld <;> apply rr) | (apply fq_blda <;> apply rr) | (apply fq_fn; apply rr) | (apply fq_mf; apply rr) | (apply FQ_intro; intro _; (first | (apply q_ldb <;> apply rr) | (apply q_fab <;> apply rr) | (apply q_mvB <;> apply rr) | (apply q_asB <;> apply rr) | (apply q_ldr <;> apply rr) | (apply q_len <;> apply rr) | (apply q_ext <;> apply rr) | (apply q_pkF <;> apply rr) | (apply q_ia <;> (first | apply rr | omega)) | (apply q_mvS <;> apply rr) | (apply q_asS <;> apply rr) | (apply q_mvX <;> apply rr) | (apply q_nck <;> apply rr) | (apply q_mvT <;> apply rr))))
  | (apply WG_n; (first | (apply want_none; apply rr) | (apply want_some; apply rr; apply rr; apply rr)); (first | (apply f_stb <;> (first | apply rr | (intro _ e; cases e))) | (apply f_bsl <;> apply rr))))
 refine ⟨_, [.bool true], .bool true, Wk.refl _ _, ?_, ?_, fun _ _ _ _ h => h, .pure _ (.bool _)⟩
 ·exact finT rfl rfl rfl (fun i _ => pure_addT _ _ _ i)
 ·exact ⟨rfl, trivial⟩
def lastT (t : Driver) (p g : Nat) : List D := [.str t.Name, .int .i64 t.Skills, .os p g]
def holT (ts : List Driver) (t : Driver) (g : Nat) (i : Nat) : List D := if i = ts.length then lastT t (XB + 2) g else encTs ts i
def encHs (hs : List Turn) (i : Nat) : List D := encD .Turn (hs.getD i dfltTurn)
def osH (m e s : Int) (ts : List Driver) (t : Driver) (hs : List Turn) (i : Nat) : Ab.Own := match i with | 0 => .box (bxR m e s (XB + 1) 1) | 1 => .arr 27 3 (ts.length + 1) (holT ts t 1) | _ => .arr 75 4 hs.length (encHs hs)
def mv2 (i : Nat) : Bool := Nat.beq i 2
theorem rn_last {n : Nat} {g g' : Nat → Nat} (t : Driver) (hn : 2 < n) : RnL n q3 g q3 g' (lastT t (XB + 2) (g 2)) (lastT t (XB + 2) (g' 2)) :=
 .cons _ _ _ _ (.pure _ (.str _)) (.cons _ _ _ _ (.pure _ (.int _ _)) (.cons _ _ _ _ (Rn.os (p := q3) (g := g) (p' := q3) (g' := g') 2 hn) .nil))
theorem rn_holT {n : Nat} {g g' : Nat → Nat} (ts : List Driver) (t : Driver) (hn : 2 < n) (i : Nat) : RnL n q3 g q3 g' (holT ts t (g 2) i) (holT ts t (g' 2) i) := by
 unfold holT
 split
 ·exact rn_last t hn
 ·exact rnLp (pure_T _)
theorem finH {S : St} {a b c : Int} {ts : List Driver} {t : Driver} {hs : List Turn} {f : Nat → List D} (g0 : S.γ 0 = 1) (g1 : S.γ (XB + 1) = 1) (s0 : S.σ 0 = .box (bxR a b c (XB + 1) (S.γ (XB + 1)))) (s1 : S.σ (XB + 1) = .arr 27 3 (ts.length + 1) f) (hf : ∀ i, f i = holT ts t (S.γ (XB + 2)) i)
  (s2 : S.σ (XB + 2) = .arr 75 4 hs.length (encHs hs)) :
  ∀ i, i < 3 → (mv2 i = false → S.γ (q3 i) = 1) ∧ ∃ o2, OwCv (S.σ (q3 i)) o2 ∧ OwRn 3 q3 (fun j => S.γ (q3 j)) q3 one o2 (osH a b c ts t hs i) := by
 intro i hi
 match i, hi with
 | 0, _ => exact ⟨fun _ => g0, _, rfl_cv _, by rw [show S.σ (q3 0) = _ from s0]; exact .box _ _ (rn_bx (g := fun j => S.γ (q3 j)) (g' := one) a b c (by decide))⟩
 | 1, _ => exact ⟨fun _ => g1, _, rfl_cv _, by rw [show S.σ (q3 1) = _ from s1]; exact .arr _ _ _ _ _ (fun i _ => by rw [hf i]; exact rn_holT (g := fun j => S.γ (q3 j)) (g' := one) ts t (by decide) i)⟩
 | 2, _ => exact ⟨fun (e : true = false) => (by cases e), _, rfl_cv _, by rw [show S.σ (q3 2) = _ from s2]; exact .arrP _ _ _ _ (fun i _ => encD_pure _ _)⟩
theorem encHs_lt {hs : List Turn} {h : Turn} {i : Nat} (hi : i < hs.length) : encHs (hs ++ [h]) i = encHs hs i := by
 unfold encHs
 rw [List.getD_eq_getElem?_getD, List.getD_eq_getElem?_getD, List.getElem?_append_left hi]
theorem encHs_at (hs : List Turn) (h : Turn) : encHs (hs ++ [h]) (hs.length + 0) = encD .Turn h := by
 unfold encHs
 simp [List.getD_eq_getElem?_getD]
theorem holT_upd {ts : List Driver} {t : Driver} {g g' k : Nat} (hk : k = ts.length) (i : Nat) : updF (holT ts t g) k (lastT t (XB + 2) g') i = holT ts t g' i := by
 subst hk
 by_cases e : i = ts.length
 ·subst e; rw [updF_same]; unfold holT; rw [if_pos rfl]
 ·rw [updF_ne _ _ e]; unfold holT; rw [if_neg e, if_neg e]
theorem blk_box (l l' : List D) (v : Value) : blk (.box l) v = blk (.box l') v := by
 cases v with
 | pointer a => cases a <;> rfl
 | slice a n c => cases a <;> rfl
 | map r => cases r <;> rfl
 | _ => rfl
def mkTurn (a b c d : Int) : Turn := ⟨⟨a, b⟩, ⟨c, d⟩⟩
theorem go_turn {ws : List ByteArray} {m e s a b c d : Int} {ts : List Driver} {t : Driver} {hs : List Turn} (hn : numbers ws 4 = some ([a, b, c, d], true)) (hl : ts.length ≤ 1000000) (hk : hs.length ≤ 1000000) (hm0 : 0 ≤ m) (hm1 : m ≤ 1000000) :
  ContractN Z0 32 3 q3 (osH m e s ts t hs) (osH (m + 1) e s ts t (hs ++ [mkTurn a b c d])) mv2 [.bx 0 1 0, .sl 1 ws.length (wordsD ws)] (.bool true) := by
 have cn : Contract Z0 53 [.sl 1 ws.length (wordsD ws), .int .i64 4] (.tup [.sl 1 4 (fun i => [.int .i64 ([a, b, c, d].getD i 0)]), .bool true]) := c53 hn
 have hlen : (((ts.length + 1 : Nat) : Int) == 0) = false := by simp; omega
 have hkk : (((ts.length + 1 : Nat) : Int) - 1).toNat = ts.length := by omega
 have hcell : nth (holT ts t 1 ((((ts.length + 1 : Nat) : Int) - 1).toNat)) 2 = some (.os (XB + 2) 1) := by
  rw [hkk]; unfold holT; rw [if_pos rfl]; rfl
 have hover : ∀ x : D, x.isCell = true → overN (holT ts t 1 ((((ts.length + 1 : Nat) : Int) - 1).toNat)) 2 [x] = some [.str t.Name, .int .i64 t.Skills, x] := fun x _ => by
  rw [hkk]; unfold holT; rw [if_pos rfl]; rfl
 refine contractN_intro (fn := Tryz.f32) Tryz.func32 rfl (by kernel_rfl) rfl (fun i j _ _ e => q3_inj i j e) ?_ ?_ (.pure _ (.bool _)) ?_ ?_
 ·intro i hi E z m f ho
  match i, hi, ho with
  | 0, _, ho => cases ho
  | 1, _, _ => exact (by decide : 900000000 ≤ 900000001)
  | 2, _, _ => exact (by decide : 900000000 ≤ 900000002)
 ·intro i hi
  match i, hi with
  | 0, _ => exact .box _ _
  | 1, _ => exact .arr _ _ _ _ _ _ _ _
  | 2, _ => exact .arr _ _ _ _ _ _ _ _
 ·intro i j hi hj hji hm
  match i, j, hi, hj, hji, hm with
  | 0, _, _, _, _, hm => cases hm
  | 1, _, _, _, _, hm => cases hm
  | 2, 0, _, _, _, _ => exact ⟨rfl, fun v b h => (blk_box _ _ v).trans h⟩
  | 2, 1, _, _, _, _ => exact ⟨rfl, fun v b h => h⟩
  | 2, 2, _, _, hji, _ => exact absurd rfl hji
 intro w κ bs sv
 repeat' (first
  | (apply WL_q; apply rr; apply rr; apply q_mvY; apply rr; apply rr)
  | (apply WL_q; apply rr; apply rr; apply q_cmpB; apply rr; apply rr; apply rr; apply rr; exact hlen)
  | (apply WG_q; (first | (apply want_none; apply rr) | (apply want_some; apply rr; apply rr; apply rr)); apply rr; apply FQ_intro; intro _; apply q_ldo; apply rr; apply rr; apply rr; apply rr; apply rr; apply rr; apply rr; omega; exact hcell)
  | (apply WG_n; (apply want_none; apply rr); refine f_sto rfl rfl rfl rfl ?_ rfl rfl rfl rfl rfl (hover _ rfl) rfl; omega)
  | (apply WG_n; (apply want_none; apply rr); refine f_app (n' := (hs ++ [mkTurn a b c d]).length) (f' := encHs (hs ++ [mkTurn a b c d])) rfl rfl rfl rfl rfl rfl rfl rfl rfl rfl rfl rfl rfl rfl rfl ?_ ?_ ?_ ?_ ?_; (show (hs.length + 1) * 32 ≤ _; omega); omega; (exact List.length_append); exact (fun i hi => encHs_lt hi); exact (fun i hi => by rw [show i = 0 by omega]; exact encHs_at _ _))
  | (apply WL_q; apply rr; apply rr; (first | (apply q_ldb <;> apply rr) | (apply q_fab <;> apply rr) | (apply q_mvB <;> apply rr) | (apply q_asB <;> apply rr) | (apply q_not <;> apply rr) | (apply q_ldr <;> apply rr) | (apply q_arith <;> (first | apply rr | omega)) | (apply q_ext <;> apply rr) | (apply q_pkF <;> apply rr) | (apply q_ia <;> (first | apply rr | omega)) | (apply q_ldo <;> (first | apply rr | omega)) | (apply q_fao <;> apply rr) | (apply q_iao <;> (first | apply rr | omega)) | (apply q_leno <;> apply rr) | (apply q_mvS <;> apply rr) | (apply q_asS <;> apply rr) | (apply q_mvX <;> apply rr) | (apply q_nck <;> apply rr) | (apply q_ncko <;> apply rr) | (apply q_mvT <;> apply rr) | (apply q_mvP <;> apply rr) | (apply q_asP <;> apply rr)))
  | apply W_seq
  | apply W_region
  | apply T_normal
  | apply WL_nil
  | apply W_skip
  | apply W_ret
  | (apply W_condF; apply rr)
  | (apply WL_call; apply rr; apply rr; rotate_left 1; apply rr; rotate_right 1; exact (cn); apply rr)
  | (apply WL_n; apply rr; (first | (apply n_stb <;> (first | apply rr | (intro _ e; cases e)))))
  | (apply WL_yes; apply rr; apply rr; apply rr)
  | apply W_regionG
  | (apply WG_nil; kernel_rfl)
  | (apply WG_q; (first | (apply want_none; apply rr) | (apply want_some; apply rr; apply rr; apply rr)); apply rr; first | (apply fq_bld <;> apply rr) | (apply fq_blda <;> apply rr) | (apply fq_fn; apply rr) | (apply fq_mf; apply rr) | (apply FQ_intro; intro _; (first | (apply q_ldb <;> apply rr) | (apply q_fab <;> apply rr) | (apply q_mvB <;> apply rr) | (apply q_asB <;> apply rr) | (apply q_not <;> apply rr) | (apply q_ldr <;> apply rr) | (apply q_arith <;> (first | apply rr | omega)) | (apply q_ext <;> apply rr) | (apply q_pkF <;> apply rr) | (apply q_ia <;> (first | apply rr | omega)) | (apply q_ldo <;> (first | apply rr | omega)) | (apply q_fao <;> apply rr) | (apply q_iao <;> (first | apply rr | omega)) | (apply q_leno <;> apply rr) | (apply q_mvS <;> apply rr) | (apply q_asS <;> apply rr) | (apply q_mvX <;> apply rr) | (apply q_nck <;> apply rr) | (apply q_ncko <;> apply rr) | (apply q_mvT <;> apply rr) | (apply q_mvP <;> apply rr) | (apply q_asP <;> apply rr))))
  | (apply WG_n; (first | (apply want_none; apply rr) | (apply want_some; apply rr; apply rr; apply rr)); (first | (apply f_bsl <;> apply rr) | (apply f_sto <;> (first | apply rr | omega)))))
 refine ⟨_, [.bool true], .bool true, Wk.refl _ _, ?_, ?_, fun _ _ _ _ h => h, .pure _ (.bool _)⟩
 ·exact finH rfl rfl rfl rfl (fun i => holT_upd hkk i) rfl
 ·exact ⟨rfl, trivial⟩
end Go.Proofs.Tp09
namespace Go.Proofs.Tp09
open Go Go.Ab
open Go.Proofs.YtbkogeihjcnejaaGreatDoor (iseat)
set_option linter.all false
set_option maxRecDepth 100000
def bNl : ByteArray := ⟨#[10]⟩
def addTurn (r : Reader) (t : Driver) (q : Turn) : Reader := ⟨r.drivers.dropLast ++ [⟨t.Name, t.Skills, t.Turns ++ [q]⟩], r.turns + 1, r.end_, r.sum⟩
def addDriver (r : Reader) (w : ByteArray) (p : Int) : Reader := ⟨r.drivers ++ [⟨w, p, []⟩], r.turns, r.end_, r.sum⟩
noncomputable def goodRow (k : Nat) (r : Reader) : List ByteArray → Option Reader
 | [] => none
 | w0 :: ws =>
  bif decide (r.end_ > 0) then none else bif eqB w0 bDriver then
   (match ws with
    | w1 :: r' => bif eqB w1 ⟨#[]⟩ then none else (match numbers r' 1 with | some ([p], true) => some (addDriver r w1 p) | _ => none)
    | [] => none)
  else bif eqB w0 bTurn then
   (match r.drivers.getLast? with
    | some t => (match numbers ws 4 with | some ([a, b, c, d], true) => some (addTurn r t (mkTurn a b c d)) | _ => none)
    | none => none)
  else bif eqB w0 bEnd then (match numbers ws 1 with | some ([p], true) => some ⟨r.drivers, r.turns, (k : Int) + 1, p⟩ | _ => none)
  else none
noncomputable def no (x : Option (Reader × Bool)) : Option Unit := x.bind fun y => bif y.2 then none else some ()
noncomputable def badRow (r : Reader) : List ByteArray → Option Unit
 | [] => none
 | w0 :: ws =>
  bif eqB w0 bDriver then (bif decide (r.end_ > 0) then some () else no (driverR r ws))
  else bif eqB w0 bTurn then (bif decide (r.end_ > 0) then some () else no (turnR r ws))
  else bif eqB w0 bEnd then (bif decide (r.end_ > 0) then some () else no (endedR r ws))
  else some ()
abbrev RdR := List Driver × Int × Int
noncomputable def readL : List ByteArray → Nat → Reader → Option (Except RdR Reader)
 | [], _, r => some (.ok r)
 | row :: rows, k, r => chk (Tx.okS row bSp) (match goodRow k r (Tx.splitV row bSp) with
  | some r' => readL rows (k + 1) r'
  | none => (badRow r (Tx.splitV row bSp)).bind fun _ => some (.error ([], (k : Int) + 1, 3)))
noncomputable def readT (n : Nat) (lst : ByteArray) : Except RdR Reader → Option RdR
 | .error x => some x
 | .ok r => bif r.end_ == 0 then some ([], (n : Int) + 1, 3) else bif eqB lst ⟨#[]⟩ then
   (bif r.sum != r.turns then some ([], r.end_, 12) else (pChecks r.drivers).bind fun e => bif e != 0 then some ([], 0, e) else some (r.drivers, 0, 0)) else some ([], (n : Int) + 1, 3)
def zeroR : Reader := ⟨[], 0, 0, 0⟩
noncomputable def readF (text : ByteArray) : Option RdR :=
 bif decide ((text.size : Int) > 10000) then some ([], 0, 5) else
 chk (Tx.okS text bNl) (match (Tx.splitV text bNl).getLast? with
  | none => none
  | some lst => chk (decide ((Tx.splitV text bNl).length ≤ 1000000)) ((readL (Tx.splitV text bNl).dropLast 0 zeroR).bind (readT ((Tx.splitV text bNl).length - 1) lst)))
inductive Good (row : ByteArray) (k : Nat) (r : Reader) : Reader → Prop
 | driver (w0 w1 : ByteArray) (r' : List ByteArray) (p : Int) : decide (r.end_ > 0) = false → Words row (w0 :: w1 :: r') → eqB w0 bDriver = true → eqB w1 ⟨#[]⟩ = false → numbers r' 1 = some ([p], true) → Good row k r (addDriver r w1 p)
 | turn (w0 : ByteArray) (ws : List ByteArray) (t : Driver) (a b c d : Int) : decide (r.end_ > 0) = false → Words row (w0 :: ws) → eqB w0 bTurn = true → r.drivers.getLast? = some t → numbers ws 4 = some ([a, b, c, d], true) → Good row k r (addTurn r t (mkTurn a b c d))
 | fin (w0 : ByteArray) (ws : List ByteArray) (p : Int) : decide (r.end_ > 0) = false → Words row (w0 :: ws) → eqB w0 bEnd = true → numbers ws 1 = some ([p], true) → Good row k r ⟨r.drivers, r.turns, (k : Int) + 1, p⟩
theorem good_of {row : ByteArray} {k : Nat} {r r' : Reader} (ho : Tx.okS row bSp = true) (h : goodRow k r (Tx.splitV row bSp) = some r') : Good row k r r' := by
 generalize hw : Tx.splitV row bSp = ws at h
 unfold goodRow at h
 match ws, h, hw with
 | w0 :: ws, h, hw =>
  simp only at h
  have W : Words row (w0 :: ws) := ⟨ho, hw⟩
  cases he : decide (r.end_ > 0) with
  | true => rw [he] at h; cases h
  | false =>
   rw [he, cond_false] at h
   cases h0 : eqB w0 bDriver with
   | true =>
    rw [h0, cond_true] at h
    match ws, h, W with
    | w1 :: r', h, W =>
     simp only at h
     cases h1 : eqB w1 ⟨#[]⟩ with
     | true => rw [h1] at h; cases h
     | false =>
      rw [h1, cond_false] at h
      split at h
      ·rename_i p hn
       cases h
       exact .driver w0 w1 r' p he W h0 h1 hn
      ·cases h
   | false =>
    rw [h0, cond_false] at h
    cases h1 : eqB w0 bTurn with
    | true =>
     rw [h1, cond_true] at h
     split at h
     ·rename_i t ht
      split at h
      ·rename_i a b c d hn
       cases h
       exact .turn w0 ws t a b c d he W h1 ht hn
      ·cases h
     ·cases h
    | false =>
     rw [h1, cond_false] at h
     cases h2 : eqB w0 bEnd with
     | false => rw [h2] at h; cases h
     | true =>
      rw [h2, cond_true] at h
      split at h
      ·rename_i p hn
       cases h
       exact .fin w0 ws p he W h2 hn
      ·cases h
def verbs : List (ByteArray × Value) := [(bDriver, .func (.func 31) #[] #[]), (bTurn, .func (.func 32) #[] #[]), (bEnd, .func (.func 33) #[] #[])]
theorem bl_eq {s t : ByteArray} (h : (s.toList == t.toList) = true) : s = t := by
 rw [ByteArray.toList_eq, ByteArray.toList_eq, beq_iff_eq] at h
 obtain ⟨⟨a⟩⟩ := s
 obtain ⟨⟨b⟩⟩ := t
 simp only at h
 rw [h]
theorem bl_data (s t : ByteArray) : (s.toList == t.toList) = (s.data.toList == t.data.toList) := by rw [ByteArray.toList_eq, ByteArray.toList_eq]
theorem beq_data (s t : ByteArray) : (s == t) = (s.data == t.data) := by cases s; cases t; rfl
theorem beq_of (s t : ByteArray) : (s == t) = eqB s t := by
 rw [beq_data]
 cases h : eqB s t with
 | true => rw [bl_eq h]; exact beq_self_eq_true _
 | false =>
  cases h2 : (s.data == t.data) with
  | false => rfl
  | true =>
   have h3 := eq_of_beq h2
   unfold eqB at h
   rw [ByteArray.toList_eq, ByteArray.toList_eq, h3, beq_self_eq_true] at h
   cases h
theorem verb_at {w0 : ByteArray} {f : Nat} {b : ByteArray} (hb : (b = bDriver ∧ f = 31) ∨ (b = bTurn ∧ f = 32) ∨ (b = bEnd ∧ f = 33)) (h : eqB w0 b = true) : ∃ j, sFind verbs w0 = some (j, .func (.func f) #[] #[]) := by
 rw [bl_eq h]
 rcases hb with ⟨rfl, rfl⟩ | ⟨rfl, rfl⟩ | ⟨rfl, rfl⟩
 ·exact ⟨0, rfl⟩
 ·exact ⟨1, rfl⟩
 ·exact ⟨2, rfl⟩
theorem verb_no {w0 : ByteArray} (h0 : eqB w0 bDriver = false) (h1 : eqB w0 bTurn = false) (h2 : eqB w0 bEnd = false) : sFind verbs w0 = none := by
 simp [sFind, verbs, beq_of, h0, h1, h2]
theorem c31 {r r' : Reader} {ws : List ByteArray} {b : Bool} (h : driverR r ws = some (r', b)) : ContractR Z0 31 (encD .Reader r) (encD .Reader r') [.sl 1 ws.length (wordsD ws)] (.bool b) := by
 have h2 := fn_contractR (Z := iseat) (bt := .Reader) (ats := [.sl .str]) (ts := [.bool]) (E := E31) (fn := Tryz.f31) (c := bodyOf Tryz.f31) Tryz.func31 (by kernel_rfl) (by kernel_rfl) (by kernel_rfl) (by kernel_rfl) rfl (b := r) (a := (ws, ())) (y := r') (x := b) ((e31 itN r ws).trans ((driverR_eq r ws).symm.trans h)) zh
 rw [toDL_enc, toDL_enc] at h2
 exact h2
theorem c32 {r r' : Reader} {ws : List ByteArray} {b : Bool} (h : turnR r ws = some (r', b)) : ContractR Z0 32 (encD .Reader r) (encD .Reader r') [.sl 1 ws.length (wordsD ws)] (.bool b) := by
 have h2 := fn_contractR (Z := iseat) (bt := .Reader) (ats := [.sl .str]) (ts := [.bool]) (E := E32) (fn := Tryz.f32) (c := bodyOf Tryz.f32) Tryz.func32 (by kernel_rfl) (by kernel_rfl) (by kernel_rfl) (by kernel_rfl) rfl (b := r) (a := (ws, ())) (y := r') (x := b) ((e32 itN r ws).trans ((turnR_eq r ws).symm.trans h)) zh
 rw [toDL_enc, toDL_enc] at h2
 exact h2
theorem c33 {r r' : Reader} {ws : List ByteArray} {b : Bool} (h : endedR r ws = some (r', b)) : ContractR Z0 33 (encD .Reader r) (encD .Reader r') [.sl 1 ws.length (wordsD ws)] (.bool b) := by
 have h2 := fn_contractR (Z := iseat) (bt := .Reader) (ats := [.sl .str]) (ts := [.bool]) (E := E33) (fn := Tryz.f33) (c := bodyOf Tryz.f33) Tryz.func33 (by kernel_rfl) (by kernel_rfl) (by kernel_rfl) (by kernel_rfl) rfl (b := r) (a := (ws, ())) (y := r') (x := b) ((e33 itN r ws).trans ((endedR_eq r ws).symm.trans h)) zh
 rw [toDL_enc, toDL_enc] at h2
 exact h2
theorem ended_ok {r : Reader} {ws : List ByteArray} {p : Int} (h : numbers ws 1 = some ([p], true)) : endedR r ws = some (⟨r.drivers, r.turns, r.end_, p⟩, true) := by
 rw [endedR_eq]; unfold endedR'; rw [h]; rfl
theorem no_ok {x : Option (Reader × Bool)} {u : Unit} (h : no x = some u) : ∃ r', x = some (r', false) := by
 obtain ⟨⟨r', b⟩, h1, h2⟩ := Option.bind_eq_some_iff.1 h
 cases b with
 | true => cases h2
 | false => exact ⟨r', h1⟩
inductive Bad (r : Reader) (w0 : ByteArray) (ws : List ByteArray) : Prop
 | none : sFind verbs w0 = none → Bad r w0 ws
 | late (j f : Nat) : sFind verbs w0 = some (j, .func (.func f) #[] #[]) → decide (r.end_ > 0) = true → Bad r w0 ws
 | no (j f : Nat) (r' : Reader) : sFind verbs w0 = some (j, .func (.func f) #[] #[]) → decide (r.end_ > 0) = false → ContractR Z0 f (encD .Reader r) (encD .Reader r') [.sl 1 ws.length (wordsD ws)] (.bool false) → Bad r w0 ws
theorem bad_of {r : Reader} {w0 : ByteArray} {ws : List ByteArray} {u : Unit} (h : badRow r (w0 :: ws) = some u) : Bad r w0 ws := by
 unfold badRow at h
 simp only at h
 cases h0 : eqB w0 bDriver with
 | true =>
  obtain ⟨j, hj⟩ := verb_at (.inl ⟨rfl, rfl⟩) h0
  cases he : decide (r.end_ > 0) with
  | true => exact .late j 31 hj he
  | false =>
   rw [h0, he] at h
   obtain ⟨r', h⟩ := no_ok h
   exact .no j 31 r' hj he (c31 h)
 | false =>
  cases h1 : eqB w0 bTurn with
  | true =>
   obtain ⟨j, hj⟩ := verb_at (.inr (.inl ⟨rfl, rfl⟩)) h1
   cases he : decide (r.end_ > 0) with
   | true => exact .late j 32 hj he
   | false =>
    rw [h0, h1, he] at h
    obtain ⟨r', h⟩ := no_ok h
    exact .no j 32 r' hj he (c32 h)
  | false =>
   cases h2 : eqB w0 bEnd with
   | true =>
    obtain ⟨j, hj⟩ := verb_at (.inr (.inr ⟨rfl, rfl⟩)) h2
    cases he : decide (r.end_ > 0) with
    | true => exact .late j 33 hj he
    | false =>
     rw [h0, h1, h2, he] at h
     obtain ⟨r', h⟩ := no_ok h
     exact .no j 33 r' hj he (c33 h)
   | false => exact .none (verb_no h0 h1 h2)
theorem c25 {l : List Driver} {e : Int} (h : pChecks l = some e) : Contract Z0 25 [.sl 3 l.length (encTs l)] (.int .i64 e) := by
 have h2 := fn_contract (Z := iseat) (ats := [.sl .Driver]) (ts := [.int .i64]) (E := E25) (fn := Tryz.f25) (c := bodyOf Tryz.f25) Tryz.func25 (by kernel_rfl) (by kernel_rfl) (by kernel_rfl) (by kernel_rfl) rfl (a := (l, ())) (x := e) ((e25 itN l).trans ((pChecks_eq l).symm.trans h)) zh zh
 exact h2
theorem mapTy : MapTyS Tryz.prog 82 := by
 have h : ((Tryz.prog.info? 79).bind (·.zero)).isSome = true := by kernel_rfl
 cases h1 : Tryz.prog.info? 79 with
 | none => rw [h1] at h; cases h
 | some i =>
  rw [h1] at h
  cases h2 : i.zero with
  | none => simp [h2] at h
  | some z => exact ⟨⟨9, 79, i, z, Tryz.underlying82, Tryz.underlying9, h1, h2⟩⟩
end Go.Proofs.Tp09
