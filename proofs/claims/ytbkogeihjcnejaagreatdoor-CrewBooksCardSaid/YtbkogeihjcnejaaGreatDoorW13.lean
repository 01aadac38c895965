/- Walks by computing: what each function of the program that the laws reach gives for what it gets, as plain Lean, and that it is so; without a condition but those that stand in each theorem. -/
import Derived.Test.YtbkogeihjcnejaaGreatDoorW1
import Derived.Test.YtbkogeihjcnejaaGreatDoorW2
import Derived.Test.YtbkogeihjcnejaaGreatDoorW3
import Derived.Test.YtbkogeihjcnejaaGreatDoorW4
import Derived.Test.YtbkogeihjcnejaaGreatDoorW5
import Derived.Test.YtbkogeihjcnejaaGreatDoorW6
import Derived.Test.YtbkogeihjcnejaaGreatDoorW7
import Derived.Test.YtbkogeihjcnejaaGreatDoorW8
import Derived.Test.YtbkogeihjcnejaaGreatDoorW9
import Derived.Test.YtbkogeihjcnejaaGreatDoorW10
import Derived.Test.YtbkogeihjcnejaaGreatDoorW11
import Derived.Test.YtbkogeihjcnejaaGreatDoorW12
set_option linter.all false
namespace Go.Proofs.Tp09
open Go Go.Ab
open Go.Proofs.YtbkogeihjcnejaaGreatDoor (iseat)
set_option linter.all false
set_option maxRecDepth 100000
set_option maxHeartbeats 4000000
attribute [local irreducible] W WL QOp NOp thenQ blockQ WG FQ Want WI WIL thenI blockI
section
variable {X : Ctx} {S : St} {o : Oper} {T T2 : TypeId} {x y : Operand}
theorem q_arithB {op : BinOp} {m n e e' : Int} (ho : o.op = .binOp op T x y T2) (hx : S.ev X x = .int .i64 m) (hy : S.ev X y = .int .i64 n) (hc : arithI op m n = some e') (h1 : -9223372036854775808 ≤ e') (h2 : e' ≤ 9223372036854775807) (he : e' = e) : QOp X o S (.int .i64 e) := he ▸ q_arith ho hx hy hc h1 h2
end
theorem q_neSB {X : Ctx} {S : St} {o : Oper} {T T2 : TypeId} {x y : Operand} {s t : ByteArray} {b : Bool} (ho : o.op = .binOp .neq T x y T2) (hx : S.ev X x = .str s) (hy : S.ev X y = .str t) (hb : (!(s.toList == t.toList)) = b) : QOp X o S (.bool b) := hb ▸ q_neS ho hx hy
def bg0 : Nat → Ab.Own := fun _ => .none
def lhT (ts : List Driver) (g : Nat) (i : Nat) : List D := if i + 1 = ts.length then lastT (ts.getD i dfltDriver) 101 g else encTs ts i
def lastH (ts : List Driver) : List Turn := match ts.getLast? with | some t => t.Turns | none => []
def mpB : Nat × Ab.Own := (18, .mp (verbs.map kS))
def osG (r : Reader) (h : Nat → Nat) : List (Nat × Ab.Own) := [mpB, (8, .box (bxR r.turns r.end_ r.sum 100 (h 100))), (100, .arr 27 3 r.drivers.length (lhT r.drivers (h 101))), (101, .arr 75 4 (lastH r.drivers).length (encHs (lastH r.drivers)))]
def osP (r : Reader) (h : Nat → Nat) : List (Nat × Ab.Own) := [mpB, (8, .box (bxR r.turns r.end_ r.sum 100 (h 100))), (100, .arr 27 3 r.drivers.length (encTs r.drivers))]
def osB (r : Reader) : List (Nat × Ab.Own) := [mpB, (8, .box (encD .Reader r))]
def osR (x : Nat × Reader) (h : Nat → Nat) : List (Nat × Ab.Own) := bif decide (x.2.end_ > 0) then osB x.2 else osG x.2 h
theorem mk_sub {rs : List (Nat × D)} {os : List (Nat × Ab.Own)} {h : Nat → Nat} {f : Nat → Ab.Own} (ha : AllE f os) (s : Nat) : (mkF rs os h bg0).σ s = .none ∨ (mkF rs os h bg0).σ s = f s := by
 show (bif Nat.ble FB s then bg0 s else Ab.look Ab.Own.none os s) = Ab.Own.none ∨ (bif Nat.ble FB s then bg0 s else Ab.look Ab.Own.none os s) = f s
 cases Nat.ble FB s with
 | true => exact .inl rfl
 | false => exact look_ok ha s
theorem last_at {ts : List Driver} (h : ts ≠ []) : ts.getLast? = some (ts.getD (ts.length - 1) dfltDriver) := by
 have hl : ts.length - 1 < ts.length := by have := List.length_pos_iff.2 h; omega
 rw [List.getLast?_eq_getElem?, List.getD_eq_getElem?_getD, List.getElem?_eq_getElem hl]; rfl
theorem wk_trk {X : Ctx} {rs : List (Nat × D)} {r : Reader} {h : Nat → Nat} (hx : ∀ s, s < 200 → X.xa s = false) : Wk X (mkF rs (osG r h) h bg0) (mkF rs (osP r h) h bg0) := by
 have hm : ∀ {S' : St}, Wk X (mkF rs (osG r h) h bg0) S' → S'.ρ = (mkF rs (osG r h) h bg0).ρ → S'.γ = h → S'.σ 18 = mpB.2 → S'.σ 8 = .box (bxR r.turns r.end_ r.sum 100 (h 100)) → S'.σ 100 = .arr 27 3 r.drivers.length (encTs r.drivers) → Wk X (mkF rs (osG r h) h bg0) (mkF rs (osP r h) h bg0) := fun {S'} hw hr hg h0 h2 h3 => by
  refine hw.trans (wk_gen (fun i => ?_) (fun s => ?_) (fun s => ?_))
  ·right; rw [hr]; rfl
  ·rw [hg]; exact Nat.le_refl _
  ·exact mk_sub (os := osP r h) (f := S'.σ) ⟨h0, h2, h3, trivial⟩ s
 by_cases hn : r.drivers = []
 ·refine hm (Wk.refl _ _) rfl rfl rfl rfl ?_
  show Ab.Own.arr 27 3 r.drivers.length (lhT r.drivers (h 101)) = _
  rw [hn, show lhT [] (h 101) = encTs [] from funext fun i => if_neg (by simp)]
 ·have hl := List.length_pos_iff.2 hn
  have hw := wk_freeze_elem (X := X) (S := mkF rs (osG r h) h bg0) 100 (r.drivers.length - 1) 2 (s := 101) (g := h 101) (E := 75) (z := 4) (n := (lastH r.drivers).length) (f := encHs (lastH r.drivers)) (E2 := 27) (z2 := 3) (n2 := r.drivers.length) (f2 := lhT r.drivers (h 101)) (f2' := encTs r.drivers) (l0 := lastT (r.drivers.getD (r.drivers.length - 1) dfltDriver) 101 (h 101)) (l' := encTs r.drivers (r.drivers.length - 1)) rfl rfl (by omega) (by unfold lhT; rw [if_pos (by omega)]) rfl rfl rfl (by
   have e : lastH r.drivers = (r.drivers.getD (r.drivers.length - 1) dfltDriver).Turns := by unfold lastH; rw [last_at hn]
   rw [e]; rfl) (fun k hk => by
   split
   ·rename_i e; rw [e]
   ·rename_i e; unfold lhT; rw [if_neg (by omega)]) (hx _ (by decide))
  refine hm hw rfl rfl ?_ ?_ ?_
  ·exact (upd_ne (upd (mkF rs (osG r h) h bg0).σ 101 .none) 100 18 (.arr 27 3 r.drivers.length (encTs r.drivers)) (by decide)).trans ((upd_ne (mkF rs (osG r h) h bg0).σ 101 18 .none (by decide)).trans rfl)
  ·exact (upd_ne (upd (mkF rs (osG r h) h bg0).σ 101 .none) 100 8 (.arr 27 3 r.drivers.length (encTs r.drivers)) (by decide)).trans ((upd_ne (mkF rs (osG r h) h bg0).σ 101 8 .none (by decide)).trans rfl)
  ·exact upd_same (upd (mkF rs (osG r h) h bg0).σ 101 .none) 100 (.arr 27 3 r.drivers.length (encTs r.drivers))
theorem wk_bad {X : Ctx} {rs : List (Nat × D)} {r : Reader} {h : Nat → Nat} (hx : ∀ s, s < 200 → X.xa s = false) : Wk X (mkF rs (osP r h) h bg0) (mkF rs (osB r) h bg0) := by
 have hw := wk_freeze_cell (X := X) (S := mkF rs (osP r h) h bg0) 8 0 (s := 100) (g := h 100) (E := 27) (z := 3) (n := r.drivers.length) (f := encTs r.drivers) (l := bxR r.turns r.end_ r.sum 100 (h 100)) (l' := encD .Reader r) rfl rfl rfl rfl rfl (hx _ (by decide))
 refine hw.trans (wk_gen (fun i => .inr rfl) (fun s => Nat.le_refl _) (fun s => ?_))
 exact mk_sub (os := osB r) (f := upd (upd (mkF rs (osP r h) h bg0).σ 100 .none) 8 (.box (encD .Reader r))) ⟨rfl, upd_same _ _ _, trivial⟩ s
theorem wk_all {X : Ctx} {rs : List (Nat × D)} {k : Nat} {x : Reader} {h : Nat → Nat} (hx : ∀ s, s < 200 → X.xa s = false) : Wk X (mkF rs (osR (k, x) h) h bg0) (mkF rs (osB x) h bg0) := by
 unfold osR
 cases decide ((k, x).2.end_ > 0) with
 | true => exact Wk.refl _ _
 | false => exact (wk_trk hx).trans (wk_bad hx)
def pR (i : Nat) : Nat := match i with | 0 => 8 | 1 => 100 | i + 2 => 101 + i
theorem pR_inj : ∀ i j, i < 3 → j < 3 → pR i = pR j → i = j
 | 0, 0, _, _, _ => rfl | 1, 1, _, _, _ => rfl | 2, 2, _, _, _ => rfl
 | 0, 1, _, _, e => by cases e
 | 0, 2, _, _, e => by cases e
 | 1, 0, _, _, e => by cases e
 | 1, 2, _, _, e => by cases e
 | 2, 0, _, _, e => by cases e
 | 2, 1, _, _, e => by cases e
 | i + 3, _, h, _, _ => by omega
 | _, i + 3, _, h, _ => by omega
theorem rn_bxG {n : Nat} {p g p' g' : Nat → Nat} (a b c : Int) (hn : 1 < n) : RnL n p g p' g' (bxR a b c (p 1) (g 1)) (bxR a b c (p' 1) (g' 1)) :=
 .cons _ _ _ _ (Rn.os (p := p) (g := g) (p' := p') (g' := g') 1 hn) (.cons _ _ _ _ (.pure _ (.int _ _)) (.cons _ _ _ _ (.pure _ (.int _ _)) (.cons _ _ _ _ (.pure _ (.int _ _)) .nil)))
theorem rn_lastG {n : Nat} {p g p' g' : Nat → Nat} (t : Driver) (hn : 2 < n) : RnL n p g p' g' (lastT t (p 2) (g 2)) (lastT t (p' 2) (g' 2)) :=
 .cons _ _ _ _ (.pure _ (.str _)) (.cons _ _ _ _ (.pure _ (.int _ _)) (.cons _ _ _ _ (Rn.os (p := p) (g := g) (p' := p') (g' := g') 2 hn) .nil))
def holG (ts : List Driver) (t : Driver) (g : Nat) (i : Nat) : List D := if i = ts.length then lastT t 101 g else encTs ts i
section
variable {X : Ctx} {Q : Exit → St → Prop} {S : St} {ops : Array Oper} {o : Oper} {rest : List Oper}
theorem WL_driver {xc x0 x1 : Operand} {ty : Array TypeId} {a b c p : Int} {w : ByteArray} {ws : List ByteArray} {nw : Nat} {ts : List Driver} {tt : Nat} (hZ : X.Z = Z0) (hc : ContractN Z0 31 2 q3 (osT a b c ts.length (encTs ts)) (osT a b c (ts.length + 1) (addT ts w p)) mv1 [.bx 0 1 0, .sl 1 nw (wordsD ws)] (.bool true))
  (hg : o.guard = none) (ho : o.op = .call { callee := .value xc, args := #[x0, x1], argTypes := ty }) (hxc : S.ev X xc = .fn 31 []) (h0 : S.ev X x0 = .bx 8 (S.γ 8) 0) (h1 : S.ev X x1 = .sl 1 nw (wordsD ws)) (hd : o.dst = some tt)
  (s2 : S.σ 8 = .box (bxR a b c 100 (S.γ 100))) (s1 : S.σ 100 = .arr 27 3 ts.length (encTs ts))
  (hk : WL X ops rest Q ⟨upd S.ρ tt (.bool true), upd S.γ 100 (S.γ 100 + 1), upd (upd S.σ 8 (.box (bxR a b c 100 (S.γ 100 + 1)))) 100 (.arr 27 3 (ts.length + 1) (addT ts w p))⟩) : WL X ops (o :: rest) Q S := by
 rw [← hZ] at hc
 have i2 : ∀ i, i < 2 → i = 0 ∨ i = 1 := fun i hi => by omega
 refine WL_callN (n := 2) (q := q3) (ps := pR) (c := []) (fun i j hi hj e => pR_inj i j (by omega) (by omega) e) (fun i j _ _ e => q3_inj i j e) hg ho hxc (fun i hi => ?_) ?_ hc (γ' := upd S.γ 100 (S.γ 100 + 1)) (fun s hs => upd_ne _ _ _ _ (fun e => hs 1 (by decide) e.symm)) (fun i hi => ?_) (.pure _ (.bool _)) hd (σ' := upd (upd S.σ 8 (.box (bxR a b c 100 (S.γ 100 + 1)))) 100 (.arr 27 3 (ts.length + 1) (addT ts w p))) (fun s hs => (upd_ne _ _ _ _ (fun e => hs 1 (by decide) e.symm)).trans (upd_ne _ _ _ _ (fun e => hs 0 (by decide) e.symm))) (fun i hi => ?_) hk
 ·rcases i2 i hi with rfl | rfl
  ·rw [show S.σ (pR 0) = _ from s2]; exact .box _ _ (rn_bxG (p := pR) (g := fun j => S.γ (pR j)) (p' := q3) (g' := one) a b c (by decide))
  ·rw [show S.σ (pR 1) = _ from s1]; exact .arrP _ _ _ _ (fun i _ => pure_T _)
 ·show RnL _ _ _ _ _ [S.ev X x0, S.ev X x1] _
  rw [h0, h1]
  exact .cons _ _ _ _ (Rn.bx (p := pR) (g := fun j => S.γ (pR j)) (p' := q3) (g' := one) 0 0 (by decide)) (.cons _ _ _ _ (.pure _ (.sl _ _ _ (fun i _ => PureL.cons (.str _) PureL.nil))) .nil)
 ·rcases i2 i hi with rfl | rfl
  ·exact upd_ne _ _ _ _ (by decide)
  ·exact upd_same _ _ _
 ·rcases i2 i hi with rfl | rfl
  ·rw [show upd (upd S.σ 8 (.box (bxR a b c 100 (S.γ 100 + 1)))) 100 (.arr 27 3 (ts.length + 1) (addT ts w p)) (pR 0) = .box (bxR a b c 100 (S.γ 100 + 1)) from (upd_ne _ _ _ _ (by decide)).trans (upd_same _ _ _)]
   have := rn_bxG (n := 2) (p := q3) (g := one) (p' := pR) (g' := fun j => upd S.γ 100 (S.γ 100 + 1) (pR j)) a b c (by decide)
   simp only [show pR 1 = 100 from rfl, upd_same] at this
   exact .box _ _ this
  ·rw [show upd (upd S.σ 8 (.box (bxR a b c 100 (S.γ 100 + 1)))) 100 (.arr 27 3 (ts.length + 1) (addT ts w p)) (pR 1) = _ from upd_same _ _ _]
   exact .arrP _ _ _ _ (fun i _ => pure_addT _ _ _ i)
theorem WL_turn {xc x0 x1 : Operand} {ty : Array TypeId} {a b c a' : Int} {ws : List ByteArray} {nw : Nat} {ts : List Driver} {t : Driver} {hs hs' : List Turn} {tt : Nat} (hZ : X.Z = Z0) (hc : ContractN Z0 32 3 q3 (osH a b c ts t hs) (osH a' b c ts t hs') mv2 [.bx 0 1 0, .sl 1 nw (wordsD ws)] (.bool true))
  (hg : o.guard = none) (ho : o.op = .call { callee := .value xc, args := #[x0, x1], argTypes := ty }) (hxc : S.ev X xc = .fn 32 []) (h0 : S.ev X x0 = .bx 8 (S.γ 8) 0) (h1 : S.ev X x1 = .sl 1 nw (wordsD ws)) (hd : o.dst = some tt)
  (s2 : S.σ 8 = .box (bxR a b c 100 (S.γ 100))) (s1 : S.σ 100 = .arr 27 3 (ts.length + 1) (holG ts t (S.γ 101))) (s3 : S.σ 101 = .arr 75 4 hs.length (encHs hs))
  (hk : WL X ops rest Q ⟨upd S.ρ tt (.bool true), upd S.γ 101 (S.γ 101 + 1), upd (upd (upd S.σ 8 (.box (bxR a' b c 100 (S.γ 100)))) 100 (.arr 27 3 (ts.length + 1) (holG ts t (S.γ 101 + 1)))) 101 (.arr 75 4 hs'.length (encHs hs'))⟩) : WL X ops (o :: rest) Q S := by
 rw [← hZ] at hc
 have i3 : ∀ i, i < 3 → i = 0 ∨ i = 1 ∨ i = 2 := fun i hi => by omega
 have key : ∀ {p p' g g' : Nat → Nat}, ∀ i, RnL 3 p g p' g' (if i = ts.length then lastT t (p 2) (g 2) else encTs ts i) (if i = ts.length then lastT t (p' 2) (g' 2) else encTs ts i) := fun {p p' g g'} i => by
  split
  ·exact rn_lastG t (by decide)
  ·exact rnLp (pure_T _)
 refine WL_callN (n := 3) (q := q3) (ps := pR) (c := []) (fun i j hi hj e => pR_inj i j hi hj e) (fun i j _ _ e => q3_inj i j e) hg ho hxc (fun i hi => ?_) ?_ hc (γ' := upd S.γ 101 (S.γ 101 + 1)) (fun s hs => upd_ne _ _ _ _ (fun e => hs 2 (by decide) e.symm)) (fun i hi => ?_) (.pure _ (.bool _)) hd (σ' := upd (upd (upd S.σ 8 (.box (bxR a' b c 100 (S.γ 100)))) 100 (.arr 27 3 (ts.length + 1) (holG ts t (S.γ 101 + 1)))) 101 (.arr 75 4 hs'.length (encHs hs'))) (fun s hs => (upd_ne _ _ _ _ (fun e => hs 2 (by decide) e.symm)).trans ((upd_ne _ _ _ _ (fun e => hs 1 (by decide) e.symm)).trans (upd_ne _ _ _ _ (fun e => hs 0 (by decide) e.symm)))) (fun i hi => ?_) hk
 ·rcases i3 i hi with rfl | rfl | rfl
  ·rw [show S.σ (pR 0) = _ from s2]; exact .box _ _ (rn_bxG (p := pR) (g := fun j => S.γ (pR j)) (p' := q3) (g' := one) a b c (by decide))
  ·rw [show S.σ (pR 1) = _ from s1]; exact .arr _ _ _ _ _ (fun i _ => key (p := pR) (g := fun j => S.γ (pR j)) (p' := q3) (g' := one) i)
  ·rw [show S.σ (pR 2) = _ from s3]; exact .arrP _ _ _ _ (fun i _ => encD_pure _ _)
 ·show RnL _ _ _ _ _ [S.ev X x0, S.ev X x1] _
  rw [h0, h1]
  exact .cons _ _ _ _ (Rn.bx (p := pR) (g := fun j => S.γ (pR j)) (p' := q3) (g' := one) 0 0 (by decide)) (.cons _ _ _ _ (.pure _ (.sl _ _ _ (fun i _ => PureL.cons (.str _) PureL.nil))) .nil)
 ·rcases i3 i hi with rfl | rfl | rfl
  ·exact upd_ne _ _ _ _ (by decide)
  ·exact upd_ne _ _ _ _ (by decide)
  ·exact upd_same _ _ _
 ·rcases i3 i hi with rfl | rfl | rfl
  ·rw [show upd (upd (upd S.σ 8 (.box (bxR a' b c 100 (S.γ 100)))) 100 (.arr 27 3 (ts.length + 1) (holG ts t (S.γ 101 + 1)))) 101 (.arr 75 4 hs'.length (encHs hs')) (pR 0) = .box (bxR a' b c 100 (S.γ 100)) from (upd_ne _ _ _ _ (by decide)).trans ((upd_ne _ _ _ _ (by decide)).trans (upd_same _ _ _))]
   have := rn_bxG (n := 3) (p := q3) (g := one) (p' := pR) (g' := fun j => upd S.γ 101 (S.γ 101 + 1) (pR j)) a' b c (by decide)
   simp only [show pR 1 = 100 from rfl, upd_ne S.γ 101 100 (S.γ 101 + 1) (by decide)] at this
   exact .box _ _ this
  ·rw [show upd (upd (upd S.σ 8 (.box (bxR a' b c 100 (S.γ 100)))) 100 (.arr 27 3 (ts.length + 1) (holG ts t (S.γ 101 + 1)))) 101 (.arr 75 4 hs'.length (encHs hs')) (pR 1) = _ from (upd_ne _ _ _ _ (by decide)).trans (upd_same _ _ _)]
   refine .arr _ _ _ _ _ (fun i _ => ?_)
   have := key (p := q3) (g := one) (p' := pR) (g' := fun j => upd S.γ 101 (S.γ 101 + 1) (pR j)) i
   simp only [show pR 2 = 101 from rfl, upd_same] at this
   exact this
  ·rw [show upd (upd (upd S.σ 8 (.box (bxR a' b c 100 (S.γ 100)))) 100 (.arr 27 3 (ts.length + 1) (holG ts t (S.γ 101 + 1)))) 101 (.arr 75 4 hs'.length (encHs hs')) (pR 2) = _ from upd_same _ _ _]
   exact .arrP _ _ _ _ (fun i _ => encD_pure _ _)
theorem W_wkE {c : Code} {P : St → Prop} (h : ∃ S', Wk X S S' ∧ P S') (hk : ∀ S', P S' → W X c Q S') : W X c Q S := let ⟨_, h1, h2⟩ := h; W_wk h1 (hk _ h2)
end
theorem lhT_snoc (ts : List Driver) (t : Driver) (g : Nat) : lhT (ts ++ [t]) g = holG ts t g := funext fun i => by
 unfold lhT holG
 rw [List.length_append]
 by_cases e : i = ts.length
 ·subst e
  rw [if_pos (show ts.length + 1 = ts.length + [t].length from rfl), if_pos rfl]
  simp [List.getD_eq_getElem?_getD]
 ·rw [if_neg (show ¬ (i + 1 = ts.length + [t].length) from fun q => e (Nat.succ.inj q)), if_neg e]
  unfold encTs
  rw [List.getD_eq_getElem?_getD, List.getD_eq_getElem?_getD]
  by_cases h : i < ts.length
  ·rw [List.getElem?_append_left h]
  ·rw [List.getElem?_eq_none (show ts.length ≤ i by omega), List.getElem?_eq_none (by simp; omega)]
theorem lastH_snoc (ts : List Driver) (t : Driver) : lastH (ts ++ [t]) = t.Turns := by unfold lastH; simp
theorem osG_snoc (ts : List Driver) (t : Driver) (m e s : Int) (h : Nat → Nat) : osG ⟨ts ++ [t], m, e, s⟩ h = [mpB, (8, .box (bxR m e s 100 (h 100))), (100, .arr 27 3 (ts.length + 1) (holG ts t (h 101))), (101, .arr 75 4 t.Turns.length (encHs t.Turns))] := by
 unfold osG
 rw [lhT_snoc, lastH_snoc, List.length_append]; rfl
def rowsD (l : List ByteArray) (i : Nat) : List D := [.str (l.getD i ⟨#[]⟩)]
theorem rowsD_snoc (l : List ByteArray) (x : ByteArray) {i : Nat} (h : i < l.length) : rowsD (l ++ [x]) i = rowsD l i := by
 unfold rowsD
 rw [List.getD_eq_getElem?_getD, List.getD_eq_getElem?_getD, List.getElem?_append_left h]
def rsL (ini : List ByteArray) (lst : ByteArray) (k : Nat) (h : Nat → Nat) : List (Nat × D) := [(5, .os 18 (h 18)), (6, .sl 1 (ini.length + 1) (rowsD (ini ++ [lst]))), (7, .int .i64 (ini.length : Int)), (8, .bx 8 (h 8) 0), (27, .sl 1 ini.length (rowsD ini)), (28, .int .i64 (ini.length : Int)), (29, .int .i64 (k : Int))]
section
variable {X : Ctx} {S : St} {ini : List ByteArray} {lst : ByteArray}
def Now (X : Ctx) (ini : List ByteArray) (lst : ByteArray) (S : St) (k : Nat) (r : Reader) : Prop := ∃ S', Wk X S S' ∧ MatchF S' (rsL ini lst k S'.γ) (osR (k, r) S'.γ) bg0
theorem now_of {k : Nat} {r : Reader} (he : decide (r.end_ > 0) = false) (h : ∃ S', Wk X S S' ∧ S'.ρ = S.ρ ∧ (∀ s, s < 100 → S'.γ s = S.γ s) ∧ AllE S'.σ (osG r S'.γ)) (hr : AllE S.ρ (rsL ini lst k S.γ)) : Now X ini lst S k r := by
 obtain ⟨S', h1, h2, h3, h4⟩ := h
 refine ⟨S', h1, ?_, ?_, fun _ _ => .inl rfl⟩
 ·rw [h2]
  unfold rsL at hr ⊢
  rw [h3 8 (by decide), h3 18 (by decide)]; exact hr
 ·unfold osR; rw [show decide ((k, r).2.end_ > 0) = false from he]; exact h4
theorem now_zero (s8 : S.σ 8 = .box [.nil, .int .i64 0, .int .i64 0, .int .i64 0]) (s18 : S.σ 18 = mpB.2) (s1 : S.σ 100 = .none) (hr : AllE S.ρ (rsL ini lst 0 S.γ)) : Now X ini lst S 0 zeroR := by
 have w1 := wk_nilc (X := X) (S := S) 8 0 100 27 3 (lhT [] (S.γ 101 + 1)) (l' := bxR 0 0 0 100 (S.γ 100 + 1)) s8 rfl s1 rfl rfl
 have w2 := wk_new (X := X) (S := ⟨S.ρ, upd S.γ 100 (S.γ 100 + 1), upd (upd S.σ 100 (.arr 27 3 0 (lhT [] (S.γ 101 + 1)))) 8 (.box (bxR 0 0 0 100 (S.γ 100 + 1)))⟩) 101 75 4 (encHs [])
 exact now_of rfl ⟨_, w1.trans w2, rfl, fun s hs => (upd_ne _ _ _ _ (by omega)).trans (upd_ne _ _ _ _ (by omega)), s18, rfl, rfl, rfl, trivial⟩ hr
theorem now_driver {k : Nat} {m e s p : Int} {w : ByteArray} {ts : List Driver} (he : decide (e > 0) = false) (s18 : S.σ 18 = mpB.2) (s8 : S.σ 8 = .box (bxR m e s 100 (S.γ 100))) (s1 : S.σ 100 = .arr 27 3 (ts.length + 1) (addT ts w p)) (hr : AllE S.ρ (rsL ini lst k S.γ)) : Now X ini lst S k ⟨ts ++ [⟨w, p, []⟩], m, e, s⟩ := by
 have w1 := wk_nil_elem (X := X) (S := S) 100 ts.length 2 101 75 4 (encHs []) (f2' := holG ts ⟨w, p, []⟩ (S.γ 101 + 1)) (l' := lastT ⟨w, p, []⟩ 101 (S.γ 101 + 1)) s1 (by decide) (Nat.lt_succ_self _) (by unfold addT; rw [if_neg (Nat.lt_irrefl _)]; rfl) (by unfold addT; rw [if_neg (Nat.lt_irrefl _)]; rfl) (fun k hk => by
  unfold holG addT
  by_cases e : k = ts.length
  ·rw [if_pos e, if_pos e]
  ·rw [if_neg e, if_neg e, if_pos (by omega)])
 refine now_of he ⟨_, w1, rfl, fun s hs => upd_ne _ _ _ _ (by omega), ?_⟩ hr
 rw [osG_snoc]
 exact ⟨s18, s8, rfl, rfl, trivial⟩
theorem now_turn {k : Nat} {m e s : Int} {ts : List Driver} {t : Driver} (he : decide (e > 0) = false) (s18 : S.σ 18 = mpB.2) (s8 : S.σ 8 = .box (bxR m e s 100 (S.γ 100))) (s1 : S.σ 100 = .arr 27 3 (ts.length + 1) (holG ts t (S.γ 101))) (s3 : S.σ 101 = .arr 75 4 t.Turns.length (encHs t.Turns)) (hr : AllE S.ρ (rsL ini lst k S.γ)) : Now X ini lst S k ⟨ts ++ [t], m, e, s⟩ := by
 refine now_of he ⟨_, Wk.refl _ _, rfl, fun _ _ => rfl, ?_⟩ hr
 rw [osG_snoc]
 exact ⟨s18, s8, s1, s3, trivial⟩
theorem now_fin {k : Nat} {r : Reader} (he : decide (r.end_ > 0) = true) (s18 : S.σ 18 = mpB.2) (s8 : S.σ 8 = .box (encD .Reader r)) (hr : AllE S.ρ (rsL ini lst k S.γ)) : Now X ini lst S k r := by
 refine ⟨S, Wk.refl _ _, hr, ?_, fun _ _ => .inl rfl⟩
 unfold osR; rw [show decide ((k, r).2.end_ > 0) = true from he]
 exact ⟨s18, s8, trivial⟩
theorem fin_ok {l : List Driver} {a b : Int} (e2 : S.ev X (.tmp 2) = .sl 3 l.length (encTs l)) (e3 : S.ev X (.tmp 3) = .int .i64 a) (e4 : S.ev X (.tmp 4) = .int .i64 b) : FinN X [.tmp 2, .tmp 3, .tmp 4] (.tup [.sl 3 l.length (encTs l), .int .i64 a, .int .i64 b]) .ret S :=
 ⟨_, [.sl 3 l.length (encTs l), .int .i64 a, .int .i64 b], Wk.refl _ _, ⟨rv_S e2, rv_I e3, rv_I e4, trivial⟩, fun _ _ _ _ q => q⟩
theorem fin_no {a b : Int} (e2 : S.ev X (.tmp 2) = .nil) (e3 : S.ev X (.tmp 3) = .int .i64 a) (e4 : S.ev X (.tmp 4) = .int .i64 b) : FinN X [.tmp 2, .tmp 3, .tmp 4] (.tup [.sl 3 ([] : List Driver).length (encTs []), .int .i64 a, .int .i64 b]) .ret S :=
 ⟨_, [.nil, .int .i64 a, .int .i64 b], Wk.refl _ _, ⟨e2, rv_I e3, rv_I e4, trivial⟩, fun κ γ sv v q => by
  cases q with
  | tup _ vs hv =>
   cases hv with
   | cons _ v0 _ vs h0 h1 =>
    cases h0
    exact .tup _ _ (.cons _ _ _ _ (.sl0 _ _) h1)⟩
end
theorem rdT {ini : List ByteArray} {lst : ByteArray} {k : Nat} {P M : Prop} {X : Ctx} {S : St} {r : Reader} (hp : P) (hm : M) (h : Now X ini lst S k r) : ∃ S'', P ∧ M ∧ Wk X S S'' ∧ MatchF S'' (rsL ini lst k S''.γ) (osR (k, r) S''.γ) bg0 := let ⟨S'', h1, h2⟩ := h; ⟨S'', hp, hm, h1, h2⟩
theorem c12 {text : ByteArray} {l : List Driver} {row e : Int} (h : readF text = some (l, row, e)) : Contract Z0 12 [.str text] (.tup [.sl 3 l.length (encTs l), .int .i64 row, .int .i64 e]) := by
 unfold readF at h
 refine contract_introN (fn := Tryz.f12) Tryz.func12 rfl (by kernel_rfl) rfl (PureL.cons (.str _) PureL.nil) (.tup _ (PureL.cons (.sl _ _ _ (fun i _ => encD_pure _ _)) (PureL.cons (.int _ _) (PureL.cons (.int _ _) PureL.nil)))) ?_
 intro w κ
 cases hsz : decide ((text.size : Int) > 10000)
 case' true =>
  rw [hsz] at h
  cases h
 case' false =>
  rw [hsz] at h
  obtain ⟨ho, h⟩ := chk_some h
  obtain ⟨lst, hl, h⟩ : ∃ lst, (Tx.splitV text bNl).getLast? = some lst ∧ chk (decide ((Tx.splitV text bNl).length ≤ 1000000)) ((readL (Tx.splitV text bNl).dropLast 0 zeroR).bind (readT ((Tx.splitV text bNl).length - 1) lst)) = some (l, row, e) := by
   split at h
   ·cases h
   ·rename_i lst hl
    exact ⟨lst, hl, h⟩
  obtain ⟨hm, h⟩ := chk_some h
  have hm := of_decide_eq_true hm
  obtain ⟨ini, hini⟩ := List.getLast?_eq_some_iff.1 hl
  have cw : Contract Z0 34 [.str text, .str bNl] (.sl 1 (ini.length + 1) (rowsD (ini ++ [lst]))) := by
   have := Tx.c34 text bNl ho
   rw [hini] at this
   have this : Contract Z0 34 [.str text, .str bNl] (.sl 1 (ini ++ [lst]).length (rowsD (ini ++ [lst]))) := this
   rw [List.length_append] at this
   exact this
  rw [hini] at h hm
  rw [List.dropLast_concat, List.length_append, show ini.length + [lst].length - 1 = ini.length from rfl] at h
  rw [List.length_append] at hm
  have hm : ini.length + 1 ≤ 1000000 := hm
  have hsub : ((ini.length + 1 : Nat) : Int) - 1 = (ini.length : Int) := by omega
  clear hini hl ho
 all_goals
  repeat' (first
  | (apply WL_q; apply rr; apply rr; apply q_mvY; apply rr; apply rr)
  | (apply WL_q; apply rr; apply rr; apply q_asY; apply rr; apply rr)
  | (apply WL_q; apply rr; apply rr; apply q_lenS; apply rr; apply rr; apply rr; exact Tryz.underlying9)
  | (apply WL_q; apply rr; apply rr; apply q_cmpB; apply rr; apply rr; apply rr; apply rr; (first | exact hsz))
  | (apply WL_q; apply rr; apply rr; refine q_arithB rfl rfl rfl rfl ?_ ?_ hsub; omega; omega)
  | (apply WL_q; apply rr; apply rr; refine q_slF (i := 0) (j := ini.length) (f' := rowsD ini) rfl rfl (.inl ⟨rfl, rfl⟩) (.inr ⟨_, rfl, rfl⟩) (by omega) (by omega) rfl rfl rfl rfl rfl (fun k hk => by rw [Nat.zero_add]; exact (rowsD_snoc ini lst hk).symm))
  | (apply WL_n; apply rr; refine n_makeMap rfl rfl)
  | (apply WL_n; apply rr; refine n_putS (l := []) mapTy (.inr rfl) rfl rfl rfl rfl rfl rfl rfl)
  | (apply WL_n; apply rr; refine n_putS (l := verbs.take 1) mapTy (.inr rfl) rfl rfl rfl rfl rfl rfl rfl)
  | (apply WL_n; apply rr; refine n_putS (l := verbs.take 2) mapTy (.inr rfl) rfl rfl rfl rfl rfl rfl rfl)
  | (apply WL_q; apply rr; apply rr; (first | (apply q_mvI <;> apply rr) | (apply q_asI <;> apply rr) | (apply q_ldb <;> apply rr) | (apply q_fab <;> apply rr) | (apply q_mvB <;> apply rr) | (apply q_asB <;> apply rr) | (apply q_not <;> apply rr) | (apply q_ldr <;> apply rr) | (apply q_arith <;> (first | apply rr | omega)) | (apply q_len <;> apply rr) | (apply q_ext <;> apply rr) | (apply q_pkT <;> apply rr) | (apply q_pkF <;> apply rr) | (apply q_ia <;> (first | apply rr | omega)) | (apply q_mvS <;> apply rr) | (apply q_asS <;> apply rr) | (apply q_mvO <;> apply rr) | (apply q_asO <;> apply rr) | (apply q_asN <;> apply rr) | (apply q_mvT <;> apply rr) | (apply q_mvF <;> apply rr) | (apply q_asF <;> apply rr) | (apply q_asU <;> apply rr)))
  | apply W_seq
  | apply W_region
  | apply T_normal
  | apply WL_nil
  | apply T_exit
  | apply T_ret
  | apply B_normal
  | apply B_ret
  | apply B_exit_eq
  | apply W_skip
  | apply W_exit
  | apply W_ret
  | apply W_block
  | (apply W_condT; apply rr)
  | (apply W_condF; apply rr)
  | (apply WL_call; apply rr; apply rr; rotate_left 1; apply rr; rotate_right 1; exact (cw); apply rr)
  | (apply WL_n; apply rr; (first | (apply n_alloc <;> apply rr) | (apply n_stb <;> (first | apply rr | (intro _ e; cases e)))))
  | (apply WL_yes; apply rr; apply rr; apply rr)
  | apply W_regionG
  | (apply WG_nil; kernel_rfl)
  | (apply WG_q; (first | (apply want_none; apply rr) | (apply want_some; apply rr; apply rr; apply rr)); apply rr; first | (apply fq_bld <;> apply rr) | (apply fq_blda <;> apply rr) | (apply fq_fn; apply rr) | (apply fq_mf; apply rr) | (apply FQ_intro; intro _; (first | (apply q_mvI <;> apply rr) | (apply q_asI <;> apply rr) | (apply q_ldb <;> apply rr) | (apply q_fab <;> apply rr) | (apply q_mvB <;> apply rr) | (apply q_asB <;> apply rr) | (apply q_not <;> apply rr) | (apply q_ldr <;> apply rr) | (apply q_arith <;> (first | apply rr | omega)) | (apply q_len <;> apply rr) | (apply q_ext <;> apply rr) | (apply q_pkT <;> apply rr) | (apply q_pkF <;> apply rr) | (apply q_ia <;> (first | apply rr | omega)) | (apply q_mvS <;> apply rr) | (apply q_asS <;> apply rr) | (apply q_mvO <;> apply rr) | (apply q_asO <;> apply rr) | (apply q_asN <;> apply rr) | (apply q_mvT <;> apply rr) | (apply q_mvF <;> apply rr) | (apply q_asF <;> apply rr) | (apply q_asU <;> apply rr)))))
 case true => exact fin_no rfl rfl rfl
 case false =>
  refine W_wkE (P := fun S' => MatchF S' (rsL ini lst 0 S'.γ) (osR (0, zeroR) S'.γ) bg0) ?_ ?_
  ·exact now_zero rfl rfl rfl ⟨rfl, rfl, rfl, rfl, rfl, rfl, rfl, trivial⟩
  intro S' hS
  refine W_loopF (α := Nat × Reader) (fun x h => rsL ini lst x.1 h) osR (fun _ _ => bg0) (fun x => x.1 ≤ ini.length ∧ x.2.drivers.length ≤ x.1 ∧ (lastH x.2.drivers).length ≤ x.1 ∧ 0 ≤ x.2.turns ∧ x.2.turns ≤ x.1 ∧ 0 ≤ x.2.end_ ∧ (readL (ini.drop x.1) x.1 x.2).bind (readT ini.length lst) = some (l, row, e)) (fun x => ini.length - x.1) (0, zeroR) ⟨Nat.zero_le _, Nat.le_refl _, Nat.le_refl _, Int.le_refl _, Int.le_refl _, Int.le_refl _, h⟩ hS ?_
  clear h hS S'
  rintro ⟨k, x⟩ hh ⟨hk, hb1, hb2, hb3, hb4, hb5, hr⟩
  simp only at hk hb1 hb2 hb3 hb4 hb5 hr ⊢
  by_cases hkn : k = ini.length
  ·rw [show ini.drop k = [] by rw [hkn]; exact List.drop_length] at hr
   have hr : readT ini.length lst (.ok x) = some (l, row, e) := hr
   have hge : decide ((k : Int) < (ini.length : Int)) = false := decide_eq_false (by omega)
   refine W_wk (wk_all fun _ _ => rfl) ?_
   unfold readT at hr
   simp only at hr
   have hgl : (ini ++ [lst]).getD ini.length ⟨#[]⟩ = lst := by simp [List.getD_eq_getElem?_getD]
   cases hz0 : (x.end_ == 0)
   case' true =>
    rw [hz0] at hr
    cases hr
   case' false =>
    rw [hz0] at hr
    cases hl : eqB lst ⟨#[]⟩
    case' false =>
     rw [hl] at hr
     cases hr
     have hls : (!(((ini ++ [lst]).getD ini.length ⟨#[]⟩).toList == (⟨#[]⟩ : ByteArray).toList)) = true := by rw [hgl]; unfold eqB at hl; rw [hl]; rfl
    case' true =>
     rw [hl] at hr
     have hls : (!(((ini ++ [lst]).getD ini.length ⟨#[]⟩).toList == (⟨#[]⟩ : ByteArray).toList)) = false := by rw [hgl]; unfold eqB at hl; rw [hl]; rfl
     cases hsm : (x.sum != x.turns)
     case' true =>
      rw [hsm] at hr
      cases hr
     case' false =>
      rw [hsm] at hr
      obtain ⟨e0, hp, hr⟩ := Option.bind_eq_some_iff.1 hr
      have cp := c25 hp
      cases hbe : (e0 != 0)
      case' true =>
       rw [hbe] at hr
       cases hr
      case' false =>
       rw [hbe] at hr
       cases hr
   all_goals
    repeat' (first
  | (apply WL_q; apply rr; apply rr; apply q_mvY; apply rr; apply rr)
  | (apply WL_q; apply rr; apply rr; apply q_asY; apply rr; apply rr)
  | (apply WL_q; apply rr; apply rr; apply q_cmpB; apply rr; apply rr; apply rr; apply rr; (first | exact hge | exact hz0 | exact hsm | exact hbe))
  | (apply WL_q; apply rr; apply rr; apply q_neSB; apply rr; apply rr; apply rr; exact hls)
  | (apply WL_noE; apply rr; apply rr; apply rr; apply rr; apply rr)
  | (apply WL_q; apply rr; apply rr; (first | (apply q_mvI <;> apply rr) | (apply q_asI <;> apply rr) | (apply q_ldb <;> apply rr) | (apply q_fab <;> apply rr) | (apply q_mvB <;> apply rr) | (apply q_asB <;> apply rr) | (apply q_not <;> apply rr) | (apply q_ldr <;> apply rr) | (apply q_arith <;> (first | apply rr | omega)) | (apply q_len <;> apply rr) | (apply q_ext <;> apply rr) | (apply q_pkT <;> apply rr) | (apply q_pkF <;> apply rr) | (apply q_ia <;> (first | apply rr | omega)) | (apply q_mvS <;> apply rr) | (apply q_asS <;> apply rr) | (apply q_mvO <;> apply rr) | (apply q_asO <;> apply rr) | (apply q_asN <;> apply rr) | (apply q_mvT <;> apply rr) | (apply q_mvF <;> apply rr) | (apply q_asF <;> apply rr) | (apply q_asU <;> apply rr)))
  | apply W_seq
  | apply W_region
  | apply T_normal
  | apply WL_nil
  | apply T_exit
  | apply T_ret
  | apply B_normal
  | apply B_ret
  | apply B_exit_eq
  | apply W_skip
  | apply W_exit
  | apply W_ret
  | apply W_block
  | (apply W_condT; apply rr)
  | (apply W_condF; apply rr)
  | (apply WL_call; apply rr; apply rr; rotate_left 1; apply rr; rotate_right 1; exact (cp); apply rr)
  | (apply WL_n; apply rr; (first | (apply n_alloc <;> apply rr) | (apply n_stb <;> (first | apply rr | (intro _ e; cases e)))))
  | (apply WL_yes; apply rr; apply rr; apply rr)
  | apply W_regionG
  | (apply WG_nil; kernel_rfl)
  | (apply WG_q; (first | (apply want_none; apply rr) | (apply want_some; apply rr; apply rr; apply rr)); apply rr; first | (apply fq_bld <;> apply rr) | (apply fq_blda <;> apply rr) | (apply fq_fn; apply rr) | (apply fq_mf; apply rr) | (apply FQ_intro; intro _; (first | (apply q_mvI <;> apply rr) | (apply q_asI <;> apply rr) | (apply q_ldb <;> apply rr) | (apply q_fab <;> apply rr) | (apply q_mvB <;> apply rr) | (apply q_asB <;> apply rr) | (apply q_not <;> apply rr) | (apply q_ldr <;> apply rr) | (apply q_arith <;> (first | apply rr | omega)) | (apply q_len <;> apply rr) | (apply q_ext <;> apply rr) | (apply q_pkT <;> apply rr) | (apply q_pkF <;> apply rr) | (apply q_ia <;> (first | apply rr | omega)) | (apply q_mvS <;> apply rr) | (apply q_asS <;> apply rr) | (apply q_mvO <;> apply rr) | (apply q_asO <;> apply rr) | (apply q_asN <;> apply rr) | (apply q_mvT <;> apply rr) | (apply q_mvF <;> apply rr) | (apply q_asF <;> apply rr) | (apply q_asU <;> apply rr)))))
   all_goals first | exact fin_no rfl rfl rfl | exact fin_ok rfl rfl rfl
  have hlt : decide ((k : Int) < (ini.length : Int)) = true := decide_eq_true (by omega)
  have hkl : k < ini.length := by omega
  rw [List.drop_eq_getElem_cons hkl] at hr
  have hrow : ini[k] = ini.getD k ⟨#[]⟩ := by rw [List.getD_eq_getElem?_getD, List.getElem?_eq_getElem hkl]; rfl
  rw [hrow] at hr
  unfold readL at hr
  obtain ⟨res, hr1, hr2⟩ := Option.bind_eq_some_iff.1 hr
  obtain ⟨ho, hr1⟩ := chk_some hr1
  cases hg : goodRow k x (Tx.splitV (ini.getD k ⟨#[]⟩) bSp)
  case' none =>
   rw [hg] at hr1
   obtain ⟨u, ht, hr1⟩ := Option.bind_eq_some_iff.1 hr1
   cases hr1
   cases hr2
   refine W_wk (wk_all fun _ _ => rfl) ?_
   cases hws : Tx.splitV (ini.getD k ⟨#[]⟩) bSp
   case' nil =>
    rw [hws] at ht
    cases ht
   case' cons w0 r =>
    have cs : Contract Z0 34 [.str (ini.getD k ⟨#[]⟩), .str bSp] (.sl 1 (r.length + 1) (wordsD (w0 :: r))) := Words.c ⟨ho, hws⟩
    rw [hws] at ht
    have hB := bad_of ht
    cases hB
    case' none hf => skip
    case' late j f hf hgt => skip
    case' no j f r' hf hgt cb => skip
  case' some =>
   rename_i x'
   rw [hg] at hr1
   have hG := good_of ho hg
   have hr3 : (readL (ini.drop (k + 1)) (k + 1) x').bind (readT ini.length lst) = some (l, row, e) := Option.bind_eq_some_iff.2 ⟨res, hr1, hr2⟩
   cases hG
   case' driver w0 w1 r p hgt hw h0 h1 hn =>
    obtain ⟨j, hf⟩ := verb_at (.inl ⟨rfl, rfl⟩) h0
    have he : (w0.toList == (⟨#[101, 110, 100]⟩ : ByteArray).toList) = false := by rw [bl_eq h0, bl_data]; rfl
    have cs : Contract Z0 34 [.str (ini.getD k ⟨#[]⟩), .str bSp] (.sl 1 (r.length + 1 + 1) (wordsD (w0 :: w1 :: r))) := hw.c
    have crd := go_driver (m := x.turns) (e := x.end_) (s := x.sum) (ts := x.drivers) h1 hn (by omega)
    rw [show osR (k, x) hh = osG x hh by unfold osR; rw [show decide ((k, x).2.end_ > 0) = false from hgt]; rfl]
    refine W_wk (wk_trk fun _ _ => rfl) ?_
   case' turn w0 r t a b c d hgt hw h0 hl hn =>
    obtain ⟨ts, hts⟩ := List.getLast?_eq_some_iff.1 hl
    obtain ⟨dr, tn, en, sm⟩ := x
    simp only at hts hgt hb3 hb4 hb5
    subst hts
    have hb6 : ts.length + 1 ≤ k := by simpa using hb1
    have hb7 : t.Turns.length ≤ k := by simpa [lastH_snoc] using hb2
    obtain ⟨j, hf⟩ := verb_at (.inr (.inl ⟨rfl, rfl⟩)) h0
    have he : (w0.toList == (⟨#[101, 110, 100]⟩ : ByteArray).toList) = false := by rw [bl_eq h0, bl_data]; rfl
    have cs : Contract Z0 34 [.str (ini.getD k ⟨#[]⟩), .str bSp] (.sl 1 (r.length + 1) (wordsD (w0 :: r))) := hw.c
    have crt := go_turn (m := tn) (e := en) (s := sm) (ts := ts) (t := t) (hs := t.Turns) hn (by omega) (by omega) hb3 (by omega)
    rw [show osR (k, ⟨ts ++ [t], tn, en, sm⟩) hh = osG ⟨ts ++ [t], tn, en, sm⟩ hh by unfold osR; rw [show decide ((k, (⟨ts ++ [t], tn, en, sm⟩ : Reader)).2.end_ > 0) = false from hgt]; rfl, osG_snoc]
   case' fin w0 r p hgt hw h0 hn =>
    obtain ⟨j, hf⟩ := verb_at (.inr (.inr ⟨rfl, rfl⟩)) h0
    have he : (w0.toList == (⟨#[101, 110, 100]⟩ : ByteArray).toList) = true := by rw [bl_eq h0, bl_data]; rfl
    have cs : Contract Z0 34 [.str (ini.getD k ⟨#[]⟩), .str bSp] (.sl 1 (r.length + 1) (wordsD (w0 :: r))) := hw.c
    have cb := c33 (ended_ok (r := x) hn)
    refine W_wk (wk_all fun _ _ => rfl) ?_
  all_goals
   repeat' (first
  | (apply WL_q; apply rr; apply rr; apply q_mvY; apply rr; apply rr)
  | (apply WL_q; apply rr; apply rr; apply q_asY; apply rr; apply rr)
  | (apply WL_q; apply rr; apply rr; apply q_cmpB; apply rr; apply rr; apply rr; apply rr; (first | exact hlt | exact hgt))
  | (apply WL_q; apply rr; apply rr; refine q_lookS (l := verbs) mapTy rfl rfl rfl rfl rfl hf)
  | (apply WL_q; apply rr; apply rr; refine q_missS (l := verbs) mapTy rfl rfl rfl rfl rfl hf)
  | (apply WL_q; apply rr; apply rr; refine q_slF (i := 1) (j := r.length + 1) (f' := wordsD r) rfl rfl (.inr ⟨_, rfl, rfl⟩) (.inl ⟨rfl, rfl⟩) (by omega) (by omega) rfl rfl rfl rfl rfl (fun k _ => by rw [Nat.add_comm]; rfl))
  | (apply WL_q; apply rr; apply rr; refine q_slF (i := 1) (j := r.length + 1 + 1) (f' := wordsD (w1 :: r)) rfl rfl (.inr ⟨_, rfl, rfl⟩) (.inl ⟨rfl, rfl⟩) (by omega) (by omega) rfl rfl rfl rfl rfl (fun k _ => by rw [Nat.add_comm]; rfl))
  | (apply WL_q; apply rr; apply rr; apply q_eqSB; apply rr; apply rr; apply rr; exact he)
  | (refine WL_driver (a := x.turns) (b := x.end_) (c := x.sum) (w := w1) (p := p) (ws := w1 :: r) (ts := x.drivers) rfl crd rfl rfl rfl rfl rfl rfl rfl rfl ?_)
  | (refine WL_turn (a := tn) (b := en) (c := sm) (a' := tn + 1) (ws := r) (ts := ts) (t := t) (hs' := t.Turns ++ [mkTurn a b c d]) rfl crt rfl rfl rfl rfl rfl rfl rfl rfl rfl ?_)
  | (refine WL_callRv (x0 := .tmp 8) (xs := [.tmp 54]) rfl rfl rfl rfl rfl rfl cb rfl rfl ?_)
  | (apply WL_noE; apply rr; apply rr; apply rr; apply rr; apply rr)
  | (apply WL_q; apply rr; apply rr; (first | (apply q_mvI <;> apply rr) | (apply q_asI <;> apply rr) | (apply q_ldb <;> apply rr) | (apply q_fab <;> apply rr) | (apply q_mvB <;> apply rr) | (apply q_asB <;> apply rr) | (apply q_not <;> apply rr) | (apply q_ldr <;> apply rr) | (apply q_arith <;> (first | apply rr | omega)) | (apply q_len <;> apply rr) | (apply q_ext <;> apply rr) | (apply q_pkT <;> apply rr) | (apply q_pkF <;> apply rr) | (apply q_ia <;> (first | apply rr | omega)) | (apply q_mvS <;> apply rr) | (apply q_asS <;> apply rr) | (apply q_mvO <;> apply rr) | (apply q_asO <;> apply rr) | (apply q_asN <;> apply rr) | (apply q_mvT <;> apply rr) | (apply q_mvF <;> apply rr) | (apply q_asF <;> apply rr) | (apply q_asU <;> apply rr)))
  | apply W_seq
  | apply W_region
  | apply T_normal
  | apply WL_nil
  | apply T_exit
  | apply T_ret
  | apply B_normal
  | apply B_ret
  | apply B_exit_eq
  | apply W_skip
  | apply W_exit
  | apply W_ret
  | apply W_block
  | (apply W_condT; apply rr)
  | (apply W_condF; apply rr)
  | (apply WL_call; apply rr; apply rr; rotate_left 1; apply rr; rotate_right 1; exact (cs); apply rr)
  | (apply WL_n; apply rr; (first | (apply n_alloc <;> apply rr) | (apply n_stb <;> (first | apply rr | (intro _ e; cases e)))))
  | (apply WL_yes; apply rr; apply rr; apply rr)
  | apply W_regionG
  | (apply WG_nil; kernel_rfl)
  | (apply WG_q; (first | (apply want_none; apply rr) | (apply want_some; apply rr; apply rr; apply rr)); apply rr; first | (apply fq_bld <;> apply rr) | (apply fq_blda <;> apply rr) | (apply fq_fn; apply rr) | (apply fq_mf; apply rr) | (apply FQ_intro; intro _; (first | (apply q_mvI <;> apply rr) | (apply q_asI <;> apply rr) | (apply q_ldb <;> apply rr) | (apply q_fab <;> apply rr) | (apply q_mvB <;> apply rr) | (apply q_asB <;> apply rr) | (apply q_not <;> apply rr) | (apply q_ldr <;> apply rr) | (apply q_arith <;> (first | apply rr | omega)) | (apply q_len <;> apply rr) | (apply q_ext <;> apply rr) | (apply q_pkT <;> apply rr) | (apply q_pkF <;> apply rr) | (apply q_ia <;> (first | apply rr | omega)) | (apply q_mvS <;> apply rr) | (apply q_asS <;> apply rr) | (apply q_mvO <;> apply rr) | (apply q_asO <;> apply rr) | (apply q_asN <;> apply rr) | (apply q_mvT <;> apply rr) | (apply q_mvF <;> apply rr) | (apply q_asF <;> apply rr) | (apply q_asU <;> apply rr)))))
  case neg.some.driver =>
   refine ⟨(k + 1, addDriver x w1 p), rdT ⟨hkl, ?_, ?_, hb3, Int.le_trans hb4 (by show (k : Int) ≤ ((k + 1 : Nat) : Int); omega), hb5, hr3⟩ ?_ (now_driver hgt rfl rfl rfl ⟨rfl, rfl, rfl, rfl, rfl, rfl, rfl, trivial⟩)⟩
   ·show (x.drivers ++ [_]).length ≤ k + 1
    rw [List.length_append]; exact Nat.succ_le_succ hb1
   ·show (lastH (x.drivers ++ [_])).length ≤ k + 1
    rw [lastH_snoc]; exact Nat.zero_le _
   ·show ini.length - (k + 1) < ini.length - k
    omega
  case neg.some.turn =>
   have e : addTurn ⟨ts ++ [t], tn, en, sm⟩ t (mkTurn a b c d) = ⟨ts ++ [⟨t.Name, t.Skills, t.Turns ++ [mkTurn a b c d]⟩], tn + 1, en, sm⟩ := by unfold addTurn; simp
   rw [e] at hr3
   refine ⟨(k + 1, ⟨ts ++ [⟨t.Name, t.Skills, t.Turns ++ [mkTurn a b c d]⟩], tn + 1, en, sm⟩), rdT ⟨hkl, ?_, ?_, ?_, ?_, hb5, hr3⟩ ?_ (now_turn (t := ⟨t.Name, t.Skills, t.Turns ++ [mkTurn a b c d]⟩) hgt rfl rfl rfl rfl ⟨rfl, rfl, rfl, rfl, rfl, rfl, rfl, trivial⟩)⟩
   ·show (ts ++ [_]).length ≤ k + 1
    rw [List.length_append]; exact Nat.le_succ_of_le hb6
   ·show (lastH (ts ++ [_])).length ≤ k + 1
    rw [lastH_snoc, List.length_append]; exact Nat.succ_le_succ hb7
   ·show 0 ≤ tn + 1
    omega
   ·show tn + 1 ≤ ((k + 1 : Nat) : Int)
    omega
   ·show ini.length - (k + 1) < ini.length - k
    omega
  case neg.some.fin =>
   refine ⟨(k + 1, ⟨x.drivers, x.turns, (k : Int) + 1, p⟩), rdT ⟨hkl, Nat.le_succ_of_le hb1, Nat.le_succ_of_le hb2, hb3, Int.le_trans hb4 (by show (k : Int) ≤ ((k + 1 : Nat) : Int); omega), (by show 0 ≤ (k : Int) + 1; omega), hr3⟩ ?_ (now_fin (decide_eq_true (by show (k : Int) + 1 > 0; omega)) rfl rfl ⟨rfl, rfl, rfl, rfl, rfl, rfl, rfl, trivial⟩)⟩
   show ini.length - (k + 1) < ini.length - k
   omega
  all_goals exact fin_no rfl rfl rfl
noncomputable section
def Read : ByteArray → Option (List Driver × Int × Int) := opq readF
theorem Read_eq (t : ByteArray) : Read t = readF t := by unfold Read; rw [opq_eq]
def sp12 : FnSpec iseat.toSeat := mkSpec iseat.toSeat 12 [.str] [.sl .Driver, .int .i64, .int .i64] false (fun a => Read a.1) (fun a x hx h h' => by
 obtain ⟨t, u⟩ := a
 obtain ⟨c, r, e⟩ := x
 replace hx : Read t = some (c, r, e) := hx
 rw [Read_eq] at hx
 exact c12 hx) (fun h => nomatch h)
end
end Go.Proofs.Tp09
namespace Go.Ab
open Go Go.RowKit
set_option linter.all false
def Ok {α : Type} (P : α → Prop) (x : Option α) : Prop := ∃ a, x = some a ∧ P a
section
variable {α β : Type} {P : α → Prop} {Q : β → Prop}
theorem Ok.some {a : α} (h : P a) : Ok P (some a) := ⟨a, rfl, h⟩
theorem Ok.bind {x : Option α} {f : α → Option β} (hx : Ok P x) (hf : ∀ a, P a → Ok Q (f a)) : Ok Q (x.bind f) := by
 obtain ⟨a, rfl, ha⟩ := hx
 exact hf a ha
theorem Ok.mono {P' : α → Prop} {x : Option α} (hx : Ok P x) (h : ∀ a, P a → P' a) : Ok P' x := by
 obtain ⟨a, rfl, ha⟩ := hx
 exact ⟨a, rfl, h a ha⟩
theorem Ok.chk {b : Bool} {x : Option α} (hb : b = true) (hx : Ok P x) : Ok P (chk b x) := by subst hb; exact hx
theorem Ok.ite {c : Bool} {x y : Option α} (hx : c = true → Ok P x) (hy : c = false → Ok P y) : Ok P (bif c then x else y) := by
 cases c with
 | true => exact hx rfl
 | false => exact hy rfl
theorem Ok.rounds {γ : Type} {F : γ → (γ → Option α) → Option α} {v0 : γ} (inv : γ → Prop) (μ : γ → Nat) (hμ : μ v0 < FUEL) (h0 : inv v0)
  (step : ∀ v kn, inv v → (∀ v', inv v' → μ v' < μ v → Ok P (kn v')) → Ok P (F v kn)) : Ok P (itN γ F v0) := by
 have key : ∀ n v, inv v → μ v < n → Ok P (iter F n v) := by
  intro n
  induction n with
  | zero => intro v _ h; omega
  | succ n ih =>
   intro v hv hn
   exact step v (iter F n) hv fun v' hv' hlt => ih v' hv' (by omega)
 exact key FUEL v0 h0 hμ
end
theorem w64_id {n : Int} (h1 : -9223372036854775808 ≤ n) (h2 : n ≤ 9223372036854775807) : w64 n = n := by
 unfold w64 IntKind.wrap
 simp [IntKind.bits, IntKind.signed, Int.bmod_def]
 omega
end Go.Ab
