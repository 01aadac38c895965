/- Walks by computing: what each function of the program that the laws reach gives for what it gets, as plain Lean, and that it is so; without a condition but those that stand in each theorem. -/
import Derived.Test.YtbkogeihjcnejaaGreatDoorCards
import Derived.Test.YtbkogeihjcnejaaGreatDoorTie
import Derived.WalkKit
import Derived.ProofKit
import Derived.OpenShut
import Derived.Deep.Slices
import Derived.Deep.DeepHandedRow
import Derived.Lib.LaidTab
import Derived.Shelf.Vars
import Derived.Test.YtbkogeihjcnejaaGreatDoorW1
import Derived.Test.YtbkogeihjcnejaaGreatDoorW2
import Derived.Test.YtbkogeihjcnejaaGreatDoorW3
import Derived.Test.YtbkogeihjcnejaaGreatDoorW4
import Derived.Test.YtbkogeihjcnejaaGreatDoorW5
import Derived.Test.YtbkogeihjcnejaaGreatDoorW6
import Derived.Test.YtbkogeihjcnejaaGreatDoorW7
import Derived.Test.YtbkogeihjcnejaaGreatDoorW8
import Derived.Test.YtbkogeihjcnejaaGreatDoorW9
import Derived.Test.YtbkogeihjcnejaaGreatDoorW10
import Derived.Test.YtbkogeihjcnejaaGreatDoorW11
import Derived.Test.YtbkogeihjcnejaaGreatDoorW12
import Derived.Test.YtbkogeihjcnejaaGreatDoorW13
import Derived.Test.YtbkogeihjcnejaaGreatDoorW14
import Derived.Test.YtbkogeihjcnejaaGreatDoorW15
import Derived.Test.YtbkogeihjcnejaaGreatDoorW16
import Derived.Test.YtbkogeihjcnejaaGreatDoorW17
set_option linter.all false
namespace Go.Proofs.Tp09
open Go Go.Ab
open Go.Proofs.YtbkogeihjcnejaaGreatDoor (iseat)
set_option linter.all false
set_option maxRecDepth 100000
set_option maxHeartbeats 4000000
attribute [local irreducible] W WL QOp NOp thenQ blockQ WG FQ Want WI WIL thenI blockI
theorem c35 {s : ByteArray} {c : UInt8} (h : s.size ≤ 1000000) : Contract Z0 35 [.str s, .int .u8 (c.toNat : Int)] (.sl 1 (Tx.splitV s ⟨#[c]⟩).length (wordsD (Tx.splitV s ⟨#[c]⟩))) := by
 have h2 := fn_contract (Z := iseat) (ats := [.str, .int .u8]) (ts := [.sl .str]) (E := E35) (fn := Tryz.f35) (c := bodyOf Tryz.f35) Tryz.func35 (by kernel_rfl) (by kernel_rfl) (by kernel_rfl) (by kernel_rfl) rfl (a := (s, (c.toNat : Int), ())) (x := Tx.splitV s ⟨#[c]⟩) ((e35 itN s (c.toNat : Int)).trans ((split09_eq s _).symm.trans (split09_ok h))) zh zh
 exact h2
theorem c36 {ws : List ByteArray} {m : Int} {l : List Int} {b : Bool} (h : numbers09 ws m = some (l, b)) : Contract Z0 36 [.sl 1 ws.length (wordsD ws), .int .i64 m] (.tup [.sl 1 l.length (fun i => [.int .i64 (l.getD i 0)]), .bool b]) := by
 have h2 := fn_contract (Z := iseat) (ats := [.sl .str, .int .i64]) (ts := [.sl (.int .i64), .bool]) (E := E36) (fn := Tryz.f36) (c := bodyOf Tryz.f36) Tryz.func36 (by kernel_rfl) (by kernel_rfl) (by kernel_rfl) (by kernel_rfl) rfl (a := (ws, m, ())) (x := (l, b)) ((e36 itN ws m).trans ((numbers09_eq ws m).symm.trans h)) zh zh
 exact h2
theorem c29 {l : List Driver} {e : Int} (hz : Sized l) (h : pChecks l = some e) : Contract Z0 29 [.sl 3 l.length (encTs l)] (.int .i64 e) := by
 have h2 := fn_contract (Z := iseat) (ats := [.sl .Driver]) (ts := [.int .i64]) (E := E29) (fn := Tryz.f29) (c := bodyOf Tryz.f29) Tryz.func29 (by kernel_rfl) (by kernel_rfl) (by kernel_rfl) (by kernel_rfl) rfl (a := (l, ())) (x := e) ((e29 itN l).trans ((rChecks_eq l).symm.trans ((checks_it l hz).trans h))) zh zh
 exact h2
inductive Bad9 (r : Reader) (w0 : ByteArray) : List ByteArray → Prop
 | late (ws : List ByteArray) : decide (r.end_ > 0) = true → Bad9 r w0 ws
 | other (ws : List ByteArray) : decide (r.end_ > 0) = false → eqB w0 bDriver = false → eqB w0 bTurn = false → eqB w0 bEnd = false → Bad9 r w0 ws
 | dLen (ws : List ByteArray) : decide (r.end_ > 0) = false → eqB w0 bDriver = true → (((ws.length + 1 : Nat) : Int) == 3) = false → Bad9 r w0 ws
 | dEmpty (w1 w2 : ByteArray) : decide (r.end_ > 0) = false → eqB w0 bDriver = true → eqB w1 ⟨#[]⟩ = true → Bad9 r w0 [w1, w2]
 | dNum (w1 w2 : ByteArray) : decide (r.end_ > 0) = false → eqB w0 bDriver = true → eqB w1 ⟨#[]⟩ = false → numbers09 [w2] 1 = some ([], false) → Bad9 r w0 [w1, w2]
 | tNone (ws : List ByteArray) : decide (r.end_ > 0) = false → eqB w0 bTurn = true → decide ((r.drivers.length : Int) > 0) = false → Bad9 r w0 ws
 | tNum (ws : List ByteArray) : decide (r.end_ > 0) = false → eqB w0 bTurn = true → decide ((r.drivers.length : Int) > 0) = true → numbers09 ws 4 = some ([], false) → Bad9 r w0 ws
 | eNum (ws : List ByteArray) : decide (r.end_ > 0) = false → eqB w0 bEnd = true → numbers09 ws 1 = some ([], false) → Bad9 r w0 ws
theorem bad9_of {k : Nat} {r : Reader} {w0 : ByteArray} {ws : List ByteArray} (hl : ws.length ≤ 1000000) (hs : ∀ w ∈ ws, w.size ≤ 1000000) (h : goodRow k r (w0 :: ws) = none) : Bad9 r w0 ws := by
 unfold goodRow at h
 simp only at h
 cases he : decide (r.end_ > 0) with
 | true => exact .late _ he
 | false =>
  rw [he, cond_false] at h
  cases h0 : eqB w0 bDriver with
  | true =>
   rw [h0, cond_true] at h
   match ws, h, hl, hs with
   | [], _, _, _ => exact .dLen _ he h0 rfl
   | [w1], _, _, _ => exact .dLen _ he h0 rfl
   | w1 :: w2 :: w3 :: r', _, _, _ => exact .dLen _ he h0 (by simp only [List.length_cons]; rw [beq_eq_false_iff_ne]; omega)
   | [w1, w2], h, hl, hs =>
    simp only at h
    cases h1 : eqB w1 ⟨#[]⟩ with
    | true => exact .dEmpty w1 w2 he h0 h1
    | false =>
     rw [h1, cond_false] at h
     rcases numbers_both (ws := [w2]) (m := 1) (by show 1 ≤ 1000000; omega) (fun w hw => hs w (List.mem_cons_of_mem _ hw)) with ⟨ns, a, _, c⟩ | ⟨_, b⟩
     ·obtain ⟨x, rfl⟩ := len1 c
      rw [a] at h; cases h
     ·exact .dNum w1 w2 he h0 h1 b
  | false =>
   rw [h0, cond_false] at h
   cases h1 : eqB w0 bTurn with
   | true =>
    rw [h1, cond_true] at h
    cases hn : decide ((r.drivers.length : Int) > 0) with
    | false => exact .tNone _ he h1 hn
    | true =>
     have hne : r.drivers ≠ [] := fun e => by rw [e] at hn; exact absurd hn (by decide)
     rw [last_at hne] at h
     simp only at h
     rcases numbers_both (m := 4) hl hs with ⟨ns, a, _, c⟩ | ⟨_, b⟩
     ·obtain ⟨x, y, z, v, rfl⟩ := len4 c
      rw [a] at h; cases h
     ·exact .tNum _ he h1 hn b
   | false =>
    rw [h1, cond_false] at h
    cases h2 : eqB w0 bEnd with
    | false => exact .other _ he h0 h1 h2
    | true =>
     rw [h2, cond_true] at h
     rcases numbers_both (m := 1) hl hs with ⟨ns, a, _, c⟩ | ⟨_, b⟩
     ·obtain ⟨x, rfl⟩ := len1 c
      rw [a] at h; cases h
     ·exact .eNum _ he h2 b
def os3 (r : Reader) (h : Nat → Nat) : List (Nat × Ab.Own) := [(100, .arr 27 3 r.drivers.length (lhT r.drivers (h 101))), (101, .arr 75 4 (lastH r.drivers).length (encHs (lastH r.drivers)))]
def os2 (r : Reader) : List (Nat × Ab.Own) := [(100, .arr 27 3 r.drivers.length (encTs r.drivers))]
def rs3 (ini : List ByteArray) (lst : ByteArray) (k : Nat) (r : Reader) (o : D) : List (Nat × D) := [(5, .sl 1 (ini.length + 1) (rowsD (ini ++ [lst]))), (6, o), (7, .int .i64 r.turns), (8, .int .i64 r.end_), (9, .int .i64 r.sum), (10, .int .i64 (k : Int))]
theorem wk_trk3 {X : Ctx} {rs : List (Nat × D)} {r : Reader} {h : Nat → Nat} (hx : ∀ s, s < 200 → X.xa s = false) : Wk X (mkF rs (os3 r h) h bg0) (mkF rs (os2 r) h bg0) := by
 have hm : ∀ {S' : St}, Wk X (mkF rs (os3 r h) h bg0) S' → S'.ρ = (mkF rs (os3 r h) h bg0).ρ → S'.γ = h → S'.σ 100 = .arr 27 3 r.drivers.length (encTs r.drivers) → Wk X (mkF rs (os3 r h) h bg0) (mkF rs (os2 r) h bg0) := fun {S'} hw hr hg h3 => by
  refine hw.trans (wk_gen (fun i => ?_) (fun s => ?_) (fun s => ?_))
  ·right; rw [hr]; rfl
  ·rw [hg]; exact Nat.le_refl _
  ·exact mk_sub (os := os2 r) (f := S'.σ) ⟨h3, trivial⟩ s
 by_cases hn : r.drivers = []
 ·refine hm (Wk.refl _ _) rfl rfl ?_
  show Ab.Own.arr 27 3 r.drivers.length (lhT r.drivers (h 101)) = _
  rw [hn, show lhT [] (h 101) = encTs [] from funext fun i => if_neg (by simp)]
 ·have hl := List.length_pos_iff.2 hn
  have hw := wk_freeze_elem (X := X) (S := mkF rs (os3 r h) h bg0) 100 (r.drivers.length - 1) 2 (s := 101) (g := h 101) (E := 75) (z := 4) (n := (lastH r.drivers).length) (f := encHs (lastH r.drivers)) (E2 := 27) (z2 := 3) (n2 := r.drivers.length) (f2 := lhT r.drivers (h 101)) (f2' := encTs r.drivers) (l0 := lastT (r.drivers.getD (r.drivers.length - 1) dfltDriver) 101 (h 101)) (l' := encTs r.drivers (r.drivers.length - 1)) rfl rfl (by omega) (by unfold lhT; rw [if_pos (by omega)]) rfl rfl rfl (by
   have e : lastH r.drivers = (r.drivers.getD (r.drivers.length - 1) dfltDriver).Turns := by unfold lastH; rw [last_at hn]
   rw [e]; rfl) (fun k hk => by
   split
   ·rename_i e; rw [e]
   ·rename_i e; unfold lhT; rw [if_neg (by omega)]) (hx _ (by decide))
  exact hm hw rfl rfl (upd_same (upd (mkF rs (os3 r h) h bg0).σ 101 .none) 100 (.arr 27 3 r.drivers.length (encTs r.drivers)))
theorem wk_all3 {X : Ctx} {ini : List ByteArray} {lst : ByteArray} {k : Nat} {r : Reader} {h : Nat → Nat} (hx : ∀ s, s < 200 → X.xa s = false) : Wk X (mkF (rs3 ini lst k r (.os 100 (h 100))) (os3 r h) h bg0) (mkF (rs3 ini lst k r (.sl 3 r.drivers.length (encTs r.drivers))) [] h bg0) := by
 have hw := wk_freeze (X := X) (S := mkF (rs3 ini lst k r (.os 100 (h 100))) (os2 r) h bg0) 6 (s := 100) (g := h 100) (E := 27) (z := 3) (n := r.drivers.length) (f := encTs r.drivers) rfl rfl rfl (hx _ (by decide))
 refine ((wk_trk3 hx).trans hw).trans (wk_gen (fun i => ?_) (fun s => Nat.le_refl _) (fun s => mk_sub (os := []) (f := fun _ => .none) trivial s |>.elim .inl .inl))
 exact look_ok (f := upd (mkF (rs3 ini lst k r (.os 100 (h 100))) (os2 r) h bg0).ρ 6 (.sl 3 r.drivers.length (encTs r.drivers))) (l := rs3 ini lst k r (.sl 3 r.drivers.length (encTs r.drivers))) ⟨rfl, rfl, rfl, rfl, rfl, rfl, trivial⟩ i
section
variable {X : Ctx} {S : St} {ini : List ByteArray} {lst : ByteArray}
def Now3 (X : Ctx) (ini : List ByteArray) (lst : ByteArray) (S : St) (k : Nat) (r : Reader) : Prop := ∃ S', Wk X S S' ∧ MatchF S' (rs3 ini lst k r (.os 100 (S'.γ 100))) (os3 r S'.γ) bg0
theorem now3_zero (h6 : S.ρ 6 = .nil) (h5 : S.ρ 5 = .sl 1 (ini.length + 1) (rowsD (ini ++ [lst]))) (h7 : S.ρ 7 = .int .i64 0) (h8 : S.ρ 8 = .int .i64 0) (h9 : S.ρ 9 = .int .i64 0) (h10 : S.ρ 10 = .int .i64 0) : Now3 X ini lst S 0 zeroR := by
 have w1 := wk_nil (X := X) (S := S) 6 100 27 3 (lhT [] (S.γ 101 + 1)) h6
 have w2 := wk_new (X := X) (S := S.owned 6 100 (.arr 27 3 0 (lhT [] (S.γ 101 + 1)))) 101 75 4 (encHs [])
 exact ⟨_, w1.trans w2, ⟨h5, rfl, h7, h8, h9, h10, trivial⟩, ⟨rfl, rfl, trivial⟩, fun _ _ => .inl rfl⟩
theorem now3_driver {k : Nat} {m e s p : Int} {w : ByteArray} {ts : List Driver} (s1 : S.σ 100 = .arr 27 3 (ts.length + 1) (addT ts w p)) (hr : AllE S.ρ (rs3 ini lst k ⟨ts ++ [⟨w, p, []⟩], m, e, s⟩ (.os 100 (S.γ 100)))) : Now3 X ini lst S k ⟨ts ++ [⟨w, p, []⟩], m, e, s⟩ := by
 have w1 := wk_nil_elem (X := X) (S := S) 100 ts.length 2 101 75 4 (encHs []) (f2' := holG ts ⟨w, p, []⟩ (S.γ 101 + 1)) (l' := lastT ⟨w, p, []⟩ 101 (S.γ 101 + 1)) s1 (by decide) (Nat.lt_succ_self _) (by unfold addT; rw [if_neg (Nat.lt_irrefl _)]; rfl) (by unfold addT; rw [if_neg (Nat.lt_irrefl _)]; rfl) (fun k hk => by
  unfold holG addT
  by_cases e : k = ts.length
  ·rw [if_pos e, if_pos e]
  ·rw [if_neg e, if_neg e, if_pos (by omega)])
 refine ⟨_, w1, hr, ?_, fun _ _ => .inl rfl⟩
 unfold os3
 rw [lhT_snoc, lastH_snoc, List.length_append]
 exact ⟨rfl, rfl, trivial⟩
theorem now3_turn {k : Nat} {m e s : Int} {ts : List Driver} {t : Driver} {hs : List Turn} {f : Nat → List D} (s1 : S.σ 100 = .arr 27 3 (ts.length + 1) f) (hf : ∀ i, f i = holG ts t (S.γ 101) i) (s3 : S.σ 101 = .arr 75 4 hs.length (encHs hs)) (hr : AllE S.ρ (rs3 ini lst k ⟨ts ++ [⟨t.Name, t.Skills, hs⟩], m, e, s⟩ (.os 100 (S.γ 100)))) : Now3 X ini lst S k ⟨ts ++ [⟨t.Name, t.Skills, hs⟩], m, e, s⟩ := by
 refine ⟨S, Wk.refl _ _, hr, ?_, fun _ _ => .inl rfl⟩
 unfold os3
 rw [lhT_snoc, lastH_snoc, List.length_append]
 exact ⟨s1.trans (by rw [show f = holG ts t (S.γ 101) from funext hf]; rfl), s3, trivial⟩
theorem rd3 {k : Nat} {P M : Prop} {r : Reader} (hp : P) (hm : M) (h : Now3 X ini lst S k r) : ∃ S'', P ∧ M ∧ Wk X S S'' ∧ MatchF S'' (rs3 ini lst k r (.os 100 (S''.γ 100))) (os3 r S''.γ) bg0 := let ⟨S'', h1, h2⟩ := h; ⟨S'', hp, hm, h1, h2⟩
end
theorem holG_upd {ts : List Driver} {t : Driver} {g g' k : Nat} (hk : k = ts.length) (i : Nat) : updF (holG ts t g) k (lastT t 101 g') i = holG ts t g' i := by
 subst hk
 by_cases e : i = ts.length
 ·subst e; rw [updF_same]; unfold holG; rw [if_pos rfl]
 ·rw [updF_ne _ _ e]; unfold holG; rw [if_neg e, if_neg e]
theorem words_c {row : ByteArray} {w0 : ByteArray} {r : List ByteArray} (hs : row.size ≤ 1000000) (h : Tx.splitV row bSp = w0 :: r) : Contract Z0 35 [.str row, .int .u8 32] (.sl 1 (r.length + 1) (wordsD (w0 :: r))) := by
 have := c35 (s := row) (c := 32) hs
 rw [show Tx.splitV row ⟨#[32]⟩ = w0 :: r from h] at this
 exact this
theorem eqB_no {s t u : ByteArray} (h : eqB s t = true) (hu : (t.data.toList == u.data.toList) = false) : (s.toList == u.toList) = false := by rw [bl_eq h, bl_data]; exact hu
theorem c13 {text : ByteArray} {l : List Driver} {row e : Int} (h : readF text = some (l, row, e)) : Contract Z0 13 [.str text] (.tup [.sl 3 l.length (encTs l), .int .i64 row, .int .i64 e]) := by
 unfold readF at h
 refine contract_introN (fn := Tryz.f13) Tryz.func13 rfl (by kernel_rfl) rfl (PureL.cons (.str _) PureL.nil) (.tup _ (PureL.cons (.sl _ _ _ (fun i _ => encD_pure _ _)) (PureL.cons (.int _ _) (PureL.cons (.int _ _) PureL.nil)))) ?_
 intro w κ
 cases hsz : decide ((text.size : Int) > 10000)
 case' true =>
  rw [hsz] at h
  cases h
 case' false =>
  rw [hsz] at h
  have hts : text.size ≤ 10000 := by have := of_decide_eq_false hsz; omega
  obtain ⟨ho, h⟩ := chk_some h
  obtain ⟨lst, hl, h⟩ : ∃ lst, (Tx.splitV text bNl).getLast? = some lst ∧ chk (decide ((Tx.splitV text bNl).length ≤ 1000000)) ((readL (Tx.splitV text bNl).dropLast 0 zeroR).bind (readT ((Tx.splitV text bNl).length - 1) lst)) = some (l, row, e) := by
   split at h
   ·cases h
   ·rename_i lst hl
    exact ⟨lst, hl, h⟩
  obtain ⟨hm, h⟩ := chk_some h
  obtain ⟨ini, hini⟩ := List.getLast?_eq_some_iff.1 hl
  have PT : Pieces text 10 (ini ++ [lst]) := hini ▸ pieces text 10
  have cw : Contract Z0 35 [.str text, .int .u8 10] (.sl 1 (ini.length + 1) (rowsD (ini ++ [lst]))) := by
   have := c35 (s := text) (c := 10) (by omega)
   rw [show Tx.splitV text ⟨#[10]⟩ = ini ++ [lst] from hini] at this
   have this : Contract Z0 35 [.str text, .int .u8 10] (.sl 1 (ini ++ [lst]).length (rowsD (ini ++ [lst]))) := this
   rw [List.length_append] at this
   exact this
  rw [hini] at h
  rw [List.dropLast_concat, List.length_append, show ini.length + [lst].length - 1 = ini.length from rfl] at h
  have hm : ini.length + 1 ≤ 10001 := by
   have := PT.len
   rw [List.length_append] at this
   have h1 : [lst].length = 1 := rfl
   omega
  have hsub : ((ini.length + 1 : Nat) : Int) - 1 = (ini.length : Int) := by omega
  clear hini hl ho
 all_goals
  repeat' (first
  | (apply WL_q; apply rr; apply rr; apply q_mvY; apply rr; apply rr)
  | (apply WL_q; apply rr; apply rr; apply q_asY; apply rr; apply rr)
  | (apply WL_q; apply rr; apply rr; apply q_lenS; apply rr; apply rr; apply rr; exact Tryz.underlying9)
  | (apply WL_q; apply rr; apply rr; apply q_cmpB; apply rr; apply rr; apply rr; apply rr; (first | exact hsz))
  | (apply WL_q; apply rr; apply rr; (first | (apply q_mvI <;> apply rr) | (apply q_asI <;> apply rr) | (apply q_mvB <;> apply rr) | (apply q_asB <;> apply rr) | (apply q_not <;> apply rr) | (apply q_ldr <;> apply rr) | (apply q_arith <;> (first | apply rr | omega)) | (apply q_len <;> apply rr) | (apply q_ext <;> apply rr) | (apply q_pkT <;> apply rr) | (apply q_pkF <;> apply rr) | (apply q_ia <;> (first | apply rr | omega)) | (apply q_ldo <;> (first | apply rr | omega)) | (apply q_fao <;> apply rr) | (apply q_iao <;> (first | apply rr | omega)) | (apply q_leno <;> apply rr) | (apply q_mvS <;> apply rr) | (apply q_asS <;> apply rr) | (apply q_mvO <;> apply rr) | (apply q_asO <;> apply rr) | (apply q_asN <;> apply rr) | (apply q_ncko <;> apply rr) | (apply q_mvT <;> apply rr) | (apply q_mvP <;> apply rr) | (apply q_asP <;> apply rr)))
  | apply W_seq
  | apply W_region
  | apply T_normal
  | apply WL_nil
  | apply T_exit
  | apply T_ret
  | apply B_normal
  | apply B_ret
  | apply B_exit_eq
  | apply W_skip
  | apply W_exit
  | apply W_ret
  | apply W_block
  | (apply W_condT; apply rr)
  | (apply W_condF; apply rr)
  | (apply WL_call; apply rr; apply rr; rotate_left 1; apply rr; rotate_right 1; exact (cw); apply rr)
  | (apply WL_yes; apply rr; apply rr; apply rr)
  | apply W_regionG
  | (apply WG_nil; kernel_rfl)
  | (apply WG_q; (first | (apply want_none; apply rr) | (apply want_some; apply rr; apply rr; apply rr)); apply rr; first | (apply fq_bld <;> apply rr) | (apply fq_blda <;> apply rr) | (apply fq_fn; apply rr) | (apply fq_mf; apply rr) | (apply FQ_intro; intro _; (first | (apply q_mvI <;> apply rr) | (apply q_asI <;> apply rr) | (apply q_mvB <;> apply rr) | (apply q_asB <;> apply rr) | (apply q_not <;> apply rr) | (apply q_ldr <;> apply rr) | (apply q_arith <;> (first | apply rr | omega)) | (apply q_len <;> apply rr) | (apply q_ext <;> apply rr) | (apply q_pkT <;> apply rr) | (apply q_pkF <;> apply rr) | (apply q_ia <;> (first | apply rr | omega)) | (apply q_ldo <;> (first | apply rr | omega)) | (apply q_fao <;> apply rr) | (apply q_iao <;> (first | apply rr | omega)) | (apply q_leno <;> apply rr) | (apply q_mvS <;> apply rr) | (apply q_asS <;> apply rr) | (apply q_mvO <;> apply rr) | (apply q_asO <;> apply rr) | (apply q_asN <;> apply rr) | (apply q_ncko <;> apply rr) | (apply q_mvT <;> apply rr) | (apply q_mvP <;> apply rr) | (apply q_asP <;> apply rr))))
  | (apply WG_n; (first | (apply want_none; apply rr) | (apply want_some; apply rr; apply rr; apply rr)); (first | (apply f_bsl <;> apply rr) | (apply f_sto <;> (first | apply rr | omega)))))
 case true => exact fin_no rfl rfl rfl
 case false =>
  refine W_wkE (P := fun S' => MatchF S' (rs3 ini lst 0 zeroR (.os 100 (S'.γ 100))) (os3 zeroR S'.γ) bg0) ?_ ?_
  ·exact now3_zero rfl rfl rfl rfl rfl rfl
  intro S' hS
  refine W_loopF (α := Nat × Reader) (fun x h => rs3 ini lst x.1 x.2 (.os 100 (h 100))) (fun x h => os3 x.2 h) (fun _ _ => bg0) (fun x => x.1 ≤ ini.length ∧ x.2.drivers.length ≤ x.1 ∧ (∀ d ∈ x.2.drivers, d.Name.size ≤ 1000000 ∧ d.Turns.length ≤ x.1) ∧ 0 ≤ x.2.turns ∧ x.2.turns ≤ x.1 ∧ 0 ≤ x.2.end_ ∧ (readL (ini.drop x.1) x.1 x.2).bind (readT ini.length lst) = some (l, row, e)) (fun x => ini.length - x.1) (0, zeroR) ⟨Nat.zero_le _, Nat.le_refl _, (fun d hd => by cases hd), Int.le_refl _, Int.le_refl _, Int.le_refl _, h⟩ hS ?_
  clear h hS S'
  rintro ⟨k, x⟩ hh ⟨hk, hb1, hb2, hb3, hb4, hb5, hr⟩
  simp only at hk hb1 hb2 hb3 hb4 hb5 hr ⊢
  by_cases hkn : k = ini.length
  ·rw [show ini.drop k = [] by rw [hkn]; exact List.drop_length] at hr
   have hr : readT ini.length lst (.ok x) = some (l, row, e) := hr
   have hge : decide ((k : Int) < (ini.length : Int)) = false := decide_eq_false (by omega)
   have hZ : Sized x.drivers := fun d hd => ⟨(hb2 d hd).1, Nat.le_trans (hb2 d hd).2 (by omega)⟩
   refine W_wk (wk_all3 fun _ _ => rfl) ?_
   unfold readT at hr
   simp only at hr
   have hgl : (ini ++ [lst]).getD ini.length ⟨#[]⟩ = lst := by simp [List.getD_eq_getElem?_getD]
   cases hz0 : (x.end_ == 0)
   case' true =>
    rw [hz0] at hr
    cases hr
   case' false =>
    rw [hz0] at hr
    cases hl : eqB lst ⟨#[]⟩
    case' false =>
     rw [hl] at hr
     cases hr
     have hls : (!(((ini ++ [lst]).getD ini.length ⟨#[]⟩).toList == (⟨#[]⟩ : ByteArray).toList)) = true := by rw [hgl]; unfold eqB at hl; rw [hl]; rfl
    case' true =>
     rw [hl] at hr
     have hls : (!(((ini ++ [lst]).getD ini.length ⟨#[]⟩).toList == (⟨#[]⟩ : ByteArray).toList)) = false := by rw [hgl]; unfold eqB at hl; rw [hl]; rfl
     cases hsm : (x.sum != x.turns)
     case' true =>
      rw [hsm] at hr
      cases hr
     case' false =>
      rw [hsm] at hr
      obtain ⟨e0, hp, hr⟩ := Option.bind_eq_some_iff.1 hr
      have cp := c29 hZ hp
      cases hbe : (e0 != 0)
      case' true =>
       rw [hbe] at hr
       cases hr
      case' false =>
       rw [hbe] at hr
       cases hr
   all_goals
    repeat' (first
  | (apply WL_q; apply rr; apply rr; apply q_mvY; apply rr; apply rr)
  | (apply WL_q; apply rr; apply rr; apply q_asY; apply rr; apply rr)
  | (apply WL_q; apply rr; apply rr; refine q_arithB rfl rfl rfl rfl ?_ ?_ hsub; omega; omega)
  | (apply WL_q; apply rr; apply rr; apply q_cmpB; apply rr; apply rr; apply rr; apply rr; (first | exact hge | exact hz0 | exact hsm | exact hbe))
  | (apply WL_q; apply rr; apply rr; apply q_neSB; apply rr; apply rr; apply rr; exact hls)
  | (apply WL_noE; apply rr; apply rr; apply rr; apply rr; apply rr)
  | (apply WL_q; apply rr; apply rr; (first | (apply q_mvI <;> apply rr) | (apply q_asI <;> apply rr) | (apply q_mvB <;> apply rr) | (apply q_asB <;> apply rr) | (apply q_not <;> apply rr) | (apply q_ldr <;> apply rr) | (apply q_arith <;> (first | apply rr | omega)) | (apply q_len <;> apply rr) | (apply q_ext <;> apply rr) | (apply q_pkT <;> apply rr) | (apply q_pkF <;> apply rr) | (apply q_ia <;> (first | apply rr | omega)) | (apply q_ldo <;> (first | apply rr | omega)) | (apply q_fao <;> apply rr) | (apply q_iao <;> (first | apply rr | omega)) | (apply q_leno <;> apply rr) | (apply q_mvS <;> apply rr) | (apply q_asS <;> apply rr) | (apply q_mvO <;> apply rr) | (apply q_asO <;> apply rr) | (apply q_asN <;> apply rr) | (apply q_ncko <;> apply rr) | (apply q_mvT <;> apply rr) | (apply q_mvP <;> apply rr) | (apply q_asP <;> apply rr)))
  | apply W_seq
  | apply W_region
  | apply T_normal
  | apply WL_nil
  | apply T_exit
  | apply T_ret
  | apply B_normal
  | apply B_ret
  | apply B_exit_eq
  | apply W_skip
  | apply W_exit
  | apply W_ret
  | apply W_block
  | (apply W_condT; apply rr)
  | (apply W_condF; apply rr)
  | (apply WL_call; apply rr; apply rr; rotate_left 1; apply rr; rotate_right 1; exact (cp); apply rr)
  | (apply WL_yes; apply rr; apply rr; apply rr)
  | apply W_regionG
  | (apply WG_nil; kernel_rfl)
  | (apply WG_q; (first | (apply want_none; apply rr) | (apply want_some; apply rr; apply rr; apply rr)); apply rr; first | (apply fq_bld <;> apply rr) | (apply fq_blda <;> apply rr) | (apply fq_fn; apply rr) | (apply fq_mf; apply rr) | (apply FQ_intro; intro _; (first | (apply q_mvI <;> apply rr) | (apply q_asI <;> apply rr) | (apply q_mvB <;> apply rr) | (apply q_asB <;> apply rr) | (apply q_not <;> apply rr) | (apply q_ldr <;> apply rr) | (apply q_arith <;> (first | apply rr | omega)) | (apply q_len <;> apply rr) | (apply q_ext <;> apply rr) | (apply q_pkT <;> apply rr) | (apply q_pkF <;> apply rr) | (apply q_ia <;> (first | apply rr | omega)) | (apply q_ldo <;> (first | apply rr | omega)) | (apply q_fao <;> apply rr) | (apply q_iao <;> (first | apply rr | omega)) | (apply q_leno <;> apply rr) | (apply q_mvS <;> apply rr) | (apply q_asS <;> apply rr) | (apply q_mvO <;> apply rr) | (apply q_asO <;> apply rr) | (apply q_asN <;> apply rr) | (apply q_ncko <;> apply rr) | (apply q_mvT <;> apply rr) | (apply q_mvP <;> apply rr) | (apply q_asP <;> apply rr))))
  | (apply WG_n; (first | (apply want_none; apply rr) | (apply want_some; apply rr; apply rr; apply rr)); (first | (apply f_bsl <;> apply rr) | (apply f_sto <;> (first | apply rr | omega)))))
   all_goals first | exact fin_no rfl rfl rfl | exact fin_ok rfl rfl rfl
  have hlt : decide ((k : Int) < (ini.length : Int)) = true := decide_eq_true (by omega)
  have hkl : k < ini.length := by omega
  rw [List.drop_eq_getElem_cons hkl] at hr
  have hrow : ini[k] = (ini ++ [lst]).getD k ⟨#[]⟩ := by rw [List.getD_eq_getElem?_getD, List.getElem?_append_left hkl, List.getElem?_eq_getElem hkl]; rfl
  have hrs : ((ini ++ [lst]).getD k ⟨#[]⟩).size ≤ 10000 := by
   have := PT.mem _ (List.mem_append_left [lst] (List.getElem_mem hkl))
   rw [hrow] at this
   omega
  rw [hrow] at hr
  unfold readL at hr
  obtain ⟨res, hr1, hr2⟩ := Option.bind_eq_some_iff.1 hr
  obtain ⟨ho, hr1⟩ := chk_some hr1
  have PW : Pieces ((ini ++ [lst]).getD k ⟨#[]⟩) 32 (Tx.splitV ((ini ++ [lst]).getD k ⟨#[]⟩) bSp) := pieces _ 32
  cases hg : goodRow k x (Tx.splitV ((ini ++ [lst]).getD k ⟨#[]⟩) bSp)
  case' none =>
   rw [hg] at hr1
   obtain ⟨u, ht, hr1⟩ := Option.bind_eq_some_iff.1 hr1
   cases hr1
   cases hr2
   obtain ⟨w0, r, hws⟩ := List.exists_cons_of_ne_nil PW.ne
   rw [hws] at hg PW
   have hB := bad9_of (by have := PW.len; rw [List.length_cons] at this; omega) (fun w hw => by have := PW.mem w (List.mem_cons_of_mem _ hw); omega) hg
   have cs := words_c (by omega) hws
   cases hB
   case' late hgt => skip
   case' other hgt h0 h1 h2 => skip
   case' dLen hgt h0 h3 =>
    have h1 := eqB_no (u := bTurn) h0 rfl
    have h2 := eqB_no (u := bEnd) h0 rfl
   case' dEmpty w1 w2 hgt h0 h4 =>
    have cs : Contract Z0 35 [.str ((ini ++ [lst]).getD k ⟨#[]⟩), .int .u8 32] (.sl 1 3 (wordsD [w0, w1, w2])) := cs
    have h3 : (((3 : Nat) : Int) == 3) = true := rfl
    have h4 : (!(w1.toList == (⟨#[]⟩ : ByteArray).toList)) = false := by unfold eqB at h4; rw [h4]; rfl
    have h1 := eqB_no (u := bTurn) h0 rfl
    have h2 := eqB_no (u := bEnd) h0 rfl
   case' dNum w1 w2 hgt h0 h4 hn =>
    have cs : Contract Z0 35 [.str ((ini ++ [lst]).getD k ⟨#[]⟩), .int .u8 32] (.sl 1 3 (wordsD [w0, w1, w2])) := cs
    have h3 : (((3 : Nat) : Int) == 3) = true := rfl
    have h4 : (!(w1.toList == (⟨#[]⟩ : ByteArray).toList)) = true := by unfold eqB at h4; rw [h4]; rfl
    have cn := c36 hn
   case' tNone hgt h1 h5 =>
    have h0 := eqB_no (u := bDriver) h1 rfl
    have h2 := eqB_no (u := bEnd) h1 rfl
   case' tNum hgt h1 h5 hn =>
    have h0 := eqB_no (u := bDriver) h1 rfl
    have cn := c36 hn
   case' eNum hgt h2 hn =>
    have h0 := eqB_no (u := bDriver) h2 rfl
    have h1 := eqB_no (u := bTurn) h2 rfl
    have cn := c36 hn
  case' some =>
   rename_i x'
   rw [hg] at hr1
   have hG := good_of ho hg
   have hr3 : (readL (ini.drop (k + 1)) (k + 1) x').bind (readT ini.length lst) = some (l, row, e) := Option.bind_eq_some_iff.2 ⟨res, hr1, hr2⟩
   cases hG
   case' driver w0 w1 r p hgt hw h0 h1 hn =>
    have PV : Pieces ((ini ++ [lst]).getD k ⟨#[]⟩) 32 (w0 :: w1 :: r) := hw.eq ▸ PW
    have hrl : r.length ≤ 1000000 := by have := PV.len; simp only [List.length_cons] at this; omega
    have hrm : ∀ w ∈ r, w.size ≤ 1000000 := fun w hw => by have := PV.mem w (List.mem_cons_of_mem _ (List.mem_cons_of_mem _ hw)); omega
    obtain ⟨hr4, _, _⟩ := numbers_true hrl hrm hn
    have hw1 : w1.size ≤ 1000000 := by have := PV.mem w1 (List.mem_cons_of_mem _ (List.mem_cons_self ..)); omega
    obtain ⟨w2, rfl⟩ : ∃ w2, r = [w2] := ⟨word p, hr4⟩
    have hn9 : numbers09 [w2] 1 = some ([p], true) := by
     rcases numbers_both (m := 1) hrl hrm with ⟨ns, a, b, _⟩ | ⟨⟨ns, a⟩, _⟩
     ·rw [hn] at a; cases a; exact b
     ·rw [hn] at a; cases a
    have cn : Contract Z0 36 [.sl 1 1 (wordsD [w2]), .int .i64 1] (.tup [.sl 1 1 (fun i => [.int .i64 ([p].getD i 0)]), .bool true]) := c36 hn9
    have cs : Contract Z0 35 [.str ((ini ++ [lst]).getD k ⟨#[]⟩), .int .u8 32] (.sl 1 3 (wordsD [w0, w1, w2])) := words_c (by omega) hw.eq
    have h3 : (((3 : Nat) : Int) == 3) = true := rfl
    have h4 : (!(w1.toList == (⟨#[]⟩ : ByteArray).toList)) = true := by unfold eqB at h1; rw [h1]; rfl
    clear h1
    refine W_wk (wk_trk3 fun _ _ => rfl) ?_
   case' turn w0 r t a b c d hgt hw h1 hl hn =>
    obtain ⟨ts, hts⟩ := List.getLast?_eq_some_iff.1 hl
    obtain ⟨dr, tn, en, sm⟩ := x
    simp only at hts hgt hb3 hb4 hb5
    subst hts
    have hb6 : ts.length + 1 ≤ k := by simpa using hb1
    have hb7 := hb2 t (by simp)
    have PV : Pieces ((ini ++ [lst]).getD k ⟨#[]⟩) 32 (w0 :: r) := hw.eq ▸ PW
    have hrl : r.length ≤ 1000000 := by have := PV.len; simp only [List.length_cons] at this; omega
    have hrm : ∀ w ∈ r, w.size ≤ 1000000 := fun w hw => by have := PV.mem w (List.mem_cons_of_mem _ hw); omega
    have hn9 : numbers09 r 4 = some ([a, b, c, d], true) := by
     rcases numbers_both (m := 4) hrl hrm with ⟨ns, e1, e2, _⟩ | ⟨⟨ns, e1⟩, _⟩
     ·rw [hn] at e1; cases e1; exact e2
     ·rw [hn] at e1; cases e1
    have cn : Contract Z0 36 [.sl 1 r.length (wordsD r), .int .i64 4] (.tup [.sl 1 4 (fun i => [.int .i64 ([a, b, c, d].getD i 0)]), .bool true]) := c36 hn9
    have cs := words_c (by omega) hw.eq
    have h0 := eqB_no (u := bDriver) h1 rfl
    have h5 : decide (((ts.length + 1 : Nat) : Int) > 0) = true := decide_eq_true (by omega)
    have hkk : (((ts.length + 1 : Nat) : Int) - 1).toNat = ts.length := by omega
    have hcell : nth (holG ts t (hh 101) ((((ts.length + 1 : Nat) : Int) - 1).toNat)) 2 = some (.os 101 (hh 101)) := by
     rw [hkk]; unfold holG; rw [if_pos rfl]; rfl
    have hover : ∀ x : D, x.isCell = true → overN (holG ts t (hh 101) ((((ts.length + 1 : Nat) : Int) - 1).toNat)) 2 [x] = some [.str t.Name, .int .i64 t.Skills, x] := fun x _ => by
     rw [hkk]; unfold holG; rw [if_pos rfl]; rfl
    rw [show os3 ⟨ts ++ [t], tn, en, sm⟩ hh = [(100, .arr 27 3 (ts.length + 1) (holG ts t (hh 101))), (101, .arr 75 4 t.Turns.length (encHs t.Turns))] by unfold os3; rw [lhT_snoc, lastH_snoc, List.length_append]; rfl]
   case' fin w0 r p hgt hw h2 hn =>
    have PV : Pieces ((ini ++ [lst]).getD k ⟨#[]⟩) 32 (w0 :: r) := hw.eq ▸ PW
    have hrl : r.length ≤ 1000000 := by have := PV.len; simp only [List.length_cons] at this; omega
    have hrm : ∀ w ∈ r, w.size ≤ 1000000 := fun w hw => by have := PV.mem w (List.mem_cons_of_mem _ hw); omega
    have hn9 : numbers09 r 1 = some ([p], true) := by
     rcases numbers_both (m := 1) hrl hrm with ⟨ns, e1, e2, _⟩ | ⟨⟨ns, e1⟩, _⟩
     ·rw [hn] at e1; cases e1; exact e2
     ·rw [hn] at e1; cases e1
    have cn : Contract Z0 36 [.sl 1 r.length (wordsD r), .int .i64 1] (.tup [.sl 1 1 (fun i => [.int .i64 ([p].getD i 0)]), .bool true]) := c36 hn9
    have cs := words_c (by omega) hw.eq
    have h0 := eqB_no (u := bDriver) h2 rfl
    have h1 := eqB_no (u := bTurn) h2 rfl
  all_goals
   repeat' (first
  | (apply WL_q; apply rr; apply rr; apply q_mvY; apply rr; apply rr)
  | (apply WL_q; apply rr; apply rr; apply q_asY; apply rr; apply rr)
  | (apply WL_q; apply rr; apply rr; refine q_arithB rfl rfl rfl rfl ?_ ?_ hsub; omega; omega)
  | (apply WL_q; apply rr; apply rr; apply q_cmpB; apply rr; apply rr; apply rr; apply rr; (first | exact hlt | exact hgt | exact h3 | exact h5))
  | (apply WL_q; apply rr; apply rr; apply q_eqSB; apply rr; apply rr; apply rr; (first | exact h0 | exact h1 | exact h2))
  | (apply WL_q; apply rr; apply rr; apply q_neSB; apply rr; apply rr; apply rr; exact h4)
  | (apply WL_q; apply rr; apply rr; refine q_slF (i := 2) (j := 3) (f' := wordsD [w2]) rfl rfl (.inr ⟨_, rfl, rfl⟩) (.inl ⟨rfl, rfl⟩) (by omega) (by omega) rfl rfl rfl rfl rfl (fun k _ => by rw [Nat.add_comm]; rfl))
  | (apply WL_q; apply rr; apply rr; refine q_slF (i := 1) (j := r.length + 1) (f' := wordsD r) rfl rfl (.inr ⟨_, rfl, rfl⟩) (.inl ⟨rfl, rfl⟩) (by omega) (by omega) rfl rfl rfl rfl rfl (fun k _ => by rw [Nat.add_comm]; rfl))
  | (apply WG_n; (apply want_none; apply rr); refine f_app (f' := addT x.drivers w1 p) rfl rfl rfl rfl rfl rfl rfl rfl rfl rfl rfl rfl rfl rfl rfl ?_ ?_ rfl ?_ ?_; (show (x.drivers.length + 1) * 48 ≤ _; omega); omega; exact (fun i hi => if_pos hi); exact (fun i hi => by rw [show i = 0 by omega]; exact addT_last _ _ _))
  | (apply WG_q; (first | (apply want_none; apply rr) | (apply want_some; apply rr; apply rr; apply rr)); apply rr; apply FQ_intro; intro _; apply q_ldo; apply rr; apply rr; apply rr; apply rr; apply rr; apply rr; apply rr; omega; exact hcell)
  | (apply WG_n; (apply want_none; apply rr); refine f_sto rfl rfl rfl rfl ?_ rfl rfl rfl rfl rfl (hover _ rfl) rfl; omega)
  | (apply WG_n; (apply want_none; apply rr); refine f_app (n' := (t.Turns ++ [mkTurn a b c d]).length) (f' := encHs (t.Turns ++ [mkTurn a b c d])) rfl rfl rfl rfl rfl rfl rfl rfl rfl rfl rfl rfl rfl rfl rfl ?_ ?_ ?_ ?_ ?_; (show (t.Turns.length + 1) * 32 ≤ _; omega); omega; (exact List.length_append); exact (fun i hi => encHs_lt hi); exact (fun i hi => by rw [show i = 0 by omega]; exact encHs_at _ _))
  | (apply WL_q; apply rr; apply rr; refine q_arithB (m := tn) (n := 1) (e := tn + 1) rfl rfl rfl rfl ?_ ?_ rfl; omega; omega)
  | (apply WL_noE; apply rr; apply rr; apply rr; apply rr; apply rr)
  | (apply WL_q; apply rr; apply rr; (first | (apply q_mvI <;> apply rr) | (apply q_asI <;> apply rr) | (apply q_mvB <;> apply rr) | (apply q_asB <;> apply rr) | (apply q_not <;> apply rr) | (apply q_ldr <;> apply rr) | (apply q_arith <;> (first | apply rr | omega)) | (apply q_len <;> apply rr) | (apply q_ext <;> apply rr) | (apply q_pkT <;> apply rr) | (apply q_pkF <;> apply rr) | (apply q_ia <;> (first | apply rr | omega)) | (apply q_ldo <;> (first | apply rr | omega)) | (apply q_fao <;> apply rr) | (apply q_iao <;> (first | apply rr | omega)) | (apply q_leno <;> apply rr) | (apply q_mvS <;> apply rr) | (apply q_asS <;> apply rr) | (apply q_mvO <;> apply rr) | (apply q_asO <;> apply rr) | (apply q_asN <;> apply rr) | (apply q_ncko <;> apply rr) | (apply q_mvT <;> apply rr) | (apply q_mvP <;> apply rr) | (apply q_asP <;> apply rr)))
  | apply W_seq
  | apply W_region
  | apply T_normal
  | apply WL_nil
  | apply T_exit
  | apply T_ret
  | apply B_normal
  | apply B_ret
  | apply B_exit_eq
  | apply W_skip
  | apply W_exit
  | apply W_ret
  | apply W_block
  | (apply W_condT; apply rr)
  | (apply W_condF; apply rr)
  | (apply WL_call; apply rr; apply rr; rotate_left 1; apply rr; rotate_right 1; exact (cs); apply rr)
  | (apply WL_call; apply rr; apply rr; rotate_left 1; apply rr; rotate_right 1; exact (cn); apply rr)
  | (apply WL_yes; apply rr; apply rr; apply rr)
  | apply W_regionG
  | (apply WG_nil; kernel_rfl)
  | (apply WG_q; (first | (apply want_none; apply rr) | (apply want_some; apply rr; apply rr; apply rr)); apply rr; first | (apply fq_bld <;> apply rr) | (apply fq_blda <;> apply rr) | (apply fq_fn; apply rr) | (apply fq_mf; apply rr) | (apply FQ_intro; intro _; (first | (apply q_mvI <;> apply rr) | (apply q_asI <;> apply rr) | (apply q_mvB <;> apply rr) | (apply q_asB <;> apply rr) | (apply q_not <;> apply rr) | (apply q_ldr <;> apply rr) | (apply q_arith <;> (first | apply rr | omega)) | (apply q_len <;> apply rr) | (apply q_ext <;> apply rr) | (apply q_pkT <;> apply rr) | (apply q_pkF <;> apply rr) | (apply q_ia <;> (first | apply rr | omega)) | (apply q_ldo <;> (first | apply rr | omega)) | (apply q_fao <;> apply rr) | (apply q_iao <;> (first | apply rr | omega)) | (apply q_leno <;> apply rr) | (apply q_mvS <;> apply rr) | (apply q_asS <;> apply rr) | (apply q_mvO <;> apply rr) | (apply q_asO <;> apply rr) | (apply q_asN <;> apply rr) | (apply q_ncko <;> apply rr) | (apply q_mvT <;> apply rr) | (apply q_mvP <;> apply rr) | (apply q_asP <;> apply rr))))
  | (apply WG_n; (first | (apply want_none; apply rr) | (apply want_some; apply rr; apply rr; apply rr)); (first | (apply f_bsl <;> apply rr) | (apply f_sto <;> (first | apply rr | omega)))))
  case neg.some.driver =>
   refine ⟨(k + 1, addDriver x w1 p), rd3 ⟨hkl, ?_, ?_, hb3, Int.le_trans hb4 (by show (k : Int) ≤ ((k + 1 : Nat) : Int); omega), hb5, hr3⟩ ?_ (now3_driver rfl ⟨rfl, rfl, rfl, rfl, rfl, rfl, trivial⟩)⟩
   ·show (x.drivers ++ [_]).length ≤ k + 1
    rw [List.length_append]; exact Nat.succ_le_succ hb1
   ·intro y hy
    rcases List.mem_append.1 hy with hy | hy
    ·exact ⟨(hb2 y hy).1, Nat.le_succ_of_le (hb2 y hy).2⟩
    ·rw [List.mem_singleton.1 hy]; exact ⟨hw1, Nat.zero_le _⟩
   ·show ini.length - (k + 1) < ini.length - k
    omega
  case neg.some.turn =>
   have e : addTurn ⟨ts ++ [t], tn, en, sm⟩ t (mkTurn a b c d) = ⟨ts ++ [⟨t.Name, t.Skills, t.Turns ++ [mkTurn a b c d]⟩], tn + 1, en, sm⟩ := by unfold addTurn; simp
   rw [e] at hr3
   refine ⟨(k + 1, ⟨ts ++ [⟨t.Name, t.Skills, t.Turns ++ [mkTurn a b c d]⟩], tn + 1, en, sm⟩), rd3 ⟨hkl, ?_, ?_, ?_, ?_, hb5, hr3⟩ ?_ (now3_turn rfl (fun i => holG_upd hkk i) rfl ⟨rfl, rfl, rfl, rfl, rfl, rfl, trivial⟩)⟩
   ·show (ts ++ [_]).length ≤ k + 1
    rw [List.length_append]; exact Nat.le_succ_of_le hb6
   ·intro y hy
    rcases List.mem_append.1 hy with hy | hy
    ·have := hb2 y (List.mem_append_left _ hy)
     exact ⟨this.1, Nat.le_succ_of_le this.2⟩
    ·rw [List.mem_singleton.1 hy]
     refine ⟨hb7.1, ?_⟩
     show (t.Turns ++ [_]).length ≤ k + 1
     rw [List.length_append]; exact Nat.succ_le_succ hb7.2
   ·show 0 ≤ tn + 1
    omega
   ·show tn + 1 ≤ ((k + 1 : Nat) : Int)
    omega
   ·show ini.length - (k + 1) < ini.length - k
    omega
  case neg.some.fin =>
   refine ⟨(k + 1, ⟨x.drivers, x.turns, (k : Int) + 1, p⟩), rd3 ⟨hkl, Nat.le_succ_of_le hb1, fun y hy => ⟨(hb2 y hy).1, Nat.le_succ_of_le (hb2 y hy).2⟩, hb3, Int.le_trans hb4 (by show (k : Int) ≤ ((k + 1 : Nat) : Int); omega), (by show 0 ≤ (k : Int) + 1; omega), hr3⟩ ?_ ⟨_, Wk.refl _ _, ⟨rfl, rfl, rfl, rfl, rfl, rfl, trivial⟩, ⟨rfl, rfl, trivial⟩, fun _ _ => .inl rfl⟩⟩
   show ini.length - (k + 1) < ini.length - k
   omega
  all_goals exact fin_no rfl rfl rfl
noncomputable section
def sp13 : FnSpec iseat.toSeat := mkSpec iseat.toSeat 13 [.str] [.sl .Driver, .int .i64, .int .i64] false (fun a => Read a.1) (fun a x hx h h' => by
 obtain ⟨t, u⟩ := a
 obtain ⟨c, r, e⟩ := x
 replace hx : Read t = some (c, r, e) := hx
 rw [Read_eq] at hx
 exact c13 hx) (fun h => nomatch h)
end
end Go.Proofs.Tp09
namespace Go.Proofs.Tp09
open Go Go.Ab
open Go.Proofs.YtbkogeihjcnejaaGreatDoor (iseat)
set_option linter.all false
set_option maxRecDepth 100000
noncomputable section
def Books_L17 (text : ByteArray) (r11 : ByteArray) (i2 : Int) (kn_2 : Int → Option Bool) : Option Bool :=
 bif (decide (i2 < ([text, r11].length : Int))) then
 chk (decide (0 ≤ i2) && decide (i2 < ([text, r11].length : Int))) <|
 chk (decide (i2.toNat < [text, r11].length)) <|
 (Read ([text, r11].getD i2.toNat ⟨#[]⟩)).bind fun r12 =>
 chk (decide (0 ≤ i2) && decide (i2 < ([text, r11].length : Int))) <|
 chk (decide (i2.toNat < [text, r11].length)) <|
 (Read ([text, r11].getD i2.toNat ⟨#[]⟩)).bind fun r13 =>
 bif (r12.2.1 != r13.2.1) then
 some false
 else
 bif (r12.2.2 != r13.2.2) then
 some false
 else
 (Same r12.1 r13.1).bind fun r14 =>
 bif (!r14) then
 some false
 else
 kn_2 (w64 (i2 + 1))
 else
 (awake).bind fun r15 =>
 some r15
def Books_L17__2 (text : ByteArray) (r22 : ByteArray) (i3 : Int) (kn_3 : Int → Option Bool) : Option Bool :=
 bif (decide (i3 < ([text, r22].length : Int))) then
 chk (decide (0 ≤ i3) && decide (i3 < ([text, r22].length : Int))) <|
 chk (decide (i3.toNat < [text, r22].length)) <|
 (Read ([text, r22].getD i3.toNat ⟨#[]⟩)).bind fun r23 =>
 chk (decide (0 ≤ i3) && decide (i3 < ([text, r22].length : Int))) <|
 chk (decide (i3.toNat < [text, r22].length)) <|
 (Read ([text, r22].getD i3.toNat ⟨#[]⟩)).bind fun r24 =>
 bif (r23.2.1 != r24.2.1) then
 some false
 else
 bif (r23.2.2 != r24.2.2) then
 some false
 else
 (Same r23.1 r24.1).bind fun r25 =>
 bif (!r25) then
 some false
 else
 kn_3 (w64 (i3 + 1))
 else
 (awake).bind fun r26 =>
 some r26
def Books_L2 (it : It Bool) (l : List Driver) (text : ByteArray) (nums : List Int) (at_ : Int) (how : Int) (by_ : Int) (i : Int) (kn_ : Int → Option Bool) : Option Bool :=
 bif (decide (i < (l.length : Int))) then
 chk (decide (0 ≤ i) && decide (i < (l.length : Int))) <|
 (big (l.getD i.toNat dfltDriver)).bind fun r =>
 bif r then
 (awake).bind fun r2 =>
 some r2
 else
 kn_ (w64 (i + 1))
 else
 bif (decide ((l.length : Int) > 6)) then
 (awake).bind fun r3 =>
 some r3
 else
 bif (decide ((text.size : Int) > 2000)) then
 bif (decide ((text.size : Int) ≤ 10000)) then
 (awake).bind fun r4 =>
 some r4
 else
 (NewSeed nums).bind fun r5 =>
 (CrewOf r5 4 4).bind fun r6 =>
 (Write l).bind fun r7 =>
 (Write09 l).bind fun r8 =>
 (Write r6.2).bind fun r9 =>
 (Write09 r6.2).bind fun r10 =>
 bif (!(r7.1.toList == r8.1.toList)) then
 some false
 else
 bif (r7.2 != r8.2) then
 some false
 else
 bif (!(r9.1.toList == r10.1.toList)) then
 some false
 else
 bif (r9.2 != r10.2) then
 some false
 else
 (Damage r10.1 at_ how by_).bind fun r11 =>
 it _ (fun (v_0 : (Unit × Int × Unit) × (Unit)) kn => Books_L17 text r11 v_0.1.2.1 (fun y0 => kn (((), y0, ()), (())))) (((), 0, ()), (()))
 else
 (NewSeed nums).bind fun r16 =>
 (CrewOf r16 4 4).bind fun r17 =>
 (Write l).bind fun r18 =>
 (Write09 l).bind fun r19 =>
 (Write r17.2).bind fun r20 =>
 (Write09 r17.2).bind fun r21 =>
 bif (!(r18.1.toList == r19.1.toList)) then
 some false
 else
 bif (r18.2 != r19.2) then
 some false
 else
 bif (!(r20.1.toList == r21.1.toList)) then
 some false
 else
 bif (r20.2 != r21.2) then
 some false
 else
 (Damage r21.1 at_ how by_).bind fun r22 =>
 it _ (fun (v_0 : (Unit × Int × Unit) × (Unit)) kn => Books_L17__2 text r22 v_0.1.2.1 (fun y0 => kn (((), y0, ()), (())))) (((), 0, ()), (()))
def Books' (it : It Bool) (l : List Driver) (text : ByteArray) (nums : List Int) (at_ : Int) (how : Int) (by_ : Int) : Option Bool :=
 it _ (fun (v_0 : (Int × Unit) × (Unit)) kn => Books_L2 it l text nums at_ how by_ v_0.1.1 (fun y0 => kn ((y0, ()), (())))) ((0, ()), (()))
def Books : (List Driver) → ByteArray → (List Int) → Int → Int → Int → Option Bool := opq (fun l text nums at_ how by_ => Books' itN l text nums at_ how by_)
theorem Books_eq (l : List Driver) (text : ByteArray) (nums : List Int) (at_ : Int) (how : Int) (by_ : Int) : Books l text nums at_ how by_ = Books' itN l text nums at_ how by_ := by unfold Books; rw [opq_eq]
def E3 : FEnv iseat := ⟨⟨144, [sp5, sp6, sp9, sp10, sp11, sp12, sp13, sp14], [sp7], [sp8], [], [], [], [], [], [], [], [], [], true⟩, [(2, ⟨⟨[(13, .v (.int .i64))], []⟩, [0, 1, 2, 3, 4, 5], [], []⟩), (17, ⟨⟨[(23, .osr 104), (24, .v (.int .i64))], []⟩, [], [104], []⟩)]⟩
theorem e3 (it : It Bool) (l : List Driver) (text : ByteArray) (nums : List Int) (at_ : Int) (how : Int) (by_ : Int) : fnRun (ts := [.bool]) it E3 (bodyOf Tryz.f3) Tryz.f3.results.toList (encA [.sl .Driver, .str, .sl (.int .i64), .int .i64, .int .i64, .int .u8] (l, text, nums, at_, how, by_, ())) = Books' it l text nums at_ how by_ := by kernel_rfl
end
end Go.Proofs.Tp09
namespace Go.Proofs.Tp09
open Go Go.Ab
set_option linter.all false
set_option maxRecDepth 100000
theorem Wrap_ok {x n : Int} (h1 : 1 ≤ n) (h2 : n ≤ 1000000) : Ok (fun r => 0 ≤ r ∧ r < n) (Wrap x n) := by
 rw [Wrap_eq]
 unfold Wrap'
 refine Ok.ite (fun _ => Ok.some ⟨Int.le_refl _, by omega⟩) fun q => ?_
 have hn : (n != 0) = true := by simp; omega
 refine Ok.chk hn (Ok.chk hn (Ok.some ?_))
 have a1 := Int.lt_tmod_of_pos x (show 0 < n by omega)
 have a2 := Int.tmod_lt_of_pos x (show 0 < n by omega)
 rw [w64_id (by omega) (by omega)]
 have b1 := Int.tmod_nonneg n (show 0 ≤ x.tmod n + n by omega)
 have b2 := Int.tmod_lt_of_pos (x.tmod n + n) (show 0 < n by omega)
 exact ⟨b1, b2⟩
theorem sub_size (s : ByteArray) (i j : Int) : (subS s i j).size ≤ s.size := by
 unfold subS subB
 rw [← bl_len]
 show ((((s.data.toList.take j.toNat).drop i.toNat).toArray).toList).length ≤ _
 rw [List.toList_toArray, List.length_drop, List.length_take]
 have : s.data.toList.length = s.size := bl_len s
 omega
theorem Damage_ok {text : ByteArray} {at_ how by_ : Int} (hs : text.size ≤ 100000) (hb : 0 ≤ by_ ∧ by_ < 256) : Ok (fun r => r.size ≤ 3 * text.size + 1) (Damage text at_ how by_) := by
 rw [Damage_eq]
 unfold Damage'
 refine Ok.ite (fun _ => Ok.some (by omega)) fun q => ?_
 have h1 : 1 ≤ (text.size : Int) := by
  have : ¬ (text.size : Int) = 0 := by simpa using q
  omega
 refine Ok.bind (Wrap_ok (x := at_) h1 (by omega)) fun r hr => Ok.bind (Wrap_ok (x := how) (n := 3) (by omega) (by omega)) fun r2 _ => ?_
 obtain ⟨r0, r1⟩ := hr
 have h8 : okB8 [by_] = true := by unfold okB8; simp; omega
 have e1 : (⟨(byB8 [by_]).toArray⟩ : ByteArray).size = 1 := rfl
 have s1 := sub_size text 0 r
 have s2 := sub_size text (w64 (r + 1)) (text.size : Int)
 have s3 := sub_size text r (text.size : Int)
 have ew : w64 (r + 1) = r + 1 := w64_id (by omega) (by omega)
 have c1 : (decide ((0 : Int) ≤ 0) && decide (0 ≤ r) && decide (r ≤ (text.size : Int))) = true := by simp; omega
 have c2 : (decide (0 ≤ (w64 (r + 1))) && decide ((w64 (r + 1)) ≤ (text.size : Int)) && decide ((text.size : Int) ≤ (text.size : Int))) = true := by rw [ew]; simp; omega
 have c3 : (decide (0 ≤ r) && decide (r ≤ (text.size : Int)) && decide ((text.size : Int) ≤ (text.size : Int))) = true := by simp; omega
 refine Ok.ite (fun _ => ?_) fun _ => Ok.ite (fun _ => ?_) fun _ => ?_
 ·refine Ok.chk c1 (Ok.chk h8 (Ok.chk (decide_eq_true (by omega)) (Ok.chk c2 (Ok.chk (decide_eq_true (by rw [cat_size]; omega)) (Ok.some ?_)))))
  rw [cat_size, cat_size]; omega
 ·refine Ok.chk c1 (Ok.chk c2 (Ok.chk (decide_eq_true (by omega)) (Ok.some ?_)))
  rw [cat_size]; omega
 ·refine Ok.chk c1 (Ok.chk h8 (Ok.chk (decide_eq_true (by omega)) (Ok.chk c3 (Ok.chk (decide_eq_true (by rw [cat_size]; omega)) (Ok.some ?_)))))
  rw [cat_size, cat_size]; omega
theorem Read_total (text : ByteArray) : ∃ r, Read text = some r ∧ Same r.1 r.1 = some true := by
 have hz : Same [] [] = some true := Same_self (by show 0 ≤ 1000000; omega) fun t ht => by cases ht
 by_cases h : text.size ≤ 10000
 ·obtain ⟨r, h1, h2⟩ := Read_ok h
  refine ⟨r, h1, ?_⟩
  rcases h2 with ⟨_, h2⟩ | ⟨_, _, _, h2⟩
  ·rw [h2]; exact hz
  ·have htl : (textL r.1).length ≤ 10000 := by rw [h2, bl_len]; exact h
   have f : (textL r.1).length = (r.1.flatMap driverL).length + (endL (cnt r.1)).length := List.length_append
   have g := flat_cnt driverL driver_pos r.1
   refine Same_self (by omega) fun d hd => ?_
   have a := flat_mem driverL hd
   have b := flat_cnt turnL turn_pos d.Turns
   have c : (driverL d).length = (headL d).length + (d.Turns.flatMap turnL).length := List.length_append
   omega
 ·refine ⟨([], 0, 5), ?_, hz⟩
  rw [Read_eq]
  unfold readF
  rw [decide_eq_true (by omega)]; rfl
theorem aw_ok : Ok (fun r => r = true) (awake.bind fun r => some r) := by rw [awake_eq]; exact Ok.some rfl
theorem reads_ok {text r8 : ByteArray} : Ok (fun r => r = true) (itN _ (fun (v_0 : (Unit × Int × Unit) × (Unit)) kn => Books_L17 text r8 v_0.1.2.1 (fun y0 => kn (((), y0, ()), (())))) (((), 0, ()), (()))) := by
 have hlen : [text, r8].length = 2 := rfl
 refine Ok.rounds (inv := fun v => ∃ j : Nat, j ≤ [text, r8].length ∧ v.1.2.1 = (j : Int)) (μ := fun v => [text, r8].length - v.1.2.1.toNat) (by show 2 - 0 < FUEL; unfold FUEL; omega) ⟨0, Nat.zero_le _, rfl⟩ ?_
 rintro ⟨⟨u1, x, u4⟩, u5⟩ kn ⟨j, hj, e1⟩ hk
 simp only at e1 ⊢
 subst e1
 unfold Books_L17
 rw [show ((j : Int)).toNat = j by omega]
 refine Ok.ite (fun hlt => ?_) (fun _ => aw_ok)
 have hlt : j < [text, r8].length := by have := of_decide_eq_true hlt; omega
 have i1 := idx_ok hlt
 have i2 : decide (j < [text, r8].length) = true := decide_eq_true hlt
 obtain ⟨r, h1, h2⟩ := Read_total ([text, r8].getD j ⟨#[]⟩)
 refine Ok.chk i1 (Ok.chk i2 (Crew.Ok.beq h1 (Ok.chk i1 (Ok.chk i2 (Crew.Ok.beq h1 ?_)))))
 refine Ok.ite (fun q => by simp at q) fun _ => Ok.ite (fun q => by simp at q) fun _ => Crew.Ok.beq h2 (Ok.ite (fun q => (nomatch (show false = true from q))) fun _ => ?_)
 refine hk _ ⟨j + 1, hlt, succ64 (by omega)⟩ ?_
 show [text, r8].length - (w64 ((j : Int) + 1)).toNat < [text, r8].length - ((j : Int)).toNat
 rw [succ64 (by omega)]; omega
theorem L17_2 : @Books_L17__2 = @Books_L17 := rfl
theorem rest_ok {l : List Driver} {text : ByteArray} {nums : List Int} {at_ how by_ : Int} (hz : Sized l) (hn : nums.length ≤ 9223372036854775807) (hb : 0 ≤ by_ ∧ by_ < 256) :
  Ok (fun r => r = true) (
    (NewSeed nums).bind fun r5 =>
    (CrewOf r5 4 4).bind fun r6 =>
    (Write l).bind fun r7 =>
    (Write09 l).bind fun r8 =>
    (Write r6.2).bind fun r9 =>
    (Write09 r6.2).bind fun r10 =>
    bif (!(r7.1.toList == r8.1.toList)) then
     some false
    else
     bif (r7.2 != r8.2) then
      some false
     else
      bif (!(r9.1.toList == r10.1.toList)) then
       some false
      else
       bif (r9.2 != r10.2) then
        some false
       else
        (Damage r10.1 at_ how by_).bind fun r11 =>
        itN _ (fun (v_0 : (Unit × Int × Unit) × (Unit)) kn => Books_L17 text r11 v_0.1.2.1 (fun y0 => kn (((), y0, ()), (())))) (((), 0, ()), (()))) := by
 refine Ok.bind (NewSeed_ok hn) fun s _ => Ok.bind (CrewOf_ok s (most := 4) (turns := 4) (by decide) (by decide) (by decide) (by decide)) fun r6 h6 => ?_
 have hz2 : Sized r6.2 := fun d hd => by
  obtain ⟨name, ⟨⟨_, g, _⟩, _⟩, m⟩ := h6.2 d hd
  have := m.len
  rw [m.nm]
  exact ⟨by omega, by omega⟩
 obtain ⟨r7, a1, a2, _⟩ := write_both hz
 obtain ⟨r9, b1, b2, b3⟩ := write_both hz2
 refine Crew.Ok.beq a1 (Crew.Ok.beq a2 (Crew.Ok.beq b1 (Crew.Ok.beq b2 ?_)))
 refine Ok.ite (fun q => by simp at q) fun _ => Ok.ite (fun q => by simp at q) fun _ => Ok.ite (fun q => by simp at q) fun _ => Ok.ite (fun q => by simp at q) fun _ => ?_
 exact Ok.bind (Damage_ok (at_ := at_) (how := how) (by omega) hb) fun r11 _ => reads_ok
theorem Books_true {l : List Driver} {text : ByteArray} {nums : List Int} {at_ how by_ : Int} (hl : l.length ≤ 9223372036854775807) (hn : nums.length ≤ 9223372036854775807) (hb : 0 ≤ by_ ∧ by_ < 256) : Books l text nums at_ how by_ = some true := by
 refine Crew.ok_eq ?_
 rw [Books_eq]
 unfold Books'
 refine Ok.rounds (inv := fun v => ∃ j : Nat, j ≤ l.length ∧ v.1.1 = (j : Int) ∧ ∀ d ∈ l.take j, d.Name.size ≤ 1000000 ∧ d.Turns.length ≤ 1000000) (μ := fun v => l.length - v.1.1.toNat) (by show l.length - 0 < FUEL; unfold FUEL; omega) ⟨0, Nat.zero_le _, rfl, fun d hd => by cases hd⟩ ?_
 rintro ⟨⟨x, u4⟩, u5⟩ kn ⟨j, hj, e1, e2⟩ hk
 simp only at e1 ⊢
 subst e1
 unfold Books_L2
 rw [show ((j : Int)).toNat = j by omega, L17_2]
 refine Ok.ite (fun hlt => ?_) (fun hge => ?_)
 ·have hlt : j < l.length := by have := of_decide_eq_true hlt; omega
  have e : w64 ((j : Int) + 1) = ((j + 1 : Nat) : Int) := by rw [w64_id (by omega) (by omega)]; push_cast; rfl
  refine Ok.chk (idx_ok hlt) ?_
  refine Ok.bind (P := fun r => r = false → (l.getD j dfltDriver).Name.size ≤ 1000000 ∧ (l.getD j dfltDriver).Turns.length ≤ 1000000) ?_ fun r hr => Ok.ite (fun _ => aw_ok) fun q => ?_
  ·rw [big_eq]
   unfold big'
   refine Ok.ite (fun _ => Ok.some fun q => (by cases q)) fun q => Ok.some fun q2 => ?_
   have := of_decide_eq_false q
   have := of_decide_eq_false q2
   exact ⟨by omega, by omega⟩
  ·refine hk _ ⟨j + 1, hlt, e, fun d hd => ?_⟩ ?_
   ·rw [take_snoc (d := dfltDriver) hlt] at hd
    rcases List.mem_append.1 hd with hd | hd
    ·exact e2 d hd
    ·rw [List.mem_singleton.1 hd]; exact hr q
   ·show l.length - (w64 ((j : Int) + 1)).toNat < l.length - ((j : Int)).toNat
    rw [e]; omega
 ·have hjn : j = l.length := by have := of_decide_eq_false hge; omega
  rw [hjn, List.take_length] at e2
  have rest := rest_ok (text := text) (at_ := at_) (how := how) e2 hn hb
  exact Ok.ite (fun _ => aw_ok) fun _ => Ok.ite (fun _ => Ok.ite (fun _ => aw_ok) fun _ => rest) fun _ => rest
end Go.Proofs.Tp09
namespace Go.Proofs.YtbkogeihjcnejaaGreatDoor
open Go Go.Ab Go.ChangeShapes Go.WideShapes Go.ChangeAt Go.RowKit
set_option maxRecDepth 100000
def allK (w : World) : Nat → Nat → Option Value := fun b o => w.cell? ⟨b, o, none⟩
theorem allK_fits (w : World) : Fits (allK w) w := fun _ _ _ h => h
theorem lv_tail {W : World} {x : String × DataW Unit} {r : List (String × DataW Unit)} {ps : List MemPlace} (h : DataW.LaidVars Tryz.prog W (x :: r) ps) : ∃ q, DataW.LaidVars Tryz.prog W r q := by
 obtain ⟨g, t, cs, fuel, p, q, _, _, _, _, h2, _⟩ := h
 exact ⟨q, h2⟩
theorem gl_ok {W : World} {name : String} {g : Nat} {cs : Array Value} {l : List D} {u : List Value} (hg : Tryz.prog.globalNamed name = some g) (hvar : W.var? Tryz.prog name = some cs) (hu : cs.toList = u) (hl : allCell l = true) (hr : RepL (allK W) γ0 sv0 l u) :
  allCell l = true ∧ ∃ u, RepL (allK W) γ0 sv0 l u ∧ ∀ j v, u[j]? = some v → allK W g j = some v :=
 ⟨hl, u, hr, fun j v hj => by
  have : W.cell? ⟨g, j, none⟩ = cs[j]? := World.var?_cell hg hvar j
  show W.cell? ⟨g, j, none⟩ = some v
  rw [this, ← hj, ← hu]; simp⟩
theorem rowSz_of {W : World} {name : String} {g : Nat} {cs : Array Value} (hg : Tryz.prog.globalNamed name = some g) (hvar : W.var? Tryz.prog name = some cs) : RowSz W g cs.size := by
 simp only [World.var?, hg, Option.bind_some] at hvar
 split at hvar
 ·rename_i c t f h
  simp only [Option.some.injEq] at hvar
  subst hvar
  exact ⟨c, t, f, h, rfl⟩
 ·cases hvar
theorem repL_int {κ : Nat → Nat → Option Value} {γ : Nat → Nat} {sv : Nat → Value} (k : IntKind) : ∀ zs : List Int, RepL κ γ sv (zs.map (D.int k)) (zs.map (Value.int k))
 | [] => .nil
 | z :: zs => .cons _ _ _ _ (.int k z) (repL_int k zs)
theorem cells3 : Tryz.prog.cellsOf 3 = 1 := by kernel_rfl
theorem cells9 : Tryz.prog.cellsOf 9 = 1 := by kernel_rfl
theorem cells60 : Tryz.prog.cellsOf 60 = 1 := by kernel_rfl
theorem cells146 : Tryz.prog.cellsOf 146 = 20 := by kernel_rfl
def pow10s : List Int := [1, 10, 100, 1000, 10000, 100000, 1000000, 10000000, 100000000, 1000000000, 10000000000, 100000000000, 1000000000000, 10000000000000, 100000000000000, 1000000000000000, 10000000000000000, 100000000000000000, 1000000000000000000, 10000000000000000000]
section
variable {W : World} {ps : List MemPlace} {r : List (String × DataW Unit)}
theorem pow_at (h : DataW.LaidVars Tryz.prog W (("internal/strconv.uint64pow10", Rows.laid_internal_strconv_uint64pow10) :: r) ps) : ∃ cs, W.var? Tryz.prog "internal/strconv.uint64pow10" = some cs ∧ cs.toList = pow10s.map (Value.int .u64) := by
 obtain ⟨g, t, cs, fuel, p, q, hg, ht, hvar, hd, _, _⟩ := h
 have hg0 : Tryz.prog.globalNamed "internal/strconv.uint64pow10" = some 0 := by kernel_rfl
 have ht0 : (Tryz.prog.globals[0]?).map (·.type) = some 146 := by kernel_rfl
 obtain rfl := Option.some.inj (hg0.symm.trans hg)
 obtain rfl := Option.some.inj (ht0.symm.trans ht)
 exact ⟨cs, hvar, Lib.cells_of_tab (zs := pow10s) Tryz.underlying146 Tryz.underlying60 cells60 cells146 hd⟩
end
theorem nn_of {H : Type} {enc : TypeId × Value → H} {P : Program} {w : World} {base : Nat} {spare : Nat → Bool} {held : Bool} {fuel : Nat} {t : TypeId} {ms : Array (String × TypeId)} {cs : List Value} {name : String} {d : DataW H} {ps : List MemPlace}
  (ht : P.underlying t = some (.interface ms)) (h : DataW.trod enc P w base spare held fuel t cs = some (.iface name d, ps)) : ∃ u v, cs = [.iface u v] := by
 cases fuel with
 | zero => simp [DataW.trod] at h
 | succ n =>
  rcases cs with _ | ⟨v, _ | ⟨v2, r⟩⟩
  ·simp [DataW.trod, ht] at h
  ·cases v with
   | iface u v => exact ⟨u, v, rfl⟩
   | _ => simp [DataW.trod, ht] at h
  ·simp [DataW.trod, ht] at h
section
variable {W : World} {ps : List MemPlace} {r : List (String × DataW Unit)}
theorem er_at {name : String} {n : Nat} {nm : String} {d : DataW Unit} (hg0 : Tryz.prog.globalNamed name = some n) (ht0 : (Tryz.prog.globals[n]?).map (·.type) = some 70) (h : DataW.LaidVars Tryz.prog W ((name, .iface nm d) :: r) ps) : ∃ cs u v, W.var? Tryz.prog name = some cs ∧ cs.toList = [.iface u v] := by
 obtain ⟨g, t, cs, fuel, p, q, hg, ht, hvar, hd, _, _⟩ := h
 obtain rfl := Option.some.inj (hg0.symm.trans hg)
 obtain rfl := Option.some.inj (ht0.symm.trans ht)
 obtain ⟨u, v, e⟩ := nn_of Tryz.underlying70 hd
 exact ⟨cs, u, v, hvar, e⟩
end
theorem glob_of {W : World} (h : laidMetH Tryz.prog [("math/bits.deBruijn32tab", Rows.laid_math_bits_deBruijn32tab), ("math/bits.deBruijn64tab", Rows.laid_math_bits_deBruijn64tab), ("internal/strconv.uint64pow10", Rows.laid_internal_strconv_uint64pow10), ("unicode/utf8.acceptRanges", Rows.laid_unicode_utf8_acceptRanges), ("strconv.ErrRange", Rows.laid_strconv_ErrRange), ("strconv.ErrSyntax", Rows.laid_strconv_ErrSyntax), ("unicode/utf8.first", Rows.laid_unicode_utf8_first)] W) (hsh : W.ShapedOpen Tryz.prog) : GlobOk iseat.toSeat (allK W) W := by
 have h' : laidMet Tryz.prog [("math/bits.deBruijn32tab", Rows.laid_math_bits_deBruijn32tab), ("math/bits.deBruijn64tab", Rows.laid_math_bits_deBruijn64tab), ("internal/strconv.uint64pow10", Rows.laid_internal_strconv_uint64pow10), ("unicode/utf8.acceptRanges", Rows.laid_unicode_utf8_acceptRanges), ("strconv.ErrRange", Rows.laid_strconv_ErrRange), ("strconv.ErrSyntax", Rows.laid_strconv_ErrSyntax), ("unicode/utf8.first", Rows.laid_unicode_utf8_first)] W := h
 obtain ⟨ps, h0, _⟩ := h'
 obtain ⟨_, h1⟩ := lv_tail h0
 obtain ⟨_, h2⟩ := lv_tail h1
 obtain ⟨_, h3⟩ := lv_tail h2
 obtain ⟨_, h4⟩ := lv_tail h3
 obtain ⟨_, h5⟩ := lv_tail h4
 obtain ⟨c2, v2, u2⟩ := pow_at h2
 obtain ⟨c7, t7, p7, v7, u7⟩ := er_at (n := 3) (by kernel_rfl) (by kernel_rfl) h4
 obtain ⟨c6, t6, p6, v6, u6⟩ := er_at (n := 2) (by kernel_rfl) (by kernel_rfl) h5
 obtain ⟨m, hm⟩ := cell_of_shapedOpen_int (g := 1) (t := 3) (zero := #[.int .i64 0]) (k := .i64) hsh (of_decide_eq_true (by kernel_rfl)) (by kernel_rfl) rfl (by kernel_rfl) (by kernel_rfl) Tryz.underlying3
 constructor
 ·intro g l hl
  have hl' : globs g = some l := hl
  unfold globs at hl'
  split at hl'
  ·simp only [Option.some.injEq] at hl'
   subst hl'
   exact gl_ok (name := "internal/strconv.uint64pow10") (by kernel_rfl) v2 u2 rfl (repL_int .u64 pow10s)
  ·simp only [Option.some.injEq] at hl'
   subst hl'
   refine ⟨rfl, [.int .i64 m], .cons _ _ _ _ (.lk _ _ ⟨m, rfl⟩) .nil, fun j v hj => ?_⟩
   rcases j with _ | j
   ·cases hj; exact hm
   ·cases hj
  ·simp only [Option.some.injEq] at hl'
   subst hl'
   exact gl_ok (name := "strconv.ErrSyntax") (by kernel_rfl) v6 u6 rfl (.cons _ _ _ _ (.lk _ _ ⟨t6, p6, rfl⟩) .nil)
  ·simp only [Option.some.injEq] at hl'
   subst hl'
   exact gl_ok (name := "strconv.ErrRange") (by kernel_rfl) v7 u7 rfl (.cons _ _ _ _ (.lk _ _ ⟨t7, p7, rfl⟩) .nil)
  ·cases hl'
 ·intro g n hn
  have hn' : gszs g = some n := hn
  unfold gszs at hn'
  split at hn'
  ·simp only [Option.some.injEq] at hn'
   subst hn'
   have h5 := rowSz_of (name := "internal/strconv.uint64pow10") (g := 0) (by kernel_rfl) v2
   have h6 : c2.size = 20 := by
    have := congrArg List.length u2
    simpa [pow10s] using this
   rw [h6] at h5
   exact h5
  ·cases hn'
section
variable {H : Type} {enc : TypeId × Value → H} {W : World}
def Rd {α : Type} (enc : TypeId × Value → H) (W : World) (t : TypeId) (ec : α → List D) : Prop :=
 ∀ n cs x, DataW.trod enc Tryz.prog W 0 (fun _ => true) true n t cs = some x → ∃ a : α, RepL (allK W) γ0 sv0 (ec a) cs
theorem rd_int : Rd enc W 3 encI := by
 intro n cs x h
 obtain ⟨a, rfl, _⟩ := DataW.trod_int Tryz.underlying3 h
 exact ⟨a, .cons _ _ _ _ (.int _ _) .nil⟩
theorem rd_slice {α : Type} [Inhabited α] {t e z : Nat} {ec : α → List D} (ht : Tryz.prog.underlying t = some (.slice e)) (hz : Tryz.prog.cellsOf e = z) (hz0 : 0 < z) (hl : ∀ a, (ec a).length = z)
  (hc : ∀ a, allCell (ec a) = true) (hr : Rd enc W e ec) : Rd enc W t (fun l : List α => [slOf z ec l]) := by
 intro n cs x h
 rcases Deep.open_slice ht h with ⟨rfl, rfl⟩ | ⟨a, len, cap, m, n', D, Pl, rfl, _, hlc, _, hm, rfl, hx⟩
 ·exact ⟨[], .cons _ _ _ _ (.sl0 _ _) .nil⟩
 ·simp only [if_true] at hm
  subst hm
  rw [hz] at hx
  rcases Nat.eq_zero_or_pos len with rfl | hpos
  ·exact ⟨[], .cons _ _ _ _ (.slE _ _ _ _) .nil⟩
  ·have hx' : ∀ i, i < len → ∃ p : α × List Value, W.cells? 0 (a.add (i * z)) z = some p.2 ∧ RepL (allK W) γ0 sv0 (ec p.1) p.2 := fun i hi => by
    obtain ⟨cs', h1, h2⟩ := hx i (by omega)
    obtain ⟨b, hb⟩ := hr _ _ _ h2
    exact ⟨(b, cs'), h1, hb⟩
   obtain ⟨F, hF⟩ := Deep.choose_lt hx'
   have hsp : a.spot = none := by
    obtain ⟨_, h1, h2⟩ := World.cells?_some (hF 0 hpos).1
    have h3 := h2 0 hz0
    rw [List.getElem?_eq_getElem (by omega)] at h3
    simpa [Addr.add] using World.cell?_spot h3
   obtain ⟨b, off, sp⟩ := a
   simp only at hsp
   subst hsp
   refine ⟨(List.range len).map (fun i => (F i).1), .cons _ _ _ _ ?_ .nil⟩
   have hlen : ((List.range len).map (fun i => (F i).1)).length = len := by simp
   have hg : ∀ i, i < len → ((List.range len).map (fun i => (F i).1)).getD i default = (F i).1 := fun i hi => by simp [List.getD, hi]
   unfold slOf
   rw [hlen]
   refine .sl z len _ b off m (fun i => (F i).2) hlc (fun i _ => hl _) (fun i _ => hc _) (fun i hi => by rw [hg i hi]; exact (hF i hi).2) (fun i j v hi hj => ?_)
   obtain ⟨_, h1, h2⟩ := World.cells?_some (hF i hi).1
   have hjl := (List.getElem?_eq_some_iff.1 hj).1
   have h3 := h2 j (by omega)
   rw [add_plain, add_plain, hj] at h3
   exact h3
theorem arg_ints {v : Value} {d : DataW H} {ps : List MemPlace} {base : Nat} (hv : Value.okWide Tryz.prog W .any base 23 v) (h : DataW.Trod enc Tryz.prog W 0 (fun _ => true) true 23 v d ps) :
  ∃ l : List Int, Rep (allK W) γ0 sv0 (slOf 1 encI l) v := by
 obtain ⟨n, hn⟩ := h
 obtain ⟨l, hl⟩ := rd_slice (ec := encI) Tryz.underlying23 cells3 (by decide) (fun _ => rfl) (fun _ => rfl) rd_int _ _ _ hn
 obtain ⟨a0, len, cap, rfl⟩ := okWide_slice Tryz.underlying23 hv
 cases hl with
 | cons _ _ _ _ k _ => exact ⟨l, k⟩
theorem arg_str {v : Value} {d : DataW H} {ps : List MemPlace} {base : Nat} (hv : Value.okWide Tryz.prog W .any base 9 v) (h : DataW.Trod enc Tryz.prog W 0 (fun _ => true) true 9 v d ps) :
  ∃ s : ByteArray, Rep (allK W) γ0 sv0 (.str s) v := by
 obtain ⟨n, hn⟩ := h
 obtain ⟨s, e, _⟩ := DataW.trod_string Tryz.underlying9 hn
 cases v with
 | string s => exact ⟨s, .str _⟩
 | agg cs => simp [Value.okWide, Cell.okWide, Cell.ok, Tryz.underlying9] at hv
 | _ => simp [Value.cells] at e
end
theorem ints_len {κ : Nat → Nat → Option Value} {γ : Nat → Nat} {sv : Nat → Value} {W : World} {base : Nat} {v : Value} {l : List Int} (hv : Value.okWide Tryz.prog W .any base 23 v) (h : Rep κ γ sv (slOf 1 encI l) v) : l.length ≤ 9223372036854775807 := by
 unfold slOf at h
 generalize hn : l.length = n at h
 cases h with
 | sl0 => omega
 | slE => omega
 | sl _ _ _ b off cap u hc =>
  simp only [Value.okWide, Cell.okWide, Cell.ok, Tryz.underlying23] at hv
  have h1 := hv.2.1
  have h2 : IntKind.i64.max = 9223372036854775807 := by decide
  rw [h2] at h1
  omega
theorem laidOut : laidOutB Tryz.prog = true := by kernel_rfl
theorem own : ownKnob Tryz.prog.godebug = none := by kernel_rfl
theorem trodAll_stays {H : Type} {enc : TypeId × Value → H} {W W' : World} {sp' : Nat → Bool} (hb : Below W.heap.size W W') : ∀ {ts : List TypeId} {vs : List Value} {ds : List (DataW H)} {ps : List MemPlace},
  (∀ t ∈ ts, Tryz.prog.readableRec t = true ∧ t < Tryz.prog.types.size) → DataW.TrodAll enc Tryz.prog W 0 (fun _ => true) true ts vs ds ps → (∀ p ∈ ps, p.block < W.heap.size) → (∀ p ∈ ps, sp' p.block = true) →
  DataW.TrodAll enc Tryz.prog W' 0 sp' true ts vs ds ps
 | [], [], [], _, _, h, _, _ => h
 | _ :: _, _ :: _, _ :: _, _, hT, ⟨p, q, h1, h2, e⟩, hlt, hs => ⟨p, q,
   WideElems.Trod_stays laidOut (hT _ (List.mem_cons_self ..)).1 (hT _ (List.mem_cons_self ..)).2 h1 (fun x hx => hb.same (hlt x (by rw [e]; exact List.mem_append_left _ hx))) (fun x hx => hs x (by rw [e]; exact List.mem_append_left _ hx)),
   trodAll_stays hb (fun t ht => hT t (List.mem_cons_of_mem _ ht)) h2 (fun x hx => hlt x (by rw [e]; exact List.mem_append_right _ hx)) (fun x hx => hs x (by rw [e]; exact List.mem_append_right _ hx)), e⟩
theorem post_yes {H : Type} {enc : TypeId × Value → H} {f : Func} {s : ChangeSpec} {W W' : World} {args : Array Value} {ds gs : List (DataW H)} {before : List MemPlace}
  (hW : DataW.Whole enc Tryz.prog f.params.toList s.vars false W args.toList ds gs before) (hv : s.vars = []) (hb : Below W.heap.size W W')
  (hT : ∀ t ∈ f.params.toList, Tryz.prog.readableRec t = true ∧ t < Tryz.prog.types.size) (hrt : f.resultTypes = #[4])
  (hr : (s.fn H (ds ++ gs)).results = [.lit (.bool true)]) (ha : (s.fn H (ds ++ gs)).args = ds) (hvs : (s.fn H (ds ++ gs)).vars = []) :
  s.post enc Tryz.prog f false true false false W args (.bool true) W' := by
 have hlt := hW.lt
 have hW2 := hW
 obtain ⟨p, q, hA, hV, rfl, _, _⟩ := hW
 rw [hv] at hV
 obtain ⟨rfl, rfl⟩ := trodVars_none hV
 refine ⟨ds, [], p ++ [], [], p, [], hW2, ?_, ?_, ?_, hb.frame _, fun h => by cases h⟩
 ·rw [hr, hrt]
  exact trodAll_mk1 (shut_bool Tryz.underlying4 _)
 ·rw [ha]
  exact trodAll_stays hb hT hA (fun x hx => hlt x (by simpa using hx)) (fun x hx => by simpa using hlt x (by simpa using hx))
 ·rw [hvs, hv]; rfl
def layV (l : List Value) : Obj → Obj
 | .cells _ t frozen => .cells l.toArray t frozen
 | o => o
def deB32 : List Int := [0, 1, 28, 2, 29, 14, 24, 3, 30, 22, 20, 15, 25, 17, 4, 8, 31, 27, 13, 23, 21, 19, 16, 7, 26, 12, 18, 6, 11, 5, 10, 9]
def deB64 : List Int := [0, 1, 56, 2, 57, 49, 28, 3, 61, 58, 42, 50, 38, 29, 17, 4, 62, 47, 59, 36, 45, 43, 51, 22, 53, 39, 33, 30, 24, 18, 12, 5, 63, 55, 48, 27, 60, 41, 37, 16, 46, 35, 44, 21, 52, 32, 23, 11, 54, 26, 40, 15, 34, 20, 31, 10, 25, 14, 19, 9, 13, 8, 7, 6]
def acc : List Int := [128, 191, 160, 191, 128, 159, 144, 191, 128, 143, 0, 0, 0, 0, 0, 0, 0, 0, 0, 0, 0, 0, 0, 0, 0, 0, 0, 0, 0, 0, 0, 0]
def rangeS : ByteArray := ⟨#[118, 97, 108, 117, 101, 32, 111, 117, 116, 32, 111, 102, 32, 114, 97, 110, 103, 101]⟩
def synS : ByteArray := ⟨#[105, 110, 118, 97, 108, 105, 100, 32, 115, 121, 110, 116, 97, 120]⟩
noncomputable def low : Nat := (World.holding Tryz.prog default ⟨#[], #[], []⟩).heap.size
noncomputable def laidWorld (os : Os) : World :=
 { World.holding Tryz.prog os ⟨#[.cells #[.string rangeS] 176, .cells #[.string synS] 176], #[], []⟩ with heap := (((((((World.holding Tryz.prog os ⟨#[.cells #[.string rangeS] 176, .cells #[.string synS] 176], #[], []⟩).heap.modify 0 (layV (pow10s.map (Value.int .u64)))).modify 4 (layV (Go.Pinned.utf8FirstZ.map fun (n : Nat) => Value.int .u8 (n : Int)))).modify 5 (layV (acc.map (Value.int .u8)))).modify 2 (layV [.iface 174 (.pointer (some ⟨low + 1, 0, none⟩))])).modify 3 (layV [.iface 174 (.pointer (some ⟨low, 0, none⟩))])).modify 6 (layV (deB32.map (Value.int .u8)))).modify 7 (layV (deB64.map (Value.int .u8))) }
end Go.Proofs.YtbkogeihjcnejaaGreatDoor
namespace Go.Proofs.YtbkogeihjcnejaaGreatDoor
open Go Go.Ab Go.ChangeShapes Go.WideShapes Go.ChangeAt Go.RowKit
set_option linter.all false
set_option maxRecDepth 100000
theorem cells25 : Tryz.prog.cellsOf 25 = 1 := by kernel_rfl
theorem cells27 : Tryz.prog.cellsOf 27 = 3 := by kernel_rfl
theorem cells52 : Tryz.prog.cellsOf 52 = 2 := by kernel_rfl
theorem cells75 : Tryz.prog.cellsOf 75 = 4 := by kernel_rfl
section
variable {H : Type} {enc : TypeId × Value → H} {W : World}
theorem fld {fs : Array Field} {xs : List (DataW H × List MemPlace)} {cs : List Value} {n : Nat}
  (hf : ∀ (i : Nat) (f : Field), fs[i]? = some f → DataW.trod enc Tryz.prog W 0 (fun _ => true) true n f.type ((cs.drop f.offset).take (Tryz.prog.cellsOf f.type)) = xs[i]?)
  (hl : xs.length = fs.size) (i : Nat) (f : Field) (hi : fs[i]? = some f) : ∃ y, DataW.trod enc Tryz.prog W 0 (fun _ => true) true n f.type ((cs.drop f.offset).take (Tryz.prog.cellsOf f.type)) = some y := by
 have h1 := (Array.getElem?_eq_some_iff.1 hi).1
 rw [← hl] at h1
 exact ⟨xs[i], by rw [hf i f hi]; exact List.getElem?_eq_getElem h1⟩
theorem rd_span : Rd enc W 52 encDSpan := by
 intro n cs x h
 obtain ⟨xs, m, rfl, rfl, hlen, hxl, hf⟩ := DataW.trod_struct Tryz.underlying52 h
 obtain ⟨y0, h0⟩ := fld hf hxl 0 _ rfl
 obtain ⟨y1, h1⟩ := fld hf hxl 1 _ rfl
 obtain ⟨a0, e0, _⟩ := DataW.trod_int Tryz.underlying3 h0
 obtain ⟨a1, e1, _⟩ := DataW.trod_int Tryz.underlying3 h1
 rw [cells52] at hlen
 rcases cs with _ | ⟨c0, _ | ⟨c1, _ | ⟨c2, cs⟩⟩⟩ <;> simp at hlen
 simp [cells3] at e0 e1
 subst e0 e1
 exact ⟨⟨a0, a1⟩, .cons _ _ _ _ (.int _ _) (.cons _ _ _ _ (.int _ _) .nil)⟩
theorem rd_turn : Rd enc W 75 encDTurn := by
 intro n cs x h
 obtain ⟨xs, m, rfl, rfl, hlen, hxl, hf⟩ := DataW.trod_struct Tryz.underlying75 h
 obtain ⟨y0, h0⟩ := fld hf hxl 0 _ rfl
 obtain ⟨y1, h1⟩ := fld hf hxl 1 _ rfl
 obtain ⟨a0, e0⟩ := rd_span _ _ _ h0
 obtain ⟨a1, e1⟩ := rd_span _ _ _ h1
 rw [cells75] at hlen
 rcases cs with _ | ⟨c0, _ | ⟨c1, _ | ⟨c2, _ | ⟨c3, _ | ⟨c4, cs⟩⟩⟩⟩⟩ <;> simp at hlen
 simp [cells52] at e0 e1
 cases e0 with
 | cons _ _ _ _ k0 r0 =>
  cases r0 with
  | cons _ _ _ _ k1 _ =>
   cases e1 with
   | cons _ _ _ _ k2 r2 =>
    cases r2 with
    | cons _ _ _ _ k3 _ => exact ⟨⟨a0, a1⟩, .cons _ _ _ _ k0 (.cons _ _ _ _ k1 (.cons _ _ _ _ k2 (.cons _ _ _ _ k3 .nil)))⟩
theorem rd_driver : Rd enc W 27 encDDriver := by
 intro n cs x h
 obtain ⟨xs, m, rfl, rfl, hlen, hxl, hf⟩ := DataW.trod_struct Tryz.underlying27 h
 obtain ⟨y0, h0⟩ := fld hf hxl 0 _ rfl
 obtain ⟨y1, h1⟩ := fld hf hxl 1 _ rfl
 obtain ⟨y2, h2⟩ := fld hf hxl 2 _ rfl
 obtain ⟨a0, e0, _⟩ := DataW.trod_string Tryz.underlying9 h0
 obtain ⟨a1, e1, _⟩ := DataW.trod_int Tryz.underlying3 h1
 obtain ⟨l, e2⟩ := rd_slice (ec := encDTurn) Tryz.underlying25 cells75 (by decide) (fun _ => rfl) (fun _ => rfl) rd_turn _ _ _ h2
 rw [cells27] at hlen
 rcases cs with _ | ⟨c0, _ | ⟨c1, _ | ⟨c2, _ | ⟨c3, cs⟩⟩⟩⟩ <;> simp at hlen
 simp [cells3, cells9, cells25] at e0 e1 e2
 subst e0 e1
 cases e2 with
 | cons _ _ _ _ k2 _ => exact ⟨⟨a0, a1, l⟩, .cons _ _ _ _ (.str _) (.cons _ _ _ _ (.int _ _) (.cons _ _ _ _ k2 .nil))⟩
theorem arg_int {v : Value} {d : DataW H} {ps : List MemPlace} {base : Nat} (hv : Value.okWide Tryz.prog W .any base 3 v) (h : DataW.Trod enc Tryz.prog W 0 (fun _ => true) true 3 v d ps) :
  ∃ n : Int, Rep (allK W) γ0 sv0 (.int .i64 n) v := by
 obtain ⟨n, hn⟩ := h
 obtain ⟨a, e, _⟩ := DataW.trod_int Tryz.underlying3 hn
 cases v with
 | int k m => simp [Value.cells] at e; obtain ⟨rfl, rfl⟩ := e; exact ⟨m, .int _ _⟩
 | agg cs => simp [Value.okWide, Cell.okWide, Cell.ok, Tryz.underlying3] at hv
 | _ => simp [Value.cells] at e
theorem arg_u8 {v : Value} {d : DataW H} {ps : List MemPlace} {base : Nat} (hv : Value.okWide Tryz.prog W .any base 5 v) (h : DataW.Trod enc Tryz.prog W 0 (fun _ => true) true 5 v d ps) :
  ∃ n : Int, Rep (allK W) γ0 sv0 (.int .u8 n) v ∧ 0 ≤ n ∧ n < 256 := by
 obtain ⟨n, hn⟩ := h
 obtain ⟨a, e, _, hw⟩ := DataW.trod_int Tryz.underlying5 hn
 have hb : 0 ≤ a ∧ a < 256 := by
  simp only [Lit.wf, Bool.and_eq_true, decide_eq_true_eq] at hw
  have h1 : IntKind.u8.min = 0 := by decide
  have h2 : IntKind.u8.max = 255 := by decide
  rw [h1, h2] at hw
  omega
 cases v with
 | int k m => simp [Value.cells] at e; obtain ⟨rfl, rfl⟩ := e; exact ⟨m, .int _ _, hb⟩
 | agg cs => simp [Value.okWide, Cell.okWide, Cell.ok, Tryz.underlying5] at hv
 | _ => simp [Value.cells] at e
theorem arg_sl {α : Type} [Inhabited α] {t e z : Nat} {ec : α → List D} (ht : Tryz.prog.underlying t = some (.slice e)) (hz : Tryz.prog.cellsOf e = z) (hz0 : 0 < z) (hl : ∀ a, (ec a).length = z)
  (hc : ∀ a, allCell (ec a) = true) (hr : Rd enc W e ec) {v : Value} {d : DataW H} {ps : List MemPlace} {base : Nat} (hv : Value.okWide Tryz.prog W .any base t v) (h : DataW.Trod enc Tryz.prog W 0 (fun _ => true) true t v d ps) :
  ∃ l : List α, Rep (allK W) γ0 sv0 (slOf z ec l) v := by
 obtain ⟨n, hn⟩ := h
 obtain ⟨l, hl⟩ := rd_slice ht hz hz0 hl hc hr _ _ _ hn
 obtain ⟨a0, len, cap, rfl⟩ := okWide_slice ht hv
 cases hl with
 | cons _ _ _ _ k _ => exact ⟨l, k⟩
theorem arg_drivers {v : Value} {d : DataW H} {ps : List MemPlace} {base : Nat} (hv : Value.okWide Tryz.prog W .any base 22 v) (h : DataW.Trod enc Tryz.prog W 0 (fun _ => true) true 22 v d ps) :
  ∃ l : List Driver, Rep (allK W) γ0 sv0 (slOf 3 encDDriver l) v := arg_sl Tryz.underlying22 cells27 (by decide) (fun _ => rfl) (fun _ => rfl) rd_driver hv h
end
theorem sl_len {α : Type} [Inhabited α] {t e z : Nat} {ec : α → List D} (ht : Tryz.prog.underlying t = some (.slice e)) {κ : Nat → Nat → Option Value} {γ : Nat → Nat} {sv : Nat → Value} {W : World} {base : Nat} {v : Value} {l : List α} (hv : Value.okWide Tryz.prog W .any base t v) (h : Rep κ γ sv (slOf z ec l) v) : l.length ≤ 9223372036854775807 := by
 unfold slOf at h
 generalize hn : l.length = n at h
 cases h with
 | sl0 => omega
 | slE => omega
 | sl _ _ _ b off cap u hc =>
  simp only [Value.okWide, Cell.okWide, Cell.ok, ht] at hv
  have h1 := hv.2.1
  have h2 : IntKind.i64.max = 9223372036854775807 := by decide
  rw [h2] at h1
  omega
end Go.Proofs.YtbkogeihjcnejaaGreatDoor
