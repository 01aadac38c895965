/- Walks by computing: what each function of the program that the laws reach gives for what it gets, as plain Lean, and that it is so; without a condition but those that stand in each theorem. -/
import Derived.Test.YtbkogeihjcnejaaGreatDoorW1
import Derived.Test.YtbkogeihjcnejaaGreatDoorW2
import Derived.Test.YtbkogeihjcnejaaGreatDoorW3
import Derived.Test.YtbkogeihjcnejaaGreatDoorW4
import Derived.Test.YtbkogeihjcnejaaGreatDoorW5
import Derived.Test.YtbkogeihjcnejaaGreatDoorW6
set_option linter.all false
namespace Go.Ab
open Go Go.RowKit
noncomputable section
set_option linter.all false
set_option maxHeartbeats 1000000
def FinRN (X : Ctx) (rs : List ResultVar) (l' : List D) (R : D) : Exit → St → Prop
 | .normal, S | .ret, S => ∃ S' ds l, Wk X S S' ∧ S'.γ 0 = 1 ∧ S'.σ 0 = .box l ∧ ResL X S' rs ds ∧ (∀ κ γ sv v, Rep κ γ sv (tupOf ds) v → Rep κ γ sv R v) ∧ ∀ κ γ sv vs, RepL κ γ sv l vs → RepL κ γ sv l' vs
 | _, _ => False
theorem contractR_introN {Z : Seat} {f : FuncId} {fn : Func} {c : Code} {l l' A : List D} {R : D} (hf : Z.P.funcs[f]? = some fn) (hb : fn.body = some c) (hname : (fn.name == "runtime.NumGoroutine") = false) (hn : Nat.ble (A.length + 1) fn.ntmps = true)
  (hl : PureL l) (hl' : PureL l') (hc : allCell l = true) (hc' : allCell l' = true) (hA : PureL A) (hR : Pure R)
  (h : ∀ w κ b, W (Ctx.plain Z fn.ntmps w κ (some b)) c (FinRN (Ctx.plain Z fn.ntmps w κ (some b)) fn.results.toList l' R) (St.initR l A)) : ContractR Z f l l' A R := by
 refine ⟨hA, hR, hl, hl', hc', ⟨fn, c, hf, hb, hname⟩, fun w κ args b T cs hκ hκb hh hcs hglob hrep => ?_⟩
 refine (callsIn_wide (n := 0)).1 (callsIn_of_wp_marks hf hb trivial ?_ rfl)
 have hlen : A.length + 1 ≤ fn.ntmps := Nat.le_of_ble_eq_true hn
 have hal := hrep.length
 let sv : Nat → Value := upd sv0 0 (.pointer (some ⟨b, 0, none⟩))
 let γ : Nat → Nat := upd (fun _ => 0) 0 1
 have hrep' : RepL κ γ sv (.bx 0 1 0 :: A) (Value.pointer (some ⟨b, 0, none⟩) :: args) :=
  .cons _ _ _ _ (.bx _ _ _ _ (Nat.le_refl _) (fun _ => ⟨b, rfl, rfl⟩) rfl) (hrep.pure (fun _ _ _ h => h) hA)
 have hσ : ∀ s b', blk (upd (fun _ => Own.none) 0 (.box l) s) (sv s) = some b' → s = 0 ∧ b' = b := by
  intro s b' hs
  by_cases e : s = 0
  ·subst e; rw [upd_same] at hs; simp only [sv, upd_same, blk, Option.some.injEq] at hs; exact ⟨rfl, hs.symm⟩
  ·rw [upd_ne _ _ _ _ e] at hs; cases hs
 have hsim : Sim (Ctx.plain Z fn.ntmps w κ (some b)) κ sv (St.initR l A) { tmps := (Value.pointer (some ⟨b, 0, none⟩) :: args).toArray ++ Array.replicate (fn.ntmps - (Value.pointer (some ⟨b, 0, none⟩) :: args).toArray.size) Go.undef, defers := [] } w := by
  refine ⟨by simp [Ctx.plain]; omega, Dfr.nil rfl, fun i _ => slot_init hrep' _ i, ?_⟩
  refine ⟨hκ, fun s => ?_, fun s t b' hs ht => (hσ s b' hs).1.trans (hσ t b' ht).1.symm, fun s b' o hs => ?_, fun s b' hs => .inr (.inl (by rw [(hσ s b' hs).2]; rfl)), ⟨fun k => k = b, ⟨Frame.refl _ _, fun k h => .inr (by rw [h])⟩, fun s b' hs => (hσ s b' hs).2⟩, fun g l hg => ?_, fun b o v _ hk => hk, fun b' hb' => ?_, Nat.le_refl _, ⟨fun _ _ _ h => (by cases h), fun _ => Nat.zero_le _, fun s (e : 0 = γ s) => upd_ne _ _ _ _ (fun e2 => by subst e2; simp only [γ, upd_same] at e; cases e)⟩, fun _ _ _ _ h => h, fun _ _ _ h => h, fun _ h => h.elim, gz_init hglob (fun b' e o => by have e : some b = some b' := e; simp only [Option.some.injEq] at e; subst e; exact hκb o) (fun _ e => e.elim)⟩
  ·by_cases e : s = 0
   ·subst e
    exact ⟨b, T, cs, rfl, hh, hcs.pure (fun _ _ _ h => h) hl, .pure hc hl⟩
   ·show Owns _ _ _ _ _ s (upd (fun _ => Own.none) 0 (.box l) s)
    rw [upd_ne _ _ _ _ e]; trivial
  ·rw [(hσ s b' hs).2]; exact hκb o
  ·obtain ⟨h1, u, h2, h3⟩ := hglob.1 g l hg
   exact ⟨h1, u, h2.pure (fun _ _ _ h => h) (Z.globPure g l hg), h3⟩
  ·have hb' : some b = some b' := hb'
   simp only [Option.some.injEq] at hb'
   subst hb'
   exact ⟨Nat.le_refl _, fun _ => rfl⟩
 refine wpIn_mono (h w κ b κ sv _ w hsim) ?_
 rintro e a' w' ⟨κ', sv', S', hs, hq⟩
 cases e <;> first | exact hq.elim | skip
 all_goals
  obtain ⟨S2, ds, m, hw, hγ, hσ', hd, hconv, hconvl⟩ := hq
  obtain ⟨κ2, sv2, hs⟩ := hw _ _ _ _ hs
  obtain ⟨Ds, d1, d2, d3, _⟩ := hs.defers
  show LeavesInM _ _ _ _ _ _ a'.defers _ _
  rw [d1]
  refine leaves_of rfl plainF_turn hd (fun a w v hs h2 => ?_) Ds a' w' hs d1 d2 d3
  have hpin := (hs.wld.pin b rfl).2 hγ
  have hown := hs.wld.own 0
  rw [hσ'] at hown
  obtain ⟨b2, T2, cs2, e1, e2, e3, e4⟩ := hown
  rw [hpin] at e1
  simp only [Value.pointer.injEq, Option.some.injEq, Addr.mk.injEq, and_true] at e1
  subst e1
  obtain ⟨M, h1, _⟩ := hs.wld.frame
  exact ⟨v, cs2, T2, rfl, e2, (hconvl _ _ _ _ e3).pure (fits_grow hs.wld) hl', (hconv _ _ _ _ h2).pure (fits_grow hs.wld) hR, h1.1⟩
section
variable {R : Type} {X : Ctx} {Z : ISeat} {r : R}
def initR (l A : List I) : IS := ⟨enum 0 (.bx 0 1 0 :: A), [(0, 1)], [(0, .box l)]⟩
theorem toSt_initR (l A : List I) : (initR l A).toSt zh = St.initR (I.toDL zh l) (I.toDL zh A) := by
 unfold IS.toSt St.initR initR
 congr 1
 ·funext i
  exact look_enum zh (.bx 0 1 0 :: A) 0 i (Nat.zero_le _)
 ·funext s
  simp only [IS.gen, lk0, lk1, lk2, zh, upd]
  cases Nat.beq s 0 <;> rfl
 ·funext s
  simp only [IS.own, lk0, lk1, lk2, upd]
  cases Nat.beq s 0 <;> rfl
def boxAt (S : IS) : List I := match S.own 0 with | .box l => l | _ => []
def finKR (Z : ISeat) (nt : Nat) (rv : List ResultVar) (bt : T) (ts : List T) (S : IS) : Option (den bt × resD ts) := match resIL Z nt S rv with
 | some ds => (match resIL Z nt (frz S (arrsOf S (plIL ds ++ plIL (boxAt S)))) rv, (frz S (arrsOf S (plIL ds ++ plIL (boxAt S)))).own 0 with
  | some ds, .box l => (match decC bt l, decR ts ds with | some y, some x => some (y, x) | _, _ => none)
  | _, _ => none)
 | none => none
def finXR (Z : ISeat) (nt : Nat) (rv : List ResultVar) (bt : T) (ts : List T) (e : Option Nat) (S : IS) : Option (den bt × resD ts) := match e with
 | none => finKR Z nt rv bt ts S
 | some _ => none
theorem finKR_ok {nt : Nat} (hX : At X Z nt) (hxf : ∀ p, X.xa p = false) {rv : List ResultVar} {bt : T} {ts : List T} {S : IS} {y : den bt} {x : resD ts} {h h' : Nat → Nat} (hi : h 0 + S.gen 0 = 1) (hr : finKR Z nt rv bt ts S = some (y, x)) :
  ∃ S' ds l, Wk X (S.toSt h) S' ∧ S'.γ 0 = 1 ∧ S'.σ 0 = .box l ∧ ResL X S' rv ds ∧ (∀ κ γ sv v, Rep κ γ sv (tupOf ds) v → Rep κ γ sv ((encR ts x).toD h') v) ∧ ∀ κ γ sv vs, RepL κ γ sv l vs → RepL κ γ sv (I.toDL h' (encC bt y)) vs := by
 unfold finKR at hr
 split at hr
 ·rename_i ds0 _
  split at hr
  ·rename_i ds l hds hl
   split at hr
   ·rename_i y' x' hy hx
    simp only [Option.some.injEq, Prod.mk.injEq] at hr
    obtain ⟨rfl, rfl⟩ := hr
    refine ⟨_, _, I.toDL h l, frz_ok (arrsOf S (plIL ds0 ++ plIL (boxAt S))) S (fun p _ => hxf p), ?_, ?_, resIL_ok hX hds, fun κ γ sv v hv => ?_, fun κ γ sv vs hv => ?_⟩
    ·show h 0 + look 0 (frz S _).gs 0 = 1
     rw [frz_gs]; exact hi
    ·show ((frz S _).own 0).toOwn h = _
     rw [hl]; rfl
    ·unfold encR
     rw [tupI_toD]
     exact repL_tup (by simp only [toDL_len, decR_len hx]) (fun vs hvs => decR_rep hx hvs) hv
    ·rw [toDL_enc, ← toDL_enc h]
     exact nilL_rep (nilIL_rel h (decC_ok bt hy)) hv
   ·cases hr
  ·cases hr
 ·cases hr
def fnRunR {bt : T} {ts : List T} (it : It (den bt × resD ts)) (E : FEnv Z) (c : Code) (rv : List ResultVar) (l A : List I) : Option (den bt × resD ts) :=
 runC it E c ⟨[], []⟩ (initR l A) (finKR Z E.nt rv bt ts) (finXR Z E.nt rv bt ts)
theorem encA_h (h : Nat → Nat) : ∀ (ats : List T) (a : argD ats), I.toDL h (encA ats a) = I.toDL zh (encA ats a) := by
 have key : ∀ (t : T) (x : den t), (encV t x).toD h = (encV t x).toD zh := fun t x => by
  unfold encV
  cases isSt t with
  | true => simp only [cond_true, I.toD, toDL_enc]
  | false =>
   simp only [cond_false]
   split
   ·rename_i d e
    have h1 := toDL_enc h t x
    rw [← toDL_enc zh, e] at h1
    simpa [I.toDL] using h1
   ·rfl
 intro ats
 induction ats with
 | nil => intro a; rfl
 | cons t ats ih => intro a; simp only [encA, I.toDL, ih, key]
theorem fn_contractR {bt : T} {ts ats : List T} {E : FEnv Z} {f : FuncId} {fn : Func} {c : Code} (hf : Z.P.funcs[f]? = some fn) (hb : fn.body = some c) (hname : (fn.name == "runtime.NumGoroutine") = false) (hn : Nat.beq fn.ntmps E.nt = true) (hl : Nat.ble (ats.length + 1) fn.ntmps = true) (hp : E.pin = [0])
  {b y : den bt} {a : argD ats} {x : resD ts} (hr : fnRunR itN E c fn.results.toList (encC bt b) (encA ats a) = some (y, x)) (h : Nat → Nat) : ContractR Z.toSeat f (I.toDL h (encC bt b)) (I.toDL h (encC bt y)) (I.toDL h (encA ats a)) ((encR ts x).toD h) := by
 have hal : ∀ (ats : List T) (a : argD ats), (encA ats a).length = ats.length := fun ats => by
  induction ats with
  | nil => intro a; rfl
  | cons t ats ih => intro a; simp only [encA, List.length_cons, ih]
 rw [encA_h h, toDL_enc h bt b, ← toDL_enc zh bt b]
 have pb : ∀ (h : Nat → Nat) (z : den bt), PureL (I.toDL h (encC bt z)) := fun h z => by rw [toDL_enc]; exact encD_pure bt z
 have cb : ∀ (h : Nat → Nat) (z : den bt), allCell (I.toDL h (encC bt z)) = true := fun h z => by rw [toDL_enc]; exact encD_cell bt z
 refine contractR_introN hf hb hname (by rw [toDL_len, hal]; exact hl) (pb _ _) (pb _ _) (cb _ _) (cb _ _) (encA_pure _ _ _) (encR_pure _ _ _) fun w κ b' => ?_
 have hX : At (Ctx.plain Z.toSeat fn.ntmps w κ (some b')) Z E.nt := At.pl rfl (Nat.eq_of_beq_eq_true hn) (fun _ => rfl)
 rw [← toSt_initR]
 refine W_mono (run_ok c hX (fun _ => ⟨_, _, _, _, _, rfl⟩) (g0 := fun _ => 1) ⟨[], []⟩ rfl _ _ _ zh ⟨(fun g hg => by rw [hp] at hg; simp only [List.mem_singleton] at hg; subst hg; rfl), ⟨(fun p hp => (nomatch hp)), (fun p hp => (nomatch hp))⟩⟩ hr) ?_
 rintro e T ⟨h2, S, rfl, hi, hq⟩
 cases e with
 | normal => exact finKR_ok hX (fun _ => rfl) (hi.1 0 (by rw [hp]; exact List.mem_cons_self ..)) hq
 | ret => exact finKR_ok hX (fun _ => rfl) (hi.1 0 (by rw [hp]; exact List.mem_cons_self ..)) hq
 | exit i => simp only [finXR] at hq; cases hq
 | _ => exact hq.elim
theorem contractR_dec {Z : Seat} {f : FuncId} {bt : T} {ats : List T} {l ds : List I} {b : den bt} {a : argD ats} {l' : List D} {R : D} {h : Nat → Nat} (hb : decC bt l = some b) (hd : decA ats ds = some a) (hpl : PureL (I.toDL h l)) (hp : PureL (I.toDL h ds)) (hc : ContractR Z f (I.toDL h (encC bt b)) l' (I.toDL h (encA ats a)) R) : ContractR Z f (I.toDL h l) l' (I.toDL h ds) R :=
 ⟨hp, hc.pureR, hpl, hc.purel', hc.cell', hc.body, fun w κ args b T cs h1 h2 h3 h4 h5 h6 => hc.calls w κ args b T cs h1 h2 h3 (nilL_rep (nilIL_rel h (decC_ok bt hb)) h4) h5 (decA_rep hd h6)⟩
theorem nilIL_pure {l m : List I} (hn : NilIL l m) (h : Nat → Nat) (hp : PureL (I.toDL h m)) : PureL (I.toDL h l) := by
 induction hn with
 | nil => exact PureL.nil
 | cons h1 _ ih =>
  refine PureL.cons ?_ (ih fun d hd => hp d (List.mem_cons_of_mem _ hd))
  cases h1 with
  | same => exact hp _ (List.mem_cons_self ..)
  | nil => exact .nil
  | nsl t l => exact pure_noRef h (.nsl t l) rfl
def mkSpecR (Z : Seat) (f : FuncId) (bt : T) (ats ts : List T) (F : den bt → argD ats → Option (den bt × resD ts)) (hF : ∀ b a y x, F b a = some (y, x) → ∀ h, ContractR Z f (I.toDL h (encC bt b)) (I.toDL h (encC bt y)) (I.toDL h (encA ats a)) ((encR ts x).toD h)) : FnSpecR Z where
 f := f
 app := fun l A k => match decC bt l, decA ats A with | some b, some a => (F b a).bind (fun p => k (encC bt p.1) (encR ts p.2)) | _, _ => none
 ok := fun l A k r h => by
  split at h
  ·rename_i b a hb ha
   cases hx : F b a with
   | none => rw [hx] at h; cases h
   | some p =>
    obtain ⟨y, x⟩ := p
    rw [hx] at h
    exact ⟨_, _, h, fun h => contractR_dec hb ha (nilIL_pure (decC_ok bt hb) h (by rw [toDL_enc]; exact encD_pure bt b)) (decA_pure ha) (hF b a y x hx h)⟩
  ·cases h
end
end
end Go.Ab
namespace Go.Ab
open Go Go.RowKit
set_option linter.all false
def bodyOf (fn : Func) : Code := match fn.body with | some c => c | none => .skip
noncomputable def opq {α : Type} (x : α) : α := Classical.choose (⟨x, rfl⟩ : ∃ y, y = x)
theorem opq_eq {α : Type} (x : α) : opq x = x := Classical.choose_spec (⟨x, rfl⟩ : ∃ y, y = x)
def w64 (n : Int) : Int := IntKind.i64.wrap n
def xorI (k : IntKind) (m n : Int) : Int := k.wrap (BitVec.ofInt k.bits m ^^^ BitVec.ofInt k.bits n).toNat
def shrI (k : IntKind) (m n : Int) : Int := m.fdiv (2 ^ (min n.toNat k.bits))
end Go.Ab
namespace Go.Ab
open Go Go.RowKit
noncomputable section
set_option linter.all false
set_option maxHeartbeats 1000000
def FinB (X : Ctx) (rs : List ResultVar) (l' : List D) : Exit → St → Prop
 | .normal, S | .ret, S => ∃ S' s g l, Wk X S S' ∧ S'.γ s = g ∧ S'.σ s = .box l ∧ ResL X S' rs [.bx s g 0] ∧ ∀ κ γ sv vs, RepL κ γ sv l vs → RepL κ γ sv l' vs
 | _, _ => False
theorem contractB_intro {Z : Seat} {f : FuncId} {fn : Func} {c : Code} {A l' : List D} (hf : Z.P.funcs[f]? = some fn) (hb : fn.body = some c) (hname : (fn.name == "runtime.NumGoroutine") = false) (hn : Nat.ble A.length fn.ntmps = true) (hA : PureL A) (hl' : PureL l') (hc' : allCell l' = true)
  (h : ∀ w κ, W (Ctx.plain Z fn.ntmps w κ none) c (FinB (Ctx.plain Z fn.ntmps w κ none) fn.results.toList l') (St.init A)) : ContractB Z f A l' := by
 refine ⟨hA, hl', ⟨fn, c, hf, hb, hname⟩, fun w κ args hκ hglob hrep => ?_⟩
 refine (callsIn_wide (n := 0)).1 (callsIn_of_wp_marks hf hb trivial ?_ rfl)
 have hlen : A.length ≤ fn.ntmps := Nat.le_of_ble_eq_true hn
 have hal := hrep.length
 have hsim : Sim (Ctx.plain Z fn.ntmps w κ none) κ sv0 (St.init A) { tmps := args.toArray ++ Array.replicate (fn.ntmps - args.toArray.size) Go.undef, defers := [] } w := by
  refine ⟨by simp [Ctx.plain]; omega, Dfr.nil rfl, fun i _ => slot_init hrep _ i, ?_⟩
  exact ⟨hκ, fun _ => trivial, (fun s t b hs => by cases hs), (fun s b o hs => by cases hs), (fun s b hs => by cases hs), ⟨fun _ => False, ⟨Frame.refl _ _, fun _ h => h.elim⟩, fun s b hs => by cases hs⟩, hglob.1, fun b o v _ hk => hk, (fun b hb => by cases hb), Nat.le_refl _, ⟨fun _ _ _ h => (by cases h), fun _ => Nat.zero_le _, fun _ _ => rfl⟩, fun _ _ _ _ h => h, fun _ _ _ h => h, fun _ h => h.elim, gz_init hglob (fun _ e => by cases e) (fun _ e => e.elim)⟩
 refine wpIn_mono (h w κ κ sv0 _ w hsim) ?_
 rintro e a' w' ⟨κ', sv', S', hs, hq⟩
 cases e <;> first | exact hq.elim | skip
 all_goals
  obtain ⟨S2, s, g, l, hw, hg, hσ, hd, hconv⟩ := hq
  obtain ⟨κ2, sv2, hs⟩ := hw _ _ _ _ hs
  obtain ⟨Ds, d1, d2, d3, _⟩ := hs.defers
  show LeavesInM _ _ _ _ _ _ a'.defers _ _
  rw [d1]
  refine leaves_of rfl plainF_turn hd (fun a w' v hs h2 => ?_) Ds a' w' hs d1 d2 d3
  obtain ⟨M, h1, _⟩ := hs.wld.frame
  have hown := hs.wld.own s
  rw [hσ] at hown
  obtain ⟨b, T, cs, e1, e2, e3, e4⟩ := hown
  have hbk : blk (S2.σ s) (sv2 s) = some b := by rw [hσ, e1]; rfl
  have hnew : w.heap.size ≤ b := (hs.wld.frsh s b hbk).resolve_right (fun h => by rcases h with h | h <;> cases h)
  have hv : v = .pointer (some ⟨b, 0, none⟩) := by
   simp only [tupOf] at h2
   cases h2 with
   | bx _ _ _ _ _ hh _ =>
    obtain ⟨b', q1, q2⟩ := hh hg.symm
    rw [e1] at q1
    simp only [Value.pointer.injEq, Option.some.injEq, Addr.mk.injEq, and_true] at q1
    rw [q2, q1]
  have hk : ∀ b o u, κ2 b o = some u → (fun b o => if b < w.heap.size then κ b o else κ2 b o) b o = some u := fun b o u hu => by
   simp only
   split
   ·exact hs.wld.old b o u (by assumption) hu
   ·exact hu
  have h6 := hconv _ _ _ _ e3
  refine ⟨b, T, cs, fun b o => if b < w.heap.size then κ b o else κ2 b o, by rw [hv], hnew, e2, h6.pure hk hl', hc', fun b o u hu => ?_, fun b o u hb hu => ?_, fun b o u hu => ?_, fun o => ?_, h1.1.below⟩
  ·have : b < w.heap.size := by have := World.block_lt_of_cell? w _ (hκ b o u hu); simpa using this
   simp only; rw [if_pos this]; exact hu
  ·simp only at hu; rw [if_pos hb] at hu; exact hu
  ·simp only at hu
   split at hu
   ·rename_i hb
    have h3 := hκ b o u hu
    rw [h1.1.below.cell (by simpa using hb)]; exact h3
   ·exact hs.wld.imm b o u hu
  ·simp only; rw [if_neg (by omega)]
   exact hs.wld.sep s b o hbk
section
variable {X : Ctx} {Z : ISeat}
def finKB (Z : ISeat) (nt : Nat) (rv : List ResultVar) (bt : T) (S : IS) : Option (den bt) := match rv with
 | [v] => (match resI Z nt S v with
  | some (.bx s g 0) => live S s g (match S.own s with
   | .box l => (match (frz S (arrsOf S (plIL l))).own s with
    | .box l => bif Nat.beq 0 0 then decC bt l else none
    | _ => none)
   | _ => none)
  | _ => none)
 | _ => none
theorem frz1_get {S : IS} {p s g o : Nat} {rv : ResultVar} {nt : Nat} (hr : resI Z nt S rv = some (.bx s g o)) (ht : ∃ t, rv = .tmp t) : resI Z nt (frz1 S p) rv = some (.bx s g o) := by
 obtain ⟨t, rfl⟩ := ht
 simp only [resI, IS.ev, Option.some.injEq] at hr ⊢
 cases hb : Nat.blt t nt with
 | false => rw [hb] at hr; cases hr
 | true =>
  rw [hb] at hr
  simp only [cond_true] at hr ⊢
  unfold frz1
  split
  ·show look .undef (mapS _ S.rs) t = _
   rw [look_map rfl]
   have h3 : look .undef S.rs t = .bx s g o := hr
   rw [h3]; rfl
  ·exact hr
theorem frz_get {s g o : Nat} {rv : ResultVar} {nt : Nat} (ht : ∃ t, rv = .tmp t) : ∀ (l : List Nat) (S : IS), resI Z nt S rv = some (.bx s g o) → resI Z nt (frz S l) rv = some (.bx s g o)
 | [], S, hr => hr
 | p :: l, S, hr => frz_get ht l _ (frz1_get hr ht)
theorem finKB_ok {nt : Nat} (hX : At X Z nt) (hxf : ∀ p, X.xa p = false) {rv : List ResultVar} {bt : T} {S : IS} {y : den bt} {h h' : Nat → Nat} (ht : ∃ t, rv = [.tmp t]) (hr : finKB Z nt rv bt S = some y) :
  ∃ S' s g l, Wk X (S.toSt h) S' ∧ S'.γ s = g ∧ S'.σ s = .box l ∧ ResL X S' rv [.bx s g 0] ∧ ∀ κ γ sv vs, RepL κ γ sv l vs → RepL κ γ sv (I.toDL h' (encC bt y)) vs := by
 obtain ⟨t, rfl⟩ := ht
 simp only [finKB] at hr
 split at hr
 ·rename_i s g hv
  replace hr := live_ok hr
  obtain ⟨rfl, hr⟩ := hr
  split at hr
  ·rename_i l0 hl0
   split at hr
   ·rename_i l hl
    have hr : decC bt l = some y := hr
    have h1 := frz_get (Z := Z) ⟨t, rfl⟩ (arrsOf S (plIL l0)) S hv
    refine ⟨_, s, h s + S.gen s, I.toDL h l, frz_ok (arrsOf S (plIL l0)) S (fun p _ => hxf p), ?_, ?_, ⟨resI_ok hX h1, trivial⟩, fun κ γ sv vs hv => ?_⟩
    ·show h s + look 0 (frz S _).gs s = _
     rw [frz_gs]; rfl
    ·show ((frz S _).own s).toOwn h = _
     rw [hl]; rfl
    ·rw [toDL_enc, ← toDL_enc h]
     exact nilL_rep (nilIL_rel h (decC_ok bt hr)) hv
   ·cases hr
  ·cases hr
 ·cases hr
def finXB (Z : ISeat) (nt : Nat) (rv : List ResultVar) (bt : T) (e : Option Nat) (S : IS) : Option (den bt) := match e with
 | none => finKB Z nt rv bt S
 | some _ => none
def fnRunB {bt : T} (it : It (den bt)) (E : FEnv Z) (c : Code) (rv : List ResultVar) (A : List I) : Option (den bt) := runC it E c ⟨[], []⟩ (initS A) (finKB Z E.nt rv bt) (finXB Z E.nt rv bt)
theorem fn_contractB {bt : T} {ats : List T} {E : FEnv Z} {f : FuncId} {fn : Func} {c : Code} (hf : Z.P.funcs[f]? = some fn) (hb : fn.body = some c) (hname : (fn.name == "runtime.NumGoroutine") = false) (hn : Nat.beq fn.ntmps E.nt = true) (hl : Nat.ble ats.length fn.ntmps = true) (hp : E.pin = []) (ht : ∃ t, fn.results.toList = [.tmp t])
  {a : argD ats} {y : den bt} (hr : fnRunB itN E c fn.results.toList (encA ats a) = some y) (h : Nat → Nat) : ContractB Z.toSeat f (I.toDL h (encA ats a)) (I.toDL h (encC bt y)) := by
 have hal : ∀ (ats : List T) (a : argD ats), (encA ats a).length = ats.length := fun ats => by
  induction ats with
  | nil => intro a; rfl
  | cons t ats ih => intro a; simp only [encA, List.length_cons, ih]
 rw [encA_h h]
 have pb : PureL (I.toDL h (encC bt y)) := by rw [toDL_enc]; exact encD_pure bt y
 have cb : allCell (I.toDL h (encC bt y)) = true := by rw [toDL_enc]; exact encD_cell bt y
 refine contractB_intro hf hb hname (by rw [toDL_len, hal]; exact hl) (encA_pure _ _ _) pb cb fun w κ => ?_
 have hX : At (Ctx.plain Z.toSeat fn.ntmps w κ none) Z E.nt := At.pl rfl (Nat.eq_of_beq_eq_true hn) (fun _ => rfl)
 rw [← toSt_init]
 refine W_mono (run_ok c hX (fun _ => ⟨_, _, _, _, _, rfl⟩) (g0 := zh) ⟨[], []⟩ rfl _ _ _ zh ⟨(fun g hg => by rw [hp] at hg; cases hg), ⟨(fun p hp => (nomatch hp)), (fun p hp => (nomatch hp))⟩⟩ hr) ?_
 rintro e T ⟨h2, S, rfl, _, hq⟩
 cases e with
 | normal => exact finKB_ok hX (fun _ => rfl) ht hq
 | ret => exact finKB_ok hX (fun _ => rfl) ht hq
 | exit i => simp only [finXB] at hq; cases hq
 | _ => exact hq.elim
theorem contractB_dec {Z : Seat} {f : FuncId} {ats : List T} {ds : List I} {a : argD ats} {l : List D} {h : Nat → Nat} (hd : decA ats ds = some a) (hp : PureL (I.toDL h ds)) (hc : ContractB Z f (I.toDL h (encA ats a)) l) : ContractB Z f (I.toDL h ds) l :=
 ⟨hp, hc.purel, hc.body, fun w κ args hf hg hr => hc.calls w κ args hf hg (decA_rep hd hr)⟩
def mkSpecB (Z : Seat) (f : FuncId) (bt : T) (ats : List T) (F : argD ats → Option (den bt)) (hF : ∀ a y, F a = some y → ∀ h, ContractB Z f (I.toDL h (encA ats a)) (I.toDL h (encC bt y))) : FnSpecB Z where
 f := f
 app := fun A k => match decA ats A with | some a => (F a).bind (fun y => k (encC bt y)) | none => none
 ok := fun A k r h => by
  split at h
  ·rename_i a ha
   cases hx : F a with
   | none => rw [hx] at h; cases h
   | some y =>
    rw [hx] at h
    exact ⟨_, h, fun h => contractB_dec ha (decA_pure ha) (hF a y hx h)⟩
  ·cases h
end
end
end Go.Ab
namespace Go.Ab
open Go Go.RowKit
noncomputable section
set_option linter.all false
set_option maxHeartbeats 1000000
def YL : Nat := 999983
section
variable {Z : ISeat} {its : List T}
def yieldOf (Z : ISeat) (nt : Nat) (S : IS) (o : Oper) : Option (Array Operand × Nat) := match o.op, o.dst, o.guard with
 | .call ⟨.value (.tmp x), xs, _⟩, some t, none => (match S.ev Z nt (.tmp x) with
  | .yl s => bif Nat.beq s YL && Nat.beq (S.gen s) 0 then some (xs, t) else none
  | _ => none)
 | _, _, _ => none
def consM {α : Type} (a : α) (r1 r2 : Option (List α)) : Option (List α) := match r1 with
 | some [] => (match r2 with | some l => some (a :: l) | none => none)
 | _ => none
def scTy : T → Bool
 | .int _ => true
 | .bool => true
 | .str => true
 | _ => false
def scI : I → Bool
 | .int _ _ => true
 | .bool _ => true
 | .str _ => true
 | .nil => true
 | .agg l => scC l
 | _ => false
def give1 (S : IS) (t : T) (d : I) : Option (den t × List Nat) := match t, d with
 | .sl t', .os s g => (match S.own s with
  | .arr _ t2 l => bif Nat.beq g (S.gen s) && scTy t' then (match asL t' t2 l with | some l' => some (l', [s]) | none => none) else none
  | _ => none)
 | t, d => bif scI d then (match decV t d with | some x => some (x, []) | none => none) else none
def giveL (S : IS) : (ts : List T) → List I → Option (argD ts × List Nat)
 | [], [] => some ((), [])
 | t :: ts, d :: ds => (match give1 S t d with
  | some x => (match giveL S ts ds with | some y => some ((x.1, y.1), x.2 ++ y.2) | none => none)
  | none => none)
 | _, _ => none
def dropI (S : IS) (ps : List Nat) : IS := ⟨S.rs, S.gs, ps.map (fun p => (p, IOwn.none)) ++ S.os⟩
def runLI (its : List T) (E : CEnv Z) (F : Fix) (ops : Array Oper) : List Oper → Bool → IS → (Bool → IS → Option (List (argD its))) → Option (List (argD its))
 | [], st, S, k => k st S
 | o :: rest, st, S, k => match yieldOf Z E.nt S o with
  | some (xs, t) => bif st then none else (match giveL S its (xs.toList.map (S.ev Z E.nt)) with
   | some (a, ps) => chk (fzOk F ps && !(memN t (keys F.sl))) (consM a (runLI its E F ops rest true ((dropI S ps).set t (.bool false)) k) (runLI its E F ops rest false ((dropI S ps).set t (.bool true)) k))
   | none => none)
  | none => runL E F ops [o] S (fun S1 => runLI its E F ops rest st S1 k)
def inBI (its : List T) (id : Nat) (kn : Bool → IS → Option (List (argD its))) (kx : Option Nat → Bool → IS → Option (List (argD its))) (e : Option Nat) (st : Bool) (S : IS) : Option (List (argD its)) := match e with
 | some i => bif Nat.beq i id then kn st S else kx (some i) st S
 | none => kx none st S
def runI (its : List T) (it : It (List (argD its))) (E : FEnv Z) : Code → Fix → Bool → IS → (Bool → IS → Option (List (argD its))) → (Option Nat → Bool → IS → Option (List (argD its))) → Option (List (argD its))
 | .skip, _, st, S, kn, _ => kn st S
 | .region _ ops draw, F, st, S, kn, _ => bif draw then runG E.toCEnv F ops ops.toList S [] (settle F (kn st)) else runLI its E.toCEnv F ops ops.toList st S kn
 | .seq a b, F, st, S, kn, kx => runI its it E a F st S (fun st' S' => runI its it E b F st' S' kn kx) kx
 | .cond c a b, F, st, S, kn, kx => (match S.ev Z E.nt c with
  | .bool v => bif v then runI its it E a F st S kn kx else runI its it E b F st S kn kx
  | _ => none)
 | .block id b, F, st, S, kn, kx => runI its it E b F st S kn (inBI its id kn kx)
 | .exit id, _, st, S, _, kx => kx (some id) st S
 | .ret, _, st, S, _, kx => kx none st S
 | .loop b, F, st, S, _, kx => bif st then none else (match findL E.lp (tagOf b) S with
  | some L => (match cstF F L S with
   | some F' => backK E.pin F' L.K (it L.K.V (fun v kn => runI its it E b F' false (stF L.K F' v) (fun st' S' => bif st' then none else backK E.pin F' L.K kn S') kx)) S
   | none => none)
  | none => none)
 | _, _, _, _, _, _ => none
def QI (its : List T) (items : List (argD its)) (p : List Nat) (g0 : Nat → Nat) (F : Fix) (kn : Bool → IS → Option (List (argD its))) (kx : Option Nat → Bool → IS → Option (List (argD its))) : Nat → Bool → Exit → St → Prop := fun k st e T => ∃ h S l, T = S.toSt h ∧ Inv p g0 F h S ∧ (st = false → l = items.drop k) ∧ k ≤ items.length ∧ match e with
 | .normal => kn st S = some l
 | .exit i => kx (some i) st S = some l
 | .ret => kx none st S = some l
 | _ => False
theorem WI_mono {En : Env} {c : Code} {Q Q' : Nat → Bool → Exit → St → Prop} {k : Nat} {s : Bool} {S : St} (h : WI En c Q k s S) (hq : ∀ k s e S, Q k s e S → Q' k s e S) : WI En c Q' k s S := fun U κ sv a W hs => by
 refine wpIn_mono (h U κ sv a W hs) ?_
 rintro e a' W' ⟨k', s', U', κ', sv', S', h1, h2⟩
 exact ⟨k', s', U', κ', sv', S', h1, hq _ _ _ _ h2⟩
theorem consM_some {α : Type} {a : α} {r1 r2 : Option (List α)} {l : List α} (h : consM a r1 r2 = some l) : r1 = some [] ∧ ∃ m, r2 = some m ∧ l = a :: m := by
 unfold consM at h
 split at h
 ·split at h
  ·simp only [Option.some.injEq] at h; exact ⟨rfl, _, rfl, h.symm⟩
  ·cases h
 ·cases h
theorem drop_own (S : IS) : ∀ (ps : List Nat) (s : Nat), (dropI S ps).own s = bif memN s ps then .none else S.own s
 | [], s => rfl
 | p :: ps, s => by
  show look IOwn.none ((p, .none) :: (ps.map (fun p => (p, IOwn.none)) ++ S.os)) s = _
  simp only [lk0, lk1, lk2, memN]
  cases Nat.beq s p with
  | true => rfl
  | false => exact drop_own S ps s
theorem drop_toSt (S : IS) (h : Nat → Nat) (ps : List Nat) : (dropI S ps).toSt h = (S.toSt h).drop ps := by
 unfold IS.toSt St.drop
 congr 1
 funext s
 rw [drop_own]
 cases memN s ps <;> rfl
theorem fzOk_mem {F : Fix} : ∀ {l : List Nat}, fzOk F l = true → ∀ p ∈ l, memN p (keys F.pl) = false
 | q :: l, h, p, hp => by
  simp only [fzOk, Bool.and_eq_true, Bool.not_eq_true'] at h
  rcases List.mem_cons.1 hp with rfl | hp
  ·exact h.1.1
  ·exact fzOk_mem h.2 p hp
theorem Inv.drop {p : List Nat} {g0 : Nat → Nat} {F : Fix} {h : Nat → Nat} {S : IS} (hi : Inv p g0 F h S) {ps : List Nat} (hp : fzOk F ps = true) : Inv p g0 F h (dropI S ps) := by
 refine ⟨hi.1, hi.2.1, fun q hq => ?_⟩
 rw [drop_own]
 cases hm : memN q.1 ps with
 | false => exact hi.2.2 q hq
 | true =>
  have h1 := fzOk_mem hp q.1 (memN_iff.1 hm)
  rw [memN_iff.2 (keys_mem hq)] at h1; cases h1
theorem scI_any {h : Nat → Nat} {d : I} (hs : scI d = true) : ∀ (κ : Nat → Nat → Option Value) (γ : Nat → Nat) (sv : Nat → Value) (v : Value), Rep κ γ sv (d.toD h) v → ∀ (κ' : Nat → Nat → Option Value) (γ' : Nat → Nat) (sv' : Nat → Value), Rep κ' γ' sv' (d.toD h) v := by
 intro κ γ sv v hr κ' γ' sv'
 cases d with
 | int k n => cases hr; exact .int _ _
 | bool b => cases hr; exact .bool _
 | str b => cases hr; exact .str _
 | nil => cases hr; exact .nil
 | agg l =>
  have hsc : scL [.agg l] = true := by
   show (scC l && true) = true
   rw [show scC l = true from hs]; rfl
  obtain ⟨vs, hvs⟩ := scL_ok (h := h) hsc
  have e1 : scal2 ((I.agg l).toD h) = some (vs.headD Go.undef) := by
   simp only [I.toDL, scalL2] at hvs
   cases hq : scal2 ((I.agg l).toD h) with
   | none => rw [hq] at hvs; cases hvs
   | some u => rw [hq] at hvs; simp at hvs; subst hvs; rfl
  rw [scal2_eq e1 hr]; exact scal2_rep e1
 | _ => cases hs
theorem scT_row {t : T} (ht : scTy t = true) (x : den t) : ∃ vs, scalL (encD t x) = some vs := by
 cases t <;> first | (cases ht; done) | exact ⟨_, rfl⟩
theorem give1_ok {S : IS} {h : Nat → Nat} {t : T} {d : I} {x : den t} {p1 ps : List Nat} (hg : give1 S t d = some (x, p1)) (hp : ∀ p ∈ p1, p ∈ ps) : Giv (S.toSt h) ps (d.toD h) ((encV t x).toD zh) := by
 unfold give1 at hg
 split at hg
 ·rename_i t' s g
  split at hg
  ·rename_i E t2 l hσ
   cases hb : Nat.beq g (S.gen s) && scTy t' with
   | false => rw [hb] at hg; cases hg
   | true =>
    rw [hb] at hg
    simp only [cond_true] at hg
    simp only [Bool.and_eq_true] at hb
    split at hg
    ·rename_i l' hl
     simp only [Option.some.injEq, Prod.mk.injEq] at hg
     obtain ⟨rfl, rfl⟩ := hg
     have e1 := Nat.eq_of_beq_eq_true hb.1
     subst e1
     have e2 := asL_eq hl
     simp only [I.sl.injEq] at e2
     obtain ⟨rfl, e2⟩ := e2
     have e2 := eq_of_heq e2
     subst e2
     exact .os s _ E (sz t2) l.length (fun i => encD t2 (l.getD i (dflt t2))) rfl (by show (S.own s).toOwn h = _; rw [hσ]; rfl) (hp s (List.mem_cons_self ..)) (fun i _ => scT_row hb.2 _)
    ·cases hg
  ·cases hg
 ·cases hs : scI d with
  | false => rw [hs] at hg; cases hg
  | true =>
   rw [hs] at hg
   simp only [cond_true] at hg
   split at hg
   ·rename_i y hy
    simp only [Option.some.injEq, Prod.mk.injEq] at hg
    obtain ⟨rfl, rfl⟩ := hg
    exact .conv _ _ fun κ γ sv v hr κ' γ' sv' => decV_rep hy (scI_any hs κ γ sv v hr κ' γ' sv')
   ·cases hg
theorem giveL_ok {S : IS} {h : Nat → Nat} {ps : List Nat} : ∀ {ts : List T} {ds : List I} {x : argD ts} {p1 : List Nat}, giveL S ts ds = some (x, p1) → (∀ p ∈ p1, p ∈ ps) → GivL (S.toSt h) ps (I.toDL h ds) (I.toDL zh (encA ts x))
 | [], [], x, p1, hg, hp => .nil
 | [], _ :: _, x, p1, hg, hp => by cases hg
 | _ :: _, [], x, p1, hg, hp => by cases hg
 | t :: ts, d :: ds, x, p1, hg, hp => by
  unfold giveL at hg
  split at hg
  ·rename_i a ha
   obtain ⟨a1, a2⟩ := a
   split at hg
   ·rename_i b hb
    obtain ⟨b1, b2⟩ := b
    simp only [Option.some.injEq, Prod.mk.injEq] at hg
    obtain ⟨rfl, rfl⟩ := hg
    exact .cons _ _ _ _ (give1_ok ha (fun p hq => hp p (List.mem_append_left _ hq))) (giveL_ok hb (fun p hq => hp p (List.mem_append_right _ hq)))
   ·cases hg
  ·cases hg
variable {En : Env} {items : List (argD its)}
structure AtI (En : Env) (Z : ISeat) (nt : Nat) (items : List (argD its)) : Prop where
 Z : En.Z = Z.toSeat
 nt : En.nt = nt
 n : En.n = items.length
 vals : ∀ (i : Nat) (a : argD its), items[i]? = some a → En.its i = I.toDL zh (encA its a)
theorem AtI.at' {nt : Nat} (h : AtI En Z nt items) (k : Nat) (s : Bool) (U : Nat → Prop) : At (En.X k s U) Z nt := At.pl h.Z h.nt (fun _ => rfl)
theorem runLI_ok {E : CEnv Z} {g0 : Nat → Nat} (hX : AtI En Z E.nt items) (hYL : YL ∈ E.pin) (hg0 : g0 YL = En.l) {F : Fix} (hF : okF F = true) {ops : Array Oper} {kn : Bool → IS → Option (List (argD its))} {kx : Option Nat → Bool → IS → Option (List (argD its))} :
  ∀ (l : List Oper) (k : Nat) (st : Bool) (S : IS) (h : Nat → Nat) (r : List (argD its)), Inv E.pin g0 F h S → runLI its E F ops l st S kn = some r → (st = false → r = items.drop k) → k ≤ items.length → WIL En ops l (QI its items E.pin g0 F kn kx) k st (S.toSt h)
 | [], k, st, S, h, r, hi, hr, hd, hk => WIL_of fun U => WL_nil ⟨h, S, r, rfl, hi, hd, hk, hr⟩
 | o :: rest, k, st, S, h, r, hi, hr, hd, hk => by
  unfold runLI at hr
  split at hr
  ·rename_i xs t hy
   cases st with
   | true => cases hr
   | false =>
    simp only [cond_false] at hr
    split at hr
    ·rename_i a ps ha
     obtain ⟨hc, hr⟩ := chk_some hr
     simp only [Bool.and_eq_true, Bool.not_eq_true'] at hc
     obtain ⟨r1, m, r2, rfl⟩ := consM_some hr
     have hdk := hd rfl
     have hlt : k < items.length := by
      have h1 : (items.drop k).length = (a :: m).length := by rw [← hdk]
      simp at h1; omega
     have hak : items[k]? = some a := by
      have h1 : (items.drop k)[0]? = some a := by rw [← hdk]; rfl
      simpa using h1
     have hmk : m = items.drop (k + 1) := by
      have h1 : (items.drop k).tail = m := by rw [← hdk]; rfl
      rw [← h1]; simp
     unfold yieldOf at hy
     split at hy
     ·rename_i x xs' ts t' ho hd' hg
      split at hy
      ·rename_i ly hly
       cases hb : Nat.beq ly YL && Nat.beq (S.gen ly) 0 with
       | false => rw [hb] at hy; cases hy
       | true =>
        rw [hb] at hy
        simp only [Bool.and_eq_true] at hb
        have ely := Nat.eq_of_beq_eq_true hb.1
        have eg := Nat.eq_of_beq_eq_true hb.2
        simp only [cond_true, Option.some.injEq, Prod.mk.injEq] at hy
        obtain ⟨rfl, rfl⟩ := hy
        have hev : ∀ y, (S.toSt h).ev (En.X k false fun _ => False) y = (S.ev Z E.nt y).toD h := fun y => ev_toSt (hX.at' k false _) y
        have hmap : xs'.toList.map ((S.toSt h).ev (En.X k false fun _ => False)) = I.toDL h (xs'.toList.map (S.ev Z E.nt)) := by
         rw [toDL_map, List.map_map]
         exact List.map_congr_left fun y _ => hev y
        have hT := runLI_ok hX hYL hg0 hF (kx := kx) rest (k + 1) false ((dropI S ps).set t' (.bool true)) h m ((hi.drop hc.1).set hc.2 _) r2 (fun _ => hmk) (by omega)
        have hFl := runLI_ok hX hYL hg0 hF (kx := kx) rest (k + 1) true ((dropI S ps).set t' (.bool false)) h [] ((hi.drop hc.1).set hc.2 _) r1 (fun h => by cases h) (by omega)
        rw [toSt_set, drop_toSt] at hT hFl
        have hyl : (S.toSt h).ev (En.X k false fun _ => False) (.tmp x) = .yl En.l := by
         rw [hev, hly]
         have h3 := hi.1 YL hYL
         rw [ely] at eg
         rw [eg, Nat.add_zero, hg0] at h3
         show D.yl (h ly) = _
         rw [ely, h3]
        exact WIL_yield (ps := ps) ho hg hd' hyl hmap (by rw [hX.vals k a hak]; exact giveL_ok ha (fun p hp => hp)) (by rw [hX.n]; exact hlt) hT hFl
      ·cases hy
     ·cases hy
    ·cases hr
  ·refine WIL_part [o] rest fun U => ?_
   exact runL_ok (hX.at' k st U) hF (fun h S' hi' hr' => ⟨rfl, runLI_ok hX hYL hg0 hF rest k st S' h r hi' hr' hd hk⟩) [o] S h hi hr
theorem WI_condT {c : Operand} {x y : Code} {Q : Nat → Bool → Exit → St → Prop} {k : Nat} {s : Bool} {S : St} (hc : S.ev (En.X k s fun _ => False) c = .bool true) (h : WI En x Q k s S) : WI En (.cond c x y) Q k s S := fun U κ sv a W hs => by
 have h1 := hs.ev c
 have hc' : S.ev (En.X k s U) c = .bool true := hc
 rw [hc'] at h1
 have : a.eval c = .bool true := by generalize a.eval c = v at h1; cases h1; rfl
 exact wpIn_cond_true this (h U κ sv a W hs)
theorem WI_condF {c : Operand} {x y : Code} {Q : Nat → Bool → Exit → St → Prop} {k : Nat} {s : Bool} {S : St} (hc : S.ev (En.X k s fun _ => False) c = .bool false) (h : WI En y Q k s S) : WI En (.cond c x y) Q k s S := fun U κ sv a W hs => by
 have h1 := hs.ev c
 have hc' : S.ev (En.X k s U) c = .bool false := hc
 rw [hc'] at h1
 have : a.eval c = .bool false := by generalize a.eval c = v at h1; cases h1; rfl
 exact wpIn_cond_false this (h U κ sv a W hs)
theorem runI_ok {E : FEnv Z} {g0 : Nat → Nat} (hX : AtI En Z E.nt items) (hYL : YL ∈ E.pin) (hg0 : g0 YL = En.l) : ∀ (c : Code) (F : Fix), okF F = true → ∀ (k : Nat) (st : Bool) (S : IS) (kn : Bool → IS → Option (List (argD its))) (kx : Option Nat → Bool → IS → Option (List (argD its))) (h : Nat → Nat) (r : List (argD its)),
  Inv E.pin g0 F h S → runI its itN E c F st S kn kx = some r → (st = false → r = items.drop k) → k ≤ items.length → WI En c (QI its items E.pin g0 F kn kx) k st (S.toSt h)
 | .skip, F, hF, k, st, S, kn, kx, h, r, hi, hr, hd, hk => WI_skip ⟨h, S, r, rfl, hi, hd, hk, hr⟩
 | .region id ops draw, F, hF, k, st, S, kn, kx, h, r, hi, hr, hd, hk => by
  have e : ops = ops.toList.toArray := by simp
  cases draw with
  | false =>
   rw [e]
   refine WI_region ?_
   rw [← e]
   exact runLI_ok hX hYL hg0 hF _ k st S h r hi hr hd hk
  | true =>
   refine WI_ofR fun U => W_post (Q' := fun e T => ∃ h S', T = S'.toSt h ∧ Inv E.pin g0 F h S' ∧ e = .normal ∧ settle F (kn st) S' = some r) ?_ ?_
   ·rw [e]
    refine W_regionG ?_
    rw [← e]
    exact runG_ok (hX.at' k st U) (fun h S' hi hk => ⟨h, S', rfl, hi, rfl, hk⟩) _ S _ _ _ h hi hr
   ·rintro e T ⟨h1, S1, rfl, hi1, rfl, hk1⟩
    obtain ⟨S2, h2, h3, h4⟩ := settleL_ok (h := h1) hk1
    exact ⟨_, h3 _ (fun p h => nomatch (show false = true from h)), h1, S2, r, rfl, h4 _ _ hi1, hd, hk, h2⟩
 | .seq a b, F, hF, k, st, S, kn, kx, h, r, hi, hr, hd, hk => by
  refine WI_seq (WI_mono (runI_ok hX hYL hg0 a F hF k st S _ kx h r hi hr hd hk) ?_)
  rintro k' st' e T ⟨h', S', r', rfl, hi', hd', hk', hq⟩
  cases e with
  | normal => exact runI_ok hX hYL hg0 b F hF k' st' S' kn kx h' r' hi' hq hd' hk'
  | exit i => exact ⟨h', S', r', rfl, hi', hd', hk', hq⟩
  | ret => exact ⟨h', S', r', rfl, hi', hd', hk', hq⟩
  | _ => exact hq.elim
 | .cond c a b, F, hF, k, st, S, kn, kx, h, r, hi, hr, hd, hk => by
  simp only [runI] at hr
  split at hr
  ·rename_i v hv
   have hev : (S.toSt h).ev (En.X k st fun _ => False) c = .bool v := by rw [ev_toSt (hX.at' k st _), hv]; rfl
   cases v with
   | true => exact WI_condT hev (runI_ok hX hYL hg0 a F hF k st S kn kx h r hi hr hd hk)
   | false => exact WI_condF hev (runI_ok hX hYL hg0 b F hF k st S kn kx h r hi hr hd hk)
  ·cases hr
 | .block id b, F, hF, k, st, S, kn, kx, h, r, hi, hr, hd, hk => by
  refine WI_block (WI_mono (runI_ok hX hYL hg0 b F hF k st S kn (inBI its id kn kx) h r hi hr hd hk) ?_)
  rintro k' st' e T ⟨h', S', r', rfl, hi', hd', hk', hq⟩
  cases e with
  | normal => exact ⟨h', S', r', rfl, hi', hd', hk', hq⟩
  | exit i =>
   simp only [blockI]
   simp only [inBI] at hq
   cases hb : Nat.beq i id with
   | true => rw [hb] at hq; exact ⟨h', S', r', rfl, hi', hd', hk', hq⟩
   | false => rw [hb] at hq; exact ⟨h', S', r', rfl, hi', hd', hk', hq⟩
  | ret => exact ⟨h', S', r', rfl, hi', hd', hk', hq⟩
  | _ => exact hq.elim
 | .exit id, F, hF, k, st, S, kn, kx, h, r, hi, hr, hd, hk => WI_exit ⟨h, S, r, rfl, hi, hd, hk, hr⟩
 | .ret, F, hF, k, st, S, kn, kx, h, r, hi, hr, hd, hk => WI_ret ⟨h, S, r, rfl, hi, hd, hk, hr⟩
 | .loop b, F, hF, k, st, S, kn, kx, h, r, hi, hr, hd, hk => by
  simp only [runI] at hr
  cases st with
  | true => cases hr
  | false =>
   simp only [cond_false] at hr
   split at hr
   ·rename_i L hL
    split at hr
    ·rename_i F' hF'
     obtain ⟨hok, hcs, hsub⟩ := cstF_ok hF hi hF'
     obtain ⟨v, h', hr, hw, hi'⟩ := backK_okA (X0 := En.X 0 false fun _ => False) (fun p h => nomatch (show false = true from h)) hok ⟨hi.1, hcs⟩ hr
     refine WI_loop (fun x : Nat × (Nat → Nat) × L.K.V × Nat => (x.1, false, (stF L.K F' x.2.2.1).toSt x.2.1))
      (fun x => Inv E.pin g0 F' x.2.1 (stF L.K F' x.2.2.1) ∧ x.1 ≤ items.length ∧ iter (fun v kn' => runI its itN E b F' false (stF L.K F' v) (fun st' S' => bif st' then none else backK E.pin F' L.K kn' S') kx) x.2.2.2 x.2.2.1 = some (items.drop x.1))
      (fun x => x.2.2.2) (k, h', v, FUEL) ⟨hi', hk, by rw [← hd rfl]; exact hr⟩ ⟨rfl, rfl, fun U => hw _ (fun p h => nomatch (show false = true from h))⟩ ?_
     rintro ⟨k1, h1, v1, m⟩ ⟨hi1, hk1, hm⟩
     simp only at hi1 hk1 hm ⊢
     cases m with
     | zero => cases hm
     | succ m =>
      refine WI_mono (runI_ok hX hYL hg0 b F' hok k1 false _ _ kx h1 _ hi1 hm (fun _ => rfl) hk1) ?_
      rintro k2 st2 e T ⟨h2, S2, r2, rfl, hi2, hd2, hk2, hq⟩
      cases e with
      | normal =>
       cases st2 with
       | true => cases hq
       | false =>
        obtain ⟨v3, h3, hq, hw3, hi3⟩ := backK_okA (X0 := En.X 0 false fun _ => False) (fun p h => nomatch (show false = true from h)) hok hi2 hq
        refine ⟨(k2, h3, v3, m), ⟨hi3, hk2, ?_⟩, Nat.lt_succ_self m, rfl, rfl, fun U => hw3 _ (fun p h => nomatch (show false = true from h))⟩
        rw [← hd2 rfl]; exact hq
      | _ => exact ⟨h2, S2, r2, rfl, ⟨hi2.1, hsub S2 hi2.2⟩, hd2, hk2, hq⟩
    ·cases hr
   ·cases hr
 | .rangeFunc _ _ _ _, _, _, _, _, _, _, _, _, _, _, hr, _, _ => by cases hr
 | .scope _, _, _, _, _, _, _, _, _, _, _, hr, _, _ => by cases hr
 | .label _, _, _, _, _, _, _, _, _, _, _, hr, _, _ => by cases hr
 | .goto _, _, _, _, _, _, _, _, _, _, _, hr, _, _ => by cases hr
 | .refuse _, _, _, _, _, _, _, _, _, _, _, hr, _, _ => by cases hr
end
end
end Go.Ab
namespace Go.Ab
open Go Go.RowKit
noncomputable section
set_option linter.all false
set_option maxHeartbeats 1000000
section
variable {Z : ISeat} {its : List T}
def hY (l : Nat) : Nat → Nat := fun s => bif Nat.beq s YL then l else 0
theorem toSt_initY (h : Nat → Nat) (A : List I) : ((initS A).toSt h).ρ = (St.init (I.toDL h A)).ρ := by
 unfold IS.toSt St.init initS
 funext i
 exact look_enum h A 0 i (Nat.zero_le _)
def fnRunI (its : List T) (it : It (List (argD its))) (E : FEnv Z) (c : Code) (A : List I) : Option (List (argD its)) :=
 runI its it E c ⟨[], []⟩ false (initS (.yl YL :: A)) (fun _ _ => some []) (fun e _ _ => match e with | none => some [] | some _ => none)
theorem it_contract {cts : List T} {E : FEnv Z} {f : FuncId} {fn : Func} {c : Code} (hf : Z.P.funcs[f]? = some fn) (hb : fn.body = some c) (hname : (fn.name == "runtime.NumGoroutine") = false) (hn : Nat.beq fn.ntmps E.nt = true) (hl : Nat.ble (cts.length + 1) fn.ntmps = true) (hp : E.pin = [YL]) (hres : fn.results = #[])
  {a : argD cts} {items : List (argD its)} (hr : fnRunI its itN E c (encA cts a) = some items) (h : Nat → Nat) :
  ItC Z.toSeat f (I.toDL h (encA cts a)) items.length (itD its items) := by
 refine itC_intro hf hb hname (by rw [toDL_len, encA_len]; exact hl) (encA_pure _ _ _) (fun k hk => ?_) hres fun En e1 e2 e3 e4 => ?_
 ·unfold itD
  rw [List.getElem?_eq_getElem hk]
  exact encA_pure _ _ _
 have hX : AtI En Z E.nt items := ⟨e1, e2.trans (Nat.eq_of_beq_eq_true hn), e3, fun i x hx => by
  rw [e4]; unfold itD; rw [hx]⟩
 have h0 : hY En.l YL = En.l := by simp [hY]
 refine WI_wk (S' := (initS (.yl YL :: encA cts a)).toSt (hY En.l)) (fun U κ sv aa W hs => ⟨κ, sv, sim_gen (fun i => .inr ?_) (fun s => Nat.zero_le _) (fun s => .inl rfl) hs⟩) ?_
 ·rw [toSt_initY]
  show _ = (St.init (.yl En.l :: I.toDL h (encA cts a))).ρ i
  rw [encA_h' h (hY En.l)]
  show (St.init (.yl (hY En.l YL) :: I.toDL (hY En.l) (encA cts a))).ρ i = _
  rw [h0]
 ·refine WI_mono (runI_ok hX (by rw [hp]; simp) (g0 := fun _ => En.l) rfl c ⟨[], []⟩ rfl 0 false _ _ _ (hY En.l) items ⟨fun g hg => ?_, ⟨(fun p hp => (nomatch hp)), (fun p hp => (nomatch hp))⟩⟩ hr (fun _ => rfl) (Nat.zero_le _)) ?_
  ·rw [hp] at hg
   simp only [List.mem_singleton] at hg
   subst hg
   exact h0
  ·rintro k s e T ⟨h2, S2, l, rfl, hi, hd, hk, hq⟩
   have fin : some ([] : List (argD its)) = some l → (s = false → k = items.length) := fun e hs => by
    simp only [Option.some.injEq] at e
    have h3 := hd hs
    rw [← e] at h3
    have h4 : (items.drop k).length = 0 := by rw [← h3]; rfl
    simp at h4; omega
   cases e with
   | normal => exact ⟨.inl rfl, fin hq, hk⟩
   | ret => exact ⟨.inr rfl, fin hq, hk⟩
   | exit i => cases hq
   | _ => exact hq.elim
def allPtr : List T → Bool
 | [] => true
 | .ptr _ :: l => allPtr l
 | _ => false
theorem decA_ptr : ∀ {cts : List T} {ds : List I} {a : argD cts}, allPtr cts = true → decA cts ds = some a → ds = encA cts a
 | [], [], a, _, _ => rfl
 | [], _ :: _, a, _, h => by cases h
 | .ptr t :: ts, [], a, _, h => by cases h
 | .ptr t :: ts, d :: ds, a, hp, h => by
  simp only [decA] at h
  split at h
  ·rename_i y hy
   split at h
   ·rename_i z hz
    simp only [Option.some.injEq] at h
    subst h
    have h1 := tP_ok (enc := encC t) (fun h => decC_ok t h) (show tP (decC t) [d] = some y from hy)
    simp only [List.cons.injEq, and_true] at h1
    simp only [encA]
    rw [← decA_ptr (cts := ts) hp hz, h1]
    rfl
   ·cases h
  ·cases h
def mkItSpec (Z : Seat) (f : FuncId) (cts its : List T) (hp : allPtr cts = true) (F : argD cts → Option (List (argD its)))
  (hF : ∀ a items, F a = some items → ∀ h, ItC Z f (I.toDL h (encA cts a)) items.length (itD its items)) : ItSpec Z where
 f := f
 its := its
 app := fun cap k => match decA cts cap with | some a => (F a).bind k | none => none
 ok := fun cap k r h => by
  split at h
  ·rename_i a ha
   cases hx : F a with
   | none => rw [hx] at h; cases h
   | some items =>
    rw [hx] at h
    refine ⟨items, h, fun h => ?_⟩
    rw [decA_ptr hp ha]
    exact hF a items hx h
  ·cases h
end
end
end Go.Ab
namespace Go.Ab
open Go Go.RowKit
noncomputable section
set_option linter.all false
set_option maxHeartbeats 1000000
end
end Go.Ab
