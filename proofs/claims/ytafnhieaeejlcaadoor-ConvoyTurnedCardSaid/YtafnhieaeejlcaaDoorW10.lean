/- Walks by computing: what each function of the program that the laws reach gives for what it gets, as plain Lean, and that it is so; without a condition but those that stand in each theorem. -/
import Derived.Test.YtafnhieaeejlcaaDoorW1
import Derived.Test.YtafnhieaeejlcaaDoorW2
import Derived.Test.YtafnhieaeejlcaaDoorW3
import Derived.Test.YtafnhieaeejlcaaDoorW4
import Derived.Test.YtafnhieaeejlcaaDoorW5
import Derived.Test.YtafnhieaeejlcaaDoorW6
import Derived.Test.YtafnhieaeejlcaaDoorW7
import Derived.Test.YtafnhieaeejlcaaDoorW8
import Derived.Test.YtafnhieaeejlcaaDoorW9
set_option linter.all false
namespace Go.Ab
open Go Go.RowKit
noncomputable section
set_option linter.all false
set_option maxHeartbeats 1000000
def FinRN (X : Ctx) (rs : List ResultVar) (l' : List D) (R : D) : Exit → St → Prop
  | .normal, S | .ret, S => ∃ S' ds l, Wk X S S' ∧ S'.γ 0 = 1 ∧ S'.σ 0 = .box l ∧ ResL X S' rs ds ∧ (∀ κ γ sv v, Rep κ γ sv (tupOf ds) v → Rep κ γ sv R v) ∧ ∀ κ γ sv vs, RepL κ γ sv l vs → RepL κ γ sv l' vs
  | _, _ => False
theorem contractR_introN {Z : Seat} {f : FuncId} {fn : Func} {c : Code} {l l' A : List D} {R : D} (hf : Z.P.funcs[f]? = some fn) (hb : fn.body = some c) (hname : (fn.name == "runtime.NumGoroutine") = false) (hn : Nat.ble (A.length + 1) fn.ntmps = true)
    (hl : PureL l) (hl' : PureL l') (hc : allCell l = true) (hc' : allCell l' = true) (hA : PureL A) (hR : Pure R)
    (h : ∀ w κ b, W (Ctx.plain Z fn.ntmps w κ (some b)) c (FinRN (Ctx.plain Z fn.ntmps w κ (some b)) fn.results.toList l' R) (St.initR l A)) : ContractR Z f l l' A R := by
  refine ⟨hA, hR, hl, hl', hc', ⟨fn, c, hf, hb, hname⟩, fun w κ args b T cs hκ hκb hh hcs hglob hrep => ?_⟩
  refine (callsIn_wide (n := 0)).1 (callsIn_of_wp_marks hf hb trivial ?_ rfl)
  have hlen : A.length + 1 ≤ fn.ntmps := Nat.le_of_ble_eq_true hn
  have hal := hrep.length
  let sv : Nat → Value := upd sv0 0 (.pointer (some ⟨b, 0, none⟩))
  let γ : Nat → Nat := upd (fun _ => 0) 0 1
  have hrep' : RepL κ γ sv (.bx 0 1 0 :: A) (Value.pointer (some ⟨b, 0, none⟩) :: args) :=
    .cons _ _ _ _ (.bx _ _ _ _ (Nat.le_refl _) (fun _ => ⟨b, rfl, rfl⟩) rfl) (hrep.pure (fun _ _ _ h => h) hA)
  have hσ : ∀ s b', blk (upd (fun _ => Own.none) 0 (.box l) s) (sv s) = some b' → s = 0 ∧ b' = b := by
    intro s b' hs
    by_cases e : s = 0
    · subst e; rw [upd_same] at hs; simp only [sv, upd_same, blk, Option.some.injEq] at hs; exact ⟨rfl, hs.symm⟩
    · rw [upd_ne _ _ _ _ e] at hs; cases hs
  have hsim : Sim (Ctx.plain Z fn.ntmps w κ (some b)) κ sv (St.initR l A) { tmps := (Value.pointer (some ⟨b, 0, none⟩) :: args).toArray ++ Array.replicate (fn.ntmps - (Value.pointer (some ⟨b, 0, none⟩) :: args).toArray.size) Go.undef, defers := [] } w := by
    refine ⟨by simp [Ctx.plain]; omega, Dfr.nil rfl, fun i _ => slot_init hrep' _ i, ?_⟩
    refine ⟨hκ, fun s => ?_, fun s t b' hs ht => (hσ s b' hs).1.trans (hσ t b' ht).1.symm, fun s b' o hs => ?_, fun s b' hs => .inr (.inl (by rw [(hσ s b' hs).2]; rfl)), ⟨fun k => k = b, ⟨Frame.refl _ _, fun k h => .inr (by rw [h])⟩, fun s b' hs => (hσ s b' hs).2⟩, fun g l hg => ?_, fun b o v _ hk => hk, fun b' hb' => ?_, Nat.le_refl _, ⟨fun _ _ _ h => (by cases h), fun _ => Nat.zero_le _, fun s (e : 0 = γ s) => upd_ne _ _ _ _ (fun e2 => by subst e2; simp only [γ, upd_same] at e; cases e)⟩, fun _ _ _ _ h => h, fun _ _ _ h => h, fun _ h => h.elim, gz_init hglob (fun b' e o => by have e : some b = some b' := e; simp only [Option.some.injEq] at e; subst e; exact hκb o) (fun _ e => e.elim)⟩
    · by_cases e : s = 0
      · subst e
        exact ⟨b, T, cs, rfl, hh, hcs.pure (fun _ _ _ h => h) hl, .pure hc hl⟩
      · show Owns _ _ _ _ _ s (upd (fun _ => Own.none) 0 (.box l) s)
        rw [upd_ne _ _ _ _ e]; trivial
    · rw [(hσ s b' hs).2]; exact hκb o
    · obtain ⟨h1, u, h2, h3⟩ := hglob.1 g l hg
      exact ⟨h1, u, h2.pure (fun _ _ _ h => h) (Z.globPure g l hg), h3⟩
    · have hb' : some b = some b' := hb'
      simp only [Option.some.injEq] at hb'
      subst hb'
      exact ⟨Nat.le_refl _, fun _ => rfl⟩
  refine wpIn_mono (h w κ b κ sv _ w hsim) ?_
  rintro e a' w' ⟨κ', sv', S', hs, hq⟩
  cases e <;> first | exact hq.elim | skip
  all_goals
    obtain ⟨S2, ds, m, hw, hγ, hσ', hd, hconv, hconvl⟩ := hq
    obtain ⟨κ2, sv2, hs⟩ := hw _ _ _ _ hs
    obtain ⟨Ds, d1, d2, d3, _⟩ := hs.defers
    show LeavesInM _ _ _ _ _ _ a'.defers _ _
    rw [d1]
    refine leaves_of rfl plainF_turn hd (fun a w v hs h2 => ?_) Ds a' w' hs d1 d2 d3
    have hpin := (hs.wld.pin b rfl).2 hγ
    have hown := hs.wld.own 0
    rw [hσ'] at hown
    obtain ⟨b2, T2, cs2, e1, e2, e3, e4⟩ := hown
    rw [hpin] at e1
    simp only [Value.pointer.injEq, Option.some.injEq, Addr.mk.injEq, and_true] at e1
    subst e1
    obtain ⟨M, h1, _⟩ := hs.wld.frame
    exact ⟨v, cs2, T2, rfl, e2, (hconvl _ _ _ _ e3).pure (fits_grow hs.wld) hl', (hconv _ _ _ _ h2).pure (fits_grow hs.wld) hR, h1.1⟩
section
variable {R : Type} {X : Ctx} {Z : ISeat} {r : R}
def initR (l A : List I) : IS := ⟨enum 0 (.bx 0 1 0 :: A), [(0, 1)], [(0, .box l)]⟩
theorem toSt_initR (l A : List I) : (initR l A).toSt zh = St.initR (I.toDL zh l) (I.toDL zh A) := by
  unfold IS.toSt St.initR initR
  congr 1
  · funext i
    exact look_enum zh (.bx 0 1 0 :: A) 0 i (Nat.zero_le _)
  · funext s
    simp only [IS.gen, lk0, lk1, lk2, zh, upd]
    cases Nat.beq s 0 <;> rfl
  · funext s
    simp only [IS.own, lk0, lk1, lk2, upd]
    cases Nat.beq s 0 <;> rfl
def boxAt (S : IS) : List I := match S.own 0 with | .box l => l | _ => []
def finKR (Z : ISeat) (nt : Nat) (rv : List ResultVar) (bt : T) (ts : List T) (S : IS) : Option (den bt × resD ts) := match resIL Z nt S rv with
  | some ds => (match resIL Z nt (frz S (arrsOf S (plIL ds ++ plIL (boxAt S)))) rv, (frz S (arrsOf S (plIL ds ++ plIL (boxAt S)))).own 0 with
    | some ds, .box l => (match decC bt l, decR ts ds with | some y, some x => some (y, x) | _, _ => none)
    | _, _ => none)
  | none => none
def finXR (Z : ISeat) (nt : Nat) (rv : List ResultVar) (bt : T) (ts : List T) (e : Option Nat) (S : IS) : Option (den bt × resD ts) := match e with
  | none => finKR Z nt rv bt ts S
  | some _ => none
theorem finKR_ok {nt : Nat} (hX : At X Z nt) (hxf : ∀ p, X.xa p = false) {rv : List ResultVar} {bt : T} {ts : List T} {S : IS} {y : den bt} {x : resD ts} {h h' : Nat → Nat} (hi : h 0 + S.gen 0 = 1) (hr : finKR Z nt rv bt ts S = some (y, x)) :
    ∃ S' ds l, Wk X (S.toSt h) S' ∧ S'.γ 0 = 1 ∧ S'.σ 0 = .box l ∧ ResL X S' rv ds ∧ (∀ κ γ sv v, Rep κ γ sv (tupOf ds) v → Rep κ γ sv ((encR ts x).toD h') v) ∧ ∀ κ γ sv vs, RepL κ γ sv l vs → RepL κ γ sv (I.toDL h' (encC bt y)) vs := by
  unfold finKR at hr
  split at hr
  · rename_i ds0 _
    split at hr
    · rename_i ds l hds hl
      split at hr
      · rename_i y' x' hy hx
        simp only [Option.some.injEq, Prod.mk.injEq] at hr
        obtain ⟨rfl, rfl⟩ := hr
        refine ⟨_, _, I.toDL h l, frz_ok (arrsOf S (plIL ds0 ++ plIL (boxAt S))) S (fun p _ => hxf p), ?_, ?_, resIL_ok hX hds, fun κ γ sv v hv => ?_, fun κ γ sv vs hv => ?_⟩
        · show h 0 + look 0 (frz S _).gs 0 = 1
          rw [frz_gs]; exact hi
        · show ((frz S _).own 0).toOwn h = _
          rw [hl]; rfl
        · unfold encR
          rw [tupI_toD]
          exact repL_tup (by simp only [toDL_len, decR_len hx]) (fun vs hvs => decR_rep hx hvs) hv
        · rw [toDL_enc, ← toDL_enc h]
          exact nilL_rep (nilIL_rel h (decC_ok bt hy)) hv
      · cases hr
    · cases hr
  · cases hr
def fnRunR {bt : T} {ts : List T} (it : It (den bt × resD ts)) (E : FEnv Z) (c : Code) (rv : List ResultVar) (l A : List I) : Option (den bt × resD ts) :=
  runC it E c ⟨[], []⟩ (initR l A) (finKR Z E.nt rv bt ts) (finXR Z E.nt rv bt ts)
theorem encA_h (h : Nat → Nat) : ∀ (ats : List T) (a : argD ats), I.toDL h (encA ats a) = I.toDL zh (encA ats a) := by
  have key : ∀ (t : T) (x : den t), (encV t x).toD h = (encV t x).toD zh := fun t x => by
    unfold encV
    cases isSt t with
    | true => simp only [cond_true, I.toD, toDL_enc]
    | false =>
      simp only [cond_false]
      split
      · rename_i d e
        have h1 := toDL_enc h t x
        rw [← toDL_enc zh, e] at h1
        simpa [I.toDL] using h1
      · rfl
  intro ats
  induction ats with
  | nil => intro a; rfl
  | cons t ats ih => intro a; simp only [encA, I.toDL, ih, key]
theorem fn_contractR {bt : T} {ts ats : List T} {E : FEnv Z} {f : FuncId} {fn : Func} {c : Code} (hf : Z.P.funcs[f]? = some fn) (hb : fn.body = some c) (hname : (fn.name == "runtime.NumGoroutine") = false) (hn : Nat.beq fn.ntmps E.nt = true) (hl : Nat.ble (ats.length + 1) fn.ntmps = true) (hp : E.pin = [0])
    {b y : den bt} {a : argD ats} {x : resD ts} (hr : fnRunR itN E c fn.results.toList (encC bt b) (encA ats a) = some (y, x)) (h : Nat → Nat) : ContractR Z.toSeat f (I.toDL h (encC bt b)) (I.toDL h (encC bt y)) (I.toDL h (encA ats a)) ((encR ts x).toD h) := by
  have hal : ∀ (ats : List T) (a : argD ats), (encA ats a).length = ats.length := fun ats => by
    induction ats with
    | nil => intro a; rfl
    | cons t ats ih => intro a; simp only [encA, List.length_cons, ih]
  rw [encA_h h, toDL_enc h bt b, ← toDL_enc zh bt b]
  have pb : ∀ (h : Nat → Nat) (z : den bt), PureL (I.toDL h (encC bt z)) := fun h z => by rw [toDL_enc]; exact encD_pure bt z
  have cb : ∀ (h : Nat → Nat) (z : den bt), allCell (I.toDL h (encC bt z)) = true := fun h z => by rw [toDL_enc]; exact encD_cell bt z
  refine contractR_introN hf hb hname (by rw [toDL_len, hal]; exact hl) (pb _ _) (pb _ _) (cb _ _) (cb _ _) (encA_pure _ _ _) (encR_pure _ _ _) fun w κ b' => ?_
  have hX : At (Ctx.plain Z.toSeat fn.ntmps w κ (some b')) Z E.nt := At.pl rfl (Nat.eq_of_beq_eq_true hn) (fun _ => rfl)
  rw [← toSt_initR]
  refine W_mono (run_ok c hX (fun _ => ⟨_, _, _, _, _, rfl⟩) (g0 := fun _ => 1) ⟨[], []⟩ rfl _ _ _ zh ⟨(fun g hg => by rw [hp] at hg; simp only [List.mem_singleton] at hg; subst hg; rfl), ⟨(fun p hp => (nomatch hp)), (fun p hp => (nomatch hp))⟩⟩ hr) ?_
  rintro e T ⟨h2, S, rfl, hi, hq⟩
  cases e with
  | normal => exact finKR_ok hX (fun _ => rfl) (hi.1 0 (by rw [hp]; exact List.mem_cons_self ..)) hq
  | ret => exact finKR_ok hX (fun _ => rfl) (hi.1 0 (by rw [hp]; exact List.mem_cons_self ..)) hq
  | exit i => simp only [finXR] at hq; cases hq
  | _ => exact hq.elim
theorem contractR_dec {Z : Seat} {f : FuncId} {bt : T} {ats : List T} {l ds : List I} {b : den bt} {a : argD ats} {l' : List D} {R : D} {h : Nat → Nat} (hb : decC bt l = some b) (hd : decA ats ds = some a) (hpl : PureL (I.toDL h l)) (hp : PureL (I.toDL h ds)) (hc : ContractR Z f (I.toDL h (encC bt b)) l' (I.toDL h (encA ats a)) R) : ContractR Z f (I.toDL h l) l' (I.toDL h ds) R :=
  ⟨hp, hc.pureR, hpl, hc.purel', hc.cell', hc.body, fun w κ args b T cs h1 h2 h3 h4 h5 h6 => hc.calls w κ args b T cs h1 h2 h3 (nilL_rep (nilIL_rel h (decC_ok bt hb)) h4) h5 (decA_rep hd h6)⟩
theorem nilIL_pure {l m : List I} (hn : NilIL l m) (h : Nat → Nat) (hp : PureL (I.toDL h m)) : PureL (I.toDL h l) := by
  induction hn with
  | nil => exact PureL.nil
  | cons h1 _ ih =>
    refine PureL.cons ?_ (ih fun d hd => hp d (List.mem_cons_of_mem _ hd))
    cases h1 with
    | same => exact hp _ (List.mem_cons_self ..)
    | nil => exact .nil
    | nsl t l => exact pure_noRef h (.nsl t l) rfl
def mkSpecR (Z : Seat) (f : FuncId) (bt : T) (ats ts : List T) (F : den bt → argD ats → Option (den bt × resD ts)) (hF : ∀ b a y x, F b a = some (y, x) → ∀ h, ContractR Z f (I.toDL h (encC bt b)) (I.toDL h (encC bt y)) (I.toDL h (encA ats a)) ((encR ts x).toD h)) : FnSpecR Z where
  f := f
  app := fun l A k => match decC bt l, decA ats A with | some b, some a => (F b a).bind (fun p => k (encC bt p.1) (encR ts p.2)) | _, _ => none
  ok := fun l A k r h => by
    split at h
    · rename_i b a hb ha
      cases hx : F b a with
      | none => rw [hx] at h; cases h
      | some p =>
        obtain ⟨y, x⟩ := p
        rw [hx] at h
        exact ⟨_, _, h, fun h => contractR_dec hb ha (nilIL_pure (decC_ok bt hb) h (by rw [toDL_enc]; exact encD_pure bt b)) (decA_pure ha) (hF b a y x hx h)⟩
    · cases h
end
end
end Go.Ab
namespace Go.Ab
open Go Go.RowKit
set_option linter.all false
def bodyOf (fn : Func) : Code := match fn.body with | some c => c | none => .skip
noncomputable def opq {α : Type} (x : α) : α := Classical.choose (⟨x, rfl⟩ : ∃ y, y = x)
theorem opq_eq {α : Type} (x : α) : opq x = x := Classical.choose_spec (⟨x, rfl⟩ : ∃ y, y = x)
def w64 (n : Int) : Int := IntKind.i64.wrap n
def xorI (k : IntKind) (m n : Int) : Int := k.wrap (BitVec.ofInt k.bits m ^^^ BitVec.ofInt k.bits n).toNat
def shrI (k : IntKind) (m n : Int) : Int := m.fdiv (2 ^ (min n.toNat k.bits))
end Go.Ab
namespace Go.Ab
open Go Go.RowKit
noncomputable section
set_option linter.all false
set_option maxHeartbeats 1000000
def FinB (X : Ctx) (rs : List ResultVar) (l' : List D) : Exit → St → Prop
  | .normal, S | .ret, S => ∃ S' s g l, Wk X S S' ∧ S'.γ s = g ∧ S'.σ s = .box l ∧ ResL X S' rs [.bx s g 0] ∧ ∀ κ γ sv vs, RepL κ γ sv l vs → RepL κ γ sv l' vs
  | _, _ => False
theorem contractB_intro {Z : Seat} {f : FuncId} {fn : Func} {c : Code} {A l' : List D} (hf : Z.P.funcs[f]? = some fn) (hb : fn.body = some c) (hname : (fn.name == "runtime.NumGoroutine") = false) (hn : Nat.ble A.length fn.ntmps = true) (hA : PureL A) (hl' : PureL l') (hc' : allCell l' = true)
    (h : ∀ w κ, W (Ctx.plain Z fn.ntmps w κ none) c (FinB (Ctx.plain Z fn.ntmps w κ none) fn.results.toList l') (St.init A)) : ContractB Z f A l' := by
  refine ⟨hA, hl', ⟨fn, c, hf, hb, hname⟩, fun w κ args hκ hglob hrep => ?_⟩
  refine (callsIn_wide (n := 0)).1 (callsIn_of_wp_marks hf hb trivial ?_ rfl)
  have hlen : A.length ≤ fn.ntmps := Nat.le_of_ble_eq_true hn
  have hal := hrep.length
  have hsim : Sim (Ctx.plain Z fn.ntmps w κ none) κ sv0 (St.init A) { tmps := args.toArray ++ Array.replicate (fn.ntmps - args.toArray.size) Go.undef, defers := [] } w := by
    refine ⟨by simp [Ctx.plain]; omega, Dfr.nil rfl, fun i _ => slot_init hrep _ i, ?_⟩
    exact ⟨hκ, fun _ => trivial, (fun s t b hs => by cases hs), (fun s b o hs => by cases hs), (fun s b hs => by cases hs), ⟨fun _ => False, ⟨Frame.refl _ _, fun _ h => h.elim⟩, fun s b hs => by cases hs⟩, hglob.1, fun b o v _ hk => hk, (fun b hb => by cases hb), Nat.le_refl _, ⟨fun _ _ _ h => (by cases h), fun _ => Nat.zero_le _, fun _ _ => rfl⟩, fun _ _ _ _ h => h, fun _ _ _ h => h, fun _ h => h.elim, gz_init hglob (fun _ e => by cases e) (fun _ e => e.elim)⟩
  refine wpIn_mono (h w κ κ sv0 _ w hsim) ?_
  rintro e a' w' ⟨κ', sv', S', hs, hq⟩
  cases e <;> first | exact hq.elim | skip
  all_goals
    obtain ⟨S2, s, g, l, hw, hg, hσ, hd, hconv⟩ := hq
    obtain ⟨κ2, sv2, hs⟩ := hw _ _ _ _ hs
    obtain ⟨Ds, d1, d2, d3, _⟩ := hs.defers
    show LeavesInM _ _ _ _ _ _ a'.defers _ _
    rw [d1]
    refine leaves_of rfl plainF_turn hd (fun a w' v hs h2 => ?_) Ds a' w' hs d1 d2 d3
    obtain ⟨M, h1, _⟩ := hs.wld.frame
    have hown := hs.wld.own s
    rw [hσ] at hown
    obtain ⟨b, T, cs, e1, e2, e3, e4⟩ := hown
    have hbk : blk (S2.σ s) (sv2 s) = some b := by rw [hσ, e1]; rfl
    have hnew : w.heap.size ≤ b := (hs.wld.frsh s b hbk).resolve_right (fun h => by rcases h with h | h <;> cases h)
    have hv : v = .pointer (some ⟨b, 0, none⟩) := by
      simp only [tupOf] at h2
      cases h2 with
      | bx _ _ _ _ _ hh _ =>
        obtain ⟨b', q1, q2⟩ := hh hg.symm
        rw [e1] at q1
        simp only [Value.pointer.injEq, Option.some.injEq, Addr.mk.injEq, and_true] at q1
        rw [q2, q1]
    have hk : ∀ b o u, κ2 b o = some u → (fun b o => if b < w.heap.size then κ b o else κ2 b o) b o = some u := fun b o u hu => by
      simp only
      split
      · exact hs.wld.old b o u (by assumption) hu
      · exact hu
    have h6 := hconv _ _ _ _ e3
    refine ⟨b, T, cs, fun b o => if b < w.heap.size then κ b o else κ2 b o, by rw [hv], hnew, e2, h6.pure hk hl', hc', fun b o u hu => ?_, fun b o u hb hu => ?_, fun b o u hu => ?_, fun o => ?_, h1.1.below⟩
    · have : b < w.heap.size := by have := World.block_lt_of_cell? w _ (hκ b o u hu); simpa using this
      simp only; rw [if_pos this]; exact hu
    · simp only at hu; rw [if_pos hb] at hu; exact hu
    · simp only at hu
      split at hu
      · rename_i hb
        have h3 := hκ b o u hu
        rw [h1.1.below.cell (by simpa using hb)]; exact h3
      · exact hs.wld.imm b o u hu
    · simp only; rw [if_neg (by omega)]
      exact hs.wld.sep s b o hbk
section
variable {X : Ctx} {Z : ISeat}
def finKB (Z : ISeat) (nt : Nat) (rv : List ResultVar) (bt : T) (S : IS) : Option (den bt) := match rv with
  | [v] => (match resI Z nt S v with
    | some (.bx s g 0) => live S s g (match S.own s with
      | .box l => (match (frz S (arrsOf S (plIL l))).own s with
        | .box l => bif Nat.beq 0 0 then decC bt l else none
        | _ => none)
      | _ => none)
    | _ => none)
  | _ => none
theorem frz1_get {S : IS} {p s g o : Nat} {rv : ResultVar} {nt : Nat} (hr : resI Z nt S rv = some (.bx s g o)) (ht : ∃ t, rv = .tmp t) : resI Z nt (frz1 S p) rv = some (.bx s g o) := by
  obtain ⟨t, rfl⟩ := ht
  simp only [resI, IS.ev, Option.some.injEq] at hr ⊢
  cases hb : Nat.blt t nt with
  | false => rw [hb] at hr; cases hr
  | true =>
    rw [hb] at hr
    simp only [cond_true] at hr ⊢
    unfold frz1
    split
    · show look .undef (mapS _ S.rs) t = _
      rw [look_map rfl]
      have h3 : look .undef S.rs t = .bx s g o := hr
      rw [h3]; rfl
    · exact hr
theorem frz_get {s g o : Nat} {rv : ResultVar} {nt : Nat} (ht : ∃ t, rv = .tmp t) : ∀ (l : List Nat) (S : IS), resI Z nt S rv = some (.bx s g o) → resI Z nt (frz S l) rv = some (.bx s g o)
  | [], S, hr => hr
  | p :: l, S, hr => frz_get ht l _ (frz1_get hr ht)
theorem finKB_ok {nt : Nat} (hX : At X Z nt) (hxf : ∀ p, X.xa p = false) {rv : List ResultVar} {bt : T} {S : IS} {y : den bt} {h h' : Nat → Nat} (ht : ∃ t, rv = [.tmp t]) (hr : finKB Z nt rv bt S = some y) :
    ∃ S' s g l, Wk X (S.toSt h) S' ∧ S'.γ s = g ∧ S'.σ s = .box l ∧ ResL X S' rv [.bx s g 0] ∧ ∀ κ γ sv vs, RepL κ γ sv l vs → RepL κ γ sv (I.toDL h' (encC bt y)) vs := by
  obtain ⟨t, rfl⟩ := ht
  simp only [finKB] at hr
  split at hr
  · rename_i s g hv
    replace hr := live_ok hr
    obtain ⟨rfl, hr⟩ := hr
    split at hr
    · rename_i l0 hl0
      split at hr
      · rename_i l hl
        have hr : decC bt l = some y := hr
        have h1 := frz_get (Z := Z) ⟨t, rfl⟩ (arrsOf S (plIL l0)) S hv
        refine ⟨_, s, h s + S.gen s, I.toDL h l, frz_ok (arrsOf S (plIL l0)) S (fun p _ => hxf p), ?_, ?_, ⟨resI_ok hX h1, trivial⟩, fun κ γ sv vs hv => ?_⟩
        · show h s + look 0 (frz S _).gs s = _
          rw [frz_gs]; rfl
        · show ((frz S _).own s).toOwn h = _
          rw [hl]; rfl
        · rw [toDL_enc, ← toDL_enc h]
          exact nilL_rep (nilIL_rel h (decC_ok bt hr)) hv
      · cases hr
    · cases hr
  · cases hr
def finXB (Z : ISeat) (nt : Nat) (rv : List ResultVar) (bt : T) (e : Option Nat) (S : IS) : Option (den bt) := match e with
  | none => finKB Z nt rv bt S
  | some _ => none
def fnRunB {bt : T} (it : It (den bt)) (E : FEnv Z) (c : Code) (rv : List ResultVar) (A : List I) : Option (den bt) := runC it E c ⟨[], []⟩ (initS A) (finKB Z E.nt rv bt) (finXB Z E.nt rv bt)
theorem fn_contractB {bt : T} {ats : List T} {E : FEnv Z} {f : FuncId} {fn : Func} {c : Code} (hf : Z.P.funcs[f]? = some fn) (hb : fn.body = some c) (hname : (fn.name == "runtime.NumGoroutine") = false) (hn : Nat.beq fn.ntmps E.nt = true) (hl : Nat.ble ats.length fn.ntmps = true) (hp : E.pin = []) (ht : ∃ t, fn.results.toList = [.tmp t])
    {a : argD ats} {y : den bt} (hr : fnRunB itN E c fn.results.toList (encA ats a) = some y) (h : Nat → Nat) : ContractB Z.toSeat f (I.toDL h (encA ats a)) (I.toDL h (encC bt y)) := by
  have hal : ∀ (ats : List T) (a : argD ats), (encA ats a).length = ats.length := fun ats => by
    induction ats with
    | nil => intro a; rfl
    | cons t ats ih => intro a; simp only [encA, List.length_cons, ih]
  rw [encA_h h]
  have pb : PureL (I.toDL h (encC bt y)) := by rw [toDL_enc]; exact encD_pure bt y
  have cb : allCell (I.toDL h (encC bt y)) = true := by rw [toDL_enc]; exact encD_cell bt y
  refine contractB_intro hf hb hname (by rw [toDL_len, hal]; exact hl) (encA_pure _ _ _) pb cb fun w κ => ?_
  have hX : At (Ctx.plain Z.toSeat fn.ntmps w κ none) Z E.nt := At.pl rfl (Nat.eq_of_beq_eq_true hn) (fun _ => rfl)
  rw [← toSt_init]
  refine W_mono (run_ok c hX (fun _ => ⟨_, _, _, _, _, rfl⟩) (g0 := zh) ⟨[], []⟩ rfl _ _ _ zh ⟨(fun g hg => by rw [hp] at hg; cases hg), ⟨(fun p hp => (nomatch hp)), (fun p hp => (nomatch hp))⟩⟩ hr) ?_
  rintro e T ⟨h2, S, rfl, _, hq⟩
  cases e with
  | normal => exact finKB_ok hX (fun _ => rfl) ht hq
  | ret => exact finKB_ok hX (fun _ => rfl) ht hq
  | exit i => simp only [finXB] at hq; cases hq
  | _ => exact hq.elim
theorem contractB_dec {Z : Seat} {f : FuncId} {ats : List T} {ds : List I} {a : argD ats} {l : List D} {h : Nat → Nat} (hd : decA ats ds = some a) (hp : PureL (I.toDL h ds)) (hc : ContractB Z f (I.toDL h (encA ats a)) l) : ContractB Z f (I.toDL h ds) l :=
  ⟨hp, hc.purel, hc.body, fun w κ args hf hg hr => hc.calls w κ args hf hg (decA_rep hd hr)⟩
def mkSpecB (Z : Seat) (f : FuncId) (bt : T) (ats : List T) (F : argD ats → Option (den bt)) (hF : ∀ a y, F a = some y → ∀ h, ContractB Z f (I.toDL h (encA ats a)) (I.toDL h (encC bt y))) : FnSpecB Z where
  f := f
  app := fun A k => match decA ats A with | some a => (F a).bind (fun y => k (encC bt y)) | none => none
  ok := fun A k r h => by
    split at h
    · rename_i a ha
      cases hx : F a with
      | none => rw [hx] at h; cases h
      | some y =>
        rw [hx] at h
        exact ⟨_, h, fun h => contractB_dec ha (decA_pure ha) (hF a y hx h)⟩
    · cases h
end
end
end Go.Ab
namespace Go.Ab
open Go Go.RowKit
noncomputable section
set_option linter.all false
set_option maxHeartbeats 1000000
def YL : Nat := 999983
section
variable {Z : ISeat} {its : List T}
def dropI (S : IS) (ps : List Nat) : IS := ⟨S.rs, S.gs, ps.map (fun p => (p, IOwn.none)) ++ S.os⟩
theorem drop_own (S : IS) : ∀ (ps : List Nat) (s : Nat), (dropI S ps).own s = bif memN s ps then .none else S.own s
  | [], s => rfl
  | p :: ps, s => by
    show look IOwn.none ((p, .none) :: (ps.map (fun p => (p, IOwn.none)) ++ S.os)) s = _
    simp only [lk0, lk1, lk2, memN]
    cases Nat.beq s p with
    | true => rfl
    | false => exact drop_own S ps s
theorem fzOk_mem {F : Fix} : ∀ {l : List Nat}, fzOk F l = true → ∀ p ∈ l, memN p (keys F.pl) = false
  | q :: l, h, p, hp => by
    simp only [fzOk, Bool.and_eq_true, Bool.not_eq_true'] at h
    rcases List.mem_cons.1 hp with rfl | hp
    · exact h.1.1
    · exact fzOk_mem h.2 p hp
theorem Inv.drop {p : List Nat} {g0 : Nat → Nat} {F : Fix} {h : Nat → Nat} {S : IS} (hi : Inv p g0 F h S) {ps : List Nat} (hp : fzOk F ps = true) : Inv p g0 F h (dropI S ps) := by
  refine ⟨hi.1, hi.2.1, fun q hq => ?_⟩
  rw [drop_own]
  cases hm : memN q.1 ps with
  | false => exact hi.2.2 q hq
  | true =>
    have h1 := fzOk_mem hp q.1 (memN_iff.1 hm)
    rw [memN_iff.2 (keys_mem hq)] at h1; cases h1
variable {En : Env} {items : List (argD its)}
structure AtI (En : Env) (Z : ISeat) (nt : Nat) (items : List (argD its)) : Prop where
  Z : En.Z = Z.toSeat
  nt : En.nt = nt
  n : En.n = items.length
  vals : ∀ (i : Nat) (a : argD its), items[i]? = some a → En.its i = I.toDL zh (encA its a)
theorem AtI.at' {nt : Nat} (h : AtI En Z nt items) (k : Nat) (s : Bool) (U : Nat → Prop) : At (En.X k s U) Z nt := At.pl h.Z h.nt (fun _ => rfl)
end
end
end Go.Ab
namespace Go.Ab
open Go Go.RowKit
noncomputable section
set_option linter.all false
set_option maxHeartbeats 1000000
section
variable {Z : ISeat} {its : List T}
def hY (l : Nat) : Nat → Nat := fun s => bif Nat.beq s YL then l else 0
end
end
end Go.Ab
namespace Go.Ab
open Go Go.RowKit
noncomputable section
set_option linter.all false
set_option maxHeartbeats 1000000
section
variable {X : Ctx} {Z : ISeat}
end
end
end Go.Ab
namespace Go.Ab
open Go Go.RowKit
set_option linter.all false
def Ok {α : Type} (P : α → Prop) (x : Option α) : Prop := ∃ a, x = some a ∧ P a
section
variable {α β : Type} {P : α → Prop} {Q : β → Prop}
theorem Ok.some {a : α} (h : P a) : Ok P (some a) := ⟨a, rfl, h⟩
theorem Ok.bind {x : Option α} {f : α → Option β} (hx : Ok P x) (hf : ∀ a, P a → Ok Q (f a)) : Ok Q (x.bind f) := by
  obtain ⟨a, rfl, ha⟩ := hx
  exact hf a ha
theorem Ok.mono {P' : α → Prop} {x : Option α} (hx : Ok P x) (h : ∀ a, P a → P' a) : Ok P' x := by
  obtain ⟨a, rfl, ha⟩ := hx
  exact ⟨a, rfl, h a ha⟩
theorem Ok.chk {b : Bool} {x : Option α} (hb : b = true) (hx : Ok P x) : Ok P (chk b x) := by subst hb; exact hx
theorem Ok.ite {c : Bool} {x y : Option α} (hx : c = true → Ok P x) (hy : c = false → Ok P y) : Ok P (bif c then x else y) := by
  cases c with
  | true => exact hx rfl
  | false => exact hy rfl
theorem Ok.rounds {γ : Type} {F : γ → (γ → Option α) → Option α} {v0 : γ} (inv : γ → Prop) (μ : γ → Nat) (hμ : μ v0 < FUEL) (h0 : inv v0)
    (step : ∀ v kn, inv v → (∀ v', inv v' → μ v' < μ v → Ok P (kn v')) → Ok P (F v kn)) : Ok P (itN γ F v0) := by
  have key : ∀ n v, inv v → μ v < n → Ok P (iter F n v) := by
    intro n
    induction n with
    | zero => intro v _ h; omega
    | succ n ih =>
      intro v hv hn
      exact step v (iter F n) hv fun v' hv' hlt => ih v' hv' (by omega)
  exact key FUEL v0 h0 hμ
end
theorem w64_id {n : Int} (h1 : -9223372036854775808 ≤ n) (h2 : n ≤ 9223372036854775807) : w64 n = n := by
  unfold w64 IntKind.wrap
  simp [IntKind.bits, IntKind.signed, Int.bmod_def]
  omega
end Go.Ab
namespace Go.Proofs.YtafnhieaeejlcaaDoor
open Go Go.Ab
set_option maxRecDepth 100000
set_option maxHeartbeats 4000000
attribute [local irreducible] W WL QOp NOp thenQ blockQ FinQ WG FQ Want FinW WI WIL thenI blockI
theorem c41 (a b : Int) : Contract seat 41 [.int .i64 a, .int .i64 b] (.agg (encSpan ⟨a, b⟩)) := by
  refine contract_introW (fn := Tryd.f41) Tryd.func41 rfl (by kernel_rfl) rfl ?_ ?_ ?_
  · exact PureL.cons (.int _ _) (PureL.cons (.int _ _) PureL.nil)
  · exact .agg _ (pure_span _)
  intro w κ
  repeat' (first
    | (apply WL_q; apply Eq.refl; apply Eq.refl; (first | (apply q_mvI <;> apply Eq.refl) | (apply q_bld <;> apply Eq.refl)))
    | apply W_seq
    | apply W_region
    | apply T_normal
    | apply WL_nil
    | apply W_ret
    | (apply WL_n; apply Eq.refl; (first | (apply n_alloc <;> apply Eq.refl) | (apply n_stb <;> (first | apply Eq.refl | (intro _ e; cases e))))))
  ((try apply fin_now); first | (apply fin_A; apply Eq.refl; apply Eq.refl; apply Eq.refl; apply Eq.refl; apply Eq.refl; apply Eq.refl; apply Eq.refl; apply Eq.refl; try apply Eq.refl))
def twoE : Nat → List D := nthD [[.int .i64 1, .int .i64 0, .int .i64 50, .int .i64 100, .nil], [.int .i64 2, .int .i64 0, .int .i64 50, .int .i64 100, .nil]]
theorem o106 : ContractO seat 106 [] (.agg [.int .i64 1000, .int .i64 200, .int .i64 0, .os 0 1]) 50 5 2 twoE := by
  refine contractO_intro (fn := Tryd.f106) Tryd.func106 rfl (by kernel_rfl) rfl PureL.nil ?_ ?_ ?_
  · exact .agg _ (.cons _ _ (.pure _ (.int _ _)) (.cons _ _ (.pure _ (.int _ _)) (.cons _ _ (.pure _ (.int _ _)) (.cons _ _ (.os _ _) .nil))))
  · intro i hi
    obtain rfl | rfl : i = 0 ∨ i = 1 := by omega
    all_goals exact PureL.cons (.int _ _) (PureL.cons (.int _ _) (PureL.cons (.int _ _) (PureL.cons (.int _ _) (PureL.cons .nil PureL.nil))))
  intro w κ
  repeat' (first
    | (apply WL_q; apply Eq.refl; apply Eq.refl; (first | (apply q_bld <;> apply Eq.refl)))
    | apply W_seq
    | apply W_region
    | apply T_normal
    | apply WL_nil
    | apply W_ret
    | (apply WL_call; apply Eq.refl; apply Eq.refl; rotate_left 1; apply Eq.refl; rotate_right 1; exact (c41 50 100); apply Eq.refl)
    | (apply WL_n; apply Eq.refl; (first | (refine n_bslo rfl rfl rfl rfl rfl rfl rfl rfl rfl rfl rfl rfl rfl rfl rfl) | (apply n_alloc <;> apply Eq.refl) | (apply n_stb <;> (first | apply Eq.refl | (intro _ e; cases e))))))
  refine ⟨5, 1, rfl, rfl, [.agg [.int .i64 1000, .int .i64 200, .int .i64 0, .os 5 1]], ?_, rfl⟩
  show ResL _ _ [ResultVar.cell 0 24] [_]
  exact ⟨rv_A rfl rfl rfl rfl rfl rfl rfl, trivial⟩
def heldC : Convoy := ⟨1000, 200, 0, [⟨1, 0, 50, 100, [⟨300, 20⟩]⟩, ⟨2, 0, 50, 100, []⟩]⟩
def failC : Convoy := ⟨1000, 200, 1, [⟨1, 0, 50, 100, [⟨300, 20⟩]⟩, ⟨2, 0, 50, 100, []⟩]⟩
theorem c63 : Contract seat 63 [] (.agg (encConvoy heldC)) := by
  refine contract_introW (fn := Tryd.f63) Tryd.func63 rfl (by kernel_rfl) rfl PureL.nil (.agg _ (pure_convoy _)) ?_
  intro w κ
  repeat' (first
    | (apply WL_callo 50; apply Eq.refl; apply Eq.refl; exact o106; apply Eq.refl; apply Eq.refl; apply Eq.refl)
    | (apply WL_q; apply Eq.refl; apply Eq.refl; (first | (apply q_ldb <;> apply Eq.refl) | (apply q_fab <;> apply Eq.refl) | (apply q_ldba <;> apply Eq.refl) | (apply q_bld <;> apply Eq.refl) | (apply q_fao <;> apply Eq.refl) | (apply q_iao <;> (first | apply Eq.refl | omega))))
    | apply W_seq
    | apply W_region
    | apply T_normal
    | apply WL_nil
    | apply W_ret
    | (apply WL_n; apply Eq.refl; (first | (refine n_wk (n_bsl rfl rfl rfl rfl rfl rfl rfl rfl rfl rfl rfl rfl rfl rfl rfl) (wk_slf 6 (fun i => encHold ([(⟨300, 20⟩ : Hold)].getD i default)) rfl (fun i hi => by (obtain rfl : i = 0 := by omega); rfl))) | (apply n_alloc <;> apply Eq.refl) | (apply n_stb <;> (first | apply Eq.refl | (intro _ e; cases e))) | (apply n_bsl <;> apply Eq.refl) | (apply n_sto <;> (first | apply Eq.refl | omega)))))
  refine fin_wk (wk_arrN 50 (fun i => encTruck (heldC.trucks.getD i default)) rfl (fun i hi => ?_)) (fin_wk (wk_freeze_cell 0 3 (s := 50) rfl rfl rfl rfl rfl) (fin_now ?_))
  · obtain rfl | rfl : i = 0 ∨ i = 1 := by omega
    · exact ⟨.inl rfl, .inl rfl, .inl rfl, .inl rfl, .inl rfl, trivial⟩
    · exact ⟨.inl rfl, .inl rfl, .inl rfl, .inl rfl, .inr ⟨rfl, _, _, rfl⟩, trivial⟩
  · ((try apply fin_now); first | (apply fin_A; apply Eq.refl; apply Eq.refl; apply Eq.refl; apply Eq.refl; apply Eq.refl; apply Eq.refl; apply Eq.refl; apply Eq.refl; try apply Eq.refl))
theorem c62 : Contract seat 62 [] (.agg (encConvoy failC)) := by
  refine contract_introW (fn := Tryd.f62) Tryd.func62 rfl (by kernel_rfl) rfl PureL.nil (.agg _ (pure_convoy _)) ?_
  intro w κ
  repeat' (first
    | (apply WL_q; apply Eq.refl; apply Eq.refl; (first | (apply q_fab <;> apply Eq.refl) | (apply q_ldba <;> apply Eq.refl)))
    | apply W_seq
    | apply W_region
    | apply T_normal
    | apply WL_nil
    | apply W_ret
    | (apply WL_call; apply Eq.refl; apply Eq.refl; rotate_left 1; apply Eq.refl; rotate_right 1; exact (c63); apply Eq.refl)
    | (apply WL_n; apply Eq.refl; (first | (apply n_alloc <;> apply Eq.refl) | (apply n_stb <;> (first | apply Eq.refl | (intro _ e; cases e))))))
  ((try apply fin_now); first | (apply fin_A; apply Eq.refl; apply Eq.refl; apply Eq.refl; apply Eq.refl; apply Eq.refl; apply Eq.refl; apply Eq.refl; apply Eq.refl; try apply Eq.refl))
theorem chk_held : chkConvoy heldC = 0 := by kernel_rfl
theorem chk_fail : chkConvoy failC = 0 := by kernel_rfl
theorem meet_held : meetingP heldC = none := by kernel_rfl
theorem meet_fail : meetingP failC = some ⟨5, 0, 1, true, false, 301, 500⟩ := by kernel_rfl
theorem off_held : offP heldC = ⟨27, 34⟩ := by kernel_rfl
theorem k27f : Contract seat 27 [.agg (encConvoy failC)] (.tup [.agg (encMeeting ⟨5, 0, 1, true, false, 301, 500⟩), .int .i64 0]) := by
  have h := c27 failC
  rw [meet_fail, chk_fail] at h
  exact h
theorem k27h : Contract seat 27 [.agg (encConvoy heldC)] (.tup [.agg (encMeeting default), .int .i64 7]) := by
  have h := c27 heldC
  rw [meet_held, chk_held] at h
  exact h
theorem k36h : Contract seat 36 [.agg (encConvoy heldC)] (.tup [.agg (encSpan ⟨27, 34⟩), .int .i64 0]) := by
  have h := c36 heldC
  rw [off_held, chk_held] at h
  exact h
theorem c19 : Contract seat 19 [] (.bool true) := by
  refine contract_introW (fn := Tryd.f19) Tryd.func19 rfl (by kernel_rfl) rfl PureL.nil (.bool _) ?_
  intro w κ
  repeat' (first
    | (apply WL_q; apply Eq.refl; apply Eq.refl; (first | (apply q_mvI <;> apply Eq.refl) | (apply q_asI <;> apply Eq.refl) | (apply q_cmp <;> apply Eq.refl) | (apply q_mvB <;> apply Eq.refl) | (apply q_asB <;> apply Eq.refl) | (apply q_ext <;> apply Eq.refl) | (apply q_pkT <;> apply Eq.refl) | (apply q_ldba <;> apply Eq.refl) | (apply q_mvT <;> apply Eq.refl) | (apply q_eqA; apply Eq.refl; apply Eq.refl; apply Eq.refl; apply Eq.refl; kernel_rfl)))
    | apply W_seq
    | apply W_region
    | apply T_normal
    | apply WL_nil
    | apply W_ret
    | (apply WL_call; apply Eq.refl; apply Eq.refl; rotate_left 1; apply Eq.refl; rotate_right 1; exact (c62); apply Eq.refl)
    | (apply WL_call; apply Eq.refl; apply Eq.refl; rotate_left 1; apply Eq.refl; rotate_right 1; exact (k27f); apply Eq.refl)
    | (apply WL_call; apply Eq.refl; apply Eq.refl; rotate_left 1; apply Eq.refl; rotate_right 1; exact (c63); apply Eq.refl)
    | (apply WL_call; apply Eq.refl; apply Eq.refl; rotate_left 1; apply Eq.refl; rotate_right 1; exact (k27h); apply Eq.refl)
    | (apply WL_call; apply Eq.refl; apply Eq.refl; rotate_left 1; apply Eq.refl; rotate_right 1; exact (k36h); apply Eq.refl)
    | (apply WL_call; apply Eq.refl; apply Eq.refl; rotate_left 1; apply Eq.refl; rotate_right 1; exact (c41 27 34); apply Eq.refl)
    | (apply WL_n; apply Eq.refl; (first | (apply n_alloc <;> apply Eq.refl) | (apply n_stb <;> (first | apply Eq.refl | (intro _ e; cases e)))))
    | apply W_regionG
    | (apply WG_nil; kernel_rfl)
    | (apply WG_q; (first | (apply want_none; apply Eq.refl) | (apply want_some; apply Eq.refl; apply Eq.refl; apply Eq.refl)); apply Eq.refl; first | (apply fq_bld <;> apply Eq.refl) | (apply fq_blda <;> apply Eq.refl) | (apply fq_fn; apply Eq.refl) | (apply fq_mf; apply Eq.refl) | (apply FQ_intro; intro _; (first | (apply q_mvI <;> apply Eq.refl) | (apply q_asI <;> apply Eq.refl) | (apply q_cmp <;> apply Eq.refl) | (apply q_mvB <;> apply Eq.refl) | (apply q_asB <;> apply Eq.refl) | (apply q_ext <;> apply Eq.refl) | (apply q_pkT <;> apply Eq.refl) | (apply q_ldba <;> apply Eq.refl) | (apply q_mvT <;> apply Eq.refl) | (apply q_eqA; apply Eq.refl; apply Eq.refl; apply Eq.refl; apply Eq.refl; kernel_rfl))))
    | (apply WG_call; (first | (apply want_none; apply Eq.refl) | (apply want_some; apply Eq.refl; apply Eq.refl; apply Eq.refl)); apply Eq.refl; apply Eq.refl; apply Eq.refl; exact (c62))
    | (apply WG_call; (first | (apply want_none; apply Eq.refl) | (apply want_some; apply Eq.refl; apply Eq.refl; apply Eq.refl)); apply Eq.refl; apply Eq.refl; apply Eq.refl; exact (k27f))
    | (apply WG_call; (first | (apply want_none; apply Eq.refl) | (apply want_some; apply Eq.refl; apply Eq.refl; apply Eq.refl)); apply Eq.refl; apply Eq.refl; apply Eq.refl; exact (c63))
    | (apply WG_call; (first | (apply want_none; apply Eq.refl) | (apply want_some; apply Eq.refl; apply Eq.refl; apply Eq.refl)); apply Eq.refl; apply Eq.refl; apply Eq.refl; exact (k27h))
    | (apply WG_call; (first | (apply want_none; apply Eq.refl) | (apply want_some; apply Eq.refl; apply Eq.refl; apply Eq.refl)); apply Eq.refl; apply Eq.refl; apply Eq.refl; exact (k36h))
    | (apply WG_call; (first | (apply want_none; apply Eq.refl) | (apply want_some; apply Eq.refl; apply Eq.refl; apply Eq.refl)); apply Eq.refl; apply Eq.refl; apply Eq.refl; exact (c41 27 34)))
  ((try apply fin_now); first | (apply fin_B; apply Eq.refl; apply Eq.refl; try apply Eq.refl))
end Go.Proofs.YtafnhieaeejlcaaDoor
namespace Go.Proofs.YtafnhieaeejlcaaDoor
open Go Go.Ab
set_option linter.all false
set_option maxRecDepth 100000
def tys : List (Nat × T) := [(2, .int .i64), (3, .int .i64), (4, .bool), (5, .int .u8), (6, .int .u8), (9, .str), (10, .str), (11, .str), (12, .int .u64), (21, .int .i32), (22, .sl .Truck), (24, .Convoy), (28, .int .i64), (31, .sl (.int .i64)), (35, .sl .Convoy), (37, .Meeting), (41, .sl (.sl (.int .i64))), (42, .sl .bool), (47, .Span), (48, .sl .Hold), (50, .Truck), (72, .sl .Span), (89, .Hold), (90, .int .u64), (92, .Seed), (98, .sl .Ways), (101, .Ways), (102, .Pair), (112, .int .u64), (117, .Ride), (119, .Track), (127, .Nearness), (128, .sl .Lanes), (132, .Lanes), (138, .sl .Track), (142, .sl (.sl .Lanes)), (166, .int .u32), (167, .int .u8), (168, .int .u8), (171, .int .i32), (172, .int .i32)]
def iks : List (Nat × IntKind) := [(2, .i64), (3, .i64), (5, .u8), (6, .u8), (12, .u64), (21, .i32), (28, .i64), (90, .u64), (112, .u64), (166, .u32), (167, .u8), (168, .u8), (171, .i32), (172, .i32)]
def fls : List Nat := [1, 25, 26, 27, 29, 30, 33, 34, 39, 40, 44, 45, 51, 52, 53, 55, 56, 57, 59, 60, 61, 62, 63, 64, 66, 67, 68, 69, 70, 71, 74, 75, 76, 78, 79, 80, 81, 83, 84, 85, 86, 87, 93, 94, 96, 97, 99, 100, 105, 107, 108, 109, 110, 111, 113, 114, 115, 120, 121, 123, 124, 125, 129, 130, 133, 134, 135, 136, 137, 139, 140, 141, 143, 144, 145, 146, 147, 148, 149, 150, 151, 152, 153, 154, 155, 156, 157, 158, 159, 160, 169]
def mps : List Nat := []
def sls : List Nat := [9, 10, 11]
def bls : List Nat := [4]
def gls : List (Nat × List I) := [(0, [.int .i64 0, .int .i64 0, .int .i64 1, .int .i64 0, .int .i64 0, .int .i64 1, .int .i64 1, .int .i64 1])]
def ifs : List Nat := [20]
def bts : List (Nat × Nat) := []
noncomputable def iseat : ISeat := mkISeatI seat gls tys iks bls fls sls mps ifs bts (fun g h => by cases g with | zero => rfl | succ g => rfl) (by kernel_rfl) (by kernel_rfl) (by kernel_rfl) (by kernel_rfl) (by kernel_rfl) (by kernel_rfl) (by kernel_rfl)
end Go.Proofs.YtafnhieaeejlcaaDoor
