/- Walks by computing: what each function of the program that the laws reach gives for what it gets, as plain Lean, and that it is so; without a condition but those that stand in each theorem. -/
import Derived.Shelf.Strings.SlTrimAscii
import Derived.Test.YthmgcjmoiilggaaDoorW1
import Derived.Test.YthmgcjmoiilggaaDoorW2
import Derived.Test.YthmgcjmoiilggaaDoorW3
import Derived.Test.YthmgcjmoiilggaaDoorW4
import Derived.Test.YthmgcjmoiilggaaDoorW5
import Derived.Test.YthmgcjmoiilggaaDoorW6
set_option linter.all false
namespace Go.Ab
open Go Go.RowKit
noncomputable section
set_option linter.all false
set_option maxHeartbeats 1000000
def FinRN (X : Ctx) (rs : List ResultVar) (l' : List D) (R : D) : Exit → St → Prop
  | .normal, S | .ret, S => ∃ S' ds l, Wk X S S' ∧ S'.γ 0 = 1 ∧ S'.σ 0 = .box l ∧ ResL X S' rs ds ∧ (∀ κ γ sv v, Rep κ γ sv (tupOf ds) v → Rep κ γ sv R v) ∧ ∀ κ γ sv vs, RepL κ γ sv l vs → RepL κ γ sv l' vs
  | _, _ => False
theorem contractR_introN {Z : Seat} {f : FuncId} {fn : Func} {c : Code} {l l' A : List D} {R : D} (hf : Z.P.funcs[f]? = some fn) (hb : fn.body = some c) (hname : (fn.name == "runtime.NumGoroutine") = false) (hn : Nat.ble (A.length + 1) fn.ntmps = true)
    (hl : PureL l) (hl' : PureL l') (hc : allCell l = true) (hc' : allCell l' = true) (hA : PureL A) (hR : Pure R)
    (h : ∀ w κ b, W (Ctx.plain Z fn.ntmps w κ (some b)) c (FinRN (Ctx.plain Z fn.ntmps w κ (some b)) fn.results.toList l' R) (St.initR l A)) : ContractR Z f l l' A R := by
  refine ⟨hA, hR, hl, hl', hc', ⟨fn, c, hf, hb, hname⟩, fun w κ args b T cs hκ hκb hh hcs hglob hrep => ?_⟩
  refine (callsIn_wide (n := 0)).1 (callsIn_of_wp_marks hf hb trivial ?_ rfl)
  have hlen : A.length + 1 ≤ fn.ntmps := Nat.le_of_ble_eq_true hn
  have hal := hrep.length
  let sv : Nat → Value := upd sv0 0 (.pointer (some ⟨b, 0, none⟩))
  let γ : Nat → Nat := upd (fun _ => 0) 0 1
  have hrep' : RepL κ γ sv (.bx 0 1 0 :: A) (Value.pointer (some ⟨b, 0, none⟩) :: args) :=
    .cons _ _ _ _ (.bx _ _ _ _ (Nat.le_refl _) (fun _ => ⟨b, rfl, rfl⟩) rfl) (hrep.pure (fun _ _ _ h => h) hA)
  have hσ : ∀ s b', blk (upd (fun _ => Own.none) 0 (.box l) s) (sv s) = some b' → s = 0 ∧ b' = b := by
    intro s b' hs
    by_cases e : s = 0
    · subst e; rw [upd_same] at hs; simp only [sv, upd_same, blk, Option.some.injEq] at hs; exact ⟨rfl, hs.symm⟩
    · rw [upd_ne _ _ _ _ e] at hs; cases hs
  have hsim : Sim (Ctx.plain Z fn.ntmps w κ (some b)) κ sv (St.initR l A) { tmps := (Value.pointer (some ⟨b, 0, none⟩) :: args).toArray ++ Array.replicate (fn.ntmps - (Value.pointer (some ⟨b, 0, none⟩) :: args).toArray.size) Go.undef, defers := [] } w := by
    refine ⟨by simp [Ctx.plain]; omega, Dfr.nil rfl, fun i _ => slot_init hrep' _ i, ?_⟩
    refine ⟨hκ, fun s => ?_, fun s t b' hs ht => (hσ s b' hs).1.trans (hσ t b' ht).1.symm, fun s b' o hs => ?_, fun s b' hs => .inr (.inl (by rw [(hσ s b' hs).2]; rfl)), ⟨fun k => k = b, ⟨Frame.refl _ _, fun k h => .inr (by rw [h])⟩, fun s b' hs => (hσ s b' hs).2⟩, fun g l hg => ?_, fun b o v _ hk => hk, fun b' hb' => ?_, Nat.le_refl _, ⟨fun _ _ _ h => (by cases h), fun _ => Nat.zero_le _, fun s (e : 0 = γ s) => upd_ne _ _ _ _ (fun e2 => by subst e2; simp only [γ, upd_same] at e; cases e)⟩, fun _ _ _ _ h => h, fun _ _ _ h => h, fun _ h => h.elim⟩
    · by_cases e : s = 0
      · subst e
        exact ⟨b, T, cs, rfl, hh, hcs.pure (fun _ _ _ h => h) hl, hc⟩
      · show Owns _ _ _ _ _ s (upd (fun _ => Own.none) 0 (.box l) s)
        rw [upd_ne _ _ _ _ e]; trivial
    · rw [(hσ s b' hs).2]; exact hκb o
    · obtain ⟨h1, u, h2, h3⟩ := hglob g l hg
      exact ⟨h1, u, h2.pure (fun _ _ _ h => h) (Z.globPure g l hg), h3⟩
    · have hb' : some b = some b' := hb'
      simp only [Option.some.injEq] at hb'
      subst hb'
      exact ⟨Nat.le_refl _, fun _ => rfl⟩
  refine wpIn_mono (h w κ b κ sv _ w hsim) ?_
  rintro e a' w' ⟨κ', sv', S', hs, hq⟩
  cases e <;> first | exact hq.elim | skip
  all_goals
    obtain ⟨S2, ds, m, hw, hγ, hσ', hd, hconv, hconvl⟩ := hq
    obtain ⟨κ2, sv2, hs⟩ := hw _ _ _ _ hs
    obtain ⟨Ds, d1, d2, d3, _⟩ := hs.defers
    show LeavesInM _ _ _ _ _ _ a'.defers _ _
    rw [d1]
    refine leaves_of rfl plainF_turn hd (fun a w v hs h2 => ?_) Ds a' w' hs d1 d2 d3
    have hpin := (hs.wld.pin b rfl).2 hγ
    have hown := hs.wld.own 0
    rw [hσ'] at hown
    obtain ⟨b2, T2, cs2, e1, e2, e3, e4⟩ := hown
    rw [hpin] at e1
    simp only [Value.pointer.injEq, Option.some.injEq, Addr.mk.injEq, and_true] at e1
    subst e1
    obtain ⟨M, h1, _⟩ := hs.wld.frame
    exact ⟨v, cs2, T2, rfl, e2, (hconvl _ _ _ _ e3).pure (fits_grow hs.wld) hl', (hconv _ _ _ _ h2).pure (fits_grow hs.wld) hR, h1.1⟩
section
variable {R : Type} {X : Ctx} {Z : ISeat} {r : R}
def initR (l A : List I) : IS := ⟨enum 0 (.bx 0 1 0 :: A), [(0, 1)], [(0, .box l)]⟩
theorem toSt_initR (l A : List I) : (initR l A).toSt zh = St.initR (I.toDL zh l) (I.toDL zh A) := by
  unfold IS.toSt St.initR initR
  congr 1
  · funext i
    exact look_enum zh (.bx 0 1 0 :: A) 0 i (Nat.zero_le _)
  · funext s
    simp only [IS.gen, look, zh, upd]
    cases Nat.beq s 0 <;> rfl
  · funext s
    simp only [IS.own, look, upd]
    cases Nat.beq s 0 <;> rfl
def boxAt (S : IS) : List I := match S.own 0 with | .box l => l | _ => []
def finKR (Z : ISeat) (nt : Nat) (rv : List ResultVar) (bt : T) (ts : List T) (S : IS) : Option (den bt × resD ts) := match resIL Z nt S rv with
  | some ds => (match resIL Z nt (frz S (arrsOf S (plIL ds ++ plIL (boxAt S)))) rv, (frz S (arrsOf S (plIL ds ++ plIL (boxAt S)))).own 0 with
    | some ds, .box l => (match decC bt l, decR ts ds with | some y, some x => some (y, x) | _, _ => none)
    | _, _ => none)
  | none => none
def finXR (Z : ISeat) (nt : Nat) (rv : List ResultVar) (bt : T) (ts : List T) (e : Option Nat) (S : IS) : Option (den bt × resD ts) := match e with
  | none => finKR Z nt rv bt ts S
  | some _ => none
theorem finKR_ok {nt : Nat} (hX : At X Z nt) (hxf : ∀ p, X.xa p = false) {rv : List ResultVar} {bt : T} {ts : List T} {S : IS} {y : den bt} {x : resD ts} {h h' : Nat → Nat} (hi : h 0 + S.gen 0 = 1) (hr : finKR Z nt rv bt ts S = some (y, x)) :
    ∃ S' ds l, Wk X (S.toSt h) S' ∧ S'.γ 0 = 1 ∧ S'.σ 0 = .box l ∧ ResL X S' rv ds ∧ (∀ κ γ sv v, Rep κ γ sv (tupOf ds) v → Rep κ γ sv ((encR ts x).toD h') v) ∧ ∀ κ γ sv vs, RepL κ γ sv l vs → RepL κ γ sv (I.toDL h' (encC bt y)) vs := by
  unfold finKR at hr
  split at hr
  · rename_i ds0 _
    split at hr
    · rename_i ds l hds hl
      split at hr
      · rename_i y' x' hy hx
        simp only [Option.some.injEq, Prod.mk.injEq] at hr
        obtain ⟨rfl, rfl⟩ := hr
        refine ⟨_, _, I.toDL h l, frz_ok (arrsOf S (plIL ds0 ++ plIL (boxAt S))) S (fun p _ => hxf p), ?_, ?_, resIL_ok hX hds, fun κ γ sv v hv => ?_, fun κ γ sv vs hv => ?_⟩
        · show h 0 + look 0 (frz S _).gs 0 = 1
          rw [frz_gs]; exact hi
        · show ((frz S _).own 0).toOwn h = _
          rw [hl]; rfl
        · unfold encR
          rw [tupI_toD]
          exact repL_tup (by simp only [toDL_len, decR_len hx]) (fun vs hvs => decR_rep hx hvs) hv
        · rw [toDL_enc, ← toDL_enc h]
          exact nilL_rep (nilIL_rel h (decC_ok bt hy)) hv
      · cases hr
    · cases hr
  · cases hr
def fnRunR {bt : T} {ts : List T} (it : It (den bt × resD ts)) (E : FEnv Z) (c : Code) (rv : List ResultVar) (l A : List I) : Option (den bt × resD ts) :=
  runC it E c ⟨[], []⟩ (initR l A) (finKR Z E.nt rv bt ts) (finXR Z E.nt rv bt ts)
theorem encA_h (h : Nat → Nat) : ∀ (ats : List T) (a : argD ats), I.toDL h (encA ats a) = I.toDL zh (encA ats a) := by
  have key : ∀ (t : T) (x : den t), (encV t x).toD h = (encV t x).toD zh := fun t x => by
    unfold encV
    cases isSt t with
    | true => simp only [cond_true, I.toD, toDL_enc]
    | false =>
      simp only [cond_false]
      split
      · rename_i d e
        have h1 := toDL_enc h t x
        rw [← toDL_enc zh, e] at h1
        simpa [I.toDL] using h1
      · rfl
  intro ats
  induction ats with
  | nil => intro a; rfl
  | cons t ats ih => intro a; simp only [encA, I.toDL, ih, key]
theorem fn_contractR {bt : T} {ts ats : List T} {E : FEnv Z} {f : FuncId} {fn : Func} {c : Code} (hf : Z.P.funcs[f]? = some fn) (hb : fn.body = some c) (hname : (fn.name == "runtime.NumGoroutine") = false) (hn : Nat.beq fn.ntmps E.nt = true) (hl : Nat.ble (ats.length + 1) fn.ntmps = true) (hp : E.pin = [0])
    {b y : den bt} {a : argD ats} {x : resD ts} (hr : fnRunR itN E c fn.results.toList (encC bt b) (encA ats a) = some (y, x)) (h : Nat → Nat) : ContractR Z.toSeat f (I.toDL h (encC bt b)) (I.toDL h (encC bt y)) (I.toDL h (encA ats a)) ((encR ts x).toD h) := by
  have hal : ∀ (ats : List T) (a : argD ats), (encA ats a).length = ats.length := fun ats => by
    induction ats with
    | nil => intro a; rfl
    | cons t ats ih => intro a; simp only [encA, List.length_cons, ih]
  rw [encA_h h, toDL_enc h bt b, ← toDL_enc zh bt b]
  have pb : ∀ (h : Nat → Nat) (z : den bt), PureL (I.toDL h (encC bt z)) := fun h z => by rw [toDL_enc]; exact encD_pure bt z
  have cb : ∀ (h : Nat → Nat) (z : den bt), allCell (I.toDL h (encC bt z)) = true := fun h z => by rw [toDL_enc]; exact encD_cell bt z
  refine contractR_introN hf hb hname (by rw [toDL_len, hal]; exact hl) (pb _ _) (pb _ _) (cb _ _) (cb _ _) (encA_pure _ _ _) (encR_pure _ _ _) fun w κ b' => ?_
  have hX : At (Ctx.plain Z.toSeat fn.ntmps w κ (some b')) Z E.nt := At.pl rfl (Nat.eq_of_beq_eq_true hn) (fun _ => rfl)
  rw [← toSt_initR]
  refine W_mono (run_ok c hX (fun _ => ⟨_, _, _, _, _, rfl⟩) (g0 := fun _ => 1) ⟨[], []⟩ rfl _ _ _ zh ⟨(fun g hg => by rw [hp] at hg; simp only [List.mem_singleton] at hg; subst hg; rfl), ⟨(fun p hp => (nomatch hp)), (fun p hp => (nomatch hp))⟩⟩ hr) ?_
  rintro e T ⟨h2, S, rfl, hi, hq⟩
  cases e with
  | normal => exact finKR_ok hX (fun _ => rfl) (hi.1 0 (by rw [hp]; exact List.mem_cons_self ..)) hq
  | ret => exact finKR_ok hX (fun _ => rfl) (hi.1 0 (by rw [hp]; exact List.mem_cons_self ..)) hq
  | exit i => simp only [finXR] at hq; cases hq
  | _ => exact hq.elim
theorem contractR_dec {Z : Seat} {f : FuncId} {bt : T} {ats : List T} {l ds : List I} {b : den bt} {a : argD ats} {l' : List D} {R : D} {h : Nat → Nat} (hb : decC bt l = some b) (hd : decA ats ds = some a) (hpl : PureL (I.toDL h l)) (hp : PureL (I.toDL h ds)) (hc : ContractR Z f (I.toDL h (encC bt b)) l' (I.toDL h (encA ats a)) R) : ContractR Z f (I.toDL h l) l' (I.toDL h ds) R :=
  ⟨hp, hc.pureR, hpl, hc.purel', hc.cell', hc.body, fun w κ args b T cs h1 h2 h3 h4 h5 h6 => hc.calls w κ args b T cs h1 h2 h3 (nilL_rep (nilIL_rel h (decC_ok bt hb)) h4) h5 (decA_rep hd h6)⟩
theorem nilIL_pure {l m : List I} (hn : NilIL l m) (h : Nat → Nat) (hp : PureL (I.toDL h m)) : PureL (I.toDL h l) := by
  induction hn with
  | nil => exact PureL.nil
  | cons h1 _ ih =>
    refine PureL.cons ?_ (ih fun d hd => hp d (List.mem_cons_of_mem _ hd))
    cases h1 with
    | same => exact hp _ (List.mem_cons_self ..)
    | nil => exact .nil
    | nsl t l => exact pure_noRef h (.nsl t l) rfl
def mkSpecR (Z : Seat) (f : FuncId) (bt : T) (ats ts : List T) (F : den bt → argD ats → Option (den bt × resD ts)) (hF : ∀ b a y x, F b a = some (y, x) → ∀ h, ContractR Z f (I.toDL h (encC bt b)) (I.toDL h (encC bt y)) (I.toDL h (encA ats a)) ((encR ts x).toD h)) : FnSpecR Z where
  f := f
  app := fun l A k => match decC bt l, decA ats A with | some b, some a => (F b a).bind (fun p => k (encC bt p.1) (encR ts p.2)) | _, _ => none
  ok := fun l A k r h => by
    split at h
    · rename_i b a hb ha
      cases hx : F b a with
      | none => rw [hx] at h; cases h
      | some p =>
        obtain ⟨y, x⟩ := p
        rw [hx] at h
        exact ⟨_, _, h, fun h => contractR_dec hb ha (nilIL_pure (decC_ok bt hb) h (by rw [toDL_enc]; exact encD_pure bt b)) (decA_pure ha) (hF b a y x hx h)⟩
    · cases h
end
end
end Go.Ab
namespace Go.Ab
open Go Go.RowKit
set_option linter.all false
def bodyOf (fn : Func) : Code := match fn.body with | some c => c | none => .skip
noncomputable def opq {α : Type} (x : α) : α := Classical.choose (⟨x, rfl⟩ : ∃ y, y = x)
theorem opq_eq {α : Type} (x : α) : opq x = x := Classical.choose_spec (⟨x, rfl⟩ : ∃ y, y = x)
def w64 (n : Int) : Int := IntKind.i64.wrap n
def xorI (k : IntKind) (m n : Int) : Int := k.wrap (BitVec.ofInt k.bits m ^^^ BitVec.ofInt k.bits n).toNat
def andNotI (k : IntKind) (m n : Int) : Int := k.wrap (BitVec.ofInt k.bits m &&& ~~~BitVec.ofInt k.bits n).toNat
def shrI (k : IntKind) (m n : Int) : Int := m.fdiv (2 ^ (min n.toNat k.bits))
end Go.Ab
namespace Go.Ab
open Go Go.RowKit
noncomputable section
set_option linter.all false
set_option maxHeartbeats 1000000
def FinB (X : Ctx) (rs : List ResultVar) (l' : List D) : Exit → St → Prop
  | .normal, S | .ret, S => ∃ S' s g l, Wk X S S' ∧ S'.γ s = g ∧ S'.σ s = .box l ∧ ResL X S' rs [.bx s g 0] ∧ ∀ κ γ sv vs, RepL κ γ sv l vs → RepL κ γ sv l' vs
  | _, _ => False
theorem contractB_intro {Z : Seat} {f : FuncId} {fn : Func} {c : Code} {A l' : List D} (hf : Z.P.funcs[f]? = some fn) (hb : fn.body = some c) (hname : (fn.name == "runtime.NumGoroutine") = false) (hn : Nat.ble A.length fn.ntmps = true) (hA : PureL A) (hl' : PureL l') (hc' : allCell l' = true)
    (h : ∀ w κ, W (Ctx.plain Z fn.ntmps w κ none) c (FinB (Ctx.plain Z fn.ntmps w κ none) fn.results.toList l') (St.init A)) : ContractB Z f A l' := by
  refine ⟨hA, hl', ⟨fn, c, hf, hb, hname⟩, fun w κ args hκ hglob hrep => ?_⟩
  refine (callsIn_wide (n := 0)).1 (callsIn_of_wp_marks hf hb trivial ?_ rfl)
  have hlen : A.length ≤ fn.ntmps := Nat.le_of_ble_eq_true hn
  have hal := hrep.length
  have hsim : Sim (Ctx.plain Z fn.ntmps w κ none) κ sv0 (St.init A) { tmps := args.toArray ++ Array.replicate (fn.ntmps - args.toArray.size) Go.undef, defers := [] } w := by
    refine ⟨by simp [Ctx.plain]; omega, Dfr.nil rfl, fun i _ => slot_init hrep _ i, ?_⟩
    exact ⟨hκ, fun _ => trivial, (fun s t b hs => by cases hs), (fun s b o hs => by cases hs), (fun s b hs => by cases hs), ⟨fun _ => False, ⟨Frame.refl _ _, fun _ h => h.elim⟩, fun s b hs => by cases hs⟩, hglob, fun b o v _ hk => hk, (fun b hb => by cases hb), Nat.le_refl _, ⟨fun _ _ _ h => (by cases h), fun _ => Nat.zero_le _, fun _ _ => rfl⟩, fun _ _ _ _ h => h, fun _ _ _ h => h, fun _ h => h.elim⟩
  refine wpIn_mono (h w κ κ sv0 _ w hsim) ?_
  rintro e a' w' ⟨κ', sv', S', hs, hq⟩
  cases e <;> first | exact hq.elim | skip
  all_goals
    obtain ⟨S2, s, g, l, hw, hg, hσ, hd, hconv⟩ := hq
    obtain ⟨κ2, sv2, hs⟩ := hw _ _ _ _ hs
    obtain ⟨Ds, d1, d2, d3, _⟩ := hs.defers
    show LeavesInM _ _ _ _ _ _ a'.defers _ _
    rw [d1]
    refine leaves_of rfl plainF_turn hd (fun a w' v hs h2 => ?_) Ds a' w' hs d1 d2 d3
    obtain ⟨M, h1, _⟩ := hs.wld.frame
    have hown := hs.wld.own s
    rw [hσ] at hown
    obtain ⟨b, T, cs, e1, e2, e3, e4⟩ := hown
    have hbk : blk (S2.σ s) (sv2 s) = some b := by rw [hσ, e1]; rfl
    have hnew : w.heap.size ≤ b := (hs.wld.frsh s b hbk).resolve_right (fun h => by rcases h with h | h <;> cases h)
    have hv : v = .pointer (some ⟨b, 0, none⟩) := by
      simp only [tupOf] at h2
      cases h2 with
      | bx _ _ _ _ _ hh _ =>
        obtain ⟨b', q1, q2⟩ := hh hg.symm
        rw [e1] at q1
        simp only [Value.pointer.injEq, Option.some.injEq, Addr.mk.injEq, and_true] at q1
        rw [q2, q1]
    have hk : ∀ b o u, κ2 b o = some u → (fun b o => if b < w.heap.size then κ b o else κ2 b o) b o = some u := fun b o u hu => by
      simp only
      split
      · exact hs.wld.old b o u (by assumption) hu
      · exact hu
    have h6 := hconv _ _ _ _ e3
    refine ⟨b, T, cs, fun b o => if b < w.heap.size then κ b o else κ2 b o, by rw [hv], hnew, e2, h6.pure hk hl', hc', fun b o u hu => ?_, fun b o u hb hu => ?_, fun b o u hu => ?_, fun o => ?_, h1.1.below⟩
    · have : b < w.heap.size := by have := World.block_lt_of_cell? w _ (hκ b o u hu); simpa using this
      simp only; rw [if_pos this]; exact hu
    · simp only at hu; rw [if_pos hb] at hu; exact hu
    · simp only at hu
      split at hu
      · rename_i hb
        have h3 := hκ b o u hu
        rw [h1.1.below.cell (by simpa using hb)]; exact h3
      · exact hs.wld.imm b o u hu
    · simp only; rw [if_neg (by omega)]
      exact hs.wld.sep s b o hbk
section
variable {X : Ctx} {Z : ISeat}
def finKB (Z : ISeat) (nt : Nat) (rv : List ResultVar) (bt : T) (S : IS) : Option (den bt) := match rv with
  | [v] => (match resI Z nt S v with
    | some (.bx s g 0) => live S s g (match S.own s with
      | .box l => (match (frz S (arrsOf S (plIL l))).own s with
        | .box l => bif Nat.beq 0 0 then decC bt l else none
        | _ => none)
      | _ => none)
    | _ => none)
  | _ => none
theorem frz1_get {S : IS} {p s g o : Nat} {rv : ResultVar} {nt : Nat} (hr : resI Z nt S rv = some (.bx s g o)) (ht : ∃ t, rv = .tmp t) : resI Z nt (frz1 S p) rv = some (.bx s g o) := by
  obtain ⟨t, rfl⟩ := ht
  simp only [resI, IS.ev, Option.some.injEq] at hr ⊢
  cases hb : Nat.blt t nt with
  | false => rw [hb] at hr; cases hr
  | true =>
    rw [hb] at hr
    simp only [cond_true] at hr ⊢
    unfold frz1
    split
    · show look .undef (mapS _ S.rs) t = _
      rw [look_map rfl]
      have h3 : look .undef S.rs t = .bx s g o := hr
      rw [h3]; rfl
    · exact hr
theorem frz_get {s g o : Nat} {rv : ResultVar} {nt : Nat} (ht : ∃ t, rv = .tmp t) : ∀ (l : List Nat) (S : IS), resI Z nt S rv = some (.bx s g o) → resI Z nt (frz S l) rv = some (.bx s g o)
  | [], S, hr => hr
  | p :: l, S, hr => frz_get ht l _ (frz1_get hr ht)
theorem finKB_ok {nt : Nat} (hX : At X Z nt) (hxf : ∀ p, X.xa p = false) {rv : List ResultVar} {bt : T} {S : IS} {y : den bt} {h h' : Nat → Nat} (ht : ∃ t, rv = [.tmp t]) (hr : finKB Z nt rv bt S = some y) :
    ∃ S' s g l, Wk X (S.toSt h) S' ∧ S'.γ s = g ∧ S'.σ s = .box l ∧ ResL X S' rv [.bx s g 0] ∧ ∀ κ γ sv vs, RepL κ γ sv l vs → RepL κ γ sv (I.toDL h' (encC bt y)) vs := by
  obtain ⟨t, rfl⟩ := ht
  simp only [finKB] at hr
  split at hr
  · rename_i s g hv
    replace hr := live_ok hr
    obtain ⟨rfl, hr⟩ := hr
    split at hr
    · rename_i l0 hl0
      split at hr
      · rename_i l hl
        have hr : decC bt l = some y := hr
        have h1 := frz_get (Z := Z) ⟨t, rfl⟩ (arrsOf S (plIL l0)) S hv
        refine ⟨_, s, h s + S.gen s, I.toDL h l, frz_ok (arrsOf S (plIL l0)) S (fun p _ => hxf p), ?_, ?_, ⟨resI_ok hX h1, trivial⟩, fun κ γ sv vs hv => ?_⟩
        · show h s + look 0 (frz S _).gs s = _
          rw [frz_gs]; rfl
        · show ((frz S _).own s).toOwn h = _
          rw [hl]; rfl
        · rw [toDL_enc, ← toDL_enc h]
          exact nilL_rep (nilIL_rel h (decC_ok bt hr)) hv
      · cases hr
    · cases hr
  · cases hr
def finXB (Z : ISeat) (nt : Nat) (rv : List ResultVar) (bt : T) (e : Option Nat) (S : IS) : Option (den bt) := match e with
  | none => finKB Z nt rv bt S
  | some _ => none
def fnRunB {bt : T} (it : It (den bt)) (E : FEnv Z) (c : Code) (rv : List ResultVar) (A : List I) : Option (den bt) := runC it E c ⟨[], []⟩ (initS A) (finKB Z E.nt rv bt) (finXB Z E.nt rv bt)
theorem fn_contractB {bt : T} {ats : List T} {E : FEnv Z} {f : FuncId} {fn : Func} {c : Code} (hf : Z.P.funcs[f]? = some fn) (hb : fn.body = some c) (hname : (fn.name == "runtime.NumGoroutine") = false) (hn : Nat.beq fn.ntmps E.nt = true) (hl : Nat.ble ats.length fn.ntmps = true) (hp : E.pin = []) (ht : ∃ t, fn.results.toList = [.tmp t])
    {a : argD ats} {y : den bt} (hr : fnRunB itN E c fn.results.toList (encA ats a) = some y) (h : Nat → Nat) : ContractB Z.toSeat f (I.toDL h (encA ats a)) (I.toDL h (encC bt y)) := by
  have hal : ∀ (ats : List T) (a : argD ats), (encA ats a).length = ats.length := fun ats => by
    induction ats with
    | nil => intro a; rfl
    | cons t ats ih => intro a; simp only [encA, List.length_cons, ih]
  rw [encA_h h]
  have pb : PureL (I.toDL h (encC bt y)) := by rw [toDL_enc]; exact encD_pure bt y
  have cb : allCell (I.toDL h (encC bt y)) = true := by rw [toDL_enc]; exact encD_cell bt y
  refine contractB_intro hf hb hname (by rw [toDL_len, hal]; exact hl) (encA_pure _ _ _) pb cb fun w κ => ?_
  have hX : At (Ctx.plain Z.toSeat fn.ntmps w κ none) Z E.nt := At.pl rfl (Nat.eq_of_beq_eq_true hn) (fun _ => rfl)
  rw [← toSt_init]
  refine W_mono (run_ok c hX (fun _ => ⟨_, _, _, _, _, rfl⟩) (g0 := zh) ⟨[], []⟩ rfl _ _ _ zh ⟨(fun g hg => by rw [hp] at hg; cases hg), ⟨(fun p hp => (nomatch hp)), (fun p hp => (nomatch hp))⟩⟩ hr) ?_
  rintro e T ⟨h2, S, rfl, _, hq⟩
  cases e with
  | normal => exact finKB_ok hX (fun _ => rfl) ht hq
  | ret => exact finKB_ok hX (fun _ => rfl) ht hq
  | exit i => simp only [finXB] at hq; cases hq
  | _ => exact hq.elim
theorem contractB_dec {Z : Seat} {f : FuncId} {ats : List T} {ds : List I} {a : argD ats} {l : List D} {h : Nat → Nat} (hd : decA ats ds = some a) (hp : PureL (I.toDL h ds)) (hc : ContractB Z f (I.toDL h (encA ats a)) l) : ContractB Z f (I.toDL h ds) l :=
  ⟨hp, hc.purel, hc.body, fun w κ args hf hg hr => hc.calls w κ args hf hg (decA_rep hd hr)⟩
def mkSpecB (Z : Seat) (f : FuncId) (bt : T) (ats : List T) (F : argD ats → Option (den bt)) (hF : ∀ a y, F a = some y → ∀ h, ContractB Z f (I.toDL h (encA ats a)) (I.toDL h (encC bt y))) : FnSpecB Z where
  f := f
  app := fun A k => match decA ats A with | some a => (F a).bind (fun y => k (encC bt y)) | none => none
  ok := fun A k r h => by
    split at h
    · rename_i a ha
      cases hx : F a with
      | none => rw [hx] at h; cases h
      | some y =>
        rw [hx] at h
        exact ⟨_, h, fun h => contractB_dec ha (decA_pure ha) (hF a y hx h)⟩
    · cases h
end
end
end Go.Ab
namespace Go.Ab
open Go Go.RowKit
noncomputable section
set_option linter.all false
set_option maxHeartbeats 1000000
def YL : Nat := 999983
section
variable {Z : ISeat} {its : List T}
def yieldOf (Z : ISeat) (nt : Nat) (S : IS) (o : Oper) : Option (Array Operand × Nat) := match o.op, o.dst, o.guard with
  | .call ⟨.value (.tmp x), xs, _⟩, some t, none => (match S.ev Z nt (.tmp x) with
    | .yl s => bif Nat.beq s YL && Nat.beq (S.gen s) 0 then some (xs, t) else none
    | _ => none)
  | _, _, _ => none
def consM {α : Type} (a : α) (r1 r2 : Option (List α)) : Option (List α) := match r1 with
  | some [] => (match r2 with | some l => some (a :: l) | none => none)
  | _ => none
def scTy : T → Bool
  | .int _ => true
  | .bool => true
  | .str => true
  | _ => false
def scI : I → Bool
  | .int _ _ => true
  | .bool _ => true
  | .str _ => true
  | .nil => true
  | .agg l => scC l
  | _ => false
def give1 (S : IS) (t : T) (d : I) : Option (den t × List Nat) := match t, d with
  | .sl t', .os s g => (match S.own s with
    | .arr _ t2 l => bif Nat.beq g (S.gen s) && scTy t' then (match asL t' t2 l with | some l' => some (l', [s]) | none => none) else none
    | _ => none)
  | t, d => bif scI d then (match decV t d with | some x => some (x, []) | none => none) else none
def giveL (S : IS) : (ts : List T) → List I → Option (argD ts × List Nat)
  | [], [] => some ((), [])
  | t :: ts, d :: ds => (match give1 S t d with
    | some x => (match giveL S ts ds with | some y => some ((x.1, y.1), x.2 ++ y.2) | none => none)
    | none => none)
  | _, _ => none
def dropI (S : IS) (ps : List Nat) : IS := ⟨S.rs, S.gs, ps.map (fun p => (p, IOwn.none)) ++ S.os⟩
def runLI (its : List T) (E : CEnv Z) (F : Fix) (ops : Array Oper) : List Oper → Bool → IS → (Bool → IS → Option (List (argD its))) → Option (List (argD its))
  | [], st, S, k => k st S
  | o :: rest, st, S, k => match yieldOf Z E.nt S o with
    | some (xs, t) => bif st then none else (match giveL S its (xs.toList.map (S.ev Z E.nt)) with
      | some (a, ps) => chk (fzOk F ps && !(memN t (keys F.sl))) (consM a (runLI its E F ops rest true ((dropI S ps).set t (.bool false)) k) (runLI its E F ops rest false ((dropI S ps).set t (.bool true)) k))
      | none => none)
    | none => runL E F ops [o] S (fun S1 => runLI its E F ops rest st S1 k)
def inBI (its : List T) (id : Nat) (kn : Bool → IS → Option (List (argD its))) (kx : Option Nat → Bool → IS → Option (List (argD its))) (e : Option Nat) (st : Bool) (S : IS) : Option (List (argD its)) := match e with
  | some i => bif Nat.beq i id then kn st S else kx (some i) st S
  | none => kx none st S
def runI (its : List T) (it : It (List (argD its))) (E : FEnv Z) : Code → Fix → Bool → IS → (Bool → IS → Option (List (argD its))) → (Option Nat → Bool → IS → Option (List (argD its))) → Option (List (argD its))
  | .skip, _, st, S, kn, _ => kn st S
  | .region _ ops draw, F, st, S, kn, _ => bif draw then runG E.toCEnv F ops ops.toList S [] (settle F (kn st)) else runLI its E.toCEnv F ops ops.toList st S kn
  | .seq a b, F, st, S, kn, kx => runI its it E a F st S (fun st' S' => runI its it E b F st' S' kn kx) kx
  | .cond c a b, F, st, S, kn, kx => (match S.ev Z E.nt c with
    | .bool v => bif v then runI its it E a F st S kn kx else runI its it E b F st S kn kx
    | _ => none)
  | .block id b, F, st, S, kn, kx => runI its it E b F st S kn (inBI its id kn kx)
  | .exit id, _, st, S, _, kx => kx (some id) st S
  | .ret, _, st, S, _, kx => kx none st S
  | .loop b, F, st, S, _, kx => bif st then none else (match findL E.lp (tagOf b) S with
    | some L => (match cstF F L S with
      | some F' => backK E.pin F' L.K (it L.K.V (fun v kn => runI its it E b F' false (stF L.K F' v) (fun st' S' => bif st' then none else backK E.pin F' L.K kn S') kx)) S
      | none => none)
    | none => none)
  | _, _, _, _, _, _ => none
def QI (its : List T) (items : List (argD its)) (p : List Nat) (g0 : Nat → Nat) (F : Fix) (kn : Bool → IS → Option (List (argD its))) (kx : Option Nat → Bool → IS → Option (List (argD its))) : Nat → Bool → Exit → St → Prop := fun k st e T => ∃ h S l, T = S.toSt h ∧ Inv p g0 F h S ∧ (st = false → l = items.drop k) ∧ k ≤ items.length ∧ match e with
  | .normal => kn st S = some l
  | .exit i => kx (some i) st S = some l
  | .ret => kx none st S = some l
  | _ => False
theorem WI_mono {En : Env} {c : Code} {Q Q' : Nat → Bool → Exit → St → Prop} {k : Nat} {s : Bool} {S : St} (h : WI En c Q k s S) (hq : ∀ k s e S, Q k s e S → Q' k s e S) : WI En c Q' k s S := fun U κ sv a W hs => by
  refine wpIn_mono (h U κ sv a W hs) ?_
  rintro e a' W' ⟨k', s', U', κ', sv', S', h1, h2⟩
  exact ⟨k', s', U', κ', sv', S', h1, hq _ _ _ _ h2⟩
theorem consM_some {α : Type} {a : α} {r1 r2 : Option (List α)} {l : List α} (h : consM a r1 r2 = some l) : r1 = some [] ∧ ∃ m, r2 = some m ∧ l = a :: m := by
  unfold consM at h
  split at h
  · split at h
    · simp only [Option.some.injEq] at h; exact ⟨rfl, _, rfl, h.symm⟩
    · cases h
  · cases h
theorem drop_own (S : IS) : ∀ (ps : List Nat) (s : Nat), (dropI S ps).own s = bif memN s ps then .none else S.own s
  | [], s => rfl
  | p :: ps, s => by
    show look IOwn.none ((p, .none) :: (ps.map (fun p => (p, IOwn.none)) ++ S.os)) s = _
    simp only [look, memN]
    cases Nat.beq s p with
    | true => rfl
    | false => exact drop_own S ps s
theorem drop_toSt (S : IS) (h : Nat → Nat) (ps : List Nat) : (dropI S ps).toSt h = (S.toSt h).drop ps := by
  unfold IS.toSt St.drop
  congr 1
  funext s
  rw [drop_own]
  cases memN s ps <;> rfl
theorem fzOk_mem {F : Fix} : ∀ {l : List Nat}, fzOk F l = true → ∀ p ∈ l, memN p (keys F.pl) = false
  | q :: l, h, p, hp => by
    simp only [fzOk, Bool.and_eq_true, Bool.not_eq_true'] at h
    rcases List.mem_cons.1 hp with rfl | hp
    · exact h.1.1
    · exact fzOk_mem h.2 p hp
theorem Inv.drop {p : List Nat} {g0 : Nat → Nat} {F : Fix} {h : Nat → Nat} {S : IS} (hi : Inv p g0 F h S) {ps : List Nat} (hp : fzOk F ps = true) : Inv p g0 F h (dropI S ps) := by
  refine ⟨hi.1, hi.2.1, fun q hq => ?_⟩
  rw [drop_own]
  cases hm : memN q.1 ps with
  | false => exact hi.2.2 q hq
  | true =>
    have h1 := fzOk_mem hp q.1 (memN_iff.1 hm)
    rw [memN_iff.2 (keys_mem hq)] at h1; cases h1
theorem scI_any {h : Nat → Nat} {d : I} (hs : scI d = true) : ∀ (κ : Nat → Nat → Option Value) (γ : Nat → Nat) (sv : Nat → Value) (v : Value), Rep κ γ sv (d.toD h) v → ∀ (κ' : Nat → Nat → Option Value) (γ' : Nat → Nat) (sv' : Nat → Value), Rep κ' γ' sv' (d.toD h) v := by
  intro κ γ sv v hr κ' γ' sv'
  cases d with
  | int k n => cases hr; exact .int _ _
  | bool b => cases hr; exact .bool _
  | str b => cases hr; exact .str _
  | nil => cases hr; exact .nil
  | agg l =>
    have hsc : scL [.agg l] = true := by
      show (scC l && true) = true
      rw [show scC l = true from hs]; rfl
    obtain ⟨vs, hvs⟩ := scL_ok (h := h) hsc
    have e1 : scal2 ((I.agg l).toD h) = some (vs.headD Go.undef) := by
      simp only [I.toDL, scalL2] at hvs
      cases hq : scal2 ((I.agg l).toD h) with
      | none => rw [hq] at hvs; cases hvs
      | some u => rw [hq] at hvs; simp at hvs; subst hvs; rfl
    rw [scal2_eq e1 hr]; exact scal2_rep e1
  | _ => cases hs
theorem scT_row {t : T} (ht : scTy t = true) (x : den t) : ∃ vs, scalL (encD t x) = some vs := by
  cases t <;> first | (cases ht; done) | exact ⟨_, rfl⟩
theorem give1_ok {S : IS} {h : Nat → Nat} {t : T} {d : I} {x : den t} {p1 ps : List Nat} (hg : give1 S t d = some (x, p1)) (hp : ∀ p ∈ p1, p ∈ ps) : Giv (S.toSt h) ps (d.toD h) ((encV t x).toD zh) := by
  unfold give1 at hg
  split at hg
  · rename_i t' s g
    split at hg
    · rename_i E t2 l hσ
      cases hb : Nat.beq g (S.gen s) && scTy t' with
      | false => rw [hb] at hg; cases hg
      | true =>
        rw [hb] at hg
        simp only [cond_true] at hg
        simp only [Bool.and_eq_true] at hb
        split at hg
        · rename_i l' hl
          simp only [Option.some.injEq, Prod.mk.injEq] at hg
          obtain ⟨rfl, rfl⟩ := hg
          have e1 := Nat.eq_of_beq_eq_true hb.1
          subst e1
          have e2 := asL_eq hl
          simp only [I.sl.injEq] at e2
          obtain ⟨rfl, e2⟩ := e2
          have e2 := eq_of_heq e2
          subst e2
          exact .os s _ E (sz t2) l.length (fun i => encD t2 (l.getD i (dflt t2))) rfl (by show (S.own s).toOwn h = _; rw [hσ]; rfl) (hp s (List.mem_cons_self ..)) (fun i _ => scT_row hb.2 _)
        · cases hg
    · cases hg
  · cases hs : scI d with
    | false => rw [hs] at hg; cases hg
    | true =>
      rw [hs] at hg
      simp only [cond_true] at hg
      split at hg
      · rename_i y hy
        simp only [Option.some.injEq, Prod.mk.injEq] at hg
        obtain ⟨rfl, rfl⟩ := hg
        exact .conv _ _ fun κ γ sv v hr κ' γ' sv' => decV_rep hy (scI_any hs κ γ sv v hr κ' γ' sv')
      · cases hg
theorem giveL_ok {S : IS} {h : Nat → Nat} {ps : List Nat} : ∀ {ts : List T} {ds : List I} {x : argD ts} {p1 : List Nat}, giveL S ts ds = some (x, p1) → (∀ p ∈ p1, p ∈ ps) → GivL (S.toSt h) ps (I.toDL h ds) (I.toDL zh (encA ts x))
  | [], [], x, p1, hg, hp => .nil
  | [], _ :: _, x, p1, hg, hp => by cases hg
  | _ :: _, [], x, p1, hg, hp => by cases hg
  | t :: ts, d :: ds, x, p1, hg, hp => by
    unfold giveL at hg
    split at hg
    · rename_i a ha
      obtain ⟨a1, a2⟩ := a
      split at hg
      · rename_i b hb
        obtain ⟨b1, b2⟩ := b
        simp only [Option.some.injEq, Prod.mk.injEq] at hg
        obtain ⟨rfl, rfl⟩ := hg
        exact .cons _ _ _ _ (give1_ok ha (fun p hq => hp p (List.mem_append_left _ hq))) (giveL_ok hb (fun p hq => hp p (List.mem_append_right _ hq)))
      · cases hg
    · cases hg
variable {En : Env} {items : List (argD its)}
structure AtI (En : Env) (Z : ISeat) (nt : Nat) (items : List (argD its)) : Prop where
  Z : En.Z = Z.toSeat
  nt : En.nt = nt
  n : En.n = items.length
  vals : ∀ (i : Nat) (a : argD its), items[i]? = some a → En.its i = I.toDL zh (encA its a)
theorem AtI.at' {nt : Nat} (h : AtI En Z nt items) (k : Nat) (s : Bool) (U : Nat → Prop) : At (En.X k s U) Z nt := At.pl h.Z h.nt (fun _ => rfl)
theorem runLI_ok {E : CEnv Z} {g0 : Nat → Nat} (hX : AtI En Z E.nt items) (hYL : YL ∈ E.pin) (hg0 : g0 YL = En.l) {F : Fix} (hF : okF F = true) {ops : Array Oper} {kn : Bool → IS → Option (List (argD its))} {kx : Option Nat → Bool → IS → Option (List (argD its))} :
    ∀ (l : List Oper) (k : Nat) (st : Bool) (S : IS) (h : Nat → Nat) (r : List (argD its)), Inv E.pin g0 F h S → runLI its E F ops l st S kn = some r → (st = false → r = items.drop k) → k ≤ items.length → WIL En ops l (QI its items E.pin g0 F kn kx) k st (S.toSt h)
  | [], k, st, S, h, r, hi, hr, hd, hk => WIL_of fun U => WL_nil ⟨h, S, r, rfl, hi, hd, hk, hr⟩
  | o :: rest, k, st, S, h, r, hi, hr, hd, hk => by
    unfold runLI at hr
    split at hr
    · rename_i xs t hy
      cases st with
      | true => cases hr
      | false =>
        simp only [cond_false] at hr
        split at hr
        · rename_i a ps ha
          obtain ⟨hc, hr⟩ := chk_some hr
          simp only [Bool.and_eq_true, Bool.not_eq_true'] at hc
          obtain ⟨r1, m, r2, rfl⟩ := consM_some hr
          have hdk := hd rfl
          have hlt : k < items.length := by
            have h1 : (items.drop k).length = (a :: m).length := by rw [← hdk]
            simp at h1; omega
          have hak : items[k]? = some a := by
            have h1 : (items.drop k)[0]? = some a := by rw [← hdk]; rfl
            simpa using h1
          have hmk : m = items.drop (k + 1) := by
            have h1 : (items.drop k).tail = m := by rw [← hdk]; rfl
            rw [← h1]; simp
          unfold yieldOf at hy
          split at hy
          · rename_i x xs' ts t' ho hd' hg
            split at hy
            · rename_i ly hly
              cases hb : Nat.beq ly YL && Nat.beq (S.gen ly) 0 with
              | false => rw [hb] at hy; cases hy
              | true =>
                rw [hb] at hy
                simp only [Bool.and_eq_true] at hb
                have ely := Nat.eq_of_beq_eq_true hb.1
                have eg := Nat.eq_of_beq_eq_true hb.2
                simp only [cond_true, Option.some.injEq, Prod.mk.injEq] at hy
                obtain ⟨rfl, rfl⟩ := hy
                have hev : ∀ y, (S.toSt h).ev (En.X k false fun _ => False) y = (S.ev Z E.nt y).toD h := fun y => ev_toSt (hX.at' k false _) y
                have hmap : xs'.toList.map ((S.toSt h).ev (En.X k false fun _ => False)) = I.toDL h (xs'.toList.map (S.ev Z E.nt)) := by
                  rw [toDL_map, List.map_map]
                  exact List.map_congr_left fun y _ => hev y
                have hT := runLI_ok hX hYL hg0 hF (kx := kx) rest (k + 1) false ((dropI S ps).set t' (.bool true)) h m ((hi.drop hc.1).set hc.2 _) r2 (fun _ => hmk) (by omega)
                have hFl := runLI_ok hX hYL hg0 hF (kx := kx) rest (k + 1) true ((dropI S ps).set t' (.bool false)) h [] ((hi.drop hc.1).set hc.2 _) r1 (fun h => by cases h) (by omega)
                rw [toSt_set, drop_toSt] at hT hFl
                have hyl : (S.toSt h).ev (En.X k false fun _ => False) (.tmp x) = .yl En.l := by
                  rw [hev, hly]
                  have h3 := hi.1 YL hYL
                  rw [ely] at eg
                  rw [eg, Nat.add_zero, hg0] at h3
                  show D.yl (h ly) = _
                  rw [ely, h3]
                exact WIL_yield (ps := ps) ho hg hd' hyl hmap (by rw [hX.vals k a hak]; exact giveL_ok ha (fun p hp => hp)) (by rw [hX.n]; exact hlt) hT hFl
            · cases hy
          · cases hy
        · cases hr
    · refine WIL_part [o] rest fun U => ?_
      exact runL_ok (hX.at' k st U) hF (fun h S' hi' hr' => ⟨rfl, runLI_ok hX hYL hg0 hF rest k st S' h r hi' hr' hd hk⟩) [o] S h hi hr
theorem WI_condT {c : Operand} {x y : Code} {Q : Nat → Bool → Exit → St → Prop} {k : Nat} {s : Bool} {S : St} (hc : S.ev (En.X k s fun _ => False) c = .bool true) (h : WI En x Q k s S) : WI En (.cond c x y) Q k s S := fun U κ sv a W hs => by
  have h1 := hs.ev c
  have hc' : S.ev (En.X k s U) c = .bool true := hc
  rw [hc'] at h1
  have : a.eval c = .bool true := by generalize a.eval c = v at h1; cases h1; rfl
  exact wpIn_cond_true this (h U κ sv a W hs)
theorem WI_condF {c : Operand} {x y : Code} {Q : Nat → Bool → Exit → St → Prop} {k : Nat} {s : Bool} {S : St} (hc : S.ev (En.X k s fun _ => False) c = .bool false) (h : WI En y Q k s S) : WI En (.cond c x y) Q k s S := fun U κ sv a W hs => by
  have h1 := hs.ev c
  have hc' : S.ev (En.X k s U) c = .bool false := hc
  rw [hc'] at h1
  have : a.eval c = .bool false := by generalize a.eval c = v at h1; cases h1; rfl
  exact wpIn_cond_false this (h U κ sv a W hs)
theorem runI_ok {E : FEnv Z} {g0 : Nat → Nat} (hX : AtI En Z E.nt items) (hYL : YL ∈ E.pin) (hg0 : g0 YL = En.l) : ∀ (c : Code) (F : Fix), okF F = true → ∀ (k : Nat) (st : Bool) (S : IS) (kn : Bool → IS → Option (List (argD its))) (kx : Option Nat → Bool → IS → Option (List (argD its))) (h : Nat → Nat) (r : List (argD its)),
    Inv E.pin g0 F h S → runI its itN E c F st S kn kx = some r → (st = false → r = items.drop k) → k ≤ items.length → WI En c (QI its items E.pin g0 F kn kx) k st (S.toSt h)
  | .skip, F, hF, k, st, S, kn, kx, h, r, hi, hr, hd, hk => WI_skip ⟨h, S, r, rfl, hi, hd, hk, hr⟩
  | .region id ops draw, F, hF, k, st, S, kn, kx, h, r, hi, hr, hd, hk => by
    have e : ops = ops.toList.toArray := by simp
    cases draw with
    | false =>
      rw [e]
      refine WI_region ?_
      rw [← e]
      exact runLI_ok hX hYL hg0 hF _ k st S h r hi hr hd hk
    | true =>
      refine WI_ofR fun U => W_post (Q' := fun e T => ∃ h S', T = S'.toSt h ∧ Inv E.pin g0 F h S' ∧ e = .normal ∧ settle F (kn st) S' = some r) ?_ ?_
      · rw [e]
        refine W_regionG ?_
        rw [← e]
        exact runG_ok (hX.at' k st U) (fun h S' hi hk => ⟨h, S', rfl, hi, rfl, hk⟩) _ S _ _ _ h hi hr
      · rintro e T ⟨h1, S1, rfl, hi1, rfl, hk1⟩
        obtain ⟨S2, h2, h3, h4⟩ := settleL_ok (h := h1) hk1
        exact ⟨_, h3 _ (fun p h => nomatch (show false = true from h)), h1, S2, r, rfl, h4 _ _ hi1, hd, hk, h2⟩
  | .seq a b, F, hF, k, st, S, kn, kx, h, r, hi, hr, hd, hk => by
    refine WI_seq (WI_mono (runI_ok hX hYL hg0 a F hF k st S _ kx h r hi hr hd hk) ?_)
    rintro k' st' e T ⟨h', S', r', rfl, hi', hd', hk', hq⟩
    cases e with
    | normal => exact runI_ok hX hYL hg0 b F hF k' st' S' kn kx h' r' hi' hq hd' hk'
    | exit i => exact ⟨h', S', r', rfl, hi', hd', hk', hq⟩
    | ret => exact ⟨h', S', r', rfl, hi', hd', hk', hq⟩
    | _ => exact hq.elim
  | .cond c a b, F, hF, k, st, S, kn, kx, h, r, hi, hr, hd, hk => by
    simp only [runI] at hr
    split at hr
    · rename_i v hv
      have hev : (S.toSt h).ev (En.X k st fun _ => False) c = .bool v := by rw [ev_toSt (hX.at' k st _), hv]; rfl
      cases v with
      | true => exact WI_condT hev (runI_ok hX hYL hg0 a F hF k st S kn kx h r hi hr hd hk)
      | false => exact WI_condF hev (runI_ok hX hYL hg0 b F hF k st S kn kx h r hi hr hd hk)
    · cases hr
  | .block id b, F, hF, k, st, S, kn, kx, h, r, hi, hr, hd, hk => by
    refine WI_block (WI_mono (runI_ok hX hYL hg0 b F hF k st S kn (inBI its id kn kx) h r hi hr hd hk) ?_)
    rintro k' st' e T ⟨h', S', r', rfl, hi', hd', hk', hq⟩
    cases e with
    | normal => exact ⟨h', S', r', rfl, hi', hd', hk', hq⟩
    | exit i =>
      simp only [blockI]
      simp only [inBI] at hq
      cases hb : Nat.beq i id with
      | true => rw [hb] at hq; exact ⟨h', S', r', rfl, hi', hd', hk', hq⟩
      | false => rw [hb] at hq; exact ⟨h', S', r', rfl, hi', hd', hk', hq⟩
    | ret => exact ⟨h', S', r', rfl, hi', hd', hk', hq⟩
    | _ => exact hq.elim
  | .exit id, F, hF, k, st, S, kn, kx, h, r, hi, hr, hd, hk => WI_exit ⟨h, S, r, rfl, hi, hd, hk, hr⟩
  | .ret, F, hF, k, st, S, kn, kx, h, r, hi, hr, hd, hk => WI_ret ⟨h, S, r, rfl, hi, hd, hk, hr⟩
  | .loop b, F, hF, k, st, S, kn, kx, h, r, hi, hr, hd, hk => by
    simp only [runI] at hr
    cases st with
    | true => cases hr
    | false =>
      simp only [cond_false] at hr
      split at hr
      · rename_i L hL
        split at hr
        · rename_i F' hF'
          obtain ⟨hok, hcs, hsub⟩ := cstF_ok hF hi hF'
          obtain ⟨v, h', hr, hw, hi'⟩ := backK_okA (X0 := En.X 0 false fun _ => False) (fun p h => nomatch (show false = true from h)) hok ⟨hi.1, hcs⟩ hr
          refine WI_loop (fun x : Nat × (Nat → Nat) × L.K.V × Nat => (x.1, false, (stF L.K F' x.2.2.1).toSt x.2.1))
            (fun x => Inv E.pin g0 F' x.2.1 (stF L.K F' x.2.2.1) ∧ x.1 ≤ items.length ∧ iter (fun v kn' => runI its itN E b F' false (stF L.K F' v) (fun st' S' => bif st' then none else backK E.pin F' L.K kn' S') kx) x.2.2.2 x.2.2.1 = some (items.drop x.1))
            (fun x => x.2.2.2) (k, h', v, FUEL) ⟨hi', hk, by rw [← hd rfl]; exact hr⟩ ⟨rfl, rfl, fun U => hw _ (fun p h => nomatch (show false = true from h))⟩ ?_
          rintro ⟨k1, h1, v1, m⟩ ⟨hi1, hk1, hm⟩
          simp only at hi1 hk1 hm ⊢
          cases m with
          | zero => cases hm
          | succ m =>
            refine WI_mono (runI_ok hX hYL hg0 b F' hok k1 false _ _ kx h1 _ hi1 hm (fun _ => rfl) hk1) ?_
            rintro k2 st2 e T ⟨h2, S2, r2, rfl, hi2, hd2, hk2, hq⟩
            cases e with
            | normal =>
              cases st2 with
              | true => cases hq
              | false =>
                obtain ⟨v3, h3, hq, hw3, hi3⟩ := backK_okA (X0 := En.X 0 false fun _ => False) (fun p h => nomatch (show false = true from h)) hok hi2 hq
                refine ⟨(k2, h3, v3, m), ⟨hi3, hk2, ?_⟩, Nat.lt_succ_self m, rfl, rfl, fun U => hw3 _ (fun p h => nomatch (show false = true from h))⟩
                rw [← hd2 rfl]; exact hq
            | _ => exact ⟨h2, S2, r2, rfl, ⟨hi2.1, hsub S2 hi2.2⟩, hd2, hk2, hq⟩
        · cases hr
      · cases hr
  | .rangeFunc _ _ _ _, _, _, _, _, _, _, _, _, _, _, hr, _, _ => by cases hr
  | .scope _, _, _, _, _, _, _, _, _, _, _, hr, _, _ => by cases hr
  | .label _, _, _, _, _, _, _, _, _, _, _, hr, _, _ => by cases hr
  | .goto _, _, _, _, _, _, _, _, _, _, _, hr, _, _ => by cases hr
  | .refuse _, _, _, _, _, _, _, _, _, _, _, hr, _, _ => by cases hr
end
end
end Go.Ab
namespace Go.Ab
open Go Go.RowKit
noncomputable section
set_option linter.all false
set_option maxHeartbeats 1000000
section
variable {Z : ISeat} {its : List T}
def hY (l : Nat) : Nat → Nat := fun s => bif Nat.beq s YL then l else 0
theorem toSt_initY (h : Nat → Nat) (A : List I) : ((initS A).toSt h).ρ = (St.init (I.toDL h A)).ρ := by
  unfold IS.toSt St.init initS
  funext i
  exact look_enum h A 0 i (Nat.zero_le _)
def fnRunI (its : List T) (it : It (List (argD its))) (E : FEnv Z) (c : Code) (A : List I) : Option (List (argD its)) :=
  runI its it E c ⟨[], []⟩ false (initS (.yl YL :: A)) (fun _ _ => some []) (fun e _ _ => match e with | none => some [] | some _ => none)
theorem it_contract {cts : List T} {E : FEnv Z} {f : FuncId} {fn : Func} {c : Code} (hf : Z.P.funcs[f]? = some fn) (hb : fn.body = some c) (hname : (fn.name == "runtime.NumGoroutine") = false) (hn : Nat.beq fn.ntmps E.nt = true) (hl : Nat.ble (cts.length + 1) fn.ntmps = true) (hp : E.pin = [YL]) (hres : fn.results = #[])
    {a : argD cts} {items : List (argD its)} (hr : fnRunI its itN E c (encA cts a) = some items) (h : Nat → Nat) :
    ItC Z.toSeat f (I.toDL h (encA cts a)) items.length (itD its items) := by
  refine itC_intro hf hb hname (by rw [toDL_len, encA_len]; exact hl) (encA_pure _ _ _) (fun k hk => ?_) hres fun En e1 e2 e3 e4 => ?_
  · unfold itD
    rw [List.getElem?_eq_getElem hk]
    exact encA_pure _ _ _
  have hX : AtI En Z E.nt items := ⟨e1, e2.trans (Nat.eq_of_beq_eq_true hn), e3, fun i x hx => by
    rw [e4]; unfold itD; rw [hx]⟩
  have h0 : hY En.l YL = En.l := by simp [hY]
  refine WI_wk (S' := (initS (.yl YL :: encA cts a)).toSt (hY En.l)) (fun U κ sv aa W hs => ⟨κ, sv, sim_gen (fun i => .inr ?_) (fun s => Nat.zero_le _) (fun s => .inl rfl) hs⟩) ?_
  · rw [toSt_initY]
    show _ = (St.init (.yl En.l :: I.toDL h (encA cts a))).ρ i
    rw [encA_h' h (hY En.l)]
    show (St.init (.yl (hY En.l YL) :: I.toDL (hY En.l) (encA cts a))).ρ i = _
    rw [h0]
  · refine WI_mono (runI_ok hX (by rw [hp]; simp) (g0 := fun _ => En.l) rfl c ⟨[], []⟩ rfl 0 false _ _ _ (hY En.l) items ⟨fun g hg => ?_, ⟨(fun p hp => (nomatch hp)), (fun p hp => (nomatch hp))⟩⟩ hr (fun _ => rfl) (Nat.zero_le _)) ?_
    · rw [hp] at hg
      simp only [List.mem_singleton] at hg
      subst hg
      exact h0
    · rintro k s e T ⟨h2, S2, l, rfl, hi, hd, hk, hq⟩
      have fin : some ([] : List (argD its)) = some l → (s = false → k = items.length) := fun e hs => by
        simp only [Option.some.injEq] at e
        have h3 := hd hs
        rw [← e] at h3
        have h4 : (items.drop k).length = 0 := by rw [← h3]; rfl
        simp at h4; omega
      cases e with
      | normal => exact ⟨.inl rfl, fin hq, hk⟩
      | ret => exact ⟨.inr rfl, fin hq, hk⟩
      | exit i => cases hq
      | _ => exact hq.elim
def allPtr : List T → Bool
  | [] => true
  | .ptr _ :: l => allPtr l
  | _ => false
theorem decA_ptr : ∀ {cts : List T} {ds : List I} {a : argD cts}, allPtr cts = true → decA cts ds = some a → ds = encA cts a
  | [], [], a, _, _ => rfl
  | [], _ :: _, a, _, h => by cases h
  | .ptr t :: ts, [], a, _, h => by cases h
  | .ptr t :: ts, d :: ds, a, hp, h => by
    simp only [decA] at h
    split at h
    · rename_i y hy
      split at h
      · rename_i z hz
        simp only [Option.some.injEq] at h
        subst h
        have h1 := tP_ok (enc := encC t) (fun h => decC_ok t h) (show tP (decC t) [d] = some y from hy)
        simp only [List.cons.injEq, and_true] at h1
        simp only [encA]
        rw [← decA_ptr (cts := ts) hp hz, h1]
        rfl
      · cases h
    · cases h
def mkItSpec (Z : Seat) (f : FuncId) (cts its : List T) (hp : allPtr cts = true) (F : argD cts → Option (List (argD its)))
    (hF : ∀ a items, F a = some items → ∀ h, ItC Z f (I.toDL h (encA cts a)) items.length (itD its items)) : ItSpec Z where
  f := f
  its := its
  app := fun cap k => match decA cts cap with | some a => (F a).bind k | none => none
  ok := fun cap k r h => by
    split at h
    · rename_i a ha
      cases hx : F a with
      | none => rw [hx] at h; cases h
      | some items =>
        rw [hx] at h
        refine ⟨items, h, fun h => ?_⟩
        rw [decA_ptr hp ha]
        exact hF a items hx h
    · cases h
end
end
end Go.Ab
namespace Go.Ab
open Go Go.RowKit
noncomputable section
set_option linter.all false
set_option maxHeartbeats 1000000
theorem overP_one {α : Type} {y : α} : ∀ {l k : List α} {j : Nat}, overP l j [y] = some k → k = l.take j ++ y :: l.drop (j + 1) ∧ j < l.length
  | [], k, 0, h => by simp [overP] at h
  | x :: l, k, 0, h => by
    simp only [overP] at h
    cases l <;> (simp [overP] at h; subst h; simp)
  | [], k, j + 1, h => by simp [overP] at h
  | x :: l, k, j + 1, h => by
    simp only [overP] at h
    cases e : overP l j [y] with
    | none => rw [e] at h; simp at h
    | some k' =>
      rw [e] at h
      simp only [Option.some.injEq] at h
      subst h
      obtain ⟨h1, h2⟩ := overP_one e
      subst h1
      exact ⟨by simp, by simpa using h2⟩
theorem renIL_map (p g : Nat) : ∀ l : List I, renIL p g l = l.map (renI p g)
  | [] => rfl
  | d :: l => by simp only [renIL, List.map_cons, renIL_map p g l]
theorem renIL_enc (p g : Nat) : ∀ (t : T) (x : den t), renIL p g (encC t x) = encC t x := by intro t x; cases t <;> rfl
theorem renI_enc (p g : Nat) (t : T) (x : den t) : ∀ d ∈ encC t x, renI p g d = d := by
  have h := renIL_enc p g t x
  rw [renIL_map] at h
  generalize encC t x = l at h ⊢
  induction l with
  | nil => intro d hd; cases hd
  | cons a l ih =>
    simp only [List.map_cons, List.cons.injEq] at h
    intro d hd
    rcases List.mem_cons.1 hd with rfl | hd
    · exact h.1
    · exact ih h.2 d hd
def wrapC (rt : T) (c : List I) : I := bif isSt rt then .agg c else (match c with | [d] => d | _ => .undef)
def tmplO (rt : T) (j : Nat) (et : T) (x : den rt) : Option (List (den et) × I) := match nth (encC rt x) j with
  | some (.sl e l) => (match asL et e l with
    | some l => (match overP (encC rt x) j [.os 0 1] with | some c => some (l, wrapC rt c) | none => none)
    | none => none)
  | _ => none
section
variable {X : Ctx} {Z : ISeat}
def unwrap (rt : T) (d : I) : Option (List I) := bif isSt rt then (match d with | .agg c => some c | _ => none) else some [d]
theorem unwrap_ok {rt : T} {d : I} {c : List I} (h : unwrap rt d = some c) : wrapC rt c = d := by
  unfold unwrap at h
  unfold wrapC
  cases hi : isSt rt with
  | true =>
    rw [hi] at h
    simp only [cond_true] at h ⊢
    split at h
    · simp only [Option.some.injEq] at h; subst h; rfl
    · cases h
  | false =>
    rw [hi] at h
    simp only [cond_false, Option.some.injEq] at h ⊢
    subst h; rfl
theorem wrapC_ren {rt : T} {j : Nat} {x : den rt} {k : List I} (hk : overP (encC rt x) j [.os 0 1] = some k) (p g : Nat) (h h' : Nat → Nat) : renO p g ((wrapC rt k).toD h) = renO p g ((wrapC rt k).toD h') := by
  have hm : ∀ y ∈ k, renO p g (y.toD h) = renO p g (y.toD h') := fun y hy => by
    have he : ∀ y ∈ encC rt x, y.toD h = y.toD h' := fun y hy => by
      have h1 : (encC rt x).map (I.toD h) = (encC rt x).map (I.toD h') := by rw [← toDL_map, ← toDL_map, toDL_enc, toDL_enc]
      exact List.map_inj_left.1 h1 y hy
    rw [(overP_one hk).1] at hy
    rcases List.mem_append.1 hy with hy | hy
    · rw [he y (List.mem_of_mem_take hy)]
    · rcases List.mem_cons.1 hy with rfl | hy
      · rfl
      · rw [he y (List.mem_of_mem_drop hy)]
  have hl : renL p g (I.toDL h k) = renL p g (I.toDL h' k) := by
    clear hk
    induction k with
    | nil => rfl
    | cons d k ih => simp only [I.toDL, renL, hm d (List.mem_cons_self ..), ih fun y hy => hm y (List.mem_cons_of_mem _ hy)]
  unfold wrapC
  cases isSt rt with
  | true => simp only [cond_true, I.toD, renO, hl]
  | false =>
    simp only [cond_false]
    split
    · rename_i d; exact hm d (List.mem_cons_self ..)
    · rfl
def finKO (Z : ISeat) (nt : Nat) (rv : List ResultVar) (rt : T) (j E : Nat) (et : T) (S : IS) : Option (den rt) := match resIL Z nt S rv with
  | some [d] => (match unwrap rt d with
    | some c => (match nth c j with
      | some (.os s g) => live S s g (match S.own s with
        | .arr E' e l => bif Nat.beq E' E then (match asL et e l with
          | some m => (match overP c j [.sl et m] with
            | some row => bif noNil row then decC rt row else none
            | none => none)
          | none => none) else none
        | _ => none)
      | _ => none)
    | none => none)
  | _ => none
theorem finKO_ok {nt : Nat} (hX : At X Z nt) {rv : List ResultVar} {rt : T} {j E : Nat} {et : T} {S : IS} {x : den rt} {h h' : Nat → Nat} (hr : finKO Z nt rv rt j E et S = some x) :
    ∃ l d, tmplO rt j et x = some (l, d) ∧ ∃ s g, (S.toSt h).γ s = g ∧ (S.toSt h).σ s = .arr E (sz et) l.length (fun i => encD et (l.getD i (dflt et))) ∧ ∃ ds, ResL X (S.toSt h) rv ds ∧ tupOf ds = renO s g (d.toD h') := by
  unfold finKO at hr
  split at hr
  · rename_i d hd
    split at hr
    · rename_i c hc
      split at hr
      · rename_i s g hj
        replace hr := live_ok hr
        obtain ⟨rfl, hr⟩ := hr
        split at hr
        · rename_i E' e l hσ
          cases hE : Nat.beq E' E with
          | false => rw [hE] at hr; cases hr
          | true =>
            rw [hE] at hr
            have hE := Nat.eq_of_beq_eq_true hE
            subst hE
            simp only [cond_true] at hr
            split at hr
            · rename_i m hm
              split at hr
              · rename_i row hrow
                cases hn : noNil row with
                | false => rw [hn] at hr; cases hr
                | true =>
                  rw [hn] at hr
                  simp only [cond_true] at hr
                  have hrx := noNil_eq (decC_ok rt hr) hn
                  obtain ⟨h1, h2⟩ := overP_one hrow
                  have hσ' : S.own s = .arr E' et m := by
                    rw [hσ]
                    unfold asL at hm
                    split at hm
                    · rename_i e'; subst e'; simp only [Option.some.injEq] at hm; subst hm; rfl
                    · cases hm
                  have hlen : (c.take j).length = j := by simp; omega
                  have hnr : nth (encC rt x) j = some (.sl et m) := by
                    rw [← hrx, h1, nth_eq, List.getElem?_append_right (by omega), hlen]; simp
                  have ht : (encC rt x).take j = c.take j := by rw [← hrx, h1]; exact List.take_left' hlen
                  have hdr : (encC rt x).drop (j + 1) = c.drop (j + 1) := by
                    have h5 : (c.take j ++ I.sl et m :: c.drop (j + 1)).drop j = I.sl et m :: c.drop (j + 1) := List.drop_left' hlen
                    rw [← hrx, h1, ← List.drop_drop, h5]; rfl
                  have hcj : c = c.take j ++ I.os s (S.gen s) :: c.drop (j + 1) := by
                    rw [nth_eq] at hj
                    have h3 : c[j] = I.os s (S.gen s) := by simpa [List.getElem?_eq_getElem h2] using hj
                    rw [← h3, List.getElem_cons_drop, List.take_append_drop]
                  obtain ⟨k, hk⟩ : ∃ k, overP (encC rt x) j [.os 0 1] = some k := by
                    have key : ∀ (l : List I) (j : Nat), j < l.length → ∃ k, overP l j [I.os 0 1] = some k := by
                      intro l
                      induction l with
                      | nil => intro j h; simp at h
                      | cons a l ih =>
                        intro j h
                        cases j with
                        | zero => cases l <;> exact ⟨_, rfl⟩
                        | succ j =>
                          obtain ⟨k, hk⟩ := ih j (by simpa using h)
                          exact ⟨a :: k, by simp only [overP, hk]⟩
                    refine key _ j ?_
                    rw [← hrx, h1]; simp; omega
                  obtain ⟨h4, _⟩ := overP_one hk
                  refine ⟨m, wrapC rt k, ?_, s, h s + S.gen s, rfl, ?_, [d.toD h], ?_, ?_⟩
                  · unfold tmplO
                    rw [hnr]
                    have : asL et et m = some m := by simp [asL]
                    simp only [this, hk]
                  · show (S.own s).toOwn h = _
                    rw [hσ']; rfl
                  · exact resIL_ok hX hd
                  · show d.toD h = _
                    rw [wrapC_ren hk _ _ h' h, ← renI_toD]
                    congr 1
                    have hkr : renIL s (S.gen s) k = c := by
                      rw [renIL_map, h4, List.map_append, List.map_cons, ht, hdr]
                      have e1 : (c.take j).map (renI s (S.gen s)) = c.take j := by
                        refine (List.map_congr_left fun y hy => ?_).trans (List.map_id _)
                        rw [← ht] at hy
                        exact renI_enc _ _ rt x y (List.mem_of_mem_take hy)
                      have e2 : (c.drop (j + 1)).map (renI s (S.gen s)) = c.drop (j + 1) := by
                        refine (List.map_congr_left fun y hy => ?_).trans (List.map_id _)
                        rw [← hdr] at hy
                        exact renI_enc _ _ rt x y (List.mem_of_mem_drop hy)
                      rw [e1, e2]
                      exact hcj.symm
                    have hu := unwrap_ok hc
                    unfold wrapC at hu ⊢
                    cases hi : isSt rt with
                    | true =>
                      rw [hi] at hu
                      simp only [cond_true] at hu ⊢
                      rw [← hu, renI, hkr]
                    | false =>
                      rw [hi] at hu
                      simp only [cond_false] at hu ⊢
                      rw [← hkr] at hu
                      match k, hu with
                      | [], hu => rw [← hu]; rfl
                      | [a], hu => rw [← hu]; rfl
                      | _ :: _ :: _, hu => rw [← hu]; rfl
              · cases hr
            · cases hr
        · cases hr
      · cases hr
    · cases hr
  · cases hr
theorem wrapC_po {rt : T} {j : Nat} {x : den rt} {k : List I} (hk : overP (encC rt x) j [.os 0 1] = some k) (h : Nat → Nat) : PO ((wrapC rt k).toD h) := by
  obtain ⟨h4, _⟩ := overP_one hk
  have hp : ∀ d ∈ k, PO (d.toD h) := fun d hd => by
    have hpure : ∀ y ∈ encC rt x, Pure (y.toD h) := fun y hy => by
      have := encD_pure rt x
      rw [← toDL_enc h] at this
      refine this _ ?_
      rw [toDL_map]
      exact List.mem_map_of_mem hy
    rw [h4] at hd
    rcases List.mem_append.1 hd with hd | hd
    · exact .pure _ (hpure d (List.mem_of_mem_take hd))
    · rcases List.mem_cons.1 hd with rfl | hd
      · exact .os _ _
      · exact .pure _ (hpure d (List.mem_of_mem_drop hd))
  have hpl : POL (I.toDL h k) := by
    clear h4 hk
    induction k with
    | nil => exact .nil
    | cons d k ih => exact .cons _ _ (hp d (List.mem_cons_self ..)) (ih fun y hy => hp y (List.mem_cons_of_mem _ hy))
  unfold wrapC
  cases isSt rt with
  | true => exact .agg _ hpl
  | false =>
    simp only [cond_false]
    split
    · rename_i d; exact hp d (List.mem_cons_self ..)
    · exact .pure _ .undef
def fnRunO (rt : T) (j Et : Nat) (et : T) (it : It (den rt)) (E : FEnv Z) (c : Code) (rv : List ResultVar) (A : List I) : Option (den rt) :=
  runC it E c ⟨[], []⟩ (initS A) (finKO Z E.nt rv rt j Et et) (fun e S => match e with | none => finKO Z E.nt rv rt j Et et S | some _ => none)
theorem fn_contractO {ats : List T} {rt et : T} {j Et : Nat} {E : FEnv Z} {f : FuncId} {fn : Func} {c : Code} (hf : Z.P.funcs[f]? = some fn) (hb : fn.body = some c) (hname : (fn.name == "runtime.NumGoroutine") = false) (hn : Nat.beq fn.ntmps E.nt = true) (hl : Nat.ble ats.length fn.ntmps = true) (hp : E.pin = [])
    {a : argD ats} {x : den rt} (hr : fnRunO rt j Et et itN E c fn.results.toList (encA ats a) = some x) {l : List (den et)} {d : I} (hd : tmplO rt j et x = some (l, d)) (h : Nat → Nat) : ContractO Z.toSeat f (I.toDL h (encA ats a)) (d.toD h) Et (sz et) l.length (fun i => encD et (l.getD i (dflt et))) := by
  have hk : ∃ k, overP (encC rt x) j [.os 0 1] = some k ∧ d = wrapC rt k := by
    unfold tmplO at hd
    split at hd
    · split at hd
      · split at hd
        · rename_i k hk
          simp only [Option.some.injEq, Prod.mk.injEq] at hd
          exact ⟨k, hk, hd.2.symm⟩
        · cases hd
      · cases hd
    · cases hd
  obtain ⟨k, hk, hdk⟩ := hk
  subst hdk
  rw [encA_h' h zh]
  refine contractO_intro hf hb hname (by rw [toDL_len, encA_len]; exact hl) (encA_pure _ _ _) (wrapC_po hk h) (fun i _ => encD_pure _ _) fun w κ => ?_
  have hX : At (Ctx.plain Z.toSeat fn.ntmps w κ none) Z E.nt := At.pl rfl (Nat.eq_of_beq_eq_true hn) (fun _ => rfl)
  rw [← toSt_init]
  have fin : ∀ h2 S, finKO Z E.nt fn.results.toList rt j Et et S = some x → ∃ s g, (IS.toSt h2 S).γ s = g ∧ (IS.toSt h2 S).σ s = .arr Et (sz et) l.length (fun i => encD et (l.getD i (dflt et))) ∧ ∃ ds, ResL (Ctx.plain Z.toSeat fn.ntmps w κ none) (IS.toSt h2 S) fn.results.toList ds ∧ tupOf ds = renO s g ((wrapC rt k).toD h) := fun h2 S hq => by
    obtain ⟨l', d', h3, h4⟩ := finKO_ok hX (h := h2) (h' := h) hq
    rw [hd] at h3
    simp only [Option.some.injEq, Prod.mk.injEq] at h3
    obtain ⟨rfl, rfl⟩ := h3
    exact h4
  refine W_mono (run_ok c hX (fun _ => ⟨_, _, _, _, _, rfl⟩) (g0 := zh) ⟨[], []⟩ rfl _ _ _ zh ⟨(fun g hg => by rw [hp] at hg; cases hg), ⟨(fun p hp => (nomatch hp)), (fun p hp => (nomatch hp))⟩⟩ hr) ?_
  rintro e T ⟨h2, S, rfl, _, hq⟩
  cases e with
  | normal => exact fin h2 S hq
  | ret => exact fin h2 S hq
  | exit i => cases hq
  | _ => exact hq.elim
def mkSpecO (Z : Seat) (f : FuncId) (ats : List T) (rt : T) (j Et : Nat) (et : T) (F : argD ats → Option (den rt)) (hF : ∀ a x, F a = some x → ∀ l d, tmplO rt j et x = some (l, d) → ∀ h, ContractO Z f (I.toDL h (encA ats a)) (d.toD h) Et (sz et) l.length (fun i => encD et (l.getD i (dflt et)))) : FnSpecO Z where
  f := f
  app := fun A k => match decA ats A with
    | some a => (F a).bind fun x => (match tmplO rt j et x with | some y => k Et et y.1 y.2 | none => none)
    | none => none
  ok := fun A k r h => by
    split at h
    · rename_i a ha
      cases hx : F a with
      | none => rw [hx] at h; cases h
      | some x =>
        rw [hx] at h
        simp only [Option.bind_some] at h
        split at h
        · rename_i y hy
          refine ⟨_, _, _, _, h, fun h => ?_⟩
          have hc := hF a x hx y.1 y.2 hy h
          exact ⟨decA_pure ha, hc.poR, hc.pureE, hc.body, fun w κ args hf hg hr => hc.calls w κ args hf hg (decA_rep ha hr)⟩
        · cases h
    · cases h
end
end
end Go.Ab
namespace Go.Ab
open Go Go.RowKit
noncomputable section
set_option linter.all false
section
variable {Z : Seat}
def isFn (g : Nat) : Option I → Bool
  | some (.mf f _) => Nat.beq f g
  | some (.fn f _) => Nat.beq f g
  | some (.rp [.mf f _] _) => Nat.beq f g
  | some (.rp [.fn f _] _) => Nat.beq f g
  | _ => false
def altSpec (i g : Nat) (f : FuncId) (sc : Bool) (s1 s2 : FnSpec Z) (hf1 : s1.f = f) (hf2 : s2.f = f) (hs1 : s1.sc = sc) (hs2 : s2.sc = sc) : FnSpec Z := ⟨f, sc, fun A k => bif isFn g (nth A i) then s1.app A k else s2.app A k, fun A k r h => by
  cases hb : isFn g (nth A i) with
  | true =>
    rw [hb] at h
    obtain ⟨d, h1, h2⟩ := s1.ok A k r h
    exact ⟨d, h1, fun h => by rw [← hf1, ← hs1]; exact h2 h⟩
  | false =>
    rw [hb] at h
    obtain ⟨d, h1, h2⟩ := s2.ok A k r h
    exact ⟨d, h1, fun h => by rw [← hf2, ← hs2]; exact h2 h⟩⟩
def altIt (i g : Nat) (f : FuncId) (L : List T) (s1 s2 : ItSpec Z) (hf1 : s1.f = f) (hf2 : s2.f = f) (hs1 : s1.its = L) (hs2 : s2.its = L) : ItSpec Z := ⟨f, L, fun cap k => bif isFn g (nth cap i) then s1.app cap (fun items => k (hs1 ▸ items)) else s2.app cap (fun items => k (hs2 ▸ items)), fun cap k r h => by
  cases hb : isFn g (nth cap i) with
  | true =>
    rw [hb] at h
    obtain ⟨f1, its1, app1, ok1⟩ := s1
    simp only at hf1 hs1
    subst hf1 hs1
    exact ok1 cap k r h
  | false =>
    rw [hb] at h
    obtain ⟨f2, its2, app2, ok2⟩ := s2
    simp only at hf2 hs2
    subst hf2 hs2
    exact ok2 cap k r h⟩
end
section
variable {Z : ISeat}
def finC2 (Z : ISeat) (nt : Nat) (rv : List ResultVar) (g : FuncId) (ct ct2 : T) (S : IS) : Option (den ct × den ct2) := match rv with
  | [.tmp t] => bif Nat.ble (t + 1) nt then (match S.get t with
    | .fn f [.bx s g' 0, .bx s2 g2 0] => bif Nat.beq f g && Nat.beq g' (S.gen s) && Nat.beq g2 (S.gen s2) && !(Nat.beq s2 s) then (match S.own s with
      | .box l => (match S.own s2 with
        | .box l2 => bif noNil l && noNil l2 then (decC ct l).bind fun a => (decC ct2 l2).bind fun b => some (a, b) else none
        | _ => none)
      | _ => none) else none
    | _ => none) else none
  | _ => none
theorem finC2_ok {X : Ctx} {nt : Nat} (hX : At X Z nt) (hx0 : X.ext = none ∧ ∀ b, ¬ X.ex b) {rv : List ResultVar} {g : FuncId} {ct ct2 : T} {S : IS} {x : den ct × den ct2} {h h' : Nat → Nat} (hr : finC2 Z nt rv g ct ct2 S = some x) :
    ∃ S' ds, Wk X (S.toSt h) S' ∧ ResL X S' rv ds ∧ ∀ κ γ sv v, Rep κ γ sv (tupOf ds) v → Rep κ γ sv ((encR [.clo2 g ct ct2] x).toD h') v := by
  unfold finC2 at hr
  split at hr
  · rename_i t
    cases hb0 : Nat.ble (t + 1) nt with
    | false => rw [hb0] at hr; cases hr
    | true =>
    rw [hb0] at hr
    simp only [cond_true] at hr
    split at hr
    · rename_i f s g' s2 g2 hg
      cases hb : Nat.beq f g && Nat.beq g' (S.gen s) && Nat.beq g2 (S.gen s2) && !(Nat.beq s2 s) with
      | false => rw [hb] at hr; cases hr
      | true =>
        rw [hb] at hr
        simp only [Bool.and_eq_true, Bool.not_eq_true'] at hb
        obtain ⟨⟨⟨e1, e2⟩, e3⟩, e4⟩ := hb
        have e1 := Nat.eq_of_beq_eq_true e1
        have e2 := Nat.eq_of_beq_eq_true e2
        have e3 := Nat.eq_of_beq_eq_true e3
        have hne : s2 ≠ s := fun e => by rw [e] at e4; simp at e4
        simp only [cond_true] at hr
        split at hr
        · rename_i l hσ
          split at hr
          · rename_i l2 hσ2
            cases hn : noNil l && noNil l2 with
            | false => rw [hn] at hr; cases hr
            | true =>
              rw [hn] at hr
              simp only [Bool.and_eq_true] at hn
              simp only [cond_true] at hr
              cases ha : decC ct l with
              | none => rw [ha] at hr; cases hr
              | some xa =>
              cases hb2 : decC ct2 l2 with
              | none => rw [ha, hb2] at hr; cases hr
              | some xb =>
              rw [ha, hb2] at hr
              simp only [Option.bind_some, Option.some.injEq] at hr
              subst hr
              have hl := noNil_eq (decC_ok ct ha) hn.1
              have hl2 := noNil_eq (decC_ok ct2 hb2) hn.2
              have h1 : (S.toSt h).ρ t = .fn f [.bx s (h s + g') 0, .bx s2 (h s2 + g2) 0] := by
                show (S.get t).toD h = _
                rw [hg]; rfl
              have h2 : (S.toSt h).σ s = .box (I.toDL h l) := by
                show (S.own s).toOwn h = _
                rw [hσ]; rfl
              have h3 : (S.toSt h).σ s2 = .box (I.toDL h l2) := by
                show (S.own s2).toOwn h = _
                rw [hσ2]; rfl
              have hw := wk_freeze_cap (X := X) (S := S.toSt h) t 0 hx0 h1 rfl (show (S.toSt h).γ s = h s + g' from by show h s + S.gen s = _; rw [e2]) h2 (c' := [.rp (I.toDL h l) 0, .bx s2 (h s2 + g2) 0]) rfl
              have hw2 := wk_freeze_cap (X := X) (S := ⟨upd (S.toSt h).ρ t (.fn f [.rp (I.toDL h l) 0, .bx s2 (h s2 + g2) 0]), (S.toSt h).γ, upd (S.toSt h).σ s .none⟩) t 1 (s := s2) (g := h s2 + g2) (o := 0) (f := f) (c := [.rp (I.toDL h l) 0, .bx s2 (h s2 + g2) 0]) (l := I.toDL h l2) hx0 (upd_same _ _ _) rfl
                (show (S.toSt h).γ s2 = h s2 + g2 from by show h s2 + S.gen s2 = _; rw [e3]) ((upd_ne _ _ _ _ hne).trans h3) (c' := [.rp (I.toDL h l) 0, .rp (I.toDL h l2) 0]) rfl
              refine ⟨_, [.fn f [.rp (I.toDL h l) 0, .rp (I.toDL h l2) 0]], hw.trans hw2, ⟨?_, trivial⟩, fun κ γ sv v hv => ?_⟩
              · have hlt : Nat.blt t X.nt = true := by rw [hX.nt]; exact hb0
                show (bif Nat.blt t X.nt then upd (upd (S.toSt h).ρ t (D.fn f [.rp (I.toDL h l) 0, .bx s2 (h s2 + g2) 0])) t (D.fn f [.rp (I.toDL h l) 0, .rp (I.toDL h l2) 0]) t else D.undef) = _
                rw [hlt, upd_same]; rfl
              · rw [hl, hl2, toDL_enc, toDL_enc, e1] at hv
                show Rep κ γ sv (.fn g [.rp (I.toDL h' (encC ct xa)) 0, .rp (I.toDL h' (encC ct2 xb)) 0]) v
                rw [toDL_enc, toDL_enc]; exact hv
          · cases hr
        · cases hr
    · cases hr
  · cases hr
def fnRunC2 (g : FuncId) (ct ct2 : T) (it : It (den ct × den ct2)) (E : FEnv Z) (c : Code) (rv : List ResultVar) (A : List I) : Option (den ct × den ct2) :=
  runC it E c ⟨[], []⟩ (initS A) (finC2 Z E.nt rv g ct ct2) (fun e S => match e with | none => finC2 Z E.nt rv g ct ct2 S | some _ => none)
theorem fn_contractC2 {ats : List T} {g : FuncId} {ct ct2 : T} {E : FEnv Z} {f : FuncId} {fn : Func} {c : Code} (hf : Z.P.funcs[f]? = some fn) (hb : fn.body = some c) (hname : (fn.name == "runtime.NumGoroutine") = false) (hn : Nat.beq fn.ntmps E.nt = true) (hl : Nat.ble ats.length fn.ntmps = true) (hp : E.pin = [])
    {a : argD ats} {x : den ct × den ct2} (hr : fnRunC2 g ct ct2 itN E c fn.results.toList (encA ats a) = some x) (h h' : Nat → Nat) : Contract Z.toSeat f (I.toDL h (encA ats a)) ((encR [.clo2 g ct ct2] x).toD h') := by
  rw [encA_h' h zh]
  refine contract_introN hf hb hname (by rw [toDL_len, encA_len]; exact hl) (encA_pure _ _ _) (encR_pure _ _ _) fun w κ => ?_
  have hX : At (Ctx.plain Z.toSeat fn.ntmps w κ none) Z E.nt := At.pl rfl (Nat.eq_of_beq_eq_true hn) (fun _ => rfl)
  rw [← toSt_init]
  refine W_mono (run_ok c hX (fun _ => ⟨_, _, _, _, _, rfl⟩) (g0 := zh) ⟨[], []⟩ rfl _ _ _ zh ⟨(fun g hg => by rw [hp] at hg; cases hg), ⟨(fun p hp => (nomatch hp)), (fun p hp => (nomatch hp))⟩⟩ hr) ?_
  rintro e T ⟨h2, S, rfl, _, hq⟩
  cases e with
  | normal => exact finC2_ok hX ⟨rfl, fun _ h => h⟩ hq
  | ret => exact finC2_ok hX ⟨rfl, fun _ h => h⟩ hq
  | exit i => cases hq
  | _ => exact hq.elim
end
end
end Go.Ab
namespace Go.Proofs.Crew
open Go Go.Ab
open Go.Proofs.YthmgcjmoiilggaaDoor (iseat)
set_option linter.all false
set_option maxRecDepth 100000
noncomputable section
def within' (it : It Bool) (n : Int) (low : Int) (high : Int) : Option Bool :=
  bif (decide (low ≤ n)) then
    some (decide (n ≤ high))
  else
    some false
def within : Int → Int → Int → Option Bool := opq (fun n low high => within' itN n low high)
theorem within_eq (n : Int) (low : Int) (high : Int) : within n low high = within' itN n low high := by unfold within; rw [opq_eq]
def E66 : FEnv iseat := ⟨⟨15, [], [], [], [], [], [], [], [], [], [], [], [], true⟩, []⟩
theorem e66 (it : It Bool) (n : Int) (low : Int) (high : Int) : fnRun (ts := [.bool]) it E66 (bodyOf Tryd.f66) Tryd.f66.results.toList (encA [.int .i64, .int .i64, .int .i64] (n, low, high, ())) = within' it n low high := by kernel_rfl
def sp66 : FnSpec iseat.toSeat := mkSpec iseat.toSeat 66 [.int .i64, .int .i64, .int .i64] [.bool] true (fun a => within a.1 a.2.1 a.2.2.1) (fun a x hx h h' => fn_contract (Z := iseat) (ats := [.int .i64, .int .i64, .int .i64]) (ts := [.bool]) (E := E66) (fn := Tryd.f66) (c := bodyOf Tryd.f66) Tryd.func66 (by kernel_rfl) (by kernel_rfl) (by kernel_rfl) (by kernel_rfl) rfl ((e66 itN a.1 a.2.1 a.2.2.1).trans ((within_eq a.1 a.2.1 a.2.2.1).symm.trans hx)) h h') (fun _ x => rfl)
def pCheckRules_L2 (u : Rules) (x14 : Int) (kn_ : Int → Option Int) : Option Int :=
  bif (decide (x14 < 4)) then
    bif x14 == 0 then
      (within u.Drive 1 3000).bind fun r =>
      bif (!r) then
        some 2
      else
        kn_ (w64 (x14 + 1))
    else
      bif x14 == 1 then
        (within u.Rest 1 3000).bind fun r2 =>
        bif (!r2) then
          some 2
        else
          kn_ (w64 (x14 + 1))
      else
        bif x14 == 2 then
          (within u.Day 1 3000).bind fun r3 =>
          bif (!r3) then
            some 2
          else
            kn_ (w64 (x14 + 1))
        else
          bif x14 == 3 then
            (within u.Most 1 3000).bind fun r4 =>
            bif (!r4) then
              some 2
            else
              kn_ (w64 (x14 + 1))
          else
            none
  else
    some 0
def pCheckRules' (it : It Int) (u : Rules) : Option Int :=
  it _ (fun (v_0 : (Int × Unit) × (Unit)) kn => pCheckRules_L2 u v_0.1.1 (fun y0 => kn ((y0, ()), (())))) ((0, ()), (()))
def pCheckRules : Rules → Option Int := opq (fun u => pCheckRules' itN u)
theorem pCheckRules_eq (u : Rules) : pCheckRules u = pCheckRules' itN u := by unfold pCheckRules; rw [opq_eq]
def E23 : FEnv iseat := ⟨⟨21, [sp66], [], [], [], [], [], [], [], [], [], [], [], true⟩, [(2, ⟨⟨[(14, .v (.int .i64))], []⟩, [13], [], []⟩)]⟩
theorem e23 (it : It Int) (u : Rules) : fnRun (ts := [.int .i64]) it E23 (bodyOf Tryd.f23) Tryd.f23.results.toList (encA [.Rules] (u, ())) = pCheckRules' it u := by kernel_rfl
def sp23 : FnSpec iseat.toSeat := mkSpec iseat.toSeat 23 [.Rules] [.int .i64] true (fun a => pCheckRules a.1) (fun a x hx h h' => fn_contract (Z := iseat) (ats := [.Rules]) (ts := [.int .i64]) (E := E23) (fn := Tryd.f23) (c := bodyOf Tryd.f23) Tryd.func23 (by kernel_rfl) (by kernel_rfl) (by kernel_rfl) (by kernel_rfl) rfl ((e23 itN a.1).trans ((pCheckRules_eq a.1).symm.trans hx)) h h') (fun _ x => rfl)
def moment' (it : It Int) (x : Span) : Option Int :=
  (within x.Lo 0 3000).bind fun r =>
  bif (!r) then
    bif (!r) then
      some 2
    else
      bif (decide (x.Lo > x.Hi)) then
        some 11
      else
        some 0
  else
    (within x.Hi 0 3000).bind fun r2 =>
    bif (!r2) then
      some 2
    else
      bif (decide (x.Lo > x.Hi)) then
        some 11
      else
        some 0
def moment : Span → Option Int := opq (fun x => moment' itN x)
theorem moment_eq (x : Span) : moment x = moment' itN x := by unfold moment; rw [opq_eq]
def E69 : FEnv iseat := ⟨⟨18, [sp66], [], [], [], [], [], [], [], [], [], [], [], true⟩, []⟩
theorem e69 (it : It Int) (x : Span) : fnRun (ts := [.int .i64]) it E69 (bodyOf Tryd.f69) Tryd.f69.results.toList (encA [.Span] (x, ())) = moment' it x := by kernel_rfl
def sp69 : FnSpec iseat.toSeat := mkSpec iseat.toSeat 69 [.Span] [.int .i64] true (fun a => moment a.1) (fun a x hx h h' => fn_contract (Z := iseat) (ats := [.Span]) (ts := [.int .i64]) (E := E69) (fn := Tryd.f69) (c := bodyOf Tryd.f69) Tryd.func69 (by kernel_rfl) (by kernel_rfl) (by kernel_rfl) (by kernel_rfl) rfl ((e69 itN a.1).trans ((moment_eq a.1).symm.trans hx)) h h') (fun _ x => rfl)
def next' (it : It (Seed × Int)) (s : Seed) : Option (Seed × Int) :=
  some ((⟨(IntKind.u64.wrap (s.word + 11400714819323198485))⟩ : Seed), (xorI .u64 (IntKind.u64.wrap ((xorI .u64 (IntKind.u64.wrap ((xorI .u64 (IntKind.u64.wrap (s.word + 11400714819323198485)) (shrI .u64 (IntKind.u64.wrap (s.word + 11400714819323198485)) 30)) * 13787848793156543929)) (shrI .u64 (IntKind.u64.wrap ((xorI .u64 (IntKind.u64.wrap (s.word + 11400714819323198485)) (shrI .u64 (IntKind.u64.wrap (s.word + 11400714819323198485)) 30)) * 13787848793156543929)) 27)) * 10723151780598845931)) (shrI .u64 (IntKind.u64.wrap ((xorI .u64 (IntKind.u64.wrap ((xorI .u64 (IntKind.u64.wrap (s.word + 11400714819323198485)) (shrI .u64 (IntKind.u64.wrap (s.word + 11400714819323198485)) 30)) * 13787848793156543929)) (shrI .u64 (IntKind.u64.wrap ((xorI .u64 (IntKind.u64.wrap (s.word + 11400714819323198485)) (shrI .u64 (IntKind.u64.wrap (s.word + 11400714819323198485)) 30)) * 13787848793156543929)) 27)) * 10723151780598845931)) 31)))
def next : Seed → Option (Seed × Int) := opq (fun s => next' itN s)
theorem next_eq (s : Seed) : next s = next' itN s := by unfold next; rw [opq_eq]
def E57 : FEnv iseat := ⟨⟨30, [], [], [], [], [], [], [], [], [], [], [], [0], true⟩, []⟩
theorem e57 (it : It (Seed × Int)) (s : Seed) : fnRunR (bt := .Seed) (ts := [.int .u64]) it E57 (bodyOf Tryd.f57) Tryd.f57.results.toList (encC .Seed s) (encA [] (())) = next' it s := by kernel_rfl
def sp57 : FnSpecR iseat.toSeat := mkSpecR iseat.toSeat 57 .Seed [] [.int .u64] (fun b a => next b ) (fun b a y x hx h => fn_contractR (Z := iseat) (bt := .Seed) (ats := []) (ts := [.int .u64]) (E := E57) (fn := Tryd.f57) (c := bodyOf Tryd.f57) Tryd.func57 (by kernel_rfl) (by kernel_rfl) (by kernel_rfl) (by kernel_rfl) rfl ((e57 itN b ).trans ((next_eq b ).symm.trans hx)) h)
def Below' (it : It (Seed × Int)) (s : Seed) (n : Int) : Option (Seed × Int) :=
  bif (decide (n < 2)) then
    some (s, 0)
  else
    (next s).bind fun r =>
    chk ((IntKind.u64.wrap (n)) != 0) <|
    some (r.1, (w64 (((shrI .u64 r.2 1).tmod (IntKind.u64.wrap (n))))))
def Below : Seed → Int → Option (Seed × Int) := opq (fun s n => Below' itN s n)
theorem Below_eq (s : Seed) (n : Int) : Below s n = Below' itN s n := by unfold Below; rw [opq_eq]
def E20 : FEnv iseat := ⟨⟨14, [], [sp57], [], [], [], [], [], [], [], [], [], [0], true⟩, []⟩
theorem e20 (it : It (Seed × Int)) (s : Seed) (n : Int) : fnRunR (bt := .Seed) (ts := [.int .i64]) it E20 (bodyOf Tryd.f20) Tryd.f20.results.toList (encC .Seed s) (encA [.int .i64] (n, ())) = Below' it s n := by kernel_rfl
def sp20 : FnSpecR iseat.toSeat := mkSpecR iseat.toSeat 20 .Seed [.int .i64] [.int .i64] (fun b a => Below b a.1) (fun b a y x hx h => fn_contractR (Z := iseat) (bt := .Seed) (ats := [.int .i64]) (ts := [.int .i64]) (E := E20) (fn := Tryd.f20) (c := bodyOf Tryd.f20) Tryd.func20 (by kernel_rfl) (by kernel_rfl) (by kernel_rfl) (by kernel_rfl) rfl ((e20 itN b a.1).trans ((Below_eq b a.1).symm.trans hx)) h)
def From' (it : It (Seed × Int)) (s : Seed) (low : Int) (high : Int) : Option (Seed × Int) :=
  (Below s (w64 ((w64 (high - low)) + 1))).bind fun r =>
  some (r.1, (w64 (low + r.2)))
def From : Seed → Int → Int → Option (Seed × Int) := opq (fun s low high => From' itN s low high)
theorem From_eq (s : Seed) (low : Int) (high : Int) : From s low high = From' itN s low high := by unfold From; rw [opq_eq]
def E30 : FEnv iseat := ⟨⟨15, [], [sp20], [], [], [], [], [], [], [], [], [], [0], true⟩, []⟩
theorem e30 (it : It (Seed × Int)) (s : Seed) (low : Int) (high : Int) : fnRunR (bt := .Seed) (ts := [.int .i64]) it E30 (bodyOf Tryd.f30) Tryd.f30.results.toList (encC .Seed s) (encA [.int .i64, .int .i64] (low, high, ())) = From' it s low high := by kernel_rfl
def sp30 : FnSpecR iseat.toSeat := mkSpecR iseat.toSeat 30 .Seed [.int .i64, .int .i64] [.int .i64] (fun b a => From b a.1 a.2.1) (fun b a y x hx h => fn_contractR (Z := iseat) (bt := .Seed) (ats := [.int .i64, .int .i64]) (ts := [.int .i64]) (E := E30) (fn := Tryd.f30) (c := bodyOf Tryd.f30) Tryd.func30 (by kernel_rfl) (by kernel_rfl) (by kernel_rfl) (by kernel_rfl) rfl ((e30 itN b a.1 a.2.1).trans ((From_eq b a.1 a.2.1).symm.trans hx)) h)
def Of' (it : It (Seed × Int)) (s : Seed) (l : List Int) : Option (Seed × Int) :=
  bif ((l.length : Int) == 0) then
    some (s, 0)
  else
    (Below s (l.length : Int)).bind fun r =>
    chk (decide (0 ≤ r.2) && decide (r.2 < (l.length : Int))) <|
    some (r.1, (l.getD r.2.toNat 0))
def Of : Seed → (List Int) → Option (Seed × Int) := opq (fun s l => Of' itN s l)
theorem Of_eq (s : Seed) (l : List Int) : Of s l = Of' itN s l := by unfold Of; rw [opq_eq]
def E37 : FEnv iseat := ⟨⟨15, [], [sp20], [], [], [], [], [], [], [], [], [], [0], true⟩, []⟩
theorem e37 (it : It (Seed × Int)) (s : Seed) (l : List Int) : fnRunR (bt := .Seed) (ts := [.int .i64]) it E37 (bodyOf Tryd.f37) Tryd.f37.results.toList (encC .Seed s) (encA [.sl (.int .i64)] (l, ())) = Of' it s l := by kernel_rfl
def sp37 : FnSpecR iseat.toSeat := mkSpecR iseat.toSeat 37 .Seed [.sl (.int .i64)] [.int .i64] (fun b a => Of b a.1) (fun b a y x hx h => fn_contractR (Z := iseat) (bt := .Seed) (ats := [.sl (.int .i64)]) (ts := [.int .i64]) (E := E37) (fn := Tryd.f37) (c := bodyOf Tryd.f37) Tryd.func37 (by kernel_rfl) (by kernel_rfl) (by kernel_rfl) (by kernel_rfl) rfl ((e37 itN b a.1).trans ((Of_eq b a.1).symm.trans hx)) h)
def Inside' (it : It (Seed × Int)) (s : Seed) (x : Span) : Option (Seed × Int) :=
  (From s x.Lo x.Hi).bind fun r =>
  (From r.1 x.Lo x.Hi).bind fun r2 =>
  (Of r2.1 [x.Lo, x.Hi, r.2, r2.2]).bind fun r3 =>
  some (r3.1, r3.2)
def Inside : Seed → Span → Option (Seed × Int) := opq (fun s x => Inside' itN s x)
def Part' (it : It (Seed × Span)) (s : Seed) (x : Span) : Option (Seed × Span) :=
  (Inside s x).bind fun r =>
  (Inside r.1 x).bind fun r2 =>
  some (r2.1, (⟨(min r.2 r2.2), (max r.2 r2.2)⟩ : Span))
def Part : Seed → Span → Option (Seed × Span) := opq (fun s x => Part' itN s x)
def NewSeed_L3 (nums : List Int) (i : Int) (x6_word : Int) (kn_ : Int → Int → Option Seed) : Option Seed :=
  bif (decide (i < (nums.length : Int))) then
    chk (decide (0 ≤ i) && decide (i < (nums.length : Int))) <|
    (next (⟨(IntKind.u64.wrap ((IntKind.u64.wrap ((IntKind.u64.wrap (x6_word * 6364136223846793005)) + (IntKind.u64.wrap ((nums.getD i.toNat 0))))) + 1442695040888963407))⟩ : Seed)).bind fun r =>
    kn_ (w64 (i + 1)) r.1.word
  else
    some (⟨x6_word⟩ : Seed)
def NewSeed' (it : It Seed) (nums : List Int) : Option Seed :=
  it _ (fun (v_0 : (Unit × Int × Unit) × ((Int × Unit) × Unit)) kn => NewSeed_L3 nums v_0.1.2.1 v_0.2.1.1 (fun y0 y1 => kn (((), y0, ()), ((y1, ()), ())))) (((), 0, ()), ((1, ()), ()))
def NewSeed : (List Int) → Option Seed := opq (fun nums => NewSeed' itN nums)
theorem NewSeed_eq (nums : List Int) : NewSeed nums = NewSeed' itN nums := by unfold NewSeed; rw [opq_eq]
def E16 : FEnv iseat := ⟨⟨31, [], [sp57], [], [], [], [], [], [], [], [], [], [], true⟩, [(3, ⟨⟨[(3, .bx 6 0), (4, .v (.int .i64))], [(6, [.v (.int .u64)])]⟩, [0], [], []⟩)]⟩
theorem e16 (it : It Seed) (nums : List Int) : fnRunB (bt := .Seed) it E16 (bodyOf Tryd.f16) Tryd.f16.results.toList (encA [.sl (.int .i64)] (nums, ())) = NewSeed' it nums := by kernel_rfl
def sp16 : FnSpecB iseat.toSeat := mkSpecB iseat.toSeat 16 .Seed [.sl (.int .i64)] (fun a => NewSeed a.1) (fun a y hx h => fn_contractB (Z := iseat) (bt := .Seed) (ats := [.sl (.int .i64)]) (E := E16) (fn := Tryd.f16) (c := bodyOf Tryd.f16) Tryd.func16 (by kernel_rfl) (by kernel_rfl) (by kernel_rfl) (by kernel_rfl) rfl ⟨_, rfl⟩ ((e16 itN a.1).trans ((NewSeed_eq a.1).symm.trans hx)) h)
def RulesOf' (it : It (Seed × Rules)) (s : Seed) : Option (Seed × Rules) :=
  (From s 1 30).bind fun r =>
  (From r.1 1 10).bind fun r2 =>
  (From r2.1 1 80).bind fun r3 =>
  (Of r3.1 [r3.2, 60]).bind fun r4 =>
  (From r4.1 1 r4.2).bind fun r5 =>
  some (r5.1, (⟨r.2, r2.2, r3.2, r5.2⟩ : Rules))
def RulesOf : Seed → Option (Seed × Rules) := opq (fun s => RulesOf' itN s)
theorem RulesOf_eq (s : Seed) : RulesOf s = RulesOf' itN s := by unfold RulesOf; rw [opq_eq]
def E17 : FEnv iseat := ⟨⟨20, [], [sp30, sp37], [], [], [], [], [], [], [], [], [15], [0], true⟩, []⟩
theorem e17 (it : It (Seed × Rules)) (s : Seed) : fnRunR (bt := .Seed) (ts := [.Rules]) it E17 (bodyOf Tryd.f17) Tryd.f17.results.toList (encC .Seed s) (encA [] (())) = RulesOf' it s := by kernel_rfl
def sp17 : FnSpecR iseat.toSeat := mkSpecR iseat.toSeat 17 .Seed [] [.Rules] (fun b a => RulesOf b ) (fun b a y x hx h => fn_contractR (Z := iseat) (bt := .Seed) (ats := []) (ts := [.Rules]) (E := E17) (fn := Tryd.f17) (c := bodyOf Tryd.f17) Tryd.func17 (by kernel_rfl) (by kernel_rfl) (by kernel_rfl) (by kernel_rfl) rfl ((e17 itN b ).trans ((RulesOf_eq b ).symm.trans hx)) h)
def DriverOf_L4 (at_ : Int) (i : Int) (s_word : Int) (d_Name : ByteArray) (d_Skills : Int) (d_Turns : List Turn) (kn_ : Int → Int → Int → ByteArray → Int → (List Turn) → Option (Seed × Driver)) : Option (Seed × Driver) :=
  bif (decide (i > 0)) then
    (Below (⟨s_word⟩ : Seed) 15).bind fun r4 =>
    (Below r4.1 5).bind fun r5 =>
    (Of r5.1 [0, 0, r5.2]).bind fun r6 =>
    (Below r6.1 20).bind fun r7 =>
    (Below r7.1 5).bind fun r8 =>
    (Of r8.1 [0, 0, r8.2]).bind fun r9 =>
    chk (fitA (d_Turns.length + ([(⟨⟨(w64 (at_ + r4.2)), (w64 ((w64 (at_ + r4.2)) + r6.2))⟩, ⟨(w64 ((w64 ((w64 (at_ + r4.2)) + r6.2)) + r7.2)), (w64 ((w64 ((w64 ((w64 (at_ + r4.2)) + r6.2)) + r7.2)) + r9.2))⟩⟩ : Turn)] : List Turn).length) 32) <|
    kn_ (w64 ((w64 ((w64 ((w64 (at_ + r4.2)) + r6.2)) + r7.2)) + r9.2)) (w64 (i - 1)) r9.1.word d_Name d_Skills (d_Turns ++ ([(⟨⟨(w64 (at_ + r4.2)), (w64 ((w64 (at_ + r4.2)) + r6.2))⟩, ⟨(w64 ((w64 ((w64 (at_ + r4.2)) + r6.2)) + r7.2)), (w64 ((w64 ((w64 ((w64 (at_ + r4.2)) + r6.2)) + r7.2)) + r9.2))⟩⟩ : Turn)] : List Turn))
  else
    some ((⟨s_word⟩ : Seed), (⟨d_Name, d_Skills, d_Turns⟩ : Driver))
def DriverOf' (it : It (Seed × Driver)) (s : Seed) (name : ByteArray) (turns : Int) : Option (Seed × Driver) :=
  (Below s 8).bind fun r =>
  (Below r.1 10).bind fun r2 =>
  (Below r2.1 (w64 (turns + 1))).bind fun r3 =>
  it _ (fun (v_0 : (Unit × Unit × Unit × Int × Int × Unit) × ((Int × Unit) × (ByteArray × Int × (List Turn) × Unit) × Unit)) kn => DriverOf_L4 v_0.1.2.2.2.1 v_0.1.2.2.2.2.1 v_0.2.1.1 v_0.2.2.1.1 v_0.2.2.1.2.1 v_0.2.2.1.2.2.1 (fun y0 y1 y2 y3 y4 y5 => kn (((), (), (), y0, y1, ()), ((y2, ()), (y3, y4, y5, ()), ())))) (((), (), (), r2.2, r3.2, ()), ((r3.1.word, ()), (name, r.2, [], ()), ()))
def DriverOf : Seed → ByteArray → Int → Option (Seed × Driver) := opq (fun s name turns => DriverOf' itN s name turns)
theorem DriverOf_eq (s : Seed) (name : ByteArray) (turns : Int) : DriverOf s name turns = DriverOf' itN s name turns := by unfold DriverOf; rw [opq_eq]
def E18 : FEnv iseat := ⟨⟨71, [], [sp20, sp37], [], [], [], [], [], [], [], [], [37, 56, 64], [0], true⟩, [(4, ⟨⟨[(0, .bx 0 0), (6, .bx 6 0), (7, .bx 7 0), (8, .v (.int .i64)), (9, .v (.int .i64))], [(0, [.v (.int .u64)]), (7, [.v .str, .v (.int .i64), .os 65 30 .Turn])]⟩, [], [6], []⟩)]⟩
theorem e18 (it : It (Seed × Driver)) (s : Seed) (name : ByteArray) (turns : Int) : fnRunR (bt := .Seed) (ts := [.Driver]) it E18 (bodyOf Tryd.f18) Tryd.f18.results.toList (encC .Seed s) (encA [.str, .int .i64] (name, turns, ())) = DriverOf' it s name turns := by kernel_rfl
def sp18 : FnSpecR iseat.toSeat := mkSpecR iseat.toSeat 18 .Seed [.str, .int .i64] [.Driver] (fun b a => DriverOf b a.1 a.2.1) (fun b a y x hx h => fn_contractR (Z := iseat) (bt := .Seed) (ats := [.str, .int .i64]) (ts := [.Driver]) (E := E18) (fn := Tryd.f18) (c := bodyOf Tryd.f18) Tryd.func18 (by kernel_rfl) (by kernel_rfl) (by kernel_rfl) (by kernel_rfl) rfl ((e18 itN b a.1 a.2.1).trans ((DriverOf_eq b a.1 a.2.1).symm.trans hx)) h)
def longest' (it : It (Int × Int)) (s : Shift) (t : Turn) : Option (Int × Int) :=
  some (t.From.Lo, t.To.Hi)
def longest : Shift → Turn → Option (Int × Int) := opq (fun s t => longest' itN s t)
theorem longest_eq (s : Shift) (t : Turn) : longest s t = longest' itN s t := by unfold longest; rw [opq_eq]
def E60 : FEnv iseat := ⟨⟨12, [], [], [], [], [], [], [], [], [], [], [], [], true⟩, []⟩
theorem e60 (it : It (Int × Int)) (s : Shift) (t : Turn) : fnRun (ts := [.int .i64, .int .i64]) it E60 (bodyOf Tryd.f60) Tryd.f60.results.toList (encA [.Shift, .Turn] (s, t, ())) = longest' it s t := by kernel_rfl
def sp60 : FnSpec iseat.toSeat := mkSpec iseat.toSeat 60 [.Shift, .Turn] [.int .i64, .int .i64] true (fun a => longest a.1 a.2.1) (fun a x hx h h' => fn_contract (Z := iseat) (ats := [.Shift, .Turn]) (ts := [.int .i64, .int .i64]) (E := E60) (fn := Tryd.f60) (c := bodyOf Tryd.f60) Tryd.func60 (by kernel_rfl) (by kernel_rfl) (by kernel_rfl) (by kernel_rfl) rfl ((e60 itN a.1 a.2.1).trans ((longest_eq a.1 a.2.1).symm.trans hx)) h h') (fun _ x => rfl)
def shortest' (it : It (Int × Int)) (s : Shift) (t : Turn) : Option (Int × Int) :=
  some (t.From.Hi, t.To.Lo)
def shortest : Shift → Turn → Option (Int × Int) := opq (fun s t => shortest' itN s t)
theorem shortest_eq (s : Shift) (t : Turn) : shortest s t = shortest' itN s t := by unfold shortest; rw [opq_eq]
def E95 : FEnv iseat := ⟨⟨12, [], [], [], [], [], [], [], [], [], [], [], [], true⟩, []⟩
theorem e95 (it : It (Int × Int)) (s : Shift) (t : Turn) : fnRun (ts := [.int .i64, .int .i64]) it E95 (bodyOf Tryd.f95) Tryd.f95.results.toList (encA [.Shift, .Turn] (s, t, ())) = shortest' it s t := by kernel_rfl
def sp95 : FnSpec iseat.toSeat := mkSpec iseat.toSeat 95 [.Shift, .Turn] [.int .i64, .int .i64] true (fun a => shortest a.1 a.2.1) (fun a x hx h h' => fn_contract (Z := iseat) (ats := [.Shift, .Turn]) (ts := [.int .i64, .int .i64]) (E := E95) (fn := Tryd.f95) (c := bodyOf Tryd.f95) Tryd.func95 (by kernel_rfl) (by kernel_rfl) (by kernel_rfl) (by kernel_rfl) rfl ((e95 itN a.1 a.2.1).trans ((shortest_eq a.1 a.2.1).symm.trans hx)) h h') (fun _ x => rfl)
end
end Go.Proofs.Crew
namespace Go.Proofs.Crew
open Go Go.Ab
open Go.Proofs.YthmgcjmoiilggaaDoor (iseat)
set_option linter.all false
set_option maxRecDepth 100000
noncomputable section
def minutesL_L5 (a0 : Shift) (a1 : Shift) (x10 : Int) (kn_ : Int → Option (List (Int × Bool × Unit))) (drives : Bool) (x17 : Int) (kn_2 : Bool → Int → Option (List (Int × Bool × Unit))) : Option (List (Int × Bool × Unit)) :=
  bif (decide (x17 < (a0.Driver.Turns.length : Int))) then
    chk (decide (0 ≤ x17) && decide (x17 < (a0.Driver.Turns.length : Int))) <|
    (longest a1 (a0.Driver.Turns.getD x17.toNat dfltTurn)).bind fun r =>
    bif drives then
      kn_2 true (w64 (x17 + 1))
    else
      bif (decide (r.1 ≤ x10)) then
        kn_2 (decide (x10 < r.2)) (w64 (x17 + 1))
      else
        kn_2 false (w64 (x17 + 1))
  else
    consM (x10, drives, ())
      (some [])
      (kn_ (w64 (x10 + 1)))
def minutesL_L1 (it : It (List (Int × Bool × Unit))) (a0 : Shift) (a1 : Shift) (x10 : Int) (kn_ : Int → Option (List (Int × Bool × Unit))) : Option (List (Int × Bool × Unit)) :=
  bif (decide (x10 < 3000)) then
    it _ (fun (v_0 : (Unit × Bool × Int × Unit) × (Unit)) kn => minutesL_L5 a0 a1 x10 kn_ v_0.1.2.1 v_0.1.2.2.1 (fun y0 y1 => kn (((), y0, y1, ()), (())))) (((), false, 0, ()), (()))
  else
    some []
def minutesL' (it : It (List (Int × Bool × Unit))) (a0 : Shift) (a1 : Shift) : Option (List (Int × Bool × Unit)) :=
  it _ (fun (v_0 : (Unit × Int × Unit) × (Unit)) kn => minutesL_L1 it a0 a1 v_0.1.2.1 (fun y0 => kn (((), y0, ()), (())))) (((), 0, ()), (()))
def minutesL : Shift → Shift → Option (List (Int × Bool × Unit)) := opq (fun a0 a1 => minutesL' itN a0 a1)
theorem minutesL_eq (a0 : Shift) (a1 : Shift) : minutesL a0 a1 = minutesL' itN a0 a1 := by unfold minutesL; rw [opq_eq]
def E104_60 : FEnv iseat := ⟨⟨45, [sp60], [], [], [], [], [], [], [], [], [], [], [YL], true⟩, [(1, ⟨⟨[(0, .yl YL), (10, .v (.int .i64))], []⟩, [1, 2], [], []⟩), (5, ⟨⟨[(0, .yl YL), (5, .v .bool), (17, .v (.int .i64))], []⟩, [4, 10, 15, 16], [], []⟩)]⟩
theorem e104_60 (it : It (List (Int × Bool × Unit))) (a0 : Shift) (a1 : Shift) : fnRunI [.int .i64, .bool] it E104_60 (bodyOf Tryd.f104) (encA [.ptr .Shift, .ptr (.mfn 60 .Shift)] (a0, a1, ())) = minutesL' it a0 a1 := by kernel_rfl
def it104_60 : ItSpec iseat.toSeat := mkItSpec iseat.toSeat 104 [.ptr .Shift, .ptr (.mfn 60 .Shift)] [.int .i64, .bool] rfl (fun a => minutesL a.1 a.2.1) (fun a x hx h => it_contract (Z := iseat) (cts := [.ptr .Shift, .ptr (.mfn 60 .Shift)]) (E := E104_60) (fn := Tryd.f104) (c := bodyOf Tryd.f104) Tryd.func104 (by kernel_rfl) (by kernel_rfl) (by kernel_rfl) (by kernel_rfl) rfl rfl ((e104_60 itN a.1 a.2.1).trans ((minutesL_eq a.1 a.2.1).symm.trans hx)) h)
def minutesS_L5 (a0 : Shift) (a1 : Shift) (x10 : Int) (kn_ : Int → Option (List (Int × Bool × Unit))) (drives : Bool) (x17 : Int) (kn_2 : Bool → Int → Option (List (Int × Bool × Unit))) : Option (List (Int × Bool × Unit)) :=
  bif (decide (x17 < (a0.Driver.Turns.length : Int))) then
    chk (decide (0 ≤ x17) && decide (x17 < (a0.Driver.Turns.length : Int))) <|
    (shortest a1 (a0.Driver.Turns.getD x17.toNat dfltTurn)).bind fun r =>
    bif drives then
      kn_2 true (w64 (x17 + 1))
    else
      bif (decide (r.1 ≤ x10)) then
        kn_2 (decide (x10 < r.2)) (w64 (x17 + 1))
      else
        kn_2 false (w64 (x17 + 1))
  else
    consM (x10, drives, ())
      (some [])
      (kn_ (w64 (x10 + 1)))
def minutesS_L1 (it : It (List (Int × Bool × Unit))) (a0 : Shift) (a1 : Shift) (x10 : Int) (kn_ : Int → Option (List (Int × Bool × Unit))) : Option (List (Int × Bool × Unit)) :=
  bif (decide (x10 < 3000)) then
    it _ (fun (v_0 : (Unit × Bool × Int × Unit) × (Unit)) kn => minutesS_L5 a0 a1 x10 kn_ v_0.1.2.1 v_0.1.2.2.1 (fun y0 y1 => kn (((), y0, y1, ()), (())))) (((), false, 0, ()), (()))
  else
    some []
def minutesS' (it : It (List (Int × Bool × Unit))) (a0 : Shift) (a1 : Shift) : Option (List (Int × Bool × Unit)) :=
  it _ (fun (v_0 : (Unit × Int × Unit) × (Unit)) kn => minutesS_L1 it a0 a1 v_0.1.2.1 (fun y0 => kn (((), y0, ()), (())))) (((), 0, ()), (()))
def minutesS : Shift → Shift → Option (List (Int × Bool × Unit)) := opq (fun a0 a1 => minutesS' itN a0 a1)
theorem minutesS_eq (a0 : Shift) (a1 : Shift) : minutesS a0 a1 = minutesS' itN a0 a1 := by unfold minutesS; rw [opq_eq]
def E104_95 : FEnv iseat := ⟨⟨45, [sp95], [], [], [], [], [], [], [], [], [], [], [YL], true⟩, [(1, ⟨⟨[(0, .yl YL), (10, .v (.int .i64))], []⟩, [1, 2], [], []⟩), (5, ⟨⟨[(0, .yl YL), (5, .v .bool), (17, .v (.int .i64))], []⟩, [4, 10, 15, 16], [], []⟩)]⟩
theorem e104_95 (it : It (List (Int × Bool × Unit))) (a0 : Shift) (a1 : Shift) : fnRunI [.int .i64, .bool] it E104_95 (bodyOf Tryd.f104) (encA [.ptr .Shift, .ptr (.mfn 95 .Shift)] (a0, a1, ())) = minutesS' it a0 a1 := by kernel_rfl
def it104_95 : ItSpec iseat.toSeat := mkItSpec iseat.toSeat 104 [.ptr .Shift, .ptr (.mfn 95 .Shift)] [.int .i64, .bool] rfl (fun a => minutesS a.1 a.2.1) (fun a x hx h => it_contract (Z := iseat) (cts := [.ptr .Shift, .ptr (.mfn 95 .Shift)]) (E := E104_95) (fn := Tryd.f104) (c := bodyOf Tryd.f104) Tryd.func104 (by kernel_rfl) (by kernel_rfl) (by kernel_rfl) (by kernel_rfl) rfl rfl ((e104_95 itN a.1 a.2.1).trans ((minutesS_eq a.1 a.2.1).symm.trans hx)) h)
def it104 : ItSpec iseat.toSeat := (altIt 1 60 104 [.int .i64, .bool] it104_60 it104_95 rfl rfl rfl rfl)
def minL' (it : It (Shift × Shift)) (s : Shift) (turn : Shift) : Option (Shift × Shift) :=
  some (s, turn)
def minL : Shift → Shift → Option (Shift × Shift) := opq (fun s turn => minL' itN s turn)
theorem minL_eq (s : Shift) (turn : Shift) : minL s turn = minL' itN s turn := by unfold minL; rw [opq_eq]
def E94_60 : FEnv iseat := ⟨⟨6, [], [], [], [], [], [], [], [], [], [], [], [], true⟩, []⟩
theorem e94_60 (it : It (Shift × Shift)) (s : Shift) (turn : Shift) : fnRunC2 104 .Shift (.mfn 60 .Shift) it E94_60 (bodyOf Tryd.f94) Tryd.f94.results.toList (encA [.Shift, .mfn 60 .Shift] (s, turn, ())) = minL' it s turn := by kernel_rfl
def sp94_60 : FnSpec iseat.toSeat := mkSpec iseat.toSeat 94 [.Shift, .mfn 60 .Shift] [.clo2 104 .Shift (.mfn 60 .Shift)] false (fun a => minL a.1 a.2.1) (fun a x hx h h' => fn_contractC2 (Z := iseat) (ats := [.Shift, .mfn 60 .Shift]) (E := E94_60) (fn := Tryd.f94) (c := bodyOf Tryd.f94) Tryd.func94 (by kernel_rfl) (by kernel_rfl) (by kernel_rfl) (by kernel_rfl) rfl ((e94_60 itN a.1 a.2.1).trans ((minL_eq a.1 a.2.1).symm.trans hx)) h h') (fun h => nomatch h)
def minS' (it : It (Shift × Shift)) (s : Shift) (turn : Shift) : Option (Shift × Shift) :=
  some (s, turn)
def minS : Shift → Shift → Option (Shift × Shift) := opq (fun s turn => minS' itN s turn)
theorem minS_eq (s : Shift) (turn : Shift) : minS s turn = minS' itN s turn := by unfold minS; rw [opq_eq]
def E94_95 : FEnv iseat := ⟨⟨6, [], [], [], [], [], [], [], [], [], [], [], [], true⟩, []⟩
theorem e94_95 (it : It (Shift × Shift)) (s : Shift) (turn : Shift) : fnRunC2 104 .Shift (.mfn 95 .Shift) it E94_95 (bodyOf Tryd.f94) Tryd.f94.results.toList (encA [.Shift, .mfn 95 .Shift] (s, turn, ())) = minS' it s turn := by kernel_rfl
def sp94_95 : FnSpec iseat.toSeat := mkSpec iseat.toSeat 94 [.Shift, .mfn 95 .Shift] [.clo2 104 .Shift (.mfn 95 .Shift)] false (fun a => minS a.1 a.2.1) (fun a x hx h h' => fn_contractC2 (Z := iseat) (ats := [.Shift, .mfn 95 .Shift]) (E := E94_95) (fn := Tryd.f94) (c := bodyOf Tryd.f94) Tryd.func94 (by kernel_rfl) (by kernel_rfl) (by kernel_rfl) (by kernel_rfl) rfl ((e94_95 itN a.1 a.2.1).trans ((minS_eq a.1 a.2.1).symm.trans hx)) h h') (fun h => nomatch h)
def sp94 : FnSpec iseat.toSeat := (altSpec 1 60 94 false sp94_60 sp94_95 rfl rfl rfl rfl)
def brokenL_L11 (x14 : Int) (s : Shift) (since : Int) (kn_ : Int → Int → Int → Int → (List Int) → Option (Int × Int)) (rule : Int) (minute : Int) (driven2 : List Int) (kn_2 : (List Int) → Option (Int × Int)) : Option (Int × Int) :=
  chk (decide (0 ≤ 0) && decide (0 < (driven2.length : Int))) <|
  chk (decide (0 < driven2.length)) <|
  bif (decide ((driven2.getD 0 0) ≤ (w64 (x14 - s.rules.Day)))) then
    chk (decide (0 ≤ 1) && decide (1 ≤ (driven2.length : Int)) && decide ((driven2.length : Int) ≤ (driven2.length : Int))) <|
    kn_2 (subL driven2 1 (driven2.length : Int))
  else
    bif (decide ((w64 (since + 1)) > s.rules.Drive)) then
      some (1, x14)
    else
      bif (decide ((driven2.length : Int) > s.rules.Most)) then
        some (2, x14)
      else
        kn_ rule minute (w64 (since + 1)) 0 driven2
def brokenL_E4 (rule : Int) (minute : Int) (since : Int) (idle : Int) (driven : List Int) : Option (Int × Int) :=
  some (0, 0)
def brokenL_L4 (it : It (Int × Int)) (s : Shift) (rule : Int) (minute : Int) (since : Int) (idle : Int) (driven : List Int) (x14 : Int) (x15 : Bool) (kn_ : Int → Int → Int → Int → (List Int) → Option (Int × Int)) : Option (Int × Int) :=
  bif (!x15) then
    bif (decide ((w64 (idle + 1)) ≥ s.rules.Rest)) then
      kn_ rule minute 0 (w64 (idle + 1)) driven
    else
      kn_ rule minute since (w64 (idle + 1)) driven
  else
    chk (fitA (driven.length + [x14].length) 8) <|
    it _ (fun (v_0 : (Unit × Unit × Unit × Unit × Unit × Unit × Unit) × (((List Int) × Unit) × Unit)) kn => brokenL_L11 x14 s since kn_ rule minute v_0.2.1.1 (fun y0 => kn (((), (), (), (), (), (), ()), ((y0, ()), ())))) (((), (), (), (), (), (), ()), (((driven ++ [x14]), ()), ()))
def brokenL' (it : It (Int × Int)) (s : Shift) (turn : Shift) : Option (Int × Int) :=
  (minL s turn).bind fun r =>
  (minutesL r.1 r.2).bind fun items => it _ (fun (v_0 : ((Unit × Unit × Unit × Unit × Unit × Unit × Unit) × ((Int × Unit) × (Int × Unit) × (Int × Unit) × (Int × Unit) × ((List Int) × Unit) × Unit)) × List (Int × Bool × Unit)) kn => match v_0.2 with
    | [] => brokenL_E4 v_0.1.2.1.1 v_0.1.2.2.1.1 v_0.1.2.2.2.1.1 v_0.1.2.2.2.2.1.1 v_0.1.2.2.2.2.2.1.1
    | a :: l => brokenL_L4 it s v_0.1.2.1.1 v_0.1.2.2.1.1 v_0.1.2.2.2.1.1 v_0.1.2.2.2.2.1.1 v_0.1.2.2.2.2.2.1.1 a.1 a.2.1 (fun y0 y1 y2 y3 y4 => kn ((((), (), (), (), (), (), ()), ((y0, ()), (y1, ()), (y2, ()), (y3, ()), (y4, ()), ())), l))) ((((), (), (), (), (), (), ()), ((0, ()), (0, ()), (0, ()), (0, ()), ([], ()), ())), items)
def brokenL : Shift → Shift → Option (Int × Int) := opq (fun s turn => brokenL' itN s turn)
theorem brokenL_eq (s : Shift) (turn : Shift) : brokenL s turn = brokenL' itN s turn := by unfold brokenL; rw [opq_eq]
def E59_60 : FEnv iseat := ⟨⟨57, [sp94], [], [], [], [it104], [], [], [], [], [], [29], [], true⟩, [(4, ⟨⟨[(2, .bx 2 0), (4, .bx 4 0), (5, .bx 5 0), (6, .bx 6 0), (7, .bx 7 0), (8, .bx 8 0)], [(4, [.v (.int .i64)]), (5, [.v (.int .i64)]), (6, [.v (.int .i64)]), (7, [.v (.int .i64)]), (8, [.os 30 3 (.int .i64)])]⟩, [13], [2], []⟩), (11, ⟨⟨[(2, .bx 2 0), (4, .bx 4 0), (5, .bx 5 0), (6, .bx 6 0), (7, .bx 7 0), (8, .bx 8 0)], [(8, [.os 30 3 (.int .i64)])]⟩, [9], [4, 5, 6, 7], []⟩)]⟩
theorem e59_60 (it : It (Int × Int)) (s : Shift) (turn : Shift) : fnRun (ts := [.int .i64, .int .i64]) it E59_60 (bodyOf Tryd.f59) Tryd.f59.results.toList (encA [.Shift, .mfn 60 .Shift] (s, turn, ())) = brokenL' it s turn := by kernel_rfl
def sp59_60 : FnSpec iseat.toSeat := mkSpec iseat.toSeat 59 [.Shift, .mfn 60 .Shift] [.int .i64, .int .i64] true (fun a => brokenL a.1 a.2.1) (fun a x hx h h' => fn_contract (Z := iseat) (ats := [.Shift, .mfn 60 .Shift]) (ts := [.int .i64, .int .i64]) (E := E59_60) (fn := Tryd.f59) (c := bodyOf Tryd.f59) Tryd.func59 (by kernel_rfl) (by kernel_rfl) (by kernel_rfl) (by kernel_rfl) rfl ((e59_60 itN a.1 a.2.1).trans ((brokenL_eq a.1 a.2.1).symm.trans hx)) h h') (fun _ x => rfl)
def brokenS_L11 (x14 : Int) (s : Shift) (since : Int) (kn_ : Int → Int → Int → Int → (List Int) → Option (Int × Int)) (rule : Int) (minute : Int) (driven2 : List Int) (kn_2 : (List Int) → Option (Int × Int)) : Option (Int × Int) :=
  chk (decide (0 ≤ 0) && decide (0 < (driven2.length : Int))) <|
  chk (decide (0 < driven2.length)) <|
  bif (decide ((driven2.getD 0 0) ≤ (w64 (x14 - s.rules.Day)))) then
    chk (decide (0 ≤ 1) && decide (1 ≤ (driven2.length : Int)) && decide ((driven2.length : Int) ≤ (driven2.length : Int))) <|
    kn_2 (subL driven2 1 (driven2.length : Int))
  else
    bif (decide ((w64 (since + 1)) > s.rules.Drive)) then
      some (1, x14)
    else
      bif (decide ((driven2.length : Int) > s.rules.Most)) then
        some (2, x14)
      else
        kn_ rule minute (w64 (since + 1)) 0 driven2
def brokenS_E4 (rule : Int) (minute : Int) (since : Int) (idle : Int) (driven : List Int) : Option (Int × Int) :=
  some (0, 0)
def brokenS_L4 (it : It (Int × Int)) (s : Shift) (rule : Int) (minute : Int) (since : Int) (idle : Int) (driven : List Int) (x14 : Int) (x15 : Bool) (kn_ : Int → Int → Int → Int → (List Int) → Option (Int × Int)) : Option (Int × Int) :=
  bif (!x15) then
    bif (decide ((w64 (idle + 1)) ≥ s.rules.Rest)) then
      kn_ rule minute 0 (w64 (idle + 1)) driven
    else
      kn_ rule minute since (w64 (idle + 1)) driven
  else
    chk (fitA (driven.length + [x14].length) 8) <|
    it _ (fun (v_0 : (Unit × Unit × Unit × Unit × Unit × Unit × Unit) × (((List Int) × Unit) × Unit)) kn => brokenS_L11 x14 s since kn_ rule minute v_0.2.1.1 (fun y0 => kn (((), (), (), (), (), (), ()), ((y0, ()), ())))) (((), (), (), (), (), (), ()), (((driven ++ [x14]), ()), ()))
def brokenS' (it : It (Int × Int)) (s : Shift) (turn : Shift) : Option (Int × Int) :=
  (minS s turn).bind fun r =>
  (minutesS r.1 r.2).bind fun items => it _ (fun (v_0 : ((Unit × Unit × Unit × Unit × Unit × Unit × Unit) × ((Int × Unit) × (Int × Unit) × (Int × Unit) × (Int × Unit) × ((List Int) × Unit) × Unit)) × List (Int × Bool × Unit)) kn => match v_0.2 with
    | [] => brokenS_E4 v_0.1.2.1.1 v_0.1.2.2.1.1 v_0.1.2.2.2.1.1 v_0.1.2.2.2.2.1.1 v_0.1.2.2.2.2.2.1.1
    | a :: l => brokenS_L4 it s v_0.1.2.1.1 v_0.1.2.2.1.1 v_0.1.2.2.2.1.1 v_0.1.2.2.2.2.1.1 v_0.1.2.2.2.2.2.1.1 a.1 a.2.1 (fun y0 y1 y2 y3 y4 => kn ((((), (), (), (), (), (), ()), ((y0, ()), (y1, ()), (y2, ()), (y3, ()), (y4, ()), ())), l))) ((((), (), (), (), (), (), ()), ((0, ()), (0, ()), (0, ()), (0, ()), ([], ()), ())), items)
def brokenS : Shift → Shift → Option (Int × Int) := opq (fun s turn => brokenS' itN s turn)
theorem brokenS_eq (s : Shift) (turn : Shift) : brokenS s turn = brokenS' itN s turn := by unfold brokenS; rw [opq_eq]
def E59_95 : FEnv iseat := ⟨⟨57, [sp94], [], [], [], [it104], [], [], [], [], [], [29], [], true⟩, [(4, ⟨⟨[(2, .bx 2 0), (4, .bx 4 0), (5, .bx 5 0), (6, .bx 6 0), (7, .bx 7 0), (8, .bx 8 0)], [(4, [.v (.int .i64)]), (5, [.v (.int .i64)]), (6, [.v (.int .i64)]), (7, [.v (.int .i64)]), (8, [.os 30 3 (.int .i64)])]⟩, [13], [2], []⟩), (11, ⟨⟨[(2, .bx 2 0), (4, .bx 4 0), (5, .bx 5 0), (6, .bx 6 0), (7, .bx 7 0), (8, .bx 8 0)], [(8, [.os 30 3 (.int .i64)])]⟩, [9], [4, 5, 6, 7], []⟩)]⟩
theorem e59_95 (it : It (Int × Int)) (s : Shift) (turn : Shift) : fnRun (ts := [.int .i64, .int .i64]) it E59_95 (bodyOf Tryd.f59) Tryd.f59.results.toList (encA [.Shift, .mfn 95 .Shift] (s, turn, ())) = brokenS' it s turn := by kernel_rfl
def sp59_95 : FnSpec iseat.toSeat := mkSpec iseat.toSeat 59 [.Shift, .mfn 95 .Shift] [.int .i64, .int .i64] true (fun a => brokenS a.1 a.2.1) (fun a x hx h h' => fn_contract (Z := iseat) (ats := [.Shift, .mfn 95 .Shift]) (ts := [.int .i64, .int .i64]) (E := E59_95) (fn := Tryd.f59) (c := bodyOf Tryd.f59) Tryd.func59 (by kernel_rfl) (by kernel_rfl) (by kernel_rfl) (by kernel_rfl) rfl ((e59_95 itN a.1 a.2.1).trans ((brokenS_eq a.1 a.2.1).symm.trans hx)) h h') (fun _ x => rfl)
def sp59 : FnSpec iseat.toSeat := (altSpec 1 60 59 true sp59_60 sp59_95 rfl rfl rfl rfl)
end
end Go.Proofs.Crew
namespace Go.Proofs.Crew
open Go Go.Ab
open Go.Proofs.YthmgcjmoiilggaaDoor (iseat)
set_option linter.all false
set_option maxRecDepth 100000
noncomputable section
def pVerdict' (it : It Int) (s : Shift) : Option Int :=
  (brokenL s s).bind fun r =>
  bif (r.1 == 0) then
    some 1
  else
    (brokenS s s).bind fun r2 =>
    bif (r2.1 != 0) then
      some 2
    else
      some 3
def pVerdict : Shift → Option Int := opq (fun s => pVerdict' itN s)
theorem pVerdict_eq (s : Shift) : pVerdict s = pVerdict' itN s := by unfold pVerdict; rw [opq_eq]
def E61 : FEnv iseat := ⟨⟨25, [sp59], [], [], [], [], [], [], [], [], [], [], [], true⟩, []⟩
theorem e61 (it : It Int) (s : Shift) : fnRun (ts := [.int .i64]) it E61 (bodyOf Tryd.f61) Tryd.f61.results.toList (encA [.Shift] (s, ())) = pVerdict' it s := by kernel_rfl
def sp61 : FnSpec iseat.toSeat := mkSpec iseat.toSeat 61 [.Shift] [.int .i64] true (fun a => pVerdict a.1) (fun a x hx h h' => fn_contract (Z := iseat) (ats := [.Shift]) (ts := [.int .i64]) (E := E61) (fn := Tryd.f61) (c := bodyOf Tryd.f61) Tryd.func61 (by kernel_rfl) (by kernel_rfl) (by kernel_rfl) (by kernel_rfl) rfl ((e61 itN a.1).trans ((pVerdict_eq a.1).symm.trans hx)) h h') (fun _ x => rfl)
def pClashes_L2 (s : Shift) (at_ : Int) (long : Int) (x13 : Int) (kn_ : Int → Option Bool) : Option Bool :=
  bif (decide (x13 < (s.Driver.Turns.length : Int))) then
    chk (decide (0 ≤ x13) && decide (x13 < (s.Driver.Turns.length : Int))) <|
    bif (decide (at_ < (s.Driver.Turns.getD x13.toNat dfltTurn).To.Hi)) then
      bif (decide ((w64 (at_ + long)) > (s.Driver.Turns.getD x13.toNat dfltTurn).From.Lo)) then
        some true
      else
        kn_ (w64 (x13 + 1))
    else
      kn_ (w64 (x13 + 1))
  else
    some false
def pClashes' (it : It Bool) (s : Shift) (at_ : Int) (long : Int) : Option Bool :=
  it _ (fun (v_0 : (Int × Unit) × (Unit)) kn => pClashes_L2 s at_ long v_0.1.1 (fun y0 => kn ((y0, ()), (())))) ((0, ()), (()))
def pClashes : Shift → Int → Int → Option Bool := opq (fun s at_ long => pClashes' itN s at_ long)
theorem pClashes_eq (s : Shift) (at_ : Int) (long : Int) : pClashes s at_ long = pClashes' itN s at_ long := by unfold pClashes; rw [opq_eq]
def E74 : FEnv iseat := ⟨⟨32, [], [], [], [], [], [], [], [], [], [], [], [], true⟩, [(2, ⟨⟨[(13, .v (.int .i64))], []⟩, [1, 2, 11, 12], [], []⟩)]⟩
theorem e74 (it : It Bool) (s : Shift) (at_ : Int) (long : Int) : fnRun (ts := [.bool]) it E74 (bodyOf Tryd.f74) Tryd.f74.results.toList (encA [.Shift, .int .i64, .int .i64] (s, at_, long, ())) = pClashes' it s at_ long := by kernel_rfl
def sp74 : FnSpec iseat.toSeat := mkSpec iseat.toSeat 74 [.Shift, .int .i64, .int .i64] [.bool] true (fun a => pClashes a.1 a.2.1 a.2.2.1) (fun a x hx h h' => fn_contract (Z := iseat) (ats := [.Shift, .int .i64, .int .i64]) (ts := [.bool]) (E := E74) (fn := Tryd.f74) (c := bodyOf Tryd.f74) Tryd.func74 (by kernel_rfl) (by kernel_rfl) (by kernel_rfl) (by kernel_rfl) rfl ((e74 itN a.1 a.2.1 a.2.2.1).trans ((pClashes_eq a.1 a.2.1 a.2.2.1).symm.trans hx)) h h') (fun _ x => rfl)
def more' (it : It Shift) (s : Shift) (at_ : Int) (long : Int) : Option Shift :=
  chk (fitM (w64 ((s.Driver.Turns.length : Int) + 1)) 32) <|
  chk (decide (0 ≤ (s.Driver.Turns.length : Int)) && decide ((s.Driver.Turns.length : Int) < ((cpL (List.replicate (w64 ((s.Driver.Turns.length : Int) + 1)).toNat ((⟨⟨0, 0⟩, ⟨0, 0⟩⟩ : Turn) : Turn)) s.Driver.Turns).length : Int))) <|
  chk (decide ((s.Driver.Turns.length : Int).toNat < (cpL (List.replicate (w64 ((s.Driver.Turns.length : Int) + 1)).toNat ((⟨⟨0, 0⟩, ⟨0, 0⟩⟩ : Turn) : Turn)) s.Driver.Turns).length)) <|
  some (⟨⟨s.Driver.Name, s.Driver.Skills, ((cpL (List.replicate (w64 ((s.Driver.Turns.length : Int) + 1)).toNat ((⟨⟨0, 0⟩, ⟨0, 0⟩⟩ : Turn) : Turn)) s.Driver.Turns).set (s.Driver.Turns.length : Int).toNat (⟨⟨at_, at_⟩, ⟨(w64 (at_ + long)), (w64 (at_ + long))⟩⟩ : Turn))⟩, s.rules⟩ : Shift)
def more : Shift → Int → Int → Option Shift := opq (fun s at_ long => more' itN s at_ long)
theorem more_eq (s : Shift) (at_ : Int) (long : Int) : more s at_ long = more' itN s at_ long := by unfold more; rw [opq_eq]
def E75 : FEnv iseat := ⟨⟨40, [], [], [], [], [], [], [], [], [], [], [], [], true⟩, []⟩
theorem e75 (it : It Shift) (s : Shift) (at_ : Int) (long : Int) : fnRun (ts := [.Shift]) it E75 (bodyOf Tryd.f75) Tryd.f75.results.toList (encA [.Shift, .int .i64, .int .i64] (s, at_, long, ())) = more' it s at_ long := by kernel_rfl
def sp75 : FnSpec iseat.toSeat := mkSpec iseat.toSeat 75 [.Shift, .int .i64, .int .i64] [.Shift] false (fun a => more a.1 a.2.1 a.2.2.1) (fun a x hx h h' => fn_contract (Z := iseat) (ats := [.Shift, .int .i64, .int .i64]) (ts := [.Shift]) (E := E75) (fn := Tryd.f75) (c := bodyOf Tryd.f75) Tryd.func75 (by kernel_rfl) (by kernel_rfl) (by kernel_rfl) (by kernel_rfl) rfl ((e75 itN a.1 a.2.1 a.2.2.1).trans ((more_eq a.1 a.2.1 a.2.2.1).symm.trans hx)) h h') (fun h => nomatch h)
def pMay1' (it : It Bool) (s : Shift) (at_ : Int) (long : Int) : Option Bool :=
  (pClashes s at_ long).bind fun r =>
  bif r then
    some false
  else
    (more s at_ long).bind fun r2 =>
    (brokenL r2 r2).bind fun r3 =>
    some (r3.1 == 0)
def pMay1 : Shift → Int → Int → Option Bool := opq (fun s at_ long => pMay1' itN s at_ long)
theorem pMay1_eq (s : Shift) (at_ : Int) (long : Int) : pMay1 s at_ long = pMay1' itN s at_ long := by unfold pMay1; rw [opq_eq]
def E80 : FEnv iseat := ⟨⟨27, [sp74, sp75, sp59], [], [], [], [], [], [], [], [], [], [], [], true⟩, []⟩
theorem e80 (it : It Bool) (s : Shift) (at_ : Int) (long : Int) : fnRun (ts := [.bool]) it E80 (bodyOf Tryd.f80) Tryd.f80.results.toList (encA [.Shift, .int .i64, .int .i64] (s, at_, long, ())) = pMay1' it s at_ long := by kernel_rfl
def sp80 : FnSpec iseat.toSeat := mkSpec iseat.toSeat 80 [.Shift, .int .i64, .int .i64] [.bool] true (fun a => pMay1 a.1 a.2.1 a.2.2.1) (fun a x hx h h' => fn_contract (Z := iseat) (ats := [.Shift, .int .i64, .int .i64]) (ts := [.bool]) (E := E80) (fn := Tryd.f80) (c := bodyOf Tryd.f80) Tryd.func80 (by kernel_rfl) (by kernel_rfl) (by kernel_rfl) (by kernel_rfl) rfl ((e80 itN a.1 a.2.1 a.2.2.1).trans ((pMay1_eq a.1 a.2.1 a.2.2.1).symm.trans hx)) h h') (fun _ x => rfl)
def leftF' (it : It Bool) (long : Int) (a1 : Shift) (a2 : Int) : Option Bool :=
  (pMay1 a1 a2 long).bind fun r =>
  some (!r)
def leftF : Int → Shift → Int → Option Bool := opq (fun long a1 a2 => leftF' itN long a1 a2)
theorem leftF_eq (long : Int) (a1 : Shift) (a2 : Int) : leftF long a1 a2 = leftF' itN long a1 a2 := by unfold leftF; rw [opq_eq]
def E79 : FEnv iseat := ⟨⟨10, [sp80], [], [], [], [], [], [], [], [], [], [], [], true⟩, []⟩
theorem e79 (it : It Bool) (long : Int) (a1 : Shift) (a2 : Int) : fnRun (ts := [.bool]) it E79 (bodyOf Tryd.f79) Tryd.f79.results.toList (encA [.int .i64, .ptr .Shift, .ptr (.int .i64)] (long, a1, a2, ())) = leftF' it long a1 a2 := by kernel_rfl
def sp79 : FnSpec iseat.toSeat := mkSpec iseat.toSeat 79 [.int .i64, .ptr .Shift, .ptr (.int .i64)] [.bool] true (fun a => leftF a.1 a.2.1 a.2.2.1) (fun a x hx h h' => fn_contract (Z := iseat) (ats := [.int .i64, .ptr .Shift, .ptr (.int .i64)]) (ts := [.bool]) (E := E79) (fn := Tryd.f79) (c := bodyOf Tryd.f79) Tryd.func79 (by kernel_rfl) (by kernel_rfl) (by kernel_rfl) (by kernel_rfl) rfl ((e79 itN a.1 a.2.1 a.2.2.1).trans ((leftF_eq a.1 a.2.1 a.2.2.1).symm.trans hx)) h h') (fun _ x => rfl)
def sortSearch_L2 (f : (Shift × Int)) (i : Int) (j : Int) (kn_ : Int → Int → Option Int) : Option Int :=
  bif (decide (i < j)) then
    (leftF (w64 ((shrI .u64 (IntKind.u64.wrap ((w64 (i + j)))) 1))) f.1 f.2).bind fun r =>
    bif (!r) then
      kn_ (w64 ((w64 ((shrI .u64 (IntKind.u64.wrap ((w64 (i + j)))) 1))) + 1)) j
    else
      kn_ i (w64 ((shrI .u64 (IntKind.u64.wrap ((w64 (i + j)))) 1)))
  else
    some i
def sortSearch' (it : It Int) (n : Int) (f : (Shift × Int)) : Option Int :=
  it _ (fun (v_0 : (Int × Int × Unit) × (Unit)) kn => sortSearch_L2 f v_0.1.1 v_0.1.2.1 (fun y0 y1 => kn ((y0, y1, ()), (())))) ((0, n, ()), (()))
def sortSearch : Int → ((Shift × Int)) → Option Int := opq (fun n f => sortSearch' itN n f)
theorem sortSearch_eq (n : Int) (f : (Shift × Int)) : sortSearch n f = sortSearch' itN n f := by unfold sortSearch; rw [opq_eq]
def E78 : FEnv iseat := ⟨⟨26, [sp79], [], [], [], [], [], [], [], [], [], [], [], true⟩, [(2, ⟨⟨[(5, .v (.int .i64)), (6, .v (.int .i64))], []⟩, [1], [], []⟩)]⟩
theorem e78 (it : It Int) (n : Int) (f : (Shift × Int)) : fnRun (ts := [.int .i64]) it E78 (bodyOf Tryd.f78) Tryd.f78.results.toList (encA [.int .i64, .clo2 79 .Shift (.int .i64)] (n, f, ())) = sortSearch' it n f := by kernel_rfl
def sp78 : FnSpec iseat.toSeat := mkSpec iseat.toSeat 78 [.int .i64, .clo2 79 .Shift (.int .i64)] [.int .i64] true (fun a => sortSearch a.1 a.2.1) (fun a x hx h h' => fn_contract (Z := iseat) (ats := [.int .i64, .clo2 79 .Shift (.int .i64)]) (ts := [.int .i64]) (E := E78) (fn := Tryd.f78) (c := bodyOf Tryd.f78) Tryd.func78 (by kernel_rfl) (by kernel_rfl) (by kernel_rfl) (by kernel_rfl) rfl ((e78 itN a.1 a.2.1).trans ((sortSearch_eq a.1 a.2.1).symm.trans hx)) h h') (fun _ x => rfl)
def rules' (it : It Rules)  : Option Rules :=
  some (⟨4, 2, 10, 6⟩ : Rules)
def rules : Option Rules := opq (rules' itN)
theorem rules_eq  : rules  = rules' itN  := by unfold rules; rw [opq_eq]
def E53 : FEnv iseat := ⟨⟨2, [], [], [], [], [], [], [], [], [], [], [], [], true⟩, []⟩
theorem e53 (it : It Rules)  : fnRun (ts := [.Rules]) it E53 (bodyOf Tryd.f53) Tryd.f53.results.toList (encA [] (())) = rules' it  := by kernel_rfl
def sp53 : FnSpec iseat.toSeat := mkSpec iseat.toSeat 53 [] [.Rules] true (fun a => rules ) (fun a x hx h h' => fn_contract (Z := iseat) (ats := []) (ts := [.Rules]) (E := E53) (fn := Tryd.f53) (c := bodyOf Tryd.f53) Tryd.func53 (by kernel_rfl) (by kernel_rfl) (by kernel_rfl) (by kernel_rfl) rfl ((e53 itN ).trans ((rules_eq ).symm.trans hx)) h h') (fun _ x => rfl)
def span' (it : It Span) (low : Int) (high : Int) : Option Span :=
  some (⟨low, high⟩ : Span)
def span : Int → Int → Option Span := opq (fun low high => span' itN low high)
theorem span_eq (low : Int) (high : Int) : span low high = span' itN low high := by unfold span; rw [opq_eq]
def E56 : FEnv iseat := ⟨⟨8, [], [], [], [], [], [], [], [], [], [], [], [], true⟩, []⟩
theorem e56 (it : It Span) (low : Int) (high : Int) : fnRun (ts := [.Span]) it E56 (bodyOf Tryd.f56) Tryd.f56.results.toList (encA [.int .i64, .int .i64] (low, high, ())) = span' it low high := by kernel_rfl
def sp56 : FnSpec iseat.toSeat := mkSpec iseat.toSeat 56 [.int .i64, .int .i64] [.Span] true (fun a => span a.1 a.2.1) (fun a x hx h h' => fn_contract (Z := iseat) (ats := [.int .i64, .int .i64]) (ts := [.Span]) (E := E56) (fn := Tryd.f56) (c := bodyOf Tryd.f56) Tryd.func56 (by kernel_rfl) (by kernel_rfl) (by kernel_rfl) (by kernel_rfl) rfl ((e56 itN a.1 a.2.1).trans ((span_eq a.1 a.2.1).symm.trans hx)) h h') (fun _ x => rfl)
def one' (it : It Span) (n : Int) : Option Span :=
  (span n n).bind fun r =>
  some r
def one : Int → Option Span := opq (fun n => one' itN n)
theorem one_eq (n : Int) : one n = one' itN n := by unfold one; rw [opq_eq]
def E93 : FEnv iseat := ⟨⟨6, [sp56], [], [], [], [], [], [], [], [], [], [], [], true⟩, []⟩
theorem e93 (it : It Span) (n : Int) : fnRun (ts := [.Span]) it E93 (bodyOf Tryd.f93) Tryd.f93.results.toList (encA [.int .i64] (n, ())) = one' it n := by kernel_rfl
def sp93 : FnSpec iseat.toSeat := mkSpec iseat.toSeat 93 [.int .i64] [.Span] true (fun a => one a.1) (fun a x hx h h' => fn_contract (Z := iseat) (ats := [.int .i64]) (ts := [.Span]) (E := E93) (fn := Tryd.f93) (c := bodyOf Tryd.f93) Tryd.func93 (by kernel_rfl) (by kernel_rfl) (by kernel_rfl) (by kernel_rfl) rfl ((e93 itN a.1).trans ((one_eq a.1).symm.trans hx)) h h') (fun _ x => rfl)
def ann' (it : It Driver)  : Option Driver :=
  (one 0).bind fun r =>
  (one 3).bind fun r2 =>
  (span 4 5).bind fun r3 =>
  (span 6 7).bind fun r4 =>
  some (⟨(⟨#[97, 110, 110]⟩ : ByteArray), 3, ([(⟨r, r2⟩ : Turn), (⟨r3, r4⟩ : Turn)] : List Turn)⟩ : Driver)
def ann : Option Driver := opq (ann' itN)
theorem ann_eq  : ann  = ann' itN  := by unfold ann; rw [opq_eq]
def E54 : FEnv iseat := ⟨⟨9, [sp93, sp56], [], [], [], [], [], [], [], [], [], [], [], true⟩, []⟩
theorem e54 (it : It Driver)  : fnRun (ts := [.Driver]) it E54 (bodyOf Tryd.f54) Tryd.f54.results.toList (encA [] (())) = ann' it  := by kernel_rfl
def sp54 : FnSpec iseat.toSeat := mkSpec iseat.toSeat 54 [] [.Driver] false (fun a => ann ) (fun a x hx h h' => fn_contract (Z := iseat) (ats := []) (ts := [.Driver]) (E := E54) (fn := Tryd.f54) (c := bodyOf Tryd.f54) Tryd.func54 (by kernel_rfl) (by kernel_rfl) (by kernel_rfl) (by kernel_rfl) rfl ((e54 itN ).trans ((ann_eq ).symm.trans hx)) h h') (fun h => nomatch h)
def exact_L3 (l : List Int) (i : Int) (d_Name : ByteArray) (d_Skills : Int) (d_Turns : List Turn) (kn_ : Int → ByteArray → Int → (List Turn) → Option Driver) : Option Driver :=
  bif (decide (i < (l.length : Int))) then
    chk (decide (0 ≤ i) && decide (i < (l.length : Int))) <|
    (one (l.getD i.toNat 0)).bind fun r =>
    chk (decide (0 ≤ (w64 (i + 1))) && decide ((w64 (i + 1)) < (l.length : Int))) <|
    (one (l.getD (w64 (i + 1)).toNat 0)).bind fun r2 =>
    chk (fitA (d_Turns.length + ([(⟨r, r2⟩ : Turn)] : List Turn).length) 32) <|
    kn_ (w64 (i + 2)) d_Name d_Skills (d_Turns ++ ([(⟨r, r2⟩ : Turn)] : List Turn))
  else
    some (⟨d_Name, d_Skills, d_Turns⟩ : Driver)
def exact' (it : It Driver) (l : List Int) : Option Driver :=
  it _ (fun (v_0 : (Unit × Unit × Int × Unit) × ((ByteArray × Int × (List Turn) × Unit) × Unit)) kn => exact_L3 l v_0.1.2.2.1 v_0.2.1.1 v_0.2.1.2.1 v_0.2.1.2.2.1 (fun y0 y1 y2 y3 => kn (((), (), y0, ()), ((y1, y2, y3, ()), ())))) (((), (), 0, ()), (((⟨#[97, 110, 110]⟩ : ByteArray), 3, [], ()), ()))
def exact : (List Int) → Option Driver := opq (fun l => exact' itN l)
theorem exact_eq (l : List Int) : exact l = exact' itN l := by unfold exact; rw [opq_eq]
def E55 : FEnv iseat := ⟨⟨30, [sp93], [], [], [], [], [], [], [], [], [], [26], [], true⟩, [(3, ⟨⟨[(2, .bx 2 0), (3, .bx 3 0), (4, .v (.int .i64))], [(3, [.v .str, .v (.int .i64), .os 27 30 .Turn])]⟩, [0], [2], []⟩)]⟩
theorem e55 (it : It Driver) (l : List Int) : fnRun (ts := [.Driver]) it E55 (bodyOf Tryd.f55) Tryd.f55.results.toList (encA [.sl (.int .i64)] (l, ())) = exact' it l := by kernel_rfl
def sp55 : FnSpec iseat.toSeat := mkSpec iseat.toSeat 55 [.sl (.int .i64)] [.Driver] false (fun a => exact a.1) (fun a x hx h h' => fn_contract (Z := iseat) (ats := [.sl (.int .i64)]) (ts := [.Driver]) (E := E55) (fn := Tryd.f55) (c := bodyOf Tryd.f55) Tryd.func55 (by kernel_rfl) (by kernel_rfl) (by kernel_rfl) (by kernel_rfl) rfl ((e55 itN a.1).trans ((exact_eq a.1).symm.trans hx)) h h') (fun h => nomatch h)
end
end Go.Proofs.Crew
namespace Go.Proofs.Crew
open Go Go.Ab
open Go.Proofs.YthmgcjmoiilggaaDoor (iseat)
set_option linter.all false
set_option maxRecDepth 100000
noncomputable section
def Minutes_L9 (l : List Turn) (i : Int) (kn_ : (List Bool) → Int → Option (List Bool)) (out2 : List Bool) (m : Int) (kn_2 : (List Bool) → Int → Option (List Bool)) : Option (List Bool) :=
  bif (decide (m < (l.getD i.toNat dfltTurn).To.Hi)) then
    chk (decide (0 ≤ m) && decide (m < (out2.length : Int))) <|
    chk (decide (m.toNat < out2.length)) <|
    kn_2 (out2.set m.toNat true) (w64 (m + 1))
  else
    kn_ out2 (w64 (i + 1))
def Minutes_L9__2 (l : List Turn) (i : Int) (kn_ : (List Bool) → Int → Option (List Bool)) (out3 : List Bool) (m2 : Int) (kn_3 : (List Bool) → Int → Option (List Bool)) : Option (List Bool) :=
  bif (decide (m2 < (l.getD i.toNat dfltTurn).To.Lo)) then
    chk (decide (0 ≤ m2) && decide (m2 < (out3.length : Int))) <|
    chk (decide (m2.toNat < out3.length)) <|
    kn_3 (out3.set m2.toNat true) (w64 (m2 + 1))
  else
    kn_ out3 (w64 (i + 1))
def Minutes_L3 (it : It (List Bool)) (l : List Turn) (longest : Bool) (out : List Bool) (i : Int) (kn_ : (List Bool) → Int → Option (List Bool)) : Option (List Bool) :=
  bif (decide (i < (l.length : Int))) then
    chk (decide (0 ≤ i) && decide (i < (l.length : Int))) <|
    chk (decide (0 ≤ i) && decide (i < (l.length : Int))) <|
    bif longest then
      chk (decide (0 ≤ i) && decide (i < (l.length : Int))) <|
      chk (decide (0 ≤ i) && decide (i < (l.length : Int))) <|
      it _ (fun (v_0 : ((List Bool) × Int × Unit) × (Unit)) kn => Minutes_L9 l i kn_ v_0.1.1 v_0.1.2.1 (fun y0 y1 => kn ((y0, y1, ()), (())))) ((out, (l.getD i.toNat dfltTurn).From.Lo, ()), (()))
    else
      it _ (fun (v_0 : ((List Bool) × Int × Unit) × (Unit)) kn => Minutes_L9__2 l i kn_ v_0.1.1 v_0.1.2.1 (fun y0 y1 => kn ((y0, y1, ()), (())))) ((out, (l.getD i.toNat dfltTurn).From.Hi, ()), (()))
  else
    some out
def Minutes' (it : It (List Bool)) (l : List Turn) (longest : Bool) : Option (List Bool) :=
  chk (fitM 3000 1) <|
  it _ (fun (v_0 : ((List Bool) × Int × Unit) × (Unit)) kn => Minutes_L3 it l longest v_0.1.1 v_0.1.2.1 (fun y0 y1 => kn ((y0, y1, ()), (())))) (((List.replicate 3000 (false : Bool)), 0, ()), (()))
def Minutes : (List Turn) → Bool → Option (List Bool) := opq (fun l longest => Minutes' itN l longest)
theorem Minutes_eq (l : List Turn) (longest : Bool) : Minutes l longest = Minutes' itN l longest := by unfold Minutes; rw [opq_eq]
def E64 : FEnv iseat := ⟨⟨52, [], [], [], [], [], [], [], [], [], [], [], [], true⟩, [(3, ⟨⟨[(5, .os 10 4 .bool), (6, .v (.int .i64))], []⟩, [0, 1], [], []⟩), (9, ⟨⟨[(5, .os 10 4 .bool), (9, .v (.int .i64))], []⟩, [6, 8], [], []⟩)]⟩
theorem e64 (it : It (List Bool)) (l : List Turn) (longest : Bool) : fnRun (ts := [.sl .bool]) it E64 (bodyOf Tryd.f64) Tryd.f64.results.toList (encA [.sl .Turn, .bool] (l, longest, ())) = Minutes' it l longest := by kernel_rfl
def sp64 : FnSpec iseat.toSeat := mkSpec iseat.toSeat 64 [.sl .Turn, .bool] [.sl .bool] false (fun a => Minutes a.1 a.2.1) (fun a x hx h h' => fn_contract (Z := iseat) (ats := [.sl .Turn, .bool]) (ts := [.sl .bool]) (E := E64) (fn := Tryd.f64) (c := bodyOf Tryd.f64) Tryd.func64 (by kernel_rfl) (by kernel_rfl) (by kernel_rfl) (by kernel_rfl) rfl ((e64 itN a.1 a.2.1).trans ((Minutes_eq a.1 a.2.1).symm.trans hx)) h h') (fun h => nomatch h)
def Broken_L3 (drives : List Bool) (u : Rules) (run : Int) (idle : Int) (window : Int) (m : Int) (kn_ : Int → Int → Int → Int → Option (Int × Int)) : Option (Int × Int) :=
  bif (decide (m < (drives.length : Int))) then
    bif (decide (m ≥ u.Day)) then
      chk (decide (0 ≤ (w64 (m - u.Day))) && decide ((w64 (m - u.Day)) < (drives.length : Int))) <|
      bif (drives.getD (w64 (m - u.Day)).toNat false) then
        chk (decide (0 ≤ m) && decide (m < (drives.length : Int))) <|
        bif (!(drives.getD m.toNat false)) then
          bif (decide ((w64 (idle + 1)) ≥ u.Rest)) then
            kn_ 0 (w64 (idle + 1)) (w64 (window - 1)) (w64 (m + 1))
          else
            kn_ run (w64 (idle + 1)) (w64 (window - 1)) (w64 (m + 1))
        else
          bif (decide ((w64 (run + 1)) > u.Drive)) then
            some (1, m)
          else
            bif (decide ((w64 ((w64 (window - 1)) + 1)) > u.Most)) then
              some (2, m)
            else
              kn_ (w64 (run + 1)) 0 (w64 ((w64 (window - 1)) + 1)) (w64 (m + 1))
      else
        chk (decide (0 ≤ m) && decide (m < (drives.length : Int))) <|
        bif (!(drives.getD m.toNat false)) then
          bif (decide ((w64 (idle + 1)) ≥ u.Rest)) then
            kn_ 0 (w64 (idle + 1)) window (w64 (m + 1))
          else
            kn_ run (w64 (idle + 1)) window (w64 (m + 1))
        else
          bif (decide ((w64 (run + 1)) > u.Drive)) then
            some (1, m)
          else
            bif (decide ((w64 (window + 1)) > u.Most)) then
              some (2, m)
            else
              kn_ (w64 (run + 1)) 0 (w64 (window + 1)) (w64 (m + 1))
    else
      chk (decide (0 ≤ m) && decide (m < (drives.length : Int))) <|
      bif (!(drives.getD m.toNat false)) then
        bif (decide ((w64 (idle + 1)) ≥ u.Rest)) then
          kn_ 0 (w64 (idle + 1)) window (w64 (m + 1))
        else
          kn_ run (w64 (idle + 1)) window (w64 (m + 1))
      else
        bif (decide ((w64 (run + 1)) > u.Drive)) then
          some (1, m)
        else
          bif (decide ((w64 (window + 1)) > u.Most)) then
            some (2, m)
          else
            kn_ (w64 (run + 1)) 0 (w64 (window + 1)) (w64 (m + 1))
  else
    some (0, 0)
def Broken' (it : It (Int × Int)) (u : Rules) (drives : List Bool) : Option (Int × Int) :=
  it _ (fun (v_0 : (Unit × Int × Int × Int × Int × Unit) × (Unit)) kn => Broken_L3 drives u v_0.1.2.1 v_0.1.2.2.1 v_0.1.2.2.2.1 v_0.1.2.2.2.2.1 (fun y0 y1 y2 y3 => kn (((), y0, y1, y2, y3, ()), (())))) (((), 0, 0, 0, 0, ()), (()))
def Broken : Rules → (List Bool) → Option (Int × Int) := opq (fun u drives => Broken' itN u drives)
theorem Broken_eq (u : Rules) (drives : List Bool) : Broken u drives = Broken' itN u drives := by unfold Broken; rw [opq_eq]
def E63 : FEnv iseat := ⟨⟨56, [], [], [], [], [], [], [], [], [], [], [], [], true⟩, [(3, ⟨⟨[(2, .bx 2 0), (6, .v (.int .i64)), (7, .v (.int .i64)), (8, .v (.int .i64)), (9, .v (.int .i64))], []⟩, [1], [2], []⟩)]⟩
theorem e63 (it : It (Int × Int)) (u : Rules) (drives : List Bool) : fnRun (ts := [.int .i64, .int .i64]) it E63 (bodyOf Tryd.f63) Tryd.f63.results.toList (encA [.Rules, .sl .bool] (u, drives, ())) = Broken' it u drives := by kernel_rfl
def sp63 : FnSpec iseat.toSeat := mkSpec iseat.toSeat 63 [.Rules, .sl .bool] [.int .i64, .int .i64] true (fun a => Broken a.1 a.2.1) (fun a x hx h h' => fn_contract (Z := iseat) (ats := [.Rules, .sl .bool]) (ts := [.int .i64, .int .i64]) (E := E63) (fn := Tryd.f63) (c := bodyOf Tryd.f63) Tryd.func63 (by kernel_rfl) (by kernel_rfl) (by kernel_rfl) (by kernel_rfl) rfl ((e63 itN a.1 a.2.1).trans ((Broken_eq a.1 a.2.1).symm.trans hx)) h h') (fun _ x => rfl)
def rVerdict' (it : It Int) (u : Rules) (l : List Turn) : Option Int :=
  (Minutes l true).bind fun r =>
  (Broken u r).bind fun r2 =>
  bif (r2.1 == 0) then
    some 1
  else
    (Minutes l false).bind fun r3 =>
    (Broken u r3).bind fun r4 =>
    bif (r4.1 != 0) then
      some 2
    else
      some 3
def rVerdict : Rules → (List Turn) → Option Int := opq (fun u l => rVerdict' itN u l)
theorem rVerdict_eq (u : Rules) (l : List Turn) : rVerdict u l = rVerdict' itN u l := by unfold rVerdict; rw [opq_eq]
def E65 : FEnv iseat := ⟨⟨27, [sp64, sp63], [], [], [], [], [], [], [], [], [], [], [], true⟩, []⟩
theorem e65 (it : It Int) (u : Rules) (l : List Turn) : fnRun (ts := [.int .i64]) it E65 (bodyOf Tryd.f65) Tryd.f65.results.toList (encA [.Rules, .sl .Turn] (u, l, ())) = rVerdict' it u l := by kernel_rfl
def sp65 : FnSpec iseat.toSeat := mkSpec iseat.toSeat 65 [.Rules, .sl .Turn] [.int .i64] true (fun a => rVerdict a.1 a.2.1) (fun a x hx h h' => fn_contract (Z := iseat) (ats := [.Rules, .sl .Turn]) (ts := [.int .i64]) (E := E65) (fn := Tryd.f65) (c := bodyOf Tryd.f65) Tryd.func65 (by kernel_rfl) (by kernel_rfl) (by kernel_rfl) (by kernel_rfl) rfl ((e65 itN a.1 a.2.1).trans ((rVerdict_eq a.1 a.2.1).symm.trans hx)) h h') (fun _ x => rfl)
def rClashes_L2 (l : List Turn) (at_ : Int) (long : Int) (i : Int) (kn_ : Int → Option Bool) : Option Bool :=
  bif (decide (i < (l.length : Int))) then
    chk (decide (0 ≤ i) && decide (i < (l.length : Int))) <|
    bif (decide (at_ < (l.getD i.toNat dfltTurn).To.Hi)) then
      chk (decide (0 ≤ i) && decide (i < (l.length : Int))) <|
      bif (decide ((w64 (at_ + long)) > (l.getD i.toNat dfltTurn).From.Lo)) then
        some true
      else
        kn_ (w64 (i + 1))
    else
      kn_ (w64 (i + 1))
  else
    some false
def rClashes' (it : It Bool) (l : List Turn) (at_ : Int) (long : Int) : Option Bool :=
  it _ (fun (v_0 : (Int × Unit) × (Unit)) kn => rClashes_L2 l at_ long v_0.1.1 (fun y0 => kn ((y0, ()), (())))) ((0, ()), (()))
def rClashes : (List Turn) → Int → Int → Option Bool := opq (fun l at_ long => rClashes' itN l at_ long)
theorem rClashes_eq (l : List Turn) (at_ : Int) (long : Int) : rClashes l at_ long = rClashes' itN l at_ long := by unfold rClashes; rw [opq_eq]
def E91 : FEnv iseat := ⟨⟨34, [], [], [], [], [], [], [], [], [], [], [], [], true⟩, [(2, ⟨⟨[(7, .v (.int .i64))], []⟩, [0, 1, 2], [], []⟩)]⟩
theorem e91 (it : It Bool) (l : List Turn) (at_ : Int) (long : Int) : fnRun (ts := [.bool]) it E91 (bodyOf Tryd.f91) Tryd.f91.results.toList (encA [.sl .Turn, .int .i64, .int .i64] (l, at_, long, ())) = rClashes' it l at_ long := by kernel_rfl
def sp91 : FnSpec iseat.toSeat := mkSpec iseat.toSeat 91 [.sl .Turn, .int .i64, .int .i64] [.bool] true (fun a => rClashes a.1 a.2.1 a.2.2.1) (fun a x hx h h' => fn_contract (Z := iseat) (ats := [.sl .Turn, .int .i64, .int .i64]) (ts := [.bool]) (E := E91) (fn := Tryd.f91) (c := bodyOf Tryd.f91) Tryd.func91 (by kernel_rfl) (by kernel_rfl) (by kernel_rfl) (by kernel_rfl) rfl ((e91 itN a.1 a.2.1 a.2.2.1).trans ((rClashes_eq a.1 a.2.1 a.2.2.1).symm.trans hx)) h h') (fun _ x => rfl)
def withT' (it : It (List Turn)) (l : List Turn) (at_ : Int) (long : Int) : Option (List Turn) :=
  chk (fitA (([] : List Turn).length + l.length) 32) <|
  chk (fitA ((([] : List Turn) ++ l).length + ([(⟨⟨at_, at_⟩, ⟨(w64 (at_ + long)), (w64 (at_ + long))⟩⟩ : Turn)] : List Turn).length) 32) <|
  some ((([] : List Turn) ++ l) ++ ([(⟨⟨at_, at_⟩, ⟨(w64 (at_ + long)), (w64 (at_ + long))⟩⟩ : Turn)] : List Turn))
def withT : (List Turn) → Int → Int → Option (List Turn) := opq (fun l at_ long => withT' itN l at_ long)
theorem withT_eq (l : List Turn) (at_ : Int) (long : Int) : withT l at_ long = withT' itN l at_ long := by unfold withT; rw [opq_eq]
def E92 : FEnv iseat := ⟨⟨23, [], [], [], [], [], [], [], [], [], [], [21], [], true⟩, []⟩
theorem e92 (it : It (List Turn)) (l : List Turn) (at_ : Int) (long : Int) : fnRun (ts := [.sl .Turn]) it E92 (bodyOf Tryd.f92) Tryd.f92.results.toList (encA [.sl .Turn, .int .i64, .int .i64] (l, at_, long, ())) = withT' it l at_ long := by kernel_rfl
def sp92 : FnSpec iseat.toSeat := mkSpec iseat.toSeat 92 [.sl .Turn, .int .i64, .int .i64] [.sl .Turn] false (fun a => withT a.1 a.2.1 a.2.2.1) (fun a x hx h h' => fn_contract (Z := iseat) (ats := [.sl .Turn, .int .i64, .int .i64]) (ts := [.sl .Turn]) (E := E92) (fn := Tryd.f92) (c := bodyOf Tryd.f92) Tryd.func92 (by kernel_rfl) (by kernel_rfl) (by kernel_rfl) (by kernel_rfl) rfl ((e92 itN a.1 a.2.1 a.2.2.1).trans ((withT_eq a.1 a.2.1 a.2.2.1).symm.trans hx)) h h') (fun h => nomatch h)
def pCheckScale' (it : It Int) (s : Scale) : Option Int :=
  (within s.Zero 0 1000).bind fun r =>
  bif (!r) then
    some 2
  else
    (within s.Part 0 100000).bind fun r2 =>
    bif (!r2) then
      some 2
    else
      some 0
def pCheckScale : Scale → Option Int := opq (fun s => pCheckScale' itN s)
theorem pCheckScale_eq (s : Scale) : pCheckScale s = pCheckScale' itN s := by unfold pCheckScale; rw [opq_eq]
def E83 : FEnv iseat := ⟨⟨13, [sp66], [], [], [], [], [], [], [], [], [], [], [], true⟩, []⟩
theorem e83 (it : It Int) (s : Scale) : fnRun (ts := [.int .i64]) it E83 (bodyOf Tryd.f83) Tryd.f83.results.toList (encA [.Scale] (s, ())) = pCheckScale' it s := by kernel_rfl
def sp83 : FnSpec iseat.toSeat := mkSpec iseat.toSeat 83 [.Scale] [.int .i64] true (fun a => pCheckScale a.1) (fun a x hx h h' => fn_contract (Z := iseat) (ats := [.Scale]) (ts := [.int .i64]) (E := E83) (fn := Tryd.f83) (c := bodyOf Tryd.f83) Tryd.func83 (by kernel_rfl) (by kernel_rfl) (by kernel_rfl) (by kernel_rfl) rfl ((e83 itN a.1).trans ((pCheckScale_eq a.1).symm.trans hx)) h h') (fun _ x => rfl)
def pWeigh' (it : It (Span × Int)) (s : Scale) (reading : Int) : Option (Span × Int) :=
  (pCheckScale s).bind fun r =>
  bif (r != 0) then
    some ((⟨0, 0⟩ : Span), r)
  else
    (within reading 0 100000).bind fun r2 =>
    bif (!r2) then
      some ((⟨0, 0⟩ : Span), 2)
    else
      chk ((w64 (1000000 + s.Part)) != 0) <|
      chk ((w64 (1000000 - s.Part)) != 0) <|
      some ((⟨(w64 ((w64 ((w64 ((w64 ((max 0 (w64 (reading - s.Zero))) * 1000000)) + (w64 (1000000 + s.Part)))) - 1)).tdiv (w64 (1000000 + s.Part)))), (w64 ((w64 ((w64 (reading + s.Zero)) * 1000000)).tdiv (w64 (1000000 - s.Part))))⟩ : Span), 0)
def pWeigh : Scale → Int → Option (Span × Int) := opq (fun s reading => pWeigh' itN s reading)
theorem pWeigh_eq (s : Scale) (reading : Int) : pWeigh s reading = pWeigh' itN s reading := by unfold pWeigh; rw [opq_eq]
def E40 : FEnv iseat := ⟨⟨44, [sp83, sp66], [], [], [], [], [], [], [], [], [], [], [], true⟩, []⟩
theorem e40 (it : It (Span × Int)) (s : Scale) (reading : Int) : fnRun (ts := [.Span, .int .i64]) it E40 (bodyOf Tryd.f40) Tryd.f40.results.toList (encA [.Scale, .int .i64] (s, reading, ())) = pWeigh' it s reading := by kernel_rfl
def sp40 : FnSpec iseat.toSeat := mkSpec iseat.toSeat 40 [.Scale, .int .i64] [.Span, .int .i64] true (fun a => pWeigh a.1 a.2.1) (fun a x hx h h' => fn_contract (Z := iseat) (ats := [.Scale, .int .i64]) (ts := [.Span, .int .i64]) (E := E40) (fn := Tryd.f40) (c := bodyOf Tryd.f40) Tryd.func40 (by kernel_rfl) (by kernel_rfl) (by kernel_rfl) (by kernel_rfl) rfl ((e40 itN a.1 a.2.1).trans ((pWeigh_eq a.1 a.2.1).symm.trans hx)) h h') (fun _ x => rfl)
def Listed_L2 (l : List Int) (n : Int) (i : Int) (kn_ : Int → Option Bool) : Option Bool :=
  bif (decide (i < (l.length : Int))) then
    chk (decide (0 ≤ i) && decide (i < (l.length : Int))) <|
    bif ((l.getD i.toNat 0) == n) then
      some true
    else
      kn_ (w64 (i + 1))
  else
    some false
def Listed' (it : It Bool) (l : List Int) (n : Int) : Option Bool :=
  it _ (fun (v_0 : (Int × Unit) × (Unit)) kn => Listed_L2 l n v_0.1.1 (fun y0 => kn ((y0, ()), (())))) ((0, ()), (()))
def Listed : (List Int) → Int → Option Bool := opq (fun l n => Listed' itN l n)
theorem Listed_eq (l : List Int) (n : Int) : Listed l n = Listed' itN l n := by unfold Listed; rw [opq_eq]
def E51 : FEnv iseat := ⟨⟨18, [], [], [], [], [], [], [], [], [], [], [], [], true⟩, [(2, ⟨⟨[(5, .v (.int .i64))], []⟩, [0, 1], [], []⟩)]⟩
theorem e51 (it : It Bool) (l : List Int) (n : Int) : fnRun (ts := [.bool]) it E51 (bodyOf Tryd.f51) Tryd.f51.results.toList (encA [.sl (.int .i64), .int .i64] (l, n, ())) = Listed' it l n := by kernel_rfl
def sp51 : FnSpec iseat.toSeat := mkSpec iseat.toSeat 51 [.sl (.int .i64), .int .i64] [.bool] true (fun a => Listed a.1 a.2.1) (fun a x hx h h' => fn_contract (Z := iseat) (ats := [.sl (.int .i64), .int .i64]) (ts := [.bool]) (E := E51) (fn := Tryd.f51) (c := bodyOf Tryd.f51) Tryd.func51 (by kernel_rfl) (by kernel_rfl) (by kernel_rfl) (by kernel_rfl) rfl ((e51 itN a.1 a.2.1).trans ((Listed_eq a.1 a.2.1).symm.trans hx)) h h') (fun _ x => rfl)
end
end Go.Proofs.Crew
namespace Go.Proofs.Crew
open Go Go.Ab Go.RowKit Go.Shelf
open Go.Proofs.YthmgcjmoiilggaaDoor (iseat)
set_option linter.all false
def trimRen : Ren :=
{
  f := fun x =>
    match x with
    | 160 => 68
    | 232 => 97
    | 231 => 96
    | 227 => 98
    | 234 => 100
    | 233 => 99
    | 236 => 102
    | 235 => 101
    | 228 => 105
    | 271 => 108
    | 151 => 107
    | 197 => 106
    | 120 => 111
    | 152 => 110
    | 260 => 109
    | 137 => 112
    | 119 => 113
    | 224 => 114
    | 225 => 115
    | 217 => 116
    | 266 => 117
    | n => n,
  t := fun x =>
    match x with
    | 9 => 9
    | 4 => 4
    | 3 => 3
    | 5 => 5
    | 117 => 138
    | 116 => 137
    | 0 => 0
    | 124 => 141
    | 21 => 21
    | 105 => 145
    | 46 => 96
    | 119 => 149
    | 139 => 152
    | 138 => 151
    | n => n,
  g := fun x =>
    match x with
    | 3 => 0
    | 4 => 1
    | n => n }
theorem trimLays : Lays.n160 Tryd.prog trimRen := {
  mixed := by kernel_rfl
  f119 := Eq.trans Tryd.func113 (congrArg some (by kernel_rfl))
  f120 := Eq.trans Tryd.func111 (congrArg some (by kernel_rfl))
  f137 := Eq.trans Tryd.func112 (congrArg some (by kernel_rfl))
  f151 := Eq.trans Tryd.func107 (congrArg some (by kernel_rfl))
  f152 := Eq.trans Tryd.func110 (congrArg some (by kernel_rfl))
  f160 := Eq.trans Tryd.func68 (congrArg some (by kernel_rfl))
  f197 := Eq.trans Tryd.func106 (congrArg some (by kernel_rfl))
  f217 := Eq.trans Tryd.func116 (congrArg some (by kernel_rfl))
  f224 := Eq.trans Tryd.func114 (congrArg some (by kernel_rfl))
  f225 := Eq.trans Tryd.func115 (congrArg some (by kernel_rfl))
  f227 := Eq.trans Tryd.func98 (congrArg some (by kernel_rfl))
  f228 := Eq.trans Tryd.func105 (congrArg some (by kernel_rfl))
  f231 := Eq.trans Tryd.func96 (congrArg some (by kernel_rfl))
  f232 := Eq.trans Tryd.func97 (congrArg some (by kernel_rfl))
  f233 := Eq.trans Tryd.func99 (congrArg some (by kernel_rfl))
  f234 := Eq.trans Tryd.func100 (congrArg some (by kernel_rfl))
  f235 := Eq.trans Tryd.func101 (congrArg some (by kernel_rfl))
  f236 := Eq.trans Tryd.func102 (congrArg some (by kernel_rfl))
  f260 := Eq.trans Tryd.func109 (congrArg some (by kernel_rfl))
  f266 := Eq.trans Tryd.func117 (congrArg some (by kernel_rfl))
  f271 := Eq.trans Tryd.func108 (congrArg some (by kernel_rfl))
  t0 := Tryd.underlying0
  a0 := Tryd.isAgg0
  z0 := Tryd.sizeOf0
  v0 := Tryd.zeroValue0
  t3 := Tryd.underlying3
  a3 := Tryd.isAgg3
  z3 := Tryd.sizeOf3
  v3 := Tryd.zeroValue3
  t4 := Tryd.underlying4
  a4 := Tryd.isAgg4
  z4 := Tryd.sizeOf4
  v4 := Tryd.zeroValue4
  t5 := Tryd.underlying5
  a5 := Tryd.isAgg5
  z5 := Tryd.sizeOf5
  v5 := Tryd.zeroValue5
  t9 := Tryd.underlying9
  a9 := Tryd.isAgg9
  z9 := Tryd.sizeOf9
  v9 := Tryd.zeroValue9
  t21 := Tryd.underlying21
  a21 := Tryd.isAgg21
  z21 := Tryd.sizeOf21
  v21 := Tryd.zeroValue21
  t46 := Tryd.underlying96
  a46 := Tryd.isAgg96
  z46 := Tryd.sizeOf96
  v46 := Tryd.zeroValue96
  t105 := Tryd.underlying145
  a105 := Tryd.isAgg145
  z105 := Tryd.sizeOf145
  v105 := Tryd.zeroValue145
  t116 := Tryd.underlying137
  a116 := Tryd.isAgg137
  z116 := Tryd.sizeOf137
  t117 := Tryd.underlying138
  a117 := Tryd.isAgg138
  z117 := Tryd.sizeOf138
  v117 := Tryd.zeroValue138
  t119 := Tryd.underlying149
  a119 := Tryd.isAgg149
  z119 := Tryd.sizeOf149
  t124 := Tryd.underlying141
  a124 := Tryd.isAgg141
  z124 := Tryd.sizeOf141
  v124 := Tryd.zeroValue141
  t138 := Tryd.underlying151
  a138 := Tryd.isAgg151
  z138 := Tryd.sizeOf151
  v138 := Tryd.zeroValue151
  t139 := Tryd.underlying152
  a139 := Tryd.isAgg152
  z139 := Tryd.sizeOf152
  v139 := Tryd.zeroValue152
  g3 := by kernel_rfl
  g4 := by kernel_rfl
}
def okTrim (s cs : ByteArray) : Bool := decide (s.size ≤ 9223372036854775807) && decide (cs.size < 4294967281) && cs.data.toList.all (fun b => decide (b.toNat < 128))
def trimV (s cs : ByteArray) : ByteArray := ⟨(Lib.trimS s.data.toList cs.data.toList).toArray⟩
noncomputable def trim : ByteArray → ByteArray → Option ByteArray := opq (fun s cs => chk (okTrim s cs) (some (trimV s cs)))
theorem trim_eq (s cs : ByteArray) : trim s cs = chk (okTrim s cs) (some (trimV s cs)) := by unfold trim; rw [opq_eq]
theorem c68 (s cs : ByteArray) (h : okTrim s cs = true) : Contract iseat.toSeat 68 [.str s, .str cs] (.str (trimV s cs)) := by
  simp only [okTrim, Bool.and_eq_true, decide_eq_true_eq] at h
  refine ⟨PureL.cons (.str _) (PureL.cons (.str _) PureL.nil), .str _, ⟨Tryd.f68, _, Tryd.func68, rfl, by kernel_rfl⟩, fun w κ args _ _ hr => ?_⟩
  cases hr with
  | cons _ v1 _ vs h1 h2 =>
  cases h1
  cases h2 with
  | cons _ v2 _ vs h3 h4 =>
  cases h3
  cases h4
  have hcon := Any.strings_Trim_laid trimLays (by kernel_rfl) s cs w h.1.1 h.1.2 (ascii_of_all h.2)
  exact hcon.mono (fun e w' ⟨h1, h2⟩ => ⟨_, h1, .str _, h2⟩)
noncomputable def sp68 : FnSpec iseat.toSeat := mkSpec iseat.toSeat 68 [.str, .str] [.str] true (fun a => trim a.1 a.2.1) (fun a x hx h h' => by
  obtain ⟨s, cs, u⟩ := a
  simp only [trim_eq] at hx
  obtain ⟨hk, hx⟩ := chk_some hx
  simp only [Option.some.injEq] at hx
  subst hx
  exact c68 s cs hk) (fun _ x => rfl)
end Go.Proofs.Crew
