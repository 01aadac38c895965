/- Walks by computing: what each function of the program that the laws reach gives for what it gets, as plain Lean, and that it is so; without a condition but those that stand in each theorem. -/
import Derived.KernelRfl
import Derived.Test.YtoklcjdahicjmaaW1
import Derived.Test.YtoklcjdahicjmaaW2
import Derived.Test.YtoklcjdahicjmaaW3
set_option linter.all false
namespace Go.Ab
open Go Go.RowKit
noncomputable section
set_option linter.all false
set_option maxHeartbeats 1000000
@[reducible] def resD : List T → Type
  | [] => Unit
  | [t] => den t
  | t :: u :: ts => den t × resD (u :: ts)
def encRL : (ts : List T) → resD ts → List I
  | [], _ => []
  | [t], x => [encV t x]
  | t :: u :: ts, x => encV t x.1 :: encRL (u :: ts) x.2
def tupI : List I → I
  | [d] => d
  | ds => .tup ds
def encR (ts : List T) (x : resD ts) : I := tupI (encRL ts x)
def decR : (ts : List T) → List I → Option (resD ts)
  | [], [] => some ()
  | [t], [d] => decV t d
  | t :: u :: ts, d :: ds => (match decV t d with
    | some x => (match decR (u :: ts) ds with | some y => some (x, y) | none => none)
    | none => none)
  | _, _ => none
def decA : (ts : List T) → List I → Option (argD ts)
  | [], [] => some ()
  | t :: ts, d :: ds => (match decV t d with
    | some x => (match decA ts ds with | some y => some (x, y) | none => none)
    | none => none)
  | _, _ => none
section
variable {κ : Nat → Nat → Option Value} {sv : Nat → Value} {γ : Nat → Nat}
theorem encV_pure (h : Nat → Nat) (t : T) (x : den t) : Pure ((encV t x).toD h) := by
  have h1 := encD_pure t x
  rw [← toDL_enc h] at h1
  unfold encV
  cases isSt t with
  | true => exact .agg _ h1
  | false =>
    simp only [cond_false]
    split
    · rename_i d e; rw [e] at h1; exact h1 _ (List.mem_cons_self ..)
    · exact .undef
theorem encA_pure (h : Nat → Nat) : ∀ (ts : List T) (x : argD ts), PureL (I.toDL h (encA ts x))
  | [], _ => PureL.nil
  | t :: ts, x => PureL.cons (encV_pure h t _) (encA_pure h ts _)
theorem encRL_pure (h : Nat → Nat) : ∀ (ts : List T) (x : resD ts), PureL (I.toDL h (encRL ts x))
  | [], _ => PureL.nil
  | [t], x => PureL.cons (encV_pure h t _) PureL.nil
  | t :: u :: ts, x => PureL.cons (encV_pure h t _) (encRL_pure h (u :: ts) _)
theorem tupI_toD (h : Nat → Nat) : ∀ l : List I, (tupI l).toD h = tupOf (I.toDL h l)
  | [] => rfl
  | [d] => rfl
  | _ :: _ :: _ => rfl
theorem tupOf_pure : ∀ {l : List D}, PureL l → Pure (tupOf l)
  | [], h => .tup _ h
  | [d], h => h d (List.mem_cons_self ..)
  | _ :: _ :: _, h => .tup _ h
theorem encR_pure (h : Nat → Nat) (ts : List T) (x : resD ts) : Pure ((encR ts x).toD h) := by
  unfold encR
  rw [tupI_toD]
  exact tupOf_pure (encRL_pure h ts x)
theorem decA_rep {h h' : Nat → Nat} : ∀ {ts : List T} {ds : List I} {x : argD ts}, decA ts ds = some x → ∀ {vs : List Value}, RepL κ γ sv (I.toDL h ds) vs → RepL κ γ sv (I.toDL h' (encA ts x)) vs
  | [], [], x, hd, vs, hr => hr
  | [], _ :: _, x, hd, vs, hr => by cases hd
  | t :: ts, [], x, hd, vs, hr => by cases hd
  | t :: ts, d :: ds, x, hd, vs, hr => by
    simp only [decA] at hd
    split at hd
    · rename_i y hy
      split at hd
      · rename_i z hz
        simp only [Option.some.injEq] at hd
        subst hd
        cases hr with
        | cons _ v _ vs h1 h2 => exact .cons _ _ _ _ (decV_rep hy h1) (decA_rep hz h2)
      · cases hd
    · cases hd
theorem decR_rep {h h' : Nat → Nat} : ∀ {ts : List T} {ds : List I} {x : resD ts}, decR ts ds = some x → ∀ {vs : List Value}, RepL κ γ sv (I.toDL h ds) vs → RepL κ γ sv (I.toDL h' (encRL ts x)) vs
  | [], [], x, hd, vs, hr => hr
  | [], _ :: _, x, hd, vs, hr => by cases hd
  | [t], [], x, hd, vs, hr => by cases hd
  | [t], [d], x, hd, vs, hr => by
    cases hr with
    | cons _ v _ vs h1 h2 => cases h2; exact .cons _ _ _ _ (decV_rep hd h1) .nil
  | [t], _ :: _ :: _, x, hd, vs, hr => by cases hd
  | t :: u :: ts, [], x, hd, vs, hr => by cases hd
  | t :: u :: ts, d :: ds, x, hd, vs, hr => by
    simp only [decR] at hd
    split at hd
    · rename_i y hy
      split at hd
      · rename_i z hz
        simp only [Option.some.injEq] at hd
        subst hd
        cases hr with
        | cons _ v _ vs h1 h2 => exact .cons _ _ _ _ (decV_rep hy h1) (decR_rep hz h2)
      · cases hd
    · cases hd
theorem repL_tup {v : Value} : ∀ {ds ds' : List D}, ds'.length = ds.length → (∀ vs, RepL κ γ sv ds vs → RepL κ γ sv ds' vs) → Rep κ γ sv (tupOf ds) v → Rep κ γ sv (tupOf ds') v
  | [], [], _, h, hr => hr
  | [d], [d'], _, h, hr => by
    have := h [v] (.cons _ _ _ _ hr .nil)
    cases this with
    | cons _ _ _ _ h1 _ => exact h1
  | d :: d2 :: ds, d' :: d2' :: ds', _, h, hr => by
    cases hr with
    | tup _ vs hl => exact .tup _ vs (h vs hl)
  | [], _ :: _, hl, _, _ => by cases hl
  | [_], [], hl, _, _ => by cases hl
  | [_], _ :: _ :: _, hl, _, _ => by simp at hl
  | _ :: _ :: _, [], hl, _, _ => by cases hl
  | _ :: _ :: _, [_], hl, _, _ => by simp at hl
theorem decR_len : ∀ {ts : List T} {ds : List I} {x : resD ts}, decR ts ds = some x → (encRL ts x).length = ds.length
  | [], [], x, hd => rfl
  | [], _ :: _, x, hd => by cases hd
  | [t], [], x, hd => by cases hd
  | [t], [d], x, hd => rfl
  | [t], _ :: _ :: _, x, hd => by cases hd
  | t :: u :: ts, [], x, hd => by cases hd
  | t :: u :: ts, d :: ds, x, hd => by
    simp only [decR] at hd
    split at hd
    · split at hd
      · rename_i z hz
        simp only [Option.some.injEq] at hd
        subst hd
        simp only [encRL, List.length_cons, decR_len hz]
      · cases hd
    · cases hd
end
def FinN (X : Ctx) (rs : List ResultVar) (R : D) : Exit → St → Prop
  | .normal, S | .ret, S => ∃ S' ds, Wk X S S' ∧ ResL X S' rs ds ∧ ∀ κ γ sv v, Rep κ γ sv (tupOf ds) v → Rep κ γ sv R v
  | _, _ => False
theorem contract_introN {Z : Seat} {f : FuncId} {fn : Func} {c : Code} {A : List D} {R : D} (hf : Z.P.funcs[f]? = some fn) (hb : fn.body = some c) (hname : (fn.name == "runtime.NumGoroutine") = false) (hn : Nat.ble A.length fn.ntmps = true) (hA : PureL A) (hR : Pure R)
    (h : ∀ w κ, W (Ctx.plain Z fn.ntmps w κ none) c (FinN (Ctx.plain Z fn.ntmps w κ none) fn.results.toList R) (St.init A)) : Contract Z f A R := by
  refine ⟨hA, hR, ⟨fn, c, hf, hb, hname⟩, fun w κ args hκ hglob hrep => ?_⟩
  refine (callsIn_wide (n := 0)).1 (callsIn_of_wp_marks hf hb trivial ?_ rfl)
  have hlen : A.length ≤ fn.ntmps := Nat.le_of_ble_eq_true hn
  have hal := hrep.length
  have hsim : Sim (Ctx.plain Z fn.ntmps w κ none) κ sv0 (St.init A) { tmps := args.toArray ++ Array.replicate (fn.ntmps - args.toArray.size) Go.undef, defers := [] } w := by
    refine ⟨by simp [Ctx.plain]; omega, Dfr.nil rfl, fun i _ => slot_init hrep _ i, ?_⟩
    exact ⟨hκ, fun _ => trivial, (fun s t b hs => by cases hs), (fun s b o hs => by cases hs), (fun s b hs => by cases hs), ⟨fun _ => False, ⟨Frame.refl _ _, fun _ h => h.elim⟩, fun s b hs => by cases hs⟩, hglob, fun b o v _ hk => hk, (fun b hb => by cases hb), Nat.le_refl _, ⟨fun _ _ _ h => (by cases h), fun _ => Nat.zero_le _, fun _ _ => rfl⟩, fun _ _ _ _ h => h, fun _ _ _ h => h, fun _ h => h.elim⟩
  refine wpIn_mono (h w κ κ sv0 _ w hsim) ?_
  rintro e a' w' ⟨κ', sv', S', hs, hq⟩
  cases e <;> first | exact hq.elim | skip
  all_goals
    obtain ⟨S2, ds, hw, hd, hconv⟩ := hq
    obtain ⟨κ2, sv2, hs⟩ := hw _ _ _ _ hs
    obtain ⟨Ds, d1, d2, d3, _⟩ := hs.defers
    show LeavesInM _ _ _ _ _ _ a'.defers _ _
    rw [d1]
    refine leaves_of rfl plainF_turn hd (fun a w v hs h2 => ?_) Ds a' w' hs d1 d2 d3
    obtain ⟨M, h1, _⟩ := hs.wld.frame
    exact ⟨v, rfl, (hconv _ _ _ _ h2).pure (fits_grow hs.wld) hR, h1.1.below⟩
section
variable {R : Type} {X : Ctx} {Z : ISeat} {r : R}
def enum : Nat → List I → List (Nat × I)
  | _, [] => []
  | n, d :: l => (n, d) :: enum (n + 1) l
def initS (A : List I) : IS := ⟨enum 0 A, [], []⟩
theorem look_enum (h : Nat → Nat) : ∀ (A : List I) (n i : Nat), n ≤ i → (look .undef (enum n A) i).toD h = match nth (I.toDL h A) (i - n) with | some d => d | none => .undef
  | [], n, i, _ => rfl
  | d :: A, n, i, hi => by
    simp only [enum, look]
    cases hb : Nat.beq i n with
    | true => have := Nat.eq_of_beq_eq_true hb; subst this; rw [Nat.sub_self]; rfl
    | false =>
      have hne : i ≠ n := fun e => by rw [e, Nat.beq_refl] at hb; cases hb
      simp only [cond_false]
      rw [look_enum h A (n + 1) i (by omega)]
      obtain ⟨k, hk⟩ : ∃ k, i - n = k + 1 := ⟨i - n - 1, by omega⟩
      rw [hk, show i - (n + 1) = k by omega]
      rfl
theorem toSt_init (A : List I) : (initS A).toSt zh = St.init (I.toDL zh A) := by
  unfold IS.toSt St.init initS
  congr 1
  funext i
  exact look_enum zh A 0 i (Nat.zero_le _)
def resI (Z : ISeat) (nt : Nat) (S : IS) : ResultVar → Option I
  | .tmp t => some (S.ev Z nt (.tmp t))
  | .cell p ty => (match S.ev Z nt (.tmp p) with
    | .bx s g j => rowOf Z ty fun q => live S s g (match S.own s with
      | .box l => bif isAg q then (match takeP q.sz (dropP j l) with | some m => some (.agg m) | none => none) else nth l j
      | _ => none)
    | _ => none)
def resIL (Z : ISeat) (nt : Nat) (S : IS) : List ResultVar → Option (List I)
  | [] => some []
  | v :: l => (match resI Z nt S v with
    | some d => (match resIL Z nt S l with | some ds => some (d :: ds) | none => none)
    | none => none)
theorem resI_ok {nt : Nat} (hX : At X Z nt) {S : IS} {h : Nat → Nat} {rv : ResultVar} {d : I} (hr : resI Z nt S rv = some d) : ResV X (S.toSt h) rv (d.toD h) := by
  cases rv with
  | tmp t =>
    simp only [resI, Option.some.injEq] at hr
    subst hr
    exact ev_toSt hX _
  | cell p ty =>
    simp only [resI] at hr
    split at hr
    · rename_i s g j hx
      replace hr := rowOf_ok hr
      obtain ⟨q, hq, h9, hr⟩ := hr
      replace hr := live_ok hr
      obtain ⟨rfl, hr⟩ := hr
      split at hr
      · rename_i l hσ
        refine ⟨s, _, j, I.toDL h l, q, (ev_toSt hX _).trans (by rw [hx]; rfl), rfl, ?_, by rw [hX.Z]; exact hq, h9, ?_⟩
        · show (S.own s).toOwn h = _
          rw [hσ]; rfl
        · cases ha : isAg q with
          | true =>
            rw [ha] at hr
            simp only [cond_true] at hr
            split at hr
            · rename_i m hm
              simp only [Option.some.injEq] at hr
              subst hr
              exact .inl ⟨ha, _, by rw [drop_map]; exact take_map h hm, rfl⟩
            · cases hr
          | false =>
            rw [ha] at hr
            exact .inr ⟨ha, nth_map h hr⟩
      · cases hr
    · cases hr
theorem resIL_ok {nt : Nat} (hX : At X Z nt) {S : IS} {h : Nat → Nat} : ∀ {l : List ResultVar} {ds : List I}, resIL Z nt S l = some ds → ResL X (S.toSt h) l (I.toDL h ds)
  | [], ds, hr => by simp [resIL] at hr; subst hr; trivial
  | v :: l, ds, hr => by
    simp only [resIL] at hr
    split at hr
    · rename_i d hd
      split at hr
      · rename_i ds' hds
        simp only [Option.some.injEq] at hr
        subst hr
        exact ⟨resI_ok hX hd, resIL_ok hX hds⟩
      · cases hr
    · cases hr
def finK (Z : ISeat) (nt : Nat) (rv : List ResultVar) (ts : List T) (S : IS) : Option (resD ts) := match resIL Z nt S rv with
  | some ds => (match resIL Z nt (frz S (arrsOf S (plIL ds))) rv with
    | some ds => decR ts ds
    | none => none)
  | none => none
def finX (Z : ISeat) (nt : Nat) (rv : List ResultVar) (ts : List T) (e : Option Nat) (S : IS) : Option (resD ts) := match e with
  | none => finK Z nt rv ts S
  | some _ => none
theorem finK_ok {nt : Nat} (hX : At X Z nt) {rv : List ResultVar} {ts : List T} {S : IS} {x : resD ts} {h h' : Nat → Nat} (hr : finK Z nt rv ts S = some x) :
    ∃ S' ds, Wk X (S.toSt h) S' ∧ ResL X S' rv ds ∧ ∀ κ γ sv v, Rep κ γ sv (tupOf ds) v → Rep κ γ sv ((encR ts x).toD h') v := by
  unfold finK at hr
  split at hr
  · rename_i ds0 _
    split at hr
    · rename_i ds hds
      refine ⟨_, _, frz_ok (arrsOf S (plIL ds0)) S, resIL_ok hX hds, fun κ γ sv v hv => ?_⟩
      unfold encR
      rw [tupI_toD]
      exact repL_tup (by simp only [toDL_len, decR_len hr]) (fun vs hvs => decR_rep hr hvs) hv
    · cases hr
  · cases hr
def fnRun {ts : List T} (it : It (resD ts)) (E : FEnv Z) (c : Code) (rv : List ResultVar) (A : List I) : Option (resD ts) :=
  runC it E c ⟨[], []⟩ (initS A) (finK Z E.nt rv ts) (finX Z E.nt rv ts)
theorem fn_contract {ts ats : List T} {E : FEnv Z} {f : FuncId} {fn : Func} {c : Code} (hf : Z.P.funcs[f]? = some fn) (hb : fn.body = some c) (hname : (fn.name == "runtime.NumGoroutine") = false) (hn : Nat.beq fn.ntmps E.nt = true) (hl : Nat.ble ats.length fn.ntmps = true) (hp : E.pin = [])
    {a : argD ats} {x : resD ts} (hr : fnRun itN E c fn.results.toList (encA ats a) = some x) (h h' : Nat → Nat) : Contract Z.toSeat f (I.toDL h (encA ats a)) ((encR ts x).toD h') := by
  have hal : ∀ (ats : List T) (a : argD ats), (encA ats a).length = ats.length := fun ats => by
    induction ats with
    | nil => intro a; rfl
    | cons t ats ih => intro a; simp only [encA, List.length_cons, ih]
  have hz : I.toDL h (encA ats a) = I.toDL zh (encA ats a) := by
    have key : ∀ (t : T) (x : den t), (encV t x).toD h = (encV t x).toD zh := fun t x => by
      unfold encV
      cases isSt t with
      | true => simp only [cond_true, I.toD, toDL_enc]
      | false =>
        simp only [cond_false]
        split
        · rename_i d e
          have h1 := toDL_enc h t x
          rw [← toDL_enc zh, e] at h1
          simpa [I.toDL] using h1
        · rfl
    have : ∀ (ats : List T) (a : argD ats), I.toDL h (encA ats a) = I.toDL zh (encA ats a) := fun ats => by
      induction ats with
      | nil => intro a; rfl
      | cons t ats ih => intro a; simp only [encA, I.toDL, ih, key]
    exact this ats a
  rw [hz]
  refine contract_introN hf hb hname (by rw [toDL_len, hal]; exact hl) (encA_pure _ _ _) (encR_pure _ _ _) fun w κ => ?_
  have hX : At (Ctx.plain Z.toSeat fn.ntmps w κ none) Z E.nt := ⟨rfl, Nat.eq_of_beq_eq_true hn⟩
  rw [← toSt_init]
  refine W_mono (run_ok c hX (fun _ => ⟨_, _, _, _, _, rfl⟩) (g0 := zh) ⟨[], []⟩ rfl _ _ _ zh ⟨(fun g hg => by rw [hp] at hg; cases hg), ⟨(fun p hp => (nomatch hp)), (fun p hp => (nomatch hp))⟩⟩ hr) ?_
  rintro e T ⟨h2, S, rfl, _, hq⟩
  cases e with
  | normal => exact finK_ok hX hq
  | ret => exact finK_ok hX hq
  | exit i => simp only [finX] at hq; cases hq
  | _ => exact hq.elim
theorem contract_dec {Z : Seat} {f : FuncId} {ats : List T} {ds : List I} {a : argD ats} {R : D} {h : Nat → Nat} (hd : decA ats ds = some a) (hp : PureL (I.toDL h ds)) (hc : Contract Z f (I.toDL h (encA ats a)) R) : Contract Z f (I.toDL h ds) R :=
  ⟨hp, hc.pureR, hc.body, fun w κ args hf hg hr => hc.calls w κ args hf hg (decA_rep hd hr)⟩
theorem decV_pure {t : T} {d : I} {x : den t} (hd : decV t d = some x) (h : Nat → Nat) : Pure (d.toD h) := by
  have key : ∀ {l m : List I}, NilIL l m → PureL (I.toDL h m) → PureL (I.toDL h l) := fun {l m} hn => by
    induction hn with
    | nil => exact fun _ => PureL.nil
    | cons h1 _ ih =>
      intro hp
      refine PureL.cons ?_ (ih fun d hd => hp d (List.mem_cons_of_mem _ hd))
      cases h1 with
      | same => exact hp _ (List.mem_cons_self ..)
      | nil => exact .nil
  unfold decV at hd
  have he := encD_pure t x
  rw [← toDL_enc h] at he
  cases hi : isSt t with
  | true =>
    rw [hi] at hd
    simp only [cond_true] at hd
    split at hd
    · exact .agg _ (key (decC_ok t hd) he)
    · cases hd
  | false =>
    rw [hi] at hd
    exact key (decC_ok t hd) he _ (List.mem_cons_self ..)
theorem decA_pure {h : Nat → Nat} : ∀ {ts : List T} {ds : List I} {x : argD ts}, decA ts ds = some x → PureL (I.toDL h ds)
  | [], [], x, hd => PureL.nil
  | [], _ :: _, x, hd => by cases hd
  | t :: ts, [], x, hd => by cases hd
  | t :: ts, d :: ds, x, hd => by
    simp only [decA] at hd
    split at hd
    · rename_i y hy
      split at hd
      · rename_i z hz; exact PureL.cons (decV_pure hy h) (decA_pure hz)
      · cases hd
    · cases hd
def scC : List I → Bool
  | [] => true
  | .int _ _ :: l => scC l
  | .bool _ :: l => scC l
  | .str _ :: l => scC l
  | _ :: _ => false
theorem scC_ok {h : Nat → Nat} : ∀ {l : List I}, scC l = true → ∃ vs, scalL (I.toDL h l) = some vs
  | [], _ => ⟨[], rfl⟩
  | d :: l, hc => by
    cases d <;> try (cases hc; done)
    all_goals
      obtain ⟨vs, hv⟩ := scC_ok (h := h) (l := l) hc
      exact ⟨_, by simp only [I.toDL, I.toD, scalL, scal1, hv]; rfl⟩
def scV : I → Bool
  | .agg l => scC l
  | d => scC [d]
theorem scV_ok {h : Nat → Nat} {d : I} (hc : scV d = true) : ∃ v, scal2 (d.toD h) = some v := by
  cases d <;> try (cases hc; done)
  · exact ⟨_, rfl⟩
  · exact ⟨_, rfl⟩
  · exact ⟨_, rfl⟩
  · obtain ⟨vs, hv⟩ := scC_ok (h := h) hc
    exact ⟨_, by simp only [I.toD, scal2, hv, Option.map_some]; rfl⟩
def scL : List I → Bool
  | [] => true
  | d :: l => scV d && scL l
theorem scL_ok {h : Nat → Nat} : ∀ {l : List I}, scL l = true → ∃ vs, scalL2 (I.toDL h l) = some vs
  | [], _ => ⟨[], rfl⟩
  | d :: l, hc => by
    simp only [scL, Bool.and_eq_true] at hc
    obtain ⟨v, hv⟩ := scV_ok (h := h) hc.1
    obtain ⟨vs, hvs⟩ := scL_ok (h := h) hc.2
    exact ⟨_, by simp only [I.toDL, scalL2, hv, hvs]; rfl⟩
theorem scal_of2 {d : D} {v : Value} (h : scal2 d = some v) : scal d = some v := by
  unfold scal
  split
  · simp [scal2, scal1] at h
  · exact h
theorem sc_ok {h : Nat → Nat} {ts : List T} {x : resD ts} (hc : scL (encRL ts x) = true) : ∃ v, scal ((encR ts x).toD h) = some v := by
  unfold encR
  rw [tupI_toD]
  generalize encRL ts x = l at hc ⊢
  match l, hc with
  | [], _ => exact ⟨_, rfl⟩
  | [d], hc =>
    simp only [scL, Bool.and_true] at hc
    obtain ⟨v, hv⟩ := scV_ok (h := h) hc
    exact ⟨v, scal_of2 hv⟩
  | d :: d2 :: l, hc =>
    obtain ⟨vs, hv⟩ := scL_ok (h := h) hc
    exact ⟨_, by show (scalL2 (I.toDL h (d :: d2 :: l))).map _ = _; rw [hv]; rfl⟩
def mkSpec (Z : Seat) (f : FuncId) (ats ts : List T) (sc : Bool) (F : argD ats → Option (resD ts)) (hF : ∀ a x, F a = some x → ∀ h h', Contract Z f (I.toDL h (encA ats a)) ((encR ts x).toD h')) (hsc : sc = true → ∀ x : resD ts, scL (encRL ts x) = true) : FnSpec Z where
  f := f
  sc := sc
  app := fun A k => match decA ats A with | some a => (F a).bind (fun x => k (encR ts x)) | none => none
  ok := fun A k r h => by
    split at h
    · rename_i a ha
      cases hx : F a with
      | none => rw [hx] at h; cases h
      | some x =>
        rw [hx] at h
        exact ⟨_, h, fun h => ⟨contract_dec ha (decA_pure ha) (hF a x hx h h), fun e => sc_ok (hsc e x)⟩⟩
    · cases h
end
end
end Go.Ab
namespace Go.Ab
open Go Go.RowKit
set_option linter.all false
def tyChk (tab : List TRow) : List (Nat × T) → Bool
  | [] => true
  | (E, t) :: l => (match nth tab E with | some q => !(Nat.beq q.k 9) && Nat.beq q.sz (sz t) && Nat.beq q.zs.length (sz t) | none => true) && tyChk tab l
def ikChk (P : Program) : List (Nat × IntKind) → Bool
  | [] => true
  | (t, k) :: l => (match P.underlying t with | some (.int k') => decide (k' = k) | _ => false) && ikChk P l
def isBChk (P : Program) : List Nat → Bool
  | [] => true
  | t :: l => (match P.underlying t with | some .bool => true | _ => false) && isBChk P l
theorem find_mem {α : Type} : ∀ {l : List (Nat × α)} {i : Nat} {a : α}, find l i = some a → (i, a) ∈ l
  | (j, b) :: l, i, a, h => by
    simp only [find] at h
    cases hb : Nat.beq i j with
    | true => rw [hb] at h; simp at h; subst h; rw [Nat.eq_of_beq_eq_true hb]; exact List.mem_cons_self ..
    | false => rw [hb] at h; exact List.mem_cons_of_mem _ (find_mem h)
theorem tyChk_ok {tab : List TRow} : ∀ {l : List (Nat × T)}, tyChk tab l = true → ∀ p ∈ l, ∀ q, nth tab p.1 = some q → Nat.beq q.k 9 = false ∧ q.sz = sz p.2 ∧ q.zs.length = sz p.2
  | (E, t) :: l, h, p, hp, q, hq => by
    simp only [tyChk, Bool.and_eq_true] at h
    rcases List.mem_cons.1 hp with rfl | hp
    · have h1 := h.1
      simp only [hq, Bool.and_eq_true, Bool.not_eq_true'] at h1
      exact ⟨h1.1.1, Nat.eq_of_beq_eq_true h1.1.2, Nat.eq_of_beq_eq_true h1.2⟩
    · exact tyChk_ok h.2 p hp q hq
theorem ikChk_ok {P : Program} : ∀ {l : List (Nat × IntKind)}, ikChk P l = true → ∀ p ∈ l, P.underlying p.1 = some (.int p.2)
  | (t, k) :: l, h, p, hp => by
    simp only [ikChk, Bool.and_eq_true] at h
    rcases List.mem_cons.1 hp with rfl | hp
    · have h1 := h.1
      split at h1
      · rename_i k' hk; rw [hk, of_decide_eq_true h1]
      · cases h1
    · exact ikChk_ok h.2 p hp
theorem isBChk_ok {P : Program} : ∀ {l : List Nat}, isBChk P l = true → ∀ t ∈ l, P.underlying t = some .bool
  | t :: l, h, p, hp => by
    simp only [isBChk, Bool.and_eq_true] at h
    rcases List.mem_cons.1 hp with rfl | hp
    · have h1 := h.1
      split at h1
      · assumption
      · cases h1
    · exact isBChk_ok h.2 p hp
def isFChk (P : Program) : List Nat → Bool
  | [] => true
  | t :: l => (match P.underlying t with | some (.func _ _ _) => true | some (.map _ _) => true | _ => false) && isFChk P l
theorem isFChk_ok {P : Program} : ∀ {l : List Nat}, isFChk P l = true → ∀ t ∈ l, ∃ d, P.underlying t = some d ∧ aggOf P t = false
  | t :: l, h, p, hp => by
    simp only [isFChk, Bool.and_eq_true] at h
    rcases List.mem_cons.1 hp with rfl | hp
    · have h1 := h.1
      split at h1
      · rename_i hu; exact ⟨_, hu, by unfold aggOf; rw [hu]⟩
      · rename_i hu; exact ⟨_, hu, by unfold aggOf; rw [hu]⟩
      · cases h1
    · exact isFChk_ok h.2 p hp
def isSChk (P : Program) : List Nat → Bool
  | [] => true
  | t :: l => (match P.underlying t with | some .string => true | _ => false) && isSChk P l
theorem isSChk_ok {P : Program} : ∀ {l : List Nat}, isSChk P l = true → ∀ t ∈ l, P.underlying t = some .string
  | t :: l, h, p, hp => by
    simp only [isSChk, Bool.and_eq_true] at h
    rcases List.mem_cons.1 hp with rfl | hp
    · have h1 := h.1
      split at h1
      · assumption
      · cases h1
    · exact isSChk_ok h.2 p hp
def isMChk (P : Program) : List Nat → Bool
  | [] => true
  | t :: l => (match P.underlying t with
    | some (.map k e) => (match P.underlying k, P.info? e with
      | some (.int .i64), some i => (match i.zero with | some (.int .i64 n) => decide (n = 0) | _ => false)
      | _, _ => false)
    | _ => false) && isMChk P l
theorem isMChk_ok {P : Program} : ∀ {l : List Nat}, isMChk P l = true → ∀ t ∈ l, MapTy P t
  | t :: l, h, p, hp => by
    simp only [isMChk, Bool.and_eq_true] at h
    rcases List.mem_cons.1 hp with rfl | hp
    · have h1 := h.1
      split at h1
      · rename_i k e hu
        split at h1
        · rename_i i hk he
          split at h1
          · rename_i n hz
            have := of_decide_eq_true h1
            subst this
            exact ⟨k, e, i, hu, hk, he, hz⟩
          · cases h1
        · cases h1
      · cases h1
    · exact isMChk_ok h.2 p hp
noncomputable def mkISeat (Z : Seat) (gl : List (Nat × List I)) (tys : List (Nat × T)) (iks : List (Nat × IntKind)) (bs fs ss ms : List Nat) (h1 : ∀ g h, Z.glob g = (find gl g).map (I.toDL h)) (h2 : tyChk Z.tab tys = true) (h3 : ikChk Z.P iks = true) (h4 : isBChk Z.P bs = true) (h5 : isFChk Z.P fs = true) (h6 : isSChk Z.P ss = true) (h7 : isMChk Z.P ms = true) : ISeat :=
  { Z with
    gI := find gl, gI_ok := h1, ty := find tys, ik := find iks, isB := fun t => memN t bs
    ty_ok := fun E t q hE hq => tyChk_ok h2 (E, t) (find_mem hE) q hq
    ik_ok := fun t k hk => ikChk_ok h3 (t, k) (find_mem hk)
    isB_ok := fun t ht => isBChk_ok h4 t (memN_iff.1 ht), isF := fun t => memN t fs, isF_ok := fun t ht => isFChk_ok h5 t (memN_iff.1 ht), isS := fun t => memN t ss, isS_ok := fun t ht => isSChk_ok h6 t (memN_iff.1 ht), isM := fun t => memN t ms, isM_ok := fun t ht => isMChk_ok h7 t (memN_iff.1 ht) }
end Go.Ab
