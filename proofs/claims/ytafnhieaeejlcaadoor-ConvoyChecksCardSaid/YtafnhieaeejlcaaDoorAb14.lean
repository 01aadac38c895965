/- The rules for regions that draw their order: one for each kind of operation. -/
import Derived.Test.YtafnhieaeejlcaaDoorAb13
set_option linter.all false
namespace Go.Ab
open Go Go.RowKit

/-- A state of which only what is read is known. -/
def restr (S : St) (lc : Lc) (h : Nat → Nat) : St := ⟨fun i => bif memN i lc.rr then S.ρ i else .undef, fun s => bif memN s lc.rg then S.γ s else h s, fun s => bif memN s lc.ro then S.σ s else .none⟩

def slotsOf : List Operand → List Nat
  | [] => []
  | .tmp t :: l => t :: slotsOf l
  | _ :: l => slotsOf l
mutual
def plD : D → List Nat
  | .bx s _ _ => [s]
  | .os s _ => [s]
  | .op s _ _ _ _ => [s]
  | .agg l => plL l
  | .tup l => plL l
  | .fn _ l => plL l
  | .mf _ l => plL l
  | _ => []
def plL : List D → List Nat
  | [] => []
  | d :: l => plD d ++ plL l
end
def plS (X : Ctx) (S : St) : List Operand → List Nat
  | [] => []
  | x :: l => plD (S.ev X x) ++ plS X S l
/-- Which operations look at ages (1), and at what places hold (2). -/
def lvl (o : Oper) : Nat := match o.op with
  | .move _ | .assign _ | .pick .. | .binOp .. | .unOp .. | .extract .. | .build .. | .convert .. | .field .. => 0
  | .fieldAddr .. | .nilCheck _ => 1
  | _ => 2
def lcOf (X : Ctx) (S : St) (o : Oper) : Lc :=
  ⟨slotsOf o.op.operands.toList, (match lvl o with | 0 => [] | _ => plS X S o.op.operands.toList), (match lvl o with | 0 => [] | 1 => [] | _ => plS X S o.op.operands.toList)⟩
def Lc.plus (lc : Lc) (gs : List Nat) (as : List Nat) : Lc := ⟨gs ++ lc.rr, as ++ lc.rg, lc.ro⟩

section
variable {X : Ctx} {Q : Exit → St → Prop} {S S' T : St}
theorem slots_mem {t : Nat} : ∀ {l : List Operand}, Operand.tmp t ∈ l → t ∈ slotsOf l
  | [], h => by cases h
  | x :: l, h => by
    rcases List.mem_cons.1 h with rfl | h
    · simp [slotsOf]
    · have := slots_mem h
      cases x <;> simp [slotsOf, this]
theorem ev_congr {x : Operand} (h : ∀ t, x = .tmp t → T.ρ t = S.ρ t) : T.ev X x = S.ev X x := by
  cases x with
  | tmp t => simp only [St.ev, h t rfl]
  | _ => rfl
theorem pl_mem {x : Operand} {s : Nat} : ∀ {l : List Operand}, x ∈ l → s ∈ plD (S.ev X x) → s ∈ plS X S l
  | [], h, _ => by cases h
  | y :: l, h, hs => by
    unfold plS
    rcases List.mem_cons.1 h with rfl | h
    · exact List.mem_append_left _ hs
    · exact List.mem_append_right _ (pl_mem h hs)

theorem sim_gen {κ : Nat → Nat → Option Value} {sv : Nat → Value} {a : Act} {w : World} (h1 : ∀ i, S'.ρ i = .undef ∨ S'.ρ i = S.ρ i) (h2 : ∀ s, S.γ s ≤ S'.γ s) (h3 : ∀ s, S'.σ s = .none ∨ S'.σ s = S.σ s) (hs : Sim X κ sv S a w) : Sim X κ sv S' a w := by
  have hle : Le κ κ S.γ S'.γ sv sv := ⟨fun _ _ _ h => h, h2, fun _ _ => rfl⟩
  refine ⟨hs.size, hs.defers, fun i hi => ?_, ?_⟩
  · rcases h1 i with h | h
    · rw [h]; exact .undef _
    · rw [h]; exact (hs.slot i hi).mono hle
  · obtain ⟨w1, w2, w3, w4, w5, ⟨M, w6, w6'⟩, w7, w8, w9, w10, w11, w12, w13, w14⟩ := hs.wld
    have hb : ∀ t b, blk (S'.σ t) (sv t) = some b → blk (S.σ t) (sv t) = some b := by
      intro t b h
      rcases h3 t with e | e
      · rw [e] at h; cases h
      · rw [← e]; exact h
    refine ⟨w1, fun s => ?_, fun s t b hs' ht => w3 s t b (hb s b hs') (hb t b ht), fun s b o h => w4 s b o (hb s b h), fun s b h => w5 s b (hb s b h), ⟨M, w6, fun s b h => w6' s b (hb s b h)⟩, fun g l hg => ?_, w8, fun b hb' => ?_, w10, w11.trans hle, w12, fun s b h => w13 s b (hb s b h), w14⟩
    · rcases h3 s with e | e
      · rw [e]; trivial
      · rw [e]; exact owns_mono hle rfl (fun _ _ => rfl) (w2 s)
    · obtain ⟨hc, u, hu, hk⟩ := w7 g l hg
      exact ⟨hc, u, hu.mono hle, hk⟩
    · obtain ⟨e1, e2⟩ := w9 b hb'
      have := h2 0
      exact ⟨by omega, fun e => e2 (by omega)⟩

theorem restr_γ {lc : Lc} (ha : Agree lc S T) : (restr S lc T.γ).γ = T.γ := by
  funext s
  simp only [restr]
  cases h : memN s lc.rg with
  | false => rfl
  | true => exact (ha.rg s (memN_iff.1 h)).symm
theorem sim_restr {lc : Lc} (ha : Agree lc S T) {κ : Nat → Nat → Option Value} {sv : Nat → Value} {a : Act} {w : World} (hs : Sim X κ sv T a w) : Sim X κ sv (restr S lc T.γ) a w := by
  refine sim_gen (fun i => ?_) (fun s => by rw [restr_γ ha]; exact Nat.le_refl _) (fun s => ?_) hs
  · simp only [restr]
    cases h : memN i lc.rr with
    | false => exact .inl rfl
    | true => exact .inr (ha.rr i (memN_iff.1 h)).symm
  · simp only [restr]
    cases h : memN s lc.ro with
    | false => exact .inl rfl
    | true => exact .inr (ha.ro s (memN_iff.1 h)).symm

/-- What only reads, seen from what it reads. -/
def FQ (X : Ctx) (o : Oper) (S : St) (d : D) : Prop := ∀ h, QOp X o (restr S (lcOf X S o) h) d

theorem FQ_intro {o : Oper} {d : D} (h : ∀ h, QOp X o (restr S (lcOf X S o) h) d) : FQ X o S d := h
def Want (X : Ctx) (S : St) (ops : Array Oper) (o : Oper) (gs : List Nat) : Prop :=
  (o.guard = none ∧ gs = []) ∨ ∃ j b t, o.guard = some (j, b) ∧ (ops[j]?).bind (·.dst) = some t ∧ S.ev X (.tmp t) = .bool b ∧ gs = [t]
theorem want_none {ops : Array Oper} {o : Oper} (h : o.guard = none) : Want X S ops o [] := .inl ⟨h, rfl⟩
theorem want_some {ops : Array Oper} {o : Oper} {j t : Nat} {b : Bool} (h : o.guard = some (j, b)) (hj : (ops[j]?).bind (·.dst) = some t) (hb : S.ev X (.tmp t) = .bool b) : Want X S ops o [t] := .inr ⟨j, b, t, h, hj, hb, rfl⟩

variable {ops : Array Oper} {o : Oper} {rest : List Oper} {S0 : St} {E : List Ent} {V : List Vl}
theorem want_at {gs : List Nat} (h : Want X S ops o gs) (ha : ∀ t ∈ gs, T.ρ t = S.ρ t) {κ : Nat → Nat → Option Value} {sv : Nat → Value} {a : Act} {w : World} (hs : Sim X κ sv T a w) : Region.wanted o (yielded ops a.tmps) = true := by
  rcases h with ⟨h, _⟩ | ⟨j, b, t, h1, h2, h3, rfl⟩
  · simp [Region.wanted, h]
  · have : T.ev X (.tmp t) = .bool b := by rw [ev_congr fun t' e => by cases e; exact ha t (by simp)]; exact h3
    rw [wanted_of hs h1 h2 this]; simp

/-- The operations before l have been looked at; from S0 they lead to S. -/
def WG (X : Ctx) (Q : Exit → St → Prop) (ops : Array Oper) (S0 : St) (E : List Ent) (V : List Vl) (l : List Oper) (S : St) : Prop :=
  (∃ pre, ops = (pre ++ l).toArray ∧ pre.length = E.length) → E.length = V.length → (∀ k, k < E.length → Snd X Q ops k (stt S0 E V top k) (lcF E k) (wrF E k) (vlF V k)) → stt S0 E V top E.length = S → Reg X Q ops S0

theorem W_regionG {id : Nat} {l : List Oper} (h : WG X Q l.toArray S [] [] l S) : W X (.region id l.toArray true) Q S := fun κ sv a w hs =>
  wpIn_region_any X.Z.mixed (h ⟨[], rfl, rfl⟩ rfl (fun k hk => by cases hk) rfl κ sv a _ (hs.later (below_drew w)))
theorem WG_nil (hok : okB ops.toList E = true) (h : Q .normal S) : WG X Q ops S0 E V [] S := fun _ _ hs he => reg_ok hok hs (by rw [he]; exact h)

theorem stt_snoc (e : Ent) (v : Vl) (hl : E.length = V.length) : ∀ k, k ≤ E.length → stt S0 (E ++ [e]) (V ++ [v]) top k = stt S0 E V top k := by
  intro k
  induction k with
  | zero => intro _; rfl
  | succ k ih =>
    intro hk
    rw [stt_succ, stt_succ, ih (by omega)]
    have h1 : wrF (E ++ [e]) k = wrF E k := by unfold wrF; rw [List.getElem?_append_left (by omega)]
    have h2 : vlF (V ++ [v]) k = vlF V k := by unfold vlF; rw [List.getElem?_append_left (by omega)]
    rw [h1, h2]

theorem WG_step {lc : Lc} {wr : Wr} {v : Vl} (hS : S.app wr v = S') (hs : ops[E.length]? = some o → Snd X Q ops E.length S lc wr v) (hk : WG X Q ops S0 (E ++ [(lc, wr)]) (V ++ [v]) rest S') : WG X Q ops S0 E V (o :: rest) S := by
  rintro ⟨pre, hp1, hp2⟩ hl hsnd hst
  have hoi : ops[E.length]? = some o := by rw [hp1, ← hp2]; simp
  refine hk ⟨pre ++ [o], by rw [hp1]; simp, by simp [hp2]⟩ (by simp [hl]) (fun k hk => ?_) ?_
  · simp only [List.length_append, List.length_cons, List.length_nil] at hk
    rw [stt_snoc _ _ hl k (by omega)]
    by_cases e : k < E.length
    · have h1 : wrF (E ++ [(lc, wr)]) k = wrF E k := by unfold wrF; rw [List.getElem?_append_left e]
      have h2 : vlF (V ++ [v]) k = vlF V k := by unfold vlF; rw [List.getElem?_append_left (by omega)]
      have h3 : lcF (E ++ [(lc, wr)]) k = lcF E k := by unfold lcF; rw [List.getElem?_append_left e]
      rw [h1, h2, h3]; exact hsnd k e
    · have : k = E.length := by omega
      subst this
      have h1 : wrF (E ++ [(lc, wr)]) E.length = wr := by simp [wrF]
      have h2 : vlF (V ++ [v]) E.length = v := by rw [hl]; simp [vlF]
      have h3 : lcF (E ++ [(lc, wr)]) E.length = lc := by simp [lcF]
      rw [h1, h2, h3, hst]; exact hs hoi
  · rw [List.length_append, List.length_singleton, stt_succ, stt_snoc _ _ hl _ (Nat.le_refl _), hst]
    have h1 : wrF (E ++ [(lc, wr)]) E.length = wr := by simp [wrF]
    have h2 : vlF (V ++ [v]) E.length = v := by rw [hl]; simp [vlF]
    rw [h1, h2]; exact hS

/-- A guard that must be told. -/
theorem WG_tell {j t : Nat} {b c : Bool} (_hg : o.guard = some (j, b)) (_hj : (ops[j]?).bind (·.dst) = some t) (hb : S.ev X (.tmp t) = .bool c)
    (ht : c = true → WG X Q ops S0 E V (o :: rest) (S.set t (.bool true))) (hf : c = false → WG X Q ops S0 E V (o :: rest) (S.set t (.bool false))) : WG X Q ops S0 E V (o :: rest) S := by
  have hρ : S.ρ t = .bool c := by
    simp only [St.ev] at hb
    cases h : Nat.blt t X.nt with
    | false => rw [h] at hb; cases hb
    | true => rw [h] at hb; exact hb
  have same : S.set t (.bool c) = S := by
    have : upd S.ρ t (.bool c) = S.ρ := by
      funext i
      by_cases e : i = t
      · subst e; rw [upd_same, hρ]
      · rw [upd_ne _ _ _ _ e]
    unfold St.set; rw [this]
  cases c with
  | true => have := ht rfl; rwa [same] at this
  | false => have := hf rfl; rwa [same] at this
theorem G_tD {j t : Nat} {b : Bool} {p : Prop} {_ : Decidable p} (hg : o.guard = some (j, b)) (hj : (ops[j]?).bind (·.dst) = some t) (hc : S.ev X (.tmp t) = .bool (decide p)) (ht : p → WG X Q ops S0 E V (o :: rest) (S.set t (.bool true))) (hf : ¬ p → WG X Q ops S0 E V (o :: rest) (S.set t (.bool false))) : WG X Q ops S0 E V (o :: rest) S :=
  WG_tell hg hj hc (fun h => ht (of_decide_eq_true h)) (fun h => hf (of_decide_eq_false h))
theorem G_tND {j t : Nat} {b : Bool} {p : Prop} {_ : Decidable p} (hg : o.guard = some (j, b)) (hj : (ops[j]?).bind (·.dst) = some t) (hc : S.ev X (.tmp t) = .bool (!decide p)) (ht : ¬ p → WG X Q ops S0 E V (o :: rest) (S.set t (.bool true))) (hf : p → WG X Q ops S0 E V (o :: rest) (S.set t (.bool false))) : WG X Q ops S0 E V (o :: rest) S :=
  WG_tell hg hj hc (fun h => ht (by simpa using h)) (fun h => hf (by simpa using h))
theorem G_tE {j t : Nat} {b : Bool} {m n : Int} (hg : o.guard = some (j, b)) (hj : (ops[j]?).bind (·.dst) = some t) (hc : S.ev X (.tmp t) = .bool (m == n)) (ht : m = n → WG X Q ops S0 E V (o :: rest) (S.set t (.bool true))) (hf : m ≠ n → WG X Q ops S0 E V (o :: rest) (S.set t (.bool false))) : WG X Q ops S0 E V (o :: rest) S :=
  WG_tell hg hj hc (fun h => ht (by simpa using h)) (fun h => hf (by simpa using h))
theorem G_tNE {j t : Nat} {b : Bool} {m n : Int} (hg : o.guard = some (j, b)) (hj : (ops[j]?).bind (·.dst) = some t) (hc : S.ev X (.tmp t) = .bool (m != n)) (ht : m ≠ n → WG X Q ops S0 E V (o :: rest) (S.set t (.bool true))) (hf : m = n → WG X Q ops S0 E V (o :: rest) (S.set t (.bool false))) : WG X Q ops S0 E V (o :: rest) S :=
  WG_tell hg hj hc (fun h => ht (by simpa using h)) (fun h => hf (by simpa using h))
theorem G_tN {j t : Nat} {b d : Bool} (hg : o.guard = some (j, b)) (hj : (ops[j]?).bind (·.dst) = some t) (hc : S.ev X (.tmp t) = .bool (!d)) (ht : d = false → WG X Q ops S0 E V (o :: rest) (S.set t (.bool true))) (hf : d = true → WG X Q ops S0 E V (o :: rest) (S.set t (.bool false))) : WG X Q ops S0 E V (o :: rest) S :=
  WG_tell hg hj hc (fun h => ht (by simpa using h)) (fun h => hf (by simpa using h))

theorem agree_plus {lc : Lc} {gs as : List Nat} (h : Agree (lc.plus gs as) S T) : Agree lc S T ∧ (∀ t ∈ gs, T.ρ t = S.ρ t) ∧ (∀ s ∈ as, T.γ s = S.γ s) :=
  ⟨⟨fun t ht => h.rr t (List.mem_append_right _ ht), fun t ht => h.rg t (List.mem_append_right _ ht), h.ro⟩, fun t ht => h.rr t (List.mem_append_left _ ht), fun t ht => h.rg t (List.mem_append_left _ ht)⟩

theorem WG_q {d : D} {t : Nat} {gs : List Nat} (hw : Want X S ops o gs) (hd : o.dst = some t) (h : FQ X o S d) (hk : WG X Q ops S0 (E ++ [((lcOf X S o).plus gs [], ⟨some t, none, none⟩)]) (V ++ [⟨d, 0, .none⟩]) rest (S.set t d)) : WG X Q ops S0 E V (o :: rest) S := by
  refine WG_step rfl (fun hoi T hT κ sv a w hs => ?_) hk
  obtain ⟨hT1, hT2, _⟩ := agree_plus hT
  obtain ⟨v, h1, h2⟩ := h T.γ κ sv a w (sim_restr hT1 hs)
  rw [restr_γ hT1] at h1
  unfold wpOpIn
  rw [hoi]
  simp only
  rw [if_pos (want_at hw hT2 hs)]
  refine op_val (h2 w (Below.refl _ _)) ?_
  rw [hd]
  exact ⟨κ, sv, hs.put (some t) h1⟩

theorem WG_no {j t t' : Nat} {b c : Bool} (hg : o.guard = some (j, b)) (hj : (ops[j]?).bind (·.dst) = some t) (hb : S.ev X (.tmp t) = .bool c) (hn : (c == b) = false) (hd : o.dst = some t')
    (hk : WG X Q ops S0 (E ++ [(⟨[t], [], []⟩, ⟨some t', none, none⟩)]) (V ++ [⟨.undef, 0, .none⟩]) rest (S.set t' .undef)) : WG X Q ops S0 E V (o :: rest) S := by
  refine WG_step rfl (fun hoi T hT κ sv a w hs => ?_) hk
  have hev : T.ev X (.tmp t) = .bool c := by rw [ev_congr fun t' e => by cases e; exact hT.rr t (by simp)]; exact hb
  have hw := wanted_of hs hg hj hev
  unfold wpOpIn
  rw [hoi]
  simp only
  rw [if_neg (by rw [hw, hn]; simp)]
  rw [hd]
  exact ⟨about_F, κ, sv, hs.putU (some t') _⟩

theorem n_snd {lc : Lc} {gs as : List Nat} {wr : Wr} {v : Vl} (hw : Want X S ops o gs) (h : ∀ T, Agree lc S T → (∀ s ∈ as, T.γ s = S.γ s) → NOp X o T (T.app wr v)) : ops[E.length]? = some o → Snd X Q ops E.length S (lc.plus gs as) wr v := fun hoi T hT κ sv a w hs => by
  obtain ⟨hT1, hT2, hT3⟩ := agree_plus hT
  obtain ⟨u, w', κ', sv', h1, h2⟩ := h T hT1 hT3 κ sv a w hs
  unfold wpOpIn
  rw [hoi]
  simp only
  rw [if_pos (want_at hw hT2 hs)]
  rcases h1 with h1 | ⟨h1, rfl⟩
  · exact op_val h1 ⟨κ', sv', h2⟩
  · exact op_skip h1 ⟨κ', sv', h2⟩

/-- An operation that lays or writes memory, seen from what it reads. -/
structure FN (X : Ctx) (o : Oper) (S : St) (as : List Nat) (wr : Wr) (v : Vl) : Prop where
  run : ∀ T, Agree (lcOf X S o) S T → (∀ s ∈ as, T.γ s = S.γ s) → NOp X o T (T.app wr v)
theorem WG_n {gs as : List Nat} {wr : Wr} {v : Vl} (hw : Want X S ops o gs) (h : FN X o S as wr v) (hk : WG X Q ops S0 (E ++ [((lcOf X S o).plus gs as, wr)]) (V ++ [v]) rest (S.app wr v)) : WG X Q ops S0 E V (o :: rest) S :=
  WG_step rfl (n_snd hw h.run) hk

theorem agree_ev (h : Agree (lcOf X S o) S T) {x : Operand} (hx : x ∈ o.op.operands.toList) : T.ev X x = S.ev X x := ev_congr fun t e => by subst e; exact h.rr t (slots_mem hx)
theorem agree_γ (h : Agree (lcOf X S o) S T) (hl : lvl o ≠ 0) {x : Operand} (hx : x ∈ o.op.operands.toList) {s : Nat} (hs : s ∈ plD (S.ev X x)) : T.γ s = S.γ s := h.rg s (by
  simp only [lcOf]
  cases e : lvl o with
  | zero => exact absurd e hl
  | succ n => exact pl_mem hx hs)
theorem agree_σ (h : Agree (lcOf X S o) S T) (hl : lvl o = 2) {x : Operand} (hx : x ∈ o.op.operands.toList) {s : Nat} (hs : s ∈ plD (S.ev X x)) : T.σ s = S.σ s := h.ro s (by
  simp only [lcOf, hl]; exact pl_mem hx hs)

abbrev wB (s : Nat) : Wr := ⟨some s, some s, some s⟩
theorem boxed_app (s : Nat) (l : List D) (h : T.γ s = S.γ s) : T.boxed s l = T.app (wB s) ⟨.bx s (S.γ s + 1) 0, S.γ s + 1, .box l⟩ := by
  unfold St.boxed St.app; rw [h]; rfl
theorem f_box {Ty : TypeId} {x : Operand} {s : Nat} {d : D} (ho : o.op = .box Ty x) (hd : o.dst = some s) (hx : S.ev X x = d) (hc : allCell d.cells = true) : FN X o S [s] (wB s) ⟨.bx s (S.γ s + 1) 0, S.γ s + 1, .box d.cells⟩ := ⟨fun T hT hs => by
  rw [← boxed_app s _ (hs s (by simp))]
  exact n_box ho hd ((agree_ev hT (by rw [ho]; simp [Op.operands])).trans hx) hc⟩
theorem f_boxa {Ty : TypeId} {x : Operand} {s : Nat} {l : List D} (ho : o.op = .box Ty x) (hd : o.dst = some s) (hx : S.ev X x = .agg l) (hc : allCell l = true) : FN X o S [s] (wB s) ⟨.bx s (S.γ s + 1) 0, S.γ s + 1, .box l⟩ := f_box ho hd hx hc
theorem f_boxc {Ty : TypeId} {x : Operand} {s : Nat} {k : IntKind} {n : Int} (ho : o.op = .box Ty x) (hd : o.dst = some s) (hx : S.ev X x = .int k n) : FN X o S [s] (wB s) ⟨.bx s (S.γ s + 1) 0, S.γ s + 1, .box [.int k n]⟩ := f_box ho hd hx rfl
theorem f_boxb {Ty : TypeId} {x : Operand} {s : Nat} {b : Bool} (ho : o.op = .box Ty x) (hd : o.dst = some s) (hx : S.ev X x = .bool b) : FN X o S [s] (wB s) ⟨.bx s (S.γ s + 1) 0, S.γ s + 1, .box [.bool b]⟩ := f_box ho hd hx rfl
theorem f_alloc {Ty : TypeId} {r : TRow} {s : Nat} (ho : o.op = .alloc Ty) (hd : o.dst = some s) (hr : nth X.Z.tab Ty = some r) (h9 : Nat.beq r.k 9 = false) : FN X o S [s] (wB s) ⟨.bx s (S.γ s + 1) 0, S.γ s + 1, .box (r.zs.map Zr.toD)⟩ := ⟨fun T _ hs => by
  rw [← boxed_app s _ (hs s (by simp))]
  exact n_alloc ho hd hr h9⟩
theorem f_stb {Ty : TypeId} {r : TRow} {x y : Operand} {s g j : Nat} {l k : List D} {d : D} (ho : o.op = .store Ty x y) (hx : S.ev X x = .bx s g j) (hg : S.γ s = g) (hσ : S.σ s = .box l) (hy : S.ev X y = d) (hc : allCell d.cells = true) (hr : nth X.Z.tab Ty = some r) (h9 : Nat.beq r.k 9 = false) (hn : d.cells.length = r.sz) (hk : overN l j d.cells = some k) (hdst : o.dst = none) :
    FN X o S [] ⟨none, none, some s⟩ ⟨.undef, 0, .box k⟩ := ⟨fun T hT _ => by
  have hl : lvl o = 2 := by simp [lvl, ho]
  have m1 : x ∈ o.op.operands.toList := by rw [ho]; simp [Op.operands]
  have m2 : y ∈ o.op.operands.toList := by rw [ho]; simp [Op.operands]
  have hp : s ∈ plD (S.ev X x) := by rw [hx]; simp [plD]
  exact n_stb ho ((agree_ev hT m1).trans hx) ((agree_γ hT (by rw [hl]; simp) m1 hp).trans hg) ((agree_σ hT hl m1 hp).trans hσ) ((agree_ev hT m2).trans hy) hc hr h9 hn hk hdst⟩
theorem f_sto {Ty : TypeId} {r : TRow} {x y : Operand} {s g z i j E n : Nat} {f : Nat → List D} {k : List D} {d : D} (ho : o.op = .store Ty x y) (hx : S.ev X x = .op s g z i j) (hg : S.γ s = g) (hσ : S.σ s = .arr E z n f) (hi : i < n) (hy : S.ev X y = d) (hc : allCell d.cells = true) (hr : nth X.Z.tab Ty = some r) (h9 : Nat.beq r.k 9 = false) (hn : d.cells.length = r.sz) (hk : overN (f i) j d.cells = some k) (hdst : o.dst = none) :
    FN X o S [] ⟨none, none, some s⟩ ⟨.undef, 0, .arr E z n (updF f i k)⟩ := ⟨fun T hT _ => by
  have hl : lvl o = 2 := by simp [lvl, ho]
  have m1 : x ∈ o.op.operands.toList := by rw [ho]; simp [Op.operands]
  have m2 : y ∈ o.op.operands.toList := by rw [ho]; simp [Op.operands]
  have hp : s ∈ plD (S.ev X x) := by rw [hx]; simp [plD]
  exact n_sto ho ((agree_ev hT m1).trans hx) ((agree_γ hT (by rw [hl]; simp) m1 hp).trans hg) ((agree_σ hT hl m1 hp).trans hσ) hi ((agree_ev hT m2).trans hy) hc hr h9 hn hk hdst⟩
theorem f_bsl {Ty : TypeId} {r q : TRow} {ps : Array (Nat × Operand)} {n z t : Nat} {xs : List Operand} {E : TypeId} {cs : List (List D)} (ho : o.op = .buildSlice Ty n ps) (hd : o.dst = some t) (hsq : seqP 0 ps.toList = some xs) (hn : Nat.beq xs.length n = true) (hr : nth X.Z.tab Ty = some r) (hk : Nat.beq r.k 3 = true) (hE : r.el = E) (hq : nth X.Z.tab E = some q) (hq9 : Nat.beq q.k 9 = false) (hz : q.sz = z) (hz0 : Nat.beq z 0 = false) (hn0 : Nat.beq n 0 = false) (hsm : Nat.ble (n * z) 16777216 = true) (hc : evC X S xs = cs) (hok : okC z cs = true) :
    FN X o S [] ⟨some t, none, none⟩ ⟨.sl z n (nthD cs), 0, .none⟩ := ⟨fun T hT _ => by
  have key : ∀ l : List Operand, (∀ x ∈ l, x ∈ o.op.operands.toList) → evC X T l = evC X S l := by
    intro l
    induction l with
    | nil => intro _; rfl
    | cons x l ih => intro h; simp only [evC]; rw [agree_ev hT (h x (List.mem_cons_self ..)), ih fun y hy => h y (List.mem_cons_of_mem _ hy)]
  have hmem : ∀ x ∈ xs, x ∈ o.op.operands.toList := by
    intro x hx
    rw [ho]
    have h1 := seqP_eq hsq
    simp only [Op.operands]
    rw [h1]
    simp only [List.map_map, List.mem_map, Function.comp_apply]
    obtain ⟨i, hi, rfl⟩ := List.getElem_of_mem hx
    exact ⟨(xs[i], i), by rw [List.mk_mem_zipIdx_iff_getElem?]; simp [hi], rfl⟩
  exact n_bsl ho hd hsq hn hr hk hE hq hq9 hz hz0 hn0 hsm ((key xs hmem).trans hc) hok⟩
theorem f_make {Ty : TypeId} {r q : TRow} {x y : Operand} {k : Int} {t z : Nat} {E : TypeId} (ho : o.op = .makeSlice Ty x y) (hd : o.dst = some t) (hx : S.ev X x = .int .i64 k) (hy : S.ev X y = .int .i64 k) (h0 : 0 ≤ k) (hr : nth X.Z.tab Ty = some r) (hk : Nat.beq r.k 3 = true) (hE : r.el = E) (hq : nth X.Z.tab E = some q) (hq9 : Nat.beq q.k 9 = false) (hz : q.sz = z) (hzs : Nat.beq q.zs.length z = true) (hb : k * q.bytes ≤ 281474976710656) (hb1 : k ≤ 281474976710656) :
    FN X o S [t] (wB t) ⟨.os t (S.γ t + 1), S.γ t + 1, .arr E z k.toNat (fun _ => q.zs.map Zr.toD)⟩ := ⟨fun T hT hs => by
  have h := n_make (S := T) ho hd ((agree_ev hT (by rw [ho]; simp [Op.operands])).trans hx) ((agree_ev hT (by rw [ho]; simp [Op.operands])).trans hy) h0 hr hk hE hq hq9 hz hzs hb hb1
  have : T.owned t t (.arr E z k.toNat (fun _ => q.zs.map Zr.toD)) = T.app (wB t) ⟨.os t (S.γ t + 1), S.γ t + 1, .arr E z k.toNat (fun _ => q.zs.map Zr.toD)⟩ := by
    unfold St.owned St.app; rw [hs t (by simp)]; rfl
  rw [← this]; exact h⟩
theorem f_app {Ty : TypeId} {r q : TRow} {x y : Operand} {s g z n m t n' : Nat} {E : TypeId} {f h f' : Nat → List D} {ts : Array TypeId} (ho : o.op = .call { callee := .builtin .append, args := #[x, y], argTypes := ts }) (hts : ts = #[Ty, Ty]) (hd : o.dst = some t)
    (hx : S.ev X x = .os s g) (hg : S.γ s = g) (hσ : S.σ s = .arr E z n f) (hy : S.ev X y = .sl z m h)
    (hr : nth X.Z.tab Ty = some r) (hk : Nat.beq r.k 3 = true) (hE : r.el = E) (hq : nth X.Z.tab E = some q) (hq9 : Nat.beq q.k 9 = false) (hz : q.sz = z) (hzs : Nat.beq q.zs.length z = true) (hz0 : Nat.beq z 0 = false)
    (hb : (n + m) * q.bytes ≤ 140737488355328) (hm : n + m ≤ 140737488355328) (hn' : n' = n + m) (h1 : ∀ i, i < n → f' i = f i) (h2 : ∀ i, i < m → f' (n + i) = h i) :
    FN X o S [] ⟨some t, some s, some s⟩ ⟨.os s (S.γ s + 1), S.γ s + 1, .arr E z n' f'⟩ := ⟨fun T hT _ => by
  have hl : lvl o = 2 := by simp [lvl, ho]
  have m1 : x ∈ o.op.operands.toList := by rw [ho]; simp [Op.operands, Call.operands]
  have m2 : y ∈ o.op.operands.toList := by rw [ho]; simp [Op.operands, Call.operands]
  have hp : s ∈ plD (S.ev X x) := by rw [hx]; simp [plD]
  have hγ := agree_γ hT (by rw [hl]; simp) m1 hp
  have h := n_app (S := T) ho hts hd ((agree_ev hT m1).trans hx) (hγ.trans hg) ((agree_σ hT hl m1 hp).trans hσ) ((agree_ev hT m2).trans hy) hr hk hE hq hq9 hz hzs hz0 hb hm hn' h1 h2
  have : T.owned t s (.arr E z n' f') = T.app ⟨some t, some s, some s⟩ ⟨.os s (S.γ s + 1), S.γ s + 1, .arr E z n' f'⟩ := by
    unfold St.owned St.app; rw [hγ]; rfl
  rw [← this]; exact h⟩

theorem map_ev (hT : Agree (lcOf X S o) S T) {l : List Operand} (h : ∀ x ∈ l, x ∈ o.op.operands.toList) : l.map (T.ev X) = l.map (S.ev X) := List.map_congr_left fun x hx => agree_ev hT (h x hx)
theorem WG_call {f : FuncId} {xs : Array Operand} {ts : Array TypeId} {A : List D} {R : D} {t : Nat} {gs : List Nat} (hw : Want X S ops o gs) (ho : o.op = .call { callee := .value (.func f), args := xs, argTypes := ts }) (hd : o.dst = some t) (hA : xs.toList.map (S.ev X) = A) (hc : Contract X.Z f A R)
    (hk : WG X Q ops S0 (E ++ [(⟨gs ++ slotsOf xs.toList, [], []⟩, ⟨some t, none, none⟩)]) (V ++ [⟨R, 0, .none⟩]) rest (S.set t R)) : WG X Q ops S0 E V (o :: rest) S := by
  refine WG_step rfl (fun hoi T hT κ sv a w hs => ?_) hk
  have hA' : xs.toList.map (T.ev X) = A := by
    rw [← hA]
    exact List.map_congr_left fun x hx => ev_congr fun t e => by subst e; exact hT.rr t (List.mem_append_right _ (slots_mem hx))
  unfold wpOpIn
  rw [hoi]
  simp only
  rw [if_pos (want_at hw (fun t ht => hT.rr t (List.mem_append_left _ ht)) hs)]
  have hrp := evs_rep hs xs.toList
  rw [hA'] at hrp
  refine op_call (run_call hc.body ho) (hc.calls w κ _ (Sim.fits hs.wld) (Sim.globOk hs.wld) (hrp.pure (fun _ _ _ h => h) hc.pureA)) ?_
  rintro e w' ⟨v, rfl, hv, hb2⟩
  refine ⟨v, rfl, ?_⟩
  rw [hd]
  have hs' : Sim X (growK κ w w') sv T a w' := ⟨hs.size, hs.defers.later hb2, fun i hi => (hs.slot i hi).mono (le_growK hs.wld.imm w'), hs.wld.grow hb2⟩
  exact ⟨_, sv, hs'.put (some t) (hv.pure (fun _ _ _ h => h) hc.pureR)⟩

mutual
theorem fz_agree : ∀ {d d' : D}, Fz S d d' → (∀ s ∈ plD d, T.γ s = S.γ s) → (∀ s ∈ plD d, T.σ s = S.σ s) → Fz T d d'
  | _, _, .same d, _, _ => .same d
  | _, _, .os s g E z n f h1 h2, a, b => .os s g E z n f ((a s (by simp [plD])).trans h1) ((b s (by simp [plD])).trans h2)
  | _, _, .bx s g o l h1 h2, a, b => .bx s g o l ((a s (by simp [plD])).trans h1) ((b s (by simp [plD])).trans h2)
  | _, _, .fn f c c' h, a, b => .fn f c c' (fzL_agree h (fun s hs => a s (by simpa [plD] using hs)) (fun s hs => b s (by simpa [plD] using hs)))
  | _, _, .agg l l' h, a, b => .agg l l' (fzL_agree h (fun s hs => a s (by simpa [plD] using hs)) (fun s hs => b s (by simpa [plD] using hs)))
theorem fzL_agree : ∀ {l l' : List D}, FzL S l l' → (∀ s ∈ plL l, T.γ s = S.γ s) → (∀ s ∈ plL l, T.σ s = S.σ s) → FzL T l l'
  | _, _, .nil, _, _ => .nil
  | _, _, .cons d d' l l' h1 h2, a, b => .cons d d' l l' (fz_agree h1 (fun s hs => a s (by simp [plL, hs])) (fun s hs => b s (by simp [plL, hs]))) (fzL_agree h2 (fun s hs => a s (by simp [plL, hs])) (fun s hs => b s (by simp [plL, hs])))
end
theorem plS_map : ∀ {l : List Operand}, plS X S l = plL (l.map (S.ev X))
  | [] => rfl
  | x :: l => by simp only [plS, List.map_cons, plL, plS_map]
theorem WG_calls {f : FuncId} {xs : Array Operand} {ts : Array TypeId} {A : List D} {R : D} {v0 : Value} {t : Nat} {gs : List Nat} (hw : Want X S ops o gs) (ho : o.op = .call { callee := .value (.func f), args := xs, argTypes := ts }) (hd : o.dst = some t) (hA : FzL S (xs.toList.map (S.ev X)) A) (hc : Contract X.Z f A R) (hR : scal R = some v0)
    (hk : WG X Q ops S0 (E ++ [(⟨gs ++ slotsOf xs.toList, plS X S xs.toList, plS X S xs.toList⟩, ⟨some t, none, none⟩)]) (V ++ [⟨R, 0, .none⟩]) rest (S.set t R)) : WG X Q ops S0 E V (o :: rest) S := by
  refine WG_step rfl (fun hoi T hT κ sv a w hs => ?_) hk
  have hm : xs.toList.map (T.ev X) = xs.toList.map (S.ev X) := List.map_congr_left fun x hx => ev_congr fun t e => by subst e; exact hT.rr t (List.mem_append_right _ (slots_mem hx))
  have hA' : FzL T (xs.toList.map (T.ev X)) A := by
    rw [hm]
    exact fzL_agree hA (fun s hs => hT.rg s (by show s ∈ plS X S xs.toList; rw [plS_map]; exact hs)) (fun s hs => hT.ro s (by show s ∈ plS X S xs.toList; rw [plS_map]; exact hs))
  unfold wpOpIn
  rw [hoi]
  simp only
  rw [if_pos (want_at hw (fun t ht => hT.rr t (List.mem_append_left _ ht)) hs)]
  refine op_call (run_call hc.body ho) (call_scal hs hc hA' hR w (Below.refl _ _)) ?_
  rintro e w' ⟨rfl, hb⟩
  refine ⟨v0, rfl, ?_⟩
  rw [hd]
  exact ⟨κ, sv, (hs.later hb).put (some t) (scal_rep hR)⟩
end
end Go.Ab
