/- Ranges over functions: an iterator's contract (it may write what it has laid itself), and the rule for whoever ranges over it. -/
import Derived.Test.YtafnhieaeejlcaaDoorAb16
import Derived.Shelf.Abstract
set_option linter.all false
namespace Go.Ab
open Go Go.RowKit Go.Shelf

def growT (T : Nat → Prop) (W W' : World) : Nat → Prop := fun b => T b ∨ (W.heap.size ≤ b ∧ b < W'.heap.size)

/-- What a round keeps for the iterator. -/
structure Kept (T : Nat → Prop) (κ : Nat → Nat → Option Value) (W W' : World) : Prop where
  size : W.heap.size ≤ W'.heap.size
  mine : ∀ b, T b → W'.heap[b]? = W.heap[b]?
  cell : ∀ b o v, κ b o = some v → W'.cell? ⟨b, o, none⟩ = some v

/-- Function gf, with what it has captured, hands out vals 0, vals 1, .. to yield, n of them, or fewer if yield says no. T: the blocks that it has laid. -/
structure ItC (Z : Seat) (gf : FuncId) (cap : List D) (n : Nat) (vals : Nat → List Value) : Prop where
  body : HasBody Z.P gf
  pureC : PureL cap
  it : ∀ (w : World) (κ : Nat → Nat → Option Value) (lb : List Value), Fits κ w → GlobOk Z κ → RepL κ γ0 sv0 cap lb → ∀ (l : Nat) (J Jx : (Nat → Prop) → Nat → World → Prop),
    (∀ T k W W', J T k W → Step T W W' → J (growT T W W') k W') →
    (∀ T k W W', Jx T k W → Step T W W' → Jx (growT T W W') k W') →
    (∀ T k W, J T k W → k < n → (∀ b o v, κ b o = some v → W.cell? ⟨b, o, none⟩ = some v) → YieldAt Fence.wide 0 Z.P l (vals k).toArray W fun e W' =>
      ((e = .returned (.bool true) ∧ J T (k + 1) W') ∨ (e = .returned (.bool false) ∧ Jx T (k + 1) W')) ∧ Kept T κ W W') →
    J (fun _ => False) 0 w →
    CallsIn Fence.wide 0 Z.P gf (Value.func (.yield l) #[] #[] :: lb).toArray w fun e W' => (∃ v, e = .returned v) ∧ ((∃ T, J T n W') ∨ (∃ T k, k ≤ n ∧ Jx T k W'))

/-- The frame predicate of a round: as ever, and the blocks in T lie as they lay. -/
def protF (w0 : World) (ext : Option Nat) (T : Nat → Prop) (wT : World) (M : Nat → Prop) (w : World) : Prop :=
  (∃ M', plainF w0 ext M' w ∧ ∀ b, M b → M' b) ∧ (∀ b, M b → ¬ T b) ∧ (∀ b, T b → b < wT.heap.size ∧ w.heap[b]? = wT.heap[b]?) ∧ wT.heap.size ≤ w.heap.size
theorem prot_cl (w0 : World) (ext : Option Nat) (T : Nat → Prop) (wT : World) : ∀ M w w', protF w0 ext T wT M w → Step M w w' → protF w0 ext T wT (fun k => M k ∨ w.heap.size ≤ k) w' := by
  rintro M w w' ⟨⟨M', h1, h2⟩, h3, h4, h5⟩ hs
  refine ⟨⟨_, plain_cl w0 ext M' w w' h1 ⟨hs.os, hs.tape, hs.output, hs.size, fun k hk hm => hs.block k hk fun h => hm (h2 k h)⟩, fun b hb => hb.imp (h2 b) id⟩, fun b hb hT => ?_, fun b hT => ?_, Nat.le_trans h5 hs.size⟩
  · rcases hb with hb | hb
    · exact h3 b hb hT
    · have := (h4 b hT).1; omega
  · obtain ⟨e1, e2⟩ := h4 b hT
    exact ⟨e1, (hs.block b (by omega) (fun hm => h3 b hm hT)).trans e2⟩

section
variable {Z : Seat} {nt : Nat} {w0 : World} {κ0 κp : Nat → Nat → Option Value} {ext : Option Nat} {γp : Nat → Nat} {svp : Nat → Value} {T : Nat → Prop}

/-- Between two rounds: somebody else has written what is in T, and laid new blocks. -/
theorem SimW.other {κ : Nat → Nat → Option Value} {sv : Nat → Value} {S : St} {W W' : World} {ro : Option Nat} {cl : _} (h : SimW ⟨Z, nt, w0, κ0, ext, κp, γp, svp, T, false, ro, plainF w0 ext, cl⟩ κ sv S W) (hs : Step T W W') (hT : ∀ b, T b → w0.heap.size ≤ b) :
    SimW ⟨Z, nt, w0, κ0, ext, κp, γp, svp, growT T W W', false, ro, plainF w0 ext, cl⟩ κ sv S W' := by
  obtain ⟨h1, h2, h3, h4, h5, ⟨M, h6, h6'⟩, h7, h8, h9, h10, h11, h12, h13, h14⟩ := h
  have hlt : ∀ b o v, κ b o = some v → b < W.heap.size := fun b o v hk => by have := World.block_lt_of_cell? W _ (h1 b o v hk); simpa using this
  refine ⟨fun b o v hk => ?_, fun s => owns_mono (Le.refl _ _ _) rfl (fun b hb => hs.block b (owns_lt (h2 s) hb) (h13 s b hb)) (h2 s), h3, h4, h5, ⟨M, ?_, h6'⟩, h7, h8, h9, Nat.le_trans h10 hs.size, h11, fun b o v hk hT' => ?_, fun s b hb hT' => ?_, fun b hT' => ?_⟩
  · rw [World.cell?_of_block (hs.block b (hlt b o v hk) (h12 b o v hk))]; exact h1 b o v hk
  · refine ⟨⟨hs.os.trans h6.1.os, hs.tape.trans h6.1.tape, hs.output.trans h6.1.output, Nat.le_trans h6.1.size hs.size, fun k hk he => ?_⟩, h6.2⟩
    exact (hs.block k (Nat.lt_of_lt_of_le hk h6.1.size) (fun hm => by have := hT k hm; omega)).trans (h6.1.block k hk he)
  · rcases hT' with hT' | ⟨hT', _⟩
    · exact h12 b o v hk hT'
    · have := hlt b o v hk; omega
  · rcases hT' with hT' | ⟨hT', _⟩
    · exact h13 s b hb hT'
    · have := owns_lt (h2 s) hb; omega
  · rcases hT' with hT' | ⟨_, hT'⟩
    · exact Nat.lt_of_lt_of_le (h14 b hT') hs.size
    · exact hT'

/-- Another frame predicate, and a block that holds no cells turned. -/
theorem SimW.reframe {κ : Nat → Nat → Option Value} {sv : Nat → Value} {S : St} {W W' : World} {nd nd' : Bool} {ro ro' : Option Nat} {Φ Φ' : (Nat → Prop) → World → Prop} {cl : _} {cl' : _} {T' : Nat → Prop} {κp' : Nat → Nat → Option Value} {γp' : Nat → Nat} {svp' : Nat → Value}
    (h : SimW ⟨Z, nt, w0, κ0, ext, κp, γp, svp, T, nd, ro, Φ, cl⟩ κ sv S W) {D : Nat} (hg : W.grownBy W' (some D)) (hn : ∃ o : Obj, W.heap[D]? = some o ∧ o.isCells = false)
    (hΦ : ∀ M, Φ M W → (∀ s b, blk (S.σ s) (sv s) = some b → M b) → ∃ M', Φ' M' W' ∧ ∀ s b, blk (S.σ s) (sv s) = some b → M' b) (hT : ∀ b, T' b → T b) (hle : Le κp' κ γp' S.γ svp' sv) :
    SimW ⟨Z, nt, w0, κ0, ext, κp', γp', svp', T', nd', ro', Φ', cl'⟩ κ sv S W' := by
  obtain ⟨h1, h2, h3, h4, h5, ⟨M, h6, h6'⟩, h7, h8, h9, h10, h11, h12, h13, h14⟩ := h
  obtain ⟨o0, ho1, ho2⟩ := hn
  have hne : ∀ s b, blk (S.σ s) (sv s) = some b → W'.heap[b]? = W.heap[b]? := fun s b hb => hg.block b (owns_lt (h2 s) hb) (fun e => by
    obtain ⟨o, e1, e2⟩ := owns_cells (h2 s) hb
    simp only [Option.some.injEq] at e
    subst e
    rw [ho1] at e1; cases e1; rw [ho2] at e2; cases e2)
  exact ⟨fun b o v hk => cell_kept (h1 b o v hk) hg (fun r e => by cases e; exact ⟨o0, ho1, ho2⟩), fun s => owns_mono (Le.refl _ _ _) rfl (hne s) (h2 s), h3, h4, h5, hΦ M h6 h6', h7, h8, h9, Nat.le_trans h10 hg.size, hle,
    fun b o v hk hb => h12 b o v hk (hT b hb), fun s b hb hb' => h13 s b hb (hT b hb'), fun b hb => Nat.lt_of_lt_of_le (h14 b (hT b hb)) hg.size⟩

def setps (ρ : Nat → D) : List Nat → List D → Nat → D
  | t :: ts, d :: ds => setps (upd ρ t d) ts ds
  | _, _ => ρ
theorem slots_set {κ : Nat → Nat → Option Value} {γ : Nat → Nat} {sv : Nat → Value} : ∀ (ts : List Nat) (ds : List D) (vs : List Value) (ρ : Nat → D) (tm : Array Value), RepL κ γ sv ds vs → (∀ i, i < nt → Rep κ γ sv (ρ i) (tm.getD i Go.undef)) → tm.size = nt →
    (∀ i, i < nt → Rep κ γ sv (setps ρ ts ds i) (((ts.zip vs).foldl (fun (t : Array Value) (x : Nat × Value) => t.setIfInBounds x.1 x.2) tm).getD i Go.undef)) ∧ ((ts.zip vs).foldl (fun (t : Array Value) (x : Nat × Value) => t.setIfInBounds x.1 x.2) tm).size = nt
  | [], _, _, _, _, _, h, hz => ⟨h, hz⟩
  | t :: ts, _, _, ρ, tm, .nil, h, hz => ⟨h, hz⟩
  | t :: ts, _, _, ρ, tm, .cons d v ds vs h1 h2, h, hz => by
    simp only [setps, List.zip_cons_cons, List.foldl_cons]
    refine slots_set ts ds vs (upd ρ t d) (tm.setIfInBounds t v) h2 (fun i hi => ?_) (by simpa using hz)
    rw [getD_set]
    by_cases e : t = i
    · subst e; rw [if_pos ⟨rfl, by omega⟩, upd_same]; exact h1
    · rw [if_neg (fun h => e h.1), upd_ne _ _ _ _ (fun h => e h.symm)]; exact h i hi

/-- The state of the rounds: the slots are those ahead of the loop. -/
def rnd (S : St) (kp : List Nat) (gs : List (Nat × Nat)) (os : List (Nat × Own)) (h : Nat → Nat) : St := ⟨S.ρ, lookF h (gs ++ keepG S kp), look .none (os ++ keepO S kp)⟩
def ReachF (X : Ctx) (S S' : St) (kp : List Nat) (gs : List (Nat × Nat)) (os : List (Nat × Own)) : Prop := ∃ S'', Wk X S' S'' ∧ AllE S''.γ gs ∧ AllE S''.σ os ∧ KeepP S S'' kp
def roundX (Z : Seat) (nt : Nat) (w0 : World) (κ0 : Nat → Nat → Option Value) (ext : Option Nat) (κp : Nat → Nat → Option Value) (γp : Nat → Nat) (svp : Nat → Value) (T : Nat → Prop) (l : Nat) (Φ : (Nat → Prop) → World → Prop) (cl : ∀ M w w', Φ M w → Step M w w' → Φ (fun k => M k ∨ w.heap.size ≤ k) w') : Ctx :=
  ⟨Z, nt, w0, κ0, ext, κp, γp, svp, T, false, some l, Φ, cl⟩
/-- How a round may be left: off its end; by a return or a jump (Qx). -/
def bodyQ (X : Ctx) (S : St) (kp : List Nat) (gs : List (Nat × Nat)) (os : List (Nat × Own)) (Qx : Code → St → Prop) : Exit → St → Prop
  | .normal, S' => ReachF X S S' kp gs os
  | .ret, S' => Qx .ret S'
  | .exit i, S' => Qx (.exit i) S'
  | _, _ => False
def RoundOk (Z : Seat) (nt : Nat) (w0 : World) (κ0 : Nat → Nat → Option Value) (ext : Option Nat) (assign body : Code) (S S1 : St) (kp : List Nat) (gs' : List (Nat × Nat)) (os' : List (Nat × Own)) (Qx : Code → St → Prop) : Prop :=
  ∀ κp γp svp T l Φ cl, W (roundX Z nt w0 κ0 ext κp γp svp T l Φ cl) assign (fun e S2 => e = .normal ∧ ∀ Φ' cl', W (roundX Z nt w0 κ0 ext κp γp svp T l Φ' cl') body (bodyQ (roundX Z nt w0 κ0 ext κp γp svp T l Φ' cl') S kp gs' os' Qx) S2) S1

theorem W_rangeFunc {g : Operand} {ps : Array Nat} {assign body : Code} {S : St} {Q : Exit → St → Prop} {gf : FuncId} {cap : List D} {n : Nat} {vals : Nat → List Value}
    (hg : S.ev (Ctx.plain Z nt w0 κ0 ext) g = .fn gf cap) (hc : ItC Z gf cap n vals) (args : Nat → List D) (hv : ∀ k, k < n → scalL2 (args k) = some (vals k)) (hps : ∀ k, k < n → (vals k).length = ps.size)
    (kp : List Nat) (gs : Nat → List (Nat × Nat)) (os : Nat → List (Nat × Own)) (Qx : Code → St → Prop) (h0 : AllE S.γ (gs 0) ∧ AllE S.σ (os 0))
    (hround : ∀ k h, k < n → (∀ s, S.γ s ≤ lookF h (gs k ++ keepG S kp) s) → RoundOk Z nt w0 κ0 ext assign body S ⟨setps S.ρ ps.toList (args k), lookF h (gs k ++ keepG S kp), look .none (os k ++ keepO S kp)⟩ kp (gs (k + 1)) (os (k + 1)) Qx)
    (hdone : ∀ h, Q .normal (rnd S kp (gs n) (os n) h)) (hret : ∀ S', Qx .ret S' → Q .ret ⟨S.ρ, S'.γ, S'.σ⟩) (hexit : ∀ i S', Qx (.exit i) S' → Q (.exit i) ⟨S.ρ, S'.γ, S'.σ⟩) (hQx : ∀ c S', Qx c S' → c = .ret ∨ ∃ i, c = .exit i) :
    W (Ctx.plain Z nt w0 κ0 ext) (.rangeFunc g ps assign body) Q S := by
  intro κ sv a w hs
  have hev := hs.ev g
  rw [hg] at hev
  obtain ⟨lb, hae, hlb⟩ : ∃ lb : List Value, a.eval g = .func (.func gf) #[] lb.toArray ∧ RepL κ S.γ sv cap lb := by
    generalize a.eval g = v at hev
    cases hev with
    | fn _ _ vs hl => exact ⟨vs, rfl, hl⟩
  obtain ⟨fnb, cb, hf1, hf2, hf3⟩ := hc.body
  obtain ⟨Ds, d1, d2, d3, _⟩ := hs.defers
  refine wpIn_rangeFunc ?_
  intro fn hfn
  obtain ⟨rec, hrec⟩ : ∃ rec : LoopState → Option Code → Loop, rec = fun st pe => { state := st, pending := pe, fn, tmps := a.tmps, params := ps, assign, body, defers := w.heap.size } := ⟨_, rfl⟩
  obtain ⟨W1, hW1⟩ : ∃ W1, (w.alloc (.deferred (some []))).alloc (.loop (rec .ready none)) = W1 := ⟨_, rfl⟩
  have hsz1 : W1.heap.size = w.heap.size + 2 := by rw [← hW1]; simp
  have hL1 : W1.heap[w.heap.size + 1]? = some (.loop (rec .ready none)) := by
    rw [← hW1]; have := World.alloc_heap_new (w.alloc (.deferred (some []))) (.loop (rec .ready none)); rwa [World.size_alloc] at this
  have hK1 : W1.heap[w.heap.size]? = some (.deferred (some [])) := by
    rw [← hW1]; exact (Below.heap_alloc _ _ _ (by simp)).trans (World.alloc_heap_new w _)
  have hb1 : Below w.heap.size w W1 := by
    rw [← hW1]; exact ((Below.refl _ w).alloc (Nat.le_refl _) _).alloc (by simp) _
  have hs1 := hs.later hb1
  refine ⟨w.heap.size + 1, [mark w.heap.size], W1, { target := .fn (.func gf) lb.toArray, args := #[.func (.yield (w.heap.size + 1)) #[] #[]] }, W1, gf,
    (Value.func (.yield (w.heap.size + 1)) #[] #[] :: lb).toArray, W1, ?_, ?_, ?_, ?_, fun h => (by simp [Ctx.F, Fence.wide] at h), ?_⟩
  · rw [← hW1, hrec]; exact run_enterLoop_outer _ _ _ _ _
  · simp only [resolve, hae]
    simp [go_sem]
  · intro f' hf'; trivial
  · have eg : ∀ args w, (callFunc gf args).run (Ctx.plain Z nt w0 κ0 ext).Z.P w = .ok (.enter gf args) w := fun args w => by
      have h1 : fnb.name ≠ "runtime.NumGoroutine" := by simpa using hf3
      have hf1' : (Ctx.plain Z nt w0 κ0 ext).Z.P.funcs[gf]? = some fnb := hf1
      simp [callFunc, hf1', h1, hf2, Go.mark]
    simp [invoke, go_sem, eg]
  -- what holds between two rounds
  let XP : (Nat → Prop) → Ctx := fun T => ⟨Z, nt, w0, κ0, ext, κ, S.γ, sv, T, false, none, plainF w0 ext, plain_cl w0 ext⟩
  let others : World → Prop := fun W => ∀ (b : Nat) (o : Obj), w.heap[b]? = some o → o.isCells = false → W.heap[b]? = some o
  let J : (Nat → Prop) → Nat → World → Prop := fun T k W => (∃ κ' sv' h, SimW (XP T) κ' sv' (rnd S kp (gs k) (os k) h) W) ∧ (∀ b, T b → W1.heap.size ≤ b) ∧ W.heap[w.heap.size + 1]? = some (.loop (rec .ready none)) ∧ W.heap[w.heap.size]? = some (.deferred (some [])) ∧ others W
  let Jx : (Nat → Prop) → Nat → World → Prop := fun T _ W => ∃ c, (∃ κ' sv' S', SimW (XP T) κ' sv' S' W ∧ Qx c S') ∧ (∀ b, T b → W1.heap.size ≤ b) ∧ W.heap[w.heap.size + 1]? = some (.loop (rec .done (some c))) ∧ W.heap[w.heap.size]? = some (.deferred (some [])) ∧ others W
  have hbase := hs.wld.base
  have hbase' : w0.heap.size ≤ w.heap.size := hbase
  have stp : ∀ {T : Nat → Prop} {W W' : World} {b : Nat} {o : Obj}, Step T W W' → (∀ b, T b → W1.heap.size ≤ b) → b < W1.heap.size → W.heap[b]? = some o → W'.heap[b]? = some o := fun hst hT hb ho => by
    rw [hst.block _ (Array.getElem?_eq_some_iff.1 ho).1 (fun h => by have := hT _ h; omega)]; exact ho
  have growT_ge : ∀ {T : Nat → Prop} {W W' : World}, (∀ b, T b → W1.heap.size ≤ b) → W1.heap.size ≤ W.heap.size → ∀ b, growT T W W' b → W1.heap.size ≤ b := fun hT hW b hb => by
    rcases hb with hb | ⟨hb, _⟩
    · exact hT b hb
    · omega
  have szOf : ∀ {W : World} {o : Obj}, W.heap[w.heap.size + 1]? = some o → W1.heap.size ≤ W.heap.size := fun h => by
    have := (Array.getElem?_eq_some_iff.1 h).1; omega
  have oth_stp : ∀ {T : Nat → Prop} {W W' : World}, Step T W W' → (∀ b, T b → W1.heap.size ≤ b) → others W → others W' := fun hst hT ho b o hb hc => by
    refine stp hst hT ?_ (ho b o hb hc)
    have := (Array.getElem?_eq_some_iff.1 hb).1; omega
  have hJc : ∀ T k W W', J T k W → Step T W W' → J (growT T W W') k W' := by
    rintro T k W W' ⟨⟨κ', sv', h, hw⟩, hT, hl, hk, ho⟩ hst
    exact ⟨⟨κ', sv', h, hw.other hst (fun b hb => by have := hT b hb; omega)⟩, growT_ge hT (szOf hl), stp hst hT (by omega) hl, stp hst hT (by omega) hk, oth_stp hst hT ho⟩
  have hJxc : ∀ T k W W', Jx T k W → Step T W W' → Jx (growT T W W') k W' := by
    rintro T k W W' ⟨c, ⟨κ', sv', S', hw, hq⟩, hT, hl, hk, ho⟩ hst
    exact ⟨c, ⟨κ', sv', S', hw.other hst (fun b hb => by have := hT b hb; omega), hq⟩, growT_ge hT (szOf hl), stp hst hT (by omega) hl, stp hst hT (by omega) hk, oth_stp hst hT ho⟩
  have h00 : J (fun _ => False) 0 W1 := by
    refine ⟨⟨κ, sv, S.γ, ?_⟩, fun _ h => h.elim, hL1, hK1, fun b o hb _ => ?_⟩
    · have hm : AllE S.γ (gs 0 ++ keepG S kp) ∧ AllE S.σ (os 0 ++ keepO S kp) := ⟨allE_append h0.1 (keepG_ok S kp), allE_append h0.2 (keepO_ok S kp)⟩
      have hw := (sim_gen (S := S) (S' := rnd S kp (gs 0) (os 0) S.γ) (fun i => .inr rfl) (lookF_le (fun _ => Nat.le_refl _) hm.1) (look_ok hm.2) hs1).wld
      obtain ⟨e1, e2, e3, e4, e5, e6, e7, e8, e9, e10, e11, e12, e13, e14⟩ := hw
      exact ⟨e1, e2, e3, e4, e5, e6, e7, e8, e9, e10, ⟨fun _ _ _ h => h, lookF_le (fun _ => Nat.le_refl _) hm.1, fun _ _ => rfl⟩, fun _ _ _ _ h => h, fun _ _ _ h => h, fun _ h => h.elim⟩
    · rw [hb1.block b (Array.getElem?_eq_some_iff.1 hb).1]; exact hb
  have hfits1 : Fits κ W1 := hs1.wld.imm
  refine (calls_F (X := Ctx.plain Z nt w0 κ0 ext) (n := 0) ((callsIn_wide (n := 0)).1 (hc.it W1 κ lb hfits1 (Sim.globOk hs1.wld) (hlb.pure (fun _ _ _ h => h) hc.pureC) (w.heap.size + 1) J Jx hJc hJxc ?_ h00))).mono ?_
  · -- one round
    rintro T k W ⟨⟨κ', sv', h, hw⟩, hT, hl, hk, ho⟩ hkn hcells
    have hy := run_yield (P := Z.P) (args := (vals k).toArray) hl (by rw [hrec, List.size_toArray]; exact hps k hkn)
    rw [hrec] at hy
    refine ⟨fn, _, assign, body, hy, roundIn_of_wpIn trivial ?_⟩
    have hfold : (ps.zip (vals k).toArray).foldl (fun tmps (t, a) => tmps.setIfInBounds t a) a.tmps = (ps.toList.zip (vals k)).foldl (fun (t : Array Value) (x : Nat × Value) => t.setIfInBounds x.1 x.2) a.tmps := by
      rw [← Array.foldl_toList, Array.toList_zip]
    have hlW : w.heap.size + 1 < W.heap.size := (Array.getElem?_eq_some_iff.1 hl).1
    let Ta : Nat → Prop := fun b => (T b ∨ ∃ o : Obj, W.heap[b]? = some o ∧ o.isCells = false) ∨ ∃ o v, κ b o = some v
    have hTl : Ta (w.heap.size + 1) := .inl (.inr ⟨_, hl, rfl⟩)
    have hTlt : ∀ b, Ta b → b < W.heap.size := by
      rintro b ((hb | ⟨o, hb, _⟩) | ⟨o, v, hb⟩)
      · exact hw.aw3 b hb
      · exact (Array.getElem?_eq_some_iff.1 hb).1
      · have := World.block_lt_of_cell? W _ (hcells b o v hb); simpa using this
    have hκne : ∀ b o v, κ b o = some v → b ≠ w.heap.size + 1 := by
      intro b o v hb e
      subst e
      have := hcells _ o v hb
      simp [World.cell?, hl] at this
    -- the assignment
    have hsa : SimW (roundX Z nt w0 κ0 ext κ S.γ sv T (w.heap.size + 1) (protF w0 ext Ta W) (prot_cl w0 ext Ta W)) κ' sv' ⟨setps S.ρ ps.toList (args k), lookF h (gs k ++ keepG S kp), look .none (os k ++ keepO S kp)⟩ W := by
      have h1 : SimW (XP T) κ' sv' ⟨setps S.ρ ps.toList (args k), lookF h (gs k ++ keepG S kp), look .none (os k ++ keepO S kp)⟩ W := hw.slots rfl rfl
      refine h1.reframe (D := w.heap.size + 1) (below_grown (Below.refl _ _) _) ⟨_, hl, rfl⟩ (fun M hM1 hM2 => ⟨fun b => ∃ s, blk (look .none (os k ++ keepO S kp) s) (sv' s) = some b, ⟨⟨M, hM1, fun b ⟨s, hb⟩ => hM2 s b hb⟩, ?_, fun b hb => ⟨hTlt b hb, rfl⟩, Nat.le_refl _⟩, fun s b hb => ⟨s, hb⟩⟩) (fun _ h => h) hw.le
      rintro b ⟨s, hb⟩ ((hb2 | ⟨o, hb2, hb3⟩) | ⟨o, v, hb2⟩)
      · exact hw.aw2 s b hb hb2
      · obtain ⟨o', e1, e2⟩ := owns_cells (hw.own s) hb
        rw [e1] at hb2; cases hb2; rw [hb3] at e2; cases e2
      · have := hw.sep s b o hb
        rw [hw.le.cells b o v hb2] at this; cases this
    have hslots := slots_set ps.toList (args k) (vals k) S.ρ a.tmps (scalL2_rep (κ := κ') (γ := lookF h (gs k ++ keepG S kp)) (sv := sv') (hv k hkn)) (fun i hi => (hs.slot i hi).mono hw.le) hs.size
    have hra := hround k h hkn hw.le.gens κ S.γ sv T (w.heap.size + 1) (protF w0 ext Ta W) (prot_cl w0 ext Ta W) κ' sv' { tmps := (ps.toList.zip (vals k)).foldl (fun (t : Array Value) (x : Nat × Value) => t.setIfInBounds x.1 x.2) a.tmps, defers := [] } W
      ⟨hslots.2, Dfr.nil rfl, hslots.1, hsa⟩
    rw [hfold]
    refine wpIn_mono hra ?_
    rintro e a1 w1 ⟨κ1, sv1, S1, hs1', rfl, hbody⟩
    obtain ⟨M1, ⟨⟨M1', p1, p2⟩, p3, p4, p5⟩, hM1⟩ := hs1'.wld.frame
    have hl1 : w1.heap[w.heap.size + 1]? = some (.loop (rec .ready none)) := (p4 _ hTl).2.trans hl
    refine ⟨_, run_beginRound hl1 (by rw [hrec]), ?_⟩
    obtain ⟨w2, hw2⟩ : ∃ w2, w1.putObj (w.heap.size + 1) (.loop { rec .ready none with state := .busy }) = w2 := ⟨_, rfl⟩
    rw [hw2]
    have hg2 : w1.grownBy w2 (some (w.heap.size + 1)) := by rw [← hw2]; exact grownBy_putObj' _ _ _
    have hz2 : w2.heap.size = w1.heap.size := by rw [← hw2]; simp
    have hl2 : w2.heap[w.heap.size + 1]? = some (.loop { rec .ready none with state := .busy }) := by rw [← hw2]; exact World.putObj_heap_same (Array.getElem?_eq_some_iff.1 hl1).1
    have ho2 : ∀ b, b ≠ w.heap.size + 1 → w2.heap[b]? = w1.heap[b]? := fun b hb => by rw [← hw2]; exact World.putObj_heap_other hb
    have frm : ∀ {M : Nat → Prop} {A B : World}, plainF w0 ext M A → A.grownBy B (some (w.heap.size + 1)) → plainF w0 ext M B := fun h1 hg =>
      ⟨⟨hg.os.trans h1.1.os, hg.tape.trans h1.1.tape, hg.output.trans h1.1.output, Nat.le_trans h1.1.size hg.size, fun k hk he =>
        (hg.block k (Nat.lt_of_lt_of_le hk h1.1.size) (fun e => by simp only [Option.some.injEq] at e; omega)).trans (h1.1.block k hk he)⟩, h1.2⟩
    have hsb : SimW (roundX Z nt w0 κ0 ext κ S.γ sv T (w.heap.size + 1) (protF w0 ext Ta w2) (prot_cl w0 ext Ta w2)) κ1 sv1 S1 w2 := by
      refine hs1'.wld.reframe hg2 ⟨_, hl1, rfl⟩ (fun M hM2 hM3 => ⟨M, ?_, hM3⟩) (fun _ h => h) hs1'.wld.le
      obtain ⟨⟨M', q1, q2⟩, q3, q4, q5⟩ := hM2
      exact ⟨⟨M', frm q1 hg2, q2⟩, q3, fun b hb => ⟨by have := hTlt b hb; omega, rfl⟩, Nat.le_refl _⟩
    obtain ⟨Ds1, t1, t2, t3, t4⟩ := hs1'.defers
    have hrb := hbody (protF w0 ext Ta w2) (prot_cl w0 ext Ta w2) κ1 sv1 a1 w2 ⟨hs1'.size, ⟨Ds1, t1, t2, fun D hD => ⟨(t3 D hD).1, (ho2 D (fun e => by
      have := (t3 D hD).2
      rw [e, hl1] at this; cases this)).trans (t3 D hD).2⟩, t4⟩, hs1'.slot, hsb⟩
    refine wpIn_mono hrb ?_
    rintro e a3 w3 ⟨κ3, sv3, S3, hs3, hq⟩
    obtain ⟨M3, ⟨⟨M3', r1, r2⟩, r3, r4, r5⟩, hM3⟩ := hs3.wld.frame
    have hl3 : w3.heap[w.heap.size + 1]? = some (.loop { rec .ready none with state := .busy }) := (r4 _ hTl).2.trans hl2
    have same3 : ∀ b, Ta b → b ≠ w.heap.size + 1 → w3.heap[b]? = W.heap[b]? := fun b hb hne => (r4 b hb).2.trans ((ho2 b hne).trans (p4 b hb).2)
    have fin : ∀ (jump : Option Code), ∃ w4, (Instr.endRound (w.heap.size + 1) jump).run Z.P w3 = .ok (.bool jump.isNone) w4 ∧ w3.grownBy w4 (some (w.heap.size + 1)) ∧ w4.heap[w.heap.size + 1]? = some (.loop (rec (if jump.isNone then .ready else .done) jump)) ∧
        w4.heap[w.heap.size]? = some (.deferred (some [])) ∧ others w4 ∧ Kept T κ W w4 := fun jump => by
      have h1 := run_endRound (P := Z.P) jump hl3
      rw [hrec] at h1 ⊢
      refine ⟨_, h1, grownBy_putObj' _ _ _, World.putObj_heap_same (Array.getElem?_eq_some_iff.1 hl3).1, ?_, ?_, ?_⟩
      · rw [World.putObj_heap_other (by omega), same3 _ (.inl (.inr ⟨_, hk, rfl⟩)) (by omega)]; exact hk
      · intro b o hb hc
        have hlt := (Array.getElem?_eq_some_iff.1 hb).1
        rw [World.putObj_heap_other (by omega), same3 _ (.inl (.inr ⟨_, ho b o hb hc, hc⟩)) (by omega)]; exact ho b o hb hc
      · refine ⟨by simp; omega, fun b hb => ?_, fun b o v hb => ?_⟩
        · have := hT b hb
          rw [World.putObj_heap_other (by omega), same3 _ (.inl (.inl hb)) (by omega)]
        · have hne := hκne b o v hb
          rw [World.cell?_of_block (w := W) (by rw [World.putObj_heap_other hne, same3 _ (.inr ⟨o, v, hb⟩) hne])]
          exact hcells b o v hb
    have out : ∀ {κ4 sv4 S4 w4}, SimW (roundX Z nt w0 κ0 ext κ S.γ sv T (w.heap.size + 1) (protF w0 ext Ta w2) (prot_cl w0 ext Ta w2)) κ4 sv4 S4 w3 → w3.grownBy w4 (some (w.heap.size + 1)) → SimW (XP T) κ4 sv4 S4 w4 := fun h4 hg4 =>
      h4.reframe hg4 ⟨_, hl3, rfl⟩ (fun M hM2 hM3 => by
        obtain ⟨⟨M', q1, q2⟩, _⟩ := hM2
        exact ⟨M', frm q1 hg4, fun s b hb => q2 b (hM3 s b hb)⟩) (fun _ h => h) h4.le
    cases e with
    | normal =>
      obtain ⟨S4, hwk, m1, m2, m3⟩ := hq
      obtain ⟨κ4, sv4, hs4⟩ := hwk κ3 sv3 a3 w3 hs3
      obtain ⟨w4, f1, f2, f3, f4, f5, f6⟩ := fin none
      have hm : AllE S4.γ (gs (k + 1) ++ keepG S kp) ∧ AllE S4.σ (os (k + 1) ++ keepO S kp) := ⟨allE_append m1 (keepG_all m3), allE_append m2 (keepO_all m3)⟩
      have h5 := (sim_gen (S := S4) (S' := ⟨S4.ρ, lookF S4.γ (gs (k + 1) ++ keepG S kp), look .none (os (k + 1) ++ keepO S kp)⟩) (fun i => .inr rfl) (lookF_le (fun _ => Nat.le_refl _) hm.1) (look_ok hm.2) hs4).wld
      exact ⟨_, w4, f1, .inl ⟨rfl, ⟨κ4, sv4, S4.γ, (out h5 f2).slots rfl rfl⟩, hT, f3, f4, f5⟩, f6⟩
    | ret =>
      obtain ⟨w4, f1, f2, f3, f4, f5, f6⟩ := fin (some .ret)
      exact ⟨_, w4, f1, .inr ⟨rfl, .ret, ⟨κ3, sv3, S3, out hs3.wld f2, hq⟩, hT, f3, f4, f5⟩, f6⟩
    | exit i =>
      obtain ⟨w4, f1, f2, f3, f4, f5, f6⟩ := fin (some (.exit i))
      exact ⟨_, w4, f1, .inr ⟨rfl, .exit i, ⟨κ3, sv3, S3, out hs3.wld f2, hq⟩, hT, f3, f4, f5⟩, f6⟩
    | goto t => exact hq.elim
    | panic ch => exact hq.elim
    | outgrown => exact hq.elim
  · -- behind the iterator
    have last : ∀ {T : Nat → Prop} {κ' : Nat → Nat → Option Value} {sv' : Nat → Value} {S' : St} {W : World} {st : LoopState} {pe : Option Code}, SimW (XP T) κ' sv' S' W → W.heap[w.heap.size + 1]? = some (.loop (rec st pe)) → W.heap[w.heap.size]? = some (.deferred (some [])) → others W →
        ∀ o', Sim (Ctx.plain Z nt w0 κ0 ext) κ' sv' ⟨S.ρ, S'.γ, S'.σ⟩ { a with defers := mark w.heap.size :: a.defers } (W.putObj (w.heap.size + 1) o') := by
      intro T κ' sv' S' W st pe hw hl hk ho o'
      have hg := grownBy_putObj' W (w.heap.size + 1) o'
      refine ⟨hs.size, ⟨w.heap.size :: Ds, by rw [d1]; rfl, List.nodup_cons.2 ⟨fun hm => ?_, d2⟩, fun D hD => ?_, fun h => ?_⟩, fun i hi => (hs.slot i hi).mono hw.le, ?_⟩
      · have := (d3 _ hm).2
        rw [Array.getElem?_eq_none (by simp)] at this; cases this
      · rcases List.mem_cons.1 hD with rfl | hD
        · exact ⟨hbase', (World.putObj_heap_other (by omega)).trans hk⟩
        · obtain ⟨e1, e2⟩ := d3 D hD
          have hlt := (Array.getElem?_eq_some_iff.1 e2).1
          exact ⟨e1, (World.putObj_heap_other (by omega)).trans (ho D _ e2 rfl)⟩
      · rename_i h; cases h
      · have h1 : SimW (XP T) κ' sv' ⟨S.ρ, S'.γ, S'.σ⟩ W := hw.slots rfl rfl
        refine h1.reframe hg ⟨_, hl, rfl⟩ (fun M hM2 hM3 => ⟨M, ?_, hM3⟩) (fun _ h => h.elim) (hs.wld.le.trans hw.le)
        exact ⟨⟨hg.os.trans hM2.1.os, hg.tape.trans hM2.1.tape, hg.output.trans hM2.1.output, Nat.le_trans hM2.1.size hg.size, fun k hk he =>
          (hg.block k (Nat.lt_of_lt_of_le hk hM2.1.size) (fun e => by simp only [Option.some.injEq] at e; omega)).trans (hM2.1.block k hk he)⟩, hM2.2⟩
    rintro e W2 ⟨⟨v, rfl⟩, (⟨T, ⟨κ', sv', h, hw⟩, hT, hl, hk, ho⟩ | ⟨T, k, _, c, ⟨κ', sv', S', hw, hq⟩, hT, hl, hk, ho⟩)⟩
    · exact ⟨none, _, by have := run_endLoop (P := Z.P) hl (by rw [hrec]; simp); rw [hrec] at this; exact this, κ', sv', _, last hw hl hk ho _, hdone h⟩
    · refine ⟨some c, _, by have := run_endLoop (P := Z.P) hl (by rw [hrec]; simp); rw [hrec] at this; exact this, ?_⟩
      rcases hQx c S' hq with rfl | ⟨i, rfl⟩
      · exact wpIn_ret ⟨κ', sv', _, last hw hl hk ho _, hret S' hq⟩
      · exact wpIn_exit ⟨κ', sv', _, last hw hl hk ho _, hexit i S' hq⟩


theorem keepP_look {S S' : St} : ∀ {kp : List Nat}, KeepP S S' kp → AllE S'.γ (keepG S kp) ∧ AllE S'.σ (keepO S kp) := fun h => ⟨keepG_all h, keepO_all h⟩
end
end Go.Ab
