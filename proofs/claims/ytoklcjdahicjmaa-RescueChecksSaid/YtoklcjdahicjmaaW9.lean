/- Walks by computing: what each function of the program that the laws reach gives for what it gets, as plain Lean, and that it is so; without a condition but those that stand in each theorem. -/
import Derived.Test.YtoklcjdahicjmaaRows
import Derived.WalkKit
import Derived.ProofKit
import Derived.OpenShut
import Derived.Deep.Slices
import Derived.Deep.DeepHandedRow
import Derived.Lib.LaidTab
import Derived.Test.YtoklcjdahicjmaaW1
import Derived.Test.YtoklcjdahicjmaaW2
import Derived.Test.YtoklcjdahicjmaaW3
import Derived.Test.YtoklcjdahicjmaaW4
import Derived.Test.YtoklcjdahicjmaaW5
import Derived.Test.YtoklcjdahicjmaaW6
import Derived.Test.YtoklcjdahicjmaaW7
import Derived.Test.YtoklcjdahicjmaaW8
set_option linter.all false
namespace Go.Proofs.Ytoklcjdahicjmaa
open Go Go.Ab Go.ChangeShapes Go.WideShapes Go.ChangeAt Go.RowKit
set_option maxRecDepth 100000
def allK (w : World) : Nat → Nat → Option Value := fun b o => w.cell? ⟨b, o, none⟩
theorem allK_fits (w : World) : Fits (allK w) w := fun _ _ _ h => h
theorem cells3 : Try.prog.cellsOf 3 = 1 := by kernel_rfl
section
variable {H : Type} {enc : TypeId × Value → H} {W : World}
def Rd {α : Type} (enc : TypeId × Value → H) (W : World) (t : TypeId) (ec : α → List D) : Prop :=
  ∀ n cs x, DataW.trod enc Try.prog W 0 (fun _ => true) true n t cs = some x → ∃ a : α, RepL (allK W) γ0 sv0 (ec a) cs
theorem rd_int : Rd enc W 3 encI := by
  intro n cs x h
  obtain ⟨a, rfl, _⟩ := DataW.trod_int Try.underlying3 h
  exact ⟨a, .cons _ _ _ _ (.int _ _) .nil⟩
theorem rd_slice {α : Type} [Inhabited α] {t e z : Nat} {ec : α → List D} (ht : Try.prog.underlying t = some (.slice e)) (hz : Try.prog.cellsOf e = z) (hz0 : 0 < z) (hl : ∀ a, (ec a).length = z)
    (hc : ∀ a, allCell (ec a) = true) (hr : Rd enc W e ec) : Rd enc W t (fun l : List α => [slOf z ec l]) := by
  intro n cs x h
  rcases Deep.open_slice ht h with ⟨rfl, rfl⟩ | ⟨a, len, cap, m, n', D, Pl, rfl, _, hlc, _, hm, rfl, hx⟩
  · exact ⟨[], .cons _ _ _ _ (.sl0 _ _) .nil⟩
  · simp only [if_true] at hm
    subst hm
    rw [hz] at hx
    rcases Nat.eq_zero_or_pos len with rfl | hpos
    · exact ⟨[], .cons _ _ _ _ (.slE _ _ _ _) .nil⟩
    · have hx' : ∀ i, i < len → ∃ p : α × List Value, W.cells? 0 (a.add (i * z)) z = some p.2 ∧ RepL (allK W) γ0 sv0 (ec p.1) p.2 := fun i hi => by
        obtain ⟨cs', h1, h2⟩ := hx i (by omega)
        obtain ⟨b, hb⟩ := hr _ _ _ h2
        exact ⟨(b, cs'), h1, hb⟩
      obtain ⟨F, hF⟩ := Deep.choose_lt hx'
      have hsp : a.spot = none := by
        obtain ⟨_, h1, h2⟩ := World.cells?_some (hF 0 hpos).1
        have h3 := h2 0 hz0
        rw [List.getElem?_eq_getElem (by omega)] at h3
        simpa [Addr.add] using World.cell?_spot h3
      obtain ⟨b, off, sp⟩ := a
      simp only at hsp
      subst hsp
      refine ⟨(List.range len).map (fun i => (F i).1), .cons _ _ _ _ ?_ .nil⟩
      have hlen : ((List.range len).map (fun i => (F i).1)).length = len := by simp
      have hg : ∀ i, i < len → ((List.range len).map (fun i => (F i).1)).getD i default = (F i).1 := fun i hi => by simp [List.getD, hi]
      unfold slOf
      rw [hlen]
      refine .sl z len _ b off m (fun i => (F i).2) hlc (fun i _ => hl _) (fun i _ => hc _) (fun i hi => by rw [hg i hi]; exact (hF i hi).2) (fun i j v hi hj => ?_)
      obtain ⟨_, h1, h2⟩ := World.cells?_some (hF i hi).1
      have hjl := (List.getElem?_eq_some_iff.1 hj).1
      have h3 := h2 j (by omega)
      rw [add_plain, add_plain, hj] at h3
      exact h3
theorem arg_ints {v : Value} {d : DataW H} {ps : List MemPlace} {base : Nat} (hv : Value.okWide Try.prog W .any base 28 v) (h : DataW.Trod enc Try.prog W 0 (fun _ => true) true 28 v d ps) :
    ∃ l : List Int, Rep (allK W) γ0 sv0 (slOf 1 encI l) v := by
  obtain ⟨n, hn⟩ := h
  obtain ⟨l, hl⟩ := rd_slice (ec := encI) Try.underlying28 cells3 (by decide) (fun _ => rfl) (fun _ => rfl) rd_int _ _ _ hn
  obtain ⟨a0, len, cap, rfl⟩ := okWide_slice Try.underlying28 hv
  cases hl with
  | cons _ _ _ _ k _ => exact ⟨l, k⟩
end
theorem glob_of {W : World} : GlobOk seat (allK W) := fun g l h => by cases h
theorem laidOut : laidOutB Try.prog = true := by kernel_rfl
theorem own : ownKnob Try.prog.godebug = none := by kernel_rfl
theorem trodAll_stays {H : Type} {enc : TypeId × Value → H} {W W' : World} {sp' : Nat → Bool} (hb : Below W.heap.size W W') : ∀ {ts : List TypeId} {vs : List Value} {ds : List (DataW H)} {ps : List MemPlace},
    (∀ t ∈ ts, Try.prog.readableRec t = true ∧ t < Try.prog.types.size) → DataW.TrodAll enc Try.prog W 0 (fun _ => true) true ts vs ds ps → (∀ p ∈ ps, p.block < W.heap.size) → (∀ p ∈ ps, sp' p.block = true) →
    DataW.TrodAll enc Try.prog W' 0 sp' true ts vs ds ps
  | [], [], [], _, _, h, _, _ => h
  | _ :: _, _ :: _, _ :: _, _, hT, ⟨p, q, h1, h2, e⟩, hlt, hs => ⟨p, q,
      WideElems.Trod_stays laidOut (hT _ (List.mem_cons_self ..)).1 (hT _ (List.mem_cons_self ..)).2 h1 (fun x hx => hb.same (hlt x (by rw [e]; exact List.mem_append_left _ hx))) (fun x hx => hs x (by rw [e]; exact List.mem_append_left _ hx)),
      trodAll_stays hb (fun t ht => hT t (List.mem_cons_of_mem _ ht)) h2 (fun x hx => hlt x (by rw [e]; exact List.mem_append_right _ hx)) (fun x hx => hs x (by rw [e]; exact List.mem_append_right _ hx)), e⟩
theorem post_yes {H : Type} {enc : TypeId × Value → H} {f : Func} {s : ChangeSpec} {W W' : World} {args : Array Value} {ds gs : List (DataW H)} {before : List MemPlace}
    (hW : DataW.Whole enc Try.prog f.params.toList s.vars false W args.toList ds gs before) (hv : s.vars = []) (hb : Below W.heap.size W W')
    (hT : ∀ t ∈ f.params.toList, Try.prog.readableRec t = true ∧ t < Try.prog.types.size) (hrt : f.resultTypes = #[4])
    (hr : (s.fn H (ds ++ gs)).results = [.lit (.bool true)]) (ha : (s.fn H (ds ++ gs)).args = ds) (hvs : (s.fn H (ds ++ gs)).vars = []) :
    s.post enc Try.prog f false true false false W args (.bool true) W' := by
  have hlt := hW.lt
  have hW2 := hW
  obtain ⟨p, q, hA, hV, rfl, _, _⟩ := hW
  rw [hv] at hV
  obtain ⟨rfl, rfl⟩ := trodVars_none hV
  refine ⟨ds, [], p ++ [], [], p, [], hW2, ?_, ?_, ?_, hb.frame _, fun h => by cases h⟩
  · rw [hr, hrt]
    exact trodAll_mk1 (shut_bool Try.underlying4 _)
  · rw [ha]
    exact trodAll_stays hb hT hA (fun x hx => hlt x (by simpa using hx)) (fun x hx => by simpa using hlt x (by simpa using hx))
  · rw [hvs, hv]; rfl
noncomputable def laidWorld (os : Os) : World := World.holding Try.prog os ⟨#[], #[], []⟩
theorem ints_len {κ : Nat → Nat → Option Value} {γ : Nat → Nat} {sv : Nat → Value} {W : World} {base : Nat} {v : Value} {l : List Int} (hv : Value.okWide Try.prog W .any base 28 v) (h : Rep κ γ sv (slOf 1 encI l) v) : l.length ≤ 9223372036854775807 := by
  unfold slOf at h
  generalize hn : l.length = n at h
  cases h with
  | sl0 => omega
  | slE => omega
  | sl _ _ _ b off cap u hc =>
    simp only [Value.okWide, Cell.okWide, Cell.ok, Try.underlying28] at hv
    have h1 := hv.2.1
    have h2 : IntKind.i64.max = 9223372036854775807 := by decide
    rw [h2] at h1
    omega
section
variable {H : Type} {enc : TypeId × Value → H} {W : World}
end
end Go.Proofs.Ytoklcjdahicjmaa
namespace Go.Proofs.Ytoklcjdahicjmaa
open Go Go.Ab Go.ChangeShapes Go.WideShapes Go.ChangeAt Go.RowKit
set_option linter.all false
set_option maxRecDepth 100000
theorem cells22 : Try.prog.cellsOf 22 = 1 := by kernel_rfl
theorem cells23 : Try.prog.cellsOf 23 = 1 := by kernel_rfl
theorem cells24 : Try.prog.cellsOf 24 = 1 := by kernel_rfl
theorem cells25 : Try.prog.cellsOf 25 = 1 := by kernel_rfl
theorem cells27 : Try.prog.cellsOf 27 = 5 := by kernel_rfl
theorem cells51 : Try.prog.cellsOf 51 = 2 := by kernel_rfl
theorem cells55 : Try.prog.cellsOf 55 = 5 := by kernel_rfl
theorem cells57 : Try.prog.cellsOf 57 = 7 := by kernel_rfl
theorem cells94 : Try.prog.cellsOf 94 = 3 := by kernel_rfl
section
variable {H : Type} {enc : TypeId × Value → H} {W : World}
theorem fld {fs : Array Field} {xs : List (DataW H × List MemPlace)} {cs : List Value} {n : Nat}
    (hf : ∀ (i : Nat) (f : Field), fs[i]? = some f → DataW.trod enc Try.prog W 0 (fun _ => true) true n f.type ((cs.drop f.offset).take (Try.prog.cellsOf f.type)) = xs[i]?)
    (hl : xs.length = fs.size) (i : Nat) (f : Field) (hi : fs[i]? = some f) : ∃ y, DataW.trod enc Try.prog W 0 (fun _ => true) true n f.type ((cs.drop f.offset).take (Try.prog.cellsOf f.type)) = some y := by
  have h1 := (Array.getElem?_eq_some_iff.1 hi).1
  rw [← hl] at h1
  exact ⟨xs[i], by rw [hf i f hi]; exact List.getElem?_eq_getElem h1⟩
theorem rd_span : Rd enc W 51 encDSpan := by
  intro n cs x h
  obtain ⟨xs, m, rfl, rfl, hlen, hxl, hf⟩ := DataW.trod_struct Try.underlying51 h
  obtain ⟨y0, h0⟩ := fld hf hxl 0 _ rfl
  obtain ⟨y1, h1⟩ := fld hf hxl 1 _ rfl
  obtain ⟨a0, e0, _⟩ := DataW.trod_int Try.underlying3 h0
  obtain ⟨a1, e1, _⟩ := DataW.trod_int Try.underlying3 h1
  rw [cells51] at hlen
  rcases cs with _ | ⟨c0, _ | ⟨c1, _ | ⟨c2, cs⟩⟩⟩ <;> simp at hlen
  simp [cells3] at e0 e1
  subst e0 e1
  exact ⟨⟨a0, a1⟩, (.cons _ _ _ _ (.int _ _) (.cons _ _ _ _ (.int _ _) .nil))⟩
theorem rd_path : Rd enc W 55 encDPath := by
  intro n cs x h
  obtain ⟨xs, m, rfl, rfl, hlen, hxl, hf⟩ := DataW.trod_struct Try.underlying55 h
  obtain ⟨y0, h0⟩ := fld hf hxl 0 _ rfl
  obtain ⟨y1, h1⟩ := fld hf hxl 1 _ rfl
  obtain ⟨y2, h2⟩ := fld hf hxl 2 _ rfl
  obtain ⟨y3, h3⟩ := fld hf hxl 3 _ rfl
  obtain ⟨a0, e0, _⟩ := DataW.trod_int Try.underlying3 h0
  obtain ⟨a1, e1, _⟩ := DataW.trod_int Try.underlying3 h1
  obtain ⟨a2, e2⟩ := rd_span _ _ _ h2
  obtain ⟨a3, e3, _⟩ := DataW.trod_int Try.underlying3 h3
  rw [cells55] at hlen
  rcases cs with _ | ⟨c0, _ | ⟨c1, _ | ⟨c2, _ | ⟨c3, _ | ⟨c4, _ | ⟨c5, cs⟩⟩⟩⟩⟩⟩ <;> simp at hlen
  simp [cells3, cells51] at e0 e1 e2 e3
  subst e0 e1 e3
  cases e2 with
  | cons _ _ _ _ k0 r0 =>
    cases r0 with
    | cons _ _ _ _ k1 r1 =>
      exact ⟨⟨a0, a1, a2, a3⟩, (.cons _ _ _ _ (.int _ _) (.cons _ _ _ _ (.int _ _) (.cons _ _ _ _ k0 (.cons _ _ _ _ k1 (.cons _ _ _ _ (.int _ _) .nil)))))⟩
theorem rd_post : Rd enc W 57 encDPost := by
  intro n cs x h
  obtain ⟨xs, m, rfl, rfl, hlen, hxl, hf⟩ := DataW.trod_struct Try.underlying57 h
  obtain ⟨y0, h0⟩ := fld hf hxl 0 _ rfl
  obtain ⟨y1, h1⟩ := fld hf hxl 1 _ rfl
  obtain ⟨y2, h2⟩ := fld hf hxl 2 _ rfl
  obtain ⟨y3, h3⟩ := fld hf hxl 3 _ rfl
  obtain ⟨y4, h4⟩ := fld hf hxl 4 _ rfl
  obtain ⟨y5, h5⟩ := fld hf hxl 5 _ rfl
  obtain ⟨a0, e0, _⟩ := DataW.trod_int Try.underlying3 h0
  obtain ⟨a1, e1⟩ := rd_span _ _ _ h1
  obtain ⟨a2, e2, _⟩ := DataW.trod_int Try.underlying3 h2
  obtain ⟨a3, e3, _⟩ := DataW.trod_int Try.underlying3 h3
  obtain ⟨a4, e4, _⟩ := DataW.trod_int Try.underlying3 h4
  obtain ⟨a5, e5⟩ := rd_slice (ec := encDSpan) Try.underlying24 cells51 (by decide) (fun _ => rfl) (fun _ => rfl) rd_span _ _ _ h5
  rw [cells57] at hlen
  rcases cs with _ | ⟨c0, _ | ⟨c1, _ | ⟨c2, _ | ⟨c3, _ | ⟨c4, _ | ⟨c5, _ | ⟨c6, _ | ⟨c7, cs⟩⟩⟩⟩⟩⟩⟩⟩ <;> simp at hlen
  simp [cells3, cells24, cells51] at e0 e1 e2 e3 e4 e5
  subst e0 e2 e3 e4
  cases e1 with
  | cons _ _ _ _ k0 r0 =>
    cases r0 with
    | cons _ _ _ _ k1 r1 =>
      cases e5 with
      | cons _ _ _ _ k2 r2 =>
        exact ⟨⟨a0, a1, a2, a3, a4, a5⟩, (.cons _ _ _ _ (.int _ _) (.cons _ _ _ _ k0 (.cons _ _ _ _ k1 (.cons _ _ _ _ (.int _ _) (.cons _ _ _ _ (.int _ _) (.cons _ _ _ _ (.int _ _) (.cons _ _ _ _ k2 .nil)))))))⟩
theorem rd_chill : Rd enc W 94 encDChill := by
  intro n cs x h
  obtain ⟨xs, m, rfl, rfl, hlen, hxl, hf⟩ := DataW.trod_struct Try.underlying94 h
  obtain ⟨y0, h0⟩ := fld hf hxl 0 _ rfl
  obtain ⟨y1, h1⟩ := fld hf hxl 1 _ rfl
  obtain ⟨a0, e0, _⟩ := DataW.trod_int Try.underlying3 h0
  obtain ⟨a1, e1⟩ := rd_span _ _ _ h1
  rw [cells94] at hlen
  rcases cs with _ | ⟨c0, _ | ⟨c1, _ | ⟨c2, _ | ⟨c3, cs⟩⟩⟩⟩ <;> simp at hlen
  simp [cells3, cells51] at e0 e1
  subst e0
  cases e1 with
  | cons _ _ _ _ k0 r0 =>
    cases r0 with
    | cons _ _ _ _ k1 r1 =>
      exact ⟨⟨a0, a1⟩, (.cons _ _ _ _ (.int _ _) (.cons _ _ _ _ k0 (.cons _ _ _ _ k1 .nil)))⟩
theorem rd_rescue : Rd enc W 27 encDRescue := by
  intro n cs x h
  obtain ⟨xs, m, rfl, rfl, hlen, hxl, hf⟩ := DataW.trod_struct Try.underlying27 h
  obtain ⟨y0, h0⟩ := fld hf hxl 0 _ rfl
  obtain ⟨y1, h1⟩ := fld hf hxl 1 _ rfl
  obtain ⟨y2, h2⟩ := fld hf hxl 2 _ rfl
  obtain ⟨y3, h3⟩ := fld hf hxl 3 _ rfl
  obtain ⟨y4, h4⟩ := fld hf hxl 4 _ rfl
  obtain ⟨a0, e0, _⟩ := DataW.trod_int Try.underlying3 h0
  obtain ⟨a1, e1⟩ := rd_slice (ec := encDPath) Try.underlying22 cells55 (by decide) (fun _ => rfl) (fun _ => rfl) rd_path _ _ _ h1
  obtain ⟨a2, e2⟩ := rd_slice (ec := encDPost) Try.underlying23 cells57 (by decide) (fun _ => rfl) (fun _ => rfl) rd_post _ _ _ h2
  obtain ⟨a3, e3⟩ := rd_slice (ec := encDSpan) Try.underlying24 cells51 (by decide) (fun _ => rfl) (fun _ => rfl) rd_span _ _ _ h3
  obtain ⟨a4, e4⟩ := rd_slice (ec := encDChill) Try.underlying25 cells94 (by decide) (fun _ => rfl) (fun _ => rfl) rd_chill _ _ _ h4
  rw [cells27] at hlen
  rcases cs with _ | ⟨c0, _ | ⟨c1, _ | ⟨c2, _ | ⟨c3, _ | ⟨c4, _ | ⟨c5, cs⟩⟩⟩⟩⟩⟩ <;> simp at hlen
  simp [cells3, cells22, cells23, cells24, cells25] at e0 e1 e2 e3 e4
  subst e0
  cases e1 with
  | cons _ _ _ _ k0 r0 =>
    cases e2 with
    | cons _ _ _ _ k1 r1 =>
      cases e3 with
      | cons _ _ _ _ k2 r2 =>
        cases e4 with
        | cons _ _ _ _ k3 r3 =>
          exact ⟨⟨a0, a1, a2, a3, a4⟩, (.cons _ _ _ _ (.int _ _) (.cons _ _ _ _ k0 (.cons _ _ _ _ k1 (.cons _ _ _ _ k2 (.cons _ _ _ _ k3 .nil)))))⟩
theorem arg_int {v : Value} {d : DataW H} {ps : List MemPlace} {base : Nat} (hv : Value.okWide Try.prog W .any base 3 v) (h : DataW.Trod enc Try.prog W 0 (fun _ => true) true 3 v d ps) :
    ∃ n : Int, Rep (allK W) γ0 sv0 (.int .i64 n) v := by
  obtain ⟨n, hn⟩ := h
  obtain ⟨a, e, _⟩ := DataW.trod_int Try.underlying3 hn
  cases v with
  | int k m => simp [Value.cells] at e; obtain ⟨rfl, rfl⟩ := e; exact ⟨m, .int _ _⟩
  | agg cs => simp [Value.okWide, Cell.okWide, Cell.ok, Try.underlying3] at hv
  | _ => simp [Value.cells] at e
theorem arg_struct {α : Type} {ec : α → List D} {t : TypeId} {fs : Array Field} (hu : Try.prog.underlying t = some (.struct fs)) (hr : Rd enc W t ec) {v : Value} {d : DataW H} {ps : List MemPlace} {base : Nat} (hv : Value.okWide Try.prog W .any base t v) (h : DataW.Trod enc Try.prog W 0 (fun _ => true) true t v d ps) :
    ∃ c : α, Rep (allK W) γ0 sv0 (.agg (ec c)) v := by
  simp only [Value.okWide, hu] at hv
  obtain ⟨cs, rfl, _⟩ := hv
  obtain ⟨n, hn⟩ := h
  obtain ⟨c, hc⟩ := hr _ _ _ hn
  have := Rep.agg _ _ hc
  simp [Value.cells] at this
  exact ⟨c, this⟩
end
theorem sl_len {κ : Nat → Nat → Option Value} {γ : Nat → Nat} {sv : Nat → Value} {W : World} {base : Nat} {v : Value} {e z n : Nat} {f : Nat → List D} {t : TypeId} (ht : Try.prog.underlying t = some (.slice e)) (hv : Cell.okWide Try.prog W .any base t v) (h : Rep κ γ sv (.sl z n f) v) : n ≤ 9223372036854775807 := by
  cases h with
  | sl0 => omega
  | slE => omega
  | sl _ _ _ b off cap u hc =>
    simp only [Cell.okWide, Cell.ok, ht] at hv
    have h1 := hv.2.1
    have h2 : IntKind.i64.max = 9223372036854775807 := by decide
    rw [h2] at h1
    omega
theorem agg_len {κ : Nat → Nat → Option Value} {γ : Nat → Nat} {sv : Nat → Value} {W : World} {base : Nat} {v : Value} {l : List D} {e z n : Nat} {f : Nat → List D} {t u : TypeId} {fs : Array Field} {ts : List TypeId} (i : Nat) (hu : Try.prog.underlying t = some (.struct fs)) (hts : Try.prog.cellTypes Try.prog.depth t = some ts) (hi : l[i]? = some (.sl z n f)) (hti : ts[i]? = some u) (hu2 : Try.prog.underlying u = some (.slice e))
    (hv : Value.okWide Try.prog W .any base t v) (h : Rep κ γ sv (.agg l) v) : n ≤ 9223372036854775807 := by
  simp only [Value.okWide, hu] at hv
  obtain ⟨cs, rfl, _, ts', h1, _, h3⟩ := hv
  rw [hts] at h1
  cases h1
  cases h with
  | agg _ vs hl =>
    obtain ⟨w, hw, hr⟩ := hl.get hi
    obtain ⟨u', h4, h5⟩ := h3 i w (by simpa using hw)
    have hlt := (List.getElem?_eq_some_iff.1 hti).1
    rw [Nat.mod_eq_of_lt hlt, hti] at h4
    cases h4
    exact sl_len hu2 h5 hr
theorem posts_len {κ : Nat → Nat → Option Value} {γ : Nat → Nat} {sv : Nat → Value} {W : World} {base : Nat} {v : Value} {r : Rescue} (hv : Value.okWide Try.prog W .any base 27 v) (h : Rep κ γ sv (.agg (encDRescue r)) v) : r.Posts.length ≤ 9223372036854775807 :=
  agg_len 2 Try.underlying27 (show Try.prog.cellTypes Try.prog.depth 27 = some [3, 22, 23, 24, 25] by kernel_rfl) rfl rfl Try.underlying23 hv h
theorem air_len {κ : Nat → Nat → Option Value} {γ : Nat → Nat} {sv : Nat → Value} {W : World} {base : Nat} {v : Value} {p : Post} (hv : Value.okWide Try.prog W .any base 57 v) (h : Rep κ γ sv (.agg (encDPost p)) v) : p.Air.length ≤ 9223372036854775807 :=
  agg_len 6 Try.underlying57 (show Try.prog.cellTypes Try.prog.depth 57 = some [3, 3, 3, 3, 3, 3, 24] by kernel_rfl) rfl rfl Try.underlying24 hv h
end Go.Proofs.Ytoklcjdahicjmaa
