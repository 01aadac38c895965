/- Walks by computing: what each function of the program that the laws reach gives for what it gets, as plain Lean, and that it is so; without a condition but those that stand in each theorem. -/
import Derived.Test.YtafnhieaeejlcaaDoorCards
import Derived.Test.YtafnhieaeejlcaaDoorTie
import Derived.WalkKit
import Derived.ProofKit
import Derived.OpenShut
import Derived.Deep.Slices
import Derived.Deep.DeepHandedRow
import Derived.Lib.LaidTab
import Derived.Test.YtafnhieaeejlcaaDoorW1
import Derived.Test.YtafnhieaeejlcaaDoorW2
import Derived.Test.YtafnhieaeejlcaaDoorW3
import Derived.Test.YtafnhieaeejlcaaDoorW4
import Derived.Test.YtafnhieaeejlcaaDoorW5
import Derived.Test.YtafnhieaeejlcaaDoorW6
import Derived.Test.YtafnhieaeejlcaaDoorW7
set_option linter.all false
/- How the arguments of a law are read as plain data of Lean, what the table of the four cases holds, and what a law that writes nothing older than itself leaves: its arguments read as they did. -/
namespace Go.Proofs.YtafnhieaeejlcaaDoor
open Go Go.Ab Go.ChangeShapes Go.WideShapes Go.ChangeAt Go.RowKit
set_option maxRecDepth 100000

/-- All that a world's memory holds. -/
def allK (w : World) : Nat → Nat → Option Value := fun b o => w.cell? ⟨b, o, none⟩
theorem allK_fits (w : World) : Fits (allK w) w := fun _ _ _ h => h

theorem cells3 : Tryd.prog.cellsOf 3 = 1 := by kernel_rfl
theorem cells22 : Tryd.prog.cellsOf 22 = 1 := by kernel_rfl
theorem cells24 : Tryd.prog.cellsOf 24 = 4 := by kernel_rfl
theorem cells47 : Tryd.prog.cellsOf 47 = 2 := by kernel_rfl
theorem cells48 : Tryd.prog.cellsOf 48 = 1 := by kernel_rfl
theorem cells50 : Tryd.prog.cellsOf 50 = 5 := by kernel_rfl
theorem cells89 : Tryd.prog.cellsOf 89 = 2 := by kernel_rfl
theorem cells102 : Tryd.prog.cellsOf 102 = 2 := by kernel_rfl
theorem cells103 : Tryd.prog.cellsOf 103 = 8 := by kernel_rfl

section
variable {H : Type} {enc : TypeId × Value → H} {W : World}

/-- Whatever reads as the type, stands for a datum of Lean. -/
def Rd {α : Type} (enc : TypeId × Value → H) (W : World) (t : TypeId) (ec : α → List D) : Prop :=
  ∀ n cs x, DataW.trod enc Tryd.prog W 0 (fun _ => true) true n t cs = some x → ∃ a : α, RepL (allK W) γ0 sv0 (ec a) cs

theorem fld {fs : Array Field} {xs : List (DataW H × List MemPlace)} {cs : List Value} {n : Nat}
    (hf : ∀ (i : Nat) (f : Field), fs[i]? = some f → DataW.trod enc Tryd.prog W 0 (fun _ => true) true n f.type ((cs.drop f.offset).take (Tryd.prog.cellsOf f.type)) = xs[i]?)
    (hl : xs.length = fs.size) (i : Nat) (f : Field) (hi : fs[i]? = some f) : ∃ y, DataW.trod enc Tryd.prog W 0 (fun _ => true) true n f.type ((cs.drop f.offset).take (Tryd.prog.cellsOf f.type)) = some y := by
  have h1 := (Array.getElem?_eq_some_iff.1 hi).1
  rw [← hl] at h1
  exact ⟨xs[i], by rw [hf i f hi]; exact List.getElem?_eq_getElem h1⟩

theorem rd_hold : Rd enc W 89 encHold := by
  intro n cs x h
  obtain ⟨xs, m, rfl, rfl, hlen, hxl, hf⟩ := DataW.trod_struct Tryd.underlying89 h
  obtain ⟨y0, h0⟩ := fld hf hxl 0 _ rfl
  obtain ⟨y1, h1⟩ := fld hf hxl 1 _ rfl
  obtain ⟨a0, e0, _⟩ := DataW.trod_int Tryd.underlying3 h0
  obtain ⟨a1, e1, _⟩ := DataW.trod_int Tryd.underlying3 h1
  rw [cells89] at hlen
  rcases cs with _ | ⟨c0, _ | ⟨c1, _ | ⟨c2, cs⟩⟩⟩ <;> simp at hlen
  simp [cells3] at e0 e1
  subst e0 e1
  exact ⟨⟨a0, a1⟩, .cons _ _ _ _ (.int _ _) (.cons _ _ _ _ (.int _ _) .nil)⟩

theorem rd_int : Rd enc W 3 encI := by
  intro n cs x h
  obtain ⟨a, rfl, _⟩ := DataW.trod_int Tryd.underlying3 h
  exact ⟨a, .cons _ _ _ _ (.int _ _) .nil⟩

theorem rd_span : Rd enc W 47 encSpan := by
  intro n cs x h
  obtain ⟨xs, m, rfl, rfl, hlen, hxl, hf⟩ := DataW.trod_struct Tryd.underlying47 h
  obtain ⟨y0, h0⟩ := fld hf hxl 0 _ rfl
  obtain ⟨y1, h1⟩ := fld hf hxl 1 _ rfl
  obtain ⟨a0, e0, _⟩ := DataW.trod_int Tryd.underlying3 h0
  obtain ⟨a1, e1, _⟩ := DataW.trod_int Tryd.underlying3 h1
  rw [cells47] at hlen
  rcases cs with _ | ⟨c0, _ | ⟨c1, _ | ⟨c2, cs⟩⟩⟩ <;> simp at hlen
  simp [cells3] at e0 e1
  subst e0 e1
  exact ⟨⟨a0, a1⟩, .cons _ _ _ _ (.int _ _) (.cons _ _ _ _ (.int _ _) .nil)⟩

theorem rd_slice {α : Type} [Inhabited α] {t e z : Nat} {ec : α → List D} (ht : Tryd.prog.underlying t = some (.slice e)) (hz : Tryd.prog.cellsOf e = z) (hz0 : 0 < z) (hl : ∀ a, (ec a).length = z)
    (hc : ∀ a, allCell (ec a) = true) (hr : Rd enc W e ec) : Rd enc W t (fun l : List α => [slOf z ec l]) := by
  intro n cs x h
  rcases Deep.open_slice ht h with ⟨rfl, rfl⟩ | ⟨a, len, cap, m, n', D, Pl, rfl, _, hlc, _, hm, rfl, hx⟩
  · exact ⟨[], .cons _ _ _ _ (.sl0 _ _) .nil⟩
  · simp only [if_true] at hm
    subst hm
    rw [hz] at hx
    rcases Nat.eq_zero_or_pos len with rfl | hpos
    · exact ⟨[], .cons _ _ _ _ (.slE _ _ _ _) .nil⟩
    · have hx' : ∀ i, i < len → ∃ p : α × List Value, W.cells? 0 (a.add (i * z)) z = some p.2 ∧ RepL (allK W) γ0 sv0 (ec p.1) p.2 := fun i hi => by
        obtain ⟨cs', h1, h2⟩ := hx i (by omega)
        obtain ⟨b, hb⟩ := hr _ _ _ h2
        exact ⟨(b, cs'), h1, hb⟩
      obtain ⟨F, hF⟩ := Deep.choose_lt hx'
      have hsp : a.spot = none := by
        obtain ⟨_, h1, h2⟩ := World.cells?_some (hF 0 hpos).1
        have h3 := h2 0 hz0
        rw [List.getElem?_eq_getElem (by omega)] at h3
        simpa [Addr.add] using World.cell?_spot h3
      obtain ⟨b, off, sp⟩ := a
      simp only at hsp
      subst hsp
      refine ⟨(List.range len).map (fun i => (F i).1), .cons _ _ _ _ ?_ .nil⟩
      have hlen : ((List.range len).map (fun i => (F i).1)).length = len := by simp
      have hg : ∀ i, i < len → ((List.range len).map (fun i => (F i).1)).getD i default = (F i).1 := fun i hi => by simp [List.getD, hi]
      unfold slOf
      rw [hlen]
      refine .sl z len _ b off m (fun i => (F i).2) hlc (fun i _ => hl _) (fun i _ => hc _) (fun i hi => by rw [hg i hi]; exact (hF i hi).2) (fun i j v hi hj => ?_)
      obtain ⟨_, h1, h2⟩ := World.cells?_some (hF i hi).1
      have hjl := (List.getElem?_eq_some_iff.1 hj).1
      have h3 := h2 j (by omega)
      rw [add_plain, add_plain, hj] at h3
      exact h3

theorem rd_truck : Rd enc W 50 encTruck := by
  intro n cs x h
  obtain ⟨xs, m, rfl, rfl, hlen, hxl, hf⟩ := DataW.trod_struct Tryd.underlying50 h
  obtain ⟨y0, h0⟩ := fld hf hxl 0 _ rfl
  obtain ⟨y1, h1⟩ := fld hf hxl 1 _ rfl
  obtain ⟨y2, h2⟩ := fld hf hxl 2 _ rfl
  obtain ⟨y3, h3⟩ := fld hf hxl 3 _ rfl
  obtain ⟨a0, e0, _⟩ := DataW.trod_int Tryd.underlying3 h0
  obtain ⟨a1, e1, _⟩ := DataW.trod_int Tryd.underlying3 h1
  obtain ⟨s, e2⟩ := rd_span _ _ _ h2
  obtain ⟨l, e3⟩ := rd_slice (ec := encHold) Tryd.underlying48 cells89 (by decide) (fun _ => rfl) (fun _ => rfl) rd_hold _ _ _ h3
  rw [cells50] at hlen
  rcases cs with _ | ⟨c0, _ | ⟨c1, _ | ⟨c2, _ | ⟨c3, _ | ⟨c4, _ | ⟨c5, cs⟩⟩⟩⟩⟩⟩ <;> simp at hlen
  simp [cells3, cells47, cells48, cells22] at e0 e1 e2 e3
  subst e0 e1
  cases e2 with
  | cons _ _ _ _ k2 r2 =>
    cases r2 with
    | cons _ _ _ _ k3 _ =>
      cases e3 with
      | cons _ _ _ _ k4 _ => exact ⟨⟨a0, a1, s.lo, s.hi, l⟩, .cons _ _ _ _ (.int _ _) (.cons _ _ _ _ (.int _ _) (.cons _ _ _ _ k2 (.cons _ _ _ _ k3 (.cons _ _ _ _ k4 .nil))))⟩

theorem rd_convoy : Rd enc W 24 encConvoy := by
  intro n cs x h
  obtain ⟨xs, m, rfl, rfl, hlen, hxl, hf⟩ := DataW.trod_struct Tryd.underlying24 h
  obtain ⟨y0, h0⟩ := fld hf hxl 0 _ rfl
  obtain ⟨y1, h1⟩ := fld hf hxl 1 _ rfl
  obtain ⟨y2, h2⟩ := fld hf hxl 2 _ rfl
  obtain ⟨y3, h3⟩ := fld hf hxl 3 _ rfl
  obtain ⟨a0, e0, _⟩ := DataW.trod_int Tryd.underlying3 h0
  obtain ⟨a1, e1, _⟩ := DataW.trod_int Tryd.underlying3 h1
  obtain ⟨a2, e2, _⟩ := DataW.trod_int Tryd.underlying3 h2
  obtain ⟨l, e3⟩ := rd_slice (ec := encTruck) Tryd.underlying22 cells50 (by decide) (fun _ => rfl) (fun _ => rfl) rd_truck _ _ _ h3
  rw [cells24] at hlen
  rcases cs with _ | ⟨c0, _ | ⟨c1, _ | ⟨c2, _ | ⟨c3, _ | ⟨c4, cs⟩⟩⟩⟩⟩ <;> simp at hlen
  simp [cells3, cells47, cells48, cells22] at e0 e1 e2 e3
  subst e0 e1 e2
  cases e3 with
  | cons _ _ _ _ k3 _ => exact ⟨⟨a0, a1, a2, l⟩, .cons _ _ _ _ (.int _ _) (.cons _ _ _ _ (.int _ _) (.cons _ _ _ _ (.int _ _) (.cons _ _ _ _ k3 .nil)))⟩

/-- An argument that is a convoy. -/
theorem arg_convoy {v : Value} {d : DataW H} {ps : List MemPlace} {base : Nat} (hv : Value.okWide Tryd.prog W .any base 24 v) (h : DataW.Trod enc Tryd.prog W 0 (fun _ => true) true 24 v d ps) :
    ∃ c : Convoy, Rep (allK W) γ0 sv0 (.agg (encConvoy c)) v := by
  simp only [Value.okWide, Tryd.underlying24] at hv
  obtain ⟨cs, rfl, _⟩ := hv
  obtain ⟨n, hn⟩ := h
  obtain ⟨c, hc⟩ := rd_convoy _ _ _ hn
  have := Rep.agg _ _ hc
  simp [Value.cells] at this
  exact ⟨c, this⟩
/-- An argument that is a list of numbers. -/
theorem arg_ints {v : Value} {d : DataW H} {ps : List MemPlace} {base : Nat} (hv : Value.okWide Tryd.prog W .any base 31 v) (h : DataW.Trod enc Tryd.prog W 0 (fun _ => true) true 31 v d ps) :
    ∃ l : List Int, Rep (allK W) γ0 sv0 (slOf 1 encI l) v := by
  obtain ⟨n, hn⟩ := h
  obtain ⟨l, hl⟩ := rd_slice (ec := encI) Tryd.underlying31 cells3 (by decide) (fun _ => rfl) (fun _ => rfl) rd_int _ _ _ hn
  obtain ⟨a0, len, cap, rfl⟩ := okWide_slice Tryd.underlying31 hv
  cases hl with
  | cons _ _ _ _ k _ => exact ⟨l, k⟩
end

/-- What the row's list gives: the cells of the table. -/
theorem glob_of {W : World} (h : laidMetH Tryd.prog [("sastrugi/convoy.cases", Rows.laid_sastrugi_convoy_cases)] W) : GlobOk seat (allK W) := by
  have h' : laidMet Tryd.prog [("sastrugi/convoy.cases", Rows.laid_sastrugi_convoy_cases)] W := h
  obtain ⟨ps, ⟨g, t, cs, fuel, p, q, hg, ht, hvar, hd, _, _⟩, _⟩ := h'
  have hg0 : Tryd.prog.globalNamed "sastrugi/convoy.cases" = some 0 := by kernel_rfl
  have ht0 : (Tryd.prog.globals[0]?).map (·.type) = some 103 := by kernel_rfl
  obtain rfl := Option.some.inj (hg0.symm.trans hg)
  obtain rfl := Option.some.inj (ht0.symm.trans ht)
  obtain ⟨xs, m, rfl, hx, hlen, hxl, he⟩ := DataW.trod_array Tryd.underlying103 hd
  have hx1 := congrArg Prod.fst hx
  simp only [Rows.laid_sastrugi_convoy_cases, DataW.agg.injEq] at hx1
  rw [cells103] at hlen
  rw [cells102] at he
  have row : ∀ i a b, i < 4 → (xs.map (·.1))[i]? = some (.agg [.lit (.int .i64 a), .lit (.int .i64 b)]) → (cs.toList.drop (i * 2)).take 2 = [Value.int .i64 a, Value.int .i64 b] := fun i a b hi hi2 => by
    rw [List.getElem?_map] at hi2
    obtain ⟨y, hy, hy2⟩ := Option.map_eq_some_iff.1 hi2
    have h1 := he i hi
    rw [hy] at h1
    obtain ⟨d, p'⟩ := y
    simp only at hy2
    subst hy2
    exact Lib.cells_of_tab (zs := [a, b]) Tryd.underlying102 Tryd.underlying3 cells3 cells102 h1
  rw [← hx1] at row
  have r0 := row 0 0 0 (by decide) rfl
  have r1 := row 1 1 0 (by decide) rfl
  have r2 := row 2 0 1 (by decide) rfl
  have r3 := row 3 1 1 (by decide) rfl
  have hcell : ∀ j, W.cell? ⟨0, j, none⟩ = cs.toList[j]? := fun j => by rw [World.var?_cell hg hvar j]; simp
  generalize cs.toList = l at hlen r0 r1 r2 r3 hcell
  rcases l with _ | ⟨c0, _ | ⟨c1, _ | ⟨c2, _ | ⟨c3, _ | ⟨c4, _ | ⟨c5, _ | ⟨c6, _ | ⟨c7, _ | ⟨c8, l⟩⟩⟩⟩⟩⟩⟩⟩⟩ <;> simp at hlen
  simp at r0 r1 r2 r3
  obtain ⟨rfl, rfl⟩ := r0
  obtain ⟨rfl, rfl⟩ := r1
  obtain ⟨rfl, rfl⟩ := r2
  obtain ⟨rfl, rfl⟩ := r3
  intro g l hl
  show _
  have hl' : globs g = some l := hl
  unfold globs at hl'
  split at hl'
  · simp only [Option.some.injEq] at hl'
    subst hl'
    refine ⟨rfl, _, ?_, fun j v hj => by rw [show allK W 0 j = _ from hcell j]; exact hj⟩
    exact .cons _ _ _ _ (.int _ _) (.cons _ _ _ _ (.int _ _) (.cons _ _ _ _ (.int _ _) (.cons _ _ _ _ (.int _ _) (.cons _ _ _ _ (.int _ _) (.cons _ _ _ _ (.int _ _) (.cons _ _ _ _ (.int _ _) (.cons _ _ _ _ (.int _ _) .nil)))))))
  · cases hl'

theorem laidOut : laidOutB Tryd.prog = true := by kernel_rfl
theorem own : ownKnob Tryd.prog.godebug = none := by kernel_rfl

theorem trodAll_stays {H : Type} {enc : TypeId × Value → H} {W W' : World} {sp' : Nat → Bool} (hb : Below W.heap.size W W') : ∀ {ts : List TypeId} {vs : List Value} {ds : List (DataW H)} {ps : List MemPlace},
    (∀ t ∈ ts, Tryd.prog.readableRec t = true ∧ t < Tryd.prog.types.size) → DataW.TrodAll enc Tryd.prog W 0 (fun _ => true) true ts vs ds ps → (∀ p ∈ ps, p.block < W.heap.size) → (∀ p ∈ ps, sp' p.block = true) →
    DataW.TrodAll enc Tryd.prog W' 0 sp' true ts vs ds ps
  | [], [], [], _, _, h, _, _ => h
  | _ :: _, _ :: _, _ :: _, _, hT, ⟨p, q, h1, h2, e⟩, hlt, hs => ⟨p, q,
      WideElems.Trod_stays laidOut (hT _ (List.mem_cons_self ..)).1 (hT _ (List.mem_cons_self ..)).2 h1 (fun x hx => hb.same (hlt x (by rw [e]; exact List.mem_append_left _ hx))) (fun x hx => hs x (by rw [e]; exact List.mem_append_left _ hx)),
      trodAll_stays hb (fun t ht => hT t (List.mem_cons_of_mem _ ht)) h2 (fun x hx => hlt x (by rw [e]; exact List.mem_append_right _ hx)) (fun x hx => hs x (by rw [e]; exact List.mem_append_right _ hx)), e⟩

/-- A law that says yes and writes nothing older than itself. -/
theorem post_yes {H : Type} {enc : TypeId × Value → H} {f : Func} {s : ChangeSpec} {W W' : World} {args : Array Value} {ds gs : List (DataW H)} {before : List MemPlace}
    (hW : DataW.Whole enc Tryd.prog f.params.toList s.vars false W args.toList ds gs before) (hv : s.vars = []) (hb : Below W.heap.size W W')
    (hT : ∀ t ∈ f.params.toList, Tryd.prog.readableRec t = true ∧ t < Tryd.prog.types.size) (hrt : f.resultTypes = #[4])
    (hr : (s.fn H (ds ++ gs)).results = [.lit (.bool true)]) (ha : (s.fn H (ds ++ gs)).args = ds) (hvs : (s.fn H (ds ++ gs)).vars = []) :
    s.post enc Tryd.prog f false true false false W args (.bool true) W' := by
  have hlt := hW.lt
  have hW2 := hW
  obtain ⟨p, q, hA, hV, rfl, _, _⟩ := hW
  rw [hv] at hV
  obtain ⟨rfl, rfl⟩ := trodVars_none hV
  refine ⟨ds, [], p ++ [], [], p, [], hW2, ?_, ?_, ?_, hb.frame _, fun h => by cases h⟩
  · rw [hr, hrt]
    exact trodAll_mk1 (shut_bool Tryd.underlying4 _)
  · rw [ha]
    exact trodAll_stays hb hT hA (fun x hx => hlt x (by simpa using hx)) (fun x hx => by simpa using hlt x (by simpa using hx))
  · rw [hvs, hv]; rfl

/-- A world for the witness: the settled one, the table holding what its initialiser lays. -/
noncomputable def laidWorld (os : Os) : World :=
  { World.holding Tryd.prog os ⟨#[], #[], []⟩ with heap := (World.holding Tryd.prog os ⟨#[], #[], []⟩).heap.modify 0 fun
      | .cells _ t frozen => .cells #[.int .i64 0, .int .i64 0, .int .i64 1, .int .i64 0, .int .i64 0, .int .i64 1, .int .i64 1, .int .i64 1] t frozen
      | o => o }
/-- The empty convoy. -/
def cv0 : Value := .agg #[.int .i64 0, .int .i64 0, .int .i64 0, .slice none 0 0]
end Go.Proofs.YtafnhieaeejlcaaDoor


/- Further readers of arguments; convoys of the two kinds of typed data. -/
namespace Go.Proofs.YtafnhieaeejlcaaDoor
open Go Go.Ab Go.ChangeShapes Go.WideShapes Go.ChangeAt Go.RowKit
set_option linter.all false
set_option maxRecDepth 100000
theorem ints_len {κ : Nat → Nat → Option Value} {γ : Nat → Nat} {sv : Nat → Value} {W : World} {base : Nat} {v : Value} {l : List Int} (hv : Value.okWide Tryd.prog W .any base 31 v) (h : Rep κ γ sv (slOf 1 encI l) v) : l.length ≤ 9223372036854775807 := by
  unfold slOf at h
  generalize hn : l.length = n at h
  cases h with
  | sl0 => omega
  | slE => omega
  | sl _ _ _ b off cap u hc =>
    simp only [Value.okWide, Cell.okWide, Cell.ok, Tryd.underlying31] at hv
    have h1 := hv.2.1
    have h2 : IntKind.i64.max = 9223372036854775807 := by decide
    rw [h2] at h1
    omega
section
variable {H : Type} {enc : TypeId × Value → H} {W : World}
theorem arg_int {v : Value} {d : DataW H} {ps : List MemPlace} {base : Nat} (hv : Value.okWide Tryd.prog W .any base 3 v) (h : DataW.Trod enc Tryd.prog W 0 (fun _ => true) true 3 v d ps) :
    ∃ n : Int, Rep (allK W) γ0 sv0 (.int .i64 n) v := by
  obtain ⟨n, hn⟩ := h
  obtain ⟨a, e, _⟩ := DataW.trod_int Tryd.underlying3 hn
  cases v with
  | int k m => simp [Value.cells] at e; obtain ⟨rfl, rfl⟩ := e; exact ⟨m, .int _ _⟩
  | agg cs => simp [Value.okWide, Cell.okWide, Cell.ok, Tryd.underlying3] at hv
  | _ => simp [Value.cells] at e
theorem arg_bool {v : Value} {d : DataW H} {ps : List MemPlace} {base : Nat} (hv : Value.okWide Tryd.prog W .any base 4 v) (h : DataW.Trod enc Tryd.prog W 0 (fun _ => true) true 4 v d ps) :
    ∃ n : Bool, Rep (allK W) γ0 sv0 (.bool n) v := by
  obtain ⟨n, hn⟩ := h
  obtain ⟨a, e, _⟩ := DataW.trod_bool Tryd.underlying4 hn
  cases v with
  | bool m => exact ⟨m, .bool _⟩
  | agg cs => simp [Value.okWide, Cell.okWide, Cell.ok, Tryd.underlying4] at hv
  | _ => simp [Value.cells] at e
end
end Go.Proofs.YtafnhieaeejlcaaDoor
namespace Go.Proofs.Plain04
open Go Go.Ab
def nH (h : Go.Proofs.YtafnhieaeejlcaaDoor.Hold) : Hold := ⟨h.a, h.u⟩
def nT (t : Go.Proofs.YtafnhieaeejlcaaDoor.Truck) : Truck := ⟨t.way, t.start, ⟨t.lo, t.hi⟩, t.holds.map nH⟩
def nC (c : Go.Proofs.YtafnhieaeejlcaaDoor.Convoy) : Convoy := ⟨c.len, c.gap, c.fails, c.trucks.map nT⟩
theorem oT_nT (t : Go.Proofs.YtafnhieaeejlcaaDoor.Truck) : oT (nT t) = t := by
  obtain ⟨a, b, c, d, hs⟩ := t
  simp only [oT, nT, List.map_map]
  have : hs.map (oH ∘ nH) = hs := (List.map_congr_left fun x _ => rfl).trans (List.map_id hs)
  rw [this]
theorem oC_nC (c : Go.Proofs.YtafnhieaeejlcaaDoor.Convoy) : oC (nC c) = c := by
  obtain ⟨a, b, d, ts⟩ := c
  simp only [oC, nC, List.map_map]
  have : ts.map (oT ∘ nT) = ts := (List.map_congr_left fun x _ => oT_nT x).trans (List.map_id ts)
  rw [this]
end Go.Proofs.Plain04

