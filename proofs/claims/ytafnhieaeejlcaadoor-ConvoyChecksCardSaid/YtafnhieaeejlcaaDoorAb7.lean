/- make and append; what may be forgotten, frozen, taken over. -/
import Derived.Test.YtafnhieaeejlcaaDoorAb6
import Derived.ArgAppend
set_option linter.all false
namespace Go.Ab
open Go Go.RowKit

section
variable {X : Ctx} {Q : Exit → St → Prop} {S S' : St} {ops : Array Oper} {o : Oper} {rest : List Oper} {T : TypeId} {r q : TRow}

def St.owned (S : St) (i s : Nat) (ow : Own) : St := ⟨upd S.ρ i (.os s (S.γ s + 1)), upd S.γ s (S.γ s + 1), upd S.σ s ow⟩

theorem sim_owned {κ : Nat → Nat → Option Value} {sv : Nat → Value} {a : Act} {w w' : World} (hs : Sim X κ sv S a w) (i s : Nat) {pv : Value} (h1c : pv.oneCell' = true) {ow : Own} (hg : w.grownBy w' (blk (S.σ s) (sv s)))
    (hf : ∀ b, blk ow pv = some b → (w.heap.size ≤ b ∨ blk (S.σ s) (sv s) = some b)) (ho : Owns X.w0.heap.size κ (upd S.γ s (S.γ s + 1)) (upd sv s pv) w' s ow) :
    Sim X κ (upd sv s pv) (S.owned i s ow) (a.put (some i) pv) w' := by
  have hle := le_renew κ S.γ sv s pv
  refine ⟨by rw [put_size]; exact hs.size, (dfr_own hs s hg).put _ _, ?_, hs.wld.renew s ow pv hg hf ho _⟩
  exact hs.slotsR hle (some i) (.os _ _ _ (by rw [upd_same]; exact Nat.le_refl _) (fun _ => (upd_same _ _ _).symm) h1c)

theorem zr_len : ∀ {zs : List Zr} {vs : List Value}, Zr.fitsL zs vs = true → vs.length = zs.length
  | [], [], _ => rfl
  | [], _ :: _, h => by cases h
  | _ :: _, [], h => by cases h
  | _ :: zs, _ :: vs, h => by simp only [Zr.fitsL, Bool.and_eq_true] at h; simp [zr_len h.2]

theorem made_chunk {zc : Array Value} {z n i : Nat} (hz : zc.size = z) (hi : i < n) : ((madeCells zc (n * z)).toList.drop (i * z)).take z = zc.toList := by
  have hiz : i * z + z ≤ n * z := by have := Nat.mul_le_mul_right z (show i + 1 ≤ n by omega); rw [Nat.add_mul] at this; omega
  apply List.ext_getElem?
  intro j
  simp only [List.getElem?_take, List.getElem?_drop]
  by_cases hj : j < z
  · rw [if_pos hj]
    have h1 : i * z + j < n * z := by omega
    have h2 : (i * z + j) % z = j := by rw [Nat.mul_comm, Nat.mul_add_mod, Nat.mod_eq_of_lt hj]
    simp [madeCells, h1, hz, h2, hj]
  · rw [if_neg hj, List.getElem?_eq_none (by simp; omega)]

/-- make([]T, n). -/
theorem n_make {x y : Operand} {k : Int} {t z : Nat} {E : TypeId} (ho : o.op = .makeSlice T x y) (hd : o.dst = some t) (hx : S.ev X x = .int .i64 k) (hy : S.ev X y = .int .i64 k) (h0 : 0 ≤ k)
    (hr : nth X.Z.tab T = some r) (hk : Nat.beq r.k 3 = true) (hE : r.el = E) (hq : nth X.Z.tab E = some q) (hq9 : Nat.beq q.k 9 = false) (hz : q.sz = z) (hzs : Nat.beq q.zs.length z = true) (hb : k * q.bytes ≤ 281474976710656) (hb1 : k ≤ 281474976710656) :
    NOp X o S (S.owned t t (.arr E z k.toNat (fun _ => q.zs.map Zr.toD))) := fun κ sv a w hs => by
  have hokr := X.Z.tabOk _ _ hr (by intro e; rw [e] at hk; cases hk)
  have hokq := X.Z.tabOk _ _ hq (by intro e; rw [e] at hq9; cases hq9)
  obtain ⟨iq, dq, hiq, hdq, hsq, hbq, ⟨zv, hzv, hzf⟩, _⟩ := row_info hokq
  have hu := slice_row hokr hk
  rw [hE] at hu
  obtain ⟨n, rfl⟩ := Int.eq_ofNat_of_zero_le h0
  have hbytes : iq.bytes * n ≤ 281474976710656 := by
    rw [hbq, Nat.mul_comm]
    have h : ((n * q.bytes : Nat) : Int) ≤ 281474976710656 := by rw [Int.natCast_mul]; exact hb
    omega
  obtain ⟨w', hrun, hown, hgr⟩ := run_make_full (P := X.Z.P) w X.w0.heap.size T E iq zv z hu hiq hzv (by rw [hsq, hz]) .i64 .i64 n hbytes (by unfold maxLen; omega) hs.wld.base
  have hzl : zv.cells.size = z := by have := zr_len hzf; have h2 := Nat.eq_of_beq_eq_true hzs; simp at this; omega
  have hb' : Below w.heap.size w w' := ⟨hgr.os, hgr.tape, hgr.output, hgr.size, fun k hk => hgr.block k hk (by simp)⟩
  rw [hd]
  refine ⟨_, w', κ, _, .inl ?_, sim_owned hs t t (pv := .slice (some ⟨w.heap.size, 0, none⟩) n n) rfl (below_grown hb' _) (fun b hb => by simp only [blk, Option.some.injEq] at hb; exact .inl (by omega)) ?_⟩
  · simp only [execOp, ho, ev_int hs hx, ev_int hs hy]
    have : ((n : Nat) : Int) = Int.ofNat n := rfl
    simp [hrun]
  · simp only [Int.toNat_natCast]
    refine ⟨_, by rw [upd_same]; exact hown, fun i _ => ?_, fun i _ => zr_cell _, fun i hi => ?_⟩
    · have := Nat.eq_of_beq_eq_true hzs; simp [this]
    · rw [made_chunk hzl hi]; exact zr_rep hzf

/-- A slice that is nil becomes a slice of the call's own. -/
theorem wk_nil (i s : Nat) (E z : Nat) (f : Nat → List D) (h : S.ρ i = .nil) : Wk X S (S.owned i s (.arr E z 0 f)) := fun κ sv a w hs => by
  by_cases hi : i < X.nt
  · have hv : a.tmps.getD i Go.undef = .slice none 0 0 := by
      have := hs.slot i hi
      rw [h] at this
      generalize a.tmps.getD i Go.undef = v at this
      cases this; rfl
    have := sim_owned hs i s (pv := .slice none 0 0) (ow := .arr E z 0 f) rfl (below_grown (Below.refl _ _) _) (fun b hb => by cases hb)
      ⟨[], by rw [upd_same]; exact World.ownsRow_nil _ _ _ _, fun _ h => by omega, fun _ h => by omega, fun _ h => by omega⟩
    refine ⟨κ, upd sv s (.slice none 0 0), ?_⟩
    have ha : a.put (some i) (.slice none 0 0) = a := by
      unfold Act.put
      have hsz : i < a.tmps.size := by rw [hs.size]; exact hi
      have : a.tmps.setIfInBounds i (.slice none 0 0) = a.tmps := by
        apply Array.ext_getElem?
        intro j
        rw [Array.getElem?_setIfInBounds]
        split
        · rename_i e; subst e
          rw [Array.getD_eq_getD_getElem?, Array.getElem?_eq_getElem hsz] at hv
          rw [Array.getElem?_eq_getElem hsz]
          simpa using hv.symm
        · rfl
      simp only [this]
    rwa [ha] at this
  · have hle := le_renew κ S.γ sv s (.slice none 0 0)
    refine ⟨κ, _, ⟨hs.size, hs.defers, fun j hj => ?_, hs.wld.renew s (.arr E z 0 f) (.slice none 0 0) (below_grown (Below.refl _ _) _) (fun b hb => by cases hb)
      ⟨[], by rw [upd_same]; exact World.ownsRow_nil _ _ _ _, fun _ h => by omega, fun _ h => by omega, fun _ h => by omega⟩ _⟩⟩
    simp only [St.owned]
    rw [upd_ne _ _ _ _ (by omega)]
    exact (hs.slot j hj).mono hle

theorem flat_chunk {z : Nat} (u : Nat → List Value) (m : Nat) (hu : ∀ i, i < m → (u i).length = z) : ∀ i, i < m → ((((List.range m).map u).flatten).drop (i * z)).take z = u i := by
  intro i hi
  apply List.ext_getElem?
  intro j
  simp only [List.getElem?_take, List.getElem?_drop]
  by_cases hj : j < z
  · rw [if_pos hj, flat_at _ (z := z) (fun c hc => by
      obtain ⟨k, hk, rfl⟩ := List.mem_map.1 hc
      exact hu k (by simpa using hk)) i j hj]
    simp [hi]
  · rw [if_neg hj, List.getElem?_eq_none (by rw [hu i hi]; omega)]

theorem append_chunkL {xs ys : List Value} {z i n : Nat} (hx : xs.length = n * z) (hi : i < n) : ((xs ++ ys).drop (i * z)).take z = (xs.drop (i * z)).take z := by
  have hiz : i * z + z ≤ n * z := by have := Nat.mul_le_mul_right z (show i + 1 ≤ n by omega); rw [Nat.add_mul] at this; omega
  rw [List.drop_append_of_le_length (by omega), List.take_append_of_le_length (by simp; omega)]
theorem append_chunkR {xs ys : List Value} {z i n : Nat} (hx : xs.length = n * z) : ((xs ++ ys).drop ((n + i) * z)).take z = (ys.drop (i * z)).take z := by
  rw [List.drop_append, List.drop_eq_nil_of_le (by rw [hx, Nat.add_mul]; omega), hx, List.nil_append]
  congr 2
  rw [Nat.add_mul]; omega

theorem owns_base {w : World} {b b' : Nat} {e : TypeId} {z n : Nat} {v : Value} {xs : List Value} (h : w.ownsRow b e z v n xs) (hb : b' ≤ b) : w.ownsRow b' e z v n xs := by
  refine ⟨h.1, ?_⟩
  rcases h.2 with hn | ⟨g, cap, cur, h1, h2, rest⟩
  · exact .inl hn
  · exact .inr ⟨g, cap, cur, h1, Nat.le_trans hb h2, rest⟩

/-- append, with where the new slice lies. -/
theorem run_append_where {P : Program} {w : World} (base : Nat) (t ty e : TypeId) (i : TypeInfo) (z : Value) (size bytes : Nat) (ht : P.underlying t = some (.slice e)) (hi : P.info? e = some i) (hz : i.zero = some z)
    (hsize : i.size = size) (hby : i.bytes = bytes) (hzs : z.cells.size = size) (hsz : 0 < size)
    (v : Value) (n : Nat) (xs : List Value) (hown : w.ownsRow base e size v n xs)
    (a : Addr) (m c : Nat) (news : List Value) (hl : news.length = m * size) (hnews : ∀ j u, news[j]? = some u → w.cell? (a.add j) = some u) (h1 : ∀ u ∈ news, u.oneCell' = true)
    (h63 : n + m ≤ maxLen) (hbytes : (n + m) * bytes ≤ 140737488355328) (hbase : base ≤ w.heap.size) :
    ∃ v' w', (Builtin.append_ #[t, t] ty #[v, .slice (some a) m c]).run P w = .ok v' w' ∧ w'.ownsRow base e size v' (n + m) (xs ++ news) ∧ w.grownBy w' v.ownBlock ∧
      (∀ b, v'.ownBlock = some b → w.heap.size ≤ b ∨ v.ownBlock = some b) := by
  rcases hown.2 with ⟨rfl, rfl⟩ | ⟨g, cap, cur, rfl, hbg, hg, hnc, hcm, hcs, htake⟩
  · have hx : xs = [] := List.eq_nil_of_length_eq_zero (by simpa using hown.1)
    subst hx
    obtain ⟨v', w', h2, h3, h4, _⟩ := run_append_own (P := P) w w.heap.size t ty e i z size bytes ht hi hz hsize hby hzs hsz (.slice none 0 0) 0 [] (World.ownsRow_nil _ _ _ _) a m c news hl hnews h1 h63 hbytes (Nat.le_refl _)
    exact ⟨v', w', h2, owns_base h3 hbase, h4, fun b hb => .inl (h3.lt b hb).1⟩
  · by_cases hroom : n + m ≤ cap
    · obtain ⟨w', h2, h3, h4⟩ := run_append_fits (P := P) w base t ty e i size ht hi hsize g n cap xs hown a m c news hl hnews h1 hroom
      exact ⟨_, w', h2, h3, h4, fun b hb => .inr hb⟩
    · have holds : ∀ j u, xs[j]? = some u → w.cell? ((⟨g, 0, none⟩ : Addr).add j) = some u := hown.cells (g := g) rfl
      obtain ⟨v', w', h2, h3, h4⟩ := run_append_arg_grows (P := P) (w := w) t ty e i z size bytes ht hi hz hsize hby hzs hsz ⟨g, 0, none⟩ n cap xs hown.1 holds a m c news hl hnews (by omega) h63 hbytes
      exact ⟨v', w', h2, owns_base h3 hbase, ⟨h4.os, h4.tape, h4.output, h4.size, fun k hk _ => h4.block k hk (by simp)⟩, fun b hb => .inl (h3.lt b hb).1⟩

/-- append(s, t...), s the call's own, t one that is never written. -/
theorem n_app {x y : Operand} {s g z n m t n' : Nat} {E : TypeId} {f h f' : Nat → List D} {ts : Array TypeId} (ho : o.op = .call { callee := .builtin .append, args := #[x, y], argTypes := ts }) (hts : ts = #[T, T]) (hd : o.dst = some t)
    (hx : S.ev X x = .os s g) (hg : S.γ s = g) (hσ : S.σ s = .arr E z n f) (hy : S.ev X y = .sl z m h)
    (hr : nth X.Z.tab T = some r) (hk : Nat.beq r.k 3 = true) (hE : r.el = E) (hq : nth X.Z.tab E = some q) (hq9 : Nat.beq q.k 9 = false) (hz : q.sz = z) (hzs : Nat.beq q.zs.length z = true) (hz0 : Nat.beq z 0 = false)
    (hb : (n + m) * q.bytes ≤ 140737488355328) (hm : n + m ≤ 140737488355328) (hn' : n' = n + m) (h1 : ∀ i, i < n → f' i = f i) (h2 : ∀ i, i < m → f' (n + i) = h i) :
    NOp X o S (S.owned t s (.arr E z n' f')) := fun κ sv a w hs => by
  subst hts hn'
  have hokr := X.Z.tabOk _ _ hr (by intro e; rw [e] at hk; cases hk)
  have hokq := X.Z.tabOk _ _ hq (by intro e; rw [e] at hq9; cases hq9)
  obtain ⟨iq, dq, hiq, hdq, hsq, hbq, ⟨zv, hzv, hzf⟩, _⟩ := row_info hokq
  have hu := slice_row hokr hk
  rw [hE] at hu
  have hown0 := hs.wld.own s
  rw [hσ] at hown0
  obtain ⟨xs, hown, hfl, hfc, hfr⟩ := hown0
  have hxv := hs.ev x
  rw [hx] at hxv
  have hxe : a.eval x = sv s := by
    generalize a.eval x = v at hxv
    cases hxv with
    | os _ _ _ _ hh _ => exact hh hg.symm
  have hyv := hs.ev y
  rw [hy] at hyv
  have hzl : zv.cells.size = z := by have := zr_len hzf; have h2 := Nat.eq_of_beq_eq_true hzs; simp at this; omega
  have hz1 : 0 < z := by
    cases z with
    | zero => cases hz0
    | succ z => omega
  have hle : ∀ pv, Le κ κ S.γ (upd S.γ s (S.γ s + 1)) sv (upd sv s pv) := le_renew κ S.γ sv s
  have hxl : xs.length = n * z := hown.1
  rw [hd]
  generalize hye : a.eval y = yv at hyv
  cases hyv with
  | sl0 =>
    have hrun := run_append_owned_none (P := X.Z.P) (w := w) X.w0.heap.size T o.type E iq z hu hiq (sv s) n xs hown
    refine ⟨sv s, w, κ, _, .inl ?_, sim_owned hs t s (pv := sv s) ?_ (below_grown (Below.refl _ _) _) (fun b hb => ?_) ?_⟩
    · simp [execOp, ho, resolve, invoke, builtin, hxe, hye, hrun]
    · rcases hown.2 with ⟨e, _⟩ | ⟨_, _, _, e, _⟩ <;> rw [e] <;> rfl
    · rw [hσ]
      right
      rcases hown.2 with ⟨e, _⟩ | ⟨_, _, _, e, _⟩ <;> (rw [e] at hb ⊢; exact hb)
    · refine ⟨xs, by rw [upd_same]; exact hown, fun i hi => ?_, fun i hi => ?_, fun i hi => ?_⟩ <;> rw [h1 i (by omega)]
      · exact hfl i hi
      · exact hfc i hi
      · exact (hfr i hi).mono (hle _)
  | slE _ _ ad cap =>
    obtain ⟨v', w', hrun, hown', hgr, hwh⟩ := run_append_where (P := X.Z.P) (w := w) X.w0.heap.size T o.type E iq zv z q.bytes hu hiq hzv (by rw [hsq, hz]) (by rw [hbq]) hzl hz1 (sv s) n xs hown ad 0 cap [] (by simp)
      (fun j v hj => by simp at hj) (fun v hv => by simp at hv) (by unfold maxLen; omega) hb hs.wld.base
    have hob : (sv s).ownBlock = blk (S.σ s) (sv s) := by
      rw [hσ]
      rcases hown.2 with ⟨e, _⟩ | ⟨_, _, _, e, _⟩ <;> rw [e] <;> rfl
    rw [hob] at hgr
    refine ⟨v', w', κ, _, .inl ?_, sim_owned hs t s (pv := v') ?_ hgr (fun b' hb' => ?_) ?_⟩
    · simp [execOp, ho, resolve, invoke, builtin, hxe, hye, hrun]
    · rcases hown'.2 with ⟨e, _⟩ | ⟨_, _, _, e, _⟩ <;> rw [e] <;> rfl
    · rw [← hob]
      refine hwh b' ?_
      rcases hown'.2 with ⟨e, _⟩ | ⟨_, _, _, e, _⟩ <;> (rw [e] at hb' ⊢; exact hb')
    · refine ⟨_, by rw [upd_same]; exact hown', fun i hi => ?_, fun i hi => ?_, fun i hi => ?_⟩ <;> rw [h1 i (by omega)]
      · exact hfl i (by omega)
      · exact hfc i (by omega)
      · simp only [List.append_nil]; exact (hfr i (by omega)).mono (hle _)
  | sl _ _ _ b off cap u hmc hlz hac hul hκ =>
    have hulen : ∀ i, i < m → (u i).length = z := fun i hi => by rw [(hul i hi).length, hlz i hi]
    have hnl : (((List.range m).map u).flatten).length = m * z := by
      rw [flat_len _ (z := z) (fun c hc => by
        obtain ⟨k, hk, rfl⟩ := List.mem_map.1 hc
        exact hulen k (by simpa using hk))]
      simp
    have hcellat : ∀ j v, (((List.range m).map u).flatten)[j]? = some v → ∃ i k, i < m ∧ k < z ∧ j = i * z + k ∧ (u i)[k]? = some v := by
      intro j v hj
      have hjl := (List.getElem?_eq_some_iff.1 hj).1
      rw [hnl] at hjl
      have hk : j % z < z := Nat.mod_lt _ hz1
      have hi : j / z < m := (Nat.div_lt_iff_lt_mul hz1).2 hjl
      have e : j = j / z * z + j % z := by rw [Nat.mul_comm]; exact (Nat.div_add_mod j z).symm
      refine ⟨j / z, j % z, hi, hk, e, ?_⟩
      rw [e, flat_at _ (z := z) (fun c hc => by
        obtain ⟨k, hk, rfl⟩ := List.mem_map.1 hc
        exact hulen k (by simpa using hk)) _ _ hk] at hj
      simpa [hi] using hj
    obtain ⟨v', w', hrun, hown', hgr, hwh⟩ := run_append_where (P := X.Z.P) (w := w) X.w0.heap.size T o.type E iq zv z q.bytes hu hiq hzv (by rw [hsq, hz]) (by rw [hbq]) hzl hz1 (sv s) n xs hown ⟨b, off, none⟩ m cap (((List.range m).map u).flatten) hnl
      (fun j v hj => by
        obtain ⟨i, k, hi, hk, rfl, hv⟩ := hcellat j v hj
        rw [addr_add, ← Nat.add_assoc]
        exact hs.wld.imm _ _ _ (hκ i k v hi hv))
      (fun v hv => by
        obtain ⟨j, hj⟩ := List.getElem?_of_mem hv
        obtain ⟨i, k, hi, hk, rfl, hv⟩ := hcellat j v hj
        exact RepL.oneCells (hul i hi) (hac i hi) v (List.mem_of_getElem? hv))
      (by unfold maxLen; omega) hb hs.wld.base
    have hob : (sv s).ownBlock = blk (S.σ s) (sv s) := by
      rw [hσ]
      rcases hown.2 with ⟨e, _⟩ | ⟨_, _, _, e, _⟩ <;> rw [e] <;> rfl
    rw [hob] at hgr
    refine ⟨v', w', κ, _, .inl ?_, sim_owned hs t s (pv := v') ?_ hgr (fun b' hb' => ?_) ?_⟩
    · simp [execOp, ho, resolve, invoke, builtin, hxe, hye, hrun]
    · rcases hown'.2 with ⟨e, _⟩ | ⟨_, _, _, e, _⟩ <;> rw [e] <;> rfl
    · rw [← hob]
      refine hwh b' ?_
      rcases hown'.2 with ⟨e, _⟩ | ⟨_, _, _, e, _⟩ <;> (rw [e] at hb' ⊢; exact hb')
    · refine ⟨_, by rw [upd_same]; exact hown', fun i hi => ?_, fun i hi => ?_, fun i hi => ?_⟩
      · by_cases hin : i < n
        · rw [h1 i hin]; exact hfl i hin
        · obtain ⟨k, rfl⟩ : ∃ k, i = n + k := ⟨i - n, by omega⟩
          rw [h2 k (by omega)]; exact hlz k (by omega)
      · by_cases hin : i < n
        · rw [h1 i hin]; exact hfc i hin
        · obtain ⟨k, rfl⟩ : ∃ k, i = n + k := ⟨i - n, by omega⟩
          rw [h2 k (by omega)]; exact hac k (by omega)
      · by_cases hin : i < n
        · rw [h1 i hin, append_chunkL hxl hin]; exact (hfr i hin).mono (hle _)
        · obtain ⟨k, rfl⟩ : ∃ k, i = n + k := ⟨i - n, by omega⟩
          rw [h2 k (by omega), append_chunkR hxl, flat_chunk u m hulen k (by omega)]
          exact (hul k (by omega)).mono (hle _)

theorem arr_new {κ : Nat → Nat → Option Value} {sv : Nat → Value} {w : World} (h : SimW X κ sv S w) {s E z n : Nat} {f : Nat → List D} (hσ : S.σ s = .arr E z n f) : ∀ b, blk (S.σ s) (sv s) = some b → X.w0.heap.size ≤ b := by
  intro b hb
  have := h.own s
  rw [hσ] at this hb
  obtain ⟨xs, e1, _⟩ := this
  rcases e1.2 with ⟨hv, _⟩ | ⟨g, cap, cur, hv, hbase, _⟩
  · rw [hv] at hb; cases hb
  · rw [hv] at hb; simp only [blk, Option.some.injEq] at hb; subst hb; exact hbase

/-- What a slice of the call's own reads as once it is frozen. -/
theorem frozen_rep {κ κ' : Nat → Nat → Option Value} {sv : Nat → Value} {w : World} (h : SimW X κ sv S w) {s E z n : Nat} {f : Nat → List D} (hσ : S.σ s = .arr E z n f) (hle : Le κ κ' S.γ S.γ sv sv)
    (hκ : ∀ b o v, blk (S.σ s) (sv s) = some b → w.cell? ⟨b, o, none⟩ = some v → κ' b o = some v) : Rep κ' S.γ sv (.sl z n f) (sv s) := by
  have := h.own s
  rw [hσ] at this hκ
  obtain ⟨xs, e1, e2, e3, e4⟩ := this
  rcases e1.2 with ⟨hv, hn⟩ | ⟨g, cap, cur, hv, hbase, hg, hnc, hcm, hsz, htake⟩
  · rw [hv, hn]; exact .sl0 _ _
  · rw [hv] at hκ ⊢
    refine .sl z n f g 0 cap (fun i => (xs.drop (i * z)).take z) hnc e2 e3 (fun i hi => (e4 i hi).mono hle) (fun i j v hi hj => ?_)
    obtain ⟨hjz, hx⟩ := get_chunk hj
    refine hκ g _ v rfl ?_
    rw [cell_of_row w g _ _ _ _ hg, Nat.zero_add]
    rw [← htake, List.getElem?_take] at hx
    split at hx
    · simpa using hx
    · cases hx

/-- A slice of the call's own, in a slot, is never written again. -/
theorem wk_freeze (i : Nat) {s g E z n : Nat} {f : Nat → List D} (h : S.ρ i = .os s g) (hg : S.γ s = g) (hσ : S.σ s = .arr E z n f) : Wk X S ⟨upd S.ρ i (.sl z n f), S.γ, upd S.σ s .none⟩ := fun κ sv a w hs => by
  have hle := freeze_le hs.wld s
  refine ⟨_, sv, ⟨hs.size, hs.defers, fun j hj => ?_, hs.wld.freeze s (arr_new hs.wld hσ) _⟩⟩
  by_cases e : j = i
  · subst e
    simp only [upd_same]
    have h1 := hs.slot j hj
    rw [h] at h1
    have hv : a.tmps.getD j Go.undef = sv s := by
      generalize a.tmps.getD j Go.undef = v at h1
      cases h1 with
      | os _ _ _ _ hh _ => exact hh hg.symm
    rw [hv]
    exact frozen_rep hs.wld hσ hle (fun b o v hb hc => by simp [hb, hc])
  · simp only [upd_ne _ _ _ _ e]; exact (hs.slot j hj).mono hle

/-- The same of one that a box's cell holds. -/
theorem wk_freeze_cell (t j : Nat) {s g E z n : Nat} {f : Nat → List D} {l l' : List D} (hσt : S.σ t = .box l) (hl : nth l j = some (.os s g)) (hg : S.γ s = g) (hσ : S.σ s = .arr E z n f) (hl' : overN l j [.sl z n f] = some l') :
    Wk X S ⟨S.ρ, S.γ, upd (upd S.σ s .none) t (.box l')⟩ := fun κ sv a w hs => by
  have hle := freeze_le hs.wld s
  have hne : t ≠ s := by intro e; subst e; rw [hσ] at hσt; cases hσt
  have hW := hs.wld.freeze s (arr_new hs.wld hσ) S.ρ
  obtain ⟨rfl, hlen⟩ := overN_eq hl'
  have hown := hW.own t
  simp only [upd_ne _ _ _ _ hne, hσt] at hown
  obtain ⟨b, T, cs, e1, e2, e3, e4⟩ := hown
  have hsim : SimW X (fun b o => if blk (S.σ s) (sv s) = some b then w.cell? ⟨b, o, none⟩ else κ b o) sv ⟨S.ρ, S.γ, upd (upd S.σ s .none) t (.box (l.take j ++ [.sl z n f] ++ l.drop (j + 1)))⟩ w := by
    refine hW.rewrite t (.box _) (below_grown (Below.refl _ _) _) (by simp only [upd_ne _ _ _ _ hne, hσt, e1]; rfl) ⟨b, T, cs, e1, e2, ?_, ?_⟩ _
    · rw [nth_eq] at hl
      obtain ⟨vj, hvj, hrj⟩ := e3.get hl
      have hjl : j < cs.length := (List.getElem?_eq_some_iff.1 hvj).1
      have hcs : cs = cs.take j ++ [vj] ++ cs.drop (j + 1) := by
        have h3 : cs[j] = vj := by simpa [List.getElem?_eq_getElem hjl] using hvj
        rw [← h3, List.append_assoc, List.singleton_append, List.getElem_cons_drop, List.take_append_drop]
      rw [hcs]
      refine ((e3.take j).append (.cons _ _ _ _ ?_ .nil)).append (e3.drop _)
      have hv : vj = sv s := by
        cases hrj with
        | os _ _ _ _ hh _ => exact hh hg.symm
      rw [hv]
      exact frozen_rep hs.wld hσ hle (fun b o v hb hc => by simp [hb, hc])
    · exact allCell_append (allCell_append (allCell_take e4 _) rfl) (allCell_drop e4 _)
  exact ⟨_, sv, ⟨hs.size, hs.defers, fun i hi => (hs.slot i hi).mono hle, hsim⟩⟩

/-- Slots and places may be forgotten. -/
def SubR (ρ ρ' : Nat → D) : Nat → Prop
  | 0 => True
  | n + 1 => (ρ' n = .undef ∨ ρ' n = ρ n) ∧ SubR ρ ρ' n
theorem SubR.at {ρ ρ' : Nat → D} : ∀ {n : Nat}, SubR ρ ρ' n → ∀ i, i < n → ρ' i = .undef ∨ ρ' i = ρ i
  | 0, _, i, hi => by omega
  | n + 1, h, i, hi => by
    by_cases e : i = n
    · subst e; exact h.1
    · exact SubR.at h.2 i (by omega)
theorem wk_sub (h1 : SubR S.ρ S'.ρ X.nt) (h2 : S'.γ = S.γ) (h3 : ∀ s, S'.σ s = .none ∨ S'.σ s = S.σ s) : Wk X S S' := fun κ sv a w hs => by
  refine ⟨κ, sv, ⟨hs.size, hs.defers, fun i hi => ?_, ?_⟩⟩
  · rw [h2]
    rcases h1.at i hi with h | h
    · rw [h]; exact .undef _
    · rw [h]; exact hs.slot i hi
  · obtain ⟨w1, w2, w3, w4, w5, ⟨M, w6, w6'⟩, w7, w8, w9, w10, w11, w12, w13, w14⟩ := hs.wld
    have hb : ∀ t b, blk (S'.σ t) (sv t) = some b → blk (S.σ t) (sv t) = some b := by
      intro t b h
      rcases h3 t with e | e
      · rw [e] at h; cases h
      · rw [← e]; exact h
    refine ⟨w1, fun s => ?_, fun s t b hs' ht => w3 s t b (hb s b hs') (hb t b ht), fun s b o h => w4 s b o (hb s b h), fun s b h => w5 s b (hb s b h), ⟨M, w6, fun s b h => w6' s b (hb s b h)⟩, by rw [h2]; exact w7, w8, by rw [h2]; exact w9, w10, by rw [h2]; exact w11, w12, fun s b h => w13 s b (hb s b h), w14⟩
    rcases h3 s with e | e
    · rw [e]; trivial
    · rw [e, h2]; exact w2 s
end
end Go.Ab
