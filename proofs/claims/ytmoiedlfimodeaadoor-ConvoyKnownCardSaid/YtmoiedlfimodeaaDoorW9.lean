/- Walks by computing: what each function of the program that the laws reach gives for what it gets, as plain Lean, and that it is so; without a condition but those that stand in each theorem. -/
import Derived.Shelf.Strings.Builder1
import Derived.Shelf.Strconv.Itoa3
import Derived.WalkSmall
import Derived.Test.YtmoiedlfimodeaaDoorW1
import Derived.Test.YtmoiedlfimodeaaDoorW2
import Derived.Test.YtmoiedlfimodeaaDoorW3
import Derived.Test.YtmoiedlfimodeaaDoorW4
import Derived.Test.YtmoiedlfimodeaaDoorW5
import Derived.Test.YtmoiedlfimodeaaDoorW6
import Derived.Test.YtmoiedlfimodeaaDoorW7
import Derived.Test.YtmoiedlfimodeaaDoorW8
set_option linter.all false
namespace Go.Proofs.Tx
open Go Go.Ab Go.RowKit Go.Shelf Go.Proofs
open Go.Proofs.YtmoiedlfimodeaaDoor (iseat)
set_option linter.all false
set_option maxRecDepth 100000
def rn : Ren := { f := fun | 129 => 97 | 138 => 83 | 143 => 84 | 146 => 49 | 169 => 48 | 171 => 45 | 172 => 85 | 195 => 90 | 197 => 91 | 205 => 117 | 217 => 102 | 218 => 92 | 219 => 93 | 221 => 71 | 224 => 104 | 225 => 103 | 240 => 69 | 243 => 70 | 244 => 94 | 245 => 95 | 246 => 81 | 247 => 106 | 260 => 101 | 266 => 113 | 267 => 105 | 268 => 82 | 276 => 80 | 279 => 107 | 280 => 108 | 281 => 109 | 282 => 110 | 283 => 86 | 284 => 87 | 285 => 88 | 286 => 89 | 287 => 115 | 314 => 114 | 316 => 116 | 317 => 96 | 318 => 98 | 319 => 99 | 320 => 100 | 321 => 118 | 322 => 119 | 337 => 111 | 338 => 112 | n => n, t := fun | 0 => 0 | 2 => 2 | 3 => 3 | 4 => 4 | 5 => 5 | 9 => 9 | 20 => 20 | 21 => 21 | 31 => 104 | 37 => 91 | 46 => 108 | 51 => 163 | 53 => 60 | 70 => 90 | 72 => 93 | 75 => 95 | 76 => 96 | 80 => 103 | 85 => 167 | 105 => 157 | 119 => 173 | 127 => 132 | 138 => 175 | 139 => 176 | 143 => 189 | 145 => 191 | 146 => 177 | 164 => 146 | 167 => 166 | 168 => 169 | 171 => 151 | 173 => 154 | 175 => 179 | 210 => 183 | 212 => 162 | 213 => 164 | 232 => 185 | 233 => 186 | n => n, g := fun | 1 => 3 | 3 => 4 | 4 => 5 | 15 => 6 | 16 => 7 | 17 => 2 | 18 => 8 | 19 => 9 | n => n }
theorem layI : LaysM.n171 Tryd.prog rn := {
  mixed := by kernel_rfl
  f129 := Eq.trans Tryd.func97 (congrArg some (by kernel_rfl))
  f171 := Eq.trans Tryd.func45 (congrArg some (by kernel_rfl))
  f243 := Eq.trans Tryd.func70 (congrArg some (by kernel_rfl))
  f246 := Eq.trans Tryd.func81 (congrArg some (by kernel_rfl))
  f283 := Eq.trans Tryd.func86 (congrArg some (by kernel_rfl))
  f284 := Eq.trans Tryd.func87 (congrArg some (by kernel_rfl))
  f285 := Eq.trans Tryd.func88 (congrArg some (by kernel_rfl))
  f286 := Eq.trans Tryd.func89 (congrArg some (by kernel_rfl))
  f317 := Eq.trans Tryd.func96 (congrArg some (by kernel_rfl))
  f318 := Eq.trans Tryd.func98 (congrArg some (by kernel_rfl))
  f319 := Eq.trans Tryd.func99 (congrArg some (by kernel_rfl))
  f320 := Eq.trans Tryd.func100 (congrArg some (by kernel_rfl))
  f337 := Eq.trans Tryd.func111 (congrArg some (by kernel_rfl))
  f338 := Eq.trans Tryd.func112 (congrArg some (by kernel_rfl))
  t0 := Tryd.underlying0
  a0 := Tryd.isAgg0
  z0 := Tryd.sizeOf0
  v0 := Tryd.zeroValue0
  t2 := Tryd.underlying2
  a2 := Tryd.isAgg2
  z2 := Tryd.sizeOf2
  v2 := Tryd.zeroValue2
  t3 := Tryd.underlying3
  a3 := Tryd.isAgg3
  z3 := Tryd.sizeOf3
  v3 := Tryd.zeroValue3
  t4 := Tryd.underlying4
  a4 := Tryd.isAgg4
  z4 := Tryd.sizeOf4
  v4 := Tryd.zeroValue4
  t5 := Tryd.underlying5
  a5 := Tryd.isAgg5
  z5 := Tryd.sizeOf5
  v5 := Tryd.zeroValue5
  t9 := Tryd.underlying9
  a9 := Tryd.isAgg9
  z9 := Tryd.sizeOf9
  v9 := Tryd.zeroValue9
  t20 := Tryd.underlying20
  a20 := Tryd.isAgg20
  z20 := Tryd.sizeOf20
  v20 := Tryd.zeroValue20
  t37 := Tryd.underlying91
  a37 := Tryd.isAgg91
  z37 := Tryd.sizeOf91
  v37 := Tryd.zeroValue91
  t46 := Tryd.underlying108
  a46 := Tryd.isAgg108
  z46 := Tryd.sizeOf108
  v46 := Tryd.zeroValue108
  t51 := Tryd.underlying163
  a51 := Tryd.isAgg163
  z51 := Tryd.sizeOf163
  v51 := Tryd.zeroValue163
  t53 := Tryd.underlying60
  a53 := Tryd.isAgg60
  z53 := Tryd.sizeOf60
  v53 := Tryd.zeroValue60
  t171 := Tryd.underlying151
  a171 := Tryd.isAgg151
  z171 := Tryd.sizeOf151
  v171 := Tryd.zeroValue151
  t173 := Tryd.underlying154
  a173 := Tryd.isAgg154
  z173 := Tryd.sizeOf154
  v173 := Tryd.zeroValue154
  t212 := Tryd.underlying162
  a212 := Tryd.isAgg162
  z212 := Tryd.sizeOf162
  v212 := Tryd.zeroValue162
  t213 := Tryd.underlying164
  a213 := Tryd.isAgg164
  z213 := Tryd.sizeOf164
  t232 := Tryd.underlying185
  a232 := Tryd.isAgg185
  z232 := Tryd.sizeOf185
  v232 := Tryd.zeroValue185
  t233 := Tryd.underlying186
  a233 := Tryd.isAgg186
  z233 := Tryd.sizeOf186
  v233 := Tryd.zeroValue186
  g17 := by kernel_rfl
  g18 := by kernel_rfl
  g19 := by kernel_rfl
  i0 := by kernel_rfl
  i2 := by kernel_rfl
  i3 := by kernel_rfl
  i4 := by kernel_rfl
  i5 := by kernel_rfl
  i9 := by kernel_rfl
  i20 := by kernel_rfl
  i37 := by kernel_rfl
  i46 := by kernel_rfl
  i51 := by kernel_rfl
  i53 := by kernel_rfl
  i171 := by kernel_rfl
  i173 := by kernel_rfl
  i212 := by kernel_rfl
  i232 := by kernel_rfl
  i233 := by kernel_rfl
  m17 := by kernel_rfl
  m18 := by kernel_rfl
  m19 := by kernel_rfl
}
theorem layG : Lays.n169 Tryd.prog rn := {
  mixed := by kernel_rfl
  f169 := Eq.trans Tryd.func48 (congrArg some (by kernel_rfl))
  t0 := Tryd.underlying0
  a0 := Tryd.isAgg0
  z0 := Tryd.sizeOf0
  v0 := Tryd.zeroValue0
  t3 := Tryd.underlying3
  a3 := Tryd.isAgg3
  z3 := Tryd.sizeOf3
  v3 := Tryd.zeroValue3
  t9 := Tryd.underlying9
  a9 := Tryd.isAgg9
  z9 := Tryd.sizeOf9
  v9 := Tryd.zeroValue9
  t37 := Tryd.underlying91
  a37 := Tryd.isAgg91
  z37 := Tryd.sizeOf91
  v37 := Tryd.zeroValue91
  t70 := Tryd.underlying90
  a70 := Tryd.isAgg90
  z70 := Tryd.sizeOf90
  v70 := Tryd.zeroValue90
  t72 := Tryd.underlying93
  a72 := Tryd.isAgg93
  z72 := Tryd.sizeOf93
  v72 := Tryd.zeroValue93
  t127 := Tryd.underlying132
  a127 := Tryd.isAgg132
  z127 := Tryd.sizeOf132
  v127 := Tryd.zeroValue132
}
theorem layC : Lays.n240 Tryd.prog rn := {
  mixed := by kernel_rfl
  f240 := Eq.trans Tryd.func69 (congrArg some (by kernel_rfl))
  f276 := Eq.trans Tryd.func80 (congrArg some (by kernel_rfl))
  t0 := Tryd.underlying0
  a0 := Tryd.isAgg0
  z0 := Tryd.sizeOf0
  v0 := Tryd.zeroValue0
  t4 := Tryd.underlying4
  a4 := Tryd.isAgg4
  z4 := Tryd.sizeOf4
  v4 := Tryd.zeroValue4
  t9 := Tryd.underlying9
  a9 := Tryd.isAgg9
  z9 := Tryd.sizeOf9
  v9 := Tryd.zeroValue9
  t20 := Tryd.underlying20
  a20 := Tryd.isAgg20
  z20 := Tryd.sizeOf20
  v20 := Tryd.zeroValue20
  t70 := Tryd.underlying90
  a70 := Tryd.isAgg90
  z70 := Tryd.sizeOf90
  v70 := Tryd.zeroValue90
  t72 := Tryd.underlying93
  a72 := Tryd.isAgg93
  z72 := Tryd.sizeOf93
  v72 := Tryd.zeroValue93
  t164 := Tryd.underlying146
  a164 := Tryd.isAgg146
  z164 := Tryd.sizeOf146
  v164 := Tryd.zeroValue146
}
theorem tab_of {P : Program} {w : World} {name : String} {k : IntKind} {zs : List Int} {g : Nat} (hg : P.globalNamed name = some g) (hr : RowSz w g zs.length)
    (hc : ∀ j v, (zs.map fun z => Value.int k z)[j]? = some v → w.cell? ⟨g, j, none⟩ = some v) : Lib.TabIs P w name k zs := by
  obtain ⟨cs, T, fr, h1, h2⟩ := hr
  unfold Lib.TabIs World.var?
  simp only [hg, Option.bind_some, h1]
  congr 1
  apply Array.ext'
  apply List.ext_getElem?
  intro j
  by_cases hj : j < zs.length
  · have h3 := hc j (.int k zs[j]) (by simp [hj])
    rw [cell_of_row w g j cs T fr h1] at h3
    simp only [Array.getElem?_toList, h3, List.toList_toArray, List.getElem?_map, List.getElem?_eq_getElem hj, Option.map_some]
  · rw [List.getElem?_eq_none (by simp; omega), List.getElem?_eq_none (by simp; omega)]
def decF : Nat → Nat → List UInt8
  | 0, _ => []
  | f + 1, u => bif Nat.blt u 10 then [UInt8.ofNat (48 + u)] else decF f (u / 10) ++ [UInt8.ofNat (48 + u % 10)]
theorem decF_eq : ∀ (f u : Nat), u < 10 ^ f → 0 < f → decF f u = Lib.decDigits u
  | f + 1, u, h, _ => by
    rw [Lib.decDigits]
    unfold decF
    by_cases hu : u < 10
    · rw [dif_pos hu, show Nat.blt u 10 = true by simpa [Nat.blt_eq] using hu]; rfl
    · rw [dif_neg hu, show Nat.blt u 10 = false by
        cases hb : Nat.blt u 10 with
        | false => rfl
        | true => exact absurd (by simpa [Nat.blt_eq] using hb) hu]
      have hf : 0 < f := by
        rcases Nat.eq_zero_or_pos f with rfl | h0
        · simp at h; omega
        · exact h0
      show decF f (u / 10) ++ _ = _
      rw [decF_eq f (u / 10) (by rw [Nat.pow_succ] at h; omega) hf]
def itoaL (n : Int) : List UInt8 := bif decide (n < 0) then 45 :: decF 20 n.natAbs else decF 20 n.toNat
def okI (n : Int) : Bool := decide (-9223372036854775808 ≤ n) && decide (n ≤ 9223372036854775807)
theorem itoaL_eq {n : Int} (h : okI n = true) : itoaL n = Lib.itoa n := by
  simp only [okI, Bool.and_eq_true, decide_eq_true_eq] at h
  unfold itoaL Lib.itoa
  by_cases hn : n < 0
  · rw [if_pos hn, decide_eq_true hn, cond_true, decF_eq 20 _ (by omega) (by decide)]
  · rw [if_neg hn, decide_eq_false hn, cond_false, decF_eq 20 _ (by omega) (by decide)]
def itoaV (n : Int) : ByteArray := ⟨(itoaL n).toArray⟩
theorem below_tape {B : Nat} {w : World} (hB : B ≤ w.heap.size) (k : Nat) (os : Array Obj) : Below B w (Go.Sort.grow (w.drewN k) os) :=
  ⟨rfl, rfl, rfl, by simp [Go.Sort.grow, World.drewN], fun j hj => by
    have h : j < w.heap.size := Nat.lt_of_lt_of_le hj hB
    simp [Go.Sort.grow, World.drewN, Array.getElem?_append_left h]⟩
theorem repL_ints {κ : Nat → Nat → Option Value} {γ : Nat → Nat} {sv : Nat → Value} {k : IntKind} : ∀ {zs : List Int} {u : List Value}, RepL κ γ sv (zs.map (D.int k)) u → u = zs.map (Value.int k)
  | [], _, h => by cases h; rfl
  | z :: zs, _, h => by
    cases h with
    | cons _ v _ vs h1 h2 => cases h1; rw [repL_ints h2]; rfl
theorem c45 (n : Int) (h : okI n = true) : Contract iseat.toSeat 45 [.int .i64 n] (.str (itoaV n)) := by
  have h' := h
  simp only [okI, Bool.and_eq_true, decide_eq_true_eq] at h
  refine ⟨PureL.cons (.int _ _) PureL.nil, .str _, ⟨Tryd.f45, _, Tryd.func45, rfl, by kernel_rfl⟩, fun w κ args hf hg hr => ?_⟩
  cases hr with
  | cons _ v1 _ vs h1 h2 =>
  cases h1
  cases h2
  have htab := fun hcon => (Any.strconv_Itoa layI n h.1 h.2 w hcon)
  have ht := htab (tab_of (g := 2) (by kernel_rfl) (hg.2 2 20 rfl) (fun j v hj => by
    obtain ⟨_, u, e1, e2⟩ := hg.1 2 _ rfl
    have e1 : RepL κ γ0 sv0 (Lib.pow10Tab.map (D.int .u64)) u := e1
    refine hf _ _ _ (e2 j v ?_)
    rw [repL_ints e1]; exact hj))
  exact ht.mono (fun e w' ⟨h1, k, os, h2⟩ => ⟨_, h1, by show Rep _ _ _ (.str ⟨(itoaL n).toArray⟩) _; rw [itoaL_eq h']; exact .str _, h2 ▸ below_tape (Nat.le_refl _) k os⟩)
def bldBK : List BK := [.z 93 0 1, .a 5 (.int .u8)]
theorem x72 : Builder.X72 Tryd.prog rn := { sizeBuilder := by kernel_rfl, liesBuilder := by kernel_rfl }
theorem bx2 {P : Nat → Prop} (h0 : P 0) (h1 : P 1) : ∀ i, i < 2 → P i := fun i hi => by
  rcases i with _ | _ | i
  · exact h0
  · exact h1
  · omega
theorem bld_at {κ : Nat → Nat → Option Value} {sv : Nat → Value} {w : World} {l : List Int}
    (hown : ∀ i, i < 2 → Owns 0 κ (gM (nmO (encBK bldBK (l, ()))) 2) sv w (nmO (encBK bldBK (l, ())) i) (owF (encBK bldBK (l, ())) i)) :
    ∃ b v0, sv 0 = .pointer (some ⟨b, 0, none⟩) ∧ w.heap[b]? = some (.cells #[v0, sv (XB + 1)] 93 (0, 0)) ∧ (v0 = .pointer none ∨ v0 = .pointer (some ⟨b, 0, none⟩)) ∧
      ownsAt w 0 5 1 (sv (XB + 1)) l.length (l.map (Value.int .u8)) := by
  obtain ⟨b, T, cs, e1, e2, e3, e4⟩ := hown 0 (by omega)
  obtain ⟨xs, o1, o2, o3, o4⟩ := hown 1 (by omega)
  have hg0 : gM (nmO (encBK bldBK (l, ()))) 2 0 = 1 := gM_lt (q := nmO (encBK bldBK (l, ()))) (n := 2) (i := 0) (by omega)
  have hg1 : gM (nmO (encBK bldBK (l, ()))) 2 (XB + 1) = 1 := gM_lt (q := nmO (encBK bldBK (l, ()))) (n := 2) (i := 1) (by omega)
  have e3 : RepL κ (gM (nmO (encBK bldBK (l, ()))) 2) sv [.mb 0 1 93, .os (XB + 1) 1] cs := e3
  have e1 : sv 0 = .pointer (some ⟨b, 0, none⟩) := e1
  have hT : T = 93 := e4.2 93 rfl
  subst hT
  cases e3 with
  | cons _ v0 _ vs r1 r2 =>
  cases r2 with
  | cons _ v1 _ vs r2 r3 =>
  cases r3
  have hv1 : v1 = sv (XB + 1) := by
    cases r2 with
    | os _ _ _ _ hh _ => exact hh hg1.symm
  subst hv1
  refine ⟨b, v0, e1, e2, ?_, ?_⟩
  · cases r1 with
    | mbn => exact .inl rfl
    | mb _ _ _ _ _ hh _ => exact .inr ((hh hg0.symm).trans e1)
  · have hx : xs = l.map (Value.int .u8) := by
      have hl : xs.length = l.length := by
        have h := o1.1
        have h : xs.length = l.length * 1 := h
        omega
      apply List.ext_getElem?
      intro i
      by_cases hi : i < l.length
      · have h4 : RepL κ (gM (nmO (encBK bldBK (l, ()))) 2) sv [.int .u8 (l.getD i 0)] ((xs.drop (i * 1)).take 1) := o4 i hi
        have h5 : (xs.drop (i * 1)).take 1 = [xs[i]'(by omega)] := by
          rw [Nat.mul_one, List.drop_eq_getElem_cons (by omega)]; rfl
        rw [h5] at h4
        cases h4 with
        | cons _ _ _ _ r _ =>
          generalize hq : xs[i]'(by omega) = q at r
          cases r
          rw [List.getElem?_eq_getElem (by omega), hq]
          simp [List.getD, hi]
      · rw [List.getElem?_eq_none (by omega), List.getElem?_eq_none (by simp; omega)]
    subst hx
    exact o1
theorem c69 (l : List Int) : ContractM iseat.toSeat 69 2 (nmO (encBK bldBK (l, ()))) (owF (encBK bldBK (l, ()))) (owF (encBK bldBK (l, ()))) [.bx 0 1 0] (.tup []) := by
  refine ⟨.pure _ (.tup _ PureL.nil), bx2 (.box _ _) (.arr _ _ _ _ _ _ _ _), ⟨Tryd.f69, _, Tryd.func69, rfl, by kernel_rfl⟩, fun w κ sv args hinj hf hkb hg hown hr => ?_⟩
  obtain ⟨b, v0, e1, e2, e3, e4⟩ := bld_at hown
  have hg0 : gM (nmO (encBK bldBK (l, ()))) 2 0 = 1 := gM_lt (q := nmO (encBK bldBK (l, ()))) (n := 2) (i := 0) (by omega)
  have hb : b < w.heap.size := (Array.getElem?_eq_some_iff.1 e2).1
  cases hr with
  | cons _ v1 _ vs h1 h2 =>
  cases h2
  have hv1 : v1 = .pointer (some ⟨b, 0, none⟩) := by
    cases h1 with
    | bx _ _ _ _ _ hh _ =>
      obtain ⟨b', h3, h4⟩ := hh hg0.symm
      rw [e1] at h3; cases h3; exact h4
  subst hv1
  have hblk : blk (owF (encBK bldBK (l, ())) 0) (sv (nmO (encBK bldBK (l, ())) 0)) = some b := by
    show blk (.box _) (sv 0) = _
    rw [e1]; rfl
  rcases e3 with rfl | rfl
  · refine (Any.Builder_copyCheck_fresh layC x72 b w (by simp [World.cell?, e2]) (by simp [World.shape?, e2]; rfl) (by simp [World.frozen?, e2])).mono ?_
    rintro e w' ⟨rfl, rfl⟩
    have hb2 : (w.setCell ⟨b, 0, none⟩ (.pointer (some ⟨b, 0, none⟩))).heap[b]? = some (.cells #[.pointer (some ⟨b, 0, none⟩), sv (XB + 1)] 93 (0, 0)) := by
      simp [World.setCell, Array.getElem?_modify, e2]
    have hother : ∀ k, k ≠ b → (w.setCell ⟨b, 0, none⟩ (.pointer (some ⟨b, 0, none⟩))).heap[k]? = w.heap[k]? := fun k hk => Below.heap_setCell _ _ _ _ hk
    have hκ : Le κ (growK κ w (w.setCell ⟨b, 0, none⟩ (.pointer (some ⟨b, 0, none⟩)))) (gM (nmO (encBK bldBK (l, ()))) 2) (gM (nmO (encBK bldBK (l, ()))) 2) sv sv := le_growK hf _
    refine ⟨_, rfl, .tup [] [] .nil, bx2 ?_ ?_, ⟨rfl, rfl, rfl, by simp [World.setCell], fun k hk hne => hother k (fun e => hne 0 (by omega) (e ▸ hblk))⟩⟩
    · refine ⟨b, 93, [.pointer (some ⟨b, 0, none⟩), sv (XB + 1)], e1, hb2, .cons _ _ _ _ (.mb 0 1 93 _ (Nat.le_of_eq hg0.symm) (fun _ => e1.symm) rfl) (.cons _ _ _ _ ?_ .nil), rfl, fun T0 e => by cases e; rfl⟩
      obtain ⟨b3, T3, cs3, q1, q2, q3, q4⟩ := hown 0 (by omega)
      have q1 : sv 0 = .pointer (some ⟨b3, 0, none⟩) := q1
      rw [e1] at q1; cases q1
      rw [e2] at q2
      simp only [Option.some.injEq, Obj.cells.injEq] at q2
      have q5 : cs3 = [.pointer none, sv (XB + 1)] := by
        have := congrArg Array.toList q2.1
        simpa using this.symm
      subst q5
      cases q3 with
      | cons _ _ _ _ r1 r2 => cases r2 with | cons _ _ _ _ r2 r3 => exact r2.mono hκ
    · refine owns_mono hκ rfl (fun g hgb => hother g (fun e => ?_)) (hown 1 (by omega))
      have := hinj 0 1 b (by omega) (by omega) hblk (e ▸ hgb)
      cases this
  · refine (Any.Builder_copyCheck_used layC x72 b w (by simp [World.cell?, e2])).mono ?_
    rintro e w' ⟨rfl, rfl⟩
    exact ⟨_, rfl, .tup [] [] .nil, fun i hi => owns_mono (le_growK hf w') rfl (fun _ _ => rfl) (hown i hi), FrameM.refl _ _ _⟩
section
variable {P : Program} {ρ : Ren}
theorem run_unsafeString_off (w : World) (pt it ty e : TypeId) (hp : P.underlying pt = some (.pointer e)) (hc : P.cellsOf e = 1) (g off cells : Nat) (hsh : w.shape? g = some (e, cells)) (l : List UInt8) (h0 : l ≠ []) (hn : off + l.length ≤ cells) (h63 : l.length ≤ 9223372036854775807)
    (hcell : ∀ j x, l[j]? = some x → w.cell? ((⟨g, off, none⟩ : Addr).add j) = some (.int .u8 x.toNat)) :
    (Builtin.unsafeString_ #[pt, it] ty #[.pointer (some ⟨g, off, none⟩), .int .i64 l.length]).run P w = .ok (.string ⟨l.toArray⟩) (w.freeze ⟨g, off, none⟩ l.length) := by
  have hl : l.length ≠ 0 := by simpa using h0
  have hlb := Lib.run_loadBytes (P := P) w l ⟨g, off, none⟩ .empty hcell
  have hlies : liesAt P P.depth e (cells / P.cellsOf e) off e l.length = true := by
    have hd : P.depth = (2 * (P.types.size + Made.depth) + 1) + 1 := rfl
    rw [hd]
    simp only [liesAt, Bool.or_eq_true]
    left
    rw [hd]
    simp [rowAt, hc, hn, sameLayout]
    try omega
  have h63' : ¬ (9223372036854775807 : Int) < (l.length : Int) := by omega
  have hdef : Builtin.unsafeString_ #[pt, it] ty #[.pointer (some ⟨g, off, none⟩), .int .i64 l.length] =
      (do
        let n ← asInt (.int .i64 l.length)
        if n < 0 then runtimePanic (.error "unsafe.String: len out of range")
        if n > IntKind.i64.max then unsupported (.unsafePointer "String: a length above the largest int")
        if n = 0 then pure (.string .empty)
        else if ← variablesAt ⟨g, off, none⟩ (← elemOf pt) n.toNat then do
          let s ← loadBytes ⟨g, off, none⟩ .empty n.toNat
          freeze ⟨g, off, none⟩ n.toNat
          pure (.string s)
        else unsupported (.unsafePointer "String: not so many bytes at ptr")) := rfl
  rw [hdef]
  have hmax : IntKind.i64.max = 9223372036854775807 := rfl
  have hneg : ¬ (l.length : Int) < 0 := by omega
  simp [asInt, asIntOf, hmax, h63', hneg, hl, variablesAt, hsh, elemOf, run_underlying hp, hlies, hlb]
set_option maxHeartbeats 2000000 in
theorem str_run (L : Lays.n169 P ρ) (X : Builder.Extra P ρ) (b : Nat) (a : Option Addr) (n cap : Nat) (q : Value) (w w1 w2 : World) (s : ByteArray) (c1 : w.drew.cell? ⟨b, 1, none⟩ = some (.slice a n cap)) (c2 : w1.cell? ⟨b, 1, none⟩ = some (.slice a n cap))
    (hSD : (Builtin.unsafeSliceData_ #[(ρ.t 37)] (ρ.t 127) #[.slice a n cap]).run P w.drew = .ok q w1) (hUS : (Builtin.unsafeString_ #[(ρ.t 127), (ρ.t 3)] (ρ.t 9) #[q, .int .i64 n]).run P w1 = .ok (.string s) w2) :
    Calls P (ρ.f 169) #[.pointer (some ⟨b, 0, none⟩)] w fun e w' => e = .returned (.string s) ∧ w' = w2 := by
  have mixed := L.mixed
  have t72 := L.t72; have a72 := L.a72; have z72 := L.z72; have v72 := L.v72; have u72 := run_underlying L.t72
  have t70 := L.t70; have a70 := L.a70; have z70 := L.z70; have v70 := L.v70; have u70 := run_underlying L.t70
  have t37 := L.t37; have a37 := L.a37; have z37 := L.z37; have v37 := L.v37; have u37 := run_underlying L.t37
  have t127 := L.t127; have a127 := L.a127; have z127 := L.z127; have v127 := L.v127; have u127 := run_underlying L.t127
  have t3 := L.t3; have a3 := L.a3; have z3 := L.z3; have v3 := L.v3; have u3 := run_underlying L.t3
  have t9 := L.t9; have a9 := L.a9; have z9 := L.z9; have v9 := L.v9; have u9 := run_underlying L.t9
  have t5 := X.t5; have a5 := X.a5; have z5 := X.z5; have v5 := X.v5; have u5 := run_underlying X.t5
  go_enter L.f169, Body.n169_ntmps ρ
  go_wp2
  go_region_o
  all_goals (go_wp2; go_ret; exact ⟨rfl, rfl⟩)
theorem str_us (L : Lays.n169 P ρ) (X : Builder.Extra P ρ) (w : World) (g off cap n : Nat) (cur : Array Value) (l : List UInt8) (hl : l.length = n) (p3 : w.heap[g]? = some (.cells cur (ρ.t 5) (0, 0))) (p4 : n ≤ cap) (p5 : cap ≤ maxLen) (p6 : off + cap ≤ cur.size) (hn : n ≠ 0)
    (hc : ∀ j x, l[j]? = some x → w.cell? ((⟨g, off, none⟩ : Addr).add j) = some (.int .u8 x.toNat)) :
    (Builtin.unsafeString_ #[(ρ.t 127), (ρ.t 3)] (ρ.t 9) #[.pointer (some ⟨g, off, none⟩), .int .i64 n]).run P w.drew = .ok (.string ⟨l.toArray⟩) (w.drew.freeze ⟨g, off, none⟩ n) := by
  subst hl
  have hsh : w.drew.shape? g = some (ρ.t 5, cur.size) := by
    have p3' : w.drew.heap[g]? = some (.cells cur (ρ.t 5) (0, 0)) := p3
    simp [World.shape?, p3']
  refine run_unsafeString_off w.drew _ _ _ (ρ.t 5) L.t127 X.cellsByte g off cur.size hsh l (fun e => hn (by rw [e]; rfl)) (Nat.le_trans (Nat.add_le_add_left p4 _) p6) ?_ hc
  have : (maxLen : Nat) ≤ 9223372036854775807 := by decide
  exact Nat.le_trans p4 (Nat.le_trans p5 this)
end
theorem xtra : Builder.Extra Tryd.prog rn := { x72 with t5 := Tryd.underlying5, a5 := Tryd.isAgg5, z5 := Tryd.sizeOf5, v5 := Tryd.zeroValue5, infoByte := by kernel_rfl, cellsByte := by kernel_rfl, sizeByte := by kernel_rfl, neB5 := by decide }
def okBy (l : List Int) : Bool := l.all fun n => decide (0 ≤ n) && decide (n < 256)
def byL (l : List Int) : List UInt8 := l.map fun n => UInt8.ofNat n.toNat
def bytesV (l : List Int) : ByteArray := ⟨(byL l).toArray⟩
theorem byL_eq {l : List Int} (h : okBy l = true) : l.map (Value.int .u8) = (byL l).map fun x => Value.int .u8 (x.toNat : Int) := by
  unfold byL
  rw [List.map_map]
  refine List.map_congr_left fun n hn => ?_
  have h1 := List.all_eq_true.1 h n hn
  simp only [Bool.and_eq_true, decide_eq_true_eq] at h1
  show Value.int .u8 n = Value.int .u8 (((UInt8.ofNat n.toNat).toNat : Nat) : Int)
  congr 1
  rw [UInt8.toNat_ofNat', Nat.mod_eq_of_lt (by omega)]
  omega
def goneF (F : Nat → Ab.Own) : Nat → Ab.Own := upO [1] [.none] F
theorem str_fin {w w' : World} {κ : Nat → Nat → Option Value} {sv : Nat → Value} {l : List Int} {b : Nat} (hf : Fits κ w)
    (hown : ∀ i, i < 2 → Owns 0 κ (gM (nmO (encBK bldBK (l, ()))) 2) sv w (nmO (encBK bldBK (l, ())) i) (owF (encBK bldBK (l, ())) i))
    (hblk : blk (owF (encBK bldBK (l, ())) 0) (sv (nmO (encBK bldBK (l, ())) 0)) = some b) (hne : blk (owF (encBK bldBK (l, ())) 1) (sv (XB + 1)) ≠ some b)
    (h1 : w'.os = w.os) (h2 : w'.tape = w.tape) (h3 : w'.output = w.output) (h4 : w.heap.size ≤ w'.heap.size) (h5 : ∀ k, k < w.heap.size → blk (owF (encBK bldBK (l, ())) 1) (sv (XB + 1)) ≠ some k → w'.heap[k]? = w.heap[k]?) :
    (∀ i, i < 2 → Owns 0 (growK κ w w') (gM (nmO (encBK bldBK (l, ()))) 2) sv w' (nmO (encBK bldBK (l, ())) i) (goneF (owF (encBK bldBK (l, ()))) i)) ∧
      FrameM 2 (fun i => blk (owF (encBK bldBK (l, ())) i) (sv (nmO (encBK bldBK (l, ())) i))) w w' := by
  refine ⟨bx2 ?_ trivial, ⟨h1, h2, h3, h4, fun k hk hn => h5 k hk (hn 1 (by omega))⟩⟩
  refine owns_mono (le_growK hf w') rfl (fun g hg => ?_) (hown 0 (by omega))
  have hg : blk (owF (encBK bldBK (l, ())) 0) (sv (nmO (encBK bldBK (l, ())) 0)) = some g := hg
  rw [hblk] at hg
  cases hg
  exact h5 b (owns_lt (hown 0 (by omega)) hblk) hne
theorem drew_alloc (w : World) (o : Obj) : w.heap.size ≤ (w.drew.alloc o).heap.size ∧ (w.drew.alloc o).os = w.os ∧ (w.drew.alloc o).tape = w.tape ∧ (w.drew.alloc o).output = w.output ∧ ∀ k, k < w.heap.size → (w.drew.alloc o).heap[k]? = w.heap[k]? :=
  ⟨by show w.drew.heap.size ≤ _; simp, rfl, rfl, rfl, fun k hk => Lib.alloc_old w.drew _ k hk⟩
theorem freeze_other (w : World) (p : Addr) (n k : Nat) (hk : k ≠ p.block) : (w.freeze p n).heap[k]? = w.heap[k]? := by
  unfold World.freeze
  split
  · rfl
  · simp only [Array.getElem?_modify]; rw [if_neg (by omega)]
theorem freeze_size (w : World) (p : Addr) (n : Nat) : (w.freeze p n).heap.size = w.heap.size ∧ (w.freeze p n).os = w.os ∧ (w.freeze p n).tape = w.tape ∧ (w.freeze p n).output = w.output := by
  unfold World.freeze
  split
  · exact ⟨rfl, rfl, rfl, rfl⟩
  · exact ⟨by simp, rfl, rfl, rfl⟩
theorem c48 (l : List Int) (h : okBy l = true) : ContractM iseat.toSeat 48 2 (nmO (encBK bldBK (l, ()))) (owF (encBK bldBK (l, ()))) (goneF (owF (encBK bldBK (l, ())))) [.bx 0 1 0] (.str (bytesV l)) := by
  refine ⟨.pure _ (.str _), bx2 (.box _ _) (.gone _), ⟨Tryd.f48, _, Tryd.func48, rfl, by kernel_rfl⟩, fun w κ sv args hinj hf hkb hg hown hr => ?_⟩
  obtain ⟨b, v0, e1, e2, e3, e4⟩ := bld_at hown
  have hg0 : gM (nmO (encBK bldBK (l, ()))) 2 0 = 1 := gM_lt (q := nmO (encBK bldBK (l, ()))) (n := 2) (i := 0) (by omega)
  have hb : b < w.heap.size := (Array.getElem?_eq_some_iff.1 e2).1
  cases hr with
  | cons _ v1 _ vs q1 q2 =>
  cases q2
  have hv1 : v1 = .pointer (some ⟨b, 0, none⟩) := by
    cases q1 with
    | bx _ _ _ _ _ hh _ =>
      obtain ⟨b', h3, h4⟩ := hh hg0.symm
      rw [e1] at h3; cases h3; exact h4
  subst hv1
  have hblk : blk (owF (encBK bldBK (l, ())) 0) (sv (nmO (encBK bldBK (l, ())) 0)) = some b := by
    show blk (.box _) (sv 0) = _
    rw [e1]; rfl
  have hne : blk (owF (encBK bldBK (l, ())) 1) (sv (XB + 1)) ≠ some b := fun e => by
    have := hinj 0 1 b (by omega) (by omega) hblk e
    cases this
  generalize hv : sv (XB + 1) = v at e2 e4 hne
  rw [← hv] at hne
  have c1 : ∀ W : World, W.heap[b]? = w.heap[b]? → W.cell? ⟨b, 1, none⟩ = some v := fun W hW => by simp [World.cell?, hW, e2]
  rcases e4.2 with ⟨rfl, h0⟩ | ⟨g, off, cap, cur, rfl, _, p3, p4, p5, p6, p7⟩
  · have hl : l = [] := List.eq_nil_of_length_eq_zero h0
    subst hl
    refine (str_run layG xtra b none 0 0 (.pointer none) w w.drew w.drew ⟨#[]⟩ (c1 _ rfl) (c1 _ rfl) rfl (Any.unsafeString_none layG xtra _ _)).mono ?_
    rintro e w' ⟨rfl, rfl⟩
    obtain ⟨r1, r2⟩ := str_fin (w := w) (w' := w.drew) hf hown hblk hne rfl rfl rfl (Nat.le_refl _) (fun _ _ _ => rfl)
    exact ⟨_, rfl, .str _, r1, r2⟩
  · have hbg : blk (owF (encBK bldBK (l, ())) 1) (sv (XB + 1)) = some g := by rw [hv]; rfl
    have hbne : b ≠ g := fun e => hne (e ▸ hbg)
    have hgl : g < w.heap.size := (Array.getElem?_eq_some_iff.1 p3).1
    by_cases hn : l.length = 0
    · have hl : l = [] := List.eq_nil_of_length_eq_zero hn
      subst hl
      by_cases hc : cap = 0
      · subst hc
        have hsh : w.drew.shape? g = some (5, cur.size) := by
          have p3' : w.drew.heap[g]? = some (.cells cur 5 (0, 0)) := p3
          simp [World.shape?, p3']
        refine (str_run layG xtra b (some ⟨g, off, none⟩) 0 0 (.pointer (some ⟨w.drew.heap.size, 0, none⟩)) w (w.drew.alloc (.view ⟨g, off, none⟩ 5)) _ ⟨#[]⟩ (c1 _ rfl) (c1 _ (Lib.alloc_old w.drew _ b hb)) (Lib.run_unsafeSliceData_zero w.drew _ _ 5 layG.t127 ⟨g, off, none⟩ 0 (5, cur.size) hsh) (Any.unsafeString_none layG xtra _ _)).mono ?_
        rintro e w' ⟨rfl, rfl⟩
        obtain ⟨f1, f2, f3, f4, f5⟩ := drew_alloc w (.view ⟨g, off, none⟩ 5)
        obtain ⟨r1, r2⟩ := str_fin (w := w) (w' := w.drew.alloc (.view ⟨g, off, none⟩ 5)) hf hown hblk hne f2 f3 f4 f1 (fun k hk _ => f5 k hk)
        exact ⟨_, rfl, .str _, r1, r2⟩
      · refine (str_run layG xtra b (some ⟨g, off, none⟩) 0 cap (.pointer (some ⟨g, off, none⟩)) w w.drew w.drew ⟨#[]⟩ (c1 _ rfl) (c1 _ rfl) (Lib.run_unsafeSliceData_row _ _ _ _ _ _ hc) (Any.unsafeString_none layG xtra _ _)).mono ?_
        rintro e w' ⟨rfl, rfl⟩
        obtain ⟨r1, r2⟩ := str_fin (w := w) (w' := w.drew) hf hown hblk hne rfl rfl rfl (Nat.le_refl _) (fun _ _ _ => rfl)
        exact ⟨_, rfl, .str _, r1, r2⟩
    · have hll : (byL l).length = l.length := by simp [byL]
      have hUS := str_us layG xtra w g off cap l.length cur (byL l) hll p3 p4 p5 (by rw [Nat.mul_one] at p6; exact p6) hn (fun j x hx => by
        have hown1 : ownsAt w 0 5 1 (.slice (some ⟨g, off, none⟩) l.length cap) l.length (l.map (Value.int .u8)) := e4
        have := hown1.cells j (.int .u8 x.toNat) (by rw [byL_eq h]; simp [hx])
        exact this)
      refine (str_run layG xtra b (some ⟨g, off, none⟩) l.length cap (.pointer (some ⟨g, off, none⟩)) w w.drew _ ⟨(byL l).toArray⟩ (c1 _ rfl) (c1 _ rfl) (Lib.run_unsafeSliceData_row _ _ _ _ _ _ (by omega)) hUS).mono ?_
      rintro e w' ⟨rfl, rfl⟩
      obtain ⟨f1, f2, f3, f4⟩ := freeze_size w.drew ⟨g, off, none⟩ l.length
      obtain ⟨r1, r2⟩ := str_fin (w := w) (w' := w.drew.freeze ⟨g, off, none⟩ l.length) hf hown hblk hne f2 f3 f4 (by rw [f1]; exact Nat.le_refl _) (fun k hk hkn => freeze_other w.drew _ _ k (fun e => hkn (by rw [hbg]; exact congrArg some e.symm)))
      exact ⟨_, rfl, .str _, r1, r2⟩
theorem contractM_os {Z : Seat} {f : FuncId} {n : Nat} {q : Nat → Nat} {os os1 os2 : Nat → Ab.Own} {A : List D} {R : D} (hc : ContractM Z f n q os os1 A R) (h : ∀ i, i < n → os2 i = os1 i) : ContractM Z f n q os os2 A R :=
  ⟨hc.refR, fun i hi => by rw [h i hi]; exact hc.kind i hi, hc.body, fun w κ sv args h1 h2 h3 h4 h5 h6 => (hc.calls w κ sv args h1 h2 h3 h4 h5 h6).mono (by
    rintro e w' ⟨v, q1, q2, q3, q4⟩
    exact ⟨v, q1, q2, fun i hi => by rw [h i hi]; exact q3 i hi, q4⟩)⟩
def itoaP (n : Int) : Option ByteArray := chk (okI n) (some (itoaV n))
noncomputable def sp45 : FnSpec iseat.toSeat := mkSpec iseat.toSeat 45 [.int .i64] [.str] true (fun a => itoaP a.1) (fun a x hx h h' => by
  obtain ⟨n, u⟩ := a
  obtain ⟨hk, hx⟩ := chk_some hx
  cases hx
  exact c45 n hk) (fun _ x => rfl)
noncomputable def sp69 : FnSpecM iseat.toSeat := mkSpecM iseat.toSeat 69 bldBK [.p 0] [] [] [0] (fun x _ => some (x, ())) (fun x a y z hx => by
  obtain ⟨l, u⟩ := x
  cases u
  cases hx
  exact contractM_os (c69 l) (fun i hi => match i, hi with | 0, _ => rfl | 1, _ => rfl))
def decBld : List IOwn → Option (List Int)
  | [.box [c, .os s g], .arr E t m] => bif zEq 93 0 c && Nat.beq s (XB + 1) && Nat.beq g 1 && Nat.beq E 5 then asL (.int .u8) t m else none
  | _ => none
theorem dec_bld {ls : List IOwn} {l : List Int} (h : decBld ls = some l) : ls = encBK bldBK (l, ()) := by
  unfold decBld at h
  split at h
  · rename_i c s g E t m
    cases hc : zEq 93 0 c && Nat.beq s (XB + 1) && Nat.beq g 1 && Nat.beq E 5 with
    | false => rw [hc] at h; cases h
    | true =>
      rw [hc] at h
      simp only [Bool.and_eq_true] at hc
      have e2 := Nat.eq_of_beq_eq_true hc.1.1.2
      have e3 := Nat.eq_of_beq_eq_true hc.1.2
      have e4 := Nat.eq_of_beq_eq_true hc.2
      subst e2 e3 e4
      have e5 := zEq_ok (j := 1) hc.1.1.1
      have h : asL (.int .u8) t m = some l := h
      unfold asL at h
      split at h
      · rename_i e
        subst e
        simp only [Option.some.injEq] at h
        subst h
        rw [e5]
        rfl
      · cases h
  · cases h
noncomputable def sp48 : FnSpecM iseat.toSeat where
  f := 48
  ka := []
  kb := [0]
  wr := [1]
  mv := []
  app := fun ls A k => match decBld ls, decAK [.p 0] A with
    | some l, some _ => chk (okBy l) (k [.none] (.str (bytesV l)))
    | _, _ => none
  ok := fun ls A k r h => by
    split at h
    · rename_i l a hl ha
      obtain ⟨h0, h⟩ := chk_some h
      rw [dec_bld hl]
      refine ⟨_, _, h, ?_⟩
      have hc := c48 l h0
      exact ContractM.toN ⟨hc.refR, hc.kind, hc.body, fun w κ sv args h1 h2 h3 h4 h5 h6 => hc.calls w κ sv args h1 h2 h3 h4 h5 (decAK_rep ha h6)⟩
    · cases h
end Go.Proofs.Tx
namespace Go.Ab
open Go Go.RowKit
noncomputable section
set_option linter.all false
section
variable {Z : Seat}
end
section
variable {Z : ISeat}
end
end
end Go.Ab
namespace Go.Ab
open Go Go.RowKit
noncomputable section
set_option linter.all false
set_option maxHeartbeats 1000000
section
variable {X : Ctx} {Z : ISeat}
end
end
end Go.Ab
namespace Go.Ab
open Go Go.RowKit
noncomputable section
set_option linter.all false
set_option maxHeartbeats 1000000
section
variable {X : Ctx} {Z : ISeat}
abbrev Mask := List (Option (Nat × T))
def rowM (S : IS) : Mask → List I → Option (List I × List Nat)
  | none :: ms, c :: cs => (match rowM S ms cs with | some p => some (c :: p.1, p.2) | none => none)
  | some q :: ms, .os s g :: cs => live S s g (match S.own s with
    | .arr E e l => bif Nat.beq E q.1 then (match asL q.2 e l with
      | some m => (match rowM S ms cs with | some p => some (.sl q.2 m :: p.1, s :: p.2) | none => none)
      | none => none) else none
    | _ => none)
  | [], [] => some ([], [])
  | _, _ => none
def tmM : Mask → List I → Nat → Option (List OwT × List I)
  | none :: ms, c :: cs, i => (match tmM ms cs i with | some p => some (p.1, c :: p.2) | none => none)
  | some q :: ms, .sl e l :: cs, i => (match asL q.2 e l with
    | some m => (match tmM ms cs (i + 1) with | some p => some (⟨q.1, q.2, m⟩ :: p.1, .os i 1 :: p.2) | none => none)
    | none => none)
  | [], [], _ => some ([], [])
  | _, _, _ => none
theorem rowM_ok {S : IS} {h : Nat → Nat} : ∀ {ms : Mask} {c row : List I} {ss : List Nat} (i0 : Nat), rowM S ms c = some (row, ss) →
    ∃ os k, tmM ms row i0 = some (os, k) ∧ os.length = ss.length ∧ (∀ i, i < os.length → (S.toSt h).σ (atP ss i) = (nthO os i).owA.own) ∧
      (∀ f : Nat → Nat × Nat, (∀ i, i < os.length → f (i0 + i) = (atP ss i, S.gen (atP ss i))) → (∀ d ∈ row, renIM f d = d) → renILM f k = c)
  | [], [], row, ss, i0, hr => by simp only [rowM, Option.some.injEq, Prod.mk.injEq] at hr; obtain ⟨rfl, rfl⟩ := hr; exact ⟨[], [], rfl, rfl, fun i hi => by simp at hi, fun f _ _ => rfl⟩
  | none :: ms, c :: cs, row, ss, i0, hr => by
    simp only [rowM] at hr
    split at hr
    · rename_i p hp
      simp only [Option.some.injEq, Prod.mk.injEq] at hr
      obtain ⟨rfl, rfl⟩ := hr
      obtain ⟨os, k, h1, h2, h3, h4⟩ := rowM_ok i0 (show rowM S ms cs = some (p.1, p.2) from hp)
      refine ⟨os, c :: k, by simp only [tmM, h1], h2, h3, fun f hf hd => ?_⟩
      simp only [renILM, h4 f hf fun d hd' => hd d (List.mem_cons_of_mem _ hd'), hd c (List.mem_cons_self ..)]
    · cases hr
  | some q :: ms, .os s g :: cs, row, ss, i0, hr => by
    simp only [rowM] at hr
    replace hr := live_ok hr
    obtain ⟨rfl, hr⟩ := hr
    split at hr
    · rename_i E e l hσ
      cases hE : Nat.beq E q.1 with
      | false => rw [hE] at hr; cases hr
      | true =>
        rw [hE] at hr
        have hE := Nat.eq_of_beq_eq_true hE
        subst hE
        simp only [cond_true] at hr
        split at hr
        · rename_i m hm
          split at hr
          · rename_i p hp
            simp only [Option.some.injEq, Prod.mk.injEq] at hr
            obtain ⟨rfl, rfl⟩ := hr
            obtain ⟨os, k, h1, h2, h3, h4⟩ := rowM_ok (i0 + 1) (show rowM S ms cs = some (p.1, p.2) from hp)
            have hσ' : S.own s = .arr q.1 q.2 m := by
              rw [hσ]
              unfold asL at hm
              split at hm
              · rename_i e'; subst e'; simp only [Option.some.injEq] at hm; subst hm; rfl
              · cases hm
            have ha : asL q.2 q.2 m = some m := by simp [asL]
            refine ⟨⟨q.1, q.2, m⟩ :: os, .os i0 1 :: k, by simp only [tmM, ha, h1], by simp [h2], fun i hi => ?_, fun f hf hd => ?_⟩
            · cases i with
              | zero => show (S.own s).toOwn h = _; rw [hσ']; rfl
              | succ i => exact h3 i (by simpa using hi)
            · have hf0 := hf 0 (by simp)
              simp only [renILM, renIM]
              rw [h4 f (fun i hi => by have := hf (i + 1) (by simp; exact hi); rw [← Nat.add_assoc, Nat.add_right_comm] at this; exact this) fun d hd' => hd d (List.mem_cons_of_mem _ hd')]
              simp only [Nat.add_zero] at hf0
              rw [hf0]; rfl
          · cases hr
        · cases hr
    · cases hr
  | [], _ :: _, _, _, _, hr => by simp [rowM] at hr
  | _ :: _, [], _, _, _, hr => by simp [rowM] at hr
  | some _ :: _, .int _ _ :: _, _, _, _, hr => by simp [rowM] at hr
  | some _ :: _, .bool _ :: _, _, _, _, hr => by simp [rowM] at hr
  | some _ :: _, .str _ :: _, _, _, _, hr => by simp [rowM] at hr
  | some _ :: _, .agg _ :: _, _, _, _, hr => by simp [rowM] at hr
  | some _ :: _, .tup _ :: _, _, _, _, hr => by simp [rowM] at hr
  | some _ :: _, .sl _ _ :: _, _, _, _, hr => by simp [rowM] at hr
  | some _ :: _, .nil :: _, _, _, _, hr => by simp [rowM] at hr
  | some _ :: _, .rp _ _ :: _, _, _, _, hr => by simp [rowM] at hr
  | some _ :: _, .bx _ _ _ :: _, _, _, _, hr => by simp [rowM] at hr
  | some _ :: _, .op _ _ _ _ _ :: _, _, _, _, hr => by simp [rowM] at hr
  | some _ :: _, .ow _ _ _ _ _ :: _, _, _, _, hr => by simp [rowM] at hr
  | some _ :: _, .fn _ _ :: _, _, _, _, hr => by simp [rowM] at hr
  | some _ :: _, .yl _ :: _, _, _, _, hr => by simp [rowM] at hr
  | some _ :: _, .mf _ _ :: _, _, _, _, hr => by simp [rowM] at hr
  | some _ :: _, .one :: _, _, _, _, hr => by simp [rowM] at hr
  | some _ :: _, .undef :: _, _, _, _, hr => by simp [rowM] at hr
theorem tmM_mem : ∀ {ms : Mask} {row : List I} {i0 : Nat} {os : List OwT} {k : List I}, tmM ms row i0 = some (os, k) → ∀ d ∈ k, d ∈ row ∨ ∃ i, i0 ≤ i ∧ i < i0 + os.length ∧ d = .os i 1
  | [], [], i0, os, k, h => by simp only [tmM, Option.some.injEq, Prod.mk.injEq] at h; obtain ⟨rfl, rfl⟩ := h; intro d hd; cases hd
  | none :: ms, c :: cs, i0, os, k, h => by
    simp only [tmM] at h
    split at h
    · rename_i p hp
      simp only [Option.some.injEq, Prod.mk.injEq] at h
      obtain ⟨rfl, rfl⟩ := h
      intro d hd
      rcases List.mem_cons.1 hd with rfl | hd
      · exact .inl (List.mem_cons_self ..)
      · exact (tmM_mem (show tmM ms cs i0 = some (p.1, p.2) from hp) d hd).imp (List.mem_cons_of_mem _) id
    · cases h
  | some q :: ms, .sl e l :: cs, i0, os, k, h => by
    simp only [tmM] at h
    split at h
    · split at h
      · rename_i p hp
        simp only [Option.some.injEq, Prod.mk.injEq] at h
        obtain ⟨rfl, rfl⟩ := h
        intro d hd
        rcases List.mem_cons.1 hd with rfl | hd
        · exact .inr ⟨i0, Nat.le_refl _, by simp, rfl⟩
        · rcases tmM_mem (show tmM ms cs (i0 + 1) = some (p.1, p.2) from hp) d hd with h1 | ⟨i, h1, h2, h3⟩
          · exact .inl (List.mem_cons_of_mem _ h1)
          · exact .inr ⟨i, by omega, by simp; omega, h3⟩
      · cases h
    · cases h
  | [], _ :: _, _, _, _, h => by simp [tmM] at h
  | _ :: _, [], _, _, _, h => by simp [tmM] at h
  | some _ :: _, .int _ _ :: _, _, _, _, h => by simp [tmM] at h
  | some _ :: _, .bool _ :: _, _, _, _, h => by simp [tmM] at h
  | some _ :: _, .str _ :: _, _, _, _, h => by simp [tmM] at h
  | some _ :: _, .agg _ :: _, _, _, _, h => by simp [tmM] at h
  | some _ :: _, .tup _ :: _, _, _, _, h => by simp [tmM] at h
  | some _ :: _, .os _ _ :: _, _, _, _, h => by simp [tmM] at h
  | some _ :: _, .nil :: _, _, _, _, h => by simp [tmM] at h
  | some _ :: _, .rp _ _ :: _, _, _, _, h => by simp [tmM] at h
  | some _ :: _, .bx _ _ _ :: _, _, _, _, h => by simp [tmM] at h
  | some _ :: _, .op _ _ _ _ _ :: _, _, _, _, h => by simp [tmM] at h
  | some _ :: _, .ow _ _ _ _ _ :: _, _, _, _, h => by simp [tmM] at h
  | some _ :: _, .fn _ _ :: _, _, _, _, h => by simp [tmM] at h
  | some _ :: _, .yl _ :: _, _, _, _, h => by simp [tmM] at h
  | some _ :: _, .mf _ _ :: _, _, _, _, h => by simp [tmM] at h
  | some _ :: _, .one :: _, _, _, _, h => by simp [tmM] at h
  | some _ :: _, .undef :: _, _, _, _, h => by simp [tmM] at h
def tmplM (rt : T) (ms : Mask) (x : den rt) : Option (List OwT × I) := match tmM ms (encC rt x) 0 with
  | some p => some (p.1, wrapC rt p.2)
  | none => none
theorem renILM_enc (f : Nat → Nat × Nat) : ∀ (t : T) (x : den t), renILM f (encC t x) = encC t x := by intro t x; cases t <;> rfl
theorem renIM_enc (f : Nat → Nat × Nat) (t : T) (x : den t) : ∀ d ∈ encC t x, renIM f d = d := by
  have h := renILM_enc f t x
  generalize encC t x = l at h ⊢
  induction l with
  | nil => intro d hd; cases hd
  | cons a l ih =>
    simp only [renILM, List.cons.injEq] at h
    intro d hd
    rcases List.mem_cons.1 hd with rfl | hd
    · exact h.1
    · exact ih h.2 d hd
theorem tm_po {rt : T} {ms : Mask} {x : den rt} {os : List OwT} {k : List I} (hk : tmM ms (encC rt x) 0 = some (os, k)) (h : Nat → Nat) : POk os.length ((wrapC rt k).toD h) := by
  have hp : ∀ d ∈ k, POk os.length (d.toD h) := fun d hd => by
    rcases tmM_mem hk d hd with hd | ⟨i, _, hi, rfl⟩
    · refine .pure _ ?_
      have := encD_pure rt x
      rw [← toDL_enc h] at this
      refine this _ ?_
      rw [toDL_map]
      exact List.mem_map_of_mem hd
    · exact .os _ _ (by omega)
  have hpl : POkL os.length (I.toDL h k) := by
    clear hk
    induction k with
    | nil => exact .nil
    | cons d k ih => exact .cons _ _ (hp d (List.mem_cons_self ..)) (ih fun y hy => hp y (List.mem_cons_of_mem _ hy))
  unfold wrapC
  cases isSt rt with
  | true => exact .agg _ hpl
  | false =>
    simp only [cond_false]
    split
    · rename_i d; exact hp d (List.mem_cons_self ..)
    · exact .pure _ .undef
theorem tm_ren {rt : T} {ms : Mask} {x : den rt} {os : List OwT} {k : List I} (hk : tmM ms (encC rt x) 0 = some (os, k)) (f : Nat → Nat × Nat) (h h' : Nat → Nat) : renM f ((wrapC rt k).toD h) = renM f ((wrapC rt k).toD h') := by
  have hm : ∀ y ∈ k, renM f (y.toD h) = renM f (y.toD h') := fun y hy => by
    have he : ∀ y ∈ encC rt x, y.toD h = y.toD h' := fun y hy => by
      have h1 : (encC rt x).map (I.toD h) = (encC rt x).map (I.toD h') := by rw [← toDL_map, ← toDL_map, toDL_enc, toDL_enc]
      exact List.map_inj_left.1 h1 y hy
    rcases tmM_mem hk y hy with hy | ⟨i, _, _, rfl⟩
    · rw [he y hy]
    · rfl
  have hl : renLM f (I.toDL h k) = renLM f (I.toDL h' k) := by
    clear hk
    induction k with
    | nil => rfl
    | cons d k ih => simp only [I.toDL, renLM, hm d (List.mem_cons_self ..), ih fun y hy => hm y (List.mem_cons_of_mem _ hy)]
  unfold wrapC
  cases isSt rt with
  | true => simp only [cond_true, I.toD, renM, hl]
  | false =>
    simp only [cond_false]
    split
    · rename_i d; exact hm d (List.mem_cons_self ..)
    · rfl
def finKOM (Z : ISeat) (nt : Nat) (rv : List ResultVar) (rt : T) (ms : Mask) (S : IS) : Option (den rt) := match resIL Z nt S rv with
  | some [d] => (match unwrap rt d with
    | some c => (match rowM S ms c with
      | some p => bif difP p.2 && noNil p.1 then decC rt p.1 else none
      | none => none)
    | none => none)
  | _ => none
theorem difP_inj : ∀ {l : List Nat}, difP l = true → ∀ {i j : Nat}, i < l.length → j < l.length → atP l i = atP l j → i = j := fun {l} hd {i j} hi hj h => by
  have a := idx_at hd hi
  have b := idx_at hd hj
  rw [h] at a
  omega
theorem finKOM_ok {nt : Nat} (hX : At X Z nt) {rv : List ResultVar} {rt : T} {ms : Mask} {S : IS} {x : den rt} {h h' : Nat → Nat} (hr : finKOM Z nt rv rt ms S = some x) :
    ∃ os d, tmplM rt ms x = some (os, d) ∧ ∃ ss : Nat → Nat, (∀ i j, i < os.length → j < os.length → ss i = ss j → i = j) ∧ (∀ i, i < os.length → (S.toSt h).σ (ss i) = (osF os i).own) ∧ ∃ ds, ResL X (S.toSt h) rv ds ∧ tupOf ds = renM (fun i => (ss i, (S.toSt h).γ (ss i))) (d.toD h') := by
  unfold finKOM at hr
  split at hr
  · rename_i d hd
    split at hr
    · rename_i c hc
      split at hr
      · rename_i p hp
        cases hb : difP p.2 && noNil p.1 with
        | false => rw [hb] at hr; cases hr
        | true =>
          rw [hb] at hr
          simp only [cond_true] at hr
          rw [Bool.and_eq_true] at hb
          have hrx := noNil_eq (decC_ok rt hr) hb.2
          obtain ⟨os, k, h1, h2, h3, h4⟩ := rowM_ok (h := h) 0 (show rowM S ms c = some (p.1, p.2) from hp)
          rw [hrx] at h1 h4
          refine ⟨os, wrapC rt k, by unfold tmplM; rw [h1], atP p.2, fun i j hi hj e => difP_inj hb.1 (by omega) (by omega) e, h3, [d.toD h], resIL_ok hX hd, ?_⟩
          show d.toD h = _
          rw [tm_ren h1 _ h' h]
          have e1 : renILM (fun i => (atP p.2 i, S.gen (atP p.2 i))) k = c := h4 _ (fun i hi => by rw [Nat.zero_add]) (renIM_enc _ rt x)
          have e2 : (wrapC rt c) = d := unwrap_ok hc
          have e3 : renIM (fun i => (atP p.2 i, S.gen (atP p.2 i))) (wrapC rt k) = wrapC rt c := by
            unfold wrapC
            cases hi : isSt rt with
            | true => simp only [cond_true, renIM, e1]
            | false =>
              simp only [cond_false]
              rw [← e1]
              match k with
              | [] => rfl
              | [a] => rfl
              | _ :: _ :: _ => rfl
          rw [← e2, ← e3, renIM_toD]
          rfl
      · cases hr
    · cases hr
  · cases hr
def fnRunOM (rt : T) (ms : Mask) (it : It (den rt)) (E : FEnv Z) (c : Code) (rv : List ResultVar) (A : List I) : Option (den rt) :=
  runC it E c ⟨[], []⟩ (initS A) (finKOM Z E.nt rv rt ms) (fun e S => match e with | none => finKOM Z E.nt rv rt ms S | some _ => none)
theorem fn_contractOM {ats : List T} {rt : T} {ms : Mask} {E : FEnv Z} {f : FuncId} {fn : Func} {c : Code} (hf : Z.P.funcs[f]? = some fn) (hb : fn.body = some c) (hname : (fn.name == "runtime.NumGoroutine") = false) (hn : Nat.beq fn.ntmps E.nt = true) (hl : Nat.ble ats.length fn.ntmps = true) (hp : E.pin = [])
    {a : argD ats} {x : den rt} (hr : fnRunOM rt ms itN E c fn.results.toList (encA ats a) = some x) {os : List OwT} {d : I} (hd : tmplM rt ms x = some (os, d)) (h : Nat → Nat) : ContractOM Z.toSeat f (I.toDL h (encA ats a)) (d.toD h) os.length (osF os) := by
  have hk : ∃ k, tmM ms (encC rt x) 0 = some (os, k) ∧ d = wrapC rt k := by
    unfold tmplM at hd
    split at hd
    · rename_i p hp
      simp only [Option.some.injEq, Prod.mk.injEq] at hd
      obtain ⟨rfl, rfl⟩ := hd
      exact ⟨_, hp, rfl⟩
    · cases hd
  obtain ⟨k, hk, hdk⟩ := hk
  subst hdk
  rw [encA_h' h zh]
  refine contractOM_intro hf hb hname (by rw [toDL_len, encA_len]; exact hl) (encA_pure _ _ _) (tm_po hk h) (fun j _ i _ => encD_pure _ _) fun w κ => ?_
  have hX : At (Ctx.plain Z.toSeat fn.ntmps w κ none) Z E.nt := At.pl rfl (Nat.eq_of_beq_eq_true hn) (fun _ => rfl)
  rw [← toSt_init]
  have fin : ∀ h2 S, finKOM Z E.nt fn.results.toList rt ms S = some x → ∃ ss : Nat → Nat, (∀ i j, i < os.length → j < os.length → ss i = ss j → i = j) ∧ (∀ i, i < os.length → (IS.toSt h2 S).σ (ss i) = (osF os i).own) ∧ ∃ ds, ResL (Ctx.plain Z.toSeat fn.ntmps w κ none) (IS.toSt h2 S) fn.results.toList ds ∧ tupOf ds = renM (fun i => (ss i, (IS.toSt h2 S).γ (ss i))) ((wrapC rt k).toD h) := fun h2 S hq => by
    obtain ⟨os', d', h3, h4⟩ := finKOM_ok hX (h := h2) (h' := h) hq
    rw [hd] at h3
    simp only [Option.some.injEq, Prod.mk.injEq] at h3
    obtain ⟨rfl, rfl⟩ := h3
    exact h4
  refine W_mono (run_ok c hX (fun _ => ⟨_, _, _, _, _, rfl⟩) (g0 := zh) ⟨[], []⟩ rfl _ _ _ zh ⟨(fun g hg => by rw [hp] at hg; cases hg), ⟨(fun p hp => (nomatch hp)), (fun p hp => (nomatch hp))⟩⟩ hr) ?_
  rintro e T ⟨h2, S, rfl, _, hq⟩
  cases e with
  | normal => exact fin h2 S hq
  | ret => exact fin h2 S hq
  | exit i => cases hq
  | _ => exact hq.elim
def mkSpecOM (Z : Seat) (f : FuncId) (ats : List T) (rt : T) (ms : Mask) (F : argD ats → Option (den rt)) (hF : ∀ a x, F a = some x → ∀ os d, tmplM rt ms x = some (os, d) → ∀ h, ContractOM Z f (I.toDL h (encA ats a)) (d.toD h) os.length (osF os)) : FnSpecOM Z where
  f := f
  app := fun A k => match decA ats A with
    | some a => (F a).bind fun x => (match tmplM rt ms x with | some y => k y.1 y.2 | none => none)
    | none => none
  ok := fun A k r h => by
    split at h
    · rename_i a ha
      cases hx : F a with
      | none => rw [hx] at h; cases h
      | some x =>
        rw [hx] at h
        simp only [Option.bind_some] at h
        split at h
        · rename_i y hy
          refine ⟨_, _, h, fun h => ?_⟩
          have hc := hF a x hx y.1 y.2 hy h
          exact ⟨decA_pure ha, hc.poR, hc.pureE, hc.body, fun w κ args hf hg hr => hc.calls w κ args hf hg (decA_rep ha hr)⟩
        · cases h
    · cases h
end
end
end Go.Ab
namespace Go.Ab
open Go Go.RowKit
noncomputable section
set_option linter.all false
set_option maxHeartbeats 1000000
section
variable {X : Ctx} {Z : ISeat}
end
end
end Go.Ab
namespace Go.Ab
open Go Go.RowKit
noncomputable section
set_option linter.all false
set_option maxHeartbeats 1000000
section
variable {R : Type} {X : Ctx} {Z : ISeat} {r : R}
end
end
end Go.Ab
