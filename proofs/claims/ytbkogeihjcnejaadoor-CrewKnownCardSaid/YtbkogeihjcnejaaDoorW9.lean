/- Walks by computing: what each function of the program that the laws reach gives for what it gets, as plain Lean, and that it is so; without a condition but those that stand in each theorem. -/
import Derived.Shelf.Strings.Builder1
import Derived.Shelf.Strconv.Itoa3
import Derived.WalkSmall
import Derived.Shelf.Strings.SlTrimAscii
import Derived.Test.YtbkogeihjcnejaaDoorW1
import Derived.Test.YtbkogeihjcnejaaDoorW2
import Derived.Test.YtbkogeihjcnejaaDoorW3
import Derived.Test.YtbkogeihjcnejaaDoorW4
import Derived.Test.YtbkogeihjcnejaaDoorW5
import Derived.Test.YtbkogeihjcnejaaDoorW6
import Derived.Test.YtbkogeihjcnejaaDoorW7
import Derived.Test.YtbkogeihjcnejaaDoorW8
set_option linter.all false
namespace Go.Proofs.Crew
open Go Go.Ab Go.RowKit Go.Shelf Go.Proofs
open Go.Proofs.YtbkogeihjcnejaaDoor (iseat)
set_option linter.all false
set_option maxRecDepth 100000
def rn : Ren := { f := fun | 119 => 66 | 120 => 62 | 129 => 75 | 137 => 65 | 151 => 55 | 152 => 61 | 160 => 19 | 169 => 52 | 171 => 51 | 197 => 54 | 217 => 73 | 224 => 67 | 225 => 68 | 227 => 37 | 228 => 53 | 231 => 35 | 232 => 36 | 233 => 38 | 234 => 39 | 235 => 40 | 236 => 41 | 240 => 58 | 243 => 59 | 246 => 64 | 260 => 60 | 266 => 79 | 271 => 56 | 276 => 63 | 283 => 69 | 284 => 70 | 285 => 71 | 286 => 72 | 317 => 74 | 318 => 76 | 319 => 77 | 320 => 78 | 337 => 80 | 338 => 81 | n => n, t := fun | 0 => 0 | 2 => 2 | 3 => 3 | 4 => 4 | 5 => 5 | 9 => 9 | 20 => 20 | 21 => 21 | 37 => 98 | 46 => 107 | 51 => 134 | 53 => 127 | 70 => 97 | 72 => 100 | 105 => 109 | 116 => 83 | 117 => 84 | 119 => 118 | 124 => 87 | 127 => 113 | 138 => 120 | 139 => 121 | 164 => 115 | 171 => 126 | 173 => 130 | 212 => 133 | 213 => 135 | 232 => 138 | 233 => 139 | n => n, g := fun | 3 => 0 | 4 => 1 | 17 => 3 | 18 => 4 | 19 => 5 | n => n }
theorem layI : LaysM.n171 Tryd.prog rn := {
  mixed := by kernel_rfl
  f129 := Eq.trans Tryd.func75 (congrArg some (by kernel_rfl))
  f171 := Eq.trans Tryd.func51 (congrArg some (by kernel_rfl))
  f243 := Eq.trans Tryd.func59 (congrArg some (by kernel_rfl))
  f246 := Eq.trans Tryd.func64 (congrArg some (by kernel_rfl))
  f283 := Eq.trans Tryd.func69 (congrArg some (by kernel_rfl))
  f284 := Eq.trans Tryd.func70 (congrArg some (by kernel_rfl))
  f285 := Eq.trans Tryd.func71 (congrArg some (by kernel_rfl))
  f286 := Eq.trans Tryd.func72 (congrArg some (by kernel_rfl))
  f317 := Eq.trans Tryd.func74 (congrArg some (by kernel_rfl))
  f318 := Eq.trans Tryd.func76 (congrArg some (by kernel_rfl))
  f319 := Eq.trans Tryd.func77 (congrArg some (by kernel_rfl))
  f320 := Eq.trans Tryd.func78 (congrArg some (by kernel_rfl))
  f337 := Eq.trans Tryd.func80 (congrArg some (by kernel_rfl))
  f338 := Eq.trans Tryd.func81 (congrArg some (by kernel_rfl))
  t0 := Tryd.underlying0
  a0 := Tryd.isAgg0
  z0 := Tryd.sizeOf0
  v0 := Tryd.zeroValue0
  t2 := Tryd.underlying2
  a2 := Tryd.isAgg2
  z2 := Tryd.sizeOf2
  v2 := Tryd.zeroValue2
  t3 := Tryd.underlying3
  a3 := Tryd.isAgg3
  z3 := Tryd.sizeOf3
  v3 := Tryd.zeroValue3
  t4 := Tryd.underlying4
  a4 := Tryd.isAgg4
  z4 := Tryd.sizeOf4
  v4 := Tryd.zeroValue4
  t5 := Tryd.underlying5
  a5 := Tryd.isAgg5
  z5 := Tryd.sizeOf5
  v5 := Tryd.zeroValue5
  t9 := Tryd.underlying9
  a9 := Tryd.isAgg9
  z9 := Tryd.sizeOf9
  v9 := Tryd.zeroValue9
  t20 := Tryd.underlying20
  a20 := Tryd.isAgg20
  z20 := Tryd.sizeOf20
  v20 := Tryd.zeroValue20
  t37 := Tryd.underlying98
  a37 := Tryd.isAgg98
  z37 := Tryd.sizeOf98
  v37 := Tryd.zeroValue98
  t46 := Tryd.underlying107
  a46 := Tryd.isAgg107
  z46 := Tryd.sizeOf107
  v46 := Tryd.zeroValue107
  t51 := Tryd.underlying134
  a51 := Tryd.isAgg134
  z51 := Tryd.sizeOf134
  v51 := Tryd.zeroValue134
  t53 := Tryd.underlying127
  a53 := Tryd.isAgg127
  z53 := Tryd.sizeOf127
  v53 := Tryd.zeroValue127
  t171 := Tryd.underlying126
  a171 := Tryd.isAgg126
  z171 := Tryd.sizeOf126
  v171 := Tryd.zeroValue126
  t173 := Tryd.underlying130
  a173 := Tryd.isAgg130
  z173 := Tryd.sizeOf130
  v173 := Tryd.zeroValue130
  t212 := Tryd.underlying133
  a212 := Tryd.isAgg133
  z212 := Tryd.sizeOf133
  v212 := Tryd.zeroValue133
  t213 := Tryd.underlying135
  a213 := Tryd.isAgg135
  z213 := Tryd.sizeOf135
  t232 := Tryd.underlying138
  a232 := Tryd.isAgg138
  z232 := Tryd.sizeOf138
  v232 := Tryd.zeroValue138
  t233 := Tryd.underlying139
  a233 := Tryd.isAgg139
  z233 := Tryd.sizeOf139
  v233 := Tryd.zeroValue139
  g17 := by kernel_rfl
  g18 := by kernel_rfl
  g19 := by kernel_rfl
  i0 := by kernel_rfl
  i2 := by kernel_rfl
  i3 := by kernel_rfl
  i4 := by kernel_rfl
  i5 := by kernel_rfl
  i9 := by kernel_rfl
  i20 := by kernel_rfl
  i37 := by kernel_rfl
  i46 := by kernel_rfl
  i51 := by kernel_rfl
  i53 := by kernel_rfl
  i171 := by kernel_rfl
  i173 := by kernel_rfl
  i212 := by kernel_rfl
  i232 := by kernel_rfl
  i233 := by kernel_rfl
  m17 := by kernel_rfl
  m18 := by kernel_rfl
  m19 := by kernel_rfl
}
theorem layT : Lays.n160 Tryd.prog rn := {
  mixed := by kernel_rfl
  f119 := Eq.trans Tryd.func66 (congrArg some (by kernel_rfl))
  f120 := Eq.trans Tryd.func62 (congrArg some (by kernel_rfl))
  f137 := Eq.trans Tryd.func65 (congrArg some (by kernel_rfl))
  f151 := Eq.trans Tryd.func55 (congrArg some (by kernel_rfl))
  f152 := Eq.trans Tryd.func61 (congrArg some (by kernel_rfl))
  f160 := Eq.trans Tryd.func19 (congrArg some (by kernel_rfl))
  f197 := Eq.trans Tryd.func54 (congrArg some (by kernel_rfl))
  f217 := Eq.trans Tryd.func73 (congrArg some (by kernel_rfl))
  f224 := Eq.trans Tryd.func67 (congrArg some (by kernel_rfl))
  f225 := Eq.trans Tryd.func68 (congrArg some (by kernel_rfl))
  f227 := Eq.trans Tryd.func37 (congrArg some (by kernel_rfl))
  f228 := Eq.trans Tryd.func53 (congrArg some (by kernel_rfl))
  f231 := Eq.trans Tryd.func35 (congrArg some (by kernel_rfl))
  f232 := Eq.trans Tryd.func36 (congrArg some (by kernel_rfl))
  f233 := Eq.trans Tryd.func38 (congrArg some (by kernel_rfl))
  f234 := Eq.trans Tryd.func39 (congrArg some (by kernel_rfl))
  f235 := Eq.trans Tryd.func40 (congrArg some (by kernel_rfl))
  f236 := Eq.trans Tryd.func41 (congrArg some (by kernel_rfl))
  f260 := Eq.trans Tryd.func60 (congrArg some (by kernel_rfl))
  f266 := Eq.trans Tryd.func79 (congrArg some (by kernel_rfl))
  f271 := Eq.trans Tryd.func56 (congrArg some (by kernel_rfl))
  t0 := Tryd.underlying0
  a0 := Tryd.isAgg0
  z0 := Tryd.sizeOf0
  v0 := Tryd.zeroValue0
  t3 := Tryd.underlying3
  a3 := Tryd.isAgg3
  z3 := Tryd.sizeOf3
  v3 := Tryd.zeroValue3
  t4 := Tryd.underlying4
  a4 := Tryd.isAgg4
  z4 := Tryd.sizeOf4
  v4 := Tryd.zeroValue4
  t5 := Tryd.underlying5
  a5 := Tryd.isAgg5
  z5 := Tryd.sizeOf5
  v5 := Tryd.zeroValue5
  t9 := Tryd.underlying9
  a9 := Tryd.isAgg9
  z9 := Tryd.sizeOf9
  v9 := Tryd.zeroValue9
  t21 := Tryd.underlying21
  a21 := Tryd.isAgg21
  z21 := Tryd.sizeOf21
  v21 := Tryd.zeroValue21
  t46 := Tryd.underlying107
  a46 := Tryd.isAgg107
  z46 := Tryd.sizeOf107
  v46 := Tryd.zeroValue107
  t105 := Tryd.underlying109
  a105 := Tryd.isAgg109
  z105 := Tryd.sizeOf109
  v105 := Tryd.zeroValue109
  t116 := Tryd.underlying83
  a116 := Tryd.isAgg83
  z116 := Tryd.sizeOf83
  t117 := Tryd.underlying84
  a117 := Tryd.isAgg84
  z117 := Tryd.sizeOf84
  v117 := Tryd.zeroValue84
  t119 := Tryd.underlying118
  a119 := Tryd.isAgg118
  z119 := Tryd.sizeOf118
  t124 := Tryd.underlying87
  a124 := Tryd.isAgg87
  z124 := Tryd.sizeOf87
  v124 := Tryd.zeroValue87
  t138 := Tryd.underlying120
  a138 := Tryd.isAgg120
  z138 := Tryd.sizeOf120
  v138 := Tryd.zeroValue120
  t139 := Tryd.underlying121
  a139 := Tryd.isAgg121
  z139 := Tryd.sizeOf121
  v139 := Tryd.zeroValue121
  g3 := by kernel_rfl
  g4 := by kernel_rfl
}
theorem layG : Lays.n169 Tryd.prog rn := {
  mixed := by kernel_rfl
  f169 := Eq.trans Tryd.func52 (congrArg some (by kernel_rfl))
  t0 := Tryd.underlying0
  a0 := Tryd.isAgg0
  z0 := Tryd.sizeOf0
  v0 := Tryd.zeroValue0
  t3 := Tryd.underlying3
  a3 := Tryd.isAgg3
  z3 := Tryd.sizeOf3
  v3 := Tryd.zeroValue3
  t9 := Tryd.underlying9
  a9 := Tryd.isAgg9
  z9 := Tryd.sizeOf9
  v9 := Tryd.zeroValue9
  t37 := Tryd.underlying98
  a37 := Tryd.isAgg98
  z37 := Tryd.sizeOf98
  v37 := Tryd.zeroValue98
  t70 := Tryd.underlying97
  a70 := Tryd.isAgg97
  z70 := Tryd.sizeOf97
  v70 := Tryd.zeroValue97
  t72 := Tryd.underlying100
  a72 := Tryd.isAgg100
  z72 := Tryd.sizeOf100
  v72 := Tryd.zeroValue100
  t127 := Tryd.underlying113
  a127 := Tryd.isAgg113
  z127 := Tryd.sizeOf113
  v127 := Tryd.zeroValue113
}
theorem layC : Lays.n240 Tryd.prog rn := {
  mixed := by kernel_rfl
  f240 := Eq.trans Tryd.func58 (congrArg some (by kernel_rfl))
  f276 := Eq.trans Tryd.func63 (congrArg some (by kernel_rfl))
  t0 := Tryd.underlying0
  a0 := Tryd.isAgg0
  z0 := Tryd.sizeOf0
  v0 := Tryd.zeroValue0
  t4 := Tryd.underlying4
  a4 := Tryd.isAgg4
  z4 := Tryd.sizeOf4
  v4 := Tryd.zeroValue4
  t9 := Tryd.underlying9
  a9 := Tryd.isAgg9
  z9 := Tryd.sizeOf9
  v9 := Tryd.zeroValue9
  t20 := Tryd.underlying20
  a20 := Tryd.isAgg20
  z20 := Tryd.sizeOf20
  v20 := Tryd.zeroValue20
  t70 := Tryd.underlying97
  a70 := Tryd.isAgg97
  z70 := Tryd.sizeOf97
  v70 := Tryd.zeroValue97
  t72 := Tryd.underlying100
  a72 := Tryd.isAgg100
  z72 := Tryd.sizeOf100
  v72 := Tryd.zeroValue100
  t164 := Tryd.underlying115
  a164 := Tryd.isAgg115
  z164 := Tryd.sizeOf115
  v164 := Tryd.zeroValue115
}
theorem tab_of {P : Program} {w : World} {name : String} {k : IntKind} {zs : List Int} {g : Nat} (hg : P.globalNamed name = some g) (hr : RowSz w g zs.length)
    (hc : ∀ j v, (zs.map fun z => Value.int k z)[j]? = some v → w.cell? ⟨g, j, none⟩ = some v) : Lib.TabIs P w name k zs := by
  obtain ⟨cs, T, fr, h1, h2⟩ := hr
  unfold Lib.TabIs World.var?
  simp only [hg, Option.bind_some, h1]
  congr 1
  apply Array.ext'
  apply List.ext_getElem?
  intro j
  by_cases hj : j < zs.length
  · have h3 := hc j (.int k zs[j]) (by simp [hj])
    rw [cell_of_row w g j cs T fr h1] at h3
    simp only [Array.getElem?_toList, h3, List.toList_toArray, List.getElem?_map, List.getElem?_eq_getElem hj, Option.map_some]
  · rw [List.getElem?_eq_none (by simp; omega), List.getElem?_eq_none (by simp; omega)]
def decF : Nat → Nat → List UInt8
  | 0, _ => []
  | f + 1, u => bif Nat.blt u 10 then [UInt8.ofNat (48 + u)] else decF f (u / 10) ++ [UInt8.ofNat (48 + u % 10)]
theorem decF_eq : ∀ (f u : Nat), u < 10 ^ f → 0 < f → decF f u = Lib.decDigits u
  | f + 1, u, h, _ => by
    rw [Lib.decDigits]
    unfold decF
    by_cases hu : u < 10
    · rw [dif_pos hu, show Nat.blt u 10 = true by simpa [Nat.blt_eq] using hu]; rfl
    · rw [dif_neg hu, show Nat.blt u 10 = false by
        cases hb : Nat.blt u 10 with
        | false => rfl
        | true => exact absurd (by simpa [Nat.blt_eq] using hb) hu]
      have hf : 0 < f := by
        rcases Nat.eq_zero_or_pos f with rfl | h0
        · simp at h; omega
        · exact h0
      show decF f (u / 10) ++ _ = _
      rw [decF_eq f (u / 10) (by rw [Nat.pow_succ] at h; omega) hf]
def itoaL (n : Int) : List UInt8 := bif decide (n < 0) then 45 :: decF 20 n.natAbs else decF 20 n.toNat
def okI (n : Int) : Bool := decide (-9223372036854775808 ≤ n) && decide (n ≤ 9223372036854775807)
theorem itoaL_eq {n : Int} (h : okI n = true) : itoaL n = Lib.itoa n := by
  simp only [okI, Bool.and_eq_true, decide_eq_true_eq] at h
  unfold itoaL Lib.itoa
  by_cases hn : n < 0
  · rw [if_pos hn, decide_eq_true hn, cond_true, decF_eq 20 _ (by omega) (by decide)]
  · rw [if_neg hn, decide_eq_false hn, cond_false, decF_eq 20 _ (by omega) (by decide)]
def itoaV (n : Int) : ByteArray := ⟨(itoaL n).toArray⟩
theorem below_tape {B : Nat} {w : World} (hB : B ≤ w.heap.size) (k : Nat) (os : Array Obj) : Below B w (Go.Sort.grow (w.drewN k) os) :=
  ⟨rfl, rfl, rfl, by simp [Go.Sort.grow, World.drewN], fun j hj => by
    have h : j < w.heap.size := Nat.lt_of_lt_of_le hj hB
    simp [Go.Sort.grow, World.drewN, Array.getElem?_append_left h]⟩
theorem repL_ints {κ : Nat → Nat → Option Value} {γ : Nat → Nat} {sv : Nat → Value} {k : IntKind} : ∀ {zs : List Int} {u : List Value}, RepL κ γ sv (zs.map (D.int k)) u → u = zs.map (Value.int k)
  | [], _, h => by cases h; rfl
  | z :: zs, _, h => by
    cases h with
    | cons _ v _ vs h1 h2 => cases h1; rw [repL_ints h2]; rfl
theorem c51 (n : Int) (h : okI n = true) : Contract iseat.toSeat 51 [.int .i64 n] (.str (itoaV n)) := by
  have h' := h
  simp only [okI, Bool.and_eq_true, decide_eq_true_eq] at h
  refine ⟨PureL.cons (.int _ _) PureL.nil, .str _, ⟨Tryd.f51, _, Tryd.func51, rfl, by kernel_rfl⟩, fun w κ args hf hg hr => ?_⟩
  cases hr with
  | cons _ v1 _ vs h1 h2 =>
  cases h1
  cases h2
  have htab := fun hcon => (Any.strconv_Itoa layI n h.1 h.2 w hcon)
  have ht := htab (tab_of (g := 3) (by kernel_rfl) (hg.2 3 20 rfl) (fun j v hj => by
    obtain ⟨_, u, e1, e2⟩ := hg.1 3 _ rfl
    have e1 : RepL κ γ0 sv0 (Lib.pow10Tab.map (D.int .u64)) u := e1
    refine hf _ _ _ (e2 j v ?_)
    rw [repL_ints e1]; exact hj))
  exact ht.mono (fun e w' ⟨h1, k, os, h2⟩ => ⟨_, h1, by show Rep _ _ _ (.str ⟨(itoaL n).toArray⟩) _; rw [itoaL_eq h']; exact .str _, h2 ▸ below_tape (Nat.le_refl _) k os⟩)
def bldBK : List BK := [.z 100 0 1, .a 5 (.int .u8)]
theorem x72 : Builder.X72 Tryd.prog rn := { sizeBuilder := by kernel_rfl, liesBuilder := by kernel_rfl }
theorem bx2 {P : Nat → Prop} (h0 : P 0) (h1 : P 1) : ∀ i, i < 2 → P i := fun i hi => by
  rcases i with _ | _ | i
  · exact h0
  · exact h1
  · omega
theorem bld_at {κ : Nat → Nat → Option Value} {sv : Nat → Value} {w : World} {l : List Int}
    (hown : ∀ i, i < 2 → Owns 0 κ (gM (nmO (encBK bldBK (l, ()))) 2) sv w (nmO (encBK bldBK (l, ())) i) (owF (encBK bldBK (l, ())) i)) :
    ∃ b v0, sv 0 = .pointer (some ⟨b, 0, none⟩) ∧ w.heap[b]? = some (.cells #[v0, sv (XB + 1)] 100 (0, 0)) ∧ (v0 = .pointer none ∨ v0 = .pointer (some ⟨b, 0, none⟩)) ∧
      ownsAt w 0 5 1 (sv (XB + 1)) l.length (l.map (Value.int .u8)) := by
  obtain ⟨b, T, cs, e1, e2, e3, e4⟩ := hown 0 (by omega)
  obtain ⟨xs, o1, o2, o3, o4⟩ := hown 1 (by omega)
  have hg0 : gM (nmO (encBK bldBK (l, ()))) 2 0 = 1 := gM_lt (q := nmO (encBK bldBK (l, ()))) (n := 2) (i := 0) (by omega)
  have hg1 : gM (nmO (encBK bldBK (l, ()))) 2 (XB + 1) = 1 := gM_lt (q := nmO (encBK bldBK (l, ()))) (n := 2) (i := 1) (by omega)
  have e3 : RepL κ (gM (nmO (encBK bldBK (l, ()))) 2) sv [.mb 0 1 100, .os (XB + 1) 1] cs := e3
  have e1 : sv 0 = .pointer (some ⟨b, 0, none⟩) := e1
  have hT : T = 100 := e4.2 100 rfl
  subst hT
  cases e3 with
  | cons _ v0 _ vs r1 r2 =>
  cases r2 with
  | cons _ v1 _ vs r2 r3 =>
  cases r3
  have hv1 : v1 = sv (XB + 1) := by
    cases r2 with
    | os _ _ _ _ hh _ => exact hh hg1.symm
  subst hv1
  refine ⟨b, v0, e1, e2, ?_, ?_⟩
  · cases r1 with
    | mbn => exact .inl rfl
    | mb _ _ _ _ _ hh _ => exact .inr ((hh hg0.symm).trans e1)
  · have hx : xs = l.map (Value.int .u8) := by
      have hl : xs.length = l.length := by
        have h := o1.1
        have h : xs.length = l.length * 1 := h
        omega
      apply List.ext_getElem?
      intro i
      by_cases hi : i < l.length
      · have h4 : RepL κ (gM (nmO (encBK bldBK (l, ()))) 2) sv [.int .u8 (l.getD i 0)] ((xs.drop (i * 1)).take 1) := o4 i hi
        have h5 : (xs.drop (i * 1)).take 1 = [xs[i]'(by omega)] := by
          rw [Nat.mul_one, List.drop_eq_getElem_cons (by omega)]; rfl
        rw [h5] at h4
        cases h4 with
        | cons _ _ _ _ r _ =>
          generalize hq : xs[i]'(by omega) = q at r
          cases r
          rw [List.getElem?_eq_getElem (by omega), hq]
          simp [List.getD, hi]
      · rw [List.getElem?_eq_none (by omega), List.getElem?_eq_none (by simp; omega)]
    subst hx
    exact o1
theorem c58 (l : List Int) : ContractM iseat.toSeat 58 2 (nmO (encBK bldBK (l, ()))) (owF (encBK bldBK (l, ()))) (owF (encBK bldBK (l, ()))) [.bx 0 1 0] (.tup []) := by
  refine ⟨.pure _ (.tup _ PureL.nil), bx2 (.box _ _) (.arr _ _ _ _ _ _ _ _), ⟨Tryd.f58, _, Tryd.func58, rfl, by kernel_rfl⟩, fun w κ sv args hinj hf hkb hg hown hr => ?_⟩
  obtain ⟨b, v0, e1, e2, e3, e4⟩ := bld_at hown
  have hg0 : gM (nmO (encBK bldBK (l, ()))) 2 0 = 1 := gM_lt (q := nmO (encBK bldBK (l, ()))) (n := 2) (i := 0) (by omega)
  have hb : b < w.heap.size := (Array.getElem?_eq_some_iff.1 e2).1
  cases hr with
  | cons _ v1 _ vs h1 h2 =>
  cases h2
  have hv1 : v1 = .pointer (some ⟨b, 0, none⟩) := by
    cases h1 with
    | bx _ _ _ _ _ hh _ =>
      obtain ⟨b', h3, h4⟩ := hh hg0.symm
      rw [e1] at h3; cases h3; exact h4
  subst hv1
  have hblk : blk (owF (encBK bldBK (l, ())) 0) (sv (nmO (encBK bldBK (l, ())) 0)) = some b := by
    show blk (.box _) (sv 0) = _
    rw [e1]; rfl
  rcases e3 with rfl | rfl
  · refine (Any.Builder_copyCheck_fresh layC x72 b w (by simp [World.cell?, e2]) (by simp [World.shape?, e2]; rfl) (by simp [World.frozen?, e2])).mono ?_
    rintro e w' ⟨rfl, rfl⟩
    have hb2 : (w.setCell ⟨b, 0, none⟩ (.pointer (some ⟨b, 0, none⟩))).heap[b]? = some (.cells #[.pointer (some ⟨b, 0, none⟩), sv (XB + 1)] 100 (0, 0)) := by
      simp [World.setCell, Array.getElem?_modify, e2]
    have hother : ∀ k, k ≠ b → (w.setCell ⟨b, 0, none⟩ (.pointer (some ⟨b, 0, none⟩))).heap[k]? = w.heap[k]? := fun k hk => Below.heap_setCell _ _ _ _ hk
    have hκ : Le κ (growK κ w (w.setCell ⟨b, 0, none⟩ (.pointer (some ⟨b, 0, none⟩)))) (gM (nmO (encBK bldBK (l, ()))) 2) (gM (nmO (encBK bldBK (l, ()))) 2) sv sv := le_growK hf _
    refine ⟨_, rfl, .tup [] [] .nil, bx2 ?_ ?_, ⟨rfl, rfl, rfl, by simp [World.setCell], fun k hk hne => hother k (fun e => hne 0 (by omega) (e ▸ hblk))⟩⟩
    · refine ⟨b, 100, [.pointer (some ⟨b, 0, none⟩), sv (XB + 1)], e1, hb2, .cons _ _ _ _ (.mb 0 1 100 _ (Nat.le_of_eq hg0.symm) (fun _ => e1.symm) rfl) (.cons _ _ _ _ ?_ .nil), rfl, fun T0 e => by cases e; rfl⟩
      obtain ⟨b3, T3, cs3, q1, q2, q3, q4⟩ := hown 0 (by omega)
      have q1 : sv 0 = .pointer (some ⟨b3, 0, none⟩) := q1
      rw [e1] at q1; cases q1
      rw [e2] at q2
      simp only [Option.some.injEq, Obj.cells.injEq] at q2
      have q5 : cs3 = [.pointer none, sv (XB + 1)] := by
        have := congrArg Array.toList q2.1
        simpa using this.symm
      subst q5
      cases q3 with
      | cons _ _ _ _ r1 r2 => cases r2 with | cons _ _ _ _ r2 r3 => exact r2.mono hκ
    · refine owns_mono hκ rfl (fun g hgb => hother g (fun e => ?_)) (hown 1 (by omega))
      have := hinj 0 1 b (by omega) (by omega) hblk (e ▸ hgb)
      cases this
  · refine (Any.Builder_copyCheck_used layC x72 b w (by simp [World.cell?, e2])).mono ?_
    rintro e w' ⟨rfl, rfl⟩
    exact ⟨_, rfl, .tup [] [] .nil, fun i hi => owns_mono (le_growK hf w') rfl (fun _ _ => rfl) (hown i hi), FrameM.refl _ _ _⟩
section
variable {P : Program} {ρ : Ren}
theorem run_unsafeString_off (w : World) (pt it ty e : TypeId) (hp : P.underlying pt = some (.pointer e)) (hc : P.cellsOf e = 1) (g off cells : Nat) (hsh : w.shape? g = some (e, cells)) (l : List UInt8) (h0 : l ≠ []) (hn : off + l.length ≤ cells) (h63 : l.length ≤ 9223372036854775807)
    (hcell : ∀ j x, l[j]? = some x → w.cell? ((⟨g, off, none⟩ : Addr).add j) = some (.int .u8 x.toNat)) :
    (Builtin.unsafeString_ #[pt, it] ty #[.pointer (some ⟨g, off, none⟩), .int .i64 l.length]).run P w = .ok (.string ⟨l.toArray⟩) (w.freeze ⟨g, off, none⟩ l.length) := by
  have hl : l.length ≠ 0 := by simpa using h0
  have hlb := Lib.run_loadBytes (P := P) w l ⟨g, off, none⟩ .empty hcell
  have hlies : liesAt P P.depth e (cells / P.cellsOf e) off e l.length = true := by
    have hd : P.depth = (2 * (P.types.size + Made.depth) + 1) + 1 := rfl
    rw [hd]
    simp only [liesAt, Bool.or_eq_true]
    left
    rw [hd]
    simp [rowAt, hc, hn, sameLayout]
    try omega
  have h63' : ¬ (9223372036854775807 : Int) < (l.length : Int) := by omega
  have hdef : Builtin.unsafeString_ #[pt, it] ty #[.pointer (some ⟨g, off, none⟩), .int .i64 l.length] =
      (do
        let n ← asInt (.int .i64 l.length)
        if n < 0 then runtimePanic (.error "unsafe.String: len out of range")
        if n > IntKind.i64.max then unsupported (.unsafePointer "String: a length above the largest int")
        if n = 0 then pure (.string .empty)
        else if ← variablesAt ⟨g, off, none⟩ (← elemOf pt) n.toNat then do
          let s ← loadBytes ⟨g, off, none⟩ .empty n.toNat
          freeze ⟨g, off, none⟩ n.toNat
          pure (.string s)
        else unsupported (.unsafePointer "String: not so many bytes at ptr")) := rfl
  rw [hdef]
  have hmax : IntKind.i64.max = 9223372036854775807 := rfl
  have hneg : ¬ (l.length : Int) < 0 := by omega
  simp [asInt, asIntOf, hmax, h63', hneg, hl, variablesAt, hsh, elemOf, run_underlying hp, hlies, hlb]
set_option maxHeartbeats 2000000 in
theorem str_run (L : Lays.n169 P ρ) (X : Builder.Extra P ρ) (b : Nat) (a : Option Addr) (n cap : Nat) (q : Value) (w w1 w2 : World) (s : ByteArray) (c1 : w.drew.cell? ⟨b, 1, none⟩ = some (.slice a n cap)) (c2 : w1.cell? ⟨b, 1, none⟩ = some (.slice a n cap))
    (hSD : (Builtin.unsafeSliceData_ #[(ρ.t 37)] (ρ.t 127) #[.slice a n cap]).run P w.drew = .ok q w1) (hUS : (Builtin.unsafeString_ #[(ρ.t 127), (ρ.t 3)] (ρ.t 9) #[q, .int .i64 n]).run P w1 = .ok (.string s) w2) :
    Calls P (ρ.f 169) #[.pointer (some ⟨b, 0, none⟩)] w fun e w' => e = .returned (.string s) ∧ w' = w2 := by
  have mixed := L.mixed
  have t72 := L.t72; have a72 := L.a72; have z72 := L.z72; have v72 := L.v72; have u72 := run_underlying L.t72
  have t70 := L.t70; have a70 := L.a70; have z70 := L.z70; have v70 := L.v70; have u70 := run_underlying L.t70
  have t37 := L.t37; have a37 := L.a37; have z37 := L.z37; have v37 := L.v37; have u37 := run_underlying L.t37
  have t127 := L.t127; have a127 := L.a127; have z127 := L.z127; have v127 := L.v127; have u127 := run_underlying L.t127
  have t3 := L.t3; have a3 := L.a3; have z3 := L.z3; have v3 := L.v3; have u3 := run_underlying L.t3
  have t9 := L.t9; have a9 := L.a9; have z9 := L.z9; have v9 := L.v9; have u9 := run_underlying L.t9
  have t5 := X.t5; have a5 := X.a5; have z5 := X.z5; have v5 := X.v5; have u5 := run_underlying X.t5
  go_enter L.f169, Body.n169_ntmps ρ
  go_wp2
  go_region_o
  all_goals (go_wp2; go_ret; exact ⟨rfl, rfl⟩)
theorem str_us (L : Lays.n169 P ρ) (X : Builder.Extra P ρ) (w : World) (g off cap n : Nat) (cur : Array Value) (l : List UInt8) (hl : l.length = n) (p3 : w.heap[g]? = some (.cells cur (ρ.t 5) (0, 0))) (p4 : n ≤ cap) (p5 : cap ≤ maxLen) (p6 : off + cap ≤ cur.size) (hn : n ≠ 0)
    (hc : ∀ j x, l[j]? = some x → w.cell? ((⟨g, off, none⟩ : Addr).add j) = some (.int .u8 x.toNat)) :
    (Builtin.unsafeString_ #[(ρ.t 127), (ρ.t 3)] (ρ.t 9) #[.pointer (some ⟨g, off, none⟩), .int .i64 n]).run P w.drew = .ok (.string ⟨l.toArray⟩) (w.drew.freeze ⟨g, off, none⟩ n) := by
  subst hl
  have hsh : w.drew.shape? g = some (ρ.t 5, cur.size) := by
    have p3' : w.drew.heap[g]? = some (.cells cur (ρ.t 5) (0, 0)) := p3
    simp [World.shape?, p3']
  refine run_unsafeString_off w.drew _ _ _ (ρ.t 5) L.t127 X.cellsByte g off cur.size hsh l (fun e => hn (by rw [e]; rfl)) (Nat.le_trans (Nat.add_le_add_left p4 _) p6) ?_ hc
  have : (maxLen : Nat) ≤ 9223372036854775807 := by decide
  exact Nat.le_trans p4 (Nat.le_trans p5 this)
end
theorem xtra : Builder.Extra Tryd.prog rn := { x72 with t5 := Tryd.underlying5, a5 := Tryd.isAgg5, z5 := Tryd.sizeOf5, v5 := Tryd.zeroValue5, infoByte := by kernel_rfl, cellsByte := by kernel_rfl, sizeByte := by kernel_rfl, neB5 := by decide }
def okBy (l : List Int) : Bool := l.all fun n => decide (0 ≤ n) && decide (n < 256)
def byL (l : List Int) : List UInt8 := l.map fun n => UInt8.ofNat n.toNat
def bytesV (l : List Int) : ByteArray := ⟨(byL l).toArray⟩
theorem byL_eq {l : List Int} (h : okBy l = true) : l.map (Value.int .u8) = (byL l).map fun x => Value.int .u8 (x.toNat : Int) := by
  unfold byL
  rw [List.map_map]
  refine List.map_congr_left fun n hn => ?_
  have h1 := List.all_eq_true.1 h n hn
  simp only [Bool.and_eq_true, decide_eq_true_eq] at h1
  show Value.int .u8 n = Value.int .u8 (((UInt8.ofNat n.toNat).toNat : Nat) : Int)
  congr 1
  rw [UInt8.toNat_ofNat', Nat.mod_eq_of_lt (by omega)]
  omega
def goneF (F : Nat → Ab.Own) : Nat → Ab.Own := upO [1] [.none] F
theorem str_fin {w w' : World} {κ : Nat → Nat → Option Value} {sv : Nat → Value} {l : List Int} {b : Nat} (hf : Fits κ w)
    (hown : ∀ i, i < 2 → Owns 0 κ (gM (nmO (encBK bldBK (l, ()))) 2) sv w (nmO (encBK bldBK (l, ())) i) (owF (encBK bldBK (l, ())) i))
    (hblk : blk (owF (encBK bldBK (l, ())) 0) (sv (nmO (encBK bldBK (l, ())) 0)) = some b) (hne : blk (owF (encBK bldBK (l, ())) 1) (sv (XB + 1)) ≠ some b)
    (h1 : w'.os = w.os) (h2 : w'.tape = w.tape) (h3 : w'.output = w.output) (h4 : w.heap.size ≤ w'.heap.size) (h5 : ∀ k, k < w.heap.size → blk (owF (encBK bldBK (l, ())) 1) (sv (XB + 1)) ≠ some k → w'.heap[k]? = w.heap[k]?) :
    (∀ i, i < 2 → Owns 0 (growK κ w w') (gM (nmO (encBK bldBK (l, ()))) 2) sv w' (nmO (encBK bldBK (l, ())) i) (goneF (owF (encBK bldBK (l, ()))) i)) ∧
      FrameM 2 (fun i => blk (owF (encBK bldBK (l, ())) i) (sv (nmO (encBK bldBK (l, ())) i))) w w' := by
  refine ⟨bx2 ?_ trivial, ⟨h1, h2, h3, h4, fun k hk hn => h5 k hk (hn 1 (by omega))⟩⟩
  refine owns_mono (le_growK hf w') rfl (fun g hg => ?_) (hown 0 (by omega))
  have hg : blk (owF (encBK bldBK (l, ())) 0) (sv (nmO (encBK bldBK (l, ())) 0)) = some g := hg
  rw [hblk] at hg
  cases hg
  exact h5 b (owns_lt (hown 0 (by omega)) hblk) hne
theorem drew_alloc (w : World) (o : Obj) : w.heap.size ≤ (w.drew.alloc o).heap.size ∧ (w.drew.alloc o).os = w.os ∧ (w.drew.alloc o).tape = w.tape ∧ (w.drew.alloc o).output = w.output ∧ ∀ k, k < w.heap.size → (w.drew.alloc o).heap[k]? = w.heap[k]? :=
  ⟨by show w.drew.heap.size ≤ _; simp, rfl, rfl, rfl, fun k hk => Lib.alloc_old w.drew _ k hk⟩
theorem freeze_other (w : World) (p : Addr) (n k : Nat) (hk : k ≠ p.block) : (w.freeze p n).heap[k]? = w.heap[k]? := by
  unfold World.freeze
  split
  · rfl
  · simp only [Array.getElem?_modify]; rw [if_neg (by omega)]
theorem freeze_size (w : World) (p : Addr) (n : Nat) : (w.freeze p n).heap.size = w.heap.size ∧ (w.freeze p n).os = w.os ∧ (w.freeze p n).tape = w.tape ∧ (w.freeze p n).output = w.output := by
  unfold World.freeze
  split
  · exact ⟨rfl, rfl, rfl, rfl⟩
  · exact ⟨by simp, rfl, rfl, rfl⟩
theorem c52 (l : List Int) (h : okBy l = true) : ContractM iseat.toSeat 52 2 (nmO (encBK bldBK (l, ()))) (owF (encBK bldBK (l, ()))) (goneF (owF (encBK bldBK (l, ())))) [.bx 0 1 0] (.str (bytesV l)) := by
  refine ⟨.pure _ (.str _), bx2 (.box _ _) (.gone _), ⟨Tryd.f52, _, Tryd.func52, rfl, by kernel_rfl⟩, fun w κ sv args hinj hf hkb hg hown hr => ?_⟩
  obtain ⟨b, v0, e1, e2, e3, e4⟩ := bld_at hown
  have hg0 : gM (nmO (encBK bldBK (l, ()))) 2 0 = 1 := gM_lt (q := nmO (encBK bldBK (l, ()))) (n := 2) (i := 0) (by omega)
  have hb : b < w.heap.size := (Array.getElem?_eq_some_iff.1 e2).1
  cases hr with
  | cons _ v1 _ vs q1 q2 =>
  cases q2
  have hv1 : v1 = .pointer (some ⟨b, 0, none⟩) := by
    cases q1 with
    | bx _ _ _ _ _ hh _ =>
      obtain ⟨b', h3, h4⟩ := hh hg0.symm
      rw [e1] at h3; cases h3; exact h4
  subst hv1
  have hblk : blk (owF (encBK bldBK (l, ())) 0) (sv (nmO (encBK bldBK (l, ())) 0)) = some b := by
    show blk (.box _) (sv 0) = _
    rw [e1]; rfl
  have hne : blk (owF (encBK bldBK (l, ())) 1) (sv (XB + 1)) ≠ some b := fun e => by
    have := hinj 0 1 b (by omega) (by omega) hblk e
    cases this
  generalize hv : sv (XB + 1) = v at e2 e4 hne
  rw [← hv] at hne
  have c1 : ∀ W : World, W.heap[b]? = w.heap[b]? → W.cell? ⟨b, 1, none⟩ = some v := fun W hW => by simp [World.cell?, hW, e2]
  rcases e4.2 with ⟨rfl, h0⟩ | ⟨g, off, cap, cur, rfl, _, p3, p4, p5, p6, p7⟩
  · have hl : l = [] := List.eq_nil_of_length_eq_zero h0
    subst hl
    refine (str_run layG xtra b none 0 0 (.pointer none) w w.drew w.drew ⟨#[]⟩ (c1 _ rfl) (c1 _ rfl) rfl (Any.unsafeString_none layG xtra _ _)).mono ?_
    rintro e w' ⟨rfl, rfl⟩
    obtain ⟨r1, r2⟩ := str_fin (w := w) (w' := w.drew) hf hown hblk hne rfl rfl rfl (Nat.le_refl _) (fun _ _ _ => rfl)
    exact ⟨_, rfl, .str _, r1, r2⟩
  · have hbg : blk (owF (encBK bldBK (l, ())) 1) (sv (XB + 1)) = some g := by rw [hv]; rfl
    have hbne : b ≠ g := fun e => hne (e ▸ hbg)
    have hgl : g < w.heap.size := (Array.getElem?_eq_some_iff.1 p3).1
    by_cases hn : l.length = 0
    · have hl : l = [] := List.eq_nil_of_length_eq_zero hn
      subst hl
      by_cases hc : cap = 0
      · subst hc
        have hsh : w.drew.shape? g = some (5, cur.size) := by
          have p3' : w.drew.heap[g]? = some (.cells cur 5 (0, 0)) := p3
          simp [World.shape?, p3']
        refine (str_run layG xtra b (some ⟨g, off, none⟩) 0 0 (.pointer (some ⟨w.drew.heap.size, 0, none⟩)) w (w.drew.alloc (.view ⟨g, off, none⟩ 5)) _ ⟨#[]⟩ (c1 _ rfl) (c1 _ (Lib.alloc_old w.drew _ b hb)) (Lib.run_unsafeSliceData_zero w.drew _ _ 5 layG.t127 ⟨g, off, none⟩ 0 (5, cur.size) hsh) (Any.unsafeString_none layG xtra _ _)).mono ?_
        rintro e w' ⟨rfl, rfl⟩
        obtain ⟨f1, f2, f3, f4, f5⟩ := drew_alloc w (.view ⟨g, off, none⟩ 5)
        obtain ⟨r1, r2⟩ := str_fin (w := w) (w' := w.drew.alloc (.view ⟨g, off, none⟩ 5)) hf hown hblk hne f2 f3 f4 f1 (fun k hk _ => f5 k hk)
        exact ⟨_, rfl, .str _, r1, r2⟩
      · refine (str_run layG xtra b (some ⟨g, off, none⟩) 0 cap (.pointer (some ⟨g, off, none⟩)) w w.drew w.drew ⟨#[]⟩ (c1 _ rfl) (c1 _ rfl) (Lib.run_unsafeSliceData_row _ _ _ _ _ _ hc) (Any.unsafeString_none layG xtra _ _)).mono ?_
        rintro e w' ⟨rfl, rfl⟩
        obtain ⟨r1, r2⟩ := str_fin (w := w) (w' := w.drew) hf hown hblk hne rfl rfl rfl (Nat.le_refl _) (fun _ _ _ => rfl)
        exact ⟨_, rfl, .str _, r1, r2⟩
    · have hll : (byL l).length = l.length := by simp [byL]
      have hUS := str_us layG xtra w g off cap l.length cur (byL l) hll p3 p4 p5 (by rw [Nat.mul_one] at p6; exact p6) hn (fun j x hx => by
        have hown1 : ownsAt w 0 5 1 (.slice (some ⟨g, off, none⟩) l.length cap) l.length (l.map (Value.int .u8)) := e4
        have := hown1.cells j (.int .u8 x.toNat) (by rw [byL_eq h]; simp [hx])
        exact this)
      refine (str_run layG xtra b (some ⟨g, off, none⟩) l.length cap (.pointer (some ⟨g, off, none⟩)) w w.drew _ ⟨(byL l).toArray⟩ (c1 _ rfl) (c1 _ rfl) (Lib.run_unsafeSliceData_row _ _ _ _ _ _ (by omega)) hUS).mono ?_
      rintro e w' ⟨rfl, rfl⟩
      obtain ⟨f1, f2, f3, f4⟩ := freeze_size w.drew ⟨g, off, none⟩ l.length
      obtain ⟨r1, r2⟩ := str_fin (w := w) (w' := w.drew.freeze ⟨g, off, none⟩ l.length) hf hown hblk hne f2 f3 f4 (by rw [f1]; exact Nat.le_refl _) (fun k hk hkn => freeze_other w.drew _ _ k (fun e => hkn (by rw [hbg]; exact congrArg some e.symm)))
      exact ⟨_, rfl, .str _, r1, r2⟩
theorem contractM_os {Z : Seat} {f : FuncId} {n : Nat} {q : Nat → Nat} {os os1 os2 : Nat → Ab.Own} {A : List D} {R : D} (hc : ContractM Z f n q os os1 A R) (h : ∀ i, i < n → os2 i = os1 i) : ContractM Z f n q os os2 A R :=
  ⟨hc.refR, fun i hi => by rw [h i hi]; exact hc.kind i hi, hc.body, fun w κ sv args h1 h2 h3 h4 h5 h6 => (hc.calls w κ sv args h1 h2 h3 h4 h5 h6).mono (by
    rintro e w' ⟨v, q1, q2, q3, q4⟩
    exact ⟨v, q1, q2, fun i hi => by rw [h i hi]; exact q3 i hi, q4⟩)⟩
def itoaP (n : Int) : Option ByteArray := chk (okI n) (some (itoaV n))
noncomputable def sp51 : FnSpec iseat.toSeat := mkSpec iseat.toSeat 51 [.int .i64] [.str] true (fun a => itoaP a.1) (fun a x hx h h' => by
  obtain ⟨n, u⟩ := a
  obtain ⟨hk, hx⟩ := chk_some hx
  cases hx
  exact c51 n hk) (fun _ x => rfl)
noncomputable def sp58 : FnSpecM iseat.toSeat := mkSpecM iseat.toSeat 58 bldBK [.p 0] [] [] [0] (fun x _ => some (x, ())) (fun x a y z hx => by
  obtain ⟨l, u⟩ := x
  cases u
  cases hx
  exact contractM_os (c58 l) (fun i hi => match i, hi with | 0, _ => rfl | 1, _ => rfl))
def decBld : List IOwn → Option (List Int)
  | [.box [c, .os s g], .arr E t m] => bif zEq 100 0 c && Nat.beq s (XB + 1) && Nat.beq g 1 && Nat.beq E 5 then asL (.int .u8) t m else none
  | _ => none
theorem dec_bld {ls : List IOwn} {l : List Int} (h : decBld ls = some l) : ls = encBK bldBK (l, ()) := by
  unfold decBld at h
  split at h
  · rename_i c s g E t m
    cases hc : zEq 100 0 c && Nat.beq s (XB + 1) && Nat.beq g 1 && Nat.beq E 5 with
    | false => rw [hc] at h; cases h
    | true =>
      rw [hc] at h
      simp only [Bool.and_eq_true] at hc
      have e2 := Nat.eq_of_beq_eq_true hc.1.1.2
      have e3 := Nat.eq_of_beq_eq_true hc.1.2
      have e4 := Nat.eq_of_beq_eq_true hc.2
      subst e2 e3 e4
      have e5 := zEq_ok (j := 1) hc.1.1.1
      have h : asL (.int .u8) t m = some l := h
      unfold asL at h
      split at h
      · rename_i e
        subst e
        simp only [Option.some.injEq] at h
        subst h
        rw [e5]
        rfl
      · cases h
  · cases h
noncomputable def sp52 : FnSpecM iseat.toSeat where
  f := 52
  ka := []
  kb := [0]
  wr := [1]
  mv := []
  app := fun ls A k => match decBld ls, decAK [.p 0] A with
    | some l, some _ => chk (okBy l) (k [.none] (.str (bytesV l)))
    | _, _ => none
  ok := fun ls A k r h => by
    split at h
    · rename_i l a hl ha
      obtain ⟨h0, h⟩ := chk_some h
      rw [dec_bld hl]
      refine ⟨_, _, h, ?_⟩
      have hc := c52 l h0
      exact ContractM.toN ⟨hc.refR, hc.kind, hc.body, fun w κ sv args h1 h2 h3 h4 h5 h6 => hc.calls w κ sv args h1 h2 h3 h4 h5 (decAK_rep ha h6)⟩
    · cases h
def okTrim (s cs : ByteArray) : Bool := decide (s.size ≤ 9223372036854775807) && decide (cs.size < 4294967281) && cs.data.toList.all (fun b => decide (b.toNat < 128))
def trimV (s cs : ByteArray) : ByteArray := ⟨(Lib.trimS s.data.toList cs.data.toList).toArray⟩
def trim : ByteArray → ByteArray → Option ByteArray := fun s cs => chk (okTrim s cs) (some (trimV s cs))
theorem trim_eq (s cs : ByteArray) : trim s cs = chk (okTrim s cs) (some (trimV s cs)) := rfl
theorem c19 (s cs : ByteArray) (h : okTrim s cs = true) : Contract iseat.toSeat 19 [.str s, .str cs] (.str (trimV s cs)) := by
  simp only [okTrim, Bool.and_eq_true, decide_eq_true_eq] at h
  refine ⟨PureL.cons (.str _) (PureL.cons (.str _) PureL.nil), .str _, ⟨Tryd.f19, _, Tryd.func19, rfl, by kernel_rfl⟩, fun w κ args _ _ hr => ?_⟩
  cases hr with
  | cons _ v1 _ vs h1 h2 =>
  cases h1
  cases h2 with
  | cons _ v2 _ vs h3 h4 =>
  cases h3
  cases h4
  have hcon := Any.strings_Trim_laid layT (by kernel_rfl) s cs w h.1.1 h.1.2 (ascii_of_all h.2)
  exact hcon.mono (fun e w' ⟨h1, h2⟩ => ⟨_, h1, .str _, h2⟩)
noncomputable def sp19 : FnSpec iseat.toSeat := mkSpec iseat.toSeat 19 [.str, .str] [.str] true (fun a => trim a.1 a.2.1) (fun a x hx h h' => by
  obtain ⟨s, cs, u⟩ := a
  simp only [trim_eq] at hx
  obtain ⟨hk, hx⟩ := chk_some hx
  simp only [Option.some.injEq] at hx
  subst hx
  exact c19 s cs hk) (fun _ x => rfl)
end Go.Proofs.Crew
namespace Go.Ab
open Go Go.RowKit
noncomputable section
set_option linter.all false
section
variable {Z : Seat}
def isFn (g : Nat) : Option I → Bool
  | some (.mf f _) => Nat.beq f g
  | some (.fn f _) => Nat.beq f g
  | some (.rp [.mf f _] _) => Nat.beq f g
  | some (.rp [.fn f _] _) => Nat.beq f g
  | _ => false
def altSpec (i g : Nat) (f : FuncId) (sc : Bool) (s1 s2 : FnSpec Z) (hf1 : s1.f = f) (hf2 : s2.f = f) (hs1 : s1.sc = sc) (hs2 : s2.sc = sc) : FnSpec Z := ⟨f, sc, fun A k => bif isFn g (nth A i) then s1.app A k else s2.app A k, fun A k r h => by
  cases hb : isFn g (nth A i) with
  | true =>
    rw [hb] at h
    obtain ⟨d, h1, h2⟩ := s1.ok A k r h
    exact ⟨d, h1, fun h => by rw [← hf1, ← hs1]; exact h2 h⟩
  | false =>
    rw [hb] at h
    obtain ⟨d, h1, h2⟩ := s2.ok A k r h
    exact ⟨d, h1, fun h => by rw [← hf2, ← hs2]; exact h2 h⟩⟩
def altIt (i g : Nat) (f : FuncId) (L : List T) (s1 s2 : ItSpec Z) (hf1 : s1.f = f) (hf2 : s2.f = f) (hs1 : s1.its = L) (hs2 : s2.its = L) : ItSpec Z := ⟨f, L, fun cap k => bif isFn g (nth cap i) then s1.app cap (fun items => k (hs1 ▸ items)) else s2.app cap (fun items => k (hs2 ▸ items)), fun cap k r h => by
  cases hb : isFn g (nth cap i) with
  | true =>
    rw [hb] at h
    obtain ⟨f1, its1, app1, ok1⟩ := s1
    simp only at hf1 hs1
    subst hf1 hs1
    exact ok1 cap k r h
  | false =>
    rw [hb] at h
    obtain ⟨f2, its2, app2, ok2⟩ := s2
    simp only at hf2 hs2
    subst hf2 hs2
    exact ok2 cap k r h⟩
end
section
variable {Z : ISeat}
def finC2 (Z : ISeat) (nt : Nat) (rv : List ResultVar) (g : FuncId) (ct ct2 : T) (S : IS) : Option (den ct × den ct2) := match rv with
  | [.tmp t] => bif Nat.ble (t + 1) nt then (match S.get t with
    | .fn f [.bx s g' 0, .bx s2 g2 0] => bif Nat.beq f g && Nat.beq g' (S.gen s) && Nat.beq g2 (S.gen s2) && !(Nat.beq s2 s) then (match S.own s with
      | .box l => (match S.own s2 with
        | .box l2 => bif noNil l && noNil l2 then (decC ct l).bind fun a => (decC ct2 l2).bind fun b => some (a, b) else none
        | _ => none)
      | _ => none) else none
    | _ => none) else none
  | _ => none
theorem finC2_ok {X : Ctx} {nt : Nat} (hX : At X Z nt) (hx0 : X.ext = none ∧ ∀ b, ¬ X.ex b) {rv : List ResultVar} {g : FuncId} {ct ct2 : T} {S : IS} {x : den ct × den ct2} {h h' : Nat → Nat} (hr : finC2 Z nt rv g ct ct2 S = some x) :
    ∃ S' ds, Wk X (S.toSt h) S' ∧ ResL X S' rv ds ∧ ∀ κ γ sv v, Rep κ γ sv (tupOf ds) v → Rep κ γ sv ((encR [.clo2 g ct ct2] x).toD h') v := by
  unfold finC2 at hr
  split at hr
  · rename_i t
    cases hb0 : Nat.ble (t + 1) nt with
    | false => rw [hb0] at hr; cases hr
    | true =>
    rw [hb0] at hr
    simp only [cond_true] at hr
    split at hr
    · rename_i f s g' s2 g2 hg
      cases hb : Nat.beq f g && Nat.beq g' (S.gen s) && Nat.beq g2 (S.gen s2) && !(Nat.beq s2 s) with
      | false => rw [hb] at hr; cases hr
      | true =>
        rw [hb] at hr
        simp only [Bool.and_eq_true, Bool.not_eq_true'] at hb
        obtain ⟨⟨⟨e1, e2⟩, e3⟩, e4⟩ := hb
        have e1 := Nat.eq_of_beq_eq_true e1
        have e2 := Nat.eq_of_beq_eq_true e2
        have e3 := Nat.eq_of_beq_eq_true e3
        have hne : s2 ≠ s := fun e => by rw [e] at e4; simp at e4
        simp only [cond_true] at hr
        split at hr
        · rename_i l hσ
          split at hr
          · rename_i l2 hσ2
            cases hn : noNil l && noNil l2 with
            | false => rw [hn] at hr; cases hr
            | true =>
              rw [hn] at hr
              simp only [Bool.and_eq_true] at hn
              simp only [cond_true] at hr
              cases ha : decC ct l with
              | none => rw [ha] at hr; cases hr
              | some xa =>
              cases hb2 : decC ct2 l2 with
              | none => rw [ha, hb2] at hr; cases hr
              | some xb =>
              rw [ha, hb2] at hr
              simp only [Option.bind_some, Option.some.injEq] at hr
              subst hr
              have hl := noNil_eq (decC_ok ct ha) hn.1
              have hl2 := noNil_eq (decC_ok ct2 hb2) hn.2
              have h1 : (S.toSt h).ρ t = .fn f [.bx s (h s + g') 0, .bx s2 (h s2 + g2) 0] := by
                show (S.get t).toD h = _
                rw [hg]; rfl
              have h2 : (S.toSt h).σ s = .box (I.toDL h l) := by
                show (S.own s).toOwn h = _
                rw [hσ]; rfl
              have h3 : (S.toSt h).σ s2 = .box (I.toDL h l2) := by
                show (S.own s2).toOwn h = _
                rw [hσ2]; rfl
              have hw := wk_freeze_cap (X := X) (S := S.toSt h) t 0 hx0 h1 rfl (show (S.toSt h).γ s = h s + g' from by show h s + S.gen s = _; rw [e2]) h2 (c' := [.rp (I.toDL h l) 0, .bx s2 (h s2 + g2) 0]) rfl
              have hw2 := wk_freeze_cap (X := X) (S := ⟨upd (S.toSt h).ρ t (.fn f [.rp (I.toDL h l) 0, .bx s2 (h s2 + g2) 0]), (S.toSt h).γ, upd (S.toSt h).σ s .none⟩) t 1 (s := s2) (g := h s2 + g2) (o := 0) (f := f) (c := [.rp (I.toDL h l) 0, .bx s2 (h s2 + g2) 0]) (l := I.toDL h l2) hx0 (upd_same _ _ _) rfl
                (show (S.toSt h).γ s2 = h s2 + g2 from by show h s2 + S.gen s2 = _; rw [e3]) ((upd_ne _ _ _ _ hne).trans h3) (c' := [.rp (I.toDL h l) 0, .rp (I.toDL h l2) 0]) rfl
              refine ⟨_, [.fn f [.rp (I.toDL h l) 0, .rp (I.toDL h l2) 0]], hw.trans hw2, ⟨?_, trivial⟩, fun κ γ sv v hv => ?_⟩
              · have hlt : Nat.blt t X.nt = true := by rw [hX.nt]; exact hb0
                show (bif Nat.blt t X.nt then upd (upd (S.toSt h).ρ t (D.fn f [.rp (I.toDL h l) 0, .bx s2 (h s2 + g2) 0])) t (D.fn f [.rp (I.toDL h l) 0, .rp (I.toDL h l2) 0]) t else D.undef) = _
                rw [hlt, upd_same]; rfl
              · rw [hl, hl2, toDL_enc, toDL_enc, e1] at hv
                show Rep κ γ sv (.fn g [.rp (I.toDL h' (encC ct xa)) 0, .rp (I.toDL h' (encC ct2 xb)) 0]) v
                rw [toDL_enc, toDL_enc]; exact hv
          · cases hr
        · cases hr
    · cases hr
  · cases hr
def fnRunC2 (g : FuncId) (ct ct2 : T) (it : It (den ct × den ct2)) (E : FEnv Z) (c : Code) (rv : List ResultVar) (A : List I) : Option (den ct × den ct2) :=
  runC it E c ⟨[], []⟩ (initS A) (finC2 Z E.nt rv g ct ct2) (fun e S => match e with | none => finC2 Z E.nt rv g ct ct2 S | some _ => none)
theorem fn_contractC2 {ats : List T} {g : FuncId} {ct ct2 : T} {E : FEnv Z} {f : FuncId} {fn : Func} {c : Code} (hf : Z.P.funcs[f]? = some fn) (hb : fn.body = some c) (hname : (fn.name == "runtime.NumGoroutine") = false) (hn : Nat.beq fn.ntmps E.nt = true) (hl : Nat.ble ats.length fn.ntmps = true) (hp : E.pin = [])
    {a : argD ats} {x : den ct × den ct2} (hr : fnRunC2 g ct ct2 itN E c fn.results.toList (encA ats a) = some x) (h h' : Nat → Nat) : Contract Z.toSeat f (I.toDL h (encA ats a)) ((encR [.clo2 g ct ct2] x).toD h') := by
  rw [encA_h' h zh]
  refine contract_introN hf hb hname (by rw [toDL_len, encA_len]; exact hl) (encA_pure _ _ _) (encR_pure _ _ _) fun w κ => ?_
  have hX : At (Ctx.plain Z.toSeat fn.ntmps w κ none) Z E.nt := At.pl rfl (Nat.eq_of_beq_eq_true hn) (fun _ => rfl)
  rw [← toSt_init]
  refine W_mono (run_ok c hX (fun _ => ⟨_, _, _, _, _, rfl⟩) (g0 := zh) ⟨[], []⟩ rfl _ _ _ zh ⟨(fun g hg => by rw [hp] at hg; cases hg), ⟨(fun p hp => (nomatch hp)), (fun p hp => (nomatch hp))⟩⟩ hr) ?_
  rintro e T ⟨h2, S, rfl, _, hq⟩
  cases e with
  | normal => exact finC2_ok hX ⟨rfl, fun _ h => h⟩ hq
  | ret => exact finC2_ok hX ⟨rfl, fun _ h => h⟩ hq
  | exit i => cases hq
  | _ => exact hq.elim
end
end
end Go.Ab
namespace Go.Ab
open Go Go.RowKit
noncomputable section
set_option linter.all false
set_option maxHeartbeats 1000000
section
variable {X : Ctx} {Z : ISeat}
end
end
end Go.Ab
namespace Go.Ab
open Go Go.RowKit
noncomputable section
set_option linter.all false
set_option maxHeartbeats 1000000
section
variable {X : Ctx} {Z : ISeat}
abbrev Mask := List (Option (Nat × T))
def rowM (S : IS) : Mask → List I → Option (List I × List Nat)
  | none :: ms, c :: cs => (match rowM S ms cs with | some p => some (c :: p.1, p.2) | none => none)
  | some q :: ms, .os s g :: cs => live S s g (match S.own s with
    | .arr E e l => bif Nat.beq E q.1 then (match asL q.2 e l with
      | some m => (match rowM S ms cs with | some p => some (.sl q.2 m :: p.1, s :: p.2) | none => none)
      | none => none) else none
    | _ => none)
  | [], [] => some ([], [])
  | _, _ => none
def tmM : Mask → List I → Nat → Option (List OwT × List I)
  | none :: ms, c :: cs, i => (match tmM ms cs i with | some p => some (p.1, c :: p.2) | none => none)
  | some q :: ms, .sl e l :: cs, i => (match asL q.2 e l with
    | some m => (match tmM ms cs (i + 1) with | some p => some (⟨q.1, q.2, m⟩ :: p.1, .os i 1 :: p.2) | none => none)
    | none => none)
  | [], [], _ => some ([], [])
  | _, _, _ => none
theorem rowM_ok {S : IS} {h : Nat → Nat} : ∀ {ms : Mask} {c row : List I} {ss : List Nat} (i0 : Nat), rowM S ms c = some (row, ss) →
    ∃ os k, tmM ms row i0 = some (os, k) ∧ os.length = ss.length ∧ (∀ i, i < os.length → (S.toSt h).σ (atP ss i) = (nthO os i).owA.own) ∧
      (∀ f : Nat → Nat × Nat, (∀ i, i < os.length → f (i0 + i) = (atP ss i, S.gen (atP ss i))) → (∀ d ∈ row, renIM f d = d) → renILM f k = c)
  | [], [], row, ss, i0, hr => by simp only [rowM, Option.some.injEq, Prod.mk.injEq] at hr; obtain ⟨rfl, rfl⟩ := hr; exact ⟨[], [], rfl, rfl, fun i hi => by simp at hi, fun f _ _ => rfl⟩
  | none :: ms, c :: cs, row, ss, i0, hr => by
    simp only [rowM] at hr
    split at hr
    · rename_i p hp
      simp only [Option.some.injEq, Prod.mk.injEq] at hr
      obtain ⟨rfl, rfl⟩ := hr
      obtain ⟨os, k, h1, h2, h3, h4⟩ := rowM_ok i0 (show rowM S ms cs = some (p.1, p.2) from hp)
      refine ⟨os, c :: k, by simp only [tmM, h1], h2, h3, fun f hf hd => ?_⟩
      simp only [renILM, h4 f hf fun d hd' => hd d (List.mem_cons_of_mem _ hd'), hd c (List.mem_cons_self ..)]
    · cases hr
  | some q :: ms, .os s g :: cs, row, ss, i0, hr => by
    simp only [rowM] at hr
    replace hr := live_ok hr
    obtain ⟨rfl, hr⟩ := hr
    split at hr
    · rename_i E e l hσ
      cases hE : Nat.beq E q.1 with
      | false => rw [hE] at hr; cases hr
      | true =>
        rw [hE] at hr
        have hE := Nat.eq_of_beq_eq_true hE
        subst hE
        simp only [cond_true] at hr
        split at hr
        · rename_i m hm
          split at hr
          · rename_i p hp
            simp only [Option.some.injEq, Prod.mk.injEq] at hr
            obtain ⟨rfl, rfl⟩ := hr
            obtain ⟨os, k, h1, h2, h3, h4⟩ := rowM_ok (i0 + 1) (show rowM S ms cs = some (p.1, p.2) from hp)
            have hσ' : S.own s = .arr q.1 q.2 m := by
              rw [hσ]
              unfold asL at hm
              split at hm
              · rename_i e'; subst e'; simp only [Option.some.injEq] at hm; subst hm; rfl
              · cases hm
            have ha : asL q.2 q.2 m = some m := by simp [asL]
            refine ⟨⟨q.1, q.2, m⟩ :: os, .os i0 1 :: k, by simp only [tmM, ha, h1], by simp [h2], fun i hi => ?_, fun f hf hd => ?_⟩
            · cases i with
              | zero => show (S.own s).toOwn h = _; rw [hσ']; rfl
              | succ i => exact h3 i (by simpa using hi)
            · have hf0 := hf 0 (by simp)
              simp only [renILM, renIM]
              rw [h4 f (fun i hi => by have := hf (i + 1) (by simp; exact hi); rw [← Nat.add_assoc, Nat.add_right_comm] at this; exact this) fun d hd' => hd d (List.mem_cons_of_mem _ hd')]
              simp only [Nat.add_zero] at hf0
              rw [hf0]; rfl
          · cases hr
        · cases hr
    · cases hr
  | [], _ :: _, _, _, _, hr => by simp [rowM] at hr
  | _ :: _, [], _, _, _, hr => by simp [rowM] at hr
  | some _ :: _, .int _ _ :: _, _, _, _, hr => by simp [rowM] at hr
  | some _ :: _, .bool _ :: _, _, _, _, hr => by simp [rowM] at hr
  | some _ :: _, .str _ :: _, _, _, _, hr => by simp [rowM] at hr
  | some _ :: _, .agg _ :: _, _, _, _, hr => by simp [rowM] at hr
  | some _ :: _, .tup _ :: _, _, _, _, hr => by simp [rowM] at hr
  | some _ :: _, .sl _ _ :: _, _, _, _, hr => by simp [rowM] at hr
  | some _ :: _, .nil :: _, _, _, _, hr => by simp [rowM] at hr
  | some _ :: _, .rp _ _ :: _, _, _, _, hr => by simp [rowM] at hr
  | some _ :: _, .bx _ _ _ :: _, _, _, _, hr => by simp [rowM] at hr
  | some _ :: _, .op _ _ _ _ _ :: _, _, _, _, hr => by simp [rowM] at hr
  | some _ :: _, .ow _ _ _ _ _ :: _, _, _, _, hr => by simp [rowM] at hr
  | some _ :: _, .fn _ _ :: _, _, _, _, hr => by simp [rowM] at hr
  | some _ :: _, .yl _ :: _, _, _, _, hr => by simp [rowM] at hr
  | some _ :: _, .mf _ _ :: _, _, _, _, hr => by simp [rowM] at hr
  | some _ :: _, .one :: _, _, _, _, hr => by simp [rowM] at hr
  | some _ :: _, .undef :: _, _, _, _, hr => by simp [rowM] at hr
theorem tmM_mem : ∀ {ms : Mask} {row : List I} {i0 : Nat} {os : List OwT} {k : List I}, tmM ms row i0 = some (os, k) → ∀ d ∈ k, d ∈ row ∨ ∃ i, i0 ≤ i ∧ i < i0 + os.length ∧ d = .os i 1
  | [], [], i0, os, k, h => by simp only [tmM, Option.some.injEq, Prod.mk.injEq] at h; obtain ⟨rfl, rfl⟩ := h; intro d hd; cases hd
  | none :: ms, c :: cs, i0, os, k, h => by
    simp only [tmM] at h
    split at h
    · rename_i p hp
      simp only [Option.some.injEq, Prod.mk.injEq] at h
      obtain ⟨rfl, rfl⟩ := h
      intro d hd
      rcases List.mem_cons.1 hd with rfl | hd
      · exact .inl (List.mem_cons_self ..)
      · exact (tmM_mem (show tmM ms cs i0 = some (p.1, p.2) from hp) d hd).imp (List.mem_cons_of_mem _) id
    · cases h
  | some q :: ms, .sl e l :: cs, i0, os, k, h => by
    simp only [tmM] at h
    split at h
    · split at h
      · rename_i p hp
        simp only [Option.some.injEq, Prod.mk.injEq] at h
        obtain ⟨rfl, rfl⟩ := h
        intro d hd
        rcases List.mem_cons.1 hd with rfl | hd
        · exact .inr ⟨i0, Nat.le_refl _, by simp, rfl⟩
        · rcases tmM_mem (show tmM ms cs (i0 + 1) = some (p.1, p.2) from hp) d hd with h1 | ⟨i, h1, h2, h3⟩
          · exact .inl (List.mem_cons_of_mem _ h1)
          · exact .inr ⟨i, by omega, by simp; omega, h3⟩
      · cases h
    · cases h
  | [], _ :: _, _, _, _, h => by simp [tmM] at h
  | _ :: _, [], _, _, _, h => by simp [tmM] at h
  | some _ :: _, .int _ _ :: _, _, _, _, h => by simp [tmM] at h
  | some _ :: _, .bool _ :: _, _, _, _, h => by simp [tmM] at h
  | some _ :: _, .str _ :: _, _, _, _, h => by simp [tmM] at h
  | some _ :: _, .agg _ :: _, _, _, _, h => by simp [tmM] at h
  | some _ :: _, .tup _ :: _, _, _, _, h => by simp [tmM] at h
  | some _ :: _, .os _ _ :: _, _, _, _, h => by simp [tmM] at h
  | some _ :: _, .nil :: _, _, _, _, h => by simp [tmM] at h
  | some _ :: _, .rp _ _ :: _, _, _, _, h => by simp [tmM] at h
  | some _ :: _, .bx _ _ _ :: _, _, _, _, h => by simp [tmM] at h
  | some _ :: _, .op _ _ _ _ _ :: _, _, _, _, h => by simp [tmM] at h
  | some _ :: _, .ow _ _ _ _ _ :: _, _, _, _, h => by simp [tmM] at h
  | some _ :: _, .fn _ _ :: _, _, _, _, h => by simp [tmM] at h
  | some _ :: _, .yl _ :: _, _, _, _, h => by simp [tmM] at h
  | some _ :: _, .mf _ _ :: _, _, _, _, h => by simp [tmM] at h
  | some _ :: _, .one :: _, _, _, _, h => by simp [tmM] at h
  | some _ :: _, .undef :: _, _, _, _, h => by simp [tmM] at h
def tmplM (rt : T) (ms : Mask) (x : den rt) : Option (List OwT × I) := match tmM ms (encC rt x) 0 with
  | some p => some (p.1, wrapC rt p.2)
  | none => none
theorem renILM_enc (f : Nat → Nat × Nat) : ∀ (t : T) (x : den t), renILM f (encC t x) = encC t x := by intro t x; cases t <;> rfl
theorem renIM_enc (f : Nat → Nat × Nat) (t : T) (x : den t) : ∀ d ∈ encC t x, renIM f d = d := by
  have h := renILM_enc f t x
  generalize encC t x = l at h ⊢
  induction l with
  | nil => intro d hd; cases hd
  | cons a l ih =>
    simp only [renILM, List.cons.injEq] at h
    intro d hd
    rcases List.mem_cons.1 hd with rfl | hd
    · exact h.1
    · exact ih h.2 d hd
theorem tm_po {rt : T} {ms : Mask} {x : den rt} {os : List OwT} {k : List I} (hk : tmM ms (encC rt x) 0 = some (os, k)) (h : Nat → Nat) : POk os.length ((wrapC rt k).toD h) := by
  have hp : ∀ d ∈ k, POk os.length (d.toD h) := fun d hd => by
    rcases tmM_mem hk d hd with hd | ⟨i, _, hi, rfl⟩
    · refine .pure _ ?_
      have := encD_pure rt x
      rw [← toDL_enc h] at this
      refine this _ ?_
      rw [toDL_map]
      exact List.mem_map_of_mem hd
    · exact .os _ _ (by omega)
  have hpl : POkL os.length (I.toDL h k) := by
    clear hk
    induction k with
    | nil => exact .nil
    | cons d k ih => exact .cons _ _ (hp d (List.mem_cons_self ..)) (ih fun y hy => hp y (List.mem_cons_of_mem _ hy))
  unfold wrapC
  cases isSt rt with
  | true => exact .agg _ hpl
  | false =>
    simp only [cond_false]
    split
    · rename_i d; exact hp d (List.mem_cons_self ..)
    · exact .pure _ .undef
theorem tm_ren {rt : T} {ms : Mask} {x : den rt} {os : List OwT} {k : List I} (hk : tmM ms (encC rt x) 0 = some (os, k)) (f : Nat → Nat × Nat) (h h' : Nat → Nat) : renM f ((wrapC rt k).toD h) = renM f ((wrapC rt k).toD h') := by
  have hm : ∀ y ∈ k, renM f (y.toD h) = renM f (y.toD h') := fun y hy => by
    have he : ∀ y ∈ encC rt x, y.toD h = y.toD h' := fun y hy => by
      have h1 : (encC rt x).map (I.toD h) = (encC rt x).map (I.toD h') := by rw [← toDL_map, ← toDL_map, toDL_enc, toDL_enc]
      exact List.map_inj_left.1 h1 y hy
    rcases tmM_mem hk y hy with hy | ⟨i, _, _, rfl⟩
    · rw [he y hy]
    · rfl
  have hl : renLM f (I.toDL h k) = renLM f (I.toDL h' k) := by
    clear hk
    induction k with
    | nil => rfl
    | cons d k ih => simp only [I.toDL, renLM, hm d (List.mem_cons_self ..), ih fun y hy => hm y (List.mem_cons_of_mem _ hy)]
  unfold wrapC
  cases isSt rt with
  | true => simp only [cond_true, I.toD, renM, hl]
  | false =>
    simp only [cond_false]
    split
    · rename_i d; exact hm d (List.mem_cons_self ..)
    · rfl
def finKOM (Z : ISeat) (nt : Nat) (rv : List ResultVar) (rt : T) (ms : Mask) (S : IS) : Option (den rt) := match resIL Z nt S rv with
  | some [d] => (match unwrap rt d with
    | some c => (match rowM S ms c with
      | some p => bif difP p.2 && noNil p.1 then decC rt p.1 else none
      | none => none)
    | none => none)
  | _ => none
theorem difP_inj : ∀ {l : List Nat}, difP l = true → ∀ {i j : Nat}, i < l.length → j < l.length → atP l i = atP l j → i = j := fun {l} hd {i j} hi hj h => by
  have a := idx_at hd hi
  have b := idx_at hd hj
  rw [h] at a
  omega
theorem finKOM_ok {nt : Nat} (hX : At X Z nt) {rv : List ResultVar} {rt : T} {ms : Mask} {S : IS} {x : den rt} {h h' : Nat → Nat} (hr : finKOM Z nt rv rt ms S = some x) :
    ∃ os d, tmplM rt ms x = some (os, d) ∧ ∃ ss : Nat → Nat, (∀ i j, i < os.length → j < os.length → ss i = ss j → i = j) ∧ (∀ i, i < os.length → (S.toSt h).σ (ss i) = (osF os i).own) ∧ ∃ ds, ResL X (S.toSt h) rv ds ∧ tupOf ds = renM (fun i => (ss i, (S.toSt h).γ (ss i))) (d.toD h') := by
  unfold finKOM at hr
  split at hr
  · rename_i d hd
    split at hr
    · rename_i c hc
      split at hr
      · rename_i p hp
        cases hb : difP p.2 && noNil p.1 with
        | false => rw [hb] at hr; cases hr
        | true =>
          rw [hb] at hr
          simp only [cond_true] at hr
          rw [Bool.and_eq_true] at hb
          have hrx := noNil_eq (decC_ok rt hr) hb.2
          obtain ⟨os, k, h1, h2, h3, h4⟩ := rowM_ok (h := h) 0 (show rowM S ms c = some (p.1, p.2) from hp)
          rw [hrx] at h1 h4
          refine ⟨os, wrapC rt k, by unfold tmplM; rw [h1], atP p.2, fun i j hi hj e => difP_inj hb.1 (by omega) (by omega) e, h3, [d.toD h], resIL_ok hX hd, ?_⟩
          show d.toD h = _
          rw [tm_ren h1 _ h' h]
          have e1 : renILM (fun i => (atP p.2 i, S.gen (atP p.2 i))) k = c := h4 _ (fun i hi => by rw [Nat.zero_add]) (renIM_enc _ rt x)
          have e2 : (wrapC rt c) = d := unwrap_ok hc
          have e3 : renIM (fun i => (atP p.2 i, S.gen (atP p.2 i))) (wrapC rt k) = wrapC rt c := by
            unfold wrapC
            cases hi : isSt rt with
            | true => simp only [cond_true, renIM, e1]
            | false =>
              simp only [cond_false]
              rw [← e1]
              match k with
              | [] => rfl
              | [a] => rfl
              | _ :: _ :: _ => rfl
          rw [← e2, ← e3, renIM_toD]
          rfl
      · cases hr
    · cases hr
  · cases hr
def fnRunOM (rt : T) (ms : Mask) (it : It (den rt)) (E : FEnv Z) (c : Code) (rv : List ResultVar) (A : List I) : Option (den rt) :=
  runC it E c ⟨[], []⟩ (initS A) (finKOM Z E.nt rv rt ms) (fun e S => match e with | none => finKOM Z E.nt rv rt ms S | some _ => none)
theorem fn_contractOM {ats : List T} {rt : T} {ms : Mask} {E : FEnv Z} {f : FuncId} {fn : Func} {c : Code} (hf : Z.P.funcs[f]? = some fn) (hb : fn.body = some c) (hname : (fn.name == "runtime.NumGoroutine") = false) (hn : Nat.beq fn.ntmps E.nt = true) (hl : Nat.ble ats.length fn.ntmps = true) (hp : E.pin = [])
    {a : argD ats} {x : den rt} (hr : fnRunOM rt ms itN E c fn.results.toList (encA ats a) = some x) {os : List OwT} {d : I} (hd : tmplM rt ms x = some (os, d)) (h : Nat → Nat) : ContractOM Z.toSeat f (I.toDL h (encA ats a)) (d.toD h) os.length (osF os) := by
  have hk : ∃ k, tmM ms (encC rt x) 0 = some (os, k) ∧ d = wrapC rt k := by
    unfold tmplM at hd
    split at hd
    · rename_i p hp
      simp only [Option.some.injEq, Prod.mk.injEq] at hd
      obtain ⟨rfl, rfl⟩ := hd
      exact ⟨_, hp, rfl⟩
    · cases hd
  obtain ⟨k, hk, hdk⟩ := hk
  subst hdk
  rw [encA_h' h zh]
  refine contractOM_intro hf hb hname (by rw [toDL_len, encA_len]; exact hl) (encA_pure _ _ _) (tm_po hk h) (fun j _ i _ => encD_pure _ _) fun w κ => ?_
  have hX : At (Ctx.plain Z.toSeat fn.ntmps w κ none) Z E.nt := At.pl rfl (Nat.eq_of_beq_eq_true hn) (fun _ => rfl)
  rw [← toSt_init]
  have fin : ∀ h2 S, finKOM Z E.nt fn.results.toList rt ms S = some x → ∃ ss : Nat → Nat, (∀ i j, i < os.length → j < os.length → ss i = ss j → i = j) ∧ (∀ i, i < os.length → (IS.toSt h2 S).σ (ss i) = (osF os i).own) ∧ ∃ ds, ResL (Ctx.plain Z.toSeat fn.ntmps w κ none) (IS.toSt h2 S) fn.results.toList ds ∧ tupOf ds = renM (fun i => (ss i, (IS.toSt h2 S).γ (ss i))) ((wrapC rt k).toD h) := fun h2 S hq => by
    obtain ⟨os', d', h3, h4⟩ := finKOM_ok hX (h := h2) (h' := h) hq
    rw [hd] at h3
    simp only [Option.some.injEq, Prod.mk.injEq] at h3
    obtain ⟨rfl, rfl⟩ := h3
    exact h4
  refine W_mono (run_ok c hX (fun _ => ⟨_, _, _, _, _, rfl⟩) (g0 := zh) ⟨[], []⟩ rfl _ _ _ zh ⟨(fun g hg => by rw [hp] at hg; cases hg), ⟨(fun p hp => (nomatch hp)), (fun p hp => (nomatch hp))⟩⟩ hr) ?_
  rintro e T ⟨h2, S, rfl, _, hq⟩
  cases e with
  | normal => exact fin h2 S hq
  | ret => exact fin h2 S hq
  | exit i => cases hq
  | _ => exact hq.elim
def mkSpecOM (Z : Seat) (f : FuncId) (ats : List T) (rt : T) (ms : Mask) (F : argD ats → Option (den rt)) (hF : ∀ a x, F a = some x → ∀ os d, tmplM rt ms x = some (os, d) → ∀ h, ContractOM Z f (I.toDL h (encA ats a)) (d.toD h) os.length (osF os)) : FnSpecOM Z where
  f := f
  app := fun A k => match decA ats A with
    | some a => (F a).bind fun x => (match tmplM rt ms x with | some y => k y.1 y.2 | none => none)
    | none => none
  ok := fun A k r h => by
    split at h
    · rename_i a ha
      cases hx : F a with
      | none => rw [hx] at h; cases h
      | some x =>
        rw [hx] at h
        simp only [Option.bind_some] at h
        split at h
        · rename_i y hy
          refine ⟨_, _, h, fun h => ?_⟩
          have hc := hF a x hx y.1 y.2 hy h
          exact ⟨decA_pure ha, hc.poR, hc.pureE, hc.body, fun w κ args hf hg hr => hc.calls w κ args hf hg (decA_rep ha hr)⟩
        · cases h
    · cases h
end
end
end Go.Ab
namespace Go.Ab
open Go Go.RowKit
noncomputable section
set_option linter.all false
set_option maxHeartbeats 1000000
section
variable {X : Ctx} {Z : ISeat}
end
end
end Go.Ab
namespace Go.Ab
open Go Go.RowKit
noncomputable section
set_option linter.all false
set_option maxHeartbeats 1000000
section
variable {R : Type} {X : Ctx} {Z : ISeat} {r : R}
end
end
end Go.Ab
