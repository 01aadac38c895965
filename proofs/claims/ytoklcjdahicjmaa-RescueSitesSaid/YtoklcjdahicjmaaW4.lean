/- Walks by computing: what each function of the program that the laws reach gives for what it gets, as plain Lean, and that it is so; without a condition but those that stand in each theorem. -/
import Derived.Test.YtoklcjdahicjmaaW1
import Derived.Test.YtoklcjdahicjmaaW2
import Derived.Test.YtoklcjdahicjmaaW3
set_option linter.all false
namespace Go.Ab
open Go Go.RowKit
set_option linter.all false
def tyChk (tab : List TRow) : List (Nat × T) → Bool
  | [] => true
  | (E, t) :: l => (match nth tab E with | some q => !(Nat.beq q.k 9) && Nat.beq q.sz (sz t) && Nat.beq q.zs.length (sz t) | none => true) && tyChk tab l
def ikChk (P : Program) : List (Nat × IntKind) → Bool
  | [] => true
  | (t, k) :: l => (match P.underlying t with | some (.int k') => decide (k' = k) | _ => false) && ikChk P l
def isBChk (P : Program) : List Nat → Bool
  | [] => true
  | t :: l => (match P.underlying t with | some .bool => true | _ => false) && isBChk P l
theorem find_mem {α : Type} : ∀ {l : List (Nat × α)} {i : Nat} {a : α}, find l i = some a → (i, a) ∈ l
  | (j, b) :: l, i, a, h => by
    simp only [find] at h
    cases hb : Nat.beq i j with
    | true => rw [hb] at h; simp at h; subst h; rw [Nat.eq_of_beq_eq_true hb]; exact List.mem_cons_self ..
    | false => rw [hb] at h; exact List.mem_cons_of_mem _ (find_mem h)
theorem tyChk_ok {tab : List TRow} : ∀ {l : List (Nat × T)}, tyChk tab l = true → ∀ p ∈ l, ∀ q, nth tab p.1 = some q → Nat.beq q.k 9 = false ∧ q.sz = sz p.2 ∧ q.zs.length = sz p.2
  | (E, t) :: l, h, p, hp, q, hq => by
    simp only [tyChk, Bool.and_eq_true] at h
    rcases List.mem_cons.1 hp with rfl | hp
    · have h1 := h.1
      simp only [hq, Bool.and_eq_true, Bool.not_eq_true'] at h1
      exact ⟨h1.1.1, Nat.eq_of_beq_eq_true h1.1.2, Nat.eq_of_beq_eq_true h1.2⟩
    · exact tyChk_ok h.2 p hp q hq
theorem ikChk_ok {P : Program} : ∀ {l : List (Nat × IntKind)}, ikChk P l = true → ∀ p ∈ l, P.underlying p.1 = some (.int p.2)
  | (t, k) :: l, h, p, hp => by
    simp only [ikChk, Bool.and_eq_true] at h
    rcases List.mem_cons.1 hp with rfl | hp
    · have h1 := h.1
      split at h1
      · rename_i k' hk; rw [hk, of_decide_eq_true h1]
      · cases h1
    · exact ikChk_ok h.2 p hp
theorem isBChk_ok {P : Program} : ∀ {l : List Nat}, isBChk P l = true → ∀ t ∈ l, P.underlying t = some .bool
  | t :: l, h, p, hp => by
    simp only [isBChk, Bool.and_eq_true] at h
    rcases List.mem_cons.1 hp with rfl | hp
    · have h1 := h.1
      split at h1
      · assumption
      · cases h1
    · exact isBChk_ok h.2 p hp
def isFChk (P : Program) : List Nat → Bool
  | [] => true
  | t :: l => (match P.underlying t with | some (.func _ _ _) => true | some (.map _ _) => true | _ => false) && isFChk P l
theorem isFChk_ok {P : Program} : ∀ {l : List Nat}, isFChk P l = true → ∀ t ∈ l, ∃ d, P.underlying t = some d ∧ aggOf P t = false
  | t :: l, h, p, hp => by
    simp only [isFChk, Bool.and_eq_true] at h
    rcases List.mem_cons.1 hp with rfl | hp
    · have h1 := h.1
      split at h1
      · rename_i hu; exact ⟨_, hu, by unfold aggOf; rw [hu]⟩
      · rename_i hu; exact ⟨_, hu, by unfold aggOf; rw [hu]⟩
      · cases h1
    · exact isFChk_ok h.2 p hp
def isSChk (P : Program) : List Nat → Bool
  | [] => true
  | t :: l => (match P.underlying t with | some .string => true | _ => false) && isSChk P l
theorem isSChk_ok {P : Program} : ∀ {l : List Nat}, isSChk P l = true → ∀ t ∈ l, P.underlying t = some .string
  | t :: l, h, p, hp => by
    simp only [isSChk, Bool.and_eq_true] at h
    rcases List.mem_cons.1 hp with rfl | hp
    · have h1 := h.1
      split at h1
      · assumption
      · cases h1
    · exact isSChk_ok h.2 p hp
def isMChk (P : Program) : List Nat → Bool
  | [] => true
  | t :: l => (match P.underlying t with
    | some (.map k e) => (match P.underlying k, P.info? e with
      | some (.int .i64), some i => (match i.zero with | some (.int .i64 n) => decide (n = 0) | _ => false)
      | _, _ => false)
    | _ => false) && isMChk P l
theorem isMChk_ok {P : Program} : ∀ {l : List Nat}, isMChk P l = true → ∀ t ∈ l, MapTy P t
  | t :: l, h, p, hp => by
    simp only [isMChk, Bool.and_eq_true] at h
    rcases List.mem_cons.1 hp with rfl | hp
    · have h1 := h.1
      split at h1
      · rename_i k e hu
        split at h1
        · rename_i i hk he
          split at h1
          · rename_i n hz
            have := of_decide_eq_true h1
            subst this
            exact ⟨k, e, i, hu, hk, he, hz⟩
          · cases h1
        · cases h1
      · cases h1
    · exact isMChk_ok h.2 p hp
noncomputable def mkISeat (Z : Seat) (gl : List (Nat × List I)) (tys : List (Nat × T)) (iks : List (Nat × IntKind)) (bs fs ss ms : List Nat) (h1 : ∀ g h, Z.glob g = (find gl g).map (I.toDL h)) (h2 : tyChk Z.tab tys = true) (h3 : ikChk Z.P iks = true) (h4 : isBChk Z.P bs = true) (h5 : isFChk Z.P fs = true) (h6 : isSChk Z.P ss = true) (h7 : isMChk Z.P ms = true) : ISeat :=
  { Z with
    gI := find gl, gI_ok := h1, ty := find tys, ik := find iks, isB := fun t => memN t bs
    ty_ok := fun E t q hE hq => tyChk_ok h2 (E, t) (find_mem hE) q hq
    ik_ok := fun t k hk => ikChk_ok h3 (t, k) (find_mem hk)
    isB_ok := fun t ht => isBChk_ok h4 t (memN_iff.1 ht), isF := fun t => memN t fs, isF_ok := fun t ht => isFChk_ok h5 t (memN_iff.1 ht), isS := fun t => memN t ss, isS_ok := fun t ht => isSChk_ok h6 t (memN_iff.1 ht), isM := fun t => memN t ms, isM_ok := fun t ht => isMChk_ok h7 t (memN_iff.1 ht) }
end Go.Ab
