/- Walks through the functions that the laws of the convoys reach: what each of them gives for what it gets (contracts), written out by a program of ours; without a condition but those that stand in each theorem. -/
import Derived.Test.YtafnhieaeejlcaaDoorCt9
import Derived.Test.YtafnhieaeejlcaaDoorAb18
set_option linter.all false
namespace Go.Proofs.YtafnhieaeejlcaaDoor
open Go Go.Ab
set_option maxRecDepth 100000
set_option maxHeartbeats 4000000
attribute [local irreducible] W WL QOp NOp thenQ blockQ FinQ FinR WG FQ Want FinW WI WIL thenI blockI
/-- Where the truck stops at last if nothing changes behind a minute. -/
def stopP (way len m : Int) : List Hold → Int
  | [] => len
  | h :: hs => if h.u > m then alongI way len h.a else stopP way len m hs
theorem stopP_end {way len m : Int} {hs : List Hold} {k : Nat} (hi : stopP way len m (hs.drop k) = stopP way len m hs) (h : ¬ k < hs.length) : len = stopP way len m hs := by
  rw [← hi, List.drop_eq_nil_of_le (by omega)]; rfl
theorem stopP_hit {way len m : Int} {hs : List Hold} {k : Nat} (hi : stopP way len m (hs.drop k) = stopP way len m hs) (h : k < hs.length) (h2 : (hs.getD k default).u > m) :
    alongI way len (hs.getD k default).a = stopP way len m hs := by
  rw [← hi, drop_getD _ _ h, stopP, if_pos h2]
theorem stopP_next {way len m : Int} {hs : List Hold} {k : Nat} (hi : stopP way len m (hs.drop k) = stopP way len m hs) (h : k < hs.length) (h1 : ¬ (hs.getD k default).u > m) :
    stopP way len m (hs.drop (k + 1)) = stopP way len m hs := by
  rw [← hi, drop_getD _ _ h, stopP, if_neg h1]

theorem c116 (t : Truck) (len m : Int) (hl : 1 ≤ len) (hl2 : len ≤ 100000) (ho : HOk len t.holds) : Contract seat 116 [.agg (encRide t len), .int .i64 m] (.int .i64 (stopP t.way len m t.holds)) := by
  refine contract_introW (fn := Tryd.f116) Tryd.func116 rfl (by kernel_rfl) rfl ?_ ?_ ?_
  · exact PureL.cons (.agg _ (pure_ride t len)) (PureL.cons (.int _ _) PureL.nil)
  · exact .int _ _
  intro w κ
  have hl8 := ho.1
  repeat' (first
    | (apply WL_q; apply Eq.refl; apply Eq.refl; (first | (apply q_mvI <;> apply Eq.refl) | (apply q_asI <;> apply Eq.refl) | (apply q_ldb <;> apply Eq.refl) | (apply q_fab <;> apply Eq.refl) | (apply q_cmp <;> apply Eq.refl) | (apply q_arith <;> (first | apply Eq.refl | omega)) | (apply q_len <;> apply Eq.refl) | (apply q_ia <;> (first | apply Eq.refl | omega)) | (apply q_ldba <;> apply Eq.refl) | (apply q_ldra <;> apply Eq.refl)))
    | apply W_seq
    | apply W_region
    | apply T_normal
    | apply WL_nil
    | apply T_exit
    | apply T_ret
    | apply B_normal
    | apply B_ret
    | apply B_exit_eq
    | apply W_skip
    | apply W_exit
    | apply W_ret
    | apply W_block
    | (apply WL_n; apply Eq.refl; (first | (apply n_boxa <;> apply Eq.refl) | (apply n_alloc <;> apply Eq.refl) | (apply n_stb <;> apply Eq.refl)))
    | (apply W_cD; apply Eq.refl; intro _; rotate_left 1; intro _; rotate_left 1))
  refine W_loopR [1, 2, 9, 10] [2] (fun k : Nat => [(11, .int .i64 k)]) (fun _ => []) (fun _ => []) (fun k => k ≤ t.holds.length ∧ stopP t.way len m (t.holds.drop k) = stopP t.way len m t.holds) (fun k => t.holds.length - k) 0 ⟨Nat.zero_le _, rfl⟩ (by refine ⟨?_, ?_, ?_⟩ <;> repeat' (first | exact trivial | apply And.intro | apply Eq.refl | (apply toI; apply Eq.refl; first | omega | assumption) | (apply toB; apply Eq.refl; repeat' (first | apply Eq.refl | apply consS | (apply consI; first | apply Eq.refl | omega | assumption))))) (fun k h hi => ?_)
  have hk := hi.1
  have hb : ∀ hk' : (k : Int) < t.holds.length, 1 ≤ (t.holds.getD (k : Int).toNat default).a ∧ (t.holds.getD (k : Int).toNat default).a ≤ len - 1 := fun h => by
    have := ho.2 k (by omega); simp only [Int.toNat_natCast]; omega
  repeat' (first
    | (apply WL_q; apply Eq.refl; apply Eq.refl; (first | (apply q_mvI <;> apply Eq.refl) | (apply q_asI <;> apply Eq.refl) | (apply q_ldb <;> apply Eq.refl) | (apply q_fab <;> apply Eq.refl) | (apply q_cmp <;> apply Eq.refl) | (apply q_arith <;> (first | apply Eq.refl | omega)) | (apply q_len <;> apply Eq.refl) | (apply q_ia <;> (first | apply Eq.refl | omega)) | (apply q_ldba <;> apply Eq.refl) | (apply q_ldra <;> apply Eq.refl)))
    | apply W_seq
    | apply W_region
    | apply T_normal
    | apply WL_nil
    | apply T_exit
    | apply T_ret
    | apply B_normal
    | apply B_ret
    | apply B_exit_eq
    | apply W_skip
    | apply W_exit
    | apply W_ret
    | apply W_block
    | (apply WL_call; apply Eq.refl; apply Eq.refl; rotate_left 1; apply Eq.refl; rotate_right 1; exact (c107 t len (t.holds.getD (k : Int).toNat default).a (by have := hb (by assumption); omega) (by have := hb (by assumption); omega) (by omega) (by omega)); apply Eq.refl)
    | (apply WL_n; apply Eq.refl; (first | (apply n_boxa <;> apply Eq.refl) | (apply n_alloc <;> apply Eq.refl) | (apply n_stb <;> apply Eq.refl)))
    | (apply W_cD; apply Eq.refl; intro _; rotate_left 1; intro _; rotate_left 1))
  all_goals try simp only [Int.toNat_natCast] at *
  all_goals first
    | (((try apply fin_now); first | (apply fin_I; apply Eq.refl; apply Eq.refl; try apply Eq.refl)); exact stopP_hit hi.2 (by omega) (by assumption))
    | (((try apply fin_now); first | (apply fin_I; apply Eq.refl; apply Eq.refl; try apply Eq.refl)); exact stopP_end hi.2 (by omega))
    | (refine ⟨k + 1, ⟨by omega, stopP_next hi.2 (by omega) (by omega)⟩, by omega, (by apply reach_now; refine ⟨?_, ?_, ?_, ?_, ?_⟩ <;> repeat' (first | exact trivial | apply And.intro | apply Eq.refl | (apply toI; apply Eq.refl; first | omega | assumption) | (apply toB; apply Eq.refl; repeat' (first | apply Eq.refl | apply consS | (apply consI; first | apply Eq.refl | omega | assumption)))))⟩; done)

/-- Each hold lies farther on. -/
def HSort (way len : Int) (hs : List Hold) : Prop := hs.Pairwise fun a b => alongI way len a.a < alongI way len b.a
theorem stop_eq {way len gone m : Int} : ∀ {hs : List Hold}, gone ≤ stopP way len m hs → stopR way len gone m hs = stopP way len m hs
  | [], _ => rfl
  | h :: hs, hg => by
    simp only [stopP, stopR] at hg ⊢
    by_cases e : h.u > m
    · rw [if_pos e] at hg ⊢; rw [if_pos ⟨hg, e⟩]
    · rw [if_neg e] at hg ⊢; rw [if_neg (fun h => e h.2)]; exact stop_eq hg
theorem stopP_ge {way len m x : Int} : ∀ {hs : List Hold}, x ≤ len → (∀ h ∈ hs, x ≤ alongI way len h.a) → x ≤ stopP way len m hs
  | [], h, _ => h
  | h :: hs, h1, h2 => by
    simp only [stopP]
    split
    · exact h2 h (List.mem_cons_self ..)
    · exact stopP_ge h1 fun y hy => h2 y (List.mem_cons_of_mem _ hy)
theorem stopP_mono {way len m m' : Int} (hm : m ≤ m') : ∀ {hs : List Hold}, HSort way len hs → (∀ h ∈ hs, alongI way len h.a ≤ len) → stopP way len m hs ≤ stopP way len m' hs
  | [], _, _ => Int.le_refl _
  | h :: hs, h1, h2 => by
    obtain ⟨h3, h4⟩ := List.pairwise_cons.1 h1
    have hl := h2 h (List.mem_cons_self ..)
    simp only [stopP]
    by_cases e : h.u > m
    · rw [if_pos e]
      by_cases e' : h.u > m'
      · rw [if_pos e']; exact Int.le_refl _
      · rw [if_neg e']; exact stopP_ge hl fun y hy => Int.le_of_lt (h3 y hy)
    · rw [if_neg e, if_neg (by omega)]; exact stopP_mono hm h4 fun y hy => h2 y (List.mem_cons_of_mem _ hy)
theorem along_le {way len : Int} {h : Hold} (h1 : 1 ≤ h.a) (h2 : h.a ≤ len - 1) : 1 ≤ alongI way len h.a ∧ alongI way len h.a ≤ len - 1 := by
  unfold alongI; split <;> omega
theorem posR_stop {t : Truck} {len pace : Int} (hl : 1 ≤ len) (ho : HOk len t.holds) (hso : HSort t.way len t.holds) (hp : 1 ≤ pace) : ∀ k, posR t len pace k ≤ stopP t.way len (t.start + k) t.holds
  | 0 => by
    refine Int.le_trans (show posR t len pace 0 ≤ 1 from by simp only [posR]; omega) (stopP_ge hl fun h hh => ?_)
    have := ho.mem h hh
    exact (along_le this.1 this.2.1).1
  | k + 1 => by
    have ih := posR_stop hl ho hso hp k
    simp only [posR, nextR]
    rw [stop_eq ih]
    refine Int.le_trans (Int.min_le_right _ _) (stopP_mono (by push_cast; omega) hso fun h hh => ?_)
    have := ho.mem h hh
    have := along_le (way := t.way) this.1 this.2.1
    omega
theorem posR_next {t : Truck} {len pace : Int} (hl : 1 ≤ len) (ho : HOk len t.holds) (hso : HSort t.way len t.holds) (hp : 1 ≤ pace) (k : Nat) : posR t len pace (k + 1) = min (posR t len pace k + pace) (stopP t.way len (t.start + k) t.holds) := by
  simp only [posR, nextR]
  rw [stop_eq (posR_stop hl ho hso hp k)]
end Go.Proofs.YtafnhieaeejlcaaDoor

