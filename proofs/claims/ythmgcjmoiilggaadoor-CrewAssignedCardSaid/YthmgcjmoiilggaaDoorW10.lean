/- Walks by computing: what each function of the program that the laws reach gives for what it gets, as plain Lean, and that it is so; without a condition but those that stand in each theorem. -/
import Derived.Test.YthmgcjmoiilggaaDoorW1
import Derived.Test.YthmgcjmoiilggaaDoorW2
import Derived.Test.YthmgcjmoiilggaaDoorW3
import Derived.Test.YthmgcjmoiilggaaDoorW4
import Derived.Test.YthmgcjmoiilggaaDoorW5
import Derived.Test.YthmgcjmoiilggaaDoorW6
import Derived.Test.YthmgcjmoiilggaaDoorW7
import Derived.Test.YthmgcjmoiilggaaDoorW8
import Derived.Test.YthmgcjmoiilggaaDoorW9
set_option linter.all false
namespace Go.Proofs.Crew
open Go Go.Ab
set_option linter.all false
def inB (n a b : Int) : Bool := decide (a ≤ n) && decide (n ≤ b)
theorem within_in (n a b : Int) : within n a b = some (inB n a b) := within_sp n a b
theorem inB_iff {n a b : Int} : inB n a b = true ↔ a ≤ n ∧ n ≤ b := by simp [inB]
end Go.Proofs.Crew
namespace Go.Proofs.Crew
open Go Go.Ab
set_option linter.all false
end Go.Proofs.Crew
namespace Go.Proofs.Crew
open Go Go.Ab
set_option linter.all false
theorem dw_all {α : Type} {p : α → Bool} : ∀ {l : List α}, (∀ b ∈ l.dropWhile p, p b = true) → ∀ b ∈ l, p b = true
  | [], _, b, hb => by cases hb
  | a :: l, h, b, hb => by
    cases ha : p a with
    | false =>
      rw [List.dropWhile_cons_of_neg (by rw [ha]; simp)] at h
      exact h b hb
    | true =>
      rw [List.dropWhile_cons_of_pos ha] at h
      rcases List.mem_cons.1 hb with rfl | hb
      · exact ha
      · exact dw_all h b hb
theorem dw_nil {α : Type} {p : α → Bool} : ∀ {l : List α}, (∀ b ∈ l, p b = true) → l.dropWhile p = []
  | [], _ => rfl
  | a :: l, h => by
    rw [List.dropWhile_cons_of_pos (h a (List.mem_cons_self ..))]
    exact dw_nil fun b hb => h b (List.mem_cons_of_mem _ hb)
theorem trimS_nil (l cs : List UInt8) : Lib.trimS l cs = [] ↔ ∀ b ∈ l, cs.contains b = true := by
  unfold Lib.trimS Lib.trimLeftS Lib.trimRightS
  constructor
  · intro h
    have h1 : ∀ b ∈ (l.reverse.dropWhile (cs.contains ·)).reverse, cs.contains b = true := dw_all (p := (cs.contains ·)) (by rw [h]; intro b hb; cases hb)
    have h2 := dw_all (p := (cs.contains ·)) (l := l.reverse) (fun b hb => h1 b (by simpa using hb))
    exact fun b hb => h2 b (by simpa using hb)
  · intro h
    have : l.reverse.dropWhile (cs.contains ·) = [] := dw_nil (p := (cs.contains ·)) fun b hb => h b (by simpa using hb)
    rw [this]; rfl
def lowB (b : UInt8) : Bool := decide (97 ≤ b.toNat) && decide (b.toNat ≤ 122)
theorem azc : ∀ n : Fin 256, az.data.toList.contains (UInt8.ofNat n.val) = (decide (97 ≤ n.val) && decide (n.val ≤ 122)) := by decide +kernel
theorem az_low (b : UInt8) : az.data.toList.contains b = lowB b := by
  have h := azc ⟨b.toNat, b.toNat_lt⟩
  simp only [UInt8.ofNat_toNat] at h
  exact h
def nameB (s : ByteArray) : Bool := decide (1 ≤ s.size) && decide (s.size ≤ 8) && s.data.toList.all lowB
theorem trim_any (s : ByteArray) (hs : s.size ≤ 1000) : trim s az = some (trimV s az) := by
  rw [trim_eq]
  have h : okTrim s az = true := by
    unfold okTrim
    rw [decide_eq_true (show s.size ≤ 9223372036854775807 by omega)]
    decide +kernel
  rw [h]; rfl
theorem trimV_empty (s : ByteArray) : ((trimV s az).toList == (⟨#[]⟩ : ByteArray).toList) = s.data.toList.all lowB := by
  rw [Lib.toList_data, Lib.toList_data]
  have : (trimV s az).data.toList = Lib.trimS s.data.toList az.data.toList := by simp [trimV]
  rw [this]
  have hi := trimS_nil s.data.toList az.data.toList
  cases ha : s.data.toList.all lowB with
  | true =>
    rw [List.all_eq_true] at ha
    rw [hi.2 fun b hb => by rw [az_low]; exact ha b hb]
    rfl
  | false =>
    have hne : Lib.trimS s.data.toList az.data.toList ≠ [] := fun he => by
      have h2 := hi.1 he
      have : s.data.toList.all lowB = true := by
        rw [List.all_eq_true]
        intro b hb
        rw [← az_low]; exact h2 b hb
      rw [this] at ha; cases ha
    simpa using hne
def rulesB (u : Rules) : Bool := inB u.Drive 1 3000 && inB u.Rest 1 3000 && inB u.Day 1 3000 && inB u.Most 1 3000
theorem rulesB_in {u : Rules} (h : rulesB u = true) : RulesIn u := by
  unfold rulesB at h
  simp only [Bool.and_eq_true, inB_iff] at h
  simp only [RulesIn]; omega
theorem pCheckRules_any (u : Rules) : pCheckRules u = some (bif rulesB u then 0 else 2) := by
  apply ok_eq
  rw [pCheckRules_eq]; unfold pCheckRules' rulesB
  refine Ok.rounds (fun v => v.1.1 = 0 ∨ (v.1.1 = 1 ∧ inB u.Drive 1 3000 = true) ∨ (v.1.1 = 2 ∧ inB u.Drive 1 3000 = true ∧ inB u.Rest 1 3000 = true) ∨ (v.1.1 = 3 ∧ inB u.Drive 1 3000 = true ∧ inB u.Rest 1 3000 = true ∧ inB u.Day 1 3000 = true) ∨ (v.1.1 = 4 ∧ inB u.Drive 1 3000 = true ∧ inB u.Rest 1 3000 = true ∧ inB u.Day 1 3000 = true ∧ inB u.Most 1 3000 = true)) (fun v => (4 - v.1.1).toNat) (by show (4 - (0 : Int)).toNat < FUEL; unfold FUEL; decide) (.inl rfl) ?_
  rintro ⟨⟨x, u1⟩, u2⟩ kn hi hk
  simp only at hi hk ⊢
  unfold pCheckRules_L2
  rcases hi with rfl | ⟨rfl, a1⟩ | ⟨rfl, a1, a2⟩ | ⟨rfl, a1, a2, a3⟩ | ⟨rfl, a1, a2, a3, a4⟩
  · refine Ok.beq (within_in _ _ _) ?_
    cases h : inB u.Drive 1 3000 with
    | false => exact Ok.some rfl
    | true =>
      have := hk ((1, ()), ()) (.inr (.inl ⟨rfl, h⟩)) (by decide)
      rw [h] at this; exact this
  · rw [a1]
    refine Ok.beq (within_in _ _ _) ?_
    cases h : inB u.Rest 1 3000 with
    | false => exact Ok.some rfl
    | true =>
      have := hk ((2, ()), ()) (.inr (.inr (.inl ⟨rfl, a1, h⟩))) (by decide)
      rw [a1, h] at this; exact this
  · rw [a1, a2]
    refine Ok.beq (within_in _ _ _) ?_
    cases h : inB u.Day 1 3000 with
    | false => exact Ok.some rfl
    | true =>
      have := hk ((3, ()), ()) (.inr (.inr (.inr (.inl ⟨rfl, a1, a2, h⟩)))) (by decide)
      rw [a1, a2, h] at this; exact this
  · rw [a1, a2, a3]
    refine Ok.beq (within_in _ _ _) ?_
    cases h : inB u.Most 1 3000 with
    | false => exact Ok.some rfl
    | true =>
      have := hk ((4, ()), ()) (.inr (.inr (.inr (.inr ⟨rfl, a1, a2, a3, h⟩)))) (by decide)
      rw [a1, a2, a3, h] at this; exact this
  · rw [a1, a2, a3, a4]
    exact Ok.some rfl
def spanE (x : Span) : Int := bif inB x.Lo 0 3000 && inB x.Hi 0 3000 then (bif decide (x.Lo > x.Hi) then 11 else 0) else 2
theorem moment_any (x : Span) : moment x = some (spanE x) := by
  rw [moment_eq]; unfold moment' spanE
  simp only [within_in, Option.bind_some]
  cases inB x.Lo 0 3000 <;> cases inB x.Hi 0 3000 <;> cases decide (x.Lo > x.Hi) <;> rfl
def turnE (l : List Turn) (i : Nat) : Int := bif spanE (l.getD i dfltTurn).From != 0 then spanE (l.getD i dfltTurn).From else bif spanE (l.getD i dfltTurn).To != 0 then spanE (l.getD i dfltTurn).To else bif decide ((l.getD i dfltTurn).From.Hi > (l.getD i dfltTurn).To.Lo) then 11 else bif decide (0 < i) && decide ((l.getD i dfltTurn).From.Lo < (l.getD (i - 1) dfltTurn).To.Hi) then 12 else 0
def firstE (l : List Turn) : Nat → Nat → Int
  | _, 0 => 0
  | i, n + 1 => bif turnE l i == 0 then firstE l (i + 1) n else turnE l i
theorem firstE_zero {l : List Turn} : ∀ {n i : Nat}, firstE l i n = 0 → ∀ k, i ≤ k → k < i + n → turnE l k = 0
  | 0, i, _, k, h1, h2 => by omega
  | n + 1, i, h, k, h1, h2 => by
    simp only [firstE] at h
    cases ht : turnE l i == 0 with
    | false =>
      rw [ht] at h
      have : turnE l i ≠ 0 := by simpa using ht
      exact absurd h this
    | true =>
      rw [ht] at h
      by_cases e : k = i
      · subst e; simpa using ht
      · exact firstE_zero (n := n) (i := i + 1) h k (by omega) (by omega)
def checkE (d : Driver) : Int := bif nameB d.Name then (bif inB d.Skills 0 255 then (bif decide ((d.Turns.length : Int) > 20) then 8 else firstE d.Turns 0 d.Turns.length) else 2) else 3
theorem turnsLoop {d : Driver} {chkS : Span → Option Int} (hS : ∀ x, chkS x = some (spanE x)) {kn : Int → Option Int} {i : Nat} (hi : i < d.Turns.length) (hl : d.Turns.length ≤ 1000)
    (hk : Ok (fun r => r = firstE d.Turns (i + 1) (d.Turns.length - (i + 1))) (kn ((i : Int) + 1))) :
    Ok (fun r => r = firstE d.Turns i (d.Turns.length - i)) (chk (decide (0 ≤ (i : Int)) && decide ((i : Int) < (d.Turns.length : Int))) <|
    (chkS ((d.Turns.getD (i : Int).toNat dfltTurn).From)).bind fun r9 =>
    bif (r9 != 0) then
      some r9
    else
      (chkS ((d.Turns.getD (i : Int).toNat dfltTurn).To)).bind fun r10 =>
      bif (r10 != 0) then
        some r10
      else
        bif (decide ((d.Turns.getD (i : Int).toNat dfltTurn).From.Hi > (d.Turns.getD (i : Int).toNat dfltTurn).To.Lo)) then
          some 11
        else
          bif (decide ((i : Int) > 0)) then
            chk (decide (0 ≤ (w64 ((i : Int) - 1))) && decide ((w64 ((i : Int) - 1)) < (d.Turns.length : Int))) <|
            bif (decide ((d.Turns.getD (i : Int).toNat dfltTurn).From.Lo < (d.Turns.getD (w64 ((i : Int) - 1)).toNat dfltTurn).To.Hi)) then
              some 12
            else
              kn (w64 ((i : Int) + 1))
          else
            kn (w64 ((i : Int) + 1))) := by
  have e1 : w64 ((i : Int) + 1) = (i : Int) + 1 := w64_id (by omega) (by omega)
  have hn : d.Turns.length - i = (d.Turns.length - (i + 1)) + 1 := by omega
  rw [hn]
  simp only [firstE, Int.toNat_natCast, e1]
  have bad : ∀ e : Int, turnE d.Turns i = e → e ≠ 0 → Ok (fun r => r = bif turnE d.Turns i == 0 then firstE d.Turns (i + 1) (d.Turns.length - (i + 1)) else turnE d.Turns i) (some e) := fun e he h0 => by
    refine Ok.some ?_
    have : (turnE d.Turns i == 0) = false := by rw [he]; simpa using h0
    rw [this, he]; rfl
  have good : turnE d.Turns i = 0 → Ok (fun r => r = bif turnE d.Turns i == 0 then firstE d.Turns (i + 1) (d.Turns.length - (i + 1)) else turnE d.Turns i) (kn ((i : Int) + 1)) := fun he => by
    rw [he]; exact hk
  refine Ok.chk (ib (by omega) (by omega)) ?_
  refine Ok.beq (hS _) ?_
  cases h1 : spanE (d.Turns.getD i dfltTurn).From != 0 with
  | true => exact bad _ (by unfold turnE; rw [h1]; rfl) (by simpa using h1)
  | false =>
    refine Ok.no rfl ?_
    refine Ok.beq (hS _) ?_
    cases h2 : spanE (d.Turns.getD i dfltTurn).To != 0 with
    | true => exact bad _ (by unfold turnE; rw [h1, h2]; rfl) (by simpa using h2)
    | false =>
      refine Ok.no rfl ?_
      refine Ok.ite (fun h3 => bad 11 (by unfold turnE; rw [h1, h2, h3]; rfl) (by decide)) (fun h3 => ?_)
      refine Ok.ite (fun h4 => ?_) (fun h4 => ?_)
      · have hp := of_decide_eq_true h4
        have e2 : w64 ((i : Int) - 1) = (i : Int) - 1 := w64_id (by omega) (by omega)
        have e3 : ((i : Int) - 1).toNat = i - 1 := by omega
        rw [e2, e3]
        refine Ok.chk (by simp; omega) ?_
        have h4' : decide (0 < i) = true := decide_eq_true (by omega)
        refine Ok.ite (fun h5 => bad 12 (by unfold turnE; rw [h1, h2, h3, h4', h5]; rfl) (by decide)) (fun h5 => good (by unfold turnE; rw [h1, h2, h3, h5, Bool.and_false]; rfl))
      · have hp := of_decide_eq_false h4
        have h4' : decide (0 < i) = false := decide_eq_false (by omega)
        exact good (by unfold turnE; rw [h1, h2, h3, h4']; rfl)
theorem pCheck_any (d : Driver) (hs : d.Name.size ≤ 1000) (hl : d.Turns.length ≤ 1000) : pCheck d = some (checkE d) := by
  apply ok_eq
  rw [pCheck_eq]; unfold pCheck'
  unfold checkE
  refine Ok.ite (fun hc => ?_) (fun hc => ?_)
  · have h1 := of_decide_eq_true hc
    have hb : nameB d.Name = false := by unfold nameB; rw [decide_eq_false (show ¬ 1 ≤ d.Name.size by omega)]; rfl
    rw [hc, hb]; exact Ok.some rfl
  have h1 := of_decide_eq_false hc
  refine Ok.ite (fun hc => ?_) (fun hc => ?_)
  · have h2 := of_decide_eq_true hc
    have hb : nameB d.Name = false := by unfold nameB; rw [decide_eq_false (show ¬ d.Name.size ≤ 8 by omega), Bool.and_false]; rfl
    rw [hc, hb]; exact Ok.some rfl
  have h2 := of_decide_eq_false hc
  refine Ok.beq (trim_any _ hs) ?_
  rw [trimV_empty]
  have hb : nameB d.Name = d.Name.data.toList.all lowB := by unfold nameB; rw [decide_eq_true (show 1 ≤ d.Name.size by omega), decide_eq_true (show d.Name.size ≤ 8 by omega)]; rfl
  rw [hb]
  cases hn : d.Name.data.toList.all lowB with
  | false => exact Ok.some rfl
  | true =>
    refine Ok.no rfl ?_
    refine Ok.beq (within_in _ _ _) ?_
    cases hk : inB d.Skills 0 255 with
    | false => exact Ok.some rfl
    | true =>
      refine Ok.no rfl ?_
      refine Ok.ite (fun hc => ?_) (fun hc => ?_)
      · rw [hc]; exact Ok.some rfl
      rw [hc]
      simp only [cond_true, cond_false]
      refine (Ok.roundsD (P := fun (v : (Unit × Int × Unit) × Unit) r => r = firstE d.Turns v.1.2.1.toNat (d.Turns.length - v.1.2.1.toNat)) (fun (v : (Unit × Int × Unit) × Unit) => ∃ i : Nat, v.1.2.1 = (i : Int) ∧ i ≤ d.Turns.length) (fun (v : (Unit × Int × Unit) × Unit) => (d.Turns.length - v.1.2.1).toNat) ?_ ⟨0, rfl, by omega⟩ ?_)
      · simp only; unfold FUEL; omega
      rintro ⟨⟨u1, x, u2⟩, u3⟩ kn ⟨i, h3, h4⟩ hk
      simp only at h3 h4 hk ⊢
      subst h3
      unfold pCheck_L10__3
      refine Ok.ite (fun hc => ?_) (fun hc => ?_)
      · have hi := of_decide_eq_true hc
        rw [Int.toNat_natCast]
        refine turnsLoop (kn := fun y => kn (((), y, ()), ())) moment_any (by omega) hl ?_
        have := hk (((), (i : Int) + 1, ()), ()) ⟨i + 1, by simp, by omega⟩ (by simp only; omega)
        simp only at this
        rw [show ((i : Int) + 1).toNat = i + 1 by omega] at this
        exact this
      · have hi := of_decide_eq_false hc
        rw [Int.toNat_natCast, show d.Turns.length - i = 0 by omega]
        exact Ok.some rfl
theorem spanE_zero {x : Span} (h : spanE x = 0) : 0 ≤ x.Lo ∧ x.Lo ≤ x.Hi ∧ x.Hi ≤ 3000 := by
  unfold spanE at h
  cases h1 : inB x.Lo 0 3000 with
  | false => rw [h1] at h; cases h
  | true =>
    cases h2 : inB x.Hi 0 3000 with
    | false => rw [h1, h2] at h; cases h
    | true =>
      cases h3 : decide (x.Lo > x.Hi) with
      | true => rw [h1, h2, h3] at h; cases h
      | false =>
        have a := inB_iff.1 h1
        have b := inB_iff.1 h2
        have c := of_decide_eq_false h3
        omega
theorem turnE_zero {l : List Turn} {i : Nat} (h : turnE l i = 0) : TV (l.getD i dfltTurn) ∧ (l.getD i dfltTurn).To.Hi ≤ 3000 ∧ (0 < i → (l.getD (i - 1) dfltTurn).To.Hi ≤ (l.getD i dfltTurn).From.Lo) := by
  unfold turnE at h
  cases h1 : spanE (l.getD i dfltTurn).From != 0 with
  | true => rw [h1] at h; simp only [cond_true] at h; rw [h] at h1; cases h1
  | false =>
    cases h2 : spanE (l.getD i dfltTurn).To != 0 with
    | true => rw [h1, h2] at h; simp only [cond_true, cond_false] at h; rw [h] at h2; cases h2
    | false =>
      have a := spanE_zero (x := (l.getD i dfltTurn).From) (by simpa using h1)
      have b := spanE_zero (x := (l.getD i dfltTurn).To) (by simpa using h2)
      rw [h1, h2] at h
      simp only [cond_false] at h
      cases h3 : decide ((l.getD i dfltTurn).From.Hi > (l.getD i dfltTurn).To.Lo) with
      | true => rw [h3] at h; cases h
      | false =>
        rw [h3] at h
        simp only [cond_false] at h
        have c := of_decide_eq_false h3
        refine ⟨by simp only [TV]; omega, by omega, fun hp => ?_⟩
        rw [decide_eq_true hp, Bool.true_and] at h
        cases h4 : decide ((l.getD i dfltTurn).From.Lo < (l.getD (i - 1) dfltTurn).To.Hi) with
        | true => rw [h4] at h; cases h
        | false => have := of_decide_eq_false h4; omega
theorem checkE_ok {d : Driver} (hs : d.Name.size ≤ 1000) (h : checkE d = 0) : DOk d := by
  unfold checkE at h
  cases hn : nameB d.Name with
  | false => rw [hn] at h; cases h
  | true =>
    cases hk : inB d.Skills 0 255 with
    | false => rw [hn, hk] at h; cases h
    | true =>
      cases hc : decide ((d.Turns.length : Int) > 20) with
      | true => rw [hn, hk, hc] at h; cases h
      | false =>
        rw [hn, hk, hc] at h
        simp only [cond_true, cond_false] at h
        have hl := of_decide_eq_false hc
        have ht : ∀ i, i < d.Turns.length → turnE d.Turns i = 0 := fun i hi => firstE_zero h i (by omega) (by omega)
        unfold nameB at hn
        simp only [Bool.and_eq_true, decide_eq_true_eq] at hn
        obtain ⟨⟨n1, n2⟩, n3⟩ := hn
        refine ⟨⟨n1, n2, _, trim_any _ hs, by rw [trimV_empty]; exact n3⟩, inB_iff.1 hk, by omega, fun t htm => ?_, ?_⟩
        · obtain ⟨i, hi, rfl⟩ := at_of htm
          have := turnE_zero (ht i hi)
          exact ⟨this.1, this.2.1⟩
        · rw [List.pairwise_iff_getElem]
          have key : ∀ (n i : Nat), i + n + 1 < d.Turns.length → (d.Turns.getD i dfltTurn).To.Hi ≤ (d.Turns.getD (i + n + 1) dfltTurn).From.Lo := by
            intro n
            induction n with
            | zero =>
              intro i hi
              have := (turnE_zero (ht (i + 1) (by omega))).2.2 (by omega)
              exact this
            | succ n ih =>
              intro i hi
              have a := ih i (by omega)
              have b := (turnE_zero (ht (i + (n + 1) + 1) (by omega))).2.2 (by omega)
              have c := (turnE_zero (ht (i + n + 1) (by omega))).1
              rw [show i + (n + 1) + 1 - 1 = i + n + 1 by omega] at b
              simp only [TV] at c
              omega
          intro i j hi hj hij
          have := key (j - i - 1) i (by omega)
          rw [show i + (j - i - 1) + 1 = j by omega] at this
          rw [List.getD_eq_getElem?_getD, List.getD_eq_getElem?_getD, List.getElem?_eq_getElem hi, List.getElem?_eq_getElem hj] at this
          exact this
end Go.Proofs.Crew
namespace Go.Proofs.Crew
open Go Go.Ab
set_option linter.all false
end Go.Proofs.Crew
namespace Go.Proofs.Crew
open Go Go.Ab
set_option linter.all false
def LV (l : List Turn) : Prop := l.length ≤ 1000 ∧ ∀ t ∈ l, TV t ∧ t.To.Hi ≤ 3000
def IsD (D : Int → Bool) (l : List Bool) : Prop := l.length = 3000 ∧ ∀ k : Nat, k < 3000 → l.getD k false = D (k : Int)
theorem getD_set {l : List Bool} {i k : Nat} (hi : i < l.length) : (l.set i true).getD k false = (decide (k = i) || l.getD k false) := by
  rw [List.getD_eq_getElem?_getD, List.getD_eq_getElem?_getD]
  by_cases e : k = i
  · subst e; rw [List.getElem?_set_self hi]; simp
  · rw [List.getElem?_set_ne (fun h => e h.symm)]; simp [e]
theorem minLoop {f t i : Int} {D : Int → Bool} {out0 : List Bool} (h0 : IsD D out0) (f0 : 0 ≤ f) (t0 : t ≤ 3000) {Q : List Bool → Prop}
    {kn_ : (List Bool) → Int → Option (List Bool)}
    (hk : ∀ out, IsD (fun m => D m || (decide (f ≤ m) && decide (m < t))) out → Ok Q (kn_ out i))
    {F : ((List Bool × Int × Unit) × Unit) → (((List Bool × Int × Unit) × Unit) → Option (List Bool)) → Option (List Bool)}
    (hF : ∀ out m kn, F ((out, m, ()), ()) kn = bif (decide (m < t)) then chk (decide (0 ≤ m) && decide (m < (out.length : Int))) <| chk (decide (m.toNat < out.length)) <| kn ((out.set m.toNat true, w64 (m + 1), ()), ()) else kn_ out i) :
    Ok Q (itN _ F ((out0, f, ()), ())) := by
  refine Ok.rounds (fun v => f ≤ v.1.2.1 ∧ (v.1.2.1 ≤ t ∨ v.1.2.1 = f) ∧ IsD (fun m => D m || (decide (f ≤ m) && decide (m < v.1.2.1))) v.1.1) (fun v => (t - v.1.2.1).toNat) ?_ ⟨Int.le_refl _, .inr rfl, h0.1, fun k hk => ?_⟩ ?_
  · simp only; unfold FUEL; omega
  · rw [h0.2 k hk]
    simp only
    have : (decide (f ≤ (k : Int)) && decide ((k : Int) < f)) = false := by rw [← Bool.decide_and]; exact decide_eq_false (by omega)
    rw [this, Bool.or_false]
  rintro ⟨⟨out, m, u1⟩, u2⟩ kn ⟨h1, h2, h3, h4⟩ hk'
  simp only at h1 h2 h3 h4 hk' ⊢
  rw [hF]
  refine Ok.ite (fun hc => ?_) (fun hc => ?_)
  · have hc := of_decide_eq_true hc
    refine Ok.chk (by simp; omega) (Ok.chk (decide_eq_true (by omega)) ?_)
    rw [w64_id (n := m + 1) (by omega) (by omega)]
    refine hk' ((out.set m.toNat true, m + 1, ()), ()) ⟨by simp only; omega, .inl (by simp only; omega), by simp only [List.length_set]; exact h3, fun k hk => ?_⟩ (by simp only; omega)
    simp only
    rw [getD_set (by omega), h4 k hk]
    by_cases e : k = m.toNat
    · have e1 : decide (k = m.toNat) = true := decide_eq_true e
      have e2 : (decide (f ≤ (k : Int)) && decide ((k : Int) < m + 1)) = true := by simp; omega
      rw [e1, e2, Bool.true_or, Bool.or_true]
    · have e1 : decide (k = m.toNat) = false := decide_eq_false e
      have e2 : decide ((k : Int) < m + 1) = decide ((k : Int) < m) := by rw [decide_eq_decide]; omega
      rw [e1, e2, Bool.false_or]
  · have hc := of_decide_eq_false hc
    refine hk out ⟨h3, fun k hk => ?_⟩
    rw [h4 k hk]
    simp only
    congr 1
    rw [← Bool.decide_and, ← Bool.decide_and, decide_eq_decide]
    omega
theorem Minutes_sp {l : List Turn} (hl : LV l) (long : Bool) : Ok (IsD (drv (bif long then turnsL l else turnsS l))) (Minutes l long) := by
  obtain ⟨hn, hv⟩ := hl
  rw [Minutes_eq]
  unfold Minutes'
  refine Ok.chk (by unfold fitM; decide) ?_
  refine Ok.rounds (fun v => ∃ i : Nat, v.1.2.1 = (i : Int) ∧ i ≤ l.length ∧ IsD (drv ((bif long then turnsL l else turnsS l).take i)) v.1.1) (fun v => (l.length - v.1.2.1).toNat) ?_ ⟨0, rfl, by omega, List.length_replicate, fun k hk => ?_⟩ ?_
  · simp only; unfold FUEL; omega
  · rw [List.getD_eq_getElem?_getD, List.getElem?_replicate]
    simp [hk, drv]
  rintro ⟨⟨out, x, u1⟩, u2⟩ kn ⟨i, h1, h2, h3⟩ hk
  simp only at h1 h2 h3 hk ⊢
  subst h1
  unfold Minutes_L3
  refine Ok.ite (fun hc => ?_) (fun hc => ?_)
  · have hi : i < l.length := by have := of_decide_eq_true hc; omega
    have hb := ib (i := (i : Int)) (n := l.length) (by omega) (by omega)
    obtain ⟨⟨t0, t1, t2, t4⟩, t3⟩ := hv _ (getD_mem (d := dfltTurn) (l := l) (i := i) hi)
    have e1 : w64 ((i : Int) + 1) = (i : Int) + 1 := w64_id (by omega) (by omega)
    refine Ok.chk hb (Ok.chk hb ?_)
    refine Ok.ite (fun hlong => ?_) (fun hlong => ?_)
    · subst hlong
      refine Ok.chk hb (Ok.chk hb ?_)
      simp only [cond_true, Int.toNat_natCast] at h3 hk ⊢
      refine minLoop (D := drv ((turnsL l).take i)) (f := (l.getD i dfltTurn).From.Lo) (t := (l.getD i dfltTurn).To.Hi) (i := w64 ((i : Int) + 1)) (kn_ := fun y0 y1 => kn ((y0, y1, ()), ())) h3 t0 t3 (fun out' ho => ?_) (fun _ _ _ => rfl)
      rw [e1]
      refine hk ((out', (i : Int) + 1, ()), ()) ⟨i + 1, by simp, by omega, ho.1, fun k hk => ?_⟩ (by simp only; omega)
      rw [ho.2 k hk, drv_take _ _ _ (by simpa [turnsL] using hi)]
      have e : (turnsL l).getD i (0, 0) = ((l.getD i dfltTurn).From.Lo, (l.getD i dfltTurn).To.Hi) := by
        simp [turnsL, List.getD_eq_getElem?_getD, List.getElem?_eq_getElem hi]
      rw [e]
    · subst hlong
      simp only [cond_false, Int.toNat_natCast] at h3 hk ⊢
      refine minLoop (D := drv ((turnsS l).take i)) (f := (l.getD i dfltTurn).From.Hi) (t := (l.getD i dfltTurn).To.Lo) (i := w64 ((i : Int) + 1)) (kn_ := fun y0 y1 => kn ((y0, y1, ()), ())) h3 (by omega) (by omega) (fun out' ho => ?_) (fun _ _ _ => rfl)
      rw [e1]
      refine hk ((out', (i : Int) + 1, ()), ()) ⟨i + 1, by simp, by omega, ho.1, fun k hk => ?_⟩ (by simp only; omega)
      rw [ho.2 k hk, drv_take _ _ _ (by simpa [turnsS] using hi)]
      have e : (turnsS l).getD i (0, 0) = ((l.getD i dfltTurn).From.Hi, (l.getD i dfltTurn).To.Lo) := by
        simp [turnsS, List.getD_eq_getElem?_getD, List.getElem?_eq_getElem hi]
      rw [e]
  · have hi : i = l.length := by have := of_decide_eq_false hc; omega
    subst hi
    refine Ok.some ⟨h3.1, fun k hk => ?_⟩
    rw [h3.2 k hk]
    have e : (bif long then turnsL l else turnsS l).take l.length = bif long then turnsL l else turnsS l := by
      refine List.take_of_length_le ?_
      cases long <;> simp [turnsL, turnsS]
    rw [e]
theorem over_pred {l : List Int} (hl : l.Pairwise (· < ·)) (t : Int) : (over l (t - 1)).length = (over l t).length + (if t ∈ l then 1 else 0) := by
  induction l with
  | nil => simp [over]
  | cons a l ih =>
    rw [List.pairwise_cons] at hl
    have ih := ih hl.2
    simp only [over, List.filter_cons] at ih ⊢
    by_cases h1 : a < t
    · have e1 : decide (t - 1 < a) = false := decide_eq_false (by omega)
      have e2 : decide (t < a) = false := decide_eq_false (by omega)
      have e3 : (t ∈ a :: l) ↔ t ∈ l := by rw [List.mem_cons]; exact ⟨fun h => h.resolve_left (by omega), .inr⟩
      simp only [e1, e2, e3]
      simpa using ih
    · by_cases h2 : a = t
      · subst h2
        have e1 : decide (a - 1 < a) = true := decide_eq_true (by omega)
        have e2 : decide (a < a) = false := decide_eq_false (by omega)
        have hn : ¬ a ∈ l := fun h => by have := hl.1 a h; omega
        rw [if_neg hn] at ih
        simp only [e1, e2, List.mem_cons, true_or, if_true]
        simp only [List.length_cons]
        simpa using ih
      · have e1 : decide (t - 1 < a) = true := decide_eq_true (by omega)
        have e2 : decide (t < a) = true := decide_eq_true (by omega)
        have e3 : (t ∈ a :: l) ↔ t ∈ l := by rw [List.mem_cons]; exact ⟨fun h => h.resolve_left (by omega), .inr⟩
        simp only [e1, e2, e3, if_true, List.length_cons]
        omega
theorem mem_dlist {D : Int → Bool} {m : Nat} {k : Int} : k ∈ dlist D m ↔ 0 ≤ k ∧ k < m ∧ D k = true := by
  unfold dlist
  simp only [List.mem_map, List.mem_filter, List.mem_range]
  constructor
  · rintro ⟨n, ⟨h1, h2⟩, rfl⟩
    exact ⟨by omega, by omega, h2⟩
  · rintro ⟨h1, h2, h3⟩
    obtain ⟨n, rfl⟩ := Int.eq_ofNat_of_zero_le h1
    exact ⟨n, ⟨by omega, h3⟩, rfl⟩
theorem over_le (l : List Int) (t : Int) : (over l t).length ≤ l.length := List.length_filter_le _ _
theorem Broken_sp {u : Rules} {dr : List Bool} {D : Int → Bool} (hd : IsD D dr) (hu : RulesIn u) : Broken u dr = some (firstB u D 0 3000) := by
  obtain ⟨hl, hg⟩ := hd
  obtain ⟨_, _, hr1, hr2, hd1, hd2, _, _⟩ := hu
  apply ok_eq
  rw [Broken_eq]
  unfold Broken'
  refine (Ok.roundsD (P := fun (v : (Unit × Int × Int × Int × Int × Unit) × Unit) r => r = firstB u D v.1.2.2.2.2.1.toNat (3000 - v.1.2.2.2.2.1.toNat)) (fun (v : (Unit × Int × Int × Int × Int × Unit) × Unit) => ∃ m : Nat, v.1.2.2.2.2.1 = (m : Int) ∧ m ≤ 3000 ∧ v.1.2.1 = (stS u.Rest D m).1 ∧ v.1.2.2.1 = (stS u.Rest D m).2 ∧ v.1.2.2.2.1 = ((over (dlist D m) ((m : Int) - u.Day - 1)).length : Int)) (fun (v : (Unit × Int × Int × Int × Int × Unit) × Unit) => (3000 - v.1.2.2.2.2.1).toNat) ?_ ⟨0, rfl, by omega, rfl, rfl, rfl⟩ ?_)
  · simp only; unfold FUEL; decide
  rintro ⟨⟨u1, run, idle, window, x, u2⟩, u3⟩ kn ⟨m, h1, h2, h3, h4, h5⟩ hk
  simp only at h1 h2 h3 h4 h5 hk ⊢
  subst h1
  unfold Broken_L3
  rw [hl]
  have hst := stS_bnd u.Rest D m
  rw [Int.toNat_natCast]
  refine Ok.ite (fun hc => ?_) (fun hc => ?_)
  · have hm : m < 3000 := by have := of_decide_eq_true hc; omega
    have e1 : w64 ((m : Int) + 1) = (m : Int) + 1 := w64_id (by omega) (by omega)
    have e2 : w64 (idle + 1) = idle + 1 := w64_id (by omega) (by omega)
    have e3 : w64 (run + 1) = run + 1 := w64_id (by omega) (by omega)
    have hW := over_pred (dlist_srt D m) ((m : Int) - u.Day)
    have hle := over_le (dlist D m) ((m : Int) - u.Day)
    have hle1 := over_le (dlist D m) ((m : Int) - u.Day - 1)
    have hdl := dlist_len D m
    have hn : 3000 - m = (3000 - (m + 1)) + 1 := by omega
    have rest : ∀ w : Int, w = ((over (dlist D m) ((m : Int) - u.Day)).length : Int) → Ok (fun r => r = firstB u D m (3000 - m))
        (chk (decide (0 ≤ (m : Int)) && decide ((m : Int) < ((3000 : Nat) : Int))) <|
        bif (!(dr.getD m false)) then
          bif (decide ((w64 (idle + 1)) ≥ u.Rest)) then kn (((), 0, w64 (idle + 1), w, w64 ((m : Int) + 1), ()), ())
          else kn (((), run, w64 (idle + 1), w, w64 ((m : Int) + 1), ()), ())
        else bif (decide ((w64 (run + 1)) > u.Drive)) then some (1, (m : Int))
          else bif (decide ((w64 (w + 1)) > u.Most)) then some (2, (m : Int))
            else kn (((), w64 (run + 1), 0, w64 (w + 1), w64 ((m : Int) + 1), ()), ())) := fun w hw => by
      have ew : w64 (w + 1) = w + 1 := w64_id (by omega) (by omega)
      rw [e1, e2, e3, ew, hg m hm, hn]
      refine Ok.chk (by simp; omega) ?_
      have go : ∀ run' idle' w', run' = (stS u.Rest D (m + 1)).1 → idle' = (stS u.Rest D (m + 1)).2 → w' = ((over (dlist D (m + 1)) ((m : Int) - u.Day)).length : Int) → brkAt u D m = 0 →
          Ok (fun r => r = firstB u D m ((3000 - (m + 1)) + 1)) (kn (((), run', idle', w', (m : Int) + 1, ()), ())) := fun run' idle' w' q1 q2 q3 q4 => by
        have hk2 := hk (((), run', idle', w', (m : Int) + 1, ()), ()) ⟨m + 1, by simp, by omega, q1, q2, by
          simp only
          rw [q3, show ((m + 1 : Nat) : Int) - u.Day - 1 = (m : Int) - u.Day by omega]⟩ (by simp only; omega)
        simp only at hk2
        rw [show ((m : Int) + 1).toNat = m + 1 by omega] at hk2
        simp only [firstB, q4]
        exact hk2
      cases hD : D (m : Int) with
      | false =>
        have hb : brkAt u D m = 0 := by unfold brkAt; rw [hD]; rfl
        have hdl2 : dlist D (m + 1) = dlist D m := by rw [dlist_succ, hD]; rfl
        refine Ok.yes rfl ?_
        refine Ok.ite (fun h6 => ?_) (fun h6 => ?_)
        · rw [h4] at h6
          exact go _ _ _ (by simp only [stS, hD, cond_false, h6, cond_true]) (by simp only [stS, hD, cond_false, h6, cond_true, h4]) (by rw [hdl2]; exact hw) hb
        · rw [h4] at h6
          exact go _ _ _ (by simp only [stS, hD, cond_false, h6, h3]) (by simp only [stS, hD, cond_false, h6, h4]) (by rw [hdl2]; exact hw) hb
      | true =>
        have hdl2 : dlist D (m + 1) = dlist D m ++ [(m : Int)] := by rw [dlist_succ, hD]; rfl
        have hov : ((over (dlist D (m + 1)) ((m : Int) - u.Day)).length : Int) = w + 1 := by
          rw [hdl2, over_snoc, if_pos (by omega), List.length_append, hw]; simp
        refine Ok.no rfl ?_
        refine Ok.ite (fun h6 => ?_) (fun h6 => ?_)
        · have hb : brkAt u D m = 1 := by unfold brkAt; rw [hD]; simp only [cond_true]; rw [h3] at h6; rw [h6]; rfl
          refine Ok.some ?_
          simp only [firstB, hb]; rfl
        · refine Ok.ite (fun h7 => ?_) (fun h7 => ?_)
          · have hb : brkAt u D m = 2 := by
              unfold brkAt wnd
              rw [hD, hov]; simp only [cond_true]; rw [h3] at h6; rw [h6, h7]; rfl
            refine Ok.some ?_
            simp only [firstB, hb]; rfl
          · have hb : brkAt u D m = 0 := by
              unfold brkAt wnd
              rw [hD, hov]; simp only [cond_true]; rw [h3] at h6; rw [h6, h7]; rfl
            exact go _ _ _ (by simp only [stS, hD, cond_true, h3]) (by simp only [stS, hD, cond_true]) hov.symm hb
    refine Ok.ite (fun h6 => ?_) (fun h6 => ?_)
    · have h6 := of_decide_eq_true h6
      have e5 : w64 ((m : Int) - u.Day) = (m : Int) - u.Day := w64_id (by omega) (by omega)
      obtain ⟨j, hj⟩ := Int.eq_ofNat_of_zero_le (show 0 ≤ (m : Int) - u.Day by omega)
      rw [e5, hj, Int.toNat_natCast]
      refine Ok.chk (by simp; omega) ?_
      rw [hg j (by omega)]
      have hmem : ((m : Int) - u.Day ∈ dlist D m) ↔ D (j : Int) = true := by
        rw [mem_dlist, hj]; exact ⟨fun h => h.2.2, fun h => ⟨by omega, by omega, h⟩⟩
      refine Ok.ite (fun h7 => ?_) (fun h7 => ?_)
      · rw [if_pos (hmem.2 h7)] at hW
        have e6 : w64 (window - 1) = window - 1 := w64_id (by omega) (by omega)
        rw [e6]
        exact rest _ (by omega)
      · rw [if_neg (fun h => by have := hmem.1 h; rw [h7] at this; cases this)] at hW
        exact rest _ (by omega)
    · have h6 := of_decide_eq_false h6
      rw [if_neg (fun h => by have := (mem_dlist.1 h).1; omega)] at hW
      exact rest _ (by omega)
  · have hm : m = 3000 := by have := of_decide_eq_false hc; omega
    subst hm
    exact Ok.some rfl
theorem rVerdict_sp {u : Rules} (d : Driver) (hl : LV d.Turns) (hu : RulesIn u) : rVerdict u d.Turns = some (verdictS u d) := by
  obtain ⟨r1, h1, i1⟩ := Minutes_sp hl true
  obtain ⟨r2, h2, i2⟩ := Minutes_sp hl false
  rw [rVerdict_eq]
  unfold rVerdict' verdictS DL DS
  simp only [cond_true, cond_false] at i1 i2
  rw [h1, h2]
  simp only [Option.bind_some]
  rw [Broken_sp i1 hu, Broken_sp i2 hu]
  simp only [Option.bind_some]
  cases (firstB u (drv (turnsL d.Turns)) 0 3000).1 == 0 <;> simp only [cond_true, cond_false]
  cases (firstB u (drv (turnsS d.Turns)) 0 3000).1 != 0 <;> rfl
theorem rClashes_sp (l : List Turn) {a long : Int} (hn : l.length ≤ 1000) (h1 : -100000 ≤ a + long) (h2 : a + long ≤ 100000) : rClashes l a long = some (clashB l a long) := by
  apply ok_eq
  rw [rClashes_eq]
  unfold rClashes'
  have e2 : w64 (a + long) = a + long := w64_id (by omega) (by omega)
  refine (Ok.roundsD (P := fun (v : (Int × Unit) × Unit) r => r = clashB (l.drop v.1.1.toNat) a long) (fun (v : (Int × Unit) × Unit) => 0 ≤ v.1.1 ∧ v.1.1 ≤ l.length) (fun (v : (Int × Unit) × Unit) => (l.length - v.1.1).toNat) ?_ ⟨by decide, by simp⟩ ?_)
  · simp only; unfold FUEL; omega
  rintro ⟨⟨i, u1⟩, u2⟩ kn ⟨h0, h3⟩ hk
  simp only at h0 h3 hk ⊢
  unfold rClashes_L2
  refine Ok.ite (fun hc => ?_) (fun hc => ?_)
  · have hi := of_decide_eq_true hc
    have hi' : i.toNat < l.length := by omega
    have e1 : w64 (i + 1) = i + 1 := w64_id (by omega) (by omega)
    have hd : clashB (l.drop i.toNat) a long = ((decide (a < (l.getD i.toNat dfltTurn).To.Hi) && decide (a + long > (l.getD i.toNat dfltTurn).From.Lo)) || clashB (l.drop (i.toNat + 1)) a long) := by
      rw [drop_get (d := dfltTurn) hi']; rfl
    have next : (decide (a < (l.getD i.toNat dfltTurn).To.Hi) && decide (a + long > (l.getD i.toNat dfltTurn).From.Lo)) = false → Ok (fun r => r = clashB (l.drop i.toNat) a long) (kn ((i + 1, ()), ())) := fun hb => by
      obtain ⟨r, hr1, hr2⟩ := hk ((i + 1, ()), ()) ⟨by simp only; omega, by simp only; omega⟩ (by simp only; omega)
      refine ⟨r, hr1, ?_⟩
      simp only at hr2
      rw [hd, hb, hr2, toNat_succ h0]; rfl
    simp only [e1, e2]
    refine Ok.chk (ib h0 hi) ?_
    refine Ok.ite (fun hc2 => ?_) (fun hc2 => next (by rw [hc2]; rfl))
    refine Ok.chk (ib h0 hi) ?_
    refine Ok.ite (fun hc3 => ?_) (fun hc3 => next (by rw [hc3, Bool.and_false]))
    exact Ok.some (by rw [hd, hc2, hc3]; rfl)
  · have hi := of_decide_eq_false hc
    refine Ok.some ?_
    have : l.drop i.toNat = [] := List.drop_eq_nil_of_le (by omega)
    rw [this]; rfl
theorem withT_sp (l : List Turn) {a long : Int} (hn : l.length ≤ 1000) (h1 : -100000 ≤ a + long) (h2 : a + long ≤ 100000) : withT l a long = some (l ++ [newT a long]) := by
  rw [withT_eq]
  unfold withT'
  have e2 : w64 (a + long) = a + long := w64_id (by omega) (by omega)
  rw [e2, fitA_ok (by simp only [List.length_nil]; omega) (by decide), fitA_ok (by simp only [List.length_nil, List.nil_append, List.length_cons]; omega) (by decide)]
  rfl
end Go.Proofs.Crew
namespace Go.Proofs.Crew
open Go Go.Ab
set_option linter.all false
end Go.Proofs.Crew
