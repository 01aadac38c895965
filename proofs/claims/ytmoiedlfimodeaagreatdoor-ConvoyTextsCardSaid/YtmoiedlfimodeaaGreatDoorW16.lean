/- Walks by computing: what each function of the program that the laws reach gives for what it gets, as plain Lean, and that it is so; without a condition but those that stand in each theorem. -/
import Derived.Test.YtmoiedlfimodeaaGreatDoorCards
import Derived.Test.YtmoiedlfimodeaaGreatDoorTie
import Derived.WalkKit
import Derived.ProofKit
import Derived.OpenShut
import Derived.Deep.Slices
import Derived.Deep.DeepHandedRow
import Derived.Lib.LaidTab
import Derived.Shelf.Vars
import Derived.Test.YtmoiedlfimodeaaGreatDoorW1
import Derived.Test.YtmoiedlfimodeaaGreatDoorW2
import Derived.Test.YtmoiedlfimodeaaGreatDoorW3
import Derived.Test.YtmoiedlfimodeaaGreatDoorW4
import Derived.Test.YtmoiedlfimodeaaGreatDoorW5
import Derived.Test.YtmoiedlfimodeaaGreatDoorW6
import Derived.Test.YtmoiedlfimodeaaGreatDoorW7
import Derived.Test.YtmoiedlfimodeaaGreatDoorW8
import Derived.Test.YtmoiedlfimodeaaGreatDoorW9
import Derived.Test.YtmoiedlfimodeaaGreatDoorW10
import Derived.Test.YtmoiedlfimodeaaGreatDoorW11
import Derived.Test.YtmoiedlfimodeaaGreatDoorW12
import Derived.Test.YtmoiedlfimodeaaGreatDoorW13
import Derived.Test.YtmoiedlfimodeaaGreatDoorW14
import Derived.Test.YtmoiedlfimodeaaGreatDoorW15
set_option linter.all false
namespace Go.Proofs.Tt05
open Go Go.Ab
open Go.Proofs.YtmoiedlfimodeaaGreatDoor (iseat)
set_option linter.all false
set_option maxRecDepth 100000
noncomputable section
def Texts_L14 (texts : List ByteArray) (r8 : ByteArray) (i2 : Int) (kn_2 : Int → Option Bool) : Option Bool :=
 bif (decide (i2 < ((texts ++ [r8]).length : Int))) then
 chk (decide (0 ≤ i2) && decide (i2 < ((texts ++ [r8]).length : Int))) <|
 chk (decide (i2.toNat < (texts ++ [r8]).length)) <|
 bif (decide ((((texts ++ [r8]).getD i2.toNat ⟨#[]⟩).size : Int) > 4000)) then
 chk (decide (0 ≤ i2) && decide (i2 < ((texts ++ [r8]).length : Int))) <|
 chk (decide (i2.toNat < (texts ++ [r8]).length)) <|
 bif (decide ((((texts ++ [r8]).getD i2.toNat ⟨#[]⟩).size : Int) ≤ 20000)) then
 kn_2 (w64 (i2 + 1))
 else
 chk (decide (0 ≤ i2) && decide (i2 < ((texts ++ [r8]).length : Int))) <|
 chk (decide (i2.toNat < (texts ++ [r8]).length)) <|
 (Read ((texts ++ [r8]).getD i2.toNat ⟨#[]⟩)).bind fun r9 =>
 chk (decide (0 ≤ i2) && decide (i2 < ((texts ++ [r8]).length : Int))) <|
 chk (decide (i2.toNat < (texts ++ [r8]).length)) <|
 (Read ((texts ++ [r8]).getD i2.toNat ⟨#[]⟩)).bind fun r10 =>
 bif (r9.2.1 != r10.2.1) then
 some false
 else
 bif (r9.2.2 != r10.2.2) then
 some false
 else
 (Same r9.1 r10.1).bind fun r11 =>
 bif (!r11) then
 some false
 else
 kn_2 (w64 (i2 + 1))
 else
 chk (decide (0 ≤ i2) && decide (i2 < ((texts ++ [r8]).length : Int))) <|
 chk (decide (i2.toNat < (texts ++ [r8]).length)) <|
 (Read ((texts ++ [r8]).getD i2.toNat ⟨#[]⟩)).bind fun r12 =>
 chk (decide (0 ≤ i2) && decide (i2 < ((texts ++ [r8]).length : Int))) <|
 chk (decide (i2.toNat < (texts ++ [r8]).length)) <|
 (Read ((texts ++ [r8]).getD i2.toNat ⟨#[]⟩)).bind fun r13 =>
 bif (r12.2.1 != r13.2.1) then
 some false
 else
 bif (r12.2.2 != r13.2.2) then
 some false
 else
 (Same r12.1 r13.1).bind fun r14 =>
 bif (!r14) then
 some false
 else
 kn_2 (w64 (i2 + 1))
 else
 (awake).bind fun r15 =>
 some r15
def Texts_L5 (it : It Bool) (c : Convoy) (r5 : (Seed × Convoy)) (at_ : Int) (how : Int) (by_ : Int) (texts : List ByteArray) (i : Int) (kn_ : (List ByteArray) → Int → Option Bool) : Option Bool :=
 bif (decide (i < (([c, r5.2] : List Convoy).length : Int))) then
 chk (decide (0 ≤ i) && decide (i < (([c, r5.2] : List Convoy).length : Int))) <|
 chk (decide (i.toNat < ([c, r5.2] : List Convoy).length)) <|
 (Write (([c, r5.2] : List Convoy).getD i.toNat dfltConvoy)).bind fun r6 =>
 chk (decide (0 ≤ i) && decide (i < (([c, r5.2] : List Convoy).length : Int))) <|
 chk (decide (i.toNat < ([c, r5.2] : List Convoy).length)) <|
 (Write04 (([c, r5.2] : List Convoy).getD i.toNat dfltConvoy)).bind fun r7 =>
 bif (!(r6.1.toList == r7.1.toList)) then
 some false
 else
 bif (r6.2 != r7.2) then
 some false
 else
 chk (fitA (texts.length + [r7.1].length) 16) <|
 kn_ (texts ++ [r7.1]) (w64 (i + 1))
 else
 chk (decide (0 ≤ 2) && decide (2 < (texts.length : Int))) <|
 chk (decide (2 < texts.length)) <|
 (Damage (texts.getD 2 ⟨#[]⟩) at_ how by_).bind fun r8 =>
 chk (fitA (texts.length + [r8].length) 16) <|
 it _ (fun (v_0 : (Unit × Int × Unit) × (Unit)) kn => Texts_L14 texts r8 v_0.1.2.1 (fun y0 => kn (((), y0, ()), (())))) (((), 0, ()), (()))
def Texts_L14__2 (texts2 : List ByteArray) (r20 : ByteArray) (i4 : Int) (kn_4 : Int → Option Bool) : Option Bool :=
 bif (decide (i4 < ((texts2 ++ [r20]).length : Int))) then
 chk (decide (0 ≤ i4) && decide (i4 < ((texts2 ++ [r20]).length : Int))) <|
 chk (decide (i4.toNat < (texts2 ++ [r20]).length)) <|
 bif (decide ((((texts2 ++ [r20]).getD i4.toNat ⟨#[]⟩).size : Int) > 4000)) then
 chk (decide (0 ≤ i4) && decide (i4 < ((texts2 ++ [r20]).length : Int))) <|
 chk (decide (i4.toNat < (texts2 ++ [r20]).length)) <|
 bif (decide ((((texts2 ++ [r20]).getD i4.toNat ⟨#[]⟩).size : Int) ≤ 20000)) then
 kn_4 (w64 (i4 + 1))
 else
 chk (decide (0 ≤ i4) && decide (i4 < ((texts2 ++ [r20]).length : Int))) <|
 chk (decide (i4.toNat < (texts2 ++ [r20]).length)) <|
 (Read ((texts2 ++ [r20]).getD i4.toNat ⟨#[]⟩)).bind fun r21 =>
 chk (decide (0 ≤ i4) && decide (i4 < ((texts2 ++ [r20]).length : Int))) <|
 chk (decide (i4.toNat < (texts2 ++ [r20]).length)) <|
 (Read ((texts2 ++ [r20]).getD i4.toNat ⟨#[]⟩)).bind fun r22 =>
 bif (r21.2.1 != r22.2.1) then
 some false
 else
 bif (r21.2.2 != r22.2.2) then
 some false
 else
 (Same r21.1 r22.1).bind fun r23 =>
 bif (!r23) then
 some false
 else
 kn_4 (w64 (i4 + 1))
 else
 chk (decide (0 ≤ i4) && decide (i4 < ((texts2 ++ [r20]).length : Int))) <|
 chk (decide (i4.toNat < (texts2 ++ [r20]).length)) <|
 (Read ((texts2 ++ [r20]).getD i4.toNat ⟨#[]⟩)).bind fun r24 =>
 chk (decide (0 ≤ i4) && decide (i4 < ((texts2 ++ [r20]).length : Int))) <|
 chk (decide (i4.toNat < (texts2 ++ [r20]).length)) <|
 (Read ((texts2 ++ [r20]).getD i4.toNat ⟨#[]⟩)).bind fun r25 =>
 bif (r24.2.1 != r25.2.1) then
 some false
 else
 bif (r24.2.2 != r25.2.2) then
 some false
 else
 (Same r24.1 r25.1).bind fun r26 =>
 bif (!r26) then
 some false
 else
 kn_4 (w64 (i4 + 1))
 else
 (awake).bind fun r27 =>
 some r27
def Texts_L5__2 (it : It Bool) (c : Convoy) (r17 : (Seed × Convoy)) (at_ : Int) (how : Int) (by_ : Int) (texts2 : List ByteArray) (i3 : Int) (kn_3 : (List ByteArray) → Int → Option Bool) : Option Bool :=
 bif (decide (i3 < (([c, r17.2] : List Convoy).length : Int))) then
 chk (decide (0 ≤ i3) && decide (i3 < (([c, r17.2] : List Convoy).length : Int))) <|
 chk (decide (i3.toNat < ([c, r17.2] : List Convoy).length)) <|
 (Write (([c, r17.2] : List Convoy).getD i3.toNat dfltConvoy)).bind fun r18 =>
 chk (decide (0 ≤ i3) && decide (i3 < (([c, r17.2] : List Convoy).length : Int))) <|
 chk (decide (i3.toNat < ([c, r17.2] : List Convoy).length)) <|
 (Write04 (([c, r17.2] : List Convoy).getD i3.toNat dfltConvoy)).bind fun r19 =>
 bif (!(r18.1.toList == r19.1.toList)) then
 some false
 else
 bif (r18.2 != r19.2) then
 some false
 else
 chk (fitA (texts2.length + [r19.1].length) 16) <|
 kn_3 (texts2 ++ [r19.1]) (w64 (i3 + 1))
 else
 chk (decide (0 ≤ 2) && decide (2 < (texts2.length : Int))) <|
 chk (decide (2 < texts2.length)) <|
 (Damage (texts2.getD 2 ⟨#[]⟩) at_ how by_).bind fun r20 =>
 chk (fitA (texts2.length + [r20].length) 16) <|
 it _ (fun (v_0 : (Unit × Int × Unit) × (Unit)) kn => Texts_L14__2 texts2 r20 v_0.1.2.1 (fun y0 => kn (((), y0, ()), (())))) (((), 0, ()), (()))
def Texts' (it : It Bool) (c : Convoy) (text : ByteArray) (nums : List Int) (at_ : Int) (how : Int) (by_ : Int) : Option Bool :=
 (big c).bind fun r =>
 bif r then
 (awake).bind fun r2 =>
 some r2
 else
 bif (decide ((text.size : Int) > 2000)) then
 bif (decide ((text.size : Int) ≤ 20000)) then
 (awake).bind fun r3 =>
 some r3
 else
 (NewSeed nums).bind fun r4 =>
 (ConvoyOf r4 4).bind fun r5 =>
 it _ (fun (v_0 : (Unit × (List ByteArray) × Int × Unit) × (Unit)) kn => Texts_L5 it c r5 at_ how by_ v_0.1.2.1 v_0.1.2.2.1 (fun y0 y1 => kn (((), y0, y1, ()), (())))) (((), [text], 0, ()), (()))
 else
 (NewSeed nums).bind fun r16 =>
 (ConvoyOf r16 4).bind fun r17 =>
 it _ (fun (v_0 : (Unit × (List ByteArray) × Int × Unit) × (Unit)) kn => Texts_L5__2 it c r17 at_ how by_ v_0.1.2.1 v_0.1.2.2.1 (fun y0 y1 => kn (((), y0, y1, ()), (())))) (((), [text], 0, ()), (()))
def Texts : Convoy → ByteArray → (List Int) → Int → Int → Int → Option Bool := opq (fun c text nums at_ how by_ => Texts' itN c text nums at_ how by_)
theorem Texts_eq (c : Convoy) (text : ByteArray) (nums : List Int) (at_ : Int) (how : Int) (by_ : Int) : Texts c text nums at_ how by_ = Texts' itN c text nums at_ how by_ := by unfold Texts; rw [opq_eq]
def E3 : FEnv iseat := ⟨⟨144, [sp4, sp5, sp8, sp9, sp10, sp11, sp12, sp13], [sp6], [sp7], [], [], [], [], [], [], [], [79, 89], [], true⟩, [(5, ⟨⟨[(13, .osr 44), (14, .os 46 9 .str), (15, .v (.int .i64))], []⟩, [3, 4, 5], [44], []⟩), (14, ⟨⟨[(14, .osr 46), (20, .v (.int .i64))], []⟩, [], [46], []⟩)]⟩
theorem e3 (it : It Bool) (c : Convoy) (text : ByteArray) (nums : List Int) (at_ : Int) (how : Int) (by_ : Int) : fnRun (ts := [.bool]) it E3 (bodyOf Tryz.f3) Tryz.f3.results.toList (encA [.Convoy, .str, .sl (.int .i64), .int .i64, .int .i64, .int .u8] (c, text, nums, at_, how, by_, ())) = Texts' it c text nums at_ how by_ := by kernel_rfl
end
end Go.Proofs.Tt05
namespace Go.Proofs.Tt05
open Go Go.Ab
set_option linter.all false
set_option maxRecDepth 100000
theorem Wrap_ok {x n : Int} (h1 : 1 ≤ n) (h2 : n ≤ 1000000) : Ok (fun r => 0 ≤ r ∧ r < n) (Wrap x n) := by
 rw [Wrap_eq]
 unfold Wrap'
 refine Ok.ite (fun _ => Ok.some ⟨Int.le_refl _, by omega⟩) fun q => ?_
 have hn : (n != 0) = true := by simp; omega
 refine Ok.chk hn (Ok.chk hn (Ok.some ?_))
 have a1 := Int.lt_tmod_of_pos x (show 0 < n by omega)
 have a2 := Int.tmod_lt_of_pos x (show 0 < n by omega)
 rw [w64_id (by omega) (by omega)]
 have b1 := Int.tmod_nonneg n (show 0 ≤ x.tmod n + n by omega)
 have b2 := Int.tmod_lt_of_pos (x.tmod n + n) (show 0 < n by omega)
 exact ⟨b1, b2⟩
theorem sub_size (s : ByteArray) (i j : Int) : (subS s i j).size ≤ s.size := by
 unfold subS subB
 rw [← bl_len]
 show ((((s.data.toList.take j.toNat).drop i.toNat).toArray).toList).length ≤ _
 rw [List.toList_toArray, List.length_drop, List.length_take]
 have : s.data.toList.length = s.size := bl_len s
 omega
theorem cat_size (a b : ByteArray) : (catS a b).size = a.size + b.size := by
 rw [show catS a b = mk (bl a ++ bl b) from rfl, mk_size, List.length_append, bl_len, bl_len]
theorem Damage_ok {text : ByteArray} {at_ how by_ : Int} (hs : text.size ≤ 100000) (hb : 0 ≤ by_ ∧ by_ < 256) : Ok (fun r => r.size ≤ 3 * text.size + 1) (Damage text at_ how by_) := by
 rw [Damage_eq]
 unfold Damage'
 refine Ok.ite (fun _ => Ok.some (by omega)) fun q => ?_
 have h1 : 1 ≤ (text.size : Int) := by
  have : ¬ (text.size : Int) = 0 := by simpa using q
  omega
 refine Ok.bind (Wrap_ok (x := at_) h1 (by omega)) fun r hr => Ok.bind (Wrap_ok (x := how) (n := 3) (by omega) (by omega)) fun r2 _ => ?_
 obtain ⟨r0, r1⟩ := hr
 have h8 : okB8 [by_] = true := by unfold okB8; simp; omega
 have e1 : (⟨(byB8 [by_]).toArray⟩ : ByteArray).size = 1 := rfl
 have s1 := sub_size text 0 r
 have s2 := sub_size text (w64 (r + 1)) (text.size : Int)
 have s3 := sub_size text r (text.size : Int)
 have ew : w64 (r + 1) = r + 1 := w64_id (by omega) (by omega)
 have c1 : (decide ((0 : Int) ≤ 0) && decide (0 ≤ r) && decide (r ≤ (text.size : Int))) = true := by simp; omega
 have c2 : (decide (0 ≤ (w64 (r + 1))) && decide ((w64 (r + 1)) ≤ (text.size : Int)) && decide ((text.size : Int) ≤ (text.size : Int))) = true := by rw [ew]; simp; omega
 have c3 : (decide (0 ≤ r) && decide (r ≤ (text.size : Int)) && decide ((text.size : Int) ≤ (text.size : Int))) = true := by simp; omega
 refine Ok.ite (fun _ => ?_) fun _ => Ok.ite (fun _ => ?_) fun _ => ?_
 ·refine Ok.chk c1 (Ok.chk h8 (Ok.chk (decide_eq_true (by omega)) (Ok.chk c2 (Ok.chk (decide_eq_true (by rw [cat_size]; omega)) (Ok.some ?_)))))
  rw [cat_size, cat_size]; omega
 ·refine Ok.chk c1 (Ok.chk c2 (Ok.chk (decide_eq_true (by omega)) (Ok.some ?_)))
  rw [cat_size]; omega
 ·refine Ok.chk c1 (Ok.chk h8 (Ok.chk (decide_eq_true (by omega)) (Ok.chk c3 (Ok.chk (decide_eq_true (by rw [cat_size]; omega)) (Ok.some ?_)))))
  rw [cat_size, cat_size]; omega
theorem Read_total (text : ByteArray) (h : text.size ≤ 20000 ∨ 20000 < text.size) : ∃ r, Read text = some r ∧ Same r.1 r.1 = some true := by
 have hz : Same zeroC zeroC = some true := Same_self (by show 0 ≤ 1000000; omega) fun t ht => by cases ht
 rcases h with h | h
 ·obtain ⟨r, h1, h2⟩ := Read_ok h
  refine ⟨r, h1, ?_⟩
  rcases h2 with ⟨_, h2⟩ | ⟨_, _, h2⟩
  ·rw [h2]; exact hz
  ·have := text_trucks r.1
   rw [h2, bl_len] at this
   exact Same_self (by omega) fun t ht => by have := this.2 t ht; omega
 ·refine ⟨(zeroC, 0, 5), ?_, hz⟩
  rw [Read_eq]
  unfold readF
  rw [decide_eq_true (by omega)]; rfl
theorem aw_ok : Ok (fun r => r = true) (awake.bind fun r => some r) := by rw [awake_eq]; exact Ok.some rfl
theorem reads_ok {texts : List ByteArray} {r8 : ByteArray} (hn : texts.length ≤ 1000) : Ok (fun r => r = true) (itN _ (fun (v_0 : (Unit × Int × Unit) × (Unit)) kn => Texts_L14 texts r8 v_0.1.2.1 (fun y0 => kn (((), y0, ()), (())))) (((), 0, ()), (()))) := by
 have hlen : (texts ++ [r8]).length = texts.length + 1 := by rw [List.length_append]; rfl
 refine Ok.rounds (inv := fun v => ∃ j : Nat, j ≤ (texts ++ [r8]).length ∧ v.1.2.1 = (j : Int)) (μ := fun v => (texts ++ [r8]).length - v.1.2.1.toNat) (by show (texts ++ [r8]).length - 0 < FUEL; unfold FUEL; omega) ⟨0, Nat.zero_le _, rfl⟩ ?_
 rintro ⟨⟨u1, x, u4⟩, u5⟩ kn ⟨j, hj, e1⟩ hk
 simp only at e1 ⊢
 subst e1
 unfold Texts_L14
 rw [show ((j : Int)).toNat = j by omega]
 refine Ok.ite (fun hlt => ?_) (fun _ => aw_ok)
 have hlt : j < (texts ++ [r8]).length := by have := of_decide_eq_true hlt; omega
 have e := succ64 (j := j) (by omega)
 have i1 := idx_ok hlt
 have i2 : decide (j < (texts ++ [r8]).length) = true := decide_eq_true hlt
 have go : Ok (fun r => r = true) (kn ((u1, w64 ((j : Int) + 1), u4), u5)) := by
  refine hk _ ⟨j + 1, hlt, e⟩ ?_
  show (texts ++ [r8]).length - (w64 ((j : Int) + 1)).toNat < (texts ++ [r8]).length - ((j : Int)).toNat
  rw [e]; omega
 obtain ⟨r, h1, h2⟩ := Read_total ((texts ++ [r8]).getD j ⟨#[]⟩) (by omega)
 have tail : Ok (fun r => r = true) (
   chk (decide (0 ≤ (j : Int)) && decide ((j : Int) < ((texts ++ [r8]).length : Int))) <|
   chk (decide (j < (texts ++ [r8]).length)) <|
   (Read ((texts ++ [r8]).getD j ⟨#[]⟩)).bind fun r9 =>
   chk (decide (0 ≤ (j : Int)) && decide ((j : Int) < ((texts ++ [r8]).length : Int))) <|
   chk (decide (j < (texts ++ [r8]).length)) <|
   (Read ((texts ++ [r8]).getD j ⟨#[]⟩)).bind fun r10 =>
   bif (r9.2.1 != r10.2.1) then
    some false
   else
    bif (r9.2.2 != r10.2.2) then
     some false
    else
     (Same r9.1 r10.1).bind fun r11 =>
     bif (!r11) then
      some false
     else
      kn ((u1, w64 ((j : Int) + 1), u4), u5)) := by
  refine Ok.chk i1 (Ok.chk i2 (Ok.beq h1 (Ok.chk i1 (Ok.chk i2 (Ok.beq h1 ?_)))))
  refine Ok.ite (fun q => by simp at q) fun _ => Ok.ite (fun q => by simp at q) fun _ => Ok.beq h2 (Ok.ite (fun q => (nomatch (show false = true from q))) fun _ => go)
 refine Ok.chk i1 (Ok.chk i2 (Ok.ite (fun _ => Ok.chk i1 (Ok.chk i2 (Ok.ite (fun _ => go) fun _ => tail))) fun _ => tail))
theorem L5_2 : @Texts_L5__2 = @Texts_L5 := rfl
theorem rest_ok {c : Convoy} {r5 : Seed × Convoy} {text : ByteArray} {at_ how by_ : Int} (hb : 0 ≤ by_ ∧ by_ < 256) :
  Ok (fun r => r = true) (itN _ (fun (v_0 : (Unit × (List ByteArray) × Int × Unit) × (Unit)) kn => Texts_L5 itN c r5 at_ how by_ v_0.1.2.1 v_0.1.2.2.1 (fun y0 y1 => kn (((), y0, y1, ()), (())))) (((), [text], 0, ()), (()))) := by
 have hl2 : ([c, r5.2] : List Convoy).length = 2 := rfl
 refine Ok.rounds (inv := fun v => ∃ j : Nat, j ≤ 2 ∧ v.1.2.2.1 = (j : Int) ∧ v.1.2.1.length = j + 1 ∧ ∀ i, 1 ≤ i → i < v.1.2.1.length → (v.1.2.1.getD i ⟨#[]⟩).size ≤ 6000) (μ := fun v => 2 - v.1.2.2.1.toNat) (by show 2 - 0 < FUEL; unfold FUEL; omega) ⟨0, Nat.zero_le _, rfl, rfl, fun i h1 h2 => by have h2 : i < 1 := h2; omega⟩ ?_
 rintro ⟨⟨u1, texts, x, u4⟩, u5⟩ kn ⟨j, hj, e1, e2, e3⟩ hk
 simp only at e1 e2 e3 ⊢
 subst e1
 unfold Texts_L5
 rw [show ((j : Int)).toNat = j by omega, hl2]
 refine Ok.ite (fun hlt => ?_) (fun hge => ?_)
 ·have hlt : j < 2 := by have := of_decide_eq_true hlt; omega
  have i1 := idx_ok hlt
  have i2 : decide (j < 2) = true := decide_eq_true hlt
  obtain ⟨r, h1, h2, h3⟩ := write_both (([c, r5.2] : List Convoy).getD j dfltConvoy)
  refine Ok.chk i1 (Ok.chk i2 (Ok.beq h1 (Ok.chk i1 (Ok.chk i2 (Ok.beq h2 ?_)))))
  refine Ok.ite (fun q => by simp at q) fun _ => Ok.ite (fun q => by simp at q) fun _ => ?_
  refine Ok.chk (by unfold fitA; simp; omega) ?_
  have e := succ64 (j := j) (by omega)
  refine hk _ ⟨j + 1, hlt, e, ?_, ?_⟩ ?_
  ·show (texts ++ [r.1]).length = _
   rw [List.length_append, e2]; rfl
  ·intro i h4 h5
   have h5 : i < (texts ++ [r.1]).length := h5
   show ((texts ++ [r.1]).getD i ⟨#[]⟩).size ≤ 6000
   rw [List.length_append] at h5
   have h6 : [r.1].length = 1 := rfl
   by_cases h7 : i < texts.length
   ·have := e3 i h4 h7
    rw [List.getD_eq_getElem?_getD] at this ⊢
    rw [List.getElem?_append_left h7]; exact this
   ·rw [List.getD_eq_getElem?_getD, List.getElem?_append_right (by omega), show i - texts.length = 0 by omega]
    exact h3
  ·show 2 - (w64 ((j : Int) + 1)).toNat < 2 - ((j : Int)).toNat
   rw [e]; omega
 ·have hj2 : j = 2 := by have := of_decide_eq_false hge; omega
  have h3 : 2 < texts.length := by omega
  have hs := e3 2 (by omega) h3
  refine Ok.chk (idx_ok (k := 2) h3) (Ok.chk (decide_eq_true h3) ?_)
  refine Ok.bind (Damage_ok (at_ := at_) (how := how) (by omega) hb) fun r8 _ => ?_
  exact Ok.chk (by unfold fitA; simp; omega) (reads_ok (by omega))
theorem Texts_true {c : Convoy} {text : ByteArray} {nums : List Int} {at_ how by_ : Int} (hn : nums.length ≤ 9223372036854775807) (hb : 0 ≤ by_ ∧ by_ < 256) : Texts c text nums at_ how by_ = some true := by
 refine ok_eq ?_
 rw [Texts_eq]
 unfold Texts'
 rw [L5_2]
 have rest : Ok (fun r => r = true) ((NewSeed nums).bind fun r4 => (ConvoyOf r4 4).bind fun r5 => itN _ (fun (v_0 : (Unit × (List ByteArray) × Int × Unit) × (Unit)) kn => Texts_L5 itN c r5 at_ how by_ v_0.1.2.1 v_0.1.2.2.1 (fun y0 y1 => kn (((), y0, y1, ()), (())))) (((), [text], 0, ()), (()))) :=
  Ok.bind (NewSeed_ok hn) fun s _ => Ok.bind (ConvoyOf_ok s (most := 4) (by decide) (by decide)) fun r5 _ => rest_ok hb
 refine Ok.bind (big_ok c) fun r _ => Ok.ite (fun _ => aw_ok) fun _ => Ok.ite (fun _ => Ok.ite (fun _ => aw_ok) fun _ => rest) fun _ => rest
end Go.Proofs.Tt05
namespace Go.Proofs.YtmoiedlfimodeaaGreatDoor
open Go Go.Ab Go.ChangeShapes Go.WideShapes Go.ChangeAt Go.RowKit
set_option maxRecDepth 100000
def allK (w : World) : Nat → Nat → Option Value := fun b o => w.cell? ⟨b, o, none⟩
theorem allK_fits (w : World) : Fits (allK w) w := fun _ _ _ h => h
theorem lv_tail {W : World} {x : String × DataW Unit} {r : List (String × DataW Unit)} {ps : List MemPlace} (h : DataW.LaidVars Tryz.prog W (x :: r) ps) : ∃ q, DataW.LaidVars Tryz.prog W r q := by
 obtain ⟨g, t, cs, fuel, p, q, _, _, _, _, h2, _⟩ := h
 exact ⟨q, h2⟩
theorem gl_ok {W : World} {name : String} {g : Nat} {cs : Array Value} {l : List D} {u : List Value} (hg : Tryz.prog.globalNamed name = some g) (hvar : W.var? Tryz.prog name = some cs) (hu : cs.toList = u) (hl : allCell l = true) (hr : RepL (allK W) γ0 sv0 l u) :
  allCell l = true ∧ ∃ u, RepL (allK W) γ0 sv0 l u ∧ ∀ j v, u[j]? = some v → allK W g j = some v :=
 ⟨hl, u, hr, fun j v hj => by
  have : W.cell? ⟨g, j, none⟩ = cs[j]? := World.var?_cell hg hvar j
  show W.cell? ⟨g, j, none⟩ = some v
  rw [this, ← hj, ← hu]; simp⟩
theorem rowSz_of {W : World} {name : String} {g : Nat} {cs : Array Value} (hg : Tryz.prog.globalNamed name = some g) (hvar : W.var? Tryz.prog name = some cs) : RowSz W g cs.size := by
 simp only [World.var?, hg, Option.bind_some] at hvar
 split at hvar
 ·rename_i c t f h
  simp only [Option.some.injEq] at hvar
  subst hvar
  exact ⟨c, t, f, h, rfl⟩
 ·cases hvar
theorem repL_int {κ : Nat → Nat → Option Value} {γ : Nat → Nat} {sv : Nat → Value} (k : IntKind) : ∀ zs : List Int, RepL κ γ sv (zs.map (D.int k)) (zs.map (Value.int k))
 | [] => .nil
 | z :: zs => .cons _ _ _ _ (.int k z) (repL_int k zs)
theorem cells3 : Tryz.prog.cellsOf 3 = 1 := by kernel_rfl
theorem cells9 : Tryz.prog.cellsOf 9 = 1 := by kernel_rfl
theorem cells58 : Tryz.prog.cellsOf 58 = 1 := by kernel_rfl
theorem cells74 : Tryz.prog.cellsOf 74 = 3 := by kernel_rfl
theorem cells125 : Tryz.prog.cellsOf 125 = 2 := by kernel_rfl
theorem cells126 : Tryz.prog.cellsOf 126 = 8 := by kernel_rfl
theorem cells149 : Tryz.prog.cellsOf 149 = 20 := by kernel_rfl
def pow10s : List Int := [1, 10, 100, 1000, 10000, 100000, 1000000, 10000000, 100000000, 1000000000, 10000000000, 100000000000, 1000000000000, 10000000000000, 100000000000000, 1000000000000000, 10000000000000000, 100000000000000000, 1000000000000000000, 10000000000000000000]
section
variable {W : World} {ps : List MemPlace} {r : List (String × DataW Unit)}
theorem pow_at (h : DataW.LaidVars Tryz.prog W (("internal/strconv.uint64pow10", Rows.laid_internal_strconv_uint64pow10) :: r) ps) : ∃ cs, W.var? Tryz.prog "internal/strconv.uint64pow10" = some cs ∧ cs.toList = pow10s.map (Value.int .u64) := by
 obtain ⟨g, t, cs, fuel, p, q, hg, ht, hvar, hd, _, _⟩ := h
 have hg0 : Tryz.prog.globalNamed "internal/strconv.uint64pow10" = some 2 := by kernel_rfl
 have ht0 : (Tryz.prog.globals[2]?).map (·.type) = some 149 := by kernel_rfl
 obtain rfl := Option.some.inj (hg0.symm.trans hg)
 obtain rfl := Option.some.inj (ht0.symm.trans ht)
 exact ⟨cs, hvar, Lib.cells_of_tab (zs := pow10s) Tryz.underlying149 Tryz.underlying58 cells58 cells149 hd⟩
theorem cases_at (h : DataW.LaidVars Tryz.prog W (("sastrugi/convoy.cases", Rows.laid_sastrugi_convoy_cases) :: r) ps) : ∃ cs, W.var? Tryz.prog "sastrugi/convoy.cases" = some cs ∧ cs.toList = [0, 0, 1, 0, 0, 1, 1, 1].map (Value.int .i64) := by
 obtain ⟨g, t, cs, fuel, p, q, hg, ht, hvar, hd, _, _⟩ := h
 have hg0 : Tryz.prog.globalNamed "sastrugi/convoy.cases" = some 1 := by kernel_rfl
 have ht0 : (Tryz.prog.globals[1]?).map (·.type) = some 126 := by kernel_rfl
 obtain rfl := Option.some.inj (hg0.symm.trans hg)
 obtain rfl := Option.some.inj (ht0.symm.trans ht)
 obtain ⟨xs, m, rfl, hx, hlen, hxl, he⟩ := DataW.trod_array Tryz.underlying126 hd
 have hx1 := congrArg Prod.fst hx
 simp only [Rows.laid_sastrugi_convoy_cases, DataW.agg.injEq] at hx1
 rw [cells126] at hlen
 rw [cells125] at he
 have row : ∀ i a b, i < 4 → (xs.map (·.1))[i]? = some (.agg [.lit (.int .i64 a), .lit (.int .i64 b)]) → (cs.toList.drop (i * 2)).take 2 = [Value.int .i64 a, Value.int .i64 b] := fun i a b hi hi2 => by
  rw [List.getElem?_map] at hi2
  obtain ⟨y, hy, hy2⟩ := Option.map_eq_some_iff.1 hi2
  have h1 := he i hi
  rw [hy] at h1
  obtain ⟨d, p'⟩ := y
  simp only at hy2
  subst hy2
  exact Lib.cells_of_tab (zs := [a, b]) Tryz.underlying125 Tryz.underlying3 cells3 cells125 h1
 rw [← hx1] at row
 have r0 := row 0 0 0 (by decide) rfl
 have r1 := row 1 1 0 (by decide) rfl
 have r2 := row 2 0 1 (by decide) rfl
 have r3 := row 3 1 1 (by decide) rfl
 refine ⟨cs, hvar, ?_⟩
 generalize cs.toList = l at hlen r0 r1 r2 r3
 rcases l with _ | ⟨c0, _ | ⟨c1, _ | ⟨c2, _ | ⟨c3, _ | ⟨c4, _ | ⟨c5, _ | ⟨c6, _ | ⟨c7, _ | ⟨c8, l⟩⟩⟩⟩⟩⟩⟩⟩⟩ <;> simp at hlen
 simp at r0 r1 r2 r3
 obtain ⟨rfl, rfl⟩ := r0
 obtain ⟨rfl, rfl⟩ := r1
 obtain ⟨rfl, rfl⟩ := r2
 obtain ⟨rfl, rfl⟩ := r3
 rfl
theorem ways_at (h : DataW.LaidVars Tryz.prog W (("sastrugi/convoy.ways", Rows.laid_sastrugi_convoy_ways) :: r) ps) : ∃ cs, W.var? Tryz.prog "sastrugi/convoy.ways" = some cs ∧ cs.toList = [.string ⟨#[]⟩, .string ⟨#[117, 112]⟩, .string ⟨#[100, 111, 119, 110]⟩] := by
 obtain ⟨g, t, cs, fuel, p, q, hg, ht, hvar, hd, _, _⟩ := h
 have hg0 : Tryz.prog.globalNamed "sastrugi/convoy.ways" = some 0 := by kernel_rfl
 have ht0 : (Tryz.prog.globals[0]?).map (·.type) = some 74 := by kernel_rfl
 obtain rfl := Option.some.inj (hg0.symm.trans hg)
 obtain rfl := Option.some.inj (ht0.symm.trans ht)
 obtain ⟨xs, m, rfl, hx, hlen, hxl, he⟩ := DataW.trod_array Tryz.underlying74 hd
 have hx1 := congrArg Prod.fst hx
 simp only [Rows.laid_sastrugi_convoy_ways, DataW.agg.injEq] at hx1
 rw [cells74] at hlen
 rw [cells9] at he
 have row : ∀ i (b : List UInt8), i < 3 → (xs.map (·.1))[i]? = some (.lit (.string b)) → (cs.toList.drop (i * 1)).take 1 = [Value.string ⟨b.toArray⟩] := fun i b hi hi2 => by
  rw [List.getElem?_map] at hi2
  obtain ⟨y, hy, hy2⟩ := Option.map_eq_some_iff.1 hi2
  have h1 := he i hi
  rw [hy] at h1
  obtain ⟨d, p'⟩ := y
  simp only at hy2
  subst hy2
  obtain ⟨s, e1, e2, _⟩ := DataW.trod_string Tryz.underlying9 h1
  rw [e1]
  have e3 := congrArg Prod.fst e2
  simp only [DataW.lit.injEq, Lit.string.injEq] at e3
  subst e3
  simp
 rw [← hx1] at row
 have r0 := row 0 [] (by decide) rfl
 have r1 := row 1 [117, 112] (by decide) rfl
 have r2 := row 2 [100, 111, 119, 110] (by decide) rfl
 refine ⟨cs, hvar, ?_⟩
 generalize cs.toList = l at hlen r0 r1 r2
 rcases l with _ | ⟨c0, _ | ⟨c1, _ | ⟨c2, _ | ⟨c3, l⟩⟩⟩⟩ <;> simp at hlen
 simp at r0 r1 r2
 subst r0 r1 r2
 rfl
end
theorem nn_of {H : Type} {enc : TypeId × Value → H} {P : Program} {w : World} {base : Nat} {spare : Nat → Bool} {held : Bool} {fuel : Nat} {t : TypeId} {ms : Array (String × TypeId)} {cs : List Value} {name : String} {d : DataW H} {ps : List MemPlace}
  (ht : P.underlying t = some (.interface ms)) (h : DataW.trod enc P w base spare held fuel t cs = some (.iface name d, ps)) : ∃ u v, cs = [.iface u v] := by
 cases fuel with
 | zero => simp [DataW.trod] at h
 | succ n =>
  rcases cs with _ | ⟨v, _ | ⟨v2, r⟩⟩
  ·simp [DataW.trod, ht] at h
  ·cases v with
   | iface u v => exact ⟨u, v, rfl⟩
   | _ => simp [DataW.trod, ht] at h
  ·simp [DataW.trod, ht] at h
section
variable {W : World} {ps : List MemPlace} {r : List (String × DataW Unit)}
theorem er_at {name : String} {n : Nat} {nm : String} {d : DataW Unit} (hg0 : Tryz.prog.globalNamed name = some n) (ht0 : (Tryz.prog.globals[n]?).map (·.type) = some 68) (h : DataW.LaidVars Tryz.prog W ((name, .iface nm d) :: r) ps) : ∃ cs u v, W.var? Tryz.prog name = some cs ∧ cs.toList = [.iface u v] := by
 obtain ⟨g, t, cs, fuel, p, q, hg, ht, hvar, hd, _, _⟩ := h
 obtain rfl := Option.some.inj (hg0.symm.trans hg)
 obtain rfl := Option.some.inj (ht0.symm.trans ht)
 obtain ⟨u, v, e⟩ := nn_of Tryz.underlying68 hd
 exact ⟨cs, u, v, hvar, e⟩
end
theorem glob_of {W : World} (h : laidMetH Tryz.prog [("math/bits.deBruijn32tab", Rows.laid_math_bits_deBruijn32tab), ("math/bits.deBruijn64tab", Rows.laid_math_bits_deBruijn64tab), ("internal/strconv.uint64pow10", Rows.laid_internal_strconv_uint64pow10), ("unicode/utf8.acceptRanges", Rows.laid_unicode_utf8_acceptRanges), ("strconv.ErrRange", Rows.laid_strconv_ErrRange), ("strconv.ErrSyntax", Rows.laid_strconv_ErrSyntax), ("sastrugi/convoy.cases", Rows.laid_sastrugi_convoy_cases), ("sastrugi/convoy.ways", Rows.laid_sastrugi_convoy_ways), ("unicode/utf8.first", Rows.laid_unicode_utf8_first)] W) (hsh : W.ShapedOpen Tryz.prog) : GlobOk iseat.toSeat (allK W) W := by
 have h' : laidMet Tryz.prog [("math/bits.deBruijn32tab", Rows.laid_math_bits_deBruijn32tab), ("math/bits.deBruijn64tab", Rows.laid_math_bits_deBruijn64tab), ("internal/strconv.uint64pow10", Rows.laid_internal_strconv_uint64pow10), ("unicode/utf8.acceptRanges", Rows.laid_unicode_utf8_acceptRanges), ("strconv.ErrRange", Rows.laid_strconv_ErrRange), ("strconv.ErrSyntax", Rows.laid_strconv_ErrSyntax), ("sastrugi/convoy.cases", Rows.laid_sastrugi_convoy_cases), ("sastrugi/convoy.ways", Rows.laid_sastrugi_convoy_ways), ("unicode/utf8.first", Rows.laid_unicode_utf8_first)] W := h
 obtain ⟨ps, h0, _⟩ := h'
 obtain ⟨_, h1⟩ := lv_tail h0
 obtain ⟨_, h2⟩ := lv_tail h1
 obtain ⟨_, h3⟩ := lv_tail h2
 obtain ⟨_, h4⟩ := lv_tail h3
 obtain ⟨_, h5⟩ := lv_tail h4
 obtain ⟨_, h6⟩ := lv_tail h5
 obtain ⟨_, h7⟩ := lv_tail h6
 obtain ⟨c2, v2, u2⟩ := pow_at h2
 obtain ⟨c1, v1, u1⟩ := cases_at h6
 obtain ⟨c0, v0, u0⟩ := ways_at h7
 obtain ⟨c7, t7, p7, v7, u7⟩ := er_at (n := 7) (by kernel_rfl) (by kernel_rfl) h4
 obtain ⟨c6, t6, p6, v6, u6⟩ := er_at (n := 6) (by kernel_rfl) (by kernel_rfl) h5
 obtain ⟨m, hm⟩ := cell_of_shapedOpen_int (g := 3) (t := 3) (zero := #[.int .i64 0]) (k := .i64) hsh (of_decide_eq_true (by kernel_rfl)) (by kernel_rfl) rfl (by kernel_rfl) (by kernel_rfl) Tryz.underlying3
 constructor
 ·intro g l hl
  have hl' : globs g = some l := hl
  unfold globs at hl'
  split at hl'
  ·simp only [Option.some.injEq] at hl'
   subst hl'
   exact gl_ok (name := "sastrugi/convoy.ways") (by kernel_rfl) v0 u0 rfl (.cons _ _ _ _ (.str _) (.cons _ _ _ _ (.str _) (.cons _ _ _ _ (.str _) .nil)))
  ·simp only [Option.some.injEq] at hl'
   subst hl'
   exact gl_ok (name := "sastrugi/convoy.cases") (by kernel_rfl) v1 u1 rfl (repL_int .i64 [0, 0, 1, 0, 0, 1, 1, 1])
  ·simp only [Option.some.injEq] at hl'
   subst hl'
   exact gl_ok (name := "internal/strconv.uint64pow10") (by kernel_rfl) v2 u2 rfl (repL_int .u64 pow10s)
  ·simp only [Option.some.injEq] at hl'
   subst hl'
   refine ⟨rfl, [.int .i64 m], .cons _ _ _ _ (.lk _ _ ⟨m, rfl⟩) .nil, fun j v hj => ?_⟩
   rcases j with _ | j
   ·cases hj; exact hm
   ·cases hj
  ·simp only [Option.some.injEq] at hl'
   subst hl'
   exact gl_ok (name := "strconv.ErrSyntax") (by kernel_rfl) v6 u6 rfl (.cons _ _ _ _ (.lk _ _ ⟨t6, p6, rfl⟩) .nil)
  ·simp only [Option.some.injEq] at hl'
   subst hl'
   exact gl_ok (name := "strconv.ErrRange") (by kernel_rfl) v7 u7 rfl (.cons _ _ _ _ (.lk _ _ ⟨t7, p7, rfl⟩) .nil)
  ·cases hl'
 ·intro g n hn
  have hn' : gszs g = some n := hn
  unfold gszs at hn'
  split at hn'
  ·simp only [Option.some.injEq] at hn'
   subst hn'
   have h5 := rowSz_of (name := "internal/strconv.uint64pow10") (g := 2) (by kernel_rfl) v2
   have h6 : c2.size = 20 := by
    have := congrArg List.length u2
    simpa [pow10s] using this
   rw [h6] at h5
   exact h5
  ·cases hn'
theorem cells22 : Tryz.prog.cellsOf 22 = 1 := by kernel_rfl
theorem cells24 : Tryz.prog.cellsOf 24 = 4 := by kernel_rfl
theorem cells42 : Tryz.prog.cellsOf 42 = 2 := by kernel_rfl
theorem cells43 : Tryz.prog.cellsOf 43 = 1 := by kernel_rfl
theorem cells45 : Tryz.prog.cellsOf 45 = 5 := by kernel_rfl
theorem cells76 : Tryz.prog.cellsOf 76 = 2 := by kernel_rfl
section
variable {H : Type} {enc : TypeId × Value → H} {W : World}
def Rd {α : Type} (enc : TypeId × Value → H) (W : World) (t : TypeId) (ec : α → List D) : Prop :=
 ∀ n cs x, DataW.trod enc Tryz.prog W 0 (fun _ => true) true n t cs = some x → ∃ a : α, RepL (allK W) γ0 sv0 (ec a) cs
theorem rd_int : Rd enc W 3 encI := by
 intro n cs x h
 obtain ⟨a, rfl, _⟩ := DataW.trod_int Tryz.underlying3 h
 exact ⟨a, .cons _ _ _ _ (.int _ _) .nil⟩
theorem rd_slice {α : Type} [Inhabited α] {t e z : Nat} {ec : α → List D} (ht : Tryz.prog.underlying t = some (.slice e)) (hz : Tryz.prog.cellsOf e = z) (hz0 : 0 < z) (hl : ∀ a, (ec a).length = z)
  (hc : ∀ a, allCell (ec a) = true) (hr : Rd enc W e ec) : Rd enc W t (fun l : List α => [slOf z ec l]) := by
 intro n cs x h
 rcases Deep.open_slice ht h with ⟨rfl, rfl⟩ | ⟨a, len, cap, m, n', D, Pl, rfl, _, hlc, _, hm, rfl, hx⟩
 ·exact ⟨[], .cons _ _ _ _ (.sl0 _ _) .nil⟩
 ·simp only [if_true] at hm
  subst hm
  rw [hz] at hx
  rcases Nat.eq_zero_or_pos len with rfl | hpos
  ·exact ⟨[], .cons _ _ _ _ (.slE _ _ _ _) .nil⟩
  ·have hx' : ∀ i, i < len → ∃ p : α × List Value, W.cells? 0 (a.add (i * z)) z = some p.2 ∧ RepL (allK W) γ0 sv0 (ec p.1) p.2 := fun i hi => by
    obtain ⟨cs', h1, h2⟩ := hx i (by omega)
    obtain ⟨b, hb⟩ := hr _ _ _ h2
    exact ⟨(b, cs'), h1, hb⟩
   obtain ⟨F, hF⟩ := Deep.choose_lt hx'
   have hsp : a.spot = none := by
    obtain ⟨_, h1, h2⟩ := World.cells?_some (hF 0 hpos).1
    have h3 := h2 0 hz0
    rw [List.getElem?_eq_getElem (by omega)] at h3
    simpa [Addr.add] using World.cell?_spot h3
   obtain ⟨b, off, sp⟩ := a
   simp only at hsp
   subst hsp
   refine ⟨(List.range len).map (fun i => (F i).1), .cons _ _ _ _ ?_ .nil⟩
   have hlen : ((List.range len).map (fun i => (F i).1)).length = len := by simp
   have hg : ∀ i, i < len → ((List.range len).map (fun i => (F i).1)).getD i default = (F i).1 := fun i hi => by simp [List.getD, hi]
   unfold slOf
   rw [hlen]
   refine .sl z len _ b off m (fun i => (F i).2) hlc (fun i _ => hl _) (fun i _ => hc _) (fun i hi => by rw [hg i hi]; exact (hF i hi).2) (fun i j v hi hj => ?_)
   obtain ⟨_, h1, h2⟩ := World.cells?_some (hF i hi).1
   have hjl := (List.getElem?_eq_some_iff.1 hj).1
   have h3 := h2 j (by omega)
   rw [add_plain, add_plain, hj] at h3
   exact h3
theorem fld {fs : Array Field} {xs : List (DataW H × List MemPlace)} {cs : List Value} {n : Nat}
  (hf : ∀ (i : Nat) (f : Field), fs[i]? = some f → DataW.trod enc Tryz.prog W 0 (fun _ => true) true n f.type ((cs.drop f.offset).take (Tryz.prog.cellsOf f.type)) = xs[i]?)
  (hl : xs.length = fs.size) (i : Nat) (f : Field) (hi : fs[i]? = some f) : ∃ y, DataW.trod enc Tryz.prog W 0 (fun _ => true) true n f.type ((cs.drop f.offset).take (Tryz.prog.cellsOf f.type)) = some y := by
 have h1 := (Array.getElem?_eq_some_iff.1 hi).1
 rw [← hl] at h1
 exact ⟨xs[i], by rw [hf i f hi]; exact List.getElem?_eq_getElem h1⟩
theorem rd_hold : Rd enc W 76 encDHold := by
 intro n cs x h
 obtain ⟨xs, m, rfl, rfl, hlen, hxl, hf⟩ := DataW.trod_struct Tryz.underlying76 h
 obtain ⟨y0, h0⟩ := fld hf hxl 0 _ rfl
 obtain ⟨y1, h1⟩ := fld hf hxl 1 _ rfl
 obtain ⟨a0, e0, _⟩ := DataW.trod_int Tryz.underlying3 h0
 obtain ⟨a1, e1, _⟩ := DataW.trod_int Tryz.underlying3 h1
 rw [cells76] at hlen
 rcases cs with _ | ⟨c0, _ | ⟨c1, _ | ⟨c2, cs⟩⟩⟩ <;> simp at hlen
 simp [cells3] at e0 e1
 subst e0 e1
 exact ⟨⟨a0, a1⟩, .cons _ _ _ _ (.int _ _) (.cons _ _ _ _ (.int _ _) .nil)⟩
theorem rd_span : Rd enc W 42 encDSpan := by
 intro n cs x h
 obtain ⟨xs, m, rfl, rfl, hlen, hxl, hf⟩ := DataW.trod_struct Tryz.underlying42 h
 obtain ⟨y0, h0⟩ := fld hf hxl 0 _ rfl
 obtain ⟨y1, h1⟩ := fld hf hxl 1 _ rfl
 obtain ⟨a0, e0, _⟩ := DataW.trod_int Tryz.underlying3 h0
 obtain ⟨a1, e1, _⟩ := DataW.trod_int Tryz.underlying3 h1
 rw [cells42] at hlen
 rcases cs with _ | ⟨c0, _ | ⟨c1, _ | ⟨c2, cs⟩⟩⟩ <;> simp at hlen
 simp [cells3] at e0 e1
 subst e0 e1
 exact ⟨⟨a0, a1⟩, .cons _ _ _ _ (.int _ _) (.cons _ _ _ _ (.int _ _) .nil)⟩
theorem rd_truck : Rd enc W 45 encDTruck := by
 intro n cs x h
 obtain ⟨xs, m, rfl, rfl, hlen, hxl, hf⟩ := DataW.trod_struct Tryz.underlying45 h
 obtain ⟨y0, h0⟩ := fld hf hxl 0 _ rfl
 obtain ⟨y1, h1⟩ := fld hf hxl 1 _ rfl
 obtain ⟨y2, h2⟩ := fld hf hxl 2 _ rfl
 obtain ⟨y3, h3⟩ := fld hf hxl 3 _ rfl
 obtain ⟨a0, e0, _⟩ := DataW.trod_int Tryz.underlying3 h0
 obtain ⟨a1, e1, _⟩ := DataW.trod_int Tryz.underlying3 h1
 obtain ⟨s, e2⟩ := rd_span _ _ _ h2
 obtain ⟨l, e3⟩ := rd_slice (ec := encDHold) Tryz.underlying43 cells76 (by decide) (fun _ => rfl) (fun _ => rfl) rd_hold _ _ _ h3
 rw [cells45] at hlen
 rcases cs with _ | ⟨c0, _ | ⟨c1, _ | ⟨c2, _ | ⟨c3, _ | ⟨c4, _ | ⟨c5, cs⟩⟩⟩⟩⟩⟩ <;> simp at hlen
 simp [cells3, cells42, cells43, cells22] at e0 e1 e2 e3
 subst e0 e1
 cases e2 with
 | cons _ _ _ _ k2 r2 =>
  cases r2 with
  | cons _ _ _ _ k3 _ =>
   cases e3 with
   | cons _ _ _ _ k4 _ => exact ⟨⟨a0, a1, s, l⟩, .cons _ _ _ _ (.int _ _) (.cons _ _ _ _ (.int _ _) (.cons _ _ _ _ k2 (.cons _ _ _ _ k3 (.cons _ _ _ _ k4 .nil))))⟩
theorem rd_convoy : Rd enc W 24 encDConvoy := by
 intro n cs x h
 obtain ⟨xs, m, rfl, rfl, hlen, hxl, hf⟩ := DataW.trod_struct Tryz.underlying24 h
 obtain ⟨y0, h0⟩ := fld hf hxl 0 _ rfl
 obtain ⟨y1, h1⟩ := fld hf hxl 1 _ rfl
 obtain ⟨y2, h2⟩ := fld hf hxl 2 _ rfl
 obtain ⟨y3, h3⟩ := fld hf hxl 3 _ rfl
 obtain ⟨a0, e0, _⟩ := DataW.trod_int Tryz.underlying3 h0
 obtain ⟨a1, e1, _⟩ := DataW.trod_int Tryz.underlying3 h1
 obtain ⟨a2, e2, _⟩ := DataW.trod_int Tryz.underlying3 h2
 obtain ⟨l, e3⟩ := rd_slice (ec := encDTruck) Tryz.underlying22 cells45 (by decide) (fun _ => rfl) (fun _ => rfl) rd_truck _ _ _ h3
 rw [cells24] at hlen
 rcases cs with _ | ⟨c0, _ | ⟨c1, _ | ⟨c2, _ | ⟨c3, _ | ⟨c4, cs⟩⟩⟩⟩⟩ <;> simp at hlen
 simp [cells3, cells42, cells43, cells22] at e0 e1 e2 e3
 subst e0 e1 e2
 cases e3 with
 | cons _ _ _ _ k3 _ => exact ⟨⟨a0, a1, a2, l⟩, .cons _ _ _ _ (.int _ _) (.cons _ _ _ _ (.int _ _) (.cons _ _ _ _ (.int _ _) (.cons _ _ _ _ k3 .nil)))⟩
theorem arg_int {v : Value} {d : DataW H} {ps : List MemPlace} {base : Nat} (hv : Value.okWide Tryz.prog W .any base 3 v) (h : DataW.Trod enc Tryz.prog W 0 (fun _ => true) true 3 v d ps) :
  ∃ n : Int, Rep (allK W) γ0 sv0 (.int .i64 n) v := by
 obtain ⟨n, hn⟩ := h
 obtain ⟨a, e, _⟩ := DataW.trod_int Tryz.underlying3 hn
 cases v with
 | int k m => simp [Value.cells] at e; obtain ⟨rfl, rfl⟩ := e; exact ⟨m, .int _ _⟩
 | agg cs => simp [Value.okWide, Cell.okWide, Cell.ok, Tryz.underlying3] at hv
 | _ => simp [Value.cells] at e
theorem arg_u8 {v : Value} {d : DataW H} {ps : List MemPlace} {base : Nat} (hv : Value.okWide Tryz.prog W .any base 5 v) (h : DataW.Trod enc Tryz.prog W 0 (fun _ => true) true 5 v d ps) :
  ∃ n : Int, Rep (allK W) γ0 sv0 (.int .u8 n) v ∧ 0 ≤ n ∧ n < 256 := by
 obtain ⟨n, hn⟩ := h
 obtain ⟨a, e, _, hw⟩ := DataW.trod_int Tryz.underlying5 hn
 have hb : 0 ≤ a ∧ a < 256 := by
  simp only [Lit.wf, Bool.and_eq_true, decide_eq_true_eq] at hw
  have h1 : IntKind.u8.min = 0 := by decide
  have h2 : IntKind.u8.max = 255 := by decide
  rw [h1, h2] at hw
  omega
 cases v with
 | int k m => simp [Value.cells] at e; obtain ⟨rfl, rfl⟩ := e; exact ⟨m, .int _ _, hb⟩
 | agg cs => simp [Value.okWide, Cell.okWide, Cell.ok, Tryz.underlying5] at hv
 | _ => simp [Value.cells] at e
theorem arg_struct {α : Type} {ec : α → List D} {t : TypeId} {fs : Array Field} (hu : Tryz.prog.underlying t = some (.struct fs)) (hr : Rd enc W t ec) {v : Value} {d : DataW H} {ps : List MemPlace} {base : Nat} (hv : Value.okWide Tryz.prog W .any base t v) (h : DataW.Trod enc Tryz.prog W 0 (fun _ => true) true t v d ps) :
  ∃ c : α, Rep (allK W) γ0 sv0 (.agg (ec c)) v := by
 simp only [Value.okWide, hu] at hv
 obtain ⟨cs, rfl, _⟩ := hv
 obtain ⟨n, hn⟩ := h
 obtain ⟨c, hc⟩ := hr _ _ _ hn
 have := Rep.agg _ _ hc
 simp [Value.cells] at this
 exact ⟨c, this⟩
theorem arg_ints {v : Value} {d : DataW H} {ps : List MemPlace} {base : Nat} (hv : Value.okWide Tryz.prog W .any base 25 v) (h : DataW.Trod enc Tryz.prog W 0 (fun _ => true) true 25 v d ps) :
  ∃ l : List Int, Rep (allK W) γ0 sv0 (slOf 1 encI l) v := by
 obtain ⟨n, hn⟩ := h
 obtain ⟨l, hl⟩ := rd_slice (ec := encI) Tryz.underlying25 cells3 (by decide) (fun _ => rfl) (fun _ => rfl) rd_int _ _ _ hn
 obtain ⟨a0, len, cap, rfl⟩ := okWide_slice Tryz.underlying25 hv
 cases hl with
 | cons _ _ _ _ k _ => exact ⟨l, k⟩
theorem arg_str {v : Value} {d : DataW H} {ps : List MemPlace} {base : Nat} (hv : Value.okWide Tryz.prog W .any base 9 v) (h : DataW.Trod enc Tryz.prog W 0 (fun _ => true) true 9 v d ps) :
  ∃ s : ByteArray, Rep (allK W) γ0 sv0 (.str s) v := by
 obtain ⟨n, hn⟩ := h
 obtain ⟨s, e, _⟩ := DataW.trod_string Tryz.underlying9 hn
 cases v with
 | string s => exact ⟨s, .str _⟩
 | agg cs => simp [Value.okWide, Cell.okWide, Cell.ok, Tryz.underlying9] at hv
 | _ => simp [Value.cells] at e
end
theorem ints_len {κ : Nat → Nat → Option Value} {γ : Nat → Nat} {sv : Nat → Value} {W : World} {base : Nat} {v : Value} {l : List Int} (hv : Value.okWide Tryz.prog W .any base 25 v) (h : Rep κ γ sv (slOf 1 encI l) v) : l.length ≤ 9223372036854775807 := by
 unfold slOf at h
 generalize hn : l.length = n at h
 cases h with
 | sl0 => omega
 | slE => omega
 | sl _ _ _ b off cap u hc =>
  simp only [Value.okWide, Cell.okWide, Cell.ok, Tryz.underlying25] at hv
  have h1 := hv.2.1
  have h2 : IntKind.i64.max = 9223372036854775807 := by decide
  rw [h2] at h1
  omega
theorem laidOut : laidOutB Tryz.prog = true := by kernel_rfl
theorem own : ownKnob Tryz.prog.godebug = none := by kernel_rfl
theorem trodAll_stays {H : Type} {enc : TypeId × Value → H} {W W' : World} {sp' : Nat → Bool} (hb : Below W.heap.size W W') : ∀ {ts : List TypeId} {vs : List Value} {ds : List (DataW H)} {ps : List MemPlace},
  (∀ t ∈ ts, Tryz.prog.readableRec t = true ∧ t < Tryz.prog.types.size) → DataW.TrodAll enc Tryz.prog W 0 (fun _ => true) true ts vs ds ps → (∀ p ∈ ps, p.block < W.heap.size) → (∀ p ∈ ps, sp' p.block = true) →
  DataW.TrodAll enc Tryz.prog W' 0 sp' true ts vs ds ps
 | [], [], [], _, _, h, _, _ => h
 | _ :: _, _ :: _, _ :: _, _, hT, ⟨p, q, h1, h2, e⟩, hlt, hs => ⟨p, q,
   WideElems.Trod_stays laidOut (hT _ (List.mem_cons_self ..)).1 (hT _ (List.mem_cons_self ..)).2 h1 (fun x hx => hb.same (hlt x (by rw [e]; exact List.mem_append_left _ hx))) (fun x hx => hs x (by rw [e]; exact List.mem_append_left _ hx)),
   trodAll_stays hb (fun t ht => hT t (List.mem_cons_of_mem _ ht)) h2 (fun x hx => hlt x (by rw [e]; exact List.mem_append_right _ hx)) (fun x hx => hs x (by rw [e]; exact List.mem_append_right _ hx)), e⟩
theorem post_yes {H : Type} {enc : TypeId × Value → H} {f : Func} {s : ChangeSpec} {W W' : World} {args : Array Value} {ds gs : List (DataW H)} {before : List MemPlace}
  (hW : DataW.Whole enc Tryz.prog f.params.toList s.vars false W args.toList ds gs before) (hv : s.vars = []) (hb : Below W.heap.size W W')
  (hT : ∀ t ∈ f.params.toList, Tryz.prog.readableRec t = true ∧ t < Tryz.prog.types.size) (hrt : f.resultTypes = #[4])
  (hr : (s.fn H (ds ++ gs)).results = [.lit (.bool true)]) (ha : (s.fn H (ds ++ gs)).args = ds) (hvs : (s.fn H (ds ++ gs)).vars = []) :
  s.post enc Tryz.prog f false true false false W args (.bool true) W' := by
 have hlt := hW.lt
 have hW2 := hW
 obtain ⟨p, q, hA, hV, rfl, _, _⟩ := hW
 rw [hv] at hV
 obtain ⟨rfl, rfl⟩ := trodVars_none hV
 refine ⟨ds, [], p ++ [], [], p, [], hW2, ?_, ?_, ?_, hb.frame _, fun h => by cases h⟩
 ·rw [hr, hrt]
  exact trodAll_mk1 (shut_bool Tryz.underlying4 _)
 ·rw [ha]
  exact trodAll_stays hb hT hA (fun x hx => hlt x (by simpa using hx)) (fun x hx => by simpa using hlt x (by simpa using hx))
 ·rw [hvs, hv]; rfl
def layV (l : List Value) : Obj → Obj
 | .cells _ t frozen => .cells l.toArray t frozen
 | o => o
def deB32 : List Int := [0, 1, 28, 2, 29, 14, 24, 3, 30, 22, 20, 15, 25, 17, 4, 8, 31, 27, 13, 23, 21, 19, 16, 7, 26, 12, 18, 6, 11, 5, 10, 9]
def deB64 : List Int := [0, 1, 56, 2, 57, 49, 28, 3, 61, 58, 42, 50, 38, 29, 17, 4, 62, 47, 59, 36, 45, 43, 51, 22, 53, 39, 33, 30, 24, 18, 12, 5, 63, 55, 48, 27, 60, 41, 37, 16, 46, 35, 44, 21, 52, 32, 23, 11, 54, 26, 40, 15, 34, 20, 31, 10, 25, 14, 19, 9, 13, 8, 7, 6]
def acc : List Int := [128, 191, 160, 191, 128, 159, 144, 191, 128, 143, 0, 0, 0, 0, 0, 0, 0, 0, 0, 0, 0, 0, 0, 0, 0, 0, 0, 0, 0, 0, 0, 0]
def rangeS : ByteArray := ⟨#[118, 97, 108, 117, 101, 32, 111, 117, 116, 32, 111, 102, 32, 114, 97, 110, 103, 101]⟩
def synS : ByteArray := ⟨#[105, 110, 118, 97, 108, 105, 100, 32, 115, 121, 110, 116, 97, 120]⟩
noncomputable def low : Nat := (World.holding Tryz.prog default ⟨#[], #[], []⟩).heap.size
noncomputable def laidWorld (os : Os) : World :=
 { World.holding Tryz.prog os ⟨#[.cells #[.string rangeS] 181, .cells #[.string synS] 181], #[], []⟩ with heap := (((((((((World.holding Tryz.prog os ⟨#[.cells #[.string rangeS] 181, .cells #[.string synS] 181], #[], []⟩).heap.modify 0 (layV [.string ⟨#[]⟩, .string ⟨#[117, 112]⟩, .string ⟨#[100, 111, 119, 110]⟩])).modify 1 (layV ([0, 0, 1, 0, 0, 1, 1, 1].map (Value.int .i64)))).modify 2 (layV (pow10s.map (Value.int .u64)))).modify 4 (layV (Go.Pinned.utf8FirstZ.map fun (n : Nat) => Value.int .u8 (n : Int)))).modify 5 (layV (acc.map (Value.int .u8)))).modify 6 (layV [.iface 179 (.pointer (some ⟨low + 1, 0, none⟩))])).modify 7 (layV [.iface 179 (.pointer (some ⟨low, 0, none⟩))])).modify 8 (layV (deB32.map (Value.int .u8)))).modify 9 (layV (deB64.map (Value.int .u8))) }
end Go.Proofs.YtmoiedlfimodeaaGreatDoor
