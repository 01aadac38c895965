/- Walks by computing: what each function of the program that the laws reach gives for what it gets, as plain Lean, and that it is so; without a condition but those that stand in each theorem. -/
import Derived.Test.YtoklcjdahicjmaaW1
import Derived.Test.YtoklcjdahicjmaaW2
import Derived.Test.YtoklcjdahicjmaaW3
import Derived.Test.YtoklcjdahicjmaaW4
import Derived.Test.YtoklcjdahicjmaaW5
set_option linter.all false
namespace Go.Proofs.Rescue07
open Go Go.Ab
open Go.Proofs.Ytoklcjdahicjmaa (iseat)
set_option linter.all false
set_option maxRecDepth 100000
noncomputable section
def within' (it : It Bool) (n : Int) (low : Int) (high : Int) : Option Bool :=
 bif (decide (low ≤ n)) then
 some (decide (n ≤ high))
 else
 some false
def within : Int → Int → Int → Option Bool := opq (fun n low high => within' itN n low high)
theorem within_eq (n : Int) (low : Int) (high : Int) : within n low high = within' itN n low high := by unfold within; rw [opq_eq]
def E69 : FEnv iseat := ⟨⟨15, [], [], [], [], [], [], [], [], [], [], [], [], true⟩, []⟩
theorem e69 (it : It Bool) (n : Int) (low : Int) (high : Int) : fnRun (ts := [.bool]) it E69 (bodyOf Try.f69) Try.f69.results.toList (encA [.int .i64, .int .i64, .int .i64] (n, low, high, ())) = within' it n low high := by kernel_rfl
def sp69 : FnSpec iseat.toSeat := mkSpec iseat.toSeat 69 [.int .i64, .int .i64, .int .i64] [.bool] true (fun a => within a.1 a.2.1 a.2.2.1) (fun a x hx h h' => fn_contract (Z := iseat) (ats := [.int .i64, .int .i64, .int .i64]) (ts := [.bool]) (E := E69) (fn := Try.f69) (c := bodyOf Try.f69) Try.func69 (by kernel_rfl) (by kernel_rfl) (by kernel_rfl) (by kernel_rfl) rfl ((e69 itN a.1 a.2.1 a.2.2.1).trans ((within_eq a.1 a.2.1 a.2.2.1).symm.trans hx)) h h') (fun _ x => rfl)
def next' (it : It (Seed × Int)) (s : Seed) : Option (Seed × Int) :=
 some ((⟨(IntKind.u64.wrap (s.word + 11400714819323198485))⟩ : Seed), (xorI .u64 (IntKind.u64.wrap ((xorI .u64 (IntKind.u64.wrap ((xorI .u64 (IntKind.u64.wrap (s.word + 11400714819323198485)) (shrI .u64 (IntKind.u64.wrap (s.word + 11400714819323198485)) 30)) * 13787848793156543929)) (shrI .u64 (IntKind.u64.wrap ((xorI .u64 (IntKind.u64.wrap (s.word + 11400714819323198485)) (shrI .u64 (IntKind.u64.wrap (s.word + 11400714819323198485)) 30)) * 13787848793156543929)) 27)) * 10723151780598845931)) (shrI .u64 (IntKind.u64.wrap ((xorI .u64 (IntKind.u64.wrap ((xorI .u64 (IntKind.u64.wrap (s.word + 11400714819323198485)) (shrI .u64 (IntKind.u64.wrap (s.word + 11400714819323198485)) 30)) * 13787848793156543929)) (shrI .u64 (IntKind.u64.wrap ((xorI .u64 (IntKind.u64.wrap (s.word + 11400714819323198485)) (shrI .u64 (IntKind.u64.wrap (s.word + 11400714819323198485)) 30)) * 13787848793156543929)) 27)) * 10723151780598845931)) 31)))
def next : Seed → Option (Seed × Int) := opq (fun s => next' itN s)
def Below' (it : It (Seed × Int)) (s : Seed) (n : Int) : Option (Seed × Int) :=
 bif (decide (n < 2)) then
 some (s, 0)
 else
 (next s).bind fun r =>
 chk ((IntKind.u64.wrap (n)) != 0) <|
 some (r.1, (w64 (((shrI .u64 r.2 1).tmod (IntKind.u64.wrap (n))))))
def Below : Seed → Int → Option (Seed × Int) := opq (fun s n => Below' itN s n)
def From' (it : It (Seed × Int)) (s : Seed) (low : Int) (high : Int) : Option (Seed × Int) :=
 (Below s (w64 ((w64 (high - low)) + 1))).bind fun r =>
 some (r.1, (w64 (low + r.2)))
def From : Seed → Int → Int → Option (Seed × Int) := opq (fun s low high => From' itN s low high)
def fault' (it : It Int) (x : Span) (low : Int) (high : Int) : Option Int :=
 (within x.Lo low high).bind fun r =>
 bif (!r) then
 bif (!r) then
 some 2
 else
 bif (decide (x.Lo > x.Hi)) then
 some 11
 else
 some 0
 else
 (within x.Hi low high).bind fun r2 =>
 bif (!r2) then
 some 2
 else
 bif (decide (x.Lo > x.Hi)) then
 some 11
 else
 some 0
def fault : Span → Int → Int → Option Int := opq (fun x low high => fault' itN x low high)
theorem fault_eq (x : Span) (low : Int) (high : Int) : fault x low high = fault' itN x low high := by unfold fault; rw [opq_eq]
def E120 : FEnv iseat := ⟨⟨26, [sp69], [], [], [], [], [], [], [], [], [], [], [], true⟩, []⟩
theorem e120 (it : It Int) (x : Span) (low : Int) (high : Int) : fnRun (ts := [.int .i64]) it E120 (bodyOf Try.f120) Try.f120.results.toList (encA [.Span, .int .i64, .int .i64] (x, low, high, ())) = fault' it x low high := by kernel_rfl
def sp120 : FnSpec iseat.toSeat := mkSpec iseat.toSeat 120 [.Span, .int .i64, .int .i64] [.int .i64] true (fun a => fault a.1 a.2.1 a.2.2.1) (fun a x hx h h' => fn_contract (Z := iseat) (ats := [.Span, .int .i64, .int .i64]) (ts := [.int .i64]) (E := E120) (fn := Try.f120) (c := bodyOf Try.f120) Try.func120 (by kernel_rfl) (by kernel_rfl) (by kernel_rfl) (by kernel_rfl) rfl ((e120 itN a.1 a.2.1 a.2.2.1).trans ((fault_eq a.1 a.2.1 a.2.2.1).symm.trans hx)) h h') (fun _ x => rfl)
def faults_L4 (l : List Span) (low : Int) (high : Int) (x18 : Int) (kn_ : Int → Option Int) : Option Int :=
 bif (decide (x18 < (l.length : Int))) then
 chk (decide (0 ≤ x18) && decide (x18 < (l.length : Int))) <|
 (fault (l.getD x18.toNat dfltSpan) low high).bind fun r =>
 bif (r != 0) then
 some r
 else
 kn_ (w64 (x18 + 1))
 else
 some 0
def faults' (it : It Int) (l : List Span) (many : Int) (low : Int) (high : Int) : Option Int :=
 bif ((l.length : Int) != many) then
 some 3
 else
 it _ (fun (v_0 : (Int × Unit) × (Unit)) kn => faults_L4 l low high v_0.1.1 (fun y0 => kn ((y0, ()), (())))) ((0, ()), (()))
def faults : (List Span) → Int → Int → Int → Option Int := opq (fun l many low high => faults' itN l many low high)
theorem faults_eq (l : List Span) (many : Int) (low : Int) (high : Int) : faults l many low high = faults' itN l many low high := by unfold faults; rw [opq_eq]
def E86 : FEnv iseat := ⟨⟨30, [sp120], [], [], [], [], [], [], [], [], [], [], [], true⟩, [(4, ⟨⟨[(18, .v (.int .i64))], []⟩, [2, 3, 16, 17], [], []⟩)]⟩
theorem e86 (it : It Int) (l : List Span) (many : Int) (low : Int) (high : Int) : fnRun (ts := [.int .i64]) it E86 (bodyOf Try.f86) Try.f86.results.toList (encA [.sl .Span, .int .i64, .int .i64, .int .i64] (l, many, low, high, ())) = faults' it l many low high := by kernel_rfl
def sp86 : FnSpec iseat.toSeat := mkSpec iseat.toSeat 86 [.sl .Span, .int .i64, .int .i64, .int .i64] [.int .i64] true (fun a => faults a.1 a.2.1 a.2.2.1 a.2.2.2.1) (fun a x hx h h' => fn_contract (Z := iseat) (ats := [.sl .Span, .int .i64, .int .i64, .int .i64]) (ts := [.int .i64]) (E := E86) (fn := Try.f86) (c := bodyOf Try.f86) Try.func86 (by kernel_rfl) (by kernel_rfl) (by kernel_rfl) (by kernel_rfl) rfl ((e86 itN a.1 a.2.1 a.2.2.1 a.2.2.2.1).trans ((faults_eq a.1 a.2.1 a.2.2.1 a.2.2.2.1).symm.trans hx)) h h') (fun _ x => rfl)
def path' (it : It Int) (r : Rescue) (p : Path) : Option Int :=
 (within p.A 0 (w64 (r.Spots - 1))).bind fun r2 =>
 bif (!r2) then
 bif (!r2) then
 some 7
 else
 bif (p.A == p.B) then
 some 12
 else
 (fault p.Time 0 5000).bind fun r3 =>
 bif (r3 != 0) then
 some r3
 else
 (within p.Open 1 3).bind fun r4 =>
 bif (!r4) then
 some 4
 else
 some 0
 else
 (within p.B 0 (w64 (r.Spots - 1))).bind fun r5 =>
 bif (!r5) then
 some 7
 else
 bif (p.A == p.B) then
 some 12
 else
 (fault p.Time 0 5000).bind fun r6 =>
 bif (r6 != 0) then
 some r6
 else
 (within p.Open 1 3).bind fun r7 =>
 bif (!r7) then
 some 4
 else
 some 0
def path : Rescue → Path → Option Int := opq (fun r p => path' itN r p)
theorem path_eq (r : Rescue) (p : Path) : path r p = path' itN r p := by unfold path; rw [opq_eq]
def E84 : FEnv iseat := ⟨⟨37, [sp69, sp120], [], [], [], [], [], [], [], [], [], [], [], true⟩, []⟩
theorem e84 (it : It Int) (r : Rescue) (p : Path) : fnRun (ts := [.int .i64]) it E84 (bodyOf Try.f84) Try.f84.results.toList (encA [.Rescue, .Path] (r, p, ())) = path' it r p := by kernel_rfl
def sp84 : FnSpec iseat.toSeat := mkSpec iseat.toSeat 84 [.Rescue, .Path] [.int .i64] true (fun a => path a.1 a.2.1) (fun a x hx h h' => fn_contract (Z := iseat) (ats := [.Rescue, .Path]) (ts := [.int .i64]) (E := E84) (fn := Try.f84) (c := bodyOf Try.f84) Try.func84 (by kernel_rfl) (by kernel_rfl) (by kernel_rfl) (by kernel_rfl) rfl ((e84 itN a.1 a.2.1).trans ((path_eq a.1 a.2.1).symm.trans hx)) h h') (fun _ x => rfl)
def post' (it : It Int) (r : Rescue) (p : Post) : Option Int :=
 (within p.Spot 0 (w64 (r.Spots - 1))).bind fun r2 =>
 bif (!r2) then
 some 7
 else
 (fault p.Ready 0 5000).bind fun r3 =>
 bif (r3 != 0) then
 some r3
 else
 (within p.From 0 1439).bind fun r4 =>
 bif (!r4) then
 bif (!r4) then
 some 2
 else
 bif (p.Flies != 0) then
 (within p.Flies 1 3).bind fun r5 =>
 bif (!r5) then
 some 4
 else
 bif (p.Flies == 0) then
 (faults p.Air 0 0 5000).bind fun r6 =>
 some r6
 else
 (faults p.Air r.Spots 0 5000).bind fun r7 =>
 some r7
 else
 bif (p.Flies == 0) then
 (faults p.Air 0 0 5000).bind fun r8 =>
 some r8
 else
 (faults p.Air r.Spots 0 5000).bind fun r9 =>
 some r9
 else
 (within p.To 0 1439).bind fun r10 =>
 bif (!r10) then
 some 2
 else
 bif (p.Flies != 0) then
 (within p.Flies 1 3).bind fun r11 =>
 bif (!r11) then
 some 4
 else
 bif (p.Flies == 0) then
 (faults p.Air 0 0 5000).bind fun r12 =>
 some r12
 else
 (faults p.Air r.Spots 0 5000).bind fun r13 =>
 some r13
 else
 bif (p.Flies == 0) then
 (faults p.Air 0 0 5000).bind fun r14 =>
 some r14
 else
 (faults p.Air r.Spots 0 5000).bind fun r15 =>
 some r15
def post : Rescue → Post → Option Int := opq (fun r p => post' itN r p)
theorem post_eq (r : Rescue) (p : Post) : post r p = post' itN r p := by unfold post; rw [opq_eq]
def E85 : FEnv iseat := ⟨⟨50, [sp69, sp120, sp86], [], [], [], [], [], [], [], [], [], [], [], true⟩, []⟩
theorem e85 (it : It Int) (r : Rescue) (p : Post) : fnRun (ts := [.int .i64]) it E85 (bodyOf Try.f85) Try.f85.results.toList (encA [.Rescue, .Post] (r, p, ())) = post' it r p := by kernel_rfl
def sp85 : FnSpec iseat.toSeat := mkSpec iseat.toSeat 85 [.Rescue, .Post] [.int .i64] true (fun a => post a.1 a.2.1) (fun a x hx h h' => fn_contract (Z := iseat) (ats := [.Rescue, .Post]) (ts := [.int .i64]) (E := E85) (fn := Try.f85) (c := bodyOf Try.f85) Try.func85 (by kernel_rfl) (by kernel_rfl) (by kernel_rfl) (by kernel_rfl) rfl ((e85 itN a.1 a.2.1).trans ((post_eq a.1 a.2.1).symm.trans hx)) h h') (fun _ x => rfl)
def chills_L6 (l : List Chill) (x16 : Int) (kn_ : Int → Option Int) : Option Int :=
 bif (decide (x16 < (l.length : Int))) then
 chk (decide (0 ≤ x16) && decide (x16 < (l.length : Int))) <|
 (within ((l.getD x16.toNat dfltChill).Warm) (-400) 400).bind fun r =>
 bif (!r) then
 some 2
 else
 bif (x16 == 0) then
 bif ((l.getD x16.toNat dfltChill).Warm != (-400)) then
 bif ((l.getD x16.toNat dfltChill).Warm != (-400)) then
 some 11
 else
 (fault ((l.getD x16.toNat dfltChill).Minutes) 0 5000).bind fun r2 =>
 bif (r2 != 0) then
 some r2
 else
 bif (decide (x16 > 0)) then
 chk (decide (0 ≤ (w64 (x16 - 1))) && decide ((w64 (x16 - 1)) < (l.length : Int))) <|
 bif (decide ((l.getD x16.toNat dfltChill).Minutes.Lo < (l.getD (w64 (x16 - 1)).toNat dfltChill).Minutes.Lo)) then
 some 11
 else
 chk (decide (0 ≤ (w64 (x16 - 1))) && decide ((w64 (x16 - 1)) < (l.length : Int))) <|
 bif (decide ((l.getD x16.toNat dfltChill).Minutes.Hi < (l.getD (w64 (x16 - 1)).toNat dfltChill).Minutes.Hi)) then
 some 11
 else
 kn_ (w64 (x16 + 1))
 else
 kn_ (w64 (x16 + 1))
 else
 bif (decide (x16 > 0)) then
 chk (decide (0 ≤ (w64 (x16 - 1))) && decide ((w64 (x16 - 1)) < (l.length : Int))) <|
 bif (decide ((l.getD x16.toNat dfltChill).Warm ≤ (l.getD (w64 (x16 - 1)).toNat dfltChill).Warm)) then
 some 11
 else
 (fault ((l.getD x16.toNat dfltChill).Minutes) 0 5000).bind fun r3 =>
 bif (r3 != 0) then
 some r3
 else
 bif (decide (x16 > 0)) then
 chk (decide (0 ≤ (w64 (x16 - 1))) && decide ((w64 (x16 - 1)) < (l.length : Int))) <|
 bif (decide ((l.getD x16.toNat dfltChill).Minutes.Lo < (l.getD (w64 (x16 - 1)).toNat dfltChill).Minutes.Lo)) then
 some 11
 else
 chk (decide (0 ≤ (w64 (x16 - 1))) && decide ((w64 (x16 - 1)) < (l.length : Int))) <|
 bif (decide ((l.getD x16.toNat dfltChill).Minutes.Hi < (l.getD (w64 (x16 - 1)).toNat dfltChill).Minutes.Hi)) then
 some 11
 else
 kn_ (w64 (x16 + 1))
 else
 kn_ (w64 (x16 + 1))
 else
 (fault ((l.getD x16.toNat dfltChill).Minutes) 0 5000).bind fun r4 =>
 bif (r4 != 0) then
 some r4
 else
 bif (decide (x16 > 0)) then
 chk (decide (0 ≤ (w64 (x16 - 1))) && decide ((w64 (x16 - 1)) < (l.length : Int))) <|
 bif (decide ((l.getD x16.toNat dfltChill).Minutes.Lo < (l.getD (w64 (x16 - 1)).toNat dfltChill).Minutes.Lo)) then
 some 11
 else
 chk (decide (0 ≤ (w64 (x16 - 1))) && decide ((w64 (x16 - 1)) < (l.length : Int))) <|
 bif (decide ((l.getD x16.toNat dfltChill).Minutes.Hi < (l.getD (w64 (x16 - 1)).toNat dfltChill).Minutes.Hi)) then
 some 11
 else
 kn_ (w64 (x16 + 1))
 else
 kn_ (w64 (x16 + 1))
 else
 bif (decide (x16 > 0)) then
 chk (decide (0 ≤ (w64 (x16 - 1))) && decide ((w64 (x16 - 1)) < (l.length : Int))) <|
 bif (decide ((l.getD x16.toNat dfltChill).Warm ≤ (l.getD (w64 (x16 - 1)).toNat dfltChill).Warm)) then
 some 11
 else
 (fault ((l.getD x16.toNat dfltChill).Minutes) 0 5000).bind fun r5 =>
 bif (r5 != 0) then
 some r5
 else
 bif (decide (x16 > 0)) then
 chk (decide (0 ≤ (w64 (x16 - 1))) && decide ((w64 (x16 - 1)) < (l.length : Int))) <|
 bif (decide ((l.getD x16.toNat dfltChill).Minutes.Lo < (l.getD (w64 (x16 - 1)).toNat dfltChill).Minutes.Lo)) then
 some 11
 else
 chk (decide (0 ≤ (w64 (x16 - 1))) && decide ((w64 (x16 - 1)) < (l.length : Int))) <|
 bif (decide ((l.getD x16.toNat dfltChill).Minutes.Hi < (l.getD (w64 (x16 - 1)).toNat dfltChill).Minutes.Hi)) then
 some 11
 else
 kn_ (w64 (x16 + 1))
 else
 kn_ (w64 (x16 + 1))
 else
 (fault ((l.getD x16.toNat dfltChill).Minutes) 0 5000).bind fun r6 =>
 bif (r6 != 0) then
 some r6
 else
 bif (decide (x16 > 0)) then
 chk (decide (0 ≤ (w64 (x16 - 1))) && decide ((w64 (x16 - 1)) < (l.length : Int))) <|
 bif (decide ((l.getD x16.toNat dfltChill).Minutes.Lo < (l.getD (w64 (x16 - 1)).toNat dfltChill).Minutes.Lo)) then
 some 11
 else
 chk (decide (0 ≤ (w64 (x16 - 1))) && decide ((w64 (x16 - 1)) < (l.length : Int))) <|
 bif (decide ((l.getD x16.toNat dfltChill).Minutes.Hi < (l.getD (w64 (x16 - 1)).toNat dfltChill).Minutes.Hi)) then
 some 11
 else
 kn_ (w64 (x16 + 1))
 else
 kn_ (w64 (x16 + 1))
 else
 some 0
def chills' (it : It Int) (l : List Chill) : Option Int :=
 bif ((l.length : Int) == 0) then
 some 6
 else
 bif (decide ((l.length : Int) > 20)) then
 some 8
 else
 it _ (fun (v_0 : (Int × Unit) × (Unit)) kn => chills_L6 l v_0.1.1 (fun y0 => kn ((y0, ()), (())))) ((0, ()), (()))
def chills : (List Chill) → Option Int := opq (fun l => chills' itN l)
theorem chills_eq (l : List Chill) : chills l = chills' itN l := by unfold chills; rw [opq_eq]
def E87 : FEnv iseat := ⟨⟨82, [sp69, sp120], [], [], [], [], [], [], [], [], [], [], [], true⟩, [(6, ⟨⟨[(16, .v (.int .i64))], []⟩, [0, 14, 15], [], []⟩)]⟩
theorem e87 (it : It Int) (l : List Chill) : fnRun (ts := [.int .i64]) it E87 (bodyOf Try.f87) Try.f87.results.toList (encA [.sl .Chill] (l, ())) = chills' it l := by kernel_rfl
def sp87 : FnSpec iseat.toSeat := mkSpec iseat.toSeat 87 [.sl .Chill] [.int .i64] true (fun a => chills a.1) (fun a x hx h h' => fn_contract (Z := iseat) (ats := [.sl .Chill]) (ts := [.int .i64]) (E := E87) (fn := Try.f87) (c := bodyOf Try.f87) Try.func87 (by kernel_rfl) (by kernel_rfl) (by kernel_rfl) (by kernel_rfl) rfl ((e87 itN a.1).trans ((chills_eq a.1).symm.trans hx)) h h') (fun _ x => rfl)
def pCheck_L15 (r : Rescue) (x41 : Int) (kn_2 : Int → Option Int) : Option Int :=
 bif (decide (x41 < (r.Posts.length : Int))) then
 chk (decide (0 ≤ x41) && decide (x41 < (r.Posts.length : Int))) <|
 (post r (r.Posts.getD x41.toNat dfltPost)).bind fun r4 =>
 bif (r4 != 0) then
 some r4
 else
 kn_2 (w64 (x41 + 1))
 else
 (faults r.Water r.Spots (-400) 400).bind fun r5 =>
 bif (r5 != 0) then
 some r5
 else
 (chills r.Chills).bind fun r6 =>
 some r6
def pCheck_L6 (it : It Int) (r : Rescue) (x23 : Int) (kn_ : Int → Option Int) : Option Int :=
 bif (decide (x23 < (r.Paths.length : Int))) then
 chk (decide (0 ≤ x23) && decide (x23 < (r.Paths.length : Int))) <|
 (path r (r.Paths.getD x23.toNat dfltPath)).bind fun r3 =>
 bif (r3 != 0) then
 some r3
 else
 kn_ (w64 (x23 + 1))
 else
 bif (decide ((r.Posts.length : Int) > 12)) then
 some 8
 else
 it _ (fun (v_0 : (Unit × Int × Unit) × (Unit)) kn => pCheck_L15 r v_0.1.2.1 (fun y0 => kn (((), y0, ()), (())))) (((), 0, ()), (()))
def pCheck' (it : It Int) (r : Rescue) : Option Int :=
 (within r.Spots 1 40).bind fun r2 =>
 bif (!r2) then
 some 2
 else
 bif (decide ((r.Paths.length : Int) > 120)) then
 some 8
 else
 it _ (fun (v_0 : (Unit × Int × Unit) × (Unit)) kn => pCheck_L6 it r v_0.1.2.1 (fun y0 => kn (((), y0, ()), (())))) (((), 0, ()), (()))
def pCheck : Rescue → Option Int := opq (fun r => pCheck' itN r)
theorem pCheck_eq (r : Rescue) : pCheck r = pCheck' itN r := by unfold pCheck; rw [opq_eq]
def E33 : FEnv iseat := ⟨⟨63, [sp69, sp84, sp85, sp86, sp87], [], [], [], [], [], [], [], [], [], [], [], true⟩, [(6, ⟨⟨[(1, .bx 1 0), (23, .v (.int .i64))], []⟩, [21, 22], [1], []⟩), (15, ⟨⟨[(1, .bx 1 0), (41, .v (.int .i64))], []⟩, [39, 40], [1], []⟩)]⟩
theorem e33 (it : It Int) (r : Rescue) : fnRun (ts := [.int .i64]) it E33 (bodyOf Try.f33) Try.f33.results.toList (encA [.Rescue] (r, ())) = pCheck' it r := by kernel_rfl
def sp33 : FnSpec iseat.toSeat := mkSpec iseat.toSeat 33 [.Rescue] [.int .i64] true (fun a => pCheck a.1) (fun a x hx h h' => fn_contract (Z := iseat) (ats := [.Rescue]) (ts := [.int .i64]) (E := E33) (fn := Try.f33) (c := bodyOf Try.f33) Try.func33 (by kernel_rfl) (by kernel_rfl) (by kernel_rfl) (by kernel_rfl) rfl ((e33 itN a.1).trans ((pCheck_eq a.1).symm.trans hx)) h h') (fun _ x => rfl)
def endsOf' (it : It Pair) (x : Span) : Option Pair :=
 some (⟨x.Lo, x.Hi⟩ : Pair)
def endsOf : Span → Option Pair := opq (fun x => endsOf' itN x)
theorem endsOf_eq (x : Span) : endsOf x = endsOf' itN x := by unfold endsOf; rw [opq_eq]
def E115 : FEnv iseat := ⟨⟨8, [], [], [], [], [], [], [], [], [], [], [], [], true⟩, []⟩
theorem e115 (it : It Pair) (x : Span) : fnRun (ts := [.Pair]) it E115 (bodyOf Try.f115) Try.f115.results.toList (encA [.Span] (x, ())) = endsOf' it x := by kernel_rfl
def sp115 : FnSpec iseat.toSeat := mkSpec iseat.toSeat 115 [.Span] [.Pair] true (fun a => endsOf a.1) (fun a x hx h h' => fn_contract (Z := iseat) (ats := [.Span]) (ts := [.Pair]) (E := E115) (fn := Try.f115) (c := bodyOf Try.f115) Try.func115 (by kernel_rfl) (by kernel_rfl) (by kernel_rfl) (by kernel_rfl) rfl ((e115 itN a.1).trans ((endsOf_eq a.1).symm.trans hx)) h h') (fun _ x => rfl)
def spanE' (it : It Span) (x : Pair) : Option Span :=
 some (⟨x.a, x.b⟩ : Span)
def spanE : Pair → Option Span := opq (fun x => spanE' itN x)
theorem spanE_eq (x : Pair) : spanE x = spanE' itN x := by unfold spanE; rw [opq_eq]
def E117 : FEnv iseat := ⟨⟨8, [], [], [], [], [], [], [], [], [], [], [], [], true⟩, []⟩
theorem e117 (it : It Span) (x : Pair) : fnRun (ts := [.Span]) it E117 (bodyOf Try.f117) Try.f117.results.toList (encA [.Pair] (x, ())) = spanE' it x := by kernel_rfl
def sp117 : FnSpec iseat.toSeat := mkSpec iseat.toSeat 117 [.Pair] [.Span] true (fun a => spanE a.1) (fun a x hx h h' => fn_contract (Z := iseat) (ats := [.Pair]) (ts := [.Span]) (E := E117) (fn := Try.f117) (c := bodyOf Try.f117) Try.func117 (by kernel_rfl) (by kernel_rfl) (by kernel_rfl) (by kernel_rfl) rfl ((e117 itN a.1).trans ((spanE_eq a.1).symm.trans hx)) h h') (fun _ x => rfl)
def may' (it : It Bool) (end_ : Int) (verdict : Int) : Option Bool :=
 bif (end_ == 0) then
 some (verdict != 2)
 else
 some (verdict == 1)
def may : Int → Int → Option Bool := opq (fun end_ verdict => may' itN end_ verdict)
theorem may_eq (end_ : Int) (verdict : Int) : may end_ verdict = may' itN end_ verdict := by unfold may; rw [opq_eq]
def E116 : FEnv iseat := ⟨⟨11, [], [], [], [], [], [], [], [], [], [], [], [], true⟩, []⟩
theorem e116 (it : It Bool) (end_ : Int) (verdict : Int) : fnRun (ts := [.bool]) it E116 (bodyOf Try.f116) Try.f116.results.toList (encA [.int .i64, .int .i64] (end_, verdict, ())) = may' it end_ verdict := by kernel_rfl
def sp116 : FnSpec iseat.toSeat := mkSpec iseat.toSeat 116 [.int .i64, .int .i64] [.bool] true (fun a => may a.1 a.2.1) (fun a x hx h h' => fn_contract (Z := iseat) (ats := [.int .i64, .int .i64]) (ts := [.bool]) (E := E116) (fn := Try.f116) (c := bodyOf Try.f116) Try.func116 (by kernel_rfl) (by kernel_rfl) (by kernel_rfl) (by kernel_rfl) rfl ((e116 itN a.1 a.2.1).trans ((may_eq a.1 a.2.1).symm.trans hx)) h h') (fun _ x => rfl)
def drives_L11 (r : Rescue) (x25 : Int) (r3 : Pair) (kn_2 : (List (Int × Int)) → Bool → Int → Option (List (Int × Int))) (time3 : List (Int × Int)) (more3 : Bool) (x50 : Int) (kn_3 : (List (Int × Int)) → Bool → Int → Option (List (Int × Int))) : Option (List (Int × Int)) :=
 bif (decide (x50 < 2)) then
 bif x50 == 0 then
 bif (mHas time3 ((r.Paths.getD x25.toNat dfltPath).A)) then
 bif (!(mHas time3 ((r.Paths.getD x25.toNat dfltPath).B))) then
 kn_3 (mSet time3 ((r.Paths.getD x25.toNat dfltPath).B) (w64 ((mGet time3 ((r.Paths.getD x25.toNat dfltPath).A)) + r3.a))) true (w64 (x50 + 1))
 else
 bif (decide ((w64 ((mGet time3 ((r.Paths.getD x25.toNat dfltPath).A)) + r3.a)) < (mGet time3 ((r.Paths.getD x25.toNat dfltPath).B)))) then
 kn_3 (mSet time3 ((r.Paths.getD x25.toNat dfltPath).B) (w64 ((mGet time3 ((r.Paths.getD x25.toNat dfltPath).A)) + r3.a))) true (w64 (x50 + 1))
 else
 kn_3 time3 more3 (w64 (x50 + 1))
 else
 kn_3 time3 more3 (w64 (x50 + 1))
 else
 bif x50 == 1 then
 bif (mHas time3 ((r.Paths.getD x25.toNat dfltPath).B)) then
 bif (!(mHas time3 ((r.Paths.getD x25.toNat dfltPath).A))) then
 kn_3 (mSet time3 ((r.Paths.getD x25.toNat dfltPath).A) (w64 ((mGet time3 ((r.Paths.getD x25.toNat dfltPath).B)) + r3.a))) true (w64 (x50 + 1))
 else
 bif (decide ((w64 ((mGet time3 ((r.Paths.getD x25.toNat dfltPath).B)) + r3.a)) < (mGet time3 ((r.Paths.getD x25.toNat dfltPath).A)))) then
 kn_3 (mSet time3 ((r.Paths.getD x25.toNat dfltPath).A) (w64 ((mGet time3 ((r.Paths.getD x25.toNat dfltPath).B)) + r3.a))) true (w64 (x50 + 1))
 else
 kn_3 time3 more3 (w64 (x50 + 1))
 else
 kn_3 time3 more3 (w64 (x50 + 1))
 else
 none
 else
 kn_2 time3 more3 (w64 (x25 + 1))
def drives_L11__2 (r : Rescue) (x25 : Int) (r3 : Pair) (kn_2 : (List (Int × Int)) → Bool → Int → Option (List (Int × Int))) (time4 : List (Int × Int)) (more4 : Bool) (x502 : Int) (kn_4 : (List (Int × Int)) → Bool → Int → Option (List (Int × Int))) : Option (List (Int × Int)) :=
 bif (decide (x502 < 2)) then
 bif x502 == 0 then
 bif (mHas time4 ((r.Paths.getD x25.toNat dfltPath).A)) then
 bif (!(mHas time4 ((r.Paths.getD x25.toNat dfltPath).B))) then
 kn_4 (mSet time4 ((r.Paths.getD x25.toNat dfltPath).B) (w64 ((mGet time4 ((r.Paths.getD x25.toNat dfltPath).A)) + r3.b))) true (w64 (x502 + 1))
 else
 bif (decide ((w64 ((mGet time4 ((r.Paths.getD x25.toNat dfltPath).A)) + r3.b)) < (mGet time4 ((r.Paths.getD x25.toNat dfltPath).B)))) then
 kn_4 (mSet time4 ((r.Paths.getD x25.toNat dfltPath).B) (w64 ((mGet time4 ((r.Paths.getD x25.toNat dfltPath).A)) + r3.b))) true (w64 (x502 + 1))
 else
 kn_4 time4 more4 (w64 (x502 + 1))
 else
 kn_4 time4 more4 (w64 (x502 + 1))
 else
 bif x502 == 1 then
 bif (mHas time4 ((r.Paths.getD x25.toNat dfltPath).B)) then
 bif (!(mHas time4 ((r.Paths.getD x25.toNat dfltPath).A))) then
 kn_4 (mSet time4 ((r.Paths.getD x25.toNat dfltPath).A) (w64 ((mGet time4 ((r.Paths.getD x25.toNat dfltPath).B)) + r3.b))) true (w64 (x502 + 1))
 else
 bif (decide ((w64 ((mGet time4 ((r.Paths.getD x25.toNat dfltPath).B)) + r3.b)) < (mGet time4 ((r.Paths.getD x25.toNat dfltPath).A)))) then
 kn_4 (mSet time4 ((r.Paths.getD x25.toNat dfltPath).A) (w64 ((mGet time4 ((r.Paths.getD x25.toNat dfltPath).B)) + r3.b))) true (w64 (x502 + 1))
 else
 kn_4 time4 more4 (w64 (x502 + 1))
 else
 kn_4 time4 more4 (w64 (x502 + 1))
 else
 none
 else
 kn_2 time4 more4 (w64 (x25 + 1))
def drives_L6 (it : It (List (Int × Int))) (r : Rescue) (end_ : Int) (kn_ : (List (Int × Int)) → Bool → Option (List (Int × Int))) (time2 : List (Int × Int)) (more2 : Bool) (x25 : Int) (kn_2 : (List (Int × Int)) → Bool → Int → Option (List (Int × Int))) : Option (List (Int × Int)) :=
 bif (decide (x25 < (r.Paths.length : Int))) then
 chk (decide (0 ≤ x25) && decide (x25 < (r.Paths.length : Int))) <|
 (may end_ ((r.Paths.getD x25.toNat dfltPath).Open)).bind fun r2 =>
 bif (!r2) then
 kn_2 time2 more2 (w64 (x25 + 1))
 else
 (endsOf ((r.Paths.getD x25.toNat dfltPath).Time)).bind fun r3 =>
 bif end_ == 0 then
 it _ (fun (v_0 : (Unit × (List (Int × Int)) × Bool × Int × Unit) × (Unit)) kn => drives_L11 r x25 r3 kn_2 v_0.1.2.1 v_0.1.2.2.1 v_0.1.2.2.2.1 (fun y0 y1 y2 => kn (((), y0, y1, y2, ()), (())))) (((), time2, more2, 0, ()), (()))
 else
 bif end_ == 1 then
 it _ (fun (v_0 : (Unit × (List (Int × Int)) × Bool × Int × Unit) × (Unit)) kn => drives_L11__2 r x25 r3 kn_2 v_0.1.2.1 v_0.1.2.2.1 v_0.1.2.2.2.1 (fun y0 y1 y2 => kn (((), y0, y1, y2, ()), (())))) (((), time2, more2, 0, ()), (()))
 else
 none
 else
 kn_ time2 more2
def drives_L3 (it : It (List (Int × Int))) (r : Rescue) (end_ : Int) (time : List (Int × Int)) (more : Bool) (kn_ : (List (Int × Int)) → Bool → Option (List (Int × Int))) : Option (List (Int × Int)) :=
 bif more then
 it _ (fun (v_0 : (Unit × (List (Int × Int)) × Bool × Int × Unit) × (Unit)) kn => drives_L6 it r end_ kn_ v_0.1.2.1 v_0.1.2.2.1 v_0.1.2.2.2.1 (fun y0 y1 y2 => kn (((), y0, y1, y2, ()), (())))) (((), time, false, 0, ()), (()))
 else
 some time
def drives' (it : It (List (Int × Int))) (r : Rescue) (from_ : Int) (end_ : Int) : Option (List (Int × Int)) :=
 it _ (fun (v_0 : (Unit × (List (Int × Int)) × Bool × Unit) × (Unit)) kn => drives_L3 it r end_ v_0.1.2.1 v_0.1.2.2.1 (fun y0 y1 => kn (((), y0, y1, ()), (())))) (((), (mSet ([] : List (Int × Int)) from_ 0), true, ()), (()))
def drives : Rescue → Int → Int → Option (List (Int × Int)) := opq (fun r from_ end_ => drives' itN r from_ end_)
theorem drives_eq (r : Rescue) (from_ : Int) (end_ : Int) : drives r from_ end_ = drives' itN r from_ end_ := by unfold drives; rw [opq_eq]
def E114 : FEnv iseat := ⟨⟨88, [sp116, sp115], [], [], [], [], [], [], [], [], [], [], [], true⟩, [(3, ⟨⟨[(3, .bx 3 0), (7, .mp 18), (8, .v .bool)], []⟩, [2], [3], []⟩), (6, ⟨⟨[(3, .bx 3 0), (7, .mp 18), (8, .v .bool), (25, .v (.int .i64))], []⟩, [23, 24], [], []⟩), (11, ⟨⟨[(3, .bx 3 0), (7, .mp 18), (8, .v .bool), (50, .v (.int .i64))], []⟩, [11, 25, 49], [], []⟩)]⟩
theorem e114 (it : It (List (Int × Int))) (r : Rescue) (from_ : Int) (end_ : Int) : fnRunP it E114 (bodyOf Try.f114) Try.f114.results.toList (encA [.Rescue, .int .i64, .int .i64] (r, from_, end_, ())) = drives' it r from_ end_ := by kernel_rfl
def sp114 : FnSpecP iseat.toSeat := mkSpecP iseat.toSeat 114 [.Rescue, .int .i64, .int .i64] (fun a => drives a.1 a.2.1 a.2.2.1) (fun a y hx h => fn_contractP (Z := iseat) (ats := [.Rescue, .int .i64, .int .i64]) (E := E114) (fn := Try.f114) (c := bodyOf Try.f114) Try.func114 (by kernel_rfl) (by kernel_rfl) (by kernel_rfl) (by kernel_rfl) rfl ((e114 itN a.1 a.2.1 a.2.2.1).trans ((drives_eq a.1 a.2.1 a.2.2.1).symm.trans hx)) h)
def goes_L8 (p : Post) (x23 : Int) (r2 : List (Int × Int)) (r3 : List (Int × Int)) (out : List Span) (kn_ : (List Span) → Int → Option (List Span)) (x27 : Int) (x : Int) (x2 : Int) (kn_2 : Int → Int → Int → Option (List Span)) : Option (List Span) :=
 bif (decide (x27 < 2)) then
 bif x27 == 0 then
 bif (p.Flies != 0) then
 chk (decide (0 ≤ x23) && decide (x23 < (p.Air.length : Int))) <|
 (endsOf (p.Air.getD x23.toNat dfltSpan)).bind fun r4 =>
 bif x27 == 0 then
 (may x27 p.Flies).bind fun r5 =>
 bif r5 then
 (endsOf p.Ready).bind fun r6 =>
 bif x27 == 0 then
 bif x27 == 0 then
 kn_2 (w64 (x27 + 1)) (w64 (r6.a + r4.a)) x2
 else
 bif x27 == 1 then
 kn_2 (w64 (x27 + 1)) x (w64 (r6.a + r4.a))
 else
 none
 else
 bif x27 == 1 then
 bif x27 == 0 then
 kn_2 (w64 (x27 + 1)) (w64 (r6.b + r4.a)) x2
 else
 bif x27 == 1 then
 kn_2 (w64 (x27 + 1)) x (w64 (r6.b + r4.a))
 else
 none
 else
 none
 else
 kn_2 (w64 (x27 + 1)) x x2
 else
 bif x27 == 1 then
 (may x27 p.Flies).bind fun r7 =>
 bif r7 then
 (endsOf p.Ready).bind fun r8 =>
 bif x27 == 0 then
 bif x27 == 0 then
 kn_2 (w64 (x27 + 1)) (w64 (r8.a + r4.b)) x2
 else
 bif x27 == 1 then
 kn_2 (w64 (x27 + 1)) x (w64 (r8.a + r4.b))
 else
 none
 else
 bif x27 == 1 then
 bif x27 == 0 then
 kn_2 (w64 (x27 + 1)) (w64 (r8.b + r4.b)) x2
 else
 bif x27 == 1 then
 kn_2 (w64 (x27 + 1)) x (w64 (r8.b + r4.b))
 else
 none
 else
 none
 else
 kn_2 (w64 (x27 + 1)) x x2
 else
 none
 else
 bif (mHas r2 x23) then
 (endsOf p.Ready).bind fun r9 =>
 bif x27 == 0 then
 bif x27 == 0 then
 kn_2 (w64 (x27 + 1)) (w64 (r9.a + (mGet r2 x23))) x2
 else
 bif x27 == 1 then
 kn_2 (w64 (x27 + 1)) x (w64 (r9.a + (mGet r2 x23)))
 else
 none
 else
 bif x27 == 1 then
 bif x27 == 0 then
 kn_2 (w64 (x27 + 1)) (w64 (r9.b + (mGet r2 x23))) x2
 else
 bif x27 == 1 then
 kn_2 (w64 (x27 + 1)) x (w64 (r9.b + (mGet r2 x23)))
 else
 none
 else
 none
 else
 kn_2 (w64 (x27 + 1)) x x2
 else
 bif x27 == 1 then
 bif (p.Flies != 0) then
 chk (decide (0 ≤ x23) && decide (x23 < (p.Air.length : Int))) <|
 (endsOf (p.Air.getD x23.toNat dfltSpan)).bind fun r10 =>
 bif x27 == 0 then
 (may x27 p.Flies).bind fun r11 =>
 bif r11 then
 (endsOf p.Ready).bind fun r12 =>
 bif x27 == 0 then
 bif x27 == 0 then
 kn_2 (w64 (x27 + 1)) (w64 (r12.a + r10.a)) x2
 else
 bif x27 == 1 then
 kn_2 (w64 (x27 + 1)) x (w64 (r12.a + r10.a))
 else
 none
 else
 bif x27 == 1 then
 bif x27 == 0 then
 kn_2 (w64 (x27 + 1)) (w64 (r12.b + r10.a)) x2
 else
 bif x27 == 1 then
 kn_2 (w64 (x27 + 1)) x (w64 (r12.b + r10.a))
 else
 none
 else
 none
 else
 kn_2 (w64 (x27 + 1)) x x2
 else
 bif x27 == 1 then
 (may x27 p.Flies).bind fun r13 =>
 bif r13 then
 (endsOf p.Ready).bind fun r14 =>
 bif x27 == 0 then
 bif x27 == 0 then
 kn_2 (w64 (x27 + 1)) (w64 (r14.a + r10.b)) x2
 else
 bif x27 == 1 then
 kn_2 (w64 (x27 + 1)) x (w64 (r14.a + r10.b))
 else
 none
 else
 bif x27 == 1 then
 bif x27 == 0 then
 kn_2 (w64 (x27 + 1)) (w64 (r14.b + r10.b)) x2
 else
 bif x27 == 1 then
 kn_2 (w64 (x27 + 1)) x (w64 (r14.b + r10.b))
 else
 none
 else
 none
 else
 kn_2 (w64 (x27 + 1)) x x2
 else
 none
 else
 bif (mHas r3 x23) then
 (endsOf p.Ready).bind fun r15 =>
 bif x27 == 0 then
 bif x27 == 0 then
 kn_2 (w64 (x27 + 1)) (w64 (r15.a + (mGet r3 x23))) x2
 else
 bif x27 == 1 then
 kn_2 (w64 (x27 + 1)) x (w64 (r15.a + (mGet r3 x23)))
 else
 none
 else
 bif x27 == 1 then
 bif x27 == 0 then
 kn_2 (w64 (x27 + 1)) (w64 (r15.b + (mGet r3 x23))) x2
 else
 bif x27 == 1 then
 kn_2 (w64 (x27 + 1)) x (w64 (r15.b + (mGet r3 x23)))
 else
 none
 else
 none
 else
 kn_2 (w64 (x27 + 1)) x x2
 else
 none
 else
 (spanE (⟨x, x2⟩ : Pair)).bind fun r16 =>
 chk (fitA (out.length + ([r16] : List Span).length) 16) <|
 kn_ (out ++ ([r16] : List Span)) (w64 (x23 + 1))
def goes_L4 (it : It (List Span)) (r : Rescue) (p : Post) (r2 : List (Int × Int)) (r3 : List (Int × Int)) (out : List Span) (x23 : Int) (kn_ : (List Span) → Int → Option (List Span)) : Option (List Span) :=
 bif (decide (x23 < r.Spots)) then
 it _ (fun (v_0 : (Unit × Unit × Unit × Unit × Int × Unit) × ((Unit × Unit × Unit) × (Int × Int × Unit) × Unit)) kn => goes_L8 p x23 r2 r3 out kn_ v_0.1.2.2.2.2.1 v_0.2.2.1.1 v_0.2.2.1.2.1 (fun y0 y1 y2 => kn (((), (), (), (), y0, ()), (((), (), ()), (y1, y2, ()), ())))) (((), (), (), (), 0, ()), (((), (), ()), (1000000, 1000000, ()), ()))
 else
 some out
def goes' (it : It (List Span)) (r : Rescue) (p : Post) : Option (List Span) :=
 (drives r p.Spot 0).bind fun r2 =>
 (drives r p.Spot 1).bind fun r3 =>
 it _ (fun (v_0 : (Unit × (List Span) × Unit × Int × Unit) × ((Unit × Unit × Unit) × Unit)) kn => goes_L4 it r p r2 r3 v_0.1.2.1 v_0.1.2.2.2.1 (fun y0 y1 => kn (((), y0, (), y1, ()), (((), (), ()), ())))) (((), ([] : List Span), (), 0, ()), (((), (), ()), ()))
def goes : Rescue → Post → Option (List Span) := opq (fun r p => goes' itN r p)
theorem goes_eq (r : Rescue) (p : Post) : goes r p = goes' itN r p := by unfold goes; rw [opq_eq]
def E80 : FEnv iseat := ⟨⟨71, [sp115, sp116, sp117], [], [], [], [], [], [], [sp114], [], [], [67], [], true⟩, [(4, ⟨⟨[(3, .bx 3 0), (5, .os 5 51 .Span), (6, .bx 6 0), (23, .v (.int .i64))], [(6, [.osr 15, .osr 19])]⟩, [22], [3, 15, 19], []⟩), (8, ⟨⟨[(3, .bx 3 0), (5, .osr 5), (6, .bx 6 0), (8, .bx 8 0), (27, .v (.int .i64))], [(6, [.osr 15, .osr 19]), (8, [.v (.int .i64), .v (.int .i64)])]⟩, [7, 23], [5], []⟩)]⟩
theorem e80 (it : It (List Span)) (r : Rescue) (p : Post) : fnRun (ts := [.sl .Span]) it E80 (bodyOf Try.f80) Try.f80.results.toList (encA [.Rescue, .Post] (r, p, ())) = goes' it r p := by kernel_rfl
def sp80 : FnSpec iseat.toSeat := mkSpec iseat.toSeat 80 [.Rescue, .Post] [.sl .Span] false (fun a => goes a.1 a.2.1) (fun a x hx h h' => fn_contract (Z := iseat) (ats := [.Rescue, .Post]) (ts := [.sl .Span]) (E := E80) (fn := Try.f80) (c := bodyOf Try.f80) Try.func80 (by kernel_rfl) (by kernel_rfl) (by kernel_rfl) (by kernel_rfl) rfl ((e80 itN a.1 a.2.1).trans ((goes_eq a.1 a.2.1).symm.trans hx)) h h') (fun h => nomatch h)
def pGo' (it : It ((List Span) × Int)) (r : Rescue) (post : Int) : Option ((List Span) × Int) :=
 (pCheck r).bind fun r2 =>
 bif (r2 != 0) then
 some (([] : List Span), r2)
 else
 (within post 0 (w64 ((r.Posts.length : Int) - 1))).bind fun r3 =>
 bif (!r3) then
 some (([] : List Span), 7)
 else
 chk (decide (0 ≤ post) && decide (post < (r.Posts.length : Int))) <|
 (goes r (r.Posts.getD post.toNat dfltPost)).bind fun r4 =>
 some (r4, 0)
def pGo : Rescue → Int → Option ((List Span) × Int) := opq (fun r post => pGo' itN r post)
theorem pGo_eq (r : Rescue) (post : Int) : pGo r post = pGo' itN r post := by unfold pGo; rw [opq_eq]
def E26 : FEnv iseat := ⟨⟨26, [sp33, sp69, sp80], [], [], [], [], [], [], [], [], [], [], [], true⟩, []⟩
theorem e26 (it : It ((List Span) × Int)) (r : Rescue) (post : Int) : fnRun (ts := [.sl .Span, .int .i64]) it E26 (bodyOf Try.f26) Try.f26.results.toList (encA [.Rescue, .int .i64] (r, post, ())) = pGo' it r post := by kernel_rfl
def sp26 : FnSpec iseat.toSeat := mkSpec iseat.toSeat 26 [.Rescue, .int .i64] [.sl .Span, .int .i64] false (fun a => pGo a.1 a.2.1) (fun a x hx h h' => fn_contract (Z := iseat) (ats := [.Rescue, .int .i64]) (ts := [.sl .Span, .int .i64]) (E := E26) (fn := Try.f26) (c := bodyOf Try.f26) Try.func26 (by kernel_rfl) (by kernel_rfl) (by kernel_rfl) (by kernel_rfl) rfl ((e26 itN a.1 a.2.1).trans ((pGo_eq a.1 a.2.1).symm.trans hx)) h h') (fun h => nomatch h)
def lives_L6 (r : Rescue) (r2 : Pair) (x12 : Int) (kn_ : Int → Int → Int → Option Span) (x19 : Int) (x3 : Int) (x4 : Int) (kn_2 : Int → Int → Int → Option Span) : Option Span :=
 bif (decide (x19 < (r.Chills.length : Int))) then
 chk (decide (0 ≤ x19) && decide (x19 < (r.Chills.length : Int))) <|
 bif (decide ((r.Chills.getD x19.toNat dfltChill).Warm ≤ r2.a)) then
 (endsOf ((r.Chills.getD x19.toNat dfltChill).Minutes)).bind fun r3 =>
 bif x12 == 0 then
 bif x12 == 0 then
 kn_2 (w64 (x19 + 1)) r3.a x4
 else
 bif x12 == 1 then
 kn_2 (w64 (x19 + 1)) x3 r3.a
 else
 none
 else
 bif x12 == 1 then
 bif x12 == 0 then
 kn_2 (w64 (x19 + 1)) r3.b x4
 else
 bif x12 == 1 then
 kn_2 (w64 (x19 + 1)) x3 r3.b
 else
 none
 else
 none
 else
 kn_2 (w64 (x19 + 1)) x3 x4
 else
 kn_ (w64 (x12 + 1)) x3 x4
def lives_L6__2 (r : Rescue) (r2 : Pair) (x12 : Int) (kn_ : Int → Int → Int → Option Span) (x192 : Int) (x5 : Int) (x6 : Int) (kn_3 : Int → Int → Int → Option Span) : Option Span :=
 bif (decide (x192 < (r.Chills.length : Int))) then
 chk (decide (0 ≤ x192) && decide (x192 < (r.Chills.length : Int))) <|
 bif (decide ((r.Chills.getD x192.toNat dfltChill).Warm ≤ r2.b)) then
 (endsOf ((r.Chills.getD x192.toNat dfltChill).Minutes)).bind fun r4 =>
 bif x12 == 0 then
 bif x12 == 0 then
 kn_3 (w64 (x192 + 1)) r4.a x6
 else
 bif x12 == 1 then
 kn_3 (w64 (x192 + 1)) x5 r4.a
 else
 none
 else
 bif x12 == 1 then
 bif x12 == 0 then
 kn_3 (w64 (x192 + 1)) r4.b x6
 else
 bif x12 == 1 then
 kn_3 (w64 (x192 + 1)) x5 r4.b
 else
 none
 else
 none
 else
 kn_3 (w64 (x192 + 1)) x5 x6
 else
 kn_ (w64 (x12 + 1)) x5 x6
def lives_L3 (it : It Span) (r : Rescue) (r2 : Pair) (x12 : Int) (x : Int) (x2 : Int) (kn_ : Int → Int → Int → Option Span) : Option Span :=
 bif (decide (x12 < 2)) then
 bif x12 == 0 then
 it _ (fun (v_0 : (Unit × Unit × Unit × Int × Unit) × ((Int × Int × Unit) × Unit)) kn => lives_L6 r r2 x12 kn_ v_0.1.2.2.2.1 v_0.2.1.1 v_0.2.1.2.1 (fun y0 y1 y2 => kn (((), (), (), y0, ()), ((y1, y2, ()), ())))) (((), (), (), 0, ()), ((x, x2, ()), ()))
 else
 bif x12 == 1 then
 it _ (fun (v_0 : (Unit × Unit × Unit × Int × Unit) × ((Int × Int × Unit) × Unit)) kn => lives_L6__2 r r2 x12 kn_ v_0.1.2.2.2.1 v_0.2.1.1 v_0.2.1.2.1 (fun y0 y1 y2 => kn (((), (), (), y0, ()), ((y1, y2, ()), ())))) (((), (), (), 0, ()), ((x, x2, ()), ()))
 else
 none
 else
 (spanE (⟨x, x2⟩ : Pair)).bind fun r5 =>
 some r5
def lives' (it : It Span) (r : Rescue) (warm : Span) : Option Span :=
 (endsOf warm).bind fun r2 =>
 it _ (fun (v_0 : (Unit × Unit × Unit × Int × Unit) × ((Int × Int × Unit) × Unit)) kn => lives_L3 it r r2 v_0.1.2.2.2.1 v_0.2.1.1 v_0.2.1.2.1 (fun y0 y1 y2 => kn (((), (), (), y0, ()), ((y1, y2, ()), ())))) (((), (), (), 0, ()), ((0, 0, ()), ()))
def lives : Rescue → Span → Option Span := opq (fun r warm => lives' itN r warm)
theorem lives_eq (r : Rescue) (warm : Span) : lives r warm = lives' itN r warm := by unfold lives; rw [opq_eq]
def E83 : FEnv iseat := ⟨⟨38, [sp115, sp117], [], [], [], [], [], [], [], [], [], [], [], true⟩, [(3, ⟨⟨[(2, .bx 2 0), (4, .bx 4 0), (5, .bx 5 0), (12, .v (.int .i64))], [(5, [.v (.int .i64), .v (.int .i64)])]⟩, [11], [2, 4], []⟩), (6, ⟨⟨[(2, .bx 2 0), (4, .bx 4 0), (5, .bx 5 0), (19, .v (.int .i64))], [(5, [.v (.int .i64), .v (.int .i64)])]⟩, [6, 7, 12, 17, 18], [], []⟩)]⟩
theorem e83 (it : It Span) (r : Rescue) (warm : Span) : fnRun (ts := [.Span]) it E83 (bodyOf Try.f83) Try.f83.results.toList (encA [.Rescue, .Span] (r, warm, ())) = lives' it r warm := by kernel_rfl
def sp83 : FnSpec iseat.toSeat := mkSpec iseat.toSeat 83 [.Rescue, .Span] [.Span] true (fun a => lives a.1 a.2.1) (fun a x hx h h' => fn_contract (Z := iseat) (ats := [.Rescue, .Span]) (ts := [.Span]) (E := E83) (fn := Try.f83) (c := bodyOf Try.f83) Try.func83 (by kernel_rfl) (by kernel_rfl) (by kernel_rfl) (by kernel_rfl) rfl ((e83 itN a.1 a.2.1).trans ((lives_eq a.1 a.2.1).symm.trans hx)) h h') (fun _ x => rfl)
def pLives_L6 (r : Rescue) (out : List Span) (x16 : Int) (kn_ : (List Span) → Int → Option ((List Span) × Int)) : Option ((List Span) × Int) :=
 bif (decide (x16 < (r.Water.length : Int))) then
 chk (decide (0 ≤ x16) && decide (x16 < (r.Water.length : Int))) <|
 (lives r (r.Water.getD x16.toNat dfltSpan)).bind fun r3 =>
 chk (fitA (out.length + ([r3] : List Span).length) 16) <|
 kn_ (out ++ ([r3] : List Span)) (w64 (x16 + 1))
 else
 some (out, 0)
def pLives' (it : It ((List Span) × Int)) (r : Rescue) : Option ((List Span) × Int) :=
 (pCheck r).bind fun r2 =>
 bif (r2 != 0) then
 some (([] : List Span), r2)
 else
 it _ (fun (v_0 : (Unit × (List Span) × Int × Unit) × (Unit)) kn => pLives_L6 r v_0.1.2.1 v_0.1.2.2.1 (fun y0 y1 => kn (((), y0, y1, ()), (())))) (((), ([] : List Span), 0, ()), (()))
def pLives : Rescue → Option ((List Span) × Int) := opq (fun r => pLives' itN r)
theorem pLives_eq (r : Rescue) : pLives r = pLives' itN r := by unfold pLives; rw [opq_eq]
def E31 : FEnv iseat := ⟨⟨28, [sp33, sp83], [], [], [], [], [], [], [], [], [], [24], [], true⟩, [(6, ⟨⟨[(1, .bx 1 0), (5, .os 5 51 .Span), (16, .v (.int .i64))], []⟩, [14, 15], [1], []⟩)]⟩
theorem e31 (it : It ((List Span) × Int)) (r : Rescue) : fnRun (ts := [.sl .Span, .int .i64]) it E31 (bodyOf Try.f31) Try.f31.results.toList (encA [.Rescue] (r, ())) = pLives' it r := by kernel_rfl
def sp31 : FnSpec iseat.toSeat := mkSpec iseat.toSeat 31 [.Rescue] [.sl .Span, .int .i64] false (fun a => pLives a.1) (fun a x hx h h' => fn_contract (Z := iseat) (ats := [.Rescue]) (ts := [.sl .Span, .int .i64]) (E := E31) (fn := Try.f31) (c := bodyOf Try.f31) Try.func31 (by kernel_rfl) (by kernel_rfl) (by kernel_rfl) (by kernel_rfl) rfl ((e31 itN a.1).trans ((pLives_eq a.1).symm.trans hx)) h h') (fun h => nomatch h)
def manned' (it : It Bool) (p : Post) (minute : Int) : Option Bool :=
 bif (decide (p.From < p.To)) then
 bif (decide (p.From ≤ minute)) then
 some (decide (minute < p.To))
 else
 some false
 else
 bif (decide (minute ≥ p.From)) then
 some true
 else
 some (decide (minute < p.To))
def manned : Post → Int → Option Bool := opq (fun p minute => manned' itN p minute)
theorem manned_eq (p : Post) (minute : Int) : manned p minute = manned' itN p minute := by unfold manned; rw [opq_eq]
def E110 : FEnv iseat := ⟨⟨30, [], [], [], [], [], [], [], [], [], [], [], [], true⟩, []⟩
theorem e110 (it : It Bool) (p : Post) (minute : Int) : fnRun (ts := [.bool]) it E110 (bodyOf Try.f110) Try.f110.results.toList (encA [.Post, .int .i64] (p, minute, ())) = manned' it p minute := by kernel_rfl
def sp110 : FnSpec iseat.toSeat := mkSpec iseat.toSeat 110 [.Post, .int .i64] [.bool] true (fun a => manned a.1 a.2.1) (fun a x hx h h' => fn_contract (Z := iseat) (ats := [.Post, .int .i64]) (ts := [.bool]) (E := E110) (fn := Try.f110) (c := bodyOf Try.f110) Try.func110 (by kernel_rfl) (by kernel_rfl) (by kernel_rfl) (by kernel_rfl) rfl ((e110 itN a.1 a.2.1).trans ((manned_eq a.1 a.2.1).symm.trans hx)) h h') (fun _ x => rfl)
def soonest_L3 (l : List Span) (x9 : Int) (x_Lo : Int) (x_Hi : Int) (kn_ : Int → Int → Int → Option Span) : Option Span :=
 bif (decide (x9 < (l.length : Int))) then
 chk (decide (0 ≤ x9) && decide (x9 < (l.length : Int))) <|
 kn_ (w64 (x9 + 1)) (min x_Lo ((l.getD x9.toNat dfltSpan).Lo)) (min x_Hi ((l.getD x9.toNat dfltSpan).Hi))
 else
 some (⟨x_Lo, x_Hi⟩ : Span)
def soonest' (it : It Span) (l : List Span) : Option Span :=
 it _ (fun (v_0 : (Unit × Unit × Int × Unit) × ((Int × Int × Unit) × Unit)) kn => soonest_L3 l v_0.1.2.2.1 v_0.2.1.1 v_0.2.1.2.1 (fun y0 y1 y2 => kn (((), (), y0, ()), ((y1, y2, ()), ())))) (((), (), 0, ()), ((1000000, 1000000, ()), ()))
def soonest : (List Span) → Option Span := opq (fun l => soonest' itN l)
theorem soonest_eq (l : List Span) : soonest l = soonest' itN l := by unfold soonest; rw [opq_eq]
def E122 : FEnv iseat := ⟨⟨26, [], [], [], [], [], [], [], [], [], [], [], [], true⟩, [(3, ⟨⟨[(2, .bx 2 0), (3, .bx 3 0), (9, .v (.int .i64))], [(3, [.v (.int .i64), .v (.int .i64)])]⟩, [7, 8], [2], []⟩)]⟩
theorem e122 (it : It Span) (l : List Span) : fnRun (ts := [.Span]) it E122 (bodyOf Try.f122) Try.f122.results.toList (encA [.sl .Span] (l, ())) = soonest' it l := by kernel_rfl
def sp122 : FnSpec iseat.toSeat := mkSpec iseat.toSeat 122 [.sl .Span] [.Span] true (fun a => soonest a.1) (fun a x hx h h' => fn_contract (Z := iseat) (ats := [.sl .Span]) (ts := [.Span]) (E := E122) (fn := Try.f122) (c := bodyOf Try.f122) Try.func122 (by kernel_rfl) (by kernel_rfl) (by kernel_rfl) (by kernel_rfl) rfl ((e122 itN a.1).trans ((soonest_eq a.1).symm.trans hx)) h h') (fun _ x => rfl)
def watchOf_L8 (r : Rescue) (w_times : List (List Span)) (x29 : Int) (w_Rescue_Spots2 : Int) (w_Rescue_Paths2 : List Path) (w_Rescue_Posts2 : List Post) (w_Rescue_Water2 : List Span) (w_Rescue_Chills2 : List Chill) (w_lives : List Span) (kn_2 : Int → Int → (List Path) → (List Post) → (List Span) → (List Chill) → (List Span) → Option Watch) : Option Watch :=
 bif (decide (x29 < (r.Water.length : Int))) then
 chk (decide (0 ≤ x29) && decide (x29 < (r.Water.length : Int))) <|
 (lives r (r.Water.getD x29.toNat dfltSpan)).bind fun r3 =>
 chk (fitA (w_lives.length + ([r3] : List Span).length) 16) <|
 kn_2 (w64 (x29 + 1)) w_Rescue_Spots2 w_Rescue_Paths2 w_Rescue_Posts2 w_Rescue_Water2 w_Rescue_Chills2 (w_lives ++ ([r3] : List Span))
 else
 some (⟨⟨w_Rescue_Spots2, w_Rescue_Paths2, w_Rescue_Posts2, w_Rescue_Water2, w_Rescue_Chills2⟩, w_times, w_lives⟩ : Watch)
def watchOf_L3 (it : It Watch) (r : Rescue) (x13 : Int) (w_Rescue_Spots : Int) (w_Rescue_Paths : List Path) (w_Rescue_Posts : List Post) (w_Rescue_Water : List Span) (w_Rescue_Chills : List Chill) (w_times : List (List Span)) (kn_ : Int → Int → (List Path) → (List Post) → (List Span) → (List Chill) → (List (List Span)) → Option Watch) : Option Watch :=
 bif (decide (x13 < (r.Posts.length : Int))) then
 chk (decide (0 ≤ x13) && decide (x13 < (r.Posts.length : Int))) <|
 (goes r (r.Posts.getD x13.toNat dfltPost)).bind fun r2 =>
 chk (fitA (w_times.length + [r2].length) 24) <|
 kn_ (w64 (x13 + 1)) w_Rescue_Spots w_Rescue_Paths w_Rescue_Posts w_Rescue_Water w_Rescue_Chills (w_times ++ [r2])
 else
 it _ (fun (v_0 : (Unit × Unit × Unit × Int × Unit) × ((Int × (List Path) × (List Post) × (List Span) × (List Chill) × Unit × (List Span) × Unit) × Unit)) kn => watchOf_L8 r w_times v_0.1.2.2.2.1 v_0.2.1.1 v_0.2.1.2.1 v_0.2.1.2.2.1 v_0.2.1.2.2.2.1 v_0.2.1.2.2.2.2.1 v_0.2.1.2.2.2.2.2.2.1 (fun y0 y1 y2 y3 y4 y5 y6 => kn (((), (), (), y0, ()), ((y1, y2, y3, y4, y5, (), y6, ()), ())))) (((), (), (), 0, ()), ((w_Rescue_Spots, w_Rescue_Paths, w_Rescue_Posts, w_Rescue_Water, w_Rescue_Chills, (), [], ()), ()))
def watchOf' (it : It Watch) (r : Rescue) : Option Watch :=
 it _ (fun (v_0 : (Unit × Unit × Unit × Int × Unit) × ((Int × (List Path) × (List Post) × (List Span) × (List Chill) × (List (List Span)) × Unit × Unit) × Unit)) kn => watchOf_L3 it r v_0.1.2.2.2.1 v_0.2.1.1 v_0.2.1.2.1 v_0.2.1.2.2.1 v_0.2.1.2.2.2.1 v_0.2.1.2.2.2.2.1 v_0.2.1.2.2.2.2.2.1 (fun y0 y1 y2 y3 y4 y5 y6 => kn (((), (), (), y0, ()), ((y1, y2, y3, y4, y5, y6, (), ()), ())))) (((), (), (), 0, ()), ((r.Spots, r.Paths, r.Posts, r.Water, r.Chills, [], (), ()), ()))
def watchOf : Rescue → Option Watch := opq (fun r => watchOf' itN r)
theorem watchOf_eq (r : Rescue) : watchOf r = watchOf' itN r := by unfold watchOf; rw [opq_eq]
def E108 : FEnv iseat := ⟨⟨43, [sp80, sp83], [], [], [], [], [], [], [], [], [], [22, 38], [], true⟩, [(3, ⟨⟨[(1, .bx 1 0), (2, .bx 2 0), (3, .bx 3 0), (13, .v (.int .i64))], [(3, [.v (.int .i64), .v (.sl .Path), .v (.sl .Post), .v (.sl .Span), .v (.sl .Chill), .os 23 24 (.sl .Span), .nilc])]⟩, [11, 12], [1, 2], []⟩), (8, ⟨⟨[(1, .bx 1 0), (2, .bx 2 0), (3, .bx 3 0), (29, .v (.int .i64))], [(3, [.v (.int .i64), .v (.sl .Path), .v (.sl .Post), .v (.sl .Span), .v (.sl .Chill), .osr 23, .os 39 51 .Span])]⟩, [27, 28], [1, 2, 23], []⟩)]⟩
theorem e108 (it : It Watch) (r : Rescue) : fnRun (ts := [.Watch]) it E108 (bodyOf Try.f108) Try.f108.results.toList (encA [.Rescue] (r, ())) = watchOf' it r := by kernel_rfl
def sp108 : FnSpec iseat.toSeat := mkSpec iseat.toSeat 108 [.Rescue] [.Watch] false (fun a => watchOf a.1) (fun a x hx h h' => fn_contract (Z := iseat) (ats := [.Rescue]) (ts := [.Watch]) (E := E108) (fn := Try.f108) (c := bodyOf Try.f108) Try.func108 (by kernel_rfl) (by kernel_rfl) (by kernel_rfl) (by kernel_rfl) rfl ((e108 itN a.1).trans ((watchOf_eq a.1).symm.trans hx)) h h') (fun h => nomatch h)
def reachW_L3 (w : Watch) (minute : Int) (spot : Int) (l : List Span) (x14 : Int) (kn_ : (List Span) → Int → Option Span) : Option Span :=
 bif (decide (x14 < (w.Rescue.Posts.length : Int))) then
 chk (decide (0 ≤ x14) && decide (x14 < (w.Rescue.Posts.length : Int))) <|
 (manned (w.Rescue.Posts.getD x14.toNat dfltPost) minute).bind fun r =>
 bif r then
 chk (decide (0 ≤ x14) && decide (x14 < (w.times.length : Int))) <|
 chk (decide (0 ≤ spot) && decide (spot < ((w.times.getD x14.toNat []).length : Int))) <|
 chk (fitA (l.length + ([((w.times.getD x14.toNat []).getD spot.toNat dfltSpan)] : List Span).length) 16) <|
 kn_ (l ++ ([((w.times.getD x14.toNat []).getD spot.toNat dfltSpan)] : List Span)) (w64 (x14 + 1))
 else
 kn_ l (w64 (x14 + 1))
 else
 (soonest l).bind fun r2 =>
 some r2
def reachW' (it : It Span) (w : Watch) (minute : Int) (spot : Int) : Option Span :=
 it _ (fun (v_0 : (Unit × Unit × (List Span) × Int × Unit) × (Unit)) kn => reachW_L3 w minute spot v_0.1.2.2.1 v_0.1.2.2.2.1 (fun y0 y1 => kn (((), (), y0, y1, ()), (())))) (((), (), ([] : List Span), 0, ()), (()))
def reachW : Watch → Int → Int → Option Span := opq (fun w minute spot => reachW' itN w minute spot)
theorem reachW_eq (w : Watch) (minute : Int) (spot : Int) : reachW w minute spot = reachW' itN w minute spot := by unfold reachW; rw [opq_eq]
def E92 : FEnv iseat := ⟨⟨36, [sp110, sp122], [], [], [], [], [], [], [], [], [], [31], [], true⟩, [(3, ⟨⟨[(3, .bx 3 0), (6, .bx 6 0), (7, .os 7 51 .Span), (14, .v (.int .i64))], []⟩, [1, 2, 12, 13], [3, 6], []⟩)]⟩
theorem e92 (it : It Span) (w : Watch) (minute : Int) (spot : Int) : fnRun (ts := [.Span]) it E92 (bodyOf Try.f92) Try.f92.results.toList (encA [.Watch, .int .i64, .int .i64] (w, minute, spot, ())) = reachW' it w minute spot := by kernel_rfl
def sp92 : FnSpec iseat.toSeat := mkSpec iseat.toSeat 92 [.Watch, .int .i64, .int .i64] [.Span] true (fun a => reachW a.1 a.2.1 a.2.2.1) (fun a x hx h h' => fn_contract (Z := iseat) (ats := [.Watch, .int .i64, .int .i64]) (ts := [.Span]) (E := E92) (fn := Try.f92) (c := bodyOf Try.f92) Try.func92 (by kernel_rfl) (by kernel_rfl) (by kernel_rfl) (by kernel_rfl) rfl ((e92 itN a.1 a.2.1 a.2.2.1).trans ((reachW_eq a.1 a.2.1 a.2.2.1).symm.trans hx)) h h') (fun _ x => rfl)
def coverW' (it : It Int) (w : Watch) (minute : Int) (spot : Int) : Option Int :=
 (reachW w minute spot).bind fun r =>
 chk (decide (0 ≤ spot) && decide (spot < (w.lives.length : Int))) <|
 bif (decide (r.Hi ≤ (w.lives.getD spot.toNat dfltSpan).Lo)) then
 some 1
 else
 chk (decide (0 ≤ spot) && decide (spot < (w.lives.length : Int))) <|
 bif (decide (r.Lo > (w.lives.getD spot.toNat dfltSpan).Hi)) then
 some 2
 else
 some 3
def coverW : Watch → Int → Int → Option Int := opq (fun w minute spot => coverW' itN w minute spot)
theorem coverW_eq (w : Watch) (minute : Int) (spot : Int) : coverW w minute spot = coverW' itN w minute spot := by unfold coverW; rw [opq_eq]
def E94 : FEnv iseat := ⟨⟨32, [sp92], [], [], [], [], [], [], [], [], [], [], [], true⟩, []⟩
theorem e94 (it : It Int) (w : Watch) (minute : Int) (spot : Int) : fnRun (ts := [.int .i64]) it E94 (bodyOf Try.f94) Try.f94.results.toList (encA [.Watch, .int .i64, .int .i64] (w, minute, spot, ())) = coverW' it w minute spot := by kernel_rfl
def sp94 : FnSpec iseat.toSeat := mkSpec iseat.toSeat 94 [.Watch, .int .i64, .int .i64] [.int .i64] true (fun a => coverW a.1 a.2.1 a.2.2.1) (fun a x hx h h' => fn_contract (Z := iseat) (ats := [.Watch, .int .i64, .int .i64]) (ts := [.int .i64]) (E := E94) (fn := Try.f94) (c := bodyOf Try.f94) Try.func94 (by kernel_rfl) (by kernel_rfl) (by kernel_rfl) (by kernel_rfl) rfl ((e94 itN a.1 a.2.1 a.2.2.1).trans ((coverW_eq a.1 a.2.1 a.2.2.1).symm.trans hx)) h h') (fun _ x => rfl)
def asked' (it : It (Watch × Int)) (r : Rescue) (minute : Int) : Option (Watch × Int) :=
 (pCheck r).bind fun r2 =>
 bif (r2 != 0) then
 some ((⟨⟨0, [], [], [], []⟩, [], []⟩ : Watch), r2)
 else
 (within minute 0 1439).bind fun r3 =>
 bif (!r3) then
 some ((⟨⟨0, [], [], [], []⟩, [], []⟩ : Watch), 2)
 else
 (watchOf r).bind fun r4 =>
 some (r4, 0)
def asked : Rescue → Int → Option (Watch × Int) := opq (fun r minute => asked' itN r minute)
theorem asked_eq (r : Rescue) (minute : Int) : asked r minute = asked' itN r minute := by unfold asked; rw [opq_eq]
def E68 : FEnv iseat := ⟨⟨19, [sp33, sp69, sp108], [], [], [], [], [], [], [], [], [], [], [], true⟩, []⟩
theorem e68 (it : It (Watch × Int)) (r : Rescue) (minute : Int) : fnRun (ts := [.Watch, .int .i64]) it E68 (bodyOf Try.f68) Try.f68.results.toList (encA [.Rescue, .int .i64] (r, minute, ())) = asked' it r minute := by kernel_rfl
def sp68 : FnSpec iseat.toSeat := mkSpec iseat.toSeat 68 [.Rescue, .int .i64] [.Watch, .int .i64] false (fun a => asked a.1 a.2.1) (fun a x hx h h' => fn_contract (Z := iseat) (ats := [.Rescue, .int .i64]) (ts := [.Watch, .int .i64]) (E := E68) (fn := Try.f68) (c := bodyOf Try.f68) Try.func68 (by kernel_rfl) (by kernel_rfl) (by kernel_rfl) (by kernel_rfl) rfl ((e68 itN a.1 a.2.1).trans ((asked_eq a.1 a.2.1).symm.trans hx)) h h') (fun h => nomatch h)
def pReach_L6 (r : Rescue) (r2 : (Watch × Int)) (minute : Int) (out : List Span) (x21 : Int) (kn_ : (List Span) → Int → Option ((List Span) × Int)) : Option ((List Span) × Int) :=
 bif (decide (x21 < r.Spots)) then
 (reachW r2.1 minute x21).bind fun r3 =>
 chk (fitA (out.length + ([r3] : List Span).length) 16) <|
 kn_ (out ++ ([r3] : List Span)) (w64 (x21 + 1))
 else
 some (out, 0)
def pReach' (it : It ((List Span) × Int)) (r : Rescue) (minute : Int) : Option ((List Span) × Int) :=
 (asked r minute).bind fun r2 =>
 bif (r2.2 != 0) then
 some (([] : List Span), r2.2)
 else
 it _ (fun (v_0 : (Unit × (List Span) × Int × Unit) × (Unit)) kn => pReach_L6 r r2 minute v_0.1.2.1 v_0.1.2.2.1 (fun y0 y1 => kn (((), y0, y1, ()), (())))) (((), ([] : List Span), 0, ()), (()))
def pReach : Rescue → Int → Option ((List Span) × Int) := opq (fun r minute => pReach' itN r minute)
theorem pReach_eq (r : Rescue) (minute : Int) : pReach r minute = pReach' itN r minute := by unfold pReach; rw [opq_eq]
def E41 : FEnv iseat := ⟨⟨33, [sp68, sp92], [], [], [], [], [], [], [], [], [], [29], [], true⟩, [(6, ⟨⟨[(6, .bx 6 0), (8, .os 8 51 .Span), (21, .v (.int .i64))], []⟩, [1, 20], [6], []⟩)]⟩
theorem e41 (it : It ((List Span) × Int)) (r : Rescue) (minute : Int) : fnRun (ts := [.sl .Span, .int .i64]) it E41 (bodyOf Try.f41) Try.f41.results.toList (encA [.Rescue, .int .i64] (r, minute, ())) = pReach' it r minute := by kernel_rfl
def sp41 : FnSpec iseat.toSeat := mkSpec iseat.toSeat 41 [.Rescue, .int .i64] [.sl .Span, .int .i64] false (fun a => pReach a.1 a.2.1) (fun a x hx h h' => fn_contract (Z := iseat) (ats := [.Rescue, .int .i64]) (ts := [.sl .Span, .int .i64]) (E := E41) (fn := Try.f41) (c := bodyOf Try.f41) Try.func41 (by kernel_rfl) (by kernel_rfl) (by kernel_rfl) (by kernel_rfl) rfl ((e41 itN a.1 a.2.1).trans ((pReach_eq a.1 a.2.1).symm.trans hx)) h h') (fun h => nomatch h)
def pCover_L6 (r : Rescue) (r2 : (Watch × Int)) (minute : Int) (out : List Int) (x21 : Int) (kn_ : (List Int) → Int → Option ((List Int) × Int)) : Option ((List Int) × Int) :=
 bif (decide (x21 < r.Spots)) then
 (coverW r2.1 minute x21).bind fun r3 =>
 chk (fitA (out.length + [r3].length) 8) <|
 kn_ (out ++ [r3]) (w64 (x21 + 1))
 else
 some (out, 0)
def pCover' (it : It ((List Int) × Int)) (r : Rescue) (minute : Int) : Option ((List Int) × Int) :=
 (asked r minute).bind fun r2 =>
 bif (r2.2 != 0) then
 some (([] : List Int), r2.2)
 else
 it _ (fun (v_0 : (Unit × (List Int) × Int × Unit) × (Unit)) kn => pCover_L6 r r2 minute v_0.1.2.1 v_0.1.2.2.1 (fun y0 y1 => kn (((), y0, y1, ()), (())))) (((), ([] : List Int), 0, ()), (()))
def pCover : Rescue → Int → Option ((List Int) × Int) := opq (fun r minute => pCover' itN r minute)
theorem pCover_eq (r : Rescue) (minute : Int) : pCover r minute = pCover' itN r minute := by unfold pCover; rw [opq_eq]
def E43 : FEnv iseat := ⟨⟨33, [sp68, sp94], [], [], [], [], [], [], [], [], [], [29], [], true⟩, [(6, ⟨⟨[(6, .bx 6 0), (8, .os 8 3 (.int .i64)), (21, .v (.int .i64))], []⟩, [1, 20], [6], []⟩)]⟩
theorem e43 (it : It ((List Int) × Int)) (r : Rescue) (minute : Int) : fnRun (ts := [.sl (.int .i64), .int .i64]) it E43 (bodyOf Try.f43) Try.f43.results.toList (encA [.Rescue, .int .i64] (r, minute, ())) = pCover' it r minute := by kernel_rfl
def sp43 : FnSpec iseat.toSeat := mkSpec iseat.toSeat 43 [.Rescue, .int .i64] [.sl (.int .i64), .int .i64] false (fun a => pCover a.1 a.2.1) (fun a x hx h h' => fn_contract (Z := iseat) (ats := [.Rescue, .int .i64]) (ts := [.sl (.int .i64), .int .i64]) (E := E43) (fn := Try.f43) (c := bodyOf Try.f43) Try.func43 (by kernel_rfl) (by kernel_rfl) (by kernel_rfl) (by kernel_rfl) rfl ((e43 itN a.1 a.2.1).trans ((pCover_eq a.1 a.2.1).symm.trans hx)) h h') (fun h => nomatch h)
def Clone' (it : It (List Int)) (s : List Int) : Option (List Int) :=
 opNil s.isEmpty
 (some ([] : List Int))
 (chk (fitA (([] : List Int).length + s.length) 8) <|
 some (([] : List Int) ++ s))
def Clone : (List Int) → Option (List Int) := opq (fun s => Clone' itN s)
theorem Clone_eq (s : List Int) : Clone s = Clone' itN s := by unfold Clone; rw [opq_eq]
def E72 : FEnv iseat := ⟨⟨8, [], [], [], [], [], [], [], [], [], [], [], [], true⟩, []⟩
theorem e72 (it : It (List Int)) (s : List Int) : fnRunO (.sl (.int .i64)) 0 3 (.int .i64) it E72 (bodyOf Try.f72) Try.f72.results.toList (encA [.sl (.int .i64)] (s, ())) = Clone' it s := by kernel_rfl
def sp72 : FnSpecO iseat.toSeat := mkSpecO iseat.toSeat 72 [.sl (.int .i64)] (.sl (.int .i64)) 0 3 (.int .i64) (fun a => Clone a.1) (fun a x hx l d hd h => fn_contractO (Z := iseat) (ats := [.sl (.int .i64)]) (E := E72) (fn := Try.f72) (c := bodyOf Try.f72) Try.func72 (by kernel_rfl) (by kernel_rfl) (by kernel_rfl) (by kernel_rfl) rfl ((e72 itN a.1).trans ((Clone_eq a.1).symm.trans hx)) hd h)
def Index_L2 (s : List Int) (v : Int) (x8 : Int) (kn_ : Int → Option Int) : Option Int :=
 bif (decide (x8 < (s.length : Int))) then
 chk (decide (0 ≤ x8) && decide (x8 < (s.length : Int))) <|
 bif (v == (s.getD x8.toNat 0)) then
 some x8
 else
 kn_ (w64 (x8 + 1))
 else
 some (-1)
def Index' (it : It Int) (s : List Int) (v : Int) : Option Int :=
 it _ (fun (v_0 : (Int × Unit) × (Unit)) kn => Index_L2 s v v_0.1.1 (fun y0 => kn ((y0, ()), (())))) ((0, ()), (()))
def Index : (List Int) → Int → Option Int := opq (fun s v => Index' itN s v)
theorem Index_eq (s : List Int) (v : Int) : Index s v = Index' itN s v := by unfold Index; rw [opq_eq]
def E111 : FEnv iseat := ⟨⟨19, [], [], [], [], [], [], [], [], [], [], [], [], true⟩, [(2, ⟨⟨[(8, .v (.int .i64))], []⟩, [0, 1, 7], [], []⟩)]⟩
theorem e111 (it : It Int) (s : List Int) (v : Int) : fnRun (ts := [.int .i64]) it E111 (bodyOf Try.f111) Try.f111.results.toList (encA [.sl (.int .i64), .int .i64] (s, v, ())) = Index' it s v := by kernel_rfl
def sp111 : FnSpec iseat.toSeat := mkSpec iseat.toSeat 111 [.sl (.int .i64), .int .i64] [.int .i64] true (fun a => Index a.1 a.2.1) (fun a x hx h h' => fn_contract (Z := iseat) (ats := [.sl (.int .i64), .int .i64]) (ts := [.int .i64]) (E := E111) (fn := Try.f111) (c := bodyOf Try.f111) Try.func111 (by kernel_rfl) (by kernel_rfl) (by kernel_rfl) (by kernel_rfl) rfl ((e111 itN a.1 a.2.1).trans ((Index_eq a.1 a.2.1).symm.trans hx)) h h') (fun _ x => rfl)
def Contains' (it : It Bool) (s : List Int) (v : Int) : Option Bool :=
 (Index s v).bind fun r =>
 some (decide (r ≥ 0))
def Contains : (List Int) → Int → Option Bool := opq (fun s v => Contains' itN s v)
theorem Contains_eq (s : List Int) (v : Int) : Contains s v = Contains' itN s v := by unfold Contains; rw [opq_eq]
def E73 : FEnv iseat := ⟨⟨9, [sp111], [], [], [], [], [], [], [], [], [], [], [], true⟩, []⟩
theorem e73 (it : It Bool) (s : List Int) (v : Int) : fnRun (ts := [.bool]) it E73 (bodyOf Try.f73) Try.f73.results.toList (encA [.sl (.int .i64), .int .i64] (s, v, ())) = Contains' it s v := by kernel_rfl
def sp73 : FnSpec iseat.toSeat := mkSpec iseat.toSeat 73 [.sl (.int .i64), .int .i64] [.bool] true (fun a => Contains a.1 a.2.1) (fun a x hx h h' => fn_contract (Z := iseat) (ats := [.sl (.int .i64), .int .i64]) (ts := [.bool]) (E := E73) (fn := Try.f73) (c := bodyOf Try.f73) Try.func73 (by kernel_rfl) (by kernel_rfl) (by kernel_rfl) (by kernel_rfl) rfl ((e73 itN a.1 a.2.1).trans ((Contains_eq a.1 a.2.1).symm.trans hx)) h h') (fun _ x => rfl)
def choices1_L5 (a1 : Watch) (a2 : Int) (a0 : List Int) (x12 : Int) (kn_ : Int → Option (List (Int × (List Int) × Unit))) (l : List Int) (x21 : Int) (kn_2 : (List Int) → Int → Option (List (Int × (List Int) × Unit))) : Option (List (Int × (List Int) × Unit)) :=
 bif (decide (x21 < (a1.Rescue.Posts.length : Int))) then
 chk (decide (0 ≤ x21) && decide (x21 < (a1.Rescue.Posts.length : Int))) <|
 (manned (a1.Rescue.Posts.getD x21.toNat dfltPost) a2).bind fun r =>
 bif r then
 chk (decide (0 ≤ x21) && decide (x21 < (a1.times.length : Int))) <|
 chk (decide (0 ≤ (a0.getD x12.toNat 0)) && decide ((a0.getD x12.toNat 0) < ((a1.times.getD x21.toNat []).length : Int))) <|
 chk (decide (0 ≤ (a0.getD x12.toNat 0)) && decide ((a0.getD x12.toNat 0) < (a1.lives.length : Int))) <|
 bif (decide (((a1.times.getD x21.toNat []).getD (a0.getD x12.toNat 0).toNat dfltSpan).Hi ≤ (a1.lives.getD (a0.getD x12.toNat 0).toNat dfltSpan).Lo)) then
 chk (fitA (l.length + [x21].length) 8) <|
 kn_2 (l ++ [x21]) (w64 (x21 + 1))
 else
 kn_2 l (w64 (x21 + 1))
 else
 kn_2 l (w64 (x21 + 1))
 else
 chk (fitA (l.length + [(-1)].length) 8) <|
 consM (x12, (l ++ [(-1)]), ())
 (some [])
 (kn_ (w64 (x12 + 1)))
def choices1_L1 (it : It (List (Int × (List Int) × Unit))) (a0 : List Int) (a1 : Watch) (a2 : Int) (x12 : Int) (kn_ : Int → Option (List (Int × (List Int) × Unit))) : Option (List (Int × (List Int) × Unit)) :=
 bif (decide (x12 < (a0.length : Int))) then
 chk (decide (0 ≤ x12) && decide (x12 < (a0.length : Int))) <|
 it _ (fun (v_0 : (Unit × (List Int) × Int × Unit) × (Unit)) kn => choices1_L5 a1 a2 a0 x12 kn_ v_0.1.2.1 v_0.1.2.2.1 (fun y0 y1 => kn (((), y0, y1, ()), (())))) (((), ([] : List Int), 0, ()), (()))
 else
 some []
def choices1' (it : It (List (Int × (List Int) × Unit))) (a0 : List Int) (a1 : Watch) (a2 : Int) : Option (List (Int × (List Int) × Unit)) :=
 it _ (fun (v_0 : (Unit × Int × Unit) × (Unit)) kn => choices1_L1 it a0 a1 a2 v_0.1.2.1 (fun y0 => kn (((), y0, ()), (())))) (((), 0, ()), (()))
def choices1 : (List Int) → Watch → Int → Option (List (Int × (List Int) × Unit)) := opq (fun a0 a1 a2 => choices1' itN a0 a1 a2)
theorem choices1_eq (a0 : List Int) (a1 : Watch) (a2 : Int) : choices1 a0 a1 a2 = choices1' itN a0 a1 a2 := by unfold choices1; rw [opq_eq]
def E109 : FEnv iseat := ⟨⟨60, [sp110], [], [], [], [], [], [], [], [], [], [49, 55], [YL], true⟩, [(1, ⟨⟨[(0, .yl YL), (12, .v (.int .i64))], []⟩, [2, 3, 10, 11], [], []⟩), (5, ⟨⟨[(0, .yl YL), (7, .os 7 3 (.int .i64)), (21, .v (.int .i64))], []⟩, [5, 6, 12, 19, 20], [], []⟩)]⟩
theorem e109 (it : It (List (Int × (List Int) × Unit))) (a0 : List Int) (a1 : Watch) (a2 : Int) : fnRunI [.int .i64, .sl (.int .i64)] it E109 (bodyOf Try.f109) (encA [.ptr (.sl (.int .i64)), .ptr .Watch, .ptr (.int .i64)] (a0, a1, a2, ())) = choices1' it a0 a1 a2 := by kernel_rfl
def it109 : ItSpec iseat.toSeat := mkItSpec iseat.toSeat 109 [.ptr (.sl (.int .i64)), .ptr .Watch, .ptr (.int .i64)] [.int .i64, .sl (.int .i64)] rfl (fun a => choices1 a.1 a.2.1 a.2.2.1) (fun a x hx h => it_contract (Z := iseat) (cts := [.ptr (.sl (.int .i64)), .ptr .Watch, .ptr (.int .i64)]) (E := E109) (fn := Try.f109) (c := bodyOf Try.f109) Try.func109 (by kernel_rfl) (by kernel_rfl) (by kernel_rfl) (by kernel_rfl) rfl rfl ((e109 itN a.1 a.2.1 a.2.2.1).trans ((choices1_eq a.1 a.2.1 a.2.2.1).symm.trans hx)) h)
def choices' (it : It (List Int × Watch × Int)) (w : Watch) (minute : Int) (calls : List Int) : Option (List Int × Watch × Int) :=
 some (calls, w, minute)
def choices : Watch → Int → (List Int) → Option (List Int × Watch × Int) := opq (fun w minute calls => choices' itN w minute calls)
theorem choices_eq (w : Watch) (minute : Int) (calls : List Int) : choices w minute calls = choices' itN w minute calls := by unfold choices; rw [opq_eq]
def E70 : FEnv iseat := ⟨⟨8, [], [], [], [], [], [], [], [], [], [], [], [], true⟩, []⟩
theorem e70 (it : It (List Int × Watch × Int)) (w : Watch) (minute : Int) (calls : List Int) : fnRunC3 109 (.sl (.int .i64)) .Watch (.int .i64) it E70 (bodyOf Try.f70) Try.f70.results.toList (encA [.Watch, .int .i64, .sl (.int .i64)] (w, minute, calls, ())) = choices' it w minute calls := by kernel_rfl
def sp70 : FnSpec iseat.toSeat := mkSpec iseat.toSeat 70 [.Watch, .int .i64, .sl (.int .i64)] [.clo3 109 (.sl (.int .i64)) .Watch (.int .i64)] false (fun a => choices a.1 a.2.1 a.2.2.1) (fun a x hx h h' => fn_contractC3 (Z := iseat) (ats := [.Watch, .int .i64, .sl (.int .i64)]) (E := E70) (fn := Try.f70) (c := bodyOf Try.f70) Try.func70 (by kernel_rfl) (by kernel_rfl) (by kernel_rfl) (by kernel_rfl) rfl ((e70 itN a.1 a.2.1 a.2.2.1).trans ((choices_eq a.1 a.2.1 a.2.2.1).symm.trans hx)) h h') (fun h => nomatch h)
def tryS_L4 (x3 : List (List Int)) (now : List Int) (rec : ((List Int) × Int × (List Int) × (List (List Int)) × Unit) → ((List Int) × Int × Unit) → Option (Int × (List Int) × Unit)) (x0 : List Int) (sum : Int) (x34 : Int) (sum2 : Int) (x22 : List Int) (kn_ : Int → Int → (List Int) → Option (Int × (List Int) × Unit)) : Option (Int × (List Int) × Unit) :=
 bif (decide (x34 < ((x3.getD (now.length : Int).toNat []).length : Int))) then
 chk (decide (0 ≤ x34) && decide (x34 < ((x3.getD (now.length : Int).toNat []).length : Int))) <|
 bif (((x3.getD (now.length : Int).toNat []).getD x34.toNat 0) == (-1)) then
 (Clone now).bind fun r2 =>
 chk (fitA (r2.length + [((x3.getD (now.length : Int).toNat []).getD x34.toNat 0)].length) 8) <|
 (rec (x0, sum2, x22, x3, ()) ((r2 ++ [((x3.getD (now.length : Int).toNat []).getD x34.toNat 0)]), sum, ())).bind fun r3 =>
 kn_ (w64 (x34 + 1)) r3.1 r3.2.1
 else
 (Contains now ((x3.getD (now.length : Int).toNat []).getD x34.toNat 0)).bind fun r4 =>
 bif (!r4) then
 (Clone now).bind fun r5 =>
 chk (fitA (r5.length + [((x3.getD (now.length : Int).toNat []).getD x34.toNat 0)].length) 8) <|
 (rec (x0, sum2, x22, x3, ()) ((r5 ++ [((x3.getD (now.length : Int).toNat []).getD x34.toNat 0)]), (w64 (sum + 1)), ())).bind fun r6 =>
 kn_ (w64 (x34 + 1)) r6.1 r6.2.1
 else
 kn_ (w64 (x34 + 1)) sum2 x22
 else
 some (sum2, x22, ())
def tryS' (rec : ((List Int) × Int × (List Int) × (List (List Int)) × Unit) → ((List Int) × Int × Unit) → Option (Int × (List Int) × Unit)) (it : It (Int × (List Int) × Unit)) (x0 : List Int) (x1 : Int) (x2 : List Int) (x3 : List (List Int)) (now : List Int) (sum : Int) : Option (Int × (List Int) × Unit) :=
 bif (decide ((w64 ((w64 (sum + (x0.length : Int))) - (now.length : Int))) ≤ x1)) then
 some (x1, x2, ())
 else
 bif ((now.length : Int) == (x0.length : Int)) then
 (Clone now).bind fun r =>
 some (sum, r, ())
 else
 chk (decide (0 ≤ (now.length : Int)) && decide ((now.length : Int) < (x3.length : Int))) <|
 it _ (fun (v_0 : (Unit × Int × Unit) × ((Unit × Unit) × (Int × Unit) × ((List Int) × Unit) × Unit)) kn => tryS_L4 x3 now rec x0 sum v_0.1.2.1 v_0.2.2.1.1 v_0.2.2.2.1.1 (fun y0 y1 y2 => kn (((), y0, ()), (((), ()), (y1, ()), (y2, ()), ())))) (((), 0, ()), (((), ()), (x1, ()), (x2, ()), ()))
def E71 (rec : ((List Int) × Int × (List Int) × (List (List Int)) × Unit) → ((List Int) × Int × Unit) → Option (Int × (List Int) × Unit)) (hrec : ∀ x a y, rec x a = some y → ContractM iseat.toSeat 71 (encBK [.c (.sl (.int .i64)), .w (.int .i64), .w (.sl (.int .i64)), .c (.sl (.sl (.int .i64))), .k 71 [(0, 0), (1, 0), (2, 0), (3, 0), (4, 0)]] x).length (lsF (encBK [.c (.sl (.int .i64)), .w (.int .i64), .w (.sl (.int .i64)), .c (.sl (.sl (.int .i64))), .k 71 [(0, 0), (1, 0), (2, 0), (3, 0), (4, 0)]] x)) (upL (wrBK 0 [.c (.sl (.int .i64)), .w (.int .i64), .w (.sl (.int .i64)), .c (.sl (.sl (.int .i64))), .k 71 [(0, 0), (1, 0), (2, 0), (3, 0), (4, 0)]]) (encWK [.c (.sl (.int .i64)), .w (.int .i64), .w (.sl (.int .i64)), .c (.sl (.sl (.int .i64))), .k 71 [(0, 0), (1, 0), (2, 0), (3, 0), (4, 0)]] y) (lsF (encBK [.c (.sl (.int .i64)), .w (.int .i64), .w (.sl (.int .i64)), .c (.sl (.sl (.int .i64))), .k 71 [(0, 0), (1, 0), (2, 0), (3, 0), (4, 0)]] x))) (I.toDL zh (encA [.sl (.int .i64), .int .i64] a ++ ptrs 0 (encBK [.c (.sl (.int .i64)), .w (.int .i64), .w (.sl (.int .i64)), .c (.sl (.sl (.int .i64))), .k 71 [(0, 0), (1, 0), (2, 0), (3, 0), (4, 0)]] x))) (.tup [])) : FEnv iseat := ⟨⟨64, [sp73], [], [], [sp72], [], [], [(mkSpecM iseat.toSeat 71 [.c (.sl (.int .i64)), .w (.int .i64), .w (.sl (.int .i64)), .c (.sl (.sl (.int .i64))), .k 71 [(0, 0), (1, 0), (2, 0), (3, 0), (4, 0)]] [.sl (.int .i64), .int .i64] rec hrec)], [], [], [], [45, 58], [0, 1, 2, 3, 4], false⟩, [(4, ⟨⟨[(6, .bx 4 0), (34, .v (.int .i64))], [(4, [.fnb 71 [(0, 0), (1, 0), (2, 0), (3, 0), (4, 0)]]), (1, [.v (.int .i64)]), (2, [.v (.sl (.int .i64))])]⟩, [0, 1, 32, 33], [], []⟩)]⟩
theorem e71 (rec : ((List Int) × Int × (List Int) × (List (List Int)) × Unit) → ((List Int) × Int × Unit) → Option (Int × (List Int) × Unit)) (hrec : ∀ x a y, rec x a = some y → ContractM iseat.toSeat 71 (encBK [.c (.sl (.int .i64)), .w (.int .i64), .w (.sl (.int .i64)), .c (.sl (.sl (.int .i64))), .k 71 [(0, 0), (1, 0), (2, 0), (3, 0), (4, 0)]] x).length (lsF (encBK [.c (.sl (.int .i64)), .w (.int .i64), .w (.sl (.int .i64)), .c (.sl (.sl (.int .i64))), .k 71 [(0, 0), (1, 0), (2, 0), (3, 0), (4, 0)]] x)) (upL (wrBK 0 [.c (.sl (.int .i64)), .w (.int .i64), .w (.sl (.int .i64)), .c (.sl (.sl (.int .i64))), .k 71 [(0, 0), (1, 0), (2, 0), (3, 0), (4, 0)]]) (encWK [.c (.sl (.int .i64)), .w (.int .i64), .w (.sl (.int .i64)), .c (.sl (.sl (.int .i64))), .k 71 [(0, 0), (1, 0), (2, 0), (3, 0), (4, 0)]] y) (lsF (encBK [.c (.sl (.int .i64)), .w (.int .i64), .w (.sl (.int .i64)), .c (.sl (.sl (.int .i64))), .k 71 [(0, 0), (1, 0), (2, 0), (3, 0), (4, 0)]] x))) (I.toDL zh (encA [.sl (.int .i64), .int .i64] a ++ ptrs 0 (encBK [.c (.sl (.int .i64)), .w (.int .i64), .w (.sl (.int .i64)), .c (.sl (.sl (.int .i64))), .k 71 [(0, 0), (1, 0), (2, 0), (3, 0), (4, 0)]] x))) (.tup [])) (it : It (Int × (List Int) × Unit)) (x0 : List Int) (x1 : Int) (x2 : List Int) (x3 : List (List Int)) (now : List Int) (sum : Int) : fnRunM [.c (.sl (.int .i64)), .w (.int .i64), .w (.sl (.int .i64)), .c (.sl (.sl (.int .i64))), .k 71 [(0, 0), (1, 0), (2, 0), (3, 0), (4, 0)]] it (E71 rec hrec ) (bodyOf Try.f71) (x0, x1, x2, x3, ()) (encA [.sl (.int .i64), .int .i64] (now, sum, ())) = tryS' rec it x0 x1 x2 x3 now sum := by kernel_rfl
def trySF : Nat → ((List Int) × Int × (List Int) × (List (List Int)) × Unit) → ((List Int) × Int × Unit) → Option (Int × (List Int) × Unit)
 | 0 => fun _ _ => none
 | n + 1 => fun x a => tryS' (trySF n) itN x.1 x.2.1 x.2.2.1 x.2.2.2.1 a.1 a.2.1
theorem trySF_ok : ∀ (n : Nat), ∀ x a y, trySF n x a = some y → ContractM iseat.toSeat 71 (encBK [.c (.sl (.int .i64)), .w (.int .i64), .w (.sl (.int .i64)), .c (.sl (.sl (.int .i64))), .k 71 [(0, 0), (1, 0), (2, 0), (3, 0), (4, 0)]] x).length (lsF (encBK [.c (.sl (.int .i64)), .w (.int .i64), .w (.sl (.int .i64)), .c (.sl (.sl (.int .i64))), .k 71 [(0, 0), (1, 0), (2, 0), (3, 0), (4, 0)]] x)) (upL (wrBK 0 [.c (.sl (.int .i64)), .w (.int .i64), .w (.sl (.int .i64)), .c (.sl (.sl (.int .i64))), .k 71 [(0, 0), (1, 0), (2, 0), (3, 0), (4, 0)]]) (encWK [.c (.sl (.int .i64)), .w (.int .i64), .w (.sl (.int .i64)), .c (.sl (.sl (.int .i64))), .k 71 [(0, 0), (1, 0), (2, 0), (3, 0), (4, 0)]] y) (lsF (encBK [.c (.sl (.int .i64)), .w (.int .i64), .w (.sl (.int .i64)), .c (.sl (.sl (.int .i64))), .k 71 [(0, 0), (1, 0), (2, 0), (3, 0), (4, 0)]] x))) (I.toDL zh (encA [.sl (.int .i64), .int .i64] a ++ ptrs 0 (encBK [.c (.sl (.int .i64)), .w (.int .i64), .w (.sl (.int .i64)), .c (.sl (.sl (.int .i64))), .k 71 [(0, 0), (1, 0), (2, 0), (3, 0), (4, 0)]] x))) (.tup [])
 | 0, x, a, y, hx => nomatch hx
 | n + 1, x, a, y, hx => fn_contractM (Z := iseat) (bks := [.c (.sl (.int .i64)), .w (.int .i64), .w (.sl (.int .i64)), .c (.sl (.sl (.int .i64))), .k 71 [(0, 0), (1, 0), (2, 0), (3, 0), (4, 0)]]) (ats := [.sl (.int .i64), .int .i64]) (E := E71 (trySF n) (trySF_ok n) ) (fn := Try.f71) (c := bodyOf Try.f71) Try.func71 (by kernel_rfl) (by kernel_rfl) (by kernel_rfl) (by kernel_rfl) rfl rfl rfl (by decide) ((e71 (trySF n) (trySF_ok n) itN x.1 x.2.1 x.2.2.1 x.2.2.2.1 a.1 a.2.1).trans (show tryS' (trySF n) itN x.1 x.2.1 x.2.2.1 x.2.2.2.1 a.1 a.2.1 = _ from hx))
def tryS : ((List Int) × Int × (List Int) × (List (List Int)) × Unit) → ((List Int) × Int × Unit) → Option (Int × (List Int) × Unit) := opq (trySF FUELR)
theorem tryS_eq : tryS = trySF FUELR := by unfold tryS; rw [opq_eq]
def sp71 : FnSpecM iseat.toSeat := mkSpecM iseat.toSeat 71 [.c (.sl (.int .i64)), .w (.int .i64), .w (.sl (.int .i64)), .c (.sl (.sl (.int .i64))), .k 71 [(0, 0), (1, 0), (2, 0), (3, 0), (4, 0)]] [.sl (.int .i64), .int .i64] tryS (fun x a y hx => trySF_ok FUELR x a y (by rw [← tryS_eq]; exact hx))
def pSend_E14 (calls : List Int) (may : List (List Int)) : Option ((List Int) × Int × Int) :=
 (tryS (calls, (-1), [], may, ()) ([], 0, ())).bind fun r5 =>
 some (r5.2.1, r5.1, 0)
def pSend_L14 (may : List (List Int)) (x48 : Int) (x49 : List Int) (kn_2 : (List (List Int)) → Option ((List Int) × Int × Int)) : Option ((List Int) × Int × Int) :=
 chk (decide (0 ≤ x48) && decide (x48 < (may.length : Int))) <|
 chk (decide (x48.toNat < may.length)) <|
 kn_2 (may.set x48.toNat x49)
def pSend_L7 (it : It ((List Int) × Int × Int)) (calls : List Int) (r : Rescue) (r2 : (Watch × Int)) (minute : Int) (x30 : Int) (saved : Int) (kn_ : Int → Int → Option ((List Int) × Int × Int)) : Option ((List Int) × Int × Int) :=
 bif (decide (x30 < (calls.length : Int))) then
 chk (decide (0 ≤ x30) && decide (x30 < (calls.length : Int))) <|
 (within (calls.getD x30.toNat 0) 0 (w64 (r.Spots - 1))).bind fun r3 =>
 bif (!r3) then
 some ([], 0, 7)
 else
 kn_ (w64 (x30 + 1)) saved
 else
 chk (fitM (calls.length : Int) 24) <|
 (choices r2.1 minute calls).bind fun r4 =>
 (choices1 r4.1 r4.2.1 r4.2.2).bind fun items => it _ (fun (v_0 : ((Unit × Unit × Unit × Unit × Unit) × (((List (List Int)) × Unit) × Unit)) × List (Int × (List Int) × Unit)) kn => match v_0.2 with
 | [] => pSend_E14 calls v_0.1.2.1.1
 | a :: l => pSend_L14 v_0.1.2.1.1 a.1 a.2.1 (fun y0 => kn ((((), (), (), (), ()), ((y0, ()), ())), l))) ((((), (), (), (), ()), (((List.replicate (calls.length : Int).toNat []), ()), ())), items)
def pSend' (it : It ((List Int) × Int × Int)) (r : Rescue) (minute : Int) (calls : List Int) : Option ((List Int) × Int × Int) :=
 (asked r minute).bind fun r2 =>
 bif (r2.2 != 0) then
 some ([], 0, r2.2)
 else
 bif (decide ((calls.length : Int) > 6)) then
 some ([], 0, 8)
 else
 it _ (fun (v_0 : (Unit × Unit × Unit × Unit × Unit × Int × Unit) × ((Unit × Unit) × (Int × Unit) × Unit)) kn => pSend_L7 it calls r r2 minute v_0.1.2.2.2.2.2.1 v_0.2.2.1.1 (fun y0 y1 => kn (((), (), (), (), (), y0, ()), (((), ()), (y1, ()), ())))) (((), (), (), (), (), 0, ()), (((), ()), (0, ()), ()))
def pSend : Rescue → Int → (List Int) → Option ((List Int) × Int × Int) := opq (fun r minute calls => pSend' itN r minute calls)
theorem pSend_eq (r : Rescue) (minute : Int) (calls : List Int) : pSend r minute calls = pSend' itN r minute calls := by unfold pSend; rw [opq_eq]
def E22 : FEnv iseat := ⟨⟨59, [sp68, sp69, sp70], [], [], [], [it109], [], [sp71], [], [], [], [], [], true⟩, [(7, ⟨⟨[(3, .bx 3 0), (5, .bx 5 0), (6, .bx 6 0), (7, .bx 7 0), (9, .bx 9 0), (30, .v (.int .i64))], [(6, [.nilc]), (7, [.v (.int .i64)])]⟩, [1, 28, 29], [3, 5, 9], []⟩), (14, ⟨⟨[(5, .bx 5 0), (6, .bx 6 0), (7, .bx 7 0), (12, .bx 12 0)], [(12, [.os 43 28 (.sl (.int .i64))])]⟩, [47], [5, 6, 7], []⟩)]⟩
theorem e22 (it : It ((List Int) × Int × Int)) (r : Rescue) (minute : Int) (calls : List Int) : fnRun (ts := [.sl (.int .i64), .int .i64, .int .i64]) it E22 (bodyOf Try.f22) Try.f22.results.toList (encA [.Rescue, .int .i64, .sl (.int .i64)] (r, minute, calls, ())) = pSend' it r minute calls := by kernel_rfl
def sp22 : FnSpec iseat.toSeat := mkSpec iseat.toSeat 22 [.Rescue, .int .i64, .sl (.int .i64)] [.sl (.int .i64), .int .i64, .int .i64] false (fun a => pSend a.1 a.2.1 a.2.2.1) (fun a x hx h h' => fn_contract (Z := iseat) (ats := [.Rescue, .int .i64, .sl (.int .i64)]) (ts := [.sl (.int .i64), .int .i64, .int .i64]) (E := E22) (fn := Try.f22) (c := bodyOf Try.f22) Try.func22 (by kernel_rfl) (by kernel_rfl) (by kernel_rfl) (by kernel_rfl) rfl ((e22 itN a.1 a.2.1 a.2.2.1).trans ((pSend_eq a.1 a.2.1 a.2.2.1).symm.trans hx)) h h') (fun h => nomatch h)
def after' (it : It Int) (a : Int) (b : Int) : Option Int :=
 some (min 1000000 (w64 (a + b)))
def after : Int → Int → Option Int := opq (fun a b => after' itN a b)
def verdict' (it : It Int) (reached : Span) (lives : Span) : Option Int :=
 bif (decide (reached.Hi ≤ lives.Lo)) then
 some 1
 else
 bif (decide (reached.Lo > lives.Hi)) then
 some 2
 else
 some 3
def verdict : Span → Span → Option Int := opq (fun reached lives => verdict' itN reached lives)
def span' (it : It Span) (low : Int) (high : Int) : Option Span :=
 some (⟨low, high⟩ : Span)
def span : Int → Int → Option Span := opq (fun low high => span' itN low high)
theorem span_eq (low : Int) (high : Int) : span low high = span' itN low high := by unfold span; rw [opq_eq]
def E28 : FEnv iseat := ⟨⟨8, [], [], [], [], [], [], [], [], [], [], [], [], true⟩, []⟩
theorem e28 (it : It Span) (low : Int) (high : Int) : fnRun (ts := [.Span]) it E28 (bodyOf Try.f28) Try.f28.results.toList (encA [.int .i64, .int .i64] (low, high, ())) = span' it low high := by kernel_rfl
def sp28 : FnSpec iseat.toSeat := mkSpec iseat.toSeat 28 [.int .i64, .int .i64] [.Span] true (fun a => span a.1 a.2.1) (fun a x hx h h' => fn_contract (Z := iseat) (ats := [.int .i64, .int .i64]) (ts := [.Span]) (E := E28) (fn := Try.f28) (c := bodyOf Try.f28) Try.func28 (by kernel_rfl) (by kernel_rfl) (by kernel_rfl) (by kernel_rfl) rfl ((e28 itN a.1 a.2.1).trans ((span_eq a.1 a.2.1).symm.trans hx)) h h') (fun _ x => rfl)
def one' (it : It Span) (n : Int) : Option Span :=
 (span n n).bind fun r =>
 some r
def one : Int → Option Span := opq (fun n => one' itN n)
theorem one_eq (n : Int) : one n = one' itN n := by unfold one; rw [opq_eq]
def E65 : FEnv iseat := ⟨⟨6, [sp28], [], [], [], [], [], [], [], [], [], [], [], true⟩, []⟩
theorem e65 (it : It Span) (n : Int) : fnRun (ts := [.Span]) it E65 (bodyOf Try.f65) Try.f65.results.toList (encA [.int .i64] (n, ())) = one' it n := by kernel_rfl
def sp65 : FnSpec iseat.toSeat := mkSpec iseat.toSeat 65 [.int .i64] [.Span] true (fun a => one a.1) (fun a x hx h h' => fn_contract (Z := iseat) (ats := [.int .i64]) (ts := [.Span]) (E := E65) (fn := Try.f65) (c := bodyOf Try.f65) Try.func65 (by kernel_rfl) (by kernel_rfl) (by kernel_rfl) (by kernel_rfl) rfl ((e65 itN a.1).trans ((one_eq a.1).symm.trans hx)) h h') (fun _ x => rfl)
def road' (it : It Rescue)  : Option Rescue :=
 (span 5 8).bind fun r =>
 (span 10 20).bind fun r2 =>
 (one 12).bind fun r3 =>
 (span 3 4).bind fun r4 =>
 (span 2 3).bind fun r5 =>
 (one 1).bind fun r6 =>
 (span 30 40).bind fun r7 =>
 (span 20 25).bind fun r8 =>
 (one 0).bind fun r9 =>
 (span 6 9).bind fun r10 =>
 (span 0 10).bind fun r11 =>
 (span 10 20).bind fun r12 =>
 (span (-10) 0).bind fun r13 =>
 (span 50 60).bind fun r14 =>
 (span 10 20).bind fun r15 =>
 (span 15 30).bind fun r16 =>
 (span 30 60).bind fun r17 =>
 (span 60 90).bind fun r18 =>
 some (⟨4, ([(⟨0, 1, r, 1⟩ : Path), (⟨1, 2, r2, 1⟩ : Path), (⟨0, 2, r3, 3⟩ : Path), (⟨2, 3, r4, 2⟩ : Path)] : List Path), ([(⟨0, r5, 0, 0, 0, []⟩ : Post), (⟨2, r6, 360, 1080, 3, ([r7, r8, r9, r10] : List Span)⟩ : Post)] : List Post), ([r11, r12, r13, r14] : List Span), ([(⟨(-400), r15⟩ : Chill), (⟨0, r16⟩ : Chill), (⟨15, r17⟩ : Chill), (⟨50, r18⟩ : Chill)] : List Chill)⟩ : Rescue)
def road : Option Rescue := opq (road' itN)
theorem road_eq  : road  = road' itN  := by unfold road; rw [opq_eq]
def E64 : FEnv iseat := ⟨⟨35, [sp28, sp65], [], [], [], [], [], [], [], [], [], [], [], true⟩, []⟩
theorem e64 (it : It Rescue)  : fnRun (ts := [.Rescue]) it E64 (bodyOf Try.f64) Try.f64.results.toList (encA [] (())) = road' it  := by kernel_rfl
def sp64 : FnSpec iseat.toSeat := mkSpec iseat.toSeat 64 [] [.Rescue] false (fun a => road ) (fun a x hx h h' => fn_contract (Z := iseat) (ats := []) (ts := [.Rescue]) (E := E64) (fn := Try.f64) (c := bodyOf Try.f64) Try.func64 (by kernel_rfl) (by kernel_rfl) (by kernel_rfl) (by kernel_rfl) rfl ((e64 itN ).trans ((road_eq ).symm.trans hx)) h h') (fun h => nomatch h)
def SameSpans_L4 (a : List Span) (b : List Span) (i : Int) (kn_ : Int → Option Bool) : Option Bool :=
 bif (decide (i < (a.length : Int))) then
 chk (decide (0 ≤ i) && decide (i < (a.length : Int))) <|
 chk (decide (0 ≤ i) && decide (i < (b.length : Int))) <|
 bif (!(decide ((a.getD i.toNat dfltSpan).Lo = (b.getD i.toNat dfltSpan).Lo) && (decide ((a.getD i.toNat dfltSpan).Hi = (b.getD i.toNat dfltSpan).Hi) && true))) then
 some false
 else
 kn_ (w64 (i + 1))
 else
 some true
def SameSpans' (it : It Bool) (a : List Span) (b : List Span) : Option Bool :=
 bif ((a.length : Int) != (b.length : Int)) then
 some false
 else
 it _ (fun (v_0 : (Int × Unit) × (Unit)) kn => SameSpans_L4 a b v_0.1.1 (fun y0 => kn ((y0, ()), (())))) ((0, ()), (()))
def SameSpans : (List Span) → (List Span) → Option Bool := opq (fun a b => SameSpans' itN a b)
theorem SameSpans_eq (a : List Span) (b : List Span) : SameSpans a b = SameSpans' itN a b := by unfold SameSpans; rw [opq_eq]
def E35 : FEnv iseat := ⟨⟨26, [], [], [], [], [], [], [], [], [], [], [], [], true⟩, [(4, ⟨⟨[(5, .v (.int .i64))], []⟩, [0, 1], [], []⟩)]⟩
theorem e35 (it : It Bool) (a : List Span) (b : List Span) : fnRun (ts := [.bool]) it E35 (bodyOf Try.f35) Try.f35.results.toList (encA [.sl .Span, .sl .Span] (a, b, ())) = SameSpans' it a b := by kernel_rfl
def sp35 : FnSpec iseat.toSeat := mkSpec iseat.toSeat 35 [.sl .Span, .sl .Span] [.bool] true (fun a => SameSpans a.1 a.2.1) (fun a x hx h h' => fn_contract (Z := iseat) (ats := [.sl .Span, .sl .Span]) (ts := [.bool]) (E := E35) (fn := Try.f35) (c := bodyOf Try.f35) Try.func35 (by kernel_rfl) (by kernel_rfl) (by kernel_rfl) (by kernel_rfl) rfl ((e35 itN a.1 a.2.1).trans ((SameSpans_eq a.1 a.2.1).symm.trans hx)) h h') (fun _ x => rfl)
def Same_L4 (a : List Int) (b : List Int) (i : Int) (kn_ : Int → Option Bool) : Option Bool :=
 bif (decide (i < (a.length : Int))) then
 chk (decide (0 ≤ i) && decide (i < (a.length : Int))) <|
 chk (decide (0 ≤ i) && decide (i < (b.length : Int))) <|
 bif ((a.getD i.toNat 0) != (b.getD i.toNat 0)) then
 some false
 else
 kn_ (w64 (i + 1))
 else
 some true
def Same' (it : It Bool) (a : List Int) (b : List Int) : Option Bool :=
 bif ((a.length : Int) != (b.length : Int)) then
 some false
 else
 it _ (fun (v_0 : (Int × Unit) × (Unit)) kn => Same_L4 a b v_0.1.1 (fun y0 => kn ((y0, ()), (())))) ((0, ()), (()))
def Same : (List Int) → (List Int) → Option Bool := opq (fun a b => Same' itN a b)
theorem Same_eq (a : List Int) (b : List Int) : Same a b = Same' itN a b := by unfold Same; rw [opq_eq]
def E24 : FEnv iseat := ⟨⟨26, [], [], [], [], [], [], [], [], [], [], [], [], true⟩, [(4, ⟨⟨[(5, .v (.int .i64))], []⟩, [0, 1], [], []⟩)]⟩
theorem e24 (it : It Bool) (a : List Int) (b : List Int) : fnRun (ts := [.bool]) it E24 (bodyOf Try.f24) Try.f24.results.toList (encA [.sl (.int .i64), .sl (.int .i64)] (a, b, ())) = Same' it a b := by kernel_rfl
def sp24 : FnSpec iseat.toSeat := mkSpec iseat.toSeat 24 [.sl (.int .i64), .sl (.int .i64)] [.bool] true (fun a => Same a.1 a.2.1) (fun a x hx h h' => fn_contract (Z := iseat) (ats := [.sl (.int .i64), .sl (.int .i64)]) (ts := [.bool]) (E := E24) (fn := Try.f24) (c := bodyOf Try.f24) Try.func24 (by kernel_rfl) (by kernel_rfl) (by kernel_rfl) (by kernel_rfl) rfl ((e24 itN a.1 a.2.1).trans ((Same_eq a.1 a.2.1).symm.trans hx)) h h') (fun _ x => rfl)
def awake' (it : It Bool)  : Option Bool :=
 (road).bind fun r =>
 (pGo r 0).bind fun r2 =>
 (road).bind fun r3 =>
 (pCover r3 400).bind fun r4 =>
 (road).bind fun r5 =>
 (pSend r5 400 [1, 0]).bind fun r6 =>
 bif (r2.2 == 0) then
 bif (r4.2 == 0) then
 bif (r6.2.2 == 0) then
 (span 2 3).bind fun r7 =>
 (span 7 11).bind fun r8 =>
 (span 14 31).bind fun r9 =>
 (one 1000000).bind fun r10 =>
 (SameSpans r2.1 ([r7, r8, r9, r10] : List Span)).bind fun r11 =>
 bif r11 then
 (Same r4.1 [1, 1, 3, 3]).bind fun r12 =>
 bif r12 then
 (Same r6.1 [0, (-1)]).bind fun r13 =>
 bif r13 then
 some (r6.2.1 == 1)
 else
 some false
 else
 some false
 else
 some false
 else
 some false
 else
 some false
 else
 some false
def awake : Option Bool := opq (awake' itN)
theorem awake_eq  : awake  = awake' itN  := by unfold awake; rw [opq_eq]
def E17 : FEnv iseat := ⟨⟨58, [sp64, sp26, sp43, sp22, sp28, sp65, sp35, sp24], [], [], [], [], [], [], [], [], [], [20, 41, 46, 51], [], true⟩, []⟩
theorem e17 (it : It Bool)  : fnRun (ts := [.bool]) it E17 (bodyOf Try.f17) Try.f17.results.toList (encA [] (())) = awake' it  := by kernel_rfl
def sp17 : FnSpec iseat.toSeat := mkSpec iseat.toSeat 17 [] [.bool] true (fun a => awake ) (fun a x hx h h' => fn_contract (Z := iseat) (ats := []) (ts := [.bool]) (E := E17) (fn := Try.f17) (c := bodyOf Try.f17) Try.func17 (by kernel_rfl) (by kernel_rfl) (by kernel_rfl) (by kernel_rfl) rfl ((e17 itN ).trans ((awake_eq ).symm.trans hx)) h h') (fun _ x => rfl)
end
end Go.Proofs.Rescue07
