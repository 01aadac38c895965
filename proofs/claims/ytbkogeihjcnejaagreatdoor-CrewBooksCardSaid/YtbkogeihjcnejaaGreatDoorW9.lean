/- Walks by computing: what each function of the program that the laws reach gives for what it gets, as plain Lean, and that it is so; without a condition but those that stand in each theorem. -/
import Derived.Shelf.Strings.Split
import Derived.Shelf.Strings.Builder1
import Derived.Shelf.Strconv.AtoiAll
import Derived.Shelf.Strconv.Itoa3
import Derived.Shelf.Strings.SlTrimAscii
import Derived.WalkSmall
import Derived.Lib.SplitLaws
import Derived.Lib.AtoiTie
import Derived.Lib.ItoaMem
import Derived.Test.YtbkogeihjcnejaaGreatDoorW1
import Derived.Test.YtbkogeihjcnejaaGreatDoorW2
import Derived.Test.YtbkogeihjcnejaaGreatDoorW3
import Derived.Test.YtbkogeihjcnejaaGreatDoorW4
import Derived.Test.YtbkogeihjcnejaaGreatDoorW5
import Derived.Test.YtbkogeihjcnejaaGreatDoorW6
import Derived.Test.YtbkogeihjcnejaaGreatDoorW7
import Derived.Test.YtbkogeihjcnejaaGreatDoorW8
set_option linter.all false
namespace Go.Proofs.Tx
open Go Go.Ab Go.RowKit Go.Shelf Go.Proofs
open Go.Proofs.YtbkogeihjcnejaaGreatDoor (iseat)
set_option linter.all false
set_option maxRecDepth 100000
def rn : Ren := { f := fun | 119 => 118 | 120 => 109 | 129 => 94 | 137 => 117 | 138 => 70 | 143 => 71 | 146 => 34 | 151 => 91 | 152 => 108 | 160 => 61 | 169 => 28 | 171 => 27 | 172 => 68 | 195 => 86 | 197 => 87 | 205 => 114 | 217 => 104 | 218 => 88 | 219 => 89 | 221 => 54 | 224 => 106 | 225 => 105 | 227 => 75 | 228 => 90 | 231 => 73 | 232 => 74 | 233 => 76 | 234 => 77 | 235 => 78 | 236 => 79 | 240 => 50 | 243 => 51 | 244 => 84 | 245 => 85 | 246 => 64 | 247 => 98 | 260 => 103 | 266 => 115 | 267 => 107 | 268 => 69 | 271 => 92 | 276 => 63 | 279 => 99 | 280 => 100 | 281 => 101 | 282 => 102 | 283 => 80 | 284 => 81 | 285 => 82 | 286 => 83 | 287 => 112 | 314 => 116 | 316 => 113 | 317 => 93 | 318 => 95 | 319 => 96 | 320 => 97 | 321 => 119 | 322 => 120 | 337 => 110 | 338 => 111 | n => n, t := fun | 0 => 0 | 2 => 2 | 3 => 3 | 4 => 4 | 5 => 5 | 9 => 9 | 20 => 20 | 21 => 21 | 31 => 36 | 37 => 66 | 46 => 105 | 51 => 147 | 53 => 60 | 70 => 65 | 72 => 68 | 75 => 70 | 76 => 71 | 80 => 77 | 85 => 151 | 105 => 140 | 116 => 128 | 117 => 129 | 119 => 164 | 124 => 132 | 127 => 108 | 138 => 166 | 139 => 167 | 143 => 174 | 145 => 176 | 146 => 168 | 164 => 119 | 167 => 150 | 168 => 153 | 171 => 133 | 173 => 136 | 175 => 158 | 210 => 162 | 212 => 146 | 213 => 148 | 232 => 171 | 233 => 172 | n => n, g := fun | 1 => 1 | 3 => 4 | 4 => 5 | 15 => 2 | 16 => 3 | 17 => 0 | 18 => 6 | 19 => 7 | n => n }
theorem layI : LaysM.n171 Tryz.prog rn := {
 mixed := by kernel_rfl
 f129 := Eq.trans Tryz.func94 (congrArg some (by kernel_rfl))
 f171 := Eq.trans Tryz.func27 (congrArg some (by kernel_rfl))
 f243 := Eq.trans Tryz.func51 (congrArg some (by kernel_rfl))
 f246 := Eq.trans Tryz.func64 (congrArg some (by kernel_rfl))
 f283 := Eq.trans Tryz.func80 (congrArg some (by kernel_rfl))
 f284 := Eq.trans Tryz.func81 (congrArg some (by kernel_rfl))
 f285 := Eq.trans Tryz.func82 (congrArg some (by kernel_rfl))
 f286 := Eq.trans Tryz.func83 (congrArg some (by kernel_rfl))
 f317 := Eq.trans Tryz.func93 (congrArg some (by kernel_rfl))
 f318 := Eq.trans Tryz.func95 (congrArg some (by kernel_rfl))
 f319 := Eq.trans Tryz.func96 (congrArg some (by kernel_rfl))
 f320 := Eq.trans Tryz.func97 (congrArg some (by kernel_rfl))
 f337 := Eq.trans Tryz.func110 (congrArg some (by kernel_rfl))
 f338 := Eq.trans Tryz.func111 (congrArg some (by kernel_rfl))
 t0 := Tryz.underlying0
 a0 := Tryz.isAgg0
 z0 := Tryz.sizeOf0
 v0 := Tryz.zeroValue0
 t2 := Tryz.underlying2
 a2 := Tryz.isAgg2
 z2 := Tryz.sizeOf2
 v2 := Tryz.zeroValue2
 t3 := Tryz.underlying3
 a3 := Tryz.isAgg3
 z3 := Tryz.sizeOf3
 v3 := Tryz.zeroValue3
 t4 := Tryz.underlying4
 a4 := Tryz.isAgg4
 z4 := Tryz.sizeOf4
 v4 := Tryz.zeroValue4
 t5 := Tryz.underlying5
 a5 := Tryz.isAgg5
 z5 := Tryz.sizeOf5
 v5 := Tryz.zeroValue5
 t9 := Tryz.underlying9
 a9 := Tryz.isAgg9
 z9 := Tryz.sizeOf9
 v9 := Tryz.zeroValue9
 t20 := Tryz.underlying20
 a20 := Tryz.isAgg20
 z20 := Tryz.sizeOf20
 v20 := Tryz.zeroValue20
 t37 := Tryz.underlying66
 a37 := Tryz.isAgg66
 z37 := Tryz.sizeOf66
 v37 := Tryz.zeroValue66
 t46 := Tryz.underlying105
 a46 := Tryz.isAgg105
 z46 := Tryz.sizeOf105
 v46 := Tryz.zeroValue105
 t51 := Tryz.underlying147
 a51 := Tryz.isAgg147
 z51 := Tryz.sizeOf147
 v51 := Tryz.zeroValue147
 t53 := Tryz.underlying60
 a53 := Tryz.isAgg60
 z53 := Tryz.sizeOf60
 v53 := Tryz.zeroValue60
 t171 := Tryz.underlying133
 a171 := Tryz.isAgg133
 z171 := Tryz.sizeOf133
 v171 := Tryz.zeroValue133
 t173 := Tryz.underlying136
 a173 := Tryz.isAgg136
 z173 := Tryz.sizeOf136
 v173 := Tryz.zeroValue136
 t212 := Tryz.underlying146
 a212 := Tryz.isAgg146
 z212 := Tryz.sizeOf146
 v212 := Tryz.zeroValue146
 t213 := Tryz.underlying148
 a213 := Tryz.isAgg148
 z213 := Tryz.sizeOf148
 t232 := Tryz.underlying171
 a232 := Tryz.isAgg171
 z232 := Tryz.sizeOf171
 v232 := Tryz.zeroValue171
 t233 := Tryz.underlying172
 a233 := Tryz.isAgg172
 z233 := Tryz.sizeOf172
 v233 := Tryz.zeroValue172
 g17 := by kernel_rfl
 g18 := by kernel_rfl
 g19 := by kernel_rfl
 i0 := by kernel_rfl
 i2 := by kernel_rfl
 i3 := by kernel_rfl
 i4 := by kernel_rfl
 i5 := by kernel_rfl
 i9 := by kernel_rfl
 i20 := by kernel_rfl
 i37 := by kernel_rfl
 i46 := by kernel_rfl
 i51 := by kernel_rfl
 i53 := by kernel_rfl
 i171 := by kernel_rfl
 i173 := by kernel_rfl
 i212 := by kernel_rfl
 i232 := by kernel_rfl
 i233 := by kernel_rfl
 m17 := by kernel_rfl
 m18 := by kernel_rfl
 m19 := by kernel_rfl
}
theorem layA : LaysC.n172 Tryz.prog rn := {
 mixed := by kernel_rfl
 f129 := Eq.trans Tryz.func94 (congrArg some (by kernel_rfl))
 f171 := Eq.trans Tryz.func27 (congrArg some (by kernel_rfl))
 f172 := Eq.trans Tryz.func68 (congrArg some (by kernel_rfl))
 f205 := Eq.trans Tryz.func114 (congrArg some (by kernel_rfl))
 f243 := Eq.trans Tryz.func51 (congrArg some (by kernel_rfl))
 f244 := Eq.trans Tryz.func84 (congrArg some (by kernel_rfl))
 f245 := Eq.trans Tryz.func85 (congrArg some (by kernel_rfl))
 f246 := Eq.trans Tryz.func64 (congrArg some (by kernel_rfl))
 f247 := Eq.trans Tryz.func98 (congrArg some (by kernel_rfl))
 f279 := Eq.trans Tryz.func99 (congrArg some (by kernel_rfl))
 f280 := Eq.trans Tryz.func100 (congrArg some (by kernel_rfl))
 f281 := Eq.trans Tryz.func101 (congrArg some (by kernel_rfl))
 f282 := Eq.trans Tryz.func102 (congrArg some (by kernel_rfl))
 f283 := Eq.trans Tryz.func80 (congrArg some (by kernel_rfl))
 f284 := Eq.trans Tryz.func81 (congrArg some (by kernel_rfl))
 f285 := Eq.trans Tryz.func82 (congrArg some (by kernel_rfl))
 f286 := Eq.trans Tryz.func83 (congrArg some (by kernel_rfl))
 f287 := Eq.trans Tryz.func112 (congrArg some (by kernel_rfl))
 f316 := Eq.trans Tryz.func113 (congrArg some (by kernel_rfl))
 f317 := Eq.trans Tryz.func93 (congrArg some (by kernel_rfl))
 f318 := Eq.trans Tryz.func95 (congrArg some (by kernel_rfl))
 f319 := Eq.trans Tryz.func96 (congrArg some (by kernel_rfl))
 f320 := Eq.trans Tryz.func97 (congrArg some (by kernel_rfl))
 f321 := Eq.trans Tryz.func119 (congrArg some (by kernel_rfl))
 f322 := Eq.trans Tryz.func120 (congrArg some (by kernel_rfl))
 f337 := Eq.trans Tryz.func110 (congrArg some (by kernel_rfl))
 f338 := Eq.trans Tryz.func111 (congrArg some (by kernel_rfl))
 t0 := Tryz.underlying0
 a0 := Tryz.isAgg0
 z0 := Tryz.sizeOf0
 v0 := Tryz.zeroValue0
 t2 := Tryz.underlying2
 a2 := Tryz.isAgg2
 z2 := Tryz.sizeOf2
 v2 := Tryz.zeroValue2
 t3 := Tryz.underlying3
 a3 := Tryz.isAgg3
 z3 := Tryz.sizeOf3
 v3 := Tryz.zeroValue3
 t4 := Tryz.underlying4
 a4 := Tryz.isAgg4
 z4 := Tryz.sizeOf4
 v4 := Tryz.zeroValue4
 t5 := Tryz.underlying5
 a5 := Tryz.isAgg5
 z5 := Tryz.sizeOf5
 v5 := Tryz.zeroValue5
 t9 := Tryz.underlying9
 a9 := Tryz.isAgg9
 z9 := Tryz.sizeOf9
 v9 := Tryz.zeroValue9
 t20 := Tryz.underlying20
 a20 := Tryz.isAgg20
 z20 := Tryz.sizeOf20
 v20 := Tryz.zeroValue20
 t21 := Tryz.underlying21
 a21 := Tryz.isAgg21
 z21 := Tryz.sizeOf21
 v21 := Tryz.zeroValue21
 t37 := Tryz.underlying66
 a37 := Tryz.isAgg66
 z37 := Tryz.sizeOf66
 v37 := Tryz.zeroValue66
 t46 := Tryz.underlying105
 a46 := Tryz.isAgg105
 z46 := Tryz.sizeOf105
 v46 := Tryz.zeroValue105
 t51 := Tryz.underlying147
 a51 := Tryz.isAgg147
 z51 := Tryz.sizeOf147
 v51 := Tryz.zeroValue147
 t53 := Tryz.underlying60
 a53 := Tryz.isAgg60
 z53 := Tryz.sizeOf60
 v53 := Tryz.zeroValue60
 t75 := Tryz.underlying70
 a75 := Tryz.isAgg70
 z75 := Tryz.sizeOf70
 v75 := Tryz.zeroValue70
 t76 := Tryz.underlying71
 a76 := Tryz.isAgg71
 z76 := Tryz.sizeOf71
 v76 := Tryz.zeroValue71
 t85 := Tryz.underlying151
 a85 := Tryz.isAgg151
 z85 := Tryz.sizeOf151
 v85 := Tryz.zeroValue151
 t127 := Tryz.underlying108
 a127 := Tryz.isAgg108
 z127 := Tryz.sizeOf108
 v127 := Tryz.zeroValue108
 t143 := Tryz.underlying174
 a143 := Tryz.isAgg174
 z143 := Tryz.sizeOf174
 v143 := Tryz.zeroValue174
 t145 := Tryz.underlying176
 a145 := Tryz.isAgg176
 z145 := Tryz.sizeOf176
 v145 := Tryz.zeroValue176
 t167 := Tryz.underlying150
 a167 := Tryz.isAgg150
 z167 := Tryz.sizeOf150
 v167 := Tryz.zeroValue150
 t168 := Tryz.underlying153
 a168 := Tryz.isAgg153
 z168 := Tryz.sizeOf153
 v168 := Tryz.zeroValue153
 t171 := Tryz.underlying133
 a171 := Tryz.isAgg133
 z171 := Tryz.sizeOf133
 v171 := Tryz.zeroValue133
 t173 := Tryz.underlying136
 a173 := Tryz.isAgg136
 z173 := Tryz.sizeOf136
 v173 := Tryz.zeroValue136
 t175 := Tryz.underlying158
 a175 := Tryz.isAgg158
 z175 := Tryz.sizeOf158
 v175 := Tryz.zeroValue158
 t210 := Tryz.underlying162
 a210 := Tryz.isAgg162
 z210 := Tryz.sizeOf162
 v210 := Tryz.zeroValue162
 t212 := Tryz.underlying146
 a212 := Tryz.isAgg146
 z212 := Tryz.sizeOf146
 v212 := Tryz.zeroValue146
 t213 := Tryz.underlying148
 a213 := Tryz.isAgg148
 z213 := Tryz.sizeOf148
 t232 := Tryz.underlying171
 a232 := Tryz.isAgg171
 z232 := Tryz.sizeOf171
 v232 := Tryz.zeroValue171
 t233 := Tryz.underlying172
 a233 := Tryz.isAgg172
 z233 := Tryz.sizeOf172
 v233 := Tryz.zeroValue172
 g15 := by kernel_rfl
 g16 := by kernel_rfl
 g17 := by kernel_rfl
 g18 := by kernel_rfl
 g19 := by kernel_rfl
 t80 := Tryz.underlying77
 a80 := Tryz.isAgg77
 z80 := Tryz.sizeOf77
 v80 := Tryz.zeroValue77
 i0 := by kernel_rfl
 i2 := by kernel_rfl
 i3 := by kernel_rfl
 i4 := by kernel_rfl
 i5 := by kernel_rfl
 i9 := by kernel_rfl
 i20 := by kernel_rfl
 i21 := by kernel_rfl
 i37 := by kernel_rfl
 i46 := by kernel_rfl
 i51 := by kernel_rfl
 i53 := by kernel_rfl
 i75 := by kernel_rfl
 i76 := by kernel_rfl
 i80 := by kernel_rfl
 i85 := by kernel_rfl
 i127 := by kernel_rfl
 i143 := by kernel_rfl
 i145 := by kernel_rfl
 i167 := by kernel_rfl
 i168 := by kernel_rfl
 i171 := by kernel_rfl
 i173 := by kernel_rfl
 i175 := by kernel_rfl
 i210 := by kernel_rfl
 i212 := by kernel_rfl
 i232 := by kernel_rfl
 i233 := by kernel_rfl
 m15 := by kernel_rfl
 m16 := by kernel_rfl
 m17 := by kernel_rfl
 m18 := by kernel_rfl
 m19 := by kernel_rfl
 c0 := by kernel_rfl
 c2 := by kernel_rfl
 c3 := by kernel_rfl
 c4 := by kernel_rfl
 c5 := by kernel_rfl
 c9 := by kernel_rfl
 c20 := by kernel_rfl
 c21 := by kernel_rfl
 c37 := by kernel_rfl
 c46 := by kernel_rfl
 c51 := by kernel_rfl
 c53 := by kernel_rfl
 c75 := by kernel_rfl
 c76 := by kernel_rfl
 c80 := by kernel_rfl
 c85 := by kernel_rfl
 c127 := by kernel_rfl
 c143 := by kernel_rfl
 c145 := by kernel_rfl
 c167 := by kernel_rfl
 c168 := by kernel_rfl
 c171 := by kernel_rfl
 c173 := by kernel_rfl
 c175 := by kernel_rfl
 c210 := by kernel_rfl
 c212 := by kernel_rfl
 c213 := by kernel_rfl
 c232 := by kernel_rfl
 c233 := by kernel_rfl
}
theorem layS : Lays.n146 Tryz.prog rn := {
 mixed := by kernel_rfl
 f138 := Eq.trans Tryz.func70 (congrArg some (by kernel_rfl))
 f143 := Eq.trans Tryz.func71 (congrArg some (by kernel_rfl))
 f146 := Eq.trans Tryz.func34 (congrArg some (by kernel_rfl))
 f195 := Eq.trans Tryz.func86 (congrArg some (by kernel_rfl))
 f197 := Eq.trans Tryz.func87 (congrArg some (by kernel_rfl))
 f217 := Eq.trans Tryz.func104 (congrArg some (by kernel_rfl))
 f218 := Eq.trans Tryz.func88 (congrArg some (by kernel_rfl))
 f219 := Eq.trans Tryz.func89 (congrArg some (by kernel_rfl))
 f221 := Eq.trans Tryz.func54 (congrArg some (by kernel_rfl))
 f224 := Eq.trans Tryz.func106 (congrArg some (by kernel_rfl))
 f225 := Eq.trans Tryz.func105 (congrArg some (by kernel_rfl))
 f260 := Eq.trans Tryz.func103 (congrArg some (by kernel_rfl))
 f266 := Eq.trans Tryz.func115 (congrArg some (by kernel_rfl))
 f267 := Eq.trans Tryz.func107 (congrArg some (by kernel_rfl))
 f268 := Eq.trans Tryz.func69 (congrArg some (by kernel_rfl))
 f314 := Eq.trans Tryz.func116 (congrArg some (by kernel_rfl))
 t0 := Tryz.underlying0
 a0 := Tryz.isAgg0
 z0 := Tryz.sizeOf0
 v0 := Tryz.zeroValue0
 t3 := Tryz.underlying3
 a3 := Tryz.isAgg3
 z3 := Tryz.sizeOf3
 v3 := Tryz.zeroValue3
 t4 := Tryz.underlying4
 a4 := Tryz.isAgg4
 z4 := Tryz.sizeOf4
 v4 := Tryz.zeroValue4
 t5 := Tryz.underlying5
 a5 := Tryz.isAgg5
 z5 := Tryz.sizeOf5
 v5 := Tryz.zeroValue5
 t9 := Tryz.underlying9
 a9 := Tryz.isAgg9
 z9 := Tryz.sizeOf9
 v9 := Tryz.zeroValue9
 t21 := Tryz.underlying21
 a21 := Tryz.isAgg21
 z21 := Tryz.sizeOf21
 v21 := Tryz.zeroValue21
 t31 := Tryz.underlying36
 a31 := Tryz.isAgg36
 z31 := Tryz.sizeOf36
 v31 := Tryz.zeroValue36
 t46 := Tryz.underlying105
 a46 := Tryz.isAgg105
 z46 := Tryz.sizeOf105
 v46 := Tryz.zeroValue105
 t51 := Tryz.underlying147
 a51 := Tryz.isAgg147
 z51 := Tryz.sizeOf147
 v51 := Tryz.zeroValue147
 t105 := Tryz.underlying140
 a105 := Tryz.isAgg140
 z105 := Tryz.sizeOf140
 v105 := Tryz.zeroValue140
 t119 := Tryz.underlying164
 a119 := Tryz.isAgg164
 z119 := Tryz.sizeOf164
 t138 := Tryz.underlying166
 a138 := Tryz.isAgg166
 z138 := Tryz.sizeOf166
 v138 := Tryz.zeroValue166
 t139 := Tryz.underlying167
 a139 := Tryz.isAgg167
 z139 := Tryz.sizeOf167
 v139 := Tryz.zeroValue167
 t146 := Tryz.underlying168
 a146 := Tryz.isAgg168
 z146 := Tryz.sizeOf168
 v146 := Tryz.zeroValue168
 g1 := by kernel_rfl
 g3 := by kernel_rfl
 g4 := by kernel_rfl
}
theorem layG : Lays.n169 Tryz.prog rn := {
 mixed := by kernel_rfl
 f169 := Eq.trans Tryz.func28 (congrArg some (by kernel_rfl))
 t0 := Tryz.underlying0
 a0 := Tryz.isAgg0
 z0 := Tryz.sizeOf0
 v0 := Tryz.zeroValue0
 t3 := Tryz.underlying3
 a3 := Tryz.isAgg3
 z3 := Tryz.sizeOf3
 v3 := Tryz.zeroValue3
 t9 := Tryz.underlying9
 a9 := Tryz.isAgg9
 z9 := Tryz.sizeOf9
 v9 := Tryz.zeroValue9
 t37 := Tryz.underlying66
 a37 := Tryz.isAgg66
 z37 := Tryz.sizeOf66
 v37 := Tryz.zeroValue66
 t70 := Tryz.underlying65
 a70 := Tryz.isAgg65
 z70 := Tryz.sizeOf65
 v70 := Tryz.zeroValue65
 t72 := Tryz.underlying68
 a72 := Tryz.isAgg68
 z72 := Tryz.sizeOf68
 v72 := Tryz.zeroValue68
 t127 := Tryz.underlying108
 a127 := Tryz.isAgg108
 z127 := Tryz.sizeOf108
 v127 := Tryz.zeroValue108
}
theorem layC : Lays.n240 Tryz.prog rn := {
 mixed := by kernel_rfl
 f240 := Eq.trans Tryz.func50 (congrArg some (by kernel_rfl))
 f276 := Eq.trans Tryz.func63 (congrArg some (by kernel_rfl))
 t0 := Tryz.underlying0
 a0 := Tryz.isAgg0
 z0 := Tryz.sizeOf0
 v0 := Tryz.zeroValue0
 t4 := Tryz.underlying4
 a4 := Tryz.isAgg4
 z4 := Tryz.sizeOf4
 v4 := Tryz.zeroValue4
 t9 := Tryz.underlying9
 a9 := Tryz.isAgg9
 z9 := Tryz.sizeOf9
 v9 := Tryz.zeroValue9
 t20 := Tryz.underlying20
 a20 := Tryz.isAgg20
 z20 := Tryz.sizeOf20
 v20 := Tryz.zeroValue20
 t70 := Tryz.underlying65
 a70 := Tryz.isAgg65
 z70 := Tryz.sizeOf65
 v70 := Tryz.zeroValue65
 t72 := Tryz.underlying68
 a72 := Tryz.isAgg68
 z72 := Tryz.sizeOf68
 v72 := Tryz.zeroValue68
 t164 := Tryz.underlying119
 a164 := Tryz.isAgg119
 z164 := Tryz.sizeOf119
 v164 := Tryz.zeroValue119
}
theorem layT : Lays.n160 Tryz.prog rn := {
 mixed := by kernel_rfl
 f119 := Eq.trans Tryz.func118 (congrArg some (by kernel_rfl))
 f120 := Eq.trans Tryz.func109 (congrArg some (by kernel_rfl))
 f137 := Eq.trans Tryz.func117 (congrArg some (by kernel_rfl))
 f151 := Eq.trans Tryz.func91 (congrArg some (by kernel_rfl))
 f152 := Eq.trans Tryz.func108 (congrArg some (by kernel_rfl))
 f160 := Eq.trans Tryz.func61 (congrArg some (by kernel_rfl))
 f197 := Eq.trans Tryz.func87 (congrArg some (by kernel_rfl))
 f217 := Eq.trans Tryz.func104 (congrArg some (by kernel_rfl))
 f224 := Eq.trans Tryz.func106 (congrArg some (by kernel_rfl))
 f225 := Eq.trans Tryz.func105 (congrArg some (by kernel_rfl))
 f227 := Eq.trans Tryz.func75 (congrArg some (by kernel_rfl))
 f228 := Eq.trans Tryz.func90 (congrArg some (by kernel_rfl))
 f231 := Eq.trans Tryz.func73 (congrArg some (by kernel_rfl))
 f232 := Eq.trans Tryz.func74 (congrArg some (by kernel_rfl))
 f233 := Eq.trans Tryz.func76 (congrArg some (by kernel_rfl))
 f234 := Eq.trans Tryz.func77 (congrArg some (by kernel_rfl))
 f235 := Eq.trans Tryz.func78 (congrArg some (by kernel_rfl))
 f236 := Eq.trans Tryz.func79 (congrArg some (by kernel_rfl))
 f260 := Eq.trans Tryz.func103 (congrArg some (by kernel_rfl))
 f266 := Eq.trans Tryz.func115 (congrArg some (by kernel_rfl))
 f271 := Eq.trans Tryz.func92 (congrArg some (by kernel_rfl))
 t0 := Tryz.underlying0
 a0 := Tryz.isAgg0
 z0 := Tryz.sizeOf0
 v0 := Tryz.zeroValue0
 t3 := Tryz.underlying3
 a3 := Tryz.isAgg3
 z3 := Tryz.sizeOf3
 v3 := Tryz.zeroValue3
 t4 := Tryz.underlying4
 a4 := Tryz.isAgg4
 z4 := Tryz.sizeOf4
 v4 := Tryz.zeroValue4
 t5 := Tryz.underlying5
 a5 := Tryz.isAgg5
 z5 := Tryz.sizeOf5
 v5 := Tryz.zeroValue5
 t9 := Tryz.underlying9
 a9 := Tryz.isAgg9
 z9 := Tryz.sizeOf9
 v9 := Tryz.zeroValue9
 t21 := Tryz.underlying21
 a21 := Tryz.isAgg21
 z21 := Tryz.sizeOf21
 v21 := Tryz.zeroValue21
 t46 := Tryz.underlying105
 a46 := Tryz.isAgg105
 z46 := Tryz.sizeOf105
 v46 := Tryz.zeroValue105
 t105 := Tryz.underlying140
 a105 := Tryz.isAgg140
 z105 := Tryz.sizeOf140
 v105 := Tryz.zeroValue140
 t116 := Tryz.underlying128
 a116 := Tryz.isAgg128
 z116 := Tryz.sizeOf128
 t117 := Tryz.underlying129
 a117 := Tryz.isAgg129
 z117 := Tryz.sizeOf129
 v117 := Tryz.zeroValue129
 t119 := Tryz.underlying164
 a119 := Tryz.isAgg164
 z119 := Tryz.sizeOf164
 t124 := Tryz.underlying132
 a124 := Tryz.isAgg132
 z124 := Tryz.sizeOf132
 v124 := Tryz.zeroValue132
 t138 := Tryz.underlying166
 a138 := Tryz.isAgg166
 z138 := Tryz.sizeOf166
 v138 := Tryz.zeroValue166
 t139 := Tryz.underlying167
 a139 := Tryz.isAgg167
 z139 := Tryz.sizeOf167
 v139 := Tryz.zeroValue167
 g3 := by kernel_rfl
 g4 := by kernel_rfl
}
theorem tab_of {P : Program} {w : World} {name : String} {k : IntKind} {zs : List Int} {g : Nat} (hg : P.globalNamed name = some g) (hr : RowSz w g zs.length)
  (hc : ∀ j v, (zs.map fun z => Value.int k z)[j]? = some v → w.cell? ⟨g, j, none⟩ = some v) : Lib.TabIs P w name k zs := by
 obtain ⟨cs, T, fr, h1, h2⟩ := hr
 unfold Lib.TabIs World.var?
 simp only [hg, Option.bind_some, h1]
 congr 1
 apply Array.ext'
 apply List.ext_getElem?
 intro j
 by_cases hj : j < zs.length
 ·have h3 := hc j (.int k zs[j]) (by simp [hj])
  rw [cell_of_row w g j cs T fr h1] at h3
  simp only [Array.getElem?_toList, h3, List.toList_toArray, List.getElem?_map, List.getElem?_eq_getElem hj, Option.map_some]
 ·rw [List.getElem?_eq_none (by simp; omega), List.getElem?_eq_none (by simp; omega)]
def decF : Nat → Nat → List UInt8
 | 0, _ => []
 | f + 1, u => bif Nat.blt u 10 then [UInt8.ofNat (48 + u)] else decF f (u / 10) ++ [UInt8.ofNat (48 + u % 10)]
theorem decF_eq : ∀ (f u : Nat), u < 10 ^ f → 0 < f → decF f u = Lib.decDigits u
 | f + 1, u, h, _ => by
  rw [Lib.decDigits]
  unfold decF
  by_cases hu : u < 10
  ·rw [dif_pos hu, show Nat.blt u 10 = true by simpa [Nat.blt_eq] using hu]; rfl
  ·rw [dif_neg hu, show Nat.blt u 10 = false by
    cases hb : Nat.blt u 10 with
    | false => rfl
    | true => exact absurd (by simpa [Nat.blt_eq] using hb) hu]
   have hf : 0 < f := by
    rcases Nat.eq_zero_or_pos f with rfl | h0
    ·simp at h; omega
    ·exact h0
   show decF f (u / 10) ++ _ = _
   rw [decF_eq f (u / 10) (by rw [Nat.pow_succ] at h; omega) hf]
def itoaL (n : Int) : List UInt8 := bif decide (n < 0) then 45 :: decF 20 n.natAbs else decF 20 n.toNat
def okI (n : Int) : Bool := decide (-9223372036854775808 ≤ n) && decide (n ≤ 9223372036854775807)
theorem itoaL_eq {n : Int} (h : okI n = true) : itoaL n = Lib.itoa n := by
 simp only [okI, Bool.and_eq_true, decide_eq_true_eq] at h
 unfold itoaL Lib.itoa
 by_cases hn : n < 0
 ·rw [if_pos hn, decide_eq_true hn, cond_true, decF_eq 20 _ (by omega) (by decide)]
 ·rw [if_neg hn, decide_eq_false hn, cond_false, decF_eq 20 _ (by omega) (by decide)]
def itoaV (n : Int) : ByteArray := ⟨(itoaL n).toArray⟩
theorem below_tape {B : Nat} {w : World} (hB : B ≤ w.heap.size) (k : Nat) (os : Array Obj) : Below B w (Go.Sort.grow (w.drewN k) os) :=
 ⟨rfl, rfl, rfl, by simp [Go.Sort.grow, World.drewN], fun j hj => by
  have h : j < w.heap.size := Nat.lt_of_lt_of_le hj hB
  simp [Go.Sort.grow, World.drewN, Array.getElem?_append_left h]⟩
theorem repL_ints {κ : Nat → Nat → Option Value} {γ : Nat → Nat} {sv : Nat → Value} {k : IntKind} : ∀ {zs : List Int} {u : List Value}, RepL κ γ sv (zs.map (D.int k)) u → u = zs.map (Value.int k)
 | [], _, h => by cases h; rfl
 | z :: zs, _, h => by
  cases h with
  | cons _ v _ vs h1 h2 => cases h1; rw [repL_ints h2]; rfl
theorem c27 (n : Int) (h : okI n = true) : Contract iseat.toSeat 27 [.int .i64 n] (.str (itoaV n)) := by
 have h' := h
 simp only [okI, Bool.and_eq_true, decide_eq_true_eq] at h
 refine ⟨PureL.cons (.int _ _) PureL.nil, .str _, ⟨Tryz.f27, _, Tryz.func27, rfl, by kernel_rfl⟩, fun w κ args hf hg hr => ?_⟩
 cases hr with
 | cons _ v1 _ vs h1 h2 =>
 cases h1
 cases h2
 have htab := fun hcon => (Any.strconv_Itoa layI n h.1 h.2 w hcon)
 have ht := htab (tab_of (g := 0) (by kernel_rfl) (hg.2 0 20 rfl) (fun j v hj => by
  obtain ⟨_, u, e1, e2⟩ := hg.1 0 _ rfl
  have e1 : RepL κ γ0 sv0 (Lib.pow10Tab.map (D.int .u64)) u := e1
  refine hf _ _ _ (e2 j v ?_)
  rw [repL_ints e1]; exact hj))
 exact ht.mono (fun e w' ⟨h1, k, os, h2⟩ => ⟨_, h1, by show Rep _ _ _ (.str ⟨(itoaL n).toArray⟩) _; rw [itoaL_eq h']; exact .str _, h2 ▸ below_tape (Nat.le_refl _) k os⟩)
def atoiV (s : ByteArray) : Int × Bool := match Lib.atoiAll s.data.toList with | .ok v => (v, true) | .range => (Lib.atoiSat s.data.toList, false) | _ => (0, false)
def okA (s : ByteArray) : Bool := decide (s.size ≤ 281474976710656)
theorem er_glob {g : Nat} {κ : Nat → Nat → Option Value} {w : World} (hf : Fits κ w) (hg : GlobOk iseat.toSeat κ w) (h : iseat.toSeat.glob g = some [.lk .nn]) : ∃ t p, w.cell? ⟨g, 0, none⟩ = some (.iface t p) := by
 obtain ⟨_, u, e1, e2⟩ := hg.1 g _ h
 cases e1 with
 | cons _ v _ vs r1 r2 =>
  cases r1 with
  | lk _ _ e =>
   obtain ⟨t, p, rfl⟩ := e
   exact ⟨t, p, hf _ _ _ (e2 0 _ rfl)⟩
theorem c68 (s : ByteArray) (h : okA s = true) : Contract iseat.toSeat 68 [.str s] (.tup [.int .i64 (atoiV s).1, .lk (ofB (atoiV s).2)]) := by
 have h := of_decide_eq_true h
 refine ⟨PureL.cons (.str _) PureL.nil, .tup _ (PureL.cons (.int _ _) (PureL.cons (.lk _) PureL.nil)), ⟨Tryz.f68, _, Tryz.func68, rfl, by kernel_rfl⟩, fun w κ args hf hg hr => ?_⟩
 cases hr with
 | cons _ v1 _ vs h1 h2 =>
 cases h1
 cases h2
 obtain ⟨t1, p1, g1⟩ := er_glob hf hg (g := 2) rfl
 obtain ⟨t2, p2, g2⟩ := er_glob hf hg (g := 3) rfl
 cases ha : Lib.atoiAll s.data.toList
 case ok v =>
  refine (Any.strconv_Atoi_ok layA s (by omega) v ha w).mono (fun e w' ⟨h1, h2⟩ => ⟨_, h1, ?_, ?_⟩)
  ·simp only [atoiV, ha]; exact .tup _ [_, _] (.cons _ _ _ _ (.int _ _) (.cons _ _ _ _ (.lk _ _ rfl) .nil))
  ·rcases h2 with rfl | ⟨t, rfl⟩
   ·exact Below.refl _ _
   ·exact Lib.bytesWorld_below _ _ _
 case range =>
  refine (Any.strconv_Atoi_range layA s h ha _ w g2 (.inr ⟨_, _, rfl⟩)).mono (fun e w' ⟨N, h1, _, _, h2⟩ => ⟨_, h1, ?_, h2⟩)
  simp only [atoiV, ha]; exact .tup _ [_, _] (.cons _ _ _ _ (.int _ _) (.cons _ _ _ _ (.lk _ _ ⟨_, _, rfl⟩) .nil))
 ·refine (Any.strconv_Atoi_syntax layA s h ha _ w g1 (.inr ⟨_, _, rfl⟩)).mono (fun e w' ⟨N, h1, _, _, h2⟩ => ⟨_, h1, ?_, h2⟩)
  simp only [atoiV, ha]; exact .tup _ [_, _] (.cons _ _ _ _ (.int _ _) (.cons _ _ _ _ (.lk _ _ ⟨_, _, rfl⟩) .nil))
def splitV (s sep : ByteArray) : List ByteArray := Lib.splitB sep 0 (Lib.countB s sep) s
def okS (s sep : ByteArray) : Bool := decide (s.size < 4294967281) && decide (1 ≤ sep.size)
theorem c34 (s sep : ByteArray) (h : okS s sep = true) : Contract iseat.toSeat 34 [.str s, .str sep] (slD .str (splitV s sep)) := by
 simp only [okS, Bool.and_eq_true, decide_eq_true_eq] at h
 refine ⟨PureL.cons (.str _) (PureL.cons (.str _) PureL.nil), .sl _ _ _ (fun i _ => encD_pure _ _), ⟨Tryz.f34, _, Tryz.func34, rfl, by kernel_rfl⟩, fun w κ args hf hg hr => ?_⟩
 cases hr with
 | cons _ v1 _ vs h1 h2 =>
 cases h1
 cases h2 with
 | cons _ v2 _ vs h3 h4 =>
 cases h3
 cases h4
 obtain ⟨_, u, e1, e2⟩ := hg.1 1 _ rfl
 have hm : ∃ m, w.cell? ⟨1, 0, none⟩ = some (.int .i64 m) := by
  cases e1 with
  | cons _ v _ vs r1 r2 =>
   cases r1 with
   | lk _ _ e => obtain ⟨m, rfl⟩ := e; exact ⟨m, hf _ _ _ (e2 0 _ rfl)⟩
 obtain ⟨m, hm⟩ := hm
 have hlen : (splitV s sep).length = Lib.countB s sep + 1 := Lib.splitB_all sep h.2 0 _ s rfl
 refine (Any.strings_Split layS (by kernel_rfl) s sep m w h.1 hm h.2).mono (fun e w' ⟨h1, h2⟩ => ⟨_, h1, ?_, h2 ▸ (Below.refl _ _).alloc (Nat.le_refl _) _⟩)
 rw [← hlen]
 refine .sl _ _ _ _ 0 _ (fun i => [.string ((splitV s sep).getD i ⟨#[]⟩)]) (Nat.le_refl _) (fun _ _ => rfl) (fun _ _ => rfl) (fun _ _ => .cons _ _ _ _ (.str _) .nil) (fun i j v hi hv => ?_)
 cases j with
 | succ j => cases hv
 | zero =>
  simp only [List.getElem?_cons_zero, Option.some.injEq] at hv
  subst hv h2
  simp only [growK]
  rw [if_neg (by simp)]
  rw [cell_of_row _ w.heap.size _ _ _ _ (heap_alloc_new w _)]
  have : sz .str = 1 := rfl
  simp only [splitV, this, Nat.mul_one, Nat.zero_add, Nat.add_zero]
  have hi' : i < (Lib.splitB sep 0 (Lib.countB s sep) s).length := hi
  simp [List.getD, hi']
def bldBK : List BK := [.z 68 0 1, .a 5 (.int .u8)]
theorem x72 : Builder.X72 Tryz.prog rn := { sizeBuilder := by kernel_rfl, liesBuilder := by kernel_rfl }
theorem bx2 {P : Nat → Prop} (h0 : P 0) (h1 : P 1) : ∀ i, i < 2 → P i := fun i hi => by
 rcases i with _ | _ | i
 ·exact h0
 ·exact h1
 ·omega
theorem bld_at {κ : Nat → Nat → Option Value} {sv : Nat → Value} {w : World} {l : List Int}
  (hown : ∀ i, i < 2 → Owns 0 κ (gM (nmO (encBK bldBK (l, ()))) 2) sv w (nmO (encBK bldBK (l, ())) i) (owF (encBK bldBK (l, ())) i)) :
  ∃ b v0, sv 0 = .pointer (some ⟨b, 0, none⟩) ∧ w.heap[b]? = some (.cells #[v0, sv (XB + 1)] 68 (0, 0)) ∧ (v0 = .pointer none ∨ v0 = .pointer (some ⟨b, 0, none⟩)) ∧
   ownsAt w 0 5 1 (sv (XB + 1)) l.length (l.map (Value.int .u8)) := by
 obtain ⟨b, T, cs, e1, e2, e3, e4⟩ := hown 0 (by omega)
 obtain ⟨xs, o1, o2, o3, o4⟩ := hown 1 (by omega)
 have hg0 : gM (nmO (encBK bldBK (l, ()))) 2 0 = 1 := gM_lt (q := nmO (encBK bldBK (l, ()))) (n := 2) (i := 0) (by omega)
 have hg1 : gM (nmO (encBK bldBK (l, ()))) 2 (XB + 1) = 1 := gM_lt (q := nmO (encBK bldBK (l, ()))) (n := 2) (i := 1) (by omega)
 have e3 : RepL κ (gM (nmO (encBK bldBK (l, ()))) 2) sv [.mb 0 1 68, .os (XB + 1) 1] cs := e3
 have e1 : sv 0 = .pointer (some ⟨b, 0, none⟩) := e1
 have hT : T = 68 := e4.2 68 rfl
 subst hT
 cases e3 with
 | cons _ v0 _ vs r1 r2 =>
 cases r2 with
 | cons _ v1 _ vs r2 r3 =>
 cases r3
 have hv1 : v1 = sv (XB + 1) := by
  cases r2 with
  | os _ _ _ _ hh _ => exact hh hg1.symm
 subst hv1
 refine ⟨b, v0, e1, e2, ?_, ?_⟩
 ·cases r1 with
  | mbn => exact .inl rfl
  | mb _ _ _ _ _ hh _ => exact .inr ((hh hg0.symm).trans e1)
 ·have hx : xs = l.map (Value.int .u8) := by
   have hl : xs.length = l.length := by
    have h := o1.1
    have h : xs.length = l.length * 1 := h
    omega
   apply List.ext_getElem?
   intro i
   by_cases hi : i < l.length
   ·have h4 : RepL κ (gM (nmO (encBK bldBK (l, ()))) 2) sv [.int .u8 (l.getD i 0)] ((xs.drop (i * 1)).take 1) := o4 i hi
    have h5 : (xs.drop (i * 1)).take 1 = [xs[i]'(by omega)] := by
     rw [Nat.mul_one, List.drop_eq_getElem_cons (by omega)]; rfl
    rw [h5] at h4
    cases h4 with
    | cons _ _ _ _ r _ =>
     generalize hq : xs[i]'(by omega) = q at r
     cases r
     rw [List.getElem?_eq_getElem (by omega), hq]
     simp [List.getD, hi]
   ·rw [List.getElem?_eq_none (by omega), List.getElem?_eq_none (by simp; omega)]
  subst hx
  exact o1
theorem c50 (l : List Int) : ContractM iseat.toSeat 50 2 (nmO (encBK bldBK (l, ()))) (owF (encBK bldBK (l, ()))) (owF (encBK bldBK (l, ()))) [.bx 0 1 0] (.tup []) := by
 refine ⟨.pure _ (.tup _ PureL.nil), bx2 (.box _ _) (.arr _ _ _ _ _ _ _ _), ⟨Tryz.f50, _, Tryz.func50, rfl, by kernel_rfl⟩, fun w κ sv args hinj hf hkb hg hown hr => ?_⟩
 obtain ⟨b, v0, e1, e2, e3, e4⟩ := bld_at hown
 have hg0 : gM (nmO (encBK bldBK (l, ()))) 2 0 = 1 := gM_lt (q := nmO (encBK bldBK (l, ()))) (n := 2) (i := 0) (by omega)
 have hb : b < w.heap.size := (Array.getElem?_eq_some_iff.1 e2).1
 cases hr with
 | cons _ v1 _ vs h1 h2 =>
 cases h2
 have hv1 : v1 = .pointer (some ⟨b, 0, none⟩) := by
  cases h1 with
  | bx _ _ _ _ _ hh _ =>
   obtain ⟨b', h3, h4⟩ := hh hg0.symm
   rw [e1] at h3; cases h3; exact h4
 subst hv1
 have hblk : blk (owF (encBK bldBK (l, ())) 0) (sv (nmO (encBK bldBK (l, ())) 0)) = some b := by
  show blk (.box _) (sv 0) = _
  rw [e1]; rfl
 rcases e3 with rfl | rfl
 ·refine (Any.Builder_copyCheck_fresh layC x72 b w (by simp [World.cell?, e2]) (by simp [World.shape?, e2]; rfl) (by simp [World.frozen?, e2])).mono ?_
  rintro e w' ⟨rfl, rfl⟩
  have hb2 : (w.setCell ⟨b, 0, none⟩ (.pointer (some ⟨b, 0, none⟩))).heap[b]? = some (.cells #[.pointer (some ⟨b, 0, none⟩), sv (XB + 1)] 68 (0, 0)) := by
   simp [World.setCell, Array.getElem?_modify, e2]
  have hother : ∀ k, k ≠ b → (w.setCell ⟨b, 0, none⟩ (.pointer (some ⟨b, 0, none⟩))).heap[k]? = w.heap[k]? := fun k hk => Below.heap_setCell _ _ _ _ hk
  have hκ : Le κ (growK κ w (w.setCell ⟨b, 0, none⟩ (.pointer (some ⟨b, 0, none⟩)))) (gM (nmO (encBK bldBK (l, ()))) 2) (gM (nmO (encBK bldBK (l, ()))) 2) sv sv := le_growK hf _
  refine ⟨_, rfl, .tup [] [] .nil, bx2 ?_ ?_, ⟨rfl, rfl, rfl, by simp [World.setCell], fun k hk hne => hother k (fun e => hne 0 (by omega) (e ▸ hblk))⟩⟩
  ·refine ⟨b, 68, [.pointer (some ⟨b, 0, none⟩), sv (XB + 1)], e1, hb2, .cons _ _ _ _ (.mb 0 1 68 _ (Nat.le_of_eq hg0.symm) (fun _ => e1.symm) rfl) (.cons _ _ _ _ ?_ .nil), rfl, fun T0 e => by cases e; rfl⟩
   obtain ⟨b3, T3, cs3, q1, q2, q3, q4⟩ := hown 0 (by omega)
   have q1 : sv 0 = .pointer (some ⟨b3, 0, none⟩) := q1
   rw [e1] at q1; cases q1
   rw [e2] at q2
   simp only [Option.some.injEq, Obj.cells.injEq] at q2
   have q5 : cs3 = [.pointer none, sv (XB + 1)] := by
    have := congrArg Array.toList q2.1
    simpa using this.symm
   subst q5
   cases q3 with
   | cons _ _ _ _ r1 r2 => cases r2 with | cons _ _ _ _ r2 r3 => exact r2.mono hκ
  ·refine owns_mono hκ rfl (fun g hgb => hother g (fun e => ?_)) (hown 1 (by omega))
   have := hinj 0 1 b (by omega) (by omega) hblk (e ▸ hgb)
   cases this
 ·refine (Any.Builder_copyCheck_used layC x72 b w (by simp [World.cell?, e2])).mono ?_
  rintro e w' ⟨rfl, rfl⟩
  exact ⟨_, rfl, .tup [] [] .nil, fun i hi => owns_mono (le_growK hf w') rfl (fun _ _ => rfl) (hown i hi), FrameM.refl _ _ _⟩
section
variable {P : Program} {ρ : Ren}
theorem run_unsafeString_off (w : World) (pt it ty e : TypeId) (hp : P.underlying pt = some (.pointer e)) (hc : P.cellsOf e = 1) (g off cells : Nat) (hsh : w.shape? g = some (e, cells)) (l : List UInt8) (h0 : l ≠ []) (hn : off + l.length ≤ cells) (h63 : l.length ≤ 9223372036854775807)
  (hcell : ∀ j x, l[j]? = some x → w.cell? ((⟨g, off, none⟩ : Addr).add j) = some (.int .u8 x.toNat)) :
  (Builtin.unsafeString_ #[pt, it] ty #[.pointer (some ⟨g, off, none⟩), .int .i64 l.length]).run P w = .ok (.string ⟨l.toArray⟩) (w.freeze ⟨g, off, none⟩ l.length) := by
 have hl : l.length ≠ 0 := by simpa using h0
 have hlb := Lib.run_loadBytes (P := P) w l ⟨g, off, none⟩ .empty hcell
 have hlies : liesAt P P.depth e (cells / P.cellsOf e) off e l.length = true := by
  have hd : P.depth = (2 * (P.types.size + Made.depth) + 1) + 1 := rfl
  rw [hd]
  simp only [liesAt, Bool.or_eq_true]
  left
  rw [hd]
  simp [rowAt, hc, hn, sameLayout]
  try omega
 have h63' : ¬ (9223372036854775807 : Int) < (l.length : Int) := by omega
 have hdef : Builtin.unsafeString_ #[pt, it] ty #[.pointer (some ⟨g, off, none⟩), .int .i64 l.length] =
   (do
    let n ← asInt (.int .i64 l.length)
    if n < 0 then runtimePanic (.error "unsafe.String: len out of range")
    if n > IntKind.i64.max then unsupported (.unsafePointer "String: a length above the largest int")
    if n = 0 then pure (.string .empty)
    else if ← variablesAt ⟨g, off, none⟩ (← elemOf pt) n.toNat then do
     let s ← loadBytes ⟨g, off, none⟩ .empty n.toNat
     freeze ⟨g, off, none⟩ n.toNat
     pure (.string s)
    else unsupported (.unsafePointer "String: not so many bytes at ptr")) := rfl
 rw [hdef]
 have hmax : IntKind.i64.max = 9223372036854775807 := rfl
 have hneg : ¬ (l.length : Int) < 0 := by omega
 simp [asInt, asIntOf, hmax, h63', hneg, hl, variablesAt, hsh, elemOf, run_underlying hp, hlies, hlb]
set_option maxHeartbeats 2000000 in
theorem str_run (L : Lays.n169 P ρ) (X : Builder.Extra P ρ) (b : Nat) (a : Option Addr) (n cap : Nat) (q : Value) (w w1 w2 : World) (s : ByteArray) (c1 : w.drew.cell? ⟨b, 1, none⟩ = some (.slice a n cap)) (c2 : w1.cell? ⟨b, 1, none⟩ = some (.slice a n cap))
  (hSD : (Builtin.unsafeSliceData_ #[(ρ.t 37)] (ρ.t 127) #[.slice a n cap]).run P w.drew = .ok q w1) (hUS : (Builtin.unsafeString_ #[(ρ.t 127), (ρ.t 3)] (ρ.t 9) #[q, .int .i64 n]).run P w1 = .ok (.string s) w2) :
  Calls P (ρ.f 169) #[.pointer (some ⟨b, 0, none⟩)] w fun e w' => e = .returned (.string s) ∧ w' = w2 := by
 have mixed := L.mixed
 have t72 := L.t72; have a72 := L.a72; have z72 := L.z72; have v72 := L.v72; have u72 := run_underlying L.t72
 have t70 := L.t70; have a70 := L.a70; have z70 := L.z70; have v70 := L.v70; have u70 := run_underlying L.t70
 have t37 := L.t37; have a37 := L.a37; have z37 := L.z37; have v37 := L.v37; have u37 := run_underlying L.t37
 have t127 := L.t127; have a127 := L.a127; have z127 := L.z127; have v127 := L.v127; have u127 := run_underlying L.t127
 have t3 := L.t3; have a3 := L.a3; have z3 := L.z3; have v3 := L.v3; have u3 := run_underlying L.t3
 have t9 := L.t9; have a9 := L.a9; have z9 := L.z9; have v9 := L.v9; have u9 := run_underlying L.t9
 have t5 := X.t5; have a5 := X.a5; have z5 := X.z5; have v5 := X.v5; have u5 := run_underlying X.t5
 go_enter L.f169, Body.n169_ntmps ρ
 go_wp2
 go_region_o
 all_goals (go_wp2; go_ret; exact ⟨rfl, rfl⟩)
theorem str_us (L : Lays.n169 P ρ) (X : Builder.Extra P ρ) (w : World) (g off cap n : Nat) (cur : Array Value) (l : List UInt8) (hl : l.length = n) (p3 : w.heap[g]? = some (.cells cur (ρ.t 5) (0, 0))) (p4 : n ≤ cap) (p5 : cap ≤ maxLen) (p6 : off + cap ≤ cur.size) (hn : n ≠ 0)
  (hc : ∀ j x, l[j]? = some x → w.cell? ((⟨g, off, none⟩ : Addr).add j) = some (.int .u8 x.toNat)) :
  (Builtin.unsafeString_ #[(ρ.t 127), (ρ.t 3)] (ρ.t 9) #[.pointer (some ⟨g, off, none⟩), .int .i64 n]).run P w.drew = .ok (.string ⟨l.toArray⟩) (w.drew.freeze ⟨g, off, none⟩ n) := by
 subst hl
 have hsh : w.drew.shape? g = some (ρ.t 5, cur.size) := by
  have p3' : w.drew.heap[g]? = some (.cells cur (ρ.t 5) (0, 0)) := p3
  simp [World.shape?, p3']
 refine run_unsafeString_off w.drew _ _ _ (ρ.t 5) L.t127 X.cellsByte g off cur.size hsh l (fun e => hn (by rw [e]; rfl)) (Nat.le_trans (Nat.add_le_add_left p4 _) p6) ?_ hc
 have : (maxLen : Nat) ≤ 9223372036854775807 := by decide
 exact Nat.le_trans p4 (Nat.le_trans p5 this)
end
theorem xtra : Builder.Extra Tryz.prog rn := { x72 with t5 := Tryz.underlying5, a5 := Tryz.isAgg5, z5 := Tryz.sizeOf5, v5 := Tryz.zeroValue5, infoByte := by kernel_rfl, cellsByte := by kernel_rfl, sizeByte := by kernel_rfl, neB5 := by decide }
def okBy (l : List Int) : Bool := l.all fun n => decide (0 ≤ n) && decide (n < 256)
def byL (l : List Int) : List UInt8 := l.map fun n => UInt8.ofNat n.toNat
def bytesV (l : List Int) : ByteArray := ⟨(byL l).toArray⟩
theorem byL_eq {l : List Int} (h : okBy l = true) : l.map (Value.int .u8) = (byL l).map fun x => Value.int .u8 (x.toNat : Int) := by
 unfold byL
 rw [List.map_map]
 refine List.map_congr_left fun n hn => ?_
 have h1 := List.all_eq_true.1 h n hn
 simp only [Bool.and_eq_true, decide_eq_true_eq] at h1
 show Value.int .u8 n = Value.int .u8 (((UInt8.ofNat n.toNat).toNat : Nat) : Int)
 congr 1
 rw [UInt8.toNat_ofNat', Nat.mod_eq_of_lt (by omega)]
 omega
def goneF (F : Nat → Ab.Own) : Nat → Ab.Own := upO [1] [.none] F
theorem str_fin {w w' : World} {κ : Nat → Nat → Option Value} {sv : Nat → Value} {l : List Int} {b : Nat} (hf : Fits κ w)
  (hown : ∀ i, i < 2 → Owns 0 κ (gM (nmO (encBK bldBK (l, ()))) 2) sv w (nmO (encBK bldBK (l, ())) i) (owF (encBK bldBK (l, ())) i))
  (hblk : blk (owF (encBK bldBK (l, ())) 0) (sv (nmO (encBK bldBK (l, ())) 0)) = some b) (hne : blk (owF (encBK bldBK (l, ())) 1) (sv (XB + 1)) ≠ some b)
  (h1 : w'.os = w.os) (h2 : w'.tape = w.tape) (h3 : w'.output = w.output) (h4 : w.heap.size ≤ w'.heap.size) (h5 : ∀ k, k < w.heap.size → blk (owF (encBK bldBK (l, ())) 1) (sv (XB + 1)) ≠ some k → w'.heap[k]? = w.heap[k]?) :
  (∀ i, i < 2 → Owns 0 (growK κ w w') (gM (nmO (encBK bldBK (l, ()))) 2) sv w' (nmO (encBK bldBK (l, ())) i) (goneF (owF (encBK bldBK (l, ()))) i)) ∧
   FrameM 2 (fun i => blk (owF (encBK bldBK (l, ())) i) (sv (nmO (encBK bldBK (l, ())) i))) w w' := by
 refine ⟨bx2 ?_ trivial, ⟨h1, h2, h3, h4, fun k hk hn => h5 k hk (hn 1 (by omega))⟩⟩
 refine owns_mono (le_growK hf w') rfl (fun g hg => ?_) (hown 0 (by omega))
 have hg : blk (owF (encBK bldBK (l, ())) 0) (sv (nmO (encBK bldBK (l, ())) 0)) = some g := hg
 rw [hblk] at hg
 cases hg
 exact h5 b (owns_lt (hown 0 (by omega)) hblk) hne
theorem drew_alloc (w : World) (o : Obj) : w.heap.size ≤ (w.drew.alloc o).heap.size ∧ (w.drew.alloc o).os = w.os ∧ (w.drew.alloc o).tape = w.tape ∧ (w.drew.alloc o).output = w.output ∧ ∀ k, k < w.heap.size → (w.drew.alloc o).heap[k]? = w.heap[k]? :=
 ⟨by show w.drew.heap.size ≤ _; simp, rfl, rfl, rfl, fun k hk => Lib.alloc_old w.drew _ k hk⟩
theorem freeze_other (w : World) (p : Addr) (n k : Nat) (hk : k ≠ p.block) : (w.freeze p n).heap[k]? = w.heap[k]? := by
 unfold World.freeze
 split
 ·rfl
 ·simp only [Array.getElem?_modify]; rw [if_neg (by omega)]
theorem freeze_size (w : World) (p : Addr) (n : Nat) : (w.freeze p n).heap.size = w.heap.size ∧ (w.freeze p n).os = w.os ∧ (w.freeze p n).tape = w.tape ∧ (w.freeze p n).output = w.output := by
 unfold World.freeze
 split
 ·exact ⟨rfl, rfl, rfl, rfl⟩
 ·exact ⟨by simp, rfl, rfl, rfl⟩
theorem c28 (l : List Int) (h : okBy l = true) : ContractM iseat.toSeat 28 2 (nmO (encBK bldBK (l, ()))) (owF (encBK bldBK (l, ()))) (goneF (owF (encBK bldBK (l, ())))) [.bx 0 1 0] (.str (bytesV l)) := by
 refine ⟨.pure _ (.str _), bx2 (.box _ _) (.gone _), ⟨Tryz.f28, _, Tryz.func28, rfl, by kernel_rfl⟩, fun w κ sv args hinj hf hkb hg hown hr => ?_⟩
 obtain ⟨b, v0, e1, e2, e3, e4⟩ := bld_at hown
 have hg0 : gM (nmO (encBK bldBK (l, ()))) 2 0 = 1 := gM_lt (q := nmO (encBK bldBK (l, ()))) (n := 2) (i := 0) (by omega)
 have hb : b < w.heap.size := (Array.getElem?_eq_some_iff.1 e2).1
 cases hr with
 | cons _ v1 _ vs q1 q2 =>
 cases q2
 have hv1 : v1 = .pointer (some ⟨b, 0, none⟩) := by
  cases q1 with
  | bx _ _ _ _ _ hh _ =>
   obtain ⟨b', h3, h4⟩ := hh hg0.symm
   rw [e1] at h3; cases h3; exact h4
 subst hv1
 have hblk : blk (owF (encBK bldBK (l, ())) 0) (sv (nmO (encBK bldBK (l, ())) 0)) = some b := by
  show blk (.box _) (sv 0) = _
  rw [e1]; rfl
 have hne : blk (owF (encBK bldBK (l, ())) 1) (sv (XB + 1)) ≠ some b := fun e => by
  have := hinj 0 1 b (by omega) (by omega) hblk e
  cases this
 generalize hv : sv (XB + 1) = v at e2 e4 hne
 rw [← hv] at hne
 have c1 : ∀ W : World, W.heap[b]? = w.heap[b]? → W.cell? ⟨b, 1, none⟩ = some v := fun W hW => by simp [World.cell?, hW, e2]
 rcases e4.2 with ⟨rfl, h0⟩ | ⟨g, off, cap, cur, rfl, _, p3, p4, p5, p6, p7⟩
 ·have hl : l = [] := List.eq_nil_of_length_eq_zero h0
  subst hl
  refine (str_run layG xtra b none 0 0 (.pointer none) w w.drew w.drew ⟨#[]⟩ (c1 _ rfl) (c1 _ rfl) rfl (Any.unsafeString_none layG xtra _ _)).mono ?_
  rintro e w' ⟨rfl, rfl⟩
  obtain ⟨r1, r2⟩ := str_fin (w := w) (w' := w.drew) hf hown hblk hne rfl rfl rfl (Nat.le_refl _) (fun _ _ _ => rfl)
  exact ⟨_, rfl, .str _, r1, r2⟩
 ·have hbg : blk (owF (encBK bldBK (l, ())) 1) (sv (XB + 1)) = some g := by rw [hv]; rfl
  have hbne : b ≠ g := fun e => hne (e ▸ hbg)
  have hgl : g < w.heap.size := (Array.getElem?_eq_some_iff.1 p3).1
  by_cases hn : l.length = 0
  ·have hl : l = [] := List.eq_nil_of_length_eq_zero hn
   subst hl
   by_cases hc : cap = 0
   ·subst hc
    have hsh : w.drew.shape? g = some (5, cur.size) := by
     have p3' : w.drew.heap[g]? = some (.cells cur 5 (0, 0)) := p3
     simp [World.shape?, p3']
    refine (str_run layG xtra b (some ⟨g, off, none⟩) 0 0 (.pointer (some ⟨w.drew.heap.size, 0, none⟩)) w (w.drew.alloc (.view ⟨g, off, none⟩ 5)) _ ⟨#[]⟩ (c1 _ rfl) (c1 _ (Lib.alloc_old w.drew _ b hb)) (Lib.run_unsafeSliceData_zero w.drew _ _ 5 layG.t127 ⟨g, off, none⟩ 0 (5, cur.size) hsh) (Any.unsafeString_none layG xtra _ _)).mono ?_
    rintro e w' ⟨rfl, rfl⟩
    obtain ⟨f1, f2, f3, f4, f5⟩ := drew_alloc w (.view ⟨g, off, none⟩ 5)
    obtain ⟨r1, r2⟩ := str_fin (w := w) (w' := w.drew.alloc (.view ⟨g, off, none⟩ 5)) hf hown hblk hne f2 f3 f4 f1 (fun k hk _ => f5 k hk)
    exact ⟨_, rfl, .str _, r1, r2⟩
   ·refine (str_run layG xtra b (some ⟨g, off, none⟩) 0 cap (.pointer (some ⟨g, off, none⟩)) w w.drew w.drew ⟨#[]⟩ (c1 _ rfl) (c1 _ rfl) (Lib.run_unsafeSliceData_row _ _ _ _ _ _ hc) (Any.unsafeString_none layG xtra _ _)).mono ?_
    rintro e w' ⟨rfl, rfl⟩
    obtain ⟨r1, r2⟩ := str_fin (w := w) (w' := w.drew) hf hown hblk hne rfl rfl rfl (Nat.le_refl _) (fun _ _ _ => rfl)
    exact ⟨_, rfl, .str _, r1, r2⟩
  ·have hll : (byL l).length = l.length := by simp [byL]
   have hUS := str_us layG xtra w g off cap l.length cur (byL l) hll p3 p4 p5 (by rw [Nat.mul_one] at p6; exact p6) hn (fun j x hx => by
    have hown1 : ownsAt w 0 5 1 (.slice (some ⟨g, off, none⟩) l.length cap) l.length (l.map (Value.int .u8)) := e4
    have := hown1.cells j (.int .u8 x.toNat) (by rw [byL_eq h]; simp [hx])
    exact this)
   refine (str_run layG xtra b (some ⟨g, off, none⟩) l.length cap (.pointer (some ⟨g, off, none⟩)) w w.drew _ ⟨(byL l).toArray⟩ (c1 _ rfl) (c1 _ rfl) (Lib.run_unsafeSliceData_row _ _ _ _ _ _ (by omega)) hUS).mono ?_
   rintro e w' ⟨rfl, rfl⟩
   obtain ⟨f1, f2, f3, f4⟩ := freeze_size w.drew ⟨g, off, none⟩ l.length
   obtain ⟨r1, r2⟩ := str_fin (w := w) (w' := w.drew.freeze ⟨g, off, none⟩ l.length) hf hown hblk hne f2 f3 f4 (by rw [f1]; exact Nat.le_refl _) (fun k hk hkn => freeze_other w.drew _ _ k (fun e => hkn (by rw [hbg]; exact congrArg some e.symm)))
   exact ⟨_, rfl, .str _, r1, r2⟩
theorem contractM_os {Z : Seat} {f : FuncId} {n : Nat} {q : Nat → Nat} {os os1 os2 : Nat → Ab.Own} {A : List D} {R : D} (hc : ContractM Z f n q os os1 A R) (h : ∀ i, i < n → os2 i = os1 i) : ContractM Z f n q os os2 A R :=
 ⟨hc.refR, fun i hi => by rw [h i hi]; exact hc.kind i hi, hc.body, fun w κ sv args h1 h2 h3 h4 h5 h6 => (hc.calls w κ sv args h1 h2 h3 h4 h5 h6).mono (by
  rintro e w' ⟨v, q1, q2, q3, q4⟩
  exact ⟨v, q1, q2, fun i hi => by rw [h i hi]; exact q3 i hi, q4⟩)⟩
def itoaP (n : Int) : Option ByteArray := chk (okI n) (some (itoaV n))
noncomputable def sp27 : FnSpec iseat.toSeat := mkSpec iseat.toSeat 27 [.int .i64] [.str] true (fun a => itoaP a.1) (fun a x hx h h' => by
 obtain ⟨n, u⟩ := a
 obtain ⟨hk, hx⟩ := chk_some hx
 cases hx
 exact c27 n hk) (fun _ x => rfl)
def atoiP (s : ByteArray) : Option (Int × Bool) := chk (okA s) (some (atoiV s))
noncomputable def sp68 : FnSpec iseat.toSeat := mkSpec iseat.toSeat 68 [.str] [.int .i64, .err] false (fun a => atoiP a.1) (fun a x hx h h' => by
 obtain ⟨s, u⟩ := a
 obtain ⟨hk, hx⟩ := chk_some hx
 cases hx
 exact c68 s hk) (fun h => nomatch h)
noncomputable def sp50 : FnSpecM iseat.toSeat := mkSpecM iseat.toSeat 50 bldBK [.p 0] [] [] [0] (fun x _ => some (x, ())) (fun x a y z hx => by
 obtain ⟨l, u⟩ := x
 cases u
 cases hx
 exact contractM_os (c50 l) (fun i hi => match i, hi with | 0, _ => rfl | 1, _ => rfl))
def decBld : List IOwn → Option (List Int)
 | [.box [c, .os s g], .arr E t m] => bif zEq 68 0 c && Nat.beq s (XB + 1) && Nat.beq g 1 && Nat.beq E 5 then asL (.int .u8) t m else none
 | _ => none
theorem dec_bld {ls : List IOwn} {l : List Int} (h : decBld ls = some l) : ls = encBK bldBK (l, ()) := by
 unfold decBld at h
 split at h
 ·rename_i c s g E t m
  cases hc : zEq 68 0 c && Nat.beq s (XB + 1) && Nat.beq g 1 && Nat.beq E 5 with
  | false => rw [hc] at h; cases h
  | true =>
   rw [hc] at h
   simp only [Bool.and_eq_true] at hc
   have e2 := Nat.eq_of_beq_eq_true hc.1.1.2
   have e3 := Nat.eq_of_beq_eq_true hc.1.2
   have e4 := Nat.eq_of_beq_eq_true hc.2
   subst e2 e3 e4
   have e5 := zEq_ok (j := 1) hc.1.1.1
   have h : asL (.int .u8) t m = some l := h
   unfold asL at h
   split at h
   ·rename_i e
    subst e
    simp only [Option.some.injEq] at h
    subst h
    rw [e5]
    rfl
   ·cases h
 ·cases h
noncomputable def sp28 : FnSpecM iseat.toSeat where
 f := 28
 ka := []
 kb := [0]
 wr := [1]
 mv := []
 app := fun ls A k => match decBld ls, decAK [.p 0] A with
  | some l, some _ => (chk (okBy l) (some ((), bytesV l))).bind (fun r => k [.none] (.str r.2))
  | _, _ => none
 ok := fun ls A k r h => by
  split at h
  ·rename_i l a hl ha
   obtain ⟨_, h1, h⟩ := Option.bind_eq_some_iff.1 h
   obtain ⟨h0, h1⟩ := chk_some h1
   cases h1
   rw [dec_bld hl]
   refine ⟨_, _, h, ?_⟩
   have hc := c28 l h0
   exact ContractM.toN ⟨hc.refR, hc.kind, hc.body, fun w κ sv args h1 h2 h3 h4 h5 h6 => hc.calls w κ sv args h1 h2 h3 h4 h5 (decAK_rep ha h6)⟩
  ·cases h
def okTrim (s cs : ByteArray) : Bool := decide (s.size ≤ 9223372036854775807) && decide (cs.size < 4294967281) && cs.data.toList.all (fun b => decide (b.toNat < 128))
def trimV (s cs : ByteArray) : ByteArray := ⟨(Lib.trimS s.data.toList cs.data.toList).toArray⟩
def trim : ByteArray → ByteArray → Option ByteArray := fun s cs => chk (okTrim s cs) (some (trimV s cs))
theorem trim_eq (s cs : ByteArray) : trim s cs = chk (okTrim s cs) (some (trimV s cs)) := rfl
theorem c61 (s cs : ByteArray) (h : okTrim s cs = true) : Contract iseat.toSeat 61 [.str s, .str cs] (.str (trimV s cs)) := by
 simp only [okTrim, Bool.and_eq_true, decide_eq_true_eq] at h
 refine ⟨PureL.cons (.str _) (PureL.cons (.str _) PureL.nil), .str _, ⟨Tryz.f61, _, Tryz.func61, rfl, by kernel_rfl⟩, fun w κ args _ _ hr => ?_⟩
 cases hr with
 | cons _ v1 _ vs h1 h2 =>
 cases h1
 cases h2 with
 | cons _ v2 _ vs h3 h4 =>
 cases h3
 cases h4
 have hcon := Any.strings_Trim_laid layT (by kernel_rfl) s cs w h.1.1 h.1.2 (ascii_of_all h.2)
 exact hcon.mono (fun e w' ⟨h1, h2⟩ => ⟨_, h1, .str _, h2⟩)
noncomputable def sp61 : FnSpec iseat.toSeat := mkSpec iseat.toSeat 61 [.str, .str] [.str] true (fun a => trim a.1 a.2.1) (fun a x hx h h' => by
 obtain ⟨s, cs, u⟩ := a
 simp only [trim_eq] at hx
 obtain ⟨hk, hx⟩ := chk_some hx
 simp only [Option.some.injEq] at hx
 subst hx
 exact c61 s cs hk) (fun _ x => rfl)
end Go.Proofs.Tx
namespace Go.Proofs.Tp09
open Go Go.Ab
set_option linter.all false
def bl (s : ByteArray) : List UInt8 := s.data.toList
def mk (l : List UInt8) : ByteArray := ⟨l.toArray⟩
theorem bl_mk (l : List UInt8) : bl (mk l) = l := rfl
theorem eq_iff {s t : ByteArray} : (s.toList == t.toList) = true ↔ s = t := by
 rw [ByteArray.toList_eq, ByteArray.toList_eq, beq_iff_eq]
 constructor
 ·intro h
  have : mk (bl s) = mk (bl t) := by unfold bl; rw [h]
  exact this
 ·intro h; rw [h]
def consH (b : UInt8) : List (List UInt8) → List (List UInt8)
 | h :: t => (b :: h) :: t
 | [] => [[b]]
def splitL (c : UInt8) : List UInt8 → List (List UInt8)
 | [] => [[]]
 | b :: l => if b = c then [] :: splitL c l else consH b (splitL c l)
theorem splitK_eq (c : UInt8) : ∀ l : List UInt8, Lib.splitK [c] 0 (Lib.count l [c]) l = splitL c l
 | [] => rfl
 | b :: l => by
  have ih := splitK_eq c l
  by_cases h : b = c
  ·subst h
   rw [Lib.count_cons_eq, Nat.add_comm]
   unfold Lib.splitK splitL
   have hi : Lib.index (b :: l) [b] = 0 := by unfold Lib.index; simp [List.isPrefixOf]
   rw [hi, if_neg (by decide), if_pos rfl]
   show List.take 0 (b :: l) :: Lib.splitK [b] 0 (Lib.count l [b]) (List.drop 1 (b :: l)) = _
   rw [show List.drop 1 (b :: l) = l from rfl, ih]; rfl
  ·rw [Lib.count_cons_ne b c l h]
   unfold splitL
   rw [if_neg h, ← ih]
   have hi : Lib.index (b :: l) [c] = if Lib.index l [c] == -1 then -1 else Lib.index l [c] + 1 := by
    conv => lhs; unfold Lib.index
    rw [if_neg (by simp [List.isPrefixOf]; exact fun e => h e.symm)]
   by_cases hm : Lib.index l [c] = -1
   ·rw [Lib.count_miss hm]
    rfl
   ·obtain ⟨i, hi2⟩ : ∃ i : Nat, Lib.index l [c] = i := ⟨(Lib.index l [c]).toNat, by have := Lib.index_ge l [c]; omega⟩
    rw [Lib.count_hit (by simp) hi2, Nat.add_comm]
    unfold Lib.splitK
    rw [hi, hi2, if_neg (by first | (simp; done) | (simp; omega)), if_neg (by first | (simp; done) | (simp; omega)), if_neg (by first | (simp; done) | (simp; omega))]
    rw [show ((i : Int) + 1).toNat = i + 1 by omega, show ((i : Int)).toNat = i by omega]
    rfl
theorem splitV_eq (s : ByteArray) (c : UInt8) : Tx.splitV s ⟨#[c]⟩ = (splitL c (bl s)).map mk := by
 have h := Lib.splitB_data (⟨#[c]⟩ : ByteArray) 0 (Lib.countB s ⟨#[c]⟩) s
 have h2 : (Lib.splitB ⟨#[c]⟩ 0 (Lib.countB s ⟨#[c]⟩) s).map (fun x : ByteArray => x.data.toList) = splitL c (bl s) := h.trans (splitK_eq c _)
 rw [← h2, List.map_map]
 exact (List.map_id'' (fun x => rfl) _).symm
theorem splitL_ne (c : UInt8) : ∀ l, splitL c l ≠ []
 | [] => by simp [splitL]
 | b :: l => by
  unfold splitL
  split
  ·simp
  ·unfold consH; split <;> simp
theorem splitL_app (c : UInt8) : ∀ (a l : List UInt8), c ∉ a → splitL c (a ++ c :: l) = a :: splitL c l
 | [], l, _ => by show splitL c (c :: l) = _; rw [splitL, if_pos rfl]
 | b :: a, l, h => by
  have hb : b ≠ c := fun e => h (e ▸ List.mem_cons_self ..)
  show splitL c (b :: (a ++ c :: l)) = _
  rw [splitL, if_neg hb, splitL_app c a l (fun q => h (List.mem_cons_of_mem _ q))]; rfl
theorem splitL_none (c : UInt8) : ∀ (a : List UInt8), c ∉ a → splitL c a = [a]
 | [], _ => rfl
 | b :: a, h => by
  have hb : b ≠ c := fun e => h (e ▸ List.mem_cons_self ..)
  rw [splitL, if_neg hb, splitL_none c a (fun q => h (List.mem_cons_of_mem _ q))]; rfl
def joinL (c : UInt8) : List (List UInt8) → List UInt8
 | [] => []
 | [x] => x
 | x :: y :: r => x ++ c :: joinL c (y :: r)
theorem join_split (c : UInt8) : ∀ l, joinL c (splitL c l) = l
 | [] => rfl
 | b :: l => by
  have ih := join_split c l
  have hn := splitL_ne c l
  unfold splitL
  by_cases h : b = c
  ·rw [if_pos h]
   generalize hs : splitL c l = p at ih hn
   cases p with
   | nil => exact absurd rfl hn
   | cons y r => show [] ++ c :: joinL c (y :: r) = _; rw [ih, h]; rfl
  ·rw [if_neg h]
   generalize hs : splitL c l = p at ih hn
   match p, ih, hn with
   | [y], ih, _ => show b :: y = _; rw [show y = l from ih]
   | y :: z :: r, ih, _ => show (b :: y) ++ c :: joinL c (z :: r) = _; rw [List.cons_append, show y ++ c :: joinL c (z :: r) = l from ih]
def rowsL (c : UInt8) (rows : List (List UInt8)) : List UInt8 := rows.flatMap (· ++ [c])
theorem join_rows (c : UInt8) : ∀ (rows : List (List UInt8)), joinL c (rows ++ [[]]) = rowsL c rows
 | [] => rfl
 | [x] => by simp [joinL, rowsL]
 | x :: y :: r => by
  show x ++ c :: joinL c (y :: r ++ [[]]) = _
  rw [join_rows c (y :: r)]
  show _ = (x ++ [c]) ++ rowsL c (y :: r)
  simp
def digs (n : Int) : List UInt8 := Tx.itoaL n
theorem digit_toNat {i : Nat} (h : i < 10) : (UInt8.ofNat (48 + i)).toNat = 48 + i := by
 rw [UInt8.toNat_ofNat']; omega
theorem dec_mem : ∀ (f u : Nat) (b : UInt8), b ∈ Tx.decF f u → 48 ≤ b.toNat ∧ b.toNat ≤ 57
 | 0, _, b, h => by cases h
 | f + 1, u, b, h => by
  unfold Tx.decF at h
  cases hb : Nat.blt u 10 with
  | true =>
   rw [hb] at h
   simp only [cond_true, List.mem_singleton] at h
   have hu : u < 10 := by simpa [Nat.blt_eq] using hb
   subst h; rw [digit_toNat hu]; omega
  | false =>
   rw [hb] at h
   simp only [cond_false, List.mem_append, List.mem_singleton] at h
   rcases h with h | h
   ·exact dec_mem f _ b h
   ·subst h; rw [digit_toNat (Nat.mod_lt _ (by decide))]; omega
theorem digs_mem {n : Int} (h : 0 ≤ n) {b : UInt8} (hb : b ∈ digs n) : 48 ≤ b.toNat ∧ b.toNat ≤ 57 := by
 unfold digs Tx.itoaL at hb
 rw [decide_eq_false (by omega : ¬ n < 0)] at hb
 exact dec_mem _ _ _ hb
theorem dec_len : ∀ (k f u : Nat), u < 10 ^ (k + 1) → (Tx.decF f u).length ≤ k + 1
 | _, 0, _, _ => Nat.zero_le _
 | 0, f + 1, u, h => by
  unfold Tx.decF
  have hu : u < 10 := by simpa using h
  rw [show Nat.blt u 10 = true by simpa [Nat.blt_eq] using hu]
  exact Nat.le_refl _
 | k + 1, f + 1, u, h => by
  unfold Tx.decF
  cases hb : Nat.blt u 10 with
  | true => show 1 ≤ _; omega
  | false =>
   show (Tx.decF f (u / 10) ++ [_]).length ≤ _
   rw [List.length_append]
   have := dec_len k f (u / 10) (by rw [Nat.pow_succ] at h; omega)
   show _ + 1 ≤ _
   omega
theorem digs_len {n : Int} (h : 0 ≤ n) (h2 : n ≤ 999999) : (digs n).length ≤ 6 := by
 unfold digs Tx.itoaL
 rw [decide_eq_false (by omega : ¬ n < 0)]
 exact dec_len 5 20 n.toNat (by omega)
theorem dec_ne : ∀ (f u : Nat), 0 < f → Tx.decF f u ≠ []
 | f + 1, u, _ => by
  unfold Tx.decF
  cases Nat.blt u 10 <;> simp
theorem decFrom_app : ∀ (l : List UInt8) (acc n d : Nat) (b : UInt8), Lib.decFrom acc l = some n → Lib.digitVal b = some d → Lib.decFrom acc (l ++ [b]) = some (n * 10 + d)
 | [], acc, n, d, b, h, hd => by
  simp only [Lib.decFrom, Option.some.injEq] at h
  subst h
  simp [Lib.decFrom, hd]
 | x :: l, acc, n, d, b, h, hd => by
  simp only [List.cons_append, Lib.decFrom] at h ⊢
  split at h
  ·exact decFrom_app l _ n d b h hd
  ·cases h
theorem digitVal_of {i : Nat} (h : i < 10) : Lib.digitVal (UInt8.ofNat (48 + i)) = some i := by
 unfold Lib.digitVal
 rw [digit_toNat h, if_pos (by omega)]
 congr 1; omega
theorem dec_from : ∀ (f u : Nat), u < 10 ^ f → 0 < f → Lib.decFrom 0 (Tx.decF f u) = some u
 | f + 1, u, h, _ => by
  unfold Tx.decF
  cases hb : Nat.blt u 10 with
  | true =>
   have hu : u < 10 := by simpa [Nat.blt_eq] using hb
   show Lib.decFrom 0 [_] = _
   simp only [Lib.decFrom, digitVal_of hu, Nat.zero_mul, Nat.zero_add]
  | false =>
   have hu : ¬ u < 10 := fun q => by rw [show Nat.blt u 10 = true by simpa [Nat.blt_eq] using q] at hb; cases hb
   have hf : 0 < f := by
    rcases Nat.eq_zero_or_pos f with rfl | h0
    ·simp at h; omega
    ·exact h0
   show Lib.decFrom 0 (_ ++ [_]) = _
   rw [decFrom_app _ 0 (u / 10) (u % 10) _ (dec_from f (u / 10) (by rw [Nat.pow_succ] at h; omega) hf) (digitVal_of (Nat.mod_lt _ (by decide)))]
   congr 1; omega
theorem atoi_digs {n : Int} (h : 0 ≤ n) (h2 : n ≤ 999999) : Tx.atoiV (mk (digs n)) = (n, true) := by
 have hl := digs_len h h2
 have hd : digs n = Tx.decF 20 n.toNat := by unfold digs Tx.itoaL; rw [decide_eq_false (by omega : ¬ n < 0)]; rfl
 have hne : digs n ≠ [] := by rw [hd]; exact dec_ne _ _ (by decide)
 have hnat : Lib.decNat (digs n) = some n.toNat := by
  unfold Lib.decNat
  rw [if_neg (by simpa using hne), hd]
  exact dec_from 20 _ (by omega) (by decide)
 unfold Tx.atoiV
 show (match Lib.atoiAll (digs n) with | .ok v => (v, true) | .range => (Lib.atoiSat (digs n), false) | _ => (0, false)) = _
 obtain ⟨c, r, hcr⟩ := List.exists_cons_of_ne_nil hne
 have hc := digs_mem h (hcr ▸ List.mem_cons_self .. : c ∈ digs n)
 have hall : Lib.atoiAll (digs n) = .ok n := by
  rw [hcr, Lib.atoiAll_plain c r (by omega) (by omega), ← hcr, Lib.signless_short (by omega), hnat]
  show Lib.NumEnd.ok ((n.toNat : Nat) : Int) = _
  rw [Int.toNat_of_nonneg h]
 rw [hall]
end Go.Proofs.Tp09
namespace Go.Ab
open Go Go.RowKit
noncomputable section
set_option linter.all false
section
variable {Z : Seat}
def isFn (g : Nat) : Option I → Bool
 | some (.mf f _) => Nat.beq f g
 | some (.fn f _) => Nat.beq f g
 | some (.rp [.mf f _] _) => Nat.beq f g
 | some (.rp [.fn f _] _) => Nat.beq f g
 | _ => false
def altSpec (i g : Nat) (f : FuncId) (sc : Bool) (s1 s2 : FnSpec Z) (hf1 : s1.f = f) (hf2 : s2.f = f) (hs1 : s1.sc = sc) (hs2 : s2.sc = sc) : FnSpec Z := ⟨f, sc, fun A k => bif isFn g (nth A i) then s1.app A k else s2.app A k, fun A k r h => by
 cases hb : isFn g (nth A i) with
 | true =>
  rw [hb] at h
  obtain ⟨d, h1, h2⟩ := s1.ok A k r h
  exact ⟨d, h1, fun h => by rw [← hf1, ← hs1]; exact h2 h⟩
 | false =>
  rw [hb] at h
  obtain ⟨d, h1, h2⟩ := s2.ok A k r h
  exact ⟨d, h1, fun h => by rw [← hf2, ← hs2]; exact h2 h⟩⟩
def altIt (i g : Nat) (f : FuncId) (L : List T) (s1 s2 : ItSpec Z) (hf1 : s1.f = f) (hf2 : s2.f = f) (hs1 : s1.its = L) (hs2 : s2.its = L) : ItSpec Z := ⟨f, L, fun cap k => bif isFn g (nth cap i) then s1.app cap (fun items => k (hs1 ▸ items)) else s2.app cap (fun items => k (hs2 ▸ items)), fun cap k r h => by
 cases hb : isFn g (nth cap i) with
 | true =>
  rw [hb] at h
  obtain ⟨f1, its1, app1, ok1⟩ := s1
  simp only at hf1 hs1
  subst hf1 hs1
  exact ok1 cap k r h
 | false =>
  rw [hb] at h
  obtain ⟨f2, its2, app2, ok2⟩ := s2
  simp only at hf2 hs2
  subst hf2 hs2
  exact ok2 cap k r h⟩
end
section
variable {Z : ISeat}
def finC2 (Z : ISeat) (nt : Nat) (rv : List ResultVar) (g : FuncId) (ct ct2 : T) (S : IS) : Option (den ct × den ct2) := match rv with
 | [.tmp t] => bif Nat.ble (t + 1) nt then (match S.get t with
  | .fn f [.bx s g' 0, .bx s2 g2 0] => bif Nat.beq f g && Nat.beq g' (S.gen s) && Nat.beq g2 (S.gen s2) && !(Nat.beq s2 s) then (match S.own s with
   | .box l => (match S.own s2 with
    | .box l2 => bif noNil l && noNil l2 then (decC ct l).bind fun a => (decC ct2 l2).bind fun b => some (a, b) else none
    | _ => none)
   | _ => none) else none
  | _ => none) else none
 | _ => none
theorem finC2_ok {X : Ctx} {nt : Nat} (hX : At X Z nt) (hx0 : X.ext = none ∧ ∀ b, ¬ X.ex b) {rv : List ResultVar} {g : FuncId} {ct ct2 : T} {S : IS} {x : den ct × den ct2} {h h' : Nat → Nat} (hr : finC2 Z nt rv g ct ct2 S = some x) :
  ∃ S' ds, Wk X (S.toSt h) S' ∧ ResL X S' rv ds ∧ ∀ κ γ sv v, Rep κ γ sv (tupOf ds) v → Rep κ γ sv ((encR [.clo2 g ct ct2] x).toD h') v := by
 unfold finC2 at hr
 split at hr
 ·rename_i t
  cases hb0 : Nat.ble (t + 1) nt with
  | false => rw [hb0] at hr; cases hr
  | true =>
  rw [hb0] at hr
  simp only [cond_true] at hr
  split at hr
  ·rename_i f s g' s2 g2 hg
   cases hb : Nat.beq f g && Nat.beq g' (S.gen s) && Nat.beq g2 (S.gen s2) && !(Nat.beq s2 s) with
   | false => rw [hb] at hr; cases hr
   | true =>
    rw [hb] at hr
    simp only [Bool.and_eq_true, Bool.not_eq_true'] at hb
    obtain ⟨⟨⟨e1, e2⟩, e3⟩, e4⟩ := hb
    have e1 := Nat.eq_of_beq_eq_true e1
    have e2 := Nat.eq_of_beq_eq_true e2
    have e3 := Nat.eq_of_beq_eq_true e3
    have hne : s2 ≠ s := fun e => by rw [e] at e4; simp at e4
    simp only [cond_true] at hr
    split at hr
    ·rename_i l hσ
     split at hr
     ·rename_i l2 hσ2
      cases hn : noNil l && noNil l2 with
      | false => rw [hn] at hr; cases hr
      | true =>
       rw [hn] at hr
       simp only [Bool.and_eq_true] at hn
       simp only [cond_true] at hr
       cases ha : decC ct l with
       | none => rw [ha] at hr; cases hr
       | some xa =>
       cases hb2 : decC ct2 l2 with
       | none => rw [ha, hb2] at hr; cases hr
       | some xb =>
       rw [ha, hb2] at hr
       simp only [Option.bind_some, Option.some.injEq] at hr
       subst hr
       have hl := noNil_eq (decC_ok ct ha) hn.1
       have hl2 := noNil_eq (decC_ok ct2 hb2) hn.2
       have h1 : (S.toSt h).ρ t = .fn f [.bx s (h s + g') 0, .bx s2 (h s2 + g2) 0] := by
        show (S.get t).toD h = _
        rw [hg]; rfl
       have h2 : (S.toSt h).σ s = .box (I.toDL h l) := by
        show (S.own s).toOwn h = _
        rw [hσ]; rfl
       have h3 : (S.toSt h).σ s2 = .box (I.toDL h l2) := by
        show (S.own s2).toOwn h = _
        rw [hσ2]; rfl
       have hw := wk_freeze_cap (X := X) (S := S.toSt h) t 0 hx0 h1 rfl (show (S.toSt h).γ s = h s + g' from by show h s + S.gen s = _; rw [e2]) h2 (c' := [.rp (I.toDL h l) 0, .bx s2 (h s2 + g2) 0]) rfl
       have hw2 := wk_freeze_cap (X := X) (S := ⟨upd (S.toSt h).ρ t (.fn f [.rp (I.toDL h l) 0, .bx s2 (h s2 + g2) 0]), (S.toSt h).γ, upd (S.toSt h).σ s .none⟩) t 1 (s := s2) (g := h s2 + g2) (o := 0) (f := f) (c := [.rp (I.toDL h l) 0, .bx s2 (h s2 + g2) 0]) (l := I.toDL h l2) hx0 (upd_same _ _ _) rfl
        (show (S.toSt h).γ s2 = h s2 + g2 from by show h s2 + S.gen s2 = _; rw [e3]) ((upd_ne _ _ _ _ hne).trans h3) (c' := [.rp (I.toDL h l) 0, .rp (I.toDL h l2) 0]) rfl
       refine ⟨_, [.fn f [.rp (I.toDL h l) 0, .rp (I.toDL h l2) 0]], hw.trans hw2, ⟨?_, trivial⟩, fun κ γ sv v hv => ?_⟩
       ·have hlt : Nat.blt t X.nt = true := by rw [hX.nt]; exact hb0
        show (bif Nat.blt t X.nt then upd (upd (S.toSt h).ρ t (D.fn f [.rp (I.toDL h l) 0, .bx s2 (h s2 + g2) 0])) t (D.fn f [.rp (I.toDL h l) 0, .rp (I.toDL h l2) 0]) t else D.undef) = _
        rw [hlt, upd_same]; rfl
       ·rw [hl, hl2, toDL_enc, toDL_enc, e1] at hv
        show Rep κ γ sv (.fn g [.rp (I.toDL h' (encC ct xa)) 0, .rp (I.toDL h' (encC ct2 xb)) 0]) v
        rw [toDL_enc, toDL_enc]; exact hv
     ·cases hr
    ·cases hr
  ·cases hr
 ·cases hr
def fnRunC2 (g : FuncId) (ct ct2 : T) (it : It (den ct × den ct2)) (E : FEnv Z) (c : Code) (rv : List ResultVar) (A : List I) : Option (den ct × den ct2) :=
 runC it E c ⟨[], []⟩ (initS A) (finC2 Z E.nt rv g ct ct2) (fun e S => match e with | none => finC2 Z E.nt rv g ct ct2 S | some _ => none)
theorem fn_contractC2 {ats : List T} {g : FuncId} {ct ct2 : T} {E : FEnv Z} {f : FuncId} {fn : Func} {c : Code} (hf : Z.P.funcs[f]? = some fn) (hb : fn.body = some c) (hname : (fn.name == "runtime.NumGoroutine") = false) (hn : Nat.beq fn.ntmps E.nt = true) (hl : Nat.ble ats.length fn.ntmps = true) (hp : E.pin = [])
  {a : argD ats} {x : den ct × den ct2} (hr : fnRunC2 g ct ct2 itN E c fn.results.toList (encA ats a) = some x) (h h' : Nat → Nat) : Contract Z.toSeat f (I.toDL h (encA ats a)) ((encR [.clo2 g ct ct2] x).toD h') := by
 rw [encA_h' h zh]
 refine contract_introN hf hb hname (by rw [toDL_len, encA_len]; exact hl) (encA_pure _ _ _) (encR_pure _ _ _) fun w κ => ?_
 have hX : At (Ctx.plain Z.toSeat fn.ntmps w κ none) Z E.nt := At.pl rfl (Nat.eq_of_beq_eq_true hn) (fun _ => rfl)
 rw [← toSt_init]
 refine W_mono (run_ok c hX (fun _ => ⟨_, _, _, _, _, rfl⟩) (g0 := zh) ⟨[], []⟩ rfl _ _ _ zh ⟨(fun g hg => by rw [hp] at hg; cases hg), ⟨(fun p hp => (nomatch hp)), (fun p hp => (nomatch hp))⟩⟩ hr) ?_
 rintro e T ⟨h2, S, rfl, _, hq⟩
 cases e with
 | normal => exact finC2_ok hX ⟨rfl, fun _ h => h⟩ hq
 | ret => exact finC2_ok hX ⟨rfl, fun _ h => h⟩ hq
 | exit i => cases hq
 | _ => exact hq.elim
end
end
end Go.Ab

namespace Go.Ab
open Go Go.RowKit
noncomputable section
set_option linter.all false
set_option maxHeartbeats 1000000
section
variable {X : Ctx} {Z : ISeat}
end
end
end Go.Ab

namespace Go.Ab
open Go Go.RowKit
noncomputable section
set_option linter.all false
set_option maxHeartbeats 1000000
section
variable {R : Type} {X : Ctx} {Z : ISeat} {r : R}
end
end
end Go.Ab
