/- Walks by computing: what each function of the program that the laws reach gives for what it gets, as plain Lean, and that it is so; without a condition but those that stand in each theorem. -/
import Derived.Shelf.Strings.Split
import Derived.Shelf.Strings.Cut
import Derived.Shelf.Strings.Count
import Derived.Shelf.Strings.Builder1
import Derived.Shelf.Strconv.AtoiAll
import Derived.Shelf.Strconv.Itoa3
import Derived.Shelf.Strings.SlTrimAscii
import Derived.WalkSmall
import Derived.Test.YtbhjjkekphpldaaGreatDoorW1
import Derived.Test.YtbhjjkekphpldaaGreatDoorW2
import Derived.Test.YtbhjjkekphpldaaGreatDoorW3
import Derived.Test.YtbhjjkekphpldaaGreatDoorW4
import Derived.Test.YtbhjjkekphpldaaGreatDoorW5
import Derived.Test.YtbhjjkekphpldaaGreatDoorW6
import Derived.Test.YtbhjjkekphpldaaGreatDoorW7
import Derived.Test.YtbhjjkekphpldaaGreatDoorW8
import Derived.Test.YtbhjjkekphpldaaGreatDoorW9
set_option linter.all false
namespace Go.Proofs.Rd10
open Go Go.Ab Go.RowKit Go.Shelf Go.Proofs
open Go.Proofs.YtbhjjkekphpldaaGreatDoor (iseat)
set_option linter.all false
set_option maxRecDepth 100000
def rn:Ren:={ f:=fun|119=>188|120=>164|129=>221|137=>146|138=>121|143=>142|145=>170|151=>153|152=>163|160=>107|169=>128|171=>126|172=>219|195=>140|197=>152|205=>320|217=>156|218=>141|219=>155|220=>190|224=>166|225=>165|227=>131|228=>151|231=>129|232=>130|233=>132|234=>133|235=>134|236=>135|240=>150|243=>149|244=>262|245=>263|246=>160|247=>293|260=>162|266=>168|267=>167|271=>154|276=>161|279=>294|280=>295|281=>296|282=>297|283=>184|284=>185|285=>186|286=>187|287=>318|314=>189|316=>319|317=>220|318=>222|319=>223|320=>224|321=>333|322=>334|337=>264|338=>265|n=>n,t:=fun|0=>0|2=>2|3=>3|4=>4|5=>5|9=>9|20=>20|21=>21|37=>172|46=>90|51=>246|53=>72|59=>230|70=>171|72=>174|75=>181|76=>182|80=>184|85=>380|105=>215|116=>187|117=>188|119=>241|124=>191|127=>213|138=>243|139=>244|143=>435|145=>437|146=>247|164=>226|167=>379|168=>382|171=>236|173=>239|175=>415|210=>419|212=>290|213=>291|232=>385|233=>386|n=>n,g:=fun|1=>0|3=>1|4=>2|15=>9|16=>10|17=>4|18=>6|19=>7|n=>n }
theorem layI:LaysM.n171 Tryz.prog rn:={
 mixed:=by kernel_rfl
 f129:=Eq.trans Tryz.func221 (congrArg some (by kernel_rfl))
 f171:=Eq.trans Tryz.func126 (congrArg some (by kernel_rfl))
 f243:=Eq.trans Tryz.func149 (congrArg some (by kernel_rfl))
 f246:=Eq.trans Tryz.func160 (congrArg some (by kernel_rfl))
 f283:=Eq.trans Tryz.func184 (congrArg some (by kernel_rfl))
 f284:=Eq.trans Tryz.func185 (congrArg some (by kernel_rfl))
 f285:=Eq.trans Tryz.func186 (congrArg some (by kernel_rfl))
 f286:=Eq.trans Tryz.func187 (congrArg some (by kernel_rfl))
 f317:=Eq.trans Tryz.func220 (congrArg some (by kernel_rfl))
 f318:=Eq.trans Tryz.func222 (congrArg some (by kernel_rfl))
 f319:=Eq.trans Tryz.func223 (congrArg some (by kernel_rfl))
 f320:=Eq.trans Tryz.func224 (congrArg some (by kernel_rfl))
 f337:=Eq.trans Tryz.func264 (congrArg some (by kernel_rfl))
 f338:=Eq.trans Tryz.func265 (congrArg some (by kernel_rfl))
 t0:=Tryz.underlying0
 a0:=Tryz.isAgg0
 z0:=Tryz.sizeOf0
 v0:=Tryz.zeroValue0
 t2:=Tryz.underlying2
 a2:=Tryz.isAgg2
 z2:=Tryz.sizeOf2
 v2:=Tryz.zeroValue2
 t3:=Tryz.underlying3
 a3:=Tryz.isAgg3
 z3:=Tryz.sizeOf3
 v3:=Tryz.zeroValue3
 t4:=Tryz.underlying4
 a4:=Tryz.isAgg4
 z4:=Tryz.sizeOf4
 v4:=Tryz.zeroValue4
 t5:=Tryz.underlying5
 a5:=Tryz.isAgg5
 z5:=Tryz.sizeOf5
 v5:=Tryz.zeroValue5
 t9:=Tryz.underlying9
 a9:=Tryz.isAgg9
 z9:=Tryz.sizeOf9
 v9:=Tryz.zeroValue9
 t20:=Tryz.underlying20
 a20:=Tryz.isAgg20
 z20:=Tryz.sizeOf20
 v20:=Tryz.zeroValue20
 t37:=Tryz.underlying172
 a37:=Tryz.isAgg172
 z37:=Tryz.sizeOf172
 v37:=Tryz.zeroValue172
 t46:=Tryz.underlying90
 a46:=Tryz.isAgg90
 z46:=Tryz.sizeOf90
 v46:=Tryz.zeroValue90
 t51:=Tryz.underlying246
 a51:=Tryz.isAgg246
 z51:=Tryz.sizeOf246
 v51:=Tryz.zeroValue246
 t53:=Tryz.underlying72
 a53:=Tryz.isAgg72
 z53:=Tryz.sizeOf72
 v53:=Tryz.zeroValue72
 t171:=Tryz.underlying236
 a171:=Tryz.isAgg236
 z171:=Tryz.sizeOf236
 v171:=Tryz.zeroValue236
 t173:=Tryz.underlying239
 a173:=Tryz.isAgg239
 z173:=Tryz.sizeOf239
 v173:=Tryz.zeroValue239
 t212:=Tryz.underlying290
 a212:=Tryz.isAgg290
 z212:=Tryz.sizeOf290
 v212:=Tryz.zeroValue290
 t213:=Tryz.underlying291
 a213:=Tryz.isAgg291
 z213:=Tryz.sizeOf291
 t232:=Tryz.underlying385
 a232:=Tryz.isAgg385
 z232:=Tryz.sizeOf385
 v232:=Tryz.zeroValue385
 t233:=Tryz.underlying386
 a233:=Tryz.isAgg386
 z233:=Tryz.sizeOf386
 v233:=Tryz.zeroValue386
 g17:=by kernel_rfl
 g18:=by kernel_rfl
 g19:=by kernel_rfl
 i0:=by kernel_rfl
 i2:=by kernel_rfl
 i3:=by kernel_rfl
 i4:=by kernel_rfl
 i5:=by kernel_rfl
 i9:=by kernel_rfl
 i20:=by kernel_rfl
 i37:=by kernel_rfl
 i46:=by kernel_rfl
 i51:=by kernel_rfl
 i53:=by kernel_rfl
 i171:=by kernel_rfl
 i173:=by kernel_rfl
 i212:=by kernel_rfl
 i232:=by kernel_rfl
 i233:=by kernel_rfl
 m17:=by kernel_rfl
 m18:=by kernel_rfl
 m19:=by kernel_rfl
}
theorem layA:LaysC.n172 Tryz.prog rn:={
 mixed:=by kernel_rfl
 f129:=Eq.trans Tryz.func221 (congrArg some (by kernel_rfl))
 f171:=Eq.trans Tryz.func126 (congrArg some (by kernel_rfl))
 f172:=Eq.trans Tryz.func219 (congrArg some (by kernel_rfl))
 f205:=Eq.trans Tryz.func320 (congrArg some (by kernel_rfl))
 f243:=Eq.trans Tryz.func149 (congrArg some (by kernel_rfl))
 f244:=Eq.trans Tryz.func262 (congrArg some (by kernel_rfl))
 f245:=Eq.trans Tryz.func263 (congrArg some (by kernel_rfl))
 f246:=Eq.trans Tryz.func160 (congrArg some (by kernel_rfl))
 f247:=Eq.trans Tryz.func293 (congrArg some (by kernel_rfl))
 f279:=Eq.trans Tryz.func294 (congrArg some (by kernel_rfl))
 f280:=Eq.trans Tryz.func295 (congrArg some (by kernel_rfl))
 f281:=Eq.trans Tryz.func296 (congrArg some (by kernel_rfl))
 f282:=Eq.trans Tryz.func297 (congrArg some (by kernel_rfl))
 f283:=Eq.trans Tryz.func184 (congrArg some (by kernel_rfl))
 f284:=Eq.trans Tryz.func185 (congrArg some (by kernel_rfl))
 f285:=Eq.trans Tryz.func186 (congrArg some (by kernel_rfl))
 f286:=Eq.trans Tryz.func187 (congrArg some (by kernel_rfl))
 f287:=Eq.trans Tryz.func318 (congrArg some (by kernel_rfl))
 f316:=Eq.trans Tryz.func319 (congrArg some (by kernel_rfl))
 f317:=Eq.trans Tryz.func220 (congrArg some (by kernel_rfl))
 f318:=Eq.trans Tryz.func222 (congrArg some (by kernel_rfl))
 f319:=Eq.trans Tryz.func223 (congrArg some (by kernel_rfl))
 f320:=Eq.trans Tryz.func224 (congrArg some (by kernel_rfl))
 f321:=Eq.trans Tryz.func333 (congrArg some (by kernel_rfl))
 f322:=Eq.trans Tryz.func334 (congrArg some (by kernel_rfl))
 f337:=Eq.trans Tryz.func264 (congrArg some (by kernel_rfl))
 f338:=Eq.trans Tryz.func265 (congrArg some (by kernel_rfl))
 t0:=Tryz.underlying0
 a0:=Tryz.isAgg0
 z0:=Tryz.sizeOf0
 v0:=Tryz.zeroValue0
 t2:=Tryz.underlying2
 a2:=Tryz.isAgg2
 z2:=Tryz.sizeOf2
 v2:=Tryz.zeroValue2
 t3:=Tryz.underlying3
 a3:=Tryz.isAgg3
 z3:=Tryz.sizeOf3
 v3:=Tryz.zeroValue3
 t4:=Tryz.underlying4
 a4:=Tryz.isAgg4
 z4:=Tryz.sizeOf4
 v4:=Tryz.zeroValue4
 t5:=Tryz.underlying5
 a5:=Tryz.isAgg5
 z5:=Tryz.sizeOf5
 v5:=Tryz.zeroValue5
 t9:=Tryz.underlying9
 a9:=Tryz.isAgg9
 z9:=Tryz.sizeOf9
 v9:=Tryz.zeroValue9
 t20:=Tryz.underlying20
 a20:=Tryz.isAgg20
 z20:=Tryz.sizeOf20
 v20:=Tryz.zeroValue20
 t21:=Tryz.underlying21
 a21:=Tryz.isAgg21
 z21:=Tryz.sizeOf21
 v21:=Tryz.zeroValue21
 t37:=Tryz.underlying172
 a37:=Tryz.isAgg172
 z37:=Tryz.sizeOf172
 v37:=Tryz.zeroValue172
 t46:=Tryz.underlying90
 a46:=Tryz.isAgg90
 z46:=Tryz.sizeOf90
 v46:=Tryz.zeroValue90
 t51:=Tryz.underlying246
 a51:=Tryz.isAgg246
 z51:=Tryz.sizeOf246
 v51:=Tryz.zeroValue246
 t53:=Tryz.underlying72
 a53:=Tryz.isAgg72
 z53:=Tryz.sizeOf72
 v53:=Tryz.zeroValue72
 t75:=Tryz.underlying181
 a75:=Tryz.isAgg181
 z75:=Tryz.sizeOf181
 v75:=Tryz.zeroValue181
 t76:=Tryz.underlying182
 a76:=Tryz.isAgg182
 z76:=Tryz.sizeOf182
 v76:=Tryz.zeroValue182
 t85:=Tryz.underlying380
 a85:=Tryz.isAgg380
 z85:=Tryz.sizeOf380
 v85:=Tryz.zeroValue380
 t127:=Tryz.underlying213
 a127:=Tryz.isAgg213
 z127:=Tryz.sizeOf213
 v127:=Tryz.zeroValue213
 t143:=Tryz.underlying435
 a143:=Tryz.isAgg435
 z143:=Tryz.sizeOf435
 v143:=Tryz.zeroValue435
 t145:=Tryz.underlying437
 a145:=Tryz.isAgg437
 z145:=Tryz.sizeOf437
 v145:=Tryz.zeroValue437
 t167:=Tryz.underlying379
 a167:=Tryz.isAgg379
 z167:=Tryz.sizeOf379
 v167:=Tryz.zeroValue379
 t168:=Tryz.underlying382
 a168:=Tryz.isAgg382
 z168:=Tryz.sizeOf382
 v168:=Tryz.zeroValue382
 t171:=Tryz.underlying236
 a171:=Tryz.isAgg236
 z171:=Tryz.sizeOf236
 v171:=Tryz.zeroValue236
 t173:=Tryz.underlying239
 a173:=Tryz.isAgg239
 z173:=Tryz.sizeOf239
 v173:=Tryz.zeroValue239
 t175:=Tryz.underlying415
 a175:=Tryz.isAgg415
 z175:=Tryz.sizeOf415
 v175:=Tryz.zeroValue415
 t210:=Tryz.underlying419
 a210:=Tryz.isAgg419
 z210:=Tryz.sizeOf419
 v210:=Tryz.zeroValue419
 t212:=Tryz.underlying290
 a212:=Tryz.isAgg290
 z212:=Tryz.sizeOf290
 v212:=Tryz.zeroValue290
 t213:=Tryz.underlying291
 a213:=Tryz.isAgg291
 z213:=Tryz.sizeOf291
 t232:=Tryz.underlying385
 a232:=Tryz.isAgg385
 z232:=Tryz.sizeOf385
 v232:=Tryz.zeroValue385
 t233:=Tryz.underlying386
 a233:=Tryz.isAgg386
 z233:=Tryz.sizeOf386
 v233:=Tryz.zeroValue386
 g15:=by kernel_rfl
 g16:=by kernel_rfl
 g17:=by kernel_rfl
 g18:=by kernel_rfl
 g19:=by kernel_rfl
 t80:=Tryz.underlying184
 a80:=Tryz.isAgg184
 z80:=Tryz.sizeOf184
 v80:=Tryz.zeroValue184
 i0:=by kernel_rfl
 i2:=by kernel_rfl
 i3:=by kernel_rfl
 i4:=by kernel_rfl
 i5:=by kernel_rfl
 i9:=by kernel_rfl
 i20:=by kernel_rfl
 i21:=by kernel_rfl
 i37:=by kernel_rfl
 i46:=by kernel_rfl
 i51:=by kernel_rfl
 i53:=by kernel_rfl
 i75:=by kernel_rfl
 i76:=by kernel_rfl
 i80:=by kernel_rfl
 i85:=by kernel_rfl
 i127:=by kernel_rfl
 i143:=by kernel_rfl
 i145:=by kernel_rfl
 i167:=by kernel_rfl
 i168:=by kernel_rfl
 i171:=by kernel_rfl
 i173:=by kernel_rfl
 i175:=by kernel_rfl
 i210:=by kernel_rfl
 i212:=by kernel_rfl
 i232:=by kernel_rfl
 i233:=by kernel_rfl
 m15:=by kernel_rfl
 m16:=by kernel_rfl
 m17:=by kernel_rfl
 m18:=by kernel_rfl
 m19:=by kernel_rfl
 c0:=by kernel_rfl
 c2:=by kernel_rfl
 c3:=by kernel_rfl
 c4:=by kernel_rfl
 c5:=by kernel_rfl
 c9:=by kernel_rfl
 c20:=by kernel_rfl
 c21:=by kernel_rfl
 c37:=by kernel_rfl
 c46:=by kernel_rfl
 c51:=by kernel_rfl
 c53:=by kernel_rfl
 c75:=by kernel_rfl
 c76:=by kernel_rfl
 c80:=by kernel_rfl
 c85:=by kernel_rfl
 c127:=by kernel_rfl
 c143:=by kernel_rfl
 c145:=by kernel_rfl
 c167:=by kernel_rfl
 c168:=by kernel_rfl
 c171:=by kernel_rfl
 c173:=by kernel_rfl
 c175:=by kernel_rfl
 c210:=by kernel_rfl
 c212:=by kernel_rfl
 c213:=by kernel_rfl
 c232:=by kernel_rfl
 c233:=by kernel_rfl
}
theorem layG:Lays.n169 Tryz.prog rn:={
 mixed:=by kernel_rfl
 f169:=Eq.trans Tryz.func128 (congrArg some (by kernel_rfl))
 t0:=Tryz.underlying0
 a0:=Tryz.isAgg0
 z0:=Tryz.sizeOf0
 v0:=Tryz.zeroValue0
 t3:=Tryz.underlying3
 a3:=Tryz.isAgg3
 z3:=Tryz.sizeOf3
 v3:=Tryz.zeroValue3
 t9:=Tryz.underlying9
 a9:=Tryz.isAgg9
 z9:=Tryz.sizeOf9
 v9:=Tryz.zeroValue9
 t37:=Tryz.underlying172
 a37:=Tryz.isAgg172
 z37:=Tryz.sizeOf172
 v37:=Tryz.zeroValue172
 t70:=Tryz.underlying171
 a70:=Tryz.isAgg171
 z70:=Tryz.sizeOf171
 v70:=Tryz.zeroValue171
 t72:=Tryz.underlying174
 a72:=Tryz.isAgg174
 z72:=Tryz.sizeOf174
 v72:=Tryz.zeroValue174
 t127:=Tryz.underlying213
 a127:=Tryz.isAgg213
 z127:=Tryz.sizeOf213
 v127:=Tryz.zeroValue213
}
theorem layT:Lays.n160 Tryz.prog rn:={
 mixed:=by kernel_rfl
 f119:=Eq.trans Tryz.func188 (congrArg some (by kernel_rfl))
 f120:=Eq.trans Tryz.func164 (congrArg some (by kernel_rfl))
 f137:=Eq.trans Tryz.func146 (congrArg some (by kernel_rfl))
 f151:=Eq.trans Tryz.func153 (congrArg some (by kernel_rfl))
 f152:=Eq.trans Tryz.func163 (congrArg some (by kernel_rfl))
 f160:=Eq.trans Tryz.func107 (congrArg some (by kernel_rfl))
 f197:=Eq.trans Tryz.func152 (congrArg some (by kernel_rfl))
 f217:=Eq.trans Tryz.func156 (congrArg some (by kernel_rfl))
 f224:=Eq.trans Tryz.func166 (congrArg some (by kernel_rfl))
 f225:=Eq.trans Tryz.func165 (congrArg some (by kernel_rfl))
 f227:=Eq.trans Tryz.func131 (congrArg some (by kernel_rfl))
 f228:=Eq.trans Tryz.func151 (congrArg some (by kernel_rfl))
 f231:=Eq.trans Tryz.func129 (congrArg some (by kernel_rfl))
 f232:=Eq.trans Tryz.func130 (congrArg some (by kernel_rfl))
 f233:=Eq.trans Tryz.func132 (congrArg some (by kernel_rfl))
 f234:=Eq.trans Tryz.func133 (congrArg some (by kernel_rfl))
 f235:=Eq.trans Tryz.func134 (congrArg some (by kernel_rfl))
 f236:=Eq.trans Tryz.func135 (congrArg some (by kernel_rfl))
 f260:=Eq.trans Tryz.func162 (congrArg some (by kernel_rfl))
 f266:=Eq.trans Tryz.func168 (congrArg some (by kernel_rfl))
 f271:=Eq.trans Tryz.func154 (congrArg some (by kernel_rfl))
 t0:=Tryz.underlying0
 a0:=Tryz.isAgg0
 z0:=Tryz.sizeOf0
 v0:=Tryz.zeroValue0
 t3:=Tryz.underlying3
 a3:=Tryz.isAgg3
 z3:=Tryz.sizeOf3
 v3:=Tryz.zeroValue3
 t4:=Tryz.underlying4
 a4:=Tryz.isAgg4
 z4:=Tryz.sizeOf4
 v4:=Tryz.zeroValue4
 t5:=Tryz.underlying5
 a5:=Tryz.isAgg5
 z5:=Tryz.sizeOf5
 v5:=Tryz.zeroValue5
 t9:=Tryz.underlying9
 a9:=Tryz.isAgg9
 z9:=Tryz.sizeOf9
 v9:=Tryz.zeroValue9
 t21:=Tryz.underlying21
 a21:=Tryz.isAgg21
 z21:=Tryz.sizeOf21
 v21:=Tryz.zeroValue21
 t46:=Tryz.underlying90
 a46:=Tryz.isAgg90
 z46:=Tryz.sizeOf90
 v46:=Tryz.zeroValue90
 t105:=Tryz.underlying215
 a105:=Tryz.isAgg215
 z105:=Tryz.sizeOf215
 v105:=Tryz.zeroValue215
 t116:=Tryz.underlying187
 a116:=Tryz.isAgg187
 z116:=Tryz.sizeOf187
 t117:=Tryz.underlying188
 a117:=Tryz.isAgg188
 z117:=Tryz.sizeOf188
 v117:=Tryz.zeroValue188
 t119:=Tryz.underlying241
 a119:=Tryz.isAgg241
 z119:=Tryz.sizeOf241
 t124:=Tryz.underlying191
 a124:=Tryz.isAgg191
 z124:=Tryz.sizeOf191
 v124:=Tryz.zeroValue191
 t138:=Tryz.underlying243
 a138:=Tryz.isAgg243
 z138:=Tryz.sizeOf243
 v138:=Tryz.zeroValue243
 t139:=Tryz.underlying244
 a139:=Tryz.isAgg244
 z139:=Tryz.sizeOf244
 v139:=Tryz.zeroValue244
 g3:=by kernel_rfl
 g4:=by kernel_rfl
}
theorem layU:Lays.n145 Tryz.prog rn:={
 mixed:=by kernel_rfl
 f145:=Eq.trans Tryz.func170 (congrArg some (by kernel_rfl))
 f217:=Eq.trans Tryz.func156 (congrArg some (by kernel_rfl))
 f219:=Eq.trans Tryz.func155 (congrArg some (by kernel_rfl))
 f220:=Eq.trans Tryz.func190 (congrArg some (by kernel_rfl))
 f224:=Eq.trans Tryz.func166 (congrArg some (by kernel_rfl))
 f225:=Eq.trans Tryz.func165 (congrArg some (by kernel_rfl))
 f266:=Eq.trans Tryz.func168 (congrArg some (by kernel_rfl))
 f267:=Eq.trans Tryz.func167 (congrArg some (by kernel_rfl))
 f314:=Eq.trans Tryz.func189 (congrArg some (by kernel_rfl))
 t3:=Tryz.underlying3
 a3:=Tryz.isAgg3
 z3:=Tryz.sizeOf3
 v3:=Tryz.zeroValue3
 t4:=Tryz.underlying4
 a4:=Tryz.isAgg4
 z4:=Tryz.sizeOf4
 v4:=Tryz.zeroValue4
 t5:=Tryz.underlying5
 a5:=Tryz.isAgg5
 z5:=Tryz.sizeOf5
 v5:=Tryz.zeroValue5
 t9:=Tryz.underlying9
 a9:=Tryz.isAgg9
 z9:=Tryz.sizeOf9
 v9:=Tryz.zeroValue9
 t46:=Tryz.underlying90
 a46:=Tryz.isAgg90
 z46:=Tryz.sizeOf90
 v46:=Tryz.zeroValue90
 t51:=Tryz.underlying246
 a51:=Tryz.isAgg246
 z51:=Tryz.sizeOf246
 v51:=Tryz.zeroValue246
 t59:=Tryz.underlying230
 a59:=Tryz.isAgg230
 z59:=Tryz.sizeOf230
 v59:=Tryz.zeroValue230
 t146:=Tryz.underlying247
 a146:=Tryz.isAgg247
 z146:=Tryz.sizeOf247
 v146:=Tryz.zeroValue247
 g1:=by kernel_rfl
}
theorem layN:Lays.n138 Tryz.prog rn:={
 mixed:=by kernel_rfl
 f138:=Eq.trans Tryz.func121 (congrArg some (by kernel_rfl))
 f143:=Eq.trans Tryz.func142 (congrArg some (by kernel_rfl))
 f195:=Eq.trans Tryz.func140 (congrArg some (by kernel_rfl))
 f217:=Eq.trans Tryz.func156 (congrArg some (by kernel_rfl))
 f218:=Eq.trans Tryz.func141 (congrArg some (by kernel_rfl))
 f219:=Eq.trans Tryz.func155 (congrArg some (by kernel_rfl))
 f224:=Eq.trans Tryz.func166 (congrArg some (by kernel_rfl))
 f225:=Eq.trans Tryz.func165 (congrArg some (by kernel_rfl))
 f266:=Eq.trans Tryz.func168 (congrArg some (by kernel_rfl))
 f267:=Eq.trans Tryz.func167 (congrArg some (by kernel_rfl))
 f314:=Eq.trans Tryz.func189 (congrArg some (by kernel_rfl))
 t0:=Tryz.underlying0
 a0:=Tryz.isAgg0
 z0:=Tryz.sizeOf0
 v0:=Tryz.zeroValue0
 t3:=Tryz.underlying3
 a3:=Tryz.isAgg3
 z3:=Tryz.sizeOf3
 v3:=Tryz.zeroValue3
 t4:=Tryz.underlying4
 a4:=Tryz.isAgg4
 z4:=Tryz.sizeOf4
 v4:=Tryz.zeroValue4
 t5:=Tryz.underlying5
 a5:=Tryz.isAgg5
 z5:=Tryz.sizeOf5
 v5:=Tryz.zeroValue5
 t9:=Tryz.underlying9
 a9:=Tryz.isAgg9
 z9:=Tryz.sizeOf9
 v9:=Tryz.zeroValue9
 t46:=Tryz.underlying90
 a46:=Tryz.isAgg90
 z46:=Tryz.sizeOf90
 v46:=Tryz.zeroValue90
 t51:=Tryz.underlying246
 a51:=Tryz.isAgg246
 z51:=Tryz.sizeOf246
 v51:=Tryz.zeroValue246
 t146:=Tryz.underlying247
 a146:=Tryz.isAgg247
 z146:=Tryz.sizeOf247
 v146:=Tryz.zeroValue247
 g1:=by kernel_rfl
}
theorem layB:Lays.n217 Tryz.prog rn:={
 mixed:=by kernel_rfl
 f217:=Eq.trans Tryz.func156 (congrArg some (by kernel_rfl))
 f266:=Eq.trans Tryz.func168 (congrArg some (by kernel_rfl))
 t3:=Tryz.underlying3
 a3:=Tryz.isAgg3
 z3:=Tryz.sizeOf3
 v3:=Tryz.zeroValue3
 t5:=Tryz.underlying5
 a5:=Tryz.isAgg5
 z5:=Tryz.sizeOf5
 v5:=Tryz.zeroValue5
 t9:=Tryz.underlying9
 a9:=Tryz.isAgg9
 z9:=Tryz.sizeOf9
 v9:=Tryz.zeroValue9
}
theorem layC:Lays.n240 Tryz.prog rn:={
 mixed:=by kernel_rfl
 f240:=Eq.trans Tryz.func150 (congrArg some (by kernel_rfl))
 f276:=Eq.trans Tryz.func161 (congrArg some (by kernel_rfl))
 t0:=Tryz.underlying0
 a0:=Tryz.isAgg0
 z0:=Tryz.sizeOf0
 v0:=Tryz.zeroValue0
 t4:=Tryz.underlying4
 a4:=Tryz.isAgg4
 z4:=Tryz.sizeOf4
 v4:=Tryz.zeroValue4
 t9:=Tryz.underlying9
 a9:=Tryz.isAgg9
 z9:=Tryz.sizeOf9
 v9:=Tryz.zeroValue9
 t20:=Tryz.underlying20
 a20:=Tryz.isAgg20
 z20:=Tryz.sizeOf20
 v20:=Tryz.zeroValue20
 t70:=Tryz.underlying171
 a70:=Tryz.isAgg171
 z70:=Tryz.sizeOf171
 v70:=Tryz.zeroValue171
 t72:=Tryz.underlying174
 a72:=Tryz.isAgg174
 z72:=Tryz.sizeOf174
 v72:=Tryz.zeroValue174
 t164:=Tryz.underlying226
 a164:=Tryz.isAgg226
 z164:=Tryz.sizeOf226
 v164:=Tryz.zeroValue226
}
theorem tab_of {P:Program}{w:World}{name:String}{k:IntKind}{zs:List Int}{g:Nat} (hg:P.globalNamed name=some g) (hr:RowSz w g zs.length)
  (hc:∀ j v,(zs.map fun z=>Value.int k z)[j]?=some v→w.cell? ⟨g,j,none⟩=some v):Lib.TabIs P w name k zs:=by
 obtain ⟨cs,T,fr,h1,h2⟩:=hr
 unfold Lib.TabIs World.var?
 simp only[hg,Option.bind_some,h1]
 congr 1
 apply Array.ext'
 apply List.ext_getElem?
 intro j
 by_cases hj:j<zs.length
 ·have h3:=hc j (.int k zs[j]) (by simp[hj])
  rw[cell_of_row w g j cs T fr h1]at h3
  simp only[Array.getElem?_toList,h3,List.toList_toArray,List.getElem?_map,List.getElem?_eq_getElem hj,Option.map_some]
 ·rw[List.getElem?_eq_none (by simp;omega),List.getElem?_eq_none (by simp;omega)]
def decF:Nat→Nat→List UInt8
 |0,_=>[]
 |f+1,u=>bif Nat.blt u 10 then [UInt8.ofNat (48+u)] else decF f (u / 10)++[UInt8.ofNat (48+u % 10)]
theorem decF_eq:∀ (f u:Nat),u<10 ^ f→0<f→decF f u=Lib.decDigits u
 |f+1,u,h,_=>by
  rw[Lib.decDigits]
  unfold decF
  by_cases hu:u<10
  ·rw[dif_pos hu,show Nat.blt u 10=true by simpa[Nat.blt_eq] using hu];rfl
  ·rw[dif_neg hu,show Nat.blt u 10=false by
    cases hb:Nat.blt u 10 with
    |false=>rfl
    |true=>exact absurd (by simpa[Nat.blt_eq] using hb) hu]
   have hf:0<f:=by
    rcases Nat.eq_zero_or_pos f with rfl|h0
    ·simp at h;omega
    ·exact h0
   show decF f (u / 10)++_=_
   rw[decF_eq f (u / 10) (by rw[Nat.pow_succ]at h;omega) hf]
def itoaL (n:Int):List UInt8:=bif decide (n<0) then 45::decF 20 n.natAbs else decF 20 n.toNat
def okI (n:Int):Bool:=decide (-9223372036854775808≤n)&&decide (n≤9223372036854775807)
theorem itoaL_eq {n:Int} (h:okI n=true):itoaL n=Lib.itoa n:=by
 simp only[okI,Bool.and_eq_true,decide_eq_true_eq]at h
 unfold itoaL Lib.itoa
 by_cases hn:n<0
 ·rw[if_pos hn,decide_eq_true hn,cond_true,decF_eq 20 _ (by omega) (by decide)]
 ·rw[if_neg hn,decide_eq_false hn,cond_false,decF_eq 20 _ (by omega) (by decide)]
def itoaV (n:Int):ByteArray:=⟨(itoaL n).toArray⟩
theorem below_tape {B:Nat}{w:World} (hB:B≤w.heap.size) (k:Nat) (os:Array Obj):Below B w (Go.Sort.grow (w.drewN k) os) :=
 ⟨rfl,rfl,rfl,by simp[Go.Sort.grow,World.drewN],fun j hj=>by
  have h:j<w.heap.size:=Nat.lt_of_lt_of_le hj hB
  simp[Go.Sort.grow,World.drewN,Array.getElem?_append_left h]⟩
theorem repL_ints {κ:Nat→Nat→Option Value}{γ:Nat→Nat}{sv:Nat→Value}{k:IntKind}:∀ {zs:List Int}{u:List Value},RepL κ γ sv (zs.map (D.int k)) u→u=zs.map (Value.int k)
 |[],_,h=>by cases h;rfl
 |z::zs,_,h=>by
  cases h with
  |cons _ v _ vs h1 h2=>cases h1;rw[repL_ints h2];rfl
theorem c126 (n:Int) (h:okI n=true):Contract iseat.toSeat 126 [.int .i64 n] (.str (itoaV n)):=by
 have h':=h
 simp only[okI,Bool.and_eq_true,decide_eq_true_eq]at h
 refine ⟨PureL.cons (.int _ _) PureL.nil,.str _,⟨Tryz.f126,_,Tryz.func126,rfl,by kernel_rfl⟩,fun w κ args hf hg hr=>?_⟩
 cases hr with
 |cons _ v1 _ vs h1 h2 =>
 cases h1
 cases h2
 have htab:=fun hcon=>(Any.strconv_Itoa layI n h.1 h.2 w hcon)
 have ht:=htab (tab_of (g:=4) (by kernel_rfl) (hg.2 4 20 rfl) (fun j v hj=>by
  obtain ⟨_,u,e1,e2⟩:=hg.1 4 _ rfl
  have e1:RepL κ γ0 sv0 (Lib.pow10Tab.map (D.int .u64)) u:=e1
  refine hf _ _ _ (e2 j v ?_)
  rw[repL_ints e1];exact hj))
 exact ht.mono (fun e w' ⟨h1,k,os,h2⟩=>⟨_,h1,by show Rep _ _ _ (.str ⟨(itoaL n).toArray⟩) _;rw[itoaL_eq h'];exact .str _,h2 ▸ below_tape (Nat.le_refl _) k os⟩)
def atoiV (s:ByteArray):Int×Bool:=match Lib.atoiAll s.data.toList with|.ok v=>(v,true)|.range=>(Lib.atoiSat s.data.toList,false)|_=>(0,false)
def okA (s:ByteArray):Bool:=decide (s.size≤281474976710656)
theorem er_glob {g:Nat}{κ:Nat→Nat→Option Value}{w:World} (hf:Fits κ w) (hg:GlobOk iseat.toSeat κ w) (h:iseat.toSeat.glob g=some [.lk .nn]):∃ t p,w.cell? ⟨g,0,none⟩=some (.iface t p):=by
 obtain ⟨_,u,e1,e2⟩:=hg.1 g _ h
 cases e1 with
 |cons _ v _ vs r1 r2 =>
  cases r1 with
  |lk _ _ e =>
   obtain ⟨t,p,rfl⟩:=e
   exact⟨t,p,hf _ _ _ (e2 0 _ rfl)⟩
theorem c219 (s:ByteArray) (h:okA s=true):Contract iseat.toSeat 219 [.str s] (.tup [.int .i64 (atoiV s).1,.lk (ofB (atoiV s).2)]):=by
 have h:=of_decide_eq_true h
 refine ⟨PureL.cons (.str _) PureL.nil,.tup _ (PureL.cons (.int _ _) (PureL.cons (.lk _) PureL.nil)),⟨Tryz.f219,_,Tryz.func219,rfl,by kernel_rfl⟩,fun w κ args hf hg hr=>?_⟩
 cases hr with
 |cons _ v1 _ vs h1 h2 =>
 cases h1
 cases h2
 obtain ⟨t1,p1,g1⟩:=er_glob hf hg (g:=9) rfl
 obtain ⟨t2,p2,g2⟩:=er_glob hf hg (g:=10) rfl
 cases ha:Lib.atoiAll s.data.toList
 case ok v =>
  refine (Any.strconv_Atoi_ok layA s (by omega) v ha w).mono (fun e w' ⟨h1,h2⟩=>⟨_,h1,?_,?_⟩)
  ·simp only[atoiV,ha];exact .tup _ [_,_] (.cons _ _ _ _ (.int _ _) (.cons _ _ _ _ (.lk _ _ rfl) .nil))
  ·rcases h2 with rfl|⟨t,rfl⟩
   ·exact Below.refl _ _
   ·exact Lib.bytesWorld_below _ _ _
 case range =>
  refine (Any.strconv_Atoi_range layA s h ha _ w g2 (.inr ⟨_,_,rfl⟩)).mono (fun e w' ⟨N,h1,_,_,h2⟩=>⟨_,h1,?_,h2⟩)
  simp only[atoiV,ha];exact .tup _ [_,_] (.cons _ _ _ _ (.int _ _) (.cons _ _ _ _ (.lk _ _ ⟨_,_,rfl⟩) .nil))
 ·refine (Any.strconv_Atoi_syntax layA s h ha _ w g1 (.inr ⟨_,_,rfl⟩)).mono (fun e w' ⟨N,h1,_,_,h2⟩=>⟨_,h1,?_,h2⟩)
  simp only[atoiV,ha];exact .tup _ [_,_] (.cons _ _ _ _ (.int _ _) (.cons _ _ _ _ (.lk _ _ ⟨_,_,rfl⟩) .nil))
def bldBK:List BK:=[.z 174 0 1,.a 5 (.int .u8)]
theorem x72:Builder.X72 Tryz.prog rn:={ sizeBuilder:=by kernel_rfl,liesBuilder:=by kernel_rfl }
theorem bx2 {P:Nat→Prop} (h0:P 0) (h1:P 1):∀ i,i<2→P i:=fun i hi=>by
 rcases i with _|_|i
 ·exact h0
 ·exact h1
 ·omega
theorem bld_at {κ:Nat→Nat→Option Value}{sv:Nat→Value}{w:World}{l:List Int}
  (hown:∀ i,i<2→Owns 0 κ (gM (nmO (encBK bldBK (l,()))) 2) sv w (nmO (encBK bldBK (l,())) i) (owF (encBK bldBK (l,())) i)) :
  ∃ b v0,sv 0=.pointer (some ⟨b,0,none⟩)∧w.heap[b]?=some (.cells #[v0,sv (XB+1)] 174 (0,0))∧(v0=.pointer none∨v0=.pointer (some ⟨b,0,none⟩)) ∧
   ownsAt w 0 5 1 (sv (XB+1)) l.length (l.map (Value.int .u8)):=by
 obtain ⟨b,T,cs,e1,e2,e3,e4⟩:=hown 0 (by omega)
 obtain ⟨xs,o1,o2,o3,o4⟩:=hown 1 (by omega)
 have hg0:gM (nmO (encBK bldBK (l,()))) 2 0=1:=gM_lt (q:=nmO (encBK bldBK (l,()))) (n:=2) (i:=0) (by omega)
 have hg1:gM (nmO (encBK bldBK (l,()))) 2 (XB+1)=1:=gM_lt (q:=nmO (encBK bldBK (l,()))) (n:=2) (i:=1) (by omega)
 have e3:RepL κ (gM (nmO (encBK bldBK (l,()))) 2) sv [.mb 0 1 174,.os (XB+1) 1] cs:=e3
 have e1:sv 0=.pointer (some ⟨b,0,none⟩):=e1
 have hT:T=174:=e4.2 174 rfl
 subst hT
 cases e3 with
 |cons _ v0 _ vs r1 r2 =>
 cases r2 with
 |cons _ v1 _ vs r2 r3 =>
 cases r3
 have hv1:v1=sv (XB+1):=by
  cases r2 with
  |os _ _ _ _ hh _=>exact hh hg1.symm
 subst hv1
 refine ⟨b,v0,e1,e2,?_,?_⟩
 ·cases r1 with
  |mbn=>exact .inl rfl
  |mb _ _ _ _ _ hh _=>exact .inr ((hh hg0.symm).trans e1)
 ·have hx:xs=l.map (Value.int .u8):=by
   have hl:xs.length=l.length:=by
    have h:=o1.1
    have h:xs.length=l.length * 1:=h
    omega
   apply List.ext_getElem?
   intro i
   by_cases hi:i<l.length
   ·have h4:RepL κ (gM (nmO (encBK bldBK (l,()))) 2) sv [.int .u8 (l.getD i 0)] ((xs.drop (i * 1)).take 1):=o4 i hi
    have h5:(xs.drop (i * 1)).take 1=[xs[i]'(by omega)]:=by
     rw[Nat.mul_one,List.drop_eq_getElem_cons (by omega)];rfl
    rw[h5]at h4
    cases h4 with
    |cons _ _ _ _ r _ =>
     generalize hq:xs[i]'(by omega)=q at r
     cases r
     rw[List.getElem?_eq_getElem (by omega),hq]
     simp[List.getD,hi]
   ·rw[List.getElem?_eq_none (by omega),List.getElem?_eq_none (by simp;omega)]
  subst hx
  exact o1
theorem c150 (l:List Int):ContractM iseat.toSeat 150 2 (nmO (encBK bldBK (l,()))) (owF (encBK bldBK (l,()))) (owF (encBK bldBK (l,()))) [.bx 0 1 0] (.tup []):=by
 refine ⟨.pure _ (.tup _ PureL.nil),bx2 (.box _ _) (.arr _ _ _ _ _ _ _ _),⟨Tryz.f150,_,Tryz.func150,rfl,by kernel_rfl⟩,fun w κ sv args hinj hf hkb hg hown hr=>?_⟩
 obtain ⟨b,v0,e1,e2,e3,e4⟩:=bld_at hown
 have hg0:gM (nmO (encBK bldBK (l,()))) 2 0=1:=gM_lt (q:=nmO (encBK bldBK (l,()))) (n:=2) (i:=0) (by omega)
 have hb:b<w.heap.size:=(Array.getElem?_eq_some_iff.1 e2).1
 cases hr with
 |cons _ v1 _ vs h1 h2 =>
 cases h2
 have hv1:v1=.pointer (some ⟨b,0,none⟩):=by
  cases h1 with
  |bx _ _ _ _ _ hh _ =>
   obtain ⟨b',h3,h4⟩:=hh hg0.symm
   rw[e1]at h3;cases h3;exact h4
 subst hv1
 have hblk:blk (owF (encBK bldBK (l,())) 0) (sv (nmO (encBK bldBK (l,())) 0))=some b:=by
  show blk (.box _) (sv 0)=_
  rw[e1];rfl
 rcases e3 with rfl|rfl
 ·refine (Any.Builder_copyCheck_fresh layC x72 b w (by simp[World.cell?,e2]) (by simp[World.shape?,e2];rfl) (by simp[World.frozen?,e2])).mono ?_
  rintro e w' ⟨rfl,rfl⟩
  have hb2:(w.setCell ⟨b,0,none⟩ (.pointer (some ⟨b,0,none⟩))).heap[b]?=some (.cells #[.pointer (some ⟨b,0,none⟩),sv (XB+1)] 174 (0,0)):=by
   simp[World.setCell,Array.getElem?_modify,e2]
  have hother:∀ k,k≠b→(w.setCell ⟨b,0,none⟩ (.pointer (some ⟨b,0,none⟩))).heap[k]?=w.heap[k]?:=fun k hk=>Below.heap_setCell _ _ _ _ hk
  have hκ:Le κ (growK κ w (w.setCell ⟨b,0,none⟩ (.pointer (some ⟨b,0,none⟩)))) (gM (nmO (encBK bldBK (l,()))) 2) (gM (nmO (encBK bldBK (l,()))) 2) sv sv:=le_growK hf _
  refine ⟨_,rfl,.tup [] [] .nil,bx2 ?_ ?_,⟨rfl,rfl,rfl,by simp[World.setCell],fun k hk hne=>hother k (fun e=>hne 0 (by omega) (e ▸ hblk))⟩⟩
  ·refine ⟨b,174,[.pointer (some ⟨b,0,none⟩),sv (XB+1)],e1,hb2,.cons _ _ _ _ (.mb 0 1 174 _ (Nat.le_of_eq hg0.symm) (fun _=>e1.symm) rfl) (.cons _ _ _ _ ?_ .nil),rfl,fun T0 e=>by cases e;rfl⟩
   obtain ⟨b3,T3,cs3,q1,q2,q3,q4⟩:=hown 0 (by omega)
   have q1:sv 0=.pointer (some ⟨b3,0,none⟩):=q1
   rw[e1]at q1;cases q1
   rw[e2]at q2
   simp only[Option.some.injEq,Obj.cells.injEq]at q2
   have q5:cs3=[.pointer none,sv (XB+1)]:=by
    have:=congrArg Array.toList q2.1
    simpa using this.symm
   subst q5
   cases q3 with
   |cons _ _ _ _ r1 r2=>cases r2 with|cons _ _ _ _ r2 r3=>exact r2.mono hκ
  ·refine owns_mono hκ rfl (fun g hgb=>hother g (fun e=>?_)) (hown 1 (by omega))
   have:=hinj 0 1 b (by omega) (by omega) hblk (e ▸ hgb)
   cases this
 ·refine (Any.Builder_copyCheck_used layC x72 b w (by simp[World.cell?,e2])).mono ?_
  rintro e w' ⟨rfl,rfl⟩
  exact⟨_,rfl,.tup [] [] .nil,fun i hi=>owns_mono (le_growK hf w') rfl (fun _ _=>rfl) (hown i hi),FrameM.refl _ _ _⟩
section
variable {P:Program}{ρ:Ren}
theorem run_unsafeString_off (w:World) (pt it ty e:TypeId) (hp:P.underlying pt=some (.pointer e)) (hc:P.cellsOf e=1) (g off cells:Nat) (hsh:w.shape? g=some (e,cells)) (l:List UInt8) (h0:l≠[]) (hn:off+l.length≤cells) (h63:l.length≤9223372036854775807)
  (hcell:∀ j x,l[j]?=some x→w.cell? ((⟨g,off,none⟩:Addr).add j)=some (.int .u8 x.toNat)) :
  (Builtin.unsafeString_ #[pt,it] ty #[.pointer (some ⟨g,off,none⟩),.int .i64 l.length]).run P w=.ok (.string ⟨l.toArray⟩) (w.freeze ⟨g,off,none⟩ l.length):=by
 have hl:l.length≠0:=by simpa using h0
 have hlb:=Lib.run_loadBytes (P:=P) w l ⟨g,off,none⟩ .empty hcell
 have hlies:liesAt P P.depth e (cells / P.cellsOf e) off e l.length=true:=by
  have hd:P.depth=(2 * (P.types.size+Made.depth)+1)+1:=rfl
  rw[hd]
  simp only[liesAt,Bool.or_eq_true]
  left
  rw[hd]
  simp[rowAt,hc,hn,sameLayout]
  try omega
 have h63':¬ (9223372036854775807:Int)<(l.length:Int):=by omega
 have hdef:Builtin.unsafeString_ #[pt,it] ty #[.pointer (some ⟨g,off,none⟩),.int .i64 l.length] =
   (do
    let n ← asInt (.int .i64 l.length)
    if n < 0 then runtimePanic (.error "unsafe.String: len out of range")
    if n > IntKind.i64.max then unsupported (.unsafePointer "String: a length above the largest int")
    if n=0 then pure (.string .empty)
    else if ← variablesAt ⟨g,off,none⟩ (← elemOf pt) n.toNat then do
     let s ← loadBytes ⟨g,off,none⟩ .empty n.toNat
     freeze ⟨g,off,none⟩ n.toNat
     pure (.string s)
    else unsupported (.unsafePointer "String: not so many bytes at ptr")) := rfl
 rw[hdef]
 have hmax:IntKind.i64.max=9223372036854775807:=rfl
 have hneg:¬ (l.length:Int)<0:=by omega
 simp[asInt,asIntOf,hmax,h63',hneg,hl,variablesAt,hsh,elemOf,run_underlying hp,hlies,hlb]
set_option maxHeartbeats 2000000 in
theorem str_run (L:Lays.n169 P ρ) (X:Builder.Extra P ρ) (b:Nat) (a:Option Addr) (n cap:Nat) (q:Value) (w w1 w2:World) (s:ByteArray) (c1:w.drew.cell? ⟨b,1,none⟩=some (.slice a n cap)) (c2:w1.cell? ⟨b,1,none⟩=some (.slice a n cap))
  (hSD:(Builtin.unsafeSliceData_ #[(ρ.t 37)] (ρ.t 127) #[.slice a n cap]).run P w.drew=.ok q w1) (hUS:(Builtin.unsafeString_ #[(ρ.t 127),(ρ.t 3)] (ρ.t 9) #[q,.int .i64 n]).run P w1=.ok (.string s) w2) :
  Calls P (ρ.f 169) #[.pointer (some ⟨b,0,none⟩)] w fun e w'=>e=.returned (.string s)∧w'=w2:=by
 have mixed:=L.mixed
 have t72:=L.t72;have a72:=L.a72;have z72:=L.z72;have v72:=L.v72;have u72:=run_underlying L.t72
 have t70:=L.t70;have a70:=L.a70;have z70:=L.z70;have v70:=L.v70;have u70:=run_underlying L.t70
 have t37:=L.t37;have a37:=L.a37;have z37:=L.z37;have v37:=L.v37;have u37:=run_underlying L.t37
 have t127:=L.t127;have a127:=L.a127;have z127:=L.z127;have v127:=L.v127;have u127:=run_underlying L.t127
 have t3:=L.t3;have a3:=L.a3;have z3:=L.z3;have v3:=L.v3;have u3:=run_underlying L.t3
 have t9:=L.t9;have a9:=L.a9;have z9:=L.z9;have v9:=L.v9;have u9:=run_underlying L.t9
 have t5:=X.t5;have a5:=X.a5;have z5:=X.z5;have v5:=X.v5;have u5:=run_underlying X.t5
 go_enter L.f169,Body.n169_ntmps ρ
 go_wp2
 go_region_o
 all_goals (go_wp2;go_ret;exact⟨rfl,rfl⟩)
theorem str_us (L:Lays.n169 P ρ) (X:Builder.Extra P ρ) (w:World) (g off cap n:Nat) (cur:Array Value) (l:List UInt8) (hl:l.length=n) (p3:w.heap[g]?=some (.cells cur (ρ.t 5) (0,0))) (p4:n≤cap) (p5:cap≤maxLen) (p6:off+cap≤cur.size) (hn:n≠0)
  (hc:∀ j x,l[j]?=some x→w.cell? ((⟨g,off,none⟩:Addr).add j)=some (.int .u8 x.toNat)) :
  (Builtin.unsafeString_ #[(ρ.t 127),(ρ.t 3)] (ρ.t 9) #[.pointer (some ⟨g,off,none⟩),.int .i64 n]).run P w.drew=.ok (.string ⟨l.toArray⟩) (w.drew.freeze ⟨g,off,none⟩ n):=by
 subst hl
 have hsh:w.drew.shape? g=some (ρ.t 5,cur.size):=by
  have p3':w.drew.heap[g]?=some (.cells cur (ρ.t 5) (0,0)):=p3
  simp[World.shape?,p3']
 refine run_unsafeString_off w.drew _ _ _ (ρ.t 5) L.t127 X.cellsByte g off cur.size hsh l (fun e=>hn (by rw[e];rfl)) (Nat.le_trans (Nat.add_le_add_left p4 _) p6) ?_ hc
 have:(maxLen:Nat)≤9223372036854775807:=by decide
 exact Nat.le_trans p4 (Nat.le_trans p5 this)
end
theorem xtra:Builder.Extra Tryz.prog rn:={ x72 with t5:=Tryz.underlying5,a5:=Tryz.isAgg5,z5:=Tryz.sizeOf5,v5:=Tryz.zeroValue5,infoByte:=by kernel_rfl,cellsByte:=by kernel_rfl,sizeByte:=by kernel_rfl,neB5:=by decide }
def okBy (l:List Int):Bool:=l.all fun n=>decide (0≤n)&&decide (n<256)
def byL (l:List Int):List UInt8:=l.map fun n=>UInt8.ofNat n.toNat
def bytesV (l:List Int):ByteArray:=⟨(byL l).toArray⟩
theorem byL_eq {l:List Int} (h:okBy l=true):l.map (Value.int .u8)=(byL l).map fun x=>Value.int .u8 (x.toNat:Int):=by
 unfold byL
 rw[List.map_map]
 refine List.map_congr_left fun n hn=>?_
 have h1:=List.all_eq_true.1 h n hn
 simp only[Bool.and_eq_true,decide_eq_true_eq]at h1
 show Value.int .u8 n=Value.int .u8 (((UInt8.ofNat n.toNat).toNat:Nat):Int)
 congr 1
 rw[UInt8.toNat_ofNat',Nat.mod_eq_of_lt (by omega)]
 omega
def goneF (F:Nat→Ab.Own):Nat→Ab.Own:=upO [1] [.none] F
theorem str_fin {w w':World}{κ:Nat→Nat→Option Value}{sv:Nat→Value}{l:List Int}{b:Nat} (hf:Fits κ w)
  (hown:∀ i,i<2→Owns 0 κ (gM (nmO (encBK bldBK (l,()))) 2) sv w (nmO (encBK bldBK (l,())) i) (owF (encBK bldBK (l,())) i))
  (hblk:blk (owF (encBK bldBK (l,())) 0) (sv (nmO (encBK bldBK (l,())) 0))=some b) (hne:blk (owF (encBK bldBK (l,())) 1) (sv (XB+1))≠some b)
  (h1:w'.os=w.os) (h2:w'.tape=w.tape) (h3:w'.output=w.output) (h4:w.heap.size≤w'.heap.size) (h5:∀ k,k<w.heap.size→blk (owF (encBK bldBK (l,())) 1) (sv (XB+1))≠some k→w'.heap[k]?=w.heap[k]?) :
  (∀ i,i<2→Owns 0 (growK κ w w') (gM (nmO (encBK bldBK (l,()))) 2) sv w' (nmO (encBK bldBK (l,())) i) (goneF (owF (encBK bldBK (l,()))) i)) ∧
   FrameM 2 (fun i=>blk (owF (encBK bldBK (l,())) i) (sv (nmO (encBK bldBK (l,())) i))) w w':=by
 refine ⟨bx2 ?_ trivial,⟨h1,h2,h3,h4,fun k hk hn=>h5 k hk (hn 1 (by omega))⟩⟩
 refine owns_mono (le_growK hf w') rfl (fun g hg=>?_) (hown 0 (by omega))
 have hg:blk (owF (encBK bldBK (l,())) 0) (sv (nmO (encBK bldBK (l,())) 0))=some g:=hg
 rw[hblk]at hg
 cases hg
 exact h5 b (owns_lt (hown 0 (by omega)) hblk) hne
theorem drew_alloc (w:World) (o:Obj):w.heap.size≤(w.drew.alloc o).heap.size∧(w.drew.alloc o).os=w.os∧(w.drew.alloc o).tape=w.tape∧(w.drew.alloc o).output=w.output∧∀ k,k<w.heap.size→(w.drew.alloc o).heap[k]?=w.heap[k]? :=
 ⟨by show w.drew.heap.size≤_;simp,rfl,rfl,rfl,fun k hk=>Lib.alloc_old w.drew _ k hk⟩
theorem freeze_other (w:World) (p:Addr) (n k:Nat) (hk:k≠p.block):(w.freeze p n).heap[k]?=w.heap[k]?:=by
 unfold World.freeze
 split
 ·rfl
 ·simp only[Array.getElem?_modify];rw[if_neg (by omega)]
theorem freeze_size (w:World) (p:Addr) (n:Nat):(w.freeze p n).heap.size=w.heap.size∧(w.freeze p n).os=w.os∧(w.freeze p n).tape=w.tape∧(w.freeze p n).output=w.output:=by
 unfold World.freeze
 split
 ·exact⟨rfl,rfl,rfl,rfl⟩
 ·exact⟨by simp,rfl,rfl,rfl⟩
theorem c128 (l:List Int) (h:okBy l=true):ContractM iseat.toSeat 128 2 (nmO (encBK bldBK (l,()))) (owF (encBK bldBK (l,()))) (goneF (owF (encBK bldBK (l,())))) [.bx 0 1 0] (.str (bytesV l)):=by
 refine ⟨.pure _ (.str _),bx2 (.box _ _) (.gone _),⟨Tryz.f128,_,Tryz.func128,rfl,by kernel_rfl⟩,fun w κ sv args hinj hf hkb hg hown hr=>?_⟩
 obtain ⟨b,v0,e1,e2,e3,e4⟩:=bld_at hown
 have hg0:gM (nmO (encBK bldBK (l,()))) 2 0=1:=gM_lt (q:=nmO (encBK bldBK (l,()))) (n:=2) (i:=0) (by omega)
 have hb:b<w.heap.size:=(Array.getElem?_eq_some_iff.1 e2).1
 cases hr with
 |cons _ v1 _ vs q1 q2 =>
 cases q2
 have hv1:v1=.pointer (some ⟨b,0,none⟩):=by
  cases q1 with
  |bx _ _ _ _ _ hh _ =>
   obtain ⟨b',h3,h4⟩:=hh hg0.symm
   rw[e1]at h3;cases h3;exact h4
 subst hv1
 have hblk:blk (owF (encBK bldBK (l,())) 0) (sv (nmO (encBK bldBK (l,())) 0))=some b:=by
  show blk (.box _) (sv 0)=_
  rw[e1];rfl
 have hne:blk (owF (encBK bldBK (l,())) 1) (sv (XB+1))≠some b:=fun e=>by
  have:=hinj 0 1 b (by omega) (by omega) hblk e
  cases this
 generalize hv:sv (XB+1)=v at e2 e4 hne
 rw[← hv]at hne
 have c1:∀ W:World,W.heap[b]?=w.heap[b]?→W.cell? ⟨b,1,none⟩=some v:=fun W hW=>by simp[World.cell?,hW,e2]
 rcases e4.2 with ⟨rfl,h0⟩|⟨g,off,cap,cur,rfl,_,p3,p4,p5,p6,p7⟩
 ·have hl:l=[]:=List.eq_nil_of_length_eq_zero h0
  subst hl
  refine (str_run layG xtra b none 0 0 (.pointer none) w w.drew w.drew ⟨#[]⟩ (c1 _ rfl) (c1 _ rfl) rfl (Any.unsafeString_none layG xtra _ _)).mono ?_
  rintro e w' ⟨rfl,rfl⟩
  obtain ⟨r1,r2⟩:=str_fin (w:=w) (w':=w.drew) hf hown hblk hne rfl rfl rfl (Nat.le_refl _) (fun _ _ _=>rfl)
  exact⟨_,rfl,.str _,r1,r2⟩
 ·have hbg:blk (owF (encBK bldBK (l,())) 1) (sv (XB+1))=some g:=by rw[hv];rfl
  have hbne:b≠g:=fun e=>hne (e ▸ hbg)
  have hgl:g<w.heap.size:=(Array.getElem?_eq_some_iff.1 p3).1
  by_cases hn:l.length=0
  ·have hl:l=[]:=List.eq_nil_of_length_eq_zero hn
   subst hl
   by_cases hc:cap=0
   ·subst hc
    have hsh:w.drew.shape? g=some (5,cur.size):=by
     have p3':w.drew.heap[g]?=some (.cells cur 5 (0,0)):=p3
     simp[World.shape?,p3']
    refine (str_run layG xtra b (some ⟨g,off,none⟩) 0 0 (.pointer (some ⟨w.drew.heap.size,0,none⟩)) w (w.drew.alloc (.view ⟨g,off,none⟩ 5)) _ ⟨#[]⟩ (c1 _ rfl) (c1 _ (Lib.alloc_old w.drew _ b hb)) (Lib.run_unsafeSliceData_zero w.drew _ _ 5 layG.t127 ⟨g,off,none⟩ 0 (5,cur.size) hsh) (Any.unsafeString_none layG xtra _ _)).mono ?_
    rintro e w' ⟨rfl,rfl⟩
    obtain ⟨f1,f2,f3,f4,f5⟩:=drew_alloc w (.view ⟨g,off,none⟩ 5)
    obtain ⟨r1,r2⟩:=str_fin (w:=w) (w':=w.drew.alloc (.view ⟨g,off,none⟩ 5)) hf hown hblk hne f2 f3 f4 f1 (fun k hk _=>f5 k hk)
    exact⟨_,rfl,.str _,r1,r2⟩
   ·refine (str_run layG xtra b (some ⟨g,off,none⟩) 0 cap (.pointer (some ⟨g,off,none⟩)) w w.drew w.drew ⟨#[]⟩ (c1 _ rfl) (c1 _ rfl) (Lib.run_unsafeSliceData_row _ _ _ _ _ _ hc) (Any.unsafeString_none layG xtra _ _)).mono ?_
    rintro e w' ⟨rfl,rfl⟩
    obtain ⟨r1,r2⟩:=str_fin (w:=w) (w':=w.drew) hf hown hblk hne rfl rfl rfl (Nat.le_refl _) (fun _ _ _=>rfl)
    exact⟨_,rfl,.str _,r1,r2⟩
  ·have hll:(byL l).length=l.length:=by simp[byL]
   have hUS:=str_us layG xtra w g off cap l.length cur (byL l) hll p3 p4 p5 (by rw[Nat.mul_one]at p6;exact p6) hn (fun j x hx=>by
    have hown1:ownsAt w 0 5 1 (.slice (some ⟨g,off,none⟩) l.length cap) l.length (l.map (Value.int .u8)):=e4
    have:=hown1.cells j (.int .u8 x.toNat) (by rw[byL_eq h];simp[hx])
    exact this)
   refine (str_run layG xtra b (some ⟨g,off,none⟩) l.length cap (.pointer (some ⟨g,off,none⟩)) w w.drew _ ⟨(byL l).toArray⟩ (c1 _ rfl) (c1 _ rfl) (Lib.run_unsafeSliceData_row _ _ _ _ _ _ (by omega)) hUS).mono ?_
   rintro e w' ⟨rfl,rfl⟩
   obtain ⟨f1,f2,f3,f4⟩:=freeze_size w.drew ⟨g,off,none⟩ l.length
   obtain ⟨r1,r2⟩:=str_fin (w:=w) (w':=w.drew.freeze ⟨g,off,none⟩ l.length) hf hown hblk hne f2 f3 f4 (by rw[f1];exact Nat.le_refl _) (fun k hk hkn=>freeze_other w.drew _ _ k (fun e=>hkn (by rw[hbg];exact congrArg some e.symm)))
   exact⟨_,rfl,.str _,r1,r2⟩
theorem contractM_os {Z:Seat}{f:FuncId}{n:Nat}{q:Nat→Nat}{os os1 os2:Nat→Ab.Own}{A:List D}{R:D} (hc:ContractM Z f n q os os1 A R) (h:∀ i,i<n→os2 i=os1 i):ContractM Z f n q os os2 A R :=
 ⟨hc.refR,fun i hi=>by rw[h i hi];exact hc.kind i hi,hc.body,fun w κ sv args h1 h2 h3 h4 h5 h6=>(hc.calls w κ sv args h1 h2 h3 h4 h5 h6).mono (by
  rintro e w' ⟨v,q1,q2,q3,q4⟩
  exact⟨v,q1,q2,fun i hi=>by rw[h i hi];exact q3 i hi,q4⟩)⟩
def itoaP (n:Int):Option ByteArray:=chk (okI n) (some (itoaV n))
noncomputable def sp126:FnSpec iseat.toSeat:=mkSpec iseat.toSeat 126 [.int .i64] [.str] true (fun a=>itoaP a.1) (fun a x hx h h'=>by
 obtain ⟨n,u⟩:=a
 obtain ⟨hk,hx⟩:=chk_some hx
 cases hx
 exact c126 n hk) (fun _ x=>rfl)
def atoiP (s:ByteArray):Option (Int×Bool):=chk (okA s) (some (atoiV s))
noncomputable def sp219:FnSpec iseat.toSeat:=mkSpec iseat.toSeat 219 [.str] [.int .i64,.err] false (fun a=>atoiP a.1) (fun a x hx h h'=>by
 obtain ⟨s,u⟩:=a
 obtain ⟨hk,hx⟩:=chk_some hx
 cases hx
 exact c219 s hk) (fun h=>nomatch h)
noncomputable def sp150:FnSpecM iseat.toSeat:=mkSpecM iseat.toSeat 150 bldBK [.p 0] [] [] [0] (fun x _=>some (x,())) (fun x a y z hx=>by
 obtain ⟨l,u⟩:=x
 cases u
 cases hx
 exact contractM_os (c150 l) (fun i hi=>match i,hi with|0,_=>rfl|1,_=>rfl))
def decBld:List IOwn→Option (List Int)
 |[.box [c,.os s g],.arr E t m]=>bif zEq 174 0 c&&Nat.beq s (XB+1)&&Nat.beq g 1&&Nat.beq E 5 then asL (.int .u8) t m else none
 |_=>none
theorem dec_bld {ls:List IOwn}{l:List Int} (h:decBld ls=some l):ls=encBK bldBK (l,()):=by
 unfold decBld at h
 split at h
 ·rename_i c s g E t m
  cases hc:zEq 174 0 c&&Nat.beq s (XB+1)&&Nat.beq g 1&&Nat.beq E 5 with
  |false=>rw[hc]at h;cases h
  |true =>
   rw[hc]at h
   simp only[Bool.and_eq_true]at hc
   have e2:=Nat.eq_of_beq_eq_true hc.1.1.2
   have e3:=Nat.eq_of_beq_eq_true hc.1.2
   have e4:=Nat.eq_of_beq_eq_true hc.2
   subst e2 e3 e4
   have e5:=zEq_ok (j:=1) hc.1.1.1
   have h:asL (.int .u8) t m=some l:=h
   unfold asL at h
   split at h
   ·rename_i e
    subst e
    simp only[Option.some.injEq]at h
    subst h
    rw[e5]
    rfl
   ·cases h
 ·cases h
noncomputable def sp128:FnSpecM iseat.toSeat where
 f:=128
 ka:=[]
 kb:=[0]
 wr:=[1]
 mv:=[]
 app:=fun ls A k=>match decBld ls,decAK [.p 0] A with
  |some l,some _=>(chk (okBy l) (some ((),bytesV l))).bind (fun r=>k [.none] (.str r.2))
  |_,_=>none
 ok:=fun ls A k r h=>by
  split at h
  ·rename_i l a hl ha
   obtain ⟨_,h1,h⟩:=Option.bind_eq_some_iff.1 h
   obtain ⟨h0,h1⟩:=chk_some h1
   cases h1
   rw[dec_bld hl]
   refine ⟨_,_,h,?_⟩
   have hc:=c128 l h0
   exact ContractM.toN ⟨hc.refR,hc.kind,hc.body,fun w κ sv args h1 h2 h3 h4 h5 h6=>hc.calls w κ sv args h1 h2 h3 h4 h5 (decAK_rep ha h6)⟩
  ·cases h
def okTrim (s cs:ByteArray):Bool:=decide (s.size≤9223372036854775807)&&decide (cs.size<4294967281)&&cs.data.toList.all (fun b=>decide (b.toNat<128))
def trimV (s cs:ByteArray):ByteArray:=⟨(Lib.trimS s.data.toList cs.data.toList).toArray⟩
def trim:ByteArray→ByteArray→Option ByteArray:=fun s cs=>chk (okTrim s cs) (some (trimV s cs))
theorem trim_eq (s cs:ByteArray):trim s cs=chk (okTrim s cs) (some (trimV s cs)):=rfl
theorem c107 (s cs:ByteArray) (h:okTrim s cs=true):Contract iseat.toSeat 107 [.str s,.str cs] (.str (trimV s cs)):=by
 simp only[okTrim,Bool.and_eq_true,decide_eq_true_eq]at h
 refine ⟨PureL.cons (.str _) (PureL.cons (.str _) PureL.nil),.str _,⟨Tryz.f107,_,Tryz.func107,rfl,by kernel_rfl⟩,fun w κ args _ _ hr=>?_⟩
 cases hr with
 |cons _ v1 _ vs h1 h2 =>
 cases h1
 cases h2 with
 |cons _ v2 _ vs h3 h4 =>
 cases h3
 cases h4
 have hcon:=Any.strings_Trim_laid layT (by kernel_rfl) s cs w h.1.1 h.1.2 (ascii_of_all h.2)
 exact hcon.mono (fun e w' ⟨h1,h2⟩=>⟨_,h1,.str _,h2⟩)
noncomputable def sp107:FnSpec iseat.toSeat:=mkSpec iseat.toSeat 107 [.str,.str] [.str] true (fun a=>trim a.1 a.2.1) (fun a x hx h h'=>by
 obtain ⟨s,cs,u⟩:=a
 simp only[trim_eq]at hx
 obtain ⟨hk,hx⟩:=chk_some hx
 simp only[Option.some.injEq]at hx
 subst hx
 exact c107 s cs hk) (fun _ x=>rfl)
def okCut (s:ByteArray):Bool:=decide (s.size<4294967281)
def cut1 (s p:ByteArray):ByteArray:=⟨(Lib.cut s.data.toList p.data.toList).1.toArray⟩
def cut2 (s p:ByteArray):ByteArray:=⟨(Lib.cut s.data.toList p.data.toList).2.1.toArray⟩
def cut3 (s p:ByteArray):Bool:=(Lib.cut s.data.toList p.data.toList).2.2
theorem c170 (s sep:ByteArray) (h:okCut s=true):Contract iseat.toSeat 170 [.str s,.str sep] (.tup [.str (cut1 s sep),.str (cut2 s sep),.bool (cut3 s sep)]):=by
 have h:=of_decide_eq_true h
 refine ⟨PureL.cons (.str _) (PureL.cons (.str _) PureL.nil),.tup _ (PureL.cons (.str _) (PureL.cons (.str _) (PureL.cons (.bool _) PureL.nil))),⟨Tryz.f170,_,Tryz.func170,rfl,by kernel_rfl⟩,fun w κ args hf hg hr=>?_⟩
 cases hr with
 |cons _ v1 _ vs h1 h2 =>
 cases h1
 cases h2 with
 |cons _ v2 _ vs h3 h4 =>
 cases h3
 cases h4
 obtain ⟨_,u,e1,e2⟩:=hg.1 0 _ rfl
 have hm:∃ m,w.cell? ⟨0,0,none⟩=some (.int .i64 m):=by
  cases e1 with
  |cons _ v _ vs r1 r2 =>
   cases r1 with
   |lk _ _ e=>obtain ⟨m,rfl⟩:=e;exact⟨m,hf _ _ _ (e2 0 _ rfl)⟩
 obtain ⟨m,hm⟩:=hm
 exact(Any.strings_Cut layU s sep m w h hm).mono (fun e w' ⟨h1,n,h2⟩=>⟨_,h1,.tup _ [_,_,_] (.cons _ _ _ _ (.str _) (.cons _ _ _ _ (.str _) (.cons _ _ _ _ (.bool _) .nil))),h2 ▸ below_drewN (Below.refl _ _) n⟩)
def cutP (s p:ByteArray):Option (ByteArray×ByteArray×Bool):=chk (okCut s) (some (cut1 s p,cut2 s p,cut3 s p))
noncomputable def sp170:FnSpec iseat.toSeat:=mkSpec iseat.toSeat 170 [.str,.str] [.str,.str,.bool] false (fun a=>cutP a.1 a.2.1) (fun a x hx h h'=>by
 obtain ⟨s,p,u⟩:=a
 obtain ⟨hk,hx⟩:=chk_some hx
 cases hx
 exact c170 s p hk) (fun h=>nomatch h)
def cntP (s p:ByteArray):Option Int:=match p with|⟨⟨[c]⟩⟩=>some (Lib.countByte s.data.toList c)|_=>none
theorem c121 (s:ByteArray) (c:UInt8):Contract iseat.toSeat 121 [.str s,.str ⟨#[c]⟩] (.int .i64 (Lib.countByte s.data.toList c)):=by
 refine ⟨PureL.cons (.str _) (PureL.cons (.str _) PureL.nil),.int _ _,⟨Tryz.f121,_,Tryz.func121,rfl,by kernel_rfl⟩,fun w κ args hf hg hr=>?_⟩
 cases hr with
 |cons _ v1 _ vs h1 h2 =>
 cases h1
 cases h2 with
 |cons _ v2 _ vs h3 h4 =>
 cases h3
 cases h4
 exact(Any.strings_Count_one layN s c w).mono (fun e w' ⟨h1,h2⟩=>⟨_,h1,.int _ _,h2 ▸ Below.refl _ _⟩)
noncomputable def sp121:FnSpec iseat.toSeat:=mkSpec iseat.toSeat 121 [.str,.str] [.int .i64] true (fun a=>cntP a.1 a.2.1) (fun a x hx h h'=>by
 obtain ⟨s,p,u⟩:=a
 have hx:cntP s p=some x:=hx
 unfold cntP at hx
 split at hx
 ·cases hx
  exact c121 s _
 ·cases hx) (fun _ x=>rfl)
theorem c156 (s:ByteArray) (c:Int):Contract iseat.toSeat 156 [.str s,.int .u8 c] (.int .i64 (Lib.indexByte s.data.toList c.toNat.toUInt8)):=by
 refine ⟨PureL.cons (.str _) (PureL.cons (.int _ _) PureL.nil),.int _ _,⟨Tryz.f156,_,Tryz.func156,rfl,by kernel_rfl⟩,fun w κ args hf hg hr=>?_⟩
 cases hr with
 |cons _ v1 _ vs h1 h2 =>
 cases h1
 cases h2 with
 |cons _ v2 _ vs h3 h4 =>
 cases h3
 cases h4
 exact(Any.stringslite_IndexByte layB s c w).mono (fun e w' ⟨h1,h2⟩=>⟨_,h1,.int _ _,h2 ▸ Below.refl _ _⟩)
noncomputable def sp156:FnSpec iseat.toSeat:=mkSpec iseat.toSeat 156 [.str,.int .u8] [.int .i64] true (fun a=>some (Lib.indexByte a.1.data.toList a.2.1.toNat.toUInt8)) (fun a x hx h h'=>by
 obtain ⟨s,c,u⟩:=a
 cases hx
 exact c156 s c) (fun _ x=>rfl)
end Go.Proofs.Rd10
namespace Go.Proofs.Rd10
open Go Go.Ab
open Go.Proofs.YtbhjjkekphpldaaGreatDoor (iseat)
set_option linter.all false
set_option maxRecDepth 100000
noncomputable section
def E139:FEnv iseat:=⟨⟨21,[],[],[],[],[],[],[],[],[],[],[],[],[],[],true⟩,[]⟩
def r139 (A:List I):Option I:=fnRunU E139 (bodyOf Tryz.f139) Tryz.f139.results.toList A
def sp139:FnSpec iseat.toSeat:=mkSpecU iseat 139 true r139 (fun A d hd hr h=>fn_contractU (E:=E139) (fn:=Tryz.f139) Tryz.func139 (by kernel_rfl) (by kernel_rfl) (by kernel_rfl) rfl hd hr h)
def E120:FEnv iseat:=⟨⟨8,[sp139],[],[],[],[],[],[],[],[],[],[],[],[],[],true⟩,[]⟩
def r120 (A:List I):Option I:=fnRunU E120 (bodyOf Tryz.f120) Tryz.f120.results.toList A
def sp120:FnSpec iseat.toSeat:=mkSpecU iseat 120 true r120 (fun A d hd hr h=>fn_contractU (E:=E120) (fn:=Tryz.f120) Tryz.func120 (by kernel_rfl) (by kernel_rfl) (by kernel_rfl) rfl hd hr h)
def E148:FEnv iseat:=⟨⟨16,[sp139],[],[],[],[],[],[],[],[],[],[],[],[],[],true⟩,[]⟩
def r148 (A:List I):Option I:=fnRunU E148 (bodyOf Tryz.f148) Tryz.f148.results.toList A
def sp148:FnSpec iseat.toSeat:=mkSpecU iseat 148 true r148 (fun A d hd hr h=>fn_contractU (E:=E148) (fn:=Tryz.f148) Tryz.func148 (by kernel_rfl) (by kernel_rfl) (by kernel_rfl) rfl hd hr h)
def E125:FEnv iseat:=⟨⟨8,[sp148],[],[],[],[],[],[],[],[],[],[],[],[],[],true⟩,[]⟩
def r125 (A:List I):Option I:=fnRunU E125 (bodyOf Tryz.f125) Tryz.f125.results.toList A
def sp125:FnSpec iseat.toSeat:=mkSpecU iseat 125 true r125 (fun A d hd hr h=>fn_contractU (E:=E125) (fn:=Tryz.f125) Tryz.func125 (by kernel_rfl) (by kernel_rfl) (by kernel_rfl) rfl hd hr h)
def E127:FEnv iseat:=⟨⟨19,[],[],[],[],[],[],[sp150],[],[],[],[],[],[],[],false⟩,[]⟩
def sp127:FnSpecM iseat.toSeat:=mkSpecD 2 [1] [] [0] E127 127 (bodyOf Tryz.f127) Tryz.f127.results.toList (fun ls A y hx=>fn_contractD (E:=E127) (mv:=[1]) (fn:=Tryz.f127) Tryz.func127 (by kernel_rfl) (by kernel_rfl) (by kernel_rfl) rfl rfl hx)
def E146:FEnv iseat:=⟨⟨8,[sp156],[],[],[],[],[],[],[],[],[],[],[],[],[],true⟩,[]⟩
def r146 (A:List I):Option I:=fnRunU E146 (bodyOf Tryz.f146) Tryz.f146.results.toList A
def sp146:FnSpec iseat.toSeat:=mkSpecU iseat 146 true r146 (fun A d hd hr h=>fn_contractU (E:=E146) (fn:=Tryz.f146) Tryz.func146 (by kernel_rfl) (by kernel_rfl) (by kernel_rfl) rfl hd hr h)
def E145:FEnv iseat:=⟨⟨25,[sp146],[],[],[],[],[],[],[],[],[],[],[],[],[YL],false⟩,[]⟩
def it145:ItSpecU iseat.toSeat:=mkItU iseat.toSeat 145 true (fnRunJB E145 (bodyOf Tryz.f145)) (fun cap items hx h=>itj_contractB (E:=E145) (fn:=Tryz.f145) Tryz.func145 (by kernel_rfl) (by kernel_rfl) (by kernel_rfl) rfl rfl hx h)
def E123:FEnv iseat:=⟨⟨4,[],[],[],[],[],[],[],[],[],[],[],[it145],[],[],true⟩,[]⟩
def sp123:FnSpecG iseat.toSeat:=mkSpecG E123 123 (bodyOf Tryz.f123) Tryz.f123.results.toList (fun A y hx=>fn_contractG (E:=E123) (fn:=Tryz.f123) Tryz.func123 (by kernel_rfl) (by kernel_rfl) (by kernel_rfl) rfl hx)
def E169:FEnv iseat:=⟨⟨20,[sp170],[],[],[],[],[],[],[],[],[],[],[],[],[YL],false⟩,[]⟩
def it169:ItSpecU iseat.toSeat:=mkItU iseat.toSeat 169 true (fnRunJB E169 (bodyOf Tryz.f169)) (fun cap items hx h=>itj_contractB (E:=E169) (fn:=Tryz.f169) Tryz.func169 (by kernel_rfl) (by kernel_rfl) (by kernel_rfl) rfl rfl hx h)
def E157:FEnv iseat:=⟨⟨4,[],[],[],[],[],[],[],[],[],[],[],[it169],[],[],true⟩,[]⟩
def sp157:FnSpecG iseat.toSeat:=mkSpecG E157 157 (bodyOf Tryz.f157) Tryz.f157.results.toList (fun A y hx=>fn_contractG (E:=E157) (fn:=Tryz.f157) Tryz.func157 (by kernel_rfl) (by kernel_rfl) (by kernel_rfl) rfl hx)
def E183:FEnv iseat:=⟨⟨29,[sp219,sp126],[],[],[],[],[],[],[],[],[],[],[],[],[],true⟩,[]⟩
def r183 (A:List I):Option I:=fnRunU E183 (bodyOf Tryz.f183) Tryz.f183.results.toList A
def sp183:FnSpec iseat.toSeat:=mkSpecU iseat 183 true r183 (fun A d hd hr h=>fn_contractU (E:=E183) (fn:=Tryz.f183) Tryz.func183 (by kernel_rfl) (by kernel_rfl) (by kernel_rfl) rfl hd hr h)
def E159:FEnv iseat:=⟨⟨46,[sp183],[],[],[],[],[],[],[],[],[],[],[],[41],[],false⟩,[]⟩
def sp159:FnSpecM iseat.toSeat:=mkSpecD 2 [1] [] [0] E159 159 (bodyOf Tryz.f159) Tryz.f159.results.toList (fun ls A y hx=>fn_contractD (E:=E159) (mv:=[1]) (fn:=Tryz.f159) Tryz.func159 (by kernel_rfl) (by kernel_rfl) (by kernel_rfl) rfl rfl hx)
def E158:FEnv iseat:=⟨⟨24,[],[],[],[],[],[],[],[],[],[],[],[],[],[],true⟩,[]⟩
def sp158:FnSpecP iseat.toSeat:=mkSpecP iseat 158 (fnRunP E158 (bodyOf Tryz.f158) Tryz.f158.results.toList) (fun A y hx l hl h=>fn_contractP (E:=E158) (fn:=Tryz.f158) Tryz.func158 (by kernel_rfl) (by kernel_rfl) (by kernel_rfl) rfl hx hl h)
def E147:FEnv iseat:=⟨⟨61,[sp125],[],[],[],[],[],[sp159],[sp158],[],[],[sp157],[it169],[],[],true⟩,[(1000001,⟨⟨[(131,.os 40002 3 (.int .i64))],[]⟩,[],[],[]⟩)]⟩
def r147 (A:List I):Option I:=fnRunU E147 (bodyOf Tryz.f147) Tryz.f147.results.toList A
def sp147:FnSpec iseat.toSeat:=mkSpecU iseat 147 false r147 (fun A d hd hr h=>fn_contractU (E:=E147) (fn:=Tryz.f147) Tryz.func147 (by kernel_rfl) (by kernel_rfl) (by kernel_rfl) rfl hd hr h)
end
end Go.Proofs.Rd10
namespace Go.Proofs.Rd10
open Go Go.Ab
open Go.Proofs.YtbhjjkekphpldaaGreatDoor (iseat)
set_option linter.all false
set_option maxRecDepth 100000
noncomputable section
def E75:FEnv iseat:=⟨⟨15,[],[],[],[],[],[],[],[],[],[],[],[],[],[],true⟩,[]⟩
def r75 (A:List I):Option I:=fnRunU E75 (bodyOf Tryz.f75) Tryz.f75.results.toList A
def sp75:FnSpec iseat.toSeat:=mkSpecU iseat 75 true r75 (fun A d hd hr h=>fn_contractU (E:=E75) (fn:=Tryz.f75) Tryz.func75 (by kernel_rfl) (by kernel_rfl) (by kernel_rfl) rfl hd hr h)
def E37:FEnv iseat:=⟨⟨21,[sp75],[],[],[],[],[],[],[],[],[],[],[],[],[],true⟩,[]⟩
def r37 (A:List I):Option I:=fnRunU E37 (bodyOf Tryz.f37) Tryz.f37.results.toList A
def sp37:FnSpec iseat.toSeat:=mkSpecU iseat 37 true r37 (fun A d hd hr h=>fn_contractU (E:=E37) (fn:=Tryz.f37) Tryz.func37 (by kernel_rfl) (by kernel_rfl) (by kernel_rfl) rfl hd hr h)
def E65:FEnv iseat:=⟨⟨15,[],[],[],[],[],[],[],[],[],[],[],[],[],[],true⟩,[]⟩
def r65 (A:List I):Option I:=fnRunU E65 (bodyOf Tryz.f65) Tryz.f65.results.toList A
def sp65:FnSpec iseat.toSeat:=mkSpecU iseat 65 true r65 (fun A d hd hr h=>fn_contractU (E:=E65) (fn:=Tryz.f65) Tryz.func65 (by kernel_rfl) (by kernel_rfl) (by kernel_rfl) rfl hd hr h)
def E66:FEnv iseat:=⟨⟨107,[sp65,sp100],[],[],[],[],[],[],[],[],[],[],[],[],[],true⟩,[]⟩
def r66 (A:List I):Option I:=fnRunU E66 (bodyOf Tryz.f66) Tryz.f66.results.toList A
def sp66:FnSpec iseat.toSeat:=mkSpecU iseat 66 true r66 (fun A d hd hr h=>fn_contractU (E:=E66) (fn:=Tryz.f66) Tryz.func66 (by kernel_rfl) (by kernel_rfl) (by kernel_rfl) rfl hd hr h)
def E30:FEnv iseat:=⟨⟨42,[sp65,sp66],[],[],[],[],[],[],[],[],[],[],[],[],[],true⟩,[]⟩
def r30 (A:List I):Option I:=fnRunU E30 (bodyOf Tryz.f30) Tryz.f30.results.toList A
def sp30:FnSpec iseat.toSeat:=mkSpecU iseat 30 true r30 (fun A d hd hr h=>fn_contractU (E:=E30) (fn:=Tryz.f30) Tryz.func30 (by kernel_rfl) (by kernel_rfl) (by kernel_rfl) rfl hd hr h)
def E67:FEnv iseat:=⟨⟨20,[],[],[],[],[],[],[],[],[],[],[],[],[],[],true⟩,[]⟩
def r67 (A:List I):Option I:=fnRunU E67 (bodyOf Tryz.f67) Tryz.f67.results.toList A
def sp67:FnSpec iseat.toSeat:=mkSpecU iseat 67 true r67 (fun A d hd hr h=>fn_contractU (E:=E67) (fn:=Tryz.f67) Tryz.func67 (by kernel_rfl) (by kernel_rfl) (by kernel_rfl) rfl hd hr h)
def E31:FEnv iseat:=⟨⟨14,[sp67],[],[],[],[],[],[],[],[],[],[],[],[],[],true⟩,[]⟩
def r31 (A:List I):Option I:=fnRunU E31 (bodyOf Tryz.f31) Tryz.f31.results.toList A
def sp31:FnSpec iseat.toSeat:=mkSpecU iseat 31 false r31 (fun A d hd hr h=>fn_contractU (E:=E31) (fn:=Tryz.f31) Tryz.func31 (by kernel_rfl) (by kernel_rfl) (by kernel_rfl) rfl hd hr h)
def E108:FEnv iseat:=⟨⟨18,[sp75],[],[],[],[],[],[],[],[],[],[],[],[],[],true⟩,[]⟩
def r108 (A:List I):Option I:=fnRunU E108 (bodyOf Tryz.f108) Tryz.f108.results.toList A
def sp108:FnSpec iseat.toSeat:=mkSpecU iseat 108 true r108 (fun A d hd hr h=>fn_contractU (E:=E108) (fn:=Tryz.f108) Tryz.func108 (by kernel_rfl) (by kernel_rfl) (by kernel_rfl) rfl hd hr h)
def E76:FEnv iseat:=⟨⟨76,[sp107,sp75,sp108],[],[],[],[],[],[],[],[],[],[],[],[],[],true⟩,[]⟩
def r76 (A:List I):Option I:=fnRunU E76 (bodyOf Tryz.f76) Tryz.f76.results.toList A
def sp76:FnSpec iseat.toSeat:=mkSpecU iseat 76 true r76 (fun A d hd hr h=>fn_contractU (E:=E76) (fn:=Tryz.f76) Tryz.func76 (by kernel_rfl) (by kernel_rfl) (by kernel_rfl) rfl hd hr h)
def E78:FEnv iseat:=⟨⟨9,[],[],[],[],[],[],[],[],[],[],[],[],[],[],true⟩,[]⟩
def r78 (A:List I):Option I:=fnRunU E78 (bodyOf Tryz.f78) Tryz.f78.results.toList A
def sp78:FnSpec iseat.toSeat:=mkSpecU iseat 78 true r78 (fun A d hd hr h=>fn_contractU (E:=E78) (fn:=Tryz.f78) Tryz.func78 (by kernel_rfl) (by kernel_rfl) (by kernel_rfl) rfl hd hr h)
def E237:FEnv iseat:=⟨⟨8,[],[],[],[],[],[],[],[],[],[],[],[],[],[],true⟩,[]⟩
def r237 (A:List I):Option I:=fnRunU E237 (bodyOf Tryz.f237) Tryz.f237.results.toList A
def sp237:FnSpec iseat.toSeat:=mkSpecU iseat 237 true r237 (fun A d hd hr h=>fn_contractU (E:=E237) (fn:=Tryz.f237) Tryz.func237 (by kernel_rfl) (by kernel_rfl) (by kernel_rfl) rfl hd hr h)
def E109:FEnv iseat:=⟨⟨19,[sp78,sp237],[],[],[],[],[],[],[],[],[],[],[],[],[],true⟩,[]⟩
def r109 (A:List I):Option I:=fnRunU E109 (bodyOf Tryz.f109) Tryz.f109.results.toList A
def sp109:FnSpec iseat.toSeat:=mkSpecU iseat 109 true r109 (fun A d hd hr h=>fn_contractU (E:=E109) (fn:=Tryz.f109) Tryz.func109 (by kernel_rfl) (by kernel_rfl) (by kernel_rfl) rfl hd hr h)
def E77:FEnv iseat:=⟨⟨9,[sp109,sp78],[],[],[],[],[],[],[],[],[],[],[],[],[],true⟩,[]⟩
def r77 (A:List I):Option I:=fnRunU E77 (bodyOf Tryz.f77) Tryz.f77.results.toList A
def sp77:FnSpec iseat.toSeat:=mkSpecU iseat 77 true r77 (fun A d hd hr h=>fn_contractU (E:=E77) (fn:=Tryz.f77) Tryz.func77 (by kernel_rfl) (by kernel_rfl) (by kernel_rfl) rfl hd hr h)
def E39:FEnv iseat:=⟨⟨38,[sp76,sp78,sp77],[],[],[],[],[],[],[],[],[],[],[],[],[],true⟩,[(1000013,⟨⟨[],[]⟩,[4],[],[]⟩)]⟩
def r39 (A:List I):Option I:=fnRunU E39 (bodyOf Tryz.f39) Tryz.f39.results.toList A
def sp39:FnSpec iseat.toSeat:=mkSpecU iseat 39 true r39 (fun A d hd hr h=>fn_contractU (E:=E39) (fn:=Tryz.f39) Tryz.func39 (by kernel_rfl) (by kernel_rfl) (by kernel_rfl) rfl hd hr h)
def E79:FEnv iseat:=⟨⟨13,[sp75],[],[],[],[],[],[],[],[],[],[],[],[],[],true⟩,[]⟩
def r79 (A:List I):Option I:=fnRunU E79 (bodyOf Tryz.f79) Tryz.f79.results.toList A
def sp79:FnSpec iseat.toSeat:=mkSpecU iseat 79 true r79 (fun A d hd hr h=>fn_contractU (E:=E79) (fn:=Tryz.f79) Tryz.func79 (by kernel_rfl) (by kernel_rfl) (by kernel_rfl) rfl hd hr h)
def E80:FEnv iseat:=⟨⟨44,[sp79,sp75],[],[],[],[],[],[],[],[],[],[],[],[],[],true⟩,[]⟩
def r80 (A:List I):Option I:=fnRunU E80 (bodyOf Tryz.f80) Tryz.f80.results.toList A
def sp80:FnSpec iseat.toSeat:=mkSpecU iseat 80 true r80 (fun A d hd hr h=>fn_contractU (E:=E80) (fn:=Tryz.f80) Tryz.func80 (by kernel_rfl) (by kernel_rfl) (by kernel_rfl) rfl hd hr h)
def E41:FEnv iseat:=⟨⟨103,[sp79,sp75,sp80],[],[],[],[],[],[],[],[],[],[],[],[],[],true⟩,[]⟩
def r41 (A:List I):Option I:=fnRunU E41 (bodyOf Tryz.f41) Tryz.f41.results.toList A
def sp41:FnSpec iseat.toSeat:=mkSpecU iseat 41 true r41 (fun A d hd hr h=>fn_contractU (E:=E41) (fn:=Tryz.f41) Tryz.func41 (by kernel_rfl) (by kernel_rfl) (by kernel_rfl) rfl hd hr h)
def E25:FEnv iseat:=⟨⟨5,[sp26],[],[],[],[],[],[],[],[],[],[],[],[],[],true⟩,[]⟩
def r25 (A:List I):Option I:=fnRunU E25 (bodyOf Tryz.f25) Tryz.f25.results.toList A
def sp25:FnSpec iseat.toSeat:=mkSpecU iseat 25 true r25 (fun A d hd hr h=>fn_contractU (E:=E25) (fn:=Tryz.f25) Tryz.func25 (by kernel_rfl) (by kernel_rfl) (by kernel_rfl) rfl hd hr h)
def E27:FEnv iseat:=⟨⟨5,[sp28],[],[],[],[],[],[],[],[],[],[],[],[],[],true⟩,[]⟩
def r27 (A:List I):Option I:=fnRunU E27 (bodyOf Tryz.f27) Tryz.f27.results.toList A
def sp27:FnSpec iseat.toSeat:=mkSpecU iseat 27 true r27 (fun A d hd hr h=>fn_contractU (E:=E27) (fn:=Tryz.f27) Tryz.func27 (by kernel_rfl) (by kernel_rfl) (by kernel_rfl) rfl hd hr h)
def E29:FEnv iseat:=⟨⟨9,[sp31,sp30],[],[],[],[],[],[],[],[],[],[],[],[6],[],true⟩,[]⟩
def r29 (A:List I):Option I:=fnRunU E29 (bodyOf Tryz.f29) Tryz.f29.results.toList A
def sp29:FnSpec iseat.toSeat:=mkSpecU iseat 29 true r29 (fun A d hd hr h=>fn_contractU (E:=E29) (fn:=Tryz.f29) Tryz.func29 (by kernel_rfl) (by kernel_rfl) (by kernel_rfl) rfl hd hr h)
def E32:FEnv iseat:=⟨⟨5,[sp33],[],[],[],[],[],[],[],[],[],[],[],[],[],true⟩,[]⟩
def r32 (A:List I):Option I:=fnRunU E32 (bodyOf Tryz.f32) Tryz.f32.results.toList A
def sp32:FnSpec iseat.toSeat:=mkSpecU iseat 32 true r32 (fun A d hd hr h=>fn_contractU (E:=E32) (fn:=Tryz.f32) Tryz.func32 (by kernel_rfl) (by kernel_rfl) (by kernel_rfl) rfl hd hr h)
def E34:FEnv iseat:=⟨⟨5,[sp35],[],[],[],[],[],[],[],[],[],[],[],[],[],true⟩,[]⟩
def r34 (A:List I):Option I:=fnRunU E34 (bodyOf Tryz.f34) Tryz.f34.results.toList A
def sp34:FnSpec iseat.toSeat:=mkSpecU iseat 34 true r34 (fun A d hd hr h=>fn_contractU (E:=E34) (fn:=Tryz.f34) Tryz.func34 (by kernel_rfl) (by kernel_rfl) (by kernel_rfl) rfl hd hr h)
def E36:FEnv iseat:=⟨⟨5,[sp37],[],[],[],[],[],[],[],[],[],[],[],[],[],true⟩,[]⟩
def r36 (A:List I):Option I:=fnRunU E36 (bodyOf Tryz.f36) Tryz.f36.results.toList A
def sp36:FnSpec iseat.toSeat:=mkSpecU iseat 36 true r36 (fun A d hd hr h=>fn_contractU (E:=E36) (fn:=Tryz.f36) Tryz.func36 (by kernel_rfl) (by kernel_rfl) (by kernel_rfl) rfl hd hr h)
def E38:FEnv iseat:=⟨⟨5,[sp39],[],[],[],[],[],[],[],[],[],[],[],[],[],true⟩,[]⟩
def r38 (A:List I):Option I:=fnRunU E38 (bodyOf Tryz.f38) Tryz.f38.results.toList A
def sp38:FnSpec iseat.toSeat:=mkSpecU iseat 38 true r38 (fun A d hd hr h=>fn_contractU (E:=E38) (fn:=Tryz.f38) Tryz.func38 (by kernel_rfl) (by kernel_rfl) (by kernel_rfl) rfl hd hr h)
def E40:FEnv iseat:=⟨⟨15,[sp41],[],[],[],[],[],[],[],[],[],[],[],[],[],true⟩,[]⟩
def r40 (A:List I):Option I:=fnRunU E40 (bodyOf Tryz.f40) Tryz.f40.results.toList A
def sp40:FnSpec iseat.toSeat:=mkSpecU iseat 40 true r40 (fun A d hd hr h=>fn_contractU (E:=E40) (fn:=Tryz.f40) Tryz.func40 (by kernel_rfl) (by kernel_rfl) (by kernel_rfl) rfl hd hr h)
def E10:FEnv iseat:=⟨⟨26,[sp25,sp27,sp29,sp32,sp34,sp36,sp38,sp40],[],[],[],[],[],[],[],[],[],[],[],[],[],true⟩,[(1000001,⟨⟨[],[]⟩,[1],[],[]⟩)]⟩
def r10 (A:List I):Option I:=fnRunU E10 (bodyOf Tryz.f10) Tryz.f10.results.toList A
end
end Go.Proofs.Rd10
namespace Go.Proofs.Rd10
open Go Go.Ab
open Go.Proofs.YtbhjjkekphpldaaGreatDoor (iseat)
set_option linter.all false
set_option maxRecDepth 100000
noncomputable section
def E122:FEnv iseat:=⟨⟨47,[sp143,sp144],[],[],[],[],[],[],[],[],[],[],[],[40],[],true⟩,[(1000002,⟨⟨[(515,.os 40003 261 .Rolling),(516,.os 40004 63 .Driver)],[]⟩,[],[],[]⟩)]⟩
def sp122:FnSpecG iseat.toSeat:=mkSpecG E122 122 (bodyOf Tryz.f122) Tryz.f122.results.toList (fun A y hx=>fn_contractG (E:=E122) (fn:=Tryz.f122) Tryz.func122 (by kernel_rfl) (by kernel_rfl) (by kernel_rfl) rfl hx)
end
end Go.Proofs.Rd10
namespace Go.Proofs.Rd10
open Go Go.Ab
open Go.Proofs.YtbhjjkekphpldaaGreatDoor (iseat)
set_option linter.all false
set_option maxRecDepth 100000
noncomputable section
def E311:FEnv iseat:=⟨⟨44,[sp285],[],[],[],[],[],[],[],[],[],[],[],[],[YL],false⟩,[]⟩
def it311:ItSpecU iseat.toSeat:=mkItU iseat.toSeat 311 true (fnRunJB E311 (bodyOf Tryz.f311)) (fun cap items hx h=>itj_contractB (E:=E311) (fn:=Tryz.f311) Tryz.func311 (by kernel_rfl) (by kernel_rfl) (by kernel_rfl) rfl rfl hx h)
def E282:FEnv iseat:=⟨⟨4,[],[],[],[],[],[],[],[],[],[],[],[it311],[],[],true⟩,[]⟩
def sp282:FnSpecG iseat.toSeat:=mkSpecG E282 282 (bodyOf Tryz.f282) Tryz.f282.results.toList (fun A y hx=>fn_contractG (E:=E282) (fn:=Tryz.f282) Tryz.func282 (by kernel_rfl) (by kernel_rfl) (by kernel_rfl) rfl hx)
def E248:FEnv iseat:=⟨⟨19,[],[],[],[],[],[],[],[],[],[],[sp282],[it311],[15],[],true⟩,[(1000002,⟨⟨[(198,.os 40003 27 .Span)],[]⟩,[],[],[]⟩)]⟩
def r248 (A:List I):Option I:=fnRunU E248 (bodyOf Tryz.f248) Tryz.f248.results.toList A
def sp248:FnSpec iseat.toSeat:=mkSpecU iseat 248 false r248 (fun A d hd hr h=>fn_contractU (E:=E248) (fn:=Tryz.f248) Tryz.func248 (by kernel_rfl) (by kernel_rfl) (by kernel_rfl) rfl hd hr h)
def E253:FEnv iseat:=⟨⟨20,[],[],[],[],[],[],[],[],[],[],[],[],[],[],true⟩,[]⟩
def r253 (A:List I):Option I:=fnRunU E253 (bodyOf Tryz.f253) Tryz.f253.results.toList A
def sp253:FnSpec iseat.toSeat:=mkSpecU iseat 253 false r253 (fun A d hd hr h=>fn_contractU (E:=E253) (fn:=Tryz.f253) Tryz.func253 (by kernel_rfl) (by kernel_rfl) (by kernel_rfl) rfl hd hr h)
def E313:FEnv iseat:=⟨⟨10,[],[],[],[],[],[],[],[],[],[],[],[],[],[],true⟩,[]⟩
def r313 (A:List I):Option I:=fnRunU E313 (bodyOf Tryz.f313) Tryz.f313.results.toList A
def sp313:FnSpec iseat.toSeat:=mkSpecU iseat 313 true r313 (fun A d hd hr h=>fn_contractU (E:=E313) (fn:=Tryz.f313) Tryz.func313 (by kernel_rfl) (by kernel_rfl) (by kernel_rfl) rfl hd hr h)
def E312:FEnv iseat:=⟨⟨19,[sp313],[],[],[],[],[],[],[],[],[],[],[],[],[],true⟩,[]⟩
def r312 (A:List I):Option I:=fnRunU E312 (bodyOf Tryz.f312) Tryz.f312.results.toList A
def sp312:FnSpec iseat.toSeat:=mkSpecU iseat 312 true r312 (fun A d hd hr h=>fn_contractU (E:=E312) (fn:=Tryz.f312) Tryz.func312 (by kernel_rfl) (by kernel_rfl) (by kernel_rfl) rfl hd hr h)
def E287:FEnv iseat:=⟨⟨12,[sp313,sp312],[],[],[],[],[],[],[],[],[],[],[],[],[],true⟩,[]⟩
def r287 (A:List I):Option I:=fnRunU E287 (bodyOf Tryz.f287) Tryz.f287.results.toList A
def sp287:FnSpec iseat.toSeat:=mkSpecU iseat 287 true r287 (fun A d hd hr h=>fn_contractU (E:=E287) (fn:=Tryz.f287) Tryz.func287 (by kernel_rfl) (by kernel_rfl) (by kernel_rfl) rfl hd hr h)
def E256:FEnv iseat:=⟨⟨81,[sp253,sp248,sp287,sp254,sp289,sp288],[],[],[],[],[],[],[],[],[],[],[],[30,35],[],true⟩,[]⟩
def r256 (A:List I):Option I:=fnRunU E256 (bodyOf Tryz.f256) Tryz.f256.results.toList A
def sp256:FnSpec iseat.toSeat:=mkSpecU iseat 256 true r256 (fun A d hd hr h=>fn_contractU (E:=E256) (fn:=Tryz.f256) Tryz.func256 (by kernel_rfl) (by kernel_rfl) (by kernel_rfl) rfl hd hr h)
def E228:FEnv iseat:=⟨⟨13,[sp30,sp256],[],[],[],[],[],[],[],[],[],[],[],[],[],true⟩,[]⟩
def r228 (A:List I):Option I:=fnRunU E228 (bodyOf Tryz.f228) Tryz.f228.results.toList A
def sp228:FnSpec iseat.toSeat:=mkSpecU iseat 228 true r228 (fun A d hd hr h=>fn_contractU (E:=E228) (fn:=Tryz.f228) Tryz.func228 (by kernel_rfl) (by kernel_rfl) (by kernel_rfl) rfl hd hr h)
def E247:FEnv iseat:=⟨⟨25,[sp253,sp248],[],[],[],[],[],[],[],[],[],[],[],[21],[],true⟩,[]⟩
def r247 (A:List I):Option I:=fnRunU E247 (bodyOf Tryz.f247) Tryz.f247.results.toList A
def sp247:FnSpec iseat.toSeat:=mkSpecU iseat 247 false r247 (fun A d hd hr h=>fn_contractU (E:=E247) (fn:=Tryz.f247) Tryz.func247 (by kernel_rfl) (by kernel_rfl) (by kernel_rfl) rfl hd hr h)
def E246:FEnv iseat:=⟨⟨76,[sp247,sp281,sp254],[],[],[],[],[],[],[],[],[],[],[],[],[],true⟩,[]⟩
def r246 (A:List I):Option I:=fnRunU E246 (bodyOf Tryz.f246) Tryz.f246.results.toList A
def sp246:FnSpec iseat.toSeat:=mkSpecU iseat 246 true r246 (fun A d hd hr h=>fn_contractU (E:=E246) (fn:=Tryz.f246) Tryz.func246 (by kernel_rfl) (by kernel_rfl) (by kernel_rfl) rfl hd hr h)
def E251:FEnv iseat:=⟨⟨44,[sp281,sp254],[],[],[],[],[],[],[],[],[],[],[],[],[],true⟩,[]⟩
def r251 (A:List I):Option I:=fnRunU E251 (bodyOf Tryz.f251) Tryz.f251.results.toList A
def sp251:FnSpec iseat.toSeat:=mkSpecU iseat 251 true r251 (fun A d hd hr h=>fn_contractU (E:=E251) (fn:=Tryz.f251) Tryz.func251 (by kernel_rfl) (by kernel_rfl) (by kernel_rfl) rfl hd hr h)
def E250:FEnv iseat:=⟨⟨12,[sp251],[],[],[],[],[],[],[],[],[],[],[],[],[],true⟩,[]⟩
def r250 (A:List I):Option I:=fnRunU E250 (bodyOf Tryz.f250) Tryz.f250.results.toList A
def sp250:FnSpec iseat.toSeat:=mkSpecU iseat 250 true r250 (fun A d hd hr h=>fn_contractU (E:=E250) (fn:=Tryz.f250) Tryz.func250 (by kernel_rfl) (by kernel_rfl) (by kernel_rfl) rfl hd hr h)
def E283:FEnv iseat:=⟨⟨19,[sp250],[],[],[],[],[],[],[],[],[],[],[],[],[],true⟩,[]⟩
def r283 (A:List I):Option I:=fnRunU E283 (bodyOf Tryz.f283) Tryz.f283.results.toList A
def sp283:FnSpec iseat.toSeat:=mkSpecU iseat 283 true r283 (fun A d hd hr h=>fn_contractU (E:=E283) (fn:=Tryz.f283) Tryz.func283 (by kernel_rfl) (by kernel_rfl) (by kernel_rfl) rfl hd hr h)
def E249:FEnv iseat:=⟨⟨9,[sp283,sp250],[],[],[],[],[],[],[],[],[],[],[],[],[],true⟩,[]⟩
def r249 (A:List I):Option I:=fnRunU E249 (bodyOf Tryz.f249) Tryz.f249.results.toList A
def sp249:FnSpec iseat.toSeat:=mkSpecU iseat 249 true r249 (fun A d hd hr h=>fn_contractU (E:=E249) (fn:=Tryz.f249) Tryz.func249 (by kernel_rfl) (by kernel_rfl) (by kernel_rfl) rfl hd hr h)
def E209:FEnv iseat:=⟨⟨90,[sp30,sp66,sp65,sp246,sp247,sp248,sp250,sp249],[],[],[],[],[],[],[],[],[],[],[],[],[],true⟩,[]⟩
def r209 (A:List I):Option I:=fnRunU E209 (bodyOf Tryz.f209) Tryz.f209.results.toList A
def sp209:FnSpec iseat.toSeat:=mkSpecU iseat 209 true r209 (fun A d hd hr h=>fn_contractU (E:=E209) (fn:=Tryz.f209) Tryz.func209 (by kernel_rfl) (by kernel_rfl) (by kernel_rfl) rfl hd hr h)
def E252:FEnv iseat:=⟨⟨28,[sp30,sp65],[],[],[],[],[],[],[],[],[],[],[],[],[],true⟩,[]⟩
def r252 (A:List I):Option I:=fnRunU E252 (bodyOf Tryz.f252) Tryz.f252.results.toList A
def sp252:FnSpec iseat.toSeat:=mkSpecU iseat 252 true r252 (fun A d hd hr h=>fn_contractU (E:=E252) (fn:=Tryz.f252) Tryz.func252 (by kernel_rfl) (by kernel_rfl) (by kernel_rfl) rfl hd hr h)
def E212:FEnv iseat:=⟨⟨100,[sp252,sp253,sp248,sp254,sp255],[],[],[],[],[],[],[],[],[],[],[],[43,86,91,96],[],true⟩,[]⟩
def r212 (A:List I):Option I:=fnRunU E212 (bodyOf Tryz.f212) Tryz.f212.results.toList A
def sp212:FnSpec iseat.toSeat:=mkSpecU iseat 212 false r212 (fun A d hd hr h=>fn_contractU (E:=E212) (fn:=Tryz.f212) Tryz.func212 (by kernel_rfl) (by kernel_rfl) (by kernel_rfl) rfl hd hr h)
def E213:FEnv iseat:=⟨⟨34,[sp252,sp256],[],[],[],[],[],[],[],[],[],[],[],[],[],true⟩,[]⟩
def r213 (A:List I):Option I:=fnRunU E213 (bodyOf Tryz.f213) Tryz.f213.results.toList A
def sp213:FnSpec iseat.toSeat:=mkSpecU iseat 213 true r213 (fun A d hd hr h=>fn_contractU (E:=E213) (fn:=Tryz.f213) Tryz.func213 (by kernel_rfl) (by kernel_rfl) (by kernel_rfl) rfl hd hr h)
end
end Go.Proofs.Rd10
namespace Go.Proofs.Rd10
open Go Go.Ab
open Go.Proofs.YtbhjjkekphpldaaGreatDoor (iseat)
set_option linter.all false
set_option maxRecDepth 100000
noncomputable section
def longest' (it:It (Int×Int)) (s:Shift) (t:Turn):Option (Int×Int) :=
 some (t.From.Lo,t.To.Hi)
def longest:Shift→Turn→Option (Int×Int):=(fun s t=>longest' itN s t)
theorem longest_eq (s:Shift) (t:Turn):longest s t=longest' itN s t:=rfl
def E275:FEnv iseat:=⟨⟨12,[],[],[],[],[],[],[],[],[],[],[],[],[],[],true⟩,[]⟩
theorem e275 (it:It (Int×Int)) (s:Shift) (t:Turn):fnRun (ts:=[.int .i64,.int .i64]) it E275 (bodyOf Tryz.f275) Tryz.f275.results.toList (encA [.Shift,.Turn] (s,t,()))=longest' it s t:=by kernel_rfl
def sp275:FnSpec iseat.toSeat:=mkSpec iseat.toSeat 275 [.Shift,.Turn] [.int .i64,.int .i64] true (fun a=>longest a.1 a.2.1) (fun a x hx h h'=>fn_contract (Z:=iseat) (ats:=[.Shift,.Turn]) (ts:=[.int .i64,.int .i64]) (E:=E275) (fn:=Tryz.f275) (c:=bodyOf Tryz.f275) Tryz.func275 (by kernel_rfl) (by kernel_rfl) (by kernel_rfl) (by kernel_rfl) rfl ((e275 itN a.1 a.2.1).trans ((longest_eq a.1 a.2.1).symm.trans hx)) h h') (fun _ x=>rfl)
def shortest' (it:It (Int×Int)) (s:Shift) (t:Turn):Option (Int×Int) :=
 some (t.From.Hi,t.To.Lo)
def shortest:Shift→Turn→Option (Int×Int):=(fun s t=>shortest' itN s t)
theorem shortest_eq (s:Shift) (t:Turn):shortest s t=shortest' itN s t:=rfl
def E276:FEnv iseat:=⟨⟨12,[],[],[],[],[],[],[],[],[],[],[],[],[],[],true⟩,[]⟩
theorem e276 (it:It (Int×Int)) (s:Shift) (t:Turn):fnRun (ts:=[.int .i64,.int .i64]) it E276 (bodyOf Tryz.f276) Tryz.f276.results.toList (encA [.Shift,.Turn] (s,t,()))=shortest' it s t:=by kernel_rfl
def sp276:FnSpec iseat.toSeat:=mkSpec iseat.toSeat 276 [.Shift,.Turn] [.int .i64,.int .i64] true (fun a=>shortest a.1 a.2.1) (fun a x hx h h'=>fn_contract (Z:=iseat) (ats:=[.Shift,.Turn]) (ts:=[.int .i64,.int .i64]) (E:=E276) (fn:=Tryz.f276) (c:=bodyOf Tryz.f276) Tryz.func276 (by kernel_rfl) (by kernel_rfl) (by kernel_rfl) (by kernel_rfl) rfl ((e276 itN a.1 a.2.1).trans ((shortest_eq a.1 a.2.1).symm.trans hx)) h h') (fun _ x=>rfl)
def minutesL_L5 (a0:Shift) (a1:Shift) (x10:Int) (kn_:Int→Option (List (Int×Bool×Unit))) (drives:Bool) (x17:Int) (kn_2:Bool→Int→Option (List (Int×Bool×Unit))):Option (List (Int×Bool×Unit)) :=
 bif (decide (x17<(a0.Driver.Turns.length:Int))) then
  chk (decide (0≤x17)&&decide (x17<(a0.Driver.Turns.length:Int))) <|
  (longest a1 (a0.Driver.Turns.getD x17.toNat dfltTurn)).bind fun r =>
  bif drives then
   kn_2 true (w64 (x17+1))
  else
   bif (decide (r.1≤x10)) then
    kn_2 (decide (x10<r.2)) (w64 (x17+1))
   else
    kn_2 false (w64 (x17+1))
 else
  consM (x10,drives,())
   (some [])
   (kn_ (w64 (x10+1)))
def minutesL_L1 (it:It (List (Int×Bool×Unit))) (a0:Shift) (a1:Shift) (x10:Int) (kn_:Int→Option (List (Int×Bool×Unit))):Option (List (Int×Bool×Unit)) :=
 bif (decide (x10<3000)) then
  it _ (fun (v_0:(Unit×Bool×Int×Unit)×(Unit)) kn=>minutesL_L5 a0 a1 x10 kn_ v_0.1.2.1 v_0.1.2.2.1 (fun y0 y1=>kn (((),y0,y1,()),(())))) (((),false,0,()),(()))
 else
  some []
def minutesL' (it:It (List (Int×Bool×Unit))) (a0:Shift) (a1:Shift):Option (List (Int×Bool×Unit)) :=
 it _ (fun (v_0:(Unit×Int×Unit)×(Unit)) kn=>minutesL_L1 it a0 a1 v_0.1.2.1 (fun y0=>kn (((),y0,()),(())))) (((),0,()),(()))
def minutesL:Shift→Shift→Option (List (Int×Bool×Unit)):=(fun a0 a1=>minutesL' itN a0 a1)
theorem minutesL_eq (a0:Shift) (a1:Shift):minutesL a0 a1=minutesL' itN a0 a1:=rfl
def E328_275:FEnv iseat:=⟨⟨45,[sp275],[],[],[],[],[],[],[],[],[],[],[],[],[YL],true⟩,[(1,⟨⟨[(0,.yl YL),(10,.v (.int .i64))],[]⟩,[1,2],[],[]⟩),(5,⟨⟨[(0,.yl YL),(5,.v .bool),(17,.v (.int .i64))],[]⟩,[4,10,15,16],[],[]⟩)]⟩
theorem e328_275 (it:It (List (Int×Bool×Unit))) (a0:Shift) (a1:Shift):fnRunI [.int .i64,.bool] it E328_275 (bodyOf Tryz.f328) (encA [.ptr .Shift,.ptr (.mfn 275 .Shift)] (a0,a1,()))=minutesL' it a0 a1:=by kernel_rfl
def it328_275:ItSpec iseat.toSeat:=mkItSpec iseat.toSeat 328 [.ptr .Shift,.ptr (.mfn 275 .Shift)] [.int .i64,.bool] rfl (fun a=>minutesL a.1 a.2.1) (fun a x hx h=>it_contract (Z:=iseat) (cts:=[.ptr .Shift,.ptr (.mfn 275 .Shift)]) (E:=E328_275) (fn:=Tryz.f328) (c:=bodyOf Tryz.f328) Tryz.func328 (by kernel_rfl) (by kernel_rfl) (by kernel_rfl) (by kernel_rfl) rfl rfl ((e328_275 itN a.1 a.2.1).trans ((minutesL_eq a.1 a.2.1).symm.trans hx)) h)
def minutesS_L5 (a0:Shift) (a1:Shift) (x10:Int) (kn_:Int→Option (List (Int×Bool×Unit))) (drives:Bool) (x17:Int) (kn_2:Bool→Int→Option (List (Int×Bool×Unit))):Option (List (Int×Bool×Unit)) :=
 bif (decide (x17<(a0.Driver.Turns.length:Int))) then
  chk (decide (0≤x17)&&decide (x17<(a0.Driver.Turns.length:Int))) <|
  (shortest a1 (a0.Driver.Turns.getD x17.toNat dfltTurn)).bind fun r =>
  bif drives then
   kn_2 true (w64 (x17+1))
  else
   bif (decide (r.1≤x10)) then
    kn_2 (decide (x10<r.2)) (w64 (x17+1))
   else
    kn_2 false (w64 (x17+1))
 else
  consM (x10,drives,())
   (some [])
   (kn_ (w64 (x10+1)))
def minutesS_L1 (it:It (List (Int×Bool×Unit))) (a0:Shift) (a1:Shift) (x10:Int) (kn_:Int→Option (List (Int×Bool×Unit))):Option (List (Int×Bool×Unit)) :=
 bif (decide (x10<3000)) then
  it _ (fun (v_0:(Unit×Bool×Int×Unit)×(Unit)) kn=>minutesS_L5 a0 a1 x10 kn_ v_0.1.2.1 v_0.1.2.2.1 (fun y0 y1=>kn (((),y0,y1,()),(())))) (((),false,0,()),(()))
 else
  some []
def minutesS' (it:It (List (Int×Bool×Unit))) (a0:Shift) (a1:Shift):Option (List (Int×Bool×Unit)) :=
 it _ (fun (v_0:(Unit×Int×Unit)×(Unit)) kn=>minutesS_L1 it a0 a1 v_0.1.2.1 (fun y0=>kn (((),y0,()),(())))) (((),0,()),(()))
def minutesS:Shift→Shift→Option (List (Int×Bool×Unit)):=(fun a0 a1=>minutesS' itN a0 a1)
theorem minutesS_eq (a0:Shift) (a1:Shift):minutesS a0 a1=minutesS' itN a0 a1:=rfl
def E328_276:FEnv iseat:=⟨⟨45,[sp276],[],[],[],[],[],[],[],[],[],[],[],[],[YL],true⟩,[(1,⟨⟨[(0,.yl YL),(10,.v (.int .i64))],[]⟩,[1,2],[],[]⟩),(5,⟨⟨[(0,.yl YL),(5,.v .bool),(17,.v (.int .i64))],[]⟩,[4,10,15,16],[],[]⟩)]⟩
theorem e328_276 (it:It (List (Int×Bool×Unit))) (a0:Shift) (a1:Shift):fnRunI [.int .i64,.bool] it E328_276 (bodyOf Tryz.f328) (encA [.ptr .Shift,.ptr (.mfn 276 .Shift)] (a0,a1,()))=minutesS' it a0 a1:=by kernel_rfl
def it328_276:ItSpec iseat.toSeat:=mkItSpec iseat.toSeat 328 [.ptr .Shift,.ptr (.mfn 276 .Shift)] [.int .i64,.bool] rfl (fun a=>minutesS a.1 a.2.1) (fun a x hx h=>it_contract (Z:=iseat) (cts:=[.ptr .Shift,.ptr (.mfn 276 .Shift)]) (E:=E328_276) (fn:=Tryz.f328) (c:=bodyOf Tryz.f328) Tryz.func328 (by kernel_rfl) (by kernel_rfl) (by kernel_rfl) (by kernel_rfl) rfl rfl ((e328_276 itN a.1 a.2.1).trans ((minutesS_eq a.1 a.2.1).symm.trans hx)) h)
def it328:ItSpec iseat.toSeat:=(altIt 1 275 328 [.int .i64,.bool] it328_275 it328_276 rfl rfl rfl rfl)
def minL' (it:It (Shift×Shift)) (s:Shift) (turn:Shift):Option (Shift×Shift) :=
 some (s,turn)
def minL:Shift→Shift→Option (Shift×Shift):=(fun s turn=>minL' itN s turn)
theorem minL_eq (s:Shift) (turn:Shift):minL s turn=minL' itN s turn:=rfl
def E306_275:FEnv iseat:=⟨⟨6,[],[],[],[],[],[],[],[],[],[],[],[],[],[],true⟩,[]⟩
theorem e306_275 (it:It (Shift×Shift)) (s:Shift) (turn:Shift):fnRunC2 328 .Shift (.mfn 275 .Shift) it E306_275 (bodyOf Tryz.f306) Tryz.f306.results.toList (encA [.Shift,.mfn 275 .Shift] (s,turn,()))=minL' it s turn:=by kernel_rfl
def sp306_275:FnSpec iseat.toSeat:=mkSpec iseat.toSeat 306 [.Shift,.mfn 275 .Shift] [.clo2 328 .Shift (.mfn 275 .Shift)] false (fun a=>minL a.1 a.2.1) (fun a x hx h h'=>fn_contractC2 (Z:=iseat) (ats:=[.Shift,.mfn 275 .Shift]) (E:=E306_275) (fn:=Tryz.f306) (c:=bodyOf Tryz.f306) Tryz.func306 (by kernel_rfl) (by kernel_rfl) (by kernel_rfl) (by kernel_rfl) rfl ((e306_275 itN a.1 a.2.1).trans ((minL_eq a.1 a.2.1).symm.trans hx)) h h') (fun h=>nomatch h)
def minS' (it:It (Shift×Shift)) (s:Shift) (turn:Shift):Option (Shift×Shift) :=
 some (s,turn)
def minS:Shift→Shift→Option (Shift×Shift):=(fun s turn=>minS' itN s turn)
theorem minS_eq (s:Shift) (turn:Shift):minS s turn=minS' itN s turn:=rfl
def E306_276:FEnv iseat:=⟨⟨6,[],[],[],[],[],[],[],[],[],[],[],[],[],[],true⟩,[]⟩
theorem e306_276 (it:It (Shift×Shift)) (s:Shift) (turn:Shift):fnRunC2 328 .Shift (.mfn 276 .Shift) it E306_276 (bodyOf Tryz.f306) Tryz.f306.results.toList (encA [.Shift,.mfn 276 .Shift] (s,turn,()))=minS' it s turn:=by kernel_rfl
def sp306_276:FnSpec iseat.toSeat:=mkSpec iseat.toSeat 306 [.Shift,.mfn 276 .Shift] [.clo2 328 .Shift (.mfn 276 .Shift)] false (fun a=>minS a.1 a.2.1) (fun a x hx h h'=>fn_contractC2 (Z:=iseat) (ats:=[.Shift,.mfn 276 .Shift]) (E:=E306_276) (fn:=Tryz.f306) (c:=bodyOf Tryz.f306) Tryz.func306 (by kernel_rfl) (by kernel_rfl) (by kernel_rfl) (by kernel_rfl) rfl ((e306_276 itN a.1 a.2.1).trans ((minS_eq a.1 a.2.1).symm.trans hx)) h h') (fun h=>nomatch h)
def sp306:FnSpec iseat.toSeat:=(altSpec 1 275 306 false sp306_275 sp306_276 rfl rfl rfl rfl)
def brokenL_L11 (x14:Int) (s:Shift) (since:Int) (kn_:Int→Int→Int→Int→(List Int)→Option (Int×Int)) (rule:Int) (minute:Int) (driven2:List Int) (kn_2:(List Int)→Option (Int×Int)):Option (Int×Int) :=
 chk (decide (0≤0)&&decide (0<(driven2.length:Int))) <|
 chk (decide (0<driven2.length)) <|
 bif (decide ((driven2.getD 0 0)≤(w64 (x14 - s.rules.Day)))) then
  chk (decide (0≤1)&&decide (1≤(driven2.length:Int))&&decide ((driven2.length:Int)≤(driven2.length:Int))) <|
  kn_2 (subL driven2 1 (driven2.length:Int))
 else
  bif (decide ((w64 (since+1)) > s.rules.Drive)) then
   some (1,x14)
  else
   bif (decide ((driven2.length:Int) > s.rules.Most)) then
    some (2,x14)
   else
    kn_ rule minute (w64 (since+1)) 0 driven2
def brokenL_E4 (rule:Int) (minute:Int) (since:Int) (idle:Int) (driven:List Int):Option (Int×Int) :=
 some (0,0)
def brokenL_L4 (it:It (Int×Int)) (s:Shift) (rule:Int) (minute:Int) (since:Int) (idle:Int) (driven:List Int) (x14:Int) (x15:Bool) (kn_:Int→Int→Int→Int→(List Int)→Option (Int×Int)):Option (Int×Int) :=
 bif (!x15) then
  bif (decide ((w64 (idle+1)) ≥ s.rules.Rest)) then
   kn_ rule minute 0 (w64 (idle+1)) driven
  else
   kn_ rule minute since (w64 (idle+1)) driven
 else
  chk (fitA (driven.length+[x14].length) 8) <|
  it _ (fun (v_0:(Unit×Unit×Unit×Unit×Unit×Unit×Unit)×(((List Int)×Unit)×Unit)) kn=>brokenL_L11 x14 s since kn_ rule minute v_0.2.1.1 (fun y0=>kn (((),(),(),(),(),(),()),((y0,()),())))) (((),(),(),(),(),(),()),(((driven++[x14]),()),()))
def brokenL' (it:It (Int×Int)) (s:Shift) (turn:Shift):Option (Int×Int) :=
 (minL s turn).bind fun r =>
 (minutesL r.1 r.2).bind fun items=>it _ (fun (v_0:((Unit×Unit×Unit×Unit×Unit×Unit×Unit)×((Int×Unit)×(Int×Unit)×(Int×Unit)×(Int×Unit)×((List Int)×Unit)×Unit))×List (Int×Bool×Unit)) kn=>match v_0.2 with
  |[]=>brokenL_E4 v_0.1.2.1.1 v_0.1.2.2.1.1 v_0.1.2.2.2.1.1 v_0.1.2.2.2.2.1.1 v_0.1.2.2.2.2.2.1.1
  |a::l=>brokenL_L4 it s v_0.1.2.1.1 v_0.1.2.2.1.1 v_0.1.2.2.2.1.1 v_0.1.2.2.2.2.1.1 v_0.1.2.2.2.2.2.1.1 a.1 a.2.1 (fun y0 y1 y2 y3 y4=>kn ((((),(),(),(),(),(),()),((y0,()),(y1,()),(y2,()),(y3,()),(y4,()),())),l))) ((((),(),(),(),(),(),()),((0,()),(0,()),(0,()),(0,()),([],()),())),items)
def brokenL:Shift→Shift→Option (Int×Int):=(fun s turn=>brokenL' itN s turn)
theorem brokenL_eq (s:Shift) (turn:Shift):brokenL s turn=brokenL' itN s turn:=rfl
def E274_275:FEnv iseat:=⟨⟨57,[sp306],[],[],[],[it328],[],[],[],[],[],[],[],[29],[],true⟩,[(4,⟨⟨[(2,.bx 2 0),(4,.bx 4 0),(5,.bx 5 0),(6,.bx 6 0),(7,.bx 7 0),(8,.bx 8 0)],[(4,[.v (.int .i64)]),(5,[.v (.int .i64)]),(6,[.v (.int .i64)]),(7,[.v (.int .i64)]),(8,[.os 30 3 (.int .i64)])]⟩,[13],[2],[]⟩),(11,⟨⟨[(2,.bx 2 0),(4,.bx 4 0),(5,.bx 5 0),(6,.bx 6 0),(7,.bx 7 0),(8,.bx 8 0)],[(8,[.os 30 3 (.int .i64)])]⟩,[9],[4,5,6,7],[]⟩)]⟩
theorem e274_275 (it:It (Int×Int)) (s:Shift) (turn:Shift):fnRun (ts:=[.int .i64,.int .i64]) it E274_275 (bodyOf Tryz.f274) Tryz.f274.results.toList (encA [.Shift,.mfn 275 .Shift] (s,turn,()))=brokenL' it s turn:=by kernel_rfl
def sp274_275:FnSpec iseat.toSeat:=mkSpec iseat.toSeat 274 [.Shift,.mfn 275 .Shift] [.int .i64,.int .i64] true (fun a=>brokenL a.1 a.2.1) (fun a x hx h h'=>fn_contract (Z:=iseat) (ats:=[.Shift,.mfn 275 .Shift]) (ts:=[.int .i64,.int .i64]) (E:=E274_275) (fn:=Tryz.f274) (c:=bodyOf Tryz.f274) Tryz.func274 (by kernel_rfl) (by kernel_rfl) (by kernel_rfl) (by kernel_rfl) rfl ((e274_275 itN a.1 a.2.1).trans ((brokenL_eq a.1 a.2.1).symm.trans hx)) h h') (fun _ x=>rfl)
def brokenS_L11 (x14:Int) (s:Shift) (since:Int) (kn_:Int→Int→Int→Int→(List Int)→Option (Int×Int)) (rule:Int) (minute:Int) (driven2:List Int) (kn_2:(List Int)→Option (Int×Int)):Option (Int×Int) :=
 chk (decide (0≤0)&&decide (0<(driven2.length:Int))) <|
 chk (decide (0<driven2.length)) <|
 bif (decide ((driven2.getD 0 0)≤(w64 (x14 - s.rules.Day)))) then
  chk (decide (0≤1)&&decide (1≤(driven2.length:Int))&&decide ((driven2.length:Int)≤(driven2.length:Int))) <|
  kn_2 (subL driven2 1 (driven2.length:Int))
 else
  bif (decide ((w64 (since+1)) > s.rules.Drive)) then
   some (1,x14)
  else
   bif (decide ((driven2.length:Int) > s.rules.Most)) then
    some (2,x14)
   else
    kn_ rule minute (w64 (since+1)) 0 driven2
def brokenS_E4 (rule:Int) (minute:Int) (since:Int) (idle:Int) (driven:List Int):Option (Int×Int) :=
 some (0,0)
def brokenS_L4 (it:It (Int×Int)) (s:Shift) (rule:Int) (minute:Int) (since:Int) (idle:Int) (driven:List Int) (x14:Int) (x15:Bool) (kn_:Int→Int→Int→Int→(List Int)→Option (Int×Int)):Option (Int×Int) :=
 bif (!x15) then
  bif (decide ((w64 (idle+1)) ≥ s.rules.Rest)) then
   kn_ rule minute 0 (w64 (idle+1)) driven
  else
   kn_ rule minute since (w64 (idle+1)) driven
 else
  chk (fitA (driven.length+[x14].length) 8) <|
  it _ (fun (v_0:(Unit×Unit×Unit×Unit×Unit×Unit×Unit)×(((List Int)×Unit)×Unit)) kn=>brokenS_L11 x14 s since kn_ rule minute v_0.2.1.1 (fun y0=>kn (((),(),(),(),(),(),()),((y0,()),())))) (((),(),(),(),(),(),()),(((driven++[x14]),()),()))
def brokenS' (it:It (Int×Int)) (s:Shift) (turn:Shift):Option (Int×Int) :=
 (minS s turn).bind fun r =>
 (minutesS r.1 r.2).bind fun items=>it _ (fun (v_0:((Unit×Unit×Unit×Unit×Unit×Unit×Unit)×((Int×Unit)×(Int×Unit)×(Int×Unit)×(Int×Unit)×((List Int)×Unit)×Unit))×List (Int×Bool×Unit)) kn=>match v_0.2 with
  |[]=>brokenS_E4 v_0.1.2.1.1 v_0.1.2.2.1.1 v_0.1.2.2.2.1.1 v_0.1.2.2.2.2.1.1 v_0.1.2.2.2.2.2.1.1
  |a::l=>brokenS_L4 it s v_0.1.2.1.1 v_0.1.2.2.1.1 v_0.1.2.2.2.1.1 v_0.1.2.2.2.2.1.1 v_0.1.2.2.2.2.2.1.1 a.1 a.2.1 (fun y0 y1 y2 y3 y4=>kn ((((),(),(),(),(),(),()),((y0,()),(y1,()),(y2,()),(y3,()),(y4,()),())),l))) ((((),(),(),(),(),(),()),((0,()),(0,()),(0,()),(0,()),([],()),())),items)
def brokenS:Shift→Shift→Option (Int×Int):=(fun s turn=>brokenS' itN s turn)
theorem brokenS_eq (s:Shift) (turn:Shift):brokenS s turn=brokenS' itN s turn:=rfl
def E274_276:FEnv iseat:=⟨⟨57,[sp306],[],[],[],[it328],[],[],[],[],[],[],[],[29],[],true⟩,[(4,⟨⟨[(2,.bx 2 0),(4,.bx 4 0),(5,.bx 5 0),(6,.bx 6 0),(7,.bx 7 0),(8,.bx 8 0)],[(4,[.v (.int .i64)]),(5,[.v (.int .i64)]),(6,[.v (.int .i64)]),(7,[.v (.int .i64)]),(8,[.os 30 3 (.int .i64)])]⟩,[13],[2],[]⟩),(11,⟨⟨[(2,.bx 2 0),(4,.bx 4 0),(5,.bx 5 0),(6,.bx 6 0),(7,.bx 7 0),(8,.bx 8 0)],[(8,[.os 30 3 (.int .i64)])]⟩,[9],[4,5,6,7],[]⟩)]⟩
theorem e274_276 (it:It (Int×Int)) (s:Shift) (turn:Shift):fnRun (ts:=[.int .i64,.int .i64]) it E274_276 (bodyOf Tryz.f274) Tryz.f274.results.toList (encA [.Shift,.mfn 276 .Shift] (s,turn,()))=brokenS' it s turn:=by kernel_rfl
def sp274_276:FnSpec iseat.toSeat:=mkSpec iseat.toSeat 274 [.Shift,.mfn 276 .Shift] [.int .i64,.int .i64] true (fun a=>brokenS a.1 a.2.1) (fun a x hx h h'=>fn_contract (Z:=iseat) (ats:=[.Shift,.mfn 276 .Shift]) (ts:=[.int .i64,.int .i64]) (E:=E274_276) (fn:=Tryz.f274) (c:=bodyOf Tryz.f274) Tryz.func274 (by kernel_rfl) (by kernel_rfl) (by kernel_rfl) (by kernel_rfl) rfl ((e274_276 itN a.1 a.2.1).trans ((brokenS_eq a.1 a.2.1).symm.trans hx)) h h') (fun _ x=>rfl)
def sp274:FnSpec iseat.toSeat:=(altSpec 1 275 274 true sp274_275 sp274_276 rfl rfl rfl rfl)
def pVerdict' (it:It Int) (s:Shift):Option Int :=
 (brokenL s s).bind fun r =>
 bif (r.1 == 0) then
  some 1
 else
  (brokenS s s).bind fun r2 =>
  bif (r2.1 != 0) then
   some 2
  else
   some 3
def pVerdict:Shift→Option Int:=(fun s=>pVerdict' itN s)
theorem pVerdict_eq (s:Shift):pVerdict s=pVerdict' itN s:=rfl
def E241:FEnv iseat:=⟨⟨25,[sp274],[],[],[],[],[],[],[],[],[],[],[],[],[],true⟩,[]⟩
theorem e241 (it:It Int) (s:Shift):fnRun (ts:=[.int .i64]) it E241 (bodyOf Tryz.f241) Tryz.f241.results.toList (encA [.Shift] (s,()))=pVerdict' it s:=by kernel_rfl
def pClashes_L2 (s:Shift) (at_:Int) (long:Int) (x13:Int) (kn_:Int→Option Bool):Option Bool :=
 bif (decide (x13<(s.Driver.Turns.length:Int))) then
  chk (decide (0≤x13)&&decide (x13<(s.Driver.Turns.length:Int))) <|
  bif (decide (at_<(s.Driver.Turns.getD x13.toNat dfltTurn).To.Hi)) then
   bif (decide ((w64 (at_+long)) > (s.Driver.Turns.getD x13.toNat dfltTurn).From.Lo)) then
    some true
   else
    kn_ (w64 (x13+1))
  else
   kn_ (w64 (x13+1))
 else
  some false
def pClashes' (it:It Bool) (s:Shift) (at_:Int) (long:Int):Option Bool :=
 it _ (fun (v_0:(Int×Unit)×(Unit)) kn=>pClashes_L2 s at_ long v_0.1.1 (fun y0=>kn ((y0,()),(())))) ((0,()),(()))
def pClashes:Shift→Int→Int→Option Bool:=(fun s at_ long=>pClashes' itN s at_ long)
theorem pClashes_eq (s:Shift) (at_:Int) (long:Int):pClashes s at_ long=pClashes' itN s at_ long:=rfl
def E239:FEnv iseat:=⟨⟨32,[],[],[],[],[],[],[],[],[],[],[],[],[],[],true⟩,[(2,⟨⟨[(13,.v (.int .i64))],[]⟩,[1,2,11,12],[],[]⟩)]⟩
theorem e239 (it:It Bool) (s:Shift) (at_:Int) (long:Int):fnRun (ts:=[.bool]) it E239 (bodyOf Tryz.f239) Tryz.f239.results.toList (encA [.Shift,.int .i64,.int .i64] (s,at_,long,()))=pClashes' it s at_ long:=by kernel_rfl
def sp239:FnSpec iseat.toSeat:=mkSpec iseat.toSeat 239 [.Shift,.int .i64,.int .i64] [.bool] true (fun a=>pClashes a.1 a.2.1 a.2.2.1) (fun a x hx h h'=>fn_contract (Z:=iseat) (ats:=[.Shift,.int .i64,.int .i64]) (ts:=[.bool]) (E:=E239) (fn:=Tryz.f239) (c:=bodyOf Tryz.f239) Tryz.func239 (by kernel_rfl) (by kernel_rfl) (by kernel_rfl) (by kernel_rfl) rfl ((e239 itN a.1 a.2.1 a.2.2.1).trans ((pClashes_eq a.1 a.2.1 a.2.2.1).symm.trans hx)) h h') (fun _ x=>rfl)
def more' (it:It Shift) (s:Shift) (at_:Int) (long:Int):Option Shift :=
 chk (fitM (w64 ((s.Driver.Turns.length:Int)+1)) 32) <|
 chk (decide (0≤(s.Driver.Turns.length:Int))&&decide ((s.Driver.Turns.length:Int)<((cpL (List.replicate (w64 ((s.Driver.Turns.length:Int)+1)).toNat ((⟨⟨0,0⟩,⟨0,0⟩⟩:Turn):Turn)) s.Driver.Turns).length:Int))) <|
 chk (decide ((s.Driver.Turns.length:Int).toNat<(cpL (List.replicate (w64 ((s.Driver.Turns.length:Int)+1)).toNat ((⟨⟨0,0⟩,⟨0,0⟩⟩:Turn):Turn)) s.Driver.Turns).length)) <|
 some (⟨⟨s.Driver.Name,s.Driver.Skills,((cpL (List.replicate (w64 ((s.Driver.Turns.length:Int)+1)).toNat ((⟨⟨0,0⟩,⟨0,0⟩⟩:Turn):Turn)) s.Driver.Turns).set (s.Driver.Turns.length:Int).toNat (⟨⟨at_,at_⟩,⟨(w64 (at_+long)),(w64 (at_+long))⟩⟩:Turn))⟩,s.rules⟩:Shift)
def more:Shift→Int→Int→Option Shift:=(fun s at_ long=>more' itN s at_ long)
theorem more_eq (s:Shift) (at_:Int) (long:Int):more s at_ long=more' itN s at_ long:=rfl
def E240:FEnv iseat:=⟨⟨40,[],[],[],[],[],[],[],[],[],[],[],[],[],[],true⟩,[]⟩
theorem e240 (it:It Shift) (s:Shift) (at_:Int) (long:Int):fnRun (ts:=[.Shift]) it E240 (bodyOf Tryz.f240) Tryz.f240.results.toList (encA [.Shift,.int .i64,.int .i64] (s,at_,long,()))=more' it s at_ long:=by kernel_rfl
def sp240:FnSpec iseat.toSeat:=mkSpec iseat.toSeat 240 [.Shift,.int .i64,.int .i64] [.Shift] false (fun a=>more a.1 a.2.1 a.2.2.1) (fun a x hx h h'=>fn_contract (Z:=iseat) (ats:=[.Shift,.int .i64,.int .i64]) (ts:=[.Shift]) (E:=E240) (fn:=Tryz.f240) (c:=bodyOf Tryz.f240) Tryz.func240 (by kernel_rfl) (by kernel_rfl) (by kernel_rfl) (by kernel_rfl) rfl ((e240 itN a.1 a.2.1 a.2.2.1).trans ((more_eq a.1 a.2.1 a.2.2.1).symm.trans hx)) h h') (fun h=>nomatch h)
def pMay1' (it:It Bool) (s:Shift) (at_:Int) (long:Int):Option Bool :=
 (pClashes s at_ long).bind fun r =>
 bif r then
  some false
 else
  (more s at_ long).bind fun r2 =>
  (brokenL r2 r2).bind fun r3 =>
  some (r3.1 == 0)
def pMay1:Shift→Int→Int→Option Bool:=(fun s at_ long=>pMay1' itN s at_ long)
theorem pMay1_eq (s:Shift) (at_:Int) (long:Int):pMay1 s at_ long=pMay1' itN s at_ long:=rfl
def E257:FEnv iseat:=⟨⟨27,[sp239,sp240,sp274],[],[],[],[],[],[],[],[],[],[],[],[],[],true⟩,[]⟩
theorem e257 (it:It Bool) (s:Shift) (at_:Int) (long:Int):fnRun (ts:=[.bool]) it E257 (bodyOf Tryz.f257) Tryz.f257.results.toList (encA [.Shift,.int .i64,.int .i64] (s,at_,long,()))=pMay1' it s at_ long:=by kernel_rfl
end
end Go.Proofs.Rd10
namespace Go.Proofs.Rd10
open Go Go.Ab
set_option linter.all false
set_option maxRecDepth 100000
theorem ok_eq {α:Type}{x:Option α}{a:α} (h:Ok (fun b=>b=a) x):x=some a:=by obtain ⟨b,h1,rfl⟩:=h;exact h1
theorem Ok.beq {α β:Type}{Q:β→Prop}{x:Option α}{a:α}{f:α→Option β} (hx:x=some a) (hf:Ok Q (f a)):Ok Q (x.bind f):=by subst hx;exact hf
theorem Ok.roundsD {α γ:Type}{F:γ→(γ→Option α)→Option α}{v0:γ} (inv:γ→Prop) (μ:γ→Nat) (P:γ→α→Prop) (hμ:μ v0<FUEL) (h0:inv v0)
  (step:∀ v kn,inv v→(∀ v',inv v'→μ v'<μ v→Ok (P v') (kn v'))→Ok (P v) (F v kn)):Ok (P v0) (itN γ F v0):=by
 have key:∀ n v,inv v→μ v<n→Ok (P v) (iter F n v):=by
  intro n
  induction n with
  |zero=>intro v _ h;omega
  |succ n ih =>
   intro v hv hn
   exact step v (iter F n) hv fun v' hv' hlt=>ih v' hv' (by omega)
 exact key FUEL v0 h0 hμ
theorem ib {i:Int}{n:Nat} (h1:0≤i) (h2:i<n):(decide (0≤i)&&decide (i<(n:Int)))=true:=by simp;omega
theorem drop_get {α:Type}{l:List α}{d:α}{i:Nat} (h:i<l.length):l.drop i=l.getD i d::l.drop (i+1):=by
 rw[List.drop_eq_getElem_cons h]
 simp[List.getD_eq_getElem?_getD,h]
theorem toNat_succ {i:Int} (h:0≤i):(i+1).toNat=i.toNat+1:=by omega
theorem fitA_ok {n b:Nat} (hn:n≤1000000) (hb:b≤1000000):fitA n b=true:=by
 unfold fitA
 have:n * b≤1000000 * 1000000:=Nat.mul_le_mul hn hb
 simp;omega
def drv (ts:List (Int×Int)) (m:Int):Bool:=ts.any fun t=>decide (t.1≤m)&&decide (m<t.2)
def turnsL (l:List Turn):List (Int×Int):=l.map fun t=>(t.From.Lo,t.To.Hi)
def turnsS (l:List Turn):List (Int×Int):=l.map fun t=>(t.From.Hi,t.To.Lo)
def itemsOf (D:Int→Bool) (a n:Nat):List (Int×Bool×Unit):=(List.range' a n).map fun (m:Nat)=>((m:Int),D (m:Int),())
theorem items_succ (D:Int→Bool) (a n:Nat):itemsOf D a (n+1)=((a:Int),D a,())::itemsOf D (a+1) n:=by simp[itemsOf,List.range'_succ]
theorem drv_take (ts:List (Int×Int)) (m:Int) (i:Nat) (h:i<ts.length):drv (ts.take (i+1)) m=(drv (ts.take i) m || (decide ((ts.getD i (0,0)).1≤m)&&decide (m<(ts.getD i (0,0)).2))):=by
 unfold drv
 rw[List.take_succ,List.any_append,List.getD_eq_getElem?_getD,List.getElem?_eq_getElem h]
 simp
theorem longest_sp (s:Shift) (t:Turn):longest s t=some (t.From.Lo,t.To.Hi):=by rw[longest_eq];rfl
theorem minutesL_sp (a b:Shift) (hn:a.Driver.Turns.length≤1000):minutesL a b=some (itemsOf (drv (turnsL a.Driver.Turns)) 0 3000):=by
 apply ok_eq
 rw[minutesL_eq]
 unfold minutesL'
 refine (Ok.roundsD (P:=fun (v:(Unit×Int×Unit)×Unit) r=>r=itemsOf (drv (turnsL a.Driver.Turns)) v.1.2.1.toNat (3000 - v.1.2.1.toNat)) (fun (v:(Unit×Int×Unit)×Unit)=>0≤v.1.2.1∧v.1.2.1≤3000) (fun (v:(Unit×Int×Unit)×Unit)=>(3000 - v.1.2.1).toNat) (by show (3000 - (0:Int)).toNat<FUEL;unfold FUEL;decide) ⟨by decide,by decide⟩ ?_)
 rintro ⟨⟨u1,x,u2⟩,u3⟩ kn ⟨h0,h1⟩ hk
 simp only at h0 h1 ⊢
 unfold minutesL_L1
 refine Ok.ite (fun hc=>?_) (fun hc=>?_)
 ·have hx:=of_decide_eq_true hc
  refine Ok.rounds (fun v=>0≤v.1.2.2.1∧v.1.2.2.1≤a.Driver.Turns.length∧v.1.2.1=drv ((turnsL a.Driver.Turns).take v.1.2.2.1.toNat) x) (fun v=>(a.Driver.Turns.length - v.1.2.2.1).toNat) ?_ ⟨by decide,by simp,by simp[drv]⟩ ?_
  ·simp only;unfold FUEL;omega
  rintro ⟨⟨v1,d,i,v2⟩,v3⟩ kn2 ⟨i0,i1,i2⟩ hk2
  simp only at i0 i1 i2 hk2 ⊢
  unfold minutesL_L5
  refine Ok.ite (fun hc=>?_) (fun hc=>?_)
  ·have hi:=of_decide_eq_true hc
   refine Ok.chk (ib i0 hi) ?_
   refine Ok.beq (longest_sp _ _) ?_
   have hi':i.toNat<a.Driver.Turns.length:=by omega
   have hl:i.toNat<(turnsL a.Driver.Turns).length:=by simp[turnsL];omega
   have e1:w64 (i+1)=i+1:=w64_id (by omega) (by omega)
   have hg:(turnsL a.Driver.Turns).getD i.toNat (0,0)=((a.Driver.Turns.getD i.toNat dfltTurn).From.Lo,(a.Driver.Turns.getD i.toNat dfltTurn).To.Hi):=by
    simp only[turnsL,List.getD_eq_getElem?_getD,List.getElem?_map,List.getElem?_eq_getElem hi'];rfl
   have hd:=drv_take (turnsL a.Driver.Turns) x i.toNat hl
   rw[hg,← i2]at hd
   simp only[e1]
   have hfin:∀ b:Bool,b=(d || (decide ((a.Driver.Turns.getD i.toNat dfltTurn).From.Lo≤x)&&decide (x<(a.Driver.Turns.getD i.toNat dfltTurn).To.Hi)))→Ok (fun r=>r=itemsOf (drv (turnsL a.Driver.Turns)) x.toNat (3000 - x.toNat)) (kn2 ((v1,b,i+1,v2),v3)):=fun b hb=>by
    refine hk2 ((v1,b,i+1,v2),v3) ⟨by simp only;omega,by simp only;omega,?_⟩ (by simp only;omega)
    simp only
    rw[toNat_succ i0,hd,hb]
   refine Ok.ite (fun hd2=>?_) (fun hd2=>?_)
   ·exact hfin true (by rw[hd2];rfl)
   ·refine Ok.ite (fun h3=>?_) (fun h3=>?_)
    ·exact hfin _ (by rw[hd2,h3];simp)
    ·exact hfin _ (by rw[hd2,h3];simp)
  ·have hi:i=a.Driver.Turns.length:=by have:=of_decide_eq_false hc;omega
   subst hi
   have e1:w64 (x+1)=x+1:=w64_id (by omega) (by omega)
   have hd:d=drv (turnsL a.Driver.Turns) x:=by
    rw[i2,Int.toNat_natCast,List.take_of_length_le (by simp[turnsL])]
   have hn0:3000 - x.toNat=(3000 - (x+1).toNat)+1:=by omega
   obtain ⟨l,hl1,hl2⟩:=hk ((u1,x+1,u2),u3) ⟨by simp only;omega,by simp only;omega⟩ (by simp only;omega)
   simp only at hl2
   refine ⟨(x,d,())::l,?_,?_⟩
   ·simp only[consM,e1,hl1]
   ·rw[hn0,items_succ,hl2,hd,toNat_succ h0,Int.toNat_of_nonneg h0]
 ·have hx:x=3000:=by have:=of_decide_eq_false hc;omega
  subst hx
  exact Ok.some rfl
theorem shortest_sp (s:Shift) (t:Turn):shortest s t=some (t.From.Hi,t.To.Lo):=by rw[shortest_eq];rfl
theorem minutesS_sp (a b:Shift) (hn:a.Driver.Turns.length≤1000):minutesS a b=some (itemsOf (drv (turnsS a.Driver.Turns)) 0 3000):=by
 apply ok_eq
 rw[minutesS_eq]
 unfold minutesS'
 refine (Ok.roundsD (P:=fun (v:(Unit×Int×Unit)×Unit) r=>r=itemsOf (drv (turnsS a.Driver.Turns)) v.1.2.1.toNat (3000 - v.1.2.1.toNat)) (fun (v:(Unit×Int×Unit)×Unit)=>0≤v.1.2.1∧v.1.2.1≤3000) (fun (v:(Unit×Int×Unit)×Unit)=>(3000 - v.1.2.1).toNat) (by show (3000 - (0:Int)).toNat<FUEL;unfold FUEL;decide) ⟨by decide,by decide⟩ ?_)
 rintro ⟨⟨u1,x,u2⟩,u3⟩ kn ⟨h0,h1⟩ hk
 simp only at h0 h1 ⊢
 unfold minutesS_L1
 refine Ok.ite (fun hc=>?_) (fun hc=>?_)
 ·have hx:=of_decide_eq_true hc
  refine Ok.rounds (fun v=>0≤v.1.2.2.1∧v.1.2.2.1≤a.Driver.Turns.length∧v.1.2.1=drv ((turnsS a.Driver.Turns).take v.1.2.2.1.toNat) x) (fun v=>(a.Driver.Turns.length - v.1.2.2.1).toNat) ?_ ⟨by decide,by simp,by simp[drv]⟩ ?_
  ·simp only;unfold FUEL;omega
  rintro ⟨⟨v1,d,i,v2⟩,v3⟩ kn2 ⟨i0,i1,i2⟩ hk2
  simp only at i0 i1 i2 hk2 ⊢
  unfold minutesS_L5
  refine Ok.ite (fun hc=>?_) (fun hc=>?_)
  ·have hi:=of_decide_eq_true hc
   refine Ok.chk (ib i0 hi) ?_
   refine Ok.beq (shortest_sp _ _) ?_
   have hi':i.toNat<a.Driver.Turns.length:=by omega
   have hl:i.toNat<(turnsS a.Driver.Turns).length:=by simp[turnsS];omega
   have e1:w64 (i+1)=i+1:=w64_id (by omega) (by omega)
   have hg:(turnsS a.Driver.Turns).getD i.toNat (0,0)=((a.Driver.Turns.getD i.toNat dfltTurn).From.Hi,(a.Driver.Turns.getD i.toNat dfltTurn).To.Lo):=by
    simp only[turnsS,List.getD_eq_getElem?_getD,List.getElem?_map,List.getElem?_eq_getElem hi'];rfl
   have hd:=drv_take (turnsS a.Driver.Turns) x i.toNat hl
   rw[hg,← i2]at hd
   simp only[e1]
   have hfin:∀ b:Bool,b=(d || (decide ((a.Driver.Turns.getD i.toNat dfltTurn).From.Hi≤x)&&decide (x<(a.Driver.Turns.getD i.toNat dfltTurn).To.Lo)))→Ok (fun r=>r=itemsOf (drv (turnsS a.Driver.Turns)) x.toNat (3000 - x.toNat)) (kn2 ((v1,b,i+1,v2),v3)):=fun b hb=>by
    refine hk2 ((v1,b,i+1,v2),v3) ⟨by simp only;omega,by simp only;omega,?_⟩ (by simp only;omega)
    simp only
    rw[toNat_succ i0,hd,hb]
   refine Ok.ite (fun hd2=>?_) (fun hd2=>?_)
   ·exact hfin true (by rw[hd2];rfl)
   ·refine Ok.ite (fun h3=>?_) (fun h3=>?_)
    ·exact hfin _ (by rw[hd2,h3];simp)
    ·exact hfin _ (by rw[hd2,h3];simp)
  ·have hi:i=a.Driver.Turns.length:=by have:=of_decide_eq_false hc;omega
   subst hi
   have e1:w64 (x+1)=x+1:=w64_id (by omega) (by omega)
   have hd:d=drv (turnsS a.Driver.Turns) x:=by
    rw[i2,Int.toNat_natCast,List.take_of_length_le (by simp[turnsS])]
   have hn0:3000 - x.toNat=(3000 - (x+1).toNat)+1:=by omega
   obtain ⟨l,hl1,hl2⟩:=hk ((u1,x+1,u2),u3) ⟨by simp only;omega,by simp only;omega⟩ (by simp only;omega)
   simp only at hl2
   refine ⟨(x,d,())::l,?_,?_⟩
   ·simp only[consM,e1,hl1]
   ·rw[hn0,items_succ,hl2,hd,toNat_succ h0,Int.toNat_of_nonneg h0]
 ·have hx:x=3000:=by have:=of_decide_eq_false hc;omega
  subst hx
  exact Ok.some rfl
def stS (R:Int) (D:Int→Bool):Nat→Int×Int
 |0=>(0,0)
 |m+1=>bif D (m:Int) then ((stS R D m).1+1,0) else (bif decide ((stS R D m).2+1 ≥ R) then 0 else (stS R D m).1,(stS R D m).2+1)
theorem stS_bnd (R:Int) (D:Int→Bool):∀ m:Nat,0≤(stS R D m).1∧(stS R D m).1≤m∧0≤(stS R D m).2∧(stS R D m).2≤m
 |0=>by simp[stS]
 |m+1=>by
  obtain ⟨h1,h2,h3,h4⟩:=stS_bnd R D m
  simp only[stS]
  cases D (m:Int) with
  |true=>simp only[cond_true];omega
  |false=>simp only[cond_false];cases decide ((stS R D m).2+1 ≥ R)<;>simp only[cond_true,cond_false]<;>omega
def dlist (D:Int→Bool) (m:Nat):List Int:=((List.range m).filter fun (k:Nat)=>D (k:Int)).map fun (k:Nat)=>(k:Int)
theorem dlist_succ (D:Int→Bool) (m:Nat):dlist D (m+1)=bif D (m:Int) then dlist D m++[(m:Int)] else dlist D m:=by
 simp only[dlist,List.range_succ,List.filter_append,List.map_append]
 cases h:D (m:Int)<;>simp[h]
theorem dlist_lt (D:Int→Bool):∀ (m:Nat) (k:Int),k∈dlist D m→0≤k∧k<m:=fun m k hk=>by
 simp only[dlist,List.mem_map,List.mem_filter,List.mem_range]at hk
 obtain ⟨a,⟨h1,_⟩,rfl⟩:=hk
 omega
theorem dlist_len (D:Int→Bool) (m:Nat):(dlist D m).length≤m:=by
 simp only[dlist,List.length_map]
 exact Nat.le_trans (List.length_filter_le _ _) (by simp)
theorem dlist_srt (D:Int→Bool):∀ m:Nat,(dlist D m).Pairwise (·<·)
 |0=>.nil
 |m+1=>by
  rw[dlist_succ]
  cases D (m:Int) with
  |true =>
   simp only[cond_true]
   rw[List.pairwise_append]
   refine ⟨dlist_srt D m,List.pairwise_singleton _ _,fun a ha b hb=>?_⟩
   rw[List.mem_singleton.1 hb]
   exact(dlist_lt D m a ha).2
  |false=>exact dlist_srt D m
def over (l:List Int) (t:Int):List Int:=l.filter fun k=>decide (t<k)
theorem over_tail {l:List Int} (hl:l.Pairwise (·<·)) {t h:Int}{tl:List Int} (he:over l t=h::tl):tl=over l h∧t<h∧h∈l:=by
 have hm:h∈over l t:=by rw[he];exact List.mem_cons_self ..
 simp only[over,List.mem_filter,decide_eq_true_eq]at hm
 have hs:(h::tl).Pairwise (·<·):=by rw[← he];exact hl.filter _
 refine ⟨?_,hm.2,hm.1⟩
 have e1:over l h=over (over l t) h:=by
  simp only[over,List.filter_filter]
  apply List.filter_congr
  intro x _
  have:=hm.2
  by_cases h1:h<x
  ·have:t<x:=by omega
   simp[h1,this]
  ·simp[h1]
 rw[e1,he]
 simp only[over,List.filter_cons,Int.lt_irrefl,decide_false,Bool.false_eq_true,if_false]
 symm
 rw[List.filter_eq_self]
 intro x hx
 simpa using (List.pairwise_cons.1 hs).1 x hx
theorem over_same {l:List Int} (hl:l.Pairwise (·<·)) {t t' h:Int}{tl:List Int} (he:over l t=h::tl) (ht:t≤t') (hh:t'<h):over l t=over l t':=by
 have hs:(h::tl).Pairwise (·<·):=by rw[← he];exact hl.filter _
 simp only[over]
 apply List.filter_congr
 intro x hx
 by_cases h1:t<x
 ·have hm:x∈over l t:=by simp only[over,List.mem_filter,decide_eq_true_eq];exact⟨hx,h1⟩
  rw[he]at hm
  have:h≤x:=by
   rcases List.mem_cons.1 hm with rfl|hm
   ·omega
   ·have:=(List.pairwise_cons.1 hs).1 x hm;omega
  have h2:t'<x:=by omega
  simp[h1,h2]
 ·have h2:¬ t'<x:=by omega
  simp[h1,h2]
def wnd (D:Int→Bool) (Day:Int) (m:Nat):Nat:=(over (dlist D (m+1)) (m - Day)).length
def brkAt (u:Rules) (D:Int→Bool) (m:Nat):Int:=bif D (m:Int) then (bif decide ((stS u.Rest D m).1+1 > u.Drive) then 1 else bif decide ((wnd D u.Day m:Int) > u.Most) then 2 else 0) else 0
def firstB (u:Rules) (D:Int→Bool):Nat→Nat→Int×Int
 |_,0=>(0,0)
 |a,n+1=>bif brkAt u D a == 0 then firstB u D (a+1) n else (brkAt u D a,(a:Int))
def RulesIn (u:Rules):Prop:=1≤u.Drive∧u.Drive≤3000∧1≤u.Rest∧u.Rest≤3000∧1≤u.Day∧u.Day≤3000∧1≤u.Most∧u.Most≤3000
abbrev BV:=((Unit×Unit×Unit×Unit×Unit×Unit×Unit)×((Int×Unit)×(Int×Unit)×(Int×Unit)×(Int×Unit)×((List Int)×Unit)×Unit))×List (Int×Bool×Unit)
theorem minL_sp (s t:Shift):minL s t=some (s,t):=by rw[minL_eq];rfl
theorem brokenL_sp (s t:Shift) (hn:s.Driver.Turns.length≤1000) (hu:RulesIn s.rules):brokenL s t=some (firstB s.rules (drv (turnsL s.Driver.Turns)) 0 3000):=by
 apply ok_eq
 rw[brokenL_eq]
 unfold brokenL'
 refine Ok.beq (minL_sp _ _) ?_
 refine Ok.beq (minutesL_sp _ _ hn) ?_
 obtain ⟨D,hD⟩:∃ D,drv (turnsL s.Driver.Turns)=D:=⟨_,rfl⟩
 rw[hD]
 obtain ⟨_,_,_,_,hd1,hd2,_,_⟩:=hu
 refine (Ok.roundsD (P:=fun (v:BV) r=>r=firstB s.rules D (3000 - v.2.length) v.2.length) (fun (v:BV)=>∃ a:Nat,a≤3000∧v.2=itemsOf D a (3000 - a)∧v.1.2.2.2.1.1=(stS s.rules.Rest D a).1∧v.1.2.2.2.2.1.1=(stS s.rules.Rest D a).2∧∃ t:Int,t<a - s.rules.Day∧v.1.2.2.2.2.2.1.1=over (dlist D a) t) (fun (v:BV)=>v.2.length) ?_ ?_ ?_).mono ?_
 ·simp[itemsOf,FUEL]
 ·refine ⟨0,by omega,rfl,rfl,rfl,-3001,by simp;omega,rfl⟩
 ·rintro ⟨⟨⟨u1,u2,u3,u4,u5,u6,u7⟩,⟨ru,⟨⟩⟩,⟨mi,⟨⟩⟩,⟨si,⟨⟩⟩,⟨id,⟨⟩⟩,⟨dr,⟨⟩⟩,⟨⟩⟩,its⟩ kn ⟨a,ha,h1,h2,h3,t0,h4,h5⟩ hk
  simp only at h1 h2 h3 h5 hk ⊢
  have hl:its.length=3000 - a:=by rw[h1];simp[itemsOf]
  cases its with
  |nil =>
   simp only[brokenL_E4]
   exact Ok.some rfl
  |cons it0 its =>
   have hl':its.length+1=3000 - a:=hl
   have ha':a<3000:=by omega
   obtain ⟨n,hn0⟩:∃ n,3000 - a=n+1:=⟨2999 - a,by omega⟩
   rw[hn0,items_succ]at h1
   obtain ⟨rfl,rfl⟩:=List.cons.inj h1
   have hn1:n=3000 - (a+1):=by omega
   simp only
   unfold brokenL_L4
   obtain ⟨b1,b2,b3,b4⟩:=stS_bnd s.rules.Rest D a
   have hlen:(itemsOf D (a+1) n).length=n:=by simp[itemsOf]
   have e0:3000 - ((((a:Int),D a,())::itemsOf D (a+1) n).length)=a:=by rw[List.length_cons,hlen];omega
   have e1:(((a:Int),D a,())::itemsOf D (a+1) n).length=n+1:=by rw[List.length_cons,hlen]
   have hstep:brkAt s.rules D a=0→firstB s.rules D a (n+1)=firstB s.rules D (a+1) n:=fun h=>by simp only[firstB,h];rfl
   have next:∀ (ru mi si id:Int) (dr:List Int),brkAt s.rules D a=0→si=(stS s.rules.Rest D (a+1)).1→id=(stS s.rules.Rest D (a+1)).2→(∃ t:Int,t<((a+1:Nat):Int) - s.rules.Day∧dr=over (dlist D (a+1)) t) →
     Ok (fun r=>r=firstB s.rules D (3000 - ((((a:Int),D a,())::itemsOf D (a+1) n).length)) ((((a:Int),D a,())::itemsOf D (a+1) n).length)) (kn ((((),(),(),(),(),(),()),((ru,()),(mi,()),(si,()),(id,()),(dr,()),())),itemsOf D (a+1) n)):=fun ru mi si id dr hb hs hi ht=>by
    obtain ⟨r,hr1,hr2⟩:=hk ((((),(),(),(),(),(),()),((ru,()),(mi,()),(si,()),(id,()),(dr,()),())),itemsOf D (a+1) n) ⟨a+1,by omega,by rw[hn1],hs,hi,ht⟩ (by rw[e1,hlen];omega)
    refine ⟨r,hr1,?_⟩
    simp only[hlen]at hr2
    rw[e0,e1,hstep hb,hr2]
    congr 1;omega
   cases hDa:D (a:Int) with
   |false =>
    have hb0:brkAt s.rules D a=0:=by simp[brkAt,hDa]
    have hd0:dlist D (a+1)=dlist D a:=by rw[dlist_succ,hDa];rfl
    rw[hDa]at next
    have e2:w64 (id+1)=id+1:=w64_id (by omega) (by omega)
    simp only[Bool.not_false,cond_true,e2]
    have hst:stS s.rules.Rest D (a+1)=(bif decide (id+1 ≥ s.rules.Rest) then 0 else si,id+1):=by simp only[stS,hDa,cond_false,h2,h3]
    refine Ok.ite (fun hc=>?_) (fun hc=>?_)
    ·exact next ru mi 0 (id+1) dr hb0 (by rw[hst,hc];rfl) (by rw[hst]) ⟨t0,by push_cast;omega,by rw[hd0,h5]⟩
    ·exact next ru mi si (id+1) dr hb0 (by rw[hst,hc];rfl) (by rw[hst]) ⟨t0,by push_cast;omega,by rw[hd0,h5]⟩
   |true =>
    rw[hDa]at next
    have hd0:dlist D (a+1)=dlist D a++[(a:Int)]:=by rw[dlist_succ,hDa];rfl
    have hsr:=dlist_srt D (a+1)
    have hov:dr++[(a:Int)]=over (dlist D (a+1)) t0:=by
     have:t0<(a:Int):=by omega
     rw[hd0,h5];simp[over,this]
    have hdl:dr.length≤3000:=by
     rw[h5]
     exact Nat.le_trans (List.length_filter_le _ _) (Nat.le_trans (dlist_len D a) ha)
    simp only[Bool.not_true,cond_false]
    refine Ok.chk (fitA_ok (by simp only[List.length_cons,List.length_nil];omega) (by decide)) ?_
    have e3:w64 ((a:Int) - s.rules.Day)=(a:Int) - s.rules.Day:=w64_id (by omega) (by omega)
    have e4:w64 (si+1)=si+1:=w64_id (by omega) (by omega)
    have hst:stS s.rules.Rest D (a+1)=(si+1,0):=by simp only[stS,hDa,cond_true,h2]
    refine Ok.rounds (fun v=>∃ t:Int,t≤(a:Int) - s.rules.Day∧v.2.1.1=over (dlist D (a+1)) t) (fun v=>v.2.1.1.length) ?_ ⟨t0,by omega,hov⟩ ?_
    ·simp only[List.length_append,List.length_cons,List.length_nil];unfold FUEL;omega
    rintro ⟨⟨w1,w2,w3,w4,w5,w6,w7⟩,⟨d,⟨⟩⟩,⟨⟩⟩ kn2 ⟨t,ht,hd⟩ hk2
    simp only at hd hk2 ⊢
    unfold brokenL_L11
    have hma:(a:Int)∈d:=by
     rw[hd];simp only[over,List.mem_filter,decide_eq_true_eq]
     exact⟨by rw[hd0];simp,by omega⟩
    cases d with
    |nil=>cases hma
    |cons h tl =>
     refine Ok.chk (by simp) ?_
     refine Ok.chk (by simp) ?_
     obtain ⟨q1,q2,q3⟩:=over_tail hsr hd.symm
     simp only[List.getD_cons_zero,e3]
     refine Ok.ite (fun hc=>?_) (fun hc=>?_)
     ·have hc:=of_decide_eq_true hc
      refine Ok.chk (by simp;omega) ?_
      have e5:subL (h::tl) 1 ((h::tl).length:Int)=tl:=by simp[subL]
      rw[e5]
      exact hk2 (((),(),(),(),(),(),()),((tl,()),())) ⟨h,hc,q1⟩ (by simp)
     ·have hc:=of_decide_eq_false hc
      have hw:(h::tl)=over (dlist D (a+1)) ((a:Int) - s.rules.Day):=by rw[hd];exact over_same hsr hd.symm ht (by omega)
      have hlw:(h::tl).length=wnd D s.rules.Day a:=by rw[hw];rfl
      rw[e4,hlw]
      have hb:brkAt s.rules D a=bif decide (si+1 > s.rules.Drive) then 1 else bif decide ((wnd D s.rules.Day a:Int) > s.rules.Most) then 2 else 0:=by simp only[brkAt,hDa,cond_true,h2]
      have hst2:∀ k:Int,k≠0→brkAt s.rules D a=k→firstB s.rules D a (n+1)=(k,(a:Int)):=fun k h0 hk=>by
       have:(k == 0)=false:=by simpa using h0
       simp only[firstB,hk,this,cond_false]
      refine Ok.ite (fun hc1=>?_) (fun hc1=>?_)
      ·refine Ok.some ?_
       rw[hDa]at e0 e1
       rw[e0,e1,hst2 1 (by decide) (by rw[hb,hc1];rfl)]
      ·refine Ok.ite (fun hc2=>?_) (fun hc2=>?_)
       ·refine Ok.some ?_
        rw[hDa]at e0 e1
        rw[e0,e1,hst2 2 (by decide) (by rw[hb,hc1,hc2];rfl)]
       ·exact next ru mi (si+1) 0 (h::tl) (by rw[hb,hc1,hc2];rfl) (by rw[hst]) (by rw[hst]) ⟨(a:Int) - s.rules.Day,by push_cast;omega,hw⟩
 ·intro r hr
  rw[hr]
  simp[itemsOf]
theorem minS_sp (s t:Shift):minS s t=some (s,t):=by rw[minS_eq];rfl
theorem brokenS_sp (s t:Shift) (hn:s.Driver.Turns.length≤1000) (hu:RulesIn s.rules):brokenS s t=some (firstB s.rules (drv (turnsS s.Driver.Turns)) 0 3000):=by
 apply ok_eq
 rw[brokenS_eq]
 unfold brokenS'
 refine Ok.beq (minS_sp _ _) ?_
 refine Ok.beq (minutesS_sp _ _ hn) ?_
 obtain ⟨D,hD⟩:∃ D,drv (turnsS s.Driver.Turns)=D:=⟨_,rfl⟩
 rw[hD]
 obtain ⟨_,_,_,_,hd1,hd2,_,_⟩:=hu
 refine (Ok.roundsD (P:=fun (v:BV) r=>r=firstB s.rules D (3000 - v.2.length) v.2.length) (fun (v:BV)=>∃ a:Nat,a≤3000∧v.2=itemsOf D a (3000 - a)∧v.1.2.2.2.1.1=(stS s.rules.Rest D a).1∧v.1.2.2.2.2.1.1=(stS s.rules.Rest D a).2∧∃ t:Int,t<a - s.rules.Day∧v.1.2.2.2.2.2.1.1=over (dlist D a) t) (fun (v:BV)=>v.2.length) ?_ ?_ ?_).mono ?_
 ·simp[itemsOf,FUEL]
 ·refine ⟨0,by omega,rfl,rfl,rfl,-3001,by simp;omega,rfl⟩
 ·rintro ⟨⟨⟨u1,u2,u3,u4,u5,u6,u7⟩,⟨ru,⟨⟩⟩,⟨mi,⟨⟩⟩,⟨si,⟨⟩⟩,⟨id,⟨⟩⟩,⟨dr,⟨⟩⟩,⟨⟩⟩,its⟩ kn ⟨a,ha,h1,h2,h3,t0,h4,h5⟩ hk
  simp only at h1 h2 h3 h5 hk ⊢
  have hl:its.length=3000 - a:=by rw[h1];simp[itemsOf]
  cases its with
  |nil =>
   simp only[brokenS_E4]
   exact Ok.some rfl
  |cons it0 its =>
   have hl':its.length+1=3000 - a:=hl
   have ha':a<3000:=by omega
   obtain ⟨n,hn0⟩:∃ n,3000 - a=n+1:=⟨2999 - a,by omega⟩
   rw[hn0,items_succ]at h1
   obtain ⟨rfl,rfl⟩:=List.cons.inj h1
   have hn1:n=3000 - (a+1):=by omega
   simp only
   unfold brokenS_L4
   obtain ⟨b1,b2,b3,b4⟩:=stS_bnd s.rules.Rest D a
   have hlen:(itemsOf D (a+1) n).length=n:=by simp[itemsOf]
   have e0:3000 - ((((a:Int),D a,())::itemsOf D (a+1) n).length)=a:=by rw[List.length_cons,hlen];omega
   have e1:(((a:Int),D a,())::itemsOf D (a+1) n).length=n+1:=by rw[List.length_cons,hlen]
   have hstep:brkAt s.rules D a=0→firstB s.rules D a (n+1)=firstB s.rules D (a+1) n:=fun h=>by simp only[firstB,h];rfl
   have next:∀ (ru mi si id:Int) (dr:List Int),brkAt s.rules D a=0→si=(stS s.rules.Rest D (a+1)).1→id=(stS s.rules.Rest D (a+1)).2→(∃ t:Int,t<((a+1:Nat):Int) - s.rules.Day∧dr=over (dlist D (a+1)) t) →
     Ok (fun r=>r=firstB s.rules D (3000 - ((((a:Int),D a,())::itemsOf D (a+1) n).length)) ((((a:Int),D a,())::itemsOf D (a+1) n).length)) (kn ((((),(),(),(),(),(),()),((ru,()),(mi,()),(si,()),(id,()),(dr,()),())),itemsOf D (a+1) n)):=fun ru mi si id dr hb hs hi ht=>by
    obtain ⟨r,hr1,hr2⟩:=hk ((((),(),(),(),(),(),()),((ru,()),(mi,()),(si,()),(id,()),(dr,()),())),itemsOf D (a+1) n) ⟨a+1,by omega,by rw[hn1],hs,hi,ht⟩ (by rw[e1,hlen];omega)
    refine ⟨r,hr1,?_⟩
    simp only[hlen]at hr2
    rw[e0,e1,hstep hb,hr2]
    congr 1;omega
   cases hDa:D (a:Int) with
   |false =>
    have hb0:brkAt s.rules D a=0:=by simp[brkAt,hDa]
    have hd0:dlist D (a+1)=dlist D a:=by rw[dlist_succ,hDa];rfl
    rw[hDa]at next
    have e2:w64 (id+1)=id+1:=w64_id (by omega) (by omega)
    simp only[Bool.not_false,cond_true,e2]
    have hst:stS s.rules.Rest D (a+1)=(bif decide (id+1 ≥ s.rules.Rest) then 0 else si,id+1):=by simp only[stS,hDa,cond_false,h2,h3]
    refine Ok.ite (fun hc=>?_) (fun hc=>?_)
    ·exact next ru mi 0 (id+1) dr hb0 (by rw[hst,hc];rfl) (by rw[hst]) ⟨t0,by push_cast;omega,by rw[hd0,h5]⟩
    ·exact next ru mi si (id+1) dr hb0 (by rw[hst,hc];rfl) (by rw[hst]) ⟨t0,by push_cast;omega,by rw[hd0,h5]⟩
   |true =>
    rw[hDa]at next
    have hd0:dlist D (a+1)=dlist D a++[(a:Int)]:=by rw[dlist_succ,hDa];rfl
    have hsr:=dlist_srt D (a+1)
    have hov:dr++[(a:Int)]=over (dlist D (a+1)) t0:=by
     have:t0<(a:Int):=by omega
     rw[hd0,h5];simp[over,this]
    have hdl:dr.length≤3000:=by
     rw[h5]
     exact Nat.le_trans (List.length_filter_le _ _) (Nat.le_trans (dlist_len D a) ha)
    simp only[Bool.not_true,cond_false]
    refine Ok.chk (fitA_ok (by simp only[List.length_cons,List.length_nil];omega) (by decide)) ?_
    have e3:w64 ((a:Int) - s.rules.Day)=(a:Int) - s.rules.Day:=w64_id (by omega) (by omega)
    have e4:w64 (si+1)=si+1:=w64_id (by omega) (by omega)
    have hst:stS s.rules.Rest D (a+1)=(si+1,0):=by simp only[stS,hDa,cond_true,h2]
    refine Ok.rounds (fun v=>∃ t:Int,t≤(a:Int) - s.rules.Day∧v.2.1.1=over (dlist D (a+1)) t) (fun v=>v.2.1.1.length) ?_ ⟨t0,by omega,hov⟩ ?_
    ·simp only[List.length_append,List.length_cons,List.length_nil];unfold FUEL;omega
    rintro ⟨⟨w1,w2,w3,w4,w5,w6,w7⟩,⟨d,⟨⟩⟩,⟨⟩⟩ kn2 ⟨t,ht,hd⟩ hk2
    simp only at hd hk2 ⊢
    unfold brokenS_L11
    have hma:(a:Int)∈d:=by
     rw[hd];simp only[over,List.mem_filter,decide_eq_true_eq]
     exact⟨by rw[hd0];simp,by omega⟩
    cases d with
    |nil=>cases hma
    |cons h tl =>
     refine Ok.chk (by simp) ?_
     refine Ok.chk (by simp) ?_
     obtain ⟨q1,q2,q3⟩:=over_tail hsr hd.symm
     simp only[List.getD_cons_zero,e3]
     refine Ok.ite (fun hc=>?_) (fun hc=>?_)
     ·have hc:=of_decide_eq_true hc
      refine Ok.chk (by simp;omega) ?_
      have e5:subL (h::tl) 1 ((h::tl).length:Int)=tl:=by simp[subL]
      rw[e5]
      exact hk2 (((),(),(),(),(),(),()),((tl,()),())) ⟨h,hc,q1⟩ (by simp)
     ·have hc:=of_decide_eq_false hc
      have hw:(h::tl)=over (dlist D (a+1)) ((a:Int) - s.rules.Day):=by rw[hd];exact over_same hsr hd.symm ht (by omega)
      have hlw:(h::tl).length=wnd D s.rules.Day a:=by rw[hw];rfl
      rw[e4,hlw]
      have hb:brkAt s.rules D a=bif decide (si+1 > s.rules.Drive) then 1 else bif decide ((wnd D s.rules.Day a:Int) > s.rules.Most) then 2 else 0:=by simp only[brkAt,hDa,cond_true,h2]
      have hst2:∀ k:Int,k≠0→brkAt s.rules D a=k→firstB s.rules D a (n+1)=(k,(a:Int)):=fun k h0 hk=>by
       have:(k == 0)=false:=by simpa using h0
       simp only[firstB,hk,this,cond_false]
      refine Ok.ite (fun hc1=>?_) (fun hc1=>?_)
      ·refine Ok.some ?_
       rw[hDa]at e0 e1
       rw[e0,e1,hst2 1 (by decide) (by rw[hb,hc1];rfl)]
      ·refine Ok.ite (fun hc2=>?_) (fun hc2=>?_)
       ·refine Ok.some ?_
        rw[hDa]at e0 e1
        rw[e0,e1,hst2 2 (by decide) (by rw[hb,hc1,hc2];rfl)]
       ·exact next ru mi (si+1) 0 (h::tl) (by rw[hb,hc1,hc2];rfl) (by rw[hst]) (by rw[hst]) ⟨(a:Int) - s.rules.Day,by push_cast;omega,hw⟩
 ·intro r hr
  rw[hr]
  simp[itemsOf]
theorem firstB_zero {u:Rules}{D:Int→Bool}:∀ {n a:Nat},(∀ m,a≤m→m<a+n→brkAt u D m=0)→firstB u D a n=(0,0)
 |0,a,_=>rfl
 |n+1,a,h=>by
  have h0:=h a (Nat.le_refl _) (by omega)
  simp only[firstB,h0]
  exact firstB_zero fun m h1 h2=>h m (by omega) (by omega)
theorem firstB_cut {u:Rules}{D:Int→Bool}:∀ {n a k:Nat},(∀ m,a+n≤m→brkAt u D m=0)→firstB u D a (n+k)=firstB u D a n
 |0,a,k,h=>by
  rw[firstB_zero fun m h1 h2=>h m (by omega)];rfl
 |n+1,a,k,h=>by
  rw[show n+1+k=(n+k)+1 by omega]
  simp only[firstB]
  rw[firstB_cut fun m hm=>h m (by omega)]
theorem drv_false {ts:List (Int×Int)}{m:Int} (h:∀ t∈ts,t.2≤m):drv ts m=false:=by
 unfold drv
 rw[List.any_eq_false]
 intro t ht
 have:=h t ht
 simp;omega
def DL (d:Driver):Int→Bool:=drv (turnsL d.Turns)
def DS (d:Driver):Int→Bool:=drv (turnsS d.Turns)
def verdictS (u:Rules) (d:Driver):Int:=bif (firstB u (DL d) 0 3000).1 == 0 then 1 else bif (firstB u (DS d) 0 3000).1 != 0 then 2 else 3
theorem pVerdict_sp {s:Shift} (hn:s.Driver.Turns.length≤1000) (hu:RulesIn s.rules):pVerdict s=some (verdictS s.rules s.Driver):=by
 rw[pVerdict_eq]
 unfold pVerdict'
 rw[brokenL_sp s s hn hu,brokenS_sp s s hn hu]
 unfold verdictS DL DS
 simp only[Option.bind_some]
 cases (firstB s.rules (drv (turnsL s.Driver.Turns)) 0 3000).1 == 0<;>simp only[cond_true,cond_false]
 cases (firstB s.rules (drv (turnsS s.Driver.Turns)) 0 3000).1 != 0<;>rfl
def newT (a long:Int):Turn:=⟨⟨a,a⟩,⟨a+long,a+long⟩⟩
def addT (d:Driver) (a long:Int):Driver:=⟨d.Name,d.Skills,d.Turns++[newT a long]⟩
theorem cpL_rep {α:Type} (l:List α) (x:α):cpL (List.replicate (l.length+1) x) l=l++[x]:=by
 simp only[cpL,List.length_replicate]
 rw[List.take_of_length_le (by omega),List.drop_replicate]
 simp
theorem more_sp (s:Shift) {a long:Int} (hn:s.Driver.Turns.length≤1000) (h1:-100000≤a+long) (h2:a+long≤100000):more s a long=some ⟨addT s.Driver a long,s.rules⟩:=by
 rw[more_eq]
 unfold more'
 have e1:w64 ((s.Driver.Turns.length:Int)+1)=((s.Driver.Turns.length+1:Nat):Int):=by rw[w64_id (by omega) (by omega)];simp
 have e2:w64 (a+long)=a+long:=w64_id (by omega) (by omega)
 rw[e1,e2]
 simp only[Int.toNat_natCast,cpL_rep]
 have c1:fitM ((s.Driver.Turns.length+1:Nat):Int) 32=true:=by unfold fitM;simp;omega
 rw[c1]
 simp only[chk,cond_true,List.length_append,List.length_cons,List.length_nil]
 have c2:(decide (0≤(s.Driver.Turns.length:Int))&&decide ((s.Driver.Turns.length:Int)<((s.Driver.Turns.length+(0+1):Nat):Int)))=true:=by simp;omega
 have c3:decide (s.Driver.Turns.length<s.Driver.Turns.length+(0+1))=true:=by simp
 rw[c2,c3]
 simp only[cond_true,addT,newT]
 rw[List.set_append_right _ _ (Nat.le_refl _),Nat.sub_self]
 rfl
def clashB (l:List Turn) (a long:Int):Bool:=l.any fun t=>decide (a<t.To.Hi)&&decide (a+long > t.From.Lo)
theorem pClashes_sp (s:Shift) {a long:Int} (hn:s.Driver.Turns.length≤1000) (h1:-100000≤a+long) (h2:a+long≤100000):pClashes s a long=some (clashB s.Driver.Turns a long):=by
 apply ok_eq
 rw[pClashes_eq]
 unfold pClashes'
 have e2:w64 (a+long)=a+long:=w64_id (by omega) (by omega)
 refine (Ok.roundsD (P:=fun (v:(Int×Unit)×Unit) r=>r=clashB (s.Driver.Turns.drop v.1.1.toNat) a long) (fun (v:(Int×Unit)×Unit)=>0≤v.1.1∧v.1.1≤s.Driver.Turns.length) (fun (v:(Int×Unit)×Unit)=>(s.Driver.Turns.length - v.1.1).toNat) ?_ ⟨by decide,by simp⟩ ?_)
 ·simp only;unfold FUEL;omega
 rintro ⟨⟨i,u1⟩,u2⟩ kn ⟨h0,h3⟩ hk
 simp only at h0 h3 hk ⊢
 unfold pClashes_L2
 refine Ok.ite (fun hc=>?_) (fun hc=>?_)
 ·have hi:=of_decide_eq_true hc
  have hi':i.toNat<s.Driver.Turns.length:=by omega
  have e1:w64 (i+1)=i+1:=w64_id (by omega) (by omega)
  have hd:clashB (s.Driver.Turns.drop i.toNat) a long=((decide (a<(s.Driver.Turns.getD i.toNat dfltTurn).To.Hi)&&decide (a+long > (s.Driver.Turns.getD i.toNat dfltTurn).From.Lo)) || clashB (s.Driver.Turns.drop (i.toNat+1)) a long):=by
   rw[drop_get (d:=dfltTurn) hi'];rfl
  have next:(decide (a<(s.Driver.Turns.getD i.toNat dfltTurn).To.Hi)&&decide (a+long > (s.Driver.Turns.getD i.toNat dfltTurn).From.Lo))=false→Ok (fun r=>r=clashB (s.Driver.Turns.drop i.toNat) a long) (kn ((i+1,()),())):=fun hb=>by
   obtain ⟨r,hr1,hr2⟩:=hk ((i+1,()),()) ⟨by simp only;omega,by simp only;omega⟩ (by simp only;omega)
   refine ⟨r,hr1,?_⟩
   simp only at hr2
   rw[hd,hb,hr2,toNat_succ h0];rfl
  simp only[e1,e2]
  refine Ok.chk (ib h0 hi) ?_
  refine Ok.ite (fun hc2=>?_) (fun hc2=>next (by rw[hc2];rfl))
  refine Ok.ite (fun hc3=>?_) (fun hc3=>next (by rw[hc3,Bool.and_false]))
  exact Ok.some (by rw[hd,hc2,hc3];rfl)
 ·have hi:=of_decide_eq_false hc
  refine Ok.some ?_
  have:s.Driver.Turns.drop i.toNat=[]:=List.drop_eq_nil_of_le (by omega)
  rw[this];rfl
def mayB (u:Rules) (d:Driver) (a long:Int):Bool:=!(clashB d.Turns a long)&&((firstB u (DL (addT d a long)) 0 3000).1 == 0)
theorem pMay1_sp (s:Shift) {a long:Int} (hn:s.Driver.Turns.length≤500) (hu:RulesIn s.rules) (h1:-100000≤a+long) (h2:a+long≤100000):pMay1 s a long=some (mayB s.rules s.Driver a long):=by
 rw[pMay1_eq]
 unfold pMay1' mayB
 rw[pClashes_sp s (by omega) h1 h2]
 simp only[Option.bind_some]
 cases clashB s.Driver.Turns a long with
 |true=>rfl
 |false =>
  simp only[cond_false]
  rw[more_sp s (by omega) h1 h2]
  simp only[Option.bind_some]
  rw[brokenL_sp ⟨addT s.Driver a long,s.rules⟩ ⟨addT s.Driver a long,s.rules⟩ (by simp only[addT,List.length_append,List.length_cons,List.length_nil];omega) hu]
  rfl
theorem firstB_short {u:Rules}{ts:List (Int×Int)}{k:Nat} (hk:k≤3000) (h:∀ t∈ts,t.2≤k):firstB u (drv ts) 0 3000=firstB u (drv ts) 0 k:=by
 have:=firstB_cut (u:=u) (D:=drv ts) (n:=k) (a:=0) (k:=3000 - k) (fun m hm=>by
  have:drv ts (m:Int)=false:=drv_false fun t ht=>by have:=h t ht;omega
  simp[brkAt,this])
 rw[show k+(3000 - k)=3000 by omega]at this
 exact this
def mxT:List (Int×Int)→Nat
 |[]=>0
 |t::l=>Nat.max t.2.toNat (mxT l)
theorem mxT_le:∀ {l:List (Int×Int)}{t:Int×Int},t∈l→t.2≤(mxT l:Int)
 |x::l,t,h=>by
  have e:mxT (x::l)=max x.2.toNat (mxT l):=rfl
  rcases List.mem_cons.1 h with rfl|h
  ·rw[e];omega
  ·have:=mxT_le h;rw[e];omega
def firstF (u:Rules) (ts:List (Int×Int)):Int×Int:=firstB u (drv ts) 0 (mxT ts)
theorem firstF_eq {u:Rules}{ts:List (Int×Int)} (h:Nat.ble (mxT ts) 3000=true):firstB u (drv ts) 0 3000=firstF u ts:=firstB_short (Nat.le_of_ble_eq_true h) fun t ht=>mxT_le ht
def rulesK (u:Rules):Bool:=decide (1≤u.Drive)&&decide (u.Drive≤3000)&&decide (1≤u.Rest)&&decide (u.Rest≤3000)&&decide (1≤u.Day)&&decide (u.Day≤3000)&&decide (1≤u.Most)&&decide (u.Most≤3000)
theorem rulesK_ok {u:Rules} (h:rulesK u=true):RulesIn u:=by
 simp only[rulesK,Bool.and_eq_true,decide_eq_true_eq]at h
 unfold RulesIn;omega
def verdF (s:Shift):Option Int:=chk (Nat.ble s.Driver.Turns.length 500&&rulesK s.rules&&Nat.ble (mxT (turnsL s.Driver.Turns)) 3000&&Nat.ble (mxT (turnsS s.Driver.Turns)) 3000)
 (some (bif (firstF s.rules (turnsL s.Driver.Turns)).1 == 0 then 1 else bif (firstF s.rules (turnsS s.Driver.Turns)).1 != 0 then 2 else 3))
theorem verdF_ok {s:Shift}{x:Int} (h:verdF s=some x):pVerdict s=some x:=by
 obtain ⟨hc,h⟩:=chk_some h
 simp only[Bool.and_eq_true]at hc
 cases h
 rw[pVerdict_sp (by have:=Nat.le_of_ble_eq_true hc.1.1.1;omega) (rulesK_ok hc.1.1.2)]
 unfold verdictS DL DS
 rw[firstF_eq hc.1.2,firstF_eq hc.2]
def mayF (s:Shift) (a l:Int):Option Bool:=chk (Nat.ble s.Driver.Turns.length 500&&rulesK s.rules&&decide (-100000≤a+l)&&decide (a+l≤100000)&&Nat.ble (mxT (turnsL (addT s.Driver a l).Turns)) 3000)
 (some (!(clashB s.Driver.Turns a l)&&((firstF s.rules (turnsL (addT s.Driver a l).Turns)).1 == 0)))
theorem mayF_ok {s:Shift}{a l:Int}{x:Bool} (h:mayF s a l=some x):pMay1 s a l=some x:=by
 obtain ⟨hc,h⟩:=chk_some h
 simp only[Bool.and_eq_true,decide_eq_true_eq]at hc
 cases h
 rw[pMay1_sp s (Nat.le_of_ble_eq_true hc.1.1.1.1) (rulesK_ok hc.1.1.1.2) hc.1.1.2 hc.1.2]
 unfold mayB DL
 rw[firstF_eq hc.2]
noncomputable section
open Go.Proofs.YtbhjjkekphpldaaGreatDoor (iseat)
def sp241f:FnSpec iseat.toSeat:=mkSpec iseat.toSeat 241 [.Shift] [.int .i64] true (fun a=>verdF a.1) (fun a x hx h h'=>fn_contract (Z:=iseat) (ats:=[.Shift]) (ts:=[.int .i64]) (E:=E241) (fn:=Tryz.f241) (c:=bodyOf Tryz.f241) Tryz.func241 (by kernel_rfl) (by kernel_rfl) (by kernel_rfl) (by kernel_rfl) rfl ((e241 itN a.1).trans ((pVerdict_eq a.1).symm.trans (verdF_ok hx))) h h') (fun _ x=>rfl)
def sp257f:FnSpec iseat.toSeat:=mkSpec iseat.toSeat 257 [.Shift,.int .i64,.int .i64] [.bool] true (fun a=>mayF a.1 a.2.1 a.2.2.1) (fun a x hx h h'=>fn_contract (Z:=iseat) (ats:=[.Shift,.int .i64,.int .i64]) (ts:=[.bool]) (E:=E257) (fn:=Tryz.f257) (c:=bodyOf Tryz.f257) Tryz.func257 (by kernel_rfl) (by kernel_rfl) (by kernel_rfl) (by kernel_rfl) rfl ((e257 itN a.1 a.2.1 a.2.2.1).trans ((pMay1_eq a.1 a.2.1 a.2.2.1).symm.trans (mayF_ok hx))) h h') (fun _ x=>rfl)
end
end Go.Proofs.Rd10
namespace Go.Proofs.Rd10
open Go Go.Ab
open Go.Proofs.YtbhjjkekphpldaaGreatDoor (iseat)
set_option linter.all false
set_option maxRecDepth 100000
noncomputable section
def E238:FEnv iseat:=⟨⟨13,[sp37,sp76],[],[],[],[],[],[],[],[],[],[],[],[],[],true⟩,[]⟩
def r238 (A:List I):Option I:=fnRunU E238 (bodyOf Tryz.f238) Tryz.f238.results.toList A
def sp238:FnSpec iseat.toSeat:=mkSpecU iseat 238 true r238 (fun A d hd hr h=>fn_contractU (E:=E238) (fn:=Tryz.f238) Tryz.func238 (by kernel_rfl) (by kernel_rfl) (by kernel_rfl) rfl hd hr h)
def E206:FEnv iseat:=⟨⟨45,[sp238,sp75,sp239,sp240,sp241f],[],[],[],[],[],[],[],[],[],[],[],[],[],true⟩,[]⟩
def r206 (A:List I):Option I:=fnRunU E206 (bodyOf Tryz.f206) Tryz.f206.results.toList A
def sp206:FnSpec iseat.toSeat:=mkSpecU iseat 206 true r206 (fun A d hd hr h=>fn_contractU (E:=E206) (fn:=Tryz.f206) Tryz.func206 (by kernel_rfl) (by kernel_rfl) (by kernel_rfl) rfl hd hr h)
def E214:FEnv iseat:=⟨⟨46,[sp238,sp75,sp257f],[],[],[],[],[],[],[],[],[],[],[],[],[],true⟩,[]⟩
def r214 (A:List I):Option I:=fnRunU E214 (bodyOf Tryz.f214) Tryz.f214.results.toList A
def sp214:FnSpec iseat.toSeat:=mkSpecU iseat 214 true r214 (fun A d hd hr h=>fn_contractU (E:=E214) (fn:=Tryz.f214) Tryz.func214 (by kernel_rfl) (by kernel_rfl) (by kernel_rfl) rfl hd hr h)
end
end Go.Proofs.Rd10
namespace Go.Proofs.Rd10
open Go Go.Ab
open Go.Proofs.YtbhjjkekphpldaaGreatDoor (iseat)
set_option linter.all false
set_option maxRecDepth 100000
noncomputable section
def CloneR' (it:It (List Rolling)) (s:List Rolling):Option (List Rolling) :=
 opNil s.isEmpty
  (some ([]:List Rolling))
  (chk (fitA (([]:List Rolling).length+s.length) 72) <|
  some (([]:List Rolling)++s))
def CloneR:(List Rolling)→Option (List Rolling):=(fun s=>CloneR' itN s)
theorem CloneR_eq (s:List Rolling):CloneR s=CloneR' itN s:=rfl
def E242:FEnv iseat:=⟨⟨8,[],[],[],[],[],[],[],[],[],[],[],[],[],[],true⟩,[]⟩
theorem e242 (it:It (List Rolling)) (s:List Rolling):fnRunO (.sl .Rolling) 0 261 .Rolling it E242 (bodyOf Tryz.f242) Tryz.f242.results.toList (encA [.sl .Rolling] (s,()))=CloneR' it s:=by kernel_rfl
end
end Go.Proofs.Rd10
namespace Go.Proofs.Rd10
open Go Go.Ab
open Go.Proofs.YtbhjjkekphpldaaGreatDoor (iseat)
set_option linter.all false
set_option maxRecDepth 100000
def clR (l:List Rolling):Option (List Rolling):=chk (Nat.ble l.length 1000) (some l)
theorem clR_ok {l x:List Rolling} (h:clR l=some x):CloneR l=some x:=by
 obtain ⟨hc,h⟩:=chk_some h
 cases h
 have hl:=Nat.le_of_ble_eq_true hc
 rw[CloneR_eq];unfold CloneR'
 have e:(chk (fitA (([]:List Rolling).length+l.length) 72) <| some (([]:List Rolling)++l))=some l:=by
  rw[fitA_ok (by simp;omega) (by omega)];rfl
 rw[e]
 cases l with
 |nil=>unfold opNil;rw[if_pos rfl];rfl
 |cons=>rfl
noncomputable section
def sp242f:FnSpecO iseat.toSeat:=mkSpecO iseat.toSeat 242 [.sl .Rolling] (.sl .Rolling) 0 261 .Rolling (fun a=>clR a.1) (fun a x hx l d hd h=>fn_contractO (Z:=iseat) (ats:=[.sl .Rolling]) (E:=E242) (fn:=Tryz.f242) (c:=bodyOf Tryz.f242) Tryz.func242 (by kernel_rfl) (by kernel_rfl) (by kernel_rfl) (by kernel_rfl) rfl ((e242 itN a.1).trans ((CloneR_eq a.1).symm.trans (clR_ok hx))) hd h)
end
end Go.Proofs.Rd10
namespace Go.Proofs.Rd10
open Go Go.Ab
open Go.Proofs.YtbhjjkekphpldaaGreatDoor (iseat)
set_option linter.all false
set_option maxRecDepth 100000
noncomputable section
def E191:FEnv iseat:=⟨⟨19,[],[],[],[],[],[],[],[],[],[],[],[],[],[],true⟩,[]⟩
def r191 (A:List I):Option I:=fnRunU E191 (bodyOf Tryz.f191) Tryz.f191.results.toList A
def sp191:FnSpec iseat.toSeat:=mkSpecU iseat 191 true r191 (fun A d hd hr h=>fn_contractU (E:=E191) (fn:=Tryz.f191) Tryz.func191 (by kernel_rfl) (by kernel_rfl) (by kernel_rfl) rfl hd hr h)
def E192:FEnv iseat:=⟨⟨8,[],[],[],[],[],[],[],[],[],[],[],[],[2],[],true⟩,[]⟩
def r192 (A:List I):Option I:=fnRunU E192 (bodyOf Tryz.f192) Tryz.f192.results.toList A
def sp192:FnSpec iseat.toSeat:=mkSpecU iseat 192 false r192 (fun A d hd hr h=>fn_contractU (E:=E192) (fn:=Tryz.f192) Tryz.func192 (by kernel_rfl) (by kernel_rfl) (by kernel_rfl) rfl hd hr h)
def E195:FEnv iseat:=⟨⟨8,[],[],[],[],[],[],[],[],[],[],[],[],[2],[],true⟩,[]⟩
def r195 (A:List I):Option I:=fnRunU E195 (bodyOf Tryz.f195) Tryz.f195.results.toList A
def sp195:FnSpec iseat.toSeat:=mkSpecU iseat 195 false r195 (fun A d hd hr h=>fn_contractU (E:=E195) (fn:=Tryz.f195) Tryz.func195 (by kernel_rfl) (by kernel_rfl) (by kernel_rfl) rfl hd hr h)
def E211:FEnv iseat:=⟨⟨6,[],[],[],[],[],[],[],[],[],[],[],[],[],[],true⟩,[]⟩
def r211 (A:List I):Option I:=fnRunU E211 (bodyOf Tryz.f211) Tryz.f211.results.toList A
def sp211:FnSpec iseat.toSeat:=mkSpecU iseat 211 true r211 (fun A d hd hr h=>fn_contractU (E:=E211) (fn:=Tryz.f211) Tryz.func211 (by kernel_rfl) (by kernel_rfl) (by kernel_rfl) rfl hd hr h)
def E230:FEnv iseat:=⟨⟨17,[sp126],[],[],[],[],[],[],[],[],[],[],[],[],[],true⟩,[]⟩
def r230 (A:List I):Option I:=fnRunU E230 (bodyOf Tryz.f230) Tryz.f230.results.toList A
def sp230:FnSpec iseat.toSeat:=mkSpecU iseat 230 true r230 (fun A d hd hr h=>fn_contractU (E:=E230) (fn:=Tryz.f230) Tryz.func230 (by kernel_rfl) (by kernel_rfl) (by kernel_rfl) rfl hd hr h)
def E201:FEnv iseat:=⟨⟨22,[sp230],[],[],[],[],[],[],[],[],[],[],[],[],[],true⟩,[]⟩
def r201 (A:List I):Option I:=fnRunU E201 (bodyOf Tryz.f201) Tryz.f201.results.toList A
def sp201:FnSpec iseat.toSeat:=mkSpecU iseat 201 true r201 (fun A d hd hr h=>fn_contractU (E:=E201) (fn:=Tryz.f201) Tryz.func201 (by kernel_rfl) (by kernel_rfl) (by kernel_rfl) rfl hd hr h)
def E235:FEnv iseat:=⟨⟨21,[sp236],[],[],[],[],[],[],[],[],[],[],[],[],[],true⟩,[]⟩
def r235 (A:List I):Option I:=fnRunU E235 (bodyOf Tryz.f235) Tryz.f235.results.toList A
def sp235:FnSpec iseat.toSeat:=mkSpecU iseat 235 true r235 (fun A d hd hr h=>fn_contractU (E:=E235) (fn:=Tryz.f235) Tryz.func235 (by kernel_rfl) (by kernel_rfl) (by kernel_rfl) rfl hd hr h)
def E231b:FEnv iseat:=⟨⟨26,[sp235],[],[],[],[],[],[],[],[],[],[],[],[],[],true⟩,[]⟩
def r231b (A:List I):Option I:=fnRunU E231b (bodyOf Tryz.f231) Tryz.f231.results.toList A
def sp231b:FnSpec iseat.toSeat:=mkSpecU iseat 231 true r231b (fun A d hd hr h=>fn_contractU (E:=E231b) (fn:=Tryz.f231) Tryz.func231 (by kernel_rfl) (by kernel_rfl) (by kernel_rfl) rfl hd hr h)
def E203:FEnv iseat:=⟨⟨51,[sp234,sp60,sp235,sp231b],[],[],[],[],[],[],[],[],[],[],[],[],[],true⟩,[]⟩
def r203 (A:List I):Option I:=fnRunU E203 (bodyOf Tryz.f203) Tryz.f203.results.toList A
def sp203:FnSpec iseat.toSeat:=mkSpecU iseat 203 true r203 (fun A d hd hr h=>fn_contractU (E:=E203) (fn:=Tryz.f203) Tryz.func203 (by kernel_rfl) (by kernel_rfl) (by kernel_rfl) rfl hd hr h)
def E245:FEnv iseat:=⟨⟨48,[sp280],[],[],[],[],[],[],[],[],[],[],[],[41,44],[],true⟩,[]⟩
def r245 (A:List I):Option I:=fnRunU E245 (bodyOf Tryz.f245) Tryz.f245.results.toList A
def sp245:FnSpec iseat.toSeat:=mkSpecU iseat 245 false r245 (fun A d hd hr h=>fn_contractU (E:=E245) (fn:=Tryz.f245) Tryz.func245 (by kernel_rfl) (by kernel_rfl) (by kernel_rfl) rfl hd hr h)
def E193:FEnv iseat:=⟨⟨9,[],[],[],[],[],[],[],[],[],[],[],[],[],[],false⟩,[]⟩
def sp193:FnSpecM iseat.toSeat:=mkSpecD 3 [] [] [0] E193 193 (bodyOf Tryz.f193) Tryz.f193.results.toList (fun ls A y hx=>fn_contractD (E:=E193) (mv:=[]) (fn:=Tryz.f193) Tryz.func193 (by kernel_rfl) (by kernel_rfl) (by kernel_rfl) rfl rfl hx)
def E199:FEnv iseat:=⟨⟨19,[sp31,sp228],[],[],[],[],[],[],[],[],[],[],[],[13],[],false⟩,[]⟩
def sp199:FnSpecM iseat.toSeat:=mkSpecD 3 [] [] [0] E199 199 (bodyOf Tryz.f199) Tryz.f199.results.toList (fun ls A y hx=>fn_contractD (E:=E199) (mv:=[]) (fn:=Tryz.f199) Tryz.func199 (by kernel_rfl) (by kernel_rfl) (by kernel_rfl) rfl rfl hx)
def E210:FEnv iseat:=⟨⟨30,[sp31],[],[],[],[],[],[],[],[],[],[],[],[25],[],false⟩,[(1000002,⟨⟨[(195,.os 40003 100 .Truck)],[]⟩,[],[],[]⟩)]⟩
def sp210:FnSpecM iseat.toSeat:=mkSpecD 3 [] [] [0] E210 210 (bodyOf Tryz.f210) Tryz.f210.results.toList (fun ls A y hx=>fn_contractD (E:=E210) (mv:=[]) (fn:=Tryz.f210) Tryz.func210 (by kernel_rfl) (by kernel_rfl) (by kernel_rfl) rfl rfl hx)
def E204:FEnv iseat:=⟨⟨12,[sp237,sp109],[],[],[],[],[],[],[],[],[],[],[],[],[],false⟩,[]⟩
def sp204:FnSpecM iseat.toSeat:=mkSpecD 3 [] [] [0] E204 204 (bodyOf Tryz.f204) Tryz.f204.results.toList (fun ls A y hx=>fn_contractD (E:=E204) (mv:=[]) (fn:=Tryz.f204) Tryz.func204 (by kernel_rfl) (by kernel_rfl) (by kernel_rfl) rfl rfl hx)
def E205:FEnv iseat:=⟨⟨53,[sp41,sp202],[],[],[],[],[],[],[],[],[],[],[],[],[],false⟩,[]⟩
def sp205:FnSpecM iseat.toSeat:=mkSpecD 3 [] [] [0] E205 205 (bodyOf Tryz.f205) Tryz.f205.results.toList (fun ls A y hx=>fn_contractD (E:=E205) (mv:=[]) (fn:=Tryz.f205) Tryz.func205 (by kernel_rfl) (by kernel_rfl) (by kernel_rfl) rfl rfl hx)
def E200:FEnv iseat:=⟨⟨42,[sp202,sp229],[],[],[],[],[],[sp193],[],[],[],[],[],[],[],false⟩,[]⟩
def sp200:FnSpecM iseat.toSeat:=mkSpecD 3 [] [] [0] E200 200 (bodyOf Tryz.f200) Tryz.f200.results.toList (fun ls A y hx=>fn_contractD (E:=E200) (mv:=[]) (fn:=Tryz.f200) Tryz.func200 (by kernel_rfl) (by kernel_rfl) (by kernel_rfl) rfl rfl hx)
def E207:FEnv iseat:=⟨⟨48,[sp229],[],[],[],[],[],[sp193],[],[],[],[],[],[],[],false⟩,[]⟩
def sp207:FnSpecM iseat.toSeat:=mkSpecD 3 [] [] [0] E207 207 (bodyOf Tryz.f207) Tryz.f207.results.toList (fun ls A y hx=>fn_contractD (E:=E207) (mv:=[]) (fn:=Tryz.f207) Tryz.func207 (by kernel_rfl) (by kernel_rfl) (by kernel_rfl) rfl rfl hx)
def E208:FEnv iseat:=⟨⟨95,[sp67,sp243,sp211,sp245,sp244],[],[],[sp242f],[],[],[sp199],[],[],[],[],[],[19,21,76],[],false⟩,[]⟩
def sp208:FnSpecM iseat.toSeat:=mkSpecD 3 [] [] [0] E208 208 (bodyOf Tryz.f208) Tryz.f208.results.toList (fun ls A y hx=>fn_contractD (E:=E208) (mv:=[]) (fn:=Tryz.f208) Tryz.func208 (by kernel_rfl) (by kernel_rfl) (by kernel_rfl) rfl rfl hx)
def E216:FEnv iseat:=⟨⟨27,[sp259,sp126],[],[],[],[],[],[],[],[],[],[],[],[],[],false⟩,[]⟩
def sp216:FnSpecM iseat.toSeat:=mkSpecD 3 [] [] [0] E216 216 (bodyOf Tryz.f216) Tryz.f216.results.toList (fun ls A y hx=>fn_contractD (E:=E216) (mv:=[]) (fn:=Tryz.f216) Tryz.func216 (by kernel_rfl) (by kernel_rfl) (by kernel_rfl) rfl rfl hx)
def E198:FEnv iseat:=⟨⟨15,[],[],[],[],[],[],[sp199],[],[],[],[],[],[],[],false⟩,[]⟩
def sp198:FnSpecM iseat.toSeat:=mkSpecD 4 [] [] [] E198 198 (bodyOf Tryz.f198) Tryz.f198.results.toList (fun ls A y hx=>fn_contractD (E:=E198) (mv:=[]) (fn:=Tryz.f198) Tryz.func198 (by kernel_rfl) (by kernel_rfl) (by kernel_rfl) rfl rfl hx)
def E227:FEnv iseat:=⟨⟨19,[],[],[],[],[],[],[sp198],[],[],[],[],[],[],[],false⟩,[]⟩
def sp227:FnSpecM iseat.toSeat:=mkSpecD 4 [] [0] [] E227 227 (bodyOf Tryz.f227) Tryz.f227.results.toList (fun ls A y hx=>fn_contractD (E:=E227) (mv:=[]) (fn:=Tryz.f227) Tryz.func227 (by kernel_rfl) (by kernel_rfl) (by kernel_rfl) rfl rfl hx)
def E197:FEnv iseat:=⟨⟨42,[],[],[],[],[],[],[sp227,sp198],[],[],[],[],[],[38],[],false⟩,[]⟩
def sp197:FnSpecM iseat.toSeat:=mkSpecD 4 [0] [0] [] E197 197 (bodyOf Tryz.f197) Tryz.f197.results.toList (fun ls A y hx=>fn_contractD (E:=E197) (mv:=[0]) (fn:=Tryz.f197) Tryz.func197 (by kernel_rfl) (by kernel_rfl) (by kernel_rfl) rfl rfl hx)
def E171:FEnv iseat:=⟨⟨54,[sp191,sp192,sp194],[],[],[],[],[],[sp193],[],[],[],[],[],[9,37],[],false⟩,[]⟩
def sp171:FnSpecM iseat.toSeat:=mkSpecD 3 [] [] [0] E171 171 (bodyOf Tryz.f171) Tryz.f171.results.toList (fun ls A y hx=>fn_contractD (E:=E171) (mv:=[]) (fn:=Tryz.f171) Tryz.func171 (by kernel_rfl) (by kernel_rfl) (by kernel_rfl) rfl rfl hx)
def E172:FEnv iseat:=⟨⟨58,[sp191,sp195,sp196],[],[],[],[],[],[sp193],[],[],[],[],[],[9,41],[],false⟩,[]⟩
def sp172:FnSpecM iseat.toSeat:=mkSpecD 3 [] [] [0] E172 172 (bodyOf Tryz.f172) Tryz.f172.results.toList (fun ls A y hx=>fn_contractD (E:=E172) (mv:=[]) (fn:=Tryz.f172) Tryz.func172 (by kernel_rfl) (by kernel_rfl) (by kernel_rfl) rfl rfl hx)
def E173:FEnv iseat:=⟨⟨41,[],[],[],[],[],[],[sp198,sp197],[],[],[],[],[],[],[],false⟩,[]⟩
def sp173:FnSpecM iseat.toSeat:=mkSpecD 3 [1] [] [0] E173 173 (bodyOf Tryz.f173) Tryz.f173.results.toList (fun ls A y hx=>fn_contractD (E:=E173) (mv:=[1]) (fn:=Tryz.f173) Tryz.func173 (by kernel_rfl) (by kernel_rfl) (by kernel_rfl) rfl rfl hx)
def E174:FEnv iseat:=⟨⟨20,[sp201],[],[],[],[],[],[sp200],[],[],[],[],[],[],[],false⟩,[]⟩
def sp174:FnSpecM iseat.toSeat:=mkSpecD 3 [] [] [0] E174 174 (bodyOf Tryz.f174) Tryz.f174.results.toList (fun ls A y hx=>fn_contractD (E:=E174) (mv:=[]) (fn:=Tryz.f174) Tryz.func174 (by kernel_rfl) (by kernel_rfl) (by kernel_rfl) rfl rfl hx)
def E175:FEnv iseat:=⟨⟨58,[sp202,sp203,sp126],[],[],[],[],[],[sp193],[],[],[],[],[],[],[],false⟩,[]⟩
def sp175:FnSpecM iseat.toSeat:=mkSpecD 3 [] [] [0] E175 175 (bodyOf Tryz.f175) Tryz.f175.results.toList (fun ls A y hx=>fn_contractD (E:=E175) (mv:=[]) (fn:=Tryz.f175) Tryz.func175 (by kernel_rfl) (by kernel_rfl) (by kernel_rfl) rfl rfl hx)
def E177:FEnv iseat:=⟨⟨59,[sp212],[],[],[],[],[],[sp210],[],[],[],[],[],[],[],false⟩,[]⟩
def sp177:FnSpecM iseat.toSeat:=mkSpecD 3 [] [] [0] E177 177 (bodyOf Tryz.f177) Tryz.f177.results.toList (fun ls A y hx=>fn_contractD (E:=E177) (mv:=[]) (fn:=Tryz.f177) Tryz.func177 (by kernel_rfl) (by kernel_rfl) (by kernel_rfl) rfl rfl hx)
def E178:FEnv iseat:=⟨⟨27,[sp213],[],[],[],[],[],[sp210],[],[],[],[],[],[],[],false⟩,[]⟩
def sp178:FnSpecM iseat.toSeat:=mkSpecD 3 [] [] [0] E178 178 (bodyOf Tryz.f178) Tryz.f178.results.toList (fun ls A y hx=>fn_contractD (E:=E178) (mv:=[]) (fn:=Tryz.f178) Tryz.func178 (by kernel_rfl) (by kernel_rfl) (by kernel_rfl) rfl rfl hx)
def E179:FEnv iseat:=⟨⟨45,[sp214,sp126],[],[],[],[],[],[sp204],[],[],[],[],[],[],[],false⟩,[]⟩
def sp179:FnSpecM iseat.toSeat:=mkSpecD 3 [] [] [0] E179 179 (bodyOf Tryz.f179) Tryz.f179.results.toList (fun ls A y hx=>fn_contractD (E:=E179) (mv:=[]) (fn:=Tryz.f179) Tryz.func179 (by kernel_rfl) (by kernel_rfl) (by kernel_rfl) rfl rfl hx)
def E180:FEnv iseat:=⟨⟨43,[sp215],[],[],[],[],[],[],[],[],[],[],[],[],[],false⟩,[]⟩
def sp180:FnSpecM iseat.toSeat:=mkSpecD 3 [] [] [0] E180 180 (bodyOf Tryz.f180) Tryz.f180.results.toList (fun ls A y hx=>fn_contractD (E:=E180) (mv:=[]) (fn:=Tryz.f180) Tryz.func180 (by kernel_rfl) (by kernel_rfl) (by kernel_rfl) rfl rfl hx)
def E181:FEnv iseat:=⟨⟨56,[sp217],[],[],[],[],[],[sp216],[],[],[],[],[],[],[],false⟩,[]⟩
def sp181:FnSpecM iseat.toSeat:=mkSpecD 3 [] [] [0] E181 181 (bodyOf Tryz.f181) Tryz.f181.results.toList (fun ls A y hx=>fn_contractD (E:=E181) (mv:=[]) (fn:=Tryz.f181) Tryz.func181 (by kernel_rfl) (by kernel_rfl) (by kernel_rfl) rfl rfl hx)
def E182:FEnv iseat:=⟨⟨46,[sp218],[],[],[],[],[],[],[],[],[],[],[],[],[],false⟩,[]⟩
def sp182:FnSpecM iseat.toSeat:=mkSpecD 3 [] [] [0] E182 182 (bodyOf Tryz.f182) Tryz.f182.results.toList (fun ls A y hx=>fn_contractD (E:=E182) (mv:=[]) (fn:=Tryz.f182) Tryz.func182 (by kernel_rfl) (by kernel_rfl) (by kernel_rfl) rfl rfl hx)
def E176:FEnv iseat:=⟨⟨225,[sp206,sp201,sp209,sp126,sp211],[],[],[],[],[],[sp204,sp205,sp199,sp207,sp208,sp210],[],[],[],[],[],[188,213,3000214],[],false⟩,[]⟩
def sp176:FnSpecM iseat.toSeat:=mkSpecD 3 [1] [] [0] E176 176 (bodyOf Tryz.f176) Tryz.f176.results.toList (fun ls A y hx=>fn_contractD (E:=E176) (mv:=[1]) (fn:=Tryz.f176) Tryz.func176 (by kernel_rfl) (by kernel_rfl) (by kernel_rfl) rfl rfl hx)
end
end Go.Proofs.Rd10
namespace Go.Proofs.Rd10
open Go Go.Ab
open Go.Proofs.YtbhjjkekphpldaaGreatDoor (iseat)
set_option linter.all false
set_option maxRecDepth 100000
noncomputable section
def E124:FEnv iseat:=⟨⟨24,[sp147],[],[],[],[],[],[sp171,sp172,sp173,sp174,sp175,sp176,sp177,sp178,sp179,sp180,sp181,sp182],[],[],[],[],[],[],[],false⟩,[]⟩
end
end Go.Proofs.Rd10
namespace Go.Ab
open Go Go.RowKit
noncomputable section
set_option linter.all false
section
variable {Z:ISeat}
theorem eqW_at:∀ {ls l2:List IOwn},eqLL eqW ls l2=true→ls.length=l2.length∧∀ i,isArr (nthW ls i)=isArr (nthW l2 i)∧(nthW ls i).toOwn zh=(nthW l2 i).toOwn zh
 |[],[],_=>⟨rfl,fun _=>⟨rfl,rfl⟩⟩
 |a::l,b::m,e=>by
  simp only[eqLL,Bool.and_eq_true]at e
  obtain ⟨h1,h2⟩:=eqW_at e.2
  refine ⟨by simp[h1],fun i=>?_⟩
  cases i with
  |succ i=>exact h2 i
  |zero =>
   refine ⟨?_,eqW_ok zh e.1⟩
   have e1:=e.1
   show isArr a=isArr b
   cases a<;>cases b<;>first|rfl|(cases e1;done)
 |[],_::_,e=>by cases e
 |_::_,[],e=>by cases e
def Kn (mv:List Nat) (E:FEnv Z) (c:Code) (rv:List ResultVar):Type:={ p:List IOwn×List I×(List IOwn×I) // fnRunN mv E c rv p.1 p.2.1=some p.2.2 }
def findK {mv:List Nat}{E:FEnv Z}{c:Code}{rv:List ResultVar}:List (Kn mv E c rv)→List IOwn→List I→Option (Kn mv E c rv)
 |[],_,_=>none
 |q::l,ls,A=>bif eqLL (eqI 9) A q.1.2.1&&eqLL eqW ls q.1.1 then some q else findK l ls A
theorem findK_ok {mv:List Nat}{E:FEnv Z}{c:Code}{rv:List ResultVar}:∀ {l:List (Kn mv E c rv)}{ls:List IOwn}{A:List I}{q:Kn mv E c rv},findK l ls A=some q→eqLL (eqI 9) A q.1.2.1=true∧eqLL eqW ls q.1.1=true
 |q::l,ls,A,q',h=>by
  unfold findK at h
  cases hc:eqLL (eqI 9) A q.1.2.1&&eqLL eqW ls q.1.1 with
  |true =>
   rw[hc]at h
   simp only[cond_true,Option.some.injEq]at h
   subst h
   simpa using hc
  |false=>rw[hc]at h;exact findK_ok h
def mkSpecK (n:Nat) (mv ka kb:List Nat) (E:FEnv Z) (f:FuncId) (c:Code) (rv:List ResultVar) (t:List (Kn mv E c rv)) (h:∀ ls A y,fnRunN mv E c rv ls A=some y→y.1.length=ls.length∧ContractN Z.toSeat f ls.length (nmO ls) (owF ls) (upO (rngN 0 ls.length) y.1 (owF ls)) (fun i=>memN i mv) (I.toDL zh A) (y.2.toD zh)):FnSpecM Z.toSeat where
 f:=f
 ka:=ka
 kb:=kb
 wr:=rngN 0 n
 mv:=mv
 app:=fun ls A k=>bif Nat.beq ls.length n then (match findK t ls A with
  |some q=>k q.1.2.2.1 q.1.2.2.2
  |none=>(match fnRunN mv E c rv ls A with|some y=>k y.1 y.2|none=>none)) else none
 ok:=fun ls A k r e=>by
  cases hl:Nat.beq ls.length n with
  |false=>rw[hl]at e;cases e
  |true =>
   rw[hl]at e
   simp only[cond_true]at e
   have hn:=Nat.eq_of_beq_eq_true hl
   split at e
   ·rename_i q hq
    obtain ⟨e1,e2⟩:=findK_ok hq
    obtain ⟨a1,a2⟩:=eqW_at e2
    obtain ⟨_,h2⟩:=h _ _ _ q.2
    refine ⟨_,_,e,?_⟩
    have b1:nmO ls=nmO q.1.1:=by funext i;unfold nmO;rw[(a2 i).1]
    have b2:owF ls=owF q.1.1:=by funext i;exact(a2 i).2
    have b3:I.toDL zh A=I.toDL zh q.1.2.1:=eqLL_toD zh (eqI_ok zh) e1
    rw[b1,b2,b3,← hn,a1]
    exact h2
   ·split at e
    ·rename_i y hy
     obtain ⟨_,h2⟩:=h ls A y hy
     rw[hn]at h2
     refine ⟨y.1,y.2,e,?_⟩
     rw[hn]
     exact h2
    ·cases e
def mkSpecT (Z:ISeat) (f:FuncId) (A0:List I) (d0:I) (hc:∀ h,Contract Z.toSeat f (I.toDL h A0) (d0.toD h)):FnSpec Z.toSeat where
 f:=f
 sc:=scR d0
 app:=fun A k=>bif eqLL (eqI 9) A A0 then k d0 else none
 ok:=fun A k r e=>by
  cases hq:eqLL (eqI 9) A A0 with
  |false=>rw[hq]at e;cases e
  |true =>
   rw[hq]at e
   refine ⟨d0,e,fun h=>⟨?_,fun hs=>scR_ok hs⟩⟩
   rw[eqLL_toD h (eqI_ok h) hq]
   exact hc h
end
end
end Go.Ab
namespace Go.Proofs.Rd10
open Go Go.Ab
open Go.Proofs.YtbhjjkekphpldaaGreatDoor (iseat)
set_option linter.all false
set_option maxRecDepth 100000
noncomputable section
def regL:List I:=match r12 [] with|some (.agg l)=>l|_=>[]
def dst (m:Int) (l k v:I) (ts:List Rolling) (a b:List Turn):List IOwn:=[.box (.int .i64 m::l::k::.os 900000001 1::.os 900000002 1::.sl .Account [⟨⟨#[114,97,99,107]⟩,1,⟨1000,1000⟩,⟨900,1000⟩⟩,⟨⟨#[99,97,109,112]⟩,1,⟨0,0⟩,⟨0,100⟩⟩]::v::regL),.arr 261 .Rolling ts,.arr 63 .Driver [⟨⟨#[97,110,110]⟩,1,a⟩,⟨⟨#[98,111,98]⟩,1,b⟩]]
def tx (b:List UInt8):List I:=[.bx 0 1 0,.str ⟨b.toArray⟩]
def lk:I:=.sl .Look [⟨3,1,0,⟨400,420⟩⟩]
def trA:List Rolling:=[⟨0,2060,⟨1,0,⟨100,100⟩,[]⟩⟩]
def tuA:List Turn:=[⟨⟨0,0⟩,⟨3,3⟩⟩]
def z0:List IOwn:=dst 0 .nil .nil .nil [] [] []
def z1:List IOwn:=dst 0 lk .nil .nil [] [] []
def z2:List IOwn:=dst 0 lk .nil .nil trA tuA []
def z3:List IOwn:=dst 3 lk .nil .nil [] tuA []
def trB:List Rolling:=[⟨1,1030,⟨2,3,⟨100,100⟩,[]⟩⟩]
def tuB:List Turn:=[⟨⟨3,3⟩,⟨6,6⟩⟩]
def mv5:I:=.sl .Mov [⟨0,1,⟨50,60⟩⟩]
def z4:List IOwn:=dst 3 lk .nil .nil trB tuA tuB
def z5:List IOwn:=dst 3 lk .nil mv5 trB tuA tuB
def z6:List IOwn:=dst 3 lk (.sl .Mrk [⟨1,2,2,0,1⟩]) mv5 trB tuA tuB
def rp (e:Int) (b:List UInt8):I:=.tup [.str ⟨b.toArray⟩,.int .i64 e]
abbrev KnP (s:List IOwn) (l:List UInt8) (t:List IOwn) (e:Int) (b:List UInt8):Prop:=fnRunN (Z:=iseat) [1] E124 (bodyOf Tryz.f124) Tryz.f124.results.toList s (tx l)=some (t,rp e b)
abbrev KnT:=Kn (Z:=iseat) [1] E124 (bodyOf Tryz.f124) Tryz.f124.results.toList
end
end Go.Proofs.Rd10
