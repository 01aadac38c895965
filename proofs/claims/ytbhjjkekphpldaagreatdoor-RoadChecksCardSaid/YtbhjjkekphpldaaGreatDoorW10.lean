/- Walks by computing: what each function of the program that the laws reach gives for what it gets, as plain Lean, and that it is so; without a condition but those that stand in each theorem. -/
import Derived.Shelf.Strings.Split
import Derived.Shelf.Strings.Cut
import Derived.Shelf.Strings.Count
import Derived.Shelf.Strings.Builder1
import Derived.Shelf.Strconv.AtoiAll
import Derived.Shelf.Strconv.Itoa3
import Derived.Shelf.Strings.SlTrimAscii
import Derived.WalkSmall
import Derived.Test.YtbhjjkekphpldaaGreatDoorW1
import Derived.Test.YtbhjjkekphpldaaGreatDoorW2
import Derived.Test.YtbhjjkekphpldaaGreatDoorW3
import Derived.Test.YtbhjjkekphpldaaGreatDoorW4
import Derived.Test.YtbhjjkekphpldaaGreatDoorW5
import Derived.Test.YtbhjjkekphpldaaGreatDoorW6
import Derived.Test.YtbhjjkekphpldaaGreatDoorW7
import Derived.Test.YtbhjjkekphpldaaGreatDoorW8
import Derived.Test.YtbhjjkekphpldaaGreatDoorW9
set_option linter.all false
namespace Go.Proofs.cZ
open Go Go.Ab Go.RowKit Go.Shelf Go.Proofs
open Go.Proofs.YtbhjjkekphpldaaGreatDoor (ae)
set_option linter.all false
set_option maxRecDepth 100000
def rn:Ren:={ f:=fun|119=>188|120=>164|129=>221|137=>146|138=>121|143=>142|145=>170|151=>153|152=>163|160=>107|169=>128|171=>126|172=>219|195=>140|197=>152|205=>320|217=>156|218=>141|219=>155|220=>190|224=>166|225=>165|227=>131|228=>151|231=>129|232=>130|233=>132|234=>133|235=>134|236=>135|240=>150|243=>149|244=>262|245=>263|246=>160|247=>293|260=>162|266=>168|267=>167|271=>154|276=>161|279=>294|280=>295|281=>296|282=>297|283=>184|284=>185|285=>186|286=>187|287=>318|314=>189|316=>319|317=>220|318=>222|319=>223|320=>224|321=>333|322=>334|337=>264|338=>265|n=>n,t:=fun|0=>0|2=>2|3=>3|4=>4|5=>5|9=>9|20=>20|21=>21|37=>172|46=>90|51=>246|53=>72|59=>230|70=>171|72=>174|75=>181|76=>182|80=>184|85=>380|105=>215|116=>187|117=>188|119=>241|124=>191|127=>213|138=>243|139=>244|143=>435|145=>437|146=>247|164=>226|167=>379|168=>382|171=>236|173=>239|175=>415|210=>419|212=>290|213=>291|232=>385|233=>386|n=>n,g:=fun|1=>0|3=>1|4=>2|15=>9|16=>10|17=>4|18=>6|19=>7|n=>n }
theorem ar6:LaysM.n171 Tryz.prog rn:={
 mixed:=by kernel_rfl
 f129:=Eq.trans Tryz.func221 (congrArg some (by kernel_rfl))
 f171:=Eq.trans Tryz.func126 (congrArg some (by kernel_rfl))
 f243:=Eq.trans Tryz.func149 (congrArg some (by kernel_rfl))
 f246:=Eq.trans Tryz.func160 (congrArg some (by kernel_rfl))
 f283:=Eq.trans Tryz.func184 (congrArg some (by kernel_rfl))
 f284:=Eq.trans Tryz.func185 (congrArg some (by kernel_rfl))
 f285:=Eq.trans Tryz.func186 (congrArg some (by kernel_rfl))
 f286:=Eq.trans Tryz.func187 (congrArg some (by kernel_rfl))
 f317:=Eq.trans Tryz.func220 (congrArg some (by kernel_rfl))
 f318:=Eq.trans Tryz.func222 (congrArg some (by kernel_rfl))
 f319:=Eq.trans Tryz.func223 (congrArg some (by kernel_rfl))
 f320:=Eq.trans Tryz.func224 (congrArg some (by kernel_rfl))
 f337:=Eq.trans Tryz.func264 (congrArg some (by kernel_rfl))
 f338:=Eq.trans Tryz.func265 (congrArg some (by kernel_rfl))
 t0:=Tryz.underlying0
 a0:=Tryz.isAgg0
 z0:=Tryz.sizeOf0
 v0:=Tryz.zeroValue0
 t2:=Tryz.underlying2
 a2:=Tryz.isAgg2
 z2:=Tryz.sizeOf2
 v2:=Tryz.zeroValue2
 t3:=Tryz.underlying3
 a3:=Tryz.isAgg3
 z3:=Tryz.sizeOf3
 v3:=Tryz.zeroValue3
 t4:=Tryz.underlying4
 a4:=Tryz.isAgg4
 z4:=Tryz.sizeOf4
 v4:=Tryz.zeroValue4
 t5:=Tryz.underlying5
 a5:=Tryz.isAgg5
 z5:=Tryz.sizeOf5
 v5:=Tryz.zeroValue5
 t9:=Tryz.underlying9
 a9:=Tryz.isAgg9
 z9:=Tryz.sizeOf9
 v9:=Tryz.zeroValue9
 t20:=Tryz.underlying20
 a20:=Tryz.isAgg20
 z20:=Tryz.sizeOf20
 v20:=Tryz.zeroValue20
 t37:=Tryz.underlying172
 a37:=Tryz.isAgg172
 z37:=Tryz.sizeOf172
 v37:=Tryz.zeroValue172
 t46:=Tryz.underlying90
 a46:=Tryz.isAgg90
 z46:=Tryz.sizeOf90
 v46:=Tryz.zeroValue90
 t51:=Tryz.underlying246
 a51:=Tryz.isAgg246
 z51:=Tryz.sizeOf246
 v51:=Tryz.zeroValue246
 t53:=Tryz.underlying72
 a53:=Tryz.isAgg72
 z53:=Tryz.sizeOf72
 v53:=Tryz.zeroValue72
 t171:=Tryz.underlying236
 a171:=Tryz.isAgg236
 z171:=Tryz.sizeOf236
 v171:=Tryz.zeroValue236
 t173:=Tryz.underlying239
 a173:=Tryz.isAgg239
 z173:=Tryz.sizeOf239
 v173:=Tryz.zeroValue239
 t212:=Tryz.underlying290
 a212:=Tryz.isAgg290
 z212:=Tryz.sizeOf290
 v212:=Tryz.zeroValue290
 t213:=Tryz.underlying291
 a213:=Tryz.isAgg291
 z213:=Tryz.sizeOf291
 t232:=Tryz.underlying385
 a232:=Tryz.isAgg385
 z232:=Tryz.sizeOf385
 v232:=Tryz.zeroValue385
 t233:=Tryz.underlying386
 a233:=Tryz.isAgg386
 z233:=Tryz.sizeOf386
 v233:=Tryz.zeroValue386
 g17:=by kernel_rfl
 g18:=by kernel_rfl
 g19:=by kernel_rfl
 i0:=by kernel_rfl
 i2:=by kernel_rfl
 i3:=by kernel_rfl
 i4:=by kernel_rfl
 i5:=by kernel_rfl
 i9:=by kernel_rfl
 i20:=by kernel_rfl
 i37:=by kernel_rfl
 i46:=by kernel_rfl
 i51:=by kernel_rfl
 i53:=by kernel_rfl
 i171:=by kernel_rfl
 i173:=by kernel_rfl
 i212:=by kernel_rfl
 i232:=by kernel_rfl
 i233:=by kernel_rfl
 m17:=by kernel_rfl
 m18:=by kernel_rfl
 m19:=by kernel_rfl
}
theorem aa8:LaysC.n172 Tryz.prog rn:={
 mixed:=by kernel_rfl
 f129:=Eq.trans Tryz.func221 (congrArg some (by kernel_rfl))
 f171:=Eq.trans Tryz.func126 (congrArg some (by kernel_rfl))
 f172:=Eq.trans Tryz.func219 (congrArg some (by kernel_rfl))
 f205:=Eq.trans Tryz.func320 (congrArg some (by kernel_rfl))
 f243:=Eq.trans Tryz.func149 (congrArg some (by kernel_rfl))
 f244:=Eq.trans Tryz.func262 (congrArg some (by kernel_rfl))
 f245:=Eq.trans Tryz.func263 (congrArg some (by kernel_rfl))
 f246:=Eq.trans Tryz.func160 (congrArg some (by kernel_rfl))
 f247:=Eq.trans Tryz.func293 (congrArg some (by kernel_rfl))
 f279:=Eq.trans Tryz.func294 (congrArg some (by kernel_rfl))
 f280:=Eq.trans Tryz.func295 (congrArg some (by kernel_rfl))
 f281:=Eq.trans Tryz.func296 (congrArg some (by kernel_rfl))
 f282:=Eq.trans Tryz.func297 (congrArg some (by kernel_rfl))
 f283:=Eq.trans Tryz.func184 (congrArg some (by kernel_rfl))
 f284:=Eq.trans Tryz.func185 (congrArg some (by kernel_rfl))
 f285:=Eq.trans Tryz.func186 (congrArg some (by kernel_rfl))
 f286:=Eq.trans Tryz.func187 (congrArg some (by kernel_rfl))
 f287:=Eq.trans Tryz.func318 (congrArg some (by kernel_rfl))
 f316:=Eq.trans Tryz.func319 (congrArg some (by kernel_rfl))
 f317:=Eq.trans Tryz.func220 (congrArg some (by kernel_rfl))
 f318:=Eq.trans Tryz.func222 (congrArg some (by kernel_rfl))
 f319:=Eq.trans Tryz.func223 (congrArg some (by kernel_rfl))
 f320:=Eq.trans Tryz.func224 (congrArg some (by kernel_rfl))
 f321:=Eq.trans Tryz.func333 (congrArg some (by kernel_rfl))
 f322:=Eq.trans Tryz.func334 (congrArg some (by kernel_rfl))
 f337:=Eq.trans Tryz.func264 (congrArg some (by kernel_rfl))
 f338:=Eq.trans Tryz.func265 (congrArg some (by kernel_rfl))
 t0:=Tryz.underlying0
 a0:=Tryz.isAgg0
 z0:=Tryz.sizeOf0
 v0:=Tryz.zeroValue0
 t2:=Tryz.underlying2
 a2:=Tryz.isAgg2
 z2:=Tryz.sizeOf2
 v2:=Tryz.zeroValue2
 t3:=Tryz.underlying3
 a3:=Tryz.isAgg3
 z3:=Tryz.sizeOf3
 v3:=Tryz.zeroValue3
 t4:=Tryz.underlying4
 a4:=Tryz.isAgg4
 z4:=Tryz.sizeOf4
 v4:=Tryz.zeroValue4
 t5:=Tryz.underlying5
 a5:=Tryz.isAgg5
 z5:=Tryz.sizeOf5
 v5:=Tryz.zeroValue5
 t9:=Tryz.underlying9
 a9:=Tryz.isAgg9
 z9:=Tryz.sizeOf9
 v9:=Tryz.zeroValue9
 t20:=Tryz.underlying20
 a20:=Tryz.isAgg20
 z20:=Tryz.sizeOf20
 v20:=Tryz.zeroValue20
 t21:=Tryz.underlying21
 a21:=Tryz.isAgg21
 z21:=Tryz.sizeOf21
 v21:=Tryz.zeroValue21
 t37:=Tryz.underlying172
 a37:=Tryz.isAgg172
 z37:=Tryz.sizeOf172
 v37:=Tryz.zeroValue172
 t46:=Tryz.underlying90
 a46:=Tryz.isAgg90
 z46:=Tryz.sizeOf90
 v46:=Tryz.zeroValue90
 t51:=Tryz.underlying246
 a51:=Tryz.isAgg246
 z51:=Tryz.sizeOf246
 v51:=Tryz.zeroValue246
 t53:=Tryz.underlying72
 a53:=Tryz.isAgg72
 z53:=Tryz.sizeOf72
 v53:=Tryz.zeroValue72
 t75:=Tryz.underlying181
 a75:=Tryz.isAgg181
 z75:=Tryz.sizeOf181
 v75:=Tryz.zeroValue181
 t76:=Tryz.underlying182
 a76:=Tryz.isAgg182
 z76:=Tryz.sizeOf182
 v76:=Tryz.zeroValue182
 t85:=Tryz.underlying380
 a85:=Tryz.isAgg380
 z85:=Tryz.sizeOf380
 v85:=Tryz.zeroValue380
 t127:=Tryz.underlying213
 a127:=Tryz.isAgg213
 z127:=Tryz.sizeOf213
 v127:=Tryz.zeroValue213
 t143:=Tryz.underlying435
 a143:=Tryz.isAgg435
 z143:=Tryz.sizeOf435
 v143:=Tryz.zeroValue435
 t145:=Tryz.underlying437
 a145:=Tryz.isAgg437
 z145:=Tryz.sizeOf437
 v145:=Tryz.zeroValue437
 t167:=Tryz.underlying379
 a167:=Tryz.isAgg379
 z167:=Tryz.sizeOf379
 v167:=Tryz.zeroValue379
 t168:=Tryz.underlying382
 a168:=Tryz.isAgg382
 z168:=Tryz.sizeOf382
 v168:=Tryz.zeroValue382
 t171:=Tryz.underlying236
 a171:=Tryz.isAgg236
 z171:=Tryz.sizeOf236
 v171:=Tryz.zeroValue236
 t173:=Tryz.underlying239
 a173:=Tryz.isAgg239
 z173:=Tryz.sizeOf239
 v173:=Tryz.zeroValue239
 t175:=Tryz.underlying415
 a175:=Tryz.isAgg415
 z175:=Tryz.sizeOf415
 v175:=Tryz.zeroValue415
 t210:=Tryz.underlying419
 a210:=Tryz.isAgg419
 z210:=Tryz.sizeOf419
 v210:=Tryz.zeroValue419
 t212:=Tryz.underlying290
 a212:=Tryz.isAgg290
 z212:=Tryz.sizeOf290
 v212:=Tryz.zeroValue290
 t213:=Tryz.underlying291
 a213:=Tryz.isAgg291
 z213:=Tryz.sizeOf291
 t232:=Tryz.underlying385
 a232:=Tryz.isAgg385
 z232:=Tryz.sizeOf385
 v232:=Tryz.zeroValue385
 t233:=Tryz.underlying386
 a233:=Tryz.isAgg386
 z233:=Tryz.sizeOf386
 v233:=Tryz.zeroValue386
 g15:=by kernel_rfl
 g16:=by kernel_rfl
 g17:=by kernel_rfl
 g18:=by kernel_rfl
 g19:=by kernel_rfl
 t80:=Tryz.underlying184
 a80:=Tryz.isAgg184
 z80:=Tryz.sizeOf184
 v80:=Tryz.zeroValue184
 i0:=by kernel_rfl
 i2:=by kernel_rfl
 i3:=by kernel_rfl
 i4:=by kernel_rfl
 i5:=by kernel_rfl
 i9:=by kernel_rfl
 i20:=by kernel_rfl
 i21:=by kernel_rfl
 i37:=by kernel_rfl
 i46:=by kernel_rfl
 i51:=by kernel_rfl
 i53:=by kernel_rfl
 i75:=by kernel_rfl
 i76:=by kernel_rfl
 i80:=by kernel_rfl
 i85:=by kernel_rfl
 i127:=by kernel_rfl
 i143:=by kernel_rfl
 i145:=by kernel_rfl
 i167:=by kernel_rfl
 i168:=by kernel_rfl
 i171:=by kernel_rfl
 i173:=by kernel_rfl
 i175:=by kernel_rfl
 i210:=by kernel_rfl
 i212:=by kernel_rfl
 i232:=by kernel_rfl
 i233:=by kernel_rfl
 m15:=by kernel_rfl
 m16:=by kernel_rfl
 m17:=by kernel_rfl
 m18:=by kernel_rfl
 m19:=by kernel_rfl
 c0:=by kernel_rfl
 c2:=by kernel_rfl
 c3:=by kernel_rfl
 c4:=by kernel_rfl
 c5:=by kernel_rfl
 c9:=by kernel_rfl
 c20:=by kernel_rfl
 c21:=by kernel_rfl
 c37:=by kernel_rfl
 c46:=by kernel_rfl
 c51:=by kernel_rfl
 c53:=by kernel_rfl
 c75:=by kernel_rfl
 c76:=by kernel_rfl
 c80:=by kernel_rfl
 c85:=by kernel_rfl
 c127:=by kernel_rfl
 c143:=by kernel_rfl
 c145:=by kernel_rfl
 c167:=by kernel_rfl
 c168:=by kernel_rfl
 c171:=by kernel_rfl
 c173:=by kernel_rfl
 c175:=by kernel_rfl
 c210:=by kernel_rfl
 c212:=by kernel_rfl
 c213:=by kernel_rfl
 c232:=by kernel_rfl
 c233:=by kernel_rfl
}
theorem xE:Lays.n169 Tryz.prog rn:={
 mixed:=by kernel_rfl
 f169:=Eq.trans Tryz.func128 (congrArg some (by kernel_rfl))
 t0:=Tryz.underlying0
 a0:=Tryz.isAgg0
 z0:=Tryz.sizeOf0
 v0:=Tryz.zeroValue0
 t3:=Tryz.underlying3
 a3:=Tryz.isAgg3
 z3:=Tryz.sizeOf3
 v3:=Tryz.zeroValue3
 t9:=Tryz.underlying9
 a9:=Tryz.isAgg9
 z9:=Tryz.sizeOf9
 v9:=Tryz.zeroValue9
 t37:=Tryz.underlying172
 a37:=Tryz.isAgg172
 z37:=Tryz.sizeOf172
 v37:=Tryz.zeroValue172
 t70:=Tryz.underlying171
 a70:=Tryz.isAgg171
 z70:=Tryz.sizeOf171
 v70:=Tryz.zeroValue171
 t72:=Tryz.underlying174
 a72:=Tryz.isAgg174
 z72:=Tryz.sizeOf174
 v72:=Tryz.zeroValue174
 t127:=Tryz.underlying213
 a127:=Tryz.isAgg213
 z127:=Tryz.sizeOf213
 v127:=Tryz.zeroValue213
}
theorem ar8:Lays.n160 Tryz.prog rn:={
 mixed:=by kernel_rfl
 f119:=Eq.trans Tryz.func188 (congrArg some (by kernel_rfl))
 f120:=Eq.trans Tryz.func164 (congrArg some (by kernel_rfl))
 f137:=Eq.trans Tryz.func146 (congrArg some (by kernel_rfl))
 f151:=Eq.trans Tryz.func153 (congrArg some (by kernel_rfl))
 f152:=Eq.trans Tryz.func163 (congrArg some (by kernel_rfl))
 f160:=Eq.trans Tryz.func107 (congrArg some (by kernel_rfl))
 f197:=Eq.trans Tryz.func152 (congrArg some (by kernel_rfl))
 f217:=Eq.trans Tryz.func156 (congrArg some (by kernel_rfl))
 f224:=Eq.trans Tryz.func166 (congrArg some (by kernel_rfl))
 f225:=Eq.trans Tryz.func165 (congrArg some (by kernel_rfl))
 f227:=Eq.trans Tryz.func131 (congrArg some (by kernel_rfl))
 f228:=Eq.trans Tryz.func151 (congrArg some (by kernel_rfl))
 f231:=Eq.trans Tryz.func129 (congrArg some (by kernel_rfl))
 f232:=Eq.trans Tryz.func130 (congrArg some (by kernel_rfl))
 f233:=Eq.trans Tryz.func132 (congrArg some (by kernel_rfl))
 f234:=Eq.trans Tryz.func133 (congrArg some (by kernel_rfl))
 f235:=Eq.trans Tryz.func134 (congrArg some (by kernel_rfl))
 f236:=Eq.trans Tryz.func135 (congrArg some (by kernel_rfl))
 f260:=Eq.trans Tryz.func162 (congrArg some (by kernel_rfl))
 f266:=Eq.trans Tryz.func168 (congrArg some (by kernel_rfl))
 f271:=Eq.trans Tryz.func154 (congrArg some (by kernel_rfl))
 t0:=Tryz.underlying0
 a0:=Tryz.isAgg0
 z0:=Tryz.sizeOf0
 v0:=Tryz.zeroValue0
 t3:=Tryz.underlying3
 a3:=Tryz.isAgg3
 z3:=Tryz.sizeOf3
 v3:=Tryz.zeroValue3
 t4:=Tryz.underlying4
 a4:=Tryz.isAgg4
 z4:=Tryz.sizeOf4
 v4:=Tryz.zeroValue4
 t5:=Tryz.underlying5
 a5:=Tryz.isAgg5
 z5:=Tryz.sizeOf5
 v5:=Tryz.zeroValue5
 t9:=Tryz.underlying9
 a9:=Tryz.isAgg9
 z9:=Tryz.sizeOf9
 v9:=Tryz.zeroValue9
 t21:=Tryz.underlying21
 a21:=Tryz.isAgg21
 z21:=Tryz.sizeOf21
 v21:=Tryz.zeroValue21
 t46:=Tryz.underlying90
 a46:=Tryz.isAgg90
 z46:=Tryz.sizeOf90
 v46:=Tryz.zeroValue90
 t105:=Tryz.underlying215
 a105:=Tryz.isAgg215
 z105:=Tryz.sizeOf215
 v105:=Tryz.zeroValue215
 t116:=Tryz.underlying187
 a116:=Tryz.isAgg187
 z116:=Tryz.sizeOf187
 t117:=Tryz.underlying188
 a117:=Tryz.isAgg188
 z117:=Tryz.sizeOf188
 v117:=Tryz.zeroValue188
 t119:=Tryz.underlying241
 a119:=Tryz.isAgg241
 z119:=Tryz.sizeOf241
 t124:=Tryz.underlying191
 a124:=Tryz.isAgg191
 z124:=Tryz.sizeOf191
 v124:=Tryz.zeroValue191
 t138:=Tryz.underlying243
 a138:=Tryz.isAgg243
 z138:=Tryz.sizeOf243
 v138:=Tryz.zeroValue243
 t139:=Tryz.underlying244
 a139:=Tryz.isAgg244
 z139:=Tryz.sizeOf244
 v139:=Tryz.zeroValue244
 g3:=by kernel_rfl
 g4:=by kernel_rfl
}
theorem ar9:Lays.n145 Tryz.prog rn:={
 mixed:=by kernel_rfl
 f145:=Eq.trans Tryz.func170 (congrArg some (by kernel_rfl))
 f217:=Eq.trans Tryz.func156 (congrArg some (by kernel_rfl))
 f219:=Eq.trans Tryz.func155 (congrArg some (by kernel_rfl))
 f220:=Eq.trans Tryz.func190 (congrArg some (by kernel_rfl))
 f224:=Eq.trans Tryz.func166 (congrArg some (by kernel_rfl))
 f225:=Eq.trans Tryz.func165 (congrArg some (by kernel_rfl))
 f266:=Eq.trans Tryz.func168 (congrArg some (by kernel_rfl))
 f267:=Eq.trans Tryz.func167 (congrArg some (by kernel_rfl))
 f314:=Eq.trans Tryz.func189 (congrArg some (by kernel_rfl))
 t3:=Tryz.underlying3
 a3:=Tryz.isAgg3
 z3:=Tryz.sizeOf3
 v3:=Tryz.zeroValue3
 t4:=Tryz.underlying4
 a4:=Tryz.isAgg4
 z4:=Tryz.sizeOf4
 v4:=Tryz.zeroValue4
 t5:=Tryz.underlying5
 a5:=Tryz.isAgg5
 z5:=Tryz.sizeOf5
 v5:=Tryz.zeroValue5
 t9:=Tryz.underlying9
 a9:=Tryz.isAgg9
 z9:=Tryz.sizeOf9
 v9:=Tryz.zeroValue9
 t46:=Tryz.underlying90
 a46:=Tryz.isAgg90
 z46:=Tryz.sizeOf90
 v46:=Tryz.zeroValue90
 t51:=Tryz.underlying246
 a51:=Tryz.isAgg246
 z51:=Tryz.sizeOf246
 v51:=Tryz.zeroValue246
 t59:=Tryz.underlying230
 a59:=Tryz.isAgg230
 z59:=Tryz.sizeOf230
 v59:=Tryz.zeroValue230
 t146:=Tryz.underlying247
 a146:=Tryz.isAgg247
 z146:=Tryz.sizeOf247
 v146:=Tryz.zeroValue247
 g1:=by kernel_rfl
}
theorem ar7:Lays.n138 Tryz.prog rn:={
 mixed:=by kernel_rfl
 f138:=Eq.trans Tryz.func121 (congrArg some (by kernel_rfl))
 f143:=Eq.trans Tryz.func142 (congrArg some (by kernel_rfl))
 f195:=Eq.trans Tryz.func140 (congrArg some (by kernel_rfl))
 f217:=Eq.trans Tryz.func156 (congrArg some (by kernel_rfl))
 f218:=Eq.trans Tryz.func141 (congrArg some (by kernel_rfl))
 f219:=Eq.trans Tryz.func155 (congrArg some (by kernel_rfl))
 f224:=Eq.trans Tryz.func166 (congrArg some (by kernel_rfl))
 f225:=Eq.trans Tryz.func165 (congrArg some (by kernel_rfl))
 f266:=Eq.trans Tryz.func168 (congrArg some (by kernel_rfl))
 f267:=Eq.trans Tryz.func167 (congrArg some (by kernel_rfl))
 f314:=Eq.trans Tryz.func189 (congrArg some (by kernel_rfl))
 t0:=Tryz.underlying0
 a0:=Tryz.isAgg0
 z0:=Tryz.sizeOf0
 v0:=Tryz.zeroValue0
 t3:=Tryz.underlying3
 a3:=Tryz.isAgg3
 z3:=Tryz.sizeOf3
 v3:=Tryz.zeroValue3
 t4:=Tryz.underlying4
 a4:=Tryz.isAgg4
 z4:=Tryz.sizeOf4
 v4:=Tryz.zeroValue4
 t5:=Tryz.underlying5
 a5:=Tryz.isAgg5
 z5:=Tryz.sizeOf5
 v5:=Tryz.zeroValue5
 t9:=Tryz.underlying9
 a9:=Tryz.isAgg9
 z9:=Tryz.sizeOf9
 v9:=Tryz.zeroValue9
 t46:=Tryz.underlying90
 a46:=Tryz.isAgg90
 z46:=Tryz.sizeOf90
 v46:=Tryz.zeroValue90
 t51:=Tryz.underlying246
 a51:=Tryz.isAgg246
 z51:=Tryz.sizeOf246
 v51:=Tryz.zeroValue246
 t146:=Tryz.underlying247
 a146:=Tryz.isAgg247
 z146:=Tryz.sizeOf247
 v146:=Tryz.zeroValue247
 g1:=by kernel_rfl
}
theorem ar5:Lays.n217 Tryz.prog rn:={
 mixed:=by kernel_rfl
 f217:=Eq.trans Tryz.func156 (congrArg some (by kernel_rfl))
 f266:=Eq.trans Tryz.func168 (congrArg some (by kernel_rfl))
 t3:=Tryz.underlying3
 a3:=Tryz.isAgg3
 z3:=Tryz.sizeOf3
 v3:=Tryz.zeroValue3
 t5:=Tryz.underlying5
 a5:=Tryz.isAgg5
 z5:=Tryz.sizeOf5
 v5:=Tryz.zeroValue5
 t9:=Tryz.underlying9
 a9:=Tryz.isAgg9
 z9:=Tryz.sizeOf9
 v9:=Tryz.zeroValue9
}
theorem akL:Lays.n240 Tryz.prog rn:={
 mixed:=by kernel_rfl
 f240:=Eq.trans Tryz.func150 (congrArg some (by kernel_rfl))
 f276:=Eq.trans Tryz.func161 (congrArg some (by kernel_rfl))
 t0:=Tryz.underlying0
 a0:=Tryz.isAgg0
 z0:=Tryz.sizeOf0
 v0:=Tryz.zeroValue0
 t4:=Tryz.underlying4
 a4:=Tryz.isAgg4
 z4:=Tryz.sizeOf4
 v4:=Tryz.zeroValue4
 t9:=Tryz.underlying9
 a9:=Tryz.isAgg9
 z9:=Tryz.sizeOf9
 v9:=Tryz.zeroValue9
 t20:=Tryz.underlying20
 a20:=Tryz.isAgg20
 z20:=Tryz.sizeOf20
 v20:=Tryz.zeroValue20
 t70:=Tryz.underlying171
 a70:=Tryz.isAgg171
 z70:=Tryz.sizeOf171
 v70:=Tryz.zeroValue171
 t72:=Tryz.underlying174
 a72:=Tryz.isAgg174
 z72:=Tryz.sizeOf174
 v72:=Tryz.zeroValue174
 t164:=Tryz.underlying226
 a164:=Tryz.isAgg226
 z164:=Tryz.sizeOf226
 v164:=Tryz.zeroValue226
}
theorem ame {P:Program}{w:World}{name:String}{k:IntKind}{zs:List Int}{g:Nat} (hg:P.globalNamed name=some g) (hr:jH w g zs.length)
  (hc:∀ j v,(zs.map fun z=>Value.int k z)[j]?=some v→w.cell? ⟨g,j,none⟩=some v):Lib.TabIs P w name k zs:=by
 obtain ⟨cs,T,fr,h1,h2⟩:=hr
 unfold Lib.TabIs World.var?
 simp only[hg,Option.bind_some,h1]
 congr 1
 apply Array.ext'
 apply List.ext_getElem?
 intro j
 by_cases hj:j<zs.length
 ·have h3:=hc j (.int k zs[j]) (by simp[hj])
  rw[cell_of_row w g j cs T fr h1]at h3
  simp only[Array.getElem?_toList,h3,List.toList_toArray,List.getElem?_map,List.getElem?_eq_getElem hj,Option.map_some]
 ·rw[List.getElem?_eq_none (by simp;omega),List.getElem?_eq_none (by simp;omega)]
def GH:Nat→Nat→List UInt8
 |0,_=>[]
 |f+1,u=>bif Nat.blt u 10 then [UInt8.ofNat (48+u)] else GH f (u / 10)++[UInt8.ofNat (48+u % 10)]
theorem GI:∀ (f u:Nat),u<10 ^ f→0<f→GH f u=Lib.decDigits u
 |f+1,u,h,_=>by
  rw[Lib.decDigits]
  unfold GH
  by_cases hu:u<10
  ·rw[dif_pos hu,show Nat.blt u 10=true by simpa[Nat.blt_eq] using hu];rfl
  ·rw[dif_neg hu,show Nat.blt u 10=false by
    cases hb:Nat.blt u 10 with
    |false=>rfl
    |true=>exact absurd (by simpa[Nat.blt_eq] using hb) hu]
   have hf:0<f:=by
    rcases Nat.eq_zero_or_pos f with rfl|h0
    ·simp at h;omega
    ·exact h0
   show GH f (u / 10)++_=_
   rw[GI f (u / 10) (by rw[Nat.pow_succ]at h;omega) hf]
def JX (n:Int):List UInt8:=bif decide (n<0) then 45::GH 20 n.natAbs else GH 20 n.toNat
def Yr (n:Int):Bool:=decide (-9223372036854775808≤n)&&decide (n≤9223372036854775807)
theorem aa5 {n:Int} (h:Yr n=true):JX n=Lib.itoa n:=by
 simp only[Yr,Bool.and_eq_true,decide_eq_true_eq]at h
 unfold JX Lib.itoa
 by_cases hn:n<0
 ·rw[if_pos hn,decide_eq_true hn,cond_true,GI 20 _ (by omega) (by decide)]
 ·rw[if_neg hn,decide_eq_false hn,cond_false,GI 20 _ (by omega) (by decide)]
def adL (n:Int):ByteArray:=⟨(JX n).toArray⟩
theorem Sr {B:Nat}{w:World} (hB:B≤w.heap.size) (k:Nat) (os:Array Obj):Below B w (Go.Sort.grow (w.drewN k) os) :=
 ⟨rfl,rfl,rfl,by simp[Go.Sort.grow,World.drewN],fun j hj=>by
  have h:j<w.heap.size:=Nat.lt_of_lt_of_le hj hB
  simp[Go.Sort.grow,World.drewN,Array.getElem?_append_left h]⟩
theorem IU {κ:Nat→Nat→Option Value}{γ:Nat→Nat}{sv:Nat→Value}{k:IntKind}:∀ {zs:List Int}{u:List Value},aD κ γ sv (zs.map (D.int k)) u→u=zs.map (Value.int k)
 |[],_,h=>by cases h;rfl
 |z::zs,_,h=>by
  cases h with
  |cons _ v _ vs h1 h2=>cases h1;rw[IU h2];rfl
theorem arv (n:Int) (h:Yr n=true):ep ae.toSeat 126 [.int .i64 n] (.str (adL n)):=by
 have h':=h
 simp only[Yr,Bool.and_eq_true,decide_eq_true_eq]at h
 refine ⟨ab.cons (.int _ _) ab.nil,.str _,⟨Tryz.f126,_,Tryz.func126,rfl,by kernel_rfl⟩,fun w κ args hf hg hr=>?_⟩
 cases hr with
 |cons _ v1 _ vs h1 h2 =>
 cases h1
 cases h2
 have arV:=fun aaK=>(Any.strconv_Itoa ar6 n h.1 h.2 w aaK)
 have ht:=arV (ame (g:=4) (by kernel_rfl) (hg.2 4 20 rfl) (fun j v hj=>by
  obtain ⟨_,u,e1,e2⟩:=hg.1 4 _ rfl
  have e1:aD κ gO eV (Lib.pow10Tab.map (D.int .u64)) u:=e1
  refine hf _ _ _ (e2 j v ?_)
  rw[IU e1];exact hj))
 exact ht.mono (fun e w' ⟨h1,k,os,h2⟩=>⟨_,h1,by show aW _ _ _ (.str ⟨(JX n).toArray⟩) _;rw[aa5 h'];exact .str _,h2 ▸ Sr (Nat.le_refl _) k os⟩)
def Bi (s:ByteArray):Int×Bool:=match Lib.atoiAll s.data.toList with|.ok v=>(v,true)|.range=>(Lib.atoiSat s.data.toList,false)|_=>(0,false)
def okA (s:ByteArray):Bool:=decide (s.size≤281474976710656)
theorem Qk {g:Nat}{κ:Nat→Nat→Option Value}{w:World} (hf:Fits κ w) (hg:iA ae.toSeat κ w) (h:ae.toSeat.nU g=some [.lk .nn]):∃ t p,w.cell? ⟨g,0,none⟩=some (.iface t p):=by
 obtain ⟨_,u,e1,e2⟩:=hg.1 g _ h
 cases e1 with
 |cons _ v _ vs r1 r2 =>
  cases r1 with
  |lk _ _ e =>
   obtain ⟨t,p,rfl⟩:=e
   exact⟨t,p,hf _ _ _ (e2 0 _ rfl)⟩
theorem arz (s:ByteArray) (h:okA s=true):ep ae.toSeat 219 [.str s] (.bn [.int .i64 (Bi s).1,.lk (Nv (Bi s).2)]):=by
 have h:=of_decide_eq_true h
 refine ⟨ab.cons (.str _) ab.nil,.bn _ (ab.cons (.int _ _) (ab.cons (.lk _) ab.nil)),⟨Tryz.f219,_,Tryz.func219,rfl,by kernel_rfl⟩,fun w κ args hf hg hr=>?_⟩
 cases hr with
 |cons _ v1 _ vs h1 h2 =>
 cases h1
 cases h2
 obtain ⟨t1,p1,g1⟩:=Qk hf hg (g:=9) rfl
 obtain ⟨t2,p2,g2⟩:=Qk hf hg (g:=10) rfl
 cases ha:Lib.atoiAll s.data.toList
 case ok v =>
  refine (Any.strconv_Atoi_ok aa8 s (by omega) v ha w).mono (fun e w' ⟨h1,h2⟩=>⟨_,h1,?_,?_⟩)
  ·simp only[Bi,ha];exact .bn _ [_,_] (.cons _ _ _ _ (.int _ _) (.cons _ _ _ _ (.lk _ _ rfl) .nil))
  ·rcases h2 with rfl|⟨t,rfl⟩
   ·exact Below.refl _ _
   ·exact Lib.bytesWorld_below _ _ _
 case range =>
  refine (Any.strconv_Atoi_range aa8 s h ha _ w g2 (.inr ⟨_,_,rfl⟩)).mono (fun e w' ⟨N,h1,_,_,h2⟩=>⟨_,h1,?_,h2⟩)
  simp only[Bi,ha];exact .bn _ [_,_] (.cons _ _ _ _ (.int _ _) (.cons _ _ _ _ (.lk _ _ ⟨_,_,rfl⟩) .nil))
 ·refine (Any.strconv_Atoi_syntax aa8 s h ha _ w g1 (.inr ⟨_,_,rfl⟩)).mono (fun e w' ⟨N,h1,_,_,h2⟩=>⟨_,h1,?_,h2⟩)
  simp only[Bi,ha];exact .bn _ [_,_] (.cons _ _ _ _ (.int _ _) (.cons _ _ _ _ (.lk _ _ ⟨_,_,rfl⟩) .nil))
def dw:List BK:=[.z 174 0 1,.a 5 (.int .u8)]
theorem x72:Builder.X72 Tryz.prog rn:={ sizeBuilder:=by kernel_rfl,liesBuilder:=by kernel_rfl }
theorem bx2 {P:Nat→Prop} (h0:P 0) (h1:P 1):∀ i,i<2→P i:=fun i hi=>by
 rcases i with _|_|i
 ·exact h0
 ·exact h1
 ·omega
theorem Wg {κ:Nat→Nat→Option Value}{sv:Nat→Value}{w:World}{l:List Int}
  (aP:∀ i,i<2→fB 0 κ (gM (cw (bB dw (l,()))) 2) sv w (cw (bB dw (l,())) i) (eL (bB dw (l,())) i)) :
  ∃ b v0,sv 0=.pointer (some ⟨b,0,none⟩)∧w.heap[b]?=some (.cells #[v0,sv (XB+1)] 174 (0,0))∧(v0=.pointer none∨v0=.pointer (some ⟨b,0,none⟩)) ∧
   eo w 0 5 1 (sv (XB+1)) l.length (l.map (Value.int .u8)):=by
 obtain ⟨b,T,cs,e1,e2,e3,e4⟩:=aP 0 (by omega)
 obtain ⟨xs,o1,o2,o3,o4⟩:=aP 1 (by omega)
 have fx:gM (cw (bB dw (l,()))) 2 0=1:=k9 (q:=cw (bB dw (l,()))) (n:=2) (i:=0) (by omega)
 have hg1:gM (cw (bB dw (l,()))) 2 (XB+1)=1:=k9 (q:=cw (bB dw (l,()))) (n:=2) (i:=1) (by omega)
 have e3:aD κ (gM (cw (bB dw (l,()))) 2) sv [.mb 0 1 174,.os (XB+1) 1] cs:=e3
 have e1:sv 0=.pointer (some ⟨b,0,none⟩):=e1
 have hT:T=174:=e4.2 174 rfl
 subst hT
 cases e3 with
 |cons _ v0 _ vs r1 r2 =>
 cases r2 with
 |cons _ v1 _ vs r2 r3 =>
 cases r3
 have XY:v1=sv (XB+1):=by
  cases r2 with
  |os _ _ _ _ hh _=>exact hh hg1.symm
 subst XY
 refine ⟨b,v0,e1,e2,?_,?_⟩
 ·cases r1 with
  |Np=>exact .inl rfl
  |mb _ _ _ _ _ hh _=>exact .inr ((hh fx.symm).trans e1)
 ·have hx:xs=l.map (Value.int .u8):=by
   have hl:xs.length=l.length:=by
    have h:=o1.1
    have h:xs.length=l.length * 1:=h
    omega
   apply List.ext_getElem?
   intro i
   by_cases hi:i<l.length
   ·have h4:aD κ (gM (cw (bB dw (l,()))) 2) sv [.int .u8 (l.getD i 0)] ((xs.drop (i * 1)).take 1):=o4 i hi
    have h5:(xs.drop (i * 1)).take 1=[xs[i]'(by omega)]:=by
     rw[Nat.mul_one,List.drop_eq_getElem_cons (by omega)];rfl
    rw[h5]at h4
    cases h4 with
    |cons _ _ _ _ r _ =>
     generalize hq:xs[i]'(by omega)=q at r
     cases r
     rw[List.getElem?_eq_getElem (by omega),hq]
     simp[List.getD,hi]
   ·rw[List.getElem?_eq_none (by omega),List.getElem?_eq_none (by simp;omega)]
  subst hx
  exact o1
theorem arx (l:List Int):jh ae.toSeat 150 2 (cw (bB dw (l,()))) (eL (bB dw (l,()))) (eL (bB dw (l,()))) [.bx 0 1 0] (.bn []):=by
 refine ⟨.pure _ (.bn _ ab.nil),bx2 (.box _ _) (.arr _ _ _ _ _ _ _ _),⟨Tryz.f150,_,Tryz.func150,rfl,by kernel_rfl⟩,fun w κ sv args gx hf hkb hg aP hr=>?_⟩
 obtain ⟨b,v0,e1,e2,e3,e4⟩:=Wg aP
 have fx:gM (cw (bB dw (l,()))) 2 0=1:=k9 (q:=cw (bB dw (l,()))) (n:=2) (i:=0) (by omega)
 have hb:b<w.heap.size:=(Array.getElem?_eq_some_iff.1 e2).1
 cases hr with
 |cons _ v1 _ vs h1 h2 =>
 cases h2
 have XY:v1=.pointer (some ⟨b,0,none⟩):=by
  cases h1 with
  |bx _ _ _ _ _ hh _ =>
   obtain ⟨b',h3,h4⟩:=hh fx.symm
   rw[e1]at h3;cases h3;exact h4
 subst XY
 have ed:aL (eL (bB dw (l,())) 0) (sv (cw (bB dw (l,())) 0))=some b:=by
  show aL (.box _) (sv 0)=_
  rw[e1];rfl
 rcases e3 with rfl|rfl
 ·refine (Any.Builder_copyCheck_fresh akL x72 b w (by simp[World.cell?,e2]) (by simp[World.shape?,e2];rfl) (by simp[World.frozen?,e2])).mono ?_
  rintro e w' ⟨rfl,rfl⟩
  have ki:(w.setCell ⟨b,0,none⟩ (.pointer (some ⟨b,0,none⟩))).heap[b]?=some (.cells #[.pointer (some ⟨b,0,none⟩),sv (XB+1)] 174 (0,0)):=by
   simp[World.setCell,Array.getElem?_modify,e2]
  have XT:∀ k,k≠b→(w.setCell ⟨b,0,none⟩ (.pointer (some ⟨b,0,none⟩))).heap[k]?=w.heap[k]?:=fun k hk=>Below.heap_setCell _ _ _ _ hk
  have bQ:Le κ (fp κ w (w.setCell ⟨b,0,none⟩ (.pointer (some ⟨b,0,none⟩)))) (gM (cw (bB dw (l,()))) 2) (gM (cw (bB dw (l,()))) 2) sv sv:=oK hf _
  refine ⟨_,rfl,.bn [] [] .nil,bx2 ?_ ?_,⟨rfl,rfl,rfl,by simp[World.setCell],fun k hk cx=>XT k (fun e=>cx 0 (by omega) (e ▸ ed))⟩⟩
  ·refine ⟨b,174,[.pointer (some ⟨b,0,none⟩),sv (XB+1)],e1,ki,.cons _ _ _ _ (.mb 0 1 174 _ (Nat.le_of_eq fx.symm) (fun _=>e1.symm) rfl) (.cons _ _ _ _ ?_ .nil),rfl,fun T0 e=>by cases e;rfl⟩
   obtain ⟨b3,T3,cs3,q1,q2,q3,q4⟩:=aP 0 (by omega)
   have q1:sv 0=.pointer (some ⟨b3,0,none⟩):=q1
   rw[e1]at q1;cases q1
   rw[e2]at q2
   simp only[Option.some.injEq,Obj.cells.injEq]at q2
   have q5:cs3=[.pointer none,sv (XB+1)]:=by
    have:=congrArg Array.toList q2.1
    simpa using this.symm
   subst q5
   cases q3 with
   |cons _ _ _ _ r1 r2=>cases r2 with|cons _ _ _ _ r2 r3=>exact r2.mono bQ
  ·refine dZ bQ rfl (fun g XO=>XT g (fun e=>?_)) (aP 1 (by omega))
   have:=gx 0 1 b (by omega) (by omega) ed (e ▸ XO)
   cases this
 ·refine (Any.Builder_copyCheck_used akL x72 b w (by simp[World.cell?,e2])).mono ?_
  rintro e w' ⟨rfl,rfl⟩
  exact⟨_,rfl,.bn [] [] .nil,fun i hi=>dZ (oK hf w') rfl (fun _ _=>rfl) (aP i hi),rG.refl _ _ _⟩
section
variable {P:Program}{ρ:Ren}
theorem xX (w:World) (pt it ty e:TypeId) (hp:P.underlying pt=some (.pointer e)) (hc:P.cellsOf e=1) (g off cells:Nat) (zW:w.shape? g=some (e,cells)) (l:List UInt8) (h0:l≠[]) (hn:off+l.length≤cells) (QH:l.length≤9223372036854775807)
  (ou:∀ j x,l[j]?=some x→w.cell? ((⟨g,off,none⟩:Addr).add j)=some (.int .u8 x.toNat)) :
  (Builtin.unsafeString_ #[pt,it] ty #[.pointer (some ⟨g,off,none⟩),.int .i64 l.length]).run P w=.ok (.string ⟨l.toArray⟩) (w.freeze ⟨g,off,none⟩ l.length):=by
 have hl:l.length≠0:=by simpa using h0
 have hlb:=Lib.run_loadBytes (P:=P) w l ⟨g,off,none⟩ .empty ou
 have anl:liesAt P P.depth e (cells / P.cellsOf e) off e l.length=true:=by
  have hd:P.depth=(2 * (P.types.size+Made.depth)+1)+1:=rfl
  rw[hd]
  simp only[liesAt,Bool.or_eq_true]
  left
  rw[hd]
  simp[rowAt,hc,hn,sameLayout]
  try omega
 have arG:¬ (9223372036854775807:Int)<(l.length:Int):=by omega
 have arN:Builtin.unsafeString_ #[pt,it] ty #[.pointer (some ⟨g,off,none⟩),.int .i64 l.length] =
   (do
    let n ← asInt (.int .i64 l.length)
    if n < 0 then runtimePanic (.error "unsafe.String: len out of range")
    if n > IntKind.i64.max then unsupported (.unsafePointer "String: a length above the largest int")
    if n=0 then pure (.string .empty)
    else if ← variablesAt ⟨g,off,none⟩ (← elemOf pt) n.toNat then do
     let s ← loadBytes ⟨g,off,none⟩ .empty n.toNat
     freeze ⟨g,off,none⟩ n.toNat
     pure (.string s)
    else unsupported (.unsafePointer "String: not so many bytes at ptr")) := rfl
 rw[arN]
 have arR:IntKind.i64.max=9223372036854775807:=rfl
 have arS:¬ (l.length:Int)<0:=by omega
 simp[asInt,asIntOf,arR,arG,arS,hl,variablesAt,zW,elemOf,run_underlying hp,anl,hlb]
set_option maxHeartbeats 2000000 in
theorem BO (L:Lays.n169 P ρ) (X:Builder.Extra P ρ) (b:Nat) (a:Option Addr) (n cap:Nat) (q:Value) (w w1 w2:World) (s:ByteArray) (c1:w.drew.cell? ⟨b,1,none⟩=some (.slice a n cap)) (c2:w1.cell? ⟨b,1,none⟩=some (.slice a n cap))
  (hSD:(Builtin.unsafeSliceData_ #[(ρ.t 37)] (ρ.t 127) #[.slice a n cap]).run P w.drew=.ok q w1) (hUS:(Builtin.unsafeString_ #[(ρ.t 127),(ρ.t 3)] (ρ.t 9) #[q,.int .i64 n]).run P w1=.ok (.string s) w2) :
  Calls P (ρ.f 169) #[.pointer (some ⟨b,0,none⟩)] w fun e w'=>e=.returned (.string s)∧w'=w2:=by
 have mixed:=L.mixed
 have t72:=L.t72;have a72:=L.a72;have z72:=L.z72;have v72:=L.v72;have u72:=run_underlying L.t72
 have t70:=L.t70;have a70:=L.a70;have z70:=L.z70;have v70:=L.v70;have u70:=run_underlying L.t70
 have t37:=L.t37;have a37:=L.a37;have z37:=L.z37;have v37:=L.v37;have u37:=run_underlying L.t37
 have t127:=L.t127;have a127:=L.a127;have z127:=L.z127;have v127:=L.v127;have av5:=run_underlying L.t127
 have t3:=L.t3;have a3:=L.a3;have z3:=L.z3;have v3:=L.v3;have u3:=run_underlying L.t3
 have t9:=L.t9;have a9:=L.a9;have z9:=L.z9;have v9:=L.v9;have u9:=run_underlying L.t9
 have t5:=X.t5;have a5:=X.a5;have z5:=X.z5;have v5:=X.v5;have u5:=run_underlying X.t5
 go_enter L.f169,Body.n169_ntmps ρ
 go_wp2
 go_region_o
 all_goals (go_wp2;go_ret;exact⟨rfl,rfl⟩)
theorem al1 (L:Lays.n169 P ρ) (X:Builder.Extra P ρ) (w:World) (g off cap n:Nat) (cur:Array Value) (l:List UInt8) (hl:l.length=n) (p3:w.heap[g]?=some (.cells cur (ρ.t 5) (0,0))) (p4:n≤cap) (p5:cap≤maxLen) (p6:off+cap≤cur.size) (hn:n≠0)
  (hc:∀ j x,l[j]?=some x→w.cell? ((⟨g,off,none⟩:Addr).add j)=some (.int .u8 x.toNat)) :
  (Builtin.unsafeString_ #[(ρ.t 127),(ρ.t 3)] (ρ.t 9) #[.pointer (some ⟨g,off,none⟩),.int .i64 n]).run P w.drew=.ok (.string ⟨l.toArray⟩) (w.drew.freeze ⟨g,off,none⟩ n):=by
 subst hl
 have zW:w.drew.shape? g=some (ρ.t 5,cur.size):=by
  have p3':w.drew.heap[g]?=some (.cells cur (ρ.t 5) (0,0)):=p3
  simp[World.shape?,p3']
 refine xX w.drew _ _ _ (ρ.t 5) L.t127 X.cellsByte g off cur.size zW l (fun e=>hn (by rw[e];rfl)) (Nat.le_trans (Nat.add_le_add_left p4 _) p6) ?_ hc
 have:(maxLen:Nat)≤9223372036854775807:=by decide
 exact Nat.le_trans p4 (Nat.le_trans p5 this)
end
theorem A3:Builder.Extra Tryz.prog rn:={ x72 with t5:=Tryz.underlying5,a5:=Tryz.isAgg5,z5:=Tryz.sizeOf5,v5:=Tryz.zeroValue5,infoByte:=by kernel_rfl,cellsByte:=by kernel_rfl,sizeByte:=by kernel_rfl,neB5:=by decide }
def abu (l:List Int):Bool:=l.all fun n=>decide (0≤n)&&decide (n<256)
def KX (l:List Int):List UInt8:=l.map fun n=>UInt8.ofNat n.toNat
def Wp (l:List Int):ByteArray:=⟨(KX l).toArray⟩
theorem ahM {l:List Int} (h:abu l=true):l.map (Value.int .u8)=(KX l).map fun x=>Value.int .u8 (x.toNat:Int):=by
 unfold KX
 rw[List.map_map]
 refine List.map_congr_left fun n hn=>?_
 have h1:=List.all_eq_true.1 h n hn
 simp only[Bool.and_eq_true,decide_eq_true_eq]at h1
 show Value.int .u8 n=Value.int .u8 (((UInt8.ofNat n.toNat).toNat:Nat):Int)
 congr 1
 rw[UInt8.toNat_ofNat',Nat.mod_eq_of_lt (by omega)]
 omega
def adi (F:Nat→Ab.Own):Nat→Ab.Own:=me [1] [.none] F
theorem BN {w w':World}{κ:Nat→Nat→Option Value}{sv:Nat→Value}{l:List Int}{b:Nat} (hf:Fits κ w)
  (aP:∀ i,i<2→fB 0 κ (gM (cw (bB dw (l,()))) 2) sv w (cw (bB dw (l,())) i) (eL (bB dw (l,())) i))
  (ed:aL (eL (bB dw (l,())) 0) (sv (cw (bB dw (l,())) 0))=some b) (cx:aL (eL (bB dw (l,())) 1) (sv (XB+1))≠some b)
  (h1:w'.os=w.os) (h2:w'.tape=w.tape) (h3:w'.output=w.output) (h4:w.heap.size≤w'.heap.size) (h5:∀ k,k<w.heap.size→aL (eL (bB dw (l,())) 1) (sv (XB+1))≠some k→w'.heap[k]?=w.heap[k]?) :
  (∀ i,i<2→fB 0 (fp κ w w') (gM (cw (bB dw (l,()))) 2) sv w' (cw (bB dw (l,())) i) (adi (eL (bB dw (l,()))) i)) ∧
   rG 2 (fun i=>aL (eL (bB dw (l,())) i) (sv (cw (bB dw (l,())) i))) w w':=by
 refine ⟨bx2 ?_ trivial,⟨h1,h2,h3,h4,fun k hk hn=>h5 k hk (hn 1 (by omega))⟩⟩
 refine dZ (oK hf w') rfl (fun g hg=>?_) (aP 0 (by omega))
 have hg:aL (eL (bB dw (l,())) 0) (sv (cw (bB dw (l,())) 0))=some g:=hg
 rw[ed]at hg
 cases hg
 exact h5 b (cP (aP 0 (by omega)) ed) cx
theorem SN (w:World) (o:Obj):w.heap.size≤(w.drew.alloc o).heap.size∧(w.drew.alloc o).os=w.os∧(w.drew.alloc o).tape=w.tape∧(w.drew.alloc o).output=w.output∧∀ k,k<w.heap.size→(w.drew.alloc o).heap[k]?=w.heap[k]? :=
 ⟨by show w.drew.heap.size≤_;simp,rfl,rfl,rfl,fun k hk=>Lib.alloc_old w.drew _ k hk⟩
theorem Mu (w:World) (p:Addr) (n k:Nat) (hk:k≠p.block):(w.freeze p n).heap[k]?=w.heap[k]?:=by
 unfold World.freeze
 split
 ·rfl
 ·simp only[Array.getElem?_modify];rw[if_neg (by omega)]
theorem Pf (w:World) (p:Addr) (n:Nat):(w.freeze p n).heap.size=w.heap.size∧(w.freeze p n).os=w.os∧(w.freeze p n).tape=w.tape∧(w.freeze p n).output=w.output:=by
 unfold World.freeze
 split
 ·exact⟨rfl,rfl,rfl,rfl⟩
 ·exact⟨by simp,rfl,rfl,rfl⟩
theorem arw (l:List Int) (h:abu l=true):jh ae.toSeat 128 2 (cw (bB dw (l,()))) (eL (bB dw (l,()))) (adi (eL (bB dw (l,())))) [.bx 0 1 0] (.str (Wp l)):=by
 refine ⟨.pure _ (.str _),bx2 (.box _ _) (.gone _),⟨Tryz.f128,_,Tryz.func128,rfl,by kernel_rfl⟩,fun w κ sv args gx hf hkb hg aP hr=>?_⟩
 obtain ⟨b,v0,e1,e2,e3,e4⟩:=Wg aP
 have fx:gM (cw (bB dw (l,()))) 2 0=1:=k9 (q:=cw (bB dw (l,()))) (n:=2) (i:=0) (by omega)
 have hb:b<w.heap.size:=(Array.getElem?_eq_some_iff.1 e2).1
 cases hr with
 |cons _ v1 _ vs q1 q2 =>
 cases q2
 have XY:v1=.pointer (some ⟨b,0,none⟩):=by
  cases q1 with
  |bx _ _ _ _ _ hh _ =>
   obtain ⟨b',h3,h4⟩:=hh fx.symm
   rw[e1]at h3;cases h3;exact h4
 subst XY
 have ed:aL (eL (bB dw (l,())) 0) (sv (cw (bB dw (l,())) 0))=some b:=by
  show aL (.box _) (sv 0)=_
  rw[e1];rfl
 have cx:aL (eL (bB dw (l,())) 1) (sv (XB+1))≠some b:=fun e=>by
  have:=gx 0 1 b (by omega) (by omega) ed e
  cases this
 generalize hv:sv (XB+1)=v at e2 e4 cx
 rw[← hv]at cx
 have c1:∀ W:World,W.heap[b]?=w.heap[b]?→W.cell? ⟨b,1,none⟩=some v:=fun W hW=>by simp[World.cell?,hW,e2]
 rcases e4.2 with ⟨rfl,h0⟩|⟨g,off,cap,cur,rfl,_,p3,p4,p5,p6,p7⟩
 ·have hl:l=[]:=List.eq_nil_of_length_eq_zero h0
  subst hl
  refine (BO xE A3 b none 0 0 (.pointer none) w w.drew w.drew ⟨#[]⟩ (c1 _ rfl) (c1 _ rfl) rfl (Any.unsafeString_none xE A3 _ _)).mono ?_
  rintro e w' ⟨rfl,rfl⟩
  obtain ⟨r1,r2⟩:=BN (w:=w) (w':=w.drew) hf aP ed cx rfl rfl rfl (Nat.le_refl _) (fun _ _ _=>rfl)
  exact⟨_,rfl,.str _,r1,r2⟩
 ·have QL:aL (eL (bB dw (l,())) 1) (sv (XB+1))=some g:=by rw[hv];rfl
  have avZ:b≠g:=fun e=>cx (e ▸ QL)
  have uI:g<w.heap.size:=(Array.getElem?_eq_some_iff.1 p3).1
  by_cases hn:l.length=0
  ·have hl:l=[]:=List.eq_nil_of_length_eq_zero hn
   subst hl
   by_cases hc:cap=0
   ·subst hc
    have zW:w.drew.shape? g=some (5,cur.size):=by
     have p3':w.drew.heap[g]?=some (.cells cur 5 (0,0)):=p3
     simp[World.shape?,p3']
    refine (BO xE A3 b (some ⟨g,off,none⟩) 0 0 (.pointer (some ⟨w.drew.heap.size,0,none⟩)) w (w.drew.alloc (.view ⟨g,off,none⟩ 5)) _ ⟨#[]⟩ (c1 _ rfl) (c1 _ (Lib.alloc_old w.drew _ b hb)) (Lib.run_unsafeSliceData_zero w.drew _ _ 5 xE.t127 ⟨g,off,none⟩ 0 (5,cur.size) zW) (Any.unsafeString_none xE A3 _ _)).mono ?_
    rintro e w' ⟨rfl,rfl⟩
    obtain ⟨f1,f2,f3,f4,f5⟩:=SN w (.view ⟨g,off,none⟩ 5)
    obtain ⟨r1,r2⟩:=BN (w:=w) (w':=w.drew.alloc (.view ⟨g,off,none⟩ 5)) hf aP ed cx f2 f3 f4 f1 (fun k hk _=>f5 k hk)
    exact⟨_,rfl,.str _,r1,r2⟩
   ·refine (BO xE A3 b (some ⟨g,off,none⟩) 0 cap (.pointer (some ⟨g,off,none⟩)) w w.drew w.drew ⟨#[]⟩ (c1 _ rfl) (c1 _ rfl) (Lib.run_unsafeSliceData_row _ _ _ _ _ _ hc) (Any.unsafeString_none xE A3 _ _)).mono ?_
    rintro e w' ⟨rfl,rfl⟩
    obtain ⟨r1,r2⟩:=BN (w:=w) (w':=w.drew) hf aP ed cx rfl rfl rfl (Nat.le_refl _) (fun _ _ _=>rfl)
    exact⟨_,rfl,.str _,r1,r2⟩
  ·have Cm:(KX l).length=l.length:=by simp[KX]
   have hUS:=al1 xE A3 w g off cap l.length cur (KX l) Cm p3 p4 p5 (by rw[Nat.mul_one]at p6;exact p6) hn (fun j x hx=>by
    have anm:eo w 0 5 1 (.slice (some ⟨g,off,none⟩) l.length cap) l.length (l.map (Value.int .u8)):=e4
    have:=anm.cells j (.int .u8 x.toNat) (by rw[ahM h];simp[hx])
    exact this)
   refine (BO xE A3 b (some ⟨g,off,none⟩) l.length cap (.pointer (some ⟨g,off,none⟩)) w w.drew _ ⟨(KX l).toArray⟩ (c1 _ rfl) (c1 _ rfl) (Lib.run_unsafeSliceData_row _ _ _ _ _ _ (by omega)) hUS).mono ?_
   rintro e w' ⟨rfl,rfl⟩
   obtain ⟨f1,f2,f3,f4⟩:=Pf w.drew ⟨g,off,none⟩ l.length
   obtain ⟨r1,r2⟩:=BN (w:=w) (w':=w.drew.freeze ⟨g,off,none⟩ l.length) hf aP ed cx f2 f3 f4 (by rw[f1];exact Nat.le_refl _) (fun k hk Cl=>Mu w.drew _ _ k (fun e=>Cl (by rw[QL];exact congrArg some e.symm)))
   exact⟨_,rfl,.str _,r1,r2⟩
theorem La {Z:Seat}{f:FuncId}{n:Nat}{q:Nat→Nat}{os os1 os2:Nat→Ab.Own}{A:List D}{R:D} (hc:jh Z f n q os os1 A R) (h:∀ i,i<n→os2 i=os1 i):jh Z f n q os os2 A R :=
 ⟨hc.Ob,fun i hi=>by rw[h i hi];exact hc.kind i hi,hc.body,fun w κ sv args h1 h2 h3 h4 h5 h6=>(hc.calls w κ sv args h1 h2 h3 h4 h5 h6).mono (by
  rintro e w' ⟨v,q1,q2,q3,q4⟩
  exact⟨v,q1,q2,fun i hi=>by rw[h i hi];exact q3 i hi,q4⟩)⟩
def anu (n:Int):Option ByteArray:=ao (Yr n) (some (adL n))
noncomputable def Km:ak ae.toSeat:=lF ae.toSeat 126 [.int .i64] [.str] true (fun a=>anu a.1) (fun a x hx h h'=>by
 obtain ⟨n,u⟩:=a
 obtain ⟨hk,hx⟩:=aq hx
 cases hx
 exact arv n hk) (fun _ x=>rfl)
def am1 (s:ByteArray):Option (Int×Bool):=ao (okA s) (some (Bi s))
noncomputable def ao6:ak ae.toSeat:=lF ae.toSeat 219 [.str] [.int .i64,.err] false (fun a=>am1 a.1) (fun a x hx h h'=>by
 obtain ⟨s,u⟩:=a
 obtain ⟨hk,hx⟩:=aq hx
 cases hx
 exact arz s hk) (fun h=>nomatch h)
noncomputable def aoL:dz ae.toSeat:=af5 ae.toSeat 150 dw [.p 0] [] [] [0] (fun x _=>some (x,())) (fun x a y z hx=>by
 obtain ⟨l,u⟩:=x
 cases u
 cases hx
 exact La (arx l) (fun i hi=>match i,hi with|0,_=>rfl|1,_=>rfl))
def Lk:List aK→Option (List Int)
 |[.box [c,.os s g],.arr E t m]=>bif RW 174 0 c&&Nat.beq s (XB+1)&&Nat.beq g 1&&Nat.beq E 5 then kg (.int .u8) t m else none
 |_=>none
theorem afk {ls:List aK}{l:List Int} (h:Lk ls=some l):ls=bB dw (l,()):=by
 unfold Lk at h
 split at h
 ·rename_i c s g E t m
  cases hc:RW 174 0 c&&Nat.beq s (XB+1)&&Nat.beq g 1&&Nat.beq E 5 with
  |false=>rw[hc]at h;cases h
  |true =>
   rw[hc]at h
   simp only[Bool.and_eq_true]at hc
   have e2:=Nat.eq_of_beq_eq_true hc.1.1.2
   have e3:=Nat.eq_of_beq_eq_true hc.1.2
   have e4:=Nat.eq_of_beq_eq_true hc.2
   subst e2 e3 e4
   have e5:=ZR (j:=1) hc.1.1.1
   have h:kg (.int .u8) t m=some l:=h
   unfold kg at h
   split at h
   ·rename_i e
    subst e
    simp only[Option.some.injEq]at h
    subst h
    rw[e5]
    rfl
   ·cases h
 ·cases h
noncomputable def aoE:dz ae.toSeat where
 f:=128
 ka:=[]
 kb:=[0]
 wr:=[1]
 mv:=[]
 app:=fun ls A k=>match Lk ls,lV [.p 0] A with
  |some l,some _=>(ao (abu l) (some ((),Wp l))).bind (fun r=>k [.none] (.str r.2))
  |_,_=>none
 ok:=fun ls A k r h=>by
  split at h
  ·rename_i l a hl ha
   obtain ⟨_,h1,h⟩:=Option.bind_eq_some_iff.1 h
   obtain ⟨h0,h1⟩:=aq h1
   cases h1
   rw[afk hl]
   refine ⟨_,_,h,?_⟩
   have hc:=arw l h0
   exact jh.toN ⟨hc.Ob,hc.kind,hc.body,fun w κ sv args h1 h2 h3 h4 h5 h6=>hc.calls w κ sv args h1 h2 h3 h4 h5 (HS ha h6)⟩
  ·cases h
def wu (s cs:ByteArray):Bool:=decide (s.size≤9223372036854775807)&&decide (cs.size<4294967281)&&cs.data.toList.all (fun b=>decide (b.toNat<128))
def x7 (s cs:ByteArray):ByteArray:=⟨(Lib.trimS s.data.toList cs.data.toList).toArray⟩
def trim:ByteArray→ByteArray→Option ByteArray:=fun s cs=>ao (wu s cs) (some (x7 s cs))
theorem RP (s cs:ByteArray):trim s cs=ao (wu s cs) (some (x7 s cs)):=rfl
theorem c107 (s cs:ByteArray) (h:wu s cs=true):ep ae.toSeat 107 [.str s,.str cs] (.str (x7 s cs)):=by
 simp only[wu,Bool.and_eq_true,decide_eq_true_eq]at h
 refine ⟨ab.cons (.str _) (ab.cons (.str _) ab.nil),.str _,⟨Tryz.f107,_,Tryz.func107,rfl,by kernel_rfl⟩,fun w κ args _ _ hr=>?_⟩
 cases hr with
 |cons _ v1 _ vs h1 h2 =>
 cases h1
 cases h2 with
 |cons _ v2 _ vs h3 h4 =>
 cases h3
 cases h4
 have aaK:=Any.strings_Trim_laid ar8 (by kernel_rfl) s cs w h.1.1 h.1.2 (ascii_of_all h.2)
 exact aaK.mono (fun e w' ⟨h1,h2⟩=>⟨_,h1,.str _,h2⟩)
noncomputable def ad7:ak ae.toSeat:=lF ae.toSeat 107 [.str,.str] [.str] true (fun a=>trim a.1 a.2.1) (fun a x hx h h'=>by
 obtain ⟨s,cs,u⟩:=a
 simp only[RP]at hx
 obtain ⟨hk,hx⟩:=aq hx
 simp only[Option.some.injEq]at hx
 subst hx
 exact c107 s cs hk) (fun _ x=>rfl)
def adS (s:ByteArray):Bool:=decide (s.size<4294967281)
def ahW (s p:ByteArray):ByteArray:=⟨(Lib.cut s.data.toList p.data.toList).1.toArray⟩
def ahX (s p:ByteArray):ByteArray:=⟨(Lib.cut s.data.toList p.data.toList).2.1.toArray⟩
def ahY (s p:ByteArray):Bool:=(Lib.cut s.data.toList p.data.toList).2.2
theorem ary (s sep:ByteArray) (h:adS s=true):ep ae.toSeat 170 [.str s,.str sep] (.bn [.str (ahW s sep),.str (ahX s sep),.bool (ahY s sep)]):=by
 have h:=of_decide_eq_true h
 refine ⟨ab.cons (.str _) (ab.cons (.str _) ab.nil),.bn _ (ab.cons (.str _) (ab.cons (.str _) (ab.cons (.bool _) ab.nil))),⟨Tryz.f170,_,Tryz.func170,rfl,by kernel_rfl⟩,fun w κ args hf hg hr=>?_⟩
 cases hr with
 |cons _ v1 _ vs h1 h2 =>
 cases h1
 cases h2 with
 |cons _ v2 _ vs h3 h4 =>
 cases h3
 cases h4
 obtain ⟨_,u,e1,e2⟩:=hg.1 0 _ rfl
 have hm:∃ m,w.cell? ⟨0,0,none⟩=some (.int .i64 m):=by
  cases e1 with
  |cons _ v _ vs r1 r2 =>
   cases r1 with
   |lk _ _ e=>obtain ⟨m,rfl⟩:=e;exact⟨m,hf _ _ _ (e2 0 _ rfl)⟩
 obtain ⟨m,hm⟩:=hm
 exact(Any.strings_Cut ar9 s sep m w h hm).mono (fun e w' ⟨h1,n,h2⟩=>⟨_,h1,.bn _ [_,_,_] (.cons _ _ _ _ (.str _) (.cons _ _ _ _ (.str _) (.cons _ _ _ _ (.bool _) .nil))),h2 ▸ below_drewN (Below.refl _ _) n⟩)
def arC (s p:ByteArray):Option (ByteArray×ByteArray×Bool):=ao (adS s) (some (ahW s p,ahX s p,ahY s p))
noncomputable def aoQ:ak ae.toSeat:=lF ae.toSeat 170 [.str,.str] [.str,.str,.bool] false (fun a=>arC a.1 a.2.1) (fun a x hx h h'=>by
 obtain ⟨s,p,u⟩:=a
 obtain ⟨hk,hx⟩:=aq hx
 cases hx
 exact ary s p hk) (fun h=>nomatch h)
def aak (s p:ByteArray):Option Int:=match p with|⟨⟨[c]⟩⟩=>some (Lib.countByte s.data.toList c)|_=>none
theorem aru (s:ByteArray) (c:UInt8):ep ae.toSeat 121 [.str s,.str ⟨#[c]⟩] (.int .i64 (Lib.countByte s.data.toList c)):=by
 refine ⟨ab.cons (.str _) (ab.cons (.str _) ab.nil),.int _ _,⟨Tryz.f121,_,Tryz.func121,rfl,by kernel_rfl⟩,fun w κ args hf hg hr=>?_⟩
 cases hr with
 |cons _ v1 _ vs h1 h2 =>
 cases h1
 cases h2 with
 |cons _ v2 _ vs h3 h4 =>
 cases h3
 cases h4
 exact(Any.strings_Count_one ar7 s c w).mono (fun e w' ⟨h1,h2⟩=>⟨_,h1,.int _ _,h2 ▸ Below.refl _ _⟩)
noncomputable def aoA:ak ae.toSeat:=lF ae.toSeat 121 [.str,.str] [.int .i64] true (fun a=>aak a.1 a.2.1) (fun a x hx h h'=>by
 obtain ⟨s,p,u⟩:=a
 have hx:aak s p=some x:=hx
 unfold aak at hx
 split at hx
 ·cases hx
  exact aru s _
 ·cases hx) (fun _ x=>rfl)
theorem c156 (s:ByteArray) (c:Int):ep ae.toSeat 156 [.str s,.int .u8 c] (.int .i64 (Lib.indexByte s.data.toList c.toNat.toUInt8)):=by
 refine ⟨ab.cons (.str _) (ab.cons (.int _ _) ab.nil),.int _ _,⟨Tryz.f156,_,Tryz.func156,rfl,by kernel_rfl⟩,fun w κ args hf hg hr=>?_⟩
 cases hr with
 |cons _ v1 _ vs h1 h2 =>
 cases h1
 cases h2 with
 |cons _ v2 _ vs h3 h4 =>
 cases h3
 cases h4
 exact(Any.stringslite_IndexByte ar5 s c w).mono (fun e w' ⟨h1,h2⟩=>⟨_,h1,.int _ _,h2 ▸ Below.refl _ _⟩)
noncomputable def aoM:ak ae.toSeat:=lF ae.toSeat 156 [.str,.int .u8] [.int .i64] true (fun a=>some (Lib.indexByte a.1.data.toList a.2.1.toNat.toUInt8)) (fun a x hx h h'=>by
 obtain ⟨s,c,u⟩:=a
 cases hx
 exact c156 s c) (fun _ x=>rfl)
end Go.Proofs.cZ
