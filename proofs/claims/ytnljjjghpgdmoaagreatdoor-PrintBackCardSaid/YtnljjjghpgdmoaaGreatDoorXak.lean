import Derived.Test.YtnljjjghpgdmoaaGreatDoorXaj
import Derived.Shelf.LaysM
import Derived.Shelf.LaysC
import Derived.Shelf.Strconv.Itoa4
import Derived.Shelf.Strconv.ErrVarAll
import Derived.Shelf.Strconv.ParseIntPublic10
import Derived.Shelf.Strings.Cut
import Derived.Shelf.Strings.Split
import Derived.Shelf.Strings.OnBuilder
import Derived.Shelf.Strings.BuilderK
import Derived.Shelf.Strings.MapGrows
import Derived.Lib.AtoiErrMem
import Derived.Lib.ItoaMem
import Derived.WalkKit
import Derived.BigCall
set_option linter.all false
namespace Go.Proofs
open Go.Shelf
def Tryz.laysM171_ren:Go.Shelf.Ren:=⟨fun|171=>65|243=>111|246=>144|283=>173|284=>174|285=>175|286=>176|129=>195|317=>194|318=>196|319=>197|320=>131|337=>167|338=>168|n=>n,fun|3=>3|9=>9|2=>2|4=>4|171=>240|0=>0|53=>189|37=>64|5=>5|173=>242|212=>261|51=>233|20=>20|213=>262|46=>196|232=>258|233=>259|n=>n,fun|17=>3|18=>1|19=>2|n=>n⟩
theorem Tryz.laysM171:Go.Proofs.LaysM.n171 Tryz.prog Tryz.laysM171_ren:={
 mixed:=by kernel_rfl
 f129:=Tryz.func195.trans (congrArg some (by kernel_rfl))
 f171:=Tryz.func65.trans (congrArg some (by kernel_rfl))
 f243:=Tryz.func111.trans (congrArg some (by kernel_rfl))
 f246:=Tryz.func144.trans (congrArg some (by kernel_rfl))
 f283:=Tryz.func173.trans (congrArg some (by kernel_rfl))
 f284:=Tryz.func174.trans (congrArg some (by kernel_rfl))
 f285:=Tryz.func175.trans (congrArg some (by kernel_rfl))
 f286:=Tryz.func176.trans (congrArg some (by kernel_rfl))
 f317:=Tryz.func194.trans (congrArg some (by kernel_rfl))
 f318:=Tryz.func196.trans (congrArg some (by kernel_rfl))
 f319:=Tryz.func197.trans (congrArg some (by kernel_rfl))
 f320:=Tryz.func131.trans (congrArg some (by kernel_rfl))
 f337:=Tryz.func167.trans (congrArg some (by kernel_rfl))
 f338:=Tryz.func168.trans (congrArg some (by kernel_rfl))
 t0:=Tryz.underlying0
 a0:=Tryz.isAgg0
 z0:=Tryz.sizeOf0
 v0:=Tryz.zeroValue0
 t2:=Tryz.underlying2
 a2:=Tryz.isAgg2
 z2:=Tryz.sizeOf2
 v2:=Tryz.zeroValue2
 t3:=Tryz.underlying3
 a3:=Tryz.isAgg3
 z3:=Tryz.sizeOf3
 v3:=Tryz.zeroValue3
 t4:=Tryz.underlying4
 a4:=Tryz.isAgg4
 z4:=Tryz.sizeOf4
 v4:=Tryz.zeroValue4
 t5:=Tryz.underlying5
 a5:=Tryz.isAgg5
 z5:=Tryz.sizeOf5
 v5:=Tryz.zeroValue5
 t9:=Tryz.underlying9
 a9:=Tryz.isAgg9
 z9:=Tryz.sizeOf9
 v9:=Tryz.zeroValue9
 t20:=Tryz.underlying20
 a20:=Tryz.isAgg20
 z20:=Tryz.sizeOf20
 v20:=Tryz.zeroValue20
 t37:=Tryz.underlying64
 a37:=Tryz.isAgg64
 z37:=Tryz.sizeOf64
 v37:=Tryz.zeroValue64
 t46:=Tryz.underlying196
 a46:=Tryz.isAgg196
 z46:=Tryz.sizeOf196
 v46:=Tryz.zeroValue196
 t51:=Tryz.underlying233
 a51:=Tryz.isAgg233
 z51:=Tryz.sizeOf233
 v51:=Tryz.zeroValue233
 t53:=Tryz.underlying189
 a53:=Tryz.isAgg189
 z53:=Tryz.sizeOf189
 v53:=Tryz.zeroValue189
 t171:=Tryz.underlying240
 a171:=Tryz.isAgg240
 z171:=Tryz.sizeOf240
 v171:=Tryz.zeroValue240
 t173:=Tryz.underlying242
 a173:=Tryz.isAgg242
 z173:=Tryz.sizeOf242
 v173:=Tryz.zeroValue242
 t212:=Tryz.underlying261
 a212:=Tryz.isAgg261
 z212:=Tryz.sizeOf261
 v212:=Tryz.zeroValue261
 t213:=Tryz.underlying262
 a213:=Tryz.isAgg262
 z213:=Tryz.sizeOf262
 t232:=Tryz.underlying258
 a232:=Tryz.isAgg258
 z232:=Tryz.sizeOf258
 v232:=Tryz.zeroValue258
 t233:=Tryz.underlying259
 a233:=Tryz.isAgg259
 z233:=Tryz.sizeOf259
 v233:=Tryz.zeroValue259
 g17:=by kernel_rfl
 g18:=by kernel_rfl
 g19:=by kernel_rfl
 i0:=by kernel_rfl
 i2:=by kernel_rfl
 i3:=by kernel_rfl
 i4:=by kernel_rfl
 i5:=by kernel_rfl
 i9:=by kernel_rfl
 i20:=by kernel_rfl
 i37:=by kernel_rfl
 i46:=by kernel_rfl
 i51:=by kernel_rfl
 i53:=by kernel_rfl
 i171:=by kernel_rfl
 i173:=by kernel_rfl
 i212:=by kernel_rfl
 i232:=by kernel_rfl
 i233:=by kernel_rfl
 m17:=by kernel_rfl
 m18:=by kernel_rfl
 m19:=by kernel_rfl}
open Go.RowKit Go.Sort Go.Lib in
theorem Tryz.strconv_Itoa(n:Int)(h0: -9223372036854775808<=n)(h1:n<=9223372036854775807)(w:World)(htab:Lib.TabIs Tryz.prog w "internal/strconv.uint64pow10" .u64 Lib.pow10Tab):
  Calls Tryz.prog 65 #[.int .i64 n] w fun e w'=>e=.returned (.string ⟨(Lib.itoa n).toArray⟩)∧∃k os,w'=grow (w.drewN k) os:=Any.strconv_Itoa Tryz.laysM171 n h0 h1 w htab
def Tryz.laysM173_ren:Go.Shelf.Ren:=⟨fun|173=>143|246=>144|283=>173|284=>174|285=>175|286=>176|129=>195|317=>194|318=>196|319=>197|320=>131|337=>167|338=>168|n=>n,fun|2=>2|3=>3|9=>9|4=>4|171=>240|0=>0|53=>189|37=>64|5=>5|173=>242|212=>261|51=>233|20=>20|213=>262|46=>196|232=>258|233=>259|n=>n,fun|17=>3|18=>1|19=>2|n=>n⟩
theorem Tryz.laysM173:Go.Proofs.LaysM.n173 Tryz.prog Tryz.laysM173_ren:={
 mixed:=by kernel_rfl
 f129:=Tryz.func195.trans (congrArg some (by kernel_rfl))
 f173:=Tryz.func143.trans (congrArg some (by kernel_rfl))
 f246:=Tryz.func144.trans (congrArg some (by kernel_rfl))
 f283:=Tryz.func173.trans (congrArg some (by kernel_rfl))
 f284:=Tryz.func174.trans (congrArg some (by kernel_rfl))
 f285:=Tryz.func175.trans (congrArg some (by kernel_rfl))
 f286:=Tryz.func176.trans (congrArg some (by kernel_rfl))
 f317:=Tryz.func194.trans (congrArg some (by kernel_rfl))
 f318:=Tryz.func196.trans (congrArg some (by kernel_rfl))
 f319:=Tryz.func197.trans (congrArg some (by kernel_rfl))
 f320:=Tryz.func131.trans (congrArg some (by kernel_rfl))
 f337:=Tryz.func167.trans (congrArg some (by kernel_rfl))
 f338:=Tryz.func168.trans (congrArg some (by kernel_rfl))
 t0:=Tryz.underlying0
 a0:=Tryz.isAgg0
 z0:=Tryz.sizeOf0
 v0:=Tryz.zeroValue0
 t2:=Tryz.underlying2
 a2:=Tryz.isAgg2
 z2:=Tryz.sizeOf2
 v2:=Tryz.zeroValue2
 t3:=Tryz.underlying3
 a3:=Tryz.isAgg3
 z3:=Tryz.sizeOf3
 v3:=Tryz.zeroValue3
 t4:=Tryz.underlying4
 a4:=Tryz.isAgg4
 z4:=Tryz.sizeOf4
 v4:=Tryz.zeroValue4
 t5:=Tryz.underlying5
 a5:=Tryz.isAgg5
 z5:=Tryz.sizeOf5
 v5:=Tryz.zeroValue5
 t9:=Tryz.underlying9
 a9:=Tryz.isAgg9
 z9:=Tryz.sizeOf9
 v9:=Tryz.zeroValue9
 t20:=Tryz.underlying20
 a20:=Tryz.isAgg20
 z20:=Tryz.sizeOf20
 v20:=Tryz.zeroValue20
 t37:=Tryz.underlying64
 a37:=Tryz.isAgg64
 z37:=Tryz.sizeOf64
 v37:=Tryz.zeroValue64
 t46:=Tryz.underlying196
 a46:=Tryz.isAgg196
 z46:=Tryz.sizeOf196
 v46:=Tryz.zeroValue196
 t51:=Tryz.underlying233
 a51:=Tryz.isAgg233
 z51:=Tryz.sizeOf233
 v51:=Tryz.zeroValue233
 t53:=Tryz.underlying189
 a53:=Tryz.isAgg189
 z53:=Tryz.sizeOf189
 v53:=Tryz.zeroValue189
 t171:=Tryz.underlying240
 a171:=Tryz.isAgg240
 z171:=Tryz.sizeOf240
 v171:=Tryz.zeroValue240
 t173:=Tryz.underlying242
 a173:=Tryz.isAgg242
 z173:=Tryz.sizeOf242
 v173:=Tryz.zeroValue242
 t212:=Tryz.underlying261
 a212:=Tryz.isAgg261
 z212:=Tryz.sizeOf261
 v212:=Tryz.zeroValue261
 t213:=Tryz.underlying262
 a213:=Tryz.isAgg262
 z213:=Tryz.sizeOf262
 t232:=Tryz.underlying258
 a232:=Tryz.isAgg258
 z232:=Tryz.sizeOf258
 v232:=Tryz.zeroValue258
 t233:=Tryz.underlying259
 a233:=Tryz.isAgg259
 z233:=Tryz.sizeOf259
 v233:=Tryz.zeroValue259
 g17:=by kernel_rfl
 g18:=by kernel_rfl
 g19:=by kernel_rfl
 i0:=by kernel_rfl
 i2:=by kernel_rfl
 i3:=by kernel_rfl
 i4:=by kernel_rfl
 i5:=by kernel_rfl
 i9:=by kernel_rfl
 i20:=by kernel_rfl
 i37:=by kernel_rfl
 i46:=by kernel_rfl
 i51:=by kernel_rfl
 i53:=by kernel_rfl
 i171:=by kernel_rfl
 i173:=by kernel_rfl
 i212:=by kernel_rfl
 i232:=by kernel_rfl
 i233:=by kernel_rfl
 m17:=by kernel_rfl
 m18:=by kernel_rfl
 m19:=by kernel_rfl}
open Go.RowKit Go.Sort Go.Lib in
theorem Tryz.strconv_FormatInt_10(n:Int)(h0: -9223372036854775808<=n)(h1:n<=9223372036854775807)(w:World)(htab:Lib.TabIs Tryz.prog w "internal/strconv.uint64pow10" .u64 Lib.pow10Tab):
  Calls Tryz.prog 143 #[.int .i64 n,.int .i64 10] w fun e w'=>e=.returned (.string ⟨(Lib.itoa n).toArray⟩)∧∃k os,w'=grow (w.drewN k) os:=Any.strconv_FormatInt_10 Tryz.laysM173 n h0 h1 w htab
def Tryz.laysC172_ren:Go.Shelf.Ren:=⟨fun|172=>116|244=>154|245=>155|247=>183|279=>184|280=>185|281=>186|282=>187|287=>199|316=>200|171=>65|205=>201|321=>205|322=>206|243=>111|246=>144|283=>173|284=>174|285=>175|286=>176|129=>195|317=>194|318=>196|319=>197|320=>131|337=>167|338=>168|n=>n,fun|9=>9|3=>3|75=>70|76=>71|4=>4|5=>5|167=>251|37=>64|0=>0|85=>249|2=>2|168=>252|53=>189|175=>263|46=>196|210=>267|127=>127|145=>279|143=>277|21=>21|171=>240|173=>242|212=>261|51=>233|20=>20|213=>262|232=>258|233=>259|80=>80|n=>n,fun|15=>4|16=>5|17=>3|18=>1|19=>2|n=>n⟩
theorem Tryz.laysC172:Go.Proofs.LaysC.n172 Tryz.prog Tryz.laysC172_ren:={
 mixed:=by kernel_rfl
 f129:=Tryz.func195.trans (congrArg some (by kernel_rfl))
 f171:=Tryz.func65.trans (congrArg some (by kernel_rfl))
 f172:=Tryz.func116.trans (congrArg some (by kernel_rfl))
 f205:=Tryz.func201.trans (congrArg some (by kernel_rfl))
 f243:=Tryz.func111.trans (congrArg some (by kernel_rfl))
 f244:=Tryz.func154.trans (congrArg some (by kernel_rfl))
 f245:=Tryz.func155.trans (congrArg some (by kernel_rfl))
 f246:=Tryz.func144.trans (congrArg some (by kernel_rfl))
 f247:=Tryz.func183.trans (congrArg some (by kernel_rfl))
 f279:=Tryz.func184.trans (congrArg some (by kernel_rfl))
 f280:=Tryz.func185.trans (congrArg some (by kernel_rfl))
 f281:=Tryz.func186.trans (congrArg some (by kernel_rfl))
 f282:=Tryz.func187.trans (congrArg some (by kernel_rfl))
 f283:=Tryz.func173.trans (congrArg some (by kernel_rfl))
 f284:=Tryz.func174.trans (congrArg some (by kernel_rfl))
 f285:=Tryz.func175.trans (congrArg some (by kernel_rfl))
 f286:=Tryz.func176.trans (congrArg some (by kernel_rfl))
 f287:=Tryz.func199.trans (congrArg some (by kernel_rfl))
 f316:=Tryz.func200.trans (congrArg some (by kernel_rfl))
 f317:=Tryz.func194.trans (congrArg some (by kernel_rfl))
 f318:=Tryz.func196.trans (congrArg some (by kernel_rfl))
 f319:=Tryz.func197.trans (congrArg some (by kernel_rfl))
 f320:=Tryz.func131.trans (congrArg some (by kernel_rfl))
 f321:=Tryz.func205.trans (congrArg some (by kernel_rfl))
 f322:=Tryz.func206.trans (congrArg some (by kernel_rfl))
 f337:=Tryz.func167.trans (congrArg some (by kernel_rfl))
 f338:=Tryz.func168.trans (congrArg some (by kernel_rfl))
 t0:=Tryz.underlying0
 a0:=Tryz.isAgg0
 z0:=Tryz.sizeOf0
 v0:=Tryz.zeroValue0
 t2:=Tryz.underlying2
 a2:=Tryz.isAgg2
 z2:=Tryz.sizeOf2
 v2:=Tryz.zeroValue2
 t3:=Tryz.underlying3
 a3:=Tryz.isAgg3
 z3:=Tryz.sizeOf3
 v3:=Tryz.zeroValue3
 t4:=Tryz.underlying4
 a4:=Tryz.isAgg4
 z4:=Tryz.sizeOf4
 v4:=Tryz.zeroValue4
 t5:=Tryz.underlying5
 a5:=Tryz.isAgg5
 z5:=Tryz.sizeOf5
 v5:=Tryz.zeroValue5
 t9:=Tryz.underlying9
 a9:=Tryz.isAgg9
 z9:=Tryz.sizeOf9
 v9:=Tryz.zeroValue9
 t20:=Tryz.underlying20
 a20:=Tryz.isAgg20
 z20:=Tryz.sizeOf20
 v20:=Tryz.zeroValue20
 t21:=Tryz.underlying21
 a21:=Tryz.isAgg21
 z21:=Tryz.sizeOf21
 v21:=Tryz.zeroValue21
 t37:=Tryz.underlying64
 a37:=Tryz.isAgg64
 z37:=Tryz.sizeOf64
 v37:=Tryz.zeroValue64
 t46:=Tryz.underlying196
 a46:=Tryz.isAgg196
 z46:=Tryz.sizeOf196
 v46:=Tryz.zeroValue196
 t51:=Tryz.underlying233
 a51:=Tryz.isAgg233
 z51:=Tryz.sizeOf233
 v51:=Tryz.zeroValue233
 t53:=Tryz.underlying189
 a53:=Tryz.isAgg189
 z53:=Tryz.sizeOf189
 v53:=Tryz.zeroValue189
 t75:=Tryz.underlying70
 a75:=Tryz.isAgg70
 z75:=Tryz.sizeOf70
 v75:=Tryz.zeroValue70
 t76:=Tryz.underlying71
 a76:=Tryz.isAgg71
 z76:=Tryz.sizeOf71
 v76:=Tryz.zeroValue71
 t85:=Tryz.underlying249
 a85:=Tryz.isAgg249
 z85:=Tryz.sizeOf249
 v85:=Tryz.zeroValue249
 t127:=Tryz.underlying127
 a127:=Tryz.isAgg127
 z127:=Tryz.sizeOf127
 v127:=Tryz.zeroValue127
 t143:=Tryz.underlying277
 a143:=Tryz.isAgg277
 z143:=Tryz.sizeOf277
 v143:=Tryz.zeroValue277
 t145:=Tryz.underlying279
 a145:=Tryz.isAgg279
 z145:=Tryz.sizeOf279
 v145:=Tryz.zeroValue279
 t167:=Tryz.underlying251
 a167:=Tryz.isAgg251
 z167:=Tryz.sizeOf251
 v167:=Tryz.zeroValue251
 t168:=Tryz.underlying252
 a168:=Tryz.isAgg252
 z168:=Tryz.sizeOf252
 v168:=Tryz.zeroValue252
 t171:=Tryz.underlying240
 a171:=Tryz.isAgg240
 z171:=Tryz.sizeOf240
 v171:=Tryz.zeroValue240
 t173:=Tryz.underlying242
 a173:=Tryz.isAgg242
 z173:=Tryz.sizeOf242
 v173:=Tryz.zeroValue242
 t175:=Tryz.underlying263
 a175:=Tryz.isAgg263
 z175:=Tryz.sizeOf263
 v175:=Tryz.zeroValue263
 t210:=Tryz.underlying267
 a210:=Tryz.isAgg267
 z210:=Tryz.sizeOf267
 v210:=Tryz.zeroValue267
 t212:=Tryz.underlying261
 a212:=Tryz.isAgg261
 z212:=Tryz.sizeOf261
 v212:=Tryz.zeroValue261
 t213:=Tryz.underlying262
 a213:=Tryz.isAgg262
 z213:=Tryz.sizeOf262
 t232:=Tryz.underlying258
 a232:=Tryz.isAgg258
 z232:=Tryz.sizeOf258
 v232:=Tryz.zeroValue258
 t233:=Tryz.underlying259
 a233:=Tryz.isAgg259
 z233:=Tryz.sizeOf259
 v233:=Tryz.zeroValue259
 g15:=by kernel_rfl
 g16:=by kernel_rfl
 g17:=by kernel_rfl
 g18:=by kernel_rfl
 g19:=by kernel_rfl
 t80:=Tryz.underlying80
 a80:=Tryz.isAgg80
 z80:=Tryz.sizeOf80
 v80:=Tryz.zeroValue80
 i0:=by kernel_rfl
 i2:=by kernel_rfl
 i3:=by kernel_rfl
 i4:=by kernel_rfl
 i5:=by kernel_rfl
 i9:=by kernel_rfl
 i20:=by kernel_rfl
 i21:=by kernel_rfl
 i37:=by kernel_rfl
 i46:=by kernel_rfl
 i51:=by kernel_rfl
 i53:=by kernel_rfl
 i75:=by kernel_rfl
 i76:=by kernel_rfl
 i80:=by kernel_rfl
 i85:=by kernel_rfl
 i127:=by kernel_rfl
 i143:=by kernel_rfl
 i145:=by kernel_rfl
 i167:=by kernel_rfl
 i168:=by kernel_rfl
 i171:=by kernel_rfl
 i173:=by kernel_rfl
 i175:=by kernel_rfl
 i210:=by kernel_rfl
 i212:=by kernel_rfl
 i232:=by kernel_rfl
 i233:=by kernel_rfl
 m15:=by kernel_rfl
 m16:=by kernel_rfl
 m17:=by kernel_rfl
 m18:=by kernel_rfl
 m19:=by kernel_rfl
 c0:=by kernel_rfl
 c2:=by kernel_rfl
 c3:=by kernel_rfl
 c4:=by kernel_rfl
 c5:=by kernel_rfl
 c9:=by kernel_rfl
 c20:=by kernel_rfl
 c21:=by kernel_rfl
 c37:=by kernel_rfl
 c46:=by kernel_rfl
 c51:=by kernel_rfl
 c53:=by kernel_rfl
 c75:=by kernel_rfl
 c76:=by kernel_rfl
 c80:=by kernel_rfl
 c85:=by kernel_rfl
 c127:=by kernel_rfl
 c143:=by kernel_rfl
 c145:=by kernel_rfl
 c167:=by kernel_rfl
 c168:=by kernel_rfl
 c171:=by kernel_rfl
 c173:=by kernel_rfl
 c175:=by kernel_rfl
 c210:=by kernel_rfl
 c212:=by kernel_rfl
 c213:=by kernel_rfl
 c232:=by kernel_rfl
 c233:=by kernel_rfl}
open Go.RowKit in
theorem Tryz.strconv_Atoi_ok(s:ByteArray)(hmax:s.size<=9223372036854775806)(v:Int)(h:Lib.atoiAll s.data.toList=.ok v)(w:World):
  Calls Tryz.prog 116 #[.string s] w fun e w'=>e=.returned (.tuple #[.int .i64 v,.nilIface])∧(w'=w∨∃t,w'=Lib.bytesWorld w 5 t):=Any.strconv_Atoi_ok Tryz.laysC172 s hmax v h w
open Go.RowKit in
theorem Tryz.strconv_Atoi_syntax(s:ByteArray)(hlim:s.size<=281474976710656)(h:Lib.atoiAll s.data.toList=Go.Lib.NumEnd.syntax)(ev:Value)(w:World)(hv:w.cell? ⟨4,0,none⟩=some ev)(hev:ev=.nilIface∨∃te pe,ev=.iface te pe):
  Calls Tryz.prog 116 #[.string s] w fun e w'=>∃N,e=.returned (.tuple #[.int .i64 0,.iface 252 (.pointer (some ⟨N,0,none⟩))])∧w.heap.size<=N∧w'.heap[N]? =some (.cells #[.string ⟨#[65,116,111,105]⟩,.string s,ev] 267 (0,0))∧Below w.heap.size w w':=Any.strconv_Atoi_syntax Tryz.laysC172 s hlim h ev w hv hev
open Go.RowKit in
theorem Tryz.strconv_Atoi_range(s:ByteArray)(hlim:s.size<=281474976710656)(h:Lib.atoiAll s.data.toList=.range)(ev:Value)(w:World)(hv:w.cell? ⟨5,0,none⟩=some ev)(hev:ev=.nilIface∨∃te pe,ev=.iface te pe):
  Calls Tryz.prog 116 #[.string s] w fun e w'=>∃N,e=.returned (.tuple #[.int .i64 (Lib.atoiSat s.data.toList),.iface 252 (.pointer (some ⟨N,0,none⟩))])∧w.heap.size<=N∧w'.heap[N]? =some (.cells #[.string ⟨#[65,116,111,105]⟩,.string s,ev] 267 (0,0))∧Below w.heap.size w w':=Any.strconv_Atoi_range Tryz.laysC172 s hlim h ev w hv hev
def Tryz.laysC174_ren:Go.Shelf.Ren:=⟨fun|174=>182|247=>183|245=>155|287=>199|279=>184|280=>185|281=>186|282=>187|321=>205|322=>206|316=>200|171=>65|205=>201|243=>111|246=>144|283=>173|284=>174|285=>175|286=>176|129=>195|317=>194|318=>196|319=>197|320=>131|337=>167|338=>168|n=>n,fun|9=>9|3=>3|2=>2|75=>70|85=>249|4=>4|167=>251|5=>5|53=>189|175=>263|46=>196|168=>252|37=>64|0=>0|210=>267|21=>21|127=>127|145=>279|143=>277|171=>240|173=>242|212=>261|51=>233|20=>20|213=>262|232=>258|233=>259|80=>80|n=>n,fun|15=>4|16=>5|17=>3|18=>1|19=>2|n=>n⟩
theorem Tryz.laysC174:Go.Proofs.LaysC.n174 Tryz.prog Tryz.laysC174_ren:={
 mixed:=by kernel_rfl
 f129:=Tryz.func195.trans (congrArg some (by kernel_rfl))
 f171:=Tryz.func65.trans (congrArg some (by kernel_rfl))
 f174:=Tryz.func182.trans (congrArg some (by kernel_rfl))
 f205:=Tryz.func201.trans (congrArg some (by kernel_rfl))
 f243:=Tryz.func111.trans (congrArg some (by kernel_rfl))
 f245:=Tryz.func155.trans (congrArg some (by kernel_rfl))
 f246:=Tryz.func144.trans (congrArg some (by kernel_rfl))
 f247:=Tryz.func183.trans (congrArg some (by kernel_rfl))
 f279:=Tryz.func184.trans (congrArg some (by kernel_rfl))
 f280:=Tryz.func185.trans (congrArg some (by kernel_rfl))
 f281:=Tryz.func186.trans (congrArg some (by kernel_rfl))
 f282:=Tryz.func187.trans (congrArg some (by kernel_rfl))
 f283:=Tryz.func173.trans (congrArg some (by kernel_rfl))
 f284:=Tryz.func174.trans (congrArg some (by kernel_rfl))
 f285:=Tryz.func175.trans (congrArg some (by kernel_rfl))
 f286:=Tryz.func176.trans (congrArg some (by kernel_rfl))
 f287:=Tryz.func199.trans (congrArg some (by kernel_rfl))
 f316:=Tryz.func200.trans (congrArg some (by kernel_rfl))
 f317:=Tryz.func194.trans (congrArg some (by kernel_rfl))
 f318:=Tryz.func196.trans (congrArg some (by kernel_rfl))
 f319:=Tryz.func197.trans (congrArg some (by kernel_rfl))
 f320:=Tryz.func131.trans (congrArg some (by kernel_rfl))
 f321:=Tryz.func205.trans (congrArg some (by kernel_rfl))
 f322:=Tryz.func206.trans (congrArg some (by kernel_rfl))
 f337:=Tryz.func167.trans (congrArg some (by kernel_rfl))
 f338:=Tryz.func168.trans (congrArg some (by kernel_rfl))
 t0:=Tryz.underlying0
 a0:=Tryz.isAgg0
 z0:=Tryz.sizeOf0
 v0:=Tryz.zeroValue0
 t2:=Tryz.underlying2
 a2:=Tryz.isAgg2
 z2:=Tryz.sizeOf2
 v2:=Tryz.zeroValue2
 t3:=Tryz.underlying3
 a3:=Tryz.isAgg3
 z3:=Tryz.sizeOf3
 v3:=Tryz.zeroValue3
 t4:=Tryz.underlying4
 a4:=Tryz.isAgg4
 z4:=Tryz.sizeOf4
 v4:=Tryz.zeroValue4
 t5:=Tryz.underlying5
 a5:=Tryz.isAgg5
 z5:=Tryz.sizeOf5
 v5:=Tryz.zeroValue5
 t9:=Tryz.underlying9
 a9:=Tryz.isAgg9
 z9:=Tryz.sizeOf9
 v9:=Tryz.zeroValue9
 t20:=Tryz.underlying20
 a20:=Tryz.isAgg20
 z20:=Tryz.sizeOf20
 v20:=Tryz.zeroValue20
 t21:=Tryz.underlying21
 a21:=Tryz.isAgg21
 z21:=Tryz.sizeOf21
 v21:=Tryz.zeroValue21
 t37:=Tryz.underlying64
 a37:=Tryz.isAgg64
 z37:=Tryz.sizeOf64
 v37:=Tryz.zeroValue64
 t46:=Tryz.underlying196
 a46:=Tryz.isAgg196
 z46:=Tryz.sizeOf196
 v46:=Tryz.zeroValue196
 t51:=Tryz.underlying233
 a51:=Tryz.isAgg233
 z51:=Tryz.sizeOf233
 v51:=Tryz.zeroValue233
 t53:=Tryz.underlying189
 a53:=Tryz.isAgg189
 z53:=Tryz.sizeOf189
 v53:=Tryz.zeroValue189
 t75:=Tryz.underlying70
 a75:=Tryz.isAgg70
 z75:=Tryz.sizeOf70
 v75:=Tryz.zeroValue70
 t85:=Tryz.underlying249
 a85:=Tryz.isAgg249
 z85:=Tryz.sizeOf249
 v85:=Tryz.zeroValue249
 t127:=Tryz.underlying127
 a127:=Tryz.isAgg127
 z127:=Tryz.sizeOf127
 v127:=Tryz.zeroValue127
 t143:=Tryz.underlying277
 a143:=Tryz.isAgg277
 z143:=Tryz.sizeOf277
 v143:=Tryz.zeroValue277
 t145:=Tryz.underlying279
 a145:=Tryz.isAgg279
 z145:=Tryz.sizeOf279
 v145:=Tryz.zeroValue279
 t167:=Tryz.underlying251
 a167:=Tryz.isAgg251
 z167:=Tryz.sizeOf251
 v167:=Tryz.zeroValue251
 t168:=Tryz.underlying252
 a168:=Tryz.isAgg252
 z168:=Tryz.sizeOf252
 v168:=Tryz.zeroValue252
 t171:=Tryz.underlying240
 a171:=Tryz.isAgg240
 z171:=Tryz.sizeOf240
 v171:=Tryz.zeroValue240
 t173:=Tryz.underlying242
 a173:=Tryz.isAgg242
 z173:=Tryz.sizeOf242
 v173:=Tryz.zeroValue242
 t175:=Tryz.underlying263
 a175:=Tryz.isAgg263
 z175:=Tryz.sizeOf263
 v175:=Tryz.zeroValue263
 t210:=Tryz.underlying267
 a210:=Tryz.isAgg267
 z210:=Tryz.sizeOf267
 v210:=Tryz.zeroValue267
 t212:=Tryz.underlying261
 a212:=Tryz.isAgg261
 z212:=Tryz.sizeOf261
 v212:=Tryz.zeroValue261
 t213:=Tryz.underlying262
 a213:=Tryz.isAgg262
 z213:=Tryz.sizeOf262
 t232:=Tryz.underlying258
 a232:=Tryz.isAgg258
 z232:=Tryz.sizeOf258
 v232:=Tryz.zeroValue258
 t233:=Tryz.underlying259
 a233:=Tryz.isAgg259
 z233:=Tryz.sizeOf259
 v233:=Tryz.zeroValue259
 g15:=by kernel_rfl
 g16:=by kernel_rfl
 g17:=by kernel_rfl
 g18:=by kernel_rfl
 g19:=by kernel_rfl
 t80:=Tryz.underlying80
 a80:=Tryz.isAgg80
 z80:=Tryz.sizeOf80
 v80:=Tryz.zeroValue80
 i0:=by kernel_rfl
 i2:=by kernel_rfl
 i3:=by kernel_rfl
 i4:=by kernel_rfl
 i5:=by kernel_rfl
 i9:=by kernel_rfl
 i20:=by kernel_rfl
 i21:=by kernel_rfl
 i37:=by kernel_rfl
 i46:=by kernel_rfl
 i51:=by kernel_rfl
 i53:=by kernel_rfl
 i75:=by kernel_rfl
 i80:=by kernel_rfl
 i85:=by kernel_rfl
 i127:=by kernel_rfl
 i143:=by kernel_rfl
 i145:=by kernel_rfl
 i167:=by kernel_rfl
 i168:=by kernel_rfl
 i171:=by kernel_rfl
 i173:=by kernel_rfl
 i175:=by kernel_rfl
 i210:=by kernel_rfl
 i212:=by kernel_rfl
 i232:=by kernel_rfl
 i233:=by kernel_rfl
 m15:=by kernel_rfl
 m16:=by kernel_rfl
 m17:=by kernel_rfl
 m18:=by kernel_rfl
 m19:=by kernel_rfl
 c0:=by kernel_rfl
 c2:=by kernel_rfl
 c3:=by kernel_rfl
 c4:=by kernel_rfl
 c5:=by kernel_rfl
 c9:=by kernel_rfl
 c20:=by kernel_rfl
 c21:=by kernel_rfl
 c37:=by kernel_rfl
 c46:=by kernel_rfl
 c51:=by kernel_rfl
 c53:=by kernel_rfl
 c75:=by kernel_rfl
 c80:=by kernel_rfl
 c85:=by kernel_rfl
 c127:=by kernel_rfl
 c143:=by kernel_rfl
 c145:=by kernel_rfl
 c167:=by kernel_rfl
 c168:=by kernel_rfl
 c171:=by kernel_rfl
 c173:=by kernel_rfl
 c175:=by kernel_rfl
 c210:=by kernel_rfl
 c212:=by kernel_rfl
 c213:=by kernel_rfl
 c232:=by kernel_rfl
 c233:=by kernel_rfl}
open Go.RowKit in
theorem Tryz.strconv_ParseInt_10_at64_ok(s:ByteArray)(hmax:s.size<=9223372036854775806)(v:Int)(h:Lib.parseIntB 64 s.data.toList=.ok v)(w:World):
  Calls Tryz.prog 182 #[.string s,.int .i64 10,.int .i64 64] w fun e w'=>e=.returned (.tuple #[.int .i64 v,.nilIface])∧(w'=w∨∃t,w'=Lib.bytesWorld w 5 t):=Any.strconv_ParseInt_10_at64_ok Tryz.laysC174 s hmax v h w
open Go.RowKit in
theorem Tryz.strconv_ParseInt_10_at64_syntax(s:ByteArray)(hlim:s.size<=281474976710656)(h:Lib.parseIntB 64 s.data.toList=Go.Lib.NumEnd.syntax)(ev:Value)(w:World)(hv:w.cell? ⟨4,0,none⟩=some ev)(hev:ev=.nilIface∨∃te pe,ev=.iface te pe):
  Calls Tryz.prog 182 #[.string s,.int .i64 10,.int .i64 64] w fun e w'=>∃N,e=.returned (.tuple #[.int .i64 0,.iface 252 (.pointer (some ⟨N,0,none⟩))])∧w.heap.size<=N∧w'.heap[N]? =some (.cells #[.string ⟨#[80,97,114,115,101,73,110,116]⟩,.string s,ev] 267 (0,0))∧Below w.heap.size w w':=Any.strconv_ParseInt_10_at64_syntax Tryz.laysC174 s hlim h ev w hv hev
open Go.RowKit in
theorem Tryz.strconv_ParseInt_10_at64_range(s:ByteArray)(hlim:s.size<=281474976710656)(h:Lib.parseIntB 64 s.data.toList=.range)(ev:Value)(w:World)(hv:w.cell? ⟨5,0,none⟩=some ev)(hev:ev=.nilIface∨∃te pe,ev=.iface te pe):
  Calls Tryz.prog 182 #[.string s,.int .i64 10,.int .i64 64] w fun e w'=>∃N,e=.returned (.tuple #[.int .i64 (Lib.intSat 64 s.data.toList),.iface 252 (.pointer (some ⟨N,0,none⟩))])∧w.heap.size<=N∧w'.heap[N]? =some (.cells #[.string ⟨#[80,97,114,115,101,73,110,116]⟩,.string s,ev] 267 (0,0))∧Below w.heap.size w w':=Any.strconv_ParseInt_10_at64_range Tryz.laysC174 s hlim h ev w hv hev
def Tryz.lays145_ren:Go.Shelf.Ren:=⟨fun|145=>27|220=>69|219=>113|217=>146|225=>147|224=>148|267=>149|266=>177|314=>178|n=>n,fun|9=>9|4=>4|59=>83|3=>3|5=>5|46=>196|146=>244|51=>233|n=>n,fun|1=>0|n=>n⟩
theorem Tryz.lays145:Go.Proofs.Lays.n145 Tryz.prog Tryz.lays145_ren:={
 mixed:=by kernel_rfl
 f145:=Tryz.func27.trans (congrArg some (by kernel_rfl))
 f217:=Tryz.func146.trans (congrArg some (by kernel_rfl))
 f219:=Tryz.func113.trans (congrArg some (by kernel_rfl))
 f220:=Tryz.func69.trans (congrArg some (by kernel_rfl))
 f224:=Tryz.func148.trans (congrArg some (by kernel_rfl))
 f225:=Tryz.func147.trans (congrArg some (by kernel_rfl))
 f266:=Tryz.func177.trans (congrArg some (by kernel_rfl))
 f267:=Tryz.func149.trans (congrArg some (by kernel_rfl))
 f314:=Tryz.func178.trans (congrArg some (by kernel_rfl))
 t3:=Tryz.underlying3
 a3:=Tryz.isAgg3
 z3:=Tryz.sizeOf3
 v3:=Tryz.zeroValue3
 t4:=Tryz.underlying4
 a4:=Tryz.isAgg4
 z4:=Tryz.sizeOf4
 v4:=Tryz.zeroValue4
 t5:=Tryz.underlying5
 a5:=Tryz.isAgg5
 z5:=Tryz.sizeOf5
 v5:=Tryz.zeroValue5
 t9:=Tryz.underlying9
 a9:=Tryz.isAgg9
 z9:=Tryz.sizeOf9
 v9:=Tryz.zeroValue9
 t46:=Tryz.underlying196
 a46:=Tryz.isAgg196
 z46:=Tryz.sizeOf196
 v46:=Tryz.zeroValue196
 t51:=Tryz.underlying233
 a51:=Tryz.isAgg233
 z51:=Tryz.sizeOf233
 v51:=Tryz.zeroValue233
 t59:=Tryz.underlying83
 a59:=Tryz.isAgg83
 z59:=Tryz.sizeOf83
 v59:=Tryz.zeroValue83
 t146:=Tryz.underlying244
 a146:=Tryz.isAgg244
 z146:=Tryz.sizeOf244
 v146:=Tryz.zeroValue244
 g1:=by kernel_rfl}
open Go.RowKit Go.Lib in
theorem Tryz.strings_Cut(s sep:ByteArray)(m:Int)(w:World)(hs:s.size<4294967281)(hm:w.cell? ⟨0,0,none⟩=some (.int .i64 m)):
  Calls Tryz.prog 27 #[.string s,.string sep] w fun e w'=>e=.returned (.tuple #[.string ⟨(Lib.cut s.data.toList sep.data.toList).1.toArray⟩,.string ⟨(Lib.cut s.data.toList sep.data.toList).2.1.toArray⟩,.bool (Lib.cut s.data.toList sep.data.toList).2.2])∧∃n,w'=w.drewN n:=Any.strings_Cut Tryz.lays145 s sep m w hs hm
def Tryz.lays146_ren:Go.Shelf.Ren:=⟨fun|146=>70|221=>114|268=>150|138=>151|143=>152|195=>179|197=>180|218=>181|219=>113|260=>198|217=>146|225=>147|224=>148|267=>149|266=>177|314=>178|n=>n,fun|9=>9|31=>87|3=>3|4=>4|0=>0|105=>247|21=>21|5=>5|46=>196|119=>271|139=>274|138=>273|146=>244|51=>233|n=>n,fun|1=>0|3=>6|4=>7|n=>n⟩
theorem Tryz.lays146:Go.Proofs.Lays.n146 Tryz.prog Tryz.lays146_ren:={
 mixed:=by kernel_rfl
 f138:=Tryz.func151.trans (congrArg some (by kernel_rfl))
 f143:=Tryz.func152.trans (congrArg some (by kernel_rfl))
 f146:=Tryz.func70.trans (congrArg some (by kernel_rfl))
 f195:=Tryz.func179.trans (congrArg some (by kernel_rfl))
 f197:=Tryz.func180.trans (congrArg some (by kernel_rfl))
 f217:=Tryz.func146.trans (congrArg some (by kernel_rfl))
 f218:=Tryz.func181.trans (congrArg some (by kernel_rfl))
 f219:=Tryz.func113.trans (congrArg some (by kernel_rfl))
 f221:=Tryz.func114.trans (congrArg some (by kernel_rfl))
 f224:=Tryz.func148.trans (congrArg some (by kernel_rfl))
 f225:=Tryz.func147.trans (congrArg some (by kernel_rfl))
 f260:=Tryz.func198.trans (congrArg some (by kernel_rfl))
 f266:=Tryz.func177.trans (congrArg some (by kernel_rfl))
 f267:=Tryz.func149.trans (congrArg some (by kernel_rfl))
 f268:=Tryz.func150.trans (congrArg some (by kernel_rfl))
 f314:=Tryz.func178.trans (congrArg some (by kernel_rfl))
 t0:=Tryz.underlying0
 a0:=Tryz.isAgg0
 z0:=Tryz.sizeOf0
 v0:=Tryz.zeroValue0
 t3:=Tryz.underlying3
 a3:=Tryz.isAgg3
 z3:=Tryz.sizeOf3
 v3:=Tryz.zeroValue3
 t4:=Tryz.underlying4
 a4:=Tryz.isAgg4
 z4:=Tryz.sizeOf4
 v4:=Tryz.zeroValue4
 t5:=Tryz.underlying5
 a5:=Tryz.isAgg5
 z5:=Tryz.sizeOf5
 v5:=Tryz.zeroValue5
 t9:=Tryz.underlying9
 a9:=Tryz.isAgg9
 z9:=Tryz.sizeOf9
 v9:=Tryz.zeroValue9
 t21:=Tryz.underlying21
 a21:=Tryz.isAgg21
 z21:=Tryz.sizeOf21
 v21:=Tryz.zeroValue21
 t31:=Tryz.underlying87
 a31:=Tryz.isAgg87
 z31:=Tryz.sizeOf87
 v31:=Tryz.zeroValue87
 t46:=Tryz.underlying196
 a46:=Tryz.isAgg196
 z46:=Tryz.sizeOf196
 v46:=Tryz.zeroValue196
 t51:=Tryz.underlying233
 a51:=Tryz.isAgg233
 z51:=Tryz.sizeOf233
 v51:=Tryz.zeroValue233
 t105:=Tryz.underlying247
 a105:=Tryz.isAgg247
 z105:=Tryz.sizeOf247
 v105:=Tryz.zeroValue247
 t119:=Tryz.underlying271
 a119:=Tryz.isAgg271
 z119:=Tryz.sizeOf271
 t138:=Tryz.underlying273
 a138:=Tryz.isAgg273
 z138:=Tryz.sizeOf273
 v138:=Tryz.zeroValue273
 t139:=Tryz.underlying274
 a139:=Tryz.isAgg274
 z139:=Tryz.sizeOf274
 v139:=Tryz.zeroValue274
 t146:=Tryz.underlying244
 a146:=Tryz.isAgg244
 z146:=Tryz.sizeOf244
 v146:=Tryz.zeroValue244
 g1:=by kernel_rfl
 g3:=by kernel_rfl
 g4:=by kernel_rfl}
open Go.RowKit Go.Lib in
theorem Tryz.strings_Split(s sep:ByteArray)(m:Int)(w:World)(hs:s.size<4294967281)(hm:w.cell? ⟨0,0,none⟩=some (.int .i64 m))(h1:1<=sep.size):
  Calls Tryz.prog 70 #[.string s,.string sep] w fun e w'=>
   e=.returned (.slice (some ⟨w.heap.size,0,none⟩) (Lib.countB s sep+1) (Lib.countB s sep+1))∧w'=w.alloc (.cells ((Lib.splitB sep 0 (Lib.countB s sep) s).map Value.string).toArray 9):=Any.strings_Split Tryz.lays146 (by kernel_rfl) s sep m w hs hm h1
def Tryz.lays166_ren:Go.Shelf.Ren:=⟨fun|166=>19|240=>63|276=>109|n=>n,fun|0=>0|3=>3|4=>4|9=>9|20=>20|37=>64|70=>63|72=>66|75=>70|164=>176|80=>80|5=>5|n=>n,fun|n=>n⟩
theorem Tryz.lays166:Go.Proofs.Lays.n166 Tryz.prog Tryz.lays166_ren:={
 mixed:=by kernel_rfl
 f166:=Tryz.func19.trans (congrArg some (by kernel_rfl))
 f240:=Tryz.func63.trans (congrArg some (by kernel_rfl))
 f276:=Tryz.func109.trans (congrArg some (by kernel_rfl))
 t0:=Tryz.underlying0
 a0:=Tryz.isAgg0
 z0:=Tryz.sizeOf0
 v0:=Tryz.zeroValue0
 t3:=Tryz.underlying3
 a3:=Tryz.isAgg3
 z3:=Tryz.sizeOf3
 v3:=Tryz.zeroValue3
 t4:=Tryz.underlying4
 a4:=Tryz.isAgg4
 z4:=Tryz.sizeOf4
 v4:=Tryz.zeroValue4
 t9:=Tryz.underlying9
 a9:=Tryz.isAgg9
 z9:=Tryz.sizeOf9
 v9:=Tryz.zeroValue9
 t20:=Tryz.underlying20
 a20:=Tryz.isAgg20
 z20:=Tryz.sizeOf20
 v20:=Tryz.zeroValue20
 t37:=Tryz.underlying64
 a37:=Tryz.isAgg64
 z37:=Tryz.sizeOf64
 v37:=Tryz.zeroValue64
 t70:=Tryz.underlying63
 a70:=Tryz.isAgg63
 z70:=Tryz.sizeOf63
 v70:=Tryz.zeroValue63
 t72:=Tryz.underlying66
 a72:=Tryz.isAgg66
 z72:=Tryz.sizeOf66
 v72:=Tryz.zeroValue66
 t75:=Tryz.underlying70
 a75:=Tryz.isAgg70
 z75:=Tryz.sizeOf70
 v75:=Tryz.zeroValue70
 t164:=Tryz.underlying176
 a164:=Tryz.isAgg176
 z164:=Tryz.sizeOf176
 v164:=Tryz.zeroValue176}
theorem Tryz.Builder_Extra_166:Builder.Extra Tryz.prog Tryz.lays166_ren:={
 sizeBuilder:=by kernel_rfl
 liesBuilder:=by kernel_rfl
 t5:=Tryz.underlying5
 a5:=Tryz.isAgg5
 z5:=Tryz.sizeOf5
 v5:=Tryz.zeroValue5
 infoByte:=by kernel_rfl
 cellsByte:=by kernel_rfl
 sizeByte:=by kernel_rfl
 neB5:=by decide}
end Go.Proofs
namespace Go.Proofs.YtnljjjghpgdmoaaGreatDoor
open Go.Ev Go.RowKit
structure Wd(w:World):Prop where
 pow:Lib.TabIs Tryz.prog w "internal/strconv.uint64pow10" .u64 Lib.pow10Tab
 tz:Ld.Wt w
 len:∃m,w.cell? ⟨0,0,none⟩=some (.int .i64 m)
 syn:∃te pe,w.cell? ⟨4,0,none⟩=some (.iface te pe)
 rng:∃te pe,w.cell? ⟨5,0,none⟩=some (.iface te pe)
theorem cell_later{w w':World}{b j:Nat}{v:Value}(h:w.cell? ⟨b,j,none⟩=some v)(hb:Below w.heap.size w w'):w'.cell? ⟨b,j,none⟩=some v:=by
 rw[hb.cell (p:=⟨b,j,none⟩) (Lib.lt_of_cell h)];exact h
theorem YB{w w':World}(h:Lib.TabIs Tryz.prog w "internal/strconv.uint64pow10" .u64 Lib.pow10Tab)(hb:Below w.heap.size w w'):Lib.TabIs Tryz.prog w' "internal/strconv.uint64pow10" .u64 Lib.pow10Tab:=by
 have h0:=h.cell (g:=3) (by kernel_rfl) 0 (by decide);have hlt:3<w.heap.size:=Lib.lt_of_cell h0;unfold Lib.TabIs World.var? at h⊢;rw[show Tryz.prog.globalNamed "internal/strconv.uint64pow10"=some 3 by kernel_rfl]at h⊢;have hbk:=hb.block 3 hlt;show(match w'.heap[3]? with|some (.cells cs _ _)=>some cs|_=>none)=_
 rw[hbk];exact h
theorem Wd.later{w w':World}(h:Wd w)(hb:Below w.heap.size w w'):Wd w':=
 ⟨YB h.pow hb,h.tz.later hb,by obtain⟨m,hm⟩:=h.len;exact⟨m,cell_later hm hb⟩,by obtain⟨a,b,hm⟩:=h.syn;exact⟨a,b,cell_later hm hb⟩,by obtain⟨a,b,hm⟩:=h.rng;exact⟨a,b,cell_later hm hb⟩⟩
inductive ResE:List D->List Value->List Value->Prop
 |nil:ResE [] [] []
 |v{x:Value}{ds:List D}{us cs:List Value}:Ce x=true->ResE ds us cs->ResE (.v x::ds) (x::us) (x::cs)
 |err{b:Bool}{c:Value}{ds:List D}{us cs:List Value}:(b=true->∃t x,c=.iface t x)->(b=false->c=.nilIface)->ResE ds us cs->ResE (.err b::ds) (mY b::us) (c::cs)
theorem ResE.from{ds:List D}{us cs:List Value}(h:ResE ds us cs)(m:List (Option Blk)):Az true ds m=some (us,m):=by
 induction h with
 |nil=>rfl
 |v ha _ ih=>simp only[Az,fromD,Ba,ha,ih]
 |err _ _ _ ih=>simp only[Az,fromD,Ba,ih]
theorem ResE.vs{ρ:Map}{N:Nat}{ds:List D}{us cs:List Value}(h:ResE ds us cs):Vs ρ N us cs:=by
 induction h with
 |nil=>exact .nil
 |v ha _ ih=>exact .cons (V.refl1 ha) ih
 |err h1 h2 _ ih=>exact .cons (.iface h1 h2) ih
theorem EI{P:Program}{W:World->Prop}(hst:∀w w',W w->Below w.heap.size w w'->W w'){f:FuncId}{F:FD}
  (h:∀ds rs,F ds=some (true,rs)->∃xs:List Value,ds=xs.map D.v∧(∀x∈xs,Ce x=true)∧∀w,W w->Calls P f ⟨xs⟩ w fun e w'=>∃us cs,e=.returned (tupV cs)∧ResE rs us cs∧Below w.heap.size w w'):DenW P W f F:=by
 intro wb hwb ds rs hF w hbw args vs' mem ρ hfrom _ hl hv;obtain⟨xs,rfl,hx,hc⟩:=h ds rs hF;rw[F5 false xs [] hx]at hfrom;simp only[A5,A6]at hfrom;obtain⟨e1,e2⟩:=hfrom;subst e1;subst e2;have hargs:args=xs:=by
  apply List.ext_getElem?;intro i;by_cases hi:i<xs.length
  ·have h1:xs[i]? =some xs[i]:=AK hi;have h2:args[i]? =some args[i]:=AK (by omega);rw[h1,h2,(hv i _ _ h1 h2).atom1_eq (hx _ (List.getElem_mem hi))]
  ·rw[List.getElem?_eq_none (by omega),List.getElem?_eq_none (by omega)]
 subst hargs;refine(hc w (hst wb w hwb hbw)).mono fun e w' ⟨us,cs,he,hr,hb⟩=>?_;exact⟨tupV cs,he,hb,us,[],fun _=>none,hr.from [],⟨fun id b h=>by simp at h,fun _ _=>rfl,fun i j b h=>by obtain⟨_,_,_,h2,_⟩:=h;simp at h2⟩,hr.vs.tupV⟩
def txt(l:List UInt8):ByteArray:=⟨l.toArray⟩
def str(l:List UInt8):Value:=.string (txt l)
def Ae(s:ByteArray):List UInt8:=s.data.toList
theorem VW(w:World)(n:Nat):Below w.heap.size w (w.drewN n):=⟨rfl,rfl,rfl,AC _,fun _ _=>rfl⟩
theorem Pi(w:World)(n:Nat)(os:Array Obj):Below w.heap.size w (Go.Sort.grow (w.drewN n) os):=⟨rfl,rfl,rfl,by show w.heap.size<=(w.heap++os).size;simp,fun k hk=>by
 show(w.heap++os)[k]? =_;rw[Array.getElem?_append_left hk]⟩
def iR(n:Int):Bool:=-9223372036854775808<=n∧n<=9223372036854775807
theorem iR_iff{n:Int}:iR n=true↔-9223372036854775808<=n∧n<=9223372036854775807:=by unfold iR;rw[A3]
def Adq:FD
 |[.v (.int .i64 n),.v (.int .i64 b)]=>some (iR n&&decide (b=10),[.v (str (Lib.itoa n))])
 |_=>none
theorem den_fmt:DenW Tryz.prog Wd 143 Adq:=EI (fun _ _ h hb=>h.later hb) fun ds rs h=>by
 unfold Adq at h;split at h
 ·rename_i n b;simp only[A5,A6,A2,A3]at h;obtain⟨⟨h0,rfl⟩,rfl⟩:=h;obtain⟨h1,h2⟩:=iR_iff.1 h0;refine⟨[.int .i64 n,.int .i64 10],rfl,fun y hy=>?_,fun w hw=>?_⟩
  ·simp only[A8,A7,or_false]at hy;rcases hy with rfl|rfl<;>rfl
  ·refine(Tryz.strconv_FormatInt_10 n h1 (by omega) w hw.pow).mono fun e w' ⟨he,k,os,hw'⟩=>?_;subst hw';exact⟨_,[str (Lib.itoa n)],he,.v rfl .nil,Pi w k os⟩
 ·cases h
def Ai9:FD
 |[.v (.string s),.v (.string p)]=>some (s.size<4294967281,[.v (str (Lib.cut (Ae s) (Ae p)).1),.v (str (Lib.cut (Ae s) (Ae p)).2.1),.v (.bool (Lib.cut (Ae s) (Ae p)).2.2)])
 |_=>none
theorem den_cut:DenW Tryz.prog Wd 27 Ai9:=EI (fun _ _ h hb=>h.later hb) fun ds rs h=>by
 unfold Ai9 at h;split at h
 ·rename_i s p;simp only[A5,A6,A3]at h;obtain⟨h0,rfl⟩:=h;refine⟨[.string s,.string p],rfl,fun y hy=>?_,fun w hw=>?_⟩
  ·simp only[A8,A7,or_false]at hy;rcases hy with rfl|rfl<;>rfl
  ·obtain⟨m,hm⟩:=hw.len;refine(Tryz.strings_Cut s p m w h0 hm).mono fun e w' ⟨he,n,hw'⟩=>?_;subst hw';exact⟨_,[str (Lib.cut (Ae s) (Ae p)).1,str (Lib.cut (Ae s) (Ae p)).2.1,.bool (Lib.cut (Ae s) (Ae p)).2.2],he,.v rfl (.v rfl (.v rfl .nil)),VW w n⟩
 ·cases h
def WW(l:List UInt8):Int:=match Lib.atoiAll l with
 |.ok v=>v
 |Go.Lib.NumEnd.syntax=>0
 |.range=>Lib.atoiSat l
def XL(l:List UInt8):Bool:=match Lib.atoiAll l with
 |.ok _=>false
 |_=>true
def iM:FD
 |[.v (.string s)]=>some (s.size<=4294967296,[.v (i64 (WW (Ae s))),.err (XL (Ae s))])
 |_=>none
theorem jW:DenW Tryz.prog Wd 116 iM:=EI (fun _ _ h hb=>h.later hb) fun ds rs h=>by
 unfold iM at h;split at h
 ·rename_i s;simp only[A5,A6,A3]at h;obtain⟨h0,rfl⟩:=h;refine⟨[.string s],rfl,fun y hy=>?_,fun w hw=>?_⟩
  ·simp only[A8,A7,or_false]at hy;rcases hy with rfl;rfl
  ·unfold WW XL Ae;rcases hp:Lib.atoiAll s.data.toList with v|_|_
   ·refine(Tryz.strconv_Atoi_ok s (by omega) v hp w).mono fun e w' ⟨he,hw'⟩=>?_;refine⟨_,[i64 v,.nilIface],he,.v rfl (.err (fun h=>by cases h) (fun _=>rfl) .nil),?_⟩;rcases hw' with rfl|⟨t,rfl⟩
    ·exact Below.refl _ _
    ·exact Lib.bytesWorld_below _ _ _
   ·obtain⟨te,pe,hs⟩:=hw.syn;refine(Tryz.strconv_Atoi_syntax s (by omega) hp _ w hs (.inr ⟨te,pe,rfl⟩)).mono fun e w' ⟨N,he,_,_,hb⟩=>?_;exact⟨_,[i64 0,.iface 252 (.pointer (some ⟨N,0,none⟩))],he,.v rfl (.err (fun _=>⟨_,_,rfl⟩) (fun h=>by cases h) .nil),hb⟩
   ·obtain⟨te,pe,hs⟩:=hw.rng;refine(Tryz.strconv_Atoi_range s (by omega) hp _ w hs (.inr ⟨te,pe,rfl⟩)).mono fun e w' ⟨N,he,_,_,hb⟩=>?_;exact⟨_,[i64 _,.iface 252 (.pointer (some ⟨N,0,none⟩))],he,.v rfl (.err (fun _=>⟨_,_,rfl⟩) (fun h=>by cases h) .nil),hb⟩
 ·cases h
def PR(l:List UInt8):Int:=match Lib.parseIntB 64 l with
 |.ok v=>v
 |Go.Lib.NumEnd.syntax=>0
 |.range=>Lib.intSat 64 l
def Vq(l:List UInt8):Bool:=match Lib.parseIntB 64 l with
 |.ok _=>false
 |_=>true
def wQ:FD
 |[.v (.string s),.v (.int .i64 b),.v (.int .i64 z)]=>some (decide (b=10)&&decide (z=64)&&decide (s.size<=4294967296),[.v (i64 (PR (Ae s))),.err (Vq (Ae s))])
 |_=>none
theorem kF:DenW Tryz.prog Wd 182 wQ:=EI (fun _ _ h hb=>h.later hb) fun ds rs h=>by
 unfold wQ at h;split at h
 ·rename_i s b z;simp only[A5,A6,A2,A3]at h;obtain⟨⟨⟨rfl,rfl⟩,h0⟩,rfl⟩:=h;refine⟨[.string s,.int .i64 10,.int .i64 64],rfl,fun y hy=>?_,fun w hw=>?_⟩
  ·simp only[A8,A7,or_false]at hy;rcases hy with rfl|rfl|rfl<;>rfl
  ·unfold PR Vq Ae;rcases hp:Lib.parseIntB 64 s.data.toList with v|_|_
   ·refine(Tryz.strconv_ParseInt_10_at64_ok s (by omega) v hp w).mono fun e w' ⟨he,hw'⟩=>?_;refine⟨_,[i64 v,.nilIface],he,.v rfl (.err (fun h=>by cases h) (fun _=>rfl) .nil),?_⟩;rcases hw' with rfl|⟨t,rfl⟩
    ·exact Below.refl _ _
    ·exact Lib.bytesWorld_below _ _ _
   ·obtain⟨te,pe,hs⟩:=hw.syn;refine(Tryz.strconv_ParseInt_10_at64_syntax s (by omega) hp _ w hs (.inr ⟨te,pe,rfl⟩)).mono fun e w' ⟨N,he,_,_,hb⟩=>?_;exact⟨_,[i64 0,.iface 252 (.pointer (some ⟨N,0,none⟩))],he,.v rfl (.err (fun _=>⟨_,_,rfl⟩) (fun h=>by cases h) .nil),hb⟩
   ·obtain⟨te,pe,hs⟩:=hw.rng;refine(Tryz.strconv_ParseInt_10_at64_range s (by omega) hp _ w hs (.inr ⟨te,pe,rfl⟩)).mono fun e w' ⟨N,he,_,_,hb⟩=>?_;exact⟨_,[i64 _,.iface 252 (.pointer (some ⟨N,0,none⟩))],he,.v rfl (.err (fun _=>⟨_,_,rfl⟩) (fun h=>by cases h) .nil),hb⟩
 ·cases h
def Yp(l:List ByteArray):Row:=.mk l.length (fun _ _=>0) (fun _ _=>false) (fun e _=>l.getD e .empty) (fun _ _=>.nil)
def CS(s p:ByteArray):List ByteArray:=Lib.splitB p 0 (Lib.countB s p) s
def aC:FD
 |[.v (.string s),.v (.string p)]=>some (decide (s.size<4294967281)&&decide (1<=p.size),[.slice [.str] (Yp (CS s p))])
 |_=>none
theorem Yw{N:Nat}{ρ:Map}{args xs:List Value}(hl:xs.length=args.length)(hx:∀x∈xs,Ce x=true)(hv:∀(i:Nat)(x c:Value),xs[i]? =some x->args[i]? =some c->V ρ N x c):args=xs:=by
 apply List.ext_getElem?;intro i;by_cases hi:i<xs.length
 ·have h1:xs[i]? =some xs[i]:=AK hi;have h2:args[i]? =some args[i]:=AK (by omega);rw[h1,h2,(hv i _ _ h1 h2).atom1_eq (hx _ (List.getElem_mem hi))]
 ·rw[List.getElem?_eq_none (by omega),List.getElem?_eq_none (by omega)]
theorem den_split:DenW Tryz.prog Wd 70 aC:=by
 intro wb hwb ds rs hF w hbw args vs mem ρ hfrom _ hl hv;unfold aC at hF;split at hF
 ·rename_i s p;simp only[A5,A6,A2,A3]at hF;obtain⟨⟨h0,h1⟩,rfl⟩:=hF;have e1:vs=[.string s,.string p]:=by
   have:Az false [D.v (.string s),D.v (.string p)] []=some ([.string s,.string p],[]):=rfl;rw[this]at hfrom;simp only[A5,A6]at hfrom;exact hfrom.1.symm
  subst e1;have e2:=Yw hl (fun x hx=>by simp only[A8,A7,or_false]at hx;rcases hx with rfl|rfl<;>rfl) hv;subst e2;have hw:=hwb.later hbw;obtain⟨m,hm⟩:=hw.len;have hlen:(CS s p).length=Lib.countB s p+1:=Lib.splitB_all p h1 0 _ s rfl;refine(Tryz.strings_Split s p m w h0 hm h1).mono fun e w' ⟨he,hw'⟩=>?_;subst hw';have hnew:(w.alloc (.cells ((CS s p).map Value.string).toArray 9)).heap[w.heap.size]? =some (.cells ((CS s p).map Value.string).toArray 9 (0,0)):=by
   show(w.heap.push _)[w.heap.size]? =_;simp
  refine⟨_,he,(Below.refl _ w).alloc (AC _) _,[.slice (some ⟨0,0,some 0⟩) (CS s p).length 0],[some (.row [.str] true (Yp (CS s p)))],fun i=>if i=0 then some ⟨w.heap.size,0,1,(CS s p).length,(CS s p).length,true,s0⟩else none,rfl,?_,?_⟩
  ·refine⟨fun id b hb=>?_,fun id hid=>?_,fun i j b hi hj=>?_⟩
   ·match id,hb with
    |0,hb=>
     simp only[List.getElem?_cons_zero,A5]at hb;subst hb;refine⟨_,AM rfl,rfl,rfl,fun _=>⟨rfl,AC _,fun _=>⟨AC _,_,_,hnew,?_⟩⟩,fun hn=>⟨(fun h=>by cases h),?_⟩,rfl⟩
     ·show 0+(CS s p).length*1<=_;simp
     ·refine .mk (fun e _=>.string ((CS s p).getD e .empty)) (fun e j k he hk=>?_) (fun e j k he hk=>?_)
      ·match j,hk with
       |0,hk=>
        have he:e<(CS s p).length:=he;show(w.alloc (.cells ((CS s p).map Value.string).toArray 9)).cell? ⟨w.heap.size,0+e*1+0,none⟩=_;rw[Lib.cell_of_heap hnew];show((CS s p).map Value.string).toArray[0+e*1+0]? =_;rw[show 0+e*1+0=e by omega];simp[he,List.getD_eq_getElem?_getD]
      ·match j,hk with
       |0,hk=>
        cases hk;exact .str
   ·match id with
    |0=>exact absurd rfl (hid _)
    |n+1=>exact AL (by omega)
   ·obtain⟨L,blk,g1,g2,_⟩:=hi;obtain⟨L',blk',g1',g2',_⟩:=hj;have a1:i=0:=by
     match i,g2 with
     |0,_=>rfl
    have a2:j=0:=by
     match j,g2' with
     |0,_=>rfl
    omega
  ·show V _ 1 (.slice (some ⟨0,0,some 0⟩) (CS s p).length 0) (.slice (some ⟨w.heap.size,0,none⟩) (Lib.countB s p+1) (Lib.countB s p+1));rw[<-hlen];exact .slice (L:=⟨w.heap.size,0,1,(CS s p).length,(CS s p).length,true,s0⟩) (by omega) (AM rfl) (by show 0+_<=(CS s p).length;omega) (AC _) (fun _=>by show _=some (Loc.adr _ 0 0);rfl) (fun _=>⟨by show 0+_<=(CS s p).length;omega,.inr rfl⟩)
 ·cases hF
theorem Dt(l:List UInt8):Ae (txt l)=l:=rfl
theorem Hq(s:ByteArray):txt (Ae s)=s:=by cases s;rfl
theorem BV(l:List UInt8):(txt l).size=l.length:=by
 show l.toArray.size=_;simp
theorem Ji(a b:List UInt8):txt a++txt b=txt (a++b):=ByteArray.mk_append_mk a b
theorem BL(s:ByteArray):s.size=(Ae s).length:=by
 unfold Ae;rw[Array.length_toList];rfl
theorem DC(s:ByteArray):s.toList=Ae s:=ByteArray.toList_eq s
theorem FT{a b:ByteArray}(h:Ae a=Ae b):a=b:=by rw[<-Hq a,<-Hq b,h]
theorem Ee(a b:ByteArray):Ae (a++b)=Ae a++Ae b:=by
 conv=>lhs;rw[<-Hq a,<-Hq b,Ji]
 exact Dt _
open Go.Lib in
theorem Du:∀(k u:Nat),u<10^(k+1)->nDigits u<=k+1
 |0,u,h=>by rw[nDigits_small (by simpa using h)];exact AC _
 |k+1,u,h=>by
  by_cases hs:u<10
  ·rw[nDigits_small hs];omega
  ·rw[nDigits_big hs];have:=Du k (u/10) (by rw[Nat.pow_succ]at h;omega);omega
open Go.Lib in
theorem ES{n:Int}(h:iR n=true):(itoa n).length<=21:=by
 obtain⟨h0,h1⟩:=iR_iff.1 h;unfold itoa;by_cases hn:n<0
 ·rw[AM hn];have:=decDigits_length n.natAbs;have h3:=Du 19 n.natAbs (by omega);simp only[List.length_cons];omega
 ·rw[AL hn];have:=decDigits_length n.toNat;have h3:=Du 19 n.toNat (by omega);omega
open Go.Lib
set_option maxRecDepth 100000
set_option maxHeartbeats 1000000 in
theorem jD(b:Nat)(w:World)(h0:w.cell? ⟨b,0,none⟩=some (.pointer none))(hsh:w.shape? b=some (68,2))(hfz:w.frozen? ⟨b,0,none⟩=false):
  Calls Tryz.prog 63 #[.pointer (some ⟨b,0,none⟩)] w fun e w'=>e=.returned (.tuple #[])∧w'=w.setCell ⟨b,0,none⟩ (.pointer (some ⟨b,0,none⟩)):=by
 obtain⟨i0,hi,his⟩:=Option.map_eq_some_iff.1 (show(Tryz.prog.info? 66).map (·.size)=some 2 by kernel_rfl)
 go_enter Tryz.func63,Tryz.ntmps63
 go_wp2
 rw[Lib.run_to_unsafe w ⟨b,0,none⟩ Tryz.underlying63 Tryz.underlying176 hi (by rw[his];decide) hsh (Nat.zero_lt_succ 1)];simp only[Result.andThen];rw[Oper.upon_value]
 go_wp2
 rw[run_callFunc_extern Tryz.func109 (by kernel_rfl) (by kernel_rfl) (by kernel_rfl) (e:=Extern.AbiNoEscape.same) (by kernel_rfl)];rw[Lib.run_noEscape];simp only[Result.andThen];rw[Oper.upon_value]
 go_wp2
 rw[Lib.run_from_unsafe w ⟨b,0,none⟩ Tryz.underlying176 Tryz.underlying63 hi hsh (by kernel_rfl)];simp only[Result.andThen];rw[Oper.upon_value]
 go_wp2
 go_end0
 exact⟨rfl,rfl⟩
set_option maxHeartbeats 1000000 in
theorem qH(B b:Nat)(bs:List Value)(w:World)(h:Lib.IsBuilderF 68 5 B b bs w):
  Calls Tryz.prog 63 #[.pointer (some ⟨b,0,none⟩)] w fun e w'=>e=.returned (.tuple #[])∧(Lib.BuilderAtF 68 5 B b (.pointer (some ⟨b,0,none⟩)) bs w'∧Below B w w'∧Lib.OthersKept 5 (some b) w w'):=by
 rcases h with h|h
 ·refine(jD b w h.cell0 h.shape h.frozen0).mono ?_;rintro e w' ⟨rfl,rfl⟩;exact⟨rfl,h.used _,(Below.refl B w).setCell (p:=⟨b,0,none⟩) h.1 _,(Lib.OthersKept.refl _ _ w).setCell ⟨b,0,none⟩ rfl _⟩
 ·refine(Any.Builder_copyCheck_used {Tryz.lays166 with} Tryz.Builder_Extra_166.toX72 b w h.cell0).mono ?_;rintro e w' ⟨rfl,rfl⟩;exact⟨rfl,h,Below.refl B _,Lib.OthersKept.refl _ _ _⟩
set_option maxHeartbeats 2000000 in
theorem FI(B b:Nat)(l:List UInt8)(s:ByteArray)(w:World)(h:Lib.IsBuilderF 68 5 B b (Lib.byteCells l) w)(hlen:l.length+s.size<=140737488355328)(hBw:B<=w.heap.size):
  Calls Tryz.prog 19 #[.pointer (some ⟨b,0,none⟩),.string s] w fun e w'=>e=.returned (.tuple #[.int .i64 s.size,.nilIface])∧Lib.IsBuilderF 68 5 B b (Lib.byteCells (l++Ae s)) w'∧Below B w w'∧Lib.OthersKept 5 (some b) w w':=by
 obtain⟨i0,hi,hz0,hz1,hz2⟩:=info_parts (show(Tryz.prog.info? 5).map (fun i=>(i.zero,i.size,i.bytes))=some (some (.int .u8 0),1,1) by kernel_rfl);have hlen':(Lib.byteCells l).length+s.size<=140737488355328:=by rw[Lib.byteCells_length];exact hlen
 go_enter Tryz.func19,Tryz.ntmps19
 go_wp2_with (first|(go_at_call 63;refine(qH B b (Lib.byteCells l) _ h).mono ?_))
 rintro e w1 ⟨rfl,h1,hb1,hk1⟩;obtain⟨hB,v,hbk,hown,hne⟩:=h1;have c0:w1.cell? ⟨b,0,none⟩=some (.pointer (some ⟨b,0,none⟩)):=by rw[Lib.cell_of_heap hbk];rfl
 have c1:w1.cell? ⟨b,1,none⟩=some v:=by rw[Lib.cell_of_heap hbk];rfl
 go_wp2_with (at_builtin;refine Lib.wpList_append_own_stringF _ rfl _ _ 64 9 rfl B 5 i0 Tryz.underlying64 Tryz.underlying9 hi hz0 hz1 hz2 _ _ _ rfl hown s rfl ?c3 ?c4 ?c5 ?_)
 case c3=>unfold maxLen;omega
 case c4=>omega
 case c5=>have:=hb1.size;omega
 intro v' w2 hown' hgrow _;have hlt:b<w1.heap.size:=by
  rcases Nat.lt_or_ge b w1.heap.size with h'|h'
  ·exact h'
  ·simp[Array.getElem?_eq_none h']at hbk
 have hb2:w2.heap[b]? =some (.cells #[.pointer (some ⟨b,0,none⟩),v] 68 (0,0)):=by
  rw[hgrow.block b hlt (fun e=>hne e.symm)];exact hbk
 have d0:w2.cell? ⟨b,0,none⟩=some (.pointer (some ⟨b,0,none⟩)):=by rw[Lib.cell_of_heap hb2];rfl
 have d1:w2.cell? ⟨b,1,none⟩=some v:=by rw[Lib.cell_of_heap hb2];rfl
 have f1:w2.frozen? ⟨b,1,none⟩=false:=Lib.frozen_of_heap hb2 1;obtain⟨ao,n',cap,rfl⟩:∃ao n' cap,v'=.slice ao n' cap:=by
  rcases hown'.2 with⟨hv,_⟩|⟨g,cap,cur,fz,hv,_⟩
  ·exact⟨_,_,_,hv⟩
  ·exact⟨_,_,_,hv⟩
 go_wp2
 go_ret2
 refine⟨rfl,.inr ?_,?_,(hk1.grown hgrow (Lib.ownsRowF_kind hown)).setCell ⟨b,1,none⟩ rfl _⟩
 ·have hs:Lib.byteCells (l++Ae s)=Lib.byteCells l++Lib.strCells s:=Lib.byteCells_append _ _;rw[hs];exact Lib.BuilderAtF.put (T:=68) (e:=5) hB hb2 (bs':=Lib.byteCells l++Lib.strCells s) (by simpa [Lib.strCells_length]using hown') (by decide)
 ·exact(hb1.grown hgrow (by have:=hb1.size;omega) (fun k hk=>(hown.lt k hk).1)).setCell (p:=⟨b,1,none⟩) hB _
set_option maxHeartbeats 1000000 in
theorem Rq(B b:Nat)(l:List UInt8)(w:World)(h:Lib.IsBuilderF 68 5 B b (Lib.byteCells l) w):
  Calls Tryz.prog 23 #[.pointer (some ⟨b,0,none⟩)] w fun e w'=>e=.returned (.int .i64 l.length)∧w'=w:=by
 obtain⟨p,hB,v,hbk,hown,hne⟩:∃p,Lib.BuilderAtF 68 5 B b p (Lib.byteCells l) w:=by
  rcases h with h|h
  ·exact⟨_,h⟩
  ·exact⟨_,h⟩
 rw[Lib.byteCells_length]at hown;obtain⟨ao,cap,rfl⟩:∃ao cap,v=.slice ao l.length cap:=by
  rcases hown.2 with⟨hv,h0⟩|⟨g,cap,cur,fz,hv,_⟩
  ·exact⟨none,0,by rw[hv,h0]⟩
  ·exact⟨_,_,hv⟩
 have c1:w.cell? ⟨b,1,none⟩=some (.slice ao l.length cap):=by rw[Lib.cell_of_heap hbk];rfl
 go_enter Tryz.func23,Tryz.ntmps23
 go_wp2
 go_ret
 exact⟨rfl,rfl⟩
set_option maxHeartbeats 1000000 in
theorem NH(B b:Nat)(l:List UInt8)(w:World)(h:Lib.IsBuilderF 68 5 B b (Lib.byteCells l) w)(h0:l≠[]):
  Calls Tryz.prog 24 #[.pointer (some ⟨b,0,none⟩)] w fun e w'=>e=.returned (.string (txt l))∧Below B w w':=by
 obtain⟨p,hB,v,hbk,hown,hne⟩:∃p,Lib.BuilderAtF 68 5 B b p (Lib.byteCells l) w:=by
  rcases h with h|h
  ·exact⟨_,h⟩
  ·exact⟨_,h⟩
 have hl0:l.length≠0:=by simpa using h0
 rw[Lib.byteCells_length]at hown;obtain⟨g,cap,cur,fz,rfl,hbg,hg,hfz,hnc,hcm,hcs,htake⟩:∃g cap cur fz,v=.slice (some ⟨g,0,none⟩) l.length cap∧B<=g∧w.heap[g]? =some (.cells cur 5 fz)∧fz.2<=l.length*1∧l.length<=cap∧cap<=maxLen∧cur.size=cap*1∧cur.toList.take (l.length*1)=Lib.byteCells l:=by
  rcases hown.2 with⟨_,hz⟩|⟨g,cap,cur,fz,hv,r⟩
  ·exact absurd hz hl0
  ·exact⟨g,cap,cur,fz,hv,r⟩
 have c1:w.drew.cell? ⟨b,1,none⟩=some (.slice (some ⟨g,0,none⟩) l.length cap):=by
  have:w.drew.heap[b]? =some (.cells #[p,.slice (some ⟨g,0,none⟩) l.length cap] 68 (0,0)):=hbk;rw[Lib.cell_of_heap this];rfl
 have hSD:(Builtin.unsafeSliceData_ #[64] 127 #[.slice (some ⟨g,0,none⟩) l.length cap]).run Tryz.prog w.drew=.ok (.pointer (some ⟨g,0,none⟩)) w.drew:=
  Lib.run_unsafeSliceData_row _ _ _ _ _ _ (by omega)
 have hUS:(Builtin.unsafeString_ #[127,3] 9 #[.pointer (some ⟨g,0,none⟩),.int .i64 l.length]).run Tryz.prog w.drew=.ok (.string ⟨l.toArray⟩) (w.drew.freeze ⟨g,0,none⟩ l.length):=by
  refine Lib.run_unsafeString_row w.drew 127 3 9 5 Tryz.underlying127 (by kernel_rfl) g cur.size (by have hg':w.drew.heap[g]? =some (.cells cur 5 fz):=hg;simp[World.shape?,hg']) l h0 (by omega) (by unfold maxLen at hcm;omega) ?_;intro j x hx;exact hown.cells (g:=g) rfl j (.int .u8 x.toNat) (by simp[Lib.byteCells,hx])
 have mx:Tryz.prog.follows .mixedOrders=true:=mixed
 go_enter Tryz.func24,Tryz.ntmps24
 go_wp2
 go_region_o
 all_goals (go_wp2;go_ret;exact⟨rfl,Lib.below_freeze (Below.drew (Below.refl B w)) (p:=⟨g,0,none⟩) hbg _⟩)
end Go.Proofs.YtnljjjghpgdmoaaGreatDoor
namespace Go.Proofs.YtnljjjghpgdmoaaGreatDoor.Rt
open Go.Ev
set_option maxRecDepth 100000
def u64(n:Int):Value:=.int .u64 n
def uR(n:Int):Bool:=decide (0<=n)&&decide (n<18446744073709551616)
theorem Hw{n:Int}:uR n=true↔0<=n∧n<18446744073709551616:=by simp[uR]
def iR(n:Int):Bool:=decide (-9223372036854775808<=n)&&decide (n<9223372036854775808)
theorem iR_iff{n:Int}:iR n=true↔-9223372036854775808<=n∧n<9223372036854775808:=by simp[iR]
theorem I8(n:Int):IntKind.u64.wrap n=n%18446744073709551616:=by
 simp[IntKind.wrap,IntKind.signed,IntKind.bits]
theorem wR(n:Int):IntKind.i64.wrap n=(n+9223372036854775808)%18446744073709551616-9223372036854775808:=by
 simp only[IntKind.wrap,IntKind.signed,IntKind.bits]
 first|omega|(simp;omega)
theorem BA{n:Int}(h0:0<=n)(h1:n<18446744073709551616):IntKind.u64.wrap n=n:=by rw[I8];omega
theorem VN(a:Int)(h0:0<=a)(h1:a<18446744073709551616):IntKind.u64.wrap ((BitVec.ofInt 64 a&&&BitVec.ofInt 64 4294967295).toNat:Int)=a%4294967296:=by
 obtain⟨n,rfl⟩:∃n:Nat,a=n:=⟨a.toNat,by omega⟩;have hn:n<2^64:=by omega
 rw[BitVec.toNat_and,BitVec.ofInt_natCast,BitVec.toNat_ofNat,Nat.mod_eq_of_lt hn,show(BitVec.ofInt 64 4294967295).toNat=2^32-1 from rfl,Nat.and_two_pow_sub_one_eq_mod];rw[BA (by omega) (by omega)];omega
theorem PY(a:Int)(h0:0<=a):a.fdiv (2^32)=a/4294967296:=by
 rw[Int.fdiv_eq_ediv_of_nonneg _ (by decide)];rfl
theorem orN(k m:Nat)(hm:m<4294967296):k*4294967296|||m=k*4294967296+m:=by
 have p:(2:Nat)^32=4294967296:=by decide
 have e:k*4294967296=k<<<32:=by rw[Nat.shiftLeft_eq,p]
 rw[e,<-Nat.shiftLeft_add_eq_or_of_lt (by rw[p];exact hm)]
theorem orM(a b:Int)(h0:0<=a)(h1:a<18446744073709551616)(h2:a%4294967296=0)(h3:0<=b)(h4:b<4294967296):IntKind.u64.wrap ((BitVec.ofInt 64 a|||BitVec.ofInt 64 b).toNat:Int)=a+b:=by
 obtain⟨k,rfl⟩:∃k:Nat,a=((k*4294967296:Nat):Int):=⟨(a/4294967296).toNat,by omega⟩;obtain⟨m,rfl⟩:∃m:Nat,b=m:=⟨b.toNat,by omega⟩;have ea:(BitVec.ofInt 64 ((k*4294967296:Nat):Int)).toNat=k*4294967296:=by
  rw[BitVec.ofInt_natCast,BitVec.toNat_ofNat];exact Nat.mod_eq_of_lt (by omega)
 have eb:(BitVec.ofInt 64 (m:Int)).toNat=m:=by
  rw[BitVec.ofInt_natCast,BitVec.toNat_ofNat];exact Nat.mod_eq_of_lt (by omega)
 have hm:m<4294967296:=by omega
 rw[BitVec.toNat_or,ea,eb,orN k m hm];clear ea eb;generalize hw:k*4294967296=w at*
 rw[BA (n:=((w+m:Nat):Int)) (Int.natCast_nonneg _) (by omega)];exact Int.natCast_add _ _
def Ic(a b:Int):Int:=(Nat.gcd a.toNat b.toNat:Nat)
theorem Yv(a:Int)(h:0<=a):Ic a 0=a:=by
 unfold Ic;rw[show(0:Int).toNat=0 from rfl,Nat.gcd_zero_right];omega
theorem Yg(a b:Int)(ha:0<=a)(hb:0<b):Ic a b=Ic b (a.tmod b):=by
 unfold Ic;have e:(a.tmod b).toNat=a.toNat%b.toNat:=by
  rw[Int.tmod_eq_emod_of_nonneg ha];obtain⟨n,rfl⟩:∃n:Nat,a=n:=⟨a.toNat,by omega⟩;obtain⟨m,rfl⟩:∃m:Nat,b=m:=⟨b.toNat,by omega⟩;rw[<-Int.natCast_emod];rfl
 rw[e,Nat.gcd_comm b.toNat,Nat.gcd_comm a.toNat,Nat.gcd_rec]
def Bh(n:Int):Int:=if n<0 then-n else n
theorem QB(x y:Int)(hx:0<=x)(hx1:x<18446744073709551616)(hy:0<=y)(hy1:y<18446744073709551616):
  ∃p00 p01 p10 p11:Int,p00=(x%4294967296)*(y%4294967296)∧p01=(x%4294967296)*(y/4294967296)∧p10=(x/4294967296)*(y%4294967296)∧p11=(x/4294967296)*(y/4294967296)∧
   (0<=p00∧p00<=18446744065119617025)∧(0<=p01∧p01<=18446744065119617025)∧(0<=p10∧p10<=18446744065119617025)∧(0<=p11∧p11<=18446744065119617025)∧x*y=p11*18446744073709551616+(p10+p01)*4294967296+p00:=by
 have b:∀u v:Int,0<=u->u<=4294967295->0<=v->v<=4294967295->0<=u*v∧u*v<=18446744065119617025:=fun u v h1 h2 h3 h4=>⟨Int.mul_nonneg h1 h3,by
  have:=Int.mul_le_mul h2 h4 h3 (by decide);omega⟩
 refine⟨_,_,_,_,rfl,rfl,rfl,rfl,b _ _ (by omega) (by omega) (by omega) (by omega),b _ _ (by omega) (by omega) (by omega) (by omega),b _ _ (by omega) (by omega) (by omega) (by omega),b _ _ (by omega) (by omega) (by omega) (by omega),?_⟩;have ex:x=(x/4294967296)*4294967296+x%4294967296:=by omega
 have ey:y=(y/4294967296)*4294967296+y%4294967296:=by omega
 generalize x/4294967296=x1 at*
 generalize x%4294967296=x0 at*
 generalize y/4294967296=y1 at*
 generalize y%4294967296=y0 at*
 rw[ex,ey,Int.add_mul,Int.mul_add,Int.mul_add];have h1:x1*4294967296*(y1*4294967296)=x1*y1*18446744073709551616:=by
  rw[Int.mul_assoc,Int.mul_comm 4294967296,Int.mul_assoc y1,<-Int.mul_assoc];rfl
 have h2:x1*4294967296*y0=x1*y0*4294967296:=by rw[Int.mul_assoc,Int.mul_comm 4294967296,<-Int.mul_assoc]
 have h3:x0*(y1*4294967296)=x0*y1*4294967296:=by rw[<-Int.mul_assoc]
 rw[h1,h2,h3,Int.add_mul];omega
noncomputable def C0:Cx:=AU Tryz.prog fns [] []
theorem JP:Bi C0:=Aq enter mixed (fun p h=>by cases h) (fun l h=>by cases h)
theorem Ajd(n:Int):BZ C0 6 123 [.v (i64 n)]=br (n<0) (some [.v (.int .u64 (IntKind.u64.wrap (0-IntKind.u64.wrap n)))]) (some [.v (.int .u64 (IntKind.u64.wrap n))]):=by kernel_rfl
theorem tabs(n:Int):BZ C0 6 137 [.v (i64 n)]=br (n<0) (some [.v (.int .u64 (IntKind.u64.wrap (IntKind.u64.wrap (IntKind.i64.wrap (0-IntKind.i64.wrap (n+1)))+1)))]) (some [.v (.int .u64 (IntKind.u64.wrap n))]):=by kernel_rfl
theorem Akq(x y:Int):BZ C0 6 162 [.v (u64 x),.v (u64 y)]=some [.v (.int .u64 (IntKind.u64.wrap (IntKind.u64.wrap (IntKind.u64.wrap (x.fdiv (2^32)*y.fdiv (2^32))+(IntKind.u64.wrap (IntKind.u64.wrap (x.fdiv (2^32)*IntKind.u64.wrap (↑(BitVec.ofInt 64 y&&&BitVec.ofInt 64 4294967295).toNat:Int))+(IntKind.u64.wrap (IntKind.u64.wrap (↑(BitVec.ofInt 64 x&&&BitVec.ofInt 64 4294967295).toNat:Int)*IntKind.u64.wrap (↑(BitVec.ofInt 64 y&&&BitVec.ofInt 64 4294967295).toNat:Int))).fdiv (2^32))).fdiv (2^32))+(IntKind.u64.wrap (IntKind.u64.wrap (↑(BitVec.ofInt 64 (IntKind.u64.wrap (IntKind.u64.wrap (x.fdiv (2^32)*IntKind.u64.wrap (↑(BitVec.ofInt 64 y&&&BitVec.ofInt 64 4294967295).toNat:Int))+(IntKind.u64.wrap (IntKind.u64.wrap (↑(BitVec.ofInt 64 x&&&BitVec.ofInt 64 4294967295).toNat:Int)*IntKind.u64.wrap (↑(BitVec.ofInt 64 y&&&BitVec.ofInt 64 4294967295).toNat:Int))).fdiv (2^32)))&&&BitVec.ofInt 64 4294967295).toNat:Int)+IntKind.u64.wrap (IntKind.u64.wrap (↑(BitVec.ofInt 64 x&&&BitVec.ofInt 64 4294967295).toNat:Int)*y.fdiv (2^32)))).fdiv (2^32)))),.v (.int .u64 (IntKind.u64.wrap (x*y)))]:=by kernel_rfl
theorem Agu(x y:Int):BZ C0 6 170 [.v (u64 x),.v (u64 y)]=some [.agg [.v (.int .u64 (IntKind.u64.wrap (IntKind.u64.wrap (IntKind.u64.wrap (x.fdiv (2^32)*y.fdiv (2^32))+(IntKind.u64.wrap (x.fdiv (2^32)*IntKind.u64.wrap (↑(BitVec.ofInt 64 y&&&BitVec.ofInt 64 4294967295).toNat:Int))).fdiv (2^32))+(IntKind.u64.wrap (IntKind.u64.wrap (IntKind.u64.wrap (↑(BitVec.ofInt 64 (IntKind.u64.wrap (x.fdiv (2^32)*IntKind.u64.wrap (↑(BitVec.ofInt 64 y&&&BitVec.ofInt 64 4294967295).toNat:Int)))&&&BitVec.ofInt 64 4294967295).toNat:Int)+IntKind.u64.wrap (IntKind.u64.wrap (↑(BitVec.ofInt 64 x&&&BitVec.ofInt 64 4294967295).toNat:Int)*y.fdiv (2^32)))+(IntKind.u64.wrap (IntKind.u64.wrap (↑(BitVec.ofInt 64 x&&&BitVec.ofInt 64 4294967295).toNat:Int)*IntKind.u64.wrap (↑(BitVec.ofInt 64 y&&&BitVec.ofInt 64 4294967295).toNat:Int))).fdiv (2^32))).fdiv (2^32)))),.v (.int .u64 (IntKind.u64.wrap (↑(BitVec.ofInt 64 (IntKind.u64.wrap (IntKind.u64.wrap (IntKind.u64.wrap (IntKind.u64.wrap (↑(BitVec.ofInt 64 (IntKind.u64.wrap (x.fdiv (2^32)*IntKind.u64.wrap (↑(BitVec.ofInt 64 y&&&BitVec.ofInt 64 4294967295).toNat:Int)))&&&BitVec.ofInt 64 4294967295).toNat:Int)+IntKind.u64.wrap (IntKind.u64.wrap (↑(BitVec.ofInt 64 x&&&BitVec.ofInt 64 4294967295).toNat:Int)*y.fdiv (2^32)))+(IntKind.u64.wrap (IntKind.u64.wrap (↑(BitVec.ofInt 64 x&&&BitVec.ofInt 64 4294967295).toNat:Int)*IntKind.u64.wrap (↑(BitVec.ofInt 64 y&&&BitVec.ofInt 64 4294967295).toNat:Int))).fdiv (2^32))*2^32))|||BitVec.ofInt 64 (IntKind.u64.wrap (↑(BitVec.ofInt 64 (IntKind.u64.wrap (IntKind.u64.wrap (↑(BitVec.ofInt 64 x&&&BitVec.ofInt 64 4294967295).toNat:Int)*IntKind.u64.wrap (↑(BitVec.ofInt 64 y&&&BitVec.ofInt 64 4294967295).toNat:Int)))&&&BitVec.ofInt 64 4294967295).toNat:Int))).toNat:Int)))]]:=by kernel_rfl
def Sg(a b:Int):St:=⟨[.int .u64 a,.int .u64 b]++us 10,[[]],[]⟩
def Sgx(a:Int):St:=⟨[.int .u64 a]++us 11,[[]],[]⟩
def Gg:List It->(X->St->OD)->OD
 |[.i a,.i b],k=>br (decide (0<=a)&&decide (0<=b)&&decide (b<18446744073709551616)) (k (.exit 0) (Sgx (Ic a b))) none
 |_,_=>none
def lg(f:FuncId):LoopC where
 f:=f
 id:=1
 lv:=[0,1]
 lx:=[0,4]
 p:={τ:=[.v (.int .u64),.v (.int .u64)]++pu 10,saved:=[[]],mem:=[]}
 G:=Gg
noncomputable def Cg:Cx:=AU Tryz.prog fns [] [lg 124,lg 136]
theorem Abb(q:Nat)(R:St->OD)(K:X->St->OD)(a b:Int):Au Cg 124 true (inl Cg (q+4)) (Bc Cg.P 124 1) (Sg a b) (BI [0,1] (some [0,4]) R K)=br (b>0) (br (b=0) none (R (Sg b (a.tmod b)))) (K (.exit 0) (Sgx a)):=by kernel_rfl
theorem Aer(q:Nat)(R:St->OD)(K:X->St->OD)(a b:Int):Au Cg 136 true (inl Cg (q+4)) (Bc Cg.P 136 1) (Sg a b) (BI [0,1] (some [0,4]) R K)=br (b !=0) (br (b=0) none (R (Sg b (a.tmod b)))) (K (.exit 0) (Sgx a)):=by kernel_rfl
theorem W9{f:St->(X->St->OD)->OD}(hr:∀a b R K,0<=b->f (Sg a b) (BI [0,1] (some [0,4]) R K)=if b=0 then K (.exit 0) (Sgx a)else R (Sg b (a.tmod b)))(K:X->St->OD):
  ∀(n:Nat)(a b:Int),0<=a->0<=b->b<n->rounds [0,1] (some [0,4]) f n (Sg a b) K=K (.exit 0) (Sgx (Ic a b))
 |0,a,b,_,h1,h2=>by omega
 |n+1,a,b,h0,h1,h2=>by
  rw[Df,hr _ _ _ _ h1];by_cases hb:b=0
  ·rw[AM hb,hb,Yv a h0]
  ·rw[AL hb,Yg a b h0 (by omega)];have h3:0<=a.tmod b:=Int.tmod_nonneg _ h0;have h4:a.tmod b<b:=Int.tmod_lt_of_pos _ (by omega);exact W9 hr K n b (a.tmod b) h1 h3 (by omega)
theorem Aic:Ai Cg (lg 124):=⟨by kernel_rfl,fun q its k rr h=>by
 show rounds [0,1] (some [0,4]) (Au Cg 124 true (inl Cg (q+4)) (Bc Cg.P 124 1)) 18446744073709551616 (bst (lg 124).p its) k=some rr;change Gg its k=some rr at h;unfold Gg at h;split at h
 ·rename_i a b;rcases CO h with⟨h1,h2⟩|⟨_,h2⟩
  ·simp only[A2,A3]at h1;rw[<-h2];exact W9 (fun a b R K hb=>by
    rw[Abb];by_cases h0:b=0
    ·rw[AM h0,show decide (b>0)=false from AB (by omega)];rfl
    ·rw[AL h0,show decide (b>0)=true from A4 (by omega),AB h0];rfl) k 18446744073709551616 a b h1.1.1 h1.1.2 (by have:=h1.2;exact this)
  ·cases h2
 ·cases h⟩
theorem Aj9:Ai Cg (lg 136):=⟨by kernel_rfl,fun q its k rr h=>by
 show rounds [0,1] (some [0,4]) (Au Cg 136 true (inl Cg (q+4)) (Bc Cg.P 136 1)) 18446744073709551616 (bst (lg 136).p its) k=some rr;change Gg its k=some rr at h;unfold Gg at h;split at h
 ·rename_i a b;rcases CO h with⟨h1,h2⟩|⟨_,h2⟩
  ·simp only[A2,A3]at h1;rw[<-h2];exact W9 (fun a b R K hb=>by
    rw[Aer];by_cases h0:b=0
    ·rw[AM h0,show(b !=0)=false by simpa using h0];rfl
    ·rw[AL h0,show(b !=0)=true by simpa using h0,AB h0];rfl) k 18446744073709551616 a b h1.1.1 h1.1.2 (by have:=h1.2;exact this)
  ·cases h2
 ·cases h⟩
theorem Aaf:Bi Cg:=Aq enter mixed (fun p h=>by cases h) (fun l h=>by
 simp only[A8,A7,or_false]at h;rcases h with rfl|rfl
 ·exact Aic
 ·exact Aj9)
def Rz:FD
 |[.v (.int .u64 a),.v (.int .u64 b)]=>some (uR a&&uR b,[.v (u64 (Ic a b))])
 |_=>none
theorem tg(a b:Int):BZ Cg 6 124 [.v (u64 a),.v (u64 b)]=br (0<=a&&0<=b&&b<18446744073709551616) (some [.v (u64 (Ic a b))]) none:=by kernel_rfl
theorem th(a b:Int):BZ Cg 6 136 [.v (u64 a),.v (u64 b)]=br (0<=a&&0<=b&&b<18446744073709551616) (some [.v (u64 (Ic a b))]) none:=by kernel_rfl
theorem Ry:Den Tryz.prog 124 Rz:=Ag Aaf fun ds rs h=>by
 unfold Rz at h;split at h
 ·rename_i a b;simp only[A5,A6,A2,Hw]at h;obtain⟨⟨h1,h2⟩,rfl⟩:=h;refine(tg a b).trans ?_;rw[show(decide (0<=a)&&decide (0<=b)&&decide (b<18446744073709551616))=true by simp only[A2,A3];omega];rfl
 ·cases h
theorem U2:Den Tryz.prog 136 Rz:=Ag Aaf fun ds rs h=>by
 unfold Rz at h;split at h
 ·rename_i a b;simp only[A5,A6,A2,Hw]at h;obtain⟨⟨h1,h2⟩,rfl⟩:=h;refine(th a b).trans ?_;rw[show(decide (0<=a)&&decide (0<=b)&&decide (b<18446744073709551616))=true by simp only[A2,A3];omega];rfl
 ·cases h
def Ju:FD
 |[.v (.int .i64 n)]=>some (iR n,[.v (u64 (Bh n))])
 |_=>none
theorem Pg:Den Tryz.prog 123 Ju:=Ag JP fun ds rs h=>by
 unfold Ju at h;split at h
 ·rename_i n;simp only[A5,A6,iR_iff]at h;obtain⟨h1,rfl⟩:=h;refine(Ajd n).trans ?_;unfold Bh;by_cases hn:n<0
  ·rw[AM hn,A4 hn,show IntKind.u64.wrap (0-IntKind.u64.wrap n)= -n by simp only[I8];omega];rfl
  ·rw[AL hn,AB hn,show IntKind.u64.wrap n=n by simp only[I8];omega];rfl
 ·cases h
theorem Rn:Den Tryz.prog 137 Ju:=Ag JP fun ds rs h=>by
 unfold Ju at h;split at h
 ·rename_i n;simp only[A5,A6,iR_iff]at h;obtain⟨h1,rfl⟩:=h;refine(tabs n).trans ?_;unfold Bh;by_cases hn:n<0
  ·rw[AM hn,A4 hn,show IntKind.u64.wrap (IntKind.u64.wrap (IntKind.i64.wrap (0-IntKind.i64.wrap (n+1)))+1)= -n by simp only[I8,wR];omega];rfl
  ·rw[AL hn,AB hn,show IntKind.u64.wrap n=n by simp only[I8];omega];rfl
 ·cases h
def Aez:FD
 |[.v (.int .u64 x),.v (.int .u64 y)]=>some (uR x&&uR y,[.v (u64 (x*y/18446744073709551616)),.v (u64 (x*y%18446744073709551616))])
 |_=>none
def WH:FD
 |[.v (.int .u64 x),.v (.int .u64 y)]=>some (uR x&&uR y,[.agg [.v (u64 (x*y/18446744073709551616)),.v (u64 (x*y%18446744073709551616))]])
 |_=>none
theorem rZ:Den Tryz.prog 162 Aez:=Ag JP fun ds rs h=>by
 unfold Aez at h;split at h
 ·rename_i x y;simp only[A5,A6,A2,Hw]at h;obtain⟨⟨⟨x0,x1⟩,y0,y1⟩,rfl⟩:=h;refine(Akq x y).trans ?_;rw[VN x x0 x1,VN y y0 y1,PY x x0,PY y y0];obtain⟨p00,p01,p10,p11,h00,h01,h10,h11,b00,b01,b10,b11,hxy⟩:=QB x y x0 x1 y0 y1;rw[<-h00,<-h01,<-h10,<-h11,hxy];clear h00 h01 h10 h11 hxy;rw[BA (n:=p00) (by omega) (by omega),BA (n:=p01) (by omega) (by omega),BA (n:=p10) (by omega) (by omega),BA (n:=p11) (by omega) (by omega),PY p00 (by omega),
   BA (n:=p10+p00/4294967296) (by omega) (by omega),VN (p10+p00/4294967296) (by omega) (by omega),PY (p10+p00/4294967296) (by omega)]
  rw[BA (n:=(p10+p00/4294967296)%4294967296+p01) (by omega) (by omega),PY ((p10+p00/4294967296)%4294967296+p01) (by omega),I8,I8,I8];refine congrArg some ?_
  congr 1
  ·refine congrArg (fun n=>D.v (u64 n)) ?_;omega
 ·cases h
theorem YV:Den Tryz.prog 170 WH:=Ag JP fun ds rs h=>by
 unfold WH at h;split at h
 ·rename_i x y;simp only[A5,A6,A2,Hw]at h;obtain⟨⟨⟨x0,x1⟩,y0,y1⟩,rfl⟩:=h;refine(Agu x y).trans ?_;rw[VN x x0 x1,VN y y0 y1,PY x x0,PY y y0];obtain⟨p00,p01,p10,p11,h00,h01,h10,h11,b00,b01,b10,b11,hxy⟩:=QB x y x0 x1 y0 y1;rw[<-h00,<-h01,<-h10,<-h11,hxy];clear h00 h01 h10 h11 hxy;rw[BA (n:=p00) (by omega) (by omega),BA (n:=p01) (by omega) (by omega),BA (n:=p10) (by omega) (by omega),BA (n:=p11) (by omega) (by omega),PY p00 (by omega),PY p10 (by omega),
   VN p10 (by omega) (by omega),VN p00 (by omega) (by omega),BA (n:=p10%4294967296+p01) (by omega) (by omega),BA (n:=p10%4294967296+p01+p00/4294967296) (by omega) (by omega),
   PY (p10%4294967296+p01+p00/4294967296) (by omega)]
  rw[I8 ((p10%4294967296+p01+p00/4294967296)*2^32),show((2:Int)^32)=4294967296 from rfl,orM _ _ (by omega) (by omega) (by omega) (by omega) (by omega),I8,I8];refine congrArg some ?_;refine congrArg (fun x=>[x]) ?_;refine congrArg D.agg ?_
  congr 1
  ·refine congrArg (fun n=>D.v (u64 n)) ?_;omega
  ·refine congrArg (fun n=>[D.v (u64 n)]) ?_;omega
 ·cases h
def goodR(n d:Int):Prop:=(1<=d∧d<=1000000000000000000)∧(-1000000000000000000<=n∧n<=1000000000000000000)∧Ic (Bh n) d=1
instance{n d:Int}:Decidable (goodR n d):=by unfold goodR;infer_instance
def chkE(n d:Int):Int:=if goodR n d then 0 else 8
theorem eY(a b:Int)(ha:0<=a)(hb:0<b):0<Ic a b:=by
 unfold Ic;have:0<Nat.gcd a.toNat b.toNat:=Nat.gcd_pos_of_pos_right _ (by omega);omega
def Fchk:FD
 |[.agg [.v (.int .i64 n),.v (.int .i64 d)]]=>some (iR n&&iR d,[.v (i64 (chkE n d))])
 |_=>none
noncomputable def C1:Cx:=AU Tryz.prog fns [(124,Rz),(136,Rz),(123,Ju),(137,Ju)] []
theorem XN:Bi C1:=Aq enter mixed (fun p h=>by
 simp only[A8,A7,or_false]at h;rcases h with rfl|rfl|rfl|rfl
 ·exact Ry
 ·exact U2
 ·exact Pg
 ·exact Rn) (fun l h=>by cases h)
theorem Akt(n d:Int):BZ C1 6 79 [.agg [.v (i64 n),.v (i64 d)]]=br (d<1) (some [.v (i64 8)]) (br (iR n) (br ((if IntKind.u64.wrap d>Bh n then IntKind.u64.wrap d else Bh n)>1000000000000000000) (some [.v (i64 8)]) (br (iR n) (br (uR (Bh n)&&uR (IntKind.u64.wrap d)) (br (Ic (Bh n) (IntKind.u64.wrap d)>1) (some [.v (i64 8)]) (some [.v (i64 0)])) none) none)) none):=by kernel_rfl
theorem Ahg(n d:Int):BZ C1 6 96 [.agg [.v (i64 n),.v (i64 d)]]=br (d<1) (some [.v (i64 8)]) (br (d>1000000000000000000) (some [.v (i64 8)]) (br (n< -1000000000000000000) (some [.v (i64 8)]) (br (n>1000000000000000000) (some [.v (i64 8)]) (br (iR n) (br (uR (Bh n)&&uR (IntKind.u64.wrap d)) (br (Ic (Bh n) (IntKind.u64.wrap d) !=1) (some [.v (i64 8)]) (some [.v (i64 0)])) none) none)))):=by kernel_rfl
theorem EQ{n:Int}(h0: -9223372036854775808<=n)(h1:n<9223372036854775808):IntKind.i64.wrap n=n:=by rw[wR];omega
theorem NM(n:Int):0<=Bh n∧(Bh n=n∨Bh n= -n):=by unfold Bh;split<;>omega
theorem den_chk:Den Tryz.prog 79 Fchk:=Ag XN fun ds rs h=>by
 unfold Fchk at h;split at h
 ·rename_i n d;simp only[A5,A6,A2]at h;obtain⟨⟨h1,h2⟩,rfl⟩:=h;refine(Akt n d).trans ?_;have⟨h3,h4⟩:=iR_iff.mp h1;have⟨h5,h6⟩:=iR_iff.mp h2;have⟨a1,a0⟩:=NM n;unfold chkE;by_cases hd:d<1
  ·rw[A4 hd,Aa,AL (fun hg=>by have:=hg.1.1;omega)]
  ·rw[AB hd,h1,BA (n:=d) (by omega) (by omega),Ac,Aa];by_cases hm:(if d>Bh n then d else Bh n)>1000000000000000000
   ·rw[A4 hm,Aa,AL (fun hg=>by have:=hg.1;have:=hg.2.1;split at hm<;>omega)]
   ·have hm':d<=1000000000000000000∧Bh n<=1000000000000000000:=by split at hm<;>omega
    rw[AB hm,Ac,Aa,show(uR (Bh n)&&uR d)=true by simp only[A2,Hw];omega,Aa];have hp:=eY (Bh n) d a1 (by omega);by_cases hg:Ic (Bh n) d>1
    ·rw[A4 hg,Aa,AL (fun h=>by have:=h.2.2;omega)]
    ·rw[AB hg,Ac,AM ⟨by omega,by omega,by omega⟩]
 ·cases h
theorem den_chkr:Den Tryz.prog 96 Fchk:=Ag XN fun ds rs h=>by
 unfold Fchk at h;split at h
 ·rename_i n d;simp only[A5,A6,A2]at h;obtain⟨⟨h1,h2⟩,rfl⟩:=h;refine(Ahg n d).trans ?_;have⟨h3,h4⟩:=iR_iff.mp h1;have⟨h5,h6⟩:=iR_iff.mp h2;have⟨a1,a0⟩:=NM n;unfold chkE;by_cases hd:d<1
  ·rw[A4 hd,Aa,AL (fun hg=>by have:=hg.1.1;omega)]
  ·rw[AB hd,Ac];by_cases e1:d>1000000000000000000
   ·rw[A4 e1,Aa,AL (fun hg=>by have:=hg.1.2;omega)]
   ·rw[AB e1,Ac];by_cases e2:n< -1000000000000000000
    ·rw[A4 e2,Aa,AL (fun hg=>by have:=hg.2.1.1;omega)]
    ·rw[AB e2,Ac];by_cases e3:n>1000000000000000000
     ·rw[A4 e3,Aa,AL (fun hg=>by have:=hg.2.1.2;omega)]
     ·rw[AB e3,Ac,h1,BA (n:=d) (by omega) (by omega),Aa,show(uR (Bh n)&&uR d)=true by simp only[A2,Hw];omega,Aa];by_cases hg:Ic (Bh n) d=1
      ·rw[show(Ic (Bh n) d !=1)=false by simpa using hg,Ac,AM ⟨by omega,by omega,hg⟩]
      ·rw[show(Ic (Bh n) d !=1)=true by simpa using hg,Aa,AL (fun h=>hg h.2.2)]
 ·cases h
noncomputable def C2:Cx:=AU Tryz.prog fns [(124,Rz),(136,Rz),(123,Ju),(137,Ju),(79,Fchk),(96,Fchk)] []
theorem WN:Bi C2:=Aq enter mixed (fun p h=>by
 simp only[A8,A7,or_false]at h;rcases h with rfl|rfl|rfl|rfl|rfl|rfl
 ·exact Ry
 ·exact U2
 ·exact Pg
 ·exact Rn
 ·exact den_chk
 ·exact den_chkr) (fun l h=>by cases h)
theorem Ajr(n d m e:Int):BZ C2 6 169 [.agg [.v (i64 n),.v (i64 d)],.agg [.v (i64 m),.v (i64 e)]]=br (iR n&&iR d) (br (chkE n d !=0) (br (iR n&&iR d) (some [.v (i64 (chkE n d))]) none) (br (iR m&&iR e) (some [.v (i64 (chkE m e))]) none)) (none):=by kernel_rfl
theorem VK(n d m e:Int):BZ C2 6 160 [.agg [.v (i64 n),.v (i64 d)],.agg [.v (i64 m),.v (i64 e)]]=br (iR n&&iR d) (br (iR m&&iR e) (br ((((Row.zeros 2).setI 0 0 (chkE n d)).setI 1 0 (chkE m e)).I 0 0 !=0) (some [.v (i64 ((((Row.zeros 2).setI 0 0 (chkE n d)).setI 1 0 (chkE m e)).I 0 0))]) (br ((((Row.zeros 2).setI 0 0 (chkE n d)).setI 1 0 (chkE m e)).I 1 0 !=0) (some [.v (i64 ((((Row.zeros 2).setI 0 0 (chkE n d)).setI 1 0 (chkE m e)).I 1 0))]) (some [.v (i64 0)]))) none) (none):=by kernel_rfl
def chk2(n d m e:Int):Int:=if chkE n d=0 then chkE m e else chkE n d
def Qy:FD
 |[.agg [.v (.int .i64 n),.v (.int .i64 d)],.agg [.v (.int .i64 m),.v (.int .i64 e)]]=>some (iR n&&iR d&&iR m&&iR e,[.v (i64 (chk2 n d m e))])
 |_=>none
theorem eU:Den Tryz.prog 169 Qy:=Ag WN fun ds rs h=>by
 unfold Qy at h;split at h
 ·rename_i n d m e;simp only[A5,A6,A2]at h;obtain⟨⟨⟨⟨h1,h2⟩,h3⟩,h4⟩,rfl⟩:=h;refine(Ajr n d m e).trans ?_;rw[h1,h2,h3,h4];unfold chk2;by_cases hc:chkE n d=0
  ·rw[show(chkE n d !=0)=false by simpa using hc,AM hc];rfl
  ·rw[show(chkE n d !=0)=true by simpa using hc,AL hc];rfl
 ·cases h
theorem Zb:Den Tryz.prog 160 Qy:=Ag WN fun ds rs h=>by
 unfold Qy at h;split at h
 ·rename_i n d m e;simp only[A5,A6,A2]at h;obtain⟨⟨⟨⟨h1,h2⟩,h3⟩,h4⟩,rfl⟩:=h;refine(VK n d m e).trans ?_;rw[h1,h2,h3,h4,show(((Row.zeros 2).setI 0 0 (chkE n d)).setI 1 0 (chkE m e)).I 0 0=chkE n d from rfl,show(((Row.zeros 2).setI 0 0 (chkE n d)).setI 1 0 (chkE m e)).I 1 0=chkE m e from rfl];unfold chk2;by_cases hc:chkE n d=0
  ·rw[show(chkE n d !=0)=false by simpa using hc,AM hc];by_cases hk:chkE m e=0
   ·rw[hk];rfl
   ·rw[show(chkE m e !=0)=true by simpa using hk];rfl
  ·rw[show(chkE n d !=0)=true by simpa using hc,AL hc];rfl
 ·cases h
theorem JU{n d:Int}(h:chkE n d=0):goodR n d:=by
 unfold chkE at h;split at h
 ·assumption
 ·omega
theorem QC{n d m e:Int}(h:chk2 n d m e=0):goodR n d∧goodR m e:=by
 unfold chk2 at h;split at h
 ·rename_i h1;exact⟨JU h1,JU h⟩
 ·contradiction
def wd(a b:Int):Int:=a*18446744073709551616+b
def iU:FD
 |[.agg [.v (.int .u64 a),.v (.int .u64 b)],.agg [.v (.int .u64 c),.v (.int .u64 d)]]=>some (uR a&&uR b&&uR c&&uR d,[.v (.bool (decide (wd a b<wd c d)))])
 |_=>none
theorem Ajg(a b c d:Int):BZ C0 6 171 [.agg [.v (u64 a),.v (u64 b)],.agg [.v (u64 c),.v (u64 d)]]=br (a<c) (some [.v (.bool true)]) (br (a==c) (some [.v (.bool (b<d))]) (some [.v (.bool false)])):=by kernel_rfl
theorem dA:Den Tryz.prog 171 iU:=Ag JP fun ds rs h=>by
 unfold iU at h;split at h
 ·rename_i a b c d;simp only[A5,A6,A2,Hw,A3]at h;obtain⟨⟨⟨⟨h1,h2⟩,h3⟩,h4⟩,rfl⟩:=h;refine(Ajg a b c d).trans ?_;unfold wd;refine GR (fun h=>?_) (fun h=>Ui (fun h'=>?_) (fun h'=>?_))
  ·rw[A4 (show a*18446744073709551616+b<c*18446744073709551616+d by omega)]
  ·have:a=c:=by simpa using h'
   rw[show decide (a*18446744073709551616+b<c*18446744073709551616+d)=decide (b<d)from decide_eq_decide.mpr (by omega)]
  ·have:a≠c:=by simpa using h'
   rw[AB (show¬a*18446744073709551616+b<c*18446744073709551616+d by omega)]
 ·cases h
def Di(a b:Int):Int:=if a<b then-1 else if b<a then 1 else 0
def ZH:FD
 |[.v (.int .i64 a),.v (.int .i64 b)]=>some (true,[.v (i64 (Di a b))])
 |_=>none
def jL:FD
 |[.v (.int .u64 a),.v (.int .u64 b)]=>some (true,[.v (i64 (Di a b))])
 |_=>none
theorem Aid(a b:Int):BZ C0 6 161 [.v (i64 a),.v (i64 b)]=br (a !=a) (br (b !=b) (some [.v (i64 0)]) (some [.v (i64 (-1))])) (br (b !=b) (some [.v (i64 1)]) (br (a<b) (some [.v (i64 (-1))]) (br (a>b) (some [.v (i64 1)]) (some [.v (i64 0)])))):=by kernel_rfl
theorem Ajb(a b:Int):BZ C0 6 164 [.v (u64 a),.v (u64 b)]=br (a !=a) (br (b !=b) (some [.v (i64 0)]) (some [.v (i64 (-1))])) (br (b !=b) (some [.v (i64 1)]) (br (a<b) (some [.v (i64 (-1))]) (br (a>b) (some [.v (i64 1)]) (some [.v (i64 0)])))):=by kernel_rfl
theorem lF:Den Tryz.prog 161 ZH:=Ag JP fun ds rs h=>by
 unfold ZH at h;split at h
 ·rename_i a b;simp only[A5,A6]at h;obtain⟨_,rfl⟩:=h;refine(Aid a b).trans ?_;rw[show(a !=a)=false by simp,show(b !=b)=false by simp,Ac,Ac];unfold Di;refine GR (fun h=>?_) (fun h=>GR (fun h'=>?_) (fun h'=>?_))
  ·rw[AM h]
  ·rw[AL h,AM h']
  ·rw[AL h,AL h']
 ·cases h
theorem lI:Den Tryz.prog 164 jL:=Ag JP fun ds rs h=>by
 unfold jL at h;split at h
 ·rename_i a b;simp only[A5,A6]at h;obtain⟨_,rfl⟩:=h;refine(Ajb a b).trans ?_;rw[show(a !=a)=false by simp,show(b !=b)=false by simp,Ac,Ac];unfold Di;refine GR (fun h=>?_) (fun h=>GR (fun h'=>?_) (fun h'=>?_))
  ·rw[AM h]
  ·rw[AL h,AM h']
  ·rw[AL h,AL h']
 ·cases h
theorem XB(n e:Int):Bh n*e=if n<0 then-(n*e)else n*e:=by
 unfold Bh;split
 ·rw[Int.neg_mul]
 ·rfl
def cpC(n d m e:Int):Int:=if chk2 n d m e=0 then Di (n*e) (m*d)else 0
def Fcmp:FD
 |[.agg [.v (.int .i64 n),.v (.int .i64 d)],.agg [.v (.int .i64 m),.v (.int .i64 e)]]=>some (iR n&&iR d&&iR m&&iR e,[.v (i64 (cpC n d m e)),.v (i64 (chk2 n d m e))])
 |_=>none
theorem HY{a b:Int}(h:a<b):Di a b= -1:=AM h
theorem Ig{a b:Int}(h:b<a):Di a b=1:=by unfold Di;rw[AL (by omega),AM h]
theorem ND{a b:Int}(h:a=b):Di a b=0:=by unfold Di;rw[AL (by omega),AL (by omega)]
theorem Ze(x y:Int)(hx:0<=x)(hy:0<=y):Di x y=if Di (x/18446744073709551616) (y/18446744073709551616)≠0 then Di (x/18446744073709551616) (y/18446744073709551616)else Di (x%18446744073709551616) (y%18446744073709551616):=by
 rcases Int.lt_trichotomy (x/18446744073709551616) (y/18446744073709551616)with h|h|h
 ·rw[HY h,AM (by decide),HY (by omega)]
 ·rw[ND h,AL (by simp)];unfold Di
  repeat' split
  all_goals omega
 ·rw[Ig h,AM (by decide),Ig (by omega)]
theorem Oy(x y:Int):Di x y= -1∨Di x y=0∨Di x y=1:=by
 rcases Int.lt_trichotomy x y with h|h|h
 ·exact .inl (HY h)
 ·exact .inr (.inl (ND h))
 ·exact .inr (.inr (Ig h))
theorem mM(x y:Int):Di (-x) (-y)= -Di x y:=by
 rcases Int.lt_trichotomy x y with h|h|h
 ·rw[HY h,Ig (by omega)];rfl
 ·rw[ND h,ND (by omega)];rfl
 ·rw[Ig h,HY (by omega)]
noncomputable def C12:Cx:=AU Tryz.prog fns [(124,Rz),(123,Ju),(137,Ju),(160,Qy),(169,Qy),(162,Aez),(170,WH),(171,iU),(161,ZH),(164,jL)] []
theorem VG:Bi C12:=Aq enter mixed (fun p h=>by
 simp only[A8,A7,or_false]at h;rcases h with rfl|rfl|rfl|rfl|rfl|rfl|rfl|rfl|rfl|rfl
 ·exact Ry
 ·exact Pg
 ·exact Rn
 ·exact Zb
 ·exact eU
 ·exact rZ
 ·exact YV
 ·exact dA
 ·exact lF
 ·exact lI) (fun l h=>by cases h)
theorem Yo{n d m e:Int}(hc:chk2 n d m e=0):(1<=d∧d<=1000000000000000000)∧(1<=e∧e<=1000000000000000000)∧(0<=Bh n∧Bh n<=1000000000000000000)∧(0<=Bh m∧Bh m<=1000000000000000000)∧iR n=true∧iR m=true:=by
 obtain⟨⟨⟨d1,d2⟩,⟨n1,n2⟩,_⟩,⟨e1,e2⟩,⟨m1,m2⟩,_⟩:=QC hc;have⟨a1,a0⟩:=NM n;have⟨b1,b0⟩:=NM m;exact⟨⟨d1,d2⟩,⟨e1,e2⟩,⟨a1,by omega⟩,⟨b1,by omega⟩,iR_iff.mpr (by omega),iR_iff.mpr (by omega)⟩
theorem Akc(n d m e:Int):BZ C12 6 122 [.agg [.v (i64 n),.v (i64 d)],.agg [.v (i64 m),.v (i64 e)]]=br (iR n&&iR d&&iR m&&iR e) (br (chk2 n d m e !=0) (some [.v (i64 0),.v (i64 (chk2 n d m e))]) (br (!decide (n<0)==decide (m<0)) (some [.v (i64 (Di n m)),.v (i64 0)]) (br (iR n) (br (uR (Bh n)&&uR (IntKind.u64.wrap e)) (br (iR m) (br (uR (Bh m)&&uR (IntKind.u64.wrap d)) (br ((((Row.zeros 2).setI 0 0 (Di (Bh n*IntKind.u64.wrap e/18446744073709551616) (Bh m*IntKind.u64.wrap d/18446744073709551616))).setI 1 0 (Di (Bh n*IntKind.u64.wrap e%18446744073709551616) (Bh m*IntKind.u64.wrap d%18446744073709551616))).I 0 0 !=0) (br (n<0) (some [.v (i64 (IntKind.i64.wrap (0-(((Row.zeros 2).setI 0 0 (Di (Bh n*IntKind.u64.wrap e/18446744073709551616) (Bh m*IntKind.u64.wrap d/18446744073709551616))).setI 1 0 (Di (Bh n*IntKind.u64.wrap e%18446744073709551616) (Bh m*IntKind.u64.wrap d%18446744073709551616))).I 0 0))),.v (i64 0)]) (some [.v (i64 ((((Row.zeros 2).setI 0 0 (Di (Bh n*IntKind.u64.wrap e/18446744073709551616) (Bh m*IntKind.u64.wrap d/18446744073709551616))).setI 1 0 (Di (Bh n*IntKind.u64.wrap e%18446744073709551616) (Bh m*IntKind.u64.wrap d%18446744073709551616))).I 0 0)),.v (i64 0)])) (br ((((Row.zeros 2).setI 0 0 (Di (Bh n*IntKind.u64.wrap e/18446744073709551616) (Bh m*IntKind.u64.wrap d/18446744073709551616))).setI 1 0 (Di (Bh n*IntKind.u64.wrap e%18446744073709551616) (Bh m*IntKind.u64.wrap d%18446744073709551616))).I 1 0 !=0) (br (n<0) (some [.v (i64 (IntKind.i64.wrap (0-(((Row.zeros 2).setI 0 0 (Di (Bh n*IntKind.u64.wrap e/18446744073709551616) (Bh m*IntKind.u64.wrap d/18446744073709551616))).setI 1 0 (Di (Bh n*IntKind.u64.wrap e%18446744073709551616) (Bh m*IntKind.u64.wrap d%18446744073709551616))).I 1 0))),.v (i64 0)]) (some [.v (i64 ((((Row.zeros 2).setI 0 0 (Di (Bh n*IntKind.u64.wrap e/18446744073709551616) (Bh m*IntKind.u64.wrap d/18446744073709551616))).setI 1 0 (Di (Bh n*IntKind.u64.wrap e%18446744073709551616) (Bh m*IntKind.u64.wrap d%18446744073709551616))).I 1 0)),.v (i64 0)])) (br (n<0) (some [.v (i64 0),.v (i64 0)]) (some [.v (i64 0),.v (i64 0)])))) none) none) none) none))) (none):=by kernel_rfl
theorem den_cmpp:Den Tryz.prog 122 Fcmp:=Ag VG fun ds rs h=>by
 unfold Fcmp at h;split at h
 ·rename_i n d m e;simp only[A5,A6]at h;obtain⟨h0,rfl⟩:=h;refine(Akc n d m e).trans ?_;unfold cpC;rw[h0,Aa];simp only[A2]at h0;obtain⟨⟨⟨h1,h2⟩,h3⟩,h4⟩:=h0;by_cases hc:chk2 n d m e=0
  ·obtain⟨⟨⟨d1,d2⟩,_⟩,⟨e1,e2⟩,_⟩:=QC hc;obtain⟨_,_,⟨a1,a2⟩,⟨b1,b2⟩,_⟩:=Yo hc;rw[show(chk2 n d m e !=0)=false by simpa using hc,Ac,AM hc,h1,h3,BA (n:=d) (by omega) (by omega),BA (n:=e) (by omega) (by omega),
    show(uR (Bh n)&&uR e)=true by simp only[A2,Hw];omega,show(uR (Bh m)&&uR d)=true by simp only[A2,Hw];omega,Aa,Aa,Aa,Aa,hc]
   have hx:=XB n e;have hy:=XB m d;have x0:0<=Bh n*e:=Int.mul_nonneg a1 (by omega);have y0:0<=Bh m*d:=Int.mul_nonneg b1 (by omega);have sx:n<0->n*e<0:=fun h=>Int.mul_neg_of_neg_of_pos h (by omega);have sx':0<=n->0<=n*e:=fun h=>Int.mul_nonneg h (by omega);have sy:m<0->m*d<0:=fun h=>Int.mul_neg_of_neg_of_pos h (by omega);have sy':0<=m->0<=m*d:=fun h=>Int.mul_nonneg h (by omega);have hw:=Ze _ _ x0 y0;generalize Bh n*e=x at*
   generalize Bh m*d=y at*
   generalize n*e=u at*
   generalize m*d=v at*
   have r1:=Oy (x/18446744073709551616) (y/18446744073709551616);have r2:=Oy (x%18446744073709551616) (y%18446744073709551616);generalize hp:Di (x/18446744073709551616) (y/18446744073709551616)=p at*
   generalize hq:Di (x%18446744073709551616) (y%18446744073709551616)=q at*
   rw[show(((Row.zeros 2).setI 0 0 p).setI 1 0 q).I 0 0=p from rfl,show(((Row.zeros 2).setI 0 0 p).setI 1 0 q).I 1 0=q from rfl,EQ (n:=0-p) (by omega) (by omega),EQ (n:=0-q) (by omega) (by omega),Int.zero_sub,Int.zero_sub];by_cases hs:decide (n<0)=decide (m<0)
   ·rw[show(!decide (n<0)==decide (m<0))=false by rw[hs];cases decide (m<0)<;>rfl,Ac];have hcmp:Di u v=if n<0 then-Di x y else Di x y:=by
     by_cases hn:n<0
     ·have hm:m<0:=by rw[A4 hn]at hs;exact AD hs.symm
      rw[AM hn]at hx⊢;rw[AM hm]at hy;rw[hx,hy,mM,Int.neg_neg]
     ·have hm:¬m<0:=by rw[AB hn]at hs;exact AO hs.symm
      rw[AL hn]at hx⊢;rw[AL hm]at hy;rw[hx,hy]
    rw[hcmp];by_cases hp0:p=0
    ·rw[show(p !=0)=false by simpa using hp0,Ac];rw[AL (fun h=>h hp0)]at hw;rw[hw];by_cases hq0:q=0
     ·rw[show(q !=0)=false by simpa using hq0,Ac,hq0];by_cases hn:n<0
      ·rw[A4 hn,AM hn];rfl
      ·rw[AB hn,AL hn];rfl
     ·rw[show(q !=0)=true by simpa using hq0,Aa];by_cases hn:n<0
      ·rw[A4 hn,AM hn];rfl
      ·rw[AB hn,AL hn];rfl
    ·rw[show(p !=0)=true by simpa using hp0,Aa];rw[AM hp0]at hw;rw[hw];by_cases hn:n<0
     ·rw[A4 hn,AM hn];rfl
     ·rw[AB hn,AL hn];rfl
   ·rw[show(!decide (n<0)==decide (m<0))=true by revert hs;cases decide (n<0)<;>cases decide (m<0)<;>simp,Aa];have hnm:(n<0∧0<=m)∨(0<=n∧m<0):=by
     by_cases hn:n<0
     ·refine .inl ⟨hn,?_⟩;rcases Int.lt_or_le m 0 with h|h
      ·exact absurd ((A4 hn).trans (A4 h).symm) hs
      ·exact h
     ·refine .inr ⟨by omega,?_⟩;rcases Int.lt_or_le m 0 with h|h
      ·exact h
      ·exact absurd ((AB hn).trans (AB (show¬m<0 by omega)).symm) hs
    rcases hnm with⟨g1,g2⟩|⟨g1,g2⟩
    ·have:=sx g1;have:=sy' g2;rw[HY (show n<m by omega),HY (show u<v by omega)]
    ·have:=sx' g1;have:=sy g2;rw[Ig (show m<n by omega),Ig (show v<u by omega)]
  ·rw[show(chk2 n d m e !=0)=true by simpa using hc,Aa,AL hc]
 ·cases h
end Go.Proofs.YtnljjjghpgdmoaaGreatDoor.Rt
