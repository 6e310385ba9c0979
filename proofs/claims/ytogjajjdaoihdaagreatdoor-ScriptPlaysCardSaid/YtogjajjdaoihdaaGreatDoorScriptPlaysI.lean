/-
  Texts of this claim, joined: Shelf, ShelfC, PolicyT, Dec, CutS, RuleS, TextS, PktS, ScrS, ScrP, ScrT, ScrW, ShelfD, ScrM, ScrN, RefRead.
-/
import Derived.Test.YtogjajjdaoihdaaGreatDoorScriptPlaysH
import Derived.Shelf.Strings.Builder1
import Derived.Shelf.Strings.Builder2
import Derived.Shelf.Strings.OnBuilder
import Derived.Shelf.Small.Utf8
import Derived.Shelf.Strconv.Atoi
import Derived.Shelf.Strconv.Itoa0
import Derived.Shelf.Strconv.Itoa1
import Derived.Shelf.LaysM
import Derived.Shelf.Strconv.Itoa2
import Derived.Shelf.Strconv.Itoa3
import Derived.Shelf.Strconv.AtoiErrFast
import Derived.Shelf.Strconv.ParseIntEmpty
import Derived.Shelf.Strconv.AtoiFail
import Derived.Shelf.Strconv.Clone
import Derived.Shelf.Strconv.SyntaxError
import Derived.Shelf.LaysC
import Derived.Shelf.Strconv.ToError
import Derived.Shelf.Strconv.AtoiErr
import Derived.Shelf.Strconv.ErrVar
import Derived.Shelf.Strconv.Lower
import Derived.Shelf.Strconv.ParseUint10
import Derived.Shelf.Strconv.ParseUint10Empty
import Derived.Shelf.Strconv.ParseUint10Any
import Derived.Shelf.Strconv.ParseInt10
import Derived.Shelf.Strconv.AtoiLong
import Derived.Shelf.Strconv.AtoiInnerAll
import Derived.Shelf.Strconv.RangeError
import Derived.Shelf.Strconv.ToErrorRange
import Derived.Shelf.Strconv.AtoiAll
import Derived.Shelf.Strconv.ErrVarAll
import Derived.Shelf.Strings.Search1
import Derived.Shelf.Strings.Search2
import Derived.Shelf.Strings.Search3
import Derived.Shelf.Strings.Cut
import Derived.Shelf.Strings.Count
import Derived.Shelf.Strings.Shaped
import Derived.Shelf.Strings.Prefix
import Derived.Shelf.Strings.Split
import Derived.Shelf.Unicode.DecodeSlow
import Derived.Test.YtogjajjdaoihdaaGreatDoorProg
import Derived.Lib.LaidTab
import Derived.Lib.ItoaLen
import Derived.Lib.AtoiAll
import Derived.Lib.SplitLaws
import Derived.Lib.AtoiAllCases
import Derived.Laws.Tables
import Derived.Laws.Cover2

namespace Go.Proofs
open Go.Shelf
def Tryz.lays156_ren:Go.Shelf.Ren:=⟨fun|156=>87|165=>180|166=>181|169=>182|240=>253|241=>254|276=>310|277=>311|n=>n,fun|31=>22|9=>9|3=>3|4=>4|0=>0|20=>20|72=>288|76=>185|70=>286|37=>192|75=>25|127=>367|164=>225|5=>5|80=>94|n=>n,fun|n=>n⟩
theorem Tryz.lays156:Go.Proofs.Lays.n156 Tryz.prog Tryz.lays156_ren:={
 mixed:=by kernel_rfl
 f156:=Tryz.func87.trans (congrArg some (by kernel_rfl))
 f165:=Tryz.func180.trans (congrArg some (by kernel_rfl))
 f166:=Tryz.func181.trans (congrArg some (by kernel_rfl))
 f169:=Tryz.func182.trans (congrArg some (by kernel_rfl))
 f240:=Tryz.func253.trans (congrArg some (by kernel_rfl))
 f241:=Tryz.func254.trans (congrArg some (by kernel_rfl))
 f276:=Tryz.func310.trans (congrArg some (by kernel_rfl))
 f277:=Tryz.func311.trans (congrArg some (by kernel_rfl))
 t0:=Tryz.underlying0
 a0:=Tryz.isAgg0
 z0:=Tryz.sizeOf0
 v0:=Tryz.zeroValue0
 t3:=Tryz.underlying3
 a3:=Tryz.isAgg3
 z3:=Tryz.sizeOf3
 v3:=Tryz.zeroValue3
 t4:=Tryz.underlying4
 a4:=Tryz.isAgg4
 z4:=Tryz.sizeOf4
 v4:=Tryz.zeroValue4
 t9:=Tryz.underlying9
 a9:=Tryz.isAgg9
 z9:=Tryz.sizeOf9
 v9:=Tryz.zeroValue9
 t20:=Tryz.underlying20
 a20:=Tryz.isAgg20
 z20:=Tryz.sizeOf20
 v20:=Tryz.zeroValue20
 t31:=Tryz.underlying22
 a31:=Tryz.isAgg22
 z31:=Tryz.sizeOf22
 v31:=Tryz.zeroValue22
 t37:=Tryz.underlying192
 a37:=Tryz.isAgg192
 z37:=Tryz.sizeOf192
 v37:=Tryz.zeroValue192
 t70:=Tryz.underlying286
 a70:=Tryz.isAgg286
 z70:=Tryz.sizeOf286
 v70:=Tryz.zeroValue286
 t72:=Tryz.underlying288
 a72:=Tryz.isAgg288
 z72:=Tryz.sizeOf288
 v72:=Tryz.zeroValue288
 t75:=Tryz.underlying25
 a75:=Tryz.isAgg25
 z75:=Tryz.sizeOf25
 v75:=Tryz.zeroValue25
 t76:=Tryz.underlying185
 a76:=Tryz.isAgg185
 z76:=Tryz.sizeOf185
 v76:=Tryz.zeroValue185
 t127:=Tryz.underlying367
 a127:=Tryz.isAgg367
 z127:=Tryz.sizeOf367
 v127:=Tryz.zeroValue367
 t164:=Tryz.underlying225
 a164:=Tryz.isAgg225
 z164:=Tryz.sizeOf225
 v164:=Tryz.zeroValue225 }
theorem Tryz.Builder_Extra_156:Builder.Extra Tryz.prog Tryz.lays156_ren:={
 sizeBuilder:=by kernel_rfl
 liesBuilder:=by kernel_rfl
 t5:=Tryz.underlying5
 a5:=Tryz.isAgg5
 z5:=Tryz.sizeOf5
 v5:=Tryz.zeroValue5
 infoByte:=by kernel_rfl
 cellsByte:=by kernel_rfl
 sizeByte:=by kernel_rfl
 neB5:=by decide }
open Go.RowKit in
theorem Tryz.strings_Join (bk o c:Nat) (xs:List ByteArray) (sep:ByteArray) (w:World) (hcells:∀ (j:Nat) x,xs[j]?=some x→w.cell? ⟨bk,o+j,none⟩=some (.string x)) (hbk:bk < w.heap.size) (hN:xs.length≤140737488355328) (hcap:xs.length≤c) (hlen:(Lib.join (xs.map (·.data.toList)) sep.data.toList).length≤140737488355328) :
  Calls Tryz.prog 87 #[.slice (some ⟨bk,o,none⟩) xs.length c,.string sep] w fun e w'=>e = .returned (.string ⟨(Lib.join (xs.map (·.data.toList)) sep.data.toList).toArray⟩)∧Below w.heap.size w w':=Any.strings_Join Tryz.lays156 Tryz.Builder_Extra_156 bk o c xs sep w hcells hbk hN hcap hlen
def Tryz.laysM171_ren:Go.Shelf.Ren:=⟨fun|171=>152|243=>241|246=>305|283=>333|284=>334|285=>335|286=>336|129=>347|317=>346|318=>348|319=>349|320=>350|337=>351|338=>352|n=>n,fun|3=>3|9=>9|2=>2|4=>4|171=>427|0=>0|53=>216|37=>192|5=>5|173=>430|212=>446|51=>219|20=>20|213=>447|46=>307|232=>450|233=>251|n=>n,fun|17=>19|18=>20|19=>21|n=>n⟩
theorem Tryz.laysM171:Go.Proofs.LaysM.n171 Tryz.prog Tryz.laysM171_ren:={
 mixed:=by kernel_rfl
 f129:=Tryz.func347.trans (congrArg some (by kernel_rfl))
 f171:=Tryz.func152.trans (congrArg some (by kernel_rfl))
 f243:=Tryz.func241.trans (congrArg some (by kernel_rfl))
 f246:=Tryz.func305.trans (congrArg some (by kernel_rfl))
 f283:=Tryz.func333.trans (congrArg some (by kernel_rfl))
 f284:=Tryz.func334.trans (congrArg some (by kernel_rfl))
 f285:=Tryz.func335.trans (congrArg some (by kernel_rfl))
 f286:=Tryz.func336.trans (congrArg some (by kernel_rfl))
 f317:=Tryz.func346.trans (congrArg some (by kernel_rfl))
 f318:=Tryz.func348.trans (congrArg some (by kernel_rfl))
 f319:=Tryz.func349.trans (congrArg some (by kernel_rfl))
 f320:=Tryz.func350.trans (congrArg some (by kernel_rfl))
 f337:=Tryz.func351.trans (congrArg some (by kernel_rfl))
 f338:=Tryz.func352.trans (congrArg some (by kernel_rfl))
 t0:=Tryz.underlying0
 a0:=Tryz.isAgg0
 z0:=Tryz.sizeOf0
 v0:=Tryz.zeroValue0
 t2:=Tryz.underlying2
 a2:=Tryz.isAgg2
 z2:=Tryz.sizeOf2
 v2:=Tryz.zeroValue2
 t3:=Tryz.underlying3
 a3:=Tryz.isAgg3
 z3:=Tryz.sizeOf3
 v3:=Tryz.zeroValue3
 t4:=Tryz.underlying4
 a4:=Tryz.isAgg4
 z4:=Tryz.sizeOf4
 v4:=Tryz.zeroValue4
 t5:=Tryz.underlying5
 a5:=Tryz.isAgg5
 z5:=Tryz.sizeOf5
 v5:=Tryz.zeroValue5
 t9:=Tryz.underlying9
 a9:=Tryz.isAgg9
 z9:=Tryz.sizeOf9
 v9:=Tryz.zeroValue9
 t20:=Tryz.underlying20
 a20:=Tryz.isAgg20
 z20:=Tryz.sizeOf20
 v20:=Tryz.zeroValue20
 t37:=Tryz.underlying192
 a37:=Tryz.isAgg192
 z37:=Tryz.sizeOf192
 v37:=Tryz.zeroValue192
 t46:=Tryz.underlying307
 a46:=Tryz.isAgg307
 z46:=Tryz.sizeOf307
 v46:=Tryz.zeroValue307
 t51:=Tryz.underlying219
 a51:=Tryz.isAgg219
 z51:=Tryz.sizeOf219
 v51:=Tryz.zeroValue219
 t53:=Tryz.underlying216
 a53:=Tryz.isAgg216
 z53:=Tryz.sizeOf216
 v53:=Tryz.zeroValue216
 t171:=Tryz.underlying427
 a171:=Tryz.isAgg427
 z171:=Tryz.sizeOf427
 v171:=Tryz.zeroValue427
 t173:=Tryz.underlying430
 a173:=Tryz.isAgg430
 z173:=Tryz.sizeOf430
 v173:=Tryz.zeroValue430
 t212:=Tryz.underlying446
 a212:=Tryz.isAgg446
 z212:=Tryz.sizeOf446
 v212:=Tryz.zeroValue446
 t213:=Tryz.underlying447
 a213:=Tryz.isAgg447
 z213:=Tryz.sizeOf447
 t232:=Tryz.underlying450
 a232:=Tryz.isAgg450
 z232:=Tryz.sizeOf450
 v232:=Tryz.zeroValue450
 t233:=Tryz.underlying251
 a233:=Tryz.isAgg251
 z233:=Tryz.sizeOf251
 v233:=Tryz.zeroValue251
 g17:=by kernel_rfl
 g18:=by kernel_rfl
 g19:=by kernel_rfl
 i0:=by kernel_rfl
 i2:=by kernel_rfl
 i3:=by kernel_rfl
 i4:=by kernel_rfl
 i5:=by kernel_rfl
 i9:=by kernel_rfl
 i20:=by kernel_rfl
 i37:=by kernel_rfl
 i46:=by kernel_rfl
 i51:=by kernel_rfl
 i53:=by kernel_rfl
 i171:=by kernel_rfl
 i173:=by kernel_rfl
 i212:=by kernel_rfl
 i232:=by kernel_rfl
 i233:=by kernel_rfl
 m17:=by kernel_rfl
 m18:=by kernel_rfl
 m19:=by kernel_rfl }
open Go.RowKit Go.Sort Go.Lib in
theorem Tryz.strconv_Itoa (n : Int) (h0 : -9223372036854775808 ≤ n) (h1 : n ≤ 9223372036854775807) (w : World) (htab : Lib.TabIs Tryz.prog w "internal/strconv.uint64pow10" .u64 Lib.pow10Tab) :
  Calls Tryz.prog 152 #[.int .i64 n] w fun e w'=>e = .returned (.string ⟨(Lib.itoa n).toArray⟩)∧∃ k os,w'=grow (w.drewN k) os:=Any.strconv_Itoa Tryz.laysM171 n h0 h1 w htab
def Tryz.laysC245_ren:Go.Shelf.Ren:=⟨fun|245=>179|279=>249|280=>250|281=>251|282=>252|316=>308|171=>152|205=>309|243=>241|246=>305|283=>333|284=>334|285=>335|286=>336|129=>347|317=>346|318=>348|319=>349|320=>350|337=>351|338=>352|n=>n,fun|9=>9|3=>3|75=>25|167=>361|4=>4|168=>364|210=>407|37=>192|0=>0|127=>367|145=>440|143=>438|2=>2|171=>427|53=>216|5=>5|173=>430|212=>446|51=>219|20=>20|213=>447|46=>307|232=>450|233=>251|80=>94|n=>n,fun|15=>15|16=>16|17=>19|18=>20|19=>21|n=>n⟩
theorem Tryz.laysC245:Go.Proofs.LaysC.n245 Tryz.prog Tryz.laysC245_ren:={
 mixed:=by kernel_rfl
 f129:=Tryz.func347.trans (congrArg some (by kernel_rfl))
 f171:=Tryz.func152.trans (congrArg some (by kernel_rfl))
 f205:=Tryz.func309.trans (congrArg some (by kernel_rfl))
 f243:=Tryz.func241.trans (congrArg some (by kernel_rfl))
 f245:=Tryz.func179.trans (congrArg some (by kernel_rfl))
 f246:=Tryz.func305.trans (congrArg some (by kernel_rfl))
 f279:=Tryz.func249.trans (congrArg some (by kernel_rfl))
 f280:=Tryz.func250.trans (congrArg some (by kernel_rfl))
 f281:=Tryz.func251.trans (congrArg some (by kernel_rfl))
 f282:=Tryz.func252.trans (congrArg some (by kernel_rfl))
 f283:=Tryz.func333.trans (congrArg some (by kernel_rfl))
 f284:=Tryz.func334.trans (congrArg some (by kernel_rfl))
 f285:=Tryz.func335.trans (congrArg some (by kernel_rfl))
 f286:=Tryz.func336.trans (congrArg some (by kernel_rfl))
 f316:=Tryz.func308.trans (congrArg some (by kernel_rfl))
 f317:=Tryz.func346.trans (congrArg some (by kernel_rfl))
 f318:=Tryz.func348.trans (congrArg some (by kernel_rfl))
 f319:=Tryz.func349.trans (congrArg some (by kernel_rfl))
 f320:=Tryz.func350.trans (congrArg some (by kernel_rfl))
 f337:=Tryz.func351.trans (congrArg some (by kernel_rfl))
 f338:=Tryz.func352.trans (congrArg some (by kernel_rfl))
 t0:=Tryz.underlying0
 a0:=Tryz.isAgg0
 z0:=Tryz.sizeOf0
 v0:=Tryz.zeroValue0
 t2:=Tryz.underlying2
 a2:=Tryz.isAgg2
 z2:=Tryz.sizeOf2
 v2:=Tryz.zeroValue2
 t3:=Tryz.underlying3
 a3:=Tryz.isAgg3
 z3:=Tryz.sizeOf3
 v3:=Tryz.zeroValue3
 t4:=Tryz.underlying4
 a4:=Tryz.isAgg4
 z4:=Tryz.sizeOf4
 v4:=Tryz.zeroValue4
 t5:=Tryz.underlying5
 a5:=Tryz.isAgg5
 z5:=Tryz.sizeOf5
 v5:=Tryz.zeroValue5
 t9:=Tryz.underlying9
 a9:=Tryz.isAgg9
 z9:=Tryz.sizeOf9
 v9:=Tryz.zeroValue9
 t20:=Tryz.underlying20
 a20:=Tryz.isAgg20
 z20:=Tryz.sizeOf20
 v20:=Tryz.zeroValue20
 t37:=Tryz.underlying192
 a37:=Tryz.isAgg192
 z37:=Tryz.sizeOf192
 v37:=Tryz.zeroValue192
 t46:=Tryz.underlying307
 a46:=Tryz.isAgg307
 z46:=Tryz.sizeOf307
 v46:=Tryz.zeroValue307
 t51:=Tryz.underlying219
 a51:=Tryz.isAgg219
 z51:=Tryz.sizeOf219
 v51:=Tryz.zeroValue219
 t53:=Tryz.underlying216
 a53:=Tryz.isAgg216
 z53:=Tryz.sizeOf216
 v53:=Tryz.zeroValue216
 t75:=Tryz.underlying25
 a75:=Tryz.isAgg25
 z75:=Tryz.sizeOf25
 v75:=Tryz.zeroValue25
 t127:=Tryz.underlying367
 a127:=Tryz.isAgg367
 z127:=Tryz.sizeOf367
 v127:=Tryz.zeroValue367
 t143:=Tryz.underlying438
 a143:=Tryz.isAgg438
 z143:=Tryz.sizeOf438
 v143:=Tryz.zeroValue438
 t145:=Tryz.underlying440
 a145:=Tryz.isAgg440
 z145:=Tryz.sizeOf440
 v145:=Tryz.zeroValue440
 t167:=Tryz.underlying361
 a167:=Tryz.isAgg361
 z167:=Tryz.sizeOf361
 v167:=Tryz.zeroValue361
 t168:=Tryz.underlying364
 a168:=Tryz.isAgg364
 z168:=Tryz.sizeOf364
 v168:=Tryz.zeroValue364
 t171:=Tryz.underlying427
 a171:=Tryz.isAgg427
 z171:=Tryz.sizeOf427
 v171:=Tryz.zeroValue427
 t173:=Tryz.underlying430
 a173:=Tryz.isAgg430
 z173:=Tryz.sizeOf430
 v173:=Tryz.zeroValue430
 t210:=Tryz.underlying407
 a210:=Tryz.isAgg407
 z210:=Tryz.sizeOf407
 v210:=Tryz.zeroValue407
 t212:=Tryz.underlying446
 a212:=Tryz.isAgg446
 z212:=Tryz.sizeOf446
 v212:=Tryz.zeroValue446
 t213:=Tryz.underlying447
 a213:=Tryz.isAgg447
 z213:=Tryz.sizeOf447
 t232:=Tryz.underlying450
 a232:=Tryz.isAgg450
 z232:=Tryz.sizeOf450
 v232:=Tryz.zeroValue450
 t233:=Tryz.underlying251
 a233:=Tryz.isAgg251
 z233:=Tryz.sizeOf251
 v233:=Tryz.zeroValue251
 g15:=by kernel_rfl
 g16:=by kernel_rfl
 g17:=by kernel_rfl
 g18:=by kernel_rfl
 g19:=by kernel_rfl
 t80:=Tryz.underlying94
 a80:=Tryz.isAgg94
 z80:=Tryz.sizeOf94
 v80:=Tryz.zeroValue94
 i0:=by kernel_rfl
 i2:=by kernel_rfl
 i3:=by kernel_rfl
 i4:=by kernel_rfl
 i5:=by kernel_rfl
 i9:=by kernel_rfl
 i20:=by kernel_rfl
 i37:=by kernel_rfl
 i46:=by kernel_rfl
 i51:=by kernel_rfl
 i53:=by kernel_rfl
 i75:=by kernel_rfl
 i80:=by kernel_rfl
 i127:=by kernel_rfl
 i143:=by kernel_rfl
 i145:=by kernel_rfl
 i167:=by kernel_rfl
 i168:=by kernel_rfl
 i171:=by kernel_rfl
 i173:=by kernel_rfl
 i210:=by kernel_rfl
 i212:=by kernel_rfl
 i232:=by kernel_rfl
 i233:=by kernel_rfl
 m15:=by kernel_rfl
 m16:=by kernel_rfl
 m17:=by kernel_rfl
 m18:=by kernel_rfl
 m19:=by kernel_rfl
 c0:=by kernel_rfl
 c2:=by kernel_rfl
 c3:=by kernel_rfl
 c4:=by kernel_rfl
 c5:=by kernel_rfl
 c9:=by kernel_rfl
 c20:=by kernel_rfl
 c37:=by kernel_rfl
 c46:=by kernel_rfl
 c51:=by kernel_rfl
 c53:=by kernel_rfl
 c75:=by kernel_rfl
 c80:=by kernel_rfl
 c127:=by kernel_rfl
 c143:=by kernel_rfl
 c145:=by kernel_rfl
 c167:=by kernel_rfl
 c168:=by kernel_rfl
 c171:=by kernel_rfl
 c173:=by kernel_rfl
 c210:=by kernel_rfl
 c212:=by kernel_rfl
 c213:=by kernel_rfl
 c232:=by kernel_rfl
 c233:=by kernel_rfl }
open Go.RowKit in
theorem Tryz.strconv_toError_syntax (fn s:ByteArray) (base bits:Int) (ev:Value) (w:World) (hlim:s.size≤281474976710656) (hv:w.cell? ⟨15,0,none⟩=some ev) (hev:ev = .nilIface∨∃ te pe,ev = .iface te pe) :
  Calls Tryz.prog 179 #[.string fn,.string s,.int .i64 base,.int .i64 bits,.iface 361 (.int .i64 2)] w fun e w'=>∃ N,e = .returned (.iface 364 (.pointer (some ⟨N,0,none⟩)))∧w.heap.size≤N∧w'.heap[N]?=some (.cells #[.string fn,.string s,ev] 407 (0,0))∧Below w.heap.size w w':=Any.strconv_toError_syntax Tryz.laysC245 fn s base bits ev w hlim hv hev
def Tryz.laysC244_ren:Go.Shelf.Ren:=⟨fun|244=>178|247=>248|287=>307|321=>337|322=>338|n=>n,fun|9=>9|3=>3|75=>25|4=>4|5=>5|167=>361|37=>192|0=>0|85=>362|2=>2|53=>216|175=>403|46=>307|21=>21|80=>94|n=>n,fun|n=>n⟩
theorem Tryz.laysC244:Go.Proofs.LaysC.n244 Tryz.prog Tryz.laysC244_ren:={
 mixed:=by kernel_rfl
 f244:=Tryz.func178.trans (congrArg some (by kernel_rfl))
 f247:=Tryz.func248.trans (congrArg some (by kernel_rfl))
 f287:=Tryz.func307.trans (congrArg some (by kernel_rfl))
 f321:=Tryz.func337.trans (congrArg some (by kernel_rfl))
 f322:=Tryz.func338.trans (congrArg some (by kernel_rfl))
 t0:=Tryz.underlying0
 a0:=Tryz.isAgg0
 z0:=Tryz.sizeOf0
 v0:=Tryz.zeroValue0
 t2:=Tryz.underlying2
 a2:=Tryz.isAgg2
 z2:=Tryz.sizeOf2
 v2:=Tryz.zeroValue2
 t3:=Tryz.underlying3
 a3:=Tryz.isAgg3
 z3:=Tryz.sizeOf3
 v3:=Tryz.zeroValue3
 t4:=Tryz.underlying4
 a4:=Tryz.isAgg4
 z4:=Tryz.sizeOf4
 v4:=Tryz.zeroValue4
 t5:=Tryz.underlying5
 a5:=Tryz.isAgg5
 z5:=Tryz.sizeOf5
 v5:=Tryz.zeroValue5
 t9:=Tryz.underlying9
 a9:=Tryz.isAgg9
 z9:=Tryz.sizeOf9
 v9:=Tryz.zeroValue9
 t21:=Tryz.underlying21
 a21:=Tryz.isAgg21
 z21:=Tryz.sizeOf21
 v21:=Tryz.zeroValue21
 t37:=Tryz.underlying192
 a37:=Tryz.isAgg192
 z37:=Tryz.sizeOf192
 v37:=Tryz.zeroValue192
 t46:=Tryz.underlying307
 a46:=Tryz.isAgg307
 z46:=Tryz.sizeOf307
 v46:=Tryz.zeroValue307
 t53:=Tryz.underlying216
 a53:=Tryz.isAgg216
 z53:=Tryz.sizeOf216
 v53:=Tryz.zeroValue216
 t75:=Tryz.underlying25
 a75:=Tryz.isAgg25
 z75:=Tryz.sizeOf25
 v75:=Tryz.zeroValue25
 t85:=Tryz.underlying362
 a85:=Tryz.isAgg362
 z85:=Tryz.sizeOf362
 v85:=Tryz.zeroValue362
 t167:=Tryz.underlying361
 a167:=Tryz.isAgg361
 z167:=Tryz.sizeOf361
 v167:=Tryz.zeroValue361
 t175:=Tryz.underlying403
 a175:=Tryz.isAgg403
 z175:=Tryz.sizeOf403
 v175:=Tryz.zeroValue403
 t80:=Tryz.underlying94
 a80:=Tryz.isAgg94
 z80:=Tryz.sizeOf94
 v80:=Tryz.zeroValue94
 i0:=by kernel_rfl
 i2:=by kernel_rfl
 i3:=by kernel_rfl
 i4:=by kernel_rfl
 i5:=by kernel_rfl
 i9:=by kernel_rfl
 i21:=by kernel_rfl
 i37:=by kernel_rfl
 i46:=by kernel_rfl
 i53:=by kernel_rfl
 i75:=by kernel_rfl
 i80:=by kernel_rfl
 i85:=by kernel_rfl
 i167:=by kernel_rfl
 i175:=by kernel_rfl
 c0:=by kernel_rfl
 c2:=by kernel_rfl
 c3:=by kernel_rfl
 c4:=by kernel_rfl
 c5:=by kernel_rfl
 c9:=by kernel_rfl
 c21:=by kernel_rfl
 c37:=by kernel_rfl
 c46:=by kernel_rfl
 c53:=by kernel_rfl
 c75:=by kernel_rfl
 c80:=by kernel_rfl
 c85:=by kernel_rfl
 c167:=by kernel_rfl
 c175:=by kernel_rfl }
open Go.RowKit in
theorem Tryz.internal_strconv_Atoi_all (s:ByteArray) (hmax:s.size≤9223372036854775806) (w:World) :
  Calls Tryz.prog 178 #[.string s] w fun e w'=>e = .returned (Lib.intTuple 361 (Lib.atoiSat s.data.toList) (Lib.atoiAll s.data.toList))∧(w'=w∨∃ t,w'=Lib.bytesWorld w 5 t):=Any.internal_strconv_Atoi_all Tryz.laysC244 s hmax w
open Go.RowKit in
theorem Tryz.strconv_toError_range (fn s:ByteArray) (base bits:Int) (ev:Value) (w:World) (hlim:s.size≤281474976710656) (hv:w.cell? ⟨16,0,none⟩=some ev) (hev:ev = .nilIface∨∃ te pe,ev = .iface te pe) :
  Calls Tryz.prog 179 #[.string fn,.string s,.int .i64 base,.int .i64 bits,.iface 361 (.int .i64 1)] w fun e w'=>∃ N,e = .returned (.iface 364 (.pointer (some ⟨N,0,none⟩)))∧w.heap.size≤N∧w'.heap[N]?=some (.cells #[.string fn,.string s,ev] 407 (0,0))∧Below w.heap.size w w':=Any.strconv_toError_range Tryz.laysC245 fn s base bits ev w hlim hv hev
def Tryz.lays145_ren:Go.Shelf.Ren:=⟨fun|145=>75|220=>132|219=>224|217=>284|225=>285|224=>286|267=>287|266=>322|314=>323|n=>n,fun|9=>9|4=>4|59=>170|3=>3|5=>5|46=>307|146=>417|51=>219|n=>n,fun|1=>14|n=>n⟩
theorem Tryz.lays145:Go.Proofs.Lays.n145 Tryz.prog Tryz.lays145_ren:={
 mixed:=by kernel_rfl
 f145:=Tryz.func75.trans (congrArg some (by kernel_rfl))
 f217:=Tryz.func284.trans (congrArg some (by kernel_rfl))
 f219:=Tryz.func224.trans (congrArg some (by kernel_rfl))
 f220:=Tryz.func132.trans (congrArg some (by kernel_rfl))
 f224:=Tryz.func286.trans (congrArg some (by kernel_rfl))
 f225:=Tryz.func285.trans (congrArg some (by kernel_rfl))
 f266:=Tryz.func322.trans (congrArg some (by kernel_rfl))
 f267:=Tryz.func287.trans (congrArg some (by kernel_rfl))
 f314:=Tryz.func323.trans (congrArg some (by kernel_rfl))
 t3:=Tryz.underlying3
 a3:=Tryz.isAgg3
 z3:=Tryz.sizeOf3
 v3:=Tryz.zeroValue3
 t4:=Tryz.underlying4
 a4:=Tryz.isAgg4
 z4:=Tryz.sizeOf4
 v4:=Tryz.zeroValue4
 t5:=Tryz.underlying5
 a5:=Tryz.isAgg5
 z5:=Tryz.sizeOf5
 v5:=Tryz.zeroValue5
 t9:=Tryz.underlying9
 a9:=Tryz.isAgg9
 z9:=Tryz.sizeOf9
 v9:=Tryz.zeroValue9
 t46:=Tryz.underlying307
 a46:=Tryz.isAgg307
 z46:=Tryz.sizeOf307
 v46:=Tryz.zeroValue307
 t51:=Tryz.underlying219
 a51:=Tryz.isAgg219
 z51:=Tryz.sizeOf219
 v51:=Tryz.zeroValue219
 t59:=Tryz.underlying170
 a59:=Tryz.isAgg170
 z59:=Tryz.sizeOf170
 v59:=Tryz.zeroValue170
 t146:=Tryz.underlying417
 a146:=Tryz.isAgg417
 z146:=Tryz.sizeOf417
 v146:=Tryz.zeroValue417
 g1:=by kernel_rfl }
open Go.RowKit Go.Lib in
theorem Tryz.strings_Cut (s sep:ByteArray) (m:Int) (w:World) (hs:s.size < 4294967281) (hm:w.cell? ⟨14,0,none⟩=some (.int .i64 m)) :
  Calls Tryz.prog 75 #[.string s,.string sep] w fun e w'=>e = .returned (.tuple #[.string ⟨(Lib.cut s.data.toList sep.data.toList).1.toArray⟩,.string ⟨(Lib.cut s.data.toList sep.data.toList).2.1.toArray⟩,.bool (Lib.cut s.data.toList sep.data.toList).2.2])∧∃ n,w'=w.drewN n:=Any.strings_Cut Tryz.lays145 s sep m w hs hm
def Tryz.lays102_ren:Go.Shelf.Ren:=⟨fun|102=>64|209=>113|207=>214|n=>n,fun|9=>9|4=>4|3=>3|n=>n,fun|n=>n⟩
theorem Tryz.lays102:Go.Proofs.Lays.n102 Tryz.prog Tryz.lays102_ren:={
 mixed:=by kernel_rfl
 f102:=Tryz.func64.trans (congrArg some (by kernel_rfl))
 f207:=Tryz.func214.trans (congrArg some (by kernel_rfl))
 f209:=Tryz.func113.trans (congrArg some (by kernel_rfl))
 t3:=Tryz.underlying3
 a3:=Tryz.isAgg3
 z3:=Tryz.sizeOf3
 v3:=Tryz.zeroValue3
 t4:=Tryz.underlying4
 a4:=Tryz.isAgg4
 z4:=Tryz.sizeOf4
 v4:=Tryz.zeroValue4
 t9:=Tryz.underlying9
 a9:=Tryz.isAgg9
 z9:=Tryz.sizeOf9
 v9:=Tryz.zeroValue9 }
open Go.RowKit Go.Lib in
theorem Tryz.strings_TrimSuffix (s p:ByteArray) (w:World) (hs:s.size≤9223372036854775807) :
  Calls Tryz.prog 64 #[.string s,.string p] w fun e w'=>e = .returned (.string ⟨(Lib.trimSuffix s.data.toList p.data.toList).toArray⟩)∧w'=w:=Any.strings_TrimSuffix Tryz.lays102 s p w hs
def Tryz.lays146_ren:Go.Shelf.Ren:=⟨fun|146=>40|221=>84|268=>175|138=>176|143=>177|195=>245|197=>246|218=>247|219=>224|260=>306|217=>284|225=>285|224=>286|267=>287|266=>322|314=>323|n=>n,fun|9=>9|31=>22|3=>3|4=>4|0=>0|105=>358|21=>21|5=>5|46=>307|119=>432|139=>435|138=>434|146=>417|51=>219|n=>n,fun|1=>14|3=>17|4=>18|n=>n⟩
theorem Tryz.lays146:Go.Proofs.Lays.n146 Tryz.prog Tryz.lays146_ren:={
 mixed:=by kernel_rfl
 f138:=Tryz.func176.trans (congrArg some (by kernel_rfl))
 f143:=Tryz.func177.trans (congrArg some (by kernel_rfl))
 f146:=Tryz.func40.trans (congrArg some (by kernel_rfl))
 f195:=Tryz.func245.trans (congrArg some (by kernel_rfl))
 f197:=Tryz.func246.trans (congrArg some (by kernel_rfl))
 f217:=Tryz.func284.trans (congrArg some (by kernel_rfl))
 f218:=Tryz.func247.trans (congrArg some (by kernel_rfl))
 f219:=Tryz.func224.trans (congrArg some (by kernel_rfl))
 f221:=Tryz.func84.trans (congrArg some (by kernel_rfl))
 f224:=Tryz.func286.trans (congrArg some (by kernel_rfl))
 f225:=Tryz.func285.trans (congrArg some (by kernel_rfl))
 f260:=Tryz.func306.trans (congrArg some (by kernel_rfl))
 f266:=Tryz.func322.trans (congrArg some (by kernel_rfl))
 f267:=Tryz.func287.trans (congrArg some (by kernel_rfl))
 f268:=Tryz.func175.trans (congrArg some (by kernel_rfl))
 f314:=Tryz.func323.trans (congrArg some (by kernel_rfl))
 t0:=Tryz.underlying0
 a0:=Tryz.isAgg0
 z0:=Tryz.sizeOf0
 v0:=Tryz.zeroValue0
 t3:=Tryz.underlying3
 a3:=Tryz.isAgg3
 z3:=Tryz.sizeOf3
 v3:=Tryz.zeroValue3
 t4:=Tryz.underlying4
 a4:=Tryz.isAgg4
 z4:=Tryz.sizeOf4
 v4:=Tryz.zeroValue4
 t5:=Tryz.underlying5
 a5:=Tryz.isAgg5
 z5:=Tryz.sizeOf5
 v5:=Tryz.zeroValue5
 t9:=Tryz.underlying9
 a9:=Tryz.isAgg9
 z9:=Tryz.sizeOf9
 v9:=Tryz.zeroValue9
 t21:=Tryz.underlying21
 a21:=Tryz.isAgg21
 z21:=Tryz.sizeOf21
 v21:=Tryz.zeroValue21
 t31:=Tryz.underlying22
 a31:=Tryz.isAgg22
 z31:=Tryz.sizeOf22
 v31:=Tryz.zeroValue22
 t46:=Tryz.underlying307
 a46:=Tryz.isAgg307
 z46:=Tryz.sizeOf307
 v46:=Tryz.zeroValue307
 t51:=Tryz.underlying219
 a51:=Tryz.isAgg219
 z51:=Tryz.sizeOf219
 v51:=Tryz.zeroValue219
 t105:=Tryz.underlying358
 a105:=Tryz.isAgg358
 z105:=Tryz.sizeOf358
 v105:=Tryz.zeroValue358
 t119:=Tryz.underlying432
 a119:=Tryz.isAgg432
 z119:=Tryz.sizeOf432
 t138:=Tryz.underlying434
 a138:=Tryz.isAgg434
 z138:=Tryz.sizeOf434
 v138:=Tryz.zeroValue434
 t139:=Tryz.underlying435
 a139:=Tryz.isAgg435
 z139:=Tryz.sizeOf435
 v139:=Tryz.zeroValue435
 t146:=Tryz.underlying417
 a146:=Tryz.isAgg417
 z146:=Tryz.sizeOf417
 v146:=Tryz.zeroValue417
 g1:=by kernel_rfl
 g3:=by kernel_rfl
 g4:=by kernel_rfl }
open Go.RowKit Go.Lib in
theorem Tryz.strings_Split (s sep:ByteArray) (m:Int) (w:World) (hs:s.size < 4294967281) (hm:w.cell? ⟨14,0,none⟩=some (.int .i64 m)) (h1:1≤sep.size) :
  Calls Tryz.prog 40 #[.string s,.string sep] w fun e w' =>
   e = .returned (.slice (some ⟨w.heap.size,0,none⟩) (Lib.countB s sep+1) (Lib.countB s sep+1))∧w'=w.alloc (.cells ((Lib.splitB sep 0 (Lib.countB s sep) s).map Value.string).toArray 9):=Any.strings_Split Tryz.lays146 (by kernel_rfl) s sep m w hs hm h1
end Go.Proofs

namespace Go.Proofs.YtogjajjdaoihdaaGreatDoor
set_option maxRecDepth 20000
open Go Ev Go.RowKit Go.Sort

theorem Ev.CallC.of {P : Program} {f : FuncId} {fn : Func} {args : Array Value} {w : World} {k : Value → World → Prop} (hf : P.funcs[f]? = some fn) (hname : (fn.name == "runtime.NumGoroutine") = false) (hb : fn.body.isSome = true) (h : Calls P f args w fun e w' => ∃ v, e = .returned v ∧ k v w') : CallC P f args w k := by
 have hname' : ¬ fn.name = "runtime.NumGoroutine" := by simpa using hname
 obtain ⟨c,hb⟩:=Option.isSome_iff_exists.1 hb;exact ⟨.inl ⟨by simp [callFunc,program,Sem.run,hf,hname',hb],h⟩⟩
theorem Ev.Ext.of_below {w w':World}(h:Below w.heap.size w w'):Ext No w w':=⟨h.os,h.tape,h.output,h.size,fun k hk _=>h.block k hk⟩
theorem zqr (w:World) (k:Nat) (os:Array Obj):Ext No w (grow (w.drewN k) os):=by
 refine ⟨rfl,rfl,rfl,?_,fun b hb _=>?_⟩
 ·show w.heap.size≤(w.heap++os).size;rw [Array.size_append];omega
 ·show (w.heap++os)[b]?=_;rw [Array.getElem?_append_left hb]

def Pow10 (w : World) : Prop := Lib.TabIs Tryz.prog w "internal/strconv.uint64pow10" .u64 Lib.pow10Tab
theorem Pow10.no {w w':World}(h:Pow10 w) (hx:Ext No w w'):Pow10 w':=by
 have hg : Tryz.prog.globalNamed "internal/strconv.uint64pow10" = some 19 := by kernel_rfl
 unfold Pow10 Lib.TabIs at h ⊢;rw [← h]
 have key:w'.heap[19]?=w.heap[19]?:=by
  refine hx.block _ ?_ id;have h2:=h;simp only [World.var?,hg,Option.bind_some] at h2;by_cases hb:19 < w.heap.size
  ·exact hb
  ·have hn:w.heap[19]?=none:=Array.getElem?_eq_none (by omega);rw [hn] at h2;cases h2
 simp only [World.var?,hg,Option.bind_some,key]
theorem zb9 (n:Int) (h0 : -9223372036854775808≤n) (h1:n≤9223372036854775807) (w:World) (ht:Pow10 w) :
  CallC Tryz.prog 152 #[.int .i64 n] w fun v w'=>v = .string (bs (Lib.itoa n))∧Ext No w w':=by
 refine Ev.CallC.of Tryz.func152 (by kernel_rfl) rfl ((Tryz.strconv_Itoa n h0 h1 w ht).mono ?_);rintro e w' ⟨rfl,k,os,rfl⟩;exact ⟨_,rfl,rfl,zqr w k os⟩
theorem zlg (xs:List (List UInt8)) (sep:List UInt8) {b o n c:Nat}(w:World) (hn:xs.length=n) (hc:CellsAt w b o (xs.map fun l=>.string (bs l))) (h0:0 < n) (hcap:n≤c) (hl:(Lib.join xs sep).length≤1000000) (hN:n≤1000000) :
  CallC Tryz.prog 87 #[.slice (some ⟨b,o,none⟩) n c,.string (bs sep)] w fun v w'=>v = .string (bs (Lib.join xs sep))∧Ext No w w':=by
 subst hn
 have e1:((xs.map bs).map (·.data.toList))=xs:=by
  rw [List.map_map]
  conv=>rhs;rw [← List.map_id xs]
  rfl
 have hcell:∀ (j:Nat) x,(xs.map bs)[j]?=some x→w.cell? ⟨b,o+j,none⟩=some (.string x):=fun j x hj=>by
  refine hc j _ ?_;rw [List.getElem?_map] at hj ⊢;obtain ⟨l,hl,rfl⟩:=Option.map_eq_some_iff.1 hj;rw [hl];rfl
 have hb:b < w.heap.size:=hc.lt (by simpa using h0);have h:=Tryz.strings_Join b o c (xs.map bs) (bs sep) w hcell hb (by rw [List.length_map];omega) (by rw [List.length_map];exact hcap) (by rw [e1];exact Nat.le_trans hl (by omega));rw [List.length_map] at h;refine Ev.CallC.of Tryz.func87 (by kernel_rfl) rfl (h.mono ?_);rintro e w' ⟨rfl,hb⟩;refine ⟨_,rfl,?_,.of_below hb⟩;rw [e1];rfl

theorem zfl {L:List (String × DataW Unit)}{W:World}{n:String}{d:DataW Unit}(hl:laidMetH Tryz.prog L W) (hm:(n,d)∈L) (hd:d.handleName?.isNone=true):laidMet Tryz.prog [(n,d)] W :=
 zeO (List.singleton_sublist.2 (List.mem_filter.2 ⟨hm,hd⟩)) (laidMetH_iff.1 hl).1
theorem pow10_of {L : List (String × DataW Unit)} {W : World} (hl : laidMetH Tryz.prog L W) (hm : ("internal/strconv.uint64pow10", Lib.tabData .u64 Lib.pow10Tab) ∈ L) : Pow10 W :=
 Lib.tabIs_of_head (g:=19) (t:=446) (e:=216) (n:=20) (by kernel_rfl) (by kernel_rfl) Tryz.underlying446 Tryz.underlying216 (by kernel_rfl) (by kernel_rfl) (zfl hl hm rfl)
theorem zgb {H:Type}{enc:TypeId × Value→H}{P:Program}{w:World}{base:Nat}{sp:Nat→Bool}{held:Bool}{fuel:Nat}{t e:TypeId}{n:Nat}{cs:List Value}{zs:List (List UInt8)}{p:List MemPlace}
  (ht:P.underlying t=some (.array n e)) (he:P.underlying e=some .string) (hce:P.cellsOf e=1) (hct:P.cellsOf t=n)
  (h:DataW.trod enc P w base sp held fuel t cs=some (.agg (zs.map fun z=>.lit (.string z)),p)):cs=zs.map fun z=>Value.string (bs z):=by
 cases fuel with
 | zero=>simp [DataW.trod] at h
 | succ fuel =>
  simp only [DataW.trod,ht,hce,hct,Nat.mul_one] at h;split at h
  ·rename_i hl;obtain ⟨xs,hm,hx⟩:=Option.map_eq_some_iff.1 h
   have hxs:xs.map (·.1)=zs.map fun z=>(DataW.lit (.string z):DataW H):=by
    have:=congrArg Prod.fst hx;simpa using this
   have hxl:xs.length=n:=by simpa using Lib.mapM_length hm
   have hzl:zs.length=n:=by
    have:=congrArg List.length hxs;simp at this;omega
   apply List.ext_getElem?;intro i;by_cases hi:i < n
   ·obtain ⟨b,hb,hf⟩:=Lib.mapM_at hm i i (by simp [hi]);obtain ⟨z,hc,rfl,_⟩:=DataW.trod_string he hf
    have h1:cs[i]?=some (.string z):=by
     have:=congrArg (·[0]?) hc;simpa [List.getElem?_take,List.getElem?_drop] using this
    have h2:(xs.map (·.1))[i]?=some (DataW.lit (.string z.data.toList):DataW H):=by simp [hb]
    rw [hxs] at h2;simp only [List.getElem?_map,Option.map_eq_some_iff,DataW.lit.injEq,Lit.string.injEq] at h2;obtain ⟨z',hz',h3⟩:=h2;rw [h1,List.getElem?_map,hz'];show some (Value.string z)=some (Value.string (bs z'));rw [h3];simp [bs]
   ·rw [List.getElem?_eq_none (by omega),List.getElem?_eq_none (by simp;omega)]
  ·cases h
def Protos (w:World):Prop:=CellsAt w 13 0 [.string (bs [97,110,121]),.string (bs [117,100,112]),.string (bs [116,99,112])]
theorem Protos.no {w w':World}(h:Protos w) (hx:Ext No w w'):Protos w':=hx.cells h id
theorem protos_of {L : List (String × DataW Unit)} {W : World} (hl : laidMetH Tryz.prog L W) (hm : ("twinrampart/policy.protos", .agg ([[97, 110, 121], [117, 100, 112], [116, 99, 112]].map fun z => .lit (.string z))) ∈ L) : Protos W := by
 obtain ⟨ps,⟨g',t',cs,fuel,p,q,hg',ht',hvar,hd,_,_⟩,_⟩:=zfl hl hm rfl
 have hg : Tryz.prog.globalNamed "twinrampart/policy.protos" = some 13 := by kernel_rfl
 have hty:(Tryz.prog.globals[13]?).map (·.type)=some 238:=by kernel_rfl
 obtain rfl:=Option.some.inj (hg.symm.trans hg');obtain rfl:=Option.some.inj (hty.symm.trans ht');have hc:=zgb Tryz.underlying238 Tryz.underlying9 (by kernel_rfl) (by kernel_rfl) hd;intro i v hv;have:=World.var?_cell hg hvar i;rw [Nat.zero_add,this,← Array.getElem?_toList,hc];exact hv

def zb6:List UInt8:=[97,108,108,111,119]
def zhP:List UInt8:=[100,101,110,121]
def zjA:List UInt8:=[111,117,116]
def sIn:List UInt8:=[105,110]
def zrR:List UInt8:=[97,110,121]
def znh:List UInt8:=[117,100,112]
def znf:List UInt8:=[116,99,112]
def zcU (p:Int):List UInt8:=if p=0 then zrR else if p=1 then znh else znf
def RuleS.words (r:RuleS):List (List UInt8):=[if r.allow=true then zb6 else zhP,if r.out=true then zjA else sIn,zcU r.proto,Lib.itoa r.low++[45]++Lib.itoa r.top]
def RuleS.line (r:RuleS):List UInt8:=Lib.join r.words [32]
theorem zmY (r:RuleS) (h1 : -9223372036854775808≤r.low∧r.low≤9223372036854775807) (h2 : -9223372036854775808≤r.top∧r.top≤9223372036854775807):r.line.length≤100:=by
 have e1:=Lib.itoa_length_le r.low h1.1 h1.2;have e2:=Lib.itoa_length_le r.top h2.1 h2.2;have w1:(if r.allow=true then zb6 else zhP).length≤5:=by split<;>decide
 have w2:(if r.out=true then zjA else sIn).length≤3:=by split<;>decide
 have w3:(zcU r.proto).length≤3:=by
  unfold zcU;split
  ·decide
  ·split<;>decide
 unfold RuleS.line RuleS.words;rw [Lib.join_cons];simp only [Lib.joinTail,List.map_cons,List.map_nil,List.flatten_cons,List.flatten_nil,List.length_append,List.length_cons,List.length_nil];omega
def zbx (l:List RuleS):List UInt8:=l.flatMap fun r=>r.line++[10]
def zui (r:RuleS):Prop:=(-9223372036854775808≤r.low∧r.low≤9223372036854775807)∧(-9223372036854775808≤r.top∧r.top≤9223372036854775807)
theorem zlB {r:RuleS}(h:r.bad=false):zui r∧0≤r.proto∧r.proto≤2:=by
 have h:¬ (r.proto < 0∨r.proto > 2∨r.low < 1∨r.low > r.top∨r.top > 65535):=of_decide_eq_false h;unfold zui;omega
theorem zeT:∀ {l:List RuleS},(∀ r∈l,zui r)→(zbx l).length≤101 * l.length
 | [],_=>by simp [zbx]
 | r::l,h=>by
  have ih:=zeT (l:=l) fun x hx=>h x (List.mem_cons_of_mem _ hx)
  have h1:=h r (by simp);have:=zmY r h1.1 h1.2;simp only [zbx,List.flatMap_cons,List.length_append,List.length_cons,List.length_nil] at ih ⊢;omega
theorem znx {l:List RuleS}{k:Nat}{r:RuleS}(h:l[k]?=some r):zbx (l.take (k+1))=zbx (l.take k)++(r.line++[10]):=by
 unfold zbx;rw [List.take_add_one,h,List.flatMap_append];simp

section
variable {w : World} {G : RuleS → Prop} {a b : Option Addr} {n m c d : Nat} {xs ys : List RuleS}
theorem zoz (i:Bool) (y z:List UInt8) (w:World):CallC Tryz.prog 215 #[.bool i,.string (bs y),.string (bs z)] w fun v w'=>v = .string (bs (if i=true then y else z))∧Ext No w w':=by
 refine zaa tabOk Tryz.func215 (by kernel_rfl) rfl Tryz.ntmps215 (lbO rfl) ?_;have hS:=St.start w No;cases i
 ·repeat' ((conv=>whnf);first|apply RetC.mk|refine rgO ?_|refine ixO ?_|(first|apply brD|apply zad|apply brN|apply brI)<;>(intro))
  exact ⟨rfl,hS.ext⟩
 ·repeat' ((conv=>whnf);first|apply RetC.mk|refine rgO ?_|refine ixO ?_|(first|apply brD|apply zad|apply brN|apply brI)<;>(intro))
  exact ⟨rfl,hS.ext⟩
theorem zsM (r:RuleS) (hr:zui r) (hp:0≤r.proto∧r.proto≤2) (w:World) (ht:Pow10 w) (hP:Protos w):CallC Tryz.prog 116 #[.agg (zal r).toArray] w fun v w'=>v = .string (bs r.line)∧Ext No w w':=by
 have hlen:=zmY r hr.1 hr.2;have e1:=Lib.itoa_length_le r.low hr.1.1 hr.1.2;have e2:=Lib.itoa_length_le r.top hr.2.1 hr.2.2;refine zaa tabOk Tryz.func116 (by kernel_rfl) rfl Tryz.ntmps116 (lbO rfl) ?_;have hS:=St.start w No;(conv=>whnf);refine hS.new (fun b w' hb hS=>?_);replace hS:St w No w' [blk b 98 (zal r)]:=hS;(conv=>whnf)
 (refine zah tabOk mixed [] (No) [0,1,3,4,6,7,8,9,10,11,14,15,2,5,12,13,16,17,18,19,20] (by kernel_rfl) ?_;rintro w1 rfl;replace hS:=hS.drew)
 conv=>whnf
 refine hS.ldF 0 rfl rfl id ?_;(conv=>whnf);refine hS.ldF 0 rfl rfl id ?_;(conv=>whnf);refine hS.ldF 0 rfl rfl id ?_;(conv=>whnf);refine ixO ?_;(conv=>whnf)
 refine hS.ldrF (v:=.string (bs (zcU r.proto))) (by
  have:r.proto=0∨r.proto=1∨r.proto=2:=by omega
  rcases this with h|h|h
  ·rw [h];exact hP.one 0 rfl
  ·rw [h];exact hP.one 1 rfl
  ·rw [h];exact hP.one 2 rfl) id id ?_
 conv=>whnf
 refine hS.ldF 0 rfl rfl id ?_;(conv=>whnf);refine hS.ldF 0 rfl rfl id ?_;(conv=>whnf);refine (zoz r.allow zb6 zhP _).mono ?_;rintro v w1 ⟨rfl,hx'⟩;replace hS:=hS.no hx';have hK:=hx';refine KeepC.mk hK ?_;clear hx';(conv=>whnf);refine (zoz r.out zjA sIn _).mono ?_;rintro v w2 ⟨rfl,hx'⟩;replace hS:=hS.no hx';replace hK:=hK.trans hx';refine KeepC.mk hK ?_;clear hx';(conv=>whnf);refine (zb9 r.low hr.1.1 hr.1.2 _ (ht.no hS.ext)).mono ?_;rintro v w3 ⟨rfl,hx'⟩;replace hS:=hS.no hx';replace hK:=hK.trans hx';refine KeepC.mk hK ?_;clear hx';(conv=>whnf);refine zbp (b:=[45]) (by simp;omega) ?_;(conv=>whnf);refine (zb9 r.top hr.2.1 hr.2.2 _ (ht.no hS.ext)).mono ?_;rintro v w4 ⟨rfl,hx'⟩;replace hS:=hS.no hx';replace hK:=hK.trans hx';refine KeepC.mk hK ?_;clear hx';(conv=>whnf);refine zbp (by simp;omega) ?_;(conv=>whnf);refine hS.litX (cs:=r.words.map fun l=>.string (bs l)) Tryz.underlying22 (sz:=1) (by kernel_rfl) (z:=.string (bs [])) (by kernel_rfl) rfl rfl (by rfl) (fun bl w5 hbl hx' hS=>?_);replace hK:=hK.trans hx';refine KeepC.mk hK ?_;clear hx';have hc:CellsAt w5 bl 0 (r.words.map fun l=>.string (bs l)):=(hS.blk 1 rfl).cells rfl;(conv=>whnf);refine (zlg r.words [32] _ rfl hc (by show 0 < 4;decide) (Nat.le_refl _) (by show r.line.length≤_;omega) (by show 4≤_;decide)).mono ?_;rintro v w6 ⟨rfl,hx'⟩;replace hS:=hS.no hx';replace hK:=hK.trans hx';refine KeepC.mk hK ?_;repeat' ((conv=>whnf);first|apply RetC.mk|refine rgO ?_|refine ixO ?_|(first|apply brD|apply zad|apply brN|apply brI)<;>(intro))
 exact ⟨rfl,hS.ext⟩
end
def zg4 (b:UInt8):Bool:=decide (48≤b.toNat∧b.toNat≤57)
def zh2 (l:List UInt8):Nat:=l.foldl (fun n b=>10 * n+(b.toNat - 48)) 0
theorem zi8 (l:List UInt8) (b:UInt8):zh2 (l++[b])=10 * zh2 l+(b.toNat - 48):=by
 unfold zh2;rw [List.foldl_append];rfl
def zbD (s:List UInt8) (most:Nat):Int:=if s.length < 1∨s.length > most∨(s.length > 1∧s[0]?=some 48) then -1 else if s.all zg4=true then (zh2 s:Nat) else -1
structure Canon (l:List UInt8):Prop where
 ne:l≠[]
 dig:∀ b∈l,zg4 b=true
 lead:1 < l.length→l[0]?≠some 48
theorem isDig_iff {b:UInt8}:zg4 b=true↔48≤b.toNat∧b.toNat≤57:=decide_eq_true_iff
theorem zuM {b:UInt8}(h:48≤b.toNat):UInt8.ofNat (48+(b.toNat - 48))=b:=by
 rw [show 48+(b.toNat - 48)=b.toNat by omega];exact UInt8.ofNat_toNat
theorem zcG {s:List UInt8}{most:Nat}(h:0≤zbD s most):Canon s∧s.length≤most∧zbD s most=(zh2 s:Nat):=by
 unfold zbD at h ⊢;split at h
 ·omega
 rename_i h1;rw [if_neg h1];split at h
 ·rename_i h2;rw [if_pos h2];refine ⟨⟨fun e=>?_,fun b hb=>List.all_eq_true.1 h2 b hb,fun hl e=>h1 (.inr (.inr ⟨hl,e⟩))⟩,by omega,rfl⟩;subst e;simp at h1
 ·omega
theorem zin {s:List UInt8}{most:Nat}(h:Canon s) (hl:s.length≤most):zbD s most=(zh2 s:Nat):=by
 unfold zbD;have hne:=h.ne
 have h0:1≤s.length:=by
  cases s with
  | nil=>exact absurd rfl hne
  | cons b s=>simp
 rw [if_neg (by
  rintro (h1|h1 | ⟨h1,h2⟩)
  ·omega
  ·omega
  ·exact h.lead h1 h2),if_pos (List.all_eq_true.2 h.dig)]
theorem zn5 {l:List UInt8}{b:UInt8}(h:Canon (l++[b])) (hl:l≠[]):Canon l∧1≤zh2 l:=by
 have hlen:1≤l.length:=by
  cases l with
  | nil=>exact absurd rfl hl
  | cons _ _=>simp
 have hlead:l[0]?≠some 48:=by
  have:=h.lead (by simp;omega)
  rwa [List.getElem?_append_left (by omega)] at this
 have hd:∀ c∈l,zg4 c=true:=fun c hc=>h.dig c (List.mem_append_left _ hc)
 refine ⟨⟨hl,hd,fun _=>hlead⟩,?_⟩
 have key:∀ (n:Nat) (l:List UInt8),l.length=n+1→l[0]?≠some 48→(∀ c∈l,zg4 c=true)→1≤zh2 l:=by
  intro n
  induction n with
  | zero =>
   intro l h1 h2 h3
   match l,h1 with
   | [c],_ =>
    have hc:=isDig_iff.1 (h3 c List.mem_cons_self)
    have hne:c.toNat≠48:=fun e=>h2 (by
     have:c=48:=UInt8.toNat_inj.1 e;subst this;rfl)
    show 1≤10 * 0+(c.toNat - 48);omega
  | succ n ih =>
   intro l h1 h2 h3;obtain ⟨r,c,rfl⟩:∃ r c,l=r++[c]:=⟨l.dropLast,l.getLast (by intro e;subst e;cases h1),(List.dropLast_concat_getLast _).symm⟩;rw [List.length_append,List.length_singleton] at h1;rw [List.getElem?_append_left (by omega)] at h2;have:=ih r (by omega) h2 fun c hc=>h3 c (List.mem_append_left _ hc)
   rw [zi8];omega
 exact key (l.length - 1) l (by omega) hlead hd
theorem zkf:∀ (n:Nat) (l:List UInt8),l.length=n+1→Canon l→Lib.decDigits (zh2 l)=l:=by
 intro n
 induction n with
 | zero =>
  intro l h1 h
  match l,h1 with
  | [c],_ =>
   have hc:=isDig_iff.1 (h.dig c List.mem_cons_self);have hv:zh2 [c]=c.toNat - 48:=by show 10 * 0+(c.toNat - 48)=_;omega
   rw [hv,Lib.decDigits_one (by omega),zuM hc.1]
 | succ n ih =>
  intro l h1 h;obtain ⟨r,c,rfl⟩:∃ r c,l=r++[c]:=⟨l.dropLast,l.getLast (by intro e;subst e;cases h1),(List.dropLast_concat_getLast _).symm⟩;rw [List.length_append,List.length_singleton] at h1;obtain ⟨g1,g2⟩:=zn5 h (by intro e;subst e;simp at h1);have hc:=isDig_iff.1 (h.dig c (List.mem_append_right _ (List.mem_singleton.2 rfl)));rw [zi8,Lib.decDigits,dif_neg (by omega),show (10 * zh2 r+(c.toNat - 48)) / 10=zh2 r by omega,show (10 * zh2 r+(c.toNat - 48)) % 10=c.toNat - 48 by omega,ih r (by omega) g1,zuM hc.1]
theorem zjZ:∀ n:Nat,Lib.decDigits n≠[]∧(∀ b∈Lib.decDigits n,zg4 b=true)∧(1≤n→(Lib.decDigits n)[0]?≠some 48)∧zh2 (Lib.decDigits n)=n∧(n < 10→(Lib.decDigits n).length=1):=by
 intro n
 induction n using Nat.strongRecOn with
 | ind n ih =>
  by_cases h:n < 10
  ·rw [Lib.decDigits_one h]
   have ht:(UInt8.ofNat (48+n)).toNat=48+n:=by
    rw [UInt8.toNat_ofNat'];omega
   refine ⟨by simp,fun b hb=>?_,fun h1=>?_,?_,fun _=>rfl⟩
   ·obtain rfl:=List.mem_singleton.1 hb;rw [isDig_iff,ht];omega
   ·simp only [List.getElem?_cons_zero,ne_eq,Option.some.injEq];intro e;have:=congrArg UInt8.toNat e;rw [ht] at this;have h48:(48:UInt8).toNat=48:=rfl;omega
   ·show 10 * 0+((UInt8.ofNat (48+n)).toNat - 48)=n;rw [ht];omega
  ·obtain ⟨i1,i2,i3,i4,_⟩:=ih (n / 10) (by omega);rw [Lib.decDigits,dif_neg h]
   have ht:(UInt8.ofNat (48+n % 10)).toNat=48+n % 10:=by
    rw [UInt8.toNat_ofNat'];omega
   have hl:0 < (Lib.decDigits (n / 10)).length:=List.length_pos_iff.2 i1;refine ⟨by simp,fun b hb=>?_,fun h1=>?_,?_,fun h1=>absurd h1 h⟩
   ·rcases List.mem_append.1 hb with hb|hb
    ·exact i2 b hb
    ·obtain rfl:=List.mem_singleton.1 hb;rw [isDig_iff,ht];omega
   ·rw [List.getElem?_append_left hl];exact i3 (by omega)
   ·rw [zi8,i4,ht];omega
theorem zpD (n:Nat):Canon (Lib.decDigits n):=by
 obtain ⟨h1,h2,h3,_,h5⟩:=zjZ n
 exact ⟨h1,h2,fun hl=>h3 (by
  refine Nat.le_of_not_lt fun h=>?_
  have:=h5 (by omega);omega)⟩
theorem zfw (n:Nat):Lib.itoa (n:Int)=Lib.decDigits n:=by
 unfold Lib.itoa;rw [if_neg (by omega),Int.toNat_natCast]
theorem zh9 {s:List UInt8}(h:Canon s):Lib.itoa (zh2 s:Nat)=s:=by
 rw [zfw];refine zkf (s.length - 1) s ?_ h;have:=List.length_pos_iff.2 h.ne;omega
theorem zaM {v:Int}(h:0≤v):Canon (Lib.itoa v)∧(zh2 (Lib.itoa v):Int)=v:=by
 obtain ⟨n,rfl⟩:∃ n:Nat,v=n:=⟨v.toNat,by omega⟩;rw [zfw];exact ⟨zpD n,by rw [(zjZ n).2.2.2.1]⟩
theorem zj5:∀ (l:List UInt8) (acc:Nat),(∀ b∈l,zg4 b=true)→(acc+1) * 10 ^ l.length≤1000000000000000000→Lib.parseUint10 acc l = .ok (l.foldl (fun n b=>10 * n+(b.toNat - 48)) acc)
 | [],_,_,_=>rfl
 | b::l,acc,h,hb=>by
  have hd:=isDig_iff.1 (h b List.mem_cons_self);rw [List.length_cons,Nat.pow_succ] at hb
  have h1:(acc * 10+(b.toNat - 48)+1) * 10 ^ l.length≤1000000000000000000:=by
   refine Nat.le_trans (Nat.mul_le_mul_right _ (show acc * 10+(b.toNat - 48)+1≤(acc+1) * 10 by omega)) ?_;rw [Nat.mul_assoc,Nat.mul_comm 10];exact hb
  have h10:1≤10 ^ l.length:=Nat.one_le_pow _ _ (by omega);have h2:acc * 10+(b.toNat - 48)+1≤1000000000000000000:=Nat.le_trans (Nat.le_mul_of_pos_right _ h10) h1;simp only [Lib.parseUint10];rw [if_pos hd,if_neg (by omega),if_neg (by omega),zj5 l _ (fun c hc=>h c (List.mem_cons_of_mem _ hc)) h1,List.foldl_cons,Nat.mul_comm acc]
theorem zfY {s:List UInt8}(h:Canon s) (hl:s.length≤18):Lib.atoiAll s = .ok (zh2 s:Nat):=by
 obtain ⟨c,r,rfl⟩:∃ c r,s=c::r:=by
  cases s with
  | nil=>exact absurd rfl h.ne
  | cons c r=>exact ⟨c,r,rfl⟩
 have hd:=isDig_iff.1 (h.dig c List.mem_cons_self)
 have hp:(0+1) * 10 ^ (c::r).length≤1000000000000000000:=by
  rw [Nat.zero_add,Nat.one_mul];exact Nat.pow_le_pow_right (by omega) hl
 have hv:=zj5 (c::r) 0 h.dig hp
 have hlt:zh2 (c::r) < 1000000000000000001:=by
  have key:∀ (l:List UInt8) (acc:Nat),(∀ b∈l,zg4 b=true)→l.foldl (fun n b=>10 * n+(b.toNat - 48)) acc < (acc+1) * 10 ^ l.length:=by
   intro l
   induction l with
   | nil=>intro acc _;simp
   | cons b l ih =>
    intro acc hb;have hd:=isDig_iff.1 (hb b List.mem_cons_self);have:=ih (10 * acc+(b.toNat - 48)) fun c hc=>hb c (List.mem_cons_of_mem _ hc)
    rw [List.foldl_cons,List.length_cons,Nat.pow_succ];refine Nat.lt_of_lt_of_le this ?_;rw [Nat.mul_comm (10 ^ l.length) 10,← Nat.mul_assoc];exact Nat.mul_le_mul_right _ (by omega)
  exact Nat.lt_succ_of_le (Nat.le_trans (Nat.le_of_lt (key (c::r) 0 h.dig)) hp)
 unfold Lib.atoiAll;dsimp only;rw [if_neg (by omega)];unfold Lib.parseMag;rw [if_neg (by simp),hv];dsimp only;show (if ¬ c.toNat=45∧9223372036854775808≤zh2 (c::r) then _ else _)=_;rw [if_neg (by omega),if_neg (by omega),if_neg (by omega)];rfl
def zbg (c:UInt8):List UInt8→List (List UInt8)
 | []=>[[]]
 | b::l=>if b=c then []::zbg c l else match zbg c l with
  | w::ws=>(b::w)::ws
  | []=>[[b]]
theorem ztP (c:UInt8) (l:List UInt8):zbg c l≠[]:=by
 cases l with
 | nil=>simp [zbg]
 | cons b l =>
  unfold zbg;split
  ·simp
  ·split<;>simp
theorem zcM (c:UInt8) (l:List UInt8):∃ w ws,zbg c l=w::ws:=by
 cases h:zbg c l with
 | nil=>exact absurd h (ztP c l)
 | cons w ws=>exact ⟨w,ws,rfl⟩
theorem zhr (c:UInt8) (l:List UInt8):zbg c (c::l)=[]::zbg c l:=by
 show (if c=c then _ else _)=_;rw [if_pos rfl]
theorem zcH {c b:UInt8}{l:List UInt8}(h:b≠c) {w:List UInt8}{ws:List (List UInt8)}(hw:zbg c l=w::ws):zbg c (b::l)=(b::w)::ws:=by
 show (if b=c then _ else match zbg c l with|w::ws=>_ | []=>_)=_;rw [if_neg h,hw]
theorem zbJ {c:UInt8}:∀ (w l:List UInt8),c ∉ w→zbg c (w++c::l)=w::zbg c l
 | [],l,_=>zhr c l
 | b::w,l,h=>by
  have hb:b≠c:=fun e=>h (e ▸ List.mem_cons_self)
  exact zcH hb (zbJ w l fun hc=>h (List.mem_cons_of_mem _ hc))
theorem zem {c:UInt8}:∀ (w:List UInt8),c ∉ w→zbg c w=[w]
 | [],_=>rfl
 | b::w,h=>by
  have hb:b≠c:=fun e=>h (e ▸ List.mem_cons_self)
  exact zcH hb (zem w fun hc=>h (List.mem_cons_of_mem _ hc))
theorem zcu (x y:List UInt8) (r:List (List UInt8)) (sep:List UInt8):Lib.join (x::y::r) sep=x++(sep++Lib.join (y::r) sep):=by
 rw [Lib.join_cons,Lib.join_cons];simp [Lib.joinTail,List.append_assoc]
theorem zfr {c:UInt8}:∀ (ws:List (List UInt8)),ws≠[]→(∀ w∈ws,c ∉ w)→zbg c (Lib.join ws [c])=ws
 | [],h,_=>absurd rfl h
 | [w],_,h=>by
  rw [Lib.join_one];exact zem w (h w List.mem_cons_self)
 | w::v::r,_,h=>by
  rw [zcu,List.singleton_append,zbJ w _ (h w List.mem_cons_self),zfr (v::r) (by simp) fun u hu=>h u (List.mem_cons_of_mem _ hu)]
theorem zcm (c:UInt8):∀ l:List UInt8,Lib.join (zbg c l) [c]=l
 | []=>Lib.join_one _ _
 | b::l=>by
  have ih:=zcm c l;obtain ⟨w,ws,hw⟩:=zcM c l;by_cases h:b=c
  ·subst h;rw [zhr,hw,zcu,← hw,ih];rfl
  ·rw [zcH h hw];rw [hw] at ih;rw [Lib.join_cons] at ih ⊢;rw [List.cons_append,ih]
theorem zlS {c:UInt8}:∀ (l w:List UInt8),w∈zbg c l→c ∉ w
 | [],w,h=>by
  obtain rfl:=List.mem_singleton.1 h;simp
 | b::l,w,h=>by
  obtain ⟨v,vs,hv⟩:=zcM c l;have ih:=zlS (c:=c) l;rw [hv] at ih;by_cases hb:b=c
  ·subst hb;rw [zhr,hv] at h;rcases List.mem_cons.1 h with rfl|h
   ·simp
   ·exact ih w h
  ·rw [zcH hb hv] at h;rcases List.mem_cons.1 h with rfl|h
   ·intro hc;rcases List.mem_cons.1 hc with e|hc
    ·exact hb e.symm
    ·exact ih v List.mem_cons_self hc
   ·exact ih w (List.mem_cons_of_mem _ h)
def zdq (c:UInt8) (p:List (List UInt8) × List UInt8) (b:UInt8):List (List UInt8) × List UInt8:=if b=c then (p.1++[p.2],[]) else (p.1,p.2++[b])
def zuW (c:UInt8) (l:List UInt8):List (List UInt8) × List UInt8:=l.foldl (zdq c) ([],[])
theorem ziB (c:UInt8):∀ (l:List UInt8) (out:List (List UInt8)) (w v:List UInt8) (vs:List (List UInt8)),zbg c l=v::vs→(l.foldl (zdq c) (out,w)).1++[(l.foldl (zdq c) (out,w)).2]=out++((w++v)::vs)
 | [],out,w,v,vs,h=>by
  cases h;simp
 | b::l,out,w,v,vs,h=>by
  obtain ⟨u,us,hu⟩:=zcM c l;rw [List.foldl_cons];by_cases hb:b=c
  ·subst hb;rw [zhr,hu] at h;cases h;have:=ziB b l (out++[w]) [] u us hu;rw [show zdq b (out,w) b=(out++[w],[]) from if_pos rfl,this];simp
  ·rw [zcH hb hu] at h;obtain ⟨rfl,rfl⟩:=List.cons.inj h;have:=ziB c l out (w++[b]) u us hu;rw [show zdq c (out,w) b=(out,w++[b]) from if_neg hb,this];simp
theorem zpW (c:UInt8) (l:List UInt8):(zuW c l).1++[(zuW c l).2]=zbg c l:=by
 obtain ⟨v,vs,h⟩:=zcM c l;rw [h];exact ziB c l [] [] v vs h
theorem zqC (c:UInt8) (l:List UInt8):(zuW c l).1.length≤l.length∧(zuW c l).2.length≤l.length:=by
 have key:∀ (l:List UInt8) (p:List (List UInt8) × List UInt8),(l.foldl (zdq c) p).1.length≤p.1.length+l.length∧(l.foldl (zdq c) p).2.length≤p.2.length+l.length:=by
  intro l
  induction l with
  | nil=>exact fun p=>⟨Nat.le_refl _,Nat.le_refl _⟩
  | cons b l ih =>
   intro p;obtain ⟨h1,h2⟩:=ih (zdq c p b);rw [List.foldl_cons,List.length_cons];unfold zdq at h1 h2 ⊢;split at h1
   ·rename_i hb;rw [if_pos hb] at h2 ⊢;simp only [List.length_append,List.length_singleton,List.length_nil] at h1 h2;omega
   ·rename_i hb;rw [if_neg hb] at h2 ⊢;simp only [List.length_append,List.length_singleton] at h1 h2;omega
 have:=key l ([],[]);simp only [List.length_nil,Nat.zero_add] at this;exact this
theorem ziA (c:UInt8) (l:List UInt8):(zbg c l).length≤l.length+1:=by
 rw [← zpW,List.length_append,List.length_singleton];have:=(zqC c l).1;omega
theorem zeJ (c:UInt8):∀ (s:List UInt8) (k:Nat),s.count c≤k→Lib.splitK [c] 0 k s=zbg c s
 | [],0,_=>rfl
 | [],k+1,_=>by
  unfold Lib.splitK;rfl
 | b::l,k,h=>by
  obtain ⟨w,ws,hw⟩:=zcM c l;by_cases hb:b=c
  ·subst hb;rw [List.count_cons_self] at h;obtain ⟨k,rfl⟩:∃ j,k=j+1:=⟨k - 1,by omega⟩
   have hi:Lib.index (b::l) [b]=0:=by
    unfold Lib.index;rw [if_pos (by simp)]
   unfold Lib.splitK;rw [hi,if_neg (by decide),zhr,← zeJ b l k (by omega)];rfl
  ·rw [List.count_cons_of_ne hb] at h;rw [zcH hb hw];have ih:=zeJ c l k h;rw [hw] at ih;cases k with
   | zero =>
    cases ih;rfl
   | succ k =>
    have hi:Lib.index (b::l) [c]=if Lib.index l [c] == -1 then -1 else Lib.index l [c]+1:=by
     show (if ([c]:List UInt8).isPrefixOf (b::l)=true then _ else _)=_;rw [if_neg (by simp [List.isPrefixOf,Ne.symm hb])]
    have hge:=Lib.index_ge l [c];unfold Lib.splitK at ih ⊢;rw [hi];by_cases hm:Lib.index l [c] == -1
    ·rw [if_pos hm] at ih ⊢;rw [if_pos (by decide)];cases ih;rfl
    ·rw [if_neg hm] at ih ⊢;have hne:Lib.index l [c]≠-1:=fun e=>hm (by rw [e];rfl)
     rw [if_neg (by simp;omega)];obtain ⟨e1,e2⟩:=List.cons.inj ih;have ht:(Lib.index l [c]+1).toNat=(Lib.index l [c]).toNat+1:=by omega
     rw [ht,← e1,← e2];simp only [Nat.add_zero,List.take_succ_cons,List.length_singleton,List.drop_succ_cons]
theorem zfF {c:UInt8}{l a b:List UInt8}{r:List (List UInt8)}(h:zbg c l=a::b::r):Lib.cut l [c]=(a,Lib.join (b::r) [c],true):=by
 have hl:=zcm c l;have hna:=zlS (c:=c) l a (by rw [h];exact List.mem_cons_self);rw [h,zcu,List.singleton_append] at hl
 have hi:∀ (a t:List UInt8),c ∉ a→Lib.index (a++c::t) [c]=(a.length:Int):=by
  intro a
  induction a with
  | nil =>
   intro t _;show (if ([c]:List UInt8).isPrefixOf (c::t)=true then (0:Int) else _)=_;rw [if_pos (by simp)];rfl
  | cons x a ih =>
   intro t hx;have hxc:x≠c:=fun e=>hx (e ▸ List.mem_cons_self)
   have h2:=ih t fun hc=>hx (List.mem_cons_of_mem _ hc)
   show (if ([c]:List UInt8).isPrefixOf (x::(a++c::t))=true then (0:Int) else if Lib.index (a++c::t) [c] == -1 then -1 else Lib.index (a++c::t) [c]+1)=_;rw [if_neg (by simp [List.isPrefixOf,Ne.symm hxc]),h2,if_neg (by simp only [beq_iff_eq];omega),List.length_cons];omega
 rw [← hl];unfold Lib.cut;rw [hi a _ hna,if_pos (by omega),Int.toNat_natCast,List.take_left,List.length_singleton];congr 2;rw [show a.length+1=(a++[c]).length by simp,show a++c::Lib.join (b::r) [c]=(a++[c])++Lib.join (b::r) [c] by simp];exact List.drop_left
theorem zrL {c:UInt8}{l:List UInt8}(h:zbg c l=[l]):Lib.cut l [c]=(l,[],false):=by
 have hn:c ∉ l:=zlS l l (by rw [h];exact List.mem_cons_self)
 have hi:∀ a:List UInt8,c ∉ a→Lib.index a [c] = -1:=by
  intro a
  induction a with
  | nil=>intro _;rfl
  | cons x a ih =>
   intro hx;have hxc:x≠c:=fun e=>hx (e ▸ List.mem_cons_self)
   have h2:=ih fun hc=>hx (List.mem_cons_of_mem _ hc)
   show (if ([c]:List UInt8).isPrefixOf (x::a)=true then (0:Int) else if Lib.index a [c] == -1 then -1 else Lib.index a [c]+1)=_;rw [if_neg (by simp [List.isPrefixOf,Ne.symm hxc]),h2];rfl
 unfold Lib.cut;rw [hi l hn,if_neg (by decide)]
def zcT (w:List UInt8):Int:=if w=zrR then 0 else if w=znh then 1 else if w=znf then 2 else -1
def zbN (s:List UInt8):Option RuleS:=match zbg 32 s with
 | [a,b,p,n]=>if (a=zb6∨a=zhP)∧(b=zjA∨b=sIn)∧0≤zcT p then (match zbg 45 n with
  | [x,y]=>if 0≤zbD x 5∧0≤zbD y 5 then some ⟨decide (a=zb6),decide (b=zjA),zcT p,zbD x 5,zbD y 5⟩ else none
  | _=>none) else none
 | _=>none
theorem zmH {p:List UInt8}(h:0≤zcT p):zcU (zcT p)=p∧zcT p≤2:=by
 unfold zcT at h ⊢;split
 ·rename_i e;exact ⟨e.symm,by decide⟩
 split
 ·rename_i e;exact ⟨e.symm,by decide⟩
 split
 ·rename_i e;exact ⟨e.symm,by decide⟩
 ·rename_i e1 e2 e3;rw [if_neg e1,if_neg e2,if_neg e3] at h;exact absurd h (by decide)
theorem zb0 {l:List UInt8}(h:Canon l) {c:UInt8}(hc:zg4 c=false):c ∉ l:=fun hm=>by
 rw [h.dig c hm] at hc;cases hc
theorem zrI {r:RuleS}(h1:0≤r.low) (h2:0≤r.top):∀ w∈r.words,(32:UInt8) ∉ w:=by
 intro w hw;unfold RuleS.words at hw;rcases List.mem_cons.1 hw with rfl|hw
 ·split<;>decide
 rcases List.mem_cons.1 hw with rfl|hw
 ·split<;>decide
 rcases List.mem_cons.1 hw with rfl|hw
 ·unfold zcU;split
  ·decide
  split
  ·decide
  ·decide
 obtain rfl:=List.mem_singleton.1 hw;intro hm;rcases List.mem_append.1 hm with hm|hm
 ·rcases List.mem_append.1 hm with hm|hm
  ·exact zb0 (zaM h1).1 (by decide) hm
  ·simp at hm
 ·exact zb0 (zaM h2).1 (by decide) hm
theorem zl5 {r:RuleS}(h1:0≤r.low) (h2:0≤r.top):zbg 32 r.line=r.words:=zfr _ (by simp [RuleS.words]) (zrI h1 h2)
theorem zmb {x y:List UInt8}(h1:Canon x) (h2:Canon y):zbg 45 (x++[45]++y)=[x,y]:=by
 rw [List.append_assoc,List.singleton_append,zbJ x y (zb0 h1 (by decide)),zem y (zb0 h2 (by decide))]
theorem zjU {x:List UInt8}(h:0≤zbD x 5):Lib.itoa (zbD x 5)=x:=by
 obtain ⟨h1,_,h3⟩:=zcG h;rw [h3];exact zh9 h1
theorem zjH {s a b p n:List UInt8}(hw:zbg 32 s=[a,b,p,n]) {x y:List UInt8}{k:Bool}(hc:Lib.cut n [45]=(x,y,k)) (hp:0≤zcT p) (hx:0≤zbD x 5) (hy:0≤zbD y 5) :
  ((⟨decide (a=zb6),decide (b=zjA),zcT p,zbD x 5,zbD y 5⟩:RuleS).line=s↔zbN s=some ⟨decide (a=zb6),decide (b=zjA),zcT p,zbD x 5,zbD y 5⟩):=by
 generalize hr:(⟨decide (a=zb6),decide (b=zjA),zcT p,zbD x 5,zbD y 5⟩:RuleS)=r
 have hwords:r.words=[if decide (a=zb6)=true then zb6 else zhP,if decide (b=zjA)=true then zjA else sIn,p,x++[45]++y]:=by
  subst hr;unfold RuleS.words;dsimp only;rw [(zmH hp).1,zjU hx,zjU hy]
 have hcx:=(zcG hx).1;have hcy:=(zcG hy).1;constructor
 ·intro hl;have h1:=zl5 (r:=r) (by rw [← hr];exact hx) (by rw [← hr];exact hy);rw [hl,hw,hwords] at h1;obtain ⟨g1,h1⟩:=List.cons.inj h1;obtain ⟨g2,h1⟩:=List.cons.inj h1;obtain ⟨_,h1⟩:=List.cons.inj h1;obtain ⟨g4,_⟩:=List.cons.inj h1
  have ga:a=zb6∨a=zhP:=by
   by_cases ha:a=zb6
   ·exact .inl ha
   ·rw [decide_eq_false ha,if_neg (by decide)] at g1;exact .inr g1
  have gb:b=zjA∨b=sIn:=by
   by_cases hb:b=zjA
   ·exact .inl hb
   ·rw [decide_eq_false hb,if_neg (by decide)] at g2;exact .inr g2
  unfold zbN;rw [hw];dsimp only;rw [if_pos ⟨ga,gb,hp⟩,g4,zmb hcx hcy];dsimp only;rw [if_pos ⟨hx,hy⟩,hr]
 ·intro h;unfold zbN at h;rw [hw] at h;dsimp only at h;split at h
  ·rename_i hab;obtain ⟨ha,hb,_⟩:=hab;split at h
   ·rename_i x' y' hn;have hcut:=zfF hn;rw [Lib.join_one,hc] at hcut;obtain ⟨e1,e2⟩:=Prod.mk.inj hcut;obtain ⟨e2,_⟩:=Prod.mk.inj e2
    have hn2:n=x++[45]++y:=by
     have:=zcm 45 n;rw [hn,zcu,Lib.join_one,← e1,← e2] at this;rw [← this];simp
    have hws:r.words=[a,b,p,n]:=by
     rw [hwords,hn2];congr 1
     ·rcases ha with rfl|rfl<;>decide
     ·congr 1;rcases hb with rfl|rfl<;>decide
    unfold RuleS.line;rw [hws,← hw];exact zcm 32 s
   ·cases h
  ·cases h
theorem zcs {s a b p n:List UInt8}(hw:zbg 32 s=[a,b,p,n]) {x y:List UInt8}{k:Bool}(hc:Lib.cut n [45]=(x,y,k)) (h:zcT p < 0∨zbD x 5 < 0∨zbD y 5 < 0):zbN s=none:=by
 unfold zbN;rw [hw];dsimp only;split
 ·rename_i hab;split
  ·rename_i x' y' hn;have hcut:=zfF hn;rw [Lib.join_one,hc] at hcut;obtain ⟨e1,e2⟩:=Prod.mk.inj hcut;obtain ⟨e2,_⟩:=Prod.mk.inj e2;subst e1 e2;rw [if_neg (by have:=hab.2.2;omega)]
  ·rfl
 ·rfl
theorem ziI {s:List UInt8}(h:(zbg 32 s).length≠4):zbN s=none:=by
 unfold zbN;split
 ·rename_i hw;rw [hw] at h;exact absurd rfl h
 ·rfl
theorem zsy {s:List UInt8}(h:(zbg 32 s).length=4):∃ a b p n,zbg 32 s=[a,b,p,n]:=by
 generalize zbg 32 s=l at h
 match l,h with
 | [a,b,p,n],_=>exact ⟨a,b,p,n,rfl⟩
def zbb:List (List UInt8)→Nat→List RuleS × Option Nat
 | [],_=>([],none)
 | t::l,i=>match zbN t with
  | some r=>(r::(zbb l (i+1)).1,(zbb l (i+1)).2)
  | none=>([],some i)
def zeP (s:List UInt8):List UInt8:=if s.getLast?=some 10 then s.dropLast else s
def za4 (s:List UInt8):List RuleS × (Nat × Int) :=
 if s.length > 3000 then ([],(2,-1)) else if s=[] then ([],(0,-1)) else
 match (zbb (zbg 10 (zeP s)) 0).2 with
 | some i=>([],(1,(i:Int)))
 | none=>if (za2 (zbb (zbg 10 (zeP s)) 0).1).1≠0 then ([],za2 (zbb (zbg 10 (zeP s)) 0).1) else ((zbb (zbg 10 (zeP s)) 0).1,(0,-1))
theorem ziP:∀ (k n:Nat),n < 10 ^ (k+1)→(Lib.decDigits n).length≤k+1
 | 0,n,h=>by
  rw [Lib.decDigits_one (by omega)];simp
 | k+1,n,h=>by
  rw [Lib.decDigits];split
  ·simp
  ·rw [List.length_append,List.length_singleton];have:=ziP k (n / 10) (by rw [Nat.div_lt_iff_lt_mul (by decide),← Nat.pow_succ];exact h);omega
theorem zha {v:Int}(h0:0≤v) (h1:v < 100000):(Lib.itoa v).length≤5:=by
 obtain ⟨n,rfl⟩:∃ n:Nat,v=n:=⟨v.toNat,by omega⟩;rw [zfw];exact ziP 4 n (by omega)
theorem zdP {v:Int}(h0:0≤v) (h1:v < 100000):zbD (Lib.itoa v) 5=v:=by
 obtain ⟨g1,g2⟩:=zaM h0;rw [zin g1 (zha h0 h1),g2]
theorem zoU {p:Int}(h0:0≤p) (h1:p≤2):zcT (zcU p)=p:=by
 have:p=0∨p=1∨p=2:=by omega
 rcases this with rfl|rfl|rfl<;>decide
theorem zhc {r:RuleS}(h:r.bad=false):0≤r.proto∧r.proto≤2∧1≤r.low∧r.low≤r.top∧r.top≤65535:=by
 have h:¬ (r.proto < 0∨r.proto > 2∨r.low < 1∨r.low > r.top∨r.top > 65535):=of_decide_eq_false h;omega
theorem zkp {r:RuleS}(h:r.bad=false):zbN r.line=some r:=by
 obtain ⟨h1,h2,h3,h4,h5⟩:=zhc h;have hl:0≤r.low:=by omega
 have ht:0≤r.top:=by omega
 unfold zbN;rw [zl5 hl ht];unfold RuleS.words;dsimp only;rw [zoU h1 h2,zmb (zaM hl).1 (zaM ht).1];dsimp only;rw [zdP hl (by omega),zdP ht (by omega),if_pos ⟨by cases r.allow<;>simp,by cases r.out<;>simp,h1⟩,if_pos ⟨hl,ht⟩];obtain ⟨a,o,p,lo,tp⟩:=r;cases a<;>cases o<;>rfl
theorem zeB:∀ (l:List RuleS) (i:Nat),(∀ r∈l,r.bad=false)→zbb (l.map RuleS.line) i=(l,none)
 | [],_,_=>rfl
 | r::l,i,h=>by
  have ih:=zeB l (i+1) fun x hx=>h x (List.mem_cons_of_mem _ hx)
  rw [List.map_cons];unfold zbb;rw [zkp (h r List.mem_cons_self)];dsimp only;rw [ih]
theorem zgI {c:UInt8}{sep:List UInt8}:∀ (ws:List (List UInt8)),c∈Lib.join ws sep→c∈sep∨∃ w∈ws,c∈w
 | [],h=>by simp [Lib.join] at h
 | [w],h=>by
  rw [Lib.join_one] at h;exact .inr ⟨w,List.mem_cons_self,h⟩
 | w::v::r,h=>by
  rw [zcu] at h;rcases List.mem_append.1 h with h|h
  ·exact .inr ⟨w,List.mem_cons_self,h⟩
  rcases List.mem_append.1 h with h|h
  ·exact .inl h
  rcases zgI (v::r) h with h | ⟨u,hu,h⟩
  ·exact .inl h
  ·exact .inr ⟨u,List.mem_cons_of_mem _ hu,h⟩
theorem ztB {r:RuleS}(h:r.bad=false):(10:UInt8) ∉ r.line:=by
 obtain ⟨h1,h2,h3,h4,h5⟩:=zhc h;intro hm;rcases zgI _ hm with hm | ⟨w,hw,hm⟩
 ·simp at hm
 unfold RuleS.words at hw;rcases List.mem_cons.1 hw with rfl|hw
 ·revert hm;split<;>decide
 rcases List.mem_cons.1 hw with rfl|hw
 ·revert hm;split<;>decide
 rcases List.mem_cons.1 hw with rfl|hw
 ·revert hm;unfold zcU;split
  ·decide
  split<;>decide
 obtain rfl:=List.mem_singleton.1 hw;rcases List.mem_append.1 hm with hm|hm
 ·rcases List.mem_append.1 hm with hm|hm
  ·exact zb0 (zaM (by omega)).1 (by decide) hm
  ·simp at hm
 ·exact zb0 (zaM (by omega)).1 (by decide) hm
theorem zf4:∀ (l:List RuleS),l≠[]→zbx l=Lib.join (l.map RuleS.line) [10]++[10]
 | [],h=>absurd rfl h
 | [r],_=>by
  simp [zbx,Lib.join_one]
 | r::s::l,_=>by
  have ih:=zf4 (s::l) (by simp);rw [show zbx (r::s::l)=(r.line++[10])++zbx (s::l) from rfl,ih,List.map_cons,List.map_cons,List.map_cons,zcu];simp
theorem zpZ (s:List UInt8):zeP (s++[10])=s:=by
 unfold zeP;rw [List.getLast?_concat,if_pos rfl,List.dropLast_concat]
theorem zeF {l:List RuleS}(h:zgv l):za4 (zbx l)=(l,(0,-1)):=by
 have hlen:=zeT (l:=l) fun r hr=>(zlB (h.2 r hr)).1
 have hl:=h.1;unfold za4;rw [if_neg (by omega)];by_cases hn:l=[]
 ·subst hn;rfl
 ·have hne:zbx l≠[]:=by
   rw [zf4 l hn];simp
  rw [if_neg hne,zf4 l hn,zpZ,zfr (c:=10) (l.map RuleS.line) (by simpa using hn) (fun w hw=>by
   obtain ⟨r,hr,rfl⟩:=List.mem_map.1 hw;exact ztB (h.2 r hr)),zeB l 0 h.2]
  dsimp only;have hf:=fault_good.2 h;rw [if_neg (by rw [hf];simp)]
def zeD (a p:Int):List UInt8:=Lib.itoa a++[58]++Lib.itoa p
def zvJ:List UInt8:=[115,121,110]
def zvG:List UInt8:=[97,99,107]
def zvO:List UInt8:=[102,105,110]
def zvL:List UInt8:=[114,115,116]
def fnames:List (List UInt8):=[zvJ,zvG,zvO,zvL]
def zuk (n:Int) (i:Nat):Bool:=decide ((n.tdiv ((2 ^ i:Nat):Int)).tmod 2=1)
def za7 (n:Int) (k:Nat):List (List UInt8):=((List.range k).filter (zuk n)).map fun i=>fnames.getD i []
theorem zgS (n:Int) (k:Nat):za7 n (k+1)=za7 n k++if zuk n k=true then [fnames.getD k []] else []:=by
 unfold za7;rw [List.range_succ,List.filter_append,List.map_append];congr 1;simp only [List.filter_cons,List.filter_nil];split<;>rfl
theorem ziq (n:Int) (k:Nat):(za7 n k).length≤k:=by
 unfold za7;rw [List.length_map];exact Nat.le_trans (List.length_filter_le _ _) (by simp)
theorem zeo {n:Int}{k:Nat}{w:List UInt8}(hk:k≤4) (h:w∈za7 n k):w.length=3∧(32:UInt8) ∉ w∧(43:UInt8) ∉ w∧(10:UInt8) ∉ w:=by
 unfold za7 at h;obtain ⟨i,hi,rfl⟩:=List.mem_map.1 h;have:=List.mem_range.1 (List.mem_filter.1 hi).1;have:i=0∨i=1∨i=2∨i=3:=by omega
 rcases this with rfl|rfl|rfl|rfl<;>decide
def zcS (n:Int):List UInt8:=if za7 n 4=[] then [45] else Lib.join (za7 n 4) [43]
theorem zkq:∀ (l:List (List UInt8)),(∀ w∈l,w.length=3)→(Lib.join l [43]).length≤4 * l.length
 | [],_=>by simp [Lib.join]
 | [w],h=>by
  rw [Lib.join_one,h w List.mem_cons_self];simp
 | w::v::r,h=>by
  have ih:=zkq (v::r) fun x hx=>h x (List.mem_cons_of_mem _ hx)
  rw [zcu,List.length_append,List.length_append,h w List.mem_cons_self];simp only [List.length_cons,List.length_nil] at ih ⊢;omega
theorem zft (n:Int) {k:Nat}(hk:k≤4):(Lib.join (za7 n k) [43]).length≤16:=by
 have h1:=zkq (za7 n k) fun w hw=>(zeo hk hw).1
 have h2:=ziq n k;omega
theorem zhI (n:Int):(zcS n).length≤16:=by
 unfold zcS;split
 ·decide
 ·exact zft n (Nat.le_refl 4)
theorem zqw (n:Int):(32:UInt8) ∉ zcS n∧(10:UInt8) ∉ zcS n:=by
 unfold zcS;split
 ·decide
 ·constructor
  ·intro h;rcases zgI _ h with h | ⟨w,hw,h⟩
   ·simp at h
   ·exact (zeo (Nat.le_refl 4) hw).2.1 h
  ·intro h;rcases zgI _ h with h | ⟨w,hw,h⟩
   ·simp at h
   ·exact (zeo (Nat.le_refl 4) hw).2.2.2 h
theorem zku:∀ m,m < 16→∀ n,n < 16→zcS (m:Nat)=zcS (n:Nat)→m=n:=by decide +kernel
def PktS.head (p:PktS):List UInt8:=if p.proto=1 then znh else znf
def PktS.text (p:PktS):List UInt8:=if p.proto=1 then [117,100,112,32]++zeD p.sa p.sp++[32]++zeD p.da p.dp else [116,99,112,32]++zeD p.sa p.sp++[32]++zeD p.da p.dp++[32]++zcS p.flags
theorem zfj (a p:Int) (h1:I64 a) (h2:I64 p):(zeD a p).length≤43:=by
 have e1:=Lib.itoa_length_le a h1.1 h1.2;have e2:=Lib.itoa_length_le p h2.1 h2.2;unfold zeD;simp only [List.length_append,List.length_cons,List.length_nil];omega
theorem zci {a p:Int}(h:zdL a p=true):0≤a∧a≤1048576∧1≤p∧p≤65535:=of_decide_eq_true h
theorem zdd {p:PktS}(h:p.err=0):(p.proto=1∧p.flags=0∨p.proto=2)∧zdL p.sa p.sp=true∧zdL p.da p.dp=true∧0≤p.flags∧p.flags≤15:=by
 unfold PktS.err at h;split at h
 ·cases h
 ·rename_i hb;split at h
  ·cases h
  ·rename_i hf;unfold PktS.bad at hb;rw [decide_eq_true_iff] at hb;cases h1:zdL p.sa p.sp
   ·exact absurd (.inr (.inl h1)) hb
   cases h2:zdL p.da p.dp
   ·exact absurd (.inr (.inr (.inl h2))) hb
   refine ⟨?_,rfl,rfl,?_⟩<;>omega
theorem zoh {a p:Int}(h:zdL a p=true) (c:UInt8) (hc:zg4 c=false) (hne:c≠58):c ∉ zeD a p:=by
 obtain ⟨h1,h2,h3,h4⟩:=zci h;intro hm;rcases List.mem_append.1 hm with hm|hm
 ·rcases List.mem_append.1 hm with hm|hm
  ·exact zb0 (zaM (by omega)).1 hc hm
  ·exact hne (List.mem_singleton.1 hm)
 ·exact zb0 (zaM (by omega)).1 hc hm
theorem zfu {p:PktS}(h:p.err=0):zbg 32 p.text=if p.proto=1 then [znh,zeD p.sa p.sp,zeD p.da p.dp] else [znf,zeD p.sa p.sp,zeD p.da p.dp,zcS p.flags]:=by
 obtain ⟨_,h2,h3,_⟩:=zdd h;have n2:=zoh h2 32 (by decide) (by decide);have n3:=zoh h3 32 (by decide) (by decide);unfold PktS.text;split
 ·rw [show [117,100,112,32]++zeD p.sa p.sp++[32]++zeD p.da p.dp=znh++32::(zeD p.sa p.sp++32::zeD p.da p.dp) by simp [znh],zbJ _ _ (by decide),zbJ _ _ n2,zem _ n3]
 ·rw [show [116,99,112,32]++zeD p.sa p.sp++[32]++zeD p.da p.dp++[32]++zcS p.flags=znf++32::(zeD p.sa p.sp++32::(zeD p.da p.dp++32::zcS p.flags)) by simp [znf],zbJ _ _ (by decide),zbJ _ _ n2,zbJ _ _ n3,zem _ (zqw _).1]
def zt3 (s:List UInt8) (x y:Int) (k:Bool):Prop:=(k=true→zeD x y=s)∧∀ x' y',zdL x' y'=true→zeD x' y'=s→k=true∧x=x'∧y=y'
def zuE (s:List UInt8) (p:PktS) (k:Bool):Prop:=(k=true→p.err=0∧p.text=s)∧(k=false→p=zaP)∧∀ q:PktS,q.err=0→q.text=s→k=true∧p=q
theorem ziX {x y:Int}(h:zdL x y=true):Lib.cut (zeD x y) [58]=(Lib.itoa x,Lib.itoa y,true)∧zbg 58 (zeD x y)=[Lib.itoa x,Lib.itoa y]:=by
 obtain ⟨h1,h2,h3,h4⟩:=zci h
 have hc:zbg 58 (zeD x y)=[Lib.itoa x,Lib.itoa y]:=by
  unfold zeD;rw [List.append_assoc,List.singleton_append,zbJ _ _ (zb0 (zaM (by omega)).1 (by decide)),zem _ (zb0 (zaM (by omega)).1 (by decide))]
 refine ⟨?_,hc⟩;have:=zfF hc;rw [Lib.join_one] at this;exact this
theorem zpL {v:Int}(h0:0≤v) (h1:v < 1000000000):(Lib.itoa v).length≤9:=by
 obtain ⟨n,rfl⟩:∃ n:Nat,v=n:=⟨v.toNat,by omega⟩;rw [zfw];exact ziP 8 n (by omega)
theorem zfo {v:Int}(h0:0≤v) (h1:v < 1000000000):Lib.atoiAll (Lib.itoa v) = .ok v:=by
 obtain ⟨g1,g2⟩:=zaM h0;have:=zpL h0 h1;rw [zfY g1 (by omega),g2]
theorem zlV {s a b:List UInt8}{c k:Bool}{x y:Int}(hcut:Lib.cut s [58]=(a,b,c)) (ha:∀ m,Lib.atoiAll a = .ok m→x=m) (hb:∀ m,Lib.atoiAll b = .ok m→y=m)
  (hk:k=true↔(∃ m,Lib.atoiAll a = .ok m)∧(∃ m,Lib.atoiAll b = .ok m)∧zeD x y=s):zt3 s x y k:=by
 refine ⟨fun h=>(hk.1 h).2.2,fun x' y' he hs=>?_⟩;obtain ⟨h1,h2,h3,h4⟩:=zci he;obtain ⟨e,_⟩:=ziX he;rw [hs,hcut] at e;obtain ⟨rfl,e2⟩:=Prod.mk.inj e;obtain ⟨rfl,_⟩:=Prod.mk.inj e2;clear e e2;obtain rfl:=ha x' (zfo h1 (by omega));obtain rfl:=hb y' (zfo (by omega) (by omega));exact ⟨hk.2 ⟨⟨_,zfo h1 (by omega)⟩,⟨_,zfo (by omega) (by omega)⟩,hs⟩,rfl,rfl⟩
def zdK (f:List UInt8):Nat→Option Nat
 | 0=>none
 | n+1=>if zcS (n:Nat)=f then some n else zdK f n
theorem zhM {f:List UInt8}:∀ {k n:Nat},zdK f k=some n→n < k∧zcS (n:Nat)=f
 | 0,n,h=>by cases h
 | k+1,n,h=>by
  unfold zdK at h;split at h
  ·cases h;exact ⟨by omega,by assumption⟩
  ·obtain ⟨h1,h2⟩:=zhM h;exact ⟨by omega,h2⟩
theorem zgQ {f:List UInt8}:∀ {k:Nat},zdK f k=none→∀ n,n < k→zcS (n:Nat)≠f
 | 0,_,n,hn=>by omega
 | k+1,h,n,hn=>by
  unfold zdK at h;split at h
  ·cases h
  ·rename_i hne;by_cases e:n=k
   ·subst e;exact hne
   ·exact zgQ h n (by omega)
theorem zoE {n:Nat}(h:n < 16):zdK (zcS (n:Nat)) 16=some n:=by
 cases e:zdK (zcS (n:Nat)) 16 with
 | none=>exact absurd rfl (zgQ e n h)
 | some m =>
  obtain ⟨h1,h2⟩:=zhM e;rw [zku m h1 n h h2]
def zoc:Nat→List UInt8
 | 1=>[116,101,120,116]
 | 2=>[98,111,117,110,100]
 | 3=>[115,104,97,112,101]
 | 4=>[110,111,110,101]
 | 5=>[101,120,105,115,116]
 | 6=>[102,117,108,108]
 | 7=>[111,102,102]
 | 8=>[100,101,110,121]
 | 9=>[115,116,97,116,101]
 | 10=>[111,108,100]
 | _=>[104,101,108,100]
def zdO (k:Nat):List UInt8:=[116,119,105,110,114,97,109,112,97,114,116,58,32]++zoc k
inductive Cmd where
 | tick|go|lose|twice|down|up|cut|all|fly|active|switch|flows|mirror|epoch|life|events
 deriving DecidableEq
def Cmd.word:Cmd→List UInt8
 | .tick=>[116,105,99,107]
 | .go=>[103,111]
 | .lose=>[108,111,115,101]
 | .twice=>[116,119,105,99,101]
 | .down=>[100,111,119,110]
 | .up=>[117,112]
 | .cut=>[99,117,116]
 | .all=>[97,108,108]
 | .fly=>[102,108,121]
 | .active=>[97,99,116,105,118,101]
 | .switch=>[115,119,105,116,99,104]
 | .flows=>[102,108,111,119,115]
 | .mirror=>[109,105,114,114,111,114]
 | .epoch=>[101,112,111,99,104]
 | .life=>[108,105,102,101]
 | .events=>[101,118,101,110,116,115]
def Cmd.form:Cmd→List UInt8
 | .tick | .cut=>[115,110]
 | .go | .lose | .twice=>[110]
 | .down | .up | .active | .flows | .mirror | .epoch | .life=>[115]
 | .all | .fly | .switch | .events=>[]
def zeK:List Cmd:=[.tick,.go,.lose,.twice,.down,.up,.cut]
def zd0:List Cmd:=[.all,.fly,.active,.switch,.flows,.mirror,.epoch,.life,.events]
def zcQ (w:List UInt8):List Cmd→Option Cmd
 | []=>none
 | c::l=>if w=c.word then some c else zcQ w l
def zcf (w:List UInt8):Option Cmd:=match zcQ w zeK with
 | some c=>some c
 | none=>zcQ w zd0
def zbF:List UInt8:=[105,110,115,105,100,101]
def zbm:List UInt8:=[111,117,116,115,105,100,101]
def tOk:List UInt8:=[111,107]
def ze9:List UInt8:=[110,111,116,104,105,110,103]
def zrJ:List UInt8:=[100,111,119,110]
def zu1:List UInt8:=[121,101,115]
def tNo:List UInt8:=[110,111]
def zaI (l:List CellS):Nat:=(l.filter fun c=>decide (c.f.proto≠0)).length
def zex (e:Int × Int):List UInt8:=Lib.itoa e.1++[32]++Lib.itoa e.2
def zdC (l:List (Int × Int)):List UInt8:=if l=[] then ze9 else Lib.join (l.map zex) [44,32]
def zbM (W:WorldS) (n:Int) (f:NodeS→Int):List UInt8 × Nat:=match (W.side n).node with
 | none=>([],W.upErr n)
 | some N=>if W.upErr n=0 then (Lib.itoa (f N),0) else ([],W.upErr n)
def zcP (W:WorldS) (n:Int):List UInt8:=match (W.side n).node with
 | none=>zrJ
 | some N=>if W.upErr n=0 then (if N.role.active=true then zu1 else tNo) else zrJ
def at0 (xs:List Int) (i:Nat):Int:=xs.getD i 0
def Cmd.does (c:Cmd) (xs:List Int) (W:WorldS):(List UInt8 × Nat) × WorldS:=match c with
 | .tick=>((tOk,(W.ticks (at0 xs 0) (at0 xs 1).toNat).1),(W.ticks (at0 xs 0) (at0 xs 1).toNat).2)
 | .go=>((tOk,(W.deliver (at0 xs 0)).1),(W.deliver (at0 xs 0)).2)
 | .lose=>((tOk,(W.drop (at0 xs 0)).1),(W.drop (at0 xs 0)).2)
 | .twice=>((tOk,(W.twice (at0 xs 0)).1),(W.twice (at0 xs 0)).2)
 | .down=>((tOk,(W.down (at0 xs 0)).1),(W.down (at0 xs 0)).2)
 | .up=>((tOk,(W.up (at0 xs 0)).1),(W.up (at0 xs 0)).2)
 | .cut=>((tOk,(W.cut (at0 xs 0) (at0 xs 1)).1),(W.cut (at0 xs 0) (at0 xs 1)).2)
 | .all=>((Lib.itoa (W.fly.length:Nat),0),W.land W.fly.length)
 | .fly=>((Lib.itoa (W.fly.length:Nat),0),W)
 | .active=>((zcP W (at0 xs 0),0),W)
 | .switch=>((if W.to < 0 then ze9 else Lib.itoa W.to++[32]++Lib.itoa W.epoch,0),W)
 | .flows=>(zbM W (at0 xs 0) (fun N=>(zaI N.tab.cells:Nat)),W)
 | .mirror=>(zbM W (at0 xs 0) (fun N=>(zaI N.mir.cells:Nat)),W)
 | .epoch=>(zbM W (at0 xs 0) (fun N=>N.role.epoch),W)
 | .life=>(zbM W (at0 xs 0) (fun N=>(N.cell.li:Nat)),W)
 | .events=>((zdC W.events,0),W)
def zco:List UInt8→List (List UInt8)→Option (List Int)
 | [],[]=>some []
 | c::f,w::ws=>if zbD w 5 < 0∨(c=115∧zbD w 5 > 1) then none else (zco f ws).map fun l=>zbD w 5::l
 | _,_=>none
open Classical in
noncomputable def readPk (s:List UInt8):PktS × Bool:=if h:∃ p:PktS,p.err=0∧p.text=s then (h.choose,true) else (zaP,false)
theorem zhj {s:List UInt8}{p:PktS}{k:Bool}(h:zuE s p k):readPk s=(p,k):=by
 unfold readPk;split
 ·rename_i hx;obtain ⟨h1,h2⟩:=hx.choose_spec;obtain ⟨e1,e2⟩:=h.2.2 _ h1 h2;rw [e1,e2]
 ·rename_i hx;cases k with
  | true=>exact absurd ⟨p,h.1 rfl⟩ hx
  | false=>rw [h.2.1 rfl]
theorem PktS.same_text {p q:PktS}(h1:p.err=0) (h2:q.err=0) (h:p.text=q.text):p=q:=by
 have c1:=zfu h1;have c2:=zfu h2;rw [h,c2] at c1;obtain ⟨f1,f2,f3,f4,f5⟩:=zdd h1;obtain ⟨g1,g2,g3,g4,g5⟩:=zdd h2
 have hends:∀ {a b a' b':Int},zdL a b=true→zdL a' b'=true→zeD a' b'=zeD a b→a=a'∧b=b':=fun {a b a' b'} e e' ht=>by
  obtain ⟨_,c⟩:=ziX e;obtain ⟨_,c'⟩:=ziX e';rw [ht,c] at c';obtain ⟨i1,i2⟩:=List.cons.inj c';obtain ⟨i2,_⟩:=List.cons.inj i2;obtain ⟨b1,b2,b3,b4⟩:=zci e;obtain ⟨d1,d2,d3,d4⟩:=zci e';refine ⟨?_,?_⟩
  ·rw [← (zaM b1).2,← (zaM d1).2,i1]
  ·rw [← (zaM (v:=b) (by omega)).2,← (zaM (v:=b') (by omega)).2,i2]
 obtain ⟨pr,sa,sp,da,dp,fl⟩:=p;obtain ⟨pr',sa',sp',da',dp',fl'⟩:=q;dsimp only at c1 f1 f4 f5 g1 g4 g5 f2 f3 g2 g3;split at c1<;>split at c1
 ·rename_i i1 i2;simp only [List.cons.injEq,and_true] at c1;obtain ⟨_,t1,t2⟩:=c1;obtain ⟨rfl,rfl⟩:=hends f2 g2 t1;obtain ⟨rfl,rfl⟩:=hends f3 g3 t2;obtain rfl:pr=pr':=by omega
  obtain rfl:fl=fl':=by omega
  rfl
 ·simp at c1
 ·simp at c1
 ·rename_i i1 i2;simp only [List.cons.injEq,and_true] at c1;obtain ⟨_,t1,t2,t3⟩:=c1;obtain ⟨rfl,rfl⟩:=hends f2 g2 t1;obtain ⟨rfl,rfl⟩:=hends f3 g3 t2;obtain rfl:pr=pr':=by omega
  obtain ⟨a,rfl⟩:∃ n:Nat,fl=n:=⟨fl.toNat,by omega⟩;obtain ⟨b,rfl⟩:∃ n:Nat,fl'=n:=⟨fl'.toNat,by omega⟩;rw [zku b (by omega) a (by omega) t3]
theorem zeM {p:PktS}(h:p.err=0):readPk p.text=(p,true) :=
 zhj ⟨fun _=>⟨h,rfl⟩,fun h=>(by cases h),fun q h1 h2=>⟨rfl,PktS.same_text h h1 h2.symm⟩⟩
noncomputable def carryS (rest:List UInt8) (f:PktS→Nat × PktS × WorldS) (W:WorldS):(List UInt8 × Nat) × WorldS :=
 if (readPk rest).2=false then (([],1),W) else
 if (f (readPk rest).1).1≠0 then (([],(f (readPk rest).1).1),(f (readPk rest).1).2.2) else
 ((if (f (readPk rest).1).2.1.err=0 then (f (readPk rest).1).2.1.text else [],(f (readPk rest).1).2.1.err),(f (readPk rest).1).2.2)
noncomputable def playS (line:List UInt8) (W:WorldS):(List UInt8 × Nat) × WorldS :=
 if (Lib.cut line [32]).1=zbF then carryS (Lib.cut line [32]).2.1 W.inside W else
 if (Lib.cut line [32]).1=zbm then carryS (Lib.cut line [32]).2.1 W.outside W else
 match zcf ((zbg 32 line).headD []) with
 | none=>(([],1),W)
 | some c=>match zco c.form ((zbg 32 line).drop 1) with
  | none=>(([],1),W)
  | some xs=>c.does xs W
noncomputable def tellS (line:List UInt8) (W:WorldS):List UInt8 × WorldS :=
 (if (playS line W).1.2=0 then (playS line W).1.1 else zdO (playS line W).1.2,(playS line W).2)
noncomputable def runS:List (List UInt8)→WorldS→List (List UInt8) × WorldS
 | [],W=>([],W)
 | l::r,W=>((tellS l W).1::(runS r (tellS l W).2).1,(runS r (tellS l W).2).2)
theorem zjw:∀ (a b:List (List UInt8)) (W:WorldS),runS (a++b) W=((runS a W).1++(runS b (runS a W).2).1,(runS b (runS a W).2).2)
 | [],b,W=>rfl
 | l::a,b,W=>by
  rw [List.cons_append,runS,zjw a b];rfl
theorem zfq:∀ (a:List (List UInt8)) (W:WorldS),(runS a W).1.length=a.length
 | [],_=>rfl
 | l::a,W=>by
  show (runS a _).1.length+1=_;rw [zfq a,List.length_cons]
theorem zpX {l:List (List UInt8)}{k:Nat}{t:List UInt8}(h:l[k]?=some t) (W:WorldS):runS (l.take (k+1)) W=((runS (l.take k) W).1++[(tellS t (runS (l.take k) W).2).1],(tellS t (runS (l.take k) W).2).2):=by
 rw [List.take_add_one,h,zjw];rfl
def zaT (line:List UInt8):Nat:=match zcf ((zbg 32 line).headD []) with
 | some .tick=>match zco Cmd.tick.form ((zbg 32 line).drop 1) with
  | some xs=>(at0 xs 1).toNat
  | none=>0
 | _=>0
def zcn (l:List (List UInt8)):Nat:=(l.map fun t=>34 * zaT t+1).sum
theorem znq {l:List (List UInt8)}{k:Nat}{t:List UInt8}(h:l[k]?=some t):zcn (l.take (k+1))=zcn (l.take k)+(34 * zaT t+1):=by
 unfold zcn;rw [List.take_add_one,h,List.map_append,List.sum_append];simp
theorem zra (l:List (List UInt8)) (k:Nat):zcn (l.take k)≤zcn l:=by
 conv=>rhs;rw [← List.take_append_drop k l]
 unfold zcn;rw [List.map_append,List.sum_append];omega
def I30 (n:Int):Prop:=0≤n∧n≤1073741824
theorem I30.i64 {n:Int}(h:I30 n):I64 n:=⟨by have:=h.1;omega,by have:=h.2;omega⟩
structure EpW (W:WorldS):Prop where
 ev:∀ e∈W.events,(e.1=0∨e.1=1)∧I30 e.2
 sw:I30 W.epoch
 notes:∀ x∈W.fly,I30 x.epoch
theorem zmL (N:NodeS) (c:Bool):∀ x∈(N.notes c).1,x.epoch=N.role.epoch:=by
 cases hb:N.beat
 ·cases c
  ·rw [zbu hb];intro x hx;cases hx
  ·rw [zck hb];intro x hx;obtain rfl:=List.mem_singleton.1 hx;rfl
 ·rw [zcz hb];intro x hx;rcases List.mem_cons.1 hx with rfl|hx
  ·rfl
  ·obtain rfl:=List.mem_singleton.1 hx;rfl
theorem zh3 (N:NodeS) (c:Bool):(N.notes c).2.role=N.role:=by
 cases hb:N.beat
 ·cases c
  ·rw [zbu hb]
  ·rw [zck hb]
 ·rw [zcz hb]
theorem ztC (N:NodeS) (B:BytS):∀ x∈(N.tick B).2.1,x.epoch=(N.tick B).2.2.1.role.epoch:=by
 unfold NodeS.tick;split
 ·intro x hx;cases hx
 split
 ·split
  ·intro x hx;cases hx
  ·intro x hx;dsimp only at hx ⊢;rw [zh3];exact zmL _ _ x hx
 ·intro x hx;dsimp only at hx ⊢;rw [zh3];exact zmL _ _ x hx
theorem zgs (W:WorldS) (n:Int) (s:SideS):(W.setSide n s).events=W.events∧(W.setSide n s).epoch=W.epoch∧(W.setSide n s).fly=W.fly:=by
 unfold WorldS.setSide;split<;>exact ⟨rfl,rfl,rfl⟩
theorem EpW.of {W W':WorldS}(h:EpW W) (e:W'.events=W.events∧W'.epoch=W.epoch∧W'.fly=W.fly):EpW W':=⟨by rw [e.1];exact h.ev,by rw [e.2.1];exact h.sw,by rw [e.2.2];exact h.notes⟩
theorem EpW.setSide {W:WorldS}(h:EpW W) (n:Int) (s:SideS):EpW (W.setSide n s):=h.of (zgs W n s)
theorem EpW.tick {m:Nat}{W:WorldS}(hO:WOk m W) (h:EpW W) (hm:m≤40000000) (n:Int):EpW (W.tick n).2:=by
 unfold WorldS.tick;split
 ·exact h
 rename_i hn;have hn:n=0∨n=1:=by omega
 have hs:=hO.side hn;cases hN:(W.side n).node with
 | none=>exact h
 | some N =>
  obtain ⟨g1,g2,g3⟩:=hs.node N hN;have hok:=g1.tick (by omega) (W.side n).byt;have hep:=ztC N (W.side n).byt;show EpW (W.ticked n N (N.tick (W.side n).byt)).2;generalize N.tick (W.side n).byt=T at hok hep ⊢;obtain ⟨e,l,N',B'⟩:=T;dsimp only at hok hep ⊢;have hr:I30 N'.role.epoch:=⟨hok.role.e0,hok.role.e1⟩;obtain ⟨s1,s2,s3⟩:=zgs W n ⟨some N',B'⟩;unfold WorldS.ticked;dsimp only;split
  ·exact h.setSide _ _
  split
  ·exact h.setSide _ _
  ·refine ⟨?_,by dsimp only;rw [s2];exact h.sw,?_⟩
   ·intro x hx;dsimp only at hx;split at hx
    ·rcases List.mem_append.1 hx with hx|hx
     ·exact h.ev x hx
     ·obtain rfl:=List.mem_singleton.1 hx;exact ⟨hn,hr⟩
    ·exact h.ev x hx
   ·intro x hx;dsimp only at hx;rcases List.mem_append.1 hx with hx|hx
    ·exact h.notes x hx
    ·rw [hep x (List.mem_of_mem_take hx)];exact hr
theorem EpW.ticks (n:Int):∀ (k:Nat) {m:Nat}{W:WorldS},WOk m W→EpW W→m+34 * k≤40000000→EpW (W.ticks n k).2
 | 0,_,_,_,h,_=>h
 | k+1,m,W,hO,h,hm=>by
  show EpW (if (W.tick n).1≠0 then W.tick n else (W.tick n).2.ticks n k).2;have h1:=h.tick hO (by omega) n;split
  ·exact h1
  ·exact EpW.ticks n k (hO.tick (by omega) n) h1 (by omega)
theorem EpW.off {W:WorldS}(h:EpW W) (k:Int):EpW (W.off k):=⟨h.ev,h.sw,fun x hx=>h.notes x (List.mem_of_mem_eraseIdx hx)⟩
theorem EpW.got {W:WorldS}(h:EpW W) {x:NoteS}(hx:I30 x.epoch):EpW (W.got x):=by
 unfold WorldS.got;split
 ·split
  ·exact ⟨h.ev,hx,h.notes⟩
  ·exact h
 split
 ·exact h
 split
 ·exact h
 ·exact h.setSide _ _
theorem EpW.deliver {W:WorldS}(h:EpW W) (k:Int):EpW (W.deliver k).2:=by
 unfold WorldS.deliver;split
 ·exact h
 split
 ·exact h
 ·rename_i x hx;exact (h.off k).got (h.notes x (List.mem_of_getElem? hx))
theorem EpW.drop {W:WorldS}(h:EpW W) (k:Int):EpW (W.drop k).2:=by
 unfold WorldS.drop;split
 ·exact h
 ·exact h.off k
theorem EpW.twice {W:WorldS}(h:EpW W) (k:Int):EpW (W.twice k).2:=by
 unfold WorldS.twice;split
 ·exact h
 split
 ·exact h
 split
 ·exact h
 ·rename_i x hx;refine ⟨h.ev,h.sw,fun y hy=>?_⟩;dsimp only at hy;rcases List.mem_append.1 hy with hy|hy
  ·exact h.notes y (List.mem_of_mem_take hy)
  rcases List.mem_cons.1 hy with rfl|hy
  ·exact h.notes _ (List.mem_of_getElem? hx)
  ·exact h.notes y (List.mem_of_mem_drop hy)
theorem EpW.down {W:WorldS}(h:EpW W) (n:Int):EpW (W.down n).2:=by
 unfold WorldS.down;split
 ·exact h
 ·exact h.setSide _ _
theorem EpW.up {W:WorldS}(h:EpW W) (n:Int):EpW (W.up n).2:=by
 unfold WorldS.up;split
 ·exact h
 split
 ·exact h
 split
 ·exact h.setSide _ _
 ·exact h.setSide _ _
theorem EpW.cut {W:WorldS}(h:EpW W) (n k:Int):EpW (W.cut n k).2:=by
 unfold WorldS.cut;split
 ·exact h
 ·exact h.setSide _ _
theorem EpW.inside {W:WorldS}(h:EpW W) (p:PktS):EpW (W.inside p).2.2:=by
 unfold WorldS.inside;split
 ·exact h
 split
 ·exact h
 ·exact h.setSide _ _
theorem EpW.outside {W:WorldS}(h:EpW W) (p:PktS):EpW (W.outside p).2.2:=by
 unfold WorldS.outside;split
 ·exact h
 split
 ·exact h
 ·exact h.setSide _ _
theorem EpW.land:∀ (k:Nat) {W:WorldS},EpW W→EpW (W.land k)
 | 0,_,h=>h
 | k+1,W,h=>by
  show EpW (if W.fly.length=0 then W else (W.deliver 0).2.land k);split
  ·exact h
  ·exact EpW.land k (h.deliver 0)
theorem EpW.born (l:List RuleS):EpW (.born l):=⟨fun e he=>(by cases he),⟨by show (0:Int)≤0;decide,by show (0:Int)≤1073741824;decide⟩,fun x hx=>(by cases hx)⟩
theorem zdc:∀ {f:List UInt8}{ws:List (List UInt8)}{xs:List Int},zco f ws=some xs→xs.length=f.length∧∀ (i:Nat) x,xs[i]?=some x→0≤x∧x≤99999∧(f[i]?=some 115→x≤1)
 | [],[],xs,h=>by
  cases h;exact ⟨rfl,fun i x hx=>by simp at hx⟩
 | [],_::_,xs,h=>by cases h
 | _::_,[],xs,h=>by cases h
 | c::f,w::ws,xs,h=>by
  unfold zco at h;split at h
  ·cases h
  ·rename_i hn;obtain ⟨l,hl,rfl⟩:=Option.map_eq_some_iff.1 h;obtain ⟨i1,i2⟩:=zdc hl;have h0:0≤zbD w 5:=by omega
   have h5:zbD w 5≤99999:=by
    obtain ⟨hc,hl5,hv⟩:=zcG h0
    have hlt:zh2 w < 10 ^ w.length:=by
     have key:∀ (l:List UInt8) (acc:Nat),(∀ b∈l,zg4 b=true)→l.foldl (fun n b=>10 * n+(b.toNat - 48)) acc < (acc+1) * 10 ^ l.length:=by
      intro l
      induction l with
      | nil=>intro acc _;simp
      | cons b l ih =>
       intro acc hb;have hd:=isDig_iff.1 (hb b List.mem_cons_self);have:=ih (10 * acc+(b.toNat - 48)) fun c hc=>hb c (List.mem_cons_of_mem _ hc)
       rw [List.foldl_cons,List.length_cons,Nat.pow_succ];refine Nat.lt_of_lt_of_le this ?_;rw [Nat.mul_comm (10 ^ l.length) 10,← Nat.mul_assoc];exact Nat.mul_le_mul_right _ (by omega)
     have:=key w 0 hc.dig
     rwa [Nat.zero_add,Nat.one_mul] at this
    have h10:10 ^ w.length≤10 ^ 5:=Nat.pow_le_pow_right (by decide) hl5;rw [hv];omega
   refine ⟨by rw [List.length_cons,List.length_cons,i1],fun i x hx=>?_⟩;cases i with
   | zero =>
    cases hx;refine ⟨h0,h5,fun hc=>?_⟩;cases hc;exact Int.not_lt.1 fun h=>hn (.inr ⟨rfl,h⟩)
   | succ i=>exact i2 i x hx
theorem zbi {xs:List Int}{i:Nat}{x:Int}(h:xs[i]?=some x):at0 xs i=x:=by
 unfold at0;rw [List.getD_eq_getElem?_getD,h];rfl
theorem zt7 {xs:List Int}(h:∀ (i:Nat) x,xs[i]?=some x→x≤99999) (i:Nat):at0 xs i≤99999:=by
 unfold at0;rw [List.getD_eq_getElem?_getD];cases hx:xs[i]? with
 | none=>show (0:Int)≤99999;decide
 | some x=>exact h i x hx
theorem ze8 (W:WorldS) (n:Int) (f:NodeS→Int):(zbM W n f).2 < 12:=by
 have:=zer W n;unfold zbM;split
 ·exact this
 ·split
  ·show 0 < 12;decide
  ·exact this
theorem ztM {d:Cmd}{xs:List Int}{W:WorldS}{m t:Nat}(h:WOk m W) (hE:EpW W) (hg:∀ i,at0 xs i≤99999) (hm:m+(34 * t+1)≤40000000) (ht:d = .tick→t=(at0 xs 1).toNat) :
  WOk (m+(34 * t+1)) (d.does xs W).2∧EpW (d.does xs W).2∧(d.does xs W).1.2 < 12:=by
 have hc:=hg 1;cases d with
 | tick =>
  obtain rfl:=ht rfl;exact ⟨(zl0 _ _ h (by omega)).mono (by omega),hE.ticks _ _ h (by omega),zeR _ _ _⟩
 | go=>exact ⟨(h.deliver _).mono (by omega),hE.deliver _,ze5 _ _⟩
 | lose=>exact ⟨(h.drop _).mono (by omega),hE.drop _,zip _ _⟩
 | twice=>exact ⟨(h.twice _).mono (by omega),hE.twice _,zgT _ _⟩
 | down=>exact ⟨(h.down _).mono (by omega),hE.down _,zie _ _⟩
 | up=>exact ⟨(h.up _).mono (by omega),hE.up _,zmG _ _⟩
 | cut=>exact ⟨(h.cut _ _ (by omega)).mono (by omega),hE.cut _ _,zki _ _ _⟩
 | all=>exact ⟨(zp8 _ h).mono (by omega),hE.land _,by show 0 < 12;decide⟩
 | fly=>exact ⟨h.mono (by omega),hE,by show 0 < 12;decide⟩
 | active=>exact ⟨h.mono (by omega),hE,by show 0 < 12;decide⟩
 | switch=>exact ⟨h.mono (by omega),hE,by show 0 < 12;decide⟩
 | flows=>exact ⟨h.mono (by omega),hE,ze8 _ _ _⟩
 | mirror=>exact ⟨h.mono (by omega),hE,ze8 _ _ _⟩
 | epoch=>exact ⟨h.mono (by omega),hE,ze8 _ _ _⟩
 | life=>exact ⟨h.mono (by omega),hE,ze8 _ _ _⟩
 | events=>exact ⟨h.mono (by omega),hE,by show 0 < 12;decide⟩
theorem zfi {s:List UInt8}{f:PktS→Nat × PktS × WorldS}{W:WorldS}{P:WorldS→Prop}(h:P W) (hf:∀ p,P (f p).2.2) (hc:∀ p,(f p).1 < 12):P (carryS s f W).2∧(carryS s f W).1.2 < 12:=by
 unfold carryS;split
 ·exact ⟨h,by show 1 < 12;decide⟩
 split
 ·exact ⟨hf _,hc _⟩
 ·exact ⟨hf _,(f (readPk s).1).2.1.err_code⟩
theorem ziY {l:List UInt8}{W:WorldS}{m:Nat}(h:WOk m W) (hE:EpW W) (hm:m+(34 * zaT l+1)≤40000000):WOk (m+(34 * zaT l+1)) (playS l W).2∧EpW (playS l W).2∧(playS l W).1.2 < 12:=by
 unfold playS;split
 ·obtain ⟨h1,h2⟩:=zfi (s:=(Lib.cut l [32]).2.1) (f:=W.inside) (W:=W) (P:=fun V=>WOk (m+1) V∧EpW V) ⟨h.mono (by omega),hE⟩ (fun p=>⟨h.inside p,hE.inside p⟩) (fun p=>zd1 W p);exact ⟨h1.1.mono (by omega),h1.2,h2⟩
 split
 ·obtain ⟨h1,h2⟩:=zfi (s:=(Lib.cut l [32]).2.1) (f:=W.outside) (W:=W) (P:=fun V=>WOk (m+1) V∧EpW V) ⟨h.mono (by omega),hE⟩ (fun p=>⟨h.outside p,hE.outside p⟩) (fun p=>zdw W p);exact ⟨h1.1.mono (by omega),h1.2,h2⟩
 cases hc:zcf ((zbg 32 l).headD []) with
 | none=>exact ⟨h.mono (by omega),hE,by show 1 < 12;decide⟩
 | some d =>
  dsimp only;cases hn:zco d.form ((zbg 32 l).drop 1) with
  | none=>exact ⟨h.mono (by omega),hE,by show 1 < 12;decide⟩
  | some xs =>
   refine ztM h hE (zt7 fun i x hx=>((zdc hn).2 i x hx).2.1) hm fun hd=>?_
   subst hd;unfold zaT;rw [hc];dsimp only;rw [hn]
theorem zmx {l:List UInt8}{W:WorldS}{m:Nat}(h:WOk m W) (hE:EpW W) (hm:m+(34 * zaT l+1)≤40000000):WOk (m+(34 * zaT l+1)) (tellS l W).2∧EpW (tellS l W).2:=⟨(ziY h hE hm).1,(ziY h hE hm).2.1⟩
theorem zls:∀ (l:List (List UInt8)) {W:WorldS}{m:Nat},WOk m W→EpW W→m+zcn l≤40000000→WOk (m+zcn l) (runS l W).2∧EpW (runS l W).2
 | [],_,_,h,hE,_=>⟨h,hE⟩
 | t::l,W,m,h,hE,hm=>by
  have e:zcn (t::l)=(34 * zaT t+1)+zcn l:=rfl;rw [e] at hm ⊢;obtain ⟨h1,h2⟩:=zmx h hE (show m+(34 * zaT t+1)≤40000000 by omega);obtain ⟨h3,h4⟩:=zls l h1 h2 (by omega);exact ⟨h3.mono (by omega),h4⟩
noncomputable def scriptS (s:List UInt8) (ls:List (List UInt8)):(Nat × Int) × List (List UInt8) :=
 if 100 < ls.length then ((2,-1),[]) else if (za4 s).2.1≠0 then ((za4 s).2,[]) else ((0,-1),(runS ls (.born (za4 s).1)).1)
theorem zjb {s:List UInt8}(h:(za4 s).2.1=0):(za2 (za4 s).1).1=0∧(za4 s).2.2 = -1:=by
 unfold za4 at h ⊢;split
 ·rename_i h1;rw [if_pos h1] at h;cases h
 rename_i h1;rw [if_neg h1] at h;split
 ·exact ⟨rfl,rfl⟩
 rename_i h2;rw [if_neg h2] at h;split
 ·rename_i i hi;rw [hi] at h;cases h
 ·rename_i hi;rw [hi] at h;dsimp only at h;split
  ·rename_i h3;rw [if_pos h3] at h;exact absurd h h3
  ·rename_i h3;exact ⟨Decidable.not_not.1 h3,rfl⟩
theorem zfK {s:List UInt8}{d:Cmd}:∀ {L:List Cmd},zcQ s L=some d→s=d.word
 | [],h=>by cases h
 | c::L,h=>by
  unfold zcQ at h;split at h
  ·cases h;assumption
  ·exact zfK h
theorem zh5 {s:List UInt8}{d:Cmd}(h:zcf s=some d):s=d.word:=by
 unfold zcf at h;split at h
 ·rename_i c hc;cases h;exact zfK hc
 ·exact zfK h
theorem ztS (e:Int × Int):zex e≠[]:=by
 unfold zex;simp
theorem znb (l:List (Int × Int)):zdC l≠[]:=by
 unfold zdC;split
 ·decide
 ·rename_i h;cases l with
  | nil=>exact absurd rfl h
  | cons e l =>
   rw [List.map_cons,Lib.join_cons];intro h2;exact ztS e (List.append_eq_nil_iff.1 h2).1
theorem zj9 {l t0:List UInt8}{ws:List (List UInt8)}(h:zbg 32 l=t0::ws):(Lib.cut l [32]).1=t0:=by
 cases ws with
 | nil =>
  have hl:=zcm 32 l;rw [h,Lib.join_one] at hl;subst hl;rw [zrL h]
 | cons b r=>rw [zfF h]
def zbW (w:List UInt8):Option (List UInt8):=if w=zbF∨w=zbm then some [112] else (zcf w).map Cmd.form
structure LineV where
 word:List UInt8
 ra:Option Addr
 rn:Nat
 rc:Nat
 ns:List Int
 p:PktS
def zey (ns:List Int):List UInt8:=Lib.joinTail [32] (ns.map Lib.itoa)
theorem ziu {ns:List Int}{k:Nat}{n:Int}(h:ns[k]?=some n):zey (ns.take (k+1))=zey (ns.take k)++([32]++Lib.itoa n):=by
 unfold zey;rw [List.take_add_one,h,List.map_append];show ((_++[Lib.itoa n]).map _).flatten=_;rw [List.map_append,List.flatten_append];simp [Lib.joinTail]
theorem zkR {ns:List Int}(h:∀ n∈ns,I64 n):(zey ns).length≤ns.length * 22:=by
 have key:∀ (xs:List (List UInt8)),(∀ x∈xs,x.length≤21)→(Lib.joinTail [32] xs).length≤xs.length * 22:=by
  intro xs
  induction xs with
  | nil=>intro _;exact Nat.le_refl _
  | cons x xs ih =>
   intro hx;have h1:=hx x List.mem_cons_self;have h2:=ih fun y hy=>hx y (List.mem_cons_of_mem _ hy)
   have e:Lib.joinTail [32] (x::xs)=[32]++x++Lib.joinTail [32] xs:=rfl;rw [e];simp only [List.length_append,List.length_cons,List.length_nil];rw [Nat.add_mul];omega
 have:=key (ns.map Lib.itoa) fun x hx=>by
  obtain ⟨n,hn,rfl⟩:=List.mem_map.1 hx;exact Lib.itoa_length_le n (h n hn).1 (h n hn).2
 rwa [List.length_map] at this
def Fit (f:List UInt8) (ns:List Int):Prop:=ns.length=f.length∧∀ (i:Nat) c n,f[i]?=some c→ns[i]?=some n→0≤n∧n≤99999∧(c=115→n≤1)
theorem zkU:∀ {f:List UInt8}{ns:List Int},Fit f ns→zco f (ns.map Lib.itoa)=some ns
 | [],[],_=>rfl
 | [],_::_,h=>by cases h.1
 | _::_,[],h=>by cases h.1
 | c::f,n::ns,h=>by
  obtain ⟨h1,h2,h3⟩:=h.2 0 c n rfl rfl;have ih:=zkU (f:=f) (ns:=ns) ⟨Nat.succ.inj h.1,fun i c' n' e1 e2=>h.2 (i+1) c' n' e1 e2⟩;have hn:=zdP h1 (by omega);rw [List.map_cons];unfold zco
  rw [hn,ih,if_neg (by
   rintro (h | ⟨h,h'⟩)
   ·omega
   ·have:=h3 h;omega)]
  rfl
def zss (x:LineV):Prop:=∃ f,zbW x.word=some f∧((f=[112]∧x.p.err=0)∨(f≠[112]∧Fit f x.ns))
def zi2 (x:LineV):List UInt8:=if zbW x.word=some [112] then x.word++[32]++x.p.text else x.word++zey x.ns
open Classical in
noncomputable def lineS (x:LineV):Option (List UInt8):=if zss x then some (zi2 x) else none
theorem zgL {x:LineV}{s:List UInt8}{k:Bool}(h1:k=true↔zss x) (h2:k=true→s=zi2 x):lineS x=if k=true then some s else none:=by
 unfold lineS;cases k with
 | true=>rw [if_pos (h1.1 rfl),if_pos rfl,h2 rfl]
 | false=>rw [if_neg (fun h=>by cases h1.2 h),if_neg (by decide)]
theorem zsg (d:Cmd):d.form≠[112]:=by cases d<;>decide
theorem zoR {w f:List UInt8}(h:zbW w=some f):(f=[112]∧(w=zbF∨w=zbm))∨∃ d:Cmd,w=d.word∧zcf w=some d∧f=d.form∧w≠zbF∧w≠zbm:=by
 unfold zbW at h;split at h
 ·rename_i h1;cases h;exact .inl ⟨rfl,h1⟩
 ·rename_i h1;obtain ⟨d,hd,rfl⟩:=Option.map_eq_some_iff.1 h;exact .inr ⟨d,zh5 hd,hd,rfl,fun e=>h1 (.inl e),fun e=>h1 (.inr e)⟩
theorem ztZ (d:Cmd):(32:UInt8) ∉ d.word:=by cases d<;>decide
theorem zjd {x:LineV}{s:List UInt8}(h:lineS x=some s) {d:Cmd}(hw:x.word=d.word) (hd:zcf x.word=some d) (hi:x.word≠zbF) (ho:x.word≠zbm) :
  s=x.word++zey x.ns∧Fit d.form x.ns∧zbg 32 s=d.word::x.ns.map Lib.itoa∧(Lib.cut s [32]).1=d.word∧zco d.form ((zbg 32 s).drop 1)=some x.ns:=by
 unfold lineS at h;split at h
 ·rename_i hl;obtain ⟨f,hf,hc⟩:=hl;cases h
  have hfd:f=d.form:=by
   unfold zbW at hf;rw [if_neg (fun h=>h.elim hi ho),hd] at hf;exact (Option.some.inj hf).symm
  subst hfd
  have hfit:Fit d.form x.ns:=by
   rcases hc with ⟨h1,_⟩ | ⟨_,h1⟩
   ·exact absurd h1 (zsg d)
   ·exact h1
  have hT:zi2 x=x.word++zey x.ns:=by
   unfold zi2;rw [hf,if_neg (fun h=>zsg d (Option.some.inj h))]
  have hcut:zbg 32 (zi2 x)=d.word::x.ns.map Lib.itoa:=by
   rw [hT,hw];have hj:d.word++zey x.ns=Lib.join (d.word::x.ns.map Lib.itoa) [32]:=(Lib.join_cons _ _ _).symm;rw [hj];refine zfr _ (by simp) fun w hm=>?_
   rcases List.mem_cons.1 hm with rfl|hm
   ·exact ztZ d
   ·obtain ⟨n,hn,rfl⟩:=List.mem_map.1 hm;obtain ⟨i,hi'⟩:=List.getElem?_of_mem hn;obtain ⟨c,hc'⟩:∃ c,d.form[i]?=some c:=⟨_,List.getElem?_eq_getElem (by rw [← hfit.1];exact (List.getElem?_eq_some_iff.1 hi').1)⟩;exact zb0 (zaM (hfit.2 i c n hc' hi').1).1 (by decide)
  refine ⟨hT,hfit,hcut,?_,?_⟩
  ·rw [zj9 hcut]
  ·rw [hcut];exact zkU hfit
 ·cases h
theorem wordP_no:(32:UInt8) ∉ zbF∧(32:UInt8) ∉ zbm:=by decide
theorem zjo {x:LineV}{s:List UInt8}(h:lineS x=some s) (hw:x.word=zbF∨x.word=zbm):s=x.word++32::x.p.text∧x.p.err=0∧(Lib.cut s [32]).1=x.word∧(Lib.cut s [32]).2.1=x.p.text∧(zbg 32 s).headD []=x.word:=by
 unfold lineS at h;split at h
 ·rename_i hl;obtain ⟨f,hf,hc⟩:=hl;cases h
  have hfp:zbW x.word=some [112]:=by
   unfold zbW;rw [if_pos hw]
  rw [hfp] at hf;obtain rfl:=Option.some.inj hf
  have he:x.p.err=0:=by
   rcases hc with ⟨_,h1⟩ | ⟨h1,_⟩
   ·exact h1
   ·exact absurd rfl h1
  have hT:zi2 x=x.word++32::x.p.text:=by
   unfold zi2;rw [if_pos hfp,List.append_assoc];rfl
  have hno:(32:UInt8) ∉ x.word:=by
   rcases hw with h|h<;>rw [h]
   ·exact wordP_no.1
   ·exact wordP_no.2
  have hcut:=zbJ x.word x.p.text hno;rw [← hT] at hcut;obtain ⟨b,r,hb⟩:=zcM 32 x.p.text;have hj:=zcm 32 x.p.text;rw [hb] at hcut hj;refine ⟨hT,he,zj9 hcut,?_,by rw [hcut];rfl⟩;rw [zfF hcut];exact hj
 ·cases h
theorem zgO {x:LineV}{s:List UInt8}(h:lineS x=some s):(x.word=zbF∨x.word=zbm)∨∃ d:Cmd,x.word=d.word∧zcf x.word=some d∧x.word≠zbF∧x.word≠zbm:=by
 unfold lineS at h;split at h
 ·rename_i hl;obtain ⟨f,hf,_⟩:=hl;rcases zoR hf with ⟨_,h1⟩ | ⟨d,h1,h2,_,h3,h4⟩
  ·exact .inl h1
  ·exact .inr ⟨d,h1,h2,h3,h4⟩
 ·cases h
def zqh:List UInt8:=[116,105,99,107]
theorem zny {x:LineV}{s:List UInt8}(h:lineS x=some s):(x.word≠zqh→zaT s=0)∧(x.word=zqh→∃ a b:Nat,x.ns=[(a:Int),(b:Int)]∧a≤1∧b≤99999∧zaT s=b):=by
 rcases zgO h with hp | ⟨d,hw,hd,hi,ho⟩
 ·obtain ⟨_,_,_,_,h1⟩:=zjo h hp
  have hn:zcf x.word=none:=by
   rcases hp with h|h<;>rw [h]<;>decide
  refine ⟨fun _=>?_,fun e=>?_⟩
  ·unfold zaT;rw [h1,hn]
  ·rw [e] at hp;exact absurd hp (by decide)
 ·obtain ⟨_,hfit,hcut,_,hnum⟩:=zjd h hw hd hi ho
  have hh:zcf ((zbg 32 s).headD [])=some d:=by
   rw [hcut,← hd,hw];rfl
  refine ⟨fun hne=>?_,fun e=>?_⟩
  ·unfold zaT;rw [hh];cases d<;>first|rfl|exact absurd hw hne
  ·have hdt:d = .tick:=by
    have:zcf zqh=some d:=by rw [← e];exact hd
    rw [show zcf zqh=some .tick by decide] at this;exact (Option.some.inj this).symm
   subst hdt;have hl:=hfit.1
   match hns:x.ns,hl with
   | [a,b],_ =>
    rw [hns] at hfit hnum;obtain ⟨a0,a1,a2⟩:=hfit.2 0 115 a rfl rfl;obtain ⟨b0,b1,_⟩:=hfit.2 1 110 b rfl rfl;have a3:=a2 rfl;refine ⟨a.toNat,b.toNat,by rw [Int.toNat_of_nonneg a0,Int.toNat_of_nonneg b0],by omega,by omega,?_⟩;unfold zaT;rw [hh];dsimp only;rw [hnum];rfl

abbrev zbe (l:List UInt8):List Value:=[.string (bs l)]
theorem zfP:Codec 1 zbe:=⟨fun _=>rfl,fun _=>rfl,by decide⟩
theorem ze0 (l:List (List UInt8)):l.flatMap zbe=l.map fun l=>.string (bs l):=by
 induction l with
 | nil=>rfl
 | cons x l ih=>rw [List.flatMap_cons,ih];rfl
def MaxL (w:World):Prop:=∃ m:Int,w.cell? ⟨14,0,none⟩=some (.int .i64 m)
theorem MaxL.no {w w':World}(h:MaxL w) (hx:Ext No w w'):MaxL w':=h.elim fun m hm=>⟨m,hx.cell hm id⟩
structure NumV (w:World):Prop where
 syn:∃ e,w.cell? ⟨15,0,none⟩=some e∧(e = .nilIface∨∃ t p,e = .iface t p)
 rng:∃ e,w.cell? ⟨16,0,none⟩=some e∧(e = .nilIface∨∃ t p,e = .iface t p)
theorem NumV.no {w w':World}(h:NumV w) (hx:Ext No w w'):NumV w' :=
 ⟨h.syn.elim fun e he=>⟨e,hx.cell he.1 id,he.2⟩,h.rng.elim fun e he=>⟨e,hx.cell he.1 id,he.2⟩⟩

theorem zgC (l:List UInt8) (c:UInt8) (w:World) (hl:l.length≤100000) (hM:MaxL w) :
  CallC Tryz.prog 40 #[.string (bs l),.string (bs [c])] w fun v w'=>(∃ b,v = .slice (some ⟨b,0,none⟩) (zbg c l).length (zbg c l).length∧w.heap.size≤b∧Blk w' b 9 ((zbg c l).map fun l=>.string (bs l)))∧Ext No w w':=by
 obtain ⟨m,hm⟩:=hM;have hc:Lib.countB (bs l) (bs [c])=l.count c:=Lib.count_one c l;have hd:=Lib.splitB_data (bs [c]) 0 (Lib.countB (bs l) (bs [c])) (bs l);have hsk:Lib.splitK (bs [c]).data.toList 0 (Lib.countB (bs l) (bs [c])) (bs l).data.toList=zbg c l:=zeJ c l _ (by rw [hc];exact Nat.le_refl _);rw [hsk] at hd
 have hlen:(zbg c l).length=Lib.countB (bs l) (bs [c])+1:=by
  rw [← hd,List.length_map];exact Lib.splitB_all _ (by rw [zaN];simp) _ _ _ rfl
 have hmap:(Lib.splitB (bs [c]) 0 (Lib.countB (bs l) (bs [c])) (bs l)).map Value.string=(zbg c l).map fun l=>.string (bs l):=by
  rw [← hd,List.map_map];exact List.map_congr_left fun x _=>rfl
 refine Ev.CallC.of Tryz.func40 (by kernel_rfl) rfl ((Tryz.strings_Split (bs l) (bs [c]) m w (by rw [zaN];omega) hm (by rw [zaN];simp)).mono ?_);rintro e w' ⟨rfl,rfl⟩;refine ⟨_,rfl,⟨w.heap.size,by rw [hlen],Nat.le_refl _,?_⟩,?_⟩
 ·rw [← hmap];show (w.heap.push _)[w.heap.size]?=_;rw [Array.getElem?_push,if_pos rfl]
 ·exact Ext.push No w 9 _
theorem zly (l:List UInt8) (c:UInt8) (w:World) (hl:l.length≤100000) (hM:MaxL w) :
  CallC Tryz.prog 75 #[.string (bs l),.string (bs [c])] w fun v w'=>v = .tuple #[.string (bs (Lib.cut l [c]).1),.string (bs (Lib.cut l [c]).2.1),.bool (Lib.cut l [c]).2.2]∧Ext No w w':=by
 obtain ⟨m,hm⟩:=hM;refine Ev.CallC.of Tryz.func75 (by kernel_rfl) rfl ((Tryz.strings_Cut (bs l) (bs [c]) m w (by rw [zaN];omega) hm).mono ?_);rintro e w' ⟨rfl,n,rfl⟩;exact ⟨_,rfl,rfl,Ext.drawn _ _ _⟩
theorem zjr (l:List UInt8) (w:World) (hl:l.length≤100000) (hV:NumV w) :
  CallC Tryz.prog 85 #[.string (bs l)] w fun v w'=>(∃ n e,v = .tuple #[.int .i64 n,e]∧I64 n∧(Lib.atoiAll l = .ok n∧e = .nilIface∨(∀ m,Lib.atoiAll l≠.ok m)∧∃ t u,e = .iface t u))∧Ext No w w':=by
 have hall:CallC Tryz.prog 178 #[.string (bs l)] w fun v w'=>v=Lib.intTuple 361 (Lib.atoiSat l) (Lib.atoiAll l)∧Ext No w w':=by
  refine Ev.CallC.of Tryz.func178 (by kernel_rfl) rfl ((Tryz.internal_strconv_Atoi_all (bs l) (by rw [zaN];omega) w).mono ?_);rintro e w' ⟨rfl,hw⟩;refine ⟨_,rfl,rfl,?_⟩;rcases hw with rfl | ⟨t,rfl⟩
  ·exact Ext.refl _ _
  ·exact .of_below (Lib.bytesWorld_below _ _ _)
 have hbd:=@Lib.atoiAll_bounds l;obtain ⟨b1,b2⟩:=Lib.atoiSat_bounds l;generalize Lib.atoiSat l=sat at hall b1 b2;generalize Lib.atoiAll l=r at hall hbd ⊢;refine zaa tabOk Tryz.func85 (by kernel_rfl) rfl Tryz.ntmps85 (lbO rfl) ?_;have hS:=St.start w No;(conv=>whnf);refine hall.mono ?_;rintro v w1 ⟨rfl,hx⟩;replace hS:=hS.no hx;clear hall;cases r
 ·rename_i n;obtain ⟨c1,c2⟩:=hbd rfl;repeat' ((conv=>whnf);first|apply RetC.mk|refine rgO ?_|refine ixO ?_|(first|apply brD|apply zad|apply brN|apply brI)<;>(intro))
  exact ⟨⟨_,_,rfl,⟨by omega,by omega⟩,.inl ⟨rfl,rfl⟩⟩,hS.ext⟩
 ·obtain ⟨ev,h1,h2⟩:=(hV.no hS.ext).syn;(conv=>whnf);refine (Ev.CallC.of Tryz.func179 (by kernel_rfl) rfl ((Tryz.strconv_toError_syntax (bs [65,116,111,105]) (bs l) 0 0 ev _ (by rw [zaN];omega) h1 h2).mono (R':=fun e w'=>∃ v,e = .returned v∧(∃ t u,v = .iface t u)∧Ext No w1 w') ?_)).mono ?_
  ·rintro e w' ⟨N,rfl,_,_,hb⟩;exact ⟨_,rfl,⟨_,_,rfl⟩,.of_below hb⟩
  ·rintro v w2 ⟨⟨t,u,rfl⟩,hx⟩;replace hS:=hS.no hx;repeat' ((conv=>whnf);first|apply RetC.mk|refine rgO ?_|refine ixO ?_|(first|apply brD|apply zad|apply brN|apply brI)<;>(intro))
   exact ⟨⟨_,_,rfl,⟨by decide,by decide⟩,.inr ⟨(fun m hm=>by cases hm),_,_,rfl⟩⟩,hS.ext⟩
 ·obtain ⟨ev,h1,h2⟩:=(hV.no hS.ext).rng;(conv=>whnf);refine (Ev.CallC.of Tryz.func179 (by kernel_rfl) rfl ((Tryz.strconv_toError_range (bs [65,116,111,105]) (bs l) 0 0 ev _ (by rw [zaN];omega) h1 h2).mono (R':=fun e w'=>∃ v,e = .returned v∧(∃ t u,v = .iface t u)∧Ext No w1 w') ?_)).mono ?_
  ·rintro e w' ⟨N,rfl,_,_,hb⟩;exact ⟨_,rfl,⟨_,_,rfl⟩,.of_below hb⟩
  ·rintro v w2 ⟨⟨t,u,rfl⟩,hx⟩;replace hS:=hS.no hx;repeat' ((conv=>whnf);first|apply RetC.mk|refine rgO ?_|refine ixO ?_|(first|apply brD|apply zad|apply brN|apply brI)<;>(intro))
   exact ⟨⟨_,_,rfl,⟨by omega,by omega⟩,.inr ⟨(fun m hm=>by cases hm),_,_,rfl⟩⟩,hS.ext⟩
theorem ztu (l:List UInt8):Lib.trimSuffix l [10]=zeP l:=by
 unfold Lib.trimSuffix Lib.hasSuffix zeP;rcases List.eq_nil_or_concat l with rfl | ⟨r,b,hl⟩
 ·rfl
 ·rw [List.concat_eq_append] at hl;subst hl
  rw [List.getLast?_concat,List.dropLast_concat,show ([10]:List UInt8).isSuffixOf (r++[b])=decide (b=10) by
   have h:((10:UInt8) == b)=decide (b=10):=by
    rw [Bool.eq_iff_iff,beq_iff_eq,decide_eq_true_iff,eq_comm]
   simpa [List.isSuffixOf,List.isPrefixOf] using h]
  by_cases h:b=10
  ·subst h;simp
  ·simp [h]
theorem ztO (l:List UInt8) (w:World) (hl:l.length≤100000) :
  CallC Tryz.prog 64 #[.string (bs l),.string (bs [10])] w fun v w'=>v = .string (bs (zeP l))∧Ext No w w':=by
 refine Ev.CallC.of Tryz.func64 (by kernel_rfl) rfl ((Tryz.strings_TrimSuffix (bs l) (bs [10]) w (by rw [zaN];omega)).mono ?_);rintro e w' ⟨rfl,rfl⟩;refine ⟨_,rfl,?_,Ext.refl _ _⟩;rw [← ztu];rfl
theorem zkw {l:List UInt8}{n:Int}(most:Nat) (hm:most≤18) (h:Lib.atoiAll l = .ok n):((l.length≤most∧Lib.itoa n=l)∧0≤n↔0≤zbD l most)∧(0≤zbD l most→n=zbD l most):=by
 have key:0≤zbD l most→l.length≤most∧n=zbD l most∧Lib.itoa n=l:=fun h0=>by
  obtain ⟨h1,h2,h3⟩:=zcG h0;have:=zfY h1 (by omega);rw [h] at this;cases this;exact ⟨h2,h3.symm,zh9 h1⟩
 refine ⟨⟨fun ⟨⟨h1,h2⟩,h3⟩=>?_,fun h0=>?_⟩,fun h0=>(key h0).2.1⟩
 ·have hc:=(zaM h3).1;rw [h2] at hc;rw [zin hc h1];omega
 ·obtain ⟨h1,h2,h3⟩:=key h0;exact ⟨⟨h1,h3⟩,by omega⟩
theorem zeG {l:List UInt8}{most:Nat}(hm:most≤18) (h:∀ m,Lib.atoiAll l≠.ok m):zbD l most < 0:=by
 refine Int.not_le.1 fun h0=>?_
 obtain ⟨h1,h2,_⟩:=zcG h0;exact h _ (zfY h1 (by omega))
end Go.Proofs.YtogjajjdaoihdaaGreatDoor

namespace Go.Proofs.YtogjajjdaoihdaaGreatDoor
set_option maxRecDepth 20000
open Go Ev Go.Instr
theorem ckS (e:Bool) (s:ByteArray) (w:World):(checkKey e 10000 9 (.string s)).run Tryz.prog w = .ok () w:=by cases e<;>kernel_rfl
abbrev znv:=(List UInt8 × List Value) × Nat
def zsk (k:znv):MapEntry:=⟨.string (bs k.1.1),.agg k.1.2.toArray,k.2⟩
def zmh (l:List znv) (c:Nat):Obj:=.map (l.map zsk).toArray c
def zhQ (w:List UInt8):List znv→Nat→Option (Nat × Value)
 | [],_=>none
 | k::r,n=>if w=k.1.1 then some (n,.agg k.1.2.toArray) else zhQ w r (n+1)
theorem zj8 (s:List UInt8):∀ (l:List znv) (n:Nat),findNow .string (.string (bs s)) (l.map zsk) n=some (zhQ s l n)
 | [],n=>rfl
 | k::r,n=>by
  rw [List.map_cons,findNow]
  have h:sameNow .string (.string (bs s)) (zsk k).key=some (decide (s=k.1.1)):=by
   show some (bs s == bs k.1.1)=_;rw [zuT];congr 2;rw [eq_iff_iff];exact zom
  rw [h];unfold zhQ;by_cases e:s=k.1.1
  ·rw [decide_eq_true e,if_pos e];rfl
  ·rw [decide_eq_false e,if_neg e];exact zj8 s r (n+1)
theorem zkX (s:List UInt8) (w:World) (l:List znv):(findKey 9 (.string (bs s)) (l.map zsk)).run Tryz.prog w = .ok (zhQ s l 0) w:=by
 have hu:=Tryz.underlying9;have h0:(findKey 9 (.string (bs s)) (l.map zsk))=(do match findNow (← underlying 9) (.string (bs s)) (l.map zsk) 0 with|some r=>pure r|none=>findAsking 9 (.string (bs s)) (l.map zsk)):=rfl;rw [h0,Sem.run_bind,run_underlying hu,Result.andThen_ok,zj8];rfl
def noCmd:List Value:=[.string (bs []),.nilFunc]
def ztf (s:List UInt8) (l:List znv):Value:=match zhQ s l 0 with
 | some (_,v)=>.tuple #[v,.bool true]
 | none=>.tuple #[.agg noCmd.toArray,.bool false]
theorem zq5 {r:Nat}{w:World}{l:List znv}{clock:Nat}(s:List UInt8) (hb:w.heap[r]?=some (zmh l clock)) :
  (Instr.lookup 178 (.map (some r)) (.string (bs s)) true).run Tryz.prog w = .ok (ztf s l) w:=by
 have hm:=Tryz.underlying178;have hg:(getObj r).run Tryz.prog w = .ok (zmh l clock) w:=by simp [getObj,Sem.run,hb,zmh]
 have hz:(zeroValue 176).run Tryz.prog w = .ok (.agg noCmd.toArray) w:=by kernel_rfl
 have hk:=zkX s w l;unfold zmh at hg;unfold ztf;simp only [Instr.lookup,Sem.run_bind,run_underlying hm,Result.andThen_ok,hg,Sem.run_pure,ckS,hk];cases zhQ s l 0 with
 | none=>simp [hz,Sem.run_bind]
 | some x=>simp
theorem ztq {r:Nat}{w:World}{l:List znv}{clock:Nat}(s:List UInt8) (cs:List Value) (hb:w.heap[r]?=some (zmh l clock)) (hn:zhQ s l 0=none) :
  (Instr.mapUpdate 178 (.map (some r)) (.string (bs s)) (.agg cs.toArray)).run Tryz.prog w = .ok () { w with heap:=w.heap.setIfInBounds r (zmh (l++[((s,cs),clock)]) (clock+1)) }:=by
 have hg:(getObj r).run Tryz.prog w = .ok (zmh l clock) w:=by simp [getObj,Sem.run,hb,zmh]
 have hm:=Tryz.underlying178;unfold zmh at hg;have hk:=zkX s w l;rw [hn] at hk;simp only [Instr.mapUpdate,Sem.run_bind,run_underlying hm,Result.andThen_ok,hg,ckS,hk];simp [setObj,Sem.run,hb,zmh,zsk]
def zgp (r:Nat) (l:List znv) (c:Nat):Ent:=⟨[r],fun w=>w.heap[r]?=some (zmh l c)⟩
theorem zhZ (r:Nat) (l:List znv) (c:Nat):(zgp r l c).Local:=fun w w' h hb=>by
 have:=h r (by simp [zgp]);simpa [zgp,this] using hb
theorem Ev.St.mkMapS {w0 w:World}{H:List Ent}{k:Value→World→Prop}(h:St w0 No w H) (hk:∀ r w',St w0 No w' (H++[zgp r [] 0])→k (.map (some r)) w'):RunC Tryz.prog (Instr.makeMap 178 none) w k:=by
 refine ⟨.map (some w.heap.size),{ w with heap:=w.heap.push (.map #[] 0) },rfl,hk _ _ (h.made ⟨rfl,rfl,rfl,by simp,fun i hi _=>?_⟩ (zhZ _ _ _) ?_ ?_)⟩
 ·show (w.heap.push _)[i]?=_;rw [Array.getElem?_push,if_neg (by omega)]
 ·show (w.heap.push _)[w.heap.size]?=_;rw [Array.getElem?_push,if_pos rfl];rfl
 ·intro b hb;obtain rfl:b=w.heap.size:=by simpa [zgp] using hb
  simp
theorem Ev.St.insS {w0 w:World}{H:List Ent}(h:St w0 No w H) (i:Nat) {r:Nat}{l:List znv}{c:Nat}{s:List UInt8}{cs:List Value}{k:World→Prop}(hi:H[i]?=some (zgp r l c)) (hn:zhQ s l 0=none)
  (hk:∀ w',St w0 No w' (H.set i (zgp r (l++[((s,cs),c)]) (c+1)))→k w'):RunU Tryz.prog (Instr.mapUpdate 178 (.map (some r)) (.string (bs s)) (.agg cs.toArray)) w k:=by
 have hb:w.heap[r]?=some (zmh l c):=h.get i hi
 have hx:Ext (· = r) w { w with heap:=w.heap.setIfInBounds r (zmh (l++[((s,cs),c)]) (c+1)) }:=⟨rfl,rfl,rfl,by simp,fun j hj hs=>by
  have:r≠j:=fun e=>hs e.symm
  simp [this]⟩
 refine ⟨_,ztq s cs hb hn,hk _ (h.upd i hi hx (fun d hd=>by simp [zgp,hd]) (zhZ _ _ _) ?_ fun d hd=>.inl hd)⟩;have:=(Array.getElem?_eq_some_iff.1 hb).1;show (w.heap.setIfInBounds r _)[r]?=_;simp [this]
def fnV (f:FuncId) (caps:List Value):Value:=.func (.func f) #[] caps.toArray
def zjy:Cmd→FuncId
 | .tick=>137
 | .go=>139
 | .lose=>141
 | .twice=>143
 | .down=>145
 | .up=>147
 | _=>149
def zcp:Cmd→FuncId
 | .all=>151
 | .fly=>153
 | .active=>155
 | .switch=>158
 | .flows=>161
 | .mirror=>164
 | .epoch=>166
 | .life=>168
 | _=>170
theorem zeN (s:List UInt8) (f:FuncId) (w:World):CallC Tryz.prog 136 #[.string (bs s),fnV f []] w fun v w'=>(∃ b,v = .agg #[.string (bs s),fnV 231 [.pointer (some ⟨b,0,none⟩)]]∧w.heap.size≤b∧Blk w' b 273 [fnV f []])∧Ext No w w':=by
 refine zaa tabOk Tryz.func136 (by kernel_rfl) rfl Tryz.ntmps136 (lbO rfl) ?_;have hS:=St.start w No;(conv=>whnf);refine hS.new (fun b w' hb hS=>?_);(conv=>whnf);refine hS.new (fun b2 w' hb2 hS=>?_);(conv=>whnf);refine hS.st 1 rfl (lbO rfl) rfl (fun w' hS=>?_);(conv=>whnf);refine hS.laX 1 rfl rfl ?_;repeat' ((conv=>whnf);first|apply RetC.mk|refine rgO ?_|refine ixO ?_|(first|apply brD|apply zad|apply brN|apply brI)<;>(intro))
 exact ⟨⟨b,rfl,hb,hS.blk 0 rfl⟩,hS.ext⟩
theorem zjn (f:FuncId) (w:World):CallC Tryz.prog 160 #[fnV f []] w fun v w'=>(∃ b,v = .agg #[.string (bs [115]),fnV 242 [.pointer (some ⟨b,0,none⟩)]]∧w.heap.size≤b∧Blk w' b 279 [fnV f []])∧Ext No w w':=by
 refine zaa tabOk Tryz.func160 (by kernel_rfl) rfl Tryz.ntmps160 (lbO rfl) ?_;have hS:=St.start w No;(conv=>whnf);refine hS.new (fun b w' hb hS=>?_);(conv=>whnf);refine hS.new (fun b2 w' hb2 hS=>?_);(conv=>whnf);refine hS.st 1 rfl (lbO rfl) rfl (fun w' hS=>?_);(conv=>whnf);refine hS.laX 1 rfl rfl ?_;repeat' ((conv=>whnf);first|apply RetC.mk|refine rgO ?_|refine ixO ?_|(first|apply brD|apply zad|apply brN|apply brI)<;>(intro))
 exact ⟨⟨b,rfl,hb,hS.blk 0 rfl⟩,hS.ext⟩
end Go.Proofs.YtogjajjdaoihdaaGreatDoor

namespace Go.Proofs.YtogjajjdaoihdaaGreatDoor
set_option maxRecDepth 20000
open Go Ev Go.Instr
def IsAct (w:World) (c:Cmd) (cs:List Value):Prop:=∃ b,cs=[.string (bs c.form),fnV 231 [.pointer (some ⟨b,0,none⟩)]]∧Blk w b 273 [fnV (zjy c) []]
def zuZ:Cmd→Bool
 | .flows | .mirror | .epoch | .life=>true
 | _=>false
def IsLook (w:World) (c:Cmd) (cs:List Value):Prop:=if zuZ c=true then ∃ b,cs=[.string (bs c.form),fnV 242 [.pointer (some ⟨b,0,none⟩)]]∧Blk w b 279 [fnV (zcp c) []] else cs=[.string (bs c.form),fnV (zcp c) []]
def Finds (w:World) (r:Nat) (L:List Cmd) (I:World→Cmd→List Value→Prop):Prop:=∃ l n,w.heap[r]?=some (zmh l n)∧∀ s,(zcQ s L=none∧zhQ s l 0=none)∨∃ c i cs,zcQ s L=some c∧c∈L∧zhQ s l 0=some (i,.agg cs.toArray)∧I w c cs
abbrev fbA (b:Nat) (c:Cmd):Ent:=blk b 273 [fnV (zjy c) []]
abbrev fbL (b:Nat) (c:Cmd):Ent:=blk b 279 [fnV (zcp c) []]
def zt0 (b0 b1 b2 b3 b4 b5 b6:Nat):List znv:=[((Cmd.word .tick,[.string (bs (Cmd.form .tick)),fnV 231 [.pointer (some ⟨b0,0,none⟩)]]),0),((Cmd.word .go,[.string (bs (Cmd.form .go)),fnV 231 [.pointer (some ⟨b1,0,none⟩)]]),1),((Cmd.word .lose,[.string (bs (Cmd.form .lose)),fnV 231 [.pointer (some ⟨b2,0,none⟩)]]),2),((Cmd.word .twice,[.string (bs (Cmd.form .twice)),fnV 231 [.pointer (some ⟨b3,0,none⟩)]]),3),((Cmd.word .down,[.string (bs (Cmd.form .down)),fnV 231 [.pointer (some ⟨b4,0,none⟩)]]),4),((Cmd.word .up,[.string (bs (Cmd.form .up)),fnV 231 [.pointer (some ⟨b5,0,none⟩)]]),5),((Cmd.word .cut,[.string (bs (Cmd.form .cut)),fnV 231 [.pointer (some ⟨b6,0,none⟩)]]),6)]
def zkH (b4 b5 b6 b7:Nat):List znv:=[((Cmd.word .all,[.string (bs (Cmd.form .all)),fnV (zcp .all) []]),0),((Cmd.word .fly,[.string (bs (Cmd.form .fly)),fnV (zcp .fly) []]),1),((Cmd.word .active,[.string (bs (Cmd.form .active)),fnV (zcp .active) []]),2),((Cmd.word .switch,[.string (bs (Cmd.form .switch)),fnV (zcp .switch) []]),3),((Cmd.word .flows,[.string (bs (Cmd.form .flows)),fnV 242 [.pointer (some ⟨b4,0,none⟩)]]),4),((Cmd.word .mirror,[.string (bs (Cmd.form .mirror)),fnV 242 [.pointer (some ⟨b5,0,none⟩)]]),5),((Cmd.word .epoch,[.string (bs (Cmd.form .epoch)),fnV 242 [.pointer (some ⟨b6,0,none⟩)]]),6),((Cmd.word .life,[.string (bs (Cmd.form .life)),fnV 242 [.pointer (some ⟨b7,0,none⟩)]]),7),((Cmd.word .events,[.string (bs (Cmd.form .events)),fnV (zcp .events) []]),8)]
theorem zsN (w:World):CallC Tryz.prog 79 #[] w fun v w'=>(∃ r,v = .map (some r)∧Finds w' r zeK IsAct)∧Ext No w w':=by
 refine zaa tabOk Tryz.func79 (by kernel_rfl) rfl Tryz.ntmps79 (lbO rfl) ?_;have hS:=St.start w No;(conv=>whnf);refine hS.mkMapS (fun r w' hS=>?_);replace hS:St w No w' [zgp r [] 0]:=hS;(conv=>whnf);refine (zeN (Cmd.form .tick) (zjy .tick) _).mono ?_;rintro v w2 ⟨⟨b0,rfl,hb,hB⟩,hx⟩;replace hS:=hS.made hx (zab _ _ _) hB (by intro c hc;obtain rfl:=List.mem_singleton.1 hc;exact ⟨hb,hB.lt⟩);clear hb hB hx;(conv=>whnf);refine hS.insS 0 rfl (s:=Cmd.word .tick) (cs:=[.string (bs (Cmd.form .tick)),fnV 231 [.pointer (some ⟨b0,0,none⟩)]]) (by kernel_rfl) (fun w' hS=>?_);replace hS:St w No w' (zgp r ((zt0 b0 0 0 0 0 0 0).take 1) 1::[fbA b0 .tick]):=hS;(conv=>whnf);refine (zeN (Cmd.form .go) (zjy .go) _).mono ?_;rintro v w2 ⟨⟨b1,rfl,hb,hB⟩,hx⟩;replace hS:=hS.made hx (zab _ _ _) hB (by intro c hc;obtain rfl:=List.mem_singleton.1 hc;exact ⟨hb,hB.lt⟩);clear hb hB hx;(conv=>whnf);refine hS.insS 0 rfl (s:=Cmd.word .go) (cs:=[.string (bs (Cmd.form .go)),fnV 231 [.pointer (some ⟨b1,0,none⟩)]]) (by kernel_rfl) (fun w' hS=>?_);replace hS:St w No w' (zgp r ((zt0 b0 b1 0 0 0 0 0).take 2) 2::[fbA b0 .tick,fbA b1 .go]):=hS;(conv=>whnf);refine (zeN (Cmd.form .lose) (zjy .lose) _).mono ?_;rintro v w2 ⟨⟨b2,rfl,hb,hB⟩,hx⟩;replace hS:=hS.made hx (zab _ _ _) hB (by intro c hc;obtain rfl:=List.mem_singleton.1 hc;exact ⟨hb,hB.lt⟩);clear hb hB hx;(conv=>whnf);refine hS.insS 0 rfl (s:=Cmd.word .lose) (cs:=[.string (bs (Cmd.form .lose)),fnV 231 [.pointer (some ⟨b2,0,none⟩)]]) (by kernel_rfl) (fun w' hS=>?_);replace hS:St w No w' (zgp r ((zt0 b0 b1 b2 0 0 0 0).take 3) 3::[fbA b0 .tick,fbA b1 .go,fbA b2 .lose]):=hS;(conv=>whnf);refine (zeN (Cmd.form .twice) (zjy .twice) _).mono ?_;rintro v w2 ⟨⟨b3,rfl,hb,hB⟩,hx⟩;replace hS:=hS.made hx (zab _ _ _) hB (by intro c hc;obtain rfl:=List.mem_singleton.1 hc;exact ⟨hb,hB.lt⟩);clear hb hB hx;(conv=>whnf);refine hS.insS 0 rfl (s:=Cmd.word .twice) (cs:=[.string (bs (Cmd.form .twice)),fnV 231 [.pointer (some ⟨b3,0,none⟩)]]) (by kernel_rfl) (fun w' hS=>?_);replace hS:St w No w' (zgp r ((zt0 b0 b1 b2 b3 0 0 0).take 4) 4::[fbA b0 .tick,fbA b1 .go,fbA b2 .lose,fbA b3 .twice]):=hS;(conv=>whnf);refine (zeN (Cmd.form .down) (zjy .down) _).mono ?_;rintro v w2 ⟨⟨b4,rfl,hb,hB⟩,hx⟩;replace hS:=hS.made hx (zab _ _ _) hB (by intro c hc;obtain rfl:=List.mem_singleton.1 hc;exact ⟨hb,hB.lt⟩);clear hb hB hx;(conv=>whnf);refine hS.insS 0 rfl (s:=Cmd.word .down) (cs:=[.string (bs (Cmd.form .down)),fnV 231 [.pointer (some ⟨b4,0,none⟩)]]) (by kernel_rfl) (fun w' hS=>?_);replace hS:St w No w' (zgp r ((zt0 b0 b1 b2 b3 b4 0 0).take 5) 5::[fbA b0 .tick,fbA b1 .go,fbA b2 .lose,fbA b3 .twice,fbA b4 .down]):=hS;(conv=>whnf);refine (zeN (Cmd.form .up) (zjy .up) _).mono ?_;rintro v w2 ⟨⟨b5,rfl,hb,hB⟩,hx⟩;replace hS:=hS.made hx (zab _ _ _) hB (by intro c hc;obtain rfl:=List.mem_singleton.1 hc;exact ⟨hb,hB.lt⟩);clear hb hB hx;(conv=>whnf);refine hS.insS 0 rfl (s:=Cmd.word .up) (cs:=[.string (bs (Cmd.form .up)),fnV 231 [.pointer (some ⟨b5,0,none⟩)]]) (by kernel_rfl) (fun w' hS=>?_);replace hS:St w No w' (zgp r ((zt0 b0 b1 b2 b3 b4 b5 0).take 6) 6::[fbA b0 .tick,fbA b1 .go,fbA b2 .lose,fbA b3 .twice,fbA b4 .down,fbA b5 .up]):=hS;(conv=>whnf);refine (zeN (Cmd.form .cut) (zjy .cut) _).mono ?_;rintro v w2 ⟨⟨b6,rfl,hb,hB⟩,hx⟩;replace hS:=hS.made hx (zab _ _ _) hB (by intro c hc;obtain rfl:=List.mem_singleton.1 hc;exact ⟨hb,hB.lt⟩);clear hb hB hx;(conv=>whnf);refine hS.insS 0 rfl (s:=Cmd.word .cut) (cs:=[.string (bs (Cmd.form .cut)),fnV 231 [.pointer (some ⟨b6,0,none⟩)]]) (by kernel_rfl) (fun w' hS=>?_);replace hS:St w No w' [zgp r [((Cmd.word .tick,[.string (bs (Cmd.form .tick)),fnV 231 [.pointer (some ⟨b0,0,none⟩)]]),0),((Cmd.word .go,[.string (bs (Cmd.form .go)),fnV 231 [.pointer (some ⟨b1,0,none⟩)]]),1),((Cmd.word .lose,[.string (bs (Cmd.form .lose)),fnV 231 [.pointer (some ⟨b2,0,none⟩)]]),2),((Cmd.word .twice,[.string (bs (Cmd.form .twice)),fnV 231 [.pointer (some ⟨b3,0,none⟩)]]),3),((Cmd.word .down,[.string (bs (Cmd.form .down)),fnV 231 [.pointer (some ⟨b4,0,none⟩)]]),4),((Cmd.word .up,[.string (bs (Cmd.form .up)),fnV 231 [.pointer (some ⟨b5,0,none⟩)]]),5),((Cmd.word .cut,[.string (bs (Cmd.form .cut)),fnV 231 [.pointer (some ⟨b6,0,none⟩)]]),6)] 7,blk b0 273 [fnV (zjy .tick) []],blk b1 273 [fnV (zjy .go) []],blk b2 273 [fnV (zjy .lose) []],blk b3 273 [fnV (zjy .twice) []],blk b4 273 [fnV (zjy .down) []],blk b5 273 [fnV (zjy .up) []],blk b6 273 [fnV (zjy .cut) []]]:=hS;repeat' ((conv=>whnf);first|apply RetC.mk|refine rgO ?_|refine ixO ?_|(first|apply brD|apply zad|apply brN|apply brI)<;>(intro))
 refine ⟨⟨r,rfl,_,_,hS.get 0 rfl,fun s=>?_⟩,hS.ext⟩;by_cases h0:s=Cmd.word .tick
 ·exact .inr ⟨.tick,0,_,if_pos h0,List.mem_cons_self,if_pos h0,b0,rfl,hS.blk 1 rfl⟩
 by_cases h1:s=Cmd.word .go
 ·exact .inr ⟨.go,1,_,(if_neg h0).trans (if_pos h1),List.mem_cons_of_mem _ (List.mem_cons_self),(if_neg h0).trans (if_pos h1),b1,rfl,hS.blk 2 rfl⟩
 by_cases h2:s=Cmd.word .lose
 ·exact .inr ⟨.lose,2,_,(if_neg h0).trans ((if_neg h1).trans (if_pos h2)),List.mem_cons_of_mem _ (List.mem_cons_of_mem _ (List.mem_cons_self)),(if_neg h0).trans ((if_neg h1).trans (if_pos h2)),b2,rfl,hS.blk 3 rfl⟩
 by_cases h3:s=Cmd.word .twice
 ·exact .inr ⟨.twice,3,_,(if_neg h0).trans ((if_neg h1).trans ((if_neg h2).trans (if_pos h3))),List.mem_cons_of_mem _ (List.mem_cons_of_mem _ (List.mem_cons_of_mem _ (List.mem_cons_self))),(if_neg h0).trans ((if_neg h1).trans ((if_neg h2).trans (if_pos h3))),b3,rfl,hS.blk 4 rfl⟩
 by_cases h4:s=Cmd.word .down
 ·exact .inr ⟨.down,4,_,(if_neg h0).trans ((if_neg h1).trans ((if_neg h2).trans ((if_neg h3).trans (if_pos h4)))),List.mem_cons_of_mem _ (List.mem_cons_of_mem _ (List.mem_cons_of_mem _ (List.mem_cons_of_mem _ (List.mem_cons_self)))),(if_neg h0).trans ((if_neg h1).trans ((if_neg h2).trans ((if_neg h3).trans (if_pos h4)))),b4,rfl,hS.blk 5 rfl⟩
 by_cases h5:s=Cmd.word .up
 ·exact .inr ⟨.up,5,_,(if_neg h0).trans ((if_neg h1).trans ((if_neg h2).trans ((if_neg h3).trans ((if_neg h4).trans (if_pos h5))))),List.mem_cons_of_mem _ (List.mem_cons_of_mem _ (List.mem_cons_of_mem _ (List.mem_cons_of_mem _ (List.mem_cons_of_mem _ (List.mem_cons_self))))),(if_neg h0).trans ((if_neg h1).trans ((if_neg h2).trans ((if_neg h3).trans ((if_neg h4).trans (if_pos h5))))),b5,rfl,hS.blk 6 rfl⟩
 by_cases h6:s=Cmd.word .cut
 ·exact .inr ⟨.cut,6,_,(if_neg h0).trans ((if_neg h1).trans ((if_neg h2).trans ((if_neg h3).trans ((if_neg h4).trans ((if_neg h5).trans (if_pos h6)))))),List.mem_cons_of_mem _ (List.mem_cons_of_mem _ (List.mem_cons_of_mem _ (List.mem_cons_of_mem _ (List.mem_cons_of_mem _ (List.mem_cons_of_mem _ (List.mem_cons_self)))))),(if_neg h0).trans ((if_neg h1).trans ((if_neg h2).trans ((if_neg h3).trans ((if_neg h4).trans ((if_neg h5).trans (if_pos h6)))))),b6,rfl,hS.blk 7 rfl⟩
 exact .inl ⟨(if_neg h0).trans ((if_neg h1).trans ((if_neg h2).trans ((if_neg h3).trans ((if_neg h4).trans ((if_neg h5).trans ((if_neg h6).trans (rfl))))))),(if_neg h0).trans ((if_neg h1).trans ((if_neg h2).trans ((if_neg h3).trans ((if_neg h4).trans ((if_neg h5).trans ((if_neg h6).trans (rfl)))))))⟩
theorem zr9 (w:World):CallC Tryz.prog 80 #[] w fun v w'=>(∃ r,v = .map (some r)∧Finds w' r zd0 IsLook)∧Ext No w w':=by
 refine zaa tabOk Tryz.func80 (by kernel_rfl) rfl Tryz.ntmps80 (lbO rfl) ?_;have hS:=St.start w No;(conv=>whnf);refine hS.mkMapS (fun r w' hS=>?_);replace hS:St w No w' [zgp r [] 0]:=hS;(conv=>whnf);refine hS.insS 0 rfl (s:=Cmd.word .all) (cs:=[.string (bs (Cmd.form .all)),fnV (zcp .all) []]) (by kernel_rfl) (fun w' hS=>?_);replace hS:St w No w' (zgp r ((zkH 0 0 0 0).take 1) 1::[]):=hS;(conv=>whnf);refine hS.insS 0 rfl (s:=Cmd.word .fly) (cs:=[.string (bs (Cmd.form .fly)),fnV (zcp .fly) []]) (by kernel_rfl) (fun w' hS=>?_);replace hS:St w No w' (zgp r ((zkH 0 0 0 0).take 2) 2::[]):=hS;(conv=>whnf);refine hS.insS 0 rfl (s:=Cmd.word .active) (cs:=[.string (bs (Cmd.form .active)),fnV (zcp .active) []]) (by kernel_rfl) (fun w' hS=>?_);replace hS:St w No w' (zgp r ((zkH 0 0 0 0).take 3) 3::[]):=hS;(conv=>whnf);refine hS.insS 0 rfl (s:=Cmd.word .switch) (cs:=[.string (bs (Cmd.form .switch)),fnV (zcp .switch) []]) (by kernel_rfl) (fun w' hS=>?_);replace hS:St w No w' (zgp r ((zkH 0 0 0 0).take 4) 4::[]):=hS;(conv=>whnf);refine (zjn (zcp .flows) _).mono ?_;rintro v w2 ⟨⟨b4,rfl,hb,hB⟩,hx⟩;replace hS:=hS.made hx (zab _ _ _) hB (by intro c hc;obtain rfl:=List.mem_singleton.1 hc;exact ⟨hb,hB.lt⟩);clear hb hB hx;(conv=>whnf);refine hS.insS 0 rfl (s:=Cmd.word .flows) (cs:=[.string (bs (Cmd.form .flows)),fnV 242 [.pointer (some ⟨b4,0,none⟩)]]) (by kernel_rfl) (fun w' hS=>?_);replace hS:St w No w' (zgp r ((zkH b4 0 0 0).take 5) 5::[fbL b4 .flows]):=hS;(conv=>whnf);refine (zjn (zcp .mirror) _).mono ?_;rintro v w2 ⟨⟨b5,rfl,hb,hB⟩,hx⟩;replace hS:=hS.made hx (zab _ _ _) hB (by intro c hc;obtain rfl:=List.mem_singleton.1 hc;exact ⟨hb,hB.lt⟩);clear hb hB hx;(conv=>whnf);refine hS.insS 0 rfl (s:=Cmd.word .mirror) (cs:=[.string (bs (Cmd.form .mirror)),fnV 242 [.pointer (some ⟨b5,0,none⟩)]]) (by kernel_rfl) (fun w' hS=>?_);replace hS:St w No w' (zgp r ((zkH b4 b5 0 0).take 6) 6::[fbL b4 .flows,fbL b5 .mirror]):=hS;(conv=>whnf);refine (zjn (zcp .epoch) _).mono ?_;rintro v w2 ⟨⟨b6,rfl,hb,hB⟩,hx⟩;replace hS:=hS.made hx (zab _ _ _) hB (by intro c hc;obtain rfl:=List.mem_singleton.1 hc;exact ⟨hb,hB.lt⟩);clear hb hB hx;(conv=>whnf);refine hS.insS 0 rfl (s:=Cmd.word .epoch) (cs:=[.string (bs (Cmd.form .epoch)),fnV 242 [.pointer (some ⟨b6,0,none⟩)]]) (by kernel_rfl) (fun w' hS=>?_);replace hS:St w No w' (zgp r ((zkH b4 b5 b6 0).take 7) 7::[fbL b4 .flows,fbL b5 .mirror,fbL b6 .epoch]):=hS;(conv=>whnf);refine (zjn (zcp .life) _).mono ?_;rintro v w2 ⟨⟨b7,rfl,hb,hB⟩,hx⟩;replace hS:=hS.made hx (zab _ _ _) hB (by intro c hc;obtain rfl:=List.mem_singleton.1 hc;exact ⟨hb,hB.lt⟩);clear hb hB hx;(conv=>whnf);refine hS.insS 0 rfl (s:=Cmd.word .life) (cs:=[.string (bs (Cmd.form .life)),fnV 242 [.pointer (some ⟨b7,0,none⟩)]]) (by kernel_rfl) (fun w' hS=>?_);replace hS:St w No w' (zgp r ((zkH b4 b5 b6 b7).take 8) 8::[fbL b4 .flows,fbL b5 .mirror,fbL b6 .epoch,fbL b7 .life]):=hS;(conv=>whnf);refine hS.insS 0 rfl (s:=Cmd.word .events) (cs:=[.string (bs (Cmd.form .events)),fnV (zcp .events) []]) (by kernel_rfl) (fun w' hS=>?_);replace hS:St w No w' [zgp r [((Cmd.word .all,[.string (bs (Cmd.form .all)),fnV (zcp .all) []]),0),((Cmd.word .fly,[.string (bs (Cmd.form .fly)),fnV (zcp .fly) []]),1),((Cmd.word .active,[.string (bs (Cmd.form .active)),fnV (zcp .active) []]),2),((Cmd.word .switch,[.string (bs (Cmd.form .switch)),fnV (zcp .switch) []]),3),((Cmd.word .flows,[.string (bs (Cmd.form .flows)),fnV 242 [.pointer (some ⟨b4,0,none⟩)]]),4),((Cmd.word .mirror,[.string (bs (Cmd.form .mirror)),fnV 242 [.pointer (some ⟨b5,0,none⟩)]]),5),((Cmd.word .epoch,[.string (bs (Cmd.form .epoch)),fnV 242 [.pointer (some ⟨b6,0,none⟩)]]),6),((Cmd.word .life,[.string (bs (Cmd.form .life)),fnV 242 [.pointer (some ⟨b7,0,none⟩)]]),7),((Cmd.word .events,[.string (bs (Cmd.form .events)),fnV (zcp .events) []]),8)] 9,blk b4 279 [fnV (zcp .flows) []],blk b5 279 [fnV (zcp .mirror) []],blk b6 279 [fnV (zcp .epoch) []],blk b7 279 [fnV (zcp .life) []]]:=hS;repeat' ((conv=>whnf);first|apply RetC.mk|refine rgO ?_|refine ixO ?_|(first|apply brD|apply zad|apply brN|apply brI)<;>(intro))
 refine ⟨⟨r,rfl,_,_,hS.get 0 rfl,fun s=>?_⟩,hS.ext⟩;by_cases h0:s=Cmd.word .all
 ·exact .inr ⟨.all,0,_,if_pos h0,List.mem_cons_self,if_pos h0,rfl⟩
 by_cases h1:s=Cmd.word .fly
 ·exact .inr ⟨.fly,1,_,(if_neg h0).trans (if_pos h1),List.mem_cons_of_mem _ (List.mem_cons_self),(if_neg h0).trans (if_pos h1),rfl⟩
 by_cases h2:s=Cmd.word .active
 ·exact .inr ⟨.active,2,_,(if_neg h0).trans ((if_neg h1).trans (if_pos h2)),List.mem_cons_of_mem _ (List.mem_cons_of_mem _ (List.mem_cons_self)),(if_neg h0).trans ((if_neg h1).trans (if_pos h2)),rfl⟩
 by_cases h3:s=Cmd.word .switch
 ·exact .inr ⟨.switch,3,_,(if_neg h0).trans ((if_neg h1).trans ((if_neg h2).trans (if_pos h3))),List.mem_cons_of_mem _ (List.mem_cons_of_mem _ (List.mem_cons_of_mem _ (List.mem_cons_self))),(if_neg h0).trans ((if_neg h1).trans ((if_neg h2).trans (if_pos h3))),rfl⟩
 by_cases h4:s=Cmd.word .flows
 ·exact .inr ⟨.flows,4,_,(if_neg h0).trans ((if_neg h1).trans ((if_neg h2).trans ((if_neg h3).trans (if_pos h4)))),List.mem_cons_of_mem _ (List.mem_cons_of_mem _ (List.mem_cons_of_mem _ (List.mem_cons_of_mem _ (List.mem_cons_self)))),(if_neg h0).trans ((if_neg h1).trans ((if_neg h2).trans ((if_neg h3).trans (if_pos h4)))),b4,rfl,hS.blk 1 rfl⟩
 by_cases h5:s=Cmd.word .mirror
 ·exact .inr ⟨.mirror,5,_,(if_neg h0).trans ((if_neg h1).trans ((if_neg h2).trans ((if_neg h3).trans ((if_neg h4).trans (if_pos h5))))),List.mem_cons_of_mem _ (List.mem_cons_of_mem _ (List.mem_cons_of_mem _ (List.mem_cons_of_mem _ (List.mem_cons_of_mem _ (List.mem_cons_self))))),(if_neg h0).trans ((if_neg h1).trans ((if_neg h2).trans ((if_neg h3).trans ((if_neg h4).trans (if_pos h5))))),b5,rfl,hS.blk 2 rfl⟩
 by_cases h6:s=Cmd.word .epoch
 ·exact .inr ⟨.epoch,6,_,(if_neg h0).trans ((if_neg h1).trans ((if_neg h2).trans ((if_neg h3).trans ((if_neg h4).trans ((if_neg h5).trans (if_pos h6)))))),List.mem_cons_of_mem _ (List.mem_cons_of_mem _ (List.mem_cons_of_mem _ (List.mem_cons_of_mem _ (List.mem_cons_of_mem _ (List.mem_cons_of_mem _ (List.mem_cons_self)))))),(if_neg h0).trans ((if_neg h1).trans ((if_neg h2).trans ((if_neg h3).trans ((if_neg h4).trans ((if_neg h5).trans (if_pos h6)))))),b6,rfl,hS.blk 3 rfl⟩
 by_cases h7:s=Cmd.word .life
 ·exact .inr ⟨.life,7,_,(if_neg h0).trans ((if_neg h1).trans ((if_neg h2).trans ((if_neg h3).trans ((if_neg h4).trans ((if_neg h5).trans ((if_neg h6).trans (if_pos h7))))))),List.mem_cons_of_mem _ (List.mem_cons_of_mem _ (List.mem_cons_of_mem _ (List.mem_cons_of_mem _ (List.mem_cons_of_mem _ (List.mem_cons_of_mem _ (List.mem_cons_of_mem _ (List.mem_cons_self))))))),(if_neg h0).trans ((if_neg h1).trans ((if_neg h2).trans ((if_neg h3).trans ((if_neg h4).trans ((if_neg h5).trans ((if_neg h6).trans (if_pos h7))))))),b7,rfl,hS.blk 4 rfl⟩
 by_cases h8:s=Cmd.word .events
 ·exact .inr ⟨.events,8,_,(if_neg h0).trans ((if_neg h1).trans ((if_neg h2).trans ((if_neg h3).trans ((if_neg h4).trans ((if_neg h5).trans ((if_neg h6).trans ((if_neg h7).trans (if_pos h8)))))))),List.mem_cons_of_mem _ (List.mem_cons_of_mem _ (List.mem_cons_of_mem _ (List.mem_cons_of_mem _ (List.mem_cons_of_mem _ (List.mem_cons_of_mem _ (List.mem_cons_of_mem _ (List.mem_cons_of_mem _ (List.mem_cons_self)))))))),(if_neg h0).trans ((if_neg h1).trans ((if_neg h2).trans ((if_neg h3).trans ((if_neg h4).trans ((if_neg h5).trans ((if_neg h6).trans ((if_neg h7).trans (if_pos h8)))))))),rfl⟩
 exact .inl ⟨(if_neg h0).trans ((if_neg h1).trans ((if_neg h2).trans ((if_neg h3).trans ((if_neg h4).trans ((if_neg h5).trans ((if_neg h6).trans ((if_neg h7).trans ((if_neg h8).trans (rfl))))))))),(if_neg h0).trans ((if_neg h1).trans ((if_neg h2).trans ((if_neg h3).trans ((if_neg h4).trans ((if_neg h5).trans ((if_neg h6).trans ((if_neg h7).trans ((if_neg h8).trans (rfl)))))))))⟩

theorem zi1:∀ (m n:Nat),n < 10 ^ (m+1)→m≤18→∀ w:World,CallC Tryz.prog 91 #[.int .i64 (-(n:Int))] w fun v w'=>v = .string (bs (Lib.decDigits n))∧Ext No w w':=by
 intro m
 induction m with
 | zero =>
  intro n hn hm w;have hd:Lib.decDigits n=[UInt8.ofNat (48+n)]:=Lib.decDigits_one (by omega);refine zaa tabOk Tryz.func91 (by kernel_rfl) rfl Tryz.ntmps91 (lbO rfl) ?_;have hS:=St.start w No;(conv=>whnf);refine brD (fun h=>?_) (fun h=>absurd (show -(n:Int) > -10 by omega) h);(conv=>whnf);refine rgO ?_;rw [show (48:Int) - -(n:Int)=((48+n:Nat):Int) by omega];(conv=>whnf);refine (zdx (48+n) (by omega) _).mono ?_;rintro v w1 ⟨rfl,hx⟩;replace hS:=hS.no hx;repeat' ((conv=>whnf);first|apply RetC.mk|refine nzO ?_|refine rgO ?_|refine ixO ?_|(first|apply brD|apply zad|apply brN|apply brI)<;>(intro))
  rw [hd];exact ⟨rfl,hS.ext⟩
 | succ m ih =>
  intro n hn hm w;by_cases hlt:n < 10
  ·exact ih n (Nat.lt_of_lt_of_le (by omega) (Nat.pow_le_pow_right (by decide) (show 1≤m+1 by omega))) (by omega) w
  have hd:Lib.decDigits n=Lib.decDigits (n / 10)++[UInt8.ofNat (48+n % 10)]:=by
   rw [Lib.decDigits,dif_neg hlt]
  have hdl:=ziP (m+1) n hn;rw [hd,List.length_append,List.length_singleton] at hdl;have hbig:n < 10 ^ 19:=Nat.lt_of_lt_of_le hn (Nat.pow_le_pow_right (by decide) (by omega))
  have hq:(-(n:Int)).tdiv 10 = -((n / 10:Nat):Int):=by
   rw [Int.neg_tdiv,Int.tdiv_eq_ediv_of_nonneg (by omega)];omega
  have hr:(-(n:Int)).tmod 10 = -((n % 10:Nat):Int):=by
   rw [Int.neg_tmod,Int.tmod_eq_emod_of_nonneg (by omega)];omega
  refine zaa tabOk Tryz.func91 (by kernel_rfl) rfl Tryz.ntmps91 (lbO rfl) ?_;have hS:=St.start w No;(conv=>whnf);refine brD (fun h=>absurd (show ¬ -(n:Int) > -10 by omega) (not_not_intro h)) (fun h=>?_);(conv=>whnf);refine nzO ?_;rw [hq];refine rgO ?_;(conv=>whnf);refine (ih (n / 10) (by rw [Nat.div_lt_iff_lt_mul (by decide),← Nat.pow_succ];exact hn) (by omega) _).mono ?_;rintro v w1 ⟨rfl,hx⟩;replace hS:=hS.no hx;(conv=>whnf);refine nzO ?_;rw [hr];(conv=>whnf);refine rgO ?_;rw [show (48:Int) - -((n % 10:Nat):Int)=((48+n % 10:Nat):Int) by omega];(conv=>whnf);refine (zdx (48+n % 10) (by omega) _).mono ?_;rintro v w2 ⟨rfl,hx⟩;replace hS:=hS.no hx;(conv=>whnf);refine zbp (by simp;omega) ?_;repeat' ((conv=>whnf);first|apply RetC.mk|refine nzO ?_|refine rgO ?_|refine ixO ?_|(first|apply brD|apply zad|apply brN|apply brI)<;>(intro))
  rw [hd];exact ⟨rfl,hS.ext⟩
theorem zbS (n:Nat) (hn:n < 10 ^ 18) (w:World):CallC Tryz.prog 46 #[.int .i64 (n:Int)] w fun v w'=>v = .string (bs (Lib.itoa n))∧Ext No w w':=by
 refine zaa tabOk Tryz.func46 (by kernel_rfl) rfl Tryz.ntmps46 (lbO rfl) ?_;have hS:=St.start w No;(conv=>whnf);refine rgO ?_;rw [show (0:Int) - (n:Int) = -(n:Int) by omega];(conv=>whnf);refine (zi1 17 n hn (by omega) _).mono ?_;rintro v w1 ⟨rfl,hx⟩;replace hS:=hS.no hx;repeat' ((conv=>whnf);first|apply RetC.mk|refine nzO ?_|refine rgO ?_|refine ixO ?_|(first|apply brD|apply zad|apply brN|apply brI)<;>(intro))
 rw [zfw];exact ⟨rfl,hS.ext⟩

end Go.Proofs.YtogjajjdaoihdaaGreatDoor
