import Derived.Test.YtggimnndflkjkaaGreatDoorR01
import Derived.Test.YtggimnndflkjkaaGreatDoorR04
import Derived.Shelf.Strings.Builder1
import Derived.Shelf.Strings.Builder2
import Derived.Shelf.Strings.OnBuilder
import Derived.Shelf.Small.Bits
import Derived.Shelf.Small.Wraps
import Derived.Shelf.Strconv.Itoa3
import Derived.Shelf.Strings.Search3
import Derived.Shelf.Strings.Count
import Derived.Shelf.Strings.Split
import Derived.Shelf.Slices.Clone
import Derived.Test.YtggimnndflkjkaaGreatDoorProg
import Derived.Deep.QuietTactic
import Derived.BigQuiet
set_option linter.all false
set_option maxRecDepth 100000
set_option maxHeartbeats 0
namespace Go.Proofs.YtggimnndflkjkaaGreatDoor
section
open Go.Shelf
def Sh.lays156_ren : Go.Shelf.Ren:=⟨fun | 156=>148 | 165=>191 | 166=>192 | 169=>193 | 240=>218 | 241=>219 | 276=>232 | 277=>233 | n=>n,fun | 31=>77 | 9=>9 | 3=>3 | 4=>4 | 0=>0 | 20=>20 | 72=>250 | 76=>254 | 70=>248 | 37=>22 | 75=>253 | 127=>278 | 164=>292 | 5=>5 | 80=>256 | n=>n,fun | n=>n⟩
theorem Sh.lays156 : Go.Proofs.Lays.n156 Tryz.prog Sh.lays156_ren:={
 mixed:=by kernel_rfl
 f156:=Tryz.func148.trans (congrArg some (by kernel_rfl))
 f165:=Tryz.func191.trans (congrArg some (by kernel_rfl))
 f166:=Tryz.func192.trans (congrArg some (by kernel_rfl))
 f169:=Tryz.func193.trans (congrArg some (by kernel_rfl))
 f240:=Tryz.func218.trans (congrArg some (by kernel_rfl))
 f241:=Tryz.func219.trans (congrArg some (by kernel_rfl))
 f276:=Tryz.func232.trans (congrArg some (by kernel_rfl))
 f277:=Tryz.func233.trans (congrArg some (by kernel_rfl))
 t0:=Tryz.underlying0
 a0:=Tryz.isAgg0
 z0:=Tryz.sizeOf0
 v0:=Tryz.zeroValue0
 t3:=Tryz.underlying3
 a3:=Tryz.isAgg3
 z3:=Tryz.sizeOf3
 v3:=Tryz.zeroValue3
 t4:=Tryz.underlying4
 a4:=Tryz.isAgg4
 z4:=Tryz.sizeOf4
 v4:=Tryz.zeroValue4
 t9:=Tryz.underlying9
 a9:=Tryz.isAgg9
 z9:=Tryz.sizeOf9
 v9:=Tryz.zeroValue9
 t20:=Tryz.underlying20
 a20:=Tryz.isAgg20
 z20:=Tryz.sizeOf20
 v20:=Tryz.zeroValue20
 t31:=Tryz.underlying77
 a31:=Tryz.isAgg77
 z31:=Tryz.sizeOf77
 v31:=Tryz.zeroValue77
 t37:=Tryz.underlying22
 a37:=Tryz.isAgg22
 z37:=Tryz.sizeOf22
 v37:=Tryz.zeroValue22
 t70:=Tryz.underlying248
 a70:=Tryz.isAgg248
 z70:=Tryz.sizeOf248
 v70:=Tryz.zeroValue248
 t72:=Tryz.underlying250
 a72:=Tryz.isAgg250
 z72:=Tryz.sizeOf250
 v72:=Tryz.zeroValue250
 t75:=Tryz.underlying253
 a75:=Tryz.isAgg253
 z75:=Tryz.sizeOf253
 v75:=Tryz.zeroValue253
 t76:=Tryz.underlying254
 a76:=Tryz.isAgg254
 z76:=Tryz.sizeOf254
 v76:=Tryz.zeroValue254
 t127:=Tryz.underlying278
 a127:=Tryz.isAgg278
 z127:=Tryz.sizeOf278
 v127:=Tryz.zeroValue278
 t164:=Tryz.underlying292
 a164:=Tryz.isAgg292
 z164:=Tryz.sizeOf292
 v164:=Tryz.zeroValue292 }
theorem Sh.Builder_Extra_156 : Builder.Extra Tryz.prog Sh.lays156_ren:={
 sizeBuilder:=by kernel_rfl
 liesBuilder:=by kernel_rfl
 t5:=Tryz.underlying5
 a5:=Tryz.isAgg5
 z5:=Tryz.sizeOf5
 v5:=Tryz.zeroValue5
 infoByte:=by kernel_rfl
 cellsByte:=by kernel_rfl
 sizeByte:=by kernel_rfl
 neB5:=by decide }
open Go.RowKit in
theorem Sh.strings_Join (bk o c : Nat) (xs : List ByteArray) (sep : ByteArray) (w : World) (hcells : ∀ (j : Nat) x,xs[j]? = some x -> w.cell? ⟨bk,o + j,none⟩ = some (.string x)) (hbk : bk < w.heap.size) (hN : xs.length <= 140737488355328) (hcap : xs.length <= c) (hlen : (Lib.join (xs.map (·.data.toList)) sep.data.toList).length <= 140737488355328) :
  Calls Tryz.prog 148 #[.slice (some ⟨bk,o,none⟩) xs.length c,.string sep] w fun e w'=>e = .returned (.string ⟨(Lib.join (xs.map (·.data.toList)) sep.data.toList).toArray⟩) /\ Below w.heap.size w w':=Any.strings_Join Sh.lays156 Sh.Builder_Extra_156 bk o c xs sep w hcells hbk hN hcap hlen
def Sh.lays122_ren : Go.Shelf.Ren:=⟨fun | 122=>65 | 215=>105 | n=>n,fun | 3=>3 | 4=>4 | n=>n,fun | n=>n⟩
theorem Sh.lays122 : Go.Proofs.Lays.n122 Tryz.prog Sh.lays122_ren:={
 mixed:=by kernel_rfl
 f122:=Tryz.func65.trans (congrArg some (by kernel_rfl))
 f215:=Tryz.func105.trans (congrArg some (by kernel_rfl))
 t3:=Tryz.underlying3
 a3:=Tryz.isAgg3
 z3:=Tryz.sizeOf3
 v3:=Tryz.zeroValue3
 t4:=Tryz.underlying4
 a4:=Tryz.isAgg4
 z4:=Tryz.sizeOf4
 v4:=Tryz.zeroValue4 }
open Go.RowKit in
theorem Sh.cmp_Compare_int (x y : Int) (w : World) :
  Calls Tryz.prog 65 #[.int .i64 x,.int .i64 y] w fun e w'=>e = .returned (.int .i64 (Lib.compareInt x y)) /\ w' = w:=Any.cmp_Compare_int Sh.lays122 x y w
def Sh.laysM171_ren : Go.Shelf.Ren:=⟨fun | 171=>19 | 243=>36 | 246=>66 | 283=>106 | 284=>107 | 285=>108 | 286=>109 | 129=>168 | 317=>177 | 318=>178 | 319=>179 | 320=>180 | 337=>204 | 338=>205 | n=>n,fun | 3=>3 | 9=>9 | 2=>2 | 4=>4 | 171=>178 | 0=>0 | 53=>179 | 37=>22 | 5=>5 | 173=>182 | 212=>239 | 51=>232 | 20=>20 | 213=>240 | 46=>175 | 232=>287 | 233=>288 | n=>n,fun | 17=>0 | 18=>1 | 19=>2 | n=>n⟩
theorem Sh.laysM171 : Go.Proofs.LaysM.n171 Tryz.prog Sh.laysM171_ren:={
 mixed:=by kernel_rfl
 f129:=Tryz.func168.trans (congrArg some (by kernel_rfl))
 f171:=Tryz.func19.trans (congrArg some (by kernel_rfl))
 f243:=Tryz.func36.trans (congrArg some (by kernel_rfl))
 f246:=Tryz.func66.trans (congrArg some (by kernel_rfl))
 f283:=Tryz.func106.trans (congrArg some (by kernel_rfl))
 f284:=Tryz.func107.trans (congrArg some (by kernel_rfl))
 f285:=Tryz.func108.trans (congrArg some (by kernel_rfl))
 f286:=Tryz.func109.trans (congrArg some (by kernel_rfl))
 f317:=Tryz.func177.trans (congrArg some (by kernel_rfl))
 f318:=Tryz.func178.trans (congrArg some (by kernel_rfl))
 f319:=Tryz.func179.trans (congrArg some (by kernel_rfl))
 f320:=Tryz.func180.trans (congrArg some (by kernel_rfl))
 f337:=Tryz.func204.trans (congrArg some (by kernel_rfl))
 f338:=Tryz.func205.trans (congrArg some (by kernel_rfl))
 t0:=Tryz.underlying0
 a0:=Tryz.isAgg0
 z0:=Tryz.sizeOf0
 v0:=Tryz.zeroValue0
 t2:=Tryz.underlying2
 a2:=Tryz.isAgg2
 z2:=Tryz.sizeOf2
 v2:=Tryz.zeroValue2
 t3:=Tryz.underlying3
 a3:=Tryz.isAgg3
 z3:=Tryz.sizeOf3
 v3:=Tryz.zeroValue3
 t4:=Tryz.underlying4
 a4:=Tryz.isAgg4
 z4:=Tryz.sizeOf4
 v4:=Tryz.zeroValue4
 t5:=Tryz.underlying5
 a5:=Tryz.isAgg5
 z5:=Tryz.sizeOf5
 v5:=Tryz.zeroValue5
 t9:=Tryz.underlying9
 a9:=Tryz.isAgg9
 z9:=Tryz.sizeOf9
 v9:=Tryz.zeroValue9
 t20:=Tryz.underlying20
 a20:=Tryz.isAgg20
 z20:=Tryz.sizeOf20
 v20:=Tryz.zeroValue20
 t37:=Tryz.underlying22
 a37:=Tryz.isAgg22
 z37:=Tryz.sizeOf22
 v37:=Tryz.zeroValue22
 t46:=Tryz.underlying175
 a46:=Tryz.isAgg175
 z46:=Tryz.sizeOf175
 v46:=Tryz.zeroValue175
 t51:=Tryz.underlying232
 a51:=Tryz.isAgg232
 z51:=Tryz.sizeOf232
 v51:=Tryz.zeroValue232
 t53:=Tryz.underlying179
 a53:=Tryz.isAgg179
 z53:=Tryz.sizeOf179
 v53:=Tryz.zeroValue179
 t171:=Tryz.underlying178
 a171:=Tryz.isAgg178
 z171:=Tryz.sizeOf178
 v171:=Tryz.zeroValue178
 t173:=Tryz.underlying182
 a173:=Tryz.isAgg182
 z173:=Tryz.sizeOf182
 v173:=Tryz.zeroValue182
 t212:=Tryz.underlying239
 a212:=Tryz.isAgg239
 z212:=Tryz.sizeOf239
 v212:=Tryz.zeroValue239
 t213:=Tryz.underlying240
 a213:=Tryz.isAgg240
 z213:=Tryz.sizeOf240
 t232:=Tryz.underlying287
 a232:=Tryz.isAgg287
 z232:=Tryz.sizeOf287
 v232:=Tryz.zeroValue287
 t233:=Tryz.underlying288
 a233:=Tryz.isAgg288
 z233:=Tryz.sizeOf288
 v233:=Tryz.zeroValue288
 g17:=by kernel_rfl
 g18:=by kernel_rfl
 g19:=by kernel_rfl
 i0:=by kernel_rfl
 i2:=by kernel_rfl
 i3:=by kernel_rfl
 i4:=by kernel_rfl
 i5:=by kernel_rfl
 i9:=by kernel_rfl
 i20:=by kernel_rfl
 i37:=by kernel_rfl
 i46:=by kernel_rfl
 i51:=by kernel_rfl
 i53:=by kernel_rfl
 i171:=by kernel_rfl
 i173:=by kernel_rfl
 i212:=by kernel_rfl
 i232:=by kernel_rfl
 i233:=by kernel_rfl
 m17:=by kernel_rfl
 m18:=by kernel_rfl
 m19:=by kernel_rfl }
open Go.RowKit Go.Sort Go.Lib in
theorem Sh.strconv_Itoa (n : Int) (h0 : -9223372036854775808 <= n) (h1 : n <= 9223372036854775807) (w : World) (htab : Lib.TabIs Tryz.prog w "internal/strconv.uint64pow10" .u64 Lib.pow10Tab) :
  Calls Tryz.prog 19 #[.int .i64 n] w fun e w'=>e = .returned (.string ⟨(Lib.itoa n).toArray⟩) /\ ∃ k os,w' = grow (w.drewN k) os:=Any.strconv_Itoa Sh.laysM171 n h0 h1 w htab
def Sh.lays219_ren : Go.Shelf.Ren:=⟨fun | 219=>220 | 217=>234 | 225=>235 | 224=>236 | 267=>237 | 266=>244 | 314=>245 | n=>n,fun | 9=>9 | 3=>3 | 4=>4 | 5=>5 | 46=>175 | 146=>304 | 51=>232 | n=>n,fun | 1=>3 | n=>n⟩
theorem Sh.lays219 : Go.Proofs.Lays.n219 Tryz.prog Sh.lays219_ren:={
 mixed:=by kernel_rfl
 f217:=Tryz.func234.trans (congrArg some (by kernel_rfl))
 f219:=Tryz.func220.trans (congrArg some (by kernel_rfl))
 f224:=Tryz.func236.trans (congrArg some (by kernel_rfl))
 f225:=Tryz.func235.trans (congrArg some (by kernel_rfl))
 f266:=Tryz.func244.trans (congrArg some (by kernel_rfl))
 f267:=Tryz.func237.trans (congrArg some (by kernel_rfl))
 f314:=Tryz.func245.trans (congrArg some (by kernel_rfl))
 t3:=Tryz.underlying3
 a3:=Tryz.isAgg3
 z3:=Tryz.sizeOf3
 v3:=Tryz.zeroValue3
 t4:=Tryz.underlying4
 a4:=Tryz.isAgg4
 z4:=Tryz.sizeOf4
 v4:=Tryz.zeroValue4
 t5:=Tryz.underlying5
 a5:=Tryz.isAgg5
 z5:=Tryz.sizeOf5
 v5:=Tryz.zeroValue5
 t9:=Tryz.underlying9
 a9:=Tryz.isAgg9
 z9:=Tryz.sizeOf9
 v9:=Tryz.zeroValue9
 t46:=Tryz.underlying175
 a46:=Tryz.isAgg175
 z46:=Tryz.sizeOf175
 v46:=Tryz.zeroValue175
 t51:=Tryz.underlying232
 a51:=Tryz.isAgg232
 z51:=Tryz.sizeOf232
 v51:=Tryz.zeroValue232
 t146:=Tryz.underlying304
 a146:=Tryz.isAgg304
 z146:=Tryz.sizeOf304
 v146:=Tryz.zeroValue304
 g1:=by kernel_rfl }
open Go.RowKit Go.Lib in
theorem Sh.stringslite_Index_one (s : ByteArray) (c : UInt8) (w : World) :
  Calls Tryz.prog 220 #[.string s,.string ⟨#[c]⟩] w fun e w'=>e = .returned (.int .i64 (Lib.indexByte s.data.toList c)) /\ w' = w:=Any.stringslite_Index_one Sh.lays219 s c w
def Sh.lays143_ren : Go.Shelf.Ren:=⟨fun | 143=>231 | 219=>220 | 217=>234 | 225=>235 | 224=>236 | 267=>237 | 266=>244 | 314=>245 | n=>n,fun | 9=>9 | 3=>3 | 4=>4 | 5=>5 | 46=>175 | 146=>304 | 51=>232 | n=>n,fun | 1=>3 | n=>n⟩
theorem Sh.lays143 : Go.Proofs.Lays.n143 Tryz.prog Sh.lays143_ren:={
 mixed:=by kernel_rfl
 f143:=Tryz.func231.trans (congrArg some (by kernel_rfl))
 f217:=Tryz.func234.trans (congrArg some (by kernel_rfl))
 f219:=Tryz.func220.trans (congrArg some (by kernel_rfl))
 f224:=Tryz.func236.trans (congrArg some (by kernel_rfl))
 f225:=Tryz.func235.trans (congrArg some (by kernel_rfl))
 f266:=Tryz.func244.trans (congrArg some (by kernel_rfl))
 f267:=Tryz.func237.trans (congrArg some (by kernel_rfl))
 f314:=Tryz.func245.trans (congrArg some (by kernel_rfl))
 t3:=Tryz.underlying3
 a3:=Tryz.isAgg3
 z3:=Tryz.sizeOf3
 v3:=Tryz.zeroValue3
 t4:=Tryz.underlying4
 a4:=Tryz.isAgg4
 z4:=Tryz.sizeOf4
 v4:=Tryz.zeroValue4
 t5:=Tryz.underlying5
 a5:=Tryz.isAgg5
 z5:=Tryz.sizeOf5
 v5:=Tryz.zeroValue5
 t9:=Tryz.underlying9
 a9:=Tryz.isAgg9
 z9:=Tryz.sizeOf9
 v9:=Tryz.zeroValue9
 t46:=Tryz.underlying175
 a46:=Tryz.isAgg175
 z46:=Tryz.sizeOf175
 v46:=Tryz.zeroValue175
 t51:=Tryz.underlying232
 a51:=Tryz.isAgg232
 z51:=Tryz.sizeOf232
 v51:=Tryz.zeroValue232
 t146:=Tryz.underlying304
 a146:=Tryz.isAgg304
 z146:=Tryz.sizeOf304
 v146:=Tryz.zeroValue304
 g1:=by kernel_rfl }
open Go.RowKit Go.Lib in
theorem Sh.strings_Index_one (s : ByteArray) (c : UInt8) (w : World) :
  Calls Tryz.prog 231 #[.string s,.string ⟨#[c]⟩] w fun e w'=>e = .returned (.int .i64 (Lib.indexByte s.data.toList c)) /\ w' = w:=Any.strings_Index_one Sh.lays143 s c w
def Sh.lays138_ren : Go.Shelf.Ren:=⟨fun | 138=>230 | 195=>241 | 218=>243 | 143=>231 | 219=>220 | 217=>234 | 225=>235 | 224=>236 | 267=>237 | 266=>244 | 314=>245 | n=>n,fun | 9=>9 | 3=>3 | 4=>4 | 5=>5 | 0=>0 | 46=>175 | 146=>304 | 51=>232 | n=>n,fun | 1=>3 | n=>n⟩
theorem Sh.lays138 : Go.Proofs.Lays.n138 Tryz.prog Sh.lays138_ren:={
 mixed:=by kernel_rfl
 f138:=Tryz.func230.trans (congrArg some (by kernel_rfl))
 f143:=Tryz.func231.trans (congrArg some (by kernel_rfl))
 f195:=Tryz.func241.trans (congrArg some (by kernel_rfl))
 f217:=Tryz.func234.trans (congrArg some (by kernel_rfl))
 f218:=Tryz.func243.trans (congrArg some (by kernel_rfl))
 f219:=Tryz.func220.trans (congrArg some (by kernel_rfl))
 f224:=Tryz.func236.trans (congrArg some (by kernel_rfl))
 f225:=Tryz.func235.trans (congrArg some (by kernel_rfl))
 f266:=Tryz.func244.trans (congrArg some (by kernel_rfl))
 f267:=Tryz.func237.trans (congrArg some (by kernel_rfl))
 f314:=Tryz.func245.trans (congrArg some (by kernel_rfl))
 t0:=Tryz.underlying0
 a0:=Tryz.isAgg0
 z0:=Tryz.sizeOf0
 v0:=Tryz.zeroValue0
 t3:=Tryz.underlying3
 a3:=Tryz.isAgg3
 z3:=Tryz.sizeOf3
 v3:=Tryz.zeroValue3
 t4:=Tryz.underlying4
 a4:=Tryz.isAgg4
 z4:=Tryz.sizeOf4
 v4:=Tryz.zeroValue4
 t5:=Tryz.underlying5
 a5:=Tryz.isAgg5
 z5:=Tryz.sizeOf5
 v5:=Tryz.zeroValue5
 t9:=Tryz.underlying9
 a9:=Tryz.isAgg9
 z9:=Tryz.sizeOf9
 v9:=Tryz.zeroValue9
 t46:=Tryz.underlying175
 a46:=Tryz.isAgg175
 z46:=Tryz.sizeOf175
 v46:=Tryz.zeroValue175
 t51:=Tryz.underlying232
 a51:=Tryz.isAgg232
 z51:=Tryz.sizeOf232
 v51:=Tryz.zeroValue232
 t146:=Tryz.underlying304
 a146:=Tryz.isAgg304
 z146:=Tryz.sizeOf304
 v146:=Tryz.zeroValue304
 g1:=by kernel_rfl }
open Go.RowKit Go.Lib in
theorem Sh.strings_Count_one (s : ByteArray) (c : UInt8) (w : World) :
  Calls Tryz.prog 230 #[.string s,.string ⟨#[c]⟩] w fun e w'=>e = .returned (.int .i64 (Lib.countByte s.data.toList c)) /\ w' = w:=Any.strings_Count_one Sh.lays138 s c w
def Sh.lays221_ren : Go.Shelf.Ren:=⟨fun | 221=>214 | 268=>229 | 138=>230 | 143=>231 | 195=>241 | 197=>242 | 218=>243 | 219=>220 | 260=>247 | 217=>234 | 225=>235 | 224=>236 | 267=>237 | 266=>244 | 314=>245 | n=>n,fun | 9=>9 | 3=>3 | 31=>77 | 4=>4 | 0=>0 | 105=>302 | 21=>21 | 5=>5 | 46=>175 | 119=>308 | 139=>311 | 138=>310 | 146=>304 | 51=>232 | n=>n,fun | 1=>3 | 3=>4 | 4=>5 | n=>n⟩
theorem Sh.lays221 : Go.Proofs.Lays.n221 Tryz.prog Sh.lays221_ren:={
 mixed:=by kernel_rfl
 f138:=Tryz.func230.trans (congrArg some (by kernel_rfl))
 f143:=Tryz.func231.trans (congrArg some (by kernel_rfl))
 f195:=Tryz.func241.trans (congrArg some (by kernel_rfl))
 f197:=Tryz.func242.trans (congrArg some (by kernel_rfl))
 f217:=Tryz.func234.trans (congrArg some (by kernel_rfl))
 f218:=Tryz.func243.trans (congrArg some (by kernel_rfl))
 f219:=Tryz.func220.trans (congrArg some (by kernel_rfl))
 f221:=Tryz.func214.trans (congrArg some (by kernel_rfl))
 f224:=Tryz.func236.trans (congrArg some (by kernel_rfl))
 f225:=Tryz.func235.trans (congrArg some (by kernel_rfl))
 f260:=Tryz.func247.trans (congrArg some (by kernel_rfl))
 f266:=Tryz.func244.trans (congrArg some (by kernel_rfl))
 f267:=Tryz.func237.trans (congrArg some (by kernel_rfl))
 f268:=Tryz.func229.trans (congrArg some (by kernel_rfl))
 f314:=Tryz.func245.trans (congrArg some (by kernel_rfl))
 t0:=Tryz.underlying0
 a0:=Tryz.isAgg0
 z0:=Tryz.sizeOf0
 v0:=Tryz.zeroValue0
 t3:=Tryz.underlying3
 a3:=Tryz.isAgg3
 z3:=Tryz.sizeOf3
 v3:=Tryz.zeroValue3
 t4:=Tryz.underlying4
 a4:=Tryz.isAgg4
 z4:=Tryz.sizeOf4
 v4:=Tryz.zeroValue4
 t5:=Tryz.underlying5
 a5:=Tryz.isAgg5
 z5:=Tryz.sizeOf5
 v5:=Tryz.zeroValue5
 t9:=Tryz.underlying9
 a9:=Tryz.isAgg9
 z9:=Tryz.sizeOf9
 v9:=Tryz.zeroValue9
 t21:=Tryz.underlying21
 a21:=Tryz.isAgg21
 z21:=Tryz.sizeOf21
 v21:=Tryz.zeroValue21
 t31:=Tryz.underlying77
 a31:=Tryz.isAgg77
 z31:=Tryz.sizeOf77
 v31:=Tryz.zeroValue77
 t46:=Tryz.underlying175
 a46:=Tryz.isAgg175
 z46:=Tryz.sizeOf175
 v46:=Tryz.zeroValue175
 t51:=Tryz.underlying232
 a51:=Tryz.isAgg232
 z51:=Tryz.sizeOf232
 v51:=Tryz.zeroValue232
 t105:=Tryz.underlying302
 a105:=Tryz.isAgg302
 z105:=Tryz.sizeOf302
 v105:=Tryz.zeroValue302
 t119:=Tryz.underlying308
 a119:=Tryz.isAgg308
 z119:=Tryz.sizeOf308
 t138:=Tryz.underlying310
 a138:=Tryz.isAgg310
 z138:=Tryz.sizeOf310
 v138:=Tryz.zeroValue310
 t139:=Tryz.underlying311
 a139:=Tryz.isAgg311
 z139:=Tryz.sizeOf311
 v139:=Tryz.zeroValue311
 t146:=Tryz.underlying304
 a146:=Tryz.isAgg304
 z146:=Tryz.sizeOf304
 v146:=Tryz.zeroValue304
 g1:=by kernel_rfl
 g3:=by kernel_rfl
 g4:=by kernel_rfl }
def Sh.laysNm216_ren : Go.Shelf.Ren:=⟨fun | 16=>43 | n=>n,fun | 24=>77 | 9=>9 | 4=>4 | n=>n,fun | n=>n⟩
theorem Sh.laysNm216 : Go.Proofs.Lays2.n16 Tryz.prog Sh.laysNm216_ren:={
 mixed:=by kernel_rfl
 f16:=Tryz.func43.trans (congrArg some (by kernel_rfl))
 t4:=Tryz.underlying4
 a4:=Tryz.isAgg4
 z4:=Tryz.sizeOf4
 v4:=Tryz.zeroValue4
 t9:=Tryz.underlying9
 a9:=Tryz.isAgg9
 z9:=Tryz.sizeOf9
 v9:=Tryz.zeroValue9
 t24:=Tryz.underlying77
 a24:=Tryz.isAgg77
 z24:=Tryz.sizeOf77
 v24:=Tryz.zeroValue77
 i9:=by kernel_rfl }
open Go.RowKit Go.Lib in
theorem Sh.slices_Clone_string (b off n c : Nat) (zs : List ByteArray) (w : World) (hz : n <= zs.length) (hbig : n * 16 <= 140737488355328) (hc : ∀ j,j < zs.length -> w.cell? ⟨b,off + j,none⟩ = some (.string (zs.getD j ByteArray.empty))) :
  Calls Tryz.prog 43 #[.slice (some ⟨b,off,none⟩) n c] w fun e w'=>∃ v',e = .returned v' /\ w'.ownsRow w.heap.size 9 1 v' n ((zs.take n).map (Value.string)) /\ v' ≠ .slice none 0 0 /\ Below w.heap.size w w':=Any.slices_Clone_string Sh.laysNm216 b off n c zs w hz hbig hc
open Go.RowKit Go.Lib in
theorem Sh.slices_Clone_string_nil (n c : Nat) (w : World) :
  Calls Tryz.prog 43 #[.slice none n c] w fun e w'=>e = .returned (.slice none 0 0) /\ w' = w:=Any.slices_Clone_string_nil Sh.laysNm216 n c w
open Go.RowKit Go.Lib in
theorem Sh.slices_Clone_string_zero (a : Addr) (c : Nat) (w : World) :
  Calls Tryz.prog 43 #[.slice (some a) 0 c] w fun e w'=>∃ v',e = .returned v' /\ w'.ownsRow w.heap.size 9 1 v' 0 [] /\ v' ≠ .slice none 0 0 /\ Below w.heap.size w w':=Any.slices_Clone_string_zero Sh.laysNm216 a c w
end
section
open Go.RowKit Go.Maps Go.Shelf Go.Lib
def zdc : ByteArray:=⟨#[32]⟩
theorem zqm (x : ByteArray) : (Lib.indexByte x.data.toList 32 : Int) = Lib.indexB x zdc:=by
 show _ = Lib.index x.data.toList [32];exact (Lib.index_one _ _).symm
theorem zpY (x : ByteArray) : ((Lib.countByte x.data.toList 32 : Nat) : Int) = (Lib.countB x zdc : Nat):=by
 show _ = ((Lib.count x.data.toList [32] : Nat) : Int);rw [Lib.count_one]; rfl
def zdw (s : ByteArray) : List ByteArray:=Lib.splitB zdc 0 (Lib.countB s zdc) s
theorem zqZ (s : ByteArray) (w : World) (hs : s.size <= 1000000) :
  Calls Tryz.prog 182 #[.string s,.string ⟨#[32]⟩] w fun e w'=>e = .returned (.slice (some ⟨w.heap.size,0,none⟩) (zdw s).length (zdw s).length) /\ w' = w.alloc (.cells ((zdw s).map Value.string).toArray 9):=by
 have hle:=Lib.countB_le zdc (by decide) s.size s (lQ _);have hlen:=Lib.splitB_all zdc (by decide) 0 _ s rfl;have c:=Any.strings_genSplit_core Sh.lays221 (by kernel_rfl) s zdc 0 (-1) (Lib.countB s zdc + 1) w (by omega) (by decide) (Nat.zero_le _)
  (fun x c hx=>by rw [<- zqm x]; exact Any.strings_Index_one { Sh.lays221 with } x 32 _)
  (by rw [<- zpY s]; exact Any.strings_Count_one { Sh.lays221 with } s 32 w) (by decide) (by decide) (by rw [if_pos (by decide)]; omega)
 rw [Nat.add_sub_cancel,hlen] at c;have e2 : Lib.cellsOf (Lib.splitB zdc 0 (Lib.countB s zdc) s) (Lib.countB s zdc + 1) = ((Lib.splitB zdc 0 (Lib.countB s zdc) s).map Value.string).toArray:=by rw [<- hlen]; exact Lib.cellsOf_full _
 rw [e2] at c;change Calls Tryz.prog 214 #[.string s,.string ⟨#[32]⟩,.int .i64 0,.int .i64 (-1)] w _ at c;have hl : Hid ((zdw s).length = Lib.countB s zdc + 1):=Hd hlen;have c':=Hd c;clear c hle hlen e2;go_enter Tryz.func182,Tryz.ntmps182;go_wp2_with fail;refine c'.out.mono ?_;rintro e w' ⟨rfl,rfl⟩;go_wp2;go_ret;exact ⟨by rw [hl.out]; rfl,rfl⟩
def zjn (s : ByteArray) : ByteArray × ByteArray × Bool:=
 if 0 <= Lib.indexByte s.data.toList 32 then (s.extract 0 (Lib.indexByte s.data.toList 32).toNat,s.extract ((Lib.indexByte s.data.toList 32).toNat + 1) s.size,true) else (s,⟨#[]⟩,false)
theorem zjt : ∀ (l : List UInt8) (c : UInt8),Lib.indexByte l c < l.length
 | [],_=>by simp [Lib.indexByte]
 | b :: l,c=>by
  have ih:=zjt l c;unfold Lib.indexByte
  split
  ·simp <;> omega
  ·split
   ·simp <;> omega
   ·simp <;> omega
theorem zsw (s : ByteArray) (w : World) (hs : s.size <= 1000000) :
  Calls Tryz.prog 194 #[.string s,.string ⟨#[32]⟩] w fun e w'=>e = .returned (.tuple #[.string (zjn s).1,.string (zjn s).2.1,.bool (zjn s).2.2]) /\ Below w.heap.size w w':=by
 have hc:=Sh.stringslite_Index_one s 32 w;have hlt:=zjt s.data.toList 32;have hge:=Lib.indexByte_ge s.data.toList 32;have hsz : s.data.toList.length = s.size:=(Lib.size_eq s).symm;by_cases h0 : 0 <= Lib.indexByte s.data.toList 32
 ·have hd : Hid (zjn s = (s.extract 0 (Lib.indexByte s.data.toList 32).toNat,s.extract ((Lib.indexByte s.data.toList 32).toNat + 1) s.size,true)):=Hd (by unfold zjn; rw [if_pos h0])
  rw [hsz] at hlt;generalize Lib.indexByte s.data.toList 32 = i at *;obtain ⟨k,rfl⟩ : ∃ k : Nat,i = k:=⟨i.toNat,by omega⟩;have hc':=Hd hc;have n1 : (k : Int) <= (s.size : Int):=by omega
  have n2 : (k : Int) + 1 <= (s.size : Int):=by omega
  have n3 : (0 : Int) <= (k : Int) + 1:=by omega
  have n4 : IntKind.i64.wrap ((k : Int) + 1) = (k : Int) + 1:=IntWalk.i64_in _ (by omega);have n5 : ((k : Int) + 1).toNat = k + 1:=by omega
  have n6 : ((k : Int)).toNat = k:=by omega
  clear hc hge hsz;go_enter Tryz.func194,Tryz.ntmps194;go_wp2_with fail;refine hc'.out.mono ?_;rintro e w' ⟨rfl,rfl⟩;go_wp2_with fail
  go_quiet (fail)
  go_wp2
  go_ret3
  exact ⟨by rw [hd.out,n6]; rfl,zqa _ _⟩
 ·have hd : Hid (zjn s = (s,⟨#[]⟩,false)):=Hd (by unfold zjn; rw [if_neg h0])
  have hc':=Hd hc;have h0' : decide (0 <= Lib.indexByte s.data.toList 32) = false:=decide_eq_false h0;clear hc hge hsz hlt;go_enter Tryz.func194,Tryz.ntmps194;go_wp2_with fail;refine hc'.out.mono ?_;rintro e w' ⟨rfl,rfl⟩;go_wp2
  go_ret3
  exact ⟨by rw [hd.out]; rfl,Below.refl _ _⟩
theorem zuC (s : ByteArray) (w : World) (hs : s.size <= 1000000) :
  Calls Tryz.prog 149 #[.string s,.string ⟨#[32]⟩] w fun e w'=>e = .returned (.tuple #[.string (zjn s).1,.string (zjn s).2.1,.bool (zjn s).2.2]) /\ Below w.heap.size w w':=by
 have hc:=Hd (zsw s w hs);go_enter Tryz.func149,Tryz.ntmps149;go_wp2_with fail;refine hc.out.mono ?_;rintro e w' ⟨rfl,hb⟩;go_wp2
 go_ret3
 exact ⟨rfl,hb⟩
theorem zuB (s : ByteArray) : (zjn s).1.size <= s.size /\ (zjn s).2.1.size <= s.size:=by
 unfold zjn
 split
 ·simp only [ByteArray.size_extract]; omega
 ·exact ⟨lQ _,Nat.zero_le _⟩
theorem zoc (s : ByteArray) : zdh s < 65536:=by
 have:=zkn (zaF s) 14;unfold zdh;omega
theorem zmm (s : ByteArray) (i : Nat) (h : i < 14) : (bits BinOp.and IntKind.u16 (zdh s : Int) ((2 ^ i : Nat) : Int) != 0) = zaF s i:=by
 rw [zsn _ _ (zoc s) (by omega)];exact zpq _ _ _ h
theorem zjj (s : ByteArray) (i : Nat) (h : i < 14) : (bits BinOp.and IntKind.u16 (zdh s : Int) ((2 ^ i : Nat) : Int) == 0) = !zaF s i:=by
 rw [<- zmm s i h,bne,Bool.not_not]
def zfK (s : ByteArray) : Bool:=(zjn s).2.2 && zaF (zjn s).1 11 && zaF (zjn s).2.1 12
def zgu (c : Int) (s : ByteArray) : ByteArray × Bool:=
 if c = 1 then (if zaF s 9 then (s,true) else (⟨#[]⟩,false))
 else if c = 2 then (if zfK s then ((zjn s).1 ++ (zjn s).2.1,true) else if zaF s 10 then (s,true) else (⟨#[]⟩,false))
 else if c = 3 then (if zaF s 13 then (s,true) else (⟨#[]⟩,false)) else (⟨#[]⟩,false)
theorem and_zero (n : Int) : (bits BinOp.and IntKind.u16 n 0 == 0) = true:=by
 have : bits BinOp.and IntKind.u16 n 0 = 0:=by
  show IntKind.u16.wrap (((BitVec.ofInt 16 n &&& BitVec.ofInt 16 0).toNat : Nat) : Int) = 0;rw [show BitVec.ofInt 16 0 = 0#16 from rfl,BitVec.and_zero]
  decide
 rw [this]; rfl
theorem zrB (c : Int) (s : ByteArray) (w : World) (hs : s.size <= 1000000) :
  Calls Tryz.prog 87 #[.int .u8 c,.string s] w fun e w'=>e = .returned (.tuple #[.string (zgu c s).1,.bool (zgu c s).2]) /\ Below w.heap.size w w':=by
 have hcl:=Hd (fun (s : ByteArray) (w : World) (hs : s.size <= 1000000)=>zdy s w hs);by_cases c1 : c = 1
 ·subst c1
  have q:=zjj s 9 (by omega);have hd : Hid (zgu 1 s = if zaF s 9 then (s,true) else (⟨#[]⟩,false)):=Hd rfl;simp only [Nat.reducePow,Int.cast_ofNat_Int] at q;go_enter Tryz.func87,Tryz.ntmps87;go_wp2_with fail;refine (hcl.out s _ hs).mono ?_;rintro e w' ⟨rfl,hb⟩
  cases hc : zaF s 9 with
  | true=>
   rw [hc] at q hd;clear hc;go_wp2
   go_ret2
   exact ⟨by rw [hd.out]; rfl,hb⟩
  | false=>
   rw [hc] at q hd;clear hc;go_wp2
   go_ret2
   exact ⟨by rw [hd.out]; rfl,hb⟩
 ·by_cases c3 : c = 3
  ·subst c3
   have hd : Hid (zgu 3 s = if zaF s 13 then (s,true) else (⟨#[]⟩,false)):=Hd rfl;clear c1;go_enter Tryz.func87,Tryz.ntmps87;go_wp2_with fail;refine (hcl.out s _ hs).mono ?_;rintro e w' ⟨rfl,hb⟩;have q:=zjj s 13 (by omega);simp only [Nat.reducePow,Int.cast_ofNat_Int] at q
   cases hc : zaF s 13 with
   | true=>
    rw [hc] at q hd;clear hc;go_wp2
    go_ret2
    exact ⟨by rw [hd.out]; rfl,hb⟩
   | false=>
    rw [hc] at q hd;clear hc;go_wp2
    go_ret2
    exact ⟨by rw [hd.out]; rfl,hb⟩
  ·by_cases c2 : c = 2
   ·subst c2
    have hcut:=Hd (zuC s w hs);have hsz:=zuB s;have hd : Hid (zgu 2 s = if zfK s then ((zjn s).1 ++ (zjn s).2.1,true) else if zaF s 10 then (s,true) else (⟨#[]⟩,false)):=Hd rfl;have hcw : Hid (zfK s = ((zjn s).2.2 && zaF (zjn s).1 11 && zaF (zjn s).2.1 12)):=Hd rfl;clear c1 c3;go_enter Tryz.func87,Tryz.ntmps87;go_wp2_with fail;refine hcut.out.mono ?_;rintro e w1 ⟨rfl,hb1⟩;generalize (zjn s).1 = a at *;generalize (zjn s).2.1 = b at *;have q1:=zmm a 11 (by omega);have q2:=zmm b 12 (by omega);simp only [Nat.reducePow,Int.cast_ofNat_Int] at q1 q2;have ha : a.size <= 1000000:=by omega
    have hb0 : b.size <= 1000000:=by omega
    have hs0:=hb1.size
    cases hok : (zjn s).2.2 with
    | false=>
     rw [hok] at hcw;have hw0 : Hid (zfK s = false):=Hd (by rw [hcw.out]; rfl);rw [hw0.out] at hd;clear hok q1 q2;go_wp2_with fail;refine (hcl.out s _ hs).mono ?_;rintro e w' ⟨rfl,hb2⟩;have hb:=hb1.trans (hb2.mono hs0);have q:=zjj s 10 (by omega);simp only [Nat.reducePow,Int.cast_ofNat_Int] at q
     cases hc : zaF s 10 with
     | true=>
      rw [hc] at q hd;clear hc;go_wp2
      go_ret2
      exact ⟨by rw [hd.out]; rfl,hb⟩
     | false=>
      rw [hc] at q hd;clear hc;go_wp2
      go_ret2
      exact ⟨by rw [hd.out]; rfl,hb⟩
    | true=>
     rw [hok] at hcw;go_wp2_with fail;refine (hcl.out a _ ha).mono ?_;rintro e w2 ⟨rfl,hb2⟩;have hb12:=hb1.trans (hb2.mono hs0);have hs2:=hb12.size
     cases h11 : zaF a 11 with
     | false=>
      rw [h11] at hcw q1;have hw0 : Hid (zfK s = false):=Hd (by rw [hcw.out]; rfl);rw [hw0.out] at hd;clear hok h11 q2;go_wp2_with fail;refine (hcl.out s _ hs).mono ?_;rintro e w' ⟨rfl,hb3⟩;have hb:=hb12.trans (hb3.mono hs2);have q:=zjj s 10 (by omega);simp only [Nat.reducePow,Int.cast_ofNat_Int] at q
      cases hc : zaF s 10 with
      | true=>
       rw [hc] at q hd;clear hc;go_wp2
       go_ret2
       exact ⟨by rw [hd.out]; rfl,hb⟩
      | false=>
       rw [hc] at q hd;clear hc;go_wp2
       go_ret2
       exact ⟨by rw [hd.out]; rfl,hb⟩
     | true=>
      rw [h11] at hcw q1;go_wp2_with fail;refine (hcl.out b _ hb0).mono ?_;rintro e w3 ⟨rfl,hb3⟩;have hb13:=hb12.trans (hb3.mono hs2);have hs3:=hb13.size
      cases h12 : zaF b 12 with
      | false=>
       rw [h12] at hcw q2;have hw0 : Hid (zfK s = false):=Hd (by rw [hcw.out]; rfl);rw [hw0.out] at hd;clear hok h11 h12;go_wp2_with fail;refine (hcl.out s _ hs).mono ?_;rintro e w' ⟨rfl,hb4⟩;have hb:=hb13.trans (hb4.mono hs3);have q:=zjj s 10 (by omega);simp only [Nat.reducePow,Int.cast_ofNat_Int] at q
       cases hc : zaF s 10 with
       | true=>
        rw [hc] at q hd;clear hc;go_wp2
        go_ret2
        exact ⟨by rw [hd.out]; rfl,hb⟩
       | false=>
        rw [hc] at q hd;clear hc;go_wp2
        go_ret2
        exact ⟨by rw [hd.out]; rfl,hb⟩
      | true=>
       rw [h12] at hcw q2;have hw0 : Hid (zfK s = true):=Hd (by rw [hcw.out]; rfl);rw [hw0.out] at hd;clear hok h11 h12;go_wp2
       go_ret2
       exact ⟨by rw [hd.out]; rfl,hb13⟩
   ·have hd : Hid (zgu c s = (⟨#[]⟩,false)):=Hd (by unfold zgu; rw [if_neg c1,if_neg c2,if_neg c3])
    have q:=and_zero (zdh s : Int);have d1 : (c == 1) = false:=by simpa using c1
    have d2 : (c == 2) = false:=by simpa using c2
    have d3 : (c == 3) = false:=by simpa using c3
    clear c1 c2 c3;go_enter Tryz.func87,Tryz.ntmps87;go_wp2_with fail;refine (hcl.out s _ hs).mono ?_;rintro e w' ⟨rfl,hb⟩;go_wp2
    go_ret2
    exact ⟨by rw [hd.out]; rfl,hb⟩
end
section
open Go.RowKit
theorem znC {w : World} {base : Nat} {e : TypeId} {k : Nat} {v : Value} {n : Nat} {xs : List Value} {g idx : Nat} (u : Value) (h : w.ownsRow base e k v n xs) (hg : v.ownBlock = some g) (_hi : idx < xs.length) :
  (w.setCell ⟨g,idx,none⟩ u).ownsRow base e k v n (xs.set idx u):=by
 obtain ⟨hl,h | ⟨g',cap,cur,rfl,hb,hgh,h1,h2,h3,h4⟩⟩:=h
 ·rw [h.1] at hg; cases hg
 ·obtain rfl : g' = g:=by simpa [Value.ownBlock] using hg
  refine ⟨by simp [hl],.inr ⟨g',cap,cur.setIfInBounds idx u,rfl,hb,?_,h1,h2,by simp [h3],?_⟩⟩
  ·simp [World.setCell,Array.getElem?_modify,hgh]
  ·rw [Array.toList_setIfInBounds,List.take_set,h4]
theorem zho {w : World} {base : Nat} {e : TypeId} {k : Nat} {v : Value} {n : Nat} {xs : List Value} {g : Nat} (h : w.ownsRow base e k v n xs) (hg : v.ownBlock = some g) (i : Nat) : w.frozen? ⟨g,i,none⟩ = false:=by
 obtain ⟨hl,h | ⟨g',cap,cur,rfl,hb,hgh,h1,h2,h3,h4⟩⟩:=h
 ·rw [h.1] at hg; cases hg
 ·obtain rfl : g' = g:=by simpa [Value.ownBlock] using hg
  simp [World.frozen?,hgh]
theorem zrI {α β : Type} (f : α -> List β) (k : Nat) (hf : ∀ a,(f a).length = k) : ∀ (l : List α) (i j : Nat) (hi : i < l.length),j < k -> ∀ (u : β) (a' : α),f a' = (f l[i]).set j u -> (l.flatMap f).set (i * k + j) u = (l.set i a').flatMap f
 | [],i,_,hi,_,_,_,_=>by simp at hi
 | a :: l,0,j,_,hj,u,a',e=>by
  simp only [List.flatMap_cons,Nat.zero_mul,Nat.zero_add,sZ,gZ] at e ⊢;rw [e,List.set_append_left _ _ (by rw [hf]; exact hj)]
 | a :: l,i + 1,j,hi,hj,u,a',e=>by
  simp only [List.flatMap_cons,sS,gQ] at e ⊢;rw [List.set_append_right _ _ (by rw [hf,Nat.succ_mul]; omega),hf,show (i + 1) * k + j - k = i * k + j from by rw [Nat.succ_mul]; omega];rw [zrI f k hf l i j (by simpa using hi) hj u a' e]
section
variable {α : Type} {E : TypeId} {k : Nat} {cells : α -> List Value} {I : (Nat -> Prop) -> World -> α -> Prop}
theorem zaw.setOne {B : Nat} {w : World} {v : Value} {ps : List α} {g : Nat} (hI : zjL I) (hf : ∀ a,(cells a).length = k) (h : zaw E k cells I B w v ps) (hg : v.ownBlock = some g) (i j : Nat) (hi : i < ps.length) (hj : j < k) (u : Value) (a' : α)
  (hc : cells a' = (cells ps[i]).set j u) (hin : I (fun b=>B <= b /\ some b ≠ v.ownBlock) w a') : zaw E k cells I B (w.setCell ⟨g,i * k + j,none⟩ u) v (ps.set i a'):=by
 have hlt : i * k + j < (ps.flatMap cells).length:=by
  have : (i + 1) * k <= ps.length * k:=Nat.mul_le_mul_right k hi;rw [h.1.1];rw [Nat.succ_mul] at this;omega
 have hK : zc (fun b=>B <= b /\ some b ≠ v.ownBlock) w (w.setCell ⟨g,i * k + j,none⟩ u):=zc.set_ _ _ _ (by rw [hg]; simp);refine ⟨?_,fun p hp=>?_⟩
 ·have:=znC u h.1 hg hlt
  rw [zrI cells k hf ps i j hi hj u a' hc] at this;simpa using this
 ·rcases List.mem_or_eq_of_mem_set hp with hp | rfl
  ·exact hI.keep (h.2 p hp) hK fun _ _ h=>h
  ·exact hI.keep hin hK fun _ _ h=>h
end
end
end Go.Proofs.YtggimnndflkjkaaGreatDoor
