/- Contracts of Go's library over this program, laid by the kit's tool. -/
import Derived.Ground.SlgnProg
import Derived.Shelf.SlGeneric
import Derived.Shelf.SlicesE.Clone
import Derived.Shelf.Strings.SlTrimAscii
import Derived.Shelf.Strings.Builder1
import Derived.Shelf.Strings.Builder2
import Derived.Shelf.Strings.OnBuilder
import Derived.Shelf.Strings.Trim
import Derived.Shelf.Small.Utf8
import Derived.Shelf.Small.Strs
import Derived.Shelf.Strings.BuilderF
import Derived.Shelf.Strings.BuilderK
import Derived.Shelf.Strings.Builder2Cap
import Derived.Shelf.Strconv.Atoi
import Derived.Shelf.Strconv.Itoa0
import Derived.Shelf.Strconv.Itoa1
import Derived.Shelf.LaysM
import Derived.Shelf.Strconv.Itoa2
import Derived.Shelf.Strconv.Itoa3
import Derived.Shelf.Strconv.AtoiErrFast
import Derived.Shelf.Strconv.ParseIntEmpty
import Derived.Shelf.Strconv.AtoiFail
import Derived.Shelf.Strconv.Clone
import Derived.Shelf.Strconv.SyntaxError
import Derived.Shelf.LaysC
import Derived.Shelf.Strconv.ToError
import Derived.Shelf.Strconv.Lower
import Derived.Shelf.Strconv.ParseUint10
import Derived.Shelf.Strconv.ParseUint10Empty
import Derived.Shelf.Strconv.ParseUint10Any
import Derived.Shelf.Strconv.ParseInt10
import Derived.Shelf.Strconv.AtoiLong
import Derived.Shelf.Strconv.AtoiInnerAll
import Derived.Shelf.Strconv.RangeError
import Derived.Shelf.Strconv.ToErrorRange
import Derived.Shelf.Strconv.AtoiAll
import Derived.Shelf.Strconv.ErrVarAll
import Derived.Shelf.Strings.Search1
import Derived.Shelf.Strings.Search2
import Derived.Shelf.Strings.Search3
import Derived.Shelf.Strings.Cut
import Derived.Shelf.Strings.Shaped
import Derived.Shelf.Strings.Runes
import Derived.Shelf.Strings.IndexAny
import Derived.Shelf.Strings.AsciiSet
import Derived.Shelf.Strings.IndexAnyAll
import Derived.Shelf.Bits.Mul64
import Derived.Shelf.Unicode.DecodeSlow
import Derived.Shelf.Unicode.DecodeAny
import Derived.Shelf.Unicode.DecodeLast
import Derived.Shelf.Strings.BuilderCap
import Derived.Test.YtigbabjhcihmaaaGreatDoorProg
namespace Go.Proofs
open Go.Shelf
def Tryz.lays156_ren:Go.Shelf.Ren:=⟨fun | 156=>190 | 165=>255 | 166=>256 | 169=>257 | 240=>298 | 241=>299 | 276=>330 | 277=>331 | n=>n,fun | 31=>52 | 9=>9 | 3=>3 | 4=>4 | 0=>0 | 20=>20 | 72=>281 | 76=>265 | 70=>279 | 37=>186 | 75=>264 | 127=>313 | 164=>331 | 5=>5 | 80=>122 | n=>n,fun | n=>n⟩
theorem Tryz.lays156:Go.Proofs.Lays.n156 Tryz.prog Tryz.lays156_ren:={
  mixed:=by kernel_rfl
  f156:=Tryz.func190.trans (congrArg some (by kernel_rfl))
  f165:=Tryz.func255.trans (congrArg some (by kernel_rfl))
  f166:=Tryz.func256.trans (congrArg some (by kernel_rfl))
  f169:=Tryz.func257.trans (congrArg some (by kernel_rfl))
  f240:=Tryz.func298.trans (congrArg some (by kernel_rfl))
  f241:=Tryz.func299.trans (congrArg some (by kernel_rfl))
  f276:=Tryz.func330.trans (congrArg some (by kernel_rfl))
  f277:=Tryz.func331.trans (congrArg some (by kernel_rfl))
  t0:=Tryz.underlying0
  a0:=Tryz.isAgg0
  z0:=Tryz.sizeOf0
  v0:=Tryz.zeroValue0
  t3:=Tryz.underlying3
  a3:=Tryz.isAgg3
  z3:=Tryz.sizeOf3
  v3:=Tryz.zeroValue3
  t4:=Tryz.underlying4
  a4:=Tryz.isAgg4
  z4:=Tryz.sizeOf4
  v4:=Tryz.zeroValue4
  t9:=Tryz.underlying9
  a9:=Tryz.isAgg9
  z9:=Tryz.sizeOf9
  v9:=Tryz.zeroValue9
  t20:=Tryz.underlying20
  a20:=Tryz.isAgg20
  z20:=Tryz.sizeOf20
  v20:=Tryz.zeroValue20
  t31:=Tryz.underlying52
  a31:=Tryz.isAgg52
  z31:=Tryz.sizeOf52
  v31:=Tryz.zeroValue52
  t37:=Tryz.underlying186
  a37:=Tryz.isAgg186
  z37:=Tryz.sizeOf186
  v37:=Tryz.zeroValue186
  t70:=Tryz.underlying279
  a70:=Tryz.isAgg279
  z70:=Tryz.sizeOf279
  v70:=Tryz.zeroValue279
  t72:=Tryz.underlying281
  a72:=Tryz.isAgg281
  z72:=Tryz.sizeOf281
  v72:=Tryz.zeroValue281
  t75:=Tryz.underlying264
  a75:=Tryz.isAgg264
  z75:=Tryz.sizeOf264
  v75:=Tryz.zeroValue264
  t76:=Tryz.underlying265
  a76:=Tryz.isAgg265
  z76:=Tryz.sizeOf265
  v76:=Tryz.zeroValue265
  t127:=Tryz.underlying313
  a127:=Tryz.isAgg313
  z127:=Tryz.sizeOf313
  v127:=Tryz.zeroValue313
  t164:=Tryz.underlying331
  a164:=Tryz.isAgg331
  z164:=Tryz.sizeOf331
  v164:=Tryz.zeroValue331 }
theorem Tryz.Builder_Extra_156:Builder.Extra Tryz.prog Tryz.lays156_ren:={
  sizeBuilder:=by kernel_rfl
  liesBuilder:=by kernel_rfl
  t5:=Tryz.underlying5
  a5:=Tryz.isAgg5
  z5:=Tryz.sizeOf5
  v5:=Tryz.zeroValue5
  infoByte:=by kernel_rfl
  cellsByte:=by kernel_rfl
  sizeByte:=by kernel_rfl
  neB5:=by decide }
open Go.RowKit in
theorem Tryz.strings_Join_none (a:Option Addr) (c:Nat) (sep:ByteArray) (w:World) :
    Calls Tryz.prog 190 #[.slice a 0 c,.string sep] w fun e w'=>e = .returned (.string ⟨#[]⟩)∧w'=w:=Any.strings_Join_none Tryz.lays156 Tryz.Builder_Extra_156 a c sep w
open Go.RowKit in
theorem Tryz.strings_Join (bk o c:Nat) (xs:List ByteArray) (sep:ByteArray) (w:World) (hcells:∀ (j:Nat) x,xs[j]? = some x→w.cell? ⟨bk,o+j,none⟩=some (.string x)) (hbk:bk<w.heap.size) (hN:xs.length≤140737488355328) (hcap:xs.length≤c) (hlen:(Lib.join (xs.map (·.data.toList)) sep.data.toList).length≤140737488355328) :
    Calls Tryz.prog 190 #[.slice (some ⟨bk,o,none⟩) xs.length c,.string sep] w fun e w'=>e = .returned (.string ⟨(Lib.join (xs.map (·.data.toList)) sep.data.toList).toArray⟩)∧Below w.heap.size w w':=Any.strings_Join Tryz.lays156 Tryz.Builder_Extra_156 bk o c xs sep w hcells hbk hN hcap hlen
def Tryz.lays161_ren:Go.Shelf.Ren:=⟨fun | 161=>294 | 231=>327 | 227=>282 | 233=>328 | 235=>329 | 228=>283 | 197=>345 | 151=>346 | 260=>358 | 152=>280 | 137=>309 | 119=>310 | 224=>311 | 225=>312 | 217=>335 | 266=>349 | n=>n,fun | 9=>9 | 4=>4 | 3=>3 | 5=>5 | 117=>300 | 116=>299 | 0=>0 | 124=>319 | 105=>342 | 21=>21 | 119=>361 | 46=>251 | 139=>364 | 138=>363 | n=>n,fun | 3=>4 | 4=>5 | n=>n⟩
theorem Tryz.lays161:Go.Proofs.Lays.n161 Tryz.prog Tryz.lays161_ren:={
  mixed:=by kernel_rfl
  f119:=Tryz.func310.trans (congrArg some (by kernel_rfl))
  f137:=Tryz.func309.trans (congrArg some (by kernel_rfl))
  f151:=Tryz.func346.trans (congrArg some (by kernel_rfl))
  f152:=Tryz.func280.trans (congrArg some (by kernel_rfl))
  f161:=Tryz.func294.trans (congrArg some (by kernel_rfl))
  f197:=Tryz.func345.trans (congrArg some (by kernel_rfl))
  f217:=Tryz.func335.trans (congrArg some (by kernel_rfl))
  f224:=Tryz.func311.trans (congrArg some (by kernel_rfl))
  f225:=Tryz.func312.trans (congrArg some (by kernel_rfl))
  f227:=Tryz.func282.trans (congrArg some (by kernel_rfl))
  f228:=Tryz.func283.trans (congrArg some (by kernel_rfl))
  f231:=Tryz.func327.trans (congrArg some (by kernel_rfl))
  f233:=Tryz.func328.trans (congrArg some (by kernel_rfl))
  f235:=Tryz.func329.trans (congrArg some (by kernel_rfl))
  f260:=Tryz.func358.trans (congrArg some (by kernel_rfl))
  f266:=Tryz.func349.trans (congrArg some (by kernel_rfl))
  t0:=Tryz.underlying0
  a0:=Tryz.isAgg0
  z0:=Tryz.sizeOf0
  v0:=Tryz.zeroValue0
  t3:=Tryz.underlying3
  a3:=Tryz.isAgg3
  z3:=Tryz.sizeOf3
  v3:=Tryz.zeroValue3
  t4:=Tryz.underlying4
  a4:=Tryz.isAgg4
  z4:=Tryz.sizeOf4
  v4:=Tryz.zeroValue4
  t5:=Tryz.underlying5
  a5:=Tryz.isAgg5
  z5:=Tryz.sizeOf5
  v5:=Tryz.zeroValue5
  t9:=Tryz.underlying9
  a9:=Tryz.isAgg9
  z9:=Tryz.sizeOf9
  v9:=Tryz.zeroValue9
  t21:=Tryz.underlying21
  a21:=Tryz.isAgg21
  z21:=Tryz.sizeOf21
  v21:=Tryz.zeroValue21
  t46:=Tryz.underlying251
  a46:=Tryz.isAgg251
  z46:=Tryz.sizeOf251
  v46:=Tryz.zeroValue251
  t105:=Tryz.underlying342
  a105:=Tryz.isAgg342
  z105:=Tryz.sizeOf342
  v105:=Tryz.zeroValue342
  t116:=Tryz.underlying299
  a116:=Tryz.isAgg299
  z116:=Tryz.sizeOf299
  t117:=Tryz.underlying300
  a117:=Tryz.isAgg300
  z117:=Tryz.sizeOf300
  v117:=Tryz.zeroValue300
  t119:=Tryz.underlying361
  a119:=Tryz.isAgg361
  z119:=Tryz.sizeOf361
  t124:=Tryz.underlying319
  a124:=Tryz.isAgg319
  z124:=Tryz.sizeOf319
  v124:=Tryz.zeroValue319
  t138:=Tryz.underlying363
  a138:=Tryz.isAgg363
  z138:=Tryz.sizeOf363
  v138:=Tryz.zeroValue363
  t139:=Tryz.underlying364
  a139:=Tryz.isAgg364
  z139:=Tryz.sizeOf364
  v139:=Tryz.zeroValue364
  g3:=by kernel_rfl
  g4:=by kernel_rfl }
open Go.RowKit in
theorem Tryz.strings_TrimLeft_one (s:ByteArray) (c:UInt8) (hc:c.toNat<128) (w:World) :
    Calls Tryz.prog 294 #[.string s,.string ⟨#[c]⟩] w fun e w'=>e = .returned (.string ⟨(Lib.trimLeftB s.data.toList c).toArray⟩)∧w'=w:=Any.strings_TrimLeft_one Tryz.lays161 s c hc w
def Tryz.lays137_ren:Go.Shelf.Ren:=⟨fun | 137=>309 | 217=>335 | 266=>349 | n=>n,fun | 9=>9 | 5=>5 | 3=>3 | n=>n,fun | n=>n⟩
theorem Tryz.lays137:Go.Proofs.Lays.n137 Tryz.prog Tryz.lays137_ren:={
  mixed:=by kernel_rfl
  f137:=Tryz.func309.trans (congrArg some (by kernel_rfl))
  f217:=Tryz.func335.trans (congrArg some (by kernel_rfl))
  f266:=Tryz.func349.trans (congrArg some (by kernel_rfl))
  t3:=Tryz.underlying3
  a3:=Tryz.isAgg3
  z3:=Tryz.sizeOf3
  v3:=Tryz.zeroValue3
  t5:=Tryz.underlying5
  a5:=Tryz.isAgg5
  z5:=Tryz.sizeOf5
  v5:=Tryz.zeroValue5
  t9:=Tryz.underlying9
  a9:=Tryz.isAgg9
  z9:=Tryz.sizeOf9
  v9:=Tryz.zeroValue9 }
open Go.RowKit in
theorem Tryz.strings_IndexByte (s:ByteArray) (c:Int) (w:World) :
    Calls Tryz.prog 309 #[.string s,.int .u8 c] w fun e w'=>e = .returned (.int .i64 (Lib.indexByte s.data.toList c.toNat.toUInt8))∧w'=w:=Any.strings_IndexByte Tryz.lays137 s c w
def Tryz.laysM171_ren:Go.Shelf.Ren:=⟨fun | 171=>288 | 243=>321 | 246=>344 | 283=>354 | 284=>355 | 285=>356 | 286=>357 | 129=>361 | 317=>360 | 318=>362 | 319=>363 | 320=>364 | 337=>365 | 338=>366 | n=>n,fun | 3=>3 | 9=>9 | 2=>2 | 4=>4 | 171=>352 | 0=>0 | 53=>309 | 37=>186 | 5=>5 | 173=>355 | 212=>358 | 51=>306 | 20=>20 | 213=>359 | 46=>251 | 232=>366 | 233=>367 | n=>n,fun | 17=>3 | 18=>6 | 19=>7 | n=>n⟩
theorem Tryz.laysM171:Go.Proofs.LaysM.n171 Tryz.prog Tryz.laysM171_ren:={
  mixed:=by kernel_rfl
  f129:=Tryz.func361.trans (congrArg some (by kernel_rfl))
  f171:=Tryz.func288.trans (congrArg some (by kernel_rfl))
  f243:=Tryz.func321.trans (congrArg some (by kernel_rfl))
  f246:=Tryz.func344.trans (congrArg some (by kernel_rfl))
  f283:=Tryz.func354.trans (congrArg some (by kernel_rfl))
  f284:=Tryz.func355.trans (congrArg some (by kernel_rfl))
  f285:=Tryz.func356.trans (congrArg some (by kernel_rfl))
  f286:=Tryz.func357.trans (congrArg some (by kernel_rfl))
  f317:=Tryz.func360.trans (congrArg some (by kernel_rfl))
  f318:=Tryz.func362.trans (congrArg some (by kernel_rfl))
  f319:=Tryz.func363.trans (congrArg some (by kernel_rfl))
  f320:=Tryz.func364.trans (congrArg some (by kernel_rfl))
  f337:=Tryz.func365.trans (congrArg some (by kernel_rfl))
  f338:=Tryz.func366.trans (congrArg some (by kernel_rfl))
  t0:=Tryz.underlying0
  a0:=Tryz.isAgg0
  z0:=Tryz.sizeOf0
  v0:=Tryz.zeroValue0
  t2:=Tryz.underlying2
  a2:=Tryz.isAgg2
  z2:=Tryz.sizeOf2
  v2:=Tryz.zeroValue2
  t3:=Tryz.underlying3
  a3:=Tryz.isAgg3
  z3:=Tryz.sizeOf3
  v3:=Tryz.zeroValue3
  t4:=Tryz.underlying4
  a4:=Tryz.isAgg4
  z4:=Tryz.sizeOf4
  v4:=Tryz.zeroValue4
  t5:=Tryz.underlying5
  a5:=Tryz.isAgg5
  z5:=Tryz.sizeOf5
  v5:=Tryz.zeroValue5
  t9:=Tryz.underlying9
  a9:=Tryz.isAgg9
  z9:=Tryz.sizeOf9
  v9:=Tryz.zeroValue9
  t20:=Tryz.underlying20
  a20:=Tryz.isAgg20
  z20:=Tryz.sizeOf20
  v20:=Tryz.zeroValue20
  t37:=Tryz.underlying186
  a37:=Tryz.isAgg186
  z37:=Tryz.sizeOf186
  v37:=Tryz.zeroValue186
  t46:=Tryz.underlying251
  a46:=Tryz.isAgg251
  z46:=Tryz.sizeOf251
  v46:=Tryz.zeroValue251
  t51:=Tryz.underlying306
  a51:=Tryz.isAgg306
  z51:=Tryz.sizeOf306
  v51:=Tryz.zeroValue306
  t53:=Tryz.underlying309
  a53:=Tryz.isAgg309
  z53:=Tryz.sizeOf309
  v53:=Tryz.zeroValue309
  t171:=Tryz.underlying352
  a171:=Tryz.isAgg352
  z171:=Tryz.sizeOf352
  v171:=Tryz.zeroValue352
  t173:=Tryz.underlying355
  a173:=Tryz.isAgg355
  z173:=Tryz.sizeOf355
  v173:=Tryz.zeroValue355
  t212:=Tryz.underlying358
  a212:=Tryz.isAgg358
  z212:=Tryz.sizeOf358
  v212:=Tryz.zeroValue358
  t213:=Tryz.underlying359
  a213:=Tryz.isAgg359
  z213:=Tryz.sizeOf359
  t232:=Tryz.underlying366
  a232:=Tryz.isAgg366
  z232:=Tryz.sizeOf366
  v232:=Tryz.zeroValue366
  t233:=Tryz.underlying367
  a233:=Tryz.isAgg367
  z233:=Tryz.sizeOf367
  v233:=Tryz.zeroValue367
  g17:=by kernel_rfl
  g18:=by kernel_rfl
  g19:=by kernel_rfl
  i0:=by kernel_rfl
  i2:=by kernel_rfl
  i3:=by kernel_rfl
  i4:=by kernel_rfl
  i5:=by kernel_rfl
  i9:=by kernel_rfl
  i20:=by kernel_rfl
  i37:=by kernel_rfl
  i46:=by kernel_rfl
  i51:=by kernel_rfl
  i53:=by kernel_rfl
  i171:=by kernel_rfl
  i173:=by kernel_rfl
  i212:=by kernel_rfl
  i232:=by kernel_rfl
  i233:=by kernel_rfl
  m17:=by kernel_rfl
  m18:=by kernel_rfl
  m19:=by kernel_rfl }
open Go.RowKit Go.Sort Go.Lib in
theorem Tryz.strconv_Itoa (n:Int) (h0:-9223372036854775808≤n) (h1:n≤9223372036854775807) (w:World) (htab:Lib.TabIs Tryz.prog w "internal/strconv.uint64pow10" .u64 Lib.pow10Tab) :
    Calls Tryz.prog 288 #[.int .i64 n] w fun e w'=>e = .returned (.string ⟨(Lib.itoa n).toArray⟩)∧∃ k os,w'=grow (w.drewN k) os:=Any.strconv_Itoa Tryz.laysM171 n h0 h1 w htab
def Tryz.laysC172_ren:Go.Shelf.Ren:=⟨fun | 172=>238 | 244=>286 | 245=>287 | 247=>316 | 279=>317 | 280=>318 | 281=>319 | 282=>320 | 287=>341 | 316=>342 | 171=>288 | 205=>343 | 321=>352 | 322=>353 | 243=>321 | 246=>344 | 283=>354 | 284=>355 | 285=>356 | 286=>357 | 129=>361 | 317=>360 | 318=>362 | 319=>363 | 320=>364 | 337=>365 | 338=>366 | n=>n,fun | 9=>9 | 3=>3 | 75=>264 | 76=>265 | 4=>4 | 5=>5 | 167=>320 | 37=>186 | 0=>0 | 85=>321 | 2=>2 | 168=>323 | 53=>309 | 175=>336 | 46=>251 | 210=>339 | 127=>313 | 145=>351 | 143=>349 | 21=>21 | 171=>352 | 173=>355 | 212=>358 | 51=>306 | 20=>20 | 213=>359 | 232=>366 | 233=>367 | 80=>122 | n=>n,fun | 15=>1 | 16=>2 | 17=>3 | 18=>6 | 19=>7 | n=>n⟩
theorem Tryz.laysC172:Go.Proofs.LaysC.n172 Tryz.prog Tryz.laysC172_ren:={
  mixed:=by kernel_rfl
  f129:=Tryz.func361.trans (congrArg some (by kernel_rfl))
  f171:=Tryz.func288.trans (congrArg some (by kernel_rfl))
  f172:=Tryz.func238.trans (congrArg some (by kernel_rfl))
  f205:=Tryz.func343.trans (congrArg some (by kernel_rfl))
  f243:=Tryz.func321.trans (congrArg some (by kernel_rfl))
  f244:=Tryz.func286.trans (congrArg some (by kernel_rfl))
  f245:=Tryz.func287.trans (congrArg some (by kernel_rfl))
  f246:=Tryz.func344.trans (congrArg some (by kernel_rfl))
  f247:=Tryz.func316.trans (congrArg some (by kernel_rfl))
  f279:=Tryz.func317.trans (congrArg some (by kernel_rfl))
  f280:=Tryz.func318.trans (congrArg some (by kernel_rfl))
  f281:=Tryz.func319.trans (congrArg some (by kernel_rfl))
  f282:=Tryz.func320.trans (congrArg some (by kernel_rfl))
  f283:=Tryz.func354.trans (congrArg some (by kernel_rfl))
  f284:=Tryz.func355.trans (congrArg some (by kernel_rfl))
  f285:=Tryz.func356.trans (congrArg some (by kernel_rfl))
  f286:=Tryz.func357.trans (congrArg some (by kernel_rfl))
  f287:=Tryz.func341.trans (congrArg some (by kernel_rfl))
  f316:=Tryz.func342.trans (congrArg some (by kernel_rfl))
  f317:=Tryz.func360.trans (congrArg some (by kernel_rfl))
  f318:=Tryz.func362.trans (congrArg some (by kernel_rfl))
  f319:=Tryz.func363.trans (congrArg some (by kernel_rfl))
  f320:=Tryz.func364.trans (congrArg some (by kernel_rfl))
  f321:=Tryz.func352.trans (congrArg some (by kernel_rfl))
  f322:=Tryz.func353.trans (congrArg some (by kernel_rfl))
  f337:=Tryz.func365.trans (congrArg some (by kernel_rfl))
  f338:=Tryz.func366.trans (congrArg some (by kernel_rfl))
  t0:=Tryz.underlying0
  a0:=Tryz.isAgg0
  z0:=Tryz.sizeOf0
  v0:=Tryz.zeroValue0
  t2:=Tryz.underlying2
  a2:=Tryz.isAgg2
  z2:=Tryz.sizeOf2
  v2:=Tryz.zeroValue2
  t3:=Tryz.underlying3
  a3:=Tryz.isAgg3
  z3:=Tryz.sizeOf3
  v3:=Tryz.zeroValue3
  t4:=Tryz.underlying4
  a4:=Tryz.isAgg4
  z4:=Tryz.sizeOf4
  v4:=Tryz.zeroValue4
  t5:=Tryz.underlying5
  a5:=Tryz.isAgg5
  z5:=Tryz.sizeOf5
  v5:=Tryz.zeroValue5
  t9:=Tryz.underlying9
  a9:=Tryz.isAgg9
  z9:=Tryz.sizeOf9
  v9:=Tryz.zeroValue9
  t20:=Tryz.underlying20
  a20:=Tryz.isAgg20
  z20:=Tryz.sizeOf20
  v20:=Tryz.zeroValue20
  t21:=Tryz.underlying21
  a21:=Tryz.isAgg21
  z21:=Tryz.sizeOf21
  v21:=Tryz.zeroValue21
  t37:=Tryz.underlying186
  a37:=Tryz.isAgg186
  z37:=Tryz.sizeOf186
  v37:=Tryz.zeroValue186
  t46:=Tryz.underlying251
  a46:=Tryz.isAgg251
  z46:=Tryz.sizeOf251
  v46:=Tryz.zeroValue251
  t51:=Tryz.underlying306
  a51:=Tryz.isAgg306
  z51:=Tryz.sizeOf306
  v51:=Tryz.zeroValue306
  t53:=Tryz.underlying309
  a53:=Tryz.isAgg309
  z53:=Tryz.sizeOf309
  v53:=Tryz.zeroValue309
  t75:=Tryz.underlying264
  a75:=Tryz.isAgg264
  z75:=Tryz.sizeOf264
  v75:=Tryz.zeroValue264
  t76:=Tryz.underlying265
  a76:=Tryz.isAgg265
  z76:=Tryz.sizeOf265
  v76:=Tryz.zeroValue265
  t85:=Tryz.underlying321
  a85:=Tryz.isAgg321
  z85:=Tryz.sizeOf321
  v85:=Tryz.zeroValue321
  t127:=Tryz.underlying313
  a127:=Tryz.isAgg313
  z127:=Tryz.sizeOf313
  v127:=Tryz.zeroValue313
  t143:=Tryz.underlying349
  a143:=Tryz.isAgg349
  z143:=Tryz.sizeOf349
  v143:=Tryz.zeroValue349
  t145:=Tryz.underlying351
  a145:=Tryz.isAgg351
  z145:=Tryz.sizeOf351
  v145:=Tryz.zeroValue351
  t167:=Tryz.underlying320
  a167:=Tryz.isAgg320
  z167:=Tryz.sizeOf320
  v167:=Tryz.zeroValue320
  t168:=Tryz.underlying323
  a168:=Tryz.isAgg323
  z168:=Tryz.sizeOf323
  v168:=Tryz.zeroValue323
  t171:=Tryz.underlying352
  a171:=Tryz.isAgg352
  z171:=Tryz.sizeOf352
  v171:=Tryz.zeroValue352
  t173:=Tryz.underlying355
  a173:=Tryz.isAgg355
  z173:=Tryz.sizeOf355
  v173:=Tryz.zeroValue355
  t175:=Tryz.underlying336
  a175:=Tryz.isAgg336
  z175:=Tryz.sizeOf336
  v175:=Tryz.zeroValue336
  t210:=Tryz.underlying339
  a210:=Tryz.isAgg339
  z210:=Tryz.sizeOf339
  v210:=Tryz.zeroValue339
  t212:=Tryz.underlying358
  a212:=Tryz.isAgg358
  z212:=Tryz.sizeOf358
  v212:=Tryz.zeroValue358
  t213:=Tryz.underlying359
  a213:=Tryz.isAgg359
  z213:=Tryz.sizeOf359
  t232:=Tryz.underlying366
  a232:=Tryz.isAgg366
  z232:=Tryz.sizeOf366
  v232:=Tryz.zeroValue366
  t233:=Tryz.underlying367
  a233:=Tryz.isAgg367
  z233:=Tryz.sizeOf367
  v233:=Tryz.zeroValue367
  g15:=by kernel_rfl
  g16:=by kernel_rfl
  g17:=by kernel_rfl
  g18:=by kernel_rfl
  g19:=by kernel_rfl
  t80:=Tryz.underlying122
  a80:=Tryz.isAgg122
  z80:=Tryz.sizeOf122
  v80:=Tryz.zeroValue122
  i0:=by kernel_rfl
  i2:=by kernel_rfl
  i3:=by kernel_rfl
  i4:=by kernel_rfl
  i5:=by kernel_rfl
  i9:=by kernel_rfl
  i20:=by kernel_rfl
  i21:=by kernel_rfl
  i37:=by kernel_rfl
  i46:=by kernel_rfl
  i51:=by kernel_rfl
  i53:=by kernel_rfl
  i75:=by kernel_rfl
  i76:=by kernel_rfl
  i80:=by kernel_rfl
  i85:=by kernel_rfl
  i127:=by kernel_rfl
  i143:=by kernel_rfl
  i145:=by kernel_rfl
  i167:=by kernel_rfl
  i168:=by kernel_rfl
  i171:=by kernel_rfl
  i173:=by kernel_rfl
  i175:=by kernel_rfl
  i210:=by kernel_rfl
  i212:=by kernel_rfl
  i232:=by kernel_rfl
  i233:=by kernel_rfl
  m15:=by kernel_rfl
  m16:=by kernel_rfl
  m17:=by kernel_rfl
  m18:=by kernel_rfl
  m19:=by kernel_rfl
  c0:=by kernel_rfl
  c2:=by kernel_rfl
  c3:=by kernel_rfl
  c4:=by kernel_rfl
  c5:=by kernel_rfl
  c9:=by kernel_rfl
  c20:=by kernel_rfl
  c21:=by kernel_rfl
  c37:=by kernel_rfl
  c46:=by kernel_rfl
  c51:=by kernel_rfl
  c53:=by kernel_rfl
  c75:=by kernel_rfl
  c76:=by kernel_rfl
  c80:=by kernel_rfl
  c85:=by kernel_rfl
  c127:=by kernel_rfl
  c143:=by kernel_rfl
  c145:=by kernel_rfl
  c167:=by kernel_rfl
  c168:=by kernel_rfl
  c171:=by kernel_rfl
  c173:=by kernel_rfl
  c175:=by kernel_rfl
  c210:=by kernel_rfl
  c212:=by kernel_rfl
  c213:=by kernel_rfl
  c232:=by kernel_rfl
  c233:=by kernel_rfl }
open Go.RowKit in
theorem Tryz.strconv_Atoi_ok (s:ByteArray) (hmax:s.size≤9223372036854775806) (v:Int) (h:Lib.atoiAll s.data.toList = .ok v) (w:World) :
    Calls Tryz.prog 238 #[.string s] w fun e w'=>e = .returned (.tuple #[.int .i64 v,.nilIface])∧(w'=w∨∃ t,w'=Lib.bytesWorld w 5 t):=Any.strconv_Atoi_ok Tryz.laysC172 s hmax v h w
open Go.RowKit in
theorem Tryz.strconv_Atoi_range (s:ByteArray) (hlim:s.size≤281474976710656) (h:Lib.atoiAll s.data.toList = .range) (ev:Value) (w:World) (hv:w.cell? ⟨2,0,none⟩=some ev) (hev:ev = .nilIface∨∃ te pe,ev = .iface te pe) :
    Calls Tryz.prog 238 #[.string s] w fun e w'=>∃ N,e = .returned (.tuple #[.int .i64 (Lib.atoiSat s.data.toList),.iface 323 (.pointer (some ⟨N,0,none⟩))])∧w.heap.size≤N∧w'.heap[N]? = some (.cells #[.string ⟨#[65,116,111,105]⟩,.string s,ev] 339 (0,0))∧Below w.heap.size w w':=Any.strconv_Atoi_range Tryz.laysC172 s hlim h ev w hv hev
def Tryz.lays144_ren:Go.Shelf.Ren:=⟨fun | 144=>234 | 143=>278 | 219=>308 | 217=>335 | 225=>312 | 224=>311 | 267=>336 | 266=>349 | 314=>350 | n=>n,fun | 9=>9 | 4=>4 | 3=>3 | 5=>5 | 46=>251 | 146=>307 | 51=>306 | n=>n,fun | 1=>0 | n=>n⟩
theorem Tryz.lays144:Go.Proofs.Lays.n144 Tryz.prog Tryz.lays144_ren:={
  mixed:=by kernel_rfl
  f143:=Tryz.func278.trans (congrArg some (by kernel_rfl))
  f144:=Tryz.func234.trans (congrArg some (by kernel_rfl))
  f217:=Tryz.func335.trans (congrArg some (by kernel_rfl))
  f219:=Tryz.func308.trans (congrArg some (by kernel_rfl))
  f224:=Tryz.func311.trans (congrArg some (by kernel_rfl))
  f225:=Tryz.func312.trans (congrArg some (by kernel_rfl))
  f266:=Tryz.func349.trans (congrArg some (by kernel_rfl))
  f267:=Tryz.func336.trans (congrArg some (by kernel_rfl))
  f314:=Tryz.func350.trans (congrArg some (by kernel_rfl))
  t3:=Tryz.underlying3
  a3:=Tryz.isAgg3
  z3:=Tryz.sizeOf3
  v3:=Tryz.zeroValue3
  t4:=Tryz.underlying4
  a4:=Tryz.isAgg4
  z4:=Tryz.sizeOf4
  v4:=Tryz.zeroValue4
  t5:=Tryz.underlying5
  a5:=Tryz.isAgg5
  z5:=Tryz.sizeOf5
  v5:=Tryz.zeroValue5
  t9:=Tryz.underlying9
  a9:=Tryz.isAgg9
  z9:=Tryz.sizeOf9
  v9:=Tryz.zeroValue9
  t46:=Tryz.underlying251
  a46:=Tryz.isAgg251
  z46:=Tryz.sizeOf251
  v46:=Tryz.zeroValue251
  t51:=Tryz.underlying306
  a51:=Tryz.isAgg306
  z51:=Tryz.sizeOf306
  v51:=Tryz.zeroValue306
  t146:=Tryz.underlying307
  a146:=Tryz.isAgg307
  z146:=Tryz.sizeOf307
  v146:=Tryz.zeroValue307
  g1:=by kernel_rfl }
open Go.RowKit Go.Lib in
theorem Tryz.strings_Contains (s sub:ByteArray) (m:Int) (w:World) (hs:s.size<4294967281) (hm:w.cell? ⟨0,0,none⟩=some (.int .i64 m)) :
    Calls Tryz.prog 234 #[.string s,.string sub] w fun e w'=>e = .returned (.bool (Lib.contains s.data.toList sub.data.toList))∧w'=w:=Any.strings_Contains Tryz.lays144 s sub m w hs hm
def Tryz.lays145_ren:Go.Shelf.Ren:=⟨fun | 145=>235 | 220=>279 | 219=>308 | 217=>335 | 225=>312 | 224=>311 | 267=>336 | 266=>349 | 314=>350 | n=>n,fun | 9=>9 | 4=>4 | 59=>261 | 3=>3 | 5=>5 | 46=>251 | 146=>307 | 51=>306 | n=>n,fun | 1=>0 | n=>n⟩
theorem Tryz.lays145:Go.Proofs.Lays.n145 Tryz.prog Tryz.lays145_ren:={
  mixed:=by kernel_rfl
  f145:=Tryz.func235.trans (congrArg some (by kernel_rfl))
  f217:=Tryz.func335.trans (congrArg some (by kernel_rfl))
  f219:=Tryz.func308.trans (congrArg some (by kernel_rfl))
  f220:=Tryz.func279.trans (congrArg some (by kernel_rfl))
  f224:=Tryz.func311.trans (congrArg some (by kernel_rfl))
  f225:=Tryz.func312.trans (congrArg some (by kernel_rfl))
  f266:=Tryz.func349.trans (congrArg some (by kernel_rfl))
  f267:=Tryz.func336.trans (congrArg some (by kernel_rfl))
  f314:=Tryz.func350.trans (congrArg some (by kernel_rfl))
  t3:=Tryz.underlying3
  a3:=Tryz.isAgg3
  z3:=Tryz.sizeOf3
  v3:=Tryz.zeroValue3
  t4:=Tryz.underlying4
  a4:=Tryz.isAgg4
  z4:=Tryz.sizeOf4
  v4:=Tryz.zeroValue4
  t5:=Tryz.underlying5
  a5:=Tryz.isAgg5
  z5:=Tryz.sizeOf5
  v5:=Tryz.zeroValue5
  t9:=Tryz.underlying9
  a9:=Tryz.isAgg9
  z9:=Tryz.sizeOf9
  v9:=Tryz.zeroValue9
  t46:=Tryz.underlying251
  a46:=Tryz.isAgg251
  z46:=Tryz.sizeOf251
  v46:=Tryz.zeroValue251
  t51:=Tryz.underlying306
  a51:=Tryz.isAgg306
  z51:=Tryz.sizeOf306
  v51:=Tryz.zeroValue306
  t59:=Tryz.underlying261
  a59:=Tryz.isAgg261
  z59:=Tryz.sizeOf261
  v59:=Tryz.zeroValue261
  t146:=Tryz.underlying307
  a146:=Tryz.isAgg307
  z146:=Tryz.sizeOf307
  v146:=Tryz.zeroValue307
  g1:=by kernel_rfl }
open Go.RowKit Go.Lib in
theorem Tryz.strings_Cut (s sep:ByteArray) (m:Int) (w:World) (hs:s.size<4294967281) (hm:w.cell? ⟨0,0,none⟩=some (.int .i64 m)) :
    Calls Tryz.prog 235 #[.string s,.string sep] w fun e w'=>e = .returned (.tuple #[.string ⟨(Lib.cut s.data.toList sep.data.toList).1.toArray⟩,.string ⟨(Lib.cut s.data.toList sep.data.toList).2.1.toArray⟩,.bool (Lib.cut s.data.toList sep.data.toList).2.2])∧∃ n,w'=w.drewN n:=Any.strings_Cut Tryz.lays145 s sep m w hs hm
def Tryz.lays153_ren:Go.Shelf.Ren:=⟨fun | 153=>236 | 152=>280 | 226=>281 | 227=>282 | 228=>283 | 137=>309 | 119=>310 | 224=>311 | 225=>312 | 217=>335 | 266=>349 | n=>n,fun | 9=>9 | 3=>3 | 4=>4 | 5=>5 | 21=>21 | 117=>300 | 116=>299 | 0=>0 | 46=>251 | 124=>319 | n=>n,fun | n=>n⟩
theorem Tryz.lays153:Go.Proofs.Lays.n153 Tryz.prog Tryz.lays153_ren:={
  mixed:=by kernel_rfl
  f119:=Tryz.func310.trans (congrArg some (by kernel_rfl))
  f137:=Tryz.func309.trans (congrArg some (by kernel_rfl))
  f152:=Tryz.func280.trans (congrArg some (by kernel_rfl))
  f153:=Tryz.func236.trans (congrArg some (by kernel_rfl))
  f217:=Tryz.func335.trans (congrArg some (by kernel_rfl))
  f224:=Tryz.func311.trans (congrArg some (by kernel_rfl))
  f225:=Tryz.func312.trans (congrArg some (by kernel_rfl))
  f226:=Tryz.func281.trans (congrArg some (by kernel_rfl))
  f227:=Tryz.func282.trans (congrArg some (by kernel_rfl))
  f228:=Tryz.func283.trans (congrArg some (by kernel_rfl))
  f266:=Tryz.func349.trans (congrArg some (by kernel_rfl))
  t0:=Tryz.underlying0
  a0:=Tryz.isAgg0
  z0:=Tryz.sizeOf0
  v0:=Tryz.zeroValue0
  t3:=Tryz.underlying3
  a3:=Tryz.isAgg3
  z3:=Tryz.sizeOf3
  v3:=Tryz.zeroValue3
  t4:=Tryz.underlying4
  a4:=Tryz.isAgg4
  z4:=Tryz.sizeOf4
  v4:=Tryz.zeroValue4
  t5:=Tryz.underlying5
  a5:=Tryz.isAgg5
  z5:=Tryz.sizeOf5
  v5:=Tryz.zeroValue5
  t9:=Tryz.underlying9
  a9:=Tryz.isAgg9
  z9:=Tryz.sizeOf9
  v9:=Tryz.zeroValue9
  t21:=Tryz.underlying21
  a21:=Tryz.isAgg21
  z21:=Tryz.sizeOf21
  v21:=Tryz.zeroValue21
  t46:=Tryz.underlying251
  a46:=Tryz.isAgg251
  z46:=Tryz.sizeOf251
  v46:=Tryz.zeroValue251
  t116:=Tryz.underlying299
  a116:=Tryz.isAgg299
  z116:=Tryz.sizeOf299
  t117:=Tryz.underlying300
  a117:=Tryz.isAgg300
  z117:=Tryz.sizeOf300
  v117:=Tryz.zeroValue300
  t124:=Tryz.underlying319
  a124:=Tryz.isAgg319
  z124:=Tryz.sizeOf319
  v124:=Tryz.zeroValue319 }
open Go.RowKit Go.Lib in
theorem Tryz.strings_IndexAny_long (hv116:∀ w,(zeroValue 299).run Tryz.prog w = .ok (.agg (Array.replicate 256 (.bool false))) w) (s chars:ByteArray) (w:World) (h2:2≤chars.size) (h8:8<s.size) (hs:s.size<4294967281) (hcs:chars.size<4294967281) (hascii:∀ (j:Nat) b,chars.data.toList[j]? = some b→b.toNat<128) :
    Calls Tryz.prog 236 #[.string s,.string chars] w fun e w'=>e = .returned (.int .i64 (Lib.indexAny s.data.toList chars.data.toList))∧w'=((w.alloc (.cells (Lib.setCells chars.data.toList) 299)).alloc (.cells (Lib.setCells chars.data.toList) 299)):=Any.strings_IndexAny_long Tryz.lays153 hv116 (by kernel_rfl) s chars w h2 h8 hs hcs hascii
def Tryz.lClone251_ren:Go.Shelf.Ren:=⟨fun | 41=>251 | n=>n,fun | 22=>42 | 23=>115 | 4=>4 | n=>n,fun | n=>n⟩
theorem Tryz.lClone251:Go.Proofs.SlLaysE0.n41 Tryz.prog Tryz.lClone251_ren:={
  mixed:=by kernel_rfl
  f41:=⟨Tryz.f251.name,by decide,Tryz.func251.trans (congrArg some (by kernel_rfl))⟩
  t4:=Tryz.underlying4
  a4:=Tryz.isAgg4
  z4:=Tryz.sizeOf4
  v4:=Tryz.zeroValue4
  t22:=Tryz.underlying42
  a22:=Tryz.isAgg42
  z22:=Tryz.sizeOf42
  v22:=Tryz.zeroValue42 }
def Tryz.laysT160_ren:Go.Shelf.Ren:=⟨fun | 160=>313 | 232=>337 | 231=>327 | 227=>282 | 234=>338 | 233=>328 | 236=>339 | 235=>329 | 228=>283 | 271=>351 | 151=>346 | 197=>345 | 120=>359 | 152=>280 | 260=>358 | 137=>309 | 119=>310 | 224=>311 | 225=>312 | 217=>335 | 266=>349 | n=>n,fun | 9=>9 | 4=>4 | 3=>3 | 5=>5 | 117=>300 | 116=>299 | 0=>0 | 124=>319 | 21=>21 | 105=>342 | 46=>251 | 119=>361 | 139=>364 | 138=>363 | n=>n,fun | 3=>4 | 4=>5 | n=>n⟩
theorem Tryz.laysT160:Go.Proofs.Lays.n160 Tryz.prog Tryz.laysT160_ren:={
  mixed:=by kernel_rfl
  f119:=Tryz.func310.trans (congrArg some (by kernel_rfl))
  f120:=Tryz.func359.trans (congrArg some (by kernel_rfl))
  f137:=Tryz.func309.trans (congrArg some (by kernel_rfl))
  f151:=Tryz.func346.trans (congrArg some (by kernel_rfl))
  f152:=Tryz.func280.trans (congrArg some (by kernel_rfl))
  f160:=Tryz.func313.trans (congrArg some (by kernel_rfl))
  f197:=Tryz.func345.trans (congrArg some (by kernel_rfl))
  f217:=Tryz.func335.trans (congrArg some (by kernel_rfl))
  f224:=Tryz.func311.trans (congrArg some (by kernel_rfl))
  f225:=Tryz.func312.trans (congrArg some (by kernel_rfl))
  f227:=Tryz.func282.trans (congrArg some (by kernel_rfl))
  f228:=Tryz.func283.trans (congrArg some (by kernel_rfl))
  f231:=Tryz.func327.trans (congrArg some (by kernel_rfl))
  f232:=Tryz.func337.trans (congrArg some (by kernel_rfl))
  f233:=Tryz.func328.trans (congrArg some (by kernel_rfl))
  f234:=Tryz.func338.trans (congrArg some (by kernel_rfl))
  f235:=Tryz.func329.trans (congrArg some (by kernel_rfl))
  f236:=Tryz.func339.trans (congrArg some (by kernel_rfl))
  f260:=Tryz.func358.trans (congrArg some (by kernel_rfl))
  f266:=Tryz.func349.trans (congrArg some (by kernel_rfl))
  f271:=Tryz.func351.trans (congrArg some (by kernel_rfl))
  t0:=Tryz.underlying0
  a0:=Tryz.isAgg0
  z0:=Tryz.sizeOf0
  v0:=Tryz.zeroValue0
  t3:=Tryz.underlying3
  a3:=Tryz.isAgg3
  z3:=Tryz.sizeOf3
  v3:=Tryz.zeroValue3
  t4:=Tryz.underlying4
  a4:=Tryz.isAgg4
  z4:=Tryz.sizeOf4
  v4:=Tryz.zeroValue4
  t5:=Tryz.underlying5
  a5:=Tryz.isAgg5
  z5:=Tryz.sizeOf5
  v5:=Tryz.zeroValue5
  t9:=Tryz.underlying9
  a9:=Tryz.isAgg9
  z9:=Tryz.sizeOf9
  v9:=Tryz.zeroValue9
  t21:=Tryz.underlying21
  a21:=Tryz.isAgg21
  z21:=Tryz.sizeOf21
  v21:=Tryz.zeroValue21
  t46:=Tryz.underlying251
  a46:=Tryz.isAgg251
  z46:=Tryz.sizeOf251
  v46:=Tryz.zeroValue251
  t105:=Tryz.underlying342
  a105:=Tryz.isAgg342
  z105:=Tryz.sizeOf342
  v105:=Tryz.zeroValue342
  t116:=Tryz.underlying299
  a116:=Tryz.isAgg299
  z116:=Tryz.sizeOf299
  t117:=Tryz.underlying300
  a117:=Tryz.isAgg300
  z117:=Tryz.sizeOf300
  v117:=Tryz.zeroValue300
  t119:=Tryz.underlying361
  a119:=Tryz.isAgg361
  z119:=Tryz.sizeOf361
  t124:=Tryz.underlying319
  a124:=Tryz.isAgg319
  z124:=Tryz.sizeOf319
  v124:=Tryz.zeroValue319
  t138:=Tryz.underlying363
  a138:=Tryz.isAgg363
  z138:=Tryz.sizeOf363
  v138:=Tryz.zeroValue363
  t139:=Tryz.underlying364
  a139:=Tryz.isAgg364
  z139:=Tryz.sizeOf364
  v139:=Tryz.zeroValue364
  g3:=by kernel_rfl
  g4:=by kernel_rfl }
end Go.Proofs
