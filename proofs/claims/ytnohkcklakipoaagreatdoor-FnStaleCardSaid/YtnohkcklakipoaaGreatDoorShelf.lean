/- Contracts of Go's library over this program, laid by the kit's tool. -/
import Derived.Ground.SlgnProg
import Derived.Shelf.SlGeneric
import Derived.Shelf.SlicesE.Clone
import Derived.Shelf.Strings.SlTrimAscii
import Derived.Shelf.Strings.Builder1
import Derived.Shelf.Strings.Builder2
import Derived.Shelf.Strings.OnBuilder
import Derived.Shelf.Strings.Trim
import Derived.Shelf.Small.Utf8
import Derived.Shelf.Small.Strs
import Derived.Shelf.Strings.BuilderF
import Derived.Shelf.Strings.BuilderK
import Derived.Shelf.Utf8.RuneCount
import Derived.Shelf.Strings.Builder2Cap
import Derived.Shelf.Strconv.Atoi
import Derived.Shelf.Strconv.Itoa0
import Derived.Shelf.Strconv.Itoa1
import Derived.Shelf.LaysM
import Derived.Shelf.Strconv.Itoa2
import Derived.Shelf.Strconv.Itoa3
import Derived.Shelf.Strconv.AtoiErrFast
import Derived.Shelf.Strconv.ParseIntEmpty
import Derived.Shelf.Strconv.AtoiFail
import Derived.Shelf.Strconv.Clone
import Derived.Shelf.Strconv.SyntaxError
import Derived.Shelf.LaysC
import Derived.Shelf.Strconv.ToError
import Derived.Shelf.Strconv.Lower
import Derived.Shelf.Strconv.ParseUint10
import Derived.Shelf.Strconv.ParseUint10Empty
import Derived.Shelf.Strconv.ParseUint10Any
import Derived.Shelf.Strconv.ParseInt10
import Derived.Shelf.Strconv.AtoiLong
import Derived.Shelf.Strconv.AtoiInnerAll
import Derived.Shelf.Strconv.RangeError
import Derived.Shelf.Strconv.ToErrorRange
import Derived.Shelf.Strconv.AtoiAll
import Derived.Shelf.Strconv.ErrVarAll
import Derived.Shelf.Strings.Search1
import Derived.Shelf.Strings.Search2
import Derived.Shelf.Strings.Search3
import Derived.Shelf.Strings.Cut
import Derived.Shelf.Strings.Count
import Derived.Shelf.Strings.Shaped
import Derived.Shelf.Strings.Split
import Derived.Shelf.Strings.SplitShaped
import Derived.Shelf.Unicode.Decode
import Derived.Shelf.Strings.Runes
import Derived.Shelf.Strings.RuneCount
import Derived.Shelf.Strings.IndexAny
import Derived.Shelf.Strings.AsciiSet
import Derived.Shelf.Strings.IndexAnyAll
import Derived.Shelf.Strings.Explode
import Derived.Shelf.Bits.Mul64
import Derived.Shelf.Unicode.DecodeSlow
import Derived.Shelf.Unicode.DecodeAny
import Derived.Shelf.Unicode.DecodeLast
import Derived.Shelf.Strings.BuilderCap
import Derived.Test.YtnohkcklakipoaaGreatDoorProg
namespace Go.Proofs
open Go.Shelf
def Tryz.lays156_ren:Go.Shelf.Ren:=⟨fun | 156=>193 | 165=>229 | 166=>230 | 169=>231 | 240=>263 | 241=>264 | 276=>291 | 277=>292 | n=>n,fun | 31=>48 | 9=>9 | 3=>3 | 4=>4 | 0=>0 | 20=>20 | 72=>232 | 76=>208 | 70=>230 | 37=>22 | 75=>207 | 127=>252 | 164=>273 | 5=>5 | 80=>234 | n=>n,fun | n=>n⟩
theorem Tryz.lays156:Go.Proofs.Lays.n156 Tryz.prog Tryz.lays156_ren:={
  mixed:=by kernel_rfl
  f156:=Tryz.func193.trans (congrArg some (by kernel_rfl))
  f165:=Tryz.func229.trans (congrArg some (by kernel_rfl))
  f166:=Tryz.func230.trans (congrArg some (by kernel_rfl))
  f169:=Tryz.func231.trans (congrArg some (by kernel_rfl))
  f240:=Tryz.func263.trans (congrArg some (by kernel_rfl))
  f241:=Tryz.func264.trans (congrArg some (by kernel_rfl))
  f276:=Tryz.func291.trans (congrArg some (by kernel_rfl))
  f277:=Tryz.func292.trans (congrArg some (by kernel_rfl))
  t0:=Tryz.underlying0
  a0:=Tryz.isAgg0
  z0:=Tryz.sizeOf0
  v0:=Tryz.zeroValue0
  t3:=Tryz.underlying3
  a3:=Tryz.isAgg3
  z3:=Tryz.sizeOf3
  v3:=Tryz.zeroValue3
  t4:=Tryz.underlying4
  a4:=Tryz.isAgg4
  z4:=Tryz.sizeOf4
  v4:=Tryz.zeroValue4
  t9:=Tryz.underlying9
  a9:=Tryz.isAgg9
  z9:=Tryz.sizeOf9
  v9:=Tryz.zeroValue9
  t20:=Tryz.underlying20
  a20:=Tryz.isAgg20
  z20:=Tryz.sizeOf20
  v20:=Tryz.zeroValue20
  t31:=Tryz.underlying48
  a31:=Tryz.isAgg48
  z31:=Tryz.sizeOf48
  v31:=Tryz.zeroValue48
  t37:=Tryz.underlying22
  a37:=Tryz.isAgg22
  z37:=Tryz.sizeOf22
  v37:=Tryz.zeroValue22
  t70:=Tryz.underlying230
  a70:=Tryz.isAgg230
  z70:=Tryz.sizeOf230
  v70:=Tryz.zeroValue230
  t72:=Tryz.underlying232
  a72:=Tryz.isAgg232
  z72:=Tryz.sizeOf232
  v72:=Tryz.zeroValue232
  t75:=Tryz.underlying207
  a75:=Tryz.isAgg207
  z75:=Tryz.sizeOf207
  v75:=Tryz.zeroValue207
  t76:=Tryz.underlying208
  a76:=Tryz.isAgg208
  z76:=Tryz.sizeOf208
  v76:=Tryz.zeroValue208
  t127:=Tryz.underlying252
  a127:=Tryz.isAgg252
  z127:=Tryz.sizeOf252
  v127:=Tryz.zeroValue252
  t164:=Tryz.underlying273
  a164:=Tryz.isAgg273
  z164:=Tryz.sizeOf273
  v164:=Tryz.zeroValue273 }
theorem Tryz.Builder_Extra_156:Builder.Extra Tryz.prog Tryz.lays156_ren:={
  sizeBuilder:=by kernel_rfl
  liesBuilder:=by kernel_rfl
  t5:=Tryz.underlying5
  a5:=Tryz.isAgg5
  z5:=Tryz.sizeOf5
  v5:=Tryz.zeroValue5
  infoByte:=by kernel_rfl
  cellsByte:=by kernel_rfl
  sizeByte:=by kernel_rfl
  neB5:=by decide }
open Go.RowKit in
theorem Tryz.strings_Join_none (a:Option Addr) (c:Nat) (sep:ByteArray) (w:World) :
    Calls Tryz.prog 193 #[.slice a 0 c,.string sep] w fun e w'=>e = .returned (.string ⟨#[]⟩)∧w'=w:=Any.strings_Join_none Tryz.lays156 Tryz.Builder_Extra_156 a c sep w
open Go.RowKit in
theorem Tryz.strings_Join (bk o c:Nat) (xs:List ByteArray) (sep:ByteArray) (w:World) (hcells:∀ (j:Nat) x,xs[j]? = some x→w.cell? ⟨bk,o+j,none⟩=some (.string x)) (hbk:bk<w.heap.size) (hN:xs.length≤140737488355328) (hcap:xs.length≤c) (hlen:(Lib.join (xs.map (·.data.toList)) sep.data.toList).length≤140737488355328) :
    Calls Tryz.prog 193 #[.slice (some ⟨bk,o,none⟩) xs.length c,.string sep] w fun e w'=>e = .returned (.string ⟨(Lib.join (xs.map (·.data.toList)) sep.data.toList).toArray⟩)∧Below w.heap.size w w':=Any.strings_Join Tryz.lays156 Tryz.Builder_Extra_156 bk o c xs sep w hcells hbk hN hcap hlen
def Tryz.lays161_ren:Go.Shelf.Ren:=⟨fun | 161=>227 | 231=>259 | 227=>253 | 233=>260 | 235=>261 | 228=>254 | 197=>285 | 151=>286 | 260=>301 | 152=>251 | 137=>219 | 119=>280 | 224=>281 | 225=>282 | 217=>248 | 266=>278 | n=>n,fun | 9=>9 | 4=>4 | 3=>3 | 5=>5 | 117=>243 | 116=>242 | 0=>0 | 124=>250 | 105=>265 | 21=>21 | 119=>291 | 46=>118 | 139=>294 | 138=>293 | n=>n,fun | 3=>4 | 4=>5 | n=>n⟩
theorem Tryz.lays161:Go.Proofs.Lays.n161 Tryz.prog Tryz.lays161_ren:={
  mixed:=by kernel_rfl
  f119:=Tryz.func280.trans (congrArg some (by kernel_rfl))
  f137:=Tryz.func219.trans (congrArg some (by kernel_rfl))
  f151:=Tryz.func286.trans (congrArg some (by kernel_rfl))
  f152:=Tryz.func251.trans (congrArg some (by kernel_rfl))
  f161:=Tryz.func227.trans (congrArg some (by kernel_rfl))
  f197:=Tryz.func285.trans (congrArg some (by kernel_rfl))
  f217:=Tryz.func248.trans (congrArg some (by kernel_rfl))
  f224:=Tryz.func281.trans (congrArg some (by kernel_rfl))
  f225:=Tryz.func282.trans (congrArg some (by kernel_rfl))
  f227:=Tryz.func253.trans (congrArg some (by kernel_rfl))
  f228:=Tryz.func254.trans (congrArg some (by kernel_rfl))
  f231:=Tryz.func259.trans (congrArg some (by kernel_rfl))
  f233:=Tryz.func260.trans (congrArg some (by kernel_rfl))
  f235:=Tryz.func261.trans (congrArg some (by kernel_rfl))
  f260:=Tryz.func301.trans (congrArg some (by kernel_rfl))
  f266:=Tryz.func278.trans (congrArg some (by kernel_rfl))
  t0:=Tryz.underlying0
  a0:=Tryz.isAgg0
  z0:=Tryz.sizeOf0
  v0:=Tryz.zeroValue0
  t3:=Tryz.underlying3
  a3:=Tryz.isAgg3
  z3:=Tryz.sizeOf3
  v3:=Tryz.zeroValue3
  t4:=Tryz.underlying4
  a4:=Tryz.isAgg4
  z4:=Tryz.sizeOf4
  v4:=Tryz.zeroValue4
  t5:=Tryz.underlying5
  a5:=Tryz.isAgg5
  z5:=Tryz.sizeOf5
  v5:=Tryz.zeroValue5
  t9:=Tryz.underlying9
  a9:=Tryz.isAgg9
  z9:=Tryz.sizeOf9
  v9:=Tryz.zeroValue9
  t21:=Tryz.underlying21
  a21:=Tryz.isAgg21
  z21:=Tryz.sizeOf21
  v21:=Tryz.zeroValue21
  t46:=Tryz.underlying118
  a46:=Tryz.isAgg118
  z46:=Tryz.sizeOf118
  v46:=Tryz.zeroValue118
  t105:=Tryz.underlying265
  a105:=Tryz.isAgg265
  z105:=Tryz.sizeOf265
  v105:=Tryz.zeroValue265
  t116:=Tryz.underlying242
  a116:=Tryz.isAgg242
  z116:=Tryz.sizeOf242
  t117:=Tryz.underlying243
  a117:=Tryz.isAgg243
  z117:=Tryz.sizeOf243
  v117:=Tryz.zeroValue243
  t119:=Tryz.underlying291
  a119:=Tryz.isAgg291
  z119:=Tryz.sizeOf291
  t124:=Tryz.underlying250
  a124:=Tryz.isAgg250
  z124:=Tryz.sizeOf250
  v124:=Tryz.zeroValue250
  t138:=Tryz.underlying293
  a138:=Tryz.isAgg293
  z138:=Tryz.sizeOf293
  v138:=Tryz.zeroValue293
  t139:=Tryz.underlying294
  a139:=Tryz.isAgg294
  z139:=Tryz.sizeOf294
  v139:=Tryz.zeroValue294
  g3:=by kernel_rfl
  g4:=by kernel_rfl }
open Go.RowKit in
theorem Tryz.strings_TrimLeft_one (s:ByteArray) (c:UInt8) (hc:c.toNat<128) (w:World) :
    Calls Tryz.prog 227 #[.string s,.string ⟨#[c]⟩] w fun e w'=>e = .returned (.string ⟨(Lib.trimLeftB s.data.toList c).toArray⟩)∧w'=w:=Any.strings_TrimLeft_one Tryz.lays161 s c hc w
def Tryz.lays137_ren:Go.Shelf.Ren:=⟨fun | 137=>219 | 217=>248 | 266=>278 | n=>n,fun | 9=>9 | 5=>5 | 3=>3 | n=>n,fun | n=>n⟩
theorem Tryz.lays137:Go.Proofs.Lays.n137 Tryz.prog Tryz.lays137_ren:={
  mixed:=by kernel_rfl
  f137:=Tryz.func219.trans (congrArg some (by kernel_rfl))
  f217:=Tryz.func248.trans (congrArg some (by kernel_rfl))
  f266:=Tryz.func278.trans (congrArg some (by kernel_rfl))
  t3:=Tryz.underlying3
  a3:=Tryz.isAgg3
  z3:=Tryz.sizeOf3
  v3:=Tryz.zeroValue3
  t5:=Tryz.underlying5
  a5:=Tryz.isAgg5
  z5:=Tryz.sizeOf5
  v5:=Tryz.zeroValue5
  t9:=Tryz.underlying9
  a9:=Tryz.isAgg9
  z9:=Tryz.sizeOf9
  v9:=Tryz.zeroValue9 }
open Go.RowKit in
theorem Tryz.strings_IndexByte (s:ByteArray) (c:Int) (w:World) :
    Calls Tryz.prog 219 #[.string s,.int .u8 c] w fun e w'=>e = .returned (.int .i64 (Lib.indexByte s.data.toList c.toNat.toUInt8))∧w'=w:=Any.strings_IndexByte Tryz.lays137 s c w
def Tryz.laysM171_ren:Go.Shelf.Ren:=⟨fun | 171=>192 | 243=>228 | 246=>262 | 283=>287 | 284=>288 | 285=>289 | 286=>290 | 129=>303 | 317=>302 | 318=>304 | 319=>305 | 320=>306 | 337=>314 | 338=>315 | n=>n,fun | 3=>3 | 9=>9 | 2=>2 | 4=>4 | 171=>268 | 0=>0 | 53=>158 | 37=>22 | 5=>5 | 173=>271 | 212=>283 | 51=>155 | 20=>20 | 213=>284 | 46=>118 | 232=>296 | 233=>297 | n=>n,fun | 17=>3 | 18=>6 | 19=>7 | n=>n⟩
theorem Tryz.laysM171:Go.Proofs.LaysM.n171 Tryz.prog Tryz.laysM171_ren:={
  mixed:=by kernel_rfl
  f129:=Tryz.func303.trans (congrArg some (by kernel_rfl))
  f171:=Tryz.func192.trans (congrArg some (by kernel_rfl))
  f243:=Tryz.func228.trans (congrArg some (by kernel_rfl))
  f246:=Tryz.func262.trans (congrArg some (by kernel_rfl))
  f283:=Tryz.func287.trans (congrArg some (by kernel_rfl))
  f284:=Tryz.func288.trans (congrArg some (by kernel_rfl))
  f285:=Tryz.func289.trans (congrArg some (by kernel_rfl))
  f286:=Tryz.func290.trans (congrArg some (by kernel_rfl))
  f317:=Tryz.func302.trans (congrArg some (by kernel_rfl))
  f318:=Tryz.func304.trans (congrArg some (by kernel_rfl))
  f319:=Tryz.func305.trans (congrArg some (by kernel_rfl))
  f320:=Tryz.func306.trans (congrArg some (by kernel_rfl))
  f337:=Tryz.func314.trans (congrArg some (by kernel_rfl))
  f338:=Tryz.func315.trans (congrArg some (by kernel_rfl))
  t0:=Tryz.underlying0
  a0:=Tryz.isAgg0
  z0:=Tryz.sizeOf0
  v0:=Tryz.zeroValue0
  t2:=Tryz.underlying2
  a2:=Tryz.isAgg2
  z2:=Tryz.sizeOf2
  v2:=Tryz.zeroValue2
  t3:=Tryz.underlying3
  a3:=Tryz.isAgg3
  z3:=Tryz.sizeOf3
  v3:=Tryz.zeroValue3
  t4:=Tryz.underlying4
  a4:=Tryz.isAgg4
  z4:=Tryz.sizeOf4
  v4:=Tryz.zeroValue4
  t5:=Tryz.underlying5
  a5:=Tryz.isAgg5
  z5:=Tryz.sizeOf5
  v5:=Tryz.zeroValue5
  t9:=Tryz.underlying9
  a9:=Tryz.isAgg9
  z9:=Tryz.sizeOf9
  v9:=Tryz.zeroValue9
  t20:=Tryz.underlying20
  a20:=Tryz.isAgg20
  z20:=Tryz.sizeOf20
  v20:=Tryz.zeroValue20
  t37:=Tryz.underlying22
  a37:=Tryz.isAgg22
  z37:=Tryz.sizeOf22
  v37:=Tryz.zeroValue22
  t46:=Tryz.underlying118
  a46:=Tryz.isAgg118
  z46:=Tryz.sizeOf118
  v46:=Tryz.zeroValue118
  t51:=Tryz.underlying155
  a51:=Tryz.isAgg155
  z51:=Tryz.sizeOf155
  v51:=Tryz.zeroValue155
  t53:=Tryz.underlying158
  a53:=Tryz.isAgg158
  z53:=Tryz.sizeOf158
  v53:=Tryz.zeroValue158
  t171:=Tryz.underlying268
  a171:=Tryz.isAgg268
  z171:=Tryz.sizeOf268
  v171:=Tryz.zeroValue268
  t173:=Tryz.underlying271
  a173:=Tryz.isAgg271
  z173:=Tryz.sizeOf271
  v173:=Tryz.zeroValue271
  t212:=Tryz.underlying283
  a212:=Tryz.isAgg283
  z212:=Tryz.sizeOf283
  v212:=Tryz.zeroValue283
  t213:=Tryz.underlying284
  a213:=Tryz.isAgg284
  z213:=Tryz.sizeOf284
  t232:=Tryz.underlying296
  a232:=Tryz.isAgg296
  z232:=Tryz.sizeOf296
  v232:=Tryz.zeroValue296
  t233:=Tryz.underlying297
  a233:=Tryz.isAgg297
  z233:=Tryz.sizeOf297
  v233:=Tryz.zeroValue297
  g17:=by kernel_rfl
  g18:=by kernel_rfl
  g19:=by kernel_rfl
  i0:=by kernel_rfl
  i2:=by kernel_rfl
  i3:=by kernel_rfl
  i4:=by kernel_rfl
  i5:=by kernel_rfl
  i9:=by kernel_rfl
  i20:=by kernel_rfl
  i37:=by kernel_rfl
  i46:=by kernel_rfl
  i51:=by kernel_rfl
  i53:=by kernel_rfl
  i171:=by kernel_rfl
  i173:=by kernel_rfl
  i212:=by kernel_rfl
  i232:=by kernel_rfl
  i233:=by kernel_rfl
  m17:=by kernel_rfl
  m18:=by kernel_rfl
  m19:=by kernel_rfl }
open Go.RowKit Go.Sort Go.Lib in
theorem Tryz.strconv_Itoa (n:Int) (h0:-9223372036854775808≤n) (h1:n≤9223372036854775807) (w:World) (htab:Lib.TabIs Tryz.prog w "internal/strconv.uint64pow10" .u64 Lib.pow10Tab) :
    Calls Tryz.prog 192 #[.int .i64 n] w fun e w'=>e = .returned (.string ⟨(Lib.itoa n).toArray⟩)∧∃ k os,w'=grow (w.drewN k) os:=Any.strconv_Itoa Tryz.laysM171 n h0 h1 w htab
def Tryz.laysC172_ren:Go.Shelf.Ren:=⟨fun | 172=>194 | 244=>232 | 245=>233 | 247=>265 | 279=>266 | 280=>267 | 281=>268 | 282=>269 | 287=>293 | 316=>294 | 171=>192 | 205=>295 | 321=>307 | 322=>308 | 243=>228 | 246=>262 | 283=>287 | 284=>288 | 285=>289 | 286=>290 | 129=>303 | 317=>302 | 318=>304 | 319=>305 | 320=>306 | 337=>314 | 338=>315 | n=>n,fun | 9=>9 | 3=>3 | 75=>207 | 76=>208 | 4=>4 | 5=>5 | 167=>253 | 37=>22 | 0=>0 | 85=>254 | 2=>2 | 168=>256 | 53=>158 | 175=>276 | 46=>118 | 210=>279 | 127=>252 | 145=>289 | 143=>287 | 21=>21 | 171=>268 | 173=>271 | 212=>283 | 51=>155 | 20=>20 | 213=>284 | 232=>296 | 233=>297 | 80=>234 | n=>n,fun | 15=>1 | 16=>2 | 17=>3 | 18=>6 | 19=>7 | n=>n⟩
theorem Tryz.laysC172:Go.Proofs.LaysC.n172 Tryz.prog Tryz.laysC172_ren:={
  mixed:=by kernel_rfl
  f129:=Tryz.func303.trans (congrArg some (by kernel_rfl))
  f171:=Tryz.func192.trans (congrArg some (by kernel_rfl))
  f172:=Tryz.func194.trans (congrArg some (by kernel_rfl))
  f205:=Tryz.func295.trans (congrArg some (by kernel_rfl))
  f243:=Tryz.func228.trans (congrArg some (by kernel_rfl))
  f244:=Tryz.func232.trans (congrArg some (by kernel_rfl))
  f245:=Tryz.func233.trans (congrArg some (by kernel_rfl))
  f246:=Tryz.func262.trans (congrArg some (by kernel_rfl))
  f247:=Tryz.func265.trans (congrArg some (by kernel_rfl))
  f279:=Tryz.func266.trans (congrArg some (by kernel_rfl))
  f280:=Tryz.func267.trans (congrArg some (by kernel_rfl))
  f281:=Tryz.func268.trans (congrArg some (by kernel_rfl))
  f282:=Tryz.func269.trans (congrArg some (by kernel_rfl))
  f283:=Tryz.func287.trans (congrArg some (by kernel_rfl))
  f284:=Tryz.func288.trans (congrArg some (by kernel_rfl))
  f285:=Tryz.func289.trans (congrArg some (by kernel_rfl))
  f286:=Tryz.func290.trans (congrArg some (by kernel_rfl))
  f287:=Tryz.func293.trans (congrArg some (by kernel_rfl))
  f316:=Tryz.func294.trans (congrArg some (by kernel_rfl))
  f317:=Tryz.func302.trans (congrArg some (by kernel_rfl))
  f318:=Tryz.func304.trans (congrArg some (by kernel_rfl))
  f319:=Tryz.func305.trans (congrArg some (by kernel_rfl))
  f320:=Tryz.func306.trans (congrArg some (by kernel_rfl))
  f321:=Tryz.func307.trans (congrArg some (by kernel_rfl))
  f322:=Tryz.func308.trans (congrArg some (by kernel_rfl))
  f337:=Tryz.func314.trans (congrArg some (by kernel_rfl))
  f338:=Tryz.func315.trans (congrArg some (by kernel_rfl))
  t0:=Tryz.underlying0
  a0:=Tryz.isAgg0
  z0:=Tryz.sizeOf0
  v0:=Tryz.zeroValue0
  t2:=Tryz.underlying2
  a2:=Tryz.isAgg2
  z2:=Tryz.sizeOf2
  v2:=Tryz.zeroValue2
  t3:=Tryz.underlying3
  a3:=Tryz.isAgg3
  z3:=Tryz.sizeOf3
  v3:=Tryz.zeroValue3
  t4:=Tryz.underlying4
  a4:=Tryz.isAgg4
  z4:=Tryz.sizeOf4
  v4:=Tryz.zeroValue4
  t5:=Tryz.underlying5
  a5:=Tryz.isAgg5
  z5:=Tryz.sizeOf5
  v5:=Tryz.zeroValue5
  t9:=Tryz.underlying9
  a9:=Tryz.isAgg9
  z9:=Tryz.sizeOf9
  v9:=Tryz.zeroValue9
  t20:=Tryz.underlying20
  a20:=Tryz.isAgg20
  z20:=Tryz.sizeOf20
  v20:=Tryz.zeroValue20
  t21:=Tryz.underlying21
  a21:=Tryz.isAgg21
  z21:=Tryz.sizeOf21
  v21:=Tryz.zeroValue21
  t37:=Tryz.underlying22
  a37:=Tryz.isAgg22
  z37:=Tryz.sizeOf22
  v37:=Tryz.zeroValue22
  t46:=Tryz.underlying118
  a46:=Tryz.isAgg118
  z46:=Tryz.sizeOf118
  v46:=Tryz.zeroValue118
  t51:=Tryz.underlying155
  a51:=Tryz.isAgg155
  z51:=Tryz.sizeOf155
  v51:=Tryz.zeroValue155
  t53:=Tryz.underlying158
  a53:=Tryz.isAgg158
  z53:=Tryz.sizeOf158
  v53:=Tryz.zeroValue158
  t75:=Tryz.underlying207
  a75:=Tryz.isAgg207
  z75:=Tryz.sizeOf207
  v75:=Tryz.zeroValue207
  t76:=Tryz.underlying208
  a76:=Tryz.isAgg208
  z76:=Tryz.sizeOf208
  v76:=Tryz.zeroValue208
  t85:=Tryz.underlying254
  a85:=Tryz.isAgg254
  z85:=Tryz.sizeOf254
  v85:=Tryz.zeroValue254
  t127:=Tryz.underlying252
  a127:=Tryz.isAgg252
  z127:=Tryz.sizeOf252
  v127:=Tryz.zeroValue252
  t143:=Tryz.underlying287
  a143:=Tryz.isAgg287
  z143:=Tryz.sizeOf287
  v143:=Tryz.zeroValue287
  t145:=Tryz.underlying289
  a145:=Tryz.isAgg289
  z145:=Tryz.sizeOf289
  v145:=Tryz.zeroValue289
  t167:=Tryz.underlying253
  a167:=Tryz.isAgg253
  z167:=Tryz.sizeOf253
  v167:=Tryz.zeroValue253
  t168:=Tryz.underlying256
  a168:=Tryz.isAgg256
  z168:=Tryz.sizeOf256
  v168:=Tryz.zeroValue256
  t171:=Tryz.underlying268
  a171:=Tryz.isAgg268
  z171:=Tryz.sizeOf268
  v171:=Tryz.zeroValue268
  t173:=Tryz.underlying271
  a173:=Tryz.isAgg271
  z173:=Tryz.sizeOf271
  v173:=Tryz.zeroValue271
  t175:=Tryz.underlying276
  a175:=Tryz.isAgg276
  z175:=Tryz.sizeOf276
  v175:=Tryz.zeroValue276
  t210:=Tryz.underlying279
  a210:=Tryz.isAgg279
  z210:=Tryz.sizeOf279
  v210:=Tryz.zeroValue279
  t212:=Tryz.underlying283
  a212:=Tryz.isAgg283
  z212:=Tryz.sizeOf283
  v212:=Tryz.zeroValue283
  t213:=Tryz.underlying284
  a213:=Tryz.isAgg284
  z213:=Tryz.sizeOf284
  t232:=Tryz.underlying296
  a232:=Tryz.isAgg296
  z232:=Tryz.sizeOf296
  v232:=Tryz.zeroValue296
  t233:=Tryz.underlying297
  a233:=Tryz.isAgg297
  z233:=Tryz.sizeOf297
  v233:=Tryz.zeroValue297
  g15:=by kernel_rfl
  g16:=by kernel_rfl
  g17:=by kernel_rfl
  g18:=by kernel_rfl
  g19:=by kernel_rfl
  t80:=Tryz.underlying234
  a80:=Tryz.isAgg234
  z80:=Tryz.sizeOf234
  v80:=Tryz.zeroValue234
  i0:=by kernel_rfl
  i2:=by kernel_rfl
  i3:=by kernel_rfl
  i4:=by kernel_rfl
  i5:=by kernel_rfl
  i9:=by kernel_rfl
  i20:=by kernel_rfl
  i21:=by kernel_rfl
  i37:=by kernel_rfl
  i46:=by kernel_rfl
  i51:=by kernel_rfl
  i53:=by kernel_rfl
  i75:=by kernel_rfl
  i76:=by kernel_rfl
  i80:=by kernel_rfl
  i85:=by kernel_rfl
  i127:=by kernel_rfl
  i143:=by kernel_rfl
  i145:=by kernel_rfl
  i167:=by kernel_rfl
  i168:=by kernel_rfl
  i171:=by kernel_rfl
  i173:=by kernel_rfl
  i175:=by kernel_rfl
  i210:=by kernel_rfl
  i212:=by kernel_rfl
  i232:=by kernel_rfl
  i233:=by kernel_rfl
  m15:=by kernel_rfl
  m16:=by kernel_rfl
  m17:=by kernel_rfl
  m18:=by kernel_rfl
  m19:=by kernel_rfl
  c0:=by kernel_rfl
  c2:=by kernel_rfl
  c3:=by kernel_rfl
  c4:=by kernel_rfl
  c5:=by kernel_rfl
  c9:=by kernel_rfl
  c20:=by kernel_rfl
  c21:=by kernel_rfl
  c37:=by kernel_rfl
  c46:=by kernel_rfl
  c51:=by kernel_rfl
  c53:=by kernel_rfl
  c75:=by kernel_rfl
  c76:=by kernel_rfl
  c80:=by kernel_rfl
  c85:=by kernel_rfl
  c127:=by kernel_rfl
  c143:=by kernel_rfl
  c145:=by kernel_rfl
  c167:=by kernel_rfl
  c168:=by kernel_rfl
  c171:=by kernel_rfl
  c173:=by kernel_rfl
  c175:=by kernel_rfl
  c210:=by kernel_rfl
  c212:=by kernel_rfl
  c213:=by kernel_rfl
  c232:=by kernel_rfl
  c233:=by kernel_rfl }
open Go.RowKit in
theorem Tryz.strconv_Atoi_ok (s:ByteArray) (hmax:s.size≤9223372036854775806) (v:Int) (h:Lib.atoiAll s.data.toList = .ok v) (w:World) :
    Calls Tryz.prog 194 #[.string s] w fun e w'=>e = .returned (.tuple #[.int .i64 v,.nilIface])∧(w'=w∨∃ t,w'=Lib.bytesWorld w 5 t):=Any.strconv_Atoi_ok Tryz.laysC172 s hmax v h w
open Go.RowKit in
theorem Tryz.strconv_Atoi_range (s:ByteArray) (hlim:s.size≤281474976710656) (h:Lib.atoiAll s.data.toList = .range) (ev:Value) (w:World) (hv:w.cell? ⟨2,0,none⟩=some ev) (hev:ev = .nilIface∨∃ te pe,ev = .iface te pe) :
    Calls Tryz.prog 194 #[.string s] w fun e w'=>∃ N,e = .returned (.tuple #[.int .i64 (Lib.atoiSat s.data.toList),.iface 256 (.pointer (some ⟨N,0,none⟩))])∧w.heap.size≤N∧w'.heap[N]? = some (.cells #[.string ⟨#[65,116,111,105]⟩,.string s,ev] 279 (0,0))∧Below w.heap.size w w':=Any.strconv_Atoi_range Tryz.laysC172 s hlim h ev w hv hev
def Tryz.lays144_ren:Go.Shelf.Ren:=⟨fun | 144=>220 | 143=>249 | 219=>279 | 217=>248 | 225=>282 | 224=>281 | 267=>298 | 266=>278 | 314=>311 | n=>n,fun | 9=>9 | 4=>4 | 3=>3 | 5=>5 | 46=>118 | 146=>156 | 51=>155 | n=>n,fun | 1=>0 | n=>n⟩
theorem Tryz.lays144:Go.Proofs.Lays.n144 Tryz.prog Tryz.lays144_ren:={
  mixed:=by kernel_rfl
  f143:=Tryz.func249.trans (congrArg some (by kernel_rfl))
  f144:=Tryz.func220.trans (congrArg some (by kernel_rfl))
  f217:=Tryz.func248.trans (congrArg some (by kernel_rfl))
  f219:=Tryz.func279.trans (congrArg some (by kernel_rfl))
  f224:=Tryz.func281.trans (congrArg some (by kernel_rfl))
  f225:=Tryz.func282.trans (congrArg some (by kernel_rfl))
  f266:=Tryz.func278.trans (congrArg some (by kernel_rfl))
  f267:=Tryz.func298.trans (congrArg some (by kernel_rfl))
  f314:=Tryz.func311.trans (congrArg some (by kernel_rfl))
  t3:=Tryz.underlying3
  a3:=Tryz.isAgg3
  z3:=Tryz.sizeOf3
  v3:=Tryz.zeroValue3
  t4:=Tryz.underlying4
  a4:=Tryz.isAgg4
  z4:=Tryz.sizeOf4
  v4:=Tryz.zeroValue4
  t5:=Tryz.underlying5
  a5:=Tryz.isAgg5
  z5:=Tryz.sizeOf5
  v5:=Tryz.zeroValue5
  t9:=Tryz.underlying9
  a9:=Tryz.isAgg9
  z9:=Tryz.sizeOf9
  v9:=Tryz.zeroValue9
  t46:=Tryz.underlying118
  a46:=Tryz.isAgg118
  z46:=Tryz.sizeOf118
  v46:=Tryz.zeroValue118
  t51:=Tryz.underlying155
  a51:=Tryz.isAgg155
  z51:=Tryz.sizeOf155
  v51:=Tryz.zeroValue155
  t146:=Tryz.underlying156
  a146:=Tryz.isAgg156
  z146:=Tryz.sizeOf156
  v146:=Tryz.zeroValue156
  g1:=by kernel_rfl }
open Go.RowKit Go.Lib in
theorem Tryz.strings_Contains (s sub:ByteArray) (m:Int) (w:World) (hs:s.size<4294967281) (hm:w.cell? ⟨0,0,none⟩=some (.int .i64 m)) :
    Calls Tryz.prog 220 #[.string s,.string sub] w fun e w'=>e = .returned (.bool (Lib.contains s.data.toList sub.data.toList))∧w'=w:=Any.strings_Contains Tryz.lays144 s sub m w hs hm
def Tryz.lays145_ren:Go.Shelf.Ren:=⟨fun | 145=>221 | 220=>250 | 219=>279 | 217=>248 | 225=>282 | 224=>281 | 267=>298 | 266=>278 | 314=>311 | n=>n,fun | 9=>9 | 4=>4 | 59=>223 | 3=>3 | 5=>5 | 46=>118 | 146=>156 | 51=>155 | n=>n,fun | 1=>0 | n=>n⟩
theorem Tryz.lays145:Go.Proofs.Lays.n145 Tryz.prog Tryz.lays145_ren:={
  mixed:=by kernel_rfl
  f145:=Tryz.func221.trans (congrArg some (by kernel_rfl))
  f217:=Tryz.func248.trans (congrArg some (by kernel_rfl))
  f219:=Tryz.func279.trans (congrArg some (by kernel_rfl))
  f220:=Tryz.func250.trans (congrArg some (by kernel_rfl))
  f224:=Tryz.func281.trans (congrArg some (by kernel_rfl))
  f225:=Tryz.func282.trans (congrArg some (by kernel_rfl))
  f266:=Tryz.func278.trans (congrArg some (by kernel_rfl))
  f267:=Tryz.func298.trans (congrArg some (by kernel_rfl))
  f314:=Tryz.func311.trans (congrArg some (by kernel_rfl))
  t3:=Tryz.underlying3
  a3:=Tryz.isAgg3
  z3:=Tryz.sizeOf3
  v3:=Tryz.zeroValue3
  t4:=Tryz.underlying4
  a4:=Tryz.isAgg4
  z4:=Tryz.sizeOf4
  v4:=Tryz.zeroValue4
  t5:=Tryz.underlying5
  a5:=Tryz.isAgg5
  z5:=Tryz.sizeOf5
  v5:=Tryz.zeroValue5
  t9:=Tryz.underlying9
  a9:=Tryz.isAgg9
  z9:=Tryz.sizeOf9
  v9:=Tryz.zeroValue9
  t46:=Tryz.underlying118
  a46:=Tryz.isAgg118
  z46:=Tryz.sizeOf118
  v46:=Tryz.zeroValue118
  t51:=Tryz.underlying155
  a51:=Tryz.isAgg155
  z51:=Tryz.sizeOf155
  v51:=Tryz.zeroValue155
  t59:=Tryz.underlying223
  a59:=Tryz.isAgg223
  z59:=Tryz.sizeOf223
  v59:=Tryz.zeroValue223
  t146:=Tryz.underlying156
  a146:=Tryz.isAgg156
  z146:=Tryz.sizeOf156
  v146:=Tryz.zeroValue156
  g1:=by kernel_rfl }
open Go.RowKit Go.Lib in
theorem Tryz.strings_Cut (s sep:ByteArray) (m:Int) (w:World) (hs:s.size<4294967281) (hm:w.cell? ⟨0,0,none⟩=some (.int .i64 m)) :
    Calls Tryz.prog 221 #[.string s,.string sep] w fun e w'=>e = .returned (.tuple #[.string ⟨(Lib.cut s.data.toList sep.data.toList).1.toArray⟩,.string ⟨(Lib.cut s.data.toList sep.data.toList).2.1.toArray⟩,.bool (Lib.cut s.data.toList sep.data.toList).2.2])∧∃ n,w'=w.drewN n:=Any.strings_Cut Tryz.lays145 s sep m w hs hm
def Tryz.lays146_ren:Go.Shelf.Ren:=⟨fun | 146=>256 | 221=>284 | 268=>299 | 138=>300 | 143=>249 | 195=>312 | 197=>285 | 218=>313 | 219=>279 | 260=>301 | 217=>248 | 225=>282 | 224=>281 | 267=>298 | 266=>278 | 314=>311 | n=>n,fun | 9=>9 | 31=>48 | 3=>3 | 4=>4 | 0=>0 | 105=>265 | 21=>21 | 5=>5 | 46=>118 | 119=>291 | 139=>294 | 138=>293 | 146=>156 | 51=>155 | n=>n,fun | 1=>0 | 3=>4 | 4=>5 | n=>n⟩
theorem Tryz.lays146:Go.Proofs.Lays.n146 Tryz.prog Tryz.lays146_ren:={
  mixed:=by kernel_rfl
  f138:=Tryz.func300.trans (congrArg some (by kernel_rfl))
  f143:=Tryz.func249.trans (congrArg some (by kernel_rfl))
  f146:=Tryz.func256.trans (congrArg some (by kernel_rfl))
  f195:=Tryz.func312.trans (congrArg some (by kernel_rfl))
  f197:=Tryz.func285.trans (congrArg some (by kernel_rfl))
  f217:=Tryz.func248.trans (congrArg some (by kernel_rfl))
  f218:=Tryz.func313.trans (congrArg some (by kernel_rfl))
  f219:=Tryz.func279.trans (congrArg some (by kernel_rfl))
  f221:=Tryz.func284.trans (congrArg some (by kernel_rfl))
  f224:=Tryz.func281.trans (congrArg some (by kernel_rfl))
  f225:=Tryz.func282.trans (congrArg some (by kernel_rfl))
  f260:=Tryz.func301.trans (congrArg some (by kernel_rfl))
  f266:=Tryz.func278.trans (congrArg some (by kernel_rfl))
  f267:=Tryz.func298.trans (congrArg some (by kernel_rfl))
  f268:=Tryz.func299.trans (congrArg some (by kernel_rfl))
  f314:=Tryz.func311.trans (congrArg some (by kernel_rfl))
  t0:=Tryz.underlying0
  a0:=Tryz.isAgg0
  z0:=Tryz.sizeOf0
  v0:=Tryz.zeroValue0
  t3:=Tryz.underlying3
  a3:=Tryz.isAgg3
  z3:=Tryz.sizeOf3
  v3:=Tryz.zeroValue3
  t4:=Tryz.underlying4
  a4:=Tryz.isAgg4
  z4:=Tryz.sizeOf4
  v4:=Tryz.zeroValue4
  t5:=Tryz.underlying5
  a5:=Tryz.isAgg5
  z5:=Tryz.sizeOf5
  v5:=Tryz.zeroValue5
  t9:=Tryz.underlying9
  a9:=Tryz.isAgg9
  z9:=Tryz.sizeOf9
  v9:=Tryz.zeroValue9
  t21:=Tryz.underlying21
  a21:=Tryz.isAgg21
  z21:=Tryz.sizeOf21
  v21:=Tryz.zeroValue21
  t31:=Tryz.underlying48
  a31:=Tryz.isAgg48
  z31:=Tryz.sizeOf48
  v31:=Tryz.zeroValue48
  t46:=Tryz.underlying118
  a46:=Tryz.isAgg118
  z46:=Tryz.sizeOf118
  v46:=Tryz.zeroValue118
  t51:=Tryz.underlying155
  a51:=Tryz.isAgg155
  z51:=Tryz.sizeOf155
  v51:=Tryz.zeroValue155
  t105:=Tryz.underlying265
  a105:=Tryz.isAgg265
  z105:=Tryz.sizeOf265
  v105:=Tryz.zeroValue265
  t119:=Tryz.underlying291
  a119:=Tryz.isAgg291
  z119:=Tryz.sizeOf291
  t138:=Tryz.underlying293
  a138:=Tryz.isAgg293
  z138:=Tryz.sizeOf293
  v138:=Tryz.zeroValue293
  t139:=Tryz.underlying294
  a139:=Tryz.isAgg294
  z139:=Tryz.sizeOf294
  v139:=Tryz.zeroValue294
  t146:=Tryz.underlying156
  a146:=Tryz.isAgg156
  z146:=Tryz.sizeOf156
  v146:=Tryz.zeroValue156
  g1:=by kernel_rfl
  g3:=by kernel_rfl
  g4:=by kernel_rfl }
open Go.RowKit Go.Lib in
theorem Tryz.strings_Split (s sep:ByteArray) (m:Int) (w:World) (hs:s.size<4294967281) (hm:w.cell? ⟨0,0,none⟩=some (.int .i64 m)) (h1:1≤sep.size) :
    Calls Tryz.prog 256 #[.string s,.string sep] w fun e w' =>
      e = .returned (.slice (some ⟨w.heap.size,0,none⟩) (Lib.countB s sep+1) (Lib.countB s sep+1))∧w'=w.alloc (.cells ((Lib.splitB sep 0 (Lib.countB s sep) s).map Value.string).toArray 9):=Any.strings_Split Tryz.lays146 (by kernel_rfl) s sep m w hs hm h1
def Tryz.lays153_ren:Go.Shelf.Ren:=⟨fun | 153=>222 | 152=>251 | 226=>252 | 227=>253 | 228=>254 | 137=>219 | 119=>280 | 224=>281 | 225=>282 | 217=>248 | 266=>278 | n=>n,fun | 9=>9 | 3=>3 | 4=>4 | 5=>5 | 21=>21 | 117=>243 | 116=>242 | 0=>0 | 46=>118 | 124=>250 | n=>n,fun | n=>n⟩
theorem Tryz.lays153:Go.Proofs.Lays.n153 Tryz.prog Tryz.lays153_ren:={
  mixed:=by kernel_rfl
  f119:=Tryz.func280.trans (congrArg some (by kernel_rfl))
  f137:=Tryz.func219.trans (congrArg some (by kernel_rfl))
  f152:=Tryz.func251.trans (congrArg some (by kernel_rfl))
  f153:=Tryz.func222.trans (congrArg some (by kernel_rfl))
  f217:=Tryz.func248.trans (congrArg some (by kernel_rfl))
  f224:=Tryz.func281.trans (congrArg some (by kernel_rfl))
  f225:=Tryz.func282.trans (congrArg some (by kernel_rfl))
  f226:=Tryz.func252.trans (congrArg some (by kernel_rfl))
  f227:=Tryz.func253.trans (congrArg some (by kernel_rfl))
  f228:=Tryz.func254.trans (congrArg some (by kernel_rfl))
  f266:=Tryz.func278.trans (congrArg some (by kernel_rfl))
  t0:=Tryz.underlying0
  a0:=Tryz.isAgg0
  z0:=Tryz.sizeOf0
  v0:=Tryz.zeroValue0
  t3:=Tryz.underlying3
  a3:=Tryz.isAgg3
  z3:=Tryz.sizeOf3
  v3:=Tryz.zeroValue3
  t4:=Tryz.underlying4
  a4:=Tryz.isAgg4
  z4:=Tryz.sizeOf4
  v4:=Tryz.zeroValue4
  t5:=Tryz.underlying5
  a5:=Tryz.isAgg5
  z5:=Tryz.sizeOf5
  v5:=Tryz.zeroValue5
  t9:=Tryz.underlying9
  a9:=Tryz.isAgg9
  z9:=Tryz.sizeOf9
  v9:=Tryz.zeroValue9
  t21:=Tryz.underlying21
  a21:=Tryz.isAgg21
  z21:=Tryz.sizeOf21
  v21:=Tryz.zeroValue21
  t46:=Tryz.underlying118
  a46:=Tryz.isAgg118
  z46:=Tryz.sizeOf118
  v46:=Tryz.zeroValue118
  t116:=Tryz.underlying242
  a116:=Tryz.isAgg242
  z116:=Tryz.sizeOf242
  t117:=Tryz.underlying243
  a117:=Tryz.isAgg243
  z117:=Tryz.sizeOf243
  v117:=Tryz.zeroValue243
  t124:=Tryz.underlying250
  a124:=Tryz.isAgg250
  z124:=Tryz.sizeOf250
  v124:=Tryz.zeroValue250 }
open Go.RowKit Go.Lib in
theorem Tryz.strings_IndexAny_long (hv116:∀ w,(zeroValue 242).run Tryz.prog w = .ok (.agg (Array.replicate 256 (.bool false))) w) (s chars:ByteArray) (w:World) (h2:2≤chars.size) (h8:8<s.size) (hs:s.size<4294967281) (hcs:chars.size<4294967281) (hascii:∀ (j:Nat) b,chars.data.toList[j]? = some b→b.toNat<128) :
    Calls Tryz.prog 222 #[.string s,.string chars] w fun e w'=>e = .returned (.int .i64 (Lib.indexAny s.data.toList chars.data.toList))∧w'=((w.alloc (.cells (Lib.setCells chars.data.toList) 242)).alloc (.cells (Lib.setCells chars.data.toList) 242)):=Any.strings_IndexAny_long Tryz.lays153 hv116 (by kernel_rfl) s chars w h2 h8 hs hcs hascii
def Tryz.lClone69_ren:Go.Shelf.Ren:=⟨fun | 41=>69 | n=>n,fun | 22=>43 | 23=>84 | 4=>4 | n=>n,fun | n=>n⟩
theorem Tryz.lClone69:Go.Proofs.SlLaysE0.n41 Tryz.prog Tryz.lClone69_ren:={
  mixed:=by kernel_rfl
  f41:=⟨Tryz.f69.name,by decide,Tryz.func69.trans (congrArg some (by kernel_rfl))⟩
  t4:=Tryz.underlying4
  a4:=Tryz.isAgg4
  z4:=Tryz.sizeOf4
  v4:=Tryz.zeroValue4
  t22:=Tryz.underlying43
  a22:=Tryz.isAgg43
  z22:=Tryz.sizeOf43
  v22:=Tryz.zeroValue43 }
def Tryz.lClone78_ren:Go.Shelf.Ren:=⟨fun | 41=>78 | n=>n,fun | 22=>39 | 23=>114 | 4=>4 | n=>n,fun | n=>n⟩
theorem Tryz.lClone78:Go.Proofs.SlLaysE0.n41 Tryz.prog Tryz.lClone78_ren:={
  mixed:=by kernel_rfl
  f41:=⟨Tryz.f78.name,by decide,Tryz.func78.trans (congrArg some (by kernel_rfl))⟩
  t4:=Tryz.underlying4
  a4:=Tryz.isAgg4
  z4:=Tryz.sizeOf4
  v4:=Tryz.zeroValue4
  t22:=Tryz.underlying39
  a22:=Tryz.isAgg39
  z22:=Tryz.sizeOf39
  v22:=Tryz.zeroValue39 }
def Tryz.lClone80_ren:Go.Shelf.Ren:=⟨fun | 41=>80 | n=>n,fun | 22=>28 | 23=>27 | 4=>4 | n=>n,fun | n=>n⟩
theorem Tryz.lClone80:Go.Proofs.SlLaysE0.n41 Tryz.prog Tryz.lClone80_ren:={
  mixed:=by kernel_rfl
  f41:=⟨Tryz.f80.name,by decide,Tryz.func80.trans (congrArg some (by kernel_rfl))⟩
  t4:=Tryz.underlying4
  a4:=Tryz.isAgg4
  z4:=Tryz.sizeOf4
  v4:=Tryz.zeroValue4
  t22:=Tryz.underlying28
  a22:=Tryz.isAgg28
  z22:=Tryz.sizeOf28
  v22:=Tryz.zeroValue28 }
def Tryz.lClone115_ren:Go.Shelf.Ren:=⟨fun | 41=>115 | n=>n,fun | 22=>37 | 23=>62 | 4=>4 | n=>n,fun | n=>n⟩
theorem Tryz.lClone115:Go.Proofs.SlLaysE0.n41 Tryz.prog Tryz.lClone115_ren:={
  mixed:=by kernel_rfl
  f41:=⟨Tryz.f115.name,by decide,Tryz.func115.trans (congrArg some (by kernel_rfl))⟩
  t4:=Tryz.underlying4
  a4:=Tryz.isAgg4
  z4:=Tryz.sizeOf4
  v4:=Tryz.zeroValue4
  t22:=Tryz.underlying37
  a22:=Tryz.isAgg37
  z22:=Tryz.sizeOf37
  v22:=Tryz.zeroValue37 }
def Tryz.laysT160_ren:Go.Shelf.Ren:=⟨fun | 160=>246 | 232=>275 | 231=>259 | 227=>253 | 234=>276 | 233=>260 | 236=>277 | 235=>261 | 228=>254 | 271=>297 | 151=>286 | 197=>285 | 120=>310 | 152=>251 | 260=>301 | 137=>219 | 119=>280 | 224=>281 | 225=>282 | 217=>248 | 266=>278 | n=>n,fun | 9=>9 | 4=>4 | 3=>3 | 5=>5 | 117=>243 | 116=>242 | 0=>0 | 124=>250 | 21=>21 | 105=>265 | 46=>118 | 119=>291 | 139=>294 | 138=>293 | n=>n,fun | 3=>4 | 4=>5 | n=>n⟩
theorem Tryz.laysT160:Go.Proofs.Lays.n160 Tryz.prog Tryz.laysT160_ren:={
  mixed:=by kernel_rfl
  f119:=Tryz.func280.trans (congrArg some (by kernel_rfl))
  f120:=Tryz.func310.trans (congrArg some (by kernel_rfl))
  f137:=Tryz.func219.trans (congrArg some (by kernel_rfl))
  f151:=Tryz.func286.trans (congrArg some (by kernel_rfl))
  f152:=Tryz.func251.trans (congrArg some (by kernel_rfl))
  f160:=Tryz.func246.trans (congrArg some (by kernel_rfl))
  f197:=Tryz.func285.trans (congrArg some (by kernel_rfl))
  f217:=Tryz.func248.trans (congrArg some (by kernel_rfl))
  f224:=Tryz.func281.trans (congrArg some (by kernel_rfl))
  f225:=Tryz.func282.trans (congrArg some (by kernel_rfl))
  f227:=Tryz.func253.trans (congrArg some (by kernel_rfl))
  f228:=Tryz.func254.trans (congrArg some (by kernel_rfl))
  f231:=Tryz.func259.trans (congrArg some (by kernel_rfl))
  f232:=Tryz.func275.trans (congrArg some (by kernel_rfl))
  f233:=Tryz.func260.trans (congrArg some (by kernel_rfl))
  f234:=Tryz.func276.trans (congrArg some (by kernel_rfl))
  f235:=Tryz.func261.trans (congrArg some (by kernel_rfl))
  f236:=Tryz.func277.trans (congrArg some (by kernel_rfl))
  f260:=Tryz.func301.trans (congrArg some (by kernel_rfl))
  f266:=Tryz.func278.trans (congrArg some (by kernel_rfl))
  f271:=Tryz.func297.trans (congrArg some (by kernel_rfl))
  t0:=Tryz.underlying0
  a0:=Tryz.isAgg0
  z0:=Tryz.sizeOf0
  v0:=Tryz.zeroValue0
  t3:=Tryz.underlying3
  a3:=Tryz.isAgg3
  z3:=Tryz.sizeOf3
  v3:=Tryz.zeroValue3
  t4:=Tryz.underlying4
  a4:=Tryz.isAgg4
  z4:=Tryz.sizeOf4
  v4:=Tryz.zeroValue4
  t5:=Tryz.underlying5
  a5:=Tryz.isAgg5
  z5:=Tryz.sizeOf5
  v5:=Tryz.zeroValue5
  t9:=Tryz.underlying9
  a9:=Tryz.isAgg9
  z9:=Tryz.sizeOf9
  v9:=Tryz.zeroValue9
  t21:=Tryz.underlying21
  a21:=Tryz.isAgg21
  z21:=Tryz.sizeOf21
  v21:=Tryz.zeroValue21
  t46:=Tryz.underlying118
  a46:=Tryz.isAgg118
  z46:=Tryz.sizeOf118
  v46:=Tryz.zeroValue118
  t105:=Tryz.underlying265
  a105:=Tryz.isAgg265
  z105:=Tryz.sizeOf265
  v105:=Tryz.zeroValue265
  t116:=Tryz.underlying242
  a116:=Tryz.isAgg242
  z116:=Tryz.sizeOf242
  t117:=Tryz.underlying243
  a117:=Tryz.isAgg243
  z117:=Tryz.sizeOf243
  v117:=Tryz.zeroValue243
  t119:=Tryz.underlying291
  a119:=Tryz.isAgg291
  z119:=Tryz.sizeOf291
  t124:=Tryz.underlying250
  a124:=Tryz.isAgg250
  z124:=Tryz.sizeOf250
  v124:=Tryz.zeroValue250
  t138:=Tryz.underlying293
  a138:=Tryz.isAgg293
  z138:=Tryz.sizeOf293
  v138:=Tryz.zeroValue293
  t139:=Tryz.underlying294
  a139:=Tryz.isAgg294
  z139:=Tryz.sizeOf294
  v139:=Tryz.zeroValue294
  g3:=by kernel_rfl
  g4:=by kernel_rfl }
end Go.Proofs
