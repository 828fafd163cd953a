/-
  Parts of the proof of the law LinModel: Shelf, Bld.
-/
import Derived.Test.YtmdgeknnhckgfaaGreatDoorS01
import Derived.Test.YtmdgeknnhckgfaaGreatDoorProg
import Derived.Shelf.Strings.Builder1
import Derived.Shelf.Strings.Builder2
import Derived.Shelf.Small.Utf8
import Derived.Shelf.Small.Bits
import Derived.Shelf.Small.Wraps
import Derived.Shelf.Strings.BuilderF
import Derived.Shelf.Strings.BuilderK
import Derived.Shelf.Utf8.AppendRune
import Derived.Shelf.Utf8.AppendRunePlain
import Derived.Shelf.Strconv.Bsearch
import Derived.Shelf.Strconv.IsPrint
import Derived.Shelf.Strconv.IsPrint16
import Derived.Shelf.Strconv.IsPrint32
import Derived.Shelf.Strconv.Escaped
import Derived.Shelf.Strconv.Quoted
import Derived.Shelf.Strconv.Quote
import Derived.Shelf.Strings.Builder2Cap
import Derived.Shelf.Strconv.Itoa0
import Derived.Shelf.Strconv.Itoa1
import Derived.Shelf.LaysM
import Derived.Shelf.Strconv.Itoa2
import Derived.Shelf.Sort.Plain
import Derived.Shelf.GgClosure.StringsIndexFunc
import Derived.Ground.GgwProg
import Derived.Shelf.GgClosure.StringsIndexFuncTop
import Derived.Shelf.GgClosure.StringsRunes
import Derived.Shelf.Strings.Prefix
import Derived.Shelf.Unicode.Decode
import Derived.Shelf.Bits.Mul64
import Derived.Shelf.Strings.Repeat
import Derived.Shelf.Unicode.DecodeSlow
import Derived.Shelf.Unicode.DecodeAny
import Derived.Shelf.Strings.FuncGrows
import Derived.Shelf.Strings.BuilderCap
import Derived.Shelf.Slices.Equal
import Derived.Shelf.Slices.In.SortNone
import Derived.Shelf.Slices.Empties2
set_option linter.unusedSimpArgs false
set_option linter.unusedVariables false
namespace Go.Proofs
open Go.Shelf
def Tryz.lays169_ren:Go.Shelf.Ren:=⟨fun | 169=>92 | n=>n,fun | 70=>162 | 9=>9 | 0=>0 | 72=>164 | 37=>123 | 127=>187 | 3=>3 | 5=>5 | n=>n,fun | n=>n⟩
theorem Tryz.lays169:Go.Proofs.Lays.n169 Tryz.prog Tryz.lays169_ren:={
  mixed:=by kernel_rfl
  f169:=Tryz.func92.trans (congrArg some (by kernel_rfl))
  t0:=Tryz.underlying0
  a0:=Tryz.isAgg0
  z0:=Tryz.sizeOf0
  v0:=Tryz.zeroValue0
  t3:=Tryz.underlying3
  a3:=Tryz.isAgg3
  z3:=Tryz.sizeOf3
  v3:=Tryz.zeroValue3
  t9:=Tryz.underlying9
  a9:=Tryz.isAgg9
  z9:=Tryz.sizeOf9
  v9:=Tryz.zeroValue9
  t37:=Tryz.underlying123
  a37:=Tryz.isAgg123
  z37:=Tryz.sizeOf123
  v37:=Tryz.zeroValue123
  t70:=Tryz.underlying162
  a70:=Tryz.isAgg162
  z70:=Tryz.sizeOf162
  v70:=Tryz.zeroValue162
  t72:=Tryz.underlying164
  a72:=Tryz.isAgg164
  z72:=Tryz.sizeOf164
  v72:=Tryz.zeroValue164
  t127:=Tryz.underlying187
  a127:=Tryz.isAgg187
  z127:=Tryz.sizeOf187
  v127:=Tryz.zeroValue187 }
theorem Tryz.Builder_Extra_169:Builder.Extra Tryz.prog Tryz.lays169_ren:={
  sizeBuilder:=by kernel_rfl
  liesBuilder:=by kernel_rfl
  t5:=Tryz.underlying5
  a5:=Tryz.isAgg5
  z5:=Tryz.sizeOf5
  v5:=Tryz.zeroValue5
  infoByte:=by kernel_rfl
  cellsByte:=by kernel_rfl
  sizeByte:=by kernel_rfl
  neB5:=by decide }
def Tryz.lays122_ren:Go.Shelf.Ren:=⟨fun | 122=>69 | 215=>84 | n=>n,fun | 3=>3 | 4=>4 | n=>n,fun | n=>n⟩
theorem Tryz.lays122:Go.Proofs.Lays.n122 Tryz.prog Tryz.lays122_ren:={
  mixed:=by kernel_rfl
  f122:=Tryz.func69.trans (congrArg some (by kernel_rfl))
  f215:=Tryz.func84.trans (congrArg some (by kernel_rfl))
  t3:=Tryz.underlying3
  a3:=Tryz.isAgg3
  z3:=Tryz.sizeOf3
  v3:=Tryz.zeroValue3
  t4:=Tryz.underlying4
  a4:=Tryz.isAgg4
  z4:=Tryz.sizeOf4
  v4:=Tryz.zeroValue4 }
open Go.RowKit in
theorem Tryz.cmp_Compare_int (x y:Int) (w:World) :
    Calls Tryz.prog 69 #[.int .i64 x,.int .i64 y] w fun e w'=>e=.returned (.int .i64 (Lib.compareInt x y))∧w'=w:=Any.cmp_Compare_int Tryz.lays122 x y w
open Go.RowKit in
theorem Tryz.Builder_String_any_f (B b:Nat) (l:List UInt8) (w:World) (h:Lib.IsBuilderF 164 5 B b (Lib.byteCells l) w) (hBw:B≤w.heap.size) :
    Calls Tryz.prog 92 #[.pointer (some ⟨b,0,none⟩)] w fun e w'=>e=.returned (.string ⟨l.toArray⟩)∧(Lib.IsBuilderF 164 5 B b (Lib.byteCells l) w'∧Below B w w'):=Any.Builder_String_any_f Tryz.lays169 Tryz.Builder_Extra_169 B b l w h hBw
open Go.RowKit in
theorem Tryz.Builder_String_any_k (B b:Nat) (l:List UInt8) (w:World) (h:Lib.IsBuilderF 164 5 B b (Lib.byteCells l) w) (hBw:B≤w.heap.size) :
    Calls Tryz.prog 92 #[.pointer (some ⟨b,0,none⟩)] w fun e w'=>e=.returned (.string ⟨l.toArray⟩)∧(Lib.IsBuilderF 164 5 B b (Lib.byteCells l) w'∧Below B w w'∧Lib.OthersKept 5 (some b) w w'):=Any.Builder_String_any_k Tryz.lays169 Tryz.Builder_Extra_169 B b l w h hBw
def Tryz.lays339_ren:Go.Shelf.Ren:=⟨fun | 339=>183 | 345=>192 | 346=>193 | n=>n,fun | 21=>21 | 4=>4 | 49=>254 | 234=>255 | 131=>224 | 3=>3 | 0=>0 | 51=>176 | 236=>257 | 46=>179 | n=>n,fun | 20=>5 | 21=>6 | 22=>7 | 23=>8 | n=>n⟩
theorem Tryz.lays339:Go.Proofs.Lays.n339 Tryz.prog Tryz.lays339_ren:={
  mixed:=by kernel_rfl
  f339:=Tryz.func183.trans (congrArg some (by kernel_rfl))
  f345:=Tryz.func192.trans (congrArg some (by kernel_rfl))
  f346:=Tryz.func193.trans (congrArg some (by kernel_rfl))
  t0:=Tryz.underlying0
  a0:=Tryz.isAgg0
  z0:=Tryz.sizeOf0
  v0:=Tryz.zeroValue0
  t3:=Tryz.underlying3
  a3:=Tryz.isAgg3
  z3:=Tryz.sizeOf3
  v3:=Tryz.zeroValue3
  t4:=Tryz.underlying4
  a4:=Tryz.isAgg4
  z4:=Tryz.sizeOf4
  v4:=Tryz.zeroValue4
  t21:=Tryz.underlying21
  a21:=Tryz.isAgg21
  z21:=Tryz.sizeOf21
  v21:=Tryz.zeroValue21
  t46:=Tryz.underlying179
  a46:=Tryz.isAgg179
  z46:=Tryz.sizeOf179
  v46:=Tryz.zeroValue179
  t49:=Tryz.underlying254
  a49:=Tryz.isAgg254
  z49:=Tryz.sizeOf254
  v49:=Tryz.zeroValue254
  t51:=Tryz.underlying176
  a51:=Tryz.isAgg176
  z51:=Tryz.sizeOf176
  v51:=Tryz.zeroValue176
  t131:=Tryz.underlying224
  a131:=Tryz.isAgg224
  z131:=Tryz.sizeOf224
  v131:=Tryz.zeroValue224
  t234:=Tryz.underlying255
  a234:=Tryz.isAgg255
  z234:=Tryz.sizeOf255
  v234:=Tryz.zeroValue255
  t236:=Tryz.underlying257
  a236:=Tryz.isAgg257
  z236:=Tryz.sizeOf257
  v236:=Tryz.zeroValue257
  g20:=by kernel_rfl
  g21:=by kernel_rfl
  g22:=by kernel_rfl
  g23:=by kernel_rfl }
def Tryz.lays177_ren:Go.Shelf.Ren:=⟨fun | 177=>89 | 250=>111 | 289=>139 | 197=>167 | 323=>168 | 260=>182 | 339=>183 | 340=>184 | 242=>185 | 119=>186 | 345=>192 | 346=>193 | 278=>194 | n=>n,fun | 9=>9 | 5=>5 | 4=>4 | 3=>3 | 37=>123 | 21=>21 | 105=>138 | 46=>179 | 119=>250 | 0=>0 | 139=>253 | 138=>252 | 49=>254 | 234=>255 | 131=>224 | 51=>176 | 236=>257 | n=>n,fun | 3=>3 | 4=>4 | 20=>5 | 21=>6 | 22=>7 | 23=>8 | 24=>9 | n=>n⟩
theorem Tryz.lays177:Go.Proofs.Lays.n177 Tryz.prog Tryz.lays177_ren:={
  mixed:=by kernel_rfl
  f119:=Tryz.func186.trans (congrArg some (by kernel_rfl))
  f177:=Tryz.func89.trans (congrArg some (by kernel_rfl))
  f197:=Tryz.func167.trans (congrArg some (by kernel_rfl))
  f242:=Tryz.func185.trans (congrArg some (by kernel_rfl))
  f250:=Tryz.func111.trans (congrArg some (by kernel_rfl))
  f260:=Tryz.func182.trans (congrArg some (by kernel_rfl))
  f278:=Tryz.func194.trans (congrArg some (by kernel_rfl))
  f289:=Tryz.func139.trans (congrArg some (by kernel_rfl))
  f323:=Tryz.func168.trans (congrArg some (by kernel_rfl))
  f339:=Tryz.func183.trans (congrArg some (by kernel_rfl))
  f340:=Tryz.func184.trans (congrArg some (by kernel_rfl))
  f345:=Tryz.func192.trans (congrArg some (by kernel_rfl))
  f346:=Tryz.func193.trans (congrArg some (by kernel_rfl))
  t0:=Tryz.underlying0
  a0:=Tryz.isAgg0
  z0:=Tryz.sizeOf0
  v0:=Tryz.zeroValue0
  t3:=Tryz.underlying3
  a3:=Tryz.isAgg3
  z3:=Tryz.sizeOf3
  v3:=Tryz.zeroValue3
  t4:=Tryz.underlying4
  a4:=Tryz.isAgg4
  z4:=Tryz.sizeOf4
  v4:=Tryz.zeroValue4
  t5:=Tryz.underlying5
  a5:=Tryz.isAgg5
  z5:=Tryz.sizeOf5
  v5:=Tryz.zeroValue5
  t9:=Tryz.underlying9
  a9:=Tryz.isAgg9
  z9:=Tryz.sizeOf9
  v9:=Tryz.zeroValue9
  t21:=Tryz.underlying21
  a21:=Tryz.isAgg21
  z21:=Tryz.sizeOf21
  v21:=Tryz.zeroValue21
  t37:=Tryz.underlying123
  a37:=Tryz.isAgg123
  z37:=Tryz.sizeOf123
  v37:=Tryz.zeroValue123
  t46:=Tryz.underlying179
  a46:=Tryz.isAgg179
  z46:=Tryz.sizeOf179
  v46:=Tryz.zeroValue179
  t49:=Tryz.underlying254
  a49:=Tryz.isAgg254
  z49:=Tryz.sizeOf254
  v49:=Tryz.zeroValue254
  t51:=Tryz.underlying176
  a51:=Tryz.isAgg176
  z51:=Tryz.sizeOf176
  v51:=Tryz.zeroValue176
  t105:=Tryz.underlying138
  a105:=Tryz.isAgg138
  z105:=Tryz.sizeOf138
  v105:=Tryz.zeroValue138
  t119:=Tryz.underlying250
  a119:=Tryz.isAgg250
  z119:=Tryz.sizeOf250
  t131:=Tryz.underlying224
  a131:=Tryz.isAgg224
  z131:=Tryz.sizeOf224
  v131:=Tryz.zeroValue224
  t138:=Tryz.underlying252
  a138:=Tryz.isAgg252
  z138:=Tryz.sizeOf252
  v138:=Tryz.zeroValue252
  t139:=Tryz.underlying253
  a139:=Tryz.isAgg253
  z139:=Tryz.sizeOf253
  v139:=Tryz.zeroValue253
  t234:=Tryz.underlying255
  a234:=Tryz.isAgg255
  z234:=Tryz.sizeOf255
  v234:=Tryz.zeroValue255
  t236:=Tryz.underlying257
  a236:=Tryz.isAgg257
  z236:=Tryz.sizeOf257
  v236:=Tryz.zeroValue257
  g3:=by kernel_rfl
  g4:=by kernel_rfl
  g20:=by kernel_rfl
  g21:=by kernel_rfl
  g22:=by kernel_rfl
  g23:=by kernel_rfl
  g24:=by kernel_rfl }
open Go.RowKit in
theorem Tryz.strconv_Quote (T:Lib.PrintTabs) (s:ByteArray) (w:World) (hlen:10*s.size+12≤140737488355328) (hT:Lib.PrintTabsAt 5 6 7 8 T w) (hU:Lib.Utf8Tabs 3 4 w) :
    Calls Tryz.prog 89 #[.string s] w fun e w'=>e=.returned (.string (strOfNums (Lib.quoteZ T s)))∧Below w.heap.size w w':=Any.strconv_Quote Tryz.lays177 (by kernel_rfl) T s w hlen hT hU
def Tryz.lays283_ren:Go.Shelf.Ren:=⟨fun | 283=>135 | n=>n,fun | 3=>3 | 9=>9 | 4=>4 | n=>n,fun | n=>n⟩
theorem Tryz.lays283:Go.Proofs.Lays.n283 Tryz.prog Tryz.lays283_ren:={
  mixed:=by kernel_rfl
  f283:=Tryz.func135.trans (congrArg some (by kernel_rfl))
  t3:=Tryz.underlying3
  a3:=Tryz.isAgg3
  z3:=Tryz.sizeOf3
  v3:=Tryz.zeroValue3
  t4:=Tryz.underlying4
  a4:=Tryz.isAgg4
  z4:=Tryz.sizeOf4
  v4:=Tryz.zeroValue4
  t9:=Tryz.underlying9
  a9:=Tryz.isAgg9
  z9:=Tryz.sizeOf9
  v9:=Tryz.zeroValue9 }
open Go.Lib in
theorem Tryz.internal_strconv_small (i:Nat) (h:i<100) (w:World) :
    Calls Tryz.prog 135 #[.int .i64 i] w fun e w'=>e=.returned (.string ⟨(Lib.decDigits i).toArray⟩)∧w'=w:=Any.internal_strconv_small Tryz.lays283 i h w
def Tryz.laysM284_ren:Go.Shelf.Ren:=⟨fun | 284=>136 | 129=>161 | 317=>163 | 318=>164 | n=>n,fun | 53=>31 | 3=>3 | 212=>228 | 0=>0 | 4=>4 | 46=>179 | 5=>5 | 9=>9 | n=>n,fun | 17=>0 | n=>n⟩
theorem Tryz.laysM284:Go.Proofs.LaysM.n284 Tryz.prog Tryz.laysM284_ren:={
  mixed:=by kernel_rfl
  f129:=Tryz.func161.trans (congrArg some (by kernel_rfl))
  f284:=Tryz.func136.trans (congrArg some (by kernel_rfl))
  f317:=Tryz.func163.trans (congrArg some (by kernel_rfl))
  f318:=Tryz.func164.trans (congrArg some (by kernel_rfl))
  t0:=Tryz.underlying0
  a0:=Tryz.isAgg0
  z0:=Tryz.sizeOf0
  v0:=Tryz.zeroValue0
  t3:=Tryz.underlying3
  a3:=Tryz.isAgg3
  z3:=Tryz.sizeOf3
  v3:=Tryz.zeroValue3
  t4:=Tryz.underlying4
  a4:=Tryz.isAgg4
  z4:=Tryz.sizeOf4
  v4:=Tryz.zeroValue4
  t5:=Tryz.underlying5
  a5:=Tryz.isAgg5
  z5:=Tryz.sizeOf5
  v5:=Tryz.zeroValue5
  t9:=Tryz.underlying9
  a9:=Tryz.isAgg9
  z9:=Tryz.sizeOf9
  v9:=Tryz.zeroValue9
  t46:=Tryz.underlying179
  a46:=Tryz.isAgg179
  z46:=Tryz.sizeOf179
  v46:=Tryz.zeroValue179
  t53:=Tryz.underlying31
  a53:=Tryz.isAgg31
  z53:=Tryz.sizeOf31
  v53:=Tryz.zeroValue31
  t212:=Tryz.underlying228
  a212:=Tryz.isAgg228
  z212:=Tryz.sizeOf228
  v212:=Tryz.zeroValue228
  g17:=by kernel_rfl
  i0:=by kernel_rfl
  i3:=by kernel_rfl
  i4:=by kernel_rfl
  i5:=by kernel_rfl
  i9:=by kernel_rfl
  i46:=by kernel_rfl
  i53:=by kernel_rfl
  i212:=by kernel_rfl
  m17:=by kernel_rfl }
open Go.Lib in
theorem Tryz.internal_strconv_numDigits (u:Nat) (h1:1≤u) (h2:u<18446744073709551616) (w:World) (htab:Lib.TabIs Tryz.prog w "internal/strconv.uint64pow10" .u64 Lib.pow10Tab) :
    Calls Tryz.prog 136 #[.int .u64 u] w fun e w'=>e=.returned (.int .i64 (Lib.nDigits u))∧w'=w:=Any.internal_strconv_numDigits Tryz.laysM284 u h1 h2 w htab
def Tryz.lays285_ren:Go.Shelf.Ren:=⟨fun | 285=>137 | n=>n,fun | 37=>123 | 53=>31 | 3=>3 | 4=>4 | 51=>176 | 9=>9 | 5=>5 | 0=>0 | n=>n,fun | n=>n⟩
theorem Tryz.lays285:Go.Proofs.Lays.n285 Tryz.prog Tryz.lays285_ren:={
  mixed:=by kernel_rfl
  f285:=Tryz.func137.trans (congrArg some (by kernel_rfl))
  t0:=Tryz.underlying0
  a0:=Tryz.isAgg0
  z0:=Tryz.sizeOf0
  v0:=Tryz.zeroValue0
  t3:=Tryz.underlying3
  a3:=Tryz.isAgg3
  z3:=Tryz.sizeOf3
  v3:=Tryz.zeroValue3
  t4:=Tryz.underlying4
  a4:=Tryz.isAgg4
  z4:=Tryz.sizeOf4
  v4:=Tryz.zeroValue4
  t5:=Tryz.underlying5
  a5:=Tryz.isAgg5
  z5:=Tryz.sizeOf5
  v5:=Tryz.zeroValue5
  t9:=Tryz.underlying9
  a9:=Tryz.isAgg9
  z9:=Tryz.sizeOf9
  v9:=Tryz.zeroValue9
  t37:=Tryz.underlying123
  a37:=Tryz.isAgg123
  z37:=Tryz.sizeOf123
  v37:=Tryz.zeroValue123
  t51:=Tryz.underlying176
  a51:=Tryz.isAgg176
  z51:=Tryz.sizeOf176
  v51:=Tryz.zeroValue176
  t53:=Tryz.underlying31
  a53:=Tryz.isAgg31
  z53:=Tryz.sizeOf31
  v53:=Tryz.zeroValue31 }
open Go.RowKit Go.Sort Go.Lib in
theorem Tryz.internal_strconv_formatBase10 (blk off cap:Nat) (u:Nat) (d:Array UInt8) (w:World) (hH:Holds (fun (b:UInt8)=>Value.int .u8 (b.toNat:Int)) w blk off d) (hu:u<10 ^ d.size) (hu64:u<18446744073709551616) (hsz:d.size<4611686018427387904) :
    Calls Tryz.prog 137 #[.slice (some ⟨blk,off,none⟩) d.size cap,.int .u64 u] w fun e w' =>
      e=.returned (.tuple #[])∧∃ (n v':Nat) (dk:Array UInt8),w'=(putRow (fun (b:UInt8)=>Value.int .u8 (b.toNat:Int)) w blk off dk).drewN n∧FmtInv d.size u 0 v' dk:=Any.internal_strconv_formatBase10 Tryz.lays285 blk off cap u d w hH hu hu64 hsz
def Tryz.lays190_ren:Go.Shelf.Ren:=⟨fun | 190=>104 | 125=>130 | 258=>129 | 128=>160 | 129=>161 | 302=>151 | 303=>152 | 304=>153 | 305=>154 | 306=>155 | 307=>156 | 308=>157 | 309=>158 | 310=>159 | 333=>174 | 329=>175 | 330=>176 | 334=>177 | 335=>178 | 336=>179 | 344=>191 | n=>n,fun | 31=>32 | 9=>9 | 3=>3 | 46=>179 | 0=>0 | 51=>176 | 53=>31 | 4=>4 | 183=>219 | 182=>218 | 131=>224 | 5=>5 | 218=>234 | 222=>238 | 228=>245 | 229=>246 | n=>n,fun | n=>n⟩
theorem Tryz.lays190:Go.Proofs.Lays.n190 Tryz.prog Tryz.lays190_ren:={
  mixed:=by kernel_rfl
  f125:=Tryz.func130.trans (congrArg some (by kernel_rfl))
  f128:=Tryz.func160.trans (congrArg some (by kernel_rfl))
  f129:=Tryz.func161.trans (congrArg some (by kernel_rfl))
  f190:=Tryz.func104.trans (congrArg some (by kernel_rfl))
  f258:=Tryz.func129.trans (congrArg some (by kernel_rfl))
  f302:=Tryz.func151.trans (congrArg some (by kernel_rfl))
  f303:=Tryz.func152.trans (congrArg some (by kernel_rfl))
  f304:=Tryz.func153.trans (congrArg some (by kernel_rfl))
  f305:=Tryz.func154.trans (congrArg some (by kernel_rfl))
  f306:=Tryz.func155.trans (congrArg some (by kernel_rfl))
  f307:=Tryz.func156.trans (congrArg some (by kernel_rfl))
  f308:=Tryz.func157.trans (congrArg some (by kernel_rfl))
  f309:=Tryz.func158.trans (congrArg some (by kernel_rfl))
  f310:=Tryz.func159.trans (congrArg some (by kernel_rfl))
  f329:=Tryz.func175.trans (congrArg some (by kernel_rfl))
  f330:=Tryz.func176.trans (congrArg some (by kernel_rfl))
  f333:=Tryz.func174.trans (congrArg some (by kernel_rfl))
  f334:=Tryz.func177.trans (congrArg some (by kernel_rfl))
  f335:=Tryz.func178.trans (congrArg some (by kernel_rfl))
  f336:=Tryz.func179.trans (congrArg some (by kernel_rfl))
  f344:=Tryz.func191.trans (congrArg some (by kernel_rfl))
  t0:=Tryz.underlying0
  a0:=Tryz.isAgg0
  z0:=Tryz.sizeOf0
  v0:=Tryz.zeroValue0
  t3:=Tryz.underlying3
  a3:=Tryz.isAgg3
  z3:=Tryz.sizeOf3
  v3:=Tryz.zeroValue3
  t4:=Tryz.underlying4
  a4:=Tryz.isAgg4
  z4:=Tryz.sizeOf4
  v4:=Tryz.zeroValue4
  t5:=Tryz.underlying5
  a5:=Tryz.isAgg5
  z5:=Tryz.sizeOf5
  v5:=Tryz.zeroValue5
  t9:=Tryz.underlying9
  a9:=Tryz.isAgg9
  z9:=Tryz.sizeOf9
  v9:=Tryz.zeroValue9
  t31:=Tryz.underlying32
  a31:=Tryz.isAgg32
  z31:=Tryz.sizeOf32
  v31:=Tryz.zeroValue32
  t46:=Tryz.underlying179
  a46:=Tryz.isAgg179
  z46:=Tryz.sizeOf179
  v46:=Tryz.zeroValue179
  t51:=Tryz.underlying176
  a51:=Tryz.isAgg176
  z51:=Tryz.sizeOf176
  v51:=Tryz.zeroValue176
  t53:=Tryz.underlying31
  a53:=Tryz.isAgg31
  z53:=Tryz.sizeOf31
  v53:=Tryz.zeroValue31
  t131:=Tryz.underlying224
  a131:=Tryz.isAgg224
  z131:=Tryz.sizeOf224
  v131:=Tryz.zeroValue224
  t182:=Tryz.underlying218
  a182:=Tryz.isAgg218
  z182:=Tryz.sizeOf218
  v182:=Tryz.zeroValue218
  t183:=Tryz.underlying219
  a183:=Tryz.isAgg219
  z183:=Tryz.sizeOf219
  v183:=Tryz.zeroValue219
  t218:=Tryz.underlying234
  a218:=Tryz.isAgg234
  z218:=Tryz.sizeOf234
  v218:=Tryz.zeroValue234
  t222:=Tryz.underlying238
  a222:=Tryz.isAgg238
  z222:=Tryz.sizeOf238
  v222:=Tryz.zeroValue238
  t228:=Tryz.underlying245
  a228:=Tryz.isAgg245
  z228:=Tryz.sizeOf245
  v228:=Tryz.zeroValue245
  t229:=Tryz.underlying246
  a229:=Tryz.isAgg246
  z229:=Tryz.sizeOf246
  v229:=Tryz.zeroValue246 }
open Go.Sort Go.RowKit in
theorem Tryz.slices_Sort_string (blk off cap:Nat) (ss:List (List UInt8)) (w:World) (hH:Holds encStr w blk off ss.toArray) (hblk:blk<w.heap.size) (hsz:ss.length<4611686018427387904) :
    Calls Tryz.prog 104 #[.slice (some ⟨blk,off,none⟩) ss.length cap] w fun e w' =>
      e=.returned (.tuple #[])∧∃ n os,w'=grow (putRow encStr (Sort.ahead w n) blk off (ss.mergeSort fun x y=>decide (x≤y)).toArray) os:=Any.slices_Sort_string Tryz.lays190 blk off cap ss w hH hblk hsz
def Tryz.laysGw17_ren:Go.Shelf.Ren:=⟨fun | 17=>142 | 15=>169 | 20=>187 | n=>n,fun | 9=>9 | 23=>213 | 4=>4 | 3=>3 | 0=>0 | 21=>21 | n=>n,fun | n=>n⟩
theorem Tryz.laysGw17:Go.Proofs.LaysGw.n17 Tryz.prog Tryz.laysGw17_ren:={
  mixed:=by kernel_rfl
  f15:=Tryz.func169.trans (congrArg some (by kernel_rfl))
  f17:=Tryz.func142.trans (congrArg some (by kernel_rfl))
  f20:=Tryz.func187.trans (congrArg some (by kernel_rfl))
  t0:=Tryz.underlying0
  a0:=Tryz.isAgg0
  z0:=Tryz.sizeOf0
  v0:=Tryz.zeroValue0
  i0:=by kernel_rfl
  t3:=Tryz.underlying3
  a3:=Tryz.isAgg3
  z3:=Tryz.sizeOf3
  v3:=Tryz.zeroValue3
  i3:=by kernel_rfl
  t4:=Tryz.underlying4
  a4:=Tryz.isAgg4
  z4:=Tryz.sizeOf4
  v4:=Tryz.zeroValue4
  i4:=by kernel_rfl
  t9:=Tryz.underlying9
  a9:=Tryz.isAgg9
  z9:=Tryz.sizeOf9
  v9:=Tryz.zeroValue9
  i9:=by kernel_rfl
  t21:=Tryz.underlying21
  a21:=Tryz.isAgg21
  z21:=Tryz.sizeOf21
  v21:=Tryz.zeroValue21
  i21:=by kernel_rfl
  t23:=Tryz.underlying213
  a23:=Tryz.isAgg213
  z23:=Tryz.sizeOf213
  v23:=Tryz.zeroValue213
  i23:=by kernel_rfl }
open Go.RowKit Go.Lib in
theorem Tryz.strings_ContainsFunc_runes (g:Nat) (lb:Array Value) (eg:∀ args w,(callFunc g args).run Tryz.prog w=.ok (.enter g args) w) (p:Nat→Bool) (s:ByteArray) (w:World) (hp:PredAtRunes Tryz.prog g lb p w) :
    Calls Tryz.prog 142 #[.string s,.func (.func g) #[] lb] w fun e w'=>e=.returned (.bool (decide (0≤Lib.idxFunc p true s)))∧Below w.heap.size w w':=Any.strings_ContainsFunc_runes Tryz.laysGw17 g lb eg p s w hp
def Tryz.lays105_ren:Go.Shelf.Ren:=⟨fun | 105=>198 | 212=>201 | 99=>202 | 165=>203 | 166=>86 | 170=>204 | 169=>92 | 263=>206 | 264=>207 | 206=>208 | 240=>109 | 241=>209 | 276=>134 | 277=>210 | n=>n,fun | 9=>9 | 3=>3 | 4=>4 | 20=>20 | 0=>0 | 46=>179 | 109=>265 | 5=>5 | 72=>164 | 76=>167 | 51=>176 | 146=>269 | 53=>31 | 148=>271 | 70=>162 | 37=>123 | 75=>166 | 127=>187 | 164=>200 | 80=>172 | n=>n,fun | n=>n⟩
theorem Tryz.lays105:Go.Proofs.Lays.n105 Tryz.prog Tryz.lays105_ren:={
  mixed:=by kernel_rfl
  f99:=Tryz.func202.trans (congrArg some (by kernel_rfl))
  f105:=Tryz.func198.trans (congrArg some (by kernel_rfl))
  f165:=Tryz.func203.trans (congrArg some (by kernel_rfl))
  f166:=Tryz.func86.trans (congrArg some (by kernel_rfl))
  f169:=Tryz.func92.trans (congrArg some (by kernel_rfl))
  f170:=Tryz.func204.trans (congrArg some (by kernel_rfl))
  f206:=Tryz.func208.trans (congrArg some (by kernel_rfl))
  f212:=Tryz.func201.trans (congrArg some (by kernel_rfl))
  f240:=Tryz.func109.trans (congrArg some (by kernel_rfl))
  f241:=Tryz.func209.trans (congrArg some (by kernel_rfl))
  f263:=Tryz.func206.trans (congrArg some (by kernel_rfl))
  f264:=Tryz.func207.trans (congrArg some (by kernel_rfl))
  f276:=Tryz.func134.trans (congrArg some (by kernel_rfl))
  f277:=Tryz.func210.trans (congrArg some (by kernel_rfl))
  t0:=Tryz.underlying0
  a0:=Tryz.isAgg0
  z0:=Tryz.sizeOf0
  v0:=Tryz.zeroValue0
  t3:=Tryz.underlying3
  a3:=Tryz.isAgg3
  z3:=Tryz.sizeOf3
  v3:=Tryz.zeroValue3
  t4:=Tryz.underlying4
  a4:=Tryz.isAgg4
  z4:=Tryz.sizeOf4
  v4:=Tryz.zeroValue4
  t5:=Tryz.underlying5
  a5:=Tryz.isAgg5
  z5:=Tryz.sizeOf5
  v5:=Tryz.zeroValue5
  t9:=Tryz.underlying9
  a9:=Tryz.isAgg9
  z9:=Tryz.sizeOf9
  v9:=Tryz.zeroValue9
  t20:=Tryz.underlying20
  a20:=Tryz.isAgg20
  z20:=Tryz.sizeOf20
  v20:=Tryz.zeroValue20
  t37:=Tryz.underlying123
  a37:=Tryz.isAgg123
  z37:=Tryz.sizeOf123
  v37:=Tryz.zeroValue123
  t46:=Tryz.underlying179
  a46:=Tryz.isAgg179
  z46:=Tryz.sizeOf179
  v46:=Tryz.zeroValue179
  t51:=Tryz.underlying176
  a51:=Tryz.isAgg176
  z51:=Tryz.sizeOf176
  v51:=Tryz.zeroValue176
  t53:=Tryz.underlying31
  a53:=Tryz.isAgg31
  z53:=Tryz.sizeOf31
  v53:=Tryz.zeroValue31
  t70:=Tryz.underlying162
  a70:=Tryz.isAgg162
  z70:=Tryz.sizeOf162
  v70:=Tryz.zeroValue162
  t72:=Tryz.underlying164
  a72:=Tryz.isAgg164
  z72:=Tryz.sizeOf164
  v72:=Tryz.zeroValue164
  t75:=Tryz.underlying166
  a75:=Tryz.isAgg166
  z75:=Tryz.sizeOf166
  v75:=Tryz.zeroValue166
  t76:=Tryz.underlying167
  a76:=Tryz.isAgg167
  z76:=Tryz.sizeOf167
  v76:=Tryz.zeroValue167
  t109:=Tryz.underlying265
  a109:=Tryz.isAgg265
  z109:=Tryz.sizeOf265
  v109:=Tryz.zeroValue265
  t127:=Tryz.underlying187
  a127:=Tryz.isAgg187
  z127:=Tryz.sizeOf187
  v127:=Tryz.zeroValue187
  t146:=Tryz.underlying269
  a146:=Tryz.isAgg269
  z146:=Tryz.sizeOf269
  v146:=Tryz.zeroValue269
  t148:=Tryz.underlying271
  a148:=Tryz.isAgg271
  z148:=Tryz.sizeOf271
  v148:=Tryz.zeroValue271
  t164:=Tryz.underlying200
  a164:=Tryz.isAgg200
  z164:=Tryz.sizeOf200
  v164:=Tryz.zeroValue200 }
theorem Tryz.Builder_Extra_105:Builder.Extra Tryz.prog Tryz.lays105_ren:={
  sizeBuilder:=by kernel_rfl
  liesBuilder:=by kernel_rfl
  t5:=Tryz.underlying5
  a5:=Tryz.isAgg5
  z5:=Tryz.sizeOf5
  v5:=Tryz.zeroValue5
  infoByte:=by kernel_rfl
  cellsByte:=by kernel_rfl
  sizeByte:=by kernel_rfl
  neB5:=by decide }
open Go.RowKit Go.Lib in
theorem Tryz.strings_Repeat (s:ByteArray) (c:Nat) (w:World) (hc:c≤9223372036854775807) (hlen:s.size*c≤140737488355328) :
    Calls Tryz.prog 198 #[.string s,.int .i64 c] w fun e w'=>e=.returned (.string ⟨(Lib.repeatL s.data.toList c).toArray⟩)∧Below w.heap.size w w':=Any.strings_Repeat Tryz.lays105 Tryz.Builder_Extra_105 s c w hc hlen
def Tryz.lays260_ren:Go.Shelf.Ren:=⟨fun | 260=>182 | n=>n,fun | 9=>9 | 21=>21 | 3=>3 | 4=>4 | 5=>5 | 119=>250 | 0=>0 | 46=>179 | 139=>253 | 138=>252 | n=>n,fun | 3=>3 | 4=>4 | n=>n⟩
theorem Tryz.lays260:Go.Proofs.Lays.n260 Tryz.prog Tryz.lays260_ren:={
  mixed:=by kernel_rfl
  f260:=Tryz.func182.trans (congrArg some (by kernel_rfl))
  t0:=Tryz.underlying0
  a0:=Tryz.isAgg0
  z0:=Tryz.sizeOf0
  v0:=Tryz.zeroValue0
  t3:=Tryz.underlying3
  a3:=Tryz.isAgg3
  z3:=Tryz.sizeOf3
  v3:=Tryz.zeroValue3
  t4:=Tryz.underlying4
  a4:=Tryz.isAgg4
  z4:=Tryz.sizeOf4
  v4:=Tryz.zeroValue4
  t5:=Tryz.underlying5
  a5:=Tryz.isAgg5
  z5:=Tryz.sizeOf5
  v5:=Tryz.zeroValue5
  t9:=Tryz.underlying9
  a9:=Tryz.isAgg9
  z9:=Tryz.sizeOf9
  v9:=Tryz.zeroValue9
  t21:=Tryz.underlying21
  a21:=Tryz.isAgg21
  z21:=Tryz.sizeOf21
  v21:=Tryz.zeroValue21
  t46:=Tryz.underlying179
  a46:=Tryz.isAgg179
  z46:=Tryz.sizeOf179
  v46:=Tryz.zeroValue179
  t119:=Tryz.underlying250
  a119:=Tryz.isAgg250
  z119:=Tryz.sizeOf250
  t138:=Tryz.underlying252
  a138:=Tryz.isAgg252
  z138:=Tryz.sizeOf252
  v138:=Tryz.zeroValue252
  t139:=Tryz.underlying253
  a139:=Tryz.isAgg253
  z139:=Tryz.sizeOf253
  v139:=Tryz.zeroValue253
  g3:=by kernel_rfl
  g4:=by kernel_rfl }
open Go.RowKit Go.Sort in
theorem Tryz.slices_Sort_string_none (p:Option Addr) (cap:Nat) (w:World) :
    Calls Tryz.prog 104 #[.slice p 0 cap] w fun e w'=>e=.returned (.tuple #[])∧w'=w:=Any.slices_Sort_string_none Tryz.lays190 p cap w
def Tryz.lays167b_ren:Go.Shelf.Ren:=⟨fun | 167=>173 | 240=>109 | 276=>134 | n=>n,fun | 9=>9 | 3=>3 | 4=>4 | 20=>20 | 0=>0 | 5=>5 | 72=>164 | 70=>162 | 37=>123 | 75=>166 | 164=>200 | 80=>172 | n=>n,fun | n=>n⟩
theorem Tryz.lays167b:Go.Proofs.Lays.n167 Tryz.prog Tryz.lays167b_ren:={
  mixed:=by kernel_rfl
  f167:=Tryz.func173.trans (congrArg some (by kernel_rfl))
  f240:=Tryz.func109.trans (congrArg some (by kernel_rfl))
  f276:=Tryz.func134.trans (congrArg some (by kernel_rfl))
  t0:=Tryz.underlying0
  a0:=Tryz.isAgg0
  z0:=Tryz.sizeOf0
  v0:=Tryz.zeroValue0
  t4:=Tryz.underlying4
  a4:=Tryz.isAgg4
  z4:=Tryz.sizeOf4
  v4:=Tryz.zeroValue4
  t5:=Tryz.underlying5
  a5:=Tryz.isAgg5
  z5:=Tryz.sizeOf5
  v5:=Tryz.zeroValue5
  t9:=Tryz.underlying9
  a9:=Tryz.isAgg9
  z9:=Tryz.sizeOf9
  v9:=Tryz.zeroValue9
  t20:=Tryz.underlying20
  a20:=Tryz.isAgg20
  z20:=Tryz.sizeOf20
  v20:=Tryz.zeroValue20
  t37:=Tryz.underlying123
  a37:=Tryz.isAgg123
  z37:=Tryz.sizeOf123
  v37:=Tryz.zeroValue123
  t70:=Tryz.underlying162
  a70:=Tryz.isAgg162
  z70:=Tryz.sizeOf162
  v70:=Tryz.zeroValue162
  t72:=Tryz.underlying164
  a72:=Tryz.isAgg164
  z72:=Tryz.sizeOf164
  v72:=Tryz.zeroValue164
  t75:=Tryz.underlying166
  a75:=Tryz.isAgg166
  z75:=Tryz.sizeOf166
  v75:=Tryz.zeroValue166
  t164:=Tryz.underlying200
  a164:=Tryz.isAgg200
  z164:=Tryz.sizeOf200
  v164:=Tryz.zeroValue200 }
theorem Tryz.Builder_Extra_167b:Builder.Extra Tryz.prog Tryz.lays167b_ren:={
  sizeBuilder:=by kernel_rfl
  liesBuilder:=by kernel_rfl
  t5:=Tryz.underlying5
  a5:=Tryz.isAgg5
  z5:=Tryz.sizeOf5
  v5:=Tryz.zeroValue5
  infoByte:=by kernel_rfl
  cellsByte:=by kernel_rfl
  sizeByte:=by kernel_rfl
  neB5:=by decide }
open Go.RowKit Go.Lib in
theorem Tryz.bld_WriteByte (B b:Nat) (bs:List Value) (c:Int) (w:World) (h:Lib.IsBuilderF 164 5 B b bs w) (hlen:bs.length+1≤140737488355328) (hBw:B≤w.heap.size) :
    Calls Tryz.prog 173 #[.pointer (some ⟨b,0,none⟩),.int .u8 c] w fun e w'=>e=.returned .nilIface∧(Lib.BuilderAtF 164 5 B b (.pointer (some ⟨b,0,none⟩)) (bs++[.int .u8 c]) w'∧Below B w w'∧Lib.OthersKept 5 (some b) w w'):=Any.Builder_WriteByte_k Tryz.lays167b Tryz.Builder_Extra_167b B b bs c w h hlen hBw
open Go.RowKit Go.Lib in
theorem Tryz.bld_WriteString (B b:Nat) (bs:List Value) (s:ByteArray) (w:World) (h:Lib.IsBuilderF 164 5 B b bs w) (hlen:bs.length+s.size≤140737488355328) (hBw:B≤w.heap.size) :
    Calls Tryz.prog 86 #[.pointer (some ⟨b,0,none⟩),.string s] w fun e w'=>e=.returned (.tuple #[.int .i64 s.size,.nilIface])∧(Lib.BuilderAtF 164 5 B b (.pointer (some ⟨b,0,none⟩)) (bs++Lib.strCells s) w'∧Below B w w'∧Lib.OthersKept 5 (some b) w w'):=Any.Builder_WriteString_k { Tryz.lays105 with } Tryz.Builder_Extra_105 B b bs s w h hlen hBw
end Go.Proofs
