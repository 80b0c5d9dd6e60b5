/-
  DERIVED: THE SHELF's CONTRACTS AT THIS DUMP, IN PLAIN WORDS (tools/lay-plain.mjs out of 'TryzShelf.lean', which tools/lay-shelf.mjs wrote): THE SAME DECLARATIONS UNDER THE SAME NAMES: 'import', 'namespace', 'open', 'def', 'theorem' AND NOTHING ELSE: no command of the shelf's: FOR A HAND-IN. Each laying: the table of numbers ('.._ren') and one theorem, a field a fact of the dump's own or the kernel's comparison; each contract: ONE APPLICATION.
-/
import Derived.Shelf.Strings.Builder1
import Derived.Shelf.Strings.Builder2
import Derived.Shelf.Strings.OnBuilder
import Derived.Shelf.Strings.Trim
import Derived.Shelf.Small.Utf8
import Derived.Shelf.Small.Bits
import Derived.Shelf.Small.Strs
import Derived.Shelf.Strings.BuilderF
import Derived.Shelf.Strings.BuilderK
import Derived.Shelf.Utf8.RuneCount
import Derived.Shelf.Strconv.Atoi
import Derived.Shelf.Strconv.Itoa0
import Derived.Shelf.Strconv.Itoa1
import Derived.Shelf.LaysM
import Derived.Shelf.Strconv.Itoa2
import Derived.Shelf.Strconv.Itoa3
import Derived.Shelf.Strconv.Itoa4
import Derived.Shelf.Strconv.AtoiErrFast
import Derived.Shelf.Strconv.ParseIntEmpty
import Derived.Shelf.Strconv.AtoiFail
import Derived.Shelf.Strconv.Clone
import Derived.Shelf.Strconv.SyntaxError
import Derived.Shelf.LaysC
import Derived.Shelf.Strconv.ToError
import Derived.Shelf.Strconv.Lower
import Derived.Shelf.Strconv.ParseUint10
import Derived.Shelf.Strconv.ParseUint10Empty
import Derived.Shelf.Strconv.ParseUint10Any
import Derived.Shelf.Strconv.ParseInt10
import Derived.Shelf.Strconv.AtoiLong
import Derived.Shelf.Strconv.AtoiInnerAll
import Derived.Shelf.Strconv.RangeError
import Derived.Shelf.Strconv.ToErrorRange
import Derived.Shelf.Strconv.AtoiAll
import Derived.Shelf.Strconv.ErrVarAll
import Derived.Shelf.Strconv.ParseUintEmpty
import Derived.Shelf.Strconv.ParseUint10b64
import Derived.Shelf.Strconv.ParseUint10b32
import Derived.Shelf.Strconv.ParseUint10b16
import Derived.Shelf.Strconv.ParseUint10b8
import Derived.Shelf.Strconv.ParseUint10At
import Derived.Shelf.Strconv.ParseInt10At64
import Derived.Shelf.Strconv.ParseInt10At32
import Derived.Shelf.Strconv.ParseInt10At16
import Derived.Shelf.Strconv.ParseInt10At8
import Derived.Shelf.Strconv.ParseInt10All
import Derived.Shelf.Strconv.ParseIntPublic10
import Derived.Shelf.Strconv.ErrVarParseInt
import Derived.Shelf.Strings.Search1
import Derived.Shelf.Strings.Search2
import Derived.Shelf.Strings.Search3
import Derived.Shelf.Strings.Cut
import Derived.Shelf.Strings.Count
import Derived.Shelf.Strings.Shaped
import Derived.Shelf.Sort.Plain
import Derived.Ground.GgsProg
import Derived.Shelf.GgSortFunc.Insertion
import Derived.Shelf.GgSortFunc.Small
import Derived.Shelf.GgSortFunc.InsertionK
import Derived.Shelf.GgSortFunc.SmallK
import Derived.Shelf.GgSortFunc.Compose
import Derived.Shelf.GgSortFunc.LotD
import Derived.Shelf.Strings.Prefix
import Derived.Shelf.Strings.Split
import Derived.Shelf.Strings.SplitShaped
import Derived.Shelf.Unicode.Decode
import Derived.Shelf.Strings.Runes
import Derived.Shelf.Strings.RuneCount
import Derived.Shelf.Strings.AsciiSet
import Derived.Shelf.Strings.Explode
import Derived.Shelf.Unicode.DecodeSlow
import Derived.Shelf.Unicode.DecodeAny
import Derived.Shelf.Unicode.DecodeLast
import Derived.Ground.Names2Prog
import Derived.Shelf.Slices.Clone
import Derived.Shelf.Slices.In.SortNone
import Derived.Shelf.Slices.In.SortNone2
import Derived.Shelf.SlSortFunc.Xorshift
import Derived.Shelf.SlSortFuncK.ComposeK
import Derived.Shelf.SlSortFuncK.SiftDownK
import Derived.Shelf.SlSortFuncK.HeapSortK
import Derived.Shelf.SlSortFuncK.PartialInsertionK
import Derived.Shelf.SlSortFuncK.LotDK
import Derived.Shelf.SlSortFuncK.PivotK
import Derived.Shelf.SlSortFuncK.PartitionK
import Derived.Shelf.SlSortFuncK.PdqK
import Derived.Shelf.SlSortFuncK.WholeK
import Derived.Ground.SlgnProg
import Derived.Shelf.SlicesE.Clone
import Derived.Test.YtjhogocabcdjbaaGreatDoorProg
namespace Go.Proofs
open Go.Shelf
def Tryz.lays160_ren : Go.Shelf.Ren := ⟨fun | 160 => 229 | 232 => 290 | 231 => 289 | 227 => 291 | 234 => 293 | 233 => 292 | 236 => 295 | 235 => 294 | 228 => 359 | 271 => 361 | 151 => 360 | 197 => 181 | 120 => 394 | 152 => 393 | 260 => 259 | 137 => 406 | 119 => 407 | 224 => 322 | 225 => 321 | 217 => 320 | 266 => 376 | n => n, fun | 9 => 9 | 4 => 4 | 3 => 3 | 5 => 5 | 117 => 343 | 116 => 342 | 0 => 0 | 124 => 346 | 21 => 21 | 105 => 278 | 46 => 176 | 119 => 370 | 139 => 373 | 138 => 372 | n => n, fun | 3 => 5 | 4 => 6 | n => n⟩
theorem Tryz.lays160 : Go.Proofs.Lays.n160 Tryz.prog Tryz.lays160_ren := {
  mixed := by kernel_rfl
  f119 := Tryz.func407.trans (congrArg some (by kernel_rfl))
  f120 := Tryz.func394.trans (congrArg some (by kernel_rfl))
  f137 := Tryz.func406.trans (congrArg some (by kernel_rfl))
  f151 := Tryz.func360.trans (congrArg some (by kernel_rfl))
  f152 := Tryz.func393.trans (congrArg some (by kernel_rfl))
  f160 := Tryz.func229.trans (congrArg some (by kernel_rfl))
  f197 := Tryz.func181.trans (congrArg some (by kernel_rfl))
  f217 := Tryz.func320.trans (congrArg some (by kernel_rfl))
  f224 := Tryz.func322.trans (congrArg some (by kernel_rfl))
  f225 := Tryz.func321.trans (congrArg some (by kernel_rfl))
  f227 := Tryz.func291.trans (congrArg some (by kernel_rfl))
  f228 := Tryz.func359.trans (congrArg some (by kernel_rfl))
  f231 := Tryz.func289.trans (congrArg some (by kernel_rfl))
  f232 := Tryz.func290.trans (congrArg some (by kernel_rfl))
  f233 := Tryz.func292.trans (congrArg some (by kernel_rfl))
  f234 := Tryz.func293.trans (congrArg some (by kernel_rfl))
  f235 := Tryz.func294.trans (congrArg some (by kernel_rfl))
  f236 := Tryz.func295.trans (congrArg some (by kernel_rfl))
  f260 := Tryz.func259.trans (congrArg some (by kernel_rfl))
  f266 := Tryz.func376.trans (congrArg some (by kernel_rfl))
  f271 := Tryz.func361.trans (congrArg some (by kernel_rfl))
  t0 := Tryz.underlying0
  a0 := Tryz.isAgg0
  z0 := Tryz.sizeOf0
  v0 := Tryz.zeroValue0
  t3 := Tryz.underlying3
  a3 := Tryz.isAgg3
  z3 := Tryz.sizeOf3
  v3 := Tryz.zeroValue3
  t4 := Tryz.underlying4
  a4 := Tryz.isAgg4
  z4 := Tryz.sizeOf4
  v4 := Tryz.zeroValue4
  t5 := Tryz.underlying5
  a5 := Tryz.isAgg5
  z5 := Tryz.sizeOf5
  v5 := Tryz.zeroValue5
  t9 := Tryz.underlying9
  a9 := Tryz.isAgg9
  z9 := Tryz.sizeOf9
  v9 := Tryz.zeroValue9
  t21 := Tryz.underlying21
  a21 := Tryz.isAgg21
  z21 := Tryz.sizeOf21
  v21 := Tryz.zeroValue21
  t46 := Tryz.underlying176
  a46 := Tryz.isAgg176
  z46 := Tryz.sizeOf176
  v46 := Tryz.zeroValue176
  t105 := Tryz.underlying278
  a105 := Tryz.isAgg278
  z105 := Tryz.sizeOf278
  v105 := Tryz.zeroValue278
  t116 := Tryz.underlying342
  a116 := Tryz.isAgg342
  z116 := Tryz.sizeOf342
  t117 := Tryz.underlying343
  a117 := Tryz.isAgg343
  z117 := Tryz.sizeOf343
  v117 := Tryz.zeroValue343
  t119 := Tryz.underlying370
  a119 := Tryz.isAgg370
  z119 := Tryz.sizeOf370
  t124 := Tryz.underlying346
  a124 := Tryz.isAgg346
  z124 := Tryz.sizeOf346
  v124 := Tryz.zeroValue346
  t138 := Tryz.underlying372
  a138 := Tryz.isAgg372
  z138 := Tryz.sizeOf372
  v138 := Tryz.zeroValue372
  t139 := Tryz.underlying373
  a139 := Tryz.isAgg373
  z139 := Tryz.sizeOf373
  v139 := Tryz.zeroValue373
  g3 := by kernel_rfl
  g4 := by kernel_rfl }
def Tryz.lays106_ren : Go.Shelf.Ren := ⟨fun | 106 => 162 | 213 => 227 | 265 => 287 | n => n, fun | 9 => 9 | 3 => 3 | n => n, fun | n => n⟩
theorem Tryz.lays106 : Go.Proofs.Lays.n106 Tryz.prog Tryz.lays106_ren := {
  mixed := by kernel_rfl
  f106 := Tryz.func162.trans (congrArg some (by kernel_rfl))
  f213 := Tryz.func227.trans (congrArg some (by kernel_rfl))
  f265 := Tryz.func287.trans (congrArg some (by kernel_rfl))
  t3 := Tryz.underlying3
  a3 := Tryz.isAgg3
  z3 := Tryz.sizeOf3
  v3 := Tryz.zeroValue3
  t9 := Tryz.underlying9
  a9 := Tryz.isAgg9
  z9 := Tryz.sizeOf9
  v9 := Tryz.zeroValue9 }
open Go.RowKit in
theorem Tryz.strings_Compare (a b : ByteArray) (w : World) :
    Calls Tryz.prog 162 #[.string a, .string b] w fun e w' => e = .returned (.int .i64 (Lib.compareBytes a.data.toList b.data.toList)) ∧ w' = w := Any.strings_Compare Tryz.lays106 a b w
def Tryz.laysGg6_ren : Go.Shelf.Ren := ⟨fun | 6 => 92 | 10 => 166 | 11 => 167 | 12 => 168 | 13 => 169 | 14 => 170 | 24 => 239 | 25 => 240 | 26 => 241 | 27 => 242 | 28 => 243 | 29 => 244 | 30 => 245 | 31 => 246 | 32 => 247 | 33 => 248 | 34 => 296 | 35 => 297 | 36 => 298 | 37 => 299 | 38 => 300 | 39 => 362 | n => n, fun | 20 => 20 | 26 => 164 | 35 => 246 | 0 => 0 | 37 => 248 | 3 => 3 | 41 => 176 | 44 => 253 | 49 => 152 | 51 => 149 | 4 => 4 | 54 => 306 | 53 => 305 | 58 => 113 | 5 => 5 | 9 => 9 | 60 => 347 | 64 => 350 | 66 => 410 | 67 => 411 | 17 => 17 | 32 => 226 | 33 => 244 | 82 => 467 | 12 => 12 | 75 => 462 | 76 => 363 | 77 => 463 | 78 => 192 | 79 => 464 | 80 => 465 | n => n, fun | n => n⟩
theorem Tryz.laysGg6 : Go.Proofs.LaysGg.n6 Tryz.prog Tryz.laysGg6_ren := {
  mixed := by kernel_rfl
  f6 := Tryz.func92.trans (congrArg some (by kernel_rfl))
  f10 := Tryz.func166.trans (congrArg some (by kernel_rfl))
  f11 := Tryz.func167.trans (congrArg some (by kernel_rfl))
  f12 := Tryz.func168.trans (congrArg some (by kernel_rfl))
  f13 := Tryz.func169.trans (congrArg some (by kernel_rfl))
  f14 := Tryz.func170.trans (congrArg some (by kernel_rfl))
  f24 := Tryz.func239.trans (congrArg some (by kernel_rfl))
  f25 := Tryz.func240.trans (congrArg some (by kernel_rfl))
  f26 := Tryz.func241.trans (congrArg some (by kernel_rfl))
  f27 := Tryz.func242.trans (congrArg some (by kernel_rfl))
  f28 := Tryz.func243.trans (congrArg some (by kernel_rfl))
  f29 := Tryz.func244.trans (congrArg some (by kernel_rfl))
  f30 := Tryz.func245.trans (congrArg some (by kernel_rfl))
  f31 := Tryz.func246.trans (congrArg some (by kernel_rfl))
  f32 := Tryz.func247.trans (congrArg some (by kernel_rfl))
  f33 := Tryz.func248.trans (congrArg some (by kernel_rfl))
  f34 := Tryz.func296.trans (congrArg some (by kernel_rfl))
  f35 := Tryz.func297.trans (congrArg some (by kernel_rfl))
  f36 := Tryz.func298.trans (congrArg some (by kernel_rfl))
  f37 := Tryz.func299.trans (congrArg some (by kernel_rfl))
  f38 := Tryz.func300.trans (congrArg some (by kernel_rfl))
  f39 := Tryz.func362.trans (congrArg some (by kernel_rfl))
  t0 := Tryz.underlying0
  a0 := Tryz.isAgg0
  z0 := Tryz.sizeOf0
  v0 := Tryz.zeroValue0
  i0 := by kernel_rfl
  t3 := Tryz.underlying3
  a3 := Tryz.isAgg3
  z3 := Tryz.sizeOf3
  v3 := Tryz.zeroValue3
  i3 := by kernel_rfl
  t4 := Tryz.underlying4
  a4 := Tryz.isAgg4
  z4 := Tryz.sizeOf4
  v4 := Tryz.zeroValue4
  i4 := by kernel_rfl
  t5 := Tryz.underlying5
  a5 := Tryz.isAgg5
  z5 := Tryz.sizeOf5
  v5 := Tryz.zeroValue5
  i5 := by kernel_rfl
  t9 := Tryz.underlying9
  a9 := Tryz.isAgg9
  z9 := Tryz.sizeOf9
  v9 := Tryz.zeroValue9
  i9 := by kernel_rfl
  t12 := Tryz.underlying12
  a12 := Tryz.isAgg12
  z12 := Tryz.sizeOf12
  v12 := Tryz.zeroValue12
  i12 := by kernel_rfl
  t17 := Tryz.underlying17
  a17 := Tryz.isAgg17
  z17 := Tryz.sizeOf17
  v17 := Tryz.zeroValue17
  i17 := by kernel_rfl
  t20 := Tryz.underlying20
  a20 := Tryz.isAgg20
  z20 := Tryz.sizeOf20
  v20 := Tryz.zeroValue20
  i20 := by kernel_rfl
  t26 := Tryz.underlying164
  a26 := Tryz.isAgg164
  z26 := Tryz.sizeOf164
  v26 := Tryz.zeroValue164
  i26 := by kernel_rfl
  t32 := Tryz.underlying226
  a32 := Tryz.isAgg226
  z32 := Tryz.sizeOf226
  v32 := Tryz.zeroValue226
  i32 := by kernel_rfl
  t33 := Tryz.underlying244
  a33 := Tryz.isAgg244
  z33 := Tryz.sizeOf244
  v33 := Tryz.zeroValue244
  i33 := by kernel_rfl
  t35 := Tryz.underlying246
  a35 := Tryz.isAgg246
  z35 := Tryz.sizeOf246
  v35 := Tryz.zeroValue246
  i35 := by kernel_rfl
  t37 := Tryz.underlying248
  a37 := Tryz.isAgg248
  z37 := Tryz.sizeOf248
  v37 := Tryz.zeroValue248
  i37 := by kernel_rfl
  t41 := Tryz.underlying176
  a41 := Tryz.isAgg176
  z41 := Tryz.sizeOf176
  v41 := Tryz.zeroValue176
  i41 := by kernel_rfl
  t44 := Tryz.underlying253
  a44 := Tryz.isAgg253
  z44 := Tryz.sizeOf253
  v44 := Tryz.zeroValue253
  i44 := by kernel_rfl
  t49 := Tryz.underlying152
  a49 := Tryz.isAgg152
  z49 := Tryz.sizeOf152
  v49 := Tryz.zeroValue152
  i49 := by kernel_rfl
  t51 := Tryz.underlying149
  a51 := Tryz.isAgg149
  z51 := Tryz.sizeOf149
  v51 := Tryz.zeroValue149
  i51 := by kernel_rfl
  t53 := Tryz.underlying305
  a53 := Tryz.isAgg305
  z53 := Tryz.sizeOf305
  v53 := Tryz.zeroValue305
  i53 := by kernel_rfl
  t54 := Tryz.underlying306
  a54 := Tryz.isAgg306
  z54 := Tryz.sizeOf306
  v54 := Tryz.zeroValue306
  i54 := by kernel_rfl
  t58 := Tryz.underlying113
  a58 := Tryz.isAgg113
  z58 := Tryz.sizeOf113
  v58 := Tryz.zeroValue113
  i58 := by kernel_rfl
  t60 := Tryz.underlying347
  a60 := Tryz.isAgg347
  z60 := Tryz.sizeOf347
  v60 := Tryz.zeroValue347
  i60 := by kernel_rfl
  t64 := Tryz.underlying350
  a64 := Tryz.isAgg350
  z64 := Tryz.sizeOf350
  v64 := Tryz.zeroValue350
  i64 := by kernel_rfl
  t66 := Tryz.underlying410
  a66 := Tryz.isAgg410
  z66 := Tryz.sizeOf410
  v66 := Tryz.zeroValue410
  i66 := by kernel_rfl
  t67 := Tryz.underlying411
  a67 := Tryz.isAgg411
  z67 := Tryz.sizeOf411
  v67 := Tryz.zeroValue411
  i67 := by kernel_rfl
  t75 := Tryz.underlying462
  a75 := Tryz.isAgg462
  z75 := Tryz.sizeOf462
  v75 := Tryz.zeroValue462
  i75 := by kernel_rfl
  t76 := Tryz.underlying363
  a76 := Tryz.isAgg363
  z76 := Tryz.sizeOf363
  v76 := Tryz.zeroValue363
  i76 := by kernel_rfl
  t77 := Tryz.underlying463
  a77 := Tryz.isAgg463
  z77 := Tryz.sizeOf463
  v77 := Tryz.zeroValue463
  i77 := by kernel_rfl
  t78 := Tryz.underlying192
  a78 := Tryz.isAgg192
  z78 := Tryz.sizeOf192
  v78 := Tryz.zeroValue192
  i78 := by kernel_rfl
  t79 := Tryz.underlying464
  a79 := Tryz.isAgg464
  z79 := Tryz.sizeOf464
  v79 := Tryz.zeroValue464
  i79 := by kernel_rfl
  t80 := Tryz.underlying465
  a80 := Tryz.isAgg465
  z80 := Tryz.sizeOf465
  v80 := Tryz.zeroValue465
  i80 := by kernel_rfl
  t82 := Tryz.underlying467
  a82 := Tryz.isAgg467
  z82 := Tryz.sizeOf467
  v82 := Tryz.zeroValue467
  i82 := by kernel_rfl }
end Go.Proofs
