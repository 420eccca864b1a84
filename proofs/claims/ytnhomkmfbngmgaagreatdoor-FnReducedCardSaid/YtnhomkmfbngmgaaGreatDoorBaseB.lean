/-
  Lemmas that the law of this claim leans on. Conditions: sizes.
-/
import Derived.Test.YtnhomkmfbngmgaaGreatDoorBaseA
import Derived.Shelf.Strings.Builder1
import Derived.Shelf.Strings.Builder2
import Derived.Shelf.Strings.OnBuilder
import Derived.Shelf.Small.Bits
import Derived.Shelf.Small.Strs
import Derived.Shelf.Strings.BuilderF
import Derived.Shelf.Strings.BuilderK
import Derived.Shelf.Utf8.RuneCount
import Derived.Shelf.Strconv.Itoa0
import Derived.Shelf.Strconv.Itoa1
import Derived.Shelf.LaysM
import Derived.Shelf.Strconv.Itoa2
import Derived.Shelf.Strconv.Itoa3
import Derived.Shelf.Strconv.Itoa4
import Derived.Shelf.Strconv.ParseIntEmpty
import Derived.Shelf.Strconv.Clone
import Derived.Shelf.Strconv.SyntaxError
import Derived.Shelf.LaysC
import Derived.Shelf.Strconv.ToError
import Derived.Shelf.Strconv.Lower
import Derived.Shelf.Strconv.ParseUint10
import Derived.Shelf.Strconv.ParseUint10Empty
import Derived.Shelf.Strconv.ParseUint10Any
import Derived.Shelf.Strconv.ParseInt10
import Derived.Shelf.Strconv.RangeError
import Derived.Shelf.Strconv.ToErrorRange
import Derived.Shelf.Strconv.ParseUintEmpty
import Derived.Shelf.Strconv.ParseUint10b64
import Derived.Shelf.Strconv.ParseUint10b32
import Derived.Shelf.Strconv.ParseUint10b16
import Derived.Shelf.Strconv.ParseUint10b8
import Derived.Shelf.Strconv.ParseUint10At
import Derived.Shelf.Strconv.ParseInt10At64
import Derived.Shelf.Strconv.ParseInt10At32
import Derived.Shelf.Strconv.ParseInt10At16
import Derived.Shelf.Strconv.ParseInt10At8
import Derived.Shelf.Strconv.ParseInt10All
import Derived.Shelf.Strconv.ParseIntPublic10
import Derived.Shelf.Strconv.ErrVarParseInt
import Derived.Shelf.Strings.Search1
import Derived.Shelf.Strings.Search2
import Derived.Shelf.Strings.Search3
import Derived.Shelf.Strings.Cut
import Derived.Shelf.Strings.Count
import Derived.Shelf.Strings.Shaped
import Derived.Shelf.Strings.Prefix
import Derived.Shelf.Strings.Split
import Derived.Shelf.Strings.SplitShaped
import Derived.Shelf.Unicode.Decode
import Derived.Shelf.Strings.RuneCount
import Derived.Shelf.Strings.Explode
import Derived.Shelf.Bits.Mul64
import Derived.Shelf.Unicode.DecodeSlow
import Derived.Shelf.Unicode.DecodeAny
import Derived.Shelf.Slices.Turned
import Derived.Shelf.Slices.Equal
import Derived.Ground.Names2Prog
import Derived.Shelf.Slices.Clone
import Derived.Shelf.Slices.CompactS
import Derived.Shelf.Slices.Cells
import Derived.Shelf.Slices.Empties2
import Derived.Ground.SlgnProg
import Derived.Shelf.SlicesG.Turned
import Derived.Shelf.SlicesG.Clone
import Derived.Shelf.SlicesG.CompactI
import Derived.Shelf.SlicesG.SearchI
import Derived.Shelf.SlicesG.Cells
import Derived.Shelf.SlicesE.Clone
import Derived.Ground.SlgcProg
import Derived.Shelf.SlicesG.Cmp
import Derived.Ground.SlsfProg
import Derived.Shelf.SlSortCmp.Insertion
import Derived.Ground.SlgmProg
import Derived.Shelf.SortM.Plain
import Derived.Shelf.SortM.SortNone
import Derived.Shelf.SlSortCmp.SiftDown1
import Derived.Shelf.SlSortCmp.HeapSort1
import Derived.Shelf.SlSortCmp.Insertion1
import Derived.Shelf.SlSortCmp.Median1
import Derived.Shelf.SlSortCmp.Pivot1
import Derived.Shelf.SlSortCmp.ReverseRange1
import Derived.Shelf.SlSortCmp.PartialInsertion1
import Derived.Shelf.SlSortCmp.PartitionEqual1
import Derived.Shelf.SlSortCmp.Partition1
import Derived.Shelf.SlSortCmp.Pdq1
import Derived.Shelf.SlSortCmp.Whole1
import Derived.Test.YtnhomkmfbngmgaaGreatDoorProg
import Derived.Lib.ParseIntB
import Derived.Lib.ItoaNum
import Derived.Lib.Strings
import Derived.Lib.Split
import Derived.Lib.Join
import Derived.StillTailTactics
import Derived.Outline
import Derived.IntWalk
import Derived.Lib.AppendIntMem
import Derived.WalkSmall
import Derived.Deep.RegionLaw
import Derived.Lib.ItoaLen
set_option maxHeartbeats 800000
set_option maxRecDepth 100000
set_option linter.unusedSimpArgs false
set_option linter.unusedVariables false
namespace Go.Proofs
open Go.Shelf
def Tryz.lays156_ren : Go.Shelf.Ren := ⟨fun | 156 => 123 | 165 => 217 | 166 => 218 | 169 => 219 | 240 => 275 | 241 => 276 | 276 => 333 | 277 => 334 | n => n, fun | 31 => 24 | 9 => 9 | 3 => 3 | 4 => 4 | 0 => 0 | 20 => 20 | 72 => 234 | 76 => 236 | 70 => 232 | 37 => 22 | 75 => 224 | 127 => 277 | 164 => 320 | 5 => 5 | 80 => 238 | n => n, fun | n => n⟩
theorem Tryz.lays156 : Go.Proofs.Lays.n156 Tryz.prog Tryz.lays156_ren := {
 mixed := by kernel_rfl
 f156 := Tryz.func123.trans (congrArg some (by kernel_rfl))
 f165 := Tryz.func217.trans (congrArg some (by kernel_rfl))
 f166 := Tryz.func218.trans (congrArg some (by kernel_rfl))
 f169 := Tryz.func219.trans (congrArg some (by kernel_rfl))
 f240 := Tryz.func275.trans (congrArg some (by kernel_rfl))
 f241 := Tryz.func276.trans (congrArg some (by kernel_rfl))
 f276 := Tryz.func333.trans (congrArg some (by kernel_rfl))
 f277 := Tryz.func334.trans (congrArg some (by kernel_rfl))
 t0 := Tryz.underlying0
 a0 := Tryz.isAgg0
 z0 := Tryz.sizeOf0
 v0 := Tryz.zeroValue0
 t3 := Tryz.underlying3
 a3 := Tryz.isAgg3
 z3 := Tryz.sizeOf3
 v3 := Tryz.zeroValue3
 t4 := Tryz.underlying4
 a4 := Tryz.isAgg4
 z4 := Tryz.sizeOf4
 v4 := Tryz.zeroValue4
 t9 := Tryz.underlying9
 a9 := Tryz.isAgg9
 z9 := Tryz.sizeOf9
 v9 := Tryz.zeroValue9
 t20 := Tryz.underlying20
 a20 := Tryz.isAgg20
 z20 := Tryz.sizeOf20
 v20 := Tryz.zeroValue20
 t31 := Tryz.underlying24
 a31 := Tryz.isAgg24
 z31 := Tryz.sizeOf24
 v31 := Tryz.zeroValue24
 t37 := Tryz.underlying22
 a37 := Tryz.isAgg22
 z37 := Tryz.sizeOf22
 v37 := Tryz.zeroValue22
 t70 := Tryz.underlying232
 a70 := Tryz.isAgg232
 z70 := Tryz.sizeOf232
 v70 := Tryz.zeroValue232
 t72 := Tryz.underlying234
 a72 := Tryz.isAgg234
 z72 := Tryz.sizeOf234
 v72 := Tryz.zeroValue234
 t75 := Tryz.underlying224
 a75 := Tryz.isAgg224
 z75 := Tryz.sizeOf224
 v75 := Tryz.zeroValue224
 t76 := Tryz.underlying236
 a76 := Tryz.isAgg236
 z76 := Tryz.sizeOf236
 v76 := Tryz.zeroValue236
 t127 := Tryz.underlying277
 a127 := Tryz.isAgg277
 z127 := Tryz.sizeOf277
 v127 := Tryz.zeroValue277
 t164 := Tryz.underlying320
 a164 := Tryz.isAgg320
 z164 := Tryz.sizeOf320
 v164 := Tryz.zeroValue320 }
theorem Tryz.Builder_Extra_156 : Builder.Extra Tryz.prog Tryz.lays156_ren := {
 sizeBuilder := by kernel_rfl
 liesBuilder := by kernel_rfl
 t5 := Tryz.underlying5
 a5 := Tryz.isAgg5
 z5 := Tryz.sizeOf5
 v5 := Tryz.zeroValue5
 infoByte := by kernel_rfl
 cellsByte := by kernel_rfl
 sizeByte := by kernel_rfl
 neB5 := by decide }
open Go.RowKit in
theorem Tryz.strings_Join (bk o c : Nat) (xs : List ByteArray) (sep : ByteArray) (w : World) (hcells : ∀ (j : Nat) x, xs[j]? = some x → w.cell? ⟨bk, o + j, none⟩ = some (.string x)) (hbk : bk < w.heap.size) (hN : xs.length ≤ 140737488355328) (hcap : xs.length ≤ c) (hlen : (Lib.join (xs.map (·.data.toList)) sep.data.toList).length ≤ 140737488355328) :
  Calls Tryz.prog 123 #[.slice (some ⟨bk, o, none⟩) xs.length c, .string sep] w fun e w' => e = .returned (.string ⟨(Lib.join (xs.map (·.data.toList)) sep.data.toList).toArray⟩) ∧ Below w.heap.size w w' := Any.strings_Join Tryz.lays156 Tryz.Builder_Extra_156 bk o c xs sep w hcells hbk hN hcap hlen
def Tryz.laysM173_ren : Go.Shelf.Ren := ⟨fun | 173 => 124 | 246 => 220 | 283 => 277 | 284 => 278 | 285 => 279 | 286 => 280 | 129 => 290 | 317 => 335 | 318 => 336 | 319 => 337 | 320 => 338 | 337 => 372 | 338 => 373 | n => n, fun | 2 => 2 | 3 => 3 | 9 => 9 | 4 => 4 | 171 => 278 | 0 => 0 | 53 => 137 | 37 => 22 | 5 => 5 | 173 => 281 | 212 => 324 | 51 => 292 | 20 => 20 | 213 => 325 | 46 => 243 | 232 => 363 | 233 => 364 | n => n, fun | 17 => 1 | 18 => 6 | 19 => 7 | n => n⟩
theorem Tryz.laysM173 : Go.Proofs.LaysM.n173 Tryz.prog Tryz.laysM173_ren := {
 mixed := by kernel_rfl
 f129 := Tryz.func290.trans (congrArg some (by kernel_rfl))
 f173 := Tryz.func124.trans (congrArg some (by kernel_rfl))
 f246 := Tryz.func220.trans (congrArg some (by kernel_rfl))
 f283 := Tryz.func277.trans (congrArg some (by kernel_rfl))
 f284 := Tryz.func278.trans (congrArg some (by kernel_rfl))
 f285 := Tryz.func279.trans (congrArg some (by kernel_rfl))
 f286 := Tryz.func280.trans (congrArg some (by kernel_rfl))
 f317 := Tryz.func335.trans (congrArg some (by kernel_rfl))
 f318 := Tryz.func336.trans (congrArg some (by kernel_rfl))
 f319 := Tryz.func337.trans (congrArg some (by kernel_rfl))
 f320 := Tryz.func338.trans (congrArg some (by kernel_rfl))
 f337 := Tryz.func372.trans (congrArg some (by kernel_rfl))
 f338 := Tryz.func373.trans (congrArg some (by kernel_rfl))
 t0 := Tryz.underlying0
 a0 := Tryz.isAgg0
 z0 := Tryz.sizeOf0
 v0 := Tryz.zeroValue0
 t2 := Tryz.underlying2
 a2 := Tryz.isAgg2
 z2 := Tryz.sizeOf2
 v2 := Tryz.zeroValue2
 t3 := Tryz.underlying3
 a3 := Tryz.isAgg3
 z3 := Tryz.sizeOf3
 v3 := Tryz.zeroValue3
 t4 := Tryz.underlying4
 a4 := Tryz.isAgg4
 z4 := Tryz.sizeOf4
 v4 := Tryz.zeroValue4
 t5 := Tryz.underlying5
 a5 := Tryz.isAgg5
 z5 := Tryz.sizeOf5
 v5 := Tryz.zeroValue5
 t9 := Tryz.underlying9
 a9 := Tryz.isAgg9
 z9 := Tryz.sizeOf9
 v9 := Tryz.zeroValue9
 t20 := Tryz.underlying20
 a20 := Tryz.isAgg20
 z20 := Tryz.sizeOf20
 v20 := Tryz.zeroValue20
 t37 := Tryz.underlying22
 a37 := Tryz.isAgg22
 z37 := Tryz.sizeOf22
 v37 := Tryz.zeroValue22
 t46 := Tryz.underlying243
 a46 := Tryz.isAgg243
 z46 := Tryz.sizeOf243
 v46 := Tryz.zeroValue243
 t51 := Tryz.underlying292
 a51 := Tryz.isAgg292
 z51 := Tryz.sizeOf292
 v51 := Tryz.zeroValue292
 t53 := Tryz.underlying137
 a53 := Tryz.isAgg137
 z53 := Tryz.sizeOf137
 v53 := Tryz.zeroValue137
 t171 := Tryz.underlying278
 a171 := Tryz.isAgg278
 z171 := Tryz.sizeOf278
 v171 := Tryz.zeroValue278
 t173 := Tryz.underlying281
 a173 := Tryz.isAgg281
 z173 := Tryz.sizeOf281
 v173 := Tryz.zeroValue281
 t212 := Tryz.underlying324
 a212 := Tryz.isAgg324
 z212 := Tryz.sizeOf324
 v212 := Tryz.zeroValue324
 t213 := Tryz.underlying325
 a213 := Tryz.isAgg325
 z213 := Tryz.sizeOf325
 t232 := Tryz.underlying363
 a232 := Tryz.isAgg363
 z232 := Tryz.sizeOf363
 v232 := Tryz.zeroValue363
 t233 := Tryz.underlying364
 a233 := Tryz.isAgg364
 z233 := Tryz.sizeOf364
 v233 := Tryz.zeroValue364
 g17 := by kernel_rfl
 g18 := by kernel_rfl
 g19 := by kernel_rfl
 i0 := by kernel_rfl
 i2 := by kernel_rfl
 i3 := by kernel_rfl
 i4 := by kernel_rfl
 i5 := by kernel_rfl
 i9 := by kernel_rfl
 i20 := by kernel_rfl
 i37 := by kernel_rfl
 i46 := by kernel_rfl
 i51 := by kernel_rfl
 i53 := by kernel_rfl
 i171 := by kernel_rfl
 i173 := by kernel_rfl
 i212 := by kernel_rfl
 i232 := by kernel_rfl
 i233 := by kernel_rfl
 m17 := by kernel_rfl
 m18 := by kernel_rfl
 m19 := by kernel_rfl }
open Go.RowKit Go.Sort Go.Lib in
theorem Tryz.strconv_FormatInt_10 (n : Int) (h0 : -9223372036854775808 ≤ n) (h1 : n ≤ 9223372036854775807) (w : World) (htab : Lib.TabIs Tryz.prog w "internal/strconv.uint64pow10" .u64 Lib.pow10Tab) :
  Calls Tryz.prog 124 #[.int .i64 n, .int .i64 10] w fun e w' => e = .returned (.string ⟨(Lib.itoa n).toArray⟩) ∧ ∃ k os, w' = grow (w.drewN k) os := Any.strconv_FormatInt_10 Tryz.laysM173 n h0 h1 w htab
def Tryz.laysC174_ren : Go.Shelf.Ren := ⟨fun | 174 => 214 | 247 => 272 | 245 => 273 | 287 => 328 | 279 => 329 | 280 => 330 | 281 => 331 | 282 => 332 | 321 => 367 | 322 => 368 | 316 => 369 | 171 => 371 | 205 => 370 | 243 => 385 | 246 => 220 | 283 => 277 | 284 => 278 | 285 => 279 | 286 => 280 | 129 => 290 | 317 => 335 | 318 => 336 | 319 => 337 | 320 => 338 | 337 => 372 | 338 => 373 | n => n, fun | 9 => 9 | 3 => 3 | 2 => 2 | 75 => 224 | 85 => 225 | 4 => 4 | 167 => 314 | 5 => 5 | 53 => 137 | 175 => 315 | 46 => 243 | 168 => 317 | 37 => 22 | 0 => 0 | 210 => 350 | 21 => 21 | 127 => 277 | 145 => 362 | 143 => 360 | 171 => 278 | 173 => 281 | 212 => 324 | 51 => 292 | 20 => 20 | 213 => 325 | 232 => 363 | 233 => 364 | 80 => 238 | n => n, fun | 15 => 4 | 16 => 5 | 17 => 1 | 18 => 6 | 19 => 7 | n => n⟩
theorem Tryz.laysC174 : Go.Proofs.LaysC.n174 Tryz.prog Tryz.laysC174_ren := {
 mixed := by kernel_rfl
 f129 := Tryz.func290.trans (congrArg some (by kernel_rfl))
 f171 := Tryz.func371.trans (congrArg some (by kernel_rfl))
 f174 := Tryz.func214.trans (congrArg some (by kernel_rfl))
 f205 := Tryz.func370.trans (congrArg some (by kernel_rfl))
 f243 := Tryz.func385.trans (congrArg some (by kernel_rfl))
 f245 := Tryz.func273.trans (congrArg some (by kernel_rfl))
 f246 := Tryz.func220.trans (congrArg some (by kernel_rfl))
 f247 := Tryz.func272.trans (congrArg some (by kernel_rfl))
 f279 := Tryz.func329.trans (congrArg some (by kernel_rfl))
 f280 := Tryz.func330.trans (congrArg some (by kernel_rfl))
 f281 := Tryz.func331.trans (congrArg some (by kernel_rfl))
 f282 := Tryz.func332.trans (congrArg some (by kernel_rfl))
 f283 := Tryz.func277.trans (congrArg some (by kernel_rfl))
 f284 := Tryz.func278.trans (congrArg some (by kernel_rfl))
 f285 := Tryz.func279.trans (congrArg some (by kernel_rfl))
 f286 := Tryz.func280.trans (congrArg some (by kernel_rfl))
 f287 := Tryz.func328.trans (congrArg some (by kernel_rfl))
 f316 := Tryz.func369.trans (congrArg some (by kernel_rfl))
 f317 := Tryz.func335.trans (congrArg some (by kernel_rfl))
 f318 := Tryz.func336.trans (congrArg some (by kernel_rfl))
 f319 := Tryz.func337.trans (congrArg some (by kernel_rfl))
 f320 := Tryz.func338.trans (congrArg some (by kernel_rfl))
 f321 := Tryz.func367.trans (congrArg some (by kernel_rfl))
 f322 := Tryz.func368.trans (congrArg some (by kernel_rfl))
 f337 := Tryz.func372.trans (congrArg some (by kernel_rfl))
 f338 := Tryz.func373.trans (congrArg some (by kernel_rfl))
 t0 := Tryz.underlying0
 a0 := Tryz.isAgg0
 z0 := Tryz.sizeOf0
 v0 := Tryz.zeroValue0
 t2 := Tryz.underlying2
 a2 := Tryz.isAgg2
 z2 := Tryz.sizeOf2
 v2 := Tryz.zeroValue2
 t3 := Tryz.underlying3
 a3 := Tryz.isAgg3
 z3 := Tryz.sizeOf3
 v3 := Tryz.zeroValue3
 t4 := Tryz.underlying4
 a4 := Tryz.isAgg4
 z4 := Tryz.sizeOf4
 v4 := Tryz.zeroValue4
 t5 := Tryz.underlying5
 a5 := Tryz.isAgg5
 z5 := Tryz.sizeOf5
 v5 := Tryz.zeroValue5
 t9 := Tryz.underlying9
 a9 := Tryz.isAgg9
 z9 := Tryz.sizeOf9
 v9 := Tryz.zeroValue9
 t20 := Tryz.underlying20
 a20 := Tryz.isAgg20
 z20 := Tryz.sizeOf20
 v20 := Tryz.zeroValue20
 t21 := Tryz.underlying21
 a21 := Tryz.isAgg21
 z21 := Tryz.sizeOf21
 v21 := Tryz.zeroValue21
 t37 := Tryz.underlying22
 a37 := Tryz.isAgg22
 z37 := Tryz.sizeOf22
 v37 := Tryz.zeroValue22
 t46 := Tryz.underlying243
 a46 := Tryz.isAgg243
 z46 := Tryz.sizeOf243
 v46 := Tryz.zeroValue243
 t51 := Tryz.underlying292
 a51 := Tryz.isAgg292
 z51 := Tryz.sizeOf292
 v51 := Tryz.zeroValue292
 t53 := Tryz.underlying137
 a53 := Tryz.isAgg137
 z53 := Tryz.sizeOf137
 v53 := Tryz.zeroValue137
 t75 := Tryz.underlying224
 a75 := Tryz.isAgg224
 z75 := Tryz.sizeOf224
 v75 := Tryz.zeroValue224
 t85 := Tryz.underlying225
 a85 := Tryz.isAgg225
 z85 := Tryz.sizeOf225
 v85 := Tryz.zeroValue225
 t127 := Tryz.underlying277
 a127 := Tryz.isAgg277
 z127 := Tryz.sizeOf277
 v127 := Tryz.zeroValue277
 t143 := Tryz.underlying360
 a143 := Tryz.isAgg360
 z143 := Tryz.sizeOf360
 v143 := Tryz.zeroValue360
 t145 := Tryz.underlying362
 a145 := Tryz.isAgg362
 z145 := Tryz.sizeOf362
 v145 := Tryz.zeroValue362
 t167 := Tryz.underlying314
 a167 := Tryz.isAgg314
 z167 := Tryz.sizeOf314
 v167 := Tryz.zeroValue314
 t168 := Tryz.underlying317
 a168 := Tryz.isAgg317
 z168 := Tryz.sizeOf317
 v168 := Tryz.zeroValue317
 t171 := Tryz.underlying278
 a171 := Tryz.isAgg278
 z171 := Tryz.sizeOf278
 v171 := Tryz.zeroValue278
 t173 := Tryz.underlying281
 a173 := Tryz.isAgg281
 z173 := Tryz.sizeOf281
 v173 := Tryz.zeroValue281
 t175 := Tryz.underlying315
 a175 := Tryz.isAgg315
 z175 := Tryz.sizeOf315
 v175 := Tryz.zeroValue315
 t210 := Tryz.underlying350
 a210 := Tryz.isAgg350
 z210 := Tryz.sizeOf350
 v210 := Tryz.zeroValue350
 t212 := Tryz.underlying324
 a212 := Tryz.isAgg324
 z212 := Tryz.sizeOf324
 v212 := Tryz.zeroValue324
 t213 := Tryz.underlying325
 a213 := Tryz.isAgg325
 z213 := Tryz.sizeOf325
 t232 := Tryz.underlying363
 a232 := Tryz.isAgg363
 z232 := Tryz.sizeOf363
 v232 := Tryz.zeroValue363
 t233 := Tryz.underlying364
 a233 := Tryz.isAgg364
 z233 := Tryz.sizeOf364
 v233 := Tryz.zeroValue364
 g15 := by kernel_rfl
 g16 := by kernel_rfl
 g17 := by kernel_rfl
 g18 := by kernel_rfl
 g19 := by kernel_rfl
 t80 := Tryz.underlying238
 a80 := Tryz.isAgg238
 z80 := Tryz.sizeOf238
 v80 := Tryz.zeroValue238
 i0 := by kernel_rfl
 i2 := by kernel_rfl
 i3 := by kernel_rfl
 i4 := by kernel_rfl
 i5 := by kernel_rfl
 i9 := by kernel_rfl
 i20 := by kernel_rfl
 i21 := by kernel_rfl
 i37 := by kernel_rfl
 i46 := by kernel_rfl
 i51 := by kernel_rfl
 i53 := by kernel_rfl
 i75 := by kernel_rfl
 i80 := by kernel_rfl
 i85 := by kernel_rfl
 i127 := by kernel_rfl
 i143 := by kernel_rfl
 i145 := by kernel_rfl
 i167 := by kernel_rfl
 i168 := by kernel_rfl
 i171 := by kernel_rfl
 i173 := by kernel_rfl
 i175 := by kernel_rfl
 i210 := by kernel_rfl
 i212 := by kernel_rfl
 i232 := by kernel_rfl
 i233 := by kernel_rfl
 m15 := by kernel_rfl
 m16 := by kernel_rfl
 m17 := by kernel_rfl
 m18 := by kernel_rfl
 m19 := by kernel_rfl
 c0 := by kernel_rfl
 c2 := by kernel_rfl
 c3 := by kernel_rfl
 c4 := by kernel_rfl
 c5 := by kernel_rfl
 c9 := by kernel_rfl
 c20 := by kernel_rfl
 c21 := by kernel_rfl
 c37 := by kernel_rfl
 c46 := by kernel_rfl
 c51 := by kernel_rfl
 c53 := by kernel_rfl
 c75 := by kernel_rfl
 c80 := by kernel_rfl
 c85 := by kernel_rfl
 c127 := by kernel_rfl
 c143 := by kernel_rfl
 c145 := by kernel_rfl
 c167 := by kernel_rfl
 c168 := by kernel_rfl
 c171 := by kernel_rfl
 c173 := by kernel_rfl
 c175 := by kernel_rfl
 c210 := by kernel_rfl
 c212 := by kernel_rfl
 c213 := by kernel_rfl
 c232 := by kernel_rfl
 c233 := by kernel_rfl }
open Go.RowKit in
theorem Tryz.strconv_ParseInt_10_at64_ok (s : ByteArray) (hmax : s.size ≤ 9223372036854775806) (v : Int) (h : Lib.parseIntB 64 s.data.toList = .ok v) (w : World) :
  Calls Tryz.prog 214 #[.string s, .int .i64 10, .int .i64 64] w fun e w' => e = .returned (.tuple #[.int .i64 v, .nilIface]) ∧ (w' = w ∨ ∃ t, w' = Lib.bytesWorld w 5 t) := Any.strconv_ParseInt_10_at64_ok Tryz.laysC174 s hmax v h w
open Go.RowKit in
theorem Tryz.strconv_ParseInt_10_at64_syntax_var (s : ByteArray) (hlim : s.size ≤ 281474976710656) (h : Lib.parseIntB 64 s.data.toList = Lib.NumEnd.syntax) (tp : TypeId) (p : Value) (w : World) (hvar : w.var? Tryz.prog "strconv.ErrSyntax" = some #[.iface tp p]) :
  Calls Tryz.prog 214 #[.string s, .int .i64 10, .int .i64 64] w fun e w' => ∃ N, e = .returned (.tuple #[.int .i64 (0), .iface 317 (.pointer (some ⟨N, 0, none⟩))]) ∧ w.heap.size ≤ N ∧ w'.heap[N]? = some (.cells #[.string ⟨#[80, 97, 114, 115, 101, 73, 110, 116]⟩, .string s, .iface tp p] 350 (0, 0)) ∧ Below w.heap.size w w' := Any.strconv_ParseInt_10_at64_syntax_var Tryz.laysC174 s hlim h tp p w hvar
def Tryz.laysM145_ren : Go.Shelf.Ren := ⟨fun | 145 => 252 | 220 => 315 | 219 => 270 | 217 => 323 | 225 => 324 | 224 => 325 | 267 => 326 | 266 => 365 | 314 => 366 | n => n, fun | 9 => 9 | 4 => 4 | 59 => 262 | 3 => 3 | 5 => 5 | 46 => 243 | 146 => 308 | 51 => 292 | n => n, fun | 1 => 0 | n => n⟩
theorem Tryz.laysM145 : Go.Proofs.LaysM.n145 Tryz.prog Tryz.laysM145_ren := {
 mixed := by kernel_rfl
 f145 := Tryz.func252.trans (congrArg some (by kernel_rfl))
 f217 := Tryz.func323.trans (congrArg some (by kernel_rfl))
 f219 := Tryz.func270.trans (congrArg some (by kernel_rfl))
 f220 := Tryz.func315.trans (congrArg some (by kernel_rfl))
 f224 := Tryz.func325.trans (congrArg some (by kernel_rfl))
 f225 := Tryz.func324.trans (congrArg some (by kernel_rfl))
 f266 := Tryz.func365.trans (congrArg some (by kernel_rfl))
 f267 := Tryz.func326.trans (congrArg some (by kernel_rfl))
 f314 := Tryz.func366.trans (congrArg some (by kernel_rfl))
 t3 := Tryz.underlying3
 a3 := Tryz.isAgg3
 z3 := Tryz.sizeOf3
 v3 := Tryz.zeroValue3
 t4 := Tryz.underlying4
 a4 := Tryz.isAgg4
 z4 := Tryz.sizeOf4
 v4 := Tryz.zeroValue4
 t5 := Tryz.underlying5
 a5 := Tryz.isAgg5
 z5 := Tryz.sizeOf5
 v5 := Tryz.zeroValue5
 t9 := Tryz.underlying9
 a9 := Tryz.isAgg9
 z9 := Tryz.sizeOf9
 v9 := Tryz.zeroValue9
 t46 := Tryz.underlying243
 a46 := Tryz.isAgg243
 z46 := Tryz.sizeOf243
 v46 := Tryz.zeroValue243
 t51 := Tryz.underlying292
 a51 := Tryz.isAgg292
 z51 := Tryz.sizeOf292
 v51 := Tryz.zeroValue292
 t59 := Tryz.underlying262
 a59 := Tryz.isAgg262
 z59 := Tryz.sizeOf262
 v59 := Tryz.zeroValue262
 t146 := Tryz.underlying308
 a146 := Tryz.isAgg308
 z146 := Tryz.sizeOf308
 v146 := Tryz.zeroValue308
 g1 := by kernel_rfl
 i3 := by kernel_rfl
 i4 := by kernel_rfl
 i5 := by kernel_rfl
 i9 := by kernel_rfl
 i46 := by kernel_rfl
 i51 := by kernel_rfl
 i59 := by kernel_rfl
 i146 := by kernel_rfl
 m1 := by kernel_rfl
 s1_3 := fun w h => Go.Proofs.cell_of_shapedOpen_int (zero := #[.int .i64 0]) (t := 3) h (of_decide_eq_true (by kernel_rfl)) (by kernel_rfl) rfl (by kernel_rfl) (by kernel_rfl) Tryz.underlying3 }
open Go.RowKit Go.Lib in
theorem Tryz.strings_Cut_shaped (s sep : ByteArray) (w : World) (h : w.ShapedOpen Tryz.prog) (hs : s.size < 4294967281) :
  Calls Tryz.prog 252 #[.string s, .string sep] w fun e w' => e = .returned (.tuple #[.string ⟨(Lib.cut s.data.toList sep.data.toList).1.toArray⟩, .string ⟨(Lib.cut s.data.toList sep.data.toList).2.1.toArray⟩, .bool (Lib.cut s.data.toList sep.data.toList).2.2]) ∧ ∃ n, w' = w.drewN n := Any.strings_Cut_shaped Tryz.laysM145 s sep w h hs
def Tryz.lays101_ren : Go.Shelf.Ren := ⟨fun | 101 => 213 | 208 => 271 | 206 => 327 | n => n, fun | 9 => 9 | 4 => 4 | 3 => 3 | n => n, fun | n => n⟩
theorem Tryz.lays101 : Go.Proofs.Lays.n101 Tryz.prog Tryz.lays101_ren := {
 mixed := by kernel_rfl
 f101 := Tryz.func213.trans (congrArg some (by kernel_rfl))
 f206 := Tryz.func327.trans (congrArg some (by kernel_rfl))
 f208 := Tryz.func271.trans (congrArg some (by kernel_rfl))
 t3 := Tryz.underlying3
 a3 := Tryz.isAgg3
 z3 := Tryz.sizeOf3
 v3 := Tryz.zeroValue3
 t4 := Tryz.underlying4
 a4 := Tryz.isAgg4
 z4 := Tryz.sizeOf4
 v4 := Tryz.zeroValue4
 t9 := Tryz.underlying9
 a9 := Tryz.isAgg9
 z9 := Tryz.sizeOf9
 v9 := Tryz.zeroValue9 }
open Go.RowKit Go.Lib in
theorem Tryz.strings_TrimPrefix (s p : ByteArray) (w : World) :
  Calls Tryz.prog 213 #[.string s, .string p] w fun e w' => e = .returned (.string ⟨(Lib.trimPrefix s.data.toList p.data.toList).toArray⟩) ∧ w' = w := Any.strings_TrimPrefix Tryz.lays101 s p w
def Tryz.lays102_ren : Go.Shelf.Ren := ⟨fun | 102 => 253 | 209 => 316 | 207 => 360 | n => n, fun | 9 => 9 | 4 => 4 | 3 => 3 | n => n, fun | n => n⟩
theorem Tryz.lays102 : Go.Proofs.Lays.n102 Tryz.prog Tryz.lays102_ren := {
 mixed := by kernel_rfl
 f102 := Tryz.func253.trans (congrArg some (by kernel_rfl))
 f207 := Tryz.func360.trans (congrArg some (by kernel_rfl))
 f209 := Tryz.func316.trans (congrArg some (by kernel_rfl))
 t3 := Tryz.underlying3
 a3 := Tryz.isAgg3
 z3 := Tryz.sizeOf3
 v3 := Tryz.zeroValue3
 t4 := Tryz.underlying4
 a4 := Tryz.isAgg4
 z4 := Tryz.sizeOf4
 v4 := Tryz.zeroValue4
 t9 := Tryz.underlying9
 a9 := Tryz.isAgg9
 z9 := Tryz.sizeOf9
 v9 := Tryz.zeroValue9 }
open Go.RowKit Go.Lib in
theorem Tryz.strings_TrimSuffix (s p : ByteArray) (w : World) (hs : s.size ≤ 9223372036854775807) :
  Calls Tryz.prog 253 #[.string s, .string p] w fun e w' => e = .returned (.string ⟨(Lib.trimSuffix s.data.toList p.data.toList).toArray⟩) ∧ w' = w := Any.strings_TrimSuffix Tryz.lays102 s p w hs
def Tryz.laysM146_ren : Go.Shelf.Ren := ⟨fun | 146 => 50 | 221 => 114 | 268 => 210 | 138 => 211 | 143 => 212 | 195 => 267 | 197 => 268 | 218 => 269 | 219 => 270 | 260 => 322 | 217 => 323 | 225 => 324 | 224 => 325 | 267 => 326 | 266 => 365 | 314 => 366 | n => n, fun | 9 => 9 | 31 => 24 | 3 => 3 | 4 => 4 | 0 => 0 | 105 => 273 | 21 => 21 | 5 => 5 | 46 => 243 | 119 => 343 | 139 => 346 | 138 => 345 | 146 => 308 | 51 => 292 | n => n, fun | 1 => 0 | 3 => 2 | 4 => 3 | n => n⟩
theorem Tryz.laysM146 : Go.Proofs.LaysM.n146 Tryz.prog Tryz.laysM146_ren := {
 mixed := by kernel_rfl
 f138 := Tryz.func211.trans (congrArg some (by kernel_rfl))
 f143 := Tryz.func212.trans (congrArg some (by kernel_rfl))
 f146 := Tryz.func50.trans (congrArg some (by kernel_rfl))
 f195 := Tryz.func267.trans (congrArg some (by kernel_rfl))
 f197 := Tryz.func268.trans (congrArg some (by kernel_rfl))
 f217 := Tryz.func323.trans (congrArg some (by kernel_rfl))
 f218 := Tryz.func269.trans (congrArg some (by kernel_rfl))
 f219 := Tryz.func270.trans (congrArg some (by kernel_rfl))
 f221 := Tryz.func114.trans (congrArg some (by kernel_rfl))
 f224 := Tryz.func325.trans (congrArg some (by kernel_rfl))
 f225 := Tryz.func324.trans (congrArg some (by kernel_rfl))
 f260 := Tryz.func322.trans (congrArg some (by kernel_rfl))
 f266 := Tryz.func365.trans (congrArg some (by kernel_rfl))
 f267 := Tryz.func326.trans (congrArg some (by kernel_rfl))
 f268 := Tryz.func210.trans (congrArg some (by kernel_rfl))
 f314 := Tryz.func366.trans (congrArg some (by kernel_rfl))
 t0 := Tryz.underlying0
 a0 := Tryz.isAgg0
 z0 := Tryz.sizeOf0
 v0 := Tryz.zeroValue0
 t3 := Tryz.underlying3
 a3 := Tryz.isAgg3
 z3 := Tryz.sizeOf3
 v3 := Tryz.zeroValue3
 t4 := Tryz.underlying4
 a4 := Tryz.isAgg4
 z4 := Tryz.sizeOf4
 v4 := Tryz.zeroValue4
 t5 := Tryz.underlying5
 a5 := Tryz.isAgg5
 z5 := Tryz.sizeOf5
 v5 := Tryz.zeroValue5
 t9 := Tryz.underlying9
 a9 := Tryz.isAgg9
 z9 := Tryz.sizeOf9
 v9 := Tryz.zeroValue9
 t21 := Tryz.underlying21
 a21 := Tryz.isAgg21
 z21 := Tryz.sizeOf21
 v21 := Tryz.zeroValue21
 t31 := Tryz.underlying24
 a31 := Tryz.isAgg24
 z31 := Tryz.sizeOf24
 v31 := Tryz.zeroValue24
 t46 := Tryz.underlying243
 a46 := Tryz.isAgg243
 z46 := Tryz.sizeOf243
 v46 := Tryz.zeroValue243
 t51 := Tryz.underlying292
 a51 := Tryz.isAgg292
 z51 := Tryz.sizeOf292
 v51 := Tryz.zeroValue292
 t105 := Tryz.underlying273
 a105 := Tryz.isAgg273
 z105 := Tryz.sizeOf273
 v105 := Tryz.zeroValue273
 t119 := Tryz.underlying343
 a119 := Tryz.isAgg343
 z119 := Tryz.sizeOf343
 t138 := Tryz.underlying345
 a138 := Tryz.isAgg345
 z138 := Tryz.sizeOf345
 v138 := Tryz.zeroValue345
 t139 := Tryz.underlying346
 a139 := Tryz.isAgg346
 z139 := Tryz.sizeOf346
 v139 := Tryz.zeroValue346
 t146 := Tryz.underlying308
 a146 := Tryz.isAgg308
 z146 := Tryz.sizeOf308
 v146 := Tryz.zeroValue308
 g1 := by kernel_rfl
 g3 := by kernel_rfl
 g4 := by kernel_rfl
 i0 := by kernel_rfl
 i3 := by kernel_rfl
 i4 := by kernel_rfl
 i5 := by kernel_rfl
 i9 := by kernel_rfl
 i21 := by kernel_rfl
 i31 := by kernel_rfl
 i46 := by kernel_rfl
 i51 := by kernel_rfl
 i105 := by kernel_rfl
 i138 := by kernel_rfl
 i139 := by kernel_rfl
 i146 := by kernel_rfl
 m1 := by kernel_rfl
 s1_3 := fun w h => Go.Proofs.cell_of_shapedOpen_int (zero := #[.int .i64 0]) (t := 3) h (of_decide_eq_true (by kernel_rfl)) (by kernel_rfl) rfl (by kernel_rfl) (by kernel_rfl) Tryz.underlying3
 m3 := by kernel_rfl
 m4 := by kernel_rfl }
open Go.RowKit Go.Lib in
theorem Tryz.strings_Split_shaped (s sep : ByteArray) (w : World) (h : w.ShapedOpen Tryz.prog) (hs : s.size < 4294967281) (h1 : 1 ≤ sep.size) :
  Calls Tryz.prog 50 #[.string s, .string sep] w fun e w' =>
   e = .returned (.slice (some ⟨w.heap.size, 0, none⟩) (Lib.countB s sep + 1) (Lib.countB s sep + 1)) ∧ w' = w.alloc (.cells ((Lib.splitB sep 0 (Lib.countB s sep) s).map Value.string).toArray 9) := Any.strings_Split_shaped Tryz.laysM146 s sep w h hs h1
end Go.Proofs
namespace Go.Proofs.YtnhomkmfbngmgaaGreatDoor
def isDig (c : UInt8) : Bool := decide (48 ≤ c.toNat) && decide (c.toNat ≤ 57)
def valN (acc : Nat) (l : List UInt8) : Nat := l.foldl (fun n c => n * 10 + (c.toNat - 48)) acc
theorem valN_nil (acc : Nat) : valN acc [] = acc := rfl
theorem valN_cons (acc : Nat) (c : UInt8) (l : List UInt8) : valN acc (c :: l) = valN (acc * 10 + (c.toNat - 48)) l := by
 unfold valN;rw [List.foldl_cons]
theorem valN_snoc (acc : Nat) (c : UInt8) (l : List UInt8) : valN acc (l ++ [c]) = valN acc l * 10 + (c.toNat - 48) := by
 unfold valN;rw [List.foldl_append]
 rfl
theorem valN_lt : ∀ (l : List UInt8) (acc k : Nat), l.all isDig = true → acc < 10 ^ k → valN acc l < 10 ^ (k + l.length) := by
 intro l
 induction l with
 | nil => intro acc k _ h; rw [valN_nil, List.length_nil, Nat.add_zero]; exact h
 | cons c l ih =>
  intro acc k hd h;rw [List.all_cons, Bool.and_eq_true] at hd;have hc : 48 ≤ c.toNat ∧ c.toNat ≤ 57 := by simpa [isDig] using hd.1
  have hp : (10 : Nat) ^ (k + 1) = 10 ^ k * 10 := Nat.pow_succ ..;have := ih (acc * 10 + (c.toNat - 48)) (k + 1) hd.2 (by rw [hp]; omega);rw [valN_cons, List.length_cons, show k + (l.length + 1) = (k + 1) + l.length by omega];exact this
theorem parseUintM_short : ∀ (l : List UInt8) (acc k : Nat), k + l.length ≤ 18 → acc < 10 ^ k →
  Lib.parseUintM (2 ^ 64 - 1) acc l = if l.all isDig then .ok (valN acc l) else Lib.NumEnd.syntax := by
 intro l
 induction l with
 | nil => exact fun acc k _ _ => rfl
 | cons c l ih =>
  intro acc k hk h;rw [List.length_cons] at hk;have hq : (10 : Nat) ^ (k + 1) = 10 ^ k * 10 := Nat.pow_succ ..;have hp : acc * 10 + 9 < 10 ^ (k + 1) := by rw [hq]; omega
  have hp2 : (10 : Nat) ^ (k + 1) ≤ 10 ^ 18 := Nat.pow_le_pow_right (by decide) (by omega);have h18 : (10 : Nat) ^ 18 = 1000000000000000000 := by decide
  have h64 : (2 : Nat) ^ 64 - 1 = 18446744073709551615 := by decide
  rw [h18] at hp2;rw [h64] at ih ⊢;unfold Lib.parseUintM
  by_cases hc : 48 ≤ c.toNat ∧ c.toNat ≤ 57
  ·have hd : isDig c = true := by simpa [isDig] using hc
   have hn := ih (acc * 10 + (c.toNat - 48)) (k + 1) (by omega) (by have := hc.1; have := hc.2; omega);rw [if_pos hc, if_neg (by omega), if_neg (by omega), hn, List.all_cons, hd, Bool.true_and, valN_cons]
  ·have hd : isDig c = false := by
    rw [Bool.eq_false_iff];intro h1;exact hc (by simpa [isDig] using h1)
   rw [if_neg hc, List.all_cons, hd]
   rfl
def canon (l : List UInt8) : Bool := !l.isEmpty && l.all isDig && (decide (l.length = 1) || !(l.head? == some 48))
theorem ofNat_dig {c : UInt8} (h : isDig c = true) : UInt8.ofNat (48 + (c.toNat - 48)) = c := by
 have hc : 48 ≤ c.toNat ∧ c.toNat ≤ 57 := by simpa [isDig] using h
 rw [show 48 + (c.toNat - 48) = c.toNat by omega]
 simp
theorem decDigits_small {u : Nat} (h : u < 10) : Lib.decDigits u = [UInt8.ofNat (48 + u)] := by rw [Lib.decDigits, dif_pos h]
theorem decDigits_big {u : Nat} (h : ¬ u < 10) : Lib.decDigits u = Lib.decDigits (u / 10) ++ [UInt8.ofNat (48 + u % 10)] := by rw [Lib.decDigits, dif_neg h]
theorem decDigits_ne (u : Nat) : Lib.decDigits u ≠ [] := by
 by_cases h : u < 10
 ·rw [decDigits_small h]; simp
 ·rw [decDigits_big h]; simp
theorem toNat_dig (k : Nat) (h : k < 10) : (UInt8.ofNat (48 + k)).toNat = 48 + k := by
 simp
 omega
theorem decDigits_dig (u : Nat) : (Lib.decDigits u).all isDig = true := by
 induction u using Nat.strongRecOn with
 | _ u ih =>
  by_cases h : u < 10
  ·rw [decDigits_small h]
   simp only [List.all_cons, List.all_nil, Bool.and_true, isDig, toNat_dig u h]
   simp
   omega
  ·rw [decDigits_big h, List.all_append, ih (u / 10) (by omega)]
   simp only [List.all_cons, List.all_nil, Bool.and_true, isDig, toNat_dig (u % 10) (by omega)]
   simp
   omega
theorem decDigits_head {u : Nat} (h0 : 0 < u) : (Lib.decDigits u).head? ≠ some 48 := by
 induction u using Nat.strongRecOn with
 | _ u ih =>
  by_cases h : u < 10
  ·rw [decDigits_small h]
   intro hc;have := congrArg UInt8.toNat (Option.some.inj hc);rw [toNat_dig u h] at this;have h48 : (48 : UInt8).toNat = 48 := rfl;omega
  ·rw [decDigits_big h, List.head?_append]
   intro hc;have hi := ih (u / 10) (by omega) (by omega)
   cases hh : (Lib.decDigits (u / 10)).head? with
   | none => exact decDigits_ne _ (List.head?_eq_none_iff.1 hh)
   | some x =>
    rw [hh] at hc hi;exact hi hc
theorem decDigits_canon (u : Nat) : canon (Lib.decDigits u) = true := by
 unfold canon;rw [decDigits_dig u]
 by_cases h : 0 < u
 ·have h1 := decDigits_head h
  have h2 := decDigits_ne u
  simp [h1, h2]
 ·have : u = 0 := by omega
  subst this;rw [decDigits_small (by omega)]
  simp
theorem valN_pos {l : List UInt8} : ∀ {acc : Nat}, 0 < acc → 0 < valN acc l := by
 induction l with
 | nil => intro acc h; exact h
 | cons c l ih => intro acc h; rw [valN_cons]; exact ih (by omega)
theorem decDigits_valN (l : List UInt8) (h : canon l = true) : Lib.decDigits (valN 0 l) = l := by
 have key : ∀ (n : Nat) (l : List UInt8), l.length = n → canon l = true → Lib.decDigits (valN 0 l) = l := by
  intro n
  induction n with
  | zero =>
   intro l hl hc;have : l = [] := List.eq_nil_of_length_eq_zero hl;subst this
   simp [canon] at hc
  | succ n ih =>
   intro l hl hc;have hne : l ≠ [] := by intro hh; subst hh; simp at hl
   obtain ⟨l', c, rfl⟩ : ∃ l' c, l = l' ++ [c] := ⟨l.dropLast, l.getLast hne, (List.dropLast_concat_getLast hne).symm⟩;simp only [canon, Bool.and_eq_true, List.all_append] at hc;obtain ⟨⟨_, hd1, hd2⟩, hz⟩ := hc;have hdc : isDig c = true := by simpa using hd2
   have hcb : 48 ≤ c.toNat ∧ c.toNat ≤ 57 := by simpa [isDig] using hdc
   rw [valN_snoc]
   by_cases hl' : l' = []
   ·subst hl'
    rw [valN_nil, decDigits_small (by omega), show 48 + (0 * 10 + (c.toNat - 48)) = 48 + (c.toNat - 48) by omega, ofNat_dig hdc]
    rfl
   ·have hlen : l'.length = n := by simpa using hl
    obtain ⟨x, r, rfl⟩ := List.exists_cons_of_ne_nil hl';have hx : x ≠ 48 := by
     intro hx;subst hx
     simp at hz
    have hc' : canon (x :: r) = true := by
     unfold canon;rw [hd1]
     simp [hx]
    have hi := ih (x :: r) hlen hc';have hdx : isDig x = true := by rw [List.all_cons, Bool.and_eq_true] at hd1; exact hd1.1
    have hxb : 48 ≤ x.toNat ∧ x.toNat ≤ 57 := by simpa [isDig] using hdx
    have hx0 : x.toNat ≠ 48 := fun h => hx (UInt8.toNat_inj.1 h)
    have hpos : 0 < valN 0 (x :: r) := by rw [valN_cons]; exact valN_pos (by omega)
    rw [decDigits_big (by omega), show (valN 0 (x :: r) * 10 + (c.toNat - 48)) / 10 = valN 0 (x :: r) by omega, hi, show (valN 0 (x :: r) * 10 + (c.toNat - 48)) % 10 = c.toNat - 48 by omega, ofNat_dig hdc]
 exact key l.length l rfl h
theorem decDigits_iff (l : List UInt8) (h : l.all isDig = true) : (Lib.decDigits (valN 0 l) = l) ↔ canon l = true :=
 ⟨fun e => e ▸ decDigits_canon _, decDigits_valN l⟩
def numNeg (r : List UInt8) : Option Int := if canon r && decide (r.length ≤ 18) && !(r.head? == some 48) then some (-(valN 0 r : Int)) else none
def numPos (l : List UInt8) : Option Int := if canon l && decide (l.length ≤ 18) then some (valN 0 l : Int) else none
def numS (l : List UInt8) : Option Int := if l.head? = some 45 then numNeg l.tail else numPos l
def numP (l : List UInt8) : Option Int :=
 if 18 < (Lib.trimPrefix l [45]).length then none
 else match Lib.parseIntB 64 l with
  | .ok n => if Lib.itoa n = l then some n else none
  | _ => none
theorem parseUintB_short (l : List UInt8) (h : l.length ≤ 18) : Lib.parseUintB 64 l = if l ≠ [] ∧ l.all isDig = true then .ok (valN 0 l) else Lib.NumEnd.syntax := by
 unfold Lib.parseUintB
 by_cases hl : l = []
 ·subst hl; rfl
 ·rw [if_neg hl, parseUintM_short l 0 0 (by omega) (by decide)]
  by_cases hd : l.all isDig = true
  ·rw [if_pos hd, if_pos ⟨hl, hd⟩]
  ·rw [if_neg hd, if_neg (fun h => hd h.2)]
theorem valN_18 {l : List UInt8} (h : l.length ≤ 18) (hd : l.all isDig = true) : valN 0 l < 10 ^ 18 :=
 Nat.lt_of_lt_of_le (valN_lt l 0 0 hd (by decide)) (Nat.pow_le_pow_right (by decide) (by omega))
theorem numP_eq (l : List UInt8) : numP l = numS l := by
 unfold numP numS
 cases l with
 | nil => rfl
 | cons c r =>
  have hpre : Lib.trimPrefix (c :: r) [45] = if c = 45 then r else c :: r := by
   unfold Lib.trimPrefix Lib.hasPrefix
   by_cases hc : c = 45
   ·subst hc; simp
   ·rw [if_neg hc, if_neg]
    simp
    exact fun h => hc h.symm
  rw [hpre]
  by_cases hc : c = 45
  ·subst hc
   rw [if_pos rfl, if_pos (show (45 :: r).head? = some 45 from rfl), show (45 :: r).tail = r from rfl];unfold numNeg
   by_cases hl : 18 < r.length
   ·rw [if_pos hl, if_neg (by simp; intro _ h; omega)]
   ·rw [if_neg hl]
    unfold Lib.parseIntB;simp only [show ((45 : UInt8).toNat = 43 ∨ (45 : UInt8).toNat = 45) from Or.inr rfl, if_true, parseUintB_short r (by omega)]
    by_cases hd : r ≠ [] ∧ r.all isDig = true
    ·simp only [if_pos hd, show (45 : UInt8).toNat = 45 from rfl, not_true, false_and, if_false, true_and, if_true]
     have hv := valN_18 (show r.length ≤ 18 by omega) hd.2;rw [if_neg (by omega)];simp only
     by_cases h0 : valN 0 r = 0
     ·rw [h0, if_neg (by rw [show Lib.itoa (-((0 : Nat) : Int)) = [48] from by unfold Lib.itoa; simp [decDigits_small]]; simp)]
      rw [if_neg];intro hh;simp only [Bool.and_eq_true, decide_eq_true_eq] at hh;have := decDigits_valN r hh.1.1;rw [h0, decDigits_small (by omega)] at this;rw [← this] at hh
      simp at hh
     ·have hneg : -((valN 0 r : Nat) : Int) < 0 := by omega
      have e1 : Lib.itoa (-((valN 0 r : Nat) : Int)) = 45 :: Lib.decDigits (valN 0 r) := by
       unfold Lib.itoa;rw [if_pos hneg]
       simp
      rw [e1];have e2 : (45 :: Lib.decDigits (valN 0 r) = 45 :: r) ↔ canon r = true := by
       rw [List.cons.injEq];simp only [true_and];exact decDigits_iff r hd.2
      by_cases hcan : canon r = true
      ·rw [if_pos (e2.2 hcan), if_pos]
       rw [hcan];simp only [Bool.true_and, Bool.and_eq_true, decide_eq_true_eq];refine ⟨by omega, ?_⟩;have h4 := decDigits_head (show 0 < valN 0 r by omega);rw [decDigits_valN r hcan] at h4
       simpa using h4
      ·rw [if_neg (fun h => hcan (e2.1 h)), if_neg (fun h => hcan (by simp only [Bool.and_eq_true] at h; exact h.1.1))]
    ·simp only [if_neg hd]
     rw [if_neg];intro h;simp only [Bool.and_eq_true, canon] at h;refine hd ⟨?_, h.1.1.1.2⟩;rintro rfl
     simp at h
  ·have hh : ¬ (c :: r).head? = some 45 := by simpa using hc
   have hcn : ¬ c.toNat = 45 := fun h => hc (UInt8.toNat_inj.1 h)
   rw [if_neg hc, if_neg hh];unfold numPos
   by_cases hl : 18 < (c :: r).length
   ·rw [if_pos hl, if_neg (by simp only [Bool.and_eq_true, decide_eq_true_eq]; omega)]
   ·rw [if_neg hl]
    unfold Lib.parseIntB
    by_cases hp : c.toNat = 43
    ·-- a plus sign: never its own numeral
     have hnd : canon (c :: r) = false := by
      rw [Bool.eq_false_iff];intro h;simp only [canon, Bool.and_eq_true, List.all_cons] at h;have : 48 ≤ c.toNat ∧ c.toNat ≤ 57 := by simpa [isDig] using h.1.2.1
      omega
     rw [hnd];simp only [Bool.false_and, Bool.false_eq_true, if_false];simp only [hp, true_or, if_true];have hl2 : r.length ≤ 18 := by simp at hl; omega
     rw [parseUintB_short r hl2]
     by_cases hd : r ≠ [] ∧ r.all isDig = true
     ·simp only [if_pos hd]
      have hv := valN_18 hl2 hd.2;rw [if_neg (by omega), if_neg (by omega)];simp only [show ¬ (43 : Nat) = 45 by omega, if_false];rw [if_neg];intro h;have h2 := decDigits_dig (valN 0 r);have e1 : Lib.itoa ((valN 0 r : Nat) : Int) = Lib.decDigits (valN 0 r) := by
       unfold Lib.itoa;rw [if_neg (by omega)]
       simp
      rw [← e1, h, List.all_cons, Bool.and_eq_true] at h2;have : 48 ≤ c.toNat ∧ c.toNat ≤ 57 := by simpa [isDig] using h2.1
      omega
     ·simp only [if_neg hd]
    ·have hs : ¬ (c.toNat = 43 ∨ c.toNat = 45) := by omega
     simp only [if_neg hs, parseUintB_short (c :: r) (by omega)]
     by_cases hd : (c :: r) ≠ [] ∧ (c :: r).all isDig = true
     ·simp only [if_pos hd]
      have hv := valN_18 (show (c :: r).length ≤ 18 by omega) hd.2;rw [if_neg (by omega), if_neg (by omega)];simp only [if_neg hcn];have e1 : Lib.itoa ((valN 0 (c :: r) : Nat) : Int) = Lib.decDigits (valN 0 (c :: r)) := by
       unfold Lib.itoa;rw [if_neg (by omega)]
       simp
      rw [e1]
      by_cases hcan : canon (c :: r) = true
      ·rw [if_pos ((decDigits_iff _ hd.2).2 hcan), if_pos (by rw [hcan]; simp at hl ⊢; omega)]
      ·rw [if_neg (fun h => hcan ((decDigits_iff _ hd.2).1 h)), if_neg (fun h => hcan (by simp only [Bool.and_eq_true] at h; exact h.1))]
     ·simp only [if_neg hd]
      rw [if_neg];intro h;simp only [Bool.and_eq_true, canon] at h;exact hd ⟨by simp, h.1.1.2⟩
def splitC (c : UInt8) : List UInt8 → List (List UInt8)
 | [] => [[]]
 | x :: l => if x = c then [] :: splitC c l else (x :: (splitC c l).headD []) :: (splitC c l).tail
theorem splitC_ne (c : UInt8) (l : List UInt8) : splitC c l ≠ [] := by
 cases l with
 | nil => simp [splitC]
 | cons x l => unfold splitC; split <;> simp
theorem splitC_ceq (c : UInt8) (l : List UInt8) : splitC c (c :: l) = [] :: splitC c l := by rw [splitC, if_pos rfl]
theorem splitC_cne {c x : UInt8} (h : x ≠ c) (l : List UInt8) : splitC c (x :: l) = (x :: (splitC c l).headD []) :: (splitC c l).tail := by rw [splitC, if_neg h]
theorem splitC_miss {c : UInt8} : ∀ {l : List UInt8}, c ∉ l → splitC c l = [l]
 | [], _ => rfl
 | x :: l, h => by
  rw [List.mem_cons, not_or] at h;rw [splitC_cne (fun e => h.1 e.symm), splitC_miss h.2]
  rfl
theorem splitC_hit {c : UInt8} : ∀ {a b : List UInt8}, c ∉ a → splitC c (a ++ c :: b) = a :: splitC c b
 | [], b, _ => by rw [List.nil_append, splitC_ceq]
 | x :: a, b, h => by
  rw [List.mem_cons, not_or] at h;rw [List.cons_append, splitC_cne (fun e => h.1 e.symm), splitC_hit h.2]
  rfl
theorem index_one (c : UInt8) (l : List UInt8) (h : c ∉ l) : Lib.index l [c] = -1 := by
 induction l with
 | nil => rfl
 | cons x l ih =>
  rw [List.mem_cons, not_or] at h;unfold Lib.index;rw [if_neg (by simp [List.isPrefixOf]; exact h.1), ih h.2]
  rfl
theorem index_one_hit (c : UInt8) (a b : List UInt8) (h : c ∉ a) : Lib.index (a ++ c :: b) [c] = a.length := by
 induction a with
 | nil => unfold Lib.index; simp [List.isPrefixOf]
 | cons x a ih =>
  rw [List.mem_cons, not_or] at h;rw [List.cons_append];unfold Lib.index;rw [if_neg (by simp [List.isPrefixOf]; exact h.1), ih h.2, if_neg (by simp <;> omega)]
  simp
theorem split_at (c : UInt8) (l : List UInt8) (h : c ∈ l) : ∃ a b, l = a ++ c :: b ∧ c ∉ a := by
 induction l with
 | nil => cases h
 | cons x l ih =>
  by_cases hx : x = c
  ·subst hx
   exact ⟨[], l, rfl, by simp⟩
  ·obtain ⟨a, b, rfl, h2⟩ := ih (by
    rcases List.mem_cons.1 h with h | h
    ·exact absurd h.symm hx
    ·exact h)
   exact ⟨x :: a, b, rfl, by simp; exact ⟨fun e => hx e.symm, h2⟩⟩
theorem count_at (c : UInt8) {a b : List UInt8} (h : c ∉ a) : (a ++ c :: b).count c = b.count c + 1 := by
 rw [List.count_append, List.count_cons_self, List.count_eq_zero_of_not_mem h];omega
theorem countFrom_one (c : UInt8) : ∀ (fuel : Nat) (l : List UInt8), l.length < fuel → Lib.countFrom [c] fuel l = l.count c
 | 0, _, h => by omega
 | fuel + 1, l, h => by
  unfold Lib.countFrom
  by_cases hm : c ∈ l
  ·obtain ⟨a, b, rfl, ha⟩ := split_at c l hm
   rw [index_one_hit c a b ha, if_neg (by simp <;> omega), count_at c ha];have e1 : ((a.length : Int)).toNat + [c].length = (a ++ [c]).length := by simp
   have e2 : (a ++ c :: b).drop (((a.length : Int)).toNat + [c].length) = b := by
    rw [e1, show a ++ c :: b = (a ++ [c]) ++ b by simp, List.drop_left]
   rw [e2, countFrom_one c fuel b (by simp at h; omega)];omega
  ·rw [index_one c l hm, if_pos (by decide), List.count_eq_zero_of_not_mem hm]
theorem splitK_one (c : UInt8) : ∀ (k : Nat) (l : List UInt8), l.count c ≤ k → Lib.splitK [c] 0 k l = splitC c l
 | 0, l, h => by
  rw [splitC_miss (List.count_eq_zero.1 (by omega))]
  rfl
 | k + 1, l, h => by
  unfold Lib.splitK
  by_cases hm : c ∈ l
  ·obtain ⟨a, b, rfl, ha⟩ := split_at c l hm
   rw [index_one_hit c a b ha, if_neg (by simp <;> omega), splitC_hit ha];rw [count_at c ha] at h;have e1 : ((a.length : Int)).toNat + [c].length = (a ++ [c]).length := by simp
   have e2 : (a ++ c :: b).drop (((a.length : Int)).toNat + [c].length) = b := by
    rw [e1, show a ++ c :: b = (a ++ [c]) ++ b by simp, List.drop_left]
   rw [e2, splitK_one c k b (by omega)]
   congr 1
   simp
  ·rw [index_one c l hm, if_pos (by decide), splitC_miss hm]
theorem split_one (c : UInt8) (l : List UInt8) : Lib.split l [c] = splitC c l := by
 unfold Lib.split Lib.count;rw [countFrom_one c _ l (by omega)];exact splitK_one c _ l zR
theorem join_cons2 (x y : List UInt8) (r : List (List UInt8)) (sep : List UInt8) : Lib.join (x :: y :: r) sep = x ++ sep ++ Lib.join (y :: r) sep := by
 rw [Lib.join_cons, Lib.join_cons]
 simp [Lib.joinTail]
theorem join_splitC (c : UInt8) : ∀ (l : List UInt8), Lib.join (splitC c l) [c] = l
 | [] => rfl
 | x :: l => by
  have ih := join_splitC c l;unfold splitC;obtain ⟨p, ps, hp⟩ := List.exists_cons_of_ne_nil (splitC_ne c l);rw [hp] at ih ⊢
  by_cases hx : x = c
  ·subst hx
   rw [if_pos rfl, join_cons2, ih]
   simp
  ·rw [if_neg hx]
   simp only [List.headD_cons, List.tail_cons];rw [Lib.join_cons] at ih ⊢;rw [List.cons_append, ih]
def numsOf (f : List UInt8 → Option Int) : List (List UInt8) → Option (List Int)
 | [] => some []
 | x :: l => match f x, numsOf f l with
  | some n, some ns => some (n :: ns)
  | _, _ => none
def isVal (n : Int) : Bool := decide (0 ≤ n) && decide (n ≤ 63)
def numV (l : List UInt8) : Option Int := (numS l).filter isVal
theorem numsOf_len {f : List UInt8 → Option Int} : ∀ {l : List (List UInt8)} {ns : List Int}, numsOf f l = some ns → ns.length = l.length
 | [], ns, h => by cases h; rfl
 | x :: l, ns, h => by
  unfold numsOf at h
  split at h
  ·rename_i n ms hn hm
   cases h
   simp [numsOf_len hm]
  ·cases h
theorem numsOf_val : ∀ (l : List (List UInt8)), numsOf numV l = (numsOf numS l).filter (fun ns => ns.all isVal)
 | [] => rfl
 | x :: l => by
  unfold numsOf;rw [numsOf_val l];unfold numV
  cases hx : numS x with
  | none => simp
  | some n =>
   cases hl : numsOf numS l with
   | none => cases hv : isVal n <;> simp [Option.filter, hv]
   | some ns => cases hv : isVal n <;> cases hw : ns.all isVal <;> simp [Option.filter, hv, hw]
theorem numS_itoa {l : List UInt8} {n : Int} (h : numS l = some n) : Lib.itoa n = l := by
 rw [← numP_eq] at h;unfold numP at h
 split at h
 ·cases h
 ·split at h
  ·split at h
   ·rename_i hh
    cases h
    exact hh
   ·cases h
  ·cases h
theorem numsOf_itoa : ∀ {l : List (List UInt8)} {ns : List Int}, numsOf numS l = some ns → ns.map Lib.itoa = l
 | [], ns, h => by cases h; rfl
 | x :: l, ns, h => by
  unfold numsOf at h
  split at h
  ·rename_i n ms hn hm
   cases h
   rw [List.map_cons, numS_itoa hn, numsOf_itoa hm]
  ·cases h
section
variable (nameL : List UInt8 → Bool)
def tauL : List UInt8 := [116, 97, 117]
def labName (l : List UInt8) : List UInt8 := (Lib.cut l [40]).1
def valsS (l : List UInt8) : Option (List Int) :=
 if 40 ∉ l then (if nameL l then some [] else none)
 else if (nameL (labName l) && !(labName l == tauL)) && (l.getLast? == some 41) then
  (numsOf numV (splitC 44 (Lib.cut l [40]).2.1.dropLast)).filter (fun ns => decide (ns.length ≤ 2))
 else none
def labOf (name : List UInt8) (ns : List Int) : Option (List UInt8) :=
 if name = tauL then (if ns = [] then some tauL else none)
 else if !(nameL name) || decide (2 < ns.length) || !(ns.all isVal) then none
 else if ns = [] then some name
 else some (name ++ [40] ++ Lib.join (ns.map Lib.itoa) [44] ++ [41])
def valsP (l : List UInt8) : Option (List Int) :=
 match (if (Lib.cut l [40]).2.2 then numsOf numP (splitC 44 (Lib.trimSuffix (Lib.cut l [40]).2.1 [41])) else some []) with
 | none => none
 | some ns => if labOf nameL (Lib.cut l [40]).1 ns = some l then some ns else none
end
theorem cut_miss {l : List UInt8} (h : (40 : UInt8) ∉ l) : Lib.cut l [40] = (l, [], false) := by
 unfold Lib.cut;rw [index_one 40 l h, if_neg (by decide)]
theorem cut_hit {a b : List UInt8} (h : (40 : UInt8) ∉ a) : Lib.cut (a ++ 40 :: b) [40] = (a, b, true) := by
 unfold Lib.cut;rw [index_one_hit 40 a b h, if_pos (by omega)]
 congr 1
 ·simp
 ·congr 1
  have e1 : ((a.length : Int)).toNat + [(40 : UInt8)].length = (a ++ [40]).length := by simp
  rw [e1, show a ++ 40 :: b = (a ++ [40]) ++ b by simp, List.drop_left]
theorem numP_fun : numP = numS := funext numP_eq
theorem trimSuffix_hit (r : List UInt8) (c : UInt8) : Lib.trimSuffix (r ++ [c]) [c] = r := by
 unfold Lib.trimSuffix Lib.hasSuffix;rw [if_pos (by simp)]
 simp
theorem trimSuffix_miss {r : List UInt8} {c : UInt8} (h : r.getLast? ≠ some c) : Lib.trimSuffix r [c] = r := by
 unfold Lib.trimSuffix Lib.hasSuffix;rw [if_neg];intro hs;have hs2 : [c] <:+ r := List.isSuffixOf_iff_suffix.1 hs;obtain ⟨t, rfl⟩ := hs2
 simp at h
theorem valsP_eq (nameL : List UInt8 → Bool) (ht : nameL tauL = true) (l : List UInt8) : valsP nameL l = valsS nameL l := by
 by_cases hm : (40 : UInt8) ∈ l
 ·obtain ⟨name, rest, rfl, hn⟩ := split_at 40 l hm
  have hlast : (name ++ 40 :: rest).getLast? = (40 :: rest).getLast? := by
   rw [List.getLast?_append]
   cases h : (40 :: rest).getLast? with
   | none => exact absurd (List.getLast?_eq_none_iff.1 h) (by simp)
   | some x => rfl
  have hP : valsP nameL (name ++ 40 :: rest) = (match numsOf numS (splitC 44 (Lib.trimSuffix rest [41])) with
    | none => none
    | some ns => if labOf nameL name ns = some (name ++ 40 :: rest) then some ns else none) := by
   unfold valsP;rw [cut_hit hn];simp only [if_true, numP_fun]
  have hS : valsS nameL (name ++ 40 :: rest) = (if (nameL name && !(name == tauL)) && ((40 :: rest).getLast? == some 41) then
    (numsOf numV (splitC 44 rest.dropLast)).filter (fun ns => decide (ns.length ≤ 2)) else none) := by
   unfold valsS labName;rw [if_neg (fun h => h hm), cut_hit hn, hlast]
  rw [hP, hS]
  by_cases hr : rest.getLast? = some 41
  ·obtain ⟨r, rfl⟩ : ∃ r, rest = r ++ [41] := by
    have hne : rest ≠ [] := by rintro rfl; cases hr
    refine ⟨rest.dropLast, ?_⟩;have h1 := List.dropLast_concat_getLast hne;rw [List.getLast?_eq_some_getLast hne] at hr;have h2 := Option.some.inj hr;rw [h2] at h1;exact h1.symm
   have hd : (r ++ [(41 : UInt8)]).dropLast = r := by simp
   rw [trimSuffix_hit, hd];have hl41 : ((40 :: (r ++ [41])).getLast? == some 41) = true := by
    rw [← List.cons_append, List.getLast?_append]
    rfl
   rw [hl41, Bool.and_true, numsOf_val]
   cases hx : numsOf numS (splitC 44 r) with
   | none => simp [Option.filter]
   | some ns =>
    have hlen := numsOf_len hx;have hne : ns ≠ [] := by
     rintro rfl;exact splitC_ne 44 r (List.eq_nil_of_length_eq_zero hlen.symm)
    have hj : Lib.join (ns.map Lib.itoa) [44] = r := by rw [numsOf_itoa hx, join_splitC]
    simp only;unfold labOf
    by_cases htau : name = tauL
    ·rw [if_pos htau, if_neg hne, if_neg (by simp), if_neg (by simp [htau])]
    ·rw [if_neg htau, if_neg hne, hj]
     have htb : (name == tauL) = false := by rw [beq_eq_false_iff_ne]; exact htau
     rw [htb]
     by_cases h2 : ns.length ≤ 2
     ·have h3 : ¬ 2 < ns.length := by omega
      cases hnm : nameL name <;> cases ha : ns.all isVal <;> simp [Option.filter, ha, h2, h3]
     ·have h3 : 2 < ns.length := by omega
      cases hnm : nameL name <;> cases ha : ns.all isVal <;> simp [Option.filter, ha, h2, h3]
  ·have hno : ¬ (((nameL name && !(name == tauL)) && ((40 :: rest).getLast? == some 41)) = true) := by
    intro hc;rw [Bool.and_eq_true] at hc;have hc2 := hc.2
    cases rest with
    | nil => simp at hc2
    | cons x r =>
     rw [List.getLast?_cons_cons] at hc2;exact hr (by simpa using hc2)
   rw [trimSuffix_miss hr, if_neg hno]
   cases hx : numsOf numS (splitC 44 rest) with
   | none => rfl
   | some ns =>
    have hlen := numsOf_len hx;have hne : ns ≠ [] := by
     rintro rfl;exact splitC_ne 44 rest (List.eq_nil_of_length_eq_zero hlen.symm)
    have hj : Lib.join (ns.map Lib.itoa) [44] = rest := by rw [numsOf_itoa hx, join_splitC]
    simp only;rw [if_neg];intro hc;unfold labOf at hc;rw [hj] at hc;simp only [if_neg hne] at hc
    split at hc
    ·cases hc
    ·split at hc
     ·cases hc
     ·have h1 := Option.some.inj hc
      have h2 := congrArg List.length h1
      simp at h2
 ·have hP : valsP nameL l = (if labOf nameL l [] = some l then some [] else none) := by
   unfold valsP;rw [cut_miss hm];simp only [Bool.false_eq_true, if_false]
  have hS : valsS nameL l = (if nameL l then some [] else none) := by
   unfold valsS;rw [if_pos hm]
  rw [hP, hS];unfold labOf
  by_cases htau : l = tauL
  ·subst htau
   simp [ht]
  ·rw [if_neg htau]
   cases hnm : nameL l <;> simp
open Go.ChangeAt Go.ChangeShapes Go.RowKit Go.WideShapes
def strv (s : ByteArray) : List Value := [.string s]
abbrev SlS := Sl 1 strv
theorem SlS.get {w : World} {lo hi n : Nat} {A : Option Addr} {l : List ByteArray} (h : SlS w lo hi A n l) {k : Nat} (hk : k < n) :
  ∃ b off x, A = some ⟨b, off, none⟩ ∧ lo ≤ b ∧ b < hi ∧ b < w.heap.size ∧ l[k]? = some x ∧ w.cell? ⟨b, off + k, none⟩ = some (.string x) ∧ w.frozen? ⟨b, off + k, none⟩ = false := by
 obtain ⟨b, off, e, g1, g2, g3, hc⟩ := h.at_ (by omega);have hl : k < l.length := by rw [h.len]; exact hk
 have h0 := hc k l[k] (List.getElem?_eq_getElem hl) 0 _ rfl;simp only [Nat.mul_one, Nat.add_zero] at h0;exact ⟨b, off, l[k], e, g1, g2, g3, List.getElem?_eq_getElem hl, h0.1, h0.2⟩
theorem str_neq {a b : ByteArray} (h : a ≠ b) : (a.toList == b.toList) = false := by
 obtain ⟨⟨x⟩⟩ := a;obtain ⟨⟨y⟩⟩ := b;have e1 : (ByteArray.mk ⟨x⟩).toList = x := ByteArray.toList_mk x;have e2 : (ByteArray.mk ⟨y⟩).toList = y := ByteArray.toList_mk y;rw [e1, e2, beq_eq_false_iff_ne];rintro rfl;exact h rfl
def totS (l : List ByteArray) : Nat := l.length + (l.map (·.size)).sum
theorem info_string : (Tryz.prog.info? 9).map (fun i => (i.zero, i.size, i.bytes)) = some (some (.string ByteArray.empty), 1, 16) := by kernel_rfl
abbrev Ed := Int × Int × Int
def ev (e : Ed) : List Value := [.int .i64 e.1, .int .i64 e.2.1, .int .i64 e.2.2]
abbrev SlE := Sl 3 ev
theorem SlE.get {w : World} {lo hi n : Nat} {A : Option Addr} {l : List Ed} (h : SlE w lo hi A n l) {k : Nat} (hk : k < n) :
  ∃ b off x y z, A = some ⟨b, off, none⟩ ∧ lo ≤ b ∧ b < hi ∧ b < w.heap.size ∧ l[k]? = some (x, y, z) ∧ w.cell? ⟨b, off + k * 3, none⟩ = some (.int .i64 x) ∧ w.cell? ⟨b, off + k * 3 + 1, none⟩ = some (.int .i64 y) ∧ w.cell? ⟨b, off + k * 3 + 2, none⟩ = some (.int .i64 z) ∧
   w.frozen? ⟨b, off + k * 3, none⟩ = false ∧ w.frozen? ⟨b, off + k * 3 + 1, none⟩ = false ∧ w.frozen? ⟨b, off + k * 3 + 2, none⟩ = false := by
 obtain ⟨b, off, e, g1, g2, g3, hc⟩ := h.at_ (by omega);have hl : k < l.length := by rw [h.len]; exact hk
 have h0 := hc k l[k] (List.getElem?_eq_getElem hl) 0 _ rfl;have h1 := hc k l[k] (List.getElem?_eq_getElem hl) 1 _ rfl;have h2 := hc k l[k] (List.getElem?_eq_getElem hl) 2 _ rfl;rw [← Nat.add_assoc] at h1 h2;exact ⟨b, off, l[k].1, l[k].2.1, l[k].2.2, e, g1, g2, g3, List.getElem?_eq_getElem hl, h0.1, h1.1, h2.1, h0.2, h1.2, h2.2⟩
theorem info_implEdge : (Tryz.prog.info? 84).map (fun i => (i.zero, i.size, i.bytes)) = some (some (.agg #[.int .i64 0, .int .i64 0, .int .i64 0]), 3, 24) := by kernel_rfl
end Go.Proofs.YtnhomkmfbngmgaaGreatDoor
namespace Go.Proofs.YtnhomkmfbngmgaaGreatDoor
def allK (p : Nat → Bool) (n : Nat) : Bool := (List.range n).all p
theorem allK_bad {p : Nat → Bool} {n k : Nat} (hk : k < n) (h : p k = false) : allK p n = false := by
 unfold allK;rw [← Bool.not_eq_true, List.all_eq_true];intro hc;have := hc k (List.mem_range.2 hk);rw [h] at this
 cases this
theorem allK_good {p : Nat → Bool} {n : Nat} (h : ∀ j, j < n → p j = true) : allK p n = true :=
 List.all_eq_true.2 fun k hk => h k (List.mem_range.1 hk)
theorem allK_get {p : Nat → Bool} {n : Nat} (h : allK p n = true) {k : Nat} (hk : k < n) : p k = true :=
 (List.all_eq_true.1 h) k (List.mem_range.2 hk)
theorem lt_succ_cases {p : Nat → Prop} {k : Nat} (h : ∀ j, j < k → p j) (hk : p k) : ∀ j, j < k + 1 → p j := fun j hj => by
 rcases Nat.lt_or_ge j k with h1 | h1
 ·exact h j h1
 ·have : j = k := by omega
  subst this;exact hk
abbrev DL := Int × Int × List ByteArray × List Ed
def tauB : ByteArray := ⟨#[116, 97, 117]⟩
def edLess (a b : Ed) : Bool := if a.1 ≠ b.1 then decide (a.1 < b.1) else if a.2.1 ≠ b.2.1 then decide (a.2.1 < b.2.1) else decide (a.2.2 < b.2.2)
section
variable (labB : ByteArray → Bool) (sLess : ByteArray → ByteArray → Bool)
def okLab (ls : List ByteArray) (k : Nat) : Bool := match ls[k]? with
 | some s => labB s && (decide (s = tauB) == decide (k = 0)) && (decide (k ≤ 1) || match ls[k - 1]? with | some r => sLess r s | none => true)
 | none => true
def okEd (st m : Int) (es : List Ed) (k : Nat) : Bool := match es[k]? with
 | some e => inB e.1 0 (st - 1) && inB e.2.2 0 (st - 1) && inB e.2.1 0 (m - 1) && (decide (k = 0) || match es[k - 1]? with | some r => edLess r e | none => true)
 | none => true
def ltsB (d : DL) : Bool :=
 (inB d.1 1 40 && inB d.2.1 0 (d.1 - 1) && inB (d.2.2.1.length : Int) 1 12 && decide (d.2.2.2.length ≤ 300)) &&
 (allK (okLab labB sLess d.2.2.1) d.2.2.1.length && allK (okEd d.1 d.2.2.1.length d.2.2.2) d.2.2.2.length)
end
open Go.ChangeAt Go.ChangeShapes Go.Deep Go.RowKit Go.WideShapes
def ArgS (w : World) (lo hi : Nat) (v : Value) (d : List ByteArray) : Prop := ∃ A n c, v = .slice A n c ∧ n ≤ maxLen ∧ (∀ s ∈ d, s.size ≤ maxLen) ∧ SlS w lo hi A n d
def ArgE (w : World) (lo hi : Nat) (v : Value) (d : List Ed) : Prop := ∃ A n c, v = .slice A n c ∧ n ≤ maxLen ∧ SlE w lo hi A n d
section
variable {w w' : World} {lo hi lo' hi' B : Nat} {v : Value}
theorem ArgS.shape {d : List ByteArray} (h : ArgS w lo hi v d) : ∃ A n c, v = .slice A n c := by obtain ⟨A, n, c, h1, _⟩ := h; exact ⟨A, n, c, h1⟩
theorem ArgS.below {d : List ByteArray} (h : ArgS w lo hi v d) (hb : Below B w w') (hB : hi ≤ B ∨ w.heap.size ≤ B) : ArgS w' lo hi v d := by
 obtain ⟨A, n, c, h1, h2, h4, h3⟩ := h;exact ⟨A, n, c, h1, h2, h4, h3.below hb hB⟩
theorem ArgS.more {d : List ByteArray} (h : ArgS w lo hi v d) (h1 : lo' ≤ lo) (h2 : hi ≤ hi') : ArgS w lo' hi' v d := by
 obtain ⟨A, n, c, q1, q2, q4, q3⟩ := h;exact ⟨A, n, c, q1, q2, q4, q3.more h1 h2⟩
theorem ArgS.only {d : List ByteArray} (h : ArgS w lo hi v d) (g : Only lo' hi' w w') (hd : hi ≤ lo' ∨ hi' ≤ lo) : ArgS w' lo hi v d := by
 obtain ⟨A, n, c, h1, h2, h4, h3⟩ := h;exact ⟨A, n, c, h1, h2, h4, h3.only g hd⟩
theorem ArgE.shape {d : List Ed} (h : ArgE w lo hi v d) : ∃ A n c, v = .slice A n c := by obtain ⟨A, n, c, h1, _⟩ := h; exact ⟨A, n, c, h1⟩
theorem ArgE.below {d : List Ed} (h : ArgE w lo hi v d) (hb : Below B w w') (hB : hi ≤ B ∨ w.heap.size ≤ B) : ArgE w' lo hi v d := by
 obtain ⟨A, n, c, h1, h2, h3⟩ := h;exact ⟨A, n, c, h1, h2, h3.below hb hB⟩
theorem ArgE.more {d : List Ed} (h : ArgE w lo hi v d) (h1 : lo' ≤ lo) (h2 : hi ≤ hi') : ArgE w lo' hi' v d := by
 obtain ⟨A, n, c, q1, q2, q3⟩ := h;exact ⟨A, n, c, q1, q2, q3.more h1 h2⟩
theorem ArgE.only {d : List Ed} (h : ArgE w lo hi v d) (g : Only lo' hi' w w') (hd : hi ≤ lo' ∨ hi' ≤ lo) : ArgE w' lo hi v d := by
 obtain ⟨A, n, c, h1, h2, h3⟩ := h;exact ⟨A, n, c, h1, h2, h3.only g hd⟩
end
abbrev CL := Int × Int × Value × Value
def ReadL (w : World) (lo hi : Nat) (x : CL) (d : DL) : Prop := x.1 = d.1 ∧ x.2.1 = d.2.1 ∧ ArgS w lo hi x.2.2.1 d.2.2.1 ∧ ArgE w lo hi x.2.2.2 d.2.2.2
def totL (d : DL) : Nat := totS d.2.2.1 + d.2.2.2.length
theorem totL_lab (d : DL) : d.2.2.1.length ≤ totL d := by unfold totL totS; omega
theorem totL_edg (d : DL) : d.2.2.2.length ≤ totL d := by unfold totL; omega
section
variable {w w' : World} {lo hi lo' hi' B : Nat} {x : CL} {d : DL}
theorem ReadL.below (h : ReadL w lo hi x d) (hb : Below B w w') (hB : hi ≤ B ∨ w.heap.size ≤ B) : ReadL w' lo hi x d := ⟨h.1, h.2.1, h.2.2.1.below hb hB, h.2.2.2.below hb hB⟩
theorem ReadL.more (h : ReadL w lo hi x d) (h1 : lo' ≤ lo) (h2 : hi ≤ hi') : ReadL w lo' hi' x d := ⟨h.1, h.2.1, h.2.2.1.more h1 h2, h.2.2.2.more h1 h2⟩
theorem ReadL.only (h : ReadL w lo hi x d) (g : Only lo' hi' w w') (hd : hi ≤ lo' ∨ hi' ≤ lo) : ReadL w' lo hi x d := ⟨h.1, h.2.1, h.2.2.1.only g hd, h.2.2.2.only g hd⟩
end
instance decEdL : DecidableEq (List Ed) := inferInstance
instance decBaL : DecidableEq (List ByteArray) := inferInstance
instance decDL : DecidableEq DL := inferInstance
end Go.Proofs.YtnhomkmfbngmgaaGreatDoor
namespace Go.Proofs.YtnhomkmfbngmgaaGreatDoor
open Go.ChangeShapes Go.WideShapes Go.ChangeAt Go.RowKit
theorem below_drewN (w : World) (k : Nat) : Below w.heap.size w (w.drewN k) := ⟨rfl, rfl, rfl, zR, fun _ _ => rfl⟩
theorem within_calls (n lo hi : Int) (w : World) :
  Calls Tryz.prog 118 #[.int .i64 n, .int .i64 lo, .int .i64 hi] w fun e w' => e = .returned (.bool (inB n lo hi)) ∧ w = w' := by
 by_cases h : lo ≤ n
 ·have hr := hide (show inB n lo hi = decide (n ≤ hi) from by unfold inB; simp [h])
  go_enter Tryz.func118, Tryz.ntmps118
  go_wp2
  go_ret;exact ⟨ret_b (by rw [hr.out]), rfl⟩
 ·have hr := hide (show inB n lo hi = false from by unfold inB; simp [h])
  go_enter Tryz.func118, Tryz.ntmps118
  go_wp2
  go_ret;exact ⟨ret_b (by rw [hr.out]), rfl⟩
theorem index_calls (x : Int) (m : Nat) (hm : m ≤ 1048576) (w : World) :
  Calls Tryz.prog 121 #[.int .i64 x, .int .i64 m] w fun e w' => e = .returned (.bool (inB x 0 ((m : Int) - 1))) ∧ w = w' := by
 go_enter Tryz.func121, Tryz.ntmps121
 go_wp2_with (go_at_call 118; refine (within_calls _ _ _ _).mono ?_; rintro e w' ⟨rfl, rfl⟩)
 go_ret;exact ⟨rfl, rfl⟩
theorem inB_true {n lo hi : Int} : inB n lo hi = true ↔ lo ≤ n ∧ n ≤ hi := by unfold inB; simp
def smallB (c : Int) : Bool := decide (97 ≤ c) && decide (c ≤ 122)
def digitB (c : Int) : Bool := decide (48 ≤ c) && decide (c ≤ 57)
theorem isDigit_calls (c : Int) (w : World) : Calls Tryz.prog 306 #[.int .u8 c] w fun e w' => e = .returned (.bool (digitB c)) ∧ w = w' := by
 by_cases h1 : 48 ≤ c <;> by_cases h2 : c ≤ 57
 all_goals
  go_enter Tryz.func306, Tryz.ntmps306
  go_wp2
  go_ret;exact ⟨by simp [digitB, h1, h2], rfl⟩
def badX (k : Nat) (x : Int) : Bool := !(smallB x) && (decide (k = 0) || !(digitB x))
def badAt (s : ByteArray) (k : Nat) : Bool := match s.data.toList[k]? with | some c => badX k (c.toNat : Int) | none => false
def nameB (s : ByteArray) : Bool := (List.range s.size).all (fun k => !(badAt s k)) && decide (1 ≤ s.size ∧ s.size ≤ 10)
theorem badAt_get (s : ByteArray) (k : Nat) (h : k < s.size) : badAt s k = badX k (s[k].toNat : Int) := by
 unfold badAt;have : s.data.toList[k]? = some s[k] := by
  rw [List.getElem?_eq_getElem (by simpa using h)]
  rfl
 rw [this]
theorem nameB_bad {s : ByteArray} {k : Nat} (h : k < s.size) (hb : badX k (s[k].toNat : Int) = true) : nameB s = false := by
 unfold nameB;rw [Bool.and_eq_false_iff]
 left
 rw [← Bool.not_eq_true, List.all_eq_true];intro hc;have := hc k (List.mem_range.2 h);rw [badAt_get s k h, hb] at this
 cases this
theorem nameB_good {s : ByteArray} (h : ∀ j (hj : j < s.size), badX j (s[j].toNat : Int) = false) : nameB s = decide (1 ≤ s.size ∧ s.size ≤ 10) := by
 unfold nameB;rw [(List.all_eq_true.2 fun k hk => by rw [badAt_get s k (List.mem_range.1 hk), h k (List.mem_range.1 hk)]; rfl), Bool.true_and]
theorem isName_calls (s : ByteArray) (w : World) (hs : s.size ≤ maxLen) : Calls Tryz.prog 250 #[.string s] w fun e w' => e = .returned (.bool (nameB s)) ∧ w = w' := by
 unfold maxLen at hs;have hs63 : s.size ≤ 9223372036854775807 := by omega
 go_enter Tryz.func250, Tryz.ntmps250
 go_wp2
 go_loop [7] (fun i => ∃ k : Nat, k ≤ s.size ∧ i = .int .i64 k ∧ Hid (∀ j (hj : j < s.size), j < k → badX j (s[j].toNat : Int) = false)) (fun i => s.size - (intOf i).toNat)
 case atStart => exact ⟨0, Nat.zero_le _, rfl, fun j _ h => absurd h (by omega)⟩
 case round =>
  obtain ⟨k, hk, rfl, ha⟩ := hrel
  by_cases hlt : k < s.size
  ·have hbad := hide (fun hb => nameB_bad (s := s) hlt hb)
   have hnext : Hid (badX k (s[k].toNat : Int) = false → ∀ j (hj : j < s.size), j < k + 1 → badX j (s[j].toNat : Int) = false) := fun hg j hj hjk => by
    rcases Nat.lt_or_ge j k with h1 | h1
    ·exact ha.out j hj h1
    ·have : j = k := by omega
     subst this;exact hg
   have hq := hide (isDigit_calls (s[k].toNat : Int) w);generalize hc : (s[k].toNat : Int) = c at *;have hgetk : ∀ h : k < s.size, (s[k].toNat : Int) = c := fun _ => hc
   by_cases h1 : 97 ≤ c ∧ c ≤ 122
   ·have h1a := h1.1
    have h1b := h1.2;have hg : Hid (badX k c = false) := by show _ = _; simp [badX, smallB, h1a, h1b]
    clear h1;go_wp2_with fail
    go_round
    case rel => exact ⟨k + 1, by omega, by go_num, hnext.out hg.out⟩
    case measure => simp [intOf]; omega
   ·by_cases h1a : 97 ≤ c
    ·have h1b : ¬ c ≤ 122 := fun h => h1 ⟨h1a, h⟩
     clear h1;have hsm : Hid (smallB c = false) := by show _ = _; simp [smallB]; omega
     by_cases hk0 : k = 0
     ·have hv := hide (hbad.out (by rw [hk0]; simp [badX, hsm.out]))
      subst hk0;clear hnext hq;go_wp2_with fail;go_ret;exact ⟨ret_b (by rw [hv.out]), rfl⟩
     ·have hki : ((k : Int) == 0) = false := by rw [beq_eq_false_iff_ne]; omega
      by_cases hd : digitB c = true
      ·have hqq := hq.out
       rw [hd] at hqq;replace hqq := hide hqq;have hg : Hid (badX k c = false) := by show _ = _; simp [badX, hsm.out, hk0, hd]
       clear hd hq hk0
       go_wp2_with (go_at_call 306; (with_reducible refine hqq.out.mono ?_); rintro e w1 ⟨rfl, rfl⟩)
       go_round
       case rel => exact ⟨k + 1, by omega, by go_num, hnext.out hg.out⟩
       case measure => simp [intOf]; omega
      ·have hqq := hq.out
       replace hd := Bool.eq_false_iff.2 hd;rw [hd] at hqq;replace hqq := hide hqq;have hv := hide (hbad.out (by simp [badX, hsm.out, hd]));clear hd hq hk0 hnext
       go_wp2_with (go_at_call 306; (with_reducible refine hqq.out.mono ?_); rintro e w1 ⟨rfl, rfl⟩)
       go_ret;exact ⟨ret_b (by rw [hv.out]), rfl⟩
    ·clear h1
     have hsm : Hid (smallB c = false) := by show _ = _; simp [smallB]; omega
     by_cases hk0 : k = 0
     ·have hv := hide (hbad.out (by rw [hk0]; simp [badX, hsm.out]))
      subst hk0;clear hnext hq;go_wp2_with fail;go_ret;exact ⟨ret_b (by rw [hv.out]), rfl⟩
     ·have hki : ((k : Int) == 0) = false := by rw [beq_eq_false_iff_ne]; omega
      by_cases hd : digitB c = true
      ·have hqq := hq.out
       rw [hd] at hqq;replace hqq := hide hqq;have hg : Hid (badX k c = false) := by show _ = _; simp [badX, hsm.out, hk0, hd]
       clear hd hq hk0
       go_wp2_with (go_at_call 306; (with_reducible refine hqq.out.mono ?_); rintro e w1 ⟨rfl, rfl⟩)
       go_round
       case rel => exact ⟨k + 1, by omega, by go_num, hnext.out hg.out⟩
       case measure => simp [intOf]; omega
      ·have hqq := hq.out
       replace hd := Bool.eq_false_iff.2 hd;rw [hd] at hqq;replace hqq := hide hqq;have hv := hide (hbad.out (by simp [badX, hsm.out, hd]));clear hd hq hk0 hnext
       go_wp2_with (go_at_call 306; (with_reducible refine hqq.out.mono ?_); rintro e w1 ⟨rfl, rfl⟩)
       go_ret;exact ⟨ret_b (by rw [hv.out]), rfl⟩
  ·have hkn : k = s.size := by omega
   have hv := hide (nameB_good (s := s) (fun j hj => ha.out j hj (by omega)))
   by_cases z1 : 1 ≤ s.size
   ·by_cases z2 : s.size ≤ 10
    ·have hvv : Hid (nameB s = true) := by show _ = _; rw [hv.out]; simp [z1, z2]
     have z1i : (1 : Int) ≤ (s.size : Int) := by omega
     have z2i : (s.size : Int) ≤ 10 := by omega
     clear hv ha;go_wp2_with fail;go_ret;exact ⟨ret_b (by rw [hvv.out]), rfl⟩
    ·have hvv : Hid (nameB s = false) := by show _ = _; rw [hv.out]; simp [z2]
     have z1i : (1 : Int) ≤ (s.size : Int) := by omega
     have z2i : ¬ (s.size : Int) ≤ 10 := by omega
     clear hv ha;go_wp2_with fail;go_ret;exact ⟨ret_b (by rw [hvv.out]), rfl⟩
   ·have hvv : Hid (nameB s = false) := by show _ = _; rw [hv.out]; simp; omega
    have z1i : ¬ (1 : Int) ≤ (s.size : Int) := by omega
    clear hv ha;go_wp2_with fail;go_ret;exact ⟨ret_b (by rw [hvv.out]), rfl⟩
structure Good (w : World) : Prop where
 shape : w.ShapedOpen Tryz.prog
 tab : Lib.TabIs Tryz.prog w "internal/strconv.uint64pow10" .u64 Lib.pow10Tab
 syn : ∃ tp p, w.var? Tryz.prog "strconv.ErrSyntax" = some #[.iface tp p]
def Env (w : World) : Prop := ∃ W0, Good W0 ∧ Below W0.heap.size W0 w
theorem Env.of {w : World} (h : Good w) : Env w := ⟨w, h, bR⟩
theorem Env.below {w w' : World} {B : Nat} (h : Env w) (hb : Below B w w') (hB : w.heap.size ≤ B) : Env w' := by
 obtain ⟨W0, h0, h1⟩ := h;have hs := h1.size;exact ⟨W0, h0, h1.trans (hb.mono (by omega))⟩
theorem var_lt {W : World} {n : String} {cs : Array Value} {g : Nat} (hg : Tryz.prog.globalNamed n = some g) (hv : W.var? Tryz.prog n = some cs) : g < W.heap.size := by
 unfold World.var? at hv;rw [hg] at hv
 rcases Nat.lt_or_ge g W.heap.size with h | h
 ·exact h
 ·simp [Array.getElem?_eq_none h] at hv
theorem Env.good {w : World} (h : Env w) : Good w := by
 obtain ⟨W0, h0, h1⟩ := h;have hblk : ∀ {k : Nat} {o : Obj}, W0.heap[k]? = some o → w.heap[k]? = some o := fun {k o} hk => (h1.block k (Array.getElem?_eq_some_iff.1 hk).1).trans hk
 obtain ⟨g1, e1⟩ : ∃ g, Tryz.prog.globalNamed "internal/strconv.uint64pow10" = some g := Option.isSome_iff_exists.1 (by kernel_rfl);obtain ⟨g2, e2⟩ : ∃ g, Tryz.prog.globalNamed "strconv.ErrSyntax" = some g := Option.isSome_iff_exists.1 (by kernel_rfl);refine ⟨⟨fun g zero t hg hr => ?_, fun k hk1 hk2 => ?_⟩, ?_, ?_⟩
 ·obtain ⟨cs, a, b, c⟩ := h0.shape.1 g zero t hg hr
  exact ⟨cs, hblk a, b, fun hb => Row.ok_of_shape (fun bb x hx => by
   unfold World.shape? at hx ⊢
   rcases Nat.lt_or_ge bb W0.heap.size with h | h
   ·rw [h1.block bb h]; exact hx
   ·simp [Array.getElem?_eq_none h] at hx) (c hb)⟩
 ·obtain ⟨o, o2, a, b⟩ := h0.shape.2 k hk1 hk2
  exact ⟨o, o2, hblk a, b⟩
 ·exact var?_below h1 e1 (var_lt e1 h0.tab) h0.tab
 ·obtain ⟨tp, p, hv⟩ := h0.syn
  exact ⟨tp, p, var?_below h1 e2 (var_lt e2 hv) hv⟩
theorem decimal_calls (n : Int) (h0 : -9223372036854775808 ≤ n) (h1 : n ≤ 9223372036854775807) (w : World) (he : Env w) :
  Calls Tryz.prog 56 #[.int .i64 n] w fun e w' => e = .returned (.string ⟨(Lib.itoa n).toArray⟩) ∧ Below w.heap.size w w' := by
 have q := hide (Tryz.strconv_FormatInt_10 n h0 h1 w he.good.tab);clear he;go_enter Tryz.func56, Tryz.ntmps56;go_wp2_with fail;refine q.out.mono ?_;rintro e w1 ⟨rfl, k, os, rfl⟩;go_wp2_with fail;go_ret;exact ⟨rfl, Lib.below_grow _ _ zR _ _⟩
theorem parse_short (l : List UInt8) (h : ¬ 18 < (Lib.trimPrefix l [45]).length) :
  (∃ v : Int, Lib.parseIntB 64 l = .ok v ∧ -9223372036854775808 ≤ v ∧ v ≤ 9223372036854775807) ∨ Lib.parseIntB 64 l = Lib.NumEnd.syntax := by
 cases l with
 | nil => exact .inr rfl
 | cons c r =>
  have key : ∀ t : List UInt8, t.length ≤ 18 → Lib.parseUintB 64 t = Lib.NumEnd.syntax ∨ ∃ u, Lib.parseUintB 64 t = .ok u ∧ u < 10 ^ 18 := by
   intro t ht;rw [parseUintB_short t ht]
   by_cases hd : t ≠ [] ∧ t.all isDig = true
   ·rw [if_pos hd]
    exact .inr ⟨_, rfl, valN_18 ht hd.2⟩
   ·rw [if_neg hd]
    exact .inl rfl
  have h18 : (10 : Nat) ^ 18 = 1000000000000000000 := by decide
  have h63 : (2 : Nat) ^ (64 - 1) = 9223372036854775808 := by decide
  rw [h18] at key;unfold Lib.parseIntB
  by_cases hs : c.toNat = 43 ∨ c.toNat = 45
  ·have hlen : r.length ≤ 18 := by
    by_cases hc : c = 45
    ·subst hc
     have : Lib.trimPrefix (45 :: r) [45] = r := by unfold Lib.trimPrefix Lib.hasPrefix; simp
     rw [this] at h;omega
    ·have : Lib.trimPrefix (c :: r) [45] = c :: r := by
      unfold Lib.trimPrefix Lib.hasPrefix;rw [if_neg]
      simp
      exact fun h => hc h.symm
     rw [this] at h;simp only [List.length_cons] at h;omega
   simp only [if_pos hs]
   rcases key _ hlen with h1 | ⟨u, h1, h2⟩
   ·right
    rw [h1]
   ·left
    rw [h1];simp only [h63];rw [if_neg (by omega), if_neg (by omega)]
    by_cases hn : c.toNat = 45
    ·simp only [hn, if_true]
     exact ⟨_, rfl, by omega, by omega⟩
    ·simp only [hn, if_false]
     exact ⟨_, rfl, by omega, by omega⟩
  ·have hlen : (c :: r).length ≤ 18 := by
    have : Lib.trimPrefix (c :: r) [45] = c :: r := by
     unfold Lib.trimPrefix Lib.hasPrefix;rw [if_neg]
     simp
     rintro rfl;exact hs (Or.inr rfl)
    rw [this] at h;omega
   simp only [if_neg hs]
   rcases key _ hlen with h1 | ⟨u, h1, h2⟩
   ·right
    rw [h1]
   ·left
    rw [h1];simp only [h63];rw [if_neg (by omega), if_neg (by omega)];have hn : ¬ c.toNat = 45 := fun e => hs (Or.inr e)
    simp only [hn, if_false];exact ⟨_, rfl, by omega, by omega⟩
def numR (o : Option Int) : Value := .tuple #[.int .i64 (o.getD 0), .bool o.isSome]
theorem numP_long {l : List UInt8} (h : 18 < (Lib.trimPrefix l [45]).length) : numP l = none := by unfold numP; rw [if_pos h]
theorem numP_syn {l : List UInt8} (h : Lib.parseIntB 64 l = Lib.NumEnd.syntax) : numP l = none := by unfold numP; rw [h]; split <;> rfl
theorem numP_ok {l : List UInt8} {v : Int} (hl : ¬ 18 < (Lib.trimPrefix l [45]).length) (h : Lib.parseIntB 64 l = .ok v) : numP l = if Lib.itoa v = l then some v else none := by unfold numP; rw [if_neg hl, h]
theorem bytes_eta (s : ByteArray) : (⟨s.data.toList.toArray⟩ : ByteArray) = s := by cases s; simp
theorem bytes_size (l : List UInt8) : (⟨l.toArray⟩ : ByteArray).size = l.length := by simp [ByteArray.size]
theorem bget (s : ByteArray) (k : Nat) (h : k < s.size) : s.data.toList[k]? = some s[k] := by
 rw [List.getElem?_eq_getElem (by simpa using h)]
 rfl
theorem bsize (s : ByteArray) : s.data.toList.length = s.size := by rw [Array.length_toList]; rfl
def mkB (l : List UInt8) : ByteArray := ⟨l.toArray⟩
theorem mkB_data (l : List UInt8) : (mkB l).data.toList = l := rfl
theorem mkB_size (l : List UInt8) : (mkB l).size = l.length := bytes_size l
theorem flat_strv : Flat strv 1 := ⟨fun _ => rfl, fun x u h => by simp [strv] at h; subst h; rfl⟩
theorem elem_str : Elem Tryz.prog 24 9 1 16 := Elem.of Tryz.underlying24 info_string rfl (by decide) (by decide)
theorem takeWhile_hit {c : UInt8} : ∀ {l : List UInt8} {k : Nat}, (∀ j x, j < k → l[j]? = some x → x ≠ c) → l[k]? = some c → (l.takeWhile (fun x => x != c)).length = k
 | [], k, _, h => by simp at h
 | y :: l, 0, _, h => by
  simp at h
  subst h
  simp
 | y :: l, k + 1, hn, h => by
  have hy : y ≠ c := hn 0 y (by omega) rfl;rw [List.takeWhile_cons_of_pos (by simpa using hy), List.length_cons, takeWhile_hit (l := l) (k := k) (fun j x hj hx => hn (j + 1) x (by omega) (by simpa using hx)) (by simpa using h)]
theorem takeWhile_all {c : UInt8} : ∀ {l : List UInt8}, (∀ (j : Nat) x, l[j]? = some x → x ≠ c) → (l.takeWhile (fun x => x != c)).length = l.length
 | [], _ => rfl
 | y :: l, hn => by
  have hy : y ≠ c := hn 0 y rfl;rw [List.takeWhile_cons_of_pos (by simpa using hy), List.length_cons, takeWhile_all (l := l) (fun j x hx => hn (j + 1) x (by simpa using hx)), List.length_cons]
def openN (s : ByteArray) : Nat := (s.data.toList.takeWhile (fun x => x != 40)).length
theorem l01Open_calls (s : ByteArray) (w : World) (hs : s.size ≤ 1048576) : Calls Tryz.prog 363 #[.string s] w fun e w' => e = .returned (.int .i64 (openN s)) ∧ w = w' := by
 go_enter Tryz.func363, Tryz.ntmps363
 go_wp2
 go_loop [3] (fun i => ∃ k : Nat, k ≤ s.size ∧ i = .int .i64 k ∧ Hid (∀ j x, j < k → s.data.toList[j]? = some x → x ≠ 40)) (fun i => s.size - (intOf i).toNat)
 case atStart => exact ⟨0, Nat.zero_le _, rfl, fun j x h => absurd h (by omega)⟩
 case round =>
  obtain ⟨k, hk, rfl, ha⟩ := hrel
  by_cases hlt : k < s.size
  ·have hg := bget s k hlt
   by_cases h40 : s[k] = 40
   ·have hv : Hid (openN s = k) := takeWhile_hit ha.out (by rw [hg, h40])
    have hc : ∀ h : k < s.size, (s[k].toNat : Int) = 40 := fun _ => by rw [h40]; rfl
    clear hg h40
    go_wp2
    go_ret;exact ⟨ret_i (by rw [hv.out]), rfl⟩
   ·have hnext : Hid (∀ j x, j < k + 1 → s.data.toList[j]? = some x → x ≠ 40) := fun j x hj hx => by
     rcases Nat.lt_or_ge j k with h1 | h1
     ·exact ha.out j x h1 hx
     ·have : j = k := by omega
      subst this;rw [hg] at hx
      cases hx
      exact h40
    have hne : (s[k].toNat : Int) ≠ 40 := fun h => h40 (UInt8.toNat_inj.1 (by simpa using (by omega : s[k].toNat = 40)))
    generalize hc : (s[k].toNat : Int) = c at *;have hgetk : ∀ h : k < s.size, (s[k].toNat : Int) = c := fun _ => hc
    have hcb : (c == 40) = false := by rw [beq_eq_false_iff_ne]; exact hne
    clear hg h40 hc hne
    go_wp2
    go_round
    case rel => exact ⟨k + 1, by omega, by go_num, hnext⟩
    case measure => simp [intOf]; omega
  ·have hkn : k = s.size := by omega
   subst hkn;have hv : Hid (openN s = s.size) := by
    show _ = _
    unfold openN;rw [takeWhile_all (fun j x hx => ha.out j x (by rw [← bsize]; exact (List.getElem?_eq_some_iff.1 hx).1) hx), bsize]
   go_wp2
   go_ret;exact ⟨ret_i (by rw [hv.out]), rfl⟩
theorem splitC_len (c : UInt8) : ∀ l : List UInt8, (splitC c l).length ≤ l.length + 1
 | [] => by simp [splitC]
 | x :: l => by
  have ih := splitC_len c l
  by_cases hx : x = c
  ·subst hx
   rw [splitC_ceq];simp only [List.length_cons];omega
  ·rw [splitC_cne hx]
   simp only [List.length_cons, List.length_tail];omega
theorem Own.litL {α : Type} {f : α → List Value} {w : World} {g base : Nat} {e : TypeId} {x : α} {u : Value} (h : w.heap[g]? = some (.cells #[u] e (0, 0))) (hf : f x = [u]) (hb : base ≤ g) : Own 1 f w base e (some ⟨g, 0, none⟩) 1 1 [x] :=
 ⟨rfl, by simp [hf], .inr ⟨g, 1, #[u], rfl, hb, h, zR, by unfold maxLen; omega, rfl, by simp [hf]⟩⟩
theorem strv_mapL (l : List ByteArray) : l.flatMap strv = l.map Value.string := by
 induction l with
 | nil => rfl
 | cons x l ih => rw [List.flatMap_cons, ih]; rfl
theorem Own.setS {w : World} {base g n c : Nat} {e : TypeId} {l : List ByteArray} (h : Own 1 strv w base e (some ⟨g, 0, none⟩) n c l) (k : Nat) (x : ByteArray) : Own 1 strv (w.setCell ⟨g, k, none⟩ (.string x)) base e (some ⟨g, 0, none⟩) n c (l.set k x) := by
 rcases h.2.2 with ⟨hv, -⟩ | ⟨g', cap, cur, hv, hb, hg, hnc, hcm, hcs, htake⟩
 ·cases hv
 ·cases hv
  refine ⟨by rw [List.length_set]; exact h.1, by rw [flat_length flat_strv, List.length_set]; have := h.1; omega, .inr ⟨g, c, cur.setIfInBounds k (.string x), rfl, hb, heap_setCell_same _ _ k _ _ _ hg, hnc, hcm, by simpa using hcs, ?_⟩⟩;rw [Array.toList_setIfInBounds, List.take_set, htake, strv_mapL, strv_mapL, List.map_set]
theorem step_appL {P : Program} {α : Type} {size bytes : Nat} {f : α → List Value} {t e : TypeId} {w : World} {ops : Array Oper} {o : Oper} {a : Act} {K : Act → World → Prop} {Q : Exit → Act → World → Prop} {E : Prop} (hgd : o.guard = none) (s x : Operand)
  (ho : o.op = .call { callee := .builtin .append, args := #[s, x], argTypes := #[t, t] }) (hE : Elem P t e size bytes) (hf : Flat f size)
  {base n c : Nat} {A : Option Addr} {l : List α} (hs : a.eval s = .slice A n c) (hown : Own size f w base e A n c l)
  {B : Option Addr} {m d lo hi : Nat} {r : List α} (hx : a.eval x = .slice B m d) (hr : Sl size f w lo hi B m r) (hsz : (n + m) * bytes ≤ 140737488355328) (hbase : base ≤ w.heap.size)
  (h : ∀ A' c' w', Own size f w' base e A' (n + m) c' (l ++ r) → w.grownBy w' (Value.slice A n c).ownBlock → Below base w w' →
   ((Value.slice A' (n + m) c').ownBlock = (Value.slice A n c).ownBlock ∨ (Value.slice A' (n + m) c').ownBlock = some w.heap.size) → K (a.put o.dst (.slice A' (n + m) c')) w') :
  if Region.wanted o (yielded ops a.tmps) = true then Oper.wp P o a w K Q else E := by
 have hw : Region.wanted o (yielded ops a.tmps) = true := by simp [Region.wanted, hgd]
 rw [if_pos hw];obtain ⟨A', c', w', h1, h2, h3, h4⟩ := run_app w hE hf o.type hown (d := d) hr hsz hbase;unfold Oper.wp execOp;simp only [ho, resolve, invoke, builtin, Sem.run_bind, Sem.run_pure, Result.andThen_ok, List.map_toArray, List.map_cons, List.map_nil, hs, hx, h1];exact h _ _ _ h2 h3 (bR.grown h3 hbase fun k hk => (hown.lt k hk).1) h4
theorem readDecimal_calls (s : ByteArray) (hs : s.size ≤ 1048576) (w : World) (he : Env w) :
  Calls Tryz.prog 115 #[.string s] w fun e w' => e = .returned (numR (numS s.data.toList)) ∧ Below w.heap.size w w' := by
 rw [← numP_eq];have q1 : Calls Tryz.prog 213 #[.string s, .string ⟨#[45]⟩] w fun e w' => e = .returned (.string ⟨(Lib.trimPrefix s.data.toList [45]).toArray⟩) ∧ w' = w := Tryz.strings_TrimPrefix s ⟨#[45]⟩ w
 have hsz := bytes_size (Lib.trimPrefix s.data.toList [45]);generalize (⟨(Lib.trimPrefix s.data.toList [45]).toArray⟩ : ByteArray) = t at *;replace q1 := hide q1
 by_cases hl : 18 < (Lib.trimPrefix s.data.toList [45]).length
 ·have hv := hide (numP_long hl)
  have hlt : (18 : Int) < (t.size : Int) := by omega
  clear hl hsz he;go_enter Tryz.func115, Tryz.ntmps115;go_wp2_with fail;refine q1.out.mono ?_;rintro e w1 ⟨rfl, rfl⟩;go_wp2_with fail;go_ret2;exact ⟨by rw [hv.out]; rfl, bR⟩
 ·have hlt : ¬ (18 : Int) < (t.size : Int) := by omega
  clear hsz
  rcases parse_short _ hl with ⟨v, hp, hb0, hb1⟩ | hp
  ·have q2 := hide (((Tryz.strconv_ParseInt_10_at64_ok s (by omega) v hp w).mono fun e w' ⟨a, b⟩ => ⟨a, b.elim (fun h => h ▸ bR) (fun ⟨t, h⟩ => h ▸ Lib.bytesWorld_below _ _ _)⟩ :
    Calls Tryz.prog 214 #[.string s, .int .i64 10, .int .i64 64] w fun e w' => e = .returned (.tuple #[.int .i64 v, .nilIface]) ∧ Below w.heap.size w w'))
   have q3 := hide (fun W (hW : Below w.heap.size w W) => decimal_calls v hb0 hb1 W (he.below hW zR));have hv := hide (numP_ok hl hp);clear hl hp he hb0 hb1
   by_cases hi : Lib.itoa v = s.data.toList
   ·have hq : (⟨(Lib.itoa v).toArray⟩ : ByteArray) = s := by rw [hi, bytes_eta]
    have hv2 : Hid (numP s.data.toList = some v) := by show _ = _; rw [hv.out, if_pos hi]
    rw [hq] at q3;clear hv hi hq;go_enter Tryz.func115, Tryz.ntmps115;go_wp2_with fail;refine q1.out.mono ?_;rintro e w1 ⟨rfl, rfl⟩;go_wp2_with fail;refine q2.out.mono ?_;rintro e w2 ⟨rfl, hb2⟩;go_wp2_with fail;refine (q3.out _ hb2).mono ?_;rintro e w3 ⟨rfl, hb3⟩;go_wp2_with fail;go_ret2;exact ⟨by rw [hv2.out]; rfl, hb2.trans (hb3.mono hb2.size)⟩
   ·have hq : (⟨(Lib.itoa v).toArray⟩ : ByteArray) ≠ s := by
     intro h
     apply hi
     rw [← h]
    have hv2 : Hid (numP s.data.toList = none) := by show _ = _; rw [hv.out, if_neg hi]
    have hne := str_neq hq;clear hv hi hq;generalize (⟨(Lib.itoa v).toArray⟩ : ByteArray) = u at *;go_enter Tryz.func115, Tryz.ntmps115;go_wp2_with fail;refine q1.out.mono ?_;rintro e w1 ⟨rfl, rfl⟩;go_wp2_with fail;refine q2.out.mono ?_;rintro e w2 ⟨rfl, hb2⟩;go_wp2_with fail;refine (q3.out _ hb2).mono ?_;rintro e w3 ⟨rfl, hb3⟩;go_wp2_with fail;go_ret2;exact ⟨by rw [hv2.out]; rfl, hb2.trans (hb3.mono hb2.size)⟩
  ·obtain ⟨tp, p, hvar⟩ := he.good.syn
   have q2 := hide (((Tryz.strconv_ParseInt_10_at64_syntax_var s (by omega) hp tp p w hvar).mono fun e w' ⟨N, a, _, _, b⟩ => ⟨N, a, b⟩ :
    Calls Tryz.prog 214 #[.string s, .int .i64 10, .int .i64 64] w fun e w' => ∃ N, e = .returned (.tuple #[.int .i64 0, .iface 317 (.pointer (some ⟨N, 0, none⟩))]) ∧ Below w.heap.size w w'))
   have hv := hide (numP_syn hp);clear hl hp he hvar;go_enter Tryz.func115, Tryz.ntmps115;go_wp2_with fail;refine q1.out.mono ?_;rintro e w1 ⟨rfl, rfl⟩;go_wp2_with fail;refine q2.out.mono ?_;rintro e w2 ⟨N, rfl, hb2⟩;go_wp2_with fail;go_ret2;exact ⟨by rw [hv.out]; rfl, hb2⟩
def nameL (l : List UInt8) : Bool := nameB (mkB l)
def labS (s : ByteArray) : Bool := (valsS nameL s.data.toList).isSome
theorem nameL_data (s : ByteArray) : nameL s.data.toList = nameB s := by unfold nameL mkB; rw [bytes_eta]
def actB (s : ByteArray) : Bool := nameB s && !(decide (s = tauB))
theorem tau_list : tauB.toList = [116, 97, 117] := ByteArray.toList_mk _
theorem tau_ne {s : ByteArray} (h : s ≠ tauB) : (s.toList == [116, 97, 117]) = false := by rw [← tau_list]; exact str_neq h
theorem numsOf_none {f : List UInt8 → Option Int} : ∀ {l : List (List UInt8)} {k : Nat} {x : List UInt8}, l[k]? = some x → f x = none → numsOf f l = none
 | [], k, x, h, _ => by simp at h
 | y :: l, 0, x, h, hf => by
  simp at h
  subst h;unfold numsOf;rw [hf]
 | y :: l, k + 1, x, h, hf => by
  unfold numsOf;rw [numsOf_none (l := l) (k := k) (by simpa using h) hf]
  split
  ·rename_i h1; cases h1
  ·rfl
theorem splitC_mem_len (c : UInt8) : ∀ (l x : List UInt8), x ∈ splitC c l → x.length ≤ l.length
 | [], x, h => by simp [splitC] at h; subst h; simp
 | y :: l, x, h => by
  have ih := splitC_mem_len c l
  by_cases hy : y = c
  ·subst hy
   rw [splitC_ceq, List.mem_cons] at h
   rcases h with rfl | h
   ·simp
   ·have := ih x h
    simp only [List.length_cons];omega
  ·rw [splitC_cne hy, List.mem_cons] at h
   obtain ⟨p, ps, hp⟩ := List.exists_cons_of_ne_nil (splitC_ne c l);rw [hp] at h ih;simp only [List.headD_cons, List.tail_cons] at h
   rcases h with rfl | h
   ·have := ih p (by simp)
    simp only [List.length_cons];omega
   ·have := ih x (List.mem_cons_of_mem _ h)
    simp only [List.length_cons];omega
theorem elem_int : Elem Tryz.prog 32 2 1 8 := Elem.of Tryz.underlying32 info_int64 rfl (by decide) (by decide)
theorem labS_miss {s : ByteArray} (hn : (40 : UInt8) ∉ s.data.toList) : labS s = nameB s := by
 unfold labS valsS;rw [if_pos hn, nameL_data]
 cases nameB s <;> rfl
theorem numsOf_snoc {f : List UInt8 → Option Int} : ∀ {l : List (List UInt8)} {ns : List Int} {x : List UInt8} {v : Int}, numsOf f l = some ns → f x = some v → numsOf f (l ++ [x]) = some (ns ++ [v])
 | [], ns, x, v, h, hf => by
  cases h
  show numsOf f [x] = _
  unfold numsOf;rw [hf]
  rfl
 | y :: l, ns, x, v, h, hf => by
  unfold numsOf at h
  split at h
  ·rename_i n ms hn hm
   cases h
   rw [List.cons_append];unfold numsOf;rw [hn, numsOf_snoc hm hf]
   rfl
  ·cases h
def dataL (l : List ByteArray) : List (List UInt8) := l.map (·.data.toList)
def NumsR (w w' : World) (n : Nat) (o : Option (List Int)) (e : Ending) : Prop :=
 match o with
 | none => e = .returned (.tuple #[.slice none 0 0, .bool false])
 | some ns => ∃ A c, e = .returned (.tuple #[.slice A n c, .bool true]) ∧ SlI w' w.heap.size w'.heap.size A n ns
theorem readNumbers_calls (A : Option Addr) (n c : Nat) (l : List ByteArray) (w : World) (lo hi : Nat) (h : SlS w lo hi A n l) (hn : n ≤ 1048577) (hs : ∀ s ∈ l, s.size ≤ 1048576) (he : Env w) :
  Calls Tryz.prog 51 #[.slice A n c] w fun e w' => NumsR w w' n (numsOf numS (dataL l)) e ∧ Below w.heap.size w w' := by
 have hE := hide elem_int;have hlen := hide h.len;replace hs := hide hs;go_enter Tryz.func51, Tryz.ntmps51
 go_wp2
 go_loopw [4, 11] (fun o i wr => ∃ (k : Nat) (A5 : Option Addr) (c5 : Nat) (L : List Int), k ≤ n ∧ o = .slice A5 k c5 ∧ i = .int .i64 (k : Nat) ∧ Hid (Own 1 iv wr w.heap.size 2 A5 k c5 L) ∧ Hid (numsOf numS ((dataL l).take k) = some L) ∧ Below w.heap.size w wr) (fun _ i _ => n - (intOf i).toNat)
 case atStart => exact ⟨0, none, 0, [], Nat.zero_le _, rfl, rfl, Own.nil_ _ _ _, rfl, bR⟩
 case round =>
  obtain ⟨k, A5, c5, L, hk, rfl, rfl, hown, hall, hb⟩ := hrel;have hz := hb.size
  by_cases hlt : k < n
  ·obtain ⟨bb, off, x, rfl, g1, g2, g3, hx, cc0, -⟩ := SlS.get h hlt
   replace cc0 := (hb.cell (p := ⟨bb, off + k, none⟩) g3).trans cc0;have hx2 : (dataL l)[k]? = some x.data.toList := by unfold dataL; rw [List.getElem?_map, hx]; rfl
   have q3 := readDecimal_calls x (hs.out x (List.mem_of_getElem? hx)) wr (he.below hb zR);have htk : (dataL l).take (k + 1) = (dataL l).take k ++ [x.data.toList] := by rw [List.take_add_one, hx2]; rfl
   cases hnx : numS x.data.toList with
   | none =>
    have hv : Hid (numsOf numS (dataL l) = none) := numsOf_none hx2 hnx;rw [hnx] at q3;have q4 : Hid (Calls Tryz.prog 115 #[.string x] wr fun e w' => e = .returned (.tuple #[.int .i64 0, .bool false]) ∧ Below wr.heap.size wr w') := q3;clear hx hx2 hnx q3 htk hall hown h he;go_wp2_with fail;refine q4.out.mono ?_;rintro e w2 ⟨rfl, hb2⟩;go_wp2_with fail;go_ret2;refine ⟨?_, hb.trans (hb2.mono hz)⟩;rw [hv.out]
    rfl
   | some v =>
    have hnext : Hid (numsOf numS ((dataL l).take (k + 1)) = some (L ++ [v])) := by
     show _ = _
     rw [htk];exact numsOf_snoc hall.out hnx
    rw [hnx] at q3;have q4 : Hid (Calls Tryz.prog 115 #[.string x] wr fun e w' => e = .returned (.tuple #[.int .i64 v, .bool true]) ∧ Below wr.heap.size wr w') := q3;clear hx hx2 hnx q3 htk hall h he;go_wp2_with fail;refine q4.out.mono ?_;rintro e w2 ⟨rfl, hb2⟩;have hown2 := hide (hown.out.below hb2 zR);have hb3 := hb.trans (hb2.mono hz);have hz3 := hb3.size;have hza : ∀ o, w.heap.size ≤ (w2.alloc o).heap.size := fun o => by rw [World.size_alloc]; omega
    clear hb2 hown;go_wp2_with (first | (at_builtin; (with_reducible refine wpList_app rfl (.tmp 22) (.tmp 24) rfl hE.out flat_iv rfl (hown2.out.alloc _) rfl (Sl.lit1' w2 2 v _ rfl 1 _ ?c0) ?c1 (hza _) ?_); rotate_right; intro A7 c7 w7 hown7 hgr7 hb7 _))
    case c0 => rfl
    case c1 => omega
    go_roundw
    case rel => exact ⟨k + 1, A7, c7, L ++ [v], by omega, rfl, by go_num, hown7, hnext, (hb3.alloc hz3 _).trans hb7⟩
    case measure => simp [intOf]; omega
  ·have hkn : k = n := by omega
   subst hkn;have hv : Hid (numsOf numS (dataL l) = some L) := by
    have := hall.out;rw [List.take_of_length_le (by unfold dataL; rw [List.length_map, hlen.out]; exact zR)] at this;exact this
   go_wp2_with fail;go_ret2
   refine ⟨?_, hb⟩;rw [hv.out];exact ⟨A5, c5, rfl, hown.out.sl flat_iv⟩
theorem isValue_calls (v : Int) (w : World) : Calls Tryz.prog 362 #[.int .i64 v] w fun e w' => e = .returned (.bool (inB v 0 63)) ∧ w = w' := by
 have q := hide (within_calls v 0 63 w);go_enter Tryz.func362, Tryz.ntmps362;go_wp2_with fail;refine q.out.mono ?_;rintro e w1 ⟨rfl, rfl⟩;go_wp2_with fail;go_ret;exact ⟨rfl, rfl⟩
theorem areValues1_calls (v : Int) (w : World) : Calls Tryz.prog 361 #[.int .i64 v] w (Says (!(inB v 0 63)) w) := by
 have q := hide (isValue_calls v w);go_enter Tryz.func361, Tryz.ntmps361;go_wp2_with fail;refine q.out.mono ?_;rintro e w1 ⟨rfl, rfl⟩;go_wp2_with fail;go_ret;exact ⟨rfl, bR⟩
theorem areValues_calls (A : Option Addr) (n c : Nat) (L : List Int) (w : World) (lo hi : Nat) (h : SlI w lo hi A n L) (hn : n ≤ 1048576) :
  Calls Tryz.prog 317 #[.slice A n c] w (Says (L.all isVal) w) := by
 have q := hide (containsFuncI_calls 361 #[] (fun v => !(inB v 0 63)) A n c L w lo hi h hn (fun v W => by kernel_rfl) (fun v W _ => areValues1_calls v W));have hv : Hid (L.all isVal = !(L.any fun v => !(inB v 0 63))) := by
  show _ = _
  have : isVal = fun v => inB v 0 63 := rfl
  rw [this, List.not_any_eq_all_not]
  simp
 clear h;go_enter Tryz.func317, Tryz.ntmps317;go_wp2_with fail;refine q.out.mono ?_;rintro e w1 ⟨rfl, hb⟩;go_wp2_with fail;go_ret;exact ⟨ret_b (by rw [hv.out]), hb⟩
theorem join_len (sep : List UInt8) (m : Nat) : ∀ xs : List (List UInt8), (∀ x ∈ xs, x.length ≤ m) → (Lib.join xs sep).length ≤ xs.length * (m + sep.length)
 | [], _ => by rw [Lib.join_nil]; simp
 | [x], h => by
  rw [Lib.join_one];have := h x (by simp)
  simp
  omega
 | x :: y :: r, h => by
  have ih := join_len sep m (y :: r) (fun z hz => h z (List.mem_cons_of_mem _ hz));have hx := h x (by simp);rw [join_cons2, List.length_append, List.length_append, List.length_cons, Nat.add_mul];omega
def decB (n : Int) : ByteArray := ⟨(Lib.itoa n).toArray⟩
theorem joined_calls (A : Option Addr) (n c : Nat) (L : List Int) (w : World) (lo hi : Nat) (h : SlI w lo hi A n L) (hn : n ≤ 1048576) (hL : ∀ v ∈ L, -9223372036854775808 ≤ v ∧ v ≤ 9223372036854775807) (he : Env w) :
  Calls Tryz.prog 55 #[.slice A n c, .string ⟨#[44]⟩] w fun e w' => e = .returned (.string (mkB (Lib.join (L.map Lib.itoa) [44]))) ∧ Below w.heap.size w w' := by
 obtain ⟨i0, hi0, hz0, hz1, hz2⟩ := info_parts info_string;have hmk := fun W => make_row (P := Tryz.prog) 24 9 i0 _ _ n Tryz.underlying24 hi0 hz0 hz1 (by rw [hz2]; omega) (by omega) W
 clear hi0 hz0 hz1 hz2;have hlen := hide h.len;replace hL := hide hL;go_enter Tryz.func55, Tryz.ntmps55
 go_wp2
 go_loopw [13] (fun i wr => ∃ k : Nat, k ≤ n ∧ i = .int .i64 k ∧ Below w.heap.size w wr ∧ Fill 1 strv wr w.heap.size 9 n k (L.map decB)) (fun i _ => n - (intOf i).toNat)
 case atStart => exact ⟨0, Nat.zero_le _, rfl, bR.alloc zR _, Fill.start _ _ _ _ (by simp [madeCells])⟩
 case round =>
  obtain ⟨k, hk, rfl, hb, hf⟩ := hrel;clear hmk
  by_cases hlt : k < n
  ·obtain ⟨b, off, x, rfl, g1, g2, g3, hx, c0, -⟩ := h.get hlt
   replace c0 := (hb.cell (p := ⟨b, off + k, none⟩) g3).trans c0;have hxb := hL.out x (List.mem_of_getElem? hx);have q := hide (decimal_calls x hxb.1 hxb.2 wr (he.below hb zR));have hx2 : Hid ((L.map decB)[k]? = some (decB x)) := by show _ = _; rw [List.getElem?_map, hx]; rfl
   clear h hx hxb he;go_wp2_with fail;refine q.out.mono ?_;rintro e w1 ⟨rfl, hb1⟩;have hf1 := hf.keep (hb1.block _ hf.lt);obtain ⟨v0, d0⟩ := hf1.cell (i := k) (by omega);have z0 := hf1.frozen k;go_wp2_with fail;go_roundw
   case rel => exact ⟨k + 1, by omega, by go_num, (hb.trans (hb1.mono hb.size)).setCell zR _, hf1.set1 hlt (fun _ => rfl) hx2.out rfl⟩
   case measure => simp [intOf]; omega
  ·have hkn : k = n := by omega
   subst hkn;have hml : (L.map decB).length = k := by rw [List.length_map]; exact hlen.out
   have hsl := hf.done hml zR hf.lt;have hdat : (L.map decB).map (·.data.toList) = L.map Lib.itoa := by rw [List.map_map]; rfl
   have hjl := join_len [44] 21 (L.map Lib.itoa) (fun y hy => by
    obtain ⟨v, hv, rfl⟩ := List.mem_map.1 hy;exact Lib.itoa_length_le v (hL.out v hv).1 (hL.out v hv).2)
   rw [List.length_map, hlen.out, show 21 + ([44] : List UInt8).length = 22 from rfl] at hjl;have q : Calls Tryz.prog 123 #[.slice (some ⟨w.heap.size, 0, none⟩) k k, .string ⟨#[44]⟩] wr fun e w' => e = .returned (.string (mkB (Lib.join (L.map Lib.itoa) [44]))) ∧ Below wr.heap.size wr w' := by
    have := Tryz.strings_Join w.heap.size 0 k (L.map decB) ⟨#[44]⟩ wr (fun j x hx => by
     have hj : j < k := by rw [← hml]; exact (List.getElem?_eq_some_iff.1 hx).1
     obtain ⟨b, off, e1, _, _, _, hcell⟩ := hsl.at_ (by omega);cases e1;have := (hcell j x hx 0 _ rfl).1
     simpa using this) hf.lt (by rw [hml]; omega) (by rw [hml]; exact zR) (by
      rw [hdat]
      show (Lib.join (L.map Lib.itoa) [44]).length ≤ _
      omega)
    rw [hml, hdat] at this;exact this
   replace q := hide q;clear h hsl hdat hjl he;go_wp2_with fail;refine q.out.mono ?_;rintro e w1 ⟨rfl, hb1⟩;go_wp2_with fail;go_ret;exact ⟨rfl, hb.trans (hb1.mono hb.size)⟩
end Go.Proofs.YtnhomkmfbngmgaaGreatDoor
