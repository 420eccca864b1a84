/-
  Lemmas that the law of this claim leans on. Conditions: sizes.
-/
import Derived.Shelf.Strings.Builder1
import Derived.Shelf.Strings.Builder2
import Derived.Shelf.Strings.OnBuilder
import Derived.Shelf.Small.Bits
import Derived.Shelf.Small.Strs
import Derived.Shelf.Strings.BuilderF
import Derived.Shelf.Strings.BuilderK
import Derived.Shelf.Utf8.RuneCount
import Derived.Shelf.Strconv.Itoa0
import Derived.Shelf.Strconv.Itoa1
import Derived.Shelf.LaysM
import Derived.Shelf.Strconv.Itoa2
import Derived.Shelf.Strconv.Itoa3
import Derived.Shelf.Strconv.Itoa4
import Derived.Shelf.Strconv.ParseIntEmpty
import Derived.Shelf.Strconv.Clone
import Derived.Shelf.Strconv.SyntaxError
import Derived.Shelf.LaysC
import Derived.Shelf.Strconv.ToError
import Derived.Shelf.Strconv.Lower
import Derived.Shelf.Strconv.ParseUint10
import Derived.Shelf.Strconv.ParseUint10Empty
import Derived.Shelf.Strconv.ParseUint10Any
import Derived.Shelf.Strconv.ParseInt10
import Derived.Shelf.Strconv.RangeError
import Derived.Shelf.Strconv.ToErrorRange
import Derived.Shelf.Strconv.ParseUintEmpty
import Derived.Shelf.Strconv.ParseUint10b64
import Derived.Shelf.Strconv.ParseUint10b32
import Derived.Shelf.Strconv.ParseUint10b16
import Derived.Shelf.Strconv.ParseUint10b8
import Derived.Shelf.Strconv.ParseUint10At
import Derived.Shelf.Strconv.ParseInt10At64
import Derived.Shelf.Strconv.ParseInt10At32
import Derived.Shelf.Strconv.ParseInt10At16
import Derived.Shelf.Strconv.ParseInt10At8
import Derived.Shelf.Strconv.ParseInt10All
import Derived.Shelf.Strconv.ParseIntPublic10
import Derived.Shelf.Strconv.ErrVarParseInt
import Derived.Shelf.Strings.Search1
import Derived.Shelf.Strings.Search2
import Derived.Shelf.Strings.Search3
import Derived.Shelf.Strings.Cut
import Derived.Shelf.Strings.Count
import Derived.Shelf.Strings.Shaped
import Derived.Shelf.Strings.Prefix
import Derived.Shelf.Strings.Split
import Derived.Shelf.Strings.SplitShaped
import Derived.Shelf.Unicode.Decode
import Derived.Shelf.Strings.RuneCount
import Derived.Shelf.Strings.Explode
import Derived.Shelf.Bits.Mul64
import Derived.Shelf.Unicode.DecodeSlow
import Derived.Shelf.Unicode.DecodeAny
import Derived.Shelf.Slices.Turned
import Derived.Shelf.Slices.Equal
import Derived.Ground.Names2Prog
import Derived.Shelf.Slices.Clone
import Derived.Shelf.Slices.CompactS
import Derived.Shelf.Slices.Cells
import Derived.Shelf.Slices.Empties2
import Derived.Ground.SlgnProg
import Derived.Shelf.SlicesG.Turned
import Derived.Shelf.SlicesG.Clone
import Derived.Shelf.SlicesG.CompactI
import Derived.Shelf.SlicesG.SearchI
import Derived.Shelf.SlicesG.Cells
import Derived.Shelf.SlicesE.Clone
import Derived.Ground.SlgcProg
import Derived.Shelf.SlicesG.Cmp
import Derived.Ground.SlsfProg
import Derived.Shelf.SlSortCmp.Insertion
import Derived.Ground.SlgmProg
import Derived.Shelf.SortM.Plain
import Derived.Shelf.SortM.SortNone
import Derived.Shelf.SlSortCmp.SiftDown1
import Derived.Shelf.SlSortCmp.HeapSort1
import Derived.Shelf.SlSortCmp.Insertion1
import Derived.Shelf.SlSortCmp.Median1
import Derived.Shelf.SlSortCmp.Pivot1
import Derived.Shelf.SlSortCmp.ReverseRange1
import Derived.Shelf.SlSortCmp.PartialInsertion1
import Derived.Shelf.SlSortCmp.PartitionEqual1
import Derived.Shelf.SlSortCmp.Partition1
import Derived.Shelf.SlSortCmp.Pdq1
import Derived.Shelf.SlSortCmp.Whole1
import Derived.Test.YtnhomkmfbngmgaaGreatDoorProg
import Derived.Lib.ParseIntB
import Derived.Lib.ItoaNum
import Derived.Lib.Strings
import Derived.Lib.Split
import Derived.Lib.Join
import Derived.WalkKit
import Derived.ProofKit
import Derived.OpenShut
import Derived.Handy
import Derived.Below
import Derived.Deep.Draws
import Derived.Laws.MakeOwn
import Derived.Test.YtnhomkmfbngmgaaGreatDoorRows
import Derived.LoopTactic
import Derived.Deep.QuietTactic
import Derived.BigQuiet
import Derived.Deep.Slices
import Derived.Deep.Fields
import Derived.ChangeSame
import Derived.ChangeOld
import Derived.Maps.AppendAt
import Derived.Laws.OwnMore
import Derived.OwnWalk
set_option linter.unusedSimpArgs false
set_option linter.unusedVariables false
namespace Go.Proofs
open Go.Shelf
def Tryz.lays156_ren : Go.Shelf.Ren := ⟨fun | 156 => 123 | 165 => 217 | 166 => 218 | 169 => 219 | 240 => 275 | 241 => 276 | 276 => 333 | 277 => 334 | n => n, fun | 31 => 24 | 9 => 9 | 3 => 3 | 4 => 4 | 0 => 0 | 20 => 20 | 72 => 234 | 76 => 236 | 70 => 232 | 37 => 22 | 75 => 224 | 127 => 277 | 164 => 320 | 5 => 5 | 80 => 238 | n => n, fun | n => n⟩
theorem Tryz.lays156 : Go.Proofs.Lays.n156 Tryz.prog Tryz.lays156_ren := {
 mixed := by kernel_rfl
 f156 := Tryz.func123.trans (congrArg some (by kernel_rfl))
 f165 := Tryz.func217.trans (congrArg some (by kernel_rfl))
 f166 := Tryz.func218.trans (congrArg some (by kernel_rfl))
 f169 := Tryz.func219.trans (congrArg some (by kernel_rfl))
 f240 := Tryz.func275.trans (congrArg some (by kernel_rfl))
 f241 := Tryz.func276.trans (congrArg some (by kernel_rfl))
 f276 := Tryz.func333.trans (congrArg some (by kernel_rfl))
 f277 := Tryz.func334.trans (congrArg some (by kernel_rfl))
 t0 := Tryz.underlying0
 a0 := Tryz.isAgg0
 z0 := Tryz.sizeOf0
 v0 := Tryz.zeroValue0
 t3 := Tryz.underlying3
 a3 := Tryz.isAgg3
 z3 := Tryz.sizeOf3
 v3 := Tryz.zeroValue3
 t4 := Tryz.underlying4
 a4 := Tryz.isAgg4
 z4 := Tryz.sizeOf4
 v4 := Tryz.zeroValue4
 t9 := Tryz.underlying9
 a9 := Tryz.isAgg9
 z9 := Tryz.sizeOf9
 v9 := Tryz.zeroValue9
 t20 := Tryz.underlying20
 a20 := Tryz.isAgg20
 z20 := Tryz.sizeOf20
 v20 := Tryz.zeroValue20
 t31 := Tryz.underlying24
 a31 := Tryz.isAgg24
 z31 := Tryz.sizeOf24
 v31 := Tryz.zeroValue24
 t37 := Tryz.underlying22
 a37 := Tryz.isAgg22
 z37 := Tryz.sizeOf22
 v37 := Tryz.zeroValue22
 t70 := Tryz.underlying232
 a70 := Tryz.isAgg232
 z70 := Tryz.sizeOf232
 v70 := Tryz.zeroValue232
 t72 := Tryz.underlying234
 a72 := Tryz.isAgg234
 z72 := Tryz.sizeOf234
 v72 := Tryz.zeroValue234
 t75 := Tryz.underlying224
 a75 := Tryz.isAgg224
 z75 := Tryz.sizeOf224
 v75 := Tryz.zeroValue224
 t76 := Tryz.underlying236
 a76 := Tryz.isAgg236
 z76 := Tryz.sizeOf236
 v76 := Tryz.zeroValue236
 t127 := Tryz.underlying277
 a127 := Tryz.isAgg277
 z127 := Tryz.sizeOf277
 v127 := Tryz.zeroValue277
 t164 := Tryz.underlying320
 a164 := Tryz.isAgg320
 z164 := Tryz.sizeOf320
 v164 := Tryz.zeroValue320 }
theorem Tryz.Builder_Extra_156 : Builder.Extra Tryz.prog Tryz.lays156_ren := {
 sizeBuilder := by kernel_rfl
 liesBuilder := by kernel_rfl
 t5 := Tryz.underlying5
 a5 := Tryz.isAgg5
 z5 := Tryz.sizeOf5
 v5 := Tryz.zeroValue5
 infoByte := by kernel_rfl
 cellsByte := by kernel_rfl
 sizeByte := by kernel_rfl
 neB5 := by decide }
open Go.RowKit in
theorem Tryz.strings_Join (bk o c : Nat) (xs : List ByteArray) (sep : ByteArray) (w : World) (hcells : ∀ (j : Nat) x, xs[j]? = some x → w.cell? ⟨bk, o + j, none⟩ = some (.string x)) (hbk : bk < w.heap.size) (hN : xs.length ≤ 140737488355328) (hcap : xs.length ≤ c) (hlen : (Lib.join (xs.map (·.data.toList)) sep.data.toList).length ≤ 140737488355328) :
  Calls Tryz.prog 123 #[.slice (some ⟨bk, o, none⟩) xs.length c, .string sep] w fun e w' => e = .returned (.string ⟨(Lib.join (xs.map (·.data.toList)) sep.data.toList).toArray⟩) ∧ Below w.heap.size w w' := Any.strings_Join Tryz.lays156 Tryz.Builder_Extra_156 bk o c xs sep w hcells hbk hN hcap hlen
def Tryz.laysM173_ren : Go.Shelf.Ren := ⟨fun | 173 => 124 | 246 => 220 | 283 => 277 | 284 => 278 | 285 => 279 | 286 => 280 | 129 => 290 | 317 => 335 | 318 => 336 | 319 => 337 | 320 => 338 | 337 => 372 | 338 => 373 | n => n, fun | 2 => 2 | 3 => 3 | 9 => 9 | 4 => 4 | 171 => 278 | 0 => 0 | 53 => 137 | 37 => 22 | 5 => 5 | 173 => 281 | 212 => 324 | 51 => 292 | 20 => 20 | 213 => 325 | 46 => 243 | 232 => 363 | 233 => 364 | n => n, fun | 17 => 1 | 18 => 6 | 19 => 7 | n => n⟩
theorem Tryz.laysM173 : Go.Proofs.LaysM.n173 Tryz.prog Tryz.laysM173_ren := {
 mixed := by kernel_rfl
 f129 := Tryz.func290.trans (congrArg some (by kernel_rfl))
 f173 := Tryz.func124.trans (congrArg some (by kernel_rfl))
 f246 := Tryz.func220.trans (congrArg some (by kernel_rfl))
 f283 := Tryz.func277.trans (congrArg some (by kernel_rfl))
 f284 := Tryz.func278.trans (congrArg some (by kernel_rfl))
 f285 := Tryz.func279.trans (congrArg some (by kernel_rfl))
 f286 := Tryz.func280.trans (congrArg some (by kernel_rfl))
 f317 := Tryz.func335.trans (congrArg some (by kernel_rfl))
 f318 := Tryz.func336.trans (congrArg some (by kernel_rfl))
 f319 := Tryz.func337.trans (congrArg some (by kernel_rfl))
 f320 := Tryz.func338.trans (congrArg some (by kernel_rfl))
 f337 := Tryz.func372.trans (congrArg some (by kernel_rfl))
 f338 := Tryz.func373.trans (congrArg some (by kernel_rfl))
 t0 := Tryz.underlying0
 a0 := Tryz.isAgg0
 z0 := Tryz.sizeOf0
 v0 := Tryz.zeroValue0
 t2 := Tryz.underlying2
 a2 := Tryz.isAgg2
 z2 := Tryz.sizeOf2
 v2 := Tryz.zeroValue2
 t3 := Tryz.underlying3
 a3 := Tryz.isAgg3
 z3 := Tryz.sizeOf3
 v3 := Tryz.zeroValue3
 t4 := Tryz.underlying4
 a4 := Tryz.isAgg4
 z4 := Tryz.sizeOf4
 v4 := Tryz.zeroValue4
 t5 := Tryz.underlying5
 a5 := Tryz.isAgg5
 z5 := Tryz.sizeOf5
 v5 := Tryz.zeroValue5
 t9 := Tryz.underlying9
 a9 := Tryz.isAgg9
 z9 := Tryz.sizeOf9
 v9 := Tryz.zeroValue9
 t20 := Tryz.underlying20
 a20 := Tryz.isAgg20
 z20 := Tryz.sizeOf20
 v20 := Tryz.zeroValue20
 t37 := Tryz.underlying22
 a37 := Tryz.isAgg22
 z37 := Tryz.sizeOf22
 v37 := Tryz.zeroValue22
 t46 := Tryz.underlying243
 a46 := Tryz.isAgg243
 z46 := Tryz.sizeOf243
 v46 := Tryz.zeroValue243
 t51 := Tryz.underlying292
 a51 := Tryz.isAgg292
 z51 := Tryz.sizeOf292
 v51 := Tryz.zeroValue292
 t53 := Tryz.underlying137
 a53 := Tryz.isAgg137
 z53 := Tryz.sizeOf137
 v53 := Tryz.zeroValue137
 t171 := Tryz.underlying278
 a171 := Tryz.isAgg278
 z171 := Tryz.sizeOf278
 v171 := Tryz.zeroValue278
 t173 := Tryz.underlying281
 a173 := Tryz.isAgg281
 z173 := Tryz.sizeOf281
 v173 := Tryz.zeroValue281
 t212 := Tryz.underlying324
 a212 := Tryz.isAgg324
 z212 := Tryz.sizeOf324
 v212 := Tryz.zeroValue324
 t213 := Tryz.underlying325
 a213 := Tryz.isAgg325
 z213 := Tryz.sizeOf325
 t232 := Tryz.underlying363
 a232 := Tryz.isAgg363
 z232 := Tryz.sizeOf363
 v232 := Tryz.zeroValue363
 t233 := Tryz.underlying364
 a233 := Tryz.isAgg364
 z233 := Tryz.sizeOf364
 v233 := Tryz.zeroValue364
 g17 := by kernel_rfl
 g18 := by kernel_rfl
 g19 := by kernel_rfl
 i0 := by kernel_rfl
 i2 := by kernel_rfl
 i3 := by kernel_rfl
 i4 := by kernel_rfl
 i5 := by kernel_rfl
 i9 := by kernel_rfl
 i20 := by kernel_rfl
 i37 := by kernel_rfl
 i46 := by kernel_rfl
 i51 := by kernel_rfl
 i53 := by kernel_rfl
 i171 := by kernel_rfl
 i173 := by kernel_rfl
 i212 := by kernel_rfl
 i232 := by kernel_rfl
 i233 := by kernel_rfl
 m17 := by kernel_rfl
 m18 := by kernel_rfl
 m19 := by kernel_rfl }
open Go.RowKit Go.Sort Go.Lib in
theorem Tryz.strconv_FormatInt_10 (n : Int) (h0 : -9223372036854775808 ≤ n) (h1 : n ≤ 9223372036854775807) (w : World) (htab : Lib.TabIs Tryz.prog w "internal/strconv.uint64pow10" .u64 Lib.pow10Tab) :
  Calls Tryz.prog 124 #[.int .i64 n, .int .i64 10] w fun e w' => e = .returned (.string ⟨(Lib.itoa n).toArray⟩) ∧ ∃ k os, w' = grow (w.drewN k) os := Any.strconv_FormatInt_10 Tryz.laysM173 n h0 h1 w htab
def Tryz.laysC174_ren : Go.Shelf.Ren := ⟨fun | 174 => 214 | 247 => 272 | 245 => 273 | 287 => 328 | 279 => 329 | 280 => 330 | 281 => 331 | 282 => 332 | 321 => 367 | 322 => 368 | 316 => 369 | 171 => 371 | 205 => 370 | 243 => 385 | 246 => 220 | 283 => 277 | 284 => 278 | 285 => 279 | 286 => 280 | 129 => 290 | 317 => 335 | 318 => 336 | 319 => 337 | 320 => 338 | 337 => 372 | 338 => 373 | n => n, fun | 9 => 9 | 3 => 3 | 2 => 2 | 75 => 224 | 85 => 225 | 4 => 4 | 167 => 314 | 5 => 5 | 53 => 137 | 175 => 315 | 46 => 243 | 168 => 317 | 37 => 22 | 0 => 0 | 210 => 350 | 21 => 21 | 127 => 277 | 145 => 362 | 143 => 360 | 171 => 278 | 173 => 281 | 212 => 324 | 51 => 292 | 20 => 20 | 213 => 325 | 232 => 363 | 233 => 364 | 80 => 238 | n => n, fun | 15 => 4 | 16 => 5 | 17 => 1 | 18 => 6 | 19 => 7 | n => n⟩
theorem Tryz.laysC174 : Go.Proofs.LaysC.n174 Tryz.prog Tryz.laysC174_ren := {
 mixed := by kernel_rfl
 f129 := Tryz.func290.trans (congrArg some (by kernel_rfl))
 f171 := Tryz.func371.trans (congrArg some (by kernel_rfl))
 f174 := Tryz.func214.trans (congrArg some (by kernel_rfl))
 f205 := Tryz.func370.trans (congrArg some (by kernel_rfl))
 f243 := Tryz.func385.trans (congrArg some (by kernel_rfl))
 f245 := Tryz.func273.trans (congrArg some (by kernel_rfl))
 f246 := Tryz.func220.trans (congrArg some (by kernel_rfl))
 f247 := Tryz.func272.trans (congrArg some (by kernel_rfl))
 f279 := Tryz.func329.trans (congrArg some (by kernel_rfl))
 f280 := Tryz.func330.trans (congrArg some (by kernel_rfl))
 f281 := Tryz.func331.trans (congrArg some (by kernel_rfl))
 f282 := Tryz.func332.trans (congrArg some (by kernel_rfl))
 f283 := Tryz.func277.trans (congrArg some (by kernel_rfl))
 f284 := Tryz.func278.trans (congrArg some (by kernel_rfl))
 f285 := Tryz.func279.trans (congrArg some (by kernel_rfl))
 f286 := Tryz.func280.trans (congrArg some (by kernel_rfl))
 f287 := Tryz.func328.trans (congrArg some (by kernel_rfl))
 f316 := Tryz.func369.trans (congrArg some (by kernel_rfl))
 f317 := Tryz.func335.trans (congrArg some (by kernel_rfl))
 f318 := Tryz.func336.trans (congrArg some (by kernel_rfl))
 f319 := Tryz.func337.trans (congrArg some (by kernel_rfl))
 f320 := Tryz.func338.trans (congrArg some (by kernel_rfl))
 f321 := Tryz.func367.trans (congrArg some (by kernel_rfl))
 f322 := Tryz.func368.trans (congrArg some (by kernel_rfl))
 f337 := Tryz.func372.trans (congrArg some (by kernel_rfl))
 f338 := Tryz.func373.trans (congrArg some (by kernel_rfl))
 t0 := Tryz.underlying0
 a0 := Tryz.isAgg0
 z0 := Tryz.sizeOf0
 v0 := Tryz.zeroValue0
 t2 := Tryz.underlying2
 a2 := Tryz.isAgg2
 z2 := Tryz.sizeOf2
 v2 := Tryz.zeroValue2
 t3 := Tryz.underlying3
 a3 := Tryz.isAgg3
 z3 := Tryz.sizeOf3
 v3 := Tryz.zeroValue3
 t4 := Tryz.underlying4
 a4 := Tryz.isAgg4
 z4 := Tryz.sizeOf4
 v4 := Tryz.zeroValue4
 t5 := Tryz.underlying5
 a5 := Tryz.isAgg5
 z5 := Tryz.sizeOf5
 v5 := Tryz.zeroValue5
 t9 := Tryz.underlying9
 a9 := Tryz.isAgg9
 z9 := Tryz.sizeOf9
 v9 := Tryz.zeroValue9
 t20 := Tryz.underlying20
 a20 := Tryz.isAgg20
 z20 := Tryz.sizeOf20
 v20 := Tryz.zeroValue20
 t21 := Tryz.underlying21
 a21 := Tryz.isAgg21
 z21 := Tryz.sizeOf21
 v21 := Tryz.zeroValue21
 t37 := Tryz.underlying22
 a37 := Tryz.isAgg22
 z37 := Tryz.sizeOf22
 v37 := Tryz.zeroValue22
 t46 := Tryz.underlying243
 a46 := Tryz.isAgg243
 z46 := Tryz.sizeOf243
 v46 := Tryz.zeroValue243
 t51 := Tryz.underlying292
 a51 := Tryz.isAgg292
 z51 := Tryz.sizeOf292
 v51 := Tryz.zeroValue292
 t53 := Tryz.underlying137
 a53 := Tryz.isAgg137
 z53 := Tryz.sizeOf137
 v53 := Tryz.zeroValue137
 t75 := Tryz.underlying224
 a75 := Tryz.isAgg224
 z75 := Tryz.sizeOf224
 v75 := Tryz.zeroValue224
 t85 := Tryz.underlying225
 a85 := Tryz.isAgg225
 z85 := Tryz.sizeOf225
 v85 := Tryz.zeroValue225
 t127 := Tryz.underlying277
 a127 := Tryz.isAgg277
 z127 := Tryz.sizeOf277
 v127 := Tryz.zeroValue277
 t143 := Tryz.underlying360
 a143 := Tryz.isAgg360
 z143 := Tryz.sizeOf360
 v143 := Tryz.zeroValue360
 t145 := Tryz.underlying362
 a145 := Tryz.isAgg362
 z145 := Tryz.sizeOf362
 v145 := Tryz.zeroValue362
 t167 := Tryz.underlying314
 a167 := Tryz.isAgg314
 z167 := Tryz.sizeOf314
 v167 := Tryz.zeroValue314
 t168 := Tryz.underlying317
 a168 := Tryz.isAgg317
 z168 := Tryz.sizeOf317
 v168 := Tryz.zeroValue317
 t171 := Tryz.underlying278
 a171 := Tryz.isAgg278
 z171 := Tryz.sizeOf278
 v171 := Tryz.zeroValue278
 t173 := Tryz.underlying281
 a173 := Tryz.isAgg281
 z173 := Tryz.sizeOf281
 v173 := Tryz.zeroValue281
 t175 := Tryz.underlying315
 a175 := Tryz.isAgg315
 z175 := Tryz.sizeOf315
 v175 := Tryz.zeroValue315
 t210 := Tryz.underlying350
 a210 := Tryz.isAgg350
 z210 := Tryz.sizeOf350
 v210 := Tryz.zeroValue350
 t212 := Tryz.underlying324
 a212 := Tryz.isAgg324
 z212 := Tryz.sizeOf324
 v212 := Tryz.zeroValue324
 t213 := Tryz.underlying325
 a213 := Tryz.isAgg325
 z213 := Tryz.sizeOf325
 t232 := Tryz.underlying363
 a232 := Tryz.isAgg363
 z232 := Tryz.sizeOf363
 v232 := Tryz.zeroValue363
 t233 := Tryz.underlying364
 a233 := Tryz.isAgg364
 z233 := Tryz.sizeOf364
 v233 := Tryz.zeroValue364
 g15 := by kernel_rfl
 g16 := by kernel_rfl
 g17 := by kernel_rfl
 g18 := by kernel_rfl
 g19 := by kernel_rfl
 t80 := Tryz.underlying238
 a80 := Tryz.isAgg238
 z80 := Tryz.sizeOf238
 v80 := Tryz.zeroValue238
 i0 := by kernel_rfl
 i2 := by kernel_rfl
 i3 := by kernel_rfl
 i4 := by kernel_rfl
 i5 := by kernel_rfl
 i9 := by kernel_rfl
 i20 := by kernel_rfl
 i21 := by kernel_rfl
 i37 := by kernel_rfl
 i46 := by kernel_rfl
 i51 := by kernel_rfl
 i53 := by kernel_rfl
 i75 := by kernel_rfl
 i80 := by kernel_rfl
 i85 := by kernel_rfl
 i127 := by kernel_rfl
 i143 := by kernel_rfl
 i145 := by kernel_rfl
 i167 := by kernel_rfl
 i168 := by kernel_rfl
 i171 := by kernel_rfl
 i173 := by kernel_rfl
 i175 := by kernel_rfl
 i210 := by kernel_rfl
 i212 := by kernel_rfl
 i232 := by kernel_rfl
 i233 := by kernel_rfl
 m15 := by kernel_rfl
 m16 := by kernel_rfl
 m17 := by kernel_rfl
 m18 := by kernel_rfl
 m19 := by kernel_rfl
 c0 := by kernel_rfl
 c2 := by kernel_rfl
 c3 := by kernel_rfl
 c4 := by kernel_rfl
 c5 := by kernel_rfl
 c9 := by kernel_rfl
 c20 := by kernel_rfl
 c21 := by kernel_rfl
 c37 := by kernel_rfl
 c46 := by kernel_rfl
 c51 := by kernel_rfl
 c53 := by kernel_rfl
 c75 := by kernel_rfl
 c80 := by kernel_rfl
 c85 := by kernel_rfl
 c127 := by kernel_rfl
 c143 := by kernel_rfl
 c145 := by kernel_rfl
 c167 := by kernel_rfl
 c168 := by kernel_rfl
 c171 := by kernel_rfl
 c173 := by kernel_rfl
 c175 := by kernel_rfl
 c210 := by kernel_rfl
 c212 := by kernel_rfl
 c213 := by kernel_rfl
 c232 := by kernel_rfl
 c233 := by kernel_rfl }
open Go.RowKit in
theorem Tryz.strconv_ParseInt_10_at64_ok (s : ByteArray) (hmax : s.size ≤ 9223372036854775806) (v : Int) (h : Lib.parseIntB 64 s.data.toList = .ok v) (w : World) :
  Calls Tryz.prog 214 #[.string s, .int .i64 10, .int .i64 64] w fun e w' => e = .returned (.tuple #[.int .i64 v, .nilIface]) ∧ (w' = w ∨ ∃ t, w' = Lib.bytesWorld w 5 t) := Any.strconv_ParseInt_10_at64_ok Tryz.laysC174 s hmax v h w
open Go.RowKit in
theorem Tryz.strconv_ParseInt_10_at64_syntax_var (s : ByteArray) (hlim : s.size ≤ 281474976710656) (h : Lib.parseIntB 64 s.data.toList = Lib.NumEnd.syntax) (tp : TypeId) (p : Value) (w : World) (hvar : w.var? Tryz.prog "strconv.ErrSyntax" = some #[.iface tp p]) :
  Calls Tryz.prog 214 #[.string s, .int .i64 10, .int .i64 64] w fun e w' => ∃ N, e = .returned (.tuple #[.int .i64 (0), .iface 317 (.pointer (some ⟨N, 0, none⟩))]) ∧ w.heap.size ≤ N ∧ w'.heap[N]? = some (.cells #[.string ⟨#[80, 97, 114, 115, 101, 73, 110, 116]⟩, .string s, .iface tp p] 350 (0, 0)) ∧ Below w.heap.size w w' := Any.strconv_ParseInt_10_at64_syntax_var Tryz.laysC174 s hlim h tp p w hvar
def Tryz.laysM145_ren : Go.Shelf.Ren := ⟨fun | 145 => 252 | 220 => 315 | 219 => 270 | 217 => 323 | 225 => 324 | 224 => 325 | 267 => 326 | 266 => 365 | 314 => 366 | n => n, fun | 9 => 9 | 4 => 4 | 59 => 262 | 3 => 3 | 5 => 5 | 46 => 243 | 146 => 308 | 51 => 292 | n => n, fun | 1 => 0 | n => n⟩
theorem Tryz.laysM145 : Go.Proofs.LaysM.n145 Tryz.prog Tryz.laysM145_ren := {
 mixed := by kernel_rfl
 f145 := Tryz.func252.trans (congrArg some (by kernel_rfl))
 f217 := Tryz.func323.trans (congrArg some (by kernel_rfl))
 f219 := Tryz.func270.trans (congrArg some (by kernel_rfl))
 f220 := Tryz.func315.trans (congrArg some (by kernel_rfl))
 f224 := Tryz.func325.trans (congrArg some (by kernel_rfl))
 f225 := Tryz.func324.trans (congrArg some (by kernel_rfl))
 f266 := Tryz.func365.trans (congrArg some (by kernel_rfl))
 f267 := Tryz.func326.trans (congrArg some (by kernel_rfl))
 f314 := Tryz.func366.trans (congrArg some (by kernel_rfl))
 t3 := Tryz.underlying3
 a3 := Tryz.isAgg3
 z3 := Tryz.sizeOf3
 v3 := Tryz.zeroValue3
 t4 := Tryz.underlying4
 a4 := Tryz.isAgg4
 z4 := Tryz.sizeOf4
 v4 := Tryz.zeroValue4
 t5 := Tryz.underlying5
 a5 := Tryz.isAgg5
 z5 := Tryz.sizeOf5
 v5 := Tryz.zeroValue5
 t9 := Tryz.underlying9
 a9 := Tryz.isAgg9
 z9 := Tryz.sizeOf9
 v9 := Tryz.zeroValue9
 t46 := Tryz.underlying243
 a46 := Tryz.isAgg243
 z46 := Tryz.sizeOf243
 v46 := Tryz.zeroValue243
 t51 := Tryz.underlying292
 a51 := Tryz.isAgg292
 z51 := Tryz.sizeOf292
 v51 := Tryz.zeroValue292
 t59 := Tryz.underlying262
 a59 := Tryz.isAgg262
 z59 := Tryz.sizeOf262
 v59 := Tryz.zeroValue262
 t146 := Tryz.underlying308
 a146 := Tryz.isAgg308
 z146 := Tryz.sizeOf308
 v146 := Tryz.zeroValue308
 g1 := by kernel_rfl
 i3 := by kernel_rfl
 i4 := by kernel_rfl
 i5 := by kernel_rfl
 i9 := by kernel_rfl
 i46 := by kernel_rfl
 i51 := by kernel_rfl
 i59 := by kernel_rfl
 i146 := by kernel_rfl
 m1 := by kernel_rfl
 s1_3 := fun w h => Go.Proofs.cell_of_shapedOpen_int (zero := #[.int .i64 0]) (t := 3) h (of_decide_eq_true (by kernel_rfl)) (by kernel_rfl) rfl (by kernel_rfl) (by kernel_rfl) Tryz.underlying3 }
open Go.RowKit Go.Lib in
theorem Tryz.strings_Cut_shaped (s sep : ByteArray) (w : World) (h : w.ShapedOpen Tryz.prog) (hs : s.size < 4294967281) :
  Calls Tryz.prog 252 #[.string s, .string sep] w fun e w' => e = .returned (.tuple #[.string ⟨(Lib.cut s.data.toList sep.data.toList).1.toArray⟩, .string ⟨(Lib.cut s.data.toList sep.data.toList).2.1.toArray⟩, .bool (Lib.cut s.data.toList sep.data.toList).2.2]) ∧ ∃ n, w' = w.drewN n := Any.strings_Cut_shaped Tryz.laysM145 s sep w h hs
def Tryz.lays101_ren : Go.Shelf.Ren := ⟨fun | 101 => 213 | 208 => 271 | 206 => 327 | n => n, fun | 9 => 9 | 4 => 4 | 3 => 3 | n => n, fun | n => n⟩
theorem Tryz.lays101 : Go.Proofs.Lays.n101 Tryz.prog Tryz.lays101_ren := {
 mixed := by kernel_rfl
 f101 := Tryz.func213.trans (congrArg some (by kernel_rfl))
 f206 := Tryz.func327.trans (congrArg some (by kernel_rfl))
 f208 := Tryz.func271.trans (congrArg some (by kernel_rfl))
 t3 := Tryz.underlying3
 a3 := Tryz.isAgg3
 z3 := Tryz.sizeOf3
 v3 := Tryz.zeroValue3
 t4 := Tryz.underlying4
 a4 := Tryz.isAgg4
 z4 := Tryz.sizeOf4
 v4 := Tryz.zeroValue4
 t9 := Tryz.underlying9
 a9 := Tryz.isAgg9
 z9 := Tryz.sizeOf9
 v9 := Tryz.zeroValue9 }
open Go.RowKit Go.Lib in
theorem Tryz.strings_TrimPrefix (s p : ByteArray) (w : World) :
  Calls Tryz.prog 213 #[.string s, .string p] w fun e w' => e = .returned (.string ⟨(Lib.trimPrefix s.data.toList p.data.toList).toArray⟩) ∧ w' = w := Any.strings_TrimPrefix Tryz.lays101 s p w
def Tryz.lays102_ren : Go.Shelf.Ren := ⟨fun | 102 => 253 | 209 => 316 | 207 => 360 | n => n, fun | 9 => 9 | 4 => 4 | 3 => 3 | n => n, fun | n => n⟩
theorem Tryz.lays102 : Go.Proofs.Lays.n102 Tryz.prog Tryz.lays102_ren := {
 mixed := by kernel_rfl
 f102 := Tryz.func253.trans (congrArg some (by kernel_rfl))
 f207 := Tryz.func360.trans (congrArg some (by kernel_rfl))
 f209 := Tryz.func316.trans (congrArg some (by kernel_rfl))
 t3 := Tryz.underlying3
 a3 := Tryz.isAgg3
 z3 := Tryz.sizeOf3
 v3 := Tryz.zeroValue3
 t4 := Tryz.underlying4
 a4 := Tryz.isAgg4
 z4 := Tryz.sizeOf4
 v4 := Tryz.zeroValue4
 t9 := Tryz.underlying9
 a9 := Tryz.isAgg9
 z9 := Tryz.sizeOf9
 v9 := Tryz.zeroValue9 }
open Go.RowKit Go.Lib in
theorem Tryz.strings_TrimSuffix (s p : ByteArray) (w : World) (hs : s.size ≤ 9223372036854775807) :
  Calls Tryz.prog 253 #[.string s, .string p] w fun e w' => e = .returned (.string ⟨(Lib.trimSuffix s.data.toList p.data.toList).toArray⟩) ∧ w' = w := Any.strings_TrimSuffix Tryz.lays102 s p w hs
def Tryz.laysM146_ren : Go.Shelf.Ren := ⟨fun | 146 => 50 | 221 => 114 | 268 => 210 | 138 => 211 | 143 => 212 | 195 => 267 | 197 => 268 | 218 => 269 | 219 => 270 | 260 => 322 | 217 => 323 | 225 => 324 | 224 => 325 | 267 => 326 | 266 => 365 | 314 => 366 | n => n, fun | 9 => 9 | 31 => 24 | 3 => 3 | 4 => 4 | 0 => 0 | 105 => 273 | 21 => 21 | 5 => 5 | 46 => 243 | 119 => 343 | 139 => 346 | 138 => 345 | 146 => 308 | 51 => 292 | n => n, fun | 1 => 0 | 3 => 2 | 4 => 3 | n => n⟩
theorem Tryz.laysM146 : Go.Proofs.LaysM.n146 Tryz.prog Tryz.laysM146_ren := {
 mixed := by kernel_rfl
 f138 := Tryz.func211.trans (congrArg some (by kernel_rfl))
 f143 := Tryz.func212.trans (congrArg some (by kernel_rfl))
 f146 := Tryz.func50.trans (congrArg some (by kernel_rfl))
 f195 := Tryz.func267.trans (congrArg some (by kernel_rfl))
 f197 := Tryz.func268.trans (congrArg some (by kernel_rfl))
 f217 := Tryz.func323.trans (congrArg some (by kernel_rfl))
 f218 := Tryz.func269.trans (congrArg some (by kernel_rfl))
 f219 := Tryz.func270.trans (congrArg some (by kernel_rfl))
 f221 := Tryz.func114.trans (congrArg some (by kernel_rfl))
 f224 := Tryz.func325.trans (congrArg some (by kernel_rfl))
 f225 := Tryz.func324.trans (congrArg some (by kernel_rfl))
 f260 := Tryz.func322.trans (congrArg some (by kernel_rfl))
 f266 := Tryz.func365.trans (congrArg some (by kernel_rfl))
 f267 := Tryz.func326.trans (congrArg some (by kernel_rfl))
 f268 := Tryz.func210.trans (congrArg some (by kernel_rfl))
 f314 := Tryz.func366.trans (congrArg some (by kernel_rfl))
 t0 := Tryz.underlying0
 a0 := Tryz.isAgg0
 z0 := Tryz.sizeOf0
 v0 := Tryz.zeroValue0
 t3 := Tryz.underlying3
 a3 := Tryz.isAgg3
 z3 := Tryz.sizeOf3
 v3 := Tryz.zeroValue3
 t4 := Tryz.underlying4
 a4 := Tryz.isAgg4
 z4 := Tryz.sizeOf4
 v4 := Tryz.zeroValue4
 t5 := Tryz.underlying5
 a5 := Tryz.isAgg5
 z5 := Tryz.sizeOf5
 v5 := Tryz.zeroValue5
 t9 := Tryz.underlying9
 a9 := Tryz.isAgg9
 z9 := Tryz.sizeOf9
 v9 := Tryz.zeroValue9
 t21 := Tryz.underlying21
 a21 := Tryz.isAgg21
 z21 := Tryz.sizeOf21
 v21 := Tryz.zeroValue21
 t31 := Tryz.underlying24
 a31 := Tryz.isAgg24
 z31 := Tryz.sizeOf24
 v31 := Tryz.zeroValue24
 t46 := Tryz.underlying243
 a46 := Tryz.isAgg243
 z46 := Tryz.sizeOf243
 v46 := Tryz.zeroValue243
 t51 := Tryz.underlying292
 a51 := Tryz.isAgg292
 z51 := Tryz.sizeOf292
 v51 := Tryz.zeroValue292
 t105 := Tryz.underlying273
 a105 := Tryz.isAgg273
 z105 := Tryz.sizeOf273
 v105 := Tryz.zeroValue273
 t119 := Tryz.underlying343
 a119 := Tryz.isAgg343
 z119 := Tryz.sizeOf343
 t138 := Tryz.underlying345
 a138 := Tryz.isAgg345
 z138 := Tryz.sizeOf345
 v138 := Tryz.zeroValue345
 t139 := Tryz.underlying346
 a139 := Tryz.isAgg346
 z139 := Tryz.sizeOf346
 v139 := Tryz.zeroValue346
 t146 := Tryz.underlying308
 a146 := Tryz.isAgg308
 z146 := Tryz.sizeOf308
 v146 := Tryz.zeroValue308
 g1 := by kernel_rfl
 g3 := by kernel_rfl
 g4 := by kernel_rfl
 i0 := by kernel_rfl
 i3 := by kernel_rfl
 i4 := by kernel_rfl
 i5 := by kernel_rfl
 i9 := by kernel_rfl
 i21 := by kernel_rfl
 i31 := by kernel_rfl
 i46 := by kernel_rfl
 i51 := by kernel_rfl
 i105 := by kernel_rfl
 i138 := by kernel_rfl
 i139 := by kernel_rfl
 i146 := by kernel_rfl
 m1 := by kernel_rfl
 s1_3 := fun w h => Go.Proofs.cell_of_shapedOpen_int (zero := #[.int .i64 0]) (t := 3) h (of_decide_eq_true (by kernel_rfl)) (by kernel_rfl) rfl (by kernel_rfl) (by kernel_rfl) Tryz.underlying3
 m3 := by kernel_rfl
 m4 := by kernel_rfl }
open Go.RowKit Go.Lib in
theorem Tryz.strings_Split_shaped (s sep : ByteArray) (w : World) (h : w.ShapedOpen Tryz.prog) (hs : s.size < 4294967281) (h1 : 1 ≤ sep.size) :
  Calls Tryz.prog 50 #[.string s, .string sep] w fun e w' =>
   e = .returned (.slice (some ⟨w.heap.size, 0, none⟩) (Lib.countB s sep + 1) (Lib.countB s sep + 1)) ∧ w' = w.alloc (.cells ((Lib.splitB sep 0 (Lib.countB s sep) s).map Value.string).toArray 9) := Any.strings_Split_shaped Tryz.laysM146 s sep w h hs h1
end Go.Proofs
namespace Go.Proofs.YtnhomkmfbngmgaaGreatDoor
theorem zR {n : Nat} : n ≤ n := Nat.le_refl n
theorem bR {K : Nat} {w : World} : Go.RowKit.Below K w w := Go.RowKit.Below.refl K w
theorem nH {p : Prop} {α : Type} {a : α} (h : a ≠ a) : p := absurd rfl h
theorem cR {w : World} {g : Nat} {cur : Array Value} {t : TypeId} (i : Nat) (h : w.heap[g]? = some (.cells cur t (0, 0))) {v : Value} (hv : cur[i]? = some v := by rfl) : w.cell? ⟨g, i, none⟩ = some v := (cell_of_row _ _ i _ _ (0, 0) h).trans hv
def isDig (c : UInt8) : Bool := decide (48 ≤ c.toNat) && decide (c.toNat ≤ 57)
def valN (acc : Nat) (l : List UInt8) : Nat := l.foldl (fun n c => n * 10 + (c.toNat - 48)) acc
theorem valN_nil (acc : Nat) : valN acc [] = acc := rfl
theorem valN_cons (acc : Nat) (c : UInt8) (l : List UInt8) : valN acc (c :: l) = valN (acc * 10 + (c.toNat - 48)) l := by
 unfold valN;rw [List.foldl_cons]
theorem valN_snoc (acc : Nat) (c : UInt8) (l : List UInt8) : valN acc (l ++ [c]) = valN acc l * 10 + (c.toNat - 48) := by
 unfold valN;rw [List.foldl_append]
 rfl
theorem valN_lt : ∀ (l : List UInt8) (acc k : Nat), l.all isDig = true → acc < 10 ^ k → valN acc l < 10 ^ (k + l.length) := by
 intro l
 induction l with
 | nil => intro acc k _ h; rw [valN_nil, List.length_nil, Nat.add_zero]; exact h
 | cons c l ih =>
  intro acc k hd h;rw [List.all_cons, Bool.and_eq_true] at hd;have hc : 48 ≤ c.toNat ∧ c.toNat ≤ 57 := by simpa [isDig] using hd.1
  have hp : (10 : Nat) ^ (k + 1) = 10 ^ k * 10 := Nat.pow_succ ..;have := ih (acc * 10 + (c.toNat - 48)) (k + 1) hd.2 (by rw [hp]; omega);rw [valN_cons, List.length_cons, show k + (l.length + 1) = (k + 1) + l.length by omega];exact this
theorem parseUintM_short : ∀ (l : List UInt8) (acc k : Nat), k + l.length ≤ 18 → acc < 10 ^ k →
  Lib.parseUintM (2 ^ 64 - 1) acc l = if l.all isDig then .ok (valN acc l) else Lib.NumEnd.syntax := by
 intro l
 induction l with
 | nil => exact fun acc k _ _ => rfl
 | cons c l ih =>
  intro acc k hk h;rw [List.length_cons] at hk;have hq : (10 : Nat) ^ (k + 1) = 10 ^ k * 10 := Nat.pow_succ ..;have hp : acc * 10 + 9 < 10 ^ (k + 1) := by rw [hq]; omega
  have hp2 : (10 : Nat) ^ (k + 1) ≤ 10 ^ 18 := Nat.pow_le_pow_right (by decide) (by omega);have h18 : (10 : Nat) ^ 18 = 1000000000000000000 := by decide
  have h64 : (2 : Nat) ^ 64 - 1 = 18446744073709551615 := by decide
  rw [h18] at hp2;rw [h64] at ih ⊢;unfold Lib.parseUintM
  by_cases hc : 48 ≤ c.toNat ∧ c.toNat ≤ 57
  ·have hd : isDig c = true := by simpa [isDig] using hc
   have hn := ih (acc * 10 + (c.toNat - 48)) (k + 1) (by omega) (by have := hc.1; have := hc.2; omega);rw [if_pos hc, if_neg (by omega), if_neg (by omega), hn, List.all_cons, hd, Bool.true_and, valN_cons]
  ·have hd : isDig c = false := by
    rw [Bool.eq_false_iff];intro h1;exact hc (by simpa [isDig] using h1)
   rw [if_neg hc, List.all_cons, hd]
   rfl
def canon (l : List UInt8) : Bool := !l.isEmpty && l.all isDig && (decide (l.length = 1) || !(l.head? == some 48))
theorem ofNat_dig {c : UInt8} (h : isDig c = true) : UInt8.ofNat (48 + (c.toNat - 48)) = c := by
 have hc : 48 ≤ c.toNat ∧ c.toNat ≤ 57 := by simpa [isDig] using h
 rw [show 48 + (c.toNat - 48) = c.toNat by omega]
 simp
theorem decDigits_small {u : Nat} (h : u < 10) : Lib.decDigits u = [UInt8.ofNat (48 + u)] := by rw [Lib.decDigits, dif_pos h]
theorem decDigits_big {u : Nat} (h : ¬ u < 10) : Lib.decDigits u = Lib.decDigits (u / 10) ++ [UInt8.ofNat (48 + u % 10)] := by rw [Lib.decDigits, dif_neg h]
theorem decDigits_ne (u : Nat) : Lib.decDigits u ≠ [] := by
 by_cases h : u < 10
 ·rw [decDigits_small h]; simp
 ·rw [decDigits_big h]; simp
theorem toNat_dig (k : Nat) (h : k < 10) : (UInt8.ofNat (48 + k)).toNat = 48 + k := by
 simp
 omega
theorem decDigits_dig (u : Nat) : (Lib.decDigits u).all isDig = true := by
 induction u using Nat.strongRecOn with
 | _ u ih =>
  by_cases h : u < 10
  ·rw [decDigits_small h]
   simp only [List.all_cons, List.all_nil, Bool.and_true, isDig, toNat_dig u h]
   simp
   omega
  ·rw [decDigits_big h, List.all_append, ih (u / 10) (by omega)]
   simp only [List.all_cons, List.all_nil, Bool.and_true, isDig, toNat_dig (u % 10) (by omega)]
   simp
   omega
theorem decDigits_head {u : Nat} (h0 : 0 < u) : (Lib.decDigits u).head? ≠ some 48 := by
 induction u using Nat.strongRecOn with
 | _ u ih =>
  by_cases h : u < 10
  ·rw [decDigits_small h]
   intro hc;have := congrArg UInt8.toNat (Option.some.inj hc);rw [toNat_dig u h] at this;have h48 : (48 : UInt8).toNat = 48 := rfl;omega
  ·rw [decDigits_big h, List.head?_append]
   intro hc;have hi := ih (u / 10) (by omega) (by omega)
   cases hh : (Lib.decDigits (u / 10)).head? with
   | none => exact decDigits_ne _ (List.head?_eq_none_iff.1 hh)
   | some x =>
    rw [hh] at hc hi;exact hi hc
theorem decDigits_canon (u : Nat) : canon (Lib.decDigits u) = true := by
 unfold canon;rw [decDigits_dig u]
 by_cases h : 0 < u
 ·have h1 := decDigits_head h
  have h2 := decDigits_ne u
  simp [h1, h2]
 ·have : u = 0 := by omega
  subst this;rw [decDigits_small (by omega)]
  simp
theorem valN_pos {l : List UInt8} : ∀ {acc : Nat}, 0 < acc → 0 < valN acc l := by
 induction l with
 | nil => intro acc h; exact h
 | cons c l ih => intro acc h; rw [valN_cons]; exact ih (by omega)
theorem decDigits_valN (l : List UInt8) (h : canon l = true) : Lib.decDigits (valN 0 l) = l := by
 have key : ∀ (n : Nat) (l : List UInt8), l.length = n → canon l = true → Lib.decDigits (valN 0 l) = l := by
  intro n
  induction n with
  | zero =>
   intro l hl hc;have : l = [] := List.eq_nil_of_length_eq_zero hl;subst this
   simp [canon] at hc
  | succ n ih =>
   intro l hl hc;have hne : l ≠ [] := by intro hh; subst hh; simp at hl
   obtain ⟨l', c, rfl⟩ : ∃ l' c, l = l' ++ [c] := ⟨l.dropLast, l.getLast hne, (List.dropLast_concat_getLast hne).symm⟩;simp only [canon, Bool.and_eq_true, List.all_append] at hc;obtain ⟨⟨_, hd1, hd2⟩, hz⟩ := hc;have hdc : isDig c = true := by simpa using hd2
   have hcb : 48 ≤ c.toNat ∧ c.toNat ≤ 57 := by simpa [isDig] using hdc
   rw [valN_snoc]
   by_cases hl' : l' = []
   ·subst hl'
    rw [valN_nil, decDigits_small (by omega), show 48 + (0 * 10 + (c.toNat - 48)) = 48 + (c.toNat - 48) by omega, ofNat_dig hdc]
    rfl
   ·have hlen : l'.length = n := by simpa using hl
    obtain ⟨x, r, rfl⟩ := List.exists_cons_of_ne_nil hl';have hx : x ≠ 48 := by
     intro hx;subst hx
     simp at hz
    have hc' : canon (x :: r) = true := by
     unfold canon;rw [hd1]
     simp [hx]
    have hi := ih (x :: r) hlen hc';have hdx : isDig x = true := by rw [List.all_cons, Bool.and_eq_true] at hd1; exact hd1.1
    have hxb : 48 ≤ x.toNat ∧ x.toNat ≤ 57 := by simpa [isDig] using hdx
    have hx0 : x.toNat ≠ 48 := fun h => hx (UInt8.toNat_inj.1 h)
    have hpos : 0 < valN 0 (x :: r) := by rw [valN_cons]; exact valN_pos (by omega)
    rw [decDigits_big (by omega), show (valN 0 (x :: r) * 10 + (c.toNat - 48)) / 10 = valN 0 (x :: r) by omega, hi, show (valN 0 (x :: r) * 10 + (c.toNat - 48)) % 10 = c.toNat - 48 by omega, ofNat_dig hdc]
 exact key l.length l rfl h
theorem decDigits_iff (l : List UInt8) (h : l.all isDig = true) : (Lib.decDigits (valN 0 l) = l) ↔ canon l = true :=
 ⟨fun e => e ▸ decDigits_canon _, decDigits_valN l⟩
def numNeg (r : List UInt8) : Option Int := if canon r && decide (r.length ≤ 18) && !(r.head? == some 48) then some (-(valN 0 r : Int)) else none
def numPos (l : List UInt8) : Option Int := if canon l && decide (l.length ≤ 18) then some (valN 0 l : Int) else none
def numS (l : List UInt8) : Option Int := if l.head? = some 45 then numNeg l.tail else numPos l
def numP (l : List UInt8) : Option Int :=
 if 18 < (Lib.trimPrefix l [45]).length then none
 else match Lib.parseIntB 64 l with
  | .ok n => if Lib.itoa n = l then some n else none
  | _ => none
theorem parseUintB_short (l : List UInt8) (h : l.length ≤ 18) : Lib.parseUintB 64 l = if l ≠ [] ∧ l.all isDig = true then .ok (valN 0 l) else Lib.NumEnd.syntax := by
 unfold Lib.parseUintB
 by_cases hl : l = []
 ·subst hl; rfl
 ·rw [if_neg hl, parseUintM_short l 0 0 (by omega) (by decide)]
  by_cases hd : l.all isDig = true
  ·rw [if_pos hd, if_pos ⟨hl, hd⟩]
  ·rw [if_neg hd, if_neg (fun h => hd h.2)]
theorem valN_18 {l : List UInt8} (h : l.length ≤ 18) (hd : l.all isDig = true) : valN 0 l < 10 ^ 18 :=
 Nat.lt_of_lt_of_le (valN_lt l 0 0 hd (by decide)) (Nat.pow_le_pow_right (by decide) (by omega))
theorem numP_eq (l : List UInt8) : numP l = numS l := by
 unfold numP numS
 cases l with
 | nil => rfl
 | cons c r =>
  have hpre : Lib.trimPrefix (c :: r) [45] = if c = 45 then r else c :: r := by
   unfold Lib.trimPrefix Lib.hasPrefix
   by_cases hc : c = 45
   ·subst hc; simp
   ·rw [if_neg hc, if_neg]
    simp
    exact fun h => hc h.symm
  rw [hpre]
  by_cases hc : c = 45
  ·subst hc
   rw [if_pos rfl, if_pos (show (45 :: r).head? = some 45 from rfl), show (45 :: r).tail = r from rfl];unfold numNeg
   by_cases hl : 18 < r.length
   ·rw [if_pos hl, if_neg (by simp; intro _ h; omega)]
   ·rw [if_neg hl]
    unfold Lib.parseIntB;simp only [show ((45 : UInt8).toNat = 43 ∨ (45 : UInt8).toNat = 45) from Or.inr rfl, if_true, parseUintB_short r (by omega)]
    by_cases hd : r ≠ [] ∧ r.all isDig = true
    ·simp only [if_pos hd, show (45 : UInt8).toNat = 45 from rfl, not_true, false_and, if_false, true_and, if_true]
     have hv := valN_18 (show r.length ≤ 18 by omega) hd.2;rw [if_neg (by omega)];simp only
     by_cases h0 : valN 0 r = 0
     ·rw [h0, if_neg (by rw [show Lib.itoa (-((0 : Nat) : Int)) = [48] from by unfold Lib.itoa; simp [decDigits_small]]; simp)]
      rw [if_neg];intro hh;simp only [Bool.and_eq_true, decide_eq_true_eq] at hh;have := decDigits_valN r hh.1.1;rw [h0, decDigits_small (by omega)] at this;rw [← this] at hh
      simp at hh
     ·have hneg : -((valN 0 r : Nat) : Int) < 0 := by omega
      have e1 : Lib.itoa (-((valN 0 r : Nat) : Int)) = 45 :: Lib.decDigits (valN 0 r) := by
       unfold Lib.itoa;rw [if_pos hneg]
       simp
      rw [e1];have e2 : (45 :: Lib.decDigits (valN 0 r) = 45 :: r) ↔ canon r = true := by
       rw [List.cons.injEq];simp only [true_and];exact decDigits_iff r hd.2
      by_cases hcan : canon r = true
      ·rw [if_pos (e2.2 hcan), if_pos]
       rw [hcan];simp only [Bool.true_and, Bool.and_eq_true, decide_eq_true_eq];refine ⟨by omega, ?_⟩;have h4 := decDigits_head (show 0 < valN 0 r by omega);rw [decDigits_valN r hcan] at h4
       simpa using h4
      ·rw [if_neg (fun h => hcan (e2.1 h)), if_neg (fun h => hcan (by simp only [Bool.and_eq_true] at h; exact h.1.1))]
    ·simp only [if_neg hd]
     rw [if_neg];intro h;simp only [Bool.and_eq_true, canon] at h;refine hd ⟨?_, h.1.1.1.2⟩;rintro rfl
     simp at h
  ·have hh : ¬ (c :: r).head? = some 45 := by simpa using hc
   have hcn : ¬ c.toNat = 45 := fun h => hc (UInt8.toNat_inj.1 h)
   rw [if_neg hc, if_neg hh];unfold numPos
   by_cases hl : 18 < (c :: r).length
   ·rw [if_pos hl, if_neg (by simp only [Bool.and_eq_true, decide_eq_true_eq]; omega)]
   ·rw [if_neg hl]
    unfold Lib.parseIntB
    by_cases hp : c.toNat = 43
    ·-- a plus sign: never its own numeral
     have hnd : canon (c :: r) = false := by
      rw [Bool.eq_false_iff];intro h;simp only [canon, Bool.and_eq_true, List.all_cons] at h;have : 48 ≤ c.toNat ∧ c.toNat ≤ 57 := by simpa [isDig] using h.1.2.1
      omega
     rw [hnd];simp only [Bool.false_and, Bool.false_eq_true, if_false];simp only [hp, true_or, if_true];have hl2 : r.length ≤ 18 := by simp at hl; omega
     rw [parseUintB_short r hl2]
     by_cases hd : r ≠ [] ∧ r.all isDig = true
     ·simp only [if_pos hd]
      have hv := valN_18 hl2 hd.2;rw [if_neg (by omega), if_neg (by omega)];simp only [show ¬ (43 : Nat) = 45 by omega, if_false];rw [if_neg];intro h;have h2 := decDigits_dig (valN 0 r);have e1 : Lib.itoa ((valN 0 r : Nat) : Int) = Lib.decDigits (valN 0 r) := by
       unfold Lib.itoa;rw [if_neg (by omega)]
       simp
      rw [← e1, h, List.all_cons, Bool.and_eq_true] at h2;have : 48 ≤ c.toNat ∧ c.toNat ≤ 57 := by simpa [isDig] using h2.1
      omega
     ·simp only [if_neg hd]
    ·have hs : ¬ (c.toNat = 43 ∨ c.toNat = 45) := by omega
     simp only [if_neg hs, parseUintB_short (c :: r) (by omega)]
     by_cases hd : (c :: r) ≠ [] ∧ (c :: r).all isDig = true
     ·simp only [if_pos hd]
      have hv := valN_18 (show (c :: r).length ≤ 18 by omega) hd.2;rw [if_neg (by omega), if_neg (by omega)];simp only [if_neg hcn];have e1 : Lib.itoa ((valN 0 (c :: r) : Nat) : Int) = Lib.decDigits (valN 0 (c :: r)) := by
       unfold Lib.itoa;rw [if_neg (by omega)]
       simp
      rw [e1]
      by_cases hcan : canon (c :: r) = true
      ·rw [if_pos ((decDigits_iff _ hd.2).2 hcan), if_pos (by rw [hcan]; simp at hl ⊢; omega)]
      ·rw [if_neg (fun h => hcan ((decDigits_iff _ hd.2).1 h)), if_neg (fun h => hcan (by simp only [Bool.and_eq_true] at h; exact h.1))]
     ·simp only [if_neg hd]
      rw [if_neg];intro h;simp only [Bool.and_eq_true, canon] at h;exact hd ⟨by simp, h.1.1.2⟩
def splitC (c : UInt8) : List UInt8 → List (List UInt8)
 | [] => [[]]
 | x :: l => if x = c then [] :: splitC c l else (x :: (splitC c l).headD []) :: (splitC c l).tail
theorem splitC_ne (c : UInt8) (l : List UInt8) : splitC c l ≠ [] := by
 cases l with
 | nil => simp [splitC]
 | cons x l => unfold splitC; split <;> simp
theorem splitC_ceq (c : UInt8) (l : List UInt8) : splitC c (c :: l) = [] :: splitC c l := by rw [splitC, if_pos rfl]
theorem splitC_cne {c x : UInt8} (h : x ≠ c) (l : List UInt8) : splitC c (x :: l) = (x :: (splitC c l).headD []) :: (splitC c l).tail := by rw [splitC, if_neg h]
theorem splitC_miss {c : UInt8} : ∀ {l : List UInt8}, c ∉ l → splitC c l = [l]
 | [], _ => rfl
 | x :: l, h => by
  rw [List.mem_cons, not_or] at h;rw [splitC_cne (fun e => h.1 e.symm), splitC_miss h.2]
  rfl
theorem splitC_hit {c : UInt8} : ∀ {a b : List UInt8}, c ∉ a → splitC c (a ++ c :: b) = a :: splitC c b
 | [], b, _ => by rw [List.nil_append, splitC_ceq]
 | x :: a, b, h => by
  rw [List.mem_cons, not_or] at h;rw [List.cons_append, splitC_cne (fun e => h.1 e.symm), splitC_hit h.2]
  rfl
theorem index_one (c : UInt8) (l : List UInt8) (h : c ∉ l) : Lib.index l [c] = -1 := by
 induction l with
 | nil => rfl
 | cons x l ih =>
  rw [List.mem_cons, not_or] at h;unfold Lib.index;rw [if_neg (by simp [List.isPrefixOf]; exact h.1), ih h.2]
  rfl
theorem index_one_hit (c : UInt8) (a b : List UInt8) (h : c ∉ a) : Lib.index (a ++ c :: b) [c] = a.length := by
 induction a with
 | nil => unfold Lib.index; simp [List.isPrefixOf]
 | cons x a ih =>
  rw [List.mem_cons, not_or] at h;rw [List.cons_append];unfold Lib.index;rw [if_neg (by simp [List.isPrefixOf]; exact h.1), ih h.2, if_neg (by simp <;> omega)]
  simp
theorem split_at (c : UInt8) (l : List UInt8) (h : c ∈ l) : ∃ a b, l = a ++ c :: b ∧ c ∉ a := by
 induction l with
 | nil => cases h
 | cons x l ih =>
  by_cases hx : x = c
  ·subst hx
   exact ⟨[], l, rfl, by simp⟩
  ·obtain ⟨a, b, rfl, h2⟩ := ih (by
    rcases List.mem_cons.1 h with h | h
    ·exact absurd h.symm hx
    ·exact h)
   exact ⟨x :: a, b, rfl, by simp; exact ⟨fun e => hx e.symm, h2⟩⟩
theorem count_at (c : UInt8) {a b : List UInt8} (h : c ∉ a) : (a ++ c :: b).count c = b.count c + 1 := by
 rw [List.count_append, List.count_cons_self, List.count_eq_zero_of_not_mem h];omega
theorem countFrom_one (c : UInt8) : ∀ (fuel : Nat) (l : List UInt8), l.length < fuel → Lib.countFrom [c] fuel l = l.count c
 | 0, _, h => by omega
 | fuel + 1, l, h => by
  unfold Lib.countFrom
  by_cases hm : c ∈ l
  ·obtain ⟨a, b, rfl, ha⟩ := split_at c l hm
   rw [index_one_hit c a b ha, if_neg (by simp <;> omega), count_at c ha];have e1 : ((a.length : Int)).toNat + [c].length = (a ++ [c]).length := by simp
   have e2 : (a ++ c :: b).drop (((a.length : Int)).toNat + [c].length) = b := by
    rw [e1, show a ++ c :: b = (a ++ [c]) ++ b by simp, List.drop_left]
   rw [e2, countFrom_one c fuel b (by simp at h; omega)];omega
  ·rw [index_one c l hm, if_pos (by decide), List.count_eq_zero_of_not_mem hm]
theorem splitK_one (c : UInt8) : ∀ (k : Nat) (l : List UInt8), l.count c ≤ k → Lib.splitK [c] 0 k l = splitC c l
 | 0, l, h => by
  rw [splitC_miss (List.count_eq_zero.1 (by omega))]
  rfl
 | k + 1, l, h => by
  unfold Lib.splitK
  by_cases hm : c ∈ l
  ·obtain ⟨a, b, rfl, ha⟩ := split_at c l hm
   rw [index_one_hit c a b ha, if_neg (by simp <;> omega), splitC_hit ha];rw [count_at c ha] at h;have e1 : ((a.length : Int)).toNat + [c].length = (a ++ [c]).length := by simp
   have e2 : (a ++ c :: b).drop (((a.length : Int)).toNat + [c].length) = b := by
    rw [e1, show a ++ c :: b = (a ++ [c]) ++ b by simp, List.drop_left]
   rw [e2, splitK_one c k b (by omega)]
   congr 1
   simp
  ·rw [index_one c l hm, if_pos (by decide), splitC_miss hm]
theorem split_one (c : UInt8) (l : List UInt8) : Lib.split l [c] = splitC c l := by
 unfold Lib.split Lib.count;rw [countFrom_one c _ l (by omega)];exact splitK_one c _ l zR
theorem join_cons2 (x y : List UInt8) (r : List (List UInt8)) (sep : List UInt8) : Lib.join (x :: y :: r) sep = x ++ sep ++ Lib.join (y :: r) sep := by
 rw [Lib.join_cons, Lib.join_cons]
 simp [Lib.joinTail]
theorem join_splitC (c : UInt8) : ∀ (l : List UInt8), Lib.join (splitC c l) [c] = l
 | [] => rfl
 | x :: l => by
  have ih := join_splitC c l;unfold splitC;obtain ⟨p, ps, hp⟩ := List.exists_cons_of_ne_nil (splitC_ne c l);rw [hp] at ih ⊢
  by_cases hx : x = c
  ·subst hx
   rw [if_pos rfl, join_cons2, ih]
   simp
  ·rw [if_neg hx]
   simp only [List.headD_cons, List.tail_cons];rw [Lib.join_cons] at ih ⊢;rw [List.cons_append, ih]
def numsOf (f : List UInt8 → Option Int) : List (List UInt8) → Option (List Int)
 | [] => some []
 | x :: l => match f x, numsOf f l with
  | some n, some ns => some (n :: ns)
  | _, _ => none
def isVal (n : Int) : Bool := decide (0 ≤ n) && decide (n ≤ 63)
def numV (l : List UInt8) : Option Int := (numS l).filter isVal
theorem numsOf_len {f : List UInt8 → Option Int} : ∀ {l : List (List UInt8)} {ns : List Int}, numsOf f l = some ns → ns.length = l.length
 | [], ns, h => by cases h; rfl
 | x :: l, ns, h => by
  unfold numsOf at h
  split at h
  ·rename_i n ms hn hm
   cases h
   simp [numsOf_len hm]
  ·cases h
theorem numsOf_val : ∀ (l : List (List UInt8)), numsOf numV l = (numsOf numS l).filter (fun ns => ns.all isVal)
 | [] => rfl
 | x :: l => by
  unfold numsOf;rw [numsOf_val l];unfold numV
  cases hx : numS x with
  | none => simp
  | some n =>
   cases hl : numsOf numS l with
   | none => cases hv : isVal n <;> simp [Option.filter, hv]
   | some ns => cases hv : isVal n <;> cases hw : ns.all isVal <;> simp [Option.filter, hv, hw]
theorem numS_itoa {l : List UInt8} {n : Int} (h : numS l = some n) : Lib.itoa n = l := by
 rw [← numP_eq] at h;unfold numP at h
 split at h
 ·cases h
 ·split at h
  ·split at h
   ·rename_i hh
    cases h
    exact hh
   ·cases h
  ·cases h
theorem numsOf_itoa : ∀ {l : List (List UInt8)} {ns : List Int}, numsOf numS l = some ns → ns.map Lib.itoa = l
 | [], ns, h => by cases h; rfl
 | x :: l, ns, h => by
  unfold numsOf at h
  split at h
  ·rename_i n ms hn hm
   cases h
   rw [List.map_cons, numS_itoa hn, numsOf_itoa hm]
  ·cases h
section
variable (nameL : List UInt8 → Bool)
def tauL : List UInt8 := [116, 97, 117]
def labName (l : List UInt8) : List UInt8 := (Lib.cut l [40]).1
def valsS (l : List UInt8) : Option (List Int) :=
 if 40 ∉ l then (if nameL l then some [] else none)
 else if (nameL (labName l) && !(labName l == tauL)) && (l.getLast? == some 41) then
  (numsOf numV (splitC 44 (Lib.cut l [40]).2.1.dropLast)).filter (fun ns => decide (ns.length ≤ 2))
 else none
def labOf (name : List UInt8) (ns : List Int) : Option (List UInt8) :=
 if name = tauL then (if ns = [] then some tauL else none)
 else if !(nameL name) || decide (2 < ns.length) || !(ns.all isVal) then none
 else if ns = [] then some name
 else some (name ++ [40] ++ Lib.join (ns.map Lib.itoa) [44] ++ [41])
def valsP (l : List UInt8) : Option (List Int) :=
 match (if (Lib.cut l [40]).2.2 then numsOf numP (splitC 44 (Lib.trimSuffix (Lib.cut l [40]).2.1 [41])) else some []) with
 | none => none
 | some ns => if labOf nameL (Lib.cut l [40]).1 ns = some l then some ns else none
end
theorem cut_miss {l : List UInt8} (h : (40 : UInt8) ∉ l) : Lib.cut l [40] = (l, [], false) := by
 unfold Lib.cut;rw [index_one 40 l h, if_neg (by decide)]
theorem cut_hit {a b : List UInt8} (h : (40 : UInt8) ∉ a) : Lib.cut (a ++ 40 :: b) [40] = (a, b, true) := by
 unfold Lib.cut;rw [index_one_hit 40 a b h, if_pos (by omega)]
 congr 1
 ·simp
 ·congr 1
  have e1 : ((a.length : Int)).toNat + [(40 : UInt8)].length = (a ++ [40]).length := by simp
  rw [e1, show a ++ 40 :: b = (a ++ [40]) ++ b by simp, List.drop_left]
theorem numP_fun : numP = numS := funext numP_eq
theorem trimSuffix_hit (r : List UInt8) (c : UInt8) : Lib.trimSuffix (r ++ [c]) [c] = r := by
 unfold Lib.trimSuffix Lib.hasSuffix;rw [if_pos (by simp)]
 simp
theorem trimSuffix_miss {r : List UInt8} {c : UInt8} (h : r.getLast? ≠ some c) : Lib.trimSuffix r [c] = r := by
 unfold Lib.trimSuffix Lib.hasSuffix;rw [if_neg];intro hs;have hs2 : [c] <:+ r := List.isSuffixOf_iff_suffix.1 hs;obtain ⟨t, rfl⟩ := hs2
 simp at h
theorem valsP_eq (nameL : List UInt8 → Bool) (ht : nameL tauL = true) (l : List UInt8) : valsP nameL l = valsS nameL l := by
 by_cases hm : (40 : UInt8) ∈ l
 ·obtain ⟨name, rest, rfl, hn⟩ := split_at 40 l hm
  have hlast : (name ++ 40 :: rest).getLast? = (40 :: rest).getLast? := by
   rw [List.getLast?_append]
   cases h : (40 :: rest).getLast? with
   | none => exact absurd (List.getLast?_eq_none_iff.1 h) (by simp)
   | some x => rfl
  have hP : valsP nameL (name ++ 40 :: rest) = (match numsOf numS (splitC 44 (Lib.trimSuffix rest [41])) with
    | none => none
    | some ns => if labOf nameL name ns = some (name ++ 40 :: rest) then some ns else none) := by
   unfold valsP;rw [cut_hit hn];simp only [if_true, numP_fun]
  have hS : valsS nameL (name ++ 40 :: rest) = (if (nameL name && !(name == tauL)) && ((40 :: rest).getLast? == some 41) then
    (numsOf numV (splitC 44 rest.dropLast)).filter (fun ns => decide (ns.length ≤ 2)) else none) := by
   unfold valsS labName;rw [if_neg (fun h => h hm), cut_hit hn, hlast]
  rw [hP, hS]
  by_cases hr : rest.getLast? = some 41
  ·obtain ⟨r, rfl⟩ : ∃ r, rest = r ++ [41] := by
    have hne : rest ≠ [] := by rintro rfl; cases hr
    refine ⟨rest.dropLast, ?_⟩;have h1 := List.dropLast_concat_getLast hne;rw [List.getLast?_eq_some_getLast hne] at hr;have h2 := Option.some.inj hr;rw [h2] at h1;exact h1.symm
   have hd : (r ++ [(41 : UInt8)]).dropLast = r := by simp
   rw [trimSuffix_hit, hd];have hl41 : ((40 :: (r ++ [41])).getLast? == some 41) = true := by
    rw [← List.cons_append, List.getLast?_append]
    rfl
   rw [hl41, Bool.and_true, numsOf_val]
   cases hx : numsOf numS (splitC 44 r) with
   | none => simp [Option.filter]
   | some ns =>
    have hlen := numsOf_len hx;have hne : ns ≠ [] := by
     rintro rfl;exact splitC_ne 44 r (List.eq_nil_of_length_eq_zero hlen.symm)
    have hj : Lib.join (ns.map Lib.itoa) [44] = r := by rw [numsOf_itoa hx, join_splitC]
    simp only;unfold labOf
    by_cases htau : name = tauL
    ·rw [if_pos htau, if_neg hne, if_neg (by simp), if_neg (by simp [htau])]
    ·rw [if_neg htau, if_neg hne, hj]
     have htb : (name == tauL) = false := by rw [beq_eq_false_iff_ne]; exact htau
     rw [htb]
     by_cases h2 : ns.length ≤ 2
     ·have h3 : ¬ 2 < ns.length := by omega
      cases hnm : nameL name <;> cases ha : ns.all isVal <;> simp [Option.filter, ha, h2, h3]
     ·have h3 : 2 < ns.length := by omega
      cases hnm : nameL name <;> cases ha : ns.all isVal <;> simp [Option.filter, ha, h2, h3]
  ·have hno : ¬ (((nameL name && !(name == tauL)) && ((40 :: rest).getLast? == some 41)) = true) := by
    intro hc;rw [Bool.and_eq_true] at hc;have hc2 := hc.2
    cases rest with
    | nil => simp at hc2
    | cons x r =>
     rw [List.getLast?_cons_cons] at hc2;exact hr (by simpa using hc2)
   rw [trimSuffix_miss hr, if_neg hno]
   cases hx : numsOf numS (splitC 44 rest) with
   | none => rfl
   | some ns =>
    have hlen := numsOf_len hx;have hne : ns ≠ [] := by
     rintro rfl;exact splitC_ne 44 rest (List.eq_nil_of_length_eq_zero hlen.symm)
    have hj : Lib.join (ns.map Lib.itoa) [44] = rest := by rw [numsOf_itoa hx, join_splitC]
    simp only;rw [if_neg];intro hc;unfold labOf at hc;rw [hj] at hc;simp only [if_neg hne] at hc
    split at hc
    ·cases hc
    ·split at hc
     ·cases hc
     ·have h1 := Option.some.inj hc
      have h2 := congrArg List.length h1
      simp at h2
 ·have hP : valsP nameL l = (if labOf nameL l [] = some l then some [] else none) := by
   unfold valsP;rw [cut_miss hm];simp only [Bool.false_eq_true, if_false]
  have hS : valsS nameL l = (if nameL l then some [] else none) := by
   unfold valsS;rw [if_pos hm]
  rw [hP, hS];unfold labOf
  by_cases htau : l = tauL
  ·subst htau
   simp [ht]
  ·rw [if_neg htau]
   cases hnm : nameL l <;> simp
open Go.RowKit
theorem hide {p : Prop} (h : p) : Hid p := h
theorem ret_b {a b : Bool} (h : b = a) : Ending.returned (.bool a) = .returned (.bool b) := by rw [h]
theorem ret_i {k : IntKind} {a b : Int} (h : b = a) : Ending.returned (.int k a) = .returned (.int k b) := by rw [h]
def Sl {α : Type} (size : Nat) (f : α → List Value) (w : World) (lo hi : Nat) (A : Option Addr) (n : Nat) (l : List α) : Prop :=
 l.length = n ∧ (0 < n → ∃ b off, A = some ⟨b, off, none⟩ ∧ lo ≤ b ∧ b < hi ∧ b < w.heap.size ∧
  ∀ (k : Nat) (x : α), l[k]? = some x → ∀ (j : Nat) (u : Value), (f x)[j]? = some u →
   w.cell? ⟨b, off + (k * size + j), none⟩ = some u ∧ w.frozen? ⟨b, off + (k * size + j), none⟩ = false)
section
variable {α : Type} {size : Nat} {f : α → List Value} {w w' : World} {lo hi lo' hi' n : Nat} {A : Option Addr} {l : List α}
theorem Sl.len (h : Sl size f w lo hi A n l) : l.length = n := h.1
theorem Sl.nil_ : Sl size f w lo hi A 0 ([] : List α) := ⟨rfl, fun h => absurd h (by omega)⟩
theorem Sl.at_ (h : Sl size f w lo hi A n l) (hn : 0 < n) : ∃ b off, A = some ⟨b, off, none⟩ ∧ lo ≤ b ∧ b < hi ∧ b < w.heap.size ∧
  ∀ (k : Nat) (x : α), l[k]? = some x → ∀ (j : Nat) (u : Value), (f x)[j]? = some u →
   w.cell? ⟨b, off + (k * size + j), none⟩ = some u ∧ w.frozen? ⟨b, off + (k * size + j), none⟩ = false := h.2 hn
theorem Sl.keep (h : Sl size f w lo hi A n l) (hs : w.heap.size ≤ w'.heap.size) (hk : ∀ b, lo ≤ b → b < hi → b < w.heap.size → w'.heap[b]? = w.heap[b]?) : Sl size f w' lo hi A n l :=
 ⟨h.1, fun hn => by
  obtain ⟨b, off, e, h1, h2, h3, hc⟩ := h.2 hn;refine ⟨b, off, e, h1, h2, by omega, fun k x hx j u hu => ?_⟩;obtain ⟨hc1, hc2⟩ := hc k x hx j u hu;have hb := hk b h1 h2 h3;exact ⟨(World.cell?_of_block (w := w) (by simpa using hb)).trans hc1, (World.frozen?_of_block (w := w) (by simpa using hb)).trans hc2⟩⟩
theorem Sl.below {B : Nat} (h : Sl size f w lo hi A n l) (hb : Below B w w') (hB : hi ≤ B ∨ w.heap.size ≤ B) : Sl size f w' lo hi A n l :=
 h.keep hb.size fun b _ h2 h3 => hb.block b (by omega)
theorem Sl.more (h : Sl size f w lo hi A n l) (h1 : lo' ≤ lo) (h2 : hi ≤ hi') : Sl size f w lo' hi' A n l :=
 ⟨h.1, fun hn => by
  obtain ⟨b, off, e, g1, g2, g3, hc⟩ := h.2 hn;exact ⟨b, off, e, by omega, by omega, g3, hc⟩⟩
theorem Sl.top (h : Sl size f w lo hi A n l) : Sl size f w lo w.heap.size A n l :=
 ⟨h.1, fun hn => by
  obtain ⟨b, off, e, g1, g2, g3, hc⟩ := h.2 hn;exact ⟨b, off, e, by omega, by omega, g3, hc⟩⟩
theorem Sl.drew (h : Sl size f w lo hi A n l) : Sl size f w.drew lo hi A n l := h
theorem Sl.drewN (h : Sl size f w lo hi A n l) (k : Nat) : Sl size f (w.drewN k) lo hi A n l := h
end
def inB (n lo hi : Int) : Bool := decide (lo ≤ n) && decide (n ≤ hi)
def tv (t : Int × Int) : List Value := [.int .i64 t.1, .int .i64 t.2]
def iv (n : Int) : List Value := [.int .i64 n]
abbrev SlT := Sl 2 tv
abbrev SlI := Sl 1 iv
def Fill {α : Type} (size : Nat) (f : α → List Value) (w : World) (B : Nat) (t : TypeId) (n k : Nat) (l : List α) : Prop :=
 ∃ cur : Array Value, w.heap[B]? = some (.cells cur t (0, 0)) ∧ cur.size = n * size ∧
  ∀ (i : Nat) (x : α), i < k → l[i]? = some x → ∀ (j : Nat) (u : Value), (f x)[j]? = some u → cur[i * size + j]? = some u
section
variable {α : Type} {size : Nat} {f : α → List Value} {w w' : World} {B n k : Nat} {t : TypeId} {l : List α}
theorem Fill.start (w : World) (t : TypeId) (cur : Array Value) (n : Nat) (hs : cur.size = n * size) : Fill size f (w.alloc (.cells cur t)) w.heap.size t n 0 l :=
 ⟨cur, heap_alloc_new w _, hs, fun i x hi => absurd hi (by omega)⟩
theorem Fill.lt (h : Fill size f w B t n k l) : B < w.heap.size := by
 obtain ⟨cur, hc, _⟩ := h
 rcases Nat.lt_or_ge B w.heap.size with hl | hl
 ·exact hl
 ·rw [Array.getElem?_eq_none hl] at hc; cases hc
theorem Fill.keep (h : Fill size f w B t n k l) (hb : w'.heap[B]? = w.heap[B]?) : Fill size f w' B t n k l := by
 obtain ⟨cur, hc, r⟩ := h;exact ⟨cur, hb.trans hc, r⟩
theorem Fill.cell (h : Fill size f w B t n k l) {i : Nat} (hi : i < n * size) : ∃ u, w.cell? ⟨B, i, none⟩ = some u := by
 obtain ⟨cur, hc, hs, _⟩ := h;exact ⟨cur[i]'(by omega), by rw [cell_of_row w B i cur t (0, 0) hc, Array.getElem?_eq_getElem (by omega)]⟩
theorem Fill.frozen (h : Fill size f w B t n k l) (i : Nat) : w.frozen? ⟨B, i, none⟩ = false := by
 obtain ⟨cur, hc, hs, _⟩ := h;exact frozen_of_row w B i cur t hc
theorem Fill.step (h : Fill size f w B t n k l) (hlen : ∀ x, (f x).length = size) {x : α} (hx : l[k]? = some x)
  (hs : ∀ cur : Array Value, w.heap[B]? = some (.cells cur t (0, 0)) → cur.size = n * size → ∃ cur', w'.heap[B]? = some (.cells cur' t (0, 0)) ∧ cur'.size = cur.size ∧
   (∀ i, i < k * size → cur'[i]? = cur[i]?) ∧ (∀ j u, (f x)[j]? = some u → cur'[k * size + j]? = some u)) : Fill size f w' B t n (k + 1) l := by
 obtain ⟨cur, hc, hsz, hel⟩ := h;obtain ⟨cur', h1, h2, h3, h4⟩ := hs cur hc hsz;refine ⟨cur', h1, h2.trans hsz, fun i y hi hy j v hv => ?_⟩;have hj : j < size := by rw [← hlen y]; exact (List.getElem?_eq_some_iff.1 hv).1
 rcases Nat.lt_or_ge i k with hlt | hge
 ·have hm : (i + 1) * size ≤ k * size := Nat.mul_le_mul_right _ hlt
  rw [Nat.add_mul] at hm;rw [h3 _ (by omega)];exact hel i y hlt hy j v hv
 ·have : i = k := by omega
  subst this;rw [hx] at hy
  cases hy
  exact h4 j v hv
theorem Fill.done (h : Fill size f w B t n n l) (hl : l.length = n) {lo hi : Nat} (h1 : lo ≤ B) (h2 : B < hi) : Sl size f w lo hi (some ⟨B, 0, none⟩) n l := by
 refine ⟨hl, fun _ => ⟨B, 0, rfl, h1, h2, h.lt, fun k x hx j u hu => ?_⟩⟩;obtain ⟨cur, hc, hs, hel⟩ := h;have hk : k < n := by rw [← hl]; exact (List.getElem?_eq_some_iff.1 hx).1
 rw [Nat.zero_add];exact ⟨(cell_of_row w B _ cur t (0, 0) hc).trans (hel k x hk hx j u hu), frozen_of_row w B _ cur t hc⟩
end
section
variable {w w' : World} {lo hi n : Nat} {A : Option Addr}
theorem SlT.get {l : List (Int × Int)} (h : SlT w lo hi A n l) {k : Nat} (hk : k < n) :
  ∃ b off x y, A = some ⟨b, off, none⟩ ∧ lo ≤ b ∧ b < hi ∧ b < w.heap.size ∧ l[k]? = some (x, y) ∧ w.cell? ⟨b, off + k * 2, none⟩ = some (.int .i64 x) ∧ w.cell? ⟨b, off + k * 2 + 1, none⟩ = some (.int .i64 y) ∧
   w.frozen? ⟨b, off + k * 2, none⟩ = false ∧ w.frozen? ⟨b, off + k * 2 + 1, none⟩ = false := by
 obtain ⟨b, off, e, g1, g2, g3, hc⟩ := h.at_ (by omega);have hl : k < l.length := by rw [h.len]; exact hk
 have h0 := hc k l[k] (List.getElem?_eq_getElem hl) 0 _ rfl;have h1 := hc k l[k] (List.getElem?_eq_getElem hl) 1 _ rfl;rw [← Nat.add_assoc] at h1;exact ⟨b, off, l[k].1, l[k].2, e, g1, g2, g3, List.getElem?_eq_getElem hl, h0.1, h1.1, h0.2, h1.2⟩
theorem SlI.get {l : List Int} (h : SlI w lo hi A n l) {k : Nat} (hk : k < n) :
  ∃ b off x, A = some ⟨b, off, none⟩ ∧ lo ≤ b ∧ b < hi ∧ b < w.heap.size ∧ l[k]? = some x ∧ w.cell? ⟨b, off + k, none⟩ = some (.int .i64 x) ∧ w.frozen? ⟨b, off + k, none⟩ = false := by
 obtain ⟨b, off, e, g1, g2, g3, hc⟩ := h.at_ (by omega);have hl : k < l.length := by rw [h.len]; exact hk
 have h0 := hc k l[k] (List.getElem?_eq_getElem hl) 0 _ rfl;simp only [Nat.mul_one, Nat.add_zero] at h0;exact ⟨b, off, l[k], e, g1, g2, g3, List.getElem?_eq_getElem hl, h0.1, h0.2⟩
end
theorem make_row {P : Program} (t e : TypeId) (i : TypeInfo) (z : Value) (sz n : Nat) (ht : P.underlying t = some (.slice e)) (hi : P.info? e = some i) (hz : i.zero = some z) (hsz : i.size = sz)
  (hby : i.bytes * n ≤ 281474976710656) (hn : n ≤ 9223372036854775807) (W : World) :
  (Instr.makeSlice t (.int .i64 (n : Int)) (.int .i64 (n : Int))).run P W = .ok (.slice (some ⟨W.heap.size, 0, none⟩) n n) (W.alloc (.cells (madeCells z.cells (n * sz)) e)) := by
 have hb : (i.bytes : Int) * (n : Int) ≤ 281474976710656 := by
  rw [← Int.natCast_mul];omega
 have h := run_make (P := P) W t e i z ht hi hz .i64 .i64 n n (by omega) (Int.le_refl _) hb (by omega);rw [Int.toNat_natCast, hsz] at h;exact h
section
variable {α : Type} {f : α → List Value} {w : World} {B n k : Nat} {t : TypeId} {l : List α}
theorem Fill.set1 (h : Fill 1 f w B t n k l) (hk : k < n) (hlen : ∀ x, (f x).length = 1) {x : α} (hx : l[k]? = some x) {u : Value} (hf : f x = [u]) :
  Fill 1 f (w.setCell ⟨B, k, none⟩ u) B t n (k + 1) l :=
 h.step hlen hx fun cur hc hs => ⟨cur.setIfInBounds k u, heap_setCell_same w B k cur t u hc, by simp, fun i hi => Array.getElem?_setIfInBounds_ne (by omega), fun j v hv => by
  rw [hf] at hv
  match j, hv with
  | 0, hv =>
   simp at hv
   subst hv
   simp [Array.getElem?_setIfInBounds]
   omega⟩
theorem Fill.set2 (h : Fill 2 f w B t n k l) (hk : k < n) (hlen : ∀ x, (f x).length = 2) {x : α} (hx : l[k]? = some x) {u v : Value} (hf : f x = [u, v]) :
  Fill 2 f ((w.setCell ⟨B, k * 2, none⟩ u).setCell ⟨B, k * 2 + 1, none⟩ v) B t n (k + 1) l :=
 h.step hlen hx fun cur hc hs => ⟨(cur.setIfInBounds (k * 2) u).setIfInBounds (k * 2 + 1) v, heap_setCell_same _ B _ _ t v (heap_setCell_same w B _ cur t u hc), by simp,
  fun i hi => by rw [Array.getElem?_setIfInBounds_ne (by omega), Array.getElem?_setIfInBounds_ne (by omega)], fun j z hz => by
  rw [hf] at hz
  match j, hz with
  | 0, hz =>
   simp at hz
   subst hz;rw [Array.getElem?_setIfInBounds_ne (by omega)]
   simp [Array.getElem?_setIfInBounds]
   omega
  | 1, hz =>
   simp at hz
   subst hz
   simp [Array.getElem?_setIfInBounds]
   omega⟩
end
theorem take_step {α : Type} {l r : List α} {k : Nat} {x y : α} (h : l.take k = r.take k) (hx : l[k]? = some x) (hy : r[k]? = some y) (e : x = y) : l.take (k + 1) = r.take (k + 1) := by
 subst e;rw [List.take_add_one, List.take_add_one, h, hx, hy]
theorem take_stop {α : Type} {l r : List α} {k : Nat} {x y : α} (hx : l[k]? = some x) (hy : r[k]? = some y) (e : x ≠ y) : l ≠ r := by
 rintro rfl;rw [hx] at hy;exact e (Option.some.inj hy)
theorem take_all {α : Type} {l r : List α} {k : Nat} (h : l.take k = r.take k) (hl : l.length = k) (hr : r.length = k) : l = r := by
 rw [List.take_of_length_le (by omega), List.take_of_length_le (by omega)] at h;exact h
structure Only (lo hi : Nat) (w w' : World) : Prop where
 os : w'.os = w.os
 tape : w'.tape = w.tape
 output : w'.output = w.output
 size : w.heap.size ≤ w'.heap.size
 block : ∀ b, b < w.heap.size → b < lo ∨ hi ≤ b → w'.heap[b]? = w.heap[b]?
theorem Only.refl (lo hi : Nat) (w : World) : Only lo hi w w := ⟨rfl, rfl, rfl, zR, fun _ _ _ => rfl⟩
theorem Only.setCell {lo hi : Nat} {a w : World} (h : Only lo hi a w) {p : Addr} (h1 : lo ≤ p.block) (h2 : p.block < hi) (u : Value) : Only lo hi a (w.setCell p u) :=
 ⟨h.os, h.tape, h.output, by simpa [World.setCell] using h.size, fun b hb ho => (Below.heap_setCell w p u b (by omega)).trans (h.block b hb ho)⟩
theorem Only.below {lo hi B : Nat} {a w w' : World} (h : Below B a w) (g : Only lo hi w w') (h1 : B ≤ lo) (h2 : B ≤ w.heap.size) : Below B a w' :=
 h.trans ⟨g.os, g.tape, g.output, g.size, fun b hb => g.block b (by omega) (by omega)⟩
theorem Sl.only {α : Type} {size : Nat} {f : α → List Value} {w w' : World} {lo hi lo' hi' n : Nat} {A : Option Addr} {l : List α} (h : Sl size f w lo hi A n l) (g : Only lo' hi' w w') (hd : hi ≤ lo' ∨ hi' ≤ lo) : Sl size f w' lo hi A n l :=
 h.keep g.size fun b h1 h2 h3 => g.block b h3 (by omega)
section
variable {w : World} {lo hi n b off : Nat}
theorem SlT.put {l : List (Int × Int)} (h : SlT w lo hi (some ⟨b, off, none⟩) n l) {k : Nat} (hk : k < n) (x y : Int) :
  SlT ((w.setCell ⟨b, off + k * 2, none⟩ (.int .i64 x)).setCell ⟨b, off + k * 2 + 1, none⟩ (.int .i64 y)) lo hi (some ⟨b, off, none⟩) n (l.set k (x, y)) := by
 refine ⟨by rw [List.length_set]; exact h.len, fun _ => ?_⟩;obtain ⟨b', off', e, g1, g2, g3, hc⟩ := h.at_ (by omega)
 cases e
 refine ⟨b, off, rfl, g1, g2, by simpa [World.setCell] using g3, fun i z hz j u hu => ?_⟩;have hj : j < 2 := (List.getElem?_eq_some_iff.1 hu).1;have hil : i < l.length := by
  have := (List.getElem?_eq_some_iff.1 hz).1
  rwa [List.length_set] at this
 obtain ⟨hkc0, hkf0⟩ := hc k (l[k]'(by rw [h.len]; exact hk)) (List.getElem?_eq_getElem _) 0 _ rfl;obtain ⟨hkc1, hkf1⟩ := hc k (l[k]'(by rw [h.len]; exact hk)) (List.getElem?_eq_getElem _) 1 _ rfl;have hfr : ∀ (W : World) (p q : Addr) (v : Value), (W.setCell p v).frozen? q = W.frozen? q := fun W p q v => World.frozen?_setCell W p q v
 rw [hfr, hfr]
 by_cases hik : i = k
 ·subst hik
  rw [List.getElem?_set_self hil] at hz
  cases hz
  match j, hu with
  | 0, hu =>
   simp [tv] at hu
   subst hu;simp only [Nat.add_zero] at hkc0 hkf0 ⊢;refine ⟨?_, hkf0⟩;rw [World.cell?_setCell_other _ _ _ _ (by intro e; injection e with _ e _; omega)];exact World.cell?_setCell_same _ _ _ hkc0
  | 1, hu =>
   simp [tv] at hu
   subst hu;rw [← Nat.add_assoc] at hkc1 hkf1 ⊢;refine ⟨?_, hkf1⟩;exact World.cell?_setCell_same _ _ _ ((World.cell?_setCell_other _ _ _ _ (by intro e; injection e with _ e _; omega)).trans hkc1)
 ·rw [List.getElem?_set_ne (by omega)] at hz
  obtain ⟨h1, h2⟩ := hc i z hz j u hu;refine ⟨?_, h2⟩;rw [World.cell?_setCell_other _ _ _ _ (by intro e; injection e with _ e _; omega), World.cell?_setCell_other _ _ _ _ (by intro e; injection e with _ e _; omega)];exact h1
theorem SlI.put {l : List Int} (h : SlI w lo hi (some ⟨b, off, none⟩) n l) {k : Nat} (hk : k < n) (x : Int) :
  SlI (w.setCell ⟨b, off + k, none⟩ (.int .i64 x)) lo hi (some ⟨b, off, none⟩) n (l.set k x) := by
 refine ⟨by rw [List.length_set]; exact h.len, fun _ => ?_⟩;obtain ⟨b', off', e, g1, g2, g3, hc⟩ := h.at_ (by omega)
 cases e
 refine ⟨b, off, rfl, g1, g2, by simpa [World.setCell] using g3, fun i z hz j u hu => ?_⟩;have hj : j < 1 := (List.getElem?_eq_some_iff.1 hu).1;have hil : i < l.length := by
  have := (List.getElem?_eq_some_iff.1 hz).1
  rwa [List.length_set] at this
 obtain ⟨hkc0, hkf0⟩ := hc k (l[k]'(by rw [h.len]; exact hk)) (List.getElem?_eq_getElem _) 0 _ rfl;rw [World.frozen?_setCell]
 by_cases hik : i = k
 ·subst hik
  rw [List.getElem?_set_self hil] at hz
  cases hz
  match j, hu with
  | 0, hu =>
   simp [iv] at hu
   subst hu;simp only [Nat.add_zero, Nat.mul_one] at hkc0 hkf0 ⊢;exact ⟨World.cell?_setCell_same _ _ _ hkc0, hkf0⟩
 ·rw [List.getElem?_set_ne (by omega)] at hz
  obtain ⟨h1, h2⟩ := hc i z hz j u hu;refine ⟨?_, h2⟩;rw [World.cell?_setCell_other _ _ _ _ (by intro e; injection e with _ e _; omega)];exact h1
end
def MapK {α : Type} (g : α → α) (k : Nat) (l L : List α) : Prop := L.length = l.length ∧ (∀ i, i < k → L[i]? = (l[i]?).map g) ∧ ∀ i, k ≤ i → L[i]? = l[i]?
theorem MapK.start {α : Type} (g : α → α) (l : List α) : MapK g 0 l l := ⟨rfl, fun i hi => absurd hi (by omega), fun _ _ => rfl⟩
theorem MapK.skip {α : Type} {g : α → α} {k : Nat} {l L : List α} (h : MapK g k l L) {x : α} (hx : L[k]? = some x) (hg : g x = x) : MapK g (k + 1) l L := by
 refine ⟨h.1, fun i hi => ?_, fun i hi => h.2.2 i (by omega)⟩
 by_cases e : i = k
 ·subst e
  have h1 := h.2.2 i zR;rw [← h1, hx]
  simp [hg]
 ·exact h.2.1 i (by omega)
theorem MapK.set {α : Type} {g : α → α} {k : Nat} {l L : List α} (h : MapK g k l L) {x y : α} (hx : L[k]? = some x) (hg : g x = y) : MapK g (k + 1) l (L.set k y) := by
 have hk : k < L.length := (List.getElem?_eq_some_iff.1 hx).1;refine ⟨by rw [List.length_set]; exact h.1, fun i hi => ?_, fun i hi => by rw [List.getElem?_set_ne (by omega)]; exact h.2.2 i (by omega)⟩
 by_cases e : i = k
 ·subst e
  rw [List.getElem?_set_self hk, ← h.2.2 i zR, hx]
  simp [hg]
 ·rw [List.getElem?_set_ne (by omega)]
  exact h.2.1 i (by omega)
theorem MapK.done {α : Type} {g : α → α} {k : Nat} {l L : List α} (h : MapK g k l L) (hk : l.length = k) : L = l.map g := by
 apply List.ext_getElem?
 intro i;rw [List.getElem?_map]
 by_cases hi : i < k
 ·exact h.2.1 i hi
 ·rw [h.2.2 i (by omega), List.getElem?_eq_none (by omega)]
  rfl
open Go.ChangeAt Go.ChangeShapes Go.WideShapes
theorem info_int64 : (Tryz.prog.info? 2).map (fun i => (i.zero, i.size, i.bytes)) = some (some (.int .i64 0), 1, 8) := by kernel_rfl
end Go.Proofs.YtnhomkmfbngmgaaGreatDoor
namespace Go.Proofs.YtnhomkmfbngmgaaGreatDoor
open Go.ChangeShapes Go.WideShapes Go.Deep Go.RowKit
theorem addr_add (b off i : Nat) : (⟨b, off, none⟩ : Addr).add i = ⟨b, off + i, none⟩ := by
 unfold Addr.add
 split <;> simp_all
theorem list_of {α : Type} {Q : Nat → α → Prop} (n : Nat) (h : ∀ i, i < n → ∃ x, Q i x) : ∃ l : List α, l.length = n ∧ ∀ i x, l[i]? = some x → Q i x := by
 induction n with
 | zero => exact ⟨[], rfl, fun i x h => by simp at h⟩
 | succ n ih =>
  obtain ⟨l, hl, hq⟩ := ih fun i hi => h i (by omega)
  obtain ⟨y, hy⟩ := h n (by omega);refine ⟨l ++ [y], by simp [hl], fun i x hx => ?_⟩
  rcases Nat.lt_or_ge i n with hi | hi
  ·rw [List.getElem?_append_left (by omega)] at hx
   exact hq i x hx
  ·rw [List.getElem?_append_right (by omega)] at hx
   have : i = n := by
    have := (List.getElem?_eq_some_iff.1 hx).1
    simp at this
    omega
   subst this
   simp [hl] at hx
   subst hx;exact hy
section
variable {H : Type} {enc : TypeId × Value → H} {P : Program} {w : World} {base : Nat} {spare : Nat → Bool} {held : Bool}
theorem mem_row {a : Addr} {n j : Nat} (h : j < n) : MemPlace.cell a.block (a.off + j) ∈ MemPlace.row a n := List.mem_map.2 ⟨j, List.mem_range.2 h, rfl⟩
theorem open_flat {α : Type} (f : α → List Value) {t e : TypeId} {size : Nat} (ht : P.underlying t = some (.slice e)) (hC : P.cellsOf e = size) (hs : 0 < size)
  (hE : ∀ (fuel : Nat) (cs : List Value) (y : DataW H × List MemPlace), DataW.trod enc P w base spare held fuel e cs = some y → cs.length = size → ∃ x : α, cs = f x)
  {fuel : Nat} {cs : List Value} {r : DataW H × List MemPlace} (h : DataW.trod enc P w base spare held fuel t cs = some r) (hz : ∀ b off, MemPlace.cell b off ∈ r.2 → w.frozen? ⟨b, off, none⟩ = false) :
  ∃ A n c l, cs = [.slice A n c] ∧ n ≤ maxLen ∧ Sl size f w base w.heap.size A n l := by
 rcases open_slice ht h with ⟨hcs, _⟩ | ⟨a, len, cap, m, n, D, Pl, hcs, hb, hl, hm, hmm, hr, hi⟩
 ·exact ⟨none, 0, 0, [], hcs, Nat.zero_le _, Sl.nil_⟩
 ·have hlm : len ≤ m := by rw [hmm]; split <;> omega
  have hq : ∀ i, i < len → ∃ x : α, ∀ j u, (f x)[j]? = some u → w.cell? ((a.add (i * size)).add j) = some u ∧ j < size := by
   intro i hil;obtain ⟨cs', hc, ht'⟩ := hi i (by omega);rw [hC] at hc;obtain ⟨_, hcl, hat⟩ := World.cells?_some hc;obtain ⟨y, rfl⟩ := hE _ _ _ ht' hcl;refine ⟨y, fun j u hu => ?_⟩;have hj : j < size := by rw [← hcl]; exact (List.getElem?_eq_some_iff.1 hu).1
   exact ⟨(hat j hj).trans hu, hj⟩
  obtain ⟨l, hll, hlq⟩ := list_of len hq;refine ⟨some a, len, cap, l, hcs, by omega, hll, fun h0 => ?_⟩;obtain ⟨b, off, spot⟩ := a;have hspot : spot = none := by
   obtain ⟨cs', hc, ht'⟩ := hi 0 (by omega);rw [hC] at hc;obtain ⟨_, hcl, hat⟩ := World.cells?_some hc;have h1 := hat 0 hs;rw [List.getElem?_eq_getElem (by omega)] at h1
   simpa [Addr.add] using World.cell?_spot h1
  subst hspot;have hcell : ∀ (k : Nat) (x : α), l[k]? = some x → ∀ (j : Nat) (u : Value), (f x)[j]? = some u → w.cell? ⟨b, off + (k * size + j), none⟩ = some u ∧ k < len ∧ j < size := by
   intro k x hx j u hu;obtain ⟨h1, h2⟩ := hlq k x hx j u hu;rw [addr_add, addr_add, Nat.add_assoc] at h1;exact ⟨h1, by rw [← hll]; exact (List.getElem?_eq_some_iff.1 hx).1, h2⟩
  have hbl : b < w.heap.size := by
   obtain ⟨cs', hc, ht'⟩ := hi 0 (by omega);rw [hC] at hc;obtain ⟨_, hcl, hat⟩ := World.cells?_some hc;have h1 := hat 0 hs;rw [List.getElem?_eq_getElem (by omega), addr_add, addr_add] at h1;exact World.block_lt_of_cell? w _ h1
  refine ⟨b, off, rfl, hb, hbl, hbl, fun k x hx j u hu => ?_⟩;obtain ⟨h1, h2, h3⟩ := hcell k x hx j u hu;refine ⟨h1, hz _ _ ?_⟩;rw [hr, hC];refine List.mem_append_left _ (mem_row (a := ⟨b, off, none⟩) ?_);have hkm : (k + 1) * size ≤ m * size := Nat.mul_le_mul_right _ (by omega);rw [Nat.add_mul] at hkm;omega
end
end Go.Proofs.YtnhomkmfbngmgaaGreatDoor
namespace Go.Proofs.YtnhomkmfbngmgaaGreatDoor
open Go.RowKit
structure Flat {α : Type} (f : α → List Value) (size : Nat) : Prop where
 len : ∀ x, (f x).length = size
 one : ∀ x u, u ∈ f x → u.oneCell' = true
theorem flat_iv : Flat iv 1 := ⟨fun _ => rfl, fun x u h => by simp [iv] at h; subst h; rfl⟩
def Elem (P : Program) (t e : TypeId) (size bytes : Nat) : Prop :=
 P.underlying t = some (.slice e) ∧ 0 < size ∧ 0 < bytes ∧ ∃ i z, P.info? e = some i ∧ i.zero = some z ∧ i.size = size ∧ i.bytes = bytes ∧ z.cells.size = size
theorem Elem.of {P : Program} {t e : TypeId} {size bytes : Nat} {z : Value} (ht : P.underlying t = some (.slice e)) (hi : (P.info? e).map (fun i => (i.zero, i.size, i.bytes)) = some (some z, size, bytes))
  (hz : z.cells.size = size) (h0 : 0 < size) (h1 : 0 < bytes) : Elem P t e size bytes := by
 obtain ⟨i, a, b, c, d⟩ := info_parts hi;exact ⟨ht, h0, h1, i, z, a, b, c, d, hz⟩
def Own {α : Type} (size : Nat) (f : α → List Value) (w : World) (base : Nat) (e : TypeId) (A : Option Addr) (n c : Nat) (l : List α) : Prop :=
 l.length = n ∧ w.ownsRow base e size (.slice A n c) n (l.flatMap f)
theorem flat_length {α : Type} {f : α → List Value} {size : Nat} (hf : Flat f size) (l : List α) : (l.flatMap f).length = l.length * size := by
 induction l with
 | nil => simp
 | cons x l ih => simp [List.flatMap_cons, ih, hf.len, Nat.add_mul]; omega
theorem flat_at {α : Type} {f : α → List Value} {size : Nat} (hf : Flat f size) : ∀ (l : List α) (k : Nat) (x : α), l[k]? = some x → ∀ (j : Nat) (u : Value), (f x)[j]? = some u → (l.flatMap f)[k * size + j]? = some u := by
 intro l
 induction l with
 | nil => intro k x h; simp at h
 | cons y l ih =>
  intro k x h j u hu;have hj : j < size := by rw [← hf.len x]; exact (List.getElem?_eq_some_iff.1 hu).1
  rw [List.flatMap_cons]
  cases k with
  | zero =>
   simp at h
   subst h;rw [List.getElem?_append_left (by rw [hf.len]; omega)]
   simpa using hu
  | succ k =>
   simp at h
   rw [List.getElem?_append_right (by rw [hf.len, Nat.add_mul]; omega), hf.len];have : (k + 1) * size + j - size = k * size + j := by rw [Nat.add_mul]; omega
   rw [this];exact ih k x h j u hu
theorem flat_from {α : Type} {f : α → List Value} {size : Nat} (hf : Flat f size) : ∀ (l : List α) (j : Nat) (u : Value), (l.flatMap f)[j]? = some u → ∃ k i x, l[k]? = some x ∧ (f x)[i]? = some u ∧ j = k * size + i := by
 intro l
 induction l with
 | nil => intro j u h; simp at h
 | cons y l ih =>
  intro j u h;rw [List.flatMap_cons] at h
  rcases Nat.lt_or_ge j size with hj | hj
  ·rw [List.getElem?_append_left (by rw [hf.len]; exact hj)] at h
   exact ⟨0, j, y, rfl, h, by simp⟩
  ·rw [List.getElem?_append_right (by rw [hf.len]; exact hj), hf.len] at h
   obtain ⟨k, i, x, h1, h2, h3⟩ := ih _ _ h;exact ⟨k + 1, i, x, by simpa using h1, h2, by rw [Nat.add_mul]; omega⟩
theorem flat_one {α : Type} {f : α → List Value} {size : Nat} (hf : Flat f size) (l : List α) : ∀ u ∈ l.flatMap f, u.oneCell' = true := by
 intro u hu;obtain ⟨x, _, hx⟩ := List.mem_flatMap.1 hu;exact hf.one x u hx
section
variable {α : Type} {size : Nat} {f : α → List Value} {w w' : World} {base n c : Nat} {e : TypeId} {A : Option Addr} {l : List α}
theorem Own.len (h : Own size f w base e A n c l) : l.length = n := h.1
theorem Own.nil_ (w : World) (base : Nat) (e : TypeId) : Own size f w base e none 0 0 ([] : List α) := ⟨rfl, World.ownsRow_nil _ _ _ _⟩
theorem Own.lt (h : Own size f w base e A n c l) : ∀ g, (Value.slice A n c).ownBlock = some g → base ≤ g ∧ g < w.heap.size := h.2.lt
theorem Own.sl (h : Own size f w base e A n c l) (hf : Flat f size) : Sl size f w base w.heap.size A n l := by
 refine ⟨h.1, fun hn => ?_⟩
 rcases h.2.2 with ⟨hv, rfl⟩ | ⟨g, cap, cur, hv, hb, hg, hnc, hcm, hcs, htake⟩
 ·omega
 ·injection hv with hA _ _
  subst hA;have hlt : g < w.heap.size := (Array.getElem?_eq_some_iff.1 hg).1;refine ⟨g, 0, rfl, hb, hlt, hlt, fun k x hx j u hu => ?_⟩;have h1 := flat_at hf l k x hx j u hu;have h2 := h.2.cells (g := g) rfl _ _ h1;have hadd : (⟨g, 0, none⟩ : Addr).add (k * size + j) = ⟨g, 0 + (k * size + j), none⟩ := by unfold Addr.add; split <;> simp_all
  rw [hadd] at h2;exact ⟨h2, frozen_of_row w g _ cur e hg⟩
theorem Own.keep (h : Own size f w base e A n c l) (hk : ∀ g, (Value.slice A n c).ownBlock = some g → w'.heap[g]? = w.heap[g]?) : Own size f w' base e A n c l := by
 refine ⟨h.1, h.2.1, ?_⟩
 rcases h.2.2 with hn | ⟨g, cap, cur, hv, hb, hg, rest⟩
 ·exact .inl hn
 ·refine .inr ⟨g, cap, cur, hv, hb, ?_, rest⟩
  rw [hk g (by rw [hv]; rfl)];exact hg
theorem Own.below (h : Own size f w base e A n c l) {B : Nat} (hb : Below B w w') (hB : w.heap.size ≤ B) : Own size f w' base e A n c l :=
 h.keep fun g hg => hb.block g (by have := (h.lt g hg).2; omega)
end
theorem Sl.lit1 {α : Type} {f : α → List Value} (w : World) (t : TypeId) (x : α) (cs : Array Value) (h : f x = cs.toList) (size lo : Nat) (hlo : lo ≤ w.heap.size) :
  Sl size f (w.alloc (.cells cs t)) lo (w.heap.size + 1) (some ⟨w.heap.size, 0, none⟩) 1 [x] := by
 refine ⟨rfl, fun _ => ⟨w.heap.size, 0, rfl, hlo, by omega, by simp, fun k y hy j u hu => ?_⟩⟩
 cases k with
 | succ k => simp at hy
 | zero =>
  simp at hy
  subst hy;rw [h] at hu;simp only [Nat.zero_mul, Nat.zero_add];have hg := heap_alloc_new w (.cells cs t);exact ⟨(cell_of_row _ _ _ cs t (0, 0) hg).trans (by simpa using hu), frozen_of_row _ _ _ cs t hg⟩
theorem Sl.lit1' {α : Type} {f : α → List Value} (w : World) (t : TypeId) (x : α) (cs : Array Value) (h : f x = cs.toList) (size g : Nat) (hg : g = w.heap.size) :
  Sl size f (w.alloc (.cells cs t)) 0 (g + 1) (some ⟨g, 0, none⟩) 1 [x] := by
 subst hg;exact Sl.lit1 w t x cs h size 0 (Nat.zero_le _)
section
variable {P : Program} {α : Type} {size bytes : Nat} {f : α → List Value} {t e : TypeId}
theorem run_app (w : World) (hE : Elem P t e size bytes) (hf : Flat f size) (ty : TypeId) {base n c : Nat} {A : Option Addr} {l : List α} (hown : Own size f w base e A n c l)
  {B : Option Addr} {m d lo hi : Nat} {r : List α} (hr : Sl size f w lo hi B m r) (hsz : (n + m) * bytes ≤ 140737488355328) (hbase : base ≤ w.heap.size) :
  ∃ A' c' w', (Builtin.append_ #[t, t] ty #[.slice A n c, .slice B m d]).run P w = .ok (.slice A' (n + m) c') w' ∧ Own size f w' base e A' (n + m) c' (l ++ r) ∧ w.grownBy w' (Value.slice A n c).ownBlock ∧
   ((Value.slice A' (n + m) c').ownBlock = (Value.slice A n c).ownBlock ∨ (Value.slice A' (n + m) c').ownBlock = some w.heap.size) := by
 obtain ⟨ht, h0, hb0, i, z, hi', hz, hs, hby, hzs⟩ := hE;have hnm : n + m ≤ 140737488355328 := Nat.le_trans (Nat.le_mul_of_pos_right _ hb0) hsz;have key : ∀ v' w', w'.ownsRow base e size v' (n + m) (l.flatMap f ++ r.flatMap f) → ∃ A' c', v' = .slice A' (n + m) c' ∧ Own size f w' base e A' (n + m) c' (l ++ r) := by
  intro v' w' h;have hsh : ∃ A' c', v' = .slice A' (n + m) c' := by
   rcases h.2 with ⟨rfl, h0⟩ | ⟨g, cap, cur, rfl, _⟩
   ·exact ⟨none, 0, by rw [h0]⟩
   ·exact ⟨_, _, rfl⟩
  obtain ⟨A', c', rfl⟩ := hsh;exact ⟨A', c', rfl, by rw [List.length_append, hown.1, hr.len], by rw [List.flatMap_append]; exact h⟩
 by_cases hm : m = 0
 ·subst hm
  have hr0 : r = [] := List.eq_nil_of_length_eq_zero hr.len;subst hr0;have hrun : (Builtin.append_ #[t, t] ty #[.slice A n c, .slice B 0 d]).run P w = .ok (.slice A n c) w := by
   rcases hown.2.2 with ⟨hv, rfl⟩ | ⟨g, cap, cur, hv, _, hg, hnc, _⟩
   ·injection hv with h1 _ h3
    subst h1 h3
    cases B <;> simp [Builtin.append_, run_underlying ht, sizeOf, typeInfo, hi', Builtin.lenOf, Builtin.firstCells, loadCells, loadCellsFrom]
   ·injection hv with h1 _ h3
    subst h1 h3
    cases B <;> simp [Builtin.append_, run_underlying ht, sizeOf, typeInfo, hi', Builtin.lenOf, Builtin.firstCells, loadCells, loadCellsFrom, hnc, storeCells]
  exact ⟨A, c, w, hrun, ⟨by simpa using hown.1, by simpa using hown.2⟩, ⟨rfl, rfl, rfl, zR, fun _ _ _ => rfl⟩, .inl rfl⟩
 ·obtain ⟨b, off, rfl, _, _, _, hc⟩ := hr.at_ (by omega)
  obtain ⟨v', w', h1, h2, h3, _, h5⟩ := run_append_own_at (P := P) w base t ty e i z size bytes ht hi' hz hs hby hzs h0 (.slice A n c) n (l.flatMap f) hown.2 ⟨b, off, none⟩ m d (r.flatMap f)
   (by rw [flat_length hf, hr.len]) (fun j u hu => by
    obtain ⟨k, i, x, hx, hu', rfl⟩ := flat_from hf r j u hu;have hadd : (⟨b, off, none⟩ : Addr).add (k * size + i) = ⟨b, off + (k * size + i), none⟩ := by unfold Addr.add; split <;> simp_all
    rw [hadd];exact (hc k x hx i u hu').1) (flat_one hf r) (by unfold maxLen; omega) hsz hbase
  obtain ⟨A', c', rfl, h6⟩ := key v' w' h2;exact ⟨A', c', w', h1, h6, h3, h5⟩
theorem wpList_app {w : World} {ops : Array Oper} {rest : List Oper} {o : Oper} {a : Act} {Q : Exit → Act → World → Prop} (hgd : o.guard = none) (s x : Operand)
  (ho : o.op = .call { callee := .builtin .append, args := #[s, x], argTypes := #[t, t] }) (hE : Elem P t e size bytes) (hf : Flat f size)
  {base n c : Nat} {A : Option Addr} {l : List α} (hs : a.eval s = .slice A n c) (hown : Own size f w base e A n c l)
  {B : Option Addr} {m d lo hi : Nat} {r : List α} (hx : a.eval x = .slice B m d) (hr : Sl size f w lo hi B m r) (hsz : (n + m) * bytes ≤ 140737488355328) (hbase : base ≤ w.heap.size)
  (h : ∀ A' c' w', Own size f w' base e A' (n + m) c' (l ++ r) → w.grownBy w' (Value.slice A n c).ownBlock → Below base w w' →
   ((Value.slice A' (n + m) c').ownBlock = (Value.slice A n c).ownBlock ∨ (Value.slice A' (n + m) c').ownBlock = some w.heap.size) → wpList P ops Q rest (a.put o.dst (.slice A' (n + m) c')) w') : wpList P ops Q (o :: rest) a w := by
 refine wpList_plain hgd fun K hK => ?_
 obtain ⟨A', c', w', h1, h2, h3, h4⟩ := run_app w hE hf o.type hown (d := d) hr hsz hbase;unfold Oper.wp execOp;simp only [ho, resolve, invoke, builtin, Sem.run_bind, Sem.run_pure, Result.andThen_ok, List.map_toArray, List.map_cons, List.map_nil, hs, hx, h1];exact hK _ _ (h A' c' w' h2 h3 (bR.grown h3 hbase fun k hk => (hown.lt k hk).1) h4)
end
theorem Own.made {α : Type} {size : Nat} {f : α → List Value} (w : World) {base : Nat} (e : TypeId) (hb : base ≤ w.heap.size) : Own size f (w.alloc (.cells #[] e)) base e (some ⟨w.heap.size, 0, none⟩) 0 0 ([] : List α) :=
 ⟨rfl, World.ownsRow_made w #[] 0 hb (Nat.zero_le _) (by simp)⟩
theorem Own.alloc {α : Type} {size : Nat} {f : α → List Value} {w : World} {base n c : Nat} {e : TypeId} {A : Option Addr} {l : List α} (h : Own size f w base e A n c l) (o : Obj) : Own size f (w.alloc o) base e A n c l :=
 ⟨h.1, h.2.alloc o⟩
def cutA (A : Option Addr) (l cap size : Nat) : Option Addr := if cap = l then A else A.map (·.add (l * size))
theorem Sl.cut {α : Type} {size : Nat} {f : α → List Value} {w : World} {lo hi n c k : Nat} {A : Option Addr} {l : List α} (h : Sl size f w lo hi A n l) (hk : k ≤ n) (hc : n ≤ c) : Sl size f w lo hi (cutA A k c size) (n - k) (l.drop k) := by
 refine ⟨by rw [List.length_drop, h.len], fun hn => ?_⟩;obtain ⟨b, off, rfl, g1, g2, g3, hcell⟩ := h.at_ (by omega);have e : cutA (some ⟨b, off, none⟩) k c size = some ⟨b, off + k * size, none⟩ := by
  unfold cutA;rw [if_neg (by omega)];simp only [Option.map_some, Addr.add]
  split <;> simp_all
 rw [e];refine ⟨b, off + k * size, rfl, g1, g2, g3, fun i x hx j u hu => ?_⟩;rw [List.getElem?_drop] at hx;have h1 := hcell (k + i) x hx j u hu;have e2 : off + ((k + i) * size + j) = off + k * size + (i * size + j) := by rw [Nat.add_mul]; omega
 rw [e2] at h1;exact h1
theorem Sl.take {α : Type} {size : Nat} {f : α → List Value} {w : World} {lo hi n k : Nat} {A : Option Addr} {l : List α} (h : Sl size f w lo hi A n l) (hk : k ≤ n) : Sl size f w lo hi A k (l.take k) := by
 refine ⟨by rw [List.length_take, h.len]; omega, fun hn => ?_⟩;obtain ⟨b, off, rfl, g1, g2, g3, hcell⟩ := h.at_ (by omega);refine ⟨b, off, rfl, g1, g2, g3, fun i x hx j u hu => ?_⟩;rw [List.getElem?_take] at hx
 split at hx
 ·exact hcell i x hx j u hu
 ·cases hx
theorem run_cut {P : Program} {t e : TypeId} {size bytes : Nat} (hE : Elem P t e size bytes) (A : Option Addr) (n c k : Nat) (hk : k ≤ n) (W : World) :
  (Instr.slice t (.slice A n c) (some (.int .i64 (k : Int))) none none).run P W = .ok (.slice (cutA A k c size) (n - k) (c - k)) W := by
 obtain ⟨ht, _, _, i, z, hi, _, hs, _⟩ := hE;have he : P.elem t = e := by simp [Program.elem, ht]
 rw [run_slice_l W t A n c (by rw [he]; exact ht) .i64 k (by omega) (by omega)]
 simp [sizeOf, typeInfo, he, hi, hs, sliced, cutA]
theorem run_head {P : Program} {t e : TypeId} {size bytes : Nat} (hE : Elem P t e size bytes) (A : Option Addr) (n c k : Nat) (hk : k ≤ c) (W : World) :
  (Instr.slice t (.slice A n c) none (some (.int .i64 (k : Int))) none).run P W = .ok (.slice A k c) W := by
 obtain ⟨ht, _, _, i, z, hi, _, hs, _⟩ := hE;have he : P.elem t = e := by simp [Program.elem, ht]
 rw [run_slice_h W t A n c (by rw [he]; exact ht) .i64 k (by omega) (by omega)];have ha : A.map (fun x => x.add 0) = A := by cases A <;> simp [Addr.add]
 simp [sizeOf, typeInfo, he, hi, hs, sliced, ha]
theorem Own.take {α : Type} {size : Nat} {f : α → List Value} {w : World} {base n c k : Nat} {e : TypeId} {A : Option Addr} {l : List α} (hf : Flat f size) (h : Own size f w base e A n c l) (hk : k ≤ n) : Own size f w base e A k c (l.take k) := by
 have hl : (l.take k).length = k := by rw [List.length_take, h.1]; omega
 have hfl : (l.take k).flatMap f = (l.flatMap f).take (k * size) := by
  have h1 : l.flatMap f = (l.take k).flatMap f ++ (l.drop k).flatMap f := by rw [← List.flatMap_append, List.take_append_drop]
  rw [h1];have h2 := flat_length hf (l.take k);rw [hl] at h2;rw [← h2, List.take_left]
 refine ⟨hl, by rw [flat_length hf, hl], ?_⟩
 rcases h.2.2 with ⟨hv, h0⟩ | ⟨g, cap, cur, hv, hb, hg, hnc, hcm, hcs, htake⟩
 ·injection hv with h1 _ h3
  subst h1 h3;have : k = 0 := by omega
  subst this;exact .inl ⟨rfl, rfl⟩
 ·injection hv with h1 _ h3
  subst h1 h3;refine .inr ⟨g, c, cur, rfl, hb, hg, by omega, hcm, hcs, ?_⟩;rw [hfl, ← htake, List.take_take]
  congr 1
  have := Nat.mul_le_mul_right size hk;omega
theorem Own.cap {α : Type} {size : Nat} {f : α → List Value} {w : World} {base n c : Nat} {e : TypeId} {A : Option Addr} {l : List α} (h : Own size f w base e A n c l) : n ≤ c := by
 rcases h.2.2 with ⟨hv, h0⟩ | ⟨g, cap, cur, hv, _, _, hnc, _⟩
 ·omega
 ·injection hv with _ _ h3
  omega
def sv (x : Option Addr × Nat × Nat) : List Value := [.slice x.1 x.2.1 x.2.2]
theorem flat_sv : Flat sv 1 := ⟨fun _ => rfl, fun x u h => by simp [sv] at h; subst h; rfl⟩
theorem Own.apart {α β : Type} {size size' : Nat} {f : α → List Value} {f' : β → List Value} {w : World} {base base' n c n' c' : Nat} {e e' : TypeId} {A A' : Option Addr} {l : List α} {l' : List β}
  (h : Own size f w base e A n c l) (g : Own size' f' w base' e' A' n' c' l') (he : e ≠ e') : (Value.slice A n c).ownBlock = none ∨ (Value.slice A n c).ownBlock ≠ (Value.slice A' n' c').ownBlock := by
 rcases h.2.2 with ⟨hv, _⟩ | ⟨b, cap, cur, hv, _, hb, _⟩
 ·left; rw [hv]; rfl
 ·right
  intro e1
  rcases g.2.2 with ⟨hv', _⟩ | ⟨b', cap', cur', hv', _, hb', _⟩
  ·rw [hv, hv'] at e1; simp [Value.ownBlock] at e1
  ·rw [hv, hv'] at e1
   simp [Value.ownBlock] at e1
   subst e1;rw [hb] at hb';injection hb' with hb';injection hb' with _ ht;exact he ht
theorem Own.kept {α : Type} {size : Nat} {f : α → List Value} {w w' : World} {base n c : Nat} {e : TypeId} {A : Option Addr} {l : List α} {row : Option Nat} (h : Own size f w base e A n c l) (hg : w.grownBy w' row) (hne : (Value.slice A n c).ownBlock = none ∨ (Value.slice A n c).ownBlock ≠ row) :
  Own size f w' base e A n c l := ⟨h.1, h.2.kept hg hne⟩
end Go.Proofs.YtnhomkmfbngmgaaGreatDoor
