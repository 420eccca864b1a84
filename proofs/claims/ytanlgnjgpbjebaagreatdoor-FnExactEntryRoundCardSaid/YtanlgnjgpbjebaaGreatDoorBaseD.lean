/-
  Several texts in one:
  The shelf's contracts on strings and numbers at this seat's program, in plain words (printed by wip/shelf.py with the kit's lay-shelf and lay-plain). Conditions: sizes.
  Numbers in decimal: the program's reading and the reference's are the same function. Conditions: sizes.
  Labels: the program's reading and the reference's are the same function of a text. Conditions: none.
  Transition systems as data, and what makes one valid, deterministic. Conditions: none.
  Transition systems as arguments of a law: words, sizes, copying, comparing. Conditions: sizes.
  Small tests on numbers, both programs'. Conditions: none.
-/
import Derived.Test.YtanlgnjgpbjebaaGreatDoorBaseC
import Derived.Shelf.Strings.Builder1
import Derived.Shelf.Strings.Builder2
import Derived.Shelf.Strings.OnBuilder
import Derived.Shelf.Small.Bits
import Derived.Shelf.Strings.BuilderF
import Derived.Shelf.Strings.BuilderK
import Derived.Shelf.Utf8.RuneCount
import Derived.Shelf.Strings.Builder2Cap
import Derived.Shelf.Strconv.Itoa0
import Derived.Shelf.Strconv.Itoa1
import Derived.Shelf.LaysM
import Derived.Shelf.Strconv.Itoa2
import Derived.Shelf.Strconv.Itoa3
import Derived.Shelf.Strconv.Itoa4
import Derived.Shelf.Strconv.ParseIntEmpty
import Derived.Shelf.Strconv.Clone
import Derived.Shelf.Strconv.SyntaxError
import Derived.Shelf.LaysC
import Derived.Shelf.Strconv.ToError
import Derived.Shelf.Strconv.Lower
import Derived.Shelf.Strconv.ParseUint10
import Derived.Shelf.Strconv.ParseUint10Empty
import Derived.Shelf.Strconv.ParseUint10Any
import Derived.Shelf.Strconv.ParseInt10
import Derived.Shelf.Strconv.RangeError
import Derived.Shelf.Strconv.ToErrorRange
import Derived.Shelf.Strconv.ParseUintEmpty
import Derived.Shelf.Strconv.ParseUint10b64
import Derived.Shelf.Strconv.ParseUint10b32
import Derived.Shelf.Strconv.ParseUint10b16
import Derived.Shelf.Strconv.ParseUint10b8
import Derived.Shelf.Strconv.ParseUint10At
import Derived.Shelf.Strconv.ParseInt10At64
import Derived.Shelf.Strconv.ParseInt10At32
import Derived.Shelf.Strconv.ParseInt10At16
import Derived.Shelf.Strconv.ParseInt10At8
import Derived.Shelf.Strconv.ParseInt10All
import Derived.Shelf.Strconv.ParseIntPublic10
import Derived.Shelf.Strconv.ErrVarParseInt
import Derived.Shelf.Strings.Search1
import Derived.Shelf.Strings.Search2
import Derived.Shelf.Strings.Search3
import Derived.Shelf.Strings.Cut
import Derived.Shelf.Strings.Count
import Derived.Shelf.Strings.Shaped
import Derived.Shelf.Strings.Prefix
import Derived.Shelf.Strings.Split
import Derived.Shelf.Strings.SplitShaped
import Derived.Shelf.Unicode.Decode
import Derived.Shelf.Strings.RuneCount
import Derived.Shelf.Strings.Explode
import Derived.Shelf.Bits.Mul64
import Derived.Shelf.Unicode.DecodeSlow
import Derived.Shelf.Unicode.DecodeAny
import Derived.Ground.SlgnProg
import Derived.Shelf.SlicesG.Clone
import Derived.Shelf.SlicesG.CompactI
import Derived.Shelf.SlicesG.SearchI
import Derived.Shelf.SlicesG.Cells
import Derived.Shelf.SlicesE.Clone
import Derived.Ground.SlgcProg
import Derived.Shelf.SlicesG.Cmp
import Derived.Ground.SlgmProg
import Derived.Shelf.SortM.Plain
import Derived.Shelf.SortM.SortNone
import Derived.Test.YtanlgnjgpbjebaaGreatDoorProg
import Derived.Lib.ParseIntB
import Derived.Lib.ItoaNum
import Derived.Lib.Strings
import Derived.Lib.Split
import Derived.Lib.Join
import Derived.IntWalk
namespace Go.Proofs
open Go.Shelf
def Tryz.lays156_ren : Go.Shelf.Ren := ⟨fun | 156 => 204 | 165 => 222 | 166 => 223 | 169 => 224 | 240 => 236 | 241 => 237 | 276 => 247 | 277 => 248 | n => n, fun | 31 => 23 | 9 => 9 | 3 => 3 | 4 => 4 | 0 => 0 | 20 => 20 | 72 => 225 | 76 => 227 | 70 => 223 | 37 => 127 | 75 => 205 | 127 => 240 | 164 => 253 | 5 => 5 | 80 => 229 | n => n, fun | n => n⟩
theorem Tryz.lays156 : Go.Proofs.Lays.n156 Tryz.prog Tryz.lays156_ren := {
  mixed := by kernel_rfl
  f156 := Tryz.func204.trans (congrArg some (by kernel_rfl))
  f165 := Tryz.func222.trans (congrArg some (by kernel_rfl))
  f166 := Tryz.func223.trans (congrArg some (by kernel_rfl))
  f169 := Tryz.func224.trans (congrArg some (by kernel_rfl))
  f240 := Tryz.func236.trans (congrArg some (by kernel_rfl))
  f241 := Tryz.func237.trans (congrArg some (by kernel_rfl))
  f276 := Tryz.func247.trans (congrArg some (by kernel_rfl))
  f277 := Tryz.func248.trans (congrArg some (by kernel_rfl))
  t0 := Tryz.underlying0
  a0 := Tryz.isAgg0
  z0 := Tryz.sizeOf0
  v0 := Tryz.zeroValue0
  t3 := Tryz.underlying3
  a3 := Tryz.isAgg3
  z3 := Tryz.sizeOf3
  v3 := Tryz.zeroValue3
  t4 := Tryz.underlying4
  a4 := Tryz.isAgg4
  z4 := Tryz.sizeOf4
  v4 := Tryz.zeroValue4
  t9 := Tryz.underlying9
  a9 := Tryz.isAgg9
  z9 := Tryz.sizeOf9
  v9 := Tryz.zeroValue9
  t20 := Tryz.underlying20
  a20 := Tryz.isAgg20
  z20 := Tryz.sizeOf20
  v20 := Tryz.zeroValue20
  t31 := Tryz.underlying23
  a31 := Tryz.isAgg23
  z31 := Tryz.sizeOf23
  v31 := Tryz.zeroValue23
  t37 := Tryz.underlying127
  a37 := Tryz.isAgg127
  z37 := Tryz.sizeOf127
  v37 := Tryz.zeroValue127
  t70 := Tryz.underlying223
  a70 := Tryz.isAgg223
  z70 := Tryz.sizeOf223
  v70 := Tryz.zeroValue223
  t72 := Tryz.underlying225
  a72 := Tryz.isAgg225
  z72 := Tryz.sizeOf225
  v72 := Tryz.zeroValue225
  t75 := Tryz.underlying205
  a75 := Tryz.isAgg205
  z75 := Tryz.sizeOf205
  v75 := Tryz.zeroValue205
  t76 := Tryz.underlying227
  a76 := Tryz.isAgg227
  z76 := Tryz.sizeOf227
  v76 := Tryz.zeroValue227
  t127 := Tryz.underlying240
  a127 := Tryz.isAgg240
  z127 := Tryz.sizeOf240
  v127 := Tryz.zeroValue240
  t164 := Tryz.underlying253
  a164 := Tryz.isAgg253
  z164 := Tryz.sizeOf253
  v164 := Tryz.zeroValue253 }
theorem Tryz.Builder_Extra_156 : Builder.Extra Tryz.prog Tryz.lays156_ren := {
  sizeBuilder := by kernel_rfl
  liesBuilder := by kernel_rfl
  t5 := Tryz.underlying5
  a5 := Tryz.isAgg5
  z5 := Tryz.sizeOf5
  v5 := Tryz.zeroValue5
  infoByte := by kernel_rfl
  cellsByte := by kernel_rfl
  sizeByte := by kernel_rfl
  neB5 := by decide }
open Go.RowKit in
/-- strings.Join: "Join concatenates the elements of its first argument to create a single string. The separator string sep is placed between elements in the resulting string.": HOWEVER MANY ELEMENTS. Below the heap's end the world is as it was. (LAID: no walk: one application.) -/
theorem Tryz.strings_Join (bk o c : Nat) (xs : List ByteArray) (sep : ByteArray) (w : World) (hcells : ∀ (j : Nat) x, xs[j]? = some x → w.cell? ⟨bk, o + j, none⟩ = some (.string x)) (hbk : bk < w.heap.size) (hN : xs.length ≤ 140737488355328) (hcap : xs.length ≤ c) (hlen : (Lib.join (xs.map (·.data.toList)) sep.data.toList).length ≤ 140737488355328) :
    Calls Tryz.prog 204 #[.slice (some ⟨bk, o, none⟩) xs.length c, .string sep] w fun e w' => e = .returned (.string ⟨(Lib.join (xs.map (·.data.toList)) sep.data.toList).toArray⟩) ∧ Below w.heap.size w w' := Any.strings_Join Tryz.lays156 Tryz.Builder_Extra_156 bk o c xs sep w hcells hbk hN hcap hlen
def Tryz.laysM173_ren : Go.Shelf.Ren := ⟨fun | 173 => 218 | 246 => 234 | 283 => 243 | 284 => 244 | 285 => 245 | 286 => 246 | 129 => 192 | 317 => 250 | 318 => 251 | 319 => 252 | 320 => 253 | 337 => 254 | 338 => 255 | n => n, fun | 2 => 2 | 3 => 3 | 9 => 9 | 4 => 4 | 171 => 245 | 0 => 0 | 53 => 173 | 37 => 127 | 5 => 5 | 173 => 247 | 212 => 260 | 51 => 170 | 20 => 20 | 213 => 261 | 46 => 146 | 232 => 263 | 233 => 264 | n => n, fun | 17 => 5 | 18 => 6 | 19 => 7 | n => n⟩
theorem Tryz.laysM173 : Go.Proofs.LaysM.n173 Tryz.prog Tryz.laysM173_ren := {
  mixed := by kernel_rfl
  f129 := Tryz.func192.trans (congrArg some (by kernel_rfl))
  f173 := Tryz.func218.trans (congrArg some (by kernel_rfl))
  f246 := Tryz.func234.trans (congrArg some (by kernel_rfl))
  f283 := Tryz.func243.trans (congrArg some (by kernel_rfl))
  f284 := Tryz.func244.trans (congrArg some (by kernel_rfl))
  f285 := Tryz.func245.trans (congrArg some (by kernel_rfl))
  f286 := Tryz.func246.trans (congrArg some (by kernel_rfl))
  f317 := Tryz.func250.trans (congrArg some (by kernel_rfl))
  f318 := Tryz.func251.trans (congrArg some (by kernel_rfl))
  f319 := Tryz.func252.trans (congrArg some (by kernel_rfl))
  f320 := Tryz.func253.trans (congrArg some (by kernel_rfl))
  f337 := Tryz.func254.trans (congrArg some (by kernel_rfl))
  f338 := Tryz.func255.trans (congrArg some (by kernel_rfl))
  t0 := Tryz.underlying0
  a0 := Tryz.isAgg0
  z0 := Tryz.sizeOf0
  v0 := Tryz.zeroValue0
  t2 := Tryz.underlying2
  a2 := Tryz.isAgg2
  z2 := Tryz.sizeOf2
  v2 := Tryz.zeroValue2
  t3 := Tryz.underlying3
  a3 := Tryz.isAgg3
  z3 := Tryz.sizeOf3
  v3 := Tryz.zeroValue3
  t4 := Tryz.underlying4
  a4 := Tryz.isAgg4
  z4 := Tryz.sizeOf4
  v4 := Tryz.zeroValue4
  t5 := Tryz.underlying5
  a5 := Tryz.isAgg5
  z5 := Tryz.sizeOf5
  v5 := Tryz.zeroValue5
  t9 := Tryz.underlying9
  a9 := Tryz.isAgg9
  z9 := Tryz.sizeOf9
  v9 := Tryz.zeroValue9
  t20 := Tryz.underlying20
  a20 := Tryz.isAgg20
  z20 := Tryz.sizeOf20
  v20 := Tryz.zeroValue20
  t37 := Tryz.underlying127
  a37 := Tryz.isAgg127
  z37 := Tryz.sizeOf127
  v37 := Tryz.zeroValue127
  t46 := Tryz.underlying146
  a46 := Tryz.isAgg146
  z46 := Tryz.sizeOf146
  v46 := Tryz.zeroValue146
  t51 := Tryz.underlying170
  a51 := Tryz.isAgg170
  z51 := Tryz.sizeOf170
  v51 := Tryz.zeroValue170
  t53 := Tryz.underlying173
  a53 := Tryz.isAgg173
  z53 := Tryz.sizeOf173
  v53 := Tryz.zeroValue173
  t171 := Tryz.underlying245
  a171 := Tryz.isAgg245
  z171 := Tryz.sizeOf245
  v171 := Tryz.zeroValue245
  t173 := Tryz.underlying247
  a173 := Tryz.isAgg247
  z173 := Tryz.sizeOf247
  v173 := Tryz.zeroValue247
  t212 := Tryz.underlying260
  a212 := Tryz.isAgg260
  z212 := Tryz.sizeOf260
  v212 := Tryz.zeroValue260
  t213 := Tryz.underlying261
  a213 := Tryz.isAgg261
  z213 := Tryz.sizeOf261
  t232 := Tryz.underlying263
  a232 := Tryz.isAgg263
  z232 := Tryz.sizeOf263
  v232 := Tryz.zeroValue263
  t233 := Tryz.underlying264
  a233 := Tryz.isAgg264
  z233 := Tryz.sizeOf264
  v233 := Tryz.zeroValue264
  g17 := by kernel_rfl
  g18 := by kernel_rfl
  g19 := by kernel_rfl
  i0 := by kernel_rfl
  i2 := by kernel_rfl
  i3 := by kernel_rfl
  i4 := by kernel_rfl
  i5 := by kernel_rfl
  i9 := by kernel_rfl
  i20 := by kernel_rfl
  i37 := by kernel_rfl
  i46 := by kernel_rfl
  i51 := by kernel_rfl
  i53 := by kernel_rfl
  i171 := by kernel_rfl
  i173 := by kernel_rfl
  i212 := by kernel_rfl
  i232 := by kernel_rfl
  i233 := by kernel_rfl
  m17 := by kernel_rfl
  m18 := by kernel_rfl
  m19 := by kernel_rfl }
open Go.RowKit Go.Sort Go.Lib in
/-- strconv.FormatInt: "FormatInt returns the string representation of i in the given base": AT BASE 10: i's decimal numeral, for every int64. (LAID: no walk: one application.) -/
theorem Tryz.strconv_FormatInt_10 (n : Int) (h0 : -9223372036854775808 ≤ n) (h1 : n ≤ 9223372036854775807) (w : World) (htab : Lib.TabIs Tryz.prog w "internal/strconv.uint64pow10" .u64 Lib.pow10Tab) :
    Calls Tryz.prog 218 #[.int .i64 n, .int .i64 10] w fun e w' => e = .returned (.string ⟨(Lib.itoa n).toArray⟩) ∧ ∃ k os, w' = grow (w.drewN k) os := Any.strconv_FormatInt_10 Tryz.laysM173 n h0 h1 w htab
def Tryz.laysC174_ren : Go.Shelf.Ren := ⟨fun | 174 => 197 | 247 => 216 | 245 => 217 | 287 => 229 | 279 => 230 | 280 => 231 | 281 => 232 | 282 => 233 | 321 => 238 | 322 => 239 | 316 => 240 | 171 => 242 | 205 => 241 | 243 => 249 | 246 => 234 | 283 => 243 | 284 => 244 | 285 => 245 | 286 => 246 | 129 => 192 | 317 => 250 | 318 => 251 | 319 => 252 | 320 => 253 | 337 => 254 | 338 => 255 | n => n, fun | 9 => 9 | 3 => 3 | 2 => 2 | 75 => 205 | 85 => 206 | 4 => 4 | 167 => 234 | 5 => 5 | 53 => 173 | 175 => 235 | 46 => 146 | 168 => 237 | 37 => 127 | 0 => 0 | 210 => 243 | 21 => 21 | 127 => 240 | 145 => 258 | 143 => 256 | 171 => 245 | 173 => 247 | 212 => 260 | 51 => 170 | 20 => 20 | 213 => 261 | 232 => 263 | 233 => 264 | 80 => 229 | n => n, fun | 15 => 1 | 16 => 2 | 17 => 5 | 18 => 6 | 19 => 7 | n => n⟩
theorem Tryz.laysC174 : Go.Proofs.LaysC.n174 Tryz.prog Tryz.laysC174_ren := {
  mixed := by kernel_rfl
  f129 := Tryz.func192.trans (congrArg some (by kernel_rfl))
  f171 := Tryz.func242.trans (congrArg some (by kernel_rfl))
  f174 := Tryz.func197.trans (congrArg some (by kernel_rfl))
  f205 := Tryz.func241.trans (congrArg some (by kernel_rfl))
  f243 := Tryz.func249.trans (congrArg some (by kernel_rfl))
  f245 := Tryz.func217.trans (congrArg some (by kernel_rfl))
  f246 := Tryz.func234.trans (congrArg some (by kernel_rfl))
  f247 := Tryz.func216.trans (congrArg some (by kernel_rfl))
  f279 := Tryz.func230.trans (congrArg some (by kernel_rfl))
  f280 := Tryz.func231.trans (congrArg some (by kernel_rfl))
  f281 := Tryz.func232.trans (congrArg some (by kernel_rfl))
  f282 := Tryz.func233.trans (congrArg some (by kernel_rfl))
  f283 := Tryz.func243.trans (congrArg some (by kernel_rfl))
  f284 := Tryz.func244.trans (congrArg some (by kernel_rfl))
  f285 := Tryz.func245.trans (congrArg some (by kernel_rfl))
  f286 := Tryz.func246.trans (congrArg some (by kernel_rfl))
  f287 := Tryz.func229.trans (congrArg some (by kernel_rfl))
  f316 := Tryz.func240.trans (congrArg some (by kernel_rfl))
  f317 := Tryz.func250.trans (congrArg some (by kernel_rfl))
  f318 := Tryz.func251.trans (congrArg some (by kernel_rfl))
  f319 := Tryz.func252.trans (congrArg some (by kernel_rfl))
  f320 := Tryz.func253.trans (congrArg some (by kernel_rfl))
  f321 := Tryz.func238.trans (congrArg some (by kernel_rfl))
  f322 := Tryz.func239.trans (congrArg some (by kernel_rfl))
  f337 := Tryz.func254.trans (congrArg some (by kernel_rfl))
  f338 := Tryz.func255.trans (congrArg some (by kernel_rfl))
  t0 := Tryz.underlying0
  a0 := Tryz.isAgg0
  z0 := Tryz.sizeOf0
  v0 := Tryz.zeroValue0
  t2 := Tryz.underlying2
  a2 := Tryz.isAgg2
  z2 := Tryz.sizeOf2
  v2 := Tryz.zeroValue2
  t3 := Tryz.underlying3
  a3 := Tryz.isAgg3
  z3 := Tryz.sizeOf3
  v3 := Tryz.zeroValue3
  t4 := Tryz.underlying4
  a4 := Tryz.isAgg4
  z4 := Tryz.sizeOf4
  v4 := Tryz.zeroValue4
  t5 := Tryz.underlying5
  a5 := Tryz.isAgg5
  z5 := Tryz.sizeOf5
  v5 := Tryz.zeroValue5
  t9 := Tryz.underlying9
  a9 := Tryz.isAgg9
  z9 := Tryz.sizeOf9
  v9 := Tryz.zeroValue9
  t20 := Tryz.underlying20
  a20 := Tryz.isAgg20
  z20 := Tryz.sizeOf20
  v20 := Tryz.zeroValue20
  t21 := Tryz.underlying21
  a21 := Tryz.isAgg21
  z21 := Tryz.sizeOf21
  v21 := Tryz.zeroValue21
  t37 := Tryz.underlying127
  a37 := Tryz.isAgg127
  z37 := Tryz.sizeOf127
  v37 := Tryz.zeroValue127
  t46 := Tryz.underlying146
  a46 := Tryz.isAgg146
  z46 := Tryz.sizeOf146
  v46 := Tryz.zeroValue146
  t51 := Tryz.underlying170
  a51 := Tryz.isAgg170
  z51 := Tryz.sizeOf170
  v51 := Tryz.zeroValue170
  t53 := Tryz.underlying173
  a53 := Tryz.isAgg173
  z53 := Tryz.sizeOf173
  v53 := Tryz.zeroValue173
  t75 := Tryz.underlying205
  a75 := Tryz.isAgg205
  z75 := Tryz.sizeOf205
  v75 := Tryz.zeroValue205
  t85 := Tryz.underlying206
  a85 := Tryz.isAgg206
  z85 := Tryz.sizeOf206
  v85 := Tryz.zeroValue206
  t127 := Tryz.underlying240
  a127 := Tryz.isAgg240
  z127 := Tryz.sizeOf240
  v127 := Tryz.zeroValue240
  t143 := Tryz.underlying256
  a143 := Tryz.isAgg256
  z143 := Tryz.sizeOf256
  v143 := Tryz.zeroValue256
  t145 := Tryz.underlying258
  a145 := Tryz.isAgg258
  z145 := Tryz.sizeOf258
  v145 := Tryz.zeroValue258
  t167 := Tryz.underlying234
  a167 := Tryz.isAgg234
  z167 := Tryz.sizeOf234
  v167 := Tryz.zeroValue234
  t168 := Tryz.underlying237
  a168 := Tryz.isAgg237
  z168 := Tryz.sizeOf237
  v168 := Tryz.zeroValue237
  t171 := Tryz.underlying245
  a171 := Tryz.isAgg245
  z171 := Tryz.sizeOf245
  v171 := Tryz.zeroValue245
  t173 := Tryz.underlying247
  a173 := Tryz.isAgg247
  z173 := Tryz.sizeOf247
  v173 := Tryz.zeroValue247
  t175 := Tryz.underlying235
  a175 := Tryz.isAgg235
  z175 := Tryz.sizeOf235
  v175 := Tryz.zeroValue235
  t210 := Tryz.underlying243
  a210 := Tryz.isAgg243
  z210 := Tryz.sizeOf243
  v210 := Tryz.zeroValue243
  t212 := Tryz.underlying260
  a212 := Tryz.isAgg260
  z212 := Tryz.sizeOf260
  v212 := Tryz.zeroValue260
  t213 := Tryz.underlying261
  a213 := Tryz.isAgg261
  z213 := Tryz.sizeOf261
  t232 := Tryz.underlying263
  a232 := Tryz.isAgg263
  z232 := Tryz.sizeOf263
  v232 := Tryz.zeroValue263
  t233 := Tryz.underlying264
  a233 := Tryz.isAgg264
  z233 := Tryz.sizeOf264
  v233 := Tryz.zeroValue264
  g15 := by kernel_rfl
  g16 := by kernel_rfl
  g17 := by kernel_rfl
  g18 := by kernel_rfl
  g19 := by kernel_rfl
  t80 := Tryz.underlying229
  a80 := Tryz.isAgg229
  z80 := Tryz.sizeOf229
  v80 := Tryz.zeroValue229
  i0 := by kernel_rfl
  i2 := by kernel_rfl
  i3 := by kernel_rfl
  i4 := by kernel_rfl
  i5 := by kernel_rfl
  i9 := by kernel_rfl
  i20 := by kernel_rfl
  i21 := by kernel_rfl
  i37 := by kernel_rfl
  i46 := by kernel_rfl
  i51 := by kernel_rfl
  i53 := by kernel_rfl
  i75 := by kernel_rfl
  i80 := by kernel_rfl
  i85 := by kernel_rfl
  i127 := by kernel_rfl
  i143 := by kernel_rfl
  i145 := by kernel_rfl
  i167 := by kernel_rfl
  i168 := by kernel_rfl
  i171 := by kernel_rfl
  i173 := by kernel_rfl
  i175 := by kernel_rfl
  i210 := by kernel_rfl
  i212 := by kernel_rfl
  i232 := by kernel_rfl
  i233 := by kernel_rfl
  m15 := by kernel_rfl
  m16 := by kernel_rfl
  m17 := by kernel_rfl
  m18 := by kernel_rfl
  m19 := by kernel_rfl
  c0 := by kernel_rfl
  c2 := by kernel_rfl
  c3 := by kernel_rfl
  c4 := by kernel_rfl
  c5 := by kernel_rfl
  c9 := by kernel_rfl
  c20 := by kernel_rfl
  c21 := by kernel_rfl
  c37 := by kernel_rfl
  c46 := by kernel_rfl
  c51 := by kernel_rfl
  c53 := by kernel_rfl
  c75 := by kernel_rfl
  c80 := by kernel_rfl
  c85 := by kernel_rfl
  c127 := by kernel_rfl
  c143 := by kernel_rfl
  c145 := by kernel_rfl
  c167 := by kernel_rfl
  c168 := by kernel_rfl
  c171 := by kernel_rfl
  c173 := by kernel_rfl
  c175 := by kernel_rfl
  c210 := by kernel_rfl
  c212 := by kernel_rfl
  c213 := by kernel_rfl
  c232 := by kernel_rfl
  c233 := by kernel_rfl }
open Go.RowKit in
/-- strconv.ParseInt(s, 10, 64), AT EVERY STRING THAT SPELLS AN int64 ('Lib.parseIntB 64 s.data.toList = .ok v'): v, AND NO ERROR. (LAID: no walk: one application.) -/
theorem Tryz.strconv_ParseInt_10_at64_ok (s : ByteArray) (hmax : s.size ≤ 9223372036854775806) (v : Int) (h : Lib.parseIntB 64 s.data.toList = .ok v) (w : World) :
    Calls Tryz.prog 197 #[.string s, .int .i64 10, .int .i64 64] w fun e w' => e = .returned (.tuple #[.int .i64 v, .nilIface]) ∧ (w' = w ∨ ∃ t, w' = Lib.bytesWorld w 5 t) := Any.strconv_ParseInt_10_at64_ok Tryz.laysC174 s hmax v h w
open Go.RowKit in
theorem Tryz.strconv_ParseInt_10_at64_syntax_var (s : ByteArray) (hlim : s.size ≤ 281474976710656) (h : Lib.parseIntB 64 s.data.toList = Lib.NumEnd.syntax) (tp : TypeId) (p : Value) (w : World) (hvar : w.var? Tryz.prog "strconv.ErrSyntax" = some #[.iface tp p]) :
    Calls Tryz.prog 197 #[.string s, .int .i64 10, .int .i64 64] w fun e w' => ∃ N, e = .returned (.tuple #[.int .i64 (0), .iface 237 (.pointer (some ⟨N, 0, none⟩))]) ∧ w.heap.size ≤ N ∧ w'.heap[N]? = some (.cells #[.string ⟨#[80, 97, 114, 115, 101, 73, 110, 116]⟩, .string s, .iface tp p] 243 (0, 0)) ∧ Below w.heap.size w w' := Any.strconv_ParseInt_10_at64_syntax_var Tryz.laysC174 s hlim h tp p w hvar
def Tryz.laysM145_ren : Go.Shelf.Ren := ⟨fun | 145 => 159 | 220 => 174 | 219 => 195 | 217 => 211 | 225 => 212 | 224 => 213 | 267 => 214 | 266 => 226 | 314 => 227 | n => n, fun | 9 => 9 | 4 => 4 | 59 => 176 | 3 => 3 | 5 => 5 | 46 => 146 | 146 => 171 | 51 => 170 | n => n, fun | 1 => 0 | n => n⟩
theorem Tryz.laysM145 : Go.Proofs.LaysM.n145 Tryz.prog Tryz.laysM145_ren := {
  mixed := by kernel_rfl
  f145 := Tryz.func159.trans (congrArg some (by kernel_rfl))
  f217 := Tryz.func211.trans (congrArg some (by kernel_rfl))
  f219 := Tryz.func195.trans (congrArg some (by kernel_rfl))
  f220 := Tryz.func174.trans (congrArg some (by kernel_rfl))
  f224 := Tryz.func213.trans (congrArg some (by kernel_rfl))
  f225 := Tryz.func212.trans (congrArg some (by kernel_rfl))
  f266 := Tryz.func226.trans (congrArg some (by kernel_rfl))
  f267 := Tryz.func214.trans (congrArg some (by kernel_rfl))
  f314 := Tryz.func227.trans (congrArg some (by kernel_rfl))
  t3 := Tryz.underlying3
  a3 := Tryz.isAgg3
  z3 := Tryz.sizeOf3
  v3 := Tryz.zeroValue3
  t4 := Tryz.underlying4
  a4 := Tryz.isAgg4
  z4 := Tryz.sizeOf4
  v4 := Tryz.zeroValue4
  t5 := Tryz.underlying5
  a5 := Tryz.isAgg5
  z5 := Tryz.sizeOf5
  v5 := Tryz.zeroValue5
  t9 := Tryz.underlying9
  a9 := Tryz.isAgg9
  z9 := Tryz.sizeOf9
  v9 := Tryz.zeroValue9
  t46 := Tryz.underlying146
  a46 := Tryz.isAgg146
  z46 := Tryz.sizeOf146
  v46 := Tryz.zeroValue146
  t51 := Tryz.underlying170
  a51 := Tryz.isAgg170
  z51 := Tryz.sizeOf170
  v51 := Tryz.zeroValue170
  t59 := Tryz.underlying176
  a59 := Tryz.isAgg176
  z59 := Tryz.sizeOf176
  v59 := Tryz.zeroValue176
  t146 := Tryz.underlying171
  a146 := Tryz.isAgg171
  z146 := Tryz.sizeOf171
  v146 := Tryz.zeroValue171
  g1 := by kernel_rfl
  i3 := by kernel_rfl
  i4 := by kernel_rfl
  i5 := by kernel_rfl
  i9 := by kernel_rfl
  i46 := by kernel_rfl
  i51 := by kernel_rfl
  i59 := by kernel_rfl
  i146 := by kernel_rfl
  m1 := by kernel_rfl
  s1_3 := fun w h => Go.Proofs.cell_of_shapedOpen_int (zero := #[.int .i64 0]) (t := 3) h (of_decide_eq_true (by kernel_rfl)) (by kernel_rfl) rfl (by kernel_rfl) (by kernel_rfl) Tryz.underlying3 }
open Go.RowKit Go.Lib in
theorem Tryz.strings_Cut_shaped (s sep : ByteArray) (w : World) (h : w.ShapedOpen Tryz.prog) (hs : s.size < 4294967281) :
    Calls Tryz.prog 159 #[.string s, .string sep] w fun e w' => e = .returned (.tuple #[.string ⟨(Lib.cut s.data.toList sep.data.toList).1.toArray⟩, .string ⟨(Lib.cut s.data.toList sep.data.toList).2.1.toArray⟩, .bool (Lib.cut s.data.toList sep.data.toList).2.2]) ∧ ∃ n, w' = w.drewN n := Any.strings_Cut_shaped Tryz.laysM145 s sep w h hs
def Tryz.lays101_ren : Go.Shelf.Ren := ⟨fun | 101 => 196 | 208 => 215 | 206 => 228 | n => n, fun | 9 => 9 | 4 => 4 | 3 => 3 | n => n, fun | n => n⟩
theorem Tryz.lays101 : Go.Proofs.Lays.n101 Tryz.prog Tryz.lays101_ren := {
  mixed := by kernel_rfl
  f101 := Tryz.func196.trans (congrArg some (by kernel_rfl))
  f206 := Tryz.func228.trans (congrArg some (by kernel_rfl))
  f208 := Tryz.func215.trans (congrArg some (by kernel_rfl))
  t3 := Tryz.underlying3
  a3 := Tryz.isAgg3
  z3 := Tryz.sizeOf3
  v3 := Tryz.zeroValue3
  t4 := Tryz.underlying4
  a4 := Tryz.isAgg4
  z4 := Tryz.sizeOf4
  v4 := Tryz.zeroValue4
  t9 := Tryz.underlying9
  a9 := Tryz.isAgg9
  z9 := Tryz.sizeOf9
  v9 := Tryz.zeroValue9 }
open Go.RowKit Go.Lib in
/-- strings.TrimPrefix: "TrimPrefix returns s without the provided leading prefix string. If s doesn't start with prefix, s is returned unchanged.": IT RETURNS 'Lib.trimPrefix s prefix'; the world is as it was. (LAID: no walk: one application.) -/
theorem Tryz.strings_TrimPrefix (s p : ByteArray) (w : World) :
    Calls Tryz.prog 196 #[.string s, .string p] w fun e w' => e = .returned (.string ⟨(Lib.trimPrefix s.data.toList p.data.toList).toArray⟩) ∧ w' = w := Any.strings_TrimPrefix Tryz.lays101 s p w
def Tryz.lays102_ren : Go.Shelf.Ren := ⟨fun | 102 => 162 | 209 => 177 | 207 => 181 | n => n, fun | 9 => 9 | 4 => 4 | 3 => 3 | n => n, fun | n => n⟩
theorem Tryz.lays102 : Go.Proofs.Lays.n102 Tryz.prog Tryz.lays102_ren := {
  mixed := by kernel_rfl
  f102 := Tryz.func162.trans (congrArg some (by kernel_rfl))
  f207 := Tryz.func181.trans (congrArg some (by kernel_rfl))
  f209 := Tryz.func177.trans (congrArg some (by kernel_rfl))
  t3 := Tryz.underlying3
  a3 := Tryz.isAgg3
  z3 := Tryz.sizeOf3
  v3 := Tryz.zeroValue3
  t4 := Tryz.underlying4
  a4 := Tryz.isAgg4
  z4 := Tryz.sizeOf4
  v4 := Tryz.zeroValue4
  t9 := Tryz.underlying9
  a9 := Tryz.isAgg9
  z9 := Tryz.sizeOf9
  v9 := Tryz.zeroValue9 }
open Go.RowKit Go.Lib in
/-- strings.TrimSuffix: "TrimSuffix returns s without the provided trailing suffix string. If s doesn't end with suffix, s is returned unchanged.": IT RETURNS 'Lib.trimSuffix s suffix'; the world is as it was. (LAID: no walk: one application.) -/
theorem Tryz.strings_TrimSuffix (s p : ByteArray) (w : World) (hs : s.size ≤ 9223372036854775807) :
    Calls Tryz.prog 162 #[.string s, .string p] w fun e w' => e = .returned (.string ⟨(Lib.trimSuffix s.data.toList p.data.toList).toArray⟩) ∧ w' = w := Any.strings_TrimSuffix Tryz.lays102 s p w hs
def Tryz.laysM146_ren : Go.Shelf.Ren := ⟨fun | 146 => 161 | 221 => 176 | 268 => 199 | 138 => 200 | 143 => 201 | 195 => 219 | 197 => 220 | 218 => 221 | 219 => 195 | 260 => 235 | 217 => 211 | 225 => 212 | 224 => 213 | 267 => 214 | 266 => 226 | 314 => 227 | n => n, fun | 9 => 9 | 31 => 23 | 3 => 3 | 4 => 4 | 0 => 0 | 105 => 221 | 21 => 21 | 5 => 5 | 46 => 146 | 119 => 249 | 139 => 252 | 138 => 251 | 146 => 171 | 51 => 170 | n => n, fun | 1 => 0 | 3 => 3 | 4 => 4 | n => n⟩
theorem Tryz.laysM146 : Go.Proofs.LaysM.n146 Tryz.prog Tryz.laysM146_ren := {
  mixed := by kernel_rfl
  f138 := Tryz.func200.trans (congrArg some (by kernel_rfl))
  f143 := Tryz.func201.trans (congrArg some (by kernel_rfl))
  f146 := Tryz.func161.trans (congrArg some (by kernel_rfl))
  f195 := Tryz.func219.trans (congrArg some (by kernel_rfl))
  f197 := Tryz.func220.trans (congrArg some (by kernel_rfl))
  f217 := Tryz.func211.trans (congrArg some (by kernel_rfl))
  f218 := Tryz.func221.trans (congrArg some (by kernel_rfl))
  f219 := Tryz.func195.trans (congrArg some (by kernel_rfl))
  f221 := Tryz.func176.trans (congrArg some (by kernel_rfl))
  f224 := Tryz.func213.trans (congrArg some (by kernel_rfl))
  f225 := Tryz.func212.trans (congrArg some (by kernel_rfl))
  f260 := Tryz.func235.trans (congrArg some (by kernel_rfl))
  f266 := Tryz.func226.trans (congrArg some (by kernel_rfl))
  f267 := Tryz.func214.trans (congrArg some (by kernel_rfl))
  f268 := Tryz.func199.trans (congrArg some (by kernel_rfl))
  f314 := Tryz.func227.trans (congrArg some (by kernel_rfl))
  t0 := Tryz.underlying0
  a0 := Tryz.isAgg0
  z0 := Tryz.sizeOf0
  v0 := Tryz.zeroValue0
  t3 := Tryz.underlying3
  a3 := Tryz.isAgg3
  z3 := Tryz.sizeOf3
  v3 := Tryz.zeroValue3
  t4 := Tryz.underlying4
  a4 := Tryz.isAgg4
  z4 := Tryz.sizeOf4
  v4 := Tryz.zeroValue4
  t5 := Tryz.underlying5
  a5 := Tryz.isAgg5
  z5 := Tryz.sizeOf5
  v5 := Tryz.zeroValue5
  t9 := Tryz.underlying9
  a9 := Tryz.isAgg9
  z9 := Tryz.sizeOf9
  v9 := Tryz.zeroValue9
  t21 := Tryz.underlying21
  a21 := Tryz.isAgg21
  z21 := Tryz.sizeOf21
  v21 := Tryz.zeroValue21
  t31 := Tryz.underlying23
  a31 := Tryz.isAgg23
  z31 := Tryz.sizeOf23
  v31 := Tryz.zeroValue23
  t46 := Tryz.underlying146
  a46 := Tryz.isAgg146
  z46 := Tryz.sizeOf146
  v46 := Tryz.zeroValue146
  t51 := Tryz.underlying170
  a51 := Tryz.isAgg170
  z51 := Tryz.sizeOf170
  v51 := Tryz.zeroValue170
  t105 := Tryz.underlying221
  a105 := Tryz.isAgg221
  z105 := Tryz.sizeOf221
  v105 := Tryz.zeroValue221
  t119 := Tryz.underlying249
  a119 := Tryz.isAgg249
  z119 := Tryz.sizeOf249
  t138 := Tryz.underlying251
  a138 := Tryz.isAgg251
  z138 := Tryz.sizeOf251
  v138 := Tryz.zeroValue251
  t139 := Tryz.underlying252
  a139 := Tryz.isAgg252
  z139 := Tryz.sizeOf252
  v139 := Tryz.zeroValue252
  t146 := Tryz.underlying171
  a146 := Tryz.isAgg171
  z146 := Tryz.sizeOf171
  v146 := Tryz.zeroValue171
  g1 := by kernel_rfl
  g3 := by kernel_rfl
  g4 := by kernel_rfl
  i0 := by kernel_rfl
  i3 := by kernel_rfl
  i4 := by kernel_rfl
  i5 := by kernel_rfl
  i9 := by kernel_rfl
  i21 := by kernel_rfl
  i31 := by kernel_rfl
  i46 := by kernel_rfl
  i51 := by kernel_rfl
  i105 := by kernel_rfl
  i138 := by kernel_rfl
  i139 := by kernel_rfl
  i146 := by kernel_rfl
  m1 := by kernel_rfl
  s1_3 := fun w h => Go.Proofs.cell_of_shapedOpen_int (zero := #[.int .i64 0]) (t := 3) h (of_decide_eq_true (by kernel_rfl)) (by kernel_rfl) rfl (by kernel_rfl) (by kernel_rfl) Tryz.underlying3
  m3 := by kernel_rfl
  m4 := by kernel_rfl }
open Go.RowKit Go.Lib in
/-- strings.Split, sep not empty. (LAID: no walk: one application.) -/
theorem Tryz.strings_Split_shaped (s sep : ByteArray) (w : World) (h : w.ShapedOpen Tryz.prog) (hs : s.size < 4294967281) (h1 : 1 ≤ sep.size) :
    Calls Tryz.prog 161 #[.string s, .string sep] w fun e w' =>
      e = .returned (.slice (some ⟨w.heap.size, 0, none⟩) (Lib.countB s sep + 1) (Lib.countB s sep + 1)) ∧ w' = w.alloc (.cells ((Lib.splitB sep 0 (Lib.countB s sep) s).map Value.string).toArray 9) := Any.strings_Split_shaped Tryz.laysM146 s sep w h hs h1
end Go.Proofs

namespace Go.Proofs.YtanlgnjgpbjebaaGreatDoor
set_option linter.unusedVariables false

def isDig (c : UInt8) : Bool := decide (48 ≤ c.toNat) && decide (c.toNat ≤ 57)
/-- What digits spell. -/
def valN (acc : Nat) (l : List UInt8) : Nat := l.foldl (fun n c => n * 10 + (c.toNat - 48)) acc
theorem valN_nil (acc : Nat) : valN acc [] = acc := rfl
theorem valN_cons (acc : Nat) (c : UInt8) (l : List UInt8) : valN acc (c :: l) = valN (acc * 10 + (c.toNat - 48)) l := by
  unfold valN
  rw [List.foldl_cons]
theorem valN_snoc (acc : Nat) (c : UInt8) (l : List UInt8) : valN acc (l ++ [c]) = valN acc l * 10 + (c.toNat - 48) := by
  unfold valN
  rw [List.foldl_append]
  rfl
theorem valN_lt : ∀ (l : List UInt8) (acc k : Nat), l.all isDig = true → acc < 10 ^ k → valN acc l < 10 ^ (k + l.length) := by
  intro l
  induction l with
  | nil => intro acc k _ h; rw [valN_nil, List.length_nil, Nat.add_zero]; exact h
  | cons c l ih =>
    intro acc k hd h
    rw [List.all_cons, Bool.and_eq_true] at hd
    have hc : 48 ≤ c.toNat ∧ c.toNat ≤ 57 := by simpa [isDig] using hd.1
    have hp : (10 : Nat) ^ (k + 1) = 10 ^ k * 10 := Nat.pow_succ ..
    have := ih (acc * 10 + (c.toNat - 48)) (k + 1) hd.2 (by rw [hp]; omega)
    rw [valN_cons, List.length_cons, show k + (l.length + 1) = (k + 1) + l.length by omega]
    exact this

theorem parseUintM_short : ∀ (l : List UInt8) (acc k : Nat), k + l.length ≤ 18 → acc < 10 ^ k →
    Lib.parseUintM (2 ^ 64 - 1) acc l = if l.all isDig then .ok (valN acc l) else Lib.NumEnd.syntax := by
  intro l
  induction l with
  | nil => exact fun acc k _ _ => rfl
  | cons c l ih =>
    intro acc k hk h
    rw [List.length_cons] at hk
    have hq : (10 : Nat) ^ (k + 1) = 10 ^ k * 10 := Nat.pow_succ ..
    have hp : acc * 10 + 9 < 10 ^ (k + 1) := by rw [hq]; omega
    have hp2 : (10 : Nat) ^ (k + 1) ≤ 10 ^ 18 := Nat.pow_le_pow_right (by decide) (by omega)
    have h18 : (10 : Nat) ^ 18 = 1000000000000000000 := by decide
    have h64 : (2 : Nat) ^ 64 - 1 = 18446744073709551615 := by decide
    rw [h18] at hp2
    rw [h64] at ih ⊢
    unfold Lib.parseUintM
    by_cases hc : 48 ≤ c.toNat ∧ c.toNat ≤ 57
    · have hd : isDig c = true := by simpa [isDig] using hc
      have hn := ih (acc * 10 + (c.toNat - 48)) (k + 1) (by omega) (by have := hc.1; have := hc.2; omega)
      rw [if_pos hc, if_neg (by omega), if_neg (by omega), hn, List.all_cons, hd, Bool.true_and, valN_cons]
    · have hd : isDig c = false := by
        rw [Bool.eq_false_iff]
        intro h1
        exact hc (by simpa [isDig] using h1)
      rw [if_neg hc, List.all_cons, hd]
      rfl

/-- Digits without a needless zero ahead. -/
def canon (l : List UInt8) : Bool := !l.isEmpty && l.all isDig && (decide (l.length = 1) || !(l.head? == some 48))

theorem ofNat_dig {c : UInt8} (h : isDig c = true) : UInt8.ofNat (48 + (c.toNat - 48)) = c := by
  have hc : 48 ≤ c.toNat ∧ c.toNat ≤ 57 := by simpa [isDig] using h
  rw [show 48 + (c.toNat - 48) = c.toNat by omega]
  simp
theorem decDigits_small {u : Nat} (h : u < 10) : Lib.decDigits u = [UInt8.ofNat (48 + u)] := by rw [Lib.decDigits, dif_pos h]
theorem decDigits_big {u : Nat} (h : ¬ u < 10) : Lib.decDigits u = Lib.decDigits (u / 10) ++ [UInt8.ofNat (48 + u % 10)] := by rw [Lib.decDigits, dif_neg h]
theorem decDigits_ne (u : Nat) : Lib.decDigits u ≠ [] := by
  by_cases h : u < 10
  · rw [decDigits_small h]; simp
  · rw [decDigits_big h]; simp
theorem toNat_dig (k : Nat) (h : k < 10) : (UInt8.ofNat (48 + k)).toNat = 48 + k := by
  simp
  omega
theorem decDigits_dig (u : Nat) : (Lib.decDigits u).all isDig = true := by
  induction u using Nat.strongRecOn with
  | _ u ih =>
    by_cases h : u < 10
    · rw [decDigits_small h]
      simp only [List.all_cons, List.all_nil, Bool.and_true, isDig, toNat_dig u h]
      simp
      omega
    · rw [decDigits_big h, List.all_append, ih (u / 10) (by omega)]
      simp only [List.all_cons, List.all_nil, Bool.and_true, isDig, toNat_dig (u % 10) (by omega)]
      simp
      omega
theorem decDigits_head {u : Nat} (h0 : 0 < u) : (Lib.decDigits u).head? ≠ some 48 := by
  induction u using Nat.strongRecOn with
  | _ u ih =>
    by_cases h : u < 10
    · rw [decDigits_small h]
      intro hc
      have := congrArg UInt8.toNat (Option.some.inj hc)
      rw [toNat_dig u h] at this
      have h48 : (48 : UInt8).toNat = 48 := rfl
      omega
    · rw [decDigits_big h, List.head?_append]
      intro hc
      have hi := ih (u / 10) (by omega) (by omega)
      cases hh : (Lib.decDigits (u / 10)).head? with
      | none => exact decDigits_ne _ (List.head?_eq_none_iff.1 hh)
      | some x =>
        rw [hh] at hc hi
        exact hi hc
theorem decDigits_canon (u : Nat) : canon (Lib.decDigits u) = true := by
  unfold canon
  rw [decDigits_dig u]
  by_cases h : 0 < u
  · have h1 := decDigits_head h
    have h2 := decDigits_ne u
    simp [h1, h2]
  · have : u = 0 := by omega
    subst this
    rw [decDigits_small (by omega)]
    simp
theorem valN_pos {l : List UInt8} : ∀ {acc : Nat}, 0 < acc → 0 < valN acc l := by
  induction l with
  | nil => intro acc h; exact h
  | cons c l ih => intro acc h; rw [valN_cons]; exact ih (by omega)

theorem decDigits_valN (l : List UInt8) (h : canon l = true) : Lib.decDigits (valN 0 l) = l := by
  have key : ∀ (n : Nat) (l : List UInt8), l.length = n → canon l = true → Lib.decDigits (valN 0 l) = l := by
    intro n
    induction n with
    | zero =>
      intro l hl hc
      have : l = [] := List.eq_nil_of_length_eq_zero hl
      subst this
      simp [canon] at hc
    | succ n ih =>
      intro l hl hc
      have hne : l ≠ [] := by intro hh; subst hh; simp at hl
      obtain ⟨l', c, rfl⟩ : ∃ l' c, l = l' ++ [c] := ⟨l.dropLast, l.getLast hne, (List.dropLast_concat_getLast hne).symm⟩
      simp only [canon, Bool.and_eq_true, List.all_append] at hc
      obtain ⟨⟨_, hd1, hd2⟩, hz⟩ := hc
      have hdc : isDig c = true := by simpa using hd2
      have hcb : 48 ≤ c.toNat ∧ c.toNat ≤ 57 := by simpa [isDig] using hdc
      rw [valN_snoc]
      by_cases hl' : l' = []
      · subst hl'
        rw [valN_nil, decDigits_small (by omega), show 48 + (0 * 10 + (c.toNat - 48)) = 48 + (c.toNat - 48) by omega, ofNat_dig hdc]
        rfl
      · have hlen : l'.length = n := by simpa using hl
        obtain ⟨x, r, rfl⟩ := List.exists_cons_of_ne_nil hl'
        have hx : x ≠ 48 := by
          intro hx
          subst hx
          simp at hz
        have hc' : canon (x :: r) = true := by
          unfold canon
          rw [hd1]
          simp [hx]
        have hi := ih (x :: r) hlen hc'
        have hdx : isDig x = true := by rw [List.all_cons, Bool.and_eq_true] at hd1; exact hd1.1
        have hxb : 48 ≤ x.toNat ∧ x.toNat ≤ 57 := by simpa [isDig] using hdx
        have hx0 : x.toNat ≠ 48 := fun h => hx (UInt8.toNat_inj.1 h)
        have hpos : 0 < valN 0 (x :: r) := by rw [valN_cons]; exact valN_pos (by omega)
        rw [decDigits_big (by omega), show (valN 0 (x :: r) * 10 + (c.toNat - 48)) / 10 = valN 0 (x :: r) by omega, hi, show (valN 0 (x :: r) * 10 + (c.toNat - 48)) % 10 = c.toNat - 48 by omega, ofNat_dig hdc]
  exact key l.length l rfl h
theorem decDigits_iff (l : List UInt8) (h : l.all isDig = true) : (Lib.decDigits (valN 0 l) = l) ↔ canon l = true :=
  ⟨fun e => e ▸ decDigits_canon _, decDigits_valN l⟩

/-- The reference's reading. -/
def numNeg (r : List UInt8) : Option Int := if canon r && decide (r.length ≤ 18) && !(r.head? == some 48) then some (-(valN 0 r : Int)) else none
def numPos (l : List UInt8) : Option Int := if canon l && decide (l.length ≤ 18) then some (valN 0 l : Int) else none
def numS (l : List UInt8) : Option Int := if l.head? = some 45 then numNeg l.tail else numPos l
/-- The program's reading. -/
def numP (l : List UInt8) : Option Int :=
  if 18 < (Lib.trimPrefix l [45]).length then none
  else match Lib.parseIntB 64 l with
    | .ok n => if Lib.itoa n = l then some n else none
    | _ => none

theorem parseUintB_short (l : List UInt8) (h : l.length ≤ 18) : Lib.parseUintB 64 l = if l ≠ [] ∧ l.all isDig = true then .ok (valN 0 l) else Lib.NumEnd.syntax := by
  unfold Lib.parseUintB
  by_cases hl : l = []
  · subst hl; rfl
  · rw [if_neg hl, parseUintM_short l 0 0 (by omega) (by decide)]
    by_cases hd : l.all isDig = true
    · rw [if_pos hd, if_pos ⟨hl, hd⟩]
    · rw [if_neg hd, if_neg (fun h => hd h.2)]

theorem valN_18 {l : List UInt8} (h : l.length ≤ 18) (hd : l.all isDig = true) : valN 0 l < 10 ^ 18 :=
  Nat.lt_of_lt_of_le (valN_lt l 0 0 hd (by decide)) (Nat.pow_le_pow_right (by decide) (by omega))

theorem numP_eq (l : List UInt8) : numP l = numS l := by
  unfold numP numS
  cases l with
  | nil => rfl
  | cons c r =>
    have hpre : Lib.trimPrefix (c :: r) [45] = if c = 45 then r else c :: r := by
      unfold Lib.trimPrefix Lib.hasPrefix
      by_cases hc : c = 45
      · subst hc; simp
      · rw [if_neg hc, if_neg]
        simp
        exact fun h => hc h.symm
    rw [hpre]
    by_cases hc : c = 45
    · subst hc
      rw [if_pos rfl, if_pos (show (45 :: r).head? = some 45 from rfl), show (45 :: r).tail = r from rfl]
      unfold numNeg
      by_cases hl : 18 < r.length
      · rw [if_pos hl, if_neg (by simp; intro _ h; omega)]
      · rw [if_neg hl]
        unfold Lib.parseIntB
        simp only [show ((45 : UInt8).toNat = 43 ∨ (45 : UInt8).toNat = 45) from Or.inr rfl, if_true, parseUintB_short r (by omega)]
        by_cases hd : r ≠ [] ∧ r.all isDig = true
        · simp only [if_pos hd, show (45 : UInt8).toNat = 45 from rfl, not_true, false_and, if_false, true_and, if_true]
          have hv := valN_18 (show r.length ≤ 18 by omega) hd.2
          rw [if_neg (by omega)]
          simp only
          by_cases h0 : valN 0 r = 0
          · rw [h0, if_neg (by rw [show Lib.itoa (-((0 : Nat) : Int)) = [48] from by unfold Lib.itoa; simp [decDigits_small]]; simp)]
            rw [if_neg]
            intro hh
            simp only [Bool.and_eq_true, decide_eq_true_eq] at hh
            have := decDigits_valN r hh.1.1
            rw [h0, decDigits_small (by omega)] at this
            rw [← this] at hh
            simp at hh
          · have hneg : -((valN 0 r : Nat) : Int) < 0 := by omega
            have e1 : Lib.itoa (-((valN 0 r : Nat) : Int)) = 45 :: Lib.decDigits (valN 0 r) := by
              unfold Lib.itoa
              rw [if_pos hneg]
              simp
            rw [e1]
            have e2 : (45 :: Lib.decDigits (valN 0 r) = 45 :: r) ↔ canon r = true := by
              rw [List.cons.injEq]
              simp only [true_and]
              exact decDigits_iff r hd.2
            by_cases hcan : canon r = true
            · rw [if_pos (e2.2 hcan), if_pos]
              rw [hcan]
              simp only [Bool.true_and, Bool.and_eq_true, decide_eq_true_eq]
              refine ⟨by omega, ?_⟩
              have h4 := decDigits_head (show 0 < valN 0 r by omega)
              rw [decDigits_valN r hcan] at h4
              simpa using h4
            · rw [if_neg (fun h => hcan (e2.1 h)), if_neg (fun h => hcan (by simp only [Bool.and_eq_true] at h; exact h.1.1))]
        · simp only [if_neg hd]
          rw [if_neg]
          intro h
          simp only [Bool.and_eq_true, canon] at h
          refine hd ⟨?_, h.1.1.1.2⟩
          rintro rfl
          simp at h
    · have hh : ¬ (c :: r).head? = some 45 := by simpa using hc
      have hcn : ¬ c.toNat = 45 := fun h => hc (UInt8.toNat_inj.1 h)
      rw [if_neg hc, if_neg hh]
      unfold numPos
      by_cases hl : 18 < (c :: r).length
      · rw [if_pos hl, if_neg (by simp only [Bool.and_eq_true, decide_eq_true_eq]; omega)]
      · rw [if_neg hl]
        unfold Lib.parseIntB
        by_cases hp : c.toNat = 43
        · -- a plus sign: never its own numeral
          have hnd : canon (c :: r) = false := by
            rw [Bool.eq_false_iff]
            intro h
            simp only [canon, Bool.and_eq_true, List.all_cons] at h
            have : 48 ≤ c.toNat ∧ c.toNat ≤ 57 := by simpa [isDig] using h.1.2.1
            omega
          rw [hnd]
          simp only [Bool.false_and, Bool.false_eq_true, if_false]
          simp only [hp, true_or, if_true]
          have hl2 : r.length ≤ 18 := by simp at hl; omega
          rw [parseUintB_short r hl2]
          by_cases hd : r ≠ [] ∧ r.all isDig = true
          · simp only [if_pos hd]
            have hv := valN_18 hl2 hd.2
            rw [if_neg (by omega), if_neg (by omega)]
            simp only [show ¬ (43 : Nat) = 45 by omega, if_false]
            rw [if_neg]
            intro h
            have h2 := decDigits_dig (valN 0 r)
            have e1 : Lib.itoa ((valN 0 r : Nat) : Int) = Lib.decDigits (valN 0 r) := by
              unfold Lib.itoa
              rw [if_neg (by omega)]
              simp
            rw [← e1, h, List.all_cons, Bool.and_eq_true] at h2
            have : 48 ≤ c.toNat ∧ c.toNat ≤ 57 := by simpa [isDig] using h2.1
            omega
          · simp only [if_neg hd]
        · have hs : ¬ (c.toNat = 43 ∨ c.toNat = 45) := by omega
          simp only [if_neg hs, parseUintB_short (c :: r) (by omega)]
          by_cases hd : (c :: r) ≠ [] ∧ (c :: r).all isDig = true
          · simp only [if_pos hd]
            have hv := valN_18 (show (c :: r).length ≤ 18 by omega) hd.2
            rw [if_neg (by omega), if_neg (by omega)]
            simp only [if_neg hcn]
            have e1 : Lib.itoa ((valN 0 (c :: r) : Nat) : Int) = Lib.decDigits (valN 0 (c :: r)) := by
              unfold Lib.itoa
              rw [if_neg (by omega)]
              simp
            rw [e1]
            by_cases hcan : canon (c :: r) = true
            · rw [if_pos ((decDigits_iff _ hd.2).2 hcan), if_pos (by rw [hcan]; simp at hl ⊢; omega)]
            · rw [if_neg (fun h => hcan ((decDigits_iff _ hd.2).1 h)), if_neg (fun h => hcan (by simp only [Bool.and_eq_true] at h; exact h.1))]
          · simp only [if_neg hd]
            rw [if_neg]
            intro h
            simp only [Bool.and_eq_true, canon] at h
            exact hd ⟨by simp, h.1.1.2⟩

end Go.Proofs.YtanlgnjgpbjebaaGreatDoor

namespace Go.Proofs.YtanlgnjgpbjebaaGreatDoor
set_option linter.unusedVariables false

/-! ## Cutting at a byte -/
def splitC (c : UInt8) : List UInt8 → List (List UInt8)
  | [] => [[]]
  | x :: l => if x = c then [] :: splitC c l else (x :: (splitC c l).headD []) :: (splitC c l).tail
theorem splitC_ne (c : UInt8) (l : List UInt8) : splitC c l ≠ [] := by
  cases l with
  | nil => simp [splitC]
  | cons x l => unfold splitC; split <;> simp
theorem splitC_ceq (c : UInt8) (l : List UInt8) : splitC c (c :: l) = [] :: splitC c l := by rw [splitC, if_pos rfl]
theorem splitC_cne {c x : UInt8} (h : x ≠ c) (l : List UInt8) : splitC c (x :: l) = (x :: (splitC c l).headD []) :: (splitC c l).tail := by rw [splitC, if_neg h]
theorem splitC_miss {c : UInt8} : ∀ {l : List UInt8}, c ∉ l → splitC c l = [l]
  | [], _ => rfl
  | x :: l, h => by
    rw [List.mem_cons, not_or] at h
    rw [splitC_cne (fun e => h.1 e.symm), splitC_miss h.2]
    rfl
theorem splitC_hit {c : UInt8} : ∀ {a b : List UInt8}, c ∉ a → splitC c (a ++ c :: b) = a :: splitC c b
  | [], b, _ => by rw [List.nil_append, splitC_ceq]
  | x :: a, b, h => by
    rw [List.mem_cons, not_or] at h
    rw [List.cons_append, splitC_cne (fun e => h.1 e.symm), splitC_hit h.2]
    rfl
theorem index_one (c : UInt8) (l : List UInt8) (h : c ∉ l) : Lib.index l [c] = -1 := by
  induction l with
  | nil => rfl
  | cons x l ih =>
    rw [List.mem_cons, not_or] at h
    unfold Lib.index
    rw [if_neg (by simp [List.isPrefixOf]; exact h.1), ih h.2]
    rfl
theorem index_one_hit (c : UInt8) (a b : List UInt8) (h : c ∉ a) : Lib.index (a ++ c :: b) [c] = a.length := by
  induction a with
  | nil => unfold Lib.index; simp [List.isPrefixOf]
  | cons x a ih =>
    rw [List.mem_cons, not_or] at h
    rw [List.cons_append]
    unfold Lib.index
    rw [if_neg (by simp [List.isPrefixOf]; exact h.1), ih h.2, if_neg (by simp <;> omega)]
    simp
theorem split_at (c : UInt8) (l : List UInt8) (h : c ∈ l) : ∃ a b, l = a ++ c :: b ∧ c ∉ a := by
  induction l with
  | nil => cases h
  | cons x l ih =>
    by_cases hx : x = c
    · subst hx
      exact ⟨[], l, rfl, by simp⟩
    · obtain ⟨a, b, rfl, h2⟩ := ih (by
        rcases List.mem_cons.1 h with h | h
        · exact absurd h.symm hx
        · exact h)
      exact ⟨x :: a, b, rfl, by simp; exact ⟨fun e => hx e.symm, h2⟩⟩
theorem count_at (c : UInt8) {a b : List UInt8} (h : c ∉ a) : (a ++ c :: b).count c = b.count c + 1 := by
  rw [List.count_append, List.count_cons_self, List.count_eq_zero_of_not_mem h]
  omega
theorem countFrom_one (c : UInt8) : ∀ (fuel : Nat) (l : List UInt8), l.length < fuel → Lib.countFrom [c] fuel l = l.count c
  | 0, _, h => by omega
  | fuel + 1, l, h => by
    unfold Lib.countFrom
    by_cases hm : c ∈ l
    · obtain ⟨a, b, rfl, ha⟩ := split_at c l hm
      rw [index_one_hit c a b ha, if_neg (by simp <;> omega), count_at c ha]
      have e1 : ((a.length : Int)).toNat + [c].length = (a ++ [c]).length := by simp
      have e2 : (a ++ c :: b).drop (((a.length : Int)).toNat + [c].length) = b := by
        rw [e1, show a ++ c :: b = (a ++ [c]) ++ b by simp, List.drop_left]
      rw [e2, countFrom_one c fuel b (by simp at h; omega)]
      omega
    · rw [index_one c l hm, if_pos (by decide), List.count_eq_zero_of_not_mem hm]
theorem splitK_one (c : UInt8) : ∀ (k : Nat) (l : List UInt8), l.count c ≤ k → Lib.splitK [c] 0 k l = splitC c l
  | 0, l, h => by
    rw [splitC_miss (List.count_eq_zero.1 (by omega))]
    rfl
  | k + 1, l, h => by
    unfold Lib.splitK
    by_cases hm : c ∈ l
    · obtain ⟨a, b, rfl, ha⟩ := split_at c l hm
      rw [index_one_hit c a b ha, if_neg (by simp <;> omega), splitC_hit ha]
      rw [count_at c ha] at h
      have e1 : ((a.length : Int)).toNat + [c].length = (a ++ [c]).length := by simp
      have e2 : (a ++ c :: b).drop (((a.length : Int)).toNat + [c].length) = b := by
        rw [e1, show a ++ c :: b = (a ++ [c]) ++ b by simp, List.drop_left]
      rw [e2, splitK_one c k b (by omega)]
      congr 1
      simp
    · rw [index_one c l hm, if_pos (by decide), splitC_miss hm]
theorem split_one (c : UInt8) (l : List UInt8) : Lib.split l [c] = splitC c l := by
  unfold Lib.split Lib.count
  rw [countFrom_one c _ l (by omega)]
  exact splitK_one c _ l (Nat.le_refl _)
theorem join_cons2 (x y : List UInt8) (r : List (List UInt8)) (sep : List UInt8) : Lib.join (x :: y :: r) sep = x ++ sep ++ Lib.join (y :: r) sep := by
  rw [Lib.join_cons, Lib.join_cons]
  simp [Lib.joinTail]
theorem join_splitC (c : UInt8) : ∀ (l : List UInt8), Lib.join (splitC c l) [c] = l
  | [] => rfl
  | x :: l => by
    have ih := join_splitC c l
    unfold splitC
    obtain ⟨p, ps, hp⟩ := List.exists_cons_of_ne_nil (splitC_ne c l)
    rw [hp] at ih ⊢
    by_cases hx : x = c
    · subst hx
      rw [if_pos rfl, join_cons2, ih]
      simp
    · rw [if_neg hx]
      simp only [List.headD_cons, List.tail_cons]
      rw [Lib.join_cons] at ih ⊢
      rw [List.cons_append, ih]

/-! ## Numbers of a list of texts -/
def numsOf (f : List UInt8 → Option Int) : List (List UInt8) → Option (List Int)
  | [] => some []
  | x :: l => match f x, numsOf f l with
    | some n, some ns => some (n :: ns)
    | _, _ => none
def isVal (n : Int) : Bool := decide (0 ≤ n) && decide (n ≤ 63)
def numV (l : List UInt8) : Option Int := (numS l).filter isVal
theorem numsOf_len {f : List UInt8 → Option Int} : ∀ {l : List (List UInt8)} {ns : List Int}, numsOf f l = some ns → ns.length = l.length
  | [], ns, h => by cases h; rfl
  | x :: l, ns, h => by
    unfold numsOf at h
    split at h
    · rename_i n ms hn hm
      cases h
      simp [numsOf_len hm]
    · cases h
theorem numsOf_val : ∀ (l : List (List UInt8)), numsOf numV l = (numsOf numS l).filter (fun ns => ns.all isVal)
  | [] => rfl
  | x :: l => by
    unfold numsOf
    rw [numsOf_val l]
    unfold numV
    cases hx : numS x with
    | none => simp
    | some n =>
      cases hl : numsOf numS l with
      | none => cases hv : isVal n <;> simp [Option.filter, hv]
      | some ns => cases hv : isVal n <;> cases hw : ns.all isVal <;> simp [Option.filter, hv, hw]
theorem numS_itoa {l : List UInt8} {n : Int} (h : numS l = some n) : Lib.itoa n = l := by
  rw [← numP_eq] at h
  unfold numP at h
  split at h
  · cases h
  · split at h
    · split at h
      · rename_i hh
        cases h
        exact hh
      · cases h
    · cases h
theorem numsOf_itoa : ∀ {l : List (List UInt8)} {ns : List Int}, numsOf numS l = some ns → ns.map Lib.itoa = l
  | [], ns, h => by cases h; rfl
  | x :: l, ns, h => by
    unfold numsOf at h
    split at h
    · rename_i n ms hn hm
      cases h
      rw [List.map_cons, numS_itoa hn, numsOf_itoa hm]
    · cases h

/-! ## Labels -/
section
variable (nameL : List UInt8 → Bool)
def tauL : List UInt8 := [116, 97, 117]
def labName (l : List UInt8) : List UInt8 := (Lib.cut l [40]).1
/-- The reference's values of a label. -/
def valsS (l : List UInt8) : Option (List Int) :=
  if 40 ∉ l then (if nameL l then some [] else none)
  else if (nameL (labName l) && !(labName l == tauL)) && (l.getLast? == some 41) then
    (numsOf numV (splitC 44 (Lib.cut l [40]).2.1.dropLast)).filter (fun ns => decide (ns.length ≤ 2))
  else none
/-- The program's label with a name and values. -/
def labOf (name : List UInt8) (ns : List Int) : Option (List UInt8) :=
  if name = tauL then (if ns = [] then some tauL else none)
  else if !(nameL name) || decide (2 < ns.length) || !(ns.all isVal) then none
  else if ns = [] then some name
  else some (name ++ [40] ++ Lib.join (ns.map Lib.itoa) [44] ++ [41])
/-- The program's values of a label. -/
def valsP (l : List UInt8) : Option (List Int) :=
  match (if (Lib.cut l [40]).2.2 then numsOf numP (splitC 44 (Lib.trimSuffix (Lib.cut l [40]).2.1 [41])) else some []) with
  | none => none
  | some ns => if labOf nameL (Lib.cut l [40]).1 ns = some l then some ns else none
end
theorem cut_miss {l : List UInt8} (h : (40 : UInt8) ∉ l) : Lib.cut l [40] = (l, [], false) := by
  unfold Lib.cut
  rw [index_one 40 l h, if_neg (by decide)]
theorem cut_hit {a b : List UInt8} (h : (40 : UInt8) ∉ a) : Lib.cut (a ++ 40 :: b) [40] = (a, b, true) := by
  unfold Lib.cut
  rw [index_one_hit 40 a b h, if_pos (by omega)]
  congr 1
  · simp
  · congr 1
    have e1 : ((a.length : Int)).toNat + [(40 : UInt8)].length = (a ++ [40]).length := by simp
    rw [e1, show a ++ 40 :: b = (a ++ [40]) ++ b by simp, List.drop_left]
theorem numP_fun : numP = numS := funext numP_eq
theorem trimSuffix_hit (r : List UInt8) (c : UInt8) : Lib.trimSuffix (r ++ [c]) [c] = r := by
  unfold Lib.trimSuffix Lib.hasSuffix
  rw [if_pos (by simp)]
  simp
theorem trimSuffix_miss {r : List UInt8} {c : UInt8} (h : r.getLast? ≠ some c) : Lib.trimSuffix r [c] = r := by
  unfold Lib.trimSuffix Lib.hasSuffix
  rw [if_neg]
  intro hs
  have hs2 : [c] <:+ r := List.isSuffixOf_iff_suffix.1 hs
  obtain ⟨t, rfl⟩ := hs2
  simp at h

theorem valsP_eq (nameL : List UInt8 → Bool) (ht : nameL tauL = true) (l : List UInt8) : valsP nameL l = valsS nameL l := by
  by_cases hm : (40 : UInt8) ∈ l
  · obtain ⟨name, rest, rfl, hn⟩ := split_at 40 l hm
    have hlast : (name ++ 40 :: rest).getLast? = (40 :: rest).getLast? := by
      rw [List.getLast?_append]
      cases h : (40 :: rest).getLast? with
      | none => exact absurd (List.getLast?_eq_none_iff.1 h) (by simp)
      | some x => rfl
    have hP : valsP nameL (name ++ 40 :: rest) = (match numsOf numS (splitC 44 (Lib.trimSuffix rest [41])) with
        | none => none
        | some ns => if labOf nameL name ns = some (name ++ 40 :: rest) then some ns else none) := by
      unfold valsP
      rw [cut_hit hn]
      simp only [if_true, numP_fun]
    have hS : valsS nameL (name ++ 40 :: rest) = (if (nameL name && !(name == tauL)) && ((40 :: rest).getLast? == some 41) then
        (numsOf numV (splitC 44 rest.dropLast)).filter (fun ns => decide (ns.length ≤ 2)) else none) := by
      unfold valsS labName
      rw [if_neg (fun h => h hm), cut_hit hn, hlast]
    rw [hP, hS]
    by_cases hr : rest.getLast? = some 41
    · obtain ⟨r, rfl⟩ : ∃ r, rest = r ++ [41] := by
        have hne : rest ≠ [] := by rintro rfl; cases hr
        refine ⟨rest.dropLast, ?_⟩
        have h1 := List.dropLast_concat_getLast hne
        rw [List.getLast?_eq_some_getLast hne] at hr
        have h2 := Option.some.inj hr
        rw [h2] at h1
        exact h1.symm
      have hd : (r ++ [(41 : UInt8)]).dropLast = r := by simp
      rw [trimSuffix_hit, hd]
      have hl41 : ((40 :: (r ++ [41])).getLast? == some 41) = true := by
        rw [← List.cons_append, List.getLast?_append]
        rfl
      rw [hl41, Bool.and_true, numsOf_val]
      cases hx : numsOf numS (splitC 44 r) with
      | none => simp [Option.filter]
      | some ns =>
        have hlen := numsOf_len hx
        have hne : ns ≠ [] := by
          rintro rfl
          exact splitC_ne 44 r (List.eq_nil_of_length_eq_zero hlen.symm)
        have hj : Lib.join (ns.map Lib.itoa) [44] = r := by rw [numsOf_itoa hx, join_splitC]
        simp only
        unfold labOf
        by_cases htau : name = tauL
        · rw [if_pos htau, if_neg hne, if_neg (by simp), if_neg (by simp [htau])]
        · rw [if_neg htau, if_neg hne, hj]
          have htb : (name == tauL) = false := by rw [beq_eq_false_iff_ne]; exact htau
          rw [htb]
          by_cases h2 : ns.length ≤ 2
          · have h3 : ¬ 2 < ns.length := by omega
            cases hnm : nameL name <;> cases ha : ns.all isVal <;> simp [Option.filter, ha, h2, h3]
          · have h3 : 2 < ns.length := by omega
            cases hnm : nameL name <;> cases ha : ns.all isVal <;> simp [Option.filter, ha, h2, h3]
    · have hno : ¬ (((nameL name && !(name == tauL)) && ((40 :: rest).getLast? == some 41)) = true) := by
        intro hc
        rw [Bool.and_eq_true] at hc
        have hc2 := hc.2
        cases rest with
        | nil => simp at hc2
        | cons x r =>
          rw [List.getLast?_cons_cons] at hc2
          exact hr (by simpa using hc2)
      rw [trimSuffix_miss hr, if_neg hno]
      cases hx : numsOf numS (splitC 44 rest) with
      | none => rfl
      | some ns =>
        have hlen := numsOf_len hx
        have hne : ns ≠ [] := by
          rintro rfl
          exact splitC_ne 44 rest (List.eq_nil_of_length_eq_zero hlen.symm)
        have hj : Lib.join (ns.map Lib.itoa) [44] = rest := by rw [numsOf_itoa hx, join_splitC]
        simp only
        rw [if_neg]
        intro hc
        unfold labOf at hc
        rw [hj] at hc
        simp only [if_neg hne] at hc
        split at hc
        · cases hc
        · split at hc
          · cases hc
          · have h1 := Option.some.inj hc
            have h2 := congrArg List.length h1
            simp at h2
  · have hP : valsP nameL l = (if labOf nameL l [] = some l then some [] else none) := by
      unfold valsP
      rw [cut_miss hm]
      simp only [Bool.false_eq_true, if_false]
    have hS : valsS nameL l = (if nameL l then some [] else none) := by
      unfold valsS
      rw [if_pos hm]
    rw [hP, hS]
    unfold labOf
    by_cases htau : l = tauL
    · subst htau
      simp [ht]
    · rw [if_neg htau]
      cases hnm : nameL l <;> simp

end Go.Proofs.YtanlgnjgpbjebaaGreatDoor

namespace Go.Proofs.YtanlgnjgpbjebaaGreatDoor
set_option linter.unusedVariables false

/-! ## All of the first n numbers -/
def allK (p : Nat → Bool) (n : Nat) : Bool := (List.range n).all p
theorem allK_bad {p : Nat → Bool} {n k : Nat} (hk : k < n) (h : p k = false) : allK p n = false := by
  unfold allK
  rw [← Bool.not_eq_true, List.all_eq_true]
  intro hc
  have := hc k (List.mem_range.2 hk)
  rw [h] at this
  cases this
theorem allK_good {p : Nat → Bool} {n : Nat} (h : ∀ j, j < n → p j = true) : allK p n = true :=
  List.all_eq_true.2 fun k hk => h k (List.mem_range.1 hk)
theorem allK_get {p : Nat → Bool} {n : Nat} (h : allK p n = true) {k : Nat} (hk : k < n) : p k = true :=
  (List.all_eq_true.1 h) k (List.mem_range.2 hk)
theorem lt_succ_cases {p : Nat → Prop} {k : Nat} (h : ∀ j, j < k → p j) (hk : p k) : ∀ j, j < k + 1 → p j := fun j hj => by
  rcases Nat.lt_or_ge j k with h1 | h1
  · exact h j h1
  · have : j = k := by omega
    subst this
    exact hk

/-! ## Data -/
/-- States, initial state, labels, edges. -/
abbrev DL := Int × Int × List ByteArray × List Ed

def tauB : ByteArray := ⟨#[116, 97, 117]⟩
/-- Order of edges. -/
def edLess (a b : Ed) : Bool := if a.1 ≠ b.1 then decide (a.1 < b.1) else if a.2.1 ≠ b.2.1 then decide (a.2.1 < b.2.1) else decide (a.2.2 < b.2.2)

section
variable (labB : ByteArray → Bool) (sLess : ByteArray → ByteArray → Bool)
/-- Label k is in order. -/
def okLab (ls : List ByteArray) (k : Nat) : Bool := match ls[k]? with
  | some s => labB s && (decide (s = tauB) == decide (k = 0)) && (decide (k ≤ 1) || match ls[k - 1]? with | some r => sLess r s | none => true)
  | none => true
def okEd (st m : Int) (es : List Ed) (k : Nat) : Bool := match es[k]? with
  | some e => inB e.1 0 (st - 1) && inB e.2.2 0 (st - 1) && inB e.2.1 0 (m - 1) && (decide (k = 0) || match es[k - 1]? with | some r => edLess r e | none => true)
  | none => true
def ltsB (d : DL) : Bool :=
  (inB d.1 1 40 && inB d.2.1 0 (d.1 - 1) && inB (d.2.2.1.length : Int) 1 12 && decide (d.2.2.2.length ≤ 300)) &&
  (allK (okLab labB sLess d.2.2.1) d.2.2.1.length && allK (okEd d.1 d.2.2.1.length d.2.2.2) d.2.2.2.length)
end
end Go.Proofs.YtanlgnjgpbjebaaGreatDoor

namespace Go.Proofs.YtanlgnjgpbjebaaGreatDoor
open Go.ChangeShapes Go.WideShapes Go.ChangeAt Go.RowKit Go.Deep
set_option linter.unusedVariables false

def ArgS (w : World) (lo hi : Nat) (v : Value) (d : List ByteArray) : Prop := ∃ A n c, v = .slice A n c ∧ n ≤ maxLen ∧ (∀ s ∈ d, s.size ≤ maxLen) ∧ SlS w lo hi A n d
def ArgE (w : World) (lo hi : Nat) (v : Value) (d : List Ed) : Prop := ∃ A n c, v = .slice A n c ∧ n ≤ maxLen ∧ SlE w lo hi A n d
section
variable {w w' : World} {lo hi lo' hi' B : Nat} {v : Value}
theorem ArgS.shape {d : List ByteArray} (h : ArgS w lo hi v d) : ∃ A n c, v = .slice A n c := by obtain ⟨A, n, c, h1, _⟩ := h; exact ⟨A, n, c, h1⟩
theorem ArgS.below {d : List ByteArray} (h : ArgS w lo hi v d) (hb : Below B w w') (hB : hi ≤ B ∨ w.heap.size ≤ B) : ArgS w' lo hi v d := by
  obtain ⟨A, n, c, h1, h2, h4, h3⟩ := h
  exact ⟨A, n, c, h1, h2, h4, h3.below hb hB⟩
theorem ArgS.more {d : List ByteArray} (h : ArgS w lo hi v d) (h1 : lo' ≤ lo) (h2 : hi ≤ hi') : ArgS w lo' hi' v d := by
  obtain ⟨A, n, c, q1, q2, q4, q3⟩ := h
  exact ⟨A, n, c, q1, q2, q4, q3.more h1 h2⟩
theorem ArgS.only {d : List ByteArray} (h : ArgS w lo hi v d) (g : Only lo' hi' w w') (hd : hi ≤ lo' ∨ hi' ≤ lo) : ArgS w' lo hi v d := by
  obtain ⟨A, n, c, h1, h2, h4, h3⟩ := h
  exact ⟨A, n, c, h1, h2, h4, h3.only g hd⟩
theorem ArgE.shape {d : List Ed} (h : ArgE w lo hi v d) : ∃ A n c, v = .slice A n c := by obtain ⟨A, n, c, h1, _⟩ := h; exact ⟨A, n, c, h1⟩
theorem ArgE.below {d : List Ed} (h : ArgE w lo hi v d) (hb : Below B w w') (hB : hi ≤ B ∨ w.heap.size ≤ B) : ArgE w' lo hi v d := by
  obtain ⟨A, n, c, h1, h2, h3⟩ := h
  exact ⟨A, n, c, h1, h2, h3.below hb hB⟩
theorem ArgE.more {d : List Ed} (h : ArgE w lo hi v d) (h1 : lo' ≤ lo) (h2 : hi ≤ hi') : ArgE w lo' hi' v d := by
  obtain ⟨A, n, c, q1, q2, q3⟩ := h
  exact ⟨A, n, c, q1, q2, q3.more h1 h2⟩
theorem ArgE.only {d : List Ed} (h : ArgE w lo hi v d) (g : Only lo' hi' w w') (hd : hi ≤ lo' ∨ hi' ≤ lo) : ArgE w' lo hi v d := by
  obtain ⟨A, n, c, h1, h2, h3⟩ := h
  exact ⟨A, n, c, h1, h2, h3.only g hd⟩
end
theorem toStringS_a {v : Value} {d : List ByteArray} {w : World} {lo hi : Nat} (h : ArgS w lo hi v d) (ht : d.length ≤ 1048576) :
    Calls Tryz.prog 48 #[v] w fun e w' => ∃ v', e = .returned v' ∧ ArgS w' w.heap.size w'.heap.size v' d ∧ Below w.heap.size w w' := by
  obtain ⟨A, n, c, rfl, h2, h4, h3⟩ := h
  have hl := h3.len
  refine (toStringS_calls A n c d w lo hi h3 (by omega)).mono ?_
  rintro e w' ⟨A', rfl, hb, hs⟩
  exact ⟨_, rfl, ⟨A', n, n, rfl, h2, h4, hs⟩, hb⟩
theorem eqStringS_a {v u : Value} {d e : List ByteArray} {w : World} {lo hi lo' hi' : Nat} (h : ArgS w lo hi v d) (g : ArgS w lo' hi' u e) (hs : d.length ≤ 1048576) (gs : e.length ≤ 1048576) :
    Calls Tryz.prog 53 #[v, u] w fun r w' => r = .returned (.bool (decide (d = e))) ∧ Below w.heap.size w w' := by
  obtain ⟨A, n, c, rfl, h1, h4, h2⟩ := h
  obtain ⟨B, m, b, rfl, g1, g4, g2⟩ := g
  exact eqStringS_calls A B n m c b d e w lo hi lo' hi' h2 g2 h1 g1
theorem toEdgeS_a {v : Value} {d : List Ed} {w : World} {lo hi : Nat} (h : ArgE w lo hi v d) (ht : d.length ≤ 1048576) :
    Calls Tryz.prog 49 #[v] w fun e w' => ∃ v', e = .returned v' ∧ ArgE w' w.heap.size w'.heap.size v' d ∧ Below w.heap.size w w' := by
  obtain ⟨A, n, c, rfl, h2, h3⟩ := h
  have hl := h3.len
  refine (toEdgeS_calls A n c d w lo hi h3 (by omega)).mono ?_
  rintro e w' ⟨A', rfl, hb, hs⟩
  exact ⟨_, rfl, ⟨A', n, n, rfl, h2, hs⟩, hb⟩
theorem eqEdgeS_a {v u : Value} {d e : List Ed} {w : World} {lo hi lo' hi' : Nat} (h : ArgE w lo hi v d) (g : ArgE w lo' hi' u e) (hs : d.length ≤ 1048576) (gs : e.length ≤ 1048576) :
    Calls Tryz.prog 54 #[v, u] w fun r w' => r = .returned (.bool (decide (d = e))) ∧ Below w.heap.size w w' := by
  obtain ⟨A, n, c, rfl, h1, h2⟩ := h
  obtain ⟨B, m, b, rfl, g1, g2⟩ := g
  exact eqEdgeS_calls A B n m c b d e w lo hi lo' hi' h2 g2 h1 g1

/-- A system's cells, and what they read as. -/
abbrev CL := Int × Int × Value × Value
def ReadL (w : World) (lo hi : Nat) (x : CL) (d : DL) : Prop := x.1 = d.1 ∧ x.2.1 = d.2.1 ∧ ArgS w lo hi x.2.2.1 d.2.2.1 ∧ ArgE w lo hi x.2.2.2 d.2.2.2
def totL (d : DL) : Nat := totS d.2.2.1 + d.2.2.2.length
theorem totL_lab (d : DL) : d.2.2.1.length ≤ totL d := by unfold totL totS; omega
theorem totL_edg (d : DL) : d.2.2.2.length ≤ totL d := by unfold totL; omega
section
variable {w w' : World} {lo hi lo' hi' B : Nat} {x : CL} {d : DL}
theorem ReadL.below (h : ReadL w lo hi x d) (hb : Below B w w') (hB : hi ≤ B ∨ w.heap.size ≤ B) : ReadL w' lo hi x d := ⟨h.1, h.2.1, h.2.2.1.below hb hB, h.2.2.2.below hb hB⟩
theorem ReadL.more (h : ReadL w lo hi x d) (h1 : lo' ≤ lo) (h2 : hi ≤ hi') : ReadL w lo' hi' x d := ⟨h.1, h.2.1, h.2.2.1.more h1 h2, h.2.2.2.more h1 h2⟩
theorem ReadL.only (h : ReadL w lo hi x d) (g : Only lo' hi' w w') (hd : hi ≤ lo' ∨ hi' ≤ lo) : ReadL w' lo hi x d := ⟨h.1, h.2.1, h.2.2.1.only g hd, h.2.2.2.only g hd⟩
end
instance decEdL : DecidableEq (List Ed) := inferInstance
instance decBaL : DecidableEq (List ByteArray) := inferInstance
instance decDL : DecidableEq DL := inferInstance

set_option maxHeartbeats 800000 in
theorem szLts_b {x : CL} {d : DL} {left : Int} {w : World} {lo hi : Nat} (h : ReadL w lo hi x d) (h0 : 0 ≤ left) (h1 : left ≤ 1048576) :
    Calls Tryz.prog 13 #[.agg #[.int .i64 x.1, .int .i64 x.2.1, x.2.2.1, x.2.2.2], .int .i64 left] w fun e w' => e = .returned (.int .i64 (szLeft left (totL d))) ∧ Below w.heap.size w w' := by
  obtain ⟨s0, s1, v2, v3⟩ := x
  obtain ⟨d0, d1, d2, d3⟩ := d
  obtain ⟨e0, e1, ⟨A2, n2, c2, e2, hn2, hs2, t2⟩, ⟨A3, n3, c3, e3, hn3, t3⟩⟩ := h
  dsimp only at *
  subst e0 e1 e2 e3
  have hb0 : Below w.heap.size w (w.alloc (.cells #[.int .i64 s0, .int .i64 s1, .slice A2 n2 c2, .slice A3 n3 c3] 26)) := (Below.refl _ _).alloc (Nat.le_refl _) _
  have k0 := heap_alloc_new w (.cells #[.int .i64 s0, .int .i64 s1, .slice A2 n2 c2, .slice A3 n3 c3] 26)
  have hz : w.heap.size < (w.alloc (.cells #[.int .i64 s0, .int .i64 s1, .slice A2 n2 c2, .slice A3 n3 c3] 26)).heap.size := by rw [World.size_alloc]; omega
  have l3 := t3.len
  have q2 := szStringS_calls A2 n2 c2 d2 left _ lo hi (t2.below hb0 (.inr (Nat.le_refl _))) hn2 hs2 h0 h1
  have q3 := fun L (hL0 : 0 ≤ L) (hL1 : L ≤ 1048576) W => szEdgeS_calls A3 n3 c3 L W hn3 hL0 hL1
  unfold maxLen at hn2 hn3
  clear t2 t3 hs2
  by_cases b2 : left < (totS d2 : Int)
  · rw [szLeft_big b2] at q2
    replace q2 := hide q2
    have hv : Hid (szLeft left (totL (s0, s1, d2, d3)) = -1) := by show _ = _; exact szLeft_big (by simp only [totL]; omega)
    clear q3 b2 l3
    go_enter Tryz.func13, Tryz.ntmps13
    go_wp2_with fail
    refine q2.out.mono ?_
    rintro e w1 ⟨rfl, hb1⟩
    go_wp2_with fail
    go_ret
    exact ⟨ret_i hv.out, hb0.trans (hb1.mono hb0.size)⟩
  · rw [szLeft_fits b2] at q2
    replace q2 := hide q2
    have q3 := fun W => q3 (left - (totS d2 : Int)) (by omega) (by omega) W
    have hr0 : ¬ left - (totS d2 : Int) < 0 := by omega
    by_cases b3 : left - (totS d2 : Int) < n3
    · have hv : Hid (szLeft left (totL (s0, s1, d2, d3)) = -1) := by show _ = _; exact szLeft_big (by simp only [totL]; omega)
      simp only [szLeft_big b3] at q3
      replace q3 := hide q3
      clear b3 b2 l3
      go_enter Tryz.func13, Tryz.ntmps13
      go_wp2_with fail
      refine q2.out.mono ?_
      rintro e w1 ⟨rfl, hb1⟩
      replace k0 := (hb1.block _ hz).trans k0
      have a3 : w1.cell? ⟨w.heap.size, 3, none⟩ = some (.slice A3 n3 c3) := (cell_of_row _ _ 3 _ _ (0, 0) k0).trans rfl
      go_wp2_with fail
      refine (q3.out _).mono ?_
      rintro e w2 ⟨rfl, rfl⟩
      go_wp2_with fail
      go_ret
      exact ⟨ret_i hv.out, hb0.trans (hb1.mono hb0.size)⟩
    · have hv : Hid (szLeft left (totL (s0, s1, d2, d3)) = left - (totS d2 : Int) - (n3 : Int)) := by show _ = _; rw [szLeft_fits (by simp only [totL]; omega)]; simp only [totL]; omega
      simp only [szLeft_fits b3] at q3
      replace q3 := hide q3
      have hr1 : ¬ left - (totS d2 : Int) - (n3 : Int) < 0 := by omega
      clear b3 b2 l3
      go_enter Tryz.func13, Tryz.ntmps13
      go_wp2_with fail
      refine q2.out.mono ?_
      rintro e w1 ⟨rfl, hb1⟩
      replace k0 := (hb1.block _ hz).trans k0
      have a3 : w1.cell? ⟨w.heap.size, 3, none⟩ = some (.slice A3 n3 c3) := (cell_of_row _ _ 3 _ _ (0, 0) k0).trans rfl
      go_wp2_with fail
      refine (q3.out _).mono ?_
      rintro e w2 ⟨rfl, rfl⟩
      go_wp2_with fail
      go_ret
      exact ⟨ret_i hv.out, hb0.trans (hb1.mono hb0.size)⟩

set_option maxHeartbeats 1600000 in
set_option maxRecDepth 100000 in
theorem toLts_a {x : CL} {d : DL} {w : World} {lo hi : Nat} (h : ReadL w lo hi x d) (ht : totL d ≤ 1048576) :
    Calls Tryz.prog 16 #[.agg #[.int .i64 x.1, .int .i64 x.2.1, x.2.2.1, x.2.2.2]] w fun e w' => ∃ y : CL, e = .returned (.agg #[.int .i64 y.1, .int .i64 y.2.1, y.2.2.1, y.2.2.2]) ∧ ReadL w' w.heap.size w'.heap.size y d ∧ Below w.heap.size w w' := by
  obtain ⟨v0, v1, v2, v3⟩ := x
  obtain ⟨d0, d1, d2, d3⟩ := d
  obtain ⟨rfl, rfl, t2, t3⟩ := h
  dsimp only at *
  simp only [totL, totS] at ht
  have q2 := hide (fun W (hW : Below w.heap.size w W) => toStringS_a (t2.below hW (.inr (Nat.le_refl _))) (by omega))
  have q3 := hide (fun W (hW : Below w.heap.size w W) => toEdgeS_a (t3.below hW (.inr (Nat.le_refl _))) (by omega))
  clear t2 t3
  have k0 : (((w.alloc (.cells #[.int .i64 v0, .int .i64 v1, v2, v3] 26)).alloc (.cells #[.int .i64 0, .int .i64 0, .slice none 0 0, .slice none 0 0] 35)).alloc (.cells #[.int .i64 v0, .int .i64 v1, .slice none 0 0, .slice none 0 0] 35)).heap[w.heap.size]? = some (.cells #[.int .i64 v0, .int .i64 v1, v2, v3] 26 (0, 0)) := (Below.heap_alloc _ _ _ (by simp only [World.size_alloc]; omega)).trans ((Below.heap_alloc _ _ _ (by simp only [World.size_alloc]; omega)).trans (heap_alloc_new w _))
  have k1 : (((w.alloc (.cells #[.int .i64 v0, .int .i64 v1, v2, v3] 26)).alloc (.cells #[.int .i64 0, .int .i64 0, .slice none 0 0, .slice none 0 0] 35)).alloc (.cells #[.int .i64 v0, .int .i64 v1, .slice none 0 0, .slice none 0 0] 35)).heap[w.heap.size + 1]? = some (.cells #[.int .i64 0, .int .i64 0, .slice none 0 0, .slice none 0 0] 35 (0, 0)) := by have h := heap_alloc_new (w.alloc (.cells #[.int .i64 v0, .int .i64 v1, v2, v3] 26)) (.cells #[.int .i64 0, .int .i64 0, .slice none 0 0, .slice none 0 0] 35); rw [World.size_alloc] at h; exact (Below.heap_alloc _ _ _ (by simp only [World.size_alloc]; omega)).trans h
  have k2 : (((w.alloc (.cells #[.int .i64 v0, .int .i64 v1, v2, v3] 26)).alloc (.cells #[.int .i64 0, .int .i64 0, .slice none 0 0, .slice none 0 0] 35)).alloc (.cells #[.int .i64 v0, .int .i64 v1, .slice none 0 0, .slice none 0 0] 35)).heap[w.heap.size + 1 + 1]? = some (.cells #[.int .i64 v0, .int .i64 v1, .slice none 0 0, .slice none 0 0] 35 (0, 0)) := by have h := heap_alloc_new ((w.alloc (.cells #[.int .i64 v0, .int .i64 v1, v2, v3] 26)).alloc (.cells #[.int .i64 0, .int .i64 0, .slice none 0 0, .slice none 0 0] 35)) (.cells #[.int .i64 v0, .int .i64 v1, .slice none 0 0, .slice none 0 0] 35); rw [World.size_alloc, World.size_alloc] at h; exact h
  have hb : Below w.heap.size w (((w.alloc (.cells #[.int .i64 v0, .int .i64 v1, v2, v3] 26)).alloc (.cells #[.int .i64 0, .int .i64 0, .slice none 0 0, .slice none 0 0] 35)).alloc (.cells #[.int .i64 v0, .int .i64 v1, .slice none 0 0, .slice none 0 0] 35)) := (((Below.refl _ _).alloc (Nat.le_refl _) _).alloc (by simp only [World.size_alloc]; omega) _).alloc (by simp only [World.size_alloc]; omega) _
  have hz : w.heap.size + 1 + 1 < (((w.alloc (.cells #[.int .i64 v0, .int .i64 v1, v2, v3] 26)).alloc (.cells #[.int .i64 0, .int .i64 0, .slice none 0 0, .slice none 0 0] 35)).alloc (.cells #[.int .i64 v0, .int .i64 v1, .slice none 0 0, .slice none 0 0] 35)).heap.size := by simp only [World.size_alloc]; omega
  go_enter Tryz.func16, Tryz.ntmps16
  go_wp2_with fail
  generalize (((w.alloc (.cells #[.int .i64 v0, .int .i64 v1, v2, v3] 26)).alloc (.cells #[.int .i64 0, .int .i64 0, .slice none 0 0, .slice none 0 0] 35)).alloc (.cells #[.int .i64 v0, .int .i64 v1, .slice none 0 0, .slice none 0 0] 35)) = W at *
  refine (q2.out _ hb).mono ?_
  rintro e w1 ⟨u2, rfl, g2, hb1⟩
  replace k0 := (hb1.block _ (by omega)).trans k0
  replace k1 := (hb1.block _ (by omega)).trans k1
  replace k2 := (hb1.block _ (by omega)).trans k2
  have hz1 := hb1.size
  try simp only [World.size_setCell] at hz1
  replace g2 := g2.more (lo' := w.heap.size + 1 + 1 + 1) (hi' := w1.heap.size) hz (Nat.le_refl _)
  obtain ⟨A2, n2, c2, rfl⟩ := g2.shape
  replace hb := hb.trans (hb1.mono hb.size)
  replace hz := Nat.lt_of_lt_of_le hz hb1.size
  clear hz1 hb1
  have a0 : w1.cell? ⟨w.heap.size, 0, none⟩ = some (.int .i64 v0) := (cell_of_row _ _ 0 _ _ (0, 0) k0).trans rfl
  have b0 : w1.cell? ⟨w.heap.size + 1 + 1, 0, none⟩ = some (.int .i64 v0) := (cell_of_row _ _ 0 _ _ (0, 0) k2).trans rfl
  have f0 := frozen_of_row _ _ 0 _ _ k2
  have r0 : w1.cell? ⟨w.heap.size + 1, 0, none⟩ = some (.int .i64 0) := (cell_of_row _ _ 0 _ _ (0, 0) k1).trans rfl
  have s0 := frozen_of_row _ _ 0 _ _ k1
  have a1 : w1.cell? ⟨w.heap.size, 1, none⟩ = some (.int .i64 v1) := (cell_of_row _ _ 1 _ _ (0, 0) k0).trans rfl
  have b1 : w1.cell? ⟨w.heap.size + 1 + 1, 1, none⟩ = some (.int .i64 v1) := (cell_of_row _ _ 1 _ _ (0, 0) k2).trans rfl
  have f1 := frozen_of_row _ _ 1 _ _ k2
  have r1 : w1.cell? ⟨w.heap.size + 1, 1, none⟩ = some (.int .i64 0) := (cell_of_row _ _ 1 _ _ (0, 0) k1).trans rfl
  have s1 := frozen_of_row _ _ 1 _ _ k1
  have a2 : w1.cell? ⟨w.heap.size, 2, none⟩ = some (v2) := (cell_of_row _ _ 2 _ _ (0, 0) k0).trans rfl
  have b2 : w1.cell? ⟨w.heap.size + 1 + 1, 2, none⟩ = some (.slice none 0 0) := (cell_of_row _ _ 2 _ _ (0, 0) k2).trans rfl
  have f2 := frozen_of_row _ _ 2 _ _ k2
  have r2 : w1.cell? ⟨w.heap.size + 1, 2, none⟩ = some (.slice none 0 0) := (cell_of_row _ _ 2 _ _ (0, 0) k1).trans rfl
  have s2 := frozen_of_row _ _ 2 _ _ k1
  have a3 : w1.cell? ⟨w.heap.size, 3, none⟩ = some (v3) := (cell_of_row _ _ 3 _ _ (0, 0) k0).trans rfl
  have b3 : w1.cell? ⟨w.heap.size + 1 + 1, 3, none⟩ = some (.slice none 0 0) := (cell_of_row _ _ 3 _ _ (0, 0) k2).trans rfl
  have f3 := frozen_of_row _ _ 3 _ _ k2
  have r3 : w1.cell? ⟨w.heap.size + 1, 3, none⟩ = some (.slice none 0 0) := (cell_of_row _ _ 3 _ _ (0, 0) k1).trans rfl
  have s3 := frozen_of_row _ _ 3 _ _ k1
  go_wp2_with fail
  replace k0 : (w1.setCell ⟨w.heap.size + 1 + 1, 2, none⟩ (.slice A2 n2 c2)).heap[w.heap.size]? = _ := (Below.heap_setCell _ _ _ _ (by show w.heap.size ≠ w.heap.size + 1 + 1; omega)).trans k0
  replace k1 : (w1.setCell ⟨w.heap.size + 1 + 1, 2, none⟩ (.slice A2 n2 c2)).heap[w.heap.size + 1]? = _ := (Below.heap_setCell _ _ _ _ (by show w.heap.size + 1 ≠ w.heap.size + 1 + 1; omega)).trans k1
  replace k2 : (w1.setCell ⟨w.heap.size + 1 + 1, 2, none⟩ (.slice A2 n2 c2)).heap[w.heap.size + 1 + 1]? = some (.cells #[.int .i64 v0, .int .i64 v1, .slice A2 n2 c2, .slice none 0 0] 35 (0, 0)) := heap_setCell_same _ _ _ _ _ _ k2
  replace hb : Below w.heap.size w (w1.setCell ⟨w.heap.size + 1 + 1, 2, none⟩ (.slice A2 n2 c2)) := hb.setCell (by show w.heap.size ≤ w.heap.size + 1 + 1; omega) _
  replace hz : w.heap.size + 1 + 1 < (w1.setCell ⟨w.heap.size + 1 + 1, 2, none⟩ (.slice A2 n2 c2)).heap.size := by rw [World.size_setCell]; exact hz
  replace g2 := g2.only ((Only.refl (w.heap.size + 1 + 1) (w.heap.size + 1 + 1 + 1) w1).setCell (p := ⟨w.heap.size + 1 + 1, 2, none⟩) (Nat.le_refl _) (Nat.lt_succ_self _) (.slice A2 n2 c2)) (.inr (by omega))
  refine (q3.out _ hb).mono ?_
  rintro e w2 ⟨u3, rfl, g3, hb1⟩
  clear a0 b0 f0 r0 s0 a1 b1 f1 r1 s1 a2 b2 f2 r2 s2 a3 b3 f3 r3 s3
  replace k0 := (hb1.block _ (by omega)).trans k0
  replace k1 := (hb1.block _ (by omega)).trans k1
  replace k2 := (hb1.block _ (by omega)).trans k2
  have hz1 := hb1.size
  try simp only [World.size_setCell] at hz1
  replace g2 := (g2.below hb1 (.inr (Nat.le_refl _))).more (lo' := w.heap.size + 1 + 1 + 1) (hi' := w2.heap.size) (Nat.le_refl _) hz1
  replace g3 := g3.more (lo' := w.heap.size + 1 + 1 + 1) (hi' := w2.heap.size) hz (Nat.le_refl _)
  obtain ⟨A3, n3, c3, rfl⟩ := g3.shape
  replace hb := hb.trans (hb1.mono hb.size)
  replace hz := Nat.lt_of_lt_of_le hz hb1.size
  clear hz1 hb1
  have a0 : w2.cell? ⟨w.heap.size, 0, none⟩ = some (.int .i64 v0) := (cell_of_row _ _ 0 _ _ (0, 0) k0).trans rfl
  have b0 : w2.cell? ⟨w.heap.size + 1 + 1, 0, none⟩ = some (.int .i64 v0) := (cell_of_row _ _ 0 _ _ (0, 0) k2).trans rfl
  have f0 := frozen_of_row _ _ 0 _ _ k2
  have r0 : w2.cell? ⟨w.heap.size + 1, 0, none⟩ = some (.int .i64 0) := (cell_of_row _ _ 0 _ _ (0, 0) k1).trans rfl
  have s0 := frozen_of_row _ _ 0 _ _ k1
  have a1 : w2.cell? ⟨w.heap.size, 1, none⟩ = some (.int .i64 v1) := (cell_of_row _ _ 1 _ _ (0, 0) k0).trans rfl
  have b1 : w2.cell? ⟨w.heap.size + 1 + 1, 1, none⟩ = some (.int .i64 v1) := (cell_of_row _ _ 1 _ _ (0, 0) k2).trans rfl
  have f1 := frozen_of_row _ _ 1 _ _ k2
  have r1 : w2.cell? ⟨w.heap.size + 1, 1, none⟩ = some (.int .i64 0) := (cell_of_row _ _ 1 _ _ (0, 0) k1).trans rfl
  have s1 := frozen_of_row _ _ 1 _ _ k1
  have a2 : w2.cell? ⟨w.heap.size, 2, none⟩ = some (v2) := (cell_of_row _ _ 2 _ _ (0, 0) k0).trans rfl
  have b2 : w2.cell? ⟨w.heap.size + 1 + 1, 2, none⟩ = some (.slice A2 n2 c2) := (cell_of_row _ _ 2 _ _ (0, 0) k2).trans rfl
  have f2 := frozen_of_row _ _ 2 _ _ k2
  have r2 : w2.cell? ⟨w.heap.size + 1, 2, none⟩ = some (.slice none 0 0) := (cell_of_row _ _ 2 _ _ (0, 0) k1).trans rfl
  have s2 := frozen_of_row _ _ 2 _ _ k1
  have a3 : w2.cell? ⟨w.heap.size, 3, none⟩ = some (v3) := (cell_of_row _ _ 3 _ _ (0, 0) k0).trans rfl
  have b3 : w2.cell? ⟨w.heap.size + 1 + 1, 3, none⟩ = some (.slice none 0 0) := (cell_of_row _ _ 3 _ _ (0, 0) k2).trans rfl
  have f3 := frozen_of_row _ _ 3 _ _ k2
  have r3 : w2.cell? ⟨w.heap.size + 1, 3, none⟩ = some (.slice none 0 0) := (cell_of_row _ _ 3 _ _ (0, 0) k1).trans rfl
  have s3 := frozen_of_row _ _ 3 _ _ k1
  go_wp2_with fail
  replace k0 : (w2.setCell ⟨w.heap.size + 1 + 1, 3, none⟩ (.slice A3 n3 c3)).heap[w.heap.size]? = _ := (Below.heap_setCell _ _ _ _ (by show w.heap.size ≠ w.heap.size + 1 + 1; omega)).trans k0
  replace k1 : (w2.setCell ⟨w.heap.size + 1 + 1, 3, none⟩ (.slice A3 n3 c3)).heap[w.heap.size + 1]? = _ := (Below.heap_setCell _ _ _ _ (by show w.heap.size + 1 ≠ w.heap.size + 1 + 1; omega)).trans k1
  replace k2 : (w2.setCell ⟨w.heap.size + 1 + 1, 3, none⟩ (.slice A3 n3 c3)).heap[w.heap.size + 1 + 1]? = some (.cells #[.int .i64 v0, .int .i64 v1, .slice A2 n2 c2, .slice A3 n3 c3] 35 (0, 0)) := heap_setCell_same _ _ _ _ _ _ k2
  replace hb : Below w.heap.size w (w2.setCell ⟨w.heap.size + 1 + 1, 3, none⟩ (.slice A3 n3 c3)) := hb.setCell (by show w.heap.size ≤ w.heap.size + 1 + 1; omega) _
  replace hz : w.heap.size + 1 + 1 < (w2.setCell ⟨w.heap.size + 1 + 1, 3, none⟩ (.slice A3 n3 c3)).heap.size := by rw [World.size_setCell]; exact hz
  replace g2 := g2.only ((Only.refl (w.heap.size + 1 + 1) (w.heap.size + 1 + 1 + 1) w2).setCell (p := ⟨w.heap.size + 1 + 1, 3, none⟩) (Nat.le_refl _) (Nat.lt_succ_self _) (.slice A3 n3 c3)) (.inr (by omega))
  replace g3 := g3.only ((Only.refl (w.heap.size + 1 + 1) (w.heap.size + 1 + 1 + 1) w2).setCell (p := ⟨w.heap.size + 1 + 1, 3, none⟩) (Nat.le_refl _) (Nat.lt_succ_self _) (.slice A3 n3 c3)) (.inr (by omega))
  have hbF : Below w.heap.size w (((((w2.setCell ⟨w.heap.size + 1 + 1, 3, none⟩ (.slice A3 n3 c3)).setCell ⟨w.heap.size + 1, 0, none⟩ (.int .i64 v0)).setCell ⟨w.heap.size + 1, 1, none⟩ (.int .i64 v1)).setCell ⟨w.heap.size + 1, 2, none⟩ (.slice A2 n2 c2)).setCell ⟨w.heap.size + 1, 3, none⟩ (.slice A3 n3 c3)) := ((((hb.setCell (by show w.heap.size ≤ w.heap.size + 1; omega) _).setCell (by show w.heap.size ≤ w.heap.size + 1; omega) _).setCell (by show w.heap.size ≤ w.heap.size + 1; omega) _).setCell (by show w.heap.size ≤ w.heap.size + 1; omega) _)
  have hoF : Only (w.heap.size + 1) (w.heap.size + 1 + 1) (w2.setCell ⟨w.heap.size + 1 + 1, 3, none⟩ (.slice A3 n3 c3)) (((((w2.setCell ⟨w.heap.size + 1 + 1, 3, none⟩ (.slice A3 n3 c3)).setCell ⟨w.heap.size + 1, 0, none⟩ (.int .i64 v0)).setCell ⟨w.heap.size + 1, 1, none⟩ (.int .i64 v1)).setCell ⟨w.heap.size + 1, 2, none⟩ (.slice A2 n2 c2)).setCell ⟨w.heap.size + 1, 3, none⟩ (.slice A3 n3 c3)) := (((((Only.refl (w.heap.size + 1) (w.heap.size + 1 + 1) (w2.setCell ⟨w.heap.size + 1 + 1, 3, none⟩ (.slice A3 n3 c3))).setCell (p := ⟨w.heap.size + 1, 0, none⟩) (Nat.le_refl _) (Nat.lt_succ_self _) (.int .i64 v0)).setCell (p := ⟨w.heap.size + 1, 1, none⟩) (Nat.le_refl _) (Nat.lt_succ_self _) (.int .i64 v1)).setCell (p := ⟨w.heap.size + 1, 2, none⟩) (Nat.le_refl _) (Nat.lt_succ_self _) (.slice A2 n2 c2)).setCell (p := ⟨w.heap.size + 1, 3, none⟩) (Nat.le_refl _) (Nat.lt_succ_self _) (.slice A3 n3 c3))
  replace g2 := (g2.only hoF (.inr (by omega))).more (lo' := w.heap.size) (hi' := (((((w2.setCell ⟨w.heap.size + 1 + 1, 3, none⟩ (.slice A3 n3 c3)).setCell ⟨w.heap.size + 1, 0, none⟩ (.int .i64 v0)).setCell ⟨w.heap.size + 1, 1, none⟩ (.int .i64 v1)).setCell ⟨w.heap.size + 1, 2, none⟩ (.slice A2 n2 c2)).setCell ⟨w.heap.size + 1, 3, none⟩ (.slice A3 n3 c3)).heap.size) (by omega) (by simp only [World.size_setCell]; exact Nat.le_refl _)
  replace g3 := (g3.only hoF (.inr (by omega))).more (lo' := w.heap.size) (hi' := (((((w2.setCell ⟨w.heap.size + 1 + 1, 3, none⟩ (.slice A3 n3 c3)).setCell ⟨w.heap.size + 1, 0, none⟩ (.int .i64 v0)).setCell ⟨w.heap.size + 1, 1, none⟩ (.int .i64 v1)).setCell ⟨w.heap.size + 1, 2, none⟩ (.slice A2 n2 c2)).setCell ⟨w.heap.size + 1, 3, none⟩ (.slice A3 n3 c3)).heap.size) (by omega) (by simp only [World.size_setCell]; exact Nat.le_refl _)
  have kF : (((((w2.setCell ⟨w.heap.size + 1 + 1, 3, none⟩ (.slice A3 n3 c3)).setCell ⟨w.heap.size + 1, 0, none⟩ (.int .i64 v0)).setCell ⟨w.heap.size + 1, 1, none⟩ (.int .i64 v1)).setCell ⟨w.heap.size + 1, 2, none⟩ (.slice A2 n2 c2)).setCell ⟨w.heap.size + 1, 3, none⟩ (.slice A3 n3 c3)).heap[w.heap.size + 1]? = some (.cells #[.int .i64 v0, .int .i64 v1, .slice A2 n2 c2, .slice A3 n3 c3] 35 (0, 0)) := (heap_setCell_same _ _ _ _ _ _ (heap_setCell_same _ _ _ _ _ _ (heap_setCell_same _ _ _ _ _ _ (heap_setCell_same _ _ _ _ _ _ k1))))
  clear a0 b0 f0 r0 s0 a1 b1 f1 r1 s1 a2 b2 f2 r2 s2 a3 b3 f3 r3 s3
  have rF0 : (((((w2.setCell ⟨w.heap.size + 1 + 1, 3, none⟩ (.slice A3 n3 c3)).setCell ⟨w.heap.size + 1, 0, none⟩ (.int .i64 v0)).setCell ⟨w.heap.size + 1, 1, none⟩ (.int .i64 v1)).setCell ⟨w.heap.size + 1, 2, none⟩ (.slice A2 n2 c2)).setCell ⟨w.heap.size + 1, 3, none⟩ (.slice A3 n3 c3)).cell? ⟨w.heap.size + 1, 0, none⟩ = some (.int .i64 v0) := (cell_of_row _ _ 0 _ _ (0, 0) kF).trans rfl
  have rF1 : (((((w2.setCell ⟨w.heap.size + 1 + 1, 3, none⟩ (.slice A3 n3 c3)).setCell ⟨w.heap.size + 1, 0, none⟩ (.int .i64 v0)).setCell ⟨w.heap.size + 1, 1, none⟩ (.int .i64 v1)).setCell ⟨w.heap.size + 1, 2, none⟩ (.slice A2 n2 c2)).setCell ⟨w.heap.size + 1, 3, none⟩ (.slice A3 n3 c3)).cell? ⟨w.heap.size + 1, 1, none⟩ = some (.int .i64 v1) := (cell_of_row _ _ 1 _ _ (0, 0) kF).trans rfl
  have rF2 : (((((w2.setCell ⟨w.heap.size + 1 + 1, 3, none⟩ (.slice A3 n3 c3)).setCell ⟨w.heap.size + 1, 0, none⟩ (.int .i64 v0)).setCell ⟨w.heap.size + 1, 1, none⟩ (.int .i64 v1)).setCell ⟨w.heap.size + 1, 2, none⟩ (.slice A2 n2 c2)).setCell ⟨w.heap.size + 1, 3, none⟩ (.slice A3 n3 c3)).cell? ⟨w.heap.size + 1, 2, none⟩ = some (.slice A2 n2 c2) := (cell_of_row _ _ 2 _ _ (0, 0) kF).trans rfl
  have rF3 : (((((w2.setCell ⟨w.heap.size + 1 + 1, 3, none⟩ (.slice A3 n3 c3)).setCell ⟨w.heap.size + 1, 0, none⟩ (.int .i64 v0)).setCell ⟨w.heap.size + 1, 1, none⟩ (.int .i64 v1)).setCell ⟨w.heap.size + 1, 2, none⟩ (.slice A2 n2 c2)).setCell ⟨w.heap.size + 1, 3, none⟩ (.slice A3 n3 c3)).cell? ⟨w.heap.size + 1, 3, none⟩ = some (.slice A3 n3 c3) := (cell_of_row _ _ 3 _ _ (0, 0) kF).trans rfl
  clear hoF hb hz k0 k1 k2 kF q2 q3
  generalize (((((w2.setCell ⟨w.heap.size + 1 + 1, 3, none⟩ (.slice A3 n3 c3)).setCell ⟨w.heap.size + 1, 0, none⟩ (.int .i64 v0)).setCell ⟨w.heap.size + 1, 1, none⟩ (.int .i64 v1)).setCell ⟨w.heap.size + 1, 2, none⟩ (.slice A2 n2 c2)).setCell ⟨w.heap.size + 1, 3, none⟩ (.slice A3 n3 c3)) = WF at *
  refine bodyPost_ret (by simp [results, Tryz.results16, go_sem, rF0, rF1, rF2, rF3]; try rfl) rfl ?_
  exact ⟨(v0, v1, .slice A2 n2 c2, .slice A3 n3 c3), rfl, ⟨rfl, rfl, g2, g3⟩, hbF⟩

set_option maxHeartbeats 1600000 in
set_option maxRecDepth 100000 in
theorem eqLts_a {x y : CL} {d e : DL} {w : World} {lo hi lo' hi' : Nat} (h : ReadL w lo hi x d) (g : ReadL w lo' hi' y e) (hs : totL d ≤ 1048576) (gs : totL e ≤ 1048576) :
    Calls Tryz.prog 19 #[.agg #[.int .i64 x.1, .int .i64 x.2.1, x.2.2.1, x.2.2.2], .agg #[.int .i64 y.1, .int .i64 y.2.1, y.2.2.1, y.2.2.2]] w fun r w' => r = .returned (.bool (decide (d = e))) ∧ Below w.heap.size w w' := by
  obtain ⟨x0, x1, x2, x3⟩ := x
  obtain ⟨y0, y1, y2, y3⟩ := y
  obtain ⟨d0, d1, d2, d3⟩ := d
  obtain ⟨e0, e1, e2, e3⟩ := e
  obtain ⟨h0, h1, h2, h3⟩ := h
  obtain ⟨g0, g1, g2, g3⟩ := g
  dsimp only at *
  subst h0 g0
  subst h1 g1
  simp only [totL, totS] at hs gs
  have k0 : ((w.alloc (.cells #[.int .i64 x0, .int .i64 x1, x2, x3] 35)).alloc (.cells #[.int .i64 y0, .int .i64 y1, y2, y3] 35)).heap[w.heap.size]? = some (.cells #[.int .i64 x0, .int .i64 x1, x2, x3] 35 (0, 0)) := (Below.heap_alloc _ _ _ (by simp only [World.size_alloc]; omega)).trans (heap_alloc_new w _)
  have k1 : ((w.alloc (.cells #[.int .i64 x0, .int .i64 x1, x2, x3] 35)).alloc (.cells #[.int .i64 y0, .int .i64 y1, y2, y3] 35)).heap[w.heap.size + 1]? = some (.cells #[.int .i64 y0, .int .i64 y1, y2, y3] 35 (0, 0)) := by have h := heap_alloc_new (w.alloc (.cells #[.int .i64 x0, .int .i64 x1, x2, x3] 35)) (.cells #[.int .i64 y0, .int .i64 y1, y2, y3] 35); rw [World.size_alloc] at h; exact h
  have hb : Below w.heap.size w ((w.alloc (.cells #[.int .i64 x0, .int .i64 x1, x2, x3] 35)).alloc (.cells #[.int .i64 y0, .int .i64 y1, y2, y3] 35)) := ((Below.refl _ _).alloc (Nat.le_refl _) _).alloc (by simp only [World.size_alloc]; omega) _
  have hz : w.heap.size + 1 < ((w.alloc (.cells #[.int .i64 x0, .int .i64 x1, x2, x3] 35)).alloc (.cells #[.int .i64 y0, .int .i64 y1, y2, y3] 35)).heap.size := by simp only [World.size_alloc]; omega
  have q2 := hide (fun W (hW : Below w.heap.size w W) => eqStringS_a (h2.below hW (.inr (Nat.le_refl _))) (g2.below hW (.inr (Nat.le_refl _))) (by omega) (by omega))
  have q3 := hide (fun W (hW : Below w.heap.size w W) => eqEdgeS_a (h3.below hW (.inr (Nat.le_refl _))) (g3.below hW (.inr (Nat.le_refl _))) (by omega) (by omega))
  clear h2 g2 h3 g3
  by_cases he : (x0, x1, d2, d3) = (y0, y1, e2, e3)
  · have hE := hide he
    simp only [Prod.mk.injEq] at he
    obtain ⟨z0, z1, z2, z3⟩ := he
    subst z0
    subst z1
    skip
    go_enter Tryz.func19, Tryz.ntmps19
    go_wp2_with fail
    try generalize ((w.alloc (.cells #[.int .i64 x0, .int .i64 x1, x2, x3] 35)).alloc (.cells #[.int .i64 x0, .int .i64 x1, y2, y3] 35)) = W at *
    have qq := q2.out _ hb
    rw [decide_eq_true z2] at qq
    replace qq := hide qq
    refine qq.out.mono ?_
    rintro r w1 ⟨rfl, hb1⟩
    clear qq
    replace k0 := (hb1.block _ (by omega)).trans k0
    replace k1 := (hb1.block _ (by omega)).trans k1
    replace hb := hb.trans (hb1.mono hb.size)
    replace hz := Nat.lt_of_lt_of_le hz hb1.size
    clear hb1
    have a0 : w1.cell? ⟨w.heap.size, 0, none⟩ = some (.int .i64 x0) := (cell_of_row _ _ 0 _ _ (0, 0) k0).trans rfl
    have b0 : w1.cell? ⟨w.heap.size + 1, 0, none⟩ = some (.int .i64 x0) := (cell_of_row _ _ 0 _ _ (0, 0) k1).trans rfl
    have a1 : w1.cell? ⟨w.heap.size, 1, none⟩ = some (.int .i64 x1) := (cell_of_row _ _ 1 _ _ (0, 0) k0).trans rfl
    have b1 : w1.cell? ⟨w.heap.size + 1, 1, none⟩ = some (.int .i64 x1) := (cell_of_row _ _ 1 _ _ (0, 0) k1).trans rfl
    have a2 : w1.cell? ⟨w.heap.size, 2, none⟩ = some (x2) := (cell_of_row _ _ 2 _ _ (0, 0) k0).trans rfl
    have b2 : w1.cell? ⟨w.heap.size + 1, 2, none⟩ = some (y2) := (cell_of_row _ _ 2 _ _ (0, 0) k1).trans rfl
    have a3 : w1.cell? ⟨w.heap.size, 3, none⟩ = some (x3) := (cell_of_row _ _ 3 _ _ (0, 0) k0).trans rfl
    have b3 : w1.cell? ⟨w.heap.size + 1, 3, none⟩ = some (y3) := (cell_of_row _ _ 3 _ _ (0, 0) k1).trans rfl
    go_wp2_with fail
    have qq := q3.out _ hb
    rw [decide_eq_true z3] at qq
    replace qq := hide qq
    refine qq.out.mono ?_
    rintro r w2 ⟨rfl, hb1⟩
    clear a0 b0 a1 b1 a2 b2 a3 b3
    clear qq
    replace k0 := (hb1.block _ (by omega)).trans k0
    replace k1 := (hb1.block _ (by omega)).trans k1
    replace hb := hb.trans (hb1.mono hb.size)
    replace hz := Nat.lt_of_lt_of_le hz hb1.size
    clear hb1
    have a0 : w2.cell? ⟨w.heap.size, 0, none⟩ = some (.int .i64 x0) := (cell_of_row _ _ 0 _ _ (0, 0) k0).trans rfl
    have b0 : w2.cell? ⟨w.heap.size + 1, 0, none⟩ = some (.int .i64 x0) := (cell_of_row _ _ 0 _ _ (0, 0) k1).trans rfl
    have a1 : w2.cell? ⟨w.heap.size, 1, none⟩ = some (.int .i64 x1) := (cell_of_row _ _ 1 _ _ (0, 0) k0).trans rfl
    have b1 : w2.cell? ⟨w.heap.size + 1, 1, none⟩ = some (.int .i64 x1) := (cell_of_row _ _ 1 _ _ (0, 0) k1).trans rfl
    have a2 : w2.cell? ⟨w.heap.size, 2, none⟩ = some (x2) := (cell_of_row _ _ 2 _ _ (0, 0) k0).trans rfl
    have b2 : w2.cell? ⟨w.heap.size + 1, 2, none⟩ = some (y2) := (cell_of_row _ _ 2 _ _ (0, 0) k1).trans rfl
    have a3 : w2.cell? ⟨w.heap.size, 3, none⟩ = some (x3) := (cell_of_row _ _ 3 _ _ (0, 0) k0).trans rfl
    have b3 : w2.cell? ⟨w.heap.size + 1, 3, none⟩ = some (y3) := (cell_of_row _ _ 3 _ _ (0, 0) k1).trans rfl
    go_wp2_with fail
    go_ret
    exact ⟨by rw [decide_eq_true hE.out]; rfl, hb⟩
  · have hN : Hid (¬ ((x0, x1, d2, d3) = (y0, y1, e2, e3))) := he
    by_cases c0 : x0 = y0
    · subst c0
      have z0 : x0 = x0 := rfl
      replace z0 := hide z0
      by_cases c1 : x1 = y1
      · subst c1
        have z1 : x1 = x1 := rfl
        replace z1 := hide z1
        by_cases c2 : d2 = e2
        · have z2 := hide c2
          clear c2
          by_cases c3 : d3 = e3
          · have z3 := hide c3
            clear c3
            exact absurd (Prod.ext z0.out (Prod.ext z1.out (Prod.ext z2.out (z3.out)))) hN.out
          · replace c3 := hide c3
            skip
            go_enter Tryz.func19, Tryz.ntmps19
            go_wp2_with fail
            try generalize ((w.alloc (.cells #[.int .i64 x0, .int .i64 x1, x2, x3] 35)).alloc (.cells #[.int .i64 x0, .int .i64 x1, y2, y3] 35)) = W at *
            have qq := q2.out _ hb
            rw [decide_eq_true z2.out] at qq
            replace qq := hide qq
            refine qq.out.mono ?_
            rintro r w1 ⟨rfl, hb1⟩
            clear qq
            replace k0 := (hb1.block _ (by omega)).trans k0
            replace k1 := (hb1.block _ (by omega)).trans k1
            replace hb := hb.trans (hb1.mono hb.size)
            replace hz := Nat.lt_of_lt_of_le hz hb1.size
            clear hb1
            have a0 : w1.cell? ⟨w.heap.size, 0, none⟩ = some (.int .i64 x0) := (cell_of_row _ _ 0 _ _ (0, 0) k0).trans rfl
            have b0 : w1.cell? ⟨w.heap.size + 1, 0, none⟩ = some (.int .i64 x0) := (cell_of_row _ _ 0 _ _ (0, 0) k1).trans rfl
            have a1 : w1.cell? ⟨w.heap.size, 1, none⟩ = some (.int .i64 x1) := (cell_of_row _ _ 1 _ _ (0, 0) k0).trans rfl
            have b1 : w1.cell? ⟨w.heap.size + 1, 1, none⟩ = some (.int .i64 x1) := (cell_of_row _ _ 1 _ _ (0, 0) k1).trans rfl
            have a2 : w1.cell? ⟨w.heap.size, 2, none⟩ = some (x2) := (cell_of_row _ _ 2 _ _ (0, 0) k0).trans rfl
            have b2 : w1.cell? ⟨w.heap.size + 1, 2, none⟩ = some (y2) := (cell_of_row _ _ 2 _ _ (0, 0) k1).trans rfl
            have a3 : w1.cell? ⟨w.heap.size, 3, none⟩ = some (x3) := (cell_of_row _ _ 3 _ _ (0, 0) k0).trans rfl
            have b3 : w1.cell? ⟨w.heap.size + 1, 3, none⟩ = some (y3) := (cell_of_row _ _ 3 _ _ (0, 0) k1).trans rfl
            go_wp2_with fail
            have qq := q3.out _ hb
            rw [decide_eq_false c3.out] at qq
            replace qq := hide qq
            refine qq.out.mono ?_
            rintro r w2 ⟨rfl, hb1⟩
            clear a0 b0 a1 b1 a2 b2 a3 b3
            clear qq
            replace k0 := (hb1.block _ (by omega)).trans k0
            replace k1 := (hb1.block _ (by omega)).trans k1
            replace hb := hb.trans (hb1.mono hb.size)
            replace hz := Nat.lt_of_lt_of_le hz hb1.size
            clear hb1
            have a0 : w2.cell? ⟨w.heap.size, 0, none⟩ = some (.int .i64 x0) := (cell_of_row _ _ 0 _ _ (0, 0) k0).trans rfl
            have b0 : w2.cell? ⟨w.heap.size + 1, 0, none⟩ = some (.int .i64 x0) := (cell_of_row _ _ 0 _ _ (0, 0) k1).trans rfl
            have a1 : w2.cell? ⟨w.heap.size, 1, none⟩ = some (.int .i64 x1) := (cell_of_row _ _ 1 _ _ (0, 0) k0).trans rfl
            have b1 : w2.cell? ⟨w.heap.size + 1, 1, none⟩ = some (.int .i64 x1) := (cell_of_row _ _ 1 _ _ (0, 0) k1).trans rfl
            have a2 : w2.cell? ⟨w.heap.size, 2, none⟩ = some (x2) := (cell_of_row _ _ 2 _ _ (0, 0) k0).trans rfl
            have b2 : w2.cell? ⟨w.heap.size + 1, 2, none⟩ = some (y2) := (cell_of_row _ _ 2 _ _ (0, 0) k1).trans rfl
            have a3 : w2.cell? ⟨w.heap.size, 3, none⟩ = some (x3) := (cell_of_row _ _ 3 _ _ (0, 0) k0).trans rfl
            have b3 : w2.cell? ⟨w.heap.size + 1, 3, none⟩ = some (y3) := (cell_of_row _ _ 3 _ _ (0, 0) k1).trans rfl
            go_wp2_with fail
            go_ret
            exact ⟨by first | (rw [decide_eq_false hN.out]; rfl) | rfl, hb⟩
        · replace c2 := hide c2
          clear q3
          go_enter Tryz.func19, Tryz.ntmps19
          go_wp2_with fail
          try generalize ((w.alloc (.cells #[.int .i64 x0, .int .i64 x1, x2, x3] 35)).alloc (.cells #[.int .i64 x0, .int .i64 x1, y2, y3] 35)) = W at *
          have qq := q2.out _ hb
          rw [decide_eq_false c2.out] at qq
          replace qq := hide qq
          refine qq.out.mono ?_
          rintro r w1 ⟨rfl, hb1⟩
          clear qq
          replace k0 := (hb1.block _ (by omega)).trans k0
          replace k1 := (hb1.block _ (by omega)).trans k1
          replace hb := hb.trans (hb1.mono hb.size)
          replace hz := Nat.lt_of_lt_of_le hz hb1.size
          clear hb1
          have a0 : w1.cell? ⟨w.heap.size, 0, none⟩ = some (.int .i64 x0) := (cell_of_row _ _ 0 _ _ (0, 0) k0).trans rfl
          have b0 : w1.cell? ⟨w.heap.size + 1, 0, none⟩ = some (.int .i64 x0) := (cell_of_row _ _ 0 _ _ (0, 0) k1).trans rfl
          have a1 : w1.cell? ⟨w.heap.size, 1, none⟩ = some (.int .i64 x1) := (cell_of_row _ _ 1 _ _ (0, 0) k0).trans rfl
          have b1 : w1.cell? ⟨w.heap.size + 1, 1, none⟩ = some (.int .i64 x1) := (cell_of_row _ _ 1 _ _ (0, 0) k1).trans rfl
          have a2 : w1.cell? ⟨w.heap.size, 2, none⟩ = some (x2) := (cell_of_row _ _ 2 _ _ (0, 0) k0).trans rfl
          have b2 : w1.cell? ⟨w.heap.size + 1, 2, none⟩ = some (y2) := (cell_of_row _ _ 2 _ _ (0, 0) k1).trans rfl
          have a3 : w1.cell? ⟨w.heap.size, 3, none⟩ = some (x3) := (cell_of_row _ _ 3 _ _ (0, 0) k0).trans rfl
          have b3 : w1.cell? ⟨w.heap.size + 1, 3, none⟩ = some (y3) := (cell_of_row _ _ 3 _ _ (0, 0) k1).trans rfl
          go_wp2_with fail
          go_ret
          exact ⟨by first | (rw [decide_eq_false hN.out]; rfl) | rfl, hb⟩
      · have cc : (x1 != y1) = true := by rw [bne_iff_ne]; exact c1
        clear c1
        clear q2 q3
        go_enter Tryz.func19, Tryz.ntmps19
        go_wp2_with fail
        try generalize ((w.alloc (.cells #[.int .i64 x0, .int .i64 x1, x2, x3] 35)).alloc (.cells #[.int .i64 x0, .int .i64 y1, y2, y3] 35)) = W at *
        go_ret
        exact ⟨by first | (rw [decide_eq_false hN.out]; rfl) | rfl, hb⟩
    · have cc : (x0 != y0) = true := by rw [bne_iff_ne]; exact c0
      clear c0
      clear q2 q3
      go_enter Tryz.func19, Tryz.ntmps19
      go_wp2_with fail
      try generalize ((w.alloc (.cells #[.int .i64 x0, .int .i64 x1, x2, x3] 35)).alloc (.cells #[.int .i64 y0, .int .i64 y1, y2, y3] 35)) = W at *
      go_ret
      exact ⟨by first | (rw [decide_eq_false hN.out]; rfl) | rfl, hb⟩


end Go.Proofs.YtanlgnjgpbjebaaGreatDoor

namespace Go.Proofs.YtanlgnjgpbjebaaGreatDoor
open Go.ChangeShapes Go.WideShapes Go.ChangeAt Go.RowKit
set_option linter.unusedVariables false

theorem same_quiet {P : Program} {f : FuncId} {args : Array Value} {w : World} {n : Nat} {v : Value} (h : Calls P f args (w.drewN n) fun e w' => e = .returned v ∧ w.drewN n = w') :
    Calls P f args (w.drewN n) fun e w'' => e = .returned v ∧ ∃ m, w'' = w.drewN m := h.mono fun _ _ ⟨he, hm⟩ => ⟨he, n, hm.symm⟩
theorem same_quiet2 {P : Program} {f : FuncId} {args : Array Value} {w : World} {N n : Nat} {v : Value} (h : Calls P f args (w.drewN (N + n)) fun e w' => e = .returned v ∧ w.drewN (N + n) = w') :
    Calls P f args (w.drewN (N + n)) fun e w'' => e = .returned v ∧ ∃ m, w'' = w.drewN (N + m) := h.mono fun _ _ ⟨he, hm⟩ => ⟨he, n, hm.symm⟩
theorem below_drewN (w : World) (k : Nat) : Below w.heap.size w (w.drewN k) := ⟨rfl, rfl, rfl, Nat.le_refl _, fun _ _ => rfl⟩

theorem l00In_calls (n lo hi : Int) (w : World) :
    Calls Tryz.prog 79 #[.int .i64 n, .int .i64 lo, .int .i64 hi] w fun e w' => e = .returned (.bool (inB n lo hi)) ∧ w = w' := by
  by_cases h : lo ≤ n
  · have hr := hide (show inB n lo hi = decide (n ≤ hi) from by unfold inB; simp [h])
    go_enter Tryz.func79, Tryz.ntmps79
    go_wp2
    go_ret
    exact ⟨ret_b (by rw [hr.out]), rfl⟩
  · have hr := hide (show inB n lo hi = false from by unfold inB; simp [h])
    go_enter Tryz.func79, Tryz.ntmps79
    go_wp2
    go_ret
    exact ⟨ret_b (by rw [hr.out]), rfl⟩
theorem within_calls (n lo hi : Int) (w : World) :
    Calls Tryz.prog 87 #[.int .i64 n, .int .i64 lo, .int .i64 hi] w fun e w' => e = .returned (.bool (inB n lo hi)) ∧ w = w' := by
  by_cases h : lo ≤ n
  · have hr := hide (show inB n lo hi = decide (n ≤ hi) from by unfold inB; simp [h])
    go_enter Tryz.func87, Tryz.ntmps87
    go_wp2
    go_ret
    exact ⟨ret_b (by rw [hr.out]), rfl⟩
  · have hr := hide (show inB n lo hi = false from by unfold inB; simp [h])
    go_enter Tryz.func87, Tryz.ntmps87
    go_wp2
    go_ret
    exact ⟨ret_b (by rw [hr.out]), rfl⟩
theorem index_calls (x : Int) (m : Nat) (hm : m ≤ 1048576) (w : World) :
    Calls Tryz.prog 83 #[.int .i64 x, .int .i64 m] w fun e w' => e = .returned (.bool (inB x 0 ((m : Int) - 1))) ∧ w = w' := by
  go_enter Tryz.func83, Tryz.ntmps83
  go_wp2_with (go_at_call 87; refine (within_calls _ _ _ _).mono ?_; rintro e w' ⟨rfl, rfl⟩)
  go_ret
  exact ⟨rfl, rfl⟩

theorem inB_true {n lo hi : Int} : inB n lo hi = true ↔ lo ≤ n ∧ n ≤ hi := by unfold inB; simp
theorem inB_false {n lo hi : Int} : inB n lo hi = false ↔ ¬ (lo ≤ n ∧ n ≤ hi) := by rw [← inB_true]; simp

end Go.Proofs.YtanlgnjgpbjebaaGreatDoor
