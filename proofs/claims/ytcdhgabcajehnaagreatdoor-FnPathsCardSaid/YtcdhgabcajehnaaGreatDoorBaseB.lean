/-
  Several texts in one:
  The laws' helpers on lists of strings: sizes, copying, comparing. Conditions: sizes.
  The laws' helpers on lists of edges (three numbers each): sizes, copying, comparing. Conditions: sizes.
  Transition systems as data, and what makes one valid, deterministic. Conditions: none.
  Distances along the edges of a system, plain. Conditions: none.
  The shelf's contracts on strings and numbers at this seat's program, in plain words (printed by wip/shelf.py with the kit's lay-shelf and lay-plain). Conditions: sizes.
  Transition systems as arguments of a law: words, sizes, copying, comparing. Conditions: sizes.
  Small tests on numbers, both programs'. Conditions: none.
  Names: the program's test and the reference's. Conditions: none.
  What a world brings of the library's settled variables, and the program's readings of numbers. Conditions: sizes.
  The reference's cutting of texts. Conditions: sizes.
  The reference's test of a label. Conditions: sizes.
  slices.IndexFunc and slices.ContainsFunc at whatever function value that answers a bool and changes nothing that was there. Conditions: at most 1048576 elements.
  Lists of bool and of numbers in memory. Conditions: at most 1048576 elements.
  slices.Repeat of one bool or number, copies of lists of numbers. Conditions: at most 1048576 elements.
  A queue of numbers (a slice of the call's own that is cut at its head and appended to at its end). Conditions: short queues.
  The program's reading of one number. Conditions: sizes.
  The program's reading of lists of numbers, joining, tests of values. Conditions: sizes.
-/
import Derived.Test.YtcdhgabcajehnaaGreatDoorBaseA
import Derived.StillTailTactics
import Derived.Outline
import Derived.Shelf.Strings.Builder1
import Derived.Shelf.Strings.Builder2
import Derived.Shelf.Strings.OnBuilder
import Derived.Shelf.Small.Bits
import Derived.Shelf.Small.Strs
import Derived.Shelf.Strings.BuilderF
import Derived.Shelf.Strings.BuilderK
import Derived.Shelf.Utf8.RuneCount
import Derived.Shelf.Strings.Builder2Cap
import Derived.Shelf.Strconv.Itoa0
import Derived.Shelf.Strconv.Itoa1
import Derived.Shelf.LaysM
import Derived.Shelf.Strconv.Itoa2
import Derived.Shelf.Strconv.Itoa3
import Derived.Shelf.Strconv.Itoa4
import Derived.Shelf.Strconv.ParseIntEmpty
import Derived.Shelf.Strconv.Clone
import Derived.Shelf.Strconv.SyntaxError
import Derived.Shelf.LaysC
import Derived.Shelf.Strconv.ToError
import Derived.Shelf.Strconv.Lower
import Derived.Shelf.Strconv.ParseUint10
import Derived.Shelf.Strconv.ParseUint10Empty
import Derived.Shelf.Strconv.ParseUint10Any
import Derived.Shelf.Strconv.ParseInt10
import Derived.Shelf.Strconv.RangeError
import Derived.Shelf.Strconv.ToErrorRange
import Derived.Shelf.Strconv.ParseUintEmpty
import Derived.Shelf.Strconv.ParseUint10b64
import Derived.Shelf.Strconv.ParseUint10b32
import Derived.Shelf.Strconv.ParseUint10b16
import Derived.Shelf.Strconv.ParseUint10b8
import Derived.Shelf.Strconv.ParseUint10At
import Derived.Shelf.Strconv.ParseInt10At64
import Derived.Shelf.Strconv.ParseInt10At32
import Derived.Shelf.Strconv.ParseInt10At16
import Derived.Shelf.Strconv.ParseInt10At8
import Derived.Shelf.Strconv.ParseInt10All
import Derived.Shelf.Strconv.ParseIntPublic10
import Derived.Shelf.Strconv.ErrVarParseInt
import Derived.Shelf.Strings.Search1
import Derived.Shelf.Strings.Search2
import Derived.Shelf.Strings.Search3
import Derived.Shelf.Strings.Cut
import Derived.Shelf.Strings.Count
import Derived.Shelf.Strings.Shaped
import Derived.Shelf.Strings.Prefix
import Derived.Shelf.Strings.Split
import Derived.Shelf.Strings.SplitShaped
import Derived.Shelf.Unicode.Decode
import Derived.Shelf.Strings.RuneCount
import Derived.Shelf.Strings.Explode
import Derived.Shelf.Bits.Mul64
import Derived.Shelf.Unicode.DecodeSlow
import Derived.Shelf.Unicode.DecodeAny
import Derived.Shelf.Strings.BuilderCap
import Derived.Shelf.Slices.Turned
import Derived.Ground.Names2Prog
import Derived.Shelf.Slices.Clone
import Derived.Shelf.Slices.CompactS
import Derived.Shelf.Slices.Cells
import Derived.Ground.SlgnProg
import Derived.Shelf.SlicesG.Turned
import Derived.Shelf.SlicesG.Equal
import Derived.Shelf.SlicesG.Clone
import Derived.Shelf.SlicesG.CompactI
import Derived.Shelf.SlicesG.SearchI
import Derived.Shelf.SlicesG.Cells
import Derived.Shelf.SlicesE.Clone
import Derived.Ground.SlgcProg
import Derived.Shelf.SlicesG.Cmp
import Derived.Ground.SlsfProg
import Derived.Shelf.SlSortCmp.Insertion
import Derived.Ground.SlgmProg
import Derived.Shelf.SortM.Plain
import Derived.Shelf.SortM.SortNone
import Derived.Shelf.SlSortCmp.SiftDown1
import Derived.Shelf.SlSortCmp.HeapSort1
import Derived.Shelf.SlSortCmp.Insertion1
import Derived.Shelf.SlSortCmp.Median1
import Derived.Shelf.SlSortCmp.Pivot1
import Derived.Shelf.SlSortCmp.ReverseRange1
import Derived.Shelf.SlSortCmp.PartialInsertion1
import Derived.Shelf.SlSortCmp.PartitionEqual1
import Derived.Shelf.SlSortCmp.Partition1
import Derived.Shelf.SlSortCmp.Pdq1
import Derived.Shelf.SlSortCmp.Whole1
import Derived.Shelf.SlSortCmp.NoneTotal
import Derived.Test.YtcdhgabcajehnaaGreatDoorProg
import Derived.IntWalk
import Derived.Lib.AppendIntMem
import Derived.WalkSmall
import Derived.Deep.RegionLaw
import Derived.Test.YtcdhgabcajehnaaGreatDoorRows
import Derived.LoopTactic
import Derived.WalkSpells
import Derived.Laws.CopyOwn
import Derived.Laws.Bits64b
import Derived.Deep.LoopGhost
import Derived.ArgAppend
import Derived.Lib.ItoaLen
set_option linter.unusedSimpArgs false
set_option linter.unusedVariables false
namespace Go.Proofs.YtcdhgabcajehnaaGreatDoor
open Go.ChangeShapes Go.WideShapes Go.ChangeAt Go.RowKit
set_option linter.unusedVariables false

def strv (s : ByteArray) : List Value := [.string s]
abbrev SlS := Sl 1 strv
theorem SlS.get {w : World} {lo hi n : Nat} {A : Option Addr} {l : List ByteArray} (h : SlS w lo hi A n l) {k : Nat} (hk : k < n) :
    ∃ b off x, A = some ⟨b, off, none⟩ ∧ lo ≤ b ∧ b < hi ∧ b < w.heap.size ∧ l[k]? = some x ∧ w.cell? ⟨b, off + k, none⟩ = some (.string x) ∧ w.frozen? ⟨b, off + k, none⟩ = false := by
  obtain ⟨b, off, e, g1, g2, g3, hc⟩ := h.at_ (by omega)
  have hl : k < l.length := by rw [h.len]; exact hk
  have h0 := hc k l[k] (List.getElem?_eq_getElem hl) 0 _ rfl
  simp only [Nat.mul_one, Nat.add_zero] at h0
  exact ⟨b, off, l[k], e, g1, g2, g3, List.getElem?_eq_getElem hl, h0.1, h0.2⟩
theorem str_neq {a b : ByteArray} (h : a ≠ b) : (a.toList == b.toList) = false := by
  obtain ⟨⟨x⟩⟩ := a
  obtain ⟨⟨y⟩⟩ := b
  have e1 : (ByteArray.mk ⟨x⟩).toList = x := ByteArray.toList_mk x
  have e2 : (ByteArray.mk ⟨y⟩).toList = y := ByteArray.toList_mk y
  rw [e1, e2, beq_eq_false_iff_ne]
  rintro rfl
  exact h rfl
/-- How much of `left` is there behind n. -/
def totS (l : List ByteArray) : Nat := l.length + (l.map (·.size)).sum
theorem info_string : (Tryz.prog.info? 9).map (fun i => (i.zero, i.size, i.bytes)) = some (some (.string ByteArray.empty), 1, 16) := by kernel_rfl

end Go.Proofs.YtcdhgabcajehnaaGreatDoor

namespace Go.Proofs.YtcdhgabcajehnaaGreatDoor
open Go.ChangeShapes Go.WideShapes Go.ChangeAt Go.RowKit
set_option linter.unusedVariables false

abbrev Ed := Int × Int × Int
def ev (e : Ed) : List Value := [.int .i64 e.1, .int .i64 e.2.1, .int .i64 e.2.2]
abbrev SlE := Sl 3 ev
theorem SlE.get {w : World} {lo hi n : Nat} {A : Option Addr} {l : List Ed} (h : SlE w lo hi A n l) {k : Nat} (hk : k < n) :
    ∃ b off x y z, A = some ⟨b, off, none⟩ ∧ lo ≤ b ∧ b < hi ∧ b < w.heap.size ∧ l[k]? = some (x, y, z) ∧ w.cell? ⟨b, off + k * 3, none⟩ = some (.int .i64 x) ∧ w.cell? ⟨b, off + k * 3 + 1, none⟩ = some (.int .i64 y) ∧ w.cell? ⟨b, off + k * 3 + 2, none⟩ = some (.int .i64 z) ∧
      w.frozen? ⟨b, off + k * 3, none⟩ = false ∧ w.frozen? ⟨b, off + k * 3 + 1, none⟩ = false ∧ w.frozen? ⟨b, off + k * 3 + 2, none⟩ = false := by
  obtain ⟨b, off, e, g1, g2, g3, hc⟩ := h.at_ (by omega)
  have hl : k < l.length := by rw [h.len]; exact hk
  have h0 := hc k l[k] (List.getElem?_eq_getElem hl) 0 _ rfl
  have h1 := hc k l[k] (List.getElem?_eq_getElem hl) 1 _ rfl
  have h2 := hc k l[k] (List.getElem?_eq_getElem hl) 2 _ rfl
  rw [← Nat.add_assoc] at h1 h2
  exact ⟨b, off, l[k].1, l[k].2.1, l[k].2.2, e, g1, g2, g3, List.getElem?_eq_getElem hl, h0.1, h1.1, h2.1, h0.2, h1.2, h2.2⟩

theorem info_implEdge : (Tryz.prog.info? 70).map (fun i => (i.zero, i.size, i.bytes)) = some (some (.agg #[.int .i64 0, .int .i64 0, .int .i64 0]), 3, 24) := by kernel_rfl

end Go.Proofs.YtcdhgabcajehnaaGreatDoor

namespace Go.Proofs.YtcdhgabcajehnaaGreatDoor
set_option linter.unusedVariables false

/-! ## All of the first n numbers -/
def allK (p : Nat → Bool) (n : Nat) : Bool := (List.range n).all p
theorem allK_bad {p : Nat → Bool} {n k : Nat} (hk : k < n) (h : p k = false) : allK p n = false := by
  unfold allK
  rw [← Bool.not_eq_true, List.all_eq_true]
  intro hc
  have := hc k (List.mem_range.2 hk)
  rw [h] at this
  cases this
theorem allK_good {p : Nat → Bool} {n : Nat} (h : ∀ j, j < n → p j = true) : allK p n = true :=
  List.all_eq_true.2 fun k hk => h k (List.mem_range.1 hk)
theorem allK_get {p : Nat → Bool} {n : Nat} (h : allK p n = true) {k : Nat} (hk : k < n) : p k = true :=
  (List.all_eq_true.1 h) k (List.mem_range.2 hk)
theorem lt_succ_cases {p : Nat → Prop} {k : Nat} (h : ∀ j, j < k → p j) (hk : p k) : ∀ j, j < k + 1 → p j := fun j hj => by
  rcases Nat.lt_or_ge j k with h1 | h1
  · exact h j h1
  · have : j = k := by omega
    subst this
    exact hk

/-! ## Data -/
/-- States, initial state, labels, edges. -/
abbrev DL := Int × Int × List ByteArray × List Ed

def tauB : ByteArray := ⟨#[116, 97, 117]⟩
/-- Order of edges. -/
def edLess (a b : Ed) : Bool := if a.1 ≠ b.1 then decide (a.1 < b.1) else if a.2.1 ≠ b.2.1 then decide (a.2.1 < b.2.1) else decide (a.2.2 < b.2.2)

section
variable (labB : ByteArray → Bool) (sLess : ByteArray → ByteArray → Bool)
/-- Label k is in order. -/
def okLab (ls : List ByteArray) (k : Nat) : Bool := match ls[k]? with
  | some s => labB s && (decide (s = tauB) == decide (k = 0)) && (decide (k ≤ 1) || match ls[k - 1]? with | some r => sLess r s | none => true)
  | none => true
def okEd (st m : Int) (es : List Ed) (k : Nat) : Bool := match es[k]? with
  | some e => inB e.1 0 (st - 1) && inB e.2.2 0 (st - 1) && inB e.2.1 0 (m - 1) && (decide (k = 0) || match es[k - 1]? with | some r => edLess r e | none => true)
  | none => true
def ltsB (d : DL) : Bool :=
  (inB d.1 1 40 && inB d.2.1 0 (d.1 - 1) && inB (d.2.2.1.length : Int) 1 12 && decide (d.2.2.2.length ≤ 300)) &&
  (allK (okLab labB sLess d.2.2.1) d.2.2.1.length && allK (okEd d.1 d.2.2.1.length d.2.2.2) d.2.2.2.length)
end
end Go.Proofs.YtcdhgabcajehnaaGreatDoor

namespace Go.Proofs.YtcdhgabcajehnaaGreatDoor
set_option linter.unusedVariables false

/-- An arc along an edge, forward or backward. -/
def arcE (fw : Bool) (es : List Ed) (a k : Nat) : Prop := ∃ e : Ed, e ∈ es ∧ (if fw = true then e.1 = (a : Int) ∧ e.2.2 = (k : Int) else e.2.2 = (a : Int) ∧ e.1 = (k : Int))
def srcE (l : List Int) (k : Nat) : Prop := (k : Int) ∈ l
/-- The distances. -/
noncomputable def distF (fw : Bool) (N : Nat) (es : List Ed) (l : List Int) : List Int :=
  open Classical in if h : ∃ out, DistIs (srcE l) (arcE fw es) N out then h.choose else []
theorem distF_of {fw : Bool} {N : Nat} {es : List Ed} {l : List Int} {out : List Int} (h : DistIs (srcE l) (arcE fw es) N out) : distF fw N es l = out := by
  have hx : ∃ out, DistIs (srcE l) (arcE fw es) N out := ⟨out, h⟩
  unfold distF
  rw [dif_pos hx]
  exact DistIs.uniq _ _ hx.choose_spec h
section
variable {N n : Nat} {es : List Ed} {out next : List Int} {i : Nat} {e : Ed}
end

/-! ## More on rounds -/
def negs : List Int → Nat
  | [] => 0
  | x :: l => (if x < 0 then 1 else 0) + negs l
theorem negs_set : ∀ {l : List Int} {k : Nat} {z v : Int}, l[k]? = some z → z < 0 → 0 ≤ v → negs (l.set k v) + 1 = negs l
  | [], k, z, v, h, _, _ => by simp at h
  | x :: l, 0, z, v, h, hz, hv => by
    simp at h
    subst h
    simp only [List.set_cons_zero, negs]
    rw [if_neg (by omega), if_pos hz]
    omega
  | x :: l, k + 1, z, v, h, hz, hv => by
    have := negs_set (l := l) (k := k) (v := v) (by simpa using h) hz hv
    simp only [List.set_cons_succ, negs]
    omega
theorem negs_le : ∀ (l : List Int), negs l ≤ l.length
  | [] => Nat.le_refl _
  | x :: l => by
    have := negs_le l
    simp only [negs, List.length_cons]
    split <;> omega
section
variable {es : List Ed} {vs : List Int} {N rd i : Nat} {out nx : List Int}
theorem arcE_in {N : Nat} (h : ∀ e ∈ es, (0 ≤ e.1 ∧ e.1 < (N : Int)) ∧ (0 ≤ e.2.2 ∧ e.2.2 < (N : Int))) {fw : Bool} : ∀ a k, arcE fw es a k → a < N ∧ k < N := by
  rintro a k ⟨e, he, h1⟩
  have := h e he
  cases fw
  · rw [if_neg (by decide)] at h1
    omega
  · rw [if_pos rfl] at h1
    omega
end
end Go.Proofs.YtcdhgabcajehnaaGreatDoor

namespace Go.Proofs
open Go.Shelf
def Tryz.lays156_ren : Go.Shelf.Ren := ⟨fun | 156 => 185 | 165 => 202 | 166 => 203 | 169 => 204 | 240 => 224 | 241 => 225 | 276 => 239 | 277 => 240 | n => n, fun | 31 => 24 | 9 => 9 | 3 => 3 | 4 => 4 | 0 => 0 | 20 => 20 | 72 => 211 | 76 => 213 | 70 => 209 | 37 => 22 | 75 => 189 | 127 => 228 | 164 => 245 | 5 => 5 | 80 => 215 | n => n, fun | n => n⟩
theorem Tryz.lays156 : Go.Proofs.Lays.n156 Tryz.prog Tryz.lays156_ren := {
  mixed := by kernel_rfl
  f156 := Tryz.func185.trans (congrArg some (by kernel_rfl))
  f165 := Tryz.func202.trans (congrArg some (by kernel_rfl))
  f166 := Tryz.func203.trans (congrArg some (by kernel_rfl))
  f169 := Tryz.func204.trans (congrArg some (by kernel_rfl))
  f240 := Tryz.func224.trans (congrArg some (by kernel_rfl))
  f241 := Tryz.func225.trans (congrArg some (by kernel_rfl))
  f276 := Tryz.func239.trans (congrArg some (by kernel_rfl))
  f277 := Tryz.func240.trans (congrArg some (by kernel_rfl))
  t0 := Tryz.underlying0
  a0 := Tryz.isAgg0
  z0 := Tryz.sizeOf0
  v0 := Tryz.zeroValue0
  t3 := Tryz.underlying3
  a3 := Tryz.isAgg3
  z3 := Tryz.sizeOf3
  v3 := Tryz.zeroValue3
  t4 := Tryz.underlying4
  a4 := Tryz.isAgg4
  z4 := Tryz.sizeOf4
  v4 := Tryz.zeroValue4
  t9 := Tryz.underlying9
  a9 := Tryz.isAgg9
  z9 := Tryz.sizeOf9
  v9 := Tryz.zeroValue9
  t20 := Tryz.underlying20
  a20 := Tryz.isAgg20
  z20 := Tryz.sizeOf20
  v20 := Tryz.zeroValue20
  t31 := Tryz.underlying24
  a31 := Tryz.isAgg24
  z31 := Tryz.sizeOf24
  v31 := Tryz.zeroValue24
  t37 := Tryz.underlying22
  a37 := Tryz.isAgg22
  z37 := Tryz.sizeOf22
  v37 := Tryz.zeroValue22
  t70 := Tryz.underlying209
  a70 := Tryz.isAgg209
  z70 := Tryz.sizeOf209
  v70 := Tryz.zeroValue209
  t72 := Tryz.underlying211
  a72 := Tryz.isAgg211
  z72 := Tryz.sizeOf211
  v72 := Tryz.zeroValue211
  t75 := Tryz.underlying189
  a75 := Tryz.isAgg189
  z75 := Tryz.sizeOf189
  v75 := Tryz.zeroValue189
  t76 := Tryz.underlying213
  a76 := Tryz.isAgg213
  z76 := Tryz.sizeOf213
  v76 := Tryz.zeroValue213
  t127 := Tryz.underlying228
  a127 := Tryz.isAgg228
  z127 := Tryz.sizeOf228
  v127 := Tryz.zeroValue228
  t164 := Tryz.underlying245
  a164 := Tryz.isAgg245
  z164 := Tryz.sizeOf245
  v164 := Tryz.zeroValue245 }
theorem Tryz.Builder_Extra_156 : Builder.Extra Tryz.prog Tryz.lays156_ren := {
  sizeBuilder := by kernel_rfl
  liesBuilder := by kernel_rfl
  t5 := Tryz.underlying5
  a5 := Tryz.isAgg5
  z5 := Tryz.sizeOf5
  v5 := Tryz.zeroValue5
  infoByte := by kernel_rfl
  cellsByte := by kernel_rfl
  sizeByte := by kernel_rfl
  neB5 := by decide }
open Go.RowKit in
/-- strings.Join: "Join concatenates the elements of its first argument to create a single string. The separator string sep is placed between elements in the resulting string.": HOWEVER MANY ELEMENTS. Below the heap's end the world is as it was. (LAID: no walk: one application.) -/
theorem Tryz.strings_Join (bk o c : Nat) (xs : List ByteArray) (sep : ByteArray) (w : World) (hcells : ∀ (j : Nat) x, xs[j]? = some x → w.cell? ⟨bk, o + j, none⟩ = some (.string x)) (hbk : bk < w.heap.size) (hN : xs.length ≤ 140737488355328) (hcap : xs.length ≤ c) (hlen : (Lib.join (xs.map (·.data.toList)) sep.data.toList).length ≤ 140737488355328) :
    Calls Tryz.prog 185 #[.slice (some ⟨bk, o, none⟩) xs.length c, .string sep] w fun e w' => e = .returned (.string ⟨(Lib.join (xs.map (·.data.toList)) sep.data.toList).toArray⟩) ∧ Below w.heap.size w w' := Any.strings_Join Tryz.lays156 Tryz.Builder_Extra_156 bk o c xs sep w hcells hbk hN hcap hlen
def Tryz.laysM173_ren : Go.Shelf.Ren := ⟨fun | 173 => 197 | 246 => 222 | 283 => 235 | 284 => 236 | 285 => 237 | 286 => 238 | 129 => 136 | 317 => 243 | 318 => 244 | 319 => 245 | 320 => 246 | 337 => 247 | 338 => 248 | n => n, fun | 2 => 2 | 3 => 3 | 9 => 9 | 4 => 4 | 171 => 237 | 0 => 0 | 53 => 86 | 37 => 22 | 5 => 5 | 173 => 239 | 212 => 253 | 51 => 150 | 20 => 20 | 213 => 254 | 46 => 120 | 232 => 256 | 233 => 257 | n => n, fun | 17 => 5 | 18 => 6 | 19 => 7 | n => n⟩
theorem Tryz.laysM173 : Go.Proofs.LaysM.n173 Tryz.prog Tryz.laysM173_ren := {
  mixed := by kernel_rfl
  f129 := Tryz.func136.trans (congrArg some (by kernel_rfl))
  f173 := Tryz.func197.trans (congrArg some (by kernel_rfl))
  f246 := Tryz.func222.trans (congrArg some (by kernel_rfl))
  f283 := Tryz.func235.trans (congrArg some (by kernel_rfl))
  f284 := Tryz.func236.trans (congrArg some (by kernel_rfl))
  f285 := Tryz.func237.trans (congrArg some (by kernel_rfl))
  f286 := Tryz.func238.trans (congrArg some (by kernel_rfl))
  f317 := Tryz.func243.trans (congrArg some (by kernel_rfl))
  f318 := Tryz.func244.trans (congrArg some (by kernel_rfl))
  f319 := Tryz.func245.trans (congrArg some (by kernel_rfl))
  f320 := Tryz.func246.trans (congrArg some (by kernel_rfl))
  f337 := Tryz.func247.trans (congrArg some (by kernel_rfl))
  f338 := Tryz.func248.trans (congrArg some (by kernel_rfl))
  t0 := Tryz.underlying0
  a0 := Tryz.isAgg0
  z0 := Tryz.sizeOf0
  v0 := Tryz.zeroValue0
  t2 := Tryz.underlying2
  a2 := Tryz.isAgg2
  z2 := Tryz.sizeOf2
  v2 := Tryz.zeroValue2
  t3 := Tryz.underlying3
  a3 := Tryz.isAgg3
  z3 := Tryz.sizeOf3
  v3 := Tryz.zeroValue3
  t4 := Tryz.underlying4
  a4 := Tryz.isAgg4
  z4 := Tryz.sizeOf4
  v4 := Tryz.zeroValue4
  t5 := Tryz.underlying5
  a5 := Tryz.isAgg5
  z5 := Tryz.sizeOf5
  v5 := Tryz.zeroValue5
  t9 := Tryz.underlying9
  a9 := Tryz.isAgg9
  z9 := Tryz.sizeOf9
  v9 := Tryz.zeroValue9
  t20 := Tryz.underlying20
  a20 := Tryz.isAgg20
  z20 := Tryz.sizeOf20
  v20 := Tryz.zeroValue20
  t37 := Tryz.underlying22
  a37 := Tryz.isAgg22
  z37 := Tryz.sizeOf22
  v37 := Tryz.zeroValue22
  t46 := Tryz.underlying120
  a46 := Tryz.isAgg120
  z46 := Tryz.sizeOf120
  v46 := Tryz.zeroValue120
  t51 := Tryz.underlying150
  a51 := Tryz.isAgg150
  z51 := Tryz.sizeOf150
  v51 := Tryz.zeroValue150
  t53 := Tryz.underlying86
  a53 := Tryz.isAgg86
  z53 := Tryz.sizeOf86
  v53 := Tryz.zeroValue86
  t171 := Tryz.underlying237
  a171 := Tryz.isAgg237
  z171 := Tryz.sizeOf237
  v171 := Tryz.zeroValue237
  t173 := Tryz.underlying239
  a173 := Tryz.isAgg239
  z173 := Tryz.sizeOf239
  v173 := Tryz.zeroValue239
  t212 := Tryz.underlying253
  a212 := Tryz.isAgg253
  z212 := Tryz.sizeOf253
  v212 := Tryz.zeroValue253
  t213 := Tryz.underlying254
  a213 := Tryz.isAgg254
  z213 := Tryz.sizeOf254
  t232 := Tryz.underlying256
  a232 := Tryz.isAgg256
  z232 := Tryz.sizeOf256
  v232 := Tryz.zeroValue256
  t233 := Tryz.underlying257
  a233 := Tryz.isAgg257
  z233 := Tryz.sizeOf257
  v233 := Tryz.zeroValue257
  g17 := by kernel_rfl
  g18 := by kernel_rfl
  g19 := by kernel_rfl
  i0 := by kernel_rfl
  i2 := by kernel_rfl
  i3 := by kernel_rfl
  i4 := by kernel_rfl
  i5 := by kernel_rfl
  i9 := by kernel_rfl
  i20 := by kernel_rfl
  i37 := by kernel_rfl
  i46 := by kernel_rfl
  i51 := by kernel_rfl
  i53 := by kernel_rfl
  i171 := by kernel_rfl
  i173 := by kernel_rfl
  i212 := by kernel_rfl
  i232 := by kernel_rfl
  i233 := by kernel_rfl
  m17 := by kernel_rfl
  m18 := by kernel_rfl
  m19 := by kernel_rfl }
open Go.RowKit Go.Sort Go.Lib in
/-- strconv.FormatInt: "FormatInt returns the string representation of i in the given base": AT BASE 10: i's decimal numeral, for every int64. (LAID: no walk: one application.) -/
theorem Tryz.strconv_FormatInt_10 (n : Int) (h0 : -9223372036854775808 ≤ n) (h1 : n ≤ 9223372036854775807) (w : World) (htab : Lib.TabIs Tryz.prog w "internal/strconv.uint64pow10" .u64 Lib.pow10Tab) :
    Calls Tryz.prog 197 #[.int .i64 n, .int .i64 10] w fun e w' => e = .returned (.string ⟨(Lib.itoa n).toArray⟩) ∧ ∃ k os, w' = grow (w.drewN k) os := Any.strconv_FormatInt_10 Tryz.laysM173 n h0 h1 w htab
def Tryz.laysC174_ren : Go.Shelf.Ren := ⟨fun | 174 => 176 | 247 => 195 | 245 => 196 | 287 => 217 | 279 => 218 | 280 => 219 | 281 => 220 | 282 => 221 | 321 => 230 | 322 => 231 | 316 => 232 | 171 => 234 | 205 => 233 | 243 => 242 | 246 => 222 | 283 => 235 | 284 => 236 | 285 => 237 | 286 => 238 | 129 => 136 | 317 => 243 | 318 => 244 | 319 => 245 | 320 => 246 | 337 => 247 | 338 => 248 | n => n, fun | 9 => 9 | 3 => 3 | 2 => 2 | 75 => 189 | 85 => 190 | 4 => 4 | 167 => 222 | 5 => 5 | 53 => 86 | 175 => 223 | 46 => 120 | 168 => 225 | 37 => 22 | 0 => 0 | 210 => 234 | 21 => 21 | 127 => 228 | 145 => 251 | 143 => 249 | 171 => 237 | 173 => 239 | 212 => 253 | 51 => 150 | 20 => 20 | 213 => 254 | 232 => 256 | 233 => 257 | 80 => 215 | n => n, fun | 15 => 1 | 16 => 2 | 17 => 5 | 18 => 6 | 19 => 7 | n => n⟩
theorem Tryz.laysC174 : Go.Proofs.LaysC.n174 Tryz.prog Tryz.laysC174_ren := {
  mixed := by kernel_rfl
  f129 := Tryz.func136.trans (congrArg some (by kernel_rfl))
  f171 := Tryz.func234.trans (congrArg some (by kernel_rfl))
  f174 := Tryz.func176.trans (congrArg some (by kernel_rfl))
  f205 := Tryz.func233.trans (congrArg some (by kernel_rfl))
  f243 := Tryz.func242.trans (congrArg some (by kernel_rfl))
  f245 := Tryz.func196.trans (congrArg some (by kernel_rfl))
  f246 := Tryz.func222.trans (congrArg some (by kernel_rfl))
  f247 := Tryz.func195.trans (congrArg some (by kernel_rfl))
  f279 := Tryz.func218.trans (congrArg some (by kernel_rfl))
  f280 := Tryz.func219.trans (congrArg some (by kernel_rfl))
  f281 := Tryz.func220.trans (congrArg some (by kernel_rfl))
  f282 := Tryz.func221.trans (congrArg some (by kernel_rfl))
  f283 := Tryz.func235.trans (congrArg some (by kernel_rfl))
  f284 := Tryz.func236.trans (congrArg some (by kernel_rfl))
  f285 := Tryz.func237.trans (congrArg some (by kernel_rfl))
  f286 := Tryz.func238.trans (congrArg some (by kernel_rfl))
  f287 := Tryz.func217.trans (congrArg some (by kernel_rfl))
  f316 := Tryz.func232.trans (congrArg some (by kernel_rfl))
  f317 := Tryz.func243.trans (congrArg some (by kernel_rfl))
  f318 := Tryz.func244.trans (congrArg some (by kernel_rfl))
  f319 := Tryz.func245.trans (congrArg some (by kernel_rfl))
  f320 := Tryz.func246.trans (congrArg some (by kernel_rfl))
  f321 := Tryz.func230.trans (congrArg some (by kernel_rfl))
  f322 := Tryz.func231.trans (congrArg some (by kernel_rfl))
  f337 := Tryz.func247.trans (congrArg some (by kernel_rfl))
  f338 := Tryz.func248.trans (congrArg some (by kernel_rfl))
  t0 := Tryz.underlying0
  a0 := Tryz.isAgg0
  z0 := Tryz.sizeOf0
  v0 := Tryz.zeroValue0
  t2 := Tryz.underlying2
  a2 := Tryz.isAgg2
  z2 := Tryz.sizeOf2
  v2 := Tryz.zeroValue2
  t3 := Tryz.underlying3
  a3 := Tryz.isAgg3
  z3 := Tryz.sizeOf3
  v3 := Tryz.zeroValue3
  t4 := Tryz.underlying4
  a4 := Tryz.isAgg4
  z4 := Tryz.sizeOf4
  v4 := Tryz.zeroValue4
  t5 := Tryz.underlying5
  a5 := Tryz.isAgg5
  z5 := Tryz.sizeOf5
  v5 := Tryz.zeroValue5
  t9 := Tryz.underlying9
  a9 := Tryz.isAgg9
  z9 := Tryz.sizeOf9
  v9 := Tryz.zeroValue9
  t20 := Tryz.underlying20
  a20 := Tryz.isAgg20
  z20 := Tryz.sizeOf20
  v20 := Tryz.zeroValue20
  t21 := Tryz.underlying21
  a21 := Tryz.isAgg21
  z21 := Tryz.sizeOf21
  v21 := Tryz.zeroValue21
  t37 := Tryz.underlying22
  a37 := Tryz.isAgg22
  z37 := Tryz.sizeOf22
  v37 := Tryz.zeroValue22
  t46 := Tryz.underlying120
  a46 := Tryz.isAgg120
  z46 := Tryz.sizeOf120
  v46 := Tryz.zeroValue120
  t51 := Tryz.underlying150
  a51 := Tryz.isAgg150
  z51 := Tryz.sizeOf150
  v51 := Tryz.zeroValue150
  t53 := Tryz.underlying86
  a53 := Tryz.isAgg86
  z53 := Tryz.sizeOf86
  v53 := Tryz.zeroValue86
  t75 := Tryz.underlying189
  a75 := Tryz.isAgg189
  z75 := Tryz.sizeOf189
  v75 := Tryz.zeroValue189
  t85 := Tryz.underlying190
  a85 := Tryz.isAgg190
  z85 := Tryz.sizeOf190
  v85 := Tryz.zeroValue190
  t127 := Tryz.underlying228
  a127 := Tryz.isAgg228
  z127 := Tryz.sizeOf228
  v127 := Tryz.zeroValue228
  t143 := Tryz.underlying249
  a143 := Tryz.isAgg249
  z143 := Tryz.sizeOf249
  v143 := Tryz.zeroValue249
  t145 := Tryz.underlying251
  a145 := Tryz.isAgg251
  z145 := Tryz.sizeOf251
  v145 := Tryz.zeroValue251
  t167 := Tryz.underlying222
  a167 := Tryz.isAgg222
  z167 := Tryz.sizeOf222
  v167 := Tryz.zeroValue222
  t168 := Tryz.underlying225
  a168 := Tryz.isAgg225
  z168 := Tryz.sizeOf225
  v168 := Tryz.zeroValue225
  t171 := Tryz.underlying237
  a171 := Tryz.isAgg237
  z171 := Tryz.sizeOf237
  v171 := Tryz.zeroValue237
  t173 := Tryz.underlying239
  a173 := Tryz.isAgg239
  z173 := Tryz.sizeOf239
  v173 := Tryz.zeroValue239
  t175 := Tryz.underlying223
  a175 := Tryz.isAgg223
  z175 := Tryz.sizeOf223
  v175 := Tryz.zeroValue223
  t210 := Tryz.underlying234
  a210 := Tryz.isAgg234
  z210 := Tryz.sizeOf234
  v210 := Tryz.zeroValue234
  t212 := Tryz.underlying253
  a212 := Tryz.isAgg253
  z212 := Tryz.sizeOf253
  v212 := Tryz.zeroValue253
  t213 := Tryz.underlying254
  a213 := Tryz.isAgg254
  z213 := Tryz.sizeOf254
  t232 := Tryz.underlying256
  a232 := Tryz.isAgg256
  z232 := Tryz.sizeOf256
  v232 := Tryz.zeroValue256
  t233 := Tryz.underlying257
  a233 := Tryz.isAgg257
  z233 := Tryz.sizeOf257
  v233 := Tryz.zeroValue257
  g15 := by kernel_rfl
  g16 := by kernel_rfl
  g17 := by kernel_rfl
  g18 := by kernel_rfl
  g19 := by kernel_rfl
  t80 := Tryz.underlying215
  a80 := Tryz.isAgg215
  z80 := Tryz.sizeOf215
  v80 := Tryz.zeroValue215
  i0 := by kernel_rfl
  i2 := by kernel_rfl
  i3 := by kernel_rfl
  i4 := by kernel_rfl
  i5 := by kernel_rfl
  i9 := by kernel_rfl
  i20 := by kernel_rfl
  i21 := by kernel_rfl
  i37 := by kernel_rfl
  i46 := by kernel_rfl
  i51 := by kernel_rfl
  i53 := by kernel_rfl
  i75 := by kernel_rfl
  i80 := by kernel_rfl
  i85 := by kernel_rfl
  i127 := by kernel_rfl
  i143 := by kernel_rfl
  i145 := by kernel_rfl
  i167 := by kernel_rfl
  i168 := by kernel_rfl
  i171 := by kernel_rfl
  i173 := by kernel_rfl
  i175 := by kernel_rfl
  i210 := by kernel_rfl
  i212 := by kernel_rfl
  i232 := by kernel_rfl
  i233 := by kernel_rfl
  m15 := by kernel_rfl
  m16 := by kernel_rfl
  m17 := by kernel_rfl
  m18 := by kernel_rfl
  m19 := by kernel_rfl
  c0 := by kernel_rfl
  c2 := by kernel_rfl
  c3 := by kernel_rfl
  c4 := by kernel_rfl
  c5 := by kernel_rfl
  c9 := by kernel_rfl
  c20 := by kernel_rfl
  c21 := by kernel_rfl
  c37 := by kernel_rfl
  c46 := by kernel_rfl
  c51 := by kernel_rfl
  c53 := by kernel_rfl
  c75 := by kernel_rfl
  c80 := by kernel_rfl
  c85 := by kernel_rfl
  c127 := by kernel_rfl
  c143 := by kernel_rfl
  c145 := by kernel_rfl
  c167 := by kernel_rfl
  c168 := by kernel_rfl
  c171 := by kernel_rfl
  c173 := by kernel_rfl
  c175 := by kernel_rfl
  c210 := by kernel_rfl
  c212 := by kernel_rfl
  c213 := by kernel_rfl
  c232 := by kernel_rfl
  c233 := by kernel_rfl }
open Go.RowKit in
/-- strconv.ParseInt(s, 10, 64), AT EVERY STRING THAT SPELLS AN int64 ('Lib.parseIntB 64 s.data.toList = .ok v'): v, AND NO ERROR. (LAID: no walk: one application.) -/
theorem Tryz.strconv_ParseInt_10_at64_ok (s : ByteArray) (hmax : s.size ≤ 9223372036854775806) (v : Int) (h : Lib.parseIntB 64 s.data.toList = .ok v) (w : World) :
    Calls Tryz.prog 176 #[.string s, .int .i64 10, .int .i64 64] w fun e w' => e = .returned (.tuple #[.int .i64 v, .nilIface]) ∧ (w' = w ∨ ∃ t, w' = Lib.bytesWorld w 5 t) := Any.strconv_ParseInt_10_at64_ok Tryz.laysC174 s hmax v h w
open Go.RowKit in
theorem Tryz.strconv_ParseInt_10_at64_syntax_var (s : ByteArray) (hlim : s.size ≤ 281474976710656) (h : Lib.parseIntB 64 s.data.toList = Lib.NumEnd.syntax) (tp : TypeId) (p : Value) (w : World) (hvar : w.var? Tryz.prog "strconv.ErrSyntax" = some #[.iface tp p]) :
    Calls Tryz.prog 176 #[.string s, .int .i64 10, .int .i64 64] w fun e w' => ∃ N, e = .returned (.tuple #[.int .i64 (0), .iface 225 (.pointer (some ⟨N, 0, none⟩))]) ∧ w.heap.size ≤ N ∧ w'.heap[N]? = some (.cells #[.string ⟨#[80, 97, 114, 115, 101, 73, 110, 116]⟩, .string s, .iface tp p] 234 (0, 0)) ∧ Below w.heap.size w w' := Any.strconv_ParseInt_10_at64_syntax_var Tryz.laysC174 s hlim h tp p w hvar
def Tryz.laysM145_ren : Go.Shelf.Ren := ⟨fun | 145 => 120 | 220 => 154 | 219 => 174 | 217 => 190 | 225 => 191 | 224 => 192 | 267 => 193 | 266 => 214 | 314 => 215 | n => n, fun | 9 => 9 | 4 => 4 | 59 => 132 | 3 => 3 | 5 => 5 | 46 => 120 | 146 => 154 | 51 => 150 | n => n, fun | 1 => 0 | n => n⟩
theorem Tryz.laysM145 : Go.Proofs.LaysM.n145 Tryz.prog Tryz.laysM145_ren := {
  mixed := by kernel_rfl
  f145 := Tryz.func120.trans (congrArg some (by kernel_rfl))
  f217 := Tryz.func190.trans (congrArg some (by kernel_rfl))
  f219 := Tryz.func174.trans (congrArg some (by kernel_rfl))
  f220 := Tryz.func154.trans (congrArg some (by kernel_rfl))
  f224 := Tryz.func192.trans (congrArg some (by kernel_rfl))
  f225 := Tryz.func191.trans (congrArg some (by kernel_rfl))
  f266 := Tryz.func214.trans (congrArg some (by kernel_rfl))
  f267 := Tryz.func193.trans (congrArg some (by kernel_rfl))
  f314 := Tryz.func215.trans (congrArg some (by kernel_rfl))
  t3 := Tryz.underlying3
  a3 := Tryz.isAgg3
  z3 := Tryz.sizeOf3
  v3 := Tryz.zeroValue3
  t4 := Tryz.underlying4
  a4 := Tryz.isAgg4
  z4 := Tryz.sizeOf4
  v4 := Tryz.zeroValue4
  t5 := Tryz.underlying5
  a5 := Tryz.isAgg5
  z5 := Tryz.sizeOf5
  v5 := Tryz.zeroValue5
  t9 := Tryz.underlying9
  a9 := Tryz.isAgg9
  z9 := Tryz.sizeOf9
  v9 := Tryz.zeroValue9
  t46 := Tryz.underlying120
  a46 := Tryz.isAgg120
  z46 := Tryz.sizeOf120
  v46 := Tryz.zeroValue120
  t51 := Tryz.underlying150
  a51 := Tryz.isAgg150
  z51 := Tryz.sizeOf150
  v51 := Tryz.zeroValue150
  t59 := Tryz.underlying132
  a59 := Tryz.isAgg132
  z59 := Tryz.sizeOf132
  v59 := Tryz.zeroValue132
  t146 := Tryz.underlying154
  a146 := Tryz.isAgg154
  z146 := Tryz.sizeOf154
  v146 := Tryz.zeroValue154
  g1 := by kernel_rfl
  i3 := by kernel_rfl
  i4 := by kernel_rfl
  i5 := by kernel_rfl
  i9 := by kernel_rfl
  i46 := by kernel_rfl
  i51 := by kernel_rfl
  i59 := by kernel_rfl
  i146 := by kernel_rfl
  m1 := by kernel_rfl
  s1_3 := fun w h => Go.Proofs.cell_of_shapedOpen_int (zero := #[.int .i64 0]) (t := 3) h (of_decide_eq_true (by kernel_rfl)) (by kernel_rfl) rfl (by kernel_rfl) (by kernel_rfl) Tryz.underlying3 }
open Go.RowKit Go.Lib in
theorem Tryz.strings_Cut_shaped (s sep : ByteArray) (w : World) (h : w.ShapedOpen Tryz.prog) (hs : s.size < 4294967281) :
    Calls Tryz.prog 120 #[.string s, .string sep] w fun e w' => e = .returned (.tuple #[.string ⟨(Lib.cut s.data.toList sep.data.toList).1.toArray⟩, .string ⟨(Lib.cut s.data.toList sep.data.toList).2.1.toArray⟩, .bool (Lib.cut s.data.toList sep.data.toList).2.2]) ∧ ∃ n, w' = w.drewN n := Any.strings_Cut_shaped Tryz.laysM145 s sep w h hs
def Tryz.lays101_ren : Go.Shelf.Ren := ⟨fun | 101 => 175 | 208 => 194 | 206 => 216 | n => n, fun | 9 => 9 | 4 => 4 | 3 => 3 | n => n, fun | n => n⟩
theorem Tryz.lays101 : Go.Proofs.Lays.n101 Tryz.prog Tryz.lays101_ren := {
  mixed := by kernel_rfl
  f101 := Tryz.func175.trans (congrArg some (by kernel_rfl))
  f206 := Tryz.func216.trans (congrArg some (by kernel_rfl))
  f208 := Tryz.func194.trans (congrArg some (by kernel_rfl))
  t3 := Tryz.underlying3
  a3 := Tryz.isAgg3
  z3 := Tryz.sizeOf3
  v3 := Tryz.zeroValue3
  t4 := Tryz.underlying4
  a4 := Tryz.isAgg4
  z4 := Tryz.sizeOf4
  v4 := Tryz.zeroValue4
  t9 := Tryz.underlying9
  a9 := Tryz.isAgg9
  z9 := Tryz.sizeOf9
  v9 := Tryz.zeroValue9 }
open Go.RowKit Go.Lib in
/-- strings.TrimPrefix: "TrimPrefix returns s without the provided leading prefix string. If s doesn't start with prefix, s is returned unchanged.": IT RETURNS 'Lib.trimPrefix s prefix'; the world is as it was. (LAID: no walk: one application.) -/
theorem Tryz.strings_TrimPrefix (s p : ByteArray) (w : World) :
    Calls Tryz.prog 175 #[.string s, .string p] w fun e w' => e = .returned (.string ⟨(Lib.trimPrefix s.data.toList p.data.toList).toArray⟩) ∧ w' = w := Any.strings_TrimPrefix Tryz.lays101 s p w
def Tryz.lays102_ren : Go.Shelf.Ren := ⟨fun | 102 => 123 | 209 => 157 | 207 => 181 | n => n, fun | 9 => 9 | 4 => 4 | 3 => 3 | n => n, fun | n => n⟩
theorem Tryz.lays102 : Go.Proofs.Lays.n102 Tryz.prog Tryz.lays102_ren := {
  mixed := by kernel_rfl
  f102 := Tryz.func123.trans (congrArg some (by kernel_rfl))
  f207 := Tryz.func181.trans (congrArg some (by kernel_rfl))
  f209 := Tryz.func157.trans (congrArg some (by kernel_rfl))
  t3 := Tryz.underlying3
  a3 := Tryz.isAgg3
  z3 := Tryz.sizeOf3
  v3 := Tryz.zeroValue3
  t4 := Tryz.underlying4
  a4 := Tryz.isAgg4
  z4 := Tryz.sizeOf4
  v4 := Tryz.zeroValue4
  t9 := Tryz.underlying9
  a9 := Tryz.isAgg9
  z9 := Tryz.sizeOf9
  v9 := Tryz.zeroValue9 }
open Go.RowKit Go.Lib in
/-- strings.TrimSuffix: "TrimSuffix returns s without the provided trailing suffix string. If s doesn't end with suffix, s is returned unchanged.": IT RETURNS 'Lib.trimSuffix s suffix'; the world is as it was. (LAID: no walk: one application.) -/
theorem Tryz.strings_TrimSuffix (s p : ByteArray) (w : World) (hs : s.size ≤ 9223372036854775807) :
    Calls Tryz.prog 123 #[.string s, .string p] w fun e w' => e = .returned (.string ⟨(Lib.trimSuffix s.data.toList p.data.toList).toArray⟩) ∧ w' = w := Any.strings_TrimSuffix Tryz.lays102 s p w hs
def Tryz.laysM146_ren : Go.Shelf.Ren := ⟨fun | 146 => 122 | 221 => 156 | 268 => 178 | 138 => 179 | 143 => 180 | 195 => 198 | 197 => 199 | 218 => 200 | 219 => 174 | 260 => 223 | 217 => 190 | 225 => 191 | 224 => 192 | 267 => 193 | 266 => 214 | 314 => 215 | n => n, fun | 9 => 9 | 31 => 24 | 3 => 3 | 4 => 4 | 0 => 0 | 105 => 206 | 21 => 21 | 5 => 5 | 46 => 120 | 119 => 241 | 139 => 244 | 138 => 243 | 146 => 154 | 51 => 150 | n => n, fun | 1 => 0 | 3 => 3 | 4 => 4 | n => n⟩
theorem Tryz.laysM146 : Go.Proofs.LaysM.n146 Tryz.prog Tryz.laysM146_ren := {
  mixed := by kernel_rfl
  f138 := Tryz.func179.trans (congrArg some (by kernel_rfl))
  f143 := Tryz.func180.trans (congrArg some (by kernel_rfl))
  f146 := Tryz.func122.trans (congrArg some (by kernel_rfl))
  f195 := Tryz.func198.trans (congrArg some (by kernel_rfl))
  f197 := Tryz.func199.trans (congrArg some (by kernel_rfl))
  f217 := Tryz.func190.trans (congrArg some (by kernel_rfl))
  f218 := Tryz.func200.trans (congrArg some (by kernel_rfl))
  f219 := Tryz.func174.trans (congrArg some (by kernel_rfl))
  f221 := Tryz.func156.trans (congrArg some (by kernel_rfl))
  f224 := Tryz.func192.trans (congrArg some (by kernel_rfl))
  f225 := Tryz.func191.trans (congrArg some (by kernel_rfl))
  f260 := Tryz.func223.trans (congrArg some (by kernel_rfl))
  f266 := Tryz.func214.trans (congrArg some (by kernel_rfl))
  f267 := Tryz.func193.trans (congrArg some (by kernel_rfl))
  f268 := Tryz.func178.trans (congrArg some (by kernel_rfl))
  f314 := Tryz.func215.trans (congrArg some (by kernel_rfl))
  t0 := Tryz.underlying0
  a0 := Tryz.isAgg0
  z0 := Tryz.sizeOf0
  v0 := Tryz.zeroValue0
  t3 := Tryz.underlying3
  a3 := Tryz.isAgg3
  z3 := Tryz.sizeOf3
  v3 := Tryz.zeroValue3
  t4 := Tryz.underlying4
  a4 := Tryz.isAgg4
  z4 := Tryz.sizeOf4
  v4 := Tryz.zeroValue4
  t5 := Tryz.underlying5
  a5 := Tryz.isAgg5
  z5 := Tryz.sizeOf5
  v5 := Tryz.zeroValue5
  t9 := Tryz.underlying9
  a9 := Tryz.isAgg9
  z9 := Tryz.sizeOf9
  v9 := Tryz.zeroValue9
  t21 := Tryz.underlying21
  a21 := Tryz.isAgg21
  z21 := Tryz.sizeOf21
  v21 := Tryz.zeroValue21
  t31 := Tryz.underlying24
  a31 := Tryz.isAgg24
  z31 := Tryz.sizeOf24
  v31 := Tryz.zeroValue24
  t46 := Tryz.underlying120
  a46 := Tryz.isAgg120
  z46 := Tryz.sizeOf120
  v46 := Tryz.zeroValue120
  t51 := Tryz.underlying150
  a51 := Tryz.isAgg150
  z51 := Tryz.sizeOf150
  v51 := Tryz.zeroValue150
  t105 := Tryz.underlying206
  a105 := Tryz.isAgg206
  z105 := Tryz.sizeOf206
  v105 := Tryz.zeroValue206
  t119 := Tryz.underlying241
  a119 := Tryz.isAgg241
  z119 := Tryz.sizeOf241
  t138 := Tryz.underlying243
  a138 := Tryz.isAgg243
  z138 := Tryz.sizeOf243
  v138 := Tryz.zeroValue243
  t139 := Tryz.underlying244
  a139 := Tryz.isAgg244
  z139 := Tryz.sizeOf244
  v139 := Tryz.zeroValue244
  t146 := Tryz.underlying154
  a146 := Tryz.isAgg154
  z146 := Tryz.sizeOf154
  v146 := Tryz.zeroValue154
  g1 := by kernel_rfl
  g3 := by kernel_rfl
  g4 := by kernel_rfl
  i0 := by kernel_rfl
  i3 := by kernel_rfl
  i4 := by kernel_rfl
  i5 := by kernel_rfl
  i9 := by kernel_rfl
  i21 := by kernel_rfl
  i31 := by kernel_rfl
  i46 := by kernel_rfl
  i51 := by kernel_rfl
  i105 := by kernel_rfl
  i138 := by kernel_rfl
  i139 := by kernel_rfl
  i146 := by kernel_rfl
  m1 := by kernel_rfl
  s1_3 := fun w h => Go.Proofs.cell_of_shapedOpen_int (zero := #[.int .i64 0]) (t := 3) h (of_decide_eq_true (by kernel_rfl)) (by kernel_rfl) rfl (by kernel_rfl) (by kernel_rfl) Tryz.underlying3
  m3 := by kernel_rfl
  m4 := by kernel_rfl }
open Go.RowKit Go.Lib in
/-- strings.Split, sep not empty. (LAID: no walk: one application.) -/
theorem Tryz.strings_Split_shaped (s sep : ByteArray) (w : World) (h : w.ShapedOpen Tryz.prog) (hs : s.size < 4294967281) (h1 : 1 ≤ sep.size) :
    Calls Tryz.prog 122 #[.string s, .string sep] w fun e w' =>
      e = .returned (.slice (some ⟨w.heap.size, 0, none⟩) (Lib.countB s sep + 1) (Lib.countB s sep + 1)) ∧ w' = w.alloc (.cells ((Lib.splitB sep 0 (Lib.countB s sep) s).map Value.string).toArray 9) := Any.strings_Split_shaped Tryz.laysM146 s sep w h hs h1
end Go.Proofs

namespace Go.Proofs.YtcdhgabcajehnaaGreatDoor
open Go.ChangeShapes Go.WideShapes Go.ChangeAt Go.RowKit Go.Deep
set_option linter.unusedVariables false

def ArgS (w : World) (lo hi : Nat) (v : Value) (d : List ByteArray) : Prop := ∃ A n c, v = .slice A n c ∧ n ≤ maxLen ∧ (∀ s ∈ d, s.size ≤ maxLen) ∧ SlS w lo hi A n d
def ArgE (w : World) (lo hi : Nat) (v : Value) (d : List Ed) : Prop := ∃ A n c, v = .slice A n c ∧ n ≤ maxLen ∧ SlE w lo hi A n d
section
variable {w w' : World} {lo hi lo' hi' B : Nat} {v : Value}
theorem ArgS.shape {d : List ByteArray} (h : ArgS w lo hi v d) : ∃ A n c, v = .slice A n c := by obtain ⟨A, n, c, h1, _⟩ := h; exact ⟨A, n, c, h1⟩
theorem ArgS.below {d : List ByteArray} (h : ArgS w lo hi v d) (hb : Below B w w') (hB : hi ≤ B ∨ w.heap.size ≤ B) : ArgS w' lo hi v d := by
  obtain ⟨A, n, c, h1, h2, h4, h3⟩ := h
  exact ⟨A, n, c, h1, h2, h4, h3.below hb hB⟩
theorem ArgS.more {d : List ByteArray} (h : ArgS w lo hi v d) (h1 : lo' ≤ lo) (h2 : hi ≤ hi') : ArgS w lo' hi' v d := by
  obtain ⟨A, n, c, q1, q2, q4, q3⟩ := h
  exact ⟨A, n, c, q1, q2, q4, q3.more h1 h2⟩
theorem ArgS.only {d : List ByteArray} (h : ArgS w lo hi v d) (g : Only lo' hi' w w') (hd : hi ≤ lo' ∨ hi' ≤ lo) : ArgS w' lo hi v d := by
  obtain ⟨A, n, c, h1, h2, h4, h3⟩ := h
  exact ⟨A, n, c, h1, h2, h4, h3.only g hd⟩
theorem ArgE.shape {d : List Ed} (h : ArgE w lo hi v d) : ∃ A n c, v = .slice A n c := by obtain ⟨A, n, c, h1, _⟩ := h; exact ⟨A, n, c, h1⟩
theorem ArgE.below {d : List Ed} (h : ArgE w lo hi v d) (hb : Below B w w') (hB : hi ≤ B ∨ w.heap.size ≤ B) : ArgE w' lo hi v d := by
  obtain ⟨A, n, c, h1, h2, h3⟩ := h
  exact ⟨A, n, c, h1, h2, h3.below hb hB⟩
theorem ArgE.more {d : List Ed} (h : ArgE w lo hi v d) (h1 : lo' ≤ lo) (h2 : hi ≤ hi') : ArgE w lo' hi' v d := by
  obtain ⟨A, n, c, q1, q2, q3⟩ := h
  exact ⟨A, n, c, q1, q2, q3.more h1 h2⟩
theorem ArgE.only {d : List Ed} (h : ArgE w lo hi v d) (g : Only lo' hi' w w') (hd : hi ≤ lo' ∨ hi' ≤ lo) : ArgE w' lo hi v d := by
  obtain ⟨A, n, c, h1, h2, h3⟩ := h
  exact ⟨A, n, c, h1, h2, h3.only g hd⟩
end
/-- A system's cells, and what they read as. -/
abbrev CL := Int × Int × Value × Value
def ReadL (w : World) (lo hi : Nat) (x : CL) (d : DL) : Prop := x.1 = d.1 ∧ x.2.1 = d.2.1 ∧ ArgS w lo hi x.2.2.1 d.2.2.1 ∧ ArgE w lo hi x.2.2.2 d.2.2.2
def totL (d : DL) : Nat := totS d.2.2.1 + d.2.2.2.length
theorem totL_lab (d : DL) : d.2.2.1.length ≤ totL d := by unfold totL totS; omega
theorem totL_edg (d : DL) : d.2.2.2.length ≤ totL d := by unfold totL; omega
section
variable {w w' : World} {lo hi lo' hi' B : Nat} {x : CL} {d : DL}
theorem ReadL.below (h : ReadL w lo hi x d) (hb : Below B w w') (hB : hi ≤ B ∨ w.heap.size ≤ B) : ReadL w' lo hi x d := ⟨h.1, h.2.1, h.2.2.1.below hb hB, h.2.2.2.below hb hB⟩
theorem ReadL.more (h : ReadL w lo hi x d) (h1 : lo' ≤ lo) (h2 : hi ≤ hi') : ReadL w lo' hi' x d := ⟨h.1, h.2.1, h.2.2.1.more h1 h2, h.2.2.2.more h1 h2⟩
theorem ReadL.only (h : ReadL w lo hi x d) (g : Only lo' hi' w w') (hd : hi ≤ lo' ∨ hi' ≤ lo) : ReadL w' lo hi x d := ⟨h.1, h.2.1, h.2.2.1.only g hd, h.2.2.2.only g hd⟩
end
instance decEdL : DecidableEq (List Ed) := inferInstance
instance decBaL : DecidableEq (List ByteArray) := inferInstance
instance decDL : DecidableEq DL := inferInstance

end Go.Proofs.YtcdhgabcajehnaaGreatDoor

namespace Go.Proofs.YtcdhgabcajehnaaGreatDoor
open Go.ChangeShapes Go.WideShapes Go.ChangeAt Go.RowKit
set_option linter.unusedVariables false

theorem below_drewN (w : World) (k : Nat) : Below w.heap.size w (w.drewN k) := ⟨rfl, rfl, rfl, Nat.le_refl _, fun _ _ => rfl⟩

theorem within_calls (n lo hi : Int) (w : World) :
    Calls Tryz.prog 61 #[.int .i64 n, .int .i64 lo, .int .i64 hi] w fun e w' => e = .returned (.bool (inB n lo hi)) ∧ w = w' := by
  by_cases h : lo ≤ n
  · have hr := hide (show inB n lo hi = decide (n ≤ hi) from by unfold inB; simp [h])
    go_enter Tryz.func61, Tryz.ntmps61
    go_wp2
    go_ret
    exact ⟨ret_b (by rw [hr.out]), rfl⟩
  · have hr := hide (show inB n lo hi = false from by unfold inB; simp [h])
    go_enter Tryz.func61, Tryz.ntmps61
    go_wp2
    go_ret
    exact ⟨ret_b (by rw [hr.out]), rfl⟩
theorem index_calls (x : Int) (m : Nat) (hm : m ≤ 1048576) (w : World) :
    Calls Tryz.prog 41 #[.int .i64 x, .int .i64 m] w fun e w' => e = .returned (.bool (inB x 0 ((m : Int) - 1))) ∧ w = w' := by
  go_enter Tryz.func41, Tryz.ntmps41
  go_wp2_with (go_at_call 61; refine (within_calls _ _ _ _).mono ?_; rintro e w' ⟨rfl, rfl⟩)
  go_ret
  exact ⟨rfl, rfl⟩

theorem inB_true {n lo hi : Int} : inB n lo hi = true ↔ lo ≤ n ∧ n ≤ hi := by unfold inB; simp
end Go.Proofs.YtcdhgabcajehnaaGreatDoor

namespace Go.Proofs.YtcdhgabcajehnaaGreatDoor
open Go.ChangeShapes Go.WideShapes Go.ChangeAt Go.RowKit
set_option linter.unusedVariables false

def smallB (c : Int) : Bool := decide (97 ≤ c) && decide (c ≤ 122)
def digitB (c : Int) : Bool := decide (48 ≤ c) && decide (c ≤ 57)

theorem isDigit_calls (c : Int) (w : World) : Calls Tryz.prog 201 #[.int .u8 c] w fun e w' => e = .returned (.bool (digitB c)) ∧ w = w' := by
  by_cases h1 : 48 ≤ c <;> by_cases h2 : c ≤ 57
  all_goals
    go_enter Tryz.func201, Tryz.ntmps201
    go_wp2
    go_ret
    exact ⟨by simp [digitB, h1, h2], rfl⟩
/-- Byte k spoils a name. -/
def badX (k : Nat) (x : Int) : Bool := !(smallB x) && (decide (k = 0) || !(digitB x))
def badAt (s : ByteArray) (k : Nat) : Bool := match s.data.toList[k]? with | some c => badX k (c.toNat : Int) | none => false
def nameB (s : ByteArray) : Bool := (List.range s.size).all (fun k => !(badAt s k)) && decide (1 ≤ s.size ∧ s.size ≤ 10)
theorem badAt_get (s : ByteArray) (k : Nat) (h : k < s.size) : badAt s k = badX k (s[k].toNat : Int) := by
  unfold badAt
  have : s.data.toList[k]? = some s[k] := by
    rw [List.getElem?_eq_getElem (by simpa using h)]
    rfl
  rw [this]
theorem nameB_bad {s : ByteArray} {k : Nat} (h : k < s.size) (hb : badX k (s[k].toNat : Int) = true) : nameB s = false := by
  unfold nameB
  rw [Bool.and_eq_false_iff]
  left
  rw [← Bool.not_eq_true, List.all_eq_true]
  intro hc
  have := hc k (List.mem_range.2 h)
  rw [badAt_get s k h, hb] at this
  cases this
theorem nameB_good {s : ByteArray} (h : ∀ j (hj : j < s.size), badX j (s[j].toNat : Int) = false) : nameB s = decide (1 ≤ s.size ∧ s.size ≤ 10) := by
  unfold nameB
  rw [(List.all_eq_true.2 fun k hk => by rw [badAt_get s k (List.mem_range.1 hk), h k (List.mem_range.1 hk)]; rfl), Bool.true_and]

set_option maxHeartbeats 800000 in
set_option maxRecDepth 100000 in
theorem isName_calls (s : ByteArray) (w : World) (hs : s.size ≤ maxLen) : Calls Tryz.prog 182 #[.string s] w fun e w' => e = .returned (.bool (nameB s)) ∧ w = w' := by
  unfold maxLen at hs
  have hs63 : s.size ≤ 9223372036854775807 := by omega
  go_enter Tryz.func182, Tryz.ntmps182
  go_wp2
  go_loop [7] (fun i => ∃ k : Nat, k ≤ s.size ∧ i = .int .i64 k ∧ Hid (∀ j (hj : j < s.size), j < k → badX j (s[j].toNat : Int) = false)) (fun i => s.size - (intOf i).toNat)
  case atStart => exact ⟨0, Nat.zero_le _, rfl, fun j _ h => absurd h (by omega)⟩
  case round =>
    obtain ⟨k, hk, rfl, ha⟩ := hrel
    by_cases hlt : k < s.size
    · have hbad := hide (fun hb => nameB_bad (s := s) hlt hb)
      have hnext : Hid (badX k (s[k].toNat : Int) = false → ∀ j (hj : j < s.size), j < k + 1 → badX j (s[j].toNat : Int) = false) := fun hg j hj hjk => by
        rcases Nat.lt_or_ge j k with h1 | h1
        · exact ha.out j hj h1
        · have : j = k := by omega
          subst this
          exact hg
      have hq := hide (isDigit_calls (s[k].toNat : Int) w)
      generalize hc : (s[k].toNat : Int) = c at *
      have hgetk : ∀ h : k < s.size, (s[k].toNat : Int) = c := fun _ => hc
      by_cases h1 : 97 ≤ c ∧ c ≤ 122
      · have h1a := h1.1
        have h1b := h1.2
        have hg : Hid (badX k c = false) := by show _ = _; simp [badX, smallB, h1a, h1b]
        clear h1
        go_wp2_with fail
        go_round
        case rel => exact ⟨k + 1, by omega, by go_num, hnext.out hg.out⟩
        case measure => simp [intOf]; omega
      · by_cases h1a : 97 ≤ c
        · have h1b : ¬ c ≤ 122 := fun h => h1 ⟨h1a, h⟩
          clear h1
          have hsm : Hid (smallB c = false) := by show _ = _; simp [smallB]; omega
          by_cases hk0 : k = 0
          · have hv := hide (hbad.out (by rw [hk0]; simp [badX, hsm.out]))
            subst hk0
            clear hnext hq
            go_wp2_with fail
            go_ret
            exact ⟨ret_b (by rw [hv.out]), rfl⟩
          · have hki : ((k : Int) == 0) = false := by rw [beq_eq_false_iff_ne]; omega
            by_cases hd : digitB c = true
            · have hqq := hq.out
              rw [hd] at hqq
              replace hqq := hide hqq
              have hg : Hid (badX k c = false) := by show _ = _; simp [badX, hsm.out, hk0, hd]
              clear hd hq hk0
              go_wp2_with (go_at_call 201; (with_reducible refine hqq.out.mono ?_); rintro e w1 ⟨rfl, rfl⟩)
              go_round
              case rel => exact ⟨k + 1, by omega, by go_num, hnext.out hg.out⟩
              case measure => simp [intOf]; omega
            · have hqq := hq.out
              replace hd := Bool.eq_false_iff.2 hd
              rw [hd] at hqq
              replace hqq := hide hqq
              have hv := hide (hbad.out (by simp [badX, hsm.out, hd]))
              clear hd hq hk0 hnext
              go_wp2_with (go_at_call 201; (with_reducible refine hqq.out.mono ?_); rintro e w1 ⟨rfl, rfl⟩)
              go_ret
              exact ⟨ret_b (by rw [hv.out]), rfl⟩
        · clear h1
          have hsm : Hid (smallB c = false) := by show _ = _; simp [smallB]; omega
          by_cases hk0 : k = 0
          · have hv := hide (hbad.out (by rw [hk0]; simp [badX, hsm.out]))
            subst hk0
            clear hnext hq
            go_wp2_with fail
            go_ret
            exact ⟨ret_b (by rw [hv.out]), rfl⟩
          · have hki : ((k : Int) == 0) = false := by rw [beq_eq_false_iff_ne]; omega
            by_cases hd : digitB c = true
            · have hqq := hq.out
              rw [hd] at hqq
              replace hqq := hide hqq
              have hg : Hid (badX k c = false) := by show _ = _; simp [badX, hsm.out, hk0, hd]
              clear hd hq hk0
              go_wp2_with (go_at_call 201; (with_reducible refine hqq.out.mono ?_); rintro e w1 ⟨rfl, rfl⟩)
              go_round
              case rel => exact ⟨k + 1, by omega, by go_num, hnext.out hg.out⟩
              case measure => simp [intOf]; omega
            · have hqq := hq.out
              replace hd := Bool.eq_false_iff.2 hd
              rw [hd] at hqq
              replace hqq := hide hqq
              have hv := hide (hbad.out (by simp [badX, hsm.out, hd]))
              clear hd hq hk0 hnext
              go_wp2_with (go_at_call 201; (with_reducible refine hqq.out.mono ?_); rintro e w1 ⟨rfl, rfl⟩)
              go_ret
              exact ⟨ret_b (by rw [hv.out]), rfl⟩
    · have hkn : k = s.size := by omega
      have hv := hide (nameB_good (s := s) (fun j hj => ha.out j hj (by omega)))
      by_cases z1 : 1 ≤ s.size
      · by_cases z2 : s.size ≤ 10
        · have hvv : Hid (nameB s = true) := by show _ = _; rw [hv.out]; simp [z1, z2]
          have z1i : (1 : Int) ≤ (s.size : Int) := by omega
          have z2i : (s.size : Int) ≤ 10 := by omega
          clear hv ha
          go_wp2_with fail
          go_ret
          exact ⟨ret_b (by rw [hvv.out]), rfl⟩
        · have hvv : Hid (nameB s = false) := by show _ = _; rw [hv.out]; simp [z2]
          have z1i : (1 : Int) ≤ (s.size : Int) := by omega
          have z2i : ¬ (s.size : Int) ≤ 10 := by omega
          clear hv ha
          go_wp2_with fail
          go_ret
          exact ⟨ret_b (by rw [hvv.out]), rfl⟩
      · have hvv : Hid (nameB s = false) := by show _ = _; rw [hv.out]; simp; omega
        have z1i : ¬ (1 : Int) ≤ (s.size : Int) := by omega
        clear hv ha
        go_wp2_with fail
        go_ret
        exact ⟨ret_b (by rw [hvv.out]), rfl⟩

end Go.Proofs.YtcdhgabcajehnaaGreatDoor

namespace Go.Proofs.YtcdhgabcajehnaaGreatDoor
open Go.ChangeShapes Go.WideShapes Go.ChangeAt Go.RowKit
set_option linter.unusedVariables false

structure Good (w : World) : Prop where
  shape : w.ShapedOpen Tryz.prog
  tab : Lib.TabIs Tryz.prog w "internal/strconv.uint64pow10" .u64 Lib.pow10Tab
  syn : ∃ tp p, w.var? Tryz.prog "strconv.ErrSyntax" = some #[.iface tp p]
def Env (w : World) : Prop := ∃ W0, Good W0 ∧ Below W0.heap.size W0 w
theorem Env.of {w : World} (h : Good w) : Env w := ⟨w, h, Below.refl _ _⟩
theorem Env.below {w w' : World} {B : Nat} (h : Env w) (hb : Below B w w') (hB : w.heap.size ≤ B) : Env w' := by
  obtain ⟨W0, h0, h1⟩ := h
  have hs := h1.size
  exact ⟨W0, h0, h1.trans (hb.mono (by omega))⟩
theorem var_lt {W : World} {n : String} {cs : Array Value} {g : Nat} (hg : Tryz.prog.globalNamed n = some g) (hv : W.var? Tryz.prog n = some cs) : g < W.heap.size := by
  unfold World.var? at hv
  rw [hg] at hv
  rcases Nat.lt_or_ge g W.heap.size with h | h
  · exact h
  · simp [Array.getElem?_eq_none h] at hv
set_option maxRecDepth 100000 in
theorem Env.good {w : World} (h : Env w) : Good w := by
  obtain ⟨W0, h0, h1⟩ := h
  have hblk : ∀ {k : Nat} {o : Obj}, W0.heap[k]? = some o → w.heap[k]? = some o := fun {k o} hk => (h1.block k (Array.getElem?_eq_some_iff.1 hk).1).trans hk
  obtain ⟨g1, e1⟩ : ∃ g, Tryz.prog.globalNamed "internal/strconv.uint64pow10" = some g := Option.isSome_iff_exists.1 (by kernel_rfl)
  obtain ⟨g2, e2⟩ : ∃ g, Tryz.prog.globalNamed "strconv.ErrSyntax" = some g := Option.isSome_iff_exists.1 (by kernel_rfl)
  refine ⟨⟨fun g zero t hg hr => ?_, fun k hk1 hk2 => ?_⟩, ?_, ?_⟩
  · obtain ⟨cs, a, b, c⟩ := h0.shape.1 g zero t hg hr
    exact ⟨cs, hblk a, b, fun hb => Row.ok_of_shape (fun bb x hx => by
      unfold World.shape? at hx ⊢
      rcases Nat.lt_or_ge bb W0.heap.size with h | h
      · rw [h1.block bb h]; exact hx
      · simp [Array.getElem?_eq_none h] at hx) (c hb)⟩
  · obtain ⟨o, o2, a, b⟩ := h0.shape.2 k hk1 hk2
    exact ⟨o, o2, hblk a, b⟩
  · exact var?_below h1 e1 (var_lt e1 h0.tab) h0.tab
  · obtain ⟨tp, p, hv⟩ := h0.syn
    exact ⟨tp, p, var?_below h1 e2 (var_lt e2 hv) hv⟩

set_option maxRecDepth 100000 in
theorem decimal_calls (n : Int) (h0 : -9223372036854775808 ≤ n) (h1 : n ≤ 9223372036854775807) (w : World) (he : Env w) :
    Calls Tryz.prog 177 #[.int .i64 n] w fun e w' => e = .returned (.string ⟨(Lib.itoa n).toArray⟩) ∧ Below w.heap.size w w' := by
  have q := hide (Tryz.strconv_FormatInt_10 n h0 h1 w he.good.tab)
  clear he
  go_enter Tryz.func177, Tryz.ntmps177
  go_wp2_with fail
  refine q.out.mono ?_
  rintro e w1 ⟨rfl, k, os, rfl⟩
  go_wp2_with fail
  go_ret
  exact ⟨rfl, Lib.below_grow _ _ (Nat.le_refl _) _ _⟩

theorem parse_short (l : List UInt8) (h : ¬ 18 < (Lib.trimPrefix l [45]).length) :
    (∃ v : Int, Lib.parseIntB 64 l = .ok v ∧ -9223372036854775808 ≤ v ∧ v ≤ 9223372036854775807) ∨ Lib.parseIntB 64 l = Lib.NumEnd.syntax := by
  cases l with
  | nil => exact .inr rfl
  | cons c r =>
    have key : ∀ t : List UInt8, t.length ≤ 18 → Lib.parseUintB 64 t = Lib.NumEnd.syntax ∨ ∃ u, Lib.parseUintB 64 t = .ok u ∧ u < 10 ^ 18 := by
      intro t ht
      rw [parseUintB_short t ht]
      by_cases hd : t ≠ [] ∧ t.all isDig = true
      · rw [if_pos hd]
        exact .inr ⟨_, rfl, valN_18 ht hd.2⟩
      · rw [if_neg hd]
        exact .inl rfl
    have h18 : (10 : Nat) ^ 18 = 1000000000000000000 := by decide
    have h63 : (2 : Nat) ^ (64 - 1) = 9223372036854775808 := by decide
    rw [h18] at key
    unfold Lib.parseIntB
    by_cases hs : c.toNat = 43 ∨ c.toNat = 45
    · have hlen : r.length ≤ 18 := by
        by_cases hc : c = 45
        · subst hc
          have : Lib.trimPrefix (45 :: r) [45] = r := by unfold Lib.trimPrefix Lib.hasPrefix; simp
          rw [this] at h
          omega
        · have : Lib.trimPrefix (c :: r) [45] = c :: r := by
            unfold Lib.trimPrefix Lib.hasPrefix
            rw [if_neg]
            simp
            exact fun h => hc h.symm
          rw [this] at h
          simp only [List.length_cons] at h
          omega
      simp only [if_pos hs]
      rcases key _ hlen with h1 | ⟨u, h1, h2⟩
      · right
        rw [h1]
      · left
        rw [h1]
        simp only [h63]
        rw [if_neg (by omega), if_neg (by omega)]
        by_cases hn : c.toNat = 45
        · simp only [hn, if_true]
          exact ⟨_, rfl, by omega, by omega⟩
        · simp only [hn, if_false]
          exact ⟨_, rfl, by omega, by omega⟩
    · have hlen : (c :: r).length ≤ 18 := by
        have : Lib.trimPrefix (c :: r) [45] = c :: r := by
          unfold Lib.trimPrefix Lib.hasPrefix
          rw [if_neg]
          simp
          rintro rfl
          exact hs (Or.inr rfl)
        rw [this] at h
        omega
      simp only [if_neg hs]
      rcases key _ hlen with h1 | ⟨u, h1, h2⟩
      · right
        rw [h1]
      · left
        rw [h1]
        simp only [h63]
        rw [if_neg (by omega), if_neg (by omega)]
        have hn : ¬ c.toNat = 45 := fun e => hs (Or.inr e)
        simp only [hn, if_false]
        exact ⟨_, rfl, by omega, by omega⟩

/-- A number's reading as the two results. -/
def numR (o : Option Int) : Value := .tuple #[.int .i64 (o.getD 0), .bool o.isSome]
theorem numP_long {l : List UInt8} (h : 18 < (Lib.trimPrefix l [45]).length) : numP l = none := by unfold numP; rw [if_pos h]
theorem numP_syn {l : List UInt8} (h : Lib.parseIntB 64 l = Lib.NumEnd.syntax) : numP l = none := by unfold numP; rw [h]; split <;> rfl
theorem numP_ok {l : List UInt8} {v : Int} (hl : ¬ 18 < (Lib.trimPrefix l [45]).length) (h : Lib.parseIntB 64 l = .ok v) : numP l = if Lib.itoa v = l then some v else none := by unfold numP; rw [if_neg hl, h]
theorem bytes_eta (s : ByteArray) : (⟨s.data.toList.toArray⟩ : ByteArray) = s := by cases s; simp
theorem bytes_size (l : List UInt8) : (⟨l.toArray⟩ : ByteArray).size = l.length := by simp [ByteArray.size]

end Go.Proofs.YtcdhgabcajehnaaGreatDoor

namespace Go.Proofs.YtcdhgabcajehnaaGreatDoor
open Go.ChangeShapes Go.WideShapes Go.ChangeAt Go.RowKit
set_option linter.unusedVariables false

theorem bsize (s : ByteArray) : s.data.toList.length = s.size := by rw [Array.length_toList]; rfl
def mkB (l : List UInt8) : ByteArray := ⟨l.toArray⟩
theorem mkB_data (l : List UInt8) : (mkB l).data.toList = l := rfl
theorem mkB_size (l : List UInt8) : (mkB l).size = l.length := bytes_size l
theorem flat_strv : Flat strv 1 := ⟨fun _ => rfl, fun x u h => by simp [strv] at h; subst h; rfl⟩
theorem elem_str : Elem Tryz.prog 24 9 1 16 := Elem.of Tryz.underlying24 info_string rfl (by decide) (by decide)

theorem splitC_len (c : UInt8) : ∀ l : List UInt8, (splitC c l).length ≤ l.length + 1
  | [] => by simp [splitC]
  | x :: l => by
    have ih := splitC_len c l
    by_cases hx : x = c
    · subst hx
      rw [splitC_ceq]
      simp only [List.length_cons]
      omega
    · rw [splitC_cne hx]
      simp only [List.length_cons, List.length_tail]
      omega

end Go.Proofs.YtcdhgabcajehnaaGreatDoor

namespace Go.Proofs.YtcdhgabcajehnaaGreatDoor
open Go.ChangeShapes Go.WideShapes Go.ChangeAt Go.RowKit
set_option linter.unusedVariables false

def nameL (l : List UInt8) : Bool := nameB (mkB l)
/-- Labels, by the reference. -/
def labS (s : ByteArray) : Bool := (valsS nameL s.data.toList).isSome
theorem nameL_data (s : ByteArray) : nameL s.data.toList = nameB s := by unfold nameL mkB; rw [bytes_eta]
def actB (s : ByteArray) : Bool := nameB s && !(decide (s = tauB))
theorem tau_list : tauB.toList = [116, 97, 117] := ByteArray.toList_mk _
theorem tau_ne {s : ByteArray} (h : s ≠ tauB) : (s.toList == [116, 97, 117]) = false := by rw [← tau_list]; exact str_neq h

theorem numsOf_none {f : List UInt8 → Option Int} : ∀ {l : List (List UInt8)} {k : Nat} {x : List UInt8}, l[k]? = some x → f x = none → numsOf f l = none
  | [], k, x, h, _ => by simp at h
  | y :: l, 0, x, h, hf => by
    simp at h
    subst h
    unfold numsOf
    rw [hf]
  | y :: l, k + 1, x, h, hf => by
    unfold numsOf
    rw [numsOf_none (l := l) (k := k) (by simpa using h) hf]
    split
    · rename_i h1; cases h1
    · rfl
theorem splitC_mem_len (c : UInt8) : ∀ (l x : List UInt8), x ∈ splitC c l → x.length ≤ l.length
  | [], x, h => by simp [splitC] at h; subst h; simp
  | y :: l, x, h => by
    have ih := splitC_mem_len c l
    by_cases hy : y = c
    · subst hy
      rw [splitC_ceq, List.mem_cons] at h
      rcases h with rfl | h
      · simp
      · have := ih x h
        simp only [List.length_cons]
        omega
    · rw [splitC_cne hy, List.mem_cons] at h
      obtain ⟨p, ps, hp⟩ := List.exists_cons_of_ne_nil (splitC_ne c l)
      rw [hp] at h ih
      simp only [List.headD_cons, List.tail_cons] at h
      rcases h with rfl | h
      · have := ih p (by simp)
        simp only [List.length_cons]
        omega
      · have := ih x (List.mem_cons_of_mem _ h)
        simp only [List.length_cons]
        omega
theorem elem_int : Elem Tryz.prog 31 2 1 8 := Elem.of Tryz.underlying31 info_int64 rfl (by decide) (by decide)

theorem labS_miss {s : ByteArray} (hn : (40 : UInt8) ∉ s.data.toList) : labS s = nameB s := by
  unfold labS valsS
  rw [if_pos hn, nameL_data]
  cases nameB s <;> rfl
end Go.Proofs.YtcdhgabcajehnaaGreatDoor

namespace Go.Proofs.YtcdhgabcajehnaaGreatDoor
open Go.ChangeShapes Go.WideShapes Go.ChangeAt Go.RowKit
set_option linter.unusedVariables false

/-- What a predicate's call leaves. -/
def Says (b : Bool) (W : World) (e : Ending) (W' : World) : Prop := e = .returned (.bool b) ∧ Below W.heap.size W W'

theorem any_take_succ {α : Type} {G : α → Bool} {l : List α} {k : Nat} {x : α} (h : (l.take k).any G = false) (hx : l[k]? = some x) (hg : G x = false) : (l.take (k + 1)).any G = false := by
  rw [List.take_add_one, hx, List.any_append, h]
  simp [hg]
theorem any_hit {α : Type} {G : α → Bool} {l : List α} {k : Nat} {x : α} (hx : l[k]? = some x) (hg : G x = true) : l.any G = true :=
  List.any_eq_true.2 ⟨x, List.mem_of_getElem? hx, hg⟩

set_option maxRecDepth 100000 in
theorem indexFuncI_calls (F : FuncId) (caps : Array Value) (G : Int → Bool) (A : Option Addr) (n c : Nat) (l : List Int) (w : World) (lo hi : Nat) (h : SlI w lo hi A n l) (hn : n ≤ 1048576)
    (hF : ∀ (v : Value) (W : World), Sem.run Tryz.prog (callFunc F (#[v] ++ caps)) W = .ok (.enter F (#[v] ++ caps)) W)
    (hcl : ∀ (v : Int) (W : World), Below w.heap.size w W → Calls Tryz.prog F (#[.int .i64 v] ++ caps) W (Says (G v) W)) :
    Calls Tryz.prog 78 #[.slice A n c, .func (.func F) #[] caps] w fun e w' => ∃ i : Int, e = .returned (.int .i64 i) ∧ decide (0 ≤ i) = l.any G ∧ Below w.heap.size w w' := by
  have hlen := hide h.len
  replace hcl := hide hcl
  go_enter Tryz.func78, Tryz.ntmps78
  go_wp2
  go_loopw [8] (fun i wr => ∃ k : Nat, k ≤ n ∧ i = .int .i64 k ∧ Below w.heap.size w wr ∧ Hid ((l.take k).any G = false)) (fun i _ => n - (intOf i).toNat)
  case atStart => exact ⟨0, Nat.zero_le _, rfl, Below.refl _ _, rfl⟩
  case round =>
    obtain ⟨k, hk, rfl, hb, ha⟩ := hrel
    by_cases hlt : k < n
    · obtain ⟨b, off, x, rfl, g1, g2, g3, hx, c0, -⟩ := h.get hlt
      replace c0 := (hb.cell (p := ⟨b, off + k, none⟩) g3).trans c0
      have hc := hcl.out x wr hb
      replace hx := hide hx
      clear h hcl
      by_cases hg : G x = true
      · rw [hg] at hc
        replace hc := hide hc
        have hy := hide (any_hit hx.out hg)
        clear hg
        go_wp2_with fail
        refine hc.out.mono ?_
        rintro e w1 ⟨rfl, hb1⟩
        go_wp2_with fail
        go_ret
        exact ⟨_, rfl, by rw [hy.out]; simp, hb.trans (hb1.mono hb.size)⟩
      · replace hg := Bool.eq_false_iff.2 hg
        rw [hg] at hc
        replace hc := hide hc
        have hy := hide (any_take_succ ha.out hx.out hg)
        clear hg
        go_wp2_with fail
        refine hc.out.mono ?_
        rintro e w1 ⟨rfl, hb1⟩
        go_wp2_with fail
        go_roundw
        case rel => exact ⟨k + 1, by omega, by go_num, hb.trans (hb1.mono hb.size), hy⟩
        case measure => simp [intOf]; omega
    · have hkn : k = n := by omega
      subst hkn
      clear hcl
      go_wp2
      go_ret
      have hy := ha.out
      rw [List.take_of_length_le (by rw [hlen.out]; exact Nat.le_refl _)] at hy
      exact ⟨_, rfl, by rw [hy]; decide, hb⟩

theorem containsFuncI_calls (F : FuncId) (caps : Array Value) (G : Int → Bool) (A : Option Addr) (n c : Nat) (l : List Int) (w : World) (lo hi : Nat) (h : SlI w lo hi A n l) (hn : n ≤ 1048576)
    (hF : ∀ (v : Value) (W : World), Sem.run Tryz.prog (callFunc F (#[v] ++ caps)) W = .ok (.enter F (#[v] ++ caps)) W)
    (hcl : ∀ (v : Int) (W : World), Below w.heap.size w W → Calls Tryz.prog F (#[.int .i64 v] ++ caps) W (Says (G v) W)) :
    Calls Tryz.prog 39 #[.slice A n c, .func (.func F) #[] caps] w (Says (l.any G) w) := by
  have q := hide (indexFuncI_calls F caps G A n c l w lo hi h hn hF hcl)
  clear h hF hcl
  go_enter Tryz.func39, Tryz.ntmps39
  go_wp2_with fail
  refine q.out.mono ?_
  rintro e w1 ⟨i, rfl, hi, hb⟩
  replace hi := hide hi
  go_wp2_with fail
  go_ret
  exact ⟨ret_b hi.out.symm, hb⟩

end Go.Proofs.YtcdhgabcajehnaaGreatDoor

namespace Go.Proofs.YtcdhgabcajehnaaGreatDoor
open Go.ChangeShapes Go.WideShapes Go.ChangeAt Go.RowKit
set_option linter.unusedVariables false
set_option linter.unusedSimpArgs false

/-- A set of vertices as a list of answers. -/
def inS (s : List Bool) (v : Nat) : Bool := s[v]?.getD false
theorem inS_get {s : List Bool} {v : Nat} (h : v < s.length) : s[v]? = some (inS s v) := by unfold inS; rw [List.getElem?_eq_getElem h]; rfl
/-- The set of those below n that are as asked. -/
def setOf (n : Nat) (p : Nat → Bool) : List Bool := (List.range n).map p
theorem setOf_len (n : Nat) (p : Nat → Bool) : (setOf n p).length = n := by simp [setOf]
theorem setOf_get {n : Nat} {p : Nat → Bool} {v : Nat} (h : v < n) : (setOf n p)[v]? = some (p v) := by simp [setOf, h]
/-- A bool. -/
def bv (b : Bool) : List Value := [.bool b]
abbrev SlB := Sl 1 bv
theorem elem_int64 : Elem Tryz.prog 31 2 1 8 := Elem.of Tryz.underlying31 info_int64 rfl (by omega) (by omega)

section
variable {w w' : World} {lo hi n : Nat} {A : Option Addr}
theorem SlB.get {l : List Bool} (h : SlB w lo hi A n l) {k : Nat} (hk : k < n) :
    ∃ b off, A = some ⟨b, off, none⟩ ∧ lo ≤ b ∧ b < hi ∧ b < w.heap.size ∧ l[k]? = some (inS l k) ∧ w.cell? ⟨b, off + k, none⟩ = some (.bool (inS l k)) ∧ w.frozen? ⟨b, off + k, none⟩ = false := by
  obtain ⟨b, off, e, g1, g2, g3, hc⟩ := h.at_ (by omega)
  have hl : k < l.length := by rw [h.len]; exact hk
  have h0 := hc k (inS l k) (inS_get hl) 0 _ rfl
  simp only [Nat.mul_one, Nat.add_zero] at h0
  exact ⟨b, off, e, g1, g2, g3, inS_get hl, h0.1, h0.2⟩
theorem SlB.put {b off : Nat} {l : List Bool} (h : SlB w lo hi (some ⟨b, off, none⟩) n l) {k : Nat} (hk : k < n) (x : Bool) : SlB (w.setCell ⟨b, off + k, none⟩ (.bool x)) lo hi (some ⟨b, off, none⟩) n (l.set k x) := by
  have := h.putN hk (fun _ => rfl) x
  simpa [putCells, bv] using this
theorem SlI.put' {b off : Nat} {l : List Int} (h : SlI w lo hi (some ⟨b, off, none⟩) n l) {k : Nat} (hk : k < n) (x : Int) : SlI (w.setCell ⟨b, off + k, none⟩ (.int .i64 x)) lo hi (some ⟨b, off, none⟩) n (l.set k x) := h.put hk x
end

/-- Made by make([]bool, n). -/
theorem SlB.made (w : World) (n : Nat) : SlB (w.alloc (.cells (madeCells #[.bool false] n) 4)) w.heap.size (w.heap.size + 1) (some ⟨w.heap.size, 0, none⟩) n (setOf n fun _ => false) := by
  refine ⟨setOf_len _ _, fun hn => ⟨w.heap.size, 0, rfl, Nat.le_refl _, by omega, by simp, fun k x hx j u hu => ?_⟩⟩
  have hk : k < n := by
    have := (List.getElem?_eq_some_iff.1 hx).1
    rwa [setOf_len] at this
  rw [setOf_get hk] at hx
  cases hx
  have hj : j = 0 := by
    have := (List.getElem?_eq_some_iff.1 hu).1
    simp [bv] at this
    exact this
  subst hj
  simp [bv] at hu
  subst hu
  have hg := heap_alloc_new w (.cells (madeCells #[.bool false] n) 4)
  refine ⟨(cell_of_row _ _ _ _ _ (0, 0) hg).trans ?_, frozen_of_row _ _ _ _ _ hg⟩
  simp [madeCells, Value.cells, hk, Nat.mod_one]

/-- A list of which the first k places are filled. -/
def intK (n k : Nat) (p : Nat → Int) : List Int := (List.range n).map fun v => if v < k then p v else 0
theorem intK_len (n k : Nat) (p : Nat → Int) : (intK n k p).length = n := by simp [intK]
theorem run_make_int (n : Nat) (hn : n ≤ 1048576) (W : World) : (Instr.makeSlice 31 (.int .i64 (n : Int)) (.int .i64 (n : Int))).run Tryz.prog W = .ok (.slice (some ⟨W.heap.size, 0, none⟩) n n) (W.alloc (.cells (madeCells #[.int .i64 0] n) 2)) := by
  obtain ⟨i0, hi0, hz0, hz1, hz2⟩ := info_parts info_int64
  have h := make_row (P := Tryz.prog) 31 2 i0 _ _ n Tryz.underlying31 hi0 hz0 hz1 (by rw [hz2]; omega) (by omega) W
  rw [Nat.mul_one] at h
  exact h
theorem SlI.made (w : World) (n : Nat) (p : Nat → Int) : SlI (w.alloc (.cells (madeCells #[.int .i64 0] n) 2)) w.heap.size (w.heap.size + 1) (some ⟨w.heap.size, 0, none⟩) n (intK n 0 p) := by
  refine ⟨intK_len _ _ _, fun hn => ⟨w.heap.size, 0, rfl, Nat.le_refl _, by omega, by simp, fun k x hx j u hu => ?_⟩⟩
  have hk : k < n := by
    have := (List.getElem?_eq_some_iff.1 hx).1
    rwa [intK_len] at this
  have hx0 : x = 0 := by
    simp only [intK, List.getElem?_map, List.getElem?_range hk, Option.map_some] at hx
    simp at hx
    exact hx.symm
  subst hx0
  have hj : j = 0 := by
    have := (List.getElem?_eq_some_iff.1 hu).1
    simp [iv] at this
    exact this
  subst hj
  simp [iv] at hu
  subst hu
  have hg := heap_alloc_new w (.cells (madeCells #[.int .i64 0] n) 2)
  refine ⟨(cell_of_row _ _ _ _ _ (0, 0) hg).trans ?_, frozen_of_row _ _ _ _ _ hg⟩
  simp [madeCells, hk, Nat.mod_one]

end Go.Proofs.YtcdhgabcajehnaaGreatDoor

namespace Go.Proofs.YtcdhgabcajehnaaGreatDoor
open Go.ChangeShapes Go.WideShapes Go.ChangeAt Go.RowKit
set_option linter.unusedVariables false
set_option linter.unusedSimpArgs false

set_option maxHeartbeats 800000 in
theorem mul64_one (n : Nat) (hn : n ≤ 1048576) (w : World) : Calls Tryz.prog 139 #[.int .u64 1, .int .u64 n] w fun e w' => e = .returned (.tuple #[.int .u64 0, .int .u64 n]) ∧ w = w' := by
  have m1 : bits .and .u64 (1 : Int) 4294967295 = 1 := bits_and_u64_nat 1 4294967295 (by omega) (by omega)
  have m2 : bits .and .u64 (n : Int) 4294967295 = n := by
    have h := bits_and_u64_nat n 4294967295 (by omega) (by omega)
    have e : n &&& 4294967295 = n := by
      rw [Nat.and_two_pow_sub_one_eq_mod n 32]
      omega
    rw [e] at h
    exact h
  have d1 : (n : Int) / 4294967296 = 0 := by omega
  have m0 : bits .and .u64 (0 : Int) 4294967295 = 0 := bits_and_u64_nat 0 4294967295 (by omega) (by omega)
  go_enter Tryz.func139, Tryz.ntmps139
  go_wp2
  go_ret2
  exact ⟨by simp [m1, m2, d1, m0], rfl⟩

theorem mul_one' (n : Nat) (hn : n ≤ 1048576) (w : World) : Calls Tryz.prog 110 #[.int .u64 1, .int .u64 n] w fun e w' => e = .returned (.tuple #[.int .u64 0, .int .u64 n]) ∧ w = w' := by
  have q := hide (mul64_one n hn w)
  go_enter Tryz.func110, Tryz.ntmps110
  go_wp2_with (go_at_call 139; refine q.out.mono ?_; rintro e w' ⟨rfl, rfl⟩)
  go_ret2
  exact ⟨rfl, rfl⟩

/-- A row of which the first m cells hold v, the others z. -/
def rowR (v z : Value) (m n : Nat) : List Value := List.replicate m v ++ List.replicate (n - m) z
theorem rowR_len (v z : Value) {m n : Nat} (h : m ≤ n) : (rowR v z m n).length = n := by unfold rowR; simp; omega
theorem rowR_get (v z : Value) {m n j : Nat} (h : j < m) : (rowR v z m n)[j]? = some v := by
  unfold rowR
  rw [List.getElem?_append_left (by simpa using h)]
  simp [h]
theorem rowR_splice (v z : Value) {m k n : Nat} (h : m + k ≤ n) : splice (rowR v z m n) m (List.replicate k v) = rowR v z (m + k) n := by
  unfold splice rowR
  rw [List.take_left' (by simp), List.drop_append, List.length_replicate, List.drop_replicate, List.drop_replicate, List.length_replicate]
  have e1 : m - (m + k) = 0 := by omega
  have e2 : n - m - (m + k - m) = n - (m + k) := by omega
  rw [e1, e2, List.replicate_zero, List.nil_append, ← List.append_assoc, List.replicate_append_replicate]

set_option maxHeartbeats 1600000 in
set_option maxRecDepth 100000 in
theorem repeatI_calls (A : Option Addr) (c : Nat) (b : Int) (n : Nat) (w : World) (lo hi : Nat) (h : SlI w lo hi A 1 [b]) (hn0 : 0 < n) (hn : n ≤ 1048576) :
    Calls Tryz.prog 74 #[.slice A 1 c, .int .i64 n] w fun e w' => ∃ A', e = .returned (.slice A' n n) ∧ SlI w' w.heap.size w'.heap.size A' n (List.replicate n b) ∧ Below w.heap.size w w' := by
  have hmk := run_make_int n hn
  obtain ⟨b1, o1, rfl, g1, g2, g3, hc⟩ := h.at_ (by omega)
  have c0 := (hc 0 b rfl 0 _ rfl).1
  simp only [Nat.zero_mul, Nat.add_zero] at c0
  have hsz : (Tryz.prog.info? 2).map (·.size) = some 1 := by kernel_rfl
  have hb0 : Below w.heap.size w (w.alloc (.cells (madeCells #[.int .i64 0] n) 2)) := (Below.refl _ _).alloc (Nat.le_refl _) _
  have c1 := (hb0.cell (p := ⟨b1, o1, none⟩) g3).trans c0
  have hrow : (w.alloc (.cells (madeCells #[.int .i64 0] n) 2)).heap[w.heap.size]? = some (.cells (rowR (.int .i64 b) (.int .i64 0) 0 n).toArray 2 (0, 0)) := by
    rw [heap_alloc_new]
    congr 2
    apply Array.ext'
    rw [toList_madeCells_one]
    simp [rowR]
  replace hrow := hide hrow
  replace hb0 := hide hb0
  replace c1 := hide c1
  replace hsz := hide hsz
  have hE := hide elem_int64
  clear hc h
  go_enter Tryz.func74, Tryz.ntmps74
  go_wp2_with (first | (go_at_call 110; (with_reducible refine (mul_one' n hn _).mono ?_); rintro e w' ⟨rfl, rfl⟩) | (with_reducible refine wpList_copy_splice rfl (.tmp 31) (.tmp 32) 31 31 rfl 2 Tryz.underlying31 hsz.out (some ⟨w.heap.size, 0, none⟩) (some ⟨b1, o1, none⟩) n n 1 c rfl rfl w.heap.size 0 (rowR (.int .i64 b) (.int .i64 0) 0 n) 2 hrow.out [.int .i64 b] ?k1 (fun _ => ⟨rfl, ⟨b1, o1, none⟩, rfl, ?k2⟩) ?k3 ?k4 w.heap.size w hb0.out (Nat.le_refl _) ?_))
  case k1 => show 1 = min 1 n; omega
  case k2 =>
    intro j v hj
    match j, hj with
    | 0, hj => simp at hj; subst hj; simpa [Addr.add] using c1.out
  case k3 => rw [rowR_len _ _ (Nat.zero_le _)]; simp; omega
  case k4 => intro v hv; simp at hv; subst hv; rfl
  rintro w1 hr1 hb1
  have hr1' : Hid (w1.heap[w.heap.size]? = some (.cells (rowR (.int .i64 b) (.int .i64 0) 1 n).toArray 2 (0, 0))) := by
    have := rowR_splice (.int .i64 b) (.int .i64 0) (m := 0) (k := 1) (n := n) (by omega)
    rw [List.replicate_one, Nat.zero_add] at this
    show _ = _
    rw [← this]
    exact hr1.out
  clear hr1 hrow hb0 c1 hmk
  go_wp2
  go_loopg [8] n (fun N m wr => ∃ k : Nat, 1 ≤ k ∧ k ≤ n ∧ m = .int .i64 k ∧ Hid (wr.heap[w.heap.size]? = some (.cells (rowR (.int .i64 b) (.int .i64 0) k n).toArray 2 (0, 0))) ∧ Below w.heap.size w wr ∧ Hid (n - k ≤ N))
  case atStart => exact ⟨1, Nat.le_refl _, hn0, rfl, hr1', hb1, by show _ ≤ _; omega⟩
  case round =>
    obtain ⟨k, hk1, hk, rfl, hr, hb, hN⟩ := hrel
    clear hr1' hb1
    by_cases hlt : k < n
    · have hcut : ∀ W : World, (Instr.slice 31 (.slice (some ⟨w.heap.size, 0, none⟩) n n) (some (.int .i64 (k : Int))) none none).run Tryz.prog W = .ok (.slice (some ⟨w.heap.size, k, none⟩) (n - k) (n - k)) W := fun W => by
        rw [run_cut elem_int64 (some ⟨w.heap.size, 0, none⟩) n n k hk W]
        unfold cutA
        rw [if_neg (by omega), Option.map_some, addr_add, Nat.zero_add, Nat.mul_one]
      have hhead : ∀ W : World, (Instr.slice 31 (.slice (some ⟨w.heap.size, 0, none⟩) n n) none (some (.int .i64 (k : Int))) none).run Tryz.prog W = .ok (.slice (some ⟨w.heap.size, 0, none⟩) k n) W := fun W => run_head elem_int64 (some ⟨w.heap.size, 0, none⟩) n n k hk W
      have hzw := hide ((Array.getElem?_eq_some_iff.1 hr.out).1)
      have i1 : (0 : Int) ≤ (k : Int) := by omega
      have i2 : (k : Int) ≤ (n : Int) := by omega
      obtain ⟨N2, rfl⟩ : ∃ N2, gk = N2 + 1 := ⟨gk - 1, by have := hN.out; omega⟩
      have k2 : Hid (∀ j v, (List.replicate (Nat.min k (n - k)) (Value.int .i64 b))[j]? = some v → wr.drew.cell? ((⟨w.heap.size, 0, none⟩ : Addr).add j) = some v) := by
        intro j v hj
        have hjk : j < Nat.min k (n - k) := by
          have := (List.getElem?_eq_some_iff.1 hj).1
          simpa using this
        have hjk2 : j < k := Nat.lt_of_lt_of_le hjk (Nat.min_le_left _ _)
        have hv : v = .int .i64 b := List.eq_of_mem_replicate (List.mem_of_getElem? hj)
        subst hv
        rw [addr_add, Nat.zero_add]
        refine (cell_of_row _ _ _ _ _ (0, 0) (show wr.drew.heap[w.heap.size]? = _ from hr.out)).trans ?_
        simpa using rowR_get _ _ hjk2
      have k3 : Hid (k + (List.replicate (Nat.min k (n - k)) (Value.int .i64 b)).length ≤ (rowR (.int .i64 b) (.int .i64 0) k n).length) := by
        show _ ≤ _
        rw [rowR_len _ _ hk, List.length_replicate]; have : Nat.min k (n - k) ≤ n - k := Nat.min_le_right k (n - k); omega
      have k4 : Hid (∀ v, v ∈ List.replicate (Nat.min k (n - k)) (Value.int .i64 b) → v.oneCell' = true) := fun v hv => by rw [List.eq_of_mem_replicate hv]; rfl
      have k5 : Hid (wr.drew.heap[w.heap.size]? = some (.cells (rowR (.int .i64 b) (.int .i64 0) k n).toArray 2 (0, 0))) := hr.out
      have k6 := hide hb.drew
      go_wp2
      go_region_law (refine step_copy_splice (by rfl) (.tmp 41) (.tmp 44) 31 31 (by rfl) 2 Tryz.underlying31 hsz.out (some ⟨w.heap.size, k, none⟩) (some ⟨w.heap.size, 0, none⟩) (n - k) (n - k) k n (by go_simp) (by go_simp) w.heap.size k (rowR (.int .i64 b) (.int .i64 0) k n) 2 k5.out (List.replicate (Nat.min k (n - k)) (.int .i64 b)) (List.length_replicate ..) (fun _ => ⟨rfl, ⟨w.heap.size, 0, none⟩, rfl, k2.out⟩) k3.out k4.out w.heap.size w k6.out (Nat.le_refl _) ?_; intro w2 hr2 hb2)
      have hmn : k + Nat.min k (n - k) ≤ n := by have : Nat.min k (n - k) ≤ n - k := Nat.min_le_right k (n - k); omega
      have hmp : 1 ≤ Nat.min k (n - k) := by show 1 ≤ min k (n - k); omega
      have hr2' : Hid (w2.heap[w.heap.size]? = some (.cells (rowR (.int .i64 b) (.int .i64 0) (k + Nat.min k (n - k)) n).toArray 2 (0, 0))) := by
        show _ = _
        rw [← rowR_splice (.int .i64 b) (.int .i64 0) hmn]
        exact hr2.out
      clear hr2 hcut hhead
      try simp only [List.length_replicate, goInt]
      generalize Nat.min k (n - k) = q at *
      go_wp2
      go_roundg N2
      case measure => omega
      case rel => exact ⟨k + q, by omega, hmn, by rw [IntWalk.i64_in _ (by omega)]; go_num, hr2', hb2, by show _ ≤ _; have := hN.out; omega⟩
    · have hkn : k = n := by omega
      subst hkn
      have hzw := (Array.getElem?_eq_some_iff.1 hr.out).1
      go_wp2
      go_ret
      refine ⟨_, rfl, ⟨by simp, fun _ => ⟨w.heap.size, 0, rfl, Nat.le_refl _, hzw, hzw, fun i x hx j u hu => ?_⟩⟩, hb⟩
      have hik : i < k := by
        have := (List.getElem?_eq_some_iff.1 hx).1
        simpa using this
      have hxb : x = b := List.eq_of_mem_replicate (List.mem_of_getElem? hx)
      subst hxb
      have hj : j = 0 := by
        have := (List.getElem?_eq_some_iff.1 hu).1
        simp [iv] at this
        exact this
      subst hj
      simp [iv] at hu
      subst hu
      refine ⟨(cell_of_row _ _ _ _ _ (0, 0) hr.out).trans ?_, frozen_of_row _ _ _ _ _ hr.out⟩
      have := rowR_get (.int .i64 x) (.int .i64 0) (m := k) (n := k) hik
      simpa using this

end Go.Proofs.YtcdhgabcajehnaaGreatDoor

namespace Go.Proofs.YtcdhgabcajehnaaGreatDoor
open Go.ChangeShapes Go.WideShapes Go.ChangeAt Go.RowKit
set_option linter.unusedVariables false

/-- The slice value `.slice A n c` is the call's own (a block from base on, at whatever offset), and holds l. -/
def OwnQ (w : World) (base : Nat) (A : Option Addr) (n c : Nat) (l : List Int) : Prop :=
  l.length = n ∧ ((A = none ∧ n = 0 ∧ c = 0) ∨ ∃ g off cur, A = some ⟨g, off, none⟩ ∧ base ≤ g ∧ w.heap[g]? = some (.cells cur 2 (0, 0)) ∧ n ≤ c ∧ c ≤ maxLen ∧ off + c ≤ cur.size ∧ ∀ (i : Nat) (x : Int), l[i]? = some x → cur[off + i]? = some (.int .i64 x))

section
variable {w w' : World} {base n c : Nat} {A : Option Addr} {l : List Int}
theorem OwnQ.len (h : OwnQ w base A n c l) : l.length = n := h.1
theorem OwnQ.of (h : Own 1 iv w base 2 A n c l) : OwnQ w base A n c l := by
  refine ⟨h.1, ?_⟩
  rcases h.2.2 with ⟨hv, h0⟩ | ⟨g, cap, cur, hv, hb, hg, hnc, hcm, hcs, htake⟩
  · injection hv with h1 _ h3
    exact .inl ⟨h1, h0, h3⟩
  · injection hv with h1 _ h3
    subst h1 h3
    refine .inr ⟨g, 0, cur, rfl, hb, hg, hnc, hcm, by omega, fun i x hx => ?_⟩
    have h1 := flat_at flat_iv l i x hx 0 _ rfl
    rw [← htake] at h1
    rw [List.getElem?_take] at h1
    split at h1
    · simpa using h1
    · cases h1
theorem OwnQ.keep (h : OwnQ w base A n c l) (hk : ∀ g, base ≤ g → (Value.slice A n c).ownBlock = some g → w'.heap[g]? = w.heap[g]?) : OwnQ w' base A n c l := by
  refine ⟨h.1, ?_⟩
  rcases h.2 with hn | ⟨g, off, cur, rfl, hb, hg, rest⟩
  · exact .inl hn
  · exact .inr ⟨g, off, cur, rfl, hb, (hk g hb rfl).trans hg, rest⟩
theorem OwnQ.lt (h : OwnQ w base A n c l) : ∀ g, (Value.slice A n c).ownBlock = some g → base ≤ g ∧ g < w.heap.size := by
  intro g hg
  rcases h.2 with ⟨rfl, _⟩ | ⟨g', off, cur, rfl, hb, hg', rest⟩
  · cases hg
  · cases hg
    exact ⟨hb, (Array.getElem?_eq_some_iff.1 hg').1⟩
theorem OwnQ.kept {row : Option Nat} (h : OwnQ w base A n c l) (hg : w.grownBy w' row) (hne : (Value.slice A n c).ownBlock = none ∨ (Value.slice A n c).ownBlock ≠ row) : OwnQ w' base A n c l :=
  h.keep fun g _ e => hg.block g (h.lt g e).2 (by
    rcases hne with hne | hne
    · rw [e] at hne; cases hne
    · rw [e] at hne; exact hne)
theorem OwnQ.alloc (h : OwnQ w base A n c l) (o : Obj) : OwnQ (w.alloc o) base A n c l := h.kept (World.grownBy_alloc w o none) (by cases (Value.slice A n c).ownBlock <;> simp)
theorem OwnQ.drewN (h : OwnQ w base A n c l) (k : Nat) : OwnQ (w.drewN k) base A n c l := h
/-- The first element. -/
theorem OwnQ.head {x : Int} {r : List Int} (h : OwnQ w base A n c (x :: r)) : ∃ g off, A = some ⟨g, off, none⟩ ∧ w.cell? ⟨g, off, none⟩ = some (.int .i64 x) ∧ 0 < n ∧ n ≤ c := by
  have hl := h.1
  simp at hl
  rcases h.2 with ⟨rfl, h0, _⟩ | ⟨g, off, cur, rfl, hb, hg, h1, h2, h3, h4⟩
  · omega
  · refine ⟨g, off, rfl, (cell_of_row w g off cur _ (0, 0) hg).trans ?_, by omega, h1⟩
    have := h4 0 x rfl
    simpa using this
/-- `q[1:]`. -/
theorem OwnQ.cut {x : Int} {r : List Int} (h : OwnQ w base A n c (x :: r)) : OwnQ w base (cutA A 1 c 1) (n - 1) (c - 1) r := by
  have hl := h.1
  simp at hl
  rcases h.2 with ⟨rfl, h0, _⟩ | ⟨g, off, cur, rfl, hb, hg, h1, h2, h3, h4⟩
  · omega
  · refine ⟨by omega, .inr ?_⟩
    by_cases hc : c = 1
    · subst hc
      refine ⟨g, off, cur, by simp [cutA], hb, hg, by omega, by unfold maxLen; omega, by omega, fun i y hy => ?_⟩
      have hr : r = [] := List.eq_nil_of_length_eq_zero (by omega)
      subst hr
      simp at hy
    · refine ⟨g, off + 1, cur, by unfold cutA; rw [if_neg hc, Option.map_some, addr_add], hb, hg, by omega, by omega, by omega, fun i y hy => ?_⟩
      have := h4 (i + 1) y (by simpa using hy)
      rw [show off + 1 + i = off + (i + 1) by omega]
      exact this
end

/-- append of one number to a queue. -/
theorem run_appQ (w : World) (ty : TypeId) {base n c : Nat} {A : Option Addr} {l : List Int} (h : OwnQ w base A n c l) (ad : Addr) (d : Nat) (x : Int) (hx : w.cell? ad = some (.int .i64 x)) (hn : n + 1 ≤ 1048576) (hbase : base ≤ w.heap.size) :
    ∃ A' c' w', (Builtin.append_ #[31, 31] ty #[.slice A n c, .slice (some ad) 1 d]).run Tryz.prog w = .ok (.slice A' (n + 1) c') w' ∧ OwnQ w' base A' (n + 1) c' (l ++ [x]) ∧ w.grownBy w' (Value.slice A n c).ownBlock ∧
      ((Value.slice A' (n + 1) c').ownBlock = (Value.slice A n c).ownBlock ∨ (Value.slice A' (n + 1) c').ownBlock = some w.heap.size) := by
  obtain ⟨i, hi, hz, hs, hby⟩ := info_parts info_int64
  have ht := Tryz.underlying31
  have hnews : ∀ j u, ([Value.int .i64 x] : List Value)[j]? = some u → w.cell? (ad.add j) = some u := by
    intro j u hj
    match j, hj with
    | 0, hj => simp at hj; subst hj; simpa [Addr.add] using hx
  have hzc : (Value.int .i64 0).cells.size = 1 := rfl
  have grown : ∀ (old : Nat) (olds : List Value), olds = l.map (Value.int .i64) → old < n + 1 → ∀ row : Option Nat,
      OwnQ (w.drew.alloc (.cells (olds.toArray ++ [Value.int .i64 x].toArray ++ Builtin.zeroCells (Value.int .i64 0).cells (grownCap w (n + 1) old 2 - (n + 1))) 2)) base (some ⟨w.heap.size, 0, none⟩) (n + 1) (grownCap w (n + 1) old 2) (l ++ [x]) ∧
      w.grownBy (w.drew.alloc (.cells (olds.toArray ++ [Value.int .i64 x].toArray ++ Builtin.zeroCells (Value.int .i64 0).cells (grownCap w (n + 1) old 2 - (n + 1))) 2)) row := by
    intro old olds hol ho row
    have hge := grownCap_ge w (n + 1) old 2
    have hcm : grownCap w (n + 1) old 2 ≤ maxLen := grownCap_le_maxLen w (n + 1) old 2 (by unfold maxLen; omega)
    refine ⟨⟨by rw [List.length_append, h.1]; rfl, .inr ⟨w.heap.size, 0, _, rfl, hbase, heap_alloc_new w.drew _, hge, hcm, ?_, fun i y hy => ?_⟩⟩, ⟨rfl, rfl, rfl, by simp, fun k hk _ => Below.heap_alloc w.drew _ k hk⟩⟩
    · simp only [Array.size_append, List.size_toArray, size_zeroCells, hzc, hol, List.length_map, h.1, List.length_singleton]
      omega
    · have hil : i < n + 1 := by
        have := (List.getElem?_eq_some_iff.1 hy).1
        rw [List.length_append, h.1] at this
        simpa using this
      have e1 : (olds.toArray ++ [Value.int .i64 x].toArray : Array Value) = ((l ++ [x]).map (Value.int .i64)).toArray := by rw [hol]; simp
      rw [Nat.zero_add, Array.getElem?_append_left (by rw [e1]; simp [h.1]; omega), e1]
      simp only [List.getElem?_toArray, List.getElem?_map, hy, Option.map_some]
  rcases h.2 with ⟨rfl, rfl, rfl⟩ | ⟨g, off, cur, rfl, hb, hg, hnc, hcm, hcs, hcur⟩
  · have hl : l = [] := List.eq_nil_of_length_eq_zero h.1
    subst hl
    have hr := run_append_nil (P := Tryz.prog) w 31 ty 2 i _ ht hi hz ad 1 d [.int .i64 x] (by rw [hs]; rfl) hnews (by omega) (by omega) (by rw [hby]; omega)
    obtain ⟨g1, g2⟩ := grown 0 [] rfl (by omega) (Value.ownBlock (.slice none 0 0))
    simp only [Nat.zero_add, Array.empty_append] at g1 g2 ⊢
    exact ⟨_, _, _, hr, g1, g2, .inr rfl⟩
  · by_cases hroom : n + 1 ≤ c
    · have hcell : (w.cell? ⟨g, off + n, none⟩).isSome = true := by
        rw [cell_of_row w g _ cur _ (0, 0) hg, Array.getElem?_eq_getElem (by omega)]
        rfl
      have hr := run_append_room_cells (P := Tryz.prog) w 31 ty 2 i ht hi g off n c ad 1 d [.int .i64 x] (by rw [hs]; rfl) hnews (by intro u hu; simp at hu; subst hu; rfl) hroom
        (fun j hj => by
          simp at hj
          subst hj
          rw [hs, Nat.mul_one, Nat.add_zero]
          exact hcell) (fun j hj => frozen_of_row w g _ cur _ hg)
      refine ⟨_, _, _, hr, ?_, ?_, .inl rfl⟩
      · rw [hs, Nat.mul_one]
        show OwnQ (w.setCell ⟨g, off + n, none⟩ (.int .i64 x)) base _ _ _ _
        refine ⟨by rw [List.length_append, h.1]; rfl, .inr ⟨g, off, cur.setIfInBounds (off + n) (.int .i64 x), rfl, hb, heap_setCell_same w g _ cur _ _ hg, hroom, hcm, by simpa using hcs, fun i y hy => ?_⟩⟩
        by_cases hin : i < n
        · rw [Array.getElem?_setIfInBounds_ne (by omega)]
          rw [List.getElem?_append_left (by rw [h.1]; exact hin)] at hy
          exact hcur i y hy
        · have : i = n := by
            have := (List.getElem?_eq_some_iff.1 hy).1
            rw [List.length_append, h.1] at this
            simp at this
            omega
          subst this
          rw [List.getElem?_append_right (by rw [h.1]; exact Nat.le_refl _), h.1, Nat.sub_self] at hy
          simp at hy
          subst hy
          simp [Array.getElem?_setIfInBounds]
          omega
      · rw [hs, Nat.mul_one]
        show w.grownBy (w.setCell ⟨g, off + n, none⟩ (.int .i64 x)) _
        exact ⟨rfl, rfl, rfl, by rw [World.size_setCell]; exact Nat.le_refl _, fun k hk hne => Below.heap_setCell w _ _ k (fun e => hne (by rw [e]; rfl))⟩
    · have holds : ∀ j u, (l.map (Value.int .i64))[j]? = some u → w.cell? ((⟨g, off, none⟩ : Addr).add j) = some u := by
        intro j u hj
        rw [List.getElem?_map] at hj
        obtain ⟨y, hy, rfl⟩ := Option.map_eq_some_iff.1 hj
        rw [addr_add, cell_of_row w g _ cur _ (0, 0) hg]
        exact hcur j y hy
      have hr := run_append_grow (P := Tryz.prog) w 31 ty 2 i _ ht hi hz ⟨g, off, none⟩ n c (l.map (Value.int .i64)) (by rw [List.length_map, h.1, hs, Nat.mul_one]) holds ad 1 d [.int .i64 x] (by rw [hs]; rfl) hnews (by omega) (by omega) (growslice_fits (by omega) (by rw [hby]; omega))
      obtain ⟨g1, g2⟩ := grown c _ rfl (by omega) (Value.ownBlock (.slice (some ⟨g, off, none⟩) n c))
      exact ⟨_, _, _, hr, g1, g2, .inr rfl⟩

/-- .. at the walk's operation. -/
theorem wpList_appQ {w : World} {ops : Array Oper} {rest : List Oper} {o : Oper} {a : Act} {Q : Exit → Act → World → Prop} (hgd : o.guard = none) (s x : Operand)
    (ho : o.op = .call { callee := .builtin .append, args := #[s, x], argTypes := #[31, 31] })
    {base n c : Nat} {A : Option Addr} {l : List Int} (hs : a.eval s = .slice A n c) (h : OwnQ w base A n c l) (ad : Addr) (d : Nat) (y : Int) (hx : a.eval x = .slice (some ad) 1 d) (hy : w.cell? ad = some (.int .i64 y)) (hn : n + 1 ≤ 1048576) (hbase : base ≤ w.heap.size)
    (hK : ∀ A' c' w', OwnQ w' base A' (n + 1) c' (l ++ [y]) → w.grownBy w' (Value.slice A n c).ownBlock → Below base w w' →
      ((Value.slice A' (n + 1) c').ownBlock = (Value.slice A n c).ownBlock ∨ (Value.slice A' (n + 1) c').ownBlock = some w.heap.size) → wpList Tryz.prog ops Q rest (a.put o.dst (.slice A' (n + 1) c')) w') : wpList Tryz.prog ops Q (o :: rest) a w := by
  refine wpList_plain hgd fun K hK' => ?_
  obtain ⟨A', c', w', h1, h2, h3, h4⟩ := run_appQ w o.type h ad d y hy hn hbase
  unfold Oper.wp execOp
  simp only [ho, resolve, invoke, builtin, Sem.run_bind, Sem.run_pure, Result.andThen_ok, List.map_toArray, List.map_cons, List.map_nil, hs, hx, h1]
  exact hK' _ _ (hK A' c' w' h2 h3 ((Below.refl _ _).grown h3 hbase fun k hk => (h.lt k hk).1) h4)

end Go.Proofs.YtcdhgabcajehnaaGreatDoor

namespace Go.Proofs.YtcdhgabcajehnaaGreatDoor
open Go.ChangeShapes Go.WideShapes Go.ChangeAt Go.RowKit
set_option linter.unusedVariables false

set_option maxRecDepth 100000 in
set_option maxHeartbeats 800000 in
theorem readDecimal_calls (s : ByteArray) (hs : s.size ≤ 1048576) (w : World) (he : Env w) :
    Calls Tryz.prog 155 #[.string s] w fun e w' => e = .returned (numR (numS s.data.toList)) ∧ Below w.heap.size w w' := by
  rw [← numP_eq]
  have q1 : Calls Tryz.prog 175 #[.string s, .string ⟨#[45]⟩] w fun e w' => e = .returned (.string ⟨(Lib.trimPrefix s.data.toList [45]).toArray⟩) ∧ w' = w := Tryz.strings_TrimPrefix s ⟨#[45]⟩ w
  have hsz := bytes_size (Lib.trimPrefix s.data.toList [45])
  generalize (⟨(Lib.trimPrefix s.data.toList [45]).toArray⟩ : ByteArray) = t at *
  replace q1 := hide q1
  by_cases hl : 18 < (Lib.trimPrefix s.data.toList [45]).length
  · have hv := hide (numP_long hl)
    have hlt : (18 : Int) < (t.size : Int) := by omega
    clear hl hsz he
    go_enter Tryz.func155, Tryz.ntmps155
    go_wp2_with fail
    refine q1.out.mono ?_
    rintro e w1 ⟨rfl, rfl⟩
    go_wp2_with fail
    go_ret2
    exact ⟨by rw [hv.out]; rfl, Below.refl _ _⟩
  · have hlt : ¬ (18 : Int) < (t.size : Int) := by omega
    clear hsz
    rcases parse_short _ hl with ⟨v, hp, hb0, hb1⟩ | hp
    · have q2 := hide (((Tryz.strconv_ParseInt_10_at64_ok s (by omega) v hp w).mono fun e w' ⟨a, b⟩ => ⟨a, b.elim (fun h => h ▸ Below.refl _ _) (fun ⟨t, h⟩ => h ▸ Lib.bytesWorld_below _ _ _)⟩ :
        Calls Tryz.prog 176 #[.string s, .int .i64 10, .int .i64 64] w fun e w' => e = .returned (.tuple #[.int .i64 v, .nilIface]) ∧ Below w.heap.size w w'))
      have q3 := hide (fun W (hW : Below w.heap.size w W) => decimal_calls v hb0 hb1 W (he.below hW (Nat.le_refl _)))
      have hv := hide (numP_ok hl hp)
      clear hl hp he hb0 hb1
      by_cases hi : Lib.itoa v = s.data.toList
      · have hq : (⟨(Lib.itoa v).toArray⟩ : ByteArray) = s := by rw [hi, bytes_eta]
        have hv2 : Hid (numP s.data.toList = some v) := by show _ = _; rw [hv.out, if_pos hi]
        rw [hq] at q3
        clear hv hi hq
        go_enter Tryz.func155, Tryz.ntmps155
        go_wp2_with fail
        refine q1.out.mono ?_
        rintro e w1 ⟨rfl, rfl⟩
        go_wp2_with fail
        refine q2.out.mono ?_
        rintro e w2 ⟨rfl, hb2⟩
        go_wp2_with fail
        refine (q3.out _ hb2).mono ?_
        rintro e w3 ⟨rfl, hb3⟩
        go_wp2_with fail
        go_ret2
        exact ⟨by rw [hv2.out]; rfl, hb2.trans (hb3.mono hb2.size)⟩
      · have hq : (⟨(Lib.itoa v).toArray⟩ : ByteArray) ≠ s := by
          intro h
          apply hi
          rw [← h]
        have hv2 : Hid (numP s.data.toList = none) := by show _ = _; rw [hv.out, if_neg hi]
        have hne := str_neq hq
        clear hv hi hq
        generalize (⟨(Lib.itoa v).toArray⟩ : ByteArray) = u at *
        go_enter Tryz.func155, Tryz.ntmps155
        go_wp2_with fail
        refine q1.out.mono ?_
        rintro e w1 ⟨rfl, rfl⟩
        go_wp2_with fail
        refine q2.out.mono ?_
        rintro e w2 ⟨rfl, hb2⟩
        go_wp2_with fail
        refine (q3.out _ hb2).mono ?_
        rintro e w3 ⟨rfl, hb3⟩
        go_wp2_with fail
        go_ret2
        exact ⟨by rw [hv2.out]; rfl, hb2.trans (hb3.mono hb2.size)⟩
    · obtain ⟨tp, p, hvar⟩ := he.good.syn
      have q2 := hide (((Tryz.strconv_ParseInt_10_at64_syntax_var s (by omega) hp tp p w hvar).mono fun e w' ⟨N, a, _, _, b⟩ => ⟨N, a, b⟩ :
        Calls Tryz.prog 176 #[.string s, .int .i64 10, .int .i64 64] w fun e w' => ∃ N, e = .returned (.tuple #[.int .i64 0, .iface 225 (.pointer (some ⟨N, 0, none⟩))]) ∧ Below w.heap.size w w'))
      have hv := hide (numP_syn hp)
      clear hl hp he hvar
      go_enter Tryz.func155, Tryz.ntmps155
      go_wp2_with fail
      refine q1.out.mono ?_
      rintro e w1 ⟨rfl, rfl⟩
      go_wp2_with fail
      refine q2.out.mono ?_
      rintro e w2 ⟨N, rfl, hb2⟩
      go_wp2_with fail
      go_ret2
      exact ⟨by rw [hv.out]; rfl, hb2⟩

end Go.Proofs.YtcdhgabcajehnaaGreatDoor

namespace Go.Proofs.YtcdhgabcajehnaaGreatDoor
open Go.ChangeShapes Go.WideShapes Go.ChangeAt Go.RowKit
set_option linter.unusedVariables false

theorem numsOf_snoc {f : List UInt8 → Option Int} : ∀ {l : List (List UInt8)} {ns : List Int} {x : List UInt8} {v : Int}, numsOf f l = some ns → f x = some v → numsOf f (l ++ [x]) = some (ns ++ [v])
  | [], ns, x, v, h, hf => by
    cases h
    show numsOf f [x] = _
    unfold numsOf
    rw [hf]
    rfl
  | y :: l, ns, x, v, h, hf => by
    unfold numsOf at h
    split at h
    · rename_i n ms hn hm
      cases h
      rw [List.cons_append]
      unfold numsOf
      rw [hn, numsOf_snoc hm hf]
      rfl
    · cases h

def dataL (l : List ByteArray) : List (List UInt8) := l.map (·.data.toList)
/-- What readNumbers hands back. -/
def NumsR (w w' : World) (n : Nat) (o : Option (List Int)) (e : Ending) : Prop :=
  match o with
  | none => e = .returned (.tuple #[.slice none 0 0, .bool false])
  | some ns => ∃ A c, e = .returned (.tuple #[.slice A n c, .bool true]) ∧ SlI w' w.heap.size w'.heap.size A n ns

set_option maxRecDepth 100000 in
set_option maxHeartbeats 800000 in
theorem readNumbers_calls (A : Option Addr) (n c : Nat) (l : List ByteArray) (w : World) (lo hi : Nat) (h : SlS w lo hi A n l) (hn : n ≤ 1048577) (hs : ∀ s ∈ l, s.size ≤ 1048576) (he : Env w) :
    Calls Tryz.prog 121 #[.slice A n c] w fun e w' => NumsR w w' n (numsOf numS (dataL l)) e ∧ Below w.heap.size w w' := by
  have hE := hide elem_int
  have hlen := hide h.len
  replace hs := hide hs
  go_enter Tryz.func121, Tryz.ntmps121
  go_wp2
  go_loopw [4, 11] (fun o i wr => ∃ (k : Nat) (A5 : Option Addr) (c5 : Nat) (L : List Int), k ≤ n ∧ o = .slice A5 k c5 ∧ i = .int .i64 (k : Nat) ∧ Hid (Own 1 iv wr w.heap.size 2 A5 k c5 L) ∧ Hid (numsOf numS ((dataL l).take k) = some L) ∧ Below w.heap.size w wr) (fun _ i _ => n - (intOf i).toNat)
  case atStart => exact ⟨0, none, 0, [], Nat.zero_le _, rfl, rfl, Own.nil_ _ _ _, rfl, Below.refl _ _⟩
  case round =>
    obtain ⟨k, A5, c5, L, hk, rfl, rfl, hown, hall, hb⟩ := hrel
    have hz := hb.size
    by_cases hlt : k < n
    · obtain ⟨bb, off, x, rfl, g1, g2, g3, hx, cc0, -⟩ := SlS.get h hlt
      replace cc0 := (hb.cell (p := ⟨bb, off + k, none⟩) g3).trans cc0
      have hx2 : (dataL l)[k]? = some x.data.toList := by unfold dataL; rw [List.getElem?_map, hx]; rfl
      have q3 := readDecimal_calls x (hs.out x (List.mem_of_getElem? hx)) wr (he.below hb (Nat.le_refl _))
      have htk : (dataL l).take (k + 1) = (dataL l).take k ++ [x.data.toList] := by rw [List.take_add_one, hx2]; rfl
      cases hnx : numS x.data.toList with
      | none =>
        have hv : Hid (numsOf numS (dataL l) = none) := numsOf_none hx2 hnx
        rw [hnx] at q3
        have q4 : Hid (Calls Tryz.prog 155 #[.string x] wr fun e w' => e = .returned (.tuple #[.int .i64 0, .bool false]) ∧ Below wr.heap.size wr w') := q3
        clear hx hx2 hnx q3 htk hall hown h he
        go_wp2_with fail
        refine q4.out.mono ?_
        rintro e w2 ⟨rfl, hb2⟩
        go_wp2_with fail
        go_ret2
        refine ⟨?_, hb.trans (hb2.mono hz)⟩
        rw [hv.out]
        rfl
      | some v =>
        have hnext : Hid (numsOf numS ((dataL l).take (k + 1)) = some (L ++ [v])) := by
          show _ = _
          rw [htk]
          exact numsOf_snoc hall.out hnx
        rw [hnx] at q3
        have q4 : Hid (Calls Tryz.prog 155 #[.string x] wr fun e w' => e = .returned (.tuple #[.int .i64 v, .bool true]) ∧ Below wr.heap.size wr w') := q3
        clear hx hx2 hnx q3 htk hall h he
        go_wp2_with fail
        refine q4.out.mono ?_
        rintro e w2 ⟨rfl, hb2⟩
        have hown2 := hide (hown.out.below hb2 (Nat.le_refl _))
        have hb3 := hb.trans (hb2.mono hz)
        have hz3 := hb3.size
        have hza : ∀ o, w.heap.size ≤ (w2.alloc o).heap.size := fun o => by rw [World.size_alloc]; omega
        clear hb2 hown
        go_wp2_with (first | (at_builtin; (with_reducible refine wpList_app rfl (.tmp 22) (.tmp 24) rfl hE.out flat_iv rfl (hown2.out.alloc _) rfl (Sl.lit1' w2 2 v _ rfl 1 _ ?c0) ?c1 (hza _) ?_); rotate_right; intro A7 c7 w7 hown7 hgr7 hb7 _))
        case c0 => rfl
        case c1 => omega
        go_roundw
        case rel => exact ⟨k + 1, A7, c7, L ++ [v], by omega, rfl, by go_num, hown7, hnext, (hb3.alloc hz3 _).trans hb7⟩
        case measure => simp [intOf]; omega
    · have hkn : k = n := by omega
      subst hkn
      have hv : Hid (numsOf numS (dataL l) = some L) := by
        have := hall.out
        rw [List.take_of_length_le (by unfold dataL; rw [List.length_map, hlen.out]; exact Nat.le_refl _)] at this
        exact this
      go_wp2_with fail
      go_ret2
      refine ⟨?_, hb⟩
      rw [hv.out]
      exact ⟨A5, c5, rfl, hown.out.sl flat_iv⟩

theorem isValue_calls (v : Int) (w : World) : Calls Tryz.prog 184 #[.int .i64 v] w fun e w' => e = .returned (.bool (inB v 0 63)) ∧ w = w' := by
  have q := hide (within_calls v 0 63 w)
  go_enter Tryz.func184, Tryz.ntmps184
  go_wp2_with fail
  refine q.out.mono ?_
  rintro e w1 ⟨rfl, rfl⟩
  go_wp2_with fail
  go_ret
  exact ⟨rfl, rfl⟩
theorem areValues1_calls (v : Int) (w : World) : Calls Tryz.prog 183 #[.int .i64 v] w (Says (!(inB v 0 63)) w) := by
  have q := hide (isValue_calls v w)
  go_enter Tryz.func183, Tryz.ntmps183
  go_wp2_with fail
  refine q.out.mono ?_
  rintro e w1 ⟨rfl, rfl⟩
  go_wp2_with fail
  go_ret
  exact ⟨rfl, Below.refl _ _⟩
theorem areValues_calls (A : Option Addr) (n c : Nat) (L : List Int) (w : World) (lo hi : Nat) (h : SlI w lo hi A n L) (hn : n ≤ 1048576) :
    Calls Tryz.prog 159 #[.slice A n c] w (Says (L.all isVal) w) := by
  have q := hide (containsFuncI_calls 183 #[] (fun v => !(inB v 0 63)) A n c L w lo hi h hn (fun v W => by kernel_rfl) (fun v W _ => areValues1_calls v W))
  have hv : Hid (L.all isVal = !(L.any fun v => !(inB v 0 63))) := by
    show _ = _
    have : isVal = fun v => inB v 0 63 := rfl
    rw [this, List.not_any_eq_all_not]
    simp
  clear h
  go_enter Tryz.func159, Tryz.ntmps159
  go_wp2_with fail
  refine q.out.mono ?_
  rintro e w1 ⟨rfl, hb⟩
  go_wp2_with fail
  go_ret
  exact ⟨ret_b (by rw [hv.out]), hb⟩

theorem join_len (sep : List UInt8) (m : Nat) : ∀ xs : List (List UInt8), (∀ x ∈ xs, x.length ≤ m) → (Lib.join xs sep).length ≤ xs.length * (m + sep.length)
  | [], _ => by rw [Lib.join_nil]; simp
  | [x], h => by
    rw [Lib.join_one]
    have := h x (by simp)
    simp
    omega
  | x :: y :: r, h => by
    have ih := join_len sep m (y :: r) (fun z hz => h z (List.mem_cons_of_mem _ hz))
    have hx := h x (by simp)
    rw [join_cons2, List.length_append, List.length_append, List.length_cons, Nat.add_mul]
    omega

def decB (n : Int) : ByteArray := ⟨(Lib.itoa n).toArray⟩
set_option maxRecDepth 100000 in
set_option maxHeartbeats 800000 in
theorem joined_calls (A : Option Addr) (n c : Nat) (L : List Int) (w : World) (lo hi : Nat) (h : SlI w lo hi A n L) (hn : n ≤ 1048576) (hL : ∀ v ∈ L, -9223372036854775808 ≤ v ∧ v ≤ 9223372036854775807) (he : Env w) :
    Calls Tryz.prog 160 #[.slice A n c, .string ⟨#[44]⟩] w fun e w' => e = .returned (.string (mkB (Lib.join (L.map Lib.itoa) [44]))) ∧ Below w.heap.size w w' := by
  obtain ⟨i0, hi0, hz0, hz1, hz2⟩ := info_parts info_string
  have hmk := fun W => make_row (P := Tryz.prog) 24 9 i0 _ _ n Tryz.underlying24 hi0 hz0 hz1 (by rw [hz2]; omega) (by omega) W
  clear hi0 hz0 hz1 hz2
  have hlen := hide h.len
  replace hL := hide hL
  go_enter Tryz.func160, Tryz.ntmps160
  go_wp2
  go_loopw [13] (fun i wr => ∃ k : Nat, k ≤ n ∧ i = .int .i64 k ∧ Below w.heap.size w wr ∧ Fill 1 strv wr w.heap.size 9 n k (L.map decB)) (fun i _ => n - (intOf i).toNat)
  case atStart => exact ⟨0, Nat.zero_le _, rfl, (Below.refl _ _).alloc (Nat.le_refl _) _, Fill.start _ _ _ _ (by simp [madeCells])⟩
  case round =>
    obtain ⟨k, hk, rfl, hb, hf⟩ := hrel
    clear hmk
    by_cases hlt : k < n
    · obtain ⟨b, off, x, rfl, g1, g2, g3, hx, c0, -⟩ := h.get hlt
      replace c0 := (hb.cell (p := ⟨b, off + k, none⟩) g3).trans c0
      have hxb := hL.out x (List.mem_of_getElem? hx)
      have q := hide (decimal_calls x hxb.1 hxb.2 wr (he.below hb (Nat.le_refl _)))
      have hx2 : Hid ((L.map decB)[k]? = some (decB x)) := by show _ = _; rw [List.getElem?_map, hx]; rfl
      clear h hx hxb he
      go_wp2_with fail
      refine q.out.mono ?_
      rintro e w1 ⟨rfl, hb1⟩
      have hf1 := hf.keep (hb1.block _ hf.lt)
      obtain ⟨v0, d0⟩ := hf1.cell (i := k) (by omega)
      have z0 := hf1.frozen k
      go_wp2_with fail
      go_roundw
      case rel => exact ⟨k + 1, by omega, by go_num, (hb.trans (hb1.mono hb.size)).setCell (Nat.le_refl _) _, hf1.set1 hlt (fun _ => rfl) hx2.out rfl⟩
      case measure => simp [intOf]; omega
    · have hkn : k = n := by omega
      subst hkn
      have hml : (L.map decB).length = k := by rw [List.length_map]; exact hlen.out
      have hsl := hf.done hml (Nat.le_refl _) hf.lt
      have hdat : (L.map decB).map (·.data.toList) = L.map Lib.itoa := by rw [List.map_map]; rfl
      have hjl := join_len [44] 21 (L.map Lib.itoa) (fun y hy => by
        obtain ⟨v, hv, rfl⟩ := List.mem_map.1 hy
        exact Lib.itoa_length_le v (hL.out v hv).1 (hL.out v hv).2)
      rw [List.length_map, hlen.out, show 21 + ([44] : List UInt8).length = 22 from rfl] at hjl
      have q : Calls Tryz.prog 185 #[.slice (some ⟨w.heap.size, 0, none⟩) k k, .string ⟨#[44]⟩] wr fun e w' => e = .returned (.string (mkB (Lib.join (L.map Lib.itoa) [44]))) ∧ Below wr.heap.size wr w' := by
        have := Tryz.strings_Join w.heap.size 0 k (L.map decB) ⟨#[44]⟩ wr (fun j x hx => by
          have hj : j < k := by rw [← hml]; exact (List.getElem?_eq_some_iff.1 hx).1
          obtain ⟨b, off, e1, _, _, _, hcell⟩ := hsl.at_ (by omega)
          cases e1
          have := (hcell j x hx 0 _ rfl).1
          simpa using this) hf.lt (by rw [hml]; omega) (by rw [hml]; exact Nat.le_refl _) (by
            rw [hdat]
            show (Lib.join (L.map Lib.itoa) [44]).length ≤ _
            omega)
        rw [hml, hdat] at this
        exact this
      replace q := hide q
      clear h hsl hdat hjl he
      go_wp2_with fail
      refine q.out.mono ?_
      rintro e w1 ⟨rfl, hb1⟩
      go_wp2_with fail
      go_ret
      exact ⟨rfl, hb.trans (hb1.mono hb.size)⟩

end Go.Proofs.YtcdhgabcajehnaaGreatDoor
