/-
  Several texts in one:
  Words for memory: a slice value that reads as a list of elements, each element being a fixed number of cells. Conditions: none; plain theorems about worlds.
  Tables of answers, and least sets of pairs: plain. Conditions: none.
  Two breadth-first searches of pairs with traces find the same trace: plain. Conditions: none.
  The search's answer is one: plain. Conditions: none.
  The shelf's contracts on strings and numbers at this seat's program, in plain words (printed by wip/shelf.py with the kit's lay-shelf and lay-plain). Conditions: sizes.
  Numbers in decimal: the program's reading and the reference's are the same function. Conditions: sizes.
  Labels: the program's reading and the reference's are the same function of a text. Conditions: none.
  The laws' helpers on lists of int64: copying, comparing, marking, asking for the marks. Conditions: at most 1048576 numbers.
  From the reading of an argument to the words for memory: slices whose elements are a fixed number of cells without further memory. Conditions: none.
  From the reading of an argument to the words for memory: slices whose elements lead into further memory. Conditions: none.
-/
import Derived.WalkKit
import Derived.ProofKit
import Derived.OpenShut
import Derived.Handy
import Derived.Below
import Derived.Deep.Draws
import Derived.Laws.MakeOwn
import Derived.Shelf.Strings.Builder1
import Derived.Shelf.Strings.Builder2
import Derived.Shelf.Strings.OnBuilder
import Derived.Shelf.Small.Bits
import Derived.Shelf.Small.Strs
import Derived.Shelf.Strings.BuilderF
import Derived.Shelf.Strings.BuilderK
import Derived.Shelf.Utf8.RuneCount
import Derived.Shelf.Strconv.Itoa0
import Derived.Shelf.Strconv.Itoa1
import Derived.Shelf.LaysM
import Derived.Shelf.Strconv.Itoa2
import Derived.Shelf.Strconv.Itoa3
import Derived.Shelf.Strconv.Itoa4
import Derived.Shelf.Strconv.ParseIntEmpty
import Derived.Shelf.Strconv.Clone
import Derived.Shelf.Strconv.SyntaxError
import Derived.Shelf.LaysC
import Derived.Shelf.Strconv.ToError
import Derived.Shelf.Strconv.Lower
import Derived.Shelf.Strconv.ParseUint10
import Derived.Shelf.Strconv.ParseUint10Empty
import Derived.Shelf.Strconv.ParseUint10Any
import Derived.Shelf.Strconv.ParseInt10
import Derived.Shelf.Strconv.RangeError
import Derived.Shelf.Strconv.ToErrorRange
import Derived.Shelf.Strconv.ParseUintEmpty
import Derived.Shelf.Strconv.ParseUint10b64
import Derived.Shelf.Strconv.ParseUint10b32
import Derived.Shelf.Strconv.ParseUint10b16
import Derived.Shelf.Strconv.ParseUint10b8
import Derived.Shelf.Strconv.ParseUint10At
import Derived.Shelf.Strconv.ParseInt10At64
import Derived.Shelf.Strconv.ParseInt10At32
import Derived.Shelf.Strconv.ParseInt10At16
import Derived.Shelf.Strconv.ParseInt10At8
import Derived.Shelf.Strconv.ParseInt10All
import Derived.Shelf.Strconv.ParseIntPublic10
import Derived.Shelf.Strconv.ErrVarParseInt
import Derived.Shelf.Strings.Search1
import Derived.Shelf.Strings.Search2
import Derived.Shelf.Strings.Search3
import Derived.Shelf.Strings.Cut
import Derived.Shelf.Strings.Count
import Derived.Shelf.Strings.Shaped
import Derived.Shelf.Strings.Prefix
import Derived.Shelf.Strings.Split
import Derived.Shelf.Strings.SplitShaped
import Derived.Shelf.Unicode.Decode
import Derived.Shelf.Strings.RuneCount
import Derived.Shelf.Strings.Explode
import Derived.Shelf.Bits.Mul64
import Derived.Shelf.Unicode.DecodeSlow
import Derived.Shelf.Unicode.DecodeAny
import Derived.Shelf.Slices.Turned
import Derived.Shelf.Slices.Equal
import Derived.Ground.Names2Prog
import Derived.Shelf.Slices.Clone
import Derived.Shelf.Slices.CompactS
import Derived.Shelf.Slices.Cells
import Derived.Shelf.Slices.Empties2
import Derived.Ground.SlgnProg
import Derived.Shelf.SlicesG.Turned
import Derived.Shelf.SlicesG.Clone
import Derived.Shelf.SlicesG.CompactI
import Derived.Shelf.SlicesG.SearchI
import Derived.Shelf.SlicesG.Cells
import Derived.Shelf.SlicesE.Clone
import Derived.Ground.SlgcProg
import Derived.Shelf.SlicesG.Cmp
import Derived.Ground.SlsfProg
import Derived.Shelf.SlSortCmp.Insertion
import Derived.Ground.SlgmProg
import Derived.Shelf.SortM.Plain
import Derived.Shelf.SortM.SortNone
import Derived.Shelf.SlSortCmp.SiftDown1
import Derived.Shelf.SlSortCmp.HeapSort1
import Derived.Shelf.SlSortCmp.Insertion1
import Derived.Shelf.SlSortCmp.Median1
import Derived.Shelf.SlSortCmp.Pivot1
import Derived.Shelf.SlSortCmp.ReverseRange1
import Derived.Shelf.SlSortCmp.PartialInsertion1
import Derived.Shelf.SlSortCmp.PartitionEqual1
import Derived.Shelf.SlSortCmp.Partition1
import Derived.Shelf.SlSortCmp.Pdq1
import Derived.Shelf.SlSortCmp.Whole1
import Derived.Test.YtnhomkmfbngmgaaGreatDoorProg
import Derived.Lib.ParseIntB
import Derived.Lib.ItoaNum
import Derived.Lib.Strings
import Derived.Lib.Split
import Derived.Lib.Join
import Derived.Test.YtnhomkmfbngmgaaGreatDoorRows
import Derived.LoopTactic
import Derived.Deep.QuietTactic
import Derived.BigQuiet
import Derived.Deep.Slices
import Derived.Deep.Fields
import Derived.ChangeSame
import Derived.ChangeOld
set_option linter.unusedSimpArgs false
set_option linter.unusedVariables false
namespace Go.Proofs.YtnhomkmfbngmgaaGreatDoor
open Go.RowKit

/-- A fact kept from the walk. -/
theorem hide {p : Prop} (h : p) : Hid p := h

theorem ret_b {a b : Bool} (h : b = a) : Ending.returned (.bool a) = .returned (.bool b) := by rw [h]
theorem ret_i {k : IntKind} {a b : Int} (h : b = a) : Ending.returned (.int k a) = .returned (.int k b) := by rw [h]

/-- The slice value `.slice A n c` holds the elements l (each of size cells, as f tells), in one block from lo on and below hi, whose cells may be written. -/
def Sl {α : Type} (size : Nat) (f : α → List Value) (w : World) (lo hi : Nat) (A : Option Addr) (n : Nat) (l : List α) : Prop :=
  l.length = n ∧ (0 < n → ∃ b off, A = some ⟨b, off, none⟩ ∧ lo ≤ b ∧ b < hi ∧ b < w.heap.size ∧
    ∀ (k : Nat) (x : α), l[k]? = some x → ∀ (j : Nat) (u : Value), (f x)[j]? = some u →
      w.cell? ⟨b, off + (k * size + j), none⟩ = some u ∧ w.frozen? ⟨b, off + (k * size + j), none⟩ = false)

section
variable {α : Type} {size : Nat} {f : α → List Value} {w w' : World} {lo hi lo' hi' n : Nat} {A : Option Addr} {l : List α}

theorem Sl.len (h : Sl size f w lo hi A n l) : l.length = n := h.1

theorem Sl.nil_ : Sl size f w lo hi A 0 ([] : List α) := ⟨rfl, fun h => absurd h (by omega)⟩

theorem Sl.at_ (h : Sl size f w lo hi A n l) (hn : 0 < n) : ∃ b off, A = some ⟨b, off, none⟩ ∧ lo ≤ b ∧ b < hi ∧ b < w.heap.size ∧
    ∀ (k : Nat) (x : α), l[k]? = some x → ∀ (j : Nat) (u : Value), (f x)[j]? = some u →
      w.cell? ⟨b, off + (k * size + j), none⟩ = some u ∧ w.frozen? ⟨b, off + (k * size + j), none⟩ = false := h.2 hn

theorem Sl.keep (h : Sl size f w lo hi A n l) (hs : w.heap.size ≤ w'.heap.size) (hk : ∀ b, lo ≤ b → b < hi → b < w.heap.size → w'.heap[b]? = w.heap[b]?) : Sl size f w' lo hi A n l :=
  ⟨h.1, fun hn => by
    obtain ⟨b, off, e, h1, h2, h3, hc⟩ := h.2 hn
    refine ⟨b, off, e, h1, h2, by omega, fun k x hx j u hu => ?_⟩
    obtain ⟨hc1, hc2⟩ := hc k x hx j u hu
    have hb := hk b h1 h2 h3
    exact ⟨(World.cell?_of_block (w := w) (by simpa using hb)).trans hc1, (World.frozen?_of_block (w := w) (by simpa using hb)).trans hc2⟩⟩

theorem Sl.below {B : Nat} (h : Sl size f w lo hi A n l) (hb : Below B w w') (hB : hi ≤ B ∨ w.heap.size ≤ B) : Sl size f w' lo hi A n l :=
  h.keep hb.size fun b _ h2 h3 => hb.block b (by omega)

theorem Sl.more (h : Sl size f w lo hi A n l) (h1 : lo' ≤ lo) (h2 : hi ≤ hi') : Sl size f w lo' hi' A n l :=
  ⟨h.1, fun hn => by
    obtain ⟨b, off, e, g1, g2, g3, hc⟩ := h.2 hn
    exact ⟨b, off, e, by omega, by omega, g3, hc⟩⟩

theorem Sl.top (h : Sl size f w lo hi A n l) : Sl size f w lo w.heap.size A n l :=
  ⟨h.1, fun hn => by
    obtain ⟨b, off, e, g1, g2, g3, hc⟩ := h.2 hn
    exact ⟨b, off, e, by omega, by omega, g3, hc⟩⟩

theorem Sl.drew (h : Sl size f w lo hi A n l) : Sl size f w.drew lo hi A n l := h
theorem Sl.drewN (h : Sl size f w lo hi A n l) (k : Nat) : Sl size f (w.drewN k) lo hi A n l := h
end

/-- Int's order test in Bool. -/
def inB (n lo hi : Int) : Bool := decide (lo ≤ n) && decide (n ≤ hi)

/-- A struct of two int64 fields. -/
def tv (t : Int × Int) : List Value := [.int .i64 t.1, .int .i64 t.2]
/-- An int64. -/
def iv (n : Int) : List Value := [.int .i64 n]

abbrev SlT := Sl 2 tv
abbrev SlI := Sl 1 iv

/-- Block B is a row of n elements of which the first k are those of l. -/
def Fill {α : Type} (size : Nat) (f : α → List Value) (w : World) (B : Nat) (t : TypeId) (n k : Nat) (l : List α) : Prop :=
  ∃ cur : Array Value, w.heap[B]? = some (.cells cur t (0, 0)) ∧ cur.size = n * size ∧
    ∀ (i : Nat) (x : α), i < k → l[i]? = some x → ∀ (j : Nat) (u : Value), (f x)[j]? = some u → cur[i * size + j]? = some u

section
variable {α : Type} {size : Nat} {f : α → List Value} {w w' : World} {B n k : Nat} {t : TypeId} {l : List α}

theorem Fill.start (w : World) (t : TypeId) (cur : Array Value) (n : Nat) (hs : cur.size = n * size) : Fill size f (w.alloc (.cells cur t)) w.heap.size t n 0 l :=
  ⟨cur, heap_alloc_new w _, hs, fun i x hi => absurd hi (by omega)⟩

theorem Fill.lt (h : Fill size f w B t n k l) : B < w.heap.size := by
  obtain ⟨cur, hc, _⟩ := h
  rcases Nat.lt_or_ge B w.heap.size with hl | hl
  · exact hl
  · rw [Array.getElem?_eq_none hl] at hc; cases hc

theorem Fill.keep (h : Fill size f w B t n k l) (hb : w'.heap[B]? = w.heap[B]?) : Fill size f w' B t n k l := by
  obtain ⟨cur, hc, r⟩ := h
  exact ⟨cur, hb.trans hc, r⟩

theorem Fill.cell (h : Fill size f w B t n k l) {i : Nat} (hi : i < n * size) : ∃ u, w.cell? ⟨B, i, none⟩ = some u := by
  obtain ⟨cur, hc, hs, _⟩ := h
  exact ⟨cur[i]'(by omega), by rw [cell_of_row w B i cur t (0, 0) hc, Array.getElem?_eq_getElem (by omega)]⟩

theorem Fill.frozen (h : Fill size f w B t n k l) (i : Nat) : w.frozen? ⟨B, i, none⟩ = false := by
  obtain ⟨cur, hc, hs, _⟩ := h
  exact frozen_of_row w B i cur t hc

/-- A round that lays element k, cell by cell. -/
theorem Fill.step (h : Fill size f w B t n k l) (hlen : ∀ x, (f x).length = size) {x : α} (hx : l[k]? = some x)
    (hs : ∀ cur : Array Value, w.heap[B]? = some (.cells cur t (0, 0)) → cur.size = n * size → ∃ cur', w'.heap[B]? = some (.cells cur' t (0, 0)) ∧ cur'.size = cur.size ∧
      (∀ i, i < k * size → cur'[i]? = cur[i]?) ∧ (∀ j u, (f x)[j]? = some u → cur'[k * size + j]? = some u)) : Fill size f w' B t n (k + 1) l := by
  obtain ⟨cur, hc, hsz, hel⟩ := h
  obtain ⟨cur', h1, h2, h3, h4⟩ := hs cur hc hsz
  refine ⟨cur', h1, h2.trans hsz, fun i y hi hy j v hv => ?_⟩
  have hj : j < size := by rw [← hlen y]; exact (List.getElem?_eq_some_iff.1 hv).1
  rcases Nat.lt_or_ge i k with hlt | hge
  · have hm : (i + 1) * size ≤ k * size := Nat.mul_le_mul_right _ hlt
    rw [Nat.add_mul] at hm
    rw [h3 _ (by omega)]
    exact hel i y hlt hy j v hv
  · have : i = k := by omega
    subst this
    rw [hx] at hy
    cases hy
    exact h4 j v hv

theorem Fill.done (h : Fill size f w B t n n l) (hl : l.length = n) {lo hi : Nat} (h1 : lo ≤ B) (h2 : B < hi) : Sl size f w lo hi (some ⟨B, 0, none⟩) n l := by
  refine ⟨hl, fun _ => ⟨B, 0, rfl, h1, h2, h.lt, fun k x hx j u hu => ?_⟩⟩
  obtain ⟨cur, hc, hs, hel⟩ := h
  have hk : k < n := by rw [← hl]; exact (List.getElem?_eq_some_iff.1 hx).1
  rw [Nat.zero_add]
  exact ⟨(cell_of_row w B _ cur t (0, 0) hc).trans (hel k x hk hx j u hu), frozen_of_row w B _ cur t hc⟩
end

section
variable {w w' : World} {lo hi n : Nat} {A : Option Addr}
/-- A slice of two-field structs, read at k, in the walk's spelling. -/
theorem SlT.get {l : List (Int × Int)} (h : SlT w lo hi A n l) {k : Nat} (hk : k < n) :
    ∃ b off x y, A = some ⟨b, off, none⟩ ∧ lo ≤ b ∧ b < hi ∧ b < w.heap.size ∧ l[k]? = some (x, y) ∧ w.cell? ⟨b, off + k * 2, none⟩ = some (.int .i64 x) ∧ w.cell? ⟨b, off + k * 2 + 1, none⟩ = some (.int .i64 y) ∧
      w.frozen? ⟨b, off + k * 2, none⟩ = false ∧ w.frozen? ⟨b, off + k * 2 + 1, none⟩ = false := by
  obtain ⟨b, off, e, g1, g2, g3, hc⟩ := h.at_ (by omega)
  have hl : k < l.length := by rw [h.len]; exact hk
  have h0 := hc k l[k] (List.getElem?_eq_getElem hl) 0 _ rfl
  have h1 := hc k l[k] (List.getElem?_eq_getElem hl) 1 _ rfl
  rw [← Nat.add_assoc] at h1
  exact ⟨b, off, l[k].1, l[k].2, e, g1, g2, g3, List.getElem?_eq_getElem hl, h0.1, h1.1, h0.2, h1.2⟩
theorem SlI.get {l : List Int} (h : SlI w lo hi A n l) {k : Nat} (hk : k < n) :
    ∃ b off x, A = some ⟨b, off, none⟩ ∧ lo ≤ b ∧ b < hi ∧ b < w.heap.size ∧ l[k]? = some x ∧ w.cell? ⟨b, off + k, none⟩ = some (.int .i64 x) ∧ w.frozen? ⟨b, off + k, none⟩ = false := by
  obtain ⟨b, off, e, g1, g2, g3, hc⟩ := h.at_ (by omega)
  have hl : k < l.length := by rw [h.len]; exact hk
  have h0 := hc k l[k] (List.getElem?_eq_getElem hl) 0 _ rfl
  simp only [Nat.mul_one, Nat.add_zero] at h0
  exact ⟨b, off, l[k], e, g1, g2, g3, List.getElem?_eq_getElem hl, h0.1, h0.2⟩
end

/-- `make([]T, n)` at an n that fits: a new block of n elements' zero cells. -/
theorem make_row {P : Program} (t e : TypeId) (i : TypeInfo) (z : Value) (sz n : Nat) (ht : P.underlying t = some (.slice e)) (hi : P.info? e = some i) (hz : i.zero = some z) (hsz : i.size = sz)
    (hby : i.bytes * n ≤ 281474976710656) (hn : n ≤ 9223372036854775807) (W : World) :
    (Instr.makeSlice t (.int .i64 (n : Int)) (.int .i64 (n : Int))).run P W = .ok (.slice (some ⟨W.heap.size, 0, none⟩) n n) (W.alloc (.cells (madeCells z.cells (n * sz)) e)) := by
  have hb : (i.bytes : Int) * (n : Int) ≤ 281474976710656 := by
    rw [← Int.natCast_mul]
    omega
  have h := run_make (P := P) W t e i z ht hi hz .i64 .i64 n n (by omega) (Int.le_refl _) hb (by omega)
  rw [Int.toNat_natCast, hsz] at h
  exact h

section
variable {α : Type} {f : α → List Value} {w : World} {B n k : Nat} {t : TypeId} {l : List α}
theorem Fill.set1 (h : Fill 1 f w B t n k l) (hk : k < n) (hlen : ∀ x, (f x).length = 1) {x : α} (hx : l[k]? = some x) {u : Value} (hf : f x = [u]) :
    Fill 1 f (w.setCell ⟨B, k, none⟩ u) B t n (k + 1) l :=
  h.step hlen hx fun cur hc hs => ⟨cur.setIfInBounds k u, heap_setCell_same w B k cur t u hc, by simp, fun i hi => Array.getElem?_setIfInBounds_ne (by omega), fun j v hv => by
    rw [hf] at hv
    match j, hv with
    | 0, hv =>
      simp at hv
      subst hv
      simp [Array.getElem?_setIfInBounds]
      omega⟩
theorem Fill.set2 (h : Fill 2 f w B t n k l) (hk : k < n) (hlen : ∀ x, (f x).length = 2) {x : α} (hx : l[k]? = some x) {u v : Value} (hf : f x = [u, v]) :
    Fill 2 f ((w.setCell ⟨B, k * 2, none⟩ u).setCell ⟨B, k * 2 + 1, none⟩ v) B t n (k + 1) l :=
  h.step hlen hx fun cur hc hs => ⟨(cur.setIfInBounds (k * 2) u).setIfInBounds (k * 2 + 1) v, heap_setCell_same _ B _ _ t v (heap_setCell_same w B _ cur t u hc), by simp,
    fun i hi => by rw [Array.getElem?_setIfInBounds_ne (by omega), Array.getElem?_setIfInBounds_ne (by omega)], fun j z hz => by
    rw [hf] at hz
    match j, hz with
    | 0, hz =>
      simp at hz
      subst hz
      rw [Array.getElem?_setIfInBounds_ne (by omega)]
      simp [Array.getElem?_setIfInBounds]
      omega
    | 1, hz =>
      simp at hz
      subst hz
      simp [Array.getElem?_setIfInBounds]
      omega⟩
end

theorem take_step {α : Type} {l r : List α} {k : Nat} {x y : α} (h : l.take k = r.take k) (hx : l[k]? = some x) (hy : r[k]? = some y) (e : x = y) : l.take (k + 1) = r.take (k + 1) := by
  subst e
  rw [List.take_add_one, List.take_add_one, h, hx, hy]
theorem take_stop {α : Type} {l r : List α} {k : Nat} {x y : α} (hx : l[k]? = some x) (hy : r[k]? = some y) (e : x ≠ y) : l ≠ r := by
  rintro rfl
  rw [hx] at hy
  exact e (Option.some.inj hy)
theorem take_all {α : Type} {l r : List α} {k : Nat} (h : l.take k = r.take k) (hl : l.length = k) (hr : r.length = k) : l = r := by
  rw [List.take_of_length_le (by omega), List.take_of_length_le (by omega)] at h
  exact h
/-- w' is w but for blocks from lo on and below hi, and new blocks. -/
structure Only (lo hi : Nat) (w w' : World) : Prop where
  os : w'.os = w.os
  tape : w'.tape = w.tape
  output : w'.output = w.output
  size : w.heap.size ≤ w'.heap.size
  block : ∀ b, b < w.heap.size → b < lo ∨ hi ≤ b → w'.heap[b]? = w.heap[b]?

theorem Only.refl (lo hi : Nat) (w : World) : Only lo hi w w := ⟨rfl, rfl, rfl, Nat.le_refl _, fun _ _ _ => rfl⟩
theorem Only.setCell {lo hi : Nat} {a w : World} (h : Only lo hi a w) {p : Addr} (h1 : lo ≤ p.block) (h2 : p.block < hi) (u : Value) : Only lo hi a (w.setCell p u) :=
  ⟨h.os, h.tape, h.output, by simpa [World.setCell] using h.size, fun b hb ho => (Below.heap_setCell w p u b (by omega)).trans (h.block b hb ho)⟩
theorem Only.below {lo hi B : Nat} {a w w' : World} (h : Below B a w) (g : Only lo hi w w') (h1 : B ≤ lo) (h2 : B ≤ w.heap.size) : Below B a w' :=
  h.trans ⟨g.os, g.tape, g.output, g.size, fun b hb => g.block b (by omega) (by omega)⟩
theorem Sl.only {α : Type} {size : Nat} {f : α → List Value} {w w' : World} {lo hi lo' hi' n : Nat} {A : Option Addr} {l : List α} (h : Sl size f w lo hi A n l) (g : Only lo' hi' w w') (hd : hi ≤ lo' ∨ hi' ≤ lo) : Sl size f w' lo hi A n l :=
  h.keep g.size fun b h1 h2 h3 => g.block b h3 (by omega)

section
variable {w : World} {lo hi n b off : Nat}
theorem SlT.put {l : List (Int × Int)} (h : SlT w lo hi (some ⟨b, off, none⟩) n l) {k : Nat} (hk : k < n) (x y : Int) :
    SlT ((w.setCell ⟨b, off + k * 2, none⟩ (.int .i64 x)).setCell ⟨b, off + k * 2 + 1, none⟩ (.int .i64 y)) lo hi (some ⟨b, off, none⟩) n (l.set k (x, y)) := by
  refine ⟨by rw [List.length_set]; exact h.len, fun _ => ?_⟩
  obtain ⟨b', off', e, g1, g2, g3, hc⟩ := h.at_ (by omega)
  cases e
  refine ⟨b, off, rfl, g1, g2, by simpa [World.setCell] using g3, fun i z hz j u hu => ?_⟩
  have hj : j < 2 := (List.getElem?_eq_some_iff.1 hu).1
  have hil : i < l.length := by
    have := (List.getElem?_eq_some_iff.1 hz).1
    rwa [List.length_set] at this
  obtain ⟨hkc0, hkf0⟩ := hc k (l[k]'(by rw [h.len]; exact hk)) (List.getElem?_eq_getElem _) 0 _ rfl
  obtain ⟨hkc1, hkf1⟩ := hc k (l[k]'(by rw [h.len]; exact hk)) (List.getElem?_eq_getElem _) 1 _ rfl
  have hfr : ∀ (W : World) (p q : Addr) (v : Value), (W.setCell p v).frozen? q = W.frozen? q := fun W p q v => World.frozen?_setCell W p q v
  rw [hfr, hfr]
  by_cases hik : i = k
  · subst hik
    rw [List.getElem?_set_self hil] at hz
    cases hz
    match j, hu with
    | 0, hu =>
      simp [tv] at hu
      subst hu
      simp only [Nat.add_zero] at hkc0 hkf0 ⊢
      refine ⟨?_, hkf0⟩
      rw [World.cell?_setCell_other _ _ _ _ (by intro e; injection e with _ e _; omega)]
      exact World.cell?_setCell_same _ _ _ hkc0
    | 1, hu =>
      simp [tv] at hu
      subst hu
      rw [← Nat.add_assoc] at hkc1 hkf1 ⊢
      refine ⟨?_, hkf1⟩
      exact World.cell?_setCell_same _ _ _ ((World.cell?_setCell_other _ _ _ _ (by intro e; injection e with _ e _; omega)).trans hkc1)
  · rw [List.getElem?_set_ne (by omega)] at hz
    obtain ⟨h1, h2⟩ := hc i z hz j u hu
    refine ⟨?_, h2⟩
    rw [World.cell?_setCell_other _ _ _ _ (by intro e; injection e with _ e _; omega), World.cell?_setCell_other _ _ _ _ (by intro e; injection e with _ e _; omega)]
    exact h1
theorem SlI.put {l : List Int} (h : SlI w lo hi (some ⟨b, off, none⟩) n l) {k : Nat} (hk : k < n) (x : Int) :
    SlI (w.setCell ⟨b, off + k, none⟩ (.int .i64 x)) lo hi (some ⟨b, off, none⟩) n (l.set k x) := by
  refine ⟨by rw [List.length_set]; exact h.len, fun _ => ?_⟩
  obtain ⟨b', off', e, g1, g2, g3, hc⟩ := h.at_ (by omega)
  cases e
  refine ⟨b, off, rfl, g1, g2, by simpa [World.setCell] using g3, fun i z hz j u hu => ?_⟩
  have hj : j < 1 := (List.getElem?_eq_some_iff.1 hu).1
  have hil : i < l.length := by
    have := (List.getElem?_eq_some_iff.1 hz).1
    rwa [List.length_set] at this
  obtain ⟨hkc0, hkf0⟩ := hc k (l[k]'(by rw [h.len]; exact hk)) (List.getElem?_eq_getElem _) 0 _ rfl
  rw [World.frozen?_setCell]
  by_cases hik : i = k
  · subst hik
    rw [List.getElem?_set_self hil] at hz
    cases hz
    match j, hu with
    | 0, hu =>
      simp [iv] at hu
      subst hu
      simp only [Nat.add_zero, Nat.mul_one] at hkc0 hkf0 ⊢
      exact ⟨World.cell?_setCell_same _ _ _ hkc0, hkf0⟩
  · rw [List.getElem?_set_ne (by omega)] at hz
    obtain ⟨h1, h2⟩ := hc i z hz j u hu
    refine ⟨?_, h2⟩
    rw [World.cell?_setCell_other _ _ _ _ (by intro e; injection e with _ e _; omega)]
    exact h1
end

/-- A list of which the first k elements are mapped by g, the others as they were. -/
def MapK {α : Type} (g : α → α) (k : Nat) (l L : List α) : Prop := L.length = l.length ∧ (∀ i, i < k → L[i]? = (l[i]?).map g) ∧ ∀ i, k ≤ i → L[i]? = l[i]?
theorem MapK.start {α : Type} (g : α → α) (l : List α) : MapK g 0 l l := ⟨rfl, fun i hi => absurd hi (by omega), fun _ _ => rfl⟩
theorem MapK.skip {α : Type} {g : α → α} {k : Nat} {l L : List α} (h : MapK g k l L) {x : α} (hx : L[k]? = some x) (hg : g x = x) : MapK g (k + 1) l L := by
  refine ⟨h.1, fun i hi => ?_, fun i hi => h.2.2 i (by omega)⟩
  by_cases e : i = k
  · subst e
    have h1 := h.2.2 i (Nat.le_refl _)
    rw [← h1, hx]
    simp [hg]
  · exact h.2.1 i (by omega)
theorem MapK.set {α : Type} {g : α → α} {k : Nat} {l L : List α} (h : MapK g k l L) {x y : α} (hx : L[k]? = some x) (hg : g x = y) : MapK g (k + 1) l (L.set k y) := by
  have hk : k < L.length := (List.getElem?_eq_some_iff.1 hx).1
  refine ⟨by rw [List.length_set]; exact h.1, fun i hi => ?_, fun i hi => by rw [List.getElem?_set_ne (by omega)]; exact h.2.2 i (by omega)⟩
  by_cases e : i = k
  · subst e
    rw [List.getElem?_set_self hk, ← h.2.2 i (Nat.le_refl _), hx]
    simp [hg]
  · rw [List.getElem?_set_ne (by omega)]
    exact h.2.1 i (by omega)
theorem MapK.done {α : Type} {g : α → α} {k : Nat} {l L : List α} (h : MapK g k l L) (hk : l.length = k) : L = l.map g := by
  apply List.ext_getElem?
  intro i
  rw [List.getElem?_map]
  by_cases hi : i < k
  · exact h.2.1 i hi
  · rw [h.2.2 i (by omega), List.getElem?_eq_none (by omega)]
    rfl

end Go.Proofs.YtnhomkmfbngmgaaGreatDoor

namespace Go.Proofs.YtnhomkmfbngmgaaGreatDoor
set_option linter.unusedVariables false
set_option linter.unusedSimpArgs false

abbrev Rel2 := Int → Int → Prop
/-- The least set of pairs in R that is closed under F. -/
def Lf (R : Rel2) (F : Rel2 → Rel2) (x y : Int) : Prop := ∀ D : Rel2, (∀ x y, R x y → F D x y → D x y) → D x y
def MonoF (F : Rel2 → Rel2) : Prop := ∀ D E : Rel2, (∀ x y, D x y → E x y) → ∀ x y, F D x y → F E x y
theorem Lf.add {R : Rel2} {F : Rel2 → Rel2} (hm : MonoF F) {x y : Int} (hR : R x y) (h : F (Lf R F) x y) : Lf R F x y := fun D hD => hD x y hR (hm _ _ (fun u v h => h D hD) x y h)
theorem Lf.done {R : Rel2} {F : Rel2 → Rel2} {D : Rel2} (hs : ∀ x y, D x y → Lf R F x y) (hc : ∀ x y, R x y → F D x y → D x y) (x y : Int) : D x y ↔ Lf R F x y := ⟨hs x y, fun h => h D hc⟩

/-- A table of rows of answers. -/
def getM (M : List (List Bool)) (x y : Nat) : Option Bool := M[x]?.bind fun r => r[y]?
def setM (M : List (List Bool)) (x y : Nat) (b : Bool) : List (List Bool) := M.set x ((M[x]?.getD []).set y b)
theorem getM_row {M : List (List Bool)} {x y : Nat} {b : Bool} (h : getM M x y = some b) : ∃ r, M[x]? = some r ∧ r[y]? = some b := by
  unfold getM at h
  cases hr : M[x]? with
  | none => rw [hr] at h; cases h
  | some r => rw [hr] at h; exact ⟨r, rfl, h⟩
/-- n rows of p answers. -/
def ShM (n p : Nat) (M : List (List Bool)) : Prop := M.length = n ∧ ∀ r, r ∈ M → r.length = p
theorem ShM.get {n p : Nat} {M : List (List Bool)} (h : ShM n p M) {x y : Nat} (hx : x < n) (hy : y < p) : ∃ r b, M[x]? = some r ∧ r.length = p ∧ r[y]? = some b ∧ getM M x y = some b := by
  have h1 : M[x]? = some (M[x]'(by rw [h.1]; exact hx)) := List.getElem?_eq_getElem _
  have h2 := h.2 _ (List.mem_of_getElem? h1)
  have h3 : (M[x]'(by rw [h.1]; exact hx))[y]? = some ((M[x]'(by rw [h.1]; exact hx))[y]'(by rw [h2]; exact hy)) := List.getElem?_eq_getElem _
  exact ⟨_, _, h1, h2, h3, by unfold getM; rw [h1]; exact h3⟩
theorem ShM.set {n p : Nat} {M : List (List Bool)} (h : ShM n p M) {x y : Nat} (c : Bool) (hx : x < n) : ShM n p (setM M x y c) := by
  refine ⟨by unfold setM; rw [List.length_set]; exact h.1, fun r hr => ?_⟩
  unfold setM at hr
  rcases List.mem_or_eq_of_mem_set hr with h1 | h1
  · exact h.2 r h1
  · subst h1
    have h2 : M[x]? = some (M[x]'(by rw [h.1]; exact hx)) := List.getElem?_eq_getElem _
    rw [h2, List.length_set]
    exact h.2 _ (List.mem_of_getElem? h2)
theorem ShM.lt {n p : Nat} {M : List (List Bool)} (h : ShM n p M) {x y : Nat} {b : Bool} (hb : getM M x y = some b) : x < n ∧ y < p := by
  obtain ⟨r, h1, h2⟩ := getM_row hb
  have hx := (List.getElem?_eq_some_iff.1 h1).1
  have hy := (List.getElem?_eq_some_iff.1 h2).1
  rw [h.1] at hx
  rw [h.2 r (List.mem_of_getElem? h1)] at hy
  exact ⟨hx, hy⟩
def fillM (n p : Nat) (b : Bool) : List (List Bool) := List.replicate n (List.replicate p b)
theorem fillM_sh (n p : Nat) (b : Bool) : ShM n p (fillM n p b) := ⟨by simp [fillM], fun r hr => by rw [List.eq_of_mem_replicate hr, List.length_replicate]⟩
theorem fillM_get {n p : Nat} {b c : Bool} {x y : Nat} (h : getM (fillM n p b) x y = some c) : c = b := by
  obtain ⟨r, h1, h2⟩ := getM_row h
  have h3 := List.eq_of_mem_replicate (List.mem_of_getElem? h1)
  subst h3
  exact List.eq_of_mem_replicate (List.mem_of_getElem? h2)

/-- The pairs that are changed. -/
def ChM (b : Bool) (M : List (List Bool)) (x y : Int) : Prop := 0 ≤ x ∧ 0 ≤ y ∧ getM M x.toNat y.toNat = some (!b)
def RgN (n p : Nat) (x y : Int) : Prop := (0 ≤ x ∧ x < (n : Int)) ∧ 0 ≤ y ∧ y < (p : Int)
/-- The table while it is settled: what is changed is in the least set. -/
structure SetI (b : Bool) (n p : Nat) (F : Rel2 → Rel2) (M : List (List Bool)) : Prop where
  sh : ShM n p M
  sound : ∀ x y, ChM b M x y → Lf (RgN n p) F x y
theorem SetI.start (b : Bool) (n p : Nat) (F : Rel2 → Rel2) : SetI b n p F (fillM n p b) :=
  ⟨fillM_sh _ _ _, fun x y h => by have := fillM_get h.2.2; cases b <;> cases this⟩
/-- All pairs ahead of (x, y) are closed. -/
def ClosedTo (b : Bool) (p : Nat) (F : Rel2 → Rel2) (M : List (List Bool)) (x y : Nat) : Prop := ∀ u v : Nat, v < p → (u < x ∨ u = x ∧ v < y) → F (ChM b M) (u : Int) (v : Int) → ChM b M (u : Int) (v : Int)
theorem ClosedTo.start (b : Bool) (p : Nat) (F : Rel2 → Rel2) (M : List (List Bool)) : ClosedTo b p F M 0 0 := fun u v hv h => by omega
theorem ClosedTo.row {b : Bool} {p : Nat} {F : Rel2 → Rel2} {M : List (List Bool)} {x : Nat} (h : ClosedTo b p F M x p) : ClosedTo b p F M (x + 1) 0 := fun u v hv hl => h u v hv (by omega)
theorem SetI.done {b : Bool} {n p : Nat} {F : Rel2 → Rel2} {M : List (List Bool)} (h : SetI b n p F M) (hc : ClosedTo b p F M n 0) (x y : Int) : ChM b M x y ↔ Lf (RgN n p) F x y := by
  refine Lf.done h.sound (fun u v hR hF => ?_) x y
  obtain ⟨⟨h1, h2⟩, h3, h4⟩ := hR
  have := hc u.toNat v.toNat (by omega) (.inl (by omega))
  rw [Int.toNat_of_nonneg h1, Int.toNat_of_nonneg h3] at this
  exact this hF

end Go.Proofs.YtnhomkmfbngmgaaGreatDoor

namespace Go.Proofs.YtnhomkmfbngmgaaGreatDoor
set_option linter.unusedVariables false
set_option linter.unusedSimpArgs false

section
variable {β : Type}
abbrev PT (β : Type) := (Int × Int) × List β
def deadP (x : Int × Int) : Bool := decide (x.1 < 0) && decide (x.2 < 0)
/-- The search that tests what it takes from its queue. -/
inductive IRun (sc : Int × Int → List β → List (PT β)) (bad : Int × Int → Bool) : List (PT β) → List (Int × Int) → Option (List β) → Prop where
  | nil {S : List (Int × Int)} : IRun sc bad [] S none
  | skip {x : Int × Int} {t : List β} {Q : List (PT β)} {S : List (Int × Int)} {r : Option (List β)} (h : deadP x = true ∨ x ∈ S) (g : IRun sc bad Q S r) : IRun sc bad ((x, t) :: Q) S r
  | hit {x : Int × Int} {t : List β} {Q : List (PT β)} {S : List (Int × Int)} (h : ¬ (deadP x = true ∨ x ∈ S)) (hb : bad x = true) : IRun sc bad ((x, t) :: Q) S (some t)
  | go {x : Int × Int} {t : List β} {Q : List (PT β)} {S S' : List (Int × Int)} {r : Option (List β)} (h : ¬ (deadP x = true ∨ x ∈ S)) (hb : bad x = false) (hS : ∀ y, y ∈ S' ↔ y ∈ S ∨ y = x) (g : IRun sc bad (Q ++ sc x t) S' r) : IRun sc bad ((x, t) :: Q) S r
def prs (L : List (PT β)) : List (Int × Int) := L.map (·.1)
/-- Those that are not known yet, added. -/
def addU : List (PT β) → List (PT β) → List (PT β)
  | L, [] => L
  | L, e :: M => addU (if e.1 ∈ prs L then L else L ++ [e]) M
/-- The search that tests what it puts into its list. -/
inductive RRun (sc : Int × Int → List β → List (PT β)) (bad stop : Int × Int → Bool) : List (PT β) → Nat → Option (List β) → Prop where
  | nil {L : List (PT β)} {i : Nat} (h : L.length ≤ i) : RRun sc bad stop L i none
  | hit {L : List (PT β)} {i : Nat} {x : Int × Int} {t : List β} (hx : L[i]? = some (x, t)) (hb : bad x = true) : RRun sc bad stop L i (some t)
  | stop {L : List (PT β)} {i : Nat} {x : Int × Int} {t : List β} {r : Option (List β)} (hx : L[i]? = some (x, t)) (hb : bad x = false) (hs : stop x = true) (g : RRun sc bad stop L (i + 1) r) : RRun sc bad stop L i r
  | go {L : List (PT β)} {i : Nat} {x : Int × Int} {t : List β} {r : Option (List β)} (hx : L[i]? = some (x, t)) (hb : bad x = false) (hs : stop x = false) (g : RRun sc bad stop (addU L (sc x t)) (i + 1) r) : RRun sc bad stop L i r

/-- What of a queue will be looked at. -/
def filt : List (Int × Int) → List (PT β) → List (PT β)
  | _, [] => []
  | S, e :: Q => if deadP e.1 = true ∨ e.1 ∈ S then filt S Q else e :: filt (e.1 :: S) Q
theorem filt_congr {S T : List (Int × Int)} {Q : List (PT β)} (h : ∀ y, deadP y = false → (y ∈ S ↔ y ∈ T)) : filt S Q = filt T Q := by
  induction Q generalizing S T with
  | nil => rfl
  | cons e Q ih =>
    unfold filt
    cases hd : deadP e.1 with
    | true => simp only [true_or, if_true]; exact ih h
    | false =>
      simp only [Bool.false_eq_true, false_or, h _ hd]
      split
      · exact ih h
      · congr 1
        exact ih fun y hy => by simp only [List.mem_cons, h y hy]
theorem filt_app {S : List (Int × Int)} {Q M : List (PT β)} : filt S (Q ++ M) = filt S Q ++ filt (S ++ prs (filt S Q)) M := by
  induction Q generalizing S with
  | nil => simp [filt, prs]
  | cons e Q ih =>
    rw [List.cons_append]
    by_cases hc : deadP e.1 = true ∨ e.1 ∈ S
    · have h1 : filt S (e :: (Q ++ M)) = filt S (Q ++ M) := by conv => lhs; unfold filt; rw [if_pos hc]
      have h2 : filt S (e :: Q) = filt S Q := by conv => lhs; unfold filt; rw [if_pos hc]
      rw [h1, h2]
      exact ih
    · have h1 : filt S (e :: (Q ++ M)) = e :: filt (e.1 :: S) (Q ++ M) := by conv => lhs; unfold filt; rw [if_neg hc]
      have h2 : filt S (e :: Q) = e :: filt (e.1 :: S) Q := by conv => lhs; unfold filt; rw [if_neg hc]
      rw [h1, h2, ih, List.cons_append]
      congr 2
      refine filt_congr fun y _ => ?_
      simp only [prs, List.map_cons, List.mem_append, List.mem_cons]
      exact or_left_comm
theorem filt_live {S : List (Int × Int)} {Q : List (PT β)} {e : PT β} (h : e ∈ filt S Q) : deadP e.1 = false := by
  induction Q generalizing S with
  | nil => cases h
  | cons a Q ih =>
    unfold filt at h
    split at h
    · exact ih h
    · rename_i hn
      rcases List.mem_cons.1 h with rfl | h
      · exact Bool.eq_false_iff.2 fun g => hn (.inl g)
      · exact ih h
def live (L : List (PT β)) : List (PT β) := L.filter fun e => !(deadP e.1)
/-- What is added, but for the dead, is what the queue will look at. -/
theorem addU_live {L M : List (PT β)} : ∃ N, addU L M = L ++ N ∧ live N = filt (prs L) M := by
  induction M generalizing L with
  | nil => exact ⟨[], by simp [addU], rfl⟩
  | cons e M ih =>
    unfold addU filt
    by_cases hm : e.1 ∈ prs L
    · obtain ⟨N, h1, h2⟩ := ih (L := L)
      rw [if_pos hm, if_pos (.inr hm)]
      exact ⟨N, h1, h2⟩
    · obtain ⟨N, h1, h2⟩ := ih (L := L ++ [e])
      rw [if_neg hm]
      refine ⟨e :: N, by rw [h1, List.append_assoc]; rfl, ?_⟩
      cases hd : deadP e.1 with
      | true =>
        rw [if_pos (.inl rfl)]
        unfold live at h2 ⊢
        rw [List.filter_cons_of_neg (by rw [hd]; decide), h2]
        refine filt_congr fun y hy => ?_
        simp only [prs, List.map_append, List.mem_append, List.map_cons, List.map_nil, List.mem_singleton]
        constructor
        · rintro (h | rfl)
          · exact h
          · rw [hd] at hy; cases hy
        · exact .inl
      | false =>
        rw [if_neg (by rintro (h | h); cases h; exact hm h)]
        unfold live at h2 ⊢
        rw [List.filter_cons_of_pos (by rw [hd]; decide), h2]
        congr 1
        refine filt_congr fun y hy => ?_
        simp only [prs, List.map_append, List.mem_append, List.map_cons, List.map_nil, List.mem_singleton, List.mem_cons, List.not_mem_nil, or_false]
        exact Or.comm

variable {sc : Int × Int → List β → List (PT β)} {bad stop : Int × Int → Bool}
/-- All that is left is dead: nothing is found. -/
theorem RRun.dead (hbd : ∀ x, deadP x = true → bad x = false ∧ stop x = true) {L : List (PT β)} {i : Nat} {r : Option (List β)} (h : RRun sc bad stop L i r) (hl : live (L.drop i) = []) : r = none := by
  induction h with
  | nil h => rfl
  | @hit L i x t hx hb =>
    exfalso
    have h1 : (x, t) ∈ L.drop i := by rw [List.drop_eq_getElem_cons (List.getElem?_eq_some_iff.1 hx).1, (List.getElem?_eq_some_iff.1 hx).2]; exact List.mem_cons_self ..
    cases hd : deadP x with
    | true => have := (hbd x hd).1; rw [hb] at this; cases this
    | false =>
      have : (x, t) ∈ live (L.drop i) := List.mem_filter.2 ⟨h1, by simp [hd]⟩
      rw [hl] at this
      cases this
  | @stop L i x t r hx hb hs g ih =>
    apply ih
    rw [List.drop_eq_getElem_cons (List.getElem?_eq_some_iff.1 hx).1] at hl
    unfold live at hl ⊢
    rw [List.filter_cons] at hl
    split at hl
    · cases hl
    · exact hl
  | @go L i x t r hx hb hs g ih =>
    exfalso
    cases hd : deadP x with
    | true => have := (hbd x hd).2; rw [hs] at this; cases this
    | false =>
      have h1 : (x, t) ∈ L.drop i := by rw [List.drop_eq_getElem_cons (List.getElem?_eq_some_iff.1 hx).1, (List.getElem?_eq_some_iff.1 hx).2]; exact List.mem_cons_self ..
      have : (x, t) ∈ live (L.drop i) := List.mem_filter.2 ⟨h1, by simp [hd]⟩
      rw [hl] at this
      cases this
/-- The search goes on to the first that is not dead. -/
theorem RRun.first (hbd : ∀ x, deadP x = true → bad x = false ∧ stop x = true) {L : List (PT β)} {i : Nat} {r : Option (List β)} (h : RRun sc bad stop L i r) {e : PT β} {M : List (PT β)} (hl : live (L.drop i) = e :: M) : ∃ j, L[j]? = some e ∧ live (L.drop (j + 1)) = M ∧ RRun sc bad stop L j r := by
  have step : ∀ {L : List (PT β)} {i : Nat} {x : Int × Int} {t : List β}, L[i]? = some (x, t) → live (L.drop i) = e :: M → (deadP x = true ∧ live (L.drop (i + 1)) = e :: M) ∨ ((x, t) = e ∧ live (L.drop (i + 1)) = M) := fun {L i x t} hx hl => by
    rw [List.drop_eq_getElem_cons (List.getElem?_eq_some_iff.1 hx).1, (List.getElem?_eq_some_iff.1 hx).2] at hl
    unfold live at hl ⊢
    rw [List.filter_cons] at hl
    split at hl
    · injection hl with h1 h2
      exact .inr ⟨h1, h2⟩
    · rename_i hd
      exact .inl ⟨by simpa using hd, hl⟩
  induction h with
  | nil h => rw [List.drop_eq_nil_of_le h] at hl; cases hl
  | @hit L i x t hx hb =>
    rcases step hx hl with ⟨hd, h1⟩ | ⟨rfl, h1⟩
    · have := (hbd x hd).1; rw [hb] at this; cases this
    · exact ⟨i, hx, h1, .hit hx hb⟩
  | @stop L i x t r hx hb hs g ih =>
    rcases step hx hl with ⟨hd, h1⟩ | ⟨rfl, h1⟩
    · exact ih h1
    · exact ⟨i, hx, h1, .stop hx hb hs g⟩
  | @go L i x t r hx hb hs g ih =>
    rcases step hx hl with ⟨hd, h1⟩ | ⟨rfl, h1⟩
    · have := (hbd x hd).2; rw [hs] at this; cases this
    · exact ⟨i, hx, h1, .go hx hb hs g⟩

/-- Both searches stand at the same place. -/
theorem runs_same {badI : Int × Int → Bool} (hbd : ∀ x, deadP x = true → bad x = false ∧ stop x = true) (hbI : ∀ x, deadP x = false → badI x = bad x) (hst : ∀ x t, deadP x = false → bad x = false → stop x = true → ∀ e ∈ sc x t, deadP e.1 = true)
    {Q : List (PT β)} {S : List (Int × Int)} {r : Option (List β)} (h : IRun sc badI Q S r) : ∀ {L : List (PT β)} {i : Nat} {r' : Option (List β)}, live (L.drop i) = filt S Q → (∀ y, deadP y = false → (y ∈ prs L ↔ y ∈ S ∨ y ∈ prs (filt S Q))) → RRun sc bad stop L i r' → r = r' := by
  induction h with
  | nil => intro L i r' h1 _ g; exact (g.dead hbd h1).symm
  | @skip x t Q S r hx g ih =>
    intro L i r' h1 h2 g'
    have : filt S ((x, t) :: Q) = filt S Q := by conv => lhs; unfold filt; rw [if_pos hx]
    rw [this] at h1 h2
    exact ih h1 h2 g'
  | @hit x t Q S hx hb =>
    intro L i r' h1 h2 g'
    have hd : deadP x = false := Bool.eq_false_iff.2 fun g => hx (.inl g)
    have : filt S ((x, t) :: Q) = (x, t) :: filt (x :: S) Q := by conv => lhs; unfold filt; rw [if_neg hx]
    rw [this] at h1
    obtain ⟨j, hj, -, g''⟩ := g'.first hbd h1
    rw [hbI x hd] at hb
    cases g'' with
    | nil h => exact absurd (List.getElem?_eq_some_iff.1 hj).1 (by omega)
    | hit hx' hb' => rw [hj] at hx'; injection hx' with e; injection e with e1 e2; rw [e2]
    | stop hx' hb' hs' g3 => rw [hj] at hx'; injection hx' with e; injection e with e1 e2; rw [← e1, hb] at hb'; cases hb'
    | go hx' hb' hs' g3 => rw [hj] at hx'; injection hx' with e; injection e with e1 e2; rw [← e1, hb] at hb'; cases hb'
  | @go x t Q S S' r hx hb hS g ih =>
    intro L i r' h1 h2 g'
    have hd : deadP x = false := Bool.eq_false_iff.2 fun g => hx (.inl g)
    have hf : filt S ((x, t) :: Q) = (x, t) :: filt (x :: S) Q := by conv => lhs; unfold filt; rw [if_neg hx]
    rw [hf] at h1 h2
    obtain ⟨j, hj, hj2, g''⟩ := g'.first hbd h1
    rw [hbI x hd] at hb
    have hS' : filt S' Q = filt (x :: S) Q := filt_congr fun y _ => by rw [hS, List.mem_cons]; exact Or.comm
    have hfa : filt S' (Q ++ sc x t) = filt (x :: S) Q ++ filt (prs L) (sc x t) := by
      rw [filt_app, hS']
      congr 1
      refine filt_congr fun y hy => ?_
      rw [h2 y hy, List.mem_append, hS]
      simp only [prs, List.map_cons, List.mem_cons]
      constructor
      · rintro ((h | h) | h)
        · exact .inl h
        · exact .inr (.inl h)
        · exact .inr (.inr h)
      · rintro (h | h | h)
        · exact .inl (.inl h)
        · exact .inl (.inr h)
        · exact .inr h
    have hmem : ∀ y, deadP y = false → (y ∈ prs L ↔ y ∈ S' ∨ y ∈ prs (filt (x :: S) Q)) := fun y hy => by
      rw [h2 y hy, hS]
      simp only [prs, List.map_cons, List.mem_cons]
      constructor
      · rintro (h | h | h)
        · exact .inl (.inl h)
        · exact .inl (.inr h)
        · exact .inr h
      · rintro ((h | h) | h)
        · exact .inl h
        · exact .inr (.inl h)
        · exact .inr (.inr h)
    cases g'' with
    | nil h => exact absurd (List.getElem?_eq_some_iff.1 hj).1 (by omega)
    | hit hx' hb' => rw [hj] at hx'; injection hx' with e; injection e with e1 e2; rw [← e1, hb] at hb'; cases hb'
    | stop hx' hb' hs' g3 =>
      rw [hj] at hx'
      injection hx' with e
      injection e with e1 e2
      subst e1 e2
      have hall := hst x t hd hb hs'
      have hno : filt (prs L) (sc x t) = [] := by
        cases hq : filt (prs L) (sc x t) with
        | nil => rfl
        | cons a M =>
          have h5 := filt_live (S := prs L) (Q := sc x t) (e := a) (by rw [hq]; exact List.mem_cons_self ..)
          have h6 : a ∈ sc x t := by
            have key : ∀ {T : List (Int × Int)} {Q : List (PT β)} {e : PT β}, e ∈ filt T Q → e ∈ Q := fun {T Q e} h => by
              induction Q generalizing T with
              | nil => cases h
              | cons b Q ih =>
                unfold filt at h
                split at h
                · exact List.mem_cons_of_mem _ (ih h)
                · rcases List.mem_cons.1 h with rfl | h
                  · exact List.mem_cons_self ..
                  · exact List.mem_cons_of_mem _ (ih h)
            exact key (T := prs L) (by rw [hq]; exact List.mem_cons_self ..)
          rw [hall a h6] at h5
          cases h5
      rw [hno, List.append_nil] at hfa
      exact ih (by rw [hfa]; exact hj2) (fun y hy => by rw [hfa]; exact hmem y hy) g3
    | go hx' hb' hs' g3 =>
      rw [hj] at hx'
      injection hx' with e
      injection e with e1 e2
      subst e1 e2
      obtain ⟨N, hN1, hN2⟩ := addU_live (L := L) (M := sc x t)
      rw [hN1] at g3
      have hjl := (List.getElem?_eq_some_iff.1 hj).1
      refine ih ?_ (fun y hy => ?_) g3
      · rw [hfa, List.drop_append_of_le_length (by omega)]
        unfold live at hj2 hN2 ⊢
        rw [List.filter_append, hj2, hN2]
      · rw [hfa]
        have h7 : y ∈ prs N ↔ y ∈ prs (filt (prs L) (sc x t)) := by
          rw [← hN2]
          unfold prs live
          rw [List.mem_map, List.mem_map]
          constructor
          · rintro ⟨e, he, rfl⟩
            exact ⟨e, List.mem_filter.2 ⟨he, by simp [hy]⟩, rfl⟩
          · rintro ⟨e, he, rfl⟩
            exact ⟨e, (List.mem_filter.1 he).1, rfl⟩
        have h8 : y ∈ prs (L ++ N) ↔ y ∈ prs L ∨ y ∈ prs N := by unfold prs; rw [List.map_append, List.mem_append]
        have h9 : y ∈ prs (filt (x :: S) Q ++ filt (prs L) (sc x t)) ↔ y ∈ prs (filt (x :: S) Q) ∨ y ∈ prs (filt (prs L) (sc x t)) := by unfold prs; rw [List.map_append, List.mem_append]
        rw [h8, h9, hmem y hy, h7, or_assoc]
theorem runs_start {badI : Int × Int → Bool} (hbd : ∀ x, deadP x = true → bad x = false ∧ stop x = true) (hbI : ∀ x, deadP x = false → badI x = bad x) (hst : ∀ x t, deadP x = false → bad x = false → stop x = true → ∀ e ∈ sc x t, deadP e.1 = true)
    {x : Int × Int} (hx : deadP x = false) {r r' : Option (List β)} (h : IRun sc badI [(x, [])] [] r) (g : RRun sc bad stop [(x, [])] 0 r') : r = r' := by
  have hf : filt [] [(x, ([] : List β))] = [(x, [])] := by
    unfold filt
    rw [if_neg (by rw [hx]; simp)]
    rfl
  refine runs_same hbd hbI hst h ?_ (fun y hy => ?_) g
  · rw [hf]
    unfold live
    simp [hx]
  · rw [hf]
    simp [prs]
end

end Go.Proofs.YtnhomkmfbngmgaaGreatDoor

namespace Go.Proofs.YtnhomkmfbngmgaaGreatDoor
set_option linter.unusedVariables false
set_option linter.unusedSimpArgs false

section
variable {β : Type} {sc : Int × Int → List β → List (PT β)} {bad stop : Int × Int → Bool}
theorem RRun.uniq {L : List (PT β)} {i : Nat} {r : Option (List β)} (h : RRun sc bad stop L i r) : ∀ {r' : Option (List β)}, RRun sc bad stop L i r' → r = r' := by
  induction h with
  | @nil L i h =>
    intro r' g
    have no : ∀ {z : PT β}, L[i]? = some z → False := fun e => absurd (List.getElem?_eq_some_iff.1 e).1 (by omega)
    cases g with
    | nil h => rfl
    | hit hx hb => exact (no hx).elim
    | stop hx hb hs g => exact (no hx).elim
    | go hx hb hs g => exact (no hx).elim
  | @hit L i x t hx hb =>
    intro r' g
    cases g with
    | nil h => exact absurd (List.getElem?_eq_some_iff.1 hx).1 (by omega)
    | hit hx' hb' => rw [hx] at hx'; injection hx' with e; injection e with e1 e2; rw [e2]
    | stop hx' hb' hs g => rw [hx] at hx'; injection hx' with e; injection e with e1 e2; rw [← e1, hb] at hb'; cases hb'
    | go hx' hb' hs g => rw [hx] at hx'; injection hx' with e; injection e with e1 e2; rw [← e1, hb] at hb'; cases hb'
  | @stop L i x t r hx hb hs g0 ih =>
    intro r' g
    cases g with
    | nil h => exact absurd (List.getElem?_eq_some_iff.1 hx).1 (by omega)
    | hit hx' hb' => rw [hx] at hx'; injection hx' with e; injection e with e1 e2; rw [← e1, hb] at hb'; cases hb'
    | stop hx' hb' hs' g => exact ih g
    | go hx' hb' hs' g => rw [hx] at hx'; injection hx' with e; injection e with e1 e2; rw [← e1, hs] at hs'; cases hs'
  | @go L i x t r hx hb hs g0 ih =>
    intro r' g
    cases g with
    | nil h => exact absurd (List.getElem?_eq_some_iff.1 hx).1 (by omega)
    | hit hx' hb' => rw [hx] at hx'; injection hx' with e; injection e with e1 e2; rw [← e1, hb] at hb'; cases hb'
    | stop hx' hb' hs' g => rw [hx] at hx'; injection hx' with e; injection e with e1 e2; rw [← e1, hs] at hs'; cases hs'
    | go hx' hb' hs' g =>
      rw [hx] at hx'
      injection hx' with e
      injection e with e1 e2
      subst e1 e2
      exact ih g
/-- The answer of the search, if it ends. -/
noncomputable def runF (sc : Int × Int → List β → List (PT β)) (bad stop : Int × Int → Bool) (L : List (PT β)) : Option (List β) := open Classical in if h : ∃ r, RRun sc bad stop L 0 r then h.choose else none
theorem RRun.val {L : List (PT β)} {r : Option (List β)} (h : RRun sc bad stop L 0 r) : r = runF sc bad stop L := by
  have he : ∃ r, RRun sc bad stop L 0 r := ⟨r, h⟩
  unfold runF
  rw [dif_pos he]
  exact h.uniq he.choose_spec
end

end Go.Proofs.YtnhomkmfbngmgaaGreatDoor

namespace Go.Proofs
open Go.Shelf
def Tryz.lays156_ren : Go.Shelf.Ren := ⟨fun | 156 => 123 | 165 => 217 | 166 => 218 | 169 => 219 | 240 => 275 | 241 => 276 | 276 => 333 | 277 => 334 | n => n, fun | 31 => 24 | 9 => 9 | 3 => 3 | 4 => 4 | 0 => 0 | 20 => 20 | 72 => 234 | 76 => 236 | 70 => 232 | 37 => 22 | 75 => 224 | 127 => 277 | 164 => 320 | 5 => 5 | 80 => 238 | n => n, fun | n => n⟩
theorem Tryz.lays156 : Go.Proofs.Lays.n156 Tryz.prog Tryz.lays156_ren := {
  mixed := by kernel_rfl
  f156 := Tryz.func123.trans (congrArg some (by kernel_rfl))
  f165 := Tryz.func217.trans (congrArg some (by kernel_rfl))
  f166 := Tryz.func218.trans (congrArg some (by kernel_rfl))
  f169 := Tryz.func219.trans (congrArg some (by kernel_rfl))
  f240 := Tryz.func275.trans (congrArg some (by kernel_rfl))
  f241 := Tryz.func276.trans (congrArg some (by kernel_rfl))
  f276 := Tryz.func333.trans (congrArg some (by kernel_rfl))
  f277 := Tryz.func334.trans (congrArg some (by kernel_rfl))
  t0 := Tryz.underlying0
  a0 := Tryz.isAgg0
  z0 := Tryz.sizeOf0
  v0 := Tryz.zeroValue0
  t3 := Tryz.underlying3
  a3 := Tryz.isAgg3
  z3 := Tryz.sizeOf3
  v3 := Tryz.zeroValue3
  t4 := Tryz.underlying4
  a4 := Tryz.isAgg4
  z4 := Tryz.sizeOf4
  v4 := Tryz.zeroValue4
  t9 := Tryz.underlying9
  a9 := Tryz.isAgg9
  z9 := Tryz.sizeOf9
  v9 := Tryz.zeroValue9
  t20 := Tryz.underlying20
  a20 := Tryz.isAgg20
  z20 := Tryz.sizeOf20
  v20 := Tryz.zeroValue20
  t31 := Tryz.underlying24
  a31 := Tryz.isAgg24
  z31 := Tryz.sizeOf24
  v31 := Tryz.zeroValue24
  t37 := Tryz.underlying22
  a37 := Tryz.isAgg22
  z37 := Tryz.sizeOf22
  v37 := Tryz.zeroValue22
  t70 := Tryz.underlying232
  a70 := Tryz.isAgg232
  z70 := Tryz.sizeOf232
  v70 := Tryz.zeroValue232
  t72 := Tryz.underlying234
  a72 := Tryz.isAgg234
  z72 := Tryz.sizeOf234
  v72 := Tryz.zeroValue234
  t75 := Tryz.underlying224
  a75 := Tryz.isAgg224
  z75 := Tryz.sizeOf224
  v75 := Tryz.zeroValue224
  t76 := Tryz.underlying236
  a76 := Tryz.isAgg236
  z76 := Tryz.sizeOf236
  v76 := Tryz.zeroValue236
  t127 := Tryz.underlying277
  a127 := Tryz.isAgg277
  z127 := Tryz.sizeOf277
  v127 := Tryz.zeroValue277
  t164 := Tryz.underlying320
  a164 := Tryz.isAgg320
  z164 := Tryz.sizeOf320
  v164 := Tryz.zeroValue320 }
theorem Tryz.Builder_Extra_156 : Builder.Extra Tryz.prog Tryz.lays156_ren := {
  sizeBuilder := by kernel_rfl
  liesBuilder := by kernel_rfl
  t5 := Tryz.underlying5
  a5 := Tryz.isAgg5
  z5 := Tryz.sizeOf5
  v5 := Tryz.zeroValue5
  infoByte := by kernel_rfl
  cellsByte := by kernel_rfl
  sizeByte := by kernel_rfl
  neB5 := by decide }
open Go.RowKit in
/-- strings.Join: "Join concatenates the elements of its first argument to create a single string. The separator string sep is placed between elements in the resulting string.": HOWEVER MANY ELEMENTS. Below the heap's end the world is as it was. (LAID: no walk: one application.) -/
theorem Tryz.strings_Join (bk o c : Nat) (xs : List ByteArray) (sep : ByteArray) (w : World) (hcells : ∀ (j : Nat) x, xs[j]? = some x → w.cell? ⟨bk, o + j, none⟩ = some (.string x)) (hbk : bk < w.heap.size) (hN : xs.length ≤ 140737488355328) (hcap : xs.length ≤ c) (hlen : (Lib.join (xs.map (·.data.toList)) sep.data.toList).length ≤ 140737488355328) :
    Calls Tryz.prog 123 #[.slice (some ⟨bk, o, none⟩) xs.length c, .string sep] w fun e w' => e = .returned (.string ⟨(Lib.join (xs.map (·.data.toList)) sep.data.toList).toArray⟩) ∧ Below w.heap.size w w' := Any.strings_Join Tryz.lays156 Tryz.Builder_Extra_156 bk o c xs sep w hcells hbk hN hcap hlen
def Tryz.laysM173_ren : Go.Shelf.Ren := ⟨fun | 173 => 124 | 246 => 220 | 283 => 277 | 284 => 278 | 285 => 279 | 286 => 280 | 129 => 290 | 317 => 335 | 318 => 336 | 319 => 337 | 320 => 338 | 337 => 372 | 338 => 373 | n => n, fun | 2 => 2 | 3 => 3 | 9 => 9 | 4 => 4 | 171 => 278 | 0 => 0 | 53 => 137 | 37 => 22 | 5 => 5 | 173 => 281 | 212 => 324 | 51 => 292 | 20 => 20 | 213 => 325 | 46 => 243 | 232 => 363 | 233 => 364 | n => n, fun | 17 => 1 | 18 => 6 | 19 => 7 | n => n⟩
theorem Tryz.laysM173 : Go.Proofs.LaysM.n173 Tryz.prog Tryz.laysM173_ren := {
  mixed := by kernel_rfl
  f129 := Tryz.func290.trans (congrArg some (by kernel_rfl))
  f173 := Tryz.func124.trans (congrArg some (by kernel_rfl))
  f246 := Tryz.func220.trans (congrArg some (by kernel_rfl))
  f283 := Tryz.func277.trans (congrArg some (by kernel_rfl))
  f284 := Tryz.func278.trans (congrArg some (by kernel_rfl))
  f285 := Tryz.func279.trans (congrArg some (by kernel_rfl))
  f286 := Tryz.func280.trans (congrArg some (by kernel_rfl))
  f317 := Tryz.func335.trans (congrArg some (by kernel_rfl))
  f318 := Tryz.func336.trans (congrArg some (by kernel_rfl))
  f319 := Tryz.func337.trans (congrArg some (by kernel_rfl))
  f320 := Tryz.func338.trans (congrArg some (by kernel_rfl))
  f337 := Tryz.func372.trans (congrArg some (by kernel_rfl))
  f338 := Tryz.func373.trans (congrArg some (by kernel_rfl))
  t0 := Tryz.underlying0
  a0 := Tryz.isAgg0
  z0 := Tryz.sizeOf0
  v0 := Tryz.zeroValue0
  t2 := Tryz.underlying2
  a2 := Tryz.isAgg2
  z2 := Tryz.sizeOf2
  v2 := Tryz.zeroValue2
  t3 := Tryz.underlying3
  a3 := Tryz.isAgg3
  z3 := Tryz.sizeOf3
  v3 := Tryz.zeroValue3
  t4 := Tryz.underlying4
  a4 := Tryz.isAgg4
  z4 := Tryz.sizeOf4
  v4 := Tryz.zeroValue4
  t5 := Tryz.underlying5
  a5 := Tryz.isAgg5
  z5 := Tryz.sizeOf5
  v5 := Tryz.zeroValue5
  t9 := Tryz.underlying9
  a9 := Tryz.isAgg9
  z9 := Tryz.sizeOf9
  v9 := Tryz.zeroValue9
  t20 := Tryz.underlying20
  a20 := Tryz.isAgg20
  z20 := Tryz.sizeOf20
  v20 := Tryz.zeroValue20
  t37 := Tryz.underlying22
  a37 := Tryz.isAgg22
  z37 := Tryz.sizeOf22
  v37 := Tryz.zeroValue22
  t46 := Tryz.underlying243
  a46 := Tryz.isAgg243
  z46 := Tryz.sizeOf243
  v46 := Tryz.zeroValue243
  t51 := Tryz.underlying292
  a51 := Tryz.isAgg292
  z51 := Tryz.sizeOf292
  v51 := Tryz.zeroValue292
  t53 := Tryz.underlying137
  a53 := Tryz.isAgg137
  z53 := Tryz.sizeOf137
  v53 := Tryz.zeroValue137
  t171 := Tryz.underlying278
  a171 := Tryz.isAgg278
  z171 := Tryz.sizeOf278
  v171 := Tryz.zeroValue278
  t173 := Tryz.underlying281
  a173 := Tryz.isAgg281
  z173 := Tryz.sizeOf281
  v173 := Tryz.zeroValue281
  t212 := Tryz.underlying324
  a212 := Tryz.isAgg324
  z212 := Tryz.sizeOf324
  v212 := Tryz.zeroValue324
  t213 := Tryz.underlying325
  a213 := Tryz.isAgg325
  z213 := Tryz.sizeOf325
  t232 := Tryz.underlying363
  a232 := Tryz.isAgg363
  z232 := Tryz.sizeOf363
  v232 := Tryz.zeroValue363
  t233 := Tryz.underlying364
  a233 := Tryz.isAgg364
  z233 := Tryz.sizeOf364
  v233 := Tryz.zeroValue364
  g17 := by kernel_rfl
  g18 := by kernel_rfl
  g19 := by kernel_rfl
  i0 := by kernel_rfl
  i2 := by kernel_rfl
  i3 := by kernel_rfl
  i4 := by kernel_rfl
  i5 := by kernel_rfl
  i9 := by kernel_rfl
  i20 := by kernel_rfl
  i37 := by kernel_rfl
  i46 := by kernel_rfl
  i51 := by kernel_rfl
  i53 := by kernel_rfl
  i171 := by kernel_rfl
  i173 := by kernel_rfl
  i212 := by kernel_rfl
  i232 := by kernel_rfl
  i233 := by kernel_rfl
  m17 := by kernel_rfl
  m18 := by kernel_rfl
  m19 := by kernel_rfl }
open Go.RowKit Go.Sort Go.Lib in
/-- strconv.FormatInt: "FormatInt returns the string representation of i in the given base": AT BASE 10: i's decimal numeral, for every int64. (LAID: no walk: one application.) -/
theorem Tryz.strconv_FormatInt_10 (n : Int) (h0 : -9223372036854775808 ≤ n) (h1 : n ≤ 9223372036854775807) (w : World) (htab : Lib.TabIs Tryz.prog w "internal/strconv.uint64pow10" .u64 Lib.pow10Tab) :
    Calls Tryz.prog 124 #[.int .i64 n, .int .i64 10] w fun e w' => e = .returned (.string ⟨(Lib.itoa n).toArray⟩) ∧ ∃ k os, w' = grow (w.drewN k) os := Any.strconv_FormatInt_10 Tryz.laysM173 n h0 h1 w htab
def Tryz.laysC174_ren : Go.Shelf.Ren := ⟨fun | 174 => 214 | 247 => 272 | 245 => 273 | 287 => 328 | 279 => 329 | 280 => 330 | 281 => 331 | 282 => 332 | 321 => 367 | 322 => 368 | 316 => 369 | 171 => 371 | 205 => 370 | 243 => 385 | 246 => 220 | 283 => 277 | 284 => 278 | 285 => 279 | 286 => 280 | 129 => 290 | 317 => 335 | 318 => 336 | 319 => 337 | 320 => 338 | 337 => 372 | 338 => 373 | n => n, fun | 9 => 9 | 3 => 3 | 2 => 2 | 75 => 224 | 85 => 225 | 4 => 4 | 167 => 314 | 5 => 5 | 53 => 137 | 175 => 315 | 46 => 243 | 168 => 317 | 37 => 22 | 0 => 0 | 210 => 350 | 21 => 21 | 127 => 277 | 145 => 362 | 143 => 360 | 171 => 278 | 173 => 281 | 212 => 324 | 51 => 292 | 20 => 20 | 213 => 325 | 232 => 363 | 233 => 364 | 80 => 238 | n => n, fun | 15 => 4 | 16 => 5 | 17 => 1 | 18 => 6 | 19 => 7 | n => n⟩
theorem Tryz.laysC174 : Go.Proofs.LaysC.n174 Tryz.prog Tryz.laysC174_ren := {
  mixed := by kernel_rfl
  f129 := Tryz.func290.trans (congrArg some (by kernel_rfl))
  f171 := Tryz.func371.trans (congrArg some (by kernel_rfl))
  f174 := Tryz.func214.trans (congrArg some (by kernel_rfl))
  f205 := Tryz.func370.trans (congrArg some (by kernel_rfl))
  f243 := Tryz.func385.trans (congrArg some (by kernel_rfl))
  f245 := Tryz.func273.trans (congrArg some (by kernel_rfl))
  f246 := Tryz.func220.trans (congrArg some (by kernel_rfl))
  f247 := Tryz.func272.trans (congrArg some (by kernel_rfl))
  f279 := Tryz.func329.trans (congrArg some (by kernel_rfl))
  f280 := Tryz.func330.trans (congrArg some (by kernel_rfl))
  f281 := Tryz.func331.trans (congrArg some (by kernel_rfl))
  f282 := Tryz.func332.trans (congrArg some (by kernel_rfl))
  f283 := Tryz.func277.trans (congrArg some (by kernel_rfl))
  f284 := Tryz.func278.trans (congrArg some (by kernel_rfl))
  f285 := Tryz.func279.trans (congrArg some (by kernel_rfl))
  f286 := Tryz.func280.trans (congrArg some (by kernel_rfl))
  f287 := Tryz.func328.trans (congrArg some (by kernel_rfl))
  f316 := Tryz.func369.trans (congrArg some (by kernel_rfl))
  f317 := Tryz.func335.trans (congrArg some (by kernel_rfl))
  f318 := Tryz.func336.trans (congrArg some (by kernel_rfl))
  f319 := Tryz.func337.trans (congrArg some (by kernel_rfl))
  f320 := Tryz.func338.trans (congrArg some (by kernel_rfl))
  f321 := Tryz.func367.trans (congrArg some (by kernel_rfl))
  f322 := Tryz.func368.trans (congrArg some (by kernel_rfl))
  f337 := Tryz.func372.trans (congrArg some (by kernel_rfl))
  f338 := Tryz.func373.trans (congrArg some (by kernel_rfl))
  t0 := Tryz.underlying0
  a0 := Tryz.isAgg0
  z0 := Tryz.sizeOf0
  v0 := Tryz.zeroValue0
  t2 := Tryz.underlying2
  a2 := Tryz.isAgg2
  z2 := Tryz.sizeOf2
  v2 := Tryz.zeroValue2
  t3 := Tryz.underlying3
  a3 := Tryz.isAgg3
  z3 := Tryz.sizeOf3
  v3 := Tryz.zeroValue3
  t4 := Tryz.underlying4
  a4 := Tryz.isAgg4
  z4 := Tryz.sizeOf4
  v4 := Tryz.zeroValue4
  t5 := Tryz.underlying5
  a5 := Tryz.isAgg5
  z5 := Tryz.sizeOf5
  v5 := Tryz.zeroValue5
  t9 := Tryz.underlying9
  a9 := Tryz.isAgg9
  z9 := Tryz.sizeOf9
  v9 := Tryz.zeroValue9
  t20 := Tryz.underlying20
  a20 := Tryz.isAgg20
  z20 := Tryz.sizeOf20
  v20 := Tryz.zeroValue20
  t21 := Tryz.underlying21
  a21 := Tryz.isAgg21
  z21 := Tryz.sizeOf21
  v21 := Tryz.zeroValue21
  t37 := Tryz.underlying22
  a37 := Tryz.isAgg22
  z37 := Tryz.sizeOf22
  v37 := Tryz.zeroValue22
  t46 := Tryz.underlying243
  a46 := Tryz.isAgg243
  z46 := Tryz.sizeOf243
  v46 := Tryz.zeroValue243
  t51 := Tryz.underlying292
  a51 := Tryz.isAgg292
  z51 := Tryz.sizeOf292
  v51 := Tryz.zeroValue292
  t53 := Tryz.underlying137
  a53 := Tryz.isAgg137
  z53 := Tryz.sizeOf137
  v53 := Tryz.zeroValue137
  t75 := Tryz.underlying224
  a75 := Tryz.isAgg224
  z75 := Tryz.sizeOf224
  v75 := Tryz.zeroValue224
  t85 := Tryz.underlying225
  a85 := Tryz.isAgg225
  z85 := Tryz.sizeOf225
  v85 := Tryz.zeroValue225
  t127 := Tryz.underlying277
  a127 := Tryz.isAgg277
  z127 := Tryz.sizeOf277
  v127 := Tryz.zeroValue277
  t143 := Tryz.underlying360
  a143 := Tryz.isAgg360
  z143 := Tryz.sizeOf360
  v143 := Tryz.zeroValue360
  t145 := Tryz.underlying362
  a145 := Tryz.isAgg362
  z145 := Tryz.sizeOf362
  v145 := Tryz.zeroValue362
  t167 := Tryz.underlying314
  a167 := Tryz.isAgg314
  z167 := Tryz.sizeOf314
  v167 := Tryz.zeroValue314
  t168 := Tryz.underlying317
  a168 := Tryz.isAgg317
  z168 := Tryz.sizeOf317
  v168 := Tryz.zeroValue317
  t171 := Tryz.underlying278
  a171 := Tryz.isAgg278
  z171 := Tryz.sizeOf278
  v171 := Tryz.zeroValue278
  t173 := Tryz.underlying281
  a173 := Tryz.isAgg281
  z173 := Tryz.sizeOf281
  v173 := Tryz.zeroValue281
  t175 := Tryz.underlying315
  a175 := Tryz.isAgg315
  z175 := Tryz.sizeOf315
  v175 := Tryz.zeroValue315
  t210 := Tryz.underlying350
  a210 := Tryz.isAgg350
  z210 := Tryz.sizeOf350
  v210 := Tryz.zeroValue350
  t212 := Tryz.underlying324
  a212 := Tryz.isAgg324
  z212 := Tryz.sizeOf324
  v212 := Tryz.zeroValue324
  t213 := Tryz.underlying325
  a213 := Tryz.isAgg325
  z213 := Tryz.sizeOf325
  t232 := Tryz.underlying363
  a232 := Tryz.isAgg363
  z232 := Tryz.sizeOf363
  v232 := Tryz.zeroValue363
  t233 := Tryz.underlying364
  a233 := Tryz.isAgg364
  z233 := Tryz.sizeOf364
  v233 := Tryz.zeroValue364
  g15 := by kernel_rfl
  g16 := by kernel_rfl
  g17 := by kernel_rfl
  g18 := by kernel_rfl
  g19 := by kernel_rfl
  t80 := Tryz.underlying238
  a80 := Tryz.isAgg238
  z80 := Tryz.sizeOf238
  v80 := Tryz.zeroValue238
  i0 := by kernel_rfl
  i2 := by kernel_rfl
  i3 := by kernel_rfl
  i4 := by kernel_rfl
  i5 := by kernel_rfl
  i9 := by kernel_rfl
  i20 := by kernel_rfl
  i21 := by kernel_rfl
  i37 := by kernel_rfl
  i46 := by kernel_rfl
  i51 := by kernel_rfl
  i53 := by kernel_rfl
  i75 := by kernel_rfl
  i80 := by kernel_rfl
  i85 := by kernel_rfl
  i127 := by kernel_rfl
  i143 := by kernel_rfl
  i145 := by kernel_rfl
  i167 := by kernel_rfl
  i168 := by kernel_rfl
  i171 := by kernel_rfl
  i173 := by kernel_rfl
  i175 := by kernel_rfl
  i210 := by kernel_rfl
  i212 := by kernel_rfl
  i232 := by kernel_rfl
  i233 := by kernel_rfl
  m15 := by kernel_rfl
  m16 := by kernel_rfl
  m17 := by kernel_rfl
  m18 := by kernel_rfl
  m19 := by kernel_rfl
  c0 := by kernel_rfl
  c2 := by kernel_rfl
  c3 := by kernel_rfl
  c4 := by kernel_rfl
  c5 := by kernel_rfl
  c9 := by kernel_rfl
  c20 := by kernel_rfl
  c21 := by kernel_rfl
  c37 := by kernel_rfl
  c46 := by kernel_rfl
  c51 := by kernel_rfl
  c53 := by kernel_rfl
  c75 := by kernel_rfl
  c80 := by kernel_rfl
  c85 := by kernel_rfl
  c127 := by kernel_rfl
  c143 := by kernel_rfl
  c145 := by kernel_rfl
  c167 := by kernel_rfl
  c168 := by kernel_rfl
  c171 := by kernel_rfl
  c173 := by kernel_rfl
  c175 := by kernel_rfl
  c210 := by kernel_rfl
  c212 := by kernel_rfl
  c213 := by kernel_rfl
  c232 := by kernel_rfl
  c233 := by kernel_rfl }
open Go.RowKit in
/-- strconv.ParseInt(s, 10, 64), AT EVERY STRING THAT SPELLS AN int64 ('Lib.parseIntB 64 s.data.toList = .ok v'): v, AND NO ERROR. (LAID: no walk: one application.) -/
theorem Tryz.strconv_ParseInt_10_at64_ok (s : ByteArray) (hmax : s.size ≤ 9223372036854775806) (v : Int) (h : Lib.parseIntB 64 s.data.toList = .ok v) (w : World) :
    Calls Tryz.prog 214 #[.string s, .int .i64 10, .int .i64 64] w fun e w' => e = .returned (.tuple #[.int .i64 v, .nilIface]) ∧ (w' = w ∨ ∃ t, w' = Lib.bytesWorld w 5 t) := Any.strconv_ParseInt_10_at64_ok Tryz.laysC174 s hmax v h w
open Go.RowKit in
theorem Tryz.strconv_ParseInt_10_at64_syntax_var (s : ByteArray) (hlim : s.size ≤ 281474976710656) (h : Lib.parseIntB 64 s.data.toList = Lib.NumEnd.syntax) (tp : TypeId) (p : Value) (w : World) (hvar : w.var? Tryz.prog "strconv.ErrSyntax" = some #[.iface tp p]) :
    Calls Tryz.prog 214 #[.string s, .int .i64 10, .int .i64 64] w fun e w' => ∃ N, e = .returned (.tuple #[.int .i64 (0), .iface 317 (.pointer (some ⟨N, 0, none⟩))]) ∧ w.heap.size ≤ N ∧ w'.heap[N]? = some (.cells #[.string ⟨#[80, 97, 114, 115, 101, 73, 110, 116]⟩, .string s, .iface tp p] 350 (0, 0)) ∧ Below w.heap.size w w' := Any.strconv_ParseInt_10_at64_syntax_var Tryz.laysC174 s hlim h tp p w hvar
def Tryz.laysM145_ren : Go.Shelf.Ren := ⟨fun | 145 => 252 | 220 => 315 | 219 => 270 | 217 => 323 | 225 => 324 | 224 => 325 | 267 => 326 | 266 => 365 | 314 => 366 | n => n, fun | 9 => 9 | 4 => 4 | 59 => 262 | 3 => 3 | 5 => 5 | 46 => 243 | 146 => 308 | 51 => 292 | n => n, fun | 1 => 0 | n => n⟩
theorem Tryz.laysM145 : Go.Proofs.LaysM.n145 Tryz.prog Tryz.laysM145_ren := {
  mixed := by kernel_rfl
  f145 := Tryz.func252.trans (congrArg some (by kernel_rfl))
  f217 := Tryz.func323.trans (congrArg some (by kernel_rfl))
  f219 := Tryz.func270.trans (congrArg some (by kernel_rfl))
  f220 := Tryz.func315.trans (congrArg some (by kernel_rfl))
  f224 := Tryz.func325.trans (congrArg some (by kernel_rfl))
  f225 := Tryz.func324.trans (congrArg some (by kernel_rfl))
  f266 := Tryz.func365.trans (congrArg some (by kernel_rfl))
  f267 := Tryz.func326.trans (congrArg some (by kernel_rfl))
  f314 := Tryz.func366.trans (congrArg some (by kernel_rfl))
  t3 := Tryz.underlying3
  a3 := Tryz.isAgg3
  z3 := Tryz.sizeOf3
  v3 := Tryz.zeroValue3
  t4 := Tryz.underlying4
  a4 := Tryz.isAgg4
  z4 := Tryz.sizeOf4
  v4 := Tryz.zeroValue4
  t5 := Tryz.underlying5
  a5 := Tryz.isAgg5
  z5 := Tryz.sizeOf5
  v5 := Tryz.zeroValue5
  t9 := Tryz.underlying9
  a9 := Tryz.isAgg9
  z9 := Tryz.sizeOf9
  v9 := Tryz.zeroValue9
  t46 := Tryz.underlying243
  a46 := Tryz.isAgg243
  z46 := Tryz.sizeOf243
  v46 := Tryz.zeroValue243
  t51 := Tryz.underlying292
  a51 := Tryz.isAgg292
  z51 := Tryz.sizeOf292
  v51 := Tryz.zeroValue292
  t59 := Tryz.underlying262
  a59 := Tryz.isAgg262
  z59 := Tryz.sizeOf262
  v59 := Tryz.zeroValue262
  t146 := Tryz.underlying308
  a146 := Tryz.isAgg308
  z146 := Tryz.sizeOf308
  v146 := Tryz.zeroValue308
  g1 := by kernel_rfl
  i3 := by kernel_rfl
  i4 := by kernel_rfl
  i5 := by kernel_rfl
  i9 := by kernel_rfl
  i46 := by kernel_rfl
  i51 := by kernel_rfl
  i59 := by kernel_rfl
  i146 := by kernel_rfl
  m1 := by kernel_rfl
  s1_3 := fun w h => Go.Proofs.cell_of_shapedOpen_int (zero := #[.int .i64 0]) (t := 3) h (of_decide_eq_true (by kernel_rfl)) (by kernel_rfl) rfl (by kernel_rfl) (by kernel_rfl) Tryz.underlying3 }
open Go.RowKit Go.Lib in
theorem Tryz.strings_Cut_shaped (s sep : ByteArray) (w : World) (h : w.ShapedOpen Tryz.prog) (hs : s.size < 4294967281) :
    Calls Tryz.prog 252 #[.string s, .string sep] w fun e w' => e = .returned (.tuple #[.string ⟨(Lib.cut s.data.toList sep.data.toList).1.toArray⟩, .string ⟨(Lib.cut s.data.toList sep.data.toList).2.1.toArray⟩, .bool (Lib.cut s.data.toList sep.data.toList).2.2]) ∧ ∃ n, w' = w.drewN n := Any.strings_Cut_shaped Tryz.laysM145 s sep w h hs
def Tryz.lays101_ren : Go.Shelf.Ren := ⟨fun | 101 => 213 | 208 => 271 | 206 => 327 | n => n, fun | 9 => 9 | 4 => 4 | 3 => 3 | n => n, fun | n => n⟩
theorem Tryz.lays101 : Go.Proofs.Lays.n101 Tryz.prog Tryz.lays101_ren := {
  mixed := by kernel_rfl
  f101 := Tryz.func213.trans (congrArg some (by kernel_rfl))
  f206 := Tryz.func327.trans (congrArg some (by kernel_rfl))
  f208 := Tryz.func271.trans (congrArg some (by kernel_rfl))
  t3 := Tryz.underlying3
  a3 := Tryz.isAgg3
  z3 := Tryz.sizeOf3
  v3 := Tryz.zeroValue3
  t4 := Tryz.underlying4
  a4 := Tryz.isAgg4
  z4 := Tryz.sizeOf4
  v4 := Tryz.zeroValue4
  t9 := Tryz.underlying9
  a9 := Tryz.isAgg9
  z9 := Tryz.sizeOf9
  v9 := Tryz.zeroValue9 }
open Go.RowKit Go.Lib in
/-- strings.TrimPrefix: "TrimPrefix returns s without the provided leading prefix string. If s doesn't start with prefix, s is returned unchanged.": IT RETURNS 'Lib.trimPrefix s prefix'; the world is as it was. (LAID: no walk: one application.) -/
theorem Tryz.strings_TrimPrefix (s p : ByteArray) (w : World) :
    Calls Tryz.prog 213 #[.string s, .string p] w fun e w' => e = .returned (.string ⟨(Lib.trimPrefix s.data.toList p.data.toList).toArray⟩) ∧ w' = w := Any.strings_TrimPrefix Tryz.lays101 s p w
def Tryz.lays102_ren : Go.Shelf.Ren := ⟨fun | 102 => 253 | 209 => 316 | 207 => 360 | n => n, fun | 9 => 9 | 4 => 4 | 3 => 3 | n => n, fun | n => n⟩
theorem Tryz.lays102 : Go.Proofs.Lays.n102 Tryz.prog Tryz.lays102_ren := {
  mixed := by kernel_rfl
  f102 := Tryz.func253.trans (congrArg some (by kernel_rfl))
  f207 := Tryz.func360.trans (congrArg some (by kernel_rfl))
  f209 := Tryz.func316.trans (congrArg some (by kernel_rfl))
  t3 := Tryz.underlying3
  a3 := Tryz.isAgg3
  z3 := Tryz.sizeOf3
  v3 := Tryz.zeroValue3
  t4 := Tryz.underlying4
  a4 := Tryz.isAgg4
  z4 := Tryz.sizeOf4
  v4 := Tryz.zeroValue4
  t9 := Tryz.underlying9
  a9 := Tryz.isAgg9
  z9 := Tryz.sizeOf9
  v9 := Tryz.zeroValue9 }
open Go.RowKit Go.Lib in
/-- strings.TrimSuffix: "TrimSuffix returns s without the provided trailing suffix string. If s doesn't end with suffix, s is returned unchanged.": IT RETURNS 'Lib.trimSuffix s suffix'; the world is as it was. (LAID: no walk: one application.) -/
theorem Tryz.strings_TrimSuffix (s p : ByteArray) (w : World) (hs : s.size ≤ 9223372036854775807) :
    Calls Tryz.prog 253 #[.string s, .string p] w fun e w' => e = .returned (.string ⟨(Lib.trimSuffix s.data.toList p.data.toList).toArray⟩) ∧ w' = w := Any.strings_TrimSuffix Tryz.lays102 s p w hs
def Tryz.laysM146_ren : Go.Shelf.Ren := ⟨fun | 146 => 50 | 221 => 114 | 268 => 210 | 138 => 211 | 143 => 212 | 195 => 267 | 197 => 268 | 218 => 269 | 219 => 270 | 260 => 322 | 217 => 323 | 225 => 324 | 224 => 325 | 267 => 326 | 266 => 365 | 314 => 366 | n => n, fun | 9 => 9 | 31 => 24 | 3 => 3 | 4 => 4 | 0 => 0 | 105 => 273 | 21 => 21 | 5 => 5 | 46 => 243 | 119 => 343 | 139 => 346 | 138 => 345 | 146 => 308 | 51 => 292 | n => n, fun | 1 => 0 | 3 => 2 | 4 => 3 | n => n⟩
theorem Tryz.laysM146 : Go.Proofs.LaysM.n146 Tryz.prog Tryz.laysM146_ren := {
  mixed := by kernel_rfl
  f138 := Tryz.func211.trans (congrArg some (by kernel_rfl))
  f143 := Tryz.func212.trans (congrArg some (by kernel_rfl))
  f146 := Tryz.func50.trans (congrArg some (by kernel_rfl))
  f195 := Tryz.func267.trans (congrArg some (by kernel_rfl))
  f197 := Tryz.func268.trans (congrArg some (by kernel_rfl))
  f217 := Tryz.func323.trans (congrArg some (by kernel_rfl))
  f218 := Tryz.func269.trans (congrArg some (by kernel_rfl))
  f219 := Tryz.func270.trans (congrArg some (by kernel_rfl))
  f221 := Tryz.func114.trans (congrArg some (by kernel_rfl))
  f224 := Tryz.func325.trans (congrArg some (by kernel_rfl))
  f225 := Tryz.func324.trans (congrArg some (by kernel_rfl))
  f260 := Tryz.func322.trans (congrArg some (by kernel_rfl))
  f266 := Tryz.func365.trans (congrArg some (by kernel_rfl))
  f267 := Tryz.func326.trans (congrArg some (by kernel_rfl))
  f268 := Tryz.func210.trans (congrArg some (by kernel_rfl))
  f314 := Tryz.func366.trans (congrArg some (by kernel_rfl))
  t0 := Tryz.underlying0
  a0 := Tryz.isAgg0
  z0 := Tryz.sizeOf0
  v0 := Tryz.zeroValue0
  t3 := Tryz.underlying3
  a3 := Tryz.isAgg3
  z3 := Tryz.sizeOf3
  v3 := Tryz.zeroValue3
  t4 := Tryz.underlying4
  a4 := Tryz.isAgg4
  z4 := Tryz.sizeOf4
  v4 := Tryz.zeroValue4
  t5 := Tryz.underlying5
  a5 := Tryz.isAgg5
  z5 := Tryz.sizeOf5
  v5 := Tryz.zeroValue5
  t9 := Tryz.underlying9
  a9 := Tryz.isAgg9
  z9 := Tryz.sizeOf9
  v9 := Tryz.zeroValue9
  t21 := Tryz.underlying21
  a21 := Tryz.isAgg21
  z21 := Tryz.sizeOf21
  v21 := Tryz.zeroValue21
  t31 := Tryz.underlying24
  a31 := Tryz.isAgg24
  z31 := Tryz.sizeOf24
  v31 := Tryz.zeroValue24
  t46 := Tryz.underlying243
  a46 := Tryz.isAgg243
  z46 := Tryz.sizeOf243
  v46 := Tryz.zeroValue243
  t51 := Tryz.underlying292
  a51 := Tryz.isAgg292
  z51 := Tryz.sizeOf292
  v51 := Tryz.zeroValue292
  t105 := Tryz.underlying273
  a105 := Tryz.isAgg273
  z105 := Tryz.sizeOf273
  v105 := Tryz.zeroValue273
  t119 := Tryz.underlying343
  a119 := Tryz.isAgg343
  z119 := Tryz.sizeOf343
  t138 := Tryz.underlying345
  a138 := Tryz.isAgg345
  z138 := Tryz.sizeOf345
  v138 := Tryz.zeroValue345
  t139 := Tryz.underlying346
  a139 := Tryz.isAgg346
  z139 := Tryz.sizeOf346
  v139 := Tryz.zeroValue346
  t146 := Tryz.underlying308
  a146 := Tryz.isAgg308
  z146 := Tryz.sizeOf308
  v146 := Tryz.zeroValue308
  g1 := by kernel_rfl
  g3 := by kernel_rfl
  g4 := by kernel_rfl
  i0 := by kernel_rfl
  i3 := by kernel_rfl
  i4 := by kernel_rfl
  i5 := by kernel_rfl
  i9 := by kernel_rfl
  i21 := by kernel_rfl
  i31 := by kernel_rfl
  i46 := by kernel_rfl
  i51 := by kernel_rfl
  i105 := by kernel_rfl
  i138 := by kernel_rfl
  i139 := by kernel_rfl
  i146 := by kernel_rfl
  m1 := by kernel_rfl
  s1_3 := fun w h => Go.Proofs.cell_of_shapedOpen_int (zero := #[.int .i64 0]) (t := 3) h (of_decide_eq_true (by kernel_rfl)) (by kernel_rfl) rfl (by kernel_rfl) (by kernel_rfl) Tryz.underlying3
  m3 := by kernel_rfl
  m4 := by kernel_rfl }
open Go.RowKit Go.Lib in
/-- strings.Split, sep not empty. (LAID: no walk: one application.) -/
theorem Tryz.strings_Split_shaped (s sep : ByteArray) (w : World) (h : w.ShapedOpen Tryz.prog) (hs : s.size < 4294967281) (h1 : 1 ≤ sep.size) :
    Calls Tryz.prog 50 #[.string s, .string sep] w fun e w' =>
      e = .returned (.slice (some ⟨w.heap.size, 0, none⟩) (Lib.countB s sep + 1) (Lib.countB s sep + 1)) ∧ w' = w.alloc (.cells ((Lib.splitB sep 0 (Lib.countB s sep) s).map Value.string).toArray 9) := Any.strings_Split_shaped Tryz.laysM146 s sep w h hs h1
end Go.Proofs

namespace Go.Proofs.YtnhomkmfbngmgaaGreatDoor
set_option linter.unusedVariables false

def isDig (c : UInt8) : Bool := decide (48 ≤ c.toNat) && decide (c.toNat ≤ 57)
/-- What digits spell. -/
def valN (acc : Nat) (l : List UInt8) : Nat := l.foldl (fun n c => n * 10 + (c.toNat - 48)) acc
theorem valN_nil (acc : Nat) : valN acc [] = acc := rfl
theorem valN_cons (acc : Nat) (c : UInt8) (l : List UInt8) : valN acc (c :: l) = valN (acc * 10 + (c.toNat - 48)) l := by
  unfold valN
  rw [List.foldl_cons]
theorem valN_snoc (acc : Nat) (c : UInt8) (l : List UInt8) : valN acc (l ++ [c]) = valN acc l * 10 + (c.toNat - 48) := by
  unfold valN
  rw [List.foldl_append]
  rfl
theorem valN_lt : ∀ (l : List UInt8) (acc k : Nat), l.all isDig = true → acc < 10 ^ k → valN acc l < 10 ^ (k + l.length) := by
  intro l
  induction l with
  | nil => intro acc k _ h; rw [valN_nil, List.length_nil, Nat.add_zero]; exact h
  | cons c l ih =>
    intro acc k hd h
    rw [List.all_cons, Bool.and_eq_true] at hd
    have hc : 48 ≤ c.toNat ∧ c.toNat ≤ 57 := by simpa [isDig] using hd.1
    have hp : (10 : Nat) ^ (k + 1) = 10 ^ k * 10 := Nat.pow_succ ..
    have := ih (acc * 10 + (c.toNat - 48)) (k + 1) hd.2 (by rw [hp]; omega)
    rw [valN_cons, List.length_cons, show k + (l.length + 1) = (k + 1) + l.length by omega]
    exact this

theorem parseUintM_short : ∀ (l : List UInt8) (acc k : Nat), k + l.length ≤ 18 → acc < 10 ^ k →
    Lib.parseUintM (2 ^ 64 - 1) acc l = if l.all isDig then .ok (valN acc l) else Lib.NumEnd.syntax := by
  intro l
  induction l with
  | nil => exact fun acc k _ _ => rfl
  | cons c l ih =>
    intro acc k hk h
    rw [List.length_cons] at hk
    have hq : (10 : Nat) ^ (k + 1) = 10 ^ k * 10 := Nat.pow_succ ..
    have hp : acc * 10 + 9 < 10 ^ (k + 1) := by rw [hq]; omega
    have hp2 : (10 : Nat) ^ (k + 1) ≤ 10 ^ 18 := Nat.pow_le_pow_right (by decide) (by omega)
    have h18 : (10 : Nat) ^ 18 = 1000000000000000000 := by decide
    have h64 : (2 : Nat) ^ 64 - 1 = 18446744073709551615 := by decide
    rw [h18] at hp2
    rw [h64] at ih ⊢
    unfold Lib.parseUintM
    by_cases hc : 48 ≤ c.toNat ∧ c.toNat ≤ 57
    · have hd : isDig c = true := by simpa [isDig] using hc
      have hn := ih (acc * 10 + (c.toNat - 48)) (k + 1) (by omega) (by have := hc.1; have := hc.2; omega)
      rw [if_pos hc, if_neg (by omega), if_neg (by omega), hn, List.all_cons, hd, Bool.true_and, valN_cons]
    · have hd : isDig c = false := by
        rw [Bool.eq_false_iff]
        intro h1
        exact hc (by simpa [isDig] using h1)
      rw [if_neg hc, List.all_cons, hd]
      rfl

/-- Digits without a needless zero ahead. -/
def canon (l : List UInt8) : Bool := !l.isEmpty && l.all isDig && (decide (l.length = 1) || !(l.head? == some 48))

theorem ofNat_dig {c : UInt8} (h : isDig c = true) : UInt8.ofNat (48 + (c.toNat - 48)) = c := by
  have hc : 48 ≤ c.toNat ∧ c.toNat ≤ 57 := by simpa [isDig] using h
  rw [show 48 + (c.toNat - 48) = c.toNat by omega]
  simp
theorem decDigits_small {u : Nat} (h : u < 10) : Lib.decDigits u = [UInt8.ofNat (48 + u)] := by rw [Lib.decDigits, dif_pos h]
theorem decDigits_big {u : Nat} (h : ¬ u < 10) : Lib.decDigits u = Lib.decDigits (u / 10) ++ [UInt8.ofNat (48 + u % 10)] := by rw [Lib.decDigits, dif_neg h]
theorem decDigits_ne (u : Nat) : Lib.decDigits u ≠ [] := by
  by_cases h : u < 10
  · rw [decDigits_small h]; simp
  · rw [decDigits_big h]; simp
theorem toNat_dig (k : Nat) (h : k < 10) : (UInt8.ofNat (48 + k)).toNat = 48 + k := by
  simp
  omega
theorem decDigits_dig (u : Nat) : (Lib.decDigits u).all isDig = true := by
  induction u using Nat.strongRecOn with
  | _ u ih =>
    by_cases h : u < 10
    · rw [decDigits_small h]
      simp only [List.all_cons, List.all_nil, Bool.and_true, isDig, toNat_dig u h]
      simp
      omega
    · rw [decDigits_big h, List.all_append, ih (u / 10) (by omega)]
      simp only [List.all_cons, List.all_nil, Bool.and_true, isDig, toNat_dig (u % 10) (by omega)]
      simp
      omega
theorem decDigits_head {u : Nat} (h0 : 0 < u) : (Lib.decDigits u).head? ≠ some 48 := by
  induction u using Nat.strongRecOn with
  | _ u ih =>
    by_cases h : u < 10
    · rw [decDigits_small h]
      intro hc
      have := congrArg UInt8.toNat (Option.some.inj hc)
      rw [toNat_dig u h] at this
      have h48 : (48 : UInt8).toNat = 48 := rfl
      omega
    · rw [decDigits_big h, List.head?_append]
      intro hc
      have hi := ih (u / 10) (by omega) (by omega)
      cases hh : (Lib.decDigits (u / 10)).head? with
      | none => exact decDigits_ne _ (List.head?_eq_none_iff.1 hh)
      | some x =>
        rw [hh] at hc hi
        exact hi hc
theorem decDigits_canon (u : Nat) : canon (Lib.decDigits u) = true := by
  unfold canon
  rw [decDigits_dig u]
  by_cases h : 0 < u
  · have h1 := decDigits_head h
    have h2 := decDigits_ne u
    simp [h1, h2]
  · have : u = 0 := by omega
    subst this
    rw [decDigits_small (by omega)]
    simp
theorem valN_pos {l : List UInt8} : ∀ {acc : Nat}, 0 < acc → 0 < valN acc l := by
  induction l with
  | nil => intro acc h; exact h
  | cons c l ih => intro acc h; rw [valN_cons]; exact ih (by omega)

theorem decDigits_valN (l : List UInt8) (h : canon l = true) : Lib.decDigits (valN 0 l) = l := by
  have key : ∀ (n : Nat) (l : List UInt8), l.length = n → canon l = true → Lib.decDigits (valN 0 l) = l := by
    intro n
    induction n with
    | zero =>
      intro l hl hc
      have : l = [] := List.eq_nil_of_length_eq_zero hl
      subst this
      simp [canon] at hc
    | succ n ih =>
      intro l hl hc
      have hne : l ≠ [] := by intro hh; subst hh; simp at hl
      obtain ⟨l', c, rfl⟩ : ∃ l' c, l = l' ++ [c] := ⟨l.dropLast, l.getLast hne, (List.dropLast_concat_getLast hne).symm⟩
      simp only [canon, Bool.and_eq_true, List.all_append] at hc
      obtain ⟨⟨_, hd1, hd2⟩, hz⟩ := hc
      have hdc : isDig c = true := by simpa using hd2
      have hcb : 48 ≤ c.toNat ∧ c.toNat ≤ 57 := by simpa [isDig] using hdc
      rw [valN_snoc]
      by_cases hl' : l' = []
      · subst hl'
        rw [valN_nil, decDigits_small (by omega), show 48 + (0 * 10 + (c.toNat - 48)) = 48 + (c.toNat - 48) by omega, ofNat_dig hdc]
        rfl
      · have hlen : l'.length = n := by simpa using hl
        obtain ⟨x, r, rfl⟩ := List.exists_cons_of_ne_nil hl'
        have hx : x ≠ 48 := by
          intro hx
          subst hx
          simp at hz
        have hc' : canon (x :: r) = true := by
          unfold canon
          rw [hd1]
          simp [hx]
        have hi := ih (x :: r) hlen hc'
        have hdx : isDig x = true := by rw [List.all_cons, Bool.and_eq_true] at hd1; exact hd1.1
        have hxb : 48 ≤ x.toNat ∧ x.toNat ≤ 57 := by simpa [isDig] using hdx
        have hx0 : x.toNat ≠ 48 := fun h => hx (UInt8.toNat_inj.1 h)
        have hpos : 0 < valN 0 (x :: r) := by rw [valN_cons]; exact valN_pos (by omega)
        rw [decDigits_big (by omega), show (valN 0 (x :: r) * 10 + (c.toNat - 48)) / 10 = valN 0 (x :: r) by omega, hi, show (valN 0 (x :: r) * 10 + (c.toNat - 48)) % 10 = c.toNat - 48 by omega, ofNat_dig hdc]
  exact key l.length l rfl h
theorem decDigits_iff (l : List UInt8) (h : l.all isDig = true) : (Lib.decDigits (valN 0 l) = l) ↔ canon l = true :=
  ⟨fun e => e ▸ decDigits_canon _, decDigits_valN l⟩

/-- The reference's reading. -/
def numNeg (r : List UInt8) : Option Int := if canon r && decide (r.length ≤ 18) && !(r.head? == some 48) then some (-(valN 0 r : Int)) else none
def numPos (l : List UInt8) : Option Int := if canon l && decide (l.length ≤ 18) then some (valN 0 l : Int) else none
def numS (l : List UInt8) : Option Int := if l.head? = some 45 then numNeg l.tail else numPos l
/-- The program's reading. -/
def numP (l : List UInt8) : Option Int :=
  if 18 < (Lib.trimPrefix l [45]).length then none
  else match Lib.parseIntB 64 l with
    | .ok n => if Lib.itoa n = l then some n else none
    | _ => none

theorem parseUintB_short (l : List UInt8) (h : l.length ≤ 18) : Lib.parseUintB 64 l = if l ≠ [] ∧ l.all isDig = true then .ok (valN 0 l) else Lib.NumEnd.syntax := by
  unfold Lib.parseUintB
  by_cases hl : l = []
  · subst hl; rfl
  · rw [if_neg hl, parseUintM_short l 0 0 (by omega) (by decide)]
    by_cases hd : l.all isDig = true
    · rw [if_pos hd, if_pos ⟨hl, hd⟩]
    · rw [if_neg hd, if_neg (fun h => hd h.2)]

theorem valN_18 {l : List UInt8} (h : l.length ≤ 18) (hd : l.all isDig = true) : valN 0 l < 10 ^ 18 :=
  Nat.lt_of_lt_of_le (valN_lt l 0 0 hd (by decide)) (Nat.pow_le_pow_right (by decide) (by omega))

theorem numP_eq (l : List UInt8) : numP l = numS l := by
  unfold numP numS
  cases l with
  | nil => rfl
  | cons c r =>
    have hpre : Lib.trimPrefix (c :: r) [45] = if c = 45 then r else c :: r := by
      unfold Lib.trimPrefix Lib.hasPrefix
      by_cases hc : c = 45
      · subst hc; simp
      · rw [if_neg hc, if_neg]
        simp
        exact fun h => hc h.symm
    rw [hpre]
    by_cases hc : c = 45
    · subst hc
      rw [if_pos rfl, if_pos (show (45 :: r).head? = some 45 from rfl), show (45 :: r).tail = r from rfl]
      unfold numNeg
      by_cases hl : 18 < r.length
      · rw [if_pos hl, if_neg (by simp; intro _ h; omega)]
      · rw [if_neg hl]
        unfold Lib.parseIntB
        simp only [show ((45 : UInt8).toNat = 43 ∨ (45 : UInt8).toNat = 45) from Or.inr rfl, if_true, parseUintB_short r (by omega)]
        by_cases hd : r ≠ [] ∧ r.all isDig = true
        · simp only [if_pos hd, show (45 : UInt8).toNat = 45 from rfl, not_true, false_and, if_false, true_and, if_true]
          have hv := valN_18 (show r.length ≤ 18 by omega) hd.2
          rw [if_neg (by omega)]
          simp only
          by_cases h0 : valN 0 r = 0
          · rw [h0, if_neg (by rw [show Lib.itoa (-((0 : Nat) : Int)) = [48] from by unfold Lib.itoa; simp [decDigits_small]]; simp)]
            rw [if_neg]
            intro hh
            simp only [Bool.and_eq_true, decide_eq_true_eq] at hh
            have := decDigits_valN r hh.1.1
            rw [h0, decDigits_small (by omega)] at this
            rw [← this] at hh
            simp at hh
          · have hneg : -((valN 0 r : Nat) : Int) < 0 := by omega
            have e1 : Lib.itoa (-((valN 0 r : Nat) : Int)) = 45 :: Lib.decDigits (valN 0 r) := by
              unfold Lib.itoa
              rw [if_pos hneg]
              simp
            rw [e1]
            have e2 : (45 :: Lib.decDigits (valN 0 r) = 45 :: r) ↔ canon r = true := by
              rw [List.cons.injEq]
              simp only [true_and]
              exact decDigits_iff r hd.2
            by_cases hcan : canon r = true
            · rw [if_pos (e2.2 hcan), if_pos]
              rw [hcan]
              simp only [Bool.true_and, Bool.and_eq_true, decide_eq_true_eq]
              refine ⟨by omega, ?_⟩
              have h4 := decDigits_head (show 0 < valN 0 r by omega)
              rw [decDigits_valN r hcan] at h4
              simpa using h4
            · rw [if_neg (fun h => hcan (e2.1 h)), if_neg (fun h => hcan (by simp only [Bool.and_eq_true] at h; exact h.1.1))]
        · simp only [if_neg hd]
          rw [if_neg]
          intro h
          simp only [Bool.and_eq_true, canon] at h
          refine hd ⟨?_, h.1.1.1.2⟩
          rintro rfl
          simp at h
    · have hh : ¬ (c :: r).head? = some 45 := by simpa using hc
      have hcn : ¬ c.toNat = 45 := fun h => hc (UInt8.toNat_inj.1 h)
      rw [if_neg hc, if_neg hh]
      unfold numPos
      by_cases hl : 18 < (c :: r).length
      · rw [if_pos hl, if_neg (by simp only [Bool.and_eq_true, decide_eq_true_eq]; omega)]
      · rw [if_neg hl]
        unfold Lib.parseIntB
        by_cases hp : c.toNat = 43
        · -- a plus sign: never its own numeral
          have hnd : canon (c :: r) = false := by
            rw [Bool.eq_false_iff]
            intro h
            simp only [canon, Bool.and_eq_true, List.all_cons] at h
            have : 48 ≤ c.toNat ∧ c.toNat ≤ 57 := by simpa [isDig] using h.1.2.1
            omega
          rw [hnd]
          simp only [Bool.false_and, Bool.false_eq_true, if_false]
          simp only [hp, true_or, if_true]
          have hl2 : r.length ≤ 18 := by simp at hl; omega
          rw [parseUintB_short r hl2]
          by_cases hd : r ≠ [] ∧ r.all isDig = true
          · simp only [if_pos hd]
            have hv := valN_18 hl2 hd.2
            rw [if_neg (by omega), if_neg (by omega)]
            simp only [show ¬ (43 : Nat) = 45 by omega, if_false]
            rw [if_neg]
            intro h
            have h2 := decDigits_dig (valN 0 r)
            have e1 : Lib.itoa ((valN 0 r : Nat) : Int) = Lib.decDigits (valN 0 r) := by
              unfold Lib.itoa
              rw [if_neg (by omega)]
              simp
            rw [← e1, h, List.all_cons, Bool.and_eq_true] at h2
            have : 48 ≤ c.toNat ∧ c.toNat ≤ 57 := by simpa [isDig] using h2.1
            omega
          · simp only [if_neg hd]
        · have hs : ¬ (c.toNat = 43 ∨ c.toNat = 45) := by omega
          simp only [if_neg hs, parseUintB_short (c :: r) (by omega)]
          by_cases hd : (c :: r) ≠ [] ∧ (c :: r).all isDig = true
          · simp only [if_pos hd]
            have hv := valN_18 (show (c :: r).length ≤ 18 by omega) hd.2
            rw [if_neg (by omega), if_neg (by omega)]
            simp only [if_neg hcn]
            have e1 : Lib.itoa ((valN 0 (c :: r) : Nat) : Int) = Lib.decDigits (valN 0 (c :: r)) := by
              unfold Lib.itoa
              rw [if_neg (by omega)]
              simp
            rw [e1]
            by_cases hcan : canon (c :: r) = true
            · rw [if_pos ((decDigits_iff _ hd.2).2 hcan), if_pos (by rw [hcan]; simp at hl ⊢; omega)]
            · rw [if_neg (fun h => hcan ((decDigits_iff _ hd.2).1 h)), if_neg (fun h => hcan (by simp only [Bool.and_eq_true] at h; exact h.1))]
          · simp only [if_neg hd]
            rw [if_neg]
            intro h
            simp only [Bool.and_eq_true, canon] at h
            exact hd ⟨by simp, h.1.1.2⟩

end Go.Proofs.YtnhomkmfbngmgaaGreatDoor

namespace Go.Proofs.YtnhomkmfbngmgaaGreatDoor
set_option linter.unusedVariables false

/-! ## Cutting at a byte -/
def splitC (c : UInt8) : List UInt8 → List (List UInt8)
  | [] => [[]]
  | x :: l => if x = c then [] :: splitC c l else (x :: (splitC c l).headD []) :: (splitC c l).tail
theorem splitC_ne (c : UInt8) (l : List UInt8) : splitC c l ≠ [] := by
  cases l with
  | nil => simp [splitC]
  | cons x l => unfold splitC; split <;> simp
theorem splitC_ceq (c : UInt8) (l : List UInt8) : splitC c (c :: l) = [] :: splitC c l := by rw [splitC, if_pos rfl]
theorem splitC_cne {c x : UInt8} (h : x ≠ c) (l : List UInt8) : splitC c (x :: l) = (x :: (splitC c l).headD []) :: (splitC c l).tail := by rw [splitC, if_neg h]
theorem splitC_miss {c : UInt8} : ∀ {l : List UInt8}, c ∉ l → splitC c l = [l]
  | [], _ => rfl
  | x :: l, h => by
    rw [List.mem_cons, not_or] at h
    rw [splitC_cne (fun e => h.1 e.symm), splitC_miss h.2]
    rfl
theorem splitC_hit {c : UInt8} : ∀ {a b : List UInt8}, c ∉ a → splitC c (a ++ c :: b) = a :: splitC c b
  | [], b, _ => by rw [List.nil_append, splitC_ceq]
  | x :: a, b, h => by
    rw [List.mem_cons, not_or] at h
    rw [List.cons_append, splitC_cne (fun e => h.1 e.symm), splitC_hit h.2]
    rfl
theorem index_one (c : UInt8) (l : List UInt8) (h : c ∉ l) : Lib.index l [c] = -1 := by
  induction l with
  | nil => rfl
  | cons x l ih =>
    rw [List.mem_cons, not_or] at h
    unfold Lib.index
    rw [if_neg (by simp [List.isPrefixOf]; exact h.1), ih h.2]
    rfl
theorem index_one_hit (c : UInt8) (a b : List UInt8) (h : c ∉ a) : Lib.index (a ++ c :: b) [c] = a.length := by
  induction a with
  | nil => unfold Lib.index; simp [List.isPrefixOf]
  | cons x a ih =>
    rw [List.mem_cons, not_or] at h
    rw [List.cons_append]
    unfold Lib.index
    rw [if_neg (by simp [List.isPrefixOf]; exact h.1), ih h.2, if_neg (by simp <;> omega)]
    simp
theorem split_at (c : UInt8) (l : List UInt8) (h : c ∈ l) : ∃ a b, l = a ++ c :: b ∧ c ∉ a := by
  induction l with
  | nil => cases h
  | cons x l ih =>
    by_cases hx : x = c
    · subst hx
      exact ⟨[], l, rfl, by simp⟩
    · obtain ⟨a, b, rfl, h2⟩ := ih (by
        rcases List.mem_cons.1 h with h | h
        · exact absurd h.symm hx
        · exact h)
      exact ⟨x :: a, b, rfl, by simp; exact ⟨fun e => hx e.symm, h2⟩⟩
theorem count_at (c : UInt8) {a b : List UInt8} (h : c ∉ a) : (a ++ c :: b).count c = b.count c + 1 := by
  rw [List.count_append, List.count_cons_self, List.count_eq_zero_of_not_mem h]
  omega
theorem countFrom_one (c : UInt8) : ∀ (fuel : Nat) (l : List UInt8), l.length < fuel → Lib.countFrom [c] fuel l = l.count c
  | 0, _, h => by omega
  | fuel + 1, l, h => by
    unfold Lib.countFrom
    by_cases hm : c ∈ l
    · obtain ⟨a, b, rfl, ha⟩ := split_at c l hm
      rw [index_one_hit c a b ha, if_neg (by simp <;> omega), count_at c ha]
      have e1 : ((a.length : Int)).toNat + [c].length = (a ++ [c]).length := by simp
      have e2 : (a ++ c :: b).drop (((a.length : Int)).toNat + [c].length) = b := by
        rw [e1, show a ++ c :: b = (a ++ [c]) ++ b by simp, List.drop_left]
      rw [e2, countFrom_one c fuel b (by simp at h; omega)]
      omega
    · rw [index_one c l hm, if_pos (by decide), List.count_eq_zero_of_not_mem hm]
theorem splitK_one (c : UInt8) : ∀ (k : Nat) (l : List UInt8), l.count c ≤ k → Lib.splitK [c] 0 k l = splitC c l
  | 0, l, h => by
    rw [splitC_miss (List.count_eq_zero.1 (by omega))]
    rfl
  | k + 1, l, h => by
    unfold Lib.splitK
    by_cases hm : c ∈ l
    · obtain ⟨a, b, rfl, ha⟩ := split_at c l hm
      rw [index_one_hit c a b ha, if_neg (by simp <;> omega), splitC_hit ha]
      rw [count_at c ha] at h
      have e1 : ((a.length : Int)).toNat + [c].length = (a ++ [c]).length := by simp
      have e2 : (a ++ c :: b).drop (((a.length : Int)).toNat + [c].length) = b := by
        rw [e1, show a ++ c :: b = (a ++ [c]) ++ b by simp, List.drop_left]
      rw [e2, splitK_one c k b (by omega)]
      congr 1
      simp
    · rw [index_one c l hm, if_pos (by decide), splitC_miss hm]
theorem split_one (c : UInt8) (l : List UInt8) : Lib.split l [c] = splitC c l := by
  unfold Lib.split Lib.count
  rw [countFrom_one c _ l (by omega)]
  exact splitK_one c _ l (Nat.le_refl _)
theorem join_cons2 (x y : List UInt8) (r : List (List UInt8)) (sep : List UInt8) : Lib.join (x :: y :: r) sep = x ++ sep ++ Lib.join (y :: r) sep := by
  rw [Lib.join_cons, Lib.join_cons]
  simp [Lib.joinTail]
theorem join_splitC (c : UInt8) : ∀ (l : List UInt8), Lib.join (splitC c l) [c] = l
  | [] => rfl
  | x :: l => by
    have ih := join_splitC c l
    unfold splitC
    obtain ⟨p, ps, hp⟩ := List.exists_cons_of_ne_nil (splitC_ne c l)
    rw [hp] at ih ⊢
    by_cases hx : x = c
    · subst hx
      rw [if_pos rfl, join_cons2, ih]
      simp
    · rw [if_neg hx]
      simp only [List.headD_cons, List.tail_cons]
      rw [Lib.join_cons] at ih ⊢
      rw [List.cons_append, ih]

/-! ## Numbers of a list of texts -/
def numsOf (f : List UInt8 → Option Int) : List (List UInt8) → Option (List Int)
  | [] => some []
  | x :: l => match f x, numsOf f l with
    | some n, some ns => some (n :: ns)
    | _, _ => none
def isVal (n : Int) : Bool := decide (0 ≤ n) && decide (n ≤ 63)
def numV (l : List UInt8) : Option Int := (numS l).filter isVal
theorem numsOf_len {f : List UInt8 → Option Int} : ∀ {l : List (List UInt8)} {ns : List Int}, numsOf f l = some ns → ns.length = l.length
  | [], ns, h => by cases h; rfl
  | x :: l, ns, h => by
    unfold numsOf at h
    split at h
    · rename_i n ms hn hm
      cases h
      simp [numsOf_len hm]
    · cases h
theorem numsOf_val : ∀ (l : List (List UInt8)), numsOf numV l = (numsOf numS l).filter (fun ns => ns.all isVal)
  | [] => rfl
  | x :: l => by
    unfold numsOf
    rw [numsOf_val l]
    unfold numV
    cases hx : numS x with
    | none => simp
    | some n =>
      cases hl : numsOf numS l with
      | none => cases hv : isVal n <;> simp [Option.filter, hv]
      | some ns => cases hv : isVal n <;> cases hw : ns.all isVal <;> simp [Option.filter, hv, hw]
theorem numS_itoa {l : List UInt8} {n : Int} (h : numS l = some n) : Lib.itoa n = l := by
  rw [← numP_eq] at h
  unfold numP at h
  split at h
  · cases h
  · split at h
    · split at h
      · rename_i hh
        cases h
        exact hh
      · cases h
    · cases h
theorem numsOf_itoa : ∀ {l : List (List UInt8)} {ns : List Int}, numsOf numS l = some ns → ns.map Lib.itoa = l
  | [], ns, h => by cases h; rfl
  | x :: l, ns, h => by
    unfold numsOf at h
    split at h
    · rename_i n ms hn hm
      cases h
      rw [List.map_cons, numS_itoa hn, numsOf_itoa hm]
    · cases h

/-! ## Labels -/
section
variable (nameL : List UInt8 → Bool)
def tauL : List UInt8 := [116, 97, 117]
def labName (l : List UInt8) : List UInt8 := (Lib.cut l [40]).1
/-- The reference's values of a label. -/
def valsS (l : List UInt8) : Option (List Int) :=
  if 40 ∉ l then (if nameL l then some [] else none)
  else if (nameL (labName l) && !(labName l == tauL)) && (l.getLast? == some 41) then
    (numsOf numV (splitC 44 (Lib.cut l [40]).2.1.dropLast)).filter (fun ns => decide (ns.length ≤ 2))
  else none
/-- The program's label with a name and values. -/
def labOf (name : List UInt8) (ns : List Int) : Option (List UInt8) :=
  if name = tauL then (if ns = [] then some tauL else none)
  else if !(nameL name) || decide (2 < ns.length) || !(ns.all isVal) then none
  else if ns = [] then some name
  else some (name ++ [40] ++ Lib.join (ns.map Lib.itoa) [44] ++ [41])
/-- The program's values of a label. -/
def valsP (l : List UInt8) : Option (List Int) :=
  match (if (Lib.cut l [40]).2.2 then numsOf numP (splitC 44 (Lib.trimSuffix (Lib.cut l [40]).2.1 [41])) else some []) with
  | none => none
  | some ns => if labOf nameL (Lib.cut l [40]).1 ns = some l then some ns else none
end
theorem cut_miss {l : List UInt8} (h : (40 : UInt8) ∉ l) : Lib.cut l [40] = (l, [], false) := by
  unfold Lib.cut
  rw [index_one 40 l h, if_neg (by decide)]
theorem cut_hit {a b : List UInt8} (h : (40 : UInt8) ∉ a) : Lib.cut (a ++ 40 :: b) [40] = (a, b, true) := by
  unfold Lib.cut
  rw [index_one_hit 40 a b h, if_pos (by omega)]
  congr 1
  · simp
  · congr 1
    have e1 : ((a.length : Int)).toNat + [(40 : UInt8)].length = (a ++ [40]).length := by simp
    rw [e1, show a ++ 40 :: b = (a ++ [40]) ++ b by simp, List.drop_left]
theorem numP_fun : numP = numS := funext numP_eq
theorem trimSuffix_hit (r : List UInt8) (c : UInt8) : Lib.trimSuffix (r ++ [c]) [c] = r := by
  unfold Lib.trimSuffix Lib.hasSuffix
  rw [if_pos (by simp)]
  simp
theorem trimSuffix_miss {r : List UInt8} {c : UInt8} (h : r.getLast? ≠ some c) : Lib.trimSuffix r [c] = r := by
  unfold Lib.trimSuffix Lib.hasSuffix
  rw [if_neg]
  intro hs
  have hs2 : [c] <:+ r := List.isSuffixOf_iff_suffix.1 hs
  obtain ⟨t, rfl⟩ := hs2
  simp at h

theorem valsP_eq (nameL : List UInt8 → Bool) (ht : nameL tauL = true) (l : List UInt8) : valsP nameL l = valsS nameL l := by
  by_cases hm : (40 : UInt8) ∈ l
  · obtain ⟨name, rest, rfl, hn⟩ := split_at 40 l hm
    have hlast : (name ++ 40 :: rest).getLast? = (40 :: rest).getLast? := by
      rw [List.getLast?_append]
      cases h : (40 :: rest).getLast? with
      | none => exact absurd (List.getLast?_eq_none_iff.1 h) (by simp)
      | some x => rfl
    have hP : valsP nameL (name ++ 40 :: rest) = (match numsOf numS (splitC 44 (Lib.trimSuffix rest [41])) with
        | none => none
        | some ns => if labOf nameL name ns = some (name ++ 40 :: rest) then some ns else none) := by
      unfold valsP
      rw [cut_hit hn]
      simp only [if_true, numP_fun]
    have hS : valsS nameL (name ++ 40 :: rest) = (if (nameL name && !(name == tauL)) && ((40 :: rest).getLast? == some 41) then
        (numsOf numV (splitC 44 rest.dropLast)).filter (fun ns => decide (ns.length ≤ 2)) else none) := by
      unfold valsS labName
      rw [if_neg (fun h => h hm), cut_hit hn, hlast]
    rw [hP, hS]
    by_cases hr : rest.getLast? = some 41
    · obtain ⟨r, rfl⟩ : ∃ r, rest = r ++ [41] := by
        have hne : rest ≠ [] := by rintro rfl; cases hr
        refine ⟨rest.dropLast, ?_⟩
        have h1 := List.dropLast_concat_getLast hne
        rw [List.getLast?_eq_some_getLast hne] at hr
        have h2 := Option.some.inj hr
        rw [h2] at h1
        exact h1.symm
      have hd : (r ++ [(41 : UInt8)]).dropLast = r := by simp
      rw [trimSuffix_hit, hd]
      have hl41 : ((40 :: (r ++ [41])).getLast? == some 41) = true := by
        rw [← List.cons_append, List.getLast?_append]
        rfl
      rw [hl41, Bool.and_true, numsOf_val]
      cases hx : numsOf numS (splitC 44 r) with
      | none => simp [Option.filter]
      | some ns =>
        have hlen := numsOf_len hx
        have hne : ns ≠ [] := by
          rintro rfl
          exact splitC_ne 44 r (List.eq_nil_of_length_eq_zero hlen.symm)
        have hj : Lib.join (ns.map Lib.itoa) [44] = r := by rw [numsOf_itoa hx, join_splitC]
        simp only
        unfold labOf
        by_cases htau : name = tauL
        · rw [if_pos htau, if_neg hne, if_neg (by simp), if_neg (by simp [htau])]
        · rw [if_neg htau, if_neg hne, hj]
          have htb : (name == tauL) = false := by rw [beq_eq_false_iff_ne]; exact htau
          rw [htb]
          by_cases h2 : ns.length ≤ 2
          · have h3 : ¬ 2 < ns.length := by omega
            cases hnm : nameL name <;> cases ha : ns.all isVal <;> simp [Option.filter, ha, h2, h3]
          · have h3 : 2 < ns.length := by omega
            cases hnm : nameL name <;> cases ha : ns.all isVal <;> simp [Option.filter, ha, h2, h3]
    · have hno : ¬ (((nameL name && !(name == tauL)) && ((40 :: rest).getLast? == some 41)) = true) := by
        intro hc
        rw [Bool.and_eq_true] at hc
        have hc2 := hc.2
        cases rest with
        | nil => simp at hc2
        | cons x r =>
          rw [List.getLast?_cons_cons] at hc2
          exact hr (by simpa using hc2)
      rw [trimSuffix_miss hr, if_neg hno]
      cases hx : numsOf numS (splitC 44 rest) with
      | none => rfl
      | some ns =>
        have hlen := numsOf_len hx
        have hne : ns ≠ [] := by
          rintro rfl
          exact splitC_ne 44 rest (List.eq_nil_of_length_eq_zero hlen.symm)
        have hj : Lib.join (ns.map Lib.itoa) [44] = rest := by rw [numsOf_itoa hx, join_splitC]
        simp only
        rw [if_neg]
        intro hc
        unfold labOf at hc
        rw [hj] at hc
        simp only [if_neg hne] at hc
        split at hc
        · cases hc
        · split at hc
          · cases hc
          · have h1 := Option.some.inj hc
            have h2 := congrArg List.length h1
            simp at h2
  · have hP : valsP nameL l = (if labOf nameL l [] = some l then some [] else none) := by
      unfold valsP
      rw [cut_miss hm]
      simp only [Bool.false_eq_true, if_false]
    have hS : valsS nameL l = (if nameL l then some [] else none) := by
      unfold valsS
      rw [if_pos hm]
    rw [hP, hS]
    unfold labOf
    by_cases htau : l = tauL
    · subst htau
      simp [ht]
    · rw [if_neg htau]
      cases hnm : nameL l <;> simp

end Go.Proofs.YtnhomkmfbngmgaaGreatDoor

namespace Go.Proofs.YtnhomkmfbngmgaaGreatDoor
open Go.ChangeShapes Go.WideShapes Go.ChangeAt Go.RowKit
set_option linter.unusedVariables false

theorem info_int64 : (Tryz.prog.info? 2).map (fun i => (i.zero, i.size, i.bytes)) = some (some (.int .i64 0), 1, 8) := by kernel_rfl

theorem toInt64S_calls (A : Option Addr) (n c : Nat) (l : List Int) (w : World) (lo hi : Nat) (h : SlI w lo hi A n l) (hn : n ≤ 1048576) :
    Calls Tryz.prog 70 #[.slice A n c] w fun e w' => ∃ A', e = .returned (.slice A' n n) ∧ Below w.heap.size w w' ∧ SlI w' w.heap.size w'.heap.size A' n l := by
  obtain ⟨i0, hi0, hz0, hz1, hz2⟩ := info_parts info_int64
  have hmk := fun W => make_row (P := Tryz.prog) 32 2 i0 _ _ n Tryz.underlying32 hi0 hz0 hz1 (by rw [hz2]; omega) (by omega) W
  clear hi0 hz0 hz1 hz2
  have hlen := hide h.len
  go_enter Tryz.func70, Tryz.ntmps70
  go_wp2
  go_loopw [4] (fun i wr => ∃ k : Nat, k ≤ n ∧ i = .int .i64 k ∧ Below w.heap.size w wr ∧ Fill 1 iv wr w.heap.size 2 n k l) (fun i _ => n - (intOf i).toNat)
  case atStart => exact ⟨0, Nat.zero_le _, rfl, (Below.refl _ _).alloc (Nat.le_refl _) _, Fill.start _ _ _ _ (by simp [madeCells])⟩
  case round =>
    obtain ⟨k, hk, rfl, hb, hf⟩ := hrel
    clear hmk
    by_cases hlt : k < n
    · obtain ⟨b, off, x, rfl, g1, g2, g3, hx, c0, -⟩ := h.get hlt
      replace c0 := (hb.cell (p := ⟨b, off + k, none⟩) g3).trans c0
      obtain ⟨v0, d0⟩ := hf.cell (i := k) (by omega)
      have z0 := hf.frozen k
      replace hx := hide hx
      clear h
      go_wp2
      go_roundw
      case rel => exact ⟨k + 1, by omega, by go_num, hb.setCell (Nat.le_refl _) _, hf.set1 hlt (fun _ => rfl) hx.out rfl⟩
      case measure => simp [intOf]; omega
    · have : k = n := by omega
      subst this
      go_wp2
      go_ret
      exact ⟨_, rfl, hb, hf.done hlen.out (Nat.le_refl _) hf.lt⟩

set_option maxRecDepth 100000 in
theorem eqInt64S_calls (A B : Option Addr) (n m c d : Nat) (l r : List Int) (w : World) (lo hi lo' hi' : Nat) (h : SlI w lo hi A n l) (g : SlI w lo' hi' B m r) (hn : n ≤ maxLen) (hm : m ≤ maxLen) :
    Calls Tryz.prog 75 #[.slice A n c, .slice B m d] w fun e w' => e = .returned (.bool (decide (l = r))) ∧ Below w.heap.size w w' := by
  unfold maxLen at hn hm
  have hl := hide h.len
  have hr := hide g.len
  by_cases hnm : n = m
  · subst hnm
    go_enter Tryz.func75, Tryz.ntmps75
    go_wp2
    go_loopw [5] (fun i wr => ∃ k : Nat, k ≤ n ∧ i = .int .i64 k ∧ Below w.heap.size w wr ∧ l.take k = r.take k) (fun i _ => n - (intOf i).toNat)
    case atStart => exact ⟨0, Nat.zero_le _, rfl, (Below.refl _ _), rfl⟩
    case round =>
      obtain ⟨k, hk, rfl, hb, he⟩ := hrel
      replace he := hide he
      by_cases hlt : k < n
      · obtain ⟨b, off, x, rfl, g1, g2, g3, hx, c0, -⟩ := h.get hlt
        obtain ⟨b', off', y, rfl, g1', g2', g3', hy, d0, -⟩ := g.get hlt
        replace c0 := (hb.cell (p := ⟨b, off + k, none⟩) g3).trans c0
        replace d0 := (hb.cell (p := ⟨b', off' + k, none⟩) g3').trans d0
        replace hx := hide hx
        replace hy := hide hy
        clear h g
        have hk0 : (0 : Int) ≤ (k : Int) := by omega
        have hk1 : (k : Int) < (n : Int) := by omega
        by_cases hxy : x = y
        · subst hxy
          go_wp2
          go_quiet (fail)
          go_wp2
          go_roundw
          case rel => exact ⟨k + 1, by omega, by go_num, by first | exact hb | exact ⟨hb.os, hb.tape, hb.output, hb.size, hb.block⟩, take_step he.out hx.out hy.out rfl⟩
          case measure => simp [intOf]; omega
        · have hne := hide (take_stop hx.out hy.out hxy)
          have hq : (x != y) = true := by simpa using hxy
          clear hxy
          go_wp2
          go_quiet (fail)
          go_wp2
          go_ret
          exact ⟨by simp [hne.out], by first | exact hb | exact ⟨hb.os, hb.tape, hb.output, hb.size, hb.block⟩⟩
      · have hkn : k = n := by omega
        subst hkn
        go_wp2
        go_ret
        exact ⟨by rw [take_all he.out hl.out hr.out]; simp, hb⟩
  · have hne : Hid (l ≠ r) := fun e => hnm (by rw [← hl.out, ← hr.out, e])
    have hb0 : ((n : Int) != (m : Int)) = true := by rw [bne_iff_ne]; omega
    go_enter Tryz.func75, Tryz.ntmps75
    go_wp2
    go_ret
    exact ⟨by simp [hne.out], Below.refl _ _⟩

end Go.Proofs.YtnhomkmfbngmgaaGreatDoor

namespace Go.Proofs.YtnhomkmfbngmgaaGreatDoor
open Go.ChangeShapes Go.WideShapes Go.Deep Go.RowKit

theorem addr_add (b off i : Nat) : (⟨b, off, none⟩ : Addr).add i = ⟨b, off + i, none⟩ := by
  unfold Addr.add
  split <;> simp_all

theorem list_of {α : Type} {Q : Nat → α → Prop} (n : Nat) (h : ∀ i, i < n → ∃ x, Q i x) : ∃ l : List α, l.length = n ∧ ∀ i x, l[i]? = some x → Q i x := by
  induction n with
  | zero => exact ⟨[], rfl, fun i x h => by simp at h⟩
  | succ n ih =>
    obtain ⟨l, hl, hq⟩ := ih fun i hi => h i (by omega)
    obtain ⟨y, hy⟩ := h n (by omega)
    refine ⟨l ++ [y], by simp [hl], fun i x hx => ?_⟩
    rcases Nat.lt_or_ge i n with hi | hi
    · rw [List.getElem?_append_left (by omega)] at hx
      exact hq i x hx
    · rw [List.getElem?_append_right (by omega)] at hx
      have : i = n := by
        have := (List.getElem?_eq_some_iff.1 hx).1
        simp at this
        omega
      subst this
      simp [hl] at hx
      subst hx
      exact hy

section
variable {H : Type} {enc : TypeId × Value → H} {P : Program} {w : World} {base : Nat} {spare : Nat → Bool} {held : Bool}

theorem mem_row {a : Addr} {n j : Nat} (h : j < n) : MemPlace.cell a.block (a.off + j) ∈ MemPlace.row a n := List.mem_map.2 ⟨j, List.mem_range.2 h, rfl⟩

end

end Go.Proofs.YtnhomkmfbngmgaaGreatDoor

namespace Go.Proofs.YtnhomkmfbngmgaaGreatDoor
open Go.ChangeShapes Go.WideShapes Go.Deep Go.RowKit

section
variable {H : Type} {enc : TypeId × Value → H} {P : Program} {w : World} {base : Nat} {spare : Nat → Bool} {held : Bool}

theorem open_flatQ {α : Type} (f : α → List Value) (Q : α → Prop) {t e : TypeId} {size : Nat} (ht : P.underlying t = some (.slice e)) (hC : P.cellsOf e = size) (hs : 0 < size)
    (hE : ∀ (fuel : Nat) (cs : List Value) (y : DataW H × List MemPlace), DataW.trod enc P w base spare held fuel e cs = some y → cs.length = size → (∀ b off, MemPlace.cell b off ∈ y.2 → w.frozen? ⟨b, off, none⟩ = false) → ∃ x : α, cs = f x ∧ Q x)
    {fuel : Nat} {cs : List Value} {r : DataW H × List MemPlace} (h : DataW.trod enc P w base spare held fuel t cs = some r) (hz : ∀ b off, MemPlace.cell b off ∈ r.2 → w.frozen? ⟨b, off, none⟩ = false) :
    ∃ A n c l, cs = [.slice A n c] ∧ n ≤ maxLen ∧ Sl size f w base w.heap.size A n l ∧ ∀ x ∈ l, Q x := by
  rcases open_slice ht h with ⟨hcs, _⟩ | ⟨a, len, cap, m, n, D, Pl, hcs, hb, hl, hm, hmm, hr, hi⟩
  · exact ⟨none, 0, 0, [], hcs, Nat.zero_le _, Sl.nil_, fun _ h => (List.not_mem_nil h).elim⟩
  · have hlm : len ≤ m := by rw [hmm]; split <;> omega
    have hq : ∀ i, i < len → ∃ x : α, (∀ j u, (f x)[j]? = some u → w.cell? ((a.add (i * size)).add j) = some u ∧ j < size) ∧ Q x := by
      intro i hil
      obtain ⟨cs', hc, ht'⟩ := hi i (by omega)
      rw [hC] at hc
      obtain ⟨_, hcl, hat⟩ := World.cells?_some hc
      obtain ⟨y, rfl, hQ⟩ := hE _ _ _ ht' hcl (fun b off hp => hz b off (by
        rw [hr]
        exact List.mem_append_right _ (List.mem_flatMap.2 ⟨i, List.mem_range.2 (by omega), hp⟩)))
      refine ⟨y, fun j u hu => ?_, hQ⟩
      have hj : j < size := by rw [← hcl]; exact (List.getElem?_eq_some_iff.1 hu).1
      exact ⟨(hat j hj).trans hu, hj⟩
    obtain ⟨l, hll, hlq⟩ := list_of len hq
    refine ⟨some a, len, cap, l, hcs, by omega, ⟨hll, fun h0 => ?_⟩, fun x hx => ?_⟩
    · obtain ⟨b, off, spot⟩ := a
      have hspot : spot = none := by
        obtain ⟨cs', hc, ht'⟩ := hi 0 (by omega)
        rw [hC] at hc
        obtain ⟨_, hcl, hat⟩ := World.cells?_some hc
        have h1 := hat 0 hs
        rw [List.getElem?_eq_getElem (by omega)] at h1
        simpa [Addr.add] using World.cell?_spot h1
      subst hspot
      have hcell : ∀ (k : Nat) (x : α), l[k]? = some x → ∀ (j : Nat) (u : Value), (f x)[j]? = some u → w.cell? ⟨b, off + (k * size + j), none⟩ = some u ∧ k < len ∧ j < size := by
        intro k x hx j u hu
        obtain ⟨h1, h2⟩ := (hlq k x hx).1 j u hu
        rw [addr_add, addr_add, Nat.add_assoc] at h1
        exact ⟨h1, by rw [← hll]; exact (List.getElem?_eq_some_iff.1 hx).1, h2⟩
      have hbl : b < w.heap.size := by
        obtain ⟨cs', hc, ht'⟩ := hi 0 (by omega)
        rw [hC] at hc
        obtain ⟨_, hcl, hat⟩ := World.cells?_some hc
        have h1 := hat 0 hs
        rw [List.getElem?_eq_getElem (by omega), addr_add, addr_add] at h1
        exact World.block_lt_of_cell? w _ h1
      refine ⟨b, off, rfl, hb, hbl, hbl, fun k x hx j u hu => ?_⟩
      obtain ⟨h1, h2, h3⟩ := hcell k x hx j u hu
      refine ⟨h1, hz _ _ ?_⟩
      rw [hr, hC]
      refine List.mem_append_left _ (mem_row (a := ⟨b, off, none⟩) ?_)
      have hkm : (k + 1) * size ≤ m * size := Nat.mul_le_mul_right _ (by omega)
      rw [Nat.add_mul] at hkm
      omega
    · obtain ⟨k, hk⟩ := List.getElem?_of_mem hx
      exact (hlq k x hk).2

end

end Go.Proofs.YtnhomkmfbngmgaaGreatDoor
