/-
  Several texts in one:
  Words for memory: a slice value that reads as a list of elements, each element being a fixed number of cells. Conditions: none; plain theorems about worlds.
  Games on graphs: sets of vertices, attractors as an inductive predicate, and what two runs of the search for them keep. Conditions: none; plain lists.
  Games on graphs: validity, and the program's search for an attractor (a worklist with counts of ways left), as plain mathematics. Conditions: none.
  Games on graphs: sets being filled, and a round of the reference's search for an attractor, as plain mathematics. Conditions: none.
  Games on graphs: the least priority, and one step of the recursive computation of winners in the shapes that the program and the reference use. Conditions: none; plain lists.
-/
import Derived.WalkKit
import Derived.ProofKit
import Derived.OpenShut
import Derived.Handy
import Derived.Below
import Derived.Deep.Draws
import Derived.Laws.MakeOwn
set_option linter.unusedSimpArgs false
set_option linter.unusedVariables false
namespace Go.Proofs.Ythmhlbkkhaplkaa
open Go.RowKit

/-- A fact kept from the walk. -/
theorem hide {p : Prop} (h : p) : Hid p := h

theorem ret_b {a b : Bool} (h : b = a) : Ending.returned (.bool a) = .returned (.bool b) := by rw [h]
theorem ret_i {k : IntKind} {a b : Int} (h : b = a) : Ending.returned (.int k a) = .returned (.int k b) := by rw [h]

/-- The slice value `.slice A n c` holds the elements l (each of size cells, as f tells), in one block from lo on and below hi, whose cells may be written. -/
def Sl {α : Type} (size : Nat) (f : α → List Value) (w : World) (lo hi : Nat) (A : Option Addr) (n : Nat) (l : List α) : Prop :=
  l.length = n ∧ (0 < n → ∃ b off, A = some ⟨b, off, none⟩ ∧ lo ≤ b ∧ b < hi ∧ b < w.heap.size ∧
    ∀ (k : Nat) (x : α), l[k]? = some x → ∀ (j : Nat) (u : Value), (f x)[j]? = some u →
      w.cell? ⟨b, off + (k * size + j), none⟩ = some u ∧ w.frozen? ⟨b, off + (k * size + j), none⟩ = false)

section
variable {α : Type} {size : Nat} {f : α → List Value} {w w' : World} {lo hi lo' hi' n : Nat} {A : Option Addr} {l : List α}

theorem Sl.len (h : Sl size f w lo hi A n l) : l.length = n := h.1

theorem Sl.nil_ : Sl size f w lo hi A 0 ([] : List α) := ⟨rfl, fun h => absurd h (by omega)⟩

theorem Sl.at_ (h : Sl size f w lo hi A n l) (hn : 0 < n) : ∃ b off, A = some ⟨b, off, none⟩ ∧ lo ≤ b ∧ b < hi ∧ b < w.heap.size ∧
    ∀ (k : Nat) (x : α), l[k]? = some x → ∀ (j : Nat) (u : Value), (f x)[j]? = some u →
      w.cell? ⟨b, off + (k * size + j), none⟩ = some u ∧ w.frozen? ⟨b, off + (k * size + j), none⟩ = false := h.2 hn

theorem Sl.keep (h : Sl size f w lo hi A n l) (hs : w.heap.size ≤ w'.heap.size) (hk : ∀ b, lo ≤ b → b < hi → b < w.heap.size → w'.heap[b]? = w.heap[b]?) : Sl size f w' lo hi A n l :=
  ⟨h.1, fun hn => by
    obtain ⟨b, off, e, h1, h2, h3, hc⟩ := h.2 hn
    refine ⟨b, off, e, h1, h2, by omega, fun k x hx j u hu => ?_⟩
    obtain ⟨hc1, hc2⟩ := hc k x hx j u hu
    have hb := hk b h1 h2 h3
    exact ⟨(World.cell?_of_block (w := w) (by simpa using hb)).trans hc1, (World.frozen?_of_block (w := w) (by simpa using hb)).trans hc2⟩⟩

theorem Sl.below {B : Nat} (h : Sl size f w lo hi A n l) (hb : Below B w w') (hB : hi ≤ B ∨ w.heap.size ≤ B) : Sl size f w' lo hi A n l :=
  h.keep hb.size fun b _ h2 h3 => hb.block b (by omega)

theorem Sl.more (h : Sl size f w lo hi A n l) (h1 : lo' ≤ lo) (h2 : hi ≤ hi') : Sl size f w lo' hi' A n l :=
  ⟨h.1, fun hn => by
    obtain ⟨b, off, e, g1, g2, g3, hc⟩ := h.2 hn
    exact ⟨b, off, e, by omega, by omega, g3, hc⟩⟩

theorem Sl.top (h : Sl size f w lo hi A n l) : Sl size f w lo w.heap.size A n l :=
  ⟨h.1, fun hn => by
    obtain ⟨b, off, e, g1, g2, g3, hc⟩ := h.2 hn
    exact ⟨b, off, e, by omega, by omega, g3, hc⟩⟩

theorem Sl.drew (h : Sl size f w lo hi A n l) : Sl size f w.drew lo hi A n l := h
theorem Sl.drewN (h : Sl size f w lo hi A n l) (k : Nat) : Sl size f (w.drewN k) lo hi A n l := h
end

/-- Int's order test in Bool. -/
def inB (n lo hi : Int) : Bool := decide (lo ≤ n) && decide (n ≤ hi)

/-- A struct of two int64 fields. -/
def tv (t : Int × Int) : List Value := [.int .i64 t.1, .int .i64 t.2]
/-- An int64. -/
def iv (n : Int) : List Value := [.int .i64 n]

abbrev SlT := Sl 2 tv
abbrev SlI := Sl 1 iv

/-- Block B is a row of n elements of which the first k are those of l. -/
def Fill {α : Type} (size : Nat) (f : α → List Value) (w : World) (B : Nat) (t : TypeId) (n k : Nat) (l : List α) : Prop :=
  ∃ cur : Array Value, w.heap[B]? = some (.cells cur t (0, 0)) ∧ cur.size = n * size ∧
    ∀ (i : Nat) (x : α), i < k → l[i]? = some x → ∀ (j : Nat) (u : Value), (f x)[j]? = some u → cur[i * size + j]? = some u

section
variable {α : Type} {size : Nat} {f : α → List Value} {w w' : World} {B n k : Nat} {t : TypeId} {l : List α}

theorem Fill.start (w : World) (t : TypeId) (cur : Array Value) (n : Nat) (hs : cur.size = n * size) : Fill size f (w.alloc (.cells cur t)) w.heap.size t n 0 l :=
  ⟨cur, heap_alloc_new w _, hs, fun i x hi => absurd hi (by omega)⟩

theorem Fill.lt (h : Fill size f w B t n k l) : B < w.heap.size := by
  obtain ⟨cur, hc, _⟩ := h
  rcases Nat.lt_or_ge B w.heap.size with hl | hl
  · exact hl
  · rw [Array.getElem?_eq_none hl] at hc; cases hc

theorem Fill.keep (h : Fill size f w B t n k l) (hb : w'.heap[B]? = w.heap[B]?) : Fill size f w' B t n k l := by
  obtain ⟨cur, hc, r⟩ := h
  exact ⟨cur, hb.trans hc, r⟩

theorem Fill.cell (h : Fill size f w B t n k l) {i : Nat} (hi : i < n * size) : ∃ u, w.cell? ⟨B, i, none⟩ = some u := by
  obtain ⟨cur, hc, hs, _⟩ := h
  exact ⟨cur[i]'(by omega), by rw [cell_of_row w B i cur t (0, 0) hc, Array.getElem?_eq_getElem (by omega)]⟩

theorem Fill.frozen (h : Fill size f w B t n k l) (i : Nat) : w.frozen? ⟨B, i, none⟩ = false := by
  obtain ⟨cur, hc, hs, _⟩ := h
  exact frozen_of_row w B i cur t hc

/-- A round that lays element k, cell by cell. -/
theorem Fill.step (h : Fill size f w B t n k l) (hlen : ∀ x, (f x).length = size) {x : α} (hx : l[k]? = some x)
    (hs : ∀ cur : Array Value, w.heap[B]? = some (.cells cur t (0, 0)) → cur.size = n * size → ∃ cur', w'.heap[B]? = some (.cells cur' t (0, 0)) ∧ cur'.size = cur.size ∧
      (∀ i, i < k * size → cur'[i]? = cur[i]?) ∧ (∀ j u, (f x)[j]? = some u → cur'[k * size + j]? = some u)) : Fill size f w' B t n (k + 1) l := by
  obtain ⟨cur, hc, hsz, hel⟩ := h
  obtain ⟨cur', h1, h2, h3, h4⟩ := hs cur hc hsz
  refine ⟨cur', h1, h2.trans hsz, fun i y hi hy j v hv => ?_⟩
  have hj : j < size := by rw [← hlen y]; exact (List.getElem?_eq_some_iff.1 hv).1
  rcases Nat.lt_or_ge i k with hlt | hge
  · have hm : (i + 1) * size ≤ k * size := Nat.mul_le_mul_right _ hlt
    rw [Nat.add_mul] at hm
    rw [h3 _ (by omega)]
    exact hel i y hlt hy j v hv
  · have : i = k := by omega
    subst this
    rw [hx] at hy
    cases hy
    exact h4 j v hv

theorem Fill.done (h : Fill size f w B t n n l) (hl : l.length = n) {lo hi : Nat} (h1 : lo ≤ B) (h2 : B < hi) : Sl size f w lo hi (some ⟨B, 0, none⟩) n l := by
  refine ⟨hl, fun _ => ⟨B, 0, rfl, h1, h2, h.lt, fun k x hx j u hu => ?_⟩⟩
  obtain ⟨cur, hc, hs, hel⟩ := h
  have hk : k < n := by rw [← hl]; exact (List.getElem?_eq_some_iff.1 hx).1
  rw [Nat.zero_add]
  exact ⟨(cell_of_row w B _ cur t (0, 0) hc).trans (hel k x hk hx j u hu), frozen_of_row w B _ cur t hc⟩
end

section
variable {w w' : World} {lo hi n : Nat} {A : Option Addr}
/-- A slice of two-field structs, read at k, in the walk's spelling. -/
theorem SlT.get {l : List (Int × Int)} (h : SlT w lo hi A n l) {k : Nat} (hk : k < n) :
    ∃ b off x y, A = some ⟨b, off, none⟩ ∧ lo ≤ b ∧ b < hi ∧ b < w.heap.size ∧ l[k]? = some (x, y) ∧ w.cell? ⟨b, off + k * 2, none⟩ = some (.int .i64 x) ∧ w.cell? ⟨b, off + k * 2 + 1, none⟩ = some (.int .i64 y) ∧
      w.frozen? ⟨b, off + k * 2, none⟩ = false ∧ w.frozen? ⟨b, off + k * 2 + 1, none⟩ = false := by
  obtain ⟨b, off, e, g1, g2, g3, hc⟩ := h.at_ (by omega)
  have hl : k < l.length := by rw [h.len]; exact hk
  have h0 := hc k l[k] (List.getElem?_eq_getElem hl) 0 _ rfl
  have h1 := hc k l[k] (List.getElem?_eq_getElem hl) 1 _ rfl
  rw [← Nat.add_assoc] at h1
  exact ⟨b, off, l[k].1, l[k].2, e, g1, g2, g3, List.getElem?_eq_getElem hl, h0.1, h1.1, h0.2, h1.2⟩
theorem SlI.get {l : List Int} (h : SlI w lo hi A n l) {k : Nat} (hk : k < n) :
    ∃ b off x, A = some ⟨b, off, none⟩ ∧ lo ≤ b ∧ b < hi ∧ b < w.heap.size ∧ l[k]? = some x ∧ w.cell? ⟨b, off + k, none⟩ = some (.int .i64 x) ∧ w.frozen? ⟨b, off + k, none⟩ = false := by
  obtain ⟨b, off, e, g1, g2, g3, hc⟩ := h.at_ (by omega)
  have hl : k < l.length := by rw [h.len]; exact hk
  have h0 := hc k l[k] (List.getElem?_eq_getElem hl) 0 _ rfl
  simp only [Nat.mul_one, Nat.add_zero] at h0
  exact ⟨b, off, l[k], e, g1, g2, g3, List.getElem?_eq_getElem hl, h0.1, h0.2⟩
end

/-- `make([]T, n)` at an n that fits: a new block of n elements' zero cells. -/
theorem make_row {P : Program} (t e : TypeId) (i : TypeInfo) (z : Value) (sz n : Nat) (ht : P.underlying t = some (.slice e)) (hi : P.info? e = some i) (hz : i.zero = some z) (hsz : i.size = sz)
    (hby : i.bytes * n ≤ 281474976710656) (hn : n ≤ 9223372036854775807) (W : World) :
    (Instr.makeSlice t (.int .i64 (n : Int)) (.int .i64 (n : Int))).run P W = .ok (.slice (some ⟨W.heap.size, 0, none⟩) n n) (W.alloc (.cells (madeCells z.cells (n * sz)) e)) := by
  have hb : (i.bytes : Int) * (n : Int) ≤ 281474976710656 := by
    rw [← Int.natCast_mul]
    omega
  have h := run_make (P := P) W t e i z ht hi hz .i64 .i64 n n (by omega) (Int.le_refl _) hb (by omega)
  rw [Int.toNat_natCast, hsz] at h
  exact h

section
variable {α : Type} {f : α → List Value} {w : World} {B n k : Nat} {t : TypeId} {l : List α}
end

theorem take_step {α : Type} {l r : List α} {k : Nat} {x y : α} (h : l.take k = r.take k) (hx : l[k]? = some x) (hy : r[k]? = some y) (e : x = y) : l.take (k + 1) = r.take (k + 1) := by
  subst e
  rw [List.take_add_one, List.take_add_one, h, hx, hy]
theorem take_stop {α : Type} {l r : List α} {k : Nat} {x y : α} (hx : l[k]? = some x) (hy : r[k]? = some y) (e : x ≠ y) : l ≠ r := by
  rintro rfl
  rw [hx] at hy
  exact e (Option.some.inj hy)
theorem take_all {α : Type} {l r : List α} {k : Nat} (h : l.take k = r.take k) (hl : l.length = k) (hr : r.length = k) : l = r := by
  rw [List.take_of_length_le (by omega), List.take_of_length_le (by omega)] at h
  exact h
/-- w' is w but for blocks from lo on and below hi, and new blocks. -/
structure Only (lo hi : Nat) (w w' : World) : Prop where
  os : w'.os = w.os
  tape : w'.tape = w.tape
  output : w'.output = w.output
  size : w.heap.size ≤ w'.heap.size
  block : ∀ b, b < w.heap.size → b < lo ∨ hi ≤ b → w'.heap[b]? = w.heap[b]?

theorem Only.refl (lo hi : Nat) (w : World) : Only lo hi w w := ⟨rfl, rfl, rfl, Nat.le_refl _, fun _ _ _ => rfl⟩
theorem Only.setCell {lo hi : Nat} {a w : World} (h : Only lo hi a w) {p : Addr} (h1 : lo ≤ p.block) (h2 : p.block < hi) (u : Value) : Only lo hi a (w.setCell p u) :=
  ⟨h.os, h.tape, h.output, by simpa [World.setCell] using h.size, fun b hb ho => (Below.heap_setCell w p u b (by omega)).trans (h.block b hb ho)⟩
theorem Only.below {lo hi B : Nat} {a w w' : World} (h : Below B a w) (g : Only lo hi w w') (h1 : B ≤ lo) (h2 : B ≤ w.heap.size) : Below B a w' :=
  h.trans ⟨g.os, g.tape, g.output, g.size, fun b hb => g.block b (by omega) (by omega)⟩
theorem Sl.only {α : Type} {size : Nat} {f : α → List Value} {w w' : World} {lo hi lo' hi' n : Nat} {A : Option Addr} {l : List α} (h : Sl size f w lo hi A n l) (g : Only lo' hi' w w') (hd : hi ≤ lo' ∨ hi' ≤ lo) : Sl size f w' lo hi A n l :=
  h.keep g.size fun b h1 h2 h3 => g.block b h3 (by omega)

section
variable {w : World} {lo hi n b off : Nat}
theorem SlT.put {l : List (Int × Int)} (h : SlT w lo hi (some ⟨b, off, none⟩) n l) {k : Nat} (hk : k < n) (x y : Int) :
    SlT ((w.setCell ⟨b, off + k * 2, none⟩ (.int .i64 x)).setCell ⟨b, off + k * 2 + 1, none⟩ (.int .i64 y)) lo hi (some ⟨b, off, none⟩) n (l.set k (x, y)) := by
  refine ⟨by rw [List.length_set]; exact h.len, fun _ => ?_⟩
  obtain ⟨b', off', e, g1, g2, g3, hc⟩ := h.at_ (by omega)
  cases e
  refine ⟨b, off, rfl, g1, g2, by simpa [World.setCell] using g3, fun i z hz j u hu => ?_⟩
  have hj : j < 2 := (List.getElem?_eq_some_iff.1 hu).1
  have hil : i < l.length := by
    have := (List.getElem?_eq_some_iff.1 hz).1
    rwa [List.length_set] at this
  obtain ⟨hkc0, hkf0⟩ := hc k (l[k]'(by rw [h.len]; exact hk)) (List.getElem?_eq_getElem _) 0 _ rfl
  obtain ⟨hkc1, hkf1⟩ := hc k (l[k]'(by rw [h.len]; exact hk)) (List.getElem?_eq_getElem _) 1 _ rfl
  have hfr : ∀ (W : World) (p q : Addr) (v : Value), (W.setCell p v).frozen? q = W.frozen? q := fun W p q v => World.frozen?_setCell W p q v
  rw [hfr, hfr]
  by_cases hik : i = k
  · subst hik
    rw [List.getElem?_set_self hil] at hz
    cases hz
    match j, hu with
    | 0, hu =>
      simp [tv] at hu
      subst hu
      simp only [Nat.add_zero] at hkc0 hkf0 ⊢
      refine ⟨?_, hkf0⟩
      rw [World.cell?_setCell_other _ _ _ _ (by intro e; injection e with _ e _; omega)]
      exact World.cell?_setCell_same _ _ _ hkc0
    | 1, hu =>
      simp [tv] at hu
      subst hu
      rw [← Nat.add_assoc] at hkc1 hkf1 ⊢
      refine ⟨?_, hkf1⟩
      exact World.cell?_setCell_same _ _ _ ((World.cell?_setCell_other _ _ _ _ (by intro e; injection e with _ e _; omega)).trans hkc1)
  · rw [List.getElem?_set_ne (by omega)] at hz
    obtain ⟨h1, h2⟩ := hc i z hz j u hu
    refine ⟨?_, h2⟩
    rw [World.cell?_setCell_other _ _ _ _ (by intro e; injection e with _ e _; omega), World.cell?_setCell_other _ _ _ _ (by intro e; injection e with _ e _; omega)]
    exact h1
theorem SlI.put {l : List Int} (h : SlI w lo hi (some ⟨b, off, none⟩) n l) {k : Nat} (hk : k < n) (x : Int) :
    SlI (w.setCell ⟨b, off + k, none⟩ (.int .i64 x)) lo hi (some ⟨b, off, none⟩) n (l.set k x) := by
  refine ⟨by rw [List.length_set]; exact h.len, fun _ => ?_⟩
  obtain ⟨b', off', e, g1, g2, g3, hc⟩ := h.at_ (by omega)
  cases e
  refine ⟨b, off, rfl, g1, g2, by simpa [World.setCell] using g3, fun i z hz j u hu => ?_⟩
  have hj : j < 1 := (List.getElem?_eq_some_iff.1 hu).1
  have hil : i < l.length := by
    have := (List.getElem?_eq_some_iff.1 hz).1
    rwa [List.length_set] at this
  obtain ⟨hkc0, hkf0⟩ := hc k (l[k]'(by rw [h.len]; exact hk)) (List.getElem?_eq_getElem _) 0 _ rfl
  rw [World.frozen?_setCell]
  by_cases hik : i = k
  · subst hik
    rw [List.getElem?_set_self hil] at hz
    cases hz
    match j, hu with
    | 0, hu =>
      simp [iv] at hu
      subst hu
      simp only [Nat.add_zero, Nat.mul_one] at hkc0 hkf0 ⊢
      exact ⟨World.cell?_setCell_same _ _ _ hkc0, hkf0⟩
  · rw [List.getElem?_set_ne (by omega)] at hz
    obtain ⟨h1, h2⟩ := hc i z hz j u hu
    refine ⟨?_, h2⟩
    rw [World.cell?_setCell_other _ _ _ _ (by intro e; injection e with _ e _; omega)]
    exact h1
end

/-- A list of which the first k elements are mapped by g, the others as they were. -/
def MapK {α : Type} (g : α → α) (k : Nat) (l L : List α) : Prop := L.length = l.length ∧ (∀ i, i < k → L[i]? = (l[i]?).map g) ∧ ∀ i, k ≤ i → L[i]? = l[i]?
theorem MapK.start {α : Type} (g : α → α) (l : List α) : MapK g 0 l l := ⟨rfl, fun i hi => absurd hi (by omega), fun _ _ => rfl⟩
theorem MapK.skip {α : Type} {g : α → α} {k : Nat} {l L : List α} (h : MapK g k l L) {x : α} (hx : L[k]? = some x) (hg : g x = x) : MapK g (k + 1) l L := by
  refine ⟨h.1, fun i hi => ?_, fun i hi => h.2.2 i (by omega)⟩
  by_cases e : i = k
  · subst e
    have h1 := h.2.2 i (Nat.le_refl _)
    rw [← h1, hx]
    simp [hg]
  · exact h.2.1 i (by omega)
theorem MapK.set {α : Type} {g : α → α} {k : Nat} {l L : List α} (h : MapK g k l L) {x y : α} (hx : L[k]? = some x) (hg : g x = y) : MapK g (k + 1) l (L.set k y) := by
  have hk : k < L.length := (List.getElem?_eq_some_iff.1 hx).1
  refine ⟨by rw [List.length_set]; exact h.1, fun i hi => ?_, fun i hi => by rw [List.getElem?_set_ne (by omega)]; exact h.2.2 i (by omega)⟩
  by_cases e : i = k
  · subst e
    rw [List.getElem?_set_self hk, ← h.2.2 i (Nat.le_refl _), hx]
    simp [hg]
  · rw [List.getElem?_set_ne (by omega)]
    exact h.2.1 i (by omega)
theorem MapK.done {α : Type} {g : α → α} {k : Nat} {l L : List α} (h : MapK g k l L) (hk : l.length = k) : L = l.map g := by
  apply List.ext_getElem?
  intro i
  rw [List.getElem?_map]
  by_cases hi : i < k
  · exact h.2.1 i hi
  · rw [h.2.2 i (by omega), List.getElem?_eq_none (by omega)]
    rfl

end Go.Proofs.Ythmhlbkkhaplkaa

namespace Go.Proofs.Ythmhlbkkhaplkaa
set_option linter.unusedVariables false

/-- A vertex: owner and priority, and the vertices behind it. -/
abbrev Vx := Int × Int × List Int
abbrev DV := List Vx

/-- A set of vertices as a list of answers. -/
def inS (s : List Bool) (v : Nat) : Bool := s[v]?.getD false
theorem inS_some {s : List Bool} {v : Nat} {b : Bool} (h : s[v]? = some b) : inS s v = b := by unfold inS; rw [h]; rfl
theorem inS_lt {s : List Bool} {v : Nat} (h : inS s v = true) : v < s.length := by
  unfold inS at h
  cases e : s[v]? with
  | none => rw [e] at h; cases h
  | some b => exact (List.getElem?_eq_some_iff.1 e).1
theorem inS_big {s : List Bool} {v : Nat} (h : s.length ≤ v) : inS s v = false := by unfold inS; rw [List.getElem?_eq_none h]; rfl
theorem inS_get {s : List Bool} {v : Nat} (h : v < s.length) : s[v]? = some (inS s v) := by unfold inS; rw [List.getElem?_eq_getElem h]; rfl
theorem inS_set {s : List Bool} {v u : Nat} {b : Bool} (h : v < s.length) : inS (s.set v b) u = if v = u then b else inS s u := by
  unfold inS
  by_cases e : v = u
  · subst e; rw [List.getElem?_set_self h]; simp
  · rw [List.getElem?_set_ne e]; simp [e]
theorem inS_ext {s t : List Bool} (hl : s.length = t.length) (h : ∀ v, v < s.length → inS s v = inS t v) : s = t := by
  apply List.ext_getElem?
  intro i
  by_cases hi : i < s.length
  · rw [inS_get hi, inS_get (by omega), h i hi]
  · rw [List.getElem?_eq_none (by omega), List.getElem?_eq_none (by omega)]
/-- The set of those below n that are as asked. -/
def setOf (n : Nat) (p : Nat → Bool) : List Bool := (List.range n).map p
theorem setOf_len (n : Nat) (p : Nat → Bool) : (setOf n p).length = n := by simp [setOf]
theorem setOf_get {n : Nat} {p : Nat → Bool} {v : Nat} (h : v < n) : (setOf n p)[v]? = some (p v) := by simp [setOf, h]
theorem inS_setOf {n : Nat} {p : Nat → Bool} {v : Nat} : inS (setOf n p) v = (decide (v < n) && p v) := by
  by_cases h : v < n
  · rw [inS_some (setOf_get h)]; simp [h]
  · rw [inS_big (by rw [setOf_len]; omega)]; simp [h]
theorem setOf_inS {s : List Bool} {n : Nat} (h : s.length = n) : setOf n (inS s) = s := by
  subst h
  exact inS_ext (setOf_len _ _) fun v hv => by rw [setOf_len] at hv; rw [inS_setOf]; simp [hv]
theorem setOf_congr {n : Nat} {p q : Nat → Bool} (h : ∀ v, v < n → p v = q v) : setOf n p = setOf n q := by
  unfold setOf
  apply List.map_congr_left
  intro v hv
  exact h v (List.mem_range.1 hv)

def gOwn (g : DV) (v : Nat) : Int := (g[v]?.map fun x => x.1).getD 0
def gPri (g : DV) (v : Nat) : Int := (g[v]?.map fun x => x.2.1).getD 0
def gNxt (g : DV) (v : Nat) : List Nat := (g[v]?.map fun x => x.2.2.map Int.toNat).getD []
theorem gOwn_at {g : DV} {v : Nat} {o p : Int} {l : List Int} (h : g[v]? = some (o, p, l)) : gOwn g v = o := by unfold gOwn; rw [h]; rfl
theorem gPri_at {g : DV} {v : Nat} {o p : Int} {l : List Int} (h : g[v]? = some (o, p, l)) : gPri g v = p := by unfold gPri; rw [h]; rfl
theorem gNxt_at {g : DV} {v : Nat} {o p : Int} {l : List Int} (h : g[v]? = some (o, p, l)) : gNxt g v = l.map Int.toNat := by unfold gNxt; rw [h]; rfl

/-- From v the player can force a way into the set, among vertices that are alive. -/
inductive Attr (g : DV) (alive : List Bool) (player : Int) (set : List Bool) : Nat → Prop
  | base {v : Nat} : inS set v = true → Attr g alive player set v
  | own {v u : Nat} : inS alive v = true → gOwn g v = player → u ∈ gNxt g v → inS alive u = true → Attr g alive player set u → Attr g alive player set v
  | other {v u : Nat} : inS alive v = true → gOwn g v ≠ player → u ∈ gNxt g v → inS alive u = true → (∀ x, x ∈ gNxt g v → inS alive x = true → Attr g alive player set x) → Attr g alive player set v

open Classical in
/-- The attractor. -/
noncomputable def attrF (g : DV) (alive : List Bool) (player : Int) (set : List Bool) : List Bool := setOf g.length fun v => decide (Attr g alive player set v)
theorem attrF_len (g : DV) (alive : List Bool) (player : Int) (set : List Bool) : (attrF g alive player set).length = g.length := setOf_len _ _

section
variable {g : DV} {alive set out : List Bool} {player : Int}

theorem Attr.sub (h : ∀ v, inS set v = true → inS alive v = true) {v : Nat} (a : Attr g alive player set v) : inS alive v = true := by
  cases a with
  | base h1 => exact h v h1
  | own h1 => exact h1
  | other h1 => exact h1

theorem inS_attrF (hl : alive.length = g.length) (h : ∀ v, inS set v = true → inS alive v = true) {v : Nat} : inS (attrF g alive player set) v = true ↔ Attr g alive player set v := by
  unfold attrF
  rw [inS_setOf]
  constructor
  · intro h; simp at h; exact h.2
  · intro a
    have := inS_lt (a.sub h)
    simp [a]
    omega

/-- Nothing can be added to out. -/
def Closed (g : DV) (alive : List Bool) (player : Int) (out : List Bool) (v : Nat) : Prop :=
  inS alive v = true → inS out v = false →
    (gOwn g v = player → ∀ u, u ∈ gNxt g v → inS alive u = true → inS out u = false) ∧
    (gOwn g v ≠ player → (∃ u, u ∈ gNxt g v ∧ inS alive u = true) → ∃ u, u ∈ gNxt g v ∧ inS alive u = true ∧ inS out u = false)

theorem Attr.in_closed (hs : ∀ v, inS set v = true → inS out v = true) (hc : ∀ v, Closed g alive player out v) {v : Nat} (a : Attr g alive player set v) : inS out v = true := by
  induction a with
  | base h => exact hs _ h
  | @own v u h1 h2 h3 h4 _ ih =>
    cases e : inS out v with
    | true => rfl
    | false =>
      have := (hc v h1 e).1 h2 u h3 h4
      rw [ih] at this; cases this
  | @other v u h1 h2 h3 h4 _ ih =>
    cases e : inS out v with
    | true => rfl
    | false =>
      obtain ⟨x, x1, x2, x3⟩ := (hc v h1 e).2 h2 ⟨u, h3, h4⟩
      rw [ih x x1 x2] at x3; cases x3

/-- A set between the one asked for and the attractor. -/
structure Between (g : DV) (alive : List Bool) (player : Int) (set out : List Bool) : Prop where
  len : out.length = g.length
  from_ : ∀ v, inS set v = true → inS out v = true
  to_ : ∀ v, inS out v = true → Attr g alive player set v

theorem Between.start (hl : set.length = g.length) : Between g alive player set set := ⟨hl, fun _ h => h, fun _ h => .base h⟩
theorem Between.add (h : Between g alive player set out) {v : Nat} (hv : v < g.length) (a : Attr g alive player set v) : Between g alive player set (out.set v true) := by
  have hl := h.len
  refine ⟨by rw [List.length_set]; exact hl, fun u hu => ?_, fun u hu => ?_⟩
  · rw [inS_set (by omega)]
    split
    · rfl
    · exact h.from_ u hu
  · rw [inS_set (by omega)] at hu
    split at hu
    · rename_i e; subst e; exact a
    · exact h.to_ u hu
theorem Between.done (h : Between g alive player set out) (hc : ∀ v, v < g.length → Closed g alive player out v) (hal : alive.length = g.length) : out = attrF g alive player set := by
  have hc' : ∀ v, Closed g alive player out v := fun v => by
    by_cases hv : v < g.length
    · exact hc v hv
    · intro h1; have := inS_lt h1; omega
  refine inS_ext (by rw [h.len, attrF_len]) fun v hv => ?_
  have hv' : v < g.length := by rw [← h.len]; exact hv
  unfold attrF
  rw [inS_setOf]
  by_cases a : Attr g alive player set v
  · rw [a.in_closed h.from_ hc']
    simp [a, hv']
  · simp only [a, decide_false, Bool.and_false]
    cases e : inS out v with
    | false => rfl
    | true => exact absurd (h.to_ v e) a
end

/-- How many are in a set. -/
def cntT (s : List Bool) : Nat := (s.filter id).length
theorem cntT_le (s : List Bool) : cntT s ≤ s.length := List.length_filter_le _ _
theorem cntT_set {s : List Bool} : ∀ {v : Nat}, v < s.length → inS s v = false → cntT (s.set v true) = cntT s + 1 := by
  induction s with
  | nil => intro v h; simp at h
  | cons b s ih =>
    intro v hv h
    cases v with
    | zero =>
      have hb : b = false := by simpa [inS] using h
      subst hb
      simp [cntT]
    | succ v =>
      have h1 := ih (v := v) (by simpa using hv) (by simpa [inS] using h)
      unfold cntT at h1 ⊢
      cases b <;> simp [List.filter_cons] at h1 ⊢ <;> omega

/-- A set strictly within another one is smaller. -/
theorem cntT_lt {s t : List Bool} (hl : s.length = t.length) (h : ∀ v, inS s v = true → inS t v = true) {v : Nat} (hv : inS t v = true) (hv' : inS s v = false) : cntT s < cntT t := by
  have mono : ∀ (s t : List Bool), s.length = t.length → (∀ v, inS s v = true → inS t v = true) → cntT s ≤ cntT t := by
    intro s
    induction s with
    | nil => intro t _ _; simp [cntT]
    | cons b s ih =>
      intro t hl h
      cases t with
      | nil => simp at hl
      | cons c t =>
        have h0 := h 0
        have h1 := ih t (by simpa using hl) fun v hv => by have := h (v + 1); simpa [inS] using this (by simpa [inS] using hv)
        unfold cntT at h1 ⊢
        have h0' : b = true → c = true := by simpa [inS] using h0
        cases b <;> cases c <;> simp [List.filter_cons] at h0' ⊢ <;> omega
  have h2 := mono (s.set v true) t (by rw [List.length_set]; exact hl) fun u hu => by
    rw [inS_set (by rw [hl]; exact inS_lt hv)] at hu
    split at hu
    · rename_i e; subst e; exact hv
    · exact h u hu
  rw [cntT_set (by rw [hl]; exact inS_lt hv) hv'] at h2
  omega

/-- One round of the reference's search. -/
def someL (alive out : List Bool) (l : List Nat) : Bool := l.any fun u => inS alive u && inS out u
def allL (alive out : List Bool) (l : List Nat) : Bool := l.all fun u => !inS alive u || inS out u
def anyL (alive : List Bool) (l : List Nat) : Bool := l.any fun u => inS alive u

section
variable {g : DV} {alive set out : List Bool} {player : Int}
theorem attr_of_own {v : Nat} (h : Between g alive player set out) (h1 : inS alive v = true) (h2 : gOwn g v = player) (h3 : someL alive out (gNxt g v) = true) : Attr g alive player set v := by
  obtain ⟨u, hu, hb⟩ := List.any_eq_true.1 h3
  simp at hb
  exact .own h1 h2 hu hb.1 (h.to_ u hb.2)
theorem attr_of_other {v : Nat} (h : Between g alive player set out) (h1 : inS alive v = true) (h2 : gOwn g v ≠ player) (h3 : anyL alive (gNxt g v) = true) (h4 : allL alive out (gNxt g v) = true) : Attr g alive player set v := by
  obtain ⟨u, hu, hb⟩ := List.any_eq_true.1 h3
  refine .other h1 h2 hu hb fun x hx ha => h.to_ x ?_
  have := List.all_eq_true.1 h4 x hx
  simpa [ha] using this
theorem closed_of_own {v : Nat} (h2 : gOwn g v = player) (h3 : someL alive out (gNxt g v) = false) : Closed g alive player out v := by
  intro _ _
  refine ⟨fun _ u hu ha => ?_, fun h => absurd h2 h⟩
  have := List.any_eq_false.1 h3 u hu
  simp [ha] at this
  exact this
theorem closed_of_other {v : Nat} (h2 : gOwn g v ≠ player) (h3 : (anyL alive (gNxt g v) && allL alive out (gNxt g v)) = false) : Closed g alive player out v := by
  intro _ _
  refine ⟨fun h => absurd h h2, fun _ ⟨u, hu, ha⟩ => ?_⟩
  have h4 : anyL alive (gNxt g v) = true := List.any_eq_true.2 ⟨u, hu, ha⟩
  rw [h4, Bool.true_and] at h3
  have : ¬ allL alive out (gNxt g v) = true := by rw [h3]; simp
  unfold allL at this
  rw [List.all_eq_true] at this
  have h5 : ∃ x, x ∈ gNxt g v ∧ ¬ ((!inS alive x || inS out x) = true) := Classical.byContradiction fun hn => this fun x hx => Classical.byContradiction fun hn' => hn ⟨x, hx, hn'⟩
  obtain ⟨x, hx, hq⟩ := h5
  simp at hq
  exact ⟨x, hx, hq.1, hq.2⟩
theorem closed_dead {v : Nat} (h : inS alive v = false) : Closed g alive player out v := fun h1 => by rw [h] at h1; cases h1
theorem closed_in {v : Nat} (h : inS out v = true) : Closed g alive player out v := fun _ h1 => by rw [h] at h1; cases h1
end

/-- The least priority among vertices, and whether there is one. -/
def leastP (g : DV) (alive : List Bool) : Option Int :=
  (List.range g.length).foldl (fun a v => if inS alive v then some (match a with | none => gPri g v | some m => min m (gPri g v)) else a) none

/-- What the player 1 wins among vertices that are alive. -/
noncomputable def winF (g : DV) : Nat → List Bool → List Bool
  | 0, _ => setOf g.length fun _ => false
  | f + 1, alive =>
    match leastP g alive with
    | none => setOf g.length fun _ => false
    | some least =>
      let player := least % 2
      let first := attrF g alive player (setOf g.length fun v => inS alive v && decide (gPri g v = least))
      let rest := setOf g.length fun v => inS alive v && !inS first v
      let won := winF g f rest
      let other := setOf g.length fun v => inS rest v && (inS won v != decide (player = 1))
      if (List.range g.length).any (inS other) then
        let lost := attrF g alive (1 - player) other
        let won2 := winF g f (setOf g.length fun v => inS alive v && !inS lost v)
        setOf g.length fun v => inS alive v && ((inS lost v && decide (player = 0)) || (!inS lost v && inS won2 v))
      else setOf g.length fun v => inS alive v && decide (player = 1)

theorem winF_len (g : DV) (f : Nat) (alive : List Bool) : (winF g f alive).length = g.length := by
  cases f with
  | zero => exact setOf_len _ _
  | succ f =>
    unfold winF
    split
    · exact setOf_len _ _
    · dsimp only
      split <;> exact setOf_len _ _

theorem winF_sub (g : DV) (f : Nat) (alive : List Bool) {v : Nat} (h : inS (winF g f alive) v = true) : inS alive v = true := by
  cases f with
  | zero => unfold winF at h; rw [inS_setOf] at h; simp at h
  | succ f =>
    unfold winF at h
    split at h
    · rw [inS_setOf] at h; simp at h
    · dsimp only at h
      split at h <;> (rw [inS_setOf] at h; simp at h; exact h.2.1)

/-- The winners as the program reckons them. -/
noncomputable def stuckF (g : DV) (owner : Int) : List Bool := setOf g.length fun v => decide (gOwn g v = owner) && (gNxt g v).isEmpty
def wholeF (g : DV) : List Bool := setOf g.length fun _ => true
noncomputable def oneF (g : DV) : List Bool := attrF g (wholeF g) 1 (stuckF g 0)
noncomputable def zeroF (g : DV) : List Bool := attrF g (wholeF g) 0 (stuckF g 1)
noncomputable def restF (g : DV) : List Bool := setOf g.length fun v => !inS (zeroF g) v && !inS (oneF g) v
noncomputable def winnersF (g : DV) : List Int := (List.range g.length).map fun v => if inS (oneF g) v || (!inS (zeroF g) v && inS (winF g g.length (restF g)) v) then 1 else 0

theorem inS_whole {g : DV} {v : Nat} : inS (wholeF g) v = decide (v < g.length) := by unfold wholeF; rw [inS_setOf]; simp
theorem stuck_whole {g : DV} {o : Int} {v : Nat} (h : inS (stuckF g o) v = true) : inS (wholeF g) v = true := by
  rw [inS_whole]; unfold stuckF at h; rw [inS_setOf] at h; simp at h; simp [h.1]
theorem inS_stuck {g : DV} {o : Int} {v : Nat} (h : inS (stuckF g o) v = true) : gOwn g v = o ∧ gNxt g v = [] := by
  unfold stuckF at h; rw [inS_setOf] at h; simp at h; exact ⟨h.2.1, h.2.2⟩
theorem inS_oneF {g : DV} {v : Nat} : inS (oneF g) v = true ↔ Attr g (wholeF g) 1 (stuckF g 0) v := inS_attrF (setOf_len _ _) fun _ => stuck_whole
theorem inS_zeroF {g : DV} {v : Nat} : inS (zeroF g) v = true ↔ Attr g (wholeF g) 0 (stuckF g 1) v := inS_attrF (setOf_len _ _) fun _ => stuck_whole

/-- Each vertex is of one of two owners. -/
def Owned (g : DV) : Prop := ∀ v, v < g.length → gOwn g v = 0 ∨ gOwn g v = 1

/-- Nobody is forced to both ends. -/
theorem one_not_zero {g : DV} {v : Nat} (a : Attr g (wholeF g) 1 (stuckF g 0) v) : ¬ Attr g (wholeF g) 0 (stuckF g 1) v := by
  induction a with
  | base h =>
    obtain ⟨h1, h2⟩ := inS_stuck h
    intro z
    cases z with
    | base z => rw [(inS_stuck z).1] at h1; cases h1
    | own _ _ z => rw [h2] at z; cases z
    | other _ z => exact z h1
  | own h1 h2 h3 h4 _ ih =>
    intro z
    cases z with
    | base z => rw [(inS_stuck z).2] at h3; cases h3
    | own _ z => rw [z] at h2; cases h2
    | other _ _ _ _ z => exact ih (z _ h3 h4)
  | other h1 h2 h3 h4 _ ih =>
    intro z
    cases z with
    | base z => exact h2 (inS_stuck z).1
    | own _ _ z1 z2 z3 => exact ih _ z1 z2 z3
    | other _ z z1 z2 z3 => exact ih _ h3 h4 (z3 _ h3 h4)

/-- Taken one behind the other, the second attractor is the one of the whole game. -/
theorem one_in_rest {g : DV} (how : Owned g) : attrF g (setOf g.length fun v => !inS (zeroF g) v) 1 (setOf g.length fun v => !inS (zeroF g) v && decide (gOwn g v = 0) && (gNxt g v).isEmpty) = oneF g := by
  have hz : ∀ v, inS (zeroF g) v = false ↔ ¬ Attr g (wholeF g) 0 (stuckF g 1) v := fun v => by rw [← inS_zeroF]; simp
  have al : ∀ v, inS (setOf g.length fun v => !inS (zeroF g) v) v = true ↔ v < g.length ∧ ¬ Attr g (wholeF g) 0 (stuckF g 1) v := fun v => by
    rw [inS_setOf, ← hz]; simp
  have st : ∀ v, inS (setOf g.length fun v => !inS (zeroF g) v && decide (gOwn g v = 0) && (gNxt g v).isEmpty) v = true ↔ v < g.length ∧ ¬ Attr g (wholeF g) 0 (stuckF g 1) v ∧ gOwn g v = 0 ∧ gNxt g v = [] := fun v => by
    rw [inS_setOf, ← hz]; simp [and_assoc]
  have wh : ∀ v, inS (wholeF g) v = true ↔ v < g.length := fun v => by rw [inS_whole]; simp
  refine inS_ext (by rw [attrF_len, oneF, attrF_len]) fun v hv => ?_
  rw [Bool.eq_iff_iff, inS_oneF, inS_attrF (setOf_len _ _) (fun v hv => (al v).2 ⟨((st v).1 hv).1, ((st v).1 hv).2.1⟩)]
  clear hv
  constructor
  · intro a
    induction a with
    | base h =>
      obtain ⟨h1, _, h2, h3⟩ := (st _).1 h
      refine .base ?_
      unfold stuckF
      rw [inS_setOf]
      simp [h1, h2, h3]
    | own h1 h2 h3 h4 _ ih => exact .own ((wh _).2 ((al _).1 h1).1) h2 h3 ((wh _).2 ((al _).1 h4).1) ih
    | @other x u h1 h2 h3 h4 _ ih =>
      obtain ⟨b1, b2⟩ := (al _).1 h1
      refine .other ((wh _).2 b1) h2 h3 ((wh _).2 ((al _).1 h4).1) fun y hy hw => ?_
      refine ih y hy ((al _).2 ⟨(wh _).1 hw, fun z => b2 ?_⟩)
      rcases how x b1 with h5 | h5
      · exact .own ((wh _).2 b1) h5 hy hw z
      · exact absurd h5 h2
  · intro a
    have hv' : v < g.length := (wh _).1 (a.sub fun _ => stuck_whole)
    induction a with
    | base h =>
      obtain ⟨h1, h2⟩ := inS_stuck h
      exact .base ((st _).2 ⟨hv', one_not_zero (.base h), h1, h2⟩)
    | own h1 h2 h3 h4 h5 ih => exact .own ((al _).2 ⟨hv', one_not_zero (.own h1 h2 h3 h4 h5)⟩) h2 h3 ((al _).2 ⟨(wh _).1 h4, one_not_zero h5⟩) (ih ((wh _).1 h4))
    | other h1 h2 h3 h4 h5 ih => exact .other ((al _).2 ⟨hv', one_not_zero (.other h1 h2 h3 h4 h5)⟩) h2 h3 ((al _).2 ⟨(wh _).1 h4, one_not_zero (h5 _ h3 h4)⟩) fun x hx ha => ih x hx ((wh _).2 ((al _).1 ha).1) ((al _).1 ha).1

/-- The reference's winners are these. -/
theorem winners_eq {g : DV} (how : Owned g) :
    (let zero := zeroF g
     let rest := setOf g.length fun v => !inS zero v
     let one := attrF g rest 1 (setOf g.length fun v => inS rest v && decide (gOwn g v = 0) && (gNxt g v).isEmpty)
     let region := winF g g.length (setOf g.length fun v => inS rest v && !inS one v)
     (List.range g.length).map fun v => if inS one v || inS region v then (1 : Int) else 0) = winnersF g := by
  dsimp only
  have e1 : (setOf g.length fun v => inS (setOf g.length fun v => !inS (zeroF g) v) v && decide (gOwn g v = 0) && (gNxt g v).isEmpty) = setOf g.length fun v => !inS (zeroF g) v && decide (gOwn g v = 0) && (gNxt g v).isEmpty :=
    setOf_congr fun v hv => by rw [inS_setOf]; simp [hv]
  rw [e1, one_in_rest how]
  have e2 : (setOf g.length fun v => inS (setOf g.length fun v => !inS (zeroF g) v) v && !inS (oneF g) v) = restF g := setOf_congr fun v hv => by rw [inS_setOf]; simp [hv]
  rw [e2]
  unfold winnersF
  apply List.map_congr_left
  intro v hv
  congr 1
  rw [eq_iff_iff]
  have : inS (winF g g.length (restF g)) v = true → inS (zeroF g) v = false := fun h => by
    have := winF_sub _ _ _ h
    unfold restF at this
    rw [inS_setOf] at this
    simp at this
    exact this.2.1
  cases h1 : inS (oneF g) v <;> cases h2 : inS (winF g g.length (restF g)) v <;> simp_all

end Go.Proofs.Ythmhlbkkhaplkaa

namespace Go.Proofs.Ythmhlbkkhaplkaa
set_option linter.unusedVariables false

/-- Strictly increasing numbers from 0 on and below m. -/
def Inc (m : Int) (l : List Int) : Prop := (∀ x, x ∈ l → 0 ≤ x ∧ x < m) ∧ l.Pairwise (· < ·)
instance (m : Int) (l : List Int) : Decidable (Inc m l) := by unfold Inc; infer_instance
theorem Inc.nil_ (m : Int) : Inc m [] := ⟨fun _ h => (List.not_mem_nil h).elim, List.Pairwise.nil⟩
theorem Inc.take {m : Int} {l : List Int} (h : Inc m l) (k : Nat) : Inc m (l.take k) :=
  ⟨fun x hx => h.1 x (List.mem_of_mem_take hx), h.2.sublist (List.take_sublist k l)⟩
theorem Inc.bad {m : Int} {l : List Int} {k : Nat} {x : Int} (hx : l[k]? = some x) (hb : ¬ (0 ≤ x ∧ x < m)) : ¬ Inc m l := fun h => hb (h.1 x (List.mem_of_getElem? hx))
theorem Inc.fall {m : Int} {l : List Int} {k : Nat} {x y : Int} (hx : l[k]? = some x) (hy : l[k + 1]? = some y) (hb : y ≤ x) : ¬ Inc m l := fun h => by
  obtain ⟨i1, e1⟩ := List.getElem?_eq_some_iff.1 hx
  obtain ⟨i2, e2⟩ := List.getElem?_eq_some_iff.1 hy
  have := List.pairwise_iff_getElem.1 h.2 k (k + 1) i1 i2 (by omega)
  omega
theorem Inc.one {m : Int} {l : List Int} {x : Int} (hx : l[0]? = some x) (hb : 0 ≤ x ∧ x < m) : Inc m (l.take 1) := by
  rw [List.take_add_one, hx]
  exact ⟨fun y hy => by simp at hy; subst hy; exact hb, by simp⟩
theorem Inc.step {m : Int} {l : List Int} {k : Nat} {x y : Int} (h : Inc m (l.take (k + 1))) (hx : l[k]? = some x) (hy : l[k + 1]? = some y) (hb : 0 ≤ y ∧ y < m) (hlt : x < y) : Inc m (l.take (k + 1 + 1)) := by
  rw [List.take_add_one, hy]
  refine ⟨fun z hz => ?_, List.pairwise_append.2 ⟨h.2, by simp, fun a ha b hb' => ?_⟩⟩
  · rcases List.mem_append.1 hz with hz | hz
    · exact h.1 z hz
    · simp at hz; subst hz; exact hb
  · simp at hb'
    subst hb'
    have hle : a ≤ x := by
      have hp := h.2
      rw [List.take_add_one, hx] at hp ha
      rcases List.mem_append.1 ha with ha | ha
      · exact Int.le_of_lt ((List.pairwise_append.1 hp).2.2 a ha x (by simp))
      · simp at ha; omega
    show a < b
    omega
theorem Inc.nodup {m : Int} {l : List Int} (h : Inc m l) : l.Nodup := h.2.imp fun h => by omega
theorem Inc.at_ {m : Int} {l : List Int} {k : Nat} {x : Int} (h : Inc m l) (hx : l[k]? = some x) : 0 ≤ x ∧ x < m := h.1 x (List.mem_of_getElem? hx)

/-- One vertex among many is valid. -/
def VxOk (m : Int) (x : Vx) : Prop := (0 ≤ x.1 ∧ x.1 ≤ 1) ∧ (0 ≤ x.2.1 ∧ x.2.1 ≤ 9) ∧ Inc m x.2.2
instance (m : Int) (x : Vx) : Decidable (VxOk m x) := by unfold VxOk; infer_instance
/-- A game is valid. -/
def GameOk (g : DV) : Prop := (1 ≤ g.length ∧ g.length ≤ 120) ∧ ∀ x, x ∈ g → VxOk g.length x
instance (g : DV) : Decidable (GameOk g) := by unfold GameOk; infer_instance

section
variable {g : DV}
theorem GameOk.at_ (h : GameOk g) {v : Nat} {o p : Int} {l : List Int} (hx : g[v]? = some (o, p, l)) : (0 ≤ o ∧ o ≤ 1) ∧ (0 ≤ p ∧ p ≤ 9) ∧ Inc g.length l := h.2 _ (List.mem_of_getElem? hx)
theorem gx (g : DV) {v : Nat} (hv : v < g.length) : ∃ o p l, g[v]? = some (o, p, l) ∧ gOwn g v = o ∧ gPri g v = p ∧ gNxt g v = l.map Int.toNat := by
  obtain ⟨⟨o, p, l⟩, hx⟩ : ∃ x, g[v]? = some x := ⟨_, List.getElem?_eq_getElem hv⟩
  exact ⟨o, p, l, hx, gOwn_at hx, gPri_at hx, gNxt_at hx⟩
theorem gNxt_big {v : Nat} (hv : g.length ≤ v) : gNxt g v = [] := by unfold gNxt; rw [List.getElem?_eq_none hv]; rfl
theorem GameOk.owned (h : GameOk g) : Owned g := fun v hv => by
  obtain ⟨o, p, l, hx, e, _⟩ := gx g hv
  have := (h.at_ hx).1
  omega
theorem GameOk.pri (h : GameOk g) {v : Nat} (hv : v < g.length) : 0 ≤ gPri g v ∧ gPri g v ≤ 9 := by
  obtain ⟨o, p, l, hx, _, e, _⟩ := gx g hv
  have := (h.at_ hx).2.1
  omega
theorem inc_nat {m : Int} {l : List Int} (h : Inc m l) : (l.map Int.toNat).Nodup ∧ (∀ u, u ∈ l.map Int.toNat ↔ (u : Int) ∈ l) ∧ ∀ u, u ∈ l.map Int.toNat → (u : Int) < m := by
  have h2 : ∀ u, u ∈ l.map Int.toNat ↔ (u : Int) ∈ l := fun u => by
    rw [List.mem_map]
    constructor
    · rintro ⟨x, hx, rfl⟩
      have := (h.1 x hx).1
      rw [Int.toNat_of_nonneg this]
      exact hx
    · intro hu
      exact ⟨_, hu, by omega⟩
  refine ⟨?_, h2, fun u hu => (h.1 _ ((h2 u).1 hu)).2⟩
  unfold List.Nodup
  rw [List.pairwise_map]
  refine List.Pairwise.imp_of_mem ?_ h.2
  intro a b ha hb hab
  have := (h.1 a ha).1
  omega
theorem GameOk.nxt (h : GameOk g) (v : Nat) : (gNxt g v).Nodup ∧ ∀ u, u ∈ gNxt g v → u < g.length := by
  by_cases hv : v < g.length
  · obtain ⟨o, p, l, hx, _, _, e⟩ := gx g hv
    have := inc_nat (h.at_ hx).2.2
    rw [e]
    exact ⟨this.1, fun u hu => by have := this.2.2 u hu; omega⟩
  · rw [gNxt_big (by omega)]
    exact ⟨List.Pairwise.nil, fun _ h => (List.not_mem_nil h).elim⟩
/-- The same for larger games. -/
def GameBig (g : DV) : Prop := (1 ≤ g.length ∧ g.length ≤ 1200) ∧ ∀ x, x ∈ g → (0 ≤ x.1 ∧ x.1 ≤ 1) ∧ (0 ≤ x.2.1 ∧ x.2.1 ≤ 1000) ∧ Inc g.length x.2.2
theorem GameBig.at_ (h : GameBig g) {v : Nat} {o p : Int} {l : List Int} (hx : g[v]? = some (o, p, l)) : (0 ≤ o ∧ o ≤ 1) ∧ (0 ≤ p ∧ p ≤ 1000) ∧ Inc g.length l := h.2 _ (List.mem_of_getElem? hx)
theorem GameBig.owned (h : GameBig g) : Owned g := fun v hv => by
  obtain ⟨o, p, l, hx, e, _⟩ := gx g hv
  have := (h.at_ hx).1
  omega
theorem GameBig.pri (h : GameBig g) {v : Nat} (hv : v < g.length) : 0 ≤ gPri g v ∧ gPri g v ≤ 1000 := by
  obtain ⟨o, p, l, hx, _, e, _⟩ := gx g hv
  have := (h.at_ hx).2.1
  omega
theorem GameBig.nxt (h : GameBig g) (v : Nat) : (gNxt g v).Nodup ∧ ∀ u, u ∈ gNxt g v → u < g.length := by
  by_cases hv : v < g.length
  · obtain ⟨o, p, l, hx, _, _, e⟩ := gx g hv
    have := inc_nat (h.at_ hx).2.2
    rw [e]
    exact ⟨this.1, fun u hu => by have := this.2.2 u hu; omega⟩
  · rw [gNxt_big (by omega)]
    exact ⟨List.Pairwise.nil, fun _ h => (List.not_mem_nil h).elim⟩
theorem gNxt_src {v u : Nat} (h : u ∈ gNxt g v) : v < g.length := by
  rcases Nat.lt_or_ge v g.length with h1 | h1
  · exact h1
  · rw [gNxt_big h1] at h; cases h
end

theorem filter_one {p q : Nat → Bool} {k : Nat} : ∀ {l : List Nat}, l.Nodup → k ∈ l → p k = true → q k = false → (∀ u, u ≠ k → p u = q u) → (l.filter p).length = (l.filter q).length + 1 := by
  intro l
  induction l with
  | nil => intro _ h; cases h
  | cons x l ih =>
    intro hn hk hp hq he
    rw [List.nodup_cons] at hn
    by_cases e : x = k
    · subst e
      have : l.filter p = l.filter q := List.filter_congr fun u hu => he u fun e => hn.1 (e ▸ hu)
      simp [List.filter_cons, hp, hq, this]
    · have hk' : k ∈ l := by
        rcases List.mem_cons.1 hk with h | h
        · exact absurd h.symm e
        · exact h
      have := ih hn.2 hk' hp hq he
      simp only [List.filter_cons, he x e]
      split <;> simp [this]
/-- Different numbers below n are at most n. -/
theorem nodup_le : ∀ (n : Nat) (l : List Nat), l.Nodup → (∀ x, x ∈ l → x < n) → l.length ≤ n := by
  intro n
  induction n with
  | zero =>
    intro l _ h
    cases l with
    | nil => exact Nat.le_refl _
    | cons x l => exact absurd (h x (by simp)) (by omega)
  | succ n ih =>
    intro l hn h
    have h1 := ih (l.erase n) (hn.erase n) fun x hx => by
      have h2 := h x (List.mem_of_mem_erase hx)
      have : x ≠ n := by
        rintro rfl
        exact (List.Nodup.not_mem_erase hn) hx
      omega
    have h2 := List.length_erase (a := n) (l := l)
    split at h2 <;> omega
/-- The ways from v to vertices alive. -/
def exitsF (g : DV) (alive : List Bool) (v : Nat) : Nat := ((gNxt g v).filter (inS alive)).length
/-- .. of those not yet taken. -/
def cntL (g : DV) (alive P : List Bool) (v : Nat) : Nat := ((gNxt g v).filter fun u => inS alive u && !inS P u).length

/-- What the count of a vertex says. -/
def CondL (g : DV) (alive : List Bool) (player : Int) (out P : List Bool) (f : Int → Option Int) (b : Nat) : Prop :=
  inS alive b = true → inS out b = false →
    (gOwn g b = player → ∀ u, u ∈ gNxt g b → inS alive u = true → inS P u = false) ∧
    (gOwn g b ≠ player → (f b = none → ∀ u, u ∈ gNxt g b → inS alive u = true → inS P u = false) ∧ ∀ c, f b = some c → c = (cntL g alive P b : Int) ∧ 0 < c)

/-- The state of the search: out is what has been found, P what has been taken from todo, rest the vertices ahead of k that have not been looked at yet. -/
structure AttrI (g : DV) (alive : List Bool) (player : Int) (set out P : List Bool) (todo : List Int) (f : Int → Option Int) (k : Nat) (rest : List Int) : Prop where
  bet : Between g alive player set out
  plen : P.length = g.length
  sub : ∀ v, inS P v = true → inS out v = true
  nodup : todo.Nodup
  rnd : rest.Nodup
  mem : ∀ t : Int, t ∈ todo ↔ ∃ v : Nat, t = v ∧ inS out v = true ∧ inS P v = false
  cond : ∀ b : Nat, CondL g alive player out (if (b : Int) ∈ rest then P.set k false else P) f b

/-- The indices at which a set holds. -/
def idxOf (s : List Bool) : List Int := ((List.range s.length).filter (inS s)).map Int.ofNat
theorem mem_idx {s : List Bool} {t : Int} : t ∈ idxOf s ↔ ∃ v : Nat, t = v ∧ inS s v = true := by
  unfold idxOf
  rw [List.mem_map]
  constructor
  · rintro ⟨v, hv, rfl⟩; exact ⟨v, rfl, (List.mem_filter.1 hv).2⟩
  · rintro ⟨v, rfl, hv⟩; exact ⟨v, List.mem_filter.2 ⟨List.mem_range.2 (inS_lt hv), hv⟩, rfl⟩
theorem idx_nodup (s : List Bool) : (idxOf s).Nodup := by
  unfold idxOf List.Nodup
  rw [List.pairwise_map]
  exact (List.Pairwise.imp (fun h e => h (Int.ofNat.inj e)) (List.nodup_range.filter _))
theorem idx_len (s : List Bool) : (idxOf s).length ≤ s.length := by
  unfold idxOf
  rw [List.length_map]
  exact Nat.le_trans (List.length_filter_le _ _) (by simp)

section
variable {g : DV} {alive set out P : List Bool} {player : Int} {todo rest : List Int} {f : Int → Option Int} {k : Nat}

theorem AttrI.start (hl : set.length = g.length) (k : Nat) : AttrI g alive player set set (setOf g.length fun _ => false) (idxOf set) (fun _ => none) k [] := by
  have hP : ∀ v, inS (setOf g.length fun _ => false) v = false := fun v => by rw [inS_setOf]; simp
  refine ⟨.start hl, setOf_len _ _, fun v h => (by rw [hP] at h; cases h), idx_nodup _, List.nodup_nil, fun t => ?_, fun b _ _ => ⟨fun _ u _ _ => ?_, fun _ => ⟨fun _ u _ _ => ?_, fun c h => by cases h⟩⟩⟩
  · rw [mem_idx]
    constructor
    · rintro ⟨v, h1, h2⟩; exact ⟨v, h1, h2, hP v⟩
    · rintro ⟨v, h1, h2, _⟩; exact ⟨v, h1, h2⟩
  · simp [hP]
  · simp [hP]

/-- How many are waiting. -/
theorem AttrI.todo_le (h : AttrI g alive player set out P todo f k rest) : todo.length ≤ g.length := by
  have : ∀ (t : List Int) (n : Nat), t.Nodup → (∀ x, x ∈ t → 0 ≤ x ∧ x < n) → t.length ≤ n := by
    intro t n ht hx
    have h1 : (t.map Int.toNat).Nodup := by
      unfold List.Nodup
      rw [List.pairwise_map]
      refine List.Pairwise.imp_of_mem ?_ ht
      intro a b ha hb hab e
      have := (hx a ha).1
      have := (hx b hb).1
      omega
    have h2 := nodup_le n _ h1 fun y hy => by
      obtain ⟨x, hx', rfl⟩ := List.mem_map.1 hy
      have := hx x hx'
      omega
    simpa using h2
  refine this todo g.length h.nodup fun x hx => ?_
  obtain ⟨v, rfl, h1, _⟩ := (h.mem x).1 hx
  have := inS_lt h1
  rw [h.bet.len] at this
  omega

/-- The vertex taken from todo. -/
theorem AttrI.head {t : Int} (h : AttrI g alive player set out P (t :: todo) f k []) : ∃ v : Nat, t = v ∧ v < g.length ∧ inS out v = true ∧ inS P v = false := by
  obtain ⟨v, h1, h2, h3⟩ := (h.mem t).1 (by simp)
  exact ⟨v, h1, by rw [← h.bet.len]; exact inS_lt h2, h2, h3⟩

theorem set_back {s : List Bool} {k : Nat} (h : inS s k = false) (hk : k < s.length) : (s.set k true).set k false = s := by
  refine inS_ext (by simp) fun v hv => ?_
  rw [inS_set (by simpa using hk), inS_set hk]
  split
  · rename_i e; subst e; exact h.symm
  · rfl

theorem AttrI.pop {v : Nat} (h : AttrI g alive player set out P ((v : Int) :: todo) f k []) {row : List Int} (hnd : row.Nodup) (hrow : ∀ b : Nat, (b : Int) ∈ row ↔ v ∈ gNxt g b) :
    AttrI g alive player set out (P.set v true) todo f v row := by
  obtain ⟨v', e, hv, h2, h3⟩ := h.head
  have e : v' = v := by omega
  subst e
  have hvP : v' < P.length := by rw [h.plen]; exact hv
  have hn := List.nodup_cons.1 h.nodup
  refine ⟨h.bet, by rw [List.length_set]; exact h.plen, fun u hu => ?_, hn.2, hnd, fun t => ?_, fun b => ?_⟩
  · rw [inS_set hvP] at hu
    split at hu
    · rename_i e; subst e; exact h2
    · exact h.sub u hu
  · have hm := h.mem t
    constructor
    · intro ht
      obtain ⟨u, rfl, h5, h6⟩ := hm.1 (List.mem_cons_of_mem _ ht)
      refine ⟨u, rfl, h5, ?_⟩
      rw [inS_set hvP, if_neg]
      · exact h6
      · rintro rfl; exact hn.1 ht
    · rintro ⟨u, rfl, h5, h6⟩
      rw [inS_set hvP] at h6
      split at h6
      · cases h6
      · rename_i hne
        rcases List.mem_cons.1 (hm.2 ⟨u, rfl, h5, h6⟩) with h7 | h7
        · omega
        · exact h7
  · have hc := h.cond b
    simp only [List.not_mem_nil, if_false] at hc
    split
    · rw [set_back h3 hvP]; exact hc
    · rename_i hb
      have hnb : v' ∉ gNxt g b := fun hx => hb ((hrow b).2 hx)
      intro h5 h6
      obtain ⟨c1, c2⟩ := hc h5 h6
      have he : ∀ u, u ∈ gNxt g b → inS (P.set v' true) u = inS P u := fun u hu => by
        rw [inS_set hvP, if_neg]
        rintro rfl; exact hnb hu
      have hcnt : cntL g alive (P.set v' true) b = cntL g alive P b := by
        unfold cntL
        congr 1
        exact List.filter_congr fun u hu => by rw [he u hu]
      refine ⟨fun ho u hu ha => by rw [he u hu]; exact c1 ho u hu ha, fun ho => ⟨fun hf u hu ha => by rw [he u hu]; exact (c2 ho).1 hf u hu ha, fun c hcf => by rw [hcnt]; exact (c2 ho).2 c hcf⟩⟩

theorem mem_later {b x : Nat} {rest : List Int} (e : x ≠ b) : ((x : Int) ∈ ((b : Int) :: rest)) ↔ (x : Int) ∈ rest := by
  rw [List.mem_cons]
  exact ⟨fun h => h.elim (fun h => by omega) id, .inr⟩

/-- A vertex ahead of k is passed over. -/
theorem AttrI.skip {b : Nat} (h : AttrI g alive player set out P todo f k ((b : Int) :: rest)) (hs : inS alive b = false ∨ inS out b = true) : AttrI g alive player set out P todo f k rest := by
  refine ⟨h.bet, h.plen, h.sub, h.nodup, (List.nodup_cons.1 h.rnd).2, h.mem, fun x => ?_⟩
  by_cases e : x = b
  · subst e
    intro h1 h2
    rcases hs with hs | hs
    · rw [hs] at h1; cases h1
    · rw [hs] at h2; cases h2
  · have := h.cond x
    have e2 : ((x : Int) ∈ ((b : Int) :: rest)) ↔ (x : Int) ∈ rest := mem_later e
    simp only [e2] at this
    exact this

/-- A vertex is found. -/
theorem AttrI.add {b : Nat} {f' : Int → Option Int} (h : AttrI g alive player set out P todo f k ((b : Int) :: rest)) (hb : inS out b = false) (hbl : b < g.length) (a : Attr g alive player set b) (hf : ∀ x : Nat, x ≠ b → f' x = f x) :
    AttrI g alive player set (out.set b true) P (todo ++ [(b : Int)]) f' k rest := by
  have hbo : b < out.length := by rw [h.bet.len]; exact hbl
  have hPb : inS P b = false := by
    cases e : inS P b with
    | false => rfl
    | true => rw [h.sub b e] at hb; cases hb
  have hno : (b : Int) ∉ todo := fun hm => by
    obtain ⟨v, e, h1, _⟩ := (h.mem _).1 hm
    have : v = b := by omega
    subst this
    rw [h1] at hb; cases hb
  refine ⟨h.bet.add hbl a, h.plen, fun v hv => ?_, ?_, (List.nodup_cons.1 h.rnd).2, fun t => ?_, fun x => ?_⟩
  · rw [inS_set hbo]
    split
    · rfl
    · exact h.sub v hv
  · exact List.nodup_append.2 ⟨h.nodup, by simp, fun x hx y hy => by simp at hy; subst hy; rintro rfl; exact hno hx⟩
  · rw [List.mem_append, h.mem]
    constructor
    · rintro (⟨v, rfl, h1, h2⟩ | ht)
      · refine ⟨v, rfl, ?_, h2⟩
        rw [inS_set hbo]
        split
        · rfl
        · exact h1
      · simp at ht
        exact ⟨b, ht, by rw [inS_set hbo, if_pos rfl], hPb⟩
    · rintro ⟨v, rfl, h1, h2⟩
      rw [inS_set hbo] at h1
      split at h1
      · rename_i e; subst e; exact .inr (by simp)
      · exact .inl ⟨v, rfl, h1, h2⟩
  · by_cases e : x = b
    · subst e
      intro _ h2
      rw [inS_set hbo, if_pos rfl] at h2
      cases h2
    · have hc := h.cond x
      have e2 : ((x : Int) ∈ ((b : Int) :: rest)) ↔ (x : Int) ∈ rest := mem_later e
      simp only [e2] at hc
      intro h1 h2
      rw [inS_set hbo, if_neg (Ne.symm e)] at h2
      rw [hf x e]
      exact hc h1 h2

/-- .. because it may move to k. -/
theorem AttrI.attr_own {b : Nat} (h : AttrI g alive player set out P todo f k ((b : Int) :: rest)) (hsub : ∀ v, inS set v = true → inS alive v = true) (hk : inS P k = true) (hkb : k ∈ gNxt g b) (ha : inS alive b = true) (ho : gOwn g b = player) : Attr g alive player set b := by
  have hk' := h.bet.to_ k (h.sub k hk)
  exact .own ha ho hkb (hk'.sub hsub) hk'

/-- The count of a vertex of the other player goes down by one. -/
theorem AttrI.count {b : Nat} (h : AttrI g alive player set out P todo f k ((b : Int) :: rest)) (hn : (gNxt g b).Nodup) (hsc : ∀ u, u ∈ gNxt g b → u < g.length) (hsub : ∀ v, inS set v = true → inS alive v = true) (hk : inS P k = true) (hkb : k ∈ gNxt g b) (ha : inS alive b = true) (hb : inS out b = false) (ho : gOwn g b ≠ player) :
    ((f b).getD (exitsF g alive b : Int)) - 1 = (cntL g alive P b : Int) ∧ (∀ c, f b = some c → 0 < c ∧ c ≤ g.length) := by
  have hc := h.cond b
  simp only [List.mem_cons, true_or, if_true] at hc
  have hkP : k < P.length := inS_lt hk
  have hka := (h.bet.to_ k (h.sub k hk)).sub hsub
  obtain ⟨_, c2⟩ := hc ha hb
  obtain ⟨c3, c4⟩ := c2 ho
  have hcnt : cntL g alive (P.set k false) b = cntL g alive P b + 1 := by
    unfold cntL
    refine filter_one hn hkb ?_ ?_ fun u hu => ?_
    · rw [inS_set hkP, if_pos rfl, hka]; rfl
    · rw [hk]; simp
    · rw [inS_set hkP, if_neg (Ne.symm hu)]
  cases hf : f b with
  | none =>
    refine ⟨?_, fun c e => by cases e⟩
    have h1 := c3 hf
    have : exitsF g alive b = cntL g alive (P.set k false) b := by
      unfold exitsF cntL
      congr 1
      exact List.filter_congr fun u hu => by
        cases e : inS alive u with
        | false => rfl
        | true => rw [h1 u hu e]; rfl
    simp only [Option.getD_none]
    omega
  | some c =>
    have h1 := c4 c hf
    refine ⟨by simp only [Option.getD_some]; omega, fun c' e => ?_⟩
    cases e
    refine ⟨h1.2, ?_⟩
    have h2 : cntL g alive (P.set k false) b ≤ g.length := by
      have h3 := nodup_le g.length _ (hn.filter fun u => inS alive u && !inS (P.set k false) u) fun y hy => hsc y (List.mem_filter.1 hy).1
      simpa [cntL] using h3
    omega

/-- It has ways left. -/
theorem AttrI.lower {b : Nat} {c : Int} (h : AttrI g alive player set out P todo f k ((b : Int) :: rest)) (ho : gOwn g b ≠ player) (hc : c = (cntL g alive P b : Int)) (hpos : 0 < c) :
    AttrI g alive player set out P todo (fun x => if x = (b : Int) then some c else f x) k rest := by
  refine ⟨h.bet, h.plen, h.sub, h.nodup, (List.nodup_cons.1 h.rnd).2, h.mem, fun x => ?_⟩
  by_cases e : x = b
  · subst e
    intro h1 h2
    refine ⟨fun h3 => absurd h3 ho, fun _ => ⟨fun h3 => by simp at h3, fun c' h3 => ?_⟩⟩
    simp at h3
    subst h3
    refine ⟨?_, hpos⟩
    rw [hc, if_neg (List.nodup_cons.1 h.rnd).1]
  · have hc := h.cond x
    have e2 : ((x : Int) ∈ ((b : Int) :: rest)) ↔ (x : Int) ∈ rest := mem_later e
    simp only [e2] at hc
    have e3 : (if (x : Int) = (b : Int) then some c else f x) = f x := if_neg (by omega)
    intro h1 h2
    obtain ⟨c1, c2⟩ := hc h1 h2
    refine ⟨c1, fun h3 => ?_⟩
    simp only [e3]
    exact c2 h3

/-- It has none left. -/
theorem AttrI.attr_other {b : Nat} (h : AttrI g alive player set out P todo f k ((b : Int) :: rest)) (hsub : ∀ v, inS set v = true → inS alive v = true) (hk : inS P k = true) (hkb : k ∈ gNxt g b) (ha : inS alive b = true) (ho : gOwn g b ≠ player) (hc : cntL g alive P b = 0) : Attr g alive player set b := by
  have hk' := h.bet.to_ k (h.sub k hk)
  refine .other ha ho hkb (hk'.sub hsub) fun x hx hxa => h.bet.to_ x (h.sub x ?_)
  unfold cntL at hc
  have h1 := List.filter_eq_nil_iff.1 (List.eq_nil_of_length_eq_zero hc) x hx
  simpa [hxa] using h1

/-- Nothing is left to do. -/
theorem AttrI.done (h : AttrI g alive player set out P [] f k []) (hal : alive.length = g.length) : out = attrF g alive player set := by
  have hout : ∀ v, inS out v = inS P v := fun v => by
    cases e : inS out v with
    | false =>
      cases e2 : inS P v with
      | false => rfl
      | true => rw [h.sub v e2] at e; cases e
    | true =>
      cases e2 : inS P v with
      | true => rfl
      | false => exact absurd ((h.mem v).2 ⟨v, rfl, e, e2⟩) (by simp)
  refine h.bet.done (fun v hv h1 h2 => ?_) hal
  have hc := h.cond v
  simp only [List.not_mem_nil, if_false] at hc
  obtain ⟨c1, c2⟩ := hc h1 h2
  refine ⟨fun ho u hu ha => by rw [hout]; exact c1 ho u hu ha, fun ho ⟨u, hu, ha⟩ => ?_⟩
  obtain ⟨c3, c4⟩ := c2 ho
  cases hf : f v with
  | none => exact ⟨u, hu, ha, by rw [hout]; exact c3 hf u hu ha⟩
  | some c =>
    obtain ⟨c5, c6⟩ := c4 c hf
    have hpos : 0 < cntL g alive P v := by omega
    unfold cntL at hpos
    obtain ⟨x, hx⟩ := List.exists_mem_of_length_pos hpos
    obtain ⟨hx1, hx2⟩ := List.mem_filter.1 hx
    simp at hx2
    exact ⟨x, hx1, hx2.1, by rw [hout]; exact hx2.2⟩
end

end Go.Proofs.Ythmhlbkkhaplkaa

namespace Go.Proofs.Ythmhlbkkhaplkaa
set_option linter.unusedVariables false

/-- Whether a list holds somewhere. -/
def anyS (l : List Bool) : Bool := l.any id
theorem anyS_of {l : List Bool} {k : Nat} (hk : k < l.length) (h : inS l k = true) : anyS l = true := by
  have := inS_get hk
  rw [h] at this
  exact List.any_eq_true.2 ⟨true, List.mem_of_getElem? this, rfl⟩
theorem anyS_false {l : List Bool} (h : ∀ k, k < l.length → inS l k = false) : anyS l = false := by
  unfold anyS
  rw [List.any_eq_false]
  intro x hx
  obtain ⟨i, hi⟩ := List.getElem?_of_mem hx
  have hl := (List.getElem?_eq_some_iff.1 hi).1
  have := inS_some hi
  rw [h i hl] at this
  simp [← this]
theorem anyS_idx {l : List Bool} : (decide ((idxOf l).length = 0)) = !anyS l := by
  by_cases h : ∃ k, k < l.length ∧ inS l k = true
  · obtain ⟨k, hk, hq⟩ := h
    rw [anyS_of hk hq]
    have : (k : Int) ∈ idxOf l := mem_idx.2 ⟨k, rfl, hq⟩
    have := List.length_pos_of_mem this
    simp
    intro e; rw [e] at this; simp at this
  · have h1 : ∀ k, k < l.length → inS l k = false := fun k hk => by
      cases e : inS l k with
      | false => rfl
      | true => exact absurd ⟨k, hk, e⟩ h
    rw [anyS_false h1]
    have : idxOf l = [] := List.eq_nil_iff_forall_not_mem.2 fun x hx => by
      obtain ⟨v, rfl, hv⟩ := mem_idx.1 hx
      exact h ⟨v, inS_lt hv, hv⟩
    simp [this]
theorem anyS_range {l : List Bool} {n : Nat} (hn : l.length = n) : anyS l = (List.range n).any (inS l) := by
  rw [Bool.eq_iff_iff, List.any_eq_true]
  constructor
  · intro h
    obtain ⟨x, hx, hq⟩ := List.any_eq_true.1 h
    obtain ⟨i, hi⟩ := List.getElem?_of_mem hx
    have hl := (List.getElem?_eq_some_iff.1 hi).1
    exact ⟨i, List.mem_range.2 (by omega), by rw [inS_some hi]; exact hq⟩
  · rintro ⟨i, hi, hq⟩
    exact anyS_of (by rw [List.mem_range] at hi; omega) hq

/-- A set of which the first k places are filled. -/
def setK (n k : Nat) (p : Nat → Bool) : List Bool := setOf n fun v => decide (v < k) && p v
theorem setK_len (n k : Nat) (p : Nat → Bool) : (setK n k p).length = n := setOf_len _ _
theorem setK_zero (n : Nat) (p : Nat → Bool) : setK n 0 p = setOf n fun _ => false := setOf_congr fun v _ => by simp
theorem setK_all (n : Nat) (p : Nat → Bool) : setK n n p = setOf n p := setOf_congr fun v hv => by simp [hv]
theorem inS_setK {n k : Nat} {p : Nat → Bool} {v : Nat} : inS (setK n k p) v = (decide (v < n) && (decide (v < k) && p v)) := inS_setOf
theorem setK_step {n k : Nat} {p : Nat → Bool} {b : Bool} (hk : k < n) (hb : b = p k) : (setK n k p).set k b = setK n (k + 1) p := by
  subst hb
  refine inS_ext (by simp [setK_len]) fun v hv => ?_
  rw [List.length_set, setK_len] at hv
  rw [inS_set (by rw [setK_len]; exact hk), inS_setK, inS_setK]
  by_cases e : k = v
  · subst e; simp [hk]
  · have : (v < k) ↔ (v < k + 1) := by omega
    simp [e, hv, this]
/-- A set being changed place by place: the first k done. -/
def setM (s : List Bool) (k : Nat) (p : Nat → Bool) : List Bool := setOf s.length fun v => if v < k then p v else inS s v
theorem setM_len (s : List Bool) (k : Nat) (p : Nat → Bool) : (setM s k p).length = s.length := setOf_len _ _
theorem setM_zero (s : List Bool) (p : Nat → Bool) : setM s 0 p = s := by
  unfold setM
  refine (setOf_congr fun v hv => ?_).trans (setOf_inS rfl)
  simp
theorem setM_all {s : List Bool} {n : Nat} (p : Nat → Bool) (hn : s.length = n) : setM s n p = setOf n p := by
  subst hn
  exact setOf_congr fun v hv => by simp [hv]
theorem inS_setM {s : List Bool} {k : Nat} {p : Nat → Bool} (hk : k < s.length) : inS (setM s k p) k = inS s k := by
  unfold setM; rw [inS_setOf]; simp [hk]
theorem setM_step {s : List Bool} {k : Nat} {p : Nat → Bool} {b : Bool} (hk : k < s.length) (hb : b = p k) : (setM s k p).set k b = setM s (k + 1) p := by
  subst hb
  refine inS_ext (by simp [setM_len]) fun v hv => ?_
  rw [List.length_set, setM_len] at hv
  rw [inS_set (by rw [setM_len]; exact hk)]
  unfold setM
  rw [inS_setOf, inS_setOf]
  by_cases e : k = v
  · subst e; simp [hk]
  · have : (v < k) ↔ (v < k + 1) := by omega
    simp [e, hv, this]
theorem range_map_step {α : Type} (p : Nat → α) (k : Nat) : (List.range (k + 1)).map p = (List.range k).map p ++ [p k] := by rw [List.range_succ, List.map_append]; rfl

section
variable {alive out : List Bool} {l : List Int} {k : Nat} {x : Int}
theorem someL_step (hx : l[k]? = some x) : someL alive out ((l.take (k + 1)).map Int.toNat) = (someL alive out ((l.take k).map Int.toNat) || (inS alive x.toNat && inS out x.toNat)) := by
  unfold someL; rw [List.take_add_one, hx, List.map_append, List.any_append]; simp
theorem allL_step (hx : l[k]? = some x) : allL alive out ((l.take (k + 1)).map Int.toNat) = (allL alive out ((l.take k).map Int.toNat) && (!inS alive x.toNat || inS out x.toNat)) := by
  unfold allL; rw [List.take_add_one, hx, List.map_append, List.all_append]; simp
theorem anyL_step (hx : l[k]? = some x) : anyL alive ((l.take (k + 1)).map Int.toNat) = (anyL alive ((l.take k).map Int.toNat) || inS alive x.toNat) := by
  unfold anyL; rw [List.take_add_one, hx, List.map_append, List.any_append]; simp
end

/-- Where a pass of the reference's search stands: out0 at its beginning, out now, the first k vertices looked at. -/
structure Pass (g : DV) (alive : List Bool) (player : Int) (set out0 out : List Bool) (k : Nat) (more : Bool) : Prop where
  bet : Between g alive player set out
  grows : cntT out0 ≤ cntT out
  no : more = false → out = out0 ∧ ∀ v, v < k → Closed g alive player out0 v
  yes : more = true → cntT out0 < cntT out

section
variable {g : DV} {alive set out0 out : List Bool} {player : Int} {k : Nat} {more : Bool}
theorem Pass.start (h : Between g alive player set out0) : Pass g alive player set out0 out0 0 false := ⟨h, Nat.le_refl _, fun _ => ⟨rfl, fun v hv => absurd hv (by omega)⟩, fun h => by cases h⟩
theorem Pass.skip (h : Pass g alive player set out0 out k more) (hc : Closed g alive player out k) : Pass g alive player set out0 out (k + 1) more :=
  ⟨h.bet, h.grows, fun hm => ⟨(h.no hm).1, fun v hv => by
    by_cases e : v = k
    · subst e; rw [← (h.no hm).1]; exact hc
    · exact (h.no hm).2 v (by omega)⟩, h.yes⟩
theorem Pass.add (h : Pass g alive player set out0 out k more) (hk : k < g.length) (ho : inS out k = false) (a : Attr g alive player set k) : Pass g alive player set out0 (out.set k true) (k + 1) true := by
  have h1 := cntT_set (s := out) (v := k) (by rw [h.bet.len]; exact hk) ho
  have h2 := h.grows
  exact ⟨h.bet.add hk a, by omega, fun h => (by cases h), fun _ => by omega⟩
end

/-- What a vertex of the search is found by. -/
def hitB (own : Bool) (some all any : Bool) : Bool := (own && some) || (!own && any && all)
theorem hit_attr {g : DV} {alive set out : List Bool} {player : Int} {v : Nat} (h : Between g alive player set out) (h1 : inS alive v = true)
    (h2 : hitB (decide (gOwn g v = player)) (someL alive out (gNxt g v)) (allL alive out (gNxt g v)) (anyL alive (gNxt g v)) = true) : Attr g alive player set v := by
  unfold hitB at h2
  by_cases ho : gOwn g v = player
  · simp [ho] at h2; exact attr_of_own h h1 ho h2
  · simp [ho] at h2; exact attr_of_other h h1 ho h2.1 h2.2
theorem miss_closed {g : DV} {alive out : List Bool} {player : Int} {v : Nat}
    (h2 : hitB (decide (gOwn g v = player)) (someL alive out (gNxt g v)) (allL alive out (gNxt g v)) (anyL alive (gNxt g v)) = false) : Closed g alive player out v := by
  unfold hitB at h2
  by_cases ho : gOwn g v = player
  · simp [ho] at h2; exact closed_of_own ho h2
  · simp [ho] at h2; exact closed_of_other ho (by cases ha : anyL alive (gNxt g v) <;> simp_all)

end Go.Proofs.Ythmhlbkkhaplkaa

namespace Go.Proofs.Ythmhlbkkhaplkaa
set_option linter.unusedVariables false

/-- The least priority among the first k vertices that are alive. -/
def minStep (g : DV) (alive : List Bool) (a : Option Int) (v : Nat) : Option Int := if inS alive v then some (match a with | none => gPri g v | some m => min m (gPri g v)) else a
def minK (g : DV) (alive : List Bool) (k : Nat) : Option Int := (List.range k).foldl (minStep g alive) none
theorem leastP_min (g : DV) (alive : List Bool) : leastP g alive = minK g alive g.length := rfl
theorem minK_zero (g : DV) (alive : List Bool) : minK g alive 0 = none := rfl
theorem minK_succ (g : DV) (alive : List Bool) (k : Nat) : minK g alive (k + 1) = minStep g alive (minK g alive k) k := by unfold minK; rw [List.range_succ, List.foldl_append]; rfl
theorem minK_spec (g : DV) (alive : List Bool) (k : Nat) : match minK g alive k with
    | none => ∀ v, v < k → inS alive v = false
    | some m => (∃ v, v < k ∧ inS alive v = true ∧ gPri g v = m) ∧ ∀ v, v < k → inS alive v = true → m ≤ gPri g v := by
  induction k with
  | zero => rw [minK_zero]; intro v hv; omega
  | succ k ih =>
    rw [minK_succ]
    unfold minStep
    by_cases ha : inS alive k = true
    · rw [if_pos ha]
      cases h : minK g alive k with
      | none =>
        rw [h] at ih
        refine ⟨⟨k, by omega, ha, rfl⟩, fun v hv hav => ?_⟩
        by_cases e : v = k
        · subst e; exact Int.le_refl _
        · rw [ih v (by omega)] at hav; cases hav
      | some m =>
        rw [h] at ih
        obtain ⟨⟨u, hu, hua, hum⟩, hle⟩ := ih
        refine ⟨?_, fun v hv hav => ?_⟩
        · rcases Int.le_total m (gPri g k) with h1 | h1
          · exact ⟨u, by omega, hua, by show gPri g u = min m (gPri g k); omega⟩
          · exact ⟨k, by omega, ha, by show gPri g k = min m (gPri g k); omega⟩
        · show min m (gPri g k) ≤ gPri g v
          by_cases e : v = k
          · subst e; omega
          · have := hle v (by omega) hav; omega
    · rw [if_neg ha]
      cases h : minK g alive k with
      | none =>
        rw [h] at ih
        intro v hv
        by_cases e : v = k
        · subst e; simpa using ha
        · exact ih v (by omega)
      | some m =>
        rw [h] at ih
        obtain ⟨⟨u, hu, hua, hum⟩, hle⟩ := ih
        refine ⟨⟨u, by omega, hua, hum⟩, fun v hv hav => ?_⟩
        by_cases e : v = k
        · subst e; exact absurd hav ha
        · exact hle v (by omega) hav

section
variable {g : DV} {alive : List Bool}
theorem leastP_none (hal : alive.length = g.length) (h : ∀ v, inS alive v = false) : leastP g alive = none := by
  have := minK_spec g alive g.length
  rw [leastP_min]
  cases e : minK g alive g.length with
  | none => rfl
  | some m =>
    rw [e] at this
    obtain ⟨⟨u, _, hua, _⟩, _⟩ := this
    rw [h u] at hua; cases hua
theorem leastP_some {m : Int} {u : Nat} (hal : alive.length = g.length) (hu : inS alive u = true) (hm : gPri g u = m) (hle : ∀ v, inS alive v = true → m ≤ gPri g v) : leastP g alive = some m := by
  have := minK_spec g alive g.length
  rw [leastP_min]
  cases e : minK g alive g.length with
  | none =>
    rw [e] at this
    rw [this u (by rw [← hal]; exact inS_lt hu)] at hu; cases hu
  | some m' =>
    rw [e] at this
    obtain ⟨⟨x, _, hxa, hxm⟩, hle'⟩ := this
    have h1 := hle x hxa
    have h2 := hle' u (by rw [← hal]; exact inS_lt hu) hu
    congr 1
    omega
theorem leastP_at {m : Int} (h : leastP g alive = some m) : ∃ v, v < g.length ∧ inS alive v = true ∧ gPri g v = m := by
  have := minK_spec g alive g.length
  rw [leastP_min] at h
  rw [h] at this
  exact this.1
theorem leastP_no (h : leastP g alive = none) (hal : alive.length = g.length) : ∀ v, inS alive v = false := fun v => by
  have := minK_spec g alive g.length
  rw [leastP_min] at h
  rw [h] at this
  by_cases hv : v < g.length
  · exact this v hv
  · exact inS_big (by omega)

/-- The sets of one step. -/
def firstF (g : DV) (alive : List Bool) (least : Int) : List Bool := setOf g.length fun v => inS alive v && decide (gPri g v = least)
noncomputable def aimF (g : DV) (alive : List Bool) (least : Int) : List Bool := attrF g alive (least % 2) (firstF g alive least)
noncomputable def lessF (g : DV) (alive less : List Bool) : List Bool := setOf g.length fun v => inS alive v && !inS less v
noncomputable def otherF (g : DV) (rest won : List Bool) (player : Int) : List Bool := setOf g.length fun v => inS rest v && (inS won v != decide (player = 1))

theorem otherF_len (rest won : List Bool) (player : Int) : (otherF g rest won player).length = g.length := setOf_len _ _
theorem winF_none {f : Nat} (h : leastP g alive = none) : winF g f alive = setOf g.length fun _ => false := by
  cases f with
  | zero => rfl
  | succ f => unfold winF; rw [h]
theorem winF_stop {f : Nat} {least : Int} (h : leastP g alive = some least) (hno : anyS (otherF g (lessF g alive (aimF g alive least)) (winF g f (lessF g alive (aimF g alive least))) (least % 2)) = false) :
    winF g (f + 1) alive = setOf g.length fun v => inS alive v && decide (least % 2 = 1) := by
  rw [anyS_range (otherF_len _ _ _)] at hno
  show (match leastP g alive with | none => _ | some least => _) = _
  rw [h]
  dsimp only
  unfold otherF lessF aimF firstF at hno
  rw [hno]
  rfl
theorem winF_go {f : Nat} {least : Int} (h : leastP g alive = some least) (hyes : anyS (otherF g (lessF g alive (aimF g alive least)) (winF g f (lessF g alive (aimF g alive least))) (least % 2)) = true) :
    winF g (f + 1) alive = (let lost := attrF g alive (1 - least % 2) (otherF g (lessF g alive (aimF g alive least)) (winF g f (lessF g alive (aimF g alive least))) (least % 2))
      setOf g.length fun v => inS alive v && ((inS lost v && decide (least % 2 = 0)) || (!inS lost v && inS (winF g f (lessF g alive lost)) v))) := by
  rw [anyS_range (otherF_len _ _ _)] at hyes
  show (match leastP g alive with | none => _ | some least => _) = _
  rw [h]
  dsimp only
  unfold otherF lessF aimF firstF at hyes
  rw [hyes]
  rfl

theorem inS_lessF {less : List Bool} {v : Nat} : inS (lessF g alive less) v = (decide (v < g.length) && (inS alive v && !inS less v)) := inS_setOf
theorem firstF_sub {least : Int} {v : Nat} (h : inS (firstF g alive least) v = true) : inS alive v = true := by
  unfold firstF at h; rw [inS_setOf] at h; simp at h; exact h.2.1
theorem otherF_sub {less won : List Bool} {player : Int} {v : Nat} (h : inS (otherF g (lessF g alive less) won player) v = true) : inS alive v = true := by
  unfold otherF at h; rw [inS_setOf, inS_lessF] at h; simp at h; exact h.2.1.2.1
/-- What is left is less. -/
theorem rest_lt {least : Int} (hal : alive.length = g.length) (h : leastP g alive = some least) : cntT (lessF g alive (aimF g alive least)) < cntT alive := by
  obtain ⟨v, hv, ha, hp⟩ := leastP_at h
  refine cntT_lt (by rw [hal]; exact setOf_len _ _) (fun u hu => by rw [inS_lessF] at hu; simp at hu; exact hu.2.1) ha ?_
  rw [inS_lessF]
  have : inS (aimF g alive least) v = true := (inS_attrF hal fun _ => firstF_sub).2 (.base (by unfold firstF; rw [inS_setOf]; simp [hv, ha, hp]))
  simp [this]
theorem lost_lt {least : Int} {won : List Bool} {player p2 : Int} (hal : alive.length = g.length) (h : anyS (otherF g (lessF g alive (aimF g alive least)) won player) = true) :
    cntT (lessF g alive (attrF g alive p2 (otherF g (lessF g alive (aimF g alive least)) won player))) < cntT alive := by
  rw [anyS_range (otherF_len _ _ _), List.any_eq_true] at h
  obtain ⟨v, hv, hq⟩ := h
  refine cntT_lt (by rw [hal]; exact setOf_len _ _) (fun u hu => by rw [inS_lessF] at hu; simp at hu; exact hu.2.1) (otherF_sub hq) ?_
  rw [inS_lessF, (inS_attrF hal fun _ => otherF_sub).2 (.base hq)]
  simp

/-- The reference's shapes. -/
theorem other_zero {rest : List Bool} {f : Nat} (hr : rest.length = g.length) : otherF g rest (winF g f rest) 0 = winF g f rest := by
  refine inS_ext (by rw [winF_len]; exact setOf_len _ _) fun v hv => ?_
  unfold otherF
  rw [inS_setOf]
  have hv' : v < g.length := by have : (otherF g rest (winF g f rest) 0).length = g.length := setOf_len _ _; omega
  cases h : inS (winF g f rest) v with
  | false => simp
  | true => simp [hv', winF_sub _ _ _ h]
theorem other_one {rest : List Bool} {f : Nat} : otherF g rest (winF g f rest) 1 = lessF g rest (winF g f rest) := setOf_congr fun v hv => by cases inS (winF g f rest) v <;> simp
theorem stop_one (hal : alive.length = g.length) : (setOf g.length fun v => inS alive v && decide ((1 : Int) = 1)) = alive := by simp [setOf_inS hal]
theorem stop_zero : (setOf g.length fun v => inS alive v && decide ((0 : Int) = 1)) = setOf g.length fun _ => false := by simp
theorem go_one {lost : List Bool} {f : Nat} : (setOf g.length fun v => inS alive v && ((inS lost v && decide ((1 : Int) = 0)) || (!inS lost v && inS (winF g f (lessF g alive lost)) v))) = winF g f (lessF g alive lost) := by
  refine inS_ext (by rw [winF_len]; exact setOf_len _ _) fun v hv => ?_
  rw [setOf_len] at hv
  rw [inS_setOf]
  cases h : inS (winF g f (lessF g alive lost)) v with
  | false => simp
  | true =>
    have := winF_sub _ _ _ h
    rw [inS_lessF] at this
    simp at this
    simp [hv, this.2.1, this.2.2]
theorem go_zero {lost : List Bool} {f : Nat} (hsub : ∀ v, inS lost v = true → inS alive v = true) :
    (setOf g.length fun v => inS alive v && ((inS lost v && decide ((0 : Int) = 0)) || (!inS lost v && inS (winF g f (lessF g alive lost)) v))) = setOf g.length fun v => inS (winF g f (lessF g alive lost)) v || inS lost v := by
  refine setOf_congr fun v hv => ?_
  cases h : inS lost v with
  | true => simp [hsub v h]
  | false =>
    cases h2 : inS (winF g f (lessF g alive lost)) v with
    | false => simp
    | true =>
      have := winF_sub _ _ _ h2
      rw [inS_lessF] at this
      simp at this
      simp [this.2.1]
end

/-- The reference's least priority so far. -/
def leastI (a : Option Int) : Int := a.getD (-1)
theorem least_keep {g : DV} {alive : List Bool} {k : Nat} (h : inS alive k = false) : minK g alive (k + 1) = minK g alive k := by rw [minK_succ]; unfold minStep; rw [h]; rfl
theorem least_put {g : DV} {alive : List Bool} {k : Nat} (h : inS alive k = true) (hp : ∀ v, v ≤ k → 0 ≤ gPri g v) (hl : leastI (minK g alive k) < 0 ∨ gPri g k < leastI (minK g alive k)) : leastI (minK g alive (k + 1)) = gPri g k := by
  rw [minK_succ]; unfold minStep; rw [h]
  cases e : minK g alive k with
  | none => simp [leastI]
  | some m =>
    rw [e] at hl
    simp [leastI] at hl ⊢
    rcases hl with hl | hl
    · have := minK_spec g alive k
      rw [e] at this
      obtain ⟨⟨u, hu, _, hum⟩, _⟩ := this
      have := hp u (by omega)
      omega
    · omega
theorem least_old {g : DV} {alive : List Bool} {k : Nat} (h : inS alive k = true) (hl : ¬ (leastI (minK g alive k) < 0)) (hl2 : ¬ gPri g k < leastI (minK g alive k)) : leastI (minK g alive (k + 1)) = leastI (minK g alive k) := by
  rw [minK_succ]; unfold minStep; rw [h]
  cases e : minK g alive k with
  | none => rw [e] at hl; simp [leastI] at hl
  | some m =>
    rw [e] at hl hl2
    simp [leastI] at hl hl2 ⊢
    omega

end Go.Proofs.Ythmhlbkkhaplkaa
