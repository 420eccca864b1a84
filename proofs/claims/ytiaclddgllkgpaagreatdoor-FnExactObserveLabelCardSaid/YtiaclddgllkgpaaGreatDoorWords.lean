/-
  Words for memory: a slice value that reads as a list of elements, each element being a fixed number of cells. Conditions: none; plain theorems about worlds.
-/
import Derived.WalkKit
import Derived.ProofKit
import Derived.OpenShut
import Derived.Handy
import Derived.Below
import Derived.Deep.Draws
import Derived.Laws.MakeOwn
namespace Go.Proofs.YtiaclddgllkgpaaGreatDoor
open Go.RowKit

/-- A fact kept from the walk. -/
theorem hide {p : Prop} (h : p) : Hid p := h

theorem beq_dec (a b : Int) : (a == b) = decide (a = b) := by by_cases h : a = b <;> simp [h]
theorem ret_b {a b : Bool} (h : b = a) : Ending.returned (.bool a) = .returned (.bool b) := by rw [h]
theorem ret_i {k : IntKind} {a b : Int} (h : b = a) : Ending.returned (.int k a) = .returned (.int k b) := by rw [h]

/-- The slice value `.slice A n c` holds the elements l (each of size cells, as f tells), in one block from lo on and below hi, whose cells may be written. -/
def Sl {α : Type} (size : Nat) (f : α → List Value) (w : World) (lo hi : Nat) (A : Option Addr) (n : Nat) (l : List α) : Prop :=
  l.length = n ∧ (0 < n → ∃ b off, A = some ⟨b, off, none⟩ ∧ lo ≤ b ∧ b < hi ∧ b < w.heap.size ∧
    ∀ (k : Nat) (x : α), l[k]? = some x → ∀ (j : Nat) (u : Value), (f x)[j]? = some u →
      w.cell? ⟨b, off + (k * size + j), none⟩ = some u ∧ w.frozen? ⟨b, off + (k * size + j), none⟩ = false)

section
variable {α : Type} {size : Nat} {f : α → List Value} {w w' : World} {lo hi lo' hi' n : Nat} {A : Option Addr} {l : List α}

theorem Sl.len (h : Sl size f w lo hi A n l) : l.length = n := h.1

theorem Sl.nil_ : Sl size f w lo hi A 0 ([] : List α) := ⟨rfl, fun h => absurd h (by omega)⟩

theorem Sl.at_ (h : Sl size f w lo hi A n l) (hn : 0 < n) : ∃ b off, A = some ⟨b, off, none⟩ ∧ lo ≤ b ∧ b < hi ∧ b < w.heap.size ∧
    ∀ (k : Nat) (x : α), l[k]? = some x → ∀ (j : Nat) (u : Value), (f x)[j]? = some u →
      w.cell? ⟨b, off + (k * size + j), none⟩ = some u ∧ w.frozen? ⟨b, off + (k * size + j), none⟩ = false := h.2 hn

theorem Sl.keep (h : Sl size f w lo hi A n l) (hs : w.heap.size ≤ w'.heap.size) (hk : ∀ b, lo ≤ b → b < hi → b < w.heap.size → w'.heap[b]? = w.heap[b]?) : Sl size f w' lo hi A n l :=
  ⟨h.1, fun hn => by
    obtain ⟨b, off, e, h1, h2, h3, hc⟩ := h.2 hn
    refine ⟨b, off, e, h1, h2, by omega, fun k x hx j u hu => ?_⟩
    obtain ⟨hc1, hc2⟩ := hc k x hx j u hu
    have hb := hk b h1 h2 h3
    exact ⟨(World.cell?_of_block (w := w) (by simpa using hb)).trans hc1, (World.frozen?_of_block (w := w) (by simpa using hb)).trans hc2⟩⟩

theorem Sl.below {B : Nat} (h : Sl size f w lo hi A n l) (hb : Below B w w') (hB : hi ≤ B ∨ w.heap.size ≤ B) : Sl size f w' lo hi A n l :=
  h.keep hb.size fun b _ h2 h3 => hb.block b (by omega)

theorem Sl.more (h : Sl size f w lo hi A n l) (h1 : lo' ≤ lo) (h2 : hi ≤ hi') : Sl size f w lo' hi' A n l :=
  ⟨h.1, fun hn => by
    obtain ⟨b, off, e, g1, g2, g3, hc⟩ := h.2 hn
    exact ⟨b, off, e, by omega, by omega, g3, hc⟩⟩

theorem Sl.top (h : Sl size f w lo hi A n l) : Sl size f w lo w.heap.size A n l :=
  ⟨h.1, fun hn => by
    obtain ⟨b, off, e, g1, g2, g3, hc⟩ := h.2 hn
    exact ⟨b, off, e, by omega, by omega, g3, hc⟩⟩

theorem Sl.drew (h : Sl size f w lo hi A n l) : Sl size f w.drew lo hi A n l := h
theorem Sl.drewN (h : Sl size f w lo hi A n l) (k : Nat) : Sl size f (w.drewN k) lo hi A n l := h
end

/-- What lies below B, cell by cell, as rules for the walk. -/
theorem oldCells {a z : World} {B : Nat} (h : Below B a z) : (∀ b i, b < B → z.cell? ⟨b, i, none⟩ = a.cell? ⟨b, i, none⟩) ∧ ∀ b i, b < B → z.frozen? ⟨b, i, none⟩ = a.frozen? ⟨b, i, none⟩ := by
  constructor <;> intro b i hb
  · exact h.cell (p := ⟨b, i, none⟩) hb
  · exact h.frozen (p := ⟨b, i, none⟩) hb

theorem old_cell {a z : World} {B : Nat} (h : Below B a z) {g i : Nat} (hg : g < B) : z.cell? ⟨g, i, none⟩ = a.cell? ⟨g, i, none⟩ := h.cell (p := ⟨g, i, none⟩) hg

/-- Int's order test in Bool. -/
def inB (n lo hi : Int) : Bool := decide (lo ≤ n) && decide (n ≤ hi)

/-- A struct of two int64 fields. -/
def tv (t : Int × Int) : List Value := [.int .i64 t.1, .int .i64 t.2]
/-- An int64. -/
def iv (n : Int) : List Value := [.int .i64 n]

abbrev SlT := Sl 2 tv
abbrev SlI := Sl 1 iv

/-- Block B is a row of n elements of which the first k are those of l. -/
def Fill {α : Type} (size : Nat) (f : α → List Value) (w : World) (B : Nat) (t : TypeId) (n k : Nat) (l : List α) : Prop :=
  ∃ cur : Array Value, w.heap[B]? = some (.cells cur t (0, 0)) ∧ cur.size = n * size ∧
    ∀ (i : Nat) (x : α), i < k → l[i]? = some x → ∀ (j : Nat) (u : Value), (f x)[j]? = some u → cur[i * size + j]? = some u

section
variable {α : Type} {size : Nat} {f : α → List Value} {w w' : World} {B n k : Nat} {t : TypeId} {l : List α}

theorem Fill.start (w : World) (t : TypeId) (cur : Array Value) (n : Nat) (hs : cur.size = n * size) : Fill size f (w.alloc (.cells cur t)) w.heap.size t n 0 l :=
  ⟨cur, heap_alloc_new w _, hs, fun i x hi => absurd hi (by omega)⟩

theorem Fill.lt (h : Fill size f w B t n k l) : B < w.heap.size := by
  obtain ⟨cur, hc, _⟩ := h
  rcases Nat.lt_or_ge B w.heap.size with hl | hl
  · exact hl
  · rw [Array.getElem?_eq_none hl] at hc; cases hc

theorem Fill.keep (h : Fill size f w B t n k l) (hb : w'.heap[B]? = w.heap[B]?) : Fill size f w' B t n k l := by
  obtain ⟨cur, hc, r⟩ := h
  exact ⟨cur, hb.trans hc, r⟩

theorem Fill.cell (h : Fill size f w B t n k l) {i : Nat} (hi : i < n * size) : ∃ u, w.cell? ⟨B, i, none⟩ = some u := by
  obtain ⟨cur, hc, hs, _⟩ := h
  exact ⟨cur[i]'(by omega), by rw [cell_of_row w B i cur t (0, 0) hc, Array.getElem?_eq_getElem (by omega)]⟩

theorem Fill.frozen (h : Fill size f w B t n k l) (i : Nat) : w.frozen? ⟨B, i, none⟩ = false := by
  obtain ⟨cur, hc, hs, _⟩ := h
  exact frozen_of_row w B i cur t hc

/-- A round that lays element k, cell by cell. -/
theorem Fill.step (h : Fill size f w B t n k l) (hlen : ∀ x, (f x).length = size) {x : α} (hx : l[k]? = some x)
    (hs : ∀ cur : Array Value, w.heap[B]? = some (.cells cur t (0, 0)) → cur.size = n * size → ∃ cur', w'.heap[B]? = some (.cells cur' t (0, 0)) ∧ cur'.size = cur.size ∧
      (∀ i, i < k * size → cur'[i]? = cur[i]?) ∧ (∀ j u, (f x)[j]? = some u → cur'[k * size + j]? = some u)) : Fill size f w' B t n (k + 1) l := by
  obtain ⟨cur, hc, hsz, hel⟩ := h
  obtain ⟨cur', h1, h2, h3, h4⟩ := hs cur hc hsz
  refine ⟨cur', h1, h2.trans hsz, fun i y hi hy j v hv => ?_⟩
  have hj : j < size := by rw [← hlen y]; exact (List.getElem?_eq_some_iff.1 hv).1
  rcases Nat.lt_or_ge i k with hlt | hge
  · have hm : (i + 1) * size ≤ k * size := Nat.mul_le_mul_right _ hlt
    rw [Nat.add_mul] at hm
    rw [h3 _ (by omega)]
    exact hel i y hlt hy j v hv
  · have : i = k := by omega
    subst this
    rw [hx] at hy
    cases hy
    exact h4 j v hv

theorem Fill.done (h : Fill size f w B t n n l) (hl : l.length = n) {lo hi : Nat} (h1 : lo ≤ B) (h2 : B < hi) : Sl size f w lo hi (some ⟨B, 0, none⟩) n l := by
  refine ⟨hl, fun _ => ⟨B, 0, rfl, h1, h2, h.lt, fun k x hx j u hu => ?_⟩⟩
  obtain ⟨cur, hc, hs, hel⟩ := h
  have hk : k < n := by rw [← hl]; exact (List.getElem?_eq_some_iff.1 hx).1
  rw [Nat.zero_add]
  exact ⟨(cell_of_row w B _ cur t (0, 0) hc).trans (hel k x hk hx j u hu), frozen_of_row w B _ cur t hc⟩
end

section
variable {w w' : World} {lo hi n : Nat} {A : Option Addr}
/-- A slice of two-field structs, read at k, in the walk's spelling. -/
theorem SlT.get {l : List (Int × Int)} (h : SlT w lo hi A n l) {k : Nat} (hk : k < n) :
    ∃ b off x y, A = some ⟨b, off, none⟩ ∧ lo ≤ b ∧ b < hi ∧ b < w.heap.size ∧ l[k]? = some (x, y) ∧ w.cell? ⟨b, off + k * 2, none⟩ = some (.int .i64 x) ∧ w.cell? ⟨b, off + k * 2 + 1, none⟩ = some (.int .i64 y) ∧
      w.frozen? ⟨b, off + k * 2, none⟩ = false ∧ w.frozen? ⟨b, off + k * 2 + 1, none⟩ = false := by
  obtain ⟨b, off, e, g1, g2, g3, hc⟩ := h.at_ (by omega)
  have hl : k < l.length := by rw [h.len]; exact hk
  have h0 := hc k l[k] (List.getElem?_eq_getElem hl) 0 _ rfl
  have h1 := hc k l[k] (List.getElem?_eq_getElem hl) 1 _ rfl
  rw [← Nat.add_assoc] at h1
  exact ⟨b, off, l[k].1, l[k].2, e, g1, g2, g3, List.getElem?_eq_getElem hl, h0.1, h1.1, h0.2, h1.2⟩
theorem SlI.get {l : List Int} (h : SlI w lo hi A n l) {k : Nat} (hk : k < n) :
    ∃ b off x, A = some ⟨b, off, none⟩ ∧ lo ≤ b ∧ b < hi ∧ b < w.heap.size ∧ l[k]? = some x ∧ w.cell? ⟨b, off + k, none⟩ = some (.int .i64 x) ∧ w.frozen? ⟨b, off + k, none⟩ = false := by
  obtain ⟨b, off, e, g1, g2, g3, hc⟩ := h.at_ (by omega)
  have hl : k < l.length := by rw [h.len]; exact hk
  have h0 := hc k l[k] (List.getElem?_eq_getElem hl) 0 _ rfl
  simp only [Nat.mul_one, Nat.add_zero] at h0
  exact ⟨b, off, l[k], e, g1, g2, g3, List.getElem?_eq_getElem hl, h0.1, h0.2⟩
end

/-- `make([]T, n)` at an n that fits: a new block of n elements' zero cells. -/
theorem make_row {P : Program} (t e : TypeId) (i : TypeInfo) (z : Value) (sz n : Nat) (ht : P.underlying t = some (.slice e)) (hi : P.info? e = some i) (hz : i.zero = some z) (hsz : i.size = sz)
    (hby : i.bytes * n ≤ 281474976710656) (hn : n ≤ 9223372036854775807) (W : World) :
    (Instr.makeSlice t (.int .i64 (n : Int)) (.int .i64 (n : Int))).run P W = .ok (.slice (some ⟨W.heap.size, 0, none⟩) n n) (W.alloc (.cells (madeCells z.cells (n * sz)) e)) := by
  have hb : (i.bytes : Int) * (n : Int) ≤ 281474976710656 := by
    rw [← Int.natCast_mul]
    omega
  have h := run_make (P := P) W t e i z ht hi hz .i64 .i64 n n (by omega) (Int.le_refl _) hb (by omega)
  rw [Int.toNat_natCast, hsz] at h
  exact h

section
variable {α : Type} {f : α → List Value} {w : World} {B n k : Nat} {t : TypeId} {l : List α}
theorem Fill.set1 (h : Fill 1 f w B t n k l) (hk : k < n) (hlen : ∀ x, (f x).length = 1) {x : α} (hx : l[k]? = some x) {u : Value} (hf : f x = [u]) :
    Fill 1 f (w.setCell ⟨B, k, none⟩ u) B t n (k + 1) l :=
  h.step hlen hx fun cur hc hs => ⟨cur.setIfInBounds k u, heap_setCell_same w B k cur t u hc, by simp, fun i hi => Array.getElem?_setIfInBounds_ne (by omega), fun j v hv => by
    rw [hf] at hv
    match j, hv with
    | 0, hv =>
      simp at hv
      subst hv
      simp [Array.getElem?_setIfInBounds]
      omega⟩
theorem Fill.set2 (h : Fill 2 f w B t n k l) (hk : k < n) (hlen : ∀ x, (f x).length = 2) {x : α} (hx : l[k]? = some x) {u v : Value} (hf : f x = [u, v]) :
    Fill 2 f ((w.setCell ⟨B, k * 2, none⟩ u).setCell ⟨B, k * 2 + 1, none⟩ v) B t n (k + 1) l :=
  h.step hlen hx fun cur hc hs => ⟨(cur.setIfInBounds (k * 2) u).setIfInBounds (k * 2 + 1) v, heap_setCell_same _ B _ _ t v (heap_setCell_same w B _ cur t u hc), by simp,
    fun i hi => by rw [Array.getElem?_setIfInBounds_ne (by omega), Array.getElem?_setIfInBounds_ne (by omega)], fun j z hz => by
    rw [hf] at hz
    match j, hz with
    | 0, hz =>
      simp at hz
      subst hz
      rw [Array.getElem?_setIfInBounds_ne (by omega)]
      simp [Array.getElem?_setIfInBounds]
      omega
    | 1, hz =>
      simp at hz
      subst hz
      simp [Array.getElem?_setIfInBounds]
      omega⟩
end

theorem take_step {α : Type} {l r : List α} {k : Nat} {x y : α} (h : l.take k = r.take k) (hx : l[k]? = some x) (hy : r[k]? = some y) (e : x = y) : l.take (k + 1) = r.take (k + 1) := by
  subst e
  rw [List.take_add_one, List.take_add_one, h, hx, hy]
theorem take_stop {α : Type} {l r : List α} {k : Nat} {x y : α} (hx : l[k]? = some x) (hy : r[k]? = some y) (e : x ≠ y) : l ≠ r := by
  rintro rfl
  rw [hx] at hy
  exact e (Option.some.inj hy)
theorem take_all {α : Type} {l r : List α} {k : Nat} (h : l.take k = r.take k) (hl : l.length = k) (hr : r.length = k) : l = r := by
  rw [List.take_of_length_le (by omega), List.take_of_length_le (by omega)] at h
  exact h
theorem pair_eq {x1 x2 y1 y2 : Int} (h : (decide (x1 = y1) && decide (x2 = y2)) = true) : (x1, x2) = (y1, y2) := by
  simp at h
  rw [h.1, h.2]
theorem pair_ne {x1 x2 y1 y2 : Int} (h : (decide (x1 = y1) && decide (x2 = y2)) = false) : (x1, x2) ≠ (y1, y2) := by
  intro e
  cases e
  simp at h

/-- w' is w but for blocks from lo on and below hi, and new blocks. -/
structure Only (lo hi : Nat) (w w' : World) : Prop where
  os : w'.os = w.os
  tape : w'.tape = w.tape
  output : w'.output = w.output
  size : w.heap.size ≤ w'.heap.size
  block : ∀ b, b < w.heap.size → b < lo ∨ hi ≤ b → w'.heap[b]? = w.heap[b]?

theorem Only.refl (lo hi : Nat) (w : World) : Only lo hi w w := ⟨rfl, rfl, rfl, Nat.le_refl _, fun _ _ _ => rfl⟩
theorem Only.setCell {lo hi : Nat} {a w : World} (h : Only lo hi a w) {p : Addr} (h1 : lo ≤ p.block) (h2 : p.block < hi) (u : Value) : Only lo hi a (w.setCell p u) :=
  ⟨h.os, h.tape, h.output, by simpa [World.setCell] using h.size, fun b hb ho => (Below.heap_setCell w p u b (by omega)).trans (h.block b hb ho)⟩
theorem Only.below {lo hi B : Nat} {a w w' : World} (h : Below B a w) (g : Only lo hi w w') (h1 : B ≤ lo) (h2 : B ≤ w.heap.size) : Below B a w' :=
  h.trans ⟨g.os, g.tape, g.output, g.size, fun b hb => g.block b (by omega) (by omega)⟩
theorem Sl.only {α : Type} {size : Nat} {f : α → List Value} {w w' : World} {lo hi lo' hi' n : Nat} {A : Option Addr} {l : List α} (h : Sl size f w lo hi A n l) (g : Only lo' hi' w w') (hd : hi ≤ lo' ∨ hi' ≤ lo) : Sl size f w' lo hi A n l :=
  h.keep g.size fun b h1 h2 h3 => g.block b h3 (by omega)

section
variable {w : World} {lo hi n b off : Nat}
theorem SlT.put {l : List (Int × Int)} (h : SlT w lo hi (some ⟨b, off, none⟩) n l) {k : Nat} (hk : k < n) (x y : Int) :
    SlT ((w.setCell ⟨b, off + k * 2, none⟩ (.int .i64 x)).setCell ⟨b, off + k * 2 + 1, none⟩ (.int .i64 y)) lo hi (some ⟨b, off, none⟩) n (l.set k (x, y)) := by
  refine ⟨by rw [List.length_set]; exact h.len, fun _ => ?_⟩
  obtain ⟨b', off', e, g1, g2, g3, hc⟩ := h.at_ (by omega)
  cases e
  refine ⟨b, off, rfl, g1, g2, by simpa [World.setCell] using g3, fun i z hz j u hu => ?_⟩
  have hj : j < 2 := (List.getElem?_eq_some_iff.1 hu).1
  have hil : i < l.length := by
    have := (List.getElem?_eq_some_iff.1 hz).1
    rwa [List.length_set] at this
  obtain ⟨hkc0, hkf0⟩ := hc k (l[k]'(by rw [h.len]; exact hk)) (List.getElem?_eq_getElem _) 0 _ rfl
  obtain ⟨hkc1, hkf1⟩ := hc k (l[k]'(by rw [h.len]; exact hk)) (List.getElem?_eq_getElem _) 1 _ rfl
  have hfr : ∀ (W : World) (p q : Addr) (v : Value), (W.setCell p v).frozen? q = W.frozen? q := fun W p q v => World.frozen?_setCell W p q v
  rw [hfr, hfr]
  by_cases hik : i = k
  · subst hik
    rw [List.getElem?_set_self hil] at hz
    cases hz
    match j, hu with
    | 0, hu =>
      simp [tv] at hu
      subst hu
      simp only [Nat.add_zero] at hkc0 hkf0 ⊢
      refine ⟨?_, hkf0⟩
      rw [World.cell?_setCell_other _ _ _ _ (by intro e; injection e with _ e _; omega)]
      exact World.cell?_setCell_same _ _ _ hkc0
    | 1, hu =>
      simp [tv] at hu
      subst hu
      rw [← Nat.add_assoc] at hkc1 hkf1 ⊢
      refine ⟨?_, hkf1⟩
      exact World.cell?_setCell_same _ _ _ ((World.cell?_setCell_other _ _ _ _ (by intro e; injection e with _ e _; omega)).trans hkc1)
  · rw [List.getElem?_set_ne (by omega)] at hz
    obtain ⟨h1, h2⟩ := hc i z hz j u hu
    refine ⟨?_, h2⟩
    rw [World.cell?_setCell_other _ _ _ _ (by intro e; injection e with _ e _; omega), World.cell?_setCell_other _ _ _ _ (by intro e; injection e with _ e _; omega)]
    exact h1
theorem SlT.put_snd {l : List (Int × Int)} (h : SlT w lo hi (some ⟨b, off, none⟩) n l) {k : Nat} {x y0 : Int} (hx : l[k]? = some (x, y0)) (y : Int) :
    SlT (w.setCell ⟨b, off + k * 2 + 1, none⟩ (.int .i64 y)) lo hi (some ⟨b, off, none⟩) n (l.set k (x, y)) := by
  have hk : k < l.length := (List.getElem?_eq_some_iff.1 hx).1
  refine ⟨by rw [List.length_set]; exact h.len, fun _ => ?_⟩
  obtain ⟨b', off', e, g1, g2, g3, hc⟩ := h.at_ (by have := h.len; omega)
  cases e
  refine ⟨b, off, rfl, g1, g2, by simpa [World.setCell] using g3, fun i z hz j u hu => ?_⟩
  have hj : j < 2 := (List.getElem?_eq_some_iff.1 hu).1
  obtain ⟨hkc1, hkf1⟩ := hc k (x, y0) hx 1 _ rfl
  rw [World.frozen?_setCell]
  by_cases hik : i = k
  · subst hik
    rw [List.getElem?_set_self hk] at hz
    cases hz
    match j, hu with
    | 0, hu =>
      simp [tv] at hu
      subst hu
      obtain ⟨h1, h2⟩ := hc i (x, y0) hx 0 _ rfl
      refine ⟨?_, h2⟩
      rw [World.cell?_setCell_other _ _ _ _ (by intro e; injection e with _ e _; omega)]
      exact h1
    | 1, hu =>
      simp [tv] at hu
      subst hu
      rw [← Nat.add_assoc] at hkc1 hkf1 ⊢
      exact ⟨World.cell?_setCell_same _ _ _ hkc1, hkf1⟩
  · rw [List.getElem?_set_ne (by omega)] at hz
    obtain ⟨h1, h2⟩ := hc i z hz j u hu
    refine ⟨?_, h2⟩
    rw [World.cell?_setCell_other _ _ _ _ (by intro e; injection e with _ e _; omega)]
    exact h1
theorem SlI.put {l : List Int} (h : SlI w lo hi (some ⟨b, off, none⟩) n l) {k : Nat} (hk : k < n) (x : Int) :
    SlI (w.setCell ⟨b, off + k, none⟩ (.int .i64 x)) lo hi (some ⟨b, off, none⟩) n (l.set k x) := by
  refine ⟨by rw [List.length_set]; exact h.len, fun _ => ?_⟩
  obtain ⟨b', off', e, g1, g2, g3, hc⟩ := h.at_ (by omega)
  cases e
  refine ⟨b, off, rfl, g1, g2, by simpa [World.setCell] using g3, fun i z hz j u hu => ?_⟩
  have hj : j < 1 := (List.getElem?_eq_some_iff.1 hu).1
  have hil : i < l.length := by
    have := (List.getElem?_eq_some_iff.1 hz).1
    rwa [List.length_set] at this
  obtain ⟨hkc0, hkf0⟩ := hc k (l[k]'(by rw [h.len]; exact hk)) (List.getElem?_eq_getElem _) 0 _ rfl
  rw [World.frozen?_setCell]
  by_cases hik : i = k
  · subst hik
    rw [List.getElem?_set_self hil] at hz
    cases hz
    match j, hu with
    | 0, hu =>
      simp [iv] at hu
      subst hu
      simp only [Nat.add_zero, Nat.mul_one] at hkc0 hkf0 ⊢
      exact ⟨World.cell?_setCell_same _ _ _ hkc0, hkf0⟩
  · rw [List.getElem?_set_ne (by omega)] at hz
    obtain ⟨h1, h2⟩ := hc i z hz j u hu
    refine ⟨?_, h2⟩
    rw [World.cell?_setCell_other _ _ _ _ (by intro e; injection e with _ e _; omega)]
    exact h1
end

/-- The first k elements marked from m on. -/
def markT (m : Int) : Nat → List (Int × Int) → List (Int × Int)
  | 0, l => l
  | k + 1, l => (markT m k l).set k (m + 2 * k, m + 2 * k + 1)
theorem markT_len (m : Int) (k : Nat) (l : List (Int × Int)) : (markT m k l).length = l.length := by
  induction k with
  | zero => rfl
  | succ k ih => simp [markT, ih]
theorem markT_get (m : Int) (k : Nat) (l : List (Int × Int)) (i : Nat) (hi : i < k) (hl : i < l.length) : (markT m k l)[i]? = some (m + 2 * i, m + 2 * i + 1) := by
  induction k with
  | zero => omega
  | succ k ih =>
    by_cases h : i = k
    · subst h
      exact List.getElem?_set_self (by rw [markT_len]; exact hl)
    · rw [markT, List.getElem?_set_ne (by omega)]
      exact ih (by omega)
def markI (m : Int) : Nat → List Int → List Int
  | 0, l => l
  | k + 1, l => (markI m k l).set k (m + k)
theorem markI_len (m : Int) (k : Nat) (l : List Int) : (markI m k l).length = l.length := by
  induction k with
  | zero => rfl
  | succ k ih => simp [markI, ih]
theorem markI_get (m : Int) (k : Nat) (l : List Int) (i : Nat) (hi : i < k) (hl : i < l.length) : (markI m k l)[i]? = some (m + i) := by
  induction k with
  | zero => omega
  | succ k ih =>
    by_cases h : i = k
    · subst h
      exact List.getElem?_set_self (by rw [markI_len]; exact hl)
    · rw [markI, List.getElem?_set_ne (by omega)]
      exact ih (by omega)

/-- A list of which the first k elements are mapped by g, the others as they were. -/
def MapK {α : Type} (g : α → α) (k : Nat) (l L : List α) : Prop := L.length = l.length ∧ (∀ i, i < k → L[i]? = (l[i]?).map g) ∧ ∀ i, k ≤ i → L[i]? = l[i]?
theorem MapK.start {α : Type} (g : α → α) (l : List α) : MapK g 0 l l := ⟨rfl, fun i hi => absurd hi (by omega), fun _ _ => rfl⟩
theorem MapK.skip {α : Type} {g : α → α} {k : Nat} {l L : List α} (h : MapK g k l L) {x : α} (hx : L[k]? = some x) (hg : g x = x) : MapK g (k + 1) l L := by
  refine ⟨h.1, fun i hi => ?_, fun i hi => h.2.2 i (by omega)⟩
  by_cases e : i = k
  · subst e
    have h1 := h.2.2 i (Nat.le_refl _)
    rw [← h1, hx]
    simp [hg]
  · exact h.2.1 i (by omega)
theorem MapK.set {α : Type} {g : α → α} {k : Nat} {l L : List α} (h : MapK g k l L) {x y : α} (hx : L[k]? = some x) (hg : g x = y) : MapK g (k + 1) l (L.set k y) := by
  have hk : k < L.length := (List.getElem?_eq_some_iff.1 hx).1
  refine ⟨by rw [List.length_set]; exact h.1, fun i hi => ?_, fun i hi => by rw [List.getElem?_set_ne (by omega)]; exact h.2.2 i (by omega)⟩
  by_cases e : i = k
  · subst e
    rw [List.getElem?_set_self hk, ← h.2.2 i (Nat.le_refl _), hx]
    simp [hg]
  · rw [List.getElem?_set_ne (by omega)]
    exact h.2.1 i (by omega)
theorem MapK.done {α : Type} {g : α → α} {k : Nat} {l L : List α} (h : MapK g k l L) (hk : l.length = k) : L = l.map g := by
  apply List.ext_getElem?
  intro i
  rw [List.getElem?_map]
  by_cases hi : i < k
  · exact h.2.1 i hi
  · rw [h.2.2 i (by omega), List.getElem?_eq_none (by omega)]
    rfl

end Go.Proofs.YtiaclddgllkgpaaGreatDoor
