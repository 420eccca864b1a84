/-
  Several texts in one:
  Words for memory: a slice value that reads as a list of elements, each element being a fixed number of cells. Conditions: none; plain theorems about worlds.
  Games on graphs: sets of vertices, attractors as an inductive predicate, and what two runs of the search for them keep. Conditions: none; plain lists.
  Formulas with fixed points over finite systems: their meaning, by iteration on lists of booleans: plain. Conditions: none.
  Signatures: who wins a formula's game, place by place, with the stages of its fixed points: plain. Conditions: none.
  Fixed points that go on from the sets they last had: what such a search keeps, and that it finds the meaning: plain. Conditions: none.
-/
import Derived.WalkKit
import Derived.ProofKit
import Derived.OpenShut
import Derived.Handy
import Derived.Below
import Derived.Deep.Draws
import Derived.Laws.MakeOwn
namespace Go.Proofs.YtanlgnjgpbjebaaGreatDoor
open Go.RowKit

/-- A fact kept from the walk. -/
theorem hide {p : Prop} (h : p) : Hid p := h

theorem ret_b {a b : Bool} (h : b = a) : Ending.returned (.bool a) = .returned (.bool b) := by rw [h]
theorem ret_i {k : IntKind} {a b : Int} (h : b = a) : Ending.returned (.int k a) = .returned (.int k b) := by rw [h]

/-- The slice value `.slice A n c` holds the elements l (each of size cells, as f tells), in one block from lo on and below hi, whose cells may be written. -/
def Sl {α : Type} (size : Nat) (f : α → List Value) (w : World) (lo hi : Nat) (A : Option Addr) (n : Nat) (l : List α) : Prop :=
  l.length = n ∧ (0 < n → ∃ b off, A = some ⟨b, off, none⟩ ∧ lo ≤ b ∧ b < hi ∧ b < w.heap.size ∧
    ∀ (k : Nat) (x : α), l[k]? = some x → ∀ (j : Nat) (u : Value), (f x)[j]? = some u →
      w.cell? ⟨b, off + (k * size + j), none⟩ = some u ∧ w.frozen? ⟨b, off + (k * size + j), none⟩ = false)

section
variable {α : Type} {size : Nat} {f : α → List Value} {w w' : World} {lo hi lo' hi' n : Nat} {A : Option Addr} {l : List α}

theorem Sl.len (h : Sl size f w lo hi A n l) : l.length = n := h.1

theorem Sl.nil_ : Sl size f w lo hi A 0 ([] : List α) := ⟨rfl, fun h => absurd h (by omega)⟩

theorem Sl.at_ (h : Sl size f w lo hi A n l) (hn : 0 < n) : ∃ b off, A = some ⟨b, off, none⟩ ∧ lo ≤ b ∧ b < hi ∧ b < w.heap.size ∧
    ∀ (k : Nat) (x : α), l[k]? = some x → ∀ (j : Nat) (u : Value), (f x)[j]? = some u →
      w.cell? ⟨b, off + (k * size + j), none⟩ = some u ∧ w.frozen? ⟨b, off + (k * size + j), none⟩ = false := h.2 hn

theorem Sl.keep (h : Sl size f w lo hi A n l) (hs : w.heap.size ≤ w'.heap.size) (hk : ∀ b, lo ≤ b → b < hi → b < w.heap.size → w'.heap[b]? = w.heap[b]?) : Sl size f w' lo hi A n l :=
  ⟨h.1, fun hn => by
    obtain ⟨b, off, e, h1, h2, h3, hc⟩ := h.2 hn
    refine ⟨b, off, e, h1, h2, by omega, fun k x hx j u hu => ?_⟩
    obtain ⟨hc1, hc2⟩ := hc k x hx j u hu
    have hb := hk b h1 h2 h3
    exact ⟨(World.cell?_of_block (w := w) (by simpa using hb)).trans hc1, (World.frozen?_of_block (w := w) (by simpa using hb)).trans hc2⟩⟩

theorem Sl.below {B : Nat} (h : Sl size f w lo hi A n l) (hb : Below B w w') (hB : hi ≤ B ∨ w.heap.size ≤ B) : Sl size f w' lo hi A n l :=
  h.keep hb.size fun b _ h2 h3 => hb.block b (by omega)

theorem Sl.more (h : Sl size f w lo hi A n l) (h1 : lo' ≤ lo) (h2 : hi ≤ hi') : Sl size f w lo' hi' A n l :=
  ⟨h.1, fun hn => by
    obtain ⟨b, off, e, g1, g2, g3, hc⟩ := h.2 hn
    exact ⟨b, off, e, by omega, by omega, g3, hc⟩⟩

theorem Sl.top (h : Sl size f w lo hi A n l) : Sl size f w lo w.heap.size A n l :=
  ⟨h.1, fun hn => by
    obtain ⟨b, off, e, g1, g2, g3, hc⟩ := h.2 hn
    exact ⟨b, off, e, by omega, by omega, g3, hc⟩⟩

theorem Sl.drew (h : Sl size f w lo hi A n l) : Sl size f w.drew lo hi A n l := h
theorem Sl.drewN (h : Sl size f w lo hi A n l) (k : Nat) : Sl size f (w.drewN k) lo hi A n l := h
end

/-- Int's order test in Bool. -/
def inB (n lo hi : Int) : Bool := decide (lo ≤ n) && decide (n ≤ hi)

/-- A struct of two int64 fields. -/
def tv (t : Int × Int) : List Value := [.int .i64 t.1, .int .i64 t.2]
/-- An int64. -/
def iv (n : Int) : List Value := [.int .i64 n]

abbrev SlT := Sl 2 tv
abbrev SlI := Sl 1 iv

/-- Block B is a row of n elements of which the first k are those of l. -/
def Fill {α : Type} (size : Nat) (f : α → List Value) (w : World) (B : Nat) (t : TypeId) (n k : Nat) (l : List α) : Prop :=
  ∃ cur : Array Value, w.heap[B]? = some (.cells cur t (0, 0)) ∧ cur.size = n * size ∧
    ∀ (i : Nat) (x : α), i < k → l[i]? = some x → ∀ (j : Nat) (u : Value), (f x)[j]? = some u → cur[i * size + j]? = some u

section
variable {α : Type} {size : Nat} {f : α → List Value} {w w' : World} {B n k : Nat} {t : TypeId} {l : List α}

theorem Fill.start (w : World) (t : TypeId) (cur : Array Value) (n : Nat) (hs : cur.size = n * size) : Fill size f (w.alloc (.cells cur t)) w.heap.size t n 0 l :=
  ⟨cur, heap_alloc_new w _, hs, fun i x hi => absurd hi (by omega)⟩

theorem Fill.lt (h : Fill size f w B t n k l) : B < w.heap.size := by
  obtain ⟨cur, hc, _⟩ := h
  rcases Nat.lt_or_ge B w.heap.size with hl | hl
  · exact hl
  · rw [Array.getElem?_eq_none hl] at hc; cases hc

theorem Fill.keep (h : Fill size f w B t n k l) (hb : w'.heap[B]? = w.heap[B]?) : Fill size f w' B t n k l := by
  obtain ⟨cur, hc, r⟩ := h
  exact ⟨cur, hb.trans hc, r⟩

theorem Fill.cell (h : Fill size f w B t n k l) {i : Nat} (hi : i < n * size) : ∃ u, w.cell? ⟨B, i, none⟩ = some u := by
  obtain ⟨cur, hc, hs, _⟩ := h
  exact ⟨cur[i]'(by omega), by rw [cell_of_row w B i cur t (0, 0) hc, Array.getElem?_eq_getElem (by omega)]⟩

theorem Fill.frozen (h : Fill size f w B t n k l) (i : Nat) : w.frozen? ⟨B, i, none⟩ = false := by
  obtain ⟨cur, hc, hs, _⟩ := h
  exact frozen_of_row w B i cur t hc

/-- A round that lays element k, cell by cell. -/
theorem Fill.step (h : Fill size f w B t n k l) (hlen : ∀ x, (f x).length = size) {x : α} (hx : l[k]? = some x)
    (hs : ∀ cur : Array Value, w.heap[B]? = some (.cells cur t (0, 0)) → cur.size = n * size → ∃ cur', w'.heap[B]? = some (.cells cur' t (0, 0)) ∧ cur'.size = cur.size ∧
      (∀ i, i < k * size → cur'[i]? = cur[i]?) ∧ (∀ j u, (f x)[j]? = some u → cur'[k * size + j]? = some u)) : Fill size f w' B t n (k + 1) l := by
  obtain ⟨cur, hc, hsz, hel⟩ := h
  obtain ⟨cur', h1, h2, h3, h4⟩ := hs cur hc hsz
  refine ⟨cur', h1, h2.trans hsz, fun i y hi hy j v hv => ?_⟩
  have hj : j < size := by rw [← hlen y]; exact (List.getElem?_eq_some_iff.1 hv).1
  rcases Nat.lt_or_ge i k with hlt | hge
  · have hm : (i + 1) * size ≤ k * size := Nat.mul_le_mul_right _ hlt
    rw [Nat.add_mul] at hm
    rw [h3 _ (by omega)]
    exact hel i y hlt hy j v hv
  · have : i = k := by omega
    subst this
    rw [hx] at hy
    cases hy
    exact h4 j v hv

theorem Fill.done (h : Fill size f w B t n n l) (hl : l.length = n) {lo hi : Nat} (h1 : lo ≤ B) (h2 : B < hi) : Sl size f w lo hi (some ⟨B, 0, none⟩) n l := by
  refine ⟨hl, fun _ => ⟨B, 0, rfl, h1, h2, h.lt, fun k x hx j u hu => ?_⟩⟩
  obtain ⟨cur, hc, hs, hel⟩ := h
  have hk : k < n := by rw [← hl]; exact (List.getElem?_eq_some_iff.1 hx).1
  rw [Nat.zero_add]
  exact ⟨(cell_of_row w B _ cur t (0, 0) hc).trans (hel k x hk hx j u hu), frozen_of_row w B _ cur t hc⟩
end

section
variable {w w' : World} {lo hi n : Nat} {A : Option Addr}
/-- A slice of two-field structs, read at k, in the walk's spelling. -/
theorem SlT.get {l : List (Int × Int)} (h : SlT w lo hi A n l) {k : Nat} (hk : k < n) :
    ∃ b off x y, A = some ⟨b, off, none⟩ ∧ lo ≤ b ∧ b < hi ∧ b < w.heap.size ∧ l[k]? = some (x, y) ∧ w.cell? ⟨b, off + k * 2, none⟩ = some (.int .i64 x) ∧ w.cell? ⟨b, off + k * 2 + 1, none⟩ = some (.int .i64 y) ∧
      w.frozen? ⟨b, off + k * 2, none⟩ = false ∧ w.frozen? ⟨b, off + k * 2 + 1, none⟩ = false := by
  obtain ⟨b, off, e, g1, g2, g3, hc⟩ := h.at_ (by omega)
  have hl : k < l.length := by rw [h.len]; exact hk
  have h0 := hc k l[k] (List.getElem?_eq_getElem hl) 0 _ rfl
  have h1 := hc k l[k] (List.getElem?_eq_getElem hl) 1 _ rfl
  rw [← Nat.add_assoc] at h1
  exact ⟨b, off, l[k].1, l[k].2, e, g1, g2, g3, List.getElem?_eq_getElem hl, h0.1, h1.1, h0.2, h1.2⟩
theorem SlI.get {l : List Int} (h : SlI w lo hi A n l) {k : Nat} (hk : k < n) :
    ∃ b off x, A = some ⟨b, off, none⟩ ∧ lo ≤ b ∧ b < hi ∧ b < w.heap.size ∧ l[k]? = some x ∧ w.cell? ⟨b, off + k, none⟩ = some (.int .i64 x) ∧ w.frozen? ⟨b, off + k, none⟩ = false := by
  obtain ⟨b, off, e, g1, g2, g3, hc⟩ := h.at_ (by omega)
  have hl : k < l.length := by rw [h.len]; exact hk
  have h0 := hc k l[k] (List.getElem?_eq_getElem hl) 0 _ rfl
  simp only [Nat.mul_one, Nat.add_zero] at h0
  exact ⟨b, off, l[k], e, g1, g2, g3, List.getElem?_eq_getElem hl, h0.1, h0.2⟩
end

/-- `make([]T, n)` at an n that fits: a new block of n elements' zero cells. -/
theorem make_row {P : Program} (t e : TypeId) (i : TypeInfo) (z : Value) (sz n : Nat) (ht : P.underlying t = some (.slice e)) (hi : P.info? e = some i) (hz : i.zero = some z) (hsz : i.size = sz)
    (hby : i.bytes * n ≤ 281474976710656) (hn : n ≤ 9223372036854775807) (W : World) :
    (Instr.makeSlice t (.int .i64 (n : Int)) (.int .i64 (n : Int))).run P W = .ok (.slice (some ⟨W.heap.size, 0, none⟩) n n) (W.alloc (.cells (madeCells z.cells (n * sz)) e)) := by
  have hb : (i.bytes : Int) * (n : Int) ≤ 281474976710656 := by
    rw [← Int.natCast_mul]
    omega
  have h := run_make (P := P) W t e i z ht hi hz .i64 .i64 n n (by omega) (Int.le_refl _) hb (by omega)
  rw [Int.toNat_natCast, hsz] at h
  exact h

section
variable {α : Type} {f : α → List Value} {w : World} {B n k : Nat} {t : TypeId} {l : List α}
theorem Fill.set1 (h : Fill 1 f w B t n k l) (hk : k < n) (hlen : ∀ x, (f x).length = 1) {x : α} (hx : l[k]? = some x) {u : Value} (hf : f x = [u]) :
    Fill 1 f (w.setCell ⟨B, k, none⟩ u) B t n (k + 1) l :=
  h.step hlen hx fun cur hc hs => ⟨cur.setIfInBounds k u, heap_setCell_same w B k cur t u hc, by simp, fun i hi => Array.getElem?_setIfInBounds_ne (by omega), fun j v hv => by
    rw [hf] at hv
    match j, hv with
    | 0, hv =>
      simp at hv
      subst hv
      simp [Array.getElem?_setIfInBounds]
      omega⟩
end

theorem take_step {α : Type} {l r : List α} {k : Nat} {x y : α} (h : l.take k = r.take k) (hx : l[k]? = some x) (hy : r[k]? = some y) (e : x = y) : l.take (k + 1) = r.take (k + 1) := by
  subst e
  rw [List.take_add_one, List.take_add_one, h, hx, hy]
theorem take_stop {α : Type} {l r : List α} {k : Nat} {x y : α} (hx : l[k]? = some x) (hy : r[k]? = some y) (e : x ≠ y) : l ≠ r := by
  rintro rfl
  rw [hx] at hy
  exact e (Option.some.inj hy)
theorem take_all {α : Type} {l r : List α} {k : Nat} (h : l.take k = r.take k) (hl : l.length = k) (hr : r.length = k) : l = r := by
  rw [List.take_of_length_le (by omega), List.take_of_length_le (by omega)] at h
  exact h
/-- w' is w but for blocks from lo on and below hi, and new blocks. -/
structure Only (lo hi : Nat) (w w' : World) : Prop where
  os : w'.os = w.os
  tape : w'.tape = w.tape
  output : w'.output = w.output
  size : w.heap.size ≤ w'.heap.size
  block : ∀ b, b < w.heap.size → b < lo ∨ hi ≤ b → w'.heap[b]? = w.heap[b]?

theorem Only.refl (lo hi : Nat) (w : World) : Only lo hi w w := ⟨rfl, rfl, rfl, Nat.le_refl _, fun _ _ _ => rfl⟩
theorem Only.setCell {lo hi : Nat} {a w : World} (h : Only lo hi a w) {p : Addr} (h1 : lo ≤ p.block) (h2 : p.block < hi) (u : Value) : Only lo hi a (w.setCell p u) :=
  ⟨h.os, h.tape, h.output, by simpa [World.setCell] using h.size, fun b hb ho => (Below.heap_setCell w p u b (by omega)).trans (h.block b hb ho)⟩
theorem Only.below {lo hi B : Nat} {a w w' : World} (h : Below B a w) (g : Only lo hi w w') (h1 : B ≤ lo) (h2 : B ≤ w.heap.size) : Below B a w' :=
  h.trans ⟨g.os, g.tape, g.output, g.size, fun b hb => g.block b (by omega) (by omega)⟩
theorem Sl.only {α : Type} {size : Nat} {f : α → List Value} {w w' : World} {lo hi lo' hi' n : Nat} {A : Option Addr} {l : List α} (h : Sl size f w lo hi A n l) (g : Only lo' hi' w w') (hd : hi ≤ lo' ∨ hi' ≤ lo) : Sl size f w' lo hi A n l :=
  h.keep g.size fun b h1 h2 h3 => g.block b h3 (by omega)

section
variable {w : World} {lo hi n b off : Nat}
theorem SlT.put {l : List (Int × Int)} (h : SlT w lo hi (some ⟨b, off, none⟩) n l) {k : Nat} (hk : k < n) (x y : Int) :
    SlT ((w.setCell ⟨b, off + k * 2, none⟩ (.int .i64 x)).setCell ⟨b, off + k * 2 + 1, none⟩ (.int .i64 y)) lo hi (some ⟨b, off, none⟩) n (l.set k (x, y)) := by
  refine ⟨by rw [List.length_set]; exact h.len, fun _ => ?_⟩
  obtain ⟨b', off', e, g1, g2, g3, hc⟩ := h.at_ (by omega)
  cases e
  refine ⟨b, off, rfl, g1, g2, by simpa [World.setCell] using g3, fun i z hz j u hu => ?_⟩
  have hj : j < 2 := (List.getElem?_eq_some_iff.1 hu).1
  have hil : i < l.length := by
    have := (List.getElem?_eq_some_iff.1 hz).1
    rwa [List.length_set] at this
  obtain ⟨hkc0, hkf0⟩ := hc k (l[k]'(by rw [h.len]; exact hk)) (List.getElem?_eq_getElem _) 0 _ rfl
  obtain ⟨hkc1, hkf1⟩ := hc k (l[k]'(by rw [h.len]; exact hk)) (List.getElem?_eq_getElem _) 1 _ rfl
  have hfr : ∀ (W : World) (p q : Addr) (v : Value), (W.setCell p v).frozen? q = W.frozen? q := fun W p q v => World.frozen?_setCell W p q v
  rw [hfr, hfr]
  by_cases hik : i = k
  · subst hik
    rw [List.getElem?_set_self hil] at hz
    cases hz
    match j, hu with
    | 0, hu =>
      simp [tv] at hu
      subst hu
      simp only [Nat.add_zero] at hkc0 hkf0 ⊢
      refine ⟨?_, hkf0⟩
      rw [World.cell?_setCell_other _ _ _ _ (by intro e; injection e with _ e _; omega)]
      exact World.cell?_setCell_same _ _ _ hkc0
    | 1, hu =>
      simp [tv] at hu
      subst hu
      rw [← Nat.add_assoc] at hkc1 hkf1 ⊢
      refine ⟨?_, hkf1⟩
      exact World.cell?_setCell_same _ _ _ ((World.cell?_setCell_other _ _ _ _ (by intro e; injection e with _ e _; omega)).trans hkc1)
  · rw [List.getElem?_set_ne (by omega)] at hz
    obtain ⟨h1, h2⟩ := hc i z hz j u hu
    refine ⟨?_, h2⟩
    rw [World.cell?_setCell_other _ _ _ _ (by intro e; injection e with _ e _; omega), World.cell?_setCell_other _ _ _ _ (by intro e; injection e with _ e _; omega)]
    exact h1
theorem SlI.put {l : List Int} (h : SlI w lo hi (some ⟨b, off, none⟩) n l) {k : Nat} (hk : k < n) (x : Int) :
    SlI (w.setCell ⟨b, off + k, none⟩ (.int .i64 x)) lo hi (some ⟨b, off, none⟩) n (l.set k x) := by
  refine ⟨by rw [List.length_set]; exact h.len, fun _ => ?_⟩
  obtain ⟨b', off', e, g1, g2, g3, hc⟩ := h.at_ (by omega)
  cases e
  refine ⟨b, off, rfl, g1, g2, by simpa [World.setCell] using g3, fun i z hz j u hu => ?_⟩
  have hj : j < 1 := (List.getElem?_eq_some_iff.1 hu).1
  have hil : i < l.length := by
    have := (List.getElem?_eq_some_iff.1 hz).1
    rwa [List.length_set] at this
  obtain ⟨hkc0, hkf0⟩ := hc k (l[k]'(by rw [h.len]; exact hk)) (List.getElem?_eq_getElem _) 0 _ rfl
  rw [World.frozen?_setCell]
  by_cases hik : i = k
  · subst hik
    rw [List.getElem?_set_self hil] at hz
    cases hz
    match j, hu with
    | 0, hu =>
      simp [iv] at hu
      subst hu
      simp only [Nat.add_zero, Nat.mul_one] at hkc0 hkf0 ⊢
      exact ⟨World.cell?_setCell_same _ _ _ hkc0, hkf0⟩
  · rw [List.getElem?_set_ne (by omega)] at hz
    obtain ⟨h1, h2⟩ := hc i z hz j u hu
    refine ⟨?_, h2⟩
    rw [World.cell?_setCell_other _ _ _ _ (by intro e; injection e with _ e _; omega)]
    exact h1
end

def markI (m : Int) : Nat → List Int → List Int
  | 0, l => l
  | k + 1, l => (markI m k l).set k (m + k)
theorem markI_len (m : Int) (k : Nat) (l : List Int) : (markI m k l).length = l.length := by
  induction k with
  | zero => rfl
  | succ k ih => simp [markI, ih]
theorem markI_get (m : Int) (k : Nat) (l : List Int) (i : Nat) (hi : i < k) (hl : i < l.length) : (markI m k l)[i]? = some (m + i) := by
  induction k with
  | zero => omega
  | succ k ih =>
    by_cases h : i = k
    · subst h
      exact List.getElem?_set_self (by rw [markI_len]; exact hl)
    · rw [markI, List.getElem?_set_ne (by omega)]
      exact ih (by omega)

/-- A list of which the first k elements are mapped by g, the others as they were. -/
def MapK {α : Type} (g : α → α) (k : Nat) (l L : List α) : Prop := L.length = l.length ∧ (∀ i, i < k → L[i]? = (l[i]?).map g) ∧ ∀ i, k ≤ i → L[i]? = l[i]?
theorem MapK.start {α : Type} (g : α → α) (l : List α) : MapK g 0 l l := ⟨rfl, fun i hi => absurd hi (by omega), fun _ _ => rfl⟩
theorem MapK.skip {α : Type} {g : α → α} {k : Nat} {l L : List α} (h : MapK g k l L) {x : α} (hx : L[k]? = some x) (hg : g x = x) : MapK g (k + 1) l L := by
  refine ⟨h.1, fun i hi => ?_, fun i hi => h.2.2 i (by omega)⟩
  by_cases e : i = k
  · subst e
    have h1 := h.2.2 i (Nat.le_refl _)
    rw [← h1, hx]
    simp [hg]
  · exact h.2.1 i (by omega)
theorem MapK.set {α : Type} {g : α → α} {k : Nat} {l L : List α} (h : MapK g k l L) {x y : α} (hx : L[k]? = some x) (hg : g x = y) : MapK g (k + 1) l (L.set k y) := by
  have hk : k < L.length := (List.getElem?_eq_some_iff.1 hx).1
  refine ⟨by rw [List.length_set]; exact h.1, fun i hi => ?_, fun i hi => by rw [List.getElem?_set_ne (by omega)]; exact h.2.2 i (by omega)⟩
  by_cases e : i = k
  · subst e
    rw [List.getElem?_set_self hk, ← h.2.2 i (Nat.le_refl _), hx]
    simp [hg]
  · rw [List.getElem?_set_ne (by omega)]
    exact h.2.1 i (by omega)
theorem MapK.done {α : Type} {g : α → α} {k : Nat} {l L : List α} (h : MapK g k l L) (hk : l.length = k) : L = l.map g := by
  apply List.ext_getElem?
  intro i
  rw [List.getElem?_map]
  by_cases hi : i < k
  · exact h.2.1 i hi
  · rw [h.2.2 i (by omega), List.getElem?_eq_none (by omega)]
    rfl

end Go.Proofs.YtanlgnjgpbjebaaGreatDoor

namespace Go.Proofs.YtanlgnjgpbjebaaGreatDoor
set_option linter.unusedVariables false

/-- A vertex: owner and priority, and the vertices behind it. -/
abbrev Vx := Int × Int × List Int
abbrev DV := List Vx

/-- A set of vertices as a list of answers. -/
def inS (s : List Bool) (v : Nat) : Bool := s[v]?.getD false
theorem inS_some {s : List Bool} {v : Nat} {b : Bool} (h : s[v]? = some b) : inS s v = b := by unfold inS; rw [h]; rfl
theorem inS_lt {s : List Bool} {v : Nat} (h : inS s v = true) : v < s.length := by
  unfold inS at h
  cases e : s[v]? with
  | none => rw [e] at h; cases h
  | some b => exact (List.getElem?_eq_some_iff.1 e).1
theorem inS_big {s : List Bool} {v : Nat} (h : s.length ≤ v) : inS s v = false := by unfold inS; rw [List.getElem?_eq_none h]; rfl
theorem inS_get {s : List Bool} {v : Nat} (h : v < s.length) : s[v]? = some (inS s v) := by unfold inS; rw [List.getElem?_eq_getElem h]; rfl
theorem inS_set {s : List Bool} {v u : Nat} {b : Bool} (h : v < s.length) : inS (s.set v b) u = if v = u then b else inS s u := by
  unfold inS
  by_cases e : v = u
  · subst e; rw [List.getElem?_set_self h]; simp
  · rw [List.getElem?_set_ne e]; simp [e]
theorem inS_ext {s t : List Bool} (hl : s.length = t.length) (h : ∀ v, v < s.length → inS s v = inS t v) : s = t := by
  apply List.ext_getElem?
  intro i
  by_cases hi : i < s.length
  · rw [inS_get hi, inS_get (by omega), h i hi]
  · rw [List.getElem?_eq_none (by omega), List.getElem?_eq_none (by omega)]
/-- The set of those below n that are as asked. -/
def setOf (n : Nat) (p : Nat → Bool) : List Bool := (List.range n).map p
theorem setOf_len (n : Nat) (p : Nat → Bool) : (setOf n p).length = n := by simp [setOf]
theorem setOf_get {n : Nat} {p : Nat → Bool} {v : Nat} (h : v < n) : (setOf n p)[v]? = some (p v) := by simp [setOf, h]
theorem inS_setOf {n : Nat} {p : Nat → Bool} {v : Nat} : inS (setOf n p) v = (decide (v < n) && p v) := by
  by_cases h : v < n
  · rw [inS_some (setOf_get h)]; simp [h]
  · rw [inS_big (by rw [setOf_len]; omega)]; simp [h]
theorem setOf_inS {s : List Bool} {n : Nat} (h : s.length = n) : setOf n (inS s) = s := by
  subst h
  exact inS_ext (setOf_len _ _) fun v hv => by rw [setOf_len] at hv; rw [inS_setOf]; simp [hv]
theorem setOf_congr {n : Nat} {p q : Nat → Bool} (h : ∀ v, v < n → p v = q v) : setOf n p = setOf n q := by
  unfold setOf
  apply List.map_congr_left
  intro v hv
  exact h v (List.mem_range.1 hv)

def gOwn (g : DV) (v : Nat) : Int := (g[v]?.map fun x => x.1).getD 0
def gPri (g : DV) (v : Nat) : Int := (g[v]?.map fun x => x.2.1).getD 0
def gNxt (g : DV) (v : Nat) : List Nat := (g[v]?.map fun x => x.2.2.map Int.toNat).getD []
theorem gOwn_at {g : DV} {v : Nat} {o p : Int} {l : List Int} (h : g[v]? = some (o, p, l)) : gOwn g v = o := by unfold gOwn; rw [h]; rfl
theorem gPri_at {g : DV} {v : Nat} {o p : Int} {l : List Int} (h : g[v]? = some (o, p, l)) : gPri g v = p := by unfold gPri; rw [h]; rfl
theorem gNxt_at {g : DV} {v : Nat} {o p : Int} {l : List Int} (h : g[v]? = some (o, p, l)) : gNxt g v = l.map Int.toNat := by unfold gNxt; rw [h]; rfl

/-- From v the player can force a way into the set, among vertices that are alive. -/
inductive Attr (g : DV) (alive : List Bool) (player : Int) (set : List Bool) : Nat → Prop
  | base {v : Nat} : inS set v = true → Attr g alive player set v
  | own {v u : Nat} : inS alive v = true → gOwn g v = player → u ∈ gNxt g v → inS alive u = true → Attr g alive player set u → Attr g alive player set v
  | other {v u : Nat} : inS alive v = true → gOwn g v ≠ player → u ∈ gNxt g v → inS alive u = true → (∀ x, x ∈ gNxt g v → inS alive x = true → Attr g alive player set x) → Attr g alive player set v

open Classical in
/-- The attractor. -/
noncomputable def attrF (g : DV) (alive : List Bool) (player : Int) (set : List Bool) : List Bool := setOf g.length fun v => decide (Attr g alive player set v)
theorem attrF_len (g : DV) (alive : List Bool) (player : Int) (set : List Bool) : (attrF g alive player set).length = g.length := setOf_len _ _

section
variable {g : DV} {alive set out : List Bool} {player : Int}

theorem Attr.sub (h : ∀ v, inS set v = true → inS alive v = true) {v : Nat} (a : Attr g alive player set v) : inS alive v = true := by
  cases a with
  | base h1 => exact h v h1
  | own h1 => exact h1
  | other h1 => exact h1

theorem inS_attrF (hl : alive.length = g.length) (h : ∀ v, inS set v = true → inS alive v = true) {v : Nat} : inS (attrF g alive player set) v = true ↔ Attr g alive player set v := by
  unfold attrF
  rw [inS_setOf]
  constructor
  · intro h; simp at h; exact h.2
  · intro a
    have := inS_lt (a.sub h)
    simp [a]
    omega

/-- Nothing can be added to out. -/
def Closed (g : DV) (alive : List Bool) (player : Int) (out : List Bool) (v : Nat) : Prop :=
  inS alive v = true → inS out v = false →
    (gOwn g v = player → ∀ u, u ∈ gNxt g v → inS alive u = true → inS out u = false) ∧
    (gOwn g v ≠ player → (∃ u, u ∈ gNxt g v ∧ inS alive u = true) → ∃ u, u ∈ gNxt g v ∧ inS alive u = true ∧ inS out u = false)

theorem Attr.in_closed (hs : ∀ v, inS set v = true → inS out v = true) (hc : ∀ v, Closed g alive player out v) {v : Nat} (a : Attr g alive player set v) : inS out v = true := by
  induction a with
  | base h => exact hs _ h
  | @own v u h1 h2 h3 h4 _ ih =>
    cases e : inS out v with
    | true => rfl
    | false =>
      have := (hc v h1 e).1 h2 u h3 h4
      rw [ih] at this; cases this
  | @other v u h1 h2 h3 h4 _ ih =>
    cases e : inS out v with
    | true => rfl
    | false =>
      obtain ⟨x, x1, x2, x3⟩ := (hc v h1 e).2 h2 ⟨u, h3, h4⟩
      rw [ih x x1 x2] at x3; cases x3

/-- A set between the one asked for and the attractor. -/
structure Between (g : DV) (alive : List Bool) (player : Int) (set out : List Bool) : Prop where
  len : out.length = g.length
  from_ : ∀ v, inS set v = true → inS out v = true
  to_ : ∀ v, inS out v = true → Attr g alive player set v

theorem Between.start (hl : set.length = g.length) : Between g alive player set set := ⟨hl, fun _ h => h, fun _ h => .base h⟩
theorem Between.add (h : Between g alive player set out) {v : Nat} (hv : v < g.length) (a : Attr g alive player set v) : Between g alive player set (out.set v true) := by
  have hl := h.len
  refine ⟨by rw [List.length_set]; exact hl, fun u hu => ?_, fun u hu => ?_⟩
  · rw [inS_set (by omega)]
    split
    · rfl
    · exact h.from_ u hu
  · rw [inS_set (by omega)] at hu
    split at hu
    · rename_i e; subst e; exact a
    · exact h.to_ u hu
theorem Between.done (h : Between g alive player set out) (hc : ∀ v, v < g.length → Closed g alive player out v) (hal : alive.length = g.length) : out = attrF g alive player set := by
  have hc' : ∀ v, Closed g alive player out v := fun v => by
    by_cases hv : v < g.length
    · exact hc v hv
    · intro h1; have := inS_lt h1; omega
  refine inS_ext (by rw [h.len, attrF_len]) fun v hv => ?_
  have hv' : v < g.length := by rw [← h.len]; exact hv
  unfold attrF
  rw [inS_setOf]
  by_cases a : Attr g alive player set v
  · rw [a.in_closed h.from_ hc']
    simp [a, hv']
  · simp only [a, decide_false, Bool.and_false]
    cases e : inS out v with
    | false => rfl
    | true => exact absurd (h.to_ v e) a
end

/-- How many are in a set. -/
def cntT (s : List Bool) : Nat := (s.filter id).length
theorem cntT_le (s : List Bool) : cntT s ≤ s.length := List.length_filter_le _ _
theorem cntT_set {s : List Bool} : ∀ {v : Nat}, v < s.length → inS s v = false → cntT (s.set v true) = cntT s + 1 := by
  induction s with
  | nil => intro v h; simp at h
  | cons b s ih =>
    intro v hv h
    cases v with
    | zero =>
      have hb : b = false := by simpa [inS] using h
      subst hb
      simp [cntT]
    | succ v =>
      have h1 := ih (v := v) (by simpa using hv) (by simpa [inS] using h)
      unfold cntT at h1 ⊢
      cases b <;> simp [List.filter_cons] at h1 ⊢ <;> omega

/-- A set strictly within another one is smaller. -/
theorem cntT_lt {s t : List Bool} (hl : s.length = t.length) (h : ∀ v, inS s v = true → inS t v = true) {v : Nat} (hv : inS t v = true) (hv' : inS s v = false) : cntT s < cntT t := by
  have mono : ∀ (s t : List Bool), s.length = t.length → (∀ v, inS s v = true → inS t v = true) → cntT s ≤ cntT t := by
    intro s
    induction s with
    | nil => intro t _ _; simp [cntT]
    | cons b s ih =>
      intro t hl h
      cases t with
      | nil => simp at hl
      | cons c t =>
        have h0 := h 0
        have h1 := ih t (by simpa using hl) fun v hv => by have := h (v + 1); simpa [inS] using this (by simpa [inS] using hv)
        unfold cntT at h1 ⊢
        have h0' : b = true → c = true := by simpa [inS] using h0
        cases b <;> cases c <;> simp [List.filter_cons] at h0' ⊢ <;> omega
  have h2 := mono (s.set v true) t (by rw [List.length_set]; exact hl) fun u hu => by
    rw [inS_set (by rw [hl]; exact inS_lt hv)] at hu
    split at hu
    · rename_i e; subst e; exact hv
    · exact h u hu
  rw [cntT_set (by rw [hl]; exact inS_lt hv) hv'] at h2
  omega

section
variable {g : DV} {alive set out : List Bool} {player : Int}
end

/-- The least priority among vertices, and whether there is one. -/
def leastP (g : DV) (alive : List Bool) : Option Int :=
  (List.range g.length).foldl (fun a v => if inS alive v then some (match a with | none => gPri g v | some m => min m (gPri g v)) else a) none

/-- What the player 1 wins among vertices that are alive. -/
noncomputable def winF (g : DV) : Nat → List Bool → List Bool
  | 0, _ => setOf g.length fun _ => false
  | f + 1, alive =>
    match leastP g alive with
    | none => setOf g.length fun _ => false
    | some least =>
      let player := least % 2
      let first := attrF g alive player (setOf g.length fun v => inS alive v && decide (gPri g v = least))
      let rest := setOf g.length fun v => inS alive v && !inS first v
      let won := winF g f rest
      let other := setOf g.length fun v => inS rest v && (inS won v != decide (player = 1))
      if (List.range g.length).any (inS other) then
        let lost := attrF g alive (1 - player) other
        let won2 := winF g f (setOf g.length fun v => inS alive v && !inS lost v)
        setOf g.length fun v => inS alive v && ((inS lost v && decide (player = 0)) || (!inS lost v && inS won2 v))
      else setOf g.length fun v => inS alive v && decide (player = 1)

theorem winF_sub (g : DV) (f : Nat) (alive : List Bool) {v : Nat} (h : inS (winF g f alive) v = true) : inS alive v = true := by
  cases f with
  | zero => unfold winF at h; rw [inS_setOf] at h; simp at h
  | succ f =>
    unfold winF at h
    split at h
    · rw [inS_setOf] at h; simp at h
    · dsimp only at h
      split at h <;> (rw [inS_setOf] at h; simp at h; exact h.2.1)

/-- The winners as the program reckons them. -/
noncomputable def stuckF (g : DV) (owner : Int) : List Bool := setOf g.length fun v => decide (gOwn g v = owner) && (gNxt g v).isEmpty
def wholeF (g : DV) : List Bool := setOf g.length fun _ => true
noncomputable def oneF (g : DV) : List Bool := attrF g (wholeF g) 1 (stuckF g 0)
noncomputable def zeroF (g : DV) : List Bool := attrF g (wholeF g) 0 (stuckF g 1)
noncomputable def restF (g : DV) : List Bool := setOf g.length fun v => !inS (zeroF g) v && !inS (oneF g) v
noncomputable def winnersF (g : DV) : List Int := (List.range g.length).map fun v => if inS (oneF g) v || (!inS (zeroF g) v && inS (winF g g.length (restF g)) v) then 1 else 0

theorem inS_whole {g : DV} {v : Nat} : inS (wholeF g) v = decide (v < g.length) := by unfold wholeF; rw [inS_setOf]; simp
theorem stuck_whole {g : DV} {o : Int} {v : Nat} (h : inS (stuckF g o) v = true) : inS (wholeF g) v = true := by
  rw [inS_whole]; unfold stuckF at h; rw [inS_setOf] at h; simp at h; simp [h.1]
theorem inS_stuck {g : DV} {o : Int} {v : Nat} (h : inS (stuckF g o) v = true) : gOwn g v = o ∧ gNxt g v = [] := by
  unfold stuckF at h; rw [inS_setOf] at h; simp at h; exact ⟨h.2.1, h.2.2⟩
theorem inS_oneF {g : DV} {v : Nat} : inS (oneF g) v = true ↔ Attr g (wholeF g) 1 (stuckF g 0) v := inS_attrF (setOf_len _ _) fun _ => stuck_whole
theorem inS_zeroF {g : DV} {v : Nat} : inS (zeroF g) v = true ↔ Attr g (wholeF g) 0 (stuckF g 1) v := inS_attrF (setOf_len _ _) fun _ => stuck_whole

/-- Each vertex is of one of two owners. -/
def Owned (g : DV) : Prop := ∀ v, v < g.length → gOwn g v = 0 ∨ gOwn g v = 1

/-- Nobody is forced to both ends. -/
theorem one_not_zero {g : DV} {v : Nat} (a : Attr g (wholeF g) 1 (stuckF g 0) v) : ¬ Attr g (wholeF g) 0 (stuckF g 1) v := by
  induction a with
  | base h =>
    obtain ⟨h1, h2⟩ := inS_stuck h
    intro z
    cases z with
    | base z => rw [(inS_stuck z).1] at h1; cases h1
    | own _ _ z => rw [h2] at z; cases z
    | other _ z => exact z h1
  | own h1 h2 h3 h4 _ ih =>
    intro z
    cases z with
    | base z => rw [(inS_stuck z).2] at h3; cases h3
    | own _ z => rw [z] at h2; cases h2
    | other _ _ _ _ z => exact ih (z _ h3 h4)
  | other h1 h2 h3 h4 _ ih =>
    intro z
    cases z with
    | base z => exact h2 (inS_stuck z).1
    | own _ _ z1 z2 z3 => exact ih _ z1 z2 z3
    | other _ z z1 z2 z3 => exact ih _ h3 h4 (z3 _ h3 h4)

end Go.Proofs.YtanlgnjgpbjebaaGreatDoor

namespace Go.Proofs.YtanlgnjgpbjebaaGreatDoor
set_option linter.unusedVariables false
set_option linter.unusedSimpArgs false

/-- A set within another one, or around it. -/
def leS (b : Bool) (s t : List Bool) : Prop := ∀ x, inS (if b then s else t) x = true → inS (if b then t else s) x = true
theorem leS_refl (b : Bool) (s : List Bool) : leS b s s := by cases b <;> exact fun x h => h
theorem leS_trans {b : Bool} {s t u : List Bool} (h : leS b s t) (g : leS b t u) : leS b s u := by
  cases b
  · exact fun x hx => h x (g x hx)
  · exact fun x hx => g x (h x hx)
theorem leS_anti {b : Bool} {s t : List Bool} (hl : s.length = t.length) (h : leS b s t) (g : leS b t s) : s = t := by
  refine inS_ext hl fun v _ => ?_
  cases b
  · have h1 := h v; have h2 := g v; simp only [Bool.false_eq_true, if_false] at h1 h2
    cases e : inS s v <;> cases e' : inS t v <;> simp_all
  · have h1 := h v; have h2 := g v; simp only [if_true] at h1 h2
    cases e : inS s v <;> cases e' : inS t v <;> simp_all
theorem leS_of_sub {b : Bool} {F : List Bool → List Bool} (hm : ∀ s t, leS true s t → leS true (F s) (F t)) {s t : List Bool} (h : leS b s t) : leS b (F s) (F t) := by
  cases b
  · exact hm t s h
  · exact hm s t h
/-- How far a set has come. -/
def cntS (b : Bool) (s : List Bool) : Nat := if b then cntT s else s.length - cntT s
theorem cntS_le (b : Bool) (s : List Bool) : cntS b s ≤ s.length := by
  unfold cntS; have := cntT_le s; split <;> omega
theorem cntS_lt {b : Bool} {s t : List Bool} (hl : s.length = t.length) (h : leS b s t) (hn : s ≠ t) : cntS b s < cntS b t := by
  have hd : ∃ v, inS s v ≠ inS t v := by
    refine Classical.byContradiction fun hc => hn (inS_ext hl fun v _ => ?_)
    exact Classical.byContradiction fun h => hc ⟨v, h⟩
  obtain ⟨v, hv⟩ := hd
  have h1 := cntT_le s
  have h2 := cntT_le t
  cases b
  · have h3 : inS t v = false ∧ inS s v = true := by
      have := h v; simp only [Bool.false_eq_true, if_false] at this
      cases e : inS s v <;> cases e' : inS t v <;> simp_all
    have := cntT_lt hl.symm h h3.2 h3.1
    unfold cntS; simp only [Bool.false_eq_true, if_false]; omega
  · have h3 : inS s v = false ∧ inS t v = true := by
      have := h v; simp only [if_true] at this
      cases e : inS s v <;> cases e' : inS t v <;> simp_all
    have := cntT_lt hl h h3.2 h3.1
    unfold cntS; simp only [if_true]; omega

/-- No states, or all. -/
def whlS (N : Nat) (b : Bool) : List Bool := setOf N fun _ => b
theorem whlS_len (N : Nat) (b : Bool) : (whlS N b).length = N := setOf_len _ _
theorem whlS_le {N : Nat} {b : Bool} {s : List Bool} (hs : s.length = N) : leS b (whlS N (!b)) s := by
  cases b
  · intro x hx
    simp only [Bool.false_eq_true, if_false] at hx ⊢
    unfold whlS; rw [inS_setOf]
    have := inS_lt hx
    simp; omega
  · intro x hx
    simp only [if_true] at hx
    unfold whlS at hx; rw [inS_setOf] at hx
    simp at hx
/-- The approximants of a fixed point. -/
def apF (N : Nat) (b : Bool) (F : List Bool → List Bool) : Nat → List Bool
  | 0 => whlS N (!b)
  | n + 1 => F (apF N b F n)
def fixF (N : Nat) (b : Bool) (F : List Bool → List Bool) : List Bool := apF N b F N
section
variable {N : Nat} {b : Bool} {F : List Bool → List Bool}
theorem apF_len (hF : ∀ s, (F s).length = N) (n : Nat) : (apF N b F n).length = N := by
  cases n with
  | zero => exact whlS_len _ _
  | succ n => exact hF _
theorem apF_up (hF : ∀ s, (F s).length = N) (hm : ∀ s t, leS true s t → leS true (F s) (F t)) (n : Nat) : leS b (apF N b F n) (apF N b F (n + 1)) := by
  induction n with
  | zero => exact whlS_le (hF _)
  | succ n ih => exact leS_of_sub hm ih
theorem apF_stay {n : Nat} (h : apF N b F (n + 1) = apF N b F n) (k : Nat) : apF N b F (n + k) = apF N b F n := by
  induction k with
  | zero => rfl
  | succ k ih => rw [← Nat.add_assoc]; show F _ = _; rw [ih]; exact h
theorem apF_stop (hF : ∀ s, (F s).length = N) (hm : ∀ s t, leS true s t → leS true (F s) (F t)) : ∃ n, n ≤ N ∧ apF N b F (n + 1) = apF N b F n := by
  refine Classical.byContradiction fun hc => ?_
  have h1 : ∀ n, n ≤ N + 1 → n ≤ cntS b (apF N b F n) := by
    intro n
    induction n with
    | zero => intro _; omega
    | succ n ih =>
      intro hn
      have h2 := cntS_lt (b := b) (by rw [apF_len hF, apF_len hF]) (apF_up hF hm n) fun e => hc ⟨n, by omega, e.symm⟩
      have := ih (by omega)
      omega
  have h3 := h1 (N + 1) (Nat.le_refl _)
  have h4 := cntS_le b (apF N b F (N + 1))
  rw [apF_len hF] at h4
  omega
theorem fixF_fix (hF : ∀ s, (F s).length = N) (hm : ∀ s t, leS true s t → leS true (F s) (F t)) : F (fixF N b F) = fixF N b F := by
  obtain ⟨n, hn, he⟩ := apF_stop (b := b) hF hm
  have h1 := apF_stay he (N - n)
  have h2 := apF_stay he (N - n + 1)
  rw [show n + (N - n) = N by omega] at h1
  rw [show n + (N - n + 1) = N + 1 by omega] at h2
  show apF N b F (N + 1) = apF N b F N
  rw [h1, h2]
theorem fixF_len (hF : ∀ s, (F s).length = N) : (fixF N b F).length = N := apF_len hF N
theorem apF_below {s : List Bool} (hm : ∀ s t, leS true s t → leS true (F s) (F t)) (hs : s.length = N) (h : leS b (F s) s) (n : Nat) : leS b (apF N b F n) s := by
  induction n with
  | zero => exact whlS_le hs
  | succ n ih => exact leS_trans (leS_of_sub hm ih) h
/-- What goes up from below ends at the fixed point. -/
theorem fixF_of {s : List Bool} (hF : ∀ s, (F s).length = N) (hm : ∀ s t, leS true s t → leS true (F s) (F t)) (hl : leS b s (fixF N b F)) (hs : F s = s) : s = fixF N b F := by
  have h1 : s.length = N := by rw [← hs]; exact hF _
  exact leS_anti (by rw [h1, fixF_len hF]) hl (apF_below hm h1 (by rw [hs]; exact leS_refl _ _) N)
end
theorem apF_mono {N : Nat} {b : Bool} {F G : List Bool → List Bool} (h : ∀ s t, leS true s t → leS true (F s) (G t)) (n : Nat) : leS true (apF N b F n) (apF N b G n) := by
  induction n with
  | zero => exact leS_refl _ _
  | succ n ih => exact h _ _ ih
theorem apF_congr {N : Nat} {b : Bool} {F G : List Bool → List Bool} (h : ∀ s, F s = G s) (n : Nat) : apF N b F n = apF N b G n := by
  induction n with
  | zero => rfl
  | succ n ih => show F _ = G _; rw [ih, h]

/-! Formulas: shapes, and nodes by their places. -/
inductive Tr where
  | leaf
  | one (a : Tr)
  | two (a b : Tr)
def Tr.size : Tr → Nat
  | .leaf => 1
  | .one a => a.size + 1
  | .two a b => a.size + b.size + 1
theorem Tr.size_pos (T : Tr) : 0 < T.size := by cases T <;> simp only [Tr.size] <;> omega
/-- States, kinds and variables of the nodes, and where a modality leads from a state. -/
structure Sy where
  N : Nat
  q : Nat → Int
  v : Nat → Int
  sc : Nat → Nat → List Nat
abbrev EnvS := Int → List Bool
def upE (ρ : EnvS) (v : Int) (X : List Bool) : EnvS := fun u => if u = v then X else ρ u
def isFx (q : Int) : Bool := decide (q = 7) || decide (q = 8)
/-- The set of states at which the part at a place holds. -/
def sem (M : Sy) : Tr → Nat → EnvS → List Bool
  | .leaf, k, ρ => if M.q k = 0 then whlS M.N true else if M.q k = 1 then whlS M.N false else setOf M.N (inS (ρ (M.v k)))
  | .one a, k, ρ =>
    if M.q k = 4 then setOf M.N fun x => (M.sc k x).any (inS (sem M a (k + 1) ρ))
    else if M.q k = 5 then setOf M.N fun x => (M.sc k x).all (inS (sem M a (k + 1) ρ))
    else fixF M.N (decide (M.q k = 7)) fun X => sem M a (k + 1) (upE ρ (M.v k) X)
  | .two a b, k, ρ =>
    if M.q k = 2 then setOf M.N fun x => inS (sem M a (k + 1) ρ) x && inS (sem M b (k + 1 + a.size) ρ) x
    else setOf M.N fun x => inS (sem M a (k + 1) ρ) x || inS (sem M b (k + 1 + a.size) ρ) x
/-- What the body of a fixed point makes of a set. -/
def bodyF (M : Sy) (a : Tr) (k : Nat) (ρ : EnvS) (X : List Bool) : List Bool := sem M a (k + 1) (upE ρ (M.v k) X)
theorem sem_len (M : Sy) (T : Tr) (k : Nat) (ρ : EnvS) : (sem M T k ρ).length = M.N := by
  induction T generalizing k ρ with
  | leaf => unfold sem; repeat' split
            all_goals first | exact whlS_len _ _ | exact setOf_len _ _
  | one a ih =>
    unfold sem
    repeat' split
    · exact setOf_len _ _
    · exact setOf_len _ _
    · exact apF_len (fun s => ih _ _) _
  | two a b => unfold sem; split <;> exact setOf_len _ _
theorem setOf_sub {N : Nat} {p p' : Nat → Bool} (h : ∀ x, x < N → p x = true → p' x = true) : leS true (setOf N p) (setOf N p') := fun x hx => by
  simp only [if_true] at hx ⊢
  rw [inS_setOf] at hx ⊢
  simp only [Bool.and_eq_true, decide_eq_true_eq] at hx ⊢
  exact ⟨hx.1, h x hx.1 hx.2⟩
theorem upE_sub {ρ ρ' : EnvS} {b : Bool} (h : ∀ u, leS b (ρ u) (ρ' u)) (v : Int) {X X' : List Bool} (hX : leS b X X') (u : Int) : leS b (upE ρ v X u) (upE ρ' v X' u) := by
  unfold upE
  split
  · exact hX
  · exact h u
theorem sem_mono (M : Sy) (T : Tr) (k : Nat) {ρ ρ' : EnvS} (h : ∀ u, leS true (ρ u) (ρ' u)) : leS true (sem M T k ρ) (sem M T k ρ') := by
  induction T generalizing k ρ ρ' with
  | leaf =>
    unfold sem
    split
    · exact leS_refl _ _
    · split
      · exact leS_refl _ _
      · exact setOf_sub fun x _ hx => h _ x hx
  | one a ih =>
    have h1 := ih (k + 1) h
    unfold sem
    split
    · refine setOf_sub fun x _ hx => ?_
      rw [List.any_eq_true] at hx ⊢
      obtain ⟨y, hy, g⟩ := hx
      exact ⟨y, hy, h1 y g⟩
    · split
      · refine setOf_sub fun x _ hx => ?_
        rw [List.all_eq_true] at hx ⊢
        exact fun y hy => h1 y (hx y hy)
      · exact apF_mono (fun s t hst => ih (k + 1) (upE_sub h _ hst)) _
  | two a b iha ihb =>
    have h1 := iha (k + 1) h
    have h2 := ihb (k + 1 + a.size) h
    unfold sem
    split
    · refine setOf_sub fun x _ hx => ?_
      rw [Bool.and_eq_true] at hx ⊢
      exact ⟨h1 x hx.1, h2 x hx.2⟩
    · refine setOf_sub fun x _ hx => ?_
      rw [Bool.or_eq_true] at hx ⊢
      exact hx.imp (h1 x) (h2 x)
theorem sem_le (M : Sy) (T : Tr) (k : Nat) {b : Bool} {ρ ρ' : EnvS} (h : ∀ u, leS b (ρ u) (ρ' u)) : leS b (sem M T k ρ) (sem M T k ρ') := by
  cases b
  · exact sem_mono M T k (ρ := ρ') (ρ' := ρ) fun u => h u
  · exact sem_mono M T k h
theorem bodyF_len (M : Sy) (a : Tr) (k : Nat) (ρ : EnvS) (X : List Bool) : (bodyF M a k ρ X).length = M.N := sem_len _ _ _ _
theorem bodyF_mono (M : Sy) (a : Tr) (k : Nat) (ρ : EnvS) : ∀ s t, leS true s t → leS true (bodyF M a k ρ s) (bodyF M a k ρ t) := fun s t h => sem_mono M a (k + 1) (upE_sub (fun u => leS_refl _ _) _ h)
theorem bodyF_le (M : Sy) (a : Tr) (k : Nat) {b : Bool} {ρ ρ' : EnvS} (h : ∀ u, leS b (ρ u) (ρ' u)) {s t : List Bool} (hs : leS b s t) : leS b (bodyF M a k ρ s) (bodyF M a k ρ' t) := sem_le M a (k + 1) (upE_sub h _ hs)
theorem sem_fix {M : Sy} {a : Tr} {k : Nat} {ρ : EnvS} (h : isFx (M.q k) = true) : sem M (.one a) k ρ = fixF M.N (decide (M.q k = 7)) (bodyF M a k ρ) := by
  unfold sem
  unfold isFx at h
  simp only [Bool.or_eq_true, decide_eq_true_eq] at h
  rw [if_neg (by omega), if_neg (by omega)]
  rfl

/-- The variables that are not bound within a part. -/
def free (M : Sy) : Tr → Nat → Int → Prop
  | .leaf, k, u => M.q k ≠ 0 ∧ M.q k ≠ 1 ∧ u = M.v k
  | .one a, k, u => free M a (k + 1) u ∧ ((M.q k = 4 ∨ M.q k = 5) ∨ u ≠ M.v k)
  | .two a b, k, u => free M a (k + 1) u ∨ free M b (k + 1 + a.size) u
theorem sem_congr (M : Sy) (T : Tr) (k : Nat) {ρ ρ' : EnvS} (h : ∀ u, free M T k u → ρ u = ρ' u) : sem M T k ρ = sem M T k ρ' := by
  induction T generalizing k ρ ρ' with
  | leaf =>
    unfold sem
    split
    · rfl
    · split
      · rfl
      · rename_i h0 h1
        rw [h _ ⟨h0, h1, rfl⟩]
  | one a ih =>
    unfold sem
    split
    · rename_i h0
      rw [ih (k + 1) fun u hu => h u ⟨hu, .inl (.inl h0)⟩]
    · split
      · rename_i h0 h1
        rw [ih (k + 1) fun u hu => h u ⟨hu, .inl (.inr h1)⟩]
      · refine apF_congr (fun s => ih (k + 1) fun u hu => ?_) _
        unfold upE
        split
        · rfl
        · rename_i hne
          exact h u ⟨hu, .inr hne⟩
  | two a b iha ihb =>
    unfold sem
    rw [iha (k + 1) fun u hu => h u (.inl hu), ihb (k + 1 + a.size) fun u hu => h u (.inr hu)]

end Go.Proofs.YtanlgnjgpbjebaaGreatDoor

namespace Go.Proofs.YtanlgnjgpbjebaaGreatDoor
set_option linter.unusedVariables false
set_option linter.unusedSimpArgs false

def arityQ (q : Int) : Nat := if q = 2 ∨ q = 3 then 2 else if q = 4 ∨ q = 5 ∨ q = 7 ∨ q = 8 then 1 else 0
def AtT (q : Nat → Int) : Tr → Nat → Prop
  | .leaf, k => arityQ (q k) = 0
  | .one a, k => arityQ (q k) = 1 ∧ AtT q a (k + 1)
  | .two a b, k => arityQ (q k) = 2 ∧ AtT q a (k + 1) ∧ AtT q b (k + 1 + a.size)
theorem arity_fx {q : Int} (h : isFx q = true) : arityQ q = 1 := by
  unfold isFx at h; unfold arityQ
  simp only [Bool.or_eq_true, decide_eq_true_eq] at h
  rw [if_neg (by omega), if_pos (by omega)]
theorem arity_one {q : Int} (h : arityQ q = 1) : q = 4 ∨ q = 5 ∨ q = 7 ∨ q = 8 := by
  unfold arityQ at h
  split at h
  · omega
  · split at h
    · assumption
    · omega
theorem arity_two {q : Int} (h : arityQ q = 2) : q = 2 ∨ q = 3 := by
  unfold arityQ at h
  split at h
  · assumption
  · split at h <;> omega
theorem arity_zero {q : Int} (h : arityQ q = 0) (h0 : 0 ≤ q) (h8 : q ≤ 8) : q = 0 ∨ q = 1 ∨ q = 6 := by
  unfold arityQ at h
  split at h
  · omega
  · split at h
    · omega
    · omega
theorem not_fx {q : Int} (h : arityQ q = 1) (g : ¬ isFx q = true) : q = 4 ∨ q = 5 := by
  unfold isFx at g
  simp only [Bool.or_eq_true, decide_eq_true_eq] at g
  rcases arity_one h with h | h | h | h <;> omega

/-- For whom a set of states stands: player 0 for its states, player 1 for the others. -/
def satO (N : Nat) (o : Int) (s : List Bool) (x : Nat) : Prop := x < N ∧ inS s x = decide (o = 0)
def isL (o q : Int) : Bool := (decide (o = 0) && decide (q = 7)) || (decide (o = 1) && decide (q = 8))
/-- A stage of a fixed point that the player must not unfold for ever, and the whole of another one. -/
def apV (M : Sy) (o : Int) (a : Tr) (k : Nat) (ρ : EnvS) (n : Nat) : List Bool :=
  if isL o (M.q k) then apF M.N (decide (M.q k = 7)) (bodyF M a k ρ) n else fixF M.N (decide (M.q k = 7)) (bodyF M a k ρ)
def Win (M : Sy) (o : Int) : Tr → Nat → EnvS → Nat → Nat → List Nat → Prop
  | .leaf, k, ρ, j, x, s => j = k ∧ s = [] ∧ satO M.N o (sem M .leaf k ρ) x
  | .one a, k, ρ, j, x, s =>
    (isFx (M.q k) = true ∧ ∃ n s', s = n :: s' ∧ n ≤ M.N ∧
      ((j = k ∧ s' = [] ∧ satO M.N o (apV M o a k ρ n) x) ∨ Win M o a (k + 1) (upE ρ (M.v k) (apV M o a k ρ n)) j x s'))
    ∨ (isFx (M.q k) = false ∧ ((j = k ∧ s = [] ∧ satO M.N o (sem M (.one a) k ρ) x) ∨ Win M o a (k + 1) ρ j x s))
  | .two a b, k, ρ, j, x, s => (j = k ∧ s = [] ∧ satO M.N o (sem M (.two a b) k ρ) x) ∨ Win M o a (k + 1) ρ j x s ∨ Win M o b (k + 1 + a.size) ρ j x s
section
variable {M : Sy} {o : Int}
theorem Win.range {T : Tr} {k : Nat} {ρ : EnvS} {j x : Nat} {s : List Nat} (h : Win M o T k ρ j x s) : k ≤ j ∧ j < k + T.size ∧ x < M.N := by
  induction T generalizing k ρ s with
  | leaf => obtain ⟨rfl, -, g⟩ := h; exact ⟨Nat.le_refl _, by simp only [Tr.size]; omega, g.1⟩
  | one a ih =>
    simp only [Tr.size]
    rcases h with ⟨-, n, s', -, -, ⟨rfl, -, g⟩ | h⟩ | ⟨-, ⟨rfl, -, g⟩ | h⟩
    · exact ⟨Nat.le_refl _, by omega, g.1⟩
    · have := ih h; exact ⟨by omega, by omega, this.2.2⟩
    · exact ⟨Nat.le_refl _, by omega, g.1⟩
    · have := ih h; exact ⟨by omega, by omega, this.2.2⟩
  | two a b iha ihb =>
    simp only [Tr.size]
    rcases h with ⟨rfl, -, g⟩ | h | h
    · exact ⟨Nat.le_refl _, by omega, g.1⟩
    · have := iha h; exact ⟨by omega, by omega, this.2.2⟩
    · have := ihb h; exact ⟨by omega, by omega, this.2.2⟩
theorem Win.bound {T : Tr} {k : Nat} {ρ : EnvS} {j x : Nat} {s : List Nat} (h : Win M o T k ρ j x s) : ∀ c, c ∈ s → c < M.N + 1 := by
  induction T generalizing k ρ s with
  | leaf => obtain ⟨-, rfl, -⟩ := h; intro c hc; cases hc
  | one a ih =>
    rcases h with ⟨-, n, s', rfl, hn, ⟨-, rfl, -⟩ | h⟩ | ⟨-, ⟨-, rfl, -⟩ | h⟩
    · intro c hc; rw [List.mem_singleton] at hc; omega
    · intro c hc
      rcases List.mem_cons.1 hc with rfl | hc
      · omega
      · exact ih h c hc
    · intro c hc; cases hc
    · exact ih h
  | two a b iha ihb =>
    rcases h with ⟨-, rfl, -⟩ | h | h
    · intro c hc; cases hc
    · exact iha h
    · exact ihb h
/-- How many fixed points stand around a node, itself among them. -/
def depT (M : Sy) : Tr → Nat → Nat → Nat
  | .leaf, _, _ => 0
  | .one a, k, j => (if isFx (M.q k) then 1 else 0) + (if j = k then 0 else depT M a (k + 1) j)
  | .two a b, k, j => if j = k then 0 else if j < k + 1 + a.size then depT M a (k + 1) j else depT M b (k + 1 + a.size) j
theorem depT_le (T : Tr) (k j : Nat) : depT M T k j ≤ T.size := by
  induction T generalizing k with
  | leaf => simp [depT]
  | one a ih =>
    have := ih (k + 1)
    simp only [depT, Tr.size]
    repeat' split
    all_goals omega
  | two a b iha ihb =>
    have h1 := iha (k + 1)
    have h2 := ihb (k + 1 + a.size)
    simp only [depT, Tr.size]
    repeat' split
    all_goals omega
theorem Win.len {T : Tr} {k : Nat} {ρ : EnvS} {j x : Nat} {s : List Nat} (h : Win M o T k ρ j x s) : s.length = depT M T k j := by
  induction T generalizing k ρ s with
  | leaf => obtain ⟨-, rfl, -⟩ := h; rfl
  | one a ih =>
    unfold depT
    rcases h with ⟨hf, n, s', rfl, hn, ⟨rfl, rfl, -⟩ | h⟩ | ⟨hf, ⟨rfl, rfl, -⟩ | h⟩
    · simp [hf]
    · have h1 := h.range
      rw [if_pos hf, if_neg (by omega), List.length_cons, ih h, Nat.add_comm]
    · simp [hf]
    · have h1 := h.range
      rw [if_neg (by rw [hf]; decide), if_neg (by omega), ih h, Nat.zero_add]
  | two a b iha ihb =>
    unfold depT
    rcases h with ⟨rfl, rfl, -⟩ | h | h
    · rw [if_pos rfl]; rfl
    · have h1 := h.range
      rw [if_neg (by omega), if_pos (by omega), iha h]
    · have h1 := h.range
      rw [if_neg (by omega), if_neg (by omega), ihb h]

/-- The part at a place, and the sets of the variables there. -/
def subT : Tr → Nat → Nat → Tr
  | .leaf, _, _ => .leaf
  | .one a, k, j => if j = k then .one a else subT a (k + 1) j
  | .two a b, k, j => if j = k then .two a b else if j < k + 1 + a.size then subT a (k + 1) j else subT b (k + 1 + a.size) j
def envT (M : Sy) : Tr → Nat → EnvS → Nat → EnvS
  | .leaf, _, ρ, _ => ρ
  | .one a, k, ρ, j => if j = k then ρ else envT M a (k + 1) (if isFx (M.q k) then upE ρ (M.v k) (fixF M.N (decide (M.q k = 7)) (bodyF M a k ρ)) else ρ) j
  | .two a b, k, ρ, j => if j = k then ρ else if j < k + 1 + a.size then envT M a (k + 1) ρ j else envT M b (k + 1 + a.size) ρ j
theorem subT_self (T : Tr) (k : Nat) : subT T k k = T := by cases T <;> simp [subT]
theorem envT_self (T : Tr) (k : Nat) (ρ : EnvS) : envT M T k ρ k = ρ := by cases T <;> simp [envT]
theorem AtT.sub {q : Nat → Int} {T : Tr} {k j : Nat} (h : AtT q T k) (h1 : k ≤ j) (h2 : j < k + T.size) : AtT q (subT T k j) j := by
  induction T generalizing k with
  | leaf => have : j = k := by simp only [Tr.size] at h2; omega
            subst this; exact h
  | one a ih =>
    unfold subT
    split
    · rename_i e; subst e; exact h
    · exact ih h.2 (by omega) (by simp only [Tr.size] at h2; omega)
  | two a b iha ihb =>
    unfold subT
    split
    · rename_i e; subst e; exact h
    · split
      · exact iha h.2.1 (by omega) (by omega)
      · exact ihb h.2.2 (by omega) (by simp only [Tr.size] at h2; omega)
/-- A stage that is the whole. -/
theorem apV_whole (M : Sy) (o : Int) (a : Tr) (k : Nat) (ρ : EnvS) : apV M o a k ρ M.N = fixF M.N (decide (M.q k = 7)) (bodyF M a k ρ) := by
  unfold apV; split <;> rfl
theorem Win.at_ {T : Tr} {k : Nat} {ρ : EnvS} {j x : Nat} (h1 : k ≤ j) (h2 : j < k + T.size) (h : satO M.N o (sem M (subT T k j) j (envT M T k ρ j)) x) : ∃ s, Win M o T k ρ j x s := by
  induction T generalizing k ρ with
  | leaf => have : j = k := by simp only [Tr.size] at h2; omega
            subst this; exact ⟨[], rfl, rfl, h⟩
  | one a ih =>
    simp only [Tr.size] at h2
    unfold subT envT at h
    by_cases hj : j = k
    · subst hj
      rw [if_pos rfl, if_pos rfl] at h
      cases hf : isFx (M.q j) with
      | true => exact ⟨[M.N], .inl ⟨hf, M.N, [], rfl, Nat.le_refl _, .inl ⟨rfl, rfl, by rw [apV_whole, ← sem_fix hf]; exact h⟩⟩⟩
      | false => exact ⟨[], .inr ⟨hf, .inl ⟨rfl, rfl, h⟩⟩⟩
    · rw [if_neg hj, if_neg hj] at h
      cases hf : isFx (M.q k) with
      | true =>
        rw [hf, if_pos rfl] at h
        obtain ⟨s, g⟩ := ih (by omega) (by omega) h
        exact ⟨M.N :: s, .inl ⟨hf, M.N, s, rfl, Nat.le_refl _, .inr (by rw [apV_whole]; exact g)⟩⟩
      | false =>
        rw [hf, if_neg (by decide)] at h
        obtain ⟨s, g⟩ := ih (by omega) (by omega) h
        exact ⟨s, .inr ⟨hf, .inr g⟩⟩
  | two a b iha ihb =>
    simp only [Tr.size] at h2
    unfold subT envT at h
    by_cases hj : j = k
    · subst hj
      rw [if_pos rfl, if_pos rfl] at h
      exact ⟨[], .inl ⟨rfl, rfl, h⟩⟩
    · rw [if_neg hj, if_neg hj] at h
      by_cases hl : j < k + 1 + a.size
      · rw [if_pos hl, if_pos hl] at h
        obtain ⟨s, g⟩ := iha (by omega) (by omega) h
        exact ⟨s, .inr (.inl g)⟩
      · rw [if_neg hl, if_neg hl] at h
        obtain ⟨s, g⟩ := ihb (by omega) (by omega) h
        exact ⟨s, .inr (.inr g)⟩
theorem Win.start {T : Tr} {k : Nat} {ρ : EnvS} {x : Nat} (h : satO M.N o (sem M T k ρ) x) : ∃ s, Win M o T k ρ k x s :=
  Win.at_ (Nat.le_refl _) (by have := T.size_pos; omega) (by rw [subT_self, envT_self]; exact h)

/-- What holds at a place within a part holds in the part at this place alone. -/
theorem Win.sub {T : Tr} {k : Nat} {ρ : EnvS} {j x : Nat} {s : List Nat} (h : Win M o T k ρ j x s) :
    ∃ ρ' r t, s = r ++ t ∧ Win M o (subT T k j) j ρ' j x t ∧ ∀ i y u, Win M o (subT T k j) j ρ' i y u → Win M o T k ρ i y (r ++ u) := by
  induction T generalizing k ρ s with
  | leaf => obtain ⟨rfl, g⟩ := h; exact ⟨ρ, [], s, rfl, ⟨rfl, g⟩, fun i y u hu => hu⟩
  | one a ih =>
    by_cases hj : j = k
    · subst hj
      rw [subT_self]
      exact ⟨ρ, [], s, rfl, h, fun i y u hu => hu⟩
    · unfold subT
      rw [if_neg hj]
      rcases h with ⟨hf, n, s', rfl, hn, ⟨rfl, -, -⟩ | h⟩ | ⟨hf, ⟨rfl, -, -⟩ | h⟩
      · exact absurd rfl hj
      · obtain ⟨ρ', r, t, rfl, g1, g2⟩ := ih h
        exact ⟨ρ', n :: r, t, rfl, g1, fun i y u hu => .inl ⟨hf, n, r ++ u, rfl, hn, .inr (g2 i y u hu)⟩⟩
      · exact absurd rfl hj
      · obtain ⟨ρ', r, t, rfl, g1, g2⟩ := ih h
        exact ⟨ρ', r, t, rfl, g1, fun i y u hu => .inr ⟨hf, .inr (g2 i y u hu)⟩⟩
  | two a b iha ihb =>
    by_cases hj : j = k
    · subst hj
      rw [subT_self]
      exact ⟨ρ, [], s, rfl, h, fun i y u hu => hu⟩
    · unfold subT
      rw [if_neg hj]
      rcases h with ⟨rfl, -, -⟩ | h | h
      · exact absurd rfl hj
      · have hr := h.range
        rw [if_pos (by omega)]
        obtain ⟨ρ', r, t, rfl, g1, g2⟩ := iha h
        exact ⟨ρ', r, t, rfl, g1, fun i y u hu => .inr (.inl (g2 i y u hu))⟩
      · have hr := h.range
        rw [if_neg (by omega)]
        obtain ⟨ρ', r, t, rfl, g1, g2⟩ := ihb h
        exact ⟨ρ', r, t, rfl, g1, fun i y u hu => .inr (.inr (g2 i y u hu))⟩

/-- The node that binds a variable, within a part. -/
def bndT (M : Sy) : Tr → Nat → Nat → Option Nat
  | .leaf, _, _ => none
  | .one a, k, j => if j = k then none else match bndT M a (k + 1) j with
    | some i => some i
    | none => if isFx (M.q k) = true ∧ M.v k = M.v j then some k else none
  | .two a b, k, j => if j = k then none else if j < k + 1 + a.size then bndT M a (k + 1) j else bndT M b (k + 1 + a.size) j
theorem bnd_fx {T : Tr} {k j i : Nat} (h : bndT M T k j = some i) : isFx (M.q i) = true ∧ k ≤ i := by
  induction T generalizing k with
  | leaf => cases h
  | one a ih =>
    unfold bndT at h
    split at h
    · cases h
    · split at h
      · rename_i i' hi
        cases h
        have := ih hi
        exact ⟨this.1, by omega⟩
      · split at h
        · rename_i hc
          cases h
          exact ⟨hc.1, Nat.le_refl _⟩
        · cases h
  | two a b iha ihb =>
    unfold bndT at h
    split at h
    · cases h
    · split at h
      · have := iha h; exact ⟨this.1, by omega⟩
      · have := ihb h; exact ⟨this.1, by omega⟩
/-- A variable leads back to its fixed point, at the stage that was left. -/
theorem Win.var {T : Tr} {k : Nat} {ρ : EnvS} {j x : Nat} {s : List Nat} (hA : AtT M.q T k) (h : Win M o T k ρ j x s) (hq : M.q j = 6) :
    match bndT M T k j with
    | none => satO M.N o (ρ (M.v j)) x
    | some i => ∃ s1 e, s = s1 ++ e ∧ Win M o T k ρ i x s1 := by
  induction T generalizing k ρ s with
  | leaf =>
    obtain ⟨rfl, -, g1, g2⟩ := h
    unfold sem at g2
    rw [if_neg (by omega), if_neg (by omega), inS_setOf] at g2
    exact ⟨g1, by rw [← g2]; simp [g1]⟩
  | one a ih =>
    have ha : arityQ (M.q k) = 1 := hA.1
    have hj : j ≠ k := by
      rintro rfl
      rw [hq] at ha
      cases ha
    unfold bndT
    rw [if_neg hj]
    rcases h with ⟨hf, n, s', rfl, hn, ⟨e, -, -⟩ | h⟩ | ⟨hf, ⟨e, -, -⟩ | h⟩
    · exact absurd e hj
    · have h1 := ih hA.2 h
      cases hb : bndT M a (k + 1) j with
      | some i =>
        rw [hb] at h1
        obtain ⟨s1, e, rfl, g⟩ := h1
        exact ⟨n :: s1, e, rfl, .inl ⟨hf, n, s1, rfl, hn, .inr g⟩⟩
      | none =>
        rw [hb] at h1
        unfold upE at h1
        by_cases hv : M.v k = M.v j
        · dsimp only
          rw [if_pos ⟨hf, hv⟩]
          dsimp only at h1
          rw [if_pos hv.symm] at h1
          exact ⟨[n], s', rfl, .inl ⟨hf, n, [], rfl, hn, .inl ⟨rfl, rfl, h1⟩⟩⟩
        · dsimp only
          rw [if_neg fun c => hv c.2]
          dsimp only at h1
          rw [if_neg fun c => hv c.symm] at h1
          exact h1
    · exact absurd e hj
    · have h1 := ih hA.2 h
      cases hb : bndT M a (k + 1) j with
      | some i =>
        rw [hb] at h1
        obtain ⟨s1, e, rfl, g⟩ := h1
        exact ⟨s1, e, rfl, .inr ⟨hf, .inr g⟩⟩
      | none =>
        rw [hb] at h1
        dsimp only
        rw [if_neg fun c => by rw [hf] at c; cases c.1]
        exact h1
  | two a b iha ihb =>
    have ha : arityQ (M.q k) = 2 := hA.1
    have hj : j ≠ k := by
      rintro rfl
      rw [hq] at ha
      cases ha
    unfold bndT
    rw [if_neg hj]
    rcases h with ⟨e, -, -⟩ | h | h
    · exact absurd e hj
    · have hr := h.range
      rw [if_pos (by omega)]
      have h1 := iha hA.2.1 h
      split at h1
      · rename_i hb; exact h1
      · rename_i i hb
        obtain ⟨s1, e, rfl, g⟩ := h1
        exact ⟨s1, e, rfl, .inr (.inl g)⟩
    · have hr := h.range
      rw [if_neg (by omega)]
      have h1 := ihb hA.2.2 h
      split at h1
      · rename_i hb; exact h1
      · rename_i i hb
        obtain ⟨s1, e, rfl, g⟩ := h1
        exact ⟨s1, e, rfl, .inr (.inr g)⟩

/-! Moves -/
def secT (T : Tr) (k j : Nat) : Nat := match subT T k j with
  | .two a _ => j + 1 + a.size
  | _ => j + 1
theorem secT_lt (T : Tr) (k j : Nat) : j < secT T k j := by unfold secT; split <;> omega
def ownT (M : Sy) (T : Tr) (k : Nat) (ρ : EnvS) (j x : Nat) : Int :=
  if M.q j = 0 ∨ M.q j = 2 ∨ M.q j = 5 then 1
  else if M.q j = 6 ∧ bndT M T k j = none then (if inS (ρ (M.v j)) x then 1 else 0)
  else 0
def movT (M : Sy) (T : Tr) (k j x : Nat) : List (Nat × Nat) :=
  if M.q j = 2 ∨ M.q j = 3 then [(j + 1, x), (secT T k j, x)]
  else if M.q j = 4 ∨ M.q j = 5 then (M.sc j x).map fun y => (j + 1, y)
  else if M.q j = 7 ∨ M.q j = 8 then [(j + 1, x)]
  else if M.q j = 6 then (match bndT M T k j with | some i => [(i, x)] | none => [])
  else []
/-- How a signature goes on. -/
def StT (M : Sy) (o : Int) (j : Nat) (s s' : List Nat) : Prop :=
  if isFx (M.q j) = true then (if isL o (M.q j) = true then ∃ r n e, s = r ++ [n + 1] ∧ s' = r ++ n :: e else ∃ e, s' = s ++ e)
  else if M.q j = 6 then ∃ e, s = s' ++ e
  else ∃ e, s' = s ++ e
theorem Win.step {T : Tr} {k : Nat} {ρ : EnvS} {j x : Nat} {s : List Nat} (ho : o = 0 ∨ o = 1) (hA : AtT M.q T k) (h0 : 0 ≤ M.q j) (h8 : M.q j ≤ 8) (hsc : ∀ y, y ∈ M.sc j x → y < M.N) (h : Win M o T k ρ j x s) :
    (ownT M T k ρ j x = o → ∃ m s', m ∈ movT M T k j x ∧ Win M o T k ρ m.1 m.2 s' ∧ StT M o j s s') ∧
    (ownT M T k ρ j x ≠ o → ∀ m, m ∈ movT M T k j x → ∃ s', Win M o T k ρ m.1 m.2 s' ∧ StT M o j s s') := by
  have hr := h.range
  have hAj := hA.sub hr.1 hr.2.1
  by_cases h6 : M.q j = 6
  · have hv := h.var hA h6
    have hnf : ¬ isFx (M.q j) = true := by rw [h6]; decide
    have hm : movT M T k j x = (match bndT M T k j with | some i => [(i, x)] | none => []) := by
      unfold movT
      rw [if_neg (by omega), if_neg (by omega), if_neg (by omega), if_pos h6]
    have hst : ∀ s', StT M o j s s' ↔ ∃ e, s = s' ++ e := fun s' => by
      unfold StT; rw [if_neg hnf, if_pos h6]
    cases hb : bndT M T k j with
    | none =>
      rw [hb] at hv hm
      dsimp only at hv hm
      have hown : ownT M T k ρ j x ≠ o := by
        unfold ownT
        rw [if_neg (by omega), if_pos ⟨h6, hb⟩, hv.2]
        rcases ho with rfl | rfl <;> decide
      exact ⟨fun c => absurd c hown, fun _ m hm' => by rw [hm] at hm'; cases hm'⟩
    | some i =>
      rw [hb] at hv hm
      dsimp only at hv hm
      obtain ⟨s1, e, rfl, g⟩ := hv
      refine ⟨fun _ => ⟨(i, x), s1, by rw [hm]; exact List.mem_singleton.2 rfl, g, (hst _).2 ⟨e, rfl⟩⟩, fun _ m hm' => ?_⟩
      rw [hm] at hm'
      have := List.mem_singleton.1 hm'
      subst this
      exact ⟨s1, g, (hst _).2 ⟨e, rfl⟩⟩
  · obtain ⟨ρ', r, t, rfl, g, hup⟩ := h.sub
    have hst : isFx (M.q j) = false → ∀ s', StT M o j (r ++ t) s' ↔ ∃ e, s' = (r ++ t) ++ e := fun hnf s' => by
      unfold StT; rw [if_neg (by rw [hnf]; decide), if_neg h6]
    have hown : ownT M T k ρ j x = if M.q j = 0 ∨ M.q j = 2 ∨ M.q j = 5 then 1 else 0 := by
      unfold ownT; rw [if_neg (c := M.q j = 6 ∧ _) fun c => h6 c.1]
    have hsec : secT T k j = match subT T k j with | .two a _ => j + 1 + a.size | _ => j + 1 := rfl
    generalize subT T k j = Tj at *
    cases Tj with
    | leaf =>
      obtain ⟨-, rfl, gx, gs⟩ := g
      have hz := arity_zero hAj h0 h8
      have hm : movT M T k j x = [] := by
        unfold movT
        rw [if_neg (by omega), if_neg (by omega), if_neg (by omega), if_neg h6]
      refine ⟨fun c => ?_, fun _ m hm' => by rw [hm] at hm'; cases hm'⟩
      exfalso
      unfold sem at gs
      rcases hz with hz | hz | hz
      · rw [if_pos hz] at gs
        unfold whlS at gs
        rw [inS_setOf] at gs
        rw [hown, if_pos (.inl hz)] at c
        subst c
        simp [gx] at gs
      · rw [if_neg (by omega), if_pos hz] at gs
        unfold whlS at gs
        rw [inS_setOf] at gs
        rw [hown, if_neg (by omega)] at c
        subst c
        simp at gs
      · exact h6 hz
    | one a =>
      have ha : arityQ (M.q j) = 1 := hAj.1
      rcases g with ⟨hf, n, t', rfl, hn, ⟨-, rfl, gx⟩ | g⟩ | ⟨hf, ⟨-, rfl, gx⟩ | g⟩
      · -- a fixed point
        have hq : M.q j = 7 ∨ M.q j = 8 := by
          unfold isFx at hf; simpa using hf
        have hm : movT M T k j x = [(j + 1, x)] := by
          unfold movT
          rw [if_neg (by omega), if_neg (by omega), if_pos hq]
        have main : ∃ s', Win M o T k ρ (j + 1) x s' ∧ StT M o j (r ++ [n]) s' := by
          unfold StT
          simp only [hf, if_true]
          cases hL : isL o (M.q j) with
          | true =>
            have gx2 := gx.2
            unfold apV at gx2
            rw [if_pos hL] at gx2
            cases n with
            | zero =>
              exfalso
              have : inS (whlS M.N (!decide (M.q j = 7))) x = decide (o = 0) := gx2
              unfold whlS at this
              rw [inS_setOf] at this
              unfold isL at hL
              rcases ho with rfl | rfl
              · have : M.q j = 7 := by simpa using hL
                simp_all
              · have : M.q j = 8 := by simpa using hL
                simp_all
            | succ n =>
              obtain ⟨e, he⟩ := Win.start (M := M) (o := o) (T := a) (k := j + 1) (ρ := upE ρ' (M.v j) (apF M.N (decide (M.q j = 7)) (bodyF M a j ρ') n)) (x := x) ⟨gx.1, gx2⟩
              refine ⟨r ++ n :: e, hup _ _ _ (.inl ⟨hf, n, e, rfl, by omega, .inr ?_⟩), ?_⟩
              · unfold apV
                rw [if_pos hL]
                exact he
              · rw [if_pos rfl]
                exact ⟨r, n, e, rfl, rfl⟩
          | false =>
            have gx2 := gx.2
            unfold apV at gx2
            rw [if_neg (by rw [hL]; decide), ← fixF_fix (bodyF_len M a j ρ') (bodyF_mono M a j ρ')] at gx2
            obtain ⟨e, he⟩ := Win.start (M := M) (o := o) (T := a) (k := j + 1) (ρ := upE ρ' (M.v j) (fixF M.N (decide (M.q j = 7)) (bodyF M a j ρ'))) (x := x) ⟨gx.1, gx2⟩
            refine ⟨r ++ n :: e, hup _ _ _ (.inl ⟨hf, n, e, rfl, hn, .inr ?_⟩), ?_⟩
            · unfold apV
              rw [if_neg (by rw [hL]; decide)]
              exact he
            · rw [if_neg (by decide)]
              exact ⟨e, by rw [List.append_assoc]; rfl⟩
        obtain ⟨s', w1, w2⟩ := main
        refine ⟨fun _ => ⟨(j + 1, x), s', by rw [hm]; exact List.mem_singleton.2 rfl, w1, w2⟩, fun _ m hm' => ?_⟩
        rw [hm] at hm'
        have := List.mem_singleton.1 hm'
        subst this
        exact ⟨s', w1, w2⟩
      · have := g.range; omega
      · -- a modality
        have hq := not_fx ha (by rw [hf]; decide)
        have hm : movT M T k j x = (M.sc j x).map fun y => (j + 1, y) := by
          unfold movT
          rw [if_neg (by omega), if_pos hq]
        have down : ∀ y, y ∈ M.sc j x → satO M.N o (sem M a (j + 1) ρ') y → ∃ s', Win M o T k ρ (j + 1) y s' ∧ StT M o j (r ++ []) s' := fun y hy gy => by
          obtain ⟨e, he⟩ := Win.start gy
          exact ⟨r ++ e, hup _ _ _ (.inr ⟨hf, .inr he⟩), (hst hf _).2 ⟨e, by rw [List.append_nil]⟩⟩
        obtain ⟨gx, gs⟩ := gx
        unfold sem at gs
        have mem : ∀ y, y ∈ M.sc j x → (j + 1, y) ∈ movT M T k j x := fun y hy => by rw [hm]; exact List.mem_map_of_mem hy
        have any : (∃ y, y ∈ M.sc j x ∧ satO M.N o (sem M a (j + 1) ρ') y) → ∃ m s', m ∈ movT M T k j x ∧ Win M o T k ρ m.1 m.2 s' ∧ StT M o j (r ++ []) s' := fun ⟨y, hy, gy⟩ => by
          obtain ⟨s', w1, w2⟩ := down y hy gy
          exact ⟨(j + 1, y), s', mem y hy, w1, w2⟩
        have all : (∀ y, y ∈ M.sc j x → satO M.N o (sem M a (j + 1) ρ') y) → ∀ m, m ∈ movT M T k j x → ∃ s', Win M o T k ρ m.1 m.2 s' ∧ StT M o j (r ++ []) s' := fun c m hm' => by
          rw [hm] at hm'
          obtain ⟨y, hy, rfl⟩ := List.mem_map.1 hm'
          exact down y hy (c y hy)
        rcases hq with hq | hq
        · rw [if_pos hq, inS_setOf, decide_eq_true gx, Bool.true_and] at gs
          rw [hown, if_neg (by omega)]
          rcases ho with rfl | rfl
          · refine ⟨fun _ => any ?_, fun c => absurd rfl c⟩
            rw [decide_eq_true rfl, List.any_eq_true] at gs
            obtain ⟨y, hy, gy⟩ := gs
            exact ⟨y, hy, hsc y hy, gy⟩
          · refine ⟨fun c => (by cases c), fun _ => all fun y hy => ⟨hsc y hy, ?_⟩⟩
            have : (M.sc j x).any (inS (sem M a (j + 1) ρ')) = false := gs
            rw [List.any_eq_false] at this
            have := this y hy
            simpa using this
        · rw [if_neg (by omega), if_pos hq, inS_setOf, decide_eq_true gx, Bool.true_and] at gs
          rw [hown, if_pos (.inr (.inr hq))]
          rcases ho with rfl | rfl
          · refine ⟨fun c => (by cases c), fun _ => all fun y hy => ⟨hsc y hy, ?_⟩⟩
            rw [decide_eq_true rfl, List.all_eq_true] at gs
            exact gs y hy
          · refine ⟨fun _ => any ?_, fun c => absurd rfl c⟩
            have : (M.sc j x).all (inS (sem M a (j + 1) ρ')) = false := gs
            rw [List.all_eq_false] at this
            obtain ⟨y, hy, gy⟩ := this
            exact ⟨y, hy, hsc y hy, by simpa using gy⟩
      · have := g.range; omega
    | two a b =>
      have ha : arityQ (M.q j) = 2 := hAj.1
      rcases g with ⟨-, rfl, gx, gs⟩ | g | g
      · have hq := arity_two ha
        have hf : isFx (M.q j) = false := by
          cases e : isFx (M.q j) with
          | false => rfl
          | true => rw [arity_fx e] at ha; cases ha
        have hm : movT M T k j x = [(j + 1, x), (j + 1 + a.size, x)] := by
          unfold movT
          rw [if_pos hq, hsec]
        have downA : satO M.N o (sem M a (j + 1) ρ') x → ∃ s', Win M o T k ρ (j + 1) x s' ∧ StT M o j (r ++ []) s' := fun gy => by
          obtain ⟨e, he⟩ := Win.start gy
          exact ⟨r ++ e, hup _ _ _ (.inr (.inl he)), (hst hf _).2 ⟨e, by rw [List.append_nil]⟩⟩
        have downB : satO M.N o (sem M b (j + 1 + a.size) ρ') x → ∃ s', Win M o T k ρ (j + 1 + a.size) x s' ∧ StT M o j (r ++ []) s' := fun gy => by
          obtain ⟨e, he⟩ := Win.start gy
          exact ⟨r ++ e, hup _ _ _ (.inr (.inr he)), (hst hf _).2 ⟨e, by rw [List.append_nil]⟩⟩
        have any : (satO M.N o (sem M a (j + 1) ρ') x ∨ satO M.N o (sem M b (j + 1 + a.size) ρ') x) → ∃ m s', m ∈ movT M T k j x ∧ Win M o T k ρ m.1 m.2 s' ∧ StT M o j (r ++ []) s' := fun c => by
          rcases c with c | c
          · obtain ⟨s', w1, w2⟩ := downA c
            exact ⟨_, s', by rw [hm]; exact List.mem_cons_self .., w1, w2⟩
          · obtain ⟨s', w1, w2⟩ := downB c
            exact ⟨_, s', by rw [hm]; exact List.mem_cons_of_mem _ (List.mem_cons_self ..), w1, w2⟩
        have all : (satO M.N o (sem M a (j + 1) ρ') x ∧ satO M.N o (sem M b (j + 1 + a.size) ρ') x) → ∀ m, m ∈ movT M T k j x → ∃ s', Win M o T k ρ m.1 m.2 s' ∧ StT M o j (r ++ []) s' := fun c m hm' => by
          rw [hm] at hm'
          rcases List.mem_cons.1 hm' with rfl | hm'
          · exact downA c.1
          · have := List.mem_singleton.1 hm'
            subst this
            exact downB c.2
        unfold sem at gs
        rcases hq with hq | hq
        · rw [if_pos hq, inS_setOf, decide_eq_true gx, Bool.true_and] at gs
          rw [hown, if_pos (.inr (.inl hq))]
          rcases ho with rfl | rfl
          · refine ⟨fun c => (by cases c), fun _ => all ?_⟩
            rw [decide_eq_true rfl, Bool.and_eq_true] at gs
            exact ⟨⟨gx, gs.1⟩, gx, gs.2⟩
          · refine ⟨fun _ => any ?_, fun c => absurd rfl c⟩
            have : (inS (sem M a (j + 1) ρ') x && inS (sem M b (j + 1 + a.size) ρ') x) = false := gs
            rw [Bool.and_eq_false_iff] at this
            exact this.imp (fun c => ⟨gx, c⟩) fun c => ⟨gx, c⟩
        · rw [if_neg (by omega), inS_setOf, decide_eq_true gx, Bool.true_and] at gs
          rw [hown, if_neg (by omega)]
          rcases ho with rfl | rfl
          · refine ⟨fun _ => any ?_, fun c => absurd rfl c⟩
            rw [decide_eq_true rfl, Bool.or_eq_true] at gs
            exact gs.imp (fun c => ⟨gx, c⟩) fun c => ⟨gx, c⟩
          · refine ⟨fun c => (by cases c), fun _ => all ?_⟩
            have : (inS (sem M a (j + 1) ρ') x || inS (sem M b (j + 1 + a.size) ρ') x) = false := gs
            rw [Bool.or_eq_false_iff] at this
            exact ⟨⟨gx, this.1⟩, gx, this.2⟩
      · have := g.range; omega
      · have := g.range; omega
end

end Go.Proofs.YtanlgnjgpbjebaaGreatDoor

namespace Go.Proofs.YtanlgnjgpbjebaaGreatDoor
set_option linter.unusedVariables false
set_option linter.unusedSimpArgs false

abbrev Tab := Nat → List Bool
/-- The saved sets of a part serve: each is below its fixed point and goes up; a is the kind of the fixed point around. -/
def OkR (M : Sy) (sv : Tab) : Tr → Nat → EnvS → Int → Prop
  | .leaf, _, _, _ => True
  | .one a, k, ρ, q =>
    if isFx (M.q k) = true then
      (q = M.q k → sv k ≠ [] → leS (decide (M.q k = 7)) (sv k) (bodyF M a k ρ (sv k)) ∧ leS (decide (M.q k = 7)) (sv k) (fixF M.N (decide (M.q k = 7)) (bodyF M a k ρ)) ∧ OkR M sv a (k + 1) (upE ρ (M.v k) (sv k)) (M.q k))
    else OkR M sv a (k + 1) ρ q
  | .two a b, k, ρ, q => OkR M sv a (k + 1) ρ q ∧ OkR M sv b (k + 1 + a.size) ρ q
/-- The same at all places within, where the fixed points around have their values. -/
def AllR (M : Sy) (sv : Tab) : Tr → Nat → EnvS → Int → Prop
  | .leaf, _, _, _ => True
  | .one a, k, ρ, q =>
    if isFx (M.q k) = true then OkR M sv (.one a) k ρ q ∧ AllR M sv a (k + 1) (upE ρ (M.v k) (fixF M.N (decide (M.q k = 7)) (bodyF M a k ρ))) (M.q k)
    else AllR M sv a (k + 1) ρ q
  | .two a b, k, ρ, q => AllR M sv a (k + 1) ρ q ∧ AllR M sv b (k + 1 + a.size) ρ q
/-- The sets of closed parts are theirs. -/
def CloR (M : Sy) (sv cl : Tab) : Tr → Nat → Prop
  | .leaf, _ => True
  | .one a, k => (isFx (M.q k) = true → cl k ≠ [] → (sv k = [] ∨ sv k = cl k) ∧ ∀ ρ : EnvS, cl k = sem M (.one a) k ρ ∧ AllR M sv a (k + 1) (upE ρ (M.v k) (cl k)) (M.q k)) ∧ CloR M sv cl a (k + 1)
  | .two a b, k => CloR M sv cl a (k + 1) ∧ CloR M sv cl b (k + 1 + a.size)
section
variable {M : Sy}
theorem OkR.frame {sv sv' : Tab} {T : Tr} {k : Nat} {ρ : EnvS} {q : Int} (h : OkR M sv T k ρ q) (e : ∀ j, k ≤ j → j < k + T.size → sv' j = sv j) : OkR M sv' T k ρ q := by
  induction T generalizing k ρ q with
  | leaf => trivial
  | one a ih =>
    simp only [Tr.size] at e
    unfold OkR at h ⊢
    split
    · rename_i hf
      rw [if_pos hf] at h
      rw [e k (Nat.le_refl _) (by omega)]
      intro hq hn
      obtain ⟨h1, h2, h3⟩ := h hq hn
      exact ⟨h1, h2, ih h3 fun j g1 g2 => e j (by omega) (by omega)⟩
    · rename_i hf
      rw [if_neg hf] at h
      exact ih h fun j g1 g2 => e j (by omega) (by omega)
  | two a b iha ihb =>
    simp only [Tr.size] at e
    exact ⟨iha h.1 fun j g1 g2 => e j (by omega) (by omega), ihb h.2 fun j g1 g2 => e j (by omega) (by omega)⟩
theorem OkR.none {sv : Tab} {T : Tr} {k : Nat} {ρ : EnvS} {q : Int} (e : ∀ j, k ≤ j → j < k + T.size → sv j = []) : OkR M sv T k ρ q := by
  induction T generalizing k ρ q with
  | leaf => trivial
  | one a ih =>
    simp only [Tr.size] at e
    unfold OkR
    split
    · intro _ hn
      exact absurd (e k (Nat.le_refl _) (by omega)) hn
    · exact ih fun j g1 g2 => e j (by omega) (by omega)
  | two a b iha ihb =>
    simp only [Tr.size] at e
    exact ⟨iha fun j g1 g2 => e j (by omega) (by omega), ihb fun j g1 g2 => e j (by omega) (by omega)⟩
theorem OkR.mono {sv : Tab} {T : Tr} {k : Nat} {ρ ρ' : EnvS} {q : Int} (h : OkR M sv T k ρ q) (e : ∀ u, leS (decide (q = 7)) (ρ u) (ρ' u)) : OkR M sv T k ρ' q := by
  induction T generalizing k ρ ρ' q with
  | leaf => trivial
  | one a ih =>
    unfold OkR at h ⊢
    split
    · rename_i hf
      rw [if_pos hf] at h
      rintro rfl hn
      obtain ⟨h1, h2, h3⟩ := h rfl hn
      refine ⟨leS_trans h1 (bodyF_le M a k e (leS_refl _ _)), leS_trans h2 ?_, ih h3 (upE_sub e _ (leS_refl _ _))⟩
      have := sem_le M (.one a) k e
      rwa [sem_fix hf, sem_fix hf] at this
    · rename_i hf
      rw [if_neg hf] at h
      exact ih h e
  | two a b iha ihb => exact ⟨iha h.1 e, ihb h.2 e⟩
theorem bodyF_congr {a : Tr} {k : Nat} {ρ ρ' : EnvS} (hf : isFx (M.q k) = true) (e : ∀ u, free M (.one a) k u → ρ u = ρ' u) (X : List Bool) : bodyF M a k ρ X = bodyF M a k ρ' X := by
  refine sem_congr M a (k + 1) fun u hu => ?_
  unfold upE
  split
  · rfl
  · rename_i hne
    exact e u ⟨hu, .inr hne⟩
theorem fixF_congr {a : Tr} {k : Nat} {b : Bool} {ρ ρ' : EnvS} (hf : isFx (M.q k) = true) (e : ∀ u, free M (.one a) k u → ρ u = ρ' u) : fixF M.N b (bodyF M a k ρ) = fixF M.N b (bodyF M a k ρ') :=
  apF_congr (fun s => bodyF_congr hf e s) _
theorem up_congr {a : Tr} {k : Nat} {ρ ρ' : EnvS} (e : ∀ u, free M (.one a) k u → ρ u = ρ' u) (X : List Bool) : ∀ u, free M a (k + 1) u → upE ρ (M.v k) X u = upE ρ' (M.v k) X u := fun u hu => by
  unfold upE
  split
  · rfl
  · rename_i hne
    exact e u ⟨hu, .inr hne⟩
theorem one_free {a : Tr} {k : Nat} {u : Int} (ha : arityQ (M.q k) = 1) (hf : ¬ isFx (M.q k) = true) (h : free M a (k + 1) u) : free M (.one a) k u := ⟨h, .inl (not_fx ha hf)⟩
theorem OkR.congr {sv : Tab} {T : Tr} {k : Nat} {ρ ρ' : EnvS} {q : Int} (hA : AtT M.q T k) (h : OkR M sv T k ρ q) (e : ∀ u, free M T k u → ρ u = ρ' u) : OkR M sv T k ρ' q := by
  induction T generalizing k ρ ρ' q with
  | leaf => trivial
  | one a ih =>
    unfold OkR at h ⊢
    split
    · rename_i hf
      rw [if_pos hf] at h
      intro hq hn
      obtain ⟨h1, h2, h3⟩ := h hq hn
      refine ⟨?_, ?_, ih hA.2 h3 (up_congr e _)⟩
      · rwa [bodyF_congr hf e] at h1
      · rwa [fixF_congr hf e] at h2
    · rename_i hf
      rw [if_neg hf] at h
      exact ih hA.2 h fun u hu => e u (one_free hA.1 hf hu)
  | two a b iha ihb => exact ⟨iha hA.2.1 h.1 fun u hu => e u (.inl hu), ihb hA.2.2 h.2 fun u hu => e u (.inr hu)⟩
theorem AllR.ok {sv : Tab} {T : Tr} {k : Nat} {ρ : EnvS} {q : Int} (h : AllR M sv T k ρ q) : OkR M sv T k ρ q := by
  induction T generalizing k ρ q with
  | leaf => trivial
  | one a ih =>
    unfold AllR at h
    split at h
    · exact h.1
    · rename_i hf
      unfold OkR
      rw [if_neg hf]
      exact ih h
  | two a b iha ihb => exact ⟨iha h.1, ihb h.2⟩
theorem AllR.frame {sv sv' : Tab} {T : Tr} {k : Nat} {ρ : EnvS} {q : Int} (h : AllR M sv T k ρ q) (e : ∀ j, k ≤ j → j < k + T.size → sv' j = sv j) : AllR M sv' T k ρ q := by
  induction T generalizing k ρ q with
  | leaf => trivial
  | one a ih =>
    unfold AllR at h ⊢
    split
    · rename_i hf
      rw [if_pos hf] at h
      exact ⟨h.1.frame e, ih h.2 fun j g1 g2 => e j (by omega) (by simp only [Tr.size]; omega)⟩
    · rename_i hf
      rw [if_neg hf] at h
      exact ih h fun j g1 g2 => e j (by omega) (by simp only [Tr.size]; omega)
  | two a b iha ihb =>
    simp only [Tr.size] at e
    exact ⟨iha h.1 fun j g1 g2 => e j (by omega) (by omega), ihb h.2 fun j g1 g2 => e j (by omega) (by omega)⟩
theorem AllR.none {sv : Tab} {T : Tr} {k : Nat} {ρ : EnvS} {q : Int} (e : ∀ j, k ≤ j → j < k + T.size → sv j = []) : AllR M sv T k ρ q := by
  induction T generalizing k ρ q with
  | leaf => trivial
  | one a ih =>
    unfold AllR
    split
    · exact ⟨OkR.none e, ih fun j g1 g2 => e j (by omega) (by simp only [Tr.size]; omega)⟩
    · exact ih fun j g1 g2 => e j (by omega) (by simp only [Tr.size]; omega)
  | two a b iha ihb =>
    simp only [Tr.size] at e
    exact ⟨iha fun j g1 g2 => e j (by omega) (by omega), ihb fun j g1 g2 => e j (by omega) (by omega)⟩
theorem AllR.congr {sv : Tab} {T : Tr} {k : Nat} {ρ ρ' : EnvS} {q : Int} (hA : AtT M.q T k) (h : AllR M sv T k ρ q) (e : ∀ u, free M T k u → ρ u = ρ' u) : AllR M sv T k ρ' q := by
  induction T generalizing k ρ ρ' q with
  | leaf => trivial
  | one a ih =>
    unfold AllR at h ⊢
    split
    · rename_i hf
      rw [if_pos hf] at h
      refine ⟨h.1.congr hA e, ?_⟩
      rw [← fixF_congr hf e]
      exact ih hA.2 h.2 (up_congr e _)
    · rename_i hf
      rw [if_neg hf] at h
      exact ih hA.2 h fun u hu => e u (one_free hA.1 hf hu)
  | two a b iha ihb => exact ⟨iha hA.2.1 h.1 fun u hu => e u (.inl hu), ihb hA.2.2 h.2 fun u hu => e u (.inr hu)⟩
theorem CloR.frame {sv sv' cl cl' : Tab} {T : Tr} {k : Nat} (h : CloR M sv cl T k) (e : ∀ j, k ≤ j → j < k + T.size → sv' j = sv j ∧ cl' j = cl j) : CloR M sv' cl' T k := by
  induction T generalizing k with
  | leaf => trivial
  | one a ih =>
    simp only [Tr.size] at e
    refine ⟨fun hf hn => ?_, ih h.2 fun j g1 g2 => e j (by omega) (by omega)⟩
    have e0 := e k (Nat.le_refl _) (by omega)
    rw [e0.2] at hn ⊢
    rw [e0.1]
    obtain ⟨h1, h2⟩ := h.1 hf hn
    exact ⟨h1, fun ρ => ⟨(h2 ρ).1, (h2 ρ).2.frame fun j g1 g2 => (e j (by omega) (by omega)).1⟩⟩
  | two a b iha ihb =>
    simp only [Tr.size] at e
    exact ⟨iha h.1 fun j g1 g2 => e j (by omega) (by omega), ihb h.2 fun j g1 g2 => e j (by omega) (by omega)⟩
/-- Saved sets may be thrown away. -/
theorem CloR.clear {sv sv' cl : Tab} {T : Tr} {k : Nat} (h : CloR M sv cl T k) (e : ∀ j, k ≤ j → j < k + T.size → sv' j = []) : CloR M sv' cl T k := by
  induction T generalizing k with
  | leaf => trivial
  | one a ih =>
    simp only [Tr.size] at e
    refine ⟨fun hf hn => ?_, ih h.2 fun j g1 g2 => e j (by omega) (by omega)⟩
    obtain ⟨h1, h2⟩ := h.1 hf hn
    exact ⟨.inl (e k (Nat.le_refl _) (by omega)), fun ρ => ⟨(h2 ρ).1, AllR.none fun j g1 g2 => e j (by omega) (by omega)⟩⟩
  | two a b iha ihb =>
    simp only [Tr.size] at e
    exact ⟨iha h.1 fun j g1 g2 => e j (by omega) (by omega), ihb h.2 fun j g1 g2 => e j (by omega) (by omega)⟩
theorem CloR.none {sv cl : Tab} {T : Tr} {k : Nat} (e : ∀ j, k ≤ j → j < k + T.size → cl j = []) : CloR M sv cl T k := by
  induction T generalizing k with
  | leaf => trivial
  | one a ih =>
    simp only [Tr.size] at e
    exact ⟨fun hf hn => absurd (e k (Nat.le_refl _) (by omega)) hn, ih fun j g1 g2 => e j (by omega) (by omega)⟩
  | two a b iha ihb =>
    simp only [Tr.size] at e
    exact ⟨iha fun j g1 g2 => e j (by omega) (by omega), ihb fun j g1 g2 => e j (by omega) (by omega)⟩

/-- Before a part is evaluated, and behind it. -/
structure PreR (M : Sy) (sv cl : Tab) (T : Tr) (k : Nat) (ρ : EnvS) (q : Int) : Prop where
  ok : OkR M sv T k ρ q
  clo : CloR M sv cl T k
structure PostR (M : Sy) (sv cl sv' cl' : Tab) (T : Tr) (k : Nat) (ρ : EnvS) (q : Int) : Prop where
  all : AllR M sv' T k ρ q
  clo : CloR M sv' cl' T k
  out : ∀ j, ¬ (k ≤ j ∧ j < k + T.size) → sv' j = sv j ∧ cl' j = cl j
theorem PreR.start {sv cl : Tab} {T : Tr} {k : Nat} {ρ : EnvS} {q : Int} (h : ∀ j, sv j = [] ∧ cl j = []) : PreR M sv cl T k ρ q := ⟨OkR.none fun j _ _ => (h j).1, CloR.none fun j _ _ => (h j).2⟩
theorem PostR.pre {sv cl sv' cl' : Tab} {T : Tr} {k : Nat} {ρ : EnvS} {q : Int} (h : PostR M sv cl sv' cl' T k ρ q) : PreR M sv' cl' T k ρ q := ⟨h.all.ok, h.clo⟩
section
variable {sv cl sv' cl' sv2 cl2 : Tab} {a b : Tr} {k : Nat} {ρ : EnvS} {q : Int}
theorem PostR.leaf : PostR M sv cl sv cl .leaf k ρ q := ⟨trivial, trivial, fun j _ => ⟨rfl, rfl⟩⟩
theorem PreR.modal (h : PreR M sv cl (.one a) k ρ q) (hf : isFx (M.q k) = false) : PreR M sv cl a (k + 1) ρ q := by
  have h1 := h.ok
  unfold OkR at h1
  rw [if_neg (by rw [hf]; decide)] at h1
  exact ⟨h1, h.clo.2⟩
theorem PostR.modal (h : PostR M sv cl sv' cl' a (k + 1) ρ q) (hf : isFx (M.q k) = false) : PostR M sv cl sv' cl' (.one a) k ρ q := by
  refine ⟨?_, ⟨fun hn => (by rw [hf] at hn; cases hn), h.clo⟩, fun j hj => h.out j fun c => hj ?_⟩
  · unfold AllR
    rw [if_neg (by rw [hf]; decide)]
    exact h.all
  · simp only [Tr.size]; omega
theorem PreR.left (h : PreR M sv cl (.two a b) k ρ q) : PreR M sv cl a (k + 1) ρ q := ⟨h.ok.1, h.clo.1⟩
theorem PreR.right (h : PreR M sv cl (.two a b) k ρ q) (g : PostR M sv cl sv' cl' a (k + 1) ρ q) : PreR M sv' cl' b (k + 1 + a.size) ρ q :=
  ⟨h.ok.2.frame fun j g1 g2 => (g.out j (by omega)).1, h.clo.2.frame fun j g1 g2 => g.out j (by omega)⟩
theorem PostR.two (g : PostR M sv cl sv' cl' a (k + 1) ρ q) (h : PostR M sv' cl' sv2 cl2 b (k + 1 + a.size) ρ q) : PostR M sv cl sv2 cl2 (.two a b) k ρ q := by
  refine ⟨⟨g.all.frame fun j g1 g2 => (h.out j (by omega)).1, h.all⟩, ⟨g.clo.frame fun j g1 g2 => h.out j (by omega), h.clo⟩, fun j hj => ?_⟩
  simp only [Tr.size] at hj
  have h1 := h.out j (by omega)
  have h2 := g.out j (by omega)
  exact ⟨h1.1.trans h2.1, h1.2.trans h2.2⟩
/-- A closed part that is known. -/
theorem PreR.known (h : PreR M sv cl (.one a) k ρ q) (hf : isFx (M.q k) = true) (hn : cl k ≠ []) : cl k = sem M (.one a) k ρ ∧ PostR M sv cl sv cl (.one a) k ρ q := by
  obtain ⟨h1, h2⟩ := h.clo.1 hf hn
  have h3 := h2 ρ
  refine ⟨h3.1, ?_, h.clo, fun j _ => ⟨rfl, rfl⟩⟩
  have h4 := h3.1
  rw [sem_fix hf] at h4
  unfold AllR
  rw [if_pos hf]
  refine ⟨?_, by rw [← h4]; exact h3.2⟩
  unfold OkR
  rw [if_pos hf]
  intro hq hs
  have h5 : sv k = cl k := h1.resolve_left hs
  rw [h5, h4, fixF_fix (bodyF_len M a k ρ) (bodyF_mono M a k ρ)]
  exact ⟨leS_refl _ _, leS_refl _ _, by rw [← h4]; exact h3.2.ok⟩
/-- The loop of a fixed point. -/
structure LoopR (M : Sy) (sv0 cl0 sv cl : Tab) (a : Tr) (k : Nat) (ρ : EnvS) : Prop where
  len : (sv k).length = M.N
  up : leS (decide (M.q k = 7)) (sv k) (bodyF M a k ρ (sv k))
  low : leS (decide (M.q k = 7)) (sv k) (fixF M.N (decide (M.q k = 7)) (bodyF M a k ρ))
  ok : OkR M sv a (k + 1) (upE ρ (M.v k) (sv k)) (M.q k)
  clo : CloR M sv cl a (k + 1)
  none : cl k = []
  out : ∀ j, ¬ (k ≤ j ∧ j < k + (a.size + 1)) → sv j = sv0 j ∧ cl j = cl0 j
theorem LoopR.start (h : PreR M sv cl (.one a) k ρ q) (hn : cl k = []) (h0 : sv' k = whlS M.N (!decide (M.q k = 7))) (h1 : ∀ j, k < j → j < k + (a.size + 1) → sv' j = []) (h2 : ∀ j, ¬ (k ≤ j ∧ j < k + (a.size + 1)) → sv' j = sv j) : LoopR M sv cl sv' cl a k ρ where
  len := by rw [h0]; exact whlS_len _ _
  up := by rw [h0]; exact whlS_le (bodyF_len _ _ _ _ _)
  low := by rw [h0]; exact whlS_le (fixF_len (bodyF_len _ _ _ _))
  ok := OkR.none fun j g1 g2 => h1 j (by omega) (by omega)
  clo := h.clo.2.clear fun j g1 g2 => h1 j (by omega) (by omega)
  none := hn
  out := fun j hj => ⟨h2 j hj, rfl⟩
theorem LoopR.again (h : PreR M sv cl (.one a) k ρ q) (hf : isFx (M.q k) = true) (hn : cl k = []) (hq : q = M.q k) (hs : sv k ≠ []) (hl : (sv k).length = M.N) : LoopR M sv cl sv cl a k ρ := by
  have h1 := h.ok
  unfold OkR at h1
  rw [if_pos hf] at h1
  obtain ⟨g1, g2, g3⟩ := h1 hq hs
  exact ⟨hl, g1, g2, g3, h.clo.2, hn, fun j _ => ⟨rfl, rfl⟩⟩
variable {sv0 cl0 : Tab}
theorem LoopR.pre (h : LoopR M sv0 cl0 sv cl a k ρ) : PreR M sv cl a (k + 1) (upE ρ (M.v k) (sv k)) (M.q k) := ⟨h.ok, h.clo⟩
theorem LoopR.next (h : LoopR M sv0 cl0 sv cl a k ρ) (g : PostR M sv cl sv' cl' a (k + 1) (upE ρ (M.v k) (sv k)) (M.q k)) (h1 : sv2 k = bodyF M a k ρ (sv k)) (h2 : ∀ j, j ≠ k → sv2 j = sv' j) : LoopR M sv0 cl0 sv2 cl' a k ρ := by
  have gk := g.out k (by omega)
  refine ⟨by rw [h1]; exact bodyF_len _ _ _ _ _, ?_, ?_, ?_, g.clo.frame fun j g1 g2 => ⟨h2 j (by omega), rfl⟩, gk.2.trans h.none, fun j hj => ?_⟩
  · rw [h1]; exact leS_of_sub (bodyF_mono M a k ρ) h.up
  · rw [h1]
    have := leS_of_sub (bodyF_mono M a k ρ) h.low
    rwa [fixF_fix (bodyF_len M a k ρ) (bodyF_mono M a k ρ)] at this
  · rw [h1]
    have e1 : OkR M sv2 a (k + 1) (upE ρ (M.v k) (sv k)) (M.q k) := g.all.ok.frame fun j g1 g2 => h2 j (by omega)
    exact e1.mono (upE_sub (fun u => leS_refl _ _) _ h.up)
  · have e1 := g.out j (by omega)
    have e2 := h.out j hj
    rw [h2 j (by omega)]
    exact ⟨e1.1.trans e2.1, e1.2.trans e2.2⟩
theorem LoopR.done (h : LoopR M sv0 cl0 sv cl a k ρ) (hf : isFx (M.q k) = true) (g : PostR M sv cl sv' cl' a (k + 1) (upE ρ (M.v k) (sv k)) (M.q k)) (e : bodyF M a k ρ (sv k) = sv k) :
    sv' k = sem M (.one a) k ρ ∧ PostR M sv0 cl0 sv' cl' (.one a) k ρ q := by
  have gk := g.out k (by omega)
  have hX := fixF_of (bodyF_len M a k ρ) (bodyF_mono M a k ρ) h.low e
  have hs : sv' k = fixF M.N (decide (M.q k = 7)) (bodyF M a k ρ) := gk.1.trans hX
  refine ⟨by rw [sem_fix hf]; exact hs, ?_, ⟨fun _ hn => absurd (gk.2.trans h.none) hn, g.clo⟩, fun j hj => ?_⟩
  · have ga := g.all
    rw [hX] at ga
    unfold AllR
    rw [if_pos hf]
    refine ⟨?_, ga⟩
    unfold OkR
    rw [if_pos hf]
    intro _ _
    rw [hs, fixF_fix (bodyF_len M a k ρ) (bodyF_mono M a k ρ)]
    exact ⟨leS_refl _ _, leS_refl _ _, ga.ok⟩
  · simp only [Tr.size] at hj
    have e1 := g.out j (by omega)
    have e2 := h.out j (by omega)
    exact ⟨e1.1.trans e2.1, e1.2.trans e2.2⟩
/-- A closed part is noted. -/
theorem PostR.close (h : PostR M sv cl sv' cl' (.one a) k ρ q) (hA : AtT M.q (.one a) k) (hf : isFx (M.q k) = true) (hc : ∀ u, ¬ free M (.one a) k u) (hs : sv' k = sem M (.one a) k ρ) (h1 : cl2 k = sv' k) (h2 : ∀ j, j ≠ k → cl2 j = cl' j) :
    PostR M sv cl sv' cl2 (.one a) k ρ q := by
  refine ⟨h.all, ⟨fun _ hn => ⟨.inr h1.symm, fun ρ' => ?_⟩, h.clo.2.frame fun j g1 g2 => ⟨rfl, h2 j (by omega)⟩⟩, fun j hj => ?_⟩
  · have hcg : ∀ u, free M (.one a) k u → ρ u = ρ' u := fun u hu => absurd hu (hc u)
    rw [h1, hs]
    refine ⟨sem_congr M (.one a) k hcg, ?_⟩
    have := h.all
    unfold AllR at this
    rw [if_pos hf] at this
    rw [sem_fix hf]
    exact this.2.congr hA.2 (up_congr hcg _)
  · simp only [Tr.size] at hj
    have e := h.out j (by simp only [Tr.size]; omega)
    rw [h2 j (by omega)]
    exact e
end
/-- The kind of the fixed point around a place. -/
def arT (M : Sy) : Tr → Nat → Int → Nat → Int
  | .leaf, _, q, _ => q
  | .one a, k, q, j => if j = k then q else arT M a (k + 1) (if isFx (M.q k) then M.q k else q) j
  | .two a b, k, q, j => if j = k then q else if j < k + 1 + a.size then arT M a (k + 1) q j else arT M b (k + 1 + a.size) q j
/-- Behind a part, all parts within it are ready. -/
theorem PostR.sub {sv cl : Tab} {T : Tr} {k : Nat} {ρ : EnvS} {q : Int} (hA : AllR M sv T k ρ q) (hC : CloR M sv cl T k) {j : Nat} (h1 : k ≤ j) (h2 : j < k + T.size) : AllR M sv (subT T k j) j (envT M T k ρ j) (arT M T k q j) ∧ CloR M sv cl (subT T k j) j := by
  induction T generalizing k ρ q with
  | leaf =>
    have : j = k := by simp only [Tr.size] at h2; omega
    subst this
    exact ⟨trivial, trivial⟩
  | one a ih =>
    simp only [Tr.size] at h2
    unfold subT envT arT
    by_cases hj : j = k
    · subst hj
      rw [if_pos rfl, if_pos rfl, if_pos rfl]
      exact ⟨hA, hC⟩
    · rw [if_neg hj, if_neg hj, if_neg hj]
      unfold AllR at hA
      split at hA
      · rename_i hf
        rw [if_pos hf, if_pos hf]
        exact ih hA.2 hC.2 (by omega) (by omega)
      · rename_i hf
        rw [if_neg hf, if_neg hf]
        exact ih hA hC.2 (by omega) (by omega)
  | two a b iha ihb =>
    simp only [Tr.size] at h2
    unfold subT envT arT
    by_cases hj : j = k
    · subst hj
      rw [if_pos rfl, if_pos rfl, if_pos rfl]
      exact ⟨hA, hC⟩
    · rw [if_neg hj, if_neg hj, if_neg hj]
      by_cases hl : j < k + 1 + a.size
      · rw [if_pos hl, if_pos hl, if_pos hl]
        exact iha hA.1 hC.1 (by omega) (by omega)
      · rw [if_neg hl, if_neg hl, if_neg hl]
        exact ihb hA.2 hC.2 (by omega) (by omega)
end

end Go.Proofs.YtanlgnjgpbjebaaGreatDoor
