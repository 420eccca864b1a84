/-
  Lemmas that the law of this claim leans on. Conditions: sizes.
-/
import Derived.WalkKit
import Derived.ProofKit
import Derived.OpenShut
import Derived.Handy
import Derived.Below
import Derived.Deep.Draws
import Derived.Laws.MakeOwn
import Derived.Test.YtnhomkmfbngmgaaGreatDoorRows
import Derived.LoopTactic
import Derived.Maps.AppendAt
import Derived.Laws.OwnMore
import Derived.OwnWalk
import Derived.Test.YtnhomkmfbngmgaaGreatDoorChecked
import Derived.StillTailTactics
import Derived.Deep.QuietTactic
import Derived.BigQuiet
import Derived.Deep.Slices
import Derived.Deep.Fields
import Derived.ChangeSame
import Derived.ChangeOld
import Derived.Deep.CutBlock
import Derived.Deep.DeepCutAuto
set_option maxHeartbeats 1600000
set_option maxRecDepth 100000
set_option linter.unusedSimpArgs false
set_option linter.unusedVariables false
namespace Go.Proofs.YtnhomkmfbngmgaaGreatDoor
open Go.RowKit
theorem zR {n : Nat} : n ≤ n := Nat.le_refl n
theorem bR {K : Nat} {w : World} : Go.RowKit.Below K w w := Go.RowKit.Below.refl K w
theorem nH {p : Prop} {α : Type} {a : α} (h : a ≠ a) : p := absurd rfl h
theorem cR {w : World} {g : Nat} {cur : Array Value} {t : TypeId} (i : Nat) (h : w.heap[g]? = some (.cells cur t (0, 0))) {v : Value} (hv : cur[i]? = some v := by rfl) : w.cell? ⟨g, i, none⟩ = some v := (cell_of_row _ _ i _ _ (0, 0) h).trans hv
theorem hide {p : Prop} (h : p) : Hid p := h
theorem ret_b {a b : Bool} (h : b = a) : Ending.returned (.bool a) = .returned (.bool b) := by rw [h]
theorem ret_i {k : IntKind} {a b : Int} (h : b = a) : Ending.returned (.int k a) = .returned (.int k b) := by rw [h]
def Sl {α : Type} (size : Nat) (f : α → List Value) (w : World) (lo hi : Nat) (A : Option Addr) (n : Nat) (l : List α) : Prop :=
 l.length = n ∧ (0 < n → ∃ b off, A = some ⟨b, off, none⟩ ∧ lo ≤ b ∧ b < hi ∧ b < w.heap.size ∧
  ∀ (k : Nat) (x : α), l[k]? = some x → ∀ (j : Nat) (u : Value), (f x)[j]? = some u →
   w.cell? ⟨b, off + (k * size + j), none⟩ = some u ∧ w.frozen? ⟨b, off + (k * size + j), none⟩ = false)
section
variable {α : Type} {size : Nat} {f : α → List Value} {w w' : World} {lo hi lo' hi' n : Nat} {A : Option Addr} {l : List α}
theorem Sl.len (h : Sl size f w lo hi A n l) : l.length = n := h.1
theorem Sl.nil_ : Sl size f w lo hi A 0 ([] : List α) := ⟨rfl, fun h => absurd h (by omega)⟩
theorem Sl.at_ (h : Sl size f w lo hi A n l) (hn : 0 < n) : ∃ b off, A = some ⟨b, off, none⟩ ∧ lo ≤ b ∧ b < hi ∧ b < w.heap.size ∧
  ∀ (k : Nat) (x : α), l[k]? = some x → ∀ (j : Nat) (u : Value), (f x)[j]? = some u →
   w.cell? ⟨b, off + (k * size + j), none⟩ = some u ∧ w.frozen? ⟨b, off + (k * size + j), none⟩ = false := h.2 hn
theorem Sl.keep (h : Sl size f w lo hi A n l) (hs : w.heap.size ≤ w'.heap.size) (hk : ∀ b, lo ≤ b → b < hi → b < w.heap.size → w'.heap[b]? = w.heap[b]?) : Sl size f w' lo hi A n l :=
 ⟨h.1, fun hn => by
  obtain ⟨b, off, e, h1, h2, h3, hc⟩ := h.2 hn;refine ⟨b, off, e, h1, h2, by omega, fun k x hx j u hu => ?_⟩;obtain ⟨hc1, hc2⟩ := hc k x hx j u hu;have hb := hk b h1 h2 h3;exact ⟨(World.cell?_of_block (w := w) (by simpa using hb)).trans hc1, (World.frozen?_of_block (w := w) (by simpa using hb)).trans hc2⟩⟩
theorem Sl.below {B : Nat} (h : Sl size f w lo hi A n l) (hb : Below B w w') (hB : hi ≤ B ∨ w.heap.size ≤ B) : Sl size f w' lo hi A n l :=
 h.keep hb.size fun b _ h2 h3 => hb.block b (by omega)
theorem Sl.more (h : Sl size f w lo hi A n l) (h1 : lo' ≤ lo) (h2 : hi ≤ hi') : Sl size f w lo' hi' A n l :=
 ⟨h.1, fun hn => by
  obtain ⟨b, off, e, g1, g2, g3, hc⟩ := h.2 hn;exact ⟨b, off, e, by omega, by omega, g3, hc⟩⟩
theorem Sl.top (h : Sl size f w lo hi A n l) : Sl size f w lo w.heap.size A n l :=
 ⟨h.1, fun hn => by
  obtain ⟨b, off, e, g1, g2, g3, hc⟩ := h.2 hn;exact ⟨b, off, e, by omega, by omega, g3, hc⟩⟩
theorem Sl.drew (h : Sl size f w lo hi A n l) : Sl size f w.drew lo hi A n l := h
theorem Sl.drewN (h : Sl size f w lo hi A n l) (k : Nat) : Sl size f (w.drewN k) lo hi A n l := h
end
def inB (n lo hi : Int) : Bool := decide (lo ≤ n) && decide (n ≤ hi)
def tv (t : Int × Int) : List Value := [.int .i64 t.1, .int .i64 t.2]
def iv (n : Int) : List Value := [.int .i64 n]
abbrev SlT := Sl 2 tv
abbrev SlI := Sl 1 iv
def Fill {α : Type} (size : Nat) (f : α → List Value) (w : World) (B : Nat) (t : TypeId) (n k : Nat) (l : List α) : Prop :=
 ∃ cur : Array Value, w.heap[B]? = some (.cells cur t (0, 0)) ∧ cur.size = n * size ∧
  ∀ (i : Nat) (x : α), i < k → l[i]? = some x → ∀ (j : Nat) (u : Value), (f x)[j]? = some u → cur[i * size + j]? = some u
section
variable {α : Type} {size : Nat} {f : α → List Value} {w w' : World} {B n k : Nat} {t : TypeId} {l : List α}
theorem Fill.start (w : World) (t : TypeId) (cur : Array Value) (n : Nat) (hs : cur.size = n * size) : Fill size f (w.alloc (.cells cur t)) w.heap.size t n 0 l :=
 ⟨cur, heap_alloc_new w _, hs, fun i x hi => absurd hi (by omega)⟩
theorem Fill.lt (h : Fill size f w B t n k l) : B < w.heap.size := by
 obtain ⟨cur, hc, _⟩ := h
 rcases Nat.lt_or_ge B w.heap.size with hl | hl
 ·exact hl
 ·rw [Array.getElem?_eq_none hl] at hc; cases hc
theorem Fill.keep (h : Fill size f w B t n k l) (hb : w'.heap[B]? = w.heap[B]?) : Fill size f w' B t n k l := by
 obtain ⟨cur, hc, r⟩ := h;exact ⟨cur, hb.trans hc, r⟩
theorem Fill.cell (h : Fill size f w B t n k l) {i : Nat} (hi : i < n * size) : ∃ u, w.cell? ⟨B, i, none⟩ = some u := by
 obtain ⟨cur, hc, hs, _⟩ := h;exact ⟨cur[i]'(by omega), by rw [cell_of_row w B i cur t (0, 0) hc, Array.getElem?_eq_getElem (by omega)]⟩
theorem Fill.frozen (h : Fill size f w B t n k l) (i : Nat) : w.frozen? ⟨B, i, none⟩ = false := by
 obtain ⟨cur, hc, hs, _⟩ := h;exact frozen_of_row w B i cur t hc
theorem Fill.step (h : Fill size f w B t n k l) (hlen : ∀ x, (f x).length = size) {x : α} (hx : l[k]? = some x)
  (hs : ∀ cur : Array Value, w.heap[B]? = some (.cells cur t (0, 0)) → cur.size = n * size → ∃ cur', w'.heap[B]? = some (.cells cur' t (0, 0)) ∧ cur'.size = cur.size ∧
   (∀ i, i < k * size → cur'[i]? = cur[i]?) ∧ (∀ j u, (f x)[j]? = some u → cur'[k * size + j]? = some u)) : Fill size f w' B t n (k + 1) l := by
 obtain ⟨cur, hc, hsz, hel⟩ := h;obtain ⟨cur', h1, h2, h3, h4⟩ := hs cur hc hsz;refine ⟨cur', h1, h2.trans hsz, fun i y hi hy j v hv => ?_⟩;have hj : j < size := by rw [← hlen y]; exact (List.getElem?_eq_some_iff.1 hv).1
 rcases Nat.lt_or_ge i k with hlt | hge
 ·have hm : (i + 1) * size ≤ k * size := Nat.mul_le_mul_right _ hlt
  rw [Nat.add_mul] at hm;rw [h3 _ (by omega)];exact hel i y hlt hy j v hv
 ·have : i = k := by omega
  subst this;rw [hx] at hy
  cases hy
  exact h4 j v hv
theorem Fill.done (h : Fill size f w B t n n l) (hl : l.length = n) {lo hi : Nat} (h1 : lo ≤ B) (h2 : B < hi) : Sl size f w lo hi (some ⟨B, 0, none⟩) n l := by
 refine ⟨hl, fun _ => ⟨B, 0, rfl, h1, h2, h.lt, fun k x hx j u hu => ?_⟩⟩;obtain ⟨cur, hc, hs, hel⟩ := h;have hk : k < n := by rw [← hl]; exact (List.getElem?_eq_some_iff.1 hx).1
 rw [Nat.zero_add];exact ⟨(cell_of_row w B _ cur t (0, 0) hc).trans (hel k x hk hx j u hu), frozen_of_row w B _ cur t hc⟩
end
section
variable {w w' : World} {lo hi n : Nat} {A : Option Addr}
theorem SlT.get {l : List (Int × Int)} (h : SlT w lo hi A n l) {k : Nat} (hk : k < n) :
  ∃ b off x y, A = some ⟨b, off, none⟩ ∧ lo ≤ b ∧ b < hi ∧ b < w.heap.size ∧ l[k]? = some (x, y) ∧ w.cell? ⟨b, off + k * 2, none⟩ = some (.int .i64 x) ∧ w.cell? ⟨b, off + k * 2 + 1, none⟩ = some (.int .i64 y) ∧
   w.frozen? ⟨b, off + k * 2, none⟩ = false ∧ w.frozen? ⟨b, off + k * 2 + 1, none⟩ = false := by
 obtain ⟨b, off, e, g1, g2, g3, hc⟩ := h.at_ (by omega);have hl : k < l.length := by rw [h.len]; exact hk
 have h0 := hc k l[k] (List.getElem?_eq_getElem hl) 0 _ rfl;have h1 := hc k l[k] (List.getElem?_eq_getElem hl) 1 _ rfl;rw [← Nat.add_assoc] at h1;exact ⟨b, off, l[k].1, l[k].2, e, g1, g2, g3, List.getElem?_eq_getElem hl, h0.1, h1.1, h0.2, h1.2⟩
theorem SlI.get {l : List Int} (h : SlI w lo hi A n l) {k : Nat} (hk : k < n) :
  ∃ b off x, A = some ⟨b, off, none⟩ ∧ lo ≤ b ∧ b < hi ∧ b < w.heap.size ∧ l[k]? = some x ∧ w.cell? ⟨b, off + k, none⟩ = some (.int .i64 x) ∧ w.frozen? ⟨b, off + k, none⟩ = false := by
 obtain ⟨b, off, e, g1, g2, g3, hc⟩ := h.at_ (by omega);have hl : k < l.length := by rw [h.len]; exact hk
 have h0 := hc k l[k] (List.getElem?_eq_getElem hl) 0 _ rfl;simp only [Nat.mul_one, Nat.add_zero] at h0;exact ⟨b, off, l[k], e, g1, g2, g3, List.getElem?_eq_getElem hl, h0.1, h0.2⟩
end
theorem make_row {P : Program} (t e : TypeId) (i : TypeInfo) (z : Value) (sz n : Nat) (ht : P.underlying t = some (.slice e)) (hi : P.info? e = some i) (hz : i.zero = some z) (hsz : i.size = sz)
  (hby : i.bytes * n ≤ 281474976710656) (hn : n ≤ 9223372036854775807) (W : World) :
  (Instr.makeSlice t (.int .i64 (n : Int)) (.int .i64 (n : Int))).run P W = .ok (.slice (some ⟨W.heap.size, 0, none⟩) n n) (W.alloc (.cells (madeCells z.cells (n * sz)) e)) := by
 have hb : (i.bytes : Int) * (n : Int) ≤ 281474976710656 := by
  rw [← Int.natCast_mul];omega
 have h := run_make (P := P) W t e i z ht hi hz .i64 .i64 n n (by omega) (Int.le_refl _) hb (by omega);rw [Int.toNat_natCast, hsz] at h;exact h
section
variable {α : Type} {f : α → List Value} {w : World} {B n k : Nat} {t : TypeId} {l : List α}
theorem Fill.set1 (h : Fill 1 f w B t n k l) (hk : k < n) (hlen : ∀ x, (f x).length = 1) {x : α} (hx : l[k]? = some x) {u : Value} (hf : f x = [u]) :
  Fill 1 f (w.setCell ⟨B, k, none⟩ u) B t n (k + 1) l :=
 h.step hlen hx fun cur hc hs => ⟨cur.setIfInBounds k u, heap_setCell_same w B k cur t u hc, by simp, fun i hi => Array.getElem?_setIfInBounds_ne (by omega), fun j v hv => by
  rw [hf] at hv
  match j, hv with
  | 0, hv =>
   simp at hv
   subst hv
   simp [Array.getElem?_setIfInBounds]
   omega⟩
end
theorem take_step {α : Type} {l r : List α} {k : Nat} {x y : α} (h : l.take k = r.take k) (hx : l[k]? = some x) (hy : r[k]? = some y) (e : x = y) : l.take (k + 1) = r.take (k + 1) := by
 subst e;rw [List.take_add_one, List.take_add_one, h, hx, hy]
theorem take_stop {α : Type} {l r : List α} {k : Nat} {x y : α} (hx : l[k]? = some x) (hy : r[k]? = some y) (e : x ≠ y) : l ≠ r := by
 rintro rfl;rw [hx] at hy;exact e (Option.some.inj hy)
theorem take_all {α : Type} {l r : List α} {k : Nat} (h : l.take k = r.take k) (hl : l.length = k) (hr : r.length = k) : l = r := by
 rw [List.take_of_length_le (by omega), List.take_of_length_le (by omega)] at h;exact h
structure Only (lo hi : Nat) (w w' : World) : Prop where
 os : w'.os = w.os
 tape : w'.tape = w.tape
 output : w'.output = w.output
 size : w.heap.size ≤ w'.heap.size
 block : ∀ b, b < w.heap.size → b < lo ∨ hi ≤ b → w'.heap[b]? = w.heap[b]?
theorem Only.refl (lo hi : Nat) (w : World) : Only lo hi w w := ⟨rfl, rfl, rfl, zR, fun _ _ _ => rfl⟩
theorem Only.setCell {lo hi : Nat} {a w : World} (h : Only lo hi a w) {p : Addr} (h1 : lo ≤ p.block) (h2 : p.block < hi) (u : Value) : Only lo hi a (w.setCell p u) :=
 ⟨h.os, h.tape, h.output, by simpa [World.setCell] using h.size, fun b hb ho => (Below.heap_setCell w p u b (by omega)).trans (h.block b hb ho)⟩
theorem Only.below {lo hi B : Nat} {a w w' : World} (h : Below B a w) (g : Only lo hi w w') (h1 : B ≤ lo) (h2 : B ≤ w.heap.size) : Below B a w' :=
 h.trans ⟨g.os, g.tape, g.output, g.size, fun b hb => g.block b (by omega) (by omega)⟩
theorem Sl.only {α : Type} {size : Nat} {f : α → List Value} {w w' : World} {lo hi lo' hi' n : Nat} {A : Option Addr} {l : List α} (h : Sl size f w lo hi A n l) (g : Only lo' hi' w w') (hd : hi ≤ lo' ∨ hi' ≤ lo) : Sl size f w' lo hi A n l :=
 h.keep g.size fun b h1 h2 h3 => g.block b h3 (by omega)
section
variable {w : World} {lo hi n b off : Nat}
theorem SlT.put {l : List (Int × Int)} (h : SlT w lo hi (some ⟨b, off, none⟩) n l) {k : Nat} (hk : k < n) (x y : Int) :
  SlT ((w.setCell ⟨b, off + k * 2, none⟩ (.int .i64 x)).setCell ⟨b, off + k * 2 + 1, none⟩ (.int .i64 y)) lo hi (some ⟨b, off, none⟩) n (l.set k (x, y)) := by
 refine ⟨by rw [List.length_set]; exact h.len, fun _ => ?_⟩;obtain ⟨b', off', e, g1, g2, g3, hc⟩ := h.at_ (by omega)
 cases e
 refine ⟨b, off, rfl, g1, g2, by simpa [World.setCell] using g3, fun i z hz j u hu => ?_⟩;have hj : j < 2 := (List.getElem?_eq_some_iff.1 hu).1;have hil : i < l.length := by
  have := (List.getElem?_eq_some_iff.1 hz).1
  rwa [List.length_set] at this
 obtain ⟨hkc0, hkf0⟩ := hc k (l[k]'(by rw [h.len]; exact hk)) (List.getElem?_eq_getElem _) 0 _ rfl;obtain ⟨hkc1, hkf1⟩ := hc k (l[k]'(by rw [h.len]; exact hk)) (List.getElem?_eq_getElem _) 1 _ rfl;have hfr : ∀ (W : World) (p q : Addr) (v : Value), (W.setCell p v).frozen? q = W.frozen? q := fun W p q v => World.frozen?_setCell W p q v
 rw [hfr, hfr]
 by_cases hik : i = k
 ·subst hik
  rw [List.getElem?_set_self hil] at hz
  cases hz
  match j, hu with
  | 0, hu =>
   simp [tv] at hu
   subst hu;simp only [Nat.add_zero] at hkc0 hkf0 ⊢;refine ⟨?_, hkf0⟩;rw [World.cell?_setCell_other _ _ _ _ (by intro e; injection e with _ e _; omega)];exact World.cell?_setCell_same _ _ _ hkc0
  | 1, hu =>
   simp [tv] at hu
   subst hu;rw [← Nat.add_assoc] at hkc1 hkf1 ⊢;refine ⟨?_, hkf1⟩;exact World.cell?_setCell_same _ _ _ ((World.cell?_setCell_other _ _ _ _ (by intro e; injection e with _ e _; omega)).trans hkc1)
 ·rw [List.getElem?_set_ne (by omega)] at hz
  obtain ⟨h1, h2⟩ := hc i z hz j u hu;refine ⟨?_, h2⟩;rw [World.cell?_setCell_other _ _ _ _ (by intro e; injection e with _ e _; omega), World.cell?_setCell_other _ _ _ _ (by intro e; injection e with _ e _; omega)];exact h1
theorem SlI.put {l : List Int} (h : SlI w lo hi (some ⟨b, off, none⟩) n l) {k : Nat} (hk : k < n) (x : Int) :
  SlI (w.setCell ⟨b, off + k, none⟩ (.int .i64 x)) lo hi (some ⟨b, off, none⟩) n (l.set k x) := by
 refine ⟨by rw [List.length_set]; exact h.len, fun _ => ?_⟩;obtain ⟨b', off', e, g1, g2, g3, hc⟩ := h.at_ (by omega)
 cases e
 refine ⟨b, off, rfl, g1, g2, by simpa [World.setCell] using g3, fun i z hz j u hu => ?_⟩;have hj : j < 1 := (List.getElem?_eq_some_iff.1 hu).1;have hil : i < l.length := by
  have := (List.getElem?_eq_some_iff.1 hz).1
  rwa [List.length_set] at this
 obtain ⟨hkc0, hkf0⟩ := hc k (l[k]'(by rw [h.len]; exact hk)) (List.getElem?_eq_getElem _) 0 _ rfl;rw [World.frozen?_setCell]
 by_cases hik : i = k
 ·subst hik
  rw [List.getElem?_set_self hil] at hz
  cases hz
  match j, hu with
  | 0, hu =>
   simp [iv] at hu
   subst hu;simp only [Nat.add_zero, Nat.mul_one] at hkc0 hkf0 ⊢;exact ⟨World.cell?_setCell_same _ _ _ hkc0, hkf0⟩
 ·rw [List.getElem?_set_ne (by omega)] at hz
  obtain ⟨h1, h2⟩ := hc i z hz j u hu;refine ⟨?_, h2⟩;rw [World.cell?_setCell_other _ _ _ _ (by intro e; injection e with _ e _; omega)];exact h1
end
def MapK {α : Type} (g : α → α) (k : Nat) (l L : List α) : Prop := L.length = l.length ∧ (∀ i, i < k → L[i]? = (l[i]?).map g) ∧ ∀ i, k ≤ i → L[i]? = l[i]?
theorem MapK.set {α : Type} {g : α → α} {k : Nat} {l L : List α} (h : MapK g k l L) {x y : α} (hx : L[k]? = some x) (hg : g x = y) : MapK g (k + 1) l (L.set k y) := by
 have hk : k < L.length := (List.getElem?_eq_some_iff.1 hx).1;refine ⟨by rw [List.length_set]; exact h.1, fun i hi => ?_, fun i hi => by rw [List.getElem?_set_ne (by omega)]; exact h.2.2 i (by omega)⟩
 by_cases e : i = k
 ·subst e
  rw [List.getElem?_set_self hk, ← h.2.2 i zR, hx]
  simp [hg]
 ·rw [List.getElem?_set_ne (by omega)]
  exact h.2.1 i (by omega)
open Go.ChangeAt Go.ChangeShapes Go.WideShapes
def Says (b : Bool) (W : World) (e : Ending) (W' : World) : Prop := e = .returned (.bool b) ∧ Below W.heap.size W W'
theorem any_take_succ {α : Type} {G : α → Bool} {l : List α} {k : Nat} {x : α} (h : (l.take k).any G = false) (hx : l[k]? = some x) (hg : G x = false) : (l.take (k + 1)).any G = false := by
 rw [List.take_add_one, hx, List.any_append, h]
 simp [hg]
theorem any_hit {α : Type} {G : α → Bool} {l : List α} {k : Nat} {x : α} (hx : l[k]? = some x) (hg : G x = true) : l.any G = true :=
 List.any_eq_true.2 ⟨x, List.mem_of_getElem? hx, hg⟩
theorem indexFuncI_calls (F : FuncId) (caps : Array Value) (G : Int → Bool) (A : Option Addr) (n c : Nat) (l : List Int) (w : World) (lo hi : Nat) (h : SlI w lo hi A n l) (hn : n ≤ 1048576)
  (hF : ∀ (v : Value) (W : World), Sem.run Tryz.prog (callFunc F (#[v] ++ caps)) W = .ok (.enter F (#[v] ++ caps)) W)
  (hcl : ∀ (v : Int) (W : World), Below w.heap.size w W → Calls Tryz.prog F (#[.int .i64 v] ++ caps) W (Says (G v) W)) :
  Calls Tryz.prog 222 #[.slice A n c, .func (.func F) #[] caps] w fun e w' => ∃ i : Int, e = .returned (.int .i64 i) ∧ decide (0 ≤ i) = l.any G ∧ Below w.heap.size w w' := by
 have hlen := hide h.len;replace hcl := hide hcl;go_enter Tryz.func222, Tryz.ntmps222
 go_wp2
 go_loopw [8] (fun i wr => ∃ k : Nat, k ≤ n ∧ i = .int .i64 k ∧ Below w.heap.size w wr ∧ Hid ((l.take k).any G = false)) (fun i _ => n - (intOf i).toNat)
 case atStart => exact ⟨0, Nat.zero_le _, rfl, bR, rfl⟩
 case round =>
  obtain ⟨k, hk, rfl, hb, ha⟩ := hrel
  by_cases hlt : k < n
  ·obtain ⟨b, off, x, rfl, g1, g2, g3, hx, c0, -⟩ := h.get hlt
   replace c0 := (hb.cell (p := ⟨b, off + k, none⟩) g3).trans c0;have hc := hcl.out x wr hb;replace hx := hide hx;clear h hcl
   by_cases hg : G x = true
   ·rw [hg] at hc
    replace hc := hide hc;have hy := hide (any_hit hx.out hg);clear hg;go_wp2_with fail;refine hc.out.mono ?_;rintro e w1 ⟨rfl, hb1⟩;go_wp2_with fail;go_ret;exact ⟨_, rfl, by rw [hy.out]; simp, hb.trans (hb1.mono hb.size)⟩
   ·replace hg := Bool.eq_false_iff.2 hg
    rw [hg] at hc;replace hc := hide hc;have hy := hide (any_take_succ ha.out hx.out hg);clear hg;go_wp2_with fail;refine hc.out.mono ?_;rintro e w1 ⟨rfl, hb1⟩;go_wp2_with fail;go_roundw
    case rel => exact ⟨k + 1, by omega, by go_num, hb.trans (hb1.mono hb.size), hy⟩
    case measure => simp [intOf]; omega
  ·have hkn : k = n := by omega
   subst hkn;clear hcl
   go_wp2
   go_ret;have hy := ha.out
   rw [List.take_of_length_le (by rw [hlen.out]; exact zR)] at hy;exact ⟨_, rfl, by rw [hy]; decide, hb⟩
theorem containsFuncI_calls (F : FuncId) (caps : Array Value) (G : Int → Bool) (A : Option Addr) (n c : Nat) (l : List Int) (w : World) (lo hi : Nat) (h : SlI w lo hi A n l) (hn : n ≤ 1048576)
  (hF : ∀ (v : Value) (W : World), Sem.run Tryz.prog (callFunc F (#[v] ++ caps)) W = .ok (.enter F (#[v] ++ caps)) W)
  (hcl : ∀ (v : Int) (W : World), Below w.heap.size w W → Calls Tryz.prog F (#[.int .i64 v] ++ caps) W (Says (G v) W)) :
  Calls Tryz.prog 151 #[.slice A n c, .func (.func F) #[] caps] w (Says (l.any G) w) := by
 have q := hide (indexFuncI_calls F caps G A n c l w lo hi h hn hF hcl);clear h hF hcl;go_enter Tryz.func151, Tryz.ntmps151;go_wp2_with fail;refine q.out.mono ?_;rintro e w1 ⟨i, rfl, hi, hb⟩;replace hi := hide hi;go_wp2_with fail;go_ret;exact ⟨ret_b hi.out.symm, hb⟩
theorem indexFuncM_calls (F : FuncId) (caps : Array Value) (G : Int → Bool) (A : Option Addr) (n c : Nat) (l : List Int) (w : World) (lo hi : Nat) (h : SlI w lo hi A n l) (hn : n ≤ 1048576)
  (hF : ∀ (v : Value) (W : World), Sem.run Tryz.prog (callFunc F (#[v] ++ caps)) W = .ok (.enter F (#[v] ++ caps)) W)
  (hcl : ∀ (v : Int), v ∈ l → ∀ (W : World), Below w.heap.size w W → Calls Tryz.prog F (#[.int .i64 v] ++ caps) W (Says (G v) W)) :
  Calls Tryz.prog 222 #[.slice A n c, .func (.func F) #[] caps] w fun e w' => ∃ i : Int, e = .returned (.int .i64 i) ∧ decide (0 ≤ i) = l.any G ∧ Below w.heap.size w w' := by
 have hlen := hide h.len;replace hcl := hide hcl;go_enter Tryz.func222, Tryz.ntmps222
 go_wp2
 go_loopw [8] (fun i wr => ∃ k : Nat, k ≤ n ∧ i = .int .i64 k ∧ Below w.heap.size w wr ∧ Hid ((l.take k).any G = false)) (fun i _ => n - (intOf i).toNat)
 case atStart => exact ⟨0, Nat.zero_le _, rfl, bR, rfl⟩
 case round =>
  obtain ⟨k, hk, rfl, hb, ha⟩ := hrel
  by_cases hlt : k < n
  ·obtain ⟨b, off, x, rfl, g1, g2, g3, hx, c0, -⟩ := h.get hlt
   replace c0 := (hb.cell (p := ⟨b, off + k, none⟩) g3).trans c0;have hc := hcl.out x (List.mem_of_getElem? hx) wr hb;replace hx := hide hx;clear h hcl
   by_cases hg : G x = true
   ·rw [hg] at hc
    replace hc := hide hc;have hy := hide (any_hit hx.out hg);clear hg;go_wp2_with fail;refine hc.out.mono ?_;rintro e w1 ⟨rfl, hb1⟩;go_wp2_with fail;go_ret;exact ⟨_, rfl, by rw [hy.out]; simp, hb.trans (hb1.mono hb.size)⟩
   ·replace hg := Bool.eq_false_iff.2 hg
    rw [hg] at hc;replace hc := hide hc;have hy := hide (any_take_succ ha.out hx.out hg);clear hg;go_wp2_with fail;refine hc.out.mono ?_;rintro e w1 ⟨rfl, hb1⟩;go_wp2_with fail;go_roundw
    case rel => exact ⟨k + 1, by omega, by go_num, hb.trans (hb1.mono hb.size), hy⟩
    case measure => simp [intOf]; omega
  ·have hkn : k = n := by omega
   subst hkn;clear hcl
   go_wp2
   go_ret;have hy := ha.out
   rw [List.take_of_length_le (by rw [hlen.out]; exact zR)] at hy;exact ⟨_, rfl, by rw [hy]; decide, hb⟩
theorem containsFuncM_calls (F : FuncId) (caps : Array Value) (G : Int → Bool) (A : Option Addr) (n c : Nat) (l : List Int) (w : World) (lo hi : Nat) (h : SlI w lo hi A n l) (hn : n ≤ 1048576)
  (hF : ∀ (v : Value) (W : World), Sem.run Tryz.prog (callFunc F (#[v] ++ caps)) W = .ok (.enter F (#[v] ++ caps)) W)
  (hcl : ∀ (v : Int), v ∈ l → ∀ (W : World), Below w.heap.size w W → Calls Tryz.prog F (#[.int .i64 v] ++ caps) W (Says (G v) W)) :
  Calls Tryz.prog 151 #[.slice A n c, .func (.func F) #[] caps] w (Says (l.any G) w) := by
 have q := hide (indexFuncM_calls F caps G A n c l w lo hi h hn hF hcl);clear h hF hcl;go_enter Tryz.func151, Tryz.ntmps151;go_wp2_with fail;refine q.out.mono ?_;rintro e w1 ⟨i, rfl, hi, hb⟩;replace hi := hide hi;go_wp2_with fail;go_ret;exact ⟨ret_b hi.out.symm, hb⟩
end Go.Proofs.YtnhomkmfbngmgaaGreatDoor
namespace Go.Proofs.YtnhomkmfbngmgaaGreatDoor
open Go.RowKit
structure Flat {α : Type} (f : α → List Value) (size : Nat) : Prop where
 len : ∀ x, (f x).length = size
 one : ∀ x u, u ∈ f x → u.oneCell' = true
theorem flat_iv : Flat iv 1 := ⟨fun _ => rfl, fun x u h => by simp [iv] at h; subst h; rfl⟩
def Elem (P : Program) (t e : TypeId) (size bytes : Nat) : Prop :=
 P.underlying t = some (.slice e) ∧ 0 < size ∧ 0 < bytes ∧ ∃ i z, P.info? e = some i ∧ i.zero = some z ∧ i.size = size ∧ i.bytes = bytes ∧ z.cells.size = size
theorem Elem.of {P : Program} {t e : TypeId} {size bytes : Nat} {z : Value} (ht : P.underlying t = some (.slice e)) (hi : (P.info? e).map (fun i => (i.zero, i.size, i.bytes)) = some (some z, size, bytes))
  (hz : z.cells.size = size) (h0 : 0 < size) (h1 : 0 < bytes) : Elem P t e size bytes := by
 obtain ⟨i, a, b, c, d⟩ := info_parts hi;exact ⟨ht, h0, h1, i, z, a, b, c, d, hz⟩
def Own {α : Type} (size : Nat) (f : α → List Value) (w : World) (base : Nat) (e : TypeId) (A : Option Addr) (n c : Nat) (l : List α) : Prop :=
 l.length = n ∧ w.ownsRow base e size (.slice A n c) n (l.flatMap f)
theorem flat_length {α : Type} {f : α → List Value} {size : Nat} (hf : Flat f size) (l : List α) : (l.flatMap f).length = l.length * size := by
 induction l with
 | nil => simp
 | cons x l ih => simp [List.flatMap_cons, ih, hf.len, Nat.add_mul]; omega
theorem flat_at {α : Type} {f : α → List Value} {size : Nat} (hf : Flat f size) : ∀ (l : List α) (k : Nat) (x : α), l[k]? = some x → ∀ (j : Nat) (u : Value), (f x)[j]? = some u → (l.flatMap f)[k * size + j]? = some u := by
 intro l
 induction l with
 | nil => intro k x h; simp at h
 | cons y l ih =>
  intro k x h j u hu;have hj : j < size := by rw [← hf.len x]; exact (List.getElem?_eq_some_iff.1 hu).1
  rw [List.flatMap_cons]
  cases k with
  | zero =>
   simp at h
   subst h;rw [List.getElem?_append_left (by rw [hf.len]; omega)]
   simpa using hu
  | succ k =>
   simp at h
   rw [List.getElem?_append_right (by rw [hf.len, Nat.add_mul]; omega), hf.len];have : (k + 1) * size + j - size = k * size + j := by rw [Nat.add_mul]; omega
   rw [this];exact ih k x h j u hu
theorem flat_from {α : Type} {f : α → List Value} {size : Nat} (hf : Flat f size) : ∀ (l : List α) (j : Nat) (u : Value), (l.flatMap f)[j]? = some u → ∃ k i x, l[k]? = some x ∧ (f x)[i]? = some u ∧ j = k * size + i := by
 intro l
 induction l with
 | nil => intro j u h; simp at h
 | cons y l ih =>
  intro j u h;rw [List.flatMap_cons] at h
  rcases Nat.lt_or_ge j size with hj | hj
  ·rw [List.getElem?_append_left (by rw [hf.len]; exact hj)] at h
   exact ⟨0, j, y, rfl, h, by simp⟩
  ·rw [List.getElem?_append_right (by rw [hf.len]; exact hj), hf.len] at h
   obtain ⟨k, i, x, h1, h2, h3⟩ := ih _ _ h;exact ⟨k + 1, i, x, by simpa using h1, h2, by rw [Nat.add_mul]; omega⟩
theorem flat_one {α : Type} {f : α → List Value} {size : Nat} (hf : Flat f size) (l : List α) : ∀ u ∈ l.flatMap f, u.oneCell' = true := by
 intro u hu;obtain ⟨x, _, hx⟩ := List.mem_flatMap.1 hu;exact hf.one x u hx
section
variable {α : Type} {size : Nat} {f : α → List Value} {w w' : World} {base n c : Nat} {e : TypeId} {A : Option Addr} {l : List α}
theorem Own.len (h : Own size f w base e A n c l) : l.length = n := h.1
theorem Own.nil_ (w : World) (base : Nat) (e : TypeId) : Own size f w base e none 0 0 ([] : List α) := ⟨rfl, World.ownsRow_nil _ _ _ _⟩
theorem Own.lt (h : Own size f w base e A n c l) : ∀ g, (Value.slice A n c).ownBlock = some g → base ≤ g ∧ g < w.heap.size := h.2.lt
theorem Own.sl (h : Own size f w base e A n c l) (hf : Flat f size) : Sl size f w base w.heap.size A n l := by
 refine ⟨h.1, fun hn => ?_⟩
 rcases h.2.2 with ⟨hv, rfl⟩ | ⟨g, cap, cur, hv, hb, hg, hnc, hcm, hcs, htake⟩
 ·omega
 ·injection hv with hA _ _
  subst hA;have hlt : g < w.heap.size := (Array.getElem?_eq_some_iff.1 hg).1;refine ⟨g, 0, rfl, hb, hlt, hlt, fun k x hx j u hu => ?_⟩;have h1 := flat_at hf l k x hx j u hu;have h2 := h.2.cells (g := g) rfl _ _ h1;have hadd : (⟨g, 0, none⟩ : Addr).add (k * size + j) = ⟨g, 0 + (k * size + j), none⟩ := by unfold Addr.add; split <;> simp_all
  rw [hadd] at h2;exact ⟨h2, frozen_of_row w g _ cur e hg⟩
theorem Own.keep (h : Own size f w base e A n c l) (hk : ∀ g, (Value.slice A n c).ownBlock = some g → w'.heap[g]? = w.heap[g]?) : Own size f w' base e A n c l := by
 refine ⟨h.1, h.2.1, ?_⟩
 rcases h.2.2 with hn | ⟨g, cap, cur, hv, hb, hg, rest⟩
 ·exact .inl hn
 ·refine .inr ⟨g, cap, cur, hv, hb, ?_, rest⟩
  rw [hk g (by rw [hv]; rfl)];exact hg
theorem Own.below (h : Own size f w base e A n c l) {B : Nat} (hb : Below B w w') (hB : w.heap.size ≤ B) : Own size f w' base e A n c l :=
 h.keep fun g hg => hb.block g (by have := (h.lt g hg).2; omega)
theorem Own.lower (h : Own size f w base e A n c l) {base' : Nat} (hb : base' ≤ base) : Own size f w base' e A n c l := by
 refine ⟨h.1, h.2.1, ?_⟩
 rcases h.2.2 with hn | ⟨g, cap, cur, hv, hg, rest⟩
 ·exact .inl hn
 ·exact .inr ⟨g, cap, cur, hv, by omega, rest⟩
end
theorem Sl.lit1 {α : Type} {f : α → List Value} (w : World) (t : TypeId) (x : α) (cs : Array Value) (h : f x = cs.toList) (size lo : Nat) (hlo : lo ≤ w.heap.size) :
  Sl size f (w.alloc (.cells cs t)) lo (w.heap.size + 1) (some ⟨w.heap.size, 0, none⟩) 1 [x] := by
 refine ⟨rfl, fun _ => ⟨w.heap.size, 0, rfl, hlo, by omega, by simp, fun k y hy j u hu => ?_⟩⟩
 cases k with
 | succ k => simp at hy
 | zero =>
  simp at hy
  subst hy;rw [h] at hu;simp only [Nat.zero_mul, Nat.zero_add];have hg := heap_alloc_new w (.cells cs t);exact ⟨(cell_of_row _ _ _ cs t (0, 0) hg).trans (by simpa using hu), frozen_of_row _ _ _ cs t hg⟩
theorem Sl.lit1' {α : Type} {f : α → List Value} (w : World) (t : TypeId) (x : α) (cs : Array Value) (h : f x = cs.toList) (size g : Nat) (hg : g = w.heap.size) :
  Sl size f (w.alloc (.cells cs t)) 0 (g + 1) (some ⟨g, 0, none⟩) 1 [x] := by
 subst hg;exact Sl.lit1 w t x cs h size 0 (Nat.zero_le _)
section
variable {P : Program} {α : Type} {size bytes : Nat} {f : α → List Value} {t e : TypeId}
theorem run_app (w : World) (hE : Elem P t e size bytes) (hf : Flat f size) (ty : TypeId) {base n c : Nat} {A : Option Addr} {l : List α} (hown : Own size f w base e A n c l)
  {B : Option Addr} {m d lo hi : Nat} {r : List α} (hr : Sl size f w lo hi B m r) (hsz : (n + m) * bytes ≤ 140737488355328) (hbase : base ≤ w.heap.size) :
  ∃ A' c' w', (Builtin.append_ #[t, t] ty #[.slice A n c, .slice B m d]).run P w = .ok (.slice A' (n + m) c') w' ∧ Own size f w' base e A' (n + m) c' (l ++ r) ∧ w.grownBy w' (Value.slice A n c).ownBlock ∧
   ((Value.slice A' (n + m) c').ownBlock = (Value.slice A n c).ownBlock ∨ (Value.slice A' (n + m) c').ownBlock = some w.heap.size) := by
 obtain ⟨ht, h0, hb0, i, z, hi', hz, hs, hby, hzs⟩ := hE;have hnm : n + m ≤ 140737488355328 := Nat.le_trans (Nat.le_mul_of_pos_right _ hb0) hsz;have key : ∀ v' w', w'.ownsRow base e size v' (n + m) (l.flatMap f ++ r.flatMap f) → ∃ A' c', v' = .slice A' (n + m) c' ∧ Own size f w' base e A' (n + m) c' (l ++ r) := by
  intro v' w' h;have hsh : ∃ A' c', v' = .slice A' (n + m) c' := by
   rcases h.2 with ⟨rfl, h0⟩ | ⟨g, cap, cur, rfl, _⟩
   ·exact ⟨none, 0, by rw [h0]⟩
   ·exact ⟨_, _, rfl⟩
  obtain ⟨A', c', rfl⟩ := hsh;exact ⟨A', c', rfl, by rw [List.length_append, hown.1, hr.len], by rw [List.flatMap_append]; exact h⟩
 by_cases hm : m = 0
 ·subst hm
  have hr0 : r = [] := List.eq_nil_of_length_eq_zero hr.len;subst hr0;have hrun : (Builtin.append_ #[t, t] ty #[.slice A n c, .slice B 0 d]).run P w = .ok (.slice A n c) w := by
   rcases hown.2.2 with ⟨hv, rfl⟩ | ⟨g, cap, cur, hv, _, hg, hnc, _⟩
   ·injection hv with h1 _ h3
    subst h1 h3
    cases B <;> simp [Builtin.append_, run_underlying ht, sizeOf, typeInfo, hi', Builtin.lenOf, Builtin.firstCells, loadCells, loadCellsFrom]
   ·injection hv with h1 _ h3
    subst h1 h3
    cases B <;> simp [Builtin.append_, run_underlying ht, sizeOf, typeInfo, hi', Builtin.lenOf, Builtin.firstCells, loadCells, loadCellsFrom, hnc, storeCells]
  exact ⟨A, c, w, hrun, ⟨by simpa using hown.1, by simpa using hown.2⟩, ⟨rfl, rfl, rfl, zR, fun _ _ _ => rfl⟩, .inl rfl⟩
 ·obtain ⟨b, off, rfl, _, _, _, hc⟩ := hr.at_ (by omega)
  obtain ⟨v', w', h1, h2, h3, _, h5⟩ := run_append_own_at (P := P) w base t ty e i z size bytes ht hi' hz hs hby hzs h0 (.slice A n c) n (l.flatMap f) hown.2 ⟨b, off, none⟩ m d (r.flatMap f)
   (by rw [flat_length hf, hr.len]) (fun j u hu => by
    obtain ⟨k, i, x, hx, hu', rfl⟩ := flat_from hf r j u hu;have hadd : (⟨b, off, none⟩ : Addr).add (k * size + i) = ⟨b, off + (k * size + i), none⟩ := by unfold Addr.add; split <;> simp_all
    rw [hadd];exact (hc k x hx i u hu').1) (flat_one hf r) (by unfold maxLen; omega) hsz hbase
  obtain ⟨A', c', rfl, h6⟩ := key v' w' h2;exact ⟨A', c', w', h1, h6, h3, h5⟩
theorem wpList_app {w : World} {ops : Array Oper} {rest : List Oper} {o : Oper} {a : Act} {Q : Exit → Act → World → Prop} (hgd : o.guard = none) (s x : Operand)
  (ho : o.op = .call { callee := .builtin .append, args := #[s, x], argTypes := #[t, t] }) (hE : Elem P t e size bytes) (hf : Flat f size)
  {base n c : Nat} {A : Option Addr} {l : List α} (hs : a.eval s = .slice A n c) (hown : Own size f w base e A n c l)
  {B : Option Addr} {m d lo hi : Nat} {r : List α} (hx : a.eval x = .slice B m d) (hr : Sl size f w lo hi B m r) (hsz : (n + m) * bytes ≤ 140737488355328) (hbase : base ≤ w.heap.size)
  (h : ∀ A' c' w', Own size f w' base e A' (n + m) c' (l ++ r) → w.grownBy w' (Value.slice A n c).ownBlock → Below base w w' →
   ((Value.slice A' (n + m) c').ownBlock = (Value.slice A n c).ownBlock ∨ (Value.slice A' (n + m) c').ownBlock = some w.heap.size) → wpList P ops Q rest (a.put o.dst (.slice A' (n + m) c')) w') : wpList P ops Q (o :: rest) a w := by
 refine wpList_plain hgd fun K hK => ?_
 obtain ⟨A', c', w', h1, h2, h3, h4⟩ := run_app w hE hf o.type hown (d := d) hr hsz hbase;unfold Oper.wp execOp;simp only [ho, resolve, invoke, builtin, Sem.run_bind, Sem.run_pure, Result.andThen_ok, List.map_toArray, List.map_cons, List.map_nil, hs, hx, h1];exact hK _ _ (h A' c' w' h2 h3 (bR.grown h3 hbase fun k hk => (hown.lt k hk).1) h4)
end
theorem Own.made {α : Type} {size : Nat} {f : α → List Value} (w : World) {base : Nat} (e : TypeId) (hb : base ≤ w.heap.size) : Own size f (w.alloc (.cells #[] e)) base e (some ⟨w.heap.size, 0, none⟩) 0 0 ([] : List α) :=
 ⟨rfl, World.ownsRow_made w #[] 0 hb (Nat.zero_le _) (by simp)⟩
theorem Own.alloc {α : Type} {size : Nat} {f : α → List Value} {w : World} {base n c : Nat} {e : TypeId} {A : Option Addr} {l : List α} (h : Own size f w base e A n c l) (o : Obj) : Own size f (w.alloc o) base e A n c l :=
 ⟨h.1, h.2.alloc o⟩
def cutA (A : Option Addr) (l cap size : Nat) : Option Addr := if cap = l then A else A.map (·.add (l * size))
theorem Sl.take {α : Type} {size : Nat} {f : α → List Value} {w : World} {lo hi n k : Nat} {A : Option Addr} {l : List α} (h : Sl size f w lo hi A n l) (hk : k ≤ n) : Sl size f w lo hi A k (l.take k) := by
 refine ⟨by rw [List.length_take, h.len]; omega, fun hn => ?_⟩;obtain ⟨b, off, rfl, g1, g2, g3, hcell⟩ := h.at_ (by omega);refine ⟨b, off, rfl, g1, g2, g3, fun i x hx j u hu => ?_⟩;rw [List.getElem?_take] at hx
 split at hx
 ·exact hcell i x hx j u hu
 ·cases hx
theorem run_cut {P : Program} {t e : TypeId} {size bytes : Nat} (hE : Elem P t e size bytes) (A : Option Addr) (n c k : Nat) (hk : k ≤ n) (W : World) :
  (Instr.slice t (.slice A n c) (some (.int .i64 (k : Int))) none none).run P W = .ok (.slice (cutA A k c size) (n - k) (c - k)) W := by
 obtain ⟨ht, _, _, i, z, hi, _, hs, _⟩ := hE;have he : P.elem t = e := by simp [Program.elem, ht]
 rw [run_slice_l W t A n c (by rw [he]; exact ht) .i64 k (by omega) (by omega)]
 simp [sizeOf, typeInfo, he, hi, hs, sliced, cutA]
theorem run_head {P : Program} {t e : TypeId} {size bytes : Nat} (hE : Elem P t e size bytes) (A : Option Addr) (n c k : Nat) (hk : k ≤ c) (W : World) :
  (Instr.slice t (.slice A n c) none (some (.int .i64 (k : Int))) none).run P W = .ok (.slice A k c) W := by
 obtain ⟨ht, _, _, i, z, hi, _, hs, _⟩ := hE;have he : P.elem t = e := by simp [Program.elem, ht]
 rw [run_slice_h W t A n c (by rw [he]; exact ht) .i64 k (by omega) (by omega)];have ha : A.map (fun x => x.add 0) = A := by cases A <;> simp [Addr.add]
 simp [sizeOf, typeInfo, he, hi, hs, sliced, ha]
theorem Own.take {α : Type} {size : Nat} {f : α → List Value} {w : World} {base n c k : Nat} {e : TypeId} {A : Option Addr} {l : List α} (hf : Flat f size) (h : Own size f w base e A n c l) (hk : k ≤ n) : Own size f w base e A k c (l.take k) := by
 have hl : (l.take k).length = k := by rw [List.length_take, h.1]; omega
 have hfl : (l.take k).flatMap f = (l.flatMap f).take (k * size) := by
  have h1 : l.flatMap f = (l.take k).flatMap f ++ (l.drop k).flatMap f := by rw [← List.flatMap_append, List.take_append_drop]
  rw [h1];have h2 := flat_length hf (l.take k);rw [hl] at h2;rw [← h2, List.take_left]
 refine ⟨hl, by rw [flat_length hf, hl], ?_⟩
 rcases h.2.2 with ⟨hv, h0⟩ | ⟨g, cap, cur, hv, hb, hg, hnc, hcm, hcs, htake⟩
 ·injection hv with h1 _ h3
  subst h1 h3;have : k = 0 := by omega
  subst this;exact .inl ⟨rfl, rfl⟩
 ·injection hv with h1 _ h3
  subst h1 h3;refine .inr ⟨g, c, cur, rfl, hb, hg, by omega, hcm, hcs, ?_⟩;rw [hfl, ← htake, List.take_take]
  congr 1
  have := Nat.mul_le_mul_right size hk;omega
theorem Own.cap {α : Type} {size : Nat} {f : α → List Value} {w : World} {base n c : Nat} {e : TypeId} {A : Option Addr} {l : List α} (h : Own size f w base e A n c l) : n ≤ c := by
 rcases h.2.2 with ⟨hv, h0⟩ | ⟨g, cap, cur, hv, _, _, hnc, _⟩
 ·omega
 ·injection hv with _ _ h3
  omega
def sv (x : Option Addr × Nat × Nat) : List Value := [.slice x.1 x.2.1 x.2.2]
theorem flat_sv : Flat sv 1 := ⟨fun _ => rfl, fun x u h => by simp [sv] at h; subst h; rfl⟩
theorem Own.apart {α β : Type} {size size' : Nat} {f : α → List Value} {f' : β → List Value} {w : World} {base base' n c n' c' : Nat} {e e' : TypeId} {A A' : Option Addr} {l : List α} {l' : List β}
  (h : Own size f w base e A n c l) (g : Own size' f' w base' e' A' n' c' l') (he : e ≠ e') : (Value.slice A n c).ownBlock = none ∨ (Value.slice A n c).ownBlock ≠ (Value.slice A' n' c').ownBlock := by
 rcases h.2.2 with ⟨hv, _⟩ | ⟨b, cap, cur, hv, _, hb, _⟩
 ·left; rw [hv]; rfl
 ·right
  intro e1
  rcases g.2.2 with ⟨hv', _⟩ | ⟨b', cap', cur', hv', _, hb', _⟩
  ·rw [hv, hv'] at e1; simp [Value.ownBlock] at e1
  ·rw [hv, hv'] at e1
   simp [Value.ownBlock] at e1
   subst e1;rw [hb] at hb';injection hb' with hb';injection hb' with _ ht;exact he ht
theorem Own.kept {α : Type} {size : Nat} {f : α → List Value} {w w' : World} {base n c : Nat} {e : TypeId} {A : Option Addr} {l : List α} {row : Option Nat} (h : Own size f w base e A n c l) (hg : w.grownBy w' row) (hne : (Value.slice A n c).ownBlock = none ∨ (Value.slice A n c).ownBlock ≠ row) :
  Own size f w' base e A n c l := ⟨h.1, h.2.kept hg hne⟩
open Go.ChangeAt Go.ChangeShapes Go.WideShapes
def byv (n : Int) : List Value := [.int .u8 n]
abbrev SlU := Sl 1 byv
def SrcW (w : World) (b N : Nat) : Prop :=
 ∃ (A : Option Addr) (n c : Nat) (code : List Int) (at_ : Nat) (seed : Int), w.heap[b]? = some (.cells #[.slice A n c, .int .i64 (at_ : Int), .int .u64 seed] 139 (0, 0)) ∧ at_ ≤ N ∧ n ≤ maxLen ∧
  SlU w 0 b A n code ∧ ∀ x, x ∈ code → 0 ≤ x ∧ x ≤ 255
structure SrcTo (w w' : World) (b N : Nat) : Prop where
 src : SrcW w' b N
 only : Only b (b + 1) w w'
 size : w'.heap.size = w.heap.size
section
variable {w w' w2 : World} {b N M : Nat}
theorem SrcW.lt (h : SrcW w b N) : b < w.heap.size := by
 obtain ⟨A, n, c, code, a, s, hb, _⟩ := h;exact (Array.getElem?_eq_some_iff.1 hb).1
theorem SrcW.more (h : SrcW w b N) (hN : N ≤ M) : SrcW w b M := by
 obtain ⟨A, n, c, code, a, s, hb, ha, r⟩ := h;exact ⟨A, n, c, code, a, s, hb, Nat.le_trans ha hN, r⟩
theorem SrcW.keep (h : SrcW w b N) (hs : w.heap.size ≤ w'.heap.size) (hk : ∀ k, k ≤ b → w'.heap[k]? = w.heap[k]?) : SrcW w' b N := by
 obtain ⟨A, n, c, code, a, s, hb, ha, hn, hc, r⟩ := h;exact ⟨A, n, c, code, a, s, (hk b zR).trans hb, ha, hn, hc.keep hs fun k _ h2 _ => hk k (by omega), r⟩
theorem SrcW.below {B : Nat} (h : SrcW w b N) (hb : Below B w w') (hB : b < B) : SrcW w' b N := h.keep hb.size fun k hk => hb.block k (by omega)
theorem SrcTo.refl (h : SrcW w b N) : SrcTo w w b N := ⟨h, Only.refl _ _ _, rfl⟩
theorem Only.trans' {lo hi : Nat} {a w w' : World} (h : Only lo hi a w) (g : Only lo hi w w') : Only lo hi a w' :=
 ⟨g.os.trans h.os, g.tape.trans h.tape, g.output.trans h.output, Nat.le_trans h.size g.size, fun k hk ho => (g.block k (Nat.lt_of_lt_of_le hk h.size) ho).trans (h.block k hk ho)⟩
theorem SrcTo.trans (h : SrcTo w w' b N) (g : SrcTo w' w2 b M) : SrcTo w w2 b M := ⟨g.src, h.only.trans' g.only, g.size.trans h.size⟩
theorem SrcTo.more (h : SrcTo w w' b N) (hN : N ≤ M) : SrcTo w w' b M := ⟨h.src.more hN, h.only, h.size⟩
theorem SrcW.put {A : Option Addr} {n c : Nat} {code : List Int} {a : Nat} {s s' : Int} (hb : w.heap[b]? = some (.cells #[.slice A n c, .int .i64 (a : Int), .int .u64 s] 139 (0, 0))) (hn : n ≤ maxLen) (hc : SlU w 0 b A n code) (hr : ∀ x, x ∈ code → 0 ≤ x ∧ x ≤ 255) (k0 k : Nat) :
  SrcTo w ((((w.drewN k0).setCell ⟨b, 1, none⟩ (.int .i64 ((a : Int) + 1))).setCell ⟨b, 2, none⟩ (.int .u64 s')).drewN k) b (a + 1) := by
 have hlt : b < w.heap.size := (Array.getElem?_eq_some_iff.1 hb).1;replace hb : (w.drewN k0).heap[b]? = _ := hb;have hc2 : SlU (w.drewN k0) 0 b A n code := hc.drewN k0;have hO : Only b (b + 1) w (w.drewN k0) := ⟨rfl, rfl, rfl, zR, fun _ _ _ => rfl⟩;have hz : (w.drewN k0).heap.size = w.heap.size := rfl;generalize w.drewN k0 = W at *;refine ⟨⟨A, n, c, code, a + 1, s', ?_, zR, hn, ?_, hr⟩, ?_, ?_⟩
 ·have h1 := heap_setCell_same W b 1 _ _ (.int .i64 ((a : Int) + 1)) hb
  have h2 := heap_setCell_same _ b 2 _ _ (.int .u64 s') h1;exact h2
 ·refine Sl.drewN (w := (W.setCell ⟨b, 1, none⟩ (.int .i64 ((a : Int) + 1))).setCell ⟨b, 2, none⟩ (.int .u64 s')) ?_ k
  exact hc2.keep (by simp [World.size_setCell]) fun q _ h2 h3 => (Below.heap_setCell _ _ _ _ (by show q ≠ b; omega)).trans (Below.heap_setCell _ _ _ _ (by show q ≠ b; omega))
 ·have h1 := (hO.setCell (p := ⟨b, 1, none⟩) zR (Nat.lt_succ_self _) (.int .i64 ((a : Int) + 1))).setCell (p := ⟨b, 2, none⟩) zR (Nat.lt_succ_self _) (.int .u64 s')
  exact ⟨h1.os, h1.tape, h1.output, h1.size, h1.block⟩
 ·show ((W.setCell _ _).setCell _ _).heap.size = _
  rw [World.size_setCell, World.size_setCell]; exact hz
end
theorem byte_bits (x : Int) : 0 ≤ bits .and .u64 x 255 ∧ bits .and .u64 x 255 ≤ 255 := by
 have h : ((BitVec.ofInt 64 x &&& BitVec.ofInt 64 255).toNat) ≤ 255 := by
  rw [BitVec.toNat_and];exact Nat.le_trans Nat.and_le_right (by decide)
 have e : bits .and .u64 x 255 = IntKind.u64.wrap ((BitVec.ofInt 64 x &&& BitVec.ofInt 64 255).toNat : Nat) := rfl;rw [e, IntKind.wrap_u64];omega
theorem byte_wrap (x : Int) : 0 ≤ wrap64 (bits .and .u64 x 255) ∧ wrap64 (bits .and .u64 x 255) ≤ 255 := by
 have h := byte_bits x;have e : wrap64 (bits .and .u64 x 255) = bits .and .u64 x 255 := by unfold wrap64; omega
 rw [e]; exact h
theorem next_calls (b N : Nat) (w : World) (h : SrcW w b N) (hN : N ≤ 1000000000) :
  Calls Tryz.prog 166 #[.pointer (some ⟨b, 0, none⟩)] w fun e w' => ∃ x : Int, e = .returned (.int .i64 x) ∧ 0 ≤ x ∧ x ≤ 255 ∧ SrcTo w w' b (N + 1) := by
 obtain ⟨A, n, c, code, a, s, hb, ha, hn, hc, hr⟩ := h;have hput := hide fun s' k0 k => (SrcW.put (s' := s') hb hn hc hr k0 k).more (M := N + 1) (by omega)
 have c0 : w.cell? ⟨b, 0, none⟩ = some (.slice A n c) := (cell_of_row w b 0 _ _ (0, 0) hb).trans rfl;have c1 : w.cell? ⟨b, 1, none⟩ = some (.int .i64 (a : Int)) := (cell_of_row w b 1 _ _ (0, 0) hb).trans rfl;have c2 : w.cell? ⟨b, 2, none⟩ = some (.int .u64 s) := (cell_of_row w b 2 _ _ (0, 0) hb).trans rfl;have f1 := frozen_of_row w b 1 _ _ hb;have f2 := frozen_of_row w b 2 _ _ hb;have hnm : n ≤ 9223372036854775807 := Nat.le_trans hn (by unfold maxLen; omega);replace hb := hide hb
 by_cases hlt : a < n
 ·obtain ⟨bc, oc, rfl, -, -, -, hat⟩ := hc.at_ (by omega)
  have hl : a < code.length := by rw [hc.len]; exact hlt
  have hx := hat a _ (List.getElem?_eq_getElem hl) 0 _ rfl;simp only [Nat.mul_one, Nat.add_zero] at hx;obtain ⟨x0, x1⟩ := hr _ (List.getElem_mem hl);generalize code[a] = x at *;obtain ⟨hx, -⟩ := hx;replace hc := hide hc;clear hat hr;have i0 : (0 : Int) ≤ (a : Int) := by omega
  have i1 : (a : Int) < (n : Int) := by omega
  have i2 : (a : Int) + 1 ≤ (n : Int) := by omega
  have j1 : decide ((a : Int) < (n : Int)) = true := decide_eq_true i1;have j2 : decide ((a : Int) + 1 ≤ (n : Int)) = true := decide_eq_true i2;go_enter Tryz.func166, Tryz.ntmps166;go_wp2_with fail;go_quiet (fail);go_wp2_with fail;go_quiet (fail);go_wp2_with fail;go_quiet (fail);go_wp2_with fail;go_ret;exact ⟨x, rfl, x0, x1, hput.out _ _ _⟩
 ·replace hc := hide hc
  have i1 : ¬ (a : Int) < (n : Int) := by omega
  have i2 : ¬ (a : Int) + 1 ≤ (n : Int) := by omega
  have j1 : decide ((a : Int) < (n : Int)) = false := decide_eq_false i1;have j2 : decide ((a : Int) + 1 ≤ (n : Int)) = false := decide_eq_false i2;go_enter Tryz.func166, Tryz.ntmps166;go_wp2_with fail;go_quiet (fail);go_wp2_with fail;go_quiet (fail);go_wp2_with fail;go_ret;exact ⟨_, rfl, (byte_wrap _).1, (byte_wrap _).2, hput.out _ _ _⟩
def PickR (b N : Nat) (n : Int) (w : World) (e : Ending) (w' : World) : Prop := ∃ x : Int, e = .returned (.int .i64 x) ∧ 0 ≤ x ∧ (x < n ∨ x = 0) ∧ SrcTo w w' b (N + 2)
theorem pick_rem (x : Int) {n : Int} (hn : 1 < n) : 0 ≤ x % n ∧ x % n < n := ⟨Int.emod_nonneg _ (by omega), Int.emod_lt_of_pos _ (by omega)⟩
theorem pick_calls (b N : Nat) (n : Int) (w : World) (h : SrcW w b N) (hN : N ≤ 900000000) :
  Calls Tryz.prog 84 #[.pointer (some ⟨b, 0, none⟩), .int .i64 n] w (PickR b N n w) := by
 have q1 := hide (next_calls b N w h (by omega));have hself := hide ((SrcTo.refl h).more (show N ≤ N + 2 by omega));clear h
 by_cases h1 : n ≤ 1
 ·go_enter Tryz.func84, Tryz.ntmps84
  go_wp2_with fail;go_ret
  exact ⟨0, rfl, by omega, .inr rfl, hself.out⟩
 ·have hne : n ≠ 0 := by omega
  by_cases h2 : 200 < n
  ·go_enter Tryz.func84, Tryz.ntmps84
   go_wp2_with fail;refine q1.out.mono ?_
   rintro e w1 ⟨x, rfl, x0, x1, hs1⟩;have q2 := hide (next_calls b (N + 1) w1 hs1.src (by omega));replace hs1 := hide hs1;go_wp2_with fail;refine q2.out.mono ?_;rintro e w2 ⟨y, rfl, y0, y1, hs2⟩;have hs3 := hide (hs1.out.trans hs2);clear hs1 hs2 q1 q2;have hr := pick_rem (x * 256 + y) (show 1 < n by omega);go_wp2_with fail;go_ret;exact ⟨_, rfl, hr.1, .inl hr.2, hs3.out⟩
  ·go_enter Tryz.func84, Tryz.ntmps84
   go_wp2_with fail;refine q1.out.mono ?_
   rintro e w1 ⟨x, rfl, x0, x1, hs1⟩;have hs3 := hide (hs1.more (show N + 1 ≤ N + 2 by omega));clear hs1 q1;have hr := pick_rem x (show 1 < n by omega);go_wp2_with fail;go_ret;exact ⟨_, rfl, hr.1, .inl hr.2, hs3.out⟩
theorem one_calls (b N : Nat) (n : Int) (w : World) (h : SrcW w b N) (hN : N ≤ 900000000) :
  Calls Tryz.prog 92 #[.pointer (some ⟨b, 0, none⟩), .int .i64 n] w fun e w' => ∃ v : Bool, e = .returned (.bool v) ∧ SrcTo w w' b (N + 2) := by
 have q1 := hide (pick_calls b N n w h hN);clear h;go_enter Tryz.func92, Tryz.ntmps92;go_wp2_with fail;refine q1.out.mono ?_;rintro e w1 ⟨x, rfl, x0, x1, hs1⟩;replace hs1 := hide hs1;clear q1;go_wp2_with fail;go_ret;exact ⟨_, rfl, hs1.out⟩
theorem info_int64 : (Tryz.prog.info? 2).map (fun i => (i.zero, i.size, i.bytes)) = some (some (.int .i64 0), 1, 8) := by kernel_rfl
end Go.Proofs.YtnhomkmfbngmgaaGreatDoor
namespace Go.Proofs.YtnhomkmfbngmgaaGreatDoor
open Go.ChangeShapes Go.WideShapes Go.Deep Go.RowKit
theorem addr_add (b off i : Nat) : (⟨b, off, none⟩ : Addr).add i = ⟨b, off + i, none⟩ := by
 unfold Addr.add
 split <;> simp_all
theorem list_of {α : Type} {Q : Nat → α → Prop} (n : Nat) (h : ∀ i, i < n → ∃ x, Q i x) : ∃ l : List α, l.length = n ∧ ∀ i x, l[i]? = some x → Q i x := by
 induction n with
 | zero => exact ⟨[], rfl, fun i x h => by simp at h⟩
 | succ n ih =>
  obtain ⟨l, hl, hq⟩ := ih fun i hi => h i (by omega)
  obtain ⟨y, hy⟩ := h n (by omega);refine ⟨l ++ [y], by simp [hl], fun i x hx => ?_⟩
  rcases Nat.lt_or_ge i n with hi | hi
  ·rw [List.getElem?_append_left (by omega)] at hx
   exact hq i x hx
  ·rw [List.getElem?_append_right (by omega)] at hx
   have : i = n := by
    have := (List.getElem?_eq_some_iff.1 hx).1
    simp at this
    omega
   subst this
   simp [hl] at hx
   subst hx;exact hy
section
variable {H : Type} {enc : TypeId × Value → H} {P : Program} {w : World} {base : Nat} {spare : Nat → Bool} {held : Bool}
theorem mem_row {a : Addr} {n j : Nat} (h : j < n) : MemPlace.cell a.block (a.off + j) ∈ MemPlace.row a n := List.mem_map.2 ⟨j, List.mem_range.2 h, rfl⟩
theorem open_flat {α : Type} (f : α → List Value) {t e : TypeId} {size : Nat} (ht : P.underlying t = some (.slice e)) (hC : P.cellsOf e = size) (hs : 0 < size)
  (hE : ∀ (fuel : Nat) (cs : List Value) (y : DataW H × List MemPlace), DataW.trod enc P w base spare held fuel e cs = some y → cs.length = size → ∃ x : α, cs = f x)
  {fuel : Nat} {cs : List Value} {r : DataW H × List MemPlace} (h : DataW.trod enc P w base spare held fuel t cs = some r) (hz : ∀ b off, MemPlace.cell b off ∈ r.2 → w.frozen? ⟨b, off, none⟩ = false) :
  ∃ A n c l, cs = [.slice A n c] ∧ n ≤ maxLen ∧ Sl size f w base w.heap.size A n l := by
 rcases open_slice ht h with ⟨hcs, _⟩ | ⟨a, len, cap, m, n, D, Pl, hcs, hb, hl, hm, hmm, hr, hi⟩
 ·exact ⟨none, 0, 0, [], hcs, Nat.zero_le _, Sl.nil_⟩
 ·have hlm : len ≤ m := by rw [hmm]; split <;> omega
  have hq : ∀ i, i < len → ∃ x : α, ∀ j u, (f x)[j]? = some u → w.cell? ((a.add (i * size)).add j) = some u ∧ j < size := by
   intro i hil;obtain ⟨cs', hc, ht'⟩ := hi i (by omega);rw [hC] at hc;obtain ⟨_, hcl, hat⟩ := World.cells?_some hc;obtain ⟨y, rfl⟩ := hE _ _ _ ht' hcl;refine ⟨y, fun j u hu => ?_⟩;have hj : j < size := by rw [← hcl]; exact (List.getElem?_eq_some_iff.1 hu).1
   exact ⟨(hat j hj).trans hu, hj⟩
  obtain ⟨l, hll, hlq⟩ := list_of len hq;refine ⟨some a, len, cap, l, hcs, by omega, hll, fun h0 => ?_⟩;obtain ⟨b, off, spot⟩ := a;have hspot : spot = none := by
   obtain ⟨cs', hc, ht'⟩ := hi 0 (by omega);rw [hC] at hc;obtain ⟨_, hcl, hat⟩ := World.cells?_some hc;have h1 := hat 0 hs;rw [List.getElem?_eq_getElem (by omega)] at h1
   simpa [Addr.add] using World.cell?_spot h1
  subst hspot;have hcell : ∀ (k : Nat) (x : α), l[k]? = some x → ∀ (j : Nat) (u : Value), (f x)[j]? = some u → w.cell? ⟨b, off + (k * size + j), none⟩ = some u ∧ k < len ∧ j < size := by
   intro k x hx j u hu;obtain ⟨h1, h2⟩ := hlq k x hx j u hu;rw [addr_add, addr_add, Nat.add_assoc] at h1;exact ⟨h1, by rw [← hll]; exact (List.getElem?_eq_some_iff.1 hx).1, h2⟩
  have hbl : b < w.heap.size := by
   obtain ⟨cs', hc, ht'⟩ := hi 0 (by omega);rw [hC] at hc;obtain ⟨_, hcl, hat⟩ := World.cells?_some hc;have h1 := hat 0 hs;rw [List.getElem?_eq_getElem (by omega), addr_add, addr_add] at h1;exact World.block_lt_of_cell? w _ h1
  refine ⟨b, off, rfl, hb, hbl, hbl, fun k x hx j u hu => ?_⟩;obtain ⟨h1, h2, h3⟩ := hcell k x hx j u hu;refine ⟨h1, hz _ _ ?_⟩;rw [hr, hC];refine List.mem_append_left _ (mem_row (a := ⟨b, off, none⟩) ?_);have hkm : (k + 1) * size ≤ m * size := Nat.mul_le_mul_right _ (by omega);rw [Nat.add_mul] at hkm;omega
end
end Go.Proofs.YtnhomkmfbngmgaaGreatDoor
namespace Go.Proofs.YtnhomkmfbngmgaaGreatDoor
open Go.RowKit
abbrev Hd := Option Addr × Nat × Nat
def spanOf (h : Hd) : Nat × Nat := if h.2.1 = 0 then (0, 0) else match h.1 with | some a => (a.block, a.block + 1) | none => (0, 0)
def offS (x y : Nat × Nat) : Prop := x.2 ≤ y.1 ∨ y.2 ≤ x.1
theorem offS.symm {x y : Nat × Nat} (h : offS x y) : offS y x := Or.symm h
theorem spanOf_pos {n : Nat} (b off c : Nat) (hn : 0 < n) : spanOf (some ⟨b, off, none⟩, n, c) = (b, b + 1) := if_neg (by show ¬ n = 0; omega)
section
variable {α : Type} {size : Nat} {f : α → List Value} {w w' : World} {lo hi n : Nat} {A : Option Addr} {l : List α}
theorem Sl.tight (h : Sl size f w lo hi A n l) (c : Nat) : Sl size f w (spanOf (A, n, c)).1 (spanOf (A, n, c)).2 A n l := by
 rcases Nat.eq_zero_or_pos n with rfl | hn
 ·exact ⟨h.1, fun h0 => absurd h0 (by omega)⟩
 ·obtain ⟨b, off, rfl, g1, g2, g3, hc⟩ := h.at_ hn
  rw [spanOf_pos b off c hn];exact ⟨h.1, fun _ => ⟨b, off, rfl, zR, Nat.lt_succ_self _, g3, hc⟩⟩
theorem Sl.span (h : Sl size f w lo hi A n l) (c : Nat) : spanOf (A, n, c) = (0, 0) ∨ (lo ≤ (spanOf (A, n, c)).1 ∧ (spanOf (A, n, c)).2 ≤ hi ∧ (spanOf (A, n, c)).2 ≤ w.heap.size) := by
 rcases Nat.eq_zero_or_pos n with rfl | hn
 ·exact .inl rfl
 ·obtain ⟨b, off, rfl, g1, g2, g3, hc⟩ := h.at_ hn
  rw [spanOf_pos b off c hn];exact .inr ⟨g1, g2, g3⟩
theorem Sl.loose {c : Nat} (h : Sl size f w (spanOf (A, n, c)).1 (spanOf (A, n, c)).2 A n l) (hs : spanOf (A, n, c) = (0, 0) ∨ (lo ≤ (spanOf (A, n, c)).1 ∧ (spanOf (A, n, c)).2 ≤ hi)) : Sl size f w lo hi A n l := by
 rcases Nat.eq_zero_or_pos n with rfl | hn
 ·exact ⟨h.1, fun h0 => absurd h0 (by omega)⟩
 ·obtain ⟨b, off, rfl, g1, g2, g3, hc⟩ := h.at_ hn
  rw [spanOf_pos b off c hn] at hs
  rcases hs with hs | hs
  ·simp at hs
  ·exact ⟨h.1, fun _ => ⟨b, off, rfl, hs.1, by have := hs.2; show b < hi; simp at this; omega, g3, hc⟩⟩
theorem Sl.keepB (h : Sl size f w lo hi A n l) (hs : w.heap.size ≤ w'.heap.size) (hk : ∀ b off, 0 < n → A = some ⟨b, off, none⟩ → lo ≤ b → b < w.heap.size → w'.heap[b]? = w.heap[b]?) : Sl size f w' lo hi A n l := by
 rcases Nat.eq_zero_or_pos n with rfl | hn
 ·exact ⟨h.1, fun h0 => absurd h0 (by omega)⟩
 ·have ht := h.tight 0
  obtain ⟨b, off, rfl, g1, g2, g3, _⟩ := h.at_ hn;have e := spanOf_pos b off 0 hn;exact (ht.keep hs fun b' h1 h2 h3 => by
   rw [e] at h1 h2
   simp at h1 h2
   have : b' = b := by omega
   subst this;exact hk b' off hn rfl g1 h3).loose (c := 0) (.inr (by rw [e]; exact ⟨g1, g2⟩))
theorem Sl.onlyS (h : Sl size f w lo hi A n l) {x : Nat × Nat} (g : Only x.1 x.2 w w') {c : Nat} (hd : offS (spanOf (A, n, c)) x) : Sl size f w' lo hi A n l :=
 h.keepB g.size fun b off hn e _ hb => g.block b hb (by
  subst e;rw [spanOf_pos b off c hn] at hd
  rcases hd with hd | hd
  ·exact .inl (by simp at hd; omega)
  ·exact .inr hd)
end
structure Nest {α : Type} (size : Nat) (f : α → List Value) (w : World) (lo hi : Nat) (A : Option Addr) (n : Nat) (R : List (Hd × List α)) : Prop where
 outer : Sl 1 sv w lo hi A n (R.map (·.1))
 rows : ∀ r ∈ R, Sl size f w lo hi r.1.1 r.1.2.1 r.2 ∧ r.1.2.1 ≤ 1048576
 apart : R.Pairwise fun r s => offS (spanOf r.1) (spanOf s.1)
 away : ∀ r ∈ R, offS (spanOf (A, n, 0)) (spanOf r.1)
section
variable {α : Type} {size : Nat} {f : α → List Value} {w w' : World} {lo hi n : Nat} {A : Option Addr} {R : List (Hd × List α)}
theorem Nest.len (h : Nest size f w lo hi A n R) : R.length = n := by have := h.outer.len; rwa [List.length_map] at this
theorem Nest.nil_ : Nest size f w lo hi A 0 ([] : List (Hd × List α)) := ⟨Sl.nil_, fun _ h => (List.not_mem_nil h).elim, List.Pairwise.nil, fun _ h => (List.not_mem_nil h).elim⟩
theorem Nest.keep (h : Nest size f w lo hi A n R) (hs : w.heap.size ≤ w'.heap.size) (hk : ∀ b, lo ≤ b → b < hi → b < w.heap.size → w'.heap[b]? = w.heap[b]?) : Nest size f w' lo hi A n R :=
 ⟨h.outer.keep hs hk, fun r hr => ⟨(h.rows r hr).1.keep hs hk, (h.rows r hr).2⟩, h.apart, h.away⟩
theorem Nest.below {B : Nat} (h : Nest size f w lo hi A n R) (hb : Below B w w') (hB : hi ≤ B ∨ w.heap.size ≤ B) : Nest size f w' lo hi A n R :=
 h.keep hb.size fun b _ h2 h3 => hb.block b (by omega)
theorem Nest.only {lo' hi' : Nat} (h : Nest size f w lo hi A n R) (g : Only lo' hi' w w') (hd : hi ≤ lo' ∨ hi' ≤ lo) : Nest size f w' lo hi A n R :=
 h.keep g.size fun b h1 h2 h3 => g.block b h3 (by omega)
theorem Nest.more {lo' hi' : Nat} (h : Nest size f w lo hi A n R) (h1 : lo' ≤ lo) (h2 : hi ≤ hi') : Nest size f w lo' hi' A n R :=
 ⟨h.outer.more h1 h2, fun r hr => ⟨(h.rows r hr).1.more h1 h2, (h.rows r hr).2⟩, h.apart, h.away⟩
theorem Nest.get (h : Nest size f w lo hi A n R) {k : Nat} (hk : k < n) :
  ∃ b off Ah nh ch s, A = some ⟨b, off, none⟩ ∧ lo ≤ b ∧ b < hi ∧ b < w.heap.size ∧ R[k]? = some ((Ah, nh, ch), s) ∧ w.cell? ⟨b, off + k, none⟩ = some (.slice Ah nh ch) ∧ w.frozen? ⟨b, off + k, none⟩ = false ∧ Sl size f w lo hi Ah nh s ∧ nh ≤ 1048576 := by
 obtain ⟨b, off, e, g1, g2, g3, hc⟩ := h.outer.at_ (by omega);have hkl : k < R.length := by rw [h.len]; exact hk
 obtain ⟨⟨⟨Ah, nh, ch⟩, s⟩, hr⟩ : ∃ r, R[k]? = some r := ⟨_, List.getElem?_eq_getElem hkl⟩;have h0 := hc k (Ah, nh, ch) (by rw [List.getElem?_map, hr]; rfl) 0 _ rfl;simp only [Nat.mul_one, Nat.add_zero] at h0;have h1 := h.rows _ (List.mem_of_getElem? hr);exact ⟨b, off, Ah, nh, ch, s, e, g1, g2, g3, hr, h0.1, h0.2, h1.1, h1.2⟩
theorem pairwise_at {β : Type} {p : β → β → Prop} (hp : ∀ x y, p x y → p y x) {R : List β} (h : R.Pairwise p) {i j : Nat} {x y : β} (hi : R[i]? = some x) (hj : R[j]? = some y) (hne : i ≠ j) : p x y := by
 obtain ⟨hi', rfl⟩ := List.getElem?_eq_some_iff.1 hi;obtain ⟨hj', rfl⟩ := List.getElem?_eq_some_iff.1 hj
 rcases Nat.lt_or_ge i j with hlt | hge
 ·exact List.pairwise_iff_getElem.1 h i j hi' hj' hlt
 ·exact hp _ _ (List.pairwise_iff_getElem.1 h j i hj' hi' (by omega))
theorem Nest.put (h : Nest size f w lo hi A n R) {k : Nat} {Ah : Option Addr} {nh ch : Nat} {s s' : List α} (hr : R[k]? = some ((Ah, nh, ch), s))
  (g : Only (spanOf (Ah, nh, ch)).1 (spanOf (Ah, nh, ch)).2 w w') (hs : Sl size f w' (spanOf (Ah, nh, ch)).1 (spanOf (Ah, nh, ch)).2 Ah nh s') :
  Nest size f w' lo hi A n (R.set k ((Ah, nh, ch), s')) ∧ Only lo hi w w' := by
 have hk : k < R.length := (List.getElem?_eq_some_iff.1 hr).1;have hm := List.mem_of_getElem? hr;have e : (R.set k ((Ah, nh, ch), s')).map (·.1) = R.map (·.1) := by
  apply List.ext_getElem?
  intro i;rw [List.getElem?_map, List.getElem?_map]
  by_cases hi : k = i
  ·subst hi
   rw [List.getElem?_set_self hk, hr]
   rfl
  ·rw [List.getElem?_set_ne hi]
 have h1 : Sl size f w lo hi Ah nh s ∧ nh ≤ 1048576 := h.rows _ hm;refine ⟨⟨by rw [e]; exact h.outer.onlyS g (h.away _ hm), fun r hr' => ?_, ?_, fun r hr' => ?_⟩, ⟨g.os, g.tape, g.output, g.size, fun b hb ho => g.block b hb ?_⟩⟩
 ·obtain ⟨i, hi⟩ := List.getElem?_of_mem hr'
  by_cases hki : k = i
  ·subst hki
   rw [List.getElem?_set_self hk] at hi
   cases hi
   refine ⟨hs.loose (c := ch) ?_, h1.2⟩
   rcases h1.1.span ch with h2 | h2
   ·exact .inl h2
   ·exact .inr ⟨h2.1, h2.2.1⟩
  ·rw [List.getElem?_set_ne hki] at hi
   have h2 := h.rows r (List.mem_of_getElem? hi);exact ⟨h2.1.onlyS g (pairwise_at (fun _ _ => offS.symm) h.apart hi hr (Ne.symm hki)), h2.2⟩
 ·have h2 : (R.map (·.1)).Pairwise (fun x y => offS (spanOf x) (spanOf y)) := List.pairwise_map.2 h.apart
  rw [← e] at h2;exact (List.pairwise_map (R := fun x y => offS (spanOf x) (spanOf y))).1 h2
 ·obtain ⟨i, hi⟩ := List.getElem?_of_mem hr'
  by_cases hki : k = i
  ·subst hki
   rw [List.getElem?_set_self hk] at hi
   cases hi
   have h9 := h.away _ hm;exact h9
  ·rw [List.getElem?_set_ne hki] at hi
   exact h.away _ (List.mem_of_getElem? hi)
 ·rcases h1.1.span ch with h2 | h2
  ·rw [h2]
   exact .inr (Nat.zero_le _)
  ·omega
end
structure NestO {α : Type} (size : Nat) (f : α → List Value) (w : World) (base : Nat) (e : TypeId) (A : Option Addr) (n c : Nat) (R : List (Hd × List α)) : Prop where
 outer : Own 1 sv w base e A n c (R.map (·.1))
 rows : ∀ r ∈ R, Sl size f w base w.heap.size r.1.1 r.1.2.1 r.2 ∧ r.1.2.1 ≤ 1048576
 apart : R.Pairwise fun r s => offS (spanOf r.1) (spanOf s.1)
 away : ∀ r ∈ R, ∀ g, (Value.slice A n c).ownBlock = some g → offS (g, g + 1) (spanOf r.1)
section
variable {α : Type} {size : Nat} {f : α → List Value} {w w' : World} {base n c : Nat} {e : TypeId} {A : Option Addr} {R : List (Hd × List α)}
theorem NestO.len (h : NestO size f w base e A n c R) : R.length = n := by have := h.outer.len; rwa [List.length_map] at this
theorem NestO.nil_ (w : World) (base : Nat) (e : TypeId) : NestO size f w base e none 0 0 ([] : List (Hd × List α)) := ⟨Own.nil_ _ _ _, fun _ h => (List.not_mem_nil h).elim, List.Pairwise.nil, fun _ h => (List.not_mem_nil h).elim⟩
theorem NestO.made (w : World) {base : Nat} (e : TypeId) (hb : base ≤ w.heap.size) : NestO size f (w.alloc (.cells #[] e)) base e (some ⟨w.heap.size, 0, none⟩) 0 0 ([] : List (Hd × List α)) :=
 ⟨Own.made w e hb, fun _ h => (List.not_mem_nil h).elim, List.Pairwise.nil, fun _ h => (List.not_mem_nil h).elim⟩
theorem NestO.keep (h : NestO size f w base e A n c R) (hs : w.heap.size ≤ w'.heap.size) (hk : ∀ b, base ≤ b → b < w.heap.size → w'.heap[b]? = w.heap[b]?) : NestO size f w' base e A n c R :=
 ⟨h.outer.keep fun g hg => hk g (h.outer.lt g hg).1 (h.outer.lt g hg).2, fun r hr => ⟨((h.rows r hr).1.keep hs fun b h1 _ h3 => hk b h1 h3).more zR hs, (h.rows r hr).2⟩, h.apart, h.away⟩
theorem NestO.below {B : Nat} (h : NestO size f w base e A n c R) (hb : Below B w w') (hB : w.heap.size ≤ B) : NestO size f w' base e A n c R := h.keep hb.size fun b _ h2 => hb.block b (by omega)
theorem NestO.push {w0 w2 : World} (h : NestO size f w0 base e A n c R) (hb : Below w0.heap.size w0 w) {Ah : Option Addr} {nh ch : Nat} {s : List α} (x : Sl size f w w0.heap.size w.heap.size Ah nh s) (hn : nh ≤ 1048576)
  {A' : Option Addr} {c' : Nat} (hO : Own 1 sv w2 base e A' (n + 1) c' (R.map (·.1) ++ [(Ah, nh, ch)])) (hg : w.grownBy w2 (Value.slice A n c).ownBlock)
  (hne : (Value.slice A' (n + 1) c').ownBlock = (Value.slice A n c).ownBlock ∨ (Value.slice A' (n + 1) c').ownBlock = some w.heap.size) (hbase : base ≤ w0.heap.size) :
  NestO size f w2 base e A' (n + 1) c' (R ++ [((Ah, nh, ch), s)]) := by
 have hz := hb.size;have hz2 := hg.size;have hold : ∀ r ∈ R, spanOf r.1 = (0, 0) ∨ (base ≤ (spanOf r.1).1 ∧ (spanOf r.1).2 ≤ w0.heap.size) := fun r hr => by
  rcases (h.rows r hr).1.span r.1.2.2 with h1 | h1
  ·exact .inl h1
  ·exact .inr ⟨h1.1, h1.2.1⟩
 have hnew : spanOf (Ah, nh, ch) = (0, 0) ∨ (w0.heap.size ≤ (spanOf (Ah, nh, ch)).1 ∧ (spanOf (Ah, nh, ch)).2 ≤ w.heap.size) := by
  rcases x.span ch with h1 | h1
  ·exact .inl h1
  ·exact .inr ⟨h1.1, h1.2.1⟩
 refine ⟨by rw [List.map_append]; exact hO, fun r hr => ?_, List.pairwise_append.2 ⟨h.apart, List.pairwise_singleton _ _, fun r hr q hq => ?_⟩, fun r hr g hgq => ?_⟩
 ·rcases List.mem_append.1 hr with hr | hr
  ·have h1 := h.rows r hr
   refine ⟨(((h1.1.below hb (.inr zR)).more zR (by omega : w0.heap.size ≤ w2.heap.size)).keepB hz2 fun b off hp e1 _ hb1 => hg.block b hb1 fun e2 => ?_), h1.2⟩;have h2 := h.away r hr b e2.symm;have h3 : spanOf r.1 = (b, b + 1) := by
    have h4 := spanOf_pos b off r.1.2.2 hp;rw [← e1] at h4;exact h4
   rw [h3] at h2
   rcases h2 with h2 | h2 <;> simp at h2 <;> omega
  ·rw [List.mem_singleton.1 hr]
   refine ⟨((x.more hbase (by omega : w.heap.size ≤ w2.heap.size)).keepB hz2 fun b off hp e1 _ hb1 => hg.block b hb1 fun e2 => ?_), hn⟩;have h2 := (h.outer.lt b e2.symm).2;have h3 := spanOf_pos b off ch hp;rw [← e1] at h3;rw [h3] at hnew
   simp at hnew
   omega
 ·rw [List.mem_singleton.1 hq]
  rcases hold r hr with h1 | h1
  ·rw [h1]; exact .inl (Nat.zero_le _)
  ·rcases hnew with h2 | h2
   ·rw [h2]; exact .inr (Nat.zero_le _)
   ·exact .inl (by show (spanOf r.1).2 ≤ (spanOf (Ah, nh, ch)).1; omega)
 ·rcases hne with hne | hne
  ·rw [hne] at hgq
   rcases List.mem_append.1 hr with hr | hr
   ·exact h.away r hr g hgq
   ·rw [List.mem_singleton.1 hr]
    have h2 := (h.outer.lt g hgq).2
    rcases hnew with h3 | h3
    ·rw [h3]; exact .inr (Nat.zero_le _)
    ·exact .inl (by show g + 1 ≤ (spanOf (Ah, nh, ch)).1; omega)
  ·rw [hne] at hgq
   injection hgq with hgq;subst hgq
   rcases List.mem_append.1 hr with hr | hr
   ·rcases hold r hr with h1 | h1
    ·rw [h1]; exact .inr (Nat.zero_le _)
    ·exact .inr (by show (spanOf r.1).2 ≤ w.heap.size; omega)
   ·rw [List.mem_singleton.1 hr]
    rcases hnew with h3 | h3
    ·rw [h3]; exact .inr (Nat.zero_le _)
    ·exact .inr h3.2
end
def preH (H : List Hd) (k : Nat) : Nat := ((H.take k).map (·.2.1)).sum
def MarkedK {α : Type} (mk : Int → α) (step : Nat) (m : Int) (k : Nat) (R : List (Hd × List α)) : Prop :=
 ∀ (i : Nat) (r : Hd × List α), i < k → R[i]? = some r → ∀ j : Nat, j < r.1.2.1 → r.2[j]? = some (mk (m + step * (preH (R.map (·.1)) i + j : Nat)))
theorem MarkedK.zero {α : Type} (mk : Int → α) (step : Nat) (m : Int) (R : List (Hd × List α)) : MarkedK mk step m 0 R := fun i r hi => absurd hi (by omega)
theorem Only.trans {lo hi : Nat} {a b c : World} (h : Only lo hi a b) (g : Only lo hi b c) : Only lo hi a c :=
 ⟨g.os.trans h.os, g.tape.trans h.tape, g.output.trans h.output, Nat.le_trans h.size g.size, fun k hb hc => (g.block k (Nat.lt_of_lt_of_le hb h.size) hc).trans (h.block k hb hc)⟩
theorem Only.more {lo hi lo' hi' : Nat} {a b : World} (h : Only lo hi a b) (h1 : lo' ≤ lo) (h2 : hi ≤ hi') : Only lo' hi' a b :=
 ⟨h.os, h.tape, h.output, h.size, fun k hb hc => h.block k hb (by omega)⟩
theorem Only.span {lo hi : Nat} {a b : World} {x : Nat × Nat} (h : Only x.1 x.2 a b) (hs : x = (0, 0) ∨ (lo ≤ x.1 ∧ x.2 ≤ hi)) : Only lo hi a b :=
 ⟨h.os, h.tape, h.output, h.size, fun k hb hc => h.block k hb (by
  rcases hs with hs | hs
  ·rw [hs]; exact .inr (Nat.zero_le _)
  ·omega)⟩
structure RowsG {β α : Type} (hd : β → Hd) (osz : Nat) (g : β → List Value) (size : Nat) (f : α → List Value) (most : Nat) (w : World) (lo hi : Nat) (A : Option Addr) (n : Nat) (R : List (β × List α)) : Prop where
 outer : Sl osz g w lo hi A n (R.map (·.1))
 rows : ∀ r ∈ R, Sl size f w lo hi (hd r.1).1 (hd r.1).2.1 r.2 ∧ (hd r.1).2.1 ≤ most
structure NestG {β α : Type} (hd : β → Hd) (osz : Nat) (g : β → List Value) (size : Nat) (f : α → List Value) (w : World) (lo hi : Nat) (A : Option Addr) (n : Nat) (R : List (β × List α)) : Prop where
 all : RowsG hd osz g size f 1048576 w lo hi A n R
 apart : R.Pairwise fun r s => offS (spanOf (hd r.1)) (spanOf (hd s.1))
 away : ∀ r ∈ R, offS (spanOf (A, n, 0)) (spanOf (hd r.1))
section
variable {β α : Type} {hd : β → Hd} {osz : Nat} {g : β → List Value} {size most : Nat} {f : α → List Value} {w w' : World} {lo hi n : Nat} {A : Option Addr} {R : List (β × List α)}
theorem RowsG.len (h : RowsG hd osz g size f most w lo hi A n R) : R.length = n := by have := h.outer.len; rwa [List.length_map] at this
theorem RowsG.nil_ : RowsG hd osz g size f most w lo hi A 0 ([] : List (β × List α)) := ⟨Sl.nil_, fun _ h => (List.not_mem_nil h).elim⟩
theorem RowsG.keep (h : RowsG hd osz g size f most w lo hi A n R) (hs : w.heap.size ≤ w'.heap.size) (hk : ∀ b, lo ≤ b → b < hi → b < w.heap.size → w'.heap[b]? = w.heap[b]?) : RowsG hd osz g size f most w' lo hi A n R :=
 ⟨h.outer.keep hs hk, fun r hr => ⟨(h.rows r hr).1.keep hs hk, (h.rows r hr).2⟩⟩
theorem RowsG.below {B : Nat} (h : RowsG hd osz g size f most w lo hi A n R) (hb : Below B w w') (hB : hi ≤ B ∨ w.heap.size ≤ B) : RowsG hd osz g size f most w' lo hi A n R :=
 h.keep hb.size fun b _ h2 h3 => hb.block b (by omega)
theorem RowsG.only {lo' hi' : Nat} (h : RowsG hd osz g size f most w lo hi A n R) (o : Only lo' hi' w w') (hd' : hi ≤ lo' ∨ hi' ≤ lo) : RowsG hd osz g size f most w' lo hi A n R :=
 h.keep o.size fun b h1 h2 h3 => o.block b h3 (by omega)
theorem RowsG.more {lo' hi' : Nat} (h : RowsG hd osz g size f most w lo hi A n R) (h1 : lo' ≤ lo) (h2 : hi ≤ hi') : RowsG hd osz g size f most w lo' hi' A n R :=
 ⟨h.outer.more h1 h2, fun r hr => ⟨(h.rows r hr).1.more h1 h2, (h.rows r hr).2⟩⟩
theorem RowsG.get (h : RowsG hd osz g size f most w lo hi A n R) {k : Nat} (hk : k < n) :
  ∃ b off x s, A = some ⟨b, off, none⟩ ∧ lo ≤ b ∧ b < hi ∧ b < w.heap.size ∧ R[k]? = some (x, s) ∧
   (∀ (j : Nat) (u : Value), (g x)[j]? = some u → w.cell? ⟨b, off + (k * osz + j), none⟩ = some u ∧ w.frozen? ⟨b, off + (k * osz + j), none⟩ = false) ∧ Sl size f w lo hi (hd x).1 (hd x).2.1 s ∧ (hd x).2.1 ≤ most := by
 obtain ⟨b, off, e, g1, g2, g3, hc⟩ := h.outer.at_ (by omega);have hkl : k < R.length := by rw [h.len]; exact hk
 obtain ⟨⟨x, s⟩, hr⟩ : ∃ r, R[k]? = some r := ⟨_, List.getElem?_eq_getElem hkl⟩;have h1 := h.rows _ (List.mem_of_getElem? hr);exact ⟨b, off, x, s, e, g1, g2, g3, hr, hc k x (by rw [List.getElem?_map, hr]; rfl), h1.1, h1.2⟩
theorem NestG.len (h : NestG hd osz g size f w lo hi A n R) : R.length = n := h.all.len
theorem NestG.nil_ : NestG hd osz g size f w lo hi A 0 ([] : List (β × List α)) := ⟨RowsG.nil_, List.Pairwise.nil, fun _ h => (List.not_mem_nil h).elim⟩
theorem NestG.keep (h : NestG hd osz g size f w lo hi A n R) (hs : w.heap.size ≤ w'.heap.size) (hk : ∀ b, lo ≤ b → b < hi → b < w.heap.size → w'.heap[b]? = w.heap[b]?) : NestG hd osz g size f w' lo hi A n R := ⟨h.all.keep hs hk, h.apart, h.away⟩
theorem NestG.below {B : Nat} (h : NestG hd osz g size f w lo hi A n R) (hb : Below B w w') (hB : hi ≤ B ∨ w.heap.size ≤ B) : NestG hd osz g size f w' lo hi A n R := ⟨h.all.below hb hB, h.apart, h.away⟩
theorem NestG.only {lo' hi' : Nat} (h : NestG hd osz g size f w lo hi A n R) (o : Only lo' hi' w w') (hd' : hi ≤ lo' ∨ hi' ≤ lo) : NestG hd osz g size f w' lo hi A n R := ⟨h.all.only o hd', h.apart, h.away⟩
theorem NestG.more {lo' hi' : Nat} (h : NestG hd osz g size f w lo hi A n R) (h1 : lo' ≤ lo) (h2 : hi ≤ hi') : NestG hd osz g size f w lo' hi' A n R := ⟨h.all.more h1 h2, h.apart, h.away⟩
theorem NestG.put (h : NestG hd osz g size f w lo hi A n R) {k : Nat} {x : β} {s s' : List α} (hr : R[k]? = some (x, s))
  (o : Only (spanOf (hd x)).1 (spanOf (hd x)).2 w w') (hs : Sl size f w' (spanOf (hd x)).1 (spanOf (hd x)).2 (hd x).1 (hd x).2.1 s') :
  NestG hd osz g size f w' lo hi A n (R.set k (x, s')) ∧ Only lo hi w w' := by
 have hk : k < R.length := (List.getElem?_eq_some_iff.1 hr).1;have hm := List.mem_of_getElem? hr;have e : (R.set k (x, s')).map (·.1) = R.map (·.1) := by
  apply List.ext_getElem?
  intro i;rw [List.getElem?_map, List.getElem?_map]
  by_cases hi : k = i
  ·subst hi
   rw [List.getElem?_set_self hk, hr]
   rfl
  ·rw [List.getElem?_set_ne hi]
 have h1 : Sl size f w lo hi (hd x).1 (hd x).2.1 s ∧ (hd x).2.1 ≤ 1048576 := h.all.rows _ hm;have hsp : spanOf (hd x) = (0, 0) ∨ (lo ≤ (spanOf (hd x)).1 ∧ (spanOf (hd x)).2 ≤ hi ∧ (spanOf (hd x)).2 ≤ w.heap.size) := h1.1.span (hd x).2.2;refine ⟨⟨⟨by rw [e]; exact h.all.outer.onlyS (c := 0) o (h.away _ hm), fun r hr' => ?_⟩, ?_, fun r hr' => ?_⟩, o.span (by rcases hsp with h2 | h2; exact .inl h2; exact .inr ⟨h2.1, h2.2.1⟩)⟩
 ·obtain ⟨i, hi⟩ := List.getElem?_of_mem hr'
  by_cases hki : k = i
  ·subst hki
   rw [List.getElem?_set_self hk] at hi
   cases hi
   refine ⟨Sl.loose (c := (hd x).2.2) hs ?_, h1.2⟩
   rcases hsp with h2 | h2
   ·exact .inl h2
   ·exact .inr ⟨h2.1, h2.2.1⟩
  ·rw [List.getElem?_set_ne hki] at hi
   have h2 := h.all.rows r (List.mem_of_getElem? hi);exact ⟨h2.1.onlyS (c := (hd r.1).2.2) o (pairwise_at (fun _ _ => offS.symm) h.apart hi hr (Ne.symm hki)), h2.2⟩
 ·have h2 : (R.map (·.1)).Pairwise (fun x y => offS (spanOf (hd x)) (spanOf (hd y))) := List.pairwise_map.2 h.apart
  rw [← e] at h2;exact (List.pairwise_map (R := fun x y => offS (spanOf (hd x)) (spanOf (hd y)))).1 h2
 ·obtain ⟨i, hi⟩ := List.getElem?_of_mem hr'
  by_cases hki : k = i
  ·subst hki
   rw [List.getElem?_set_self hk] at hi
   cases hi
   have h9 := h.away _ hm;exact h9
  ·rw [List.getElem?_set_ne hki] at hi
   exact h.away _ (List.mem_of_getElem? hi)
end
structure NestF {β α : Type} (hd : β → Hd) (osz : Nat) (g : β → List Value) (size : Nat) (f : α → List Value) (w : World) (B : Nat) (t : TypeId) (n k : Nat) (R : List (β × List α)) : Prop where
 len : R.length = k
 fill : Fill osz g w B t n k (R.map (·.1))
 rows : ∀ r ∈ R, Sl size f w (B + 1) w.heap.size (hd r.1).1 (hd r.1).2.1 r.2 ∧ (hd r.1).2.1 ≤ 1048576
 apart : R.Pairwise fun r s => offS (spanOf (hd r.1)) (spanOf (hd s.1))
section
variable {β α : Type} {hd : β → Hd} {osz : Nat} {g : β → List Value} {size : Nat} {f : α → List Value} {w w1 w2 : World} {B n k : Nat} {t : TypeId} {R : List (β × List α)}
theorem NestF.keep (h : NestF hd osz g size f w B t n k R) (hb : Below w.heap.size w w1) : NestF hd osz g size f w1 B t n k R :=
 ⟨h.len, h.fill.keep (hb.block _ h.fill.lt), fun r hr => ⟨((h.rows r hr).1.below hb (.inr zR)).more zR hb.size, (h.rows r hr).2⟩, h.apart⟩
theorem NestF.push (h : NestF hd osz g size f w B t n k R) (hb : Below w.heap.size w w1) {x : β} {s : List α} (hx : Sl size f w1 w.heap.size w1.heap.size (hd x).1 (hd x).2.1 s) (hn : (hd x).2.1 ≤ 1048576)
  (ho : Only B (B + 1) w1 w2) (hf : Fill osz g w2 B t n (k + 1) ((R.map (·.1)) ++ [x])) : NestF hd osz g size f w2 B t n (k + 1) (R ++ [(x, s)]) := by
 have hlt := h.fill.lt;have hz := hb.size;have hz2 := ho.size;have h1 := h.keep hb;refine ⟨by rw [List.length_append, h.len]; rfl, by rw [List.map_append]; exact hf, fun r hr => ?_, List.pairwise_append.2 ⟨h.apart, List.pairwise_singleton _ _, fun r hr q hq => ?_⟩⟩
 ·rcases List.mem_append.1 hr with hr | hr
  ·have h2 := h1.rows r hr
   exact ⟨(h2.1.only ho (.inr zR)).more zR hz2, h2.2⟩
  ·rw [List.mem_singleton.1 hr]
   exact ⟨(hx.only ho (.inr (by omega))).more (by omega) hz2, hn⟩
 ·rw [List.mem_singleton.1 hq]
  have h2 := (h.rows r hr).1.span (hd r.1).2.2;have h3 := hx.span (hd x).2.2
  show offS (spanOf (hd r.1)) (spanOf (hd x))
  rcases h2 with h2 | h2
  ·have h2 : spanOf (hd r.1) = (0, 0) := h2
   rw [h2]; exact .inl (Nat.zero_le _)
  ·rcases h3 with h3 | h3
   ·have h3 : spanOf (hd x) = (0, 0) := h3
    rw [h3]; exact .inr (Nat.zero_le _)
   ·exact .inl (Nat.le_trans h2.2.2 h3.1)
end
open Go.ChangeAt Go.ChangeShapes Go.Deep Go.WideShapes
def ArgI (w : World) (lo hi : Nat) (v : Value) (d : List Int) : Prop := ∃ A n c, v = .slice A n c ∧ n ≤ maxLen ∧ SlI w lo hi A n d
section
variable {w w' : World} {lo hi lo' hi' B : Nat} {v : Value} {d : List Int}
theorem ArgI.shape (h : ArgI w lo hi v d) : ∃ A n c, v = .slice A n c := by obtain ⟨A, n, c, h1, _⟩ := h; exact ⟨A, n, c, h1⟩
theorem ArgI.below (h : ArgI w lo hi v d) (hb : Below B w w') (hB : hi ≤ B ∨ w.heap.size ≤ B) : ArgI w' lo hi v d := by
 obtain ⟨A, n, c, h1, h2, h3⟩ := h;exact ⟨A, n, c, h1, h2, h3.below hb hB⟩
theorem ArgI.more (h : ArgI w lo hi v d) (h1 : lo' ≤ lo) (h2 : hi ≤ hi') : ArgI w lo' hi' v d := by
 obtain ⟨A, n, c, q1, q2, q3⟩ := h;exact ⟨A, n, c, q1, q2, q3.more h1 h2⟩
theorem ArgI.only (h : ArgI w lo hi v d) (g : Only lo' hi' w w') (hd : hi ≤ lo' ∨ hi' ≤ lo) : ArgI w' lo hi v d := by
 obtain ⟨A, n, c, h1, h2, h3⟩ := h;exact ⟨A, n, c, h1, h2, h3.only g hd⟩
end
section
variable {H : Type} {enc : TypeId × Value → H} {P : Program} {w : World} {base : Nat} {spare : Nat → Bool} {held : Bool}
end
def putCells (w : World) (b : Nat) : Nat → List Value → World
 | _, [] => w
 | off, u :: us => putCells (w.setCell ⟨b, off, none⟩ u) b (off + 1) us
theorem Sl.putPre {α : Type} {size : Nat} {f : α → List Value} {w : World} {lo hi n b off : Nat} {l : List α} (h : Sl size f w lo hi (some ⟨b, off, none⟩) n l) {k : Nat} {x0 : α} (hx0 : l[k]? = some x0) (hlen : ∀ x, (f x).length = size) (x : α)
  (us : List Value) (hus : us.length ≤ size) (hpre : ∀ j u, j < us.length → (f x)[j]? = some u → us[j]? = some u) (hrest : ∀ j u, us.length ≤ j → (f x)[j]? = some u → (f x0)[j]? = some u) :
  Sl size f (putCells w b (off + k * size) us) lo hi (some ⟨b, off, none⟩) n (l.set k x) := by
 have key : ∀ (us : List Value) (W : World) (o : Nat),
   (∀ (q : Addr), (putCells W b o us).frozen? q = W.frozen? q) ∧ (putCells W b o us).heap.size = W.heap.size ∧
   (∀ i, (i < o ∨ o + us.length ≤ i) → (putCells W b o us).cell? ⟨b, i, none⟩ = W.cell? ⟨b, i, none⟩) ∧
   ((∀ j, j < us.length → ∃ v, W.cell? ⟨b, o + j, none⟩ = some v) → ∀ j u, us[j]? = some u → (putCells W b o us).cell? ⟨b, o + j, none⟩ = some u) := by
  intro us
  induction us with
  | nil => exact fun W o => ⟨fun _ => rfl, rfl, fun _ _ => rfl, fun _ j u hu => by simp at hu⟩
  | cons v us ih =>
   intro W o;obtain ⟨i1, i2, i3, i4⟩ := ih (W.setCell ⟨b, o, none⟩ v) (o + 1);refine ⟨fun q => (i1 q).trans (World.frozen?_setCell W _ q v), by rw [putCells, i2, World.size_setCell], fun i hi => ?_, fun hc j u hu => ?_⟩
   ·simp only [List.length_cons] at hi
    refine (i3 i (by omega)).trans (World.cell?_setCell_other _ _ _ _ (by intro e; injection e with _ e _; omega))
   ·cases j with
    | zero =>
     simp at hu
     subst hu;obtain ⟨v0, hv0⟩ := hc 0 (by simp);exact (i3 o (by omega)).trans (World.cell?_setCell_same _ _ _ hv0)
    | succ j =>
     simp at hu
     have := i4 (fun j hj => by
      obtain ⟨v1, hv1⟩ := hc (j + 1) (by simp; omega);exact ⟨v1, (World.cell?_setCell_other _ _ _ _ (by intro e; injection e with _ e _; omega)).trans (by rw [← hv1]; congr 2; omega)⟩) j u hu
     rw [show o + (j + 1) = o + 1 + j by omega];exact this
 obtain ⟨k1, k2, k3, k4⟩ := key us w (off + k * size);have hkl : k < l.length := (List.getElem?_eq_some_iff.1 hx0).1;have hll := h.len;refine ⟨by rw [List.length_set]; exact h.len, fun _ => ?_⟩;obtain ⟨b', off', e, g1, g2, g3, hc⟩ := h.at_ (by omega)
 cases e
 refine ⟨b, off, rfl, g1, g2, by rw [k2]; exact g3, fun i z hz j u hu => ?_⟩;have hj : j < size := by rw [← hlen z]; exact (List.getElem?_eq_some_iff.1 hu).1
 rw [k1]
 by_cases hik : i = k
 ·subst hik
  rw [List.getElem?_set_self hkl] at hz
  cases hz
  have hold := hc i x0 hx0;have hex : ∀ j, j < us.length → ∃ v, w.cell? ⟨b, off + (i * size + j), none⟩ = some v ∧ w.frozen? ⟨b, off + (i * size + j), none⟩ = false := fun j hj => 
   ⟨_, hold j _ (List.getElem?_eq_getElem (by rw [hlen]; omega))⟩
  rcases Nat.lt_or_ge j us.length with hju | hju
  ·refine ⟨?_, (hex j hju).choose_spec.2⟩
   rw [← Nat.add_assoc];exact k4 (fun j hj => by rw [Nat.add_assoc]; exact ⟨_, (hex j hj).choose_spec.1⟩) j u (hpre j u hju hu)
  ·obtain ⟨h1, h2⟩ := hold j u (hrest j u hju hu)
   refine ⟨?_, h2⟩;rw [k3 _ (by omega)];exact h1
 ·have hil : i < l.length := by
   have := (List.getElem?_eq_some_iff.1 hz).1
   rwa [List.length_set] at this
  rw [List.getElem?_set_ne (by omega)] at hz;obtain ⟨h1, h2⟩ := hc i z hz j u hu;refine ⟨?_, h2⟩;rw [k3 _ ?_]
  ·exact h1
  ·rcases Nat.lt_or_ge i k with hlt | hge
   ·have := Nat.mul_le_mul_right size (show i + 1 ≤ k by omega)
    rw [Nat.add_mul] at this;omega
   ·have := Nat.mul_le_mul_right size (show k + 1 ≤ i by omega)
    rw [Nat.add_mul] at this;omega
theorem Sl.putN {α : Type} {size : Nat} {f : α → List Value} {w : World} {lo hi n b off : Nat} {l : List α} (h : Sl size f w lo hi (some ⟨b, off, none⟩) n l) {k : Nat} (hk : k < n) (hlen : ∀ x, (f x).length = size) (x : α) :
  Sl size f (putCells w b (off + k * size) (f x)) lo hi (some ⟨b, off, none⟩) n (l.set k x) :=
 h.putPre (x0 := l[k]'(by rw [h.len]; exact hk)) (List.getElem?_eq_getElem _) hlen x (f x) (by rw [hlen]; exact zR) (fun _ _ _ h => h) (fun j u hj hu => by
  have := (List.getElem?_eq_some_iff.1 hu).1
  omega)
end Go.Proofs.YtnhomkmfbngmgaaGreatDoor
namespace Go.Proofs.YtnhomkmfbngmgaaGreatDoor
open Go.ChangeShapes Go.WideShapes Go.ChangeAt Go.RowKit
theorem Only.alloc' {lo hi : Nat} {a w : World} (h : Only lo hi a w) (o : Obj) : Only lo hi a (w.alloc o) :=
 ⟨h.os, h.tape, h.output, by rw [World.size_alloc]; have := h.size; omega, fun q hq hd => (Below.heap_alloc _ _ _ (by have := h.size; omega)).trans (h.block q hq hd)⟩
theorem Only.setNew {lo hi : Nat} {a w : World} (h : Only lo hi a w) {p : Addr} (hp : a.heap.size ≤ p.block) (u : Value) : Only lo hi a (w.setCell p u) :=
 ⟨h.os, h.tape, h.output, by rw [World.size_setCell]; exact h.size, fun q hq hd => (Below.heap_setCell _ _ _ _ (by omega)).trans (h.block q hq hd)⟩
theorem Only.drew' {lo hi : Nat} {a w : World} (h : Only lo hi a w) : Only lo hi a w.drew := ⟨h.os, h.tape, h.output, h.size, h.block⟩
theorem Only.belowAt {lo hi B : Nat} {a w w' : World} (h : Only lo hi a w) (g : Below B w w') (hB : a.heap.size ≤ B) : Only lo hi a w' :=
 ⟨g.os.trans h.os, g.tape.trans h.tape, g.output.trans h.output, Nat.le_trans h.size g.size, fun q hq hd => (g.block q (by omega)).trans (h.block q hq hd)⟩
theorem Only.grow {lo hi : Nat} {a w w' : World} (h : Only lo hi a w) {row : Option Nat} (g : w.grownBy w' row) (hr : ∀ k, row = some k → a.heap.size ≤ k) : Only lo hi a w' :=
 ⟨g.os.trans h.os, g.tape.trans h.tape, g.output.trans h.output, Nat.le_trans h.size g.size, fun q hq hd => (g.block q (by have := h.size; omega) (fun e => by have := hr q e.symm; omega)).trans (h.block q hq hd)⟩
section
variable {w w' : World} {b N M : Nat}
theorem SrcW.alloc (h : SrcW w b N) (o : Obj) : SrcW (w.alloc o) b N := h.below ((Below.refl w.heap.size w).alloc zR o) h.lt
theorem SrcW.drew (h : SrcW w b N) : SrcW w.drew b N := h
theorem SrcW.setNew (h : SrcW w b N) {p : Addr} (hp : b < p.block) (u : Value) : SrcW (w.setCell p u) b N :=
 h.keep (by rw [World.size_setCell]; exact zR) fun q hq => Below.heap_setCell _ _ _ _ (by omega)
theorem SrcW.grow (h : SrcW w b N) {row : Option Nat} (g : w.grownBy w' row) (hr : ∀ k, row = some k → b < k) : SrcW w' b N :=
 h.keep g.size fun q hq => g.block q (by have := h.lt; omega) (fun e => by have := hr q e.symm; omega)
end
theorem among_calls (b N : Nat) (A : Option Addr) (n c : Nat) (l : List Int) (w : World) (lo hi : Nat) (h : SrcW w b N) (hN : N ≤ 900000000) (hs : SlI w lo hi A n l) (hd : hi ≤ b ∨ b + 1 ≤ lo) (hn : 0 < n) (hm : n ≤ 1048576) :
  Calls Tryz.prog 86 #[.pointer (some ⟨b, 0, none⟩), .slice A n c] w fun e w' => ∃ x : Int, e = .returned (.int .i64 x) ∧ x ∈ l ∧ SrcTo w w' b (N + 2) := by
 have q1 := hide (pick_calls b N (n : Int) w h hN);obtain ⟨ba, oa, rfl, g1, g2, g3, -⟩ := hs.at_ hn;replace hs := hide hs;clear h;go_enter Tryz.func86, Tryz.ntmps86;go_wp2_with fail;refine q1.out.mono ?_;rintro e w1 ⟨x, rfl, x0, x1, hs1⟩;obtain ⟨k, rfl⟩ : ∃ k : Nat, x = (k : Int) := ⟨x.toNat, by omega⟩;have hk : k < n := by omega
 have hl := hs.out.only hs1.only (by omega);obtain ⟨b', o', y, e1, -, -, -, hy, c0, -⟩ := SlI.get hl hk;cases e1;replace hs1 := hide hs1;have hmem := hide (List.mem_of_getElem? hy);have k0 : (0 : Int) ≤ (k : Int) := by omega
 have k1 : (k : Int) < (n : Int) := by omega
 clear q1 hl hy x0 x1;go_wp2_with fail;go_ret;exact ⟨y, rfl, hmem.out, hs1.out⟩
theorem l00From_calls (A : Option Addr) (n c : Nat) (code : List Int) (w : World) (h : SlU w 0 w.heap.size A n code) (hc : ∀ x, x ∈ code → 0 ≤ x ∧ x ≤ 255) (hn : n ≤ maxLen) :
  Calls Tryz.prog 48 #[.slice A n c] w fun e w' => e = .returned (.pointer (some ⟨w.heap.size, 0, none⟩)) ∧ SrcW w' w.heap.size 0 ∧ Below w.heap.size w w' ∧ w'.heap.size = w.heap.size + 1 := by
 have hS : Hid (SrcW (w.alloc (.cells #[.slice A n c, .int .i64 0, .int .u64 0] 139)) w.heap.size 0) :=
  ⟨A, n, c, code, 0, 0, heap_alloc_new w _, zR, hn, h.below ((Below.refl w.heap.size w).alloc zR _) (.inr zR), hc⟩
 clear h;go_enter Tryz.func48, Tryz.ntmps48;go_wp2_with fail;go_ret;exact ⟨rfl, hS.out, bR.alloc zR _, by rw [World.size_alloc]⟩
end Go.Proofs.YtnhomkmfbngmgaaGreatDoor
