/-
  Words for the program's pairs while they grow. Conditions: none.
-/
import Derived.Test.YtiaclddgllkgpaaGreatDoorCtlS2
import Derived.Test.YtiaclddgllkgpaaGreatDoorFauI
import Derived.Test.YtiaclddgllkgpaaGreatDoorMapP
namespace Go.Proofs.YtiaclddgllkgpaaGreatDoor
open Go.ChangeShapes Go.WideShapes Go.ChangeAt Go.RowKit Go.Sort
set_option linter.unusedVariables false
set_option linter.unusedSimpArgs false

/-- w' is w but for the blocks of T, and new blocks. -/
structure But (T : Nat → Prop) (w w' : World) : Prop where
  os : w'.os = w.os
  tape : w'.tape = w.tape
  output : w'.output = w.output
  size : w.heap.size ≤ w'.heap.size
  block : ∀ b, b < w.heap.size → ¬ T b → w'.heap[b]? = w.heap[b]?
theorem But.refl (T : Nat → Prop) (w : World) : But T w w := ⟨rfl, rfl, rfl, Nat.le_refl _, fun _ _ _ => rfl⟩
theorem But.trans {T T' : Nat → Prop} {a b c : World} (h : But T a b) (g : But T' b c) (hT : ∀ x, T' x → T x ∨ a.heap.size ≤ x) : But T a c :=
  ⟨g.os.trans h.os, g.tape.trans h.tape, g.output.trans h.output, Nat.le_trans h.size g.size, fun x hx hn => (g.block x (Nat.lt_of_lt_of_le hx h.size) fun ht => by
    rcases hT x ht with h1 | h1
    · exact hn h1
    · omega).trans (h.block x hx hn)⟩
theorem But.of_below {T : Nat → Prop} {w w' : World} (h : Below w.heap.size w w') : But T w w' := ⟨h.os, h.tape, h.output, h.size, fun b hb _ => h.block b hb⟩
theorem But.below {T : Nat → Prop} {w w' : World} {B : Nat} (h : But T w w') (hT : ∀ x, T x → B ≤ x) (hB : B ≤ w.heap.size) : Below B w w' :=
  ⟨h.os, h.tape, h.output, h.size, fun b hb => h.block b (by omega) fun ht => by have := hT b ht; omega⟩
theorem But.of_grown {w w' : World} {row : Option Nat} (h : w.grownBy w' row) : But (fun b => some b = row) w w' := ⟨h.os, h.tape, h.output, h.size, fun b hb hn => h.block b hb hn⟩
theorem But.set (w : World) (p : Addr) (u : Value) : But (fun b => b = p.block) w (w.setCell p u) := ⟨rfl, rfl, rfl, by rw [World.size_setCell]; exact Nat.le_refl _, fun b hb hn => Below.heap_setCell _ _ _ _ hn⟩
theorem But.more {T T' : Nat → Prop} {w w' : World} (h : But T w w') (hT : ∀ x, T x → T' x) : But T' w w' := ⟨h.os, h.tape, h.output, h.size, fun b hb hn => h.block b hb fun ht => hn (hT b ht)⟩
theorem But.kept {T : Nat → Prop} {w w' : World} (h : But T w w') {b : Nat} {o : Obj} (hb : w.heap[b]? = some o) (hn : ¬ T b) : w'.heap[b]? = some o := (h.block b (Array.getElem?_eq_some_iff.1 hb).1 hn).trans hb

/-- The cells of the struct that stay. -/
structure TV where
  v0 : Value
  v1 : Value
  v2 : Value
  v3 : Value
  v4 : Value
  v5 : Value
  v6 : Value
  v7 : Value
  v8 : Value
  v9 : Value
def TV.obj (v : TV) (A : Option Addr) (n c : Nat) (M : Nat) (C : Option Addr) (d : Nat) : Obj :=
  .cells #[v.v0, v.v1, v.v2, v.v3, v.v4, v.v5, v.v6, v.v7, v.v8, v.v9, .slice A n c, .map (some M), .slice C n d] 117 (0, 0)
/-- The program's pairs. -/
structure TogS (w : World) (base X M : Nat) (v : TV) (A : Option Addr) (n c : Nat) (G : List (Nat × PR)) (C : Option Addr) (d : Nat) (H : List (Hd × List ByteArray)) (R : List PQ) : Prop where
  lb : base ≤ X
  cells : w.heap[X]? = some (v.obj A n c M C d)
  gp : GrowP w base A n c G
  ps : PathsW w base C n d H
  mp : ∃ f, MapP w M n f ∧ ∀ q, (f q).isSome = decide (q ∈ R.map (·.1))
  mb : base ≤ M
  eq : G.map (·.2) = R.map (·.1)
  eqp : H.map (·.2) = R.map (·.2)
/-- The blocks that change when a pair is laid. -/
def TogT (X M : Nat) (A : Option Addr) (n c : Nat) (C : Option Addr) (d : Nat) (b : Nat) : Prop := b = X ∨ b = M ∨ (Value.slice A n c).ownBlock = some b ∨ (Value.slice C n d).ownBlock = some b
section
variable {w w' : World} {base X M n c d : Nat} {v : TV} {A C : Option Addr} {G : List (Nat × PR)} {H : List (Hd × List ByteArray)} {R : List PQ}
theorem TogS.lt (h : TogS w base X M v A n c G C d H R) : X < w.heap.size := (Array.getElem?_eq_some_iff.1 h.cells).1
theorem TogS.len (h : TogS w base X M v A n c G C d H R) : R.length = n := by rw [← h.gp.len, ← List.length_map (f := (·.1)), ← h.eq, List.length_map]
theorem TogS.kept (h : TogS w base X M v A n c G C d H R) (hk : ∀ b, b < w.heap.size → w'.heap[b]? = w.heap[b]?) : TogS w' base X M v A n c G C d H R :=
  ⟨h.lb, (hk X h.lt).trans h.cells, h.gp.kept hk, h.ps.kept hk, by obtain ⟨f, h1, h2⟩ := h.mp; exact ⟨f, h1.keep (hk M h1.lt), h2⟩, h.mb, h.eq, h.eqp⟩
theorem TogS.below (h : TogS w base X M v A n c G C d H R) (hb : Below w.heap.size w w') : TogS w' base X M v A n c G C d H R := h.kept hb.block
theorem TogS.cell (h : TogS w base X M v A n c G C d H R) : w.heap[X]? = some (.cells #[v.v0, v.v1, v.v2, v.v3, v.v4, v.v5, v.v6, v.v7, v.v8, v.v9, .slice A n c, .map (some M), .slice C n d] 117 (0, 0)) := h.cells
theorem TogS.f10 (h : TogS w base X M v A n c G C d H R) : w.cell? ⟨X, 10, none⟩ = some (.slice A n c) := (cell_of_row _ _ 10 _ _ (0, 0) h.cell).trans rfl
theorem TogS.f11 (h : TogS w base X M v A n c G C d H R) : w.cell? ⟨X, 11, none⟩ = some (.map (some M)) := (cell_of_row _ _ 11 _ _ (0, 0) h.cell).trans rfl
theorem TogS.f12 (h : TogS w base X M v A n c G C d H R) : w.cell? ⟨X, 12, none⟩ = some (.slice C n d) := (cell_of_row _ _ 12 _ _ (0, 0) h.cell).trans rfl
theorem TogS.low (h : TogS w base X M v A n c G C d H R) : ∀ b, TogT X M A n c C d b → base ≤ b := fun b hb => by
  rcases hb with rfl | rfl | hb | hb
  · exact h.lb
  · exact h.mb
  · exact (h.gp.own.lt b hb).1
  · exact (h.ps.own.lt b hb).1
theorem TogS.high (h : TogS w base X M v A n c G C d H R) : ∀ b, TogT X M A n c C d b → b < w.heap.size := fun b hb => by
  obtain ⟨f, hm, -⟩ := h.mp
  rcases hb with rfl | rfl | hb | hb
  · exact h.lt
  · exact hm.lt
  · exact (h.gp.own.lt b hb).2
  · exact (h.ps.own.lt b hb).2
/-- A block of any other type is none of those that change. -/
theorem TogS.other (h : TogS w base X M v A n c G C d H R) {b : Nat} {cur : Array Value} {t : TypeId} {z : Nat × Nat} (hb : w.heap[b]? = some (.cells cur t z)) (h1 : t ≠ 117) (h2 : t ≠ 26) (h3 : t ≠ 22) : ¬ TogT X M A n c C d b := fun ht => by
  rcases ht with rfl | rfl | ht | ht
  · have := h.cell
    rw [hb] at this
    injection this with this
    injection this with _ this
    exact h1 this
  · obtain ⟨f, hm, -⟩ := h.mp
    obtain ⟨es, clock, hm⟩ := hm.map
    rw [hb] at hm
    cases hm
  · exact h.gp.own.other hb h2 ht.symm
  · exact h.ps.own.other hb h3 ht.symm
end

end Go.Proofs.YtiaclddgllkgpaaGreatDoor
