/-
  A list that grows, begun before some other blocks were made. Conditions: none.
-/
import Derived.Test.YtiaclddgllkgpaaGreatDoorBaseA
import Derived.Deep.RegionHeld
namespace Go.Proofs.YtiaclddgllkgpaaGreatDoor
open Go.ChangeShapes Go.WideShapes Go.ChangeAt Go.RowKit
set_option linter.unusedVariables false

theorem alloc_some {w : World} {o : Obj} {a : Addr} {v : Value} (h : w.cell? a = some v) : (w.alloc o).cell? a = some v := (World.cell?_alloc_some w a o (by rw [h]; rfl)).trans h
/-- A grown list, begun before some other blocks were made. -/
structure OwnC {α : Type} (size : Nat) (f : α → List Value) (t : TypeId) (w1 : World) (BB : Nat) (w : World) (A : Option Addr) (m c : Nat) (l : List α) : Prop where
  own : Own size f w BB t A m c l
  at_ : ∀ g, (Value.slice A m c).ownBlock = some g → g = BB ∨ w1.heap.size ≤ g
  only : Only BB (BB + 1) w1 w
theorem OwnC.below {α : Type} {size : Nat} {f : α → List Value} {t : TypeId} {w1 w w' : World} {BB m c : Nat} {A : Option Addr} {l : List α} (h : OwnC size f t w1 BB w A m c l) (hb : Below w.heap.size w w') : OwnC size f t w1 BB w' A m c l :=
  ⟨h.own.below hb (Nat.le_refl _), h.at_, ⟨hb.os.trans h.only.os, hb.tape.trans h.only.tape, hb.output.trans h.only.output, Nat.le_trans h.only.size hb.size, fun b hb' ho => (hb.block b (Nat.lt_of_lt_of_le hb' h.only.size)).trans (h.only.block b hb' ho)⟩⟩
theorem OwnC.app {α : Type} {size : Nat} {f : α → List Value} {t : TypeId} {w1 w w' : World} {BB m c m' c' : Nat} {A A' : Option Addr} {l l' : List α} (h : OwnC size f t w1 BB w A m c l) (ho : Own size f w' BB t A' m' c' l') (hg : w.grownBy w' (Value.slice A m c).ownBlock)
    (ha : (Value.slice A' m' c').ownBlock = (Value.slice A m c).ownBlock ∨ (Value.slice A' m' c').ownBlock = some w.heap.size) : OwnC size f t w1 BB w' A' m' c' l' := by
  refine ⟨ho, fun g hg' => ?_, ⟨hg.os.trans h.only.os, hg.tape.trans h.only.tape, hg.output.trans h.only.output, Nat.le_trans h.only.size hg.size, fun b hb' hb2 => (hg.block b (Nat.lt_of_lt_of_le hb' h.only.size) fun e => ?_).trans (h.only.block b hb' hb2)⟩⟩
  · rcases ha with ha | ha
    · exact h.at_ g (by rw [← ha]; exact hg')
    · rw [ha] at hg'
      injection hg' with e
      have := h.only.size
      omega
  · have := h.at_ b e.symm
    omega

end Go.Proofs.YtiaclddgllkgpaaGreatDoor
