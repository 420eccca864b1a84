/-
  Lists of numbers as arguments: words. Conditions: none.
-/
import Derived.Test.YthlaoedpjloloaaGreatDoorBaseD
namespace Go.Proofs.YthlaoedpjloloaaGreatDoor
open Go.ChangeShapes Go.WideShapes Go.ChangeAt Go.RowKit
set_option linter.unusedVariables false

theorem ArgI.long {w : World} {lo hi : Nat} {v : Value} {d : List Int} (h : ArgI w lo hi v d) : ∃ A n c, v = .slice A n c ∧ SlI w lo hi A n d := by
  obtain ⟨A, n, c, h1, h2, h3⟩ := h
  exact ⟨A, n, c, h1, h3⟩
theorem SlI.top {w : World} {lo hi : Nat} {A : Option Addr} {n : Nat} {l : List Int} (h : SlI w lo hi A n l) (hh : hi ≤ w.heap.size) : SlI w 0 w.heap.size A n l := h.more (Nat.zero_le _) hh

end Go.Proofs.YthlaoedpjloloaaGreatDoor
