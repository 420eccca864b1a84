/-
  Closed facts of the whole program, and the rows' condition in one form. Conditions: none.
-/
import Derived.Test.YthlaoedpjloloaaGreatDoorBaseD
import Derived.Test.YthlaoedpjloloaaGreatDoorTie
import Derived.Test.YthlaoedpjloloaaGreatDoorCards
namespace Go.Proofs.YthlaoedpjloloaaGreatDoor
open Go.ChangeShapes Go.WideShapes Go.ChangeAt Go.RowKit
set_option linter.unusedVariables false

theorem fact_laid : laidOutB Tryz.pinned.checked.prog = true := by kernel_rfl
theorem fact_maps : mapsRowed Tryz.pinned.checked.prog = true := by kernel_rfl
theorem fact_heard : Tryz.pinned.checked.prog.stopsHeard = true := by kernel_rfl
theorem fact_enter : Tryz.pinned.checked.prog.mayEnter = true := by kernel_rfl
theorem fact_lifts : Tryz.pinned.checked.prog.liftsFinal = Rows.fnExactSimulationRoundRow.lifted := by kernel_rfl
theorem fact_make : Tryz.pinned.checked.prog.make = some Rows.fnExactSimulationRoundRow.make := by kernel_rfl
theorem fact_main : Tryz.pinned.checked.prog.mainIs = some (true, "63542e0b55f7575e24d6584ebe0616a336054af639c27f673fc732bb31f9d188".toList) := by kernel_rfl
theorem fact_looks : true = Tryz.pinned.checked.prog.looks [] := by kernel_rfl
theorem plain_laid : (laidL.filter fun x => x.2.handleName?.isSome) = [] := by kernel_rfl
theorem pre_laid {H : Type} {enc : TypeId × Value → H} {P : Program} {f : Func} {s : OpenSpec} {c : OpenClaim} (hl : c.laid = laidL) :
    c.pre enc P f s = fun w args => (s.pre enc P f c.domain c.apart w args ∧ laidMet P laidL w) ∧ sizedMet enc P f s c.apart w args := by
  obtain ⟨x, r, e⟩ : ∃ x r, laidL = x :: r := ⟨_, _, rfl⟩
  have hp := plain_laid
  funext w args
  unfold OpenClaim.pre OpenClaim.preLaid
  rw [hl]
  rw [e] at hp ⊢
  show ((_ ∧ laidMetH P (x :: r) w) ∧ _) = _
  unfold laidMetH
  rw [hp]

end Go.Proofs.YthlaoedpjloloaaGreatDoor
