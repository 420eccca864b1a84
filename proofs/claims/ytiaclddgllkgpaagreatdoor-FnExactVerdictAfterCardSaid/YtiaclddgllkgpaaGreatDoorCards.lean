/-
  DERIVED. GIVEN WITH THE SEED: THE CARDS: each row of YtiaclddgllkgpaaGreatDoorRows.lean that lists a variable, with what it lists TIED to the program's text (the seventh form; the later family's looks); each row that meets fmt, with fmt's text TOLD by the authors' own Lean function (tested against real Go, not proved from fmt's source: count such statements apart). THE CARD IS WHAT COUNTS. Prove the row's statement (the work); the ties are given (YtiaclddgllkgpaaGreatDoorTie.lean); close each card by the builder's one call (the guide's Derived/Test/ToyasCard.lean, 'card_holds'). Laid BY PROGRAM, IN A SANDBOX (cutbox-door.mjs). By AI agents, Wed Nov 11 2026. No macro, syntax, notation, axiom, sorry.
-/
import Derived.Test.YtiaclddgllkgpaaGreatDoorRows
import GoSem.ClaimSeven
namespace Go.Proofs.YtiaclddgllkgpaaGreatDoor
namespace Rows

/-- THE TIED CARD OF 'laws.FnExactValidMonitor'. -/
def fnExactValidMonitorCard : Claim7 := { stood := { row := fnExactValidMonitorRow, standIns := [], harness := (true, "403875b915c3c43a31b5a56e32efa5a356bb6950aea9f753ca2441b74987d5a6"), looks := true }, kinds := [], alts := [], laidByText := true, laidKinds := [.data, .data, .data, .data, .sentinel, .sentinel, .pinned], laidTests := true, laidLooks := .later }
def FnExactValidMonitorCardSaid : Prop := Claim7.holds Tryz.pinned (.plain (OpenSpec.ofChange fnExactValidMonitorSpec)) fnExactValidMonitorCard

/-- THE TIED CARD OF 'laws.FnExactValidPlant'. -/
def fnExactValidPlantCard : Claim7 := { stood := { row := fnExactValidPlantRow, standIns := [], harness := (true, "403875b915c3c43a31b5a56e32efa5a356bb6950aea9f753ca2441b74987d5a6"), looks := true }, kinds := [], alts := [], laidByText := true, laidKinds := [.data, .data, .data, .data, .sentinel, .sentinel, .pinned], laidTests := true, laidLooks := .later }
def FnExactValidPlantCardSaid : Prop := Claim7.holds Tryz.pinned (.plain (OpenSpec.ofChange fnExactValidPlantSpec)) fnExactValidPlantCard

/-- THE TIED CARD OF 'laws.FnExactMarkDistances'. -/
def fnExactMarkDistancesCard : Claim7 := { stood := { row := fnExactMarkDistancesRow, standIns := [], harness := (true, "403875b915c3c43a31b5a56e32efa5a356bb6950aea9f753ca2441b74987d5a6"), looks := true }, kinds := [], alts := [], laidByText := true, laidKinds := [.data, .data, .data, .data, .sentinel, .sentinel, .pinned], laidTests := true, laidLooks := .later }
def FnExactMarkDistancesCardSaid : Prop := Claim7.holds Tryz.pinned (.plain (OpenSpec.ofChange fnExactMarkDistancesSpec)) fnExactMarkDistancesCard

/-- THE TIED CARD OF 'laws.FnExactBlockingStates'. -/
def fnExactBlockingStatesCard : Claim7 := { stood := { row := fnExactBlockingStatesRow, standIns := [], harness := (true, "403875b915c3c43a31b5a56e32efa5a356bb6950aea9f753ca2441b74987d5a6"), looks := true }, kinds := [], alts := [], laidByText := true, laidKinds := [.data, .data, .data, .data, .sentinel, .sentinel, .pinned], laidTests := true, laidLooks := .later }
def FnExactBlockingStatesCardSaid : Prop := Claim7.holds Tryz.pinned (.plain (OpenSpec.ofChange fnExactBlockingStatesSpec)) fnExactBlockingStatesCard

/-- THE TIED CARD OF 'laws.FnExactObserveLabel'. -/
def fnExactObserveLabelCard : Claim7 := { stood := { row := fnExactObserveLabelRow, standIns := [], harness := (true, "403875b915c3c43a31b5a56e32efa5a356bb6950aea9f753ca2441b74987d5a6"), looks := true }, kinds := [], alts := [], laidByText := true, laidKinds := [.data, .data, .data, .data, .sentinel, .sentinel, .pinned], laidTests := true, laidLooks := .later }
def FnExactObserveLabelCardSaid : Prop := Claim7.holds Tryz.pinned (.plain (OpenSpec.ofChange fnExactObserveLabelSpec)) fnExactObserveLabelCard

/-- THE TIED CARD OF 'laws.FnExactRunMonitor'. -/
def fnExactRunMonitorCard : Claim7 := { stood := { row := fnExactRunMonitorRow, standIns := [], harness := (true, "403875b915c3c43a31b5a56e32efa5a356bb6950aea9f753ca2441b74987d5a6"), looks := true }, kinds := [], alts := [], laidByText := true, laidKinds := [.data, .data, .data, .data, .sentinel, .sentinel, .pinned], laidTests := true, laidLooks := .later }
def FnExactRunMonitorCardSaid : Prop := Claim7.holds Tryz.pinned (.plain (OpenSpec.ofChange fnExactRunMonitorSpec)) fnExactRunMonitorCard

/-- THE TIED CARD OF 'laws.FnExactEnforceTrace'. -/
def fnExactEnforceTraceCard : Claim7 := { stood := { row := fnExactEnforceTraceRow, standIns := [], harness := (true, "403875b915c3c43a31b5a56e32efa5a356bb6950aea9f753ca2441b74987d5a6"), looks := true }, kinds := [], alts := [], laidByText := true, laidKinds := [.data, .data, .data, .data, .sentinel, .sentinel, .pinned], laidTests := true, laidLooks := .later }
def FnExactEnforceTraceCardSaid : Prop := Claim7.holds Tryz.pinned (.plain (OpenSpec.ofChange fnExactEnforceTraceSpec)) fnExactEnforceTraceCard

/-- THE TIED CARD OF 'laws.FnExactPreventedAfter'. -/
def fnExactPreventedAfterCard : Claim7 := { stood := { row := fnExactPreventedAfterRow, standIns := [], harness := (true, "403875b915c3c43a31b5a56e32efa5a356bb6950aea9f753ca2441b74987d5a6"), looks := true }, kinds := [], alts := [], laidByText := true, laidKinds := [.data, .data, .data, .data, .sentinel, .sentinel, .pinned], laidTests := true, laidLooks := .later }
def FnExactPreventedAfterCardSaid : Prop := Claim7.holds Tryz.pinned (.plain (OpenSpec.ofChange fnExactPreventedAfterSpec)) fnExactPreventedAfterCard

/-- THE TIED CARD OF 'laws.FnExactIsControllable'. -/
def fnExactIsControllableCard : Claim7 := { stood := { row := fnExactIsControllableRow, standIns := [], harness := (true, "403875b915c3c43a31b5a56e32efa5a356bb6950aea9f753ca2441b74987d5a6"), looks := true }, kinds := [], alts := [], laidByText := true, laidKinds := [.data, .data, .data, .data, .sentinel, .sentinel, .pinned], laidTests := true, laidLooks := .later }
def FnExactIsControllableCardSaid : Prop := Claim7.holds Tryz.pinned (.plain (OpenSpec.ofChange fnExactIsControllableSpec)) fnExactIsControllableCard

/-- THE TIED CARD OF 'laws.FnExactVerdictAfter'. -/
def fnExactVerdictAfterCard : Claim7 := { stood := { row := fnExactVerdictAfterRow, standIns := [], harness := (true, "403875b915c3c43a31b5a56e32efa5a356bb6950aea9f753ca2441b74987d5a6"), looks := true }, kinds := [], alts := [], laidByText := true, laidKinds := [.data, .data, .data, .data, .sentinel, .sentinel, .pinned], laidTests := true, laidLooks := .later }
def FnExactVerdictAfterCardSaid : Prop := Claim7.holds Tryz.pinned (.plain (OpenSpec.ofChange fnExactVerdictAfterSpec)) fnExactVerdictAfterCard

/-- THE TIED CARD OF 'laws.FnExactControlFault'. -/
def fnExactControlFaultCard : Claim7 := { stood := { row := fnExactControlFaultRow, standIns := [], harness := (true, "403875b915c3c43a31b5a56e32efa5a356bb6950aea9f753ca2441b74987d5a6"), looks := true }, kinds := [], alts := [], laidByText := true, laidKinds := [.data, .data, .data, .data, .sentinel, .sentinel, .pinned], laidTests := true, laidLooks := .later }
def FnExactControlFaultCardSaid : Prop := Claim7.holds Tryz.pinned (.plain (OpenSpec.ofChange fnExactControlFaultSpec)) fnExactControlFaultCard

/-- THE SECOND FORM's CARD OF 'laws.FnExactValidMonitor'. -/
def fnExactValidMonitorUptoCard : Claim7 := { stood := { row := fnExactValidMonitorUptoRow, standIns := [], harness := (true, "403875b915c3c43a31b5a56e32efa5a356bb6950aea9f753ca2441b74987d5a6"), looks := true }, kinds := [], alts := [], laidByText := true, laidKinds := [.data, .data, .data, .data, .sentinel, .sentinel, .pinned], laidTests := true, laidLooks := .later }
def FnExactValidMonitorUptoCardSaid : Prop := Claim7.holds Tryz.pinned (.plain (OpenSpec.upto fnExactValidMonitorSpec)) fnExactValidMonitorUptoCard

/-- THE SECOND FORM's CARD OF 'laws.FnExactValidPlant'. -/
def fnExactValidPlantUptoCard : Claim7 := { stood := { row := fnExactValidPlantUptoRow, standIns := [], harness := (true, "403875b915c3c43a31b5a56e32efa5a356bb6950aea9f753ca2441b74987d5a6"), looks := true }, kinds := [], alts := [], laidByText := true, laidKinds := [.data, .data, .data, .data, .sentinel, .sentinel, .pinned], laidTests := true, laidLooks := .later }
def FnExactValidPlantUptoCardSaid : Prop := Claim7.holds Tryz.pinned (.plain (OpenSpec.upto fnExactValidPlantSpec)) fnExactValidPlantUptoCard

/-- THE SECOND FORM's CARD OF 'laws.FnExactMarkDistances'. -/
def fnExactMarkDistancesUptoCard : Claim7 := { stood := { row := fnExactMarkDistancesUptoRow, standIns := [], harness := (true, "403875b915c3c43a31b5a56e32efa5a356bb6950aea9f753ca2441b74987d5a6"), looks := true }, kinds := [], alts := [], laidByText := true, laidKinds := [.data, .data, .data, .data, .sentinel, .sentinel, .pinned], laidTests := true, laidLooks := .later }
def FnExactMarkDistancesUptoCardSaid : Prop := Claim7.holds Tryz.pinned (.plain (OpenSpec.upto fnExactMarkDistancesSpec)) fnExactMarkDistancesUptoCard

/-- THE SECOND FORM's CARD OF 'laws.FnExactBlockingStates'. -/
def fnExactBlockingStatesUptoCard : Claim7 := { stood := { row := fnExactBlockingStatesUptoRow, standIns := [], harness := (true, "403875b915c3c43a31b5a56e32efa5a356bb6950aea9f753ca2441b74987d5a6"), looks := true }, kinds := [], alts := [], laidByText := true, laidKinds := [.data, .data, .data, .data, .sentinel, .sentinel, .pinned], laidTests := true, laidLooks := .later }
def FnExactBlockingStatesUptoCardSaid : Prop := Claim7.holds Tryz.pinned (.plain (OpenSpec.upto fnExactBlockingStatesSpec)) fnExactBlockingStatesUptoCard

/-- THE SECOND FORM's CARD OF 'laws.FnExactObserveLabel'. -/
def fnExactObserveLabelUptoCard : Claim7 := { stood := { row := fnExactObserveLabelUptoRow, standIns := [], harness := (true, "403875b915c3c43a31b5a56e32efa5a356bb6950aea9f753ca2441b74987d5a6"), looks := true }, kinds := [], alts := [], laidByText := true, laidKinds := [.data, .data, .data, .data, .sentinel, .sentinel, .pinned], laidTests := true, laidLooks := .later }
def FnExactObserveLabelUptoCardSaid : Prop := Claim7.holds Tryz.pinned (.plain (OpenSpec.upto fnExactObserveLabelSpec)) fnExactObserveLabelUptoCard

/-- THE SECOND FORM's CARD OF 'laws.FnExactRunMonitor'. -/
def fnExactRunMonitorUptoCard : Claim7 := { stood := { row := fnExactRunMonitorUptoRow, standIns := [], harness := (true, "403875b915c3c43a31b5a56e32efa5a356bb6950aea9f753ca2441b74987d5a6"), looks := true }, kinds := [], alts := [], laidByText := true, laidKinds := [.data, .data, .data, .data, .sentinel, .sentinel, .pinned], laidTests := true, laidLooks := .later }
def FnExactRunMonitorUptoCardSaid : Prop := Claim7.holds Tryz.pinned (.plain (OpenSpec.upto fnExactRunMonitorSpec)) fnExactRunMonitorUptoCard

/-- THE SECOND FORM's CARD OF 'laws.FnExactEnforceTrace'. -/
def fnExactEnforceTraceUptoCard : Claim7 := { stood := { row := fnExactEnforceTraceUptoRow, standIns := [], harness := (true, "403875b915c3c43a31b5a56e32efa5a356bb6950aea9f753ca2441b74987d5a6"), looks := true }, kinds := [], alts := [], laidByText := true, laidKinds := [.data, .data, .data, .data, .sentinel, .sentinel, .pinned], laidTests := true, laidLooks := .later }
def FnExactEnforceTraceUptoCardSaid : Prop := Claim7.holds Tryz.pinned (.plain (OpenSpec.upto fnExactEnforceTraceSpec)) fnExactEnforceTraceUptoCard

/-- THE SECOND FORM's CARD OF 'laws.FnExactPreventedAfter'. -/
def fnExactPreventedAfterUptoCard : Claim7 := { stood := { row := fnExactPreventedAfterUptoRow, standIns := [], harness := (true, "403875b915c3c43a31b5a56e32efa5a356bb6950aea9f753ca2441b74987d5a6"), looks := true }, kinds := [], alts := [], laidByText := true, laidKinds := [.data, .data, .data, .data, .sentinel, .sentinel, .pinned], laidTests := true, laidLooks := .later }
def FnExactPreventedAfterUptoCardSaid : Prop := Claim7.holds Tryz.pinned (.plain (OpenSpec.upto fnExactPreventedAfterSpec)) fnExactPreventedAfterUptoCard

/-- THE SECOND FORM's CARD OF 'laws.FnExactIsControllable'. -/
def fnExactIsControllableUptoCard : Claim7 := { stood := { row := fnExactIsControllableUptoRow, standIns := [], harness := (true, "403875b915c3c43a31b5a56e32efa5a356bb6950aea9f753ca2441b74987d5a6"), looks := true }, kinds := [], alts := [], laidByText := true, laidKinds := [.data, .data, .data, .data, .sentinel, .sentinel, .pinned], laidTests := true, laidLooks := .later }
def FnExactIsControllableUptoCardSaid : Prop := Claim7.holds Tryz.pinned (.plain (OpenSpec.upto fnExactIsControllableSpec)) fnExactIsControllableUptoCard

/-- THE SECOND FORM's CARD OF 'laws.FnExactVerdictAfter'. -/
def fnExactVerdictAfterUptoCard : Claim7 := { stood := { row := fnExactVerdictAfterUptoRow, standIns := [], harness := (true, "403875b915c3c43a31b5a56e32efa5a356bb6950aea9f753ca2441b74987d5a6"), looks := true }, kinds := [], alts := [], laidByText := true, laidKinds := [.data, .data, .data, .data, .sentinel, .sentinel, .pinned], laidTests := true, laidLooks := .later }
def FnExactVerdictAfterUptoCardSaid : Prop := Claim7.holds Tryz.pinned (.plain (OpenSpec.upto fnExactVerdictAfterSpec)) fnExactVerdictAfterUptoCard

/-- THE SECOND FORM's CARD OF 'laws.FnExactControlFault'. -/
def fnExactControlFaultUptoCard : Claim7 := { stood := { row := fnExactControlFaultUptoRow, standIns := [], harness := (true, "403875b915c3c43a31b5a56e32efa5a356bb6950aea9f753ca2441b74987d5a6"), looks := true }, kinds := [], alts := [], laidByText := true, laidKinds := [.data, .data, .data, .data, .sentinel, .sentinel, .pinned], laidTests := true, laidLooks := .later }
def FnExactControlFaultUptoCardSaid : Prop := Claim7.holds Tryz.pinned (.plain (OpenSpec.upto fnExactControlFaultSpec)) fnExactControlFaultUptoCard
end Rows
end Go.Proofs.YtiaclddgllkgpaaGreatDoor
