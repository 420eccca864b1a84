/-
  DERIVED. GIVEN WITH THE SEED: THE CARDS: each row of YtanlgnjgpbjebaaGreatDoorRows.lean that lists a variable, with what it lists TIED to the program's text (the seventh form; the later family's looks); each row that meets fmt, with fmt's text TOLD by the authors' own Lean function (tested against real Go, not proved from fmt's source: count such statements apart). THE CARD IS WHAT COUNTS. Prove the row's statement (the work); the ties are given (YtanlgnjgpbjebaaGreatDoorTie.lean); close each card by the builder's one call (the guide's Derived/Test/ToyasCard.lean, 'card_holds'). Laid BY PROGRAM, IN A SANDBOX (cutbox-door.mjs). By AI agents, Wed Nov 11 2026. No macro, syntax, notation, axiom, sorry.
-/
import Derived.Test.YtanlgnjgpbjebaaGreatDoorRows
import GoSem.ClaimSeven
namespace Go.Proofs.YtanlgnjgpbjebaaGreatDoor
namespace Rows

/-- THE TIED CARD OF 'laws.FnExactFormulaHolds'. -/
def fnExactFormulaHoldsCard : Claim7 := { stood := { row := fnExactFormulaHoldsRow, standIns := [], harness := (true, "bfc252992bf6c1113b275f27b620619f35e36127a813af0a44b0b9f500c36f45"), looks := true }, kinds := [], alts := [], laidByText := true, laidKinds := [.data, .data, .data, .data, .sentinel, .sentinel, .pinned], laidTests := true, laidLooks := .later }
def FnExactFormulaHoldsCardSaid : Prop := Claim7.holds Tryz.pinned (.plain (OpenSpec.ofChange fnExactFormulaHoldsSpec)) fnExactFormulaHoldsCard

/-- THE TIED CARD OF 'laws.FnExactImpliesOn'. -/
def fnExactImpliesOnCard : Claim7 := { stood := { row := fnExactImpliesOnRow, standIns := [], harness := (true, "bfc252992bf6c1113b275f27b620619f35e36127a813af0a44b0b9f500c36f45"), looks := true }, kinds := [], alts := [], laidByText := true, laidKinds := [.data, .data, .data, .data, .sentinel, .sentinel, .pinned], laidTests := true, laidLooks := .later }
def FnExactImpliesOnCardSaid : Prop := Claim7.holds Tryz.pinned (.plain (OpenSpec.ofChange fnExactImpliesOnSpec)) fnExactImpliesOnCard

/-- THE TIED CARD OF 'laws.FnExactClosureRound'. -/
def fnExactClosureRoundCard : Claim7 := { stood := { row := fnExactClosureRoundRow, standIns := [], harness := (true, "bfc252992bf6c1113b275f27b620619f35e36127a813af0a44b0b9f500c36f45"), looks := true }, kinds := [], alts := [], laidByText := true, laidKinds := [.data, .data, .data, .data, .sentinel, .sentinel, .pinned], laidTests := true, laidLooks := .later }
def FnExactClosureRoundCardSaid : Prop := Claim7.holds Tryz.pinned (.plain (OpenSpec.ofChange fnExactClosureRoundSpec)) fnExactClosureRoundCard

/-- THE TIED CARD OF 'laws.FnExactEntryRound'. -/
def fnExactEntryRoundCard : Claim7 := { stood := { row := fnExactEntryRoundRow, standIns := [], harness := (true, "bfc252992bf6c1113b275f27b620619f35e36127a813af0a44b0b9f500c36f45"), looks := true }, kinds := [], alts := [], laidByText := true, laidKinds := [.data, .data, .data, .data, .sentinel, .sentinel, .pinned], laidTests := true, laidLooks := .later }
def FnExactEntryRoundCardSaid : Prop := Claim7.holds Tryz.pinned (.plain (OpenSpec.ofChange fnExactEntryRoundSpec)) fnExactEntryRoundCard

/-- THE TIED CARD OF 'laws.FnExactIsFixedSet'. -/
def fnExactIsFixedSetCard : Claim7 := { stood := { row := fnExactIsFixedSetRow, standIns := [], harness := (true, "bfc252992bf6c1113b275f27b620619f35e36127a813af0a44b0b9f500c36f45"), looks := true }, kinds := [], alts := [], laidByText := true, laidKinds := [.data, .data, .data, .data, .sentinel, .sentinel, .pinned], laidTests := true, laidLooks := .later }
def FnExactIsFixedSetCardSaid : Prop := Claim7.holds Tryz.pinned (.plain (OpenSpec.ofChange fnExactIsFixedSetSpec)) fnExactIsFixedSetCard

/-- THE TIED CARD OF 'laws.FnExactFormulaStates'. -/
def fnExactFormulaStatesCard : Claim7 := { stood := { row := fnExactFormulaStatesRow, standIns := [], harness := (true, "bfc252992bf6c1113b275f27b620619f35e36127a813af0a44b0b9f500c36f45"), looks := true }, kinds := [], alts := [], laidByText := true, laidKinds := [.data, .data, .data, .data, .sentinel, .sentinel, .pinned], laidTests := true, laidLooks := .later }
def FnExactFormulaStatesCardSaid : Prop := Claim7.holds Tryz.pinned (.plain (OpenSpec.ofChange fnExactFormulaStatesSpec)) fnExactFormulaStatesCard

/-- THE TIED CARD OF 'laws.FnExactSubformulaStates'. -/
def fnExactSubformulaStatesCard : Claim7 := { stood := { row := fnExactSubformulaStatesRow, standIns := [], harness := (true, "bfc252992bf6c1113b275f27b620619f35e36127a813af0a44b0b9f500c36f45"), looks := true }, kinds := [], alts := [], laidByText := true, laidKinds := [.data, .data, .data, .data, .sentinel, .sentinel, .pinned], laidTests := true, laidLooks := .later }
def FnExactSubformulaStatesCardSaid : Prop := Claim7.holds Tryz.pinned (.plain (OpenSpec.ofChange fnExactSubformulaStatesSpec)) fnExactSubformulaStatesCard

/-- THE TIED CARD OF 'laws.FnExactDifferenceStates'. -/
def fnExactDifferenceStatesCard : Claim7 := { stood := { row := fnExactDifferenceStatesRow, standIns := [], harness := (true, "bfc252992bf6c1113b275f27b620619f35e36127a813af0a44b0b9f500c36f45"), looks := true }, kinds := [], alts := [], laidByText := true, laidKinds := [.data, .data, .data, .data, .sentinel, .sentinel, .pinned], laidTests := true, laidLooks := .later }
def FnExactDifferenceStatesCardSaid : Prop := Claim7.holds Tryz.pinned (.plain (OpenSpec.ofChange fnExactDifferenceStatesSpec)) fnExactDifferenceStatesCard

/-- THE TIED CARD OF 'laws.FnExactApproximantStates'. -/
def fnExactApproximantStatesCard : Claim7 := { stood := { row := fnExactApproximantStatesRow, standIns := [], harness := (true, "bfc252992bf6c1113b275f27b620619f35e36127a813af0a44b0b9f500c36f45"), looks := true }, kinds := [], alts := [], laidByText := true, laidKinds := [.data, .data, .data, .data, .sentinel, .sentinel, .pinned], laidTests := true, laidLooks := .later }
def FnExactApproximantStatesCardSaid : Prop := Claim7.holds Tryz.pinned (.plain (OpenSpec.ofChange fnExactApproximantStatesSpec)) fnExactApproximantStatesCard

/-- THE SECOND FORM's CARD OF 'laws.FnExactFormulaHolds'. -/
def fnExactFormulaHoldsUptoCard : Claim7 := { stood := { row := fnExactFormulaHoldsUptoRow, standIns := [], harness := (true, "bfc252992bf6c1113b275f27b620619f35e36127a813af0a44b0b9f500c36f45"), looks := true }, kinds := [], alts := [], laidByText := true, laidKinds := [.data, .data, .data, .data, .sentinel, .sentinel, .pinned], laidTests := true, laidLooks := .later }
def FnExactFormulaHoldsUptoCardSaid : Prop := Claim7.holds Tryz.pinned (.plain (OpenSpec.upto fnExactFormulaHoldsSpec)) fnExactFormulaHoldsUptoCard

/-- THE SECOND FORM's CARD OF 'laws.FnExactImpliesOn'. -/
def fnExactImpliesOnUptoCard : Claim7 := { stood := { row := fnExactImpliesOnUptoRow, standIns := [], harness := (true, "bfc252992bf6c1113b275f27b620619f35e36127a813af0a44b0b9f500c36f45"), looks := true }, kinds := [], alts := [], laidByText := true, laidKinds := [.data, .data, .data, .data, .sentinel, .sentinel, .pinned], laidTests := true, laidLooks := .later }
def FnExactImpliesOnUptoCardSaid : Prop := Claim7.holds Tryz.pinned (.plain (OpenSpec.upto fnExactImpliesOnSpec)) fnExactImpliesOnUptoCard

/-- THE SECOND FORM's CARD OF 'laws.FnExactClosureRound'. -/
def fnExactClosureRoundUptoCard : Claim7 := { stood := { row := fnExactClosureRoundUptoRow, standIns := [], harness := (true, "bfc252992bf6c1113b275f27b620619f35e36127a813af0a44b0b9f500c36f45"), looks := true }, kinds := [], alts := [], laidByText := true, laidKinds := [.data, .data, .data, .data, .sentinel, .sentinel, .pinned], laidTests := true, laidLooks := .later }
def FnExactClosureRoundUptoCardSaid : Prop := Claim7.holds Tryz.pinned (.plain (OpenSpec.upto fnExactClosureRoundSpec)) fnExactClosureRoundUptoCard

/-- THE SECOND FORM's CARD OF 'laws.FnExactEntryRound'. -/
def fnExactEntryRoundUptoCard : Claim7 := { stood := { row := fnExactEntryRoundUptoRow, standIns := [], harness := (true, "bfc252992bf6c1113b275f27b620619f35e36127a813af0a44b0b9f500c36f45"), looks := true }, kinds := [], alts := [], laidByText := true, laidKinds := [.data, .data, .data, .data, .sentinel, .sentinel, .pinned], laidTests := true, laidLooks := .later }
def FnExactEntryRoundUptoCardSaid : Prop := Claim7.holds Tryz.pinned (.plain (OpenSpec.upto fnExactEntryRoundSpec)) fnExactEntryRoundUptoCard

/-- THE SECOND FORM's CARD OF 'laws.FnExactIsFixedSet'. -/
def fnExactIsFixedSetUptoCard : Claim7 := { stood := { row := fnExactIsFixedSetUptoRow, standIns := [], harness := (true, "bfc252992bf6c1113b275f27b620619f35e36127a813af0a44b0b9f500c36f45"), looks := true }, kinds := [], alts := [], laidByText := true, laidKinds := [.data, .data, .data, .data, .sentinel, .sentinel, .pinned], laidTests := true, laidLooks := .later }
def FnExactIsFixedSetUptoCardSaid : Prop := Claim7.holds Tryz.pinned (.plain (OpenSpec.upto fnExactIsFixedSetSpec)) fnExactIsFixedSetUptoCard

/-- THE SECOND FORM's CARD OF 'laws.FnExactFormulaStates'. -/
def fnExactFormulaStatesUptoCard : Claim7 := { stood := { row := fnExactFormulaStatesUptoRow, standIns := [], harness := (true, "bfc252992bf6c1113b275f27b620619f35e36127a813af0a44b0b9f500c36f45"), looks := true }, kinds := [], alts := [], laidByText := true, laidKinds := [.data, .data, .data, .data, .sentinel, .sentinel, .pinned], laidTests := true, laidLooks := .later }
def FnExactFormulaStatesUptoCardSaid : Prop := Claim7.holds Tryz.pinned (.plain (OpenSpec.upto fnExactFormulaStatesSpec)) fnExactFormulaStatesUptoCard

/-- THE SECOND FORM's CARD OF 'laws.FnExactSubformulaStates'. -/
def fnExactSubformulaStatesUptoCard : Claim7 := { stood := { row := fnExactSubformulaStatesUptoRow, standIns := [], harness := (true, "bfc252992bf6c1113b275f27b620619f35e36127a813af0a44b0b9f500c36f45"), looks := true }, kinds := [], alts := [], laidByText := true, laidKinds := [.data, .data, .data, .data, .sentinel, .sentinel, .pinned], laidTests := true, laidLooks := .later }
def FnExactSubformulaStatesUptoCardSaid : Prop := Claim7.holds Tryz.pinned (.plain (OpenSpec.upto fnExactSubformulaStatesSpec)) fnExactSubformulaStatesUptoCard

/-- THE SECOND FORM's CARD OF 'laws.FnExactDifferenceStates'. -/
def fnExactDifferenceStatesUptoCard : Claim7 := { stood := { row := fnExactDifferenceStatesUptoRow, standIns := [], harness := (true, "bfc252992bf6c1113b275f27b620619f35e36127a813af0a44b0b9f500c36f45"), looks := true }, kinds := [], alts := [], laidByText := true, laidKinds := [.data, .data, .data, .data, .sentinel, .sentinel, .pinned], laidTests := true, laidLooks := .later }
def FnExactDifferenceStatesUptoCardSaid : Prop := Claim7.holds Tryz.pinned (.plain (OpenSpec.upto fnExactDifferenceStatesSpec)) fnExactDifferenceStatesUptoCard

/-- THE SECOND FORM's CARD OF 'laws.FnExactApproximantStates'. -/
def fnExactApproximantStatesUptoCard : Claim7 := { stood := { row := fnExactApproximantStatesUptoRow, standIns := [], harness := (true, "bfc252992bf6c1113b275f27b620619f35e36127a813af0a44b0b9f500c36f45"), looks := true }, kinds := [], alts := [], laidByText := true, laidKinds := [.data, .data, .data, .data, .sentinel, .sentinel, .pinned], laidTests := true, laidLooks := .later }
def FnExactApproximantStatesUptoCardSaid : Prop := Claim7.holds Tryz.pinned (.plain (OpenSpec.upto fnExactApproximantStatesSpec)) fnExactApproximantStatesUptoCard
end Rows
end Go.Proofs.YtanlgnjgpbjebaaGreatDoor
