/-
  DERIVED. GIVEN WITH THE SEED: THE CARDS: each row of YtnhomkmfbngmgaaGreatDoorRows.lean that lists a variable, with what it lists TIED to the program's text (the seventh form; the later family's looks); each row that meets fmt, with fmt's text TOLD by the authors' own Lean function (tested against real Go, not proved from fmt's source: count such statements apart). THE CARD IS WHAT COUNTS. Prove the row's statement (the work); the ties are given (YtnhomkmfbngmgaaGreatDoorTie.lean); close each card by the builder's one call (the guide's Derived/Test/ToyasCard.lean, 'card_holds'). Laid BY PROGRAM, IN A SANDBOX (cutbox-door.mjs). By AI agents, Wed Nov 11 2026. No macro, syntax, notation, axiom, sorry.
-/
import Derived.Test.YtnhomkmfbngmgaaGreatDoorRows
import GoSem.ClaimSeven
namespace Go.Proofs.YtnhomkmfbngmgaaGreatDoor
namespace Rows

/-- THE TIED CARD OF 'laws.FnLts'. -/
def fnLtsCard : Claim7 := { stood := { row := fnLtsRow, standIns := [], harness := (true, "908aadf79a3911da7d4960582ae04b5fb7cbc5fbb004ba15854af102615e9df1"), looks := true }, kinds := [], alts := [], laidByText := true, laidKinds := [.data, .data, .data, .data, .sentinel, .sentinel, .pinned], laidTests := true, laidLooks := .later }
def FnLtsCardSaid : Prop := Claim7.holds Tryz.pinned (.plain (OpenSpec.ofChange fnLtsSpec)) fnLtsCard

/-- THE TIED CARD OF 'laws.FnExactSameVerdicts'. -/
def fnExactSameVerdictsCard : Claim7 := { stood := { row := fnExactSameVerdictsRow, standIns := [], harness := (true, "908aadf79a3911da7d4960582ae04b5fb7cbc5fbb004ba15854af102615e9df1"), looks := true }, kinds := [], alts := [], laidByText := true, laidKinds := [.data, .data, .data, .data, .sentinel, .sentinel, .pinned], laidTests := true, laidLooks := .later }
def FnExactSameVerdictsCardSaid : Prop := Claim7.holds Tryz.pinned (.plain (OpenSpec.ofChange fnExactSameVerdictsSpec)) fnExactSameVerdictsCard

/-- THE TIED CARD OF 'laws.FnStrong'. -/
def fnStrongCard : Claim7 := { stood := { row := fnStrongRow, standIns := [], harness := (true, "908aadf79a3911da7d4960582ae04b5fb7cbc5fbb004ba15854af102615e9df1"), looks := true }, kinds := [], alts := [], laidByText := true, laidKinds := [.data, .data, .data, .data, .sentinel, .sentinel, .pinned], laidTests := true, laidLooks := .later }
def FnStrongCardSaid : Prop := Claim7.holds Tryz.pinned (.plain (OpenSpec.ofChange fnStrongSpec)) fnStrongCard

/-- THE TIED CARD OF 'laws.FnProduct'. -/
def fnProductCard : Claim7 := { stood := { row := fnProductRow, standIns := [], harness := (true, "908aadf79a3911da7d4960582ae04b5fb7cbc5fbb004ba15854af102615e9df1"), looks := true }, kinds := [], alts := [], laidByText := true, laidKinds := [.data, .data, .data, .data, .sentinel, .sentinel, .pinned], laidTests := true, laidLooks := .later }
def FnProductCardSaid : Prop := Claim7.holds Tryz.pinned (.plain (OpenSpec.ofChange fnProductSpec)) fnProductCard

/-- THE TIED CARD OF 'laws.FnReduced'. -/
def fnReducedCard : Claim7 := { stood := { row := fnReducedRow, standIns := [], harness := (true, "908aadf79a3911da7d4960582ae04b5fb7cbc5fbb004ba15854af102615e9df1"), looks := true }, kinds := [], alts := [], laidByText := true, laidKinds := [.data, .data, .data, .data, .sentinel, .sentinel, .pinned], laidTests := true, laidLooks := .later }
def FnReducedCardSaid : Prop := Claim7.holds Tryz.pinned (.plain (OpenSpec.ofChange fnReducedSpec)) fnReducedCard

/-- THE TIED CARD OF 'laws.FnBranching'. -/
def fnBranchingCard : Claim7 := { stood := { row := fnBranchingRow, standIns := [], harness := (true, "908aadf79a3911da7d4960582ae04b5fb7cbc5fbb004ba15854af102615e9df1"), looks := true }, kinds := [], alts := [], laidByText := true, laidKinds := [.data, .data, .data, .data, .sentinel, .sentinel, .pinned], laidTests := true, laidLooks := .later }
def FnBranchingCardSaid : Prop := Claim7.holds Tryz.pinned (.plain (OpenSpec.ofChange fnBranchingSpec)) fnBranchingCard

/-- THE TIED CARD OF 'laws.FnDivergence'. -/
def fnDivergenceCard : Claim7 := { stood := { row := fnDivergenceRow, standIns := [], harness := (true, "908aadf79a3911da7d4960582ae04b5fb7cbc5fbb004ba15854af102615e9df1"), looks := true }, kinds := [], alts := [], laidByText := true, laidKinds := [.data, .data, .data, .data, .sentinel, .sentinel, .pinned], laidTests := true, laidLooks := .later }
def FnDivergenceCardSaid : Prop := Claim7.holds Tryz.pinned (.plain (OpenSpec.ofChange fnDivergenceSpec)) fnDivergenceCard

/-- THE SECOND FORM's CARD OF 'laws.FnLts'. -/
def fnLtsUptoCard : Claim7 := { stood := { row := fnLtsUptoRow, standIns := [], harness := (true, "908aadf79a3911da7d4960582ae04b5fb7cbc5fbb004ba15854af102615e9df1"), looks := true }, kinds := [], alts := [], laidByText := true, laidKinds := [.data, .data, .data, .data, .sentinel, .sentinel, .pinned], laidTests := true, laidLooks := .later }
def FnLtsUptoCardSaid : Prop := Claim7.holds Tryz.pinned (.plain (OpenSpec.upto fnLtsSpec)) fnLtsUptoCard

/-- THE SECOND FORM's CARD OF 'laws.FnExactSameVerdicts'. -/
def fnExactSameVerdictsUptoCard : Claim7 := { stood := { row := fnExactSameVerdictsUptoRow, standIns := [], harness := (true, "908aadf79a3911da7d4960582ae04b5fb7cbc5fbb004ba15854af102615e9df1"), looks := true }, kinds := [], alts := [], laidByText := true, laidKinds := [.data, .data, .data, .data, .sentinel, .sentinel, .pinned], laidTests := true, laidLooks := .later }
def FnExactSameVerdictsUptoCardSaid : Prop := Claim7.holds Tryz.pinned (.plain (OpenSpec.upto fnExactSameVerdictsSpec)) fnExactSameVerdictsUptoCard

/-- THE SECOND FORM's CARD OF 'laws.FnStrong'. -/
def fnStrongUptoCard : Claim7 := { stood := { row := fnStrongUptoRow, standIns := [], harness := (true, "908aadf79a3911da7d4960582ae04b5fb7cbc5fbb004ba15854af102615e9df1"), looks := true }, kinds := [], alts := [], laidByText := true, laidKinds := [.data, .data, .data, .data, .sentinel, .sentinel, .pinned], laidTests := true, laidLooks := .later }
def FnStrongUptoCardSaid : Prop := Claim7.holds Tryz.pinned (.plain (OpenSpec.upto fnStrongSpec)) fnStrongUptoCard

/-- THE SECOND FORM's CARD OF 'laws.FnProduct'. -/
def fnProductUptoCard : Claim7 := { stood := { row := fnProductUptoRow, standIns := [], harness := (true, "908aadf79a3911da7d4960582ae04b5fb7cbc5fbb004ba15854af102615e9df1"), looks := true }, kinds := [], alts := [], laidByText := true, laidKinds := [.data, .data, .data, .data, .sentinel, .sentinel, .pinned], laidTests := true, laidLooks := .later }
def FnProductUptoCardSaid : Prop := Claim7.holds Tryz.pinned (.plain (OpenSpec.upto fnProductSpec)) fnProductUptoCard

/-- THE SECOND FORM's CARD OF 'laws.FnReduced'. -/
def fnReducedUptoCard : Claim7 := { stood := { row := fnReducedUptoRow, standIns := [], harness := (true, "908aadf79a3911da7d4960582ae04b5fb7cbc5fbb004ba15854af102615e9df1"), looks := true }, kinds := [], alts := [], laidByText := true, laidKinds := [.data, .data, .data, .data, .sentinel, .sentinel, .pinned], laidTests := true, laidLooks := .later }
def FnReducedUptoCardSaid : Prop := Claim7.holds Tryz.pinned (.plain (OpenSpec.upto fnReducedSpec)) fnReducedUptoCard

/-- THE SECOND FORM's CARD OF 'laws.FnBranching'. -/
def fnBranchingUptoCard : Claim7 := { stood := { row := fnBranchingUptoRow, standIns := [], harness := (true, "908aadf79a3911da7d4960582ae04b5fb7cbc5fbb004ba15854af102615e9df1"), looks := true }, kinds := [], alts := [], laidByText := true, laidKinds := [.data, .data, .data, .data, .sentinel, .sentinel, .pinned], laidTests := true, laidLooks := .later }
def FnBranchingUptoCardSaid : Prop := Claim7.holds Tryz.pinned (.plain (OpenSpec.upto fnBranchingSpec)) fnBranchingUptoCard

/-- THE SECOND FORM's CARD OF 'laws.FnDivergence'. -/
def fnDivergenceUptoCard : Claim7 := { stood := { row := fnDivergenceUptoRow, standIns := [], harness := (true, "908aadf79a3911da7d4960582ae04b5fb7cbc5fbb004ba15854af102615e9df1"), looks := true }, kinds := [], alts := [], laidByText := true, laidKinds := [.data, .data, .data, .data, .sentinel, .sentinel, .pinned], laidTests := true, laidLooks := .later }
def FnDivergenceUptoCardSaid : Prop := Claim7.holds Tryz.pinned (.plain (OpenSpec.upto fnDivergenceSpec)) fnDivergenceUptoCard
end Rows
end Go.Proofs.YtnhomkmfbngmgaaGreatDoor
