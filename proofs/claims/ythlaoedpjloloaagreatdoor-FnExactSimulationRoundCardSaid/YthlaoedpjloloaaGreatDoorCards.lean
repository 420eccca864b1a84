/-
  DERIVED. GIVEN WITH THE SEED: THE CARDS: each row of YthlaoedpjloloaaGreatDoorRows.lean that lists a variable, with what it lists TIED to the program's text (the seventh form; the later family's looks); each row that meets fmt, with fmt's text TOLD by the authors' own Lean function (tested against real Go, not proved from fmt's source: count such statements apart). THE CARD IS WHAT COUNTS. Prove the row's statement (the work); the ties are given (YthlaoedpjloloaaGreatDoorTie.lean); close each card by the builder's one call (the guide's Derived/Test/ToyasCard.lean, 'card_holds'). Laid BY PROGRAM, IN A SANDBOX (cutbox-door.mjs). By AI agents, Wed Nov 11 2026. No macro, syntax, notation, axiom, sorry.
-/
import Derived.Test.YthlaoedpjloloaaGreatDoorRows
import GoSem.ClaimSeven
namespace Go.Proofs.YthlaoedpjloloaaGreatDoor
namespace Rows

/-- THE TIED CARD OF 'laws.FnExactSimulationRound'. -/
def fnExactSimulationRoundCard : Claim7 := { stood := { row := fnExactSimulationRoundRow, standIns := [], harness := (true, "63542e0b55f7575e24d6584ebe0616a336054af639c27f673fc732bb31f9d188"), looks := true }, kinds := [], alts := [], laidByText := true, laidKinds := [.data, .data, .data, .data, .sentinel, .sentinel, .pinned], laidTests := true, laidLooks := .later }
def FnExactSimulationRoundCardSaid : Prop := Claim7.holds Tryz.pinned (.plain (OpenSpec.ofChange fnExactSimulationRoundSpec)) fnExactSimulationRoundCard

/-- THE TIED CARD OF 'laws.FnExactAreMutual'. -/
def fnExactAreMutualCard : Claim7 := { stood := { row := fnExactAreMutualRow, standIns := [], harness := (true, "63542e0b55f7575e24d6584ebe0616a336054af639c27f673fc732bb31f9d188"), looks := true }, kinds := [], alts := [], laidByText := true, laidKinds := [.data, .data, .data, .data, .sentinel, .sentinel, .pinned], laidTests := true, laidLooks := .later }
def FnExactAreMutualCardSaid : Prop := Claim7.holds Tryz.pinned (.plain (OpenSpec.ofChange fnExactAreMutualSpec)) fnExactAreMutualCard

/-- THE TIED CARD OF 'laws.FnExactSimulates'. -/
def fnExactSimulatesCard : Claim7 := { stood := { row := fnExactSimulatesRow, standIns := [], harness := (true, "63542e0b55f7575e24d6584ebe0616a336054af639c27f673fc732bb31f9d188"), looks := true }, kinds := [], alts := [], laidByText := true, laidKinds := [.data, .data, .data, .data, .sentinel, .sentinel, .pinned], laidTests := true, laidLooks := .later }
def FnExactSimulatesCardSaid : Prop := Claim7.holds Tryz.pinned (.plain (OpenSpec.ofChange fnExactSimulatesSpec)) fnExactSimulatesCard

/-- THE TIED CARD OF 'laws.FnExactSameVerdicts'. -/
def fnExactSameVerdictsCard : Claim7 := { stood := { row := fnExactSameVerdictsRow, standIns := [], harness := (true, "63542e0b55f7575e24d6584ebe0616a336054af639c27f673fc732bb31f9d188"), looks := true }, kinds := [], alts := [], laidByText := true, laidKinds := [.data, .data, .data, .data, .sentinel, .sentinel, .pinned], laidTests := true, laidLooks := .later }
def FnExactSameVerdictsCardSaid : Prop := Claim7.holds Tryz.pinned (.plain (OpenSpec.ofChange fnExactSameVerdictsSpec)) fnExactSameVerdictsCard

/-- THE TIED CARD OF 'laws.FnExactLittleBrothers'. -/
def fnExactLittleBrothersCard : Claim7 := { stood := { row := fnExactLittleBrothersRow, standIns := [], harness := (true, "63542e0b55f7575e24d6584ebe0616a336054af639c27f673fc732bb31f9d188"), looks := true }, kinds := [], alts := [], laidByText := true, laidKinds := [.data, .data, .data, .data, .sentinel, .sentinel, .pinned], laidTests := true, laidLooks := .later }
def FnExactLittleBrothersCardSaid : Prop := Claim7.holds Tryz.pinned (.plain (OpenSpec.ofChange fnExactLittleBrothersSpec)) fnExactLittleBrothersCard

/-- THE TIED CARD OF 'laws.FnExactSimulationClasses'. -/
def fnExactSimulationClassesCard : Claim7 := { stood := { row := fnExactSimulationClassesRow, standIns := [], harness := (true, "63542e0b55f7575e24d6584ebe0616a336054af639c27f673fc732bb31f9d188"), looks := true }, kinds := [], alts := [], laidByText := true, laidKinds := [.data, .data, .data, .data, .sentinel, .sentinel, .pinned], laidTests := true, laidLooks := .later }
def FnExactSimulationClassesCardSaid : Prop := Claim7.holds Tryz.pinned (.plain (OpenSpec.ofChange fnExactSimulationClassesSpec)) fnExactSimulationClassesCard

/-- THE SECOND FORM's CARD OF 'laws.FnExactSimulationRound'. -/
def fnExactSimulationRoundUptoCard : Claim7 := { stood := { row := fnExactSimulationRoundUptoRow, standIns := [], harness := (true, "63542e0b55f7575e24d6584ebe0616a336054af639c27f673fc732bb31f9d188"), looks := true }, kinds := [], alts := [], laidByText := true, laidKinds := [.data, .data, .data, .data, .sentinel, .sentinel, .pinned], laidTests := true, laidLooks := .later }
def FnExactSimulationRoundUptoCardSaid : Prop := Claim7.holds Tryz.pinned (.plain (OpenSpec.upto fnExactSimulationRoundSpec)) fnExactSimulationRoundUptoCard

/-- THE SECOND FORM's CARD OF 'laws.FnExactAreMutual'. -/
def fnExactAreMutualUptoCard : Claim7 := { stood := { row := fnExactAreMutualUptoRow, standIns := [], harness := (true, "63542e0b55f7575e24d6584ebe0616a336054af639c27f673fc732bb31f9d188"), looks := true }, kinds := [], alts := [], laidByText := true, laidKinds := [.data, .data, .data, .data, .sentinel, .sentinel, .pinned], laidTests := true, laidLooks := .later }
def FnExactAreMutualUptoCardSaid : Prop := Claim7.holds Tryz.pinned (.plain (OpenSpec.upto fnExactAreMutualSpec)) fnExactAreMutualUptoCard

/-- THE SECOND FORM's CARD OF 'laws.FnExactSimulates'. -/
def fnExactSimulatesUptoCard : Claim7 := { stood := { row := fnExactSimulatesUptoRow, standIns := [], harness := (true, "63542e0b55f7575e24d6584ebe0616a336054af639c27f673fc732bb31f9d188"), looks := true }, kinds := [], alts := [], laidByText := true, laidKinds := [.data, .data, .data, .data, .sentinel, .sentinel, .pinned], laidTests := true, laidLooks := .later }
def FnExactSimulatesUptoCardSaid : Prop := Claim7.holds Tryz.pinned (.plain (OpenSpec.upto fnExactSimulatesSpec)) fnExactSimulatesUptoCard

/-- THE SECOND FORM's CARD OF 'laws.FnExactSameVerdicts'. -/
def fnExactSameVerdictsUptoCard : Claim7 := { stood := { row := fnExactSameVerdictsUptoRow, standIns := [], harness := (true, "63542e0b55f7575e24d6584ebe0616a336054af639c27f673fc732bb31f9d188"), looks := true }, kinds := [], alts := [], laidByText := true, laidKinds := [.data, .data, .data, .data, .sentinel, .sentinel, .pinned], laidTests := true, laidLooks := .later }
def FnExactSameVerdictsUptoCardSaid : Prop := Claim7.holds Tryz.pinned (.plain (OpenSpec.upto fnExactSameVerdictsSpec)) fnExactSameVerdictsUptoCard

/-- THE SECOND FORM's CARD OF 'laws.FnExactLittleBrothers'. -/
def fnExactLittleBrothersUptoCard : Claim7 := { stood := { row := fnExactLittleBrothersUptoRow, standIns := [], harness := (true, "63542e0b55f7575e24d6584ebe0616a336054af639c27f673fc732bb31f9d188"), looks := true }, kinds := [], alts := [], laidByText := true, laidKinds := [.data, .data, .data, .data, .sentinel, .sentinel, .pinned], laidTests := true, laidLooks := .later }
def FnExactLittleBrothersUptoCardSaid : Prop := Claim7.holds Tryz.pinned (.plain (OpenSpec.upto fnExactLittleBrothersSpec)) fnExactLittleBrothersUptoCard

/-- THE SECOND FORM's CARD OF 'laws.FnExactSimulationClasses'. -/
def fnExactSimulationClassesUptoCard : Claim7 := { stood := { row := fnExactSimulationClassesUptoRow, standIns := [], harness := (true, "63542e0b55f7575e24d6584ebe0616a336054af639c27f673fc732bb31f9d188"), looks := true }, kinds := [], alts := [], laidByText := true, laidKinds := [.data, .data, .data, .data, .sentinel, .sentinel, .pinned], laidTests := true, laidLooks := .later }
def FnExactSimulationClassesUptoCardSaid : Prop := Claim7.holds Tryz.pinned (.plain (OpenSpec.upto fnExactSimulationClassesSpec)) fnExactSimulationClassesUptoCard
end Rows
end Go.Proofs.YthlaoedpjloloaaGreatDoor
