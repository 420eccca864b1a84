/-
  DERIVED. GIVEN WITH THE SEED: THE CARDS: each row of YtcdhgabcajehnaaGreatDoorRows.lean that lists a variable, with what it lists TIED to the program's text (the seventh form; the later family's looks); each row that meets fmt, with fmt's text TOLD by the authors' own Lean function (tested against real Go, not proved from fmt's source: count such statements apart). THE CARD IS WHAT COUNTS. Prove the row's statement (the work); the ties are given (YtcdhgabcajehnaaGreatDoorTie.lean); close each card by the builder's one call (the guide's Derived/Test/ToyasCard.lean, 'card_holds'). Laid BY PROGRAM, IN A SANDBOX (cutbox-door.mjs). By AI agents, Wed Nov 11 2026. No macro, syntax, notation, axiom, sorry.
-/
import Derived.Test.YtcdhgabcajehnaaGreatDoorRows
import GoSem.ClaimSeven
namespace Go.Proofs.YtcdhgabcajehnaaGreatDoor
namespace Rows

/-- THE TIED CARD OF 'laws.FnRounds'. -/
def fnRoundsCard : Claim7 := { stood := { row := fnRoundsRow, standIns := [], harness := (true, "9430849eaac93190a30c850d3d6f92376b2bc0d88c2dabef361d0035d0567ce4"), looks := true }, kinds := [], alts := [], laidByText := true, laidKinds := [.data, .data, .data, .data, .sentinel, .sentinel, .pinned], laidTests := true, laidLooks := .later }
def FnRoundsCardSaid : Prop := Claim7.holds Tryz.pinned (.plain (OpenSpec.ofChange fnRoundsSpec)) fnRoundsCard

/-- THE TIED CARD OF 'laws.FnPaths'. -/
def fnPathsCard : Claim7 := { stood := { row := fnPathsRow, standIns := [], harness := (true, "9430849eaac93190a30c850d3d6f92376b2bc0d88c2dabef361d0035d0567ce4"), looks := true }, kinds := [], alts := [], laidByText := true, laidKinds := [.data, .data, .data, .data, .sentinel, .sentinel, .pinned], laidTests := true, laidLooks := .later }
def FnPathsCardSaid : Prop := Claim7.holds Tryz.pinned (.plain (OpenSpec.ofChange fnPathsSpec)) fnPathsCard

/-- THE TIED CARD OF 'laws.FnStrong'. -/
def fnStrongCard : Claim7 := { stood := { row := fnStrongRow, standIns := [], harness := (true, "9430849eaac93190a30c850d3d6f92376b2bc0d88c2dabef361d0035d0567ce4"), looks := true }, kinds := [], alts := [], laidByText := true, laidKinds := [.data, .data, .data, .data, .sentinel, .sentinel, .pinned], laidTests := true, laidLooks := .later }
def FnStrongCardSaid : Prop := Claim7.holds Tryz.pinned (.plain (OpenSpec.ofChange fnStrongSpec)) fnStrongCard

/-- THE SECOND FORM's CARD OF 'laws.FnRounds'. -/
def fnRoundsUptoCard : Claim7 := { stood := { row := fnRoundsUptoRow, standIns := [], harness := (true, "9430849eaac93190a30c850d3d6f92376b2bc0d88c2dabef361d0035d0567ce4"), looks := true }, kinds := [], alts := [], laidByText := true, laidKinds := [.data, .data, .data, .data, .sentinel, .sentinel, .pinned], laidTests := true, laidLooks := .later }
def FnRoundsUptoCardSaid : Prop := Claim7.holds Tryz.pinned (.plain (OpenSpec.upto fnRoundsSpec)) fnRoundsUptoCard

/-- THE SECOND FORM's CARD OF 'laws.FnPaths'. -/
def fnPathsUptoCard : Claim7 := { stood := { row := fnPathsUptoRow, standIns := [], harness := (true, "9430849eaac93190a30c850d3d6f92376b2bc0d88c2dabef361d0035d0567ce4"), looks := true }, kinds := [], alts := [], laidByText := true, laidKinds := [.data, .data, .data, .data, .sentinel, .sentinel, .pinned], laidTests := true, laidLooks := .later }
def FnPathsUptoCardSaid : Prop := Claim7.holds Tryz.pinned (.plain (OpenSpec.upto fnPathsSpec)) fnPathsUptoCard

/-- THE SECOND FORM's CARD OF 'laws.FnStrong'. -/
def fnStrongUptoCard : Claim7 := { stood := { row := fnStrongUptoRow, standIns := [], harness := (true, "9430849eaac93190a30c850d3d6f92376b2bc0d88c2dabef361d0035d0567ce4"), looks := true }, kinds := [], alts := [], laidByText := true, laidKinds := [.data, .data, .data, .data, .sentinel, .sentinel, .pinned], laidTests := true, laidLooks := .later }
def FnStrongUptoCardSaid : Prop := Claim7.holds Tryz.pinned (.plain (OpenSpec.upto fnStrongSpec)) fnStrongUptoCard
end Rows
end Go.Proofs.YtcdhgabcajehnaaGreatDoor
