/-
  DERIVED. GIVEN WITH THE SEED: THE CARDS: each row of YtkfiebeedbjicaaGreatDoorRows.lean that lists a variable, with what it lists TIED to the program's text (the seventh form; the later family's looks); each row that meets fmt, with fmt's text TOLD by the authors' own Lean function (tested against real Go, not proved from fmt's source: count such statements apart). THE CARD IS WHAT COUNTS. Prove the row's statement (the work); the ties are given (YtkfiebeedbjicaaGreatDoorTie.lean); close each card by the builder's one call (the guide's Derived/Test/ToyasCard.lean, 'card_holds'). Laid BY PROGRAM, IN A SANDBOX (cutbox-door.mjs). By AI agents, Wed Nov 11 2026. No macro, syntax, notation, axiom, sorry.
-/
import Derived.Test.YtkfiebeedbjicaaGreatDoorRows
import GoSem.ClaimSeven
namespace Go.Proofs.YtkfiebeedbjicaaGreatDoor
namespace Rows

/-- THE TIED CARD OF 'laws.FnExactDeadBoard'. -/
def fnExactDeadBoardCard : Claim7 := { stood := { row := fnExactDeadBoardRow, standIns := [], harness := (true, "26fbdc3db7fb0d9037a88620c5548099c456c209f5a1b8c57ccbce4e5732e708"), looks := false }, kinds := [], alts := [], laidByText := true, laidKinds := [.data, .data, .data], laidTests := true, laidLooks := .later }
def FnExactDeadBoardCardSaid : Prop := Claim7.holds Tryz.pinned (.plain (OpenSpec.ofChange fnExactDeadBoardSpec)) fnExactDeadBoardCard

/-- THE SECOND FORM's CARD OF 'laws.FnExactDeadBoard'. -/
def fnExactDeadBoardUptoCard : Claim7 := { stood := { row := fnExactDeadBoardUptoRow, standIns := [], harness := (true, "26fbdc3db7fb0d9037a88620c5548099c456c209f5a1b8c57ccbce4e5732e708"), looks := false }, kinds := [], alts := [], laidByText := true, laidKinds := [.data, .data, .data], laidTests := true, laidLooks := .later }
def FnExactDeadBoardUptoCardSaid : Prop := Claim7.holds Tryz.pinned (.plain (OpenSpec.upto fnExactDeadBoardSpec)) fnExactDeadBoardUptoCard
end Rows
end Go.Proofs.YtkfiebeedbjicaaGreatDoor
