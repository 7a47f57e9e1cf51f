/-
  DERIVED. GIVEN WITH THE SEED: THE CARDS: each row of YtddjgbhkfdpffaaGreatDoorRows.lean that lists a variable, with what it lists TIED to the program's text (the seventh form; the later family's looks); each row that meets fmt, with fmt's text TOLD by the authors' own Lean function (tested against real Go, not proved from fmt's source: count such statements apart). THE CARD IS WHAT COUNTS. Prove the row's statement (the work); the ties are given (YtddjgbhkfdpffaaGreatDoorTie.lean); close each card by the builder's one call (the guide's Derived/Test/ToyasCard.lean, 'card_holds'). Laid BY PROGRAM, IN A SANDBOX (cutbox-door.mjs). By AI agents, Wed Nov 11 2026. No macro, syntax, notation, axiom, sorry.
-/
import Derived.Test.YtddjgbhkfdpffaaGreatDoorRows
import GoSem.ClaimSeven
namespace Go.Proofs.YtddjgbhkfdpffaaGreatDoor
namespace Rows

/-- THE TIED CARD OF 'laws.FnExactLogOpen'. -/
def fnExactLogOpenCard : Claim7 := { stood := { row := fnExactLogOpenRow, standIns := [], harness := (true, "95ef9942df7ea715471f8f3f88ee264750fe91c7159c6701c40b2e55a5e31677"), looks := true }, kinds := [], alts := [], laidByText := true, laidKinds := [.data, .data, .data, .data, .sentinel, .sentinel, .pinned], laidTests := true, laidLooks := .later }
def FnExactLogOpenCardSaid : Prop := Claim7.holds Tryz.pinned (.plain (OpenSpec.ofChange fnExactLogOpenSpec)) fnExactLogOpenCard

/-- THE TIED CARD OF 'laws.FnExactLogWrites'. -/
def fnExactLogWritesCard : Claim7 := { stood := { row := fnExactLogWritesRow, standIns := [], harness := (true, "95ef9942df7ea715471f8f3f88ee264750fe91c7159c6701c40b2e55a5e31677"), looks := true }, kinds := [], alts := [], laidByText := true, laidKinds := [.data, .data, .data, .data, .sentinel, .sentinel, .pinned], laidTests := true, laidLooks := .later }
def FnExactLogWritesCardSaid : Prop := Claim7.holds Tryz.pinned (.plain (OpenSpec.ofChange fnExactLogWritesSpec)) fnExactLogWritesCard

/-- THE TIED CARD OF 'laws.FnLogOpen'. -/
def fnLogOpenCard : Claim7 := { stood := { row := fnLogOpenRow, standIns := [], harness := (true, "95ef9942df7ea715471f8f3f88ee264750fe91c7159c6701c40b2e55a5e31677"), looks := true }, kinds := [], alts := [], laidByText := true, laidKinds := [.data, .data, .data, .data, .sentinel, .sentinel, .pinned], laidTests := true, laidLooks := .later }
def FnLogOpenCardSaid : Prop := Claim7.holds Tryz.pinned (.plain (OpenSpec.ofChange fnLogOpenSpec)) fnLogOpenCard

/-- THE SECOND FORM's CARD OF 'laws.FnExactLogOpen'. -/
def fnExactLogOpenUptoCard : Claim7 := { stood := { row := fnExactLogOpenUptoRow, standIns := [], harness := (true, "95ef9942df7ea715471f8f3f88ee264750fe91c7159c6701c40b2e55a5e31677"), looks := true }, kinds := [], alts := [], laidByText := true, laidKinds := [.data, .data, .data, .data, .sentinel, .sentinel, .pinned], laidTests := true, laidLooks := .later }
def FnExactLogOpenUptoCardSaid : Prop := Claim7.holds Tryz.pinned (.plain (OpenSpec.upto fnExactLogOpenSpec)) fnExactLogOpenUptoCard

/-- THE SECOND FORM's CARD OF 'laws.FnExactLogWrites'. -/
def fnExactLogWritesUptoCard : Claim7 := { stood := { row := fnExactLogWritesUptoRow, standIns := [], harness := (true, "95ef9942df7ea715471f8f3f88ee264750fe91c7159c6701c40b2e55a5e31677"), looks := true }, kinds := [], alts := [], laidByText := true, laidKinds := [.data, .data, .data, .data, .sentinel, .sentinel, .pinned], laidTests := true, laidLooks := .later }
def FnExactLogWritesUptoCardSaid : Prop := Claim7.holds Tryz.pinned (.plain (OpenSpec.upto fnExactLogWritesSpec)) fnExactLogWritesUptoCard

/-- THE SECOND FORM's CARD OF 'laws.FnLogOpen'. -/
def fnLogOpenUptoCard : Claim7 := { stood := { row := fnLogOpenUptoRow, standIns := [], harness := (true, "95ef9942df7ea715471f8f3f88ee264750fe91c7159c6701c40b2e55a5e31677"), looks := true }, kinds := [], alts := [], laidByText := true, laidKinds := [.data, .data, .data, .data, .sentinel, .sentinel, .pinned], laidTests := true, laidLooks := .later }
def FnLogOpenUptoCardSaid : Prop := Claim7.holds Tryz.pinned (.plain (OpenSpec.upto fnLogOpenSpec)) fnLogOpenUptoCard
end Rows
end Go.Proofs.YtddjgbhkfdpffaaGreatDoor
