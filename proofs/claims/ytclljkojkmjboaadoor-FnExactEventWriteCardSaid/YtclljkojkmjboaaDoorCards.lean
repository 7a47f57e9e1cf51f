/-
  DERIVED. GIVEN WITH THE SEED: THE CARDS: each row of YtclljkojkmjboaaDoorRows.lean that lists a variable, with what it lists TIED to the program's text (the seventh form; the later family's looks); each row that meets fmt, with fmt's text TOLD by the authors' own Lean function (tested against real Go, not proved from fmt's source: count such statements apart). THE CARD IS WHAT COUNTS. Prove the row's statement (the work); the ties are given (YtclljkojkmjboaaDoorTie.lean); close each card by the builder's one call (the guide's Derived/Test/ToyasCard.lean, 'card_holds'). Laid BY PROGRAM, IN A SANDBOX (cutbox-door.mjs). By AI agents, Wed Nov 11 2026. No macro, syntax, notation, axiom, sorry.
-/
import Derived.Test.YtclljkojkmjboaaDoorRows
import GoSem.ClaimSeven
namespace Go.Proofs.YtclljkojkmjboaaDoor
namespace Rows

/-- THE TIED CARD OF 'laws.FnExactLogPlanWrite'. -/
def fnExactLogPlanWriteCard : Claim7 := { stood := { row := fnExactLogPlanWriteRow, standIns := [], harness := (true, "4e2da8af90801e55f5873cb59f4e200089dc7be3d3d00fa07ebc64d9167ae50c"), looks := false }, kinds := [], alts := [], laidByText := true, laidKinds := [.data, .data, .data], laidTests := true, laidLooks := .later }
def FnExactLogPlanWriteCardSaid : Prop := Claim7.holds Tryd.pinned (.plain (OpenSpec.ofChange fnExactLogPlanWriteSpec)) fnExactLogPlanWriteCard

/-- THE TIED CARD OF 'laws.FnExactTreeWrite'. -/
def fnExactTreeWriteCard : Claim7 := { stood := { row := fnExactTreeWriteRow, standIns := [], harness := (true, "4e2da8af90801e55f5873cb59f4e200089dc7be3d3d00fa07ebc64d9167ae50c"), looks := false }, kinds := [], alts := [], laidByText := true, laidKinds := [.data, .data, .data], laidTests := true, laidLooks := .later }
def FnExactTreeWriteCardSaid : Prop := Claim7.holds Tryd.pinned (.plain (OpenSpec.ofChange fnExactTreeWriteSpec)) fnExactTreeWriteCard

/-- THE TIED CARD OF 'laws.FnExactEventWrite'. -/
def fnExactEventWriteCard : Claim7 := { stood := { row := fnExactEventWriteRow, standIns := [], harness := (true, "4e2da8af90801e55f5873cb59f4e200089dc7be3d3d00fa07ebc64d9167ae50c"), looks := false }, kinds := [], alts := [], laidByText := true, laidKinds := [.data, .data, .data], laidTests := true, laidLooks := .later }
def FnExactEventWriteCardSaid : Prop := Claim7.holds Tryd.pinned (.plain (OpenSpec.ofChange fnExactEventWriteSpec)) fnExactEventWriteCard

/-- THE SECOND FORM's CARD OF 'laws.FnExactLogPlanWrite'. -/
def fnExactLogPlanWriteUptoCard : Claim7 := { stood := { row := fnExactLogPlanWriteUptoRow, standIns := [], harness := (true, "4e2da8af90801e55f5873cb59f4e200089dc7be3d3d00fa07ebc64d9167ae50c"), looks := false }, kinds := [], alts := [], laidByText := true, laidKinds := [.data, .data, .data], laidTests := true, laidLooks := .later }
def FnExactLogPlanWriteUptoCardSaid : Prop := Claim7.holds Tryd.pinned (.plain (OpenSpec.upto fnExactLogPlanWriteSpec)) fnExactLogPlanWriteUptoCard

/-- THE SECOND FORM's CARD OF 'laws.FnExactTreeWrite'. -/
def fnExactTreeWriteUptoCard : Claim7 := { stood := { row := fnExactTreeWriteUptoRow, standIns := [], harness := (true, "4e2da8af90801e55f5873cb59f4e200089dc7be3d3d00fa07ebc64d9167ae50c"), looks := false }, kinds := [], alts := [], laidByText := true, laidKinds := [.data, .data, .data], laidTests := true, laidLooks := .later }
def FnExactTreeWriteUptoCardSaid : Prop := Claim7.holds Tryd.pinned (.plain (OpenSpec.upto fnExactTreeWriteSpec)) fnExactTreeWriteUptoCard

/-- THE SECOND FORM's CARD OF 'laws.FnExactEventWrite'. -/
def fnExactEventWriteUptoCard : Claim7 := { stood := { row := fnExactEventWriteUptoRow, standIns := [], harness := (true, "4e2da8af90801e55f5873cb59f4e200089dc7be3d3d00fa07ebc64d9167ae50c"), looks := false }, kinds := [], alts := [], laidByText := true, laidKinds := [.data, .data, .data], laidTests := true, laidLooks := .later }
def FnExactEventWriteUptoCardSaid : Prop := Claim7.holds Tryd.pinned (.plain (OpenSpec.upto fnExactEventWriteSpec)) fnExactEventWriteUptoCard
end Rows
end Go.Proofs.YtclljkojkmjboaaDoor
