/-
  DERIVED. GIVEN WITH THE SEED: THE CARDS: each row of YtknlnndocamcmaaDoorRows.lean that lists a variable, with what it lists TIED to the program's text (the seventh form; the later family's looks); each row that meets fmt, with fmt's text TOLD by the authors' own Lean function (tested against real Go, not proved from fmt's source: count such statements apart). THE CARD IS WHAT COUNTS. Prove the row's statement (the work); the ties are given (YtknlnndocamcmaaDoorTie.lean); close each card by the builder's one call (the guide's Derived/Test/ToyasCard.lean, 'card_holds'). Laid BY PROGRAM, IN A SANDBOX (cutbox-door.mjs). By AI agents, Wed Nov 11 2026. No macro, syntax, notation, axiom, sorry.
-/
import Derived.Test.YtknlnndocamcmaaDoorRows
import GoSem.ClaimSeven
namespace Go.Proofs.YtknlnndocamcmaaDoor
namespace Rows

/-- THE TIED CARD OF 'laws.FnExactLogPlanRead'. -/
def fnExactLogPlanReadCard : Claim7 := { stood := { row := fnExactLogPlanReadRow, standIns := [], harness := (true, "4a5b8858de4a9befe9bad31b4ccec9f9d292d72bb76fcde4448af8dcb82a5b31"), looks := true }, kinds := [], alts := [], laidByText := true, laidKinds := [.data, .data, .data, .data, .sentinel, .sentinel, .pinned], laidTests := true, laidLooks := .later }
def FnExactLogPlanReadCardSaid : Prop := Claim7.holds Tryd.pinned (.plain (OpenSpec.ofChange fnExactLogPlanReadSpec)) fnExactLogPlanReadCard

/-- THE TIED CARD OF 'laws.FnLogPlan'. -/
def fnLogPlanCard : Claim7 := { stood := { row := fnLogPlanRow, standIns := [], harness := (true, "4a5b8858de4a9befe9bad31b4ccec9f9d292d72bb76fcde4448af8dcb82a5b31"), looks := true }, kinds := [], alts := [], laidByText := true, laidKinds := [.data, .data, .data, .data, .sentinel, .sentinel, .pinned], laidTests := true, laidLooks := .later }
def FnLogPlanCardSaid : Prop := Claim7.holds Tryd.pinned (.plain (OpenSpec.ofChange fnLogPlanSpec)) fnLogPlanCard

/-- THE TIED CARD OF 'laws.FnExactTreeRead'. -/
def fnExactTreeReadCard : Claim7 := { stood := { row := fnExactTreeReadRow, standIns := [], harness := (true, "4a5b8858de4a9befe9bad31b4ccec9f9d292d72bb76fcde4448af8dcb82a5b31"), looks := true }, kinds := [], alts := [], laidByText := true, laidKinds := [.data, .data, .data, .sentinel, .sentinel], laidTests := true, laidLooks := .later }
def FnExactTreeReadCardSaid : Prop := Claim7.holds Tryd.pinned (.plain (OpenSpec.ofChange fnExactTreeReadSpec)) fnExactTreeReadCard

/-- THE SECOND FORM's CARD OF 'laws.FnExactLogPlanRead'. -/
def fnExactLogPlanReadUptoCard : Claim7 := { stood := { row := fnExactLogPlanReadUptoRow, standIns := [], harness := (true, "4a5b8858de4a9befe9bad31b4ccec9f9d292d72bb76fcde4448af8dcb82a5b31"), looks := true }, kinds := [], alts := [], laidByText := true, laidKinds := [.data, .data, .data, .data, .sentinel, .sentinel, .pinned], laidTests := true, laidLooks := .later }
def FnExactLogPlanReadUptoCardSaid : Prop := Claim7.holds Tryd.pinned (.plain (OpenSpec.upto fnExactLogPlanReadSpec)) fnExactLogPlanReadUptoCard

/-- THE SECOND FORM's CARD OF 'laws.FnLogPlan'. -/
def fnLogPlanUptoCard : Claim7 := { stood := { row := fnLogPlanUptoRow, standIns := [], harness := (true, "4a5b8858de4a9befe9bad31b4ccec9f9d292d72bb76fcde4448af8dcb82a5b31"), looks := true }, kinds := [], alts := [], laidByText := true, laidKinds := [.data, .data, .data, .data, .sentinel, .sentinel, .pinned], laidTests := true, laidLooks := .later }
def FnLogPlanUptoCardSaid : Prop := Claim7.holds Tryd.pinned (.plain (OpenSpec.upto fnLogPlanSpec)) fnLogPlanUptoCard

/-- THE SECOND FORM's CARD OF 'laws.FnExactTreeRead'. -/
def fnExactTreeReadUptoCard : Claim7 := { stood := { row := fnExactTreeReadUptoRow, standIns := [], harness := (true, "4a5b8858de4a9befe9bad31b4ccec9f9d292d72bb76fcde4448af8dcb82a5b31"), looks := true }, kinds := [], alts := [], laidByText := true, laidKinds := [.data, .data, .data, .sentinel, .sentinel], laidTests := true, laidLooks := .later }
def FnExactTreeReadUptoCardSaid : Prop := Claim7.holds Tryd.pinned (.plain (OpenSpec.upto fnExactTreeReadSpec)) fnExactTreeReadUptoCard
end Rows
end Go.Proofs.YtknlnndocamcmaaDoor
