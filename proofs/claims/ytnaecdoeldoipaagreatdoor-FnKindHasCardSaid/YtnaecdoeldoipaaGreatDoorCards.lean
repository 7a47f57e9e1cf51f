/-
  DERIVED. GIVEN WITH THE SEED: THE CARDS: each row of YtnaecdoeldoipaaGreatDoorRows.lean that lists a variable, with what it lists TIED to the program's text (the seventh form; the later family's looks); each row that meets fmt, with fmt's text TOLD by the authors' own Lean function (tested against real Go, not proved from fmt's source: count such statements apart). THE CARD IS WHAT COUNTS. Prove the row's statement (the work); the ties are given (YtnaecdoeldoipaaGreatDoorTie.lean); close each card by the builder's one call (the guide's Derived/Test/ToyasCard.lean, 'card_holds'). Laid BY PROGRAM, IN A SANDBOX (cutbox-door.mjs). By AI agents, Wed Nov 11 2026. No macro, syntax, notation, axiom, sorry.
-/
import Derived.Test.YtnaecdoeldoipaaGreatDoorRows
import GoSem.ClaimSeven
namespace Go.Proofs.YtnaecdoeldoipaaGreatDoor
namespace Rows

/-- THE TIED CARD OF 'laws.FnTreeTop'. -/
def fnTreeTopCard : Claim7 := { stood := { row := fnTreeTopRow, standIns := [], harness := (true, "bf1f85f26ba9263b23cf553a9b44daa5a4e05492884629fdcb003a3253cd6691"), looks := true }, kinds := [], alts := [], laidByText := true, laidKinds := [.data, .data, .data, .sentinel, .sentinel], laidTests := true, laidLooks := .later }
def FnTreeTopCardSaid : Prop := Claim7.holds Tryz.pinned (.plain (OpenSpec.ofChange fnTreeTopSpec)) fnTreeTopCard

/-- THE TIED CARD OF 'laws.FnTreeStrict'. -/
def fnTreeStrictCard : Claim7 := { stood := { row := fnTreeStrictRow, standIns := [], harness := (true, "bf1f85f26ba9263b23cf553a9b44daa5a4e05492884629fdcb003a3253cd6691"), looks := true }, kinds := [], alts := [], laidByText := true, laidKinds := [.data, .data, .data, .sentinel, .sentinel], laidTests := true, laidLooks := .later }
def FnTreeStrictCardSaid : Prop := Claim7.holds Tryz.pinned (.plain (OpenSpec.ofChange fnTreeStrictSpec)) fnTreeStrictCard

/-- THE TIED CARD OF 'laws.FnKindHas'. -/
def fnKindHasCard : Claim7 := { stood := { row := fnKindHasRow, standIns := [], harness := (true, "bf1f85f26ba9263b23cf553a9b44daa5a4e05492884629fdcb003a3253cd6691"), looks := true }, kinds := [], alts := [], laidByText := true, laidKinds := [.data, .data, .data, .sentinel, .sentinel], laidTests := true, laidLooks := .later }
def FnKindHasCardSaid : Prop := Claim7.holds Tryz.pinned (.plain (OpenSpec.ofChange fnKindHasSpec)) fnKindHasCard

/-- THE TIED CARD OF 'laws.FnExactEventRead'. -/
def fnExactEventReadCard : Claim7 := { stood := { row := fnExactEventReadRow, standIns := [], harness := (true, "bf1f85f26ba9263b23cf553a9b44daa5a4e05492884629fdcb003a3253cd6691"), looks := true }, kinds := [], alts := [], laidByText := true, laidKinds := [.data, .data, .data, .sentinel, .sentinel], laidTests := true, laidLooks := .later }
def FnExactEventReadCardSaid : Prop := Claim7.holds Tryz.pinned (.plain (OpenSpec.ofChange fnExactEventReadSpec)) fnExactEventReadCard

/-- THE TIED CARD OF 'laws.FnEventBack'. -/
def fnEventBackCard : Claim7 := { stood := { row := fnEventBackRow, standIns := [], harness := (true, "bf1f85f26ba9263b23cf553a9b44daa5a4e05492884629fdcb003a3253cd6691"), looks := true }, kinds := [], alts := [], laidByText := true, laidKinds := [.data, .data, .data, .sentinel, .sentinel], laidTests := true, laidLooks := .later }
def FnEventBackCardSaid : Prop := Claim7.holds Tryz.pinned (.plain (OpenSpec.ofChange fnEventBackSpec)) fnEventBackCard

/-- THE TIED CARD OF 'laws.FnEventStrict'. -/
def fnEventStrictCard : Claim7 := { stood := { row := fnEventStrictRow, standIns := [], harness := (true, "bf1f85f26ba9263b23cf553a9b44daa5a4e05492884629fdcb003a3253cd6691"), looks := true }, kinds := [], alts := [], laidByText := true, laidKinds := [.data, .data, .data, .sentinel, .sentinel], laidTests := true, laidLooks := .later }
def FnEventStrictCardSaid : Prop := Claim7.holds Tryz.pinned (.plain (OpenSpec.ofChange fnEventStrictSpec)) fnEventStrictCard

/-- THE SECOND FORM's CARD OF 'laws.FnTreeTop'. -/
def fnTreeTopUptoCard : Claim7 := { stood := { row := fnTreeTopUptoRow, standIns := [], harness := (true, "bf1f85f26ba9263b23cf553a9b44daa5a4e05492884629fdcb003a3253cd6691"), looks := true }, kinds := [], alts := [], laidByText := true, laidKinds := [.data, .data, .data, .sentinel, .sentinel], laidTests := true, laidLooks := .later }
def FnTreeTopUptoCardSaid : Prop := Claim7.holds Tryz.pinned (.plain (OpenSpec.upto fnTreeTopSpec)) fnTreeTopUptoCard

/-- THE SECOND FORM's CARD OF 'laws.FnTreeStrict'. -/
def fnTreeStrictUptoCard : Claim7 := { stood := { row := fnTreeStrictUptoRow, standIns := [], harness := (true, "bf1f85f26ba9263b23cf553a9b44daa5a4e05492884629fdcb003a3253cd6691"), looks := true }, kinds := [], alts := [], laidByText := true, laidKinds := [.data, .data, .data, .sentinel, .sentinel], laidTests := true, laidLooks := .later }
def FnTreeStrictUptoCardSaid : Prop := Claim7.holds Tryz.pinned (.plain (OpenSpec.upto fnTreeStrictSpec)) fnTreeStrictUptoCard

/-- THE SECOND FORM's CARD OF 'laws.FnKindHas'. -/
def fnKindHasUptoCard : Claim7 := { stood := { row := fnKindHasUptoRow, standIns := [], harness := (true, "bf1f85f26ba9263b23cf553a9b44daa5a4e05492884629fdcb003a3253cd6691"), looks := true }, kinds := [], alts := [], laidByText := true, laidKinds := [.data, .data, .data, .sentinel, .sentinel], laidTests := true, laidLooks := .later }
def FnKindHasUptoCardSaid : Prop := Claim7.holds Tryz.pinned (.plain (OpenSpec.upto fnKindHasSpec)) fnKindHasUptoCard

/-- THE SECOND FORM's CARD OF 'laws.FnExactEventRead'. -/
def fnExactEventReadUptoCard : Claim7 := { stood := { row := fnExactEventReadUptoRow, standIns := [], harness := (true, "bf1f85f26ba9263b23cf553a9b44daa5a4e05492884629fdcb003a3253cd6691"), looks := true }, kinds := [], alts := [], laidByText := true, laidKinds := [.data, .data, .data, .sentinel, .sentinel], laidTests := true, laidLooks := .later }
def FnExactEventReadUptoCardSaid : Prop := Claim7.holds Tryz.pinned (.plain (OpenSpec.upto fnExactEventReadSpec)) fnExactEventReadUptoCard

/-- THE SECOND FORM's CARD OF 'laws.FnEventBack'. -/
def fnEventBackUptoCard : Claim7 := { stood := { row := fnEventBackUptoRow, standIns := [], harness := (true, "bf1f85f26ba9263b23cf553a9b44daa5a4e05492884629fdcb003a3253cd6691"), looks := true }, kinds := [], alts := [], laidByText := true, laidKinds := [.data, .data, .data, .sentinel, .sentinel], laidTests := true, laidLooks := .later }
def FnEventBackUptoCardSaid : Prop := Claim7.holds Tryz.pinned (.plain (OpenSpec.upto fnEventBackSpec)) fnEventBackUptoCard

/-- THE SECOND FORM's CARD OF 'laws.FnEventStrict'. -/
def fnEventStrictUptoCard : Claim7 := { stood := { row := fnEventStrictUptoRow, standIns := [], harness := (true, "bf1f85f26ba9263b23cf553a9b44daa5a4e05492884629fdcb003a3253cd6691"), looks := true }, kinds := [], alts := [], laidByText := true, laidKinds := [.data, .data, .data, .sentinel, .sentinel], laidTests := true, laidLooks := .later }
def FnEventStrictUptoCardSaid : Prop := Claim7.holds Tryz.pinned (.plain (OpenSpec.upto fnEventStrictSpec)) fnEventStrictUptoCard
end Rows
end Go.Proofs.YtnaecdoeldoipaaGreatDoor
