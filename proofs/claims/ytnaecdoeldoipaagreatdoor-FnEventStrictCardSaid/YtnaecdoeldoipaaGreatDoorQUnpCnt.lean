/-
  What an unpacked event holds.
-/
import Derived.Test.YtnaecdoeldoipaaGreatDoorQUnp
import Derived.Test.YtnaecdoeldoipaaGreatDoorQNEvent2
set_option linter.unusedVariables false
set_option linter.unusedSimpArgs false
namespace Go.Proofs.YtnaecdoeldoipaaGreatDoor
open Go.ChangeShapes Go.WideShapes Go.ChangeAt Go.RowKit

theorem unpackE_bulk (l : List UInt8) : (unpackE l).bulk ≤ l.length := by
  by_cases h : ∃ x, Event.from l x
  · obtain ⟨x, hx⟩ := h
    rw [(unpack_yes hx).1]
    have h1 := pEvent_back true x hx.1
    rw [hx.2.1] at h1
    exact pEvent_bulk h1
  · rw [(unpack_no (fun x hx => h ⟨x, hx⟩)).1]
    exact Nat.zero_le _
end Go.Proofs.YtnaecdoeldoipaaGreatDoor
