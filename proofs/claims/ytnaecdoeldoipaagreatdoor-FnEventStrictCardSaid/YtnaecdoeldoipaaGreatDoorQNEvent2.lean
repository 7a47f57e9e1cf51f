/-
  The laws' marks at an Event by value, as the general walk wants them; how much EventUnpack's answer counts.
-/
import Derived.Test.YtnaecdoeldoipaaGreatDoorQNEvent
set_option linter.unusedVariables false
set_option linter.unusedSimpArgs false
namespace Go.Proofs.YtnaecdoeldoipaaGreatDoor
open Go.ChangeShapes Go.WideShapes Go.ChangeAt Go.RowKit

end Go.Proofs.YtnaecdoeldoipaaGreatDoor
