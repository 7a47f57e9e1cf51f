/-
  Whether those have ended who may have: the reference.
-/
import Derived.Test.YtpkjjfnfolbcoaaCrewW6A
import Derived.Test.YtpkjjfnfolbcoaaCrewW6B
import Derived.Test.YtpkjjfnfolbcoaaCrewW6C
set_option linter.unusedVariables false
set_option linter.unusedSimpArgs false
namespace Go.Proofs.Ytpkjjfnfolbcoaa
open Go.ChangeShapes Go.WideShapes Go.ChangeAt Go.RowKit

theorem l51Ends_any (x : CrewWorld) (us : List Value) (fp : List Nat) (w : World) (ho : OwC w x.cells us fp) (hf : Lt fp w.heap.size) (hfm : x.Form) :
    Calls Try.prog 57 #[.agg us.toArray] w fun e w' => e = .returned (.bool (tb (x.Ends ∧ x.Kept))) ∧ Below w.heap.size w w' := by
  by_cases hst : x.sh 3 = 1
  · exact l51EndsA_any x us fp w ho hf hfm hst
  · by_cases hk4 : 4 ≤ x.keeper
    · exact l51EndsB_any x us fp w ho hf hfm hst hk4
    · exact l51EndsC_any x us fp w ho hf hfm hst hk4
end Go.Proofs.Ytpkjjfnfolbcoaa
