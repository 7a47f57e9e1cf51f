/-
  How much the marks count at what a crew told, and at jobs.
-/
import Derived.Test.YtpkjjfnfolbcoaaQCrewSerial
import Derived.Test.YtpkjjfnfolbcoaaQNCrewTold
import Derived.Test.YtpkjjfnfolbcoaaQMCrewJob
set_option linter.unusedVariables false
set_option linter.unusedSimpArgs false
namespace Go.Proofs.Ytpkjjfnfolbcoaa
open Go.ChangeShapes Go.WideShapes Go.ChangeAt Go.RowKit

theorem CrewDead.cntS_len (l : List CrewDead) : CrewDead.cntS l = 2 * l.length := by
  induction l with
  | nil => rfl
  | cons x l ih => simp only [CrewDead.cntS, List.length_cons, ih, x.cnt_eq]; omega
theorem CrewJob.cntS_bulk (l : List CrewJob) : CrewJob.cntS l ≤ CrewJob.bulkL l := by
  have h : CrewJob.cntS l ≤ l.length + CrewJob.bulkS l := by
    induction l with
    | nil => simp [CrewJob.cntS]
    | cons x l ih =>
      have h1 := x.cnt_eq
      have h2 := x.bulk_eq
      simp only [CrewJob.cntS, CrewJob.bulkS, List.length_cons]
      omega
  exact h
end Go.Proofs.Ytpkjjfnfolbcoaa
