/-
  How many marks a plan that is read takes.
-/
import Derived.Test.YtknlnndocamcmaaDoorPlRI2
import Derived.Test.YtknlnndocamcmaaDoorNLogPlan
set_option linter.unusedVariables false
set_option linter.unusedSimpArgs false
namespace Go.Proofs.YtknlnndocamcmaaDoor
open Go.ChangeShapes Go.WideShapes Go.ChangeAt Go.RowKit

theorem readP_len (s : ByteArray) : (readP s).parts.length ≤ 40 := by
  unfold readP
  cases h : readPlan s with
  | none => decide
  | some q =>
    unfold readPlan at h
    split at h
    · rename_i hx
      injection h with h
      rw [← h]
      exact (Classical.choose_spec hx).1.1
    · cases h
theorem partS_cnt (l : List LogPart) : LogPart.cntS l = 4 * l.length := by
  induction l with
  | nil => rfl
  | cons x l ih => rw [LogPart.cntS, LogPart.cnt_eq, ih, List.length_cons]; omega
theorem readP_cnt (s : ByteArray) : (readP s).cntTop ≤ 160 := by
  have h := readP_len s
  rw [LogPlan.cntTop_eq, partS_cnt]
  omega
end Go.Proofs.YtknlnndocamcmaaDoor
