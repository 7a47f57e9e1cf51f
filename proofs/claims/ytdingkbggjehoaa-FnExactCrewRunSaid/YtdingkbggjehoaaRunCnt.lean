/-
  How much the marks count at what a crew told in a run.
-/
import Derived.Test.YtdingkbggjehoaaCrewRun
import Derived.Test.YtdingkbggjehoaaCrewCnt
set_option linter.unusedVariables false
set_option linter.unusedSimpArgs false
namespace Go.Proofs.Ytdingkbggjehoaa
open Go.ChangeShapes Go.WideShapes Go.ChangeAt Go.RowKit

theorem runOf_cntTop (l : List CrewJob) (b c : Int) : (runOf l b c).cntTop ≤ 2520 := by
  unfold runOf
  split
  · exact serialOf_cntTop l
  · have h := (CrewTold.none_).cntTop_eq
    have h2 := CrewDead.cntS_len (CrewTold.none_).dead
    simp only [CrewTold.none_, List.length_nil] at h h2
    simp only [CrewTold.none_]
    omega
end Go.Proofs.Ytdingkbggjehoaa
