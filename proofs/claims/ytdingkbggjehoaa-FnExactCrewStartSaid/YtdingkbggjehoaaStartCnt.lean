/-
  How much the marks count at the beginning of a crew.
-/
import Derived.Test.YtdingkbggjehoaaStartW
import Derived.Test.YtdingkbggjehoaaStartI
import Derived.Test.YtdingkbggjehoaaNCrewWorld
set_option linter.unusedVariables false
set_option linter.unusedSimpArgs false
namespace Go.Proofs.Ytdingkbggjehoaa
open Go.ChangeShapes Go.WideShapes Go.ChangeAt Go.RowKit

theorem CrewHand.cntS_len (l : List CrewHand) : CrewHand.cntS l = 2 * l.length := by
  induction l with
  | nil => rfl
  | cons x l ih => simp only [CrewHand.cntS, List.length_cons, ih, x.cnt_eq]; omega
theorem startOf_cntTop (a b c : Int) : (startOf a b c).cntTop ≤ 100 := by
  have h := (startOf a b c).cntTop_eq
  rw [CrewHand.cntS_len] at h
  rw [h]
  by_cases hk : crewOk a b c
  · rw [startOf_yes hk]
    obtain ⟨h1, h2, h3⟩ := hk
    simp only [crewAt, List.length_replicate, List.length_nil, List.length_cons]
    omega
  · rw [startOf_no hk]
    simp only [CrewWorld.none_, List.length_nil]
    omega
end Go.Proofs.Ytdingkbggjehoaa
