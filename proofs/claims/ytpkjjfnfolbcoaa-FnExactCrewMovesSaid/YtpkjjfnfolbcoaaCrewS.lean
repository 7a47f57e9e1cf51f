/-
  A list that is sorted: no two alike, if no two neighbours are: plain.
-/
import Derived.Test.YtpkjjfnfolbcoaaCrewM
set_option linter.unusedVariables false
set_option linter.unusedSimpArgs false
namespace Go.Proofs.Ytpkjjfnfolbcoaa
open Go.ChangeShapes Go.WideShapes Go.ChangeAt Go.RowKit

theorem sorted_nodup {l : List Int} (hs : l.Pairwise (· ≤ ·)) : l.Nodup ↔ ∀ i (h : i < l.length) (h0 : 0 < i), l[i - 1]'(by omega) ≠ l[i] := by
  rw [List.pairwise_iff_getElem] at hs
  unfold List.Nodup
  rw [List.pairwise_iff_getElem]
  constructor
  · intro h i hi h0
    exact h (i - 1) i (by omega) hi (by omega)
  · intro h i j hi hj hij e
    have h1 := h (i + 1) (by omega) (by omega)
    simp only [Nat.add_sub_cancel] at h1
    have h2 := hs i (i + 1) hi (by omega) (by omega)
    by_cases hj1 : i + 1 = j
    · subst hj1
      exact h1 e
    · have h3 := hs (i + 1) j (by omega) hj (by omega)
      omega
end Go.Proofs.Ytpkjjfnfolbcoaa
