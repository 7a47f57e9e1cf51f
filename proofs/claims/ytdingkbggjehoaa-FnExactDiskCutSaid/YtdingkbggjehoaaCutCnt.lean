/-
  How much the marks count at what is left of a disk.
-/
import Derived.Test.YtdingkbggjehoaaDiskCnt
import Derived.Test.YtdingkbggjehoaaCutM
set_option linter.unusedVariables false
set_option linter.unusedSimpArgs false
namespace Go.Proofs.Ytdingkbggjehoaa
open Go.ChangeShapes Go.WideShapes Go.ChangeAt Go.RowKit

theorem Disk.cutOf_cnt (x : Disk) (m : Int) (keep : List Int) : (x.cutOf m keep).cntTop ≤ 8 * x.bulk := by
  have h := (x.cutOf m keep).cntTop_eq
  have h1 := DiskFile.cntS_len (x.cutOf m keep).files
  have h2 := DiskMove.cntS_len (x.cutOf m keep).moves
  have h3 := x.bulk_eq
  unfold bulkStrs DiskFile.bulkL DiskMove.bulkL at h3
  have hl : (x.cutOf m keep).files.length ≤ x.bulk ∧ (x.cutOf m keep).names.length ≤ x.bulk ∧ (x.cutOf m keep).moves.length = 0 := by
    by_cases ho : tb x.ok = true
    · rw [Disk.cutOf_yes ho]
      have h4 := afterW_len x (clampM m x.moves.length)
      have h5 := clampM_le m x.moves.length
      have h6 : (x.cutNames m).length ≤ x.bulk := by unfold Disk.cutNames; omega
      exact ⟨by show ((x.cutNames m).map _).length ≤ _; rw [List.length_map]; exact h6, h6, rfl⟩
    · rw [Disk.cutOf_no (by simpa using ho)]
      exact ⟨Nat.zero_le _, Nat.zero_le _, rfl⟩
  omega
end Go.Proofs.Ytdingkbggjehoaa
