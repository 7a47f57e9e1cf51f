/-
  How much the marks count at a disk, and how many names it shows.
-/
import Derived.Test.YtdingkbggjehoaaDiskNames
import Derived.Test.YtdingkbggjehoaaNDisk
set_option linter.unusedVariables false
set_option linter.unusedSimpArgs false
namespace Go.Proofs.Ytdingkbggjehoaa
open Go.ChangeShapes Go.WideShapes Go.ChangeAt Go.RowKit

theorem DiskFile.cntS_len (l : List DiskFile) : DiskFile.cntS l = 3 * l.length := by
  induction l with
  | nil => rfl
  | cons x l ih => simp only [DiskFile.cntS, List.length_cons, ih, x.cnt_eq]; omega
theorem DiskMove.cntS_len (l : List DiskMove) : DiskMove.cntS l = 2 * l.length := by
  induction l with
  | nil => rfl
  | cons x l ih => simp only [DiskMove.cntS, List.length_cons, ih, x.cnt_eq]; omega
theorem Disk.cntTop_bulk (x : Disk) : x.cntTop ≤ 3 * x.bulk := by
  have h := x.cntTop_eq
  have h1 := DiskFile.cntS_len x.files
  have h2 := DiskMove.cntS_len x.moves
  have h3 := x.bulk_eq
  unfold bulkStrs DiskFile.bulkL DiskMove.bulkL at h3
  omega
theorem Disk.shown_len (x : Disk) : x.shown.length ≤ x.bulk := by
  have h3 := x.bulk_eq
  unfold bulkStrs DiskFile.bulkL DiskMove.bulkL at h3
  unfold Disk.shown
  split
  · have := afterW_len x x.moves.length
    omega
  · simp
end Go.Proofs.Ytdingkbggjehoaa
