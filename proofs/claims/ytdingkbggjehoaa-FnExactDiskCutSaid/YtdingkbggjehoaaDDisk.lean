/-
  Disk as data: its cells, its size.
-/
import Derived.Test.YtdingkbggjehoaaStr
import Derived.Test.YtdingkbggjehoaaDDiskFile
import Derived.Test.YtdingkbggjehoaaDDiskMove
set_option linter.unusedVariables false
set_option linter.unusedSimpArgs false
namespace Go.Proofs.Ytdingkbggjehoaa
open Go.ChangeShapes Go.WideShapes Go.ChangeAt Go.RowKit

structure Disk where
  files : List DiskFile
  names : List ByteArray
  moves : List DiskMove
def Disk.cells (x : Disk) : List D := [.s 3 x.files.length (x.files.flatMap DiskFile.cells), .s 1 x.names.length (x.names.flatMap strC), .s 2 x.moves.length (x.moves.flatMap DiskMove.cells)]
theorem Disk.cells_eq (x : Disk) : x.cells = [.s 3 x.files.length (x.files.flatMap DiskFile.cells), .s 1 x.names.length (x.names.flatMap strC), .s 2 x.moves.length (x.moves.flatMap DiskMove.cells)] := rfl
def Disk.bulk (x : Disk) : Nat := DiskFile.bulkL x.files + bulkStrs x.names + DiskMove.bulkL x.moves
theorem Disk.bulk_eq (x : Disk) : x.bulk = DiskFile.bulkL x.files + bulkStrs x.names + DiskMove.bulkL x.moves := rfl
def Disk.bulkS : List Disk → Nat
  | [] => 0
  | x :: r => x.bulk + Disk.bulkS r
theorem Disk.cells_len (x : Disk) : x.cells.length = 3 := by rw [Disk.cells_eq]; rfl
def Disk.bulkL (l : List Disk) : Nat := l.length + Disk.bulkS l
theorem Disk.bulkS_append (a b : List Disk) : Disk.bulkS (a ++ b) = Disk.bulkS a + Disk.bulkS b := by
  induction a with
  | nil => simp [Disk.bulkS]
  | cons x a ih => simp [Disk.bulkS, ih]; omega
theorem Disk.bulkS_snoc (l : List Disk) (k : Nat) (h : k < l.length) : Disk.bulkS (l.take (k + 1)) = Disk.bulkS (l.take k) + l[k].bulk := by
  rw [List.take_succ_eq_append_getElem h, Disk.bulkS_append]
  simp [Disk.bulkS]
theorem Disk.bulkS_le (l : List Disk) (k : Nat) : Disk.bulkS (l.take k) ≤ Disk.bulkS l := by
  conv => rhs; rw [← List.take_append_drop k l, Disk.bulkS_append]
  omega
theorem Disk.bulk_at (l : List Disk) (k : Nat) (h : k < l.length) : l[k].bulk ≤ Disk.bulkS l := by
  have h1 := Disk.bulkS_snoc l k h
  have h2 := Disk.bulkS_le l (k + 1)
  omega
theorem Disk.cells_snoc (l : List Disk) (k : Nat) (h : k < l.length) : (l.take (k + 1)).flatMap Disk.cells = (l.take k).flatMap Disk.cells ++ l[k].cells := by
  rw [List.take_succ_eq_append_getElem h, List.flatMap_append]
  simp
theorem OwC.oDisk {w : World} {x : Disk} {us : List Value} {fp : List Nat} (h : OwC w x.cells us fp) :
    ∃ A1 c1 A2 c2 A3 c3 f1 f2 f3, us = [.slice A1 x.files.length c1, .slice A2 x.names.length c2, .slice A3 x.moves.length c3] ∧ Ow w (.s 3 x.files.length (x.files.flatMap DiskFile.cells)) (.slice A1 x.files.length c1) f1 ∧ Ow w (.s 1 x.names.length (x.names.flatMap strC)) (.slice A2 x.names.length c2) f2 ∧ Ow w (.s 2 x.moves.length (x.moves.flatMap DiskMove.cells)) (.slice A3 x.moves.length c3) f3 ∧ fp = f1 ++ (f2 ++ (f3)) := by
  rw [Disk.cells_eq] at h
  match us, OwC.length _ h with
  | [u0, u1, u2], _ =>
    simp only [OwC] at h
    obtain ⟨g0, _, h0, ⟨g1, _, h1, ⟨g2, _, h2, rfl, rfl⟩, rfl⟩, rfl⟩ := h
    obtain ⟨A1, c1, rfl, _⟩ := h0.slice
    obtain ⟨A2, c2, rfl, _⟩ := h1.slice
    obtain ⟨A3, c3, rfl, _⟩ := h2.slice
    exact ⟨A1, c1, A2, c2, A3, c3, g0, g1, g2, rfl, h0, h1, h2, by simp⟩
theorem OwC.mDisk {w : World} {x : Disk} {v1 v2 v3 : Value} {f1 f2 f3 : List Nat} (h0 : Ow w (.s 3 x.files.length (x.files.flatMap DiskFile.cells)) v1 f1) (h1 : Ow w (.s 1 x.names.length (x.names.flatMap strC)) v2 f2) (h2 : Ow w (.s 2 x.moves.length (x.moves.flatMap DiskMove.cells)) v3 f3) :
    OwC w x.cells [v1, v2, v3] (f1 ++ (f2 ++ (f3))) := by
  have h : OwC w x.cells [v1, v2, v3] (f1 ++ (f2 ++ (f3 ++ ([])))) := by
    rw [Disk.cells_eq]
    exact ⟨_, _, h0, ⟨_, _, h1, ⟨_, _, h2, rfl, rfl⟩, rfl⟩, rfl⟩
  simpa using h
end Go.Proofs.Ytdingkbggjehoaa
