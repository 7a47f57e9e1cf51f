/-
  DiskFile as data: its cells, its size.
-/
import Derived.Test.YtdingkbggjehoaaStr
set_option linter.unusedVariables false
set_option linter.unusedSimpArgs false
namespace Go.Proofs.Ytdingkbggjehoaa
open Go.ChangeShapes Go.WideShapes Go.ChangeAt Go.RowKit

structure DiskFile where
  name : ByteArray
  data : ByteArray
  kept : Int
def DiskFile.cells (x : DiskFile) : List D := [.v (.string x.name), .v (.string x.data), .v (.int .i64 x.kept)]
theorem DiskFile.cells_eq (x : DiskFile) : x.cells = [.v (.string x.name), .v (.string x.data), .v (.int .i64 x.kept)] := rfl
def DiskFile.bulk (x : DiskFile) : Nat := x.name.size + x.data.size
theorem DiskFile.bulk_eq (x : DiskFile) : x.bulk = x.name.size + x.data.size := rfl
def DiskFile.bulkS : List DiskFile → Nat
  | [] => 0
  | x :: r => x.bulk + DiskFile.bulkS r
theorem DiskFile.cells_len (x : DiskFile) : x.cells.length = 3 := by rw [DiskFile.cells_eq]; rfl
def DiskFile.bulkL (l : List DiskFile) : Nat := l.length + DiskFile.bulkS l
theorem DiskFile.bulkS_append (a b : List DiskFile) : DiskFile.bulkS (a ++ b) = DiskFile.bulkS a + DiskFile.bulkS b := by
  induction a with
  | nil => simp [DiskFile.bulkS]
  | cons x a ih => simp [DiskFile.bulkS, ih]; omega
theorem DiskFile.bulkS_snoc (l : List DiskFile) (k : Nat) (h : k < l.length) : DiskFile.bulkS (l.take (k + 1)) = DiskFile.bulkS (l.take k) + l[k].bulk := by
  rw [List.take_succ_eq_append_getElem h, DiskFile.bulkS_append]
  simp [DiskFile.bulkS]
theorem DiskFile.bulkS_le (l : List DiskFile) (k : Nat) : DiskFile.bulkS (l.take k) ≤ DiskFile.bulkS l := by
  conv => rhs; rw [← List.take_append_drop k l, DiskFile.bulkS_append]
  omega
theorem DiskFile.bulk_at (l : List DiskFile) (k : Nat) (h : k < l.length) : l[k].bulk ≤ DiskFile.bulkS l := by
  have h1 := DiskFile.bulkS_snoc l k h
  have h2 := DiskFile.bulkS_le l (k + 1)
  omega
theorem DiskFile.cells_snoc (l : List DiskFile) (k : Nat) (h : k < l.length) : (l.take (k + 1)).flatMap DiskFile.cells = (l.take k).flatMap DiskFile.cells ++ l[k].cells := by
  rw [List.take_succ_eq_append_getElem h, List.flatMap_append]
  simp
theorem OwC.oDiskFile {w : World} {x : DiskFile} {us : List Value} {fp : List Nat} (h : OwC w x.cells us fp) :
    us = [.string x.name, .string x.data, .int .i64 x.kept] ∧ x.name.size ≤ maxLen ∧ x.data.size ≤ maxLen ∧ (Lit.int .i64 x.kept).wf = true ∧ fp = [] := by
  rw [DiskFile.cells_eq] at h
  match us, OwC.length _ h with
  | [u0, u1, u2], _ =>
    simp only [OwC] at h
    obtain ⟨g0, _, h0, ⟨g1, _, h1, ⟨g2, _, h2, rfl, rfl⟩, rfl⟩, rfl⟩ := h
    simp only [Ow, okAtom] at h0
    obtain ⟨rfl, w0, rfl⟩ := h0
    simp only [Ow, okAtom] at h1
    obtain ⟨rfl, w1, rfl⟩ := h1
    simp only [Ow, okAtom] at h2
    obtain ⟨rfl, w2, rfl⟩ := h2
    exact ⟨rfl, w0, w1, w2, by simp⟩
theorem OwC.mDiskFile {w : World} {x : DiskFile} (w0 : x.name.size ≤ maxLen) (w1 : x.data.size ≤ maxLen) (w2 : (Lit.int .i64 x.kept).wf = true) :
    OwC w x.cells [.string x.name, .string x.data, .int .i64 x.kept] ([]) := by
  have h : OwC w x.cells [.string x.name, .string x.data, .int .i64 x.kept] ([] ++ ([] ++ ([] ++ ([])))) := by
    rw [DiskFile.cells_eq]
    exact ⟨_, _, ⟨rfl, w0, rfl⟩, ⟨_, _, ⟨rfl, w1, rfl⟩, ⟨_, _, ⟨rfl, w2, rfl⟩, rfl, rfl⟩, rfl⟩, rfl⟩
  simpa using h
end Go.Proofs.Ytdingkbggjehoaa
