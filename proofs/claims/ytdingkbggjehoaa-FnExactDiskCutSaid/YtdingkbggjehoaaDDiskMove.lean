/-
  DiskMove as data: its cells, its size.
-/
import Derived.Test.YtdingkbggjehoaaStr
set_option linter.unusedVariables false
set_option linter.unusedSimpArgs false
namespace Go.Proofs.Ytdingkbggjehoaa
open Go.ChangeShapes Go.WideShapes Go.ChangeAt Go.RowKit

structure DiskMove where
  gone : Bool
  name : ByteArray
def DiskMove.cells (x : DiskMove) : List D := [.v (.bool x.gone), .v (.string x.name)]
theorem DiskMove.cells_eq (x : DiskMove) : x.cells = [.v (.bool x.gone), .v (.string x.name)] := rfl
def DiskMove.bulk (x : DiskMove) : Nat := x.name.size
theorem DiskMove.bulk_eq (x : DiskMove) : x.bulk = x.name.size := rfl
def DiskMove.bulkS : List DiskMove → Nat
  | [] => 0
  | x :: r => x.bulk + DiskMove.bulkS r
theorem DiskMove.cells_len (x : DiskMove) : x.cells.length = 2 := by rw [DiskMove.cells_eq]; rfl
def DiskMove.bulkL (l : List DiskMove) : Nat := l.length + DiskMove.bulkS l
theorem DiskMove.bulkS_append (a b : List DiskMove) : DiskMove.bulkS (a ++ b) = DiskMove.bulkS a + DiskMove.bulkS b := by
  induction a with
  | nil => simp [DiskMove.bulkS]
  | cons x a ih => simp [DiskMove.bulkS, ih]; omega
theorem DiskMove.bulkS_snoc (l : List DiskMove) (k : Nat) (h : k < l.length) : DiskMove.bulkS (l.take (k + 1)) = DiskMove.bulkS (l.take k) + l[k].bulk := by
  rw [List.take_succ_eq_append_getElem h, DiskMove.bulkS_append]
  simp [DiskMove.bulkS]
theorem DiskMove.bulkS_le (l : List DiskMove) (k : Nat) : DiskMove.bulkS (l.take k) ≤ DiskMove.bulkS l := by
  conv => rhs; rw [← List.take_append_drop k l, DiskMove.bulkS_append]
  omega
theorem DiskMove.bulk_at (l : List DiskMove) (k : Nat) (h : k < l.length) : l[k].bulk ≤ DiskMove.bulkS l := by
  have h1 := DiskMove.bulkS_snoc l k h
  have h2 := DiskMove.bulkS_le l (k + 1)
  omega
theorem DiskMove.cells_snoc (l : List DiskMove) (k : Nat) (h : k < l.length) : (l.take (k + 1)).flatMap DiskMove.cells = (l.take k).flatMap DiskMove.cells ++ l[k].cells := by
  rw [List.take_succ_eq_append_getElem h, List.flatMap_append]
  simp
theorem OwC.oDiskMove {w : World} {x : DiskMove} {us : List Value} {fp : List Nat} (h : OwC w x.cells us fp) :
    us = [.bool x.gone, .string x.name] ∧ x.name.size ≤ maxLen ∧ fp = [] := by
  rw [DiskMove.cells_eq] at h
  match us, OwC.length _ h with
  | [u0, u1], _ =>
    simp only [OwC] at h
    obtain ⟨g0, _, h0, ⟨g1, _, h1, rfl, rfl⟩, rfl⟩ := h
    simp only [Ow, okAtom] at h0
    obtain ⟨rfl, _, rfl⟩ := h0
    simp only [Ow, okAtom] at h1
    obtain ⟨rfl, w1, rfl⟩ := h1
    exact ⟨rfl, w1, by simp⟩
theorem OwC.mDiskMove {w : World} {x : DiskMove} (w1 : x.name.size ≤ maxLen) :
    OwC w x.cells [.bool x.gone, .string x.name] ([]) := by
  have h : OwC w x.cells [.bool x.gone, .string x.name] ([] ++ ([] ++ ([]))) := by
    rw [DiskMove.cells_eq]
    exact ⟨_, _, ⟨rfl, trivial, rfl⟩, ⟨_, _, ⟨rfl, w1, rfl⟩, rfl, rfl⟩, rfl⟩
  simpa using h
end Go.Proofs.Ytdingkbggjehoaa
