/-
  LogRecord as data: its cells, its size.
-/
import Derived.Test.YtbjblchhenmgjaaStr
set_option linter.unusedVariables false
set_option linter.unusedSimpArgs false
namespace Go.Proofs.Ytbjblchhenmgjaa
open Go.ChangeShapes Go.WideShapes Go.ChangeAt Go.RowKit

structure LogRecord where
  pos : Int
  data : ByteArray
def LogRecord.cells (x : LogRecord) : List D := [.v (.int .i64 x.pos), .v (.string x.data)]
theorem LogRecord.cells_eq (x : LogRecord) : x.cells = [.v (.int .i64 x.pos), .v (.string x.data)] := rfl
def LogRecord.bulk (x : LogRecord) : Nat := x.data.size
theorem LogRecord.bulk_eq (x : LogRecord) : x.bulk = x.data.size := rfl
def LogRecord.bulkS : List LogRecord → Nat
  | [] => 0
  | x :: r => x.bulk + LogRecord.bulkS r
theorem LogRecord.cells_len (x : LogRecord) : x.cells.length = 2 := by rw [LogRecord.cells_eq]; rfl
def LogRecord.bulkL (l : List LogRecord) : Nat := l.length + LogRecord.bulkS l
theorem LogRecord.bulkS_append (a b : List LogRecord) : LogRecord.bulkS (a ++ b) = LogRecord.bulkS a + LogRecord.bulkS b := by
  induction a with
  | nil => simp [LogRecord.bulkS]
  | cons x a ih => simp [LogRecord.bulkS, ih]; omega
theorem LogRecord.bulkS_snoc (l : List LogRecord) (k : Nat) (h : k < l.length) : LogRecord.bulkS (l.take (k + 1)) = LogRecord.bulkS (l.take k) + l[k].bulk := by
  rw [List.take_succ_eq_append_getElem h, LogRecord.bulkS_append]
  simp [LogRecord.bulkS]
theorem LogRecord.bulkS_le (l : List LogRecord) (k : Nat) : LogRecord.bulkS (l.take k) ≤ LogRecord.bulkS l := by
  conv => rhs; rw [← List.take_append_drop k l, LogRecord.bulkS_append]
  omega
theorem LogRecord.bulk_at (l : List LogRecord) (k : Nat) (h : k < l.length) : l[k].bulk ≤ LogRecord.bulkS l := by
  have h1 := LogRecord.bulkS_snoc l k h
  have h2 := LogRecord.bulkS_le l (k + 1)
  omega
theorem LogRecord.cells_snoc (l : List LogRecord) (k : Nat) (h : k < l.length) : (l.take (k + 1)).flatMap LogRecord.cells = (l.take k).flatMap LogRecord.cells ++ l[k].cells := by
  rw [List.take_succ_eq_append_getElem h, List.flatMap_append]
  simp
theorem OwC.oLogRecord {w : World} {x : LogRecord} {us : List Value} {fp : List Nat} (h : OwC w x.cells us fp) :
    us = [.int .i64 x.pos, .string x.data] ∧ (Lit.int .i64 x.pos).wf = true ∧ x.data.size ≤ maxLen ∧ fp = [] := by
  rw [LogRecord.cells_eq] at h
  match us, OwC.length _ h with
  | [u0, u1], _ =>
    simp only [OwC] at h
    obtain ⟨g0, _, h0, ⟨g1, _, h1, rfl, rfl⟩, rfl⟩ := h
    simp only [Ow, okAtom] at h0
    obtain ⟨rfl, w0, rfl⟩ := h0
    simp only [Ow, okAtom] at h1
    obtain ⟨rfl, w1, rfl⟩ := h1
    exact ⟨rfl, w0, w1, by simp⟩
theorem OwC.mLogRecord {w : World} {x : LogRecord} (w0 : (Lit.int .i64 x.pos).wf = true) (w1 : x.data.size ≤ maxLen) :
    OwC w x.cells [.int .i64 x.pos, .string x.data] ([]) := by
  have h : OwC w x.cells [.int .i64 x.pos, .string x.data] ([] ++ ([] ++ ([]))) := by
    rw [LogRecord.cells_eq]
    exact ⟨_, _, ⟨rfl, w0, rfl⟩, ⟨_, _, ⟨rfl, w1, rfl⟩, rfl, rfl⟩, rfl⟩
  simpa using h
end Go.Proofs.Ytbjblchhenmgjaa
