/-
  DiskMove as data: its cells, its size. LogRecord as data: its cells, its size. Records that stand one behind the other in a text: plain definitions. LogPart as data: its cells, its size.
-/
import Derived.Test.YtddjgbhkfdpffaaGreatDoorOStr
set_option linter.unusedVariables false
set_option linter.unusedSimpArgs false
namespace Go.Proofs.YtddjgbhkfdpffaaGreatDoor
open Go.ChangeShapes Go.WideShapes Go.ChangeAt Go.RowKit

structure DiskMove where
  gone : Bool
  name : ByteArray
def DiskMove.cells (x : DiskMove) : List D := [.v (.bool x.gone), .v (.string x.name)]
theorem DiskMove.cells_eq (x : DiskMove) : x.cells = [.v (.bool x.gone), .v (.string x.name)] := rfl
def DiskMove.bulk (x : DiskMove) : Nat := x.name.size
theorem DiskMove.bulk_eq (x : DiskMove) : x.bulk = x.name.size := rfl
def DiskMove.bulkS : List DiskMove → Nat
  | [] => 0
  | x :: r => x.bulk + DiskMove.bulkS r
theorem DiskMove.cells_len (x : DiskMove) : x.cells.length = 2 := by rw [DiskMove.cells_eq]; rfl
def DiskMove.bulkL (l : List DiskMove) : Nat := l.length + DiskMove.bulkS l
theorem DiskMove.bulkS_append (a b : List DiskMove) : DiskMove.bulkS (a ++ b) = DiskMove.bulkS a + DiskMove.bulkS b := by
  induction a with
  | nil => simp [DiskMove.bulkS]
  | cons x a ih => simp [DiskMove.bulkS, ih]; omega
theorem DiskMove.bulkS_snoc (l : List DiskMove) (k : Nat) (h : k < l.length) : DiskMove.bulkS (l.take (k + 1)) = DiskMove.bulkS (l.take k) + l[k].bulk := by
  rw [List.take_succ_eq_append_getElem h, DiskMove.bulkS_append]
  simp [DiskMove.bulkS]
theorem DiskMove.bulkS_le (l : List DiskMove) (k : Nat) : DiskMove.bulkS (l.take k) ≤ DiskMove.bulkS l := by
  conv => rhs; rw [← List.take_append_drop k l, DiskMove.bulkS_append]
  omega
theorem DiskMove.bulk_at (l : List DiskMove) (k : Nat) (h : k < l.length) : l[k].bulk ≤ DiskMove.bulkS l := by
  have h1 := DiskMove.bulkS_snoc l k h
  have h2 := DiskMove.bulkS_le l (k + 1)
  omega
theorem DiskMove.cells_snoc (l : List DiskMove) (k : Nat) (h : k < l.length) : (l.take (k + 1)).flatMap DiskMove.cells = (l.take k).flatMap DiskMove.cells ++ l[k].cells := by
  rw [List.take_succ_eq_append_getElem h, List.flatMap_append]
  simp
theorem OwC.oDiskMove {w : World} {x : DiskMove} {us : List Value} {fp : List Nat} (h : OwC w x.cells us fp) :
    us = [.bool x.gone, .string x.name] ∧ x.name.size ≤ maxLen ∧ fp = [] := by
  rw [DiskMove.cells_eq] at h
  match us, OwC.length _ h with
  | [u0, u1], _ =>
    simp only [OwC] at h
    obtain ⟨g0, _, h0, ⟨g1, _, h1, rfl, rfl⟩, rfl⟩ := h
    simp only [Ow, okAtom] at h0
    obtain ⟨rfl, _, rfl⟩ := h0
    simp only [Ow, okAtom] at h1
    obtain ⟨rfl, w1, rfl⟩ := h1
    exact ⟨rfl, w1, by simp⟩
theorem OwC.mDiskMove {w : World} {x : DiskMove} (w1 : x.name.size ≤ maxLen) :
    OwC w x.cells [.bool x.gone, .string x.name] ([]) := by
  have h : OwC w x.cells [.bool x.gone, .string x.name] ([] ++ ([] ++ ([]))) := by
    rw [DiskMove.cells_eq]
    exact ⟨_, _, ⟨rfl, trivial, rfl⟩, ⟨_, _, ⟨rfl, w1, rfl⟩, rfl, rfl⟩, rfl⟩
  simpa using h
end Go.Proofs.YtddjgbhkfdpffaaGreatDoor
set_option linter.unusedVariables false
set_option linter.unusedSimpArgs false
namespace Go.Proofs.YtddjgbhkfdpffaaGreatDoor
open Go.ChangeShapes Go.WideShapes Go.ChangeAt Go.RowKit

structure LogRecord where
  pos : Int
  data : ByteArray
def LogRecord.cells (x : LogRecord) : List D := [.v (.int .i64 x.pos), .v (.string x.data)]
theorem LogRecord.cells_eq (x : LogRecord) : x.cells = [.v (.int .i64 x.pos), .v (.string x.data)] := rfl
def LogRecord.bulk (x : LogRecord) : Nat := x.data.size
theorem LogRecord.bulk_eq (x : LogRecord) : x.bulk = x.data.size := rfl
def LogRecord.bulkS : List LogRecord → Nat
  | [] => 0
  | x :: r => x.bulk + LogRecord.bulkS r
theorem LogRecord.cells_len (x : LogRecord) : x.cells.length = 2 := by rw [LogRecord.cells_eq]; rfl
def LogRecord.bulkL (l : List LogRecord) : Nat := l.length + LogRecord.bulkS l
theorem LogRecord.bulkS_append (a b : List LogRecord) : LogRecord.bulkS (a ++ b) = LogRecord.bulkS a + LogRecord.bulkS b := by
  induction a with
  | nil => simp [LogRecord.bulkS]
  | cons x a ih => simp [LogRecord.bulkS, ih]; omega
theorem LogRecord.bulkS_snoc (l : List LogRecord) (k : Nat) (h : k < l.length) : LogRecord.bulkS (l.take (k + 1)) = LogRecord.bulkS (l.take k) + l[k].bulk := by
  rw [List.take_succ_eq_append_getElem h, LogRecord.bulkS_append]
  simp [LogRecord.bulkS]
theorem LogRecord.bulkS_le (l : List LogRecord) (k : Nat) : LogRecord.bulkS (l.take k) ≤ LogRecord.bulkS l := by
  conv => rhs; rw [← List.take_append_drop k l, LogRecord.bulkS_append]
  omega
theorem LogRecord.bulk_at (l : List LogRecord) (k : Nat) (h : k < l.length) : l[k].bulk ≤ LogRecord.bulkS l := by
  have h1 := LogRecord.bulkS_snoc l k h
  have h2 := LogRecord.bulkS_le l (k + 1)
  omega
theorem LogRecord.cells_snoc (l : List LogRecord) (k : Nat) (h : k < l.length) : (l.take (k + 1)).flatMap LogRecord.cells = (l.take k).flatMap LogRecord.cells ++ l[k].cells := by
  rw [List.take_succ_eq_append_getElem h, List.flatMap_append]
  simp
theorem OwC.oLogRecord {w : World} {x : LogRecord} {us : List Value} {fp : List Nat} (h : OwC w x.cells us fp) :
    us = [.int .i64 x.pos, .string x.data] ∧ (Lit.int .i64 x.pos).wf = true ∧ x.data.size ≤ maxLen ∧ fp = [] := by
  rw [LogRecord.cells_eq] at h
  match us, OwC.length _ h with
  | [u0, u1], _ =>
    simp only [OwC] at h
    obtain ⟨g0, _, h0, ⟨g1, _, h1, rfl, rfl⟩, rfl⟩ := h
    simp only [Ow, okAtom] at h0
    obtain ⟨rfl, w0, rfl⟩ := h0
    simp only [Ow, okAtom] at h1
    obtain ⟨rfl, w1, rfl⟩ := h1
    exact ⟨rfl, w0, w1, by simp⟩
theorem OwC.mLogRecord {w : World} {x : LogRecord} (w0 : (Lit.int .i64 x.pos).wf = true) (w1 : x.data.size ≤ maxLen) :
    OwC w x.cells [.int .i64 x.pos, .string x.data] ([]) := by
  have h : OwC w x.cells [.int .i64 x.pos, .string x.data] ([] ++ ([] ++ ([]))) := by
    rw [LogRecord.cells_eq]
    exact ⟨_, _, ⟨rfl, w0, rfl⟩, ⟨_, _, ⟨rfl, w1, rfl⟩, rfl, rfl⟩, rfl⟩
  simpa using h
end Go.Proofs.YtddjgbhkfdpffaaGreatDoor
set_option linter.unusedVariables false
set_option linter.unusedSimpArgs false
namespace Go.Proofs.YtddjgbhkfdpffaaGreatDoor
open Go.ChangeShapes Go.WideShapes Go.ChangeAt Go.RowKit

def bAt (d : ByteArray) (i : Nat) : Nat := if h : i < d.size then d[i].toNat else 0
theorem bAt_eq {d : ByteArray} {i : Nat} (h : i < d.size) : bAt d i = d[i].toNat := by unfold bAt; rw [dif_pos h]
theorem bAt_lt (d : ByteArray) (i : Nat) : bAt d i < 256 := by
  unfold bAt
  split
  · exact UInt8.toNat_lt _
  · decide
def frN (d : ByteArray) (i : Nat) : Nat := bAt d i * 256 + bAt d (i + 1)
def frP (d : ByteArray) (i : Nat) : Nat := bAt d (i + 2) * 65536 + bAt d (i + 3) * 256 + bAt d (i + 4)
def frOk (d : ByteArray) (i : Nat) : Prop := i + 5 ≤ d.size ∧ frN d i ≤ 2000 ∧ 1 ≤ frP d i ∧ frP d i ≤ 999999 ∧ i + 5 + frN d i ≤ d.size
def frRec (d : ByteArray) (i : Nat) : LogRecord := ⟨frP d i, d.extract (i + 5) (i + 5 + frN d i)⟩
open Classical in
noncomputable def frFrom (d : ByteArray) (i : Nat) : List LogRecord × Nat :=
  if h : frOk d i then (frRec d i :: (frFrom d (i + 5 + frN d i)).1, (frFrom d (i + 5 + frN d i)).2) else ([], i)
termination_by d.size - i
decreasing_by all_goals (have := h.1; omega)
theorem frFrom_yes {d : ByteArray} {i : Nat} (h : frOk d i) : frFrom d i = (frRec d i :: (frFrom d (i + 5 + frN d i)).1, (frFrom d (i + 5 + frN d i)).2) := by
  rw [frFrom, dif_pos h]
theorem frFrom_no {d : ByteArray} {i : Nat} (h : ¬ frOk d i) : frFrom d i = ([], i) := by
  rw [frFrom, dif_neg h]
/-- so far l has been read, up to i -/
def FrTo (d : ByteArray) (i : Nat) (l : List LogRecord) : Prop := i ≤ d.size ∧ 5 * l.length ≤ i ∧ frFrom d 0 = (l ++ (frFrom d i).1, (frFrom d i).2)
theorem FrTo.zero (d : ByteArray) : FrTo d 0 [] := ⟨Nat.zero_le _, by simp, by simp⟩
theorem FrTo.step {d : ByteArray} {i : Nat} {l : List LogRecord} (h : FrTo d i l) (ho : frOk d i) : FrTo d (i + 5 + frN d i) (l ++ [frRec d i]) := by
  refine ⟨ho.2.2.2.2, by have := h.2.1; simp; omega, ?_⟩
  rw [h.2.2, frFrom_yes ho]
  simp
theorem FrTo.done {d : ByteArray} {i : Nat} {l : List LogRecord} (h : FrTo d i l) (ho : ¬ frOk d i) : frFrom d 0 = (l, i) := by
  rw [h.2.2, frFrom_no ho]
  simp
end Go.Proofs.YtddjgbhkfdpffaaGreatDoor
set_option linter.unusedVariables false
set_option linter.unusedSimpArgs false
namespace Go.Proofs.YtddjgbhkfdpffaaGreatDoor
open Go.ChangeShapes Go.WideShapes Go.ChangeAt Go.RowKit

structure LogPart where
  num : Int
  first : Int
  next : Int
  size : Int
def LogPart.cells (x : LogPart) : List D := [.v (.int .i64 x.num), .v (.int .i64 x.first), .v (.int .i64 x.next), .v (.int .i64 x.size)]
theorem LogPart.cells_eq (x : LogPart) : x.cells = [.v (.int .i64 x.num), .v (.int .i64 x.first), .v (.int .i64 x.next), .v (.int .i64 x.size)] := rfl
theorem LogPart.cells_len (x : LogPart) : x.cells.length = 4 := by rw [LogPart.cells_eq]; rfl
def LogPart.bulkL (l : List LogPart) : Nat := l.length
theorem LogPart.cells_snoc (l : List LogPart) (k : Nat) (h : k < l.length) : (l.take (k + 1)).flatMap LogPart.cells = (l.take k).flatMap LogPart.cells ++ l[k].cells := by
  rw [List.take_succ_eq_append_getElem h, List.flatMap_append]
  simp
theorem OwC.oLogPart {w : World} {x : LogPart} {us : List Value} {fp : List Nat} (h : OwC w x.cells us fp) :
    us = [.int .i64 x.num, .int .i64 x.first, .int .i64 x.next, .int .i64 x.size] ∧ (Lit.int .i64 x.num).wf = true ∧ (Lit.int .i64 x.first).wf = true ∧ (Lit.int .i64 x.next).wf = true ∧ (Lit.int .i64 x.size).wf = true ∧ fp = [] := by
  rw [LogPart.cells_eq] at h
  match us, OwC.length _ h with
  | [u0, u1, u2, u3], _ =>
    simp only [OwC] at h
    obtain ⟨g0, _, h0, ⟨g1, _, h1, ⟨g2, _, h2, ⟨g3, _, h3, rfl, rfl⟩, rfl⟩, rfl⟩, rfl⟩ := h
    simp only [Ow, okAtom] at h0
    obtain ⟨rfl, w0, rfl⟩ := h0
    simp only [Ow, okAtom] at h1
    obtain ⟨rfl, w1, rfl⟩ := h1
    simp only [Ow, okAtom] at h2
    obtain ⟨rfl, w2, rfl⟩ := h2
    simp only [Ow, okAtom] at h3
    obtain ⟨rfl, w3, rfl⟩ := h3
    exact ⟨rfl, w0, w1, w2, w3, by simp⟩
theorem OwC.mLogPart {w : World} {x : LogPart} (w0 : (Lit.int .i64 x.num).wf = true) (w1 : (Lit.int .i64 x.first).wf = true) (w2 : (Lit.int .i64 x.next).wf = true) (w3 : (Lit.int .i64 x.size).wf = true) :
    OwC w x.cells [.int .i64 x.num, .int .i64 x.first, .int .i64 x.next, .int .i64 x.size] ([]) := by
  have h : OwC w x.cells [.int .i64 x.num, .int .i64 x.first, .int .i64 x.next, .int .i64 x.size] ([] ++ ([] ++ ([] ++ ([] ++ ([]))))) := by
    rw [LogPart.cells_eq]
    exact ⟨_, _, ⟨rfl, w0, rfl⟩, ⟨_, _, ⟨rfl, w1, rfl⟩, ⟨_, _, ⟨rfl, w2, rfl⟩, ⟨_, _, ⟨rfl, w3, rfl⟩, rfl, rfl⟩, rfl⟩, rfl⟩, rfl⟩
  simpa using h
end Go.Proofs.YtddjgbhkfdpffaaGreatDoor
