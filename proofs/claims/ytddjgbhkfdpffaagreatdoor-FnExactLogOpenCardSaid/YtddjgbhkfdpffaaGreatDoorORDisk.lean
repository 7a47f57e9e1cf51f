/-
  LogState as data: its cells, its size. A value of laws.DiskFile that came in, read as data. A value of laws.DiskMove that came in, read as data. A value of laws.Disk that came in, read as data.
-/
import Derived.Test.YtddjgbhkfdpffaaGreatDoorOStr
import Derived.Test.YtddjgbhkfdpffaaGreatDoorORead
import Derived.Test.YtddjgbhkfdpffaaGreatDoorODLogPart
import Derived.Test.YtddjgbhkfdpffaaGreatDoorOHLogRecord
set_option linter.unusedVariables false
set_option linter.unusedSimpArgs false
namespace Go.Proofs.YtddjgbhkfdpffaaGreatDoor
open Go.ChangeShapes Go.WideShapes Go.ChangeAt Go.RowKit

structure LogState where
  code : Int
  num : Int
  plan : LogPlan
  size : Int
  torn : Bool
  next : Int
  records : List LogRecord
def LogState.cells (x : LogState) : List D := [.v (.int .i64 x.code), .v (.int .i64 x.num), .s 4 x.plan.parts.length (x.plan.parts.flatMap LogPart.cells), .v (.int .i64 x.plan.open_), .v (.int .i64 x.plan.first), .v (.int .i64 x.size), .v (.bool x.torn), .v (.int .i64 x.next), .s 2 x.records.length (x.records.flatMap LogRecord.cells)]
theorem LogState.cells_eq (x : LogState) : x.cells = [.v (.int .i64 x.code), .v (.int .i64 x.num), .s 4 x.plan.parts.length (x.plan.parts.flatMap LogPart.cells), .v (.int .i64 x.plan.open_), .v (.int .i64 x.plan.first), .v (.int .i64 x.size), .v (.bool x.torn), .v (.int .i64 x.next), .s 2 x.records.length (x.records.flatMap LogRecord.cells)] := rfl
def LogState.bulk (x : LogState) : Nat := x.plan.bulk + LogRecord.bulkL x.records
theorem LogState.bulk_eq (x : LogState) : x.bulk = x.plan.bulk + LogRecord.bulkL x.records := rfl
def LogState.bulkS : List LogState → Nat
  | [] => 0
  | x :: r => x.bulk + LogState.bulkS r
theorem LogState.cells_len (x : LogState) : x.cells.length = 9 := by rw [LogState.cells_eq]; rfl
def LogState.bulkL (l : List LogState) : Nat := l.length + LogState.bulkS l
theorem LogState.bulkS_append (a b : List LogState) : LogState.bulkS (a ++ b) = LogState.bulkS a + LogState.bulkS b := by
  induction a with
  | nil => simp [LogState.bulkS]
  | cons x a ih => simp [LogState.bulkS, ih]; omega
theorem LogState.bulkS_snoc (l : List LogState) (k : Nat) (h : k < l.length) : LogState.bulkS (l.take (k + 1)) = LogState.bulkS (l.take k) + l[k].bulk := by
  rw [List.take_succ_eq_append_getElem h, LogState.bulkS_append]
  simp [LogState.bulkS]
theorem LogState.bulkS_le (l : List LogState) (k : Nat) : LogState.bulkS (l.take k) ≤ LogState.bulkS l := by
  conv => rhs; rw [← List.take_append_drop k l, LogState.bulkS_append]
  omega
theorem LogState.bulk_at (l : List LogState) (k : Nat) (h : k < l.length) : l[k].bulk ≤ LogState.bulkS l := by
  have h1 := LogState.bulkS_snoc l k h
  have h2 := LogState.bulkS_le l (k + 1)
  omega
theorem LogState.cells_snoc (l : List LogState) (k : Nat) (h : k < l.length) : (l.take (k + 1)).flatMap LogState.cells = (l.take k).flatMap LogState.cells ++ l[k].cells := by
  rw [List.take_succ_eq_append_getElem h, List.flatMap_append]
  simp
theorem OwC.oLogState {w : World} {x : LogState} {us : List Value} {fp : List Nat} (h : OwC w x.cells us fp) :
    ∃ A1 c1 A2 c2 f1 f2, us = [.int .i64 x.code, .int .i64 x.num, .slice A1 x.plan.parts.length c1, .int .i64 x.plan.open_, .int .i64 x.plan.first, .int .i64 x.size, .bool x.torn, .int .i64 x.next, .slice A2 x.records.length c2] ∧ (Lit.int .i64 x.code).wf = true ∧ (Lit.int .i64 x.num).wf = true ∧ Ow w (.s 4 x.plan.parts.length (x.plan.parts.flatMap LogPart.cells)) (.slice A1 x.plan.parts.length c1) f1 ∧ (Lit.int .i64 x.plan.open_).wf = true ∧ (Lit.int .i64 x.plan.first).wf = true ∧ (Lit.int .i64 x.size).wf = true ∧ (Lit.int .i64 x.next).wf = true ∧ Ow w (.s 2 x.records.length (x.records.flatMap LogRecord.cells)) (.slice A2 x.records.length c2) f2 ∧ fp = f1 ++ (f2) := by
  rw [LogState.cells_eq] at h
  match us, OwC.length _ h with
  | [u0, u1, u2, u3, u4, u5, u6, u7, u8], _ =>
    simp only [OwC] at h
    obtain ⟨g0, _, h0, ⟨g1, _, h1, ⟨g2, _, h2, ⟨g3, _, h3, ⟨g4, _, h4, ⟨g5, _, h5, ⟨g6, _, h6, ⟨g7, _, h7, ⟨g8, _, h8, rfl, rfl⟩, rfl⟩, rfl⟩, rfl⟩, rfl⟩, rfl⟩, rfl⟩, rfl⟩, rfl⟩ := h
    simp only [Ow, okAtom] at h0
    obtain ⟨rfl, w0, rfl⟩ := h0
    simp only [Ow, okAtom] at h1
    obtain ⟨rfl, w1, rfl⟩ := h1
    obtain ⟨A1, c1, rfl, _⟩ := h2.slice
    simp only [Ow, okAtom] at h3
    obtain ⟨rfl, w3, rfl⟩ := h3
    simp only [Ow, okAtom] at h4
    obtain ⟨rfl, w4, rfl⟩ := h4
    simp only [Ow, okAtom] at h5
    obtain ⟨rfl, w5, rfl⟩ := h5
    simp only [Ow, okAtom] at h6
    obtain ⟨rfl, _, rfl⟩ := h6
    simp only [Ow, okAtom] at h7
    obtain ⟨rfl, w7, rfl⟩ := h7
    obtain ⟨A2, c2, rfl, _⟩ := h8.slice
    exact ⟨A1, c1, A2, c2, g2, g8, rfl, w0, w1, h2, w3, w4, w5, w7, h8, by simp⟩
theorem OwC.mLogState {w : World} {x : LogState} {v1 v2 : Value} {f1 f2 : List Nat} (w0 : (Lit.int .i64 x.code).wf = true) (w1 : (Lit.int .i64 x.num).wf = true) (h2 : Ow w (.s 4 x.plan.parts.length (x.plan.parts.flatMap LogPart.cells)) v1 f1) (w3 : (Lit.int .i64 x.plan.open_).wf = true) (w4 : (Lit.int .i64 x.plan.first).wf = true) (w5 : (Lit.int .i64 x.size).wf = true) (w7 : (Lit.int .i64 x.next).wf = true) (h8 : Ow w (.s 2 x.records.length (x.records.flatMap LogRecord.cells)) v2 f2) :
    OwC w x.cells [.int .i64 x.code, .int .i64 x.num, v1, .int .i64 x.plan.open_, .int .i64 x.plan.first, .int .i64 x.size, .bool x.torn, .int .i64 x.next, v2] (f1 ++ (f2)) := by
  have h : OwC w x.cells [.int .i64 x.code, .int .i64 x.num, v1, .int .i64 x.plan.open_, .int .i64 x.plan.first, .int .i64 x.size, .bool x.torn, .int .i64 x.next, v2] ([] ++ ([] ++ (f1 ++ ([] ++ ([] ++ ([] ++ ([] ++ ([] ++ (f2 ++ ([])))))))))) := by
    rw [LogState.cells_eq]
    exact ⟨_, _, ⟨rfl, w0, rfl⟩, ⟨_, _, ⟨rfl, w1, rfl⟩, ⟨_, _, h2, ⟨_, _, ⟨rfl, w3, rfl⟩, ⟨_, _, ⟨rfl, w4, rfl⟩, ⟨_, _, ⟨rfl, w5, rfl⟩, ⟨_, _, ⟨rfl, trivial, rfl⟩, ⟨_, _, ⟨rfl, w7, rfl⟩, ⟨_, _, h8, rfl, rfl⟩, rfl⟩, rfl⟩, rfl⟩, rfl⟩, rfl⟩, rfl⟩, rfl⟩, rfl⟩
  simpa using h
end Go.Proofs.YtddjgbhkfdpffaaGreatDoor
set_option linter.unusedVariables false
set_option linter.unusedSimpArgs false
namespace Go.Proofs.YtddjgbhkfdpffaaGreatDoor
open Go.ChangeShapes Go.WideShapes Go.ChangeAt Go.RowKit Go.Deep

theorem cellsOf_L_DiskFile : Tryz.prog.cellsOf 111 = 3 := by kernel_rfl
theorem cellsOf_LS_DiskFile : Tryz.prog.cellsOf 22 = 1 := by kernel_rfl
instance : Inhabited DiskFile := ⟨.mk .empty .empty 0⟩
section
variable {H : Type} {enc : TypeId × Value → H} {w : World} {base : Nat} {spare : Nat → Bool} {held : Bool}
set_option maxRecDepth 100000 in
theorem DiskFile_read : ∀ (fuel : Nat) {cs : List Value} {x : DataW H × List MemPlace}, DataW.trod enc Tryz.prog w base spare held fuel 111 cs = some x → ∃ (x : DiskFile) (fp : List Nat), OwC w x.cells cs fp ∧ Lt fp w.heap.size := by
  intro fuel
  induction fuel using Nat.strongRecOn with
  | _ fuel ih =>
    intro cs x h
    obtain ⟨hl, n, hn, hf⟩ := field_read Tryz.underlying111 h
    rw [cellsOf_L_DiskFile] at hl
    match cs, hl with
    | [c0, c1, c2], _ =>
      obtain ⟨y0, h0⟩ := hf 0 9 0 rfl
      rw [cellsOf_string] at h0
      obtain ⟨x0, e0, _, w0⟩ := DataW.trod_string Tryz.underlying9 h0
      obtain ⟨y1, h1⟩ := hf 1 9 1 rfl
      rw [cellsOf_string] at h1
      obtain ⟨x1, e1, _, w1⟩ := DataW.trod_string Tryz.underlying9 h1
      obtain ⟨y2, h2⟩ := hf 2 3 2 rfl
      rw [cellsOf_int] at h2
      obtain ⟨x2, e2, _, w2⟩ := DataW.trod_int Tryz.underlying3 h2
      simp only [List.drop_zero, List.drop_succ_cons, List.take_succ_cons, List.take_zero, List.cons.injEq, and_true] at e0 e1 e2
      subst e0
      subst e1
      subst e2
      refine ⟨.mk x0 x1 x2, [], ?_, Lt.nil _⟩
      have hm := OwC.mDiskFile (w := w) (x := .mk x0 x1 x2) w0 w1 w2
      first | exact hm | simpa using hm | simpa [List.append_assoc] using hm
end
end Go.Proofs.YtddjgbhkfdpffaaGreatDoor
set_option linter.unusedVariables false
set_option linter.unusedSimpArgs false
namespace Go.Proofs.YtddjgbhkfdpffaaGreatDoor
open Go.ChangeShapes Go.WideShapes Go.ChangeAt Go.RowKit Go.Deep

theorem cellsOf_L_DiskMove : Tryz.prog.cellsOf 114 = 2 := by kernel_rfl
theorem cellsOf_LS_DiskMove : Tryz.prog.cellsOf 24 = 1 := by kernel_rfl
instance : Inhabited DiskMove := ⟨.mk false .empty⟩
section
variable {H : Type} {enc : TypeId × Value → H} {w : World} {base : Nat} {spare : Nat → Bool} {held : Bool}
set_option maxRecDepth 100000 in
theorem DiskMove_read : ∀ (fuel : Nat) {cs : List Value} {x : DataW H × List MemPlace}, DataW.trod enc Tryz.prog w base spare held fuel 114 cs = some x → ∃ (x : DiskMove) (fp : List Nat), OwC w x.cells cs fp ∧ Lt fp w.heap.size := by
  intro fuel
  induction fuel using Nat.strongRecOn with
  | _ fuel ih =>
    intro cs x h
    obtain ⟨hl, n, hn, hf⟩ := field_read Tryz.underlying114 h
    rw [cellsOf_L_DiskMove] at hl
    match cs, hl with
    | [c0, c1], _ =>
      obtain ⟨y0, h0⟩ := hf 0 4 0 rfl
      rw [cellsOf_bool] at h0
      obtain ⟨x0, e0, _⟩ := DataW.trod_bool Tryz.underlying4 h0
      obtain ⟨y1, h1⟩ := hf 1 9 1 rfl
      rw [cellsOf_string] at h1
      obtain ⟨x1, e1, _, w1⟩ := DataW.trod_string Tryz.underlying9 h1
      simp only [List.drop_zero, List.drop_succ_cons, List.take_succ_cons, List.take_zero, List.cons.injEq, and_true] at e0 e1
      subst e0
      subst e1
      refine ⟨.mk x0 x1, [], ?_, Lt.nil _⟩
      have hm := OwC.mDiskMove (w := w) (x := .mk x0 x1) w1
      first | exact hm | simpa using hm | simpa [List.append_assoc] using hm
end
end Go.Proofs.YtddjgbhkfdpffaaGreatDoor
set_option linter.unusedVariables false
set_option linter.unusedSimpArgs false
namespace Go.Proofs.YtddjgbhkfdpffaaGreatDoor
open Go.ChangeShapes Go.WideShapes Go.ChangeAt Go.RowKit Go.Deep

theorem cellsOf_L_Disk : Tryz.prog.cellsOf 26 = 3 := by kernel_rfl
instance : Inhabited Disk := ⟨.mk [] [] []⟩
section
variable {H : Type} {enc : TypeId × Value → H} {w : World} {base : Nat} {spare : Nat → Bool} {held : Bool}
set_option maxRecDepth 100000 in
theorem Disk_read : ∀ (fuel : Nat) {cs : List Value} {x : DataW H × List MemPlace}, DataW.trod enc Tryz.prog w base spare held fuel 26 cs = some x → ∃ (x : Disk) (fp : List Nat), OwC w x.cells cs fp ∧ Lt fp w.heap.size := by
  intro fuel
  induction fuel using Nat.strongRecOn with
  | _ fuel ih =>
    intro cs x h
    obtain ⟨hl, n, hn, hf⟩ := field_read Tryz.underlying26 h
    rw [cellsOf_L_Disk] at hl
    match cs, hl with
    | [c0, c1, c2], _ =>
      obtain ⟨y0, h0⟩ := hf 0 22 0 rfl
      rw [cellsOf_LS_DiskFile] at h0
      obtain ⟨x0, v0, f0, e0, o0, l0⟩ := slice_read DiskFile.cells 3 DiskFile.cells_len (by omega) Tryz.underlying22 cellsOf_L_DiskFile (fun m hm cs x hx => DiskFile_read m hx) h0
      obtain ⟨y1, h1⟩ := hf 1 23 1 rfl
      rw [cellsOf_strings] at h1
      obtain ⟨x1, v1, f1, e1, o1, l1⟩ := strs_read h1
      obtain ⟨y2, h2⟩ := hf 2 24 2 rfl
      rw [cellsOf_LS_DiskMove] at h2
      obtain ⟨x2, v2, f2, e2, o2, l2⟩ := slice_read DiskMove.cells 2 DiskMove.cells_len (by omega) Tryz.underlying24 cellsOf_L_DiskMove (fun m hm cs x hx => DiskMove_read m hx) h2
      simp only [List.drop_zero, List.drop_succ_cons, List.take_succ_cons, List.take_zero, List.cons.injEq, and_true] at e0 e1 e2
      subst e0
      subst e1
      subst e2
      refine ⟨.mk x0 x1 x2, f0 ++ (f1 ++ (f2)), ?_, (l0).app ((l1).app (l2))⟩
      have hm := OwC.mDisk (w := w) (x := .mk x0 x1 x2) o0 o1 o2
      first | exact hm | simpa using hm | simpa [List.append_assoc] using hm
end
end Go.Proofs.YtddjgbhkfdpffaaGreatDoor
