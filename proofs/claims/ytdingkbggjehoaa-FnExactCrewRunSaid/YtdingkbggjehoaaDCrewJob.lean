/-
  CrewJob as data: its cells, its size.
-/
import Derived.Test.YtdingkbggjehoaaStr
set_option linter.unusedVariables false
set_option linter.unusedSimpArgs false
namespace Go.Proofs.Ytdingkbggjehoaa
open Go.ChangeShapes Go.WideShapes Go.ChangeAt Go.RowKit

structure CrewJob where
  items : List Int
  bad : Int
def CrewJob.cells (x : CrewJob) : List D := [.s 1 x.items.length (x.items.flatMap intC), .v (.int .i64 x.bad)]
theorem CrewJob.cells_eq (x : CrewJob) : x.cells = [.s 1 x.items.length (x.items.flatMap intC), .v (.int .i64 x.bad)] := rfl
def CrewJob.bulk (x : CrewJob) : Nat := x.items.length
theorem CrewJob.bulk_eq (x : CrewJob) : x.bulk = x.items.length := rfl
def CrewJob.bulkS : List CrewJob → Nat
  | [] => 0
  | x :: r => x.bulk + CrewJob.bulkS r
theorem CrewJob.cells_len (x : CrewJob) : x.cells.length = 2 := by rw [CrewJob.cells_eq]; rfl
def CrewJob.bulkL (l : List CrewJob) : Nat := l.length + CrewJob.bulkS l
theorem CrewJob.bulkS_append (a b : List CrewJob) : CrewJob.bulkS (a ++ b) = CrewJob.bulkS a + CrewJob.bulkS b := by
  induction a with
  | nil => simp [CrewJob.bulkS]
  | cons x a ih => simp [CrewJob.bulkS, ih]; omega
theorem CrewJob.bulkS_snoc (l : List CrewJob) (k : Nat) (h : k < l.length) : CrewJob.bulkS (l.take (k + 1)) = CrewJob.bulkS (l.take k) + l[k].bulk := by
  rw [List.take_succ_eq_append_getElem h, CrewJob.bulkS_append]
  simp [CrewJob.bulkS]
theorem CrewJob.bulkS_le (l : List CrewJob) (k : Nat) : CrewJob.bulkS (l.take k) ≤ CrewJob.bulkS l := by
  conv => rhs; rw [← List.take_append_drop k l, CrewJob.bulkS_append]
  omega
theorem CrewJob.bulk_at (l : List CrewJob) (k : Nat) (h : k < l.length) : l[k].bulk ≤ CrewJob.bulkS l := by
  have h1 := CrewJob.bulkS_snoc l k h
  have h2 := CrewJob.bulkS_le l (k + 1)
  omega
theorem CrewJob.cells_snoc (l : List CrewJob) (k : Nat) (h : k < l.length) : (l.take (k + 1)).flatMap CrewJob.cells = (l.take k).flatMap CrewJob.cells ++ l[k].cells := by
  rw [List.take_succ_eq_append_getElem h, List.flatMap_append]
  simp
theorem OwC.oCrewJob {w : World} {x : CrewJob} {us : List Value} {fp : List Nat} (h : OwC w x.cells us fp) :
    ∃ A1 c1 f1, us = [.slice A1 x.items.length c1, .int .i64 x.bad] ∧ Ow w (.s 1 x.items.length (x.items.flatMap intC)) (.slice A1 x.items.length c1) f1 ∧ (Lit.int .i64 x.bad).wf = true ∧ f1 = fp := by
  rw [CrewJob.cells_eq] at h
  match us, OwC.length _ h with
  | [u0, u1], _ =>
    simp only [OwC] at h
    obtain ⟨g0, _, h0, ⟨g1, _, h1, rfl, rfl⟩, rfl⟩ := h
    obtain ⟨A1, c1, rfl, _⟩ := h0.slice
    simp only [Ow, okAtom] at h1
    obtain ⟨rfl, w1, rfl⟩ := h1
    exact ⟨A1, c1, g0, rfl, h0, w1, by simp⟩
theorem OwC.mCrewJob {w : World} {x : CrewJob} {v1 : Value} {f1 : List Nat} (h0 : Ow w (.s 1 x.items.length (x.items.flatMap intC)) v1 f1) (w1 : (Lit.int .i64 x.bad).wf = true) :
    OwC w x.cells [v1, .int .i64 x.bad] (f1) := by
  have h : OwC w x.cells [v1, .int .i64 x.bad] (f1 ++ ([] ++ ([]))) := by
    rw [CrewJob.cells_eq]
    exact ⟨_, _, h0, ⟨_, _, ⟨rfl, w1, rfl⟩, rfl, rfl⟩, rfl⟩
  simpa using h
end Go.Proofs.Ytdingkbggjehoaa
