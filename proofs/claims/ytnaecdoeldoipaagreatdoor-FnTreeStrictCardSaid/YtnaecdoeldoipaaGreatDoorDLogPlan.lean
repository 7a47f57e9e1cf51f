/-
  LogPlan as data: its cells, its size.
-/
import Derived.Test.YtnaecdoeldoipaaGreatDoorStr
import Derived.Test.YtnaecdoeldoipaaGreatDoorDLogPart
set_option linter.unusedVariables false
set_option linter.unusedSimpArgs false
namespace Go.Proofs.YtnaecdoeldoipaaGreatDoor
open Go.ChangeShapes Go.WideShapes Go.ChangeAt Go.RowKit

structure LogPlan where
  parts : List LogPart
  open_ : Int
  first : Int
def LogPlan.cells (x : LogPlan) : List D := [.s 4 x.parts.length (x.parts.flatMap LogPart.cells), .v (.int .i64 x.open_), .v (.int .i64 x.first)]
theorem LogPlan.cells_eq (x : LogPlan) : x.cells = [.s 4 x.parts.length (x.parts.flatMap LogPart.cells), .v (.int .i64 x.open_), .v (.int .i64 x.first)] := rfl
def LogPlan.bulk (x : LogPlan) : Nat := LogPart.bulkL x.parts
theorem LogPlan.bulk_eq (x : LogPlan) : x.bulk = LogPart.bulkL x.parts := rfl
def LogPlan.bulkS : List LogPlan → Nat
  | [] => 0
  | x :: r => x.bulk + LogPlan.bulkS r
theorem LogPlan.cells_len (x : LogPlan) : x.cells.length = 3 := by rw [LogPlan.cells_eq]; rfl
def LogPlan.bulkL (l : List LogPlan) : Nat := l.length + LogPlan.bulkS l
theorem LogPlan.bulkS_append (a b : List LogPlan) : LogPlan.bulkS (a ++ b) = LogPlan.bulkS a + LogPlan.bulkS b := by
  induction a with
  | nil => simp [LogPlan.bulkS]
  | cons x a ih => simp [LogPlan.bulkS, ih]; omega
theorem LogPlan.bulkS_snoc (l : List LogPlan) (k : Nat) (h : k < l.length) : LogPlan.bulkS (l.take (k + 1)) = LogPlan.bulkS (l.take k) + l[k].bulk := by
  rw [List.take_succ_eq_append_getElem h, LogPlan.bulkS_append]
  simp [LogPlan.bulkS]
theorem LogPlan.bulkS_le (l : List LogPlan) (k : Nat) : LogPlan.bulkS (l.take k) ≤ LogPlan.bulkS l := by
  conv => rhs; rw [← List.take_append_drop k l, LogPlan.bulkS_append]
  omega
theorem LogPlan.bulk_at (l : List LogPlan) (k : Nat) (h : k < l.length) : l[k].bulk ≤ LogPlan.bulkS l := by
  have h1 := LogPlan.bulkS_snoc l k h
  have h2 := LogPlan.bulkS_le l (k + 1)
  omega
theorem LogPlan.cells_snoc (l : List LogPlan) (k : Nat) (h : k < l.length) : (l.take (k + 1)).flatMap LogPlan.cells = (l.take k).flatMap LogPlan.cells ++ l[k].cells := by
  rw [List.take_succ_eq_append_getElem h, List.flatMap_append]
  simp
theorem OwC.oLogPlan {w : World} {x : LogPlan} {us : List Value} {fp : List Nat} (h : OwC w x.cells us fp) :
    ∃ A1 c1 f1, us = [.slice A1 x.parts.length c1, .int .i64 x.open_, .int .i64 x.first] ∧ Ow w (.s 4 x.parts.length (x.parts.flatMap LogPart.cells)) (.slice A1 x.parts.length c1) f1 ∧ (Lit.int .i64 x.open_).wf = true ∧ (Lit.int .i64 x.first).wf = true ∧ fp = f1 := by
  rw [LogPlan.cells_eq] at h
  match us, OwC.length _ h with
  | [u0, u1, u2], _ =>
    simp only [OwC] at h
    obtain ⟨g0, _, h0, ⟨g1, _, h1, ⟨g2, _, h2, rfl, rfl⟩, rfl⟩, rfl⟩ := h
    obtain ⟨A1, c1, rfl, _⟩ := h0.slice
    simp only [Ow, okAtom] at h1
    obtain ⟨rfl, w1, rfl⟩ := h1
    simp only [Ow, okAtom] at h2
    obtain ⟨rfl, w2, rfl⟩ := h2
    exact ⟨A1, c1, g0, rfl, h0, w1, w2, by simp⟩
theorem OwC.mLogPlan {w : World} {x : LogPlan} {v1 : Value} {f1 : List Nat} (h0 : Ow w (.s 4 x.parts.length (x.parts.flatMap LogPart.cells)) v1 f1) (w1 : (Lit.int .i64 x.open_).wf = true) (w2 : (Lit.int .i64 x.first).wf = true) :
    OwC w x.cells [v1, .int .i64 x.open_, .int .i64 x.first] (f1) := by
  have h : OwC w x.cells [v1, .int .i64 x.open_, .int .i64 x.first] (f1 ++ ([] ++ ([] ++ ([])))) := by
    rw [LogPlan.cells_eq]
    exact ⟨_, _, h0, ⟨_, _, ⟨rfl, w1, rfl⟩, ⟨_, _, ⟨rfl, w2, rfl⟩, rfl, rfl⟩, rfl⟩, rfl⟩
  simpa using h
end Go.Proofs.YtnaecdoeldoipaaGreatDoor
