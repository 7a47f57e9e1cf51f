/-
  DeadHold as data: its cells, its size.
-/
import Derived.Test.YtkfiebeedbjicaaGreatDoorStr
set_option linter.unusedVariables false
set_option linter.unusedSimpArgs false
namespace Go.Proofs.YtkfiebeedbjicaaGreatDoor
open Go.ChangeShapes Go.WideShapes Go.ChangeAt Go.RowKit

structure DeadHold where
  key : ByteArray
  behind : Int
def DeadHold.cells (x : DeadHold) : List D := [.v (.string x.key), .v (.int .i64 x.behind)]
theorem DeadHold.cells_eq (x : DeadHold) : x.cells = [.v (.string x.key), .v (.int .i64 x.behind)] := rfl
def DeadHold.bulk (x : DeadHold) : Nat := x.key.size
theorem DeadHold.bulk_eq (x : DeadHold) : x.bulk = x.key.size := rfl
def DeadHold.bulkS : List DeadHold → Nat
  | [] => 0
  | x :: r => x.bulk + DeadHold.bulkS r
theorem DeadHold.cells_len (x : DeadHold) : x.cells.length = 2 := by rw [DeadHold.cells_eq]; rfl
def DeadHold.bulkL (l : List DeadHold) : Nat := l.length + DeadHold.bulkS l
theorem DeadHold.bulkS_append (a b : List DeadHold) : DeadHold.bulkS (a ++ b) = DeadHold.bulkS a + DeadHold.bulkS b := by
  induction a with
  | nil => simp [DeadHold.bulkS]
  | cons x a ih => simp [DeadHold.bulkS, ih]; omega
theorem DeadHold.bulkS_snoc (l : List DeadHold) (k : Nat) (h : k < l.length) : DeadHold.bulkS (l.take (k + 1)) = DeadHold.bulkS (l.take k) + l[k].bulk := by
  rw [List.take_succ_eq_append_getElem h, DeadHold.bulkS_append]
  simp [DeadHold.bulkS]
theorem DeadHold.bulkS_le (l : List DeadHold) (k : Nat) : DeadHold.bulkS (l.take k) ≤ DeadHold.bulkS l := by
  conv => rhs; rw [← List.take_append_drop k l, DeadHold.bulkS_append]
  omega
theorem DeadHold.bulk_at (l : List DeadHold) (k : Nat) (h : k < l.length) : l[k].bulk ≤ DeadHold.bulkS l := by
  have h1 := DeadHold.bulkS_snoc l k h
  have h2 := DeadHold.bulkS_le l (k + 1)
  omega
theorem DeadHold.cells_snoc (l : List DeadHold) (k : Nat) (h : k < l.length) : (l.take (k + 1)).flatMap DeadHold.cells = (l.take k).flatMap DeadHold.cells ++ l[k].cells := by
  rw [List.take_succ_eq_append_getElem h, List.flatMap_append]
  simp
theorem OwC.oDeadHold {w : World} {x : DeadHold} {us : List Value} {fp : List Nat} (h : OwC w x.cells us fp) :
    us = [.string x.key, .int .i64 x.behind] ∧ x.key.size ≤ maxLen ∧ (Lit.int .i64 x.behind).wf = true ∧ fp = [] := by
  rw [DeadHold.cells_eq] at h
  match us, OwC.length _ h with
  | [u0, u1], _ =>
    simp only [OwC] at h
    obtain ⟨g0, _, h0, ⟨g1, _, h1, rfl, rfl⟩, rfl⟩ := h
    simp only [Ow, okAtom] at h0
    obtain ⟨rfl, w0, rfl⟩ := h0
    simp only [Ow, okAtom] at h1
    obtain ⟨rfl, w1, rfl⟩ := h1
    exact ⟨rfl, w0, w1, by simp⟩
theorem OwC.mDeadHold {w : World} {x : DeadHold} (w0 : x.key.size ≤ maxLen) (w1 : (Lit.int .i64 x.behind).wf = true) :
    OwC w x.cells [.string x.key, .int .i64 x.behind] ([]) := by
  have h : OwC w x.cells [.string x.key, .int .i64 x.behind] ([] ++ ([] ++ ([]))) := by
    rw [DeadHold.cells_eq]
    exact ⟨_, _, ⟨rfl, w0, rfl⟩, ⟨_, _, ⟨rfl, w1, rfl⟩, rfl, rfl⟩, rfl⟩
  simpa using h
end Go.Proofs.YtkfiebeedbjicaaGreatDoor
