/-
  DeadDone as data: its cells, its size.
-/
import Derived.Test.YtkfiebeedbjicaaGreatDoorStr
import Derived.Test.YtkfiebeedbjicaaGreatDoorDDeadHold
import Derived.Test.YtkfiebeedbjicaaGreatDoorDDeadLetter
import Derived.Test.YtkfiebeedbjicaaGreatDoorDRecord
set_option linter.unusedVariables false
set_option linter.unusedSimpArgs false
namespace Go.Proofs.YtkfiebeedbjicaaGreatDoor
open Go.ChangeShapes Go.WideShapes Go.ChangeAt Go.RowKit

structure DeadDone where
  ok : Bool
  given : List Record
  dead : List DeadLetter
  held : List DeadHold
def DeadDone.cells (x : DeadDone) : List D := [.v (.bool x.ok), .s 3 x.given.length (x.given.flatMap Record.cells), .s 7 x.dead.length (x.dead.flatMap DeadLetter.cells), .s 2 x.held.length (x.held.flatMap DeadHold.cells)]
theorem DeadDone.cells_eq (x : DeadDone) : x.cells = [.v (.bool x.ok), .s 3 x.given.length (x.given.flatMap Record.cells), .s 7 x.dead.length (x.dead.flatMap DeadLetter.cells), .s 2 x.held.length (x.held.flatMap DeadHold.cells)] := rfl
def DeadDone.bulk (x : DeadDone) : Nat := Record.bulkL x.given + DeadLetter.bulkL x.dead + DeadHold.bulkL x.held
theorem DeadDone.bulk_eq (x : DeadDone) : x.bulk = Record.bulkL x.given + DeadLetter.bulkL x.dead + DeadHold.bulkL x.held := rfl
def DeadDone.bulkS : List DeadDone → Nat
  | [] => 0
  | x :: r => x.bulk + DeadDone.bulkS r
theorem DeadDone.cells_len (x : DeadDone) : x.cells.length = 4 := by rw [DeadDone.cells_eq]; rfl
def DeadDone.bulkL (l : List DeadDone) : Nat := l.length + DeadDone.bulkS l
theorem DeadDone.bulkS_append (a b : List DeadDone) : DeadDone.bulkS (a ++ b) = DeadDone.bulkS a + DeadDone.bulkS b := by
  induction a with
  | nil => simp [DeadDone.bulkS]
  | cons x a ih => simp [DeadDone.bulkS, ih]; omega
theorem DeadDone.bulkS_snoc (l : List DeadDone) (k : Nat) (h : k < l.length) : DeadDone.bulkS (l.take (k + 1)) = DeadDone.bulkS (l.take k) + l[k].bulk := by
  rw [List.take_succ_eq_append_getElem h, DeadDone.bulkS_append]
  simp [DeadDone.bulkS]
theorem DeadDone.bulkS_le (l : List DeadDone) (k : Nat) : DeadDone.bulkS (l.take k) ≤ DeadDone.bulkS l := by
  conv => rhs; rw [← List.take_append_drop k l, DeadDone.bulkS_append]
  omega
theorem DeadDone.bulk_at (l : List DeadDone) (k : Nat) (h : k < l.length) : l[k].bulk ≤ DeadDone.bulkS l := by
  have h1 := DeadDone.bulkS_snoc l k h
  have h2 := DeadDone.bulkS_le l (k + 1)
  omega
theorem DeadDone.cells_snoc (l : List DeadDone) (k : Nat) (h : k < l.length) : (l.take (k + 1)).flatMap DeadDone.cells = (l.take k).flatMap DeadDone.cells ++ l[k].cells := by
  rw [List.take_succ_eq_append_getElem h, List.flatMap_append]
  simp
theorem OwC.oDeadDone {w : World} {x : DeadDone} {us : List Value} {fp : List Nat} (h : OwC w x.cells us fp) :
    ∃ A1 c1 A2 c2 A3 c3 f1 f2 f3, us = [.bool x.ok, .slice A1 x.given.length c1, .slice A2 x.dead.length c2, .slice A3 x.held.length c3] ∧ Ow w (.s 3 x.given.length (x.given.flatMap Record.cells)) (.slice A1 x.given.length c1) f1 ∧ Ow w (.s 7 x.dead.length (x.dead.flatMap DeadLetter.cells)) (.slice A2 x.dead.length c2) f2 ∧ Ow w (.s 2 x.held.length (x.held.flatMap DeadHold.cells)) (.slice A3 x.held.length c3) f3 ∧ fp = f1 ++ (f2 ++ (f3)) := by
  rw [DeadDone.cells_eq] at h
  match us, OwC.length _ h with
  | [u0, u1, u2, u3], _ =>
    simp only [OwC] at h
    obtain ⟨g0, _, h0, ⟨g1, _, h1, ⟨g2, _, h2, ⟨g3, _, h3, rfl, rfl⟩, rfl⟩, rfl⟩, rfl⟩ := h
    simp only [Ow, okAtom] at h0
    obtain ⟨rfl, _, rfl⟩ := h0
    obtain ⟨A1, c1, rfl, _⟩ := h1.slice
    obtain ⟨A2, c2, rfl, _⟩ := h2.slice
    obtain ⟨A3, c3, rfl, _⟩ := h3.slice
    exact ⟨A1, c1, A2, c2, A3, c3, g1, g2, g3, rfl, h1, h2, h3, by simp⟩
theorem OwC.mDeadDone {w : World} {x : DeadDone} {v1 v2 v3 : Value} {f1 f2 f3 : List Nat} (h1 : Ow w (.s 3 x.given.length (x.given.flatMap Record.cells)) v1 f1) (h2 : Ow w (.s 7 x.dead.length (x.dead.flatMap DeadLetter.cells)) v2 f2) (h3 : Ow w (.s 2 x.held.length (x.held.flatMap DeadHold.cells)) v3 f3) :
    OwC w x.cells [.bool x.ok, v1, v2, v3] (f1 ++ (f2 ++ (f3))) := by
  have h : OwC w x.cells [.bool x.ok, v1, v2, v3] ([] ++ (f1 ++ (f2 ++ (f3 ++ ([]))))) := by
    rw [DeadDone.cells_eq]
    exact ⟨_, _, ⟨rfl, trivial, rfl⟩, ⟨_, _, h1, ⟨_, _, h2, ⟨_, _, h3, rfl, rfl⟩, rfl⟩, rfl⟩, rfl⟩
  simpa using h
end Go.Proofs.YtkfiebeedbjicaaGreatDoor
