/-
  Record as data: its cells, its size.
-/
import Derived.Test.YtkfiebeedbjicaaGreatDoorStr
import Derived.Test.YtkfiebeedbjicaaGreatDoorDEvent
set_option linter.unusedVariables false
set_option linter.unusedSimpArgs false
namespace Go.Proofs.YtkfiebeedbjicaaGreatDoor
open Go.ChangeShapes Go.WideShapes Go.ChangeAt Go.RowKit

structure Record where
  pos : Int
  key : ByteArray
  events : List Event
def Record.cells (x : Record) : List D := [.v (.int .i64 x.pos), .v (.string x.key), .s 7 x.events.length (x.events.flatMap Event.cells)]
theorem Record.cells_eq (x : Record) : x.cells = [.v (.int .i64 x.pos), .v (.string x.key), .s 7 x.events.length (x.events.flatMap Event.cells)] := rfl
def Record.bulk (x : Record) : Nat := x.key.size + Event.bulkL x.events
theorem Record.bulk_eq (x : Record) : x.bulk = x.key.size + Event.bulkL x.events := rfl
def Record.bulkS : List Record → Nat
  | [] => 0
  | x :: r => x.bulk + Record.bulkS r
theorem Record.cells_len (x : Record) : x.cells.length = 3 := by rw [Record.cells_eq]; rfl
def Record.bulkL (l : List Record) : Nat := l.length + Record.bulkS l
theorem Record.bulkS_append (a b : List Record) : Record.bulkS (a ++ b) = Record.bulkS a + Record.bulkS b := by
  induction a with
  | nil => simp [Record.bulkS]
  | cons x a ih => simp [Record.bulkS, ih]; omega
theorem Record.bulkS_snoc (l : List Record) (k : Nat) (h : k < l.length) : Record.bulkS (l.take (k + 1)) = Record.bulkS (l.take k) + l[k].bulk := by
  rw [List.take_succ_eq_append_getElem h, Record.bulkS_append]
  simp [Record.bulkS]
theorem Record.bulkS_le (l : List Record) (k : Nat) : Record.bulkS (l.take k) ≤ Record.bulkS l := by
  conv => rhs; rw [← List.take_append_drop k l, Record.bulkS_append]
  omega
theorem Record.bulk_at (l : List Record) (k : Nat) (h : k < l.length) : l[k].bulk ≤ Record.bulkS l := by
  have h1 := Record.bulkS_snoc l k h
  have h2 := Record.bulkS_le l (k + 1)
  omega
theorem Record.cells_snoc (l : List Record) (k : Nat) (h : k < l.length) : (l.take (k + 1)).flatMap Record.cells = (l.take k).flatMap Record.cells ++ l[k].cells := by
  rw [List.take_succ_eq_append_getElem h, List.flatMap_append]
  simp
theorem OwC.oRecord {w : World} {x : Record} {us : List Value} {fp : List Nat} (h : OwC w x.cells us fp) :
    ∃ A1 c1 f1, us = [.int .i64 x.pos, .string x.key, .slice A1 x.events.length c1] ∧ (Lit.int .i64 x.pos).wf = true ∧ x.key.size ≤ maxLen ∧ Ow w (.s 7 x.events.length (x.events.flatMap Event.cells)) (.slice A1 x.events.length c1) f1 ∧ fp = f1 := by
  rw [Record.cells_eq] at h
  match us, OwC.length _ h with
  | [u0, u1, u2], _ =>
    simp only [OwC] at h
    obtain ⟨g0, _, h0, ⟨g1, _, h1, ⟨g2, _, h2, rfl, rfl⟩, rfl⟩, rfl⟩ := h
    simp only [Ow, okAtom] at h0
    obtain ⟨rfl, w0, rfl⟩ := h0
    simp only [Ow, okAtom] at h1
    obtain ⟨rfl, w1, rfl⟩ := h1
    obtain ⟨A1, c1, rfl, _⟩ := h2.slice
    exact ⟨A1, c1, g2, rfl, w0, w1, h2, by simp⟩
theorem OwC.mRecord {w : World} {x : Record} {v1 : Value} {f1 : List Nat} (w0 : (Lit.int .i64 x.pos).wf = true) (w1 : x.key.size ≤ maxLen) (h2 : Ow w (.s 7 x.events.length (x.events.flatMap Event.cells)) v1 f1) :
    OwC w x.cells [.int .i64 x.pos, .string x.key, v1] (f1) := by
  have h : OwC w x.cells [.int .i64 x.pos, .string x.key, v1] ([] ++ ([] ++ (f1 ++ ([])))) := by
    rw [Record.cells_eq]
    exact ⟨_, _, ⟨rfl, w0, rfl⟩, ⟨_, _, ⟨rfl, w1, rfl⟩, ⟨_, _, h2, rfl, rfl⟩, rfl⟩, rfl⟩
  simpa using h
end Go.Proofs.YtkfiebeedbjicaaGreatDoor
