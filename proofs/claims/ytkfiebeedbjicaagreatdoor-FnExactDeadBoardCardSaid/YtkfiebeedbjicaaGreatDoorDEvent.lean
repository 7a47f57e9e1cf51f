/-
  Event as data: its cells, its size.
-/
import Derived.Test.YtkfiebeedbjicaaGreatDoorStr
import Derived.Test.YtkfiebeedbjicaaGreatDoorDTree
set_option linter.unusedVariables false
set_option linter.unusedSimpArgs false
namespace Go.Proofs.YtkfiebeedbjicaaGreatDoor
open Go.ChangeShapes Go.WideShapes Go.ChangeAt Go.RowKit

structure Event where
  type_ : ByteArray
  version : Int
  body : Tree
def Event.cells (x : Event) : List D := [.v (.string x.type_), .v (.int .i64 x.version), .v (.int .i64 x.body.sort), .v (.int .i64 x.body.num), .v (.string x.body.text), .s 1 x.body.names.length (x.body.names.flatMap strC), .s 5 x.body.kids.length (x.body.kids.flatMap Tree.cells)]
theorem Event.cells_eq (x : Event) : x.cells = [.v (.string x.type_), .v (.int .i64 x.version), .v (.int .i64 x.body.sort), .v (.int .i64 x.body.num), .v (.string x.body.text), .s 1 x.body.names.length (x.body.names.flatMap strC), .s 5 x.body.kids.length (x.body.kids.flatMap Tree.cells)] := rfl
def Event.bulk (x : Event) : Nat := x.type_.size + x.body.bulk
theorem Event.bulk_eq (x : Event) : x.bulk = x.type_.size + x.body.bulk := rfl
def Event.bulkS : List Event → Nat
  | [] => 0
  | x :: r => x.bulk + Event.bulkS r
theorem Event.cells_len (x : Event) : x.cells.length = 7 := by rw [Event.cells_eq]; rfl
def Event.bulkL (l : List Event) : Nat := l.length + Event.bulkS l
theorem Event.bulkS_append (a b : List Event) : Event.bulkS (a ++ b) = Event.bulkS a + Event.bulkS b := by
  induction a with
  | nil => simp [Event.bulkS]
  | cons x a ih => simp [Event.bulkS, ih]; omega
theorem Event.bulkS_snoc (l : List Event) (k : Nat) (h : k < l.length) : Event.bulkS (l.take (k + 1)) = Event.bulkS (l.take k) + l[k].bulk := by
  rw [List.take_succ_eq_append_getElem h, Event.bulkS_append]
  simp [Event.bulkS]
theorem Event.bulkS_le (l : List Event) (k : Nat) : Event.bulkS (l.take k) ≤ Event.bulkS l := by
  conv => rhs; rw [← List.take_append_drop k l, Event.bulkS_append]
  omega
theorem Event.bulk_at (l : List Event) (k : Nat) (h : k < l.length) : l[k].bulk ≤ Event.bulkS l := by
  have h1 := Event.bulkS_snoc l k h
  have h2 := Event.bulkS_le l (k + 1)
  omega
theorem Event.cells_snoc (l : List Event) (k : Nat) (h : k < l.length) : (l.take (k + 1)).flatMap Event.cells = (l.take k).flatMap Event.cells ++ l[k].cells := by
  rw [List.take_succ_eq_append_getElem h, List.flatMap_append]
  simp
theorem OwC.oEvent {w : World} {x : Event} {us : List Value} {fp : List Nat} (h : OwC w x.cells us fp) :
    ∃ A1 c1 A2 c2 f1 f2, us = [.string x.type_, .int .i64 x.version, .int .i64 x.body.sort, .int .i64 x.body.num, .string x.body.text, .slice A1 x.body.names.length c1, .slice A2 x.body.kids.length c2] ∧ x.type_.size ≤ maxLen ∧ (Lit.int .i64 x.version).wf = true ∧ (Lit.int .i64 x.body.sort).wf = true ∧ (Lit.int .i64 x.body.num).wf = true ∧ x.body.text.size ≤ maxLen ∧ Ow w (.s 1 x.body.names.length (x.body.names.flatMap strC)) (.slice A1 x.body.names.length c1) f1 ∧ Ow w (.s 5 x.body.kids.length (x.body.kids.flatMap Tree.cells)) (.slice A2 x.body.kids.length c2) f2 ∧ fp = f1 ++ (f2) := by
  rw [Event.cells_eq] at h
  match us, OwC.length _ h with
  | [u0, u1, u2, u3, u4, u5, u6], _ =>
    simp only [OwC] at h
    obtain ⟨g0, _, h0, ⟨g1, _, h1, ⟨g2, _, h2, ⟨g3, _, h3, ⟨g4, _, h4, ⟨g5, _, h5, ⟨g6, _, h6, rfl, rfl⟩, rfl⟩, rfl⟩, rfl⟩, rfl⟩, rfl⟩, rfl⟩ := h
    simp only [Ow, okAtom] at h0
    obtain ⟨rfl, w0, rfl⟩ := h0
    simp only [Ow, okAtom] at h1
    obtain ⟨rfl, w1, rfl⟩ := h1
    simp only [Ow, okAtom] at h2
    obtain ⟨rfl, w2, rfl⟩ := h2
    simp only [Ow, okAtom] at h3
    obtain ⟨rfl, w3, rfl⟩ := h3
    simp only [Ow, okAtom] at h4
    obtain ⟨rfl, w4, rfl⟩ := h4
    obtain ⟨A1, c1, rfl, _⟩ := h5.slice
    obtain ⟨A2, c2, rfl, _⟩ := h6.slice
    exact ⟨A1, c1, A2, c2, g5, g6, rfl, w0, w1, w2, w3, w4, h5, h6, by simp⟩
theorem OwC.mEvent {w : World} {x : Event} {v1 v2 : Value} {f1 f2 : List Nat} (w0 : x.type_.size ≤ maxLen) (w1 : (Lit.int .i64 x.version).wf = true) (w2 : (Lit.int .i64 x.body.sort).wf = true) (w3 : (Lit.int .i64 x.body.num).wf = true) (w4 : x.body.text.size ≤ maxLen) (h5 : Ow w (.s 1 x.body.names.length (x.body.names.flatMap strC)) v1 f1) (h6 : Ow w (.s 5 x.body.kids.length (x.body.kids.flatMap Tree.cells)) v2 f2) :
    OwC w x.cells [.string x.type_, .int .i64 x.version, .int .i64 x.body.sort, .int .i64 x.body.num, .string x.body.text, v1, v2] (f1 ++ (f2)) := by
  have h : OwC w x.cells [.string x.type_, .int .i64 x.version, .int .i64 x.body.sort, .int .i64 x.body.num, .string x.body.text, v1, v2] ([] ++ ([] ++ ([] ++ ([] ++ ([] ++ (f1 ++ (f2 ++ ([])))))))) := by
    rw [Event.cells_eq]
    exact ⟨_, _, ⟨rfl, w0, rfl⟩, ⟨_, _, ⟨rfl, w1, rfl⟩, ⟨_, _, ⟨rfl, w2, rfl⟩, ⟨_, _, ⟨rfl, w3, rfl⟩, ⟨_, _, ⟨rfl, w4, rfl⟩, ⟨_, _, h5, ⟨_, _, h6, rfl, rfl⟩, rfl⟩, rfl⟩, rfl⟩, rfl⟩, rfl⟩, rfl⟩
  simpa using h
end Go.Proofs.YtkfiebeedbjicaaGreatDoor
