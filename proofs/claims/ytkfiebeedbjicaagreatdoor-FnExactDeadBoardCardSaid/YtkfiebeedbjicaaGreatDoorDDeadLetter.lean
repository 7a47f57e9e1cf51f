/-
  DeadLetter as data: its cells, its size.
-/
import Derived.Test.YtkfiebeedbjicaaGreatDoorStr
set_option linter.unusedVariables false
set_option linter.unusedSimpArgs false
namespace Go.Proofs.YtkfiebeedbjicaaGreatDoor
open Go.ChangeShapes Go.WideShapes Go.ChangeAt Go.RowKit

structure DeadLetter where
  pos : Int
  key : ByteArray
  code : Int
  why : Int
  type_ : ByteArray
  version : Int
  behind : Int
def DeadLetter.cells (x : DeadLetter) : List D := [.v (.int .i64 x.pos), .v (.string x.key), .v (.int .i64 x.code), .v (.int .i64 x.why), .v (.string x.type_), .v (.int .i64 x.version), .v (.int .i64 x.behind)]
theorem DeadLetter.cells_eq (x : DeadLetter) : x.cells = [.v (.int .i64 x.pos), .v (.string x.key), .v (.int .i64 x.code), .v (.int .i64 x.why), .v (.string x.type_), .v (.int .i64 x.version), .v (.int .i64 x.behind)] := rfl
def DeadLetter.bulk (x : DeadLetter) : Nat := x.key.size + x.type_.size
theorem DeadLetter.bulk_eq (x : DeadLetter) : x.bulk = x.key.size + x.type_.size := rfl
def DeadLetter.bulkS : List DeadLetter → Nat
  | [] => 0
  | x :: r => x.bulk + DeadLetter.bulkS r
theorem DeadLetter.cells_len (x : DeadLetter) : x.cells.length = 7 := by rw [DeadLetter.cells_eq]; rfl
def DeadLetter.bulkL (l : List DeadLetter) : Nat := l.length + DeadLetter.bulkS l
theorem DeadLetter.bulkS_append (a b : List DeadLetter) : DeadLetter.bulkS (a ++ b) = DeadLetter.bulkS a + DeadLetter.bulkS b := by
  induction a with
  | nil => simp [DeadLetter.bulkS]
  | cons x a ih => simp [DeadLetter.bulkS, ih]; omega
theorem DeadLetter.bulkS_snoc (l : List DeadLetter) (k : Nat) (h : k < l.length) : DeadLetter.bulkS (l.take (k + 1)) = DeadLetter.bulkS (l.take k) + l[k].bulk := by
  rw [List.take_succ_eq_append_getElem h, DeadLetter.bulkS_append]
  simp [DeadLetter.bulkS]
theorem DeadLetter.bulkS_le (l : List DeadLetter) (k : Nat) : DeadLetter.bulkS (l.take k) ≤ DeadLetter.bulkS l := by
  conv => rhs; rw [← List.take_append_drop k l, DeadLetter.bulkS_append]
  omega
theorem DeadLetter.bulk_at (l : List DeadLetter) (k : Nat) (h : k < l.length) : l[k].bulk ≤ DeadLetter.bulkS l := by
  have h1 := DeadLetter.bulkS_snoc l k h
  have h2 := DeadLetter.bulkS_le l (k + 1)
  omega
theorem DeadLetter.cells_snoc (l : List DeadLetter) (k : Nat) (h : k < l.length) : (l.take (k + 1)).flatMap DeadLetter.cells = (l.take k).flatMap DeadLetter.cells ++ l[k].cells := by
  rw [List.take_succ_eq_append_getElem h, List.flatMap_append]
  simp
theorem OwC.oDeadLetter {w : World} {x : DeadLetter} {us : List Value} {fp : List Nat} (h : OwC w x.cells us fp) :
    us = [.int .i64 x.pos, .string x.key, .int .i64 x.code, .int .i64 x.why, .string x.type_, .int .i64 x.version, .int .i64 x.behind] ∧ (Lit.int .i64 x.pos).wf = true ∧ x.key.size ≤ maxLen ∧ (Lit.int .i64 x.code).wf = true ∧ (Lit.int .i64 x.why).wf = true ∧ x.type_.size ≤ maxLen ∧ (Lit.int .i64 x.version).wf = true ∧ (Lit.int .i64 x.behind).wf = true ∧ fp = [] := by
  rw [DeadLetter.cells_eq] at h
  match us, OwC.length _ h with
  | [u0, u1, u2, u3, u4, u5, u6], _ =>
    simp only [OwC] at h
    obtain ⟨g0, _, h0, ⟨g1, _, h1, ⟨g2, _, h2, ⟨g3, _, h3, ⟨g4, _, h4, ⟨g5, _, h5, ⟨g6, _, h6, rfl, rfl⟩, rfl⟩, rfl⟩, rfl⟩, rfl⟩, rfl⟩, rfl⟩ := h
    simp only [Ow, okAtom] at h0
    obtain ⟨rfl, w0, rfl⟩ := h0
    simp only [Ow, okAtom] at h1
    obtain ⟨rfl, w1, rfl⟩ := h1
    simp only [Ow, okAtom] at h2
    obtain ⟨rfl, w2, rfl⟩ := h2
    simp only [Ow, okAtom] at h3
    obtain ⟨rfl, w3, rfl⟩ := h3
    simp only [Ow, okAtom] at h4
    obtain ⟨rfl, w4, rfl⟩ := h4
    simp only [Ow, okAtom] at h5
    obtain ⟨rfl, w5, rfl⟩ := h5
    simp only [Ow, okAtom] at h6
    obtain ⟨rfl, w6, rfl⟩ := h6
    exact ⟨rfl, w0, w1, w2, w3, w4, w5, w6, by simp⟩
theorem OwC.mDeadLetter {w : World} {x : DeadLetter} (w0 : (Lit.int .i64 x.pos).wf = true) (w1 : x.key.size ≤ maxLen) (w2 : (Lit.int .i64 x.code).wf = true) (w3 : (Lit.int .i64 x.why).wf = true) (w4 : x.type_.size ≤ maxLen) (w5 : (Lit.int .i64 x.version).wf = true) (w6 : (Lit.int .i64 x.behind).wf = true) :
    OwC w x.cells [.int .i64 x.pos, .string x.key, .int .i64 x.code, .int .i64 x.why, .string x.type_, .int .i64 x.version, .int .i64 x.behind] ([]) := by
  have h : OwC w x.cells [.int .i64 x.pos, .string x.key, .int .i64 x.code, .int .i64 x.why, .string x.type_, .int .i64 x.version, .int .i64 x.behind] ([] ++ ([] ++ ([] ++ ([] ++ ([] ++ ([] ++ ([] ++ ([])))))))) := by
    rw [DeadLetter.cells_eq]
    exact ⟨_, _, ⟨rfl, w0, rfl⟩, ⟨_, _, ⟨rfl, w1, rfl⟩, ⟨_, _, ⟨rfl, w2, rfl⟩, ⟨_, _, ⟨rfl, w3, rfl⟩, ⟨_, _, ⟨rfl, w4, rfl⟩, ⟨_, _, ⟨rfl, w5, rfl⟩, ⟨_, _, ⟨rfl, w6, rfl⟩, rfl, rfl⟩, rfl⟩, rfl⟩, rfl⟩, rfl⟩, rfl⟩, rfl⟩
  simpa using h
end Go.Proofs.YtkfiebeedbjicaaGreatDoor
