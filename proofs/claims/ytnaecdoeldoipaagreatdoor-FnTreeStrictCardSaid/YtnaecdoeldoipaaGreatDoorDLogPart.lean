/-
  LogPart as data: its cells, its size.
-/
import Derived.Test.YtnaecdoeldoipaaGreatDoorStr
set_option linter.unusedVariables false
set_option linter.unusedSimpArgs false
namespace Go.Proofs.YtnaecdoeldoipaaGreatDoor
open Go.ChangeShapes Go.WideShapes Go.ChangeAt Go.RowKit

structure LogPart where
  num : Int
  first : Int
  next : Int
  size : Int
def LogPart.cells (x : LogPart) : List D := [.v (.int .i64 x.num), .v (.int .i64 x.first), .v (.int .i64 x.next), .v (.int .i64 x.size)]
theorem LogPart.cells_eq (x : LogPart) : x.cells = [.v (.int .i64 x.num), .v (.int .i64 x.first), .v (.int .i64 x.next), .v (.int .i64 x.size)] := rfl
theorem LogPart.cells_len (x : LogPart) : x.cells.length = 4 := by rw [LogPart.cells_eq]; rfl
def LogPart.bulkL (l : List LogPart) : Nat := l.length
theorem LogPart.cells_snoc (l : List LogPart) (k : Nat) (h : k < l.length) : (l.take (k + 1)).flatMap LogPart.cells = (l.take k).flatMap LogPart.cells ++ l[k].cells := by
  rw [List.take_succ_eq_append_getElem h, List.flatMap_append]
  simp
theorem OwC.oLogPart {w : World} {x : LogPart} {us : List Value} {fp : List Nat} (h : OwC w x.cells us fp) :
    us = [.int .i64 x.num, .int .i64 x.first, .int .i64 x.next, .int .i64 x.size] ∧ (Lit.int .i64 x.num).wf = true ∧ (Lit.int .i64 x.first).wf = true ∧ (Lit.int .i64 x.next).wf = true ∧ (Lit.int .i64 x.size).wf = true ∧ fp = [] := by
  rw [LogPart.cells_eq] at h
  match us, OwC.length _ h with
  | [u0, u1, u2, u3], _ =>
    simp only [OwC] at h
    obtain ⟨g0, _, h0, ⟨g1, _, h1, ⟨g2, _, h2, ⟨g3, _, h3, rfl, rfl⟩, rfl⟩, rfl⟩, rfl⟩ := h
    simp only [Ow, okAtom] at h0
    obtain ⟨rfl, w0, rfl⟩ := h0
    simp only [Ow, okAtom] at h1
    obtain ⟨rfl, w1, rfl⟩ := h1
    simp only [Ow, okAtom] at h2
    obtain ⟨rfl, w2, rfl⟩ := h2
    simp only [Ow, okAtom] at h3
    obtain ⟨rfl, w3, rfl⟩ := h3
    exact ⟨rfl, w0, w1, w2, w3, by simp⟩
theorem OwC.mLogPart {w : World} {x : LogPart} (w0 : (Lit.int .i64 x.num).wf = true) (w1 : (Lit.int .i64 x.first).wf = true) (w2 : (Lit.int .i64 x.next).wf = true) (w3 : (Lit.int .i64 x.size).wf = true) :
    OwC w x.cells [.int .i64 x.num, .int .i64 x.first, .int .i64 x.next, .int .i64 x.size] ([]) := by
  have h : OwC w x.cells [.int .i64 x.num, .int .i64 x.first, .int .i64 x.next, .int .i64 x.size] ([] ++ ([] ++ ([] ++ ([] ++ ([]))))) := by
    rw [LogPart.cells_eq]
    exact ⟨_, _, ⟨rfl, w0, rfl⟩, ⟨_, _, ⟨rfl, w1, rfl⟩, ⟨_, _, ⟨rfl, w2, rfl⟩, ⟨_, _, ⟨rfl, w3, rfl⟩, rfl, rfl⟩, rfl⟩, rfl⟩, rfl⟩
  simpa using h
end Go.Proofs.YtnaecdoeldoipaaGreatDoor
