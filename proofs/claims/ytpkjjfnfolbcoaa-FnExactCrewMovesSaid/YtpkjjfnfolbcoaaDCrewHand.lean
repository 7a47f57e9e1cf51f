/-
  CrewHand as data: its cells, its size.
-/
import Derived.Test.YtpkjjfnfolbcoaaStr
set_option linter.unusedVariables false
set_option linter.unusedSimpArgs false
namespace Go.Proofs.Ytpkjjfnfolbcoaa
open Go.ChangeShapes Go.WideShapes Go.ChangeAt Go.RowKit

structure CrewHand where
  state : Int
  job : Int
def CrewHand.cells (x : CrewHand) : List D := [.v (.int .i64 x.state), .v (.int .i64 x.job)]
theorem CrewHand.cells_eq (x : CrewHand) : x.cells = [.v (.int .i64 x.state), .v (.int .i64 x.job)] := rfl
theorem CrewHand.cells_len (x : CrewHand) : x.cells.length = 2 := by rw [CrewHand.cells_eq]; rfl
def CrewHand.bulkL (l : List CrewHand) : Nat := l.length
theorem CrewHand.cells_snoc (l : List CrewHand) (k : Nat) (h : k < l.length) : (l.take (k + 1)).flatMap CrewHand.cells = (l.take k).flatMap CrewHand.cells ++ l[k].cells := by
  rw [List.take_succ_eq_append_getElem h, List.flatMap_append]
  simp
theorem OwC.oCrewHand {w : World} {x : CrewHand} {us : List Value} {fp : List Nat} (h : OwC w x.cells us fp) :
    us = [.int .i64 x.state, .int .i64 x.job] ∧ (Lit.int .i64 x.state).wf = true ∧ (Lit.int .i64 x.job).wf = true ∧ fp = [] := by
  rw [CrewHand.cells_eq] at h
  match us, OwC.length _ h with
  | [u0, u1], _ =>
    simp only [OwC] at h
    obtain ⟨g0, _, h0, ⟨g1, _, h1, rfl, rfl⟩, rfl⟩ := h
    simp only [Ow, okAtom] at h0
    obtain ⟨rfl, w0, rfl⟩ := h0
    simp only [Ow, okAtom] at h1
    obtain ⟨rfl, w1, rfl⟩ := h1
    exact ⟨rfl, w0, w1, by simp⟩
theorem OwC.mCrewHand {w : World} {x : CrewHand} (w0 : (Lit.int .i64 x.state).wf = true) (w1 : (Lit.int .i64 x.job).wf = true) :
    OwC w x.cells [.int .i64 x.state, .int .i64 x.job] ([]) := by
  have h : OwC w x.cells [.int .i64 x.state, .int .i64 x.job] ([] ++ ([] ++ ([]))) := by
    rw [CrewHand.cells_eq]
    exact ⟨_, _, ⟨rfl, w0, rfl⟩, ⟨_, _, ⟨rfl, w1, rfl⟩, rfl, rfl⟩, rfl⟩
  simpa using h
end Go.Proofs.Ytpkjjfnfolbcoaa
