/-
  CrewDead as data: its cells, its size.
-/
import Derived.Test.YtdingkbggjehoaaStr
set_option linter.unusedVariables false
set_option linter.unusedSimpArgs false
namespace Go.Proofs.Ytdingkbggjehoaa
open Go.ChangeShapes Go.WideShapes Go.ChangeAt Go.RowKit

structure CrewDead where
  at_ : Int
  bad : Int
def CrewDead.cells (x : CrewDead) : List D := [.v (.int .i64 x.at_), .v (.int .i64 x.bad)]
theorem CrewDead.cells_eq (x : CrewDead) : x.cells = [.v (.int .i64 x.at_), .v (.int .i64 x.bad)] := rfl
theorem CrewDead.cells_len (x : CrewDead) : x.cells.length = 2 := by rw [CrewDead.cells_eq]; rfl
def CrewDead.bulkL (l : List CrewDead) : Nat := l.length
theorem CrewDead.cells_snoc (l : List CrewDead) (k : Nat) (h : k < l.length) : (l.take (k + 1)).flatMap CrewDead.cells = (l.take k).flatMap CrewDead.cells ++ l[k].cells := by
  rw [List.take_succ_eq_append_getElem h, List.flatMap_append]
  simp
theorem OwC.oCrewDead {w : World} {x : CrewDead} {us : List Value} {fp : List Nat} (h : OwC w x.cells us fp) :
    us = [.int .i64 x.at_, .int .i64 x.bad] ∧ (Lit.int .i64 x.at_).wf = true ∧ (Lit.int .i64 x.bad).wf = true ∧ fp = [] := by
  rw [CrewDead.cells_eq] at h
  match us, OwC.length _ h with
  | [u0, u1], _ =>
    simp only [OwC] at h
    obtain ⟨g0, _, h0, ⟨g1, _, h1, rfl, rfl⟩, rfl⟩ := h
    simp only [Ow, okAtom] at h0
    obtain ⟨rfl, w0, rfl⟩ := h0
    simp only [Ow, okAtom] at h1
    obtain ⟨rfl, w1, rfl⟩ := h1
    exact ⟨rfl, w0, w1, by simp⟩
theorem OwC.mCrewDead {w : World} {x : CrewDead} (w0 : (Lit.int .i64 x.at_).wf = true) (w1 : (Lit.int .i64 x.bad).wf = true) :
    OwC w x.cells [.int .i64 x.at_, .int .i64 x.bad] ([]) := by
  have h : OwC w x.cells [.int .i64 x.at_, .int .i64 x.bad] ([] ++ ([] ++ ([]))) := by
    rw [CrewDead.cells_eq]
    exact ⟨_, _, ⟨rfl, w0, rfl⟩, ⟨_, _, ⟨rfl, w1, rfl⟩, rfl, rfl⟩, rfl⟩
  simpa using h
end Go.Proofs.Ytdingkbggjehoaa
