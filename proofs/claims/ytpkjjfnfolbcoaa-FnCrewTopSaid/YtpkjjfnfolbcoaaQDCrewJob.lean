/-
  CrewDead as data: its cells, its size. CrewTold as data: its cells, its size. CrewJob as data: its cells, its size.
-/
import Derived.Test.YtpkjjfnfolbcoaaQStr
set_option linter.unusedVariables false
set_option linter.unusedSimpArgs false
namespace Go.Proofs.Ytpkjjfnfolbcoaa
open Go.ChangeShapes Go.WideShapes Go.ChangeAt Go.RowKit

structure CrewDead where
  at_ : Int
  bad : Int
def CrewDead.cells (x : CrewDead) : List D := [.v (.int .i64 x.at_), .v (.int .i64 x.bad)]
theorem CrewDead.cells_eq (x : CrewDead) : x.cells = [.v (.int .i64 x.at_), .v (.int .i64 x.bad)] := rfl
theorem CrewDead.cells_len (x : CrewDead) : x.cells.length = 2 := by rw [CrewDead.cells_eq]; rfl
def CrewDead.bulkL (l : List CrewDead) : Nat := l.length
theorem CrewDead.cells_snoc (l : List CrewDead) (k : Nat) (h : k < l.length) : (l.take (k + 1)).flatMap CrewDead.cells = (l.take k).flatMap CrewDead.cells ++ l[k].cells := by
  rw [List.take_succ_eq_append_getElem h, List.flatMap_append]
  simp
theorem OwC.oCrewDead {w : World} {x : CrewDead} {us : List Value} {fp : List Nat} (h : OwC w x.cells us fp) :
    us = [.int .i64 x.at_, .int .i64 x.bad] ∧ (Lit.int .i64 x.at_).wf = true ∧ (Lit.int .i64 x.bad).wf = true ∧ fp = [] := by
  rw [CrewDead.cells_eq] at h
  match us, OwC.length _ h with
  | [u0, u1], _ =>
    simp only [OwC] at h
    obtain ⟨g0, _, h0, ⟨g1, _, h1, rfl, rfl⟩, rfl⟩ := h
    simp only [Ow, okAtom] at h0
    obtain ⟨rfl, w0, rfl⟩ := h0
    simp only [Ow, okAtom] at h1
    obtain ⟨rfl, w1, rfl⟩ := h1
    exact ⟨rfl, w0, w1, by simp⟩
theorem OwC.mCrewDead {w : World} {x : CrewDead} (w0 : (Lit.int .i64 x.at_).wf = true) (w1 : (Lit.int .i64 x.bad).wf = true) :
    OwC w x.cells [.int .i64 x.at_, .int .i64 x.bad] ([]) := by
  have h : OwC w x.cells [.int .i64 x.at_, .int .i64 x.bad] ([] ++ ([] ++ ([]))) := by
    rw [CrewDead.cells_eq]
    exact ⟨_, _, ⟨rfl, w0, rfl⟩, ⟨_, _, ⟨rfl, w1, rfl⟩, rfl, rfl⟩, rfl⟩
  simpa using h
end Go.Proofs.Ytpkjjfnfolbcoaa
set_option linter.unusedVariables false
set_option linter.unusedSimpArgs false
namespace Go.Proofs.Ytpkjjfnfolbcoaa
open Go.ChangeShapes Go.WideShapes Go.ChangeAt Go.RowKit

structure CrewTold where
  ok : Bool
  items : List Int
  dead : List CrewDead
  jobs : Int
  steps : Int
  ops : Int
def CrewTold.cells (x : CrewTold) : List D := [.v (.bool x.ok), .s 1 x.items.length (x.items.flatMap intC), .s 2 x.dead.length (x.dead.flatMap CrewDead.cells), .v (.int .i64 x.jobs), .v (.int .i64 x.steps), .v (.int .i64 x.ops)]
theorem CrewTold.cells_eq (x : CrewTold) : x.cells = [.v (.bool x.ok), .s 1 x.items.length (x.items.flatMap intC), .s 2 x.dead.length (x.dead.flatMap CrewDead.cells), .v (.int .i64 x.jobs), .v (.int .i64 x.steps), .v (.int .i64 x.ops)] := rfl
def CrewTold.bulk (x : CrewTold) : Nat := x.items.length + CrewDead.bulkL x.dead
theorem CrewTold.bulk_eq (x : CrewTold) : x.bulk = x.items.length + CrewDead.bulkL x.dead := rfl
def CrewTold.bulkS : List CrewTold → Nat
  | [] => 0
  | x :: r => x.bulk + CrewTold.bulkS r
theorem CrewTold.cells_len (x : CrewTold) : x.cells.length = 6 := by rw [CrewTold.cells_eq]; rfl
def CrewTold.bulkL (l : List CrewTold) : Nat := l.length + CrewTold.bulkS l
theorem CrewTold.bulkS_append (a b : List CrewTold) : CrewTold.bulkS (a ++ b) = CrewTold.bulkS a + CrewTold.bulkS b := by
  induction a with
  | nil => simp [CrewTold.bulkS]
  | cons x a ih => simp [CrewTold.bulkS, ih]; omega
theorem CrewTold.bulkS_snoc (l : List CrewTold) (k : Nat) (h : k < l.length) : CrewTold.bulkS (l.take (k + 1)) = CrewTold.bulkS (l.take k) + l[k].bulk := by
  rw [List.take_succ_eq_append_getElem h, CrewTold.bulkS_append]
  simp [CrewTold.bulkS]
theorem CrewTold.bulkS_le (l : List CrewTold) (k : Nat) : CrewTold.bulkS (l.take k) ≤ CrewTold.bulkS l := by
  conv => rhs; rw [← List.take_append_drop k l, CrewTold.bulkS_append]
  omega
theorem CrewTold.bulk_at (l : List CrewTold) (k : Nat) (h : k < l.length) : l[k].bulk ≤ CrewTold.bulkS l := by
  have h1 := CrewTold.bulkS_snoc l k h
  have h2 := CrewTold.bulkS_le l (k + 1)
  omega
theorem CrewTold.cells_snoc (l : List CrewTold) (k : Nat) (h : k < l.length) : (l.take (k + 1)).flatMap CrewTold.cells = (l.take k).flatMap CrewTold.cells ++ l[k].cells := by
  rw [List.take_succ_eq_append_getElem h, List.flatMap_append]
  simp
theorem OwC.oCrewTold {w : World} {x : CrewTold} {us : List Value} {fp : List Nat} (h : OwC w x.cells us fp) :
    ∃ A1 c1 A2 c2 f1 f2, us = [.bool x.ok, .slice A1 x.items.length c1, .slice A2 x.dead.length c2, .int .i64 x.jobs, .int .i64 x.steps, .int .i64 x.ops] ∧ Ow w (.s 1 x.items.length (x.items.flatMap intC)) (.slice A1 x.items.length c1) f1 ∧ Ow w (.s 2 x.dead.length (x.dead.flatMap CrewDead.cells)) (.slice A2 x.dead.length c2) f2 ∧ (Lit.int .i64 x.jobs).wf = true ∧ (Lit.int .i64 x.steps).wf = true ∧ (Lit.int .i64 x.ops).wf = true ∧ fp = f1 ++ (f2) := by
  rw [CrewTold.cells_eq] at h
  match us, OwC.length _ h with
  | [u0, u1, u2, u3, u4, u5], _ =>
    simp only [OwC] at h
    obtain ⟨g0, _, h0, ⟨g1, _, h1, ⟨g2, _, h2, ⟨g3, _, h3, ⟨g4, _, h4, ⟨g5, _, h5, rfl, rfl⟩, rfl⟩, rfl⟩, rfl⟩, rfl⟩, rfl⟩ := h
    simp only [Ow, okAtom] at h0
    obtain ⟨rfl, _, rfl⟩ := h0
    obtain ⟨A1, c1, rfl, _⟩ := h1.slice
    obtain ⟨A2, c2, rfl, _⟩ := h2.slice
    simp only [Ow, okAtom] at h3
    obtain ⟨rfl, w3, rfl⟩ := h3
    simp only [Ow, okAtom] at h4
    obtain ⟨rfl, w4, rfl⟩ := h4
    simp only [Ow, okAtom] at h5
    obtain ⟨rfl, w5, rfl⟩ := h5
    exact ⟨A1, c1, A2, c2, g1, g2, rfl, h1, h2, w3, w4, w5, by simp⟩
theorem OwC.mCrewTold {w : World} {x : CrewTold} {v1 v2 : Value} {f1 f2 : List Nat} (h1 : Ow w (.s 1 x.items.length (x.items.flatMap intC)) v1 f1) (h2 : Ow w (.s 2 x.dead.length (x.dead.flatMap CrewDead.cells)) v2 f2) (w3 : (Lit.int .i64 x.jobs).wf = true) (w4 : (Lit.int .i64 x.steps).wf = true) (w5 : (Lit.int .i64 x.ops).wf = true) :
    OwC w x.cells [.bool x.ok, v1, v2, .int .i64 x.jobs, .int .i64 x.steps, .int .i64 x.ops] (f1 ++ (f2)) := by
  have h : OwC w x.cells [.bool x.ok, v1, v2, .int .i64 x.jobs, .int .i64 x.steps, .int .i64 x.ops] ([] ++ (f1 ++ (f2 ++ ([] ++ ([] ++ ([] ++ ([]))))))) := by
    rw [CrewTold.cells_eq]
    exact ⟨_, _, ⟨rfl, trivial, rfl⟩, ⟨_, _, h1, ⟨_, _, h2, ⟨_, _, ⟨rfl, w3, rfl⟩, ⟨_, _, ⟨rfl, w4, rfl⟩, ⟨_, _, ⟨rfl, w5, rfl⟩, rfl, rfl⟩, rfl⟩, rfl⟩, rfl⟩, rfl⟩, rfl⟩
  simpa using h
end Go.Proofs.Ytpkjjfnfolbcoaa
set_option linter.unusedVariables false
set_option linter.unusedSimpArgs false
namespace Go.Proofs.Ytpkjjfnfolbcoaa
open Go.ChangeShapes Go.WideShapes Go.ChangeAt Go.RowKit

structure CrewJob where
  items : List Int
  bad : Int
def CrewJob.cells (x : CrewJob) : List D := [.s 1 x.items.length (x.items.flatMap intC), .v (.int .i64 x.bad)]
theorem CrewJob.cells_eq (x : CrewJob) : x.cells = [.s 1 x.items.length (x.items.flatMap intC), .v (.int .i64 x.bad)] := rfl
def CrewJob.bulk (x : CrewJob) : Nat := x.items.length
theorem CrewJob.bulk_eq (x : CrewJob) : x.bulk = x.items.length := rfl
def CrewJob.bulkS : List CrewJob → Nat
  | [] => 0
  | x :: r => x.bulk + CrewJob.bulkS r
theorem CrewJob.cells_len (x : CrewJob) : x.cells.length = 2 := by rw [CrewJob.cells_eq]; rfl
def CrewJob.bulkL (l : List CrewJob) : Nat := l.length + CrewJob.bulkS l
theorem CrewJob.bulkS_append (a b : List CrewJob) : CrewJob.bulkS (a ++ b) = CrewJob.bulkS a + CrewJob.bulkS b := by
  induction a with
  | nil => simp [CrewJob.bulkS]
  | cons x a ih => simp [CrewJob.bulkS, ih]; omega
theorem CrewJob.bulkS_snoc (l : List CrewJob) (k : Nat) (h : k < l.length) : CrewJob.bulkS (l.take (k + 1)) = CrewJob.bulkS (l.take k) + l[k].bulk := by
  rw [List.take_succ_eq_append_getElem h, CrewJob.bulkS_append]
  simp [CrewJob.bulkS]
theorem CrewJob.bulkS_le (l : List CrewJob) (k : Nat) : CrewJob.bulkS (l.take k) ≤ CrewJob.bulkS l := by
  conv => rhs; rw [← List.take_append_drop k l, CrewJob.bulkS_append]
  omega
theorem CrewJob.bulk_at (l : List CrewJob) (k : Nat) (h : k < l.length) : l[k].bulk ≤ CrewJob.bulkS l := by
  have h1 := CrewJob.bulkS_snoc l k h
  have h2 := CrewJob.bulkS_le l (k + 1)
  omega
theorem CrewJob.cells_snoc (l : List CrewJob) (k : Nat) (h : k < l.length) : (l.take (k + 1)).flatMap CrewJob.cells = (l.take k).flatMap CrewJob.cells ++ l[k].cells := by
  rw [List.take_succ_eq_append_getElem h, List.flatMap_append]
  simp
theorem OwC.oCrewJob {w : World} {x : CrewJob} {us : List Value} {fp : List Nat} (h : OwC w x.cells us fp) :
    ∃ A1 c1 f1, us = [.slice A1 x.items.length c1, .int .i64 x.bad] ∧ Ow w (.s 1 x.items.length (x.items.flatMap intC)) (.slice A1 x.items.length c1) f1 ∧ (Lit.int .i64 x.bad).wf = true ∧ f1 = fp := by
  rw [CrewJob.cells_eq] at h
  match us, OwC.length _ h with
  | [u0, u1], _ =>
    simp only [OwC] at h
    obtain ⟨g0, _, h0, ⟨g1, _, h1, rfl, rfl⟩, rfl⟩ := h
    obtain ⟨A1, c1, rfl, _⟩ := h0.slice
    simp only [Ow, okAtom] at h1
    obtain ⟨rfl, w1, rfl⟩ := h1
    exact ⟨A1, c1, g0, rfl, h0, w1, by simp⟩
theorem OwC.mCrewJob {w : World} {x : CrewJob} {v1 : Value} {f1 : List Nat} (h0 : Ow w (.s 1 x.items.length (x.items.flatMap intC)) v1 f1) (w1 : (Lit.int .i64 x.bad).wf = true) :
    OwC w x.cells [v1, .int .i64 x.bad] (f1) := by
  have h : OwC w x.cells [v1, .int .i64 x.bad] (f1 ++ ([] ++ ([]))) := by
    rw [CrewJob.cells_eq]
    exact ⟨_, _, h0, ⟨_, _, ⟨rfl, w1, rfl⟩, rfl, rfl⟩, rfl⟩
  simpa using h
end Go.Proofs.Ytpkjjfnfolbcoaa
