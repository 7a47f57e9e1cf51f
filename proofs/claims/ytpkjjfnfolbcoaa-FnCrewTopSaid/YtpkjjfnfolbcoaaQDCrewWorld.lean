/-
  CrewHand as data: its cells, its size. CrewWorld as data: its cells, its size.
-/
import Derived.Test.YtpkjjfnfolbcoaaQStr
set_option linter.unusedVariables false
set_option linter.unusedSimpArgs false
namespace Go.Proofs.Ytpkjjfnfolbcoaa
open Go.ChangeShapes Go.WideShapes Go.ChangeAt Go.RowKit

structure CrewHand where
  state : Int
  job : Int
def CrewHand.cells (x : CrewHand) : List D := [.v (.int .i64 x.state), .v (.int .i64 x.job)]
theorem CrewHand.cells_eq (x : CrewHand) : x.cells = [.v (.int .i64 x.state), .v (.int .i64 x.job)] := rfl
theorem CrewHand.cells_len (x : CrewHand) : x.cells.length = 2 := by rw [CrewHand.cells_eq]; rfl
def CrewHand.bulkL (l : List CrewHand) : Nat := l.length
theorem CrewHand.cells_snoc (l : List CrewHand) (k : Nat) (h : k < l.length) : (l.take (k + 1)).flatMap CrewHand.cells = (l.take k).flatMap CrewHand.cells ++ l[k].cells := by
  rw [List.take_succ_eq_append_getElem h, List.flatMap_append]
  simp
theorem OwC.oCrewHand {w : World} {x : CrewHand} {us : List Value} {fp : List Nat} (h : OwC w x.cells us fp) :
    us = [.int .i64 x.state, .int .i64 x.job] ∧ (Lit.int .i64 x.state).wf = true ∧ (Lit.int .i64 x.job).wf = true ∧ fp = [] := by
  rw [CrewHand.cells_eq] at h
  match us, OwC.length _ h with
  | [u0, u1], _ =>
    simp only [OwC] at h
    obtain ⟨g0, _, h0, ⟨g1, _, h1, rfl, rfl⟩, rfl⟩ := h
    simp only [Ow, okAtom] at h0
    obtain ⟨rfl, w0, rfl⟩ := h0
    simp only [Ow, okAtom] at h1
    obtain ⟨rfl, w1, rfl⟩ := h1
    exact ⟨rfl, w0, w1, by simp⟩
theorem OwC.mCrewHand {w : World} {x : CrewHand} (w0 : (Lit.int .i64 x.state).wf = true) (w1 : (Lit.int .i64 x.job).wf = true) :
    OwC w x.cells [.int .i64 x.state, .int .i64 x.job] ([]) := by
  have h : OwC w x.cells [.int .i64 x.state, .int .i64 x.job] ([] ++ ([] ++ ([]))) := by
    rw [CrewHand.cells_eq]
    exact ⟨_, _, ⟨rfl, w0, rfl⟩, ⟨_, _, ⟨rfl, w1, rfl⟩, rfl, rfl⟩, rfl⟩
  simpa using h
end Go.Proofs.Ytpkjjfnfolbcoaa
set_option linter.unusedVariables false
set_option linter.unusedSimpArgs false
namespace Go.Proofs.Ytpkjjfnfolbcoaa
open Go.ChangeShapes Go.WideShapes Go.ChangeAt Go.RowKit

structure CrewWorld where
  jobs : Int
  workers : Int
  window : Int
  next : Int
  reader : Int
  queue : List Int
  hands : List CrewHand
  closer : Int
  results : List Int
  keeper : Int
  ring : List Int
  due : Int
  out : List Int
  user : Int
  got : List Int
  room : Int
  shut : List Int
  ops : Int
def CrewWorld.cells (x : CrewWorld) : List D := [.v (.int .i64 x.jobs), .v (.int .i64 x.workers), .v (.int .i64 x.window), .v (.int .i64 x.next), .v (.int .i64 x.reader), .s 1 x.queue.length (x.queue.flatMap intC), .s 2 x.hands.length (x.hands.flatMap CrewHand.cells), .v (.int .i64 x.closer), .s 1 x.results.length (x.results.flatMap intC), .v (.int .i64 x.keeper), .s 1 x.ring.length (x.ring.flatMap intC), .v (.int .i64 x.due), .s 1 x.out.length (x.out.flatMap intC), .v (.int .i64 x.user), .s 1 x.got.length (x.got.flatMap intC), .v (.int .i64 x.room), .s 1 x.shut.length (x.shut.flatMap intC), .v (.int .i64 x.ops)]
theorem CrewWorld.cells_eq (x : CrewWorld) : x.cells = [.v (.int .i64 x.jobs), .v (.int .i64 x.workers), .v (.int .i64 x.window), .v (.int .i64 x.next), .v (.int .i64 x.reader), .s 1 x.queue.length (x.queue.flatMap intC), .s 2 x.hands.length (x.hands.flatMap CrewHand.cells), .v (.int .i64 x.closer), .s 1 x.results.length (x.results.flatMap intC), .v (.int .i64 x.keeper), .s 1 x.ring.length (x.ring.flatMap intC), .v (.int .i64 x.due), .s 1 x.out.length (x.out.flatMap intC), .v (.int .i64 x.user), .s 1 x.got.length (x.got.flatMap intC), .v (.int .i64 x.room), .s 1 x.shut.length (x.shut.flatMap intC), .v (.int .i64 x.ops)] := rfl
def CrewWorld.bulk (x : CrewWorld) : Nat := x.queue.length + CrewHand.bulkL x.hands + x.results.length + x.ring.length + x.out.length + x.got.length + x.shut.length
theorem CrewWorld.bulk_eq (x : CrewWorld) : x.bulk = x.queue.length + CrewHand.bulkL x.hands + x.results.length + x.ring.length + x.out.length + x.got.length + x.shut.length := rfl
def CrewWorld.bulkS : List CrewWorld → Nat
  | [] => 0
  | x :: r => x.bulk + CrewWorld.bulkS r
theorem CrewWorld.cells_len (x : CrewWorld) : x.cells.length = 18 := by rw [CrewWorld.cells_eq]; rfl
def CrewWorld.bulkL (l : List CrewWorld) : Nat := l.length + CrewWorld.bulkS l
theorem CrewWorld.bulkS_append (a b : List CrewWorld) : CrewWorld.bulkS (a ++ b) = CrewWorld.bulkS a + CrewWorld.bulkS b := by
  induction a with
  | nil => simp [CrewWorld.bulkS]
  | cons x a ih => simp [CrewWorld.bulkS, ih]; omega
theorem CrewWorld.bulkS_snoc (l : List CrewWorld) (k : Nat) (h : k < l.length) : CrewWorld.bulkS (l.take (k + 1)) = CrewWorld.bulkS (l.take k) + l[k].bulk := by
  rw [List.take_succ_eq_append_getElem h, CrewWorld.bulkS_append]
  simp [CrewWorld.bulkS]
theorem CrewWorld.bulkS_le (l : List CrewWorld) (k : Nat) : CrewWorld.bulkS (l.take k) ≤ CrewWorld.bulkS l := by
  conv => rhs; rw [← List.take_append_drop k l, CrewWorld.bulkS_append]
  omega
theorem CrewWorld.bulk_at (l : List CrewWorld) (k : Nat) (h : k < l.length) : l[k].bulk ≤ CrewWorld.bulkS l := by
  have h1 := CrewWorld.bulkS_snoc l k h
  have h2 := CrewWorld.bulkS_le l (k + 1)
  omega
theorem CrewWorld.cells_snoc (l : List CrewWorld) (k : Nat) (h : k < l.length) : (l.take (k + 1)).flatMap CrewWorld.cells = (l.take k).flatMap CrewWorld.cells ++ l[k].cells := by
  rw [List.take_succ_eq_append_getElem h, List.flatMap_append]
  simp
theorem OwC.oCrewWorld {w : World} {x : CrewWorld} {us : List Value} {fp : List Nat} (h : OwC w x.cells us fp) :
    ∃ A1 c1 A2 c2 A3 c3 A4 c4 A5 c5 A6 c6 A7 c7 f1 f2 f3 f4 f5 f6 f7, us = [.int .i64 x.jobs, .int .i64 x.workers, .int .i64 x.window, .int .i64 x.next, .int .i64 x.reader, .slice A1 x.queue.length c1, .slice A2 x.hands.length c2, .int .i64 x.closer, .slice A3 x.results.length c3, .int .i64 x.keeper, .slice A4 x.ring.length c4, .int .i64 x.due, .slice A5 x.out.length c5, .int .i64 x.user, .slice A6 x.got.length c6, .int .i64 x.room, .slice A7 x.shut.length c7, .int .i64 x.ops] ∧ (Lit.int .i64 x.jobs).wf = true ∧ (Lit.int .i64 x.workers).wf = true ∧ (Lit.int .i64 x.window).wf = true ∧ (Lit.int .i64 x.next).wf = true ∧ (Lit.int .i64 x.reader).wf = true ∧ Ow w (.s 1 x.queue.length (x.queue.flatMap intC)) (.slice A1 x.queue.length c1) f1 ∧ Ow w (.s 2 x.hands.length (x.hands.flatMap CrewHand.cells)) (.slice A2 x.hands.length c2) f2 ∧ (Lit.int .i64 x.closer).wf = true ∧ Ow w (.s 1 x.results.length (x.results.flatMap intC)) (.slice A3 x.results.length c3) f3 ∧ (Lit.int .i64 x.keeper).wf = true ∧ Ow w (.s 1 x.ring.length (x.ring.flatMap intC)) (.slice A4 x.ring.length c4) f4 ∧ (Lit.int .i64 x.due).wf = true ∧ Ow w (.s 1 x.out.length (x.out.flatMap intC)) (.slice A5 x.out.length c5) f5 ∧ (Lit.int .i64 x.user).wf = true ∧ Ow w (.s 1 x.got.length (x.got.flatMap intC)) (.slice A6 x.got.length c6) f6 ∧ (Lit.int .i64 x.room).wf = true ∧ Ow w (.s 1 x.shut.length (x.shut.flatMap intC)) (.slice A7 x.shut.length c7) f7 ∧ (Lit.int .i64 x.ops).wf = true ∧ fp = f1 ++ (f2 ++ (f3 ++ (f4 ++ (f5 ++ (f6 ++ (f7)))))) := by
  rw [CrewWorld.cells_eq] at h
  match us, OwC.length _ h with
  | [u0, u1, u2, u3, u4, u5, u6, u7, u8, u9, u10, u11, u12, u13, u14, u15, u16, u17], _ =>
    simp only [OwC] at h
    obtain ⟨g0, _, h0, ⟨g1, _, h1, ⟨g2, _, h2, ⟨g3, _, h3, ⟨g4, _, h4, ⟨g5, _, h5, ⟨g6, _, h6, ⟨g7, _, h7, ⟨g8, _, h8, ⟨g9, _, h9, ⟨g10, _, h10, ⟨g11, _, h11, ⟨g12, _, h12, ⟨g13, _, h13, ⟨g14, _, h14, ⟨g15, _, h15, ⟨g16, _, h16, ⟨g17, _, h17, rfl, rfl⟩, rfl⟩, rfl⟩, rfl⟩, rfl⟩, rfl⟩, rfl⟩, rfl⟩, rfl⟩, rfl⟩, rfl⟩, rfl⟩, rfl⟩, rfl⟩, rfl⟩, rfl⟩, rfl⟩, rfl⟩ := h
    simp only [Ow, okAtom] at h0
    obtain ⟨rfl, w0, rfl⟩ := h0
    simp only [Ow, okAtom] at h1
    obtain ⟨rfl, w1, rfl⟩ := h1
    simp only [Ow, okAtom] at h2
    obtain ⟨rfl, w2, rfl⟩ := h2
    simp only [Ow, okAtom] at h3
    obtain ⟨rfl, w3, rfl⟩ := h3
    simp only [Ow, okAtom] at h4
    obtain ⟨rfl, w4, rfl⟩ := h4
    obtain ⟨A1, c1, rfl, _⟩ := h5.slice
    obtain ⟨A2, c2, rfl, _⟩ := h6.slice
    simp only [Ow, okAtom] at h7
    obtain ⟨rfl, w7, rfl⟩ := h7
    obtain ⟨A3, c3, rfl, _⟩ := h8.slice
    simp only [Ow, okAtom] at h9
    obtain ⟨rfl, w9, rfl⟩ := h9
    obtain ⟨A4, c4, rfl, _⟩ := h10.slice
    simp only [Ow, okAtom] at h11
    obtain ⟨rfl, w11, rfl⟩ := h11
    obtain ⟨A5, c5, rfl, _⟩ := h12.slice
    simp only [Ow, okAtom] at h13
    obtain ⟨rfl, w13, rfl⟩ := h13
    obtain ⟨A6, c6, rfl, _⟩ := h14.slice
    simp only [Ow, okAtom] at h15
    obtain ⟨rfl, w15, rfl⟩ := h15
    obtain ⟨A7, c7, rfl, _⟩ := h16.slice
    simp only [Ow, okAtom] at h17
    obtain ⟨rfl, w17, rfl⟩ := h17
    exact ⟨A1, c1, A2, c2, A3, c3, A4, c4, A5, c5, A6, c6, A7, c7, g5, g6, g8, g10, g12, g14, g16, rfl, w0, w1, w2, w3, w4, h5, h6, w7, h8, w9, h10, w11, h12, w13, h14, w15, h16, w17, by simp⟩
theorem OwC.mCrewWorld {w : World} {x : CrewWorld} {v1 v2 v3 v4 v5 v6 v7 : Value} {f1 f2 f3 f4 f5 f6 f7 : List Nat} (w0 : (Lit.int .i64 x.jobs).wf = true) (w1 : (Lit.int .i64 x.workers).wf = true) (w2 : (Lit.int .i64 x.window).wf = true) (w3 : (Lit.int .i64 x.next).wf = true) (w4 : (Lit.int .i64 x.reader).wf = true) (h5 : Ow w (.s 1 x.queue.length (x.queue.flatMap intC)) v1 f1) (h6 : Ow w (.s 2 x.hands.length (x.hands.flatMap CrewHand.cells)) v2 f2) (w7 : (Lit.int .i64 x.closer).wf = true) (h8 : Ow w (.s 1 x.results.length (x.results.flatMap intC)) v3 f3) (w9 : (Lit.int .i64 x.keeper).wf = true) (h10 : Ow w (.s 1 x.ring.length (x.ring.flatMap intC)) v4 f4) (w11 : (Lit.int .i64 x.due).wf = true) (h12 : Ow w (.s 1 x.out.length (x.out.flatMap intC)) v5 f5) (w13 : (Lit.int .i64 x.user).wf = true) (h14 : Ow w (.s 1 x.got.length (x.got.flatMap intC)) v6 f6) (w15 : (Lit.int .i64 x.room).wf = true) (h16 : Ow w (.s 1 x.shut.length (x.shut.flatMap intC)) v7 f7) (w17 : (Lit.int .i64 x.ops).wf = true) :
    OwC w x.cells [.int .i64 x.jobs, .int .i64 x.workers, .int .i64 x.window, .int .i64 x.next, .int .i64 x.reader, v1, v2, .int .i64 x.closer, v3, .int .i64 x.keeper, v4, .int .i64 x.due, v5, .int .i64 x.user, v6, .int .i64 x.room, v7, .int .i64 x.ops] (f1 ++ (f2 ++ (f3 ++ (f4 ++ (f5 ++ (f6 ++ (f7))))))) := by
  have h : OwC w x.cells [.int .i64 x.jobs, .int .i64 x.workers, .int .i64 x.window, .int .i64 x.next, .int .i64 x.reader, v1, v2, .int .i64 x.closer, v3, .int .i64 x.keeper, v4, .int .i64 x.due, v5, .int .i64 x.user, v6, .int .i64 x.room, v7, .int .i64 x.ops] ([] ++ ([] ++ ([] ++ ([] ++ ([] ++ (f1 ++ (f2 ++ ([] ++ (f3 ++ ([] ++ (f4 ++ ([] ++ (f5 ++ ([] ++ (f6 ++ ([] ++ (f7 ++ ([] ++ ([]))))))))))))))))))) := by
    rw [CrewWorld.cells_eq]
    exact ⟨_, _, ⟨rfl, w0, rfl⟩, ⟨_, _, ⟨rfl, w1, rfl⟩, ⟨_, _, ⟨rfl, w2, rfl⟩, ⟨_, _, ⟨rfl, w3, rfl⟩, ⟨_, _, ⟨rfl, w4, rfl⟩, ⟨_, _, h5, ⟨_, _, h6, ⟨_, _, ⟨rfl, w7, rfl⟩, ⟨_, _, h8, ⟨_, _, ⟨rfl, w9, rfl⟩, ⟨_, _, h10, ⟨_, _, ⟨rfl, w11, rfl⟩, ⟨_, _, h12, ⟨_, _, ⟨rfl, w13, rfl⟩, ⟨_, _, h14, ⟨_, _, ⟨rfl, w15, rfl⟩, ⟨_, _, h16, ⟨_, _, ⟨rfl, w17, rfl⟩, rfl, rfl⟩, rfl⟩, rfl⟩, rfl⟩, rfl⟩, rfl⟩, rfl⟩, rfl⟩, rfl⟩, rfl⟩, rfl⟩, rfl⟩, rfl⟩, rfl⟩, rfl⟩, rfl⟩, rfl⟩, rfl⟩
  simpa using h
end Go.Proofs.Ytpkjjfnfolbcoaa
