/-
  Records that stand one behind the other in a text: plain definitions. LogState as data: its cells, its size. LogAct: what the laws' own helpers do: the size, a copy, equality. A value of laws.LogAct that came in, read as data.
-/
import Derived.Test.YtddjgbhkfdpffaaGreatDoorWStr
import Derived.Test.YtddjgbhkfdpffaaGreatDoorWDDiskWrite
import Derived.Test.YtddjgbhkfdpffaaGreatDoorWRead
set_option linter.unusedVariables false
set_option linter.unusedSimpArgs false
namespace Go.Proofs.YtddjgbhkfdpffaaGreatDoor
open Go.ChangeShapes Go.WideShapes Go.ChangeAt Go.RowKit

def bAt (d : ByteArray) (i : Nat) : Nat := if h : i < d.size then d[i].toNat else 0
theorem bAt_eq {d : ByteArray} {i : Nat} (h : i < d.size) : bAt d i = d[i].toNat := by unfold bAt; rw [dif_pos h]
theorem bAt_lt (d : ByteArray) (i : Nat) : bAt d i < 256 := by
  unfold bAt
  split
  · exact UInt8.toNat_lt _
  · decide
def frN (d : ByteArray) (i : Nat) : Nat := bAt d i * 256 + bAt d (i + 1)
def frP (d : ByteArray) (i : Nat) : Nat := bAt d (i + 2) * 65536 + bAt d (i + 3) * 256 + bAt d (i + 4)
def frOk (d : ByteArray) (i : Nat) : Prop := i + 5 ≤ d.size ∧ frN d i ≤ 2000 ∧ 1 ≤ frP d i ∧ frP d i ≤ 999999 ∧ i + 5 + frN d i ≤ d.size
def frRec (d : ByteArray) (i : Nat) : LogRecord := ⟨frP d i, d.extract (i + 5) (i + 5 + frN d i)⟩
open Classical in
noncomputable def frFrom (d : ByteArray) (i : Nat) : List LogRecord × Nat :=
  if h : frOk d i then (frRec d i :: (frFrom d (i + 5 + frN d i)).1, (frFrom d (i + 5 + frN d i)).2) else ([], i)
termination_by d.size - i
decreasing_by all_goals (have := h.1; omega)
theorem frFrom_yes {d : ByteArray} {i : Nat} (h : frOk d i) : frFrom d i = (frRec d i :: (frFrom d (i + 5 + frN d i)).1, (frFrom d (i + 5 + frN d i)).2) := by
  rw [frFrom, dif_pos h]
theorem frFrom_no {d : ByteArray} {i : Nat} (h : ¬ frOk d i) : frFrom d i = ([], i) := by
  rw [frFrom, dif_neg h]
/-- so far l has been read, up to i -/
def FrTo (d : ByteArray) (i : Nat) (l : List LogRecord) : Prop := i ≤ d.size ∧ 5 * l.length ≤ i ∧ frFrom d 0 = (l ++ (frFrom d i).1, (frFrom d i).2)
theorem FrTo.zero (d : ByteArray) : FrTo d 0 [] := ⟨Nat.zero_le _, by simp, by simp⟩
theorem FrTo.step {d : ByteArray} {i : Nat} {l : List LogRecord} (h : FrTo d i l) (ho : frOk d i) : FrTo d (i + 5 + frN d i) (l ++ [frRec d i]) := by
  refine ⟨ho.2.2.2.2, by have := h.2.1; simp; omega, ?_⟩
  rw [h.2.2, frFrom_yes ho]
  simp
theorem FrTo.done {d : ByteArray} {i : Nat} {l : List LogRecord} (h : FrTo d i l) (ho : ¬ frOk d i) : frFrom d 0 = (l, i) := by
  rw [h.2.2, frFrom_no ho]
  simp
end Go.Proofs.YtddjgbhkfdpffaaGreatDoor
set_option linter.unusedVariables false
set_option linter.unusedSimpArgs false
namespace Go.Proofs.YtddjgbhkfdpffaaGreatDoor
open Go.ChangeShapes Go.WideShapes Go.ChangeAt Go.RowKit

structure LogState where
  code : Int
  num : Int
  plan : LogPlan
  size : Int
  torn : Bool
  next : Int
  records : List LogRecord
def LogState.cells (x : LogState) : List D := [.v (.int .i64 x.code), .v (.int .i64 x.num), .s 4 x.plan.parts.length (x.plan.parts.flatMap LogPart.cells), .v (.int .i64 x.plan.open_), .v (.int .i64 x.plan.first), .v (.int .i64 x.size), .v (.bool x.torn), .v (.int .i64 x.next), .s 2 x.records.length (x.records.flatMap LogRecord.cells)]
theorem LogState.cells_eq (x : LogState) : x.cells = [.v (.int .i64 x.code), .v (.int .i64 x.num), .s 4 x.plan.parts.length (x.plan.parts.flatMap LogPart.cells), .v (.int .i64 x.plan.open_), .v (.int .i64 x.plan.first), .v (.int .i64 x.size), .v (.bool x.torn), .v (.int .i64 x.next), .s 2 x.records.length (x.records.flatMap LogRecord.cells)] := rfl
def LogState.bulk (x : LogState) : Nat := x.plan.bulk + LogRecord.bulkL x.records
theorem LogState.bulk_eq (x : LogState) : x.bulk = x.plan.bulk + LogRecord.bulkL x.records := rfl
def LogState.bulkS : List LogState → Nat
  | [] => 0
  | x :: r => x.bulk + LogState.bulkS r
theorem LogState.cells_len (x : LogState) : x.cells.length = 9 := by rw [LogState.cells_eq]; rfl
def LogState.bulkL (l : List LogState) : Nat := l.length + LogState.bulkS l
theorem LogState.bulkS_append (a b : List LogState) : LogState.bulkS (a ++ b) = LogState.bulkS a + LogState.bulkS b := by
  induction a with
  | nil => simp [LogState.bulkS]
  | cons x a ih => simp [LogState.bulkS, ih]; omega
theorem LogState.bulkS_snoc (l : List LogState) (k : Nat) (h : k < l.length) : LogState.bulkS (l.take (k + 1)) = LogState.bulkS (l.take k) + l[k].bulk := by
  rw [List.take_succ_eq_append_getElem h, LogState.bulkS_append]
  simp [LogState.bulkS]
theorem LogState.bulkS_le (l : List LogState) (k : Nat) : LogState.bulkS (l.take k) ≤ LogState.bulkS l := by
  conv => rhs; rw [← List.take_append_drop k l, LogState.bulkS_append]
  omega
theorem LogState.bulk_at (l : List LogState) (k : Nat) (h : k < l.length) : l[k].bulk ≤ LogState.bulkS l := by
  have h1 := LogState.bulkS_snoc l k h
  have h2 := LogState.bulkS_le l (k + 1)
  omega
theorem LogState.cells_snoc (l : List LogState) (k : Nat) (h : k < l.length) : (l.take (k + 1)).flatMap LogState.cells = (l.take k).flatMap LogState.cells ++ l[k].cells := by
  rw [List.take_succ_eq_append_getElem h, List.flatMap_append]
  simp
theorem OwC.oLogState {w : World} {x : LogState} {us : List Value} {fp : List Nat} (h : OwC w x.cells us fp) :
    ∃ A1 c1 A2 c2 f1 f2, us = [.int .i64 x.code, .int .i64 x.num, .slice A1 x.plan.parts.length c1, .int .i64 x.plan.open_, .int .i64 x.plan.first, .int .i64 x.size, .bool x.torn, .int .i64 x.next, .slice A2 x.records.length c2] ∧ (Lit.int .i64 x.code).wf = true ∧ (Lit.int .i64 x.num).wf = true ∧ Ow w (.s 4 x.plan.parts.length (x.plan.parts.flatMap LogPart.cells)) (.slice A1 x.plan.parts.length c1) f1 ∧ (Lit.int .i64 x.plan.open_).wf = true ∧ (Lit.int .i64 x.plan.first).wf = true ∧ (Lit.int .i64 x.size).wf = true ∧ (Lit.int .i64 x.next).wf = true ∧ Ow w (.s 2 x.records.length (x.records.flatMap LogRecord.cells)) (.slice A2 x.records.length c2) f2 ∧ fp = f1 ++ (f2) := by
  rw [LogState.cells_eq] at h
  match us, OwC.length _ h with
  | [u0, u1, u2, u3, u4, u5, u6, u7, u8], _ =>
    simp only [OwC] at h
    obtain ⟨g0, _, h0, ⟨g1, _, h1, ⟨g2, _, h2, ⟨g3, _, h3, ⟨g4, _, h4, ⟨g5, _, h5, ⟨g6, _, h6, ⟨g7, _, h7, ⟨g8, _, h8, rfl, rfl⟩, rfl⟩, rfl⟩, rfl⟩, rfl⟩, rfl⟩, rfl⟩, rfl⟩, rfl⟩ := h
    simp only [Ow, okAtom] at h0
    obtain ⟨rfl, w0, rfl⟩ := h0
    simp only [Ow, okAtom] at h1
    obtain ⟨rfl, w1, rfl⟩ := h1
    obtain ⟨A1, c1, rfl, _⟩ := h2.slice
    simp only [Ow, okAtom] at h3
    obtain ⟨rfl, w3, rfl⟩ := h3
    simp only [Ow, okAtom] at h4
    obtain ⟨rfl, w4, rfl⟩ := h4
    simp only [Ow, okAtom] at h5
    obtain ⟨rfl, w5, rfl⟩ := h5
    simp only [Ow, okAtom] at h6
    obtain ⟨rfl, _, rfl⟩ := h6
    simp only [Ow, okAtom] at h7
    obtain ⟨rfl, w7, rfl⟩ := h7
    obtain ⟨A2, c2, rfl, _⟩ := h8.slice
    exact ⟨A1, c1, A2, c2, g2, g8, rfl, w0, w1, h2, w3, w4, w5, w7, h8, by simp⟩
theorem OwC.mLogState {w : World} {x : LogState} {v1 v2 : Value} {f1 f2 : List Nat} (w0 : (Lit.int .i64 x.code).wf = true) (w1 : (Lit.int .i64 x.num).wf = true) (h2 : Ow w (.s 4 x.plan.parts.length (x.plan.parts.flatMap LogPart.cells)) v1 f1) (w3 : (Lit.int .i64 x.plan.open_).wf = true) (w4 : (Lit.int .i64 x.plan.first).wf = true) (w5 : (Lit.int .i64 x.size).wf = true) (w7 : (Lit.int .i64 x.next).wf = true) (h8 : Ow w (.s 2 x.records.length (x.records.flatMap LogRecord.cells)) v2 f2) :
    OwC w x.cells [.int .i64 x.code, .int .i64 x.num, v1, .int .i64 x.plan.open_, .int .i64 x.plan.first, .int .i64 x.size, .bool x.torn, .int .i64 x.next, v2] (f1 ++ (f2)) := by
  have h : OwC w x.cells [.int .i64 x.code, .int .i64 x.num, v1, .int .i64 x.plan.open_, .int .i64 x.plan.first, .int .i64 x.size, .bool x.torn, .int .i64 x.next, v2] ([] ++ ([] ++ (f1 ++ ([] ++ ([] ++ ([] ++ ([] ++ ([] ++ (f2 ++ ([])))))))))) := by
    rw [LogState.cells_eq]
    exact ⟨_, _, ⟨rfl, w0, rfl⟩, ⟨_, _, ⟨rfl, w1, rfl⟩, ⟨_, _, h2, ⟨_, _, ⟨rfl, w3, rfl⟩, ⟨_, _, ⟨rfl, w4, rfl⟩, ⟨_, _, ⟨rfl, w5, rfl⟩, ⟨_, _, ⟨rfl, trivial, rfl⟩, ⟨_, _, ⟨rfl, w7, rfl⟩, ⟨_, _, h8, rfl, rfl⟩, rfl⟩, rfl⟩, rfl⟩, rfl⟩, rfl⟩, rfl⟩, rfl⟩, rfl⟩
  simpa using h
end Go.Proofs.YtddjgbhkfdpffaaGreatDoor
set_option linter.unusedVariables false
set_option linter.unusedSimpArgs false
namespace Go.Proofs.YtddjgbhkfdpffaaGreatDoor
open Go.ChangeShapes Go.WideShapes Go.ChangeAt Go.RowKit

def SzLogAct (x : LogAct) : Prop := ∀ (us : List Value) (fp : List Nat) (left : Int) (w : World), OwC w x.cells us fp → Lt fp w.heap.size → 0 ≤ left → left ≤ 1048576 →
  Calls Tryz.prog 15 #[.agg us.toArray, .int .i64 left] w fun e w' => e = .returned (.int .i64 (szr left (x.bulk : Nat))) ∧ Below w.heap.size w w'
set_option maxRecDepth 100000 in
theorem szLogAct_of (x : LogAct) : SzLogAct x := by
  intro us fp left w ho hf h0 h1
  obtain ⟨A1, c1, f1, rfl, w0, w1, w3, w4, o1, rfl⟩ := ho.oLogAct
  have l1 := hf
  have m1 := w1
  unfold maxLen at m1
  have HK := hide (show ((x.bulk : Nat) : Int) = ((x.data.size : Nat) : Int) + ((x.keep.length : Nat) : Int) by have h := x.bulk_eq; omega)
  have hB0 : Below w.heap.size w (w.alloc (.cells #[.int .i64 x.kind, .string x.data, .bool x.cuts, .int .i64 x.after, .int .i64 x.moves, .slice A1 x.keep.length c1] 47)) := (Below.refl _ _).alloc (Nat.le_refl _) _
  have R0 : Row (w.alloc (.cells #[.int .i64 x.kind, .string x.data, .bool x.cuts, .int .i64 x.after, .int .i64 x.moves, .slice A1 x.keep.length c1] 47)) w.heap.size 47 [.int .i64 x.kind, .string x.data, .bool x.cuts, .int .i64 x.after, .int .i64 x.moves, .slice A1 x.keep.length c1] := Row.new w _ _
  clear ho
  go_enter Tryz.func15, Tryz.ntmps15
  by_cases hx0 : ((x.data.size : Nat) : Int) ≤ left
  · skip
    go_wp2_with fail
    refine (szIntS_any _ _ _ _ _ _ _ (o1.below hB0 l1) (by omega) (by omega)).mono ?_
    rintro e w1_ ⟨rfl, hb1⟩
    have hB1 := hB0.trans (hb1.mono hB0.size)
    have R1 := R0.below hb1 R0.lt
    by_cases hx1 : ((x.keep.length : Nat) : Int) ≤ left - ((x.data.size : Nat) : Int)
    · rw [szr_yes hx1]
      go_wp2
      go_ret
      exact ⟨ret_int (by rw [szr_yes (by have := HK.out; omega)]; have := HK.out; omega), hB1⟩
    · rw [szr_no hx1]
      go_wp2
      go_ret
      exact ⟨ret_int (by rw [szr_no (by have := HK.out; omega)]), hB1⟩
  · go_wp2
    go_ret
    exact ⟨ret_int (by rw [szr_no (by have := HK.out; omega)]), hB0⟩
theorem szLogAct_any (x : LogAct) : SzLogAct x := szLogAct_of x

def ToLogAct (x : LogAct) : Prop := ∀ (us : List Value) (fp : List Nat) (w : World), OwC w x.cells us fp → Lt fp w.heap.size → x.bulk ≤ 1048576 →
  Calls Tryz.prog 17 #[.agg us.toArray] w fun e w' => ∃ vs fq, e = .returned (.agg vs.toArray) ∧ OwC w' x.cells vs fq ∧ New w' fq w.heap.size ∧ Below w.heap.size w w'
set_option maxRecDepth 100000 in
set_option maxHeartbeats 400000 in
theorem toLogAct_of (x : LogAct) : ToLogAct x := by
  intro us fp w ho hf hbk
  obtain ⟨A1, c1, f1, rfl, w0, w1, w3, w4, o1, rfl⟩ := ho.oLogAct
  have l1 := hf
  rw [LogAct.bulk_eq] at hbk
  have hB0 : Below w.heap.size w (((w.alloc (.cells #[.int .i64 x.kind, .string x.data, .bool x.cuts, .int .i64 x.after, .int .i64 x.moves, .slice A1 x.keep.length c1] 47)).alloc (.cells #[.int .i64 0, .string .empty, .bool false, .int .i64 0, .int .i64 0, .slice none 0 0] 52)).alloc (.cells #[.int .i64 x.kind, .string x.data, .bool x.cuts, .int .i64 x.after, .int .i64 x.moves, .slice none 0 0] 52)) := (((Below.refl _ _).alloc (Nat.le_refl _) _).alloc (by simp) _).alloc (by simp; omega) _
  have R0 : Row (((w.alloc (.cells #[.int .i64 x.kind, .string x.data, .bool x.cuts, .int .i64 x.after, .int .i64 x.moves, .slice A1 x.keep.length c1] 47)).alloc (.cells #[.int .i64 0, .string .empty, .bool false, .int .i64 0, .int .i64 0, .slice none 0 0] 52)).alloc (.cells #[.int .i64 x.kind, .string x.data, .bool x.cuts, .int .i64 x.after, .int .i64 x.moves, .slice none 0 0] 52)) w.heap.size 47 [.int .i64 x.kind, .string x.data, .bool x.cuts, .int .i64 x.after, .int .i64 x.moves, .slice A1 x.keep.length c1] := ((Row.new w _ _).alloc _).alloc _
  have Z0 : Row (((w.alloc (.cells #[.int .i64 x.kind, .string x.data, .bool x.cuts, .int .i64 x.after, .int .i64 x.moves, .slice A1 x.keep.length c1] 47)).alloc (.cells #[.int .i64 0, .string .empty, .bool false, .int .i64 0, .int .i64 0, .slice none 0 0] 52)).alloc (.cells #[.int .i64 x.kind, .string x.data, .bool x.cuts, .int .i64 x.after, .int .i64 x.moves, .slice none 0 0] 52)) (w.heap.size + 1) 52 [.int .i64 0, .string .empty, .bool false, .int .i64 0, .int .i64 0, .slice none 0 0] := by
    have h := (Row.new (w.alloc (.cells #[.int .i64 x.kind, .string x.data, .bool x.cuts, .int .i64 x.after, .int .i64 x.moves, .slice A1 x.keep.length c1] 47)) 52 [.int .i64 0, .string .empty, .bool false, .int .i64 0, .int .i64 0, .slice none 0 0]).alloc (.cells #[.int .i64 x.kind, .string x.data, .bool x.cuts, .int .i64 x.after, .int .i64 x.moves, .slice none 0 0] 52)
    simpa using h
  have O0 : Row (((w.alloc (.cells #[.int .i64 x.kind, .string x.data, .bool x.cuts, .int .i64 x.after, .int .i64 x.moves, .slice A1 x.keep.length c1] 47)).alloc (.cells #[.int .i64 0, .string .empty, .bool false, .int .i64 0, .int .i64 0, .slice none 0 0] 52)).alloc (.cells #[.int .i64 x.kind, .string x.data, .bool x.cuts, .int .i64 x.after, .int .i64 x.moves, .slice none 0 0] 52)) (w.heap.size + 1 + 1) 52 [.int .i64 x.kind, .string x.data, .bool x.cuts, .int .i64 x.after, .int .i64 x.moves, .slice none 0 0] := by
    have h := Row.new ((w.alloc (.cells #[.int .i64 x.kind, .string x.data, .bool x.cuts, .int .i64 x.after, .int .i64 x.moves, .slice A1 x.keep.length c1] 47)).alloc (.cells #[.int .i64 0, .string .empty, .bool false, .int .i64 0, .int .i64 0, .slice none 0 0] 52)) 52 [.int .i64 x.kind, .string x.data, .bool x.cuts, .int .i64 x.after, .int .i64 x.moves, .slice none 0 0]
    simpa using h
  clear ho
  go_enter Tryz.func17, Tryz.ntmps17
  go_wp2_with fail
  have hX0 := hB0
  refine (toIntS_any _ _ _ _ _ _ (o1.below hX0 l1) (l1.up hX0) (by omega)).mono ?_
  rintro e w1_ ⟨y1, q1, rfl, hy1, N1, hb1⟩
  obtain ⟨D1, e1, rfl, _⟩ := hy1.slice
  have Y1 := hide hy1
  clear hy1
  have N1 := N1.mono (lo' := w.heap.size + 3) (by simp)
  have M1 := N1.lt
  have hB1 := hX0.trans (hb1.mono hX0.size)
  have z1 : w.heap.size + 1 + 1 < w1_.heap.size := Nat.lt_of_lt_of_le O0.lt hb1.size
  have R1 := R0.below hb1 (by exact R0.lt)
  have Z1 := Z0.below hb1 (by exact Z0.lt)
  have O1 : Row w1_ (w.heap.size + 1 + 1) 52 [.int .i64 x.kind, .string x.data, .bool x.cuts, .int .i64 x.after, .int .i64 x.moves, .slice none 0 0] := by
    have h := O0.below hb1 (by exact O0.lt)
    simpa using h
  have u1_5 := O1.cell 5
  have t1_5 := O1.frozen 5
  have u1_0 := O1.cell 0
  have r0 := Z1.cell 0
  have s0 := Z1.frozen 0
  have u1_1 := O1.cell 1
  have r1 := Z1.cell 1
  have s1 := Z1.frozen 1
  have u1_2 := O1.cell 2
  have r2 := Z1.cell 2
  have s2 := Z1.frozen 2
  have u1_3 := O1.cell 3
  have r3 := Z1.cell 3
  have s3 := Z1.frozen 3
  have u1_4 := O1.cell 4
  have r4 := Z1.cell 4
  have s4 := Z1.frozen 4
  have r5 := Z1.cell 5
  have s5 := Z1.frozen 5
  go_wp2
  refine bodyPost_ret (v := .agg #[.int .i64 x.kind, .string x.data, .bool x.cuts, .int .i64 x.after, .int .i64 x.moves, .slice D1 x.keep.length e1]) (by simp [results, Tryz.results17, go_sem, r0, r1, r2, r3, r4, r5, s0, s1, s2, s3, s4, s5]) rfl ?_
  refine ⟨[.int .i64 x.kind, .string x.data, .bool x.cuts, .int .i64 x.after, .int .i64 x.moves, .slice D1 x.keep.length e1], q1, rfl, ?_, ?_, ?_⟩
  · exact OwC.mLogAct w0 w1 w3 w4 (by
      iterate 7 refine Ow.setCell ?_ (fun hm => absurd (N1.fr _ hm).1 (by simp; try omega)) _
      exact Y1.out)
  · have hN := N1
    have hN2 := hN.mono (lo' := w.heap.size) (by omega)
    iterate 7 refine New.setCell ?_ _ _
    simpa [List.append_assoc] using hN2
  · iterate 7 refine Below.setCell ?_ (by simp; try omega) _
    exact hB1
theorem toLogAct_any (x : LogAct) : ToLogAct x := toLogAct_of x

def EqLogAct (x : LogAct) : Prop := ∀ (us vs : List Value) (fp fq : List Nat) (w : World), OwC w x.cells us fp → OwC w x.cells vs fq → Lt fp w.heap.size → Lt fq w.heap.size →
  Calls Tryz.prog 20 #[.agg us.toArray, .agg vs.toArray] w fun e w' => e = .returned (.bool true) ∧ Below w.heap.size w w'
set_option maxRecDepth 100000 in
theorem eqLogAct_of (x : LogAct) : EqLogAct x := by
  intro us vs fp fq w ho ho' hf hf'
  obtain ⟨A1, c1, f1, rfl, w0, w1, w3, w4, o1, rfl⟩ := ho.oLogAct
  obtain ⟨bA1, bc1, bf1, rfl, bw0, bw1, bw3, bw4, bo1, rfl⟩ := ho'.oLogAct
  have l1 := hf
  have k1 := hf'
  have hB0 : Below w.heap.size w ((w.alloc (.cells #[.int .i64 x.kind, .string x.data, .bool x.cuts, .int .i64 x.after, .int .i64 x.moves, .slice A1 x.keep.length c1] 52)).alloc (.cells #[.int .i64 x.kind, .string x.data, .bool x.cuts, .int .i64 x.after, .int .i64 x.moves, .slice bA1 x.keep.length bc1] 52)) := ((Below.refl _ _).alloc (Nat.le_refl _) _).alloc (by simp) _
  have R0 : Row ((w.alloc (.cells #[.int .i64 x.kind, .string x.data, .bool x.cuts, .int .i64 x.after, .int .i64 x.moves, .slice A1 x.keep.length c1] 52)).alloc (.cells #[.int .i64 x.kind, .string x.data, .bool x.cuts, .int .i64 x.after, .int .i64 x.moves, .slice bA1 x.keep.length bc1] 52)) w.heap.size 52 [.int .i64 x.kind, .string x.data, .bool x.cuts, .int .i64 x.after, .int .i64 x.moves, .slice A1 x.keep.length c1] := (Row.new w _ _).alloc _
  have S0 : Row ((w.alloc (.cells #[.int .i64 x.kind, .string x.data, .bool x.cuts, .int .i64 x.after, .int .i64 x.moves, .slice A1 x.keep.length c1] 52)).alloc (.cells #[.int .i64 x.kind, .string x.data, .bool x.cuts, .int .i64 x.after, .int .i64 x.moves, .slice bA1 x.keep.length bc1] 52)) (w.heap.size + 1) 52 [.int .i64 x.kind, .string x.data, .bool x.cuts, .int .i64 x.after, .int .i64 x.moves, .slice bA1 x.keep.length bc1] := by
    have h := Row.new (w.alloc (.cells #[.int .i64 x.kind, .string x.data, .bool x.cuts, .int .i64 x.after, .int .i64 x.moves, .slice A1 x.keep.length c1] 52)) 52 [.int .i64 x.kind, .string x.data, .bool x.cuts, .int .i64 x.after, .int .i64 x.moves, .slice bA1 x.keep.length bc1]
    simpa using h
  clear ho ho'
  go_enter Tryz.func20, Tryz.ntmps20
  go_wp2_with fail
  refine (eqIntS_same _ _ _ _ _ _ _ _ _ _ (o1.below hB0 l1) (bo1.below hB0 k1)).mono ?_
  rintro e w1_ ⟨rfl, hb1⟩
  have hB1 := hB0.trans (hb1.mono hB0.size)
  have R1 := R0.below hb1 R0.lt
  have S1 := S0.below hb1 S0.lt
  go_wp2
  go_ret
  exact ⟨rfl, hB1⟩
theorem eqLogAct_any (x : LogAct) : EqLogAct x := eqLogAct_of x

end Go.Proofs.YtddjgbhkfdpffaaGreatDoor
set_option linter.unusedVariables false
set_option linter.unusedSimpArgs false
namespace Go.Proofs.YtddjgbhkfdpffaaGreatDoor
open Go.ChangeShapes Go.WideShapes Go.ChangeAt Go.RowKit Go.Deep

theorem cellsOf_L_LogAct : Tryz.prog.cellsOf 47 = 6 := by kernel_rfl
instance : Inhabited LogAct := ⟨.mk 0 .empty false 0 0 []⟩
section
variable {H : Type} {enc : TypeId × Value → H} {w : World} {base : Nat} {spare : Nat → Bool} {held : Bool}
set_option maxRecDepth 100000 in
theorem LogAct_read : ∀ (fuel : Nat) {cs : List Value} {x : DataW H × List MemPlace}, DataW.trod enc Tryz.prog w base spare held fuel 47 cs = some x → ∃ (x : LogAct) (fp : List Nat), OwC w x.cells cs fp ∧ Lt fp w.heap.size := by
  intro fuel
  induction fuel using Nat.strongRecOn with
  | _ fuel ih =>
    intro cs x h
    obtain ⟨hl, n, hn, hf⟩ := field_read Tryz.underlying47 h
    rw [cellsOf_L_LogAct] at hl
    match cs, hl with
    | [c0, c1, c2, c3, c4, c5], _ =>
      obtain ⟨y0, h0⟩ := hf 0 3 0 rfl
      rw [cellsOf_int] at h0
      obtain ⟨x0, e0, _, w0⟩ := DataW.trod_int Tryz.underlying3 h0
      obtain ⟨y1, h1⟩ := hf 1 9 1 rfl
      rw [cellsOf_string] at h1
      obtain ⟨x1, e1, _, w1⟩ := DataW.trod_string Tryz.underlying9 h1
      obtain ⟨y2, h2⟩ := hf 2 4 2 rfl
      rw [cellsOf_bool] at h2
      obtain ⟨x2, e2, _⟩ := DataW.trod_bool Tryz.underlying4 h2
      obtain ⟨y3, h3⟩ := hf 3 3 3 rfl
      rw [cellsOf_int] at h3
      obtain ⟨x3, e3, _, w3⟩ := DataW.trod_int Tryz.underlying3 h3
      obtain ⟨y4, h4⟩ := hf 4 3 4 rfl
      rw [cellsOf_int] at h4
      obtain ⟨x4, e4, _, w4⟩ := DataW.trod_int Tryz.underlying3 h4
      obtain ⟨y5, h5⟩ := hf 5 45 5 rfl
      rw [cellsOf_ints] at h5
      obtain ⟨x5, v5, f5, e5, o5, l5⟩ := ints_read h5
      simp only [List.drop_zero, List.drop_succ_cons, List.take_succ_cons, List.take_zero, List.cons.injEq, and_true] at e0 e1 e2 e3 e4 e5
      subst e0
      subst e1
      subst e2
      subst e3
      subst e4
      subst e5
      refine ⟨.mk x0 x1 x2 x3 x4 x5, f5, ?_, l5⟩
      have hm := OwC.mLogAct (w := w) (x := .mk x0 x1 x2 x3 x4 x5) w0 w1 w3 w4 o5
      first | exact hm | simpa using hm | simpa [List.append_assoc] using hm
end
end Go.Proofs.YtddjgbhkfdpffaaGreatDoor
