/-
  When the plan of a log is ok: plain definitions. LogState: what the laws' own helpers do: the size, a copy, equality. Records' bytes: the program's LogFrame and the reference's answer alike.
-/
import Derived.Test.YtddjgbhkfdpffaaGreatDoorORead
import Derived.Test.YtddjgbhkfdpffaaGreatDoorOHLogRecord
import Derived.Test.YtddjgbhkfdpffaaGreatDoorOHLogPlan
import Derived.Test.YtddjgbhkfdpffaaGreatDoorORDisk
set_option linter.unusedVariables false
set_option linter.unusedSimpArgs false
namespace Go.Proofs.YtddjgbhkfdpffaaGreatDoor
open Go.ChangeShapes Go.WideShapes Go.ChangeAt Go.RowKit

/-- the position that follows the first i parts -/
def LogPlan.after (p : LogPlan) (i : Nat) : Int := if i = 0 then 1 else ((p.parts[i - 1]?).map LogPart.next).getD 1
theorem LogPlan.after_zero (p : LogPlan) : p.after 0 = 1 := rfl
theorem LogPlan.after_succ (p : LogPlan) (i : Nat) (h : i < p.parts.length) : p.after (i + 1) = p.parts[i].next := by
  unfold LogPlan.after
  simp [List.getElem?_eq_getElem h]
def LogPlan.fine (p : LogPlan) (i : Nat) (h : i < p.parts.length) : Prop :=
  (1 ≤ p.parts[i].num ∧ p.parts[i].num ≤ 999999) ∧ p.parts[i].num ≠ p.open_ ∧ p.parts[i].first = p.after i ∧ (p.parts[i].first ≤ p.parts[i].next ∧ p.parts[i].next ≤ 1000000) ∧
    (0 ≤ p.parts[i].size ∧ p.parts[i].size ≤ 20000) ∧ ∀ j (hj : j < i), (p.parts[j]'(by omega)).num ≠ p.parts[i].num
theorem LogPlan.fine_iff (p : LogPlan) (i : Nat) (h : i < p.parts.length) : p.fine i h ↔
  (1 ≤ p.parts[i].num ∧ p.parts[i].num ≤ 999999) ∧ p.parts[i].num ≠ p.open_ ∧ p.parts[i].first = p.after i ∧ (p.parts[i].first ≤ p.parts[i].next ∧ p.parts[i].next ≤ 1000000) ∧
    (0 ≤ p.parts[i].size ∧ p.parts[i].size ≤ 20000) ∧ ∀ j (hj : j < i), (p.parts[j]'(by omega)).num ≠ p.parts[i].num := Iff.rfl
def LogPlan.ok (p : LogPlan) : Prop := p.parts.length ≤ 40 ∧ (1 ≤ p.open_ ∧ p.open_ ≤ 999999) ∧ (∀ i (h : i < p.parts.length), p.fine i h) ∧ p.first = p.after p.parts.length
theorem LogPlan.fine_step (p : LogPlan) (k : Nat) (hk : k < p.parts.length) (ha : ∀ j (h : j < p.parts.length), j < k → p.fine j h) (hn : p.fine k hk) : ∀ j (h : j < p.parts.length), j < k + 1 → p.fine j h := fun j h hj => by
  by_cases e : j < k
  · exact ha j h e
  · obtain rfl : j = k := by omega
    exact hn
end Go.Proofs.YtddjgbhkfdpffaaGreatDoor
set_option linter.unusedVariables false
set_option linter.unusedSimpArgs false
namespace Go.Proofs.YtddjgbhkfdpffaaGreatDoor
open Go.ChangeShapes Go.WideShapes Go.ChangeAt Go.RowKit



def EqLogState (x : LogState) : Prop := ∀ (us vs : List Value) (fp fq : List Nat) (w : World), OwC w x.cells us fp → OwC w x.cells vs fq → Lt fp w.heap.size → Lt fq w.heap.size →
  Calls Tryz.prog 10 #[.agg us.toArray, .agg vs.toArray] w fun e w' => e = .returned (.bool true) ∧ Below w.heap.size w w'
set_option maxRecDepth 100000 in
theorem eqLogState_of (x : LogState) : EqLogState x := by
  intro us vs fp fq w ho ho' hf hf'
  obtain ⟨A1, c1, A2, c2, f1, f2, rfl, w0, w1, o1, w3, w4, w5, w7, o2, rfl⟩ := ho.oLogState
  obtain ⟨bA1, bc1, bA2, bc2, bf1, bf2, rfl, bw0, bw1, bo1, bw3, bw4, bw5, bw7, bo2, rfl⟩ := ho'.oLogState
  have l1 := hf.left
  have l2 := hf.right
  have k1 := hf'.left
  have k2 := hf'.right
  have hB0 : Below w.heap.size w ((w.alloc (.cells #[.int .i64 x.code, .int .i64 x.num, .slice A1 x.plan.parts.length c1, .int .i64 x.plan.open_, .int .i64 x.plan.first, .int .i64 x.size, .bool x.torn, .int .i64 x.next, .slice A2 x.records.length c2] 33)).alloc (.cells #[.int .i64 x.code, .int .i64 x.num, .slice bA1 x.plan.parts.length bc1, .int .i64 x.plan.open_, .int .i64 x.plan.first, .int .i64 x.size, .bool x.torn, .int .i64 x.next, .slice bA2 x.records.length bc2] 33)) := ((Below.refl _ _).alloc (Nat.le_refl _) _).alloc (by simp) _
  have R0 : Row ((w.alloc (.cells #[.int .i64 x.code, .int .i64 x.num, .slice A1 x.plan.parts.length c1, .int .i64 x.plan.open_, .int .i64 x.plan.first, .int .i64 x.size, .bool x.torn, .int .i64 x.next, .slice A2 x.records.length c2] 33)).alloc (.cells #[.int .i64 x.code, .int .i64 x.num, .slice bA1 x.plan.parts.length bc1, .int .i64 x.plan.open_, .int .i64 x.plan.first, .int .i64 x.size, .bool x.torn, .int .i64 x.next, .slice bA2 x.records.length bc2] 33)) w.heap.size 33 [.int .i64 x.code, .int .i64 x.num, .slice A1 x.plan.parts.length c1, .int .i64 x.plan.open_, .int .i64 x.plan.first, .int .i64 x.size, .bool x.torn, .int .i64 x.next, .slice A2 x.records.length c2] := (Row.new w _ _).alloc _
  have S0 : Row ((w.alloc (.cells #[.int .i64 x.code, .int .i64 x.num, .slice A1 x.plan.parts.length c1, .int .i64 x.plan.open_, .int .i64 x.plan.first, .int .i64 x.size, .bool x.torn, .int .i64 x.next, .slice A2 x.records.length c2] 33)).alloc (.cells #[.int .i64 x.code, .int .i64 x.num, .slice bA1 x.plan.parts.length bc1, .int .i64 x.plan.open_, .int .i64 x.plan.first, .int .i64 x.size, .bool x.torn, .int .i64 x.next, .slice bA2 x.records.length bc2] 33)) (w.heap.size + 1) 33 [.int .i64 x.code, .int .i64 x.num, .slice bA1 x.plan.parts.length bc1, .int .i64 x.plan.open_, .int .i64 x.plan.first, .int .i64 x.size, .bool x.torn, .int .i64 x.next, .slice bA2 x.records.length bc2] := by
    have h := Row.new (w.alloc (.cells #[.int .i64 x.code, .int .i64 x.num, .slice A1 x.plan.parts.length c1, .int .i64 x.plan.open_, .int .i64 x.plan.first, .int .i64 x.size, .bool x.torn, .int .i64 x.next, .slice A2 x.records.length c2] 33)) 33 [.int .i64 x.code, .int .i64 x.num, .slice bA1 x.plan.parts.length bc1, .int .i64 x.plan.open_, .int .i64 x.plan.first, .int .i64 x.size, .bool x.torn, .int .i64 x.next, .slice bA2 x.records.length bc2]
    simpa using h
  clear ho ho'
  go_enter Tryz.func10, Tryz.ntmps10
  go_wp2_with fail
  refine (eqLogPlan_any _ _ _ _ _ _ (OwC.mLogPlan (o1.below hB0 l1) w3 w4) (OwC.mLogPlan (bo1.below hB0 k1) w3 w4) (l1.up hB0) (k1.up hB0)).mono ?_
  rintro e w1_ ⟨rfl, hb1⟩
  have hB1 := hB0.trans (hb1.mono hB0.size)
  have R1 := R0.below hb1 R0.lt
  have S1 := S0.below hb1 S0.lt
  have c1_5 := R1.cell 5
  have d1_5 := S1.cell 5
  have c1_6 := R1.cell 6
  have d1_6 := S1.cell 6
  have c1_7 := R1.cell 7
  have d1_7 := S1.cell 7
  have c1_8 := R1.cell 8
  have d1_8 := S1.cell 8
  go_wp2_with fail
  refine (eqLogRecordS_any _ _ _ _ _ _ _ _ _ _ (o2.below hB1 l2) (bo2.below hB1 k2) (l2.up hB1) (k2.up hB1)).mono ?_
  rintro e w2_ ⟨rfl, hb2⟩
  have hB2 := hB1.trans (hb2.mono hB1.size)
  have R2 := R1.below hb2 R1.lt
  have S2 := S1.below hb2 S1.lt
  go_wp2
  go_ret
  exact ⟨rfl, hB2⟩
theorem eqLogState_any (x : LogState) : EqLogState x := eqLogState_of x

end Go.Proofs.YtddjgbhkfdpffaaGreatDoor
set_option linter.unusedVariables false
set_option linter.unusedSimpArgs false
namespace Go.Proofs.YtddjgbhkfdpffaaGreatDoor
open Go.ChangeShapes Go.WideShapes Go.ChangeAt Go.RowKit

def LogRecord.ok (r : LogRecord) : Prop := 1 ≤ r.pos ∧ r.pos ≤ 999999 ∧ r.data.size ≤ 2000
def LogRecord.bytes (r : LogRecord) : ByteArray := strOfNums [(r.data.size : Int) / 256, (r.data.size : Int) % 256, r.pos / 65536, r.pos / 256 % 256, r.pos % 256] ++ r.data
noncomputable def LogRecord.frame (r : LogRecord) : ByteArray := if tb r.ok = true then r.bytes else .empty

set_option maxRecDepth 100000 in
theorem implFrameOk_any (p : Int) (d : ByteArray) (w : World) (hs : d.size ≤ maxLen) :
    Calls Tryz.prog 132 #[.agg #[.int .i64 p, .string d]] w fun e w' => e = .returned (.bool (tb (LogRecord.mk p d).ok)) ∧ Below w.heap.size w w' := by
  unfold maxLen at hs
  by_cases hp : 1 ≤ p ∧ p ≤ 999999
  · by_cases hd : (d.size : Int) ≤ 2000
    · have HT := hide (tb_true (p := (LogRecord.mk p d).ok) ⟨hp.1, hp.2, by show d.size ≤ 2000; omega⟩)
      go_enter Tryz.func132, Tryz.ntmps132
      go_wp2_with fail
      refine (inRange_any _ _ _ _).mono ?_
      rintro e w' ⟨rfl, rfl⟩
      rw [tb_true hp]
      go_wp2
      go_ret
      exact ⟨ret_bool HT.out.symm, (Below.refl _ _).alloc (Nat.le_refl _) _⟩
    · have HT := hide (tb_false (p := (LogRecord.mk p d).ok) (fun h => hd (by have := h.2.2; change d.size ≤ 2000 at this; omega)))
      go_enter Tryz.func132, Tryz.ntmps132
      go_wp2_with fail
      refine (inRange_any _ _ _ _).mono ?_
      rintro e w' ⟨rfl, rfl⟩
      rw [tb_true hp]
      go_wp2
      go_ret
      exact ⟨ret_bool (by rw [HT.out]; simp; omega), (Below.refl _ _).alloc (Nat.le_refl _) _⟩
  · have HT := hide (tb_false (p := (LogRecord.mk p d).ok) (fun h => hp ⟨h.1, h.2.1⟩))
    go_enter Tryz.func132, Tryz.ntmps132
    go_wp2_with fail
    refine (inRange_any _ _ _ _).mono ?_
    rintro e w' ⟨rfl, rfl⟩
    rw [tb_false hp]
    go_wp2
    go_ret
    exact ⟨ret_bool HT.out.symm, (Below.refl _ _).alloc (Nat.le_refl _) _⟩
end Go.Proofs.YtddjgbhkfdpffaaGreatDoor
