/-
  The walk of FnExactLogFrame: it returns true.
-/
import Derived.Test.YtnjbmmjfpbcpaaaLog
set_option linter.unusedVariables false
set_option linter.unusedSimpArgs false
namespace Go.Proofs.Ytnjbmmjfpbcpaaa
open Go.ChangeShapes Go.WideShapes Go.ChangeAt Go.RowKit

set_option maxRecDepth 100000 in
theorem lawFnExactLogFrame_any (w : World) (x0 : LogRecord) (us0 : List Value) (fp0 : List Nat) (ho0 : OwC w x0.cells us0 fp0) (hl0 : Lt fp0 w.heap.size) :
    Calls Try.prog 4 #[.agg us0.toArray] w fun e w' => e = .returned (.bool true) ∧ Below w.heap.size w w' := by
  have HO := hide ho0
  obtain ⟨rfl, w0, w1, rfl⟩ := ho0.oLogRecord
  clear ho0
  have hw0 : Below w.heap.size w (w.alloc (.cells #[.int .i64 x0.pos, .string x0.data] 24)) := (Below.refl _ _).alloc (Nat.le_refl _) _
  have R0 : Row (w.alloc (.cells #[.int .i64 x0.pos, .string x0.data] 24)) w.heap.size 24 [.int .i64 x0.pos, .string x0.data] := Row.new w _ _
  go_enter Try.func4, Try.ntmps4
  go_wp2_with fail
  refine (szLogRecord_any x0 _ _ _ _ (HO.out.below hw0 (Lt.nil _)) (Lt.nil _) (by omega) (by omega)).mono ?_
  rintro e u1 ⟨rfl, hb1⟩
  have hB1 := hw0.trans (hb1.mono hw0.size)
  have R1 := R0.below hb1 R0.lt
  have c0 := R1.cell 0
  have c1 := R1.cell 1
  by_cases hbk : ((x0.bulk : Nat) : Int) ≤ 1048576
  · rw [szr_yes hbk]
    go_wp2_with fail
    refine (toLogRecord_any x0 _ _ _ (HO.out.below hB1 (Lt.nil _)) (Lt.nil _) (by omega)).mono ?_
    rintro e u2 ⟨vs2, q2, rfl, x2, N2, hb2⟩
    obtain ⟨rfl, _, _, rfl⟩ := x2.oLogRecord
    have hB2 := hB1.trans (hb2.mono hB1.size)
    have R2 := R1.below hb2 R1.lt
    go_wp2_with fail
    refine (specLogFrame_any _ _ _ w1).mono ?_
    rintro e u3 ⟨rfl, hb3⟩
    have hB3 := hB2.trans (hb3.mono hB2.size)
    have R3 := R2.below hb3 R2.lt
    have d0 := R3.cell 0
    have d1 := R3.cell 1
    go_wp2_with fail
    refine (toLogRecord_any x0 _ _ _ (HO.out.below hB3 (Lt.nil _)) (Lt.nil _) (by omega)).mono ?_
    rintro e u4 ⟨vs4, q4, rfl, x4, N4, hb4⟩
    obtain ⟨rfl, _, _, rfl⟩ := x4.oLogRecord
    have hB4 := hB3.trans (hb4.mono hB3.size)
    go_wp2_with fail
    refine (implLogFrame_any _ _ _ w1).mono ?_
    rintro e u5 ⟨rfl, hb5⟩
    have hB5 := hB4.trans (hb5.mono hB4.size)
    go_wp2
    go_ret
    exact ⟨rfl, hB5⟩
  · rw [szr_no hbk]
    go_wp2
    go_ret
    exact ⟨rfl, hB1⟩
end Go.Proofs.Ytnjbmmjfpbcpaaa
