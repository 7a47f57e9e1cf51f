/-
  LogPlan: what the laws' own helpers do: the size, a copy, equality.
-/
import Derived.Test.YtknlnndocamcmaaDoorDLogPlan
import Derived.Test.YtknlnndocamcmaaDoorHLogPart
set_option linter.unusedVariables false
set_option linter.unusedSimpArgs false
namespace Go.Proofs.YtknlnndocamcmaaDoor
open Go.ChangeShapes Go.WideShapes Go.ChangeAt Go.RowKit



def EqLogPlan (x : LogPlan) : Prop := ∀ (us vs : List Value) (fp fq : List Nat) (w : World), OwC w x.cells us fp → OwC w x.cells vs fq → Lt fp w.heap.size → Lt fq w.heap.size →
  Calls Tryd.prog 8 #[.agg us.toArray, .agg vs.toArray] w fun e w' => e = .returned (.bool true) ∧ Below w.heap.size w w'
set_option maxRecDepth 100000 in
theorem eqLogPlan_of (x : LogPlan) : EqLogPlan x := by
  intro us vs fp fq w ho ho' hf hf'
  obtain ⟨A1, c1, f1, rfl, o1, w1, w2, rfl⟩ := ho.oLogPlan
  obtain ⟨bA1, bc1, bf1, rfl, bo1, bw1, bw2, rfl⟩ := ho'.oLogPlan
  have l1 := hf
  have k1 := hf'
  have hB0 : Below w.heap.size w ((w.alloc (.cells #[.slice A1 x.parts.length c1, .int .i64 x.open_, .int .i64 x.first] 24)).alloc (.cells #[.slice bA1 x.parts.length bc1, .int .i64 x.open_, .int .i64 x.first] 24)) := ((Below.refl _ _).alloc (Nat.le_refl _) _).alloc (by simp) _
  have R0 : Row ((w.alloc (.cells #[.slice A1 x.parts.length c1, .int .i64 x.open_, .int .i64 x.first] 24)).alloc (.cells #[.slice bA1 x.parts.length bc1, .int .i64 x.open_, .int .i64 x.first] 24)) w.heap.size 24 [.slice A1 x.parts.length c1, .int .i64 x.open_, .int .i64 x.first] := (Row.new w _ _).alloc _
  have S0 : Row ((w.alloc (.cells #[.slice A1 x.parts.length c1, .int .i64 x.open_, .int .i64 x.first] 24)).alloc (.cells #[.slice bA1 x.parts.length bc1, .int .i64 x.open_, .int .i64 x.first] 24)) (w.heap.size + 1) 24 [.slice bA1 x.parts.length bc1, .int .i64 x.open_, .int .i64 x.first] := by
    have h := Row.new (w.alloc (.cells #[.slice A1 x.parts.length c1, .int .i64 x.open_, .int .i64 x.first] 24)) 24 [.slice bA1 x.parts.length bc1, .int .i64 x.open_, .int .i64 x.first]
    simpa using h
  clear ho ho'
  go_enter Tryd.func8, Tryd.ntmps8
  go_wp2_with fail
  refine (eqLogPartS_any _ _ _ _ _ _ _ _ _ _ (o1.below hB0 l1) (bo1.below hB0 k1) (l1.up hB0) (k1.up hB0)).mono ?_
  rintro e w1_ ⟨rfl, hb1⟩
  have hB1 := hB0.trans (hb1.mono hB0.size)
  have R1 := R0.below hb1 R0.lt
  have S1 := S0.below hb1 S0.lt
  have c1_1 := R1.cell 1
  have d1_1 := S1.cell 1
  have c1_2 := R1.cell 2
  have d1_2 := S1.cell 2
  go_wp2
  go_ret
  exact ⟨rfl, hB1⟩
theorem eqLogPlan_any (x : LogPlan) : EqLogPlan x := eqLogPlan_of x

end Go.Proofs.YtknlnndocamcmaaDoor
