/-
  CrewTold: what the laws' own helpers do: the size, a copy, equality.
-/
import Derived.Test.YtdingkbggjehoaaDCrewTold
import Derived.Test.YtdingkbggjehoaaHCrewDead
set_option linter.unusedVariables false
set_option linter.unusedSimpArgs false
namespace Go.Proofs.Ytdingkbggjehoaa
open Go.ChangeShapes Go.WideShapes Go.ChangeAt Go.RowKit



def EqCrewTold (x : CrewTold) : Prop := ∀ (us vs : List Value) (fp fq : List Nat) (w : World), OwC w x.cells us fp → OwC w x.cells vs fq → Lt fp w.heap.size → Lt fq w.heap.size →
  Calls Try.prog 40 #[.agg us.toArray, .agg vs.toArray] w fun e w' => e = .returned (.bool true) ∧ Below w.heap.size w w'
set_option maxRecDepth 100000 in
theorem eqCrewTold_of (x : CrewTold) : EqCrewTold x := by
  intro us vs fp fq w ho ho' hf hf'
  obtain ⟨A1, c1, A2, c2, f1, f2, rfl, o1, o2, w3, w4, w5, rfl⟩ := ho.oCrewTold
  obtain ⟨bA1, bc1, bA2, bc2, bf1, bf2, rfl, bo1, bo2, bw3, bw4, bw5, rfl⟩ := ho'.oCrewTold
  have l1 := hf.left
  have l2 := hf.right
  have k1 := hf'.left
  have k2 := hf'.right
  have hB0 : Below w.heap.size w ((w.alloc (.cells #[.bool x.ok, .slice A1 x.items.length c1, .slice A2 x.dead.length c2, .int .i64 x.jobs, .int .i64 x.steps, .int .i64 x.ops] 60)).alloc (.cells #[.bool x.ok, .slice bA1 x.items.length bc1, .slice bA2 x.dead.length bc2, .int .i64 x.jobs, .int .i64 x.steps, .int .i64 x.ops] 60)) := ((Below.refl _ _).alloc (Nat.le_refl _) _).alloc (by simp) _
  have R0 : Row ((w.alloc (.cells #[.bool x.ok, .slice A1 x.items.length c1, .slice A2 x.dead.length c2, .int .i64 x.jobs, .int .i64 x.steps, .int .i64 x.ops] 60)).alloc (.cells #[.bool x.ok, .slice bA1 x.items.length bc1, .slice bA2 x.dead.length bc2, .int .i64 x.jobs, .int .i64 x.steps, .int .i64 x.ops] 60)) w.heap.size 60 [.bool x.ok, .slice A1 x.items.length c1, .slice A2 x.dead.length c2, .int .i64 x.jobs, .int .i64 x.steps, .int .i64 x.ops] := (Row.new w _ _).alloc _
  have S0 : Row ((w.alloc (.cells #[.bool x.ok, .slice A1 x.items.length c1, .slice A2 x.dead.length c2, .int .i64 x.jobs, .int .i64 x.steps, .int .i64 x.ops] 60)).alloc (.cells #[.bool x.ok, .slice bA1 x.items.length bc1, .slice bA2 x.dead.length bc2, .int .i64 x.jobs, .int .i64 x.steps, .int .i64 x.ops] 60)) (w.heap.size + 1) 60 [.bool x.ok, .slice bA1 x.items.length bc1, .slice bA2 x.dead.length bc2, .int .i64 x.jobs, .int .i64 x.steps, .int .i64 x.ops] := by
    have h := Row.new (w.alloc (.cells #[.bool x.ok, .slice A1 x.items.length c1, .slice A2 x.dead.length c2, .int .i64 x.jobs, .int .i64 x.steps, .int .i64 x.ops] 60)) 60 [.bool x.ok, .slice bA1 x.items.length bc1, .slice bA2 x.dead.length bc2, .int .i64 x.jobs, .int .i64 x.steps, .int .i64 x.ops]
    simpa using h
  clear ho ho'
  go_enter Try.func40, Try.ntmps40
  go_wp2_with fail
  refine (eqIntS_same _ _ _ _ _ _ _ _ _ _ (o1.below hB0 l1) (bo1.below hB0 k1)).mono ?_
  rintro e w1_ ⟨rfl, hb1⟩
  have hB1 := hB0.trans (hb1.mono hB0.size)
  have R1 := R0.below hb1 R0.lt
  have S1 := S0.below hb1 S0.lt
  have c1_2 := R1.cell 2
  have d1_2 := S1.cell 2
  go_wp2_with fail
  refine (eqCrewDeadS_any _ _ _ _ _ _ _ _ _ _ (o2.below hB1 l2) (bo2.below hB1 k2) (l2.up hB1) (k2.up hB1)).mono ?_
  rintro e w2_ ⟨rfl, hb2⟩
  have hB2 := hB1.trans (hb2.mono hB1.size)
  have R2 := R1.below hb2 R1.lt
  have S2 := S1.below hb2 S1.lt
  have c2_3 := R2.cell 3
  have d2_3 := S2.cell 3
  have c2_4 := R2.cell 4
  have d2_4 := S2.cell 4
  have c2_5 := R2.cell 5
  have d2_5 := S2.cell 5
  go_wp2
  go_ret
  exact ⟨rfl, hB2⟩
theorem eqCrewTold_any (x : CrewTold) : EqCrewTold x := eqCrewTold_of x

end Go.Proofs.Ytdingkbggjehoaa
