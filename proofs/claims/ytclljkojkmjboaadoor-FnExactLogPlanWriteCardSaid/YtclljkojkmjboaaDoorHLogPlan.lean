/-
  LogPlan: what the laws' own helpers do: the size, a copy, equality.
-/
import Derived.Test.YtclljkojkmjboaaDoorDLogPlan
import Derived.Test.YtclljkojkmjboaaDoorHLogPart
set_option linter.unusedVariables false
set_option linter.unusedSimpArgs false
namespace Go.Proofs.YtclljkojkmjboaaDoor
open Go.ChangeShapes Go.WideShapes Go.ChangeAt Go.RowKit

def SzLogPlan (x : LogPlan) : Prop := ∀ (us : List Value) (fp : List Nat) (left : Int) (w : World), OwC w x.cells us fp → Lt fp w.heap.size → 0 ≤ left → left ≤ 1048576 →
  Calls Tryd.prog 6 #[.agg us.toArray, .int .i64 left] w fun e w' => e = .returned (.int .i64 (szr left (x.bulk : Nat))) ∧ Below w.heap.size w w'
set_option maxRecDepth 100000 in
theorem szLogPlan_of (x : LogPlan) : SzLogPlan x := by
  intro us fp left w ho hf h0 h1
  obtain ⟨A1, c1, f1, rfl, o1, w1, w2, rfl⟩ := ho.oLogPlan
  have l1 := hf
  have HK := hide (show ((x.bulk : Nat) : Int) = ((LogPart.bulkL x.parts : Nat) : Int) by have h := x.bulk_eq; omega)
  have hB0 : Below w.heap.size w (w.alloc (.cells #[.slice A1 x.parts.length c1, .int .i64 x.open_, .int .i64 x.first] 24)) := (Below.refl _ _).alloc (Nat.le_refl _) _
  have R0 : Row (w.alloc (.cells #[.slice A1 x.parts.length c1, .int .i64 x.open_, .int .i64 x.first] 24)) w.heap.size 24 [.slice A1 x.parts.length c1, .int .i64 x.open_, .int .i64 x.first] := Row.new w _ _
  clear ho
  go_enter Tryd.func6, Tryd.ntmps6
  go_wp2_with fail
  refine (szLogPartS_any _ _ _ _ _ _ _ (o1.below hB0 l1) (l1.up hB0) (by omega) (by omega)).mono ?_
  rintro e w1_ ⟨rfl, hb1⟩
  have hB1 := hB0.trans (hb1.mono hB0.size)
  have R1 := R0.below hb1 R0.lt
  by_cases hx0 : ((LogPart.bulkL x.parts : Nat) : Int) ≤ left
  · rw [szr_yes hx0]
    go_wp2
    go_ret
    exact ⟨ret_int (by rw [szr_yes (by have := HK.out; omega)]; have := HK.out; omega), hB1⟩
  · rw [szr_no hx0]
    go_wp2
    go_ret
    exact ⟨ret_int (by rw [szr_no (by have := HK.out; omega)]), hB1⟩
theorem szLogPlan_any (x : LogPlan) : SzLogPlan x := szLogPlan_of x

theorem info_LogPlan : (Tryd.prog.info? 29).map (fun i => (i.zero, i.size, i.bytes)) = some (some (.agg #[.slice none 0 0, .int .i64 0, .int .i64 0]), 3, 40) := by kernel_rfl
def ToLogPlan (x : LogPlan) : Prop := ∀ (us : List Value) (fp : List Nat) (w : World), OwC w x.cells us fp → Lt fp w.heap.size → x.bulk ≤ 1048576 →
  Calls Tryd.prog 8 #[.agg us.toArray] w fun e w' => ∃ vs fq, e = .returned (.agg vs.toArray) ∧ OwC w' x.cells vs fq ∧ New w' fq w.heap.size ∧ Below w.heap.size w w'
set_option maxRecDepth 100000 in
set_option maxHeartbeats 400000 in
theorem toLogPlan_of (x : LogPlan) : ToLogPlan x := by
  intro us fp w ho hf hbk
  obtain ⟨A1, c1, f1, rfl, o1, w1, w2, rfl⟩ := ho.oLogPlan
  have l1 := hf
  rw [LogPlan.bulk_eq] at hbk
  have hB0 : Below w.heap.size w (((w.alloc (.cells #[.slice A1 x.parts.length c1, .int .i64 x.open_, .int .i64 x.first] 24)).alloc (.cells #[.slice none 0 0, .int .i64 0, .int .i64 0] 29)).alloc (.cells #[.slice none 0 0, .int .i64 0, .int .i64 0] 29)) := (((Below.refl _ _).alloc (Nat.le_refl _) _).alloc (by simp) _).alloc (by simp; omega) _
  have R0 : Row (((w.alloc (.cells #[.slice A1 x.parts.length c1, .int .i64 x.open_, .int .i64 x.first] 24)).alloc (.cells #[.slice none 0 0, .int .i64 0, .int .i64 0] 29)).alloc (.cells #[.slice none 0 0, .int .i64 0, .int .i64 0] 29)) w.heap.size 24 [.slice A1 x.parts.length c1, .int .i64 x.open_, .int .i64 x.first] := ((Row.new w _ _).alloc _).alloc _
  have Z0 : Row (((w.alloc (.cells #[.slice A1 x.parts.length c1, .int .i64 x.open_, .int .i64 x.first] 24)).alloc (.cells #[.slice none 0 0, .int .i64 0, .int .i64 0] 29)).alloc (.cells #[.slice none 0 0, .int .i64 0, .int .i64 0] 29)) (w.heap.size + 1) 29 [.slice none 0 0, .int .i64 0, .int .i64 0] := by
    have h := (Row.new (w.alloc (.cells #[.slice A1 x.parts.length c1, .int .i64 x.open_, .int .i64 x.first] 24)) 29 [.slice none 0 0, .int .i64 0, .int .i64 0]).alloc (.cells #[.slice none 0 0, .int .i64 0, .int .i64 0] 29)
    simpa using h
  have O0 : Row (((w.alloc (.cells #[.slice A1 x.parts.length c1, .int .i64 x.open_, .int .i64 x.first] 24)).alloc (.cells #[.slice none 0 0, .int .i64 0, .int .i64 0] 29)).alloc (.cells #[.slice none 0 0, .int .i64 0, .int .i64 0] 29)) (w.heap.size + 1 + 1) 29 [.slice none 0 0, .int .i64 0, .int .i64 0] := by
    have h := Row.new ((w.alloc (.cells #[.slice A1 x.parts.length c1, .int .i64 x.open_, .int .i64 x.first] 24)).alloc (.cells #[.slice none 0 0, .int .i64 0, .int .i64 0] 29)) 29 [.slice none 0 0, .int .i64 0, .int .i64 0]
    simpa using h
  clear ho
  go_enter Tryd.func8, Tryd.ntmps8
  go_wp2_with fail
  have hX0 := hB0
  refine (toLogPartS_any _ _ _ _ _ _ (o1.below hX0 l1) (l1.up hX0) (by omega)).mono ?_
  rintro e w1_ ⟨y1, q1, rfl, hy1, N1, hb1⟩
  obtain ⟨D1, e1, rfl, _⟩ := hy1.slice
  have Y1 := hide hy1
  clear hy1
  have N1 := N1.mono (lo' := w.heap.size + 3) (by simp)
  have M1 := N1.lt
  have hB1 := hX0.trans (hb1.mono hX0.size)
  have z1 : w.heap.size + 1 + 1 < w1_.heap.size := Nat.lt_of_lt_of_le O0.lt hb1.size
  have R1 := R0.below hb1 (by exact R0.lt)
  have Z1 := Z0.below hb1 (by exact Z0.lt)
  have O1 : Row w1_ (w.heap.size + 1 + 1) 29 [.slice none 0 0, .int .i64 0, .int .i64 0] := by
    have h := O0.below hb1 (by exact O0.lt)
    simpa using h
  have c1_1 := R1.cell 1
  have c1_2 := R1.cell 2
  have u1_0 := O1.cell 0
  have t1_0 := O1.frozen 0
  have u1_1 := O1.cell 1
  have t1_1 := O1.frozen 1
  have u1_2 := O1.cell 2
  have t1_2 := O1.frozen 2
  have r0 := Z1.cell 0
  have s0 := Z1.frozen 0
  have r1 := Z1.cell 1
  have s1 := Z1.frozen 1
  have r2 := Z1.cell 2
  have s2 := Z1.frozen 2
  go_wp2
  refine bodyPost_ret (v := .agg #[.slice D1 x.parts.length e1, .int .i64 x.open_, .int .i64 x.first]) (by simp [results, Tryd.results8, go_sem, r0, r1, r2, s0, s1, s2]) rfl ?_
  refine ⟨[.slice D1 x.parts.length e1, .int .i64 x.open_, .int .i64 x.first], q1, rfl, ?_, ?_, ?_⟩
  · exact OwC.mLogPlan (by
      iterate 6 refine Ow.setCell ?_ (fun hm => absurd (N1.fr _ hm).1 (by simp; try omega)) _
      exact Y1.out) w1 w2
  · have hN := N1
    have hN2 := hN.mono (lo' := w.heap.size) (by omega)
    iterate 6 refine New.setCell ?_ _ _
    simpa [List.append_assoc] using hN2
  · iterate 6 refine Below.setCell ?_ (by simp; try omega) _
    exact hB1
theorem toLogPlan_any (x : LogPlan) : ToLogPlan x := toLogPlan_of x

def EqLogPlan (x : LogPlan) : Prop := ∀ (us vs : List Value) (fp fq : List Nat) (w : World), OwC w x.cells us fp → OwC w x.cells vs fq → Lt fp w.heap.size → Lt fq w.heap.size →
  Calls Tryd.prog 10 #[.agg us.toArray, .agg vs.toArray] w fun e w' => e = .returned (.bool true) ∧ Below w.heap.size w w'
set_option maxRecDepth 100000 in
theorem eqLogPlan_of (x : LogPlan) : EqLogPlan x := by
  intro us vs fp fq w ho ho' hf hf'
  obtain ⟨A1, c1, f1, rfl, o1, w1, w2, rfl⟩ := ho.oLogPlan
  obtain ⟨bA1, bc1, bf1, rfl, bo1, bw1, bw2, rfl⟩ := ho'.oLogPlan
  have l1 := hf
  have k1 := hf'
  have hB0 : Below w.heap.size w ((w.alloc (.cells #[.slice A1 x.parts.length c1, .int .i64 x.open_, .int .i64 x.first] 29)).alloc (.cells #[.slice bA1 x.parts.length bc1, .int .i64 x.open_, .int .i64 x.first] 29)) := ((Below.refl _ _).alloc (Nat.le_refl _) _).alloc (by simp) _
  have R0 : Row ((w.alloc (.cells #[.slice A1 x.parts.length c1, .int .i64 x.open_, .int .i64 x.first] 29)).alloc (.cells #[.slice bA1 x.parts.length bc1, .int .i64 x.open_, .int .i64 x.first] 29)) w.heap.size 29 [.slice A1 x.parts.length c1, .int .i64 x.open_, .int .i64 x.first] := (Row.new w _ _).alloc _
  have S0 : Row ((w.alloc (.cells #[.slice A1 x.parts.length c1, .int .i64 x.open_, .int .i64 x.first] 29)).alloc (.cells #[.slice bA1 x.parts.length bc1, .int .i64 x.open_, .int .i64 x.first] 29)) (w.heap.size + 1) 29 [.slice bA1 x.parts.length bc1, .int .i64 x.open_, .int .i64 x.first] := by
    have h := Row.new (w.alloc (.cells #[.slice A1 x.parts.length c1, .int .i64 x.open_, .int .i64 x.first] 29)) 29 [.slice bA1 x.parts.length bc1, .int .i64 x.open_, .int .i64 x.first]
    simpa using h
  clear ho ho'
  go_enter Tryd.func10, Tryd.ntmps10
  go_wp2_with fail
  refine (eqLogPartS_any _ _ _ _ _ _ _ _ _ _ (o1.below hB0 l1) (bo1.below hB0 k1) (l1.up hB0) (k1.up hB0)).mono ?_
  rintro e w1_ ⟨rfl, hb1⟩
  have hB1 := hB0.trans (hb1.mono hB0.size)
  have R1 := R0.below hb1 R0.lt
  have S1 := S0.below hb1 S0.lt
  have c1_1 := R1.cell 1
  have d1_1 := S1.cell 1
  have c1_2 := R1.cell 2
  have d1_2 := S1.cell 2
  go_wp2
  go_ret
  exact ⟨rfl, hB1⟩
theorem eqLogPlan_any (x : LogPlan) : EqLogPlan x := eqLogPlan_of x

end Go.Proofs.YtclljkojkmjboaaDoor
