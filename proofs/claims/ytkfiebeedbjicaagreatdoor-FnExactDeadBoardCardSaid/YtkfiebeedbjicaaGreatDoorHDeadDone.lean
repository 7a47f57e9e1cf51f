/-
  DeadDone: what the laws' own helpers do: the size, a copy, equality.
-/
import Derived.Test.YtkfiebeedbjicaaGreatDoorDDeadDone
import Derived.Test.YtkfiebeedbjicaaGreatDoorHDeadHold
import Derived.Test.YtkfiebeedbjicaaGreatDoorHDeadLetter
import Derived.Test.YtkfiebeedbjicaaGreatDoorHRecord
set_option linter.unusedVariables false
set_option linter.unusedSimpArgs false
namespace Go.Proofs.YtkfiebeedbjicaaGreatDoor
open Go.ChangeShapes Go.WideShapes Go.ChangeAt Go.RowKit

def SzDeadDone (x : DeadDone) : Prop := ∀ (us : List Value) (fp : List Nat) (left : Int) (w : World), OwC w x.cells us fp → Lt fp w.heap.size → 0 ≤ left → left ≤ 1048576 →
  Calls Tryz.prog 4 #[.agg us.toArray, .int .i64 left] w fun e w' => e = .returned (.int .i64 (szr left (x.bulk : Nat))) ∧ Below w.heap.size w w'
set_option maxRecDepth 100000 in
theorem szDeadDone_of (x : DeadDone) : SzDeadDone x := by
  intro us fp left w ho hf h0 h1
  obtain ⟨A1, c1, A2, c2, A3, c3, f1, f2, f3, rfl, o1, o2, o3, rfl⟩ := ho.oDeadDone
  have l1 := hf.left
  have l2 := hf.right.left
  have l3 := hf.right.right
  have HK := hide (show ((x.bulk : Nat) : Int) = ((Record.bulkL x.given : Nat) : Int) + ((DeadLetter.bulkL x.dead : Nat) : Int) + ((DeadHold.bulkL x.held : Nat) : Int) by have h := x.bulk_eq; omega)
  have hB0 : Below w.heap.size w (w.alloc (.cells #[.bool x.ok, .slice A1 x.given.length c1, .slice A2 x.dead.length c2, .slice A3 x.held.length c3] 26)) := (Below.refl _ _).alloc (Nat.le_refl _) _
  have R0 : Row (w.alloc (.cells #[.bool x.ok, .slice A1 x.given.length c1, .slice A2 x.dead.length c2, .slice A3 x.held.length c3] 26)) w.heap.size 26 [.bool x.ok, .slice A1 x.given.length c1, .slice A2 x.dead.length c2, .slice A3 x.held.length c3] := Row.new w _ _
  clear ho
  go_enter Tryz.func4, Tryz.ntmps4
  go_wp2_with fail
  refine (szRecordS_any _ _ _ _ _ _ _ (o1.below hB0 l1) (l1.up hB0) (by omega) (by omega)).mono ?_
  rintro e w1_ ⟨rfl, hb1⟩
  have hB1 := hB0.trans (hb1.mono hB0.size)
  have R1 := R0.below hb1 R0.lt
  by_cases hx0 : ((Record.bulkL x.given : Nat) : Int) ≤ left
  · rw [szr_yes hx0]
    have c1_2 := R1.cell 2
    have c1_3 := R1.cell 3
    go_wp2_with fail
    refine (szDeadLetterS_any _ _ _ _ _ _ _ (o2.below hB1 l2) (l2.up hB1) (by omega) (by omega)).mono ?_
    rintro e w2_ ⟨rfl, hb2⟩
    have hB2 := hB1.trans (hb2.mono hB1.size)
    have R2 := R1.below hb2 R1.lt
    by_cases hx1 : ((DeadLetter.bulkL x.dead : Nat) : Int) ≤ left - ((Record.bulkL x.given : Nat) : Int)
    · rw [szr_yes hx1]
      have c2_3 := R2.cell 3
      go_wp2_with fail
      refine (szDeadHoldS_any _ _ _ _ _ _ _ (o3.below hB2 l3) (l3.up hB2) (by omega) (by omega)).mono ?_
      rintro e w3_ ⟨rfl, hb3⟩
      have hB3 := hB2.trans (hb3.mono hB2.size)
      have R3 := R2.below hb3 R2.lt
      by_cases hx2 : ((DeadHold.bulkL x.held : Nat) : Int) ≤ left - ((Record.bulkL x.given : Nat) : Int) - ((DeadLetter.bulkL x.dead : Nat) : Int)
      · rw [szr_yes hx2]
        go_wp2
        go_ret
        exact ⟨ret_int (by rw [szr_yes (by have := HK.out; omega)]; have := HK.out; omega), hB3⟩
      · rw [szr_no hx2]
        go_wp2
        go_ret
        exact ⟨ret_int (by rw [szr_no (by have := HK.out; omega)]), hB3⟩
    · rw [szr_no hx1]
      go_wp2
      go_ret
      exact ⟨ret_int (by rw [szr_no (by have := HK.out; omega)]), hB2⟩
  · rw [szr_no hx0]
    go_wp2
    go_ret
    exact ⟨ret_int (by rw [szr_no (by have := HK.out; omega)]), hB1⟩
theorem szDeadDone_any (x : DeadDone) : SzDeadDone x := szDeadDone_of x

theorem info_DeadDone : (Tryz.prog.info? 33).map (fun i => (i.zero, i.size, i.bytes)) = some (some (.agg #[.bool false, .slice none 0 0, .slice none 0 0, .slice none 0 0]), 4, 80) := by kernel_rfl
def ToDeadDone (x : DeadDone) : Prop := ∀ (us : List Value) (fp : List Nat) (w : World), OwC w x.cells us fp → Lt fp w.heap.size → x.bulk ≤ 1048576 →
  Calls Tryz.prog 6 #[.agg us.toArray] w fun e w' => ∃ vs fq, e = .returned (.agg vs.toArray) ∧ OwC w' x.cells vs fq ∧ New w' fq w.heap.size ∧ Below w.heap.size w w'
set_option maxRecDepth 100000 in
set_option maxHeartbeats 400000 in
theorem toDeadDone_of (x : DeadDone) : ToDeadDone x := by
  intro us fp w ho hf hbk
  obtain ⟨A1, c1, A2, c2, A3, c3, f1, f2, f3, rfl, o1, o2, o3, rfl⟩ := ho.oDeadDone
  have l1 := hf.left
  have l2 := hf.right.left
  have l3 := hf.right.right
  rw [DeadDone.bulk_eq] at hbk
  have hB0 : Below w.heap.size w (((w.alloc (.cells #[.bool x.ok, .slice A1 x.given.length c1, .slice A2 x.dead.length c2, .slice A3 x.held.length c3] 26)).alloc (.cells #[.bool false, .slice none 0 0, .slice none 0 0, .slice none 0 0] 33)).alloc (.cells #[.bool x.ok, .slice none 0 0, .slice none 0 0, .slice none 0 0] 33)) := (((Below.refl _ _).alloc (Nat.le_refl _) _).alloc (by simp) _).alloc (by simp; omega) _
  have R0 : Row (((w.alloc (.cells #[.bool x.ok, .slice A1 x.given.length c1, .slice A2 x.dead.length c2, .slice A3 x.held.length c3] 26)).alloc (.cells #[.bool false, .slice none 0 0, .slice none 0 0, .slice none 0 0] 33)).alloc (.cells #[.bool x.ok, .slice none 0 0, .slice none 0 0, .slice none 0 0] 33)) w.heap.size 26 [.bool x.ok, .slice A1 x.given.length c1, .slice A2 x.dead.length c2, .slice A3 x.held.length c3] := ((Row.new w _ _).alloc _).alloc _
  have Z0 : Row (((w.alloc (.cells #[.bool x.ok, .slice A1 x.given.length c1, .slice A2 x.dead.length c2, .slice A3 x.held.length c3] 26)).alloc (.cells #[.bool false, .slice none 0 0, .slice none 0 0, .slice none 0 0] 33)).alloc (.cells #[.bool x.ok, .slice none 0 0, .slice none 0 0, .slice none 0 0] 33)) (w.heap.size + 1) 33 [.bool false, .slice none 0 0, .slice none 0 0, .slice none 0 0] := by
    have h := (Row.new (w.alloc (.cells #[.bool x.ok, .slice A1 x.given.length c1, .slice A2 x.dead.length c2, .slice A3 x.held.length c3] 26)) 33 [.bool false, .slice none 0 0, .slice none 0 0, .slice none 0 0]).alloc (.cells #[.bool x.ok, .slice none 0 0, .slice none 0 0, .slice none 0 0] 33)
    simpa using h
  have O0 : Row (((w.alloc (.cells #[.bool x.ok, .slice A1 x.given.length c1, .slice A2 x.dead.length c2, .slice A3 x.held.length c3] 26)).alloc (.cells #[.bool false, .slice none 0 0, .slice none 0 0, .slice none 0 0] 33)).alloc (.cells #[.bool x.ok, .slice none 0 0, .slice none 0 0, .slice none 0 0] 33)) (w.heap.size + 1 + 1) 33 [.bool x.ok, .slice none 0 0, .slice none 0 0, .slice none 0 0] := by
    have h := Row.new ((w.alloc (.cells #[.bool x.ok, .slice A1 x.given.length c1, .slice A2 x.dead.length c2, .slice A3 x.held.length c3] 26)).alloc (.cells #[.bool false, .slice none 0 0, .slice none 0 0, .slice none 0 0] 33)) 33 [.bool x.ok, .slice none 0 0, .slice none 0 0, .slice none 0 0]
    simpa using h
  clear ho
  go_enter Tryz.func6, Tryz.ntmps6
  go_wp2_with fail
  have hX0 := hB0
  refine (toRecordS_any _ _ _ _ _ _ (o1.below hX0 l1) (l1.up hX0) (by omega)).mono ?_
  rintro e w1_ ⟨y1, q1, rfl, hy1, N1, hb1⟩
  obtain ⟨D1, e1, rfl, _⟩ := hy1.slice
  have Y1 := hide hy1
  clear hy1
  have N1 := N1.mono (lo' := w.heap.size + 3) (by simp)
  have M1 := N1.lt
  have hB1 := hX0.trans (hb1.mono hX0.size)
  have z1 : w.heap.size + 1 + 1 < w1_.heap.size := Nat.lt_of_lt_of_le O0.lt hb1.size
  have R1 := R0.below hb1 (by exact R0.lt)
  have Z1 := Z0.below hb1 (by exact Z0.lt)
  have O1 : Row w1_ (w.heap.size + 1 + 1) 33 [.bool x.ok, .slice none 0 0, .slice none 0 0, .slice none 0 0] := by
    have h := O0.below hb1 (by exact O0.lt)
    simpa using h
  have c1_2 := R1.cell 2
  have u1_1 := O1.cell 1
  have t1_1 := O1.frozen 1
  go_wp2_with fail
  have hX1 := (hB1.setCell (p := ⟨w.heap.size + 1 + 1, 1, none⟩) (by show w.heap.size ≤ w.heap.size + 1 + 1; omega) (.slice D1 x.given.length e1))
  refine (toDeadLetterS_any _ _ _ _ _ _ (o2.below hX1 l2) (l2.up hX1) (by omega)).mono ?_
  rintro e w2_ ⟨y2, q2, rfl, hy2, N2, hb2⟩
  obtain ⟨D2, e2, rfl, _⟩ := hy2.slice
  have Y2 := hide hy2
  clear hy2
  have N2 := N2.mono (lo' := w1_.heap.size) (by simp [World.setCell])
  have M2 := N2.lt
  have hB2 := hX1.trans (hb2.mono hX1.size)
  have z2 : w.heap.size + 1 + 1 < w2_.heap.size := Nat.lt_of_lt_of_le z1 (by have := hb2.size; simpa [World.setCell] using this)
  have R2 := (R1.far (p := ⟨w.heap.size + 1 + 1, 1, none⟩) (by show w.heap.size ≠ w.heap.size + 1 + 1; omega) (.slice D1 x.given.length e1)).below hb2 (by simp [World.setCell]; omega)
  have Z2 := (Z1.far (p := ⟨w.heap.size + 1 + 1, 1, none⟩) (by show w.heap.size + 1 ≠ w.heap.size + 1 + 1; omega) (.slice D1 x.given.length e1)).below hb2 (by simp [World.setCell]; omega)
  have O2 : Row w2_ (w.heap.size + 1 + 1) 33 [.bool x.ok, .slice D1 x.given.length e1, .slice none 0 0, .slice none 0 0] := by
    have h := (O1.set 1 (.slice D1 x.given.length e1)).below hb2 (by simp [World.setCell]; omega)
    simpa using h
  have Y1 := hide ((Y1.out.setCell (a := ⟨w.heap.size + 1 + 1, 1, none⟩) (fun hm => absurd (N1.fr _ hm).1 (by show ¬ _ ≤ w.heap.size + 1 + 1; omega)) (.slice D1 x.given.length e1)).below hb2 (fun b hb => Nat.lt_of_lt_of_le (M1 b hb) (by simp [World.setCell])))
  have N1 := (N1.setCell ⟨w.heap.size + 1 + 1, 1, none⟩ (.slice D1 x.given.length e1)).below hb2 (fun b hb => Nat.lt_of_lt_of_le (M1 b hb) (by simp [World.setCell]))
  have v2 : w1_.heap.size ≤ w2_.heap.size := by have := hb2.size; simpa [World.setCell] using this
  have c2_3 := R2.cell 3
  have u2_2 := O2.cell 2
  have t2_2 := O2.frozen 2
  go_wp2_with fail
  have hX2 := (hB2.setCell (p := ⟨w.heap.size + 1 + 1, 2, none⟩) (by show w.heap.size ≤ w.heap.size + 1 + 1; omega) (.slice D2 x.dead.length e2))
  refine (toDeadHoldS_any _ _ _ _ _ _ (o3.below hX2 l3) (l3.up hX2) (by omega)).mono ?_
  rintro e w3_ ⟨y3, q3, rfl, hy3, N3, hb3⟩
  obtain ⟨D3, e3, rfl, _⟩ := hy3.slice
  have Y3 := hide hy3
  clear hy3
  have N3 := N3.mono (lo' := w2_.heap.size) (by simp [World.setCell])
  have M3 := N3.lt
  have hB3 := hX2.trans (hb3.mono hX2.size)
  have z3 : w.heap.size + 1 + 1 < w3_.heap.size := Nat.lt_of_lt_of_le z2 (by have := hb3.size; simpa [World.setCell] using this)
  have R3 := (R2.far (p := ⟨w.heap.size + 1 + 1, 2, none⟩) (by show w.heap.size ≠ w.heap.size + 1 + 1; omega) (.slice D2 x.dead.length e2)).below hb3 (by simp [World.setCell]; omega)
  have Z3 := (Z2.far (p := ⟨w.heap.size + 1 + 1, 2, none⟩) (by show w.heap.size + 1 ≠ w.heap.size + 1 + 1; omega) (.slice D2 x.dead.length e2)).below hb3 (by simp [World.setCell]; omega)
  have O3 : Row w3_ (w.heap.size + 1 + 1) 33 [.bool x.ok, .slice D1 x.given.length e1, .slice D2 x.dead.length e2, .slice none 0 0] := by
    have h := (O2.set 2 (.slice D2 x.dead.length e2)).below hb3 (by simp [World.setCell]; omega)
    simpa using h
  have Y1 := hide ((Y1.out.setCell (a := ⟨w.heap.size + 1 + 1, 2, none⟩) (fun hm => absurd (N1.fr _ hm).1 (by show ¬ _ ≤ w.heap.size + 1 + 1; omega)) (.slice D2 x.dead.length e2)).below hb3 (fun b hb => Nat.lt_of_lt_of_le (M1 b hb) (by simp [World.setCell]; omega)))
  have N1 := (N1.setCell ⟨w.heap.size + 1 + 1, 2, none⟩ (.slice D2 x.dead.length e2)).below hb3 (fun b hb => Nat.lt_of_lt_of_le (M1 b hb) (by simp [World.setCell]; omega))
  have Y2 := hide ((Y2.out.setCell (a := ⟨w.heap.size + 1 + 1, 2, none⟩) (fun hm => absurd (N2.fr _ hm).1 (by show ¬ _ ≤ w.heap.size + 1 + 1; omega)) (.slice D2 x.dead.length e2)).below hb3 (fun b hb => Nat.lt_of_lt_of_le (M2 b hb) (by simp [World.setCell])))
  have N2 := (N2.setCell ⟨w.heap.size + 1 + 1, 2, none⟩ (.slice D2 x.dead.length e2)).below hb3 (fun b hb => Nat.lt_of_lt_of_le (M2 b hb) (by simp [World.setCell]))
  have v3 : w2_.heap.size ≤ w3_.heap.size := by have := hb3.size; simpa [World.setCell] using this
  have u3_3 := O3.cell 3
  have t3_3 := O3.frozen 3
  have u3_0 := O3.cell 0
  have r0 := Z3.cell 0
  have s0 := Z3.frozen 0
  have u3_1 := O3.cell 1
  have r1 := Z3.cell 1
  have s1 := Z3.frozen 1
  have u3_2 := O3.cell 2
  have r2 := Z3.cell 2
  have s2 := Z3.frozen 2
  have r3 := Z3.cell 3
  have s3 := Z3.frozen 3
  go_wp2
  refine bodyPost_ret (v := .agg #[.bool x.ok, .slice D1 x.given.length e1, .slice D2 x.dead.length e2, .slice D3 x.held.length e3]) (by simp [results, Tryz.results6, go_sem, r0, r1, r2, r3, s0, s1, s2, s3]) rfl ?_
  refine ⟨[.bool x.ok, .slice D1 x.given.length e1, .slice D2 x.dead.length e2, .slice D3 x.held.length e3], q1 ++ (q2 ++ (q3)), rfl, ?_, ?_, ?_⟩
  · exact OwC.mDeadDone (by
      iterate 5 refine Ow.setCell ?_ (fun hm => absurd (N1.fr _ hm).1 (by simp; try omega)) _
      exact Y1.out) (by
      iterate 5 refine Ow.setCell ?_ (fun hm => absurd (N2.fr _ hm).1 (by simp; try omega)) _
      exact Y2.out) (by
      iterate 5 refine Ow.setCell ?_ (fun hm => absurd (N3.fr _ hm).1 (by simp; try omega)) _
      exact Y3.out)
  · have hN := (New.app N1 (New.app N2 N3 M2 (by omega)) M1 (by omega))
    have hN2 := hN.mono (lo' := w.heap.size) (by omega)
    iterate 5 refine New.setCell ?_ _ _
    simpa [List.append_assoc] using hN2
  · iterate 5 refine Below.setCell ?_ (by simp; try omega) _
    exact hB3
theorem toDeadDone_any (x : DeadDone) : ToDeadDone x := toDeadDone_of x

def EqDeadDone (x : DeadDone) : Prop := ∀ (us vs : List Value) (fp fq : List Nat) (w : World), OwC w x.cells us fp → OwC w x.cells vs fq → Lt fp w.heap.size → Lt fq w.heap.size →
  Calls Tryz.prog 8 #[.agg us.toArray, .agg vs.toArray] w fun e w' => e = .returned (.bool true) ∧ Below w.heap.size w w'
set_option maxRecDepth 100000 in
theorem eqDeadDone_of (x : DeadDone) : EqDeadDone x := by
  intro us vs fp fq w ho ho' hf hf'
  obtain ⟨A1, c1, A2, c2, A3, c3, f1, f2, f3, rfl, o1, o2, o3, rfl⟩ := ho.oDeadDone
  obtain ⟨bA1, bc1, bA2, bc2, bA3, bc3, bf1, bf2, bf3, rfl, bo1, bo2, bo3, rfl⟩ := ho'.oDeadDone
  have l1 := hf.left
  have l2 := hf.right.left
  have l3 := hf.right.right
  have k1 := hf'.left
  have k2 := hf'.right.left
  have k3 := hf'.right.right
  have hB0 : Below w.heap.size w ((w.alloc (.cells #[.bool x.ok, .slice A1 x.given.length c1, .slice A2 x.dead.length c2, .slice A3 x.held.length c3] 33)).alloc (.cells #[.bool x.ok, .slice bA1 x.given.length bc1, .slice bA2 x.dead.length bc2, .slice bA3 x.held.length bc3] 33)) := ((Below.refl _ _).alloc (Nat.le_refl _) _).alloc (by simp) _
  have R0 : Row ((w.alloc (.cells #[.bool x.ok, .slice A1 x.given.length c1, .slice A2 x.dead.length c2, .slice A3 x.held.length c3] 33)).alloc (.cells #[.bool x.ok, .slice bA1 x.given.length bc1, .slice bA2 x.dead.length bc2, .slice bA3 x.held.length bc3] 33)) w.heap.size 33 [.bool x.ok, .slice A1 x.given.length c1, .slice A2 x.dead.length c2, .slice A3 x.held.length c3] := (Row.new w _ _).alloc _
  have S0 : Row ((w.alloc (.cells #[.bool x.ok, .slice A1 x.given.length c1, .slice A2 x.dead.length c2, .slice A3 x.held.length c3] 33)).alloc (.cells #[.bool x.ok, .slice bA1 x.given.length bc1, .slice bA2 x.dead.length bc2, .slice bA3 x.held.length bc3] 33)) (w.heap.size + 1) 33 [.bool x.ok, .slice bA1 x.given.length bc1, .slice bA2 x.dead.length bc2, .slice bA3 x.held.length bc3] := by
    have h := Row.new (w.alloc (.cells #[.bool x.ok, .slice A1 x.given.length c1, .slice A2 x.dead.length c2, .slice A3 x.held.length c3] 33)) 33 [.bool x.ok, .slice bA1 x.given.length bc1, .slice bA2 x.dead.length bc2, .slice bA3 x.held.length bc3]
    simpa using h
  clear ho ho'
  go_enter Tryz.func8, Tryz.ntmps8
  go_wp2_with fail
  refine (eqRecordS_any _ _ _ _ _ _ _ _ _ _ (o1.below hB0 l1) (bo1.below hB0 k1) (l1.up hB0) (k1.up hB0)).mono ?_
  rintro e w1_ ⟨rfl, hb1⟩
  have hB1 := hB0.trans (hb1.mono hB0.size)
  have R1 := R0.below hb1 R0.lt
  have S1 := S0.below hb1 S0.lt
  have c1_2 := R1.cell 2
  have d1_2 := S1.cell 2
  go_wp2_with fail
  refine (eqDeadLetterS_any _ _ _ _ _ _ _ _ _ _ (o2.below hB1 l2) (bo2.below hB1 k2) (l2.up hB1) (k2.up hB1)).mono ?_
  rintro e w2_ ⟨rfl, hb2⟩
  have hB2 := hB1.trans (hb2.mono hB1.size)
  have R2 := R1.below hb2 R1.lt
  have S2 := S1.below hb2 S1.lt
  have c2_3 := R2.cell 3
  have d2_3 := S2.cell 3
  go_wp2_with fail
  refine (eqDeadHoldS_any _ _ _ _ _ _ _ _ _ _ (o3.below hB2 l3) (bo3.below hB2 k3) (l3.up hB2) (k3.up hB2)).mono ?_
  rintro e w3_ ⟨rfl, hb3⟩
  have hB3 := hB2.trans (hb3.mono hB2.size)
  have R3 := R2.below hb3 R2.lt
  have S3 := S2.below hb3 S2.lt
  go_wp2
  go_ret
  exact ⟨rfl, hB3⟩
theorem eqDeadDone_any (x : DeadDone) : EqDeadDone x := eqDeadDone_of x

end Go.Proofs.YtkfiebeedbjicaaGreatDoor
