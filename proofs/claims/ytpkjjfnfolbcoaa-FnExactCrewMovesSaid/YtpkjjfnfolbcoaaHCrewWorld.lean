/-
  CrewWorld: what the laws' own helpers do: the size, a copy, equality.
-/
import Derived.Test.YtpkjjfnfolbcoaaDCrewWorld
import Derived.Test.YtpkjjfnfolbcoaaHCrewHand
set_option linter.unusedVariables false
set_option linter.unusedSimpArgs false
namespace Go.Proofs.Ytpkjjfnfolbcoaa
open Go.ChangeShapes Go.WideShapes Go.ChangeAt Go.RowKit

def SzCrewWorld (x : CrewWorld) : Prop := ∀ (us : List Value) (fp : List Nat) (left : Int) (w : World), OwC w x.cells us fp → Lt fp w.heap.size → 0 ≤ left → left ≤ 1048576 →
  Calls Try.prog 12 #[.agg us.toArray, .int .i64 left] w fun e w' => e = .returned (.int .i64 (szr left (x.bulk : Nat))) ∧ Below w.heap.size w w'
set_option maxRecDepth 100000 in
theorem szCrewWorld_of (x : CrewWorld) : SzCrewWorld x := by
  intro us fp left w ho hf h0 h1
  obtain ⟨A1, c1, A2, c2, A3, c3, A4, c4, A5, c5, A6, c6, A7, c7, f1, f2, f3, f4, f5, f6, f7, rfl, w0, w1, w2, w3, w4, o1, o2, w7, o3, w9, o4, w11, o5, w13, o6, w15, o7, w17, rfl⟩ := ho.oCrewWorld
  have l1 := hf.left
  have l2 := hf.right.left
  have l3 := hf.right.right.left
  have l4 := hf.right.right.right.left
  have l5 := hf.right.right.right.right.left
  have l6 := hf.right.right.right.right.right.left
  have l7 := hf.right.right.right.right.right.right
  have HK := hide (show ((x.bulk : Nat) : Int) = ((x.queue.length : Nat) : Int) + ((CrewHand.bulkL x.hands : Nat) : Int) + ((x.results.length : Nat) : Int) + ((x.ring.length : Nat) : Int) + ((x.out.length : Nat) : Int) + ((x.got.length : Nat) : Int) + ((x.shut.length : Nat) : Int) by have h := x.bulk_eq; omega)
  have hB0 : Below w.heap.size w (w.alloc (.cells #[.int .i64 x.jobs, .int .i64 x.workers, .int .i64 x.window, .int .i64 x.next, .int .i64 x.reader, .slice A1 x.queue.length c1, .slice A2 x.hands.length c2, .int .i64 x.closer, .slice A3 x.results.length c3, .int .i64 x.keeper, .slice A4 x.ring.length c4, .int .i64 x.due, .slice A5 x.out.length c5, .int .i64 x.user, .slice A6 x.got.length c6, .int .i64 x.room, .slice A7 x.shut.length c7, .int .i64 x.ops] 25)) := (Below.refl _ _).alloc (Nat.le_refl _) _
  have R0 : Row (w.alloc (.cells #[.int .i64 x.jobs, .int .i64 x.workers, .int .i64 x.window, .int .i64 x.next, .int .i64 x.reader, .slice A1 x.queue.length c1, .slice A2 x.hands.length c2, .int .i64 x.closer, .slice A3 x.results.length c3, .int .i64 x.keeper, .slice A4 x.ring.length c4, .int .i64 x.due, .slice A5 x.out.length c5, .int .i64 x.user, .slice A6 x.got.length c6, .int .i64 x.room, .slice A7 x.shut.length c7, .int .i64 x.ops] 25)) w.heap.size 25 [.int .i64 x.jobs, .int .i64 x.workers, .int .i64 x.window, .int .i64 x.next, .int .i64 x.reader, .slice A1 x.queue.length c1, .slice A2 x.hands.length c2, .int .i64 x.closer, .slice A3 x.results.length c3, .int .i64 x.keeper, .slice A4 x.ring.length c4, .int .i64 x.due, .slice A5 x.out.length c5, .int .i64 x.user, .slice A6 x.got.length c6, .int .i64 x.room, .slice A7 x.shut.length c7, .int .i64 x.ops] := Row.new w _ _
  clear ho
  go_enter Try.func12, Try.ntmps12
  go_wp2_with fail
  refine (szIntS_any _ _ _ _ _ _ _ (o1.below hB0 l1) (by omega) (by omega)).mono ?_
  rintro e w1_ ⟨rfl, hb1⟩
  have hB1 := hB0.trans (hb1.mono hB0.size)
  have R1 := R0.below hb1 R0.lt
  by_cases hx0 : ((x.queue.length : Nat) : Int) ≤ left
  · rw [szr_yes hx0]
    have c1_6 := R1.cell 6
    have c1_8 := R1.cell 8
    have c1_10 := R1.cell 10
    have c1_12 := R1.cell 12
    have c1_14 := R1.cell 14
    have c1_16 := R1.cell 16
    go_wp2_with fail
    refine (szCrewHandS_any _ _ _ _ _ _ _ (o2.below hB1 l2) (l2.up hB1) (by omega) (by omega)).mono ?_
    rintro e w2_ ⟨rfl, hb2⟩
    have hB2 := hB1.trans (hb2.mono hB1.size)
    have R2 := R1.below hb2 R1.lt
    by_cases hx1 : ((CrewHand.bulkL x.hands : Nat) : Int) ≤ left - ((x.queue.length : Nat) : Int)
    · rw [szr_yes hx1]
      have c2_8 := R2.cell 8
      have c2_10 := R2.cell 10
      have c2_12 := R2.cell 12
      have c2_14 := R2.cell 14
      have c2_16 := R2.cell 16
      go_wp2_with fail
      refine (szIntS_any _ _ _ _ _ _ _ (o3.below hB2 l3) (by omega) (by omega)).mono ?_
      rintro e w3_ ⟨rfl, hb3⟩
      have hB3 := hB2.trans (hb3.mono hB2.size)
      have R3 := R2.below hb3 R2.lt
      by_cases hx2 : ((x.results.length : Nat) : Int) ≤ left - ((x.queue.length : Nat) : Int) - ((CrewHand.bulkL x.hands : Nat) : Int)
      · rw [szr_yes hx2]
        have c3_10 := R3.cell 10
        have c3_12 := R3.cell 12
        have c3_14 := R3.cell 14
        have c3_16 := R3.cell 16
        go_wp2_with fail
        refine (szIntS_any _ _ _ _ _ _ _ (o4.below hB3 l4) (by omega) (by omega)).mono ?_
        rintro e w4_ ⟨rfl, hb4⟩
        have hB4 := hB3.trans (hb4.mono hB3.size)
        have R4 := R3.below hb4 R3.lt
        by_cases hx3 : ((x.ring.length : Nat) : Int) ≤ left - ((x.queue.length : Nat) : Int) - ((CrewHand.bulkL x.hands : Nat) : Int) - ((x.results.length : Nat) : Int)
        · rw [szr_yes hx3]
          have c4_12 := R4.cell 12
          have c4_14 := R4.cell 14
          have c4_16 := R4.cell 16
          go_wp2_with fail
          refine (szIntS_any _ _ _ _ _ _ _ (o5.below hB4 l5) (by omega) (by omega)).mono ?_
          rintro e w5_ ⟨rfl, hb5⟩
          have hB5 := hB4.trans (hb5.mono hB4.size)
          have R5 := R4.below hb5 R4.lt
          by_cases hx4 : ((x.out.length : Nat) : Int) ≤ left - ((x.queue.length : Nat) : Int) - ((CrewHand.bulkL x.hands : Nat) : Int) - ((x.results.length : Nat) : Int) - ((x.ring.length : Nat) : Int)
          · rw [szr_yes hx4]
            have c5_14 := R5.cell 14
            have c5_16 := R5.cell 16
            go_wp2_with fail
            refine (szIntS_any _ _ _ _ _ _ _ (o6.below hB5 l6) (by omega) (by omega)).mono ?_
            rintro e w6_ ⟨rfl, hb6⟩
            have hB6 := hB5.trans (hb6.mono hB5.size)
            have R6 := R5.below hb6 R5.lt
            by_cases hx5 : ((x.got.length : Nat) : Int) ≤ left - ((x.queue.length : Nat) : Int) - ((CrewHand.bulkL x.hands : Nat) : Int) - ((x.results.length : Nat) : Int) - ((x.ring.length : Nat) : Int) - ((x.out.length : Nat) : Int)
            · rw [szr_yes hx5]
              have c6_16 := R6.cell 16
              go_wp2_with fail
              refine (szIntS_any _ _ _ _ _ _ _ (o7.below hB6 l7) (by omega) (by omega)).mono ?_
              rintro e w7_ ⟨rfl, hb7⟩
              have hB7 := hB6.trans (hb7.mono hB6.size)
              have R7 := R6.below hb7 R6.lt
              by_cases hx6 : ((x.shut.length : Nat) : Int) ≤ left - ((x.queue.length : Nat) : Int) - ((CrewHand.bulkL x.hands : Nat) : Int) - ((x.results.length : Nat) : Int) - ((x.ring.length : Nat) : Int) - ((x.out.length : Nat) : Int) - ((x.got.length : Nat) : Int)
              · rw [szr_yes hx6]
                go_wp2
                go_ret
                exact ⟨ret_int (by rw [szr_yes (by have := HK.out; omega)]; have := HK.out; omega), hB7⟩
              · rw [szr_no hx6]
                go_wp2
                go_ret
                exact ⟨ret_int (by rw [szr_no (by have := HK.out; omega)]), hB7⟩
            · rw [szr_no hx5]
              go_wp2
              go_ret
              exact ⟨ret_int (by rw [szr_no (by have := HK.out; omega)]), hB6⟩
          · rw [szr_no hx4]
            go_wp2
            go_ret
            exact ⟨ret_int (by rw [szr_no (by have := HK.out; omega)]), hB5⟩
        · rw [szr_no hx3]
          go_wp2
          go_ret
          exact ⟨ret_int (by rw [szr_no (by have := HK.out; omega)]), hB4⟩
      · rw [szr_no hx2]
        go_wp2
        go_ret
        exact ⟨ret_int (by rw [szr_no (by have := HK.out; omega)]), hB3⟩
    · rw [szr_no hx1]
      go_wp2
      go_ret
      exact ⟨ret_int (by rw [szr_no (by have := HK.out; omega)]), hB2⟩
  · rw [szr_no hx0]
    go_wp2
    go_ret
    exact ⟨ret_int (by rw [szr_no (by have := HK.out; omega)]), hB1⟩
theorem szCrewWorld_any (x : CrewWorld) : SzCrewWorld x := szCrewWorld_of x

def EqCrewWorld (x : CrewWorld) : Prop := ∀ (us vs : List Value) (fp fq : List Nat) (w : World), OwC w x.cells us fp → OwC w x.cells vs fq → Lt fp w.heap.size → Lt fq w.heap.size →
  Calls Try.prog 16 #[.agg us.toArray, .agg vs.toArray] w fun e w' => e = .returned (.bool true) ∧ Below w.heap.size w w'
set_option maxRecDepth 100000 in
theorem eqCrewWorld_of (x : CrewWorld) : EqCrewWorld x := by
  intro us vs fp fq w ho ho' hf hf'
  obtain ⟨A1, c1, A2, c2, A3, c3, A4, c4, A5, c5, A6, c6, A7, c7, f1, f2, f3, f4, f5, f6, f7, rfl, w0, w1, w2, w3, w4, o1, o2, w7, o3, w9, o4, w11, o5, w13, o6, w15, o7, w17, rfl⟩ := ho.oCrewWorld
  obtain ⟨bA1, bc1, bA2, bc2, bA3, bc3, bA4, bc4, bA5, bc5, bA6, bc6, bA7, bc7, bf1, bf2, bf3, bf4, bf5, bf6, bf7, rfl, bw0, bw1, bw2, bw3, bw4, bo1, bo2, bw7, bo3, bw9, bo4, bw11, bo5, bw13, bo6, bw15, bo7, bw17, rfl⟩ := ho'.oCrewWorld
  have l1 := hf.left
  have l2 := hf.right.left
  have l3 := hf.right.right.left
  have l4 := hf.right.right.right.left
  have l5 := hf.right.right.right.right.left
  have l6 := hf.right.right.right.right.right.left
  have l7 := hf.right.right.right.right.right.right
  have k1 := hf'.left
  have k2 := hf'.right.left
  have k3 := hf'.right.right.left
  have k4 := hf'.right.right.right.left
  have k5 := hf'.right.right.right.right.left
  have k6 := hf'.right.right.right.right.right.left
  have k7 := hf'.right.right.right.right.right.right
  have hB0 : Below w.heap.size w ((w.alloc (.cells #[.int .i64 x.jobs, .int .i64 x.workers, .int .i64 x.window, .int .i64 x.next, .int .i64 x.reader, .slice A1 x.queue.length c1, .slice A2 x.hands.length c2, .int .i64 x.closer, .slice A3 x.results.length c3, .int .i64 x.keeper, .slice A4 x.ring.length c4, .int .i64 x.due, .slice A5 x.out.length c5, .int .i64 x.user, .slice A6 x.got.length c6, .int .i64 x.room, .slice A7 x.shut.length c7, .int .i64 x.ops] 30)).alloc (.cells #[.int .i64 x.jobs, .int .i64 x.workers, .int .i64 x.window, .int .i64 x.next, .int .i64 x.reader, .slice bA1 x.queue.length bc1, .slice bA2 x.hands.length bc2, .int .i64 x.closer, .slice bA3 x.results.length bc3, .int .i64 x.keeper, .slice bA4 x.ring.length bc4, .int .i64 x.due, .slice bA5 x.out.length bc5, .int .i64 x.user, .slice bA6 x.got.length bc6, .int .i64 x.room, .slice bA7 x.shut.length bc7, .int .i64 x.ops] 30)) := ((Below.refl _ _).alloc (Nat.le_refl _) _).alloc (by simp) _
  have R0 : Row ((w.alloc (.cells #[.int .i64 x.jobs, .int .i64 x.workers, .int .i64 x.window, .int .i64 x.next, .int .i64 x.reader, .slice A1 x.queue.length c1, .slice A2 x.hands.length c2, .int .i64 x.closer, .slice A3 x.results.length c3, .int .i64 x.keeper, .slice A4 x.ring.length c4, .int .i64 x.due, .slice A5 x.out.length c5, .int .i64 x.user, .slice A6 x.got.length c6, .int .i64 x.room, .slice A7 x.shut.length c7, .int .i64 x.ops] 30)).alloc (.cells #[.int .i64 x.jobs, .int .i64 x.workers, .int .i64 x.window, .int .i64 x.next, .int .i64 x.reader, .slice bA1 x.queue.length bc1, .slice bA2 x.hands.length bc2, .int .i64 x.closer, .slice bA3 x.results.length bc3, .int .i64 x.keeper, .slice bA4 x.ring.length bc4, .int .i64 x.due, .slice bA5 x.out.length bc5, .int .i64 x.user, .slice bA6 x.got.length bc6, .int .i64 x.room, .slice bA7 x.shut.length bc7, .int .i64 x.ops] 30)) w.heap.size 30 [.int .i64 x.jobs, .int .i64 x.workers, .int .i64 x.window, .int .i64 x.next, .int .i64 x.reader, .slice A1 x.queue.length c1, .slice A2 x.hands.length c2, .int .i64 x.closer, .slice A3 x.results.length c3, .int .i64 x.keeper, .slice A4 x.ring.length c4, .int .i64 x.due, .slice A5 x.out.length c5, .int .i64 x.user, .slice A6 x.got.length c6, .int .i64 x.room, .slice A7 x.shut.length c7, .int .i64 x.ops] := (Row.new w _ _).alloc _
  have S0 : Row ((w.alloc (.cells #[.int .i64 x.jobs, .int .i64 x.workers, .int .i64 x.window, .int .i64 x.next, .int .i64 x.reader, .slice A1 x.queue.length c1, .slice A2 x.hands.length c2, .int .i64 x.closer, .slice A3 x.results.length c3, .int .i64 x.keeper, .slice A4 x.ring.length c4, .int .i64 x.due, .slice A5 x.out.length c5, .int .i64 x.user, .slice A6 x.got.length c6, .int .i64 x.room, .slice A7 x.shut.length c7, .int .i64 x.ops] 30)).alloc (.cells #[.int .i64 x.jobs, .int .i64 x.workers, .int .i64 x.window, .int .i64 x.next, .int .i64 x.reader, .slice bA1 x.queue.length bc1, .slice bA2 x.hands.length bc2, .int .i64 x.closer, .slice bA3 x.results.length bc3, .int .i64 x.keeper, .slice bA4 x.ring.length bc4, .int .i64 x.due, .slice bA5 x.out.length bc5, .int .i64 x.user, .slice bA6 x.got.length bc6, .int .i64 x.room, .slice bA7 x.shut.length bc7, .int .i64 x.ops] 30)) (w.heap.size + 1) 30 [.int .i64 x.jobs, .int .i64 x.workers, .int .i64 x.window, .int .i64 x.next, .int .i64 x.reader, .slice bA1 x.queue.length bc1, .slice bA2 x.hands.length bc2, .int .i64 x.closer, .slice bA3 x.results.length bc3, .int .i64 x.keeper, .slice bA4 x.ring.length bc4, .int .i64 x.due, .slice bA5 x.out.length bc5, .int .i64 x.user, .slice bA6 x.got.length bc6, .int .i64 x.room, .slice bA7 x.shut.length bc7, .int .i64 x.ops] := by
    have h := Row.new (w.alloc (.cells #[.int .i64 x.jobs, .int .i64 x.workers, .int .i64 x.window, .int .i64 x.next, .int .i64 x.reader, .slice A1 x.queue.length c1, .slice A2 x.hands.length c2, .int .i64 x.closer, .slice A3 x.results.length c3, .int .i64 x.keeper, .slice A4 x.ring.length c4, .int .i64 x.due, .slice A5 x.out.length c5, .int .i64 x.user, .slice A6 x.got.length c6, .int .i64 x.room, .slice A7 x.shut.length c7, .int .i64 x.ops] 30)) 30 [.int .i64 x.jobs, .int .i64 x.workers, .int .i64 x.window, .int .i64 x.next, .int .i64 x.reader, .slice bA1 x.queue.length bc1, .slice bA2 x.hands.length bc2, .int .i64 x.closer, .slice bA3 x.results.length bc3, .int .i64 x.keeper, .slice bA4 x.ring.length bc4, .int .i64 x.due, .slice bA5 x.out.length bc5, .int .i64 x.user, .slice bA6 x.got.length bc6, .int .i64 x.room, .slice bA7 x.shut.length bc7, .int .i64 x.ops]
    simpa using h
  clear ho ho'
  go_enter Try.func16, Try.ntmps16
  go_wp2_with fail
  refine (eqIntS_same _ _ _ _ _ _ _ _ _ _ (o1.below hB0 l1) (bo1.below hB0 k1)).mono ?_
  rintro e w1_ ⟨rfl, hb1⟩
  have hB1 := hB0.trans (hb1.mono hB0.size)
  have R1 := R0.below hb1 R0.lt
  have S1 := S0.below hb1 S0.lt
  have c1_6 := R1.cell 6
  have d1_6 := S1.cell 6
  go_wp2_with fail
  refine (eqCrewHandS_any _ _ _ _ _ _ _ _ _ _ (o2.below hB1 l2) (bo2.below hB1 k2) (l2.up hB1) (k2.up hB1)).mono ?_
  rintro e w2_ ⟨rfl, hb2⟩
  have hB2 := hB1.trans (hb2.mono hB1.size)
  have R2 := R1.below hb2 R1.lt
  have S2 := S1.below hb2 S1.lt
  have c2_7 := R2.cell 7
  have d2_7 := S2.cell 7
  have c2_8 := R2.cell 8
  have d2_8 := S2.cell 8
  go_wp2_with fail
  refine (eqIntS_same _ _ _ _ _ _ _ _ _ _ (o3.below hB2 l3) (bo3.below hB2 k3)).mono ?_
  rintro e w3_ ⟨rfl, hb3⟩
  have hB3 := hB2.trans (hb3.mono hB2.size)
  have R3 := R2.below hb3 R2.lt
  have S3 := S2.below hb3 S2.lt
  have c3_9 := R3.cell 9
  have d3_9 := S3.cell 9
  have c3_10 := R3.cell 10
  have d3_10 := S3.cell 10
  go_wp2_with fail
  refine (eqIntS_same _ _ _ _ _ _ _ _ _ _ (o4.below hB3 l4) (bo4.below hB3 k4)).mono ?_
  rintro e w4_ ⟨rfl, hb4⟩
  have hB4 := hB3.trans (hb4.mono hB3.size)
  have R4 := R3.below hb4 R3.lt
  have S4 := S3.below hb4 S3.lt
  have c4_11 := R4.cell 11
  have d4_11 := S4.cell 11
  have c4_12 := R4.cell 12
  have d4_12 := S4.cell 12
  go_wp2_with fail
  refine (eqIntS_same _ _ _ _ _ _ _ _ _ _ (o5.below hB4 l5) (bo5.below hB4 k5)).mono ?_
  rintro e w5_ ⟨rfl, hb5⟩
  have hB5 := hB4.trans (hb5.mono hB4.size)
  have R5 := R4.below hb5 R4.lt
  have S5 := S4.below hb5 S4.lt
  have c5_13 := R5.cell 13
  have d5_13 := S5.cell 13
  have c5_14 := R5.cell 14
  have d5_14 := S5.cell 14
  go_wp2_with fail
  refine (eqIntS_same _ _ _ _ _ _ _ _ _ _ (o6.below hB5 l6) (bo6.below hB5 k6)).mono ?_
  rintro e w6_ ⟨rfl, hb6⟩
  have hB6 := hB5.trans (hb6.mono hB5.size)
  have R6 := R5.below hb6 R5.lt
  have S6 := S5.below hb6 S5.lt
  have c6_15 := R6.cell 15
  have d6_15 := S6.cell 15
  have c6_16 := R6.cell 16
  have d6_16 := S6.cell 16
  go_wp2_with fail
  refine (eqIntS_same _ _ _ _ _ _ _ _ _ _ (o7.below hB6 l7) (bo7.below hB6 k7)).mono ?_
  rintro e w7_ ⟨rfl, hb7⟩
  have hB7 := hB6.trans (hb7.mono hB6.size)
  have R7 := R6.below hb7 R6.lt
  have S7 := S6.below hb7 S6.lt
  have c7_17 := R7.cell 17
  have d7_17 := S7.cell 17
  go_wp2
  go_ret
  exact ⟨rfl, hB7⟩
theorem eqCrewWorld_any (x : CrewWorld) : EqCrewWorld x := eqCrewWorld_of x

end Go.Proofs.Ytpkjjfnfolbcoaa
