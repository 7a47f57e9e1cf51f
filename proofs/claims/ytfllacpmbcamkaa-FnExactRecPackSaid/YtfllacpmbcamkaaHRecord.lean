/-
  Record: what the laws' own helpers do: the size, a copy, equality.
-/
import Derived.Test.YtfllacpmbcamkaaDRecord
import Derived.Test.YtfllacpmbcamkaaHEvent
set_option linter.unusedVariables false
set_option linter.unusedSimpArgs false
namespace Go.Proofs.Ytfllacpmbcamkaa
open Go.ChangeShapes Go.WideShapes Go.ChangeAt Go.RowKit

def SzRecord (x : Record) : Prop := ∀ (us : List Value) (fp : List Nat) (left : Int) (w : World), OwC w x.cells us fp → Lt fp w.heap.size → 0 ≤ left → left ≤ 1048576 →
  Calls Try.prog 28 #[.agg us.toArray, .int .i64 left] w fun e w' => e = .returned (.int .i64 (szr left (x.bulk : Nat))) ∧ Below w.heap.size w w'
set_option maxRecDepth 100000 in
theorem szRecord_of (x : Record) : SzRecord x := by
  intro us fp left w ho hf h0 h1
  obtain ⟨A1, c1, f1, rfl, w0, w1, o1, rfl⟩ := ho.oRecord
  have l1 := hf
  have m1 := w1
  unfold maxLen at m1
  have HK := hide (show ((x.bulk : Nat) : Int) = ((x.key.size : Nat) : Int) + ((Event.bulkL x.events : Nat) : Int) by have h := x.bulk_eq; omega)
  have hB0 : Below w.heap.size w (w.alloc (.cells #[.int .i64 x.pos, .string x.key, .slice A1 x.events.length c1] 55)) := (Below.refl _ _).alloc (Nat.le_refl _) _
  have R0 : Row (w.alloc (.cells #[.int .i64 x.pos, .string x.key, .slice A1 x.events.length c1] 55)) w.heap.size 55 [.int .i64 x.pos, .string x.key, .slice A1 x.events.length c1] := Row.new w _ _
  clear ho
  go_enter Try.func28, Try.ntmps28
  by_cases hx0 : ((x.key.size : Nat) : Int) ≤ left
  · skip
    go_wp2_with fail
    refine (szEventS_any _ _ _ _ _ _ _ (o1.below hB0 l1) (l1.up hB0) (by omega) (by omega)).mono ?_
    rintro e w1_ ⟨rfl, hb1⟩
    have hB1 := hB0.trans (hb1.mono hB0.size)
    have R1 := R0.below hb1 R0.lt
    by_cases hx1 : ((Event.bulkL x.events : Nat) : Int) ≤ left - ((x.key.size : Nat) : Int)
    · rw [szr_yes hx1]
      go_wp2
      go_ret
      exact ⟨ret_int (by rw [szr_yes (by have := HK.out; omega)]; have := HK.out; omega), hB1⟩
    · rw [szr_no hx1]
      go_wp2
      go_ret
      exact ⟨ret_int (by rw [szr_no (by have := HK.out; omega)]), hB1⟩
  · go_wp2
    go_ret
    exact ⟨ret_int (by rw [szr_no (by have := HK.out; omega)]), hB0⟩
theorem szRecord_any (x : Record) : SzRecord x := szRecord_of x

theorem info_Record : (Try.prog.info? 60).map (fun i => (i.zero, i.size, i.bytes)) = some (some (.agg #[.int .i64 0, .string .empty, .slice none 0 0]), 3, 48) := by kernel_rfl
def ToRecord (x : Record) : Prop := ∀ (us : List Value) (fp : List Nat) (w : World), OwC w x.cells us fp → Lt fp w.heap.size → x.bulk ≤ 1048576 →
  Calls Try.prog 30 #[.agg us.toArray] w fun e w' => ∃ vs fq, e = .returned (.agg vs.toArray) ∧ OwC w' x.cells vs fq ∧ New w' fq w.heap.size ∧ Below w.heap.size w w'
set_option maxRecDepth 100000 in
set_option maxHeartbeats 400000 in
theorem toRecord_of (x : Record) : ToRecord x := by
  intro us fp w ho hf hbk
  obtain ⟨A1, c1, f1, rfl, w0, w1, o1, rfl⟩ := ho.oRecord
  have l1 := hf
  rw [Record.bulk_eq] at hbk
  have hB0 : Below w.heap.size w (((w.alloc (.cells #[.int .i64 x.pos, .string x.key, .slice A1 x.events.length c1] 55)).alloc (.cells #[.int .i64 0, .string .empty, .slice none 0 0] 60)).alloc (.cells #[.int .i64 x.pos, .string x.key, .slice none 0 0] 60)) := (((Below.refl _ _).alloc (Nat.le_refl _) _).alloc (by simp) _).alloc (by simp; omega) _
  have R0 : Row (((w.alloc (.cells #[.int .i64 x.pos, .string x.key, .slice A1 x.events.length c1] 55)).alloc (.cells #[.int .i64 0, .string .empty, .slice none 0 0] 60)).alloc (.cells #[.int .i64 x.pos, .string x.key, .slice none 0 0] 60)) w.heap.size 55 [.int .i64 x.pos, .string x.key, .slice A1 x.events.length c1] := ((Row.new w _ _).alloc _).alloc _
  have Z0 : Row (((w.alloc (.cells #[.int .i64 x.pos, .string x.key, .slice A1 x.events.length c1] 55)).alloc (.cells #[.int .i64 0, .string .empty, .slice none 0 0] 60)).alloc (.cells #[.int .i64 x.pos, .string x.key, .slice none 0 0] 60)) (w.heap.size + 1) 60 [.int .i64 0, .string .empty, .slice none 0 0] := by
    have h := (Row.new (w.alloc (.cells #[.int .i64 x.pos, .string x.key, .slice A1 x.events.length c1] 55)) 60 [.int .i64 0, .string .empty, .slice none 0 0]).alloc (.cells #[.int .i64 x.pos, .string x.key, .slice none 0 0] 60)
    simpa using h
  have O0 : Row (((w.alloc (.cells #[.int .i64 x.pos, .string x.key, .slice A1 x.events.length c1] 55)).alloc (.cells #[.int .i64 0, .string .empty, .slice none 0 0] 60)).alloc (.cells #[.int .i64 x.pos, .string x.key, .slice none 0 0] 60)) (w.heap.size + 1 + 1) 60 [.int .i64 x.pos, .string x.key, .slice none 0 0] := by
    have h := Row.new ((w.alloc (.cells #[.int .i64 x.pos, .string x.key, .slice A1 x.events.length c1] 55)).alloc (.cells #[.int .i64 0, .string .empty, .slice none 0 0] 60)) 60 [.int .i64 x.pos, .string x.key, .slice none 0 0]
    simpa using h
  clear ho
  go_enter Try.func30, Try.ntmps30
  go_wp2_with fail
  have hX0 := hB0
  refine (toEventS_any _ _ _ _ _ _ (o1.below hX0 l1) (l1.up hX0) (by omega)).mono ?_
  rintro e w1_ ⟨y1, q1, rfl, hy1, N1, hb1⟩
  obtain ⟨D1, e1, rfl, _⟩ := hy1.slice
  have Y1 := hide hy1
  clear hy1
  have N1 := N1.mono (lo' := w.heap.size + 3) (by simp)
  have M1 := N1.lt
  have hB1 := hX0.trans (hb1.mono hX0.size)
  have z1 : w.heap.size + 1 + 1 < w1_.heap.size := Nat.lt_of_lt_of_le O0.lt hb1.size
  have R1 := R0.below hb1 (by exact R0.lt)
  have Z1 := Z0.below hb1 (by exact Z0.lt)
  have O1 : Row w1_ (w.heap.size + 1 + 1) 60 [.int .i64 x.pos, .string x.key, .slice none 0 0] := by
    have h := O0.below hb1 (by exact O0.lt)
    simpa using h
  have u1_2 := O1.cell 2
  have t1_2 := O1.frozen 2
  have u1_0 := O1.cell 0
  have r0 := Z1.cell 0
  have s0 := Z1.frozen 0
  have u1_1 := O1.cell 1
  have r1 := Z1.cell 1
  have s1 := Z1.frozen 1
  have r2 := Z1.cell 2
  have s2 := Z1.frozen 2
  go_wp2
  refine bodyPost_ret (v := .agg #[.int .i64 x.pos, .string x.key, .slice D1 x.events.length e1]) (by simp [results, Try.results30, go_sem, r0, r1, r2, s0, s1, s2]) rfl ?_
  refine ⟨[.int .i64 x.pos, .string x.key, .slice D1 x.events.length e1], q1, rfl, ?_, ?_, ?_⟩
  · exact OwC.mRecord w0 w1 (by
      iterate 4 refine Ow.setCell ?_ (fun hm => absurd (N1.fr _ hm).1 (by simp; try omega)) _
      exact Y1.out)
  · have hN := N1
    have hN2 := hN.mono (lo' := w.heap.size) (by omega)
    iterate 4 refine New.setCell ?_ _ _
    simpa [List.append_assoc] using hN2
  · iterate 4 refine Below.setCell ?_ (by simp; try omega) _
    exact hB1
theorem toRecord_any (x : Record) : ToRecord x := toRecord_of x

def EqRecord (x : Record) : Prop := ∀ (us vs : List Value) (fp fq : List Nat) (w : World), OwC w x.cells us fp → OwC w x.cells vs fq → Lt fp w.heap.size → Lt fq w.heap.size →
  Calls Try.prog 32 #[.agg us.toArray, .agg vs.toArray] w fun e w' => e = .returned (.bool true) ∧ Below w.heap.size w w'
set_option maxRecDepth 100000 in
theorem eqRecord_of (x : Record) : EqRecord x := by
  intro us vs fp fq w ho ho' hf hf'
  obtain ⟨A1, c1, f1, rfl, w0, w1, o1, rfl⟩ := ho.oRecord
  obtain ⟨bA1, bc1, bf1, rfl, bw0, bw1, bo1, rfl⟩ := ho'.oRecord
  have l1 := hf
  have k1 := hf'
  have hB0 : Below w.heap.size w ((w.alloc (.cells #[.int .i64 x.pos, .string x.key, .slice A1 x.events.length c1] 60)).alloc (.cells #[.int .i64 x.pos, .string x.key, .slice bA1 x.events.length bc1] 60)) := ((Below.refl _ _).alloc (Nat.le_refl _) _).alloc (by simp) _
  have R0 : Row ((w.alloc (.cells #[.int .i64 x.pos, .string x.key, .slice A1 x.events.length c1] 60)).alloc (.cells #[.int .i64 x.pos, .string x.key, .slice bA1 x.events.length bc1] 60)) w.heap.size 60 [.int .i64 x.pos, .string x.key, .slice A1 x.events.length c1] := (Row.new w _ _).alloc _
  have S0 : Row ((w.alloc (.cells #[.int .i64 x.pos, .string x.key, .slice A1 x.events.length c1] 60)).alloc (.cells #[.int .i64 x.pos, .string x.key, .slice bA1 x.events.length bc1] 60)) (w.heap.size + 1) 60 [.int .i64 x.pos, .string x.key, .slice bA1 x.events.length bc1] := by
    have h := Row.new (w.alloc (.cells #[.int .i64 x.pos, .string x.key, .slice A1 x.events.length c1] 60)) 60 [.int .i64 x.pos, .string x.key, .slice bA1 x.events.length bc1]
    simpa using h
  clear ho ho'
  go_enter Try.func32, Try.ntmps32
  go_wp2_with fail
  refine (eqEventS_any _ _ _ _ _ _ _ _ _ _ (o1.below hB0 l1) (bo1.below hB0 k1) (l1.up hB0) (k1.up hB0)).mono ?_
  rintro e w1_ ⟨rfl, hb1⟩
  have hB1 := hB0.trans (hb1.mono hB0.size)
  have R1 := R0.below hb1 R0.lt
  have S1 := S0.below hb1 S0.lt
  go_wp2
  go_ret
  exact ⟨rfl, hB1⟩
theorem eqRecord_any (x : Record) : EqRecord x := eqRecord_of x

end Go.Proofs.Ytfllacpmbcamkaa
