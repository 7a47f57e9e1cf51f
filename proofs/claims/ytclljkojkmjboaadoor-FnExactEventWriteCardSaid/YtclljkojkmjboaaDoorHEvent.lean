/-
  Event: what the laws' own helpers do: the size, a copy, equality.
-/
import Derived.Test.YtclljkojkmjboaaDoorDEvent
import Derived.Test.YtclljkojkmjboaaDoorHTree
set_option linter.unusedVariables false
set_option linter.unusedSimpArgs false
namespace Go.Proofs.YtclljkojkmjboaaDoor
open Go.ChangeShapes Go.WideShapes Go.ChangeAt Go.RowKit

def SzEvent (x : Event) : Prop := ∀ (us : List Value) (fp : List Nat) (left : Int) (w : World), OwC w x.cells us fp → Lt fp w.heap.size → 0 ≤ left → left ≤ 1048576 →
  Calls Tryd.prog 16 #[.agg us.toArray, .int .i64 left] w fun e w' => e = .returned (.int .i64 (szr left (x.bulk : Nat))) ∧ Below w.heap.size w w'
set_option maxRecDepth 100000 in
theorem szEvent_of (x : Event) : SzEvent x := by
  intro us fp left w ho hf h0 h1
  obtain ⟨A1, c1, A2, c2, f1, f2, rfl, w0, w1, w2, w3, w4, o1, o2, rfl⟩ := ho.oEvent
  have l1 := hf.left
  have l2 := hf.right
  have m0 := w0
  unfold maxLen at m0
  have m4 := w4
  unfold maxLen at m4
  have HK := hide (show ((x.bulk : Nat) : Int) = ((x.type_.size : Nat) : Int) + ((x.body.bulk : Nat) : Int) by have h := x.bulk_eq; omega)
  have hB0 : Below w.heap.size w (w.alloc (.cells #[.string x.type_, .int .i64 x.version, .int .i64 x.body.sort, .int .i64 x.body.num, .string x.body.text, .slice A1 x.body.names.length c1, .slice A2 x.body.kids.length c2] 46)) := (Below.refl _ _).alloc (Nat.le_refl _) _
  have R0 : Row (w.alloc (.cells #[.string x.type_, .int .i64 x.version, .int .i64 x.body.sort, .int .i64 x.body.num, .string x.body.text, .slice A1 x.body.names.length c1, .slice A2 x.body.kids.length c2] 46)) w.heap.size 46 [.string x.type_, .int .i64 x.version, .int .i64 x.body.sort, .int .i64 x.body.num, .string x.body.text, .slice A1 x.body.names.length c1, .slice A2 x.body.kids.length c2] := Row.new w _ _
  clear ho
  go_enter Tryd.func16, Tryd.ntmps16
  by_cases hx0 : ((x.type_.size : Nat) : Int) ≤ left
  · skip
    go_wp2_with fail
    refine (szTree_any _ _ _ _ _ (OwC.mTree w2 w3 w4 (o1.below hB0 l1) (o2.below hB0 l2)) ((l1.app l2).up hB0) (by omega) (by omega)).mono ?_
    rintro e w1_ ⟨rfl, hb1⟩
    have hB1 := hB0.trans (hb1.mono hB0.size)
    have R1 := R0.below hb1 R0.lt
    by_cases hx1 : ((x.body.bulk : Nat) : Int) ≤ left - ((x.type_.size : Nat) : Int)
    · rw [szr_yes hx1]
      go_wp2
      go_ret
      exact ⟨ret_int (by rw [szr_yes (by have := HK.out; omega)]; have := HK.out; omega), hB1⟩
    · rw [szr_no hx1]
      go_wp2
      go_ret
      exact ⟨ret_int (by rw [szr_no (by have := HK.out; omega)]), hB1⟩
  · go_wp2
    go_ret
    exact ⟨ret_int (by rw [szr_no (by have := HK.out; omega)]), hB0⟩
theorem szEvent_any (x : Event) : SzEvent x := szEvent_of x

theorem info_Event : (Tryd.prog.info? 50).map (fun i => (i.zero, i.size, i.bytes)) = some (some (.agg #[.string .empty, .int .i64 0, .int .i64 0, .int .i64 0, .string .empty, .slice none 0 0, .slice none 0 0]), 7, 104) := by kernel_rfl
def ToEvent (x : Event) : Prop := ∀ (us : List Value) (fp : List Nat) (w : World), OwC w x.cells us fp → Lt fp w.heap.size → x.bulk ≤ 1048576 →
  Calls Tryd.prog 18 #[.agg us.toArray] w fun e w' => ∃ vs fq, e = .returned (.agg vs.toArray) ∧ OwC w' x.cells vs fq ∧ New w' fq w.heap.size ∧ Below w.heap.size w w'
set_option maxRecDepth 100000 in
set_option maxHeartbeats 400000 in
theorem toEvent_of (x : Event) : ToEvent x := by
  intro us fp w ho hf hbk
  obtain ⟨A1, c1, A2, c2, f1, f2, rfl, w0, w1, w2, w3, w4, o1, o2, rfl⟩ := ho.oEvent
  have l1 := hf.left
  have l2 := hf.right
  rw [Event.bulk_eq] at hbk
  have hB0 : Below w.heap.size w (((w.alloc (.cells #[.string x.type_, .int .i64 x.version, .int .i64 x.body.sort, .int .i64 x.body.num, .string x.body.text, .slice A1 x.body.names.length c1, .slice A2 x.body.kids.length c2] 46)).alloc (.cells #[.string .empty, .int .i64 0, .int .i64 0, .int .i64 0, .string .empty, .slice none 0 0, .slice none 0 0] 50)).alloc (.cells #[.string x.type_, .int .i64 x.version, .int .i64 0, .int .i64 0, .string .empty, .slice none 0 0, .slice none 0 0] 50)) := (((Below.refl _ _).alloc (Nat.le_refl _) _).alloc (by simp) _).alloc (by simp; omega) _
  have R0 : Row (((w.alloc (.cells #[.string x.type_, .int .i64 x.version, .int .i64 x.body.sort, .int .i64 x.body.num, .string x.body.text, .slice A1 x.body.names.length c1, .slice A2 x.body.kids.length c2] 46)).alloc (.cells #[.string .empty, .int .i64 0, .int .i64 0, .int .i64 0, .string .empty, .slice none 0 0, .slice none 0 0] 50)).alloc (.cells #[.string x.type_, .int .i64 x.version, .int .i64 0, .int .i64 0, .string .empty, .slice none 0 0, .slice none 0 0] 50)) w.heap.size 46 [.string x.type_, .int .i64 x.version, .int .i64 x.body.sort, .int .i64 x.body.num, .string x.body.text, .slice A1 x.body.names.length c1, .slice A2 x.body.kids.length c2] := ((Row.new w _ _).alloc _).alloc _
  have Z0 : Row (((w.alloc (.cells #[.string x.type_, .int .i64 x.version, .int .i64 x.body.sort, .int .i64 x.body.num, .string x.body.text, .slice A1 x.body.names.length c1, .slice A2 x.body.kids.length c2] 46)).alloc (.cells #[.string .empty, .int .i64 0, .int .i64 0, .int .i64 0, .string .empty, .slice none 0 0, .slice none 0 0] 50)).alloc (.cells #[.string x.type_, .int .i64 x.version, .int .i64 0, .int .i64 0, .string .empty, .slice none 0 0, .slice none 0 0] 50)) (w.heap.size + 1) 50 [.string .empty, .int .i64 0, .int .i64 0, .int .i64 0, .string .empty, .slice none 0 0, .slice none 0 0] := by
    have h := (Row.new (w.alloc (.cells #[.string x.type_, .int .i64 x.version, .int .i64 x.body.sort, .int .i64 x.body.num, .string x.body.text, .slice A1 x.body.names.length c1, .slice A2 x.body.kids.length c2] 46)) 50 [.string .empty, .int .i64 0, .int .i64 0, .int .i64 0, .string .empty, .slice none 0 0, .slice none 0 0]).alloc (.cells #[.string x.type_, .int .i64 x.version, .int .i64 0, .int .i64 0, .string .empty, .slice none 0 0, .slice none 0 0] 50)
    simpa using h
  have O0 : Row (((w.alloc (.cells #[.string x.type_, .int .i64 x.version, .int .i64 x.body.sort, .int .i64 x.body.num, .string x.body.text, .slice A1 x.body.names.length c1, .slice A2 x.body.kids.length c2] 46)).alloc (.cells #[.string .empty, .int .i64 0, .int .i64 0, .int .i64 0, .string .empty, .slice none 0 0, .slice none 0 0] 50)).alloc (.cells #[.string x.type_, .int .i64 x.version, .int .i64 0, .int .i64 0, .string .empty, .slice none 0 0, .slice none 0 0] 50)) (w.heap.size + 1 + 1) 50 [.string x.type_, .int .i64 x.version, .int .i64 0, .int .i64 0, .string .empty, .slice none 0 0, .slice none 0 0] := by
    have h := Row.new ((w.alloc (.cells #[.string x.type_, .int .i64 x.version, .int .i64 x.body.sort, .int .i64 x.body.num, .string x.body.text, .slice A1 x.body.names.length c1, .slice A2 x.body.kids.length c2] 46)).alloc (.cells #[.string .empty, .int .i64 0, .int .i64 0, .int .i64 0, .string .empty, .slice none 0 0, .slice none 0 0] 50)) 50 [.string x.type_, .int .i64 x.version, .int .i64 0, .int .i64 0, .string .empty, .slice none 0 0, .slice none 0 0]
    simpa using h
  clear ho
  go_enter Tryd.func18, Tryd.ntmps18
  go_wp2_with fail
  have hX0 := hB0
  refine (toTree_any _ _ _ _ (OwC.mTree w2 w3 w4 (o1.below hX0 l1) (o2.below hX0 l2)) ((l1.app l2).up hX0) (by omega)).mono ?_
  rintro e w1_ ⟨y1, q1, rfl, hy1, N1, hb1⟩
  obtain ⟨D1_1, e1_1, D1_2, e1_2, q1_1, q1_2, rfl, _, _, _, hy1_1, hy1_2, rfl⟩ := hy1.oTree
  have Y1_1 := hide hy1_1
  clear hy1_1
  have Y1_2 := hide hy1_2
  clear hy1_2
  clear hy1
  have N1 := N1.mono (lo' := w.heap.size + 3) (by simp)
  have M1 := N1.lt
  have hB1 := hX0.trans (hb1.mono hX0.size)
  have z1 : w.heap.size + 1 + 1 < w1_.heap.size := Nat.lt_of_lt_of_le O0.lt hb1.size
  have R1 := R0.below hb1 (by exact R0.lt)
  have Z1 := Z0.below hb1 (by exact Z0.lt)
  have O1 : Row w1_ (w.heap.size + 1 + 1) 50 [.string x.type_, .int .i64 x.version, .int .i64 0, .int .i64 0, .string .empty, .slice none 0 0, .slice none 0 0] := by
    have h := O0.below hb1 (by exact O0.lt)
    simpa using h
  have u1_2 := O1.cell 2
  have t1_2 := O1.frozen 2
  have u1_3 := O1.cell 3
  have t1_3 := O1.frozen 3
  have u1_4 := O1.cell 4
  have t1_4 := O1.frozen 4
  have u1_5 := O1.cell 5
  have t1_5 := O1.frozen 5
  have u1_6 := O1.cell 6
  have t1_6 := O1.frozen 6
  have u1_0 := O1.cell 0
  have r0 := Z1.cell 0
  have s0 := Z1.frozen 0
  have u1_1 := O1.cell 1
  have r1 := Z1.cell 1
  have s1 := Z1.frozen 1
  have r2 := Z1.cell 2
  have s2 := Z1.frozen 2
  have r3 := Z1.cell 3
  have s3 := Z1.frozen 3
  have r4 := Z1.cell 4
  have s4 := Z1.frozen 4
  have r5 := Z1.cell 5
  have s5 := Z1.frozen 5
  have r6 := Z1.cell 6
  have s6 := Z1.frozen 6
  go_wp2
  refine bodyPost_ret (v := .agg #[.string x.type_, .int .i64 x.version, .int .i64 x.body.sort, .int .i64 x.body.num, .string x.body.text, .slice D1_1 x.body.names.length e1_1, .slice D1_2 x.body.kids.length e1_2]) (by simp [results, Tryd.results18, go_sem, r0, r1, r2, r3, r4, r5, r6, s0, s1, s2, s3, s4, s5, s6]) rfl ?_
  refine ⟨[.string x.type_, .int .i64 x.version, .int .i64 x.body.sort, .int .i64 x.body.num, .string x.body.text, .slice D1_1 x.body.names.length e1_1, .slice D1_2 x.body.kids.length e1_2], q1_1 ++ (q1_2), rfl, ?_, ?_, ?_⟩
  · exact OwC.mEvent w0 w1 w2 w3 w4 (by
      iterate 12 refine Ow.setCell ?_ (fun hm => absurd (N1.fr _ (List.mem_append_left _ hm)).1 (by simp; try omega)) _
      exact Y1_1.out) (by
      iterate 12 refine Ow.setCell ?_ (fun hm => absurd (N1.fr _ (List.mem_append_right _ hm)).1 (by simp; try omega)) _
      exact Y1_2.out)
  · have hN := N1
    have hN2 := hN.mono (lo' := w.heap.size) (by omega)
    iterate 12 refine New.setCell ?_ _ _
    simpa [List.append_assoc] using hN2
  · iterate 12 refine Below.setCell ?_ (by simp; try omega) _
    exact hB1
theorem toEvent_any (x : Event) : ToEvent x := toEvent_of x

def EqEvent (x : Event) : Prop := ∀ (us vs : List Value) (fp fq : List Nat) (w : World), OwC w x.cells us fp → OwC w x.cells vs fq → Lt fp w.heap.size → Lt fq w.heap.size →
  Calls Tryd.prog 20 #[.agg us.toArray, .agg vs.toArray] w fun e w' => e = .returned (.bool true) ∧ Below w.heap.size w w'
set_option maxRecDepth 100000 in
theorem eqEvent_of (x : Event) : EqEvent x := by
  intro us vs fp fq w ho ho' hf hf'
  obtain ⟨A1, c1, A2, c2, f1, f2, rfl, w0, w1, w2, w3, w4, o1, o2, rfl⟩ := ho.oEvent
  obtain ⟨bA1, bc1, bA2, bc2, bf1, bf2, rfl, bw0, bw1, bw2, bw3, bw4, bo1, bo2, rfl⟩ := ho'.oEvent
  have l1 := hf.left
  have l2 := hf.right
  have k1 := hf'.left
  have k2 := hf'.right
  have hB0 : Below w.heap.size w ((w.alloc (.cells #[.string x.type_, .int .i64 x.version, .int .i64 x.body.sort, .int .i64 x.body.num, .string x.body.text, .slice A1 x.body.names.length c1, .slice A2 x.body.kids.length c2] 50)).alloc (.cells #[.string x.type_, .int .i64 x.version, .int .i64 x.body.sort, .int .i64 x.body.num, .string x.body.text, .slice bA1 x.body.names.length bc1, .slice bA2 x.body.kids.length bc2] 50)) := ((Below.refl _ _).alloc (Nat.le_refl _) _).alloc (by simp) _
  have R0 : Row ((w.alloc (.cells #[.string x.type_, .int .i64 x.version, .int .i64 x.body.sort, .int .i64 x.body.num, .string x.body.text, .slice A1 x.body.names.length c1, .slice A2 x.body.kids.length c2] 50)).alloc (.cells #[.string x.type_, .int .i64 x.version, .int .i64 x.body.sort, .int .i64 x.body.num, .string x.body.text, .slice bA1 x.body.names.length bc1, .slice bA2 x.body.kids.length bc2] 50)) w.heap.size 50 [.string x.type_, .int .i64 x.version, .int .i64 x.body.sort, .int .i64 x.body.num, .string x.body.text, .slice A1 x.body.names.length c1, .slice A2 x.body.kids.length c2] := (Row.new w _ _).alloc _
  have S0 : Row ((w.alloc (.cells #[.string x.type_, .int .i64 x.version, .int .i64 x.body.sort, .int .i64 x.body.num, .string x.body.text, .slice A1 x.body.names.length c1, .slice A2 x.body.kids.length c2] 50)).alloc (.cells #[.string x.type_, .int .i64 x.version, .int .i64 x.body.sort, .int .i64 x.body.num, .string x.body.text, .slice bA1 x.body.names.length bc1, .slice bA2 x.body.kids.length bc2] 50)) (w.heap.size + 1) 50 [.string x.type_, .int .i64 x.version, .int .i64 x.body.sort, .int .i64 x.body.num, .string x.body.text, .slice bA1 x.body.names.length bc1, .slice bA2 x.body.kids.length bc2] := by
    have h := Row.new (w.alloc (.cells #[.string x.type_, .int .i64 x.version, .int .i64 x.body.sort, .int .i64 x.body.num, .string x.body.text, .slice A1 x.body.names.length c1, .slice A2 x.body.kids.length c2] 50)) 50 [.string x.type_, .int .i64 x.version, .int .i64 x.body.sort, .int .i64 x.body.num, .string x.body.text, .slice bA1 x.body.names.length bc1, .slice bA2 x.body.kids.length bc2]
    simpa using h
  clear ho ho'
  go_enter Tryd.func20, Tryd.ntmps20
  go_wp2_with fail
  refine (eqTree_any _ _ _ _ _ _ (OwC.mTree w2 w3 w4 (o1.below hB0 l1) (o2.below hB0 l2)) (OwC.mTree w2 w3 w4 (bo1.below hB0 k1) (bo2.below hB0 k2)) ((l1.app l2).up hB0) ((k1.app k2).up hB0)).mono ?_
  rintro e w1_ ⟨rfl, hb1⟩
  have hB1 := hB0.trans (hb1.mono hB0.size)
  have R1 := R0.below hb1 R0.lt
  have S1 := S0.below hb1 S0.lt
  go_wp2
  go_ret
  exact ⟨rfl, hB1⟩
theorem eqEvent_any (x : Event) : EqEvent x := eqEvent_of x

end Go.Proofs.YtclljkojkmjboaaDoor
