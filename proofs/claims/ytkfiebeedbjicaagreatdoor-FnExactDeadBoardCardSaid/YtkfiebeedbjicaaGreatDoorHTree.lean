/-
  Tree: what the laws' own helpers do: the size, a copy, equality.
-/
import Derived.Test.YtkfiebeedbjicaaGreatDoorDTree
set_option linter.unusedVariables false
set_option linter.unusedSimpArgs false
namespace Go.Proofs.YtkfiebeedbjicaaGreatDoor
open Go.ChangeShapes Go.WideShapes Go.ChangeAt Go.RowKit

def SzTreeS (l : List Tree) : Prop := ∀ (A : Option Addr) (n c : Nat) (fp : List Nat) (left : Int) (w : World), Ow w (.s 5 l.length (l.flatMap Tree.cells)) (.slice A n c) fp → Lt fp w.heap.size → 0 ≤ left → left ≤ 1048576 →
  Calls Tryz.prog 85 #[.slice A n c, .int .i64 left] w fun e w' => e = .returned (.int .i64 (szr left (Tree.bulkL l : Nat))) ∧ Below w.heap.size w w'
def SzTree (x : Tree) : Prop := ∀ (us : List Value) (fp : List Nat) (left : Int) (w : World), OwC w x.cells us fp → Lt fp w.heap.size → 0 ≤ left → left ≤ 1048576 →
  Calls Tryz.prog 76 #[.agg us.toArray, .int .i64 left] w fun e w' => e = .returned (.int .i64 (szr left (x.bulk : Nat))) ∧ Below w.heap.size w w'
set_option maxRecDepth 100000 in
theorem szTreeS_of (l : List Tree) (ih : ∀ x ∈ l, SzTree x) : SzTreeS l := by
  intro A n c fp left w h hf h0 h1
  obtain ⟨rfl, hc, hm⟩ := h.nlen
  unfold maxLen at hm
  have HX := hide (show ((Tree.bulkL l : Nat) : Int) = l.length + Tree.bulkS l by unfold Tree.bulkL; omega)
  go_enter Tryz.func85, Tryz.ntmps85
  go_wp2
  · go_ret
    exact ⟨ret_int (by rw [szr_no (by have := HX.out; omega)]), Below.refl _ _⟩
  · go_loopw [1, 5] (fun a i wr => (∃ k : Nat, k ≤ l.length ∧ (l.length : Int) + Tree.bulkS (l.take k) ≤ left ∧ a = .int .i64 (left - (l.length + Tree.bulkS (l.take k))) ∧ i = .int .i64 k) ∧ Below w.heap.size w wr) (fun _ i _ => l.length - (intOf i).toNat)
    case atStart => exact ⟨⟨0, Nat.zero_le _, by simp [Tree.bulkS]; omega, by simp [Tree.bulkS], rfl⟩, Below.refl _ _⟩
    case round =>
      obtain ⟨⟨k, hk, hb, rfl, rfl⟩, hbel⟩ := hrel
      by_cases hlt : k < l.length
      · obtain ⟨g, off, us, fi, rfl, hg, hfi, hul, hcs, ho⟩ := (h.below hbel hf).elem Tree.cells_len hlt
        have ho' := hide ho
        obtain ⟨A1, c1, A2, c2, f1, f2, rfl, w0, w1, w2, o1, o2, rfl⟩ := ho.oTree
        have p0 := hcs 0 _ rfl
        have p1 := hcs 1 _ rfl
        have p2 := hcs 2 _ rfl
        have p3 := hcs 3 _ rfl
        have p4 := hcs 4 _ rfl
        simp only [Nat.add_zero] at p0
        have HC := hide (ih _ (List.getElem_mem hlt))
        have HE := hide (Tree.bulkS_snoc l k hlt)
        have hle := Tree.bulkS_le l (k + 1)
        clear hcs ho
        generalize l[k] = x at *
        generalize Tree.bulkS (l.take k) = b at *
        go_wp2_with fail
        refine (HC.out _ _ _ _ ho'.out (hf.sub hfi |>.mono hbel.size) (by omega) (by omega)).mono ?_
        rintro e w1 ⟨rfl, hb1⟩
        by_cases hx : ((x.bulk : Nat) : Int) ≤ left - (l.length + b)
        · rw [szr_yes hx]
          go_wp2
          go_roundw
          case rel => exact ⟨⟨k + 1, by omega, by rw [HE.out]; omega, by rw [HE.out]; go_num, by go_num⟩, hbel.trans (hb1.mono hbel.size)⟩
          case measure => simp [intOf]; omega
        · rw [szr_no hx]
          go_wp2
          go_ret
          exact ⟨ret_int (by rw [szr_no (by have := HE.out; have := HX.out; omega)]), hbel.trans (hb1.mono hbel.size)⟩
      · obtain rfl : k = l.length := by omega
        go_wp2
        go_ret
        try rw [List.take_length] at hb
        exact ⟨ret_int (by (try rw [List.take_length]); rw [szr_yes (by have := HX.out; omega), HX.out]), hbel⟩

set_option maxRecDepth 100000 in
theorem szTree_of (x : Tree) (ih : ∀ y ∈ x.kids, SzTree y) : SzTree x := by
  intro us fp left w ho hf h0 h1
  obtain ⟨A1, c1, A2, c2, f1, f2, rfl, w0, w1, w2, o1, o2, rfl⟩ := ho.oTree
  have l1 := hf.left
  have l2 := hf.right
  have m2 := w2
  unfold maxLen at m2
  have HI := hide ih
  clear ih
  have HK := hide (show ((x.bulk : Nat) : Int) = ((x.text.size : Nat) : Int) + ((bulkStrs x.names : Nat) : Int) + ((Tree.bulkL x.kids : Nat) : Int) by have h := x.bulk_eq; unfold Tree.bulkL; omega)
  have hB0 : Below w.heap.size w (w.alloc (.cells #[.int .i64 x.sort, .int .i64 x.num, .string x.text, .slice A1 x.names.length c1, .slice A2 x.kids.length c2] 111)) := (Below.refl _ _).alloc (Nat.le_refl _) _
  have R0 : Row (w.alloc (.cells #[.int .i64 x.sort, .int .i64 x.num, .string x.text, .slice A1 x.names.length c1, .slice A2 x.kids.length c2] 111)) w.heap.size 111 [.int .i64 x.sort, .int .i64 x.num, .string x.text, .slice A1 x.names.length c1, .slice A2 x.kids.length c2] := Row.new w _ _
  clear ho
  go_enter Tryz.func76, Tryz.ntmps76
  by_cases hx0 : ((x.text.size : Nat) : Int) ≤ left
  · skip
    go_wp2_with fail
    refine (szStringS_any _ _ _ _ _ _ _ (o1.below hB0 l1) (by omega) (by omega)).mono ?_
    rintro e w1_ ⟨rfl, hb1⟩
    have hB1 := hB0.trans (hb1.mono hB0.size)
    have R1 := R0.below hb1 R0.lt
    by_cases hx1 : ((bulkStrs x.names : Nat) : Int) ≤ left - ((x.text.size : Nat) : Int)
    · rw [szr_yes hx1]
      have c1_4 := R1.cell 4
      go_wp2_with fail
      refine (szTreeS_of _ HI.out _ _ _ _ _ _ (o2.below hB1 l2) (l2.up hB1) (by omega) (by omega)).mono ?_
      rintro e w2_ ⟨rfl, hb2⟩
      have hB2 := hB1.trans (hb2.mono hB1.size)
      have R2 := R1.below hb2 R1.lt
      by_cases hx2 : ((Tree.bulkL x.kids : Nat) : Int) ≤ left - ((x.text.size : Nat) : Int) - ((bulkStrs x.names : Nat) : Int)
      · rw [szr_yes hx2]
        go_wp2
        go_ret
        exact ⟨ret_int (by rw [szr_yes (by have := HK.out; omega)]; have := HK.out; omega), hB2⟩
      · rw [szr_no hx2]
        go_wp2
        go_ret
        exact ⟨ret_int (by rw [szr_no (by have := HK.out; omega)]), hB2⟩
    · rw [szr_no hx1]
      go_wp2
      go_ret
      exact ⟨ret_int (by rw [szr_no (by have := HK.out; omega)]), hB1⟩
  · go_wp2
    go_ret
    exact ⟨ret_int (by rw [szr_no (by have := HK.out; omega)]), hB0⟩
theorem szTree_any (x : Tree) : SzTree x := Tree.ind szTree_of x
theorem szTreeS_any (l : List Tree) : SzTreeS l := szTreeS_of l fun x _ => szTree_any x

theorem info_Tree : (Tryz.prog.info? 53).map (fun i => (i.zero, i.size, i.bytes)) = some (some (.agg #[.int .i64 0, .int .i64 0, .string .empty, .slice none 0 0, .slice none 0 0]), 5, 80) := by kernel_rfl
def ToTree (x : Tree) : Prop := ∀ (us : List Value) (fp : List Nat) (w : World), OwC w x.cells us fp → Lt fp w.heap.size → x.bulk ≤ 1048576 →
  Calls Tryz.prog 78 #[.agg us.toArray] w fun e w' => ∃ vs fq, e = .returned (.agg vs.toArray) ∧ OwC w' x.cells vs fq ∧ New w' fq w.heap.size ∧ Below w.heap.size w w'
def ToTreeS (l : List Tree) : Prop := ∀ (A : Option Addr) (n c : Nat) (fp : List Nat) (w : World), Ow w (.s 5 l.length (l.flatMap Tree.cells)) (.slice A n c) fp → Lt fp w.heap.size → Tree.bulkL l ≤ 1048576 →
  Calls Tryz.prog 89 #[.slice A n c] w fun e w' => ∃ y fq, e = .returned y ∧ Ow w' (.s 5 l.length (l.flatMap Tree.cells)) y fq ∧ New w' fq w.heap.size ∧ Below w.heap.size w w'
set_option maxRecDepth 100000 in
set_option maxHeartbeats 400000 in
theorem toTree_of (x : Tree) (ih : ToTreeS x.kids) : ToTree x := by
  intro us fp w ho hf hbk
  obtain ⟨A1, c1, A2, c2, f1, f2, rfl, w0, w1, w2, o1, o2, rfl⟩ := ho.oTree
  have l1 := hf.left
  have l2 := hf.right
  have HI := hide ih
  clear ih
  rw [Tree.bulk_eq] at hbk
  have hs_names : x.names.length ≤ 1048576 := by unfold bulkStrs at hbk; omega
  have hB0 : Below w.heap.size w (((w.alloc (.cells #[.int .i64 x.sort, .int .i64 x.num, .string x.text, .slice A1 x.names.length c1, .slice A2 x.kids.length c2] 111)).alloc (.cells #[.int .i64 0, .int .i64 0, .string .empty, .slice none 0 0, .slice none 0 0] 53)).alloc (.cells #[.int .i64 x.sort, .int .i64 x.num, .string x.text, .slice none 0 0, .slice none 0 0] 53)) := (((Below.refl _ _).alloc (Nat.le_refl _) _).alloc (by simp) _).alloc (by simp; omega) _
  have R0 : Row (((w.alloc (.cells #[.int .i64 x.sort, .int .i64 x.num, .string x.text, .slice A1 x.names.length c1, .slice A2 x.kids.length c2] 111)).alloc (.cells #[.int .i64 0, .int .i64 0, .string .empty, .slice none 0 0, .slice none 0 0] 53)).alloc (.cells #[.int .i64 x.sort, .int .i64 x.num, .string x.text, .slice none 0 0, .slice none 0 0] 53)) w.heap.size 111 [.int .i64 x.sort, .int .i64 x.num, .string x.text, .slice A1 x.names.length c1, .slice A2 x.kids.length c2] := ((Row.new w _ _).alloc _).alloc _
  have Z0 : Row (((w.alloc (.cells #[.int .i64 x.sort, .int .i64 x.num, .string x.text, .slice A1 x.names.length c1, .slice A2 x.kids.length c2] 111)).alloc (.cells #[.int .i64 0, .int .i64 0, .string .empty, .slice none 0 0, .slice none 0 0] 53)).alloc (.cells #[.int .i64 x.sort, .int .i64 x.num, .string x.text, .slice none 0 0, .slice none 0 0] 53)) (w.heap.size + 1) 53 [.int .i64 0, .int .i64 0, .string .empty, .slice none 0 0, .slice none 0 0] := by
    have h := (Row.new (w.alloc (.cells #[.int .i64 x.sort, .int .i64 x.num, .string x.text, .slice A1 x.names.length c1, .slice A2 x.kids.length c2] 111)) 53 [.int .i64 0, .int .i64 0, .string .empty, .slice none 0 0, .slice none 0 0]).alloc (.cells #[.int .i64 x.sort, .int .i64 x.num, .string x.text, .slice none 0 0, .slice none 0 0] 53)
    simpa using h
  have O0 : Row (((w.alloc (.cells #[.int .i64 x.sort, .int .i64 x.num, .string x.text, .slice A1 x.names.length c1, .slice A2 x.kids.length c2] 111)).alloc (.cells #[.int .i64 0, .int .i64 0, .string .empty, .slice none 0 0, .slice none 0 0] 53)).alloc (.cells #[.int .i64 x.sort, .int .i64 x.num, .string x.text, .slice none 0 0, .slice none 0 0] 53)) (w.heap.size + 1 + 1) 53 [.int .i64 x.sort, .int .i64 x.num, .string x.text, .slice none 0 0, .slice none 0 0] := by
    have h := Row.new ((w.alloc (.cells #[.int .i64 x.sort, .int .i64 x.num, .string x.text, .slice A1 x.names.length c1, .slice A2 x.kids.length c2] 111)).alloc (.cells #[.int .i64 0, .int .i64 0, .string .empty, .slice none 0 0, .slice none 0 0] 53)) 53 [.int .i64 x.sort, .int .i64 x.num, .string x.text, .slice none 0 0, .slice none 0 0]
    simpa using h
  clear ho
  go_enter Tryz.func78, Tryz.ntmps78
  go_wp2_with fail
  have hX0 := hB0
  refine (toStringS_any _ _ _ _ _ _ (o1.below hX0 l1) (l1.up hX0) (by omega)).mono ?_
  rintro e w1_ ⟨y1, q1, rfl, hy1, N1, hb1⟩
  obtain ⟨D1, e1, rfl, _⟩ := hy1.slice
  have Y1 := hide hy1
  clear hy1
  have N1 := N1.mono (lo' := w.heap.size + 3) (by simp)
  have M1 := N1.lt
  have hB1 := hX0.trans (hb1.mono hX0.size)
  have z1 : w.heap.size + 1 + 1 < w1_.heap.size := Nat.lt_of_lt_of_le O0.lt hb1.size
  have R1 := R0.below hb1 (by exact R0.lt)
  have Z1 := Z0.below hb1 (by exact Z0.lt)
  have O1 : Row w1_ (w.heap.size + 1 + 1) 53 [.int .i64 x.sort, .int .i64 x.num, .string x.text, .slice none 0 0, .slice none 0 0] := by
    have h := O0.below hb1 (by exact O0.lt)
    simpa using h
  have c1_4 := R1.cell 4
  have u1_3 := O1.cell 3
  have t1_3 := O1.frozen 3
  go_wp2_with fail
  have hX1 := (hB1.setCell (p := ⟨w.heap.size + 1 + 1, 3, none⟩) (by show w.heap.size ≤ w.heap.size + 1 + 1; omega) (.slice D1 x.names.length e1))
  refine (HI.out _ _ _ _ _ (o2.below hX1 l2) (l2.up hX1) (by unfold Tree.bulkL; omega)).mono ?_
  rintro e w2_ ⟨y2, q2, rfl, hy2, N2, hb2⟩
  obtain ⟨D2, e2, rfl, _⟩ := hy2.slice
  have Y2 := hide hy2
  clear hy2
  have N2 := N2.mono (lo' := w1_.heap.size) (by simp [World.setCell])
  have M2 := N2.lt
  have hB2 := hX1.trans (hb2.mono hX1.size)
  have z2 : w.heap.size + 1 + 1 < w2_.heap.size := Nat.lt_of_lt_of_le z1 (by have := hb2.size; simpa [World.setCell] using this)
  have R2 := (R1.far (p := ⟨w.heap.size + 1 + 1, 3, none⟩) (by show w.heap.size ≠ w.heap.size + 1 + 1; omega) (.slice D1 x.names.length e1)).below hb2 (by simp [World.setCell]; omega)
  have Z2 := (Z1.far (p := ⟨w.heap.size + 1 + 1, 3, none⟩) (by show w.heap.size + 1 ≠ w.heap.size + 1 + 1; omega) (.slice D1 x.names.length e1)).below hb2 (by simp [World.setCell]; omega)
  have O2 : Row w2_ (w.heap.size + 1 + 1) 53 [.int .i64 x.sort, .int .i64 x.num, .string x.text, .slice D1 x.names.length e1, .slice none 0 0] := by
    have h := (O1.set 3 (.slice D1 x.names.length e1)).below hb2 (by simp [World.setCell]; omega)
    simpa using h
  have Y1 := hide ((Y1.out.setCell (a := ⟨w.heap.size + 1 + 1, 3, none⟩) (fun hm => absurd (N1.fr _ hm).1 (by show ¬ _ ≤ w.heap.size + 1 + 1; omega)) (.slice D1 x.names.length e1)).below hb2 (fun b hb => Nat.lt_of_lt_of_le (M1 b hb) (by simp [World.setCell])))
  have N1 := (N1.setCell ⟨w.heap.size + 1 + 1, 3, none⟩ (.slice D1 x.names.length e1)).below hb2 (fun b hb => Nat.lt_of_lt_of_le (M1 b hb) (by simp [World.setCell]))
  have v2 : w1_.heap.size ≤ w2_.heap.size := by have := hb2.size; simpa [World.setCell] using this
  have u2_4 := O2.cell 4
  have t2_4 := O2.frozen 4
  have u2_0 := O2.cell 0
  have r0 := Z2.cell 0
  have s0 := Z2.frozen 0
  have u2_1 := O2.cell 1
  have r1 := Z2.cell 1
  have s1 := Z2.frozen 1
  have u2_2 := O2.cell 2
  have r2 := Z2.cell 2
  have s2 := Z2.frozen 2
  have u2_3 := O2.cell 3
  have r3 := Z2.cell 3
  have s3 := Z2.frozen 3
  have r4 := Z2.cell 4
  have s4 := Z2.frozen 4
  go_wp2
  refine bodyPost_ret (v := .agg #[.int .i64 x.sort, .int .i64 x.num, .string x.text, .slice D1 x.names.length e1, .slice D2 x.kids.length e2]) (by simp [results, Tryz.results78, go_sem, r0, r1, r2, r3, r4, s0, s1, s2, s3, s4]) rfl ?_
  refine ⟨[.int .i64 x.sort, .int .i64 x.num, .string x.text, .slice D1 x.names.length e1, .slice D2 x.kids.length e2], q1 ++ (q2), rfl, ?_, ?_, ?_⟩
  · exact OwC.mTree w0 w1 w2 (by
      iterate 6 refine Ow.setCell ?_ (fun hm => absurd (N1.fr _ hm).1 (by simp; try omega)) _
      exact Y1.out) (by
      iterate 6 refine Ow.setCell ?_ (fun hm => absurd (N2.fr _ hm).1 (by simp; try omega)) _
      exact Y2.out)
  · have hN := (New.app N1 N2 M1 (by omega))
    have hN2 := hN.mono (lo' := w.heap.size) (by omega)
    iterate 6 refine New.setCell ?_ _ _
    simpa [List.append_assoc] using hN2
  · iterate 6 refine Below.setCell ?_ (by simp; try omega) _
    exact hB2
set_option maxRecDepth 100000 in
set_option maxHeartbeats 400000 in
theorem toTreeS_of (l : List Tree) (ih : ∀ x ∈ l, ToTree x) : ToTreeS l := by
  intro A n c fp w h hf hn
  obtain ⟨rfl, hc, hm⟩ := h.nlen
  unfold maxLen at hm
  unfold Tree.bulkL at hn
  obtain ⟨i0, hi, hz0, hz1, hz2⟩ := info_parts info_Tree
  have hmk := run_make_rowN (P := Tryz.prog) 51 53 i0 _ Tryz.underlying51 hi hz0 .i64 .i64 l.length l.length (Nat.le_refl _) (by rw [hz2]; omega) (by omega)
  rw [hz1] at hmk
  clear hi hz0 hz1 hz2 i0
  go_enter Tryz.func89, Tryz.ntmps89
  go_wp2
  go_loopw [4] (fun i wr => (∃ k us fq, k ≤ l.length ∧ i = .int .i64 (k : Nat) ∧ OwC wr ((l.take k).flatMap Tree.cells) us fq ∧ New wr fq (w.heap.size + 1) ∧ us.length = k * 5 ∧ Fill wr w.heap.size 53 us ((l.length - k) * 5)) ∧ Below w.heap.size w wr) (fun i _ => l.length - (intOf i).toNat)
  case atStart => exact ⟨⟨0, [], [], Nat.zero_le _, rfl, by simp [OwC], New.nil _ _, rfl, Fill.made _ _ _ _⟩, (Below.refl _ _).alloc (Nat.le_refl _) _⟩
  case round =>
    obtain ⟨⟨k, us, fq, hk, rfl, ho, hfr, hul, hfl⟩, hb⟩ := hrel
    by_cases hlt : k < l.length
    · obtain ⟨g, off, vs, fi, rfl, hg, hfi, hvl, hcs, hov⟩ := (h.below hb hf).elem Tree.cells_len hlt
      have hov' := hov
      obtain ⟨A1, c1, A2, c2, f1, f2, rfl, w0, w1, w2, o1, o2, rfl⟩ := hov.oTree
      have p0 := hcs 0 _ rfl
      have p1 := hcs 1 _ rfl
      have p2 := hcs 2 _ rfl
      have p3 := hcs 3 _ rfl
      have p4 := hcs 4 _ rfl
      simp only [Nat.add_zero] at p0
      have HC := hide (ih _ (List.getElem_mem hlt))
      have HS := hide (Tree.cells_snoc l k hlt)
      have hble := Tree.bulk_at l k hlt
      have HF := hide hfl
      have HO := hide ho
      have HH := hide h
      have HW := hide hov'
      clear hfl ho h hcs hov hov'
      generalize l[k] = x at *
      go_wp2_with fail
      refine (HC.out _ _ _ HW.out (hf.sub hfi |>.mono hb.size) (by omega)).mono ?_
      rintro e w1 ⟨us1, fq1, rfl, ho1, hfr1, hb1⟩
      have HO1 := hide ho1
      obtain ⟨bA1, bc1, bA2, bc2, bf1, bf2, rfl, bw0, bw1, bw2, bo1, bo2, rfl⟩ := ho1.oTree
      have HF1 := hide (HF.out.below hb1 HF.out.lt)
      obtain ⟨z0, hz0⟩ := HF1.out.cell (i := k * 5 + 0) (by omega) (by omega)
      have hfz0 := HF1.out.frozen (k * 5 + 0)
      obtain ⟨z1, hz1⟩ := HF1.out.cell (i := k * 5 + 1) (by omega) (by omega)
      have hfz1 := HF1.out.frozen (k * 5 + 1)
      obtain ⟨z2, hz2⟩ := HF1.out.cell (i := k * 5 + 2) (by omega) (by omega)
      have hfz2 := HF1.out.frozen (k * 5 + 2)
      obtain ⟨z3, hz3⟩ := HF1.out.cell (i := k * 5 + 3) (by omega) (by omega)
      have hfz3 := HF1.out.frozen (k * 5 + 3)
      obtain ⟨z4, hz4⟩ := HF1.out.cell (i := k * 5 + 4) (by omega) (by omega)
      have hfz4 := HF1.out.frozen (k * 5 + 4)
      simp only [Nat.add_zero] at hz0 hfz0
      clear ho1
      go_wp2
      go_roundw
      case rel =>
        have e3 : (l.length - k) * 5 = (l.length - (k + 1)) * 5 + 1 + 1 + 1 + 1 + 1 := by omega
        have hF := HF1.out
        rw [e3] at hF
        have hfr2 : New w1 fq (w.heap.size + 1) := hfr.below hb1 hfr.lt
        have hlo : w.heap.size + 1 ≤ wr.heap.size := HF.out.lt
        have hN := New.app hfr2 hfr1 hfr.lt hlo
        have nm1 : w.heap.size ∉ fq := hfr.out (by omega)
        have nm2 : w.heap.size ∉ bf1 ++ (bf2) := hfr1.out (by omega)
        refine ⟨⟨k + 1, us ++ [.int .i64 x.sort] ++ [.int .i64 x.num] ++ [.string x.text] ++ [.slice bA1 x.names.length bc1] ++ [.slice bA2 x.kids.length bc2], fq ++ (bf1 ++ (bf2)), by omega, by go_num, ?_, ?_, by simp [hul]; omega, ?_⟩, ?_⟩
        · rw [HS.out, List.append_assoc, List.append_assoc, List.append_assoc, List.append_assoc]
          refine OwC.append ?_ ?_
          · have hx := HO.out.below hb1 hfr.lt
            iterate 5 refine OwC.setCell ?_ nm1 _
            exact hx
          · have hx := HO1.out
            iterate 5 refine OwC.setCell ?_ nm2 _
            exact hx
        · iterate 5 refine New.setCell ?_ _ _
          exact hN
        · exact (((((hF.push (by simp [hul]) _).push (by simp [hul]) _).push (by simp [hul]) _).push (by simp [hul]) _).push (by simp [hul]) _)
        · have hx := hb.trans (hb1.mono hb.size)
          iterate 5 refine Below.setCell ?_ (by simp; try omega) _
          exact hx
      case measure => simp [intOf]; omega
    · obtain rfl : k = l.length := by omega
      have HB := hide hb
      have hfl' := hfl
      rw [Nat.sub_self, Nat.zero_mul] at hfl'
      rw [List.take_length] at ho
      have hd := hide (hfl'.done ho (n := l.length) (k := 5) (flat_len Tree.cells 5 Tree.cells_len l) (by unfold maxLen; omega))
      obtain ⟨zs, _, hrow⟩ := hfl
      clear hb hfl' ho
      go_wp2
      go_ret
      refine ⟨_, _, rfl, hd.out, ?_, HB.out⟩
      split
      · exact New.nil _ _
      · exact hfr.cons (Nat.le_refl _) (Unf.row hrow) hrow.lt

theorem toTree_any (x : Tree) : ToTree x := Tree.ind (fun k ih => toTree_of k (toTreeS_of _ ih)) x
theorem toTreeS_any (l : List Tree) : ToTreeS l := toTreeS_of l fun x _ => toTree_any x

def EqTree (x : Tree) : Prop := ∀ (us vs : List Value) (fp fq : List Nat) (w : World), OwC w x.cells us fp → OwC w x.cells vs fq → Lt fp w.heap.size → Lt fq w.heap.size →
  Calls Tryz.prog 83 #[.agg us.toArray, .agg vs.toArray] w fun e w' => e = .returned (.bool true) ∧ Below w.heap.size w w'
def EqTreeS (l : List Tree) : Prop := ∀ (A A' : Option Addr) (n n' c c' : Nat) (fp fq : List Nat) (w : World), Ow w (.s 5 l.length (l.flatMap Tree.cells)) (.slice A n c) fp → Ow w (.s 5 l.length (l.flatMap Tree.cells)) (.slice A' n' c') fq → Lt fp w.heap.size → Lt fq w.heap.size →
  Calls Tryz.prog 99 #[.slice A n c, .slice A' n' c'] w fun e w' => e = .returned (.bool true) ∧ Below w.heap.size w w'
set_option maxRecDepth 100000 in
theorem eqTree_of (x : Tree) (ih : EqTreeS x.kids) : EqTree x := by
  intro us vs fp fq w ho ho' hf hf'
  obtain ⟨A1, c1, A2, c2, f1, f2, rfl, w0, w1, w2, o1, o2, rfl⟩ := ho.oTree
  obtain ⟨bA1, bc1, bA2, bc2, bf1, bf2, rfl, bw0, bw1, bw2, bo1, bo2, rfl⟩ := ho'.oTree
  have l1 := hf.left
  have l2 := hf.right
  have k1 := hf'.left
  have k2 := hf'.right
  have HI := hide ih
  clear ih
  have hB0 : Below w.heap.size w ((w.alloc (.cells #[.int .i64 x.sort, .int .i64 x.num, .string x.text, .slice A1 x.names.length c1, .slice A2 x.kids.length c2] 53)).alloc (.cells #[.int .i64 x.sort, .int .i64 x.num, .string x.text, .slice bA1 x.names.length bc1, .slice bA2 x.kids.length bc2] 53)) := ((Below.refl _ _).alloc (Nat.le_refl _) _).alloc (by simp) _
  have R0 : Row ((w.alloc (.cells #[.int .i64 x.sort, .int .i64 x.num, .string x.text, .slice A1 x.names.length c1, .slice A2 x.kids.length c2] 53)).alloc (.cells #[.int .i64 x.sort, .int .i64 x.num, .string x.text, .slice bA1 x.names.length bc1, .slice bA2 x.kids.length bc2] 53)) w.heap.size 53 [.int .i64 x.sort, .int .i64 x.num, .string x.text, .slice A1 x.names.length c1, .slice A2 x.kids.length c2] := (Row.new w _ _).alloc _
  have S0 : Row ((w.alloc (.cells #[.int .i64 x.sort, .int .i64 x.num, .string x.text, .slice A1 x.names.length c1, .slice A2 x.kids.length c2] 53)).alloc (.cells #[.int .i64 x.sort, .int .i64 x.num, .string x.text, .slice bA1 x.names.length bc1, .slice bA2 x.kids.length bc2] 53)) (w.heap.size + 1) 53 [.int .i64 x.sort, .int .i64 x.num, .string x.text, .slice bA1 x.names.length bc1, .slice bA2 x.kids.length bc2] := by
    have h := Row.new (w.alloc (.cells #[.int .i64 x.sort, .int .i64 x.num, .string x.text, .slice A1 x.names.length c1, .slice A2 x.kids.length c2] 53)) 53 [.int .i64 x.sort, .int .i64 x.num, .string x.text, .slice bA1 x.names.length bc1, .slice bA2 x.kids.length bc2]
    simpa using h
  clear ho ho'
  go_enter Tryz.func83, Tryz.ntmps83
  go_wp2_with fail
  refine (eqStringS_same _ _ _ _ _ _ _ _ _ _ (o1.below hB0 l1) (bo1.below hB0 k1)).mono ?_
  rintro e w1_ ⟨rfl, hb1⟩
  have hB1 := hB0.trans (hb1.mono hB0.size)
  have R1 := R0.below hb1 R0.lt
  have S1 := S0.below hb1 S0.lt
  have c1_4 := R1.cell 4
  have d1_4 := S1.cell 4
  go_wp2_with fail
  refine (HI.out _ _ _ _ _ _ _ _ _ (o2.below hB1 l2) (bo2.below hB1 k2) (l2.up hB1) (k2.up hB1)).mono ?_
  rintro e w2_ ⟨rfl, hb2⟩
  have hB2 := hB1.trans (hb2.mono hB1.size)
  have R2 := R1.below hb2 R1.lt
  have S2 := S1.below hb2 S1.lt
  go_wp2
  go_ret
  exact ⟨rfl, hB2⟩
set_option maxRecDepth 100000 in
theorem eqTreeS_of (l : List Tree) (ih : ∀ x ∈ l, EqTree x) : EqTreeS l := by
  intro A A' n n' c c' fp fq w h h' hf hf'
  obtain ⟨rfl, hc, hm⟩ := h.nlen
  obtain ⟨rfl, hc', hm'⟩ := h'.nlen
  unfold maxLen at hm hm'
  go_enter Tryz.func99, Tryz.ntmps99
  go_wp2
  go_loopw [5] (fun i wr => (∃ k : Nat, k ≤ l.length ∧ i = .int .i64 k) ∧ Below w.heap.size w wr) (fun i _ => l.length - (intOf i).toNat)
  case atStart => exact ⟨⟨0, Nat.zero_le _, rfl⟩, Below.refl _ _⟩
  case round =>
    obtain ⟨⟨k, hk, rfl⟩, hb⟩ := hrel
    by_cases hlt : k < l.length
    · obtain ⟨g, off, vs, fi, rfl, hg, hfi, hvl, hcs, hov⟩ := (h.below hb hf).elem Tree.cells_len hlt
      obtain ⟨g', off', vs', fi', rfl, hg', hfi', hvl', hcs', hov'⟩ := (h'.below hb hf').elem Tree.cells_len hlt
      have HO := hide hov
      have HO' := hide hov'
      obtain ⟨A1, c1, A2, c2, f1, f2, rfl, w0, w1, w2, o1, o2, rfl⟩ := hov.oTree
      obtain ⟨bA1, bc1, bA2, bc2, bf1, bf2, rfl, bw0, bw1, bw2, bo1, bo2, rfl⟩ := hov'.oTree
      have p0 := hcs 0 _ rfl
      have q0 := hcs' 0 _ rfl
      have p1 := hcs 1 _ rfl
      have q1 := hcs' 1 _ rfl
      have p2 := hcs 2 _ rfl
      have q2 := hcs' 2 _ rfl
      have p3 := hcs 3 _ rfl
      have q3 := hcs' 3 _ rfl
      have p4 := hcs 4 _ rfl
      have q4 := hcs' 4 _ rfl
      simp only [Nat.add_zero] at p0 q0
      have HC := hide (ih _ (List.getElem_mem hlt))
      clear hcs hcs' hov hov'
      generalize l[k] = x at *
      go_wp2_with fail
      go_still_tail 8, (by kernel_rfl)
      change wpList _ _ _ _ _ wr.drew
      go_wp2_with fail
      refine (HC.out _ _ _ _ _ (HO.out.drewN 1) (HO'.out.drewN 1) (hf.sub hfi |>.mono hb.size) (hf'.sub hfi' |>.mono hb.size)).mono ?_
      rintro e w1 ⟨rfl, hb1⟩
      go_wp2
      go_roundw
      case rel => exact ⟨⟨k + 1, by omega, by go_num⟩, (below_drewN hb 1).trans (hb1.mono hb.size)⟩
      case measure => simp [intOf]; omega
    · obtain rfl : k = l.length := by omega
      go_wp2
      go_ret
      exact ⟨rfl, hb⟩

theorem eqTree_any (x : Tree) : EqTree x := Tree.ind (fun k ih => eqTree_of k (eqTreeS_of _ ih)) x
theorem eqTreeS_any (l : List Tree) : EqTreeS l := eqTreeS_of l fun x _ => eqTree_any x

end Go.Proofs.YtkfiebeedbjicaaGreatDoor
