/-
  Event: what the laws' own helpers do: the size, a copy, equality.
-/
import Derived.Test.YtkfiebeedbjicaaGreatDoorDEvent
import Derived.Test.YtkfiebeedbjicaaGreatDoorHTree
set_option linter.unusedVariables false
set_option linter.unusedSimpArgs false
namespace Go.Proofs.YtkfiebeedbjicaaGreatDoor
open Go.ChangeShapes Go.WideShapes Go.ChangeAt Go.RowKit

def SzEvent (x : Event) : Prop := ∀ (us : List Value) (fp : List Nat) (left : Int) (w : World), OwC w x.cells us fp → Lt fp w.heap.size → 0 ≤ left → left ≤ 1048576 →
  Calls Tryz.prog 67 #[.agg us.toArray, .int .i64 left] w fun e w' => e = .returned (.int .i64 (szr left (x.bulk : Nat))) ∧ Below w.heap.size w w'
set_option maxRecDepth 100000 in
theorem szEvent_of (x : Event) : SzEvent x := by
  intro us fp left w ho hf h0 h1
  obtain ⟨A1, c1, A2, c2, f1, f2, rfl, w0, w1, w2, w3, w4, o1, o2, rfl⟩ := ho.oEvent
  have l1 := hf.left
  have l2 := hf.right
  have m0 := w0
  unfold maxLen at m0
  have m4 := w4
  unfold maxLen at m4
  have HK := hide (show ((x.bulk : Nat) : Int) = ((x.type_.size : Nat) : Int) + ((x.body.bulk : Nat) : Int) by have h := x.bulk_eq; omega)
  have hB0 : Below w.heap.size w (w.alloc (.cells #[.string x.type_, .int .i64 x.version, .int .i64 x.body.sort, .int .i64 x.body.num, .string x.body.text, .slice A1 x.body.names.length c1, .slice A2 x.body.kids.length c2] 113)) := (Below.refl _ _).alloc (Nat.le_refl _) _
  have R0 : Row (w.alloc (.cells #[.string x.type_, .int .i64 x.version, .int .i64 x.body.sort, .int .i64 x.body.num, .string x.body.text, .slice A1 x.body.names.length c1, .slice A2 x.body.kids.length c2] 113)) w.heap.size 113 [.string x.type_, .int .i64 x.version, .int .i64 x.body.sort, .int .i64 x.body.num, .string x.body.text, .slice A1 x.body.names.length c1, .slice A2 x.body.kids.length c2] := Row.new w _ _
  clear ho
  go_enter Tryz.func67, Tryz.ntmps67
  by_cases hx0 : ((x.type_.size : Nat) : Int) ≤ left
  · skip
    go_wp2_with fail
    refine (szTree_any _ _ _ _ _ (OwC.mTree w2 w3 w4 (o1.below hB0 l1) (o2.below hB0 l2)) ((l1.app l2).up hB0) (by omega) (by omega)).mono ?_
    rintro e w1_ ⟨rfl, hb1⟩
    have hB1 := hB0.trans (hb1.mono hB0.size)
    have R1 := R0.below hb1 R0.lt
    by_cases hx1 : ((x.body.bulk : Nat) : Int) ≤ left - ((x.type_.size : Nat) : Int)
    · rw [szr_yes hx1]
      go_wp2
      go_ret
      exact ⟨ret_int (by rw [szr_yes (by have := HK.out; omega)]; have := HK.out; omega), hB1⟩
    · rw [szr_no hx1]
      go_wp2
      go_ret
      exact ⟨ret_int (by rw [szr_no (by have := HK.out; omega)]), hB1⟩
  · go_wp2
    go_ret
    exact ⟨ret_int (by rw [szr_no (by have := HK.out; omega)]), hB0⟩
theorem szEvent_any (x : Event) : SzEvent x := szEvent_of x
def SzEventS (l : List Event) : Prop := ∀ (A : Option Addr) (n c : Nat) (fp : List Nat) (left : Int) (w : World), Ow w (.s 7 l.length (l.flatMap Event.cells)) (.slice A n c) fp → Lt fp w.heap.size → 0 ≤ left → left ≤ 1048576 →
  Calls Tryz.prog 57 #[.slice A n c, .int .i64 left] w fun e w' => e = .returned (.int .i64 (szr left (Event.bulkL l : Nat))) ∧ Below w.heap.size w w'
set_option maxRecDepth 100000 in
theorem szEventS_of (l : List Event) (ih : ∀ x ∈ l, SzEvent x) : SzEventS l := by
  intro A n c fp left w h hf h0 h1
  obtain ⟨rfl, hc, hm⟩ := h.nlen
  unfold maxLen at hm
  have HX := hide (show ((Event.bulkL l : Nat) : Int) = l.length + Event.bulkS l by unfold Event.bulkL; omega)
  go_enter Tryz.func57, Tryz.ntmps57
  go_wp2
  · go_ret
    exact ⟨ret_int (by rw [szr_no (by have := HX.out; omega)]), Below.refl _ _⟩
  · go_loopw [1, 5] (fun a i wr => (∃ k : Nat, k ≤ l.length ∧ (l.length : Int) + Event.bulkS (l.take k) ≤ left ∧ a = .int .i64 (left - (l.length + Event.bulkS (l.take k))) ∧ i = .int .i64 k) ∧ Below w.heap.size w wr) (fun _ i _ => l.length - (intOf i).toNat)
    case atStart => exact ⟨⟨0, Nat.zero_le _, by simp [Event.bulkS]; omega, by simp [Event.bulkS], rfl⟩, Below.refl _ _⟩
    case round =>
      obtain ⟨⟨k, hk, hb, rfl, rfl⟩, hbel⟩ := hrel
      by_cases hlt : k < l.length
      · obtain ⟨g, off, us, fi, rfl, hg, hfi, hul, hcs, ho⟩ := (h.below hbel hf).elem Event.cells_len hlt
        have ho' := hide ho
        obtain ⟨A1, c1, A2, c2, f1, f2, rfl, w0, w1, w2, w3, w4, o1, o2, rfl⟩ := ho.oEvent
        have p0 := hcs 0 _ rfl
        have p1 := hcs 1 _ rfl
        have p2 := hcs 2 _ rfl
        have p3 := hcs 3 _ rfl
        have p4 := hcs 4 _ rfl
        have p5 := hcs 5 _ rfl
        have p6 := hcs 6 _ rfl
        simp only [Nat.add_zero] at p0
        have HC := hide (ih _ (List.getElem_mem hlt))
        have HE := hide (Event.bulkS_snoc l k hlt)
        have hle := Event.bulkS_le l (k + 1)
        clear hcs ho
        generalize l[k] = x at *
        generalize Event.bulkS (l.take k) = b at *
        go_wp2_with fail
        refine (HC.out _ _ _ _ ho'.out (hf.sub hfi |>.mono hbel.size) (by omega) (by omega)).mono ?_
        rintro e w1 ⟨rfl, hb1⟩
        by_cases hx : ((x.bulk : Nat) : Int) ≤ left - (l.length + b)
        · rw [szr_yes hx]
          go_wp2
          go_roundw
          case rel => exact ⟨⟨k + 1, by omega, by rw [HE.out]; omega, by rw [HE.out]; go_num, by go_num⟩, hbel.trans (hb1.mono hbel.size)⟩
          case measure => simp [intOf]; omega
        · rw [szr_no hx]
          go_wp2
          go_ret
          exact ⟨ret_int (by rw [szr_no (by have := HE.out; have := HX.out; omega)]), hbel.trans (hb1.mono hbel.size)⟩
      · obtain rfl : k = l.length := by omega
        go_wp2
        go_ret
        try rw [List.take_length] at hb
        exact ⟨ret_int (by (try rw [List.take_length]); rw [szr_yes (by have := HX.out; omega), HX.out]), hbel⟩

theorem szEventS_any (l : List Event) : SzEventS l := szEventS_of l fun x _ => szEvent_any x

theorem info_Event : (Tryz.prog.info? 55).map (fun i => (i.zero, i.size, i.bytes)) = some (some (.agg #[.string .empty, .int .i64 0, .int .i64 0, .int .i64 0, .string .empty, .slice none 0 0, .slice none 0 0]), 7, 104) := by kernel_rfl
def ToEvent (x : Event) : Prop := ∀ (us : List Value) (fp : List Nat) (w : World), OwC w x.cells us fp → Lt fp w.heap.size → x.bulk ≤ 1048576 →
  Calls Tryz.prog 69 #[.agg us.toArray] w fun e w' => ∃ vs fq, e = .returned (.agg vs.toArray) ∧ OwC w' x.cells vs fq ∧ New w' fq w.heap.size ∧ Below w.heap.size w w'
set_option maxRecDepth 100000 in
set_option maxHeartbeats 400000 in
theorem toEvent_of (x : Event) : ToEvent x := by
  intro us fp w ho hf hbk
  obtain ⟨A1, c1, A2, c2, f1, f2, rfl, w0, w1, w2, w3, w4, o1, o2, rfl⟩ := ho.oEvent
  have l1 := hf.left
  have l2 := hf.right
  rw [Event.bulk_eq] at hbk
  have hB0 : Below w.heap.size w (((w.alloc (.cells #[.string x.type_, .int .i64 x.version, .int .i64 x.body.sort, .int .i64 x.body.num, .string x.body.text, .slice A1 x.body.names.length c1, .slice A2 x.body.kids.length c2] 113)).alloc (.cells #[.string .empty, .int .i64 0, .int .i64 0, .int .i64 0, .string .empty, .slice none 0 0, .slice none 0 0] 55)).alloc (.cells #[.string x.type_, .int .i64 x.version, .int .i64 0, .int .i64 0, .string .empty, .slice none 0 0, .slice none 0 0] 55)) := (((Below.refl _ _).alloc (Nat.le_refl _) _).alloc (by simp) _).alloc (by simp; omega) _
  have R0 : Row (((w.alloc (.cells #[.string x.type_, .int .i64 x.version, .int .i64 x.body.sort, .int .i64 x.body.num, .string x.body.text, .slice A1 x.body.names.length c1, .slice A2 x.body.kids.length c2] 113)).alloc (.cells #[.string .empty, .int .i64 0, .int .i64 0, .int .i64 0, .string .empty, .slice none 0 0, .slice none 0 0] 55)).alloc (.cells #[.string x.type_, .int .i64 x.version, .int .i64 0, .int .i64 0, .string .empty, .slice none 0 0, .slice none 0 0] 55)) w.heap.size 113 [.string x.type_, .int .i64 x.version, .int .i64 x.body.sort, .int .i64 x.body.num, .string x.body.text, .slice A1 x.body.names.length c1, .slice A2 x.body.kids.length c2] := ((Row.new w _ _).alloc _).alloc _
  have Z0 : Row (((w.alloc (.cells #[.string x.type_, .int .i64 x.version, .int .i64 x.body.sort, .int .i64 x.body.num, .string x.body.text, .slice A1 x.body.names.length c1, .slice A2 x.body.kids.length c2] 113)).alloc (.cells #[.string .empty, .int .i64 0, .int .i64 0, .int .i64 0, .string .empty, .slice none 0 0, .slice none 0 0] 55)).alloc (.cells #[.string x.type_, .int .i64 x.version, .int .i64 0, .int .i64 0, .string .empty, .slice none 0 0, .slice none 0 0] 55)) (w.heap.size + 1) 55 [.string .empty, .int .i64 0, .int .i64 0, .int .i64 0, .string .empty, .slice none 0 0, .slice none 0 0] := by
    have h := (Row.new (w.alloc (.cells #[.string x.type_, .int .i64 x.version, .int .i64 x.body.sort, .int .i64 x.body.num, .string x.body.text, .slice A1 x.body.names.length c1, .slice A2 x.body.kids.length c2] 113)) 55 [.string .empty, .int .i64 0, .int .i64 0, .int .i64 0, .string .empty, .slice none 0 0, .slice none 0 0]).alloc (.cells #[.string x.type_, .int .i64 x.version, .int .i64 0, .int .i64 0, .string .empty, .slice none 0 0, .slice none 0 0] 55)
    simpa using h
  have O0 : Row (((w.alloc (.cells #[.string x.type_, .int .i64 x.version, .int .i64 x.body.sort, .int .i64 x.body.num, .string x.body.text, .slice A1 x.body.names.length c1, .slice A2 x.body.kids.length c2] 113)).alloc (.cells #[.string .empty, .int .i64 0, .int .i64 0, .int .i64 0, .string .empty, .slice none 0 0, .slice none 0 0] 55)).alloc (.cells #[.string x.type_, .int .i64 x.version, .int .i64 0, .int .i64 0, .string .empty, .slice none 0 0, .slice none 0 0] 55)) (w.heap.size + 1 + 1) 55 [.string x.type_, .int .i64 x.version, .int .i64 0, .int .i64 0, .string .empty, .slice none 0 0, .slice none 0 0] := by
    have h := Row.new ((w.alloc (.cells #[.string x.type_, .int .i64 x.version, .int .i64 x.body.sort, .int .i64 x.body.num, .string x.body.text, .slice A1 x.body.names.length c1, .slice A2 x.body.kids.length c2] 113)).alloc (.cells #[.string .empty, .int .i64 0, .int .i64 0, .int .i64 0, .string .empty, .slice none 0 0, .slice none 0 0] 55)) 55 [.string x.type_, .int .i64 x.version, .int .i64 0, .int .i64 0, .string .empty, .slice none 0 0, .slice none 0 0]
    simpa using h
  clear ho
  go_enter Tryz.func69, Tryz.ntmps69
  go_wp2_with fail
  have hX0 := hB0
  refine (toTree_any _ _ _ _ (OwC.mTree w2 w3 w4 (o1.below hX0 l1) (o2.below hX0 l2)) ((l1.app l2).up hX0) (by omega)).mono ?_
  rintro e w1_ ⟨y1, q1, rfl, hy1, N1, hb1⟩
  obtain ⟨D1_1, e1_1, D1_2, e1_2, q1_1, q1_2, rfl, _, _, _, hy1_1, hy1_2, rfl⟩ := hy1.oTree
  have Y1_1 := hide hy1_1
  clear hy1_1
  have Y1_2 := hide hy1_2
  clear hy1_2
  clear hy1
  have N1 := N1.mono (lo' := w.heap.size + 3) (by simp)
  have M1 := N1.lt
  have hB1 := hX0.trans (hb1.mono hX0.size)
  have z1 : w.heap.size + 1 + 1 < w1_.heap.size := Nat.lt_of_lt_of_le O0.lt hb1.size
  have R1 := R0.below hb1 (by exact R0.lt)
  have Z1 := Z0.below hb1 (by exact Z0.lt)
  have O1 : Row w1_ (w.heap.size + 1 + 1) 55 [.string x.type_, .int .i64 x.version, .int .i64 0, .int .i64 0, .string .empty, .slice none 0 0, .slice none 0 0] := by
    have h := O0.below hb1 (by exact O0.lt)
    simpa using h
  have u1_2 := O1.cell 2
  have t1_2 := O1.frozen 2
  have u1_3 := O1.cell 3
  have t1_3 := O1.frozen 3
  have u1_4 := O1.cell 4
  have t1_4 := O1.frozen 4
  have u1_5 := O1.cell 5
  have t1_5 := O1.frozen 5
  have u1_6 := O1.cell 6
  have t1_6 := O1.frozen 6
  have u1_0 := O1.cell 0
  have r0 := Z1.cell 0
  have s0 := Z1.frozen 0
  have u1_1 := O1.cell 1
  have r1 := Z1.cell 1
  have s1 := Z1.frozen 1
  have r2 := Z1.cell 2
  have s2 := Z1.frozen 2
  have r3 := Z1.cell 3
  have s3 := Z1.frozen 3
  have r4 := Z1.cell 4
  have s4 := Z1.frozen 4
  have r5 := Z1.cell 5
  have s5 := Z1.frozen 5
  have r6 := Z1.cell 6
  have s6 := Z1.frozen 6
  go_wp2
  refine bodyPost_ret (v := .agg #[.string x.type_, .int .i64 x.version, .int .i64 x.body.sort, .int .i64 x.body.num, .string x.body.text, .slice D1_1 x.body.names.length e1_1, .slice D1_2 x.body.kids.length e1_2]) (by simp [results, Tryz.results69, go_sem, r0, r1, r2, r3, r4, r5, r6, s0, s1, s2, s3, s4, s5, s6]) rfl ?_
  refine ⟨[.string x.type_, .int .i64 x.version, .int .i64 x.body.sort, .int .i64 x.body.num, .string x.body.text, .slice D1_1 x.body.names.length e1_1, .slice D1_2 x.body.kids.length e1_2], q1_1 ++ (q1_2), rfl, ?_, ?_, ?_⟩
  · exact OwC.mEvent w0 w1 w2 w3 w4 (by
      iterate 12 refine Ow.setCell ?_ (fun hm => absurd (N1.fr _ (List.mem_append_left _ hm)).1 (by simp; try omega)) _
      exact Y1_1.out) (by
      iterate 12 refine Ow.setCell ?_ (fun hm => absurd (N1.fr _ (List.mem_append_right _ hm)).1 (by simp; try omega)) _
      exact Y1_2.out)
  · have hN := N1
    have hN2 := hN.mono (lo' := w.heap.size) (by omega)
    iterate 12 refine New.setCell ?_ _ _
    simpa [List.append_assoc] using hN2
  · iterate 12 refine Below.setCell ?_ (by simp; try omega) _
    exact hB1
theorem toEvent_any (x : Event) : ToEvent x := toEvent_of x
def ToEventS (l : List Event) : Prop := ∀ (A : Option Addr) (n c : Nat) (fp : List Nat) (w : World), Ow w (.s 7 l.length (l.flatMap Event.cells)) (.slice A n c) fp → Lt fp w.heap.size → Event.bulkL l ≤ 1048576 →
  Calls Tryz.prog 59 #[.slice A n c] w fun e w' => ∃ y fq, e = .returned y ∧ Ow w' (.s 7 l.length (l.flatMap Event.cells)) y fq ∧ New w' fq w.heap.size ∧ Below w.heap.size w w'
set_option maxRecDepth 100000 in
set_option maxHeartbeats 400000 in
theorem toEventS_of (l : List Event) (ih : ∀ x ∈ l, ToEvent x) : ToEventS l := by
  intro A n c fp w h hf hn
  obtain ⟨rfl, hc, hm⟩ := h.nlen
  unfold maxLen at hm
  unfold Event.bulkL at hn
  obtain ⟨i0, hi, hz0, hz1, hz2⟩ := info_parts info_Event
  have hmk := run_make_rowN (P := Tryz.prog) 46 55 i0 _ Tryz.underlying46 hi hz0 .i64 .i64 l.length l.length (Nat.le_refl _) (by rw [hz2]; omega) (by omega)
  rw [hz1] at hmk
  clear hi hz0 hz1 hz2 i0
  go_enter Tryz.func59, Tryz.ntmps59
  go_wp2
  go_loopw [4] (fun i wr => (∃ k us fq, k ≤ l.length ∧ i = .int .i64 (k : Nat) ∧ OwC wr ((l.take k).flatMap Event.cells) us fq ∧ New wr fq (w.heap.size + 1) ∧ us.length = k * 7 ∧ Fill wr w.heap.size 55 us ((l.length - k) * 7)) ∧ Below w.heap.size w wr) (fun i _ => l.length - (intOf i).toNat)
  case atStart => exact ⟨⟨0, [], [], Nat.zero_le _, rfl, by simp [OwC], New.nil _ _, rfl, Fill.made _ _ _ _⟩, (Below.refl _ _).alloc (Nat.le_refl _) _⟩
  case round =>
    obtain ⟨⟨k, us, fq, hk, rfl, ho, hfr, hul, hfl⟩, hb⟩ := hrel
    by_cases hlt : k < l.length
    · obtain ⟨g, off, vs, fi, rfl, hg, hfi, hvl, hcs, hov⟩ := (h.below hb hf).elem Event.cells_len hlt
      have hov' := hov
      obtain ⟨A1, c1, A2, c2, f1, f2, rfl, w0, w1, w2, w3, w4, o1, o2, rfl⟩ := hov.oEvent
      have p0 := hcs 0 _ rfl
      have p1 := hcs 1 _ rfl
      have p2 := hcs 2 _ rfl
      have p3 := hcs 3 _ rfl
      have p4 := hcs 4 _ rfl
      have p5 := hcs 5 _ rfl
      have p6 := hcs 6 _ rfl
      simp only [Nat.add_zero] at p0
      have HC := hide (ih _ (List.getElem_mem hlt))
      have HS := hide (Event.cells_snoc l k hlt)
      have hble := Event.bulk_at l k hlt
      have HF := hide hfl
      have HO := hide ho
      have HH := hide h
      have HW := hide hov'
      clear hfl ho h hcs hov hov'
      generalize l[k] = x at *
      go_wp2_with fail
      refine (HC.out _ _ _ HW.out (hf.sub hfi |>.mono hb.size) (by omega)).mono ?_
      rintro e w1 ⟨us1, fq1, rfl, ho1, hfr1, hb1⟩
      have HO1 := hide ho1
      obtain ⟨bA1, bc1, bA2, bc2, bf1, bf2, rfl, bw0, bw1, bw2, bw3, bw4, bo1, bo2, rfl⟩ := ho1.oEvent
      have HF1 := hide (HF.out.below hb1 HF.out.lt)
      obtain ⟨z0, hz0⟩ := HF1.out.cell (i := k * 7 + 0) (by omega) (by omega)
      have hfz0 := HF1.out.frozen (k * 7 + 0)
      obtain ⟨z1, hz1⟩ := HF1.out.cell (i := k * 7 + 1) (by omega) (by omega)
      have hfz1 := HF1.out.frozen (k * 7 + 1)
      obtain ⟨z2, hz2⟩ := HF1.out.cell (i := k * 7 + 2) (by omega) (by omega)
      have hfz2 := HF1.out.frozen (k * 7 + 2)
      obtain ⟨z3, hz3⟩ := HF1.out.cell (i := k * 7 + 3) (by omega) (by omega)
      have hfz3 := HF1.out.frozen (k * 7 + 3)
      obtain ⟨z4, hz4⟩ := HF1.out.cell (i := k * 7 + 4) (by omega) (by omega)
      have hfz4 := HF1.out.frozen (k * 7 + 4)
      obtain ⟨z5, hz5⟩ := HF1.out.cell (i := k * 7 + 5) (by omega) (by omega)
      have hfz5 := HF1.out.frozen (k * 7 + 5)
      obtain ⟨z6, hz6⟩ := HF1.out.cell (i := k * 7 + 6) (by omega) (by omega)
      have hfz6 := HF1.out.frozen (k * 7 + 6)
      simp only [Nat.add_zero] at hz0 hfz0
      clear ho1
      go_wp2
      go_roundw
      case rel =>
        have e3 : (l.length - k) * 7 = (l.length - (k + 1)) * 7 + 1 + 1 + 1 + 1 + 1 + 1 + 1 := by omega
        have hF := HF1.out
        rw [e3] at hF
        have hfr2 : New w1 fq (w.heap.size + 1) := hfr.below hb1 hfr.lt
        have hlo : w.heap.size + 1 ≤ wr.heap.size := HF.out.lt
        have hN := New.app hfr2 hfr1 hfr.lt hlo
        have nm1 : w.heap.size ∉ fq := hfr.out (by omega)
        have nm2 : w.heap.size ∉ bf1 ++ (bf2) := hfr1.out (by omega)
        refine ⟨⟨k + 1, us ++ [.string x.type_] ++ [.int .i64 x.version] ++ [.int .i64 x.body.sort] ++ [.int .i64 x.body.num] ++ [.string x.body.text] ++ [.slice bA1 x.body.names.length bc1] ++ [.slice bA2 x.body.kids.length bc2], fq ++ (bf1 ++ (bf2)), by omega, by go_num, ?_, ?_, by simp [hul]; omega, ?_⟩, ?_⟩
        · rw [HS.out, List.append_assoc, List.append_assoc, List.append_assoc, List.append_assoc, List.append_assoc, List.append_assoc]
          refine OwC.append ?_ ?_
          · have hx := HO.out.below hb1 hfr.lt
            iterate 7 refine OwC.setCell ?_ nm1 _
            exact hx
          · have hx := HO1.out
            iterate 7 refine OwC.setCell ?_ nm2 _
            exact hx
        · iterate 7 refine New.setCell ?_ _ _
          exact hN
        · exact (((((((hF.push (by simp [hul]) _).push (by simp [hul]) _).push (by simp [hul]) _).push (by simp [hul]) _).push (by simp [hul]) _).push (by simp [hul]) _).push (by simp [hul]) _)
        · have hx := hb.trans (hb1.mono hb.size)
          iterate 7 refine Below.setCell ?_ (by simp; try omega) _
          exact hx
      case measure => simp [intOf]; omega
    · obtain rfl : k = l.length := by omega
      have HB := hide hb
      have hfl' := hfl
      rw [Nat.sub_self, Nat.zero_mul] at hfl'
      rw [List.take_length] at ho
      have hd := hide (hfl'.done ho (n := l.length) (k := 7) (flat_len Event.cells 7 Event.cells_len l) (by unfold maxLen; omega))
      obtain ⟨zs, _, hrow⟩ := hfl
      clear hb hfl' ho
      go_wp2
      go_ret
      refine ⟨_, _, rfl, hd.out, ?_, HB.out⟩
      split
      · exact New.nil _ _
      · exact hfr.cons (Nat.le_refl _) (Unf.row hrow) hrow.lt

theorem toEventS_any (l : List Event) : ToEventS l := toEventS_of l fun x _ => toEvent_any x

def EqEvent (x : Event) : Prop := ∀ (us vs : List Value) (fp fq : List Nat) (w : World), OwC w x.cells us fp → OwC w x.cells vs fq → Lt fp w.heap.size → Lt fq w.heap.size →
  Calls Tryz.prog 75 #[.agg us.toArray, .agg vs.toArray] w fun e w' => e = .returned (.bool true) ∧ Below w.heap.size w w'
set_option maxRecDepth 100000 in
theorem eqEvent_of (x : Event) : EqEvent x := by
  intro us vs fp fq w ho ho' hf hf'
  obtain ⟨A1, c1, A2, c2, f1, f2, rfl, w0, w1, w2, w3, w4, o1, o2, rfl⟩ := ho.oEvent
  obtain ⟨bA1, bc1, bA2, bc2, bf1, bf2, rfl, bw0, bw1, bw2, bw3, bw4, bo1, bo2, rfl⟩ := ho'.oEvent
  have l1 := hf.left
  have l2 := hf.right
  have k1 := hf'.left
  have k2 := hf'.right
  have hB0 : Below w.heap.size w ((w.alloc (.cells #[.string x.type_, .int .i64 x.version, .int .i64 x.body.sort, .int .i64 x.body.num, .string x.body.text, .slice A1 x.body.names.length c1, .slice A2 x.body.kids.length c2] 55)).alloc (.cells #[.string x.type_, .int .i64 x.version, .int .i64 x.body.sort, .int .i64 x.body.num, .string x.body.text, .slice bA1 x.body.names.length bc1, .slice bA2 x.body.kids.length bc2] 55)) := ((Below.refl _ _).alloc (Nat.le_refl _) _).alloc (by simp) _
  have R0 : Row ((w.alloc (.cells #[.string x.type_, .int .i64 x.version, .int .i64 x.body.sort, .int .i64 x.body.num, .string x.body.text, .slice A1 x.body.names.length c1, .slice A2 x.body.kids.length c2] 55)).alloc (.cells #[.string x.type_, .int .i64 x.version, .int .i64 x.body.sort, .int .i64 x.body.num, .string x.body.text, .slice bA1 x.body.names.length bc1, .slice bA2 x.body.kids.length bc2] 55)) w.heap.size 55 [.string x.type_, .int .i64 x.version, .int .i64 x.body.sort, .int .i64 x.body.num, .string x.body.text, .slice A1 x.body.names.length c1, .slice A2 x.body.kids.length c2] := (Row.new w _ _).alloc _
  have S0 : Row ((w.alloc (.cells #[.string x.type_, .int .i64 x.version, .int .i64 x.body.sort, .int .i64 x.body.num, .string x.body.text, .slice A1 x.body.names.length c1, .slice A2 x.body.kids.length c2] 55)).alloc (.cells #[.string x.type_, .int .i64 x.version, .int .i64 x.body.sort, .int .i64 x.body.num, .string x.body.text, .slice bA1 x.body.names.length bc1, .slice bA2 x.body.kids.length bc2] 55)) (w.heap.size + 1) 55 [.string x.type_, .int .i64 x.version, .int .i64 x.body.sort, .int .i64 x.body.num, .string x.body.text, .slice bA1 x.body.names.length bc1, .slice bA2 x.body.kids.length bc2] := by
    have h := Row.new (w.alloc (.cells #[.string x.type_, .int .i64 x.version, .int .i64 x.body.sort, .int .i64 x.body.num, .string x.body.text, .slice A1 x.body.names.length c1, .slice A2 x.body.kids.length c2] 55)) 55 [.string x.type_, .int .i64 x.version, .int .i64 x.body.sort, .int .i64 x.body.num, .string x.body.text, .slice bA1 x.body.names.length bc1, .slice bA2 x.body.kids.length bc2]
    simpa using h
  clear ho ho'
  go_enter Tryz.func75, Tryz.ntmps75
  go_wp2_with fail
  refine (eqTree_any _ _ _ _ _ _ (OwC.mTree w2 w3 w4 (o1.below hB0 l1) (o2.below hB0 l2)) (OwC.mTree w2 w3 w4 (bo1.below hB0 k1) (bo2.below hB0 k2)) ((l1.app l2).up hB0) ((k1.app k2).up hB0)).mono ?_
  rintro e w1_ ⟨rfl, hb1⟩
  have hB1 := hB0.trans (hb1.mono hB0.size)
  have R1 := R0.below hb1 R0.lt
  have S1 := S0.below hb1 S0.lt
  go_wp2
  go_ret
  exact ⟨rfl, hB1⟩
theorem eqEvent_any (x : Event) : EqEvent x := eqEvent_of x
def EqEventS (l : List Event) : Prop := ∀ (A A' : Option Addr) (n n' c c' : Nat) (fp fq : List Nat) (w : World), Ow w (.s 7 l.length (l.flatMap Event.cells)) (.slice A n c) fp → Ow w (.s 7 l.length (l.flatMap Event.cells)) (.slice A' n' c') fq → Lt fp w.heap.size → Lt fq w.heap.size →
  Calls Tryz.prog 66 #[.slice A n c, .slice A' n' c'] w fun e w' => e = .returned (.bool true) ∧ Below w.heap.size w w'
set_option maxRecDepth 100000 in
theorem eqEventS_of (l : List Event) (ih : ∀ x ∈ l, EqEvent x) : EqEventS l := by
  intro A A' n n' c c' fp fq w h h' hf hf'
  obtain ⟨rfl, hc, hm⟩ := h.nlen
  obtain ⟨rfl, hc', hm'⟩ := h'.nlen
  unfold maxLen at hm hm'
  go_enter Tryz.func66, Tryz.ntmps66
  go_wp2
  go_loopw [5] (fun i wr => (∃ k : Nat, k ≤ l.length ∧ i = .int .i64 k) ∧ Below w.heap.size w wr) (fun i _ => l.length - (intOf i).toNat)
  case atStart => exact ⟨⟨0, Nat.zero_le _, rfl⟩, Below.refl _ _⟩
  case round =>
    obtain ⟨⟨k, hk, rfl⟩, hb⟩ := hrel
    by_cases hlt : k < l.length
    · obtain ⟨g, off, vs, fi, rfl, hg, hfi, hvl, hcs, hov⟩ := (h.below hb hf).elem Event.cells_len hlt
      obtain ⟨g', off', vs', fi', rfl, hg', hfi', hvl', hcs', hov'⟩ := (h'.below hb hf').elem Event.cells_len hlt
      have HO := hide hov
      have HO' := hide hov'
      obtain ⟨A1, c1, A2, c2, f1, f2, rfl, w0, w1, w2, w3, w4, o1, o2, rfl⟩ := hov.oEvent
      obtain ⟨bA1, bc1, bA2, bc2, bf1, bf2, rfl, bw0, bw1, bw2, bw3, bw4, bo1, bo2, rfl⟩ := hov'.oEvent
      have p0 := hcs 0 _ rfl
      have q0 := hcs' 0 _ rfl
      have p1 := hcs 1 _ rfl
      have q1 := hcs' 1 _ rfl
      have p2 := hcs 2 _ rfl
      have q2 := hcs' 2 _ rfl
      have p3 := hcs 3 _ rfl
      have q3 := hcs' 3 _ rfl
      have p4 := hcs 4 _ rfl
      have q4 := hcs' 4 _ rfl
      have p5 := hcs 5 _ rfl
      have q5 := hcs' 5 _ rfl
      have p6 := hcs 6 _ rfl
      have q6 := hcs' 6 _ rfl
      simp only [Nat.add_zero] at p0 q0
      have HC := hide (ih _ (List.getElem_mem hlt))
      clear hcs hcs' hov hov'
      generalize l[k] = x at *
      go_wp2_with fail
      go_still_tail 8, (by kernel_rfl)
      change wpList _ _ _ _ _ wr.drew
      go_wp2_with fail
      refine (HC.out _ _ _ _ _ (HO.out.drewN 1) (HO'.out.drewN 1) (hf.sub hfi |>.mono hb.size) (hf'.sub hfi' |>.mono hb.size)).mono ?_
      rintro e w1 ⟨rfl, hb1⟩
      go_wp2
      go_roundw
      case rel => exact ⟨⟨k + 1, by omega, by go_num⟩, (below_drewN hb 1).trans (hb1.mono hb.size)⟩
      case measure => simp [intOf]; omega
    · obtain rfl : k = l.length := by omega
      go_wp2
      go_ret
      exact ⟨rfl, hb⟩

theorem eqEventS_any (l : List Event) : EqEventS l := eqEventS_of l fun x _ => eqEvent_any x

end Go.Proofs.YtkfiebeedbjicaaGreatDoor
