/-
  Record: what the laws' own helpers do: the size, a copy, equality.
-/
import Derived.Test.YtkfiebeedbjicaaGreatDoorDRecord
import Derived.Test.YtkfiebeedbjicaaGreatDoorHEvent
set_option linter.unusedVariables false
set_option linter.unusedSimpArgs false
namespace Go.Proofs.YtkfiebeedbjicaaGreatDoor
open Go.ChangeShapes Go.WideShapes Go.ChangeAt Go.RowKit

def SzRecord (x : Record) : Prop := ∀ (us : List Value) (fp : List Nat) (left : Int) (w : World), OwC w x.cells us fp → Lt fp w.heap.size → 0 ≤ left → left ≤ 1048576 →
  Calls Tryz.prog 32 #[.agg us.toArray, .int .i64 left] w fun e w' => e = .returned (.int .i64 (szr left (x.bulk : Nat))) ∧ Below w.heap.size w w'
set_option maxRecDepth 100000 in
theorem szRecord_of (x : Record) : SzRecord x := by
  intro us fp left w ho hf h0 h1
  obtain ⟨A1, c1, f1, rfl, w0, w1, o1, rfl⟩ := ho.oRecord
  have l1 := hf
  have m1 := w1
  unfold maxLen at m1
  have HK := hide (show ((x.bulk : Nat) : Int) = ((x.key.size : Nat) : Int) + ((Event.bulkL x.events : Nat) : Int) by have h := x.bulk_eq; omega)
  have hB0 : Below w.heap.size w (w.alloc (.cells #[.int .i64 x.pos, .string x.key, .slice A1 x.events.length c1] 71)) := (Below.refl _ _).alloc (Nat.le_refl _) _
  have R0 : Row (w.alloc (.cells #[.int .i64 x.pos, .string x.key, .slice A1 x.events.length c1] 71)) w.heap.size 71 [.int .i64 x.pos, .string x.key, .slice A1 x.events.length c1] := Row.new w _ _
  clear ho
  go_enter Tryz.func32, Tryz.ntmps32
  by_cases hx0 : ((x.key.size : Nat) : Int) ≤ left
  · skip
    go_wp2_with fail
    refine (szEventS_any _ _ _ _ _ _ _ (o1.below hB0 l1) (l1.up hB0) (by omega) (by omega)).mono ?_
    rintro e w1_ ⟨rfl, hb1⟩
    have hB1 := hB0.trans (hb1.mono hB0.size)
    have R1 := R0.below hb1 R0.lt
    by_cases hx1 : ((Event.bulkL x.events : Nat) : Int) ≤ left - ((x.key.size : Nat) : Int)
    · rw [szr_yes hx1]
      go_wp2
      go_ret
      exact ⟨ret_int (by rw [szr_yes (by have := HK.out; omega)]; have := HK.out; omega), hB1⟩
    · rw [szr_no hx1]
      go_wp2
      go_ret
      exact ⟨ret_int (by rw [szr_no (by have := HK.out; omega)]), hB1⟩
  · go_wp2
    go_ret
    exact ⟨ret_int (by rw [szr_no (by have := HK.out; omega)]), hB0⟩
theorem szRecord_any (x : Record) : SzRecord x := szRecord_of x
def SzRecordS (l : List Record) : Prop := ∀ (A : Option Addr) (n c : Nat) (fp : List Nat) (left : Int) (w : World), Ow w (.s 3 l.length (l.flatMap Record.cells)) (.slice A n c) fp → Lt fp w.heap.size → 0 ≤ left → left ≤ 1048576 →
  Calls Tryz.prog 9 #[.slice A n c, .int .i64 left] w fun e w' => e = .returned (.int .i64 (szr left (Record.bulkL l : Nat))) ∧ Below w.heap.size w w'
set_option maxRecDepth 100000 in
theorem szRecordS_of (l : List Record) (ih : ∀ x ∈ l, SzRecord x) : SzRecordS l := by
  intro A n c fp left w h hf h0 h1
  obtain ⟨rfl, hc, hm⟩ := h.nlen
  unfold maxLen at hm
  have HX := hide (show ((Record.bulkL l : Nat) : Int) = l.length + Record.bulkS l by unfold Record.bulkL; omega)
  go_enter Tryz.func9, Tryz.ntmps9
  go_wp2
  · go_ret
    exact ⟨ret_int (by rw [szr_no (by have := HX.out; omega)]), Below.refl _ _⟩
  · go_loopw [1, 5] (fun a i wr => (∃ k : Nat, k ≤ l.length ∧ (l.length : Int) + Record.bulkS (l.take k) ≤ left ∧ a = .int .i64 (left - (l.length + Record.bulkS (l.take k))) ∧ i = .int .i64 k) ∧ Below w.heap.size w wr) (fun _ i _ => l.length - (intOf i).toNat)
    case atStart => exact ⟨⟨0, Nat.zero_le _, by simp [Record.bulkS]; omega, by simp [Record.bulkS], rfl⟩, Below.refl _ _⟩
    case round =>
      obtain ⟨⟨k, hk, hb, rfl, rfl⟩, hbel⟩ := hrel
      by_cases hlt : k < l.length
      · obtain ⟨g, off, us, fi, rfl, hg, hfi, hul, hcs, ho⟩ := (h.below hbel hf).elem Record.cells_len hlt
        have ho' := hide ho
        obtain ⟨A1, c1, f1, rfl, w0, w1, o1, rfl⟩ := ho.oRecord
        have p0 := hcs 0 _ rfl
        have p1 := hcs 1 _ rfl
        have p2 := hcs 2 _ rfl
        simp only [Nat.add_zero] at p0
        have HC := hide (ih _ (List.getElem_mem hlt))
        have HE := hide (Record.bulkS_snoc l k hlt)
        have hle := Record.bulkS_le l (k + 1)
        clear hcs ho
        generalize l[k] = x at *
        generalize Record.bulkS (l.take k) = b at *
        go_wp2_with fail
        refine (HC.out _ _ _ _ ho'.out (hf.sub hfi |>.mono hbel.size) (by omega) (by omega)).mono ?_
        rintro e w1 ⟨rfl, hb1⟩
        by_cases hx : ((x.bulk : Nat) : Int) ≤ left - (l.length + b)
        · rw [szr_yes hx]
          go_wp2
          go_roundw
          case rel => exact ⟨⟨k + 1, by omega, by rw [HE.out]; omega, by rw [HE.out]; go_num, by go_num⟩, hbel.trans (hb1.mono hbel.size)⟩
          case measure => simp [intOf]; omega
        · rw [szr_no hx]
          go_wp2
          go_ret
          exact ⟨ret_int (by rw [szr_no (by have := HE.out; have := HX.out; omega)]), hbel.trans (hb1.mono hbel.size)⟩
      · obtain rfl : k = l.length := by omega
        go_wp2
        go_ret
        try rw [List.take_length] at hb
        exact ⟨ret_int (by (try rw [List.take_length]); rw [szr_yes (by have := HX.out; omega), HX.out]), hbel⟩

theorem szRecordS_any (l : List Record) : SzRecordS l := szRecordS_of l fun x _ => szRecord_any x

theorem info_Record : (Tryz.prog.info? 48).map (fun i => (i.zero, i.size, i.bytes)) = some (some (.agg #[.int .i64 0, .string .empty, .slice none 0 0]), 3, 48) := by kernel_rfl
def ToRecord (x : Record) : Prop := ∀ (us : List Value) (fp : List Nat) (w : World), OwC w x.cells us fp → Lt fp w.heap.size → x.bulk ≤ 1048576 →
  Calls Tryz.prog 39 #[.agg us.toArray] w fun e w' => ∃ vs fq, e = .returned (.agg vs.toArray) ∧ OwC w' x.cells vs fq ∧ New w' fq w.heap.size ∧ Below w.heap.size w w'
set_option maxRecDepth 100000 in
set_option maxHeartbeats 400000 in
theorem toRecord_of (x : Record) : ToRecord x := by
  intro us fp w ho hf hbk
  obtain ⟨A1, c1, f1, rfl, w0, w1, o1, rfl⟩ := ho.oRecord
  have l1 := hf
  rw [Record.bulk_eq] at hbk
  have hB0 : Below w.heap.size w (((w.alloc (.cells #[.int .i64 x.pos, .string x.key, .slice A1 x.events.length c1] 71)).alloc (.cells #[.int .i64 0, .string .empty, .slice none 0 0] 48)).alloc (.cells #[.int .i64 x.pos, .string x.key, .slice none 0 0] 48)) := (((Below.refl _ _).alloc (Nat.le_refl _) _).alloc (by simp) _).alloc (by simp; omega) _
  have R0 : Row (((w.alloc (.cells #[.int .i64 x.pos, .string x.key, .slice A1 x.events.length c1] 71)).alloc (.cells #[.int .i64 0, .string .empty, .slice none 0 0] 48)).alloc (.cells #[.int .i64 x.pos, .string x.key, .slice none 0 0] 48)) w.heap.size 71 [.int .i64 x.pos, .string x.key, .slice A1 x.events.length c1] := ((Row.new w _ _).alloc _).alloc _
  have Z0 : Row (((w.alloc (.cells #[.int .i64 x.pos, .string x.key, .slice A1 x.events.length c1] 71)).alloc (.cells #[.int .i64 0, .string .empty, .slice none 0 0] 48)).alloc (.cells #[.int .i64 x.pos, .string x.key, .slice none 0 0] 48)) (w.heap.size + 1) 48 [.int .i64 0, .string .empty, .slice none 0 0] := by
    have h := (Row.new (w.alloc (.cells #[.int .i64 x.pos, .string x.key, .slice A1 x.events.length c1] 71)) 48 [.int .i64 0, .string .empty, .slice none 0 0]).alloc (.cells #[.int .i64 x.pos, .string x.key, .slice none 0 0] 48)
    simpa using h
  have O0 : Row (((w.alloc (.cells #[.int .i64 x.pos, .string x.key, .slice A1 x.events.length c1] 71)).alloc (.cells #[.int .i64 0, .string .empty, .slice none 0 0] 48)).alloc (.cells #[.int .i64 x.pos, .string x.key, .slice none 0 0] 48)) (w.heap.size + 1 + 1) 48 [.int .i64 x.pos, .string x.key, .slice none 0 0] := by
    have h := Row.new ((w.alloc (.cells #[.int .i64 x.pos, .string x.key, .slice A1 x.events.length c1] 71)).alloc (.cells #[.int .i64 0, .string .empty, .slice none 0 0] 48)) 48 [.int .i64 x.pos, .string x.key, .slice none 0 0]
    simpa using h
  clear ho
  go_enter Tryz.func39, Tryz.ntmps39
  go_wp2_with fail
  have hX0 := hB0
  refine (toEventS_any _ _ _ _ _ _ (o1.below hX0 l1) (l1.up hX0) (by omega)).mono ?_
  rintro e w1_ ⟨y1, q1, rfl, hy1, N1, hb1⟩
  obtain ⟨D1, e1, rfl, _⟩ := hy1.slice
  have Y1 := hide hy1
  clear hy1
  have N1 := N1.mono (lo' := w.heap.size + 3) (by simp)
  have M1 := N1.lt
  have hB1 := hX0.trans (hb1.mono hX0.size)
  have z1 : w.heap.size + 1 + 1 < w1_.heap.size := Nat.lt_of_lt_of_le O0.lt hb1.size
  have R1 := R0.below hb1 (by exact R0.lt)
  have Z1 := Z0.below hb1 (by exact Z0.lt)
  have O1 : Row w1_ (w.heap.size + 1 + 1) 48 [.int .i64 x.pos, .string x.key, .slice none 0 0] := by
    have h := O0.below hb1 (by exact O0.lt)
    simpa using h
  have u1_2 := O1.cell 2
  have t1_2 := O1.frozen 2
  have u1_0 := O1.cell 0
  have r0 := Z1.cell 0
  have s0 := Z1.frozen 0
  have u1_1 := O1.cell 1
  have r1 := Z1.cell 1
  have s1 := Z1.frozen 1
  have r2 := Z1.cell 2
  have s2 := Z1.frozen 2
  go_wp2
  refine bodyPost_ret (v := .agg #[.int .i64 x.pos, .string x.key, .slice D1 x.events.length e1]) (by simp [results, Tryz.results39, go_sem, r0, r1, r2, s0, s1, s2]) rfl ?_
  refine ⟨[.int .i64 x.pos, .string x.key, .slice D1 x.events.length e1], q1, rfl, ?_, ?_, ?_⟩
  · exact OwC.mRecord w0 w1 (by
      iterate 4 refine Ow.setCell ?_ (fun hm => absurd (N1.fr _ hm).1 (by simp; try omega)) _
      exact Y1.out)
  · have hN := N1
    have hN2 := hN.mono (lo' := w.heap.size) (by omega)
    iterate 4 refine New.setCell ?_ _ _
    simpa [List.append_assoc] using hN2
  · iterate 4 refine Below.setCell ?_ (by simp; try omega) _
    exact hB1
theorem toRecord_any (x : Record) : ToRecord x := toRecord_of x
def ToRecordS (l : List Record) : Prop := ∀ (A : Option Addr) (n c : Nat) (fp : List Nat) (w : World), Ow w (.s 3 l.length (l.flatMap Record.cells)) (.slice A n c) fp → Lt fp w.heap.size → Record.bulkL l ≤ 1048576 →
  Calls Tryz.prog 18 #[.slice A n c] w fun e w' => ∃ y fq, e = .returned y ∧ Ow w' (.s 3 l.length (l.flatMap Record.cells)) y fq ∧ New w' fq w.heap.size ∧ Below w.heap.size w w'
set_option maxRecDepth 100000 in
set_option maxHeartbeats 400000 in
theorem toRecordS_of (l : List Record) (ih : ∀ x ∈ l, ToRecord x) : ToRecordS l := by
  intro A n c fp w h hf hn
  obtain ⟨rfl, hc, hm⟩ := h.nlen
  unfold maxLen at hm
  unfold Record.bulkL at hn
  obtain ⟨i0, hi, hz0, hz1, hz2⟩ := info_parts info_Record
  have hmk := run_make_rowN (P := Tryz.prog) 29 48 i0 _ Tryz.underlying29 hi hz0 .i64 .i64 l.length l.length (Nat.le_refl _) (by rw [hz2]; omega) (by omega)
  rw [hz1] at hmk
  clear hi hz0 hz1 hz2 i0
  go_enter Tryz.func18, Tryz.ntmps18
  go_wp2
  go_loopw [4] (fun i wr => (∃ k us fq, k ≤ l.length ∧ i = .int .i64 (k : Nat) ∧ OwC wr ((l.take k).flatMap Record.cells) us fq ∧ New wr fq (w.heap.size + 1) ∧ us.length = k * 3 ∧ Fill wr w.heap.size 48 us ((l.length - k) * 3)) ∧ Below w.heap.size w wr) (fun i _ => l.length - (intOf i).toNat)
  case atStart => exact ⟨⟨0, [], [], Nat.zero_le _, rfl, by simp [OwC], New.nil _ _, rfl, Fill.made _ _ _ _⟩, (Below.refl _ _).alloc (Nat.le_refl _) _⟩
  case round =>
    obtain ⟨⟨k, us, fq, hk, rfl, ho, hfr, hul, hfl⟩, hb⟩ := hrel
    by_cases hlt : k < l.length
    · obtain ⟨g, off, vs, fi, rfl, hg, hfi, hvl, hcs, hov⟩ := (h.below hb hf).elem Record.cells_len hlt
      have hov' := hov
      obtain ⟨A1, c1, f1, rfl, w0, w1, o1, rfl⟩ := hov.oRecord
      have p0 := hcs 0 _ rfl
      have p1 := hcs 1 _ rfl
      have p2 := hcs 2 _ rfl
      simp only [Nat.add_zero] at p0
      have HC := hide (ih _ (List.getElem_mem hlt))
      have HS := hide (Record.cells_snoc l k hlt)
      have hble := Record.bulk_at l k hlt
      have HF := hide hfl
      have HO := hide ho
      have HH := hide h
      have HW := hide hov'
      clear hfl ho h hcs hov hov'
      generalize l[k] = x at *
      go_wp2_with fail
      refine (HC.out _ _ _ HW.out (hf.sub hfi |>.mono hb.size) (by omega)).mono ?_
      rintro e w1 ⟨us1, fq1, rfl, ho1, hfr1, hb1⟩
      have HO1 := hide ho1
      obtain ⟨bA1, bc1, bf1, rfl, bw0, bw1, bo1, rfl⟩ := ho1.oRecord
      have HF1 := hide (HF.out.below hb1 HF.out.lt)
      obtain ⟨z0, hz0⟩ := HF1.out.cell (i := k * 3 + 0) (by omega) (by omega)
      have hfz0 := HF1.out.frozen (k * 3 + 0)
      obtain ⟨z1, hz1⟩ := HF1.out.cell (i := k * 3 + 1) (by omega) (by omega)
      have hfz1 := HF1.out.frozen (k * 3 + 1)
      obtain ⟨z2, hz2⟩ := HF1.out.cell (i := k * 3 + 2) (by omega) (by omega)
      have hfz2 := HF1.out.frozen (k * 3 + 2)
      simp only [Nat.add_zero] at hz0 hfz0
      clear ho1
      go_wp2
      go_roundw
      case rel =>
        have e3 : (l.length - k) * 3 = (l.length - (k + 1)) * 3 + 1 + 1 + 1 := by omega
        have hF := HF1.out
        rw [e3] at hF
        have hfr2 : New w1 fq (w.heap.size + 1) := hfr.below hb1 hfr.lt
        have hlo : w.heap.size + 1 ≤ wr.heap.size := HF.out.lt
        have hN := New.app hfr2 hfr1 hfr.lt hlo
        have nm1 : w.heap.size ∉ fq := hfr.out (by omega)
        have nm2 : w.heap.size ∉ fq1 := hfr1.out (by omega)
        refine ⟨⟨k + 1, us ++ [.int .i64 x.pos] ++ [.string x.key] ++ [.slice bA1 x.events.length bc1], fq ++ (fq1), by omega, by go_num, ?_, ?_, by simp [hul]; omega, ?_⟩, ?_⟩
        · rw [HS.out, List.append_assoc, List.append_assoc]
          refine OwC.append ?_ ?_
          · have hx := HO.out.below hb1 hfr.lt
            iterate 3 refine OwC.setCell ?_ nm1 _
            exact hx
          · have hx := HO1.out
            iterate 3 refine OwC.setCell ?_ nm2 _
            exact hx
        · iterate 3 refine New.setCell ?_ _ _
          exact hN
        · exact (((hF.push (by simp [hul]) _).push (by simp [hul]) _).push (by simp [hul]) _)
        · have hx := hb.trans (hb1.mono hb.size)
          iterate 3 refine Below.setCell ?_ (by simp; try omega) _
          exact hx
      case measure => simp [intOf]; omega
    · obtain rfl : k = l.length := by omega
      have HB := hide hb
      have hfl' := hfl
      rw [Nat.sub_self, Nat.zero_mul] at hfl'
      rw [List.take_length] at ho
      have hd := hide (hfl'.done ho (n := l.length) (k := 3) (flat_len Record.cells 3 Record.cells_len l) (by unfold maxLen; omega))
      obtain ⟨zs, _, hrow⟩ := hfl
      clear hb hfl' ho
      go_wp2
      go_ret
      refine ⟨_, _, rfl, hd.out, ?_, HB.out⟩
      split
      · exact New.nil _ _
      · exact hfr.cons (Nat.le_refl _) (Unf.row hrow) hrow.lt

theorem toRecordS_any (l : List Record) : ToRecordS l := toRecordS_of l fun x _ => toRecord_any x

def EqRecord (x : Record) : Prop := ∀ (us vs : List Value) (fp fq : List Nat) (w : World), OwC w x.cells us fp → OwC w x.cells vs fq → Lt fp w.heap.size → Lt fq w.heap.size →
  Calls Tryz.prog 54 #[.agg us.toArray, .agg vs.toArray] w fun e w' => e = .returned (.bool true) ∧ Below w.heap.size w w'
set_option maxRecDepth 100000 in
theorem eqRecord_of (x : Record) : EqRecord x := by
  intro us vs fp fq w ho ho' hf hf'
  obtain ⟨A1, c1, f1, rfl, w0, w1, o1, rfl⟩ := ho.oRecord
  obtain ⟨bA1, bc1, bf1, rfl, bw0, bw1, bo1, rfl⟩ := ho'.oRecord
  have l1 := hf
  have k1 := hf'
  have hB0 : Below w.heap.size w ((w.alloc (.cells #[.int .i64 x.pos, .string x.key, .slice A1 x.events.length c1] 48)).alloc (.cells #[.int .i64 x.pos, .string x.key, .slice bA1 x.events.length bc1] 48)) := ((Below.refl _ _).alloc (Nat.le_refl _) _).alloc (by simp) _
  have R0 : Row ((w.alloc (.cells #[.int .i64 x.pos, .string x.key, .slice A1 x.events.length c1] 48)).alloc (.cells #[.int .i64 x.pos, .string x.key, .slice bA1 x.events.length bc1] 48)) w.heap.size 48 [.int .i64 x.pos, .string x.key, .slice A1 x.events.length c1] := (Row.new w _ _).alloc _
  have S0 : Row ((w.alloc (.cells #[.int .i64 x.pos, .string x.key, .slice A1 x.events.length c1] 48)).alloc (.cells #[.int .i64 x.pos, .string x.key, .slice bA1 x.events.length bc1] 48)) (w.heap.size + 1) 48 [.int .i64 x.pos, .string x.key, .slice bA1 x.events.length bc1] := by
    have h := Row.new (w.alloc (.cells #[.int .i64 x.pos, .string x.key, .slice A1 x.events.length c1] 48)) 48 [.int .i64 x.pos, .string x.key, .slice bA1 x.events.length bc1]
    simpa using h
  clear ho ho'
  go_enter Tryz.func54, Tryz.ntmps54
  go_wp2_with fail
  refine (eqEventS_any _ _ _ _ _ _ _ _ _ _ (o1.below hB0 l1) (bo1.below hB0 k1) (l1.up hB0) (k1.up hB0)).mono ?_
  rintro e w1_ ⟨rfl, hb1⟩
  have hB1 := hB0.trans (hb1.mono hB0.size)
  have R1 := R0.below hb1 R0.lt
  have S1 := S0.below hb1 S0.lt
  go_wp2
  go_ret
  exact ⟨rfl, hB1⟩
theorem eqRecord_any (x : Record) : EqRecord x := eqRecord_of x
def EqRecordS (l : List Record) : Prop := ∀ (A A' : Option Addr) (n n' c c' : Nat) (fp fq : List Nat) (w : World), Ow w (.s 3 l.length (l.flatMap Record.cells)) (.slice A n c) fp → Ow w (.s 3 l.length (l.flatMap Record.cells)) (.slice A' n' c') fq → Lt fp w.heap.size → Lt fq w.heap.size →
  Calls Tryz.prog 29 #[.slice A n c, .slice A' n' c'] w fun e w' => e = .returned (.bool true) ∧ Below w.heap.size w w'
set_option maxRecDepth 100000 in
theorem eqRecordS_of (l : List Record) (ih : ∀ x ∈ l, EqRecord x) : EqRecordS l := by
  intro A A' n n' c c' fp fq w h h' hf hf'
  obtain ⟨rfl, hc, hm⟩ := h.nlen
  obtain ⟨rfl, hc', hm'⟩ := h'.nlen
  unfold maxLen at hm hm'
  go_enter Tryz.func29, Tryz.ntmps29
  go_wp2
  go_loopw [5] (fun i wr => (∃ k : Nat, k ≤ l.length ∧ i = .int .i64 k) ∧ Below w.heap.size w wr) (fun i _ => l.length - (intOf i).toNat)
  case atStart => exact ⟨⟨0, Nat.zero_le _, rfl⟩, Below.refl _ _⟩
  case round =>
    obtain ⟨⟨k, hk, rfl⟩, hb⟩ := hrel
    by_cases hlt : k < l.length
    · obtain ⟨g, off, vs, fi, rfl, hg, hfi, hvl, hcs, hov⟩ := (h.below hb hf).elem Record.cells_len hlt
      obtain ⟨g', off', vs', fi', rfl, hg', hfi', hvl', hcs', hov'⟩ := (h'.below hb hf').elem Record.cells_len hlt
      have HO := hide hov
      have HO' := hide hov'
      obtain ⟨A1, c1, f1, rfl, w0, w1, o1, rfl⟩ := hov.oRecord
      obtain ⟨bA1, bc1, bf1, rfl, bw0, bw1, bo1, rfl⟩ := hov'.oRecord
      have p0 := hcs 0 _ rfl
      have q0 := hcs' 0 _ rfl
      have p1 := hcs 1 _ rfl
      have q1 := hcs' 1 _ rfl
      have p2 := hcs 2 _ rfl
      have q2 := hcs' 2 _ rfl
      simp only [Nat.add_zero] at p0 q0
      have HC := hide (ih _ (List.getElem_mem hlt))
      clear hcs hcs' hov hov'
      generalize l[k] = x at *
      go_wp2_with fail
      go_still_tail 8, (by kernel_rfl)
      change wpList _ _ _ _ _ wr.drew
      go_wp2_with fail
      refine (HC.out _ _ _ _ _ (HO.out.drewN 1) (HO'.out.drewN 1) (hf.sub hfi |>.mono hb.size) (hf'.sub hfi' |>.mono hb.size)).mono ?_
      rintro e w1 ⟨rfl, hb1⟩
      go_wp2
      go_roundw
      case rel => exact ⟨⟨k + 1, by omega, by go_num⟩, (below_drewN hb 1).trans (hb1.mono hb.size)⟩
      case measure => simp [intOf]; omega
    · obtain rfl : k = l.length := by omega
      go_wp2
      go_ret
      exact ⟨rfl, hb⟩

theorem eqRecordS_any (l : List Record) : EqRecordS l := eqRecordS_of l fun x _ => eqRecord_any x

end Go.Proofs.YtkfiebeedbjicaaGreatDoor
