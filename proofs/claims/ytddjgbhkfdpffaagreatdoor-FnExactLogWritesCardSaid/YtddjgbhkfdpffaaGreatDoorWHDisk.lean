/-
  DiskFile: what the laws' own helpers do: the size, a copy, equality. DiskMove: what the laws' own helpers do: the size, a copy, equality. Disk: what the laws' own helpers do: the size, a copy, equality.
-/
import Derived.Test.YtddjgbhkfdpffaaGreatDoorWDDiskWrite
import Derived.Test.YtddjgbhkfdpffaaGreatDoorWHLogState
set_option linter.unusedVariables false
set_option linter.unusedSimpArgs false
namespace Go.Proofs.YtddjgbhkfdpffaaGreatDoor
open Go.ChangeShapes Go.WideShapes Go.ChangeAt Go.RowKit

def SzDiskFile (x : DiskFile) : Prop := ∀ (us : List Value) (fp : List Nat) (left : Int) (w : World), OwC w x.cells us fp → Lt fp w.heap.size → 0 ≤ left → left ≤ 1048576 →
  Calls Tryz.prog 71 #[.agg us.toArray, .int .i64 left] w fun e w' => e = .returned (.int .i64 (szr left (x.bulk : Nat))) ∧ Below w.heap.size w w'
set_option maxRecDepth 100000 in
theorem szDiskFile_of (x : DiskFile) : SzDiskFile x := by
  intro us fp left w ho hf h0 h1
  obtain ⟨rfl, w0, w1, w2, rfl⟩ := ho.oDiskFile
  have m0 := w0
  unfold maxLen at m0
  have m1 := w1
  unfold maxLen at m1
  have HK := hide (show ((x.bulk : Nat) : Int) = ((x.name.size : Nat) : Int) + ((x.data.size : Nat) : Int) by have h := x.bulk_eq; omega)
  have hB0 : Below w.heap.size w (w.alloc (.cells #[.string x.name, .string x.data, .int .i64 x.kept] 111)) := (Below.refl _ _).alloc (Nat.le_refl _) _
  have R0 : Row (w.alloc (.cells #[.string x.name, .string x.data, .int .i64 x.kept] 111)) w.heap.size 111 [.string x.name, .string x.data, .int .i64 x.kept] := Row.new w _ _
  clear ho
  go_enter Tryz.func71, Tryz.ntmps71
  by_cases hx0 : ((x.name.size : Nat) : Int) ≤ left
  · skip
    by_cases hx1 : ((x.data.size : Nat) : Int) ≤ left - ((x.name.size : Nat) : Int)
    · skip
      go_wp2
      go_ret
      exact ⟨ret_int (by rw [szr_yes (by have := HK.out; omega)]; have := HK.out; omega), hB0⟩
    · go_wp2
      go_ret
      exact ⟨ret_int (by rw [szr_no (by have := HK.out; omega)]), hB0⟩
  · go_wp2
    go_ret
    exact ⟨ret_int (by rw [szr_no (by have := HK.out; omega)]), hB0⟩
theorem szDiskFile_any (x : DiskFile) : SzDiskFile x := szDiskFile_of x
def SzDiskFileS (l : List DiskFile) : Prop := ∀ (A : Option Addr) (n c : Nat) (fp : List Nat) (left : Int) (w : World), Ow w (.s 3 l.length (l.flatMap DiskFile.cells)) (.slice A n c) fp → Lt fp w.heap.size → 0 ≤ left → left ≤ 1048576 →
  Calls Tryz.prog 27 #[.slice A n c, .int .i64 left] w fun e w' => e = .returned (.int .i64 (szr left (DiskFile.bulkL l : Nat))) ∧ Below w.heap.size w w'
set_option maxRecDepth 100000 in
theorem szDiskFileS_of (l : List DiskFile) (ih : ∀ x ∈ l, SzDiskFile x) : SzDiskFileS l := by
  intro A n c fp left w h hf h0 h1
  obtain ⟨rfl, hc, hm⟩ := h.nlen
  unfold maxLen at hm
  have HX := hide (show ((DiskFile.bulkL l : Nat) : Int) = l.length + DiskFile.bulkS l by unfold DiskFile.bulkL; omega)
  go_enter Tryz.func27, Tryz.ntmps27
  go_wp2
  · go_ret
    exact ⟨ret_int (by rw [szr_no (by have := HX.out; omega)]), Below.refl _ _⟩
  · go_loopw [1, 5] (fun a i wr => (∃ k : Nat, k ≤ l.length ∧ (l.length : Int) + DiskFile.bulkS (l.take k) ≤ left ∧ a = .int .i64 (left - (l.length + DiskFile.bulkS (l.take k))) ∧ i = .int .i64 k) ∧ Below w.heap.size w wr) (fun _ i _ => l.length - (intOf i).toNat)
    case atStart => exact ⟨⟨0, Nat.zero_le _, by simp [DiskFile.bulkS]; omega, by simp [DiskFile.bulkS], rfl⟩, Below.refl _ _⟩
    case round =>
      obtain ⟨⟨k, hk, hb, rfl, rfl⟩, hbel⟩ := hrel
      by_cases hlt : k < l.length
      · obtain ⟨g, off, us, fi, rfl, hg, hfi, hul, hcs, ho⟩ := (h.below hbel hf).elem DiskFile.cells_len hlt
        have ho' := hide ho
        obtain ⟨rfl, w0, w1, w2, rfl⟩ := ho.oDiskFile
        have p0 := hcs 0 _ rfl
        have p1 := hcs 1 _ rfl
        have p2 := hcs 2 _ rfl
        simp only [Nat.add_zero] at p0
        have HC := hide (ih _ (List.getElem_mem hlt))
        have HE := hide (DiskFile.bulkS_snoc l k hlt)
        have hle := DiskFile.bulkS_le l (k + 1)
        clear hcs ho
        generalize l[k] = x at *
        generalize DiskFile.bulkS (l.take k) = b at *
        go_wp2_with fail
        refine (HC.out _ _ _ _ ho'.out (hf.sub hfi |>.mono hbel.size) (by omega) (by omega)).mono ?_
        rintro e w1 ⟨rfl, hb1⟩
        by_cases hx : ((x.bulk : Nat) : Int) ≤ left - (l.length + b)
        · rw [szr_yes hx]
          go_wp2
          go_roundw
          case rel => exact ⟨⟨k + 1, by omega, by rw [HE.out]; omega, by rw [HE.out]; go_num, by go_num⟩, hbel.trans (hb1.mono hbel.size)⟩
          case measure => simp [intOf]; omega
        · rw [szr_no hx]
          go_wp2
          go_ret
          exact ⟨ret_int (by rw [szr_no (by have := HE.out; have := HX.out; omega)]), hbel.trans (hb1.mono hbel.size)⟩
      · obtain rfl : k = l.length := by omega
        go_wp2
        go_ret
        try rw [List.take_length] at hb
        exact ⟨ret_int (by (try rw [List.take_length]); rw [szr_yes (by have := HX.out; omega), HX.out]), hbel⟩

theorem szDiskFileS_any (l : List DiskFile) : SzDiskFileS l := szDiskFileS_of l fun x _ => szDiskFile_any x

theorem info_DiskFile : (Tryz.prog.info? 116).map (fun i => (i.zero, i.size, i.bytes)) = some (some (.agg #[.string .empty, .string .empty, .int .i64 0]), 3, 40) := by kernel_rfl
def ToDiskFile (x : DiskFile) : Prop := ∀ (us : List Value) (fp : List Nat) (w : World), OwC w x.cells us fp → Lt fp w.heap.size → x.bulk ≤ 1048576 →
  Calls Tryz.prog 81 #[.agg us.toArray] w fun e w' => ∃ vs fq, e = .returned (.agg vs.toArray) ∧ OwC w' x.cells vs fq ∧ New w' fq w.heap.size ∧ Below w.heap.size w w'
set_option maxRecDepth 100000 in
set_option maxHeartbeats 400000 in
theorem toDiskFile_of (x : DiskFile) : ToDiskFile x := by
  intro us fp w ho hf hbk
  obtain ⟨rfl, w0, w1, w2, rfl⟩ := ho.oDiskFile
  rw [DiskFile.bulk_eq] at hbk
  have hB0 : Below w.heap.size w (((w.alloc (.cells #[.string x.name, .string x.data, .int .i64 x.kept] 111)).alloc (.cells #[.string .empty, .string .empty, .int .i64 0] 116)).alloc (.cells #[.string x.name, .string x.data, .int .i64 x.kept] 116)) := (((Below.refl _ _).alloc (Nat.le_refl _) _).alloc (by simp) _).alloc (by simp; omega) _
  have R0 : Row (((w.alloc (.cells #[.string x.name, .string x.data, .int .i64 x.kept] 111)).alloc (.cells #[.string .empty, .string .empty, .int .i64 0] 116)).alloc (.cells #[.string x.name, .string x.data, .int .i64 x.kept] 116)) w.heap.size 111 [.string x.name, .string x.data, .int .i64 x.kept] := ((Row.new w _ _).alloc _).alloc _
  have Z0 : Row (((w.alloc (.cells #[.string x.name, .string x.data, .int .i64 x.kept] 111)).alloc (.cells #[.string .empty, .string .empty, .int .i64 0] 116)).alloc (.cells #[.string x.name, .string x.data, .int .i64 x.kept] 116)) (w.heap.size + 1) 116 [.string .empty, .string .empty, .int .i64 0] := by
    have h := (Row.new (w.alloc (.cells #[.string x.name, .string x.data, .int .i64 x.kept] 111)) 116 [.string .empty, .string .empty, .int .i64 0]).alloc (.cells #[.string x.name, .string x.data, .int .i64 x.kept] 116)
    simpa using h
  have O0 : Row (((w.alloc (.cells #[.string x.name, .string x.data, .int .i64 x.kept] 111)).alloc (.cells #[.string .empty, .string .empty, .int .i64 0] 116)).alloc (.cells #[.string x.name, .string x.data, .int .i64 x.kept] 116)) (w.heap.size + 1 + 1) 116 [.string x.name, .string x.data, .int .i64 x.kept] := by
    have h := Row.new ((w.alloc (.cells #[.string x.name, .string x.data, .int .i64 x.kept] 111)).alloc (.cells #[.string .empty, .string .empty, .int .i64 0] 116)) 116 [.string x.name, .string x.data, .int .i64 x.kept]
    simpa using h
  clear ho
  go_enter Tryz.func81, Tryz.ntmps81
  go_wp2
  refine bodyPost_ret (v := .agg #[.string x.name, .string x.data, .int .i64 x.kept]) (by simp [results, Tryz.results81, go_sem]) rfl ?_
  refine ⟨[.string x.name, .string x.data, .int .i64 x.kept], [], rfl, ?_, ?_, ?_⟩
  · exact OwC.mDiskFile w0 w1 w2
  · exact New.nil _ _
  · iterate 3 refine Below.alloc ?_ (by simp; try omega) _
    exact Below.refl _ _
theorem toDiskFile_any (x : DiskFile) : ToDiskFile x := toDiskFile_of x
def ToDiskFileS (l : List DiskFile) : Prop := ∀ (A : Option Addr) (n c : Nat) (fp : List Nat) (w : World), Ow w (.s 3 l.length (l.flatMap DiskFile.cells)) (.slice A n c) fp → Lt fp w.heap.size → DiskFile.bulkL l ≤ 1048576 →
  Calls Tryz.prog 36 #[.slice A n c] w fun e w' => ∃ y fq, e = .returned y ∧ Ow w' (.s 3 l.length (l.flatMap DiskFile.cells)) y fq ∧ New w' fq w.heap.size ∧ Below w.heap.size w w'
set_option maxRecDepth 100000 in
set_option maxHeartbeats 400000 in
theorem toDiskFileS_of (l : List DiskFile) (ih : ∀ x ∈ l, ToDiskFile x) : ToDiskFileS l := by
  intro A n c fp w h hf hn
  obtain ⟨rfl, hc, hm⟩ := h.nlen
  unfold maxLen at hm
  unfold DiskFile.bulkL at hn
  obtain ⟨i0, hi, hz0, hz1, hz2⟩ := info_parts info_DiskFile
  have hmk := run_make_rowN (P := Tryz.prog) 35 116 i0 _ Tryz.underlying35 hi hz0 .i64 .i64 l.length l.length (Nat.le_refl _) (by rw [hz2]; omega) (by omega)
  rw [hz1] at hmk
  clear hi hz0 hz1 hz2 i0
  go_enter Tryz.func36, Tryz.ntmps36
  go_wp2
  go_loopw [4] (fun i wr => (∃ k us fq, k ≤ l.length ∧ i = .int .i64 (k : Nat) ∧ OwC wr ((l.take k).flatMap DiskFile.cells) us fq ∧ New wr fq (w.heap.size + 1) ∧ us.length = k * 3 ∧ Fill wr w.heap.size 116 us ((l.length - k) * 3)) ∧ Below w.heap.size w wr) (fun i _ => l.length - (intOf i).toNat)
  case atStart => exact ⟨⟨0, [], [], Nat.zero_le _, rfl, by simp [OwC], New.nil _ _, rfl, Fill.made _ _ _ _⟩, (Below.refl _ _).alloc (Nat.le_refl _) _⟩
  case round =>
    obtain ⟨⟨k, us, fq, hk, rfl, ho, hfr, hul, hfl⟩, hb⟩ := hrel
    by_cases hlt : k < l.length
    · obtain ⟨g, off, vs, fi, rfl, hg, hfi, hvl, hcs, hov⟩ := (h.below hb hf).elem DiskFile.cells_len hlt
      have hov' := hov
      obtain ⟨rfl, w0, w1, w2, rfl⟩ := hov.oDiskFile
      have p0 := hcs 0 _ rfl
      have p1 := hcs 1 _ rfl
      have p2 := hcs 2 _ rfl
      simp only [Nat.add_zero] at p0
      have HC := hide (ih _ (List.getElem_mem hlt))
      have HS := hide (DiskFile.cells_snoc l k hlt)
      have hble := DiskFile.bulk_at l k hlt
      have HF := hide hfl
      have HO := hide ho
      have HH := hide h
      have HW := hide hov'
      clear hfl ho h hcs hov hov'
      generalize l[k] = x at *
      go_wp2_with fail
      refine (HC.out _ _ _ HW.out (hf.sub hfi |>.mono hb.size) (by omega)).mono ?_
      rintro e w1 ⟨us1, fq1, rfl, ho1, hfr1, hb1⟩
      have HO1 := hide ho1
      obtain ⟨rfl, bw0, bw1, bw2, rfl⟩ := ho1.oDiskFile
      have HF1 := hide (HF.out.below hb1 HF.out.lt)
      obtain ⟨z0, hz0⟩ := HF1.out.cell (i := k * 3 + 0) (by omega) (by omega)
      have hfz0 := HF1.out.frozen (k * 3 + 0)
      obtain ⟨z1, hz1⟩ := HF1.out.cell (i := k * 3 + 1) (by omega) (by omega)
      have hfz1 := HF1.out.frozen (k * 3 + 1)
      obtain ⟨z2, hz2⟩ := HF1.out.cell (i := k * 3 + 2) (by omega) (by omega)
      have hfz2 := HF1.out.frozen (k * 3 + 2)
      simp only [Nat.add_zero] at hz0 hfz0
      clear ho1
      go_wp2
      go_roundw
      case rel =>
        have e3 : (l.length - k) * 3 = (l.length - (k + 1)) * 3 + 1 + 1 + 1 := by omega
        have hF := HF1.out
        rw [e3] at hF
        have hfr2 : New w1 fq (w.heap.size + 1) := hfr.below hb1 hfr.lt
        have hlo : w.heap.size + 1 ≤ wr.heap.size := HF.out.lt
        have hN := New.app hfr2 hfr1 hfr.lt hlo
        have nm1 : w.heap.size ∉ fq := hfr.out (by omega)
        have nm2 : w.heap.size ∉ [] := hfr1.out (by omega)
        refine ⟨⟨k + 1, us ++ [.string x.name] ++ [.string x.data] ++ [.int .i64 x.kept], fq ++ ([]), by omega, by go_num, ?_, ?_, by simp [hul]; omega, ?_⟩, ?_⟩
        · rw [HS.out, List.append_assoc, List.append_assoc]
          refine OwC.append ?_ ?_
          · have hx := HO.out.below hb1 hfr.lt
            iterate 3 refine OwC.setCell ?_ nm1 _
            exact hx
          · have hx := HO1.out
            iterate 3 refine OwC.setCell ?_ nm2 _
            exact hx
        · iterate 3 refine New.setCell ?_ _ _
          exact hN
        · exact (((hF.push (by simp [hul]) _).push (by simp [hul]) _).push (by simp [hul]) _)
        · have hx := hb.trans (hb1.mono hb.size)
          iterate 3 refine Below.setCell ?_ (by simp; try omega) _
          exact hx
      case measure => simp [intOf]; omega
    · obtain rfl : k = l.length := by omega
      have HB := hide hb
      have hfl' := hfl
      rw [Nat.sub_self, Nat.zero_mul] at hfl'
      rw [List.take_length] at ho
      have hd := hide (hfl'.done ho (n := l.length) (k := 3) (flat_len DiskFile.cells 3 DiskFile.cells_len l) (by unfold maxLen; omega))
      obtain ⟨zs, _, hrow⟩ := hfl
      clear hb hfl' ho
      go_wp2
      go_ret
      refine ⟨_, _, rfl, hd.out, ?_, HB.out⟩
      split
      · exact New.nil _ _
      · exact hfr.cons (Nat.le_refl _) (Unf.row hrow) hrow.lt

theorem toDiskFileS_any (l : List DiskFile) : ToDiskFileS l := toDiskFileS_of l fun x _ => toDiskFile_any x

def EqDiskFile (x : DiskFile) : Prop := ∀ (us vs : List Value) (fp fq : List Nat) (w : World), OwC w x.cells us fp → OwC w x.cells vs fq → Lt fp w.heap.size → Lt fq w.heap.size →
  Calls Tryz.prog 97 #[.agg us.toArray, .agg vs.toArray] w fun e w' => e = .returned (.bool true) ∧ Below w.heap.size w w'
set_option maxRecDepth 100000 in
theorem eqDiskFile_of (x : DiskFile) : EqDiskFile x := by
  intro us vs fp fq w ho ho' hf hf'
  obtain ⟨rfl, w0, w1, w2, rfl⟩ := ho.oDiskFile
  obtain ⟨rfl, bw0, bw1, bw2, rfl⟩ := ho'.oDiskFile
  have hB0 : Below w.heap.size w ((w.alloc (.cells #[.string x.name, .string x.data, .int .i64 x.kept] 116)).alloc (.cells #[.string x.name, .string x.data, .int .i64 x.kept] 116)) := ((Below.refl _ _).alloc (Nat.le_refl _) _).alloc (by simp) _
  have R0 : Row ((w.alloc (.cells #[.string x.name, .string x.data, .int .i64 x.kept] 116)).alloc (.cells #[.string x.name, .string x.data, .int .i64 x.kept] 116)) w.heap.size 116 [.string x.name, .string x.data, .int .i64 x.kept] := (Row.new w _ _).alloc _
  have S0 : Row ((w.alloc (.cells #[.string x.name, .string x.data, .int .i64 x.kept] 116)).alloc (.cells #[.string x.name, .string x.data, .int .i64 x.kept] 116)) (w.heap.size + 1) 116 [.string x.name, .string x.data, .int .i64 x.kept] := by
    have h := Row.new (w.alloc (.cells #[.string x.name, .string x.data, .int .i64 x.kept] 116)) 116 [.string x.name, .string x.data, .int .i64 x.kept]
    simpa using h
  clear ho ho'
  go_enter Tryz.func97, Tryz.ntmps97
  go_wp2
  go_ret
  exact ⟨rfl, hB0⟩
theorem eqDiskFile_any (x : DiskFile) : EqDiskFile x := eqDiskFile_of x
def EqDiskFileS (l : List DiskFile) : Prop := ∀ (A A' : Option Addr) (n n' c c' : Nat) (fp fq : List Nat) (w : World), Ow w (.s 3 l.length (l.flatMap DiskFile.cells)) (.slice A n c) fp → Ow w (.s 3 l.length (l.flatMap DiskFile.cells)) (.slice A' n' c') fq → Lt fp w.heap.size → Lt fq w.heap.size →
  Calls Tryz.prog 43 #[.slice A n c, .slice A' n' c'] w fun e w' => e = .returned (.bool true) ∧ Below w.heap.size w w'
set_option maxRecDepth 100000 in
theorem eqDiskFileS_of (l : List DiskFile) (ih : ∀ x ∈ l, EqDiskFile x) : EqDiskFileS l := by
  intro A A' n n' c c' fp fq w h h' hf hf'
  obtain ⟨rfl, hc, hm⟩ := h.nlen
  obtain ⟨rfl, hc', hm'⟩ := h'.nlen
  unfold maxLen at hm hm'
  go_enter Tryz.func43, Tryz.ntmps43
  go_wp2
  go_loopw [5] (fun i wr => (∃ k : Nat, k ≤ l.length ∧ i = .int .i64 k) ∧ Below w.heap.size w wr) (fun i _ => l.length - (intOf i).toNat)
  case atStart => exact ⟨⟨0, Nat.zero_le _, rfl⟩, Below.refl _ _⟩
  case round =>
    obtain ⟨⟨k, hk, rfl⟩, hb⟩ := hrel
    by_cases hlt : k < l.length
    · obtain ⟨g, off, vs, fi, rfl, hg, hfi, hvl, hcs, hov⟩ := (h.below hb hf).elem DiskFile.cells_len hlt
      obtain ⟨g', off', vs', fi', rfl, hg', hfi', hvl', hcs', hov'⟩ := (h'.below hb hf').elem DiskFile.cells_len hlt
      have HO := hide hov
      have HO' := hide hov'
      obtain ⟨rfl, w0, w1, w2, rfl⟩ := hov.oDiskFile
      obtain ⟨rfl, bw0, bw1, bw2, rfl⟩ := hov'.oDiskFile
      have p0 := hcs 0 _ rfl
      have q0 := hcs' 0 _ rfl
      have p1 := hcs 1 _ rfl
      have q1 := hcs' 1 _ rfl
      have p2 := hcs 2 _ rfl
      have q2 := hcs' 2 _ rfl
      simp only [Nat.add_zero] at p0 q0
      have HC := hide (ih _ (List.getElem_mem hlt))
      clear hcs hcs' hov hov'
      generalize l[k] = x at *
      go_wp2_with fail
      go_still_tail 8, (by kernel_rfl)
      change wpList _ _ _ _ _ wr.drew
      go_wp2_with fail
      refine (HC.out _ _ _ _ _ (HO.out.drewN 1) (HO'.out.drewN 1) (hf.sub hfi |>.mono hb.size) (hf'.sub hfi' |>.mono hb.size)).mono ?_
      rintro e w1 ⟨rfl, hb1⟩
      go_wp2
      go_roundw
      case rel => exact ⟨⟨k + 1, by omega, by go_num⟩, (below_drewN hb 1).trans (hb1.mono hb.size)⟩
      case measure => simp [intOf]; omega
    · obtain rfl : k = l.length := by omega
      go_wp2
      go_ret
      exact ⟨rfl, hb⟩

theorem eqDiskFileS_any (l : List DiskFile) : EqDiskFileS l := eqDiskFileS_of l fun x _ => eqDiskFile_any x

end Go.Proofs.YtddjgbhkfdpffaaGreatDoor
set_option linter.unusedVariables false
set_option linter.unusedSimpArgs false
namespace Go.Proofs.YtddjgbhkfdpffaaGreatDoor
open Go.ChangeShapes Go.WideShapes Go.ChangeAt Go.RowKit

def SzDiskMove (x : DiskMove) : Prop := ∀ (us : List Value) (fp : List Nat) (left : Int) (w : World), OwC w x.cells us fp → Lt fp w.heap.size → 0 ≤ left → left ≤ 1048576 →
  Calls Tryz.prog 72 #[.agg us.toArray, .int .i64 left] w fun e w' => e = .returned (.int .i64 (szr left (x.bulk : Nat))) ∧ Below w.heap.size w w'
set_option maxRecDepth 100000 in
theorem szDiskMove_of (x : DiskMove) : SzDiskMove x := by
  intro us fp left w ho hf h0 h1
  obtain ⟨rfl, w1, rfl⟩ := ho.oDiskMove
  have m1 := w1
  unfold maxLen at m1
  have HK := hide (show ((x.bulk : Nat) : Int) = ((x.name.size : Nat) : Int) by have h := x.bulk_eq; omega)
  have hB0 : Below w.heap.size w (w.alloc (.cells #[.bool x.gone, .string x.name] 114)) := (Below.refl _ _).alloc (Nat.le_refl _) _
  have R0 : Row (w.alloc (.cells #[.bool x.gone, .string x.name] 114)) w.heap.size 114 [.bool x.gone, .string x.name] := Row.new w _ _
  clear ho
  go_enter Tryz.func72, Tryz.ntmps72
  by_cases hx0 : ((x.name.size : Nat) : Int) ≤ left
  · skip
    go_wp2
    go_ret
    exact ⟨ret_int (by rw [szr_yes (by have := HK.out; omega)]; have := HK.out; omega), hB0⟩
  · go_wp2
    go_ret
    exact ⟨ret_int (by rw [szr_no (by have := HK.out; omega)]), hB0⟩
theorem szDiskMove_any (x : DiskMove) : SzDiskMove x := szDiskMove_of x
def SzDiskMoveS (l : List DiskMove) : Prop := ∀ (A : Option Addr) (n c : Nat) (fp : List Nat) (left : Int) (w : World), Ow w (.s 2 l.length (l.flatMap DiskMove.cells)) (.slice A n c) fp → Lt fp w.heap.size → 0 ≤ left → left ≤ 1048576 →
  Calls Tryz.prog 29 #[.slice A n c, .int .i64 left] w fun e w' => e = .returned (.int .i64 (szr left (DiskMove.bulkL l : Nat))) ∧ Below w.heap.size w w'
set_option maxRecDepth 100000 in
theorem szDiskMoveS_of (l : List DiskMove) (ih : ∀ x ∈ l, SzDiskMove x) : SzDiskMoveS l := by
  intro A n c fp left w h hf h0 h1
  obtain ⟨rfl, hc, hm⟩ := h.nlen
  unfold maxLen at hm
  have HX := hide (show ((DiskMove.bulkL l : Nat) : Int) = l.length + DiskMove.bulkS l by unfold DiskMove.bulkL; omega)
  go_enter Tryz.func29, Tryz.ntmps29
  go_wp2
  · go_ret
    exact ⟨ret_int (by rw [szr_no (by have := HX.out; omega)]), Below.refl _ _⟩
  · go_loopw [1, 5] (fun a i wr => (∃ k : Nat, k ≤ l.length ∧ (l.length : Int) + DiskMove.bulkS (l.take k) ≤ left ∧ a = .int .i64 (left - (l.length + DiskMove.bulkS (l.take k))) ∧ i = .int .i64 k) ∧ Below w.heap.size w wr) (fun _ i _ => l.length - (intOf i).toNat)
    case atStart => exact ⟨⟨0, Nat.zero_le _, by simp [DiskMove.bulkS]; omega, by simp [DiskMove.bulkS], rfl⟩, Below.refl _ _⟩
    case round =>
      obtain ⟨⟨k, hk, hb, rfl, rfl⟩, hbel⟩ := hrel
      by_cases hlt : k < l.length
      · obtain ⟨g, off, us, fi, rfl, hg, hfi, hul, hcs, ho⟩ := (h.below hbel hf).elem DiskMove.cells_len hlt
        have ho' := hide ho
        obtain ⟨rfl, w1, rfl⟩ := ho.oDiskMove
        have p0 := hcs 0 _ rfl
        have p1 := hcs 1 _ rfl
        simp only [Nat.add_zero] at p0
        have HC := hide (ih _ (List.getElem_mem hlt))
        have HE := hide (DiskMove.bulkS_snoc l k hlt)
        have hle := DiskMove.bulkS_le l (k + 1)
        clear hcs ho
        generalize l[k] = x at *
        generalize DiskMove.bulkS (l.take k) = b at *
        go_wp2_with fail
        refine (HC.out _ _ _ _ ho'.out (hf.sub hfi |>.mono hbel.size) (by omega) (by omega)).mono ?_
        rintro e w1 ⟨rfl, hb1⟩
        by_cases hx : ((x.bulk : Nat) : Int) ≤ left - (l.length + b)
        · rw [szr_yes hx]
          go_wp2
          go_roundw
          case rel => exact ⟨⟨k + 1, by omega, by rw [HE.out]; omega, by rw [HE.out]; go_num, by go_num⟩, hbel.trans (hb1.mono hbel.size)⟩
          case measure => simp [intOf]; omega
        · rw [szr_no hx]
          go_wp2
          go_ret
          exact ⟨ret_int (by rw [szr_no (by have := HE.out; have := HX.out; omega)]), hbel.trans (hb1.mono hbel.size)⟩
      · obtain rfl : k = l.length := by omega
        go_wp2
        go_ret
        try rw [List.take_length] at hb
        exact ⟨ret_int (by (try rw [List.take_length]); rw [szr_yes (by have := HX.out; omega), HX.out]), hbel⟩

theorem szDiskMoveS_any (l : List DiskMove) : SzDiskMoveS l := szDiskMoveS_of l fun x _ => szDiskMove_any x

theorem info_DiskMove : (Tryz.prog.info? 119).map (fun i => (i.zero, i.size, i.bytes)) = some (some (.agg #[.bool false, .string .empty]), 2, 24) := by kernel_rfl
def ToDiskMove (x : DiskMove) : Prop := ∀ (us : List Value) (fp : List Nat) (w : World), OwC w x.cells us fp → Lt fp w.heap.size → x.bulk ≤ 1048576 →
  Calls Tryz.prog 82 #[.agg us.toArray] w fun e w' => ∃ vs fq, e = .returned (.agg vs.toArray) ∧ OwC w' x.cells vs fq ∧ New w' fq w.heap.size ∧ Below w.heap.size w w'
set_option maxRecDepth 100000 in
set_option maxHeartbeats 400000 in
theorem toDiskMove_of (x : DiskMove) : ToDiskMove x := by
  intro us fp w ho hf hbk
  obtain ⟨rfl, w1, rfl⟩ := ho.oDiskMove
  rw [DiskMove.bulk_eq] at hbk
  have hB0 : Below w.heap.size w (((w.alloc (.cells #[.bool x.gone, .string x.name] 114)).alloc (.cells #[.bool false, .string .empty] 119)).alloc (.cells #[.bool x.gone, .string x.name] 119)) := (((Below.refl _ _).alloc (Nat.le_refl _) _).alloc (by simp) _).alloc (by simp; omega) _
  have R0 : Row (((w.alloc (.cells #[.bool x.gone, .string x.name] 114)).alloc (.cells #[.bool false, .string .empty] 119)).alloc (.cells #[.bool x.gone, .string x.name] 119)) w.heap.size 114 [.bool x.gone, .string x.name] := ((Row.new w _ _).alloc _).alloc _
  have Z0 : Row (((w.alloc (.cells #[.bool x.gone, .string x.name] 114)).alloc (.cells #[.bool false, .string .empty] 119)).alloc (.cells #[.bool x.gone, .string x.name] 119)) (w.heap.size + 1) 119 [.bool false, .string .empty] := by
    have h := (Row.new (w.alloc (.cells #[.bool x.gone, .string x.name] 114)) 119 [.bool false, .string .empty]).alloc (.cells #[.bool x.gone, .string x.name] 119)
    simpa using h
  have O0 : Row (((w.alloc (.cells #[.bool x.gone, .string x.name] 114)).alloc (.cells #[.bool false, .string .empty] 119)).alloc (.cells #[.bool x.gone, .string x.name] 119)) (w.heap.size + 1 + 1) 119 [.bool x.gone, .string x.name] := by
    have h := Row.new ((w.alloc (.cells #[.bool x.gone, .string x.name] 114)).alloc (.cells #[.bool false, .string .empty] 119)) 119 [.bool x.gone, .string x.name]
    simpa using h
  clear ho
  go_enter Tryz.func82, Tryz.ntmps82
  go_wp2
  refine bodyPost_ret (v := .agg #[.bool x.gone, .string x.name]) (by simp [results, Tryz.results82, go_sem]) rfl ?_
  refine ⟨[.bool x.gone, .string x.name], [], rfl, ?_, ?_, ?_⟩
  · exact OwC.mDiskMove w1
  · exact New.nil _ _
  · iterate 3 refine Below.alloc ?_ (by simp; try omega) _
    exact Below.refl _ _
theorem toDiskMove_any (x : DiskMove) : ToDiskMove x := toDiskMove_of x
def ToDiskMoveS (l : List DiskMove) : Prop := ∀ (A : Option Addr) (n c : Nat) (fp : List Nat) (w : World), Ow w (.s 2 l.length (l.flatMap DiskMove.cells)) (.slice A n c) fp → Lt fp w.heap.size → DiskMove.bulkL l ≤ 1048576 →
  Calls Tryz.prog 38 #[.slice A n c] w fun e w' => ∃ y fq, e = .returned y ∧ Ow w' (.s 2 l.length (l.flatMap DiskMove.cells)) y fq ∧ New w' fq w.heap.size ∧ Below w.heap.size w w'
set_option maxRecDepth 100000 in
set_option maxHeartbeats 400000 in
theorem toDiskMoveS_of (l : List DiskMove) (ih : ∀ x ∈ l, ToDiskMove x) : ToDiskMoveS l := by
  intro A n c fp w h hf hn
  obtain ⟨rfl, hc, hm⟩ := h.nlen
  unfold maxLen at hm
  unfold DiskMove.bulkL at hn
  obtain ⟨i0, hi, hz0, hz1, hz2⟩ := info_parts info_DiskMove
  have hmk := run_make_rowN (P := Tryz.prog) 36 119 i0 _ Tryz.underlying36 hi hz0 .i64 .i64 l.length l.length (Nat.le_refl _) (by rw [hz2]; omega) (by omega)
  rw [hz1] at hmk
  clear hi hz0 hz1 hz2 i0
  go_enter Tryz.func38, Tryz.ntmps38
  go_wp2
  go_loopw [4] (fun i wr => (∃ k us fq, k ≤ l.length ∧ i = .int .i64 (k : Nat) ∧ OwC wr ((l.take k).flatMap DiskMove.cells) us fq ∧ New wr fq (w.heap.size + 1) ∧ us.length = k * 2 ∧ Fill wr w.heap.size 119 us ((l.length - k) * 2)) ∧ Below w.heap.size w wr) (fun i _ => l.length - (intOf i).toNat)
  case atStart => exact ⟨⟨0, [], [], Nat.zero_le _, rfl, by simp [OwC], New.nil _ _, rfl, Fill.made _ _ _ _⟩, (Below.refl _ _).alloc (Nat.le_refl _) _⟩
  case round =>
    obtain ⟨⟨k, us, fq, hk, rfl, ho, hfr, hul, hfl⟩, hb⟩ := hrel
    by_cases hlt : k < l.length
    · obtain ⟨g, off, vs, fi, rfl, hg, hfi, hvl, hcs, hov⟩ := (h.below hb hf).elem DiskMove.cells_len hlt
      have hov' := hov
      obtain ⟨rfl, w1, rfl⟩ := hov.oDiskMove
      have p0 := hcs 0 _ rfl
      have p1 := hcs 1 _ rfl
      simp only [Nat.add_zero] at p0
      have HC := hide (ih _ (List.getElem_mem hlt))
      have HS := hide (DiskMove.cells_snoc l k hlt)
      have hble := DiskMove.bulk_at l k hlt
      have HF := hide hfl
      have HO := hide ho
      have HH := hide h
      have HW := hide hov'
      clear hfl ho h hcs hov hov'
      generalize l[k] = x at *
      go_wp2_with fail
      refine (HC.out _ _ _ HW.out (hf.sub hfi |>.mono hb.size) (by omega)).mono ?_
      rintro e w1 ⟨us1, fq1, rfl, ho1, hfr1, hb1⟩
      have HO1 := hide ho1
      obtain ⟨rfl, bw1, rfl⟩ := ho1.oDiskMove
      have HF1 := hide (HF.out.below hb1 HF.out.lt)
      obtain ⟨z0, hz0⟩ := HF1.out.cell (i := k * 2 + 0) (by omega) (by omega)
      have hfz0 := HF1.out.frozen (k * 2 + 0)
      obtain ⟨z1, hz1⟩ := HF1.out.cell (i := k * 2 + 1) (by omega) (by omega)
      have hfz1 := HF1.out.frozen (k * 2 + 1)
      simp only [Nat.add_zero] at hz0 hfz0
      clear ho1
      go_wp2
      go_roundw
      case rel =>
        have e3 : (l.length - k) * 2 = (l.length - (k + 1)) * 2 + 1 + 1 := by omega
        have hF := HF1.out
        rw [e3] at hF
        have hfr2 : New w1 fq (w.heap.size + 1) := hfr.below hb1 hfr.lt
        have hlo : w.heap.size + 1 ≤ wr.heap.size := HF.out.lt
        have hN := New.app hfr2 hfr1 hfr.lt hlo
        have nm1 : w.heap.size ∉ fq := hfr.out (by omega)
        have nm2 : w.heap.size ∉ [] := hfr1.out (by omega)
        refine ⟨⟨k + 1, us ++ [.bool x.gone] ++ [.string x.name], fq ++ ([]), by omega, by go_num, ?_, ?_, by simp [hul]; omega, ?_⟩, ?_⟩
        · rw [HS.out, List.append_assoc]
          refine OwC.append ?_ ?_
          · have hx := HO.out.below hb1 hfr.lt
            iterate 2 refine OwC.setCell ?_ nm1 _
            exact hx
          · have hx := HO1.out
            iterate 2 refine OwC.setCell ?_ nm2 _
            exact hx
        · iterate 2 refine New.setCell ?_ _ _
          exact hN
        · exact ((hF.push (by simp [hul]) _).push (by simp [hul]) _)
        · have hx := hb.trans (hb1.mono hb.size)
          iterate 2 refine Below.setCell ?_ (by simp; try omega) _
          exact hx
      case measure => simp [intOf]; omega
    · obtain rfl : k = l.length := by omega
      have HB := hide hb
      have hfl' := hfl
      rw [Nat.sub_self, Nat.zero_mul] at hfl'
      rw [List.take_length] at ho
      have hd := hide (hfl'.done ho (n := l.length) (k := 2) (flat_len DiskMove.cells 2 DiskMove.cells_len l) (by unfold maxLen; omega))
      obtain ⟨zs, _, hrow⟩ := hfl
      clear hb hfl' ho
      go_wp2
      go_ret
      refine ⟨_, _, rfl, hd.out, ?_, HB.out⟩
      split
      · exact New.nil _ _
      · exact hfr.cons (Nat.le_refl _) (Unf.row hrow) hrow.lt

theorem toDiskMoveS_any (l : List DiskMove) : ToDiskMoveS l := toDiskMoveS_of l fun x _ => toDiskMove_any x

def EqDiskMove (x : DiskMove) : Prop := ∀ (us vs : List Value) (fp fq : List Nat) (w : World), OwC w x.cells us fp → OwC w x.cells vs fq → Lt fp w.heap.size → Lt fq w.heap.size →
  Calls Tryz.prog 98 #[.agg us.toArray, .agg vs.toArray] w fun e w' => e = .returned (.bool true) ∧ Below w.heap.size w w'
set_option maxRecDepth 100000 in
theorem eqDiskMove_of (x : DiskMove) : EqDiskMove x := by
  intro us vs fp fq w ho ho' hf hf'
  obtain ⟨rfl, w1, rfl⟩ := ho.oDiskMove
  obtain ⟨rfl, bw1, rfl⟩ := ho'.oDiskMove
  have hB0 : Below w.heap.size w ((w.alloc (.cells #[.bool x.gone, .string x.name] 119)).alloc (.cells #[.bool x.gone, .string x.name] 119)) := ((Below.refl _ _).alloc (Nat.le_refl _) _).alloc (by simp) _
  have R0 : Row ((w.alloc (.cells #[.bool x.gone, .string x.name] 119)).alloc (.cells #[.bool x.gone, .string x.name] 119)) w.heap.size 119 [.bool x.gone, .string x.name] := (Row.new w _ _).alloc _
  have S0 : Row ((w.alloc (.cells #[.bool x.gone, .string x.name] 119)).alloc (.cells #[.bool x.gone, .string x.name] 119)) (w.heap.size + 1) 119 [.bool x.gone, .string x.name] := by
    have h := Row.new (w.alloc (.cells #[.bool x.gone, .string x.name] 119)) 119 [.bool x.gone, .string x.name]
    simpa using h
  clear ho ho'
  go_enter Tryz.func98, Tryz.ntmps98
  go_wp2
  go_ret
  exact ⟨rfl, hB0⟩
theorem eqDiskMove_any (x : DiskMove) : EqDiskMove x := eqDiskMove_of x
def EqDiskMoveS (l : List DiskMove) : Prop := ∀ (A A' : Option Addr) (n n' c c' : Nat) (fp fq : List Nat) (w : World), Ow w (.s 2 l.length (l.flatMap DiskMove.cells)) (.slice A n c) fp → Ow w (.s 2 l.length (l.flatMap DiskMove.cells)) (.slice A' n' c') fq → Lt fp w.heap.size → Lt fq w.heap.size →
  Calls Tryz.prog 45 #[.slice A n c, .slice A' n' c'] w fun e w' => e = .returned (.bool true) ∧ Below w.heap.size w w'
set_option maxRecDepth 100000 in
theorem eqDiskMoveS_of (l : List DiskMove) (ih : ∀ x ∈ l, EqDiskMove x) : EqDiskMoveS l := by
  intro A A' n n' c c' fp fq w h h' hf hf'
  obtain ⟨rfl, hc, hm⟩ := h.nlen
  obtain ⟨rfl, hc', hm'⟩ := h'.nlen
  unfold maxLen at hm hm'
  go_enter Tryz.func45, Tryz.ntmps45
  go_wp2
  go_loopw [5] (fun i wr => (∃ k : Nat, k ≤ l.length ∧ i = .int .i64 k) ∧ Below w.heap.size w wr) (fun i _ => l.length - (intOf i).toNat)
  case atStart => exact ⟨⟨0, Nat.zero_le _, rfl⟩, Below.refl _ _⟩
  case round =>
    obtain ⟨⟨k, hk, rfl⟩, hb⟩ := hrel
    by_cases hlt : k < l.length
    · obtain ⟨g, off, vs, fi, rfl, hg, hfi, hvl, hcs, hov⟩ := (h.below hb hf).elem DiskMove.cells_len hlt
      obtain ⟨g', off', vs', fi', rfl, hg', hfi', hvl', hcs', hov'⟩ := (h'.below hb hf').elem DiskMove.cells_len hlt
      have HO := hide hov
      have HO' := hide hov'
      obtain ⟨rfl, w1, rfl⟩ := hov.oDiskMove
      obtain ⟨rfl, bw1, rfl⟩ := hov'.oDiskMove
      have p0 := hcs 0 _ rfl
      have q0 := hcs' 0 _ rfl
      have p1 := hcs 1 _ rfl
      have q1 := hcs' 1 _ rfl
      simp only [Nat.add_zero] at p0 q0
      have HC := hide (ih _ (List.getElem_mem hlt))
      clear hcs hcs' hov hov'
      generalize l[k] = x at *
      go_wp2_with fail
      go_still_tail 8, (by kernel_rfl)
      change wpList _ _ _ _ _ wr.drew
      go_wp2_with fail
      refine (HC.out _ _ _ _ _ (HO.out.drewN 1) (HO'.out.drewN 1) (hf.sub hfi |>.mono hb.size) (hf'.sub hfi' |>.mono hb.size)).mono ?_
      rintro e w1 ⟨rfl, hb1⟩
      go_wp2
      go_roundw
      case rel => exact ⟨⟨k + 1, by omega, by go_num⟩, (below_drewN hb 1).trans (hb1.mono hb.size)⟩
      case measure => simp [intOf]; omega
    · obtain rfl : k = l.length := by omega
      go_wp2
      go_ret
      exact ⟨rfl, hb⟩

theorem eqDiskMoveS_any (l : List DiskMove) : EqDiskMoveS l := eqDiskMoveS_of l fun x _ => eqDiskMove_any x

end Go.Proofs.YtddjgbhkfdpffaaGreatDoor
set_option linter.unusedVariables false
set_option linter.unusedSimpArgs false
namespace Go.Proofs.YtddjgbhkfdpffaaGreatDoor
open Go.ChangeShapes Go.WideShapes Go.ChangeAt Go.RowKit

def SzDisk (x : Disk) : Prop := ∀ (us : List Value) (fp : List Nat) (left : Int) (w : World), OwC w x.cells us fp → Lt fp w.heap.size → 0 ≤ left → left ≤ 1048576 →
  Calls Tryz.prog 6 #[.agg us.toArray, .int .i64 left] w fun e w' => e = .returned (.int .i64 (szr left (x.bulk : Nat))) ∧ Below w.heap.size w w'
set_option maxRecDepth 100000 in
theorem szDisk_of (x : Disk) : SzDisk x := by
  intro us fp left w ho hf h0 h1
  obtain ⟨A1, c1, A2, c2, A3, c3, f1, f2, f3, rfl, o1, o2, o3, rfl⟩ := ho.oDisk
  have l1 := hf.left
  have l2 := hf.right.left
  have l3 := hf.right.right
  have HK := hide (show ((x.bulk : Nat) : Int) = ((DiskFile.bulkL x.files : Nat) : Int) + ((bulkStrs x.names : Nat) : Int) + ((DiskMove.bulkL x.moves : Nat) : Int) by have h := x.bulk_eq; omega)
  have hB0 : Below w.heap.size w (w.alloc (.cells #[.slice A1 x.files.length c1, .slice A2 x.names.length c2, .slice A3 x.moves.length c3] 26)) := (Below.refl _ _).alloc (Nat.le_refl _) _
  have R0 : Row (w.alloc (.cells #[.slice A1 x.files.length c1, .slice A2 x.names.length c2, .slice A3 x.moves.length c3] 26)) w.heap.size 26 [.slice A1 x.files.length c1, .slice A2 x.names.length c2, .slice A3 x.moves.length c3] := Row.new w _ _
  clear ho
  go_enter Tryz.func6, Tryz.ntmps6
  go_wp2_with fail
  refine (szDiskFileS_any _ _ _ _ _ _ _ (o1.below hB0 l1) (l1.up hB0) (by omega) (by omega)).mono ?_
  rintro e w1_ ⟨rfl, hb1⟩
  have hB1 := hB0.trans (hb1.mono hB0.size)
  have R1 := R0.below hb1 R0.lt
  by_cases hx0 : ((DiskFile.bulkL x.files : Nat) : Int) ≤ left
  · rw [szr_yes hx0]
    have c1_1 := R1.cell 1
    have c1_2 := R1.cell 2
    go_wp2_with fail
    refine (szStringS_any _ _ _ _ _ _ _ (o2.below hB1 l2) (by omega) (by omega)).mono ?_
    rintro e w2_ ⟨rfl, hb2⟩
    have hB2 := hB1.trans (hb2.mono hB1.size)
    have R2 := R1.below hb2 R1.lt
    by_cases hx1 : ((bulkStrs x.names : Nat) : Int) ≤ left - ((DiskFile.bulkL x.files : Nat) : Int)
    · rw [szr_yes hx1]
      have c2_2 := R2.cell 2
      go_wp2_with fail
      refine (szDiskMoveS_any _ _ _ _ _ _ _ (o3.below hB2 l3) (l3.up hB2) (by omega) (by omega)).mono ?_
      rintro e w3_ ⟨rfl, hb3⟩
      have hB3 := hB2.trans (hb3.mono hB2.size)
      have R3 := R2.below hb3 R2.lt
      by_cases hx2 : ((DiskMove.bulkL x.moves : Nat) : Int) ≤ left - ((DiskFile.bulkL x.files : Nat) : Int) - ((bulkStrs x.names : Nat) : Int)
      · rw [szr_yes hx2]
        go_wp2
        go_ret
        exact ⟨ret_int (by rw [szr_yes (by have := HK.out; omega)]; have := HK.out; omega), hB3⟩
      · rw [szr_no hx2]
        go_wp2
        go_ret
        exact ⟨ret_int (by rw [szr_no (by have := HK.out; omega)]), hB3⟩
    · rw [szr_no hx1]
      go_wp2
      go_ret
      exact ⟨ret_int (by rw [szr_no (by have := HK.out; omega)]), hB2⟩
  · rw [szr_no hx0]
    go_wp2
    go_ret
    exact ⟨ret_int (by rw [szr_no (by have := HK.out; omega)]), hB1⟩
theorem szDisk_any (x : Disk) : SzDisk x := szDisk_of x

def ToDisk (x : Disk) : Prop := ∀ (us : List Value) (fp : List Nat) (w : World), OwC w x.cells us fp → Lt fp w.heap.size → x.bulk ≤ 1048576 →
  Calls Tryz.prog 8 #[.agg us.toArray] w fun e w' => ∃ vs fq, e = .returned (.agg vs.toArray) ∧ OwC w' x.cells vs fq ∧ New w' fq w.heap.size ∧ Below w.heap.size w w'
set_option maxRecDepth 100000 in
set_option maxHeartbeats 400000 in
theorem toDisk_of (x : Disk) : ToDisk x := by
  intro us fp w ho hf hbk
  obtain ⟨A1, c1, A2, c2, A3, c3, f1, f2, f3, rfl, o1, o2, o3, rfl⟩ := ho.oDisk
  have l1 := hf.left
  have l2 := hf.right.left
  have l3 := hf.right.right
  rw [Disk.bulk_eq] at hbk
  have hs_names : x.names.length ≤ 1048576 := by unfold bulkStrs at hbk; omega
  have hB0 : Below w.heap.size w (((w.alloc (.cells #[.slice A1 x.files.length c1, .slice A2 x.names.length c2, .slice A3 x.moves.length c3] 26)).alloc (.cells #[.slice none 0 0, .slice none 0 0, .slice none 0 0] 38)).alloc (.cells #[.slice none 0 0, .slice none 0 0, .slice none 0 0] 38)) := (((Below.refl _ _).alloc (Nat.le_refl _) _).alloc (by simp) _).alloc (by simp; omega) _
  have R0 : Row (((w.alloc (.cells #[.slice A1 x.files.length c1, .slice A2 x.names.length c2, .slice A3 x.moves.length c3] 26)).alloc (.cells #[.slice none 0 0, .slice none 0 0, .slice none 0 0] 38)).alloc (.cells #[.slice none 0 0, .slice none 0 0, .slice none 0 0] 38)) w.heap.size 26 [.slice A1 x.files.length c1, .slice A2 x.names.length c2, .slice A3 x.moves.length c3] := ((Row.new w _ _).alloc _).alloc _
  have Z0 : Row (((w.alloc (.cells #[.slice A1 x.files.length c1, .slice A2 x.names.length c2, .slice A3 x.moves.length c3] 26)).alloc (.cells #[.slice none 0 0, .slice none 0 0, .slice none 0 0] 38)).alloc (.cells #[.slice none 0 0, .slice none 0 0, .slice none 0 0] 38)) (w.heap.size + 1) 38 [.slice none 0 0, .slice none 0 0, .slice none 0 0] := by
    have h := (Row.new (w.alloc (.cells #[.slice A1 x.files.length c1, .slice A2 x.names.length c2, .slice A3 x.moves.length c3] 26)) 38 [.slice none 0 0, .slice none 0 0, .slice none 0 0]).alloc (.cells #[.slice none 0 0, .slice none 0 0, .slice none 0 0] 38)
    simpa using h
  have O0 : Row (((w.alloc (.cells #[.slice A1 x.files.length c1, .slice A2 x.names.length c2, .slice A3 x.moves.length c3] 26)).alloc (.cells #[.slice none 0 0, .slice none 0 0, .slice none 0 0] 38)).alloc (.cells #[.slice none 0 0, .slice none 0 0, .slice none 0 0] 38)) (w.heap.size + 1 + 1) 38 [.slice none 0 0, .slice none 0 0, .slice none 0 0] := by
    have h := Row.new ((w.alloc (.cells #[.slice A1 x.files.length c1, .slice A2 x.names.length c2, .slice A3 x.moves.length c3] 26)).alloc (.cells #[.slice none 0 0, .slice none 0 0, .slice none 0 0] 38)) 38 [.slice none 0 0, .slice none 0 0, .slice none 0 0]
    simpa using h
  clear ho
  go_enter Tryz.func8, Tryz.ntmps8
  go_wp2_with fail
  have hX0 := hB0
  refine (toDiskFileS_any _ _ _ _ _ _ (o1.below hX0 l1) (l1.up hX0) (by omega)).mono ?_
  rintro e w1_ ⟨y1, q1, rfl, hy1, N1, hb1⟩
  obtain ⟨D1, e1, rfl, _⟩ := hy1.slice
  have Y1 := hide hy1
  clear hy1
  have N1 := N1.mono (lo' := w.heap.size + 3) (by simp)
  have M1 := N1.lt
  have hB1 := hX0.trans (hb1.mono hX0.size)
  have z1 : w.heap.size + 1 + 1 < w1_.heap.size := Nat.lt_of_lt_of_le O0.lt hb1.size
  have R1 := R0.below hb1 (by exact R0.lt)
  have Z1 := Z0.below hb1 (by exact Z0.lt)
  have O1 : Row w1_ (w.heap.size + 1 + 1) 38 [.slice none 0 0, .slice none 0 0, .slice none 0 0] := by
    have h := O0.below hb1 (by exact O0.lt)
    simpa using h
  have c1_1 := R1.cell 1
  have u1_0 := O1.cell 0
  have t1_0 := O1.frozen 0
  go_wp2_with fail
  have hX1 := (hB1.setCell (p := ⟨w.heap.size + 1 + 1, 0, none⟩) (by show w.heap.size ≤ w.heap.size + 1 + 1; omega) (.slice D1 x.files.length e1))
  refine (toStringS_any _ _ _ _ _ _ (o2.below hX1 l2) (l2.up hX1) (by omega)).mono ?_
  rintro e w2_ ⟨y2, q2, rfl, hy2, N2, hb2⟩
  obtain ⟨D2, e2, rfl, _⟩ := hy2.slice
  have Y2 := hide hy2
  clear hy2
  have N2 := N2.mono (lo' := w1_.heap.size) (by simp [World.setCell])
  have M2 := N2.lt
  have hB2 := hX1.trans (hb2.mono hX1.size)
  have z2 : w.heap.size + 1 + 1 < w2_.heap.size := Nat.lt_of_lt_of_le z1 (by have := hb2.size; simpa [World.setCell] using this)
  have R2 := (R1.far (p := ⟨w.heap.size + 1 + 1, 0, none⟩) (by show w.heap.size ≠ w.heap.size + 1 + 1; omega) (.slice D1 x.files.length e1)).below hb2 (by simp [World.setCell]; omega)
  have Z2 := (Z1.far (p := ⟨w.heap.size + 1 + 1, 0, none⟩) (by show w.heap.size + 1 ≠ w.heap.size + 1 + 1; omega) (.slice D1 x.files.length e1)).below hb2 (by simp [World.setCell]; omega)
  have O2 : Row w2_ (w.heap.size + 1 + 1) 38 [.slice D1 x.files.length e1, .slice none 0 0, .slice none 0 0] := by
    have h := (O1.set 0 (.slice D1 x.files.length e1)).below hb2 (by simp [World.setCell]; omega)
    simpa using h
  have Y1 := hide ((Y1.out.setCell (a := ⟨w.heap.size + 1 + 1, 0, none⟩) (fun hm => absurd (N1.fr _ hm).1 (by show ¬ _ ≤ w.heap.size + 1 + 1; omega)) (.slice D1 x.files.length e1)).below hb2 (fun b hb => Nat.lt_of_lt_of_le (M1 b hb) (by simp [World.setCell])))
  have N1 := (N1.setCell ⟨w.heap.size + 1 + 1, 0, none⟩ (.slice D1 x.files.length e1)).below hb2 (fun b hb => Nat.lt_of_lt_of_le (M1 b hb) (by simp [World.setCell]))
  have v2 : w1_.heap.size ≤ w2_.heap.size := by have := hb2.size; simpa [World.setCell] using this
  have c2_2 := R2.cell 2
  have u2_1 := O2.cell 1
  have t2_1 := O2.frozen 1
  go_wp2_with fail
  have hX2 := (hB2.setCell (p := ⟨w.heap.size + 1 + 1, 1, none⟩) (by show w.heap.size ≤ w.heap.size + 1 + 1; omega) (.slice D2 x.names.length e2))
  refine (toDiskMoveS_any _ _ _ _ _ _ (o3.below hX2 l3) (l3.up hX2) (by omega)).mono ?_
  rintro e w3_ ⟨y3, q3, rfl, hy3, N3, hb3⟩
  obtain ⟨D3, e3, rfl, _⟩ := hy3.slice
  have Y3 := hide hy3
  clear hy3
  have N3 := N3.mono (lo' := w2_.heap.size) (by simp [World.setCell])
  have M3 := N3.lt
  have hB3 := hX2.trans (hb3.mono hX2.size)
  have z3 : w.heap.size + 1 + 1 < w3_.heap.size := Nat.lt_of_lt_of_le z2 (by have := hb3.size; simpa [World.setCell] using this)
  have R3 := (R2.far (p := ⟨w.heap.size + 1 + 1, 1, none⟩) (by show w.heap.size ≠ w.heap.size + 1 + 1; omega) (.slice D2 x.names.length e2)).below hb3 (by simp [World.setCell]; omega)
  have Z3 := (Z2.far (p := ⟨w.heap.size + 1 + 1, 1, none⟩) (by show w.heap.size + 1 ≠ w.heap.size + 1 + 1; omega) (.slice D2 x.names.length e2)).below hb3 (by simp [World.setCell]; omega)
  have O3 : Row w3_ (w.heap.size + 1 + 1) 38 [.slice D1 x.files.length e1, .slice D2 x.names.length e2, .slice none 0 0] := by
    have h := (O2.set 1 (.slice D2 x.names.length e2)).below hb3 (by simp [World.setCell]; omega)
    simpa using h
  have Y1 := hide ((Y1.out.setCell (a := ⟨w.heap.size + 1 + 1, 1, none⟩) (fun hm => absurd (N1.fr _ hm).1 (by show ¬ _ ≤ w.heap.size + 1 + 1; omega)) (.slice D2 x.names.length e2)).below hb3 (fun b hb => Nat.lt_of_lt_of_le (M1 b hb) (by simp [World.setCell]; omega)))
  have N1 := (N1.setCell ⟨w.heap.size + 1 + 1, 1, none⟩ (.slice D2 x.names.length e2)).below hb3 (fun b hb => Nat.lt_of_lt_of_le (M1 b hb) (by simp [World.setCell]; omega))
  have Y2 := hide ((Y2.out.setCell (a := ⟨w.heap.size + 1 + 1, 1, none⟩) (fun hm => absurd (N2.fr _ hm).1 (by show ¬ _ ≤ w.heap.size + 1 + 1; omega)) (.slice D2 x.names.length e2)).below hb3 (fun b hb => Nat.lt_of_lt_of_le (M2 b hb) (by simp [World.setCell])))
  have N2 := (N2.setCell ⟨w.heap.size + 1 + 1, 1, none⟩ (.slice D2 x.names.length e2)).below hb3 (fun b hb => Nat.lt_of_lt_of_le (M2 b hb) (by simp [World.setCell]))
  have v3 : w2_.heap.size ≤ w3_.heap.size := by have := hb3.size; simpa [World.setCell] using this
  have u3_2 := O3.cell 2
  have t3_2 := O3.frozen 2
  have u3_0 := O3.cell 0
  have r0 := Z3.cell 0
  have s0 := Z3.frozen 0
  have u3_1 := O3.cell 1
  have r1 := Z3.cell 1
  have s1 := Z3.frozen 1
  have r2 := Z3.cell 2
  have s2 := Z3.frozen 2
  go_wp2
  refine bodyPost_ret (v := .agg #[.slice D1 x.files.length e1, .slice D2 x.names.length e2, .slice D3 x.moves.length e3]) (by simp [results, Tryz.results8, go_sem, r0, r1, r2, s0, s1, s2]) rfl ?_
  refine ⟨[.slice D1 x.files.length e1, .slice D2 x.names.length e2, .slice D3 x.moves.length e3], q1 ++ (q2 ++ (q3)), rfl, ?_, ?_, ?_⟩
  · exact OwC.mDisk (by
      iterate 4 refine Ow.setCell ?_ (fun hm => absurd (N1.fr _ hm).1 (by simp; try omega)) _
      exact Y1.out) (by
      iterate 4 refine Ow.setCell ?_ (fun hm => absurd (N2.fr _ hm).1 (by simp; try omega)) _
      exact Y2.out) (by
      iterate 4 refine Ow.setCell ?_ (fun hm => absurd (N3.fr _ hm).1 (by simp; try omega)) _
      exact Y3.out)
  · have hN := (New.app N1 (New.app N2 N3 M2 (by omega)) M1 (by omega))
    have hN2 := hN.mono (lo' := w.heap.size) (by omega)
    iterate 4 refine New.setCell ?_ _ _
    simpa [List.append_assoc] using hN2
  · iterate 4 refine Below.setCell ?_ (by simp; try omega) _
    exact hB3
theorem toDisk_any (x : Disk) : ToDisk x := toDisk_of x

def EqDisk (x : Disk) : Prop := ∀ (us vs : List Value) (fp fq : List Nat) (w : World), OwC w x.cells us fp → OwC w x.cells vs fq → Lt fp w.heap.size → Lt fq w.heap.size →
  Calls Tryz.prog 11 #[.agg us.toArray, .agg vs.toArray] w fun e w' => e = .returned (.bool true) ∧ Below w.heap.size w w'
set_option maxRecDepth 100000 in
theorem eqDisk_of (x : Disk) : EqDisk x := by
  intro us vs fp fq w ho ho' hf hf'
  obtain ⟨A1, c1, A2, c2, A3, c3, f1, f2, f3, rfl, o1, o2, o3, rfl⟩ := ho.oDisk
  obtain ⟨bA1, bc1, bA2, bc2, bA3, bc3, bf1, bf2, bf3, rfl, bo1, bo2, bo3, rfl⟩ := ho'.oDisk
  have l1 := hf.left
  have l2 := hf.right.left
  have l3 := hf.right.right
  have k1 := hf'.left
  have k2 := hf'.right.left
  have k3 := hf'.right.right
  have hB0 : Below w.heap.size w ((w.alloc (.cells #[.slice A1 x.files.length c1, .slice A2 x.names.length c2, .slice A3 x.moves.length c3] 38)).alloc (.cells #[.slice bA1 x.files.length bc1, .slice bA2 x.names.length bc2, .slice bA3 x.moves.length bc3] 38)) := ((Below.refl _ _).alloc (Nat.le_refl _) _).alloc (by simp) _
  have R0 : Row ((w.alloc (.cells #[.slice A1 x.files.length c1, .slice A2 x.names.length c2, .slice A3 x.moves.length c3] 38)).alloc (.cells #[.slice bA1 x.files.length bc1, .slice bA2 x.names.length bc2, .slice bA3 x.moves.length bc3] 38)) w.heap.size 38 [.slice A1 x.files.length c1, .slice A2 x.names.length c2, .slice A3 x.moves.length c3] := (Row.new w _ _).alloc _
  have S0 : Row ((w.alloc (.cells #[.slice A1 x.files.length c1, .slice A2 x.names.length c2, .slice A3 x.moves.length c3] 38)).alloc (.cells #[.slice bA1 x.files.length bc1, .slice bA2 x.names.length bc2, .slice bA3 x.moves.length bc3] 38)) (w.heap.size + 1) 38 [.slice bA1 x.files.length bc1, .slice bA2 x.names.length bc2, .slice bA3 x.moves.length bc3] := by
    have h := Row.new (w.alloc (.cells #[.slice A1 x.files.length c1, .slice A2 x.names.length c2, .slice A3 x.moves.length c3] 38)) 38 [.slice bA1 x.files.length bc1, .slice bA2 x.names.length bc2, .slice bA3 x.moves.length bc3]
    simpa using h
  clear ho ho'
  go_enter Tryz.func11, Tryz.ntmps11
  go_wp2_with fail
  refine (eqDiskFileS_any _ _ _ _ _ _ _ _ _ _ (o1.below hB0 l1) (bo1.below hB0 k1) (l1.up hB0) (k1.up hB0)).mono ?_
  rintro e w1_ ⟨rfl, hb1⟩
  have hB1 := hB0.trans (hb1.mono hB0.size)
  have R1 := R0.below hb1 R0.lt
  have S1 := S0.below hb1 S0.lt
  have c1_1 := R1.cell 1
  have d1_1 := S1.cell 1
  go_wp2_with fail
  refine (eqStringS_same _ _ _ _ _ _ _ _ _ _ (o2.below hB1 l2) (bo2.below hB1 k2)).mono ?_
  rintro e w2_ ⟨rfl, hb2⟩
  have hB2 := hB1.trans (hb2.mono hB1.size)
  have R2 := R1.below hb2 R1.lt
  have S2 := S1.below hb2 S1.lt
  have c2_2 := R2.cell 2
  have d2_2 := S2.cell 2
  go_wp2_with fail
  refine (eqDiskMoveS_any _ _ _ _ _ _ _ _ _ _ (o3.below hB2 l3) (bo3.below hB2 k3) (l3.up hB2) (k3.up hB2)).mono ?_
  rintro e w3_ ⟨rfl, hb3⟩
  have hB3 := hB2.trans (hb3.mono hB2.size)
  have R3 := R2.below hb3 R2.lt
  have S3 := S2.below hb3 S2.lt
  go_wp2
  go_ret
  exact ⟨rfl, hB3⟩
theorem eqDisk_any (x : Disk) : EqDisk x := eqDisk_of x

end Go.Proofs.YtddjgbhkfdpffaaGreatDoor
