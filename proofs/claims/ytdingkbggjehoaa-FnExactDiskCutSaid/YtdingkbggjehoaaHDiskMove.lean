/-
  DiskMove: what the laws' own helpers do: the size, a copy, equality.
-/
import Derived.Test.YtdingkbggjehoaaDDiskMove
set_option linter.unusedVariables false
set_option linter.unusedSimpArgs false
namespace Go.Proofs.Ytdingkbggjehoaa
open Go.ChangeShapes Go.WideShapes Go.ChangeAt Go.RowKit

def SzDiskMove (x : DiskMove) : Prop := ∀ (us : List Value) (fp : List Nat) (left : Int) (w : World), OwC w x.cells us fp → Lt fp w.heap.size → 0 ≤ left → left ≤ 1048576 →
  Calls Try.prog 170 #[.agg us.toArray, .int .i64 left] w fun e w' => e = .returned (.int .i64 (szr left (x.bulk : Nat))) ∧ Below w.heap.size w w'
set_option maxRecDepth 100000 in
theorem szDiskMove_of (x : DiskMove) : SzDiskMove x := by
  intro us fp left w ho hf h0 h1
  obtain ⟨rfl, w1, rfl⟩ := ho.oDiskMove
  have m1 := w1
  unfold maxLen at m1
  have HK := hide (show ((x.bulk : Nat) : Int) = ((x.name.size : Nat) : Int) by have h := x.bulk_eq; omega)
  have hB0 : Below w.heap.size w (w.alloc (.cells #[.bool x.gone, .string x.name] 197)) := (Below.refl _ _).alloc (Nat.le_refl _) _
  have R0 : Row (w.alloc (.cells #[.bool x.gone, .string x.name] 197)) w.heap.size 197 [.bool x.gone, .string x.name] := Row.new w _ _
  clear ho
  go_enter Try.func170, Try.ntmps170
  by_cases hx0 : ((x.name.size : Nat) : Int) ≤ left
  · skip
    go_wp2
    go_ret
    exact ⟨ret_int (by rw [szr_yes (by have := HK.out; omega)]; have := HK.out; omega), hB0⟩
  · go_wp2
    go_ret
    exact ⟨ret_int (by rw [szr_no (by have := HK.out; omega)]), hB0⟩
theorem szDiskMove_any (x : DiskMove) : SzDiskMove x := szDiskMove_of x
def SzDiskMoveS (l : List DiskMove) : Prop := ∀ (A : Option Addr) (n c : Nat) (fp : List Nat) (left : Int) (w : World), Ow w (.s 2 l.length (l.flatMap DiskMove.cells)) (.slice A n c) fp → Lt fp w.heap.size → 0 ≤ left → left ≤ 1048576 →
  Calls Try.prog 117 #[.slice A n c, .int .i64 left] w fun e w' => e = .returned (.int .i64 (szr left (DiskMove.bulkL l : Nat))) ∧ Below w.heap.size w w'
set_option maxRecDepth 100000 in
theorem szDiskMoveS_of (l : List DiskMove) (ih : ∀ x ∈ l, SzDiskMove x) : SzDiskMoveS l := by
  intro A n c fp left w h hf h0 h1
  obtain ⟨rfl, hc, hm⟩ := h.nlen
  unfold maxLen at hm
  have HX := hide (show ((DiskMove.bulkL l : Nat) : Int) = l.length + DiskMove.bulkS l by unfold DiskMove.bulkL; omega)
  go_enter Try.func117, Try.ntmps117
  go_wp2
  · go_ret
    exact ⟨ret_int (by rw [szr_no (by have := HX.out; omega)]), Below.refl _ _⟩
  · go_loopw [1, 5] (fun a i wr => (∃ k : Nat, k ≤ l.length ∧ (l.length : Int) + DiskMove.bulkS (l.take k) ≤ left ∧ a = .int .i64 (left - (l.length + DiskMove.bulkS (l.take k))) ∧ i = .int .i64 k) ∧ Below w.heap.size w wr) (fun _ i _ => l.length - (intOf i).toNat)
    case atStart => exact ⟨⟨0, Nat.zero_le _, by simp [DiskMove.bulkS]; omega, by simp [DiskMove.bulkS], rfl⟩, Below.refl _ _⟩
    case round =>
      obtain ⟨⟨k, hk, hb, rfl, rfl⟩, hbel⟩ := hrel
      by_cases hlt : k < l.length
      · obtain ⟨g, off, us, fi, rfl, hg, hfi, hul, hcs, ho⟩ := (h.below hbel hf).elem DiskMove.cells_len hlt
        have ho' := hide ho
        obtain ⟨rfl, w1, rfl⟩ := ho.oDiskMove
        have p0 := hcs 0 _ rfl
        have p1 := hcs 1 _ rfl
        simp only [Nat.add_zero] at p0
        have HC := hide (ih _ (List.getElem_mem hlt))
        have HE := hide (DiskMove.bulkS_snoc l k hlt)
        have hle := DiskMove.bulkS_le l (k + 1)
        clear hcs ho
        generalize l[k] = x at *
        generalize DiskMove.bulkS (l.take k) = b at *
        go_wp2_with fail
        refine (HC.out _ _ _ _ ho'.out (hf.sub hfi |>.mono hbel.size) (by omega) (by omega)).mono ?_
        rintro e w1 ⟨rfl, hb1⟩
        by_cases hx : ((x.bulk : Nat) : Int) ≤ left - (l.length + b)
        · rw [szr_yes hx]
          go_wp2
          go_roundw
          case rel => exact ⟨⟨k + 1, by omega, by rw [HE.out]; omega, by rw [HE.out]; go_num, by go_num⟩, hbel.trans (hb1.mono hbel.size)⟩
          case measure => simp [intOf]; omega
        · rw [szr_no hx]
          go_wp2
          go_ret
          exact ⟨ret_int (by rw [szr_no (by have := HE.out; have := HX.out; omega)]), hbel.trans (hb1.mono hbel.size)⟩
      · obtain rfl : k = l.length := by omega
        go_wp2
        go_ret
        try rw [List.take_length] at hb
        exact ⟨ret_int (by (try rw [List.take_length]); rw [szr_yes (by have := HX.out; omega), HX.out]), hbel⟩

theorem szDiskMoveS_any (l : List DiskMove) : SzDiskMoveS l := szDiskMoveS_of l fun x _ => szDiskMove_any x

theorem info_DiskMove : (Try.prog.info? 147).map (fun i => (i.zero, i.size, i.bytes)) = some (some (.agg #[.bool false, .string .empty]), 2, 24) := by kernel_rfl
def ToDiskMove (x : DiskMove) : Prop := ∀ (us : List Value) (fp : List Nat) (w : World), OwC w x.cells us fp → Lt fp w.heap.size → x.bulk ≤ 1048576 →
  Calls Try.prog 173 #[.agg us.toArray] w fun e w' => ∃ vs fq, e = .returned (.agg vs.toArray) ∧ OwC w' x.cells vs fq ∧ New w' fq w.heap.size ∧ Below w.heap.size w w'
set_option maxRecDepth 100000 in
set_option maxHeartbeats 400000 in
theorem toDiskMove_of (x : DiskMove) : ToDiskMove x := by
  intro us fp w ho hf hbk
  obtain ⟨rfl, w1, rfl⟩ := ho.oDiskMove
  rw [DiskMove.bulk_eq] at hbk
  have hB0 : Below w.heap.size w (((w.alloc (.cells #[.bool x.gone, .string x.name] 197)).alloc (.cells #[.bool false, .string .empty] 147)).alloc (.cells #[.bool x.gone, .string x.name] 147)) := (((Below.refl _ _).alloc (Nat.le_refl _) _).alloc (by simp) _).alloc (by simp; omega) _
  have R0 : Row (((w.alloc (.cells #[.bool x.gone, .string x.name] 197)).alloc (.cells #[.bool false, .string .empty] 147)).alloc (.cells #[.bool x.gone, .string x.name] 147)) w.heap.size 197 [.bool x.gone, .string x.name] := ((Row.new w _ _).alloc _).alloc _
  have Z0 : Row (((w.alloc (.cells #[.bool x.gone, .string x.name] 197)).alloc (.cells #[.bool false, .string .empty] 147)).alloc (.cells #[.bool x.gone, .string x.name] 147)) (w.heap.size + 1) 147 [.bool false, .string .empty] := by
    have h := (Row.new (w.alloc (.cells #[.bool x.gone, .string x.name] 197)) 147 [.bool false, .string .empty]).alloc (.cells #[.bool x.gone, .string x.name] 147)
    simpa using h
  have O0 : Row (((w.alloc (.cells #[.bool x.gone, .string x.name] 197)).alloc (.cells #[.bool false, .string .empty] 147)).alloc (.cells #[.bool x.gone, .string x.name] 147)) (w.heap.size + 1 + 1) 147 [.bool x.gone, .string x.name] := by
    have h := Row.new ((w.alloc (.cells #[.bool x.gone, .string x.name] 197)).alloc (.cells #[.bool false, .string .empty] 147)) 147 [.bool x.gone, .string x.name]
    simpa using h
  clear ho
  go_enter Try.func173, Try.ntmps173
  go_wp2
  refine bodyPost_ret (v := .agg #[.bool x.gone, .string x.name]) (by simp [results, Try.results173, go_sem]) rfl ?_
  refine ⟨[.bool x.gone, .string x.name], [], rfl, ?_, ?_, ?_⟩
  · exact OwC.mDiskMove w1
  · exact New.nil _ _
  · iterate 3 refine Below.alloc ?_ (by simp; try omega) _
    exact Below.refl _ _
theorem toDiskMove_any (x : DiskMove) : ToDiskMove x := toDiskMove_of x
def ToDiskMoveS (l : List DiskMove) : Prop := ∀ (A : Option Addr) (n c : Nat) (fp : List Nat) (w : World), Ow w (.s 2 l.length (l.flatMap DiskMove.cells)) (.slice A n c) fp → Lt fp w.heap.size → DiskMove.bulkL l ≤ 1048576 →
  Calls Try.prog 124 #[.slice A n c] w fun e w' => ∃ y fq, e = .returned y ∧ Ow w' (.s 2 l.length (l.flatMap DiskMove.cells)) y fq ∧ New w' fq w.heap.size ∧ Below w.heap.size w w'
set_option maxRecDepth 100000 in
set_option maxHeartbeats 400000 in
theorem toDiskMoveS_of (l : List DiskMove) (ih : ∀ x ∈ l, ToDiskMove x) : ToDiskMoveS l := by
  intro A n c fp w h hf hn
  obtain ⟨rfl, hc, hm⟩ := h.nlen
  unfold maxLen at hm
  unfold DiskMove.bulkL at hn
  obtain ⟨i0, hi, hz0, hz1, hz2⟩ := info_parts info_DiskMove
  have hmk := run_make_rowN (P := Try.prog) 81 147 i0 _ Try.underlying81 hi hz0 .i64 .i64 l.length l.length (Nat.le_refl _) (by rw [hz2]; omega) (by omega)
  rw [hz1] at hmk
  clear hi hz0 hz1 hz2 i0
  go_enter Try.func124, Try.ntmps124
  go_wp2
  go_loopw [4] (fun i wr => (∃ k us fq, k ≤ l.length ∧ i = .int .i64 (k : Nat) ∧ OwC wr ((l.take k).flatMap DiskMove.cells) us fq ∧ New wr fq (w.heap.size + 1) ∧ us.length = k * 2 ∧ Fill wr w.heap.size 147 us ((l.length - k) * 2)) ∧ Below w.heap.size w wr) (fun i _ => l.length - (intOf i).toNat)
  case atStart => exact ⟨⟨0, [], [], Nat.zero_le _, rfl, by simp [OwC], New.nil _ _, rfl, Fill.made _ _ _ _⟩, (Below.refl _ _).alloc (Nat.le_refl _) _⟩
  case round =>
    obtain ⟨⟨k, us, fq, hk, rfl, ho, hfr, hul, hfl⟩, hb⟩ := hrel
    by_cases hlt : k < l.length
    · obtain ⟨g, off, vs, fi, rfl, hg, hfi, hvl, hcs, hov⟩ := (h.below hb hf).elem DiskMove.cells_len hlt
      have hov' := hov
      obtain ⟨rfl, w1, rfl⟩ := hov.oDiskMove
      have p0 := hcs 0 _ rfl
      have p1 := hcs 1 _ rfl
      simp only [Nat.add_zero] at p0
      have HC := hide (ih _ (List.getElem_mem hlt))
      have HS := hide (DiskMove.cells_snoc l k hlt)
      have hble := DiskMove.bulk_at l k hlt
      have HF := hide hfl
      have HO := hide ho
      have HH := hide h
      have HW := hide hov'
      clear hfl ho h hcs hov hov'
      generalize l[k] = x at *
      go_wp2_with fail
      refine (HC.out _ _ _ HW.out (hf.sub hfi |>.mono hb.size) (by omega)).mono ?_
      rintro e w1 ⟨us1, fq1, rfl, ho1, hfr1, hb1⟩
      have HO1 := hide ho1
      obtain ⟨rfl, bw1, rfl⟩ := ho1.oDiskMove
      have HF1 := hide (HF.out.below hb1 HF.out.lt)
      obtain ⟨z0, hz0⟩ := HF1.out.cell (i := k * 2 + 0) (by omega) (by omega)
      have hfz0 := HF1.out.frozen (k * 2 + 0)
      obtain ⟨z1, hz1⟩ := HF1.out.cell (i := k * 2 + 1) (by omega) (by omega)
      have hfz1 := HF1.out.frozen (k * 2 + 1)
      simp only [Nat.add_zero] at hz0 hfz0
      clear ho1
      go_wp2
      go_roundw
      case rel =>
        have e3 : (l.length - k) * 2 = (l.length - (k + 1)) * 2 + 1 + 1 := by omega
        have hF := HF1.out
        rw [e3] at hF
        have hfr2 : New w1 fq (w.heap.size + 1) := hfr.below hb1 hfr.lt
        have hlo : w.heap.size + 1 ≤ wr.heap.size := HF.out.lt
        have hN := New.app hfr2 hfr1 hfr.lt hlo
        have nm1 : w.heap.size ∉ fq := hfr.out (by omega)
        have nm2 : w.heap.size ∉ [] := hfr1.out (by omega)
        refine ⟨⟨k + 1, us ++ [.bool x.gone] ++ [.string x.name], fq ++ ([]), by omega, by go_num, ?_, ?_, by simp [hul]; omega, ?_⟩, ?_⟩
        · rw [HS.out, List.append_assoc]
          refine OwC.append ?_ ?_
          · have hx := HO.out.below hb1 hfr.lt
            iterate 2 refine OwC.setCell ?_ nm1 _
            exact hx
          · have hx := HO1.out
            iterate 2 refine OwC.setCell ?_ nm2 _
            exact hx
        · iterate 2 refine New.setCell ?_ _ _
          exact hN
        · exact ((hF.push (by simp [hul]) _).push (by simp [hul]) _)
        · have hx := hb.trans (hb1.mono hb.size)
          iterate 2 refine Below.setCell ?_ (by simp; try omega) _
          exact hx
      case measure => simp [intOf]; omega
    · obtain rfl : k = l.length := by omega
      have HB := hide hb
      have hfl' := hfl
      rw [Nat.sub_self, Nat.zero_mul] at hfl'
      rw [List.take_length] at ho
      have hd := hide (hfl'.done ho (n := l.length) (k := 2) (flat_len DiskMove.cells 2 DiskMove.cells_len l) (by unfold maxLen; omega))
      obtain ⟨zs, _, hrow⟩ := hfl
      clear hb hfl' ho
      go_wp2
      go_ret
      refine ⟨_, _, rfl, hd.out, ?_, HB.out⟩
      split
      · exact New.nil _ _
      · exact hfr.cons (Nat.le_refl _) (Unf.row hrow) hrow.lt

theorem toDiskMoveS_any (l : List DiskMove) : ToDiskMoveS l := toDiskMoveS_of l fun x _ => toDiskMove_any x

def EqDiskMove (x : DiskMove) : Prop := ∀ (us vs : List Value) (fp fq : List Nat) (w : World), OwC w x.cells us fp → OwC w x.cells vs fq → Lt fp w.heap.size → Lt fq w.heap.size →
  Calls Try.prog 179 #[.agg us.toArray, .agg vs.toArray] w fun e w' => e = .returned (.bool true) ∧ Below w.heap.size w w'
set_option maxRecDepth 100000 in
theorem eqDiskMove_of (x : DiskMove) : EqDiskMove x := by
  intro us vs fp fq w ho ho' hf hf'
  obtain ⟨rfl, w1, rfl⟩ := ho.oDiskMove
  obtain ⟨rfl, bw1, rfl⟩ := ho'.oDiskMove
  have hB0 : Below w.heap.size w ((w.alloc (.cells #[.bool x.gone, .string x.name] 147)).alloc (.cells #[.bool x.gone, .string x.name] 147)) := ((Below.refl _ _).alloc (Nat.le_refl _) _).alloc (by simp) _
  have R0 : Row ((w.alloc (.cells #[.bool x.gone, .string x.name] 147)).alloc (.cells #[.bool x.gone, .string x.name] 147)) w.heap.size 147 [.bool x.gone, .string x.name] := (Row.new w _ _).alloc _
  have S0 : Row ((w.alloc (.cells #[.bool x.gone, .string x.name] 147)).alloc (.cells #[.bool x.gone, .string x.name] 147)) (w.heap.size + 1) 147 [.bool x.gone, .string x.name] := by
    have h := Row.new (w.alloc (.cells #[.bool x.gone, .string x.name] 147)) 147 [.bool x.gone, .string x.name]
    simpa using h
  clear ho ho'
  go_enter Try.func179, Try.ntmps179
  go_wp2
  go_ret
  exact ⟨rfl, hB0⟩
theorem eqDiskMove_any (x : DiskMove) : EqDiskMove x := eqDiskMove_of x
def EqDiskMoveS (l : List DiskMove) : Prop := ∀ (A A' : Option Addr) (n n' c c' : Nat) (fp fq : List Nat) (w : World), Ow w (.s 2 l.length (l.flatMap DiskMove.cells)) (.slice A n c) fp → Ow w (.s 2 l.length (l.flatMap DiskMove.cells)) (.slice A' n' c') fq → Lt fp w.heap.size → Lt fq w.heap.size →
  Calls Try.prog 133 #[.slice A n c, .slice A' n' c'] w fun e w' => e = .returned (.bool true) ∧ Below w.heap.size w w'
set_option maxRecDepth 100000 in
theorem eqDiskMoveS_of (l : List DiskMove) (ih : ∀ x ∈ l, EqDiskMove x) : EqDiskMoveS l := by
  intro A A' n n' c c' fp fq w h h' hf hf'
  obtain ⟨rfl, hc, hm⟩ := h.nlen
  obtain ⟨rfl, hc', hm'⟩ := h'.nlen
  unfold maxLen at hm hm'
  go_enter Try.func133, Try.ntmps133
  go_wp2
  go_loopw [5] (fun i wr => (∃ k : Nat, k ≤ l.length ∧ i = .int .i64 k) ∧ Below w.heap.size w wr) (fun i _ => l.length - (intOf i).toNat)
  case atStart => exact ⟨⟨0, Nat.zero_le _, rfl⟩, Below.refl _ _⟩
  case round =>
    obtain ⟨⟨k, hk, rfl⟩, hb⟩ := hrel
    by_cases hlt : k < l.length
    · obtain ⟨g, off, vs, fi, rfl, hg, hfi, hvl, hcs, hov⟩ := (h.below hb hf).elem DiskMove.cells_len hlt
      obtain ⟨g', off', vs', fi', rfl, hg', hfi', hvl', hcs', hov'⟩ := (h'.below hb hf').elem DiskMove.cells_len hlt
      have HO := hide hov
      have HO' := hide hov'
      obtain ⟨rfl, w1, rfl⟩ := hov.oDiskMove
      obtain ⟨rfl, bw1, rfl⟩ := hov'.oDiskMove
      have p0 := hcs 0 _ rfl
      have q0 := hcs' 0 _ rfl
      have p1 := hcs 1 _ rfl
      have q1 := hcs' 1 _ rfl
      simp only [Nat.add_zero] at p0 q0
      have HC := hide (ih _ (List.getElem_mem hlt))
      clear hcs hcs' hov hov'
      generalize l[k] = x at *
      go_wp2_with fail
      go_still_tail 8, (by kernel_rfl)
      change wpList _ _ _ _ _ wr.drew
      go_wp2_with fail
      refine (HC.out _ _ _ _ _ (HO.out.drewN 1) (HO'.out.drewN 1) (hf.sub hfi |>.mono hb.size) (hf'.sub hfi' |>.mono hb.size)).mono ?_
      rintro e w1 ⟨rfl, hb1⟩
      go_wp2
      go_roundw
      case rel => exact ⟨⟨k + 1, by omega, by go_num⟩, (below_drewN hb 1).trans (hb1.mono hb.size)⟩
      case measure => simp [intOf]; omega
    · obtain rfl : k = l.length := by omega
      go_wp2
      go_ret
      exact ⟨rfl, hb⟩

theorem eqDiskMoveS_any (l : List DiskMove) : EqDiskMoveS l := eqDiskMoveS_of l fun x _ => eqDiskMove_any x

end Go.Proofs.Ytdingkbggjehoaa
