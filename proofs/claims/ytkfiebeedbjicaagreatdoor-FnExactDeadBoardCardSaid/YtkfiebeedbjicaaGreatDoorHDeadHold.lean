/-
  DeadHold: what the laws' own helpers do: the size, a copy, equality.
-/
import Derived.Test.YtkfiebeedbjicaaGreatDoorDDeadHold
set_option linter.unusedVariables false
set_option linter.unusedSimpArgs false
namespace Go.Proofs.YtkfiebeedbjicaaGreatDoor
open Go.ChangeShapes Go.WideShapes Go.ChangeAt Go.RowKit

def SzDeadHold (x : DeadHold) : Prop := ∀ (us : List Value) (fp : List Nat) (left : Int) (w : World), OwC w x.cells us fp → Lt fp w.heap.size → 0 ≤ left → left ≤ 1048576 →
  Calls Tryz.prog 34 #[.agg us.toArray, .int .i64 left] w fun e w' => e = .returned (.int .i64 (szr left (x.bulk : Nat))) ∧ Below w.heap.size w w'
set_option maxRecDepth 100000 in
theorem szDeadHold_of (x : DeadHold) : SzDeadHold x := by
  intro us fp left w ho hf h0 h1
  obtain ⟨rfl, w0, w1, rfl⟩ := ho.oDeadHold
  have m0 := w0
  unfold maxLen at m0
  have HK := hide (show ((x.bulk : Nat) : Int) = ((x.key.size : Nat) : Int) by have h := x.bulk_eq; omega)
  have hB0 : Below w.heap.size w (w.alloc (.cells #[.string x.key, .int .i64 x.behind] 75)) := (Below.refl _ _).alloc (Nat.le_refl _) _
  have R0 : Row (w.alloc (.cells #[.string x.key, .int .i64 x.behind] 75)) w.heap.size 75 [.string x.key, .int .i64 x.behind] := Row.new w _ _
  clear ho
  go_enter Tryz.func34, Tryz.ntmps34
  by_cases hx0 : ((x.key.size : Nat) : Int) ≤ left
  · skip
    go_wp2
    go_ret
    exact ⟨ret_int (by rw [szr_yes (by have := HK.out; omega)]; have := HK.out; omega), hB0⟩
  · go_wp2
    go_ret
    exact ⟨ret_int (by rw [szr_no (by have := HK.out; omega)]), hB0⟩
theorem szDeadHold_any (x : DeadHold) : SzDeadHold x := szDeadHold_of x
def SzDeadHoldS (l : List DeadHold) : Prop := ∀ (A : Option Addr) (n c : Nat) (fp : List Nat) (left : Int) (w : World), Ow w (.s 2 l.length (l.flatMap DeadHold.cells)) (.slice A n c) fp → Lt fp w.heap.size → 0 ≤ left → left ≤ 1048576 →
  Calls Tryz.prog 11 #[.slice A n c, .int .i64 left] w fun e w' => e = .returned (.int .i64 (szr left (DeadHold.bulkL l : Nat))) ∧ Below w.heap.size w w'
set_option maxRecDepth 100000 in
theorem szDeadHoldS_of (l : List DeadHold) (ih : ∀ x ∈ l, SzDeadHold x) : SzDeadHoldS l := by
  intro A n c fp left w h hf h0 h1
  obtain ⟨rfl, hc, hm⟩ := h.nlen
  unfold maxLen at hm
  have HX := hide (show ((DeadHold.bulkL l : Nat) : Int) = l.length + DeadHold.bulkS l by unfold DeadHold.bulkL; omega)
  go_enter Tryz.func11, Tryz.ntmps11
  go_wp2
  · go_ret
    exact ⟨ret_int (by rw [szr_no (by have := HX.out; omega)]), Below.refl _ _⟩
  · go_loopw [1, 5] (fun a i wr => (∃ k : Nat, k ≤ l.length ∧ (l.length : Int) + DeadHold.bulkS (l.take k) ≤ left ∧ a = .int .i64 (left - (l.length + DeadHold.bulkS (l.take k))) ∧ i = .int .i64 k) ∧ Below w.heap.size w wr) (fun _ i _ => l.length - (intOf i).toNat)
    case atStart => exact ⟨⟨0, Nat.zero_le _, by simp [DeadHold.bulkS]; omega, by simp [DeadHold.bulkS], rfl⟩, Below.refl _ _⟩
    case round =>
      obtain ⟨⟨k, hk, hb, rfl, rfl⟩, hbel⟩ := hrel
      by_cases hlt : k < l.length
      · obtain ⟨g, off, us, fi, rfl, hg, hfi, hul, hcs, ho⟩ := (h.below hbel hf).elem DeadHold.cells_len hlt
        have ho' := hide ho
        obtain ⟨rfl, w0, w1, rfl⟩ := ho.oDeadHold
        have p0 := hcs 0 _ rfl
        have p1 := hcs 1 _ rfl
        simp only [Nat.add_zero] at p0
        have HC := hide (ih _ (List.getElem_mem hlt))
        have HE := hide (DeadHold.bulkS_snoc l k hlt)
        have hle := DeadHold.bulkS_le l (k + 1)
        clear hcs ho
        generalize l[k] = x at *
        generalize DeadHold.bulkS (l.take k) = b at *
        go_wp2_with fail
        refine (HC.out _ _ _ _ ho'.out (hf.sub hfi |>.mono hbel.size) (by omega) (by omega)).mono ?_
        rintro e w1 ⟨rfl, hb1⟩
        by_cases hx : ((x.bulk : Nat) : Int) ≤ left - (l.length + b)
        · rw [szr_yes hx]
          go_wp2
          go_roundw
          case rel => exact ⟨⟨k + 1, by omega, by rw [HE.out]; omega, by rw [HE.out]; go_num, by go_num⟩, hbel.trans (hb1.mono hbel.size)⟩
          case measure => simp [intOf]; omega
        · rw [szr_no hx]
          go_wp2
          go_ret
          exact ⟨ret_int (by rw [szr_no (by have := HE.out; have := HX.out; omega)]), hbel.trans (hb1.mono hbel.size)⟩
      · obtain rfl : k = l.length := by omega
        go_wp2
        go_ret
        try rw [List.take_length] at hb
        exact ⟨ret_int (by (try rw [List.take_length]); rw [szr_yes (by have := HX.out; omega), HX.out]), hbel⟩

theorem szDeadHoldS_any (l : List DeadHold) : SzDeadHoldS l := szDeadHoldS_of l fun x _ => szDeadHold_any x

theorem info_DeadHold : (Tryz.prog.info? 58).map (fun i => (i.zero, i.size, i.bytes)) = some (some (.agg #[.string .empty, .int .i64 0]), 2, 24) := by kernel_rfl
def ToDeadHold (x : DeadHold) : Prop := ∀ (us : List Value) (fp : List Nat) (w : World), OwC w x.cells us fp → Lt fp w.heap.size → x.bulk ≤ 1048576 →
  Calls Tryz.prog 41 #[.agg us.toArray] w fun e w' => ∃ vs fq, e = .returned (.agg vs.toArray) ∧ OwC w' x.cells vs fq ∧ New w' fq w.heap.size ∧ Below w.heap.size w w'
set_option maxRecDepth 100000 in
set_option maxHeartbeats 400000 in
theorem toDeadHold_of (x : DeadHold) : ToDeadHold x := by
  intro us fp w ho hf hbk
  obtain ⟨rfl, w0, w1, rfl⟩ := ho.oDeadHold
  rw [DeadHold.bulk_eq] at hbk
  have hB0 : Below w.heap.size w (((w.alloc (.cells #[.string x.key, .int .i64 x.behind] 75)).alloc (.cells #[.string .empty, .int .i64 0] 58)).alloc (.cells #[.string x.key, .int .i64 x.behind] 58)) := (((Below.refl _ _).alloc (Nat.le_refl _) _).alloc (by simp) _).alloc (by simp; omega) _
  have R0 : Row (((w.alloc (.cells #[.string x.key, .int .i64 x.behind] 75)).alloc (.cells #[.string .empty, .int .i64 0] 58)).alloc (.cells #[.string x.key, .int .i64 x.behind] 58)) w.heap.size 75 [.string x.key, .int .i64 x.behind] := ((Row.new w _ _).alloc _).alloc _
  have Z0 : Row (((w.alloc (.cells #[.string x.key, .int .i64 x.behind] 75)).alloc (.cells #[.string .empty, .int .i64 0] 58)).alloc (.cells #[.string x.key, .int .i64 x.behind] 58)) (w.heap.size + 1) 58 [.string .empty, .int .i64 0] := by
    have h := (Row.new (w.alloc (.cells #[.string x.key, .int .i64 x.behind] 75)) 58 [.string .empty, .int .i64 0]).alloc (.cells #[.string x.key, .int .i64 x.behind] 58)
    simpa using h
  have O0 : Row (((w.alloc (.cells #[.string x.key, .int .i64 x.behind] 75)).alloc (.cells #[.string .empty, .int .i64 0] 58)).alloc (.cells #[.string x.key, .int .i64 x.behind] 58)) (w.heap.size + 1 + 1) 58 [.string x.key, .int .i64 x.behind] := by
    have h := Row.new ((w.alloc (.cells #[.string x.key, .int .i64 x.behind] 75)).alloc (.cells #[.string .empty, .int .i64 0] 58)) 58 [.string x.key, .int .i64 x.behind]
    simpa using h
  clear ho
  go_enter Tryz.func41, Tryz.ntmps41
  go_wp2
  refine bodyPost_ret (v := .agg #[.string x.key, .int .i64 x.behind]) (by simp [results, Tryz.results41, go_sem]) rfl ?_
  refine ⟨[.string x.key, .int .i64 x.behind], [], rfl, ?_, ?_, ?_⟩
  · exact OwC.mDeadHold w0 w1
  · exact New.nil _ _
  · iterate 3 refine Below.alloc ?_ (by simp; try omega) _
    exact Below.refl _ _
theorem toDeadHold_any (x : DeadHold) : ToDeadHold x := toDeadHold_of x
def ToDeadHoldS (l : List DeadHold) : Prop := ∀ (A : Option Addr) (n c : Nat) (fp : List Nat) (w : World), Ow w (.s 2 l.length (l.flatMap DeadHold.cells)) (.slice A n c) fp → Lt fp w.heap.size → DeadHold.bulkL l ≤ 1048576 →
  Calls Tryz.prog 20 #[.slice A n c] w fun e w' => ∃ y fq, e = .returned y ∧ Ow w' (.s 2 l.length (l.flatMap DeadHold.cells)) y fq ∧ New w' fq w.heap.size ∧ Below w.heap.size w w'
set_option maxRecDepth 100000 in
set_option maxHeartbeats 400000 in
theorem toDeadHoldS_of (l : List DeadHold) (ih : ∀ x ∈ l, ToDeadHold x) : ToDeadHoldS l := by
  intro A n c fp w h hf hn
  obtain ⟨rfl, hc, hm⟩ := h.nlen
  unfold maxLen at hm
  unfold DeadHold.bulkL at hn
  obtain ⟨i0, hi, hz0, hz1, hz2⟩ := info_parts info_DeadHold
  have hmk := run_make_rowN (P := Tryz.prog) 31 58 i0 _ Tryz.underlying31 hi hz0 .i64 .i64 l.length l.length (Nat.le_refl _) (by rw [hz2]; omega) (by omega)
  rw [hz1] at hmk
  clear hi hz0 hz1 hz2 i0
  go_enter Tryz.func20, Tryz.ntmps20
  go_wp2
  go_loopw [4] (fun i wr => (∃ k us fq, k ≤ l.length ∧ i = .int .i64 (k : Nat) ∧ OwC wr ((l.take k).flatMap DeadHold.cells) us fq ∧ New wr fq (w.heap.size + 1) ∧ us.length = k * 2 ∧ Fill wr w.heap.size 58 us ((l.length - k) * 2)) ∧ Below w.heap.size w wr) (fun i _ => l.length - (intOf i).toNat)
  case atStart => exact ⟨⟨0, [], [], Nat.zero_le _, rfl, by simp [OwC], New.nil _ _, rfl, Fill.made _ _ _ _⟩, (Below.refl _ _).alloc (Nat.le_refl _) _⟩
  case round =>
    obtain ⟨⟨k, us, fq, hk, rfl, ho, hfr, hul, hfl⟩, hb⟩ := hrel
    by_cases hlt : k < l.length
    · obtain ⟨g, off, vs, fi, rfl, hg, hfi, hvl, hcs, hov⟩ := (h.below hb hf).elem DeadHold.cells_len hlt
      have hov' := hov
      obtain ⟨rfl, w0, w1, rfl⟩ := hov.oDeadHold
      have p0 := hcs 0 _ rfl
      have p1 := hcs 1 _ rfl
      simp only [Nat.add_zero] at p0
      have HC := hide (ih _ (List.getElem_mem hlt))
      have HS := hide (DeadHold.cells_snoc l k hlt)
      have hble := DeadHold.bulk_at l k hlt
      have HF := hide hfl
      have HO := hide ho
      have HH := hide h
      have HW := hide hov'
      clear hfl ho h hcs hov hov'
      generalize l[k] = x at *
      go_wp2_with fail
      refine (HC.out _ _ _ HW.out (hf.sub hfi |>.mono hb.size) (by omega)).mono ?_
      rintro e w1 ⟨us1, fq1, rfl, ho1, hfr1, hb1⟩
      have HO1 := hide ho1
      obtain ⟨rfl, bw0, bw1, rfl⟩ := ho1.oDeadHold
      have HF1 := hide (HF.out.below hb1 HF.out.lt)
      obtain ⟨z0, hz0⟩ := HF1.out.cell (i := k * 2 + 0) (by omega) (by omega)
      have hfz0 := HF1.out.frozen (k * 2 + 0)
      obtain ⟨z1, hz1⟩ := HF1.out.cell (i := k * 2 + 1) (by omega) (by omega)
      have hfz1 := HF1.out.frozen (k * 2 + 1)
      simp only [Nat.add_zero] at hz0 hfz0
      clear ho1
      go_wp2
      go_roundw
      case rel =>
        have e3 : (l.length - k) * 2 = (l.length - (k + 1)) * 2 + 1 + 1 := by omega
        have hF := HF1.out
        rw [e3] at hF
        have hfr2 : New w1 fq (w.heap.size + 1) := hfr.below hb1 hfr.lt
        have hlo : w.heap.size + 1 ≤ wr.heap.size := HF.out.lt
        have hN := New.app hfr2 hfr1 hfr.lt hlo
        have nm1 : w.heap.size ∉ fq := hfr.out (by omega)
        have nm2 : w.heap.size ∉ [] := hfr1.out (by omega)
        refine ⟨⟨k + 1, us ++ [.string x.key] ++ [.int .i64 x.behind], fq ++ ([]), by omega, by go_num, ?_, ?_, by simp [hul]; omega, ?_⟩, ?_⟩
        · rw [HS.out, List.append_assoc]
          refine OwC.append ?_ ?_
          · have hx := HO.out.below hb1 hfr.lt
            iterate 2 refine OwC.setCell ?_ nm1 _
            exact hx
          · have hx := HO1.out
            iterate 2 refine OwC.setCell ?_ nm2 _
            exact hx
        · iterate 2 refine New.setCell ?_ _ _
          exact hN
        · exact ((hF.push (by simp [hul]) _).push (by simp [hul]) _)
        · have hx := hb.trans (hb1.mono hb.size)
          iterate 2 refine Below.setCell ?_ (by simp; try omega) _
          exact hx
      case measure => simp [intOf]; omega
    · obtain rfl : k = l.length := by omega
      have HB := hide hb
      have hfl' := hfl
      rw [Nat.sub_self, Nat.zero_mul] at hfl'
      rw [List.take_length] at ho
      have hd := hide (hfl'.done ho (n := l.length) (k := 2) (flat_len DeadHold.cells 2 DeadHold.cells_len l) (by unfold maxLen; omega))
      obtain ⟨zs, _, hrow⟩ := hfl
      clear hb hfl' ho
      go_wp2
      go_ret
      refine ⟨_, _, rfl, hd.out, ?_, HB.out⟩
      split
      · exact New.nil _ _
      · exact hfr.cons (Nat.le_refl _) (Unf.row hrow) hrow.lt

theorem toDeadHoldS_any (l : List DeadHold) : ToDeadHoldS l := toDeadHoldS_of l fun x _ => toDeadHold_any x

def EqDeadHold (x : DeadHold) : Prop := ∀ (us vs : List Value) (fp fq : List Nat) (w : World), OwC w x.cells us fp → OwC w x.cells vs fq → Lt fp w.heap.size → Lt fq w.heap.size →
  Calls Tryz.prog 56 #[.agg us.toArray, .agg vs.toArray] w fun e w' => e = .returned (.bool true) ∧ Below w.heap.size w w'
set_option maxRecDepth 100000 in
theorem eqDeadHold_of (x : DeadHold) : EqDeadHold x := by
  intro us vs fp fq w ho ho' hf hf'
  obtain ⟨rfl, w0, w1, rfl⟩ := ho.oDeadHold
  obtain ⟨rfl, bw0, bw1, rfl⟩ := ho'.oDeadHold
  have hB0 : Below w.heap.size w ((w.alloc (.cells #[.string x.key, .int .i64 x.behind] 58)).alloc (.cells #[.string x.key, .int .i64 x.behind] 58)) := ((Below.refl _ _).alloc (Nat.le_refl _) _).alloc (by simp) _
  have R0 : Row ((w.alloc (.cells #[.string x.key, .int .i64 x.behind] 58)).alloc (.cells #[.string x.key, .int .i64 x.behind] 58)) w.heap.size 58 [.string x.key, .int .i64 x.behind] := (Row.new w _ _).alloc _
  have S0 : Row ((w.alloc (.cells #[.string x.key, .int .i64 x.behind] 58)).alloc (.cells #[.string x.key, .int .i64 x.behind] 58)) (w.heap.size + 1) 58 [.string x.key, .int .i64 x.behind] := by
    have h := Row.new (w.alloc (.cells #[.string x.key, .int .i64 x.behind] 58)) 58 [.string x.key, .int .i64 x.behind]
    simpa using h
  clear ho ho'
  go_enter Tryz.func56, Tryz.ntmps56
  go_wp2
  go_ret
  exact ⟨rfl, hB0⟩
theorem eqDeadHold_any (x : DeadHold) : EqDeadHold x := eqDeadHold_of x
def EqDeadHoldS (l : List DeadHold) : Prop := ∀ (A A' : Option Addr) (n n' c c' : Nat) (fp fq : List Nat) (w : World), Ow w (.s 2 l.length (l.flatMap DeadHold.cells)) (.slice A n c) fp → Ow w (.s 2 l.length (l.flatMap DeadHold.cells)) (.slice A' n' c') fq → Lt fp w.heap.size → Lt fq w.heap.size →
  Calls Tryz.prog 31 #[.slice A n c, .slice A' n' c'] w fun e w' => e = .returned (.bool true) ∧ Below w.heap.size w w'
set_option maxRecDepth 100000 in
theorem eqDeadHoldS_of (l : List DeadHold) (ih : ∀ x ∈ l, EqDeadHold x) : EqDeadHoldS l := by
  intro A A' n n' c c' fp fq w h h' hf hf'
  obtain ⟨rfl, hc, hm⟩ := h.nlen
  obtain ⟨rfl, hc', hm'⟩ := h'.nlen
  unfold maxLen at hm hm'
  go_enter Tryz.func31, Tryz.ntmps31
  go_wp2
  go_loopw [5] (fun i wr => (∃ k : Nat, k ≤ l.length ∧ i = .int .i64 k) ∧ Below w.heap.size w wr) (fun i _ => l.length - (intOf i).toNat)
  case atStart => exact ⟨⟨0, Nat.zero_le _, rfl⟩, Below.refl _ _⟩
  case round =>
    obtain ⟨⟨k, hk, rfl⟩, hb⟩ := hrel
    by_cases hlt : k < l.length
    · obtain ⟨g, off, vs, fi, rfl, hg, hfi, hvl, hcs, hov⟩ := (h.below hb hf).elem DeadHold.cells_len hlt
      obtain ⟨g', off', vs', fi', rfl, hg', hfi', hvl', hcs', hov'⟩ := (h'.below hb hf').elem DeadHold.cells_len hlt
      have HO := hide hov
      have HO' := hide hov'
      obtain ⟨rfl, w0, w1, rfl⟩ := hov.oDeadHold
      obtain ⟨rfl, bw0, bw1, rfl⟩ := hov'.oDeadHold
      have p0 := hcs 0 _ rfl
      have q0 := hcs' 0 _ rfl
      have p1 := hcs 1 _ rfl
      have q1 := hcs' 1 _ rfl
      simp only [Nat.add_zero] at p0 q0
      have HC := hide (ih _ (List.getElem_mem hlt))
      clear hcs hcs' hov hov'
      generalize l[k] = x at *
      go_wp2_with fail
      go_still_tail 8, (by kernel_rfl)
      change wpList _ _ _ _ _ wr.drew
      go_wp2_with fail
      refine (HC.out _ _ _ _ _ (HO.out.drewN 1) (HO'.out.drewN 1) (hf.sub hfi |>.mono hb.size) (hf'.sub hfi' |>.mono hb.size)).mono ?_
      rintro e w1 ⟨rfl, hb1⟩
      go_wp2
      go_roundw
      case rel => exact ⟨⟨k + 1, by omega, by go_num⟩, (below_drewN hb 1).trans (hb1.mono hb.size)⟩
      case measure => simp [intOf]; omega
    · obtain rfl : k = l.length := by omega
      go_wp2
      go_ret
      exact ⟨rfl, hb⟩

theorem eqDeadHoldS_any (l : List DeadHold) : EqDeadHoldS l := eqDeadHoldS_of l fun x _ => eqDeadHold_any x

end Go.Proofs.YtkfiebeedbjicaaGreatDoor
