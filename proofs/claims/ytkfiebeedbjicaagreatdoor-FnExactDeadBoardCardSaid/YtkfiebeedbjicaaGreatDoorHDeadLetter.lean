/-
  DeadLetter: what the laws' own helpers do: the size, a copy, equality.
-/
import Derived.Test.YtkfiebeedbjicaaGreatDoorDDeadLetter
set_option linter.unusedVariables false
set_option linter.unusedSimpArgs false
namespace Go.Proofs.YtkfiebeedbjicaaGreatDoor
open Go.ChangeShapes Go.WideShapes Go.ChangeAt Go.RowKit

def SzDeadLetter (x : DeadLetter) : Prop := ∀ (us : List Value) (fp : List Nat) (left : Int) (w : World), OwC w x.cells us fp → Lt fp w.heap.size → 0 ≤ left → left ≤ 1048576 →
  Calls Tryz.prog 33 #[.agg us.toArray, .int .i64 left] w fun e w' => e = .returned (.int .i64 (szr left (x.bulk : Nat))) ∧ Below w.heap.size w w'
set_option maxRecDepth 100000 in
theorem szDeadLetter_of (x : DeadLetter) : SzDeadLetter x := by
  intro us fp left w ho hf h0 h1
  obtain ⟨rfl, w0, w1, w2, w3, w4, w5, w6, rfl⟩ := ho.oDeadLetter
  have m1 := w1
  unfold maxLen at m1
  have m4 := w4
  unfold maxLen at m4
  have HK := hide (show ((x.bulk : Nat) : Int) = ((x.key.size : Nat) : Int) + ((x.type_.size : Nat) : Int) by have h := x.bulk_eq; omega)
  have hB0 : Below w.heap.size w (w.alloc (.cells #[.int .i64 x.pos, .string x.key, .int .i64 x.code, .int .i64 x.why, .string x.type_, .int .i64 x.version, .int .i64 x.behind] 73)) := (Below.refl _ _).alloc (Nat.le_refl _) _
  have R0 : Row (w.alloc (.cells #[.int .i64 x.pos, .string x.key, .int .i64 x.code, .int .i64 x.why, .string x.type_, .int .i64 x.version, .int .i64 x.behind] 73)) w.heap.size 73 [.int .i64 x.pos, .string x.key, .int .i64 x.code, .int .i64 x.why, .string x.type_, .int .i64 x.version, .int .i64 x.behind] := Row.new w _ _
  clear ho
  go_enter Tryz.func33, Tryz.ntmps33
  by_cases hx0 : ((x.key.size : Nat) : Int) ≤ left
  · skip
    by_cases hx1 : ((x.type_.size : Nat) : Int) ≤ left - ((x.key.size : Nat) : Int)
    · skip
      go_wp2
      go_ret
      exact ⟨ret_int (by rw [szr_yes (by have := HK.out; omega)]; have := HK.out; omega), hB0⟩
    · go_wp2
      go_ret
      exact ⟨ret_int (by rw [szr_no (by have := HK.out; omega)]), hB0⟩
  · go_wp2
    go_ret
    exact ⟨ret_int (by rw [szr_no (by have := HK.out; omega)]), hB0⟩
theorem szDeadLetter_any (x : DeadLetter) : SzDeadLetter x := szDeadLetter_of x
def SzDeadLetterS (l : List DeadLetter) : Prop := ∀ (A : Option Addr) (n c : Nat) (fp : List Nat) (left : Int) (w : World), Ow w (.s 7 l.length (l.flatMap DeadLetter.cells)) (.slice A n c) fp → Lt fp w.heap.size → 0 ≤ left → left ≤ 1048576 →
  Calls Tryz.prog 10 #[.slice A n c, .int .i64 left] w fun e w' => e = .returned (.int .i64 (szr left (DeadLetter.bulkL l : Nat))) ∧ Below w.heap.size w w'
set_option maxRecDepth 100000 in
theorem szDeadLetterS_of (l : List DeadLetter) (ih : ∀ x ∈ l, SzDeadLetter x) : SzDeadLetterS l := by
  intro A n c fp left w h hf h0 h1
  obtain ⟨rfl, hc, hm⟩ := h.nlen
  unfold maxLen at hm
  have HX := hide (show ((DeadLetter.bulkL l : Nat) : Int) = l.length + DeadLetter.bulkS l by unfold DeadLetter.bulkL; omega)
  go_enter Tryz.func10, Tryz.ntmps10
  go_wp2
  · go_ret
    exact ⟨ret_int (by rw [szr_no (by have := HX.out; omega)]), Below.refl _ _⟩
  · go_loopw [1, 5] (fun a i wr => (∃ k : Nat, k ≤ l.length ∧ (l.length : Int) + DeadLetter.bulkS (l.take k) ≤ left ∧ a = .int .i64 (left - (l.length + DeadLetter.bulkS (l.take k))) ∧ i = .int .i64 k) ∧ Below w.heap.size w wr) (fun _ i _ => l.length - (intOf i).toNat)
    case atStart => exact ⟨⟨0, Nat.zero_le _, by simp [DeadLetter.bulkS]; omega, by simp [DeadLetter.bulkS], rfl⟩, Below.refl _ _⟩
    case round =>
      obtain ⟨⟨k, hk, hb, rfl, rfl⟩, hbel⟩ := hrel
      by_cases hlt : k < l.length
      · obtain ⟨g, off, us, fi, rfl, hg, hfi, hul, hcs, ho⟩ := (h.below hbel hf).elem DeadLetter.cells_len hlt
        have ho' := hide ho
        obtain ⟨rfl, w0, w1, w2, w3, w4, w5, w6, rfl⟩ := ho.oDeadLetter
        have p0 := hcs 0 _ rfl
        have p1 := hcs 1 _ rfl
        have p2 := hcs 2 _ rfl
        have p3 := hcs 3 _ rfl
        have p4 := hcs 4 _ rfl
        have p5 := hcs 5 _ rfl
        have p6 := hcs 6 _ rfl
        simp only [Nat.add_zero] at p0
        have HC := hide (ih _ (List.getElem_mem hlt))
        have HE := hide (DeadLetter.bulkS_snoc l k hlt)
        have hle := DeadLetter.bulkS_le l (k + 1)
        clear hcs ho
        generalize l[k] = x at *
        generalize DeadLetter.bulkS (l.take k) = b at *
        go_wp2_with fail
        refine (HC.out _ _ _ _ ho'.out (hf.sub hfi |>.mono hbel.size) (by omega) (by omega)).mono ?_
        rintro e w1 ⟨rfl, hb1⟩
        by_cases hx : ((x.bulk : Nat) : Int) ≤ left - (l.length + b)
        · rw [szr_yes hx]
          go_wp2
          go_roundw
          case rel => exact ⟨⟨k + 1, by omega, by rw [HE.out]; omega, by rw [HE.out]; go_num, by go_num⟩, hbel.trans (hb1.mono hbel.size)⟩
          case measure => simp [intOf]; omega
        · rw [szr_no hx]
          go_wp2
          go_ret
          exact ⟨ret_int (by rw [szr_no (by have := HE.out; have := HX.out; omega)]), hbel.trans (hb1.mono hbel.size)⟩
      · obtain rfl : k = l.length := by omega
        go_wp2
        go_ret
        try rw [List.take_length] at hb
        exact ⟨ret_int (by (try rw [List.take_length]); rw [szr_yes (by have := HX.out; omega), HX.out]), hbel⟩

theorem szDeadLetterS_any (l : List DeadLetter) : SzDeadLetterS l := szDeadLetterS_of l fun x _ => szDeadLetter_any x

theorem info_DeadLetter : (Tryz.prog.info? 44).map (fun i => (i.zero, i.size, i.bytes)) = some (some (.agg #[.int .i64 0, .string .empty, .int .i64 0, .int .i64 0, .string .empty, .int .i64 0, .int .i64 0]), 7, 72) := by kernel_rfl
def ToDeadLetter (x : DeadLetter) : Prop := ∀ (us : List Value) (fp : List Nat) (w : World), OwC w x.cells us fp → Lt fp w.heap.size → x.bulk ≤ 1048576 →
  Calls Tryz.prog 40 #[.agg us.toArray] w fun e w' => ∃ vs fq, e = .returned (.agg vs.toArray) ∧ OwC w' x.cells vs fq ∧ New w' fq w.heap.size ∧ Below w.heap.size w w'
set_option maxRecDepth 100000 in
set_option maxHeartbeats 400000 in
theorem toDeadLetter_of (x : DeadLetter) : ToDeadLetter x := by
  intro us fp w ho hf hbk
  obtain ⟨rfl, w0, w1, w2, w3, w4, w5, w6, rfl⟩ := ho.oDeadLetter
  rw [DeadLetter.bulk_eq] at hbk
  have hB0 : Below w.heap.size w (((w.alloc (.cells #[.int .i64 x.pos, .string x.key, .int .i64 x.code, .int .i64 x.why, .string x.type_, .int .i64 x.version, .int .i64 x.behind] 73)).alloc (.cells #[.int .i64 0, .string .empty, .int .i64 0, .int .i64 0, .string .empty, .int .i64 0, .int .i64 0] 44)).alloc (.cells #[.int .i64 x.pos, .string x.key, .int .i64 x.code, .int .i64 x.why, .string x.type_, .int .i64 x.version, .int .i64 x.behind] 44)) := (((Below.refl _ _).alloc (Nat.le_refl _) _).alloc (by simp) _).alloc (by simp; omega) _
  have R0 : Row (((w.alloc (.cells #[.int .i64 x.pos, .string x.key, .int .i64 x.code, .int .i64 x.why, .string x.type_, .int .i64 x.version, .int .i64 x.behind] 73)).alloc (.cells #[.int .i64 0, .string .empty, .int .i64 0, .int .i64 0, .string .empty, .int .i64 0, .int .i64 0] 44)).alloc (.cells #[.int .i64 x.pos, .string x.key, .int .i64 x.code, .int .i64 x.why, .string x.type_, .int .i64 x.version, .int .i64 x.behind] 44)) w.heap.size 73 [.int .i64 x.pos, .string x.key, .int .i64 x.code, .int .i64 x.why, .string x.type_, .int .i64 x.version, .int .i64 x.behind] := ((Row.new w _ _).alloc _).alloc _
  have Z0 : Row (((w.alloc (.cells #[.int .i64 x.pos, .string x.key, .int .i64 x.code, .int .i64 x.why, .string x.type_, .int .i64 x.version, .int .i64 x.behind] 73)).alloc (.cells #[.int .i64 0, .string .empty, .int .i64 0, .int .i64 0, .string .empty, .int .i64 0, .int .i64 0] 44)).alloc (.cells #[.int .i64 x.pos, .string x.key, .int .i64 x.code, .int .i64 x.why, .string x.type_, .int .i64 x.version, .int .i64 x.behind] 44)) (w.heap.size + 1) 44 [.int .i64 0, .string .empty, .int .i64 0, .int .i64 0, .string .empty, .int .i64 0, .int .i64 0] := by
    have h := (Row.new (w.alloc (.cells #[.int .i64 x.pos, .string x.key, .int .i64 x.code, .int .i64 x.why, .string x.type_, .int .i64 x.version, .int .i64 x.behind] 73)) 44 [.int .i64 0, .string .empty, .int .i64 0, .int .i64 0, .string .empty, .int .i64 0, .int .i64 0]).alloc (.cells #[.int .i64 x.pos, .string x.key, .int .i64 x.code, .int .i64 x.why, .string x.type_, .int .i64 x.version, .int .i64 x.behind] 44)
    simpa using h
  have O0 : Row (((w.alloc (.cells #[.int .i64 x.pos, .string x.key, .int .i64 x.code, .int .i64 x.why, .string x.type_, .int .i64 x.version, .int .i64 x.behind] 73)).alloc (.cells #[.int .i64 0, .string .empty, .int .i64 0, .int .i64 0, .string .empty, .int .i64 0, .int .i64 0] 44)).alloc (.cells #[.int .i64 x.pos, .string x.key, .int .i64 x.code, .int .i64 x.why, .string x.type_, .int .i64 x.version, .int .i64 x.behind] 44)) (w.heap.size + 1 + 1) 44 [.int .i64 x.pos, .string x.key, .int .i64 x.code, .int .i64 x.why, .string x.type_, .int .i64 x.version, .int .i64 x.behind] := by
    have h := Row.new ((w.alloc (.cells #[.int .i64 x.pos, .string x.key, .int .i64 x.code, .int .i64 x.why, .string x.type_, .int .i64 x.version, .int .i64 x.behind] 73)).alloc (.cells #[.int .i64 0, .string .empty, .int .i64 0, .int .i64 0, .string .empty, .int .i64 0, .int .i64 0] 44)) 44 [.int .i64 x.pos, .string x.key, .int .i64 x.code, .int .i64 x.why, .string x.type_, .int .i64 x.version, .int .i64 x.behind]
    simpa using h
  clear ho
  go_enter Tryz.func40, Tryz.ntmps40
  go_wp2
  refine bodyPost_ret (v := .agg #[.int .i64 x.pos, .string x.key, .int .i64 x.code, .int .i64 x.why, .string x.type_, .int .i64 x.version, .int .i64 x.behind]) (by simp [results, Tryz.results40, go_sem]) rfl ?_
  refine ⟨[.int .i64 x.pos, .string x.key, .int .i64 x.code, .int .i64 x.why, .string x.type_, .int .i64 x.version, .int .i64 x.behind], [], rfl, ?_, ?_, ?_⟩
  · exact OwC.mDeadLetter w0 w1 w2 w3 w4 w5 w6
  · exact New.nil _ _
  · iterate 3 refine Below.alloc ?_ (by simp; try omega) _
    exact Below.refl _ _
theorem toDeadLetter_any (x : DeadLetter) : ToDeadLetter x := toDeadLetter_of x
def ToDeadLetterS (l : List DeadLetter) : Prop := ∀ (A : Option Addr) (n c : Nat) (fp : List Nat) (w : World), Ow w (.s 7 l.length (l.flatMap DeadLetter.cells)) (.slice A n c) fp → Lt fp w.heap.size → DeadLetter.bulkL l ≤ 1048576 →
  Calls Tryz.prog 19 #[.slice A n c] w fun e w' => ∃ y fq, e = .returned y ∧ Ow w' (.s 7 l.length (l.flatMap DeadLetter.cells)) y fq ∧ New w' fq w.heap.size ∧ Below w.heap.size w w'
set_option maxRecDepth 100000 in
set_option maxHeartbeats 400000 in
theorem toDeadLetterS_of (l : List DeadLetter) (ih : ∀ x ∈ l, ToDeadLetter x) : ToDeadLetterS l := by
  intro A n c fp w h hf hn
  obtain ⟨rfl, hc, hm⟩ := h.nlen
  unfold maxLen at hm
  unfold DeadLetter.bulkL at hn
  obtain ⟨i0, hi, hz0, hz1, hz2⟩ := info_parts info_DeadLetter
  have hmk := run_make_rowN (P := Tryz.prog) 30 44 i0 _ Tryz.underlying30 hi hz0 .i64 .i64 l.length l.length (Nat.le_refl _) (by rw [hz2]; omega) (by omega)
  rw [hz1] at hmk
  clear hi hz0 hz1 hz2 i0
  go_enter Tryz.func19, Tryz.ntmps19
  go_wp2
  go_loopw [4] (fun i wr => (∃ k us fq, k ≤ l.length ∧ i = .int .i64 (k : Nat) ∧ OwC wr ((l.take k).flatMap DeadLetter.cells) us fq ∧ New wr fq (w.heap.size + 1) ∧ us.length = k * 7 ∧ Fill wr w.heap.size 44 us ((l.length - k) * 7)) ∧ Below w.heap.size w wr) (fun i _ => l.length - (intOf i).toNat)
  case atStart => exact ⟨⟨0, [], [], Nat.zero_le _, rfl, by simp [OwC], New.nil _ _, rfl, Fill.made _ _ _ _⟩, (Below.refl _ _).alloc (Nat.le_refl _) _⟩
  case round =>
    obtain ⟨⟨k, us, fq, hk, rfl, ho, hfr, hul, hfl⟩, hb⟩ := hrel
    by_cases hlt : k < l.length
    · obtain ⟨g, off, vs, fi, rfl, hg, hfi, hvl, hcs, hov⟩ := (h.below hb hf).elem DeadLetter.cells_len hlt
      have hov' := hov
      obtain ⟨rfl, w0, w1, w2, w3, w4, w5, w6, rfl⟩ := hov.oDeadLetter
      have p0 := hcs 0 _ rfl
      have p1 := hcs 1 _ rfl
      have p2 := hcs 2 _ rfl
      have p3 := hcs 3 _ rfl
      have p4 := hcs 4 _ rfl
      have p5 := hcs 5 _ rfl
      have p6 := hcs 6 _ rfl
      simp only [Nat.add_zero] at p0
      have HC := hide (ih _ (List.getElem_mem hlt))
      have HS := hide (DeadLetter.cells_snoc l k hlt)
      have hble := DeadLetter.bulk_at l k hlt
      have HF := hide hfl
      have HO := hide ho
      have HH := hide h
      have HW := hide hov'
      clear hfl ho h hcs hov hov'
      generalize l[k] = x at *
      go_wp2_with fail
      refine (HC.out _ _ _ HW.out (hf.sub hfi |>.mono hb.size) (by omega)).mono ?_
      rintro e w1 ⟨us1, fq1, rfl, ho1, hfr1, hb1⟩
      have HO1 := hide ho1
      obtain ⟨rfl, bw0, bw1, bw2, bw3, bw4, bw5, bw6, rfl⟩ := ho1.oDeadLetter
      have HF1 := hide (HF.out.below hb1 HF.out.lt)
      obtain ⟨z0, hz0⟩ := HF1.out.cell (i := k * 7 + 0) (by omega) (by omega)
      have hfz0 := HF1.out.frozen (k * 7 + 0)
      obtain ⟨z1, hz1⟩ := HF1.out.cell (i := k * 7 + 1) (by omega) (by omega)
      have hfz1 := HF1.out.frozen (k * 7 + 1)
      obtain ⟨z2, hz2⟩ := HF1.out.cell (i := k * 7 + 2) (by omega) (by omega)
      have hfz2 := HF1.out.frozen (k * 7 + 2)
      obtain ⟨z3, hz3⟩ := HF1.out.cell (i := k * 7 + 3) (by omega) (by omega)
      have hfz3 := HF1.out.frozen (k * 7 + 3)
      obtain ⟨z4, hz4⟩ := HF1.out.cell (i := k * 7 + 4) (by omega) (by omega)
      have hfz4 := HF1.out.frozen (k * 7 + 4)
      obtain ⟨z5, hz5⟩ := HF1.out.cell (i := k * 7 + 5) (by omega) (by omega)
      have hfz5 := HF1.out.frozen (k * 7 + 5)
      obtain ⟨z6, hz6⟩ := HF1.out.cell (i := k * 7 + 6) (by omega) (by omega)
      have hfz6 := HF1.out.frozen (k * 7 + 6)
      simp only [Nat.add_zero] at hz0 hfz0
      clear ho1
      go_wp2
      go_roundw
      case rel =>
        have e3 : (l.length - k) * 7 = (l.length - (k + 1)) * 7 + 1 + 1 + 1 + 1 + 1 + 1 + 1 := by omega
        have hF := HF1.out
        rw [e3] at hF
        have hfr2 : New w1 fq (w.heap.size + 1) := hfr.below hb1 hfr.lt
        have hlo : w.heap.size + 1 ≤ wr.heap.size := HF.out.lt
        have hN := New.app hfr2 hfr1 hfr.lt hlo
        have nm1 : w.heap.size ∉ fq := hfr.out (by omega)
        have nm2 : w.heap.size ∉ [] := hfr1.out (by omega)
        refine ⟨⟨k + 1, us ++ [.int .i64 x.pos] ++ [.string x.key] ++ [.int .i64 x.code] ++ [.int .i64 x.why] ++ [.string x.type_] ++ [.int .i64 x.version] ++ [.int .i64 x.behind], fq ++ ([]), by omega, by go_num, ?_, ?_, by simp [hul]; omega, ?_⟩, ?_⟩
        · rw [HS.out, List.append_assoc, List.append_assoc, List.append_assoc, List.append_assoc, List.append_assoc, List.append_assoc]
          refine OwC.append ?_ ?_
          · have hx := HO.out.below hb1 hfr.lt
            iterate 7 refine OwC.setCell ?_ nm1 _
            exact hx
          · have hx := HO1.out
            iterate 7 refine OwC.setCell ?_ nm2 _
            exact hx
        · iterate 7 refine New.setCell ?_ _ _
          exact hN
        · exact (((((((hF.push (by simp [hul]) _).push (by simp [hul]) _).push (by simp [hul]) _).push (by simp [hul]) _).push (by simp [hul]) _).push (by simp [hul]) _).push (by simp [hul]) _)
        · have hx := hb.trans (hb1.mono hb.size)
          iterate 7 refine Below.setCell ?_ (by simp; try omega) _
          exact hx
      case measure => simp [intOf]; omega
    · obtain rfl : k = l.length := by omega
      have HB := hide hb
      have hfl' := hfl
      rw [Nat.sub_self, Nat.zero_mul] at hfl'
      rw [List.take_length] at ho
      have hd := hide (hfl'.done ho (n := l.length) (k := 7) (flat_len DeadLetter.cells 7 DeadLetter.cells_len l) (by unfold maxLen; omega))
      obtain ⟨zs, _, hrow⟩ := hfl
      clear hb hfl' ho
      go_wp2
      go_ret
      refine ⟨_, _, rfl, hd.out, ?_, HB.out⟩
      split
      · exact New.nil _ _
      · exact hfr.cons (Nat.le_refl _) (Unf.row hrow) hrow.lt

theorem toDeadLetterS_any (l : List DeadLetter) : ToDeadLetterS l := toDeadLetterS_of l fun x _ => toDeadLetter_any x

def EqDeadLetter (x : DeadLetter) : Prop := ∀ (us vs : List Value) (fp fq : List Nat) (w : World), OwC w x.cells us fp → OwC w x.cells vs fq → Lt fp w.heap.size → Lt fq w.heap.size →
  Calls Tryz.prog 55 #[.agg us.toArray, .agg vs.toArray] w fun e w' => e = .returned (.bool true) ∧ Below w.heap.size w w'
set_option maxRecDepth 100000 in
theorem eqDeadLetter_of (x : DeadLetter) : EqDeadLetter x := by
  intro us vs fp fq w ho ho' hf hf'
  obtain ⟨rfl, w0, w1, w2, w3, w4, w5, w6, rfl⟩ := ho.oDeadLetter
  obtain ⟨rfl, bw0, bw1, bw2, bw3, bw4, bw5, bw6, rfl⟩ := ho'.oDeadLetter
  have hB0 : Below w.heap.size w ((w.alloc (.cells #[.int .i64 x.pos, .string x.key, .int .i64 x.code, .int .i64 x.why, .string x.type_, .int .i64 x.version, .int .i64 x.behind] 44)).alloc (.cells #[.int .i64 x.pos, .string x.key, .int .i64 x.code, .int .i64 x.why, .string x.type_, .int .i64 x.version, .int .i64 x.behind] 44)) := ((Below.refl _ _).alloc (Nat.le_refl _) _).alloc (by simp) _
  have R0 : Row ((w.alloc (.cells #[.int .i64 x.pos, .string x.key, .int .i64 x.code, .int .i64 x.why, .string x.type_, .int .i64 x.version, .int .i64 x.behind] 44)).alloc (.cells #[.int .i64 x.pos, .string x.key, .int .i64 x.code, .int .i64 x.why, .string x.type_, .int .i64 x.version, .int .i64 x.behind] 44)) w.heap.size 44 [.int .i64 x.pos, .string x.key, .int .i64 x.code, .int .i64 x.why, .string x.type_, .int .i64 x.version, .int .i64 x.behind] := (Row.new w _ _).alloc _
  have S0 : Row ((w.alloc (.cells #[.int .i64 x.pos, .string x.key, .int .i64 x.code, .int .i64 x.why, .string x.type_, .int .i64 x.version, .int .i64 x.behind] 44)).alloc (.cells #[.int .i64 x.pos, .string x.key, .int .i64 x.code, .int .i64 x.why, .string x.type_, .int .i64 x.version, .int .i64 x.behind] 44)) (w.heap.size + 1) 44 [.int .i64 x.pos, .string x.key, .int .i64 x.code, .int .i64 x.why, .string x.type_, .int .i64 x.version, .int .i64 x.behind] := by
    have h := Row.new (w.alloc (.cells #[.int .i64 x.pos, .string x.key, .int .i64 x.code, .int .i64 x.why, .string x.type_, .int .i64 x.version, .int .i64 x.behind] 44)) 44 [.int .i64 x.pos, .string x.key, .int .i64 x.code, .int .i64 x.why, .string x.type_, .int .i64 x.version, .int .i64 x.behind]
    simpa using h
  clear ho ho'
  go_enter Tryz.func55, Tryz.ntmps55
  go_wp2
  go_ret
  exact ⟨rfl, hB0⟩
theorem eqDeadLetter_any (x : DeadLetter) : EqDeadLetter x := eqDeadLetter_of x
def EqDeadLetterS (l : List DeadLetter) : Prop := ∀ (A A' : Option Addr) (n n' c c' : Nat) (fp fq : List Nat) (w : World), Ow w (.s 7 l.length (l.flatMap DeadLetter.cells)) (.slice A n c) fp → Ow w (.s 7 l.length (l.flatMap DeadLetter.cells)) (.slice A' n' c') fq → Lt fp w.heap.size → Lt fq w.heap.size →
  Calls Tryz.prog 30 #[.slice A n c, .slice A' n' c'] w fun e w' => e = .returned (.bool true) ∧ Below w.heap.size w w'
set_option maxRecDepth 100000 in
theorem eqDeadLetterS_of (l : List DeadLetter) (ih : ∀ x ∈ l, EqDeadLetter x) : EqDeadLetterS l := by
  intro A A' n n' c c' fp fq w h h' hf hf'
  obtain ⟨rfl, hc, hm⟩ := h.nlen
  obtain ⟨rfl, hc', hm'⟩ := h'.nlen
  unfold maxLen at hm hm'
  go_enter Tryz.func30, Tryz.ntmps30
  go_wp2
  go_loopw [5] (fun i wr => (∃ k : Nat, k ≤ l.length ∧ i = .int .i64 k) ∧ Below w.heap.size w wr) (fun i _ => l.length - (intOf i).toNat)
  case atStart => exact ⟨⟨0, Nat.zero_le _, rfl⟩, Below.refl _ _⟩
  case round =>
    obtain ⟨⟨k, hk, rfl⟩, hb⟩ := hrel
    by_cases hlt : k < l.length
    · obtain ⟨g, off, vs, fi, rfl, hg, hfi, hvl, hcs, hov⟩ := (h.below hb hf).elem DeadLetter.cells_len hlt
      obtain ⟨g', off', vs', fi', rfl, hg', hfi', hvl', hcs', hov'⟩ := (h'.below hb hf').elem DeadLetter.cells_len hlt
      have HO := hide hov
      have HO' := hide hov'
      obtain ⟨rfl, w0, w1, w2, w3, w4, w5, w6, rfl⟩ := hov.oDeadLetter
      obtain ⟨rfl, bw0, bw1, bw2, bw3, bw4, bw5, bw6, rfl⟩ := hov'.oDeadLetter
      have p0 := hcs 0 _ rfl
      have q0 := hcs' 0 _ rfl
      have p1 := hcs 1 _ rfl
      have q1 := hcs' 1 _ rfl
      have p2 := hcs 2 _ rfl
      have q2 := hcs' 2 _ rfl
      have p3 := hcs 3 _ rfl
      have q3 := hcs' 3 _ rfl
      have p4 := hcs 4 _ rfl
      have q4 := hcs' 4 _ rfl
      have p5 := hcs 5 _ rfl
      have q5 := hcs' 5 _ rfl
      have p6 := hcs 6 _ rfl
      have q6 := hcs' 6 _ rfl
      simp only [Nat.add_zero] at p0 q0
      have HC := hide (ih _ (List.getElem_mem hlt))
      clear hcs hcs' hov hov'
      generalize l[k] = x at *
      go_wp2_with fail
      go_still_tail 8, (by kernel_rfl)
      change wpList _ _ _ _ _ wr.drew
      go_wp2_with fail
      refine (HC.out _ _ _ _ _ (HO.out.drewN 1) (HO'.out.drewN 1) (hf.sub hfi |>.mono hb.size) (hf'.sub hfi' |>.mono hb.size)).mono ?_
      rintro e w1 ⟨rfl, hb1⟩
      go_wp2
      go_roundw
      case rel => exact ⟨⟨k + 1, by omega, by go_num⟩, (below_drewN hb 1).trans (hb1.mono hb.size)⟩
      case measure => simp [intOf]; omega
    · obtain rfl : k = l.length := by omega
      go_wp2
      go_ret
      exact ⟨rfl, hb⟩

theorem eqDeadLetterS_any (l : List DeadLetter) : EqDeadLetterS l := eqDeadLetterS_of l fun x _ => eqDeadLetter_any x

end Go.Proofs.YtkfiebeedbjicaaGreatDoor
