/-
  LogPart: what the laws' own helpers do: the size, a copy, equality.
-/
import Derived.Test.YtclljkojkmjboaaDoorDLogPart
set_option linter.unusedVariables false
set_option linter.unusedSimpArgs false
namespace Go.Proofs.YtclljkojkmjboaaDoor
open Go.ChangeShapes Go.WideShapes Go.ChangeAt Go.RowKit

theorem szLogPartS_any (l : List LogPart) (A : Option Addr) (n c : Nat) (fp : List Nat) (left : Int) (w : World) (h : Ow w (.s 4 l.length (l.flatMap LogPart.cells)) (.slice A n c) fp) (hf : Lt fp w.heap.size) (h0 : 0 ≤ left) (h1 : left ≤ 1048576) :
    Calls Tryd.prog 21 #[.slice A n c, .int .i64 left] w fun e w' => e = .returned (.int .i64 (szr left (LogPart.bulkL l : Nat))) ∧ Below w.heap.size w w' := by
  obtain ⟨rfl, hc, hm⟩ := h.nlen
  unfold maxLen at hm
  go_enter Tryd.func21, Tryd.ntmps21
  go_wp2
  · go_ret
    exact ⟨ret_int (by unfold LogPart.bulkL; rw [szr_no (by omega)]), Below.refl _ _⟩
  · go_ret
    exact ⟨ret_int (by unfold LogPart.bulkL; rw [szr_yes (by omega)]), Below.refl _ _⟩

theorem info_LogPart : (Tryd.prog.info? 57).map (fun i => (i.zero, i.size, i.bytes)) = some (some (.agg #[.int .i64 0, .int .i64 0, .int .i64 0, .int .i64 0]), 4, 32) := by kernel_rfl
def ToLogPart (x : LogPart) : Prop := ∀ (us : List Value) (fp : List Nat) (w : World), OwC w x.cells us fp → Lt fp w.heap.size → 
  Calls Tryd.prog 42 #[.agg us.toArray] w fun e w' => ∃ vs fq, e = .returned (.agg vs.toArray) ∧ OwC w' x.cells vs fq ∧ New w' fq w.heap.size ∧ Below w.heap.size w w'
set_option maxRecDepth 100000 in
set_option maxHeartbeats 400000 in
theorem toLogPart_of (x : LogPart) : ToLogPart x := by
  intro us fp w ho hf
  obtain ⟨rfl, w0, w1, w2, w3, rfl⟩ := ho.oLogPart
  have hB0 : Below w.heap.size w (((w.alloc (.cells #[.int .i64 x.num, .int .i64 x.first, .int .i64 x.next, .int .i64 x.size] 73)).alloc (.cells #[.int .i64 0, .int .i64 0, .int .i64 0, .int .i64 0] 57)).alloc (.cells #[.int .i64 x.num, .int .i64 x.first, .int .i64 x.next, .int .i64 x.size] 57)) := (((Below.refl _ _).alloc (Nat.le_refl _) _).alloc (by simp) _).alloc (by simp; omega) _
  have R0 : Row (((w.alloc (.cells #[.int .i64 x.num, .int .i64 x.first, .int .i64 x.next, .int .i64 x.size] 73)).alloc (.cells #[.int .i64 0, .int .i64 0, .int .i64 0, .int .i64 0] 57)).alloc (.cells #[.int .i64 x.num, .int .i64 x.first, .int .i64 x.next, .int .i64 x.size] 57)) w.heap.size 73 [.int .i64 x.num, .int .i64 x.first, .int .i64 x.next, .int .i64 x.size] := ((Row.new w _ _).alloc _).alloc _
  have Z0 : Row (((w.alloc (.cells #[.int .i64 x.num, .int .i64 x.first, .int .i64 x.next, .int .i64 x.size] 73)).alloc (.cells #[.int .i64 0, .int .i64 0, .int .i64 0, .int .i64 0] 57)).alloc (.cells #[.int .i64 x.num, .int .i64 x.first, .int .i64 x.next, .int .i64 x.size] 57)) (w.heap.size + 1) 57 [.int .i64 0, .int .i64 0, .int .i64 0, .int .i64 0] := by
    have h := (Row.new (w.alloc (.cells #[.int .i64 x.num, .int .i64 x.first, .int .i64 x.next, .int .i64 x.size] 73)) 57 [.int .i64 0, .int .i64 0, .int .i64 0, .int .i64 0]).alloc (.cells #[.int .i64 x.num, .int .i64 x.first, .int .i64 x.next, .int .i64 x.size] 57)
    simpa using h
  have O0 : Row (((w.alloc (.cells #[.int .i64 x.num, .int .i64 x.first, .int .i64 x.next, .int .i64 x.size] 73)).alloc (.cells #[.int .i64 0, .int .i64 0, .int .i64 0, .int .i64 0] 57)).alloc (.cells #[.int .i64 x.num, .int .i64 x.first, .int .i64 x.next, .int .i64 x.size] 57)) (w.heap.size + 1 + 1) 57 [.int .i64 x.num, .int .i64 x.first, .int .i64 x.next, .int .i64 x.size] := by
    have h := Row.new ((w.alloc (.cells #[.int .i64 x.num, .int .i64 x.first, .int .i64 x.next, .int .i64 x.size] 73)).alloc (.cells #[.int .i64 0, .int .i64 0, .int .i64 0, .int .i64 0] 57)) 57 [.int .i64 x.num, .int .i64 x.first, .int .i64 x.next, .int .i64 x.size]
    simpa using h
  clear ho
  go_enter Tryd.func42, Tryd.ntmps42
  go_wp2
  refine bodyPost_ret (v := .agg #[.int .i64 x.num, .int .i64 x.first, .int .i64 x.next, .int .i64 x.size]) (by simp [results, Tryd.results42, go_sem]) rfl ?_
  refine ⟨[.int .i64 x.num, .int .i64 x.first, .int .i64 x.next, .int .i64 x.size], [], rfl, ?_, ?_, ?_⟩
  · exact OwC.mLogPart w0 w1 w2 w3
  · exact New.nil _ _
  · iterate 3 refine Below.alloc ?_ (by simp; try omega) _
    exact Below.refl _ _
theorem toLogPart_any (x : LogPart) : ToLogPart x := toLogPart_of x
def ToLogPartS (l : List LogPart) : Prop := ∀ (A : Option Addr) (n c : Nat) (fp : List Nat) (w : World), Ow w (.s 4 l.length (l.flatMap LogPart.cells)) (.slice A n c) fp → Lt fp w.heap.size → LogPart.bulkL l ≤ 1048576 →
  Calls Tryd.prog 24 #[.slice A n c] w fun e w' => ∃ y fq, e = .returned y ∧ Ow w' (.s 4 l.length (l.flatMap LogPart.cells)) y fq ∧ New w' fq w.heap.size ∧ Below w.heap.size w w'
set_option maxRecDepth 100000 in
set_option maxHeartbeats 400000 in
theorem toLogPartS_of (l : List LogPart) (ih : ∀ x ∈ l, ToLogPart x) : ToLogPartS l := by
  intro A n c fp w h hf hn
  obtain ⟨rfl, hc, hm⟩ := h.nlen
  unfold maxLen at hm
  unfold LogPart.bulkL at hn
  obtain ⟨i0, hi, hz0, hz1, hz2⟩ := info_parts info_LogPart
  have hmk := run_make_rowN (P := Tryd.prog) 27 57 i0 _ Tryd.underlying27 hi hz0 .i64 .i64 l.length l.length (Nat.le_refl _) (by rw [hz2]; omega) (by omega)
  rw [hz1] at hmk
  clear hi hz0 hz1 hz2 i0
  go_enter Tryd.func24, Tryd.ntmps24
  go_wp2
  go_loopw [4] (fun i wr => (∃ k us fq, k ≤ l.length ∧ i = .int .i64 (k : Nat) ∧ OwC wr ((l.take k).flatMap LogPart.cells) us fq ∧ New wr fq (w.heap.size + 1) ∧ us.length = k * 4 ∧ Fill wr w.heap.size 57 us ((l.length - k) * 4)) ∧ Below w.heap.size w wr) (fun i _ => l.length - (intOf i).toNat)
  case atStart => exact ⟨⟨0, [], [], Nat.zero_le _, rfl, by simp [OwC], New.nil _ _, rfl, Fill.made _ _ _ _⟩, (Below.refl _ _).alloc (Nat.le_refl _) _⟩
  case round =>
    obtain ⟨⟨k, us, fq, hk, rfl, ho, hfr, hul, hfl⟩, hb⟩ := hrel
    by_cases hlt : k < l.length
    · obtain ⟨g, off, vs, fi, rfl, hg, hfi, hvl, hcs, hov⟩ := (h.below hb hf).elem LogPart.cells_len hlt
      have hov' := hov
      obtain ⟨rfl, w0, w1, w2, w3, rfl⟩ := hov.oLogPart
      have p0 := hcs 0 _ rfl
      have p1 := hcs 1 _ rfl
      have p2 := hcs 2 _ rfl
      have p3 := hcs 3 _ rfl
      simp only [Nat.add_zero] at p0
      have HC := hide (ih _ (List.getElem_mem hlt))
      have HS := hide (LogPart.cells_snoc l k hlt)
      have HF := hide hfl
      have HO := hide ho
      have HH := hide h
      have HW := hide hov'
      clear hfl ho h hcs hov hov'
      generalize l[k] = x at *
      go_wp2_with fail
      refine (HC.out _ _ _ HW.out (hf.sub hfi |>.mono hb.size)).mono ?_
      rintro e w1 ⟨us1, fq1, rfl, ho1, hfr1, hb1⟩
      have HO1 := hide ho1
      obtain ⟨rfl, bw0, bw1, bw2, bw3, rfl⟩ := ho1.oLogPart
      have HF1 := hide (HF.out.below hb1 HF.out.lt)
      obtain ⟨z0, hz0⟩ := HF1.out.cell (i := k * 4 + 0) (by omega) (by omega)
      have hfz0 := HF1.out.frozen (k * 4 + 0)
      obtain ⟨z1, hz1⟩ := HF1.out.cell (i := k * 4 + 1) (by omega) (by omega)
      have hfz1 := HF1.out.frozen (k * 4 + 1)
      obtain ⟨z2, hz2⟩ := HF1.out.cell (i := k * 4 + 2) (by omega) (by omega)
      have hfz2 := HF1.out.frozen (k * 4 + 2)
      obtain ⟨z3, hz3⟩ := HF1.out.cell (i := k * 4 + 3) (by omega) (by omega)
      have hfz3 := HF1.out.frozen (k * 4 + 3)
      simp only [Nat.add_zero] at hz0 hfz0
      clear ho1
      go_wp2
      go_roundw
      case rel =>
        have e3 : (l.length - k) * 4 = (l.length - (k + 1)) * 4 + 1 + 1 + 1 + 1 := by omega
        have hF := HF1.out
        rw [e3] at hF
        have hfr2 : New w1 fq (w.heap.size + 1) := hfr.below hb1 hfr.lt
        have hlo : w.heap.size + 1 ≤ wr.heap.size := HF.out.lt
        have hN := New.app hfr2 hfr1 hfr.lt hlo
        have nm1 : w.heap.size ∉ fq := hfr.out (by omega)
        have nm2 : w.heap.size ∉ [] := hfr1.out (by omega)
        refine ⟨⟨k + 1, us ++ [.int .i64 x.num] ++ [.int .i64 x.first] ++ [.int .i64 x.next] ++ [.int .i64 x.size], fq ++ ([]), by omega, by go_num, ?_, ?_, by simp [hul]; omega, ?_⟩, ?_⟩
        · rw [HS.out, List.append_assoc, List.append_assoc, List.append_assoc]
          refine OwC.append ?_ ?_
          · have hx := HO.out.below hb1 hfr.lt
            iterate 4 refine OwC.setCell ?_ nm1 _
            exact hx
          · have hx := HO1.out
            iterate 4 refine OwC.setCell ?_ nm2 _
            exact hx
        · iterate 4 refine New.setCell ?_ _ _
          exact hN
        · exact ((((hF.push (by simp [hul]) _).push (by simp [hul]) _).push (by simp [hul]) _).push (by simp [hul]) _)
        · have hx := hb.trans (hb1.mono hb.size)
          iterate 4 refine Below.setCell ?_ (by simp; try omega) _
          exact hx
      case measure => simp [intOf]; omega
    · obtain rfl : k = l.length := by omega
      have HB := hide hb
      have hfl' := hfl
      rw [Nat.sub_self, Nat.zero_mul] at hfl'
      rw [List.take_length] at ho
      have hd := hide (hfl'.done ho (n := l.length) (k := 4) (flat_len LogPart.cells 4 LogPart.cells_len l) (by unfold maxLen; omega))
      obtain ⟨zs, _, hrow⟩ := hfl
      clear hb hfl' ho
      go_wp2
      go_ret
      refine ⟨_, _, rfl, hd.out, ?_, HB.out⟩
      split
      · exact New.nil _ _
      · exact hfr.cons (Nat.le_refl _) (Unf.row hrow) hrow.lt

theorem toLogPartS_any (l : List LogPart) : ToLogPartS l := toLogPartS_of l fun x _ => toLogPart_any x

def EqLogPart (x : LogPart) : Prop := ∀ (us vs : List Value) (fp fq : List Nat) (w : World), OwC w x.cells us fp → OwC w x.cells vs fq → Lt fp w.heap.size → Lt fq w.heap.size →
  Calls Tryd.prog 48 #[.agg us.toArray, .agg vs.toArray] w fun e w' => e = .returned (.bool true) ∧ Below w.heap.size w w'
set_option maxRecDepth 100000 in
theorem eqLogPart_of (x : LogPart) : EqLogPart x := by
  intro us vs fp fq w ho ho' hf hf'
  obtain ⟨rfl, w0, w1, w2, w3, rfl⟩ := ho.oLogPart
  obtain ⟨rfl, bw0, bw1, bw2, bw3, rfl⟩ := ho'.oLogPart
  have hB0 : Below w.heap.size w ((w.alloc (.cells #[.int .i64 x.num, .int .i64 x.first, .int .i64 x.next, .int .i64 x.size] 57)).alloc (.cells #[.int .i64 x.num, .int .i64 x.first, .int .i64 x.next, .int .i64 x.size] 57)) := ((Below.refl _ _).alloc (Nat.le_refl _) _).alloc (by simp) _
  have R0 : Row ((w.alloc (.cells #[.int .i64 x.num, .int .i64 x.first, .int .i64 x.next, .int .i64 x.size] 57)).alloc (.cells #[.int .i64 x.num, .int .i64 x.first, .int .i64 x.next, .int .i64 x.size] 57)) w.heap.size 57 [.int .i64 x.num, .int .i64 x.first, .int .i64 x.next, .int .i64 x.size] := (Row.new w _ _).alloc _
  have S0 : Row ((w.alloc (.cells #[.int .i64 x.num, .int .i64 x.first, .int .i64 x.next, .int .i64 x.size] 57)).alloc (.cells #[.int .i64 x.num, .int .i64 x.first, .int .i64 x.next, .int .i64 x.size] 57)) (w.heap.size + 1) 57 [.int .i64 x.num, .int .i64 x.first, .int .i64 x.next, .int .i64 x.size] := by
    have h := Row.new (w.alloc (.cells #[.int .i64 x.num, .int .i64 x.first, .int .i64 x.next, .int .i64 x.size] 57)) 57 [.int .i64 x.num, .int .i64 x.first, .int .i64 x.next, .int .i64 x.size]
    simpa using h
  clear ho ho'
  go_enter Tryd.func48, Tryd.ntmps48
  go_wp2
  go_ret
  exact ⟨rfl, hB0⟩
theorem eqLogPart_any (x : LogPart) : EqLogPart x := eqLogPart_of x
def EqLogPartS (l : List LogPart) : Prop := ∀ (A A' : Option Addr) (n n' c c' : Nat) (fp fq : List Nat) (w : World), Ow w (.s 4 l.length (l.flatMap LogPart.cells)) (.slice A n c) fp → Ow w (.s 4 l.length (l.flatMap LogPart.cells)) (.slice A' n' c') fq → Lt fp w.heap.size → Lt fq w.heap.size →
  Calls Tryd.prog 27 #[.slice A n c, .slice A' n' c'] w fun e w' => e = .returned (.bool true) ∧ Below w.heap.size w w'
set_option maxRecDepth 100000 in
theorem eqLogPartS_of (l : List LogPart) (ih : ∀ x ∈ l, EqLogPart x) : EqLogPartS l := by
  intro A A' n n' c c' fp fq w h h' hf hf'
  obtain ⟨rfl, hc, hm⟩ := h.nlen
  obtain ⟨rfl, hc', hm'⟩ := h'.nlen
  unfold maxLen at hm hm'
  go_enter Tryd.func27, Tryd.ntmps27
  go_wp2
  go_loopw [5] (fun i wr => (∃ k : Nat, k ≤ l.length ∧ i = .int .i64 k) ∧ Below w.heap.size w wr) (fun i _ => l.length - (intOf i).toNat)
  case atStart => exact ⟨⟨0, Nat.zero_le _, rfl⟩, Below.refl _ _⟩
  case round =>
    obtain ⟨⟨k, hk, rfl⟩, hb⟩ := hrel
    by_cases hlt : k < l.length
    · obtain ⟨g, off, vs, fi, rfl, hg, hfi, hvl, hcs, hov⟩ := (h.below hb hf).elem LogPart.cells_len hlt
      obtain ⟨g', off', vs', fi', rfl, hg', hfi', hvl', hcs', hov'⟩ := (h'.below hb hf').elem LogPart.cells_len hlt
      have HO := hide hov
      have HO' := hide hov'
      obtain ⟨rfl, w0, w1, w2, w3, rfl⟩ := hov.oLogPart
      obtain ⟨rfl, bw0, bw1, bw2, bw3, rfl⟩ := hov'.oLogPart
      have p0 := hcs 0 _ rfl
      have q0 := hcs' 0 _ rfl
      have p1 := hcs 1 _ rfl
      have q1 := hcs' 1 _ rfl
      have p2 := hcs 2 _ rfl
      have q2 := hcs' 2 _ rfl
      have p3 := hcs 3 _ rfl
      have q3 := hcs' 3 _ rfl
      simp only [Nat.add_zero] at p0 q0
      have HC := hide (ih _ (List.getElem_mem hlt))
      clear hcs hcs' hov hov'
      generalize l[k] = x at *
      go_wp2_with fail
      go_still_tail 8, (by kernel_rfl)
      change wpList _ _ _ _ _ wr.drew
      go_wp2_with fail
      refine (HC.out _ _ _ _ _ (HO.out.drewN 1) (HO'.out.drewN 1) (hf.sub hfi |>.mono hb.size) (hf'.sub hfi' |>.mono hb.size)).mono ?_
      rintro e w1 ⟨rfl, hb1⟩
      go_wp2
      go_roundw
      case rel => exact ⟨⟨k + 1, by omega, by go_num⟩, (below_drewN hb 1).trans (hb1.mono hb.size)⟩
      case measure => simp [intOf]; omega
    · obtain rfl : k = l.length := by omega
      go_wp2
      go_ret
      exact ⟨rfl, hb⟩

theorem eqLogPartS_any (l : List LogPart) : EqLogPartS l := eqLogPartS_of l fun x _ => eqLogPart_any x

end Go.Proofs.YtclljkojkmjboaaDoor
