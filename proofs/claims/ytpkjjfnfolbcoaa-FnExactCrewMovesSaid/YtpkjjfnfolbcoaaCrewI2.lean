/-
  What is left to be done in a world of a crew: the program.
-/
import Derived.Test.YtpkjjfnfolbcoaaCrewI1
import Derived.Test.YtpkjjfnfolbcoaaCrewW2
import Derived.Test.YtpkjjfnfolbcoaaCrewW5
set_option linter.unusedVariables false
set_option linter.unusedSimpArgs false
namespace Go.Proofs.Ytpkjjfnfolbcoaa
open Go.ChangeShapes Go.WideShapes Go.ChangeAt Go.RowKit

set_option maxRecDepth 100000 in
theorem index4_any (y : CrewHand) (q : Nat) (hq : y.state = (q : Int)) (h : q < 4) (u : World) : (Instr.index 139 (.agg #[.int .i64 1, .int .i64 9, .int .i64 8, .int .i64 0]) (.int .i64 (q : Int))).run Try.prog u = .ok (.int .i64 y.left) u := by
  unfold CrewHand.left
  rw [hq]
  obtain rfl | rfl | rfl | rfl : q = 0 ∨ q = 1 ∨ q = 2 ∨ q = 3 := by omega
  all_goals rfl
set_option maxRecDepth 100000 in
theorem index6_any (q : Nat) (h : q < 6) (u : World) : (Instr.index 141 (.agg #[.int .i64 2, .int .i64 3, .int .i64 2, .int .i64 4, .int .i64 1, .int .i64 0]) (.int .i64 (q : Int))).run Try.prog u = .ok (.int .i64 (keepLeft (q : Int))) u := by
  obtain rfl | rfl | rfl | rfl | rfl | rfl : q = 0 ∨ q = 1 ∨ q = 2 ∨ q = 3 ∨ q = 4 ∨ q = 5 := by omega
  all_goals rfl
set_option maxRecDepth 100000 in
set_option maxHeartbeats 4000000 in
theorem implLeft_any (x : CrewWorld) (us : List Value) (fp : List Nat) (b : Nat) (w : World) (hb : Row w b 30 us) (ho : OwC w x.cells us fp) (hf : Lt fp w.heap.size) (hfm : x.Form) :
    Calls Try.prog 64 #[.pointer (some ⟨b, 0, none⟩)] w fun e w' => e = .returned (.int .i64 x.left) ∧ Below w.heap.size w w' := by
  have HFM := hide hfm
  clear hfm
  have HO := hide ho
  have HF := hide hf
  obtain ⟨A1, c1, A2, c2, A3, c3, A4, c4, A5, c5, A6, c6, A7, c7, f1, f2, f3, f4, f5, f6, f7, rfl, wjobs, wworkers, wwindow, wnext, wreader, o1, o2, wcloser, o3, wkeeper, o4, wdue, o5, wuser, o6, wroom, o7, wops, rfl⟩ := ho.oCrewWorld
  have O2 := hide o2
  have l2 := hf.right.left
  obtain ⟨-, n2, m2⟩ := o2.nlen
  unfold maxLen at m2
  have O4 := hide o4
  have l4 := hf.right.right.right.left
  obtain ⟨-, n4, m4⟩ := o4.nlen
  unfold maxLen at m4
  have HX := hide hb
  clear ho hb o1 o2 o3 o4 o5 o6 o7
  have x0 := HX.out.cell 0
  have x3 := HX.out.cell 3
  have x4 := HX.out.cell 4
  have x5 := HX.out.cell 5
  have x6 := HX.out.cell 6
  have x7 := HX.out.cell 7
  have x8 := HX.out.cell 8
  have x9 := HX.out.cell 9
  have x10 := HX.out.cell 10
  have x12 := HX.out.cell 12
  have x13 := HX.out.cell 13
  have xl := HX.out.lt
  go_enter Try.func64, Try.ntmps64
  have hj := HFM.out.next
  have hjj := HFM.out.start.1
  have hq : (x.queue.length : Int) ≤ 8 := by have := HFM.out.queue; have := HFM.out.start.2.1; omega
  have hr8 : (x.results.length : Int) ≤ 8 := by have := HFM.out.results; have := HFM.out.start.2.1; omega
  have ho1 : (x.out.length : Int) ≤ 1 := by have := HFM.out.out; omega
  have hh8 : (x.hands.length : Int) ≤ 8 := by have := HFM.out.hands; have := HFM.out.start.2.1; omega
  have hr16 : (x.ring.length : Int) ≤ 16 := by have := HFM.out.ring; have := HFM.out.start.2.2; omega
  have v1 : IntKind.i64.wrap (x.jobs - x.next) = x.jobs - x.next := wrapI _ (by omega) (by omega)
  have v2 : IntKind.i64.wrap (11 * (x.jobs - x.next)) = 11 * (x.jobs - x.next) := wrapI _ (by omega) (by omega)
  have v3 : IntKind.i64.wrap (9 * (x.queue.length : Int)) = 9 * (x.queue.length : Int) := wrapI _ (by omega) (by omega)
  have v4 : IntKind.i64.wrap (11 * (x.jobs - x.next) + 9 * (x.queue.length : Int)) = 11 * (x.jobs - x.next) + 9 * (x.queue.length : Int) := wrapI _ (by omega) (by omega)
  have v5 : IntKind.i64.wrap (6 * (x.results.length : Int)) = 6 * (x.results.length : Int) := wrapI _ (by omega) (by omega)
  have v6 : IntKind.i64.wrap (11 * (x.jobs - x.next) + 9 * (x.queue.length : Int) + 6 * (x.results.length : Int)) = 11 * (x.jobs - x.next) + 9 * (x.queue.length : Int) + 6 * (x.results.length : Int) := wrapI _ (by omega) (by omega)
  have v7 : IntKind.i64.wrap (11 * (x.jobs - x.next) + 9 * (x.queue.length : Int) + 6 * (x.results.length : Int) + (x.out.length : Int)) = 11 * (x.jobs - x.next) + 9 * (x.queue.length : Int) + 6 * (x.results.length : Int) + (x.out.length : Int) := wrapI _ (by omega) (by omega)
  go_upto_region 1 with fail
  go_cut [3] from 8 to 38 (fun t wx => t = .int .i64 (11 * (x.jobs - x.next) + 9 * (x.queue.length : Int) + 6 * (x.results.length : Int) + (x.out.length : Int)) ∧ Below w.heap.size w wx)
  case first =>
    go_wp2_with fail
    go_quiet (fail)
    go_wp2_with fail
    go_meet
    exact ⟨rfl, below_drewN (Below.refl _ _) _⟩
  obtain ⟨rfl, hb2⟩ := hcut
  obtain ⟨w2, rfl⟩ : ∃ W, W = wc := ⟨_, rfl⟩
  obtain ⟨s0, hs0⟩ : ∃ s0 : Int, 11 * (x.jobs - x.next) + 9 * (x.queue.length : Int) + 6 * (x.results.length : Int) + (x.out.length : Int) = s0 := ⟨_, rfl⟩
  rw [hs0]
  have hs0b : 0 ≤ s0 ∧ s0 ≤ 1000 := by omega
  have HS0 := hide hs0
  have HX2 := hide (HX.out.below hb2 HX.out.lt)
  have HH := hide (O2.out.below hb2 l2)
  have HR := hide (O4.out.below hb2 l4)
  have HB2 := hide hb2
  have HLH := hide (l2.up hb2)
  have HLR := hide (l4.up hb2)
  clear hs0 v1 v2 v3 v4 v5 v6 v7 hb2 x0 x3 x4 x5 x6 x7 x8 x9 x10 x12 x13 xl HX O2 O4 l2 l4 hj hjj hq hr8 ho1
  have x4 := HX2.out.cell 4
  have x6 := HX2.out.cell 6
  have xl := HX2.out.lt
  have HRD := hide (show ∀ c : Int, readLeft x.reader = c → x.left = s0 + c + handsLeft x.hands + ringLeft x.ring + bitP (x.closer = 0) + keepLeft x.keeper + bitP (x.user = 0) from fun c hc => by
    unfold CrewWorld.left
    rw [hc, ← HS0.out])
  have hrd := HFM.out.reader
  have hc4 : x.reader = 0 ∨ x.reader = 1 ∨ x.reader = 2 ∨ x.reader = 3 := by omega
  clear hrd
  rcases hc4 with h | h | h | h
  · have e0 : (x.reader == 0) = true := beqt' h
    have e1 : (x.reader == 1) = false := beqf' (by omega)
    have e2 : (x.reader == 2) = false := beqf' (by omega)
    have HL := hide (HRD.out 2 (by rw [h]; rfl))
    clear h HRD
    go_upto_region 9 with fail
    obtain ⟨t0, ht0⟩ : ∃ t0 : Int, t0 = s0 + 2 := ⟨_, rfl⟩
    rw [← ht0]
    rw [← ht0] at HL
    have ht0b : 0 ≤ t0 ∧ t0 ≤ 2000 := by omega
    clear ht0 e0 e1 e2 x4 

    have HX3 := HX2
    have xl := HX2.out.lt
    have x6 := HX2.out.cell 6
    go_wp2_with fail
    go_loopw [3, 59] (fun s i wr => (∃ j : Nat, j ≤ x.hands.length ∧ i = .int .i64 j ∧ s = .int .i64 (t0 + handsLeft (x.hands.take j))) ∧ Below w2.heap.size w2 wr) (fun _ i _ => x.hands.length - (intOf i).toNat)
    case atStart => exact ⟨⟨0, Nat.zero_le _, rfl, by simp [handsLeft]⟩, Below.refl _ _⟩
    case round =>
      obtain ⟨⟨j, hj, rfl, rfl⟩, hb⟩ := hrel
      have HBR := hide hb
      have HXR := hide (HX2.out.below hb HX2.out.lt)
      have HHR := hide (HH.out.below hb HLH.out)
      have hle := handsLeft_le (x.hands.take j)
      have hlt8 : (x.hands.take j).length ≤ 8 := by rw [List.length_take]; omega
      clear hb x6 xl
      have xl := HXR.out.lt
      by_cases hlt : j < x.hands.length
      · have hji : (j : Int) < (x.hands.length : Int) := by omega
        obtain ⟨g, off, ws, fi, rfl, hg, hfi, hwl, hcs, hov⟩ := HHR.out.elem CrewHand.cells_len hlt
        have hgl : g < w2.heap.size := HLH.out g hg
        have hsz : w2.heap.size ≤ wr.heap.size := HBR.out.size
        have hgw : g < wr.heap.size := by omega
        obtain ⟨rfl, -, -, -⟩ := hov.oCrewHand
        have p0 := hcs 0 _ rfl
        have p1 := hcs 1 _ rfl
        simp only [Nat.add_zero] at p0
        have HSN := hide (handsLeft_snoc x.hands j hlt)
        have hfin := (HFM.out.fine _ (List.getElem_mem hlt)).1
        have hyl := hand_left x.hands[j]
        clear hcs hov
        generalize x.hands[j] = y at *
        generalize handsLeft (x.hands.take j) = hl at *
        obtain ⟨q, hq⟩ : ∃ q : Nat, y.state = (q : Int) := ⟨y.state.toNat, by omega⟩
        have hq4 : q < 4 := by omega
        have hq0 : (0 : Int) ≤ (q : Int) := by omega
        have hqi : (q : Int) < 4 := by omega
        have LH : ([.int .i64 1, .int .i64 9, .int .i64 8, .int .i64 0] : List Value)[q]'(by simpa using hq4) = .int .i64 y.left := get_at (handLeft_at y q hq hq4) _
        have hix : ∀ u : World, (Instr.index 139 (.agg #[.int .i64 1, .int .i64 9, .int .i64 8, .int .i64 0]) (.int .i64 (q : Int))).run Try.prog u = .ok (.int .i64 y.left) u := index4_any y q hq hq4
        rw [hq] at p0
        clear hq hfin
        go_wp2
        go_roundw
        case rel => exact ⟨⟨j + 1, by omega, by go_num, by first | (rw [HSN.out]; first | rfl | (congr 1; omega)) | (congr 1; rw [HSN.out]; simp only [wrap64]; omega)⟩, HBR.out.trans ((Below.refl _ _).alloc hsz _)⟩
        case measure => simp [intOf]; omega
      · obtain rfl : j = x.hands.length := by omega
        have hji : ¬ ((x.hands.length : Int) < (x.hands.length : Int)) := by omega
        rw [List.take_length] at hle ⊢
        obtain ⟨w3, rfl⟩ : ∃ W, W = wr := ⟨_, rfl⟩
        have x10 := HXR.out.cell 10
        have HRR := hide (HR.out.below HBR.out HLR.out)
        have HB3 := hide (HB2.out.trans (HBR.out.mono HB2.out.size))
        have HLR3 := hide (HLR.out.up HBR.out)
        generalize handsLeft x.hands = hl at *
        clear HHR HBR hlt8
        go_wp2_with fail
        go_loopw [3, 75] (fun s i wr => (∃ j : Nat, j ≤ x.ring.length ∧ i = .int .i64 j ∧ s = .int .i64 (t0 + hl + ringLeft (x.ring.take j))) ∧ wr = w3) (fun _ i _ => x.ring.length - (intOf i).toNat)
        case atStart => exact ⟨⟨0, Nat.zero_le _, rfl, by simp [ringLeft]⟩, rfl⟩
        case round =>
          obtain ⟨⟨i, hi, rfl, rfl⟩, rfl⟩ := hrel
          have hrle := ringLeft_le (x.ring.take i)
          have hrlt : (x.ring.take i).length ≤ 16 := by rw [List.length_take]; omega
          by_cases hlt : i < x.ring.length
          · have hii : (i : Int) < (x.ring.length : Int) := by omega
            obtain ⟨g, off, rfl, hg, hcell, -⟩ := ints_at HRR.out hlt
            have hgl := HLR3.out g hg
            have HSN := hide (ringLeft_snoc x.ring i hlt)
            generalize x.ring[i] = y at *
            generalize ringLeft (x.ring.take i) = rr at *
            have HC := hide (bit_any (decide (0 ≤ y)) wr)
            by_cases hy : 0 ≤ y
            · have HS2 := hide (show ringLeft (x.ring.take (i + 1)) = rr + 4 from by rw [HSN.out, if_pos hy])
              have dy : decide (0 ≤ y) = true := dec_true hy
              rw [dy] at HC
              go_wp2_with fail
              refine HC.out.mono ?_
              rintro e wq ⟨rfl, rfl⟩
              go_wp2
              go_roundw
              case rel => exact ⟨⟨i + 1, by omega, by go_num, by first | (rw [HS2.out]; done) | (rw [HS2.out]; congr 1; omega) | (congr 1; rw [HS2.out]; simp only [wrap64]; omega)⟩, by trivial⟩
              case measure => simp [intOf]; omega
            · have HS2 := hide (show ringLeft (x.ring.take (i + 1)) = rr from by rw [HSN.out, if_neg hy]; omega)
              have dy : decide (0 ≤ y) = false := dec_false hy
              rw [dy] at HC
              go_wp2_with fail
              refine HC.out.mono ?_
              rintro e wq ⟨rfl, rfl⟩
              go_wp2
              go_roundw
              case rel => exact ⟨⟨i + 1, by omega, by go_num, by first | (rw [HS2.out]; done) | (rw [HS2.out]; congr 1; omega) | (congr 1; rw [HS2.out]; simp only [wrap64]; omega)⟩, by trivial⟩
              case measure => simp [intOf]; omega
          · obtain rfl : i = x.ring.length := by omega
            have hii : ¬ ((x.ring.length : Int) < (x.ring.length : Int)) := by omega
            rw [List.take_length] at hrle ⊢
            have hrr : ringLeft x.ring ≤ 64 ∧ 0 ≤ ringLeft x.ring := by omega
            generalize ringLeft x.ring = rr at *
            obtain ⟨k, hk⟩ : ∃ k : Nat, x.keeper = (k : Int) := ⟨x.keeper.toNat, by have := HFM.out.keeper; omega⟩
            have hk6 : k < 6 := by have := HFM.out.keeper; omega
            have hkl := keepLeft_le (k : Int)
            have hix : ∀ u : World, (Instr.index 141 (.agg #[.int .i64 2, .int .i64 3, .int .i64 2, .int .i64 4, .int .i64 1, .int .i64 0]) (.int .i64 (k : Int))).run Try.prog u = .ok (.int .i64 (keepLeft (k : Int))) u := index6_any k hk6
            have x7 := HXR.out.cell 7
            have x9 := HXR.out.cell 9
            have x13 := HXR.out.cell 13
            rw [hk] at x9 HL
            have hcb : ∀ (v : Int) (W : World), Calls Try.prog 123 #[.bool (v == 0)] W fun e w' => e = .returned (.int .i64 (bitP (v = 0))) ∧ w' = W := fun v W => (bit_any (v == 0) W).mono (fun e w' ⟨he, hw⟩ => ⟨by rw [he]; congr 1; unfold bitP; by_cases h : v = 0 <;> simp [h], hw⟩)
            have HCB := hide hcb
            have hb1 : 0 ≤ bitP (x.closer = 0) ∧ bitP (x.closer = 0) ≤ 1 := by unfold bitP; split <;> omega
            have hb2 : 0 ≤ bitP (x.user = 0) ∧ bitP (x.user = 0) ≤ 1 := by unfold bitP; split <;> omega
            have HV := hide (show t0 + hl + rr + bitP (x.closer = 0) + keepLeft (k : Int) + bitP (x.user = 0) = x.left from by have := HL.out; omega)
            have HC1 := hide (fun W => HCB.out x.closer W)
            have HC2 := hide (fun W => HCB.out x.user W)
            generalize bitP (x.closer = 0) = p1 at *
            generalize bitP (x.user = 0) = p2 at *
            generalize keepLeft (k : Int) = kl at *
            have q1 : IntKind.i64.wrap (t0 + hl + rr + p1) = t0 + hl + rr + p1 := wrapI _ (by omega) (by omega)
            have q2 : IntKind.i64.wrap (t0 + hl + rr + p1 + kl) = t0 + hl + rr + p1 + kl := wrapI _ (by omega) (by omega)
            have q3 : IntKind.i64.wrap (t0 + hl + rr + p1 + kl + p2) = t0 + hl + rr + p1 + kl + p2 := wrapI _ (by omega) (by omega)
            have hk0 : (0 : Int) ≤ (k : Int) := by omega
            have hki : (k : Int) < 6 := by omega
            clear hk hcb
            go_wp2_with fail
            go_quiet ((first | (go_at_call 123; exact Calls.quiet_of_same (HC1.out _)) | (go_at_call 123; exact Calls.quiet_of_same (HC2.out _))))
            go_wp2
            go_ret
            exact ⟨ret_int HV.out, below_drewN HB3.out _⟩
  · have e0 : (x.reader == 0) = false := beqf' (by omega)
    have e1 : (x.reader == 1) = true := beqt' h
    have e2 : (x.reader == 2) = false := beqf' (by omega)
    have HL := hide (HRD.out 12 (by rw [h]; rfl))
    clear h HRD
    go_upto_region 9 with fail
    obtain ⟨t0, ht0⟩ : ∃ t0 : Int, t0 = s0 + 12 := ⟨_, rfl⟩
    rw [← ht0]
    rw [← ht0] at HL
    have ht0b : 0 ≤ t0 ∧ t0 ≤ 2000 := by omega
    clear ht0 e0 e1 e2 x4 

    have HX3 := HX2
    have xl := HX2.out.lt
    have x6 := HX2.out.cell 6
    go_wp2_with fail
    go_loopw [3, 59] (fun s i wr => (∃ j : Nat, j ≤ x.hands.length ∧ i = .int .i64 j ∧ s = .int .i64 (t0 + handsLeft (x.hands.take j))) ∧ Below w2.heap.size w2 wr) (fun _ i _ => x.hands.length - (intOf i).toNat)
    case atStart => exact ⟨⟨0, Nat.zero_le _, rfl, by simp [handsLeft]⟩, Below.refl _ _⟩
    case round =>
      obtain ⟨⟨j, hj, rfl, rfl⟩, hb⟩ := hrel
      have HBR := hide hb
      have HXR := hide (HX2.out.below hb HX2.out.lt)
      have HHR := hide (HH.out.below hb HLH.out)
      have hle := handsLeft_le (x.hands.take j)
      have hlt8 : (x.hands.take j).length ≤ 8 := by rw [List.length_take]; omega
      clear hb x6 xl
      have xl := HXR.out.lt
      by_cases hlt : j < x.hands.length
      · have hji : (j : Int) < (x.hands.length : Int) := by omega
        obtain ⟨g, off, ws, fi, rfl, hg, hfi, hwl, hcs, hov⟩ := HHR.out.elem CrewHand.cells_len hlt
        have hgl : g < w2.heap.size := HLH.out g hg
        have hsz : w2.heap.size ≤ wr.heap.size := HBR.out.size
        have hgw : g < wr.heap.size := by omega
        obtain ⟨rfl, -, -, -⟩ := hov.oCrewHand
        have p0 := hcs 0 _ rfl
        have p1 := hcs 1 _ rfl
        simp only [Nat.add_zero] at p0
        have HSN := hide (handsLeft_snoc x.hands j hlt)
        have hfin := (HFM.out.fine _ (List.getElem_mem hlt)).1
        have hyl := hand_left x.hands[j]
        clear hcs hov
        generalize x.hands[j] = y at *
        generalize handsLeft (x.hands.take j) = hl at *
        obtain ⟨q, hq⟩ : ∃ q : Nat, y.state = (q : Int) := ⟨y.state.toNat, by omega⟩
        have hq4 : q < 4 := by omega
        have hq0 : (0 : Int) ≤ (q : Int) := by omega
        have hqi : (q : Int) < 4 := by omega
        have LH : ([.int .i64 1, .int .i64 9, .int .i64 8, .int .i64 0] : List Value)[q]'(by simpa using hq4) = .int .i64 y.left := get_at (handLeft_at y q hq hq4) _
        have hix : ∀ u : World, (Instr.index 139 (.agg #[.int .i64 1, .int .i64 9, .int .i64 8, .int .i64 0]) (.int .i64 (q : Int))).run Try.prog u = .ok (.int .i64 y.left) u := index4_any y q hq hq4
        rw [hq] at p0
        clear hq hfin
        go_wp2
        go_roundw
        case rel => exact ⟨⟨j + 1, by omega, by go_num, by first | (rw [HSN.out]; first | rfl | (congr 1; omega)) | (congr 1; rw [HSN.out]; simp only [wrap64]; omega)⟩, HBR.out.trans ((Below.refl _ _).alloc hsz _)⟩
        case measure => simp [intOf]; omega
      · obtain rfl : j = x.hands.length := by omega
        have hji : ¬ ((x.hands.length : Int) < (x.hands.length : Int)) := by omega
        rw [List.take_length] at hle ⊢
        obtain ⟨w3, rfl⟩ : ∃ W, W = wr := ⟨_, rfl⟩
        have x10 := HXR.out.cell 10
        have HRR := hide (HR.out.below HBR.out HLR.out)
        have HB3 := hide (HB2.out.trans (HBR.out.mono HB2.out.size))
        have HLR3 := hide (HLR.out.up HBR.out)
        generalize handsLeft x.hands = hl at *
        clear HHR HBR hlt8
        go_wp2_with fail
        go_loopw [3, 75] (fun s i wr => (∃ j : Nat, j ≤ x.ring.length ∧ i = .int .i64 j ∧ s = .int .i64 (t0 + hl + ringLeft (x.ring.take j))) ∧ wr = w3) (fun _ i _ => x.ring.length - (intOf i).toNat)
        case atStart => exact ⟨⟨0, Nat.zero_le _, rfl, by simp [ringLeft]⟩, rfl⟩
        case round =>
          obtain ⟨⟨i, hi, rfl, rfl⟩, rfl⟩ := hrel
          have hrle := ringLeft_le (x.ring.take i)
          have hrlt : (x.ring.take i).length ≤ 16 := by rw [List.length_take]; omega
          by_cases hlt : i < x.ring.length
          · have hii : (i : Int) < (x.ring.length : Int) := by omega
            obtain ⟨g, off, rfl, hg, hcell, -⟩ := ints_at HRR.out hlt
            have hgl := HLR3.out g hg
            have HSN := hide (ringLeft_snoc x.ring i hlt)
            generalize x.ring[i] = y at *
            generalize ringLeft (x.ring.take i) = rr at *
            have HC := hide (bit_any (decide (0 ≤ y)) wr)
            by_cases hy : 0 ≤ y
            · have HS2 := hide (show ringLeft (x.ring.take (i + 1)) = rr + 4 from by rw [HSN.out, if_pos hy])
              have dy : decide (0 ≤ y) = true := dec_true hy
              rw [dy] at HC
              go_wp2_with fail
              refine HC.out.mono ?_
              rintro e wq ⟨rfl, rfl⟩
              go_wp2
              go_roundw
              case rel => exact ⟨⟨i + 1, by omega, by go_num, by first | (rw [HS2.out]; done) | (rw [HS2.out]; congr 1; omega) | (congr 1; rw [HS2.out]; simp only [wrap64]; omega)⟩, by trivial⟩
              case measure => simp [intOf]; omega
            · have HS2 := hide (show ringLeft (x.ring.take (i + 1)) = rr from by rw [HSN.out, if_neg hy]; omega)
              have dy : decide (0 ≤ y) = false := dec_false hy
              rw [dy] at HC
              go_wp2_with fail
              refine HC.out.mono ?_
              rintro e wq ⟨rfl, rfl⟩
              go_wp2
              go_roundw
              case rel => exact ⟨⟨i + 1, by omega, by go_num, by first | (rw [HS2.out]; done) | (rw [HS2.out]; congr 1; omega) | (congr 1; rw [HS2.out]; simp only [wrap64]; omega)⟩, by trivial⟩
              case measure => simp [intOf]; omega
          · obtain rfl : i = x.ring.length := by omega
            have hii : ¬ ((x.ring.length : Int) < (x.ring.length : Int)) := by omega
            rw [List.take_length] at hrle ⊢
            have hrr : ringLeft x.ring ≤ 64 ∧ 0 ≤ ringLeft x.ring := by omega
            generalize ringLeft x.ring = rr at *
            obtain ⟨k, hk⟩ : ∃ k : Nat, x.keeper = (k : Int) := ⟨x.keeper.toNat, by have := HFM.out.keeper; omega⟩
            have hk6 : k < 6 := by have := HFM.out.keeper; omega
            have hkl := keepLeft_le (k : Int)
            have hix : ∀ u : World, (Instr.index 141 (.agg #[.int .i64 2, .int .i64 3, .int .i64 2, .int .i64 4, .int .i64 1, .int .i64 0]) (.int .i64 (k : Int))).run Try.prog u = .ok (.int .i64 (keepLeft (k : Int))) u := index6_any k hk6
            have x7 := HXR.out.cell 7
            have x9 := HXR.out.cell 9
            have x13 := HXR.out.cell 13
            rw [hk] at x9 HL
            have hcb : ∀ (v : Int) (W : World), Calls Try.prog 123 #[.bool (v == 0)] W fun e w' => e = .returned (.int .i64 (bitP (v = 0))) ∧ w' = W := fun v W => (bit_any (v == 0) W).mono (fun e w' ⟨he, hw⟩ => ⟨by rw [he]; congr 1; unfold bitP; by_cases h : v = 0 <;> simp [h], hw⟩)
            have HCB := hide hcb
            have hb1 : 0 ≤ bitP (x.closer = 0) ∧ bitP (x.closer = 0) ≤ 1 := by unfold bitP; split <;> omega
            have hb2 : 0 ≤ bitP (x.user = 0) ∧ bitP (x.user = 0) ≤ 1 := by unfold bitP; split <;> omega
            have HV := hide (show t0 + hl + rr + bitP (x.closer = 0) + keepLeft (k : Int) + bitP (x.user = 0) = x.left from by have := HL.out; omega)
            have HC1 := hide (fun W => HCB.out x.closer W)
            have HC2 := hide (fun W => HCB.out x.user W)
            generalize bitP (x.closer = 0) = p1 at *
            generalize bitP (x.user = 0) = p2 at *
            generalize keepLeft (k : Int) = kl at *
            have q1 : IntKind.i64.wrap (t0 + hl + rr + p1) = t0 + hl + rr + p1 := wrapI _ (by omega) (by omega)
            have q2 : IntKind.i64.wrap (t0 + hl + rr + p1 + kl) = t0 + hl + rr + p1 + kl := wrapI _ (by omega) (by omega)
            have q3 : IntKind.i64.wrap (t0 + hl + rr + p1 + kl + p2) = t0 + hl + rr + p1 + kl + p2 := wrapI _ (by omega) (by omega)
            have hk0 : (0 : Int) ≤ (k : Int) := by omega
            have hki : (k : Int) < 6 := by omega
            clear hk hcb
            go_wp2_with fail
            go_quiet ((first | (go_at_call 123; exact Calls.quiet_of_same (HC1.out _)) | (go_at_call 123; exact Calls.quiet_of_same (HC2.out _))))
            go_wp2
            go_ret
            exact ⟨ret_int HV.out, below_drewN HB3.out _⟩
  · have e0 : (x.reader == 0) = false := beqf' (by omega)
    have e1 : (x.reader == 1) = false := beqf' (by omega)
    have e2 : (x.reader == 2) = true := beqt' h
    have HL := hide (HRD.out 1 (by rw [h]; rfl))
    clear h HRD
    go_upto_region 9 with fail
    obtain ⟨t0, ht0⟩ : ∃ t0 : Int, t0 = s0 + 1 := ⟨_, rfl⟩
    rw [← ht0]
    rw [← ht0] at HL
    have ht0b : 0 ≤ t0 ∧ t0 ≤ 2000 := by omega
    clear ht0 e0 e1 e2 x4 

    have HX3 := HX2
    have xl := HX2.out.lt
    have x6 := HX2.out.cell 6
    go_wp2_with fail
    go_loopw [3, 59] (fun s i wr => (∃ j : Nat, j ≤ x.hands.length ∧ i = .int .i64 j ∧ s = .int .i64 (t0 + handsLeft (x.hands.take j))) ∧ Below w2.heap.size w2 wr) (fun _ i _ => x.hands.length - (intOf i).toNat)
    case atStart => exact ⟨⟨0, Nat.zero_le _, rfl, by simp [handsLeft]⟩, Below.refl _ _⟩
    case round =>
      obtain ⟨⟨j, hj, rfl, rfl⟩, hb⟩ := hrel
      have HBR := hide hb
      have HXR := hide (HX2.out.below hb HX2.out.lt)
      have HHR := hide (HH.out.below hb HLH.out)
      have hle := handsLeft_le (x.hands.take j)
      have hlt8 : (x.hands.take j).length ≤ 8 := by rw [List.length_take]; omega
      clear hb x6 xl
      have xl := HXR.out.lt
      by_cases hlt : j < x.hands.length
      · have hji : (j : Int) < (x.hands.length : Int) := by omega
        obtain ⟨g, off, ws, fi, rfl, hg, hfi, hwl, hcs, hov⟩ := HHR.out.elem CrewHand.cells_len hlt
        have hgl : g < w2.heap.size := HLH.out g hg
        have hsz : w2.heap.size ≤ wr.heap.size := HBR.out.size
        have hgw : g < wr.heap.size := by omega
        obtain ⟨rfl, -, -, -⟩ := hov.oCrewHand
        have p0 := hcs 0 _ rfl
        have p1 := hcs 1 _ rfl
        simp only [Nat.add_zero] at p0
        have HSN := hide (handsLeft_snoc x.hands j hlt)
        have hfin := (HFM.out.fine _ (List.getElem_mem hlt)).1
        have hyl := hand_left x.hands[j]
        clear hcs hov
        generalize x.hands[j] = y at *
        generalize handsLeft (x.hands.take j) = hl at *
        obtain ⟨q, hq⟩ : ∃ q : Nat, y.state = (q : Int) := ⟨y.state.toNat, by omega⟩
        have hq4 : q < 4 := by omega
        have hq0 : (0 : Int) ≤ (q : Int) := by omega
        have hqi : (q : Int) < 4 := by omega
        have LH : ([.int .i64 1, .int .i64 9, .int .i64 8, .int .i64 0] : List Value)[q]'(by simpa using hq4) = .int .i64 y.left := get_at (handLeft_at y q hq hq4) _
        have hix : ∀ u : World, (Instr.index 139 (.agg #[.int .i64 1, .int .i64 9, .int .i64 8, .int .i64 0]) (.int .i64 (q : Int))).run Try.prog u = .ok (.int .i64 y.left) u := index4_any y q hq hq4
        rw [hq] at p0
        clear hq hfin
        go_wp2
        go_roundw
        case rel => exact ⟨⟨j + 1, by omega, by go_num, by first | (rw [HSN.out]; first | rfl | (congr 1; omega)) | (congr 1; rw [HSN.out]; simp only [wrap64]; omega)⟩, HBR.out.trans ((Below.refl _ _).alloc hsz _)⟩
        case measure => simp [intOf]; omega
      · obtain rfl : j = x.hands.length := by omega
        have hji : ¬ ((x.hands.length : Int) < (x.hands.length : Int)) := by omega
        rw [List.take_length] at hle ⊢
        obtain ⟨w3, rfl⟩ : ∃ W, W = wr := ⟨_, rfl⟩
        have x10 := HXR.out.cell 10
        have HRR := hide (HR.out.below HBR.out HLR.out)
        have HB3 := hide (HB2.out.trans (HBR.out.mono HB2.out.size))
        have HLR3 := hide (HLR.out.up HBR.out)
        generalize handsLeft x.hands = hl at *
        clear HHR HBR hlt8
        go_wp2_with fail
        go_loopw [3, 75] (fun s i wr => (∃ j : Nat, j ≤ x.ring.length ∧ i = .int .i64 j ∧ s = .int .i64 (t0 + hl + ringLeft (x.ring.take j))) ∧ wr = w3) (fun _ i _ => x.ring.length - (intOf i).toNat)
        case atStart => exact ⟨⟨0, Nat.zero_le _, rfl, by simp [ringLeft]⟩, rfl⟩
        case round =>
          obtain ⟨⟨i, hi, rfl, rfl⟩, rfl⟩ := hrel
          have hrle := ringLeft_le (x.ring.take i)
          have hrlt : (x.ring.take i).length ≤ 16 := by rw [List.length_take]; omega
          by_cases hlt : i < x.ring.length
          · have hii : (i : Int) < (x.ring.length : Int) := by omega
            obtain ⟨g, off, rfl, hg, hcell, -⟩ := ints_at HRR.out hlt
            have hgl := HLR3.out g hg
            have HSN := hide (ringLeft_snoc x.ring i hlt)
            generalize x.ring[i] = y at *
            generalize ringLeft (x.ring.take i) = rr at *
            have HC := hide (bit_any (decide (0 ≤ y)) wr)
            by_cases hy : 0 ≤ y
            · have HS2 := hide (show ringLeft (x.ring.take (i + 1)) = rr + 4 from by rw [HSN.out, if_pos hy])
              have dy : decide (0 ≤ y) = true := dec_true hy
              rw [dy] at HC
              go_wp2_with fail
              refine HC.out.mono ?_
              rintro e wq ⟨rfl, rfl⟩
              go_wp2
              go_roundw
              case rel => exact ⟨⟨i + 1, by omega, by go_num, by first | (rw [HS2.out]; done) | (rw [HS2.out]; congr 1; omega) | (congr 1; rw [HS2.out]; simp only [wrap64]; omega)⟩, by trivial⟩
              case measure => simp [intOf]; omega
            · have HS2 := hide (show ringLeft (x.ring.take (i + 1)) = rr from by rw [HSN.out, if_neg hy]; omega)
              have dy : decide (0 ≤ y) = false := dec_false hy
              rw [dy] at HC
              go_wp2_with fail
              refine HC.out.mono ?_
              rintro e wq ⟨rfl, rfl⟩
              go_wp2
              go_roundw
              case rel => exact ⟨⟨i + 1, by omega, by go_num, by first | (rw [HS2.out]; done) | (rw [HS2.out]; congr 1; omega) | (congr 1; rw [HS2.out]; simp only [wrap64]; omega)⟩, by trivial⟩
              case measure => simp [intOf]; omega
          · obtain rfl : i = x.ring.length := by omega
            have hii : ¬ ((x.ring.length : Int) < (x.ring.length : Int)) := by omega
            rw [List.take_length] at hrle ⊢
            have hrr : ringLeft x.ring ≤ 64 ∧ 0 ≤ ringLeft x.ring := by omega
            generalize ringLeft x.ring = rr at *
            obtain ⟨k, hk⟩ : ∃ k : Nat, x.keeper = (k : Int) := ⟨x.keeper.toNat, by have := HFM.out.keeper; omega⟩
            have hk6 : k < 6 := by have := HFM.out.keeper; omega
            have hkl := keepLeft_le (k : Int)
            have hix : ∀ u : World, (Instr.index 141 (.agg #[.int .i64 2, .int .i64 3, .int .i64 2, .int .i64 4, .int .i64 1, .int .i64 0]) (.int .i64 (k : Int))).run Try.prog u = .ok (.int .i64 (keepLeft (k : Int))) u := index6_any k hk6
            have x7 := HXR.out.cell 7
            have x9 := HXR.out.cell 9
            have x13 := HXR.out.cell 13
            rw [hk] at x9 HL
            have hcb : ∀ (v : Int) (W : World), Calls Try.prog 123 #[.bool (v == 0)] W fun e w' => e = .returned (.int .i64 (bitP (v = 0))) ∧ w' = W := fun v W => (bit_any (v == 0) W).mono (fun e w' ⟨he, hw⟩ => ⟨by rw [he]; congr 1; unfold bitP; by_cases h : v = 0 <;> simp [h], hw⟩)
            have HCB := hide hcb
            have hb1 : 0 ≤ bitP (x.closer = 0) ∧ bitP (x.closer = 0) ≤ 1 := by unfold bitP; split <;> omega
            have hb2 : 0 ≤ bitP (x.user = 0) ∧ bitP (x.user = 0) ≤ 1 := by unfold bitP; split <;> omega
            have HV := hide (show t0 + hl + rr + bitP (x.closer = 0) + keepLeft (k : Int) + bitP (x.user = 0) = x.left from by have := HL.out; omega)
            have HC1 := hide (fun W => HCB.out x.closer W)
            have HC2 := hide (fun W => HCB.out x.user W)
            generalize bitP (x.closer = 0) = p1 at *
            generalize bitP (x.user = 0) = p2 at *
            generalize keepLeft (k : Int) = kl at *
            have q1 : IntKind.i64.wrap (t0 + hl + rr + p1) = t0 + hl + rr + p1 := wrapI _ (by omega) (by omega)
            have q2 : IntKind.i64.wrap (t0 + hl + rr + p1 + kl) = t0 + hl + rr + p1 + kl := wrapI _ (by omega) (by omega)
            have q3 : IntKind.i64.wrap (t0 + hl + rr + p1 + kl + p2) = t0 + hl + rr + p1 + kl + p2 := wrapI _ (by omega) (by omega)
            have hk0 : (0 : Int) ≤ (k : Int) := by omega
            have hki : (k : Int) < 6 := by omega
            clear hk hcb
            go_wp2_with fail
            go_quiet ((first | (go_at_call 123; exact Calls.quiet_of_same (HC1.out _)) | (go_at_call 123; exact Calls.quiet_of_same (HC2.out _))))
            go_wp2
            go_ret
            exact ⟨ret_int HV.out, below_drewN HB3.out _⟩
  · have e0 : (x.reader == 0) = false := beqf' (by omega)
    have e1 : (x.reader == 1) = false := beqf' (by omega)
    have e2 : (x.reader == 2) = false := beqf' (by omega)
    have HL := hide (HRD.out 0 (by rw [h]; rfl))
    clear h HRD
    go_upto_region 9 with fail
    obtain ⟨t0, ht0⟩ : ∃ t0 : Int, t0 = s0 + 0 := ⟨_, rfl⟩
    have h0s : s0 = t0 := by omega
    rw [h0s]
    rw [← ht0] at HL
    have ht0b : 0 ≤ t0 ∧ t0 ≤ 2000 := by omega
    clear ht0 e0 e1 e2 x4 h0s

    have HX3 := HX2
    have xl := HX2.out.lt
    have x6 := HX2.out.cell 6
    go_wp2_with fail
    go_loopw [3, 59] (fun s i wr => (∃ j : Nat, j ≤ x.hands.length ∧ i = .int .i64 j ∧ s = .int .i64 (t0 + handsLeft (x.hands.take j))) ∧ Below w2.heap.size w2 wr) (fun _ i _ => x.hands.length - (intOf i).toNat)
    case atStart => exact ⟨⟨0, Nat.zero_le _, rfl, by simp [handsLeft]⟩, Below.refl _ _⟩
    case round =>
      obtain ⟨⟨j, hj, rfl, rfl⟩, hb⟩ := hrel
      have HBR := hide hb
      have HXR := hide (HX2.out.below hb HX2.out.lt)
      have HHR := hide (HH.out.below hb HLH.out)
      have hle := handsLeft_le (x.hands.take j)
      have hlt8 : (x.hands.take j).length ≤ 8 := by rw [List.length_take]; omega
      clear hb x6 xl
      have xl := HXR.out.lt
      by_cases hlt : j < x.hands.length
      · have hji : (j : Int) < (x.hands.length : Int) := by omega
        obtain ⟨g, off, ws, fi, rfl, hg, hfi, hwl, hcs, hov⟩ := HHR.out.elem CrewHand.cells_len hlt
        have hgl : g < w2.heap.size := HLH.out g hg
        have hsz : w2.heap.size ≤ wr.heap.size := HBR.out.size
        have hgw : g < wr.heap.size := by omega
        obtain ⟨rfl, -, -, -⟩ := hov.oCrewHand
        have p0 := hcs 0 _ rfl
        have p1 := hcs 1 _ rfl
        simp only [Nat.add_zero] at p0
        have HSN := hide (handsLeft_snoc x.hands j hlt)
        have hfin := (HFM.out.fine _ (List.getElem_mem hlt)).1
        have hyl := hand_left x.hands[j]
        clear hcs hov
        generalize x.hands[j] = y at *
        generalize handsLeft (x.hands.take j) = hl at *
        obtain ⟨q, hq⟩ : ∃ q : Nat, y.state = (q : Int) := ⟨y.state.toNat, by omega⟩
        have hq4 : q < 4 := by omega
        have hq0 : (0 : Int) ≤ (q : Int) := by omega
        have hqi : (q : Int) < 4 := by omega
        have LH : ([.int .i64 1, .int .i64 9, .int .i64 8, .int .i64 0] : List Value)[q]'(by simpa using hq4) = .int .i64 y.left := get_at (handLeft_at y q hq hq4) _
        have hix : ∀ u : World, (Instr.index 139 (.agg #[.int .i64 1, .int .i64 9, .int .i64 8, .int .i64 0]) (.int .i64 (q : Int))).run Try.prog u = .ok (.int .i64 y.left) u := index4_any y q hq hq4
        rw [hq] at p0
        clear hq hfin
        go_wp2
        go_roundw
        case rel => exact ⟨⟨j + 1, by omega, by go_num, by first | (rw [HSN.out]; first | rfl | (congr 1; omega)) | (congr 1; rw [HSN.out]; simp only [wrap64]; omega)⟩, HBR.out.trans ((Below.refl _ _).alloc hsz _)⟩
        case measure => simp [intOf]; omega
      · obtain rfl : j = x.hands.length := by omega
        have hji : ¬ ((x.hands.length : Int) < (x.hands.length : Int)) := by omega
        rw [List.take_length] at hle ⊢
        obtain ⟨w3, rfl⟩ : ∃ W, W = wr := ⟨_, rfl⟩
        have x10 := HXR.out.cell 10
        have HRR := hide (HR.out.below HBR.out HLR.out)
        have HB3 := hide (HB2.out.trans (HBR.out.mono HB2.out.size))
        have HLR3 := hide (HLR.out.up HBR.out)
        generalize handsLeft x.hands = hl at *
        clear HHR HBR hlt8
        go_wp2_with fail
        go_loopw [3, 75] (fun s i wr => (∃ j : Nat, j ≤ x.ring.length ∧ i = .int .i64 j ∧ s = .int .i64 (t0 + hl + ringLeft (x.ring.take j))) ∧ wr = w3) (fun _ i _ => x.ring.length - (intOf i).toNat)
        case atStart => exact ⟨⟨0, Nat.zero_le _, rfl, by simp [ringLeft]⟩, rfl⟩
        case round =>
          obtain ⟨⟨i, hi, rfl, rfl⟩, rfl⟩ := hrel
          have hrle := ringLeft_le (x.ring.take i)
          have hrlt : (x.ring.take i).length ≤ 16 := by rw [List.length_take]; omega
          by_cases hlt : i < x.ring.length
          · have hii : (i : Int) < (x.ring.length : Int) := by omega
            obtain ⟨g, off, rfl, hg, hcell, -⟩ := ints_at HRR.out hlt
            have hgl := HLR3.out g hg
            have HSN := hide (ringLeft_snoc x.ring i hlt)
            generalize x.ring[i] = y at *
            generalize ringLeft (x.ring.take i) = rr at *
            have HC := hide (bit_any (decide (0 ≤ y)) wr)
            by_cases hy : 0 ≤ y
            · have HS2 := hide (show ringLeft (x.ring.take (i + 1)) = rr + 4 from by rw [HSN.out, if_pos hy])
              have dy : decide (0 ≤ y) = true := dec_true hy
              rw [dy] at HC
              go_wp2_with fail
              refine HC.out.mono ?_
              rintro e wq ⟨rfl, rfl⟩
              go_wp2
              go_roundw
              case rel => exact ⟨⟨i + 1, by omega, by go_num, by first | (rw [HS2.out]; done) | (rw [HS2.out]; congr 1; omega) | (congr 1; rw [HS2.out]; simp only [wrap64]; omega)⟩, by trivial⟩
              case measure => simp [intOf]; omega
            · have HS2 := hide (show ringLeft (x.ring.take (i + 1)) = rr from by rw [HSN.out, if_neg hy]; omega)
              have dy : decide (0 ≤ y) = false := dec_false hy
              rw [dy] at HC
              go_wp2_with fail
              refine HC.out.mono ?_
              rintro e wq ⟨rfl, rfl⟩
              go_wp2
              go_roundw
              case rel => exact ⟨⟨i + 1, by omega, by go_num, by first | (rw [HS2.out]; done) | (rw [HS2.out]; congr 1; omega) | (congr 1; rw [HS2.out]; simp only [wrap64]; omega)⟩, by trivial⟩
              case measure => simp [intOf]; omega
          · obtain rfl : i = x.ring.length := by omega
            have hii : ¬ ((x.ring.length : Int) < (x.ring.length : Int)) := by omega
            rw [List.take_length] at hrle ⊢
            have hrr : ringLeft x.ring ≤ 64 ∧ 0 ≤ ringLeft x.ring := by omega
            generalize ringLeft x.ring = rr at *
            obtain ⟨k, hk⟩ : ∃ k : Nat, x.keeper = (k : Int) := ⟨x.keeper.toNat, by have := HFM.out.keeper; omega⟩
            have hk6 : k < 6 := by have := HFM.out.keeper; omega
            have hkl := keepLeft_le (k : Int)
            have hix : ∀ u : World, (Instr.index 141 (.agg #[.int .i64 2, .int .i64 3, .int .i64 2, .int .i64 4, .int .i64 1, .int .i64 0]) (.int .i64 (k : Int))).run Try.prog u = .ok (.int .i64 (keepLeft (k : Int))) u := index6_any k hk6
            have x7 := HXR.out.cell 7
            have x9 := HXR.out.cell 9
            have x13 := HXR.out.cell 13
            rw [hk] at x9 HL
            have hcb : ∀ (v : Int) (W : World), Calls Try.prog 123 #[.bool (v == 0)] W fun e w' => e = .returned (.int .i64 (bitP (v = 0))) ∧ w' = W := fun v W => (bit_any (v == 0) W).mono (fun e w' ⟨he, hw⟩ => ⟨by rw [he]; congr 1; unfold bitP; by_cases h : v = 0 <;> simp [h], hw⟩)
            have HCB := hide hcb
            have hb1 : 0 ≤ bitP (x.closer = 0) ∧ bitP (x.closer = 0) ≤ 1 := by unfold bitP; split <;> omega
            have hb2 : 0 ≤ bitP (x.user = 0) ∧ bitP (x.user = 0) ≤ 1 := by unfold bitP; split <;> omega
            have HV := hide (show t0 + hl + rr + bitP (x.closer = 0) + keepLeft (k : Int) + bitP (x.user = 0) = x.left from by have := HL.out; omega)
            have HC1 := hide (fun W => HCB.out x.closer W)
            have HC2 := hide (fun W => HCB.out x.user W)
            generalize bitP (x.closer = 0) = p1 at *
            generalize bitP (x.user = 0) = p2 at *
            generalize keepLeft (k : Int) = kl at *
            have q1 : IntKind.i64.wrap (t0 + hl + rr + p1) = t0 + hl + rr + p1 := wrapI _ (by omega) (by omega)
            have q2 : IntKind.i64.wrap (t0 + hl + rr + p1 + kl) = t0 + hl + rr + p1 + kl := wrapI _ (by omega) (by omega)
            have q3 : IntKind.i64.wrap (t0 + hl + rr + p1 + kl + p2) = t0 + hl + rr + p1 + kl + p2 := wrapI _ (by omega) (by omega)
            have hk0 : (0 : Int) ≤ (k : Int) := by omega
            have hki : (k : Int) < 6 := by omega
            clear hk hcb
            go_wp2_with fail
            go_quiet ((first | (go_at_call 123; exact Calls.quiet_of_same (HC1.out _)) | (go_at_call 123; exact Calls.quiet_of_same (HC2.out _))))
            go_wp2
            go_ret
            exact ⟨ret_int HV.out, below_drewN HB3.out _⟩
end Go.Proofs.Ytpkjjfnfolbcoaa
