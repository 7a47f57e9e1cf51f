/-
  What is left to be done in a world of a crew: the reference.
-/
import Derived.BigRegion
import Derived.Test.YtpkjjfnfolbcoaaQTwo
import Derived.Test.YtpkjjfnfolbcoaaQCrewW1
set_option linter.unusedVariables false
set_option linter.unusedSimpArgs false
namespace Go.Proofs.Ytpkjjfnfolbcoaa
open Go.ChangeShapes Go.WideShapes Go.ChangeAt Go.RowKit

theorem get_at {l : List Value} {r : Nat} {v : Value} (h : l[r]? = some v) (hl : r < l.length) : l[r] = v := by
  rw [List.getElem?_eq_getElem hl] at h
  injection h
theorem readLeft_at (r : Nat) (h : r < 4) : ([.int .i64 2, .int .i64 12, .int .i64 1, .int .i64 0] : List Value)[r]? = some (.int .i64 (readLeft r)) := by
  obtain rfl | rfl | rfl | rfl : r = 0 ∨ r = 1 ∨ r = 2 ∨ r = 3 := by omega
  all_goals rfl
theorem keepLeft_at (r : Nat) (h : r < 6) : ([.int .i64 2, .int .i64 3, .int .i64 2, .int .i64 4, .int .i64 1, .int .i64 0] : List Value)[r]? = some (.int .i64 (keepLeft r)) := by
  obtain rfl | rfl | rfl | rfl | rfl | rfl : r = 0 ∨ r = 1 ∨ r = 2 ∨ r = 3 ∨ r = 4 ∨ r = 5 := by omega
  all_goals rfl
theorem handLeft_at (y : CrewHand) (r : Nat) (hr : y.state = r) (h : r < 4) : ([.int .i64 1, .int .i64 9, .int .i64 8, .int .i64 0] : List Value)[r]? = some (.int .i64 y.left) := by
  unfold CrewHand.left
  rw [hr]
  obtain rfl | rfl | rfl | rfl : r = 0 ∨ r = 1 ∨ r = 2 ∨ r = 3 := by omega
  all_goals rfl
theorem readLeft_le (r : Int) : 0 ≤ readLeft r ∧ readLeft r ≤ 12 := by unfold readLeft; repeat' split
                                                                       all_goals omega
theorem keepLeft_le (r : Int) : 0 ≤ keepLeft r ∧ keepLeft r ≤ 4 := by unfold keepLeft; repeat' split
                                                                      all_goals omega
theorem bit_flip {c : Int} (h : 0 ≤ c ∧ c ≤ 1) : bitP (c = 0) = 1 - c := by
  obtain rfl | rfl : c = 0 ∨ c = 1 := by omega
  all_goals rfl
set_option maxRecDepth 100000 in
set_option maxHeartbeats 2000000 in
theorem l51Left_any (x : CrewWorld) (us : List Value) (fp : List Nat) (w : World) (ho : OwC w x.cells us fp) (hf : Lt fp w.heap.size) (hfm : x.Form) :
    Calls Try.prog 58 #[.agg us.toArray] w fun e w' => e = .returned (.int .i64 x.left) ∧ Below w.heap.size w w' := by
  have HFM := hide hfm
  clear hfm
  have HO := hide ho
  have HF := hide hf
  obtain ⟨A1, c1, A2, c2, A3, c3, A4, c4, A5, c5, A6, c6, A7, c7, f1, f2, f3, f4, f5, f6, f7, rfl, wjobs, wworkers, wwindow, wnext, wreader, o1, o2, wcloser, o3, wkeeper, o4, wdue, o5, wuser, o6, wroom, o7, wops, rfl⟩ := ho.oCrewWorld
  clear ho
  go_enter Try.func58, Try.ntmps58
  go_upto_region 1 with fail
  generalize hw1 : w.alloc _ = w1
  have hb0 : Below w.heap.size w w1 := by rw [← hw1]; exact (Below.refl _ _).alloc (Nat.le_refl _) _
  have HX := hide (show Row w1 w.heap.size 30 [.int .i64 x.jobs, .int .i64 x.workers, .int .i64 x.window, .int .i64 x.next, .int .i64 x.reader, .slice A1 x.queue.length c1, .slice A2 x.hands.length c2, .int .i64 x.closer, .slice A3 x.results.length c3, .int .i64 x.keeper, .slice A4 x.ring.length c4, .int .i64 x.due, .slice A5 x.out.length c5, .int .i64 x.user, .slice A6 x.got.length c6, .int .i64 x.room, .slice A7 x.shut.length c7, .int .i64 x.ops] from by rw [← hw1]; exact Row.new w _ _)
  have HB := hide hb0
  have HOW := hide (HO.out.below hb0 hf)
  have HFW := hide (hf.up hb0)
  have O1 := hide (o1.below hb0 hf.left)
  have l1 := hf.left.up hb0
  obtain ⟨-, n1, m1⟩ := o1.nlen
  unfold maxLen at m1
  have O2 := hide (o2.below hb0 hf.right.left)
  have l2 := hf.right.left.up hb0
  obtain ⟨-, n2, m2⟩ := o2.nlen
  unfold maxLen at m2
  have O3 := hide (o3.below hb0 hf.right.right.left)
  have l3 := hf.right.right.left.up hb0
  obtain ⟨-, n3, m3⟩ := o3.nlen
  unfold maxLen at m3
  have O4 := hide (o4.below hb0 hf.right.right.right.left)
  have l4 := hf.right.right.right.left.up hb0
  obtain ⟨-, n4, m4⟩ := o4.nlen
  unfold maxLen at m4
  have O5 := hide (o5.below hb0 hf.right.right.right.right.left)
  have l5 := hf.right.right.right.right.left.up hb0
  obtain ⟨-, n5, m5⟩ := o5.nlen
  unfold maxLen at m5
  clear hw1 hb0 HO o1 o2 o3 o4 o5 o6 o7
  have x0 := HX.out.cell 0
  have x3 := HX.out.cell 3
  have x4 := HX.out.cell 4
  have x5 := HX.out.cell 5
  have x6 := HX.out.cell 6
  have x7 := HX.out.cell 7
  have x8 := HX.out.cell 8
  have x9 := HX.out.cell 9
  have x10 := HX.out.cell 10
  have x12 := HX.out.cell 12
  have x13 := HX.out.cell 13
  have xl := HX.out.lt
  have hj := HFM.out.next
  have hjj := HFM.out.start.1
  have hq : (x.queue.length : Int) ≤ 8 := by have := HFM.out.queue; have := HFM.out.start.2.1; omega
  have hr8 : (x.results.length : Int) ≤ 8 := by have := HFM.out.results; have := HFM.out.start.2.1; omega
  have ho1 : (x.out.length : Int) ≤ 1 := by have := HFM.out.out; omega
  have hh8 : (x.hands.length : Int) ≤ 8 := by have := HFM.out.hands; have := HFM.out.start.2.1; omega
  have hr16 : (x.ring.length : Int) ≤ 16 := by have := HFM.out.ring; have := HFM.out.start.2.2; omega
  go_upto_region 2 with fail
  obtain ⟨s0, hs0⟩ : ∃ s0 : Int, 11 * (x.jobs - x.next) + 9 * (x.queue.length : Int) + 6 * (x.results.length : Int) + (x.out.length : Int) = s0 := ⟨_, rfl⟩
  rw [hs0]
  have hs0b : 0 ≤ s0 ∧ s0 ≤ 1000 := by omega
  have HS0 := hide hs0
  obtain ⟨r, hr⟩ : ∃ r : Nat, x.reader = (r : Int) := ⟨x.reader.toNat, by have := HFM.out.reader; omega⟩
  have hr4 : r < 4 := by have := HFM.out.reader; omega
  obtain ⟨k, hk⟩ : ∃ k : Nat, x.keeper = (k : Int) := ⟨x.keeper.toNat, by have := HFM.out.keeper; omega⟩
  have hk6 : k < 6 := by have := HFM.out.keeper; omega
  have hrl := readLeft_le (r : Int)
  have hkl := keepLeft_le (k : Int)
  have LR : ([.int .i64 2, .int .i64 12, .int .i64 1, .int .i64 0] : List Value)[r]'(by simpa using hr4) = .int .i64 (readLeft (r : Int)) := get_at (readLeft_at r hr4) _
  have LK : ([.int .i64 2, .int .i64 3, .int .i64 2, .int .i64 4, .int .i64 1, .int .i64 0] : List Value)[k]'(by simpa using hk6) = .int .i64 (keepLeft (k : Int)) := get_at (keepLeft_at k hk6) _
  rw [hr] at x4
  rw [hk] at x9
  have hc1 := HFM.out.closer
  have hu1 := HFM.out.user
  have HE := hide (show s0 + readLeft (r : Int) + 1 - x.closer + keepLeft (k : Int) + 1 - x.user = x.left - handsLeft x.hands - ringLeft x.ring from by
    unfold CrewWorld.left
    rw [bit_flip hc1, bit_flip hu1, hr, hk]
    omega)
  generalize readLeft (r : Int) = rl at *
  generalize keepLeft (k : Int) = kl at *
  have q1 : IntKind.i64.wrap (s0 + rl) = s0 + rl := wrapI _ (by omega) (by omega)
  have q2 : IntKind.i64.wrap (s0 + rl + 1) = s0 + rl + 1 := wrapI _ (by omega) (by omega)
  have q3 : IntKind.i64.wrap (s0 + rl + 1 - x.closer) = s0 + rl + 1 - x.closer := wrapI _ (by omega) (by omega)
  have q4 : IntKind.i64.wrap (s0 + rl + 1 - x.closer + kl) = s0 + rl + 1 - x.closer + kl := wrapI _ (by omega) (by omega)
  have q5 : IntKind.i64.wrap (s0 + rl + 1 - x.closer + kl + 1) = s0 + rl + 1 - x.closer + kl + 1 := wrapI _ (by omega) (by omega)
  have q6 : IntKind.i64.wrap (s0 + rl + 1 - x.closer + kl + 1 - x.user) = s0 + rl + 1 - x.closer + kl + 1 - x.user := wrapI _ (by omega) (by omega)
  have hr0 : (0 : Int) ≤ (r : Int) := by omega
  have hri : (r : Int) < 4 := by omega
  have hk0 : (0 : Int) ≤ (k : Int) := by omega
  have hki : (k : Int) < 6 := by omega
  clear hs0 hr hk hj hjj hq hr8 ho1
  go_cut [3] from 26 to 47 (fun s3 wx => s3 = .int .i64 (s0 + rl + 1 - x.closer + kl + 1 - x.user) ∧ Below w1.heap.size w1 wx)
  case first =>
    clear x0 x3 x5 x6 x8 x10 x12 O1 O2 O3 O4 O5 n1 n2 n3 n4 n5 m1 m2 m3 m4 m5 l1 l2 l3 l4 l5 HE HS0 HFM hh8 hr16 HB HX HOW HFW HF
    go_region
    all_goals
      go_wp2_with fail
      go_meet
      exact ⟨rfl, below_drewN (((Below.refl w1.heap.size w1).alloc (Nat.le_refl _) _).alloc (by simp) _) 1⟩
  obtain ⟨rfl, hb2⟩ := hcut
  obtain ⟨w2, rfl⟩ : ∃ W, W = wc := ⟨_, rfl⟩
  obtain ⟨t0, ht0⟩ : ∃ t0 : Int, s0 + rl + 1 - x.closer + kl + 1 - x.user = t0 := ⟨_, rfl⟩
  rw [ht0] at HE ⊢
  have ht0b : 0 ≤ t0 ∧ t0 ≤ 2000 := by omega
  have HX2 := hide (HX.out.below hb2 HX.out.lt)
  have HH := hide (O2.out.below hb2 l2)
  have HR := hide (O4.out.below hb2 l4)
  have HB2 := hide (HB.out.trans (hb2.mono HB.out.size))
  have HLH := hide (l2.up hb2)
  have HLR := hide (l4.up hb2)
  clear x0 x3 x4 x5 x6 x7 x8 x9 x10 x12 x13 xl hb2 LR LK q1 q2 q3 q4 q5 q6 HX O1 O2 O3 O4 O5 l1 l2 l3 l4 l5 HB HOW HFW ht0
  have x6 := HX2.out.cell 6
  have xl := HX2.out.lt
  go_wp2_with fail
  go_loopw [3, 4] (fun s i wr => (∃ j : Nat, j ≤ x.hands.length ∧ i = .int .i64 j ∧ s = .int .i64 (t0 + handsLeft (x.hands.take j))) ∧ Below w2.heap.size w2 wr) (fun _ i _ => x.hands.length - (intOf i).toNat)
  case atStart => exact ⟨⟨0, Nat.zero_le _, rfl, by simp [handsLeft]⟩, Below.refl _ _⟩
  case round =>
    obtain ⟨⟨j, hj, rfl, rfl⟩, hb⟩ := hrel
    have HBR := hide hb
    have HXR := hide (HX2.out.below hb HX2.out.lt)
    have HHR := hide (HH.out.below hb HLH.out)
    have hle := handsLeft_le (x.hands.take j)
    have hlt8 : (x.hands.take j).length ≤ 8 := by rw [List.length_take]; omega
    clear hb x6 xl
    have x6 := HXR.out.cell 6
    have xl := HXR.out.lt
    by_cases hlt : j < x.hands.length
    · have hji : (j : Int) < (x.hands.length : Int) := by omega
      obtain ⟨g, off, ws, fi, rfl, hg, hfi, hwl, hcs, hov⟩ := HHR.out.elem CrewHand.cells_len hlt
      have hgl : g < w2.heap.size := HLH.out g hg
      have hsz : w2.heap.size ≤ wr.heap.size := HBR.out.size
      have hgw : g < wr.heap.size := by omega
      obtain ⟨rfl, -, -, -⟩ := hov.oCrewHand
      have p0 := hcs 0 _ rfl
      simp only [Nat.add_zero] at p0
      have HSN := hide (handsLeft_snoc x.hands j hlt)
      have hfin := (HFM.out.fine _ (List.getElem_mem hlt)).1
      have hyl := hand_left x.hands[j]
      clear hcs hov
      generalize x.hands[j] = y at *
      generalize handsLeft (x.hands.take j) = hl at *
      obtain ⟨q, hq⟩ : ∃ q : Nat, y.state = (q : Int) := ⟨y.state.toNat, by omega⟩
      have hq4 : q < 4 := by omega
      have hq0 : (0 : Int) ≤ (q : Int) := by omega
      have hqi : (q : Int) < 4 := by omega
      have LH : ([.int .i64 1, .int .i64 9, .int .i64 8, .int .i64 0] : List Value)[q]'(by simpa using hq4) = .int .i64 y.left := get_at (handLeft_at y q hq hq4) _
      rw [hq] at p0
      clear hq hfin
      go_wp2
      go_roundw
      case rel => exact ⟨⟨j + 1, by omega, by go_num, by first | (rw [HSN.out]; first | rfl | (congr 1; omega)) | (congr 1; rw [HSN.out]; simp only [wrap64]; omega)⟩, HBR.out.trans ((Below.refl _ _).alloc hsz _)⟩
      case measure => simp [intOf]; omega
    · obtain rfl : j = x.hands.length := by omega
      have hji : ¬ ((x.hands.length : Int) < (x.hands.length : Int)) := by omega
      rw [List.take_length] at hle ⊢
      obtain ⟨w3, rfl⟩ : ∃ W, W = wr := ⟨_, rfl⟩
      have x10 := HXR.out.cell 10
      have HRR := hide (HR.out.below HBR.out HLR.out)
      have HB3 := hide (HB2.out.trans (HBR.out.mono HB2.out.size))
      have HLR3 := hide (HLR.out.up HBR.out)
      generalize handsLeft x.hands = hl at *
      clear HHR HBR hlt8
      go_wp2_with fail
      go_loopw [3, 5] (fun s i wr => (∃ j : Nat, j ≤ x.ring.length ∧ i = .int .i64 j ∧ s = .int .i64 (t0 + hl + ringLeft (x.ring.take j))) ∧ wr = w3) (fun _ i _ => x.ring.length - (intOf i).toNat)
      case atStart => exact ⟨⟨0, Nat.zero_le _, rfl, by simp [ringLeft]⟩, rfl⟩
      case round =>
        obtain ⟨⟨i, hi, rfl, rfl⟩, rfl⟩ := hrel
        have hrle := ringLeft_le (x.ring.take i)
        have hrlt : (x.ring.take i).length ≤ 16 := by rw [List.length_take]; omega
        by_cases hlt : i < x.ring.length
        · have hii : (i : Int) < (x.ring.length : Int) := by omega
          obtain ⟨g, off, rfl, hg, hcell, -⟩ := ints_at HRR.out hlt
          have hgl := HLR3.out g hg
          have HSN := hide (ringLeft_snoc x.ring i hlt)
          generalize x.ring[i] = y at *
          generalize ringLeft (x.ring.take i) = rr at *
          by_cases hy : 0 ≤ y
          · have HS2 := hide (show ringLeft (x.ring.take (i + 1)) = rr + 4 from by rw [HSN.out, if_pos hy])
            go_wp2
            go_roundw
            case rel => exact ⟨⟨i + 1, by omega, by go_num, by first | (rw [HS2.out]; first | rfl | (congr 1; omega)) | (congr 1; rw [HS2.out]; simp only [wrap64]; omega)⟩, by trivial⟩
            case measure => simp [intOf]; omega
          · have HS2 := hide (show ringLeft (x.ring.take (i + 1)) = rr from by rw [HSN.out, if_neg hy]; omega)
            go_wp2
            go_roundw
            case rel => exact ⟨⟨i + 1, by omega, by go_num, by rw [HS2.out]⟩, by trivial⟩
            case measure => simp [intOf]; omega
        · obtain rfl : i = x.ring.length := by omega
          have hii : ¬ ((x.ring.length : Int) < (x.ring.length : Int)) := by omega
          have HV := hide (show t0 + hl + ringLeft x.ring = x.left from by have := HE.out; omega)
          rw [List.take_length]
          go_wp2
          go_ret
          exact ⟨ret_int HV.out, HB3.out⟩
end Go.Proofs.Ytpkjjfnfolbcoaa
