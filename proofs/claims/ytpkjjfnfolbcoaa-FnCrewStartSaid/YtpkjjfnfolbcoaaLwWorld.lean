/-
  The comparing of worlds: lwWorld, where both are the same.
-/
import Derived.Test.YtpkjjfnfolbcoaaLwInts
import Derived.Test.YtpkjjfnfolbcoaaStartLaw
import Derived.Test.YtpkjjfnfolbcoaaStart
import Derived.BigQuiet
import Derived.Deep.RegionHeld3
import Derived.Deep.Cut
set_option linter.unusedVariables false
set_option linter.unusedSimpArgs false
namespace Go.Proofs.Ytpkjjfnfolbcoaa
open Go.ChangeShapes Go.WideShapes Go.ChangeAt Go.RowKit

theorem lit_ow {W : World} {g : Nat} {e : TypeId} (x : CrewWorld) (hr : Row W g e [.int .i64 x.jobs, .int .i64 x.workers, .int .i64 x.window, .int .i64 x.next, .int .i64 x.reader, .int .i64 x.closer, .int .i64 x.keeper, .int .i64 x.due, .int .i64 x.user, .int .i64 x.room, .int .i64 x.ops]) (hw : ∀ z ∈ ([x.jobs, x.workers, x.window, x.next, x.reader, x.closer, x.keeper, x.due, x.user, x.room, x.ops] : List Int), (Lit.int .i64 z).wf = true) :
    Ow W (.s 1 ([x.jobs, x.workers, x.window, x.next, x.reader, x.closer, x.keeper, x.due, x.user, x.room, x.ops] : List Int).length (([x.jobs, x.workers, x.window, x.next, x.reader, x.closer, x.keeper, x.due, x.user, x.room, x.ops] : List Int).flatMap intC)) (.slice (some ⟨g, 0, none⟩) 11 11) [g] :=
  Ow.ofRow (l := [x.jobs, x.workers, x.window, x.next, x.reader, x.closer, x.keeper, x.due, x.user, x.room, x.ops]) (c := 11) hr intC_len (ints_row W [x.jobs, x.workers, x.window, x.next, x.reader, x.closer, x.keeper, x.due, x.user, x.room, x.ops] hw) (by simp) (by simp) (by simp [maxLen])
set_option maxRecDepth 100000 in
set_option maxHeartbeats 8000000 in
theorem lwWorld_same (x : CrewWorld) (us vs : List Value) (fp fq : List Nat) (w : World) (ho : OwC w x.cells us fp) (hp : OwC w x.cells vs fq) (hf : Lt fp w.heap.size) (hg : Lt fq w.heap.size) :
    Calls Try.prog 24 #[.agg us.toArray, .agg vs.toArray] w fun e w' => e = .returned (.bool true) ∧ Below w.heap.size w w' := by
  obtain ⟨A1, c1, A2, c2, A3, c3, A4, c4, A5, c5, A6, c6, A7, c7, f1, f2, f3, f4, f5, f6, f7, rfl, wjobs, wworkers, wwindow, wnext, wreader, o1, o2, wcloser, o3, wkeeper, o4, wdue, o5, wuser, o6, wroom, o7, wops, rfl⟩ := ho.oCrewWorld
  obtain ⟨B1, d1, B2, d2, B3, d3, B4, d4, B5, d5, B6, d6, B7, d7, g1, g2, g3, g4, g5, g6, g7, rfl, -, -, -, -, -, p1, p2, -, p3, -, p4, -, p5, -, p6, -, p7, -, rfl⟩ := hp.oCrewWorld
  clear ho hp
  go_enter Try.func24, Try.ntmps24
  go_upto_region 1 with fail
  generalize hw1 : (w.alloc _).alloc _ = w1
  have hb0 : Below w.heap.size w w1 := by rw [← hw1]; exact ((Below.refl _ _).alloc (Nat.le_refl _) _).alloc (by simp) _
  have HX := hide (show Row w1 w.heap.size 30 [.int .i64 x.jobs, .int .i64 x.workers, .int .i64 x.window, .int .i64 x.next, .int .i64 x.reader, .slice A1 x.queue.length c1, .slice A2 x.hands.length c2, .int .i64 x.closer, .slice A3 x.results.length c3, .int .i64 x.keeper, .slice A4 x.ring.length c4, .int .i64 x.due, .slice A5 x.out.length c5, .int .i64 x.user, .slice A6 x.got.length c6, .int .i64 x.room, .slice A7 x.shut.length c7, .int .i64 x.ops] from by rw [← hw1]; exact (Row.new w _ _).alloc _)
  have HY := hide (show Row w1 (w.heap.size + 1) 30 [.int .i64 x.jobs, .int .i64 x.workers, .int .i64 x.window, .int .i64 x.next, .int .i64 x.reader, .slice B1 x.queue.length d1, .slice B2 x.hands.length d2, .int .i64 x.closer, .slice B3 x.results.length d3, .int .i64 x.keeper, .slice B4 x.ring.length d4, .int .i64 x.due, .slice B5 x.out.length d5, .int .i64 x.user, .slice B6 x.got.length d6, .int .i64 x.room, .slice B7 x.shut.length d7, .int .i64 x.ops] from by
    rw [← hw1]
    have h := Row.new (w.alloc (.cells ([.int .i64 x.jobs, .int .i64 x.workers, .int .i64 x.window, .int .i64 x.next, .int .i64 x.reader, .slice A1 x.queue.length c1, .slice A2 x.hands.length c2, .int .i64 x.closer, .slice A3 x.results.length c3, .int .i64 x.keeper, .slice A4 x.ring.length c4, .int .i64 x.due, .slice A5 x.out.length c5, .int .i64 x.user, .slice A6 x.got.length c6, .int .i64 x.room, .slice A7 x.shut.length c7, .int .i64 x.ops] : List Value).toArray 30)) 30 [.int .i64 x.jobs, .int .i64 x.workers, .int .i64 x.window, .int .i64 x.next, .int .i64 x.reader, .slice B1 x.queue.length d1, .slice B2 x.hands.length d2, .int .i64 x.closer, .slice B3 x.results.length d3, .int .i64 x.keeper, .slice B4 x.ring.length d4, .int .i64 x.due, .slice B5 x.out.length d5, .int .i64 x.user, .slice B6 x.got.length d6, .int .i64 x.room, .slice B7 x.shut.length d7, .int .i64 x.ops]
    simpa using h)
  have HB := hide hb0
  have O1 := hide (o1.below hb0 hf.left)
  have P1 := hide (p1.below hb0 hg.left)
  have l1 := hf.left.up hb0
  have k1 := hg.left.up hb0
  have O2 := hide (o2.below hb0 hf.right.left)
  have P2 := hide (p2.below hb0 hg.right.left)
  have l2 := hf.right.left.up hb0
  have k2 := hg.right.left.up hb0
  have O3 := hide (o3.below hb0 hf.right.right.left)
  have P3 := hide (p3.below hb0 hg.right.right.left)
  have l3 := hf.right.right.left.up hb0
  have k3 := hg.right.right.left.up hb0
  have O4 := hide (o4.below hb0 hf.right.right.right.left)
  have P4 := hide (p4.below hb0 hg.right.right.right.left)
  have l4 := hf.right.right.right.left.up hb0
  have k4 := hg.right.right.right.left.up hb0
  have O5 := hide (o5.below hb0 hf.right.right.right.right.left)
  have P5 := hide (p5.below hb0 hg.right.right.right.right.left)
  have l5 := hf.right.right.right.right.left.up hb0
  have k5 := hg.right.right.right.right.left.up hb0
  have O6 := hide (o6.below hb0 hf.right.right.right.right.right.left)
  have P6 := hide (p6.below hb0 hg.right.right.right.right.right.left)
  have l6 := hf.right.right.right.right.right.left.up hb0
  have k6 := hg.right.right.right.right.right.left.up hb0
  have O7 := hide (o7.below hb0 hf.right.right.right.right.right.right)
  have P7 := hide (p7.below hb0 hg.right.right.right.right.right.right)
  have l7 := hf.right.right.right.right.right.right.up hb0
  have k7 := hg.right.right.right.right.right.right.up hb0
  obtain ⟨_, _, hm2⟩ := o2.nlen
  unfold maxLen at hm2
  have HWF := hide (show ∀ z ∈ ([x.jobs, x.workers, x.window, x.next, x.reader, x.closer, x.keeper, x.due, x.user, x.room, x.ops] : List Int), (Lit.int .i64 z).wf = true from by
    intro z hz
    simp only [List.mem_cons, List.not_mem_nil, or_false] at hz
    rcases hz with rfl | rfl | rfl | rfl | rfl | rfl | rfl | rfl | rfl | rfl | rfl
    all_goals assumption)
  clear hw1 hb0 o1 o2 o3 o4 o5 o6 o7 p1 p2 p3 p4 p5 p6 p7 hf hg
  have x6 := HX.out.cell 6
  have y6 := HY.out.cell 6
  have xl := HX.out.lt
  have yl := HY.out.lt
  go_wp2_with fail
  go_loopw [5] (fun i wr => (∃ k : Nat, k ≤ x.hands.length ∧ i = .int .i64 k) ∧ ∃ q, wr = w1.drewN q) (fun i _ => x.hands.length - (intOf i).toNat)
  case atStart => exact ⟨⟨0, Nat.zero_le _, rfl⟩, 0, rfl⟩
  case round =>
    obtain ⟨⟨k, hk, rfl⟩, q, rfl⟩ := hrel
    by_cases hlt : k < x.hands.length
    · have hltI : (k : Int) < (x.hands.length : Int) := by omega
      obtain ⟨ga, oa, usa, fa, rfl, hga, -, hla, hca, hoa⟩ := O2.out.elem CrewHand.cells_len hlt
      obtain ⟨gb, ob, usb, fb, rfl, hgb, -, hlb, hcb, hob⟩ := P2.out.elem CrewHand.cells_len hlt
      obtain ⟨rfl, -, -, -⟩ := hoa.oCrewHand
      obtain ⟨rfl, -, -, -⟩ := hob.oCrewHand
      have a0 := hca 0 _ rfl
      have a1 := hca 1 _ rfl
      have b0 := hcb 0 _ rfl
      have b1 := hcb 1 _ rfl
      have la := l2 _ hga
      have lb := k2 _ hgb
      simp only [Nat.add_zero] at a0 b0
      generalize x.hands[k] = y at *
      clear hca hcb hoa hob
      go_wp2
      go_quiet (fail)
      go_wp2
      go_roundw
      case rel => exact ⟨⟨k + 1, by omega, by go_num⟩, _, rfl⟩
      case measure => simp [intOf]; omega
    · obtain rfl : k = x.hands.length := by omega
      go_upto_region 8 with fail
      have hbq : Below w1.heap.size w1 (w1.drewN q) := below_drewN (Below.refl _ _) q
      generalize w1.drewN q = w2 at *
      have HX2 := hide (HX.out.below hbq HX.out.lt)
      have HY2 := hide (HY.out.below hbq HY.out.lt)
      have HB2 := hide (HB.out.trans (hbq.mono HB.out.size))
      have O1 := hide (O1.out.below hbq l1)
      have P1 := hide (P1.out.below hbq k1)
      have l1 := l1.up hbq
      have k1 := k1.up hbq
      have O3 := hide (O3.out.below hbq l3)
      have P3 := hide (P3.out.below hbq k3)
      have l3 := l3.up hbq
      have k3 := k3.up hbq
      have O4 := hide (O4.out.below hbq l4)
      have P4 := hide (P4.out.below hbq k4)
      have l4 := l4.up hbq
      have k4 := k4.up hbq
      have O5 := hide (O5.out.below hbq l5)
      have P5 := hide (P5.out.below hbq k5)
      have l5 := l5.up hbq
      have k5 := k5.up hbq
      have O6 := hide (O6.out.below hbq l6)
      have P6 := hide (P6.out.below hbq k6)
      have l6 := l6.up hbq
      have k6 := k6.up hbq
      have O7 := hide (O7.out.below hbq l7)
      have P7 := hide (P7.out.below hbq k7)
      have l7 := l7.up hbq
      have k7 := k7.up hbq
      clear hbq x6 y6 xl yl HX HY HB O2 P2 l2 k2
      have x0 := HX2.out.cell 0
      have y0 := HY2.out.cell 0
      have x1 := HX2.out.cell 1
      have y1 := HY2.out.cell 1
      have x2 := HX2.out.cell 2
      have y2 := HY2.out.cell 2
      have x3 := HX2.out.cell 3
      have y3 := HY2.out.cell 3
      have x4 := HX2.out.cell 4
      have y4 := HY2.out.cell 4
      have x7 := HX2.out.cell 7
      have y7 := HY2.out.cell 7
      have x9 := HX2.out.cell 9
      have y9 := HY2.out.cell 9
      have x11 := HX2.out.cell 11
      have y11 := HY2.out.cell 11
      have x13 := HX2.out.cell 13
      have y13 := HY2.out.cell 13
      have x15 := HX2.out.cell 15
      have y15 := HY2.out.cell 15
      have x17 := HX2.out.cell 17
      have y17 := HY2.out.cell 17
      have xl := HX2.out.lt
      have yl := HY2.out.lt
      go_upto_region 10 with fail
      have HL1 := hide (show Row ((w2.alloc (.cells ([.int .i64 x.jobs, .int .i64 x.workers, .int .i64 x.window, .int .i64 x.next, .int .i64 x.reader, .int .i64 x.closer, .int .i64 x.keeper, .int .i64 x.due, .int .i64 x.user, .int .i64 x.room, .int .i64 x.ops] : List Value).toArray 3)).alloc (.cells ([.int .i64 x.jobs, .int .i64 x.workers, .int .i64 x.window, .int .i64 x.next, .int .i64 x.reader, .int .i64 x.closer, .int .i64 x.keeper, .int .i64 x.due, .int .i64 x.user, .int .i64 x.room, .int .i64 x.ops] : List Value).toArray 3)) w2.heap.size 3 [.int .i64 x.jobs, .int .i64 x.workers, .int .i64 x.window, .int .i64 x.next, .int .i64 x.reader, .int .i64 x.closer, .int .i64 x.keeper, .int .i64 x.due, .int .i64 x.user, .int .i64 x.room, .int .i64 x.ops] from (Row.new w2 _ _).alloc _)
      have HL2 := hide (show Row ((w2.alloc (.cells ([.int .i64 x.jobs, .int .i64 x.workers, .int .i64 x.window, .int .i64 x.next, .int .i64 x.reader, .int .i64 x.closer, .int .i64 x.keeper, .int .i64 x.due, .int .i64 x.user, .int .i64 x.room, .int .i64 x.ops] : List Value).toArray 3)).alloc (.cells ([.int .i64 x.jobs, .int .i64 x.workers, .int .i64 x.window, .int .i64 x.next, .int .i64 x.reader, .int .i64 x.closer, .int .i64 x.keeper, .int .i64 x.due, .int .i64 x.user, .int .i64 x.room, .int .i64 x.ops] : List Value).toArray 3)) (w2.heap.size + 1) 3 [.int .i64 x.jobs, .int .i64 x.workers, .int .i64 x.window, .int .i64 x.next, .int .i64 x.reader, .int .i64 x.closer, .int .i64 x.keeper, .int .i64 x.due, .int .i64 x.user, .int .i64 x.room, .int .i64 x.ops] from by
        have h := Row.new (w2.alloc (.cells ([.int .i64 x.jobs, .int .i64 x.workers, .int .i64 x.window, .int .i64 x.next, .int .i64 x.reader, .int .i64 x.closer, .int .i64 x.keeper, .int .i64 x.due, .int .i64 x.user, .int .i64 x.room, .int .i64 x.ops] : List Value).toArray 3)) 3 [.int .i64 x.jobs, .int .i64 x.workers, .int .i64 x.window, .int .i64 x.next, .int .i64 x.reader, .int .i64 x.closer, .int .i64 x.keeper, .int .i64 x.due, .int .i64 x.user, .int .i64 x.room, .int .i64 x.ops]
        simpa using h)
      have hba : Below w2.heap.size w2 ((w2.alloc (.cells ([.int .i64 x.jobs, .int .i64 x.workers, .int .i64 x.window, .int .i64 x.next, .int .i64 x.reader, .int .i64 x.closer, .int .i64 x.keeper, .int .i64 x.due, .int .i64 x.user, .int .i64 x.room, .int .i64 x.ops] : List Value).toArray 3)).alloc (.cells ([.int .i64 x.jobs, .int .i64 x.workers, .int .i64 x.window, .int .i64 x.next, .int .i64 x.reader, .int .i64 x.closer, .int .i64 x.keeper, .int .i64 x.due, .int .i64 x.user, .int .i64 x.room, .int .i64 x.ops] : List Value).toArray 3)) := ((Below.refl _ _).alloc (Nat.le_refl _) _).alloc (by simp) _
      generalize hw3 : (w2.alloc _).alloc _ = w3
      have hbq : Below w2.heap.size w2 w3 := by rw [← hw3]; exact hba
      have HM1 := hide (lit_ow x (show Row w3 w2.heap.size 3 [.int .i64 x.jobs, .int .i64 x.workers, .int .i64 x.window, .int .i64 x.next, .int .i64 x.reader, .int .i64 x.closer, .int .i64 x.keeper, .int .i64 x.due, .int .i64 x.user, .int .i64 x.room, .int .i64 x.ops] from by rw [← hw3]; exact HL1.out) HWF.out)
      have HM2 := hide (lit_ow x (show Row w3 (w2.heap.size + 1) 3 [.int .i64 x.jobs, .int .i64 x.workers, .int .i64 x.window, .int .i64 x.next, .int .i64 x.reader, .int .i64 x.closer, .int .i64 x.keeper, .int .i64 x.due, .int .i64 x.user, .int .i64 x.room, .int .i64 x.ops] from by rw [← hw3]; exact HL2.out) HWF.out)
      have HX := hide (HX2.out.below hbq HX2.out.lt)
      have HY := hide (HY2.out.below hbq HY2.out.lt)
      have HB := hide (HB2.out.trans (hbq.mono HB2.out.size))
      have O1 := hide (O1.out.below hbq l1)
      have P1 := hide (P1.out.below hbq k1)
      have l1 := l1.up hbq
      have k1 := k1.up hbq
      have O3 := hide (O3.out.below hbq l3)
      have P3 := hide (P3.out.below hbq k3)
      have l3 := l3.up hbq
      have k3 := k3.up hbq
      have O4 := hide (O4.out.below hbq l4)
      have P4 := hide (P4.out.below hbq k4)
      have l4 := l4.up hbq
      have k4 := k4.up hbq
      have O5 := hide (O5.out.below hbq l5)
      have P5 := hide (P5.out.below hbq k5)
      have l5 := l5.up hbq
      have k5 := k5.up hbq
      have O6 := hide (O6.out.below hbq l6)
      have P6 := hide (P6.out.below hbq k6)
      have l6 := l6.up hbq
      have k6 := k6.up hbq
      have O7 := hide (O7.out.below hbq l7)
      have P7 := hide (P7.out.below hbq k7)
      have l7 := l7.up hbq
      have k7 := k7.up hbq
      clear hba hbq hw3 xl yl HX2 HY2 HB2 HL1 HL2 HWF x0 y0 x1 y1 x2 y2 x3 y3 x4 y4 x7 y7 x9 y9 x11 y11 x13 y13 x15 y15 x17 y17
      have hR : Below w3.heap.size w3 w3 := Below.refl _ _
      go_wp2_with (first | (go_at_call 70; (with_reducible show Calls _ _ #[.slice (some ⟨w2.heap.size, _, _⟩) _ _, _] _ _); refine (lwInts_same _ _ _ _ _ _ _ _ _ w3 HM1.out HM2.out).mono ?_; rintro e v0 ⟨rfl, hq0⟩; have hz0 := hR.trans (hq0.mono hR.size); have xa0 := (HX.out.below hz0 HX.out.lt).cell 5; have ya0 := (HY.out.below hz0 HY.out.lt).cell 5; have xc0 := (HX.out.below hz0 HX.out.lt).lt; have yc0 := (HY.out.below hz0 HY.out.lt).lt) | (go_at_call 70; (with_reducible show Calls _ _ #[.slice A1 _ _, _] _ _); refine (lwInts_same _ _ _ _ _ _ _ _ _ _ (O1.out.below hz0 l1) (P1.out.below hz0 k1)).mono ?_; rintro e v1 ⟨rfl, hq1⟩; have hz1 := hz0.trans (hq1.mono hz0.size); have xa1 := (HX.out.below hz1 HX.out.lt).cell 8; have ya1 := (HY.out.below hz1 HY.out.lt).cell 8; have xc1 := (HX.out.below hz1 HX.out.lt).lt; have yc1 := (HY.out.below hz1 HY.out.lt).lt) | (go_at_call 70; (with_reducible show Calls _ _ #[.slice A3 _ _, _] _ _); refine (lwInts_same _ _ _ _ _ _ _ _ _ _ (O3.out.below hz1 l3) (P3.out.below hz1 k3)).mono ?_; rintro e v2 ⟨rfl, hq2⟩; have hz2 := hz1.trans (hq2.mono hz1.size); have xa2 := (HX.out.below hz2 HX.out.lt).cell 10; have ya2 := (HY.out.below hz2 HY.out.lt).cell 10; have xc2 := (HX.out.below hz2 HX.out.lt).lt; have yc2 := (HY.out.below hz2 HY.out.lt).lt) | (go_at_call 70; (with_reducible show Calls _ _ #[.slice A4 _ _, _] _ _); refine (lwInts_same _ _ _ _ _ _ _ _ _ _ (O4.out.below hz2 l4) (P4.out.below hz2 k4)).mono ?_; rintro e v3 ⟨rfl, hq3⟩; have hz3 := hz2.trans (hq3.mono hz2.size); have xa3 := (HX.out.below hz3 HX.out.lt).cell 12; have ya3 := (HY.out.below hz3 HY.out.lt).cell 12; have xc3 := (HX.out.below hz3 HX.out.lt).lt; have yc3 := (HY.out.below hz3 HY.out.lt).lt) | (go_at_call 70; (with_reducible show Calls _ _ #[.slice A5 _ _, _] _ _); refine (lwInts_same _ _ _ _ _ _ _ _ _ _ (O5.out.below hz3 l5) (P5.out.below hz3 k5)).mono ?_; rintro e v4 ⟨rfl, hq4⟩; have hz4 := hz3.trans (hq4.mono hz3.size); have xa4 := (HX.out.below hz4 HX.out.lt).cell 14; have ya4 := (HY.out.below hz4 HY.out.lt).cell 14; have xc4 := (HX.out.below hz4 HX.out.lt).lt; have yc4 := (HY.out.below hz4 HY.out.lt).lt) | (go_at_call 70; (with_reducible show Calls _ _ #[.slice A6 _ _, _] _ _); refine (lwInts_same _ _ _ _ _ _ _ _ _ _ (O6.out.below hz4 l6) (P6.out.below hz4 k6)).mono ?_; rintro e v5 ⟨rfl, hq5⟩; have hz5 := hz4.trans (hq5.mono hz4.size); have xa5 := (HX.out.below hz5 HX.out.lt).cell 16; have ya5 := (HY.out.below hz5 HY.out.lt).cell 16; have xc5 := (HX.out.below hz5 HX.out.lt).lt; have yc5 := (HY.out.below hz5 HY.out.lt).lt) | (go_at_call 70; (with_reducible show Calls _ _ #[.slice A7 _ _, _] _ _); refine (lwInts_same _ _ _ _ _ _ _ _ _ _ (O7.out.below hz5 l7) (P7.out.below hz5 k7)).mono ?_; rintro e v6 ⟨rfl, hq6⟩; have hz6 := hz5.trans (hq6.mono hz5.size)) | fail)
      trace_state
      go_ret
      exact ⟨rfl, HB.out.trans (hz6.mono HB.out.size)⟩
end Go.Proofs.Ytpkjjfnfolbcoaa
