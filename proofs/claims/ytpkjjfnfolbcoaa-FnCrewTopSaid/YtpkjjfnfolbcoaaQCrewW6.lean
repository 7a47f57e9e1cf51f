/-
  Whether those have ended who may have: the reference, where the stop was given. Whether those have ended who may have: the reference, where no stop was given and the keeper closes. Whether those have ended who may have: the reference, where no stop was given and the keeper does not close. Whether those have ended who may have: the reference.
-/
import Derived.Test.YtpkjjfnfolbcoaaQCrewW60
set_option linter.unusedVariables false
set_option linter.unusedSimpArgs false
namespace Go.Proofs.Ytpkjjfnfolbcoaa
open Go.ChangeShapes Go.WideShapes Go.ChangeAt Go.RowKit

set_option maxRecDepth 100000 in
set_option maxHeartbeats 8000000 in
theorem l51EndsA_any (x : CrewWorld) (us : List Value) (fp : List Nat) (w : World) (ho : OwC w x.cells us fp) (hf : Lt fp w.heap.size) (hfm : x.Form) (hst : x.sh 3 = 1) :
    Calls Try.prog 57 #[.agg us.toArray] w fun e w' => e = .returned (.bool (tb (x.Ends ∧ x.Kept))) ∧ Below w.heap.size w w' := by
  have HFM := hide hfm
  clear hfm
  have HST0 := hide hst
  clear hst
  have HO := hide ho
  have HF := hide hf
  obtain ⟨A1, c1, A2, c2, A3, c3, A4, c4, A5, c5, A6, c6, A7, c7, f1, f2, f3, f4, f5, f6, f7, rfl, wjobs, wworkers, wwindow, wnext, wreader, o1, o2, wcloser, o3, wkeeper, o4, wdue, o5, wuser, o6, wroom, o7, wops, rfl⟩ := ho.oCrewWorld
  clear ho
  go_enter Try.func57, Try.ntmps57
  go_upto_region 1 with fail
  generalize hw1 : w.alloc _ = w1
  have hb0 : Below w.heap.size w w1 := by rw [← hw1]; exact (Below.refl _ _).alloc (Nat.le_refl _) _
  have HX := hide (show Row w1 w.heap.size 30 [.int .i64 x.jobs, .int .i64 x.workers, .int .i64 x.window, .int .i64 x.next, .int .i64 x.reader, .slice A1 x.queue.length c1, .slice A2 x.hands.length c2, .int .i64 x.closer, .slice A3 x.results.length c3, .int .i64 x.keeper, .slice A4 x.ring.length c4, .int .i64 x.due, .slice A5 x.out.length c5, .int .i64 x.user, .slice A6 x.got.length c6, .int .i64 x.room, .slice A7 x.shut.length c7, .int .i64 x.ops] from by rw [← hw1]; exact Row.new w _ _)
  have HB := hide hb0
  have HOW := hide (HO.out.below hb0 hf)
  have HFW := hide (hf.up hb0)
  have O7 := hide (o7.below hb0 hf.right.right.right.right.right.right)
  have l7 := hf.right.right.right.right.right.right.up hb0
  obtain ⟨-, n7, m7⟩ := o7.nlen
  unfold maxLen at m7
  clear hw1 hb0 HO o1 o2 o3 o4 o5 o6 o7
  have x0 := HX.out.cell 0
  have x3 := HX.out.cell 3
  have x4 := HX.out.cell 4
  have x5 := HX.out.cell 5
  have x7 := HX.out.cell 7
  have x8 := HX.out.cell 8
  have x9 := HX.out.cell 9
  have x12 := HX.out.cell 12
  have x13 := HX.out.cell 13
  have x16 := HX.out.cell 16
  have xl := HX.out.lt
  have h7 : x.shut.length = 4 := HFM.out.shut
  obtain ⟨g7, off7, rfl, hg7, c0', -⟩ := ints_at O7.out (show 0 < x.shut.length by omega)
  have hgl := l7 g7 hg7
  have next7 : ∀ i, i < 4 → w1.cell? ⟨g7, off7 + i, none⟩ = some (.int .i64 (x.sh i)) := fun i h4 => by
    have h : i < x.shut.length := by omega
    obtain ⟨g, off, e, -, hc, -⟩ := ints_at O7.out h
    injection e with e
    injection e with e1 e2 _
    subst e1 e2
    unfold CrewWorld.sh
    rw [List.getElem?_eq_getElem h]
    exact hc
  have q0 := next7 0 (by omega)
  have q1 := next7 1 (by omega)
  have q2 := next7 2 (by omega)
  have q3 := next7 3 (by omega)
  simp only [Nat.add_zero] at q0
  have hl0 : (0 : Int) < (x.shut.length : Int) := by omega
  have hl1 : (1 : Int) < (x.shut.length : Int) := by omega
  have hl2 : (2 : Int) < (x.shut.length : Int) := by omega
  have hl3 : (3 : Int) < (x.shut.length : Int) := by omega
  clear next7 c0' h7
  have HNO := hide (fun (h : ¬ (x.Ends ∧ x.Kept)) => show false = tb (x.Ends ∧ x.Kept) from (tb_false h).symm)
  have hb0 := bit_eq (b := x.reader) (c := 3) (sh_bit HFM.out 0 (by omega))
  have hb1 := bit_eq (b := x.closer) (c := 1) (sh_bit HFM.out 1 (by omega))
  have hb2 := bit_eq (b := x.keeper) (c := 5) (sh_bit HFM.out 2 (by omega))
  have H0 := hide hb0
  have H1 := hide hb1
  have H2 := hide hb2
  clear hb0 hb1 hb2
  go_upto_region 2 with fail
  go_cut [4] from 10 to 18 (fun t4 wx => t4 = .bool (x.keeper == 4 || x.keeper == 5) ∧ w1 = wx)
  case first =>
    rcases hk : (x.keeper == 4) with _ | _
    all_goals
      have dk : decide (x.keeper = 4) = _ := hk
      go_wp2_with fail
      go_meet
      exact ⟨by rw [hk]; rfl, rfl⟩
  obtain ⟨rfl, rfl⟩ := hcut
  go_upto_region 3 with fail
  by_cases h : x.sh 0 = bitP (x.reader = 3)
  rotate_left
  · have e0 : ((x.sh 0 == 1) == (x.reader == 3)) = false := by rw [H0.out, tb_false h]
    have HZ := hide (HNO.out (fun hp => h hp.1.queue))
    clear h
    go_quiet (fail)
    go_wp2
    go_ret
    exact ⟨ret_bool HZ.out, below_drewN HB.out _⟩
  have e0 : ((x.sh 0 == 1) == (x.reader == 3)) = true := by rw [H0.out, tb_true h]
  have HE0 := hide h
  clear h
  go_cut [18] from 19 to 28 (fun t wx => t = .bool false ∧ Below w1.heap.size w1 wx)
  case first =>
    go_quiet (fail)
    go_wp2_with fail
    go_meet
    exact ⟨rfl, below_drewN (Below.refl _ _) _⟩
  obtain ⟨rfl, hb2⟩ := hcut
  have HX' := hide (HX.out.below hb2 HX.out.lt)
  have HB' := hide (HB.out.trans (hb2.mono HB.out.size))
  have q0' := (hb2.cell (p := ⟨g7, off7, none⟩) hgl).trans q0
  have q1' := (hb2.cell (p := ⟨g7, off7 + 1, none⟩) hgl).trans q1
  have q2' := (hb2.cell (p := ⟨g7, off7 + 2, none⟩) hgl).trans q2
  have q3' := (hb2.cell (p := ⟨g7, off7 + 3, none⟩) hgl).trans q3
  have hgl' := Nat.lt_of_lt_of_le hgl hb2.size
  have HOW' := hide (HOW.out.below hb2 HFW.out)
  have HFW' := hide (HFW.out.up hb2)
  obtain ⟨w2, rfl⟩ : ∃ W, W = wc := ⟨_, rfl⟩
  clear e0 hb2 HX HB q0 q1 q2 q3 hgl HOW HFW O7 l7 x0 x3 x4 x5 x7 x8 x9 x12 x13 x16 xl
  have HX := HX'
  have HB := HB'
  have q0 := q0'
  have q1 := q1'
  have q2 := q2'
  have q3 := q3'
  have hgl := hgl'
  have HOW := HOW'
  have HFW := HFW'
  clear HX' HB' q0' q1' q2' q3' hgl' HOW' HFW'
  have x0 := HX.out.cell 0
  have x3 := HX.out.cell 3
  have x4 := HX.out.cell 4
  have x5 := HX.out.cell 5
  have x7 := HX.out.cell 7
  have x8 := HX.out.cell 8
  have x9 := HX.out.cell 9
  have x12 := HX.out.cell 12
  have x13 := HX.out.cell 13
  have x16 := HX.out.cell 16
  have xl := HX.out.lt
  go_wp2_with fail
  by_cases h : x.sh 1 = bitP (x.closer = 1)
  rotate_left
  · have e0 : ((x.sh 1 == 1) == (x.closer == 1)) = false := by rw [H1.out, tb_false h]
    have HZ := hide (HNO.out (fun hp => h hp.1.results))
    clear h
    go_quiet (fail)
    go_wp2
    go_ret
    exact ⟨ret_bool HZ.out, below_drewN HB.out _⟩
  have e0 : ((x.sh 1 == 1) == (x.closer == 1)) = true := by rw [H1.out, tb_true h]
  have HE1 := hide h
  clear h
  go_cut [18] from 28 to 37 (fun t wx => t = .bool false ∧ Below w2.heap.size w2 wx)
  case first =>
    go_quiet (fail)
    go_wp2_with fail
    go_meet
    exact ⟨rfl, below_drewN (Below.refl _ _) _⟩
  obtain ⟨rfl, hb2⟩ := hcut
  have HX' := hide (HX.out.below hb2 HX.out.lt)
  have HB' := hide (HB.out.trans (hb2.mono HB.out.size))
  have q0' := (hb2.cell (p := ⟨g7, off7, none⟩) hgl).trans q0
  have q1' := (hb2.cell (p := ⟨g7, off7 + 1, none⟩) hgl).trans q1
  have q2' := (hb2.cell (p := ⟨g7, off7 + 2, none⟩) hgl).trans q2
  have q3' := (hb2.cell (p := ⟨g7, off7 + 3, none⟩) hgl).trans q3
  have hgl' := Nat.lt_of_lt_of_le hgl hb2.size
  have HOW' := hide (HOW.out.below hb2 HFW.out)
  have HFW' := hide (HFW.out.up hb2)
  obtain ⟨w3, rfl⟩ : ∃ W, W = wc := ⟨_, rfl⟩
  clear e0 hb2 HX HB q0 q1 q2 q3 hgl HOW HFW x0 x3 x4 x5 x7 x8 x9 x12 x13 x16 xl
  have HX := HX'
  have HB := HB'
  have q0 := q0'
  have q1 := q1'
  have q2 := q2'
  have q3 := q3'
  have hgl := hgl'
  have HOW := HOW'
  have HFW := HFW'
  clear HX' HB' q0' q1' q2' q3' hgl' HOW' HFW'
  have x0 := HX.out.cell 0
  have x3 := HX.out.cell 3
  have x4 := HX.out.cell 4
  have x5 := HX.out.cell 5
  have x7 := HX.out.cell 7
  have x8 := HX.out.cell 8
  have x9 := HX.out.cell 9
  have x12 := HX.out.cell 12
  have x13 := HX.out.cell 13
  have x16 := HX.out.cell 16
  have xl := HX.out.lt
  go_wp2_with fail
  by_cases h : x.sh 2 = bitP (x.keeper = 5)
  rotate_left
  · have e0 : ((x.sh 2 == 1) == (x.keeper == 5)) = false := by rw [H2.out, tb_false h]
    have HZ := hide (HNO.out (fun hp => h hp.1.outs))
    clear h
    go_quiet (fail)
    go_wp2
    go_ret
    exact ⟨ret_bool HZ.out, below_drewN HB.out _⟩
  have e0 : ((x.sh 2 == 1) == (x.keeper == 5)) = true := by rw [H2.out, tb_true h]
  have HE2 := hide h
  clear h
  go_cut [18] from 37 to 46 (fun t wx => t = .bool false ∧ Below w3.heap.size w3 wx)
  case first =>
    go_quiet (fail)
    go_wp2_with fail
    go_meet
    exact ⟨rfl, below_drewN (Below.refl _ _) _⟩
  obtain ⟨rfl, hb2⟩ := hcut
  have HX' := hide (HX.out.below hb2 HX.out.lt)
  have HB' := hide (HB.out.trans (hb2.mono HB.out.size))
  have q0' := (hb2.cell (p := ⟨g7, off7, none⟩) hgl).trans q0
  have q1' := (hb2.cell (p := ⟨g7, off7 + 1, none⟩) hgl).trans q1
  have q2' := (hb2.cell (p := ⟨g7, off7 + 2, none⟩) hgl).trans q2
  have q3' := (hb2.cell (p := ⟨g7, off7 + 3, none⟩) hgl).trans q3
  have hgl' := Nat.lt_of_lt_of_le hgl hb2.size
  have HOW' := hide (HOW.out.below hb2 HFW.out)
  have HFW' := hide (HFW.out.up hb2)
  obtain ⟨w4, rfl⟩ : ∃ W, W = wc := ⟨_, rfl⟩
  clear e0 hb2 HX HB q0 q1 q2 q3 hgl HOW HFW x0 x3 x4 x5 x7 x8 x9 x12 x13 x16 xl
  have HX := HX'
  have HB := HB'
  have q0 := q0'
  have q1 := q1'
  have q2 := q2'
  have q3 := q3'
  have hgl := hgl'
  have HOW := HOW'
  have HFW := HFW'
  clear HX' HB' q0' q1' q2' q3' hgl' HOW' HFW'
  have x0 := HX.out.cell 0
  have x3 := HX.out.cell 3
  have x4 := HX.out.cell 4
  have x5 := HX.out.cell 5
  have x7 := HX.out.cell 7
  have x8 := HX.out.cell 8
  have x9 := HX.out.cell 9
  have x12 := HX.out.cell 12
  have x13 := HX.out.cell 13
  have x16 := HX.out.cell 16
  have xl := HX.out.lt
  go_upto_region 7 with fail
  clear q0 q1 q2 q3 hgl
  clear x0 x3 x4 x5 x7 x8 x9 x12 x13 x16 xl
  have x0 := HX.out.cell 0
  have x3 := HX.out.cell 3
  have x4 := HX.out.cell 4
  have x5 := HX.out.cell 5
  have x7 := HX.out.cell 7
  have x8 := HX.out.cell 8
  have x9 := HX.out.cell 9
  have x12 := HX.out.cell 12
  have x13 := HX.out.cell 13
  have xl := HX.out.lt
  have hst := HST0.out
  have b3 : (x.sh 3 == 1) = true := beqt hst
  rw [b3]
  have HST := hide hst
  clear hst b3

  by_cases hv : ¬ (x.user = 1)
  · have HZ := hide (HNO.out (fun hp => hv (hp.1.stop HST.out)))
    have r1 := bnet hv
    have r2 := beqf hv
    clear hv
    go_wp2_with fail
    go_ret
    exact ⟨ret_bool HZ.out, HB.out⟩
  go_cut [46] from 47 to 53 (fun t wx => t = .bool false ∧ w4 = wx)
  case first =>
    have hv2 : x.user = 1 := Classical.not_not.1 hv
    have r1 := bnef hv2
    have r2 := beqt hv2
    clear hv2
    clear hv
    go_wp2_with fail
    go_meet
    exact ⟨rfl, rfl⟩
  have HV7 := hide hv
  clear hv
  obtain ⟨rfl, rfl⟩ := hcut
  go_upto_region 13 with fail
  have HALL := hide (l51All_any x _ _ w4 HOW.out HFW.out)
  by_cases hv : x.closer = 1 ∧ ¬ x.allDone
  · have HZ := hide (HNO.out (fun hp => hv.2 (hp.1.closed hv.1)))
    have r1 := beqt hv.1
    have ta := tb_false hv.2
    clear hv
    iterate 13 go_step
    refine wpl_load_row_g rfl 30 _ rfl w.heap.size rfl 30 ([.int .i64 x.jobs, .int .i64 x.workers, .int .i64 x.window, .int .i64 x.next, .int .i64 x.reader, .slice A1 x.queue.length c1, .slice A2 x.hands.length c2, .int .i64 x.closer, .slice A3 x.results.length c3, .int .i64 x.keeper, .slice A4 x.ring.length c4, .int .i64 x.due, .slice A5 x.out.length c5, .int .i64 x.user, .slice A6 x.got.length c6, .int .i64 x.room, .slice (some ⟨g7, off7, none⟩) x.shut.length c7, .int .i64 x.ops] : List Value).toArray (0, 0) _ HX.out Try.underlying30 rfl info_crew ?_
    go_wp2_with (first | (go_at_call 113; refine HANY.out.mono ?_; rintro e wq ⟨rfl, hbq⟩; have y4 := (HX.out.below hbq HX.out.lt).cell 4; have y5 := (HX.out.below hbq HX.out.lt).cell 5; have yl := (HX.out.below hbq HX.out.lt).lt) | (go_at_call 62; refine HALL.out.mono ?_; rintro e wq ⟨rfl, hbq⟩) | (go_at_call 114; refine HDUE.out.mono ?_; rintro e wq ⟨rfl, hbq⟩) | fail)
    go_ret
    exact ⟨ret_bool HZ.out, HB.out.trans (hbq.mono HB.out.size)⟩
  go_cut [86] from 87 to 95 (fun t wx => t = .bool false ∧ Below w4.heap.size w4 wx)
  case first =>
    by_cases hd0 : x.closer = 1
    · have r1 := beqt hd0
      have ta := tb_true (Classical.byContradiction (fun h => hv ⟨hd0, h⟩))
      clear hd0
      clear hv
      iterate 13 go_step
      refine wpl_load_row_g rfl 30 _ rfl w.heap.size rfl 30 ([.int .i64 x.jobs, .int .i64 x.workers, .int .i64 x.window, .int .i64 x.next, .int .i64 x.reader, .slice A1 x.queue.length c1, .slice A2 x.hands.length c2, .int .i64 x.closer, .slice A3 x.results.length c3, .int .i64 x.keeper, .slice A4 x.ring.length c4, .int .i64 x.due, .slice A5 x.out.length c5, .int .i64 x.user, .slice A6 x.got.length c6, .int .i64 x.room, .slice (some ⟨g7, off7, none⟩) x.shut.length c7, .int .i64 x.ops] : List Value).toArray (0, 0) _ HX.out Try.underlying30 rfl info_crew ?_
      go_wp2_with (first | (go_at_call 113; refine HANY.out.mono ?_; rintro e wq ⟨rfl, hbq⟩; have y4 := (HX.out.below hbq HX.out.lt).cell 4; have y5 := (HX.out.below hbq HX.out.lt).cell 5; have yl := (HX.out.below hbq HX.out.lt).lt) | (go_at_call 62; refine HALL.out.mono ?_; rintro e wq ⟨rfl, hbq⟩) | (go_at_call 114; refine HDUE.out.mono ?_; rintro e wq ⟨rfl, hbq⟩) | fail)
      go_meet
      exact ⟨rfl, hbq⟩
    have r1 := beqf hd0
    clear hd0
    clear hv
    go_wp2_with (first | (go_at_call 113; refine HANY.out.mono ?_; rintro e wq ⟨rfl, hbq⟩; have y4 := (HX.out.below hbq HX.out.lt).cell 4; have y5 := (HX.out.below hbq HX.out.lt).cell 5; have yl := (HX.out.below hbq HX.out.lt).lt) | (go_at_call 62; refine HALL.out.mono ?_; rintro e wq ⟨rfl, hbq⟩) | (go_at_call 114; refine HDUE.out.mono ?_; rintro e wq ⟨rfl, hbq⟩) | fail)
    go_meet
    exact ⟨rfl, Below.refl _ _⟩
  have HV13 := hide hv
  clear hv
  obtain ⟨rfl, hb2⟩ := hcut
  have HX' := hide (HX.out.below hb2 HX.out.lt)
  have HB' := hide (HB.out.trans (hb2.mono HB.out.size))
  have HOW' := hide (HOW.out.below hb2 HFW.out)
  have HFW' := hide (HFW.out.up hb2)
  obtain ⟨w5, rfl⟩ : ∃ W, W = wc := ⟨_, rfl⟩
  clear hb2 HX HB HOW HFW HALL
  clear x0 x3 x4 x5 x7 x8 x9 x12 x13 xl
  have HX := HX'
  have HB := HB'
  have HOW := HOW'
  have HFW := HFW'
  clear HX' HB' HOW' HFW'
  have x0 := HX.out.cell 0
  have x3 := HX.out.cell 3
  have x4 := HX.out.cell 4
  have x5 := HX.out.cell 5
  have x7 := HX.out.cell 7
  have x8 := HX.out.cell 8
  have x9 := HX.out.cell 9
  have x12 := HX.out.cell 12
  have x13 := HX.out.cell 13
  have xl := HX.out.lt
  go_upto_region 19 with fail
  go_upto_region 19 with fail
  have HEN := hide (show x.Ends from ⟨HE0.out, HE1.out, HE2.out, fun h => Classical.byContradiction (fun h2 => HV13.out ⟨h, h2⟩), fun _ => Classical.not_not.1 HV7.out, fun h => absurd HST.out h, fun h => absurd HST.out h, fun h => absurd HST.out h, fun h => absurd HST.out h⟩)
  have HDUE := hide (l51Due_any x _ _ w5 HOW.out HFW.out HFM.out)
  have hdu : True := True.intro
  by_cases hk0 : x.keeper = 0
  · have hk2 : ¬ x.keeper = 2 := by omega
    by_cases hdue : x.dueIn
    · have r1 := beqt hk0
      have HZ := hide (show false = tb (x.Ends ∧ x.Kept) from (tb_false (fun hp => hp.2.1 hk0 hdue)).symm)
      have td : tb x.dueIn = true := tb_true hdue
      clear hk0 hk2 hdu hdue
      go_wp2_with (first | (refine wpl_move_load_row rfl _ _ rfl rfl rfl 30 _ rfl w.heap.size rfl 30 ([.int .i64 x.jobs, .int .i64 x.workers, .int .i64 x.window, .int .i64 x.next, .int .i64 x.reader, .slice A1 x.queue.length c1, .slice A2 x.hands.length c2, .int .i64 x.closer, .slice A3 x.results.length c3, .int .i64 x.keeper, .slice A4 x.ring.length c4, .int .i64 x.due, .slice A5 x.out.length c5, .int .i64 x.user, .slice A6 x.got.length c6, .int .i64 x.room, .slice (some ⟨g7, off7, none⟩) x.shut.length c7, .int .i64 x.ops] : List Value).toArray (0, 0) _ HX.out Try.underlying30 rfl info_crew ?_) | (refine wpl_load_row_g rfl 30 _ rfl w.heap.size rfl 30 ([.int .i64 x.jobs, .int .i64 x.workers, .int .i64 x.window, .int .i64 x.next, .int .i64 x.reader, .slice A1 x.queue.length c1, .slice A2 x.hands.length c2, .int .i64 x.closer, .slice A3 x.results.length c3, .int .i64 x.keeper, .slice A4 x.ring.length c4, .int .i64 x.due, .slice A5 x.out.length c5, .int .i64 x.user, .slice A6 x.got.length c6, .int .i64 x.room, .slice (some ⟨g7, off7, none⟩) x.shut.length c7, .int .i64 x.ops] : List Value).toArray (0, 0) _ HX.out Try.underlying30 rfl info_crew ?_) | (go_at_call 113; refine HANY.out.mono ?_; rintro e wq ⟨rfl, hbq⟩; have y4 := (HX.out.below hbq HX.out.lt).cell 4; have y5 := (HX.out.below hbq HX.out.lt).cell 5; have yl := (HX.out.below hbq HX.out.lt).lt) | (go_at_call 62; refine HALL.out.mono ?_; rintro e wq ⟨rfl, hbq⟩) | (go_at_call 114; refine HDUE.out.mono ?_; rintro e wq ⟨rfl, hbq⟩) | fail)
      go_ret
      exact ⟨ret_bool HZ.out, HB.out.trans (hbq.mono HB.out.size)⟩
    · have r1 := beqt hk0
      have HZ := hide (show true = tb (x.Ends ∧ x.Kept) from (tb_true ⟨HEN.out, ⟨fun h => hdue, fun h => absurd h hk2⟩⟩).symm)
      have td : tb x.dueIn = false := tb_false hdue
      clear hk0 hk2 hdu hdue
      go_wp2_with (first | (refine wpl_move_load_row rfl _ _ rfl rfl rfl 30 _ rfl w.heap.size rfl 30 ([.int .i64 x.jobs, .int .i64 x.workers, .int .i64 x.window, .int .i64 x.next, .int .i64 x.reader, .slice A1 x.queue.length c1, .slice A2 x.hands.length c2, .int .i64 x.closer, .slice A3 x.results.length c3, .int .i64 x.keeper, .slice A4 x.ring.length c4, .int .i64 x.due, .slice A5 x.out.length c5, .int .i64 x.user, .slice A6 x.got.length c6, .int .i64 x.room, .slice (some ⟨g7, off7, none⟩) x.shut.length c7, .int .i64 x.ops] : List Value).toArray (0, 0) _ HX.out Try.underlying30 rfl info_crew ?_) | (refine wpl_load_row_g rfl 30 _ rfl w.heap.size rfl 30 ([.int .i64 x.jobs, .int .i64 x.workers, .int .i64 x.window, .int .i64 x.next, .int .i64 x.reader, .slice A1 x.queue.length c1, .slice A2 x.hands.length c2, .int .i64 x.closer, .slice A3 x.results.length c3, .int .i64 x.keeper, .slice A4 x.ring.length c4, .int .i64 x.due, .slice A5 x.out.length c5, .int .i64 x.user, .slice A6 x.got.length c6, .int .i64 x.room, .slice (some ⟨g7, off7, none⟩) x.shut.length c7, .int .i64 x.ops] : List Value).toArray (0, 0) _ HX.out Try.underlying30 rfl info_crew ?_) | (go_at_call 113; refine HANY.out.mono ?_; rintro e wq ⟨rfl, hbq⟩; have y4 := (HX.out.below hbq HX.out.lt).cell 4; have y5 := (HX.out.below hbq HX.out.lt).cell 5; have yl := (HX.out.below hbq HX.out.lt).lt) | (go_at_call 62; refine HALL.out.mono ?_; rintro e wq ⟨rfl, hbq⟩) | (go_at_call 114; refine HDUE.out.mono ?_; rintro e wq ⟨rfl, hbq⟩) | fail)
      go_ret
      exact ⟨ret_bool HZ.out, HB.out.trans (hbq.mono HB.out.size)⟩
  have r1 := beqf hk0
  by_cases hk2 : x.keeper = 2
  · by_cases hdue : x.dueIn
    · have r2 := bnef hk2
      have r3 := beqt hk2
      have HZ := hide (show true = tb (x.Ends ∧ x.Kept) from (tb_true ⟨HEN.out, ⟨fun h => absurd h hk0, fun h => hdue⟩⟩).symm)
      have td : tb x.dueIn = true := tb_true hdue
      clear hk0 hk2 hdu hdue
      go_upto_region 21 with fail
      iterate 13 go_step
      refine wpl_load_row_g rfl 30 _ rfl w.heap.size rfl 30 ([.int .i64 x.jobs, .int .i64 x.workers, .int .i64 x.window, .int .i64 x.next, .int .i64 x.reader, .slice A1 x.queue.length c1, .slice A2 x.hands.length c2, .int .i64 x.closer, .slice A3 x.results.length c3, .int .i64 x.keeper, .slice A4 x.ring.length c4, .int .i64 x.due, .slice A5 x.out.length c5, .int .i64 x.user, .slice A6 x.got.length c6, .int .i64 x.room, .slice (some ⟨g7, off7, none⟩) x.shut.length c7, .int .i64 x.ops] : List Value).toArray (0, 0) _ HX.out Try.underlying30 rfl info_crew ?_
      go_wp2_with (first | (go_at_call 113; refine HANY.out.mono ?_; rintro e wq ⟨rfl, hbq⟩; have y4 := (HX.out.below hbq HX.out.lt).cell 4; have y5 := (HX.out.below hbq HX.out.lt).cell 5; have yl := (HX.out.below hbq HX.out.lt).lt) | (go_at_call 62; refine HALL.out.mono ?_; rintro e wq ⟨rfl, hbq⟩) | (go_at_call 114; refine HDUE.out.mono ?_; rintro e wq ⟨rfl, hbq⟩) | fail)
      go_ret
      exact ⟨ret_bool HZ.out, HB.out.trans (hbq.mono HB.out.size)⟩
    · have r2 := bnef hk2
      have r3 := beqt hk2
      have HZ := hide (show false = tb (x.Ends ∧ x.Kept) from (tb_false (fun hp => hdue (hp.2.2 hk2))).symm)
      have td : tb x.dueIn = false := tb_false hdue
      clear hk0 hk2 hdu hdue
      go_upto_region 21 with fail
      iterate 13 go_step
      refine wpl_load_row_g rfl 30 _ rfl w.heap.size rfl 30 ([.int .i64 x.jobs, .int .i64 x.workers, .int .i64 x.window, .int .i64 x.next, .int .i64 x.reader, .slice A1 x.queue.length c1, .slice A2 x.hands.length c2, .int .i64 x.closer, .slice A3 x.results.length c3, .int .i64 x.keeper, .slice A4 x.ring.length c4, .int .i64 x.due, .slice A5 x.out.length c5, .int .i64 x.user, .slice A6 x.got.length c6, .int .i64 x.room, .slice (some ⟨g7, off7, none⟩) x.shut.length c7, .int .i64 x.ops] : List Value).toArray (0, 0) _ HX.out Try.underlying30 rfl info_crew ?_
      go_wp2_with (first | (go_at_call 113; refine HANY.out.mono ?_; rintro e wq ⟨rfl, hbq⟩; have y4 := (HX.out.below hbq HX.out.lt).cell 4; have y5 := (HX.out.below hbq HX.out.lt).cell 5; have yl := (HX.out.below hbq HX.out.lt).lt) | (go_at_call 62; refine HALL.out.mono ?_; rintro e wq ⟨rfl, hbq⟩) | (go_at_call 114; refine HDUE.out.mono ?_; rintro e wq ⟨rfl, hbq⟩) | fail)
      go_ret
      exact ⟨ret_bool HZ.out, HB.out.trans (hbq.mono HB.out.size)⟩
  have r2 := bnet hk2
  have r3 := beqf hk2
  have HZ := hide (show true = tb (x.Ends ∧ x.Kept) from (tb_true ⟨HEN.out, ⟨fun h => absurd h hk0, fun h => absurd h hk2⟩⟩).symm)
  clear hk0 hk2 hdu 
  go_wp2_with (first | (refine wpl_move_load_row rfl _ _ rfl rfl rfl 30 _ rfl w.heap.size rfl 30 ([.int .i64 x.jobs, .int .i64 x.workers, .int .i64 x.window, .int .i64 x.next, .int .i64 x.reader, .slice A1 x.queue.length c1, .slice A2 x.hands.length c2, .int .i64 x.closer, .slice A3 x.results.length c3, .int .i64 x.keeper, .slice A4 x.ring.length c4, .int .i64 x.due, .slice A5 x.out.length c5, .int .i64 x.user, .slice A6 x.got.length c6, .int .i64 x.room, .slice (some ⟨g7, off7, none⟩) x.shut.length c7, .int .i64 x.ops] : List Value).toArray (0, 0) _ HX.out Try.underlying30 rfl info_crew ?_) | (refine wpl_load_row_g rfl 30 _ rfl w.heap.size rfl 30 ([.int .i64 x.jobs, .int .i64 x.workers, .int .i64 x.window, .int .i64 x.next, .int .i64 x.reader, .slice A1 x.queue.length c1, .slice A2 x.hands.length c2, .int .i64 x.closer, .slice A3 x.results.length c3, .int .i64 x.keeper, .slice A4 x.ring.length c4, .int .i64 x.due, .slice A5 x.out.length c5, .int .i64 x.user, .slice A6 x.got.length c6, .int .i64 x.room, .slice (some ⟨g7, off7, none⟩) x.shut.length c7, .int .i64 x.ops] : List Value).toArray (0, 0) _ HX.out Try.underlying30 rfl info_crew ?_) | (go_at_call 113; refine HANY.out.mono ?_; rintro e wq ⟨rfl, hbq⟩; have y4 := (HX.out.below hbq HX.out.lt).cell 4; have y5 := (HX.out.below hbq HX.out.lt).cell 5; have yl := (HX.out.below hbq HX.out.lt).lt) | (go_at_call 62; refine HALL.out.mono ?_; rintro e wq ⟨rfl, hbq⟩) | (go_at_call 114; refine HDUE.out.mono ?_; rintro e wq ⟨rfl, hbq⟩) | fail)
  go_ret
  exact ⟨ret_bool HZ.out, HB.out⟩
end Go.Proofs.Ytpkjjfnfolbcoaa
set_option linter.unusedVariables false
set_option linter.unusedSimpArgs false
namespace Go.Proofs.Ytpkjjfnfolbcoaa
open Go.ChangeShapes Go.WideShapes Go.ChangeAt Go.RowKit

set_option maxRecDepth 100000 in
set_option maxHeartbeats 8000000 in
theorem l51EndsB_any (x : CrewWorld) (us : List Value) (fp : List Nat) (w : World) (ho : OwC w x.cells us fp) (hf : Lt fp w.heap.size) (hfm : x.Form) (hst : ¬ (x.sh 3 = 1)) (hk4 : 4 ≤ x.keeper) :
    Calls Try.prog 57 #[.agg us.toArray] w fun e w' => e = .returned (.bool (tb (x.Ends ∧ x.Kept))) ∧ Below w.heap.size w w' := by
  have HFM := hide hfm
  clear hfm
  have HST0 := hide hst
  have HK40 := hide hk4
  clear hst hk4
  have HO := hide ho
  have HF := hide hf
  obtain ⟨A1, c1, A2, c2, A3, c3, A4, c4, A5, c5, A6, c6, A7, c7, f1, f2, f3, f4, f5, f6, f7, rfl, wjobs, wworkers, wwindow, wnext, wreader, o1, o2, wcloser, o3, wkeeper, o4, wdue, o5, wuser, o6, wroom, o7, wops, rfl⟩ := ho.oCrewWorld
  clear ho
  go_enter Try.func57, Try.ntmps57
  go_upto_region 1 with fail
  generalize hw1 : w.alloc _ = w1
  have hb0 : Below w.heap.size w w1 := by rw [← hw1]; exact (Below.refl _ _).alloc (Nat.le_refl _) _
  have HX := hide (show Row w1 w.heap.size 30 [.int .i64 x.jobs, .int .i64 x.workers, .int .i64 x.window, .int .i64 x.next, .int .i64 x.reader, .slice A1 x.queue.length c1, .slice A2 x.hands.length c2, .int .i64 x.closer, .slice A3 x.results.length c3, .int .i64 x.keeper, .slice A4 x.ring.length c4, .int .i64 x.due, .slice A5 x.out.length c5, .int .i64 x.user, .slice A6 x.got.length c6, .int .i64 x.room, .slice A7 x.shut.length c7, .int .i64 x.ops] from by rw [← hw1]; exact Row.new w _ _)
  have HB := hide hb0
  have HOW := hide (HO.out.below hb0 hf)
  have HFW := hide (hf.up hb0)
  have O7 := hide (o7.below hb0 hf.right.right.right.right.right.right)
  have l7 := hf.right.right.right.right.right.right.up hb0
  obtain ⟨-, n7, m7⟩ := o7.nlen
  unfold maxLen at m7
  clear hw1 hb0 HO o1 o2 o3 o4 o5 o6 o7
  have x0 := HX.out.cell 0
  have x3 := HX.out.cell 3
  have x4 := HX.out.cell 4
  have x5 := HX.out.cell 5
  have x7 := HX.out.cell 7
  have x8 := HX.out.cell 8
  have x9 := HX.out.cell 9
  have x12 := HX.out.cell 12
  have x13 := HX.out.cell 13
  have x16 := HX.out.cell 16
  have xl := HX.out.lt
  have h7 : x.shut.length = 4 := HFM.out.shut
  obtain ⟨g7, off7, rfl, hg7, c0', -⟩ := ints_at O7.out (show 0 < x.shut.length by omega)
  have hgl := l7 g7 hg7
  have next7 : ∀ i, i < 4 → w1.cell? ⟨g7, off7 + i, none⟩ = some (.int .i64 (x.sh i)) := fun i h4 => by
    have h : i < x.shut.length := by omega
    obtain ⟨g, off, e, -, hc, -⟩ := ints_at O7.out h
    injection e with e
    injection e with e1 e2 _
    subst e1 e2
    unfold CrewWorld.sh
    rw [List.getElem?_eq_getElem h]
    exact hc
  have q0 := next7 0 (by omega)
  have q1 := next7 1 (by omega)
  have q2 := next7 2 (by omega)
  have q3 := next7 3 (by omega)
  simp only [Nat.add_zero] at q0
  have hl0 : (0 : Int) < (x.shut.length : Int) := by omega
  have hl1 : (1 : Int) < (x.shut.length : Int) := by omega
  have hl2 : (2 : Int) < (x.shut.length : Int) := by omega
  have hl3 : (3 : Int) < (x.shut.length : Int) := by omega
  clear next7 c0' h7
  have HNO := hide (fun (h : ¬ (x.Ends ∧ x.Kept)) => show false = tb (x.Ends ∧ x.Kept) from (tb_false h).symm)
  have hb0 := bit_eq (b := x.reader) (c := 3) (sh_bit HFM.out 0 (by omega))
  have hb1 := bit_eq (b := x.closer) (c := 1) (sh_bit HFM.out 1 (by omega))
  have hb2 := bit_eq (b := x.keeper) (c := 5) (sh_bit HFM.out 2 (by omega))
  have H0 := hide hb0
  have H1 := hide hb1
  have H2 := hide hb2
  clear hb0 hb1 hb2
  go_upto_region 2 with fail
  go_cut [4] from 10 to 18 (fun t4 wx => t4 = .bool (x.keeper == 4 || x.keeper == 5) ∧ w1 = wx)
  case first =>
    rcases hk : (x.keeper == 4) with _ | _
    all_goals
      have dk : decide (x.keeper = 4) = _ := hk
      go_wp2_with fail
      go_meet
      exact ⟨by rw [hk]; rfl, rfl⟩
  obtain ⟨rfl, rfl⟩ := hcut
  go_upto_region 3 with fail
  by_cases h : x.sh 0 = bitP (x.reader = 3)
  rotate_left
  · have e0 : ((x.sh 0 == 1) == (x.reader == 3)) = false := by rw [H0.out, tb_false h]
    have HZ := hide (HNO.out (fun hp => h hp.1.queue))
    clear h
    go_quiet (fail)
    go_wp2
    go_ret
    exact ⟨ret_bool HZ.out, below_drewN HB.out _⟩
  have e0 : ((x.sh 0 == 1) == (x.reader == 3)) = true := by rw [H0.out, tb_true h]
  have HE0 := hide h
  clear h
  go_cut [18] from 19 to 28 (fun t wx => t = .bool false ∧ Below w1.heap.size w1 wx)
  case first =>
    go_quiet (fail)
    go_wp2_with fail
    go_meet
    exact ⟨rfl, below_drewN (Below.refl _ _) _⟩
  obtain ⟨rfl, hb2⟩ := hcut
  have HX' := hide (HX.out.below hb2 HX.out.lt)
  have HB' := hide (HB.out.trans (hb2.mono HB.out.size))
  have q0' := (hb2.cell (p := ⟨g7, off7, none⟩) hgl).trans q0
  have q1' := (hb2.cell (p := ⟨g7, off7 + 1, none⟩) hgl).trans q1
  have q2' := (hb2.cell (p := ⟨g7, off7 + 2, none⟩) hgl).trans q2
  have q3' := (hb2.cell (p := ⟨g7, off7 + 3, none⟩) hgl).trans q3
  have hgl' := Nat.lt_of_lt_of_le hgl hb2.size
  have HOW' := hide (HOW.out.below hb2 HFW.out)
  have HFW' := hide (HFW.out.up hb2)
  obtain ⟨w2, rfl⟩ : ∃ W, W = wc := ⟨_, rfl⟩
  clear e0 hb2 HX HB q0 q1 q2 q3 hgl HOW HFW O7 l7 x0 x3 x4 x5 x7 x8 x9 x12 x13 x16 xl
  have HX := HX'
  have HB := HB'
  have q0 := q0'
  have q1 := q1'
  have q2 := q2'
  have q3 := q3'
  have hgl := hgl'
  have HOW := HOW'
  have HFW := HFW'
  clear HX' HB' q0' q1' q2' q3' hgl' HOW' HFW'
  have x0 := HX.out.cell 0
  have x3 := HX.out.cell 3
  have x4 := HX.out.cell 4
  have x5 := HX.out.cell 5
  have x7 := HX.out.cell 7
  have x8 := HX.out.cell 8
  have x9 := HX.out.cell 9
  have x12 := HX.out.cell 12
  have x13 := HX.out.cell 13
  have x16 := HX.out.cell 16
  have xl := HX.out.lt
  go_wp2_with fail
  by_cases h : x.sh 1 = bitP (x.closer = 1)
  rotate_left
  · have e0 : ((x.sh 1 == 1) == (x.closer == 1)) = false := by rw [H1.out, tb_false h]
    have HZ := hide (HNO.out (fun hp => h hp.1.results))
    clear h
    go_quiet (fail)
    go_wp2
    go_ret
    exact ⟨ret_bool HZ.out, below_drewN HB.out _⟩
  have e0 : ((x.sh 1 == 1) == (x.closer == 1)) = true := by rw [H1.out, tb_true h]
  have HE1 := hide h
  clear h
  go_cut [18] from 28 to 37 (fun t wx => t = .bool false ∧ Below w2.heap.size w2 wx)
  case first =>
    go_quiet (fail)
    go_wp2_with fail
    go_meet
    exact ⟨rfl, below_drewN (Below.refl _ _) _⟩
  obtain ⟨rfl, hb2⟩ := hcut
  have HX' := hide (HX.out.below hb2 HX.out.lt)
  have HB' := hide (HB.out.trans (hb2.mono HB.out.size))
  have q0' := (hb2.cell (p := ⟨g7, off7, none⟩) hgl).trans q0
  have q1' := (hb2.cell (p := ⟨g7, off7 + 1, none⟩) hgl).trans q1
  have q2' := (hb2.cell (p := ⟨g7, off7 + 2, none⟩) hgl).trans q2
  have q3' := (hb2.cell (p := ⟨g7, off7 + 3, none⟩) hgl).trans q3
  have hgl' := Nat.lt_of_lt_of_le hgl hb2.size
  have HOW' := hide (HOW.out.below hb2 HFW.out)
  have HFW' := hide (HFW.out.up hb2)
  obtain ⟨w3, rfl⟩ : ∃ W, W = wc := ⟨_, rfl⟩
  clear e0 hb2 HX HB q0 q1 q2 q3 hgl HOW HFW x0 x3 x4 x5 x7 x8 x9 x12 x13 x16 xl
  have HX := HX'
  have HB := HB'
  have q0 := q0'
  have q1 := q1'
  have q2 := q2'
  have q3 := q3'
  have hgl := hgl'
  have HOW := HOW'
  have HFW := HFW'
  clear HX' HB' q0' q1' q2' q3' hgl' HOW' HFW'
  have x0 := HX.out.cell 0
  have x3 := HX.out.cell 3
  have x4 := HX.out.cell 4
  have x5 := HX.out.cell 5
  have x7 := HX.out.cell 7
  have x8 := HX.out.cell 8
  have x9 := HX.out.cell 9
  have x12 := HX.out.cell 12
  have x13 := HX.out.cell 13
  have x16 := HX.out.cell 16
  have xl := HX.out.lt
  go_wp2_with fail
  by_cases h : x.sh 2 = bitP (x.keeper = 5)
  rotate_left
  · have e0 : ((x.sh 2 == 1) == (x.keeper == 5)) = false := by rw [H2.out, tb_false h]
    have HZ := hide (HNO.out (fun hp => h hp.1.outs))
    clear h
    go_quiet (fail)
    go_wp2
    go_ret
    exact ⟨ret_bool HZ.out, below_drewN HB.out _⟩
  have e0 : ((x.sh 2 == 1) == (x.keeper == 5)) = true := by rw [H2.out, tb_true h]
  have HE2 := hide h
  clear h
  go_cut [18] from 37 to 46 (fun t wx => t = .bool false ∧ Below w3.heap.size w3 wx)
  case first =>
    go_quiet (fail)
    go_wp2_with fail
    go_meet
    exact ⟨rfl, below_drewN (Below.refl _ _) _⟩
  obtain ⟨rfl, hb2⟩ := hcut
  have HX' := hide (HX.out.below hb2 HX.out.lt)
  have HB' := hide (HB.out.trans (hb2.mono HB.out.size))
  have q0' := (hb2.cell (p := ⟨g7, off7, none⟩) hgl).trans q0
  have q1' := (hb2.cell (p := ⟨g7, off7 + 1, none⟩) hgl).trans q1
  have q2' := (hb2.cell (p := ⟨g7, off7 + 2, none⟩) hgl).trans q2
  have q3' := (hb2.cell (p := ⟨g7, off7 + 3, none⟩) hgl).trans q3
  have hgl' := Nat.lt_of_lt_of_le hgl hb2.size
  have HOW' := hide (HOW.out.below hb2 HFW.out)
  have HFW' := hide (HFW.out.up hb2)
  obtain ⟨w4, rfl⟩ : ∃ W, W = wc := ⟨_, rfl⟩
  clear e0 hb2 HX HB q0 q1 q2 q3 hgl HOW HFW x0 x3 x4 x5 x7 x8 x9 x12 x13 x16 xl
  have HX := HX'
  have HB := HB'
  have q0 := q0'
  have q1 := q1'
  have q2 := q2'
  have q3 := q3'
  have hgl := hgl'
  have HOW := HOW'
  have HFW := HFW'
  clear HX' HB' q0' q1' q2' q3' hgl' HOW' HFW'
  have x0 := HX.out.cell 0
  have x3 := HX.out.cell 3
  have x4 := HX.out.cell 4
  have x5 := HX.out.cell 5
  have x7 := HX.out.cell 7
  have x8 := HX.out.cell 8
  have x9 := HX.out.cell 9
  have x12 := HX.out.cell 12
  have x13 := HX.out.cell 13
  have x16 := HX.out.cell 16
  have xl := HX.out.lt
  go_upto_region 7 with fail
  clear q0 q1 q2 q3 hgl
  clear x0 x3 x4 x5 x7 x8 x9 x12 x13 x16 xl
  have x0 := HX.out.cell 0
  have x3 := HX.out.cell 3
  have x4 := HX.out.cell 4
  have x5 := HX.out.cell 5
  have x7 := HX.out.cell 7
  have x8 := HX.out.cell 8
  have x9 := HX.out.cell 9
  have x12 := HX.out.cell 12
  have x13 := HX.out.cell 13
  have xl := HX.out.lt
  have hst := HST0.out
  have b3 : (x.sh 3 == 1) = false := beqf hst
  rw [b3]
  have HST := hide hst
  clear hst b3
  go_upto_region 9 with fail

  by_cases hv : 2 ≤ x.reader ∧ ¬ (x.next = x.jobs)
  · have HZ := hide (HNO.out (fun hp => hv.2 (hp.1.read HST.out hv.1)))
    have r1 := dec_true hv.1
    have r2 := bnet hv.2
    have r3 := beqf hv.2
    clear hv
    go_wp2_with fail
    go_ret
    exact ⟨ret_bool HZ.out, HB.out⟩
  go_cut [53] from 54 to 68 (fun t wx => t = .bool false ∧ w4 = wx)
  case first =>
    by_cases hd0 : 2 ≤ x.reader
    · have hn : x.next = x.jobs := Classical.byContradiction (fun h => hv ⟨hd0, h⟩)
      have r1 := dec_true hd0
      have r2 := bnef hn
      have r3 := beqt hn
      clear hn hd0
      clear hv
      go_wp2_with fail
      go_meet
      exact ⟨rfl, rfl⟩
    have r1 := dec_false hd0
    clear hd0
    clear hv
    go_wp2_with fail
    go_meet
    exact ⟨rfl, rfl⟩
  have HV9 := hide hv
  clear hv
  obtain ⟨rfl, rfl⟩ := hcut
  go_upto_region 11 with fail
  have HANY := hide (l51Any_any x _ _ w4 HOW.out HFW.out)
  by_cases hv : x.oneDone ∧ ¬ (x.reader = 3 ∧ x.queue.length = 0)
  · have HZ := hide (HNO.out (fun hp => hv.2 (hp.1.work HST.out hv.1)))
    by_cases hc0 : ¬ (x.reader = 3)
    · have ta := tb_true hv.1
      have r1 := bnet hc0
      have r2 := beqf hc0
      clear hc0
      clear hv
      iterate 10 go_step
      refine wpl_load_row_g rfl 30 _ rfl w.heap.size rfl 30 ([.int .i64 x.jobs, .int .i64 x.workers, .int .i64 x.window, .int .i64 x.next, .int .i64 x.reader, .slice A1 x.queue.length c1, .slice A2 x.hands.length c2, .int .i64 x.closer, .slice A3 x.results.length c3, .int .i64 x.keeper, .slice A4 x.ring.length c4, .int .i64 x.due, .slice A5 x.out.length c5, .int .i64 x.user, .slice A6 x.got.length c6, .int .i64 x.room, .slice (some ⟨g7, off7, none⟩) x.shut.length c7, .int .i64 x.ops] : List Value).toArray (0, 0) _ HX.out Try.underlying30 rfl info_crew ?_
      go_wp2_with (first | (go_at_call 113; refine HANY.out.mono ?_; rintro e wq ⟨rfl, hbq⟩; have y4 := (HX.out.below hbq HX.out.lt).cell 4; have y5 := (HX.out.below hbq HX.out.lt).cell 5; have yl := (HX.out.below hbq HX.out.lt).lt) | (go_at_call 62; refine HALL.out.mono ?_; rintro e wq ⟨rfl, hbq⟩) | (go_at_call 114; refine HDUE.out.mono ?_; rintro e wq ⟨rfl, hbq⟩) | fail)
      go_ret
      exact ⟨ret_bool HZ.out, HB.out.trans (hbq.mono HB.out.size)⟩
    have ta := tb_true hv.1
    have hr : x.reader = 3 := Classical.not_not.1 hc0
    have r1 := bnef hr
    have r2 := beqt hr
    have r3 := dec_true (show (0 : Int) < (x.queue.length : Int) by have := hv.2; omega)
    have r4 := dec_true (show 0 < x.queue.length by have := hv.2; omega)
    clear hr hc0
    clear hv
    iterate 10 go_step
    refine wpl_load_row_g rfl 30 _ rfl w.heap.size rfl 30 ([.int .i64 x.jobs, .int .i64 x.workers, .int .i64 x.window, .int .i64 x.next, .int .i64 x.reader, .slice A1 x.queue.length c1, .slice A2 x.hands.length c2, .int .i64 x.closer, .slice A3 x.results.length c3, .int .i64 x.keeper, .slice A4 x.ring.length c4, .int .i64 x.due, .slice A5 x.out.length c5, .int .i64 x.user, .slice A6 x.got.length c6, .int .i64 x.room, .slice (some ⟨g7, off7, none⟩) x.shut.length c7, .int .i64 x.ops] : List Value).toArray (0, 0) _ HX.out Try.underlying30 rfl info_crew ?_
    go_wp2_with (first | (go_at_call 113; refine HANY.out.mono ?_; rintro e wq ⟨rfl, hbq⟩; have y4 := (HX.out.below hbq HX.out.lt).cell 4; have y5 := (HX.out.below hbq HX.out.lt).cell 5; have yl := (HX.out.below hbq HX.out.lt).lt) | (go_at_call 62; refine HALL.out.mono ?_; rintro e wq ⟨rfl, hbq⟩) | (go_at_call 114; refine HDUE.out.mono ?_; rintro e wq ⟨rfl, hbq⟩) | fail)
    go_ret
    exact ⟨ret_bool HZ.out, HB.out.trans (hbq.mono HB.out.size)⟩
  go_cut [68] from 69 to 86 (fun t wx => t = .bool false ∧ Below w4.heap.size w4 wx)
  case first =>
    by_cases hd0 : x.oneDone
    · have h2 : x.reader = 3 ∧ x.queue.length = 0 := Classical.byContradiction (fun h => hv ⟨hd0, h⟩)
      have ta := tb_true hd0
      have r1 := bnef h2.1
      have r2 := beqt h2.1
      have r3 := dec_false (show ¬ (0 : Int) < (x.queue.length : Int) by omega)
      have r4 := dec_false (show ¬ 0 < x.queue.length by omega)
      clear h2 hd0
      clear hv
      iterate 10 go_step
      refine wpl_load_row_g rfl 30 _ rfl w.heap.size rfl 30 ([.int .i64 x.jobs, .int .i64 x.workers, .int .i64 x.window, .int .i64 x.next, .int .i64 x.reader, .slice A1 x.queue.length c1, .slice A2 x.hands.length c2, .int .i64 x.closer, .slice A3 x.results.length c3, .int .i64 x.keeper, .slice A4 x.ring.length c4, .int .i64 x.due, .slice A5 x.out.length c5, .int .i64 x.user, .slice A6 x.got.length c6, .int .i64 x.room, .slice (some ⟨g7, off7, none⟩) x.shut.length c7, .int .i64 x.ops] : List Value).toArray (0, 0) _ HX.out Try.underlying30 rfl info_crew ?_
      go_wp2_with (first | (go_at_call 113; refine HANY.out.mono ?_; rintro e wq ⟨rfl, hbq⟩; have y4 := (HX.out.below hbq HX.out.lt).cell 4; have y5 := (HX.out.below hbq HX.out.lt).cell 5; have yl := (HX.out.below hbq HX.out.lt).lt) | (go_at_call 62; refine HALL.out.mono ?_; rintro e wq ⟨rfl, hbq⟩) | (go_at_call 114; refine HDUE.out.mono ?_; rintro e wq ⟨rfl, hbq⟩) | fail)
      go_meet
      exact ⟨rfl, hbq⟩
    have ta := tb_false hd0
    clear hd0
    clear hv
    iterate 10 go_step
    refine wpl_load_row_g rfl 30 _ rfl w.heap.size rfl 30 ([.int .i64 x.jobs, .int .i64 x.workers, .int .i64 x.window, .int .i64 x.next, .int .i64 x.reader, .slice A1 x.queue.length c1, .slice A2 x.hands.length c2, .int .i64 x.closer, .slice A3 x.results.length c3, .int .i64 x.keeper, .slice A4 x.ring.length c4, .int .i64 x.due, .slice A5 x.out.length c5, .int .i64 x.user, .slice A6 x.got.length c6, .int .i64 x.room, .slice (some ⟨g7, off7, none⟩) x.shut.length c7, .int .i64 x.ops] : List Value).toArray (0, 0) _ HX.out Try.underlying30 rfl info_crew ?_
    go_wp2_with (first | (go_at_call 113; refine HANY.out.mono ?_; rintro e wq ⟨rfl, hbq⟩; have y4 := (HX.out.below hbq HX.out.lt).cell 4; have y5 := (HX.out.below hbq HX.out.lt).cell 5; have yl := (HX.out.below hbq HX.out.lt).lt) | (go_at_call 62; refine HALL.out.mono ?_; rintro e wq ⟨rfl, hbq⟩) | (go_at_call 114; refine HDUE.out.mono ?_; rintro e wq ⟨rfl, hbq⟩) | fail)
    go_meet
    exact ⟨rfl, hbq⟩
  have HV11 := hide hv
  clear hv
  obtain ⟨rfl, hb2⟩ := hcut
  have HX' := hide (HX.out.below hb2 HX.out.lt)
  have HB' := hide (HB.out.trans (hb2.mono HB.out.size))
  have HOW' := hide (HOW.out.below hb2 HFW.out)
  have HFW' := hide (HFW.out.up hb2)
  obtain ⟨w5, rfl⟩ : ∃ W, W = wc := ⟨_, rfl⟩
  clear hb2 HX HB HOW HFW HANY
  clear x0 x3 x4 x5 x7 x8 x9 x12 x13 xl
  have HX := HX'
  have HB := HB'
  have HOW := HOW'
  have HFW := HFW'
  clear HX' HB' HOW' HFW'
  have x0 := HX.out.cell 0
  have x3 := HX.out.cell 3
  have x4 := HX.out.cell 4
  have x5 := HX.out.cell 5
  have x7 := HX.out.cell 7
  have x8 := HX.out.cell 8
  have x9 := HX.out.cell 9
  have x12 := HX.out.cell 12
  have x13 := HX.out.cell 13
  have xl := HX.out.lt
  go_upto_region 13 with fail
  have HALL := hide (l51All_any x _ _ w5 HOW.out HFW.out)
  by_cases hv : x.closer = 1 ∧ ¬ x.allDone
  · have HZ := hide (HNO.out (fun hp => hv.2 (hp.1.closed hv.1)))
    have r1 := beqt hv.1
    have ta := tb_false hv.2
    clear hv
    iterate 13 go_step
    refine wpl_load_row_g rfl 30 _ rfl w.heap.size rfl 30 ([.int .i64 x.jobs, .int .i64 x.workers, .int .i64 x.window, .int .i64 x.next, .int .i64 x.reader, .slice A1 x.queue.length c1, .slice A2 x.hands.length c2, .int .i64 x.closer, .slice A3 x.results.length c3, .int .i64 x.keeper, .slice A4 x.ring.length c4, .int .i64 x.due, .slice A5 x.out.length c5, .int .i64 x.user, .slice A6 x.got.length c6, .int .i64 x.room, .slice (some ⟨g7, off7, none⟩) x.shut.length c7, .int .i64 x.ops] : List Value).toArray (0, 0) _ HX.out Try.underlying30 rfl info_crew ?_
    go_wp2_with (first | (go_at_call 113; refine HANY.out.mono ?_; rintro e wq ⟨rfl, hbq⟩; have y4 := (HX.out.below hbq HX.out.lt).cell 4; have y5 := (HX.out.below hbq HX.out.lt).cell 5; have yl := (HX.out.below hbq HX.out.lt).lt) | (go_at_call 62; refine HALL.out.mono ?_; rintro e wq ⟨rfl, hbq⟩) | (go_at_call 114; refine HDUE.out.mono ?_; rintro e wq ⟨rfl, hbq⟩) | fail)
    go_ret
    exact ⟨ret_bool HZ.out, HB.out.trans (hbq.mono HB.out.size)⟩
  go_cut [86] from 87 to 95 (fun t wx => t = .bool false ∧ Below w5.heap.size w5 wx)
  case first =>
    by_cases hd0 : x.closer = 1
    · have r1 := beqt hd0
      have ta := tb_true (Classical.byContradiction (fun h => hv ⟨hd0, h⟩))
      clear hd0
      clear hv
      iterate 13 go_step
      refine wpl_load_row_g rfl 30 _ rfl w.heap.size rfl 30 ([.int .i64 x.jobs, .int .i64 x.workers, .int .i64 x.window, .int .i64 x.next, .int .i64 x.reader, .slice A1 x.queue.length c1, .slice A2 x.hands.length c2, .int .i64 x.closer, .slice A3 x.results.length c3, .int .i64 x.keeper, .slice A4 x.ring.length c4, .int .i64 x.due, .slice A5 x.out.length c5, .int .i64 x.user, .slice A6 x.got.length c6, .int .i64 x.room, .slice (some ⟨g7, off7, none⟩) x.shut.length c7, .int .i64 x.ops] : List Value).toArray (0, 0) _ HX.out Try.underlying30 rfl info_crew ?_
      go_wp2_with (first | (go_at_call 113; refine HANY.out.mono ?_; rintro e wq ⟨rfl, hbq⟩; have y4 := (HX.out.below hbq HX.out.lt).cell 4; have y5 := (HX.out.below hbq HX.out.lt).cell 5; have yl := (HX.out.below hbq HX.out.lt).lt) | (go_at_call 62; refine HALL.out.mono ?_; rintro e wq ⟨rfl, hbq⟩) | (go_at_call 114; refine HDUE.out.mono ?_; rintro e wq ⟨rfl, hbq⟩) | fail)
      go_meet
      exact ⟨rfl, hbq⟩
    have r1 := beqf hd0
    clear hd0
    clear hv
    go_wp2_with (first | (go_at_call 113; refine HANY.out.mono ?_; rintro e wq ⟨rfl, hbq⟩; have y4 := (HX.out.below hbq HX.out.lt).cell 4; have y5 := (HX.out.below hbq HX.out.lt).cell 5; have yl := (HX.out.below hbq HX.out.lt).lt) | (go_at_call 62; refine HALL.out.mono ?_; rintro e wq ⟨rfl, hbq⟩) | (go_at_call 114; refine HDUE.out.mono ?_; rintro e wq ⟨rfl, hbq⟩) | fail)
    go_meet
    exact ⟨rfl, Below.refl _ _⟩
  have HV13 := hide hv
  clear hv
  obtain ⟨rfl, hb2⟩ := hcut
  have HX' := hide (HX.out.below hb2 HX.out.lt)
  have HB' := hide (HB.out.trans (hb2.mono HB.out.size))
  have HOW' := hide (HOW.out.below hb2 HFW.out)
  have HFW' := hide (HFW.out.up hb2)
  obtain ⟨w6, rfl⟩ : ∃ W, W = wc := ⟨_, rfl⟩
  clear hb2 HX HB HOW HFW HALL
  clear x0 x3 x4 x5 x7 x8 x9 x12 x13 xl
  have HX := HX'
  have HB := HB'
  have HOW := HOW'
  have HFW := HFW'
  clear HX' HB' HOW' HFW'
  have x0 := HX.out.cell 0
  have x3 := HX.out.cell 3
  have x4 := HX.out.cell 4
  have x5 := HX.out.cell 5
  have x7 := HX.out.cell 7
  have x8 := HX.out.cell 8
  have x9 := HX.out.cell 9
  have x12 := HX.out.cell 12
  have x13 := HX.out.cell 13
  have xl := HX.out.lt
  go_upto_region 15 with fail
  have hkd : (x.keeper == 4 || x.keeper == 5) = decide (4 ≤ x.keeper) := by
    have hk5 := HFM.out.keeper.2
    by_cases h4 : x.keeper = 4
    · simp [h4]
    · by_cases h5 : x.keeper = 5
      · simp [h5]
      · rw [beqf h4, beqf h5, dec_false (by omega)]; rfl
  rw [hkd]
  clear hkd
  have hk4 := HK40.out
  rw [dec_true hk4]
  have HK4 := hide hk4
  clear hk4

  by_cases hv : ¬ (x.closer = 1 ∧ x.results.length = 0)
  · have HZ := hide (HNO.out (fun hp => hv (hp.1.keep HST.out HK4.out)))
    by_cases hc0 : ¬ (x.closer = 1)
    · have r1 := bnet hc0
      have r2 := beqf hc0
      clear hc0
      clear hv
      go_wp2_with fail
      go_ret
      exact ⟨ret_bool HZ.out, HB.out⟩
    have hr : x.closer = 1 := Classical.not_not.1 hc0
    have r1 := bnef hr
    have r2 := beqt hr
    have r3 := dec_true (show (0 : Int) < (x.results.length : Int) by omega)
    have r4 := dec_true (show 0 < x.results.length by omega)
    clear hr hc0
    clear hv
    go_wp2_with fail
    go_ret
    exact ⟨ret_bool HZ.out, HB.out⟩
  go_cut [95] from 96 to 112 (fun t wx => t = .bool false ∧ w6 = wx)
  case first =>
    have h2 := Classical.not_not.1 hv
    have r1 := bnef h2.1
    have r2 := beqt h2.1
    have r3 := dec_false (show ¬ (0 : Int) < (x.results.length : Int) by omega)
    have r4 := dec_false (show ¬ 0 < x.results.length by omega)
    clear h2
    clear hv
    go_wp2_with fail
    go_meet
    exact ⟨rfl, rfl⟩
  have HV15 := hide hv
  clear hv
  obtain ⟨rfl, rfl⟩ := hcut
  go_upto_region 17 with fail

  by_cases hv : x.user = 1 ∧ ¬ (x.keeper = 5 ∧ x.out.length = 0)
  · have HZ := hide (HNO.out (fun hp => hv.2 (hp.1.use HST.out hv.1)))
    by_cases hc0 : ¬ (x.keeper = 5)
    · have ru := beqt hv.1
      have r1 := bnet hc0
      have r2 := beqf hc0
      clear hc0
      clear hv
      go_wp2_with fail
      go_ret
      exact ⟨ret_bool HZ.out, HB.out⟩
    have ru := beqt hv.1
    have hr : x.keeper = 5 := Classical.not_not.1 hc0
    have r1 := bnef hr
    have r2 := beqt hr
    have r3 := dec_true (show (0 : Int) < (x.out.length : Int) by have := hv.2; omega)
    have r4 := dec_true (show 0 < x.out.length by have := hv.2; omega)
    clear hr hc0
    clear hv
    go_wp2_with fail
    go_ret
    exact ⟨ret_bool HZ.out, HB.out⟩
  go_cut [112] from 113 to 131 (fun t wx => t = .bool false ∧ w6 = wx)
  case first =>
    by_cases hd0 : x.user = 1
    · have h2 : x.keeper = 5 ∧ x.out.length = 0 := Classical.byContradiction (fun h => hv ⟨hd0, h⟩)
      have ru := beqt hd0
      have r1 := bnef h2.1
      have r2 := beqt h2.1
      have r3 := dec_false (show ¬ (0 : Int) < (x.out.length : Int) by omega)
      have r4 := dec_false (show ¬ 0 < x.out.length by omega)
      clear h2 hd0
      clear hv
      go_wp2_with fail
      go_meet
      exact ⟨rfl, rfl⟩
    have ru := beqf hd0
    clear hd0
    clear hv
    go_wp2_with fail
    go_meet
    exact ⟨rfl, rfl⟩
  have HV17 := hide hv
  clear hv
  obtain ⟨rfl, rfl⟩ := hcut
  go_upto_region 19 with fail
  have HEN := hide (show x.Ends from ⟨HE0.out, HE1.out, HE2.out, fun h => Classical.byContradiction (fun h2 => HV13.out ⟨h, h2⟩), fun h => absurd h HST.out, fun _ h => Classical.byContradiction (fun h2 => HV9.out ⟨h, h2⟩), fun _ h => Classical.byContradiction (fun h2 => HV11.out ⟨h, h2⟩), fun _ _ => Classical.not_not.1 HV15.out, fun _ h => Classical.byContradiction (fun h2 => HV17.out ⟨h, h2⟩)⟩)
  have HDUE := hide (l51Due_any x _ _ w6 HOW.out HFW.out HFM.out)
  have hdu : True := True.intro
  by_cases hk0 : x.keeper = 0
  · have hk2 : ¬ x.keeper = 2 := by omega
    by_cases hdue : x.dueIn
    · have r1 := beqt hk0
      have HZ := hide (show false = tb (x.Ends ∧ x.Kept) from (tb_false (fun hp => hp.2.1 hk0 hdue)).symm)
      have td : tb x.dueIn = true := tb_true hdue
      clear hk0 hk2 hdu hdue
      go_wp2_with (first | (refine wpl_move_load_row rfl _ _ rfl rfl rfl 30 _ rfl w.heap.size rfl 30 ([.int .i64 x.jobs, .int .i64 x.workers, .int .i64 x.window, .int .i64 x.next, .int .i64 x.reader, .slice A1 x.queue.length c1, .slice A2 x.hands.length c2, .int .i64 x.closer, .slice A3 x.results.length c3, .int .i64 x.keeper, .slice A4 x.ring.length c4, .int .i64 x.due, .slice A5 x.out.length c5, .int .i64 x.user, .slice A6 x.got.length c6, .int .i64 x.room, .slice (some ⟨g7, off7, none⟩) x.shut.length c7, .int .i64 x.ops] : List Value).toArray (0, 0) _ HX.out Try.underlying30 rfl info_crew ?_) | (refine wpl_load_row_g rfl 30 _ rfl w.heap.size rfl 30 ([.int .i64 x.jobs, .int .i64 x.workers, .int .i64 x.window, .int .i64 x.next, .int .i64 x.reader, .slice A1 x.queue.length c1, .slice A2 x.hands.length c2, .int .i64 x.closer, .slice A3 x.results.length c3, .int .i64 x.keeper, .slice A4 x.ring.length c4, .int .i64 x.due, .slice A5 x.out.length c5, .int .i64 x.user, .slice A6 x.got.length c6, .int .i64 x.room, .slice (some ⟨g7, off7, none⟩) x.shut.length c7, .int .i64 x.ops] : List Value).toArray (0, 0) _ HX.out Try.underlying30 rfl info_crew ?_) | (go_at_call 113; refine HANY.out.mono ?_; rintro e wq ⟨rfl, hbq⟩; have y4 := (HX.out.below hbq HX.out.lt).cell 4; have y5 := (HX.out.below hbq HX.out.lt).cell 5; have yl := (HX.out.below hbq HX.out.lt).lt) | (go_at_call 62; refine HALL.out.mono ?_; rintro e wq ⟨rfl, hbq⟩) | (go_at_call 114; refine HDUE.out.mono ?_; rintro e wq ⟨rfl, hbq⟩) | fail)
      go_ret
      exact ⟨ret_bool HZ.out, HB.out.trans (hbq.mono HB.out.size)⟩
    · have r1 := beqt hk0
      have HZ := hide (show true = tb (x.Ends ∧ x.Kept) from (tb_true ⟨HEN.out, ⟨fun h => hdue, fun h => absurd h hk2⟩⟩).symm)
      have td : tb x.dueIn = false := tb_false hdue
      clear hk0 hk2 hdu hdue
      go_wp2_with (first | (refine wpl_move_load_row rfl _ _ rfl rfl rfl 30 _ rfl w.heap.size rfl 30 ([.int .i64 x.jobs, .int .i64 x.workers, .int .i64 x.window, .int .i64 x.next, .int .i64 x.reader, .slice A1 x.queue.length c1, .slice A2 x.hands.length c2, .int .i64 x.closer, .slice A3 x.results.length c3, .int .i64 x.keeper, .slice A4 x.ring.length c4, .int .i64 x.due, .slice A5 x.out.length c5, .int .i64 x.user, .slice A6 x.got.length c6, .int .i64 x.room, .slice (some ⟨g7, off7, none⟩) x.shut.length c7, .int .i64 x.ops] : List Value).toArray (0, 0) _ HX.out Try.underlying30 rfl info_crew ?_) | (refine wpl_load_row_g rfl 30 _ rfl w.heap.size rfl 30 ([.int .i64 x.jobs, .int .i64 x.workers, .int .i64 x.window, .int .i64 x.next, .int .i64 x.reader, .slice A1 x.queue.length c1, .slice A2 x.hands.length c2, .int .i64 x.closer, .slice A3 x.results.length c3, .int .i64 x.keeper, .slice A4 x.ring.length c4, .int .i64 x.due, .slice A5 x.out.length c5, .int .i64 x.user, .slice A6 x.got.length c6, .int .i64 x.room, .slice (some ⟨g7, off7, none⟩) x.shut.length c7, .int .i64 x.ops] : List Value).toArray (0, 0) _ HX.out Try.underlying30 rfl info_crew ?_) | (go_at_call 113; refine HANY.out.mono ?_; rintro e wq ⟨rfl, hbq⟩; have y4 := (HX.out.below hbq HX.out.lt).cell 4; have y5 := (HX.out.below hbq HX.out.lt).cell 5; have yl := (HX.out.below hbq HX.out.lt).lt) | (go_at_call 62; refine HALL.out.mono ?_; rintro e wq ⟨rfl, hbq⟩) | (go_at_call 114; refine HDUE.out.mono ?_; rintro e wq ⟨rfl, hbq⟩) | fail)
      go_ret
      exact ⟨ret_bool HZ.out, HB.out.trans (hbq.mono HB.out.size)⟩
  have r1 := beqf hk0
  by_cases hk2 : x.keeper = 2
  · by_cases hdue : x.dueIn
    · have r2 := bnef hk2
      have r3 := beqt hk2
      have HZ := hide (show true = tb (x.Ends ∧ x.Kept) from (tb_true ⟨HEN.out, ⟨fun h => absurd h hk0, fun h => hdue⟩⟩).symm)
      have td : tb x.dueIn = true := tb_true hdue
      clear hk0 hk2 hdu hdue
      go_upto_region 21 with fail
      iterate 13 go_step
      refine wpl_load_row_g rfl 30 _ rfl w.heap.size rfl 30 ([.int .i64 x.jobs, .int .i64 x.workers, .int .i64 x.window, .int .i64 x.next, .int .i64 x.reader, .slice A1 x.queue.length c1, .slice A2 x.hands.length c2, .int .i64 x.closer, .slice A3 x.results.length c3, .int .i64 x.keeper, .slice A4 x.ring.length c4, .int .i64 x.due, .slice A5 x.out.length c5, .int .i64 x.user, .slice A6 x.got.length c6, .int .i64 x.room, .slice (some ⟨g7, off7, none⟩) x.shut.length c7, .int .i64 x.ops] : List Value).toArray (0, 0) _ HX.out Try.underlying30 rfl info_crew ?_
      go_wp2_with (first | (go_at_call 113; refine HANY.out.mono ?_; rintro e wq ⟨rfl, hbq⟩; have y4 := (HX.out.below hbq HX.out.lt).cell 4; have y5 := (HX.out.below hbq HX.out.lt).cell 5; have yl := (HX.out.below hbq HX.out.lt).lt) | (go_at_call 62; refine HALL.out.mono ?_; rintro e wq ⟨rfl, hbq⟩) | (go_at_call 114; refine HDUE.out.mono ?_; rintro e wq ⟨rfl, hbq⟩) | fail)
      go_ret
      exact ⟨ret_bool HZ.out, HB.out.trans (hbq.mono HB.out.size)⟩
    · have r2 := bnef hk2
      have r3 := beqt hk2
      have HZ := hide (show false = tb (x.Ends ∧ x.Kept) from (tb_false (fun hp => hdue (hp.2.2 hk2))).symm)
      have td : tb x.dueIn = false := tb_false hdue
      clear hk0 hk2 hdu hdue
      go_upto_region 21 with fail
      iterate 13 go_step
      refine wpl_load_row_g rfl 30 _ rfl w.heap.size rfl 30 ([.int .i64 x.jobs, .int .i64 x.workers, .int .i64 x.window, .int .i64 x.next, .int .i64 x.reader, .slice A1 x.queue.length c1, .slice A2 x.hands.length c2, .int .i64 x.closer, .slice A3 x.results.length c3, .int .i64 x.keeper, .slice A4 x.ring.length c4, .int .i64 x.due, .slice A5 x.out.length c5, .int .i64 x.user, .slice A6 x.got.length c6, .int .i64 x.room, .slice (some ⟨g7, off7, none⟩) x.shut.length c7, .int .i64 x.ops] : List Value).toArray (0, 0) _ HX.out Try.underlying30 rfl info_crew ?_
      go_wp2_with (first | (go_at_call 113; refine HANY.out.mono ?_; rintro e wq ⟨rfl, hbq⟩; have y4 := (HX.out.below hbq HX.out.lt).cell 4; have y5 := (HX.out.below hbq HX.out.lt).cell 5; have yl := (HX.out.below hbq HX.out.lt).lt) | (go_at_call 62; refine HALL.out.mono ?_; rintro e wq ⟨rfl, hbq⟩) | (go_at_call 114; refine HDUE.out.mono ?_; rintro e wq ⟨rfl, hbq⟩) | fail)
      go_ret
      exact ⟨ret_bool HZ.out, HB.out.trans (hbq.mono HB.out.size)⟩
  have r2 := bnet hk2
  have r3 := beqf hk2
  have HZ := hide (show true = tb (x.Ends ∧ x.Kept) from (tb_true ⟨HEN.out, ⟨fun h => absurd h hk0, fun h => absurd h hk2⟩⟩).symm)
  clear hk0 hk2 hdu 
  go_wp2_with (first | (refine wpl_move_load_row rfl _ _ rfl rfl rfl 30 _ rfl w.heap.size rfl 30 ([.int .i64 x.jobs, .int .i64 x.workers, .int .i64 x.window, .int .i64 x.next, .int .i64 x.reader, .slice A1 x.queue.length c1, .slice A2 x.hands.length c2, .int .i64 x.closer, .slice A3 x.results.length c3, .int .i64 x.keeper, .slice A4 x.ring.length c4, .int .i64 x.due, .slice A5 x.out.length c5, .int .i64 x.user, .slice A6 x.got.length c6, .int .i64 x.room, .slice (some ⟨g7, off7, none⟩) x.shut.length c7, .int .i64 x.ops] : List Value).toArray (0, 0) _ HX.out Try.underlying30 rfl info_crew ?_) | (refine wpl_load_row_g rfl 30 _ rfl w.heap.size rfl 30 ([.int .i64 x.jobs, .int .i64 x.workers, .int .i64 x.window, .int .i64 x.next, .int .i64 x.reader, .slice A1 x.queue.length c1, .slice A2 x.hands.length c2, .int .i64 x.closer, .slice A3 x.results.length c3, .int .i64 x.keeper, .slice A4 x.ring.length c4, .int .i64 x.due, .slice A5 x.out.length c5, .int .i64 x.user, .slice A6 x.got.length c6, .int .i64 x.room, .slice (some ⟨g7, off7, none⟩) x.shut.length c7, .int .i64 x.ops] : List Value).toArray (0, 0) _ HX.out Try.underlying30 rfl info_crew ?_) | (go_at_call 113; refine HANY.out.mono ?_; rintro e wq ⟨rfl, hbq⟩; have y4 := (HX.out.below hbq HX.out.lt).cell 4; have y5 := (HX.out.below hbq HX.out.lt).cell 5; have yl := (HX.out.below hbq HX.out.lt).lt) | (go_at_call 62; refine HALL.out.mono ?_; rintro e wq ⟨rfl, hbq⟩) | (go_at_call 114; refine HDUE.out.mono ?_; rintro e wq ⟨rfl, hbq⟩) | fail)
  go_ret
  exact ⟨ret_bool HZ.out, HB.out⟩
end Go.Proofs.Ytpkjjfnfolbcoaa
set_option linter.unusedVariables false
set_option linter.unusedSimpArgs false
namespace Go.Proofs.Ytpkjjfnfolbcoaa
open Go.ChangeShapes Go.WideShapes Go.ChangeAt Go.RowKit

set_option maxRecDepth 100000 in
set_option maxHeartbeats 8000000 in
theorem l51EndsC_any (x : CrewWorld) (us : List Value) (fp : List Nat) (w : World) (ho : OwC w x.cells us fp) (hf : Lt fp w.heap.size) (hfm : x.Form) (hst : ¬ (x.sh 3 = 1)) (hk4 : ¬ (4 ≤ x.keeper)) :
    Calls Try.prog 57 #[.agg us.toArray] w fun e w' => e = .returned (.bool (tb (x.Ends ∧ x.Kept))) ∧ Below w.heap.size w w' := by
  have HFM := hide hfm
  clear hfm
  have HST0 := hide hst
  have HK40 := hide hk4
  clear hst hk4
  have HO := hide ho
  have HF := hide hf
  obtain ⟨A1, c1, A2, c2, A3, c3, A4, c4, A5, c5, A6, c6, A7, c7, f1, f2, f3, f4, f5, f6, f7, rfl, wjobs, wworkers, wwindow, wnext, wreader, o1, o2, wcloser, o3, wkeeper, o4, wdue, o5, wuser, o6, wroom, o7, wops, rfl⟩ := ho.oCrewWorld
  clear ho
  go_enter Try.func57, Try.ntmps57
  go_upto_region 1 with fail
  generalize hw1 : w.alloc _ = w1
  have hb0 : Below w.heap.size w w1 := by rw [← hw1]; exact (Below.refl _ _).alloc (Nat.le_refl _) _
  have HX := hide (show Row w1 w.heap.size 30 [.int .i64 x.jobs, .int .i64 x.workers, .int .i64 x.window, .int .i64 x.next, .int .i64 x.reader, .slice A1 x.queue.length c1, .slice A2 x.hands.length c2, .int .i64 x.closer, .slice A3 x.results.length c3, .int .i64 x.keeper, .slice A4 x.ring.length c4, .int .i64 x.due, .slice A5 x.out.length c5, .int .i64 x.user, .slice A6 x.got.length c6, .int .i64 x.room, .slice A7 x.shut.length c7, .int .i64 x.ops] from by rw [← hw1]; exact Row.new w _ _)
  have HB := hide hb0
  have HOW := hide (HO.out.below hb0 hf)
  have HFW := hide (hf.up hb0)
  have O7 := hide (o7.below hb0 hf.right.right.right.right.right.right)
  have l7 := hf.right.right.right.right.right.right.up hb0
  obtain ⟨-, n7, m7⟩ := o7.nlen
  unfold maxLen at m7
  clear hw1 hb0 HO o1 o2 o3 o4 o5 o6 o7
  have x0 := HX.out.cell 0
  have x3 := HX.out.cell 3
  have x4 := HX.out.cell 4
  have x5 := HX.out.cell 5
  have x7 := HX.out.cell 7
  have x8 := HX.out.cell 8
  have x9 := HX.out.cell 9
  have x12 := HX.out.cell 12
  have x13 := HX.out.cell 13
  have x16 := HX.out.cell 16
  have xl := HX.out.lt
  have h7 : x.shut.length = 4 := HFM.out.shut
  obtain ⟨g7, off7, rfl, hg7, c0', -⟩ := ints_at O7.out (show 0 < x.shut.length by omega)
  have hgl := l7 g7 hg7
  have next7 : ∀ i, i < 4 → w1.cell? ⟨g7, off7 + i, none⟩ = some (.int .i64 (x.sh i)) := fun i h4 => by
    have h : i < x.shut.length := by omega
    obtain ⟨g, off, e, -, hc, -⟩ := ints_at O7.out h
    injection e with e
    injection e with e1 e2 _
    subst e1 e2
    unfold CrewWorld.sh
    rw [List.getElem?_eq_getElem h]
    exact hc
  have q0 := next7 0 (by omega)
  have q1 := next7 1 (by omega)
  have q2 := next7 2 (by omega)
  have q3 := next7 3 (by omega)
  simp only [Nat.add_zero] at q0
  have hl0 : (0 : Int) < (x.shut.length : Int) := by omega
  have hl1 : (1 : Int) < (x.shut.length : Int) := by omega
  have hl2 : (2 : Int) < (x.shut.length : Int) := by omega
  have hl3 : (3 : Int) < (x.shut.length : Int) := by omega
  clear next7 c0' h7
  have HNO := hide (fun (h : ¬ (x.Ends ∧ x.Kept)) => show false = tb (x.Ends ∧ x.Kept) from (tb_false h).symm)
  have hb0 := bit_eq (b := x.reader) (c := 3) (sh_bit HFM.out 0 (by omega))
  have hb1 := bit_eq (b := x.closer) (c := 1) (sh_bit HFM.out 1 (by omega))
  have hb2 := bit_eq (b := x.keeper) (c := 5) (sh_bit HFM.out 2 (by omega))
  have H0 := hide hb0
  have H1 := hide hb1
  have H2 := hide hb2
  clear hb0 hb1 hb2
  go_upto_region 2 with fail
  go_cut [4] from 10 to 18 (fun t4 wx => t4 = .bool (x.keeper == 4 || x.keeper == 5) ∧ w1 = wx)
  case first =>
    rcases hk : (x.keeper == 4) with _ | _
    all_goals
      have dk : decide (x.keeper = 4) = _ := hk
      go_wp2_with fail
      go_meet
      exact ⟨by rw [hk]; rfl, rfl⟩
  obtain ⟨rfl, rfl⟩ := hcut
  go_upto_region 3 with fail
  by_cases h : x.sh 0 = bitP (x.reader = 3)
  rotate_left
  · have e0 : ((x.sh 0 == 1) == (x.reader == 3)) = false := by rw [H0.out, tb_false h]
    have HZ := hide (HNO.out (fun hp => h hp.1.queue))
    clear h
    go_quiet (fail)
    go_wp2
    go_ret
    exact ⟨ret_bool HZ.out, below_drewN HB.out _⟩
  have e0 : ((x.sh 0 == 1) == (x.reader == 3)) = true := by rw [H0.out, tb_true h]
  have HE0 := hide h
  clear h
  go_cut [18] from 19 to 28 (fun t wx => t = .bool false ∧ Below w1.heap.size w1 wx)
  case first =>
    go_quiet (fail)
    go_wp2_with fail
    go_meet
    exact ⟨rfl, below_drewN (Below.refl _ _) _⟩
  obtain ⟨rfl, hb2⟩ := hcut
  have HX' := hide (HX.out.below hb2 HX.out.lt)
  have HB' := hide (HB.out.trans (hb2.mono HB.out.size))
  have q0' := (hb2.cell (p := ⟨g7, off7, none⟩) hgl).trans q0
  have q1' := (hb2.cell (p := ⟨g7, off7 + 1, none⟩) hgl).trans q1
  have q2' := (hb2.cell (p := ⟨g7, off7 + 2, none⟩) hgl).trans q2
  have q3' := (hb2.cell (p := ⟨g7, off7 + 3, none⟩) hgl).trans q3
  have hgl' := Nat.lt_of_lt_of_le hgl hb2.size
  have HOW' := hide (HOW.out.below hb2 HFW.out)
  have HFW' := hide (HFW.out.up hb2)
  obtain ⟨w2, rfl⟩ : ∃ W, W = wc := ⟨_, rfl⟩
  clear e0 hb2 HX HB q0 q1 q2 q3 hgl HOW HFW O7 l7 x0 x3 x4 x5 x7 x8 x9 x12 x13 x16 xl
  have HX := HX'
  have HB := HB'
  have q0 := q0'
  have q1 := q1'
  have q2 := q2'
  have q3 := q3'
  have hgl := hgl'
  have HOW := HOW'
  have HFW := HFW'
  clear HX' HB' q0' q1' q2' q3' hgl' HOW' HFW'
  have x0 := HX.out.cell 0
  have x3 := HX.out.cell 3
  have x4 := HX.out.cell 4
  have x5 := HX.out.cell 5
  have x7 := HX.out.cell 7
  have x8 := HX.out.cell 8
  have x9 := HX.out.cell 9
  have x12 := HX.out.cell 12
  have x13 := HX.out.cell 13
  have x16 := HX.out.cell 16
  have xl := HX.out.lt
  go_wp2_with fail
  by_cases h : x.sh 1 = bitP (x.closer = 1)
  rotate_left
  · have e0 : ((x.sh 1 == 1) == (x.closer == 1)) = false := by rw [H1.out, tb_false h]
    have HZ := hide (HNO.out (fun hp => h hp.1.results))
    clear h
    go_quiet (fail)
    go_wp2
    go_ret
    exact ⟨ret_bool HZ.out, below_drewN HB.out _⟩
  have e0 : ((x.sh 1 == 1) == (x.closer == 1)) = true := by rw [H1.out, tb_true h]
  have HE1 := hide h
  clear h
  go_cut [18] from 28 to 37 (fun t wx => t = .bool false ∧ Below w2.heap.size w2 wx)
  case first =>
    go_quiet (fail)
    go_wp2_with fail
    go_meet
    exact ⟨rfl, below_drewN (Below.refl _ _) _⟩
  obtain ⟨rfl, hb2⟩ := hcut
  have HX' := hide (HX.out.below hb2 HX.out.lt)
  have HB' := hide (HB.out.trans (hb2.mono HB.out.size))
  have q0' := (hb2.cell (p := ⟨g7, off7, none⟩) hgl).trans q0
  have q1' := (hb2.cell (p := ⟨g7, off7 + 1, none⟩) hgl).trans q1
  have q2' := (hb2.cell (p := ⟨g7, off7 + 2, none⟩) hgl).trans q2
  have q3' := (hb2.cell (p := ⟨g7, off7 + 3, none⟩) hgl).trans q3
  have hgl' := Nat.lt_of_lt_of_le hgl hb2.size
  have HOW' := hide (HOW.out.below hb2 HFW.out)
  have HFW' := hide (HFW.out.up hb2)
  obtain ⟨w3, rfl⟩ : ∃ W, W = wc := ⟨_, rfl⟩
  clear e0 hb2 HX HB q0 q1 q2 q3 hgl HOW HFW x0 x3 x4 x5 x7 x8 x9 x12 x13 x16 xl
  have HX := HX'
  have HB := HB'
  have q0 := q0'
  have q1 := q1'
  have q2 := q2'
  have q3 := q3'
  have hgl := hgl'
  have HOW := HOW'
  have HFW := HFW'
  clear HX' HB' q0' q1' q2' q3' hgl' HOW' HFW'
  have x0 := HX.out.cell 0
  have x3 := HX.out.cell 3
  have x4 := HX.out.cell 4
  have x5 := HX.out.cell 5
  have x7 := HX.out.cell 7
  have x8 := HX.out.cell 8
  have x9 := HX.out.cell 9
  have x12 := HX.out.cell 12
  have x13 := HX.out.cell 13
  have x16 := HX.out.cell 16
  have xl := HX.out.lt
  go_wp2_with fail
  by_cases h : x.sh 2 = bitP (x.keeper = 5)
  rotate_left
  · have e0 : ((x.sh 2 == 1) == (x.keeper == 5)) = false := by rw [H2.out, tb_false h]
    have HZ := hide (HNO.out (fun hp => h hp.1.outs))
    clear h
    go_quiet (fail)
    go_wp2
    go_ret
    exact ⟨ret_bool HZ.out, below_drewN HB.out _⟩
  have e0 : ((x.sh 2 == 1) == (x.keeper == 5)) = true := by rw [H2.out, tb_true h]
  have HE2 := hide h
  clear h
  go_cut [18] from 37 to 46 (fun t wx => t = .bool false ∧ Below w3.heap.size w3 wx)
  case first =>
    go_quiet (fail)
    go_wp2_with fail
    go_meet
    exact ⟨rfl, below_drewN (Below.refl _ _) _⟩
  obtain ⟨rfl, hb2⟩ := hcut
  have HX' := hide (HX.out.below hb2 HX.out.lt)
  have HB' := hide (HB.out.trans (hb2.mono HB.out.size))
  have q0' := (hb2.cell (p := ⟨g7, off7, none⟩) hgl).trans q0
  have q1' := (hb2.cell (p := ⟨g7, off7 + 1, none⟩) hgl).trans q1
  have q2' := (hb2.cell (p := ⟨g7, off7 + 2, none⟩) hgl).trans q2
  have q3' := (hb2.cell (p := ⟨g7, off7 + 3, none⟩) hgl).trans q3
  have hgl' := Nat.lt_of_lt_of_le hgl hb2.size
  have HOW' := hide (HOW.out.below hb2 HFW.out)
  have HFW' := hide (HFW.out.up hb2)
  obtain ⟨w4, rfl⟩ : ∃ W, W = wc := ⟨_, rfl⟩
  clear e0 hb2 HX HB q0 q1 q2 q3 hgl HOW HFW x0 x3 x4 x5 x7 x8 x9 x12 x13 x16 xl
  have HX := HX'
  have HB := HB'
  have q0 := q0'
  have q1 := q1'
  have q2 := q2'
  have q3 := q3'
  have hgl := hgl'
  have HOW := HOW'
  have HFW := HFW'
  clear HX' HB' q0' q1' q2' q3' hgl' HOW' HFW'
  have x0 := HX.out.cell 0
  have x3 := HX.out.cell 3
  have x4 := HX.out.cell 4
  have x5 := HX.out.cell 5
  have x7 := HX.out.cell 7
  have x8 := HX.out.cell 8
  have x9 := HX.out.cell 9
  have x12 := HX.out.cell 12
  have x13 := HX.out.cell 13
  have x16 := HX.out.cell 16
  have xl := HX.out.lt
  go_upto_region 7 with fail
  clear q0 q1 q2 q3 hgl
  clear x0 x3 x4 x5 x7 x8 x9 x12 x13 x16 xl
  have x0 := HX.out.cell 0
  have x3 := HX.out.cell 3
  have x4 := HX.out.cell 4
  have x5 := HX.out.cell 5
  have x7 := HX.out.cell 7
  have x8 := HX.out.cell 8
  have x9 := HX.out.cell 9
  have x12 := HX.out.cell 12
  have x13 := HX.out.cell 13
  have xl := HX.out.lt
  have hst := HST0.out
  have b3 : (x.sh 3 == 1) = false := beqf hst
  rw [b3]
  have HST := hide hst
  clear hst b3
  go_upto_region 9 with fail

  by_cases hv : 2 ≤ x.reader ∧ ¬ (x.next = x.jobs)
  · have HZ := hide (HNO.out (fun hp => hv.2 (hp.1.read HST.out hv.1)))
    have r1 := dec_true hv.1
    have r2 := bnet hv.2
    have r3 := beqf hv.2
    clear hv
    go_wp2_with fail
    go_ret
    exact ⟨ret_bool HZ.out, HB.out⟩
  go_cut [53] from 54 to 68 (fun t wx => t = .bool false ∧ w4 = wx)
  case first =>
    by_cases hd0 : 2 ≤ x.reader
    · have hn : x.next = x.jobs := Classical.byContradiction (fun h => hv ⟨hd0, h⟩)
      have r1 := dec_true hd0
      have r2 := bnef hn
      have r3 := beqt hn
      clear hn hd0
      clear hv
      go_wp2_with fail
      go_meet
      exact ⟨rfl, rfl⟩
    have r1 := dec_false hd0
    clear hd0
    clear hv
    go_wp2_with fail
    go_meet
    exact ⟨rfl, rfl⟩
  have HV9 := hide hv
  clear hv
  obtain ⟨rfl, rfl⟩ := hcut
  go_upto_region 11 with fail
  have HANY := hide (l51Any_any x _ _ w4 HOW.out HFW.out)
  by_cases hv : x.oneDone ∧ ¬ (x.reader = 3 ∧ x.queue.length = 0)
  · have HZ := hide (HNO.out (fun hp => hv.2 (hp.1.work HST.out hv.1)))
    by_cases hc0 : ¬ (x.reader = 3)
    · have ta := tb_true hv.1
      have r1 := bnet hc0
      have r2 := beqf hc0
      clear hc0
      clear hv
      iterate 10 go_step
      refine wpl_load_row_g rfl 30 _ rfl w.heap.size rfl 30 ([.int .i64 x.jobs, .int .i64 x.workers, .int .i64 x.window, .int .i64 x.next, .int .i64 x.reader, .slice A1 x.queue.length c1, .slice A2 x.hands.length c2, .int .i64 x.closer, .slice A3 x.results.length c3, .int .i64 x.keeper, .slice A4 x.ring.length c4, .int .i64 x.due, .slice A5 x.out.length c5, .int .i64 x.user, .slice A6 x.got.length c6, .int .i64 x.room, .slice (some ⟨g7, off7, none⟩) x.shut.length c7, .int .i64 x.ops] : List Value).toArray (0, 0) _ HX.out Try.underlying30 rfl info_crew ?_
      go_wp2_with (first | (go_at_call 113; refine HANY.out.mono ?_; rintro e wq ⟨rfl, hbq⟩; have y4 := (HX.out.below hbq HX.out.lt).cell 4; have y5 := (HX.out.below hbq HX.out.lt).cell 5; have yl := (HX.out.below hbq HX.out.lt).lt) | (go_at_call 62; refine HALL.out.mono ?_; rintro e wq ⟨rfl, hbq⟩) | (go_at_call 114; refine HDUE.out.mono ?_; rintro e wq ⟨rfl, hbq⟩) | fail)
      go_ret
      exact ⟨ret_bool HZ.out, HB.out.trans (hbq.mono HB.out.size)⟩
    have ta := tb_true hv.1
    have hr : x.reader = 3 := Classical.not_not.1 hc0
    have r1 := bnef hr
    have r2 := beqt hr
    have r3 := dec_true (show (0 : Int) < (x.queue.length : Int) by have := hv.2; omega)
    have r4 := dec_true (show 0 < x.queue.length by have := hv.2; omega)
    clear hr hc0
    clear hv
    iterate 10 go_step
    refine wpl_load_row_g rfl 30 _ rfl w.heap.size rfl 30 ([.int .i64 x.jobs, .int .i64 x.workers, .int .i64 x.window, .int .i64 x.next, .int .i64 x.reader, .slice A1 x.queue.length c1, .slice A2 x.hands.length c2, .int .i64 x.closer, .slice A3 x.results.length c3, .int .i64 x.keeper, .slice A4 x.ring.length c4, .int .i64 x.due, .slice A5 x.out.length c5, .int .i64 x.user, .slice A6 x.got.length c6, .int .i64 x.room, .slice (some ⟨g7, off7, none⟩) x.shut.length c7, .int .i64 x.ops] : List Value).toArray (0, 0) _ HX.out Try.underlying30 rfl info_crew ?_
    go_wp2_with (first | (go_at_call 113; refine HANY.out.mono ?_; rintro e wq ⟨rfl, hbq⟩; have y4 := (HX.out.below hbq HX.out.lt).cell 4; have y5 := (HX.out.below hbq HX.out.lt).cell 5; have yl := (HX.out.below hbq HX.out.lt).lt) | (go_at_call 62; refine HALL.out.mono ?_; rintro e wq ⟨rfl, hbq⟩) | (go_at_call 114; refine HDUE.out.mono ?_; rintro e wq ⟨rfl, hbq⟩) | fail)
    go_ret
    exact ⟨ret_bool HZ.out, HB.out.trans (hbq.mono HB.out.size)⟩
  go_cut [68] from 69 to 86 (fun t wx => t = .bool false ∧ Below w4.heap.size w4 wx)
  case first =>
    by_cases hd0 : x.oneDone
    · have h2 : x.reader = 3 ∧ x.queue.length = 0 := Classical.byContradiction (fun h => hv ⟨hd0, h⟩)
      have ta := tb_true hd0
      have r1 := bnef h2.1
      have r2 := beqt h2.1
      have r3 := dec_false (show ¬ (0 : Int) < (x.queue.length : Int) by omega)
      have r4 := dec_false (show ¬ 0 < x.queue.length by omega)
      clear h2 hd0
      clear hv
      iterate 10 go_step
      refine wpl_load_row_g rfl 30 _ rfl w.heap.size rfl 30 ([.int .i64 x.jobs, .int .i64 x.workers, .int .i64 x.window, .int .i64 x.next, .int .i64 x.reader, .slice A1 x.queue.length c1, .slice A2 x.hands.length c2, .int .i64 x.closer, .slice A3 x.results.length c3, .int .i64 x.keeper, .slice A4 x.ring.length c4, .int .i64 x.due, .slice A5 x.out.length c5, .int .i64 x.user, .slice A6 x.got.length c6, .int .i64 x.room, .slice (some ⟨g7, off7, none⟩) x.shut.length c7, .int .i64 x.ops] : List Value).toArray (0, 0) _ HX.out Try.underlying30 rfl info_crew ?_
      go_wp2_with (first | (go_at_call 113; refine HANY.out.mono ?_; rintro e wq ⟨rfl, hbq⟩; have y4 := (HX.out.below hbq HX.out.lt).cell 4; have y5 := (HX.out.below hbq HX.out.lt).cell 5; have yl := (HX.out.below hbq HX.out.lt).lt) | (go_at_call 62; refine HALL.out.mono ?_; rintro e wq ⟨rfl, hbq⟩) | (go_at_call 114; refine HDUE.out.mono ?_; rintro e wq ⟨rfl, hbq⟩) | fail)
      go_meet
      exact ⟨rfl, hbq⟩
    have ta := tb_false hd0
    clear hd0
    clear hv
    iterate 10 go_step
    refine wpl_load_row_g rfl 30 _ rfl w.heap.size rfl 30 ([.int .i64 x.jobs, .int .i64 x.workers, .int .i64 x.window, .int .i64 x.next, .int .i64 x.reader, .slice A1 x.queue.length c1, .slice A2 x.hands.length c2, .int .i64 x.closer, .slice A3 x.results.length c3, .int .i64 x.keeper, .slice A4 x.ring.length c4, .int .i64 x.due, .slice A5 x.out.length c5, .int .i64 x.user, .slice A6 x.got.length c6, .int .i64 x.room, .slice (some ⟨g7, off7, none⟩) x.shut.length c7, .int .i64 x.ops] : List Value).toArray (0, 0) _ HX.out Try.underlying30 rfl info_crew ?_
    go_wp2_with (first | (go_at_call 113; refine HANY.out.mono ?_; rintro e wq ⟨rfl, hbq⟩; have y4 := (HX.out.below hbq HX.out.lt).cell 4; have y5 := (HX.out.below hbq HX.out.lt).cell 5; have yl := (HX.out.below hbq HX.out.lt).lt) | (go_at_call 62; refine HALL.out.mono ?_; rintro e wq ⟨rfl, hbq⟩) | (go_at_call 114; refine HDUE.out.mono ?_; rintro e wq ⟨rfl, hbq⟩) | fail)
    go_meet
    exact ⟨rfl, hbq⟩
  have HV11 := hide hv
  clear hv
  obtain ⟨rfl, hb2⟩ := hcut
  have HX' := hide (HX.out.below hb2 HX.out.lt)
  have HB' := hide (HB.out.trans (hb2.mono HB.out.size))
  have HOW' := hide (HOW.out.below hb2 HFW.out)
  have HFW' := hide (HFW.out.up hb2)
  obtain ⟨w5, rfl⟩ : ∃ W, W = wc := ⟨_, rfl⟩
  clear hb2 HX HB HOW HFW HANY
  clear x0 x3 x4 x5 x7 x8 x9 x12 x13 xl
  have HX := HX'
  have HB := HB'
  have HOW := HOW'
  have HFW := HFW'
  clear HX' HB' HOW' HFW'
  have x0 := HX.out.cell 0
  have x3 := HX.out.cell 3
  have x4 := HX.out.cell 4
  have x5 := HX.out.cell 5
  have x7 := HX.out.cell 7
  have x8 := HX.out.cell 8
  have x9 := HX.out.cell 9
  have x12 := HX.out.cell 12
  have x13 := HX.out.cell 13
  have xl := HX.out.lt
  go_upto_region 13 with fail
  have HALL := hide (l51All_any x _ _ w5 HOW.out HFW.out)
  by_cases hv : x.closer = 1 ∧ ¬ x.allDone
  · have HZ := hide (HNO.out (fun hp => hv.2 (hp.1.closed hv.1)))
    have r1 := beqt hv.1
    have ta := tb_false hv.2
    clear hv
    iterate 13 go_step
    refine wpl_load_row_g rfl 30 _ rfl w.heap.size rfl 30 ([.int .i64 x.jobs, .int .i64 x.workers, .int .i64 x.window, .int .i64 x.next, .int .i64 x.reader, .slice A1 x.queue.length c1, .slice A2 x.hands.length c2, .int .i64 x.closer, .slice A3 x.results.length c3, .int .i64 x.keeper, .slice A4 x.ring.length c4, .int .i64 x.due, .slice A5 x.out.length c5, .int .i64 x.user, .slice A6 x.got.length c6, .int .i64 x.room, .slice (some ⟨g7, off7, none⟩) x.shut.length c7, .int .i64 x.ops] : List Value).toArray (0, 0) _ HX.out Try.underlying30 rfl info_crew ?_
    go_wp2_with (first | (go_at_call 113; refine HANY.out.mono ?_; rintro e wq ⟨rfl, hbq⟩; have y4 := (HX.out.below hbq HX.out.lt).cell 4; have y5 := (HX.out.below hbq HX.out.lt).cell 5; have yl := (HX.out.below hbq HX.out.lt).lt) | (go_at_call 62; refine HALL.out.mono ?_; rintro e wq ⟨rfl, hbq⟩) | (go_at_call 114; refine HDUE.out.mono ?_; rintro e wq ⟨rfl, hbq⟩) | fail)
    go_ret
    exact ⟨ret_bool HZ.out, HB.out.trans (hbq.mono HB.out.size)⟩
  go_cut [86] from 87 to 95 (fun t wx => t = .bool false ∧ Below w5.heap.size w5 wx)
  case first =>
    by_cases hd0 : x.closer = 1
    · have r1 := beqt hd0
      have ta := tb_true (Classical.byContradiction (fun h => hv ⟨hd0, h⟩))
      clear hd0
      clear hv
      iterate 13 go_step
      refine wpl_load_row_g rfl 30 _ rfl w.heap.size rfl 30 ([.int .i64 x.jobs, .int .i64 x.workers, .int .i64 x.window, .int .i64 x.next, .int .i64 x.reader, .slice A1 x.queue.length c1, .slice A2 x.hands.length c2, .int .i64 x.closer, .slice A3 x.results.length c3, .int .i64 x.keeper, .slice A4 x.ring.length c4, .int .i64 x.due, .slice A5 x.out.length c5, .int .i64 x.user, .slice A6 x.got.length c6, .int .i64 x.room, .slice (some ⟨g7, off7, none⟩) x.shut.length c7, .int .i64 x.ops] : List Value).toArray (0, 0) _ HX.out Try.underlying30 rfl info_crew ?_
      go_wp2_with (first | (go_at_call 113; refine HANY.out.mono ?_; rintro e wq ⟨rfl, hbq⟩; have y4 := (HX.out.below hbq HX.out.lt).cell 4; have y5 := (HX.out.below hbq HX.out.lt).cell 5; have yl := (HX.out.below hbq HX.out.lt).lt) | (go_at_call 62; refine HALL.out.mono ?_; rintro e wq ⟨rfl, hbq⟩) | (go_at_call 114; refine HDUE.out.mono ?_; rintro e wq ⟨rfl, hbq⟩) | fail)
      go_meet
      exact ⟨rfl, hbq⟩
    have r1 := beqf hd0
    clear hd0
    clear hv
    go_wp2_with (first | (go_at_call 113; refine HANY.out.mono ?_; rintro e wq ⟨rfl, hbq⟩; have y4 := (HX.out.below hbq HX.out.lt).cell 4; have y5 := (HX.out.below hbq HX.out.lt).cell 5; have yl := (HX.out.below hbq HX.out.lt).lt) | (go_at_call 62; refine HALL.out.mono ?_; rintro e wq ⟨rfl, hbq⟩) | (go_at_call 114; refine HDUE.out.mono ?_; rintro e wq ⟨rfl, hbq⟩) | fail)
    go_meet
    exact ⟨rfl, Below.refl _ _⟩
  have HV13 := hide hv
  clear hv
  obtain ⟨rfl, hb2⟩ := hcut
  have HX' := hide (HX.out.below hb2 HX.out.lt)
  have HB' := hide (HB.out.trans (hb2.mono HB.out.size))
  have HOW' := hide (HOW.out.below hb2 HFW.out)
  have HFW' := hide (HFW.out.up hb2)
  obtain ⟨w6, rfl⟩ : ∃ W, W = wc := ⟨_, rfl⟩
  clear hb2 HX HB HOW HFW HALL
  clear x0 x3 x4 x5 x7 x8 x9 x12 x13 xl
  have HX := HX'
  have HB := HB'
  have HOW := HOW'
  have HFW := HFW'
  clear HX' HB' HOW' HFW'
  have x0 := HX.out.cell 0
  have x3 := HX.out.cell 3
  have x4 := HX.out.cell 4
  have x5 := HX.out.cell 5
  have x7 := HX.out.cell 7
  have x8 := HX.out.cell 8
  have x9 := HX.out.cell 9
  have x12 := HX.out.cell 12
  have x13 := HX.out.cell 13
  have xl := HX.out.lt
  go_upto_region 15 with fail
  have hkd : (x.keeper == 4 || x.keeper == 5) = decide (4 ≤ x.keeper) := by
    have hk5 := HFM.out.keeper.2
    by_cases h4 : x.keeper = 4
    · simp [h4]
    · by_cases h5 : x.keeper = 5
      · simp [h5]
      · rw [beqf h4, beqf h5, dec_false (by omega)]; rfl
  rw [hkd]
  clear hkd
  have hk4 := HK40.out
  have hk4n : ¬ (4 ≤ x.keeper) := by omega
  rw [dec_false hk4n]
  have HK4 := hide hk4n
  clear hk4 hk4n
  go_upto_region 17 with fail

  by_cases hv : x.user = 1 ∧ ¬ (x.keeper = 5 ∧ x.out.length = 0)
  · have HZ := hide (HNO.out (fun hp => hv.2 (hp.1.use HST.out hv.1)))
    by_cases hc0 : ¬ (x.keeper = 5)
    · have ru := beqt hv.1
      have r1 := bnet hc0
      have r2 := beqf hc0
      clear hc0
      clear hv
      go_wp2_with fail
      go_ret
      exact ⟨ret_bool HZ.out, HB.out⟩
    have ru := beqt hv.1
    have hr : x.keeper = 5 := Classical.not_not.1 hc0
    have r1 := bnef hr
    have r2 := beqt hr
    have r3 := dec_true (show (0 : Int) < (x.out.length : Int) by have := hv.2; omega)
    have r4 := dec_true (show 0 < x.out.length by have := hv.2; omega)
    clear hr hc0
    clear hv
    go_wp2_with fail
    go_ret
    exact ⟨ret_bool HZ.out, HB.out⟩
  go_cut [112] from 113 to 131 (fun t wx => t = .bool false ∧ w6 = wx)
  case first =>
    by_cases hd0 : x.user = 1
    · have h2 : x.keeper = 5 ∧ x.out.length = 0 := Classical.byContradiction (fun h => hv ⟨hd0, h⟩)
      have ru := beqt hd0
      have r1 := bnef h2.1
      have r2 := beqt h2.1
      have r3 := dec_false (show ¬ (0 : Int) < (x.out.length : Int) by omega)
      have r4 := dec_false (show ¬ 0 < x.out.length by omega)
      clear h2 hd0
      clear hv
      go_wp2_with fail
      go_meet
      exact ⟨rfl, rfl⟩
    have ru := beqf hd0
    clear hd0
    clear hv
    go_wp2_with fail
    go_meet
    exact ⟨rfl, rfl⟩
  have HV17 := hide hv
  clear hv
  obtain ⟨rfl, rfl⟩ := hcut
  go_upto_region 19 with fail
  have HEN := hide (show x.Ends from ⟨HE0.out, HE1.out, HE2.out, fun h => Classical.byContradiction (fun h2 => HV13.out ⟨h, h2⟩), fun h => absurd h HST.out, fun _ h => Classical.byContradiction (fun h2 => HV9.out ⟨h, h2⟩), fun _ h => Classical.byContradiction (fun h2 => HV11.out ⟨h, h2⟩), fun _ h => absurd h HK4.out, fun _ h => Classical.byContradiction (fun h2 => HV17.out ⟨h, h2⟩)⟩)
  have HDUE := hide (l51Due_any x _ _ w6 HOW.out HFW.out HFM.out)
  have hdu : True := True.intro
  by_cases hk0 : x.keeper = 0
  · have hk2 : ¬ x.keeper = 2 := by omega
    by_cases hdue : x.dueIn
    · have r1 := beqt hk0
      have HZ := hide (show false = tb (x.Ends ∧ x.Kept) from (tb_false (fun hp => hp.2.1 hk0 hdue)).symm)
      have td : tb x.dueIn = true := tb_true hdue
      clear hk0 hk2 hdu hdue
      go_wp2_with (first | (refine wpl_move_load_row rfl _ _ rfl rfl rfl 30 _ rfl w.heap.size rfl 30 ([.int .i64 x.jobs, .int .i64 x.workers, .int .i64 x.window, .int .i64 x.next, .int .i64 x.reader, .slice A1 x.queue.length c1, .slice A2 x.hands.length c2, .int .i64 x.closer, .slice A3 x.results.length c3, .int .i64 x.keeper, .slice A4 x.ring.length c4, .int .i64 x.due, .slice A5 x.out.length c5, .int .i64 x.user, .slice A6 x.got.length c6, .int .i64 x.room, .slice (some ⟨g7, off7, none⟩) x.shut.length c7, .int .i64 x.ops] : List Value).toArray (0, 0) _ HX.out Try.underlying30 rfl info_crew ?_) | (refine wpl_load_row_g rfl 30 _ rfl w.heap.size rfl 30 ([.int .i64 x.jobs, .int .i64 x.workers, .int .i64 x.window, .int .i64 x.next, .int .i64 x.reader, .slice A1 x.queue.length c1, .slice A2 x.hands.length c2, .int .i64 x.closer, .slice A3 x.results.length c3, .int .i64 x.keeper, .slice A4 x.ring.length c4, .int .i64 x.due, .slice A5 x.out.length c5, .int .i64 x.user, .slice A6 x.got.length c6, .int .i64 x.room, .slice (some ⟨g7, off7, none⟩) x.shut.length c7, .int .i64 x.ops] : List Value).toArray (0, 0) _ HX.out Try.underlying30 rfl info_crew ?_) | (go_at_call 113; refine HANY.out.mono ?_; rintro e wq ⟨rfl, hbq⟩; have y4 := (HX.out.below hbq HX.out.lt).cell 4; have y5 := (HX.out.below hbq HX.out.lt).cell 5; have yl := (HX.out.below hbq HX.out.lt).lt) | (go_at_call 62; refine HALL.out.mono ?_; rintro e wq ⟨rfl, hbq⟩) | (go_at_call 114; refine HDUE.out.mono ?_; rintro e wq ⟨rfl, hbq⟩) | fail)
      go_ret
      exact ⟨ret_bool HZ.out, HB.out.trans (hbq.mono HB.out.size)⟩
    · have r1 := beqt hk0
      have HZ := hide (show true = tb (x.Ends ∧ x.Kept) from (tb_true ⟨HEN.out, ⟨fun h => hdue, fun h => absurd h hk2⟩⟩).symm)
      have td : tb x.dueIn = false := tb_false hdue
      clear hk0 hk2 hdu hdue
      go_wp2_with (first | (refine wpl_move_load_row rfl _ _ rfl rfl rfl 30 _ rfl w.heap.size rfl 30 ([.int .i64 x.jobs, .int .i64 x.workers, .int .i64 x.window, .int .i64 x.next, .int .i64 x.reader, .slice A1 x.queue.length c1, .slice A2 x.hands.length c2, .int .i64 x.closer, .slice A3 x.results.length c3, .int .i64 x.keeper, .slice A4 x.ring.length c4, .int .i64 x.due, .slice A5 x.out.length c5, .int .i64 x.user, .slice A6 x.got.length c6, .int .i64 x.room, .slice (some ⟨g7, off7, none⟩) x.shut.length c7, .int .i64 x.ops] : List Value).toArray (0, 0) _ HX.out Try.underlying30 rfl info_crew ?_) | (refine wpl_load_row_g rfl 30 _ rfl w.heap.size rfl 30 ([.int .i64 x.jobs, .int .i64 x.workers, .int .i64 x.window, .int .i64 x.next, .int .i64 x.reader, .slice A1 x.queue.length c1, .slice A2 x.hands.length c2, .int .i64 x.closer, .slice A3 x.results.length c3, .int .i64 x.keeper, .slice A4 x.ring.length c4, .int .i64 x.due, .slice A5 x.out.length c5, .int .i64 x.user, .slice A6 x.got.length c6, .int .i64 x.room, .slice (some ⟨g7, off7, none⟩) x.shut.length c7, .int .i64 x.ops] : List Value).toArray (0, 0) _ HX.out Try.underlying30 rfl info_crew ?_) | (go_at_call 113; refine HANY.out.mono ?_; rintro e wq ⟨rfl, hbq⟩; have y4 := (HX.out.below hbq HX.out.lt).cell 4; have y5 := (HX.out.below hbq HX.out.lt).cell 5; have yl := (HX.out.below hbq HX.out.lt).lt) | (go_at_call 62; refine HALL.out.mono ?_; rintro e wq ⟨rfl, hbq⟩) | (go_at_call 114; refine HDUE.out.mono ?_; rintro e wq ⟨rfl, hbq⟩) | fail)
      go_ret
      exact ⟨ret_bool HZ.out, HB.out.trans (hbq.mono HB.out.size)⟩
  have r1 := beqf hk0
  by_cases hk2 : x.keeper = 2
  · by_cases hdue : x.dueIn
    · have r2 := bnef hk2
      have r3 := beqt hk2
      have HZ := hide (show true = tb (x.Ends ∧ x.Kept) from (tb_true ⟨HEN.out, ⟨fun h => absurd h hk0, fun h => hdue⟩⟩).symm)
      have td : tb x.dueIn = true := tb_true hdue
      clear hk0 hk2 hdu hdue
      go_upto_region 21 with fail
      iterate 13 go_step
      refine wpl_load_row_g rfl 30 _ rfl w.heap.size rfl 30 ([.int .i64 x.jobs, .int .i64 x.workers, .int .i64 x.window, .int .i64 x.next, .int .i64 x.reader, .slice A1 x.queue.length c1, .slice A2 x.hands.length c2, .int .i64 x.closer, .slice A3 x.results.length c3, .int .i64 x.keeper, .slice A4 x.ring.length c4, .int .i64 x.due, .slice A5 x.out.length c5, .int .i64 x.user, .slice A6 x.got.length c6, .int .i64 x.room, .slice (some ⟨g7, off7, none⟩) x.shut.length c7, .int .i64 x.ops] : List Value).toArray (0, 0) _ HX.out Try.underlying30 rfl info_crew ?_
      go_wp2_with (first | (go_at_call 113; refine HANY.out.mono ?_; rintro e wq ⟨rfl, hbq⟩; have y4 := (HX.out.below hbq HX.out.lt).cell 4; have y5 := (HX.out.below hbq HX.out.lt).cell 5; have yl := (HX.out.below hbq HX.out.lt).lt) | (go_at_call 62; refine HALL.out.mono ?_; rintro e wq ⟨rfl, hbq⟩) | (go_at_call 114; refine HDUE.out.mono ?_; rintro e wq ⟨rfl, hbq⟩) | fail)
      go_ret
      exact ⟨ret_bool HZ.out, HB.out.trans (hbq.mono HB.out.size)⟩
    · have r2 := bnef hk2
      have r3 := beqt hk2
      have HZ := hide (show false = tb (x.Ends ∧ x.Kept) from (tb_false (fun hp => hdue (hp.2.2 hk2))).symm)
      have td : tb x.dueIn = false := tb_false hdue
      clear hk0 hk2 hdu hdue
      go_upto_region 21 with fail
      iterate 13 go_step
      refine wpl_load_row_g rfl 30 _ rfl w.heap.size rfl 30 ([.int .i64 x.jobs, .int .i64 x.workers, .int .i64 x.window, .int .i64 x.next, .int .i64 x.reader, .slice A1 x.queue.length c1, .slice A2 x.hands.length c2, .int .i64 x.closer, .slice A3 x.results.length c3, .int .i64 x.keeper, .slice A4 x.ring.length c4, .int .i64 x.due, .slice A5 x.out.length c5, .int .i64 x.user, .slice A6 x.got.length c6, .int .i64 x.room, .slice (some ⟨g7, off7, none⟩) x.shut.length c7, .int .i64 x.ops] : List Value).toArray (0, 0) _ HX.out Try.underlying30 rfl info_crew ?_
      go_wp2_with (first | (go_at_call 113; refine HANY.out.mono ?_; rintro e wq ⟨rfl, hbq⟩; have y4 := (HX.out.below hbq HX.out.lt).cell 4; have y5 := (HX.out.below hbq HX.out.lt).cell 5; have yl := (HX.out.below hbq HX.out.lt).lt) | (go_at_call 62; refine HALL.out.mono ?_; rintro e wq ⟨rfl, hbq⟩) | (go_at_call 114; refine HDUE.out.mono ?_; rintro e wq ⟨rfl, hbq⟩) | fail)
      go_ret
      exact ⟨ret_bool HZ.out, HB.out.trans (hbq.mono HB.out.size)⟩
  have r2 := bnet hk2
  have r3 := beqf hk2
  have HZ := hide (show true = tb (x.Ends ∧ x.Kept) from (tb_true ⟨HEN.out, ⟨fun h => absurd h hk0, fun h => absurd h hk2⟩⟩).symm)
  clear hk0 hk2 hdu 
  go_wp2_with (first | (refine wpl_move_load_row rfl _ _ rfl rfl rfl 30 _ rfl w.heap.size rfl 30 ([.int .i64 x.jobs, .int .i64 x.workers, .int .i64 x.window, .int .i64 x.next, .int .i64 x.reader, .slice A1 x.queue.length c1, .slice A2 x.hands.length c2, .int .i64 x.closer, .slice A3 x.results.length c3, .int .i64 x.keeper, .slice A4 x.ring.length c4, .int .i64 x.due, .slice A5 x.out.length c5, .int .i64 x.user, .slice A6 x.got.length c6, .int .i64 x.room, .slice (some ⟨g7, off7, none⟩) x.shut.length c7, .int .i64 x.ops] : List Value).toArray (0, 0) _ HX.out Try.underlying30 rfl info_crew ?_) | (refine wpl_load_row_g rfl 30 _ rfl w.heap.size rfl 30 ([.int .i64 x.jobs, .int .i64 x.workers, .int .i64 x.window, .int .i64 x.next, .int .i64 x.reader, .slice A1 x.queue.length c1, .slice A2 x.hands.length c2, .int .i64 x.closer, .slice A3 x.results.length c3, .int .i64 x.keeper, .slice A4 x.ring.length c4, .int .i64 x.due, .slice A5 x.out.length c5, .int .i64 x.user, .slice A6 x.got.length c6, .int .i64 x.room, .slice (some ⟨g7, off7, none⟩) x.shut.length c7, .int .i64 x.ops] : List Value).toArray (0, 0) _ HX.out Try.underlying30 rfl info_crew ?_) | (go_at_call 113; refine HANY.out.mono ?_; rintro e wq ⟨rfl, hbq⟩; have y4 := (HX.out.below hbq HX.out.lt).cell 4; have y5 := (HX.out.below hbq HX.out.lt).cell 5; have yl := (HX.out.below hbq HX.out.lt).lt) | (go_at_call 62; refine HALL.out.mono ?_; rintro e wq ⟨rfl, hbq⟩) | (go_at_call 114; refine HDUE.out.mono ?_; rintro e wq ⟨rfl, hbq⟩) | fail)
  go_ret
  exact ⟨ret_bool HZ.out, HB.out⟩
end Go.Proofs.Ytpkjjfnfolbcoaa
set_option linter.unusedVariables false
set_option linter.unusedSimpArgs false
namespace Go.Proofs.Ytpkjjfnfolbcoaa
open Go.ChangeShapes Go.WideShapes Go.ChangeAt Go.RowKit

theorem l51Ends_any (x : CrewWorld) (us : List Value) (fp : List Nat) (w : World) (ho : OwC w x.cells us fp) (hf : Lt fp w.heap.size) (hfm : x.Form) :
    Calls Try.prog 57 #[.agg us.toArray] w fun e w' => e = .returned (.bool (tb (x.Ends ∧ x.Kept))) ∧ Below w.heap.size w w' := by
  by_cases hst : x.sh 3 = 1
  · exact l51EndsA_any x us fp w ho hf hfm hst
  · by_cases hk4 : 4 ≤ x.keeper
    · exact l51EndsB_any x us fp w ho hf hfm hst hk4
    · exact l51EndsC_any x us fp w ho hf hfm hst hk4
end Go.Proofs.Ytpkjjfnfolbcoaa
