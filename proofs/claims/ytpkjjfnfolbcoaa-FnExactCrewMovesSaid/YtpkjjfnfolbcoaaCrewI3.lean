/-
  Whether those have ended who may have: the program.
-/
import Derived.Test.YtpkjjfnfolbcoaaCrewI1
import Derived.Test.YtpkjjfnfolbcoaaCrewW4
set_option linter.unusedVariables false
set_option linter.unusedSimpArgs false
namespace Go.Proofs.Ytpkjjfnfolbcoaa
open Go.ChangeShapes Go.WideShapes Go.ChangeAt Go.RowKit

set_option maxRecDepth 100000 in
set_option maxHeartbeats 8000000 in
theorem endsOk_any (x : CrewWorld) (us : List Value) (fp : List Nat) (b : Nat) (w : World) (hb : Row w b 30 us) (ho : OwC w x.cells us fp) (hf : Lt fp w.heap.size) (hfm : x.Form) :
    Calls Try.prog 118 #[.pointer (some ⟨b, 0, none⟩)] w fun e w' => e = .returned (.bool (tb x.Ends)) ∧ Below w.heap.size w w' := by
  have HFM := hide hfm
  have HOW := hide ho
  have HFW := hide hf
  obtain ⟨w1, rfl⟩ : ∃ W, W = w := ⟨_, rfl⟩
  clear hfm
  obtain ⟨A1, c1, A2, c2, A3, c3, A4, c4, A5, c5, A6, c6, A7, c7, f1, f2, f3, f4, f5, f6, f7, rfl, wjobs, wworkers, wwindow, wnext, wreader, o1, o2, wcloser, o3, wkeeper, o4, wdue, o5, wuser, o6, wroom, o7, wops, rfl⟩ := ho.oCrewWorld
  have O7 := hide o7
  have l7 := hf.right.right.right.right.right.right
  obtain ⟨-, n7, m7⟩ := o7.nlen
  unfold maxLen at m7
  have HX := hide hb
  clear ho hb o1 o2 o3 o4 o5 o6 o7
  have x0 := HX.out.cell 0
  have x3 := HX.out.cell 3
  have x4 := HX.out.cell 4
  have x5 := HX.out.cell 5
  have x7 := HX.out.cell 7
  have x8 := HX.out.cell 8
  have x9 := HX.out.cell 9
  have x12 := HX.out.cell 12
  have x13 := HX.out.cell 13
  have x16 := HX.out.cell 16
  have xl := HX.out.lt
  go_enter Try.func118, Try.ntmps118
  have HB := hide (Below.refl w1.heap.size w1)
  have h7 : x.shut.length = 4 := HFM.out.shut
  obtain ⟨g7, off7, rfl, hg7, c0', -⟩ := ints_at O7.out (show 0 < x.shut.length by omega)
  have hgl := l7 g7 hg7
  have next7 : ∀ i, i < 4 → w1.cell? ⟨g7, off7 + i, none⟩ = some (.int .i64 (x.sh i)) := fun i h4 => by
    have h : i < x.shut.length := by omega
    obtain ⟨g, off, e, -, hc, -⟩ := ints_at O7.out h
    injection e with e
    injection e with e1 e2 _
    subst e1 e2
    unfold CrewWorld.sh
    rw [List.getElem?_eq_getElem h]
    exact hc
  have q0 := next7 0 (by omega)
  have q1 := next7 1 (by omega)
  have q2 := next7 2 (by omega)
  simp only [Nat.add_zero] at q0
  have hl0 : (0 : Int) < (x.shut.length : Int) := by omega
  have hl1 : (1 : Int) < (x.shut.length : Int) := by omega
  have hl2 : (2 : Int) < (x.shut.length : Int) := by omega
  clear next7 c0' h7
  have HNO := hide (fun (h : ¬ x.Ends) => show false = tb x.Ends from (tb_false h).symm)
  have hcb : ∀ (v c : Int) (W : World), Calls Try.prog 123 #[.bool (v == c)] W fun e w' => e = .returned (.int .i64 (bitP (v = c))) ∧ w' = W := fun v c W => (bit_any (v == c) W).mono (fun e w' ⟨he, hw⟩ => ⟨by rw [he]; congr 1; unfold bitP; by_cases h : v = c <;> simp [h], hw⟩)
  have hc0 := fun W => hcb x.reader 3 W
  have hc1 := fun W => hcb x.closer 1 W
  have hc2 := fun W => hcb x.keeper 5 W
  obtain ⟨P0, hP0⟩ : ∃ p, p = bitP (x.reader = 3) := ⟨_, rfl⟩
  obtain ⟨P1, hP1⟩ : ∃ p, p = bitP (x.closer = 1) := ⟨_, rfl⟩
  obtain ⟨P2, hP2⟩ : ∃ p, p = bitP (x.keeper = 5) := ⟨_, rfl⟩
  rw [← hP0] at hc0
  rw [← hP1] at hc1
  rw [← hP2] at hc2
  have HCB0 := hide hc0
  have HCB1 := hide hc1
  have HCB2 := hide hc2
  have HP0 := hide hP0
  have HP1 := hide hP1
  have HP2 := hide hP2
  clear hcb hc0 hc1 hc2 hP0 hP1 hP2
  go_upto_region 1 with fail
  by_cases hv : ¬ (x.sh 0 = P0 ∧ x.sh 1 = P1 ∧ x.sh 2 = P2)
  · have HZ := hide (HNO.out (fun hp => hv ⟨by rw [HP0.out]; exact hp.queue, by rw [HP1.out]; exact hp.results, by rw [HP2.out]; exact hp.outs⟩))
    by_cases hc0 : ¬ (x.sh 0 = P0)
    · have a0 := beqf' (hc0)
      have b0 := bnet' (hc0)
      have c0 := dec_false (hc0)
      clear hc0
      clear hv
      go_quiet ((first | (go_at_call 123; exact Calls.quiet_of_same (HCB0.out _)) | (go_at_call 123; exact Calls.quiet_of_same (HCB1.out _)) | (go_at_call 123; exact Calls.quiet_of_same (HCB2.out _))))
      go_wp2
      go_ret
      exact ⟨ret_bool HZ.out, below_drewN HB.out _⟩
    by_cases hc1 : ¬ (x.sh 1 = P1)
    · have a0 := beqt' (Classical.not_not.1 hc0)
      have b0 := bnef' (Classical.not_not.1 hc0)
      have c0 := dec_true (Classical.not_not.1 hc0)
      have a1 := beqf' (hc1)
      have b1 := bnet' (hc1)
      have c1 := dec_false (hc1)
      clear hc0 hc1
      clear hv
      go_quiet ((first | (go_at_call 123; exact Calls.quiet_of_same (HCB0.out _)) | (go_at_call 123; exact Calls.quiet_of_same (HCB1.out _)) | (go_at_call 123; exact Calls.quiet_of_same (HCB2.out _))))
      go_wp2
      go_ret
      exact ⟨ret_bool HZ.out, below_drewN HB.out _⟩
    have a0 := beqt' (Classical.not_not.1 hc0)
    have b0 := bnef' (Classical.not_not.1 hc0)
    have c0 := dec_true (Classical.not_not.1 hc0)
    have a1 := beqt' (Classical.not_not.1 hc1)
    have b1 := bnef' (Classical.not_not.1 hc1)
    have c1 := dec_true (Classical.not_not.1 hc1)
    have h2 : ¬ (x.sh 2 = P2) := fun h => hv ⟨Classical.not_not.1 hc0, Classical.not_not.1 hc1, h⟩
    have a2 := beqf' (h2)
    have b2 := bnet' (h2)
    have c2 := dec_false (h2)
    clear hc0 hc1 h2
    clear hv
    go_quiet ((first | (go_at_call 123; exact Calls.quiet_of_same (HCB0.out _)) | (go_at_call 123; exact Calls.quiet_of_same (HCB1.out _)) | (go_at_call 123; exact Calls.quiet_of_same (HCB2.out _))))
    go_wp2
    go_ret
    exact ⟨ret_bool HZ.out, below_drewN HB.out _⟩
  go_cut [45] from 3 to 46 (fun t wx => t = .bool false ∧ Below w1.heap.size w1 wx)
  case first =>
    have h3 := Classical.not_not.1 hv
    have a0 := beqt' (h3.1)
    have b0 := bnef' (h3.1)
    have c0 := dec_true (h3.1)
    have a1 := beqt' (h3.2.1)
    have b1 := bnef' (h3.2.1)
    have c1 := dec_true (h3.2.1)
    have a2 := beqt' (h3.2.2)
    have b2 := bnef' (h3.2.2)
    have c2 := dec_true (h3.2.2)
    clear h3
    clear hv
    go_quiet ((first | (go_at_call 123; exact Calls.quiet_of_same (HCB0.out _)) | (go_at_call 123; exact Calls.quiet_of_same (HCB1.out _)) | (go_at_call 123; exact Calls.quiet_of_same (HCB2.out _))))
    go_wp2_with fail
    go_meet
    exact ⟨rfl, below_drewN (Below.refl _ _) _⟩
  have HV45 := hide hv
  clear hv
  obtain ⟨rfl, hb2⟩ := hcut
  have HX' := hide (HX.out.below hb2 HX.out.lt)
  have HB' := hide (HB.out.trans (hb2.mono HB.out.size))
  have HOW' := hide (HOW.out.below hb2 HFW.out)
  have HFW' := hide (HFW.out.up hb2)
  obtain ⟨w2, rfl⟩ : ∃ W, W = wc := ⟨_, rfl⟩
  clear hb2 HX HB HOW HFW
  clear x0 x3 x4 x5 x7 x8 x9 x12 x13 x16 xl
  have HX := HX'
  have HB := HB'
  have HOW := HOW'
  have HFW := HFW'
  clear HX' HB' HOW' HFW'
  have x0 := HX.out.cell 0
  have x3 := HX.out.cell 3
  have x4 := HX.out.cell 4
  have x5 := HX.out.cell 5
  have x7 := HX.out.cell 7
  have x8 := HX.out.cell 8
  have x9 := HX.out.cell 9
  have x12 := HX.out.cell 12
  have x13 := HX.out.cell 13
  have x16 := HX.out.cell 16
  have xl := HX.out.lt
  clear q0 q1 q2 hgl
  go_upto_region 3 with fail
  have HALL := hide (haveEnded_any x _ _ b w2 HX.out HOW.out HFW.out)
  by_cases hv : x.closer = 1 ∧ ¬ x.allDone
  · have HZ := hide (HNO.out (fun hp => hv.2 (hp.closed hv.1)))
    have r1 := beqt' hv.1
    have ta := tb_false hv.2
    clear hv
    go_wp2_with (first | (go_at_call 63; refine HALL.out.mono ?_; rintro e wq ⟨rfl, hbq⟩) | (go_at_call 156; refine HSTOP.out.mono ?_; rintro e wq ⟨rfl, rfl⟩) | (go_at_call 157; refine HANY.out.mono ?_; rintro e wq ⟨rfl, hbq⟩; have y4 := (HX.out.below hbq HX.out.lt).cell 4; have y5 := (HX.out.below hbq HX.out.lt).cell 5; have yl := (HX.out.below hbq HX.out.lt).lt) | fail)
    go_ret
    exact ⟨ret_bool HZ.out, by first | exact HB.out.trans (hbq.mono HB.out.size) | exact HB.out⟩
  go_cut [55] from 46 to 56 (fun t wx => t = .bool false ∧ Below w2.heap.size w2 wx)
  case first =>
    by_cases hd0 : x.closer = 1
    · have r1 := beqt' hd0
      have ta := tb_true (Classical.byContradiction (fun h => hv ⟨hd0, h⟩))
      clear hd0
      clear hv
      go_wp2_with (first | (go_at_call 63; refine HALL.out.mono ?_; rintro e wq ⟨rfl, hbq⟩) | (go_at_call 156; refine HSTOP.out.mono ?_; rintro e wq ⟨rfl, rfl⟩) | (go_at_call 157; refine HANY.out.mono ?_; rintro e wq ⟨rfl, hbq⟩; have y4 := (HX.out.below hbq HX.out.lt).cell 4; have y5 := (HX.out.below hbq HX.out.lt).cell 5; have yl := (HX.out.below hbq HX.out.lt).lt) | fail)
      go_meet
      exact ⟨rfl, by first | exact hbq | exact Below.refl _ _⟩
    have r1 := beqf' hd0
    clear hd0
    clear hv
    go_wp2_with (first | (go_at_call 63; refine HALL.out.mono ?_; rintro e wq ⟨rfl, hbq⟩) | (go_at_call 156; refine HSTOP.out.mono ?_; rintro e wq ⟨rfl, rfl⟩) | (go_at_call 157; refine HANY.out.mono ?_; rintro e wq ⟨rfl, hbq⟩; have y4 := (HX.out.below hbq HX.out.lt).cell 4; have y5 := (HX.out.below hbq HX.out.lt).cell 5; have yl := (HX.out.below hbq HX.out.lt).lt) | fail)
    go_meet
    exact ⟨rfl, by first | exact hbq | exact Below.refl _ _⟩
  have HV55 := hide hv
  clear hv
  obtain ⟨rfl, hb2⟩ := hcut
  have HX' := hide (HX.out.below hb2 HX.out.lt)
  have HB' := hide (HB.out.trans (hb2.mono HB.out.size))
  have HOW' := hide (HOW.out.below hb2 HFW.out)
  have HFW' := hide (HFW.out.up hb2)
  obtain ⟨w3, rfl⟩ : ∃ W, W = wc := ⟨_, rfl⟩
  clear hb2 HX HB HOW HFW
  clear x0 x3 x4 x5 x7 x8 x9 x12 x13 x16 xl
  have HX := HX'
  have HB := HB'
  have HOW := HOW'
  have HFW := HFW'
  clear HX' HB' HOW' HFW'
  have x0 := HX.out.cell 0
  have x3 := HX.out.cell 3
  have x4 := HX.out.cell 4
  have x5 := HX.out.cell 5
  have x7 := HX.out.cell 7
  have x8 := HX.out.cell 8
  have x9 := HX.out.cell 9
  have x12 := HX.out.cell 12
  have x13 := HX.out.cell 13
  have x16 := HX.out.cell 16
  have xl := HX.out.lt
  go_upto_region 5 with fail
  have HE3 := hide (Classical.not_not.1 HV45.out)
  have hstop := isStopped_any x _ _ b w3 HX.out HOW.out HFW.out HFM.out
  by_cases hst : x.sh 3 = 1
  · have b3 : (x.sh 3 == 1) = true := beqt' hst
    rw [b3] at hstop
    have HSTOP := hide hstop
    have HST := hide hst
    clear hst b3 hstop
    by_cases hu : x.user = 1
    · have r1 := beqt' hu
      have HZ := hide (show true = tb x.Ends from (tb_true ⟨by rw [← HP0.out]; exact HE3.out.1, by rw [← HP1.out]; exact HE3.out.2.1, by rw [← HP2.out]; exact HE3.out.2.2, fun h => Classical.byContradiction (fun h2 => HV55.out ⟨h, h2⟩), fun _ => hu, fun h => absurd HST.out h, fun h => absurd HST.out h, fun h => absurd HST.out h, fun h => absurd HST.out h⟩).symm)
      clear hu
      go_wp2_with (first | (go_at_call 63; refine HALL.out.mono ?_; rintro e wq ⟨rfl, hbq⟩) | (go_at_call 156; refine HSTOP.out.mono ?_; rintro e wq ⟨rfl, rfl⟩) | (go_at_call 157; refine HANY.out.mono ?_; rintro e wq ⟨rfl, hbq⟩; have y4 := (HX.out.below hbq HX.out.lt).cell 4; have y5 := (HX.out.below hbq HX.out.lt).cell 5; have yl := (HX.out.below hbq HX.out.lt).lt) | fail)
      go_ret
      exact ⟨ret_bool HZ.out, HB.out⟩
    · have r1 := beqf' hu
      have HZ := hide (HNO.out (fun hp => hu (hp.stop HST.out)))
      clear hu
      go_wp2_with (first | (go_at_call 63; refine HALL.out.mono ?_; rintro e wq ⟨rfl, hbq⟩) | (go_at_call 156; refine HSTOP.out.mono ?_; rintro e wq ⟨rfl, rfl⟩) | (go_at_call 157; refine HANY.out.mono ?_; rintro e wq ⟨rfl, hbq⟩; have y4 := (HX.out.below hbq HX.out.lt).cell 4; have y5 := (HX.out.below hbq HX.out.lt).cell 5; have yl := (HX.out.below hbq HX.out.lt).lt) | fail)
      go_ret
      exact ⟨ret_bool HZ.out, HB.out⟩
  have b3 : (x.sh 3 == 1) = false := beqf' hst
  rw [b3] at hstop
  have HSTOP := hide hstop
  have HST := hide hst
  clear hst b3 hstop
  go_wp2_with (first | (go_at_call 63; refine HALL.out.mono ?_; rintro e wq ⟨rfl, hbq⟩) | (go_at_call 156; refine HSTOP.out.mono ?_; rintro e wq ⟨rfl, rfl⟩) | (go_at_call 157; refine HANY.out.mono ?_; rintro e wq ⟨rfl, hbq⟩; have y4 := (HX.out.below hbq HX.out.lt).cell 4; have y5 := (HX.out.below hbq HX.out.lt).cell 5; have yl := (HX.out.below hbq HX.out.lt).lt) | fail)
  obtain ⟨w3, rfl⟩ : ∃ W, W = wq := ⟨_, rfl⟩
  by_cases hv : 2 ≤ x.reader ∧ ¬ (x.next = x.jobs)
  · have HZ := hide (HNO.out (fun hp => hv.2 (hp.read HST.out hv.1)))
    by_cases hc0 : x.reader = 2
    · have rd2 := beqt' (hc0)
      have td2 := bnef' (hc0)
      have ud2 := dec_true (hc0)
      have rn0 := beqf' (hv.2)
      have tn0 := bnet' (hv.2)
      have un0 := dec_false (hv.2)
      clear hc0
      clear hv
      go_quiet ((first | (go_at_call 123; exact Calls.quiet_of_same (HCB0.out _)) | (go_at_call 123; exact Calls.quiet_of_same (HCB1.out _)) | (go_at_call 123; exact Calls.quiet_of_same (HCB2.out _))))
      go_wp2
      go_ret
      exact ⟨ret_bool HZ.out, below_drewN HB.out _⟩
    have h3 : x.reader = 3 := by have := HFM.out.reader.2; omega
    have rd2 := beqf' (hc0)
    have td2 := bnet' (hc0)
    have ud2 := dec_false (hc0)
    have rd3 := beqt' (h3)
    have td3 := bnef' (h3)
    have ud3 := dec_true (h3)
    have rn0 := beqf' (hv.2)
    have tn0 := bnet' (hv.2)
    have un0 := dec_false (hv.2)
    clear hc0 h3
    clear hv
    go_quiet ((first | (go_at_call 123; exact Calls.quiet_of_same (HCB0.out _)) | (go_at_call 123; exact Calls.quiet_of_same (HCB1.out _)) | (go_at_call 123; exact Calls.quiet_of_same (HCB2.out _))))
    go_wp2
    go_ret
    exact ⟨ret_bool HZ.out, below_drewN HB.out _⟩
  go_cut [63] from 64 to 87 (fun t wx => t = .bool false ∧ Below w3.heap.size w3 wx)
  case first =>
    by_cases hd0 : x.reader = 2
    · have hn : x.next = x.jobs := Classical.byContradiction (fun h => hv ⟨by omega, h⟩)
      have rd2 := beqt' (hd0)
      have td2 := bnef' (hd0)
      have ud2 := dec_true (hd0)
      have rn0 := beqt' (hn)
      have tn0 := bnef' (hn)
      have un0 := dec_true (hn)
      clear hd0 hn
      clear hv
      go_quiet ((first | (go_at_call 123; exact Calls.quiet_of_same (HCB0.out _)) | (go_at_call 123; exact Calls.quiet_of_same (HCB1.out _)) | (go_at_call 123; exact Calls.quiet_of_same (HCB2.out _))))
      go_wp2_with fail
      go_meet
      exact ⟨rfl, below_drewN (Below.refl _ _) _⟩
    by_cases hd1 : x.reader = 3
    · have hn : x.next = x.jobs := Classical.byContradiction (fun h => hv ⟨by omega, h⟩)
      have rd2 := beqf' (hd0)
      have td2 := bnet' (hd0)
      have ud2 := dec_false (hd0)
      have rd3 := beqt' (hd1)
      have td3 := bnef' (hd1)
      have ud3 := dec_true (hd1)
      have rn0 := beqt' (hn)
      have tn0 := bnef' (hn)
      have un0 := dec_true (hn)
      clear hd0 hd1 hn
      clear hv
      go_quiet ((first | (go_at_call 123; exact Calls.quiet_of_same (HCB0.out _)) | (go_at_call 123; exact Calls.quiet_of_same (HCB1.out _)) | (go_at_call 123; exact Calls.quiet_of_same (HCB2.out _))))
      go_wp2_with fail
      go_meet
      exact ⟨rfl, below_drewN (Below.refl _ _) _⟩
    have rd2 := beqf' (hd0)
    have td2 := bnet' (hd0)
    have ud2 := dec_false (hd0)
    have rd3 := beqf' (hd1)
    have td3 := bnet' (hd1)
    have ud3 := dec_false (hd1)
    clear hd0 hd1
    clear hv
    go_quiet ((first | (go_at_call 123; exact Calls.quiet_of_same (HCB0.out _)) | (go_at_call 123; exact Calls.quiet_of_same (HCB1.out _)) | (go_at_call 123; exact Calls.quiet_of_same (HCB2.out _))))
    go_wp2_with fail
    go_meet
    exact ⟨rfl, below_drewN (Below.refl _ _) _⟩
  have HV63 := hide hv
  clear hv
  obtain ⟨rfl, hb2⟩ := hcut
  have HX' := hide (HX.out.below hb2 HX.out.lt)
  have HB' := hide (HB.out.trans (hb2.mono HB.out.size))
  have HOW' := hide (HOW.out.below hb2 HFW.out)
  have HFW' := hide (HFW.out.up hb2)
  obtain ⟨w4, rfl⟩ : ∃ W, W = wc := ⟨_, rfl⟩
  clear hb2 HX HB HOW HFW
  clear x0 x3 x4 x5 x7 x8 x9 x12 x13 x16 xl
  have HX := HX'
  have HB := HB'
  have HOW := HOW'
  have HFW := HFW'
  clear HX' HB' HOW' HFW'
  have x0 := HX.out.cell 0
  have x3 := HX.out.cell 3
  have x4 := HX.out.cell 4
  have x5 := HX.out.cell 5
  have x7 := HX.out.cell 7
  have x8 := HX.out.cell 8
  have x9 := HX.out.cell 9
  have x12 := HX.out.cell 12
  have x13 := HX.out.cell 13
  have x16 := HX.out.cell 16
  have xl := HX.out.lt
  go_upto_region 9 with fail
  have HANY := hide (someHasEnded_any x _ _ b w4 HX.out HOW.out HFW.out)
  by_cases hv : x.oneDone ∧ ¬ (x.reader = 3 ∧ x.queue.length = 0)
  · have HZ := hide (HNO.out (fun hp => hv.2 (hp.work HST.out hv.1)))
    by_cases hc0 : ¬ (x.reader = 3)
    · have ta := tb_true hv.1
      have rd3 := beqf' (hc0)
      have td3 := bnet' (hc0)
      have ud3 := dec_false (hc0)
      clear hc0
      clear hv
      go_wp2_with (first | (go_at_call 63; refine HALL.out.mono ?_; rintro e wq ⟨rfl, hbq⟩) | (go_at_call 156; refine HSTOP.out.mono ?_; rintro e wq ⟨rfl, rfl⟩) | (go_at_call 157; refine HANY.out.mono ?_; rintro e wq ⟨rfl, hbq⟩; have y4 := (HX.out.below hbq HX.out.lt).cell 4; have y5 := (HX.out.below hbq HX.out.lt).cell 5; have yl := (HX.out.below hbq HX.out.lt).lt) | fail)
      go_ret
      exact ⟨ret_bool HZ.out, by first | exact HB.out.trans (hbq.mono HB.out.size) | exact HB.out⟩
    have ta := tb_true hv.1
    have hr : x.reader = 3 := Classical.not_not.1 hc0
    have lq1 := dec_true (show (0 : Int) < (x.queue.length : Int) by have := hv.2; omega)
    have lq2 := dec_true (show 0 < x.queue.length by have := hv.2; omega)
    have rd3 := beqt' (hr)
    have td3 := bnef' (hr)
    have ud3 := dec_true (hr)
    clear hc0 hr
    clear hv
    go_wp2_with (first | (go_at_call 63; refine HALL.out.mono ?_; rintro e wq ⟨rfl, hbq⟩) | (go_at_call 156; refine HSTOP.out.mono ?_; rintro e wq ⟨rfl, rfl⟩) | (go_at_call 157; refine HANY.out.mono ?_; rintro e wq ⟨rfl, hbq⟩; have y4 := (HX.out.below hbq HX.out.lt).cell 4; have y5 := (HX.out.below hbq HX.out.lt).cell 5; have yl := (HX.out.below hbq HX.out.lt).lt) | fail)
    go_ret
    exact ⟨ret_bool HZ.out, by first | exact HB.out.trans (hbq.mono HB.out.size) | exact HB.out⟩
  go_cut [87] from 88 to 105 (fun t wx => t = .bool false ∧ Below w4.heap.size w4 wx)
  case first =>
    by_cases hd0 : x.oneDone
    · have h2 : x.reader = 3 ∧ x.queue.length = 0 := Classical.byContradiction (fun h => hv ⟨hd0, h⟩)
      have ta := tb_true hd0
      have lq1 := dec_false (show ¬ (0 : Int) < (x.queue.length : Int) by omega)
      have lq2 := dec_false (show ¬ 0 < x.queue.length by omega)
      have rd3 := beqt' (h2.1)
      have td3 := bnef' (h2.1)
      have ud3 := dec_true (h2.1)
      clear h2 hd0
      clear hv
      go_wp2_with (first | (go_at_call 63; refine HALL.out.mono ?_; rintro e wq ⟨rfl, hbq⟩) | (go_at_call 156; refine HSTOP.out.mono ?_; rintro e wq ⟨rfl, rfl⟩) | (go_at_call 157; refine HANY.out.mono ?_; rintro e wq ⟨rfl, hbq⟩; have y4 := (HX.out.below hbq HX.out.lt).cell 4; have y5 := (HX.out.below hbq HX.out.lt).cell 5; have yl := (HX.out.below hbq HX.out.lt).lt) | fail)
      go_meet
      exact ⟨rfl, by first | exact hbq | exact Below.refl _ _⟩
    have ta := tb_false hd0
    clear hd0
    clear hv
    go_wp2_with (first | (go_at_call 63; refine HALL.out.mono ?_; rintro e wq ⟨rfl, hbq⟩) | (go_at_call 156; refine HSTOP.out.mono ?_; rintro e wq ⟨rfl, rfl⟩) | (go_at_call 157; refine HANY.out.mono ?_; rintro e wq ⟨rfl, hbq⟩; have y4 := (HX.out.below hbq HX.out.lt).cell 4; have y5 := (HX.out.below hbq HX.out.lt).cell 5; have yl := (HX.out.below hbq HX.out.lt).lt) | fail)
    go_meet
    exact ⟨rfl, by first | exact hbq | exact Below.refl _ _⟩
  have HV87 := hide hv
  clear hv
  obtain ⟨rfl, hb2⟩ := hcut
  have HX' := hide (HX.out.below hb2 HX.out.lt)
  have HB' := hide (HB.out.trans (hb2.mono HB.out.size))
  have HOW' := hide (HOW.out.below hb2 HFW.out)
  have HFW' := hide (HFW.out.up hb2)
  obtain ⟨w5, rfl⟩ : ∃ W, W = wc := ⟨_, rfl⟩
  clear hb2 HX HB HOW HFW
  clear x0 x3 x4 x5 x7 x8 x9 x12 x13 x16 xl
  have HX := HX'
  have HB := HB'
  have HOW := HOW'
  have HFW := HFW'
  clear HX' HB' HOW' HFW'
  have x0 := HX.out.cell 0
  have x3 := HX.out.cell 3
  have x4 := HX.out.cell 4
  have x5 := HX.out.cell 5
  have x7 := HX.out.cell 7
  have x8 := HX.out.cell 8
  have x9 := HX.out.cell 9
  have x12 := HX.out.cell 12
  have x13 := HX.out.cell 13
  have x16 := HX.out.cell 16
  have xl := HX.out.lt
  go_upto_region 11 with fail
  by_cases hv : 4 ≤ x.keeper ∧ ¬ (x.closer = 1 ∧ x.results.length = 0)
  · have HZ := hide (HNO.out (fun hp => hv.2 (hp.keep HST.out hv.1)))
    by_cases hc0 : x.keeper = 4 ∧ ¬ (x.closer = 1)
    · have rk4 := beqt' (hc0.1)
      have tk4 := bnef' (hc0.1)
      have uk4 := dec_true (hc0.1)
      have rc1 := beqf' (hc0.2)
      have tc1 := bnet' (hc0.2)
      have uc1 := dec_false (hc0.2)
      clear hc0
      clear hv
      go_wp2_with (first | (go_at_call 63; refine HALL.out.mono ?_; rintro e wq ⟨rfl, hbq⟩) | (go_at_call 156; refine HSTOP.out.mono ?_; rintro e wq ⟨rfl, rfl⟩) | (go_at_call 157; refine HANY.out.mono ?_; rintro e wq ⟨rfl, hbq⟩; have y4 := (HX.out.below hbq HX.out.lt).cell 4; have y5 := (HX.out.below hbq HX.out.lt).cell 5; have yl := (HX.out.below hbq HX.out.lt).lt) | fail)
      go_ret
      exact ⟨ret_bool HZ.out, by first | exact HB.out.trans (hbq.mono HB.out.size) | exact HB.out⟩
    by_cases hc1 : x.keeper = 4
    · have hcl : x.closer = 1 := Classical.byContradiction (fun h => hc0 ⟨hc1, h⟩)
      have lq1 := dec_true (show (0 : Int) < (x.results.length : Int) by have := hv.2; omega)
      have lq2 := dec_true (show 0 < x.results.length by have := hv.2; omega)
      have rk4 := beqt' (hc1)
      have tk4 := bnef' (hc1)
      have uk4 := dec_true (hc1)
      have rc1 := beqt' (hcl)
      have tc1 := bnef' (hcl)
      have uc1 := dec_true (hcl)
      clear hc0 hc1 hcl
      clear hv
      go_wp2_with (first | (go_at_call 63; refine HALL.out.mono ?_; rintro e wq ⟨rfl, hbq⟩) | (go_at_call 156; refine HSTOP.out.mono ?_; rintro e wq ⟨rfl, rfl⟩) | (go_at_call 157; refine HANY.out.mono ?_; rintro e wq ⟨rfl, hbq⟩; have y4 := (HX.out.below hbq HX.out.lt).cell 4; have y5 := (HX.out.below hbq HX.out.lt).cell 5; have yl := (HX.out.below hbq HX.out.lt).lt) | fail)
      go_ret
      exact ⟨ret_bool HZ.out, by first | exact HB.out.trans (hbq.mono HB.out.size) | exact HB.out⟩
    by_cases hc2 : ¬ (x.closer = 1)
    · have h5 : x.keeper = 5 := by have := HFM.out.keeper.2; omega
      have rk4 := beqf' (hc1)
      have tk4 := bnet' (hc1)
      have uk4 := dec_false (hc1)
      have rk5 := beqt' (h5)
      have tk5 := bnef' (h5)
      have uk5 := dec_true (h5)
      have rc1 := beqf' (hc2)
      have tc1 := bnet' (hc2)
      have uc1 := dec_false (hc2)
      clear hc0 hc1 hc2 h5
      clear hv
      go_wp2_with (first | (go_at_call 63; refine HALL.out.mono ?_; rintro e wq ⟨rfl, hbq⟩) | (go_at_call 156; refine HSTOP.out.mono ?_; rintro e wq ⟨rfl, rfl⟩) | (go_at_call 157; refine HANY.out.mono ?_; rintro e wq ⟨rfl, hbq⟩; have y4 := (HX.out.below hbq HX.out.lt).cell 4; have y5 := (HX.out.below hbq HX.out.lt).cell 5; have yl := (HX.out.below hbq HX.out.lt).lt) | fail)
      go_ret
      exact ⟨ret_bool HZ.out, by first | exact HB.out.trans (hbq.mono HB.out.size) | exact HB.out⟩
    have h5 : x.keeper = 5 := by have := HFM.out.keeper.2; omega
    have hcl : x.closer = 1 := Classical.not_not.1 hc2
    have lq1 := dec_true (show (0 : Int) < (x.results.length : Int) by have := hv.2; omega)
    have lq2 := dec_true (show 0 < x.results.length by have := hv.2; omega)
    have rk4 := beqf' (hc1)
    have tk4 := bnet' (hc1)
    have uk4 := dec_false (hc1)
    have rk5 := beqt' (h5)
    have tk5 := bnef' (h5)
    have uk5 := dec_true (h5)
    have rc1 := beqt' (hcl)
    have tc1 := bnef' (hcl)
    have uc1 := dec_true (hcl)
    clear hc0 hc1 hc2 h5 hcl
    clear hv
    go_wp2_with (first | (go_at_call 63; refine HALL.out.mono ?_; rintro e wq ⟨rfl, hbq⟩) | (go_at_call 156; refine HSTOP.out.mono ?_; rintro e wq ⟨rfl, rfl⟩) | (go_at_call 157; refine HANY.out.mono ?_; rintro e wq ⟨rfl, hbq⟩; have y4 := (HX.out.below hbq HX.out.lt).cell 4; have y5 := (HX.out.below hbq HX.out.lt).cell 5; have yl := (HX.out.below hbq HX.out.lt).lt) | fail)
    go_ret
    exact ⟨ret_bool HZ.out, by first | exact HB.out.trans (hbq.mono HB.out.size) | exact HB.out⟩
  go_cut [105] from 106 to 133 (fun t wx => t = .bool false ∧ Below w5.heap.size w5 wx)
  case first =>
    by_cases hd0 : x.keeper = 4
    · have h2 : x.closer = 1 ∧ x.results.length = 0 := Classical.byContradiction (fun h => hv ⟨by omega, h⟩)
      have lq1 := dec_false (show ¬ (0 : Int) < (x.results.length : Int) by omega)
      have lq2 := dec_false (show ¬ 0 < x.results.length by omega)
      have rk4 := beqt' (hd0)
      have tk4 := bnef' (hd0)
      have uk4 := dec_true (hd0)
      have rc1 := beqt' (h2.1)
      have tc1 := bnef' (h2.1)
      have uc1 := dec_true (h2.1)
      clear hd0 h2
      clear hv
      go_wp2_with (first | (go_at_call 63; refine HALL.out.mono ?_; rintro e wq ⟨rfl, hbq⟩) | (go_at_call 156; refine HSTOP.out.mono ?_; rintro e wq ⟨rfl, rfl⟩) | (go_at_call 157; refine HANY.out.mono ?_; rintro e wq ⟨rfl, hbq⟩; have y4 := (HX.out.below hbq HX.out.lt).cell 4; have y5 := (HX.out.below hbq HX.out.lt).cell 5; have yl := (HX.out.below hbq HX.out.lt).lt) | fail)
      go_meet
      exact ⟨rfl, by first | exact hbq | exact Below.refl _ _⟩
    by_cases hd1 : x.keeper = 5
    · have h2 : x.closer = 1 ∧ x.results.length = 0 := Classical.byContradiction (fun h => hv ⟨by omega, h⟩)
      have lq1 := dec_false (show ¬ (0 : Int) < (x.results.length : Int) by omega)
      have lq2 := dec_false (show ¬ 0 < x.results.length by omega)
      have rk4 := beqf' (hd0)
      have tk4 := bnet' (hd0)
      have uk4 := dec_false (hd0)
      have rk5 := beqt' (hd1)
      have tk5 := bnef' (hd1)
      have uk5 := dec_true (hd1)
      have rc1 := beqt' (h2.1)
      have tc1 := bnef' (h2.1)
      have uc1 := dec_true (h2.1)
      clear hd0 hd1 h2
      clear hv
      go_wp2_with (first | (go_at_call 63; refine HALL.out.mono ?_; rintro e wq ⟨rfl, hbq⟩) | (go_at_call 156; refine HSTOP.out.mono ?_; rintro e wq ⟨rfl, rfl⟩) | (go_at_call 157; refine HANY.out.mono ?_; rintro e wq ⟨rfl, hbq⟩; have y4 := (HX.out.below hbq HX.out.lt).cell 4; have y5 := (HX.out.below hbq HX.out.lt).cell 5; have yl := (HX.out.below hbq HX.out.lt).lt) | fail)
      go_meet
      exact ⟨rfl, by first | exact hbq | exact Below.refl _ _⟩
    have rk4 := beqf' (hd0)
    have tk4 := bnet' (hd0)
    have uk4 := dec_false (hd0)
    have rk5 := beqf' (hd1)
    have tk5 := bnet' (hd1)
    have uk5 := dec_false (hd1)
    clear hd0 hd1
    clear hv
    go_wp2_with (first | (go_at_call 63; refine HALL.out.mono ?_; rintro e wq ⟨rfl, hbq⟩) | (go_at_call 156; refine HSTOP.out.mono ?_; rintro e wq ⟨rfl, rfl⟩) | (go_at_call 157; refine HANY.out.mono ?_; rintro e wq ⟨rfl, hbq⟩; have y4 := (HX.out.below hbq HX.out.lt).cell 4; have y5 := (HX.out.below hbq HX.out.lt).cell 5; have yl := (HX.out.below hbq HX.out.lt).lt) | fail)
    go_meet
    exact ⟨rfl, by first | exact hbq | exact Below.refl _ _⟩
  have HV105 := hide hv
  clear hv
  obtain ⟨rfl, hb2⟩ := hcut
  have HX' := hide (HX.out.below hb2 HX.out.lt)
  have HB' := hide (HB.out.trans (hb2.mono HB.out.size))
  have HOW' := hide (HOW.out.below hb2 HFW.out)
  have HFW' := hide (HFW.out.up hb2)
  obtain ⟨w6, rfl⟩ : ∃ W, W = wc := ⟨_, rfl⟩
  clear hb2 HX HB HOW HFW
  clear x0 x3 x4 x5 x7 x8 x9 x12 x13 x16 xl
  have HX := HX'
  have HB := HB'
  have HOW := HOW'
  have HFW := HFW'
  clear HX' HB' HOW' HFW'
  have x0 := HX.out.cell 0
  have x3 := HX.out.cell 3
  have x4 := HX.out.cell 4
  have x5 := HX.out.cell 5
  have x7 := HX.out.cell 7
  have x8 := HX.out.cell 8
  have x9 := HX.out.cell 9
  have x12 := HX.out.cell 12
  have x13 := HX.out.cell 13
  have x16 := HX.out.cell 16
  have xl := HX.out.lt
  go_upto_region 13 with fail
  by_cases hv : x.user = 1 ∧ ¬ (x.keeper = 5 ∧ x.out.length = 0)
  · have HZ := hide (HNO.out (fun hp => hv.2 (hp.use HST.out hv.1)))
    by_cases hc0 : ¬ (x.keeper = 5)
    · have rs1 := beqt' (hv.1)
      have ts1 := bnef' (hv.1)
      have us1 := dec_true (hv.1)
      have rk5 := beqf' (hc0)
      have tk5 := bnet' (hc0)
      have uk5 := dec_false (hc0)
      clear hc0
      clear hv
      go_wp2_with (first | (go_at_call 63; refine HALL.out.mono ?_; rintro e wq ⟨rfl, hbq⟩) | (go_at_call 156; refine HSTOP.out.mono ?_; rintro e wq ⟨rfl, rfl⟩) | (go_at_call 157; refine HANY.out.mono ?_; rintro e wq ⟨rfl, hbq⟩; have y4 := (HX.out.below hbq HX.out.lt).cell 4; have y5 := (HX.out.below hbq HX.out.lt).cell 5; have yl := (HX.out.below hbq HX.out.lt).lt) | fail)
      go_ret
      exact ⟨ret_bool HZ.out, by first | exact HB.out.trans (hbq.mono HB.out.size) | exact HB.out⟩
    have hr : x.keeper = 5 := Classical.not_not.1 hc0
    have lq1 := dec_true (show (0 : Int) < (x.out.length : Int) by have := hv.2; omega)
    have lq2 := dec_true (show 0 < x.out.length by have := hv.2; omega)
    have rs1 := beqt' (hv.1)
    have ts1 := bnef' (hv.1)
    have us1 := dec_true (hv.1)
    have rk5 := beqt' (hr)
    have tk5 := bnef' (hr)
    have uk5 := dec_true (hr)
    clear hc0 hr
    clear hv
    go_wp2_with (first | (go_at_call 63; refine HALL.out.mono ?_; rintro e wq ⟨rfl, hbq⟩) | (go_at_call 156; refine HSTOP.out.mono ?_; rintro e wq ⟨rfl, rfl⟩) | (go_at_call 157; refine HANY.out.mono ?_; rintro e wq ⟨rfl, hbq⟩; have y4 := (HX.out.below hbq HX.out.lt).cell 4; have y5 := (HX.out.below hbq HX.out.lt).cell 5; have yl := (HX.out.below hbq HX.out.lt).lt) | fail)
    go_ret
    exact ⟨ret_bool HZ.out, by first | exact HB.out.trans (hbq.mono HB.out.size) | exact HB.out⟩
  go_cut [133] from 134 to 154 (fun t wx => t = .bool false ∧ Below w6.heap.size w6 wx)
  case first =>
    by_cases hd0 : x.user = 1
    · have h2 : x.keeper = 5 ∧ x.out.length = 0 := Classical.byContradiction (fun h => hv ⟨hd0, h⟩)
      have lq1 := dec_false (show ¬ (0 : Int) < (x.out.length : Int) by omega)
      have lq2 := dec_false (show ¬ 0 < x.out.length by omega)
      have rs1 := beqt' (hd0)
      have ts1 := bnef' (hd0)
      have us1 := dec_true (hd0)
      have rk5 := beqt' (h2.1)
      have tk5 := bnef' (h2.1)
      have uk5 := dec_true (h2.1)
      clear h2 hd0
      clear hv
      go_wp2_with (first | (go_at_call 63; refine HALL.out.mono ?_; rintro e wq ⟨rfl, hbq⟩) | (go_at_call 156; refine HSTOP.out.mono ?_; rintro e wq ⟨rfl, rfl⟩) | (go_at_call 157; refine HANY.out.mono ?_; rintro e wq ⟨rfl, hbq⟩; have y4 := (HX.out.below hbq HX.out.lt).cell 4; have y5 := (HX.out.below hbq HX.out.lt).cell 5; have yl := (HX.out.below hbq HX.out.lt).lt) | fail)
      go_meet
      exact ⟨rfl, by first | exact hbq | exact Below.refl _ _⟩
    have rs1 := beqf' (hd0)
    have ts1 := bnet' (hd0)
    have us1 := dec_false (hd0)
    clear hd0
    clear hv
    go_wp2_with (first | (go_at_call 63; refine HALL.out.mono ?_; rintro e wq ⟨rfl, hbq⟩) | (go_at_call 156; refine HSTOP.out.mono ?_; rintro e wq ⟨rfl, rfl⟩) | (go_at_call 157; refine HANY.out.mono ?_; rintro e wq ⟨rfl, hbq⟩; have y4 := (HX.out.below hbq HX.out.lt).cell 4; have y5 := (HX.out.below hbq HX.out.lt).cell 5; have yl := (HX.out.below hbq HX.out.lt).lt) | fail)
    go_meet
    exact ⟨rfl, by first | exact hbq | exact Below.refl _ _⟩
  have HV133 := hide hv
  clear hv
  obtain ⟨rfl, hb2⟩ := hcut
  have HX' := hide (HX.out.below hb2 HX.out.lt)
  have HB' := hide (HB.out.trans (hb2.mono HB.out.size))
  have HOW' := hide (HOW.out.below hb2 HFW.out)
  have HFW' := hide (HFW.out.up hb2)
  obtain ⟨w7, rfl⟩ : ∃ W, W = wc := ⟨_, rfl⟩
  clear hb2 HX HB HOW HFW
  clear x0 x3 x4 x5 x7 x8 x9 x12 x13 x16 xl
  have HX := HX'
  have HB := HB'
  have HOW := HOW'
  have HFW := HFW'
  clear HX' HB' HOW' HFW'
  have x0 := HX.out.cell 0
  have x3 := HX.out.cell 3
  have x4 := HX.out.cell 4
  have x5 := HX.out.cell 5
  have x7 := HX.out.cell 7
  have x8 := HX.out.cell 8
  have x9 := HX.out.cell 9
  have x12 := HX.out.cell 12
  have x13 := HX.out.cell 13
  have x16 := HX.out.cell 16
  have xl := HX.out.lt
  have HZ := hide (show true = tb x.Ends from (tb_true ⟨by rw [← HP0.out]; exact HE3.out.1, by rw [← HP1.out]; exact HE3.out.2.1, by rw [← HP2.out]; exact HE3.out.2.2, fun h => Classical.byContradiction (fun h2 => HV55.out ⟨h, h2⟩), fun h => absurd h HST.out, fun _ h => Classical.byContradiction (fun h2 => HV63.out ⟨h, h2⟩), fun _ h => Classical.byContradiction (fun h2 => HV87.out ⟨h, h2⟩), fun _ h => Classical.byContradiction (fun h2 => HV105.out ⟨h, h2⟩), fun _ h => Classical.byContradiction (fun h2 => HV133.out ⟨h, h2⟩)⟩).symm)
  go_wp2
  go_ret
  exact ⟨ret_bool HZ.out, HB.out⟩
end Go.Proofs.Ytpkjjfnfolbcoaa
