/-
  Whether all numbers of a world of a crew are in their bounds: the program.
-/
import Derived.Test.YtpkjjfnfolbcoaaCrewI5
import Derived.Test.YtpkjjfnfolbcoaaStartI
import Derived.Test.YtpkjjfnfolbcoaaCrewW5
import Derived.Deep.RegionHeld
import Derived.Laws.Tables
set_option linter.unusedVariables false
set_option linter.unusedSimpArgs false
namespace Go.Proofs.Ytpkjjfnfolbcoaa
open Go.ChangeShapes Go.WideShapes Go.ChangeAt Go.RowKit

set_option maxRecDepth 100000 in
set_option maxHeartbeats 8000000 in
theorem sizesOk_any (x : CrewWorld) (us : List Value) (fp : List Nat) (b : Nat) (w : World) (hb : Row w b 30 us) (ho : OwC w x.cells us fp) (hf : Lt fp w.heap.size) :
    Calls Try.prog 116 #[.pointer (some ⟨b, 0, none⟩)] w fun e w' => e = .returned (.bool (tb x.Form)) ∧ Below w.heap.size w w' := by
  have HO := hide ho
  have HF := hide hf
  obtain ⟨A1, c1, A2, c2, A3, c3, A4, c4, A5, c5, A6, c6, A7, c7, f1, f2, f3, f4, f5, f6, f7, rfl, wjobs, wworkers, wwindow, wnext, wreader, o1, o2, wcloser, o3, wkeeper, o4, wdue, o5, wuser, o6, wroom, o7, wops, rfl⟩ := ho.oCrewWorld
  have O2 := hide o2
  have l2 := hf.right.left
  obtain ⟨-, n2, m2⟩ := o2.nlen
  unfold maxLen at m2
  have O7 := hide o7
  have l7 := hf.right.right.right.right.right.right
  obtain ⟨-, n7, m7⟩ := o7.nlen
  unfold maxLen at m7
  have HX := hide hb
  clear ho hb o1 o2 o3 o4 o5 o6 o7
  have x0 := HX.out.cell 0
  have xl := HX.out.lt
  go_enter Try.func116, Try.ntmps116
  clear x0 xl
  have HNO := hide (fun (h : ¬ x.Form) => show false = tb x.Form from (tb_false h).symm)
  go_upto_region 1 with fail
  go_cut [4] from 6 to 21 (fun t wx => t = .bool (tb (crewOk x.jobs x.workers x.window)) ∧ Below w.heap.size w wx)
  case first =>
    go_wp2_with fail
    refine wp_region_held_drew (S := fun W => Below w.heap.size w W) (by kernel_rfl) (below_drewN (Below.refl _ _) 1) (fun hS0 => ?_)
    have hS00 := hS0
    refine wpAnyH_take (i := 0) (v := .pointer (some ⟨b, 0, none⟩)) rfl (by kernel_rfl) (by kernel_rfl) (by kernel_rfl) (fun _ _ _ h => h) (Or.inl ⟨by rfl, by (intro W hS; go_simp; first | done | with_reducible rfl | rfl)⟩) hS0 ?_
    refine wpAnyH_take (i := 1) (v := .pointer (some ⟨b, 0, none⟩)) rfl (by kernel_rfl) (by kernel_rfl) (by kernel_rfl) (fun _ _ _ h => h) (Or.inl ⟨by rfl, by (intro W hS; go_simp; first | done | with_reducible rfl | rfl)⟩) hS0 ?_
    refine wpAnyH_take (i := 2) (v := .pointer (some ⟨b, 0, none⟩)) rfl (by kernel_rfl) (by kernel_rfl) (by kernel_rfl) (fun _ _ _ h => h) (Or.inl ⟨by rfl, by (intro W hS; go_simp; first | done | with_reducible rfl | rfl)⟩) hS0 ?_
    refine wpAnyH_take (i := 3) (v := .int .i64 x.jobs) rfl (by kernel_rfl) (by kernel_rfl) (by kernel_rfl) (fun _ _ _ h => h) (Or.inl ⟨by rfl, by (intro W hS; have y := (HX.out.below hS HX.out.lt).cell 0; have yl := (HX.out.below hS HX.out.lt).lt; go_simp; first | done | with_reducible rfl | rfl)⟩) hS0 ?_
    refine wpAnyH_take (i := 4) (v := .pointer (some ⟨b, 0, none⟩)) rfl (by kernel_rfl) (by kernel_rfl) (by kernel_rfl) (fun _ _ _ h => h) (Or.inl ⟨by rfl, by (intro W hS; go_simp; first | done | with_reducible rfl | rfl)⟩) hS0 ?_
    refine wpAnyH_take (i := 5) (v := .pointer (some ⟨b, 0, none⟩)) rfl (by kernel_rfl) (by kernel_rfl) (by kernel_rfl) (fun _ _ _ h => h) (Or.inl ⟨by rfl, by (intro W hS; go_simp; first | done | with_reducible rfl | rfl)⟩) hS0 ?_
    refine wpAnyH_take (i := 6) (v := .pointer (some ⟨b, 1, none⟩)) rfl (by kernel_rfl) (by kernel_rfl) (by kernel_rfl) (fun _ _ _ h => h) (Or.inl ⟨by rfl, by (intro W hS; go_simp; first | done | with_reducible rfl | rfl)⟩) hS0 ?_
    refine wpAnyH_take (i := 7) (v := .int .i64 x.workers) rfl (by kernel_rfl) (by kernel_rfl) (by kernel_rfl) (fun _ _ _ h => h) (Or.inl ⟨by rfl, by (intro W hS; have y := (HX.out.below hS HX.out.lt).cell 1; have yl := (HX.out.below hS HX.out.lt).lt; go_simp; first | done | with_reducible rfl | rfl)⟩) hS0 ?_
    refine wpAnyH_take (i := 8) (v := .pointer (some ⟨b, 0, none⟩)) rfl (by kernel_rfl) (by kernel_rfl) (by kernel_rfl) (fun _ _ _ h => h) (Or.inl ⟨by rfl, by (intro W hS; go_simp; first | done | with_reducible rfl | rfl)⟩) hS0 ?_
    refine wpAnyH_take (i := 9) (v := .pointer (some ⟨b, 0, none⟩)) rfl (by kernel_rfl) (by kernel_rfl) (by kernel_rfl) (fun _ _ _ h => h) (Or.inl ⟨by rfl, by (intro W hS; go_simp; first | done | with_reducible rfl | rfl)⟩) hS0 ?_
    refine wpAnyH_take (i := 10) (v := .pointer (some ⟨b, 2, none⟩)) rfl (by kernel_rfl) (by kernel_rfl) (by kernel_rfl) (fun _ _ _ h => h) (Or.inl ⟨by rfl, by (intro W hS; go_simp; first | done | with_reducible rfl | rfl)⟩) hS0 ?_
    refine wpAnyH_take (i := 11) (v := .int .i64 x.window) rfl (by kernel_rfl) (by kernel_rfl) (by kernel_rfl) (fun _ _ _ h => h) (Or.inl ⟨by rfl, by (intro W hS; have y := (HX.out.below hS HX.out.lt).cell 2; have yl := (HX.out.below hS HX.out.lt).lt; go_simp; first | done | with_reducible rfl | rfl)⟩) hS0 ?_
    refine wpAnyH_ready (rs := [12, 16]) (by kernel_rfl) (by simp) ?_
    refine AllReadyH.cons rfl (fun K hK => ?_) ?_
    · go_simp
      go_at_call 23
      refine (implCrewStart_any x.jobs x.workers x.window _ wjobs wworkers wwindow).mono ?_
      rintro e w7 ⟨us7, fq7, rfl, ho7, hn7, hb7⟩
      have hl7 : us7.length = 18 := by rw [ho7.length, CrewWorld.cells_len]
      have HI7 := hide (show zeroCells.toArray.size = us7.toArray.size ∧ (Try.prog.info? 30).map (·.size) = some us7.toArray.size ∧ us7.toArray.all (·.oneCell') = true from ⟨by rw [List.size_toArray, List.size_toArray, hl7]; rfl, by rw [List.size_toArray, hl7]; kernel_rfl, Array.all_eq_true_iff_forall_mem.2 (fun v hv => OwC.cell1 _ ho7 v (by simpa using hv))⟩)
      have hS1 : Below w.heap.size w w7 := hS0.trans (hb7.mono hS0.size)
      try go_simp
      refine hK.out _ _ hS1 (fun hHeld => ?_)
      clear hK K
      have hS0 := hS1
      refine wpAnyH_take (i := 13) (v := .tuple #[.agg us7.toArray, .bool (tb (crewOk x.jobs x.workers x.window))]) rfl (by kernel_rfl) (by kernel_rfl) (by kernel_rfl) (fun _ _ _ h => h) (Or.inl ⟨by rfl, by (intro W hS; go_simp; first | done | with_reducible rfl | rfl)⟩) hS0 ?_
      refine wpAnyH_take (i := 14) (v := .agg us7.toArray) rfl (by kernel_rfl) (by kernel_rfl) (by kernel_rfl) (fun _ _ _ h => h) (Or.inl ⟨by rfl, by (intro W hS; go_simp; first | done | with_reducible rfl | rfl)⟩) hS0 ?_
      refine wpAnyH_take (i := 15) (v := .bool (tb (crewOk x.jobs x.workers x.window))) rfl (by kernel_rfl) (by kernel_rfl) (by kernel_rfl) (fun _ _ _ h => h) (Or.inl ⟨by rfl, by (intro W hS; go_simp; first | done | with_reducible rfl | rfl)⟩) hS0 ?_
      refine wpAnyH_ready (rs := [16]) (by kernel_rfl) (by simp) ?_
      refine AllReadyH.cons rfl (fun K hK => ?_) AllReadyH.nil
      go_simp
      have hS2 : Below w.heap.size w (w7.alloc (.cells zeroCells.toArray 30)) := hS1.alloc hS1.size _
      refine hK.out _ _ hS2 (fun hHeld => ?_)
      clear hK K
      have HZR := hide (show Row (w7.alloc (.cells zeroCells.toArray 30)) w7.heap.size 30 zeroCells from Row.new _ _ _)
      have hS00 := hS1
      have hS0 := hS2
      refine wpAnyH_ready (rs := [17]) (by kernel_rfl) (by simp) ?_
      refine AllReadyH.cons rfl (fun K hK => ?_) AllReadyH.nil
      rw [if_pos (by simp [Region.wanted])]
      refine wp_store_row 30 _ _ rfl w7.heap.size us7.toArray rfl rfl 30 zeroCells.toArray HZR.out HI7.out.2.1 HI7.out.1 HI7.out.2.2 ?_
      have hS3 := hS0.trans (below_of_grown (g := w7.heap.size) (setRow_grown (grown_refl _ _) us7.toArray) (by first | exact hS00.size | exact Nat.le_refl _) hS0.size)
      refine hK.out _ _ hS3 (fun hHeld => ?_)
      clear hK K
      refine wpAnyH_take (i := 18) (v := .bool (tb (crewOk x.jobs x.workers x.window))) rfl (by kernel_rfl) (by kernel_rfl) (by kernel_rfl) (fun _ _ _ h => h) (Or.inl ⟨by rfl, by (intro W hS; go_simp; first | done | with_reducible rfl | rfl)⟩) hS3 ?_
      refine wpAnyH_done (by kernel_rfl) ?_ _
      go_wp2_with fail
      go_meet
      exact ⟨rfl, hS3⟩
    refine AllReadyH.cons rfl (fun K hK => ?_) AllReadyH.nil
    go_simp
    have hS2 : Below w.heap.size w (w.drew.alloc (.cells zeroCells.toArray 30)) := hS0.alloc hS0.size _
    refine hK.out _ _ hS2 (fun hHeld => ?_)
    clear hK K
    have hS0 := hS2
    refine wpAnyH_ready (rs := [12]) (by kernel_rfl) (by simp) ?_
    refine AllReadyH.cons rfl (fun K hK => ?_) AllReadyH.nil
    go_simp
    go_at_call 23
    refine (implCrewStart_any x.jobs x.workers x.window _ wjobs wworkers wwindow).mono ?_
    rintro e w7 ⟨us7, fq7, rfl, ho7, hn7, hb7⟩
    have hl7 : us7.length = 18 := by rw [ho7.length, CrewWorld.cells_len]
    have HI7 := hide (show zeroCells.toArray.size = us7.toArray.size ∧ (Try.prog.info? 30).map (·.size) = some us7.toArray.size ∧ us7.toArray.all (·.oneCell') = true from ⟨by rw [List.size_toArray, List.size_toArray, hl7]; rfl, by rw [List.size_toArray, hl7]; kernel_rfl, Array.all_eq_true_iff_forall_mem.2 (fun v hv => OwC.cell1 _ ho7 v (by simpa using hv))⟩)
    have hS1 : Below w.heap.size w w7 := hS0.trans (hb7.mono hS0.size)
    try go_simp
    refine hK.out _ _ hS1 (fun hHeld => ?_)
    clear hK K
    have HZR := hide (show Row w7 w.heap.size 30 zeroCells from (Row.new w.drew _ _).below hb7 (Row.new w.drew 30 zeroCells).lt)
    have hS0 := hS1
    refine wpAnyH_take (i := 13) (v := .tuple #[.agg us7.toArray, .bool (tb (crewOk x.jobs x.workers x.window))]) rfl (by kernel_rfl) (by kernel_rfl) (by kernel_rfl) (fun _ _ _ h => h) (Or.inl ⟨by rfl, by (intro W hS; go_simp; first | done | with_reducible rfl | rfl)⟩) hS0 ?_
    refine wpAnyH_take (i := 14) (v := .agg us7.toArray) rfl (by kernel_rfl) (by kernel_rfl) (by kernel_rfl) (fun _ _ _ h => h) (Or.inl ⟨by rfl, by (intro W hS; go_simp; first | done | with_reducible rfl | rfl)⟩) hS0 ?_
    refine wpAnyH_take (i := 15) (v := .bool (tb (crewOk x.jobs x.workers x.window))) rfl (by kernel_rfl) (by kernel_rfl) (by kernel_rfl) (fun _ _ _ h => h) (Or.inl ⟨by rfl, by (intro W hS; go_simp; first | done | with_reducible rfl | rfl)⟩) hS0 ?_
    refine wpAnyH_ready (rs := [17]) (by kernel_rfl) (by simp) ?_
    refine AllReadyH.cons rfl (fun K hK => ?_) AllReadyH.nil
    rw [if_pos (by simp [Region.wanted])]
    refine wp_store_row 30 _ _ rfl w.heap.size us7.toArray rfl rfl 30 zeroCells.toArray HZR.out HI7.out.2.1 HI7.out.1 HI7.out.2.2 ?_
    have hS3 := hS0.trans (below_of_grown (g := w.heap.size) (setRow_grown (grown_refl _ _) us7.toArray) (by first | exact hS00.size | exact Nat.le_refl _) hS0.size)
    refine hK.out _ _ hS3 (fun hHeld => ?_)
    clear hK K
    refine wpAnyH_take (i := 18) (v := .bool (tb (crewOk x.jobs x.workers x.window))) rfl (by kernel_rfl) (by kernel_rfl) (by kernel_rfl) (fun _ _ _ h => h) (Or.inl ⟨by rfl, by (intro W hS; go_simp; first | done | with_reducible rfl | rfl)⟩) hS3 ?_
    refine wpAnyH_done (by kernel_rfl) ?_ _
    go_wp2_with fail
    go_meet
    exact ⟨rfl, hS3⟩
  obtain ⟨rfl, hb3⟩ := hcut
  obtain ⟨w3, rfl⟩ : ∃ W, W = wc := ⟨_, rfl⟩
  have HXn := hide (HX.out.below hb3 HX.out.lt)
  have HB := hide hb3
  have R2 := hide (O2.out.below hb3 l2)
  have R7 := hide (O7.out.below hb3 l7)
  have k2 := hide (l2.up hb3)
  have k7 := hide (l7.up hb3)
  clear hb3 HX O2 O7 l2 l7
  have HX := HXn
  clear HXn
  by_cases hst : crewOk x.jobs x.workers x.window
  rotate_left
  · rw [tb_false hst]
    have HZ := hide (HNO.out (fun hp => hst hp.start))
    clear hst
    have xl := HX.out.lt
    go_wp2_with fail
    go_quiet (fail)
    go_wp2
    go_ret
    exact ⟨ret_bool HZ.out, below_drewN HB.out _⟩
  rw [tb_true hst]
  have HST := hide hst
  have hjj := hst.1
  have hww := hst.2.1
  have hwn := hst.2.2
  clear hst
  have x0 := HX.out.cell 0
  have x1 := HX.out.cell 1
  have x2 := HX.out.cell 2
  have x3 := HX.out.cell 3
  have x5 := HX.out.cell 5
  have x6 := HX.out.cell 6
  have x8 := HX.out.cell 8
  have x10 := HX.out.cell 10
  have x11 := HX.out.cell 11
  have x12 := HX.out.cell 12
  have x15 := HX.out.cell 15
  have x16 := HX.out.cell 16
  have x17 := HX.out.cell 17
  have xl := HX.out.lt
  go_upto_region 2 with fail
  go_cut [66] from 21 to 67 (fun t wx => t = .bool (!(tb ((0 ≤ x.next ∧ x.next ≤ x.jobs) ∧ (0 ≤ x.due ∧ x.due ≤ x.next) ∧ (0 ≤ x.room ∧ x.room ≤ x.window) ∧ (0 ≤ x.ops ∧ x.ops ≤ 10000)))) ∧ Below w3.heap.size w3 wx)
  case first =>
    by_cases c0 : 0 ≤ x.next ∧ x.next ≤ x.jobs
    rotate_left
    · have HV := hide (show (!(tb ((0 ≤ x.next ∧ x.next ≤ x.jobs) ∧ (0 ≤ x.due ∧ x.due ≤ x.next) ∧ (0 ≤ x.room ∧ x.room ≤ x.window) ∧ (0 ≤ x.ops ∧ x.ops ≤ 10000)))) = true from by rw [tb_false (fun h => c0 h.1)]; rfl)
      have I0 := hide (tb_false c0)
      clear c0
      go_wp2_with fail
      go_quiet ((first | (go_at_call 68; exact Calls.quiet_of_same (inRange_b I0.out))))
      go_wp2_with fail
      go_meet
      exact ⟨congrArg Value.bool HV.out.symm, below_drewN (Below.refl _ _) _⟩
    have I0 := hide (tb_true c0)
    have J0 := hide c0
    clear c0
    by_cases c1 : 0 ≤ x.due ∧ x.due ≤ x.next
    rotate_left
    · have HV := hide (show (!(tb ((0 ≤ x.next ∧ x.next ≤ x.jobs) ∧ (0 ≤ x.due ∧ x.due ≤ x.next) ∧ (0 ≤ x.room ∧ x.room ≤ x.window) ∧ (0 ≤ x.ops ∧ x.ops ≤ 10000)))) = true from by rw [tb_false (fun h => c1 h.2.1)]; rfl)
      have I1 := hide (tb_false c1)
      clear c1
      go_wp2_with fail
      go_quiet ((first | (go_at_call 68; exact Calls.quiet_of_same (inRange_b I0.out)) | (go_at_call 68; exact Calls.quiet_of_same (inRange_b I1.out))))
      go_wp2_with fail
      go_meet
      exact ⟨congrArg Value.bool HV.out.symm, below_drewN (Below.refl _ _) _⟩
    have I1 := hide (tb_true c1)
    have J1 := hide c1
    clear c1
    by_cases c2 : 0 ≤ x.room ∧ x.room ≤ x.window
    rotate_left
    · have HV := hide (show (!(tb ((0 ≤ x.next ∧ x.next ≤ x.jobs) ∧ (0 ≤ x.due ∧ x.due ≤ x.next) ∧ (0 ≤ x.room ∧ x.room ≤ x.window) ∧ (0 ≤ x.ops ∧ x.ops ≤ 10000)))) = true from by rw [tb_false (fun h => c2 h.2.2.1)]; rfl)
      have I2 := hide (tb_false c2)
      clear c2
      go_wp2_with fail
      go_quiet ((first | (go_at_call 68; exact Calls.quiet_of_same (inRange_b I0.out)) | (go_at_call 68; exact Calls.quiet_of_same (inRange_b I1.out)) | (go_at_call 68; exact Calls.quiet_of_same (inRange_b I2.out))))
      go_wp2_with fail
      go_meet
      exact ⟨congrArg Value.bool HV.out.symm, below_drewN (Below.refl _ _) _⟩
    have I2 := hide (tb_true c2)
    have J2 := hide c2
    clear c2
    by_cases c3 : 0 ≤ x.ops ∧ x.ops ≤ 10000
    rotate_left
    · have HV := hide (show (!(tb ((0 ≤ x.next ∧ x.next ≤ x.jobs) ∧ (0 ≤ x.due ∧ x.due ≤ x.next) ∧ (0 ≤ x.room ∧ x.room ≤ x.window) ∧ (0 ≤ x.ops ∧ x.ops ≤ 10000)))) = true from by rw [tb_false (fun h => c3 h.2.2.2)]; rfl)
      have I3 := hide (tb_false c3)
      clear c3
      go_wp2_with fail
      go_quiet ((first | (go_at_call 68; exact Calls.quiet_of_same (inRange_b I0.out)) | (go_at_call 68; exact Calls.quiet_of_same (inRange_b I1.out)) | (go_at_call 68; exact Calls.quiet_of_same (inRange_b I2.out)) | (go_at_call 68; exact Calls.quiet_of_same (inRange_b I3.out))))
      go_wp2_with fail
      go_meet
      exact ⟨congrArg Value.bool HV.out.symm, below_drewN (Below.refl _ _) _⟩
    have I3 := hide (tb_true c3)
    have J3 := hide c3
    clear c3
    have HV := hide (show (!(tb ((0 ≤ x.next ∧ x.next ≤ x.jobs) ∧ (0 ≤ x.due ∧ x.due ≤ x.next) ∧ (0 ≤ x.room ∧ x.room ≤ x.window) ∧ (0 ≤ x.ops ∧ x.ops ≤ 10000)))) = false from by rw [tb_true ⟨J0.out, J1.out, J2.out, J3.out⟩]; rfl)
    go_wp2_with fail
    go_quiet ((first | (go_at_call 68; exact Calls.quiet_of_same (inRange_b I0.out)) | (go_at_call 68; exact Calls.quiet_of_same (inRange_b I1.out)) | (go_at_call 68; exact Calls.quiet_of_same (inRange_b I2.out)) | (go_at_call 68; exact Calls.quiet_of_same (inRange_b I3.out))))
    go_wp2_with fail
    go_meet
    exact ⟨congrArg Value.bool HV.out.symm, below_drewN (Below.refl _ _) _⟩
  obtain ⟨rfl, hb4⟩ := hcut
  obtain ⟨w4, rfl⟩ : ∃ W, W = wc := ⟨_, rfl⟩
  have HXn := hide (HX.out.below hb4 HX.out.lt)
  have HBn := hide (HB.out.trans (hb4.mono HB.out.size))
  have R2n := hide (R2.out.below hb4 k2.out)
  have R7n := hide (R7.out.below hb4 k7.out)
  have k2n := hide (k2.out.up hb4)
  have k7n := hide (k7.out.up hb4)
  clear hb4 HX HB R2 R7 k2 k7 x0 x1 x2 x3 x5 x6 x8 x10 x11 x12 x15 x16 x17 xl
  have HX := HXn
  have HB := HBn
  have R2 := R2n
  have R7 := R7n
  have k2 := k2n
  have k7 := k7n
  clear HXn HBn R2n R7n k2n k7n
  by_cases hC : (0 ≤ x.next ∧ x.next ≤ x.jobs) ∧ (0 ≤ x.due ∧ x.due ≤ x.next) ∧ (0 ≤ x.room ∧ x.room ≤ x.window) ∧ (0 ≤ x.ops ∧ x.ops ≤ 10000)
  rotate_left
  · rw [tb_false hC]
    have HZ := hide (HNO.out (fun hp => hC ⟨hp.next, hp.due, hp.room, hp.ops⟩))
    clear hC
    go_wp2
    go_ret
    exact ⟨ret_bool HZ.out, HB.out⟩
  rw [tb_true hC]
  have HC4 := hide hC
  clear hC
  have x0 := HX.out.cell 0
  have x1 := HX.out.cell 1
  have x2 := HX.out.cell 2
  have x3 := HX.out.cell 3
  have x5 := HX.out.cell 5
  have x6 := HX.out.cell 6
  have x8 := HX.out.cell 8
  have x10 := HX.out.cell 10
  have x11 := HX.out.cell 11
  have x12 := HX.out.cell 12
  have x15 := HX.out.cell 15
  have x16 := HX.out.cell 16
  have x17 := HX.out.cell 17
  have xl := HX.out.lt
  go_upto_region 4 with fail
  go_cut [128] from 67 to 129 (fun t wx => t = .bool (!(tb (((x.hands.length : Int) = x.workers) ∧ ((x.ring.length : Int) = x.window) ∧ (x.shut.length = 4) ∧ ((x.queue.length : Int) ≤ x.workers) ∧ ((x.results.length : Int) ≤ x.workers) ∧ (x.out.length ≤ 1)))) ∧ Below w4.heap.size w4 wx)
  case first =>
    by_cases c0 : (x.hands.length : Int) = x.workers
    rotate_left
    · have HV := hide (show (!(tb (((x.hands.length : Int) = x.workers) ∧ ((x.ring.length : Int) = x.window) ∧ (x.shut.length = 4) ∧ ((x.queue.length : Int) ≤ x.workers) ∧ ((x.results.length : Int) ≤ x.workers) ∧ (x.out.length ≤ 1)))) = true from by rw [tb_false (fun h => c0 h.1)]; rfl)
      have e0 := bnet' c0
      clear c0
      go_wp2_with fail
      go_quiet (fail)
      go_wp2_with fail
      go_meet
      exact ⟨congrArg Value.bool HV.out.symm, below_drewN (Below.refl _ _) _⟩
    have e0 := bnef' c0
    have J0 := hide c0
    clear c0
    by_cases c1 : (x.ring.length : Int) = x.window
    rotate_left
    · have HV := hide (show (!(tb (((x.hands.length : Int) = x.workers) ∧ ((x.ring.length : Int) = x.window) ∧ (x.shut.length = 4) ∧ ((x.queue.length : Int) ≤ x.workers) ∧ ((x.results.length : Int) ≤ x.workers) ∧ (x.out.length ≤ 1)))) = true from by rw [tb_false (fun h => c1 h.2.1)]; rfl)
      have e1 := bnet' c1
      clear c1
      go_wp2_with fail
      go_quiet (fail)
      go_wp2_with fail
      go_meet
      exact ⟨congrArg Value.bool HV.out.symm, below_drewN (Below.refl _ _) _⟩
    have e1 := bnef' c1
    have J1 := hide c1
    clear c1
    by_cases c2 : x.shut.length = 4
    rotate_left
    · have HV := hide (show (!(tb (((x.hands.length : Int) = x.workers) ∧ ((x.ring.length : Int) = x.window) ∧ (x.shut.length = 4) ∧ ((x.queue.length : Int) ≤ x.workers) ∧ ((x.results.length : Int) ≤ x.workers) ∧ (x.out.length ≤ 1)))) = true from by rw [tb_false (fun h => c2 h.2.2.1)]; rfl)
      have e2 : ((x.shut.length : Int) != 4) = true := bnet' (by omega)
      clear c2
      go_wp2_with fail
      go_quiet (fail)
      go_wp2_with fail
      go_meet
      exact ⟨congrArg Value.bool HV.out.symm, below_drewN (Below.refl _ _) _⟩
    have e2 : ((x.shut.length : Int) != 4) = false := bnef' (by omega)
    have J2 := hide c2
    clear c2
    by_cases c3 : (x.queue.length : Int) ≤ x.workers
    rotate_left
    · have HV := hide (show (!(tb (((x.hands.length : Int) = x.workers) ∧ ((x.ring.length : Int) = x.window) ∧ (x.shut.length = 4) ∧ ((x.queue.length : Int) ≤ x.workers) ∧ ((x.results.length : Int) ≤ x.workers) ∧ (x.out.length ≤ 1)))) = true from by rw [tb_false (fun h => c3 h.2.2.2.1)]; rfl)
      have e3 : decide (x.workers < (x.queue.length : Int)) = true := dec_true (by omega)
      clear c3
      go_wp2_with fail
      go_quiet (fail)
      go_wp2_with fail
      go_meet
      exact ⟨congrArg Value.bool HV.out.symm, below_drewN (Below.refl _ _) _⟩
    have e3 : decide (x.workers < (x.queue.length : Int)) = false := dec_false (by omega)
    have J3 := hide c3
    clear c3
    by_cases c4 : (x.results.length : Int) ≤ x.workers
    rotate_left
    · have HV := hide (show (!(tb (((x.hands.length : Int) = x.workers) ∧ ((x.ring.length : Int) = x.window) ∧ (x.shut.length = 4) ∧ ((x.queue.length : Int) ≤ x.workers) ∧ ((x.results.length : Int) ≤ x.workers) ∧ (x.out.length ≤ 1)))) = true from by rw [tb_false (fun h => c4 h.2.2.2.2.1)]; rfl)
      have e4 : decide (x.workers < (x.results.length : Int)) = true := dec_true (by omega)
      clear c4
      go_wp2_with fail
      go_quiet (fail)
      go_wp2_with fail
      go_meet
      exact ⟨congrArg Value.bool HV.out.symm, below_drewN (Below.refl _ _) _⟩
    have e4 : decide (x.workers < (x.results.length : Int)) = false := dec_false (by omega)
    have J4 := hide c4
    clear c4
    by_cases c5 : x.out.length ≤ 1
    rotate_left
    · have HV := hide (show (!(tb (((x.hands.length : Int) = x.workers) ∧ ((x.ring.length : Int) = x.window) ∧ (x.shut.length = 4) ∧ ((x.queue.length : Int) ≤ x.workers) ∧ ((x.results.length : Int) ≤ x.workers) ∧ (x.out.length ≤ 1)))) = true from by rw [tb_false (fun h => c5 h.2.2.2.2.2)]; rfl)
      have e5 : decide (1 < (x.out.length : Int)) = true := dec_true (by omega)
      have f5 : decide (1 < x.out.length) = true := dec_true (by omega)
      clear c5
      go_wp2_with fail
      go_quiet (fail)
      go_wp2_with fail
      go_meet
      exact ⟨congrArg Value.bool HV.out.symm, below_drewN (Below.refl _ _) _⟩
    have e5 : decide (1 < (x.out.length : Int)) = false := dec_false (by omega)
    have f5 : decide (1 < x.out.length) = false := dec_false (by omega)
    have J5 := hide c5
    clear c5
    have HV := hide (show (!(tb (((x.hands.length : Int) = x.workers) ∧ ((x.ring.length : Int) = x.window) ∧ (x.shut.length = 4) ∧ ((x.queue.length : Int) ≤ x.workers) ∧ ((x.results.length : Int) ≤ x.workers) ∧ (x.out.length ≤ 1)))) = false from by rw [tb_true ⟨J0.out, J1.out, J2.out, J3.out, J4.out, J5.out⟩]; rfl)
    go_wp2_with fail
    go_quiet (fail)
    go_wp2_with fail
    go_meet
    exact ⟨congrArg Value.bool HV.out.symm, below_drewN (Below.refl _ _) _⟩
  obtain ⟨rfl, hb5⟩ := hcut
  obtain ⟨w5, rfl⟩ : ∃ W, W = wc := ⟨_, rfl⟩
  have HXn := hide (HX.out.below hb5 HX.out.lt)
  have HBn := hide (HB.out.trans (hb5.mono HB.out.size))
  have R2n := hide (R2.out.below hb5 k2.out)
  have R7n := hide (R7.out.below hb5 k7.out)
  have k2n := hide (k2.out.up hb5)
  have k7n := hide (k7.out.up hb5)
  clear hb5 HX HB R2 R7 k2 k7 x0 x1 x2 x3 x5 x6 x8 x10 x11 x12 x15 x16 x17 xl
  have HX := HXn
  have HB := HBn
  have R2 := R2n
  have R7 := R7n
  have k2 := k2n
  have k7 := k7n
  clear HXn HBn R2n R7n k2n k7n
  by_cases hC : ((x.hands.length : Int) = x.workers) ∧ ((x.ring.length : Int) = x.window) ∧ (x.shut.length = 4) ∧ ((x.queue.length : Int) ≤ x.workers) ∧ ((x.results.length : Int) ≤ x.workers) ∧ (x.out.length ≤ 1)
  rotate_left
  · rw [tb_false hC]
    have HZ := hide (HNO.out (fun hp => hC ⟨hp.hands, hp.ring, hp.shut, hp.queue, hp.results, hp.out⟩))
    clear hC
    go_wp2
    go_ret
    exact ⟨ret_bool HZ.out, HB.out⟩
  rw [tb_true hC]
  have HC5 := hide hC
  clear hC
  have x16 := HX.out.cell 16
  have xl := HX.out.lt
  have HHC := hide (fun (W : World) (hb : Below w5.heap.size w5 W) => handBadAny_any x.hands A2 _ c2 f2 W (R2.out.below hb k2.out) (k2.out.up hb))
  have HSC := hide (shutBadAny_any x.shut A7 _ c7 f7 w5 R7.out k7.out)
  by_cases hs : ∃ y ∈ x.shut, BadBit y
  · have HZ := hide (HNO.out (fun hp => by obtain ⟨y, hy, hbd⟩ := hs; exact hbd (hp.shuts y hy)))
    have HSH := hide (show Calls Try.prog 151 #[.slice A7 x.shut.length c7, .func (.func 152) #[] #[]] w5 (fun e w' => e = .returned (.bool true) ∧ Below w5.heap.size w5 w') from by have h := HSC.out; rw [tb_true hs] at h; exact h)
    clear hs
    go_wp2_with (first | (go_at_call 151; refine HSH.out.mono ?_; rintro e wq ⟨rfl, hbq⟩) | fail)
    go_ret
    exact ⟨ret_bool HZ.out, HB.out.trans (hbq.mono HB.out.size)⟩
  have HSH := hide (show Calls Try.prog 151 #[.slice A7 x.shut.length c7, .func (.func 152) #[] #[]] w5 (fun e w' => e = .returned (.bool false) ∧ Below w5.heap.size w5 w') from by have h := HSC.out; rw [tb_false hs] at h; exact h)
  have HSA := hide (show ∀ n ∈ x.shut, 0 ≤ n ∧ n ≤ 1 from fun n hn => Classical.byContradiction (fun h => hs ⟨n, hn, h⟩))
  clear hs HSC
  by_cases hs : ∃ y ∈ x.hands, ¬ y.fine
  · have HZ := hide (HNO.out (fun hp => by obtain ⟨y, hy, hbd⟩ := hs; exact hbd (hp.fine y hy)))
    have HHD := hide (fun (W : World) (hb : Below w5.heap.size w5 W) => show Calls Try.prog 121 #[.slice A2 x.hands.length c2, .func (.func 153) #[] #[]] W (fun e w' => e = .returned (.bool true) ∧ Below W.heap.size W w') from by have h := HHC.out W hb; rw [tb_true hs] at h; exact h)
    clear hs
    go_wp2_with (first | (go_at_call 151; refine HSH.out.mono ?_; rintro e wq ⟨rfl, hbq⟩; have y6 := (HX.out.below hbq HX.out.lt).cell 6; have yl := (HX.out.below hbq HX.out.lt).lt; have hbl := hbq) | (go_at_call 121; refine (HHD.out _ hbq).mono ?_; rintro e wr ⟨rfl, hbr⟩; have hbs := hbq.trans (hbr.mono hbq.size); have y4 := (HX.out.below hbs HX.out.lt).cell 4; have y7 := (HX.out.below hbs HX.out.lt).cell 7; have y9 := (HX.out.below hbs HX.out.lt).cell 9; have y13 := (HX.out.below hbs HX.out.lt).cell 13; have yl2 := (HX.out.below hbs HX.out.lt).lt) | fail)
    go_ret
    exact ⟨ret_bool HZ.out, HB.out.trans (hbs.mono HB.out.size)⟩
  have HHD := hide (fun (W : World) (hb : Below w5.heap.size w5 W) => show Calls Try.prog 121 #[.slice A2 x.hands.length c2, .func (.func 153) #[] #[]] W (fun e w' => e = .returned (.bool false) ∧ Below W.heap.size W w') from by have h := HHC.out W hb; rw [tb_false hs] at h; exact h)
  have HHA := hide (show ∀ h ∈ x.hands, h.fine from fun n hn => Classical.byContradiction (fun h => hs ⟨n, hn, h⟩))
  clear hs HHC
  by_cases c0 : 0 ≤ x.reader ∧ x.reader ≤ 3
  rotate_left
  · have I0 := hide (tb_false c0)
    have HZ := hide (HNO.out (fun hp => c0 hp.reader))
    clear c0
    go_wp2_with (first | (go_at_call 151; refine HSH.out.mono ?_; rintro e wq ⟨rfl, hbq⟩; have y6 := (HX.out.below hbq HX.out.lt).cell 6; have yl := (HX.out.below hbq HX.out.lt).lt; have hbl := hbq) | (go_at_call 121; refine (HHD.out _ hbq).mono ?_; rintro e wr ⟨rfl, hbr⟩; have hbs := hbq.trans (hbr.mono hbq.size); have y4 := (HX.out.below hbs HX.out.lt).cell 4; have y7 := (HX.out.below hbs HX.out.lt).cell 7; have y9 := (HX.out.below hbs HX.out.lt).cell 9; have y13 := (HX.out.below hbs HX.out.lt).cell 13; have yl2 := (HX.out.below hbs HX.out.lt).lt) | (go_at_call 68; (with_reducible show Calls _ _ #[.int .i64 x.reader, _, _] _ _); refine (inRange_b I0.out).mono ?_; rintro e wz ⟨rfl, rfl⟩) | fail)
    go_ret
    exact ⟨ret_bool HZ.out, HB.out.trans (hbs.mono HB.out.size)⟩
  have I0 := hide (tb_true c0)
  have J0 := hide c0
  clear c0
  by_cases c1 : 0 ≤ x.closer ∧ x.closer ≤ 1
  rotate_left
  · have I1 := hide (tb_false c1)
    have HZ := hide (HNO.out (fun hp => c1 hp.closer))
    clear c1
    go_wp2_with (first | (go_at_call 151; refine HSH.out.mono ?_; rintro e wq ⟨rfl, hbq⟩; have y6 := (HX.out.below hbq HX.out.lt).cell 6; have yl := (HX.out.below hbq HX.out.lt).lt; have hbl := hbq) | (go_at_call 121; refine (HHD.out _ hbq).mono ?_; rintro e wr ⟨rfl, hbr⟩; have hbs := hbq.trans (hbr.mono hbq.size); have y4 := (HX.out.below hbs HX.out.lt).cell 4; have y7 := (HX.out.below hbs HX.out.lt).cell 7; have y9 := (HX.out.below hbs HX.out.lt).cell 9; have y13 := (HX.out.below hbs HX.out.lt).cell 13; have yl2 := (HX.out.below hbs HX.out.lt).lt) | (go_at_call 68; (with_reducible show Calls _ _ #[.int .i64 x.reader, _, _] _ _); refine (inRange_b I0.out).mono ?_; rintro e wz ⟨rfl, rfl⟩) | (go_at_call 68; (with_reducible show Calls _ _ #[.int .i64 x.closer, _, _] _ _); refine (inRange_b I1.out).mono ?_; rintro e wz ⟨rfl, rfl⟩) | fail)
    go_ret
    exact ⟨ret_bool HZ.out, HB.out.trans (hbs.mono HB.out.size)⟩
  have I1 := hide (tb_true c1)
  have J1 := hide c1
  clear c1
  by_cases c2 : 0 ≤ x.keeper ∧ x.keeper ≤ 5
  rotate_left
  · have I2 := hide (tb_false c2)
    have HZ := hide (HNO.out (fun hp => c2 hp.keeper))
    clear c2
    go_wp2_with (first | (go_at_call 151; refine HSH.out.mono ?_; rintro e wq ⟨rfl, hbq⟩; have y6 := (HX.out.below hbq HX.out.lt).cell 6; have yl := (HX.out.below hbq HX.out.lt).lt; have hbl := hbq) | (go_at_call 121; refine (HHD.out _ hbq).mono ?_; rintro e wr ⟨rfl, hbr⟩; have hbs := hbq.trans (hbr.mono hbq.size); have y4 := (HX.out.below hbs HX.out.lt).cell 4; have y7 := (HX.out.below hbs HX.out.lt).cell 7; have y9 := (HX.out.below hbs HX.out.lt).cell 9; have y13 := (HX.out.below hbs HX.out.lt).cell 13; have yl2 := (HX.out.below hbs HX.out.lt).lt) | (go_at_call 68; (with_reducible show Calls _ _ #[.int .i64 x.reader, _, _] _ _); refine (inRange_b I0.out).mono ?_; rintro e wz ⟨rfl, rfl⟩) | (go_at_call 68; (with_reducible show Calls _ _ #[.int .i64 x.closer, _, _] _ _); refine (inRange_b I1.out).mono ?_; rintro e wz ⟨rfl, rfl⟩) | (go_at_call 68; (with_reducible show Calls _ _ #[.int .i64 x.keeper, _, _] _ _); refine (inRange_b I2.out).mono ?_; rintro e wz ⟨rfl, rfl⟩) | fail)
    go_ret
    exact ⟨ret_bool HZ.out, HB.out.trans (hbs.mono HB.out.size)⟩
  have I2 := hide (tb_true c2)
  have J2 := hide c2
  clear c2
  by_cases c3 : 0 ≤ x.user ∧ x.user ≤ 1
  rotate_left
  · have I3 := hide (tb_false c3)
    have HZ := hide (HNO.out (fun hp => c3 hp.user))
    clear c3
    go_wp2_with (first | (go_at_call 151; refine HSH.out.mono ?_; rintro e wq ⟨rfl, hbq⟩; have y6 := (HX.out.below hbq HX.out.lt).cell 6; have yl := (HX.out.below hbq HX.out.lt).lt; have hbl := hbq) | (go_at_call 121; refine (HHD.out _ hbq).mono ?_; rintro e wr ⟨rfl, hbr⟩; have hbs := hbq.trans (hbr.mono hbq.size); have y4 := (HX.out.below hbs HX.out.lt).cell 4; have y7 := (HX.out.below hbs HX.out.lt).cell 7; have y9 := (HX.out.below hbs HX.out.lt).cell 9; have y13 := (HX.out.below hbs HX.out.lt).cell 13; have yl2 := (HX.out.below hbs HX.out.lt).lt) | (go_at_call 68; (with_reducible show Calls _ _ #[.int .i64 x.reader, _, _] _ _); refine (inRange_b I0.out).mono ?_; rintro e wz ⟨rfl, rfl⟩) | (go_at_call 68; (with_reducible show Calls _ _ #[.int .i64 x.closer, _, _] _ _); refine (inRange_b I1.out).mono ?_; rintro e wz ⟨rfl, rfl⟩) | (go_at_call 68; (with_reducible show Calls _ _ #[.int .i64 x.keeper, _, _] _ _); refine (inRange_b I2.out).mono ?_; rintro e wz ⟨rfl, rfl⟩) | (go_at_call 68; (with_reducible show Calls _ _ #[.int .i64 x.user, _, _] _ _); refine (inRange_b I3.out).mono ?_; rintro e wz ⟨rfl, rfl⟩) | fail)
    go_ret
    exact ⟨ret_bool HZ.out, HB.out.trans (hbs.mono HB.out.size)⟩
  have I3 := hide (tb_true c3)
  have J3 := hide c3
  clear c3
  have HZ := hide (show true = tb x.Form from (tb_true ⟨HST.out, HC4.out.1, HC4.out.2.1, HC4.out.2.2.1, HC4.out.2.2.2, HC5.out.1, HC5.out.2.1, HC5.out.2.2.1, HC5.out.2.2.2.1, HC5.out.2.2.2.2.1, HC5.out.2.2.2.2.2, HSA.out, HHA.out, J0.out, J1.out, J2.out, J3.out⟩).symm)
  go_wp2_with (first | (go_at_call 151; refine HSH.out.mono ?_; rintro e wq ⟨rfl, hbq⟩; have y6 := (HX.out.below hbq HX.out.lt).cell 6; have yl := (HX.out.below hbq HX.out.lt).lt; have hbl := hbq) | (go_at_call 121; refine (HHD.out _ hbq).mono ?_; rintro e wr ⟨rfl, hbr⟩; have hbs := hbq.trans (hbr.mono hbq.size); have y4 := (HX.out.below hbs HX.out.lt).cell 4; have y7 := (HX.out.below hbs HX.out.lt).cell 7; have y9 := (HX.out.below hbs HX.out.lt).cell 9; have y13 := (HX.out.below hbs HX.out.lt).cell 13; have yl2 := (HX.out.below hbs HX.out.lt).lt) | (go_at_call 68; (with_reducible show Calls _ _ #[.int .i64 x.reader, _, _] _ _); refine (inRange_b I0.out).mono ?_; rintro e wz ⟨rfl, rfl⟩) | (go_at_call 68; (with_reducible show Calls _ _ #[.int .i64 x.closer, _, _] _ _); refine (inRange_b I1.out).mono ?_; rintro e wz ⟨rfl, rfl⟩) | (go_at_call 68; (with_reducible show Calls _ _ #[.int .i64 x.keeper, _, _] _ _); refine (inRange_b I2.out).mono ?_; rintro e wz ⟨rfl, rfl⟩) | (go_at_call 68; (with_reducible show Calls _ _ #[.int .i64 x.user, _, _] _ _); refine (inRange_b I3.out).mono ?_; rintro e wz ⟨rfl, rfl⟩) | fail)
  go_ret
  exact ⟨ret_bool HZ.out, HB.out.trans (hbs.mono HB.out.size)⟩
end Go.Proofs.Ytpkjjfnfolbcoaa
