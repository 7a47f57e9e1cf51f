/-
  The cases of each of a crew: the program's keeperCases, handCases. The cases of somebody that are ready: the program. The moves of a world: the program.
-/
import Derived.Deep.Cut
import Derived.Test.YtpkjjfnfolbcoaaQTri
import Derived.Test.YtpkjjfnfolbcoaaQTriI
set_option linter.unusedVariables false
set_option linter.unusedSimpArgs false
namespace Go.Proofs.Ytpkjjfnfolbcoaa
open Go.ChangeShapes Go.WideShapes Go.ChangeAt Go.RowKit

set_option maxRecDepth 100000 in
set_option maxHeartbeats 8000000 in
theorem keeperCases_any (x : CrewWorld) (us : List Value) (fp : List Nat) (b : Nat) (w : World) (hb : Row w b 30 us) (ho : OwC w x.cells us fp) (hf : Lt fp w.heap.size) (hfm : x.Form) : Calls Try.prog 163 #[.pointer (some ⟨b, 0, none⟩)] w (TriOut x.kc w) := by
  have HFM := hide hfm
  clear hfm
  have HO := hide ho
  have HF := hide hf
  obtain ⟨A1, c1, A2, c2, A3, c3, A4, c4, A5, c5, A6, c6, A7, c7, f1, f2, f3, f4, f5, f6, f7, rfl, wjobs, wworkers, wwindow, wnext, wreader, o1, o2, wcloser, o3, wkeeper, o4, wdue, o5, wuser, o6, wroom, o7, wops, rfl⟩ := ho.oCrewWorld
  have O7 := hide o7
  have l7 := hf.right.right.right.right.right.right
  obtain ⟨-, n7, m7⟩ := o7.nlen
  unfold maxLen at m7
  have HX := hide hb
  clear ho hb o1 o2 o3 o4 o5 o6 o7
  have x0 := HX.out.cell 0
  have xl := HX.out.lt
  go_enter Try.func163, Try.ntmps163
  clear x0
  go_upto_region 1 with fail
  generalize hw1 : w.alloc _ = w1
  have hb0 : Below w.heap.size w w1 := by rw [← hw1]; exact (Below.refl _ _).alloc (Nat.le_refl _) _
  have HZ := hide (show Row w1 w.heap.size 179 [.bool false, .bool false, .bool false] from by rw [← hw1]; exact Row.new w _ _)
  have HB := hide hb0
  have HX1 := hide (HX.out.below hb0 HX.out.lt)
  have HST := hide (isStopped_any x _ _ b w1 HX1.out (HO.out.below hb0 HF.out) (HF.out.up hb0) HFM.out)
  have x9 := HX1.out.cell 9
  have xl1 := HX1.out.lt
  clear hb0 hw1
  by_cases h : x.keeper = 0
  · have r0 : (x.keeper == 0) = true := beqt' h
    have r1 : (x.keeper == 1) = false := beqf' (by omega)
    have r2 : (x.keeper == 2) = false := beqf' (by omega)
    have r3 : (x.keeper == 3) = false := beqf' (by omega)
    have r4 : (x.keeper == 4) = false := beqf' (by omega)
    have HZD := hide (show Row w1.drew (w.heap.size) 179 [.bool false, .bool false, .bool false] from HZ.out)
    have HSD := hide (isStopped_any x _ _ b w1.drew (HX.out.below (below_drewN HB.out 1) HX.out.lt) (HO.out.below (below_drewN HB.out 1) HF.out) (HF.out.up (below_drewN HB.out 1)) HFM.out)
    have h7 : x.shut.length = 4 := HFM.out.shut
    obtain ⟨g7, off7, rfl, hg7, c0', -⟩ := ints_at O7.out (show 0 < x.shut.length by omega)
    have hgl := l7 g7 hg7
    have next7 : ∀ i, i < 4 → w.cell? ⟨g7, off7 + i, none⟩ = some (.int .i64 (x.sh i)) := fun i h4 => by
      have h : i < x.shut.length := by omega
      obtain ⟨g, off, e, -, hc, -⟩ := ints_at O7.out h
      injection e with e
      injection e with e1 e2 _
      subst e1 e2
      unfold CrewWorld.sh
      rw [List.getElem?_eq_getElem h]
      exact hc
    have q0 := next7 0 (by omega)
    have q1 := next7 1 (by omega)
    have q2 := next7 2 (by omega)
    simp only [Nat.add_zero] at q0
    have hl0 : (0 : Int) < (x.shut.length : Int) := by omega
    have hse : ¬ (x.shut = []) := fun e => by rw [e] at hl0; simp at hl0
    have hl1 : (1 : Int) < (x.shut.length : Int) := by omega
    have hl2 : (2 : Int) < (x.shut.length : Int) := by omega
    clear next7 c0' h7
    by_cases hz : x.results.length = 0
    · have HV := hide (show x.kc = [false, x.sh 3 == 1, x.sh 1 == 1] from by unfold CrewWorld.kc; rw [if_pos h]; simp [hz])
      have z0 : decide ((0 : Int) < (x.results.length : Int)) = false := dec_false (by omega)
      have z1 : decide (0 < x.results.length) = false := dec_false (by omega)
      have z2 : ((x.results.length : Int) == 0) = true := beqt' (by omega)
      have z3 : decide (x.results.length = 0) = true := dec_true hz
      clear hz h
      go_wp2_with fail
      refine wp_region_held_drew (S := fun W => Below w.heap.size w W) (by kernel_rfl) (below_drewN HB.out 1) (fun hS0 => ?_)
      refine wpAnyH_take (i := 0) (v := .pointer (some ⟨b, 0, none⟩)) rfl (by kernel_rfl) (by kernel_rfl) (by kernel_rfl) (fun _ _ _ h => h) (Or.inl ⟨by kernel_rfl, by (intro W hS; go_simp; first | done | with_reducible rfl | rfl)⟩) hS0 ?_
      (try simp only [Act.put, List.getElem_toArray, List.getElem_cons_zero, List.getElem_cons_succ, List.setIfInBounds_toArray, List.set_cons_zero, List.set_cons_succ])
      refine wpAnyH_take (i := 1) (v := .pointer (some ⟨b, 0, none⟩)) rfl (by kernel_rfl) (by kernel_rfl) (by kernel_rfl) (fun _ _ _ h => h) (Or.inl ⟨by kernel_rfl, by (intro W hS; go_simp; first | done | with_reducible rfl | rfl)⟩) hS0 ?_
      (try simp only [Act.put, List.getElem_toArray, List.getElem_cons_zero, List.getElem_cons_succ, List.setIfInBounds_toArray, List.set_cons_zero, List.set_cons_succ])
      refine wpAnyH_take (i := 2) (v := .pointer (some ⟨b, 8, none⟩)) rfl (by kernel_rfl) (by kernel_rfl) (by kernel_rfl) (fun _ _ _ h => h) (Or.inl ⟨by kernel_rfl, by (intro W hS; go_simp; first | done | with_reducible rfl | rfl)⟩) hS0 ?_
      (try simp only [Act.put, List.getElem_toArray, List.getElem_cons_zero, List.getElem_cons_succ, List.setIfInBounds_toArray, List.set_cons_zero, List.set_cons_succ])
      refine wpAnyH_take (i := 3) (v := .slice A3 x.results.length c3) rfl (by kernel_rfl) (by kernel_rfl) (by kernel_rfl) (fun _ _ _ h => h) (Or.inl ⟨by kernel_rfl, by (intro W hS; have y := (HX.out.below hS HX.out.lt).cell 8; have yl := (HX.out.below hS HX.out.lt).lt; go_simp; first | done | with_reducible rfl | rfl)⟩) hS0 ?_
      (try simp only [Act.put, List.getElem_toArray, List.getElem_cons_zero, List.getElem_cons_succ, List.setIfInBounds_toArray, List.set_cons_zero, List.set_cons_succ])
      refine wpAnyH_take (i := 4) (v := .int .i64 (x.results.length : Int)) rfl (by kernel_rfl) (by kernel_rfl) (by kernel_rfl) (fun _ _ _ h => h) (Or.inl ⟨by kernel_rfl, by (intro W hS; go_simp; first | done | with_reducible rfl | rfl)⟩) hS0 ?_
      (try simp only [Act.put, List.getElem_toArray, List.getElem_cons_zero, List.getElem_cons_succ, List.setIfInBounds_toArray, List.set_cons_zero, List.set_cons_succ])
      refine wpAnyH_take (i := 5) (v := .bool false) rfl (by kernel_rfl) (by kernel_rfl) (by kernel_rfl) (fun _ _ _ h => h) (Or.inl ⟨by kernel_rfl, by (intro W hS; go_simp; first | done | with_reducible rfl | rfl)⟩) hS0 ?_
      (try simp only [Act.put, List.getElem_toArray, List.getElem_cons_zero, List.getElem_cons_succ, List.setIfInBounds_toArray, List.set_cons_zero, List.set_cons_succ])
      refine wpAnyH_take (i := 6) (v := .pointer (some ⟨b, 0, none⟩)) rfl (by kernel_rfl) (by kernel_rfl) (by kernel_rfl) (fun _ _ _ h => h) (Or.inl ⟨by kernel_rfl, by (intro W hS; go_simp; first | done | with_reducible rfl | rfl)⟩) hS0 ?_
      (try simp only [Act.put, List.getElem_toArray, List.getElem_cons_zero, List.getElem_cons_succ, List.setIfInBounds_toArray, List.set_cons_zero, List.set_cons_succ])
      refine wpAnyH_take (i := 8) (v := .pointer (some ⟨b, 0, none⟩)) rfl (by kernel_rfl) (by kernel_rfl) (by kernel_rfl) (fun _ _ _ h => h) (Or.inl ⟨by kernel_rfl, by (intro W hS; go_simp; first | done | with_reducible rfl | rfl)⟩) hS0 ?_
      (try simp only [Act.put, List.getElem_toArray, List.getElem_cons_zero, List.getElem_cons_succ, List.setIfInBounds_toArray, List.set_cons_zero, List.set_cons_succ])
      refine wpAnyH_take (i := 9) (v := .pointer (some ⟨b, 0, none⟩)) rfl (by kernel_rfl) (by kernel_rfl) (by kernel_rfl) (fun _ _ _ h => h) (Or.inl ⟨by kernel_rfl, by (intro W hS; go_simp; first | done | with_reducible rfl | rfl)⟩) hS0 ?_
      (try simp only [Act.put, List.getElem_toArray, List.getElem_cons_zero, List.getElem_cons_succ, List.setIfInBounds_toArray, List.set_cons_zero, List.set_cons_succ])
      refine wpAnyH_take (i := 10) (v := .pointer (some ⟨b, 8, none⟩)) rfl (by kernel_rfl) (by kernel_rfl) (by kernel_rfl) (fun _ _ _ h => h) (Or.inl ⟨by kernel_rfl, by (intro W hS; go_simp; first | done | with_reducible rfl | rfl)⟩) hS0 ?_
      (try simp only [Act.put, List.getElem_toArray, List.getElem_cons_zero, List.getElem_cons_succ, List.setIfInBounds_toArray, List.set_cons_zero, List.set_cons_succ])
      refine wpAnyH_take (i := 11) (v := .slice A3 x.results.length c3) rfl (by kernel_rfl) (by kernel_rfl) (by kernel_rfl) (fun _ _ _ h => h) (Or.inl ⟨by kernel_rfl, by (intro W hS; have y := (HX.out.below hS HX.out.lt).cell 8; have yl := (HX.out.below hS HX.out.lt).lt; go_simp; first | done | with_reducible rfl | rfl)⟩) hS0 ?_
      (try simp only [Act.put, List.getElem_toArray, List.getElem_cons_zero, List.getElem_cons_succ, List.setIfInBounds_toArray, List.set_cons_zero, List.set_cons_succ])
      refine wpAnyH_take (i := 12) (v := .int .i64 (x.results.length : Int)) rfl (by kernel_rfl) (by kernel_rfl) (by kernel_rfl) (fun _ _ _ h => h) (Or.inl ⟨by kernel_rfl, by (intro W hS; go_simp; first | done | with_reducible rfl | rfl)⟩) hS0 ?_
      (try simp only [Act.put, List.getElem_toArray, List.getElem_cons_zero, List.getElem_cons_succ, List.setIfInBounds_toArray, List.set_cons_zero, List.set_cons_succ])
      refine wpAnyH_take (i := 13) (v := .bool true) rfl (by kernel_rfl) (by kernel_rfl) (by kernel_rfl) (fun _ _ _ h => h) (Or.inl ⟨by kernel_rfl, by (intro W hS; go_simp; first | done | with_reducible rfl | rfl)⟩) hS0 ?_
      (try simp only [Act.put, List.getElem_toArray, List.getElem_cons_zero, List.getElem_cons_succ, List.setIfInBounds_toArray, List.set_cons_zero, List.set_cons_succ])
      refine wpAnyH_ready (rs := [7]) (by kernel_rfl) (by simp) ?_
      refine AllReadyH.cons rfl (fun K hK => ?_) AllReadyH.nil
      go_simp
      go_at_call 156
      refine (HSD.out).mono ?_
      rintro e u1 ⟨rfl, rfl⟩
      have hS1 := hS0.trans ((Below.refl _ _).mono hS0.size)
      try go_simp
      refine hK.out _ _ hS1 (fun hHeld => ?_)
      clear hK K
      refine wpAnyH_take (i := 14) (v := .bool true) rfl (by kernel_rfl) (by kernel_rfl) (by kernel_rfl) (fun _ _ _ h => h) (Or.inl ⟨by kernel_rfl, by (intro W hS; go_simp; first | done | with_reducible rfl | rfl)⟩) hS1 ?_
      (try simp only [Act.put, List.getElem_toArray, List.getElem_cons_zero, List.getElem_cons_succ, List.setIfInBounds_toArray, List.set_cons_zero, List.set_cons_succ])
      refine wpAnyH_take (i := 15) (v := .pointer (some ⟨b, 0, none⟩)) rfl (by kernel_rfl) (by kernel_rfl) (by kernel_rfl) (fun _ _ _ h => h) (Or.inl ⟨by kernel_rfl, by (intro W hS; go_simp; first | done | with_reducible rfl | rfl)⟩) hS1 ?_
      (try simp only [Act.put, List.getElem_toArray, List.getElem_cons_zero, List.getElem_cons_succ, List.setIfInBounds_toArray, List.set_cons_zero, List.set_cons_succ])
      refine wpAnyH_take (i := 16) (v := .pointer (some ⟨b, 0, none⟩)) rfl (by kernel_rfl) (by kernel_rfl) (by kernel_rfl) (fun _ _ _ h => h) (Or.inl ⟨by kernel_rfl, by (intro W hS; go_simp; first | done | with_reducible rfl | rfl)⟩) hS1 ?_
      (try simp only [Act.put, List.getElem_toArray, List.getElem_cons_zero, List.getElem_cons_succ, List.setIfInBounds_toArray, List.set_cons_zero, List.set_cons_succ])
      refine wpAnyH_take (i := 17) (v := .pointer (some ⟨b, 16, none⟩)) rfl (by kernel_rfl) (by kernel_rfl) (by kernel_rfl) (fun _ _ _ h => h) (Or.inl ⟨by kernel_rfl, by (intro W hS; go_simp; first | done | with_reducible rfl | rfl)⟩) hS1 ?_
      (try simp only [Act.put, List.getElem_toArray, List.getElem_cons_zero, List.getElem_cons_succ, List.setIfInBounds_toArray, List.set_cons_zero, List.set_cons_succ])
      refine wpAnyH_take (i := 18) (v := .slice (some ⟨g7, off7, none⟩) x.shut.length c7) rfl (by kernel_rfl) (by kernel_rfl) (by kernel_rfl) (fun _ _ _ h => h) (Or.inl ⟨by kernel_rfl, by (intro W hS; have y := (HX.out.below hS HX.out.lt).cell 16; have yl := (HX.out.below hS HX.out.lt).lt; go_simp; first | done | with_reducible rfl | rfl)⟩) hS1 ?_
      (try simp only [Act.put, List.getElem_toArray, List.getElem_cons_zero, List.getElem_cons_succ, List.setIfInBounds_toArray, List.set_cons_zero, List.set_cons_succ])
      refine wpAnyH_take (i := 19) (v := .pointer (some ⟨g7, off7 + 1, none⟩)) rfl (by kernel_rfl) (by kernel_rfl) (by kernel_rfl) (fun _ _ _ h => h) (Or.inl ⟨by kernel_rfl, by (intro W hS; go_simp; first | done | with_reducible rfl | rfl)⟩) hS1 ?_
      (try simp only [Act.put, List.getElem_toArray, List.getElem_cons_zero, List.getElem_cons_succ, List.setIfInBounds_toArray, List.set_cons_zero, List.set_cons_succ])
      refine wpAnyH_take (i := 20) (v := .int .i64 (x.sh 1)) rfl (by kernel_rfl) (by kernel_rfl) (by kernel_rfl) (fun _ _ _ h => h) (Or.inl ⟨by kernel_rfl, by (intro W hS; have y := (hS.cell (p := ⟨g7, off7 + 1, none⟩) hgl).trans q1; have yl := Nat.lt_of_lt_of_le hgl hS.size; go_simp; first | done | with_reducible rfl | rfl)⟩) hS1 ?_
      (try simp only [Act.put, List.getElem_toArray, List.getElem_cons_zero, List.getElem_cons_succ, List.setIfInBounds_toArray, List.set_cons_zero, List.set_cons_succ])
      refine wpAnyH_take (i := 21) (v := .bool (x.sh 1 == 1)) rfl (by kernel_rfl) (by kernel_rfl) (by kernel_rfl) (fun _ _ _ h => h) (Or.inl ⟨by kernel_rfl, by (intro W hS; go_simp; first | done | with_reducible rfl | rfl)⟩) hS1 ?_
      (try simp only [Act.put, List.getElem_toArray, List.getElem_cons_zero, List.getElem_cons_succ, List.setIfInBounds_toArray, List.set_cons_zero, List.set_cons_succ])
      refine wpAnyH_take (i := 22) (v := .bool (x.sh 1 == 1)) rfl (by kernel_rfl) (by kernel_rfl) (by kernel_rfl) (fun _ _ _ h => h) (Or.inl ⟨by kernel_rfl, by (intro W hS; go_simp; first | done | with_reducible rfl | rfl)⟩) hS1 ?_
      (try simp only [Act.put, List.getElem_toArray, List.getElem_cons_zero, List.getElem_cons_succ, List.setIfInBounds_toArray, List.set_cons_zero, List.set_cons_succ])
      refine wpAnyH_take (i := 23) (v := .agg ([.bool false, .bool (x.sh 3 == 1), .bool (x.sh 1 == 1)] : List Value).toArray) rfl (by kernel_rfl) (by kernel_rfl) (by kernel_rfl) (fun _ _ _ h => h) (Or.inl ⟨by kernel_rfl, by (intro W hS; go_simp; first | done | with_reducible rfl | rfl)⟩) hS1 ?_
      (try simp only [Act.put, List.getElem_toArray, List.getElem_cons_zero, List.getElem_cons_succ, List.setIfInBounds_toArray, List.set_cons_zero, List.set_cons_succ])
      refine wpAnyH_ready (rs := [24]) (by kernel_rfl) (by simp) ?_
      refine AllReadyH.cons rfl (fun K hK => ?_) AllReadyH.nil
      rw [if_pos (by simp [Region.wanted])]
      refine wp_store_row 179 _ _ rfl (w.heap.size) ([.bool false, .bool (x.sh 3 == 1), .bool (x.sh 1 == 1)] : List Value).toArray rfl rfl 179 ([.bool false, .bool false, .bool false] : List Value).toArray HZD.out info_tri rfl (bools_one _ _ _) ?_
      refine hK.out _ _ (below_setRow7 hS1 (Nat.le_refl _) _) (fun hSZ => ?_)
      clear hK K
      refine wpAnyH_done (by kernel_rfl) ?_ _
      go_wp2
      refine bodyPost_ret (ret_row rfl _ _ (w.heap.size) 179 [.bool false, .bool (x.sh 3 == 1), .bool (x.sh 1 == 1)] (Row.setRow' (cs := [.bool false, .bool false, .bool false]) HZD.out [.bool false, .bool (x.sh 3 == 1), .bool (x.sh 1 == 1)]) _ rfl Try.underlying179 rfl info_tri) rfl ?_
      exact ⟨by rw [HV.out]; rfl, hSZ⟩
    have HV := hide (show x.kc = [true, x.sh 3 == 1, false] from by unfold CrewWorld.kc; rw [if_pos h]; simp [hz, Nat.pos_of_ne_zero hz])
    have z0 : decide ((0 : Int) < (x.results.length : Int)) = true := dec_true (by omega)
    have z1 : decide (0 < x.results.length) = true := dec_true (by omega)
    have z2 : ((x.results.length : Int) == 0) = false := beqf' (by omega)
    have z3 : decide (x.results.length = 0) = false := dec_false hz
    clear hz h
    go_wp2_with fail
    refine wp_region_held_drew (S := fun W => Below w.heap.size w W) (by kernel_rfl) (below_drewN HB.out 1) (fun hS0 => ?_)
    refine wpAnyH_take (i := 0) (v := .pointer (some ⟨b, 0, none⟩)) rfl (by kernel_rfl) (by kernel_rfl) (by kernel_rfl) (fun _ _ _ h => h) (Or.inl ⟨by kernel_rfl, by (intro W hS; go_simp; first | done | with_reducible rfl | rfl)⟩) hS0 ?_
    (try simp only [Act.put, List.getElem_toArray, List.getElem_cons_zero, List.getElem_cons_succ, List.setIfInBounds_toArray, List.set_cons_zero, List.set_cons_succ])
    refine wpAnyH_take (i := 1) (v := .pointer (some ⟨b, 0, none⟩)) rfl (by kernel_rfl) (by kernel_rfl) (by kernel_rfl) (fun _ _ _ h => h) (Or.inl ⟨by kernel_rfl, by (intro W hS; go_simp; first | done | with_reducible rfl | rfl)⟩) hS0 ?_
    (try simp only [Act.put, List.getElem_toArray, List.getElem_cons_zero, List.getElem_cons_succ, List.setIfInBounds_toArray, List.set_cons_zero, List.set_cons_succ])
    refine wpAnyH_take (i := 2) (v := .pointer (some ⟨b, 8, none⟩)) rfl (by kernel_rfl) (by kernel_rfl) (by kernel_rfl) (fun _ _ _ h => h) (Or.inl ⟨by kernel_rfl, by (intro W hS; go_simp; first | done | with_reducible rfl | rfl)⟩) hS0 ?_
    (try simp only [Act.put, List.getElem_toArray, List.getElem_cons_zero, List.getElem_cons_succ, List.setIfInBounds_toArray, List.set_cons_zero, List.set_cons_succ])
    refine wpAnyH_take (i := 3) (v := .slice A3 x.results.length c3) rfl (by kernel_rfl) (by kernel_rfl) (by kernel_rfl) (fun _ _ _ h => h) (Or.inl ⟨by kernel_rfl, by (intro W hS; have y := (HX.out.below hS HX.out.lt).cell 8; have yl := (HX.out.below hS HX.out.lt).lt; go_simp; first | done | with_reducible rfl | rfl)⟩) hS0 ?_
    (try simp only [Act.put, List.getElem_toArray, List.getElem_cons_zero, List.getElem_cons_succ, List.setIfInBounds_toArray, List.set_cons_zero, List.set_cons_succ])
    refine wpAnyH_take (i := 4) (v := .int .i64 (x.results.length : Int)) rfl (by kernel_rfl) (by kernel_rfl) (by kernel_rfl) (fun _ _ _ h => h) (Or.inl ⟨by kernel_rfl, by (intro W hS; go_simp; first | done | with_reducible rfl | rfl)⟩) hS0 ?_
    (try simp only [Act.put, List.getElem_toArray, List.getElem_cons_zero, List.getElem_cons_succ, List.setIfInBounds_toArray, List.set_cons_zero, List.set_cons_succ])
    refine wpAnyH_take (i := 5) (v := .bool true) rfl (by kernel_rfl) (by kernel_rfl) (by kernel_rfl) (fun _ _ _ h => h) (Or.inl ⟨by kernel_rfl, by (intro W hS; go_simp; first | done | with_reducible rfl | rfl)⟩) hS0 ?_
    (try simp only [Act.put, List.getElem_toArray, List.getElem_cons_zero, List.getElem_cons_succ, List.setIfInBounds_toArray, List.set_cons_zero, List.set_cons_succ])
    refine wpAnyH_take (i := 6) (v := .pointer (some ⟨b, 0, none⟩)) rfl (by kernel_rfl) (by kernel_rfl) (by kernel_rfl) (fun _ _ _ h => h) (Or.inl ⟨by kernel_rfl, by (intro W hS; go_simp; first | done | with_reducible rfl | rfl)⟩) hS0 ?_
    (try simp only [Act.put, List.getElem_toArray, List.getElem_cons_zero, List.getElem_cons_succ, List.setIfInBounds_toArray, List.set_cons_zero, List.set_cons_succ])
    refine wpAnyH_take (i := 8) (v := .pointer (some ⟨b, 0, none⟩)) rfl (by kernel_rfl) (by kernel_rfl) (by kernel_rfl) (fun _ _ _ h => h) (Or.inl ⟨by kernel_rfl, by (intro W hS; go_simp; first | done | with_reducible rfl | rfl)⟩) hS0 ?_
    (try simp only [Act.put, List.getElem_toArray, List.getElem_cons_zero, List.getElem_cons_succ, List.setIfInBounds_toArray, List.set_cons_zero, List.set_cons_succ])
    refine wpAnyH_take (i := 9) (v := .pointer (some ⟨b, 0, none⟩)) rfl (by kernel_rfl) (by kernel_rfl) (by kernel_rfl) (fun _ _ _ h => h) (Or.inl ⟨by kernel_rfl, by (intro W hS; go_simp; first | done | with_reducible rfl | rfl)⟩) hS0 ?_
    (try simp only [Act.put, List.getElem_toArray, List.getElem_cons_zero, List.getElem_cons_succ, List.setIfInBounds_toArray, List.set_cons_zero, List.set_cons_succ])
    refine wpAnyH_take (i := 10) (v := .pointer (some ⟨b, 8, none⟩)) rfl (by kernel_rfl) (by kernel_rfl) (by kernel_rfl) (fun _ _ _ h => h) (Or.inl ⟨by kernel_rfl, by (intro W hS; go_simp; first | done | with_reducible rfl | rfl)⟩) hS0 ?_
    (try simp only [Act.put, List.getElem_toArray, List.getElem_cons_zero, List.getElem_cons_succ, List.setIfInBounds_toArray, List.set_cons_zero, List.set_cons_succ])
    refine wpAnyH_take (i := 11) (v := .slice A3 x.results.length c3) rfl (by kernel_rfl) (by kernel_rfl) (by kernel_rfl) (fun _ _ _ h => h) (Or.inl ⟨by kernel_rfl, by (intro W hS; have y := (HX.out.below hS HX.out.lt).cell 8; have yl := (HX.out.below hS HX.out.lt).lt; go_simp; first | done | with_reducible rfl | rfl)⟩) hS0 ?_
    (try simp only [Act.put, List.getElem_toArray, List.getElem_cons_zero, List.getElem_cons_succ, List.setIfInBounds_toArray, List.set_cons_zero, List.set_cons_succ])
    refine wpAnyH_take (i := 12) (v := .int .i64 (x.results.length : Int)) rfl (by kernel_rfl) (by kernel_rfl) (by kernel_rfl) (fun _ _ _ h => h) (Or.inl ⟨by kernel_rfl, by (intro W hS; go_simp; first | done | with_reducible rfl | rfl)⟩) hS0 ?_
    (try simp only [Act.put, List.getElem_toArray, List.getElem_cons_zero, List.getElem_cons_succ, List.setIfInBounds_toArray, List.set_cons_zero, List.set_cons_succ])
    refine wpAnyH_take (i := 13) (v := .bool false) rfl (by kernel_rfl) (by kernel_rfl) (by kernel_rfl) (fun _ _ _ h => h) (Or.inl ⟨by kernel_rfl, by (intro W hS; go_simp; first | done | with_reducible rfl | rfl)⟩) hS0 ?_
    (try simp only [Act.put, List.getElem_toArray, List.getElem_cons_zero, List.getElem_cons_succ, List.setIfInBounds_toArray, List.set_cons_zero, List.set_cons_succ])
    refine wpAnyH_ready (rs := [7]) (by kernel_rfl) (by simp) ?_
    refine AllReadyH.cons rfl (fun K hK => ?_) AllReadyH.nil
    go_simp
    go_at_call 156
    refine (HSD.out).mono ?_
    rintro e u1 ⟨rfl, rfl⟩
    have hS1 := hS0.trans ((Below.refl _ _).mono hS0.size)
    try go_simp
    refine hK.out _ _ hS1 (fun hHeld => ?_)
    clear hK K
    refine wpAnyH_take (i := 14) (v := .bool false) rfl (by kernel_rfl) (by kernel_rfl) (by kernel_rfl) (fun _ _ _ h => h) (Or.inl ⟨by kernel_rfl, by (intro W hS; go_simp; first | done | with_reducible rfl | rfl)⟩) hS1 ?_
    (try simp only [Act.put, List.getElem_toArray, List.getElem_cons_zero, List.getElem_cons_succ, List.setIfInBounds_toArray, List.set_cons_zero, List.set_cons_succ])
    refine wpAnyH_take (i := 15) (v := undef) rfl (by kernel_rfl) (by kernel_rfl) (by kernel_rfl) (fun _ _ _ h => h) (Or.inr ⟨by kernel_rfl, rfl⟩) hS1 ?_
    (try simp only [Act.put, List.getElem_toArray, List.getElem_cons_zero, List.getElem_cons_succ, List.setIfInBounds_toArray, List.set_cons_zero, List.set_cons_succ])
    refine wpAnyH_take (i := 16) (v := undef) rfl (by kernel_rfl) (by kernel_rfl) (by kernel_rfl) (fun _ _ _ h => h) (Or.inr ⟨by kernel_rfl, rfl⟩) hS1 ?_
    (try simp only [Act.put, List.getElem_toArray, List.getElem_cons_zero, List.getElem_cons_succ, List.setIfInBounds_toArray, List.set_cons_zero, List.set_cons_succ])
    refine wpAnyH_take (i := 17) (v := undef) rfl (by kernel_rfl) (by kernel_rfl) (by kernel_rfl) (fun _ _ _ h => h) (Or.inr ⟨by kernel_rfl, rfl⟩) hS1 ?_
    (try simp only [Act.put, List.getElem_toArray, List.getElem_cons_zero, List.getElem_cons_succ, List.setIfInBounds_toArray, List.set_cons_zero, List.set_cons_succ])
    refine wpAnyH_take (i := 18) (v := undef) rfl (by kernel_rfl) (by kernel_rfl) (by kernel_rfl) (fun _ _ _ h => h) (Or.inr ⟨by kernel_rfl, rfl⟩) hS1 ?_
    (try simp only [Act.put, List.getElem_toArray, List.getElem_cons_zero, List.getElem_cons_succ, List.setIfInBounds_toArray, List.set_cons_zero, List.set_cons_succ])
    refine wpAnyH_take (i := 19) (v := undef) rfl (by kernel_rfl) (by kernel_rfl) (by kernel_rfl) (fun _ _ _ h => h) (Or.inr ⟨by kernel_rfl, rfl⟩) hS1 ?_
    (try simp only [Act.put, List.getElem_toArray, List.getElem_cons_zero, List.getElem_cons_succ, List.setIfInBounds_toArray, List.set_cons_zero, List.set_cons_succ])
    refine wpAnyH_take (i := 20) (v := undef) rfl (by kernel_rfl) (by kernel_rfl) (by kernel_rfl) (fun _ _ _ h => h) (Or.inr ⟨by kernel_rfl, rfl⟩) hS1 ?_
    (try simp only [Act.put, List.getElem_toArray, List.getElem_cons_zero, List.getElem_cons_succ, List.setIfInBounds_toArray, List.set_cons_zero, List.set_cons_succ])
    refine wpAnyH_take (i := 21) (v := undef) rfl (by kernel_rfl) (by kernel_rfl) (by kernel_rfl) (fun _ _ _ h => h) (Or.inr ⟨by kernel_rfl, rfl⟩) hS1 ?_
    (try simp only [Act.put, List.getElem_toArray, List.getElem_cons_zero, List.getElem_cons_succ, List.setIfInBounds_toArray, List.set_cons_zero, List.set_cons_succ])
    refine wpAnyH_take (i := 22) (v := .bool false) rfl (by kernel_rfl) (by kernel_rfl) (by kernel_rfl) (fun _ _ _ h => h) (Or.inl ⟨by kernel_rfl, by (intro W hS; go_simp; first | done | with_reducible rfl | rfl)⟩) hS1 ?_
    (try simp only [Act.put, List.getElem_toArray, List.getElem_cons_zero, List.getElem_cons_succ, List.setIfInBounds_toArray, List.set_cons_zero, List.set_cons_succ])
    refine wpAnyH_take (i := 23) (v := .agg ([.bool true, .bool (x.sh 3 == 1), .bool (false)] : List Value).toArray) rfl (by kernel_rfl) (by kernel_rfl) (by kernel_rfl) (fun _ _ _ h => h) (Or.inl ⟨by kernel_rfl, by (intro W hS; go_simp; first | done | with_reducible rfl | rfl)⟩) hS1 ?_
    (try simp only [Act.put, List.getElem_toArray, List.getElem_cons_zero, List.getElem_cons_succ, List.setIfInBounds_toArray, List.set_cons_zero, List.set_cons_succ])
    refine wpAnyH_ready (rs := [24]) (by kernel_rfl) (by simp) ?_
    refine AllReadyH.cons rfl (fun K hK => ?_) AllReadyH.nil
    rw [if_pos (by simp [Region.wanted])]
    refine wp_store_row 179 _ _ rfl (w.heap.size) ([.bool true, .bool (x.sh 3 == 1), .bool (false)] : List Value).toArray rfl rfl 179 ([.bool false, .bool false, .bool false] : List Value).toArray HZD.out info_tri rfl (bools_one _ _ _) ?_
    refine hK.out _ _ (below_setRow7 hS1 (Nat.le_refl _) _) (fun hSZ => ?_)
    clear hK K
    refine wpAnyH_done (by kernel_rfl) ?_ _
    go_wp2
    refine bodyPost_ret (ret_row rfl _ _ (w.heap.size) 179 [.bool true, .bool (x.sh 3 == 1), .bool (false)] (Row.setRow' (cs := [.bool false, .bool false, .bool false]) HZD.out [.bool true, .bool (x.sh 3 == 1), .bool (false)]) _ rfl Try.underlying179 rfl info_tri) rfl ?_
    exact ⟨by rw [HV.out]; rfl, hSZ⟩
  have r0 := beqf' h
  by_cases h1 : x.keeper = 2
  · have r1 := beqt' h1
    have HZD := hide (show Row w1.drew (w.heap.size) 179 [.bool false, .bool false, .bool false] from HZ.out)
    have HSD := hide (isStopped_any x _ _ b w1.drew (HX.out.below (below_drewN HB.out 1) HX.out.lt) (HO.out.below (below_drewN HB.out 1) HF.out) (HF.out.up (below_drewN HB.out 1)) HFM.out)
    have HV := hide (show x.kc = [(x.out.length : Int) == 0, x.sh 3 == 1, false] from by unfold CrewWorld.kc; rw [if_neg h, if_pos h1]; congr 1; by_cases hz : x.out.length = 0 <;> simp [hz])
    clear h h1
    go_wp2_with fail
    refine wp_region_held_drew (S := fun W => Below w.heap.size w W) (by kernel_rfl) (below_drewN HB.out 1) (fun hS0 => ?_)
    refine wpAnyH_take (i := 0) (v := .pointer (some ⟨b, 0, none⟩)) rfl (by kernel_rfl) (by kernel_rfl) (by kernel_rfl) (fun _ _ _ h => h) (Or.inl ⟨by kernel_rfl, by (intro W hS; go_simp; first | done | with_reducible rfl | rfl)⟩) hS0 ?_
    (try simp only [Act.put, List.getElem_toArray, List.getElem_cons_zero, List.getElem_cons_succ, List.setIfInBounds_toArray, List.set_cons_zero, List.set_cons_succ])
    refine wpAnyH_take (i := 1) (v := .pointer (some ⟨b, 0, none⟩)) rfl (by kernel_rfl) (by kernel_rfl) (by kernel_rfl) (fun _ _ _ h => h) (Or.inl ⟨by kernel_rfl, by (intro W hS; go_simp; first | done | with_reducible rfl | rfl)⟩) hS0 ?_
    (try simp only [Act.put, List.getElem_toArray, List.getElem_cons_zero, List.getElem_cons_succ, List.setIfInBounds_toArray, List.set_cons_zero, List.set_cons_succ])
    refine wpAnyH_take (i := 2) (v := .pointer (some ⟨b, 12, none⟩)) rfl (by kernel_rfl) (by kernel_rfl) (by kernel_rfl) (fun _ _ _ h => h) (Or.inl ⟨by kernel_rfl, by (intro W hS; go_simp; first | done | with_reducible rfl | rfl)⟩) hS0 ?_
    (try simp only [Act.put, List.getElem_toArray, List.getElem_cons_zero, List.getElem_cons_succ, List.setIfInBounds_toArray, List.set_cons_zero, List.set_cons_succ])
    refine wpAnyH_take (i := 3) (v := .slice A5 x.out.length c5) rfl (by kernel_rfl) (by kernel_rfl) (by kernel_rfl) (fun _ _ _ h => h) (Or.inl ⟨by kernel_rfl, by (intro W hS; have y := (HX.out.below hS HX.out.lt).cell 12; have yl := (HX.out.below hS HX.out.lt).lt; go_simp; first | done | with_reducible rfl | rfl)⟩) hS0 ?_
    (try simp only [Act.put, List.getElem_toArray, List.getElem_cons_zero, List.getElem_cons_succ, List.setIfInBounds_toArray, List.set_cons_zero, List.set_cons_succ])
    refine wpAnyH_take (i := 4) (v := .int .i64 (x.out.length : Int)) rfl (by kernel_rfl) (by kernel_rfl) (by kernel_rfl) (fun _ _ _ h => h) (Or.inl ⟨by kernel_rfl, by (intro W hS; go_simp; first | done | with_reducible rfl | rfl)⟩) hS0 ?_
    (try simp only [Act.put, List.getElem_toArray, List.getElem_cons_zero, List.getElem_cons_succ, List.setIfInBounds_toArray, List.set_cons_zero, List.set_cons_succ])
    refine wpAnyH_take (i := 5) (v := .bool ((x.out.length : Int) == 0)) rfl (by kernel_rfl) (by kernel_rfl) (by kernel_rfl) (fun _ _ _ h => h) (Or.inl ⟨by kernel_rfl, by (intro W hS; go_simp; first | done | with_reducible rfl | rfl)⟩) hS0 ?_
    (try simp only [Act.put, List.getElem_toArray, List.getElem_cons_zero, List.getElem_cons_succ, List.setIfInBounds_toArray, List.set_cons_zero, List.set_cons_succ])
    refine wpAnyH_take (i := 6) (v := .pointer (some ⟨b, 0, none⟩)) rfl (by kernel_rfl) (by kernel_rfl) (by kernel_rfl) (fun _ _ _ h => h) (Or.inl ⟨by kernel_rfl, by (intro W hS; go_simp; first | done | with_reducible rfl | rfl)⟩) hS0 ?_
    (try simp only [Act.put, List.getElem_toArray, List.getElem_cons_zero, List.getElem_cons_succ, List.setIfInBounds_toArray, List.set_cons_zero, List.set_cons_succ])
    refine wpAnyH_ready (rs := [7]) (by kernel_rfl) (by simp) ?_
    refine AllReadyH.cons rfl (fun K hK => ?_) AllReadyH.nil
    go_simp
    go_at_call 156
    refine (HSD.out).mono ?_
    rintro e u1 ⟨rfl, rfl⟩
    have hS1 := hS0.trans ((Below.refl _ _).mono hS0.size)
    try go_simp
    refine hK.out _ _ hS1 (fun hHeld => ?_)
    clear hK K
    refine wpAnyH_take (i := 8) (v := .agg ([.bool ((x.out.length : Int) == 0), .bool (x.sh 3 == 1), .bool false] : List Value).toArray) rfl (by kernel_rfl) (by kernel_rfl) (by kernel_rfl) (fun _ _ _ h => h) (Or.inl ⟨by kernel_rfl, by (intro W hS; go_simp; first | done | with_reducible rfl | rfl)⟩) hS1 ?_
    (try simp only [Act.put, List.getElem_toArray, List.getElem_cons_zero, List.getElem_cons_succ, List.setIfInBounds_toArray, List.set_cons_zero, List.set_cons_succ])
    refine wpAnyH_ready (rs := [9]) (by kernel_rfl) (by simp) ?_
    refine AllReadyH.cons rfl (fun K hK => ?_) AllReadyH.nil
    rw [if_pos (by simp [Region.wanted])]
    refine wp_store_row 179 _ _ rfl (w.heap.size) ([.bool ((x.out.length : Int) == 0), .bool (x.sh 3 == 1), .bool false] : List Value).toArray rfl rfl 179 ([.bool false, .bool false, .bool false] : List Value).toArray HZD.out info_tri rfl (bools_one _ _ _) ?_
    refine hK.out _ _ (below_setRow7 hS1 (Nat.le_refl _) _) (fun hSZ => ?_)
    clear hK K
    refine wpAnyH_done (by kernel_rfl) ?_ _
    go_wp2
    refine bodyPost_ret (ret_row rfl _ _ (w.heap.size) 179 [.bool ((x.out.length : Int) == 0), .bool (x.sh 3 == 1), .bool false] (Row.setRow' (cs := [.bool false, .bool false, .bool false]) HZD.out [.bool ((x.out.length : Int) == 0), .bool (x.sh 3 == 1), .bool false]) _ rfl Try.underlying179 rfl info_tri) rfl ?_
    exact ⟨by rw [HV.out]; rfl, hSZ⟩
  have r2 := beqf' h1
  by_cases h2 : x.keeper = 1
  · have r1 := beqt' h2
    have HV := hide (show x.kc = [true, false, false] from by unfold CrewWorld.kc; rw [if_neg h, if_neg h1, if_pos (.inl h2)])
    clear h h1 h2
    go_wp2_with (first | (refine wpList_store_row rfl 179 _ _ rfl (w.heap.size) ([.bool true, .bool false, .bool false] : List Value).toArray rfl rfl 179 ([.bool false, .bool false, .bool false] : List Value).toArray HZ.out info_tri rfl (bools_one _ _ _) ?_) | (go_at_call 156; refine HST.out.mono ?_; rintro e wq ⟨rfl, rfl⟩) | fail)
    refine bodyPost_ret (ret_row rfl _ _ (w.heap.size) 179 [.bool true, .bool false, .bool false] (Row.setRow' (cs := [.bool false, .bool false, .bool false]) HZ.out [.bool true, .bool false, .bool false]) _ rfl Try.underlying179 rfl info_tri) rfl ?_
    exact ⟨by rw [HV.out]; rfl, below_setRow7 HB.out (Nat.le_refl _) _⟩
  have r1 := beqf' h2
  by_cases h3 : x.keeper = 3
  · have r3 := beqt' h3
    have HV := hide (show x.kc = [true, false, false] from by unfold CrewWorld.kc; rw [if_neg h, if_neg h1, if_pos (.inr (.inl h3))])
    clear h h1 h2 h3
    go_wp2_with (first | (refine wpList_store_row rfl 179 _ _ rfl (w.heap.size) ([.bool true, .bool false, .bool false] : List Value).toArray rfl rfl 179 ([.bool false, .bool false, .bool false] : List Value).toArray HZ.out info_tri rfl (bools_one _ _ _) ?_) | (go_at_call 156; refine HST.out.mono ?_; rintro e wq ⟨rfl, rfl⟩) | fail)
    refine bodyPost_ret (ret_row rfl _ _ (w.heap.size) 179 [.bool true, .bool false, .bool false] (Row.setRow' (cs := [.bool false, .bool false, .bool false]) HZ.out [.bool true, .bool false, .bool false]) _ rfl Try.underlying179 rfl info_tri) rfl ?_
    exact ⟨by rw [HV.out]; rfl, below_setRow7 HB.out (Nat.le_refl _) _⟩
  have r3 := beqf' h3
  by_cases h4 : x.keeper = 4
  · have r4 := beqt' h4
    have HV := hide (show x.kc = [true, false, false] from by unfold CrewWorld.kc; rw [if_neg h, if_neg h1, if_pos (.inr (.inr h4))])
    clear h h1 h2 h3 h4
    go_wp2_with (first | (refine wpList_store_row rfl 179 _ _ rfl (w.heap.size) ([.bool true, .bool false, .bool false] : List Value).toArray rfl rfl 179 ([.bool false, .bool false, .bool false] : List Value).toArray HZ.out info_tri rfl (bools_one _ _ _) ?_) | (go_at_call 156; refine HST.out.mono ?_; rintro e wq ⟨rfl, rfl⟩) | fail)
    refine bodyPost_ret (ret_row rfl _ _ (w.heap.size) 179 [.bool true, .bool false, .bool false] (Row.setRow' (cs := [.bool false, .bool false, .bool false]) HZ.out [.bool true, .bool false, .bool false]) _ rfl Try.underlying179 rfl info_tri) rfl ?_
    exact ⟨by rw [HV.out]; rfl, below_setRow7 HB.out (Nat.le_refl _) _⟩
  have r4 := beqf' h4
  have HV := hide (show x.kc = [false, false, false] from by unfold CrewWorld.kc; rw [if_neg h, if_neg h1, if_neg (fun e => by rcases e with e | e | e; exact h2 e; exact h3 e; exact h4 e)])
  clear h h1 h2 h3 h4
  go_wp2_with (first | (refine wpList_store_row rfl 179 _ _ rfl (w.heap.size) ([.bool false, .bool false, .bool false] : List Value).toArray rfl rfl 179 ([.bool false, .bool false, .bool false] : List Value).toArray HZ.out info_tri rfl (bools_one _ _ _) ?_) | (go_at_call 156; refine HST.out.mono ?_; rintro e wq ⟨rfl, rfl⟩) | fail)
  refine bodyPost_ret (ret_row rfl _ _ (w.heap.size) 179 [.bool false, .bool false, .bool false] (Row.setRow' (cs := [.bool false, .bool false, .bool false]) HZ.out [.bool false, .bool false, .bool false]) _ rfl Try.underlying179 rfl info_tri) rfl ?_
  exact ⟨by rw [HV.out]; rfl, below_setRow7 HB.out (Nat.le_refl _) _⟩
set_option maxRecDepth 100000 in
set_option maxHeartbeats 8000000 in
theorem handCases_any (x : CrewWorld) (us : List Value) (fp : List Nat) (b : Nat) (w : World) (hb : Row w b 30 us) (ho : OwC w x.cells us fp) (hf : Lt fp w.heap.size) (y : CrewHand) (vs : List Value) (fy : List Nat) (hy : OwC w y.cells vs fy) (hfm : x.Form) : Calls Try.prog 164 #[.pointer (some ⟨b, 0, none⟩), .agg vs.toArray] w (TriOut (x.hc y) w) := by
  have HFM := hide hfm
  clear hfm
  obtain ⟨rfl, -, -, -⟩ := hy.oCrewHand
  clear hy
  have HO := hide ho
  have HF := hide hf
  obtain ⟨A1, c1, A2, c2, A3, c3, A4, c4, A5, c5, A6, c6, A7, c7, f1, f2, f3, f4, f5, f6, f7, rfl, wjobs, wworkers, wwindow, wnext, wreader, o1, o2, wcloser, o3, wkeeper, o4, wdue, o5, wuser, o6, wroom, o7, wops, rfl⟩ := ho.oCrewWorld
  have O7 := hide o7
  have l7 := hf.right.right.right.right.right.right
  obtain ⟨-, n7, m7⟩ := o7.nlen
  unfold maxLen at m7
  have HX := hide hb
  clear ho hb o1 o2 o3 o4 o5 o6 o7
  have x0 := HX.out.cell 0
  have xl := HX.out.lt
  go_enter Try.func164, Try.ntmps164
  clear x0
  go_upto_region 1 with fail
  generalize hw1 : (w.alloc _).alloc _ = w1
  have hb0 : Below w.heap.size w w1 := by rw [← hw1]; exact ((Below.refl _ _).alloc (Nat.le_refl _) _).alloc (by simp) _
  have HZ := hide (show Row w1 (w.heap.size + 1) 179 [.bool false, .bool false, .bool false] from by
    rw [← hw1]
    have h := Row.new (w.alloc (.cells #[.int .i64 y.state, .int .i64 y.job] 88)) 179 [.bool false, .bool false, .bool false]
    simpa using h)
  have HYY := hide (show Row w1 w.heap.size 88 [.int .i64 y.state, .int .i64 y.job] from by rw [← hw1]; exact (Row.new w _ _).alloc _)
  have HB := hide hb0
  have HX1 := hide (HX.out.below hb0 HX.out.lt)
  have HST := hide (isStopped_any x _ _ b w1 HX1.out (HO.out.below hb0 HF.out) (HF.out.up hb0) HFM.out)
  have y0 := HYY.out.cell 0
  have yl1 := HYY.out.lt
  have xl1 := HX1.out.lt
  clear hb0 hw1
  by_cases h : y.state = 0
  · have r0 : (y.state == 0) = true := beqt' h
    have r1 : (y.state == 1) = false := beqf' (by omega)
    have r2 : (y.state == 2) = false := beqf' (by omega)
    have HZD := hide (show Row w1.drew (w.heap.size + 1) 179 [.bool false, .bool false, .bool false] from HZ.out)
    have HSD := hide (isStopped_any x _ _ b w1.drew (HX.out.below (below_drewN HB.out 1) HX.out.lt) (HO.out.below (below_drewN HB.out 1) HF.out) (HF.out.up (below_drewN HB.out 1)) HFM.out)
    have h7 : x.shut.length = 4 := HFM.out.shut
    obtain ⟨g7, off7, rfl, hg7, c0', -⟩ := ints_at O7.out (show 0 < x.shut.length by omega)
    have hgl := l7 g7 hg7
    have next7 : ∀ i, i < 4 → w.cell? ⟨g7, off7 + i, none⟩ = some (.int .i64 (x.sh i)) := fun i h4 => by
      have h : i < x.shut.length := by omega
      obtain ⟨g, off, e, -, hc, -⟩ := ints_at O7.out h
      injection e with e
      injection e with e1 e2 _
      subst e1 e2
      unfold CrewWorld.sh
      rw [List.getElem?_eq_getElem h]
      exact hc
    have q0 := next7 0 (by omega)
    have q1 := next7 1 (by omega)
    have q2 := next7 2 (by omega)
    simp only [Nat.add_zero] at q0
    have hl0 : (0 : Int) < (x.shut.length : Int) := by omega
    have hse : ¬ (x.shut = []) := fun e => by rw [e] at hl0; simp at hl0
    have hl1 : (1 : Int) < (x.shut.length : Int) := by omega
    have hl2 : (2 : Int) < (x.shut.length : Int) := by omega
    clear next7 c0' h7
    by_cases hz : x.queue.length = 0
    · have HV := hide (show x.hc y = [false, x.sh 3 == 1, x.sh 0 == 1] from by unfold CrewWorld.hc; rw [if_pos h]; simp [hz])
      have z0 : decide ((0 : Int) < (x.queue.length : Int)) = false := dec_false (by omega)
      have z1 : decide (0 < x.queue.length) = false := dec_false (by omega)
      have z2 : ((x.queue.length : Int) == 0) = true := beqt' (by omega)
      have z3 : decide (x.queue.length = 0) = true := dec_true hz
      clear hz h
      go_wp2_with fail
      refine wp_region_held_drew (S := fun W => Below w.heap.size w W) (by kernel_rfl) (below_drewN HB.out 1) (fun hS0 => ?_)
      refine wpAnyH_take (i := 0) (v := .pointer (some ⟨b, 0, none⟩)) rfl (by kernel_rfl) (by kernel_rfl) (by kernel_rfl) (fun _ _ _ h => h) (Or.inl ⟨by kernel_rfl, by (intro W hS; go_simp; first | done | with_reducible rfl | rfl)⟩) hS0 ?_
      (try simp only [Act.put, List.getElem_toArray, List.getElem_cons_zero, List.getElem_cons_succ, List.setIfInBounds_toArray, List.set_cons_zero, List.set_cons_succ])
      refine wpAnyH_take (i := 1) (v := .pointer (some ⟨b, 0, none⟩)) rfl (by kernel_rfl) (by kernel_rfl) (by kernel_rfl) (fun _ _ _ h => h) (Or.inl ⟨by kernel_rfl, by (intro W hS; go_simp; first | done | with_reducible rfl | rfl)⟩) hS0 ?_
      (try simp only [Act.put, List.getElem_toArray, List.getElem_cons_zero, List.getElem_cons_succ, List.setIfInBounds_toArray, List.set_cons_zero, List.set_cons_succ])
      refine wpAnyH_take (i := 2) (v := .pointer (some ⟨b, 5, none⟩)) rfl (by kernel_rfl) (by kernel_rfl) (by kernel_rfl) (fun _ _ _ h => h) (Or.inl ⟨by kernel_rfl, by (intro W hS; go_simp; first | done | with_reducible rfl | rfl)⟩) hS0 ?_
      (try simp only [Act.put, List.getElem_toArray, List.getElem_cons_zero, List.getElem_cons_succ, List.setIfInBounds_toArray, List.set_cons_zero, List.set_cons_succ])
      refine wpAnyH_take (i := 3) (v := .slice A1 x.queue.length c1) rfl (by kernel_rfl) (by kernel_rfl) (by kernel_rfl) (fun _ _ _ h => h) (Or.inl ⟨by kernel_rfl, by (intro W hS; have y := (HX.out.below hS HX.out.lt).cell 5; have yl := (HX.out.below hS HX.out.lt).lt; go_simp; first | done | with_reducible rfl | rfl)⟩) hS0 ?_
      (try simp only [Act.put, List.getElem_toArray, List.getElem_cons_zero, List.getElem_cons_succ, List.setIfInBounds_toArray, List.set_cons_zero, List.set_cons_succ])
      refine wpAnyH_take (i := 4) (v := .int .i64 (x.queue.length : Int)) rfl (by kernel_rfl) (by kernel_rfl) (by kernel_rfl) (fun _ _ _ h => h) (Or.inl ⟨by kernel_rfl, by (intro W hS; go_simp; first | done | with_reducible rfl | rfl)⟩) hS0 ?_
      (try simp only [Act.put, List.getElem_toArray, List.getElem_cons_zero, List.getElem_cons_succ, List.setIfInBounds_toArray, List.set_cons_zero, List.set_cons_succ])
      refine wpAnyH_take (i := 5) (v := .bool false) rfl (by kernel_rfl) (by kernel_rfl) (by kernel_rfl) (fun _ _ _ h => h) (Or.inl ⟨by kernel_rfl, by (intro W hS; go_simp; first | done | with_reducible rfl | rfl)⟩) hS0 ?_
      (try simp only [Act.put, List.getElem_toArray, List.getElem_cons_zero, List.getElem_cons_succ, List.setIfInBounds_toArray, List.set_cons_zero, List.set_cons_succ])
      refine wpAnyH_take (i := 6) (v := .pointer (some ⟨b, 0, none⟩)) rfl (by kernel_rfl) (by kernel_rfl) (by kernel_rfl) (fun _ _ _ h => h) (Or.inl ⟨by kernel_rfl, by (intro W hS; go_simp; first | done | with_reducible rfl | rfl)⟩) hS0 ?_
      (try simp only [Act.put, List.getElem_toArray, List.getElem_cons_zero, List.getElem_cons_succ, List.setIfInBounds_toArray, List.set_cons_zero, List.set_cons_succ])
      refine wpAnyH_take (i := 8) (v := .pointer (some ⟨b, 0, none⟩)) rfl (by kernel_rfl) (by kernel_rfl) (by kernel_rfl) (fun _ _ _ h => h) (Or.inl ⟨by kernel_rfl, by (intro W hS; go_simp; first | done | with_reducible rfl | rfl)⟩) hS0 ?_
      (try simp only [Act.put, List.getElem_toArray, List.getElem_cons_zero, List.getElem_cons_succ, List.setIfInBounds_toArray, List.set_cons_zero, List.set_cons_succ])
      refine wpAnyH_take (i := 9) (v := .pointer (some ⟨b, 0, none⟩)) rfl (by kernel_rfl) (by kernel_rfl) (by kernel_rfl) (fun _ _ _ h => h) (Or.inl ⟨by kernel_rfl, by (intro W hS; go_simp; first | done | with_reducible rfl | rfl)⟩) hS0 ?_
      (try simp only [Act.put, List.getElem_toArray, List.getElem_cons_zero, List.getElem_cons_succ, List.setIfInBounds_toArray, List.set_cons_zero, List.set_cons_succ])
      refine wpAnyH_take (i := 10) (v := .pointer (some ⟨b, 5, none⟩)) rfl (by kernel_rfl) (by kernel_rfl) (by kernel_rfl) (fun _ _ _ h => h) (Or.inl ⟨by kernel_rfl, by (intro W hS; go_simp; first | done | with_reducible rfl | rfl)⟩) hS0 ?_
      (try simp only [Act.put, List.getElem_toArray, List.getElem_cons_zero, List.getElem_cons_succ, List.setIfInBounds_toArray, List.set_cons_zero, List.set_cons_succ])
      refine wpAnyH_take (i := 11) (v := .slice A1 x.queue.length c1) rfl (by kernel_rfl) (by kernel_rfl) (by kernel_rfl) (fun _ _ _ h => h) (Or.inl ⟨by kernel_rfl, by (intro W hS; have y := (HX.out.below hS HX.out.lt).cell 5; have yl := (HX.out.below hS HX.out.lt).lt; go_simp; first | done | with_reducible rfl | rfl)⟩) hS0 ?_
      (try simp only [Act.put, List.getElem_toArray, List.getElem_cons_zero, List.getElem_cons_succ, List.setIfInBounds_toArray, List.set_cons_zero, List.set_cons_succ])
      refine wpAnyH_take (i := 12) (v := .int .i64 (x.queue.length : Int)) rfl (by kernel_rfl) (by kernel_rfl) (by kernel_rfl) (fun _ _ _ h => h) (Or.inl ⟨by kernel_rfl, by (intro W hS; go_simp; first | done | with_reducible rfl | rfl)⟩) hS0 ?_
      (try simp only [Act.put, List.getElem_toArray, List.getElem_cons_zero, List.getElem_cons_succ, List.setIfInBounds_toArray, List.set_cons_zero, List.set_cons_succ])
      refine wpAnyH_take (i := 13) (v := .bool true) rfl (by kernel_rfl) (by kernel_rfl) (by kernel_rfl) (fun _ _ _ h => h) (Or.inl ⟨by kernel_rfl, by (intro W hS; go_simp; first | done | with_reducible rfl | rfl)⟩) hS0 ?_
      (try simp only [Act.put, List.getElem_toArray, List.getElem_cons_zero, List.getElem_cons_succ, List.setIfInBounds_toArray, List.set_cons_zero, List.set_cons_succ])
      refine wpAnyH_ready (rs := [7]) (by kernel_rfl) (by simp) ?_
      refine AllReadyH.cons rfl (fun K hK => ?_) AllReadyH.nil
      go_simp
      go_at_call 156
      refine (HSD.out).mono ?_
      rintro e u1 ⟨rfl, rfl⟩
      have hS1 := hS0.trans ((Below.refl _ _).mono hS0.size)
      try go_simp
      refine hK.out _ _ hS1 (fun hHeld => ?_)
      clear hK K
      refine wpAnyH_take (i := 14) (v := .bool true) rfl (by kernel_rfl) (by kernel_rfl) (by kernel_rfl) (fun _ _ _ h => h) (Or.inl ⟨by kernel_rfl, by (intro W hS; go_simp; first | done | with_reducible rfl | rfl)⟩) hS1 ?_
      (try simp only [Act.put, List.getElem_toArray, List.getElem_cons_zero, List.getElem_cons_succ, List.setIfInBounds_toArray, List.set_cons_zero, List.set_cons_succ])
      refine wpAnyH_take (i := 15) (v := .pointer (some ⟨b, 0, none⟩)) rfl (by kernel_rfl) (by kernel_rfl) (by kernel_rfl) (fun _ _ _ h => h) (Or.inl ⟨by kernel_rfl, by (intro W hS; go_simp; first | done | with_reducible rfl | rfl)⟩) hS1 ?_
      (try simp only [Act.put, List.getElem_toArray, List.getElem_cons_zero, List.getElem_cons_succ, List.setIfInBounds_toArray, List.set_cons_zero, List.set_cons_succ])
      refine wpAnyH_take (i := 16) (v := .pointer (some ⟨b, 0, none⟩)) rfl (by kernel_rfl) (by kernel_rfl) (by kernel_rfl) (fun _ _ _ h => h) (Or.inl ⟨by kernel_rfl, by (intro W hS; go_simp; first | done | with_reducible rfl | rfl)⟩) hS1 ?_
      (try simp only [Act.put, List.getElem_toArray, List.getElem_cons_zero, List.getElem_cons_succ, List.setIfInBounds_toArray, List.set_cons_zero, List.set_cons_succ])
      refine wpAnyH_take (i := 17) (v := .pointer (some ⟨b, 16, none⟩)) rfl (by kernel_rfl) (by kernel_rfl) (by kernel_rfl) (fun _ _ _ h => h) (Or.inl ⟨by kernel_rfl, by (intro W hS; go_simp; first | done | with_reducible rfl | rfl)⟩) hS1 ?_
      (try simp only [Act.put, List.getElem_toArray, List.getElem_cons_zero, List.getElem_cons_succ, List.setIfInBounds_toArray, List.set_cons_zero, List.set_cons_succ])
      refine wpAnyH_take (i := 18) (v := .slice (some ⟨g7, off7, none⟩) x.shut.length c7) rfl (by kernel_rfl) (by kernel_rfl) (by kernel_rfl) (fun _ _ _ h => h) (Or.inl ⟨by kernel_rfl, by (intro W hS; have y := (HX.out.below hS HX.out.lt).cell 16; have yl := (HX.out.below hS HX.out.lt).lt; go_simp; first | done | with_reducible rfl | rfl)⟩) hS1 ?_
      (try simp only [Act.put, List.getElem_toArray, List.getElem_cons_zero, List.getElem_cons_succ, List.setIfInBounds_toArray, List.set_cons_zero, List.set_cons_succ])
      refine wpAnyH_take (i := 19) (v := .pointer (some ⟨g7, off7, none⟩)) rfl (by kernel_rfl) (by kernel_rfl) (by kernel_rfl) (fun _ _ _ h => h) (Or.inl ⟨by kernel_rfl, by (intro W hS; go_simp; first | done | with_reducible rfl | rfl)⟩) hS1 ?_
      (try simp only [Act.put, List.getElem_toArray, List.getElem_cons_zero, List.getElem_cons_succ, List.setIfInBounds_toArray, List.set_cons_zero, List.set_cons_succ])
      refine wpAnyH_take (i := 20) (v := .int .i64 (x.sh 0)) rfl (by kernel_rfl) (by kernel_rfl) (by kernel_rfl) (fun _ _ _ h => h) (Or.inl ⟨by kernel_rfl, by (intro W hS; have y := (hS.cell (p := ⟨g7, off7, none⟩) hgl).trans q0; have yl := Nat.lt_of_lt_of_le hgl hS.size; go_simp; first | done | with_reducible rfl | rfl)⟩) hS1 ?_
      (try simp only [Act.put, List.getElem_toArray, List.getElem_cons_zero, List.getElem_cons_succ, List.setIfInBounds_toArray, List.set_cons_zero, List.set_cons_succ])
      refine wpAnyH_take (i := 21) (v := .bool (x.sh 0 == 1)) rfl (by kernel_rfl) (by kernel_rfl) (by kernel_rfl) (fun _ _ _ h => h) (Or.inl ⟨by kernel_rfl, by (intro W hS; go_simp; first | done | with_reducible rfl | rfl)⟩) hS1 ?_
      (try simp only [Act.put, List.getElem_toArray, List.getElem_cons_zero, List.getElem_cons_succ, List.setIfInBounds_toArray, List.set_cons_zero, List.set_cons_succ])
      refine wpAnyH_take (i := 22) (v := .bool (x.sh 0 == 1)) rfl (by kernel_rfl) (by kernel_rfl) (by kernel_rfl) (fun _ _ _ h => h) (Or.inl ⟨by kernel_rfl, by (intro W hS; go_simp; first | done | with_reducible rfl | rfl)⟩) hS1 ?_
      (try simp only [Act.put, List.getElem_toArray, List.getElem_cons_zero, List.getElem_cons_succ, List.setIfInBounds_toArray, List.set_cons_zero, List.set_cons_succ])
      refine wpAnyH_take (i := 23) (v := .agg ([.bool false, .bool (x.sh 3 == 1), .bool (x.sh 0 == 1)] : List Value).toArray) rfl (by kernel_rfl) (by kernel_rfl) (by kernel_rfl) (fun _ _ _ h => h) (Or.inl ⟨by kernel_rfl, by (intro W hS; go_simp; first | done | with_reducible rfl | rfl)⟩) hS1 ?_
      (try simp only [Act.put, List.getElem_toArray, List.getElem_cons_zero, List.getElem_cons_succ, List.setIfInBounds_toArray, List.set_cons_zero, List.set_cons_succ])
      refine wpAnyH_ready (rs := [24]) (by kernel_rfl) (by simp) ?_
      refine AllReadyH.cons rfl (fun K hK => ?_) AllReadyH.nil
      rw [if_pos (by simp [Region.wanted])]
      refine wp_store_row 179 _ _ rfl (w.heap.size + 1) ([.bool false, .bool (x.sh 3 == 1), .bool (x.sh 0 == 1)] : List Value).toArray rfl rfl 179 ([.bool false, .bool false, .bool false] : List Value).toArray HZD.out info_tri rfl (bools_one _ _ _) ?_
      refine hK.out _ _ (below_setRow7 hS1 (Nat.le_succ _) _) (fun hSZ => ?_)
      clear hK K
      refine wpAnyH_done (by kernel_rfl) ?_ _
      go_wp2
      refine bodyPost_ret (ret_row rfl _ _ (w.heap.size + 1) 179 [.bool false, .bool (x.sh 3 == 1), .bool (x.sh 0 == 1)] (Row.setRow' (cs := [.bool false, .bool false, .bool false]) HZD.out [.bool false, .bool (x.sh 3 == 1), .bool (x.sh 0 == 1)]) _ rfl Try.underlying179 rfl info_tri) rfl ?_
      exact ⟨by rw [HV.out]; rfl, hSZ⟩
    have HV := hide (show x.hc y = [true, x.sh 3 == 1, false] from by unfold CrewWorld.hc; rw [if_pos h]; simp [hz, Nat.pos_of_ne_zero hz])
    have z0 : decide ((0 : Int) < (x.queue.length : Int)) = true := dec_true (by omega)
    have z1 : decide (0 < x.queue.length) = true := dec_true (by omega)
    have z2 : ((x.queue.length : Int) == 0) = false := beqf' (by omega)
    have z3 : decide (x.queue.length = 0) = false := dec_false hz
    clear hz h
    go_wp2_with fail
    refine wp_region_held_drew (S := fun W => Below w.heap.size w W) (by kernel_rfl) (below_drewN HB.out 1) (fun hS0 => ?_)
    refine wpAnyH_take (i := 0) (v := .pointer (some ⟨b, 0, none⟩)) rfl (by kernel_rfl) (by kernel_rfl) (by kernel_rfl) (fun _ _ _ h => h) (Or.inl ⟨by kernel_rfl, by (intro W hS; go_simp; first | done | with_reducible rfl | rfl)⟩) hS0 ?_
    (try simp only [Act.put, List.getElem_toArray, List.getElem_cons_zero, List.getElem_cons_succ, List.setIfInBounds_toArray, List.set_cons_zero, List.set_cons_succ])
    refine wpAnyH_take (i := 1) (v := .pointer (some ⟨b, 0, none⟩)) rfl (by kernel_rfl) (by kernel_rfl) (by kernel_rfl) (fun _ _ _ h => h) (Or.inl ⟨by kernel_rfl, by (intro W hS; go_simp; first | done | with_reducible rfl | rfl)⟩) hS0 ?_
    (try simp only [Act.put, List.getElem_toArray, List.getElem_cons_zero, List.getElem_cons_succ, List.setIfInBounds_toArray, List.set_cons_zero, List.set_cons_succ])
    refine wpAnyH_take (i := 2) (v := .pointer (some ⟨b, 5, none⟩)) rfl (by kernel_rfl) (by kernel_rfl) (by kernel_rfl) (fun _ _ _ h => h) (Or.inl ⟨by kernel_rfl, by (intro W hS; go_simp; first | done | with_reducible rfl | rfl)⟩) hS0 ?_
    (try simp only [Act.put, List.getElem_toArray, List.getElem_cons_zero, List.getElem_cons_succ, List.setIfInBounds_toArray, List.set_cons_zero, List.set_cons_succ])
    refine wpAnyH_take (i := 3) (v := .slice A1 x.queue.length c1) rfl (by kernel_rfl) (by kernel_rfl) (by kernel_rfl) (fun _ _ _ h => h) (Or.inl ⟨by kernel_rfl, by (intro W hS; have y := (HX.out.below hS HX.out.lt).cell 5; have yl := (HX.out.below hS HX.out.lt).lt; go_simp; first | done | with_reducible rfl | rfl)⟩) hS0 ?_
    (try simp only [Act.put, List.getElem_toArray, List.getElem_cons_zero, List.getElem_cons_succ, List.setIfInBounds_toArray, List.set_cons_zero, List.set_cons_succ])
    refine wpAnyH_take (i := 4) (v := .int .i64 (x.queue.length : Int)) rfl (by kernel_rfl) (by kernel_rfl) (by kernel_rfl) (fun _ _ _ h => h) (Or.inl ⟨by kernel_rfl, by (intro W hS; go_simp; first | done | with_reducible rfl | rfl)⟩) hS0 ?_
    (try simp only [Act.put, List.getElem_toArray, List.getElem_cons_zero, List.getElem_cons_succ, List.setIfInBounds_toArray, List.set_cons_zero, List.set_cons_succ])
    refine wpAnyH_take (i := 5) (v := .bool true) rfl (by kernel_rfl) (by kernel_rfl) (by kernel_rfl) (fun _ _ _ h => h) (Or.inl ⟨by kernel_rfl, by (intro W hS; go_simp; first | done | with_reducible rfl | rfl)⟩) hS0 ?_
    (try simp only [Act.put, List.getElem_toArray, List.getElem_cons_zero, List.getElem_cons_succ, List.setIfInBounds_toArray, List.set_cons_zero, List.set_cons_succ])
    refine wpAnyH_take (i := 6) (v := .pointer (some ⟨b, 0, none⟩)) rfl (by kernel_rfl) (by kernel_rfl) (by kernel_rfl) (fun _ _ _ h => h) (Or.inl ⟨by kernel_rfl, by (intro W hS; go_simp; first | done | with_reducible rfl | rfl)⟩) hS0 ?_
    (try simp only [Act.put, List.getElem_toArray, List.getElem_cons_zero, List.getElem_cons_succ, List.setIfInBounds_toArray, List.set_cons_zero, List.set_cons_succ])
    refine wpAnyH_take (i := 8) (v := .pointer (some ⟨b, 0, none⟩)) rfl (by kernel_rfl) (by kernel_rfl) (by kernel_rfl) (fun _ _ _ h => h) (Or.inl ⟨by kernel_rfl, by (intro W hS; go_simp; first | done | with_reducible rfl | rfl)⟩) hS0 ?_
    (try simp only [Act.put, List.getElem_toArray, List.getElem_cons_zero, List.getElem_cons_succ, List.setIfInBounds_toArray, List.set_cons_zero, List.set_cons_succ])
    refine wpAnyH_take (i := 9) (v := .pointer (some ⟨b, 0, none⟩)) rfl (by kernel_rfl) (by kernel_rfl) (by kernel_rfl) (fun _ _ _ h => h) (Or.inl ⟨by kernel_rfl, by (intro W hS; go_simp; first | done | with_reducible rfl | rfl)⟩) hS0 ?_
    (try simp only [Act.put, List.getElem_toArray, List.getElem_cons_zero, List.getElem_cons_succ, List.setIfInBounds_toArray, List.set_cons_zero, List.set_cons_succ])
    refine wpAnyH_take (i := 10) (v := .pointer (some ⟨b, 5, none⟩)) rfl (by kernel_rfl) (by kernel_rfl) (by kernel_rfl) (fun _ _ _ h => h) (Or.inl ⟨by kernel_rfl, by (intro W hS; go_simp; first | done | with_reducible rfl | rfl)⟩) hS0 ?_
    (try simp only [Act.put, List.getElem_toArray, List.getElem_cons_zero, List.getElem_cons_succ, List.setIfInBounds_toArray, List.set_cons_zero, List.set_cons_succ])
    refine wpAnyH_take (i := 11) (v := .slice A1 x.queue.length c1) rfl (by kernel_rfl) (by kernel_rfl) (by kernel_rfl) (fun _ _ _ h => h) (Or.inl ⟨by kernel_rfl, by (intro W hS; have y := (HX.out.below hS HX.out.lt).cell 5; have yl := (HX.out.below hS HX.out.lt).lt; go_simp; first | done | with_reducible rfl | rfl)⟩) hS0 ?_
    (try simp only [Act.put, List.getElem_toArray, List.getElem_cons_zero, List.getElem_cons_succ, List.setIfInBounds_toArray, List.set_cons_zero, List.set_cons_succ])
    refine wpAnyH_take (i := 12) (v := .int .i64 (x.queue.length : Int)) rfl (by kernel_rfl) (by kernel_rfl) (by kernel_rfl) (fun _ _ _ h => h) (Or.inl ⟨by kernel_rfl, by (intro W hS; go_simp; first | done | with_reducible rfl | rfl)⟩) hS0 ?_
    (try simp only [Act.put, List.getElem_toArray, List.getElem_cons_zero, List.getElem_cons_succ, List.setIfInBounds_toArray, List.set_cons_zero, List.set_cons_succ])
    refine wpAnyH_take (i := 13) (v := .bool false) rfl (by kernel_rfl) (by kernel_rfl) (by kernel_rfl) (fun _ _ _ h => h) (Or.inl ⟨by kernel_rfl, by (intro W hS; go_simp; first | done | with_reducible rfl | rfl)⟩) hS0 ?_
    (try simp only [Act.put, List.getElem_toArray, List.getElem_cons_zero, List.getElem_cons_succ, List.setIfInBounds_toArray, List.set_cons_zero, List.set_cons_succ])
    refine wpAnyH_ready (rs := [7]) (by kernel_rfl) (by simp) ?_
    refine AllReadyH.cons rfl (fun K hK => ?_) AllReadyH.nil
    go_simp
    go_at_call 156
    refine (HSD.out).mono ?_
    rintro e u1 ⟨rfl, rfl⟩
    have hS1 := hS0.trans ((Below.refl _ _).mono hS0.size)
    try go_simp
    refine hK.out _ _ hS1 (fun hHeld => ?_)
    clear hK K
    refine wpAnyH_take (i := 14) (v := .bool false) rfl (by kernel_rfl) (by kernel_rfl) (by kernel_rfl) (fun _ _ _ h => h) (Or.inl ⟨by kernel_rfl, by (intro W hS; go_simp; first | done | with_reducible rfl | rfl)⟩) hS1 ?_
    (try simp only [Act.put, List.getElem_toArray, List.getElem_cons_zero, List.getElem_cons_succ, List.setIfInBounds_toArray, List.set_cons_zero, List.set_cons_succ])
    refine wpAnyH_take (i := 15) (v := undef) rfl (by kernel_rfl) (by kernel_rfl) (by kernel_rfl) (fun _ _ _ h => h) (Or.inr ⟨by kernel_rfl, rfl⟩) hS1 ?_
    (try simp only [Act.put, List.getElem_toArray, List.getElem_cons_zero, List.getElem_cons_succ, List.setIfInBounds_toArray, List.set_cons_zero, List.set_cons_succ])
    refine wpAnyH_take (i := 16) (v := undef) rfl (by kernel_rfl) (by kernel_rfl) (by kernel_rfl) (fun _ _ _ h => h) (Or.inr ⟨by kernel_rfl, rfl⟩) hS1 ?_
    (try simp only [Act.put, List.getElem_toArray, List.getElem_cons_zero, List.getElem_cons_succ, List.setIfInBounds_toArray, List.set_cons_zero, List.set_cons_succ])
    refine wpAnyH_take (i := 17) (v := undef) rfl (by kernel_rfl) (by kernel_rfl) (by kernel_rfl) (fun _ _ _ h => h) (Or.inr ⟨by kernel_rfl, rfl⟩) hS1 ?_
    (try simp only [Act.put, List.getElem_toArray, List.getElem_cons_zero, List.getElem_cons_succ, List.setIfInBounds_toArray, List.set_cons_zero, List.set_cons_succ])
    refine wpAnyH_take (i := 18) (v := undef) rfl (by kernel_rfl) (by kernel_rfl) (by kernel_rfl) (fun _ _ _ h => h) (Or.inr ⟨by kernel_rfl, rfl⟩) hS1 ?_
    (try simp only [Act.put, List.getElem_toArray, List.getElem_cons_zero, List.getElem_cons_succ, List.setIfInBounds_toArray, List.set_cons_zero, List.set_cons_succ])
    refine wpAnyH_take (i := 19) (v := undef) rfl (by kernel_rfl) (by kernel_rfl) (by kernel_rfl) (fun _ _ _ h => h) (Or.inr ⟨by kernel_rfl, rfl⟩) hS1 ?_
    (try simp only [Act.put, List.getElem_toArray, List.getElem_cons_zero, List.getElem_cons_succ, List.setIfInBounds_toArray, List.set_cons_zero, List.set_cons_succ])
    refine wpAnyH_take (i := 20) (v := undef) rfl (by kernel_rfl) (by kernel_rfl) (by kernel_rfl) (fun _ _ _ h => h) (Or.inr ⟨by kernel_rfl, rfl⟩) hS1 ?_
    (try simp only [Act.put, List.getElem_toArray, List.getElem_cons_zero, List.getElem_cons_succ, List.setIfInBounds_toArray, List.set_cons_zero, List.set_cons_succ])
    refine wpAnyH_take (i := 21) (v := undef) rfl (by kernel_rfl) (by kernel_rfl) (by kernel_rfl) (fun _ _ _ h => h) (Or.inr ⟨by kernel_rfl, rfl⟩) hS1 ?_
    (try simp only [Act.put, List.getElem_toArray, List.getElem_cons_zero, List.getElem_cons_succ, List.setIfInBounds_toArray, List.set_cons_zero, List.set_cons_succ])
    refine wpAnyH_take (i := 22) (v := .bool false) rfl (by kernel_rfl) (by kernel_rfl) (by kernel_rfl) (fun _ _ _ h => h) (Or.inl ⟨by kernel_rfl, by (intro W hS; go_simp; first | done | with_reducible rfl | rfl)⟩) hS1 ?_
    (try simp only [Act.put, List.getElem_toArray, List.getElem_cons_zero, List.getElem_cons_succ, List.setIfInBounds_toArray, List.set_cons_zero, List.set_cons_succ])
    refine wpAnyH_take (i := 23) (v := .agg ([.bool true, .bool (x.sh 3 == 1), .bool (false)] : List Value).toArray) rfl (by kernel_rfl) (by kernel_rfl) (by kernel_rfl) (fun _ _ _ h => h) (Or.inl ⟨by kernel_rfl, by (intro W hS; go_simp; first | done | with_reducible rfl | rfl)⟩) hS1 ?_
    (try simp only [Act.put, List.getElem_toArray, List.getElem_cons_zero, List.getElem_cons_succ, List.setIfInBounds_toArray, List.set_cons_zero, List.set_cons_succ])
    refine wpAnyH_ready (rs := [24]) (by kernel_rfl) (by simp) ?_
    refine AllReadyH.cons rfl (fun K hK => ?_) AllReadyH.nil
    rw [if_pos (by simp [Region.wanted])]
    refine wp_store_row 179 _ _ rfl (w.heap.size + 1) ([.bool true, .bool (x.sh 3 == 1), .bool (false)] : List Value).toArray rfl rfl 179 ([.bool false, .bool false, .bool false] : List Value).toArray HZD.out info_tri rfl (bools_one _ _ _) ?_
    refine hK.out _ _ (below_setRow7 hS1 (Nat.le_succ _) _) (fun hSZ => ?_)
    clear hK K
    refine wpAnyH_done (by kernel_rfl) ?_ _
    go_wp2
    refine bodyPost_ret (ret_row rfl _ _ (w.heap.size + 1) 179 [.bool true, .bool (x.sh 3 == 1), .bool (false)] (Row.setRow' (cs := [.bool false, .bool false, .bool false]) HZD.out [.bool true, .bool (x.sh 3 == 1), .bool (false)]) _ rfl Try.underlying179 rfl info_tri) rfl ?_
    exact ⟨by rw [HV.out]; rfl, hSZ⟩
  have r0 := beqf' h
  by_cases h1 : y.state = 1
  · have r1 := beqt' h1
    have HV := hide (show x.hc y = [true, false, false] from by unfold CrewWorld.hc; rw [if_neg h, if_pos h1])
    clear h h1
    go_wp2_with (first | (refine wpList_store_row rfl 179 _ _ rfl (w.heap.size + 1) ([.bool true, .bool false, .bool false] : List Value).toArray rfl rfl 179 ([.bool false, .bool false, .bool false] : List Value).toArray HZ.out info_tri rfl (bools_one _ _ _) ?_) | (go_at_call 156; refine HST.out.mono ?_; rintro e wq ⟨rfl, rfl⟩) | fail)
    refine bodyPost_ret (ret_row rfl _ _ (w.heap.size + 1) 179 [.bool true, .bool false, .bool false] (Row.setRow' (cs := [.bool false, .bool false, .bool false]) HZ.out [.bool true, .bool false, .bool false]) _ rfl Try.underlying179 rfl info_tri) rfl ?_
    exact ⟨by rw [HV.out]; rfl, below_setRow7 HB.out (Nat.le_succ _) _⟩
  have r1 := beqf' h1
  by_cases h2 : y.state = 2
  · have r2 := beqt' h2
    have HZD := hide (show Row w1.drew (w.heap.size + 1) 179 [.bool false, .bool false, .bool false] from HZ.out)
    have HSD := hide (isStopped_any x _ _ b w1.drew (HX.out.below (below_drewN HB.out 1) HX.out.lt) (HO.out.below (below_drewN HB.out 1) HF.out) (HF.out.up (below_drewN HB.out 1)) HFM.out)
    have HV := hide (show x.hc y = [decide ((x.results.length : Int) < x.workers), x.sh 3 == 1, false] from by unfold CrewWorld.hc; rw [if_neg h, if_neg h1, if_pos h2])
    clear h h1 h2
    go_wp2_with fail
    refine wp_region_held_drew (S := fun W => Below w.heap.size w W) (by kernel_rfl) (below_drewN HB.out 1) (fun hS0 => ?_)
    refine wpAnyH_take (i := 0) (v := .pointer (some ⟨b, 0, none⟩)) rfl (by kernel_rfl) (by kernel_rfl) (by kernel_rfl) (fun _ _ _ h => h) (Or.inl ⟨by kernel_rfl, by (intro W hS; go_simp; first | done | with_reducible rfl | rfl)⟩) hS0 ?_
    (try simp only [Act.put, List.getElem_toArray, List.getElem_cons_zero, List.getElem_cons_succ, List.setIfInBounds_toArray, List.set_cons_zero, List.set_cons_succ])
    refine wpAnyH_take (i := 1) (v := .pointer (some ⟨b, 0, none⟩)) rfl (by kernel_rfl) (by kernel_rfl) (by kernel_rfl) (fun _ _ _ h => h) (Or.inl ⟨by kernel_rfl, by (intro W hS; go_simp; first | done | with_reducible rfl | rfl)⟩) hS0 ?_
    (try simp only [Act.put, List.getElem_toArray, List.getElem_cons_zero, List.getElem_cons_succ, List.setIfInBounds_toArray, List.set_cons_zero, List.set_cons_succ])
    refine wpAnyH_take (i := 2) (v := .pointer (some ⟨b, 8, none⟩)) rfl (by kernel_rfl) (by kernel_rfl) (by kernel_rfl) (fun _ _ _ h => h) (Or.inl ⟨by kernel_rfl, by (intro W hS; go_simp; first | done | with_reducible rfl | rfl)⟩) hS0 ?_
    (try simp only [Act.put, List.getElem_toArray, List.getElem_cons_zero, List.getElem_cons_succ, List.setIfInBounds_toArray, List.set_cons_zero, List.set_cons_succ])
    refine wpAnyH_take (i := 3) (v := .slice A3 x.results.length c3) rfl (by kernel_rfl) (by kernel_rfl) (by kernel_rfl) (fun _ _ _ h => h) (Or.inl ⟨by kernel_rfl, by (intro W hS; have y := (HX.out.below hS HX.out.lt).cell 8; have yl := (HX.out.below hS HX.out.lt).lt; go_simp; first | done | with_reducible rfl | rfl)⟩) hS0 ?_
    (try simp only [Act.put, List.getElem_toArray, List.getElem_cons_zero, List.getElem_cons_succ, List.setIfInBounds_toArray, List.set_cons_zero, List.set_cons_succ])
    refine wpAnyH_take (i := 4) (v := .int .i64 (x.results.length : Int)) rfl (by kernel_rfl) (by kernel_rfl) (by kernel_rfl) (fun _ _ _ h => h) (Or.inl ⟨by kernel_rfl, by (intro W hS; go_simp; first | done | with_reducible rfl | rfl)⟩) hS0 ?_
    (try simp only [Act.put, List.getElem_toArray, List.getElem_cons_zero, List.getElem_cons_succ, List.setIfInBounds_toArray, List.set_cons_zero, List.set_cons_succ])
    refine wpAnyH_take (i := 5) (v := .pointer (some ⟨b, 0, none⟩)) rfl (by kernel_rfl) (by kernel_rfl) (by kernel_rfl) (fun _ _ _ h => h) (Or.inl ⟨by kernel_rfl, by (intro W hS; go_simp; first | done | with_reducible rfl | rfl)⟩) hS0 ?_
    (try simp only [Act.put, List.getElem_toArray, List.getElem_cons_zero, List.getElem_cons_succ, List.setIfInBounds_toArray, List.set_cons_zero, List.set_cons_succ])
    refine wpAnyH_take (i := 6) (v := .pointer (some ⟨b, 0, none⟩)) rfl (by kernel_rfl) (by kernel_rfl) (by kernel_rfl) (fun _ _ _ h => h) (Or.inl ⟨by kernel_rfl, by (intro W hS; go_simp; first | done | with_reducible rfl | rfl)⟩) hS0 ?_
    (try simp only [Act.put, List.getElem_toArray, List.getElem_cons_zero, List.getElem_cons_succ, List.setIfInBounds_toArray, List.set_cons_zero, List.set_cons_succ])
    refine wpAnyH_take (i := 7) (v := .pointer (some ⟨b, 1, none⟩)) rfl (by kernel_rfl) (by kernel_rfl) (by kernel_rfl) (fun _ _ _ h => h) (Or.inl ⟨by kernel_rfl, by (intro W hS; go_simp; first | done | with_reducible rfl | rfl)⟩) hS0 ?_
    (try simp only [Act.put, List.getElem_toArray, List.getElem_cons_zero, List.getElem_cons_succ, List.setIfInBounds_toArray, List.set_cons_zero, List.set_cons_succ])
    refine wpAnyH_take (i := 8) (v := .int .i64 x.workers) rfl (by kernel_rfl) (by kernel_rfl) (by kernel_rfl) (fun _ _ _ h => h) (Or.inl ⟨by kernel_rfl, by (intro W hS; have y := (HX.out.below hS HX.out.lt).cell 1; have yl := (HX.out.below hS HX.out.lt).lt; go_simp; first | done | with_reducible rfl | rfl)⟩) hS0 ?_
    (try simp only [Act.put, List.getElem_toArray, List.getElem_cons_zero, List.getElem_cons_succ, List.setIfInBounds_toArray, List.set_cons_zero, List.set_cons_succ])
    refine wpAnyH_take (i := 9) (v := .bool (decide ((x.results.length : Int) < x.workers))) rfl (by kernel_rfl) (by kernel_rfl) (by kernel_rfl) (fun _ _ _ h => h) (Or.inl ⟨by kernel_rfl, by (intro W hS; go_simp; first | done | with_reducible rfl | rfl)⟩) hS0 ?_
    (try simp only [Act.put, List.getElem_toArray, List.getElem_cons_zero, List.getElem_cons_succ, List.setIfInBounds_toArray, List.set_cons_zero, List.set_cons_succ])
    refine wpAnyH_take (i := 10) (v := .pointer (some ⟨b, 0, none⟩)) rfl (by kernel_rfl) (by kernel_rfl) (by kernel_rfl) (fun _ _ _ h => h) (Or.inl ⟨by kernel_rfl, by (intro W hS; go_simp; first | done | with_reducible rfl | rfl)⟩) hS0 ?_
    (try simp only [Act.put, List.getElem_toArray, List.getElem_cons_zero, List.getElem_cons_succ, List.setIfInBounds_toArray, List.set_cons_zero, List.set_cons_succ])
    refine wpAnyH_ready (rs := [11]) (by kernel_rfl) (by simp) ?_
    refine AllReadyH.cons rfl (fun K hK => ?_) AllReadyH.nil
    go_simp
    go_at_call 156
    refine (HSD.out).mono ?_
    rintro e u1 ⟨rfl, rfl⟩
    have hS1 := hS0.trans ((Below.refl _ _).mono hS0.size)
    try go_simp
    refine hK.out _ _ hS1 (fun hHeld => ?_)
    clear hK K
    refine wpAnyH_take (i := 12) (v := .agg ([.bool (decide ((x.results.length : Int) < x.workers)), .bool (x.sh 3 == 1), .bool false] : List Value).toArray) rfl (by kernel_rfl) (by kernel_rfl) (by kernel_rfl) (fun _ _ _ h => h) (Or.inl ⟨by kernel_rfl, by (intro W hS; go_simp; first | done | with_reducible rfl | rfl)⟩) hS1 ?_
    (try simp only [Act.put, List.getElem_toArray, List.getElem_cons_zero, List.getElem_cons_succ, List.setIfInBounds_toArray, List.set_cons_zero, List.set_cons_succ])
    refine wpAnyH_ready (rs := [13]) (by kernel_rfl) (by simp) ?_
    refine AllReadyH.cons rfl (fun K hK => ?_) AllReadyH.nil
    rw [if_pos (by simp [Region.wanted])]
    refine wp_store_row 179 _ _ rfl (w.heap.size + 1) ([.bool (decide ((x.results.length : Int) < x.workers)), .bool (x.sh 3 == 1), .bool false] : List Value).toArray rfl rfl 179 ([.bool false, .bool false, .bool false] : List Value).toArray HZD.out info_tri rfl (bools_one _ _ _) ?_
    refine hK.out _ _ (below_setRow7 hS1 (Nat.le_succ _) _) (fun hSZ => ?_)
    clear hK K
    refine wpAnyH_done (by kernel_rfl) ?_ _
    go_wp2
    refine bodyPost_ret (ret_row rfl _ _ (w.heap.size + 1) 179 [.bool (decide ((x.results.length : Int) < x.workers)), .bool (x.sh 3 == 1), .bool false] (Row.setRow' (cs := [.bool false, .bool false, .bool false]) HZD.out [.bool (decide ((x.results.length : Int) < x.workers)), .bool (x.sh 3 == 1), .bool false]) _ rfl Try.underlying179 rfl info_tri) rfl ?_
    exact ⟨by rw [HV.out]; rfl, hSZ⟩
  have r2 := beqf' h2
  have HV := hide (show x.hc y = [false, false, false] from by unfold CrewWorld.hc; rw [if_neg h, if_neg h1, if_neg h2])
  clear h h1 h2
  go_wp2_with (first | (refine wpList_store_row rfl 179 _ _ rfl (w.heap.size + 1) ([.bool false, .bool false, .bool false] : List Value).toArray rfl rfl 179 ([.bool false, .bool false, .bool false] : List Value).toArray HZ.out info_tri rfl (bools_one _ _ _) ?_) | (go_at_call 156; refine HST.out.mono ?_; rintro e wq ⟨rfl, rfl⟩) | fail)
  refine bodyPost_ret (ret_row rfl _ _ (w.heap.size + 1) 179 [.bool false, .bool false, .bool false] (Row.setRow' (cs := [.bool false, .bool false, .bool false]) HZ.out [.bool false, .bool false, .bool false]) _ rfl Try.underlying179 rfl info_tri) rfl ?_
  exact ⟨by rw [HV.out]; rfl, below_setRow7 HB.out (Nat.le_succ _) _⟩
end Go.Proofs.Ytpkjjfnfolbcoaa
set_option linter.unusedVariables false
set_option linter.unusedSimpArgs false
namespace Go.Proofs.Ytpkjjfnfolbcoaa
open Go.ChangeShapes Go.WideShapes Go.ChangeAt Go.RowKit

set_option maxRecDepth 100000 in
theorem index3_lit (a b c : Bool) (q : Nat) (h : q < 3) (u : World) : (Instr.index 179 (.agg #[.bool a, .bool b, .bool c]) (.int .i64 (q : Int))).run Try.prog u = .ok (.bool ([a, b, c][q]'(by simpa using h))) u := by
  obtain rfl | rfl | rfl : q = 0 ∨ q = 1 ∨ q = 2 := by omega
  all_goals rfl
set_option maxRecDepth 100000 in
set_option maxHeartbeats 8000000 in
theorem cases_any (x : CrewWorld) (us : List Value) (fp : List Nat) (b : Nat) (w : World) (hb : Row w b 30 us) (ho : OwC w x.cells us fp) (hf : Lt fp w.heap.size) (hfm : x.Form) (who : Nat) (hwho : (who : Int) ≤ x.workers + 3) : Calls Try.prog 132 #[.pointer (some ⟨b, 0, none⟩), .int .i64 (who : Int)] w (PlacesOut (idxs 0 (x.tri who)) w) := by
  have HFM := hide hfm
  have HHL := hide hfm.hands
  have hww := hfm.start.2.1
  clear hfm
  have HO := hide ho
  have HF := hide hf
  obtain ⟨A1, c1, A2, c2, A3, c3, A4, c4, A5, c5, A6, c6, A7, c7, f1, f2, f3, f4, f5, f6, f7, rfl, wjobs, wworkers, wwindow, wnext, wreader, o1, o2, wcloser, o3, wkeeper, o4, wdue, o5, wuser, o6, wroom, o7, wops, rfl⟩ := ho.oCrewWorld
  have O2 := hide o2
  have l2 := hf.right.left
  obtain ⟨-, n2, m2⟩ := o2.nlen
  unfold maxLen at m2
  have O7 := hide o7
  have l7 := hf.right.right.right.right.right.right
  obtain ⟨-, n7, m7⟩ := o7.nlen
  unfold maxLen at m7
  have HX := hide hb
  clear ho hb o1 o2 o3 o4 o5 o6 o7
  have x0 := HX.out.cell 0
  have xl := HX.out.lt
  go_enter Try.func132, Try.ntmps132
  clear x0 xl
  go_upto_region 2 with fail
  generalize hw1 : w.alloc _ = w1
  have hb0 : Below w.heap.size w w1 := by rw [← hw1]; exact (Below.refl _ _).alloc (Nat.le_refl _) _
  have HR1 := hide (show Row w1 w.heap.size 179 ([.bool false, .bool false, .bool false] : List Value) from by rw [← hw1]; exact Row.new w _ _)
  have HB1 := hide hb0
  have HX1 := hide (HX.out.below hb0 HX.out.lt)
  have HO1 := hide (HO.out.below hb0 HF.out)
  have HF1 := hide (HF.out.up hb0)
  have HN1 := hide (closerNo_any x _ _ b w1 HX1.out HO1.out HF1.out HFM.out)
  have HN2 := hide (keeperNo_any x _ _ b w1 HX1.out HO1.out HF1.out HFM.out)
  have HN3 := hide (userNo_any x _ _ b w1 HX1.out HO1.out HF1.out HFM.out)
  have O2 := hide (O2.out.below hb0 l2)
  have O7 := hide (O7.out.below hb0 l7)
  have l2 := l2.up hb0
  have l7 := l7.up hb0
  have bl := HR1.out.lt
  clear hw1 hb0 HX HO HF
  by_cases h0 : who = 0
  · have HT := hide (show x.tri who = x.rc from by unfold CrewWorld.tri; rw [if_pos h0])
    have r0 : ((who : Int) == 0) = true := beqt' (by omega)
    clear h0
    have HC0 := hide (readerCases_any x _ _ b w1 HX1.out HO1.out HF1.out HFM.out)
    have hl3 := rc_len x
    obtain ⟨tv, htv⟩ : ∃ tv, tv = x.rc := ⟨_, rfl⟩
    rw [← htv] at HC0 hl3 HT
    obtain ⟨p0, p1, p2, rfl⟩ : ∃ p0 p1 p2, tv = [p0, p1, p2] := by
      match tv, hl3 with
      | [a, b, c], _ => exact ⟨a, b, c, rfl⟩
    have hone := bools_one p0 p1 p2
    have HC := hide (show Calls _ _ _ w1 (fun e w' => e = .returned (.agg ([.bool p0, .bool p1, .bool p2] : List Value).toArray) ∧ Below w1.heap.size w1 w') from HC0.out)
    clear htv hl3 HC0
    go_upto_region 13 with (first | (go_at_call 162; refine HC.out.mono ?_; rintro e w2 ⟨rfl, hb2⟩; have HR2 := hide (HR1.out.below hb2 HR1.out.lt); have hz2 := HR2.out.lt) | (refine wpList_store_row rfl 179 _ _ rfl w.heap.size ([.bool p0, .bool p1, .bool p2] : List Value).toArray rfl rfl 179 ([.bool false, .bool false, .bool false] : List Value).toArray HR2.out info_tri rfl hone ?_) | fail)
    have HB2 := hide (HB1.out.trans (hb2.mono HB1.out.size))
    generalize hw5 : World.setRow _ _ _ = w5
    have HR5 := hide (show Row w5 w.heap.size 179 ([.bool p0, .bool p1, .bool p2] : List Value) from by rw [← hw5]; exact Row.setRow' (cs := [.bool false, .bool false, .bool false]) HR2.out ([.bool p0, .bool p1, .bool p2] : List Value))
    have HB5 := hide (show Below w.heap.size w w5 from by rw [← hw5]; exact below_setRow7 HB2.out (Nat.le_refl _) _)
    clear hw5 HC HR2 hb2 HB2 hz2 HR1

    obtain ⟨tl, htl⟩ : ∃ tl, tl = [p0, p1, p2] := ⟨_, rfl⟩
    have HTL := hide (show x.tri who = tl from by rw [htl]; exact HT.out)
    have htl3 : tl.length = 3 := by rw [htl]; rfl
    have HIX := hide (fun (q : Nat) (h : q < 3) (u : World) => show (Instr.index 179 (.agg #[.bool p0, .bool p1, .bool p2]) (.int .i64 (q : Int))).run Try.prog u = .ok (.bool (tl[q]'(by omega))) u from by
      have h1 := index3_lit p0 p1 p2 q h u
      rw [h1]
      simp only [htl])
    have c0 := HR5.out.cell 0
    have c1 := HR5.out.cell 1
    have c2 := HR5.out.cell 2
    have cl := HR5.out.lt
    have HP0 := hide (Pl.empty w5)
    have hb51 : Below w5.heap.size w5 (w5.alloc (.cells #[] 3)) := (Below.refl _ _).alloc (Nat.le_refl _) _
    have HR6 := hide (HR5.out.below hb51 HR5.out.lt)
    have d0 := HR6.out.cell 0
    have d1' := HR6.out.cell 1
    have d2 := HR6.out.cell 2
    have dl := HR6.out.lt
    obtain ⟨ia, hia, ja0, ja1, ja2⟩ := info_parts info_int
    have HIa := hide hia
    clear hia htl hb51
    go_wp2_with fail
    go_loopw [6, 88] (fun s i wr => ∃ (j : Nat) (E : Option Addr) (en ec : Nat) (ue : List Value), i = .int .i64 j ∧ j ≤ 3 ∧ s = .slice E en ec ∧ Pl w5.heap.size w5 wr (.slice E en ec) (idxs 0 (tl.take j)) ue) (fun _ i _ => 3 - (intOf i).toNat)
    case atStart => exact ⟨0, _, _, _, _, rfl, by omega, rfl, HP0.out.same (by simp [idxs])⟩
    case round =>
      obtain ⟨j, E, en, ec, ue, rfl, hj, rfl, hp⟩ := hrel
      have HPR := hide hp
      have hwr : w5.heap.size ≤ wr.heap.size := hp.sz
      have hil := idxs_len (tl.take j) 0
      have htk : (tl.take j).length ≤ 3 := by rw [List.length_take]; omega
      clear hp
      by_cases hlt : j < 3
      · have hjI : (j : Int) < 3 := by omega
        have hj0 : (0 : Int) ≤ (j : Int) := by omega
        have hjl : j < tl.length := by omega
        have hix := HIX.out j hlt
        have HSN := hide (idxs_snoc tl 0 j hjl)
        have hjw : (Lit.int .i64 (j : Int)).wf = true := WalkArith.wf_i64 (by omega)
        generalize tl[j] = q at *
        cases q
        · have HS := hide (show idxs 0 (tl.take j) = idxs 0 (tl.take (j + 1)) from by rw [HSN.out]; simp)
          go_wp2
          go_roundw
          case rel => exact ⟨j + 1, _, _, _, _, by go_num, by omega, rfl, HPR.out.same HS.out⟩
          case measure => simp [intOf]; omega
        · have HS := hide (show idxs 0 (tl.take j) ++ [(j : Int)] = idxs 0 (tl.take (j + 1)) from by rw [HSN.out]; simp)
          have HPA := hide (HPR.out.alloc (.cells #[.int .i64 (j : Int)] 3))
          go_wp2_with (first | (at_builtin; refine wpl_app rfl _ _ 22 rfl ia _ 8 Try.underlying22 HIa.out ja0 ja1 ja2 rfl (by decide) intC_len rfl HPA.out.own [(j : Int)] (int_src _ hjw _) (by exact New.nil _ _) (fun q _ hq => by cases hq) _ _ _ rfl rfl (SrcAt.new wr _ _ _ _) (by first | omega | (simp only [List.length_append, List.length_take, List.length_singleton, List.length_nil, List.length_cons]; omega)) (by decide) HPA.out.sz ?_; intro w5A w5n w5c w5 hn5 hown5 hgb5; have HP5 := hide (HPA.out.put hgb5 hown5); clear hown5 hgb5 hn5) | fail)
          go_roundw
          case rel => exact ⟨j + 1, _, _, _, _, by go_num, by omega, rfl, HP5.out.same HS.out⟩
          case measure => simp [intOf]; omega
      · obtain rfl : j = 3 := by omega
        have HS := hide (show idxs 0 (tl.take 3) = idxs 0 (x.tri who) from by rw [HTL.out, ← htl3, List.take_length])
        go_wp2
        go_ret
        exact (HPR.out.same HS.out).out HB5.out HB5.out.size
  have r0 : ((who : Int) == 0) = false := beqf' (by omega)
  have H0 := hide h0
  clear h0
  by_cases h1 : (who : Int) = x.workers + 1
  · have r1 : ((who : Int) == x.workers + 1) = true := beqt' h1
    have HT := hide (show x.tri who = [(x.closer == 0) && tb x.allDone, false, false] from by unfold CrewWorld.tri; rw [if_neg H0.out, if_pos h1])
    have HC := hide (haveEnded_any x _ _ b w1 HX1.out HO1.out HF1.out)
    have x7 := HX1.out.cell 7
    have xl := HX1.out.lt
    clear h1
    by_cases hc : x.closer = 0
    · have rc := beqt' hc
      obtain ⟨p0, hp0⟩ : ∃ p0, p0 = tb x.allDone := ⟨_, rfl⟩
      obtain ⟨p1, hp1⟩ : ∃ p1, p1 = false := ⟨_, rfl⟩
      obtain ⟨p2, hp2⟩ : ∃ p2, p2 = false := ⟨_, rfl⟩
      have Q0 := hide hp0
      have Q1 := hide hp1
      have Q2 := hide hp2
      clear hp0 hp1 hp2
      have HT := hide (show x.tri who = [p0, p1, p2] from by rw [HT.out, rc, Q0.out, Q1.out, Q2.out]; rfl)
      rw [← Q0.out] at HC
      clear hc
      go_upto_region 13 with (first | (go_at_call 134; refine (HN1.out).mono ?_; rintro e wq1 ⟨rfl, hwq1⟩; rw [hwq1]; clear hwq1 wq1) | (go_at_call 135; refine (HN2.out).mono ?_; rintro e wq2 ⟨rfl, hwq2⟩; rw [hwq2]; clear hwq2 wq2) | (go_at_call 137; refine (HN3.out).mono ?_; rintro e wq3 ⟨rfl, hwq3⟩; rw [hwq3]; clear hwq3 wq3) | (go_at_call 63; refine HC.out.mono ?_; rintro e w2 ⟨rfl, hb2⟩; have HR2 := hide (HR1.out.below hb2 HR1.out.lt); have hz2 := HR2.out.lt; have hc2 := HR2.out.cell 0; have hf2 := HR2.out.frozen 0; have HB2 := hide (HB1.out.trans (hb2.mono HB1.out.size))) | fail)
      generalize hw5 : w2.setCell _ _ = w5
      have HR5 := hide (show Row w5 w.heap.size 179 ([.bool p0, .bool p1, .bool p2] : List Value) from by rw [← hw5, Q1.out, Q2.out]; exact HR2.out.set 0 (.bool p0))
      have HB5 := hide (show Below w.heap.size w w5 from by rw [← hw5]; exact HB2.out.setCell (by show w.heap.size ≤ w.heap.size; omega) _)
      clear hw5 HR1 Q0 Q1 Q2

      obtain ⟨tl, htl⟩ : ∃ tl, tl = [p0, p1, p2] := ⟨_, rfl⟩
      have HTL := hide (show x.tri who = tl from by rw [htl]; exact HT.out)
      have htl3 : tl.length = 3 := by rw [htl]; rfl
      have HIX := hide (fun (q : Nat) (h : q < 3) (u : World) => show (Instr.index 179 (.agg #[.bool p0, .bool p1, .bool p2]) (.int .i64 (q : Int))).run Try.prog u = .ok (.bool (tl[q]'(by omega))) u from by
        have h1 := index3_lit p0 p1 p2 q h u
        rw [h1]
        simp only [htl])
      have c0 := HR5.out.cell 0
      have c1 := HR5.out.cell 1
      have c2 := HR5.out.cell 2
      have cl := HR5.out.lt
      have HP0 := hide (Pl.empty w5)
      have hb51 : Below w5.heap.size w5 (w5.alloc (.cells #[] 3)) := (Below.refl _ _).alloc (Nat.le_refl _) _
      have HR6 := hide (HR5.out.below hb51 HR5.out.lt)
      have d0 := HR6.out.cell 0
      have d1' := HR6.out.cell 1
      have d2 := HR6.out.cell 2
      have dl := HR6.out.lt
      obtain ⟨ia, hia, ja0, ja1, ja2⟩ := info_parts info_int
      have HIa := hide hia
      clear hia htl hb51
      go_wp2_with fail
      go_loopw [6, 88] (fun s i wr => ∃ (j : Nat) (E : Option Addr) (en ec : Nat) (ue : List Value), i = .int .i64 j ∧ j ≤ 3 ∧ s = .slice E en ec ∧ Pl w5.heap.size w5 wr (.slice E en ec) (idxs 0 (tl.take j)) ue) (fun _ i _ => 3 - (intOf i).toNat)
      case atStart => exact ⟨0, _, _, _, _, rfl, by omega, rfl, HP0.out.same (by simp [idxs])⟩
      case round =>
        obtain ⟨j, E, en, ec, ue, rfl, hj, rfl, hp⟩ := hrel
        have HPR := hide hp
        have hwr : w5.heap.size ≤ wr.heap.size := hp.sz
        have hil := idxs_len (tl.take j) 0
        have htk : (tl.take j).length ≤ 3 := by rw [List.length_take]; omega
        clear hp
        by_cases hlt : j < 3
        · have hjI : (j : Int) < 3 := by omega
          have hj0 : (0 : Int) ≤ (j : Int) := by omega
          have hjl : j < tl.length := by omega
          have hix := HIX.out j hlt
          have HSN := hide (idxs_snoc tl 0 j hjl)
          have hjw : (Lit.int .i64 (j : Int)).wf = true := WalkArith.wf_i64 (by omega)
          generalize tl[j] = q at *
          cases q
          · have HS := hide (show idxs 0 (tl.take j) = idxs 0 (tl.take (j + 1)) from by rw [HSN.out]; simp)
            go_wp2
            go_roundw
            case rel => exact ⟨j + 1, _, _, _, _, by go_num, by omega, rfl, HPR.out.same HS.out⟩
            case measure => simp [intOf]; omega
          · have HS := hide (show idxs 0 (tl.take j) ++ [(j : Int)] = idxs 0 (tl.take (j + 1)) from by rw [HSN.out]; simp)
            have HPA := hide (HPR.out.alloc (.cells #[.int .i64 (j : Int)] 3))
            go_wp2_with (first | (at_builtin; refine wpl_app rfl _ _ 22 rfl ia _ 8 Try.underlying22 HIa.out ja0 ja1 ja2 rfl (by decide) intC_len rfl HPA.out.own [(j : Int)] (int_src _ hjw _) (by exact New.nil _ _) (fun q _ hq => by cases hq) _ _ _ rfl rfl (SrcAt.new wr _ _ _ _) (by first | omega | (simp only [List.length_append, List.length_take, List.length_singleton, List.length_nil, List.length_cons]; omega)) (by decide) HPA.out.sz ?_; intro w5A w5n w5c w5 hn5 hown5 hgb5; have HP5 := hide (HPA.out.put hgb5 hown5); clear hown5 hgb5 hn5) | fail)
            go_roundw
            case rel => exact ⟨j + 1, _, _, _, _, by go_num, by omega, rfl, HP5.out.same HS.out⟩
            case measure => simp [intOf]; omega
        · obtain rfl : j = 3 := by omega
          have HS := hide (show idxs 0 (tl.take 3) = idxs 0 (x.tri who) from by rw [HTL.out, ← htl3, List.take_length])
          go_wp2
          go_ret
          exact (HPR.out.same HS.out).out HB5.out HB5.out.size
    have rc := beqf' hc
    obtain ⟨p0, hp0⟩ : ∃ p0, p0 = false := ⟨_, rfl⟩
    obtain ⟨p1, hp1⟩ : ∃ p1, p1 = false := ⟨_, rfl⟩
    obtain ⟨p2, hp2⟩ : ∃ p2, p2 = false := ⟨_, rfl⟩
    have Q0 := hide hp0
    have Q1 := hide hp1
    have Q2 := hide hp2
    clear hp0 hp1 hp2
    have HT := hide (show x.tri who = [p0, p1, p2] from by rw [HT.out, rc, Q0.out, Q1.out, Q2.out]; rfl)
    clear hc
    have hc1 := HR1.out.cell 0
    have hf1 := HR1.out.frozen 0
    have hd1 := HR1.out.cell 1
    have he1 := HR1.out.frozen 1
    go_upto_region 13 with (first | (go_at_call 134; refine (HN1.out).mono ?_; rintro e wq1 ⟨rfl, hwq1⟩; rw [hwq1]; clear hwq1 wq1) | (go_at_call 135; refine (HN2.out).mono ?_; rintro e wq2 ⟨rfl, hwq2⟩; rw [hwq2]; clear hwq2 wq2) | (go_at_call 137; refine (HN3.out).mono ?_; rintro e wq3 ⟨rfl, hwq3⟩; rw [hwq3]; clear hwq3 wq3) | fail)
    generalize hw5 : w1.setCell _ _ = w5
    have HR5 := hide (show Row w5 w.heap.size 179 ([.bool p0, .bool p1, .bool p2] : List Value) from by rw [← hw5, Q0.out, Q1.out, Q2.out]; exact HR1.out.set 0 (.bool false))
    have HB5 := hide (show Below w.heap.size w w5 from by rw [← hw5]; exact HB1.out.setCell (by show w.heap.size ≤ w.heap.size; omega) _)
    clear hw5 HR1 Q0 Q1 Q2

    obtain ⟨tl, htl⟩ : ∃ tl, tl = [p0, p1, p2] := ⟨_, rfl⟩
    have HTL := hide (show x.tri who = tl from by rw [htl]; exact HT.out)
    have htl3 : tl.length = 3 := by rw [htl]; rfl
    have HIX := hide (fun (q : Nat) (h : q < 3) (u : World) => show (Instr.index 179 (.agg #[.bool p0, .bool p1, .bool p2]) (.int .i64 (q : Int))).run Try.prog u = .ok (.bool (tl[q]'(by omega))) u from by
      have h1 := index3_lit p0 p1 p2 q h u
      rw [h1]
      simp only [htl])
    have c0 := HR5.out.cell 0
    have c1 := HR5.out.cell 1
    have c2 := HR5.out.cell 2
    have cl := HR5.out.lt
    have HP0 := hide (Pl.empty w5)
    have hb51 : Below w5.heap.size w5 (w5.alloc (.cells #[] 3)) := (Below.refl _ _).alloc (Nat.le_refl _) _
    have HR6 := hide (HR5.out.below hb51 HR5.out.lt)
    have d0 := HR6.out.cell 0
    have d1' := HR6.out.cell 1
    have d2 := HR6.out.cell 2
    have dl := HR6.out.lt
    obtain ⟨ia, hia, ja0, ja1, ja2⟩ := info_parts info_int
    have HIa := hide hia
    clear hia htl hb51
    go_wp2_with fail
    go_loopw [6, 88] (fun s i wr => ∃ (j : Nat) (E : Option Addr) (en ec : Nat) (ue : List Value), i = .int .i64 j ∧ j ≤ 3 ∧ s = .slice E en ec ∧ Pl w5.heap.size w5 wr (.slice E en ec) (idxs 0 (tl.take j)) ue) (fun _ i _ => 3 - (intOf i).toNat)
    case atStart => exact ⟨0, _, _, _, _, rfl, by omega, rfl, HP0.out.same (by simp [idxs])⟩
    case round =>
      obtain ⟨j, E, en, ec, ue, rfl, hj, rfl, hp⟩ := hrel
      have HPR := hide hp
      have hwr : w5.heap.size ≤ wr.heap.size := hp.sz
      have hil := idxs_len (tl.take j) 0
      have htk : (tl.take j).length ≤ 3 := by rw [List.length_take]; omega
      clear hp
      by_cases hlt : j < 3
      · have hjI : (j : Int) < 3 := by omega
        have hj0 : (0 : Int) ≤ (j : Int) := by omega
        have hjl : j < tl.length := by omega
        have hix := HIX.out j hlt
        have HSN := hide (idxs_snoc tl 0 j hjl)
        have hjw : (Lit.int .i64 (j : Int)).wf = true := WalkArith.wf_i64 (by omega)
        generalize tl[j] = q at *
        cases q
        · have HS := hide (show idxs 0 (tl.take j) = idxs 0 (tl.take (j + 1)) from by rw [HSN.out]; simp)
          go_wp2
          go_roundw
          case rel => exact ⟨j + 1, _, _, _, _, by go_num, by omega, rfl, HPR.out.same HS.out⟩
          case measure => simp [intOf]; omega
        · have HS := hide (show idxs 0 (tl.take j) ++ [(j : Int)] = idxs 0 (tl.take (j + 1)) from by rw [HSN.out]; simp)
          have HPA := hide (HPR.out.alloc (.cells #[.int .i64 (j : Int)] 3))
          go_wp2_with (first | (at_builtin; refine wpl_app rfl _ _ 22 rfl ia _ 8 Try.underlying22 HIa.out ja0 ja1 ja2 rfl (by decide) intC_len rfl HPA.out.own [(j : Int)] (int_src _ hjw _) (by exact New.nil _ _) (fun q _ hq => by cases hq) _ _ _ rfl rfl (SrcAt.new wr _ _ _ _) (by first | omega | (simp only [List.length_append, List.length_take, List.length_singleton, List.length_nil, List.length_cons]; omega)) (by decide) HPA.out.sz ?_; intro w5A w5n w5c w5 hn5 hown5 hgb5; have HP5 := hide (HPA.out.put hgb5 hown5); clear hown5 hgb5 hn5) | fail)
          go_roundw
          case rel => exact ⟨j + 1, _, _, _, _, by go_num, by omega, rfl, HP5.out.same HS.out⟩
          case measure => simp [intOf]; omega
      · obtain rfl : j = 3 := by omega
        have HS := hide (show idxs 0 (tl.take 3) = idxs 0 (x.tri who) from by rw [HTL.out, ← htl3, List.take_length])
        go_wp2
        go_ret
        exact (HPR.out.same HS.out).out HB5.out HB5.out.size
  have r1 : ((who : Int) == x.workers + 1) = false := beqf' h1
  have H1 := hide h1
  clear h1
  by_cases h2 : (who : Int) = x.workers + 2
  · have r2 : ((who : Int) == x.workers + 2) = true := beqt' h2
    have HT := hide (show x.tri who = x.kc from by unfold CrewWorld.tri; rw [if_neg H0.out, if_neg H1.out, if_pos h2])
    clear h2
    have HC0 := hide (keeperCases_any x _ _ b w1 HX1.out HO1.out HF1.out HFM.out)
    have hl3 := kc_len x
    obtain ⟨tv, htv⟩ : ∃ tv, tv = x.kc := ⟨_, rfl⟩
    rw [← htv] at HC0 hl3 HT
    obtain ⟨p0, p1, p2, rfl⟩ : ∃ p0 p1 p2, tv = [p0, p1, p2] := by
      match tv, hl3 with
      | [a, b, c], _ => exact ⟨a, b, c, rfl⟩
    have hone := bools_one p0 p1 p2
    have HC := hide (show Calls _ _ _ w1 (fun e w' => e = .returned (.agg ([.bool p0, .bool p1, .bool p2] : List Value).toArray) ∧ Below w1.heap.size w1 w') from HC0.out)
    clear htv hl3 HC0
    go_upto_region 13 with (first | (go_at_call 134; refine (HN1.out).mono ?_; rintro e wq1 ⟨rfl, hwq1⟩; rw [hwq1]; clear hwq1 wq1) | (go_at_call 135; refine (HN2.out).mono ?_; rintro e wq2 ⟨rfl, hwq2⟩; rw [hwq2]; clear hwq2 wq2) | (go_at_call 163; refine HC.out.mono ?_; rintro e w2 ⟨rfl, hb2⟩; have HR2 := hide (HR1.out.below hb2 HR1.out.lt); have hz2 := HR2.out.lt) | (refine wpList_store_row rfl 179 _ _ rfl w.heap.size ([.bool p0, .bool p1, .bool p2] : List Value).toArray rfl rfl 179 ([.bool false, .bool false, .bool false] : List Value).toArray HR2.out info_tri rfl hone ?_) | fail)
    have HB2 := hide (HB1.out.trans (hb2.mono HB1.out.size))
    generalize hw5 : World.setRow _ _ _ = w5
    have HR5 := hide (show Row w5 w.heap.size 179 ([.bool p0, .bool p1, .bool p2] : List Value) from by rw [← hw5]; exact Row.setRow' (cs := [.bool false, .bool false, .bool false]) HR2.out ([.bool p0, .bool p1, .bool p2] : List Value))
    have HB5 := hide (show Below w.heap.size w w5 from by rw [← hw5]; exact below_setRow7 HB2.out (Nat.le_refl _) _)
    clear hw5 HC HR2 hb2 HB2 hz2 HR1

    obtain ⟨tl, htl⟩ : ∃ tl, tl = [p0, p1, p2] := ⟨_, rfl⟩
    have HTL := hide (show x.tri who = tl from by rw [htl]; exact HT.out)
    have htl3 : tl.length = 3 := by rw [htl]; rfl
    have HIX := hide (fun (q : Nat) (h : q < 3) (u : World) => show (Instr.index 179 (.agg #[.bool p0, .bool p1, .bool p2]) (.int .i64 (q : Int))).run Try.prog u = .ok (.bool (tl[q]'(by omega))) u from by
      have h1 := index3_lit p0 p1 p2 q h u
      rw [h1]
      simp only [htl])
    have c0 := HR5.out.cell 0
    have c1 := HR5.out.cell 1
    have c2 := HR5.out.cell 2
    have cl := HR5.out.lt
    have HP0 := hide (Pl.empty w5)
    have hb51 : Below w5.heap.size w5 (w5.alloc (.cells #[] 3)) := (Below.refl _ _).alloc (Nat.le_refl _) _
    have HR6 := hide (HR5.out.below hb51 HR5.out.lt)
    have d0 := HR6.out.cell 0
    have d1' := HR6.out.cell 1
    have d2 := HR6.out.cell 2
    have dl := HR6.out.lt
    obtain ⟨ia, hia, ja0, ja1, ja2⟩ := info_parts info_int
    have HIa := hide hia
    clear hia htl hb51
    go_wp2_with fail
    go_loopw [6, 88] (fun s i wr => ∃ (j : Nat) (E : Option Addr) (en ec : Nat) (ue : List Value), i = .int .i64 j ∧ j ≤ 3 ∧ s = .slice E en ec ∧ Pl w5.heap.size w5 wr (.slice E en ec) (idxs 0 (tl.take j)) ue) (fun _ i _ => 3 - (intOf i).toNat)
    case atStart => exact ⟨0, _, _, _, _, rfl, by omega, rfl, HP0.out.same (by simp [idxs])⟩
    case round =>
      obtain ⟨j, E, en, ec, ue, rfl, hj, rfl, hp⟩ := hrel
      have HPR := hide hp
      have hwr : w5.heap.size ≤ wr.heap.size := hp.sz
      have hil := idxs_len (tl.take j) 0
      have htk : (tl.take j).length ≤ 3 := by rw [List.length_take]; omega
      clear hp
      by_cases hlt : j < 3
      · have hjI : (j : Int) < 3 := by omega
        have hj0 : (0 : Int) ≤ (j : Int) := by omega
        have hjl : j < tl.length := by omega
        have hix := HIX.out j hlt
        have HSN := hide (idxs_snoc tl 0 j hjl)
        have hjw : (Lit.int .i64 (j : Int)).wf = true := WalkArith.wf_i64 (by omega)
        generalize tl[j] = q at *
        cases q
        · have HS := hide (show idxs 0 (tl.take j) = idxs 0 (tl.take (j + 1)) from by rw [HSN.out]; simp)
          go_wp2
          go_roundw
          case rel => exact ⟨j + 1, _, _, _, _, by go_num, by omega, rfl, HPR.out.same HS.out⟩
          case measure => simp [intOf]; omega
        · have HS := hide (show idxs 0 (tl.take j) ++ [(j : Int)] = idxs 0 (tl.take (j + 1)) from by rw [HSN.out]; simp)
          have HPA := hide (HPR.out.alloc (.cells #[.int .i64 (j : Int)] 3))
          go_wp2_with (first | (at_builtin; refine wpl_app rfl _ _ 22 rfl ia _ 8 Try.underlying22 HIa.out ja0 ja1 ja2 rfl (by decide) intC_len rfl HPA.out.own [(j : Int)] (int_src _ hjw _) (by exact New.nil _ _) (fun q _ hq => by cases hq) _ _ _ rfl rfl (SrcAt.new wr _ _ _ _) (by first | omega | (simp only [List.length_append, List.length_take, List.length_singleton, List.length_nil, List.length_cons]; omega)) (by decide) HPA.out.sz ?_; intro w5A w5n w5c w5 hn5 hown5 hgb5; have HP5 := hide (HPA.out.put hgb5 hown5); clear hown5 hgb5 hn5) | fail)
          go_roundw
          case rel => exact ⟨j + 1, _, _, _, _, by go_num, by omega, rfl, HP5.out.same HS.out⟩
          case measure => simp [intOf]; omega
      · obtain rfl : j = 3 := by omega
        have HS := hide (show idxs 0 (tl.take 3) = idxs 0 (x.tri who) from by rw [HTL.out, ← htl3, List.take_length])
        go_wp2
        go_ret
        exact (HPR.out.same HS.out).out HB5.out HB5.out.size
  have r2 : ((who : Int) == x.workers + 2) = false := beqf' h2
  have H2 := hide h2
  clear h2
  by_cases h3 : (who : Int) = x.workers + 3
  · have r3 : ((who : Int) == x.workers + 3) = true := beqt' h3
    have HT := hide (show x.tri who = [(x.user == 0) && decide (0 < x.out.length), ((x.user == 0) && decide (x.out.length = 0)) && (x.sh 2 == 1), false] from by unfold CrewWorld.tri; rw [if_neg H0.out, if_neg H1.out, if_neg H2.out, if_pos h3])
    have x12 := HX1.out.cell 12
    have x13 := HX1.out.cell 13
    have x16 := HX1.out.cell 16
    have xl := HX1.out.lt
    clear h3
    have h7 : x.shut.length = 4 := HFM.out.shut
    obtain ⟨g7, off7, rfl, hg7, c0', -⟩ := ints_at O7.out (show 2 < x.shut.length by omega)
    have hgl := l7 g7 hg7
    have q2 : w1.cell? ⟨g7, off7 + 2, none⟩ = some (.int .i64 (x.sh 2)) := by
      have e : x.sh 2 = x.shut[2] := by unfold CrewWorld.sh; rw [List.getElem?_eq_getElem (show 2 < x.shut.length by omega)]; rfl
      rw [e]
      exact c0'
    have hl2 : (2 : Int) < (x.shut.length : Int) := by omega
    clear c0' h7
    have hc1 := HR1.out.cell 0
    have hf1 := HR1.out.frozen 0
    have hd1 := HR1.out.cell 1
    have he1 := HR1.out.frozen 1
    by_cases hu : x.user = 0
    · have ru := beqt' hu
      clear hu
      by_cases hz : x.out.length = 0
      · have z0 : decide ((0 : Int) < (x.out.length : Int)) = false := dec_false (by omega)
        have z1 : decide (0 < x.out.length) = false := dec_false (by omega)
        have z2 : ((x.out.length : Int) == 0) = true := beqt' (by omega)
        have z3 : decide (x.out.length = 0) = true := dec_true hz
        obtain ⟨p0, hp0⟩ : ∃ p0, p0 = false := ⟨_, rfl⟩
        obtain ⟨p1, hp1⟩ : ∃ p1, p1 = (x.sh 2 == 1) := ⟨_, rfl⟩
        obtain ⟨p2, hp2⟩ : ∃ p2, p2 = false := ⟨_, rfl⟩
        have Q0 := hide hp0
        have Q1 := hide hp1
        have Q2 := hide hp2
        clear hp0 hp1 hp2
        have HT := hide (show x.tri who = [p0, p1, p2] from by rw [HT.out, ru, z1, z3, Q0.out, Q1.out, Q2.out]; rfl)
        clear hz
        go_upto_region 13 with (first | (go_at_call 134; refine (HN1.out).mono ?_; rintro e wq1 ⟨rfl, hwq1⟩; rw [hwq1]; clear hwq1 wq1) | (go_at_call 135; refine (HN2.out).mono ?_; rintro e wq2 ⟨rfl, hwq2⟩; rw [hwq2]; clear hwq2 wq2) | (go_at_call 137; refine (HN3.out).mono ?_; rintro e wq3 ⟨rfl, hwq3⟩; rw [hwq3]; clear hwq3 wq3) | fail)
        generalize hw5 : (w1.setCell _ _).setCell _ _ = w5
        have HR5 := hide (show Row w5 w.heap.size 179 ([.bool p0, .bool p1, .bool p2] : List Value) from by rw [← hw5, Q0.out, Q1.out, Q2.out]; exact (HR1.out.set 0 (.bool false)).set 1 (.bool (x.sh 2 == 1)))
        have HB5 := hide (show Below w.heap.size w w5 from by rw [← hw5]; exact (HB1.out.setCell (by show w.heap.size ≤ w.heap.size; omega) _).setCell (by show w.heap.size ≤ w.heap.size; omega) _)
        clear hw5 HR1 Q0 Q1 Q2

        obtain ⟨tl, htl⟩ : ∃ tl, tl = [p0, p1, p2] := ⟨_, rfl⟩
        have HTL := hide (show x.tri who = tl from by rw [htl]; exact HT.out)
        have htl3 : tl.length = 3 := by rw [htl]; rfl
        have HIX := hide (fun (q : Nat) (h : q < 3) (u : World) => show (Instr.index 179 (.agg #[.bool p0, .bool p1, .bool p2]) (.int .i64 (q : Int))).run Try.prog u = .ok (.bool (tl[q]'(by omega))) u from by
          have h1 := index3_lit p0 p1 p2 q h u
          rw [h1]
          simp only [htl])
        have c0 := HR5.out.cell 0
        have c1 := HR5.out.cell 1
        have c2 := HR5.out.cell 2
        have cl := HR5.out.lt
        have HP0 := hide (Pl.empty w5)
        have hb51 : Below w5.heap.size w5 (w5.alloc (.cells #[] 3)) := (Below.refl _ _).alloc (Nat.le_refl _) _
        have HR6 := hide (HR5.out.below hb51 HR5.out.lt)
        have d0 := HR6.out.cell 0
        have d1' := HR6.out.cell 1
        have d2 := HR6.out.cell 2
        have dl := HR6.out.lt
        obtain ⟨ia, hia, ja0, ja1, ja2⟩ := info_parts info_int
        have HIa := hide hia
        clear hia htl hb51
        go_wp2_with fail
        go_loopw [6, 88] (fun s i wr => ∃ (j : Nat) (E : Option Addr) (en ec : Nat) (ue : List Value), i = .int .i64 j ∧ j ≤ 3 ∧ s = .slice E en ec ∧ Pl w5.heap.size w5 wr (.slice E en ec) (idxs 0 (tl.take j)) ue) (fun _ i _ => 3 - (intOf i).toNat)
        case atStart => exact ⟨0, _, _, _, _, rfl, by omega, rfl, HP0.out.same (by simp [idxs])⟩
        case round =>
          obtain ⟨j, E, en, ec, ue, rfl, hj, rfl, hp⟩ := hrel
          have HPR := hide hp
          have hwr : w5.heap.size ≤ wr.heap.size := hp.sz
          have hil := idxs_len (tl.take j) 0
          have htk : (tl.take j).length ≤ 3 := by rw [List.length_take]; omega
          clear hp
          by_cases hlt : j < 3
          · have hjI : (j : Int) < 3 := by omega
            have hj0 : (0 : Int) ≤ (j : Int) := by omega
            have hjl : j < tl.length := by omega
            have hix := HIX.out j hlt
            have HSN := hide (idxs_snoc tl 0 j hjl)
            have hjw : (Lit.int .i64 (j : Int)).wf = true := WalkArith.wf_i64 (by omega)
            generalize tl[j] = q at *
            cases q
            · have HS := hide (show idxs 0 (tl.take j) = idxs 0 (tl.take (j + 1)) from by rw [HSN.out]; simp)
              go_wp2
              go_roundw
              case rel => exact ⟨j + 1, _, _, _, _, by go_num, by omega, rfl, HPR.out.same HS.out⟩
              case measure => simp [intOf]; omega
            · have HS := hide (show idxs 0 (tl.take j) ++ [(j : Int)] = idxs 0 (tl.take (j + 1)) from by rw [HSN.out]; simp)
              have HPA := hide (HPR.out.alloc (.cells #[.int .i64 (j : Int)] 3))
              go_wp2_with (first | (at_builtin; refine wpl_app rfl _ _ 22 rfl ia _ 8 Try.underlying22 HIa.out ja0 ja1 ja2 rfl (by decide) intC_len rfl HPA.out.own [(j : Int)] (int_src _ hjw _) (by exact New.nil _ _) (fun q _ hq => by cases hq) _ _ _ rfl rfl (SrcAt.new wr _ _ _ _) (by first | omega | (simp only [List.length_append, List.length_take, List.length_singleton, List.length_nil, List.length_cons]; omega)) (by decide) HPA.out.sz ?_; intro w5A w5n w5c w5 hn5 hown5 hgb5; have HP5 := hide (HPA.out.put hgb5 hown5); clear hown5 hgb5 hn5) | fail)
              go_roundw
              case rel => exact ⟨j + 1, _, _, _, _, by go_num, by omega, rfl, HP5.out.same HS.out⟩
              case measure => simp [intOf]; omega
          · obtain rfl : j = 3 := by omega
            have HS := hide (show idxs 0 (tl.take 3) = idxs 0 (x.tri who) from by rw [HTL.out, ← htl3, List.take_length])
            go_wp2
            go_ret
            exact (HPR.out.same HS.out).out HB5.out HB5.out.size
      have z0 : decide ((0 : Int) < (x.out.length : Int)) = true := dec_true (by omega)
      have z1 : decide (0 < x.out.length) = true := dec_true (by omega)
      have z2 : ((x.out.length : Int) == 0) = false := beqf' (by omega)
      have z3 : decide (x.out.length = 0) = false := dec_false hz
      obtain ⟨p0, hp0⟩ : ∃ p0, p0 = true := ⟨_, rfl⟩
      obtain ⟨p1, hp1⟩ : ∃ p1, p1 = false := ⟨_, rfl⟩
      obtain ⟨p2, hp2⟩ : ∃ p2, p2 = false := ⟨_, rfl⟩
      have Q0 := hide hp0
      have Q1 := hide hp1
      have Q2 := hide hp2
      clear hp0 hp1 hp2
      have HT := hide (show x.tri who = [p0, p1, p2] from by rw [HT.out, ru, z1, z3, Q0.out, Q1.out, Q2.out]; rfl)
      clear hz
      go_upto_region 13 with (first | (go_at_call 134; refine (HN1.out).mono ?_; rintro e wq1 ⟨rfl, hwq1⟩; rw [hwq1]; clear hwq1 wq1) | (go_at_call 135; refine (HN2.out).mono ?_; rintro e wq2 ⟨rfl, hwq2⟩; rw [hwq2]; clear hwq2 wq2) | (go_at_call 137; refine (HN3.out).mono ?_; rintro e wq3 ⟨rfl, hwq3⟩; rw [hwq3]; clear hwq3 wq3) | fail)
      generalize hw5 : (w1.setCell _ _).setCell _ _ = w5
      have HR5 := hide (show Row w5 w.heap.size 179 ([.bool p0, .bool p1, .bool p2] : List Value) from by rw [← hw5, Q0.out, Q1.out, Q2.out]; exact (HR1.out.set 0 (.bool true)).set 1 (.bool (false)))
      have HB5 := hide (show Below w.heap.size w w5 from by rw [← hw5]; exact (HB1.out.setCell (by show w.heap.size ≤ w.heap.size; omega) _).setCell (by show w.heap.size ≤ w.heap.size; omega) _)
      clear hw5 HR1 Q0 Q1 Q2

      obtain ⟨tl, htl⟩ : ∃ tl, tl = [p0, p1, p2] := ⟨_, rfl⟩
      have HTL := hide (show x.tri who = tl from by rw [htl]; exact HT.out)
      have htl3 : tl.length = 3 := by rw [htl]; rfl
      have HIX := hide (fun (q : Nat) (h : q < 3) (u : World) => show (Instr.index 179 (.agg #[.bool p0, .bool p1, .bool p2]) (.int .i64 (q : Int))).run Try.prog u = .ok (.bool (tl[q]'(by omega))) u from by
        have h1 := index3_lit p0 p1 p2 q h u
        rw [h1]
        simp only [htl])
      have c0 := HR5.out.cell 0
      have c1 := HR5.out.cell 1
      have c2 := HR5.out.cell 2
      have cl := HR5.out.lt
      have HP0 := hide (Pl.empty w5)
      have hb51 : Below w5.heap.size w5 (w5.alloc (.cells #[] 3)) := (Below.refl _ _).alloc (Nat.le_refl _) _
      have HR6 := hide (HR5.out.below hb51 HR5.out.lt)
      have d0 := HR6.out.cell 0
      have d1' := HR6.out.cell 1
      have d2 := HR6.out.cell 2
      have dl := HR6.out.lt
      obtain ⟨ia, hia, ja0, ja1, ja2⟩ := info_parts info_int
      have HIa := hide hia
      clear hia htl hb51
      go_wp2_with fail
      go_loopw [6, 88] (fun s i wr => ∃ (j : Nat) (E : Option Addr) (en ec : Nat) (ue : List Value), i = .int .i64 j ∧ j ≤ 3 ∧ s = .slice E en ec ∧ Pl w5.heap.size w5 wr (.slice E en ec) (idxs 0 (tl.take j)) ue) (fun _ i _ => 3 - (intOf i).toNat)
      case atStart => exact ⟨0, _, _, _, _, rfl, by omega, rfl, HP0.out.same (by simp [idxs])⟩
      case round =>
        obtain ⟨j, E, en, ec, ue, rfl, hj, rfl, hp⟩ := hrel
        have HPR := hide hp
        have hwr : w5.heap.size ≤ wr.heap.size := hp.sz
        have hil := idxs_len (tl.take j) 0
        have htk : (tl.take j).length ≤ 3 := by rw [List.length_take]; omega
        clear hp
        by_cases hlt : j < 3
        · have hjI : (j : Int) < 3 := by omega
          have hj0 : (0 : Int) ≤ (j : Int) := by omega
          have hjl : j < tl.length := by omega
          have hix := HIX.out j hlt
          have HSN := hide (idxs_snoc tl 0 j hjl)
          have hjw : (Lit.int .i64 (j : Int)).wf = true := WalkArith.wf_i64 (by omega)
          generalize tl[j] = q at *
          cases q
          · have HS := hide (show idxs 0 (tl.take j) = idxs 0 (tl.take (j + 1)) from by rw [HSN.out]; simp)
            go_wp2
            go_roundw
            case rel => exact ⟨j + 1, _, _, _, _, by go_num, by omega, rfl, HPR.out.same HS.out⟩
            case measure => simp [intOf]; omega
          · have HS := hide (show idxs 0 (tl.take j) ++ [(j : Int)] = idxs 0 (tl.take (j + 1)) from by rw [HSN.out]; simp)
            have HPA := hide (HPR.out.alloc (.cells #[.int .i64 (j : Int)] 3))
            go_wp2_with (first | (at_builtin; refine wpl_app rfl _ _ 22 rfl ia _ 8 Try.underlying22 HIa.out ja0 ja1 ja2 rfl (by decide) intC_len rfl HPA.out.own [(j : Int)] (int_src _ hjw _) (by exact New.nil _ _) (fun q _ hq => by cases hq) _ _ _ rfl rfl (SrcAt.new wr _ _ _ _) (by first | omega | (simp only [List.length_append, List.length_take, List.length_singleton, List.length_nil, List.length_cons]; omega)) (by decide) HPA.out.sz ?_; intro w5A w5n w5c w5 hn5 hown5 hgb5; have HP5 := hide (HPA.out.put hgb5 hown5); clear hown5 hgb5 hn5) | fail)
            go_roundw
            case rel => exact ⟨j + 1, _, _, _, _, by go_num, by omega, rfl, HP5.out.same HS.out⟩
            case measure => simp [intOf]; omega
        · obtain rfl : j = 3 := by omega
          have HS := hide (show idxs 0 (tl.take 3) = idxs 0 (x.tri who) from by rw [HTL.out, ← htl3, List.take_length])
          go_wp2
          go_ret
          exact (HPR.out.same HS.out).out HB5.out HB5.out.size
    have ru := beqf' hu
    clear hu
    obtain ⟨p0, hp0⟩ : ∃ p0, p0 = false := ⟨_, rfl⟩
    obtain ⟨p1, hp1⟩ : ∃ p1, p1 = false := ⟨_, rfl⟩
    obtain ⟨p2, hp2⟩ : ∃ p2, p2 = false := ⟨_, rfl⟩
    have Q0 := hide hp0
    have Q1 := hide hp1
    have Q2 := hide hp2
    clear hp0 hp1 hp2
    have HT := hide (show x.tri who = [p0, p1, p2] from by rw [HT.out, ru, Q0.out, Q1.out, Q2.out]; rfl)
    go_upto_region 13 with (first | (go_at_call 134; refine (HN1.out).mono ?_; rintro e wq1 ⟨rfl, hwq1⟩; rw [hwq1]; clear hwq1 wq1) | (go_at_call 135; refine (HN2.out).mono ?_; rintro e wq2 ⟨rfl, hwq2⟩; rw [hwq2]; clear hwq2 wq2) | (go_at_call 137; refine (HN3.out).mono ?_; rintro e wq3 ⟨rfl, hwq3⟩; rw [hwq3]; clear hwq3 wq3) | fail)
    generalize hw5 : (w1.setCell _ _).setCell _ _ = w5
    have HR5 := hide (show Row w5 w.heap.size 179 ([.bool p0, .bool p1, .bool p2] : List Value) from by rw [← hw5, Q0.out, Q1.out, Q2.out]; exact (HR1.out.set 0 (.bool false)).set 1 (.bool (false)))
    have HB5 := hide (show Below w.heap.size w w5 from by rw [← hw5]; exact (HB1.out.setCell (by show w.heap.size ≤ w.heap.size; omega) _).setCell (by show w.heap.size ≤ w.heap.size; omega) _)
    clear hw5 HR1 Q0 Q1 Q2

    obtain ⟨tl, htl⟩ : ∃ tl, tl = [p0, p1, p2] := ⟨_, rfl⟩
    have HTL := hide (show x.tri who = tl from by rw [htl]; exact HT.out)
    have htl3 : tl.length = 3 := by rw [htl]; rfl
    have HIX := hide (fun (q : Nat) (h : q < 3) (u : World) => show (Instr.index 179 (.agg #[.bool p0, .bool p1, .bool p2]) (.int .i64 (q : Int))).run Try.prog u = .ok (.bool (tl[q]'(by omega))) u from by
      have h1 := index3_lit p0 p1 p2 q h u
      rw [h1]
      simp only [htl])
    have c0 := HR5.out.cell 0
    have c1 := HR5.out.cell 1
    have c2 := HR5.out.cell 2
    have cl := HR5.out.lt
    have HP0 := hide (Pl.empty w5)
    have hb51 : Below w5.heap.size w5 (w5.alloc (.cells #[] 3)) := (Below.refl _ _).alloc (Nat.le_refl _) _
    have HR6 := hide (HR5.out.below hb51 HR5.out.lt)
    have d0 := HR6.out.cell 0
    have d1' := HR6.out.cell 1
    have d2 := HR6.out.cell 2
    have dl := HR6.out.lt
    obtain ⟨ia, hia, ja0, ja1, ja2⟩ := info_parts info_int
    have HIa := hide hia
    clear hia htl hb51
    go_wp2_with fail
    go_loopw [6, 88] (fun s i wr => ∃ (j : Nat) (E : Option Addr) (en ec : Nat) (ue : List Value), i = .int .i64 j ∧ j ≤ 3 ∧ s = .slice E en ec ∧ Pl w5.heap.size w5 wr (.slice E en ec) (idxs 0 (tl.take j)) ue) (fun _ i _ => 3 - (intOf i).toNat)
    case atStart => exact ⟨0, _, _, _, _, rfl, by omega, rfl, HP0.out.same (by simp [idxs])⟩
    case round =>
      obtain ⟨j, E, en, ec, ue, rfl, hj, rfl, hp⟩ := hrel
      have HPR := hide hp
      have hwr : w5.heap.size ≤ wr.heap.size := hp.sz
      have hil := idxs_len (tl.take j) 0
      have htk : (tl.take j).length ≤ 3 := by rw [List.length_take]; omega
      clear hp
      by_cases hlt : j < 3
      · have hjI : (j : Int) < 3 := by omega
        have hj0 : (0 : Int) ≤ (j : Int) := by omega
        have hjl : j < tl.length := by omega
        have hix := HIX.out j hlt
        have HSN := hide (idxs_snoc tl 0 j hjl)
        have hjw : (Lit.int .i64 (j : Int)).wf = true := WalkArith.wf_i64 (by omega)
        generalize tl[j] = q at *
        cases q
        · have HS := hide (show idxs 0 (tl.take j) = idxs 0 (tl.take (j + 1)) from by rw [HSN.out]; simp)
          go_wp2
          go_roundw
          case rel => exact ⟨j + 1, _, _, _, _, by go_num, by omega, rfl, HPR.out.same HS.out⟩
          case measure => simp [intOf]; omega
        · have HS := hide (show idxs 0 (tl.take j) ++ [(j : Int)] = idxs 0 (tl.take (j + 1)) from by rw [HSN.out]; simp)
          have HPA := hide (HPR.out.alloc (.cells #[.int .i64 (j : Int)] 3))
          go_wp2_with (first | (at_builtin; refine wpl_app rfl _ _ 22 rfl ia _ 8 Try.underlying22 HIa.out ja0 ja1 ja2 rfl (by decide) intC_len rfl HPA.out.own [(j : Int)] (int_src _ hjw _) (by exact New.nil _ _) (fun q _ hq => by cases hq) _ _ _ rfl rfl (SrcAt.new wr _ _ _ _) (by first | omega | (simp only [List.length_append, List.length_take, List.length_singleton, List.length_nil, List.length_cons]; omega)) (by decide) HPA.out.sz ?_; intro w5A w5n w5c w5 hn5 hown5 hgb5; have HP5 := hide (HPA.out.put hgb5 hown5); clear hown5 hgb5 hn5) | fail)
          go_roundw
          case rel => exact ⟨j + 1, _, _, _, _, by go_num, by omega, rfl, HP5.out.same HS.out⟩
          case measure => simp [intOf]; omega
      · obtain rfl : j = 3 := by omega
        have HS := hide (show idxs 0 (tl.take 3) = idxs 0 (x.tri who) from by rw [HTL.out, ← htl3, List.take_length])
        go_wp2
        go_ret
        exact (HPR.out.same HS.out).out HB5.out HB5.out.size
  have r3 : ((who : Int) == x.workers + 3) = false := beqf' h3
  have H3 := hide h3
  clear h3
  have hle : (who : Int) ≤ x.workers := by have := H0.out; have := H1.out; have := H2.out; have := H3.out; omega
  obtain ⟨k, hk⟩ : ∃ k, who = k + 1 := ⟨who - 1, by have := H0.out; omega⟩
  have hkl : k < x.hands.length := by have := HHL.out; omega
  have hkI : (k : Int) < (x.hands.length : Int) := by omega
  have hk0 : (0 : Int) ≤ (k : Int) := by omega
  have hkw : IntKind.i64.wrap ((who : Int) - 1) = (k : Int) := by rw [wrapI _ (by omega) (by omega)]; omega
  have hkw2 : wrap64 ((who : Int) - 1) = (k : Int) := by unfold wrap64; omega
  have HT := hide (show x.tri who = x.hc x.hands[k] from by
    unfold CrewWorld.tri
    rw [if_neg H0.out, if_neg H1.out, if_neg H2.out, if_neg H3.out]
    have e : who - 1 = k := by omega
    rw [e, List.getElem?_eq_getElem hkl]
    rfl)
  obtain ⟨g, off, ws, fi, rfl, hg, hfi, hwl, hcs, hov⟩ := O2.out.elem CrewHand.cells_len hkl
  have hgl : g < w1.heap.size := l2 g hg
  have HHV := hide hov
  obtain ⟨rfl, -, -, -⟩ := hov.oCrewHand
  have p00 := hcs 0 _ rfl
  have p01 := hcs 1 _ rfl
  simp only [Nat.add_zero] at p00
  generalize x.hands[k] = y at *
  have x6 := HX1.out.cell 6
  have xl := HX1.out.lt
  clear hcs hov hwl hk hle
  have HC0 := hide (handCases_any x _ _ b w1 HX1.out HO1.out HF1.out y _ fi HHV.out HFM.out)
  have hl3 := hc_len x y
  obtain ⟨tv, htv⟩ : ∃ tv, tv = x.hc y := ⟨_, rfl⟩
  rw [← htv] at HC0 hl3 HT
  obtain ⟨p0, p1, p2, rfl⟩ : ∃ p0 p1 p2, tv = [p0, p1, p2] := by
    match tv, hl3 with
    | [a, b, c], _ => exact ⟨a, b, c, rfl⟩
  have hone := bools_one p0 p1 p2
  have HC := hide (show Calls _ _ _ w1 (fun e w' => e = .returned (.agg ([.bool p0, .bool p1, .bool p2] : List Value).toArray) ∧ Below w1.heap.size w1 w') from HC0.out)
  clear htv hl3 HC0
  go_upto_region 13 with (first | (go_at_call 134; refine (HN1.out).mono ?_; rintro e wq1 ⟨rfl, hwq1⟩; rw [hwq1]; clear hwq1 wq1) | (go_at_call 135; refine (HN2.out).mono ?_; rintro e wq2 ⟨rfl, hwq2⟩; rw [hwq2]; clear hwq2 wq2) | (go_at_call 137; refine (HN3.out).mono ?_; rintro e wq3 ⟨rfl, hwq3⟩; rw [hwq3]; clear hwq3 wq3) | (go_at_call 164; refine HC.out.mono ?_; rintro e w2 ⟨rfl, hb2⟩; have HR2 := hide (HR1.out.below hb2 HR1.out.lt); have hz2 := HR2.out.lt) | (refine wpList_store_row rfl 179 _ _ rfl w.heap.size ([.bool p0, .bool p1, .bool p2] : List Value).toArray rfl rfl 179 ([.bool false, .bool false, .bool false] : List Value).toArray HR2.out info_tri rfl hone ?_) | fail)
  have HB2 := hide (HB1.out.trans (hb2.mono HB1.out.size))
  generalize hw5 : World.setRow _ _ _ = w5
  have HR5 := hide (show Row w5 w.heap.size 179 ([.bool p0, .bool p1, .bool p2] : List Value) from by rw [← hw5]; exact Row.setRow' (cs := [.bool false, .bool false, .bool false]) HR2.out ([.bool p0, .bool p1, .bool p2] : List Value))
  have HB5 := hide (show Below w.heap.size w w5 from by rw [← hw5]; exact below_setRow7 HB2.out (Nat.le_refl _) _)
  clear hw5 HC HR2 hb2 HB2 hz2 HR1

  obtain ⟨tl, htl⟩ : ∃ tl, tl = [p0, p1, p2] := ⟨_, rfl⟩
  have HTL := hide (show x.tri who = tl from by rw [htl]; exact HT.out)
  have htl3 : tl.length = 3 := by rw [htl]; rfl
  have HIX := hide (fun (q : Nat) (h : q < 3) (u : World) => show (Instr.index 179 (.agg #[.bool p0, .bool p1, .bool p2]) (.int .i64 (q : Int))).run Try.prog u = .ok (.bool (tl[q]'(by omega))) u from by
    have h1 := index3_lit p0 p1 p2 q h u
    rw [h1]
    simp only [htl])
  have c0 := HR5.out.cell 0
  have c1 := HR5.out.cell 1
  have c2 := HR5.out.cell 2
  have cl := HR5.out.lt
  have HP0 := hide (Pl.empty w5)
  have hb51 : Below w5.heap.size w5 (w5.alloc (.cells #[] 3)) := (Below.refl _ _).alloc (Nat.le_refl _) _
  have HR6 := hide (HR5.out.below hb51 HR5.out.lt)
  have d0 := HR6.out.cell 0
  have d1' := HR6.out.cell 1
  have d2 := HR6.out.cell 2
  have dl := HR6.out.lt
  obtain ⟨ia, hia, ja0, ja1, ja2⟩ := info_parts info_int
  have HIa := hide hia
  clear hia htl hb51
  go_wp2_with fail
  go_loopw [6, 88] (fun s i wr => ∃ (j : Nat) (E : Option Addr) (en ec : Nat) (ue : List Value), i = .int .i64 j ∧ j ≤ 3 ∧ s = .slice E en ec ∧ Pl w5.heap.size w5 wr (.slice E en ec) (idxs 0 (tl.take j)) ue) (fun _ i _ => 3 - (intOf i).toNat)
  case atStart => exact ⟨0, _, _, _, _, rfl, by omega, rfl, HP0.out.same (by simp [idxs])⟩
  case round =>
    obtain ⟨j, E, en, ec, ue, rfl, hj, rfl, hp⟩ := hrel
    have HPR := hide hp
    have hwr : w5.heap.size ≤ wr.heap.size := hp.sz
    have hil := idxs_len (tl.take j) 0
    have htk : (tl.take j).length ≤ 3 := by rw [List.length_take]; omega
    clear hp
    by_cases hlt : j < 3
    · have hjI : (j : Int) < 3 := by omega
      have hj0 : (0 : Int) ≤ (j : Int) := by omega
      have hjl : j < tl.length := by omega
      have hix := HIX.out j hlt
      have HSN := hide (idxs_snoc tl 0 j hjl)
      have hjw : (Lit.int .i64 (j : Int)).wf = true := WalkArith.wf_i64 (by omega)
      generalize tl[j] = q at *
      cases q
      · have HS := hide (show idxs 0 (tl.take j) = idxs 0 (tl.take (j + 1)) from by rw [HSN.out]; simp)
        go_wp2
        go_roundw
        case rel => exact ⟨j + 1, _, _, _, _, by go_num, by omega, rfl, HPR.out.same HS.out⟩
        case measure => simp [intOf]; omega
      · have HS := hide (show idxs 0 (tl.take j) ++ [(j : Int)] = idxs 0 (tl.take (j + 1)) from by rw [HSN.out]; simp)
        have HPA := hide (HPR.out.alloc (.cells #[.int .i64 (j : Int)] 3))
        go_wp2_with (first | (at_builtin; refine wpl_app rfl _ _ 22 rfl ia _ 8 Try.underlying22 HIa.out ja0 ja1 ja2 rfl (by decide) intC_len rfl HPA.out.own [(j : Int)] (int_src _ hjw _) (by exact New.nil _ _) (fun q _ hq => by cases hq) _ _ _ rfl rfl (SrcAt.new wr _ _ _ _) (by first | omega | (simp only [List.length_append, List.length_take, List.length_singleton, List.length_nil, List.length_cons]; omega)) (by decide) HPA.out.sz ?_; intro w5A w5n w5c w5 hn5 hown5 hgb5; have HP5 := hide (HPA.out.put hgb5 hown5); clear hown5 hgb5 hn5) | fail)
        go_roundw
        case rel => exact ⟨j + 1, _, _, _, _, by go_num, by omega, rfl, HP5.out.same HS.out⟩
        case measure => simp [intOf]; omega
    · obtain rfl : j = 3 := by omega
      have HS := hide (show idxs 0 (tl.take 3) = idxs 0 (x.tri who) from by rw [HTL.out, ← htl3, List.take_length])
      go_wp2
      go_ret
      exact (HPR.out.same HS.out).out HB5.out HB5.out.size
end Go.Proofs.Ytpkjjfnfolbcoaa
set_option linter.unusedVariables false
set_option linter.unusedSimpArgs false
namespace Go.Proofs.Ytpkjjfnfolbcoaa
open Go.ChangeShapes Go.WideShapes Go.ChangeAt Go.RowKit

theorem GB.ow {w w' : World} {v v' : Value} {d : D} {y : Value} {fq : List Nat} (h : GB w w' v v') (ho : Ow w d y fq) (hl : Lt fq w.heap.size) (hn : ∀ g, v.ownBlock = some g → g ∉ fq) : Ow w' d y fq := by
  have hc : OwC w [d] [y] fq := ⟨fq, [], ho, rfl, by simp⟩
  obtain ⟨f1, f2, h1, h2, rfl⟩ := hc.grown' h.grown hl hn
  simp only [OwC] at h2
  subst h2
  simpa using h1
theorem GB.apart {w w' : World} {v v' : Value} {fq : List Nat} (h : GB w w' v v') (hl : Lt fq w.heap.size) (hn : ∀ g, v.ownBlock = some g → g ∉ fq) : ∀ g, v'.ownBlock = some g → g ∉ fq := fun g e hm => by
  rcases h.at' with h1 | ⟨k, h1, h2⟩
  · exact hn g (h1.symm.trans e) hm
  · rw [h1] at e
    injection e with e
    have := hl g hm
    omega
theorem map_snoc (n : Nat) (l : List Int) (j : Nat) (h : j < l.length) : (l.take (j + 1)).map (fun k => (⟨(n : Int), k⟩ : CrewMove)) = (l.take j).map (fun k => ⟨(n : Int), k⟩) ++ [⟨(n : Int), l[j]⟩] := by
  rw [List.take_succ_eq_append_getElem h, List.map_append]
  rfl
set_option maxRecDepth 100000 in
set_option maxHeartbeats 8000000 in
theorem implMovesOf_any (x : CrewWorld) (us : List Value) (fp : List Nat) (b : Nat) (w : World) (hb : Row w b 30 us) (ho : OwC w x.cells us fp) (hf : Lt fp w.heap.size) (hfm : x.Form) : Calls Try.prog 80 #[.pointer (some ⟨b, 0, none⟩)] w (MovesOut x.moves w) := by
  have HFM := hide hfm
  have hww := hfm.start.2.1
  clear hfm
  have HO := hide ho
  have HF := hide hf
  obtain ⟨A1, c1, A2, c2, A3, c3, A4, c4, A5, c5, A6, c6, A7, c7, f1, f2, f3, f4, f5, f6, f7, rfl, wjobs, wworkers, wwindow, wnext, wreader, o1, o2, wcloser, o3, wkeeper, o4, wdue, o5, wuser, o6, wroom, o7, wops, rfl⟩ := ho.oCrewWorld
  have HX := hide hb
  clear ho hb o1 o2 o3 o4 o5 o6 o7
  have x1 := HX.out.cell 1
  have xl := HX.out.lt
  go_enter Try.func80, Try.ntmps80
  have HP0 := hide (Pm.empty w)
  have hb1 : Below w.heap.size w (w.alloc (.cells #[] 97)) := (Below.refl _ _).alloc (Nat.le_refl _) _
  have HX1 := hide (HX.out.below hb1 HX.out.lt)
  have z1 := HX1.out.cell 1
  have zl := HX1.out.lt
  clear x1 xl hb1
  obtain ⟨ia, hia, ja0, ja1, ja2⟩ := info_parts info_move
  have HIa := hide hia
  clear hia
  have v4 : IntKind.i64.wrap (x.workers + 4) = x.workers + 4 := wrapI _ (by omega) (by omega)
  have u4 : wrap64 (x.workers + 4) = x.workers + 4 := by unfold wrap64; omega
  have hwn : (x.workers.toNat : Int) = x.workers := by omega
  have HWN := hide hwn
  clear hwn
  go_wp2_with fail
  go_loopw [3, 13] (fun s i wr => ∃ (n : Nat) (E : Option Addr) (en ec : Nat) (ue : List Value), i = .int .i64 n ∧ n ≤ x.workers.toNat + 4 ∧ s = .slice E en ec ∧ Pm w.heap.size w wr (.slice E en ec) (x.movesTo n) ue) (fun _ i _ => x.workers.toNat + 4 - (intOf i).toNat)
  case atStart => exact ⟨0, _, _, _, _, rfl, Nat.zero_le _, rfl, HP0.out.same (by simp [CrewWorld.movesTo])⟩
  case round =>
    obtain ⟨n, E, en, ec, ue, rfl, hn, rfl, hp⟩ := hrel
    have HPR := hide hp
    have hml := movesTo_len x n
    have HXR := hide (HX.out.below hp.fr HX.out.lt)
    clear hp z1 zl HX1
    by_cases hlt : n < x.workers.toNat + 4
    · have hle : (n : Int) ≤ x.workers + 3 := by have := HWN.out; omega
      have hlt2 : (n : Int) < x.workers + 4 := by omega
      have hnb : (Lit.int .i64 (n : Int)).wf = true := WalkArith.wf_i64 (by omega)
      have hle9 : n ≤ 12 := by have := HWN.out; omega
      have HC := hide (cases_any x _ _ b wr HXR.out (HO.out.below HPR.out.fr HF.out) (HF.out.up HPR.out.fr) HFM.out n hle)
      go_wp2_with fail
      refine HC.out.mono ?_
      rintro e w4 ⟨CA, cc, fq, rfl, hoc, hnc, hb4⟩
      have HPW := hide (HPR.out.below hb4)
      obtain ⟨cl, hcl⟩ : ∃ cl, cl = idxs 0 (x.tri n) := ⟨_, rfl⟩
      rw [← hcl] at hoc ⊢
      have hc3 : cl.length ≤ 3 := by rw [hcl]; exact Nat.le_trans (idxs_len _ _) (by rw [tri_len]; omega)
      have HCL := hide (show x.movesTo n ++ cl.map (fun k => (⟨(n : Int), k⟩ : CrewMove)) = x.movesTo (n + 1) from by rw [movesTo_succ, tri_ways HFM.out n hle, movesBy_idxs, hcl])
      have HOC := hide hoc
      have HNC := hide hnc.lt
      have HNE0 := hide (show ∀ g, (Value.slice E en ec).ownBlock = some g → g ∉ fq from fun g e hm => by
        have h1 := HPR.out.own.lt g e
        have h2 := (hnc.fr g hm).1
        omega)
      clear hcl hoc hnc hb4 HC HPR HXR
      go_wp2_with fail
      go_loopw [3, 20] (fun s i wz => ∃ (j : Nat) (E : Option Addr) (en ec : Nat) (ue : List Value), i = .int .i64 j ∧ j ≤ cl.length ∧ s = .slice E en ec ∧ Pm w.heap.size w wz (.slice E en ec) (x.movesTo n ++ (cl.take j).map (fun k => (⟨(n : Int), k⟩ : CrewMove))) ue ∧ Ow wz (.s 1 cl.length (cl.flatMap intC)) (.slice CA cl.length cc) fq ∧ Lt fq wz.heap.size ∧ (∀ g, (Value.slice E en ec).ownBlock = some g → g ∉ fq)) (fun _ i _ => cl.length - (intOf i).toNat)
      case atStart => exact ⟨0, _, _, _, _, rfl, Nat.zero_le _, rfl, HPW.out.same (by simp), HOC.out, HNC.out, HNE0.out⟩
      case round =>
        obtain ⟨j, E2, en2, ec2, ue2, rfl, hj, rfl, hp2, how, hlw, hne⟩ := hrel
        have HP2 := hide hp2
        have HOW := hide how
        have HLW := hide hlw
        have HNE := hide hne
        have hlm : ((cl.take j).map (fun k => (⟨(n : Int), k⟩ : CrewMove))).length ≤ 3 := by rw [List.length_map, List.length_take]; omega
        clear hp2 how hlw hne
        by_cases hjl : j < cl.length
        · have hjI : (j : Int) < (cl.length : Int) := by omega
          have hj0 : (0 : Int) ≤ (j : Int) := by omega
          obtain ⟨g, off, rfl, hg, hcell, hyw⟩ := ints_at HOW.out hjl
          have hgl := HLW.out g hg
          have HSN := hide (map_snoc n cl j hjl)
          generalize cl[j] = y at *
          have HS := hide (show (x.movesTo n ++ (cl.take j).map (fun k => (⟨(n : Int), k⟩ : CrewMove))) ++ [(⟨(n : Int), y⟩ : CrewMove)] = x.movesTo n ++ (cl.take (j + 1)).map (fun k => (⟨(n : Int), k⟩ : CrewMove)) from by rw [HSN.out, List.append_assoc])
          have hba : Below wr.heap.size wr (wr.alloc (.cells #[.int .i64 (n : Int), .int .i64 y] 97)) := (Below.refl _ _).alloc (Nat.le_refl _) _
          have HPA := hide (HP2.out.alloc (.cells #[.int .i64 (n : Int), .int .i64 y] 97))
          have HOA := hide (HOW.out.below hba HLW.out)
          have HLA := hide (HLW.out.up hba)
          clear hba
          go_wp2_with (first | (at_builtin; refine wpl_app rfl _ _ 57 rfl ia _ 16 Try.underlying57 HIa.out ja0 ja1 ja2 rfl (by decide) CrewMove.cells_len rfl HPA.out.own [(⟨(n : Int), y⟩ : CrewMove)] (move_src _ _ hnb hyw _) (by exact New.nil _ _) (fun q _ hq => by cases hq) _ _ _ rfl rfl (SrcAt.new wr _ _ _ _) (by first | omega | (simp only [List.length_append, List.length_take, List.length_singleton, List.length_nil, List.length_cons]; omega)) (by decide) HPA.out.sz ?_; intro w5A w5n w5c w5 hn5 hown5 hgb5; have HP5 := hide (HPA.out.put hgb5 hown5); have HGB := hide hgb5; clear hown5 hgb5 hn5) | fail)
          go_roundw
          case rel => exact ⟨j + 1, _, _, _, _, by go_num, by omega, rfl, HP5.out.same HS.out, HGB.out.ow HOA.out HLA.out HNE.out, HLA.out.mono HGB.out.grown.size, HGB.out.apart HLA.out HNE.out⟩
          case measure => simp [intOf]; omega
        · obtain rfl : j = cl.length := by omega
          have hjI : ¬ ((cl.length : Int) < (cl.length : Int)) := by omega
          have HS := hide (show x.movesTo n ++ (cl.take cl.length).map (fun k => (⟨(n : Int), k⟩ : CrewMove)) = x.movesTo (n + 1) from by rw [List.take_length]; exact HCL.out)
          go_wp2
          go_roundw
          case rel => exact ⟨n + 1, _, _, _, _, by go_num, by omega, rfl, HP2.out.same HS.out⟩
          case measure => simp [intOf]; omega
    · obtain rfl : n = x.workers.toNat + 4 := by omega
      have d1 : decide (((x.workers.toNat + 4 : Nat) : Int) < x.workers + 4) = false := dec_false (by have := HWN.out; omega)
      have d2 : decide ((x.workers.toNat : Int) + 4 < x.workers + 4) = false := dec_false (by have := HWN.out; omega)
      have d3 : ¬ ((x.workers.toNat : Int) < x.workers) := by have := HWN.out; omega
      have HZ := hide (show x.movesTo (x.workers.toNat + 4) = x.moves from rfl)
      go_wp2
      go_ret
      exact (HPR.out.same HZ.out).out (Below.refl _ _) (Nat.le_refl _)
end Go.Proofs.Ytpkjjfnfolbcoaa
