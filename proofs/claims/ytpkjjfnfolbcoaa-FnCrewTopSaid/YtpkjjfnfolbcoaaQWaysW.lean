/-
  The ways that are open: the reference.
-/
import Derived.Deep.RegionHeld
import Derived.BigQuiet
import Derived.Test.YtpkjjfnfolbcoaaQCrewW60
import Derived.Test.YtpkjjfnfolbcoaaQWays
set_option linter.unusedVariables false
set_option linter.unusedSimpArgs false
namespace Go.Proofs.Ytpkjjfnfolbcoaa
open Go.ChangeShapes Go.WideShapes Go.ChangeAt Go.RowKit

set_option maxRecDepth 100000 in
set_option maxHeartbeats 4000000 in
theorem l52Reader_any (x : CrewWorld) (us : List Value) (fp : List Nat) (w : World) (ho : OwC w x.cells us fp) (hf : Lt fp w.heap.size) (hfm : x.Form) : Calls Try.prog 141 #[.agg us.toArray] w (WaysOut x.rd w) := by
  have HFM := hide hfm
  clear hfm
  have HO := hide ho
  have HF := hide hf
  obtain ⟨A1, c1, A2, c2, A3, c3, A4, c4, A5, c5, A6, c6, A7, c7, f1, f2, f3, f4, f5, f6, f7, rfl, wjobs, wworkers, wwindow, wnext, wreader, o1, o2, wcloser, o3, wkeeper, o4, wdue, o5, wuser, o6, wroom, o7, wops, rfl⟩ := ho.oCrewWorld
  clear ho
  go_enter Try.func141, Try.ntmps141
  go_upto_region 1 with fail
  generalize hw1 : w.alloc _ = w1
  have hb0 : Below w.heap.size w w1 := by rw [← hw1]; exact (Below.refl _ _).alloc (Nat.le_refl _) _
  have HX := hide (show Row w1 w.heap.size 30 [.int .i64 x.jobs, .int .i64 x.workers, .int .i64 x.window, .int .i64 x.next, .int .i64 x.reader, .slice A1 x.queue.length c1, .slice A2 x.hands.length c2, .int .i64 x.closer, .slice A3 x.results.length c3, .int .i64 x.keeper, .slice A4 x.ring.length c4, .int .i64 x.due, .slice A5 x.out.length c5, .int .i64 x.user, .slice A6 x.got.length c6, .int .i64 x.room, .slice A7 x.shut.length c7, .int .i64 x.ops] from by rw [← hw1]; exact Row.new w _ _)
  have HB := hide hb0
  have HOW := hide (HO.out.below hb0 hf)
  have HFW := hide (hf.up hb0)
  have O7 := hide (o7.below hb0 hf.right.right.right.right.right.right)
  have l7 := hf.right.right.right.right.right.right.up hb0
  obtain ⟨-, n7, m7⟩ := o7.nlen
  unfold maxLen at m7
  clear hw1 hb0 HO o1 o2 o3 o4 o5 o6 o7
  have x0 := HX.out.cell 0
  have x1 := HX.out.cell 1
  have x3 := HX.out.cell 3
  have x4 := HX.out.cell 4
  have x5 := HX.out.cell 5
  have x15 := HX.out.cell 15
  have x16 := HX.out.cell 16
  have xl := HX.out.lt
  have h7 : x.shut.length = 4 := HFM.out.shut
  obtain ⟨g7, off7, rfl, hg7, c0', -⟩ := ints_at O7.out (show 0 < x.shut.length by omega)
  have hgl := l7 g7 hg7
  have next7 : ∀ i, i < 4 → w1.cell? ⟨g7, off7 + i, none⟩ = some (.int .i64 (x.sh i)) := fun i h4 => by
    have h : i < x.shut.length := by omega
    obtain ⟨g, off, e, -, hc, -⟩ := ints_at O7.out h
    injection e with e
    injection e with e1 e2 _
    subst e1 e2
    unfold CrewWorld.sh
    rw [List.getElem?_eq_getElem h]
    exact hc
  have q0 := next7 0 (by omega)
  have q1 := next7 1 (by omega)
  have q2 := next7 2 (by omega)
  have q3 := next7 3 (by omega)
  simp only [Nat.add_zero] at q0
  have hl0 : (0 : Int) < (x.shut.length : Int) := by omega
  have hse : ¬ (x.shut = []) := fun e => by rw [e] at hl0; simp at hl0
  have hl1 : (1 : Int) < (x.shut.length : Int) := by omega
  have hl2 : (2 : Int) < (x.shut.length : Int) := by omega
  have hl3 : (3 : Int) < (x.shut.length : Int) := by omega
  have HN7 := hide next7
  clear next7 c0' h7
  by_cases h : x.reader = 0
  · have r0 : (x.reader == 0) = true := beqt h
    have r1 : (x.reader == 1) = false := beqf (by omega)
    have r2 : (x.reader == 2) = false := beqf (by omega)
    by_cases hn : x.next = x.jobs
    · have HZ := hide (show x.rd = [false, false, true] from by unfold CrewWorld.rd; rw [if_pos h, if_pos hn])
      have rn : (x.next == x.jobs) = true := beqt hn
      clear h hn
      go_wp2
      go_ret
      rw [HZ.out]
      exact ⟨_, rfl, HB.out.size, Row.new _ _ _, HB.out.alloc HB.out.size _⟩
    · have HZ := hide (show x.rd = [decide (0 < x.room), x.sh 3 == 1, false] from by unfold CrewWorld.rd; rw [if_pos h, if_neg hn])
      have rn : (x.next == x.jobs) = false := beqf hn
      clear h hn
      go_wp2
      go_ret
      rw [HZ.out]
      exact ⟨_, rfl, HB.out.size, Row.new _ _ _, HB.out.alloc HB.out.size _⟩
  have r0 := beqf h
  by_cases h1 : x.reader = 1
  · have r1 := beqt h1
    have HZ := hide (show x.rd = [decide ((x.queue.length : Int) < x.workers), x.sh 3 == 1] from by unfold CrewWorld.rd; rw [if_neg h, if_pos h1])
    clear h h1
    go_wp2
    go_ret
    rw [HZ.out]
    exact ⟨_, rfl, HB.out.size, Row.new _ _ _, HB.out.alloc HB.out.size _⟩
  have r1 := beqf h1
  by_cases h2 : x.reader = 2
  · have r2 := beqt h2
    have HZ := hide (show x.rd = [true] from by unfold CrewWorld.rd; rw [if_neg h, if_neg h1, if_pos h2])
    clear h h1 h2
    go_wp2
    go_ret
    rw [HZ.out]
    exact ⟨_, rfl, HB.out.size, Row.new _ _ _, HB.out.alloc HB.out.size _⟩
  have r2 := beqf h2
  have HZ := hide (show x.rd = [] from by unfold CrewWorld.rd; rw [if_neg h, if_neg h1, if_neg h2])
  clear h h1 h2
  go_wp2
  go_ret
  rw [HZ.out]
  exact ⟨_, rfl, HB.out.size, Row.new _ _ _, HB.out.alloc HB.out.size _⟩
set_option maxRecDepth 100000 in
set_option maxHeartbeats 4000000 in
theorem l52Keeper_any (x : CrewWorld) (us : List Value) (fp : List Nat) (w : World) (ho : OwC w x.cells us fp) (hf : Lt fp w.heap.size) (hfm : x.Form) : Calls Try.prog 143 #[.agg us.toArray] w (WaysOut x.kw w) := by
  have HFM := hide hfm
  clear hfm
  have HO := hide ho
  have HF := hide hf
  obtain ⟨A1, c1, A2, c2, A3, c3, A4, c4, A5, c5, A6, c6, A7, c7, f1, f2, f3, f4, f5, f6, f7, rfl, wjobs, wworkers, wwindow, wnext, wreader, o1, o2, wcloser, o3, wkeeper, o4, wdue, o5, wuser, o6, wroom, o7, wops, rfl⟩ := ho.oCrewWorld
  clear ho
  go_enter Try.func143, Try.ntmps143
  go_upto_region 1 with fail
  generalize hw1 : w.alloc _ = w1
  have hb0 : Below w.heap.size w w1 := by rw [← hw1]; exact (Below.refl _ _).alloc (Nat.le_refl _) _
  have HX := hide (show Row w1 w.heap.size 30 [.int .i64 x.jobs, .int .i64 x.workers, .int .i64 x.window, .int .i64 x.next, .int .i64 x.reader, .slice A1 x.queue.length c1, .slice A2 x.hands.length c2, .int .i64 x.closer, .slice A3 x.results.length c3, .int .i64 x.keeper, .slice A4 x.ring.length c4, .int .i64 x.due, .slice A5 x.out.length c5, .int .i64 x.user, .slice A6 x.got.length c6, .int .i64 x.room, .slice A7 x.shut.length c7, .int .i64 x.ops] from by rw [← hw1]; exact Row.new w _ _)
  have HB := hide hb0
  have HOW := hide (HO.out.below hb0 hf)
  have HFW := hide (hf.up hb0)
  have O7 := hide (o7.below hb0 hf.right.right.right.right.right.right)
  have l7 := hf.right.right.right.right.right.right.up hb0
  obtain ⟨-, n7, m7⟩ := o7.nlen
  unfold maxLen at m7
  clear hw1 hb0 HO o1 o2 o3 o4 o5 o6 o7
  have x8 := HX.out.cell 8
  have x9 := HX.out.cell 9
  have x12 := HX.out.cell 12
  have x16 := HX.out.cell 16
  have xl := HX.out.lt
  have h7 : x.shut.length = 4 := HFM.out.shut
  obtain ⟨g7, off7, rfl, hg7, c0', -⟩ := ints_at O7.out (show 0 < x.shut.length by omega)
  have hgl := l7 g7 hg7
  have next7 : ∀ i, i < 4 → w1.cell? ⟨g7, off7 + i, none⟩ = some (.int .i64 (x.sh i)) := fun i h4 => by
    have h : i < x.shut.length := by omega
    obtain ⟨g, off, e, -, hc, -⟩ := ints_at O7.out h
    injection e with e
    injection e with e1 e2 _
    subst e1 e2
    unfold CrewWorld.sh
    rw [List.getElem?_eq_getElem h]
    exact hc
  have q0 := next7 0 (by omega)
  have q1 := next7 1 (by omega)
  have q2 := next7 2 (by omega)
  have q3 := next7 3 (by omega)
  simp only [Nat.add_zero] at q0
  have hl0 : (0 : Int) < (x.shut.length : Int) := by omega
  have hse : ¬ (x.shut = []) := fun e => by rw [e] at hl0; simp at hl0
  have hl1 : (1 : Int) < (x.shut.length : Int) := by omega
  have hl2 : (2 : Int) < (x.shut.length : Int) := by omega
  have hl3 : (3 : Int) < (x.shut.length : Int) := by omega
  have HN7 := hide next7
  clear next7 c0' h7
  by_cases h : x.keeper = 0
  · have r0 : (x.keeper == 0) = true := beqt h
    have r2 : (x.keeper == 2) = false := beqf (by omega)
    have r5 : (x.keeper == 5) = false := beqf (by omega)
    by_cases hz : x.results.length = 0
    · have HZ := hide (show x.kw = [false, x.sh 3 == 1, x.sh 1 == 1] from by unfold CrewWorld.kw; rw [if_pos h]; simp [hz])
      have z0 : decide ((0 : Int) < (x.results.length : Int)) = false := dec_false (by omega)
      have z1 : decide (0 < x.results.length) = false := dec_false (by omega)
      have z2 : ((x.results.length : Int) == 0) = true := beqt (by omega)
      have z3 : decide (x.results.length = 0) = true := dec_true hz
      clear hz h
      go_wp2_with fail
      refine wp_region_held_drew (S := fun W => Below w1.heap.size w1 W) (by kernel_rfl) (below_drewN (Below.refl _ _) 1) (fun hS0 => ?_)
      refine wpAnyH_take (i := 0) (v := .pointer (some ⟨w.heap.size, 8, none⟩)) rfl (by kernel_rfl) (by kernel_rfl) (by kernel_rfl) (fun _ _ _ h => h) (Or.inl ⟨by kernel_rfl, by (intro W hS; go_simp; first | done | with_reducible rfl | rfl)⟩) hS0 ?_
      (try simp only [Act.put, List.getElem_toArray, List.getElem_cons_zero, List.getElem_cons_succ, List.setIfInBounds_toArray, List.set_cons_zero, List.set_cons_succ])
      refine wpAnyH_take (i := 1) (v := .slice A3 x.results.length c3) rfl (by kernel_rfl) (by kernel_rfl) (by kernel_rfl) (fun _ _ _ h => h) (Or.inl ⟨by kernel_rfl, by (intro W hS; have y := (HX.out.below hS HX.out.lt).cell 8; have yl := (HX.out.below hS HX.out.lt).lt; go_simp; first | done | with_reducible rfl | rfl)⟩) hS0 ?_
      (try simp only [Act.put, List.getElem_toArray, List.getElem_cons_zero, List.getElem_cons_succ, List.setIfInBounds_toArray, List.set_cons_zero, List.set_cons_succ])
      refine wpAnyH_take (i := 2) (v := .int .i64 (x.results.length : Int)) rfl (by kernel_rfl) (by kernel_rfl) (by kernel_rfl) (fun _ _ _ h => h) (Or.inl ⟨by kernel_rfl, by (intro W hS; go_simp; first | done | with_reducible rfl | rfl)⟩) hS0 ?_
      (try simp only [Act.put, List.getElem_toArray, List.getElem_cons_zero, List.getElem_cons_succ, List.setIfInBounds_toArray, List.set_cons_zero, List.set_cons_succ])
      refine wpAnyH_take (i := 3) (v := .bool false) rfl (by kernel_rfl) (by kernel_rfl) (by kernel_rfl) (fun _ _ _ h => h) (Or.inl ⟨by kernel_rfl, by (intro W hS; go_simp; first | done | with_reducible rfl | rfl)⟩) hS0 ?_
      (try simp only [Act.put, List.getElem_toArray, List.getElem_cons_zero, List.getElem_cons_succ, List.setIfInBounds_toArray, List.set_cons_zero, List.set_cons_succ])
      refine wpAnyH_take (i := 4) (v := .bool (x.sh 3 == 1)) rfl (by kernel_rfl) (by kernel_rfl) (by kernel_rfl) (fun _ _ _ h => h) (Or.inl ⟨by kernel_rfl, by (intro W hS; go_simp; first | done | with_reducible rfl | rfl)⟩) hS0 ?_
      (try simp only [Act.put, List.getElem_toArray, List.getElem_cons_zero, List.getElem_cons_succ, List.setIfInBounds_toArray, List.set_cons_zero, List.set_cons_succ])
      refine wpAnyH_take (i := 5) (v := .pointer (some ⟨w.heap.size, 8, none⟩)) rfl (by kernel_rfl) (by kernel_rfl) (by kernel_rfl) (fun _ _ _ h => h) (Or.inl ⟨by kernel_rfl, by (intro W hS; go_simp; first | done | with_reducible rfl | rfl)⟩) hS0 ?_
      (try simp only [Act.put, List.getElem_toArray, List.getElem_cons_zero, List.getElem_cons_succ, List.setIfInBounds_toArray, List.set_cons_zero, List.set_cons_succ])
      refine wpAnyH_take (i := 6) (v := .slice A3 x.results.length c3) rfl (by kernel_rfl) (by kernel_rfl) (by kernel_rfl) (fun _ _ _ h => h) (Or.inl ⟨by kernel_rfl, by (intro W hS; have y := (HX.out.below hS HX.out.lt).cell 8; have yl := (HX.out.below hS HX.out.lt).lt; go_simp; first | done | with_reducible rfl | rfl)⟩) hS0 ?_
      (try simp only [Act.put, List.getElem_toArray, List.getElem_cons_zero, List.getElem_cons_succ, List.setIfInBounds_toArray, List.set_cons_zero, List.set_cons_succ])
      refine wpAnyH_take (i := 7) (v := .int .i64 (x.results.length : Int)) rfl (by kernel_rfl) (by kernel_rfl) (by kernel_rfl) (fun _ _ _ h => h) (Or.inl ⟨by kernel_rfl, by (intro W hS; go_simp; first | done | with_reducible rfl | rfl)⟩) hS0 ?_
      (try simp only [Act.put, List.getElem_toArray, List.getElem_cons_zero, List.getElem_cons_succ, List.setIfInBounds_toArray, List.set_cons_zero, List.set_cons_succ])
      refine wpAnyH_take (i := 8) (v := .bool true) rfl (by kernel_rfl) (by kernel_rfl) (by kernel_rfl) (fun _ _ _ h => h) (Or.inl ⟨by kernel_rfl, by (intro W hS; go_simp; first | done | with_reducible rfl | rfl)⟩) hS0 ?_
      (try simp only [Act.put, List.getElem_toArray, List.getElem_cons_zero, List.getElem_cons_succ, List.setIfInBounds_toArray, List.set_cons_zero, List.set_cons_succ])
      refine wpAnyH_take (i := 9) (v := .bool true) rfl (by kernel_rfl) (by kernel_rfl) (by kernel_rfl) (fun _ _ _ h => h) (Or.inl ⟨by kernel_rfl, by (intro W hS; go_simp; first | done | with_reducible rfl | rfl)⟩) hS0 ?_
      (try simp only [Act.put, List.getElem_toArray, List.getElem_cons_zero, List.getElem_cons_succ, List.setIfInBounds_toArray, List.set_cons_zero, List.set_cons_succ])
      refine wpAnyH_take (i := 10) (v := .pointer (some ⟨w.heap.size, 16, none⟩)) rfl (by kernel_rfl) (by kernel_rfl) (by kernel_rfl) (fun _ _ _ h => h) (Or.inl ⟨by kernel_rfl, by (intro W hS; go_simp; first | done | with_reducible rfl | rfl)⟩) hS0 ?_
      (try simp only [Act.put, List.getElem_toArray, List.getElem_cons_zero, List.getElem_cons_succ, List.setIfInBounds_toArray, List.set_cons_zero, List.set_cons_succ])
      refine wpAnyH_take (i := 11) (v := .slice (some ⟨g7, off7, none⟩) x.shut.length c7) rfl (by kernel_rfl) (by kernel_rfl) (by kernel_rfl) (fun _ _ _ h => h) (Or.inl ⟨by kernel_rfl, by (intro W hS; have y := (HX.out.below hS HX.out.lt).cell 16; have yl := (HX.out.below hS HX.out.lt).lt; go_simp; first | done | with_reducible rfl | rfl)⟩) hS0 ?_
      (try simp only [Act.put, List.getElem_toArray, List.getElem_cons_zero, List.getElem_cons_succ, List.setIfInBounds_toArray, List.set_cons_zero, List.set_cons_succ])
      refine wpAnyH_take (i := 12) (v := .pointer (some ⟨g7, off7 + 1, none⟩)) rfl (by kernel_rfl) (by kernel_rfl) (by kernel_rfl) (fun _ _ _ h => h) (Or.inl ⟨by kernel_rfl, by (intro W hS; go_simp; first | done | with_reducible rfl | rfl)⟩) hS0 ?_
      (try simp only [Act.put, List.getElem_toArray, List.getElem_cons_zero, List.getElem_cons_succ, List.setIfInBounds_toArray, List.set_cons_zero, List.set_cons_succ])
      refine wpAnyH_take (i := 13) (v := .int .i64 (x.sh 1)) rfl (by kernel_rfl) (by kernel_rfl) (by kernel_rfl) (fun _ _ _ h => h) (Or.inl ⟨by kernel_rfl, by (intro W hS; have y := (hS.cell (p := ⟨g7, off7 + 1, none⟩) hgl).trans q1; have yl := Nat.lt_of_lt_of_le hgl hS.size; go_simp; first | done | with_reducible rfl | rfl)⟩) hS0 ?_
      (try simp only [Act.put, List.getElem_toArray, List.getElem_cons_zero, List.getElem_cons_succ, List.setIfInBounds_toArray, List.set_cons_zero, List.set_cons_succ])
      refine wpAnyH_take (i := 14) (v := .bool (x.sh 1 == 1)) rfl (by kernel_rfl) (by kernel_rfl) (by kernel_rfl) (fun _ _ _ h => h) (Or.inl ⟨by kernel_rfl, by (intro W hS; go_simp; first | done | with_reducible rfl | rfl)⟩) hS0 ?_
      (try simp only [Act.put, List.getElem_toArray, List.getElem_cons_zero, List.getElem_cons_succ, List.setIfInBounds_toArray, List.set_cons_zero, List.set_cons_succ])
      refine wpAnyH_take (i := 15) (v := .bool (x.sh 1 == 1)) rfl (by kernel_rfl) (by kernel_rfl) (by kernel_rfl) (fun _ _ _ h => h) (Or.inl ⟨by kernel_rfl, by (intro W hS; go_simp; first | done | with_reducible rfl | rfl)⟩) hS0 ?_
      (try simp only [Act.put, List.getElem_toArray, List.getElem_cons_zero, List.getElem_cons_succ, List.setIfInBounds_toArray, List.set_cons_zero, List.set_cons_succ])
      refine wpAnyH_ready (rs := [16]) (by kernel_rfl) (by simp) ?_
      refine AllReadyH.cons rfl (fun K hK => ?_) AllReadyH.nil
      go_simp
      refine hK.out _ _ (hS0.alloc hS0.size _) (fun hS1 => ?_)
      clear hK K
      refine wpAnyH_take (i := 17) (v := .slice (some ⟨w1.heap.size, 0, none⟩) 3 3) rfl (by kernel_rfl) (by kernel_rfl) (by kernel_rfl) (fun _ _ _ h => h) (Or.inl ⟨by kernel_rfl, by (intro W hS; go_simp; first | done | with_reducible rfl | rfl)⟩) hS1 ?_
      (try simp only [Act.put, List.getElem_toArray, List.getElem_cons_zero, List.getElem_cons_succ, List.setIfInBounds_toArray, List.set_cons_zero, List.set_cons_succ])
      refine wpAnyH_done (by kernel_rfl) ?_ _
      go_wp2
      go_ret
      rw [HZ.out]
      exact ⟨_, rfl, HB.out.size, Row.new _ _ _, HB.out.trans (hS1.mono HB.out.size)⟩
    have HZ := hide (show x.kw = [true, x.sh 3 == 1, false] from by unfold CrewWorld.kw; rw [if_pos h]; simp [hz, Nat.pos_of_ne_zero hz])
    have z0 : decide ((0 : Int) < (x.results.length : Int)) = true := dec_true (by omega)
    have z1 : decide (0 < x.results.length) = true := dec_true (by omega)
    have z2 : ((x.results.length : Int) == 0) = false := beqf (by omega)
    have z3 : decide (x.results.length = 0) = false := dec_false hz
    clear hz h
    go_wp2_with fail
    refine wp_region_held_drew (S := fun W => Below w1.heap.size w1 W) (by kernel_rfl) (below_drewN (Below.refl _ _) 1) (fun hS0 => ?_)
    refine wpAnyH_take (i := 0) (v := .pointer (some ⟨w.heap.size, 8, none⟩)) rfl (by kernel_rfl) (by kernel_rfl) (by kernel_rfl) (fun _ _ _ h => h) (Or.inl ⟨by kernel_rfl, by (intro W hS; go_simp; first | done | with_reducible rfl | rfl)⟩) hS0 ?_
    (try simp only [Act.put, List.getElem_toArray, List.getElem_cons_zero, List.getElem_cons_succ, List.setIfInBounds_toArray, List.set_cons_zero, List.set_cons_succ])
    refine wpAnyH_take (i := 1) (v := .slice A3 x.results.length c3) rfl (by kernel_rfl) (by kernel_rfl) (by kernel_rfl) (fun _ _ _ h => h) (Or.inl ⟨by kernel_rfl, by (intro W hS; have y := (HX.out.below hS HX.out.lt).cell 8; have yl := (HX.out.below hS HX.out.lt).lt; go_simp; first | done | with_reducible rfl | rfl)⟩) hS0 ?_
    (try simp only [Act.put, List.getElem_toArray, List.getElem_cons_zero, List.getElem_cons_succ, List.setIfInBounds_toArray, List.set_cons_zero, List.set_cons_succ])
    refine wpAnyH_take (i := 2) (v := .int .i64 (x.results.length : Int)) rfl (by kernel_rfl) (by kernel_rfl) (by kernel_rfl) (fun _ _ _ h => h) (Or.inl ⟨by kernel_rfl, by (intro W hS; go_simp; first | done | with_reducible rfl | rfl)⟩) hS0 ?_
    (try simp only [Act.put, List.getElem_toArray, List.getElem_cons_zero, List.getElem_cons_succ, List.setIfInBounds_toArray, List.set_cons_zero, List.set_cons_succ])
    refine wpAnyH_take (i := 3) (v := .bool true) rfl (by kernel_rfl) (by kernel_rfl) (by kernel_rfl) (fun _ _ _ h => h) (Or.inl ⟨by kernel_rfl, by (intro W hS; go_simp; first | done | with_reducible rfl | rfl)⟩) hS0 ?_
    (try simp only [Act.put, List.getElem_toArray, List.getElem_cons_zero, List.getElem_cons_succ, List.setIfInBounds_toArray, List.set_cons_zero, List.set_cons_succ])
    refine wpAnyH_take (i := 4) (v := .bool (x.sh 3 == 1)) rfl (by kernel_rfl) (by kernel_rfl) (by kernel_rfl) (fun _ _ _ h => h) (Or.inl ⟨by kernel_rfl, by (intro W hS; go_simp; first | done | with_reducible rfl | rfl)⟩) hS0 ?_
    (try simp only [Act.put, List.getElem_toArray, List.getElem_cons_zero, List.getElem_cons_succ, List.setIfInBounds_toArray, List.set_cons_zero, List.set_cons_succ])
    refine wpAnyH_take (i := 5) (v := .pointer (some ⟨w.heap.size, 8, none⟩)) rfl (by kernel_rfl) (by kernel_rfl) (by kernel_rfl) (fun _ _ _ h => h) (Or.inl ⟨by kernel_rfl, by (intro W hS; go_simp; first | done | with_reducible rfl | rfl)⟩) hS0 ?_
    (try simp only [Act.put, List.getElem_toArray, List.getElem_cons_zero, List.getElem_cons_succ, List.setIfInBounds_toArray, List.set_cons_zero, List.set_cons_succ])
    refine wpAnyH_take (i := 6) (v := .slice A3 x.results.length c3) rfl (by kernel_rfl) (by kernel_rfl) (by kernel_rfl) (fun _ _ _ h => h) (Or.inl ⟨by kernel_rfl, by (intro W hS; have y := (HX.out.below hS HX.out.lt).cell 8; have yl := (HX.out.below hS HX.out.lt).lt; go_simp; first | done | with_reducible rfl | rfl)⟩) hS0 ?_
    (try simp only [Act.put, List.getElem_toArray, List.getElem_cons_zero, List.getElem_cons_succ, List.setIfInBounds_toArray, List.set_cons_zero, List.set_cons_succ])
    refine wpAnyH_take (i := 7) (v := .int .i64 (x.results.length : Int)) rfl (by kernel_rfl) (by kernel_rfl) (by kernel_rfl) (fun _ _ _ h => h) (Or.inl ⟨by kernel_rfl, by (intro W hS; go_simp; first | done | with_reducible rfl | rfl)⟩) hS0 ?_
    (try simp only [Act.put, List.getElem_toArray, List.getElem_cons_zero, List.getElem_cons_succ, List.setIfInBounds_toArray, List.set_cons_zero, List.set_cons_succ])
    refine wpAnyH_take (i := 8) (v := .bool false) rfl (by kernel_rfl) (by kernel_rfl) (by kernel_rfl) (fun _ _ _ h => h) (Or.inl ⟨by kernel_rfl, by (intro W hS; go_simp; first | done | with_reducible rfl | rfl)⟩) hS0 ?_
    (try simp only [Act.put, List.getElem_toArray, List.getElem_cons_zero, List.getElem_cons_succ, List.setIfInBounds_toArray, List.set_cons_zero, List.set_cons_succ])
    refine wpAnyH_take (i := 9) (v := .bool false) rfl (by kernel_rfl) (by kernel_rfl) (by kernel_rfl) (fun _ _ _ h => h) (Or.inl ⟨by kernel_rfl, by (intro W hS; go_simp; first | done | with_reducible rfl | rfl)⟩) hS0 ?_
    (try simp only [Act.put, List.getElem_toArray, List.getElem_cons_zero, List.getElem_cons_succ, List.setIfInBounds_toArray, List.set_cons_zero, List.set_cons_succ])
    refine wpAnyH_take (i := 10) (v := undef) rfl (by kernel_rfl) (by kernel_rfl) (by kernel_rfl) (fun _ _ _ h => h) (Or.inr ⟨by kernel_rfl, rfl⟩) hS0 ?_
    (try simp only [Act.put, List.getElem_toArray, List.getElem_cons_zero, List.getElem_cons_succ, List.setIfInBounds_toArray, List.set_cons_zero, List.set_cons_succ])
    refine wpAnyH_take (i := 11) (v := undef) rfl (by kernel_rfl) (by kernel_rfl) (by kernel_rfl) (fun _ _ _ h => h) (Or.inr ⟨by kernel_rfl, rfl⟩) hS0 ?_
    (try simp only [Act.put, List.getElem_toArray, List.getElem_cons_zero, List.getElem_cons_succ, List.setIfInBounds_toArray, List.set_cons_zero, List.set_cons_succ])
    refine wpAnyH_take (i := 12) (v := undef) rfl (by kernel_rfl) (by kernel_rfl) (by kernel_rfl) (fun _ _ _ h => h) (Or.inr ⟨by kernel_rfl, rfl⟩) hS0 ?_
    (try simp only [Act.put, List.getElem_toArray, List.getElem_cons_zero, List.getElem_cons_succ, List.setIfInBounds_toArray, List.set_cons_zero, List.set_cons_succ])
    refine wpAnyH_take (i := 13) (v := undef) rfl (by kernel_rfl) (by kernel_rfl) (by kernel_rfl) (fun _ _ _ h => h) (Or.inr ⟨by kernel_rfl, rfl⟩) hS0 ?_
    (try simp only [Act.put, List.getElem_toArray, List.getElem_cons_zero, List.getElem_cons_succ, List.setIfInBounds_toArray, List.set_cons_zero, List.set_cons_succ])
    refine wpAnyH_take (i := 14) (v := undef) rfl (by kernel_rfl) (by kernel_rfl) (by kernel_rfl) (fun _ _ _ h => h) (Or.inr ⟨by kernel_rfl, rfl⟩) hS0 ?_
    (try simp only [Act.put, List.getElem_toArray, List.getElem_cons_zero, List.getElem_cons_succ, List.setIfInBounds_toArray, List.set_cons_zero, List.set_cons_succ])
    refine wpAnyH_take (i := 15) (v := .bool false) rfl (by kernel_rfl) (by kernel_rfl) (by kernel_rfl) (fun _ _ _ h => h) (Or.inl ⟨by kernel_rfl, by (intro W hS; go_simp; first | done | with_reducible rfl | rfl)⟩) hS0 ?_
    (try simp only [Act.put, List.getElem_toArray, List.getElem_cons_zero, List.getElem_cons_succ, List.setIfInBounds_toArray, List.set_cons_zero, List.set_cons_succ])
    refine wpAnyH_ready (rs := [16]) (by kernel_rfl) (by simp) ?_
    refine AllReadyH.cons rfl (fun K hK => ?_) AllReadyH.nil
    go_simp
    refine hK.out _ _ (hS0.alloc hS0.size _) (fun hS1 => ?_)
    clear hK K
    refine wpAnyH_take (i := 17) (v := .slice (some ⟨w1.heap.size, 0, none⟩) 3 3) rfl (by kernel_rfl) (by kernel_rfl) (by kernel_rfl) (fun _ _ _ h => h) (Or.inl ⟨by kernel_rfl, by (intro W hS; go_simp; first | done | with_reducible rfl | rfl)⟩) hS1 ?_
    (try simp only [Act.put, List.getElem_toArray, List.getElem_cons_zero, List.getElem_cons_succ, List.setIfInBounds_toArray, List.set_cons_zero, List.set_cons_succ])
    refine wpAnyH_done (by kernel_rfl) ?_ _
    go_wp2
    go_ret
    rw [HZ.out]
    exact ⟨_, rfl, HB.out.size, Row.new _ _ _, HB.out.trans (hS1.mono HB.out.size)⟩
  have r0 := beqf h
  by_cases h1 : x.keeper = 2
  · have r1 := beqt h1
    have HZ := hide (show x.kw = [(x.out.length : Int) == 0, x.sh 3 == 1] from by unfold CrewWorld.kw; rw [if_neg h, if_pos h1]; congr 1; by_cases hz : x.out.length = 0 <;> simp [hz])
    clear h h1
    go_wp2
    go_ret
    rw [HZ.out]
    exact ⟨_, rfl, HB.out.size, Row.new _ _ _, HB.out.alloc HB.out.size _⟩
  have r1 := beqf h1
  by_cases h2 : x.keeper = 5
  · have r2 := beqt h2
    have HZ := hide (show x.kw = [] from by unfold CrewWorld.kw; rw [if_neg h, if_neg h1, if_pos h2])
    clear h h1 h2
    go_wp2
    go_ret
    rw [HZ.out]
    exact ⟨_, rfl, HB.out.size, Row.new _ _ _, HB.out.alloc HB.out.size _⟩
  have r2 := beqf h2
  have HZ := hide (show x.kw = [true] from by unfold CrewWorld.kw; rw [if_neg h, if_neg h1, if_neg h2])
  clear h h1 h2
  go_wp2
  go_ret
  rw [HZ.out]
  exact ⟨_, rfl, HB.out.size, Row.new _ _ _, HB.out.alloc HB.out.size _⟩
end Go.Proofs.Ytpkjjfnfolbcoaa
