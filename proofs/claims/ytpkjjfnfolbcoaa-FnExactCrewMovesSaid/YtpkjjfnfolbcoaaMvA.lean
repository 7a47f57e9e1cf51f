/-
  The ways that are open to each of a crew: plain. The ways that are open: the reference. The ways that are open to a worker, to each: the reference. CrewMove as data: its cells, its size. The moves of a world: plain, and a slice of moves of the call's own. The moves of a world: the reference. The cases of each of a crew, three each: plain. The cases of each of a crew: the program's readerCases, handCases, keeperCases. The cases of each of a crew: the program's keeperCases, handCases. The cases of somebody that are ready: the program. The moves of a world: the program. CrewMove: what the laws' own helpers do: the size, a copy, equality. CrewMove: what the laws' marks write, and that they are found again. FnExactCrewMoves returns true for every input: the program answers as the reference. No condition.
-/
import Derived.Test.YtpkjjfnfolbcoaaStartLaw
import Derived.Test.YtpkjjfnfolbcoaaCrewW60
import Derived.Deep.RegionHeld
import Derived.BigQuiet
import Derived.Deep.Cut
import Derived.Test.YtpkjjfnfolbcoaaStr
import Derived.Test.YtpkjjfnfolbcoaaApp
import Derived.Test.YtpkjjfnfolbcoaaTwo
import Derived.Test.YtpkjjfnfolbcoaaCrewW8
import Derived.Test.YtpkjjfnfolbcoaaCrewI8
import Derived.Test.YtpkjjfnfolbcoaaToCW
import Derived.Laws.Tables
import Derived.Test.YtpkjjfnfolbcoaaConc
import Derived.Test.YtpkjjfnfolbcoaaCrewI7
import Derived.Test.YtpkjjfnfolbcoaaMark
import Derived.Test.YtpkjjfnfolbcoaaNCrewWorld
import Derived.Laws.CopyOwn
set_option linter.unusedVariables false
set_option linter.unusedSimpArgs false
namespace Go.Proofs.Ytpkjjfnfolbcoaa
open Go.ChangeShapes Go.WideShapes Go.ChangeAt Go.RowKit

def CrewWorld.rd (x : CrewWorld) : List Bool :=
  if x.reader = 0 then (if x.next = x.jobs then [false, false, true] else [decide (0 < x.room), x.sh 3 == 1, false])
  else if x.reader = 1 then [decide ((x.queue.length : Int) < x.workers), x.sh 3 == 1] else if x.reader = 2 then [true] else []
def CrewWorld.hw (x : CrewWorld) (h : CrewHand) : List Bool :=
  if h.state = 0 then [decide (0 < x.queue.length), x.sh 3 == 1, decide (x.queue.length = 0) && (x.sh 0 == 1)]
  else if h.state = 1 then [true] else if h.state = 2 then [decide ((x.results.length : Int) < x.workers), x.sh 3 == 1] else []
def CrewWorld.kw (x : CrewWorld) : List Bool :=
  if x.keeper = 0 then [decide (0 < x.results.length), x.sh 3 == 1, decide (x.results.length = 0) && (x.sh 1 == 1)]
  else if x.keeper = 2 then [decide (x.out.length = 0), x.sh 3 == 1] else if x.keeper = 5 then [] else [true]
noncomputable def CrewWorld.ways (x : CrewWorld) (who : Nat) : List Bool :=
  if who = 0 then x.rd else if (who : Int) ≤ x.workers then x.hw (x.hands[who - 1]?.getD ⟨3, 0⟩)
  else if (who : Int) = x.workers + 1 then [(x.closer == 0) && tb x.allDone] else if (who : Int) = x.workers + 2 then x.kw
  else if x.user = 1 then [] else [decide (0 < x.out.length), decide (x.out.length = 0) && (x.sh 2 == 1)]
def WaysOut (l : List Bool) (w : World) (e : Ending) (w' : World) : Prop :=
  ∃ g, e = .returned (.slice (some ⟨g, 0, none⟩) l.length l.length) ∧ w.heap.size ≤ g ∧ Row w' g 4 (l.map Value.bool) ∧ Below w.heap.size w w'
theorem ways_len (x : CrewWorld) (who : Nat) : (x.ways who).length ≤ 3 := by
  unfold CrewWorld.ways CrewWorld.rd CrewWorld.hw CrewWorld.kw
  repeat' split
  all_goals simp
end Go.Proofs.Ytpkjjfnfolbcoaa
set_option linter.unusedVariables false
set_option linter.unusedSimpArgs false
namespace Go.Proofs.Ytpkjjfnfolbcoaa
open Go.ChangeShapes Go.WideShapes Go.ChangeAt Go.RowKit

set_option maxRecDepth 100000 in
set_option maxHeartbeats 4000000 in
theorem l52Reader_any (x : CrewWorld) (us : List Value) (fp : List Nat) (w : World) (ho : OwC w x.cells us fp) (hf : Lt fp w.heap.size) (hfm : x.Form) : Calls Try.prog 141 #[.agg us.toArray] w (WaysOut x.rd w) := by
  have HFM := hide hfm
  clear hfm
  have HO := hide ho
  have HF := hide hf
  obtain ⟨A1, c1, A2, c2, A3, c3, A4, c4, A5, c5, A6, c6, A7, c7, f1, f2, f3, f4, f5, f6, f7, rfl, wjobs, wworkers, wwindow, wnext, wreader, o1, o2, wcloser, o3, wkeeper, o4, wdue, o5, wuser, o6, wroom, o7, wops, rfl⟩ := ho.oCrewWorld
  clear ho
  go_enter Try.func141, Try.ntmps141
  go_upto_region 1 with fail
  generalize hw1 : w.alloc _ = w1
  have hb0 : Below w.heap.size w w1 := by rw [← hw1]; exact (Below.refl _ _).alloc (Nat.le_refl _) _
  have HX := hide (show Row w1 w.heap.size 30 [.int .i64 x.jobs, .int .i64 x.workers, .int .i64 x.window, .int .i64 x.next, .int .i64 x.reader, .slice A1 x.queue.length c1, .slice A2 x.hands.length c2, .int .i64 x.closer, .slice A3 x.results.length c3, .int .i64 x.keeper, .slice A4 x.ring.length c4, .int .i64 x.due, .slice A5 x.out.length c5, .int .i64 x.user, .slice A6 x.got.length c6, .int .i64 x.room, .slice A7 x.shut.length c7, .int .i64 x.ops] from by rw [← hw1]; exact Row.new w _ _)
  have HB := hide hb0
  have HOW := hide (HO.out.below hb0 hf)
  have HFW := hide (hf.up hb0)
  have O7 := hide (o7.below hb0 hf.right.right.right.right.right.right)
  have l7 := hf.right.right.right.right.right.right.up hb0
  obtain ⟨-, n7, m7⟩ := o7.nlen
  unfold maxLen at m7
  clear hw1 hb0 HO o1 o2 o3 o4 o5 o6 o7
  have x0 := HX.out.cell 0
  have x1 := HX.out.cell 1
  have x3 := HX.out.cell 3
  have x4 := HX.out.cell 4
  have x5 := HX.out.cell 5
  have x15 := HX.out.cell 15
  have x16 := HX.out.cell 16
  have xl := HX.out.lt
  have h7 : x.shut.length = 4 := HFM.out.shut
  obtain ⟨g7, off7, rfl, hg7, c0', -⟩ := ints_at O7.out (show 0 < x.shut.length by omega)
  have hgl := l7 g7 hg7
  have next7 : ∀ i, i < 4 → w1.cell? ⟨g7, off7 + i, none⟩ = some (.int .i64 (x.sh i)) := fun i h4 => by
    have h : i < x.shut.length := by omega
    obtain ⟨g, off, e, -, hc, -⟩ := ints_at O7.out h
    injection e with e
    injection e with e1 e2 _
    subst e1 e2
    unfold CrewWorld.sh
    rw [List.getElem?_eq_getElem h]
    exact hc
  have q0 := next7 0 (by omega)
  have q1 := next7 1 (by omega)
  have q2 := next7 2 (by omega)
  have q3 := next7 3 (by omega)
  simp only [Nat.add_zero] at q0
  have hl0 : (0 : Int) < (x.shut.length : Int) := by omega
  have hse : ¬ (x.shut = []) := fun e => by rw [e] at hl0; simp at hl0
  have hl1 : (1 : Int) < (x.shut.length : Int) := by omega
  have hl2 : (2 : Int) < (x.shut.length : Int) := by omega
  have hl3 : (3 : Int) < (x.shut.length : Int) := by omega
  have HN7 := hide next7
  clear next7 c0' h7
  by_cases h : x.reader = 0
  · have r0 : (x.reader == 0) = true := beqt h
    have r1 : (x.reader == 1) = false := beqf (by omega)
    have r2 : (x.reader == 2) = false := beqf (by omega)
    by_cases hn : x.next = x.jobs
    · have HZ := hide (show x.rd = [false, false, true] from by unfold CrewWorld.rd; rw [if_pos h, if_pos hn])
      have rn : (x.next == x.jobs) = true := beqt hn
      clear h hn
      go_wp2
      go_ret
      rw [HZ.out]
      exact ⟨_, rfl, HB.out.size, Row.new _ _ _, HB.out.alloc HB.out.size _⟩
    · have HZ := hide (show x.rd = [decide (0 < x.room), x.sh 3 == 1, false] from by unfold CrewWorld.rd; rw [if_pos h, if_neg hn])
      have rn : (x.next == x.jobs) = false := beqf hn
      clear h hn
      go_wp2
      go_ret
      rw [HZ.out]
      exact ⟨_, rfl, HB.out.size, Row.new _ _ _, HB.out.alloc HB.out.size _⟩
  have r0 := beqf h
  by_cases h1 : x.reader = 1
  · have r1 := beqt h1
    have HZ := hide (show x.rd = [decide ((x.queue.length : Int) < x.workers), x.sh 3 == 1] from by unfold CrewWorld.rd; rw [if_neg h, if_pos h1])
    clear h h1
    go_wp2
    go_ret
    rw [HZ.out]
    exact ⟨_, rfl, HB.out.size, Row.new _ _ _, HB.out.alloc HB.out.size _⟩
  have r1 := beqf h1
  by_cases h2 : x.reader = 2
  · have r2 := beqt h2
    have HZ := hide (show x.rd = [true] from by unfold CrewWorld.rd; rw [if_neg h, if_neg h1, if_pos h2])
    clear h h1 h2
    go_wp2
    go_ret
    rw [HZ.out]
    exact ⟨_, rfl, HB.out.size, Row.new _ _ _, HB.out.alloc HB.out.size _⟩
  have r2 := beqf h2
  have HZ := hide (show x.rd = [] from by unfold CrewWorld.rd; rw [if_neg h, if_neg h1, if_neg h2])
  clear h h1 h2
  go_wp2
  go_ret
  rw [HZ.out]
  exact ⟨_, rfl, HB.out.size, Row.new _ _ _, HB.out.alloc HB.out.size _⟩
set_option maxRecDepth 100000 in
set_option maxHeartbeats 4000000 in
theorem l52Keeper_any (x : CrewWorld) (us : List Value) (fp : List Nat) (w : World) (ho : OwC w x.cells us fp) (hf : Lt fp w.heap.size) (hfm : x.Form) : Calls Try.prog 143 #[.agg us.toArray] w (WaysOut x.kw w) := by
  have HFM := hide hfm
  clear hfm
  have HO := hide ho
  have HF := hide hf
  obtain ⟨A1, c1, A2, c2, A3, c3, A4, c4, A5, c5, A6, c6, A7, c7, f1, f2, f3, f4, f5, f6, f7, rfl, wjobs, wworkers, wwindow, wnext, wreader, o1, o2, wcloser, o3, wkeeper, o4, wdue, o5, wuser, o6, wroom, o7, wops, rfl⟩ := ho.oCrewWorld
  clear ho
  go_enter Try.func143, Try.ntmps143
  go_upto_region 1 with fail
  generalize hw1 : w.alloc _ = w1
  have hb0 : Below w.heap.size w w1 := by rw [← hw1]; exact (Below.refl _ _).alloc (Nat.le_refl _) _
  have HX := hide (show Row w1 w.heap.size 30 [.int .i64 x.jobs, .int .i64 x.workers, .int .i64 x.window, .int .i64 x.next, .int .i64 x.reader, .slice A1 x.queue.length c1, .slice A2 x.hands.length c2, .int .i64 x.closer, .slice A3 x.results.length c3, .int .i64 x.keeper, .slice A4 x.ring.length c4, .int .i64 x.due, .slice A5 x.out.length c5, .int .i64 x.user, .slice A6 x.got.length c6, .int .i64 x.room, .slice A7 x.shut.length c7, .int .i64 x.ops] from by rw [← hw1]; exact Row.new w _ _)
  have HB := hide hb0
  have HOW := hide (HO.out.below hb0 hf)
  have HFW := hide (hf.up hb0)
  have O7 := hide (o7.below hb0 hf.right.right.right.right.right.right)
  have l7 := hf.right.right.right.right.right.right.up hb0
  obtain ⟨-, n7, m7⟩ := o7.nlen
  unfold maxLen at m7
  clear hw1 hb0 HO o1 o2 o3 o4 o5 o6 o7
  have x8 := HX.out.cell 8
  have x9 := HX.out.cell 9
  have x12 := HX.out.cell 12
  have x16 := HX.out.cell 16
  have xl := HX.out.lt
  have h7 : x.shut.length = 4 := HFM.out.shut
  obtain ⟨g7, off7, rfl, hg7, c0', -⟩ := ints_at O7.out (show 0 < x.shut.length by omega)
  have hgl := l7 g7 hg7
  have next7 : ∀ i, i < 4 → w1.cell? ⟨g7, off7 + i, none⟩ = some (.int .i64 (x.sh i)) := fun i h4 => by
    have h : i < x.shut.length := by omega
    obtain ⟨g, off, e, -, hc, -⟩ := ints_at O7.out h
    injection e with e
    injection e with e1 e2 _
    subst e1 e2
    unfold CrewWorld.sh
    rw [List.getElem?_eq_getElem h]
    exact hc
  have q0 := next7 0 (by omega)
  have q1 := next7 1 (by omega)
  have q2 := next7 2 (by omega)
  have q3 := next7 3 (by omega)
  simp only [Nat.add_zero] at q0
  have hl0 : (0 : Int) < (x.shut.length : Int) := by omega
  have hse : ¬ (x.shut = []) := fun e => by rw [e] at hl0; simp at hl0
  have hl1 : (1 : Int) < (x.shut.length : Int) := by omega
  have hl2 : (2 : Int) < (x.shut.length : Int) := by omega
  have hl3 : (3 : Int) < (x.shut.length : Int) := by omega
  have HN7 := hide next7
  clear next7 c0' h7
  by_cases h : x.keeper = 0
  · have r0 : (x.keeper == 0) = true := beqt h
    have r2 : (x.keeper == 2) = false := beqf (by omega)
    have r5 : (x.keeper == 5) = false := beqf (by omega)
    by_cases hz : x.results.length = 0
    · have HZ := hide (show x.kw = [false, x.sh 3 == 1, x.sh 1 == 1] from by unfold CrewWorld.kw; rw [if_pos h]; simp [hz])
      have z0 : decide ((0 : Int) < (x.results.length : Int)) = false := dec_false (by omega)
      have z1 : decide (0 < x.results.length) = false := dec_false (by omega)
      have z2 : ((x.results.length : Int) == 0) = true := beqt (by omega)
      have z3 : decide (x.results.length = 0) = true := dec_true hz
      clear hz h
      go_wp2_with fail
      refine wp_region_held_drew (S := fun W => Below w1.heap.size w1 W) (by kernel_rfl) (below_drewN (Below.refl _ _) 1) (fun hS0 => ?_)
      refine wpAnyH_take (i := 0) (v := .pointer (some ⟨w.heap.size, 8, none⟩)) rfl (by kernel_rfl) (by kernel_rfl) (by kernel_rfl) (fun _ _ _ h => h) (Or.inl ⟨by kernel_rfl, by (intro W hS; go_simp; first | done | with_reducible rfl | rfl)⟩) hS0 ?_
      (try simp only [Act.put, List.getElem_toArray, List.getElem_cons_zero, List.getElem_cons_succ, List.setIfInBounds_toArray, List.set_cons_zero, List.set_cons_succ])
      refine wpAnyH_take (i := 1) (v := .slice A3 x.results.length c3) rfl (by kernel_rfl) (by kernel_rfl) (by kernel_rfl) (fun _ _ _ h => h) (Or.inl ⟨by kernel_rfl, by (intro W hS; have y := (HX.out.below hS HX.out.lt).cell 8; have yl := (HX.out.below hS HX.out.lt).lt; go_simp; first | done | with_reducible rfl | rfl)⟩) hS0 ?_
      (try simp only [Act.put, List.getElem_toArray, List.getElem_cons_zero, List.getElem_cons_succ, List.setIfInBounds_toArray, List.set_cons_zero, List.set_cons_succ])
      refine wpAnyH_take (i := 2) (v := .int .i64 (x.results.length : Int)) rfl (by kernel_rfl) (by kernel_rfl) (by kernel_rfl) (fun _ _ _ h => h) (Or.inl ⟨by kernel_rfl, by (intro W hS; go_simp; first | done | with_reducible rfl | rfl)⟩) hS0 ?_
      (try simp only [Act.put, List.getElem_toArray, List.getElem_cons_zero, List.getElem_cons_succ, List.setIfInBounds_toArray, List.set_cons_zero, List.set_cons_succ])
      refine wpAnyH_take (i := 3) (v := .bool false) rfl (by kernel_rfl) (by kernel_rfl) (by kernel_rfl) (fun _ _ _ h => h) (Or.inl ⟨by kernel_rfl, by (intro W hS; go_simp; first | done | with_reducible rfl | rfl)⟩) hS0 ?_
      (try simp only [Act.put, List.getElem_toArray, List.getElem_cons_zero, List.getElem_cons_succ, List.setIfInBounds_toArray, List.set_cons_zero, List.set_cons_succ])
      refine wpAnyH_take (i := 4) (v := .bool (x.sh 3 == 1)) rfl (by kernel_rfl) (by kernel_rfl) (by kernel_rfl) (fun _ _ _ h => h) (Or.inl ⟨by kernel_rfl, by (intro W hS; go_simp; first | done | with_reducible rfl | rfl)⟩) hS0 ?_
      (try simp only [Act.put, List.getElem_toArray, List.getElem_cons_zero, List.getElem_cons_succ, List.setIfInBounds_toArray, List.set_cons_zero, List.set_cons_succ])
      refine wpAnyH_take (i := 5) (v := .pointer (some ⟨w.heap.size, 8, none⟩)) rfl (by kernel_rfl) (by kernel_rfl) (by kernel_rfl) (fun _ _ _ h => h) (Or.inl ⟨by kernel_rfl, by (intro W hS; go_simp; first | done | with_reducible rfl | rfl)⟩) hS0 ?_
      (try simp only [Act.put, List.getElem_toArray, List.getElem_cons_zero, List.getElem_cons_succ, List.setIfInBounds_toArray, List.set_cons_zero, List.set_cons_succ])
      refine wpAnyH_take (i := 6) (v := .slice A3 x.results.length c3) rfl (by kernel_rfl) (by kernel_rfl) (by kernel_rfl) (fun _ _ _ h => h) (Or.inl ⟨by kernel_rfl, by (intro W hS; have y := (HX.out.below hS HX.out.lt).cell 8; have yl := (HX.out.below hS HX.out.lt).lt; go_simp; first | done | with_reducible rfl | rfl)⟩) hS0 ?_
      (try simp only [Act.put, List.getElem_toArray, List.getElem_cons_zero, List.getElem_cons_succ, List.setIfInBounds_toArray, List.set_cons_zero, List.set_cons_succ])
      refine wpAnyH_take (i := 7) (v := .int .i64 (x.results.length : Int)) rfl (by kernel_rfl) (by kernel_rfl) (by kernel_rfl) (fun _ _ _ h => h) (Or.inl ⟨by kernel_rfl, by (intro W hS; go_simp; first | done | with_reducible rfl | rfl)⟩) hS0 ?_
      (try simp only [Act.put, List.getElem_toArray, List.getElem_cons_zero, List.getElem_cons_succ, List.setIfInBounds_toArray, List.set_cons_zero, List.set_cons_succ])
      refine wpAnyH_take (i := 8) (v := .bool true) rfl (by kernel_rfl) (by kernel_rfl) (by kernel_rfl) (fun _ _ _ h => h) (Or.inl ⟨by kernel_rfl, by (intro W hS; go_simp; first | done | with_reducible rfl | rfl)⟩) hS0 ?_
      (try simp only [Act.put, List.getElem_toArray, List.getElem_cons_zero, List.getElem_cons_succ, List.setIfInBounds_toArray, List.set_cons_zero, List.set_cons_succ])
      refine wpAnyH_take (i := 9) (v := .bool true) rfl (by kernel_rfl) (by kernel_rfl) (by kernel_rfl) (fun _ _ _ h => h) (Or.inl ⟨by kernel_rfl, by (intro W hS; go_simp; first | done | with_reducible rfl | rfl)⟩) hS0 ?_
      (try simp only [Act.put, List.getElem_toArray, List.getElem_cons_zero, List.getElem_cons_succ, List.setIfInBounds_toArray, List.set_cons_zero, List.set_cons_succ])
      refine wpAnyH_take (i := 10) (v := .pointer (some ⟨w.heap.size, 16, none⟩)) rfl (by kernel_rfl) (by kernel_rfl) (by kernel_rfl) (fun _ _ _ h => h) (Or.inl ⟨by kernel_rfl, by (intro W hS; go_simp; first | done | with_reducible rfl | rfl)⟩) hS0 ?_
      (try simp only [Act.put, List.getElem_toArray, List.getElem_cons_zero, List.getElem_cons_succ, List.setIfInBounds_toArray, List.set_cons_zero, List.set_cons_succ])
      refine wpAnyH_take (i := 11) (v := .slice (some ⟨g7, off7, none⟩) x.shut.length c7) rfl (by kernel_rfl) (by kernel_rfl) (by kernel_rfl) (fun _ _ _ h => h) (Or.inl ⟨by kernel_rfl, by (intro W hS; have y := (HX.out.below hS HX.out.lt).cell 16; have yl := (HX.out.below hS HX.out.lt).lt; go_simp; first | done | with_reducible rfl | rfl)⟩) hS0 ?_
      (try simp only [Act.put, List.getElem_toArray, List.getElem_cons_zero, List.getElem_cons_succ, List.setIfInBounds_toArray, List.set_cons_zero, List.set_cons_succ])
      refine wpAnyH_take (i := 12) (v := .pointer (some ⟨g7, off7 + 1, none⟩)) rfl (by kernel_rfl) (by kernel_rfl) (by kernel_rfl) (fun _ _ _ h => h) (Or.inl ⟨by kernel_rfl, by (intro W hS; go_simp; first | done | with_reducible rfl | rfl)⟩) hS0 ?_
      (try simp only [Act.put, List.getElem_toArray, List.getElem_cons_zero, List.getElem_cons_succ, List.setIfInBounds_toArray, List.set_cons_zero, List.set_cons_succ])
      refine wpAnyH_take (i := 13) (v := .int .i64 (x.sh 1)) rfl (by kernel_rfl) (by kernel_rfl) (by kernel_rfl) (fun _ _ _ h => h) (Or.inl ⟨by kernel_rfl, by (intro W hS; have y := (hS.cell (p := ⟨g7, off7 + 1, none⟩) hgl).trans q1; have yl := Nat.lt_of_lt_of_le hgl hS.size; go_simp; first | done | with_reducible rfl | rfl)⟩) hS0 ?_
      (try simp only [Act.put, List.getElem_toArray, List.getElem_cons_zero, List.getElem_cons_succ, List.setIfInBounds_toArray, List.set_cons_zero, List.set_cons_succ])
      refine wpAnyH_take (i := 14) (v := .bool (x.sh 1 == 1)) rfl (by kernel_rfl) (by kernel_rfl) (by kernel_rfl) (fun _ _ _ h => h) (Or.inl ⟨by kernel_rfl, by (intro W hS; go_simp; first | done | with_reducible rfl | rfl)⟩) hS0 ?_
      (try simp only [Act.put, List.getElem_toArray, List.getElem_cons_zero, List.getElem_cons_succ, List.setIfInBounds_toArray, List.set_cons_zero, List.set_cons_succ])
      refine wpAnyH_take (i := 15) (v := .bool (x.sh 1 == 1)) rfl (by kernel_rfl) (by kernel_rfl) (by kernel_rfl) (fun _ _ _ h => h) (Or.inl ⟨by kernel_rfl, by (intro W hS; go_simp; first | done | with_reducible rfl | rfl)⟩) hS0 ?_
      (try simp only [Act.put, List.getElem_toArray, List.getElem_cons_zero, List.getElem_cons_succ, List.setIfInBounds_toArray, List.set_cons_zero, List.set_cons_succ])
      refine wpAnyH_ready (rs := [16]) (by kernel_rfl) (by simp) ?_
      refine AllReadyH.cons rfl (fun K hK => ?_) AllReadyH.nil
      go_simp
      refine hK.out _ _ (hS0.alloc hS0.size _) (fun hS1 => ?_)
      clear hK K
      refine wpAnyH_take (i := 17) (v := .slice (some ⟨w1.heap.size, 0, none⟩) 3 3) rfl (by kernel_rfl) (by kernel_rfl) (by kernel_rfl) (fun _ _ _ h => h) (Or.inl ⟨by kernel_rfl, by (intro W hS; go_simp; first | done | with_reducible rfl | rfl)⟩) hS1 ?_
      (try simp only [Act.put, List.getElem_toArray, List.getElem_cons_zero, List.getElem_cons_succ, List.setIfInBounds_toArray, List.set_cons_zero, List.set_cons_succ])
      refine wpAnyH_done (by kernel_rfl) ?_ _
      go_wp2
      go_ret
      rw [HZ.out]
      exact ⟨_, rfl, HB.out.size, Row.new _ _ _, HB.out.trans (hS1.mono HB.out.size)⟩
    have HZ := hide (show x.kw = [true, x.sh 3 == 1, false] from by unfold CrewWorld.kw; rw [if_pos h]; simp [hz, Nat.pos_of_ne_zero hz])
    have z0 : decide ((0 : Int) < (x.results.length : Int)) = true := dec_true (by omega)
    have z1 : decide (0 < x.results.length) = true := dec_true (by omega)
    have z2 : ((x.results.length : Int) == 0) = false := beqf (by omega)
    have z3 : decide (x.results.length = 0) = false := dec_false hz
    clear hz h
    go_wp2_with fail
    refine wp_region_held_drew (S := fun W => Below w1.heap.size w1 W) (by kernel_rfl) (below_drewN (Below.refl _ _) 1) (fun hS0 => ?_)
    refine wpAnyH_take (i := 0) (v := .pointer (some ⟨w.heap.size, 8, none⟩)) rfl (by kernel_rfl) (by kernel_rfl) (by kernel_rfl) (fun _ _ _ h => h) (Or.inl ⟨by kernel_rfl, by (intro W hS; go_simp; first | done | with_reducible rfl | rfl)⟩) hS0 ?_
    (try simp only [Act.put, List.getElem_toArray, List.getElem_cons_zero, List.getElem_cons_succ, List.setIfInBounds_toArray, List.set_cons_zero, List.set_cons_succ])
    refine wpAnyH_take (i := 1) (v := .slice A3 x.results.length c3) rfl (by kernel_rfl) (by kernel_rfl) (by kernel_rfl) (fun _ _ _ h => h) (Or.inl ⟨by kernel_rfl, by (intro W hS; have y := (HX.out.below hS HX.out.lt).cell 8; have yl := (HX.out.below hS HX.out.lt).lt; go_simp; first | done | with_reducible rfl | rfl)⟩) hS0 ?_
    (try simp only [Act.put, List.getElem_toArray, List.getElem_cons_zero, List.getElem_cons_succ, List.setIfInBounds_toArray, List.set_cons_zero, List.set_cons_succ])
    refine wpAnyH_take (i := 2) (v := .int .i64 (x.results.length : Int)) rfl (by kernel_rfl) (by kernel_rfl) (by kernel_rfl) (fun _ _ _ h => h) (Or.inl ⟨by kernel_rfl, by (intro W hS; go_simp; first | done | with_reducible rfl | rfl)⟩) hS0 ?_
    (try simp only [Act.put, List.getElem_toArray, List.getElem_cons_zero, List.getElem_cons_succ, List.setIfInBounds_toArray, List.set_cons_zero, List.set_cons_succ])
    refine wpAnyH_take (i := 3) (v := .bool true) rfl (by kernel_rfl) (by kernel_rfl) (by kernel_rfl) (fun _ _ _ h => h) (Or.inl ⟨by kernel_rfl, by (intro W hS; go_simp; first | done | with_reducible rfl | rfl)⟩) hS0 ?_
    (try simp only [Act.put, List.getElem_toArray, List.getElem_cons_zero, List.getElem_cons_succ, List.setIfInBounds_toArray, List.set_cons_zero, List.set_cons_succ])
    refine wpAnyH_take (i := 4) (v := .bool (x.sh 3 == 1)) rfl (by kernel_rfl) (by kernel_rfl) (by kernel_rfl) (fun _ _ _ h => h) (Or.inl ⟨by kernel_rfl, by (intro W hS; go_simp; first | done | with_reducible rfl | rfl)⟩) hS0 ?_
    (try simp only [Act.put, List.getElem_toArray, List.getElem_cons_zero, List.getElem_cons_succ, List.setIfInBounds_toArray, List.set_cons_zero, List.set_cons_succ])
    refine wpAnyH_take (i := 5) (v := .pointer (some ⟨w.heap.size, 8, none⟩)) rfl (by kernel_rfl) (by kernel_rfl) (by kernel_rfl) (fun _ _ _ h => h) (Or.inl ⟨by kernel_rfl, by (intro W hS; go_simp; first | done | with_reducible rfl | rfl)⟩) hS0 ?_
    (try simp only [Act.put, List.getElem_toArray, List.getElem_cons_zero, List.getElem_cons_succ, List.setIfInBounds_toArray, List.set_cons_zero, List.set_cons_succ])
    refine wpAnyH_take (i := 6) (v := .slice A3 x.results.length c3) rfl (by kernel_rfl) (by kernel_rfl) (by kernel_rfl) (fun _ _ _ h => h) (Or.inl ⟨by kernel_rfl, by (intro W hS; have y := (HX.out.below hS HX.out.lt).cell 8; have yl := (HX.out.below hS HX.out.lt).lt; go_simp; first | done | with_reducible rfl | rfl)⟩) hS0 ?_
    (try simp only [Act.put, List.getElem_toArray, List.getElem_cons_zero, List.getElem_cons_succ, List.setIfInBounds_toArray, List.set_cons_zero, List.set_cons_succ])
    refine wpAnyH_take (i := 7) (v := .int .i64 (x.results.length : Int)) rfl (by kernel_rfl) (by kernel_rfl) (by kernel_rfl) (fun _ _ _ h => h) (Or.inl ⟨by kernel_rfl, by (intro W hS; go_simp; first | done | with_reducible rfl | rfl)⟩) hS0 ?_
    (try simp only [Act.put, List.getElem_toArray, List.getElem_cons_zero, List.getElem_cons_succ, List.setIfInBounds_toArray, List.set_cons_zero, List.set_cons_succ])
    refine wpAnyH_take (i := 8) (v := .bool false) rfl (by kernel_rfl) (by kernel_rfl) (by kernel_rfl) (fun _ _ _ h => h) (Or.inl ⟨by kernel_rfl, by (intro W hS; go_simp; first | done | with_reducible rfl | rfl)⟩) hS0 ?_
    (try simp only [Act.put, List.getElem_toArray, List.getElem_cons_zero, List.getElem_cons_succ, List.setIfInBounds_toArray, List.set_cons_zero, List.set_cons_succ])
    refine wpAnyH_take (i := 9) (v := .bool false) rfl (by kernel_rfl) (by kernel_rfl) (by kernel_rfl) (fun _ _ _ h => h) (Or.inl ⟨by kernel_rfl, by (intro W hS; go_simp; first | done | with_reducible rfl | rfl)⟩) hS0 ?_
    (try simp only [Act.put, List.getElem_toArray, List.getElem_cons_zero, List.getElem_cons_succ, List.setIfInBounds_toArray, List.set_cons_zero, List.set_cons_succ])
    refine wpAnyH_take (i := 10) (v := undef) rfl (by kernel_rfl) (by kernel_rfl) (by kernel_rfl) (fun _ _ _ h => h) (Or.inr ⟨by kernel_rfl, rfl⟩) hS0 ?_
    (try simp only [Act.put, List.getElem_toArray, List.getElem_cons_zero, List.getElem_cons_succ, List.setIfInBounds_toArray, List.set_cons_zero, List.set_cons_succ])
    refine wpAnyH_take (i := 11) (v := undef) rfl (by kernel_rfl) (by kernel_rfl) (by kernel_rfl) (fun _ _ _ h => h) (Or.inr ⟨by kernel_rfl, rfl⟩) hS0 ?_
    (try simp only [Act.put, List.getElem_toArray, List.getElem_cons_zero, List.getElem_cons_succ, List.setIfInBounds_toArray, List.set_cons_zero, List.set_cons_succ])
    refine wpAnyH_take (i := 12) (v := undef) rfl (by kernel_rfl) (by kernel_rfl) (by kernel_rfl) (fun _ _ _ h => h) (Or.inr ⟨by kernel_rfl, rfl⟩) hS0 ?_
    (try simp only [Act.put, List.getElem_toArray, List.getElem_cons_zero, List.getElem_cons_succ, List.setIfInBounds_toArray, List.set_cons_zero, List.set_cons_succ])
    refine wpAnyH_take (i := 13) (v := undef) rfl (by kernel_rfl) (by kernel_rfl) (by kernel_rfl) (fun _ _ _ h => h) (Or.inr ⟨by kernel_rfl, rfl⟩) hS0 ?_
    (try simp only [Act.put, List.getElem_toArray, List.getElem_cons_zero, List.getElem_cons_succ, List.setIfInBounds_toArray, List.set_cons_zero, List.set_cons_succ])
    refine wpAnyH_take (i := 14) (v := undef) rfl (by kernel_rfl) (by kernel_rfl) (by kernel_rfl) (fun _ _ _ h => h) (Or.inr ⟨by kernel_rfl, rfl⟩) hS0 ?_
    (try simp only [Act.put, List.getElem_toArray, List.getElem_cons_zero, List.getElem_cons_succ, List.setIfInBounds_toArray, List.set_cons_zero, List.set_cons_succ])
    refine wpAnyH_take (i := 15) (v := .bool false) rfl (by kernel_rfl) (by kernel_rfl) (by kernel_rfl) (fun _ _ _ h => h) (Or.inl ⟨by kernel_rfl, by (intro W hS; go_simp; first | done | with_reducible rfl | rfl)⟩) hS0 ?_
    (try simp only [Act.put, List.getElem_toArray, List.getElem_cons_zero, List.getElem_cons_succ, List.setIfInBounds_toArray, List.set_cons_zero, List.set_cons_succ])
    refine wpAnyH_ready (rs := [16]) (by kernel_rfl) (by simp) ?_
    refine AllReadyH.cons rfl (fun K hK => ?_) AllReadyH.nil
    go_simp
    refine hK.out _ _ (hS0.alloc hS0.size _) (fun hS1 => ?_)
    clear hK K
    refine wpAnyH_take (i := 17) (v := .slice (some ⟨w1.heap.size, 0, none⟩) 3 3) rfl (by kernel_rfl) (by kernel_rfl) (by kernel_rfl) (fun _ _ _ h => h) (Or.inl ⟨by kernel_rfl, by (intro W hS; go_simp; first | done | with_reducible rfl | rfl)⟩) hS1 ?_
    (try simp only [Act.put, List.getElem_toArray, List.getElem_cons_zero, List.getElem_cons_succ, List.setIfInBounds_toArray, List.set_cons_zero, List.set_cons_succ])
    refine wpAnyH_done (by kernel_rfl) ?_ _
    go_wp2
    go_ret
    rw [HZ.out]
    exact ⟨_, rfl, HB.out.size, Row.new _ _ _, HB.out.trans (hS1.mono HB.out.size)⟩
  have r0 := beqf h
  by_cases h1 : x.keeper = 2
  · have r1 := beqt h1
    have HZ := hide (show x.kw = [(x.out.length : Int) == 0, x.sh 3 == 1] from by unfold CrewWorld.kw; rw [if_neg h, if_pos h1]; congr 1; by_cases hz : x.out.length = 0 <;> simp [hz])
    clear h h1
    go_wp2
    go_ret
    rw [HZ.out]
    exact ⟨_, rfl, HB.out.size, Row.new _ _ _, HB.out.alloc HB.out.size _⟩
  have r1 := beqf h1
  by_cases h2 : x.keeper = 5
  · have r2 := beqt h2
    have HZ := hide (show x.kw = [] from by unfold CrewWorld.kw; rw [if_neg h, if_neg h1, if_pos h2])
    clear h h1 h2
    go_wp2
    go_ret
    rw [HZ.out]
    exact ⟨_, rfl, HB.out.size, Row.new _ _ _, HB.out.alloc HB.out.size _⟩
  have r2 := beqf h2
  have HZ := hide (show x.kw = [true] from by unfold CrewWorld.kw; rw [if_neg h, if_neg h1, if_neg h2])
  clear h h1 h2
  go_wp2
  go_ret
  rw [HZ.out]
  exact ⟨_, rfl, HB.out.size, Row.new _ _ _, HB.out.alloc HB.out.size _⟩
end Go.Proofs.Ytpkjjfnfolbcoaa
set_option linter.unusedVariables false
set_option linter.unusedSimpArgs false
namespace Go.Proofs.Ytpkjjfnfolbcoaa
open Go.ChangeShapes Go.WideShapes Go.ChangeAt Go.RowKit

set_option maxRecDepth 100000 in
set_option maxHeartbeats 4000000 in
theorem l52Worker_any (x : CrewWorld) (us : List Value) (fp : List Nat) (y : CrewHand) (vs : List Value) (fy : List Nat) (w : World) (ho : OwC w x.cells us fp) (hf : Lt fp w.heap.size) (hy : OwC w y.cells vs fy) (hfm : x.Form) : Calls Try.prog 142 #[.agg us.toArray, .agg vs.toArray] w (WaysOut (x.hw y) w) := by
  have HFM := hide hfm
  have HO := hide ho
  have HF := hide hf
  obtain ⟨A1, c1, A2, c2, A3, c3, A4, c4, A5, c5, A6, c6, A7, c7, f1, f2, f3, f4, f5, f6, f7, rfl, wjobs, wworkers, wwindow, wnext, wreader, o1, o2, wcloser, o3, wkeeper, o4, wdue, o5, wuser, o6, wroom, o7, wops, rfl⟩ := ho.oCrewWorld
  clear ho hfm
  obtain ⟨rfl, -, -, -⟩ := hy.oCrewHand
  clear hy
  go_enter Try.func142, Try.ntmps142
  go_upto_region 1 with fail
  generalize hw1 : (w.alloc _).alloc _ = w1
  have hb0 : Below w.heap.size w w1 := by rw [← hw1]; exact ((Below.refl _ _).alloc (Nat.le_refl _) _).alloc (by simp) _
  have HX := hide (show Row w1 w.heap.size 30 [.int .i64 x.jobs, .int .i64 x.workers, .int .i64 x.window, .int .i64 x.next, .int .i64 x.reader, .slice A1 x.queue.length c1, .slice A2 x.hands.length c2, .int .i64 x.closer, .slice A3 x.results.length c3, .int .i64 x.keeper, .slice A4 x.ring.length c4, .int .i64 x.due, .slice A5 x.out.length c5, .int .i64 x.user, .slice A6 x.got.length c6, .int .i64 x.room, .slice A7 x.shut.length c7, .int .i64 x.ops] from by rw [← hw1]; exact (Row.new w _ _).alloc _)
  have HY := hide (show Row w1 (w.heap.size + 1) 88 [.int .i64 y.state, .int .i64 y.job] from by
    rw [← hw1]
    have h := Row.new (w.alloc (.cells ([.int .i64 x.jobs, .int .i64 x.workers, .int .i64 x.window, .int .i64 x.next, .int .i64 x.reader, .slice A1 x.queue.length c1, .slice A2 x.hands.length c2, .int .i64 x.closer, .slice A3 x.results.length c3, .int .i64 x.keeper, .slice A4 x.ring.length c4, .int .i64 x.due, .slice A5 x.out.length c5, .int .i64 x.user, .slice A6 x.got.length c6, .int .i64 x.room, .slice A7 x.shut.length c7, .int .i64 x.ops] : List Value).toArray 30)) 88 [.int .i64 y.state, .int .i64 y.job]
    simpa using h)
  have HB := hide hb0
  have O7 := hide (o7.below hb0 hf.right.right.right.right.right.right)
  have l7 := hf.right.right.right.right.right.right.up hb0
  obtain ⟨-, n7, m7⟩ := o7.nlen
  unfold maxLen at m7
  clear hw1 hb0 HO o1 o2 o3 o4 o5 o6 o7
  have y0 := HY.out.cell 0
  have yl0 := HY.out.lt
  have x1 := HX.out.cell 1
  have x5 := HX.out.cell 5
  have x8 := HX.out.cell 8
  have x16 := HX.out.cell 16
  have xl := HX.out.lt
  have h7 : x.shut.length = 4 := HFM.out.shut
  obtain ⟨g7, off7, rfl, hg7, c0', -⟩ := ints_at O7.out (show 0 < x.shut.length by omega)
  have hgl := l7 g7 hg7
  have next7 : ∀ i, i < 4 → w1.cell? ⟨g7, off7 + i, none⟩ = some (.int .i64 (x.sh i)) := fun i h4 => by
    have h : i < x.shut.length := by omega
    obtain ⟨g, off, e, -, hc, -⟩ := ints_at O7.out h
    injection e with e
    injection e with e1 e2 _
    subst e1 e2
    unfold CrewWorld.sh
    rw [List.getElem?_eq_getElem h]
    exact hc
  have q0 := next7 0 (by omega)
  have q1 := next7 1 (by omega)
  have q2 := next7 2 (by omega)
  have q3 := next7 3 (by omega)
  simp only [Nat.add_zero] at q0
  have hl0 : (0 : Int) < (x.shut.length : Int) := by omega
  have hse : ¬ (x.shut = []) := fun e => by rw [e] at hl0; simp at hl0
  have hl1 : (1 : Int) < (x.shut.length : Int) := by omega
  have hl2 : (2 : Int) < (x.shut.length : Int) := by omega
  have hl3 : (3 : Int) < (x.shut.length : Int) := by omega
  have HN7 := hide next7
  clear next7 c0' h7
  by_cases h : y.state = 0
  · have r0 : (y.state == 0) = true := beqt h
    have r1 : (y.state == 1) = false := beqf (by omega)
    have r2 : (y.state == 2) = false := beqf (by omega)
    by_cases hz : x.queue.length = 0
    · have HZ := hide (show x.hw y = [false, x.sh 3 == 1, x.sh 0 == 1] from by unfold CrewWorld.hw; rw [if_pos h]; simp [hz])
      have z0 : decide ((0 : Int) < (x.queue.length : Int)) = false := dec_false (by omega)
      have z1 : decide (0 < x.queue.length) = false := dec_false (by omega)
      have z2 : ((x.queue.length : Int) == 0) = true := beqt (by omega)
      have z3 : decide (x.queue.length = 0) = true := dec_true hz
      clear hz h
      go_wp2_with fail
      refine wp_region_held_drew (S := fun W => Below w1.heap.size w1 W) (by kernel_rfl) (below_drewN (Below.refl _ _) 1) (fun hS0 => ?_)
      refine wpAnyH_take (i := 0) (v := .pointer (some ⟨w.heap.size, 5, none⟩)) rfl (by kernel_rfl) (by kernel_rfl) (by kernel_rfl) (fun _ _ _ h => h) (Or.inl ⟨by kernel_rfl, by (intro W hS; go_simp; first | done | with_reducible rfl | rfl)⟩) hS0 ?_
      (try simp only [Act.put, List.getElem_toArray, List.getElem_cons_zero, List.getElem_cons_succ, List.setIfInBounds_toArray, List.set_cons_zero, List.set_cons_succ])
      refine wpAnyH_take (i := 1) (v := .slice A1 x.queue.length c1) rfl (by kernel_rfl) (by kernel_rfl) (by kernel_rfl) (fun _ _ _ h => h) (Or.inl ⟨by kernel_rfl, by (intro W hS; have y := (HX.out.below hS HX.out.lt).cell 5; have yl := (HX.out.below hS HX.out.lt).lt; go_simp; first | done | with_reducible rfl | rfl)⟩) hS0 ?_
      (try simp only [Act.put, List.getElem_toArray, List.getElem_cons_zero, List.getElem_cons_succ, List.setIfInBounds_toArray, List.set_cons_zero, List.set_cons_succ])
      refine wpAnyH_take (i := 2) (v := .int .i64 (x.queue.length : Int)) rfl (by kernel_rfl) (by kernel_rfl) (by kernel_rfl) (fun _ _ _ h => h) (Or.inl ⟨by kernel_rfl, by (intro W hS; go_simp; first | done | with_reducible rfl | rfl)⟩) hS0 ?_
      (try simp only [Act.put, List.getElem_toArray, List.getElem_cons_zero, List.getElem_cons_succ, List.setIfInBounds_toArray, List.set_cons_zero, List.set_cons_succ])
      refine wpAnyH_take (i := 3) (v := .bool false) rfl (by kernel_rfl) (by kernel_rfl) (by kernel_rfl) (fun _ _ _ h => h) (Or.inl ⟨by kernel_rfl, by (intro W hS; go_simp; first | done | with_reducible rfl | rfl)⟩) hS0 ?_
      (try simp only [Act.put, List.getElem_toArray, List.getElem_cons_zero, List.getElem_cons_succ, List.setIfInBounds_toArray, List.set_cons_zero, List.set_cons_succ])
      refine wpAnyH_take (i := 4) (v := .bool (x.sh 3 == 1)) rfl (by kernel_rfl) (by kernel_rfl) (by kernel_rfl) (fun _ _ _ h => h) (Or.inl ⟨by kernel_rfl, by (intro W hS; go_simp; first | done | with_reducible rfl | rfl)⟩) hS0 ?_
      (try simp only [Act.put, List.getElem_toArray, List.getElem_cons_zero, List.getElem_cons_succ, List.setIfInBounds_toArray, List.set_cons_zero, List.set_cons_succ])
      refine wpAnyH_take (i := 5) (v := .pointer (some ⟨w.heap.size, 5, none⟩)) rfl (by kernel_rfl) (by kernel_rfl) (by kernel_rfl) (fun _ _ _ h => h) (Or.inl ⟨by kernel_rfl, by (intro W hS; go_simp; first | done | with_reducible rfl | rfl)⟩) hS0 ?_
      (try simp only [Act.put, List.getElem_toArray, List.getElem_cons_zero, List.getElem_cons_succ, List.setIfInBounds_toArray, List.set_cons_zero, List.set_cons_succ])
      refine wpAnyH_take (i := 6) (v := .slice A1 x.queue.length c1) rfl (by kernel_rfl) (by kernel_rfl) (by kernel_rfl) (fun _ _ _ h => h) (Or.inl ⟨by kernel_rfl, by (intro W hS; have y := (HX.out.below hS HX.out.lt).cell 5; have yl := (HX.out.below hS HX.out.lt).lt; go_simp; first | done | with_reducible rfl | rfl)⟩) hS0 ?_
      (try simp only [Act.put, List.getElem_toArray, List.getElem_cons_zero, List.getElem_cons_succ, List.setIfInBounds_toArray, List.set_cons_zero, List.set_cons_succ])
      refine wpAnyH_take (i := 7) (v := .int .i64 (x.queue.length : Int)) rfl (by kernel_rfl) (by kernel_rfl) (by kernel_rfl) (fun _ _ _ h => h) (Or.inl ⟨by kernel_rfl, by (intro W hS; go_simp; first | done | with_reducible rfl | rfl)⟩) hS0 ?_
      (try simp only [Act.put, List.getElem_toArray, List.getElem_cons_zero, List.getElem_cons_succ, List.setIfInBounds_toArray, List.set_cons_zero, List.set_cons_succ])
      refine wpAnyH_take (i := 8) (v := .bool true) rfl (by kernel_rfl) (by kernel_rfl) (by kernel_rfl) (fun _ _ _ h => h) (Or.inl ⟨by kernel_rfl, by (intro W hS; go_simp; first | done | with_reducible rfl | rfl)⟩) hS0 ?_
      (try simp only [Act.put, List.getElem_toArray, List.getElem_cons_zero, List.getElem_cons_succ, List.setIfInBounds_toArray, List.set_cons_zero, List.set_cons_succ])
      refine wpAnyH_take (i := 9) (v := .bool true) rfl (by kernel_rfl) (by kernel_rfl) (by kernel_rfl) (fun _ _ _ h => h) (Or.inl ⟨by kernel_rfl, by (intro W hS; go_simp; first | done | with_reducible rfl | rfl)⟩) hS0 ?_
      (try simp only [Act.put, List.getElem_toArray, List.getElem_cons_zero, List.getElem_cons_succ, List.setIfInBounds_toArray, List.set_cons_zero, List.set_cons_succ])
      refine wpAnyH_take (i := 10) (v := .pointer (some ⟨w.heap.size, 16, none⟩)) rfl (by kernel_rfl) (by kernel_rfl) (by kernel_rfl) (fun _ _ _ h => h) (Or.inl ⟨by kernel_rfl, by (intro W hS; go_simp; first | done | with_reducible rfl | rfl)⟩) hS0 ?_
      (try simp only [Act.put, List.getElem_toArray, List.getElem_cons_zero, List.getElem_cons_succ, List.setIfInBounds_toArray, List.set_cons_zero, List.set_cons_succ])
      refine wpAnyH_take (i := 11) (v := .slice (some ⟨g7, off7, none⟩) x.shut.length c7) rfl (by kernel_rfl) (by kernel_rfl) (by kernel_rfl) (fun _ _ _ h => h) (Or.inl ⟨by kernel_rfl, by (intro W hS; have y := (HX.out.below hS HX.out.lt).cell 16; have yl := (HX.out.below hS HX.out.lt).lt; go_simp; first | done | with_reducible rfl | rfl)⟩) hS0 ?_
      (try simp only [Act.put, List.getElem_toArray, List.getElem_cons_zero, List.getElem_cons_succ, List.setIfInBounds_toArray, List.set_cons_zero, List.set_cons_succ])
      refine wpAnyH_take (i := 12) (v := .pointer (some ⟨g7, off7, none⟩)) rfl (by kernel_rfl) (by kernel_rfl) (by kernel_rfl) (fun _ _ _ h => h) (Or.inl ⟨by kernel_rfl, by (intro W hS; go_simp; first | done | with_reducible rfl | rfl)⟩) hS0 ?_
      (try simp only [Act.put, List.getElem_toArray, List.getElem_cons_zero, List.getElem_cons_succ, List.setIfInBounds_toArray, List.set_cons_zero, List.set_cons_succ])
      refine wpAnyH_take (i := 13) (v := .int .i64 (x.sh 0)) rfl (by kernel_rfl) (by kernel_rfl) (by kernel_rfl) (fun _ _ _ h => h) (Or.inl ⟨by kernel_rfl, by (intro W hS; have y := (hS.cell (p := ⟨g7, off7, none⟩) hgl).trans q0; have yl := Nat.lt_of_lt_of_le hgl hS.size; go_simp; first | done | with_reducible rfl | rfl)⟩) hS0 ?_
      (try simp only [Act.put, List.getElem_toArray, List.getElem_cons_zero, List.getElem_cons_succ, List.setIfInBounds_toArray, List.set_cons_zero, List.set_cons_succ])
      refine wpAnyH_take (i := 14) (v := .bool (x.sh 0 == 1)) rfl (by kernel_rfl) (by kernel_rfl) (by kernel_rfl) (fun _ _ _ h => h) (Or.inl ⟨by kernel_rfl, by (intro W hS; go_simp; first | done | with_reducible rfl | rfl)⟩) hS0 ?_
      (try simp only [Act.put, List.getElem_toArray, List.getElem_cons_zero, List.getElem_cons_succ, List.setIfInBounds_toArray, List.set_cons_zero, List.set_cons_succ])
      refine wpAnyH_take (i := 15) (v := .bool (x.sh 0 == 1)) rfl (by kernel_rfl) (by kernel_rfl) (by kernel_rfl) (fun _ _ _ h => h) (Or.inl ⟨by kernel_rfl, by (intro W hS; go_simp; first | done | with_reducible rfl | rfl)⟩) hS0 ?_
      (try simp only [Act.put, List.getElem_toArray, List.getElem_cons_zero, List.getElem_cons_succ, List.setIfInBounds_toArray, List.set_cons_zero, List.set_cons_succ])
      refine wpAnyH_ready (rs := [16]) (by kernel_rfl) (by simp) ?_
      refine AllReadyH.cons rfl (fun K hK => ?_) AllReadyH.nil
      go_simp
      refine hK.out _ _ (hS0.alloc hS0.size _) (fun hS1 => ?_)
      clear hK K
      refine wpAnyH_take (i := 17) (v := .slice (some ⟨w1.heap.size, 0, none⟩) 3 3) rfl (by kernel_rfl) (by kernel_rfl) (by kernel_rfl) (fun _ _ _ h => h) (Or.inl ⟨by kernel_rfl, by (intro W hS; go_simp; first | done | with_reducible rfl | rfl)⟩) hS1 ?_
      (try simp only [Act.put, List.getElem_toArray, List.getElem_cons_zero, List.getElem_cons_succ, List.setIfInBounds_toArray, List.set_cons_zero, List.set_cons_succ])
      refine wpAnyH_done (by kernel_rfl) ?_ _
      go_wp2
      go_ret
      rw [HZ.out]
      exact ⟨_, rfl, HB.out.size, Row.new _ _ _, HB.out.trans (hS1.mono HB.out.size)⟩
    have HZ := hide (show x.hw y = [true, x.sh 3 == 1, false] from by unfold CrewWorld.hw; rw [if_pos h]; simp [hz, Nat.pos_of_ne_zero hz])
    have z0 : decide ((0 : Int) < (x.queue.length : Int)) = true := dec_true (by omega)
    have z1 : decide (0 < x.queue.length) = true := dec_true (by omega)
    have z2 : ((x.queue.length : Int) == 0) = false := beqf (by omega)
    have z3 : decide (x.queue.length = 0) = false := dec_false hz
    clear hz h
    go_wp2_with fail
    refine wp_region_held_drew (S := fun W => Below w1.heap.size w1 W) (by kernel_rfl) (below_drewN (Below.refl _ _) 1) (fun hS0 => ?_)
    refine wpAnyH_take (i := 0) (v := .pointer (some ⟨w.heap.size, 5, none⟩)) rfl (by kernel_rfl) (by kernel_rfl) (by kernel_rfl) (fun _ _ _ h => h) (Or.inl ⟨by kernel_rfl, by (intro W hS; go_simp; first | done | with_reducible rfl | rfl)⟩) hS0 ?_
    (try simp only [Act.put, List.getElem_toArray, List.getElem_cons_zero, List.getElem_cons_succ, List.setIfInBounds_toArray, List.set_cons_zero, List.set_cons_succ])
    refine wpAnyH_take (i := 1) (v := .slice A1 x.queue.length c1) rfl (by kernel_rfl) (by kernel_rfl) (by kernel_rfl) (fun _ _ _ h => h) (Or.inl ⟨by kernel_rfl, by (intro W hS; have y := (HX.out.below hS HX.out.lt).cell 5; have yl := (HX.out.below hS HX.out.lt).lt; go_simp; first | done | with_reducible rfl | rfl)⟩) hS0 ?_
    (try simp only [Act.put, List.getElem_toArray, List.getElem_cons_zero, List.getElem_cons_succ, List.setIfInBounds_toArray, List.set_cons_zero, List.set_cons_succ])
    refine wpAnyH_take (i := 2) (v := .int .i64 (x.queue.length : Int)) rfl (by kernel_rfl) (by kernel_rfl) (by kernel_rfl) (fun _ _ _ h => h) (Or.inl ⟨by kernel_rfl, by (intro W hS; go_simp; first | done | with_reducible rfl | rfl)⟩) hS0 ?_
    (try simp only [Act.put, List.getElem_toArray, List.getElem_cons_zero, List.getElem_cons_succ, List.setIfInBounds_toArray, List.set_cons_zero, List.set_cons_succ])
    refine wpAnyH_take (i := 3) (v := .bool true) rfl (by kernel_rfl) (by kernel_rfl) (by kernel_rfl) (fun _ _ _ h => h) (Or.inl ⟨by kernel_rfl, by (intro W hS; go_simp; first | done | with_reducible rfl | rfl)⟩) hS0 ?_
    (try simp only [Act.put, List.getElem_toArray, List.getElem_cons_zero, List.getElem_cons_succ, List.setIfInBounds_toArray, List.set_cons_zero, List.set_cons_succ])
    refine wpAnyH_take (i := 4) (v := .bool (x.sh 3 == 1)) rfl (by kernel_rfl) (by kernel_rfl) (by kernel_rfl) (fun _ _ _ h => h) (Or.inl ⟨by kernel_rfl, by (intro W hS; go_simp; first | done | with_reducible rfl | rfl)⟩) hS0 ?_
    (try simp only [Act.put, List.getElem_toArray, List.getElem_cons_zero, List.getElem_cons_succ, List.setIfInBounds_toArray, List.set_cons_zero, List.set_cons_succ])
    refine wpAnyH_take (i := 5) (v := .pointer (some ⟨w.heap.size, 5, none⟩)) rfl (by kernel_rfl) (by kernel_rfl) (by kernel_rfl) (fun _ _ _ h => h) (Or.inl ⟨by kernel_rfl, by (intro W hS; go_simp; first | done | with_reducible rfl | rfl)⟩) hS0 ?_
    (try simp only [Act.put, List.getElem_toArray, List.getElem_cons_zero, List.getElem_cons_succ, List.setIfInBounds_toArray, List.set_cons_zero, List.set_cons_succ])
    refine wpAnyH_take (i := 6) (v := .slice A1 x.queue.length c1) rfl (by kernel_rfl) (by kernel_rfl) (by kernel_rfl) (fun _ _ _ h => h) (Or.inl ⟨by kernel_rfl, by (intro W hS; have y := (HX.out.below hS HX.out.lt).cell 5; have yl := (HX.out.below hS HX.out.lt).lt; go_simp; first | done | with_reducible rfl | rfl)⟩) hS0 ?_
    (try simp only [Act.put, List.getElem_toArray, List.getElem_cons_zero, List.getElem_cons_succ, List.setIfInBounds_toArray, List.set_cons_zero, List.set_cons_succ])
    refine wpAnyH_take (i := 7) (v := .int .i64 (x.queue.length : Int)) rfl (by kernel_rfl) (by kernel_rfl) (by kernel_rfl) (fun _ _ _ h => h) (Or.inl ⟨by kernel_rfl, by (intro W hS; go_simp; first | done | with_reducible rfl | rfl)⟩) hS0 ?_
    (try simp only [Act.put, List.getElem_toArray, List.getElem_cons_zero, List.getElem_cons_succ, List.setIfInBounds_toArray, List.set_cons_zero, List.set_cons_succ])
    refine wpAnyH_take (i := 8) (v := .bool false) rfl (by kernel_rfl) (by kernel_rfl) (by kernel_rfl) (fun _ _ _ h => h) (Or.inl ⟨by kernel_rfl, by (intro W hS; go_simp; first | done | with_reducible rfl | rfl)⟩) hS0 ?_
    (try simp only [Act.put, List.getElem_toArray, List.getElem_cons_zero, List.getElem_cons_succ, List.setIfInBounds_toArray, List.set_cons_zero, List.set_cons_succ])
    refine wpAnyH_take (i := 9) (v := .bool false) rfl (by kernel_rfl) (by kernel_rfl) (by kernel_rfl) (fun _ _ _ h => h) (Or.inl ⟨by kernel_rfl, by (intro W hS; go_simp; first | done | with_reducible rfl | rfl)⟩) hS0 ?_
    (try simp only [Act.put, List.getElem_toArray, List.getElem_cons_zero, List.getElem_cons_succ, List.setIfInBounds_toArray, List.set_cons_zero, List.set_cons_succ])
    refine wpAnyH_take (i := 10) (v := undef) rfl (by kernel_rfl) (by kernel_rfl) (by kernel_rfl) (fun _ _ _ h => h) (Or.inr ⟨by kernel_rfl, rfl⟩) hS0 ?_
    (try simp only [Act.put, List.getElem_toArray, List.getElem_cons_zero, List.getElem_cons_succ, List.setIfInBounds_toArray, List.set_cons_zero, List.set_cons_succ])
    refine wpAnyH_take (i := 11) (v := undef) rfl (by kernel_rfl) (by kernel_rfl) (by kernel_rfl) (fun _ _ _ h => h) (Or.inr ⟨by kernel_rfl, rfl⟩) hS0 ?_
    (try simp only [Act.put, List.getElem_toArray, List.getElem_cons_zero, List.getElem_cons_succ, List.setIfInBounds_toArray, List.set_cons_zero, List.set_cons_succ])
    refine wpAnyH_take (i := 12) (v := undef) rfl (by kernel_rfl) (by kernel_rfl) (by kernel_rfl) (fun _ _ _ h => h) (Or.inr ⟨by kernel_rfl, rfl⟩) hS0 ?_
    (try simp only [Act.put, List.getElem_toArray, List.getElem_cons_zero, List.getElem_cons_succ, List.setIfInBounds_toArray, List.set_cons_zero, List.set_cons_succ])
    refine wpAnyH_take (i := 13) (v := undef) rfl (by kernel_rfl) (by kernel_rfl) (by kernel_rfl) (fun _ _ _ h => h) (Or.inr ⟨by kernel_rfl, rfl⟩) hS0 ?_
    (try simp only [Act.put, List.getElem_toArray, List.getElem_cons_zero, List.getElem_cons_succ, List.setIfInBounds_toArray, List.set_cons_zero, List.set_cons_succ])
    refine wpAnyH_take (i := 14) (v := undef) rfl (by kernel_rfl) (by kernel_rfl) (by kernel_rfl) (fun _ _ _ h => h) (Or.inr ⟨by kernel_rfl, rfl⟩) hS0 ?_
    (try simp only [Act.put, List.getElem_toArray, List.getElem_cons_zero, List.getElem_cons_succ, List.setIfInBounds_toArray, List.set_cons_zero, List.set_cons_succ])
    refine wpAnyH_take (i := 15) (v := .bool false) rfl (by kernel_rfl) (by kernel_rfl) (by kernel_rfl) (fun _ _ _ h => h) (Or.inl ⟨by kernel_rfl, by (intro W hS; go_simp; first | done | with_reducible rfl | rfl)⟩) hS0 ?_
    (try simp only [Act.put, List.getElem_toArray, List.getElem_cons_zero, List.getElem_cons_succ, List.setIfInBounds_toArray, List.set_cons_zero, List.set_cons_succ])
    refine wpAnyH_ready (rs := [16]) (by kernel_rfl) (by simp) ?_
    refine AllReadyH.cons rfl (fun K hK => ?_) AllReadyH.nil
    go_simp
    refine hK.out _ _ (hS0.alloc hS0.size _) (fun hS1 => ?_)
    clear hK K
    refine wpAnyH_take (i := 17) (v := .slice (some ⟨w1.heap.size, 0, none⟩) 3 3) rfl (by kernel_rfl) (by kernel_rfl) (by kernel_rfl) (fun _ _ _ h => h) (Or.inl ⟨by kernel_rfl, by (intro W hS; go_simp; first | done | with_reducible rfl | rfl)⟩) hS1 ?_
    (try simp only [Act.put, List.getElem_toArray, List.getElem_cons_zero, List.getElem_cons_succ, List.setIfInBounds_toArray, List.set_cons_zero, List.set_cons_succ])
    refine wpAnyH_done (by kernel_rfl) ?_ _
    go_wp2
    go_ret
    rw [HZ.out]
    exact ⟨_, rfl, HB.out.size, Row.new _ _ _, HB.out.trans (hS1.mono HB.out.size)⟩
  have r0 := beqf h
  by_cases h1 : y.state = 1
  · have r1 := beqt h1
    have HZ := hide (show x.hw y = [true] from by unfold CrewWorld.hw; rw [if_neg h, if_pos h1])
    clear h h1
    go_wp2
    go_ret
    rw [HZ.out]
    exact ⟨_, rfl, HB.out.size, Row.new _ _ _, HB.out.alloc HB.out.size _⟩
  have r1 := beqf h1
  by_cases h2 : y.state = 2
  · have r2 := beqt h2
    have HZ := hide (show x.hw y = [decide ((x.results.length : Int) < x.workers), x.sh 3 == 1] from by unfold CrewWorld.hw; rw [if_neg h, if_neg h1, if_pos h2])
    clear h h1 h2
    go_wp2
    go_ret
    rw [HZ.out]
    exact ⟨_, rfl, HB.out.size, Row.new _ _ _, HB.out.alloc HB.out.size _⟩
  have r2 := beqf h2
  have HZ := hide (show x.hw y = [] from by unfold CrewWorld.hw; rw [if_neg h, if_neg h1, if_neg h2])
  clear h h1 h2
  go_wp2
  go_ret
  rw [HZ.out]
  exact ⟨_, rfl, HB.out.size, Row.new _ _ _, HB.out.alloc HB.out.size _⟩
set_option maxRecDepth 100000 in
set_option maxHeartbeats 4000000 in
theorem l52Ways_any (x : CrewWorld) (us : List Value) (fp : List Nat) (w : World) (ho : OwC w x.cells us fp) (hf : Lt fp w.heap.size) (hfm : x.Form) (who : Nat) (hwho : (who : Int) ≤ x.workers + 3) : Calls Try.prog 89 #[.agg us.toArray, .int .i64 (who : Int)] w (WaysOut (x.ways who) w) := by
  have HFM := hide hfm
  have hww := hfm.start.2.1
  have HHL := hide hfm.hands
  clear hfm
  have HO := hide ho
  have HF := hide hf
  obtain ⟨A1, c1, A2, c2, A3, c3, A4, c4, A5, c5, A6, c6, A7, c7, f1, f2, f3, f4, f5, f6, f7, rfl, wjobs, wworkers, wwindow, wnext, wreader, o1, o2, wcloser, o3, wkeeper, o4, wdue, o5, wuser, o6, wroom, o7, wops, rfl⟩ := ho.oCrewWorld
  clear ho
  go_enter Try.func89, Try.ntmps89
  go_upto_region 1 with fail
  generalize hw1 : w.alloc _ = w1
  have hb0 : Below w.heap.size w w1 := by rw [← hw1]; exact (Below.refl _ _).alloc (Nat.le_refl _) _
  have HX := hide (show Row w1 w.heap.size 30 [.int .i64 x.jobs, .int .i64 x.workers, .int .i64 x.window, .int .i64 x.next, .int .i64 x.reader, .slice A1 x.queue.length c1, .slice A2 x.hands.length c2, .int .i64 x.closer, .slice A3 x.results.length c3, .int .i64 x.keeper, .slice A4 x.ring.length c4, .int .i64 x.due, .slice A5 x.out.length c5, .int .i64 x.user, .slice A6 x.got.length c6, .int .i64 x.room, .slice A7 x.shut.length c7, .int .i64 x.ops] from by rw [← hw1]; exact Row.new w _ _)
  have HB := hide hb0
  have HOW := hide (HO.out.below hb0 hf)
  have HFW := hide (hf.up hb0)
  have O2 := hide (o2.below hb0 hf.right.left)
  have l2 := hf.right.left.up hb0
  obtain ⟨-, n2, m2⟩ := o2.nlen
  unfold maxLen at m2
  have O7 := hide (o7.below hb0 hf.right.right.right.right.right.right)
  have l7 := hf.right.right.right.right.right.right.up hb0
  obtain ⟨-, n7, m7⟩ := o7.nlen
  unfold maxLen at m7
  clear hw1 hb0 HO o1 o2 o3 o4 o5 o6 o7
  have x1 := HX.out.cell 1
  have x6 := HX.out.cell 6
  have x7 := HX.out.cell 7
  have x12 := HX.out.cell 12
  have x13 := HX.out.cell 13
  have x16 := HX.out.cell 16
  have xl := HX.out.lt
  by_cases h0 : who = 0
  · have HZ := hide (show x.ways who = x.rd from by unfold CrewWorld.ways; rw [if_pos h0])
    have r0 : ((who : Int) == 0) = true := beqt (by omega)
    have HC := hide (l52Reader_any x _ _ w1 HOW.out HFW.out HFM.out)
    clear h0
    go_wp2_with (first | (refine wpList_load_row rfl 30 _ rfl w.heap.size rfl 30 ([.int .i64 x.jobs, .int .i64 x.workers, .int .i64 x.window, .int .i64 x.next, .int .i64 x.reader, .slice A1 x.queue.length c1, .slice A2 x.hands.length c2, .int .i64 x.closer, .slice A3 x.results.length c3, .int .i64 x.keeper, .slice A4 x.ring.length c4, .int .i64 x.due, .slice A5 x.out.length c5, .int .i64 x.user, .slice A6 x.got.length c6, .int .i64 x.room, .slice A7 x.shut.length c7, .int .i64 x.ops] : List Value).toArray (0, 0) _ HX.out Try.underlying30 rfl info_crew ?_) | fail)
    refine HC.out.mono ?_
    rintro e w2 ⟨g, rfl, hg, hr, hb2⟩
    go_wp2
    go_ret
    rw [HZ.out]
    exact ⟨g, rfl, Nat.le_trans HB.out.size hg, hr, HB.out.trans (hb2.mono HB.out.size)⟩
  have r0 : ((who : Int) == 0) = false := beqf (by omega)
  have H0 := hide h0
  clear h0
  by_cases h1 : (who : Int) ≤ x.workers
  · have d1 : decide ((who : Int) ≤ x.workers) = true := dec_true h1
    obtain ⟨k, hk⟩ : ∃ k, who = k + 1 := ⟨who - 1, by have := H0.out; omega⟩
    have hkl : k < x.hands.length := by have := HHL.out; omega
    have hkI : (k : Int) < (x.hands.length : Int) := by omega
    have hk0 : (0 : Int) ≤ (k : Int) := by omega
    have hkw : IntKind.i64.wrap ((who : Int) - 1) = (k : Int) := by rw [wrapI _ (by omega) (by omega)]; omega
    have HZ := hide (show x.ways who = x.hw x.hands[k] from by
      unfold CrewWorld.ways
      rw [if_neg H0.out, if_pos h1]
      have e : who - 1 = k := by omega
      rw [e, List.getElem?_eq_getElem hkl]
      rfl)
    obtain ⟨g, off, ws, fi, rfl, hg, hfi, hwl, hcs, hov⟩ := O2.out.elem CrewHand.cells_len hkl
    have hgl : g < w1.heap.size := l2 g hg
    have HHV := hide hov
    obtain ⟨rfl, -, -, -⟩ := hov.oCrewHand
    have p0 := hcs 0 _ rfl
    have p1 := hcs 1 _ rfl
    simp only [Nat.add_zero] at p0
    have HLI := hide (show Lt fi w1.heap.size from l2.sub hfi)
    generalize x.hands[k] = y at *
    have HC := hide (fun (W : World) (hb : Below w1.heap.size w1 W) => show Calls Try.prog 142 #[.agg ([.int .i64 x.jobs, .int .i64 x.workers, .int .i64 x.window, .int .i64 x.next, .int .i64 x.reader, .slice A1 x.queue.length c1, .slice (some ⟨g, off, none⟩) x.hands.length c2, .int .i64 x.closer, .slice A3 x.results.length c3, .int .i64 x.keeper, .slice A4 x.ring.length c4, .int .i64 x.due, .slice A5 x.out.length c5, .int .i64 x.user, .slice A6 x.got.length c6, .int .i64 x.room, .slice A7 x.shut.length c7, .int .i64 x.ops] : List Value).toArray, .agg #[.int .i64 y.state, .int .i64 y.job]] W (WaysOut (x.hw y) W) from l52Worker_any x _ _ y _ fi W (HOW.out.below hb HFW.out) (HFW.out.up hb) (HHV.out.below hb HLI.out) HFM.out)
    clear h1 hk hcs hov hwl
    go_wp2_with fail
    refine wp_region_held_drew (S := fun W => Below w1.heap.size w1 W) (by kernel_rfl) (below_drewN (Below.refl _ _) 1) (fun hS0 => ?_)
    refine wpAnyH_take (i := 0) (v := .agg ([.int .i64 x.jobs, .int .i64 x.workers, .int .i64 x.window, .int .i64 x.next, .int .i64 x.reader, .slice A1 x.queue.length c1, .slice (some ⟨g, off, none⟩) x.hands.length c2, .int .i64 x.closer, .slice A3 x.results.length c3, .int .i64 x.keeper, .slice A4 x.ring.length c4, .int .i64 x.due, .slice A5 x.out.length c5, .int .i64 x.user, .slice A6 x.got.length c6, .int .i64 x.room, .slice A7 x.shut.length c7, .int .i64 x.ops] : List Value).toArray) rfl (by kernel_rfl) (by kernel_rfl) (by kernel_rfl) (fun _ _ _ h => h) (Or.inl ⟨by kernel_rfl, fun W hS => run_loadOp_row (HX.out.below hS HX.out.lt) 30 rfl rfl Try.underlying30 rfl info_crew⟩) hS0 ?_
    (try simp only [Act.put, List.getElem_toArray, List.getElem_cons_zero, List.getElem_cons_succ, List.setIfInBounds_toArray, List.set_cons_zero, List.set_cons_succ])
    refine wpAnyH_take (i := 1) (v := .pointer (some ⟨w.heap.size, 6, none⟩)) rfl (by kernel_rfl) (by kernel_rfl) (by kernel_rfl) (fun _ _ _ h => h) (Or.inl ⟨by kernel_rfl, by (intro W hS; go_simp; first | done | with_reducible rfl | rfl)⟩) hS0 ?_
    (try simp only [Act.put, List.getElem_toArray, List.getElem_cons_zero, List.getElem_cons_succ, List.setIfInBounds_toArray, List.set_cons_zero, List.set_cons_succ])
    refine wpAnyH_take (i := 2) (v := .slice (some ⟨g, off, none⟩) x.hands.length c2) rfl (by kernel_rfl) (by kernel_rfl) (by kernel_rfl) (fun _ _ _ h => h) (Or.inl ⟨by kernel_rfl, by (intro W hS; have y := (HX.out.below hS HX.out.lt).cell 6; have yl := (HX.out.below hS HX.out.lt).lt; go_simp; first | done | with_reducible rfl | rfl)⟩) hS0 ?_
    (try simp only [Act.put, List.getElem_toArray, List.getElem_cons_zero, List.getElem_cons_succ, List.setIfInBounds_toArray, List.set_cons_zero, List.set_cons_succ])
    refine wpAnyH_take (i := 3) (v := .int .i64 (who : Int)) rfl (by kernel_rfl) (by kernel_rfl) (by kernel_rfl) (fun _ _ _ h => h) (Or.inl ⟨by kernel_rfl, by (intro W hS; go_simp; first | done | with_reducible rfl | rfl)⟩) hS0 ?_
    (try simp only [Act.put, List.getElem_toArray, List.getElem_cons_zero, List.getElem_cons_succ, List.setIfInBounds_toArray, List.set_cons_zero, List.set_cons_succ])
    refine wpAnyH_take (i := 4) (v := .int .i64 (k : Int)) rfl (by kernel_rfl) (by kernel_rfl) (by kernel_rfl) (fun _ _ _ h => h) (Or.inl ⟨by kernel_rfl, by (intro W hS; go_simp; first | done | with_reducible rfl | rfl)⟩) hS0 ?_
    (try simp only [Act.put, List.getElem_toArray, List.getElem_cons_zero, List.getElem_cons_succ, List.setIfInBounds_toArray, List.set_cons_zero, List.set_cons_succ])
    refine wpAnyH_take (i := 5) (v := .pointer (some ⟨g, off + k * 2, none⟩)) rfl (by kernel_rfl) (by kernel_rfl) (by kernel_rfl) (fun _ _ _ h => h) (Or.inl ⟨by kernel_rfl, by (intro W hS; go_simp; first | done | with_reducible rfl | rfl)⟩) hS0 ?_
    (try simp only [Act.put, List.getElem_toArray, List.getElem_cons_zero, List.getElem_cons_succ, List.setIfInBounds_toArray, List.set_cons_zero, List.set_cons_succ])
    refine wpAnyH_take (i := 6) (v := .agg #[.int .i64 y.state, .int .i64 y.job]) rfl (by kernel_rfl) (by kernel_rfl) (by kernel_rfl) (fun _ _ _ h => h) (Or.inl ⟨by kernel_rfl, by (intro W hS; have z0 := (hS.cell (p := ⟨g, off + k * 2, none⟩) hgl).trans p0; have z1 := (hS.cell (p := ⟨g, off + k * 2 + 1, none⟩) hgl).trans p1; have zl := Nat.lt_of_lt_of_le hgl hS.size; go_simp; first | done | with_reducible rfl | rfl)⟩) hS0 ?_
    (try simp only [Act.put, List.getElem_toArray, List.getElem_cons_zero, List.getElem_cons_succ, List.setIfInBounds_toArray, List.set_cons_zero, List.set_cons_succ])
    refine wpAnyH_ready (rs := [7]) (by kernel_rfl) (by simp) ?_
    refine AllReadyH.cons rfl (fun K hK => ?_) AllReadyH.nil
    go_simp
    go_at_call 142
    refine (HC.out _ hS0).mono ?_
    rintro e w2 ⟨g2, rfl, hg2, hr2, hb2⟩
    have hS1 := hS0.trans (hb2.mono hS0.size)
    try go_simp
    refine hK.out _ _ hS1 (fun hHeld => ?_)
    clear hK K
    refine wpAnyH_take (i := 8) (v := .slice (some ⟨g2, 0, none⟩) (x.hw y).length (x.hw y).length) rfl (by kernel_rfl) (by kernel_rfl) (by kernel_rfl) (fun _ _ _ h => h) (Or.inl ⟨by kernel_rfl, by (intro W hS; go_simp; first | done | with_reducible rfl | rfl)⟩) hS1 ?_
    (try simp only [Act.put, List.getElem_toArray, List.getElem_cons_zero, List.getElem_cons_succ, List.setIfInBounds_toArray, List.set_cons_zero, List.set_cons_succ])
    refine wpAnyH_done (by kernel_rfl) ?_ _
    go_wp2
    go_ret
    rw [HZ.out]
    exact ⟨g2, rfl, Nat.le_trans HB.out.size (Nat.le_trans (show w1.heap.size ≤ w1.drew.heap.size from Nat.le_refl _) hg2), hr2, HB.out.trans (hS1.mono HB.out.size)⟩
  have d1 : decide ((who : Int) ≤ x.workers) = false := dec_false h1
  have H1 := hide h1
  have v1 : IntKind.i64.wrap (x.workers + 1) = x.workers + 1 := wrapI _ (by omega) (by omega)
  have v2 : IntKind.i64.wrap (x.workers + 2) = x.workers + 2 := wrapI _ (by omega) (by omega)
  have u1 : wrap64 (x.workers + 1) = x.workers + 1 := by unfold wrap64; omega
  have u2 : wrap64 (x.workers + 2) = x.workers + 2 := by unfold wrap64; omega
  clear h1
  by_cases h2 : (who : Int) = x.workers + 1
  · have r2 : ((who : Int) == x.workers + 1) = true := beqt h2
    have HZ := hide (show x.ways who = [(x.closer == 0) && tb x.allDone] from by unfold CrewWorld.ways; rw [if_neg H0.out, if_neg H1.out, if_pos h2])
    have HC := hide (l51All_any x _ _ w1 HOW.out HFW.out)
    clear h2
    by_cases hc : x.closer = 0
    · have rc := beqt hc
      have HZ2 := hide (show (x.closer == 0 && tb x.allDone) = tb x.allDone from by rw [rc]; rfl)
      clear hc
      go_upto_region 6 with fail
      iterate 10 go_step
      refine wpl_move_load_row rfl _ _ rfl rfl (by kernel_rfl) 30 _ rfl w.heap.size rfl 30 ([.int .i64 x.jobs, .int .i64 x.workers, .int .i64 x.window, .int .i64 x.next, .int .i64 x.reader, .slice A1 x.queue.length c1, .slice A2 x.hands.length c2, .int .i64 x.closer, .slice A3 x.results.length c3, .int .i64 x.keeper, .slice A4 x.ring.length c4, .int .i64 x.due, .slice A5 x.out.length c5, .int .i64 x.user, .slice A6 x.got.length c6, .int .i64 x.room, .slice A7 x.shut.length c7, .int .i64 x.ops] : List Value).toArray (0, 0) _ HX.out Try.underlying30 rfl info_crew ?_
      go_step
      go_simp
      go_at_call 62
      refine HC.out.mono ?_
      rintro e w2 ⟨rfl, hb2⟩
      go_simp
      go_step
      go_wp2
      go_ret
      rw [HZ.out, HZ2.out]
      exact ⟨_, rfl, Nat.le_trans HB.out.size hb2.size, Row.new _ _ _, (HB.out.trans (hb2.mono HB.out.size)).alloc (Nat.le_trans HB.out.size hb2.size) _⟩
    · have rc := beqf hc
      have HZ2 := hide (show (x.closer == 0 && tb x.allDone) = false from by rw [rc]; rfl)
      clear hc
      go_wp2
      go_ret
      rw [HZ.out, HZ2.out]
      exact ⟨_, rfl, HB.out.size, Row.new _ _ _, HB.out.alloc HB.out.size _⟩
  have r2 : ((who : Int) == x.workers + 1) = false := beqf h2
  have H2 := hide h2
  clear h2
  by_cases h3 : (who : Int) = x.workers + 2
  · have r3 : ((who : Int) == x.workers + 2) = true := beqt h3
    have HZ := hide (show x.ways who = x.kw from by unfold CrewWorld.ways; rw [if_neg H0.out, if_neg H1.out, if_neg H2.out, if_pos h3])
    have HC := hide (l52Keeper_any x _ _ w1 HOW.out HFW.out HFM.out)
    clear h3
    go_wp2_with (first | (refine wpList_load_row rfl 30 _ rfl w.heap.size rfl 30 ([.int .i64 x.jobs, .int .i64 x.workers, .int .i64 x.window, .int .i64 x.next, .int .i64 x.reader, .slice A1 x.queue.length c1, .slice A2 x.hands.length c2, .int .i64 x.closer, .slice A3 x.results.length c3, .int .i64 x.keeper, .slice A4 x.ring.length c4, .int .i64 x.due, .slice A5 x.out.length c5, .int .i64 x.user, .slice A6 x.got.length c6, .int .i64 x.room, .slice A7 x.shut.length c7, .int .i64 x.ops] : List Value).toArray (0, 0) _ HX.out Try.underlying30 rfl info_crew ?_) | fail)
    refine HC.out.mono ?_
    rintro e w2 ⟨g, rfl, hg, hr, hb2⟩
    go_wp2
    go_ret
    rw [HZ.out]
    exact ⟨g, rfl, Nat.le_trans HB.out.size hg, hr, HB.out.trans (hb2.mono HB.out.size)⟩
  have r3 : ((who : Int) == x.workers + 2) = false := beqf h3
  have H3 := hide h3
  clear h3
  by_cases h4 : x.user = 1
  · have r4 := beqt h4
    have HZ := hide (show x.ways who = [] from by unfold CrewWorld.ways; rw [if_neg H0.out, if_neg H1.out, if_neg H2.out, if_neg H3.out, if_pos h4])
    clear h4
    go_wp2
    go_ret
    rw [HZ.out]
    exact ⟨_, rfl, HB.out.size, Row.new _ _ _, HB.out.alloc HB.out.size _⟩
  have r4 := beqf h4
  have HW := hide (show x.ways who = [decide (0 < x.out.length), decide (x.out.length = 0) && (x.sh 2 == 1)] from by unfold CrewWorld.ways; rw [if_neg H0.out, if_neg H1.out, if_neg H2.out, if_neg H3.out, if_neg h4])
  clear h4
  have h7 : x.shut.length = 4 := HFM.out.shut
  obtain ⟨g7, off7, rfl, hg7, c0', -⟩ := ints_at O7.out (show 0 < x.shut.length by omega)
  have hgl := l7 g7 hg7
  have next7 : ∀ i, i < 4 → w1.cell? ⟨g7, off7 + i, none⟩ = some (.int .i64 (x.sh i)) := fun i h4 => by
    have h : i < x.shut.length := by omega
    obtain ⟨g, off, e, -, hc, -⟩ := ints_at O7.out h
    injection e with e
    injection e with e1 e2 _
    subst e1 e2
    unfold CrewWorld.sh
    rw [List.getElem?_eq_getElem h]
    exact hc
  have q0 := next7 0 (by omega)
  have q1 := next7 1 (by omega)
  have q2 := next7 2 (by omega)
  have q3 := next7 3 (by omega)
  simp only [Nat.add_zero] at q0
  have hl0 : (0 : Int) < (x.shut.length : Int) := by omega
  have hse : ¬ (x.shut = []) := fun e => by rw [e] at hl0; simp at hl0
  have hl1 : (1 : Int) < (x.shut.length : Int) := by omega
  have hl2 : (2 : Int) < (x.shut.length : Int) := by omega
  have hl3 : (3 : Int) < (x.shut.length : Int) := by omega
  have HN7 := hide next7
  clear next7 c0' h7
  by_cases hz : x.out.length = 0
  · have HZ := hide (show x.ways who = [false, x.sh 2 == 1] from by rw [HW.out]; simp [hz])
    have z0 : decide ((0 : Int) < (x.out.length : Int)) = false := dec_false (by omega)
    have z1 : decide (0 < x.out.length) = false := dec_false (by omega)
    have z2 : ((x.out.length : Int) == 0) = true := beqt (by omega)
    have z3 : decide (x.out.length = 0) = true := dec_true hz
    clear hz HW
    go_wp2_with fail
    refine wp_region_held_drew (S := fun W => Below w1.heap.size w1 W) (by kernel_rfl) (below_drewN (Below.refl _ _) 1) (fun hS0 => ?_)
    refine wpAnyH_take (i := 0) (v := .pointer (some ⟨w.heap.size, 12, none⟩)) rfl (by kernel_rfl) (by kernel_rfl) (by kernel_rfl) (fun _ _ _ h => h) (Or.inl ⟨by kernel_rfl, by (intro W hS; go_simp; first | done | with_reducible rfl | rfl)⟩) hS0 ?_
    (try simp only [Act.put, List.getElem_toArray, List.getElem_cons_zero, List.getElem_cons_succ, List.setIfInBounds_toArray, List.set_cons_zero, List.set_cons_succ])
    refine wpAnyH_take (i := 1) (v := .slice A5 x.out.length c5) rfl (by kernel_rfl) (by kernel_rfl) (by kernel_rfl) (fun _ _ _ h => h) (Or.inl ⟨by kernel_rfl, by (intro W hS; have y := (HX.out.below hS HX.out.lt).cell 12; have yl := (HX.out.below hS HX.out.lt).lt; go_simp; first | done | with_reducible rfl | rfl)⟩) hS0 ?_
    (try simp only [Act.put, List.getElem_toArray, List.getElem_cons_zero, List.getElem_cons_succ, List.setIfInBounds_toArray, List.set_cons_zero, List.set_cons_succ])
    refine wpAnyH_take (i := 2) (v := .int .i64 (x.out.length : Int)) rfl (by kernel_rfl) (by kernel_rfl) (by kernel_rfl) (fun _ _ _ h => h) (Or.inl ⟨by kernel_rfl, by (intro W hS; go_simp; first | done | with_reducible rfl | rfl)⟩) hS0 ?_
    (try simp only [Act.put, List.getElem_toArray, List.getElem_cons_zero, List.getElem_cons_succ, List.setIfInBounds_toArray, List.set_cons_zero, List.set_cons_succ])
    refine wpAnyH_take (i := 3) (v := .bool false) rfl (by kernel_rfl) (by kernel_rfl) (by kernel_rfl) (fun _ _ _ h => h) (Or.inl ⟨by kernel_rfl, by (intro W hS; go_simp; first | done | with_reducible rfl | rfl)⟩) hS0 ?_
    (try simp only [Act.put, List.getElem_toArray, List.getElem_cons_zero, List.getElem_cons_succ, List.setIfInBounds_toArray, List.set_cons_zero, List.set_cons_succ])
    refine wpAnyH_take (i := 4) (v := .pointer (some ⟨w.heap.size, 12, none⟩)) rfl (by kernel_rfl) (by kernel_rfl) (by kernel_rfl) (fun _ _ _ h => h) (Or.inl ⟨by kernel_rfl, by (intro W hS; go_simp; first | done | with_reducible rfl | rfl)⟩) hS0 ?_
    (try simp only [Act.put, List.getElem_toArray, List.getElem_cons_zero, List.getElem_cons_succ, List.setIfInBounds_toArray, List.set_cons_zero, List.set_cons_succ])
    refine wpAnyH_take (i := 5) (v := .slice A5 x.out.length c5) rfl (by kernel_rfl) (by kernel_rfl) (by kernel_rfl) (fun _ _ _ h => h) (Or.inl ⟨by kernel_rfl, by (intro W hS; have y := (HX.out.below hS HX.out.lt).cell 12; have yl := (HX.out.below hS HX.out.lt).lt; go_simp; first | done | with_reducible rfl | rfl)⟩) hS0 ?_
    (try simp only [Act.put, List.getElem_toArray, List.getElem_cons_zero, List.getElem_cons_succ, List.setIfInBounds_toArray, List.set_cons_zero, List.set_cons_succ])
    refine wpAnyH_take (i := 6) (v := .int .i64 (x.out.length : Int)) rfl (by kernel_rfl) (by kernel_rfl) (by kernel_rfl) (fun _ _ _ h => h) (Or.inl ⟨by kernel_rfl, by (intro W hS; go_simp; first | done | with_reducible rfl | rfl)⟩) hS0 ?_
    (try simp only [Act.put, List.getElem_toArray, List.getElem_cons_zero, List.getElem_cons_succ, List.setIfInBounds_toArray, List.set_cons_zero, List.set_cons_succ])
    refine wpAnyH_take (i := 7) (v := .bool true) rfl (by kernel_rfl) (by kernel_rfl) (by kernel_rfl) (fun _ _ _ h => h) (Or.inl ⟨by kernel_rfl, by (intro W hS; go_simp; first | done | with_reducible rfl | rfl)⟩) hS0 ?_
    (try simp only [Act.put, List.getElem_toArray, List.getElem_cons_zero, List.getElem_cons_succ, List.setIfInBounds_toArray, List.set_cons_zero, List.set_cons_succ])
    refine wpAnyH_take (i := 8) (v := .bool true) rfl (by kernel_rfl) (by kernel_rfl) (by kernel_rfl) (fun _ _ _ h => h) (Or.inl ⟨by kernel_rfl, by (intro W hS; go_simp; first | done | with_reducible rfl | rfl)⟩) hS0 ?_
    (try simp only [Act.put, List.getElem_toArray, List.getElem_cons_zero, List.getElem_cons_succ, List.setIfInBounds_toArray, List.set_cons_zero, List.set_cons_succ])
    refine wpAnyH_take (i := 9) (v := .pointer (some ⟨w.heap.size, 16, none⟩)) rfl (by kernel_rfl) (by kernel_rfl) (by kernel_rfl) (fun _ _ _ h => h) (Or.inl ⟨by kernel_rfl, by (intro W hS; go_simp; first | done | with_reducible rfl | rfl)⟩) hS0 ?_
    (try simp only [Act.put, List.getElem_toArray, List.getElem_cons_zero, List.getElem_cons_succ, List.setIfInBounds_toArray, List.set_cons_zero, List.set_cons_succ])
    refine wpAnyH_take (i := 10) (v := .slice (some ⟨g7, off7, none⟩) x.shut.length c7) rfl (by kernel_rfl) (by kernel_rfl) (by kernel_rfl) (fun _ _ _ h => h) (Or.inl ⟨by kernel_rfl, by (intro W hS; have y := (HX.out.below hS HX.out.lt).cell 16; have yl := (HX.out.below hS HX.out.lt).lt; go_simp; first | done | with_reducible rfl | rfl)⟩) hS0 ?_
    (try simp only [Act.put, List.getElem_toArray, List.getElem_cons_zero, List.getElem_cons_succ, List.setIfInBounds_toArray, List.set_cons_zero, List.set_cons_succ])
    refine wpAnyH_take (i := 11) (v := .pointer (some ⟨g7, off7 + 2, none⟩)) rfl (by kernel_rfl) (by kernel_rfl) (by kernel_rfl) (fun _ _ _ h => h) (Or.inl ⟨by kernel_rfl, by (intro W hS; go_simp; first | done | with_reducible rfl | rfl)⟩) hS0 ?_
    (try simp only [Act.put, List.getElem_toArray, List.getElem_cons_zero, List.getElem_cons_succ, List.setIfInBounds_toArray, List.set_cons_zero, List.set_cons_succ])
    refine wpAnyH_take (i := 12) (v := .int .i64 (x.sh 2)) rfl (by kernel_rfl) (by kernel_rfl) (by kernel_rfl) (fun _ _ _ h => h) (Or.inl ⟨by kernel_rfl, by (intro W hS; have y := (hS.cell (p := ⟨g7, off7 + 2, none⟩) hgl).trans q2; have yl := Nat.lt_of_lt_of_le hgl hS.size; go_simp; first | done | with_reducible rfl | rfl)⟩) hS0 ?_
    (try simp only [Act.put, List.getElem_toArray, List.getElem_cons_zero, List.getElem_cons_succ, List.setIfInBounds_toArray, List.set_cons_zero, List.set_cons_succ])
    refine wpAnyH_take (i := 13) (v := .bool (x.sh 2 == 1)) rfl (by kernel_rfl) (by kernel_rfl) (by kernel_rfl) (fun _ _ _ h => h) (Or.inl ⟨by kernel_rfl, by (intro W hS; go_simp; first | done | with_reducible rfl | rfl)⟩) hS0 ?_
    (try simp only [Act.put, List.getElem_toArray, List.getElem_cons_zero, List.getElem_cons_succ, List.setIfInBounds_toArray, List.set_cons_zero, List.set_cons_succ])
    refine wpAnyH_take (i := 14) (v := .bool (x.sh 2 == 1)) rfl (by kernel_rfl) (by kernel_rfl) (by kernel_rfl) (fun _ _ _ h => h) (Or.inl ⟨by kernel_rfl, by (intro W hS; go_simp; first | done | with_reducible rfl | rfl)⟩) hS0 ?_
    (try simp only [Act.put, List.getElem_toArray, List.getElem_cons_zero, List.getElem_cons_succ, List.setIfInBounds_toArray, List.set_cons_zero, List.set_cons_succ])
    refine wpAnyH_ready (rs := [15]) (by kernel_rfl) (by simp) ?_
    refine AllReadyH.cons rfl (fun K hK => ?_) AllReadyH.nil
    go_simp
    refine hK.out _ _ (hS0.alloc hS0.size _) (fun hS1 => ?_)
    clear hK K
    refine wpAnyH_take (i := 16) (v := .slice (some ⟨w1.heap.size, 0, none⟩) 2 2) rfl (by kernel_rfl) (by kernel_rfl) (by kernel_rfl) (fun _ _ _ h => h) (Or.inl ⟨by kernel_rfl, by (intro W hS; go_simp; first | done | with_reducible rfl | rfl)⟩) hS1 ?_
    (try simp only [Act.put, List.getElem_toArray, List.getElem_cons_zero, List.getElem_cons_succ, List.setIfInBounds_toArray, List.set_cons_zero, List.set_cons_succ])
    refine wpAnyH_done (by kernel_rfl) ?_ _
    go_wp2
    go_ret
    rw [HZ.out]
    exact ⟨_, rfl, HB.out.size, Row.new _ _ _, HB.out.trans (hS1.mono HB.out.size)⟩
  have HZ := hide (show x.ways who = [true, false] from by rw [HW.out]; simp [hz, Nat.pos_of_ne_zero hz])
  have z0 : decide ((0 : Int) < (x.out.length : Int)) = true := dec_true (by omega)
  have z1 : decide (0 < x.out.length) = true := dec_true (by omega)
  have z2 : ((x.out.length : Int) == 0) = false := beqf (by omega)
  have z3 : decide (x.out.length = 0) = false := dec_false hz
  clear hz HW
  go_wp2_with fail
  refine wp_region_held_drew (S := fun W => Below w1.heap.size w1 W) (by kernel_rfl) (below_drewN (Below.refl _ _) 1) (fun hS0 => ?_)
  refine wpAnyH_take (i := 0) (v := .pointer (some ⟨w.heap.size, 12, none⟩)) rfl (by kernel_rfl) (by kernel_rfl) (by kernel_rfl) (fun _ _ _ h => h) (Or.inl ⟨by kernel_rfl, by (intro W hS; go_simp; first | done | with_reducible rfl | rfl)⟩) hS0 ?_
  (try simp only [Act.put, List.getElem_toArray, List.getElem_cons_zero, List.getElem_cons_succ, List.setIfInBounds_toArray, List.set_cons_zero, List.set_cons_succ])
  refine wpAnyH_take (i := 1) (v := .slice A5 x.out.length c5) rfl (by kernel_rfl) (by kernel_rfl) (by kernel_rfl) (fun _ _ _ h => h) (Or.inl ⟨by kernel_rfl, by (intro W hS; have y := (HX.out.below hS HX.out.lt).cell 12; have yl := (HX.out.below hS HX.out.lt).lt; go_simp; first | done | with_reducible rfl | rfl)⟩) hS0 ?_
  (try simp only [Act.put, List.getElem_toArray, List.getElem_cons_zero, List.getElem_cons_succ, List.setIfInBounds_toArray, List.set_cons_zero, List.set_cons_succ])
  refine wpAnyH_take (i := 2) (v := .int .i64 (x.out.length : Int)) rfl (by kernel_rfl) (by kernel_rfl) (by kernel_rfl) (fun _ _ _ h => h) (Or.inl ⟨by kernel_rfl, by (intro W hS; go_simp; first | done | with_reducible rfl | rfl)⟩) hS0 ?_
  (try simp only [Act.put, List.getElem_toArray, List.getElem_cons_zero, List.getElem_cons_succ, List.setIfInBounds_toArray, List.set_cons_zero, List.set_cons_succ])
  refine wpAnyH_take (i := 3) (v := .bool true) rfl (by kernel_rfl) (by kernel_rfl) (by kernel_rfl) (fun _ _ _ h => h) (Or.inl ⟨by kernel_rfl, by (intro W hS; go_simp; first | done | with_reducible rfl | rfl)⟩) hS0 ?_
  (try simp only [Act.put, List.getElem_toArray, List.getElem_cons_zero, List.getElem_cons_succ, List.setIfInBounds_toArray, List.set_cons_zero, List.set_cons_succ])
  refine wpAnyH_take (i := 4) (v := .pointer (some ⟨w.heap.size, 12, none⟩)) rfl (by kernel_rfl) (by kernel_rfl) (by kernel_rfl) (fun _ _ _ h => h) (Or.inl ⟨by kernel_rfl, by (intro W hS; go_simp; first | done | with_reducible rfl | rfl)⟩) hS0 ?_
  (try simp only [Act.put, List.getElem_toArray, List.getElem_cons_zero, List.getElem_cons_succ, List.setIfInBounds_toArray, List.set_cons_zero, List.set_cons_succ])
  refine wpAnyH_take (i := 5) (v := .slice A5 x.out.length c5) rfl (by kernel_rfl) (by kernel_rfl) (by kernel_rfl) (fun _ _ _ h => h) (Or.inl ⟨by kernel_rfl, by (intro W hS; have y := (HX.out.below hS HX.out.lt).cell 12; have yl := (HX.out.below hS HX.out.lt).lt; go_simp; first | done | with_reducible rfl | rfl)⟩) hS0 ?_
  (try simp only [Act.put, List.getElem_toArray, List.getElem_cons_zero, List.getElem_cons_succ, List.setIfInBounds_toArray, List.set_cons_zero, List.set_cons_succ])
  refine wpAnyH_take (i := 6) (v := .int .i64 (x.out.length : Int)) rfl (by kernel_rfl) (by kernel_rfl) (by kernel_rfl) (fun _ _ _ h => h) (Or.inl ⟨by kernel_rfl, by (intro W hS; go_simp; first | done | with_reducible rfl | rfl)⟩) hS0 ?_
  (try simp only [Act.put, List.getElem_toArray, List.getElem_cons_zero, List.getElem_cons_succ, List.setIfInBounds_toArray, List.set_cons_zero, List.set_cons_succ])
  refine wpAnyH_take (i := 7) (v := .bool false) rfl (by kernel_rfl) (by kernel_rfl) (by kernel_rfl) (fun _ _ _ h => h) (Or.inl ⟨by kernel_rfl, by (intro W hS; go_simp; first | done | with_reducible rfl | rfl)⟩) hS0 ?_
  (try simp only [Act.put, List.getElem_toArray, List.getElem_cons_zero, List.getElem_cons_succ, List.setIfInBounds_toArray, List.set_cons_zero, List.set_cons_succ])
  refine wpAnyH_take (i := 8) (v := .bool false) rfl (by kernel_rfl) (by kernel_rfl) (by kernel_rfl) (fun _ _ _ h => h) (Or.inl ⟨by kernel_rfl, by (intro W hS; go_simp; first | done | with_reducible rfl | rfl)⟩) hS0 ?_
  (try simp only [Act.put, List.getElem_toArray, List.getElem_cons_zero, List.getElem_cons_succ, List.setIfInBounds_toArray, List.set_cons_zero, List.set_cons_succ])
  refine wpAnyH_take (i := 9) (v := undef) rfl (by kernel_rfl) (by kernel_rfl) (by kernel_rfl) (fun _ _ _ h => h) (Or.inr ⟨by kernel_rfl, rfl⟩) hS0 ?_
  (try simp only [Act.put, List.getElem_toArray, List.getElem_cons_zero, List.getElem_cons_succ, List.setIfInBounds_toArray, List.set_cons_zero, List.set_cons_succ])
  refine wpAnyH_take (i := 10) (v := undef) rfl (by kernel_rfl) (by kernel_rfl) (by kernel_rfl) (fun _ _ _ h => h) (Or.inr ⟨by kernel_rfl, rfl⟩) hS0 ?_
  (try simp only [Act.put, List.getElem_toArray, List.getElem_cons_zero, List.getElem_cons_succ, List.setIfInBounds_toArray, List.set_cons_zero, List.set_cons_succ])
  refine wpAnyH_take (i := 11) (v := undef) rfl (by kernel_rfl) (by kernel_rfl) (by kernel_rfl) (fun _ _ _ h => h) (Or.inr ⟨by kernel_rfl, rfl⟩) hS0 ?_
  (try simp only [Act.put, List.getElem_toArray, List.getElem_cons_zero, List.getElem_cons_succ, List.setIfInBounds_toArray, List.set_cons_zero, List.set_cons_succ])
  refine wpAnyH_take (i := 12) (v := undef) rfl (by kernel_rfl) (by kernel_rfl) (by kernel_rfl) (fun _ _ _ h => h) (Or.inr ⟨by kernel_rfl, rfl⟩) hS0 ?_
  (try simp only [Act.put, List.getElem_toArray, List.getElem_cons_zero, List.getElem_cons_succ, List.setIfInBounds_toArray, List.set_cons_zero, List.set_cons_succ])
  refine wpAnyH_take (i := 13) (v := undef) rfl (by kernel_rfl) (by kernel_rfl) (by kernel_rfl) (fun _ _ _ h => h) (Or.inr ⟨by kernel_rfl, rfl⟩) hS0 ?_
  (try simp only [Act.put, List.getElem_toArray, List.getElem_cons_zero, List.getElem_cons_succ, List.setIfInBounds_toArray, List.set_cons_zero, List.set_cons_succ])
  refine wpAnyH_take (i := 14) (v := .bool false) rfl (by kernel_rfl) (by kernel_rfl) (by kernel_rfl) (fun _ _ _ h => h) (Or.inl ⟨by kernel_rfl, by (intro W hS; go_simp; first | done | with_reducible rfl | rfl)⟩) hS0 ?_
  (try simp only [Act.put, List.getElem_toArray, List.getElem_cons_zero, List.getElem_cons_succ, List.setIfInBounds_toArray, List.set_cons_zero, List.set_cons_succ])
  refine wpAnyH_ready (rs := [15]) (by kernel_rfl) (by simp) ?_
  refine AllReadyH.cons rfl (fun K hK => ?_) AllReadyH.nil
  go_simp
  refine hK.out _ _ (hS0.alloc hS0.size _) (fun hS1 => ?_)
  clear hK K
  refine wpAnyH_take (i := 16) (v := .slice (some ⟨w1.heap.size, 0, none⟩) 2 2) rfl (by kernel_rfl) (by kernel_rfl) (by kernel_rfl) (fun _ _ _ h => h) (Or.inl ⟨by kernel_rfl, by (intro W hS; go_simp; first | done | with_reducible rfl | rfl)⟩) hS1 ?_
  (try simp only [Act.put, List.getElem_toArray, List.getElem_cons_zero, List.getElem_cons_succ, List.setIfInBounds_toArray, List.set_cons_zero, List.set_cons_succ])
  refine wpAnyH_done (by kernel_rfl) ?_ _
  go_wp2
  go_ret
  rw [HZ.out]
  exact ⟨_, rfl, HB.out.size, Row.new _ _ _, HB.out.trans (hS1.mono HB.out.size)⟩
end Go.Proofs.Ytpkjjfnfolbcoaa
set_option linter.unusedVariables false
set_option linter.unusedSimpArgs false
namespace Go.Proofs.Ytpkjjfnfolbcoaa
open Go.ChangeShapes Go.WideShapes Go.ChangeAt Go.RowKit

structure CrewMove where
  who : Int
  case_ : Int
def CrewMove.cells (x : CrewMove) : List D := [.v (.int .i64 x.who), .v (.int .i64 x.case_)]
theorem CrewMove.cells_eq (x : CrewMove) : x.cells = [.v (.int .i64 x.who), .v (.int .i64 x.case_)] := rfl
theorem CrewMove.cells_len (x : CrewMove) : x.cells.length = 2 := by rw [CrewMove.cells_eq]; rfl
def CrewMove.bulkL (l : List CrewMove) : Nat := l.length
theorem CrewMove.cells_snoc (l : List CrewMove) (k : Nat) (h : k < l.length) : (l.take (k + 1)).flatMap CrewMove.cells = (l.take k).flatMap CrewMove.cells ++ l[k].cells := by
  rw [List.take_succ_eq_append_getElem h, List.flatMap_append]
  simp
theorem OwC.oCrewMove {w : World} {x : CrewMove} {us : List Value} {fp : List Nat} (h : OwC w x.cells us fp) :
    us = [.int .i64 x.who, .int .i64 x.case_] ∧ (Lit.int .i64 x.who).wf = true ∧ (Lit.int .i64 x.case_).wf = true ∧ fp = [] := by
  rw [CrewMove.cells_eq] at h
  match us, OwC.length _ h with
  | [u0, u1], _ =>
    simp only [OwC] at h
    obtain ⟨g0, _, h0, ⟨g1, _, h1, rfl, rfl⟩, rfl⟩ := h
    simp only [Ow, okAtom] at h0
    obtain ⟨rfl, w0, rfl⟩ := h0
    simp only [Ow, okAtom] at h1
    obtain ⟨rfl, w1, rfl⟩ := h1
    exact ⟨rfl, w0, w1, by simp⟩
theorem OwC.mCrewMove {w : World} {x : CrewMove} (w0 : (Lit.int .i64 x.who).wf = true) (w1 : (Lit.int .i64 x.case_).wf = true) :
    OwC w x.cells [.int .i64 x.who, .int .i64 x.case_] ([]) := by
  have h : OwC w x.cells [.int .i64 x.who, .int .i64 x.case_] ([] ++ ([] ++ ([]))) := by
    rw [CrewMove.cells_eq]
    exact ⟨_, _, ⟨rfl, w0, rfl⟩, ⟨_, _, ⟨rfl, w1, rfl⟩, rfl, rfl⟩, rfl⟩
  simpa using h
end Go.Proofs.Ytpkjjfnfolbcoaa
set_option linter.unusedVariables false
set_option linter.unusedSimpArgs false
namespace Go.Proofs.Ytpkjjfnfolbcoaa
open Go.ChangeShapes Go.WideShapes Go.ChangeAt Go.RowKit

def movesBy (who : Nat) : Nat → List Bool → List CrewMove
  | _, [] => []
  | i, b :: l => (if b = true then [⟨(who : Int), (i : Int)⟩] else []) ++ movesBy who (i + 1) l
theorem movesBy_snoc (who : Nat) : ∀ (l : List Bool) (i j : Nat) (h : j < l.length), movesBy who i (l.take (j + 1)) = movesBy who i (l.take j) ++ (if l[j] = true then [⟨(who : Int), ((i + j : Nat) : Int)⟩] else [])
  | [], _, _, h => absurd h (Nat.not_lt_zero _)
  | b :: l, i, 0, _ => by simp [movesBy]
  | b :: l, i, j + 1, h => by
    have ih := movesBy_snoc who l (i + 1) j (by simpa using h)
    rw [List.take_succ_cons, List.take_succ_cons]
    unfold movesBy
    rw [ih, List.append_assoc]
    have e : i + 1 + j = i + (j + 1) := by omega
    rw [e]
    rfl
theorem movesBy_len (who : Nat) : ∀ (l : List Bool) (i : Nat), (movesBy who i l).length ≤ l.length
  | [], _ => Nat.le_refl _
  | b :: l, i => by
    have ih := movesBy_len who l (i + 1)
    unfold movesBy
    rw [List.length_append, List.length_cons]
    have : (if b = true then [(⟨(who : Int), (i : Int)⟩ : CrewMove)] else []).length ≤ 1 := by split <;> simp
    omega
noncomputable def CrewWorld.movesTo (x : CrewWorld) (n : Nat) : List CrewMove := (List.range n).flatMap fun who => movesBy who 0 (x.ways who)
noncomputable def CrewWorld.moves (x : CrewWorld) : List CrewMove := x.movesTo (x.workers.toNat + 4)
noncomputable def CrewWorld.movesOf (x : CrewWorld) : List CrewMove := if tb x.ok = true then x.moves else []
theorem movesTo_succ (x : CrewWorld) (n : Nat) : x.movesTo (n + 1) = x.movesTo n ++ movesBy n 0 (x.ways n) := by
  unfold CrewWorld.movesTo
  rw [List.range_succ, List.flatMap_append, List.flatMap_singleton]
theorem movesTo_len (x : CrewWorld) : ∀ n, (x.movesTo n).length ≤ 3 * n
  | 0 => by simp [CrewWorld.movesTo]
  | n + 1 => by
    have ih := movesTo_len x n
    have h1 := movesBy_len n (x.ways n) 0
    have h2 := ways_len x n
    rw [movesTo_succ, List.length_append]
    omega
/-- a slice of moves of the call's own -/
structure Pm (B : Nat) (W0 W : World) (v : Value) (l : List CrewMove) (us : List Value) : Prop where
  own : OwS W B 97 2 CrewMove.cells v l us []
  fr : Below B W0 W
  sz : B ≤ W.heap.size
theorem Pm.alloc {B : Nat} {W0 W : World} {v : Value} {l : List CrewMove} {us : List Value} (h : Pm B W0 W v l us) (o : Obj) : Pm B W0 (W.alloc o) v l us :=
  ⟨h.own.alloc o, h.fr.alloc h.sz o, by rw [World.size_alloc]; exact Nat.le_succ_of_le h.sz⟩
theorem Pm.below {B : Nat} {W0 W W' : World} {v : Value} {l : List CrewMove} {us : List Value} (h : Pm B W0 W v l us) (hb : Below W.heap.size W W') : Pm B W0 W' v l us :=
  ⟨h.own.below (C := 0) hb, h.fr.trans (hb.mono h.sz), Nat.le_trans h.sz hb.size⟩
theorem Pm.put {B : Nat} {W0 W W' : World} {v v' : Value} {l l' : List CrewMove} {us us' : List Value} (h : Pm B W0 W v l us) (hg : GB W W' v v') (hn : OwS W' B 97 2 CrewMove.cells v' l' us' []) : Pm B W0 W' v' l' us' :=
  ⟨hn, h.fr.trans (hg.toBelow h.sz (fun g e => h.own.from e)), Nat.le_trans h.sz hg.grown.size⟩
theorem Pm.same {B : Nat} {W0 W : World} {v : Value} {l l' : List CrewMove} {us : List Value} (h : Pm B W0 W v l us) (e : l = l') : Pm B W0 W v l' us := e ▸ h
theorem Pm.empty (w : World) : Pm w.heap.size w (w.alloc (.cells #[] 97)) (.slice (some ⟨w.heap.size, 0, none⟩) 0 0) [] [] :=
  ⟨⟨World.ownsRow_made w #[] 0 (Nat.le_refl _) (by unfold maxLen; omega) (by simp), by simp [OwC], New.nil _ _, fun g h => by simp⟩, (Below.refl _ _).alloc (Nat.le_refl _) _, by simp⟩
theorem GB.ne7 {w w' : World} {v v' : Value} {g : Nat} (h : GB w w' v v') (hv : v.ownBlock ≠ some g) (hg : g < w.heap.size) : v'.ownBlock ≠ some g := fun e => by
  rcases h.at' with h1 | ⟨k, h1, h2⟩
  · exact hv (h1.symm.trans e)
  · rw [h1] at e
    injection e with e
    omega
theorem move_src (a b : Int) (ha : (Lit.int .i64 a).wf = true) (hb : (Lit.int .i64 b).wf = true) (W : World) : OwC W ([(⟨a, b⟩ : CrewMove)].flatMap CrewMove.cells) [.int .i64 a, .int .i64 b] [] := ⟨[], [], ⟨rfl, ha, rfl⟩, ⟨[], [], ⟨rfl, hb, rfl⟩, rfl, rfl⟩, rfl⟩
theorem info_move : (Try.prog.info? 97).map (fun i => (i.zero, i.size, i.bytes)) = some (some (.agg #[.int .i64 0, .int .i64 0]), 2, 16) := by kernel_rfl
def MovesOut (l : List CrewMove) (w : World) (e : Ending) (w' : World) : Prop := ∃ v fq, e = .returned v ∧ Ow w' (.s 2 l.length (l.flatMap CrewMove.cells)) v fq ∧ New w' fq w.heap.size ∧ Below w.heap.size w w'
theorem Pm.out {B : Nat} {w W0 W : World} {v : Value} {l : List CrewMove} {us : List Value} (h : Pm B W0 W v l us) (h0 : Below w.heap.size w W0) (hB : w.heap.size ≤ B) : MovesOut l w (.returned v) W := by
  obtain ⟨fp, ho, hn, _⟩ := h.own.toOw'
  exact ⟨v, fp, rfl, ho, hn.mono hB, h0.trans (h.fr.mono hB)⟩
end Go.Proofs.Ytpkjjfnfolbcoaa
set_option linter.unusedVariables false
set_option linter.unusedSimpArgs false
namespace Go.Proofs.Ytpkjjfnfolbcoaa
open Go.ChangeShapes Go.WideShapes Go.ChangeAt Go.RowKit

set_option maxRecDepth 100000 in
set_option maxHeartbeats 4000000 in
theorem specCrewMoves_any (x : CrewWorld) (us : List Value) (fp : List Nat) (w : World) (ho : OwC w x.cells us fp) (hf : Lt fp w.heap.size) (hgl : x.got.length ≤ 1048576) : Calls Try.prog 37 #[.agg us.toArray] w (MovesOut x.movesOf w) := by
  have HO := hide ho
  have HF := hide hf
  obtain ⟨A1, c1, A2, c2, A3, c3, A4, c4, A5, c5, A6, c6, A7, c7, f1, f2, f3, f4, f5, f6, f7, rfl, wjobs, wworkers, wwindow, wnext, wreader, o1, o2, wcloser, o3, wkeeper, o4, wdue, o5, wuser, o6, wroom, o7, wops, rfl⟩ := ho.oCrewWorld
  clear ho
  go_enter Try.func37, Try.ntmps37
  go_upto_region 1 with fail
  generalize hw1 : w.alloc _ = w1
  have hb0 : Below w.heap.size w w1 := by rw [← hw1]; exact (Below.refl _ _).alloc (Nat.le_refl _) _
  have HX := hide (show Row w1 w.heap.size 30 [.int .i64 x.jobs, .int .i64 x.workers, .int .i64 x.window, .int .i64 x.next, .int .i64 x.reader, .slice A1 x.queue.length c1, .slice A2 x.hands.length c2, .int .i64 x.closer, .slice A3 x.results.length c3, .int .i64 x.keeper, .slice A4 x.ring.length c4, .int .i64 x.due, .slice A5 x.out.length c5, .int .i64 x.user, .slice A6 x.got.length c6, .int .i64 x.room, .slice A7 x.shut.length c7, .int .i64 x.ops] from by rw [← hw1]; exact Row.new w _ _)
  have HB := hide hb0
  have HOW := hide (HO.out.below hb0 hf)
  have HFW := hide (hf.up hb0)
  clear hw1 hb0 HO o1 o2 o3 o4 o5 o6 o7
  have x1 := HX.out.cell 1
  have xl := HX.out.lt
  clear x1
  have HP0 := hide (Pm.empty w1)
  have hb1 : Below w1.heap.size w1 (w1.alloc (.cells #[] 97)) := (Below.refl _ _).alloc (Nat.le_refl _) _
  have HC := hide (specCrewOk_any x _ _ (w1.alloc (.cells #[] 97)) (HOW.out.below hb1 HFW.out) (HFW.out.up hb1) hgl)
  have HX1 := hide (HX.out.below hb1 HX.out.lt)
  have xl1 := HX1.out.lt
  obtain ⟨ia, hia, ja0, ja1, ja2⟩ := info_parts info_move
  have HIa := hide hia
  clear hia
  go_wp2_with (first | (refine wpList_load_row rfl 30 _ rfl w.heap.size rfl 30 ([.int .i64 x.jobs, .int .i64 x.workers, .int .i64 x.window, .int .i64 x.next, .int .i64 x.reader, .slice A1 x.queue.length c1, .slice A2 x.hands.length c2, .int .i64 x.closer, .slice A3 x.results.length c3, .int .i64 x.keeper, .slice A4 x.ring.length c4, .int .i64 x.due, .slice A5 x.out.length c5, .int .i64 x.user, .slice A6 x.got.length c6, .int .i64 x.room, .slice A7 x.shut.length c7, .int .i64 x.ops] : List Value).toArray (0, 0) _ HX1.out Try.underlying30 rfl info_crew ?_) | fail)
  refine HC.out.mono ?_
  rintro e w2 ⟨rfl, hb2⟩
  have hbs : Below (w1.alloc (.cells #[] 97)).heap.size (w1.alloc (.cells #[] 97)) w2 := hb2
  have HP2 := hide (HP0.out.below hbs)
  clear HP0 hb1 HC HX1 hbs hb2 xl1 xl
  by_cases hok : x.ok
  rotate_left
  · rw [tb_false hok]
    have HZ := hide (show x.movesOf = [] from by unfold CrewWorld.movesOf; rw [if_neg (by rw [tb_false hok]; simp)])
    clear hok
    go_wp2
    go_ret
    rw [HZ.out]
    exact HP2.out.out HB.out HB.out.size
  rw [tb_true hok]
  have HZ := hide (show x.movesOf = x.movesTo (x.workers.toNat + 4) from by unfold CrewWorld.movesOf; rw [if_pos (tb_true hok)]; rfl)
  have HFM := hide hok.form
  have hww := hok.form.start.2.1
  clear hok
  have v3 : IntKind.i64.wrap (x.workers + 3) = x.workers + 3 := wrapI _ (by omega) (by omega)
  have u3 : wrap64 (x.workers + 3) = x.workers + 3 := by unfold wrap64; omega
  have hwn : (x.workers.toNat : Int) = x.workers := by omega
  have HWN := hide hwn
  clear hwn
  go_wp2_with fail
  go_loopw [3, 4] (fun s i wr => ∃ (n : Nat) (E : Option Addr) (en ec : Nat) (ue : List Value), i = .int .i64 n ∧ n ≤ x.workers.toNat + 4 ∧ s = .slice E en ec ∧ Pm w1.heap.size w1 wr (.slice E en ec) (x.movesTo n) ue) (fun _ i _ => x.workers.toNat + 4 - (intOf i).toNat)
  case atStart => exact ⟨0, _, _, _, _, rfl, Nat.zero_le _, rfl, HP2.out.same (by simp [CrewWorld.movesTo])⟩
  case round =>
    obtain ⟨n, E, en, ec, ue, rfl, hn, rfl, hp⟩ := hrel
    have HPR := hide hp
    have HXR := hide (HX.out.below hp.fr HX.out.lt)
    have hml := movesTo_len x n
    clear hp
    have x1 := HXR.out.cell 1
    have xl := HXR.out.lt
    by_cases hlt : n < x.workers.toNat + 4
    · have hle : (n : Int) ≤ x.workers + 3 := by have := HWN.out; omega
      have d1 : decide ((n : Int) ≤ x.workers + 3) = true := dec_true hle
      have hnb : (Lit.int .i64 (n : Int)).wf = true := WalkArith.wf_i64 (by omega)
      have HC := hide (l52Ways_any x _ _ wr (HOW.out.below HPR.out.fr HFW.out) (HFW.out.up HPR.out.fr) HFM.out n hle)
      have hle9 : n ≤ 12 := by have := HWN.out; omega
      go_wp2_with (first | (refine wpList_load_row rfl 30 _ rfl w.heap.size rfl 30 ([.int .i64 x.jobs, .int .i64 x.workers, .int .i64 x.window, .int .i64 x.next, .int .i64 x.reader, .slice A1 x.queue.length c1, .slice A2 x.hands.length c2, .int .i64 x.closer, .slice A3 x.results.length c3, .int .i64 x.keeper, .slice A4 x.ring.length c4, .int .i64 x.due, .slice A5 x.out.length c5, .int .i64 x.user, .slice A6 x.got.length c6, .int .i64 x.room, .slice A7 x.shut.length c7, .int .i64 x.ops] : List Value).toArray (0, 0) _ HXR.out Try.underlying30 rfl info_crew ?_) | fail)
      refine HC.out.mono ?_
      rintro e w4 ⟨g, rfl, hg, hr, hb4⟩
      have HPW := hide (HPR.out.below hb4)
      have HRW := hide hr
      have hne0 : (Value.slice E en ec).ownBlock ≠ some g := fun e => by have := HPR.out.own.lt g e; omega
      have hwl := ways_len x n
      obtain ⟨l, hl⟩ : ∃ l, l = x.ways n := ⟨_, rfl⟩
      have HL := hide hl
      rw [← hl] at HRW hwl ⊢
      clear hl hr hb4 HC HPR x1 xl HXR hg
      go_wp2_with fail
      go_loopw [3, 6] (fun s i wz => ∃ (j : Nat) (E : Option Addr) (en ec : Nat) (ue : List Value), i = .int .i64 j ∧ j ≤ l.length ∧ s = .slice E en ec ∧ Pm w1.heap.size w1 wz (.slice E en ec) (x.movesTo n ++ movesBy n 0 (l.take j)) ue ∧ Row wz g 4 (l.map Value.bool) ∧ (Value.slice E en ec).ownBlock ≠ some g) (fun _ i _ => l.length - (intOf i).toNat)
      case atStart => exact ⟨0, _, _, _, _, rfl, Nat.zero_le _, rfl, HPW.out.same (by simp [movesBy]), HRW.out, hne0⟩
      case round =>
        obtain ⟨j, E2, en2, ec2, ue2, rfl, hj, rfl, hp2, hrw, hne⟩ := hrel
        have HP2 := hide hp2
        have HR2 := hide hrw
        have HNE := hide hne
        have hbl := movesBy_len n (l.take j) 0
        have htl : (l.take j).length ≤ 3 := by rw [List.length_take]; omega
        clear hp2 hrw hne
        by_cases hjl : j < l.length
        · have hjI : (j : Int) < (l.length : Int) := by omega
          have hj0 : (0 : Int) ≤ (j : Int) := by omega
          have hjb : (Lit.int .i64 (j : Int)).wf = true := WalkArith.wf_i64 (by omega)
          have b0 : wr.cell? ⟨g, j, none⟩ = some (.bool l[j]) := by rw [HR2.out.cell j]; simp [hjl]
          have gl := HR2.out.lt
          have HSN := hide (movesBy_snoc n l 0 j hjl)
          generalize l[j] = q at *
          cases q
          · have HS := hide (show x.movesTo n ++ movesBy n 0 (l.take j) = x.movesTo n ++ movesBy n 0 (l.take (j + 1)) from by rw [HSN.out]; simp)
            go_wp2
            go_roundw
            case rel => exact ⟨j + 1, _, _, _, _, by go_num, by omega, rfl, HP2.out.same HS.out, HR2.out, HNE.out⟩
            case measure => simp [intOf]; omega
          · have HS := hide (show (x.movesTo n ++ movesBy n 0 (l.take j)) ++ [(⟨(n : Int), (j : Int)⟩ : CrewMove)] = x.movesTo n ++ movesBy n 0 (l.take (j + 1)) from by rw [HSN.out]; simp)
            have HPA := hide (HP2.out.alloc (.cells #[.int .i64 (n : Int), .int .i64 (j : Int)] 97))
            have HRA := hide (HR2.out.alloc (.cells #[.int .i64 (n : Int), .int .i64 (j : Int)] 97))
            have gla : g < (wr.alloc (.cells #[.int .i64 (n : Int), .int .i64 (j : Int)] 97)).heap.size := HRA.out.lt
            go_wp2_with (first | (at_builtin; refine wpl_app rfl _ _ 57 rfl ia _ 16 Try.underlying57 HIa.out ja0 ja1 ja2 rfl (by decide) CrewMove.cells_len rfl HPA.out.own [(⟨(n : Int), (j : Int)⟩ : CrewMove)] (move_src _ _ hnb hjb _) (by exact New.nil _ _) (fun q _ hq => by cases hq) _ _ _ rfl rfl (SrcAt.new wr _ _ _ _) (by first | omega | (simp only [List.length_append, List.length_take, List.length_singleton, List.length_nil, List.length_cons]; omega)) (by decide) HPA.out.sz ?_; intro w5A w5n w5c w5 hn5 hown5 hgb5; have HP5 := hide (HPA.out.put hgb5 hown5); have HGB := hide hgb5; clear hown5 hgb5 hn5) | fail)
            go_roundw
            case rel => exact ⟨j + 1, _, _, _, _, by go_num, by omega, rfl, HP5.out.same HS.out, HGB.out.row HRA.out HNE.out, HGB.out.ne7 HNE.out gla⟩
            case measure => simp [intOf]; omega
        · obtain rfl : j = l.length := by omega
          have hjI : ¬ ((l.length : Int) < (l.length : Int)) := by omega
          have HS := hide (show x.movesTo n ++ movesBy n 0 (l.take l.length) = x.movesTo (n + 1) from by rw [List.take_length, movesTo_succ, HL.out])
          go_wp2
          go_roundw
          case rel => exact ⟨n + 1, _, _, _, _, by go_num, by omega, rfl, HP2.out.same HS.out⟩
          case measure => simp [intOf]; omega
    · obtain rfl : n = x.workers.toNat + 4 := by omega
      have d1 : decide (((x.workers.toNat + 4 : Nat) : Int) ≤ x.workers + 3) = false := dec_false (by have := HWN.out; omega)
      have d2 : decide ((x.workers.toNat : Int) + 4 ≤ x.workers + 3) = false := dec_false (by have := HWN.out; omega)
      go_wp2
      go_ret
      rw [HZ.out]
      exact HPR.out.out HB.out HB.out.size
end Go.Proofs.Ytpkjjfnfolbcoaa
set_option linter.unusedVariables false
set_option linter.unusedSimpArgs false
namespace Go.Proofs.Ytpkjjfnfolbcoaa
open Go.ChangeShapes Go.WideShapes Go.ChangeAt Go.RowKit

def CrewWorld.rc (x : CrewWorld) : List Bool :=
  if x.reader = 0 then (if x.next = x.jobs then [false, false, true] else [decide (x.room ≠ 0), x.sh 3 == 1, false])
  else if x.reader = 1 then [decide ((x.queue.length : Int) < x.workers), x.sh 3 == 1, false] else if x.reader = 2 then [true, false, false] else [false, false, false]
def CrewWorld.hc (x : CrewWorld) (h : CrewHand) : List Bool :=
  if h.state = 0 then [decide (0 < x.queue.length), x.sh 3 == 1, decide (x.queue.length = 0) && (x.sh 0 == 1)]
  else if h.state = 1 then [true, false, false] else if h.state = 2 then [decide ((x.results.length : Int) < x.workers), x.sh 3 == 1, false] else [false, false, false]
def CrewWorld.kc (x : CrewWorld) : List Bool :=
  if x.keeper = 0 then [decide (0 < x.results.length), x.sh 3 == 1, decide (x.results.length = 0) && (x.sh 1 == 1)]
  else if x.keeper = 2 then [decide (x.out.length = 0), x.sh 3 == 1, false] else if x.keeper = 1 ∨ x.keeper = 3 ∨ x.keeper = 4 then [true, false, false] else [false, false, false]
noncomputable def CrewWorld.tri (x : CrewWorld) (who : Nat) : List Bool :=
  if who = 0 then x.rc else if (who : Int) = x.workers + 1 then [(x.closer == 0) && tb x.allDone, false, false] else if (who : Int) = x.workers + 2 then x.kc
  else if (who : Int) = x.workers + 3 then [(x.user == 0) && decide (0 < x.out.length), ((x.user == 0) && decide (x.out.length = 0)) && (x.sh 2 == 1), false] else x.hc (x.hands[who - 1]?.getD ⟨3, 0⟩)
def idxs : Nat → List Bool → List Int
  | _, [] => []
  | i, b :: l => (if b = true then [(i : Int)] else []) ++ idxs (i + 1) l
theorem movesBy_idxs (who : Nat) : ∀ (l : List Bool) (i : Nat), movesBy who i l = (idxs i l).map fun k => ⟨(who : Int), k⟩
  | [], _ => rfl
  | b :: l, i => by
    unfold movesBy idxs
    rw [movesBy_idxs who l (i + 1), List.map_append]
    cases b <;> rfl
theorem idxs_snoc : ∀ (l : List Bool) (i j : Nat) (h : j < l.length), idxs i (l.take (j + 1)) = idxs i (l.take j) ++ (if l[j] = true then [((i + j : Nat) : Int)] else [])
  | [], _, _, h => absurd h (Nat.not_lt_zero _)
  | b :: l, i, 0, _ => by simp [idxs]
  | b :: l, i, j + 1, h => by
    have ih := idxs_snoc l (i + 1) j (by simpa using h)
    rw [List.take_succ_cons, List.take_succ_cons]
    unfold idxs
    rw [ih, List.append_assoc]
    have e : i + 1 + j = i + (j + 1) := by omega
    rw [e]
    rfl
theorem idxs_len : ∀ (l : List Bool) (i : Nat), (idxs i l).length ≤ l.length
  | [], _ => Nat.le_refl _
  | b :: l, i => by
    have ih := idxs_len l (i + 1)
    unfold idxs
    rw [List.length_append, List.length_cons]
    have : (if b = true then [(i : Int)] else []).length ≤ 1 := by split <;> simp
    omega
theorem idxs_bd : ∀ (l : List Bool) (i : Nat), ∀ z ∈ idxs i l, 0 ≤ z ∧ z < (i : Int) + (l.length : Int)
  | [], _, z, h => by cases h
  | b :: l, i, z, h => by
    unfold idxs at h
    rw [List.length_cons]
    rcases List.mem_append.1 h with h | h
    · split at h
      · simp at h
        omega
      · cases h
    · have := idxs_bd l (i + 1) z h
      omega
theorem rc_len (x : CrewWorld) : x.rc.length = 3 := by
  unfold CrewWorld.rc
  repeat' split
  all_goals rfl
theorem hc_len (x : CrewWorld) (h : CrewHand) : (x.hc h).length = 3 := by
  unfold CrewWorld.hc
  repeat' split
  all_goals rfl
theorem kc_len (x : CrewWorld) : x.kc.length = 3 := by
  unfold CrewWorld.kc
  repeat' split
  all_goals rfl
theorem tri_len (x : CrewWorld) (who : Nat) : (x.tri who).length = 3 := by
  unfold CrewWorld.tri
  split
  · exact rc_len x
  · split
    · rfl
    · split
      · exact kc_len x
      · split
        · rfl
        · exact hc_len x _
theorem tri_ways {x : CrewWorld} (h : x.Form) (who : Nat) (hw : (who : Int) ≤ x.workers + 3) : movesBy who 0 (x.ways who) = movesBy who 0 (x.tri who) := by
  have hk := h.keeper
  have hu := h.user
  have hr := h.room
  have hww := h.start.2.1
  unfold CrewWorld.ways CrewWorld.tri
  by_cases h0 : who = 0
  · rw [if_pos h0, if_pos h0]
    unfold CrewWorld.rd CrewWorld.rc
    have e : decide (0 < x.room) = decide (x.room ≠ 0) := by rw [decide_eq_decide]; omega
    rw [e]
    repeat' split
    all_goals simp [movesBy]
  · rw [if_neg h0, if_neg h0]
    by_cases h1 : (who : Int) ≤ x.workers
    · rw [if_pos h1, if_neg (by omega), if_neg (by omega), if_neg (by omega)]
      unfold CrewWorld.hw CrewWorld.hc
      repeat' split
      all_goals simp [movesBy]
    · rw [if_neg h1]
      by_cases h2 : (who : Int) = x.workers + 1
      · rw [if_pos h2, if_pos h2]
        simp [movesBy]
      · rw [if_neg h2, if_neg h2]
        by_cases h3 : (who : Int) = x.workers + 2
        · rw [if_pos h3, if_pos h3]
          unfold CrewWorld.kw CrewWorld.kc
          by_cases k0 : x.keeper = 0
          · rw [if_pos k0, if_pos k0]
          · rw [if_neg k0, if_neg k0]
            by_cases k2 : x.keeper = 2
            · rw [if_pos k2, if_pos k2]
              simp [movesBy]
            · rw [if_neg k2, if_neg k2]
              by_cases k5 : x.keeper = 5
              · rw [if_pos k5, if_neg (by omega)]
                simp [movesBy]
              · rw [if_neg k5, if_pos (by omega)]
                simp [movesBy]
        · rw [if_neg h3, if_neg h3, if_pos (show (who : Int) = x.workers + 3 by omega)]
          by_cases u1 : x.user = 1
          · rw [if_pos u1]
            have e : (x.user == 0) = false := by rw [u1]; rfl
            rw [e]
            simp [movesBy]
          · rw [if_neg u1]
            have e : (x.user == 0) = true := by
              have : x.user = 0 := by omega
              rw [this]; rfl
            rw [e]
            simp [movesBy]
end Go.Proofs.Ytpkjjfnfolbcoaa
set_option linter.unusedVariables false
set_option linter.unusedSimpArgs false
namespace Go.Proofs.Ytpkjjfnfolbcoaa
open Go.ChangeShapes Go.WideShapes Go.ChangeAt Go.RowKit

def TriOut (l : List Bool) (w : World) (e : Ending) (w' : World) : Prop := e = .returned (.agg (l.map Value.bool).toArray) ∧ Below w.heap.size w w'
theorem info_tri : (Try.prog.info? 179).map (·.size) = some 3 := by kernel_rfl
theorem bools_one (a b c : Bool) : ([Value.bool a, .bool b, .bool c] : List Value).toArray.all (·.oneCell') = true := by simp [Value.oneCell']
set_option maxRecDepth 100000 in
theorem closerNo_any (x : CrewWorld) (us : List Value) (fp : List Nat) (b : Nat) (w : World) (hb : Row w b 30 us) (ho : OwC w x.cells us fp) (hf : Lt fp w.heap.size) (hfm : x.Form) :
    Calls Try.prog 134 #[.pointer (some ⟨b, 0, none⟩)] w fun e w' => e = .returned (.int .i64 (x.workers + 1)) ∧ w' = w := by
  have hww := hfm.start.2.1
  have v1 : IntKind.i64.wrap (x.workers + 1) = x.workers + 1 := wrapI _ (by omega) (by omega)
  have u1 : wrap64 (x.workers + 1) = x.workers + 1 := by unfold wrap64; omega
  clear hfm
  have HO := hide ho
  have HF := hide hf
  obtain ⟨A1, c1, A2, c2, A3, c3, A4, c4, A5, c5, A6, c6, A7, c7, f1, f2, f3, f4, f5, f6, f7, rfl, wjobs, wworkers, wwindow, wnext, wreader, o1, o2, wcloser, o3, wkeeper, o4, wdue, o5, wuser, o6, wroom, o7, wops, rfl⟩ := ho.oCrewWorld
  have HX := hide hb
  clear ho hb o1 o2 o3 o4 o5 o6 o7
  have x1 := HX.out.cell 1
  have xl := HX.out.lt
  go_enter Try.func134, Try.ntmps134
  go_wp2
  go_ret
  first | exact ⟨rfl, rfl⟩ | trivial | simp
set_option maxRecDepth 100000 in
theorem keeperNo_any (x : CrewWorld) (us : List Value) (fp : List Nat) (b : Nat) (w : World) (hb : Row w b 30 us) (ho : OwC w x.cells us fp) (hf : Lt fp w.heap.size) (hfm : x.Form) :
    Calls Try.prog 135 #[.pointer (some ⟨b, 0, none⟩)] w fun e w' => e = .returned (.int .i64 (x.workers + 2)) ∧ w' = w := by
  have hww := hfm.start.2.1
  have v1 : IntKind.i64.wrap (x.workers + 2) = x.workers + 2 := wrapI _ (by omega) (by omega)
  have u1 : wrap64 (x.workers + 2) = x.workers + 2 := by unfold wrap64; omega
  clear hfm
  have HO := hide ho
  have HF := hide hf
  obtain ⟨A1, c1, A2, c2, A3, c3, A4, c4, A5, c5, A6, c6, A7, c7, f1, f2, f3, f4, f5, f6, f7, rfl, wjobs, wworkers, wwindow, wnext, wreader, o1, o2, wcloser, o3, wkeeper, o4, wdue, o5, wuser, o6, wroom, o7, wops, rfl⟩ := ho.oCrewWorld
  have HX := hide hb
  clear ho hb o1 o2 o3 o4 o5 o6 o7
  have x1 := HX.out.cell 1
  have xl := HX.out.lt
  go_enter Try.func135, Try.ntmps135
  go_wp2
  go_ret
  first | exact ⟨rfl, rfl⟩ | trivial | simp
set_option maxRecDepth 100000 in
theorem userNo_any (x : CrewWorld) (us : List Value) (fp : List Nat) (b : Nat) (w : World) (hb : Row w b 30 us) (ho : OwC w x.cells us fp) (hf : Lt fp w.heap.size) (hfm : x.Form) :
    Calls Try.prog 137 #[.pointer (some ⟨b, 0, none⟩)] w fun e w' => e = .returned (.int .i64 (x.workers + 3)) ∧ w' = w := by
  have hww := hfm.start.2.1
  have v1 : IntKind.i64.wrap (x.workers + 3) = x.workers + 3 := wrapI _ (by omega) (by omega)
  have u1 : wrap64 (x.workers + 3) = x.workers + 3 := by unfold wrap64; omega
  clear hfm
  have HO := hide ho
  have HF := hide hf
  obtain ⟨A1, c1, A2, c2, A3, c3, A4, c4, A5, c5, A6, c6, A7, c7, f1, f2, f3, f4, f5, f6, f7, rfl, wjobs, wworkers, wwindow, wnext, wreader, o1, o2, wcloser, o3, wkeeper, o4, wdue, o5, wuser, o6, wroom, o7, wops, rfl⟩ := ho.oCrewWorld
  have HX := hide hb
  clear ho hb o1 o2 o3 o4 o5 o6 o7
  have x1 := HX.out.cell 1
  have xl := HX.out.lt
  go_enter Try.func137, Try.ntmps137
  go_wp2
  go_ret
  first | exact ⟨rfl, rfl⟩ | trivial | simp
set_option maxRecDepth 100000 in
set_option maxHeartbeats 8000000 in
theorem readerCases_any (x : CrewWorld) (us : List Value) (fp : List Nat) (b : Nat) (w : World) (hb : Row w b 30 us) (ho : OwC w x.cells us fp) (hf : Lt fp w.heap.size) (hfm : x.Form) : Calls Try.prog 162 #[.pointer (some ⟨b, 0, none⟩)] w (TriOut x.rc w) := by
  have HFM := hide hfm
  clear hfm
  have HO := hide ho
  have HF := hide hf
  obtain ⟨A1, c1, A2, c2, A3, c3, A4, c4, A5, c5, A6, c6, A7, c7, f1, f2, f3, f4, f5, f6, f7, rfl, wjobs, wworkers, wwindow, wnext, wreader, o1, o2, wcloser, o3, wkeeper, o4, wdue, o5, wuser, o6, wroom, o7, wops, rfl⟩ := ho.oCrewWorld
  have O1 := hide o1
  have l1 := hf.left
  obtain ⟨-, n1, m1⟩ := o1.nlen
  unfold maxLen at m1
  have HX := hide hb
  clear ho hb o1 o2 o3 o4 o5 o6 o7
  have x0 := HX.out.cell 0
  have xl := HX.out.lt
  go_enter Try.func162, Try.ntmps162
  clear x0
  go_upto_region 1 with fail
  generalize hw1 : w.alloc _ = w1
  have hb0 : Below w.heap.size w w1 := by rw [← hw1]; exact (Below.refl _ _).alloc (Nat.le_refl _) _
  have HZ := hide (show Row w1 w.heap.size 179 [.bool false, .bool false, .bool false] from by rw [← hw1]; exact Row.new w _ _)
  have HB := hide hb0
  have HX1 := hide (HX.out.below hb0 HX.out.lt)
  have HST := hide (isStopped_any x _ _ b w1 HX1.out (HO.out.below hb0 HF.out) (HF.out.up hb0) HFM.out)
  have x0 := HX1.out.cell 0
  have x1 := HX1.out.cell 1
  have x3 := HX1.out.cell 3
  have x4 := HX1.out.cell 4
  have x5 := HX1.out.cell 5
  have x15 := HX1.out.cell 15
  have xl1 := HX1.out.lt
  clear hb0 hw1
  by_cases h : x.reader = 0
  · have r0 : (x.reader == 0) = true := beqt' h
    have r1 : (x.reader == 1) = false := beqf' (by omega)
    have r2 : (x.reader == 2) = false := beqf' (by omega)
    by_cases hn : x.next = x.jobs
    · have HV := hide (show x.rc = [false, false, true] from by unfold CrewWorld.rc; rw [if_pos h, if_pos hn])
      have rn : (x.next != x.jobs) = false := bnef' hn
      clear h hn
      go_upto_region 3 with fail
      go_cut [3] from 10 to 19 (fun t wx => t = .bool false ∧ Below w1.heap.size w1 wx)
      case first =>
        go_wp2_with fail
        go_quiet (fail)
        go_wp2_with fail
        go_meet
        exact ⟨rfl, below_drewN (Below.refl _ _) _⟩
      obtain ⟨rfl, hbc⟩ := hcut
      obtain ⟨w2, rfl⟩ : ∃ W, W = wc := ⟨_, rfl⟩
      have HZ := hide (HZ.out.below hbc HZ.out.lt)
      have HB := hide (HB.out.trans (hbc.mono HB.out.size))
      have HX2 := hide (HX1.out.below hbc HX1.out.lt)
      have HST := hide (isStopped_any x _ _ b w2 HX2.out (HO.out.below HB.out HF.out) (HF.out.up HB.out) HFM.out)
      clear hbc HX1 x0 x1 x3 x4 x5 x15 xl1
      have x15 := HX2.out.cell 15
      have xl1 := HX2.out.lt
      by_cases hr : x.room = 0
      case' pos => have rr : (x.room != 0) = false := bnef' hr
      case' neg => have rr : (x.room != 0) = true := bnet' hr
      case' pos => clear hr
      case' neg => clear hr
      all_goals rcases hs3 : (x.sh 3 == 1) with _ | _
      all_goals rw [hs3] at HST
      all_goals
        go_wp2_with (first | (refine wpList_store_row rfl 179 _ _ rfl (w.heap.size) ([.bool false, .bool false, .bool true] : List Value).toArray rfl rfl 179 ([.bool false, .bool false, .bool false] : List Value).toArray HZ.out info_tri rfl (bools_one _ _ _) ?_) | (go_at_call 156; refine HST.out.mono ?_; rintro e wq ⟨rfl, rfl⟩) | fail)
        refine bodyPost_ret (ret_row rfl _ _ (w.heap.size) 179 [.bool false, .bool false, .bool true] (Row.setRow' (cs := [.bool false, .bool false, .bool false]) HZ.out [.bool false, .bool false, .bool true]) _ rfl Try.underlying179 rfl info_tri) rfl ?_
        exact ⟨by rw [HV.out]; rfl, below_setRow7 HB.out (Nat.le_refl _) _⟩
    · have HV := hide (show x.rc = [decide (x.room ≠ 0), x.sh 3 == 1, false] from by unfold CrewWorld.rc; rw [if_pos h, if_neg hn])
      have rn : (x.next != x.jobs) = true := bnet' hn
      clear h hn
      go_upto_region 3 with fail
      go_cut [3] from 10 to 19 (fun t wx => t = .bool true ∧ Below w1.heap.size w1 wx)
      case first =>
        go_wp2_with fail
        go_quiet (fail)
        go_wp2_with fail
        go_meet
        exact ⟨rfl, below_drewN (Below.refl _ _) _⟩
      obtain ⟨rfl, hbc⟩ := hcut
      obtain ⟨w2, rfl⟩ : ∃ W, W = wc := ⟨_, rfl⟩
      have HZ := hide (HZ.out.below hbc HZ.out.lt)
      have HB := hide (HB.out.trans (hbc.mono HB.out.size))
      have HX2 := hide (HX1.out.below hbc HX1.out.lt)
      have HST := hide (isStopped_any x _ _ b w2 HX2.out (HO.out.below HB.out HF.out) (HF.out.up HB.out) HFM.out)
      clear hbc HX1 x0 x1 x3 x4 x5 x15 xl1
      have x15 := HX2.out.cell 15
      have xl1 := HX2.out.lt
      rcases hs3 : (x.sh 3 == 1) with _ | _
      · rw [hs3] at HST HV
        clear hs3
        by_cases hr : x.room = 0
        · have rr : (x.room != 0) = false := bnef' hr
          have HV := hide (show x.rc = [false, false, false] from by rw [HV.out]; simp [hr])
          clear hr
          go_wp2_with (first | (refine wpList_store_row rfl 179 _ _ rfl (w.heap.size) ([.bool false, .bool false, .bool false] : List Value).toArray rfl rfl 179 ([.bool false, .bool false, .bool false] : List Value).toArray HZ.out info_tri rfl (bools_one _ _ _) ?_) | (go_at_call 156; refine HST.out.mono ?_; rintro e wq ⟨rfl, rfl⟩) | fail)
          refine bodyPost_ret (ret_row rfl _ _ (w.heap.size) 179 [.bool false, .bool false, .bool false] (Row.setRow' (cs := [.bool false, .bool false, .bool false]) HZ.out [.bool false, .bool false, .bool false]) _ rfl Try.underlying179 rfl info_tri) rfl ?_
          exact ⟨by rw [HV.out]; rfl, below_setRow7 HB.out (Nat.le_refl _) _⟩
        · have rr : (x.room != 0) = true := bnet' hr
          have HV := hide (show x.rc = [true, false, false] from by rw [HV.out]; simp [hr])
          clear hr
          go_wp2_with (first | (refine wpList_store_row rfl 179 _ _ rfl (w.heap.size) ([.bool true, .bool false, .bool false] : List Value).toArray rfl rfl 179 ([.bool false, .bool false, .bool false] : List Value).toArray HZ.out info_tri rfl (bools_one _ _ _) ?_) | (go_at_call 156; refine HST.out.mono ?_; rintro e wq ⟨rfl, rfl⟩) | fail)
          refine bodyPost_ret (ret_row rfl _ _ (w.heap.size) 179 [.bool true, .bool false, .bool false] (Row.setRow' (cs := [.bool false, .bool false, .bool false]) HZ.out [.bool true, .bool false, .bool false]) _ rfl Try.underlying179 rfl info_tri) rfl ?_
          exact ⟨by rw [HV.out]; rfl, below_setRow7 HB.out (Nat.le_refl _) _⟩
      · rw [hs3] at HST HV
        clear hs3
        by_cases hr : x.room = 0
        · have rr : (x.room != 0) = false := bnef' hr
          have HV := hide (show x.rc = [false, true, false] from by rw [HV.out]; simp [hr])
          clear hr
          go_wp2_with (first | (refine wpList_store_row rfl 179 _ _ rfl (w.heap.size) ([.bool false, .bool true, .bool false] : List Value).toArray rfl rfl 179 ([.bool false, .bool false, .bool false] : List Value).toArray HZ.out info_tri rfl (bools_one _ _ _) ?_) | (go_at_call 156; refine HST.out.mono ?_; rintro e wq ⟨rfl, rfl⟩) | fail)
          refine bodyPost_ret (ret_row rfl _ _ (w.heap.size) 179 [.bool false, .bool true, .bool false] (Row.setRow' (cs := [.bool false, .bool false, .bool false]) HZ.out [.bool false, .bool true, .bool false]) _ rfl Try.underlying179 rfl info_tri) rfl ?_
          exact ⟨by rw [HV.out]; rfl, below_setRow7 HB.out (Nat.le_refl _) _⟩
        · have rr : (x.room != 0) = true := bnet' hr
          have HV := hide (show x.rc = [true, true, false] from by rw [HV.out]; simp [hr])
          clear hr
          go_wp2_with (first | (refine wpList_store_row rfl 179 _ _ rfl (w.heap.size) ([.bool true, .bool true, .bool false] : List Value).toArray rfl rfl 179 ([.bool false, .bool false, .bool false] : List Value).toArray HZ.out info_tri rfl (bools_one _ _ _) ?_) | (go_at_call 156; refine HST.out.mono ?_; rintro e wq ⟨rfl, rfl⟩) | fail)
          refine bodyPost_ret (ret_row rfl _ _ (w.heap.size) 179 [.bool true, .bool true, .bool false] (Row.setRow' (cs := [.bool false, .bool false, .bool false]) HZ.out [.bool true, .bool true, .bool false]) _ rfl Try.underlying179 rfl info_tri) rfl ?_
          exact ⟨by rw [HV.out]; rfl, below_setRow7 HB.out (Nat.le_refl _) _⟩
  have r0 := beqf' h
  by_cases h1 : x.reader = 1
  · have r1 := beqt' h1
    have HZD := hide (show Row w1.drew (w.heap.size) 179 [.bool false, .bool false, .bool false] from HZ.out)
    have HSD := hide (isStopped_any x _ _ b w1.drew (HX.out.below (below_drewN HB.out 1) HX.out.lt) (HO.out.below (below_drewN HB.out 1) HF.out) (HF.out.up (below_drewN HB.out 1)) HFM.out)
    have HV := hide (show x.rc = [decide ((x.queue.length : Int) < x.workers), x.sh 3 == 1, false] from by unfold CrewWorld.rc; rw [if_neg h, if_pos h1])
    clear h h1
    go_wp2_with fail
    refine wp_region_held_drew (S := fun W => Below w.heap.size w W) (by kernel_rfl) (below_drewN HB.out 1) (fun hS0 => ?_)
    refine wpAnyH_take (i := 0) (v := .pointer (some ⟨b, 0, none⟩)) rfl (by kernel_rfl) (by kernel_rfl) (by kernel_rfl) (fun _ _ _ h => h) (Or.inl ⟨by kernel_rfl, by (intro W hS; go_simp; first | done | with_reducible rfl | rfl)⟩) hS0 ?_
    (try simp only [Act.put, List.getElem_toArray, List.getElem_cons_zero, List.getElem_cons_succ, List.setIfInBounds_toArray, List.set_cons_zero, List.set_cons_succ])
    refine wpAnyH_take (i := 1) (v := .pointer (some ⟨b, 0, none⟩)) rfl (by kernel_rfl) (by kernel_rfl) (by kernel_rfl) (fun _ _ _ h => h) (Or.inl ⟨by kernel_rfl, by (intro W hS; go_simp; first | done | with_reducible rfl | rfl)⟩) hS0 ?_
    (try simp only [Act.put, List.getElem_toArray, List.getElem_cons_zero, List.getElem_cons_succ, List.setIfInBounds_toArray, List.set_cons_zero, List.set_cons_succ])
    refine wpAnyH_take (i := 2) (v := .pointer (some ⟨b, 5, none⟩)) rfl (by kernel_rfl) (by kernel_rfl) (by kernel_rfl) (fun _ _ _ h => h) (Or.inl ⟨by kernel_rfl, by (intro W hS; go_simp; first | done | with_reducible rfl | rfl)⟩) hS0 ?_
    (try simp only [Act.put, List.getElem_toArray, List.getElem_cons_zero, List.getElem_cons_succ, List.setIfInBounds_toArray, List.set_cons_zero, List.set_cons_succ])
    refine wpAnyH_take (i := 3) (v := .slice A1 x.queue.length c1) rfl (by kernel_rfl) (by kernel_rfl) (by kernel_rfl) (fun _ _ _ h => h) (Or.inl ⟨by kernel_rfl, by (intro W hS; have y := (HX.out.below hS HX.out.lt).cell 5; have yl := (HX.out.below hS HX.out.lt).lt; go_simp; first | done | with_reducible rfl | rfl)⟩) hS0 ?_
    (try simp only [Act.put, List.getElem_toArray, List.getElem_cons_zero, List.getElem_cons_succ, List.setIfInBounds_toArray, List.set_cons_zero, List.set_cons_succ])
    refine wpAnyH_take (i := 4) (v := .int .i64 (x.queue.length : Int)) rfl (by kernel_rfl) (by kernel_rfl) (by kernel_rfl) (fun _ _ _ h => h) (Or.inl ⟨by kernel_rfl, by (intro W hS; go_simp; first | done | with_reducible rfl | rfl)⟩) hS0 ?_
    (try simp only [Act.put, List.getElem_toArray, List.getElem_cons_zero, List.getElem_cons_succ, List.setIfInBounds_toArray, List.set_cons_zero, List.set_cons_succ])
    refine wpAnyH_take (i := 5) (v := .pointer (some ⟨b, 0, none⟩)) rfl (by kernel_rfl) (by kernel_rfl) (by kernel_rfl) (fun _ _ _ h => h) (Or.inl ⟨by kernel_rfl, by (intro W hS; go_simp; first | done | with_reducible rfl | rfl)⟩) hS0 ?_
    (try simp only [Act.put, List.getElem_toArray, List.getElem_cons_zero, List.getElem_cons_succ, List.setIfInBounds_toArray, List.set_cons_zero, List.set_cons_succ])
    refine wpAnyH_take (i := 6) (v := .pointer (some ⟨b, 0, none⟩)) rfl (by kernel_rfl) (by kernel_rfl) (by kernel_rfl) (fun _ _ _ h => h) (Or.inl ⟨by kernel_rfl, by (intro W hS; go_simp; first | done | with_reducible rfl | rfl)⟩) hS0 ?_
    (try simp only [Act.put, List.getElem_toArray, List.getElem_cons_zero, List.getElem_cons_succ, List.setIfInBounds_toArray, List.set_cons_zero, List.set_cons_succ])
    refine wpAnyH_take (i := 7) (v := .pointer (some ⟨b, 1, none⟩)) rfl (by kernel_rfl) (by kernel_rfl) (by kernel_rfl) (fun _ _ _ h => h) (Or.inl ⟨by kernel_rfl, by (intro W hS; go_simp; first | done | with_reducible rfl | rfl)⟩) hS0 ?_
    (try simp only [Act.put, List.getElem_toArray, List.getElem_cons_zero, List.getElem_cons_succ, List.setIfInBounds_toArray, List.set_cons_zero, List.set_cons_succ])
    refine wpAnyH_take (i := 8) (v := .int .i64 x.workers) rfl (by kernel_rfl) (by kernel_rfl) (by kernel_rfl) (fun _ _ _ h => h) (Or.inl ⟨by kernel_rfl, by (intro W hS; have y := (HX.out.below hS HX.out.lt).cell 1; have yl := (HX.out.below hS HX.out.lt).lt; go_simp; first | done | with_reducible rfl | rfl)⟩) hS0 ?_
    (try simp only [Act.put, List.getElem_toArray, List.getElem_cons_zero, List.getElem_cons_succ, List.setIfInBounds_toArray, List.set_cons_zero, List.set_cons_succ])
    refine wpAnyH_take (i := 9) (v := .bool (decide ((x.queue.length : Int) < x.workers))) rfl (by kernel_rfl) (by kernel_rfl) (by kernel_rfl) (fun _ _ _ h => h) (Or.inl ⟨by kernel_rfl, by (intro W hS; go_simp; first | done | with_reducible rfl | rfl)⟩) hS0 ?_
    (try simp only [Act.put, List.getElem_toArray, List.getElem_cons_zero, List.getElem_cons_succ, List.setIfInBounds_toArray, List.set_cons_zero, List.set_cons_succ])
    refine wpAnyH_take (i := 10) (v := .pointer (some ⟨b, 0, none⟩)) rfl (by kernel_rfl) (by kernel_rfl) (by kernel_rfl) (fun _ _ _ h => h) (Or.inl ⟨by kernel_rfl, by (intro W hS; go_simp; first | done | with_reducible rfl | rfl)⟩) hS0 ?_
    (try simp only [Act.put, List.getElem_toArray, List.getElem_cons_zero, List.getElem_cons_succ, List.setIfInBounds_toArray, List.set_cons_zero, List.set_cons_succ])
    refine wpAnyH_ready (rs := [11]) (by kernel_rfl) (by simp) ?_
    refine AllReadyH.cons rfl (fun K hK => ?_) AllReadyH.nil
    go_simp
    go_at_call 156
    refine (HSD.out).mono ?_
    rintro e u1 ⟨rfl, rfl⟩
    have hS1 := hS0.trans ((Below.refl _ _).mono hS0.size)
    try go_simp
    refine hK.out _ _ hS1 (fun hHeld => ?_)
    clear hK K
    refine wpAnyH_take (i := 12) (v := .agg ([.bool (decide ((x.queue.length : Int) < x.workers)), .bool (x.sh 3 == 1), .bool false] : List Value).toArray) rfl (by kernel_rfl) (by kernel_rfl) (by kernel_rfl) (fun _ _ _ h => h) (Or.inl ⟨by kernel_rfl, by (intro W hS; go_simp; first | done | with_reducible rfl | rfl)⟩) hS1 ?_
    (try simp only [Act.put, List.getElem_toArray, List.getElem_cons_zero, List.getElem_cons_succ, List.setIfInBounds_toArray, List.set_cons_zero, List.set_cons_succ])
    refine wpAnyH_ready (rs := [13]) (by kernel_rfl) (by simp) ?_
    refine AllReadyH.cons rfl (fun K hK => ?_) AllReadyH.nil
    rw [if_pos (by simp [Region.wanted])]
    refine wp_store_row 179 _ _ rfl (w.heap.size) ([.bool (decide ((x.queue.length : Int) < x.workers)), .bool (x.sh 3 == 1), .bool false] : List Value).toArray rfl rfl 179 ([.bool false, .bool false, .bool false] : List Value).toArray HZD.out info_tri rfl (bools_one _ _ _) ?_
    refine hK.out _ _ (below_setRow7 hS1 (Nat.le_refl _) _) (fun hSZ => ?_)
    clear hK K
    refine wpAnyH_done (by kernel_rfl) ?_ _
    go_wp2
    refine bodyPost_ret (ret_row rfl _ _ (w.heap.size) 179 [.bool (decide ((x.queue.length : Int) < x.workers)), .bool (x.sh 3 == 1), .bool false] (Row.setRow' (cs := [.bool false, .bool false, .bool false]) HZD.out [.bool (decide ((x.queue.length : Int) < x.workers)), .bool (x.sh 3 == 1), .bool false]) _ rfl Try.underlying179 rfl info_tri) rfl ?_
    exact ⟨by rw [HV.out]; rfl, hSZ⟩
  have r1 := beqf' h1
  by_cases h2 : x.reader = 2
  · have r2 := beqt' h2
    have HV := hide (show x.rc = [true, false, false] from by unfold CrewWorld.rc; rw [if_neg h, if_neg h1, if_pos h2])
    clear h h1 h2
    go_wp2_with (first | (refine wpList_store_row rfl 179 _ _ rfl (w.heap.size) ([.bool true, .bool false, .bool false] : List Value).toArray rfl rfl 179 ([.bool false, .bool false, .bool false] : List Value).toArray HZ.out info_tri rfl (bools_one _ _ _) ?_) | (go_at_call 156; refine HST.out.mono ?_; rintro e wq ⟨rfl, rfl⟩) | fail)
    refine bodyPost_ret (ret_row rfl _ _ (w.heap.size) 179 [.bool true, .bool false, .bool false] (Row.setRow' (cs := [.bool false, .bool false, .bool false]) HZ.out [.bool true, .bool false, .bool false]) _ rfl Try.underlying179 rfl info_tri) rfl ?_
    exact ⟨by rw [HV.out]; rfl, below_setRow7 HB.out (Nat.le_refl _) _⟩
  have r2 := beqf' h2
  have HV := hide (show x.rc = [false, false, false] from by unfold CrewWorld.rc; rw [if_neg h, if_neg h1, if_neg h2])
  clear h h1 h2
  go_wp2_with (first | (refine wpList_store_row rfl 179 _ _ rfl (w.heap.size) ([.bool false, .bool false, .bool false] : List Value).toArray rfl rfl 179 ([.bool false, .bool false, .bool false] : List Value).toArray HZ.out info_tri rfl (bools_one _ _ _) ?_) | (go_at_call 156; refine HST.out.mono ?_; rintro e wq ⟨rfl, rfl⟩) | fail)
  refine bodyPost_ret (ret_row rfl _ _ (w.heap.size) 179 [.bool false, .bool false, .bool false] (Row.setRow' (cs := [.bool false, .bool false, .bool false]) HZ.out [.bool false, .bool false, .bool false]) _ rfl Try.underlying179 rfl info_tri) rfl ?_
  exact ⟨by rw [HV.out]; rfl, below_setRow7 HB.out (Nat.le_refl _) _⟩
end Go.Proofs.Ytpkjjfnfolbcoaa
set_option linter.unusedVariables false
set_option linter.unusedSimpArgs false
namespace Go.Proofs.Ytpkjjfnfolbcoaa
open Go.ChangeShapes Go.WideShapes Go.ChangeAt Go.RowKit

set_option maxRecDepth 100000 in
set_option maxHeartbeats 8000000 in
theorem keeperCases_any (x : CrewWorld) (us : List Value) (fp : List Nat) (b : Nat) (w : World) (hb : Row w b 30 us) (ho : OwC w x.cells us fp) (hf : Lt fp w.heap.size) (hfm : x.Form) : Calls Try.prog 163 #[.pointer (some ⟨b, 0, none⟩)] w (TriOut x.kc w) := by
  have HFM := hide hfm
  clear hfm
  have HO := hide ho
  have HF := hide hf
  obtain ⟨A1, c1, A2, c2, A3, c3, A4, c4, A5, c5, A6, c6, A7, c7, f1, f2, f3, f4, f5, f6, f7, rfl, wjobs, wworkers, wwindow, wnext, wreader, o1, o2, wcloser, o3, wkeeper, o4, wdue, o5, wuser, o6, wroom, o7, wops, rfl⟩ := ho.oCrewWorld
  have O7 := hide o7
  have l7 := hf.right.right.right.right.right.right
  obtain ⟨-, n7, m7⟩ := o7.nlen
  unfold maxLen at m7
  have HX := hide hb
  clear ho hb o1 o2 o3 o4 o5 o6 o7
  have x0 := HX.out.cell 0
  have xl := HX.out.lt
  go_enter Try.func163, Try.ntmps163
  clear x0
  go_upto_region 1 with fail
  generalize hw1 : w.alloc _ = w1
  have hb0 : Below w.heap.size w w1 := by rw [← hw1]; exact (Below.refl _ _).alloc (Nat.le_refl _) _
  have HZ := hide (show Row w1 w.heap.size 179 [.bool false, .bool false, .bool false] from by rw [← hw1]; exact Row.new w _ _)
  have HB := hide hb0
  have HX1 := hide (HX.out.below hb0 HX.out.lt)
  have HST := hide (isStopped_any x _ _ b w1 HX1.out (HO.out.below hb0 HF.out) (HF.out.up hb0) HFM.out)
  have x9 := HX1.out.cell 9
  have xl1 := HX1.out.lt
  clear hb0 hw1
  by_cases h : x.keeper = 0
  · have r0 : (x.keeper == 0) = true := beqt' h
    have r1 : (x.keeper == 1) = false := beqf' (by omega)
    have r2 : (x.keeper == 2) = false := beqf' (by omega)
    have r3 : (x.keeper == 3) = false := beqf' (by omega)
    have r4 : (x.keeper == 4) = false := beqf' (by omega)
    have HZD := hide (show Row w1.drew (w.heap.size) 179 [.bool false, .bool false, .bool false] from HZ.out)
    have HSD := hide (isStopped_any x _ _ b w1.drew (HX.out.below (below_drewN HB.out 1) HX.out.lt) (HO.out.below (below_drewN HB.out 1) HF.out) (HF.out.up (below_drewN HB.out 1)) HFM.out)
    have h7 : x.shut.length = 4 := HFM.out.shut
    obtain ⟨g7, off7, rfl, hg7, c0', -⟩ := ints_at O7.out (show 0 < x.shut.length by omega)
    have hgl := l7 g7 hg7
    have next7 : ∀ i, i < 4 → w.cell? ⟨g7, off7 + i, none⟩ = some (.int .i64 (x.sh i)) := fun i h4 => by
      have h : i < x.shut.length := by omega
      obtain ⟨g, off, e, -, hc, -⟩ := ints_at O7.out h
      injection e with e
      injection e with e1 e2 _
      subst e1 e2
      unfold CrewWorld.sh
      rw [List.getElem?_eq_getElem h]
      exact hc
    have q0 := next7 0 (by omega)
    have q1 := next7 1 (by omega)
    have q2 := next7 2 (by omega)
    simp only [Nat.add_zero] at q0
    have hl0 : (0 : Int) < (x.shut.length : Int) := by omega
    have hse : ¬ (x.shut = []) := fun e => by rw [e] at hl0; simp at hl0
    have hl1 : (1 : Int) < (x.shut.length : Int) := by omega
    have hl2 : (2 : Int) < (x.shut.length : Int) := by omega
    clear next7 c0' h7
    by_cases hz : x.results.length = 0
    · have HV := hide (show x.kc = [false, x.sh 3 == 1, x.sh 1 == 1] from by unfold CrewWorld.kc; rw [if_pos h]; simp [hz])
      have z0 : decide ((0 : Int) < (x.results.length : Int)) = false := dec_false (by omega)
      have z1 : decide (0 < x.results.length) = false := dec_false (by omega)
      have z2 : ((x.results.length : Int) == 0) = true := beqt' (by omega)
      have z3 : decide (x.results.length = 0) = true := dec_true hz
      clear hz h
      go_wp2_with fail
      refine wp_region_held_drew (S := fun W => Below w.heap.size w W) (by kernel_rfl) (below_drewN HB.out 1) (fun hS0 => ?_)
      refine wpAnyH_take (i := 0) (v := .pointer (some ⟨b, 0, none⟩)) rfl (by kernel_rfl) (by kernel_rfl) (by kernel_rfl) (fun _ _ _ h => h) (Or.inl ⟨by kernel_rfl, by (intro W hS; go_simp; first | done | with_reducible rfl | rfl)⟩) hS0 ?_
      (try simp only [Act.put, List.getElem_toArray, List.getElem_cons_zero, List.getElem_cons_succ, List.setIfInBounds_toArray, List.set_cons_zero, List.set_cons_succ])
      refine wpAnyH_take (i := 1) (v := .pointer (some ⟨b, 0, none⟩)) rfl (by kernel_rfl) (by kernel_rfl) (by kernel_rfl) (fun _ _ _ h => h) (Or.inl ⟨by kernel_rfl, by (intro W hS; go_simp; first | done | with_reducible rfl | rfl)⟩) hS0 ?_
      (try simp only [Act.put, List.getElem_toArray, List.getElem_cons_zero, List.getElem_cons_succ, List.setIfInBounds_toArray, List.set_cons_zero, List.set_cons_succ])
      refine wpAnyH_take (i := 2) (v := .pointer (some ⟨b, 8, none⟩)) rfl (by kernel_rfl) (by kernel_rfl) (by kernel_rfl) (fun _ _ _ h => h) (Or.inl ⟨by kernel_rfl, by (intro W hS; go_simp; first | done | with_reducible rfl | rfl)⟩) hS0 ?_
      (try simp only [Act.put, List.getElem_toArray, List.getElem_cons_zero, List.getElem_cons_succ, List.setIfInBounds_toArray, List.set_cons_zero, List.set_cons_succ])
      refine wpAnyH_take (i := 3) (v := .slice A3 x.results.length c3) rfl (by kernel_rfl) (by kernel_rfl) (by kernel_rfl) (fun _ _ _ h => h) (Or.inl ⟨by kernel_rfl, by (intro W hS; have y := (HX.out.below hS HX.out.lt).cell 8; have yl := (HX.out.below hS HX.out.lt).lt; go_simp; first | done | with_reducible rfl | rfl)⟩) hS0 ?_
      (try simp only [Act.put, List.getElem_toArray, List.getElem_cons_zero, List.getElem_cons_succ, List.setIfInBounds_toArray, List.set_cons_zero, List.set_cons_succ])
      refine wpAnyH_take (i := 4) (v := .int .i64 (x.results.length : Int)) rfl (by kernel_rfl) (by kernel_rfl) (by kernel_rfl) (fun _ _ _ h => h) (Or.inl ⟨by kernel_rfl, by (intro W hS; go_simp; first | done | with_reducible rfl | rfl)⟩) hS0 ?_
      (try simp only [Act.put, List.getElem_toArray, List.getElem_cons_zero, List.getElem_cons_succ, List.setIfInBounds_toArray, List.set_cons_zero, List.set_cons_succ])
      refine wpAnyH_take (i := 5) (v := .bool false) rfl (by kernel_rfl) (by kernel_rfl) (by kernel_rfl) (fun _ _ _ h => h) (Or.inl ⟨by kernel_rfl, by (intro W hS; go_simp; first | done | with_reducible rfl | rfl)⟩) hS0 ?_
      (try simp only [Act.put, List.getElem_toArray, List.getElem_cons_zero, List.getElem_cons_succ, List.setIfInBounds_toArray, List.set_cons_zero, List.set_cons_succ])
      refine wpAnyH_take (i := 6) (v := .pointer (some ⟨b, 0, none⟩)) rfl (by kernel_rfl) (by kernel_rfl) (by kernel_rfl) (fun _ _ _ h => h) (Or.inl ⟨by kernel_rfl, by (intro W hS; go_simp; first | done | with_reducible rfl | rfl)⟩) hS0 ?_
      (try simp only [Act.put, List.getElem_toArray, List.getElem_cons_zero, List.getElem_cons_succ, List.setIfInBounds_toArray, List.set_cons_zero, List.set_cons_succ])
      refine wpAnyH_take (i := 8) (v := .pointer (some ⟨b, 0, none⟩)) rfl (by kernel_rfl) (by kernel_rfl) (by kernel_rfl) (fun _ _ _ h => h) (Or.inl ⟨by kernel_rfl, by (intro W hS; go_simp; first | done | with_reducible rfl | rfl)⟩) hS0 ?_
      (try simp only [Act.put, List.getElem_toArray, List.getElem_cons_zero, List.getElem_cons_succ, List.setIfInBounds_toArray, List.set_cons_zero, List.set_cons_succ])
      refine wpAnyH_take (i := 9) (v := .pointer (some ⟨b, 0, none⟩)) rfl (by kernel_rfl) (by kernel_rfl) (by kernel_rfl) (fun _ _ _ h => h) (Or.inl ⟨by kernel_rfl, by (intro W hS; go_simp; first | done | with_reducible rfl | rfl)⟩) hS0 ?_
      (try simp only [Act.put, List.getElem_toArray, List.getElem_cons_zero, List.getElem_cons_succ, List.setIfInBounds_toArray, List.set_cons_zero, List.set_cons_succ])
      refine wpAnyH_take (i := 10) (v := .pointer (some ⟨b, 8, none⟩)) rfl (by kernel_rfl) (by kernel_rfl) (by kernel_rfl) (fun _ _ _ h => h) (Or.inl ⟨by kernel_rfl, by (intro W hS; go_simp; first | done | with_reducible rfl | rfl)⟩) hS0 ?_
      (try simp only [Act.put, List.getElem_toArray, List.getElem_cons_zero, List.getElem_cons_succ, List.setIfInBounds_toArray, List.set_cons_zero, List.set_cons_succ])
      refine wpAnyH_take (i := 11) (v := .slice A3 x.results.length c3) rfl (by kernel_rfl) (by kernel_rfl) (by kernel_rfl) (fun _ _ _ h => h) (Or.inl ⟨by kernel_rfl, by (intro W hS; have y := (HX.out.below hS HX.out.lt).cell 8; have yl := (HX.out.below hS HX.out.lt).lt; go_simp; first | done | with_reducible rfl | rfl)⟩) hS0 ?_
      (try simp only [Act.put, List.getElem_toArray, List.getElem_cons_zero, List.getElem_cons_succ, List.setIfInBounds_toArray, List.set_cons_zero, List.set_cons_succ])
      refine wpAnyH_take (i := 12) (v := .int .i64 (x.results.length : Int)) rfl (by kernel_rfl) (by kernel_rfl) (by kernel_rfl) (fun _ _ _ h => h) (Or.inl ⟨by kernel_rfl, by (intro W hS; go_simp; first | done | with_reducible rfl | rfl)⟩) hS0 ?_
      (try simp only [Act.put, List.getElem_toArray, List.getElem_cons_zero, List.getElem_cons_succ, List.setIfInBounds_toArray, List.set_cons_zero, List.set_cons_succ])
      refine wpAnyH_take (i := 13) (v := .bool true) rfl (by kernel_rfl) (by kernel_rfl) (by kernel_rfl) (fun _ _ _ h => h) (Or.inl ⟨by kernel_rfl, by (intro W hS; go_simp; first | done | with_reducible rfl | rfl)⟩) hS0 ?_
      (try simp only [Act.put, List.getElem_toArray, List.getElem_cons_zero, List.getElem_cons_succ, List.setIfInBounds_toArray, List.set_cons_zero, List.set_cons_succ])
      refine wpAnyH_ready (rs := [7]) (by kernel_rfl) (by simp) ?_
      refine AllReadyH.cons rfl (fun K hK => ?_) AllReadyH.nil
      go_simp
      go_at_call 156
      refine (HSD.out).mono ?_
      rintro e u1 ⟨rfl, rfl⟩
      have hS1 := hS0.trans ((Below.refl _ _).mono hS0.size)
      try go_simp
      refine hK.out _ _ hS1 (fun hHeld => ?_)
      clear hK K
      refine wpAnyH_take (i := 14) (v := .bool true) rfl (by kernel_rfl) (by kernel_rfl) (by kernel_rfl) (fun _ _ _ h => h) (Or.inl ⟨by kernel_rfl, by (intro W hS; go_simp; first | done | with_reducible rfl | rfl)⟩) hS1 ?_
      (try simp only [Act.put, List.getElem_toArray, List.getElem_cons_zero, List.getElem_cons_succ, List.setIfInBounds_toArray, List.set_cons_zero, List.set_cons_succ])
      refine wpAnyH_take (i := 15) (v := .pointer (some ⟨b, 0, none⟩)) rfl (by kernel_rfl) (by kernel_rfl) (by kernel_rfl) (fun _ _ _ h => h) (Or.inl ⟨by kernel_rfl, by (intro W hS; go_simp; first | done | with_reducible rfl | rfl)⟩) hS1 ?_
      (try simp only [Act.put, List.getElem_toArray, List.getElem_cons_zero, List.getElem_cons_succ, List.setIfInBounds_toArray, List.set_cons_zero, List.set_cons_succ])
      refine wpAnyH_take (i := 16) (v := .pointer (some ⟨b, 0, none⟩)) rfl (by kernel_rfl) (by kernel_rfl) (by kernel_rfl) (fun _ _ _ h => h) (Or.inl ⟨by kernel_rfl, by (intro W hS; go_simp; first | done | with_reducible rfl | rfl)⟩) hS1 ?_
      (try simp only [Act.put, List.getElem_toArray, List.getElem_cons_zero, List.getElem_cons_succ, List.setIfInBounds_toArray, List.set_cons_zero, List.set_cons_succ])
      refine wpAnyH_take (i := 17) (v := .pointer (some ⟨b, 16, none⟩)) rfl (by kernel_rfl) (by kernel_rfl) (by kernel_rfl) (fun _ _ _ h => h) (Or.inl ⟨by kernel_rfl, by (intro W hS; go_simp; first | done | with_reducible rfl | rfl)⟩) hS1 ?_
      (try simp only [Act.put, List.getElem_toArray, List.getElem_cons_zero, List.getElem_cons_succ, List.setIfInBounds_toArray, List.set_cons_zero, List.set_cons_succ])
      refine wpAnyH_take (i := 18) (v := .slice (some ⟨g7, off7, none⟩) x.shut.length c7) rfl (by kernel_rfl) (by kernel_rfl) (by kernel_rfl) (fun _ _ _ h => h) (Or.inl ⟨by kernel_rfl, by (intro W hS; have y := (HX.out.below hS HX.out.lt).cell 16; have yl := (HX.out.below hS HX.out.lt).lt; go_simp; first | done | with_reducible rfl | rfl)⟩) hS1 ?_
      (try simp only [Act.put, List.getElem_toArray, List.getElem_cons_zero, List.getElem_cons_succ, List.setIfInBounds_toArray, List.set_cons_zero, List.set_cons_succ])
      refine wpAnyH_take (i := 19) (v := .pointer (some ⟨g7, off7 + 1, none⟩)) rfl (by kernel_rfl) (by kernel_rfl) (by kernel_rfl) (fun _ _ _ h => h) (Or.inl ⟨by kernel_rfl, by (intro W hS; go_simp; first | done | with_reducible rfl | rfl)⟩) hS1 ?_
      (try simp only [Act.put, List.getElem_toArray, List.getElem_cons_zero, List.getElem_cons_succ, List.setIfInBounds_toArray, List.set_cons_zero, List.set_cons_succ])
      refine wpAnyH_take (i := 20) (v := .int .i64 (x.sh 1)) rfl (by kernel_rfl) (by kernel_rfl) (by kernel_rfl) (fun _ _ _ h => h) (Or.inl ⟨by kernel_rfl, by (intro W hS; have y := (hS.cell (p := ⟨g7, off7 + 1, none⟩) hgl).trans q1; have yl := Nat.lt_of_lt_of_le hgl hS.size; go_simp; first | done | with_reducible rfl | rfl)⟩) hS1 ?_
      (try simp only [Act.put, List.getElem_toArray, List.getElem_cons_zero, List.getElem_cons_succ, List.setIfInBounds_toArray, List.set_cons_zero, List.set_cons_succ])
      refine wpAnyH_take (i := 21) (v := .bool (x.sh 1 == 1)) rfl (by kernel_rfl) (by kernel_rfl) (by kernel_rfl) (fun _ _ _ h => h) (Or.inl ⟨by kernel_rfl, by (intro W hS; go_simp; first | done | with_reducible rfl | rfl)⟩) hS1 ?_
      (try simp only [Act.put, List.getElem_toArray, List.getElem_cons_zero, List.getElem_cons_succ, List.setIfInBounds_toArray, List.set_cons_zero, List.set_cons_succ])
      refine wpAnyH_take (i := 22) (v := .bool (x.sh 1 == 1)) rfl (by kernel_rfl) (by kernel_rfl) (by kernel_rfl) (fun _ _ _ h => h) (Or.inl ⟨by kernel_rfl, by (intro W hS; go_simp; first | done | with_reducible rfl | rfl)⟩) hS1 ?_
      (try simp only [Act.put, List.getElem_toArray, List.getElem_cons_zero, List.getElem_cons_succ, List.setIfInBounds_toArray, List.set_cons_zero, List.set_cons_succ])
      refine wpAnyH_take (i := 23) (v := .agg ([.bool false, .bool (x.sh 3 == 1), .bool (x.sh 1 == 1)] : List Value).toArray) rfl (by kernel_rfl) (by kernel_rfl) (by kernel_rfl) (fun _ _ _ h => h) (Or.inl ⟨by kernel_rfl, by (intro W hS; go_simp; first | done | with_reducible rfl | rfl)⟩) hS1 ?_
      (try simp only [Act.put, List.getElem_toArray, List.getElem_cons_zero, List.getElem_cons_succ, List.setIfInBounds_toArray, List.set_cons_zero, List.set_cons_succ])
      refine wpAnyH_ready (rs := [24]) (by kernel_rfl) (by simp) ?_
      refine AllReadyH.cons rfl (fun K hK => ?_) AllReadyH.nil
      rw [if_pos (by simp [Region.wanted])]
      refine wp_store_row 179 _ _ rfl (w.heap.size) ([.bool false, .bool (x.sh 3 == 1), .bool (x.sh 1 == 1)] : List Value).toArray rfl rfl 179 ([.bool false, .bool false, .bool false] : List Value).toArray HZD.out info_tri rfl (bools_one _ _ _) ?_
      refine hK.out _ _ (below_setRow7 hS1 (Nat.le_refl _) _) (fun hSZ => ?_)
      clear hK K
      refine wpAnyH_done (by kernel_rfl) ?_ _
      go_wp2
      refine bodyPost_ret (ret_row rfl _ _ (w.heap.size) 179 [.bool false, .bool (x.sh 3 == 1), .bool (x.sh 1 == 1)] (Row.setRow' (cs := [.bool false, .bool false, .bool false]) HZD.out [.bool false, .bool (x.sh 3 == 1), .bool (x.sh 1 == 1)]) _ rfl Try.underlying179 rfl info_tri) rfl ?_
      exact ⟨by rw [HV.out]; rfl, hSZ⟩
    have HV := hide (show x.kc = [true, x.sh 3 == 1, false] from by unfold CrewWorld.kc; rw [if_pos h]; simp [hz, Nat.pos_of_ne_zero hz])
    have z0 : decide ((0 : Int) < (x.results.length : Int)) = true := dec_true (by omega)
    have z1 : decide (0 < x.results.length) = true := dec_true (by omega)
    have z2 : ((x.results.length : Int) == 0) = false := beqf' (by omega)
    have z3 : decide (x.results.length = 0) = false := dec_false hz
    clear hz h
    go_wp2_with fail
    refine wp_region_held_drew (S := fun W => Below w.heap.size w W) (by kernel_rfl) (below_drewN HB.out 1) (fun hS0 => ?_)
    refine wpAnyH_take (i := 0) (v := .pointer (some ⟨b, 0, none⟩)) rfl (by kernel_rfl) (by kernel_rfl) (by kernel_rfl) (fun _ _ _ h => h) (Or.inl ⟨by kernel_rfl, by (intro W hS; go_simp; first | done | with_reducible rfl | rfl)⟩) hS0 ?_
    (try simp only [Act.put, List.getElem_toArray, List.getElem_cons_zero, List.getElem_cons_succ, List.setIfInBounds_toArray, List.set_cons_zero, List.set_cons_succ])
    refine wpAnyH_take (i := 1) (v := .pointer (some ⟨b, 0, none⟩)) rfl (by kernel_rfl) (by kernel_rfl) (by kernel_rfl) (fun _ _ _ h => h) (Or.inl ⟨by kernel_rfl, by (intro W hS; go_simp; first | done | with_reducible rfl | rfl)⟩) hS0 ?_
    (try simp only [Act.put, List.getElem_toArray, List.getElem_cons_zero, List.getElem_cons_succ, List.setIfInBounds_toArray, List.set_cons_zero, List.set_cons_succ])
    refine wpAnyH_take (i := 2) (v := .pointer (some ⟨b, 8, none⟩)) rfl (by kernel_rfl) (by kernel_rfl) (by kernel_rfl) (fun _ _ _ h => h) (Or.inl ⟨by kernel_rfl, by (intro W hS; go_simp; first | done | with_reducible rfl | rfl)⟩) hS0 ?_
    (try simp only [Act.put, List.getElem_toArray, List.getElem_cons_zero, List.getElem_cons_succ, List.setIfInBounds_toArray, List.set_cons_zero, List.set_cons_succ])
    refine wpAnyH_take (i := 3) (v := .slice A3 x.results.length c3) rfl (by kernel_rfl) (by kernel_rfl) (by kernel_rfl) (fun _ _ _ h => h) (Or.inl ⟨by kernel_rfl, by (intro W hS; have y := (HX.out.below hS HX.out.lt).cell 8; have yl := (HX.out.below hS HX.out.lt).lt; go_simp; first | done | with_reducible rfl | rfl)⟩) hS0 ?_
    (try simp only [Act.put, List.getElem_toArray, List.getElem_cons_zero, List.getElem_cons_succ, List.setIfInBounds_toArray, List.set_cons_zero, List.set_cons_succ])
    refine wpAnyH_take (i := 4) (v := .int .i64 (x.results.length : Int)) rfl (by kernel_rfl) (by kernel_rfl) (by kernel_rfl) (fun _ _ _ h => h) (Or.inl ⟨by kernel_rfl, by (intro W hS; go_simp; first | done | with_reducible rfl | rfl)⟩) hS0 ?_
    (try simp only [Act.put, List.getElem_toArray, List.getElem_cons_zero, List.getElem_cons_succ, List.setIfInBounds_toArray, List.set_cons_zero, List.set_cons_succ])
    refine wpAnyH_take (i := 5) (v := .bool true) rfl (by kernel_rfl) (by kernel_rfl) (by kernel_rfl) (fun _ _ _ h => h) (Or.inl ⟨by kernel_rfl, by (intro W hS; go_simp; first | done | with_reducible rfl | rfl)⟩) hS0 ?_
    (try simp only [Act.put, List.getElem_toArray, List.getElem_cons_zero, List.getElem_cons_succ, List.setIfInBounds_toArray, List.set_cons_zero, List.set_cons_succ])
    refine wpAnyH_take (i := 6) (v := .pointer (some ⟨b, 0, none⟩)) rfl (by kernel_rfl) (by kernel_rfl) (by kernel_rfl) (fun _ _ _ h => h) (Or.inl ⟨by kernel_rfl, by (intro W hS; go_simp; first | done | with_reducible rfl | rfl)⟩) hS0 ?_
    (try simp only [Act.put, List.getElem_toArray, List.getElem_cons_zero, List.getElem_cons_succ, List.setIfInBounds_toArray, List.set_cons_zero, List.set_cons_succ])
    refine wpAnyH_take (i := 8) (v := .pointer (some ⟨b, 0, none⟩)) rfl (by kernel_rfl) (by kernel_rfl) (by kernel_rfl) (fun _ _ _ h => h) (Or.inl ⟨by kernel_rfl, by (intro W hS; go_simp; first | done | with_reducible rfl | rfl)⟩) hS0 ?_
    (try simp only [Act.put, List.getElem_toArray, List.getElem_cons_zero, List.getElem_cons_succ, List.setIfInBounds_toArray, List.set_cons_zero, List.set_cons_succ])
    refine wpAnyH_take (i := 9) (v := .pointer (some ⟨b, 0, none⟩)) rfl (by kernel_rfl) (by kernel_rfl) (by kernel_rfl) (fun _ _ _ h => h) (Or.inl ⟨by kernel_rfl, by (intro W hS; go_simp; first | done | with_reducible rfl | rfl)⟩) hS0 ?_
    (try simp only [Act.put, List.getElem_toArray, List.getElem_cons_zero, List.getElem_cons_succ, List.setIfInBounds_toArray, List.set_cons_zero, List.set_cons_succ])
    refine wpAnyH_take (i := 10) (v := .pointer (some ⟨b, 8, none⟩)) rfl (by kernel_rfl) (by kernel_rfl) (by kernel_rfl) (fun _ _ _ h => h) (Or.inl ⟨by kernel_rfl, by (intro W hS; go_simp; first | done | with_reducible rfl | rfl)⟩) hS0 ?_
    (try simp only [Act.put, List.getElem_toArray, List.getElem_cons_zero, List.getElem_cons_succ, List.setIfInBounds_toArray, List.set_cons_zero, List.set_cons_succ])
    refine wpAnyH_take (i := 11) (v := .slice A3 x.results.length c3) rfl (by kernel_rfl) (by kernel_rfl) (by kernel_rfl) (fun _ _ _ h => h) (Or.inl ⟨by kernel_rfl, by (intro W hS; have y := (HX.out.below hS HX.out.lt).cell 8; have yl := (HX.out.below hS HX.out.lt).lt; go_simp; first | done | with_reducible rfl | rfl)⟩) hS0 ?_
    (try simp only [Act.put, List.getElem_toArray, List.getElem_cons_zero, List.getElem_cons_succ, List.setIfInBounds_toArray, List.set_cons_zero, List.set_cons_succ])
    refine wpAnyH_take (i := 12) (v := .int .i64 (x.results.length : Int)) rfl (by kernel_rfl) (by kernel_rfl) (by kernel_rfl) (fun _ _ _ h => h) (Or.inl ⟨by kernel_rfl, by (intro W hS; go_simp; first | done | with_reducible rfl | rfl)⟩) hS0 ?_
    (try simp only [Act.put, List.getElem_toArray, List.getElem_cons_zero, List.getElem_cons_succ, List.setIfInBounds_toArray, List.set_cons_zero, List.set_cons_succ])
    refine wpAnyH_take (i := 13) (v := .bool false) rfl (by kernel_rfl) (by kernel_rfl) (by kernel_rfl) (fun _ _ _ h => h) (Or.inl ⟨by kernel_rfl, by (intro W hS; go_simp; first | done | with_reducible rfl | rfl)⟩) hS0 ?_
    (try simp only [Act.put, List.getElem_toArray, List.getElem_cons_zero, List.getElem_cons_succ, List.setIfInBounds_toArray, List.set_cons_zero, List.set_cons_succ])
    refine wpAnyH_ready (rs := [7]) (by kernel_rfl) (by simp) ?_
    refine AllReadyH.cons rfl (fun K hK => ?_) AllReadyH.nil
    go_simp
    go_at_call 156
    refine (HSD.out).mono ?_
    rintro e u1 ⟨rfl, rfl⟩
    have hS1 := hS0.trans ((Below.refl _ _).mono hS0.size)
    try go_simp
    refine hK.out _ _ hS1 (fun hHeld => ?_)
    clear hK K
    refine wpAnyH_take (i := 14) (v := .bool false) rfl (by kernel_rfl) (by kernel_rfl) (by kernel_rfl) (fun _ _ _ h => h) (Or.inl ⟨by kernel_rfl, by (intro W hS; go_simp; first | done | with_reducible rfl | rfl)⟩) hS1 ?_
    (try simp only [Act.put, List.getElem_toArray, List.getElem_cons_zero, List.getElem_cons_succ, List.setIfInBounds_toArray, List.set_cons_zero, List.set_cons_succ])
    refine wpAnyH_take (i := 15) (v := undef) rfl (by kernel_rfl) (by kernel_rfl) (by kernel_rfl) (fun _ _ _ h => h) (Or.inr ⟨by kernel_rfl, rfl⟩) hS1 ?_
    (try simp only [Act.put, List.getElem_toArray, List.getElem_cons_zero, List.getElem_cons_succ, List.setIfInBounds_toArray, List.set_cons_zero, List.set_cons_succ])
    refine wpAnyH_take (i := 16) (v := undef) rfl (by kernel_rfl) (by kernel_rfl) (by kernel_rfl) (fun _ _ _ h => h) (Or.inr ⟨by kernel_rfl, rfl⟩) hS1 ?_
    (try simp only [Act.put, List.getElem_toArray, List.getElem_cons_zero, List.getElem_cons_succ, List.setIfInBounds_toArray, List.set_cons_zero, List.set_cons_succ])
    refine wpAnyH_take (i := 17) (v := undef) rfl (by kernel_rfl) (by kernel_rfl) (by kernel_rfl) (fun _ _ _ h => h) (Or.inr ⟨by kernel_rfl, rfl⟩) hS1 ?_
    (try simp only [Act.put, List.getElem_toArray, List.getElem_cons_zero, List.getElem_cons_succ, List.setIfInBounds_toArray, List.set_cons_zero, List.set_cons_succ])
    refine wpAnyH_take (i := 18) (v := undef) rfl (by kernel_rfl) (by kernel_rfl) (by kernel_rfl) (fun _ _ _ h => h) (Or.inr ⟨by kernel_rfl, rfl⟩) hS1 ?_
    (try simp only [Act.put, List.getElem_toArray, List.getElem_cons_zero, List.getElem_cons_succ, List.setIfInBounds_toArray, List.set_cons_zero, List.set_cons_succ])
    refine wpAnyH_take (i := 19) (v := undef) rfl (by kernel_rfl) (by kernel_rfl) (by kernel_rfl) (fun _ _ _ h => h) (Or.inr ⟨by kernel_rfl, rfl⟩) hS1 ?_
    (try simp only [Act.put, List.getElem_toArray, List.getElem_cons_zero, List.getElem_cons_succ, List.setIfInBounds_toArray, List.set_cons_zero, List.set_cons_succ])
    refine wpAnyH_take (i := 20) (v := undef) rfl (by kernel_rfl) (by kernel_rfl) (by kernel_rfl) (fun _ _ _ h => h) (Or.inr ⟨by kernel_rfl, rfl⟩) hS1 ?_
    (try simp only [Act.put, List.getElem_toArray, List.getElem_cons_zero, List.getElem_cons_succ, List.setIfInBounds_toArray, List.set_cons_zero, List.set_cons_succ])
    refine wpAnyH_take (i := 21) (v := undef) rfl (by kernel_rfl) (by kernel_rfl) (by kernel_rfl) (fun _ _ _ h => h) (Or.inr ⟨by kernel_rfl, rfl⟩) hS1 ?_
    (try simp only [Act.put, List.getElem_toArray, List.getElem_cons_zero, List.getElem_cons_succ, List.setIfInBounds_toArray, List.set_cons_zero, List.set_cons_succ])
    refine wpAnyH_take (i := 22) (v := .bool false) rfl (by kernel_rfl) (by kernel_rfl) (by kernel_rfl) (fun _ _ _ h => h) (Or.inl ⟨by kernel_rfl, by (intro W hS; go_simp; first | done | with_reducible rfl | rfl)⟩) hS1 ?_
    (try simp only [Act.put, List.getElem_toArray, List.getElem_cons_zero, List.getElem_cons_succ, List.setIfInBounds_toArray, List.set_cons_zero, List.set_cons_succ])
    refine wpAnyH_take (i := 23) (v := .agg ([.bool true, .bool (x.sh 3 == 1), .bool (false)] : List Value).toArray) rfl (by kernel_rfl) (by kernel_rfl) (by kernel_rfl) (fun _ _ _ h => h) (Or.inl ⟨by kernel_rfl, by (intro W hS; go_simp; first | done | with_reducible rfl | rfl)⟩) hS1 ?_
    (try simp only [Act.put, List.getElem_toArray, List.getElem_cons_zero, List.getElem_cons_succ, List.setIfInBounds_toArray, List.set_cons_zero, List.set_cons_succ])
    refine wpAnyH_ready (rs := [24]) (by kernel_rfl) (by simp) ?_
    refine AllReadyH.cons rfl (fun K hK => ?_) AllReadyH.nil
    rw [if_pos (by simp [Region.wanted])]
    refine wp_store_row 179 _ _ rfl (w.heap.size) ([.bool true, .bool (x.sh 3 == 1), .bool (false)] : List Value).toArray rfl rfl 179 ([.bool false, .bool false, .bool false] : List Value).toArray HZD.out info_tri rfl (bools_one _ _ _) ?_
    refine hK.out _ _ (below_setRow7 hS1 (Nat.le_refl _) _) (fun hSZ => ?_)
    clear hK K
    refine wpAnyH_done (by kernel_rfl) ?_ _
    go_wp2
    refine bodyPost_ret (ret_row rfl _ _ (w.heap.size) 179 [.bool true, .bool (x.sh 3 == 1), .bool (false)] (Row.setRow' (cs := [.bool false, .bool false, .bool false]) HZD.out [.bool true, .bool (x.sh 3 == 1), .bool (false)]) _ rfl Try.underlying179 rfl info_tri) rfl ?_
    exact ⟨by rw [HV.out]; rfl, hSZ⟩
  have r0 := beqf' h
  by_cases h1 : x.keeper = 2
  · have r1 := beqt' h1
    have HZD := hide (show Row w1.drew (w.heap.size) 179 [.bool false, .bool false, .bool false] from HZ.out)
    have HSD := hide (isStopped_any x _ _ b w1.drew (HX.out.below (below_drewN HB.out 1) HX.out.lt) (HO.out.below (below_drewN HB.out 1) HF.out) (HF.out.up (below_drewN HB.out 1)) HFM.out)
    have HV := hide (show x.kc = [(x.out.length : Int) == 0, x.sh 3 == 1, false] from by unfold CrewWorld.kc; rw [if_neg h, if_pos h1]; congr 1; by_cases hz : x.out.length = 0 <;> simp [hz])
    clear h h1
    go_wp2_with fail
    refine wp_region_held_drew (S := fun W => Below w.heap.size w W) (by kernel_rfl) (below_drewN HB.out 1) (fun hS0 => ?_)
    refine wpAnyH_take (i := 0) (v := .pointer (some ⟨b, 0, none⟩)) rfl (by kernel_rfl) (by kernel_rfl) (by kernel_rfl) (fun _ _ _ h => h) (Or.inl ⟨by kernel_rfl, by (intro W hS; go_simp; first | done | with_reducible rfl | rfl)⟩) hS0 ?_
    (try simp only [Act.put, List.getElem_toArray, List.getElem_cons_zero, List.getElem_cons_succ, List.setIfInBounds_toArray, List.set_cons_zero, List.set_cons_succ])
    refine wpAnyH_take (i := 1) (v := .pointer (some ⟨b, 0, none⟩)) rfl (by kernel_rfl) (by kernel_rfl) (by kernel_rfl) (fun _ _ _ h => h) (Or.inl ⟨by kernel_rfl, by (intro W hS; go_simp; first | done | with_reducible rfl | rfl)⟩) hS0 ?_
    (try simp only [Act.put, List.getElem_toArray, List.getElem_cons_zero, List.getElem_cons_succ, List.setIfInBounds_toArray, List.set_cons_zero, List.set_cons_succ])
    refine wpAnyH_take (i := 2) (v := .pointer (some ⟨b, 12, none⟩)) rfl (by kernel_rfl) (by kernel_rfl) (by kernel_rfl) (fun _ _ _ h => h) (Or.inl ⟨by kernel_rfl, by (intro W hS; go_simp; first | done | with_reducible rfl | rfl)⟩) hS0 ?_
    (try simp only [Act.put, List.getElem_toArray, List.getElem_cons_zero, List.getElem_cons_succ, List.setIfInBounds_toArray, List.set_cons_zero, List.set_cons_succ])
    refine wpAnyH_take (i := 3) (v := .slice A5 x.out.length c5) rfl (by kernel_rfl) (by kernel_rfl) (by kernel_rfl) (fun _ _ _ h => h) (Or.inl ⟨by kernel_rfl, by (intro W hS; have y := (HX.out.below hS HX.out.lt).cell 12; have yl := (HX.out.below hS HX.out.lt).lt; go_simp; first | done | with_reducible rfl | rfl)⟩) hS0 ?_
    (try simp only [Act.put, List.getElem_toArray, List.getElem_cons_zero, List.getElem_cons_succ, List.setIfInBounds_toArray, List.set_cons_zero, List.set_cons_succ])
    refine wpAnyH_take (i := 4) (v := .int .i64 (x.out.length : Int)) rfl (by kernel_rfl) (by kernel_rfl) (by kernel_rfl) (fun _ _ _ h => h) (Or.inl ⟨by kernel_rfl, by (intro W hS; go_simp; first | done | with_reducible rfl | rfl)⟩) hS0 ?_
    (try simp only [Act.put, List.getElem_toArray, List.getElem_cons_zero, List.getElem_cons_succ, List.setIfInBounds_toArray, List.set_cons_zero, List.set_cons_succ])
    refine wpAnyH_take (i := 5) (v := .bool ((x.out.length : Int) == 0)) rfl (by kernel_rfl) (by kernel_rfl) (by kernel_rfl) (fun _ _ _ h => h) (Or.inl ⟨by kernel_rfl, by (intro W hS; go_simp; first | done | with_reducible rfl | rfl)⟩) hS0 ?_
    (try simp only [Act.put, List.getElem_toArray, List.getElem_cons_zero, List.getElem_cons_succ, List.setIfInBounds_toArray, List.set_cons_zero, List.set_cons_succ])
    refine wpAnyH_take (i := 6) (v := .pointer (some ⟨b, 0, none⟩)) rfl (by kernel_rfl) (by kernel_rfl) (by kernel_rfl) (fun _ _ _ h => h) (Or.inl ⟨by kernel_rfl, by (intro W hS; go_simp; first | done | with_reducible rfl | rfl)⟩) hS0 ?_
    (try simp only [Act.put, List.getElem_toArray, List.getElem_cons_zero, List.getElem_cons_succ, List.setIfInBounds_toArray, List.set_cons_zero, List.set_cons_succ])
    refine wpAnyH_ready (rs := [7]) (by kernel_rfl) (by simp) ?_
    refine AllReadyH.cons rfl (fun K hK => ?_) AllReadyH.nil
    go_simp
    go_at_call 156
    refine (HSD.out).mono ?_
    rintro e u1 ⟨rfl, rfl⟩
    have hS1 := hS0.trans ((Below.refl _ _).mono hS0.size)
    try go_simp
    refine hK.out _ _ hS1 (fun hHeld => ?_)
    clear hK K
    refine wpAnyH_take (i := 8) (v := .agg ([.bool ((x.out.length : Int) == 0), .bool (x.sh 3 == 1), .bool false] : List Value).toArray) rfl (by kernel_rfl) (by kernel_rfl) (by kernel_rfl) (fun _ _ _ h => h) (Or.inl ⟨by kernel_rfl, by (intro W hS; go_simp; first | done | with_reducible rfl | rfl)⟩) hS1 ?_
    (try simp only [Act.put, List.getElem_toArray, List.getElem_cons_zero, List.getElem_cons_succ, List.setIfInBounds_toArray, List.set_cons_zero, List.set_cons_succ])
    refine wpAnyH_ready (rs := [9]) (by kernel_rfl) (by simp) ?_
    refine AllReadyH.cons rfl (fun K hK => ?_) AllReadyH.nil
    rw [if_pos (by simp [Region.wanted])]
    refine wp_store_row 179 _ _ rfl (w.heap.size) ([.bool ((x.out.length : Int) == 0), .bool (x.sh 3 == 1), .bool false] : List Value).toArray rfl rfl 179 ([.bool false, .bool false, .bool false] : List Value).toArray HZD.out info_tri rfl (bools_one _ _ _) ?_
    refine hK.out _ _ (below_setRow7 hS1 (Nat.le_refl _) _) (fun hSZ => ?_)
    clear hK K
    refine wpAnyH_done (by kernel_rfl) ?_ _
    go_wp2
    refine bodyPost_ret (ret_row rfl _ _ (w.heap.size) 179 [.bool ((x.out.length : Int) == 0), .bool (x.sh 3 == 1), .bool false] (Row.setRow' (cs := [.bool false, .bool false, .bool false]) HZD.out [.bool ((x.out.length : Int) == 0), .bool (x.sh 3 == 1), .bool false]) _ rfl Try.underlying179 rfl info_tri) rfl ?_
    exact ⟨by rw [HV.out]; rfl, hSZ⟩
  have r2 := beqf' h1
  by_cases h2 : x.keeper = 1
  · have r1 := beqt' h2
    have HV := hide (show x.kc = [true, false, false] from by unfold CrewWorld.kc; rw [if_neg h, if_neg h1, if_pos (.inl h2)])
    clear h h1 h2
    go_wp2_with (first | (refine wpList_store_row rfl 179 _ _ rfl (w.heap.size) ([.bool true, .bool false, .bool false] : List Value).toArray rfl rfl 179 ([.bool false, .bool false, .bool false] : List Value).toArray HZ.out info_tri rfl (bools_one _ _ _) ?_) | (go_at_call 156; refine HST.out.mono ?_; rintro e wq ⟨rfl, rfl⟩) | fail)
    refine bodyPost_ret (ret_row rfl _ _ (w.heap.size) 179 [.bool true, .bool false, .bool false] (Row.setRow' (cs := [.bool false, .bool false, .bool false]) HZ.out [.bool true, .bool false, .bool false]) _ rfl Try.underlying179 rfl info_tri) rfl ?_
    exact ⟨by rw [HV.out]; rfl, below_setRow7 HB.out (Nat.le_refl _) _⟩
  have r1 := beqf' h2
  by_cases h3 : x.keeper = 3
  · have r3 := beqt' h3
    have HV := hide (show x.kc = [true, false, false] from by unfold CrewWorld.kc; rw [if_neg h, if_neg h1, if_pos (.inr (.inl h3))])
    clear h h1 h2 h3
    go_wp2_with (first | (refine wpList_store_row rfl 179 _ _ rfl (w.heap.size) ([.bool true, .bool false, .bool false] : List Value).toArray rfl rfl 179 ([.bool false, .bool false, .bool false] : List Value).toArray HZ.out info_tri rfl (bools_one _ _ _) ?_) | (go_at_call 156; refine HST.out.mono ?_; rintro e wq ⟨rfl, rfl⟩) | fail)
    refine bodyPost_ret (ret_row rfl _ _ (w.heap.size) 179 [.bool true, .bool false, .bool false] (Row.setRow' (cs := [.bool false, .bool false, .bool false]) HZ.out [.bool true, .bool false, .bool false]) _ rfl Try.underlying179 rfl info_tri) rfl ?_
    exact ⟨by rw [HV.out]; rfl, below_setRow7 HB.out (Nat.le_refl _) _⟩
  have r3 := beqf' h3
  by_cases h4 : x.keeper = 4
  · have r4 := beqt' h4
    have HV := hide (show x.kc = [true, false, false] from by unfold CrewWorld.kc; rw [if_neg h, if_neg h1, if_pos (.inr (.inr h4))])
    clear h h1 h2 h3 h4
    go_wp2_with (first | (refine wpList_store_row rfl 179 _ _ rfl (w.heap.size) ([.bool true, .bool false, .bool false] : List Value).toArray rfl rfl 179 ([.bool false, .bool false, .bool false] : List Value).toArray HZ.out info_tri rfl (bools_one _ _ _) ?_) | (go_at_call 156; refine HST.out.mono ?_; rintro e wq ⟨rfl, rfl⟩) | fail)
    refine bodyPost_ret (ret_row rfl _ _ (w.heap.size) 179 [.bool true, .bool false, .bool false] (Row.setRow' (cs := [.bool false, .bool false, .bool false]) HZ.out [.bool true, .bool false, .bool false]) _ rfl Try.underlying179 rfl info_tri) rfl ?_
    exact ⟨by rw [HV.out]; rfl, below_setRow7 HB.out (Nat.le_refl _) _⟩
  have r4 := beqf' h4
  have HV := hide (show x.kc = [false, false, false] from by unfold CrewWorld.kc; rw [if_neg h, if_neg h1, if_neg (fun e => by rcases e with e | e | e; exact h2 e; exact h3 e; exact h4 e)])
  clear h h1 h2 h3 h4
  go_wp2_with (first | (refine wpList_store_row rfl 179 _ _ rfl (w.heap.size) ([.bool false, .bool false, .bool false] : List Value).toArray rfl rfl 179 ([.bool false, .bool false, .bool false] : List Value).toArray HZ.out info_tri rfl (bools_one _ _ _) ?_) | (go_at_call 156; refine HST.out.mono ?_; rintro e wq ⟨rfl, rfl⟩) | fail)
  refine bodyPost_ret (ret_row rfl _ _ (w.heap.size) 179 [.bool false, .bool false, .bool false] (Row.setRow' (cs := [.bool false, .bool false, .bool false]) HZ.out [.bool false, .bool false, .bool false]) _ rfl Try.underlying179 rfl info_tri) rfl ?_
  exact ⟨by rw [HV.out]; rfl, below_setRow7 HB.out (Nat.le_refl _) _⟩
set_option maxRecDepth 100000 in
set_option maxHeartbeats 8000000 in
theorem handCases_any (x : CrewWorld) (us : List Value) (fp : List Nat) (b : Nat) (w : World) (hb : Row w b 30 us) (ho : OwC w x.cells us fp) (hf : Lt fp w.heap.size) (y : CrewHand) (vs : List Value) (fy : List Nat) (hy : OwC w y.cells vs fy) (hfm : x.Form) : Calls Try.prog 164 #[.pointer (some ⟨b, 0, none⟩), .agg vs.toArray] w (TriOut (x.hc y) w) := by
  have HFM := hide hfm
  clear hfm
  obtain ⟨rfl, -, -, -⟩ := hy.oCrewHand
  clear hy
  have HO := hide ho
  have HF := hide hf
  obtain ⟨A1, c1, A2, c2, A3, c3, A4, c4, A5, c5, A6, c6, A7, c7, f1, f2, f3, f4, f5, f6, f7, rfl, wjobs, wworkers, wwindow, wnext, wreader, o1, o2, wcloser, o3, wkeeper, o4, wdue, o5, wuser, o6, wroom, o7, wops, rfl⟩ := ho.oCrewWorld
  have O7 := hide o7
  have l7 := hf.right.right.right.right.right.right
  obtain ⟨-, n7, m7⟩ := o7.nlen
  unfold maxLen at m7
  have HX := hide hb
  clear ho hb o1 o2 o3 o4 o5 o6 o7
  have x0 := HX.out.cell 0
  have xl := HX.out.lt
  go_enter Try.func164, Try.ntmps164
  clear x0
  go_upto_region 1 with fail
  generalize hw1 : (w.alloc _).alloc _ = w1
  have hb0 : Below w.heap.size w w1 := by rw [← hw1]; exact ((Below.refl _ _).alloc (Nat.le_refl _) _).alloc (by simp) _
  have HZ := hide (show Row w1 (w.heap.size + 1) 179 [.bool false, .bool false, .bool false] from by
    rw [← hw1]
    have h := Row.new (w.alloc (.cells #[.int .i64 y.state, .int .i64 y.job] 88)) 179 [.bool false, .bool false, .bool false]
    simpa using h)
  have HYY := hide (show Row w1 w.heap.size 88 [.int .i64 y.state, .int .i64 y.job] from by rw [← hw1]; exact (Row.new w _ _).alloc _)
  have HB := hide hb0
  have HX1 := hide (HX.out.below hb0 HX.out.lt)
  have HST := hide (isStopped_any x _ _ b w1 HX1.out (HO.out.below hb0 HF.out) (HF.out.up hb0) HFM.out)
  have y0 := HYY.out.cell 0
  have yl1 := HYY.out.lt
  have xl1 := HX1.out.lt
  clear hb0 hw1
  by_cases h : y.state = 0
  · have r0 : (y.state == 0) = true := beqt' h
    have r1 : (y.state == 1) = false := beqf' (by omega)
    have r2 : (y.state == 2) = false := beqf' (by omega)
    have HZD := hide (show Row w1.drew (w.heap.size + 1) 179 [.bool false, .bool false, .bool false] from HZ.out)
    have HSD := hide (isStopped_any x _ _ b w1.drew (HX.out.below (below_drewN HB.out 1) HX.out.lt) (HO.out.below (below_drewN HB.out 1) HF.out) (HF.out.up (below_drewN HB.out 1)) HFM.out)
    have h7 : x.shut.length = 4 := HFM.out.shut
    obtain ⟨g7, off7, rfl, hg7, c0', -⟩ := ints_at O7.out (show 0 < x.shut.length by omega)
    have hgl := l7 g7 hg7
    have next7 : ∀ i, i < 4 → w.cell? ⟨g7, off7 + i, none⟩ = some (.int .i64 (x.sh i)) := fun i h4 => by
      have h : i < x.shut.length := by omega
      obtain ⟨g, off, e, -, hc, -⟩ := ints_at O7.out h
      injection e with e
      injection e with e1 e2 _
      subst e1 e2
      unfold CrewWorld.sh
      rw [List.getElem?_eq_getElem h]
      exact hc
    have q0 := next7 0 (by omega)
    have q1 := next7 1 (by omega)
    have q2 := next7 2 (by omega)
    simp only [Nat.add_zero] at q0
    have hl0 : (0 : Int) < (x.shut.length : Int) := by omega
    have hse : ¬ (x.shut = []) := fun e => by rw [e] at hl0; simp at hl0
    have hl1 : (1 : Int) < (x.shut.length : Int) := by omega
    have hl2 : (2 : Int) < (x.shut.length : Int) := by omega
    clear next7 c0' h7
    by_cases hz : x.queue.length = 0
    · have HV := hide (show x.hc y = [false, x.sh 3 == 1, x.sh 0 == 1] from by unfold CrewWorld.hc; rw [if_pos h]; simp [hz])
      have z0 : decide ((0 : Int) < (x.queue.length : Int)) = false := dec_false (by omega)
      have z1 : decide (0 < x.queue.length) = false := dec_false (by omega)
      have z2 : ((x.queue.length : Int) == 0) = true := beqt' (by omega)
      have z3 : decide (x.queue.length = 0) = true := dec_true hz
      clear hz h
      go_wp2_with fail
      refine wp_region_held_drew (S := fun W => Below w.heap.size w W) (by kernel_rfl) (below_drewN HB.out 1) (fun hS0 => ?_)
      refine wpAnyH_take (i := 0) (v := .pointer (some ⟨b, 0, none⟩)) rfl (by kernel_rfl) (by kernel_rfl) (by kernel_rfl) (fun _ _ _ h => h) (Or.inl ⟨by kernel_rfl, by (intro W hS; go_simp; first | done | with_reducible rfl | rfl)⟩) hS0 ?_
      (try simp only [Act.put, List.getElem_toArray, List.getElem_cons_zero, List.getElem_cons_succ, List.setIfInBounds_toArray, List.set_cons_zero, List.set_cons_succ])
      refine wpAnyH_take (i := 1) (v := .pointer (some ⟨b, 0, none⟩)) rfl (by kernel_rfl) (by kernel_rfl) (by kernel_rfl) (fun _ _ _ h => h) (Or.inl ⟨by kernel_rfl, by (intro W hS; go_simp; first | done | with_reducible rfl | rfl)⟩) hS0 ?_
      (try simp only [Act.put, List.getElem_toArray, List.getElem_cons_zero, List.getElem_cons_succ, List.setIfInBounds_toArray, List.set_cons_zero, List.set_cons_succ])
      refine wpAnyH_take (i := 2) (v := .pointer (some ⟨b, 5, none⟩)) rfl (by kernel_rfl) (by kernel_rfl) (by kernel_rfl) (fun _ _ _ h => h) (Or.inl ⟨by kernel_rfl, by (intro W hS; go_simp; first | done | with_reducible rfl | rfl)⟩) hS0 ?_
      (try simp only [Act.put, List.getElem_toArray, List.getElem_cons_zero, List.getElem_cons_succ, List.setIfInBounds_toArray, List.set_cons_zero, List.set_cons_succ])
      refine wpAnyH_take (i := 3) (v := .slice A1 x.queue.length c1) rfl (by kernel_rfl) (by kernel_rfl) (by kernel_rfl) (fun _ _ _ h => h) (Or.inl ⟨by kernel_rfl, by (intro W hS; have y := (HX.out.below hS HX.out.lt).cell 5; have yl := (HX.out.below hS HX.out.lt).lt; go_simp; first | done | with_reducible rfl | rfl)⟩) hS0 ?_
      (try simp only [Act.put, List.getElem_toArray, List.getElem_cons_zero, List.getElem_cons_succ, List.setIfInBounds_toArray, List.set_cons_zero, List.set_cons_succ])
      refine wpAnyH_take (i := 4) (v := .int .i64 (x.queue.length : Int)) rfl (by kernel_rfl) (by kernel_rfl) (by kernel_rfl) (fun _ _ _ h => h) (Or.inl ⟨by kernel_rfl, by (intro W hS; go_simp; first | done | with_reducible rfl | rfl)⟩) hS0 ?_
      (try simp only [Act.put, List.getElem_toArray, List.getElem_cons_zero, List.getElem_cons_succ, List.setIfInBounds_toArray, List.set_cons_zero, List.set_cons_succ])
      refine wpAnyH_take (i := 5) (v := .bool false) rfl (by kernel_rfl) (by kernel_rfl) (by kernel_rfl) (fun _ _ _ h => h) (Or.inl ⟨by kernel_rfl, by (intro W hS; go_simp; first | done | with_reducible rfl | rfl)⟩) hS0 ?_
      (try simp only [Act.put, List.getElem_toArray, List.getElem_cons_zero, List.getElem_cons_succ, List.setIfInBounds_toArray, List.set_cons_zero, List.set_cons_succ])
      refine wpAnyH_take (i := 6) (v := .pointer (some ⟨b, 0, none⟩)) rfl (by kernel_rfl) (by kernel_rfl) (by kernel_rfl) (fun _ _ _ h => h) (Or.inl ⟨by kernel_rfl, by (intro W hS; go_simp; first | done | with_reducible rfl | rfl)⟩) hS0 ?_
      (try simp only [Act.put, List.getElem_toArray, List.getElem_cons_zero, List.getElem_cons_succ, List.setIfInBounds_toArray, List.set_cons_zero, List.set_cons_succ])
      refine wpAnyH_take (i := 8) (v := .pointer (some ⟨b, 0, none⟩)) rfl (by kernel_rfl) (by kernel_rfl) (by kernel_rfl) (fun _ _ _ h => h) (Or.inl ⟨by kernel_rfl, by (intro W hS; go_simp; first | done | with_reducible rfl | rfl)⟩) hS0 ?_
      (try simp only [Act.put, List.getElem_toArray, List.getElem_cons_zero, List.getElem_cons_succ, List.setIfInBounds_toArray, List.set_cons_zero, List.set_cons_succ])
      refine wpAnyH_take (i := 9) (v := .pointer (some ⟨b, 0, none⟩)) rfl (by kernel_rfl) (by kernel_rfl) (by kernel_rfl) (fun _ _ _ h => h) (Or.inl ⟨by kernel_rfl, by (intro W hS; go_simp; first | done | with_reducible rfl | rfl)⟩) hS0 ?_
      (try simp only [Act.put, List.getElem_toArray, List.getElem_cons_zero, List.getElem_cons_succ, List.setIfInBounds_toArray, List.set_cons_zero, List.set_cons_succ])
      refine wpAnyH_take (i := 10) (v := .pointer (some ⟨b, 5, none⟩)) rfl (by kernel_rfl) (by kernel_rfl) (by kernel_rfl) (fun _ _ _ h => h) (Or.inl ⟨by kernel_rfl, by (intro W hS; go_simp; first | done | with_reducible rfl | rfl)⟩) hS0 ?_
      (try simp only [Act.put, List.getElem_toArray, List.getElem_cons_zero, List.getElem_cons_succ, List.setIfInBounds_toArray, List.set_cons_zero, List.set_cons_succ])
      refine wpAnyH_take (i := 11) (v := .slice A1 x.queue.length c1) rfl (by kernel_rfl) (by kernel_rfl) (by kernel_rfl) (fun _ _ _ h => h) (Or.inl ⟨by kernel_rfl, by (intro W hS; have y := (HX.out.below hS HX.out.lt).cell 5; have yl := (HX.out.below hS HX.out.lt).lt; go_simp; first | done | with_reducible rfl | rfl)⟩) hS0 ?_
      (try simp only [Act.put, List.getElem_toArray, List.getElem_cons_zero, List.getElem_cons_succ, List.setIfInBounds_toArray, List.set_cons_zero, List.set_cons_succ])
      refine wpAnyH_take (i := 12) (v := .int .i64 (x.queue.length : Int)) rfl (by kernel_rfl) (by kernel_rfl) (by kernel_rfl) (fun _ _ _ h => h) (Or.inl ⟨by kernel_rfl, by (intro W hS; go_simp; first | done | with_reducible rfl | rfl)⟩) hS0 ?_
      (try simp only [Act.put, List.getElem_toArray, List.getElem_cons_zero, List.getElem_cons_succ, List.setIfInBounds_toArray, List.set_cons_zero, List.set_cons_succ])
      refine wpAnyH_take (i := 13) (v := .bool true) rfl (by kernel_rfl) (by kernel_rfl) (by kernel_rfl) (fun _ _ _ h => h) (Or.inl ⟨by kernel_rfl, by (intro W hS; go_simp; first | done | with_reducible rfl | rfl)⟩) hS0 ?_
      (try simp only [Act.put, List.getElem_toArray, List.getElem_cons_zero, List.getElem_cons_succ, List.setIfInBounds_toArray, List.set_cons_zero, List.set_cons_succ])
      refine wpAnyH_ready (rs := [7]) (by kernel_rfl) (by simp) ?_
      refine AllReadyH.cons rfl (fun K hK => ?_) AllReadyH.nil
      go_simp
      go_at_call 156
      refine (HSD.out).mono ?_
      rintro e u1 ⟨rfl, rfl⟩
      have hS1 := hS0.trans ((Below.refl _ _).mono hS0.size)
      try go_simp
      refine hK.out _ _ hS1 (fun hHeld => ?_)
      clear hK K
      refine wpAnyH_take (i := 14) (v := .bool true) rfl (by kernel_rfl) (by kernel_rfl) (by kernel_rfl) (fun _ _ _ h => h) (Or.inl ⟨by kernel_rfl, by (intro W hS; go_simp; first | done | with_reducible rfl | rfl)⟩) hS1 ?_
      (try simp only [Act.put, List.getElem_toArray, List.getElem_cons_zero, List.getElem_cons_succ, List.setIfInBounds_toArray, List.set_cons_zero, List.set_cons_succ])
      refine wpAnyH_take (i := 15) (v := .pointer (some ⟨b, 0, none⟩)) rfl (by kernel_rfl) (by kernel_rfl) (by kernel_rfl) (fun _ _ _ h => h) (Or.inl ⟨by kernel_rfl, by (intro W hS; go_simp; first | done | with_reducible rfl | rfl)⟩) hS1 ?_
      (try simp only [Act.put, List.getElem_toArray, List.getElem_cons_zero, List.getElem_cons_succ, List.setIfInBounds_toArray, List.set_cons_zero, List.set_cons_succ])
      refine wpAnyH_take (i := 16) (v := .pointer (some ⟨b, 0, none⟩)) rfl (by kernel_rfl) (by kernel_rfl) (by kernel_rfl) (fun _ _ _ h => h) (Or.inl ⟨by kernel_rfl, by (intro W hS; go_simp; first | done | with_reducible rfl | rfl)⟩) hS1 ?_
      (try simp only [Act.put, List.getElem_toArray, List.getElem_cons_zero, List.getElem_cons_succ, List.setIfInBounds_toArray, List.set_cons_zero, List.set_cons_succ])
      refine wpAnyH_take (i := 17) (v := .pointer (some ⟨b, 16, none⟩)) rfl (by kernel_rfl) (by kernel_rfl) (by kernel_rfl) (fun _ _ _ h => h) (Or.inl ⟨by kernel_rfl, by (intro W hS; go_simp; first | done | with_reducible rfl | rfl)⟩) hS1 ?_
      (try simp only [Act.put, List.getElem_toArray, List.getElem_cons_zero, List.getElem_cons_succ, List.setIfInBounds_toArray, List.set_cons_zero, List.set_cons_succ])
      refine wpAnyH_take (i := 18) (v := .slice (some ⟨g7, off7, none⟩) x.shut.length c7) rfl (by kernel_rfl) (by kernel_rfl) (by kernel_rfl) (fun _ _ _ h => h) (Or.inl ⟨by kernel_rfl, by (intro W hS; have y := (HX.out.below hS HX.out.lt).cell 16; have yl := (HX.out.below hS HX.out.lt).lt; go_simp; first | done | with_reducible rfl | rfl)⟩) hS1 ?_
      (try simp only [Act.put, List.getElem_toArray, List.getElem_cons_zero, List.getElem_cons_succ, List.setIfInBounds_toArray, List.set_cons_zero, List.set_cons_succ])
      refine wpAnyH_take (i := 19) (v := .pointer (some ⟨g7, off7, none⟩)) rfl (by kernel_rfl) (by kernel_rfl) (by kernel_rfl) (fun _ _ _ h => h) (Or.inl ⟨by kernel_rfl, by (intro W hS; go_simp; first | done | with_reducible rfl | rfl)⟩) hS1 ?_
      (try simp only [Act.put, List.getElem_toArray, List.getElem_cons_zero, List.getElem_cons_succ, List.setIfInBounds_toArray, List.set_cons_zero, List.set_cons_succ])
      refine wpAnyH_take (i := 20) (v := .int .i64 (x.sh 0)) rfl (by kernel_rfl) (by kernel_rfl) (by kernel_rfl) (fun _ _ _ h => h) (Or.inl ⟨by kernel_rfl, by (intro W hS; have y := (hS.cell (p := ⟨g7, off7, none⟩) hgl).trans q0; have yl := Nat.lt_of_lt_of_le hgl hS.size; go_simp; first | done | with_reducible rfl | rfl)⟩) hS1 ?_
      (try simp only [Act.put, List.getElem_toArray, List.getElem_cons_zero, List.getElem_cons_succ, List.setIfInBounds_toArray, List.set_cons_zero, List.set_cons_succ])
      refine wpAnyH_take (i := 21) (v := .bool (x.sh 0 == 1)) rfl (by kernel_rfl) (by kernel_rfl) (by kernel_rfl) (fun _ _ _ h => h) (Or.inl ⟨by kernel_rfl, by (intro W hS; go_simp; first | done | with_reducible rfl | rfl)⟩) hS1 ?_
      (try simp only [Act.put, List.getElem_toArray, List.getElem_cons_zero, List.getElem_cons_succ, List.setIfInBounds_toArray, List.set_cons_zero, List.set_cons_succ])
      refine wpAnyH_take (i := 22) (v := .bool (x.sh 0 == 1)) rfl (by kernel_rfl) (by kernel_rfl) (by kernel_rfl) (fun _ _ _ h => h) (Or.inl ⟨by kernel_rfl, by (intro W hS; go_simp; first | done | with_reducible rfl | rfl)⟩) hS1 ?_
      (try simp only [Act.put, List.getElem_toArray, List.getElem_cons_zero, List.getElem_cons_succ, List.setIfInBounds_toArray, List.set_cons_zero, List.set_cons_succ])
      refine wpAnyH_take (i := 23) (v := .agg ([.bool false, .bool (x.sh 3 == 1), .bool (x.sh 0 == 1)] : List Value).toArray) rfl (by kernel_rfl) (by kernel_rfl) (by kernel_rfl) (fun _ _ _ h => h) (Or.inl ⟨by kernel_rfl, by (intro W hS; go_simp; first | done | with_reducible rfl | rfl)⟩) hS1 ?_
      (try simp only [Act.put, List.getElem_toArray, List.getElem_cons_zero, List.getElem_cons_succ, List.setIfInBounds_toArray, List.set_cons_zero, List.set_cons_succ])
      refine wpAnyH_ready (rs := [24]) (by kernel_rfl) (by simp) ?_
      refine AllReadyH.cons rfl (fun K hK => ?_) AllReadyH.nil
      rw [if_pos (by simp [Region.wanted])]
      refine wp_store_row 179 _ _ rfl (w.heap.size + 1) ([.bool false, .bool (x.sh 3 == 1), .bool (x.sh 0 == 1)] : List Value).toArray rfl rfl 179 ([.bool false, .bool false, .bool false] : List Value).toArray HZD.out info_tri rfl (bools_one _ _ _) ?_
      refine hK.out _ _ (below_setRow7 hS1 (Nat.le_succ _) _) (fun hSZ => ?_)
      clear hK K
      refine wpAnyH_done (by kernel_rfl) ?_ _
      go_wp2
      refine bodyPost_ret (ret_row rfl _ _ (w.heap.size + 1) 179 [.bool false, .bool (x.sh 3 == 1), .bool (x.sh 0 == 1)] (Row.setRow' (cs := [.bool false, .bool false, .bool false]) HZD.out [.bool false, .bool (x.sh 3 == 1), .bool (x.sh 0 == 1)]) _ rfl Try.underlying179 rfl info_tri) rfl ?_
      exact ⟨by rw [HV.out]; rfl, hSZ⟩
    have HV := hide (show x.hc y = [true, x.sh 3 == 1, false] from by unfold CrewWorld.hc; rw [if_pos h]; simp [hz, Nat.pos_of_ne_zero hz])
    have z0 : decide ((0 : Int) < (x.queue.length : Int)) = true := dec_true (by omega)
    have z1 : decide (0 < x.queue.length) = true := dec_true (by omega)
    have z2 : ((x.queue.length : Int) == 0) = false := beqf' (by omega)
    have z3 : decide (x.queue.length = 0) = false := dec_false hz
    clear hz h
    go_wp2_with fail
    refine wp_region_held_drew (S := fun W => Below w.heap.size w W) (by kernel_rfl) (below_drewN HB.out 1) (fun hS0 => ?_)
    refine wpAnyH_take (i := 0) (v := .pointer (some ⟨b, 0, none⟩)) rfl (by kernel_rfl) (by kernel_rfl) (by kernel_rfl) (fun _ _ _ h => h) (Or.inl ⟨by kernel_rfl, by (intro W hS; go_simp; first | done | with_reducible rfl | rfl)⟩) hS0 ?_
    (try simp only [Act.put, List.getElem_toArray, List.getElem_cons_zero, List.getElem_cons_succ, List.setIfInBounds_toArray, List.set_cons_zero, List.set_cons_succ])
    refine wpAnyH_take (i := 1) (v := .pointer (some ⟨b, 0, none⟩)) rfl (by kernel_rfl) (by kernel_rfl) (by kernel_rfl) (fun _ _ _ h => h) (Or.inl ⟨by kernel_rfl, by (intro W hS; go_simp; first | done | with_reducible rfl | rfl)⟩) hS0 ?_
    (try simp only [Act.put, List.getElem_toArray, List.getElem_cons_zero, List.getElem_cons_succ, List.setIfInBounds_toArray, List.set_cons_zero, List.set_cons_succ])
    refine wpAnyH_take (i := 2) (v := .pointer (some ⟨b, 5, none⟩)) rfl (by kernel_rfl) (by kernel_rfl) (by kernel_rfl) (fun _ _ _ h => h) (Or.inl ⟨by kernel_rfl, by (intro W hS; go_simp; first | done | with_reducible rfl | rfl)⟩) hS0 ?_
    (try simp only [Act.put, List.getElem_toArray, List.getElem_cons_zero, List.getElem_cons_succ, List.setIfInBounds_toArray, List.set_cons_zero, List.set_cons_succ])
    refine wpAnyH_take (i := 3) (v := .slice A1 x.queue.length c1) rfl (by kernel_rfl) (by kernel_rfl) (by kernel_rfl) (fun _ _ _ h => h) (Or.inl ⟨by kernel_rfl, by (intro W hS; have y := (HX.out.below hS HX.out.lt).cell 5; have yl := (HX.out.below hS HX.out.lt).lt; go_simp; first | done | with_reducible rfl | rfl)⟩) hS0 ?_
    (try simp only [Act.put, List.getElem_toArray, List.getElem_cons_zero, List.getElem_cons_succ, List.setIfInBounds_toArray, List.set_cons_zero, List.set_cons_succ])
    refine wpAnyH_take (i := 4) (v := .int .i64 (x.queue.length : Int)) rfl (by kernel_rfl) (by kernel_rfl) (by kernel_rfl) (fun _ _ _ h => h) (Or.inl ⟨by kernel_rfl, by (intro W hS; go_simp; first | done | with_reducible rfl | rfl)⟩) hS0 ?_
    (try simp only [Act.put, List.getElem_toArray, List.getElem_cons_zero, List.getElem_cons_succ, List.setIfInBounds_toArray, List.set_cons_zero, List.set_cons_succ])
    refine wpAnyH_take (i := 5) (v := .bool true) rfl (by kernel_rfl) (by kernel_rfl) (by kernel_rfl) (fun _ _ _ h => h) (Or.inl ⟨by kernel_rfl, by (intro W hS; go_simp; first | done | with_reducible rfl | rfl)⟩) hS0 ?_
    (try simp only [Act.put, List.getElem_toArray, List.getElem_cons_zero, List.getElem_cons_succ, List.setIfInBounds_toArray, List.set_cons_zero, List.set_cons_succ])
    refine wpAnyH_take (i := 6) (v := .pointer (some ⟨b, 0, none⟩)) rfl (by kernel_rfl) (by kernel_rfl) (by kernel_rfl) (fun _ _ _ h => h) (Or.inl ⟨by kernel_rfl, by (intro W hS; go_simp; first | done | with_reducible rfl | rfl)⟩) hS0 ?_
    (try simp only [Act.put, List.getElem_toArray, List.getElem_cons_zero, List.getElem_cons_succ, List.setIfInBounds_toArray, List.set_cons_zero, List.set_cons_succ])
    refine wpAnyH_take (i := 8) (v := .pointer (some ⟨b, 0, none⟩)) rfl (by kernel_rfl) (by kernel_rfl) (by kernel_rfl) (fun _ _ _ h => h) (Or.inl ⟨by kernel_rfl, by (intro W hS; go_simp; first | done | with_reducible rfl | rfl)⟩) hS0 ?_
    (try simp only [Act.put, List.getElem_toArray, List.getElem_cons_zero, List.getElem_cons_succ, List.setIfInBounds_toArray, List.set_cons_zero, List.set_cons_succ])
    refine wpAnyH_take (i := 9) (v := .pointer (some ⟨b, 0, none⟩)) rfl (by kernel_rfl) (by kernel_rfl) (by kernel_rfl) (fun _ _ _ h => h) (Or.inl ⟨by kernel_rfl, by (intro W hS; go_simp; first | done | with_reducible rfl | rfl)⟩) hS0 ?_
    (try simp only [Act.put, List.getElem_toArray, List.getElem_cons_zero, List.getElem_cons_succ, List.setIfInBounds_toArray, List.set_cons_zero, List.set_cons_succ])
    refine wpAnyH_take (i := 10) (v := .pointer (some ⟨b, 5, none⟩)) rfl (by kernel_rfl) (by kernel_rfl) (by kernel_rfl) (fun _ _ _ h => h) (Or.inl ⟨by kernel_rfl, by (intro W hS; go_simp; first | done | with_reducible rfl | rfl)⟩) hS0 ?_
    (try simp only [Act.put, List.getElem_toArray, List.getElem_cons_zero, List.getElem_cons_succ, List.setIfInBounds_toArray, List.set_cons_zero, List.set_cons_succ])
    refine wpAnyH_take (i := 11) (v := .slice A1 x.queue.length c1) rfl (by kernel_rfl) (by kernel_rfl) (by kernel_rfl) (fun _ _ _ h => h) (Or.inl ⟨by kernel_rfl, by (intro W hS; have y := (HX.out.below hS HX.out.lt).cell 5; have yl := (HX.out.below hS HX.out.lt).lt; go_simp; first | done | with_reducible rfl | rfl)⟩) hS0 ?_
    (try simp only [Act.put, List.getElem_toArray, List.getElem_cons_zero, List.getElem_cons_succ, List.setIfInBounds_toArray, List.set_cons_zero, List.set_cons_succ])
    refine wpAnyH_take (i := 12) (v := .int .i64 (x.queue.length : Int)) rfl (by kernel_rfl) (by kernel_rfl) (by kernel_rfl) (fun _ _ _ h => h) (Or.inl ⟨by kernel_rfl, by (intro W hS; go_simp; first | done | with_reducible rfl | rfl)⟩) hS0 ?_
    (try simp only [Act.put, List.getElem_toArray, List.getElem_cons_zero, List.getElem_cons_succ, List.setIfInBounds_toArray, List.set_cons_zero, List.set_cons_succ])
    refine wpAnyH_take (i := 13) (v := .bool false) rfl (by kernel_rfl) (by kernel_rfl) (by kernel_rfl) (fun _ _ _ h => h) (Or.inl ⟨by kernel_rfl, by (intro W hS; go_simp; first | done | with_reducible rfl | rfl)⟩) hS0 ?_
    (try simp only [Act.put, List.getElem_toArray, List.getElem_cons_zero, List.getElem_cons_succ, List.setIfInBounds_toArray, List.set_cons_zero, List.set_cons_succ])
    refine wpAnyH_ready (rs := [7]) (by kernel_rfl) (by simp) ?_
    refine AllReadyH.cons rfl (fun K hK => ?_) AllReadyH.nil
    go_simp
    go_at_call 156
    refine (HSD.out).mono ?_
    rintro e u1 ⟨rfl, rfl⟩
    have hS1 := hS0.trans ((Below.refl _ _).mono hS0.size)
    try go_simp
    refine hK.out _ _ hS1 (fun hHeld => ?_)
    clear hK K
    refine wpAnyH_take (i := 14) (v := .bool false) rfl (by kernel_rfl) (by kernel_rfl) (by kernel_rfl) (fun _ _ _ h => h) (Or.inl ⟨by kernel_rfl, by (intro W hS; go_simp; first | done | with_reducible rfl | rfl)⟩) hS1 ?_
    (try simp only [Act.put, List.getElem_toArray, List.getElem_cons_zero, List.getElem_cons_succ, List.setIfInBounds_toArray, List.set_cons_zero, List.set_cons_succ])
    refine wpAnyH_take (i := 15) (v := undef) rfl (by kernel_rfl) (by kernel_rfl) (by kernel_rfl) (fun _ _ _ h => h) (Or.inr ⟨by kernel_rfl, rfl⟩) hS1 ?_
    (try simp only [Act.put, List.getElem_toArray, List.getElem_cons_zero, List.getElem_cons_succ, List.setIfInBounds_toArray, List.set_cons_zero, List.set_cons_succ])
    refine wpAnyH_take (i := 16) (v := undef) rfl (by kernel_rfl) (by kernel_rfl) (by kernel_rfl) (fun _ _ _ h => h) (Or.inr ⟨by kernel_rfl, rfl⟩) hS1 ?_
    (try simp only [Act.put, List.getElem_toArray, List.getElem_cons_zero, List.getElem_cons_succ, List.setIfInBounds_toArray, List.set_cons_zero, List.set_cons_succ])
    refine wpAnyH_take (i := 17) (v := undef) rfl (by kernel_rfl) (by kernel_rfl) (by kernel_rfl) (fun _ _ _ h => h) (Or.inr ⟨by kernel_rfl, rfl⟩) hS1 ?_
    (try simp only [Act.put, List.getElem_toArray, List.getElem_cons_zero, List.getElem_cons_succ, List.setIfInBounds_toArray, List.set_cons_zero, List.set_cons_succ])
    refine wpAnyH_take (i := 18) (v := undef) rfl (by kernel_rfl) (by kernel_rfl) (by kernel_rfl) (fun _ _ _ h => h) (Or.inr ⟨by kernel_rfl, rfl⟩) hS1 ?_
    (try simp only [Act.put, List.getElem_toArray, List.getElem_cons_zero, List.getElem_cons_succ, List.setIfInBounds_toArray, List.set_cons_zero, List.set_cons_succ])
    refine wpAnyH_take (i := 19) (v := undef) rfl (by kernel_rfl) (by kernel_rfl) (by kernel_rfl) (fun _ _ _ h => h) (Or.inr ⟨by kernel_rfl, rfl⟩) hS1 ?_
    (try simp only [Act.put, List.getElem_toArray, List.getElem_cons_zero, List.getElem_cons_succ, List.setIfInBounds_toArray, List.set_cons_zero, List.set_cons_succ])
    refine wpAnyH_take (i := 20) (v := undef) rfl (by kernel_rfl) (by kernel_rfl) (by kernel_rfl) (fun _ _ _ h => h) (Or.inr ⟨by kernel_rfl, rfl⟩) hS1 ?_
    (try simp only [Act.put, List.getElem_toArray, List.getElem_cons_zero, List.getElem_cons_succ, List.setIfInBounds_toArray, List.set_cons_zero, List.set_cons_succ])
    refine wpAnyH_take (i := 21) (v := undef) rfl (by kernel_rfl) (by kernel_rfl) (by kernel_rfl) (fun _ _ _ h => h) (Or.inr ⟨by kernel_rfl, rfl⟩) hS1 ?_
    (try simp only [Act.put, List.getElem_toArray, List.getElem_cons_zero, List.getElem_cons_succ, List.setIfInBounds_toArray, List.set_cons_zero, List.set_cons_succ])
    refine wpAnyH_take (i := 22) (v := .bool false) rfl (by kernel_rfl) (by kernel_rfl) (by kernel_rfl) (fun _ _ _ h => h) (Or.inl ⟨by kernel_rfl, by (intro W hS; go_simp; first | done | with_reducible rfl | rfl)⟩) hS1 ?_
    (try simp only [Act.put, List.getElem_toArray, List.getElem_cons_zero, List.getElem_cons_succ, List.setIfInBounds_toArray, List.set_cons_zero, List.set_cons_succ])
    refine wpAnyH_take (i := 23) (v := .agg ([.bool true, .bool (x.sh 3 == 1), .bool (false)] : List Value).toArray) rfl (by kernel_rfl) (by kernel_rfl) (by kernel_rfl) (fun _ _ _ h => h) (Or.inl ⟨by kernel_rfl, by (intro W hS; go_simp; first | done | with_reducible rfl | rfl)⟩) hS1 ?_
    (try simp only [Act.put, List.getElem_toArray, List.getElem_cons_zero, List.getElem_cons_succ, List.setIfInBounds_toArray, List.set_cons_zero, List.set_cons_succ])
    refine wpAnyH_ready (rs := [24]) (by kernel_rfl) (by simp) ?_
    refine AllReadyH.cons rfl (fun K hK => ?_) AllReadyH.nil
    rw [if_pos (by simp [Region.wanted])]
    refine wp_store_row 179 _ _ rfl (w.heap.size + 1) ([.bool true, .bool (x.sh 3 == 1), .bool (false)] : List Value).toArray rfl rfl 179 ([.bool false, .bool false, .bool false] : List Value).toArray HZD.out info_tri rfl (bools_one _ _ _) ?_
    refine hK.out _ _ (below_setRow7 hS1 (Nat.le_succ _) _) (fun hSZ => ?_)
    clear hK K
    refine wpAnyH_done (by kernel_rfl) ?_ _
    go_wp2
    refine bodyPost_ret (ret_row rfl _ _ (w.heap.size + 1) 179 [.bool true, .bool (x.sh 3 == 1), .bool (false)] (Row.setRow' (cs := [.bool false, .bool false, .bool false]) HZD.out [.bool true, .bool (x.sh 3 == 1), .bool (false)]) _ rfl Try.underlying179 rfl info_tri) rfl ?_
    exact ⟨by rw [HV.out]; rfl, hSZ⟩
  have r0 := beqf' h
  by_cases h1 : y.state = 1
  · have r1 := beqt' h1
    have HV := hide (show x.hc y = [true, false, false] from by unfold CrewWorld.hc; rw [if_neg h, if_pos h1])
    clear h h1
    go_wp2_with (first | (refine wpList_store_row rfl 179 _ _ rfl (w.heap.size + 1) ([.bool true, .bool false, .bool false] : List Value).toArray rfl rfl 179 ([.bool false, .bool false, .bool false] : List Value).toArray HZ.out info_tri rfl (bools_one _ _ _) ?_) | (go_at_call 156; refine HST.out.mono ?_; rintro e wq ⟨rfl, rfl⟩) | fail)
    refine bodyPost_ret (ret_row rfl _ _ (w.heap.size + 1) 179 [.bool true, .bool false, .bool false] (Row.setRow' (cs := [.bool false, .bool false, .bool false]) HZ.out [.bool true, .bool false, .bool false]) _ rfl Try.underlying179 rfl info_tri) rfl ?_
    exact ⟨by rw [HV.out]; rfl, below_setRow7 HB.out (Nat.le_succ _) _⟩
  have r1 := beqf' h1
  by_cases h2 : y.state = 2
  · have r2 := beqt' h2
    have HZD := hide (show Row w1.drew (w.heap.size + 1) 179 [.bool false, .bool false, .bool false] from HZ.out)
    have HSD := hide (isStopped_any x _ _ b w1.drew (HX.out.below (below_drewN HB.out 1) HX.out.lt) (HO.out.below (below_drewN HB.out 1) HF.out) (HF.out.up (below_drewN HB.out 1)) HFM.out)
    have HV := hide (show x.hc y = [decide ((x.results.length : Int) < x.workers), x.sh 3 == 1, false] from by unfold CrewWorld.hc; rw [if_neg h, if_neg h1, if_pos h2])
    clear h h1 h2
    go_wp2_with fail
    refine wp_region_held_drew (S := fun W => Below w.heap.size w W) (by kernel_rfl) (below_drewN HB.out 1) (fun hS0 => ?_)
    refine wpAnyH_take (i := 0) (v := .pointer (some ⟨b, 0, none⟩)) rfl (by kernel_rfl) (by kernel_rfl) (by kernel_rfl) (fun _ _ _ h => h) (Or.inl ⟨by kernel_rfl, by (intro W hS; go_simp; first | done | with_reducible rfl | rfl)⟩) hS0 ?_
    (try simp only [Act.put, List.getElem_toArray, List.getElem_cons_zero, List.getElem_cons_succ, List.setIfInBounds_toArray, List.set_cons_zero, List.set_cons_succ])
    refine wpAnyH_take (i := 1) (v := .pointer (some ⟨b, 0, none⟩)) rfl (by kernel_rfl) (by kernel_rfl) (by kernel_rfl) (fun _ _ _ h => h) (Or.inl ⟨by kernel_rfl, by (intro W hS; go_simp; first | done | with_reducible rfl | rfl)⟩) hS0 ?_
    (try simp only [Act.put, List.getElem_toArray, List.getElem_cons_zero, List.getElem_cons_succ, List.setIfInBounds_toArray, List.set_cons_zero, List.set_cons_succ])
    refine wpAnyH_take (i := 2) (v := .pointer (some ⟨b, 8, none⟩)) rfl (by kernel_rfl) (by kernel_rfl) (by kernel_rfl) (fun _ _ _ h => h) (Or.inl ⟨by kernel_rfl, by (intro W hS; go_simp; first | done | with_reducible rfl | rfl)⟩) hS0 ?_
    (try simp only [Act.put, List.getElem_toArray, List.getElem_cons_zero, List.getElem_cons_succ, List.setIfInBounds_toArray, List.set_cons_zero, List.set_cons_succ])
    refine wpAnyH_take (i := 3) (v := .slice A3 x.results.length c3) rfl (by kernel_rfl) (by kernel_rfl) (by kernel_rfl) (fun _ _ _ h => h) (Or.inl ⟨by kernel_rfl, by (intro W hS; have y := (HX.out.below hS HX.out.lt).cell 8; have yl := (HX.out.below hS HX.out.lt).lt; go_simp; first | done | with_reducible rfl | rfl)⟩) hS0 ?_
    (try simp only [Act.put, List.getElem_toArray, List.getElem_cons_zero, List.getElem_cons_succ, List.setIfInBounds_toArray, List.set_cons_zero, List.set_cons_succ])
    refine wpAnyH_take (i := 4) (v := .int .i64 (x.results.length : Int)) rfl (by kernel_rfl) (by kernel_rfl) (by kernel_rfl) (fun _ _ _ h => h) (Or.inl ⟨by kernel_rfl, by (intro W hS; go_simp; first | done | with_reducible rfl | rfl)⟩) hS0 ?_
    (try simp only [Act.put, List.getElem_toArray, List.getElem_cons_zero, List.getElem_cons_succ, List.setIfInBounds_toArray, List.set_cons_zero, List.set_cons_succ])
    refine wpAnyH_take (i := 5) (v := .pointer (some ⟨b, 0, none⟩)) rfl (by kernel_rfl) (by kernel_rfl) (by kernel_rfl) (fun _ _ _ h => h) (Or.inl ⟨by kernel_rfl, by (intro W hS; go_simp; first | done | with_reducible rfl | rfl)⟩) hS0 ?_
    (try simp only [Act.put, List.getElem_toArray, List.getElem_cons_zero, List.getElem_cons_succ, List.setIfInBounds_toArray, List.set_cons_zero, List.set_cons_succ])
    refine wpAnyH_take (i := 6) (v := .pointer (some ⟨b, 0, none⟩)) rfl (by kernel_rfl) (by kernel_rfl) (by kernel_rfl) (fun _ _ _ h => h) (Or.inl ⟨by kernel_rfl, by (intro W hS; go_simp; first | done | with_reducible rfl | rfl)⟩) hS0 ?_
    (try simp only [Act.put, List.getElem_toArray, List.getElem_cons_zero, List.getElem_cons_succ, List.setIfInBounds_toArray, List.set_cons_zero, List.set_cons_succ])
    refine wpAnyH_take (i := 7) (v := .pointer (some ⟨b, 1, none⟩)) rfl (by kernel_rfl) (by kernel_rfl) (by kernel_rfl) (fun _ _ _ h => h) (Or.inl ⟨by kernel_rfl, by (intro W hS; go_simp; first | done | with_reducible rfl | rfl)⟩) hS0 ?_
    (try simp only [Act.put, List.getElem_toArray, List.getElem_cons_zero, List.getElem_cons_succ, List.setIfInBounds_toArray, List.set_cons_zero, List.set_cons_succ])
    refine wpAnyH_take (i := 8) (v := .int .i64 x.workers) rfl (by kernel_rfl) (by kernel_rfl) (by kernel_rfl) (fun _ _ _ h => h) (Or.inl ⟨by kernel_rfl, by (intro W hS; have y := (HX.out.below hS HX.out.lt).cell 1; have yl := (HX.out.below hS HX.out.lt).lt; go_simp; first | done | with_reducible rfl | rfl)⟩) hS0 ?_
    (try simp only [Act.put, List.getElem_toArray, List.getElem_cons_zero, List.getElem_cons_succ, List.setIfInBounds_toArray, List.set_cons_zero, List.set_cons_succ])
    refine wpAnyH_take (i := 9) (v := .bool (decide ((x.results.length : Int) < x.workers))) rfl (by kernel_rfl) (by kernel_rfl) (by kernel_rfl) (fun _ _ _ h => h) (Or.inl ⟨by kernel_rfl, by (intro W hS; go_simp; first | done | with_reducible rfl | rfl)⟩) hS0 ?_
    (try simp only [Act.put, List.getElem_toArray, List.getElem_cons_zero, List.getElem_cons_succ, List.setIfInBounds_toArray, List.set_cons_zero, List.set_cons_succ])
    refine wpAnyH_take (i := 10) (v := .pointer (some ⟨b, 0, none⟩)) rfl (by kernel_rfl) (by kernel_rfl) (by kernel_rfl) (fun _ _ _ h => h) (Or.inl ⟨by kernel_rfl, by (intro W hS; go_simp; first | done | with_reducible rfl | rfl)⟩) hS0 ?_
    (try simp only [Act.put, List.getElem_toArray, List.getElem_cons_zero, List.getElem_cons_succ, List.setIfInBounds_toArray, List.set_cons_zero, List.set_cons_succ])
    refine wpAnyH_ready (rs := [11]) (by kernel_rfl) (by simp) ?_
    refine AllReadyH.cons rfl (fun K hK => ?_) AllReadyH.nil
    go_simp
    go_at_call 156
    refine (HSD.out).mono ?_
    rintro e u1 ⟨rfl, rfl⟩
    have hS1 := hS0.trans ((Below.refl _ _).mono hS0.size)
    try go_simp
    refine hK.out _ _ hS1 (fun hHeld => ?_)
    clear hK K
    refine wpAnyH_take (i := 12) (v := .agg ([.bool (decide ((x.results.length : Int) < x.workers)), .bool (x.sh 3 == 1), .bool false] : List Value).toArray) rfl (by kernel_rfl) (by kernel_rfl) (by kernel_rfl) (fun _ _ _ h => h) (Or.inl ⟨by kernel_rfl, by (intro W hS; go_simp; first | done | with_reducible rfl | rfl)⟩) hS1 ?_
    (try simp only [Act.put, List.getElem_toArray, List.getElem_cons_zero, List.getElem_cons_succ, List.setIfInBounds_toArray, List.set_cons_zero, List.set_cons_succ])
    refine wpAnyH_ready (rs := [13]) (by kernel_rfl) (by simp) ?_
    refine AllReadyH.cons rfl (fun K hK => ?_) AllReadyH.nil
    rw [if_pos (by simp [Region.wanted])]
    refine wp_store_row 179 _ _ rfl (w.heap.size + 1) ([.bool (decide ((x.results.length : Int) < x.workers)), .bool (x.sh 3 == 1), .bool false] : List Value).toArray rfl rfl 179 ([.bool false, .bool false, .bool false] : List Value).toArray HZD.out info_tri rfl (bools_one _ _ _) ?_
    refine hK.out _ _ (below_setRow7 hS1 (Nat.le_succ _) _) (fun hSZ => ?_)
    clear hK K
    refine wpAnyH_done (by kernel_rfl) ?_ _
    go_wp2
    refine bodyPost_ret (ret_row rfl _ _ (w.heap.size + 1) 179 [.bool (decide ((x.results.length : Int) < x.workers)), .bool (x.sh 3 == 1), .bool false] (Row.setRow' (cs := [.bool false, .bool false, .bool false]) HZD.out [.bool (decide ((x.results.length : Int) < x.workers)), .bool (x.sh 3 == 1), .bool false]) _ rfl Try.underlying179 rfl info_tri) rfl ?_
    exact ⟨by rw [HV.out]; rfl, hSZ⟩
  have r2 := beqf' h2
  have HV := hide (show x.hc y = [false, false, false] from by unfold CrewWorld.hc; rw [if_neg h, if_neg h1, if_neg h2])
  clear h h1 h2
  go_wp2_with (first | (refine wpList_store_row rfl 179 _ _ rfl (w.heap.size + 1) ([.bool false, .bool false, .bool false] : List Value).toArray rfl rfl 179 ([.bool false, .bool false, .bool false] : List Value).toArray HZ.out info_tri rfl (bools_one _ _ _) ?_) | (go_at_call 156; refine HST.out.mono ?_; rintro e wq ⟨rfl, rfl⟩) | fail)
  refine bodyPost_ret (ret_row rfl _ _ (w.heap.size + 1) 179 [.bool false, .bool false, .bool false] (Row.setRow' (cs := [.bool false, .bool false, .bool false]) HZ.out [.bool false, .bool false, .bool false]) _ rfl Try.underlying179 rfl info_tri) rfl ?_
  exact ⟨by rw [HV.out]; rfl, below_setRow7 HB.out (Nat.le_succ _) _⟩
end Go.Proofs.Ytpkjjfnfolbcoaa
set_option linter.unusedVariables false
set_option linter.unusedSimpArgs false
namespace Go.Proofs.Ytpkjjfnfolbcoaa
open Go.ChangeShapes Go.WideShapes Go.ChangeAt Go.RowKit

set_option maxRecDepth 100000 in
theorem index3_lit (a b c : Bool) (q : Nat) (h : q < 3) (u : World) : (Instr.index 179 (.agg #[.bool a, .bool b, .bool c]) (.int .i64 (q : Int))).run Try.prog u = .ok (.bool ([a, b, c][q]'(by simpa using h))) u := by
  obtain rfl | rfl | rfl : q = 0 ∨ q = 1 ∨ q = 2 := by omega
  all_goals rfl
def CasesOut (l : List Int) (w : World) (e : Ending) (w' : World) : Prop := PlacesOut l w e w'
set_option maxRecDepth 100000 in
set_option maxHeartbeats 8000000 in
theorem cases_any (x : CrewWorld) (us : List Value) (fp : List Nat) (b : Nat) (w : World) (hb : Row w b 30 us) (ho : OwC w x.cells us fp) (hf : Lt fp w.heap.size) (hfm : x.Form) (who : Nat) (hwho : (who : Int) ≤ x.workers + 3) : Calls Try.prog 132 #[.pointer (some ⟨b, 0, none⟩), .int .i64 (who : Int)] w (PlacesOut (idxs 0 (x.tri who)) w) := by
  have HFM := hide hfm
  have HHL := hide hfm.hands
  have hww := hfm.start.2.1
  clear hfm
  have HO := hide ho
  have HF := hide hf
  obtain ⟨A1, c1, A2, c2, A3, c3, A4, c4, A5, c5, A6, c6, A7, c7, f1, f2, f3, f4, f5, f6, f7, rfl, wjobs, wworkers, wwindow, wnext, wreader, o1, o2, wcloser, o3, wkeeper, o4, wdue, o5, wuser, o6, wroom, o7, wops, rfl⟩ := ho.oCrewWorld
  have O2 := hide o2
  have l2 := hf.right.left
  obtain ⟨-, n2, m2⟩ := o2.nlen
  unfold maxLen at m2
  have O7 := hide o7
  have l7 := hf.right.right.right.right.right.right
  obtain ⟨-, n7, m7⟩ := o7.nlen
  unfold maxLen at m7
  have HX := hide hb
  clear ho hb o1 o2 o3 o4 o5 o6 o7
  have x0 := HX.out.cell 0
  have xl := HX.out.lt
  go_enter Try.func132, Try.ntmps132
  clear x0 xl
  go_upto_region 2 with fail
  generalize hw1 : w.alloc _ = w1
  have hb0 : Below w.heap.size w w1 := by rw [← hw1]; exact (Below.refl _ _).alloc (Nat.le_refl _) _
  have HR1 := hide (show Row w1 w.heap.size 179 ([.bool false, .bool false, .bool false] : List Value) from by rw [← hw1]; exact Row.new w _ _)
  have HB1 := hide hb0
  have HX1 := hide (HX.out.below hb0 HX.out.lt)
  have HO1 := hide (HO.out.below hb0 HF.out)
  have HF1 := hide (HF.out.up hb0)
  have HN1 := hide (closerNo_any x _ _ b w1 HX1.out HO1.out HF1.out HFM.out)
  have HN2 := hide (keeperNo_any x _ _ b w1 HX1.out HO1.out HF1.out HFM.out)
  have HN3 := hide (userNo_any x _ _ b w1 HX1.out HO1.out HF1.out HFM.out)
  have O2 := hide (O2.out.below hb0 l2)
  have O7 := hide (O7.out.below hb0 l7)
  have l2 := l2.up hb0
  have l7 := l7.up hb0
  have bl := HR1.out.lt
  clear hw1 hb0 HX HO HF
  by_cases h0 : who = 0
  · have HT := hide (show x.tri who = x.rc from by unfold CrewWorld.tri; rw [if_pos h0])
    have r0 : ((who : Int) == 0) = true := beqt' (by omega)
    clear h0
    have HC0 := hide (readerCases_any x _ _ b w1 HX1.out HO1.out HF1.out HFM.out)
    have hl3 := rc_len x
    obtain ⟨tv, htv⟩ : ∃ tv, tv = x.rc := ⟨_, rfl⟩
    rw [← htv] at HC0 hl3 HT
    obtain ⟨p0, p1, p2, rfl⟩ : ∃ p0 p1 p2, tv = [p0, p1, p2] := by
      match tv, hl3 with
      | [a, b, c], _ => exact ⟨a, b, c, rfl⟩
    have hone := bools_one p0 p1 p2
    have HC := hide (show Calls _ _ _ w1 (fun e w' => e = .returned (.agg ([.bool p0, .bool p1, .bool p2] : List Value).toArray) ∧ Below w1.heap.size w1 w') from HC0.out)
    clear htv hl3 HC0
    go_upto_region 13 with (first | (go_at_call 162; refine HC.out.mono ?_; rintro e w2 ⟨rfl, hb2⟩; have HR2 := hide (HR1.out.below hb2 HR1.out.lt); have hz2 := HR2.out.lt) | (refine wpList_store_row rfl 179 _ _ rfl w.heap.size ([.bool p0, .bool p1, .bool p2] : List Value).toArray rfl rfl 179 ([.bool false, .bool false, .bool false] : List Value).toArray HR2.out info_tri rfl hone ?_) | fail)
    have HB2 := hide (HB1.out.trans (hb2.mono HB1.out.size))
    generalize hw5 : World.setRow _ _ _ = w5
    have HR5 := hide (show Row w5 w.heap.size 179 ([.bool p0, .bool p1, .bool p2] : List Value) from by rw [← hw5]; exact Row.setRow' (cs := [.bool false, .bool false, .bool false]) HR2.out ([.bool p0, .bool p1, .bool p2] : List Value))
    have HB5 := hide (show Below w.heap.size w w5 from by rw [← hw5]; exact below_setRow7 HB2.out (Nat.le_refl _) _)
    clear hw5 HC HR2 hb2 HB2 hz2 HR1

    obtain ⟨tl, htl⟩ : ∃ tl, tl = [p0, p1, p2] := ⟨_, rfl⟩
    have HTL := hide (show x.tri who = tl from by rw [htl]; exact HT.out)
    have htl3 : tl.length = 3 := by rw [htl]; rfl
    have HIX := hide (fun (q : Nat) (h : q < 3) (u : World) => show (Instr.index 179 (.agg #[.bool p0, .bool p1, .bool p2]) (.int .i64 (q : Int))).run Try.prog u = .ok (.bool (tl[q]'(by omega))) u from by
      have h1 := index3_lit p0 p1 p2 q h u
      rw [h1]
      simp only [htl])
    have c0 := HR5.out.cell 0
    have c1 := HR5.out.cell 1
    have c2 := HR5.out.cell 2
    have cl := HR5.out.lt
    have HP0 := hide (Pl.empty w5)
    have hb51 : Below w5.heap.size w5 (w5.alloc (.cells #[] 3)) := (Below.refl _ _).alloc (Nat.le_refl _) _
    have HR6 := hide (HR5.out.below hb51 HR5.out.lt)
    have d0 := HR6.out.cell 0
    have d1' := HR6.out.cell 1
    have d2 := HR6.out.cell 2
    have dl := HR6.out.lt
    obtain ⟨ia, hia, ja0, ja1, ja2⟩ := info_parts info_int
    have HIa := hide hia
    clear hia htl hb51
    go_wp2_with fail
    go_loopw [6, 88] (fun s i wr => ∃ (j : Nat) (E : Option Addr) (en ec : Nat) (ue : List Value), i = .int .i64 j ∧ j ≤ 3 ∧ s = .slice E en ec ∧ Pl w5.heap.size w5 wr (.slice E en ec) (idxs 0 (tl.take j)) ue) (fun _ i _ => 3 - (intOf i).toNat)
    case atStart => exact ⟨0, _, _, _, _, rfl, by omega, rfl, HP0.out.same (by simp [idxs])⟩
    case round =>
      obtain ⟨j, E, en, ec, ue, rfl, hj, rfl, hp⟩ := hrel
      have HPR := hide hp
      have hwr : w5.heap.size ≤ wr.heap.size := hp.sz
      have hil := idxs_len (tl.take j) 0
      have htk : (tl.take j).length ≤ 3 := by rw [List.length_take]; omega
      clear hp
      by_cases hlt : j < 3
      · have hjI : (j : Int) < 3 := by omega
        have hj0 : (0 : Int) ≤ (j : Int) := by omega
        have hjl : j < tl.length := by omega
        have hix := HIX.out j hlt
        have HSN := hide (idxs_snoc tl 0 j hjl)
        have hjw : (Lit.int .i64 (j : Int)).wf = true := WalkArith.wf_i64 (by omega)
        generalize tl[j] = q at *
        cases q
        · have HS := hide (show idxs 0 (tl.take j) = idxs 0 (tl.take (j + 1)) from by rw [HSN.out]; simp)
          go_wp2
          go_roundw
          case rel => exact ⟨j + 1, _, _, _, _, by go_num, by omega, rfl, HPR.out.same HS.out⟩
          case measure => simp [intOf]; omega
        · have HS := hide (show idxs 0 (tl.take j) ++ [(j : Int)] = idxs 0 (tl.take (j + 1)) from by rw [HSN.out]; simp)
          have HPA := hide (HPR.out.alloc (.cells #[.int .i64 (j : Int)] 3))
          go_wp2_with (first | (at_builtin; refine wpl_app rfl _ _ 22 rfl ia _ 8 Try.underlying22 HIa.out ja0 ja1 ja2 rfl (by decide) intC_len rfl HPA.out.own [(j : Int)] (int_src _ hjw _) (by exact New.nil _ _) (fun q _ hq => by cases hq) _ _ _ rfl rfl (SrcAt.new wr _ _ _ _) (by first | omega | (simp only [List.length_append, List.length_take, List.length_singleton, List.length_nil, List.length_cons]; omega)) (by decide) HPA.out.sz ?_; intro w5A w5n w5c w5 hn5 hown5 hgb5; have HP5 := hide (HPA.out.put hgb5 hown5); clear hown5 hgb5 hn5) | fail)
          go_roundw
          case rel => exact ⟨j + 1, _, _, _, _, by go_num, by omega, rfl, HP5.out.same HS.out⟩
          case measure => simp [intOf]; omega
      · obtain rfl : j = 3 := by omega
        have HS := hide (show idxs 0 (tl.take 3) = idxs 0 (x.tri who) from by rw [HTL.out, ← htl3, List.take_length])
        go_wp2
        go_ret
        exact (HPR.out.same HS.out).out HB5.out HB5.out.size
  have r0 : ((who : Int) == 0) = false := beqf' (by omega)
  have H0 := hide h0
  clear h0
  by_cases h1 : (who : Int) = x.workers + 1
  · have r1 : ((who : Int) == x.workers + 1) = true := beqt' h1
    have HT := hide (show x.tri who = [(x.closer == 0) && tb x.allDone, false, false] from by unfold CrewWorld.tri; rw [if_neg H0.out, if_pos h1])
    have HC := hide (haveEnded_any x _ _ b w1 HX1.out HO1.out HF1.out)
    have x7 := HX1.out.cell 7
    have xl := HX1.out.lt
    clear h1
    by_cases hc : x.closer = 0
    · have rc := beqt' hc
      obtain ⟨p0, hp0⟩ : ∃ p0, p0 = tb x.allDone := ⟨_, rfl⟩
      obtain ⟨p1, hp1⟩ : ∃ p1, p1 = false := ⟨_, rfl⟩
      obtain ⟨p2, hp2⟩ : ∃ p2, p2 = false := ⟨_, rfl⟩
      have Q0 := hide hp0
      have Q1 := hide hp1
      have Q2 := hide hp2
      clear hp0 hp1 hp2
      have HT := hide (show x.tri who = [p0, p1, p2] from by rw [HT.out, rc, Q0.out, Q1.out, Q2.out]; rfl)
      rw [← Q0.out] at HC
      clear hc
      go_upto_region 13 with (first | (go_at_call 134; refine (HN1.out).mono ?_; rintro e wq1 ⟨rfl, hwq1⟩; rw [hwq1]; clear hwq1 wq1) | (go_at_call 135; refine (HN2.out).mono ?_; rintro e wq2 ⟨rfl, hwq2⟩; rw [hwq2]; clear hwq2 wq2) | (go_at_call 137; refine (HN3.out).mono ?_; rintro e wq3 ⟨rfl, hwq3⟩; rw [hwq3]; clear hwq3 wq3) | (go_at_call 63; refine HC.out.mono ?_; rintro e w2 ⟨rfl, hb2⟩; have HR2 := hide (HR1.out.below hb2 HR1.out.lt); have hz2 := HR2.out.lt; have hc2 := HR2.out.cell 0; have hf2 := HR2.out.frozen 0; have HB2 := hide (HB1.out.trans (hb2.mono HB1.out.size))) | fail)
      generalize hw5 : w2.setCell _ _ = w5
      have HR5 := hide (show Row w5 w.heap.size 179 ([.bool p0, .bool p1, .bool p2] : List Value) from by rw [← hw5, Q1.out, Q2.out]; exact HR2.out.set 0 (.bool p0))
      have HB5 := hide (show Below w.heap.size w w5 from by rw [← hw5]; exact HB2.out.setCell (by show w.heap.size ≤ w.heap.size; omega) _)
      clear hw5 HR1 Q0 Q1 Q2

      obtain ⟨tl, htl⟩ : ∃ tl, tl = [p0, p1, p2] := ⟨_, rfl⟩
      have HTL := hide (show x.tri who = tl from by rw [htl]; exact HT.out)
      have htl3 : tl.length = 3 := by rw [htl]; rfl
      have HIX := hide (fun (q : Nat) (h : q < 3) (u : World) => show (Instr.index 179 (.agg #[.bool p0, .bool p1, .bool p2]) (.int .i64 (q : Int))).run Try.prog u = .ok (.bool (tl[q]'(by omega))) u from by
        have h1 := index3_lit p0 p1 p2 q h u
        rw [h1]
        simp only [htl])
      have c0 := HR5.out.cell 0
      have c1 := HR5.out.cell 1
      have c2 := HR5.out.cell 2
      have cl := HR5.out.lt
      have HP0 := hide (Pl.empty w5)
      have hb51 : Below w5.heap.size w5 (w5.alloc (.cells #[] 3)) := (Below.refl _ _).alloc (Nat.le_refl _) _
      have HR6 := hide (HR5.out.below hb51 HR5.out.lt)
      have d0 := HR6.out.cell 0
      have d1' := HR6.out.cell 1
      have d2 := HR6.out.cell 2
      have dl := HR6.out.lt
      obtain ⟨ia, hia, ja0, ja1, ja2⟩ := info_parts info_int
      have HIa := hide hia
      clear hia htl hb51
      go_wp2_with fail
      go_loopw [6, 88] (fun s i wr => ∃ (j : Nat) (E : Option Addr) (en ec : Nat) (ue : List Value), i = .int .i64 j ∧ j ≤ 3 ∧ s = .slice E en ec ∧ Pl w5.heap.size w5 wr (.slice E en ec) (idxs 0 (tl.take j)) ue) (fun _ i _ => 3 - (intOf i).toNat)
      case atStart => exact ⟨0, _, _, _, _, rfl, by omega, rfl, HP0.out.same (by simp [idxs])⟩
      case round =>
        obtain ⟨j, E, en, ec, ue, rfl, hj, rfl, hp⟩ := hrel
        have HPR := hide hp
        have hwr : w5.heap.size ≤ wr.heap.size := hp.sz
        have hil := idxs_len (tl.take j) 0
        have htk : (tl.take j).length ≤ 3 := by rw [List.length_take]; omega
        clear hp
        by_cases hlt : j < 3
        · have hjI : (j : Int) < 3 := by omega
          have hj0 : (0 : Int) ≤ (j : Int) := by omega
          have hjl : j < tl.length := by omega
          have hix := HIX.out j hlt
          have HSN := hide (idxs_snoc tl 0 j hjl)
          have hjw : (Lit.int .i64 (j : Int)).wf = true := WalkArith.wf_i64 (by omega)
          generalize tl[j] = q at *
          cases q
          · have HS := hide (show idxs 0 (tl.take j) = idxs 0 (tl.take (j + 1)) from by rw [HSN.out]; simp)
            go_wp2
            go_roundw
            case rel => exact ⟨j + 1, _, _, _, _, by go_num, by omega, rfl, HPR.out.same HS.out⟩
            case measure => simp [intOf]; omega
          · have HS := hide (show idxs 0 (tl.take j) ++ [(j : Int)] = idxs 0 (tl.take (j + 1)) from by rw [HSN.out]; simp)
            have HPA := hide (HPR.out.alloc (.cells #[.int .i64 (j : Int)] 3))
            go_wp2_with (first | (at_builtin; refine wpl_app rfl _ _ 22 rfl ia _ 8 Try.underlying22 HIa.out ja0 ja1 ja2 rfl (by decide) intC_len rfl HPA.out.own [(j : Int)] (int_src _ hjw _) (by exact New.nil _ _) (fun q _ hq => by cases hq) _ _ _ rfl rfl (SrcAt.new wr _ _ _ _) (by first | omega | (simp only [List.length_append, List.length_take, List.length_singleton, List.length_nil, List.length_cons]; omega)) (by decide) HPA.out.sz ?_; intro w5A w5n w5c w5 hn5 hown5 hgb5; have HP5 := hide (HPA.out.put hgb5 hown5); clear hown5 hgb5 hn5) | fail)
            go_roundw
            case rel => exact ⟨j + 1, _, _, _, _, by go_num, by omega, rfl, HP5.out.same HS.out⟩
            case measure => simp [intOf]; omega
        · obtain rfl : j = 3 := by omega
          have HS := hide (show idxs 0 (tl.take 3) = idxs 0 (x.tri who) from by rw [HTL.out, ← htl3, List.take_length])
          go_wp2
          go_ret
          exact (HPR.out.same HS.out).out HB5.out HB5.out.size
    have rc := beqf' hc
    obtain ⟨p0, hp0⟩ : ∃ p0, p0 = false := ⟨_, rfl⟩
    obtain ⟨p1, hp1⟩ : ∃ p1, p1 = false := ⟨_, rfl⟩
    obtain ⟨p2, hp2⟩ : ∃ p2, p2 = false := ⟨_, rfl⟩
    have Q0 := hide hp0
    have Q1 := hide hp1
    have Q2 := hide hp2
    clear hp0 hp1 hp2
    have HT := hide (show x.tri who = [p0, p1, p2] from by rw [HT.out, rc, Q0.out, Q1.out, Q2.out]; rfl)
    clear hc
    have hc1 := HR1.out.cell 0
    have hf1 := HR1.out.frozen 0
    have hd1 := HR1.out.cell 1
    have he1 := HR1.out.frozen 1
    go_upto_region 13 with (first | (go_at_call 134; refine (HN1.out).mono ?_; rintro e wq1 ⟨rfl, hwq1⟩; rw [hwq1]; clear hwq1 wq1) | (go_at_call 135; refine (HN2.out).mono ?_; rintro e wq2 ⟨rfl, hwq2⟩; rw [hwq2]; clear hwq2 wq2) | (go_at_call 137; refine (HN3.out).mono ?_; rintro e wq3 ⟨rfl, hwq3⟩; rw [hwq3]; clear hwq3 wq3) | fail)
    generalize hw5 : w1.setCell _ _ = w5
    have HR5 := hide (show Row w5 w.heap.size 179 ([.bool p0, .bool p1, .bool p2] : List Value) from by rw [← hw5, Q0.out, Q1.out, Q2.out]; exact HR1.out.set 0 (.bool false))
    have HB5 := hide (show Below w.heap.size w w5 from by rw [← hw5]; exact HB1.out.setCell (by show w.heap.size ≤ w.heap.size; omega) _)
    clear hw5 HR1 Q0 Q1 Q2

    obtain ⟨tl, htl⟩ : ∃ tl, tl = [p0, p1, p2] := ⟨_, rfl⟩
    have HTL := hide (show x.tri who = tl from by rw [htl]; exact HT.out)
    have htl3 : tl.length = 3 := by rw [htl]; rfl
    have HIX := hide (fun (q : Nat) (h : q < 3) (u : World) => show (Instr.index 179 (.agg #[.bool p0, .bool p1, .bool p2]) (.int .i64 (q : Int))).run Try.prog u = .ok (.bool (tl[q]'(by omega))) u from by
      have h1 := index3_lit p0 p1 p2 q h u
      rw [h1]
      simp only [htl])
    have c0 := HR5.out.cell 0
    have c1 := HR5.out.cell 1
    have c2 := HR5.out.cell 2
    have cl := HR5.out.lt
    have HP0 := hide (Pl.empty w5)
    have hb51 : Below w5.heap.size w5 (w5.alloc (.cells #[] 3)) := (Below.refl _ _).alloc (Nat.le_refl _) _
    have HR6 := hide (HR5.out.below hb51 HR5.out.lt)
    have d0 := HR6.out.cell 0
    have d1' := HR6.out.cell 1
    have d2 := HR6.out.cell 2
    have dl := HR6.out.lt
    obtain ⟨ia, hia, ja0, ja1, ja2⟩ := info_parts info_int
    have HIa := hide hia
    clear hia htl hb51
    go_wp2_with fail
    go_loopw [6, 88] (fun s i wr => ∃ (j : Nat) (E : Option Addr) (en ec : Nat) (ue : List Value), i = .int .i64 j ∧ j ≤ 3 ∧ s = .slice E en ec ∧ Pl w5.heap.size w5 wr (.slice E en ec) (idxs 0 (tl.take j)) ue) (fun _ i _ => 3 - (intOf i).toNat)
    case atStart => exact ⟨0, _, _, _, _, rfl, by omega, rfl, HP0.out.same (by simp [idxs])⟩
    case round =>
      obtain ⟨j, E, en, ec, ue, rfl, hj, rfl, hp⟩ := hrel
      have HPR := hide hp
      have hwr : w5.heap.size ≤ wr.heap.size := hp.sz
      have hil := idxs_len (tl.take j) 0
      have htk : (tl.take j).length ≤ 3 := by rw [List.length_take]; omega
      clear hp
      by_cases hlt : j < 3
      · have hjI : (j : Int) < 3 := by omega
        have hj0 : (0 : Int) ≤ (j : Int) := by omega
        have hjl : j < tl.length := by omega
        have hix := HIX.out j hlt
        have HSN := hide (idxs_snoc tl 0 j hjl)
        have hjw : (Lit.int .i64 (j : Int)).wf = true := WalkArith.wf_i64 (by omega)
        generalize tl[j] = q at *
        cases q
        · have HS := hide (show idxs 0 (tl.take j) = idxs 0 (tl.take (j + 1)) from by rw [HSN.out]; simp)
          go_wp2
          go_roundw
          case rel => exact ⟨j + 1, _, _, _, _, by go_num, by omega, rfl, HPR.out.same HS.out⟩
          case measure => simp [intOf]; omega
        · have HS := hide (show idxs 0 (tl.take j) ++ [(j : Int)] = idxs 0 (tl.take (j + 1)) from by rw [HSN.out]; simp)
          have HPA := hide (HPR.out.alloc (.cells #[.int .i64 (j : Int)] 3))
          go_wp2_with (first | (at_builtin; refine wpl_app rfl _ _ 22 rfl ia _ 8 Try.underlying22 HIa.out ja0 ja1 ja2 rfl (by decide) intC_len rfl HPA.out.own [(j : Int)] (int_src _ hjw _) (by exact New.nil _ _) (fun q _ hq => by cases hq) _ _ _ rfl rfl (SrcAt.new wr _ _ _ _) (by first | omega | (simp only [List.length_append, List.length_take, List.length_singleton, List.length_nil, List.length_cons]; omega)) (by decide) HPA.out.sz ?_; intro w5A w5n w5c w5 hn5 hown5 hgb5; have HP5 := hide (HPA.out.put hgb5 hown5); clear hown5 hgb5 hn5) | fail)
          go_roundw
          case rel => exact ⟨j + 1, _, _, _, _, by go_num, by omega, rfl, HP5.out.same HS.out⟩
          case measure => simp [intOf]; omega
      · obtain rfl : j = 3 := by omega
        have HS := hide (show idxs 0 (tl.take 3) = idxs 0 (x.tri who) from by rw [HTL.out, ← htl3, List.take_length])
        go_wp2
        go_ret
        exact (HPR.out.same HS.out).out HB5.out HB5.out.size
  have r1 : ((who : Int) == x.workers + 1) = false := beqf' h1
  have H1 := hide h1
  clear h1
  by_cases h2 : (who : Int) = x.workers + 2
  · have r2 : ((who : Int) == x.workers + 2) = true := beqt' h2
    have HT := hide (show x.tri who = x.kc from by unfold CrewWorld.tri; rw [if_neg H0.out, if_neg H1.out, if_pos h2])
    clear h2
    have HC0 := hide (keeperCases_any x _ _ b w1 HX1.out HO1.out HF1.out HFM.out)
    have hl3 := kc_len x
    obtain ⟨tv, htv⟩ : ∃ tv, tv = x.kc := ⟨_, rfl⟩
    rw [← htv] at HC0 hl3 HT
    obtain ⟨p0, p1, p2, rfl⟩ : ∃ p0 p1 p2, tv = [p0, p1, p2] := by
      match tv, hl3 with
      | [a, b, c], _ => exact ⟨a, b, c, rfl⟩
    have hone := bools_one p0 p1 p2
    have HC := hide (show Calls _ _ _ w1 (fun e w' => e = .returned (.agg ([.bool p0, .bool p1, .bool p2] : List Value).toArray) ∧ Below w1.heap.size w1 w') from HC0.out)
    clear htv hl3 HC0
    go_upto_region 13 with (first | (go_at_call 134; refine (HN1.out).mono ?_; rintro e wq1 ⟨rfl, hwq1⟩; rw [hwq1]; clear hwq1 wq1) | (go_at_call 135; refine (HN2.out).mono ?_; rintro e wq2 ⟨rfl, hwq2⟩; rw [hwq2]; clear hwq2 wq2) | (go_at_call 163; refine HC.out.mono ?_; rintro e w2 ⟨rfl, hb2⟩; have HR2 := hide (HR1.out.below hb2 HR1.out.lt); have hz2 := HR2.out.lt) | (refine wpList_store_row rfl 179 _ _ rfl w.heap.size ([.bool p0, .bool p1, .bool p2] : List Value).toArray rfl rfl 179 ([.bool false, .bool false, .bool false] : List Value).toArray HR2.out info_tri rfl hone ?_) | fail)
    have HB2 := hide (HB1.out.trans (hb2.mono HB1.out.size))
    generalize hw5 : World.setRow _ _ _ = w5
    have HR5 := hide (show Row w5 w.heap.size 179 ([.bool p0, .bool p1, .bool p2] : List Value) from by rw [← hw5]; exact Row.setRow' (cs := [.bool false, .bool false, .bool false]) HR2.out ([.bool p0, .bool p1, .bool p2] : List Value))
    have HB5 := hide (show Below w.heap.size w w5 from by rw [← hw5]; exact below_setRow7 HB2.out (Nat.le_refl _) _)
    clear hw5 HC HR2 hb2 HB2 hz2 HR1

    obtain ⟨tl, htl⟩ : ∃ tl, tl = [p0, p1, p2] := ⟨_, rfl⟩
    have HTL := hide (show x.tri who = tl from by rw [htl]; exact HT.out)
    have htl3 : tl.length = 3 := by rw [htl]; rfl
    have HIX := hide (fun (q : Nat) (h : q < 3) (u : World) => show (Instr.index 179 (.agg #[.bool p0, .bool p1, .bool p2]) (.int .i64 (q : Int))).run Try.prog u = .ok (.bool (tl[q]'(by omega))) u from by
      have h1 := index3_lit p0 p1 p2 q h u
      rw [h1]
      simp only [htl])
    have c0 := HR5.out.cell 0
    have c1 := HR5.out.cell 1
    have c2 := HR5.out.cell 2
    have cl := HR5.out.lt
    have HP0 := hide (Pl.empty w5)
    have hb51 : Below w5.heap.size w5 (w5.alloc (.cells #[] 3)) := (Below.refl _ _).alloc (Nat.le_refl _) _
    have HR6 := hide (HR5.out.below hb51 HR5.out.lt)
    have d0 := HR6.out.cell 0
    have d1' := HR6.out.cell 1
    have d2 := HR6.out.cell 2
    have dl := HR6.out.lt
    obtain ⟨ia, hia, ja0, ja1, ja2⟩ := info_parts info_int
    have HIa := hide hia
    clear hia htl hb51
    go_wp2_with fail
    go_loopw [6, 88] (fun s i wr => ∃ (j : Nat) (E : Option Addr) (en ec : Nat) (ue : List Value), i = .int .i64 j ∧ j ≤ 3 ∧ s = .slice E en ec ∧ Pl w5.heap.size w5 wr (.slice E en ec) (idxs 0 (tl.take j)) ue) (fun _ i _ => 3 - (intOf i).toNat)
    case atStart => exact ⟨0, _, _, _, _, rfl, by omega, rfl, HP0.out.same (by simp [idxs])⟩
    case round =>
      obtain ⟨j, E, en, ec, ue, rfl, hj, rfl, hp⟩ := hrel
      have HPR := hide hp
      have hwr : w5.heap.size ≤ wr.heap.size := hp.sz
      have hil := idxs_len (tl.take j) 0
      have htk : (tl.take j).length ≤ 3 := by rw [List.length_take]; omega
      clear hp
      by_cases hlt : j < 3
      · have hjI : (j : Int) < 3 := by omega
        have hj0 : (0 : Int) ≤ (j : Int) := by omega
        have hjl : j < tl.length := by omega
        have hix := HIX.out j hlt
        have HSN := hide (idxs_snoc tl 0 j hjl)
        have hjw : (Lit.int .i64 (j : Int)).wf = true := WalkArith.wf_i64 (by omega)
        generalize tl[j] = q at *
        cases q
        · have HS := hide (show idxs 0 (tl.take j) = idxs 0 (tl.take (j + 1)) from by rw [HSN.out]; simp)
          go_wp2
          go_roundw
          case rel => exact ⟨j + 1, _, _, _, _, by go_num, by omega, rfl, HPR.out.same HS.out⟩
          case measure => simp [intOf]; omega
        · have HS := hide (show idxs 0 (tl.take j) ++ [(j : Int)] = idxs 0 (tl.take (j + 1)) from by rw [HSN.out]; simp)
          have HPA := hide (HPR.out.alloc (.cells #[.int .i64 (j : Int)] 3))
          go_wp2_with (first | (at_builtin; refine wpl_app rfl _ _ 22 rfl ia _ 8 Try.underlying22 HIa.out ja0 ja1 ja2 rfl (by decide) intC_len rfl HPA.out.own [(j : Int)] (int_src _ hjw _) (by exact New.nil _ _) (fun q _ hq => by cases hq) _ _ _ rfl rfl (SrcAt.new wr _ _ _ _) (by first | omega | (simp only [List.length_append, List.length_take, List.length_singleton, List.length_nil, List.length_cons]; omega)) (by decide) HPA.out.sz ?_; intro w5A w5n w5c w5 hn5 hown5 hgb5; have HP5 := hide (HPA.out.put hgb5 hown5); clear hown5 hgb5 hn5) | fail)
          go_roundw
          case rel => exact ⟨j + 1, _, _, _, _, by go_num, by omega, rfl, HP5.out.same HS.out⟩
          case measure => simp [intOf]; omega
      · obtain rfl : j = 3 := by omega
        have HS := hide (show idxs 0 (tl.take 3) = idxs 0 (x.tri who) from by rw [HTL.out, ← htl3, List.take_length])
        go_wp2
        go_ret
        exact (HPR.out.same HS.out).out HB5.out HB5.out.size
  have r2 : ((who : Int) == x.workers + 2) = false := beqf' h2
  have H2 := hide h2
  clear h2
  by_cases h3 : (who : Int) = x.workers + 3
  · have r3 : ((who : Int) == x.workers + 3) = true := beqt' h3
    have HT := hide (show x.tri who = [(x.user == 0) && decide (0 < x.out.length), ((x.user == 0) && decide (x.out.length = 0)) && (x.sh 2 == 1), false] from by unfold CrewWorld.tri; rw [if_neg H0.out, if_neg H1.out, if_neg H2.out, if_pos h3])
    have x12 := HX1.out.cell 12
    have x13 := HX1.out.cell 13
    have x16 := HX1.out.cell 16
    have xl := HX1.out.lt
    clear h3
    have h7 : x.shut.length = 4 := HFM.out.shut
    obtain ⟨g7, off7, rfl, hg7, c0', -⟩ := ints_at O7.out (show 2 < x.shut.length by omega)
    have hgl := l7 g7 hg7
    have q2 : w1.cell? ⟨g7, off7 + 2, none⟩ = some (.int .i64 (x.sh 2)) := by
      have e : x.sh 2 = x.shut[2] := by unfold CrewWorld.sh; rw [List.getElem?_eq_getElem (show 2 < x.shut.length by omega)]; rfl
      rw [e]
      exact c0'
    have hl2 : (2 : Int) < (x.shut.length : Int) := by omega
    clear c0' h7
    have hc1 := HR1.out.cell 0
    have hf1 := HR1.out.frozen 0
    have hd1 := HR1.out.cell 1
    have he1 := HR1.out.frozen 1
    by_cases hu : x.user = 0
    · have ru := beqt' hu
      clear hu
      by_cases hz : x.out.length = 0
      · have z0 : decide ((0 : Int) < (x.out.length : Int)) = false := dec_false (by omega)
        have z1 : decide (0 < x.out.length) = false := dec_false (by omega)
        have z2 : ((x.out.length : Int) == 0) = true := beqt' (by omega)
        have z3 : decide (x.out.length = 0) = true := dec_true hz
        obtain ⟨p0, hp0⟩ : ∃ p0, p0 = false := ⟨_, rfl⟩
        obtain ⟨p1, hp1⟩ : ∃ p1, p1 = (x.sh 2 == 1) := ⟨_, rfl⟩
        obtain ⟨p2, hp2⟩ : ∃ p2, p2 = false := ⟨_, rfl⟩
        have Q0 := hide hp0
        have Q1 := hide hp1
        have Q2 := hide hp2
        clear hp0 hp1 hp2
        have HT := hide (show x.tri who = [p0, p1, p2] from by rw [HT.out, ru, z1, z3, Q0.out, Q1.out, Q2.out]; rfl)
        clear hz
        go_upto_region 13 with (first | (go_at_call 134; refine (HN1.out).mono ?_; rintro e wq1 ⟨rfl, hwq1⟩; rw [hwq1]; clear hwq1 wq1) | (go_at_call 135; refine (HN2.out).mono ?_; rintro e wq2 ⟨rfl, hwq2⟩; rw [hwq2]; clear hwq2 wq2) | (go_at_call 137; refine (HN3.out).mono ?_; rintro e wq3 ⟨rfl, hwq3⟩; rw [hwq3]; clear hwq3 wq3) | fail)
        generalize hw5 : (w1.setCell _ _).setCell _ _ = w5
        have HR5 := hide (show Row w5 w.heap.size 179 ([.bool p0, .bool p1, .bool p2] : List Value) from by rw [← hw5, Q0.out, Q1.out, Q2.out]; exact (HR1.out.set 0 (.bool false)).set 1 (.bool (x.sh 2 == 1)))
        have HB5 := hide (show Below w.heap.size w w5 from by rw [← hw5]; exact (HB1.out.setCell (by show w.heap.size ≤ w.heap.size; omega) _).setCell (by show w.heap.size ≤ w.heap.size; omega) _)
        clear hw5 HR1 Q0 Q1 Q2

        obtain ⟨tl, htl⟩ : ∃ tl, tl = [p0, p1, p2] := ⟨_, rfl⟩
        have HTL := hide (show x.tri who = tl from by rw [htl]; exact HT.out)
        have htl3 : tl.length = 3 := by rw [htl]; rfl
        have HIX := hide (fun (q : Nat) (h : q < 3) (u : World) => show (Instr.index 179 (.agg #[.bool p0, .bool p1, .bool p2]) (.int .i64 (q : Int))).run Try.prog u = .ok (.bool (tl[q]'(by omega))) u from by
          have h1 := index3_lit p0 p1 p2 q h u
          rw [h1]
          simp only [htl])
        have c0 := HR5.out.cell 0
        have c1 := HR5.out.cell 1
        have c2 := HR5.out.cell 2
        have cl := HR5.out.lt
        have HP0 := hide (Pl.empty w5)
        have hb51 : Below w5.heap.size w5 (w5.alloc (.cells #[] 3)) := (Below.refl _ _).alloc (Nat.le_refl _) _
        have HR6 := hide (HR5.out.below hb51 HR5.out.lt)
        have d0 := HR6.out.cell 0
        have d1' := HR6.out.cell 1
        have d2 := HR6.out.cell 2
        have dl := HR6.out.lt
        obtain ⟨ia, hia, ja0, ja1, ja2⟩ := info_parts info_int
        have HIa := hide hia
        clear hia htl hb51
        go_wp2_with fail
        go_loopw [6, 88] (fun s i wr => ∃ (j : Nat) (E : Option Addr) (en ec : Nat) (ue : List Value), i = .int .i64 j ∧ j ≤ 3 ∧ s = .slice E en ec ∧ Pl w5.heap.size w5 wr (.slice E en ec) (idxs 0 (tl.take j)) ue) (fun _ i _ => 3 - (intOf i).toNat)
        case atStart => exact ⟨0, _, _, _, _, rfl, by omega, rfl, HP0.out.same (by simp [idxs])⟩
        case round =>
          obtain ⟨j, E, en, ec, ue, rfl, hj, rfl, hp⟩ := hrel
          have HPR := hide hp
          have hwr : w5.heap.size ≤ wr.heap.size := hp.sz
          have hil := idxs_len (tl.take j) 0
          have htk : (tl.take j).length ≤ 3 := by rw [List.length_take]; omega
          clear hp
          by_cases hlt : j < 3
          · have hjI : (j : Int) < 3 := by omega
            have hj0 : (0 : Int) ≤ (j : Int) := by omega
            have hjl : j < tl.length := by omega
            have hix := HIX.out j hlt
            have HSN := hide (idxs_snoc tl 0 j hjl)
            have hjw : (Lit.int .i64 (j : Int)).wf = true := WalkArith.wf_i64 (by omega)
            generalize tl[j] = q at *
            cases q
            · have HS := hide (show idxs 0 (tl.take j) = idxs 0 (tl.take (j + 1)) from by rw [HSN.out]; simp)
              go_wp2
              go_roundw
              case rel => exact ⟨j + 1, _, _, _, _, by go_num, by omega, rfl, HPR.out.same HS.out⟩
              case measure => simp [intOf]; omega
            · have HS := hide (show idxs 0 (tl.take j) ++ [(j : Int)] = idxs 0 (tl.take (j + 1)) from by rw [HSN.out]; simp)
              have HPA := hide (HPR.out.alloc (.cells #[.int .i64 (j : Int)] 3))
              go_wp2_with (first | (at_builtin; refine wpl_app rfl _ _ 22 rfl ia _ 8 Try.underlying22 HIa.out ja0 ja1 ja2 rfl (by decide) intC_len rfl HPA.out.own [(j : Int)] (int_src _ hjw _) (by exact New.nil _ _) (fun q _ hq => by cases hq) _ _ _ rfl rfl (SrcAt.new wr _ _ _ _) (by first | omega | (simp only [List.length_append, List.length_take, List.length_singleton, List.length_nil, List.length_cons]; omega)) (by decide) HPA.out.sz ?_; intro w5A w5n w5c w5 hn5 hown5 hgb5; have HP5 := hide (HPA.out.put hgb5 hown5); clear hown5 hgb5 hn5) | fail)
              go_roundw
              case rel => exact ⟨j + 1, _, _, _, _, by go_num, by omega, rfl, HP5.out.same HS.out⟩
              case measure => simp [intOf]; omega
          · obtain rfl : j = 3 := by omega
            have HS := hide (show idxs 0 (tl.take 3) = idxs 0 (x.tri who) from by rw [HTL.out, ← htl3, List.take_length])
            go_wp2
            go_ret
            exact (HPR.out.same HS.out).out HB5.out HB5.out.size
      have z0 : decide ((0 : Int) < (x.out.length : Int)) = true := dec_true (by omega)
      have z1 : decide (0 < x.out.length) = true := dec_true (by omega)
      have z2 : ((x.out.length : Int) == 0) = false := beqf' (by omega)
      have z3 : decide (x.out.length = 0) = false := dec_false hz
      obtain ⟨p0, hp0⟩ : ∃ p0, p0 = true := ⟨_, rfl⟩
      obtain ⟨p1, hp1⟩ : ∃ p1, p1 = false := ⟨_, rfl⟩
      obtain ⟨p2, hp2⟩ : ∃ p2, p2 = false := ⟨_, rfl⟩
      have Q0 := hide hp0
      have Q1 := hide hp1
      have Q2 := hide hp2
      clear hp0 hp1 hp2
      have HT := hide (show x.tri who = [p0, p1, p2] from by rw [HT.out, ru, z1, z3, Q0.out, Q1.out, Q2.out]; rfl)
      clear hz
      go_upto_region 13 with (first | (go_at_call 134; refine (HN1.out).mono ?_; rintro e wq1 ⟨rfl, hwq1⟩; rw [hwq1]; clear hwq1 wq1) | (go_at_call 135; refine (HN2.out).mono ?_; rintro e wq2 ⟨rfl, hwq2⟩; rw [hwq2]; clear hwq2 wq2) | (go_at_call 137; refine (HN3.out).mono ?_; rintro e wq3 ⟨rfl, hwq3⟩; rw [hwq3]; clear hwq3 wq3) | fail)
      generalize hw5 : (w1.setCell _ _).setCell _ _ = w5
      have HR5 := hide (show Row w5 w.heap.size 179 ([.bool p0, .bool p1, .bool p2] : List Value) from by rw [← hw5, Q0.out, Q1.out, Q2.out]; exact (HR1.out.set 0 (.bool true)).set 1 (.bool (false)))
      have HB5 := hide (show Below w.heap.size w w5 from by rw [← hw5]; exact (HB1.out.setCell (by show w.heap.size ≤ w.heap.size; omega) _).setCell (by show w.heap.size ≤ w.heap.size; omega) _)
      clear hw5 HR1 Q0 Q1 Q2

      obtain ⟨tl, htl⟩ : ∃ tl, tl = [p0, p1, p2] := ⟨_, rfl⟩
      have HTL := hide (show x.tri who = tl from by rw [htl]; exact HT.out)
      have htl3 : tl.length = 3 := by rw [htl]; rfl
      have HIX := hide (fun (q : Nat) (h : q < 3) (u : World) => show (Instr.index 179 (.agg #[.bool p0, .bool p1, .bool p2]) (.int .i64 (q : Int))).run Try.prog u = .ok (.bool (tl[q]'(by omega))) u from by
        have h1 := index3_lit p0 p1 p2 q h u
        rw [h1]
        simp only [htl])
      have c0 := HR5.out.cell 0
      have c1 := HR5.out.cell 1
      have c2 := HR5.out.cell 2
      have cl := HR5.out.lt
      have HP0 := hide (Pl.empty w5)
      have hb51 : Below w5.heap.size w5 (w5.alloc (.cells #[] 3)) := (Below.refl _ _).alloc (Nat.le_refl _) _
      have HR6 := hide (HR5.out.below hb51 HR5.out.lt)
      have d0 := HR6.out.cell 0
      have d1' := HR6.out.cell 1
      have d2 := HR6.out.cell 2
      have dl := HR6.out.lt
      obtain ⟨ia, hia, ja0, ja1, ja2⟩ := info_parts info_int
      have HIa := hide hia
      clear hia htl hb51
      go_wp2_with fail
      go_loopw [6, 88] (fun s i wr => ∃ (j : Nat) (E : Option Addr) (en ec : Nat) (ue : List Value), i = .int .i64 j ∧ j ≤ 3 ∧ s = .slice E en ec ∧ Pl w5.heap.size w5 wr (.slice E en ec) (idxs 0 (tl.take j)) ue) (fun _ i _ => 3 - (intOf i).toNat)
      case atStart => exact ⟨0, _, _, _, _, rfl, by omega, rfl, HP0.out.same (by simp [idxs])⟩
      case round =>
        obtain ⟨j, E, en, ec, ue, rfl, hj, rfl, hp⟩ := hrel
        have HPR := hide hp
        have hwr : w5.heap.size ≤ wr.heap.size := hp.sz
        have hil := idxs_len (tl.take j) 0
        have htk : (tl.take j).length ≤ 3 := by rw [List.length_take]; omega
        clear hp
        by_cases hlt : j < 3
        · have hjI : (j : Int) < 3 := by omega
          have hj0 : (0 : Int) ≤ (j : Int) := by omega
          have hjl : j < tl.length := by omega
          have hix := HIX.out j hlt
          have HSN := hide (idxs_snoc tl 0 j hjl)
          have hjw : (Lit.int .i64 (j : Int)).wf = true := WalkArith.wf_i64 (by omega)
          generalize tl[j] = q at *
          cases q
          · have HS := hide (show idxs 0 (tl.take j) = idxs 0 (tl.take (j + 1)) from by rw [HSN.out]; simp)
            go_wp2
            go_roundw
            case rel => exact ⟨j + 1, _, _, _, _, by go_num, by omega, rfl, HPR.out.same HS.out⟩
            case measure => simp [intOf]; omega
          · have HS := hide (show idxs 0 (tl.take j) ++ [(j : Int)] = idxs 0 (tl.take (j + 1)) from by rw [HSN.out]; simp)
            have HPA := hide (HPR.out.alloc (.cells #[.int .i64 (j : Int)] 3))
            go_wp2_with (first | (at_builtin; refine wpl_app rfl _ _ 22 rfl ia _ 8 Try.underlying22 HIa.out ja0 ja1 ja2 rfl (by decide) intC_len rfl HPA.out.own [(j : Int)] (int_src _ hjw _) (by exact New.nil _ _) (fun q _ hq => by cases hq) _ _ _ rfl rfl (SrcAt.new wr _ _ _ _) (by first | omega | (simp only [List.length_append, List.length_take, List.length_singleton, List.length_nil, List.length_cons]; omega)) (by decide) HPA.out.sz ?_; intro w5A w5n w5c w5 hn5 hown5 hgb5; have HP5 := hide (HPA.out.put hgb5 hown5); clear hown5 hgb5 hn5) | fail)
            go_roundw
            case rel => exact ⟨j + 1, _, _, _, _, by go_num, by omega, rfl, HP5.out.same HS.out⟩
            case measure => simp [intOf]; omega
        · obtain rfl : j = 3 := by omega
          have HS := hide (show idxs 0 (tl.take 3) = idxs 0 (x.tri who) from by rw [HTL.out, ← htl3, List.take_length])
          go_wp2
          go_ret
          exact (HPR.out.same HS.out).out HB5.out HB5.out.size
    have ru := beqf' hu
    clear hu
    obtain ⟨p0, hp0⟩ : ∃ p0, p0 = false := ⟨_, rfl⟩
    obtain ⟨p1, hp1⟩ : ∃ p1, p1 = false := ⟨_, rfl⟩
    obtain ⟨p2, hp2⟩ : ∃ p2, p2 = false := ⟨_, rfl⟩
    have Q0 := hide hp0
    have Q1 := hide hp1
    have Q2 := hide hp2
    clear hp0 hp1 hp2
    have HT := hide (show x.tri who = [p0, p1, p2] from by rw [HT.out, ru, Q0.out, Q1.out, Q2.out]; rfl)
    go_upto_region 13 with (first | (go_at_call 134; refine (HN1.out).mono ?_; rintro e wq1 ⟨rfl, hwq1⟩; rw [hwq1]; clear hwq1 wq1) | (go_at_call 135; refine (HN2.out).mono ?_; rintro e wq2 ⟨rfl, hwq2⟩; rw [hwq2]; clear hwq2 wq2) | (go_at_call 137; refine (HN3.out).mono ?_; rintro e wq3 ⟨rfl, hwq3⟩; rw [hwq3]; clear hwq3 wq3) | fail)
    generalize hw5 : (w1.setCell _ _).setCell _ _ = w5
    have HR5 := hide (show Row w5 w.heap.size 179 ([.bool p0, .bool p1, .bool p2] : List Value) from by rw [← hw5, Q0.out, Q1.out, Q2.out]; exact (HR1.out.set 0 (.bool false)).set 1 (.bool (false)))
    have HB5 := hide (show Below w.heap.size w w5 from by rw [← hw5]; exact (HB1.out.setCell (by show w.heap.size ≤ w.heap.size; omega) _).setCell (by show w.heap.size ≤ w.heap.size; omega) _)
    clear hw5 HR1 Q0 Q1 Q2

    obtain ⟨tl, htl⟩ : ∃ tl, tl = [p0, p1, p2] := ⟨_, rfl⟩
    have HTL := hide (show x.tri who = tl from by rw [htl]; exact HT.out)
    have htl3 : tl.length = 3 := by rw [htl]; rfl
    have HIX := hide (fun (q : Nat) (h : q < 3) (u : World) => show (Instr.index 179 (.agg #[.bool p0, .bool p1, .bool p2]) (.int .i64 (q : Int))).run Try.prog u = .ok (.bool (tl[q]'(by omega))) u from by
      have h1 := index3_lit p0 p1 p2 q h u
      rw [h1]
      simp only [htl])
    have c0 := HR5.out.cell 0
    have c1 := HR5.out.cell 1
    have c2 := HR5.out.cell 2
    have cl := HR5.out.lt
    have HP0 := hide (Pl.empty w5)
    have hb51 : Below w5.heap.size w5 (w5.alloc (.cells #[] 3)) := (Below.refl _ _).alloc (Nat.le_refl _) _
    have HR6 := hide (HR5.out.below hb51 HR5.out.lt)
    have d0 := HR6.out.cell 0
    have d1' := HR6.out.cell 1
    have d2 := HR6.out.cell 2
    have dl := HR6.out.lt
    obtain ⟨ia, hia, ja0, ja1, ja2⟩ := info_parts info_int
    have HIa := hide hia
    clear hia htl hb51
    go_wp2_with fail
    go_loopw [6, 88] (fun s i wr => ∃ (j : Nat) (E : Option Addr) (en ec : Nat) (ue : List Value), i = .int .i64 j ∧ j ≤ 3 ∧ s = .slice E en ec ∧ Pl w5.heap.size w5 wr (.slice E en ec) (idxs 0 (tl.take j)) ue) (fun _ i _ => 3 - (intOf i).toNat)
    case atStart => exact ⟨0, _, _, _, _, rfl, by omega, rfl, HP0.out.same (by simp [idxs])⟩
    case round =>
      obtain ⟨j, E, en, ec, ue, rfl, hj, rfl, hp⟩ := hrel
      have HPR := hide hp
      have hwr : w5.heap.size ≤ wr.heap.size := hp.sz
      have hil := idxs_len (tl.take j) 0
      have htk : (tl.take j).length ≤ 3 := by rw [List.length_take]; omega
      clear hp
      by_cases hlt : j < 3
      · have hjI : (j : Int) < 3 := by omega
        have hj0 : (0 : Int) ≤ (j : Int) := by omega
        have hjl : j < tl.length := by omega
        have hix := HIX.out j hlt
        have HSN := hide (idxs_snoc tl 0 j hjl)
        have hjw : (Lit.int .i64 (j : Int)).wf = true := WalkArith.wf_i64 (by omega)
        generalize tl[j] = q at *
        cases q
        · have HS := hide (show idxs 0 (tl.take j) = idxs 0 (tl.take (j + 1)) from by rw [HSN.out]; simp)
          go_wp2
          go_roundw
          case rel => exact ⟨j + 1, _, _, _, _, by go_num, by omega, rfl, HPR.out.same HS.out⟩
          case measure => simp [intOf]; omega
        · have HS := hide (show idxs 0 (tl.take j) ++ [(j : Int)] = idxs 0 (tl.take (j + 1)) from by rw [HSN.out]; simp)
          have HPA := hide (HPR.out.alloc (.cells #[.int .i64 (j : Int)] 3))
          go_wp2_with (first | (at_builtin; refine wpl_app rfl _ _ 22 rfl ia _ 8 Try.underlying22 HIa.out ja0 ja1 ja2 rfl (by decide) intC_len rfl HPA.out.own [(j : Int)] (int_src _ hjw _) (by exact New.nil _ _) (fun q _ hq => by cases hq) _ _ _ rfl rfl (SrcAt.new wr _ _ _ _) (by first | omega | (simp only [List.length_append, List.length_take, List.length_singleton, List.length_nil, List.length_cons]; omega)) (by decide) HPA.out.sz ?_; intro w5A w5n w5c w5 hn5 hown5 hgb5; have HP5 := hide (HPA.out.put hgb5 hown5); clear hown5 hgb5 hn5) | fail)
          go_roundw
          case rel => exact ⟨j + 1, _, _, _, _, by go_num, by omega, rfl, HP5.out.same HS.out⟩
          case measure => simp [intOf]; omega
      · obtain rfl : j = 3 := by omega
        have HS := hide (show idxs 0 (tl.take 3) = idxs 0 (x.tri who) from by rw [HTL.out, ← htl3, List.take_length])
        go_wp2
        go_ret
        exact (HPR.out.same HS.out).out HB5.out HB5.out.size
  have r3 : ((who : Int) == x.workers + 3) = false := beqf' h3
  have H3 := hide h3
  clear h3
  have hle : (who : Int) ≤ x.workers := by have := H0.out; have := H1.out; have := H2.out; have := H3.out; omega
  obtain ⟨k, hk⟩ : ∃ k, who = k + 1 := ⟨who - 1, by have := H0.out; omega⟩
  have hkl : k < x.hands.length := by have := HHL.out; omega
  have hkI : (k : Int) < (x.hands.length : Int) := by omega
  have hk0 : (0 : Int) ≤ (k : Int) := by omega
  have hkw : IntKind.i64.wrap ((who : Int) - 1) = (k : Int) := by rw [wrapI _ (by omega) (by omega)]; omega
  have hkw2 : wrap64 ((who : Int) - 1) = (k : Int) := by unfold wrap64; omega
  have HT := hide (show x.tri who = x.hc x.hands[k] from by
    unfold CrewWorld.tri
    rw [if_neg H0.out, if_neg H1.out, if_neg H2.out, if_neg H3.out]
    have e : who - 1 = k := by omega
    rw [e, List.getElem?_eq_getElem hkl]
    rfl)
  obtain ⟨g, off, ws, fi, rfl, hg, hfi, hwl, hcs, hov⟩ := O2.out.elem CrewHand.cells_len hkl
  have hgl : g < w1.heap.size := l2 g hg
  have HHV := hide hov
  obtain ⟨rfl, -, -, -⟩ := hov.oCrewHand
  have p00 := hcs 0 _ rfl
  have p01 := hcs 1 _ rfl
  simp only [Nat.add_zero] at p00
  generalize x.hands[k] = y at *
  have x6 := HX1.out.cell 6
  have xl := HX1.out.lt
  clear hcs hov hwl hk hle
  have HC0 := hide (handCases_any x _ _ b w1 HX1.out HO1.out HF1.out y _ fi HHV.out HFM.out)
  have hl3 := hc_len x y
  obtain ⟨tv, htv⟩ : ∃ tv, tv = x.hc y := ⟨_, rfl⟩
  rw [← htv] at HC0 hl3 HT
  obtain ⟨p0, p1, p2, rfl⟩ : ∃ p0 p1 p2, tv = [p0, p1, p2] := by
    match tv, hl3 with
    | [a, b, c], _ => exact ⟨a, b, c, rfl⟩
  have hone := bools_one p0 p1 p2
  have HC := hide (show Calls _ _ _ w1 (fun e w' => e = .returned (.agg ([.bool p0, .bool p1, .bool p2] : List Value).toArray) ∧ Below w1.heap.size w1 w') from HC0.out)
  clear htv hl3 HC0
  go_upto_region 13 with (first | (go_at_call 134; refine (HN1.out).mono ?_; rintro e wq1 ⟨rfl, hwq1⟩; rw [hwq1]; clear hwq1 wq1) | (go_at_call 135; refine (HN2.out).mono ?_; rintro e wq2 ⟨rfl, hwq2⟩; rw [hwq2]; clear hwq2 wq2) | (go_at_call 137; refine (HN3.out).mono ?_; rintro e wq3 ⟨rfl, hwq3⟩; rw [hwq3]; clear hwq3 wq3) | (go_at_call 164; refine HC.out.mono ?_; rintro e w2 ⟨rfl, hb2⟩; have HR2 := hide (HR1.out.below hb2 HR1.out.lt); have hz2 := HR2.out.lt) | (refine wpList_store_row rfl 179 _ _ rfl w.heap.size ([.bool p0, .bool p1, .bool p2] : List Value).toArray rfl rfl 179 ([.bool false, .bool false, .bool false] : List Value).toArray HR2.out info_tri rfl hone ?_) | fail)
  have HB2 := hide (HB1.out.trans (hb2.mono HB1.out.size))
  generalize hw5 : World.setRow _ _ _ = w5
  have HR5 := hide (show Row w5 w.heap.size 179 ([.bool p0, .bool p1, .bool p2] : List Value) from by rw [← hw5]; exact Row.setRow' (cs := [.bool false, .bool false, .bool false]) HR2.out ([.bool p0, .bool p1, .bool p2] : List Value))
  have HB5 := hide (show Below w.heap.size w w5 from by rw [← hw5]; exact below_setRow7 HB2.out (Nat.le_refl _) _)
  clear hw5 HC HR2 hb2 HB2 hz2 HR1

  obtain ⟨tl, htl⟩ : ∃ tl, tl = [p0, p1, p2] := ⟨_, rfl⟩
  have HTL := hide (show x.tri who = tl from by rw [htl]; exact HT.out)
  have htl3 : tl.length = 3 := by rw [htl]; rfl
  have HIX := hide (fun (q : Nat) (h : q < 3) (u : World) => show (Instr.index 179 (.agg #[.bool p0, .bool p1, .bool p2]) (.int .i64 (q : Int))).run Try.prog u = .ok (.bool (tl[q]'(by omega))) u from by
    have h1 := index3_lit p0 p1 p2 q h u
    rw [h1]
    simp only [htl])
  have c0 := HR5.out.cell 0
  have c1 := HR5.out.cell 1
  have c2 := HR5.out.cell 2
  have cl := HR5.out.lt
  have HP0 := hide (Pl.empty w5)
  have hb51 : Below w5.heap.size w5 (w5.alloc (.cells #[] 3)) := (Below.refl _ _).alloc (Nat.le_refl _) _
  have HR6 := hide (HR5.out.below hb51 HR5.out.lt)
  have d0 := HR6.out.cell 0
  have d1' := HR6.out.cell 1
  have d2 := HR6.out.cell 2
  have dl := HR6.out.lt
  obtain ⟨ia, hia, ja0, ja1, ja2⟩ := info_parts info_int
  have HIa := hide hia
  clear hia htl hb51
  go_wp2_with fail
  go_loopw [6, 88] (fun s i wr => ∃ (j : Nat) (E : Option Addr) (en ec : Nat) (ue : List Value), i = .int .i64 j ∧ j ≤ 3 ∧ s = .slice E en ec ∧ Pl w5.heap.size w5 wr (.slice E en ec) (idxs 0 (tl.take j)) ue) (fun _ i _ => 3 - (intOf i).toNat)
  case atStart => exact ⟨0, _, _, _, _, rfl, by omega, rfl, HP0.out.same (by simp [idxs])⟩
  case round =>
    obtain ⟨j, E, en, ec, ue, rfl, hj, rfl, hp⟩ := hrel
    have HPR := hide hp
    have hwr : w5.heap.size ≤ wr.heap.size := hp.sz
    have hil := idxs_len (tl.take j) 0
    have htk : (tl.take j).length ≤ 3 := by rw [List.length_take]; omega
    clear hp
    by_cases hlt : j < 3
    · have hjI : (j : Int) < 3 := by omega
      have hj0 : (0 : Int) ≤ (j : Int) := by omega
      have hjl : j < tl.length := by omega
      have hix := HIX.out j hlt
      have HSN := hide (idxs_snoc tl 0 j hjl)
      have hjw : (Lit.int .i64 (j : Int)).wf = true := WalkArith.wf_i64 (by omega)
      generalize tl[j] = q at *
      cases q
      · have HS := hide (show idxs 0 (tl.take j) = idxs 0 (tl.take (j + 1)) from by rw [HSN.out]; simp)
        go_wp2
        go_roundw
        case rel => exact ⟨j + 1, _, _, _, _, by go_num, by omega, rfl, HPR.out.same HS.out⟩
        case measure => simp [intOf]; omega
      · have HS := hide (show idxs 0 (tl.take j) ++ [(j : Int)] = idxs 0 (tl.take (j + 1)) from by rw [HSN.out]; simp)
        have HPA := hide (HPR.out.alloc (.cells #[.int .i64 (j : Int)] 3))
        go_wp2_with (first | (at_builtin; refine wpl_app rfl _ _ 22 rfl ia _ 8 Try.underlying22 HIa.out ja0 ja1 ja2 rfl (by decide) intC_len rfl HPA.out.own [(j : Int)] (int_src _ hjw _) (by exact New.nil _ _) (fun q _ hq => by cases hq) _ _ _ rfl rfl (SrcAt.new wr _ _ _ _) (by first | omega | (simp only [List.length_append, List.length_take, List.length_singleton, List.length_nil, List.length_cons]; omega)) (by decide) HPA.out.sz ?_; intro w5A w5n w5c w5 hn5 hown5 hgb5; have HP5 := hide (HPA.out.put hgb5 hown5); clear hown5 hgb5 hn5) | fail)
        go_roundw
        case rel => exact ⟨j + 1, _, _, _, _, by go_num, by omega, rfl, HP5.out.same HS.out⟩
        case measure => simp [intOf]; omega
    · obtain rfl : j = 3 := by omega
      have HS := hide (show idxs 0 (tl.take 3) = idxs 0 (x.tri who) from by rw [HTL.out, ← htl3, List.take_length])
      go_wp2
      go_ret
      exact (HPR.out.same HS.out).out HB5.out HB5.out.size
end Go.Proofs.Ytpkjjfnfolbcoaa
set_option linter.unusedVariables false
set_option linter.unusedSimpArgs false
namespace Go.Proofs.Ytpkjjfnfolbcoaa
open Go.ChangeShapes Go.WideShapes Go.ChangeAt Go.RowKit

theorem GB.ow {w w' : World} {v v' : Value} {d : D} {y : Value} {fq : List Nat} (h : GB w w' v v') (ho : Ow w d y fq) (hl : Lt fq w.heap.size) (hn : ∀ g, v.ownBlock = some g → g ∉ fq) : Ow w' d y fq := by
  have hc : OwC w [d] [y] fq := ⟨fq, [], ho, rfl, by simp⟩
  obtain ⟨f1, f2, h1, h2, rfl⟩ := hc.grown' h.grown hl hn
  simp only [OwC] at h2
  subst h2
  simpa using h1
theorem GB.apart {w w' : World} {v v' : Value} {fq : List Nat} (h : GB w w' v v') (hl : Lt fq w.heap.size) (hn : ∀ g, v.ownBlock = some g → g ∉ fq) : ∀ g, v'.ownBlock = some g → g ∉ fq := fun g e hm => by
  rcases h.at' with h1 | ⟨k, h1, h2⟩
  · exact hn g (h1.symm.trans e) hm
  · rw [h1] at e
    injection e with e
    have := hl g hm
    omega
theorem map_snoc (n : Nat) (l : List Int) (j : Nat) (h : j < l.length) : (l.take (j + 1)).map (fun k => (⟨(n : Int), k⟩ : CrewMove)) = (l.take j).map (fun k => ⟨(n : Int), k⟩) ++ [⟨(n : Int), l[j]⟩] := by
  rw [List.take_succ_eq_append_getElem h, List.map_append]
  rfl
set_option maxRecDepth 100000 in
set_option maxHeartbeats 8000000 in
theorem implMovesOf_any (x : CrewWorld) (us : List Value) (fp : List Nat) (b : Nat) (w : World) (hb : Row w b 30 us) (ho : OwC w x.cells us fp) (hf : Lt fp w.heap.size) (hfm : x.Form) : Calls Try.prog 80 #[.pointer (some ⟨b, 0, none⟩)] w (MovesOut x.moves w) := by
  have HFM := hide hfm
  have hww := hfm.start.2.1
  clear hfm
  have HO := hide ho
  have HF := hide hf
  obtain ⟨A1, c1, A2, c2, A3, c3, A4, c4, A5, c5, A6, c6, A7, c7, f1, f2, f3, f4, f5, f6, f7, rfl, wjobs, wworkers, wwindow, wnext, wreader, o1, o2, wcloser, o3, wkeeper, o4, wdue, o5, wuser, o6, wroom, o7, wops, rfl⟩ := ho.oCrewWorld
  have HX := hide hb
  clear ho hb o1 o2 o3 o4 o5 o6 o7
  have x1 := HX.out.cell 1
  have xl := HX.out.lt
  go_enter Try.func80, Try.ntmps80
  have HP0 := hide (Pm.empty w)
  have hb1 : Below w.heap.size w (w.alloc (.cells #[] 97)) := (Below.refl _ _).alloc (Nat.le_refl _) _
  have HX1 := hide (HX.out.below hb1 HX.out.lt)
  have z1 := HX1.out.cell 1
  have zl := HX1.out.lt
  clear x1 xl hb1
  obtain ⟨ia, hia, ja0, ja1, ja2⟩ := info_parts info_move
  have HIa := hide hia
  clear hia
  have v4 : IntKind.i64.wrap (x.workers + 4) = x.workers + 4 := wrapI _ (by omega) (by omega)
  have u4 : wrap64 (x.workers + 4) = x.workers + 4 := by unfold wrap64; omega
  have hwn : (x.workers.toNat : Int) = x.workers := by omega
  have HWN := hide hwn
  clear hwn
  go_wp2_with fail
  go_loopw [3, 13] (fun s i wr => ∃ (n : Nat) (E : Option Addr) (en ec : Nat) (ue : List Value), i = .int .i64 n ∧ n ≤ x.workers.toNat + 4 ∧ s = .slice E en ec ∧ Pm w.heap.size w wr (.slice E en ec) (x.movesTo n) ue) (fun _ i _ => x.workers.toNat + 4 - (intOf i).toNat)
  case atStart => exact ⟨0, _, _, _, _, rfl, Nat.zero_le _, rfl, HP0.out.same (by simp [CrewWorld.movesTo])⟩
  case round =>
    obtain ⟨n, E, en, ec, ue, rfl, hn, rfl, hp⟩ := hrel
    have HPR := hide hp
    have hml := movesTo_len x n
    have HXR := hide (HX.out.below hp.fr HX.out.lt)
    clear hp z1 zl HX1
    by_cases hlt : n < x.workers.toNat + 4
    · have hle : (n : Int) ≤ x.workers + 3 := by have := HWN.out; omega
      have hlt2 : (n : Int) < x.workers + 4 := by omega
      have hnb : (Lit.int .i64 (n : Int)).wf = true := WalkArith.wf_i64 (by omega)
      have hle9 : n ≤ 12 := by have := HWN.out; omega
      have HC := hide (cases_any x _ _ b wr HXR.out (HO.out.below HPR.out.fr HF.out) (HF.out.up HPR.out.fr) HFM.out n hle)
      go_wp2_with fail
      refine HC.out.mono ?_
      rintro e w4 ⟨CA, cc, fq, rfl, hoc, hnc, hb4⟩
      have HPW := hide (HPR.out.below hb4)
      obtain ⟨cl, hcl⟩ : ∃ cl, cl = idxs 0 (x.tri n) := ⟨_, rfl⟩
      rw [← hcl] at hoc ⊢
      have hc3 : cl.length ≤ 3 := by rw [hcl]; exact Nat.le_trans (idxs_len _ _) (by rw [tri_len]; omega)
      have HCL := hide (show x.movesTo n ++ cl.map (fun k => (⟨(n : Int), k⟩ : CrewMove)) = x.movesTo (n + 1) from by rw [movesTo_succ, tri_ways HFM.out n hle, movesBy_idxs, hcl])
      have HOC := hide hoc
      have HNC := hide hnc.lt
      have HNE0 := hide (show ∀ g, (Value.slice E en ec).ownBlock = some g → g ∉ fq from fun g e hm => by
        have h1 := HPR.out.own.lt g e
        have h2 := (hnc.fr g hm).1
        omega)
      clear hcl hoc hnc hb4 HC HPR HXR
      go_wp2_with fail
      go_loopw [3, 20] (fun s i wz => ∃ (j : Nat) (E : Option Addr) (en ec : Nat) (ue : List Value), i = .int .i64 j ∧ j ≤ cl.length ∧ s = .slice E en ec ∧ Pm w.heap.size w wz (.slice E en ec) (x.movesTo n ++ (cl.take j).map (fun k => (⟨(n : Int), k⟩ : CrewMove))) ue ∧ Ow wz (.s 1 cl.length (cl.flatMap intC)) (.slice CA cl.length cc) fq ∧ Lt fq wz.heap.size ∧ (∀ g, (Value.slice E en ec).ownBlock = some g → g ∉ fq)) (fun _ i _ => cl.length - (intOf i).toNat)
      case atStart => exact ⟨0, _, _, _, _, rfl, Nat.zero_le _, rfl, HPW.out.same (by simp), HOC.out, HNC.out, HNE0.out⟩
      case round =>
        obtain ⟨j, E2, en2, ec2, ue2, rfl, hj, rfl, hp2, how, hlw, hne⟩ := hrel
        have HP2 := hide hp2
        have HOW := hide how
        have HLW := hide hlw
        have HNE := hide hne
        have hlm : ((cl.take j).map (fun k => (⟨(n : Int), k⟩ : CrewMove))).length ≤ 3 := by rw [List.length_map, List.length_take]; omega
        clear hp2 how hlw hne
        by_cases hjl : j < cl.length
        · have hjI : (j : Int) < (cl.length : Int) := by omega
          have hj0 : (0 : Int) ≤ (j : Int) := by omega
          obtain ⟨g, off, rfl, hg, hcell, hyw⟩ := ints_at HOW.out hjl
          have hgl := HLW.out g hg
          have HSN := hide (map_snoc n cl j hjl)
          generalize cl[j] = y at *
          have HS := hide (show (x.movesTo n ++ (cl.take j).map (fun k => (⟨(n : Int), k⟩ : CrewMove))) ++ [(⟨(n : Int), y⟩ : CrewMove)] = x.movesTo n ++ (cl.take (j + 1)).map (fun k => (⟨(n : Int), k⟩ : CrewMove)) from by rw [HSN.out, List.append_assoc])
          have hba : Below wr.heap.size wr (wr.alloc (.cells #[.int .i64 (n : Int), .int .i64 y] 97)) := (Below.refl _ _).alloc (Nat.le_refl _) _
          have HPA := hide (HP2.out.alloc (.cells #[.int .i64 (n : Int), .int .i64 y] 97))
          have HOA := hide (HOW.out.below hba HLW.out)
          have HLA := hide (HLW.out.up hba)
          clear hba
          go_wp2_with (first | (at_builtin; refine wpl_app rfl _ _ 57 rfl ia _ 16 Try.underlying57 HIa.out ja0 ja1 ja2 rfl (by decide) CrewMove.cells_len rfl HPA.out.own [(⟨(n : Int), y⟩ : CrewMove)] (move_src _ _ hnb hyw _) (by exact New.nil _ _) (fun q _ hq => by cases hq) _ _ _ rfl rfl (SrcAt.new wr _ _ _ _) (by first | omega | (simp only [List.length_append, List.length_take, List.length_singleton, List.length_nil, List.length_cons]; omega)) (by decide) HPA.out.sz ?_; intro w5A w5n w5c w5 hn5 hown5 hgb5; have HP5 := hide (HPA.out.put hgb5 hown5); have HGB := hide hgb5; clear hown5 hgb5 hn5) | fail)
          go_roundw
          case rel => exact ⟨j + 1, _, _, _, _, by go_num, by omega, rfl, HP5.out.same HS.out, HGB.out.ow HOA.out HLA.out HNE.out, HLA.out.mono HGB.out.grown.size, HGB.out.apart HLA.out HNE.out⟩
          case measure => simp [intOf]; omega
        · obtain rfl : j = cl.length := by omega
          have hjI : ¬ ((cl.length : Int) < (cl.length : Int)) := by omega
          have HS := hide (show x.movesTo n ++ (cl.take cl.length).map (fun k => (⟨(n : Int), k⟩ : CrewMove)) = x.movesTo (n + 1) from by rw [List.take_length]; exact HCL.out)
          go_wp2
          go_roundw
          case rel => exact ⟨n + 1, _, _, _, _, by go_num, by omega, rfl, HP2.out.same HS.out⟩
          case measure => simp [intOf]; omega
    · obtain rfl : n = x.workers.toNat + 4 := by omega
      have d1 : decide (((x.workers.toNat + 4 : Nat) : Int) < x.workers + 4) = false := dec_false (by have := HWN.out; omega)
      have d2 : decide ((x.workers.toNat : Int) + 4 < x.workers + 4) = false := dec_false (by have := HWN.out; omega)
      have d3 : ¬ ((x.workers.toNat : Int) < x.workers) := by have := HWN.out; omega
      have HZ := hide (show x.movesTo (x.workers.toNat + 4) = x.moves from rfl)
      go_wp2
      go_ret
      exact (HPR.out.same HZ.out).out (Below.refl _ _) (Nat.le_refl _)
set_option maxRecDepth 100000 in
set_option maxHeartbeats 4000000 in
theorem implCrewMoves_any (x : CrewWorld) (us : List Value) (fp : List Nat) (w : World) (ho : OwC w x.cells us fp) (hf : Lt fp w.heap.size) (hgl : x.got.length ≤ 1048576) : Calls Try.prog 38 #[.agg us.toArray] w (MovesOut x.movesOf w) := by
  have HO := hide ho
  have HF := hide hf
  obtain ⟨A1, c1, A2, c2, A3, c3, A4, c4, A5, c5, A6, c6, A7, c7, f1, f2, f3, f4, f5, f6, f7, rfl, wjobs, wworkers, wwindow, wnext, wreader, o1, o2, wcloser, o3, wkeeper, o4, wdue, o5, wuser, o6, wroom, o7, wops, rfl⟩ := ho.oCrewWorld
  clear ho
  go_enter Try.func38, Try.ntmps38
  go_upto_region 1 with fail
  generalize hw1 : w.alloc _ = w1
  have hb0 : Below w.heap.size w w1 := by rw [← hw1]; exact (Below.refl _ _).alloc (Nat.le_refl _) _
  have HX := hide (show Row w1 w.heap.size 30 [.int .i64 x.jobs, .int .i64 x.workers, .int .i64 x.window, .int .i64 x.next, .int .i64 x.reader, .slice A1 x.queue.length c1, .slice A2 x.hands.length c2, .int .i64 x.closer, .slice A3 x.results.length c3, .int .i64 x.keeper, .slice A4 x.ring.length c4, .int .i64 x.due, .slice A5 x.out.length c5, .int .i64 x.user, .slice A6 x.got.length c6, .int .i64 x.room, .slice A7 x.shut.length c7, .int .i64 x.ops] from by rw [← hw1]; exact Row.new w _ _)
  have HB := hide hb0
  have HOW := hide (HO.out.below hb0 hf)
  have HFW := hide (hf.up hb0)
  clear hw1 hb0 HO o1 o2 o3 o4 o5 o6 o7
  have x0 := HX.out.cell 0
  have xl := HX.out.lt
  clear x0
  have HC := hide (isOk_any x _ _ w.heap.size w1 HX.out HOW.out HFW.out hgl)
  go_wp2_with fail
  refine HC.out.mono ?_
  rintro e w2 ⟨rfl, hb2⟩
  have HX2 := hide (HX.out.below hb2 HX.out.lt)
  have HB2 := hide (HB.out.trans (hb2.mono HB.out.size))
  have HOW2 := hide (HOW.out.below hb2 HFW.out)
  have HFW2 := hide (HFW.out.up hb2)
  clear hb2 HX HB HOW HFW HC xl
  by_cases hok : x.ok
  · rw [tb_true hok]
    have HZ := hide (show x.moves = x.movesOf from by unfold CrewWorld.movesOf; rw [if_pos (tb_true hok)])
    have HM := hide (implMovesOf_any x _ _ w.heap.size w2 HX2.out HOW2.out HFW2.out hok.form)
    clear hok
    go_wp2_with fail
    refine HM.out.mono ?_
    rintro e w3 ⟨v, fq, rfl, ho3, hn3, hb3⟩
    go_wp2
    go_ret
    rw [← HZ.out]
    exact ⟨v, fq, rfl, ho3, hn3.mono HB2.out.size, HB2.out.trans (hb3.mono HB2.out.size)⟩
  · rw [tb_false hok]
    have HZ := hide (show x.movesOf = [] from by unfold CrewWorld.movesOf; rw [if_neg (by rw [tb_false hok]; simp)])
    clear hok
    go_wp2
    go_ret
    rw [HZ.out]
    exact ⟨_, [], rfl, Ow.nil_ w2 2 CrewMove.cells, New.nil _ _, HB2.out⟩
end Go.Proofs.Ytpkjjfnfolbcoaa
set_option linter.unusedVariables false
set_option linter.unusedSimpArgs false
namespace Go.Proofs.Ytpkjjfnfolbcoaa
open Go.ChangeShapes Go.WideShapes Go.ChangeAt Go.RowKit



def EqCrewMove (x : CrewMove) : Prop := ∀ (us vs : List Value) (fp fq : List Nat) (w : World), OwC w x.cells us fp → OwC w x.cells vs fq → Lt fp w.heap.size → Lt fq w.heap.size →
  Calls Try.prog 90 #[.agg us.toArray, .agg vs.toArray] w fun e w' => e = .returned (.bool true) ∧ Below w.heap.size w w'
set_option maxRecDepth 100000 in
theorem eqCrewMove_of (x : CrewMove) : EqCrewMove x := by
  intro us vs fp fq w ho ho' hf hf'
  obtain ⟨rfl, w0, w1, rfl⟩ := ho.oCrewMove
  obtain ⟨rfl, bw0, bw1, rfl⟩ := ho'.oCrewMove
  have hB0 : Below w.heap.size w ((w.alloc (.cells #[.int .i64 x.who, .int .i64 x.case_] 97)).alloc (.cells #[.int .i64 x.who, .int .i64 x.case_] 97)) := ((Below.refl _ _).alloc (Nat.le_refl _) _).alloc (by simp) _
  have R0 : Row ((w.alloc (.cells #[.int .i64 x.who, .int .i64 x.case_] 97)).alloc (.cells #[.int .i64 x.who, .int .i64 x.case_] 97)) w.heap.size 97 [.int .i64 x.who, .int .i64 x.case_] := (Row.new w _ _).alloc _
  have S0 : Row ((w.alloc (.cells #[.int .i64 x.who, .int .i64 x.case_] 97)).alloc (.cells #[.int .i64 x.who, .int .i64 x.case_] 97)) (w.heap.size + 1) 97 [.int .i64 x.who, .int .i64 x.case_] := by
    have h := Row.new (w.alloc (.cells #[.int .i64 x.who, .int .i64 x.case_] 97)) 97 [.int .i64 x.who, .int .i64 x.case_]
    simpa using h
  clear ho ho'
  go_enter Try.func90, Try.ntmps90
  go_wp2
  go_ret
  exact ⟨rfl, hB0⟩
theorem eqCrewMove_any (x : CrewMove) : EqCrewMove x := eqCrewMove_of x
def EqCrewMoveS (l : List CrewMove) : Prop := ∀ (A A' : Option Addr) (n n' c c' : Nat) (fp fq : List Nat) (w : World), Ow w (.s 2 l.length (l.flatMap CrewMove.cells)) (.slice A n c) fp → Ow w (.s 2 l.length (l.flatMap CrewMove.cells)) (.slice A' n' c') fq → Lt fp w.heap.size → Lt fq w.heap.size →
  Calls Try.prog 39 #[.slice A n c, .slice A' n' c'] w fun e w' => e = .returned (.bool true) ∧ Below w.heap.size w w'
set_option maxRecDepth 100000 in
theorem eqCrewMoveS_of (l : List CrewMove) (ih : ∀ x ∈ l, EqCrewMove x) : EqCrewMoveS l := by
  intro A A' n n' c c' fp fq w h h' hf hf'
  obtain ⟨rfl, hc, hm⟩ := h.nlen
  obtain ⟨rfl, hc', hm'⟩ := h'.nlen
  unfold maxLen at hm hm'
  go_enter Try.func39, Try.ntmps39
  go_wp2
  go_loopw [5] (fun i wr => (∃ k : Nat, k ≤ l.length ∧ i = .int .i64 k) ∧ Below w.heap.size w wr) (fun i _ => l.length - (intOf i).toNat)
  case atStart => exact ⟨⟨0, Nat.zero_le _, rfl⟩, Below.refl _ _⟩
  case round =>
    obtain ⟨⟨k, hk, rfl⟩, hb⟩ := hrel
    by_cases hlt : k < l.length
    · obtain ⟨g, off, vs, fi, rfl, hg, hfi, hvl, hcs, hov⟩ := (h.below hb hf).elem CrewMove.cells_len hlt
      obtain ⟨g', off', vs', fi', rfl, hg', hfi', hvl', hcs', hov'⟩ := (h'.below hb hf').elem CrewMove.cells_len hlt
      have HO := hide hov
      have HO' := hide hov'
      obtain ⟨rfl, w0, w1, rfl⟩ := hov.oCrewMove
      obtain ⟨rfl, bw0, bw1, rfl⟩ := hov'.oCrewMove
      have p0 := hcs 0 _ rfl
      have q0 := hcs' 0 _ rfl
      have p1 := hcs 1 _ rfl
      have q1 := hcs' 1 _ rfl
      simp only [Nat.add_zero] at p0 q0
      have HC := hide (ih _ (List.getElem_mem hlt))
      clear hcs hcs' hov hov'
      generalize l[k] = x at *
      go_wp2_with fail
      go_still_tail 8, (by kernel_rfl)
      change wpList _ _ _ _ _ wr.drew
      go_wp2_with fail
      refine (HC.out _ _ _ _ _ (HO.out.drewN 1) (HO'.out.drewN 1) (hf.sub hfi |>.mono hb.size) (hf'.sub hfi' |>.mono hb.size)).mono ?_
      rintro e w1 ⟨rfl, hb1⟩
      go_wp2
      go_roundw
      case rel => exact ⟨⟨k + 1, by omega, by go_num⟩, (below_drewN hb 1).trans (hb1.mono hb.size)⟩
      case measure => simp [intOf]; omega
    · obtain rfl : k = l.length := by omega
      go_wp2
      go_ret
      exact ⟨rfl, hb⟩

theorem eqCrewMoveS_any (l : List CrewMove) : EqCrewMoveS l := eqCrewMoveS_of l fun x _ => eqCrewMove_any x

end Go.Proofs.Ytpkjjfnfolbcoaa
set_option linter.unusedVariables false
set_option linter.unusedSimpArgs false
namespace Go.Proofs.Ytpkjjfnfolbcoaa
open Go.ChangeShapes Go.WideShapes Go.ChangeAt Go.RowKit

def CrewMove.mk_ (x : CrewMove) (a b : Nat) : Prop := x.who = ((a : Nat) : Int) ∧ x.case_ = (((a + 1) : Nat) : Int) ∧ b = a + 2
def CrewMove.mkS : List CrewMove → Nat → Nat → Prop
  | [], a, b => a = b
  | x :: r, a, b => ∃ c, x.mk_ a c ∧ CrewMove.mkS r c b
def CrewMove.cnt (x : CrewMove) : Nat := 2
def CrewMove.cntS : List CrewMove → Nat
  | [] => 0
  | x :: r => x.cnt + CrewMove.cntS r
theorem CrewMove.mk_iff (x : CrewMove) (a b : Nat) : x.mk_ a b ↔ x.who = ((a : Nat) : Int) ∧ x.case_ = (((a + 1) : Nat) : Int) ∧ b = a + 2 := Iff.rfl
theorem CrewMove.cnt_eq (x : CrewMove) : x.cnt = 2 := rfl
theorem CrewMove.mkS_snoc : ∀ (l : List CrewMove) (x : CrewMove) (a c b : Nat), CrewMove.mkS l a c → x.mk_ c b → CrewMove.mkS (l ++ [x]) a b
  | [], x, a, c, b, h, hx => by
    simp only [CrewMove.mkS] at h
    subst h
    exact ⟨b, hx, rfl⟩
  | y :: r, x, a, c, b, h, hx => by
    obtain ⟨d, h1, h2⟩ := h
    exact ⟨d, h1, CrewMove.mkS_snoc r x d c b h2 hx⟩
theorem CrewMove.mkS_drop : ∀ (l : List CrewMove) (b : Nat) (k : Nat) (h : k < l.length) (c : Nat), CrewMove.mkS (l.drop k) c b → ∃ d, l[k].mk_ c d ∧ CrewMove.mkS (l.drop (k + 1)) d b
  | x :: r, b, 0, _, c, h => by
    obtain ⟨d, h1, h2⟩ := h
    exact ⟨d, h1, h2⟩
  | x :: r, b, k + 1, hk, c, h => CrewMove.mkS_drop r b k (by simpa using hk) c h
theorem CrewMove.cntS_append (a b : List CrewMove) : CrewMove.cntS (a ++ b) = CrewMove.cntS a + CrewMove.cntS b := by
  induction a with
  | nil => simp [CrewMove.cntS]
  | cons x a ih => simp [CrewMove.cntS, ih]; omega
theorem CrewMove.cntS_snoc (l : List CrewMove) (k : Nat) (h : k < l.length) : CrewMove.cntS (l.take (k + 1)) = CrewMove.cntS (l.take k) + l[k].cnt := by
  rw [List.take_succ_eq_append_getElem h, CrewMove.cntS_append]
  simp [CrewMove.cntS]
theorem CrewMove.cntS_le (l : List CrewMove) (k : Nat) : CrewMove.cntS (l.take k) ≤ CrewMove.cntS l := by
  conv => rhs; rw [← List.take_append_drop k l, CrewMove.cntS_append]
  omega
theorem CrewMove.mk_le (x : CrewMove) (a b : Nat) (h : x.mk_ a b) : a ≤ b := by
  obtain ⟨h0, h1, hb⟩ := (x.mk_iff a b).1 h
  skip
  omega
theorem CrewMove.mkS_le : ∀ (l : List CrewMove) (a b : Nat), CrewMove.mkS l a b → a ≤ b
  | [], a, b, h => by simp only [CrewMove.mkS] at h; omega
  | x :: r, a, b, h => by
    obtain ⟨c, h1, h2⟩ := h
    exact Nat.le_trans (x.mk_le _ _ h1) (CrewMove.mkS_le r _ _ h2)

def MarkCrewMoveS (l : List CrewMove) : Prop := ∀ (A : Option Addr) (n c : Nat) (fp : List Nat) (lo : Nat) (z : Int) (k0 : Nat) (w : World), z = k0 → Ow w (.s 2 l.length (l.flatMap CrewMove.cells)) (.slice A n c) fp → New w fp lo → k0 + CrewMove.cntS l ≤ 1099511627776 →
  Calls Try.prog 41 #[.slice A n c, .int .i64 z] w fun e w' => ∃ (l' : List CrewMove), e = .returned (.int .i64 ((k0 + CrewMove.cntS l : Nat) : Int)) ∧ l'.length = l.length ∧ Ow w' (.s 2 l'.length (l'.flatMap CrewMove.cells)) (.slice A n c) fp ∧ CrewMove.mkS l' k0 (k0 + CrewMove.cntS l) ∧ Touch fp w w'
set_option maxRecDepth 100000 in
set_option maxHeartbeats 1000000 in
theorem markCrewMoveS_of (l : List CrewMove) : MarkCrewMoveS l := by
  intro A n c fp lo z k0 w hz h hn hb
  subst hz
  obtain ⟨rfl, hc, hm⟩ := h.nlen
  unfold maxLen at hm
  go_enter Try.func41, Try.ntmps41
  go_wp2
  go_loopw [1, 5] (fun a i wr => (∃ (j : Nat) (lj : List CrewMove), j ≤ l.length ∧ lj.length = l.length ∧ a = .int .i64 ((k0 + CrewMove.cntS (l.take j) : Nat) : Int) ∧ i = .int .i64 (j : Nat) ∧ Ow wr (.s 2 lj.length (lj.flatMap CrewMove.cells)) (.slice A l.length c) fp ∧ CrewMove.mkS (lj.take j) k0 (k0 + CrewMove.cntS (l.take j)) ∧ lj.drop j = l.drop j) ∧ Touch fp w wr) (fun _ i _ => l.length - (intOf i).toNat)
  case atStart => exact ⟨⟨0, l, Nat.zero_le _, rfl, by simp [CrewMove.cntS], rfl, h, by simp [CrewMove.cntS, CrewMove.mkS], rfl⟩, Touch.refl _ _⟩
  case round =>
    obtain ⟨⟨j, lj, hj, hlj, rfl, rfl, hoj, hmj, hdj⟩, ht⟩ := hrel
    have HN := hide (ht.new hn)
    have HT := hide ht
    have HM := hide hmj
    have HL := hide hlj
    have HD := hide hdj
    clear hmj ht hdj
    by_cases hlt : j < l.length
    · have hltj : j < lj.length := by omega
      have hxe : lj[j] = l[j] := by
        have h1 : (lj.drop j)[0]? = (l.drop j)[0]? := by rw [HD.out]
        simpa [List.getElem?_drop, List.getElem?_eq_getElem hlt, List.getElem?_eq_getElem hltj] using h1
      have HS := hide (CrewMove.cntS_snoc l j hlt)
      have hle := CrewMove.cntS_le l (j + 1)
      obtain ⟨g, off, us, fi, rfl, hg, hfi, hgi, hnd, hul, hcs, hov, hput⟩ := hoj.upd CrewMove.cells_len HN.out.nd hltj
      rw [hxe] at hov
      have HCN := hide (l[j].cnt_eq)
      clear hxe
      generalize hxx : l[j] = x at *
      have HXX := hide hxx
      clear hxx
      have hbb : k0 + CrewMove.cntS (l.take j) + (2) ≤ 1099511627776 := by have h1 := HS.out; have h2 := HCN.out; have h3 : CrewMove.cntS l ≥ CrewMove.cntS (l.take (j + 1)) := hle; omega
      obtain ⟨rfl, w0, w1, rfl⟩ := hov.oCrewMove
      have p0 := hcs 0 _ rfl
      have p1 := hcs 1 _ rfl
      simp only [Nat.add_zero] at p0
      have hu := HN.out.uf g hg
      have hgl := HN.out.lt g hg
      have hfl : Lt ([]) wr.heap.size := HN.out.lt.sub hfi
      have q0 := unf_frozen hu (off + j * 2)
      have q1 := unf_frozen hu (off + j * 2 + 1)
      have HP := hide hput
      clear hcs hput hov hlj hoj
      have seg0 : Seg g (off + j * 2) (off + j * 2 + 2) [] wr wr := Seg.refl _ _ _ _ _
      go_wp2
      go_roundw
      case rel =>
        have hseg := Seg.mono (fj := []) ((seg0.setCell (o := off + j * 2) (by omega) (by omega) (.int .i64 (((k0 + CrewMove.cntS (l.take j)) : Nat) : Int))).setCell (o := off + j * 2 + 1) (by omega) (by omega) (.int .i64 ((((k0 + CrewMove.cntS (l.take j)) + 1) : Nat) : Int))) (by intro b hb; first | (cases hb; done) | exact hb | (simp only [List.nil_append, List.append_assoc, List.mem_append, List.mem_cons, List.not_mem_nil, or_false, false_or] at hb ⊢; simp [hb]))
        have hnew := HP.out _ (CrewMove.mk ((((k0 + CrewMove.cntS (l.take j)) : Nat) : Int)) (((((k0 + CrewMove.cntS (l.take j)) + 1) : Nat) : Int))) [.int .i64 (((k0 + CrewMove.cntS (l.take j)) : Nat) : Int), .int .i64 ((((k0 + CrewMove.cntS (l.take j)) + 1) : Nat) : Int)] (by
          have h := OwC.mCrewMove (w := ((wr.setCell ⟨g, off + j * 2, none⟩ (.int .i64 (((k0 + CrewMove.cntS (l.take j)) : Nat) : Int))).setCell ⟨g, off + j * 2 + 1, none⟩ (.int .i64 ((((k0 + CrewMove.cntS (l.take j)) + 1) : Nat) : Int)))) (x := (CrewMove.mk ((((k0 + CrewMove.cntS (l.take j)) : Nat) : Int)) (((((k0 + CrewMove.cntS (l.take j)) + 1) : Nat) : Int)))) (by show (Lit.int .i64 (((k0 + CrewMove.cntS (l.take j)) : Nat) : Int)).wf = true; exact WalkArith.wf_i64 (by have := HCN.out; have := HS.out; omega)) (by show (Lit.int .i64 ((((k0 + CrewMove.cntS (l.take j)) + 1) : Nat) : Int)).wf = true; exact WalkArith.wf_i64 (by have := HCN.out; have := HS.out; omega))
          first | exact h | simpa using h) (fun i u hi => by
          match i, hi with
          | 0, hi => simp at hi; subst hi; go_simp
          | 1, hi => simp at hi; subst hi; go_simp) hseg HN.out.lt
        refine ⟨⟨j + 1, lj.set j (CrewMove.mk ((((k0 + CrewMove.cntS (l.take j)) : Nat) : Int)) (((((k0 + CrewMove.cntS (l.take j)) + 1) : Nat) : Int))), by omega, by simpa using HL.out, by rw [HS.out, HCN.out]; go_num, by go_num, by rw [List.length_set]; exact hnew, ?_, ?_⟩, HT.out.trans (hseg.to_touch hg hfi)⟩
        · rw [take_set_succ lj j _ (by have := HL.out; omega), HS.out]
          refine CrewMove.mkS_snoc _ _ _ _ _ HM.out ((CrewMove.mk_iff _ _ _).2 ?_)
          exact ⟨rfl, rfl, by rw [HCN.out]; simp only [Nat.add_assoc]; try omega⟩
        · rw [drop_set_succ]
          have h := congrArg (List.drop 1) HD.out
          simpa [List.drop_drop, Nat.add_comm] using h
      case measure => simp [intOf]; omega
    · obtain rfl : j = l.length := by omega
      have HO := hide hoj
      clear hoj hlj
      go_wp2
      go_ret
      have e1 : lj.take l.length = lj := List.take_of_length_le (by have := HL.out; omega)
      have e2 : l.take l.length = l := List.take_length
      have hmm := HM.out
      try rw [e1] at hmm
      try rw [e2] at hmm
      exact ⟨lj, (by first | exact rfl | (rw [e2]; exact rfl)), HL.out, HO.out, hmm, HT.out⟩
theorem markCrewMoveS_any (l : List CrewMove) : MarkCrewMoveS l := markCrewMoveS_of l
def HeldCrewMoveS (l : List CrewMove) : Prop := ∀ (A : Option Addr) (n c : Nat) (fp : List Nat) (z : Int) (a b : Nat) (w : World), z = a → Ow w (.s 2 l.length (l.flatMap CrewMove.cells)) (.slice A n c) fp → Lt fp w.heap.size → CrewMove.mkS l a b → b ≤ 1099511627776 →
  Calls Try.prog 42 #[.slice A n c, .int .i64 z] w fun e w' => e = .returned (.int .i64 (b : Nat)) ∧ Below w.heap.size w w'
set_option maxRecDepth 100000 in
set_option maxHeartbeats 1000000 in
theorem heldCrewMoveS_of (l : List CrewMove) : HeldCrewMoveS l := by
  intro A n c fp z a b w hz h hf hmk hbb
  subst hz
  obtain ⟨rfl, hc, hm⟩ := h.nlen
  unfold maxLen at hm
  have HMK := hide hmk
  have hab := CrewMove.mkS_le _ _ _ hmk
  clear hmk
  go_enter Try.func42, Try.ntmps42
  go_wp2
  go_loopw [1, 5] (fun u i wr => (∃ (j d : Nat), j ≤ l.length ∧ u = .int .i64 (d : Nat) ∧ i = .int .i64 (j : Nat) ∧ CrewMove.mkS (l.drop j) d b) ∧ Below w.heap.size w wr) (fun _ i _ => l.length - (intOf i).toNat)
  case atStart => exact ⟨⟨0, a, Nat.zero_le _, rfl, rfl, HMK.out⟩, Below.refl _ _⟩
  case round =>
    obtain ⟨⟨j, d, hj, rfl, rfl, hmj⟩, hbel⟩ := hrel
    have HB := hide hbel
    have HJ := hide hmj
    have hdb := CrewMove.mkS_le _ _ _ hmj
    clear hmj
    by_cases hlt : j < l.length
    · obtain ⟨g, off, us, fi, rfl, hg, hfi, hul, hcs, ho⟩ := (h.below HB.out hf).elem CrewMove.cells_len hlt
      obtain ⟨d2, hmx, hmr⟩ := CrewMove.mkS_drop l b j hlt d HJ.out
      have HR := hide hmr
      have hd2 := CrewMove.mkS_le _ _ _ hmr
      clear hmr
      have hgl : g < wr.heap.size := (hf.up HB.out) g hg
      have hfl := (hf.up HB.out).sub hfi
      generalize l[j] = x at *
      obtain ⟨rfl, w0, w1, rfl⟩ := ho.oCrewMove
      obtain ⟨m0, m1, hd2e⟩ := (x.mk_iff _ _).1 hmx
      have HD := hide hd2e
      clear hd2e hmx
      have p0 := hcs 0 _ rfl
      have p1 := hcs 1 _ rfl
      simp only [Nat.add_zero] at p0
      rw [m0] at p0
      rw [m1] at p1
      have hbd : d2 ≤ 1099511627776 := by omega
      have z0 : d + 1 ≤ d2 := by have := HD.out; omega
      have z1 : d + 2 ≤ d2 := by have := HD.out; omega
      have hend : d + 2 ≤ d2 := by have := HD.out; omega
      clear m0 m1 hcs ho
      clear hfl
      have B0 := hide (Below.refl wr.heap.size wr)
      go_wp2
      go_roundw
      case rel => exact ⟨⟨j + 1, d2, by omega, by (rw [HD.out]; try go_num), by go_num, HR.out⟩, HB.out.trans (B0.out.mono HB.out.size)⟩
      case measure => simp [intOf]; omega
    · obtain rfl : j = l.length := by omega
      have e := HJ.out
      rw [List.drop_length] at e
      simp only [CrewMove.mkS] at e
      subst e
      clear HJ
      go_wp2
      go_ret
      exact ⟨rfl, HB.out⟩
theorem heldCrewMoveS_any (l : List CrewMove) : HeldCrewMoveS l := heldCrewMoveS_of l
end Go.Proofs.Ytpkjjfnfolbcoaa
set_option linter.unusedVariables false
set_option linter.unusedSimpArgs false
namespace Go.Proofs.Ytpkjjfnfolbcoaa
open Go.ChangeShapes Go.WideShapes Go.ChangeAt Go.RowKit

theorem info_L_crew : (Try.prog.info? 25).map (·.size) = some 18 := by kernel_rfl
theorem got_bulk {x : CrewWorld} (h : x.bulk ≤ 1048576) : x.got.length ≤ 1048576 := by rw [CrewWorld.bulk_eq] at h; omega
theorem below_row {w0 w : World} {g : Nat} {cs : Array Value} (h : Below w0.heap.size w0 w) (hg : w0.heap.size ≤ g) : Below w0.heap.size w0 (w.setRow g cs) :=
  h.trans (below_of_grown (setRow_grown (grown_refl w (some g)) cs) hg h.size)
theorem moves_cnt : ∀ l : List CrewMove, CrewMove.cntS l ≤ 4 * l.length
  | [] => by simp [CrewMove.cntS]
  | x :: r => by
    have ih := moves_cnt r
    unfold CrewMove.cntS
    have : x.cnt ≤ 4 := by unfold CrewMove.cnt; omega
    rw [List.length_cons]
    omega
theorem hands_cnt : ∀ l : List CrewHand, CrewHand.cntS l ≤ 4 * l.length
  | [] => by simp [CrewHand.cntS]
  | x :: r => by
    have ih := hands_cnt r
    unfold CrewHand.cntS
    have : x.cnt ≤ 4 := by unfold CrewHand.cnt; omega
    rw [List.length_cons]
    omega
theorem world_cnt {x : CrewWorld} (h : x.bulk ≤ 1048576) : x.cntTop ≤ 10000000 := by
  rw [CrewWorld.bulk_eq] at h
  unfold CrewHand.bulkL at h
  have := hands_cnt x.hands
  rw [CrewWorld.cntTop_eq]
  omega
theorem movesOf_len (x : CrewWorld) : x.movesOf.length ≤ 36 := by
  unfold CrewWorld.movesOf
  split
  · rename_i h
    have hok : x.ok := Classical.byContradiction (fun hn => by rw [tb_false hn] at h; cases h)
    have := movesTo_len x (x.workers.toNat + 4)
    have hw := hok.form.start.2.1
    unfold CrewWorld.moves
    omega
  · simp
theorem row_touch {fp : List Nat} {w w2 : World} {g : Nat} {e : TypeId} {cs : List Value} (h : Row w g e cs) (ht : Touch fp w w2) (hn : g ∉ fp) : Row w2 g e cs := (ht.block _ h.lt hn).trans h
set_option maxRecDepth 100000 in
set_option maxHeartbeats 4000000 in
theorem lawFnExactCrewMoves_any (w : World) (x : CrewWorld) (us : List Value) (fp : List Nat) (ho : OwC w x.cells us fp) (hl : Lt fp w.heap.size) :
    Calls Try.prog 8 #[.agg us.toArray] w fun e w' => e = .returned (.bool true) ∧ Below w.heap.size w w' := by
  have hus : us.length = 18 := by rw [ho.length, CrewWorld.cells_len]
  have HI := hide (show (Try.prog.info? 25).map (·.size) = some us.toArray.size ∧ us.toArray.all (·.oneCell') = true from ⟨by rw [List.size_toArray, hus]; exact info_L_crew, Array.all_eq_true_iff_forall_mem.2 (fun v hv => OwC.cell1 _ ho v (by simpa using hv))⟩)
  have HO := hide ho
  have HL := hide hl
  have hl0 := hl
  clear ho hl hus
  go_enter Try.func8, Try.ntmps8
  go_upto_region 1 with fail
  generalize hw1 : w.alloc _ = w1
  have hb1 : Below w.heap.size w w1 := by rw [← hw1]; exact (Below.refl _ _).alloc (Nat.le_refl _) _
  have HP := hide (show Row w1 w.heap.size 25 us from by rw [← hw1]; exact Row.new w _ _)
  have HB := hide hb1
  have HO1 := hide (HO.out.below hb1 HL.out)
  have HL1 := hide (HL.out.up hb1)
  clear hw1 hb1 HO HL
  have pl := HP.out.lt
  have HSZ := hide (szCrewWorld_any x us fp 1048576 w1 HO1.out HL1.out (by omega) (by omega))
  go_wp2_with (first | (refine wpList_load_row rfl 25 _ rfl (w.heap.size) rfl 25 us.toArray (0, 0) _ HP.out Try.underlying25 rfl HI.out.1 ?_) | fail)
  refine HSZ.out.mono ?_
  rintro e w2 ⟨rfl, hb2⟩
  have HP2 := hide (HP.out.below hb2 HP.out.lt)
  have HB2 := hide (HB.out.trans (hb2.mono HB.out.size))
  have HO2 := hide (HO1.out.below hb2 HL1.out)
  have HL2 := hide (HL1.out.up hb2)
  clear hb2 HP HB HO1 HL1 HSZ pl
  by_cases hbk : x.bulk ≤ 1048576
  rotate_left
  · have hz : szr 1048576 ((x.bulk : Nat) : Int) = -1 := szr_no (by omega)
    rw [hz]
    clear hz hbk
    go_wp2
    go_ret
    exact ⟨rfl, HB2.out⟩
  have hz : szr 1048576 ((x.bulk : Nat) : Int) = 1048576 - ((x.bulk : Nat) : Int) := szr_yes (by omega)
  obtain ⟨z, hz2⟩ : ∃ z : Int, z = 1048576 - ((x.bulk : Nat) : Int) := ⟨_, rfl⟩
  rw [hz, ← hz2]
  have hz0 : 0 ≤ z := by omega
  have HBK := hide hbk
  have HGL := hide (got_bulk hbk)
  clear hz hz2 hbk
  have pl := HP2.out.lt
  have HT := hide (toCrewWorld_any x us fp w2 HO2.out HL2.out HBK.out)
  go_wp2_with (first | (refine wpList_load_row rfl 25 _ rfl (w.heap.size) rfl 25 us.toArray (0, 0) _ HP2.out Try.underlying25 rfl HI.out.1 ?_) | fail)
  refine HT.out.mono ?_
  rintro e w3 ⟨va, fa, rfl, ya, na, hb3⟩
  have HP3 := hide (HP2.out.below hb3 HP2.out.lt)
  have HB3 := hide (HB2.out.trans (hb3.mono HB2.out.size))
  have HP3S := hide ((HP2.out.below hb3 HP2.out.lt).lt)
  have HL1S := hide hl0
  have HO3 := hide (HO2.out.below hb3 HL2.out)
  have HL3 := hide (HL2.out.up hb3)
  have HYA := hide ya
  have HNA := hide na.lt
  clear hb3 HP2 HB2 HO2 HL2 HT pl ya na
  have HC := hide (specCrewMoves_any x va fa w3 HYA.out HNA.out HGL.out)
  go_wp2_with fail
  refine HC.out.mono ?_
  rintro e w4 ⟨v0, fw, rfl, ow0, nw0, hb4⟩
  have HW := hide ow0
  have HWR := hide (show ∀ g ∈ fw, w3.heap.size ≤ g ∧ g < w4.heap.size from fun g hg => nw0.fr g hg)
  clear ow0 nw0
  have HS34 := hide hb4.size
  have HP4 := hide (HP3.out.below hb4 HP3.out.lt)
  have HB4 := hide (HB3.out.trans (hb4.mono HB3.out.size))
  have HO4 := hide (HO3.out.below hb4 HL3.out)
  have HL4 := hide (HL3.out.up hb4)
  clear hb4 HP3 HB3 HO3 HL3 HC HYA HNA
  have pl := HP4.out.lt
  have HT := hide (toCrewWorld_any x us fp w4 HO4.out HL4.out HBK.out)
  go_wp2_with (first | (refine wpList_load_row rfl 25 _ rfl (w.heap.size) rfl 25 us.toArray (0, 0) _ HP4.out Try.underlying25 rfl HI.out.1 ?_) | fail)
  refine HT.out.mono ?_
  rintro e w5 ⟨vb, fb, rfl, yb, nb, hb5⟩
  have HS45 := hide hb5.size
  have HNBN := hide nb
  have HBR := hide (show ∀ g ∈ fb, w4.heap.size ≤ g ∧ g < w5.heap.size from fun g hg => nb.fr g hg)
  have HW5 := hide (HW.out.below hb5 (fun g hg => (HWR.out g hg).2))
  have HP5 := hide (HP4.out.below hb5 HP4.out.lt)
  have HB5 := hide (HB4.out.trans (hb5.mono HB4.out.size))
  have HO5 := hide (HO4.out.below hb5 HL4.out)
  have HL5 := hide (HL4.out.up hb5)
  have HYB := hide yb
  have HNB := hide nb.lt
  have hlb : vb.length = 18 := by rw [yb.length, CrewWorld.cells_len]
  have HIB := hide (show zeroCells.toArray.size = vb.toArray.size ∧ (Try.prog.info? 30).map (·.size) = some vb.toArray.size ∧ vb.toArray.all (·.oneCell') = true from ⟨by rw [List.size_toArray, List.size_toArray, hlb]; rfl, by rw [List.size_toArray, hlb]; kernel_rfl, Array.all_eq_true_iff_forall_mem.2 (fun v hv => OwC.cell1 _ yb v (by simpa using hv))⟩)
  have HZ := hide (show Row (w5.alloc (.cells zeroCells.toArray 30)) w5.heap.size 30 zeroCells from Row.new w5 _ _)
  have hbA : Below w5.heap.size w5 ((w5.alloc (.cells zeroCells.toArray 30)).setRow w5.heap.size vb.toArray) := below_row ((Below.refl _ _).alloc (Nat.le_refl _) _) (Nat.le_refl _)
  have HPB := hide (show Row ((w5.alloc (.cells zeroCells.toArray 30)).setRow w5.heap.size vb.toArray) w5.heap.size 30 vb from Row.setRow' HZ.out vb)
  have HBA := hide hbA
  clear hb5 HP4 HB4 HO4 HL4 HT pl yb nb hlb hbA
  obtain ⟨w6, hw6⟩ : ∃ W, W = (w5.alloc (.cells zeroCells.toArray 30)).setRow w5.heap.size vb.toArray := ⟨_, rfl⟩
  have HC := hide (implCrewMoves_any x vb fb w6 (by rw [hw6]; exact HYB.out.below HBA.out HNB.out) (by rw [hw6]; exact HNB.out.up HBA.out) HGL.out)
  have HP6 := hide (show Row w6 w.heap.size 25 us from by rw [hw6]; exact HP5.out.below HBA.out HP5.out.lt)
  have HB6 := hide (show Below w.heap.size w w6 from by rw [hw6]; exact HB5.out.trans (HBA.out.mono HB5.out.size))
  have HO6 := hide (show OwC w6 x.cells us fp from by rw [hw6]; exact HO5.out.below HBA.out HL5.out)
  have HL6 := hide (show Lt fp w6.heap.size from by rw [hw6]; exact HL5.out.up HBA.out)
  have HY6 := hide (show OwC w6 x.cells vb fb from by rw [hw6]; exact HYB.out.below HBA.out HNB.out)
  have HN6 := hide (show Lt fb w6.heap.size from by rw [hw6]; exact HNB.out.up HBA.out)
  have HW6 := hide (show Ow w6 _ v0 fw from by rw [hw6]; exact HW5.out.below HBA.out (fun g hg => Nat.lt_of_lt_of_le (HWR.out g hg).2 HS45.out))
  have HNN6 := hide (show New w6 fb w4.heap.size from by rw [hw6]; exact HNBN.out.below HBA.out HNB.out)
  have HS56 := hide (show w5.heap.size < w6.heap.size from by rw [hw6]; exact HPB.out.lt)
  have HQ6 := hide (show Row w6 w5.heap.size 30 vb from by rw [hw6]; exact HPB.out)
  have HQL := hide (show w.heap.size ≤ w5.heap.size from HB5.out.size)
  rw [hw6] at HC
  have HC6 := hide hw6
  clear HP5 HB5 HO5 HL5 HYB HNB HBA
  have ql : w5.heap.size < ((w5.alloc (.cells zeroCells.toArray 30)).setRow w5.heap.size vb.toArray).heap.size := HPB.out.lt
  go_wp2_with (first | (refine wpList_store_row rfl 30 _ _ rfl w5.heap.size vb.toArray rfl rfl 30 zeroCells.toArray HZ.out HIB.out.2.1 HIB.out.1 HIB.out.2.2 ?_) | (refine wpList_load_row rfl 30 _ rfl (w5.heap.size) rfl 30 vb.toArray (0, 0) _ HPB.out Try.underlying30 rfl HIB.out.2.1 ?_) | fail)
  refine HC.out.mono ?_
  rintro e w7 ⟨v1, fg, rfl, og0, ng0, hb7⟩
  rw [← hw6] at hb7 ng0
  have HG7 := hide og0
  have HGN7 := hide ng0
  have HGR := hide (show ∀ g ∈ fg, w6.heap.size ≤ g ∧ g < w7.heap.size from fun g hg => ng0.fr g hg)
  have HW7 := hide (HW6.out.below hb7 (fun g hg => by have h1 := (HWR.out g hg).2; have h2 := HS45.out; have h3 := HS56.out; omega))
  have HNN7 := hide (HNN6.out.below hb7 (fun g hg => by have h1 := (HBR.out g hg).2; have h3 := HS56.out; omega))
  have HS67 := hide hb7.size
  clear og0 ng0
  have HP7 := hide (HP6.out.below hb7 HP6.out.lt)
  have HB7 := hide (HB6.out.trans (hb7.mono HB6.out.size))
  have HO7 := hide (HO6.out.below hb7 HL6.out)
  have HL7 := hide (HL6.out.up hb7)
  have HY7 := hide (HY6.out.below hb7 HN6.out)
  have HN7 := hide (HN6.out.up hb7)
  have HQ7 := hide (HQ6.out.below hb7 HQ6.out.lt)
  clear hb7 HP6 HB6 HO6 HL6 HY6 HN6 HQ6 HC ql hw6 HC6 HZ HPB
  obtain ⟨A0, c0, rfl⟩ := HW7.out.isSlice
  obtain ⟨A1, c1, rfl⟩ := HG7.out.isSlice
  have HLW := hide (show Lt fw w7.heap.size from fun g hg => by have h1 := (HWR.out g hg).2; have h2 := HS45.out; have h3 := HS56.out; have h4 := HS67.out; omega)
  have HE := hide (eqCrewMoveS_any x.movesOf _ _ _ _ _ _ fg fw w7 HG7.out HW7.out HGN7.out.lt HLW.out)
  go_wp2_with fail
  refine HE.out.mono ?_
  rintro e w8 ⟨rfl, hb8⟩
  have HP8 := hide (HP7.out.below hb8 HP7.out.lt)
  have HB8 := hide (HB7.out.trans (hb8.mono HB7.out.size))
  have HO8 := hide (HO7.out.below hb8 HL7.out)
  have HL8 := hide (HL7.out.up hb8)
  have HY8 := hide (HY7.out.below hb8 HN7.out)
  have HN8 := hide (HN7.out.up hb8)
  have HQ8 := hide (HQ7.out.below hb8 HQ7.out.lt)
  have HW8 := hide (HW7.out.below hb8 HLW.out)
  have HNN8 := hide (HNN7.out.below hb8 HNN7.out.lt)
  have HG8 := hide (HG7.out.below hb8 HGN7.out.lt)
  have HGN8 := hide (HGN7.out.below hb8 HGN7.out.lt)
  have HS78 := hide hb8.size
  clear hb8 HP7 HB7 HO7 HL7 HY7 HN7 HQ7 HW7 HNN7 HG7 HGN7 HLW HE
  go_upto_region 10 with fail
  go_wp2_with fail
  refine wp_region_held_drew (S := fun W => Below w8.heap.size w8 W) (by kernel_rfl) (below_drewN (Below.refl _ _) 1) (fun hS0 => ?_)
  refine wpAnyH_take (i := 0) (v := .agg vb.toArray) rfl (by kernel_rfl) (by kernel_rfl) (by kernel_rfl) (fun _ _ _ h => h) (Or.inl ⟨by rfl, fun W hS => run_loadOp_row (HQ8.out.below hS HQ8.out.lt) 30 rfl rfl Try.underlying30 rfl HIB.out.2.1⟩) hS0 ?_
  refine wpAnyH_take (i := 1) (v := .agg us.toArray) rfl (by kernel_rfl) (by kernel_rfl) (by kernel_rfl) (fun _ _ _ h => h) (Or.inl ⟨by rfl, fun W hS => run_loadOp_row (HP8.out.below hS HP8.out.lt) 25 rfl rfl Try.underlying25 rfl HI.out.1⟩) hS0 ?_
  refine wpAnyH_ready (rs := [2]) (by kernel_rfl) (by simp) ?_
  refine AllReadyH.cons rfl (fun K hK => ?_) AllReadyH.nil
  go_simp
  go_at_call 14
  refine (toCrewWorld_any x us fp _ (HO8.out.below hS0 HL8.out) (HL8.out.up hS0) HBK.out).mono ?_
  rintro e wA ⟨vc, fc, rfl, yc, nc, hbA⟩
  have hS1 := hS0.trans (hbA.mono hS0.size)
  try go_simp
  refine hK.out _ _ hS1 (fun hHeld => ?_)
  clear hK K
  refine wpAnyH_ready (rs := [3]) (by kernel_rfl) (by simp) ?_
  refine AllReadyH.cons rfl (fun K hK => ?_) AllReadyH.nil
  go_simp
  go_at_call 16
  refine (eqCrewWorld_any x vb vc fb fc wA (HY8.out.below hS1 HN8.out) yc (HN8.out.up hS1) nc.lt).mono ?_
  rintro e w9 ⟨rfl, hb9⟩
  have hS2 := hS1.trans (hb9.mono hS1.size)
  try go_simp
  refine hK.out _ _ hS2 (fun hHeld => ?_)
  clear hK K
  refine wpAnyH_take (i := 4) (v := .bool false) rfl (by kernel_rfl) (by kernel_rfl) (by kernel_rfl) (fun _ _ _ h => h) (Or.inl ⟨by rfl, by (intro W hS; go_simp; first | done | with_reducible rfl | rfl)⟩) hS2 ?_
  refine wpAnyH_done (by kernel_rfl) ?_ _
  have HP9 := hide (HP8.out.below hS2 HP8.out.lt)
  have HB9 := hide (HB8.out.trans (hS2.mono HB8.out.size))
  have HO9 := hide (HO8.out.below hS2 HL8.out)
  have HL9 := hide (HL8.out.up hS2)
  have HY9 := hide (HY8.out.below hS2 HN8.out)
  have HQ9 := hide (HQ8.out.below hS2 HQ8.out.lt)
  have HLW8 := hide (show Lt fw w8.heap.size from fun g hg => by have h1 := (HWR.out g hg).2; have h2 := HS45.out; have h3 := HS56.out; have h4 := HS67.out; have h5 := HS78.out; omega)
  have HW9 := hide (HW8.out.below hS2 HLW8.out)
  have HNN9 := hide (HNN8.out.below hS2 HNN8.out.lt)
  have HG9 := hide (HG8.out.below hS2 HGN8.out.lt)
  have HGN9 := hide (HGN8.out.below hS2 HGN8.out.lt)
  have HS89 := hide hS2.size
  have HCT := hide (world_cnt HBK.out)
  have HML := hide (Nat.le_trans (moves_cnt x.movesOf) (Nat.mul_le_mul_left 4 (movesOf_len x)))
  have HWS := hide (show w.heap.size < w3.heap.size from HP3S.out)
  clear hS0 hS1 hS2 HP8 HB8 HO8 HL8 HY8 HN8 HQ8 HW8 HNN8 HG8 HGN8 HLW8
  have ql := HQ9.out.lt
  have HM := hide (markCrewWorld_any x vb fb w4.heap.size 1 1 w9 rfl HY9.out HNN9.out (by have := HCT.out; omega))
  go_wp2_with (first | (refine wpList_load_row rfl 30 _ rfl (w5.heap.size) rfl 30 vb.toArray (0, 0) _ HQ9.out Try.underlying30 rfl HIB.out.2.1 ?_) | fail)
  refine HM.out.mono ?_
  rintro e wB ⟨x', rfl, -, -, ht⟩
  have hct := HCT.out
  have RNG := hide (fun (g : Nat) (hg : g ∈ fb) => HBR.out g hg)
  have HPB2 := hide (row_touch HP9.out ht (fun hm => by have h1 := (RNG.out _ hm).1; have h2 := HS34.out; have h3 := HWS.out; omega))
  have HBB := hide (HB9.out.trans (ht.to_below HB9.out.size (fun g hg => by have h1 := (RNG.out g hg).1; have h2 := HS34.out; have h3 := HWS.out; omega)))
  have HOB := hide (HO9.out.touch ht HL9.out (fun g hg hm => by have h1 := (RNG.out g hm).1; have h2 := HL1S.out g hg; have h3 := HS34.out; have h4 := HWS.out; omega))
  have HLB := hide (HL9.out.mono ht.size)
  have HLW9 := hide (show Lt fw w9.heap.size from fun g hg => by have h1 := (HWR.out g hg).2; have h2 := HS45.out; have h3 := HS56.out; have h4 := HS67.out; have h5 := HS78.out; have h6 := HS89.out; omega)
  have HWB := hide (HW9.out.touch ht HLW9.out (fun g hg hm => by have h1 := (RNG.out g hm).1; have h2 := (HWR.out g hg).2; omega))
  have HLWB := hide (HLW9.out.mono ht.size)
  have HGB2 := hide (HG9.out.touch ht HGN9.out.lt (fun g hg hm => by have h1 := (RNG.out g hm).2; have h2 := (HGR.out g hg).1; have h3 := HS56.out; omega))
  have HGNB := hide (ht.new HGN9.out)
  clear ht HM ql HP9 HB9 HO9 HL9 HY9 HQ9 HW9 HNN9 HG9 HGN9 HLW9
  have HE := hide (eqCrewMoveS_any x.movesOf _ _ _ _ _ _ fg fw wB HGB2.out HWB.out HGNB.out.lt HLWB.out)
  go_wp2_with fail
  refine HE.out.mono ?_
  rintro e wC ⟨rfl, hbC⟩
  have HPC := hide (HPB2.out.below hbC HPB2.out.lt)
  have HBC := hide (HBB.out.trans (hbC.mono HBB.out.size))
  have HOC := hide (HOB.out.below hbC HLB.out)
  have HLC := hide (HLB.out.up hbC)
  have HWC := hide (HWB.out.below hbC HLWB.out)
  have HLWC := hide (HLWB.out.up hbC)
  have HGC := hide (HGB2.out.below hbC HGNB.out.lt)
  have HGNC := hide (HGNB.out.below hbC HGNB.out.lt)
  clear hbC HE HPB2 HBB HOB HLB HWB HLWB HGB2 HGNB
  have hml := HML.out
  have HM := hide (markCrewMoveS_any x.movesOf A1 _ c1 fg _ 1 1 wC rfl HGC.out HGNC.out (by omega))
  go_wp2_with fail
  refine HM.out.mono ?_
  rintro e wD ⟨l', rfl, hll, hol, hmk, ht⟩
  have HPD := hide (row_touch HPC.out ht (fun hm => by have h1 := (HGR.out _ hm).1; have h2 := HS34.out; have h3 := HWS.out; have h4 := HS45.out; have h5 := HS56.out; omega))
  have HBD := hide (HBC.out.trans (ht.to_below HBC.out.size (fun g hg => by have h1 := (HGR.out g hg).1; have h2 := HS34.out; have h3 := HWS.out; have h4 := HS45.out; have h5 := HS56.out; omega)))
  have HOD := hide (HOC.out.touch ht HLC.out (fun g hg hm => by have h1 := (HGR.out g hm).1; have h2 := HL1S.out g hg; have h3 := HS34.out; have h4 := HWS.out; have h5 := HS45.out; have h6 := HS56.out; omega))
  have HLD := hide (HLC.out.mono ht.size)
  have HWD := hide (HWC.out.touch ht HLWC.out (fun g hg hm => by have h1 := (HGR.out g hm).1; have h2 := (HWR.out g hg).2; have h3 := HS45.out; have h4 := HS56.out; omega))
  have HLWD := hide (HLWC.out.mono ht.size)
  have HGD := hide hol
  have HGND := hide (ht.new HGNC.out)
  have HMK := hide hmk
  obtain ⟨cn, hcn⟩ : ∃ cn, cn = 1 + CrewMove.cntS x.movesOf := ⟨_, rfl⟩
  rw [← hcn] at HMK ⊢
  have hcb : cn ≤ 1000 := by omega
  clear ht hol hmk hll HM HPC HBC HOC HLC HWC HLWC HGC HGNC hcn
  have HH := hide (heldCrewMoveS_any l' A1 _ c1 fg 1 1 cn wD rfl HGD.out HGND.out.lt HMK.out (by omega))
  go_wp2_with fail
  refine HH.out.mono ?_
  rintro e wE ⟨rfl, hbE⟩
  have HPE := hide (HPD.out.below hbE HPD.out.lt)
  have HBE := hide (HBD.out.trans (hbE.mono HBD.out.size))
  have HOE := hide (HOD.out.below hbE HLD.out)
  have HLE := hide (HLD.out.up hbE)
  have HWE := hide (HWD.out.below hbE HLWD.out)
  have HLWE := hide (HLWD.out.up hbE)
  have HGE := hide (HGD.out.below hbE HGND.out.lt)
  have HGLE := hide (HGND.out.lt.up hbE)
  clear hbE HH HPD HBD HOD HLD HWD HLWD HGD HGND
  have pl := HPE.out.lt
  have HT := hide (toCrewWorld_any x us fp wE HOE.out HLE.out HBK.out)
  go_wp2_with (first | (refine wpList_load_row rfl 25 _ rfl (w.heap.size) rfl 25 us.toArray (0, 0) _ HPE.out Try.underlying25 rfl HI.out.1 ?_) | fail)
  refine HT.out.mono ?_
  rintro e wF ⟨vd, fd, rfl, yd, nd, hbF⟩
  have HYD := hide yd
  have HND := hide nd.lt
  have HBF := hide (HBE.out.trans (hbF.mono HBE.out.size))
  have HWF := hide (HWE.out.below hbF HLWE.out)
  have HLWF := hide (HLWE.out.up hbF)
  have HGF := hide (HGE.out.below hbF HGLE.out)
  have HGLF := hide (HGLE.out.up hbF)
  have HC := hide (implCrewMoves_any x vd fd wF HYD.out HND.out HGL.out)
  clear hbF HT yd nd pl HPE HBE HOE HLE HWE HLWE HGE HGLE
  go_wp2_with fail
  refine HC.out.mono ?_
  rintro e wG ⟨v2, fh, rfl, oh0, nh0, hbG⟩
  obtain ⟨A2, c2, rfl⟩ := oh0.isSlice
  have HHG := hide oh0
  have HHL := hide nh0.lt
  have HBG := hide (HBF.out.trans (hbG.mono HBF.out.size))
  have HWG := hide (HWF.out.below hbG HLWF.out)
  have HLWG := hide (HLWF.out.up hbG)
  have HGG := hide (HGF.out.below hbG HGLF.out)
  have HGLG := hide (HGLF.out.up hbG)
  clear hbG HC oh0 nh0 HYD HND HBF HWF HLWF HGF HGLF
  have HE := hide (eqCrewMoveS_any x.movesOf _ _ _ _ _ _ fh fw wG HHG.out HWG.out HHL.out HLWG.out)
  go_wp2_with fail
  refine HE.out.mono ?_
  rintro e wH ⟨rfl, hbH⟩
  have HBH := hide (HBG.out.trans (hbH.mono HBG.out.size))
  have HGH := hide (HGG.out.below hbH HGLG.out)
  have HGLH := hide (HGLG.out.up hbH)
  clear hbH HE HBG HHG HHL HWG HLWG HGG HGLG
  have HH := hide (heldCrewMoveS_any l' A1 _ c1 fg 1 1 cn wH rfl HGH.out HGLH.out HMK.out (by omega))
  go_wp2_with fail
  refine HH.out.mono ?_
  rintro e wI ⟨rfl, hbI⟩
  have HBI := hide (HBH.out.trans (hbI.mono HBH.out.size))
  clear HH hbI
  go_wp2
  go_ret
  exact ⟨rfl, HBI.out⟩
end Go.Proofs.Ytpkjjfnfolbcoaa
