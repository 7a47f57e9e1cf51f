/-
  What the reference asks of a world of a crew: whether hands have ended, what is due, what is left.
-/
import Derived.Deep.RegionHeld3
import Derived.Deep.CutRange
import Derived.Deep.DeepCutAuto
import Derived.BigQuiet
import Derived.Test.YtpkjjfnfolbcoaaQPlayM0
set_option linter.unusedVariables false
set_option linter.unusedSimpArgs false
namespace Go.Proofs.Ytpkjjfnfolbcoaa
open Go.ChangeShapes Go.WideShapes Go.ChangeAt Go.RowKit

theorem allDone_iff (x : CrewWorld) : x.allDone ↔ ∀ i (h : i < x.hands.length), x.hands[i].state = 3 :=
  ⟨fun h i hi => h _ (List.getElem_mem hi), fun h y hy => by obtain ⟨i, hi, rfl⟩ := List.getElem_of_mem hy; exact h i hi⟩
theorem oneDone_not (x : CrewWorld) : ¬ x.oneDone ↔ ∀ i (h : i < x.hands.length), x.hands[i].state ≠ 3 :=
  ⟨fun h i hi e => h ⟨_, List.getElem_mem hi, e⟩, fun h ⟨y, hy, e⟩ => by obtain ⟨i, hi, rfl⟩ := List.getElem_of_mem hy; exact h i hi e⟩
theorem all_step {α : Type} {P : α → Prop} (l : List α) (k : Nat) (hk : k < l.length) (ha : ∀ j (h : j < l.length), j < k → P l[j]) (hn : P l[k]) : ∀ j (h : j < l.length), j < k + 1 → P l[j] := fun j h hj => by
  by_cases e : j < k
  · exact ha j h e
  · obtain rfl : j = k := by omega
    exact hn
set_option maxRecDepth 100000 in
set_option maxHeartbeats 1000000 in
theorem l51All_any (x : CrewWorld) (us : List Value) (fp : List Nat) (w : World) (ho : OwC w x.cells us fp) (hf : Lt fp w.heap.size) :
    Calls Try.prog 62 #[.agg us.toArray] w fun e w' => e = .returned (.bool (tb x.allDone)) ∧ Below w.heap.size w w' := by
  have HO := hide ho
  have HF := hide hf
  obtain ⟨A1, c1, A2, c2, A3, c3, A4, c4, A5, c5, A6, c6, A7, c7, f1, f2, f3, f4, f5, f6, f7, rfl, wjobs, wworkers, wwindow, wnext, wreader, o1, o2, wcloser, o3, wkeeper, o4, wdue, o5, wuser, o6, wroom, o7, wops, rfl⟩ := ho.oCrewWorld
  clear ho
  go_enter Try.func62, Try.ntmps62
  go_upto_region 1 with fail
  generalize hw1 : w.alloc _ = w1
  have hb0 : Below w.heap.size w w1 := by rw [← hw1]; exact (Below.refl _ _).alloc (Nat.le_refl _) _
  have HX := hide (show Row w1 w.heap.size 30 [.int .i64 x.jobs, .int .i64 x.workers, .int .i64 x.window, .int .i64 x.next, .int .i64 x.reader, .slice A1 x.queue.length c1, .slice A2 x.hands.length c2, .int .i64 x.closer, .slice A3 x.results.length c3, .int .i64 x.keeper, .slice A4 x.ring.length c4, .int .i64 x.due, .slice A5 x.out.length c5, .int .i64 x.user, .slice A6 x.got.length c6, .int .i64 x.room, .slice A7 x.shut.length c7, .int .i64 x.ops] from by rw [← hw1]; exact Row.new w _ _)
  have HB := hide hb0
  have HOW := hide (HO.out.below hb0 hf)
  have HFW := hide (hf.up hb0)
  have O2 := hide (o2.below hb0 hf.right.left)
  have l2 := hf.right.left.up hb0
  obtain ⟨-, n2, m2⟩ := o2.nlen
  unfold maxLen at m2
  clear hw1 hb0 HO o1 o2 o3 o4 o5 o6 o7
  have x6 := HX.out.cell 6
  have xl := HX.out.lt
  have HN := hide (fun (i : Nat) (h : i < x.hands.length) (hn : ¬ (fun y : CrewHand => y.state = 3) x.hands[i]) => show false = tb x.allDone from (tb_false (fun hk => hn ((allDone_iff x).1 hk i h))).symm)
  have HY := hide (fun (h : ∀ i (h : i < x.hands.length), (fun y : CrewHand => y.state = 3) x.hands[i]) => show true = tb x.allDone from (tb_true ((allDone_iff x).2 h)).symm)
  go_wp2
  go_loopw [3] (fun i wr => (∃ j : Nat, j ≤ x.hands.length ∧ i = .int .i64 j ∧ ∀ a (h : a < x.hands.length), a < j → (fun y : CrewHand => y.state = 3) x.hands[a]) ∧ wr = w1) (fun i _ => x.hands.length - (intOf i).toNat)
  case atStart => exact ⟨⟨0, Nat.zero_le _, rfl, fun a h1 h => absurd h (by omega)⟩, rfl⟩
  case round =>
    obtain ⟨⟨j, hj, rfl, ha⟩, rfl⟩ := hrel
    have HA := hide ha
    clear ha
    by_cases hlt : j < x.hands.length
    · have hji : (j : Int) < (x.hands.length : Int) := by omega
      obtain ⟨g, off, ws, fi, rfl, hg, hfi, hwl, hcs, hov⟩ := O2.out.elem CrewHand.cells_len hlt
      obtain ⟨rfl, -, -, -⟩ := hov.oCrewHand
      have p0 := hcs 0 _ rfl
      simp only [Nat.add_zero] at p0
      have HS := hide (all_step (P := fun y : CrewHand => y.state = 3) x.hands j hlt HA.out)
      have HZ := hide (HN.out j hlt)
      clear hcs hov
      generalize x.hands[j] = y at *
      by_cases h3 : y.state = 3
      · have HV := hide (HS.out h3)
        go_wp2
        go_roundw
        case rel => exact ⟨⟨j + 1, by omega, by go_num, HV.out⟩, by trivial⟩
        case measure => simp [intOf]; omega
      · have HV := hide (HZ.out h3)
        go_wp2
        go_ret
        exact ⟨ret_bool HV.out, HB.out⟩
    · have hji : ¬ ((j : Int) < (x.hands.length : Int)) := by omega
      have HV := hide (HY.out (fun a h => HA.out a h (by omega)))
      go_wp2
      go_ret
      exact ⟨ret_bool HV.out, HB.out⟩
set_option maxRecDepth 100000 in
set_option maxHeartbeats 1000000 in
theorem l51Any_any (x : CrewWorld) (us : List Value) (fp : List Nat) (w : World) (ho : OwC w x.cells us fp) (hf : Lt fp w.heap.size) :
    Calls Try.prog 113 #[.agg us.toArray] w fun e w' => e = .returned (.bool (tb x.oneDone)) ∧ Below w.heap.size w w' := by
  have HO := hide ho
  have HF := hide hf
  obtain ⟨A1, c1, A2, c2, A3, c3, A4, c4, A5, c5, A6, c6, A7, c7, f1, f2, f3, f4, f5, f6, f7, rfl, wjobs, wworkers, wwindow, wnext, wreader, o1, o2, wcloser, o3, wkeeper, o4, wdue, o5, wuser, o6, wroom, o7, wops, rfl⟩ := ho.oCrewWorld
  clear ho
  go_enter Try.func113, Try.ntmps113
  go_upto_region 1 with fail
  generalize hw1 : w.alloc _ = w1
  have hb0 : Below w.heap.size w w1 := by rw [← hw1]; exact (Below.refl _ _).alloc (Nat.le_refl _) _
  have HX := hide (show Row w1 w.heap.size 30 [.int .i64 x.jobs, .int .i64 x.workers, .int .i64 x.window, .int .i64 x.next, .int .i64 x.reader, .slice A1 x.queue.length c1, .slice A2 x.hands.length c2, .int .i64 x.closer, .slice A3 x.results.length c3, .int .i64 x.keeper, .slice A4 x.ring.length c4, .int .i64 x.due, .slice A5 x.out.length c5, .int .i64 x.user, .slice A6 x.got.length c6, .int .i64 x.room, .slice A7 x.shut.length c7, .int .i64 x.ops] from by rw [← hw1]; exact Row.new w _ _)
  have HB := hide hb0
  have HOW := hide (HO.out.below hb0 hf)
  have HFW := hide (hf.up hb0)
  have O2 := hide (o2.below hb0 hf.right.left)
  have l2 := hf.right.left.up hb0
  obtain ⟨-, n2, m2⟩ := o2.nlen
  unfold maxLen at m2
  clear hw1 hb0 HO o1 o2 o3 o4 o5 o6 o7
  have x6 := HX.out.cell 6
  have xl := HX.out.lt
  have HN := hide (fun (i : Nat) (h : i < x.hands.length) (hn : ¬ (fun y : CrewHand => y.state ≠ 3) x.hands[i]) => show true = tb x.oneDone from (tb_true ⟨_, List.getElem_mem h, Classical.not_not.1 hn⟩).symm)
  have HY := hide (fun (h : ∀ i (h : i < x.hands.length), (fun y : CrewHand => y.state ≠ 3) x.hands[i]) => show false = tb x.oneDone from (tb_false ((oneDone_not x).2 h)).symm)
  go_wp2
  go_loopw [3] (fun i wr => (∃ j : Nat, j ≤ x.hands.length ∧ i = .int .i64 j ∧ ∀ a (h : a < x.hands.length), a < j → (fun y : CrewHand => y.state ≠ 3) x.hands[a]) ∧ wr = w1) (fun i _ => x.hands.length - (intOf i).toNat)
  case atStart => exact ⟨⟨0, Nat.zero_le _, rfl, fun a h1 h => absurd h (by omega)⟩, rfl⟩
  case round =>
    obtain ⟨⟨j, hj, rfl, ha⟩, rfl⟩ := hrel
    have HA := hide ha
    clear ha
    by_cases hlt : j < x.hands.length
    · have hji : (j : Int) < (x.hands.length : Int) := by omega
      obtain ⟨g, off, ws, fi, rfl, hg, hfi, hwl, hcs, hov⟩ := O2.out.elem CrewHand.cells_len hlt
      obtain ⟨rfl, -, -, -⟩ := hov.oCrewHand
      have p0 := hcs 0 _ rfl
      simp only [Nat.add_zero] at p0
      have HS := hide (all_step (P := fun y : CrewHand => y.state ≠ 3) x.hands j hlt HA.out)
      have HZ := hide (HN.out j hlt)
      clear hcs hov
      generalize x.hands[j] = y at *
      by_cases h3 : y.state = 3
      · have HV := hide (HZ.out (fun h => h h3))
        go_wp2
        go_ret
        exact ⟨ret_bool HV.out, HB.out⟩
      · have HV := hide (HS.out h3)
        go_wp2
        go_roundw
        case rel => exact ⟨⟨j + 1, by omega, by go_num, HV.out⟩, by trivial⟩
        case measure => simp [intOf]; omega
    · have hji : ¬ ((j : Int) < (x.hands.length : Int)) := by omega
      have HV := hide (HY.out (fun a h => HA.out a h (by omega)))
      go_wp2
      go_ret
      exact ⟨ret_bool HV.out, HB.out⟩
theorem due_at {x : CrewWorld} (h : x.Form) : ∃ k : Nat, k < x.ring.length ∧ Int.tmod x.due x.window = (k : Int) ∧ k = (x.due % x.window).toNat ∧ x.window ≠ 0 := by
  have h1 := h.due
  have h2 := h.ring
  have h3 := h.start.2.2
  have hm := Int.emod_nonneg x.due (show x.window ≠ 0 by omega)
  have hl := Int.emod_lt_of_pos x.due (show 0 < x.window by omega)
  refine ⟨(x.due % x.window).toNat, by omega, ?_, rfl, by omega⟩
  rw [Int.tmod_eq_emod_of_nonneg h1.1]
  omega
theorem dueIn_at {x : CrewWorld} {k : Nat} (hk : k < x.ring.length) (e : k = (x.due % x.window).toNat) : x.dueIn ↔ x.ring[k] = x.due := by
  unfold CrewWorld.dueIn
  rw [← e, List.getElem?_eq_getElem hk]
  exact ⟨fun h => by injection h, fun h => by rw [h]⟩
set_option maxRecDepth 100000 in
set_option maxHeartbeats 1000000 in
theorem l51Due_any (x : CrewWorld) (us : List Value) (fp : List Nat) (w : World) (ho : OwC w x.cells us fp) (hf : Lt fp w.heap.size) (hfm : x.Form) :
    Calls Try.prog 114 #[.agg us.toArray] w fun e w' => e = .returned (.bool (tb x.dueIn)) ∧ Below w.heap.size w w' := by
  obtain ⟨k, hk, hmod, hke, hw0⟩ := due_at hfm
  have HD := hide (dueIn_at hk hke)
  clear hke hfm
  have HO := hide ho
  have HF := hide hf
  obtain ⟨A1, c1, A2, c2, A3, c3, A4, c4, A5, c5, A6, c6, A7, c7, f1, f2, f3, f4, f5, f6, f7, rfl, wjobs, wworkers, wwindow, wnext, wreader, o1, o2, wcloser, o3, wkeeper, o4, wdue, o5, wuser, o6, wroom, o7, wops, rfl⟩ := ho.oCrewWorld
  clear ho
  go_enter Try.func114, Try.ntmps114
  go_upto_region 1 with fail
  generalize hw1 : w.alloc _ = w1
  have hb0 : Below w.heap.size w w1 := by rw [← hw1]; exact (Below.refl _ _).alloc (Nat.le_refl _) _
  have HX := hide (show Row w1 w.heap.size 30 [.int .i64 x.jobs, .int .i64 x.workers, .int .i64 x.window, .int .i64 x.next, .int .i64 x.reader, .slice A1 x.queue.length c1, .slice A2 x.hands.length c2, .int .i64 x.closer, .slice A3 x.results.length c3, .int .i64 x.keeper, .slice A4 x.ring.length c4, .int .i64 x.due, .slice A5 x.out.length c5, .int .i64 x.user, .slice A6 x.got.length c6, .int .i64 x.room, .slice A7 x.shut.length c7, .int .i64 x.ops] from by rw [← hw1]; exact Row.new w _ _)
  have HB := hide hb0
  have HOW := hide (HO.out.below hb0 hf)
  have HFW := hide (hf.up hb0)
  have O4 := hide (o4.below hb0 hf.right.right.right.left)
  have l4 := hf.right.right.right.left.up hb0
  obtain ⟨-, n4, m4⟩ := o4.nlen
  unfold maxLen at m4
  clear hw1 hb0 HO o1 o2 o3 o4 o5 o6 o7
  have x2 := HX.out.cell 2
  have x10 := HX.out.cell 10
  have x11 := HX.out.cell 11
  have xl := HX.out.lt
  obtain ⟨g, off, rfl, hg, hcell, -⟩ := ints_at O4.out hk
  have hgl := l4 g hg
  have HRE := hide (show (x.ring[k] == x.due) = tb x.dueIn from by
    by_cases h : x.ring[k] = x.due
    · rw [tb_true (HD.out.2 h)]; simpa using h
    · rw [tb_false (fun e => h (HD.out.1 e))]; simpa using h)
  generalize x.ring[k] = y at *
  have hki : (k : Int) < (x.ring.length : Int) := by omega
  have hk0 : (0 : Int) ≤ (k : Int) := by omega
  go_wp2
  go_quiet (fail)
  go_wp2
  go_ret
  exact ⟨ret_bool HRE.out, below_drewN HB.out _⟩
end Go.Proofs.Ytpkjjfnfolbcoaa
