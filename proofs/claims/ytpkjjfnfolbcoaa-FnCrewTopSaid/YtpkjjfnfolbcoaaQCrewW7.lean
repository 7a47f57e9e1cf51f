/-
  When a world of a crew is ok, what is left, whether all has ended: the reference.
-/
import Derived.Deep.RegionHeld
import Derived.Laws.Tables
import Derived.Test.YtpkjjfnfolbcoaaQCrewW2
import Derived.Test.YtpkjjfnfolbcoaaQCrewW6
set_option linter.unusedVariables false
set_option linter.unusedSimpArgs false
namespace Go.Proofs.Ytpkjjfnfolbcoaa
open Go.ChangeShapes Go.WideShapes Go.ChangeAt Go.RowKit

theorem ok_iff {x : CrewWorld} : x.ok ↔ x.FormG ∧ x.Placed ∧ (x.Ends ∧ x.Kept) ∧ x.ops + x.left ≤ 11 * x.jobs + x.workers + 7 :=
  ⟨fun h => ⟨⟨h.form, laid_got h.form h.placed⟩, h.placed, ⟨h.ends, h.kept⟩, h.few⟩, fun h => ⟨h.1.1, h.2.1, h.2.2.1.1, h.2.2.1.2, h.2.2.2⟩⟩
theorem left_le {x : CrewWorld} (h : x.Form) : 0 ≤ x.left ∧ x.left ≤ 3000 := by
  have h1 := h.next
  have h2 := h.start
  have h3 := h.queue
  have h4 := h.results
  have h5 := h.out
  have h6 := h.hands
  have h7 := h.ring
  have a1 := readLeft_le x.reader
  have a2 := keepLeft_le x.keeper
  have a3 := handsLeft_le x.hands
  have a4 := ringLeft_le x.ring
  have a5 : 0 ≤ bitP (x.closer = 0) ∧ bitP (x.closer = 0) ≤ 1 := by unfold bitP; split <;> omega
  have a6 : 0 ≤ bitP (x.user = 0) ∧ bitP (x.user = 0) ≤ 1 := by unfold bitP; split <;> omega
  unfold crewOk at h2
  unfold CrewWorld.left
  omega
theorem run_loadOp_row {P : Program} {o : Oper} {a : Act} {w : World} {g : Nat} {t : TypeId} {cs : List Value} (hr : Row w g t cs) (ty : TypeId) {x : Operand} (ho : o.op = .load ty x) (hx : a.eval x = .pointer (some ⟨g, 0, none⟩)) {d : TypeDesc}
    (hu : P.underlying ty = some d) (hd : (match d with | .struct _ | .array _ _ => true | _ => false) = true) (hi : (P.info? ty).map (·.size) = some cs.toArray.size) : (execOp a.eval o).run P w = .ok (.value (.agg cs.toArray)) w := by
  unfold execOp
  simp only [ho, hx, Instr.loadAt, Instr.sureAddr, Sem.run_bind, Sem.run_pure, Result.andThen_ok, run_loadVar_row w g t ty cs.toArray (0, 0) d hr hu hd hi]
set_option maxRecDepth 100000 in
set_option maxHeartbeats 8000000 in
theorem specCrewOk_any (x : CrewWorld) (us : List Value) (fp : List Nat) (w : World) (ho : OwC w x.cells us fp) (hf : Lt fp w.heap.size) (hgl : x.got.length ≤ 1048576) :
    Calls Try.prog 13 #[.agg us.toArray] w fun e w' => e = .returned (.bool (tb x.ok)) ∧ Below w.heap.size w w' := by
  have HO := hide ho
  have HF := hide hf
  obtain ⟨A1, c1, A2, c2, A3, c3, A4, c4, A5, c5, A6, c6, A7, c7, f1, f2, f3, f4, f5, f6, f7, rfl, wjobs, wworkers, wwindow, wnext, wreader, o1, o2, wcloser, o3, wkeeper, o4, wdue, o5, wuser, o6, wroom, o7, wops, rfl⟩ := ho.oCrewWorld
  clear ho
  go_enter Try.func13, Try.ntmps13
  go_upto_region 1 with fail
  generalize hw1 : w.alloc _ = w1
  have hb0 : Below w.heap.size w w1 := by rw [← hw1]; exact (Below.refl _ _).alloc (Nat.le_refl _) _
  have HX := hide (show Row w1 w.heap.size 30 [.int .i64 x.jobs, .int .i64 x.workers, .int .i64 x.window, .int .i64 x.next, .int .i64 x.reader, .slice A1 x.queue.length c1, .slice A2 x.hands.length c2, .int .i64 x.closer, .slice A3 x.results.length c3, .int .i64 x.keeper, .slice A4 x.ring.length c4, .int .i64 x.due, .slice A5 x.out.length c5, .int .i64 x.user, .slice A6 x.got.length c6, .int .i64 x.room, .slice A7 x.shut.length c7, .int .i64 x.ops] from by rw [← hw1]; exact Row.new w _ _)
  have HB := hide hb0
  have HOW := hide (HO.out.below hb0 hf)
  have HFW := hide (hf.up hb0)
  clear hw1 hb0 HO o1 o2 o3 o4 o5 o6 o7
  have x0 := HX.out.cell 0
  have xl := HX.out.lt
  clear x0 xl
  have HGL := hide hgl
  have HNO := hide (fun (h : ¬ x.ok) => show false = tb x.ok from (tb_false h).symm)
  clear hgl
  by_cases hf : x.FormG
  rotate_left
  · have HFORM := hide (fun (W : World) (hb : Below w1.heap.size w1 W) => show Calls Try.prog 55 #[.agg ([.int .i64 x.jobs, .int .i64 x.workers, .int .i64 x.window, .int .i64 x.next, .int .i64 x.reader, .slice A1 x.queue.length c1, .slice A2 x.hands.length c2, .int .i64 x.closer, .slice A3 x.results.length c3, .int .i64 x.keeper, .slice A4 x.ring.length c4, .int .i64 x.due, .slice A5 x.out.length c5, .int .i64 x.user, .slice A6 x.got.length c6, .int .i64 x.room, .slice A7 x.shut.length c7, .int .i64 x.ops] : List Value).toArray] W (fun e w' => e = .returned (.bool false) ∧ Below W.heap.size W w') from by
    have h := l51Form_any x _ _ W (HOW.out.below hb HFW.out) (HFW.out.up hb)
    rw [tb_false hf] at h
    exact h)
    have HZ := hide (HNO.out (fun hp => hf (ok_iff.1 hp).1))
    clear hf
    go_wp2_with fail
    refine wp_region_held_drew (S := fun W => Below w1.heap.size w1 W) (by kernel_rfl) (below_drewN (Below.refl _ _) 1) (fun hS0 => ?_)
    refine wpAnyH_take (i := 0) (v := .agg ([.int .i64 x.jobs, .int .i64 x.workers, .int .i64 x.window, .int .i64 x.next, .int .i64 x.reader, .slice A1 x.queue.length c1, .slice A2 x.hands.length c2, .int .i64 x.closer, .slice A3 x.results.length c3, .int .i64 x.keeper, .slice A4 x.ring.length c4, .int .i64 x.due, .slice A5 x.out.length c5, .int .i64 x.user, .slice A6 x.got.length c6, .int .i64 x.room, .slice A7 x.shut.length c7, .int .i64 x.ops] : List Value).toArray) rfl (by kernel_rfl) (by kernel_rfl) (by kernel_rfl) (fun _ _ _ h => h) (Or.inl ⟨by kernel_rfl, fun W hS => run_loadOp_row (HX.out.below hS HX.out.lt) 30 rfl rfl Try.underlying30 rfl info_crew⟩) hS0 ?_
    (try simp only [Act.put, List.getElem_toArray, List.getElem_cons_zero, List.getElem_cons_succ, List.setIfInBounds_toArray, List.set_cons_zero, List.set_cons_succ])
    refine wpAnyH_ready (rs := [1]) (by kernel_rfl) (by simp) ?_
    refine AllReadyH.cons rfl (fun K hK => ?_) AllReadyH.nil
    go_simp
    go_at_call 55
    refine (HFORM.out _ hS0).mono ?_
    rintro e u1 ⟨rfl, hb1⟩
    have hS1 := hS0.trans (hb1.mono hS0.size)
    try go_simp
    refine hK.out _ _ hS1 (fun hHeld => ?_)
    clear hK K
    refine wpAnyH_take (i := 2) (v := .bool false) rfl (by kernel_rfl) (by kernel_rfl) (by kernel_rfl) (fun _ _ _ h => h) (Or.inl ⟨by kernel_rfl, by (intro W hS; go_simp; first | done | with_reducible rfl | rfl)⟩) hS1 ?_
    (try simp only [Act.put, List.getElem_toArray, List.getElem_cons_zero, List.getElem_cons_succ, List.setIfInBounds_toArray, List.set_cons_zero, List.set_cons_succ])
    refine wpAnyH_take (i := 3) (v := undef) rfl (by kernel_rfl) (by kernel_rfl) (by kernel_rfl) (fun _ _ _ h => h) (Or.inr ⟨by kernel_rfl, rfl⟩) hS1 ?_
    (try simp only [Act.put, List.getElem_toArray, List.getElem_cons_zero, List.getElem_cons_succ, List.setIfInBounds_toArray, List.set_cons_zero, List.set_cons_succ])
    refine wpAnyH_ready (rs := [4]) (by kernel_rfl) (by simp) ?_
    refine AllReadyH.cons rfl (fun K hK => ?_) AllReadyH.nil
    go_simp
    refine hK.out _ _ hS1 (fun hHeld => ?_)
    clear hK K
    refine wpAnyH_take (i := 5) (v := .bool false) rfl (by kernel_rfl) (by kernel_rfl) (by kernel_rfl) (fun _ _ _ h => h) (Or.inl ⟨by kernel_rfl, by (intro W hS; go_simp; first | done | with_reducible rfl | rfl)⟩) hS1 ?_
    (try simp only [Act.put, List.getElem_toArray, List.getElem_cons_zero, List.getElem_cons_succ, List.setIfInBounds_toArray, List.set_cons_zero, List.set_cons_succ])
    refine wpAnyH_take (i := 6) (v := .bool false) rfl (by kernel_rfl) (by kernel_rfl) (by kernel_rfl) (fun _ _ _ h => h) (Or.inl ⟨by kernel_rfl, by (intro W hS; go_simp; first | done | with_reducible rfl | rfl)⟩) hS1 ?_
    (try simp only [Act.put, List.getElem_toArray, List.getElem_cons_zero, List.getElem_cons_succ, List.setIfInBounds_toArray, List.set_cons_zero, List.set_cons_succ])
    refine wpAnyH_take (i := 7) (v := undef) rfl (by kernel_rfl) (by kernel_rfl) (by kernel_rfl) (fun _ _ _ h => h) (Or.inr ⟨by kernel_rfl, rfl⟩) hS1 ?_
    (try simp only [Act.put, List.getElem_toArray, List.getElem_cons_zero, List.getElem_cons_succ, List.setIfInBounds_toArray, List.set_cons_zero, List.set_cons_succ])
    refine wpAnyH_ready (rs := [8]) (by kernel_rfl) (by simp) ?_
    refine AllReadyH.cons rfl (fun K hK => ?_) AllReadyH.nil
    go_simp
    refine hK.out _ _ hS1 (fun hHeld => ?_)
    clear hK K
    refine wpAnyH_take (i := 9) (v := .bool false) rfl (by kernel_rfl) (by kernel_rfl) (by kernel_rfl) (fun _ _ _ h => h) (Or.inl ⟨by kernel_rfl, by (intro W hS; go_simp; first | done | with_reducible rfl | rfl)⟩) hS1 ?_
    (try simp only [Act.put, List.getElem_toArray, List.getElem_cons_zero, List.getElem_cons_succ, List.setIfInBounds_toArray, List.set_cons_zero, List.set_cons_succ])
    refine wpAnyH_take (i := 10) (v := .bool false) rfl (by kernel_rfl) (by kernel_rfl) (by kernel_rfl) (fun _ _ _ h => h) (Or.inl ⟨by kernel_rfl, by (intro W hS; go_simp; first | done | with_reducible rfl | rfl)⟩) hS1 ?_
    (try simp only [Act.put, List.getElem_toArray, List.getElem_cons_zero, List.getElem_cons_succ, List.setIfInBounds_toArray, List.set_cons_zero, List.set_cons_succ])
    refine wpAnyH_take (i := 11) (v := undef) rfl (by kernel_rfl) (by kernel_rfl) (by kernel_rfl) (fun _ _ _ h => h) (Or.inr ⟨by kernel_rfl, rfl⟩) hS1 ?_
    (try simp only [Act.put, List.getElem_toArray, List.getElem_cons_zero, List.getElem_cons_succ, List.setIfInBounds_toArray, List.set_cons_zero, List.set_cons_succ])
    refine wpAnyH_take (i := 12) (v := undef) rfl (by kernel_rfl) (by kernel_rfl) (by kernel_rfl) (fun _ _ _ h => h) (Or.inr ⟨by kernel_rfl, rfl⟩) hS1 ?_
    (try simp only [Act.put, List.getElem_toArray, List.getElem_cons_zero, List.getElem_cons_succ, List.setIfInBounds_toArray, List.set_cons_zero, List.set_cons_succ])
    refine wpAnyH_take (i := 13) (v := undef) rfl (by kernel_rfl) (by kernel_rfl) (by kernel_rfl) (fun _ _ _ h => h) (Or.inr ⟨by kernel_rfl, rfl⟩) hS1 ?_
    (try simp only [Act.put, List.getElem_toArray, List.getElem_cons_zero, List.getElem_cons_succ, List.setIfInBounds_toArray, List.set_cons_zero, List.set_cons_succ])
    refine wpAnyH_take (i := 16) (v := undef) rfl (by kernel_rfl) (by kernel_rfl) (by kernel_rfl) (fun _ _ _ h => h) (Or.inr ⟨by kernel_rfl, rfl⟩) hS1 ?_
    (try simp only [Act.put, List.getElem_toArray, List.getElem_cons_zero, List.getElem_cons_succ, List.setIfInBounds_toArray, List.set_cons_zero, List.set_cons_succ])
    refine wpAnyH_take (i := 17) (v := undef) rfl (by kernel_rfl) (by kernel_rfl) (by kernel_rfl) (fun _ _ _ h => h) (Or.inr ⟨by kernel_rfl, rfl⟩) hS1 ?_
    (try simp only [Act.put, List.getElem_toArray, List.getElem_cons_zero, List.getElem_cons_succ, List.setIfInBounds_toArray, List.set_cons_zero, List.set_cons_succ])
    refine wpAnyH_take (i := 18) (v := undef) rfl (by kernel_rfl) (by kernel_rfl) (by kernel_rfl) (fun _ _ _ h => h) (Or.inr ⟨by kernel_rfl, rfl⟩) hS1 ?_
    (try simp only [Act.put, List.getElem_toArray, List.getElem_cons_zero, List.getElem_cons_succ, List.setIfInBounds_toArray, List.set_cons_zero, List.set_cons_succ])
    refine wpAnyH_take (i := 19) (v := undef) rfl (by kernel_rfl) (by kernel_rfl) (by kernel_rfl) (fun _ _ _ h => h) (Or.inr ⟨by kernel_rfl, rfl⟩) hS1 ?_
    (try simp only [Act.put, List.getElem_toArray, List.getElem_cons_zero, List.getElem_cons_succ, List.setIfInBounds_toArray, List.set_cons_zero, List.set_cons_succ])
    refine wpAnyH_take (i := 20) (v := undef) rfl (by kernel_rfl) (by kernel_rfl) (by kernel_rfl) (fun _ _ _ h => h) (Or.inr ⟨by kernel_rfl, rfl⟩) hS1 ?_
    (try simp only [Act.put, List.getElem_toArray, List.getElem_cons_zero, List.getElem_cons_succ, List.setIfInBounds_toArray, List.set_cons_zero, List.set_cons_succ])
    refine wpAnyH_take (i := 21) (v := undef) rfl (by kernel_rfl) (by kernel_rfl) (by kernel_rfl) (fun _ _ _ h => h) (Or.inr ⟨by kernel_rfl, rfl⟩) hS1 ?_
    (try simp only [Act.put, List.getElem_toArray, List.getElem_cons_zero, List.getElem_cons_succ, List.setIfInBounds_toArray, List.set_cons_zero, List.set_cons_succ])
    refine wpAnyH_take (i := 22) (v := undef) rfl (by kernel_rfl) (by kernel_rfl) (by kernel_rfl) (fun _ _ _ h => h) (Or.inr ⟨by kernel_rfl, rfl⟩) hS1 ?_
    (try simp only [Act.put, List.getElem_toArray, List.getElem_cons_zero, List.getElem_cons_succ, List.setIfInBounds_toArray, List.set_cons_zero, List.set_cons_succ])
    refine wpAnyH_ready (rs := [14]) (by kernel_rfl) (by simp) ?_
    refine AllReadyH.cons rfl (fun K hK => ?_) AllReadyH.nil
    go_simp
    refine hK.out _ _ hS1 (fun hHeld => ?_)
    clear hK K
    refine wpAnyH_take (i := 15) (v := undef) rfl (by kernel_rfl) (by kernel_rfl) (by kernel_rfl) (fun _ _ _ h => h) (Or.inr ⟨by kernel_rfl, rfl⟩) hS1 ?_
    (try simp only [Act.put, List.getElem_toArray, List.getElem_cons_zero, List.getElem_cons_succ, List.setIfInBounds_toArray, List.set_cons_zero, List.set_cons_succ])
    refine wpAnyH_take (i := 23) (v := undef) rfl (by kernel_rfl) (by kernel_rfl) (by kernel_rfl) (fun _ _ _ h => h) (Or.inr ⟨by kernel_rfl, rfl⟩) hS1 ?_
    (try simp only [Act.put, List.getElem_toArray, List.getElem_cons_zero, List.getElem_cons_succ, List.setIfInBounds_toArray, List.set_cons_zero, List.set_cons_succ])
    refine wpAnyH_take (i := 24) (v := .bool false) rfl (by kernel_rfl) (by kernel_rfl) (by kernel_rfl) (fun _ _ _ h => h) (Or.inl ⟨by kernel_rfl, by (intro W hS; go_simp; first | done | with_reducible rfl | rfl)⟩) hS1 ?_
    (try simp only [Act.put, List.getElem_toArray, List.getElem_cons_zero, List.getElem_cons_succ, List.setIfInBounds_toArray, List.set_cons_zero, List.set_cons_succ])
    refine wpAnyH_take (i := 25) (v := .bool false) rfl (by kernel_rfl) (by kernel_rfl) (by kernel_rfl) (fun _ _ _ h => h) (Or.inl ⟨by kernel_rfl, by (intro W hS; go_simp; first | done | with_reducible rfl | rfl)⟩) hS1 ?_
    (try simp only [Act.put, List.getElem_toArray, List.getElem_cons_zero, List.getElem_cons_succ, List.setIfInBounds_toArray, List.set_cons_zero, List.set_cons_succ])
    refine wpAnyH_done (by kernel_rfl) ?_ _
    go_wp2
    go_ret
    exact ⟨ret_bool (HZ.out), HB.out.trans (hS1.mono HB.out.size)⟩
  have HFORM := hide (fun (W : World) (hb : Below w1.heap.size w1 W) => show Calls Try.prog 55 #[.agg ([.int .i64 x.jobs, .int .i64 x.workers, .int .i64 x.window, .int .i64 x.next, .int .i64 x.reader, .slice A1 x.queue.length c1, .slice A2 x.hands.length c2, .int .i64 x.closer, .slice A3 x.results.length c3, .int .i64 x.keeper, .slice A4 x.ring.length c4, .int .i64 x.due, .slice A5 x.out.length c5, .int .i64 x.user, .slice A6 x.got.length c6, .int .i64 x.room, .slice A7 x.shut.length c7, .int .i64 x.ops] : List Value).toArray] W (fun e w' => e = .returned (.bool true) ∧ Below W.heap.size W w') from by
    have h := l51Form_any x _ _ W (HOW.out.below hb HFW.out) (HFW.out.up hb)
    rw [tb_true hf] at h
    exact h)
  have HFM := hide hf.1
  have HFG := hide hf
  clear hf
  by_cases hp : x.Placed
  rotate_left
  · have HJOBS := hide (fun (W : World) (hb : Below w1.heap.size w1 W) => show Calls Try.prog 56 #[.agg ([.int .i64 x.jobs, .int .i64 x.workers, .int .i64 x.window, .int .i64 x.next, .int .i64 x.reader, .slice A1 x.queue.length c1, .slice A2 x.hands.length c2, .int .i64 x.closer, .slice A3 x.results.length c3, .int .i64 x.keeper, .slice A4 x.ring.length c4, .int .i64 x.due, .slice A5 x.out.length c5, .int .i64 x.user, .slice A6 x.got.length c6, .int .i64 x.room, .slice A7 x.shut.length c7, .int .i64 x.ops] : List Value).toArray] W (fun e w' => e = .returned (.bool false) ∧ Below W.heap.size W w') from by
    have h := l51Jobs_any x _ _ W (HOW.out.below hb HFW.out) (HFW.out.up hb) HFM.out HGL.out
    rw [tb_false hp] at h
    exact h)
    have HZ := hide (HNO.out (fun h => hp (ok_iff.1 h).2.1))
    clear hp
    go_wp2_with fail
    refine wp_region_held_drew (S := fun W => Below w1.heap.size w1 W) (by kernel_rfl) (below_drewN (Below.refl _ _) 1) (fun hS0 => ?_)
    refine wpAnyH_take (i := 0) (v := .agg ([.int .i64 x.jobs, .int .i64 x.workers, .int .i64 x.window, .int .i64 x.next, .int .i64 x.reader, .slice A1 x.queue.length c1, .slice A2 x.hands.length c2, .int .i64 x.closer, .slice A3 x.results.length c3, .int .i64 x.keeper, .slice A4 x.ring.length c4, .int .i64 x.due, .slice A5 x.out.length c5, .int .i64 x.user, .slice A6 x.got.length c6, .int .i64 x.room, .slice A7 x.shut.length c7, .int .i64 x.ops] : List Value).toArray) rfl (by kernel_rfl) (by kernel_rfl) (by kernel_rfl) (fun _ _ _ h => h) (Or.inl ⟨by kernel_rfl, fun W hS => run_loadOp_row (HX.out.below hS HX.out.lt) 30 rfl rfl Try.underlying30 rfl info_crew⟩) hS0 ?_
    (try simp only [Act.put, List.getElem_toArray, List.getElem_cons_zero, List.getElem_cons_succ, List.setIfInBounds_toArray, List.set_cons_zero, List.set_cons_succ])
    refine wpAnyH_ready (rs := [1]) (by kernel_rfl) (by simp) ?_
    refine AllReadyH.cons rfl (fun K hK => ?_) AllReadyH.nil
    go_simp
    go_at_call 55
    refine (HFORM.out _ hS0).mono ?_
    rintro e u1 ⟨rfl, hb1⟩
    have hS1 := hS0.trans (hb1.mono hS0.size)
    try go_simp
    refine hK.out _ _ hS1 (fun hHeld => ?_)
    clear hK K
    refine wpAnyH_take (i := 2) (v := .bool true) rfl (by kernel_rfl) (by kernel_rfl) (by kernel_rfl) (fun _ _ _ h => h) (Or.inl ⟨by kernel_rfl, by (intro W hS; go_simp; first | done | with_reducible rfl | rfl)⟩) hS1 ?_
    (try simp only [Act.put, List.getElem_toArray, List.getElem_cons_zero, List.getElem_cons_succ, List.setIfInBounds_toArray, List.set_cons_zero, List.set_cons_succ])
    refine wpAnyH_take (i := 3) (v := .agg ([.int .i64 x.jobs, .int .i64 x.workers, .int .i64 x.window, .int .i64 x.next, .int .i64 x.reader, .slice A1 x.queue.length c1, .slice A2 x.hands.length c2, .int .i64 x.closer, .slice A3 x.results.length c3, .int .i64 x.keeper, .slice A4 x.ring.length c4, .int .i64 x.due, .slice A5 x.out.length c5, .int .i64 x.user, .slice A6 x.got.length c6, .int .i64 x.room, .slice A7 x.shut.length c7, .int .i64 x.ops] : List Value).toArray) rfl (by kernel_rfl) (by kernel_rfl) (by kernel_rfl) (fun _ _ _ h => h) (Or.inl ⟨by kernel_rfl, fun W hS => run_loadOp_row (HX.out.below hS HX.out.lt) 30 rfl rfl Try.underlying30 rfl info_crew⟩) hS1 ?_
    (try simp only [Act.put, List.getElem_toArray, List.getElem_cons_zero, List.getElem_cons_succ, List.setIfInBounds_toArray, List.set_cons_zero, List.set_cons_succ])
    refine wpAnyH_ready (rs := [4]) (by kernel_rfl) (by simp) ?_
    refine AllReadyH.cons rfl (fun K hK => ?_) AllReadyH.nil
    go_simp
    go_at_call 56
    refine (HJOBS.out _ hS1).mono ?_
    rintro e u2 ⟨rfl, hb2⟩
    have hS2 := hS1.trans (hb2.mono hS1.size)
    try go_simp
    refine hK.out _ _ hS2 (fun hHeld => ?_)
    clear hK K
    refine wpAnyH_take (i := 5) (v := .bool false) rfl (by kernel_rfl) (by kernel_rfl) (by kernel_rfl) (fun _ _ _ h => h) (Or.inl ⟨by kernel_rfl, by (intro W hS; go_simp; first | done | with_reducible rfl | rfl)⟩) hS2 ?_
    (try simp only [Act.put, List.getElem_toArray, List.getElem_cons_zero, List.getElem_cons_succ, List.setIfInBounds_toArray, List.set_cons_zero, List.set_cons_succ])
    refine wpAnyH_take (i := 6) (v := .bool false) rfl (by kernel_rfl) (by kernel_rfl) (by kernel_rfl) (fun _ _ _ h => h) (Or.inl ⟨by kernel_rfl, by (intro W hS; go_simp; first | done | with_reducible rfl | rfl)⟩) hS2 ?_
    (try simp only [Act.put, List.getElem_toArray, List.getElem_cons_zero, List.getElem_cons_succ, List.setIfInBounds_toArray, List.set_cons_zero, List.set_cons_succ])
    refine wpAnyH_take (i := 7) (v := undef) rfl (by kernel_rfl) (by kernel_rfl) (by kernel_rfl) (fun _ _ _ h => h) (Or.inr ⟨by kernel_rfl, rfl⟩) hS2 ?_
    (try simp only [Act.put, List.getElem_toArray, List.getElem_cons_zero, List.getElem_cons_succ, List.setIfInBounds_toArray, List.set_cons_zero, List.set_cons_succ])
    refine wpAnyH_ready (rs := [8]) (by kernel_rfl) (by simp) ?_
    refine AllReadyH.cons rfl (fun K hK => ?_) AllReadyH.nil
    go_simp
    refine hK.out _ _ hS2 (fun hHeld => ?_)
    clear hK K
    refine wpAnyH_take (i := 9) (v := .bool false) rfl (by kernel_rfl) (by kernel_rfl) (by kernel_rfl) (fun _ _ _ h => h) (Or.inl ⟨by kernel_rfl, by (intro W hS; go_simp; first | done | with_reducible rfl | rfl)⟩) hS2 ?_
    (try simp only [Act.put, List.getElem_toArray, List.getElem_cons_zero, List.getElem_cons_succ, List.setIfInBounds_toArray, List.set_cons_zero, List.set_cons_succ])
    refine wpAnyH_take (i := 10) (v := .bool false) rfl (by kernel_rfl) (by kernel_rfl) (by kernel_rfl) (fun _ _ _ h => h) (Or.inl ⟨by kernel_rfl, by (intro W hS; go_simp; first | done | with_reducible rfl | rfl)⟩) hS2 ?_
    (try simp only [Act.put, List.getElem_toArray, List.getElem_cons_zero, List.getElem_cons_succ, List.setIfInBounds_toArray, List.set_cons_zero, List.set_cons_succ])
    refine wpAnyH_take (i := 11) (v := undef) rfl (by kernel_rfl) (by kernel_rfl) (by kernel_rfl) (fun _ _ _ h => h) (Or.inr ⟨by kernel_rfl, rfl⟩) hS2 ?_
    (try simp only [Act.put, List.getElem_toArray, List.getElem_cons_zero, List.getElem_cons_succ, List.setIfInBounds_toArray, List.set_cons_zero, List.set_cons_succ])
    refine wpAnyH_take (i := 12) (v := undef) rfl (by kernel_rfl) (by kernel_rfl) (by kernel_rfl) (fun _ _ _ h => h) (Or.inr ⟨by kernel_rfl, rfl⟩) hS2 ?_
    (try simp only [Act.put, List.getElem_toArray, List.getElem_cons_zero, List.getElem_cons_succ, List.setIfInBounds_toArray, List.set_cons_zero, List.set_cons_succ])
    refine wpAnyH_take (i := 13) (v := undef) rfl (by kernel_rfl) (by kernel_rfl) (by kernel_rfl) (fun _ _ _ h => h) (Or.inr ⟨by kernel_rfl, rfl⟩) hS2 ?_
    (try simp only [Act.put, List.getElem_toArray, List.getElem_cons_zero, List.getElem_cons_succ, List.setIfInBounds_toArray, List.set_cons_zero, List.set_cons_succ])
    refine wpAnyH_take (i := 16) (v := undef) rfl (by kernel_rfl) (by kernel_rfl) (by kernel_rfl) (fun _ _ _ h => h) (Or.inr ⟨by kernel_rfl, rfl⟩) hS2 ?_
    (try simp only [Act.put, List.getElem_toArray, List.getElem_cons_zero, List.getElem_cons_succ, List.setIfInBounds_toArray, List.set_cons_zero, List.set_cons_succ])
    refine wpAnyH_take (i := 17) (v := undef) rfl (by kernel_rfl) (by kernel_rfl) (by kernel_rfl) (fun _ _ _ h => h) (Or.inr ⟨by kernel_rfl, rfl⟩) hS2 ?_
    (try simp only [Act.put, List.getElem_toArray, List.getElem_cons_zero, List.getElem_cons_succ, List.setIfInBounds_toArray, List.set_cons_zero, List.set_cons_succ])
    refine wpAnyH_take (i := 18) (v := undef) rfl (by kernel_rfl) (by kernel_rfl) (by kernel_rfl) (fun _ _ _ h => h) (Or.inr ⟨by kernel_rfl, rfl⟩) hS2 ?_
    (try simp only [Act.put, List.getElem_toArray, List.getElem_cons_zero, List.getElem_cons_succ, List.setIfInBounds_toArray, List.set_cons_zero, List.set_cons_succ])
    refine wpAnyH_take (i := 19) (v := undef) rfl (by kernel_rfl) (by kernel_rfl) (by kernel_rfl) (fun _ _ _ h => h) (Or.inr ⟨by kernel_rfl, rfl⟩) hS2 ?_
    (try simp only [Act.put, List.getElem_toArray, List.getElem_cons_zero, List.getElem_cons_succ, List.setIfInBounds_toArray, List.set_cons_zero, List.set_cons_succ])
    refine wpAnyH_take (i := 20) (v := undef) rfl (by kernel_rfl) (by kernel_rfl) (by kernel_rfl) (fun _ _ _ h => h) (Or.inr ⟨by kernel_rfl, rfl⟩) hS2 ?_
    (try simp only [Act.put, List.getElem_toArray, List.getElem_cons_zero, List.getElem_cons_succ, List.setIfInBounds_toArray, List.set_cons_zero, List.set_cons_succ])
    refine wpAnyH_take (i := 21) (v := undef) rfl (by kernel_rfl) (by kernel_rfl) (by kernel_rfl) (fun _ _ _ h => h) (Or.inr ⟨by kernel_rfl, rfl⟩) hS2 ?_
    (try simp only [Act.put, List.getElem_toArray, List.getElem_cons_zero, List.getElem_cons_succ, List.setIfInBounds_toArray, List.set_cons_zero, List.set_cons_succ])
    refine wpAnyH_take (i := 22) (v := undef) rfl (by kernel_rfl) (by kernel_rfl) (by kernel_rfl) (fun _ _ _ h => h) (Or.inr ⟨by kernel_rfl, rfl⟩) hS2 ?_
    (try simp only [Act.put, List.getElem_toArray, List.getElem_cons_zero, List.getElem_cons_succ, List.setIfInBounds_toArray, List.set_cons_zero, List.set_cons_succ])
    refine wpAnyH_ready (rs := [14]) (by kernel_rfl) (by simp) ?_
    refine AllReadyH.cons rfl (fun K hK => ?_) AllReadyH.nil
    go_simp
    refine hK.out _ _ hS2 (fun hHeld => ?_)
    clear hK K
    refine wpAnyH_take (i := 15) (v := undef) rfl (by kernel_rfl) (by kernel_rfl) (by kernel_rfl) (fun _ _ _ h => h) (Or.inr ⟨by kernel_rfl, rfl⟩) hS2 ?_
    (try simp only [Act.put, List.getElem_toArray, List.getElem_cons_zero, List.getElem_cons_succ, List.setIfInBounds_toArray, List.set_cons_zero, List.set_cons_succ])
    refine wpAnyH_take (i := 23) (v := undef) rfl (by kernel_rfl) (by kernel_rfl) (by kernel_rfl) (fun _ _ _ h => h) (Or.inr ⟨by kernel_rfl, rfl⟩) hS2 ?_
    (try simp only [Act.put, List.getElem_toArray, List.getElem_cons_zero, List.getElem_cons_succ, List.setIfInBounds_toArray, List.set_cons_zero, List.set_cons_succ])
    refine wpAnyH_take (i := 24) (v := .bool false) rfl (by kernel_rfl) (by kernel_rfl) (by kernel_rfl) (fun _ _ _ h => h) (Or.inl ⟨by kernel_rfl, by (intro W hS; go_simp; first | done | with_reducible rfl | rfl)⟩) hS2 ?_
    (try simp only [Act.put, List.getElem_toArray, List.getElem_cons_zero, List.getElem_cons_succ, List.setIfInBounds_toArray, List.set_cons_zero, List.set_cons_succ])
    refine wpAnyH_take (i := 25) (v := .bool false) rfl (by kernel_rfl) (by kernel_rfl) (by kernel_rfl) (fun _ _ _ h => h) (Or.inl ⟨by kernel_rfl, by (intro W hS; go_simp; first | done | with_reducible rfl | rfl)⟩) hS2 ?_
    (try simp only [Act.put, List.getElem_toArray, List.getElem_cons_zero, List.getElem_cons_succ, List.setIfInBounds_toArray, List.set_cons_zero, List.set_cons_succ])
    refine wpAnyH_done (by kernel_rfl) ?_ _
    go_wp2
    go_ret
    exact ⟨ret_bool (HZ.out), HB.out.trans (hS2.mono HB.out.size)⟩
  have HJOBS := hide (fun (W : World) (hb : Below w1.heap.size w1 W) => show Calls Try.prog 56 #[.agg ([.int .i64 x.jobs, .int .i64 x.workers, .int .i64 x.window, .int .i64 x.next, .int .i64 x.reader, .slice A1 x.queue.length c1, .slice A2 x.hands.length c2, .int .i64 x.closer, .slice A3 x.results.length c3, .int .i64 x.keeper, .slice A4 x.ring.length c4, .int .i64 x.due, .slice A5 x.out.length c5, .int .i64 x.user, .slice A6 x.got.length c6, .int .i64 x.room, .slice A7 x.shut.length c7, .int .i64 x.ops] : List Value).toArray] W (fun e w' => e = .returned (.bool true) ∧ Below W.heap.size W w') from by
    have h := l51Jobs_any x _ _ W (HOW.out.below hb HFW.out) (HFW.out.up hb) HFM.out HGL.out
    rw [tb_true hp] at h
    exact h)
  have HPL := hide hp
  clear hp
  by_cases hn : x.Ends ∧ x.Kept
  rotate_left
  · have HENDS := hide (fun (W : World) (hb : Below w1.heap.size w1 W) => show Calls Try.prog 57 #[.agg ([.int .i64 x.jobs, .int .i64 x.workers, .int .i64 x.window, .int .i64 x.next, .int .i64 x.reader, .slice A1 x.queue.length c1, .slice A2 x.hands.length c2, .int .i64 x.closer, .slice A3 x.results.length c3, .int .i64 x.keeper, .slice A4 x.ring.length c4, .int .i64 x.due, .slice A5 x.out.length c5, .int .i64 x.user, .slice A6 x.got.length c6, .int .i64 x.room, .slice A7 x.shut.length c7, .int .i64 x.ops] : List Value).toArray] W (fun e w' => e = .returned (.bool false) ∧ Below W.heap.size W w') from by
    have h := l51Ends_any x _ _ W (HOW.out.below hb HFW.out) (HFW.out.up hb) HFM.out
    rw [tb_false hn] at h
    exact h)
    have HZ := hide (HNO.out (fun h => hn (ok_iff.1 h).2.2.1))
    clear hn
    go_wp2_with fail
    refine wp_region_held_drew (S := fun W => Below w1.heap.size w1 W) (by kernel_rfl) (below_drewN (Below.refl _ _) 1) (fun hS0 => ?_)
    refine wpAnyH_take (i := 0) (v := .agg ([.int .i64 x.jobs, .int .i64 x.workers, .int .i64 x.window, .int .i64 x.next, .int .i64 x.reader, .slice A1 x.queue.length c1, .slice A2 x.hands.length c2, .int .i64 x.closer, .slice A3 x.results.length c3, .int .i64 x.keeper, .slice A4 x.ring.length c4, .int .i64 x.due, .slice A5 x.out.length c5, .int .i64 x.user, .slice A6 x.got.length c6, .int .i64 x.room, .slice A7 x.shut.length c7, .int .i64 x.ops] : List Value).toArray) rfl (by kernel_rfl) (by kernel_rfl) (by kernel_rfl) (fun _ _ _ h => h) (Or.inl ⟨by kernel_rfl, fun W hS => run_loadOp_row (HX.out.below hS HX.out.lt) 30 rfl rfl Try.underlying30 rfl info_crew⟩) hS0 ?_
    (try simp only [Act.put, List.getElem_toArray, List.getElem_cons_zero, List.getElem_cons_succ, List.setIfInBounds_toArray, List.set_cons_zero, List.set_cons_succ])
    refine wpAnyH_ready (rs := [1]) (by kernel_rfl) (by simp) ?_
    refine AllReadyH.cons rfl (fun K hK => ?_) AllReadyH.nil
    go_simp
    go_at_call 55
    refine (HFORM.out _ hS0).mono ?_
    rintro e u1 ⟨rfl, hb1⟩
    have hS1 := hS0.trans (hb1.mono hS0.size)
    try go_simp
    refine hK.out _ _ hS1 (fun hHeld => ?_)
    clear hK K
    refine wpAnyH_take (i := 2) (v := .bool true) rfl (by kernel_rfl) (by kernel_rfl) (by kernel_rfl) (fun _ _ _ h => h) (Or.inl ⟨by kernel_rfl, by (intro W hS; go_simp; first | done | with_reducible rfl | rfl)⟩) hS1 ?_
    (try simp only [Act.put, List.getElem_toArray, List.getElem_cons_zero, List.getElem_cons_succ, List.setIfInBounds_toArray, List.set_cons_zero, List.set_cons_succ])
    refine wpAnyH_take (i := 3) (v := .agg ([.int .i64 x.jobs, .int .i64 x.workers, .int .i64 x.window, .int .i64 x.next, .int .i64 x.reader, .slice A1 x.queue.length c1, .slice A2 x.hands.length c2, .int .i64 x.closer, .slice A3 x.results.length c3, .int .i64 x.keeper, .slice A4 x.ring.length c4, .int .i64 x.due, .slice A5 x.out.length c5, .int .i64 x.user, .slice A6 x.got.length c6, .int .i64 x.room, .slice A7 x.shut.length c7, .int .i64 x.ops] : List Value).toArray) rfl (by kernel_rfl) (by kernel_rfl) (by kernel_rfl) (fun _ _ _ h => h) (Or.inl ⟨by kernel_rfl, fun W hS => run_loadOp_row (HX.out.below hS HX.out.lt) 30 rfl rfl Try.underlying30 rfl info_crew⟩) hS1 ?_
    (try simp only [Act.put, List.getElem_toArray, List.getElem_cons_zero, List.getElem_cons_succ, List.setIfInBounds_toArray, List.set_cons_zero, List.set_cons_succ])
    refine wpAnyH_ready (rs := [4]) (by kernel_rfl) (by simp) ?_
    refine AllReadyH.cons rfl (fun K hK => ?_) AllReadyH.nil
    go_simp
    go_at_call 56
    refine (HJOBS.out _ hS1).mono ?_
    rintro e u2 ⟨rfl, hb2⟩
    have hS2 := hS1.trans (hb2.mono hS1.size)
    try go_simp
    refine hK.out _ _ hS2 (fun hHeld => ?_)
    clear hK K
    refine wpAnyH_take (i := 5) (v := .bool true) rfl (by kernel_rfl) (by kernel_rfl) (by kernel_rfl) (fun _ _ _ h => h) (Or.inl ⟨by kernel_rfl, by (intro W hS; go_simp; first | done | with_reducible rfl | rfl)⟩) hS2 ?_
    (try simp only [Act.put, List.getElem_toArray, List.getElem_cons_zero, List.getElem_cons_succ, List.setIfInBounds_toArray, List.set_cons_zero, List.set_cons_succ])
    refine wpAnyH_take (i := 6) (v := .bool true) rfl (by kernel_rfl) (by kernel_rfl) (by kernel_rfl) (fun _ _ _ h => h) (Or.inl ⟨by kernel_rfl, by (intro W hS; go_simp; first | done | with_reducible rfl | rfl)⟩) hS2 ?_
    (try simp only [Act.put, List.getElem_toArray, List.getElem_cons_zero, List.getElem_cons_succ, List.setIfInBounds_toArray, List.set_cons_zero, List.set_cons_succ])
    refine wpAnyH_take (i := 7) (v := .agg ([.int .i64 x.jobs, .int .i64 x.workers, .int .i64 x.window, .int .i64 x.next, .int .i64 x.reader, .slice A1 x.queue.length c1, .slice A2 x.hands.length c2, .int .i64 x.closer, .slice A3 x.results.length c3, .int .i64 x.keeper, .slice A4 x.ring.length c4, .int .i64 x.due, .slice A5 x.out.length c5, .int .i64 x.user, .slice A6 x.got.length c6, .int .i64 x.room, .slice A7 x.shut.length c7, .int .i64 x.ops] : List Value).toArray) rfl (by kernel_rfl) (by kernel_rfl) (by kernel_rfl) (fun _ _ _ h => h) (Or.inl ⟨by kernel_rfl, fun W hS => run_loadOp_row (HX.out.below hS HX.out.lt) 30 rfl rfl Try.underlying30 rfl info_crew⟩) hS2 ?_
    (try simp only [Act.put, List.getElem_toArray, List.getElem_cons_zero, List.getElem_cons_succ, List.setIfInBounds_toArray, List.set_cons_zero, List.set_cons_succ])
    refine wpAnyH_ready (rs := [8]) (by kernel_rfl) (by simp) ?_
    refine AllReadyH.cons rfl (fun K hK => ?_) AllReadyH.nil
    go_simp
    go_at_call 57
    refine (HENDS.out _ hS2).mono ?_
    rintro e u3 ⟨rfl, hb3⟩
    have hS3 := hS2.trans (hb3.mono hS2.size)
    try go_simp
    refine hK.out _ _ hS3 (fun hHeld => ?_)
    clear hK K
    refine wpAnyH_take (i := 9) (v := .bool false) rfl (by kernel_rfl) (by kernel_rfl) (by kernel_rfl) (fun _ _ _ h => h) (Or.inl ⟨by kernel_rfl, by (intro W hS; go_simp; first | done | with_reducible rfl | rfl)⟩) hS3 ?_
    (try simp only [Act.put, List.getElem_toArray, List.getElem_cons_zero, List.getElem_cons_succ, List.setIfInBounds_toArray, List.set_cons_zero, List.set_cons_succ])
    refine wpAnyH_take (i := 10) (v := .bool false) rfl (by kernel_rfl) (by kernel_rfl) (by kernel_rfl) (fun _ _ _ h => h) (Or.inl ⟨by kernel_rfl, by (intro W hS; go_simp; first | done | with_reducible rfl | rfl)⟩) hS3 ?_
    (try simp only [Act.put, List.getElem_toArray, List.getElem_cons_zero, List.getElem_cons_succ, List.setIfInBounds_toArray, List.set_cons_zero, List.set_cons_succ])
    refine wpAnyH_take (i := 11) (v := undef) rfl (by kernel_rfl) (by kernel_rfl) (by kernel_rfl) (fun _ _ _ h => h) (Or.inr ⟨by kernel_rfl, rfl⟩) hS3 ?_
    (try simp only [Act.put, List.getElem_toArray, List.getElem_cons_zero, List.getElem_cons_succ, List.setIfInBounds_toArray, List.set_cons_zero, List.set_cons_succ])
    refine wpAnyH_take (i := 12) (v := undef) rfl (by kernel_rfl) (by kernel_rfl) (by kernel_rfl) (fun _ _ _ h => h) (Or.inr ⟨by kernel_rfl, rfl⟩) hS3 ?_
    (try simp only [Act.put, List.getElem_toArray, List.getElem_cons_zero, List.getElem_cons_succ, List.setIfInBounds_toArray, List.set_cons_zero, List.set_cons_succ])
    refine wpAnyH_take (i := 13) (v := undef) rfl (by kernel_rfl) (by kernel_rfl) (by kernel_rfl) (fun _ _ _ h => h) (Or.inr ⟨by kernel_rfl, rfl⟩) hS3 ?_
    (try simp only [Act.put, List.getElem_toArray, List.getElem_cons_zero, List.getElem_cons_succ, List.setIfInBounds_toArray, List.set_cons_zero, List.set_cons_succ])
    refine wpAnyH_take (i := 16) (v := undef) rfl (by kernel_rfl) (by kernel_rfl) (by kernel_rfl) (fun _ _ _ h => h) (Or.inr ⟨by kernel_rfl, rfl⟩) hS3 ?_
    (try simp only [Act.put, List.getElem_toArray, List.getElem_cons_zero, List.getElem_cons_succ, List.setIfInBounds_toArray, List.set_cons_zero, List.set_cons_succ])
    refine wpAnyH_take (i := 17) (v := undef) rfl (by kernel_rfl) (by kernel_rfl) (by kernel_rfl) (fun _ _ _ h => h) (Or.inr ⟨by kernel_rfl, rfl⟩) hS3 ?_
    (try simp only [Act.put, List.getElem_toArray, List.getElem_cons_zero, List.getElem_cons_succ, List.setIfInBounds_toArray, List.set_cons_zero, List.set_cons_succ])
    refine wpAnyH_take (i := 18) (v := undef) rfl (by kernel_rfl) (by kernel_rfl) (by kernel_rfl) (fun _ _ _ h => h) (Or.inr ⟨by kernel_rfl, rfl⟩) hS3 ?_
    (try simp only [Act.put, List.getElem_toArray, List.getElem_cons_zero, List.getElem_cons_succ, List.setIfInBounds_toArray, List.set_cons_zero, List.set_cons_succ])
    refine wpAnyH_take (i := 19) (v := undef) rfl (by kernel_rfl) (by kernel_rfl) (by kernel_rfl) (fun _ _ _ h => h) (Or.inr ⟨by kernel_rfl, rfl⟩) hS3 ?_
    (try simp only [Act.put, List.getElem_toArray, List.getElem_cons_zero, List.getElem_cons_succ, List.setIfInBounds_toArray, List.set_cons_zero, List.set_cons_succ])
    refine wpAnyH_take (i := 20) (v := undef) rfl (by kernel_rfl) (by kernel_rfl) (by kernel_rfl) (fun _ _ _ h => h) (Or.inr ⟨by kernel_rfl, rfl⟩) hS3 ?_
    (try simp only [Act.put, List.getElem_toArray, List.getElem_cons_zero, List.getElem_cons_succ, List.setIfInBounds_toArray, List.set_cons_zero, List.set_cons_succ])
    refine wpAnyH_take (i := 21) (v := undef) rfl (by kernel_rfl) (by kernel_rfl) (by kernel_rfl) (fun _ _ _ h => h) (Or.inr ⟨by kernel_rfl, rfl⟩) hS3 ?_
    (try simp only [Act.put, List.getElem_toArray, List.getElem_cons_zero, List.getElem_cons_succ, List.setIfInBounds_toArray, List.set_cons_zero, List.set_cons_succ])
    refine wpAnyH_take (i := 22) (v := undef) rfl (by kernel_rfl) (by kernel_rfl) (by kernel_rfl) (fun _ _ _ h => h) (Or.inr ⟨by kernel_rfl, rfl⟩) hS3 ?_
    (try simp only [Act.put, List.getElem_toArray, List.getElem_cons_zero, List.getElem_cons_succ, List.setIfInBounds_toArray, List.set_cons_zero, List.set_cons_succ])
    refine wpAnyH_ready (rs := [14]) (by kernel_rfl) (by simp) ?_
    refine AllReadyH.cons rfl (fun K hK => ?_) AllReadyH.nil
    go_simp
    refine hK.out _ _ hS3 (fun hHeld => ?_)
    clear hK K
    refine wpAnyH_take (i := 15) (v := undef) rfl (by kernel_rfl) (by kernel_rfl) (by kernel_rfl) (fun _ _ _ h => h) (Or.inr ⟨by kernel_rfl, rfl⟩) hS3 ?_
    (try simp only [Act.put, List.getElem_toArray, List.getElem_cons_zero, List.getElem_cons_succ, List.setIfInBounds_toArray, List.set_cons_zero, List.set_cons_succ])
    refine wpAnyH_take (i := 23) (v := undef) rfl (by kernel_rfl) (by kernel_rfl) (by kernel_rfl) (fun _ _ _ h => h) (Or.inr ⟨by kernel_rfl, rfl⟩) hS3 ?_
    (try simp only [Act.put, List.getElem_toArray, List.getElem_cons_zero, List.getElem_cons_succ, List.setIfInBounds_toArray, List.set_cons_zero, List.set_cons_succ])
    refine wpAnyH_take (i := 24) (v := .bool false) rfl (by kernel_rfl) (by kernel_rfl) (by kernel_rfl) (fun _ _ _ h => h) (Or.inl ⟨by kernel_rfl, by (intro W hS; go_simp; first | done | with_reducible rfl | rfl)⟩) hS3 ?_
    (try simp only [Act.put, List.getElem_toArray, List.getElem_cons_zero, List.getElem_cons_succ, List.setIfInBounds_toArray, List.set_cons_zero, List.set_cons_succ])
    refine wpAnyH_take (i := 25) (v := .bool false) rfl (by kernel_rfl) (by kernel_rfl) (by kernel_rfl) (fun _ _ _ h => h) (Or.inl ⟨by kernel_rfl, by (intro W hS; go_simp; first | done | with_reducible rfl | rfl)⟩) hS3 ?_
    (try simp only [Act.put, List.getElem_toArray, List.getElem_cons_zero, List.getElem_cons_succ, List.setIfInBounds_toArray, List.set_cons_zero, List.set_cons_succ])
    refine wpAnyH_done (by kernel_rfl) ?_ _
    go_wp2
    go_ret
    exact ⟨ret_bool (HZ.out), HB.out.trans (hS3.mono HB.out.size)⟩
  have HENDS := hide (fun (W : World) (hb : Below w1.heap.size w1 W) => show Calls Try.prog 57 #[.agg ([.int .i64 x.jobs, .int .i64 x.workers, .int .i64 x.window, .int .i64 x.next, .int .i64 x.reader, .slice A1 x.queue.length c1, .slice A2 x.hands.length c2, .int .i64 x.closer, .slice A3 x.results.length c3, .int .i64 x.keeper, .slice A4 x.ring.length c4, .int .i64 x.due, .slice A5 x.out.length c5, .int .i64 x.user, .slice A6 x.got.length c6, .int .i64 x.room, .slice A7 x.shut.length c7, .int .i64 x.ops] : List Value).toArray] W (fun e w' => e = .returned (.bool true) ∧ Below W.heap.size W w') from by
    have h := l51Ends_any x _ _ W (HOW.out.below hb HFW.out) (HFW.out.up hb) HFM.out
    rw [tb_true hn] at h
    exact h)
  have HEN := hide hn
  clear hn
  have HLEFT := hide (fun (W : World) (hb : Below w1.heap.size w1 W) => l51Left_any x _ _ W (HOW.out.below hb HFW.out) (HFW.out.up hb) HFM.out)
  have HLE := hide (left_le HFM.out)
  have HZ := hide (show decide (x.ops + x.left ≤ 11 * x.jobs + x.workers + 7) = tb x.ok from by
    by_cases h : x.ops + x.left ≤ 11 * x.jobs + x.workers + 7
    · rw [dec_true h, tb_true (ok_iff.2 ⟨HFG.out, HPL.out, HEN.out, h⟩)]
    · rw [dec_false h, tb_false (fun hp => h (ok_iff.1 hp).2.2.2)])
  obtain ⟨lf, hlf⟩ : ∃ z, z = x.left := ⟨_, rfl⟩
  rw [← hlf] at HLEFT HLE HZ
  have hl1 := HLE.out.1
  have hl2 := HLE.out.2
  have hop := HFM.out.ops
  have hjj := HFM.out.start.1
  have hww := HFM.out.start.2.1
  have v1 : IntKind.i64.wrap (x.ops + lf) = x.ops + lf := wrapI _ (by omega) (by omega)
  have v2 : IntKind.i64.wrap (11 * x.jobs) = 11 * x.jobs := wrapI _ (by omega) (by omega)
  have v3 : IntKind.i64.wrap (11 * x.jobs + x.workers) = 11 * x.jobs + x.workers := wrapI _ (by omega) (by omega)
  have v4 : IntKind.i64.wrap (11 * x.jobs + x.workers + 7) = 11 * x.jobs + x.workers + 7 := wrapI _ (by omega) (by omega)
  clear hlf
  go_wp2_with fail
  refine wp_region_held_drew (S := fun W => Below w1.heap.size w1 W) (by kernel_rfl) (below_drewN (Below.refl _ _) 1) (fun hS0 => ?_)
  refine wpAnyH_take (i := 0) (v := .agg ([.int .i64 x.jobs, .int .i64 x.workers, .int .i64 x.window, .int .i64 x.next, .int .i64 x.reader, .slice A1 x.queue.length c1, .slice A2 x.hands.length c2, .int .i64 x.closer, .slice A3 x.results.length c3, .int .i64 x.keeper, .slice A4 x.ring.length c4, .int .i64 x.due, .slice A5 x.out.length c5, .int .i64 x.user, .slice A6 x.got.length c6, .int .i64 x.room, .slice A7 x.shut.length c7, .int .i64 x.ops] : List Value).toArray) rfl (by kernel_rfl) (by kernel_rfl) (by kernel_rfl) (fun _ _ _ h => h) (Or.inl ⟨by kernel_rfl, fun W hS => run_loadOp_row (HX.out.below hS HX.out.lt) 30 rfl rfl Try.underlying30 rfl info_crew⟩) hS0 ?_
  (try simp only [Act.put, List.getElem_toArray, List.getElem_cons_zero, List.getElem_cons_succ, List.setIfInBounds_toArray, List.set_cons_zero, List.set_cons_succ])
  refine wpAnyH_ready (rs := [1]) (by kernel_rfl) (by simp) ?_
  refine AllReadyH.cons rfl (fun K hK => ?_) AllReadyH.nil
  go_simp
  go_at_call 55
  refine (HFORM.out _ hS0).mono ?_
  rintro e u1 ⟨rfl, hb1⟩
  have hS1 := hS0.trans (hb1.mono hS0.size)
  try go_simp
  refine hK.out _ _ hS1 (fun hHeld => ?_)
  clear hK K
  refine wpAnyH_take (i := 2) (v := .bool true) rfl (by kernel_rfl) (by kernel_rfl) (by kernel_rfl) (fun _ _ _ h => h) (Or.inl ⟨by kernel_rfl, by (intro W hS; go_simp; first | done | with_reducible rfl | rfl)⟩) hS1 ?_
  (try simp only [Act.put, List.getElem_toArray, List.getElem_cons_zero, List.getElem_cons_succ, List.setIfInBounds_toArray, List.set_cons_zero, List.set_cons_succ])
  refine wpAnyH_take (i := 3) (v := .agg ([.int .i64 x.jobs, .int .i64 x.workers, .int .i64 x.window, .int .i64 x.next, .int .i64 x.reader, .slice A1 x.queue.length c1, .slice A2 x.hands.length c2, .int .i64 x.closer, .slice A3 x.results.length c3, .int .i64 x.keeper, .slice A4 x.ring.length c4, .int .i64 x.due, .slice A5 x.out.length c5, .int .i64 x.user, .slice A6 x.got.length c6, .int .i64 x.room, .slice A7 x.shut.length c7, .int .i64 x.ops] : List Value).toArray) rfl (by kernel_rfl) (by kernel_rfl) (by kernel_rfl) (fun _ _ _ h => h) (Or.inl ⟨by kernel_rfl, fun W hS => run_loadOp_row (HX.out.below hS HX.out.lt) 30 rfl rfl Try.underlying30 rfl info_crew⟩) hS1 ?_
  (try simp only [Act.put, List.getElem_toArray, List.getElem_cons_zero, List.getElem_cons_succ, List.setIfInBounds_toArray, List.set_cons_zero, List.set_cons_succ])
  refine wpAnyH_ready (rs := [4]) (by kernel_rfl) (by simp) ?_
  refine AllReadyH.cons rfl (fun K hK => ?_) AllReadyH.nil
  go_simp
  go_at_call 56
  refine (HJOBS.out _ hS1).mono ?_
  rintro e u2 ⟨rfl, hb2⟩
  have hS2 := hS1.trans (hb2.mono hS1.size)
  try go_simp
  refine hK.out _ _ hS2 (fun hHeld => ?_)
  clear hK K
  refine wpAnyH_take (i := 5) (v := .bool true) rfl (by kernel_rfl) (by kernel_rfl) (by kernel_rfl) (fun _ _ _ h => h) (Or.inl ⟨by kernel_rfl, by (intro W hS; go_simp; first | done | with_reducible rfl | rfl)⟩) hS2 ?_
  (try simp only [Act.put, List.getElem_toArray, List.getElem_cons_zero, List.getElem_cons_succ, List.setIfInBounds_toArray, List.set_cons_zero, List.set_cons_succ])
  refine wpAnyH_take (i := 6) (v := .bool true) rfl (by kernel_rfl) (by kernel_rfl) (by kernel_rfl) (fun _ _ _ h => h) (Or.inl ⟨by kernel_rfl, by (intro W hS; go_simp; first | done | with_reducible rfl | rfl)⟩) hS2 ?_
  (try simp only [Act.put, List.getElem_toArray, List.getElem_cons_zero, List.getElem_cons_succ, List.setIfInBounds_toArray, List.set_cons_zero, List.set_cons_succ])
  refine wpAnyH_take (i := 7) (v := .agg ([.int .i64 x.jobs, .int .i64 x.workers, .int .i64 x.window, .int .i64 x.next, .int .i64 x.reader, .slice A1 x.queue.length c1, .slice A2 x.hands.length c2, .int .i64 x.closer, .slice A3 x.results.length c3, .int .i64 x.keeper, .slice A4 x.ring.length c4, .int .i64 x.due, .slice A5 x.out.length c5, .int .i64 x.user, .slice A6 x.got.length c6, .int .i64 x.room, .slice A7 x.shut.length c7, .int .i64 x.ops] : List Value).toArray) rfl (by kernel_rfl) (by kernel_rfl) (by kernel_rfl) (fun _ _ _ h => h) (Or.inl ⟨by kernel_rfl, fun W hS => run_loadOp_row (HX.out.below hS HX.out.lt) 30 rfl rfl Try.underlying30 rfl info_crew⟩) hS2 ?_
  (try simp only [Act.put, List.getElem_toArray, List.getElem_cons_zero, List.getElem_cons_succ, List.setIfInBounds_toArray, List.set_cons_zero, List.set_cons_succ])
  refine wpAnyH_ready (rs := [8]) (by kernel_rfl) (by simp) ?_
  refine AllReadyH.cons rfl (fun K hK => ?_) AllReadyH.nil
  go_simp
  go_at_call 57
  refine (HENDS.out _ hS2).mono ?_
  rintro e u3 ⟨rfl, hb3⟩
  have hS3 := hS2.trans (hb3.mono hS2.size)
  try go_simp
  refine hK.out _ _ hS3 (fun hHeld => ?_)
  clear hK K
  refine wpAnyH_take (i := 9) (v := .bool true) rfl (by kernel_rfl) (by kernel_rfl) (by kernel_rfl) (fun _ _ _ h => h) (Or.inl ⟨by kernel_rfl, by (intro W hS; go_simp; first | done | with_reducible rfl | rfl)⟩) hS3 ?_
  (try simp only [Act.put, List.getElem_toArray, List.getElem_cons_zero, List.getElem_cons_succ, List.setIfInBounds_toArray, List.set_cons_zero, List.set_cons_succ])
  refine wpAnyH_take (i := 10) (v := .bool true) rfl (by kernel_rfl) (by kernel_rfl) (by kernel_rfl) (fun _ _ _ h => h) (Or.inl ⟨by kernel_rfl, by (intro W hS; go_simp; first | done | with_reducible rfl | rfl)⟩) hS3 ?_
  (try simp only [Act.put, List.getElem_toArray, List.getElem_cons_zero, List.getElem_cons_succ, List.setIfInBounds_toArray, List.set_cons_zero, List.set_cons_succ])
  refine wpAnyH_take (i := 11) (v := .pointer (some ⟨w.heap.size, 17, none⟩)) rfl (by kernel_rfl) (by kernel_rfl) (by kernel_rfl) (fun _ _ _ h => h) (Or.inl ⟨by kernel_rfl, by (intro W hS; go_simp; first | done | with_reducible rfl | rfl)⟩) hS3 ?_
  (try simp only [Act.put, List.getElem_toArray, List.getElem_cons_zero, List.getElem_cons_succ, List.setIfInBounds_toArray, List.set_cons_zero, List.set_cons_succ])
  refine wpAnyH_take (i := 12) (v := .int .i64 x.ops) rfl (by kernel_rfl) (by kernel_rfl) (by kernel_rfl) (fun _ _ _ h => h) (Or.inl ⟨by kernel_rfl, by (intro W hS; have y := (HX.out.below hS HX.out.lt).cell 17; have yl := (HX.out.below hS HX.out.lt).lt; go_simp; first | done | with_reducible rfl | rfl)⟩) hS3 ?_
  (try simp only [Act.put, List.getElem_toArray, List.getElem_cons_zero, List.getElem_cons_succ, List.setIfInBounds_toArray, List.set_cons_zero, List.set_cons_succ])
  refine wpAnyH_take (i := 13) (v := .agg ([.int .i64 x.jobs, .int .i64 x.workers, .int .i64 x.window, .int .i64 x.next, .int .i64 x.reader, .slice A1 x.queue.length c1, .slice A2 x.hands.length c2, .int .i64 x.closer, .slice A3 x.results.length c3, .int .i64 x.keeper, .slice A4 x.ring.length c4, .int .i64 x.due, .slice A5 x.out.length c5, .int .i64 x.user, .slice A6 x.got.length c6, .int .i64 x.room, .slice A7 x.shut.length c7, .int .i64 x.ops] : List Value).toArray) rfl (by kernel_rfl) (by kernel_rfl) (by kernel_rfl) (fun _ _ _ h => h) (Or.inl ⟨by kernel_rfl, fun W hS => run_loadOp_row (HX.out.below hS HX.out.lt) 30 rfl rfl Try.underlying30 rfl info_crew⟩) hS3 ?_
  (try simp only [Act.put, List.getElem_toArray, List.getElem_cons_zero, List.getElem_cons_succ, List.setIfInBounds_toArray, List.set_cons_zero, List.set_cons_succ])
  refine wpAnyH_take (i := 16) (v := .pointer (some ⟨w.heap.size, 0, none⟩)) rfl (by kernel_rfl) (by kernel_rfl) (by kernel_rfl) (fun _ _ _ h => h) (Or.inl ⟨by kernel_rfl, by (intro W hS; go_simp; first | done | with_reducible rfl | rfl)⟩) hS3 ?_
  (try simp only [Act.put, List.getElem_toArray, List.getElem_cons_zero, List.getElem_cons_succ, List.setIfInBounds_toArray, List.set_cons_zero, List.set_cons_succ])
  refine wpAnyH_take (i := 17) (v := .int .i64 x.jobs) rfl (by kernel_rfl) (by kernel_rfl) (by kernel_rfl) (fun _ _ _ h => h) (Or.inl ⟨by kernel_rfl, by (intro W hS; have y := (HX.out.below hS HX.out.lt).cell 0; have yl := (HX.out.below hS HX.out.lt).lt; go_simp; first | done | with_reducible rfl | rfl)⟩) hS3 ?_
  (try simp only [Act.put, List.getElem_toArray, List.getElem_cons_zero, List.getElem_cons_succ, List.setIfInBounds_toArray, List.set_cons_zero, List.set_cons_succ])
  refine wpAnyH_take (i := 18) (v := .int .i64 (11 * x.jobs)) rfl (by kernel_rfl) (by kernel_rfl) (by kernel_rfl) (fun _ _ _ h => h) (Or.inl ⟨by kernel_rfl, by (intro W hS; go_simp; first | done | with_reducible rfl | rfl)⟩) hS3 ?_
  (try simp only [Act.put, List.getElem_toArray, List.getElem_cons_zero, List.getElem_cons_succ, List.setIfInBounds_toArray, List.set_cons_zero, List.set_cons_succ])
  refine wpAnyH_take (i := 19) (v := .pointer (some ⟨w.heap.size, 1, none⟩)) rfl (by kernel_rfl) (by kernel_rfl) (by kernel_rfl) (fun _ _ _ h => h) (Or.inl ⟨by kernel_rfl, by (intro W hS; go_simp; first | done | with_reducible rfl | rfl)⟩) hS3 ?_
  (try simp only [Act.put, List.getElem_toArray, List.getElem_cons_zero, List.getElem_cons_succ, List.setIfInBounds_toArray, List.set_cons_zero, List.set_cons_succ])
  refine wpAnyH_take (i := 20) (v := .int .i64 x.workers) rfl (by kernel_rfl) (by kernel_rfl) (by kernel_rfl) (fun _ _ _ h => h) (Or.inl ⟨by kernel_rfl, by (intro W hS; have y := (HX.out.below hS HX.out.lt).cell 1; have yl := (HX.out.below hS HX.out.lt).lt; go_simp; first | done | with_reducible rfl | rfl)⟩) hS3 ?_
  (try simp only [Act.put, List.getElem_toArray, List.getElem_cons_zero, List.getElem_cons_succ, List.setIfInBounds_toArray, List.set_cons_zero, List.set_cons_succ])
  refine wpAnyH_take (i := 21) (v := .int .i64 (11 * x.jobs + x.workers)) rfl (by kernel_rfl) (by kernel_rfl) (by kernel_rfl) (fun _ _ _ h => h) (Or.inl ⟨by kernel_rfl, by (intro W hS; go_simp; first | done | with_reducible rfl | rfl)⟩) hS3 ?_
  (try simp only [Act.put, List.getElem_toArray, List.getElem_cons_zero, List.getElem_cons_succ, List.setIfInBounds_toArray, List.set_cons_zero, List.set_cons_succ])
  refine wpAnyH_take (i := 22) (v := .int .i64 (11 * x.jobs + x.workers + 7)) rfl (by kernel_rfl) (by kernel_rfl) (by kernel_rfl) (fun _ _ _ h => h) (Or.inl ⟨by kernel_rfl, by (intro W hS; go_simp; first | done | with_reducible rfl | rfl)⟩) hS3 ?_
  (try simp only [Act.put, List.getElem_toArray, List.getElem_cons_zero, List.getElem_cons_succ, List.setIfInBounds_toArray, List.set_cons_zero, List.set_cons_succ])
  refine wpAnyH_ready (rs := [14]) (by kernel_rfl) (by simp) ?_
  refine AllReadyH.cons rfl (fun K hK => ?_) AllReadyH.nil
  go_simp
  go_at_call 58
  refine (HLEFT.out _ hS3).mono ?_
  rintro e u4 ⟨rfl, hb4⟩
  have hS4 := hS3.trans (hb4.mono hS3.size)
  try go_simp
  refine hK.out _ _ hS4 (fun hHeld => ?_)
  clear hK K
  refine wpAnyH_take (i := 15) (v := .int .i64 (x.ops + lf)) rfl (by kernel_rfl) (by kernel_rfl) (by kernel_rfl) (fun _ _ _ h => h) (Or.inl ⟨by kernel_rfl, by (intro W hS; go_simp; first | done | with_reducible rfl | rfl)⟩) hS4 ?_
  (try simp only [Act.put, List.getElem_toArray, List.getElem_cons_zero, List.getElem_cons_succ, List.setIfInBounds_toArray, List.set_cons_zero, List.set_cons_succ])
  refine wpAnyH_take (i := 23) (v := .bool (decide (x.ops + lf ≤ 11 * x.jobs + x.workers + 7))) rfl (by kernel_rfl) (by kernel_rfl) (by kernel_rfl) (fun _ _ _ h => h) (Or.inl ⟨by kernel_rfl, by (intro W hS; go_simp; first | done | with_reducible rfl | rfl)⟩) hS4 ?_
  (try simp only [Act.put, List.getElem_toArray, List.getElem_cons_zero, List.getElem_cons_succ, List.setIfInBounds_toArray, List.set_cons_zero, List.set_cons_succ])
  refine wpAnyH_take (i := 24) (v := .bool (decide (x.ops + lf ≤ 11 * x.jobs + x.workers + 7))) rfl (by kernel_rfl) (by kernel_rfl) (by kernel_rfl) (fun _ _ _ h => h) (Or.inl ⟨by kernel_rfl, by (intro W hS; go_simp; first | done | with_reducible rfl | rfl)⟩) hS4 ?_
  (try simp only [Act.put, List.getElem_toArray, List.getElem_cons_zero, List.getElem_cons_succ, List.setIfInBounds_toArray, List.set_cons_zero, List.set_cons_succ])
  refine wpAnyH_take (i := 25) (v := .bool (decide (x.ops + lf ≤ 11 * x.jobs + x.workers + 7))) rfl (by kernel_rfl) (by kernel_rfl) (by kernel_rfl) (fun _ _ _ h => h) (Or.inl ⟨by kernel_rfl, by (intro W hS; go_simp; first | done | with_reducible rfl | rfl)⟩) hS4 ?_
  (try simp only [Act.put, List.getElem_toArray, List.getElem_cons_zero, List.getElem_cons_succ, List.setIfInBounds_toArray, List.set_cons_zero, List.set_cons_succ])
  refine wpAnyH_done (by kernel_rfl) ?_ _
  go_wp2
  go_ret
  exact ⟨ret_bool (HZ.out), HB.out.trans (hS4.mono HB.out.size)⟩
end Go.Proofs.Ytpkjjfnfolbcoaa
