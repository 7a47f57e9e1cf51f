/-
  The cases of each of a crew: the program's readerCases, handCases, keeperCases.
-/
import Derived.Deep.RegionHeld
import Derived.Laws.Tables
import Derived.BigQuiet
import Derived.Deep.Cut
import Derived.Test.YtpkjjfnfolbcoaaQTri
import Derived.Test.YtpkjjfnfolbcoaaQCrewI1
set_option linter.unusedVariables false
set_option linter.unusedSimpArgs false
namespace Go.Proofs.Ytpkjjfnfolbcoaa
open Go.ChangeShapes Go.WideShapes Go.ChangeAt Go.RowKit

def TriOut (l : List Bool) (w : World) (e : Ending) (w' : World) : Prop := e = .returned (.agg (l.map Value.bool).toArray) ∧ Below w.heap.size w w'
theorem info_tri : (Try.prog.info? 179).map (·.size) = some 3 := by kernel_rfl
theorem bools_one (a b c : Bool) : ([Value.bool a, .bool b, .bool c] : List Value).toArray.all (·.oneCell') = true := by simp [Value.oneCell']
set_option maxRecDepth 100000 in
theorem closerNo_any (x : CrewWorld) (us : List Value) (fp : List Nat) (b : Nat) (w : World) (hb : Row w b 30 us) (ho : OwC w x.cells us fp) (hf : Lt fp w.heap.size) (hfm : x.Form) :
    Calls Try.prog 134 #[.pointer (some ⟨b, 0, none⟩)] w fun e w' => e = .returned (.int .i64 (x.workers + 1)) ∧ w' = w := by
  have hww := hfm.start.2.1
  have v1 : IntKind.i64.wrap (x.workers + 1) = x.workers + 1 := wrapI _ (by omega) (by omega)
  have u1 : wrap64 (x.workers + 1) = x.workers + 1 := by unfold wrap64; omega
  clear hfm
  have HO := hide ho
  have HF := hide hf
  obtain ⟨A1, c1, A2, c2, A3, c3, A4, c4, A5, c5, A6, c6, A7, c7, f1, f2, f3, f4, f5, f6, f7, rfl, wjobs, wworkers, wwindow, wnext, wreader, o1, o2, wcloser, o3, wkeeper, o4, wdue, o5, wuser, o6, wroom, o7, wops, rfl⟩ := ho.oCrewWorld
  have HX := hide hb
  clear ho hb o1 o2 o3 o4 o5 o6 o7
  have x1 := HX.out.cell 1
  have xl := HX.out.lt
  go_enter Try.func134, Try.ntmps134
  go_wp2
  go_ret
  first | exact ⟨rfl, rfl⟩ | trivial | simp
set_option maxRecDepth 100000 in
theorem keeperNo_any (x : CrewWorld) (us : List Value) (fp : List Nat) (b : Nat) (w : World) (hb : Row w b 30 us) (ho : OwC w x.cells us fp) (hf : Lt fp w.heap.size) (hfm : x.Form) :
    Calls Try.prog 135 #[.pointer (some ⟨b, 0, none⟩)] w fun e w' => e = .returned (.int .i64 (x.workers + 2)) ∧ w' = w := by
  have hww := hfm.start.2.1
  have v1 : IntKind.i64.wrap (x.workers + 2) = x.workers + 2 := wrapI _ (by omega) (by omega)
  have u1 : wrap64 (x.workers + 2) = x.workers + 2 := by unfold wrap64; omega
  clear hfm
  have HO := hide ho
  have HF := hide hf
  obtain ⟨A1, c1, A2, c2, A3, c3, A4, c4, A5, c5, A6, c6, A7, c7, f1, f2, f3, f4, f5, f6, f7, rfl, wjobs, wworkers, wwindow, wnext, wreader, o1, o2, wcloser, o3, wkeeper, o4, wdue, o5, wuser, o6, wroom, o7, wops, rfl⟩ := ho.oCrewWorld
  have HX := hide hb
  clear ho hb o1 o2 o3 o4 o5 o6 o7
  have x1 := HX.out.cell 1
  have xl := HX.out.lt
  go_enter Try.func135, Try.ntmps135
  go_wp2
  go_ret
  first | exact ⟨rfl, rfl⟩ | trivial | simp
set_option maxRecDepth 100000 in
theorem userNo_any (x : CrewWorld) (us : List Value) (fp : List Nat) (b : Nat) (w : World) (hb : Row w b 30 us) (ho : OwC w x.cells us fp) (hf : Lt fp w.heap.size) (hfm : x.Form) :
    Calls Try.prog 137 #[.pointer (some ⟨b, 0, none⟩)] w fun e w' => e = .returned (.int .i64 (x.workers + 3)) ∧ w' = w := by
  have hww := hfm.start.2.1
  have v1 : IntKind.i64.wrap (x.workers + 3) = x.workers + 3 := wrapI _ (by omega) (by omega)
  have u1 : wrap64 (x.workers + 3) = x.workers + 3 := by unfold wrap64; omega
  clear hfm
  have HO := hide ho
  have HF := hide hf
  obtain ⟨A1, c1, A2, c2, A3, c3, A4, c4, A5, c5, A6, c6, A7, c7, f1, f2, f3, f4, f5, f6, f7, rfl, wjobs, wworkers, wwindow, wnext, wreader, o1, o2, wcloser, o3, wkeeper, o4, wdue, o5, wuser, o6, wroom, o7, wops, rfl⟩ := ho.oCrewWorld
  have HX := hide hb
  clear ho hb o1 o2 o3 o4 o5 o6 o7
  have x1 := HX.out.cell 1
  have xl := HX.out.lt
  go_enter Try.func137, Try.ntmps137
  go_wp2
  go_ret
  first | exact ⟨rfl, rfl⟩ | trivial | simp
set_option maxRecDepth 100000 in
set_option maxHeartbeats 8000000 in
theorem readerCases_any (x : CrewWorld) (us : List Value) (fp : List Nat) (b : Nat) (w : World) (hb : Row w b 30 us) (ho : OwC w x.cells us fp) (hf : Lt fp w.heap.size) (hfm : x.Form) : Calls Try.prog 162 #[.pointer (some ⟨b, 0, none⟩)] w (TriOut x.rc w) := by
  have HFM := hide hfm
  clear hfm
  have HO := hide ho
  have HF := hide hf
  obtain ⟨A1, c1, A2, c2, A3, c3, A4, c4, A5, c5, A6, c6, A7, c7, f1, f2, f3, f4, f5, f6, f7, rfl, wjobs, wworkers, wwindow, wnext, wreader, o1, o2, wcloser, o3, wkeeper, o4, wdue, o5, wuser, o6, wroom, o7, wops, rfl⟩ := ho.oCrewWorld
  have O1 := hide o1
  have l1 := hf.left
  obtain ⟨-, n1, m1⟩ := o1.nlen
  unfold maxLen at m1
  have HX := hide hb
  clear ho hb o1 o2 o3 o4 o5 o6 o7
  have x0 := HX.out.cell 0
  have xl := HX.out.lt
  go_enter Try.func162, Try.ntmps162
  clear x0
  go_upto_region 1 with fail
  generalize hw1 : w.alloc _ = w1
  have hb0 : Below w.heap.size w w1 := by rw [← hw1]; exact (Below.refl _ _).alloc (Nat.le_refl _) _
  have HZ := hide (show Row w1 w.heap.size 179 [.bool false, .bool false, .bool false] from by rw [← hw1]; exact Row.new w _ _)
  have HB := hide hb0
  have HX1 := hide (HX.out.below hb0 HX.out.lt)
  have HST := hide (isStopped_any x _ _ b w1 HX1.out (HO.out.below hb0 HF.out) (HF.out.up hb0) HFM.out)
  have x0 := HX1.out.cell 0
  have x1 := HX1.out.cell 1
  have x3 := HX1.out.cell 3
  have x4 := HX1.out.cell 4
  have x5 := HX1.out.cell 5
  have x15 := HX1.out.cell 15
  have xl1 := HX1.out.lt
  clear hb0 hw1
  by_cases h : x.reader = 0
  · have r0 : (x.reader == 0) = true := beqt' h
    have r1 : (x.reader == 1) = false := beqf' (by omega)
    have r2 : (x.reader == 2) = false := beqf' (by omega)
    by_cases hn : x.next = x.jobs
    · have HV := hide (show x.rc = [false, false, true] from by unfold CrewWorld.rc; rw [if_pos h, if_pos hn])
      have rn : (x.next != x.jobs) = false := bnef' hn
      clear h hn
      go_upto_region 3 with fail
      go_cut [3] from 10 to 19 (fun t wx => t = .bool false ∧ Below w1.heap.size w1 wx)
      case first =>
        go_wp2_with fail
        go_quiet (fail)
        go_wp2_with fail
        go_meet
        exact ⟨rfl, below_drewN (Below.refl _ _) _⟩
      obtain ⟨rfl, hbc⟩ := hcut
      obtain ⟨w2, rfl⟩ : ∃ W, W = wc := ⟨_, rfl⟩
      have HZ := hide (HZ.out.below hbc HZ.out.lt)
      have HB := hide (HB.out.trans (hbc.mono HB.out.size))
      have HX2 := hide (HX1.out.below hbc HX1.out.lt)
      have HST := hide (isStopped_any x _ _ b w2 HX2.out (HO.out.below HB.out HF.out) (HF.out.up HB.out) HFM.out)
      clear hbc HX1 x0 x1 x3 x4 x5 x15 xl1
      have x15 := HX2.out.cell 15
      have xl1 := HX2.out.lt
      by_cases hr : x.room = 0
      case' pos => have rr : (x.room != 0) = false := bnef' hr
      case' neg => have rr : (x.room != 0) = true := bnet' hr
      case' pos => clear hr
      case' neg => clear hr
      all_goals rcases hs3 : (x.sh 3 == 1) with _ | _
      all_goals rw [hs3] at HST
      all_goals
        go_wp2_with (first | (refine wpList_store_row rfl 179 _ _ rfl (w.heap.size) ([.bool false, .bool false, .bool true] : List Value).toArray rfl rfl 179 ([.bool false, .bool false, .bool false] : List Value).toArray HZ.out info_tri rfl (bools_one _ _ _) ?_) | (go_at_call 156; refine HST.out.mono ?_; rintro e wq ⟨rfl, rfl⟩) | fail)
        refine bodyPost_ret (ret_row rfl _ _ (w.heap.size) 179 [.bool false, .bool false, .bool true] (Row.setRow' (cs := [.bool false, .bool false, .bool false]) HZ.out [.bool false, .bool false, .bool true]) _ rfl Try.underlying179 rfl info_tri) rfl ?_
        exact ⟨by rw [HV.out]; rfl, below_setRow7 HB.out (Nat.le_refl _) _⟩
    · have HV := hide (show x.rc = [decide (x.room ≠ 0), x.sh 3 == 1, false] from by unfold CrewWorld.rc; rw [if_pos h, if_neg hn])
      have rn : (x.next != x.jobs) = true := bnet' hn
      clear h hn
      go_upto_region 3 with fail
      go_cut [3] from 10 to 19 (fun t wx => t = .bool true ∧ Below w1.heap.size w1 wx)
      case first =>
        go_wp2_with fail
        go_quiet (fail)
        go_wp2_with fail
        go_meet
        exact ⟨rfl, below_drewN (Below.refl _ _) _⟩
      obtain ⟨rfl, hbc⟩ := hcut
      obtain ⟨w2, rfl⟩ : ∃ W, W = wc := ⟨_, rfl⟩
      have HZ := hide (HZ.out.below hbc HZ.out.lt)
      have HB := hide (HB.out.trans (hbc.mono HB.out.size))
      have HX2 := hide (HX1.out.below hbc HX1.out.lt)
      have HST := hide (isStopped_any x _ _ b w2 HX2.out (HO.out.below HB.out HF.out) (HF.out.up HB.out) HFM.out)
      clear hbc HX1 x0 x1 x3 x4 x5 x15 xl1
      have x15 := HX2.out.cell 15
      have xl1 := HX2.out.lt
      rcases hs3 : (x.sh 3 == 1) with _ | _
      · rw [hs3] at HST HV
        clear hs3
        by_cases hr : x.room = 0
        · have rr : (x.room != 0) = false := bnef' hr
          have HV := hide (show x.rc = [false, false, false] from by rw [HV.out]; simp [hr])
          clear hr
          go_wp2_with (first | (refine wpList_store_row rfl 179 _ _ rfl (w.heap.size) ([.bool false, .bool false, .bool false] : List Value).toArray rfl rfl 179 ([.bool false, .bool false, .bool false] : List Value).toArray HZ.out info_tri rfl (bools_one _ _ _) ?_) | (go_at_call 156; refine HST.out.mono ?_; rintro e wq ⟨rfl, rfl⟩) | fail)
          refine bodyPost_ret (ret_row rfl _ _ (w.heap.size) 179 [.bool false, .bool false, .bool false] (Row.setRow' (cs := [.bool false, .bool false, .bool false]) HZ.out [.bool false, .bool false, .bool false]) _ rfl Try.underlying179 rfl info_tri) rfl ?_
          exact ⟨by rw [HV.out]; rfl, below_setRow7 HB.out (Nat.le_refl _) _⟩
        · have rr : (x.room != 0) = true := bnet' hr
          have HV := hide (show x.rc = [true, false, false] from by rw [HV.out]; simp [hr])
          clear hr
          go_wp2_with (first | (refine wpList_store_row rfl 179 _ _ rfl (w.heap.size) ([.bool true, .bool false, .bool false] : List Value).toArray rfl rfl 179 ([.bool false, .bool false, .bool false] : List Value).toArray HZ.out info_tri rfl (bools_one _ _ _) ?_) | (go_at_call 156; refine HST.out.mono ?_; rintro e wq ⟨rfl, rfl⟩) | fail)
          refine bodyPost_ret (ret_row rfl _ _ (w.heap.size) 179 [.bool true, .bool false, .bool false] (Row.setRow' (cs := [.bool false, .bool false, .bool false]) HZ.out [.bool true, .bool false, .bool false]) _ rfl Try.underlying179 rfl info_tri) rfl ?_
          exact ⟨by rw [HV.out]; rfl, below_setRow7 HB.out (Nat.le_refl _) _⟩
      · rw [hs3] at HST HV
        clear hs3
        by_cases hr : x.room = 0
        · have rr : (x.room != 0) = false := bnef' hr
          have HV := hide (show x.rc = [false, true, false] from by rw [HV.out]; simp [hr])
          clear hr
          go_wp2_with (first | (refine wpList_store_row rfl 179 _ _ rfl (w.heap.size) ([.bool false, .bool true, .bool false] : List Value).toArray rfl rfl 179 ([.bool false, .bool false, .bool false] : List Value).toArray HZ.out info_tri rfl (bools_one _ _ _) ?_) | (go_at_call 156; refine HST.out.mono ?_; rintro e wq ⟨rfl, rfl⟩) | fail)
          refine bodyPost_ret (ret_row rfl _ _ (w.heap.size) 179 [.bool false, .bool true, .bool false] (Row.setRow' (cs := [.bool false, .bool false, .bool false]) HZ.out [.bool false, .bool true, .bool false]) _ rfl Try.underlying179 rfl info_tri) rfl ?_
          exact ⟨by rw [HV.out]; rfl, below_setRow7 HB.out (Nat.le_refl _) _⟩
        · have rr : (x.room != 0) = true := bnet' hr
          have HV := hide (show x.rc = [true, true, false] from by rw [HV.out]; simp [hr])
          clear hr
          go_wp2_with (first | (refine wpList_store_row rfl 179 _ _ rfl (w.heap.size) ([.bool true, .bool true, .bool false] : List Value).toArray rfl rfl 179 ([.bool false, .bool false, .bool false] : List Value).toArray HZ.out info_tri rfl (bools_one _ _ _) ?_) | (go_at_call 156; refine HST.out.mono ?_; rintro e wq ⟨rfl, rfl⟩) | fail)
          refine bodyPost_ret (ret_row rfl _ _ (w.heap.size) 179 [.bool true, .bool true, .bool false] (Row.setRow' (cs := [.bool false, .bool false, .bool false]) HZ.out [.bool true, .bool true, .bool false]) _ rfl Try.underlying179 rfl info_tri) rfl ?_
          exact ⟨by rw [HV.out]; rfl, below_setRow7 HB.out (Nat.le_refl _) _⟩
  have r0 := beqf' h
  by_cases h1 : x.reader = 1
  · have r1 := beqt' h1
    have HZD := hide (show Row w1.drew (w.heap.size) 179 [.bool false, .bool false, .bool false] from HZ.out)
    have HSD := hide (isStopped_any x _ _ b w1.drew (HX.out.below (below_drewN HB.out 1) HX.out.lt) (HO.out.below (below_drewN HB.out 1) HF.out) (HF.out.up (below_drewN HB.out 1)) HFM.out)
    have HV := hide (show x.rc = [decide ((x.queue.length : Int) < x.workers), x.sh 3 == 1, false] from by unfold CrewWorld.rc; rw [if_neg h, if_pos h1])
    clear h h1
    go_wp2_with fail
    refine wp_region_held_drew (S := fun W => Below w.heap.size w W) (by kernel_rfl) (below_drewN HB.out 1) (fun hS0 => ?_)
    refine wpAnyH_take (i := 0) (v := .pointer (some ⟨b, 0, none⟩)) rfl (by kernel_rfl) (by kernel_rfl) (by kernel_rfl) (fun _ _ _ h => h) (Or.inl ⟨by kernel_rfl, by (intro W hS; go_simp; first | done | with_reducible rfl | rfl)⟩) hS0 ?_
    (try simp only [Act.put, List.getElem_toArray, List.getElem_cons_zero, List.getElem_cons_succ, List.setIfInBounds_toArray, List.set_cons_zero, List.set_cons_succ])
    refine wpAnyH_take (i := 1) (v := .pointer (some ⟨b, 0, none⟩)) rfl (by kernel_rfl) (by kernel_rfl) (by kernel_rfl) (fun _ _ _ h => h) (Or.inl ⟨by kernel_rfl, by (intro W hS; go_simp; first | done | with_reducible rfl | rfl)⟩) hS0 ?_
    (try simp only [Act.put, List.getElem_toArray, List.getElem_cons_zero, List.getElem_cons_succ, List.setIfInBounds_toArray, List.set_cons_zero, List.set_cons_succ])
    refine wpAnyH_take (i := 2) (v := .pointer (some ⟨b, 5, none⟩)) rfl (by kernel_rfl) (by kernel_rfl) (by kernel_rfl) (fun _ _ _ h => h) (Or.inl ⟨by kernel_rfl, by (intro W hS; go_simp; first | done | with_reducible rfl | rfl)⟩) hS0 ?_
    (try simp only [Act.put, List.getElem_toArray, List.getElem_cons_zero, List.getElem_cons_succ, List.setIfInBounds_toArray, List.set_cons_zero, List.set_cons_succ])
    refine wpAnyH_take (i := 3) (v := .slice A1 x.queue.length c1) rfl (by kernel_rfl) (by kernel_rfl) (by kernel_rfl) (fun _ _ _ h => h) (Or.inl ⟨by kernel_rfl, by (intro W hS; have y := (HX.out.below hS HX.out.lt).cell 5; have yl := (HX.out.below hS HX.out.lt).lt; go_simp; first | done | with_reducible rfl | rfl)⟩) hS0 ?_
    (try simp only [Act.put, List.getElem_toArray, List.getElem_cons_zero, List.getElem_cons_succ, List.setIfInBounds_toArray, List.set_cons_zero, List.set_cons_succ])
    refine wpAnyH_take (i := 4) (v := .int .i64 (x.queue.length : Int)) rfl (by kernel_rfl) (by kernel_rfl) (by kernel_rfl) (fun _ _ _ h => h) (Or.inl ⟨by kernel_rfl, by (intro W hS; go_simp; first | done | with_reducible rfl | rfl)⟩) hS0 ?_
    (try simp only [Act.put, List.getElem_toArray, List.getElem_cons_zero, List.getElem_cons_succ, List.setIfInBounds_toArray, List.set_cons_zero, List.set_cons_succ])
    refine wpAnyH_take (i := 5) (v := .pointer (some ⟨b, 0, none⟩)) rfl (by kernel_rfl) (by kernel_rfl) (by kernel_rfl) (fun _ _ _ h => h) (Or.inl ⟨by kernel_rfl, by (intro W hS; go_simp; first | done | with_reducible rfl | rfl)⟩) hS0 ?_
    (try simp only [Act.put, List.getElem_toArray, List.getElem_cons_zero, List.getElem_cons_succ, List.setIfInBounds_toArray, List.set_cons_zero, List.set_cons_succ])
    refine wpAnyH_take (i := 6) (v := .pointer (some ⟨b, 0, none⟩)) rfl (by kernel_rfl) (by kernel_rfl) (by kernel_rfl) (fun _ _ _ h => h) (Or.inl ⟨by kernel_rfl, by (intro W hS; go_simp; first | done | with_reducible rfl | rfl)⟩) hS0 ?_
    (try simp only [Act.put, List.getElem_toArray, List.getElem_cons_zero, List.getElem_cons_succ, List.setIfInBounds_toArray, List.set_cons_zero, List.set_cons_succ])
    refine wpAnyH_take (i := 7) (v := .pointer (some ⟨b, 1, none⟩)) rfl (by kernel_rfl) (by kernel_rfl) (by kernel_rfl) (fun _ _ _ h => h) (Or.inl ⟨by kernel_rfl, by (intro W hS; go_simp; first | done | with_reducible rfl | rfl)⟩) hS0 ?_
    (try simp only [Act.put, List.getElem_toArray, List.getElem_cons_zero, List.getElem_cons_succ, List.setIfInBounds_toArray, List.set_cons_zero, List.set_cons_succ])
    refine wpAnyH_take (i := 8) (v := .int .i64 x.workers) rfl (by kernel_rfl) (by kernel_rfl) (by kernel_rfl) (fun _ _ _ h => h) (Or.inl ⟨by kernel_rfl, by (intro W hS; have y := (HX.out.below hS HX.out.lt).cell 1; have yl := (HX.out.below hS HX.out.lt).lt; go_simp; first | done | with_reducible rfl | rfl)⟩) hS0 ?_
    (try simp only [Act.put, List.getElem_toArray, List.getElem_cons_zero, List.getElem_cons_succ, List.setIfInBounds_toArray, List.set_cons_zero, List.set_cons_succ])
    refine wpAnyH_take (i := 9) (v := .bool (decide ((x.queue.length : Int) < x.workers))) rfl (by kernel_rfl) (by kernel_rfl) (by kernel_rfl) (fun _ _ _ h => h) (Or.inl ⟨by kernel_rfl, by (intro W hS; go_simp; first | done | with_reducible rfl | rfl)⟩) hS0 ?_
    (try simp only [Act.put, List.getElem_toArray, List.getElem_cons_zero, List.getElem_cons_succ, List.setIfInBounds_toArray, List.set_cons_zero, List.set_cons_succ])
    refine wpAnyH_take (i := 10) (v := .pointer (some ⟨b, 0, none⟩)) rfl (by kernel_rfl) (by kernel_rfl) (by kernel_rfl) (fun _ _ _ h => h) (Or.inl ⟨by kernel_rfl, by (intro W hS; go_simp; first | done | with_reducible rfl | rfl)⟩) hS0 ?_
    (try simp only [Act.put, List.getElem_toArray, List.getElem_cons_zero, List.getElem_cons_succ, List.setIfInBounds_toArray, List.set_cons_zero, List.set_cons_succ])
    refine wpAnyH_ready (rs := [11]) (by kernel_rfl) (by simp) ?_
    refine AllReadyH.cons rfl (fun K hK => ?_) AllReadyH.nil
    go_simp
    go_at_call 156
    refine (HSD.out).mono ?_
    rintro e u1 ⟨rfl, rfl⟩
    have hS1 := hS0.trans ((Below.refl _ _).mono hS0.size)
    try go_simp
    refine hK.out _ _ hS1 (fun hHeld => ?_)
    clear hK K
    refine wpAnyH_take (i := 12) (v := .agg ([.bool (decide ((x.queue.length : Int) < x.workers)), .bool (x.sh 3 == 1), .bool false] : List Value).toArray) rfl (by kernel_rfl) (by kernel_rfl) (by kernel_rfl) (fun _ _ _ h => h) (Or.inl ⟨by kernel_rfl, by (intro W hS; go_simp; first | done | with_reducible rfl | rfl)⟩) hS1 ?_
    (try simp only [Act.put, List.getElem_toArray, List.getElem_cons_zero, List.getElem_cons_succ, List.setIfInBounds_toArray, List.set_cons_zero, List.set_cons_succ])
    refine wpAnyH_ready (rs := [13]) (by kernel_rfl) (by simp) ?_
    refine AllReadyH.cons rfl (fun K hK => ?_) AllReadyH.nil
    rw [if_pos (by simp [Region.wanted])]
    refine wp_store_row 179 _ _ rfl (w.heap.size) ([.bool (decide ((x.queue.length : Int) < x.workers)), .bool (x.sh 3 == 1), .bool false] : List Value).toArray rfl rfl 179 ([.bool false, .bool false, .bool false] : List Value).toArray HZD.out info_tri rfl (bools_one _ _ _) ?_
    refine hK.out _ _ (below_setRow7 hS1 (Nat.le_refl _) _) (fun hSZ => ?_)
    clear hK K
    refine wpAnyH_done (by kernel_rfl) ?_ _
    go_wp2
    refine bodyPost_ret (ret_row rfl _ _ (w.heap.size) 179 [.bool (decide ((x.queue.length : Int) < x.workers)), .bool (x.sh 3 == 1), .bool false] (Row.setRow' (cs := [.bool false, .bool false, .bool false]) HZD.out [.bool (decide ((x.queue.length : Int) < x.workers)), .bool (x.sh 3 == 1), .bool false]) _ rfl Try.underlying179 rfl info_tri) rfl ?_
    exact ⟨by rw [HV.out]; rfl, hSZ⟩
  have r1 := beqf' h1
  by_cases h2 : x.reader = 2
  · have r2 := beqt' h2
    have HV := hide (show x.rc = [true, false, false] from by unfold CrewWorld.rc; rw [if_neg h, if_neg h1, if_pos h2])
    clear h h1 h2
    go_wp2_with (first | (refine wpList_store_row rfl 179 _ _ rfl (w.heap.size) ([.bool true, .bool false, .bool false] : List Value).toArray rfl rfl 179 ([.bool false, .bool false, .bool false] : List Value).toArray HZ.out info_tri rfl (bools_one _ _ _) ?_) | (go_at_call 156; refine HST.out.mono ?_; rintro e wq ⟨rfl, rfl⟩) | fail)
    refine bodyPost_ret (ret_row rfl _ _ (w.heap.size) 179 [.bool true, .bool false, .bool false] (Row.setRow' (cs := [.bool false, .bool false, .bool false]) HZ.out [.bool true, .bool false, .bool false]) _ rfl Try.underlying179 rfl info_tri) rfl ?_
    exact ⟨by rw [HV.out]; rfl, below_setRow7 HB.out (Nat.le_refl _) _⟩
  have r2 := beqf' h2
  have HV := hide (show x.rc = [false, false, false] from by unfold CrewWorld.rc; rw [if_neg h, if_neg h1, if_neg h2])
  clear h h1 h2
  go_wp2_with (first | (refine wpList_store_row rfl 179 _ _ rfl (w.heap.size) ([.bool false, .bool false, .bool false] : List Value).toArray rfl rfl 179 ([.bool false, .bool false, .bool false] : List Value).toArray HZ.out info_tri rfl (bools_one _ _ _) ?_) | (go_at_call 156; refine HST.out.mono ?_; rintro e wq ⟨rfl, rfl⟩) | fail)
  refine bodyPost_ret (ret_row rfl _ _ (w.heap.size) 179 [.bool false, .bool false, .bool false] (Row.setRow' (cs := [.bool false, .bool false, .bool false]) HZ.out [.bool false, .bool false, .bool false]) _ rfl Try.underlying179 rfl info_tri) rfl ?_
  exact ⟨by rw [HV.out]; rfl, below_setRow7 HB.out (Nat.le_refl _) _⟩
end Go.Proofs.Ytpkjjfnfolbcoaa
