/-
  The program's CrewOk, CrewLeft, CrewEnded.
-/
import Derived.Test.YtpkjjfnfolbcoaaCrewI7
import Derived.Test.YtpkjjfnfolbcoaaCrewW8
set_option linter.unusedVariables false
set_option linter.unusedSimpArgs false
namespace Go.Proofs.Ytpkjjfnfolbcoaa
open Go.ChangeShapes Go.WideShapes Go.ChangeAt Go.RowKit

set_option maxRecDepth 100000 in
set_option maxHeartbeats 4000000 in
theorem implCrewOk_any (x : CrewWorld) (us : List Value) (fp : List Nat) (w : World) (ho : OwC w x.cells us fp) (hf : Lt fp w.heap.size) (hgl : x.got.length ≤ 1048576) :
    Calls Try.prog 15 #[.agg us.toArray] w fun e w' => e = .returned (.bool (tb x.ok)) ∧ Below w.heap.size w w' := by
  have HO := hide ho
  have HF := hide hf
  obtain ⟨A1, c1, A2, c2, A3, c3, A4, c4, A5, c5, A6, c6, A7, c7, f1, f2, f3, f4, f5, f6, f7, rfl, wjobs, wworkers, wwindow, wnext, wreader, o1, o2, wcloser, o3, wkeeper, o4, wdue, o5, wuser, o6, wroom, o7, wops, rfl⟩ := ho.oCrewWorld
  clear ho
  go_enter Try.func15, Try.ntmps15
  go_upto_region 1 with fail
  generalize hw1 : w.alloc _ = w1
  have hb0 : Below w.heap.size w w1 := by rw [← hw1]; exact (Below.refl _ _).alloc (Nat.le_refl _) _
  have HX := hide (show Row w1 w.heap.size 30 [.int .i64 x.jobs, .int .i64 x.workers, .int .i64 x.window, .int .i64 x.next, .int .i64 x.reader, .slice A1 x.queue.length c1, .slice A2 x.hands.length c2, .int .i64 x.closer, .slice A3 x.results.length c3, .int .i64 x.keeper, .slice A4 x.ring.length c4, .int .i64 x.due, .slice A5 x.out.length c5, .int .i64 x.user, .slice A6 x.got.length c6, .int .i64 x.room, .slice A7 x.shut.length c7, .int .i64 x.ops] from by rw [← hw1]; exact Row.new w _ _)
  have HB := hide hb0
  have HOW := hide (HO.out.below hb0 hf)
  have HFW := hide (hf.up hb0)
  clear hw1 hb0 HO o1 o2 o3 o4 o5 o6 o7
  have x0 := HX.out.cell 0
  have xl := HX.out.lt
  clear x0
  have HC := hide (isOk_any x _ _ w.heap.size w1 HX.out HOW.out HFW.out hgl)
  go_wp2_with fail
  refine HC.out.mono ?_
  rintro e w2 ⟨rfl, hb2⟩
  go_wp2
  go_ret
  exact ⟨rfl, HB.out.trans (hb2.mono HB.out.size)⟩
set_option maxRecDepth 100000 in
set_option maxHeartbeats 4000000 in
theorem implCrewLeft_any (x : CrewWorld) (us : List Value) (fp : List Nat) (w : World) (ho : OwC w x.cells us fp) (hf : Lt fp w.heap.size) (hgl : x.got.length ≤ 1048576) :
    Calls Try.prog 20 #[.agg us.toArray] w fun e w' => e = .returned (.int .i64 x.leftOf) ∧ Below w.heap.size w w' := by
  have HO := hide ho
  have HF := hide hf
  obtain ⟨A1, c1, A2, c2, A3, c3, A4, c4, A5, c5, A6, c6, A7, c7, f1, f2, f3, f4, f5, f6, f7, rfl, wjobs, wworkers, wwindow, wnext, wreader, o1, o2, wcloser, o3, wkeeper, o4, wdue, o5, wuser, o6, wroom, o7, wops, rfl⟩ := ho.oCrewWorld
  clear ho
  go_enter Try.func20, Try.ntmps20
  go_upto_region 1 with fail
  generalize hw1 : w.alloc _ = w1
  have hb0 : Below w.heap.size w w1 := by rw [← hw1]; exact (Below.refl _ _).alloc (Nat.le_refl _) _
  have HX := hide (show Row w1 w.heap.size 30 [.int .i64 x.jobs, .int .i64 x.workers, .int .i64 x.window, .int .i64 x.next, .int .i64 x.reader, .slice A1 x.queue.length c1, .slice A2 x.hands.length c2, .int .i64 x.closer, .slice A3 x.results.length c3, .int .i64 x.keeper, .slice A4 x.ring.length c4, .int .i64 x.due, .slice A5 x.out.length c5, .int .i64 x.user, .slice A6 x.got.length c6, .int .i64 x.room, .slice A7 x.shut.length c7, .int .i64 x.ops] from by rw [← hw1]; exact Row.new w _ _)
  have HB := hide hb0
  have HOW := hide (HO.out.below hb0 hf)
  have HFW := hide (hf.up hb0)
  clear hw1 hb0 HO o1 o2 o3 o4 o5 o6 o7
  have x0 := HX.out.cell 0
  have xl := HX.out.lt
  clear x0
  have HC := hide (isOk_any x _ _ w.heap.size w1 HX.out HOW.out HFW.out hgl)
  go_wp2_with fail
  refine HC.out.mono ?_
  rintro e w2 ⟨rfl, hb2⟩
  have HX2 := hide (HX.out.below hb2 HX.out.lt)
  have HB2 := hide (HB.out.trans (hb2.mono HB.out.size))
  have HOW2 := hide (HOW.out.below hb2 HFW.out)
  have HFW2 := hide (HFW.out.up hb2)
  clear hb2 HX HB HOW HFW HC xl
  by_cases hok : x.ok
  · rw [tb_true hok]
    have HZ := hide (show x.left = x.leftOf from by unfold CrewWorld.leftOf; rw [if_pos (tb_true hok)])
    have HL := hide (implLeft_any x _ _ w.heap.size w2 HX2.out HOW2.out HFW2.out hok.form)
    clear hok
    go_wp2_with fail
    refine HL.out.mono ?_
    rintro e w3 ⟨rfl, hb3⟩
    go_wp2
    go_ret
    exact ⟨ret_int HZ.out, HB2.out.trans (hb3.mono HB2.out.size)⟩
  · rw [tb_false hok]
    have HZ := hide (show (0 : Int) = x.leftOf from by unfold CrewWorld.leftOf; rw [if_neg (by rw [tb_false hok]; simp)])
    clear hok
    go_wp2
    go_ret
    exact ⟨ret_int HZ.out, HB2.out⟩
set_option maxRecDepth 100000 in
set_option maxHeartbeats 4000000 in
theorem implCrewEnded_any (x : CrewWorld) (us : List Value) (fp : List Nat) (w : World) (ho : OwC w x.cells us fp) (hf : Lt fp w.heap.size) (hgl : x.got.length ≤ 1048576) :
    Calls Try.prog 18 #[.agg us.toArray] w fun e w' => e = .returned (.bool (tb x.ended)) ∧ Below w.heap.size w w' := by
  have HO := hide ho
  have HF := hide hf
  obtain ⟨A1, c1, A2, c2, A3, c3, A4, c4, A5, c5, A6, c6, A7, c7, f1, f2, f3, f4, f5, f6, f7, rfl, wjobs, wworkers, wwindow, wnext, wreader, o1, o2, wcloser, o3, wkeeper, o4, wdue, o5, wuser, o6, wroom, o7, wops, rfl⟩ := ho.oCrewWorld
  clear ho
  go_enter Try.func18, Try.ntmps18
  go_upto_region 1 with fail
  generalize hw1 : w.alloc _ = w1
  have hb0 : Below w.heap.size w w1 := by rw [← hw1]; exact (Below.refl _ _).alloc (Nat.le_refl _) _
  have HX := hide (show Row w1 w.heap.size 30 [.int .i64 x.jobs, .int .i64 x.workers, .int .i64 x.window, .int .i64 x.next, .int .i64 x.reader, .slice A1 x.queue.length c1, .slice A2 x.hands.length c2, .int .i64 x.closer, .slice A3 x.results.length c3, .int .i64 x.keeper, .slice A4 x.ring.length c4, .int .i64 x.due, .slice A5 x.out.length c5, .int .i64 x.user, .slice A6 x.got.length c6, .int .i64 x.room, .slice A7 x.shut.length c7, .int .i64 x.ops] from by rw [← hw1]; exact Row.new w _ _)
  have HB := hide hb0
  have HOW := hide (HO.out.below hb0 hf)
  have HFW := hide (hf.up hb0)
  clear hw1 hb0 HO o1 o2 o3 o4 o5 o6 o7
  have x0 := HX.out.cell 0
  have xl := HX.out.lt
  clear x0
  have HC := hide (isOk_any x _ _ w.heap.size w1 HX.out HOW.out HFW.out hgl)
  have HNO := hide (fun (h : ¬ x.ended) => show false = tb x.ended from (tb_false h).symm)
  go_upto_region 1 with fail
  by_cases hok : x.ok
  rotate_left
  · rw [tb_false hok] at HC
    have HZ := hide (HNO.out (fun hp => hok hp.1))
    clear hok
    go_wp2_with (first | (go_at_call 60; refine HC.out.mono ?_; rintro e w2 ⟨rfl, hb2⟩) | fail)
    go_ret
    exact ⟨ret_bool HZ.out, HB.out.trans (hb2.mono HB.out.size)⟩
  rw [tb_true hok] at HC
  have HOK := hide hok
  clear hok
  have HALLW := hide (fun (W : World) (hb : Below w1.heap.size w1 W) => haveEnded_any x _ _ w.heap.size W (HX.out.below hb HX.out.lt) (HOW.out.below hb HFW.out) (HFW.out.up hb))
  by_cases h3 : x.reader = 3
  rotate_left
  · have r1 := beqf' h3
    have HZ := hide (HNO.out (fun hp => h3 hp.2.1))
    clear h3
    go_wp2_with (first | (go_at_call 60; refine HC.out.mono ?_; rintro e w2 ⟨rfl, hb2⟩; have x4 := (HX.out.below hb2 HX.out.lt).cell 4; have x7 := (HX.out.below hb2 HX.out.lt).cell 7; have x9 := (HX.out.below hb2 HX.out.lt).cell 9; have x13 := (HX.out.below hb2 HX.out.lt).cell 13; have xl2 := (HX.out.below hb2 HX.out.lt).lt; have hbb := hb2) | (go_at_call 63; refine (HALL.out _ hb2).mono ?_; rintro e wq ⟨rfl, hbq⟩; have hbb := hb2.trans (hbq.mono hb2.size); have y7 := (HX.out.below hbb HX.out.lt).cell 7; have y9 := (HX.out.below hbb HX.out.lt).cell 9; have y13 := (HX.out.below hbb HX.out.lt).cell 13; have yl := (HX.out.below hbb HX.out.lt).lt) | fail)
    go_ret
    exact ⟨ret_bool HZ.out, HB.out.trans (hbb.mono HB.out.size)⟩
  have r1 := beqt' h3
  have H3 := hide h3
  clear h3
  by_cases ha : x.allDone
  rotate_left
  · have HALL := hide (fun (W : World) (hb : Below w1.heap.size w1 W) => show Calls Try.prog 63 #[.pointer (some ⟨w.heap.size, 0, none⟩)] W (fun e w' => e = .returned (.bool false) ∧ Below W.heap.size W w') from by
      have h := HALLW.out W hb
      rw [tb_false ha] at h
      exact h)
    have HZ := hide (HNO.out (fun hp => ha hp.2.2.1))
    clear ha
    go_wp2_with (first | (go_at_call 60; refine HC.out.mono ?_; rintro e w2 ⟨rfl, hb2⟩; have x4 := (HX.out.below hb2 HX.out.lt).cell 4; have x7 := (HX.out.below hb2 HX.out.lt).cell 7; have x9 := (HX.out.below hb2 HX.out.lt).cell 9; have x13 := (HX.out.below hb2 HX.out.lt).cell 13; have xl2 := (HX.out.below hb2 HX.out.lt).lt; have hbb := hb2) | (go_at_call 63; refine (HALL.out _ hb2).mono ?_; rintro e wq ⟨rfl, hbq⟩; have hbb := hb2.trans (hbq.mono hb2.size); have y7 := (HX.out.below hbb HX.out.lt).cell 7; have y9 := (HX.out.below hbb HX.out.lt).cell 9; have y13 := (HX.out.below hbb HX.out.lt).cell 13; have yl := (HX.out.below hbb HX.out.lt).lt) | fail)
    go_ret
    exact ⟨ret_bool HZ.out, HB.out.trans (hbb.mono HB.out.size)⟩
  have HALL := hide (fun (W : World) (hb : Below w1.heap.size w1 W) => show Calls Try.prog 63 #[.pointer (some ⟨w.heap.size, 0, none⟩)] W (fun e w' => e = .returned (.bool true) ∧ Below W.heap.size W w') from by
    have h := HALLW.out W hb
    rw [tb_true ha] at h
    exact h)
  have HA := hide ha
  clear ha
  by_cases h : x.closer = 1
  rotate_left
  · have rc := beqf' h
    have HZ := hide (HNO.out (fun hp => h hp.2.2.2.1))
    clear h
    go_wp2_with (first | (go_at_call 60; refine HC.out.mono ?_; rintro e w2 ⟨rfl, hb2⟩; have x4 := (HX.out.below hb2 HX.out.lt).cell 4; have x7 := (HX.out.below hb2 HX.out.lt).cell 7; have x9 := (HX.out.below hb2 HX.out.lt).cell 9; have x13 := (HX.out.below hb2 HX.out.lt).cell 13; have xl2 := (HX.out.below hb2 HX.out.lt).lt; have hbb := hb2) | (go_at_call 63; refine (HALL.out _ hb2).mono ?_; rintro e wq ⟨rfl, hbq⟩; have hbb := hb2.trans (hbq.mono hb2.size); have y7 := (HX.out.below hbb HX.out.lt).cell 7; have y9 := (HX.out.below hbb HX.out.lt).cell 9; have y13 := (HX.out.below hbb HX.out.lt).cell 13; have yl := (HX.out.below hbb HX.out.lt).lt) | fail)
    go_ret
    exact ⟨ret_bool HZ.out, HB.out.trans (hbb.mono HB.out.size)⟩
  have rc := beqt' h
  have Hc := hide h
  clear h
  by_cases h : x.keeper = 5
  rotate_left
  · have rk := beqf' h
    have HZ := hide (HNO.out (fun hp => h hp.2.2.2.2.1))
    clear h
    go_wp2_with (first | (go_at_call 60; refine HC.out.mono ?_; rintro e w2 ⟨rfl, hb2⟩; have x4 := (HX.out.below hb2 HX.out.lt).cell 4; have x7 := (HX.out.below hb2 HX.out.lt).cell 7; have x9 := (HX.out.below hb2 HX.out.lt).cell 9; have x13 := (HX.out.below hb2 HX.out.lt).cell 13; have xl2 := (HX.out.below hb2 HX.out.lt).lt; have hbb := hb2) | (go_at_call 63; refine (HALL.out _ hb2).mono ?_; rintro e wq ⟨rfl, hbq⟩; have hbb := hb2.trans (hbq.mono hb2.size); have y7 := (HX.out.below hbb HX.out.lt).cell 7; have y9 := (HX.out.below hbb HX.out.lt).cell 9; have y13 := (HX.out.below hbb HX.out.lt).cell 13; have yl := (HX.out.below hbb HX.out.lt).lt) | fail)
    go_ret
    exact ⟨ret_bool HZ.out, HB.out.trans (hbb.mono HB.out.size)⟩
  have rk := beqt' h
  have Hk := hide h
  clear h
  by_cases h : x.user = 1
  rotate_left
  · have ru := beqf' h
    have HZ := hide (HNO.out (fun hp => h hp.2.2.2.2.2))
    clear h
    go_wp2_with (first | (go_at_call 60; refine HC.out.mono ?_; rintro e w2 ⟨rfl, hb2⟩; have x4 := (HX.out.below hb2 HX.out.lt).cell 4; have x7 := (HX.out.below hb2 HX.out.lt).cell 7; have x9 := (HX.out.below hb2 HX.out.lt).cell 9; have x13 := (HX.out.below hb2 HX.out.lt).cell 13; have xl2 := (HX.out.below hb2 HX.out.lt).lt; have hbb := hb2) | (go_at_call 63; refine (HALL.out _ hb2).mono ?_; rintro e wq ⟨rfl, hbq⟩; have hbb := hb2.trans (hbq.mono hb2.size); have y7 := (HX.out.below hbb HX.out.lt).cell 7; have y9 := (HX.out.below hbb HX.out.lt).cell 9; have y13 := (HX.out.below hbb HX.out.lt).cell 13; have yl := (HX.out.below hbb HX.out.lt).lt) | fail)
    go_ret
    exact ⟨ret_bool HZ.out, HB.out.trans (hbb.mono HB.out.size)⟩
  have ru := beqt' h
  have Hu := hide h
  clear h
  have HZ := hide (show true = tb x.ended from (tb_true ⟨HOK.out, H3.out, HA.out, Hc.out, Hk.out, Hu.out⟩).symm)
  go_wp2_with (first | (go_at_call 60; refine HC.out.mono ?_; rintro e w2 ⟨rfl, hb2⟩; have x4 := (HX.out.below hb2 HX.out.lt).cell 4; have x7 := (HX.out.below hb2 HX.out.lt).cell 7; have x9 := (HX.out.below hb2 HX.out.lt).cell 9; have x13 := (HX.out.below hb2 HX.out.lt).cell 13; have xl2 := (HX.out.below hb2 HX.out.lt).lt; have hbb := hb2) | (go_at_call 63; refine (HALL.out _ hb2).mono ?_; rintro e wq ⟨rfl, hbq⟩; have hbb := hb2.trans (hbq.mono hb2.size); have y7 := (HX.out.below hbb HX.out.lt).cell 7; have y9 := (HX.out.below hbb HX.out.lt).cell 9; have y13 := (HX.out.below hbb HX.out.lt).cell 13; have yl := (HX.out.below hbb HX.out.lt).lt) | fail)
  go_ret
  exact ⟨ret_bool HZ.out, HB.out.trans (hbb.mono HB.out.size)⟩
end Go.Proofs.Ytpkjjfnfolbcoaa
