/-
  What is left in a world of a crew that is ok: the reference.
-/
import Derived.Test.YtpkjjfnfolbcoaaCrewW7
set_option linter.unusedVariables false
set_option linter.unusedSimpArgs false
namespace Go.Proofs.Ytpkjjfnfolbcoaa
open Go.ChangeShapes Go.WideShapes Go.ChangeAt Go.RowKit

def CrewWorld.ended (x : CrewWorld) : Prop := x.ok ∧ x.reader = 3 ∧ x.allDone ∧ x.closer = 1 ∧ x.keeper = 5 ∧ x.user = 1
theorem beqf2 {a b : Int} (h : ¬ a = b) : (a == b) = false := beq_eq_false_iff_ne.2 h
theorem beqt2 {a b : Int} (h : a = b) : (a == b) = true := by simpa using h
noncomputable def CrewWorld.leftOf (x : CrewWorld) : Int := if tb x.ok = true then x.left else 0
set_option maxRecDepth 100000 in
set_option maxHeartbeats 4000000 in
theorem specCrewLeft_any (x : CrewWorld) (us : List Value) (fp : List Nat) (w : World) (ho : OwC w x.cells us fp) (hf : Lt fp w.heap.size) (hgl : x.got.length ≤ 1048576) :
    Calls Try.prog 19 #[.agg us.toArray] w fun e w' => e = .returned (.int .i64 x.leftOf) ∧ Below w.heap.size w w' := by
  have HO := hide ho
  have HF := hide hf
  obtain ⟨A1, c1, A2, c2, A3, c3, A4, c4, A5, c5, A6, c6, A7, c7, f1, f2, f3, f4, f5, f6, f7, rfl, wjobs, wworkers, wwindow, wnext, wreader, o1, o2, wcloser, o3, wkeeper, o4, wdue, o5, wuser, o6, wroom, o7, wops, rfl⟩ := ho.oCrewWorld
  clear ho
  go_enter Try.func19, Try.ntmps19
  go_upto_region 1 with fail
  generalize hw1 : w.alloc _ = w1
  have hb0 : Below w.heap.size w w1 := by rw [← hw1]; exact (Below.refl _ _).alloc (Nat.le_refl _) _
  have HX := hide (show Row w1 w.heap.size 30 [.int .i64 x.jobs, .int .i64 x.workers, .int .i64 x.window, .int .i64 x.next, .int .i64 x.reader, .slice A1 x.queue.length c1, .slice A2 x.hands.length c2, .int .i64 x.closer, .slice A3 x.results.length c3, .int .i64 x.keeper, .slice A4 x.ring.length c4, .int .i64 x.due, .slice A5 x.out.length c5, .int .i64 x.user, .slice A6 x.got.length c6, .int .i64 x.room, .slice A7 x.shut.length c7, .int .i64 x.ops] from by rw [← hw1]; exact Row.new w _ _)
  have HB := hide hb0
  have HOW := hide (HO.out.below hb0 hf)
  have HFW := hide (hf.up hb0)
  clear hw1 hb0 HO o1 o2 o3 o4 o5 o6 o7
  have x0 := HX.out.cell 0
  have xl := HX.out.lt
  clear x0
  have HC := hide (specCrewOk_any x _ _ w1 HOW.out HFW.out hgl)
  go_wp2_with (first | (refine wpList_load_row rfl 30 _ rfl w.heap.size rfl 30 ([.int .i64 x.jobs, .int .i64 x.workers, .int .i64 x.window, .int .i64 x.next, .int .i64 x.reader, .slice A1 x.queue.length c1, .slice A2 x.hands.length c2, .int .i64 x.closer, .slice A3 x.results.length c3, .int .i64 x.keeper, .slice A4 x.ring.length c4, .int .i64 x.due, .slice A5 x.out.length c5, .int .i64 x.user, .slice A6 x.got.length c6, .int .i64 x.room, .slice A7 x.shut.length c7, .int .i64 x.ops] : List Value).toArray (0, 0) _ HX.out Try.underlying30 rfl info_crew ?_) | fail)
  refine HC.out.mono ?_
  rintro e w2 ⟨rfl, hb2⟩
  have HX2 := hide (HX.out.below hb2 HX.out.lt)
  have HB2 := hide (HB.out.trans (hb2.mono HB.out.size))
  have HOW2 := hide (HOW.out.below hb2 HFW.out)
  have HFW2 := hide (HFW.out.up hb2)
  clear hb2 HX HB HOW HFW HC xl
  have HX := HX2
  by_cases hok : x.ok
  · rw [tb_true hok]
    have HZ := hide (show x.left = x.leftOf from by unfold CrewWorld.leftOf; rw [if_pos (tb_true hok)])
    have HL := hide (l51Left_any x _ _ w2 HOW2.out HFW2.out hok.form)
    clear hok
    have xl := HX.out.lt
    go_wp2_with (first | (refine wpList_load_row rfl 30 _ rfl w.heap.size rfl 30 ([.int .i64 x.jobs, .int .i64 x.workers, .int .i64 x.window, .int .i64 x.next, .int .i64 x.reader, .slice A1 x.queue.length c1, .slice A2 x.hands.length c2, .int .i64 x.closer, .slice A3 x.results.length c3, .int .i64 x.keeper, .slice A4 x.ring.length c4, .int .i64 x.due, .slice A5 x.out.length c5, .int .i64 x.user, .slice A6 x.got.length c6, .int .i64 x.room, .slice A7 x.shut.length c7, .int .i64 x.ops] : List Value).toArray (0, 0) _ HX.out Try.underlying30 rfl info_crew ?_) | fail)
    refine HL.out.mono ?_
    rintro e w3 ⟨rfl, hb3⟩
    go_wp2
    go_ret
    exact ⟨ret_int HZ.out, HB2.out.trans (hb3.mono HB2.out.size)⟩
  · rw [tb_false hok]
    have HZ := hide (show (0 : Int) = x.leftOf from by unfold CrewWorld.leftOf; rw [if_neg (by rw [tb_false hok]; simp)])
    clear hok
    go_wp2
    go_ret
    exact ⟨ret_int HZ.out, HB2.out⟩
set_option maxRecDepth 100000 in
set_option maxHeartbeats 4000000 in
theorem specCrewEnded_any (x : CrewWorld) (us : List Value) (fp : List Nat) (w : World) (ho : OwC w x.cells us fp) (hf : Lt fp w.heap.size) (hgl : x.got.length ≤ 1048576) :
    Calls Try.prog 17 #[.agg us.toArray] w fun e w' => e = .returned (.bool (tb x.ended)) ∧ Below w.heap.size w w' := by
  have HO := hide ho
  have HF := hide hf
  obtain ⟨A1, c1, A2, c2, A3, c3, A4, c4, A5, c5, A6, c6, A7, c7, f1, f2, f3, f4, f5, f6, f7, rfl, wjobs, wworkers, wwindow, wnext, wreader, o1, o2, wcloser, o3, wkeeper, o4, wdue, o5, wuser, o6, wroom, o7, wops, rfl⟩ := ho.oCrewWorld
  clear ho
  go_enter Try.func17, Try.ntmps17
  go_upto_region 1 with fail
  generalize hw1 : w.alloc _ = w1
  have hb0 : Below w.heap.size w w1 := by rw [← hw1]; exact (Below.refl _ _).alloc (Nat.le_refl _) _
  have HX := hide (show Row w1 w.heap.size 30 [.int .i64 x.jobs, .int .i64 x.workers, .int .i64 x.window, .int .i64 x.next, .int .i64 x.reader, .slice A1 x.queue.length c1, .slice A2 x.hands.length c2, .int .i64 x.closer, .slice A3 x.results.length c3, .int .i64 x.keeper, .slice A4 x.ring.length c4, .int .i64 x.due, .slice A5 x.out.length c5, .int .i64 x.user, .slice A6 x.got.length c6, .int .i64 x.room, .slice A7 x.shut.length c7, .int .i64 x.ops] from by rw [← hw1]; exact Row.new w _ _)
  have HB := hide hb0
  have HOW := hide (HO.out.below hb0 hf)
  have HFW := hide (hf.up hb0)
  clear hw1 hb0 HO o1 o2 o3 o4 o5 o6 o7
  have x0 := HX.out.cell 0
  have xl := HX.out.lt
  clear x0
  have HNO := hide (fun (h : ¬ x.ended) => show false = tb x.ended from (tb_false h).symm)
  have HC := hide (specCrewOk_any x _ _ w1 HOW.out HFW.out hgl)
  go_wp2_with (first | (refine wpList_load_row rfl 30 _ rfl w.heap.size rfl 30 ([.int .i64 x.jobs, .int .i64 x.workers, .int .i64 x.window, .int .i64 x.next, .int .i64 x.reader, .slice A1 x.queue.length c1, .slice A2 x.hands.length c2, .int .i64 x.closer, .slice A3 x.results.length c3, .int .i64 x.keeper, .slice A4 x.ring.length c4, .int .i64 x.due, .slice A5 x.out.length c5, .int .i64 x.user, .slice A6 x.got.length c6, .int .i64 x.room, .slice A7 x.shut.length c7, .int .i64 x.ops] : List Value).toArray (0, 0) _ HX.out Try.underlying30 rfl info_crew ?_) | fail)
  refine HC.out.mono ?_
  rintro e w2 ⟨rfl, hb2⟩
  have HX2 := hide (HX.out.below hb2 HX.out.lt)
  have HB2 := hide (HB.out.trans (hb2.mono HB.out.size))
  have HOW2 := hide (HOW.out.below hb2 HFW.out)
  have HFW2 := hide (HFW.out.up hb2)
  clear hb2 HX HB HOW HFW HC xl
  have HX := HX2
  have HALL := hide (l51All_any x _ _ w2 HOW2.out HFW2.out)
  by_cases hok : x.ok
  rotate_left
  · rw [tb_false hok]
    have HZ := hide (HNO.out (fun hp => hok hp.1))
    clear hok
    go_wp2
    go_ret
    exact ⟨ret_bool HZ.out, HB2.out⟩
  rw [tb_true hok]
  have HOK := hide hok
  clear hok
  have x0 := HX.out.cell 0
  have x1 := HX.out.cell 1
  have x2 := HX.out.cell 2
  have x3 := HX.out.cell 3
  have x4 := HX.out.cell 4
  have x5 := HX.out.cell 5
  have x6 := HX.out.cell 6
  have x7 := HX.out.cell 7
  have x8 := HX.out.cell 8
  have x9 := HX.out.cell 9
  have x10 := HX.out.cell 10
  have x11 := HX.out.cell 11
  have x12 := HX.out.cell 12
  have x13 := HX.out.cell 13
  have x14 := HX.out.cell 14
  have x15 := HX.out.cell 15
  have x16 := HX.out.cell 16
  have x17 := HX.out.cell 17
  have xl := HX.out.lt
  by_cases h3 : x.reader = 3
  rotate_left
  · have r1 := beqf2 h3
    have HZ := hide (HNO.out (fun hp => h3 hp.2.1))
    clear h3
    go_wp2
    go_ret
    exact ⟨ret_bool HZ.out, HB2.out⟩
  have r1 := beqt2 h3
  have H3 := hide h3
  clear h3
  by_cases ha : x.allDone
  rotate_left
  · have ta := tb_false ha
    have HZ := hide (HNO.out (fun hp => ha hp.2.2.1))
    clear ha
    go_wp2_with (first | (refine wpList_load_row rfl 30 _ rfl w.heap.size rfl 30 ([.int .i64 x.jobs, .int .i64 x.workers, .int .i64 x.window, .int .i64 x.next, .int .i64 x.reader, .slice A1 x.queue.length c1, .slice A2 x.hands.length c2, .int .i64 x.closer, .slice A3 x.results.length c3, .int .i64 x.keeper, .slice A4 x.ring.length c4, .int .i64 x.due, .slice A5 x.out.length c5, .int .i64 x.user, .slice A6 x.got.length c6, .int .i64 x.room, .slice A7 x.shut.length c7, .int .i64 x.ops] : List Value).toArray (0, 0) _ HX.out Try.underlying30 rfl info_crew ?_) | (go_at_call 62; refine HALL.out.mono ?_; rintro e wq ⟨rfl, hbq⟩; have y7 := (HX.out.below hbq HX.out.lt).cell 7; have y9 := (HX.out.below hbq HX.out.lt).cell 9; have y13 := (HX.out.below hbq HX.out.lt).cell 13; have yl := (HX.out.below hbq HX.out.lt).lt) | fail)
    go_ret
    exact ⟨ret_bool HZ.out, HB2.out.trans (hbq.mono HB2.out.size)⟩
  have ta := tb_true ha
  have HA := hide ha
  clear ha
  by_cases h : x.closer = 1
  rotate_left
  · have rc := beqf2 h
    have HZ := hide (HNO.out (fun hp => h hp.2.2.2.1))
    clear h
    go_wp2_with (first | (refine wpList_load_row rfl 30 _ rfl w.heap.size rfl 30 ([.int .i64 x.jobs, .int .i64 x.workers, .int .i64 x.window, .int .i64 x.next, .int .i64 x.reader, .slice A1 x.queue.length c1, .slice A2 x.hands.length c2, .int .i64 x.closer, .slice A3 x.results.length c3, .int .i64 x.keeper, .slice A4 x.ring.length c4, .int .i64 x.due, .slice A5 x.out.length c5, .int .i64 x.user, .slice A6 x.got.length c6, .int .i64 x.room, .slice A7 x.shut.length c7, .int .i64 x.ops] : List Value).toArray (0, 0) _ HX.out Try.underlying30 rfl info_crew ?_) | (go_at_call 62; refine HALL.out.mono ?_; rintro e wq ⟨rfl, hbq⟩; have y7 := (HX.out.below hbq HX.out.lt).cell 7; have y9 := (HX.out.below hbq HX.out.lt).cell 9; have y13 := (HX.out.below hbq HX.out.lt).cell 13; have yl := (HX.out.below hbq HX.out.lt).lt) | fail)
    go_ret
    exact ⟨ret_bool HZ.out, HB2.out.trans (hbq.mono HB2.out.size)⟩
  have rc := beqt2 h
  have Hc := hide h
  clear h
  by_cases h : x.keeper = 5
  rotate_left
  · have rk := beqf2 h
    have HZ := hide (HNO.out (fun hp => h hp.2.2.2.2.1))
    clear h
    go_wp2_with (first | (refine wpList_load_row rfl 30 _ rfl w.heap.size rfl 30 ([.int .i64 x.jobs, .int .i64 x.workers, .int .i64 x.window, .int .i64 x.next, .int .i64 x.reader, .slice A1 x.queue.length c1, .slice A2 x.hands.length c2, .int .i64 x.closer, .slice A3 x.results.length c3, .int .i64 x.keeper, .slice A4 x.ring.length c4, .int .i64 x.due, .slice A5 x.out.length c5, .int .i64 x.user, .slice A6 x.got.length c6, .int .i64 x.room, .slice A7 x.shut.length c7, .int .i64 x.ops] : List Value).toArray (0, 0) _ HX.out Try.underlying30 rfl info_crew ?_) | (go_at_call 62; refine HALL.out.mono ?_; rintro e wq ⟨rfl, hbq⟩; have y7 := (HX.out.below hbq HX.out.lt).cell 7; have y9 := (HX.out.below hbq HX.out.lt).cell 9; have y13 := (HX.out.below hbq HX.out.lt).cell 13; have yl := (HX.out.below hbq HX.out.lt).lt) | fail)
    go_ret
    exact ⟨ret_bool HZ.out, HB2.out.trans (hbq.mono HB2.out.size)⟩
  have rk := beqt2 h
  have Hk := hide h
  clear h
  by_cases h : x.user = 1
  rotate_left
  · have ru := beqf2 h
    have HZ := hide (HNO.out (fun hp => h hp.2.2.2.2.2))
    clear h
    go_wp2_with (first | (refine wpList_load_row rfl 30 _ rfl w.heap.size rfl 30 ([.int .i64 x.jobs, .int .i64 x.workers, .int .i64 x.window, .int .i64 x.next, .int .i64 x.reader, .slice A1 x.queue.length c1, .slice A2 x.hands.length c2, .int .i64 x.closer, .slice A3 x.results.length c3, .int .i64 x.keeper, .slice A4 x.ring.length c4, .int .i64 x.due, .slice A5 x.out.length c5, .int .i64 x.user, .slice A6 x.got.length c6, .int .i64 x.room, .slice A7 x.shut.length c7, .int .i64 x.ops] : List Value).toArray (0, 0) _ HX.out Try.underlying30 rfl info_crew ?_) | (go_at_call 62; refine HALL.out.mono ?_; rintro e wq ⟨rfl, hbq⟩; have y7 := (HX.out.below hbq HX.out.lt).cell 7; have y9 := (HX.out.below hbq HX.out.lt).cell 9; have y13 := (HX.out.below hbq HX.out.lt).cell 13; have yl := (HX.out.below hbq HX.out.lt).lt) | fail)
    go_ret
    exact ⟨ret_bool HZ.out, HB2.out.trans (hbq.mono HB2.out.size)⟩
  have ru := beqt2 h
  have Hu := hide h
  clear h
  have HZ := hide (show true = tb x.ended from (tb_true ⟨HOK.out, H3.out, HA.out, Hc.out, Hk.out, Hu.out⟩).symm)
  go_wp2_with (first | (refine wpList_load_row rfl 30 _ rfl w.heap.size rfl 30 ([.int .i64 x.jobs, .int .i64 x.workers, .int .i64 x.window, .int .i64 x.next, .int .i64 x.reader, .slice A1 x.queue.length c1, .slice A2 x.hands.length c2, .int .i64 x.closer, .slice A3 x.results.length c3, .int .i64 x.keeper, .slice A4 x.ring.length c4, .int .i64 x.due, .slice A5 x.out.length c5, .int .i64 x.user, .slice A6 x.got.length c6, .int .i64 x.room, .slice A7 x.shut.length c7, .int .i64 x.ops] : List Value).toArray (0, 0) _ HX.out Try.underlying30 rfl info_crew ?_) | (go_at_call 62; refine HALL.out.mono ?_; rintro e wq ⟨rfl, hbq⟩; have y7 := (HX.out.below hbq HX.out.lt).cell 7; have y9 := (HX.out.below hbq HX.out.lt).cell 9; have y13 := (HX.out.below hbq HX.out.lt).cell 13; have yl := (HX.out.below hbq HX.out.lt).lt) | fail)
  go_ret
  exact ⟨ret_bool HZ.out, HB2.out.trans (hbq.mono HB2.out.size)⟩
end Go.Proofs.Ytpkjjfnfolbcoaa
