/-
  Whether the parts of a world of a crew are within their bounds: the reference. Whether those have ended who may have: the reference.
-/
import Derived.Laws.CopyOwn
import Derived.Test.YtpkjjfnfolbcoaaQStartW
import Derived.Test.YtpkjjfnfolbcoaaQCrewW4
set_option linter.unusedVariables false
set_option linter.unusedSimpArgs false
namespace Go.Proofs.Ytpkjjfnfolbcoaa
open Go.ChangeShapes Go.WideShapes Go.ChangeAt Go.RowKit

def CrewWorld.FormG (x : CrewWorld) : Prop := x.Form ∧ (x.got.length : Int) ≤ x.jobs
theorem shut_all {x : CrewWorld} (h : ∀ a (h : a < x.shut.length), a < 4 → 0 ≤ x.shut[a] ∧ x.shut[a] ≤ 1) (hl : x.shut.length = 4) : ∀ n ∈ x.shut, 0 ≤ n ∧ n ≤ 1 := fun n hn => by
  obtain ⟨a, ha, rfl⟩ := List.getElem_of_mem hn
  exact h a ha (by omega)
theorem hands_all {x : CrewWorld} (h : ∀ a (h : a < x.hands.length), a < x.hands.length → x.hands[a].fine) : ∀ y ∈ x.hands, y.fine := fun n hn => by
  obtain ⟨a, ha, rfl⟩ := List.getElem_of_mem hn
  exact h a ha ha
set_option maxRecDepth 100000 in
set_option maxHeartbeats 8000000 in
theorem l51Form_any (x : CrewWorld) (us : List Value) (fp : List Nat) (w : World) (ho : OwC w x.cells us fp) (hf : Lt fp w.heap.size) :
    Calls Try.prog 55 #[.agg us.toArray] w fun e w' => e = .returned (.bool (tb x.FormG)) ∧ Below w.heap.size w w' := by
  have HO := hide ho
  have HF := hide hf
  obtain ⟨A1, c1, A2, c2, A3, c3, A4, c4, A5, c5, A6, c6, A7, c7, f1, f2, f3, f4, f5, f6, f7, rfl, wjobs, wworkers, wwindow, wnext, wreader, o1, o2, wcloser, o3, wkeeper, o4, wdue, o5, wuser, o6, wroom, o7, wops, rfl⟩ := ho.oCrewWorld
  clear ho
  go_enter Try.func55, Try.ntmps55
  go_upto_region 1 with fail
  generalize hw1 : w.alloc _ = w1
  have hb0 : Below w.heap.size w w1 := by rw [← hw1]; exact (Below.refl _ _).alloc (Nat.le_refl _) _
  have HX := hide (show Row w1 w.heap.size 30 [.int .i64 x.jobs, .int .i64 x.workers, .int .i64 x.window, .int .i64 x.next, .int .i64 x.reader, .slice A1 x.queue.length c1, .slice A2 x.hands.length c2, .int .i64 x.closer, .slice A3 x.results.length c3, .int .i64 x.keeper, .slice A4 x.ring.length c4, .int .i64 x.due, .slice A5 x.out.length c5, .int .i64 x.user, .slice A6 x.got.length c6, .int .i64 x.room, .slice A7 x.shut.length c7, .int .i64 x.ops] from by rw [← hw1]; exact Row.new w _ _)
  have HB := hide hb0
  have HOW := hide (HO.out.below hb0 hf)
  have HFW := hide (hf.up hb0)
  have O2 := hide (o2.below hb0 hf.right.left)
  have l2 := hf.right.left.up hb0
  obtain ⟨-, n2, m2⟩ := o2.nlen
  unfold maxLen at m2
  have O7 := hide (o7.below hb0 hf.right.right.right.right.right.right)
  have l7 := hf.right.right.right.right.right.right.up hb0
  obtain ⟨-, n7, m7⟩ := o7.nlen
  unfold maxLen at m7
  clear hw1 hb0 HO o1 o2 o3 o4 o5 o6 o7
  have x0 := HX.out.cell 0
  have x1 := HX.out.cell 1
  have x2 := HX.out.cell 2
  have xl := HX.out.lt
  have HNO := hide (fun (h : ¬ x.FormG) => show false = tb x.FormG from (tb_false h).symm)
  have HC := hide (specCrewStart_any x.jobs x.workers x.window w1 wjobs wworkers wwindow)
  go_wp2_with fail
  refine HC.out.mono ?_
  rintro e w7 ⟨us7, fq7, rfl, ho7, hn7, hb7⟩
  have hl7 : us7.length = 18 := by rw [ho7.length, CrewWorld.cells_len]
  have HI7 := hide (show zeroCells.toArray.size = us7.toArray.size ∧ (Try.prog.info? 30).map (·.size) = some us7.toArray.size ∧ us7.toArray.all (·.oneCell') = true from ⟨by rw [List.size_toArray, List.size_toArray, hl7]; rfl, by rw [List.size_toArray, hl7]; kernel_rfl, Array.all_eq_true_iff_forall_mem.2 (fun v hv => OwC.cell1 _ ho7 v (by simpa using hv))⟩)
  have HZ7 := hide (show Row (w7.alloc (.cells zeroCells.toArray 30)) w7.heap.size 30 zeroCells from Row.new w7 _ _)
  have hAP7 : Below w7.heap.size w7 ((w7.alloc (.cells zeroCells.toArray 30)).setRow w7.heap.size us7.toArray) := below_setRow ((Below.refl _ _).alloc (Nat.le_refl _) _) (Nat.le_refl _) _
  have hB8 := hb7.trans (hAP7.mono hb7.size)
  clear ho7 hn7 hb7 hAP7 hl7 HC x0 x1 x2 xl
  go_upto_region 2 with (first | (refine wpList_store_row rfl 30 _ _ rfl w7.heap.size us7.toArray rfl rfl 30 zeroCells.toArray HZ7.out HI7.out.2.1 HI7.out.1 HI7.out.2.2 ?_) | fail)
  generalize hw2 : World.setRow _ _ _ = w2
  have hB8 : Below w1.heap.size w1 w2 := by rw [← hw2]; exact hB8
  clear hw2
  have HX2 := hide (HX.out.below hB8 HX.out.lt)
  have HB2 := hide (HB.out.trans (hB8.mono HB.out.size))
  have R2 := hide (O2.out.below hB8 l2)
  have R7 := hide (O7.out.below hB8 l7)
  have k2 := hide (l2.up hB8)
  have k7 := hide (l7.up hB8)
  clear hB8 HZ7 HI7 HX HB HOW HFW O2 O7 l2 l7
  have x0 := HX2.out.cell 0
  have x1 := HX2.out.cell 1
  have x2 := HX2.out.cell 2
  have x3 := HX2.out.cell 3
  have x4 := HX2.out.cell 4
  have x5 := HX2.out.cell 5
  have x6 := HX2.out.cell 6
  have x7 := HX2.out.cell 7
  have x8 := HX2.out.cell 8
  have x9 := HX2.out.cell 9
  have x10 := HX2.out.cell 10
  have x11 := HX2.out.cell 11
  have x12 := HX2.out.cell 12
  have x13 := HX2.out.cell 13
  have x14 := HX2.out.cell 14
  have x15 := HX2.out.cell 15
  have x16 := HX2.out.cell 16
  have x17 := HX2.out.cell 17
  have xl := HX2.out.lt
  by_cases h1 : crewOk x.jobs x.workers x.window
  rotate_left
  · rw [tb_false h1]
    have HZ := hide (HNO.out (fun hp => h1 hp.1.start))
    go_wp2_with (first | (go_at_call 67; refine (l6In_any _ _ _ _).mono ?_; rintro e wq ⟨rfl, rfl⟩) | fail)
    go_ret
    exact ⟨ret_bool HZ.out, HB2.out⟩
  rw [tb_true h1]
  have H1 := hide h1
  clear h1
  by_cases h : 0 ≤ x.next ∧ x.next ≤ x.jobs
  rotate_left
  · have t2 : tb (0 ≤ x.next ∧ x.next ≤ x.jobs) = false := tb_false h
    have HN := hide h
    clear h
    have HZ := hide (HNO.out (fun hp => HN.out hp.1.next))
    go_wp2_with (first | (go_at_call 67; refine (l6In_any _ _ _ _).mono ?_; rintro e wq ⟨rfl, rfl⟩) | fail)
    go_ret
    exact ⟨ret_bool HZ.out, HB2.out⟩
  have t2 : tb (0 ≤ x.next ∧ x.next ≤ x.jobs) = true := tb_true h
  have Ht2 := hide h
  clear h
  by_cases h : 0 ≤ x.due ∧ x.due ≤ x.next
  rotate_left
  · have t3 : tb (0 ≤ x.due ∧ x.due ≤ x.next) = false := tb_false h
    have HN := hide h
    clear h
    have HZ := hide (HNO.out (fun hp => HN.out hp.1.due))
    go_wp2_with (first | (go_at_call 67; refine (l6In_any _ _ _ _).mono ?_; rintro e wq ⟨rfl, rfl⟩) | fail)
    go_ret
    exact ⟨ret_bool HZ.out, HB2.out⟩
  have t3 : tb (0 ≤ x.due ∧ x.due ≤ x.next) = true := tb_true h
  have Ht3 := hide h
  clear h
  by_cases h : 0 ≤ x.room ∧ x.room ≤ x.window
  rotate_left
  · have t4 : tb (0 ≤ x.room ∧ x.room ≤ x.window) = false := tb_false h
    have HN := hide h
    clear h
    have HZ := hide (HNO.out (fun hp => HN.out hp.1.room))
    go_wp2_with (first | (go_at_call 67; refine (l6In_any _ _ _ _).mono ?_; rintro e wq ⟨rfl, rfl⟩) | fail)
    go_ret
    exact ⟨ret_bool HZ.out, HB2.out⟩
  have t4 : tb (0 ≤ x.room ∧ x.room ≤ x.window) = true := tb_true h
  have Ht4 := hide h
  clear h
  by_cases ho1 : x.ops < 0
  · have d1 : decide (x.ops < 0) = true := dec_true ho1
    have HZ := hide (HNO.out (fun hp => by have := hp.1.ops; omega))
    go_wp2_with (first | (go_at_call 67; refine (l6In_any _ _ _ _).mono ?_; rintro e wq ⟨rfl, rfl⟩) | fail)
    go_ret
    exact ⟨ret_bool HZ.out, HB2.out⟩
  by_cases ho2 : 10000 < x.ops
  · have d2 : decide (10000 < x.ops) = true := dec_true ho2
    have HZ := hide (HNO.out (fun hp => by have := hp.1.ops; omega))
    go_wp2_with (first | (go_at_call 67; refine (l6In_any _ _ _ _).mono ?_; rintro e wq ⟨rfl, rfl⟩) | fail)
    go_ret
    exact ⟨ret_bool HZ.out, HB2.out⟩
  have d1 : decide (x.ops < 0) = false := dec_false ho1
  have d2 : decide (10000 < x.ops) = false := dec_false ho2
  have HOPS := hide (show 0 ≤ x.ops ∧ x.ops ≤ 10000 by omega)
  by_cases h : (x.hands.length : Int) = x.workers
  rotate_left
  · have e1 : ((x.hands.length : Int) == x.workers) = false := beq_eq_false_iff_ne.2 h
    have e2 : ((x.hands.length : Int) != x.workers) = true := by simpa using h
    have e3 : decide ((x.hands.length : Int) = x.workers) = false := dec_false h
    have HZ := hide (HNO.out (fun hp => h (hp.1.hands)))
    go_wp2_with (first | (go_at_call 67; refine (l6In_any _ _ _ _).mono ?_; rintro e wq ⟨rfl, rfl⟩) | fail)
    go_ret
    exact ⟨ret_bool HZ.out, HB2.out⟩
  have h1 : ((x.hands.length : Int) == x.workers) = true := by simpa using h
  have h2 : ((x.hands.length : Int) != x.workers) = false := by simpa using h
  have h3 : decide ((x.hands.length : Int) = x.workers) = true := dec_true h
  have HEh := hide h
  clear h
  by_cases h : (x.ring.length : Int) = x.window
  rotate_left
  · have e1 : ((x.ring.length : Int) == x.window) = false := beq_eq_false_iff_ne.2 h
    have e2 : ((x.ring.length : Int) != x.window) = true := by simpa using h
    have e3 : decide ((x.ring.length : Int) = x.window) = false := dec_false h
    have HZ := hide (HNO.out (fun hp => h (hp.1.ring)))
    go_wp2_with (first | (go_at_call 67; refine (l6In_any _ _ _ _).mono ?_; rintro e wq ⟨rfl, rfl⟩) | fail)
    go_ret
    exact ⟨ret_bool HZ.out, HB2.out⟩
  have r1 : ((x.ring.length : Int) == x.window) = true := by simpa using h
  have r2 : ((x.ring.length : Int) != x.window) = false := by simpa using h
  have r3 : decide ((x.ring.length : Int) = x.window) = true := dec_true h
  have HEr := hide h
  clear h
  by_cases h : (x.shut.length : Int) = 4
  rotate_left
  · have e1 : ((x.shut.length : Int) == 4) = false := beq_eq_false_iff_ne.2 h
    have e2 : ((x.shut.length : Int) != 4) = true := by simpa using h
    have e3 : decide ((x.shut.length : Int) = 4) = false := dec_false h
    have HZ := hide (HNO.out (fun hp => h (by have := hp.1.shut; omega)))
    go_wp2_with (first | (go_at_call 67; refine (l6In_any _ _ _ _).mono ?_; rintro e wq ⟨rfl, rfl⟩) | fail)
    go_ret
    exact ⟨ret_bool HZ.out, HB2.out⟩
  have s1 : ((x.shut.length : Int) == 4) = true := by simpa using h
  have s2 : ((x.shut.length : Int) != 4) = false := by simpa using h
  have s3 : decide ((x.shut.length : Int) = 4) = true := dec_true h
  have HEs := hide h
  clear h
  by_cases hq : x.workers < (x.queue.length : Int)
  · have e1 : decide (x.workers < (x.queue.length : Int)) = true := dec_true hq
    have HZ := hide (HNO.out (fun hp => absurd (hp.1.queue) (by omega)))
    go_wp2_with (first | (go_at_call 67; refine (l6In_any _ _ _ _).mono ?_; rintro e wq ⟨rfl, rfl⟩) | fail)
    go_ret
    exact ⟨ret_bool HZ.out, HB2.out⟩
  have q1 : decide (x.workers < (x.queue.length : Int)) = false := dec_false hq
  have HLq := hide (show (x.queue.length : Int) ≤ x.workers by omega)
  by_cases hp : x.workers < (x.results.length : Int)
  · have e1 : decide (x.workers < (x.results.length : Int)) = true := dec_true hp
    have HZ := hide (HNO.out (fun hp => absurd (hp.1.results) (by omega)))
    go_wp2_with (first | (go_at_call 67; refine (l6In_any _ _ _ _).mono ?_; rintro e wq ⟨rfl, rfl⟩) | fail)
    go_ret
    exact ⟨ret_bool HZ.out, HB2.out⟩
  have p1 : decide (x.workers < (x.results.length : Int)) = false := dec_false hp
  have HLp := hide (show (x.results.length : Int) ≤ x.workers by omega)
  by_cases ho : 1 < (x.out.length : Int)
  · have e1 : decide (1 < (x.out.length : Int)) = true := dec_true ho
    have HZ := hide (HNO.out (fun hp => absurd (by have := hp.1.out; omega) (by omega)))
    go_wp2_with (first | (go_at_call 67; refine (l6In_any _ _ _ _).mono ?_; rintro e wq ⟨rfl, rfl⟩) | fail)
    go_ret
    exact ⟨ret_bool HZ.out, HB2.out⟩
  have o1 : decide (1 < (x.out.length : Int)) = false := dec_false ho
  have HLo := hide (show (x.out.length : Int) ≤ 1 by omega)
  by_cases hg : x.jobs < (x.got.length : Int)
  · have e1 : decide (x.jobs < (x.got.length : Int)) = true := dec_true hg
    have HZ := hide (HNO.out (fun hp => absurd (hp.2) (by omega)))
    go_wp2_with (first | (go_at_call 67; refine (l6In_any _ _ _ _).mono ?_; rintro e wq ⟨rfl, rfl⟩) | fail)
    go_ret
    exact ⟨ret_bool HZ.out, HB2.out⟩
  have g1 : decide (x.jobs < (x.got.length : Int)) = false := dec_false hg
  have HLg := hide (show (x.got.length : Int) ≤ x.jobs by omega)
  have h7l : x.shut.length = 4 := by have := HEs.out; omega
  have H7L := hide h7l
  go_upto_region 6 with (first | (go_at_call 67; refine (l6In_any _ _ _ _).mono ?_; rintro e wq ⟨rfl, rfl⟩) | fail)
  clear t2 t3 t4 d1 d2 h1 h2 h3 r1 r2 r3 s1 s2 s3 q1 p1 o1 g1 hq hp ho hg h7l x0 x1 x2 x3 x5 x8 x10 x11 x12 x14 x15 x17
  go_wp2_with fail
  go_loopw [5] (fun s wr => (∃ i : Nat, i ≤ 4 ∧ s = .int .i64 i ∧ ∀ a (h : a < x.shut.length), a < i → 0 ≤ x.shut[a] ∧ x.shut[a] ≤ 1) ∧ wr = w2) (fun s _ => 4 - (intOf s).toNat)
  case atStart => exact ⟨⟨0, Nat.zero_le _, rfl, fun a h1 h => absurd h (by omega)⟩, rfl⟩
  case round =>
    obtain ⟨⟨i, hi, rfl, hin⟩, rfl⟩ := hrel
    have HIN := hide hin
    clear hin
    by_cases hlt4 : i < 4
    · have hlt : i < x.shut.length := by rw [H7L.out]; exact hlt4
      have hi4 : (i : Int) < 4 := by omega
      have hii : (i : Int) < (x.shut.length : Int) := by omega
      obtain ⟨g, off, rfl, hg, hcell, -⟩ := ints_at R7.out hlt
      have hgl := k7.out g hg
      have HST := hide (all_step (P := fun y : Int => 0 ≤ y ∧ y ≤ 1) x.shut i hlt HIN.out)
      have HNF := hide (fun (hp : x.FormG) => hp.1.shuts _ (List.getElem_mem hlt))
      generalize x.shut[i] = y at *
      by_cases h : 0 ≤ y ∧ y ≤ 1
      · have t : tb (0 ≤ y ∧ y ≤ 1) = true := tb_true h
        have HS := hide (HST.out h)
        clear h
        go_wp2_with (first | (go_at_call 67; refine (l6In_any _ _ _ _).mono ?_; rintro e wq ⟨rfl, rfl⟩) | fail)
        go_roundw
        case rel => exact ⟨⟨i + 1, by omega, by go_num, HS.out⟩, by trivial⟩
        case measure => simp [intOf]; omega
      · have t : tb (0 ≤ y ∧ y ≤ 1) = false := tb_false h
        have HZ := hide (HNO.out (fun hp => h (HNF.out hp)))
        clear h
        go_wp2_with (first | (go_at_call 67; refine (l6In_any _ _ _ _).mono ?_; rintro e wq ⟨rfl, rfl⟩) | fail)
        go_ret
        exact ⟨ret_bool HZ.out, HB2.out⟩
    · obtain rfl : i = 4 := by omega
      have HSH := hide (shut_all HIN.out H7L.out)
      obtain ⟨w3, rfl⟩ : ∃ W, W = wr := ⟨_, rfl⟩
      clear HIN
      go_wp2_with fail
      go_loopw [6] (fun s wr => (∃ j : Nat, j ≤ x.hands.length ∧ s = .int .i64 j ∧ ∀ a (h : a < x.hands.length), a < j → x.hands[a].fine) ∧ Below w3.heap.size w3 wr) (fun s _ => x.hands.length - (intOf s).toNat)
      case atStart => exact ⟨⟨0, Nat.zero_le _, rfl, fun a h1 h => absurd h (by omega)⟩, Below.refl _ _⟩
      case round =>
        obtain ⟨⟨j, hj, rfl, hin⟩, hb⟩ := hrel
        have HIN := hide hin
        have HBR := hide hb
        have HXR := hide (HX2.out.below hb HX2.out.lt)
        have hR2 := R2.out.below hb k2.out
        have hszr := hb.size
        clear hin hb x4 x6 x7 x9 x13 x16 xl
        have x4 := HXR.out.cell 4
        have x6 := HXR.out.cell 6
        have x7 := HXR.out.cell 7
        have x9 := HXR.out.cell 9
        have x13 := HXR.out.cell 13
        have xl := HXR.out.lt
        by_cases hlt : j < x.hands.length
        · have hjI : (j : Int) < (x.hands.length : Int) := by omega
          obtain ⟨g, off, ws, fi, rfl, hg, hfi, hwl, hcs, hov⟩ := hR2.elem CrewHand.cells_len hlt
          have hgw : g < wr.heap.size := Nat.lt_of_lt_of_le (k2.out g hg) hszr
          obtain ⟨rfl, -, -, -⟩ := hov.oCrewHand
          have p0 := hcs 0 _ rfl
          have p1 := hcs 1 _ rfl
          simp only [Nat.add_zero] at p0
          have HST := hide (all_step (P := fun y : CrewHand => y.fine) x.hands j hlt HIN.out)
          have HNF := hide (fun (hp : x.FormG) => hp.1.fine _ (List.getElem_mem hlt))
          have hBA := HBR.out.alloc hszr
          clear hcs hov hR2
          generalize x.hands[j] = y at *
          by_cases hs : 0 ≤ y.state ∧ y.state ≤ 3
          rotate_left
          · have t : tb (0 ≤ y.state ∧ y.state ≤ 3) = false := tb_false hs
            have HZ := hide (HNO.out (fun hp => hs (HNF.out hp).1))
            have d1 : decide (y.state = 1) = false := dec_false (by omega)
            have d2 : decide (y.state = 2) = false := dec_false (by omega)
            have e1 : (y.state == 1) = false := beq_eq_false_iff_ne.2 (by omega)
            have e2 : (y.state == 2) = false := beq_eq_false_iff_ne.2 (by omega)
            clear hs
            go_wp2_with (first | (go_at_call 67; refine (l6In_any _ _ _ _).mono ?_; rintro e wq ⟨rfl, rfl⟩) | fail)
            go_ret
            exact ⟨ret_bool HZ.out, HB2.out.trans ((hBA _).mono HB2.out.size)⟩
          have t : tb (0 ≤ y.state ∧ y.state ≤ 3) = true := tb_true hs
          by_cases hb1 : y.state = 1
          · have d1 : decide (y.state = 1) = true := dec_true hb1
            have e1 : (y.state == 1) = true := by simpa using hb1
            have HS := hide (HST.out ⟨hs, fun _ => .inl hb1⟩)
            clear hs hb1
            go_wp2_with (first | (go_at_call 67; refine (l6In_any _ _ _ _).mono ?_; rintro e wq ⟨rfl, rfl⟩) | fail)
            go_roundw
            case rel =>
              first
                | exact ⟨⟨j + 1, by omega, by go_num, HS.out⟩, hBA _⟩
                | (repeat apply Exists.intro
                   exact ⟨⟨⟨j + 1, by omega, by go_num, HS.out⟩, hBA _⟩, rfl⟩)
            case measure => simp [intOf]; omega
          have d1 : decide (y.state = 1) = false := dec_false hb1
          have e1 : (y.state == 1) = false := by simpa using hb1
          by_cases hb2 : y.state = 2
          · have d2 : decide (y.state = 2) = true := dec_true hb2
            have e2 : (y.state == 2) = true := by simpa using hb2
            have HS := hide (HST.out ⟨hs, fun _ => .inr hb2⟩)
            clear hs hb1 hb2
            go_wp2_with (first | (go_at_call 67; refine (l6In_any _ _ _ _).mono ?_; rintro e wq ⟨rfl, rfl⟩) | fail)
            go_roundw
            case rel =>
              first
                | exact ⟨⟨j + 1, by omega, by go_num, HS.out⟩, hBA _⟩
                | (repeat apply Exists.intro
                   exact ⟨⟨⟨j + 1, by omega, by go_num, HS.out⟩, hBA _⟩, rfl⟩)
            case measure => simp [intOf]; omega
          have d2 : decide (y.state = 2) = false := dec_false hb2
          have e2 : (y.state == 2) = false := by simpa using hb2
          by_cases hj0 : y.job = 0
          · have d3 : decide (y.job = 0) = true := dec_true hj0
            have e3 : (y.job == 0) = true := by simpa using hj0
            have e4 : (y.job != 0) = false := by simpa using hj0
            have HS := hide (HST.out ⟨hs, fun h => absurd hj0 h⟩)
            clear hs hb1 hb2 hj0
            go_wp2_with (first | (go_at_call 67; refine (l6In_any _ _ _ _).mono ?_; rintro e wq ⟨rfl, rfl⟩) | fail)
            go_roundw
            case rel =>
              first
                | exact ⟨⟨j + 1, by omega, by go_num, HS.out⟩, hBA _⟩
                | (repeat apply Exists.intro
                   exact ⟨⟨⟨j + 1, by omega, by go_num, HS.out⟩, hBA _⟩, rfl⟩)
            case measure => simp [intOf]; omega
          · have d3 : decide (y.job = 0) = false := dec_false hj0
            have e3 : (y.job == 0) = false := by simpa using hj0
            have e4 : (y.job != 0) = true := by simpa using hj0
            have HZ := hide (HNO.out (fun hp => by rcases (HNF.out hp).2 hj0 with h | h; exact hb1 h; exact hb2 h))
            clear hs hb1 hb2 hj0
            go_wp2_with (first | (go_at_call 67; refine (l6In_any _ _ _ _).mono ?_; rintro e wq ⟨rfl, rfl⟩) | fail)
            go_ret
            exact ⟨ret_bool HZ.out, HB2.out.trans ((hBA _).mono HB2.out.size)⟩
        · obtain rfl : j = x.hands.length := by omega
          have hjI : ¬ ((x.hands.length : Int) < (x.hands.length : Int)) := by omega
          have HFI := hide (hands_all (fun a h _ => HIN.out a h h))
          clear hR2
          by_cases h : 0 ≤ x.reader ∧ x.reader ≤ 3
          rotate_left
          · have u1 : tb (0 ≤ x.reader ∧ x.reader ≤ 3) = false := tb_false h
            have HZ := hide (HNO.out (fun hp => h hp.1.reader))
            clear h
            go_wp2_with (first | (go_at_call 67; refine (l6In_any _ _ _ _).mono ?_; rintro e wq ⟨rfl, rfl⟩) | fail)
            go_ret
            exact ⟨ret_bool HZ.out, HB2.out.trans (HBR.out.mono HB2.out.size)⟩
          have u1 : tb (0 ≤ x.reader ∧ x.reader ≤ 3) = true := tb_true h
          have Hu1 := hide h
          clear h
          by_cases h : 0 ≤ x.closer ∧ x.closer ≤ 1
          rotate_left
          · have u2 : tb (0 ≤ x.closer ∧ x.closer ≤ 1) = false := tb_false h
            have HZ := hide (HNO.out (fun hp => h hp.1.closer))
            clear h
            go_wp2_with (first | (go_at_call 67; refine (l6In_any _ _ _ _).mono ?_; rintro e wq ⟨rfl, rfl⟩) | fail)
            go_ret
            exact ⟨ret_bool HZ.out, HB2.out.trans (HBR.out.mono HB2.out.size)⟩
          have u2 : tb (0 ≤ x.closer ∧ x.closer ≤ 1) = true := tb_true h
          have Hu2 := hide h
          clear h
          by_cases h : 0 ≤ x.keeper ∧ x.keeper ≤ 5
          rotate_left
          · have u3 : tb (0 ≤ x.keeper ∧ x.keeper ≤ 5) = false := tb_false h
            have HZ := hide (HNO.out (fun hp => h hp.1.keeper))
            clear h
            go_wp2_with (first | (go_at_call 67; refine (l6In_any _ _ _ _).mono ?_; rintro e wq ⟨rfl, rfl⟩) | fail)
            go_ret
            exact ⟨ret_bool HZ.out, HB2.out.trans (HBR.out.mono HB2.out.size)⟩
          have u3 : tb (0 ≤ x.keeper ∧ x.keeper ≤ 5) = true := tb_true h
          have Hu3 := hide h
          clear h
          by_cases h : 0 ≤ x.user ∧ x.user ≤ 1
          rotate_left
          · have u4 : tb (0 ≤ x.user ∧ x.user ≤ 1) = false := tb_false h
            have HZ := hide (HNO.out (fun hp => h hp.1.user))
            clear h
            go_wp2_with (first | (go_at_call 67; refine (l6In_any _ _ _ _).mono ?_; rintro e wq ⟨rfl, rfl⟩) | fail)
            go_ret
            exact ⟨ret_bool HZ.out, HB2.out.trans (HBR.out.mono HB2.out.size)⟩
          have u4 : tb (0 ≤ x.user ∧ x.user ≤ 1) = true := tb_true h
          have Hu4 := hide h
          clear h
          have HZ := hide (show true = tb x.FormG from (tb_true ⟨⟨H1.out, Ht2.out, Ht3.out, Ht4.out, HOPS.out, HEh.out, HEr.out, H7L.out, HLq.out, HLp.out, by have := HLo.out; omega, HSH.out, HFI.out, Hu1.out, Hu2.out, Hu3.out, Hu4.out⟩, HLg.out⟩).symm)
          go_wp2_with (first | (go_at_call 67; refine (l6In_any _ _ _ _).mono ?_; rintro e wq ⟨rfl, rfl⟩) | fail)
          go_ret
          exact ⟨ret_bool HZ.out, HB2.out.trans (HBR.out.mono HB2.out.size)⟩
end Go.Proofs.Ytpkjjfnfolbcoaa
set_option linter.unusedVariables false
set_option linter.unusedSimpArgs false
namespace Go.Proofs.Ytpkjjfnfolbcoaa
open Go.ChangeShapes Go.WideShapes Go.ChangeAt Go.RowKit

section
variable {P : Program} {ops : Array Oper} {rest : List Oper} {o : Oper} {a : Act} {w : World} {Q : Exit → Act → World → Prop}
/-- a whole row is loaded, where the guard asks for it -/
theorem wpl_load_row_g (hw : Region.wanted o (yielded ops a.tmps) = true) (ty : TypeId) (x : Operand) (ho : o.op = .load ty x)
    (g : Nat) (hx : a.eval x = .pointer (some ⟨g, 0, none⟩)) (t : TypeId) (cs : Array Value) (fr : Nat × Nat) (d : TypeDesc) (hg : w.heap[g]? = some (.cells cs t fr))
    (hu : P.underlying ty = some d) (hd : (match d with | .struct _ | .array _ _ => true | _ => false) = true) (hi : (P.info? ty).map (·.size) = some cs.size)
    (h : wpList P ops Q rest (a.put o.dst (.agg cs)) w) : wpList P ops Q (o :: rest) a w :=
  wpList_step fun K hK => by
    simp only [hw, if_true]
    exact wp_load_row ty x ho g hx t cs fr d hg hu hd hi (hK _ _ h)
/-- a value is moved, and behind it a whole row is loaded, where the guard asks for it -/
theorem wpl_move_load_row {o1 o2 : Oper} (h1 : o1.guard = none) (x1 : Operand) (v1 : Value) (ho1 : o1.op = .move x1) (hv1 : a.eval x1 = v1) (hw : Region.wanted o2 (yielded ops (a.put o1.dst v1).tmps) = true) (ty : TypeId) (x : Operand) (ho : o2.op = .load ty x)
    (g : Nat) (hx : (a.put o1.dst v1).eval x = .pointer (some ⟨g, 0, none⟩)) (t : TypeId) (cs : Array Value) (fr : Nat × Nat) (d : TypeDesc) (hg : w.heap[g]? = some (.cells cs t fr))
    (hu : P.underlying ty = some d) (hd : (match d with | .struct _ | .array _ _ => true | _ => false) = true) (hi : (P.info? ty).map (·.size) = some cs.size)
    (h : wpList P ops Q rest ((a.put o1.dst v1).put o2.dst (.agg cs)) w) : wpList P ops Q (o1 :: o2 :: rest) a w :=
  wpList_plain h1 fun K hK => by
    have hq := hK _ _ (wpl_load_row_g hw ty x ho g hx t cs fr d hg hu hd hi h)
    subst hv1
    unfold Oper.wp execOp
    simpa [ho1, Oper.upon] using hq
end
theorem bit_eq {a b c : Int} (h : 0 ≤ a ∧ a ≤ 1) : ((a == 1) == (b == c)) = tb (a = bitP (b = c)) := by
  obtain rfl | rfl : a = 0 ∨ a = 1 := by omega
  all_goals
    by_cases hb : b = c
    · unfold bitP
      rw [if_pos hb]
      first | (rw [tb_false (by omega)]; simp [hb]) | (rw [tb_true rfl]; simp [hb])
    · unfold bitP
      rw [if_neg hb]
      first | (rw [tb_false (by omega)]; simp [hb]) | (rw [tb_true rfl]; simp [hb])
theorem beqf {a b : Int} (h : ¬ a = b) : (a == b) = false := beq_eq_false_iff_ne.2 h
theorem beqt {a b : Int} (h : a = b) : (a == b) = true := by simpa using h
theorem bnet {a b : Int} (h : ¬ a = b) : (a != b) = true := by simpa using h
theorem bnef {a b : Int} (h : a = b) : (a != b) = false := by simpa using h
end Go.Proofs.Ytpkjjfnfolbcoaa
