/-
  The jobs that are read and not given: the program.
-/
import Derived.Test.YtpkjjfnfolbcoaaCrewI1
import Derived.Test.YtpkjjfnfolbcoaaConc
set_option linter.unusedVariables false
set_option linter.unusedSimpArgs false
namespace Go.Proofs.Ytpkjjfnfolbcoaa
open Go.ChangeShapes Go.WideShapes Go.ChangeAt Go.RowKit

set_option maxRecDepth 100000 in
set_option maxHeartbeats 4000000 in
theorem implWay_any (x : CrewWorld) (us : List Value) (fp : List Nat) (b : Nat) (w : World) (hb : Row w b 30 us) (ho : OwC w x.cells us fp) (hf : Lt fp w.heap.size) (hfm : x.Form) :
    Calls Try.prog 154 #[.pointer (some ⟨b, 0, none⟩)] w fun e w' => ∃ A n c us, e = .returned (.slice A n c) ∧ Pl w.heap.size w w' (.slice A n c) x.way us := by
  have HFM := hide hfm
  clear hfm
  have HO := hide ho
  have HF := hide hf
  obtain ⟨A1, c1, A2, c2, A3, c3, A4, c4, A5, c5, A6, c6, A7, c7, f1, f2, f3, f4, f5, f6, f7, rfl, wjobs, wworkers, wwindow, wnext, wreader, o1, o2, wcloser, o3, wkeeper, o4, wdue, o5, wuser, o6, wroom, o7, wops, rfl⟩ := ho.oCrewWorld
  have O1 := hide o1
  have l1 := hf.left
  obtain ⟨-, n1, m1⟩ := o1.nlen
  unfold maxLen at m1
  have O2 := hide o2
  have l2 := hf.right.left
  obtain ⟨-, n2, m2⟩ := o2.nlen
  unfold maxLen at m2
  have O3 := hide o3
  have l3 := hf.right.right.left
  obtain ⟨-, n3, m3⟩ := o3.nlen
  unfold maxLen at m3
  have O4 := hide o4
  have l4 := hf.right.right.right.left
  obtain ⟨-, n4, m4⟩ := o4.nlen
  unfold maxLen at m4
  have HX := hide hb
  clear ho hb o1 o2 o3 o4 o5 o6 o7
  have x3 := HX.out.cell 3
  have x4 := HX.out.cell 4
  have x5 := HX.out.cell 5
  have x6 := HX.out.cell 6
  have x8 := HX.out.cell 8
  have x10 := HX.out.cell 10
  have xl := HX.out.lt
  go_enter Try.func154, Try.ntmps154
  have hq8 : x.queue.length ≤ 8 := by have := HFM.out.queue; have := HFM.out.start.2.1; omega
  have hr8 : x.results.length ≤ 8 := by have := HFM.out.results; have := HFM.out.start.2.1; omega
  have hh8 : x.hands.length ≤ 8 := by have := HFM.out.hands; have := HFM.out.start.2.1; omega
  have hr16 : x.ring.length ≤ 16 := by have := HFM.out.ring; have := HFM.out.start.2.2; omega
  obtain ⟨ia, hia, ja0, ja1, ja2⟩ := info_parts info_int
  have HIa := hide hia
  clear hia
  have HCON := hide (show Calls Try.prog 177 #[.slice (some ⟨w.heap.size, 0, none⟩) 2 2] ((w.alloc (.cells #[.slice A1 x.queue.length c1, .slice A3 x.results.length c3] 22)).drew) (fun e w' => ∃ A n c us, e = .returned (.slice A n c) ∧ Pl w.heap.size w w' (.slice A n c) (x.queue ++ x.results) us) from by
    have hb2 : Below w.heap.size w ((w.alloc (.cells #[.slice A1 x.queue.length c1, .slice A3 x.results.length c3] 22)).drew) := below_drewN ((Below.refl _ _).alloc (Nat.le_refl _) _) 1
    have hs := hb2.size
    have hr : Row ((w.alloc (.cells #[.slice A1 x.queue.length c1, .slice A3 x.results.length c3] 22)).drew) w.heap.size 22 [.slice A1 x.queue.length c1, .slice A3 x.results.length c3] := Row.new w _ _
    refine (concat2_any x.queue x.results A1 A3 c1 c3 _ _ w.heap.size 22 _ hr (O1.out.below hb2 l1) (O3.out.below hb2 l3) (l1.up hb2) (l3.up hb2) (by omega) (by omega)).mono ?_
    rintro e w' ⟨A, n, c, us, rfl, hp⟩
    exact ⟨A, n, c, us, rfl, Pl.from hp hb2 hs⟩)
  have HSS := hide (fun (W : World) (hb : Below w.heap.size w W) => show W.cell? ⟨b, 5, none⟩ = some (.slice A1 x.queue.length c1) ∧ W.cell? ⟨b, 8, none⟩ = some (.slice A3 x.results.length c3) from by
    have h := HX.out.below hb HX.out.lt
    exact ⟨h.cell 5, h.cell 8⟩)
  go_upto_region 1 with fail
  go_cut [3] from 8 to 18 (fun t wx => ∃ A n c us, t = .slice A n c ∧ Pl w.heap.size w wx (.slice A n c) (x.queue ++ x.results) us)
  case first =>
    go_wp2_with fail
    go_region_held3 (fun W => W.cell? ⟨b, 5, none⟩ = some (.slice A1 x.queue.length c1) ∧ W.cell? ⟨b, 8, none⟩ = some (.slice A3 x.results.length c3))
      (first | exact HSS.out _ (below_drewN (Below.refl _ _) 1) | exact HSS.out _ ((Below.refl _ _).alloc (Nat.le_refl _) _) | exact HSS.out _ (below_drewN ((Below.refl _ _).alloc (Nat.le_refl _) _) 1) | exact HSS.out _ hp3.fr)
      (first | (go_at_call 177; refine HCON.out.mono ?_; rintro e w3 ⟨A3', n3, d3, us3, rfl, hp3⟩))
    all_goals
      go_wp2_with fail
      go_meet
      exact ⟨_, _, _, _, rfl, hp3⟩
  obtain ⟨E0, e0, d0, us0, rfl, hp0⟩ := hcut
  obtain ⟨w2, rfl⟩ : ∃ W, W = wc := ⟨_, rfl⟩
  have HP0 := hide hp0
  clear hp0 HCON
  obtain ⟨L0, hL0⟩ : ∃ L0, L0 = x.queue ++ x.results := ⟨_, rfl⟩
  rw [← hL0] at HP0
  have HL0 := hide hL0
  have hl0l : L0.length ≤ 16 := by rw [hL0]; simp; omega
  clear hL0 x5 x8
  have HX2 := hide (HX.out.below HP0.out.fr HX.out.lt)
  clear x3 x4 x6 x10 xl
  have x3 := HX2.out.cell 3
  have x4 := HX2.out.cell 4
  have xl := HX2.out.lt
  by_cases hrd : x.reader = 1
  · have hn1 : IntKind.i64.wrap (x.next - 1) = x.next - 1 := by have := HFM.out.next; have := HFM.out.start.1; exact wrapI _ (by omega) (by omega)
    have hn2 : wrap64 (x.next - 1) = x.next - 1 := by have := HFM.out.next; have := HFM.out.start.1; unfold wrap64; omega
    have hnw : (Lit.int .i64 (x.next - 1)).wf = true := by have := HFM.out.next; have := HFM.out.start.1; exact WalkArith.wf_i64 (by omega)
    have hnb : -9223372036854775808 ≤ x.next - 1 ∧ x.next - 1 ≤ 9223372036854775807 := by have := HFM.out.next; have := HFM.out.start.1; omega
    have HSENT := hide (show x.sent = [x.next - 1] from by unfold CrewWorld.sent; rw [if_pos hrd])
    have rd := beqt' hrd
    have HPA := hide (HP0.out.alloc (.cells #[.int .i64 (x.next - 1)] 3))
    have HSRC := hide (show SrcAt (w2.alloc (.cells #[.int .i64 (x.next - 1)] 3)) [.int .i64 (x.next - 1)] (some ⟨w2.heap.size, 0, none⟩) 1 1 from SrcAt.new w2 [.int .i64 (x.next - 1)] 3 1 1)
    clear hrd
    go_wp2_with (first | (at_builtin; refine wpl_app rfl _ _ 22 rfl ia _ 8 Try.underlying22 HIa.out ja0 ja1 ja2 rfl (by decide) intC_len rfl HPA.out.own [x.next - 1] (int_src (x.next - 1) hnw _) (by exact New.nil _ _) (fun q _ hq => by cases hq) _ _ _ rfl rfl HSRC.out (by first | omega | (simp only [List.length_append, List.length_take, List.length_singleton, List.length_nil, List.length_cons]; omega)) (by decide) HPA.out.sz ?_; intro w5A w5n w5c w5 hn5 hown5 hgb5; have HP1 := hide (HPA.out.put hgb5 hown5); clear hown5 hgb5 hn5; have x6 := (HX.out.below HP1.out.fr HX.out.lt).cell 6; have xl6 := (HX.out.below HP1.out.fr HX.out.lt).lt) | fail)
    obtain ⟨L1, hL1⟩ : ∃ L1, L1 = (L0 ++ [x.next - 1]) := ⟨_, rfl⟩
    rw [← hL1] at HP1
    have HL1 := hide hL1
    have hl1l : L1.length ≤ 17 := by rw [hL1]; first | omega | (simp; omega)
    clear hL1 x3 x4 xl
    go_loopw [3, 36] (fun s i wr => ∃ (j : Nat) (E : Option Addr) (en ec : Nat) (ue : List Value), i = .int .i64 j ∧ j ≤ x.hands.length ∧ s = .slice E en ec ∧ Pl w.heap.size w wr (.slice E en ec) (L1 ++ handJobs (x.hands.take j)) ue) (fun _ i _ => x.hands.length - (intOf i).toNat)
    case atStart => exact ⟨0, _, _, _, _, rfl, Nat.zero_le _, rfl, HP1.out.same (by simp [handJobs])⟩
    case round =>
      obtain ⟨j, E, en, ec, ue, rfl, hj, rfl, hp⟩ := hrel
      have HPR := hide hp
      have HXR := hide (HX.out.below hp.fr HX.out.lt)
      have HHR := hide (O2.out.below hp.fr l2)
      have hwr : w.heap.size ≤ wr.heap.size := hp.sz
      have hjl : (handJobs (x.hands.take j)).length ≤ 8 := Nat.le_trans (handJobs_len _) (by rw [List.length_take]; omega)
      clear hp HP1 x6
      have xl := HXR.out.lt
      by_cases hlt : j < x.hands.length
      · have hji : (j : Int) < (x.hands.length : Int) := by omega
        obtain ⟨g, off, ws, fi, rfl, hg, hfi, hwl, hcs, hov⟩ := HHR.out.elem CrewHand.cells_len hlt
        have hgl : g < w.heap.size := l2 g hg
        have hgw : g < wr.heap.size := by omega
        obtain ⟨rfl, -, wjob, -⟩ := hov.oCrewHand
        have p0 := hcs 0 _ rfl
        have p1 := hcs 1 _ rfl
        simp only [Nat.add_zero] at p0
        have HSN := hide (handJobs_snoc x.hands j hlt)
        clear hcs hov
        generalize x.hands[j] = y at *
        have HBZ := hide (busy_eq y)
        have HPB := hide (HPR.out.alloc (.cells #[.int .i64 y.state, .int .i64 y.job] 88))
        by_cases hb : y.state = 1 ∨ y.state = 2
        · have HS2 := hide (show (L1 ++ handJobs (x.hands.take j)) ++ [y.job] = L1 ++ handJobs (x.hands.take (j + 1)) from by rw [HSN.out, if_pos (HBZ.out.2 hb), List.append_assoc])
          have HPA := hide (HPB.out.alloc (.cells #[.int .i64 y.job] 3))
          have HSR := hide (show SrcAt ((wr.alloc (.cells #[.int .i64 y.state, .int .i64 y.job] 88)).alloc (.cells #[.int .i64 y.job] 3)) [.int .i64 y.job] (some ⟨wr.heap.size + 1, 0, none⟩) 1 1 from by have h := SrcAt.new (wr.alloc (.cells #[.int .i64 y.state, .int .i64 y.job] 88)) [.int .i64 y.job] 3 1 1; rw [World.size_alloc] at h; exact h)
          by_cases h1 : y.state = 1
          case' pos => have e1 := beqt' h1
          case' neg => have e1 := beqf' h1
          case' neg => have e2 := beqt' (hb.resolve_left h1)
          all_goals
            clear hb h1
            go_wp2_with (first | (at_builtin; refine wpl_app rfl _ _ 22 rfl ia _ 8 Try.underlying22 HIa.out ja0 ja1 ja2 rfl (by decide) intC_len rfl HPA.out.own [y.job] (int_src y.job wjob _) (by exact New.nil _ _) (fun q _ hq => by cases hq) _ _ _ rfl rfl HSR.out (by first | omega | (simp only [List.length_append, List.length_take, List.length_singleton, List.length_nil, List.length_cons]; omega)) (by decide) HPA.out.sz ?_; intro w5A w5n w5c w5 hn5 hown5 hgb5; have HP5 := hide (HPA.out.put hgb5 hown5); clear hown5 hgb5 hn5) | fail)
            go_roundw
            case rel => exact ⟨j + 1, _, _, _, _, by go_num, by omega, rfl, HP5.out.same HS2.out⟩
            case measure => simp [intOf]; omega
        · have h1 : ¬ (y.state = 1) := fun h => hb (.inl h)
          have h2 : ¬ (y.state = 2) := fun h => hb (.inr h)
          have d1 : decide (y.state = 1) = false := by simpa using h1
          have d2 : decide (y.state = 2) = false := by simpa using h2
          have e1 : (y.state == 1) = false := by simpa using h1
          have e2 : (y.state == 2) = false := by simpa using h2
          have HS2 := hide (show L1 ++ handJobs (x.hands.take j) = L1 ++ handJobs (x.hands.take (j + 1)) from by rw [HSN.out, if_neg (fun h => hb (HBZ.out.1 h)), List.append_nil])
          clear hb
          go_wp2
          go_roundw
          case rel => exact ⟨j + 1, _, _, _, _, by go_num, by omega, rfl, HPB.out.same HS2.out⟩
          case measure => simp [intOf]; omega
      · obtain rfl : j = x.hands.length := by omega
        have hji : ¬ ((x.hands.length : Int) < (x.hands.length : Int)) := by omega
        obtain ⟨w3, rfl⟩ : ∃ W, W = wr := ⟨_, rfl⟩
        rw [List.take_length] at HPR hjl
        obtain ⟨L2, hL2⟩ : ∃ L2, L2 = L1 ++ handJobs x.hands := ⟨_, rfl⟩
        rw [← hL2] at HPR
        have HL2 := hide hL2
        have hl2l : L2.length ≤ 25 := by rw [hL2]; simp only [List.length_append]; omega
        clear hL2 HHR
        have x10 := HXR.out.cell 10
        go_wp2_with fail
        go_loopw [3, 59] (fun s i wr => ∃ (j : Nat) (E : Option Addr) (en ec : Nat) (ue : List Value), i = .int .i64 j ∧ j ≤ x.ring.length ∧ s = .slice E en ec ∧ Pl w.heap.size w wr (.slice E en ec) (L2 ++ (x.ring.take j).filter (fun j => decide (j ≠ -1))) ue) (fun _ i _ => x.ring.length - (intOf i).toNat)
        case atStart => exact ⟨0, _, _, _, _, rfl, Nat.zero_le _, rfl, HPR.out.same (by simp)⟩
        case round =>
          obtain ⟨i, E, en, ec, ue, rfl, hi, rfl, hp⟩ := hrel
          clear HXR x10 xl
          have HQR := hide hp
          have HRR := hide (O4.out.below hp.fr l4)
          have hwr2 : w.heap.size ≤ wr.heap.size := hp.sz
          have hfl : ((x.ring.take i).filter (fun j => decide (j ≠ -1))).length ≤ 16 := Nat.le_trans (List.length_filter_le _ _) (by rw [List.length_take]; omega)
          clear hp HPR
          by_cases hlt : i < x.ring.length
          · have hii : (i : Int) < (x.ring.length : Int) := by omega
            obtain ⟨g, off, rfl, hg, hcell, wz⟩ := ints_at HRR.out hlt
            have hgl : g < w.heap.size := l4 g hg
            have hgw : g < wr.heap.size := by omega
            have HSN := hide (filter_snoc (fun j => decide (j ≠ (-1 : Int))) x.ring i hlt)
            generalize x.ring[i] = y at *
            generalize hFL : (x.ring.take i).filter (fun j => decide (j ≠ (-1 : Int))) = fl at *
            clear hFL
            by_cases hy : y = -1
            · have HS2 := hide (show L2 ++ fl = L2 ++ (x.ring.take (i + 1)).filter (fun j => decide (j ≠ -1)) from by rw [HSN.out, if_neg (by simpa using hy), List.append_nil])
              subst hy
              go_wp2
              go_roundw
              case rel => exact ⟨i + 1, _, _, _, _, by go_num, by omega, rfl, HQR.out.same HS2.out⟩
              case measure => simp [intOf]; omega
            · have HS2 := hide (show (L2 ++ fl) ++ [y] = L2 ++ (x.ring.take (i + 1)).filter (fun j => decide (j ≠ -1)) from by rw [HSN.out, if_pos (by simpa using hy), List.append_assoc])
              have HPA := hide (HQR.out.alloc (.cells #[.int .i64 y] 3))
              have ey := bnet' hy
              have ez := beqf' hy
              clear hy
              go_wp2_with (first | (at_builtin; refine wpl_app rfl _ _ 22 rfl ia _ 8 Try.underlying22 HIa.out ja0 ja1 ja2 rfl (by decide) intC_len rfl HPA.out.own [y] (int_src y wz _) (by exact New.nil _ _) (fun q _ hq => by cases hq) _ _ _ rfl rfl (SrcAt.new wr _ _ _ _) (by first | omega | (simp only [List.length_append, List.length_take, List.length_singleton, List.length_nil, List.length_cons]; omega)) (by decide) HPA.out.sz ?_; intro w5A w5n w5c w5 hn5 hown5 hgb5; have HP5 := hide (HPA.out.put hgb5 hown5); clear hown5 hgb5 hn5) | fail)
              go_roundw
              case rel => exact ⟨i + 1, _, _, _, _, by go_num, by omega, rfl, HP5.out.same HS2.out⟩
              case measure => simp [intOf]; omega
          · obtain rfl : i = x.ring.length := by omega
            have hii : ¬ ((x.ring.length : Int) < (x.ring.length : Int)) := by omega
            have HV := hide (show L2 ++ (x.ring.take x.ring.length).filter (fun j => decide (j ≠ -1)) = x.way from by
              rw [List.take_length, HL2.out, HL1.out, HL0.out]
              unfold CrewWorld.way
              rw [HSENT.out]
              try simp only [List.append_nil])
            go_wp2
            go_ret
            first | exact ⟨_, _, _, _, rfl, HQR.out.same HV.out⟩ | exact ⟨_, _, _, rfl, _, HQR.out.same HV.out⟩
  · have HSENT := hide (show x.sent = [] from by unfold CrewWorld.sent; rw [if_neg hrd])
    have rd := beqf' hrd
    have x6 := HX2.out.cell 6
    clear hrd
    go_wp2_with fail
    obtain ⟨L1, hL1⟩ : ∃ L1, L1 = L0 := ⟨_, rfl⟩
    rw [← hL1] at HP0
    have HL1 := hide hL1
    have hl1l : L1.length ≤ 17 := by rw [hL1]; first | omega | (simp; omega)
    clear hL1 x3 x4 xl
    go_loopw [3, 36] (fun s i wr => ∃ (j : Nat) (E : Option Addr) (en ec : Nat) (ue : List Value), i = .int .i64 j ∧ j ≤ x.hands.length ∧ s = .slice E en ec ∧ Pl w.heap.size w wr (.slice E en ec) (L1 ++ handJobs (x.hands.take j)) ue) (fun _ i _ => x.hands.length - (intOf i).toNat)
    case atStart => exact ⟨0, _, _, _, _, rfl, Nat.zero_le _, rfl, HP0.out.same (by simp [handJobs])⟩
    case round =>
      obtain ⟨j, E, en, ec, ue, rfl, hj, rfl, hp⟩ := hrel
      have HPR := hide hp
      have HXR := hide (HX.out.below hp.fr HX.out.lt)
      have HHR := hide (O2.out.below hp.fr l2)
      have hwr : w.heap.size ≤ wr.heap.size := hp.sz
      have hjl : (handJobs (x.hands.take j)).length ≤ 8 := Nat.le_trans (handJobs_len _) (by rw [List.length_take]; omega)
      clear hp HP0 x6
      have xl := HXR.out.lt
      by_cases hlt : j < x.hands.length
      · have hji : (j : Int) < (x.hands.length : Int) := by omega
        obtain ⟨g, off, ws, fi, rfl, hg, hfi, hwl, hcs, hov⟩ := HHR.out.elem CrewHand.cells_len hlt
        have hgl : g < w.heap.size := l2 g hg
        have hgw : g < wr.heap.size := by omega
        obtain ⟨rfl, -, wjob, -⟩ := hov.oCrewHand
        have p0 := hcs 0 _ rfl
        have p1 := hcs 1 _ rfl
        simp only [Nat.add_zero] at p0
        have HSN := hide (handJobs_snoc x.hands j hlt)
        clear hcs hov
        generalize x.hands[j] = y at *
        have HBZ := hide (busy_eq y)
        have HPB := hide (HPR.out.alloc (.cells #[.int .i64 y.state, .int .i64 y.job] 88))
        by_cases hb : y.state = 1 ∨ y.state = 2
        · have HS2 := hide (show (L1 ++ handJobs (x.hands.take j)) ++ [y.job] = L1 ++ handJobs (x.hands.take (j + 1)) from by rw [HSN.out, if_pos (HBZ.out.2 hb), List.append_assoc])
          have HPA := hide (HPB.out.alloc (.cells #[.int .i64 y.job] 3))
          have HSR := hide (show SrcAt ((wr.alloc (.cells #[.int .i64 y.state, .int .i64 y.job] 88)).alloc (.cells #[.int .i64 y.job] 3)) [.int .i64 y.job] (some ⟨wr.heap.size + 1, 0, none⟩) 1 1 from by have h := SrcAt.new (wr.alloc (.cells #[.int .i64 y.state, .int .i64 y.job] 88)) [.int .i64 y.job] 3 1 1; rw [World.size_alloc] at h; exact h)
          by_cases h1 : y.state = 1
          case' pos => have e1 := beqt' h1
          case' neg => have e1 := beqf' h1
          case' neg => have e2 := beqt' (hb.resolve_left h1)
          all_goals
            clear hb h1
            go_wp2_with (first | (at_builtin; refine wpl_app rfl _ _ 22 rfl ia _ 8 Try.underlying22 HIa.out ja0 ja1 ja2 rfl (by decide) intC_len rfl HPA.out.own [y.job] (int_src y.job wjob _) (by exact New.nil _ _) (fun q _ hq => by cases hq) _ _ _ rfl rfl HSR.out (by first | omega | (simp only [List.length_append, List.length_take, List.length_singleton, List.length_nil, List.length_cons]; omega)) (by decide) HPA.out.sz ?_; intro w5A w5n w5c w5 hn5 hown5 hgb5; have HP5 := hide (HPA.out.put hgb5 hown5); clear hown5 hgb5 hn5) | fail)
            go_roundw
            case rel => exact ⟨j + 1, _, _, _, _, by go_num, by omega, rfl, HP5.out.same HS2.out⟩
            case measure => simp [intOf]; omega
        · have h1 : ¬ (y.state = 1) := fun h => hb (.inl h)
          have h2 : ¬ (y.state = 2) := fun h => hb (.inr h)
          have d1 : decide (y.state = 1) = false := by simpa using h1
          have d2 : decide (y.state = 2) = false := by simpa using h2
          have e1 : (y.state == 1) = false := by simpa using h1
          have e2 : (y.state == 2) = false := by simpa using h2
          have HS2 := hide (show L1 ++ handJobs (x.hands.take j) = L1 ++ handJobs (x.hands.take (j + 1)) from by rw [HSN.out, if_neg (fun h => hb (HBZ.out.1 h)), List.append_nil])
          clear hb
          go_wp2
          go_roundw
          case rel => exact ⟨j + 1, _, _, _, _, by go_num, by omega, rfl, HPB.out.same HS2.out⟩
          case measure => simp [intOf]; omega
      · obtain rfl : j = x.hands.length := by omega
        have hji : ¬ ((x.hands.length : Int) < (x.hands.length : Int)) := by omega
        obtain ⟨w3, rfl⟩ : ∃ W, W = wr := ⟨_, rfl⟩
        rw [List.take_length] at HPR hjl
        obtain ⟨L2, hL2⟩ : ∃ L2, L2 = L1 ++ handJobs x.hands := ⟨_, rfl⟩
        rw [← hL2] at HPR
        have HL2 := hide hL2
        have hl2l : L2.length ≤ 25 := by rw [hL2]; simp only [List.length_append]; omega
        clear hL2 HHR
        have x10 := HXR.out.cell 10
        go_wp2_with fail
        go_loopw [3, 59] (fun s i wr => ∃ (j : Nat) (E : Option Addr) (en ec : Nat) (ue : List Value), i = .int .i64 j ∧ j ≤ x.ring.length ∧ s = .slice E en ec ∧ Pl w.heap.size w wr (.slice E en ec) (L2 ++ (x.ring.take j).filter (fun j => decide (j ≠ -1))) ue) (fun _ i _ => x.ring.length - (intOf i).toNat)
        case atStart => exact ⟨0, _, _, _, _, rfl, Nat.zero_le _, rfl, HPR.out.same (by simp)⟩
        case round =>
          obtain ⟨i, E, en, ec, ue, rfl, hi, rfl, hp⟩ := hrel
          clear HXR x10 xl
          have HQR := hide hp
          have HRR := hide (O4.out.below hp.fr l4)
          have hwr2 : w.heap.size ≤ wr.heap.size := hp.sz
          have hfl : ((x.ring.take i).filter (fun j => decide (j ≠ -1))).length ≤ 16 := Nat.le_trans (List.length_filter_le _ _) (by rw [List.length_take]; omega)
          clear hp HPR
          by_cases hlt : i < x.ring.length
          · have hii : (i : Int) < (x.ring.length : Int) := by omega
            obtain ⟨g, off, rfl, hg, hcell, wz⟩ := ints_at HRR.out hlt
            have hgl : g < w.heap.size := l4 g hg
            have hgw : g < wr.heap.size := by omega
            have HSN := hide (filter_snoc (fun j => decide (j ≠ (-1 : Int))) x.ring i hlt)
            generalize x.ring[i] = y at *
            generalize hFL : (x.ring.take i).filter (fun j => decide (j ≠ (-1 : Int))) = fl at *
            clear hFL
            by_cases hy : y = -1
            · have HS2 := hide (show L2 ++ fl = L2 ++ (x.ring.take (i + 1)).filter (fun j => decide (j ≠ -1)) from by rw [HSN.out, if_neg (by simpa using hy), List.append_nil])
              subst hy
              go_wp2
              go_roundw
              case rel => exact ⟨i + 1, _, _, _, _, by go_num, by omega, rfl, HQR.out.same HS2.out⟩
              case measure => simp [intOf]; omega
            · have HS2 := hide (show (L2 ++ fl) ++ [y] = L2 ++ (x.ring.take (i + 1)).filter (fun j => decide (j ≠ -1)) from by rw [HSN.out, if_pos (by simpa using hy), List.append_assoc])
              have HPA := hide (HQR.out.alloc (.cells #[.int .i64 y] 3))
              have ey := bnet' hy
              have ez := beqf' hy
              clear hy
              go_wp2_with (first | (at_builtin; refine wpl_app rfl _ _ 22 rfl ia _ 8 Try.underlying22 HIa.out ja0 ja1 ja2 rfl (by decide) intC_len rfl HPA.out.own [y] (int_src y wz _) (by exact New.nil _ _) (fun q _ hq => by cases hq) _ _ _ rfl rfl (SrcAt.new wr _ _ _ _) (by first | omega | (simp only [List.length_append, List.length_take, List.length_singleton, List.length_nil, List.length_cons]; omega)) (by decide) HPA.out.sz ?_; intro w5A w5n w5c w5 hn5 hown5 hgb5; have HP5 := hide (HPA.out.put hgb5 hown5); clear hown5 hgb5 hn5) | fail)
              go_roundw
              case rel => exact ⟨i + 1, _, _, _, _, by go_num, by omega, rfl, HP5.out.same HS2.out⟩
              case measure => simp [intOf]; omega
          · obtain rfl : i = x.ring.length := by omega
            have hii : ¬ ((x.ring.length : Int) < (x.ring.length : Int)) := by omega
            have HV := hide (show L2 ++ (x.ring.take x.ring.length).filter (fun j => decide (j ≠ -1)) = x.way from by
              rw [List.take_length, HL2.out, HL1.out, HL0.out]
              unfold CrewWorld.way
              rw [HSENT.out]
              try simp only [List.append_nil])
            go_wp2
            go_ret
            first | exact ⟨_, _, _, _, rfl, HQR.out.same HV.out⟩ | exact ⟨_, _, _, rfl, _, HQR.out.same HV.out⟩
end Go.Proofs.Ytpkjjfnfolbcoaa
