/-
  CrewStart of the reference.
-/
import Derived.Test.YtpkjjfnfolbcoaaQStart
set_option linter.unusedVariables false
set_option linter.unusedSimpArgs false
namespace Go.Proofs.Ytpkjjfnfolbcoaa
open Go.ChangeShapes Go.WideShapes Go.ChangeAt Go.RowKit

theorem info_CrewHand' : (Try.prog.info? 88).map (fun i => (i.zero, i.size, i.bytes)) = some (some (.agg #[.int .i64 0, .int .i64 0]), 2, 16) := by kernel_rfl
set_option maxRecDepth 100000 in
set_option maxHeartbeats 2000000 in
theorem specCrewStart_yes (n0 n1 n2 : Int) (w : World) (hok : crewOk n0 n1 n2) :
    Calls Try.prog 22 #[.int .i64 n0, .int .i64 n1, .int .i64 n2] w (StartRet n0 n1 n2 w) := by
    have HK := hide hok
    obtain ⟨k0, k1, k2⟩ := hok
    obtain ⟨m1, rfl⟩ := Int.eq_ofNat_of_zero_le (show 0 ≤ n1 by omega)
    obtain ⟨m2, rfl⟩ := Int.eq_ofNat_of_zero_le (show 0 ≤ n2 by omega)
    obtain ⟨a, hia, ha0, ha1, ha2⟩ := info_parts info_CrewHand'
    obtain ⟨b, hib, hb0, hb1, hb2⟩ := info_parts info_int
    have HIa := hide hia
    have HIb := hide hib
    have HHS := hide (fun W => show OwC W ([(⟨0, 0⟩ : CrewHand)].flatMap CrewHand.cells) [.int .i64 0, .int .i64 0] [] from by rw [List.flatMap_singleton]; exact OwC.mCrewHand (x := ⟨0, 0⟩) wf0 wf0)
    have HRS1 := hide (fun W => show OwC W ([(-1 : Int)].flatMap intC) [.int .i64 (-1)] [] from ⟨[], [], ⟨rfl, show (Lit.int .i64 (-1)).wf = true by decide, rfl⟩, rfl, rfl⟩)
    clear hia hib
    have RZ : Row (((w.alloc (.cells zeroCells.toArray 30)).alloc (.cells #[.int .i64 0, .int .i64 0, .int .i64 0, .int .i64 0] 3)).alloc (.cells (startCells n0 (m1 : Int) (m2 : Int) (.slice none 0 0) (.slice none 0 0) (w.heap.size + 1)).toArray 30)) w.heap.size 30 zeroCells := ((Row.new w 30 zeroCells).alloc _).alloc _
    have RS : Row (((w.alloc (.cells zeroCells.toArray 30)).alloc (.cells #[.int .i64 0, .int .i64 0, .int .i64 0, .int .i64 0] 3)).alloc (.cells (startCells n0 (m1 : Int) (m2 : Int) (.slice none 0 0) (.slice none 0 0) (w.heap.size + 1)).toArray 30)) (w.heap.size + 1) 3 [.int .i64 0, .int .i64 0, .int .i64 0, .int .i64 0] := by
      have h := (Row.new (w.alloc (.cells zeroCells.toArray 30)) 3 [.int .i64 0, .int .i64 0, .int .i64 0, .int .i64 0]).alloc (.cells (startCells n0 (m1 : Int) (m2 : Int) (.slice none 0 0) (.slice none 0 0) (w.heap.size + 1)).toArray 30)
      rw [World.size_alloc] at h
      exact h
    have RB : Row (((w.alloc (.cells zeroCells.toArray 30)).alloc (.cells #[.int .i64 0, .int .i64 0, .int .i64 0, .int .i64 0] 3)).alloc (.cells (startCells n0 (m1 : Int) (m2 : Int) (.slice none 0 0) (.slice none 0 0) (w.heap.size + 1)).toArray 30)) (w.heap.size + 2) 30 (startCells n0 (m1 : Int) (m2 : Int) (.slice none 0 0) (.slice none 0 0) (w.heap.size + 1)) := by
      have h := Row.new ((w.alloc (.cells zeroCells.toArray 30)).alloc (.cells #[.int .i64 0, .int .i64 0, .int .i64 0, .int .i64 0] 3)) 30 (startCells n0 (m1 : Int) (m2 : Int) (.slice none 0 0) (.slice none 0 0) (w.heap.size + 1))
      rw [World.size_alloc, World.size_alloc] at h
      exact h
    have HZ0 := hide RZ
    have HS0 := hide RS
    have HT0 := hide (show Two (((w.alloc (.cells zeroCells.toArray 30)).alloc (.cells #[.int .i64 0, .int .i64 0, .int .i64 0, .int .i64 0] 3)).alloc (.cells (startCells n0 (m1 : Int) (m2 : Int) (.slice none 0 0) (.slice none 0 0) (w.heap.size + 1)).toArray 30)) (w.heap.size + 2) (w.heap.size + 3) 30 (fun a b => startCells n0 (m1 : Int) (m2 : Int) a b (w.heap.size + 1)) 88 2 CrewHand.cells (.slice none 0 0) [] [] [] 3 1 intC (.slice none 0 0) [] [] [] from ⟨RB, OwS.nil _ _ _ _ _, OwS.nil _ _ _ _ _, by omega, fun g h => (by cases h), fun g h => (by cases h), fun g h => (by cases h), fun g h => (by cases h)⟩)
    have HB0 := hide (show Below w.heap.size w (((w.alloc (.cells zeroCells.toArray 30)).alloc (.cells #[.int .i64 0, .int .i64 0, .int .i64 0, .int .i64 0] 3)).alloc (.cells (startCells n0 (m1 : Int) (m2 : Int) (.slice none 0 0) (.slice none 0 0) (w.heap.size + 1)).toArray 30)) from (((Below.refl _ w).alloc (Nat.le_refl _) _).alloc (by rw [World.size_alloc]; omega) _).alloc (by rw [World.size_alloc, World.size_alloc]; omega) _)
    clear RZ RS RB
    go_enter Try.func22, Try.ntmps22
    go_wp2_with fail
    refine (l6In_any _ _ _ _).mono ?_
    rintro e w_ ⟨rfl, rfl⟩
    rw [tb_true k0]
    go_wp2_with fail
    refine (l6In_any _ _ _ _).mono ?_
    rintro e w_ ⟨rfl, rfl⟩
    rw [tb_true k1]
    go_wp2_with fail
    refine (l6In_any _ _ _ _).mono ?_
    rintro e w_ ⟨rfl, rfl⟩
    rw [tb_true k2]
    go_wp2
    go_loopw [9] (fun i wr => ∃ (j : Nat) (A1 : Option Addr) (n1' c1 : Nat) (us1 : List Value), j ≤ m1 ∧ i = .int .i64 (j : Int) ∧ Two wr (w.heap.size + 2) (w.heap.size + 3) 30 (fun a b => startCells n0 (m1 : Int) (m2 : Int) a b (w.heap.size + 1)) 88 2 CrewHand.cells (.slice A1 n1' c1) (List.replicate j ⟨0, 0⟩) us1 [] 3 1 intC (.slice none 0 0) [] [] [] ∧ Below w.heap.size w wr ∧ Row wr w.heap.size 30 zeroCells ∧ Row wr (w.heap.size + 1) 3 [.int .i64 0, .int .i64 0, .int .i64 0, .int .i64 0]) (fun i _ => m1 - (intOf i).toNat)
    case atStart => exact ⟨0, none, 0, 0, [], Nat.zero_le _, rfl, HT0.out, HB0.out, HZ0.out, HS0.out⟩
    case round =>
      obtain ⟨j, A1, n1', c1, us1, hj, rfl, hT, hb, hrz, hrs⟩ := hrel
      have HB := hide hb
      have HRZ := hide hrz
      have HRS := hide hrs
      have hszA : w.heap.size + 3 ≤ wr.heap.size := by have := hT.box.lt; omega
      have tq : wr.cell? ⟨w.heap.size + 2, 6, none⟩ = some (.slice A1 n1' c1) := hT.box.cell 6
      have lt1 := hT.box.lt
      clear hb hrz hrs
      by_cases hlt : j < m1
      · have HT2 := hide (hT.alloc (.cells #[.int .i64 0, .int .i64 0] 88))
        have HSZ := hide (show w.heap.size + 3 ≤ (wr.alloc (.cells #[.int .i64 0, .int .i64 0] 88)).heap.size by rw [World.size_alloc]; omega)
        have hbt : ((j : Int) < (m1 : Int)) := by omega
        clear hT
        go_wp2_with (first | (at_builtin; refine wpl_app rfl _ _ 28 rfl a _ 16 Try.underlying28 HIa.out ha0 ha1 ha2 rfl (by decide) CrewHand.cells_len rfl HT2.out.one [(⟨0, 0⟩ : CrewHand)] (HHS.out _) (by exact New.nil _ _) (fun g _ hg => by cases hg) _ 1 1 rfl rfl (SrcAt.new wr _ _ _ _) (by rw [List.length_replicate]; omega) (by decide) HSZ.out ?_; intro A' n' c' w5 hn5 hown5 hgb5; have HG5 := hide hgb5; have HN5 := hide hown5; have r5 := HT2.out.row1 hgb5; have q5 : w5.cell? ⟨w.heap.size + 2, 6, none⟩ = some (.slice A1 n1' c1) := r5.cell 6; have f5 : w5.frozen? ⟨w.heap.size + 2, 6, none⟩ = false := r5.frozen 6; clear hown5 hgb5 r5 hn5))
        go_roundw
        case rel =>
          refine ⟨j + 1, A', n', c', us1 ++ [.int .i64 0, .int .i64 0], by omega, by go_num, ?_, ?_, ?_, ?_⟩
          · rw [List.replicate_succ']
            exact HT2.out.put1 HG5.out HN5.out 6 rfl (fun g hg => by cases hg)
          · exact HB.out.trans (((Below.refl _ wr).alloc (by omega) _).trans (HT2.out.frame1 HG5.out HSZ.out 6 _ (by omega)))
          · exact (HG5.out.row (HRZ.out.alloc _) (HT2.out.one.low (by omega))).far (by simp; try omega) _
          · exact (HG5.out.row (HRS.out.alloc _) (HT2.out.one.low (by omega))).far (by simp; try omega) _
        case measure => simp [intOf]; omega
      · obtain rfl : j = m1 := by omega
        obtain ⟨j_, rfl⟩ : ∃ j_, j_ = j := ⟨_, rfl⟩
        obtain ⟨Ah, nh, ch, uh, hAh⟩ : ∃ (Ah : Option Addr) (nh ch : Nat) (uh : List Value), Ah = A1 ∧ nh = n1' ∧ ch = c1 ∧ uh = us1 := ⟨_, _, _, _, rfl, rfl, rfl, rfl⟩
        obtain ⟨rfl, rfl, rfl, rfl⟩ := hAh
        have HTM := hide hT
        clear hT tq
        go_wp2
        go_loopw [10] (fun i wr => ∃ (j : Nat) (A1 : Option Addr) (n1' c1 : Nat) (us1 : List Value), j ≤ m2 ∧ i = .int .i64 (j : Int) ∧ Two wr (w.heap.size + 2) (w.heap.size + 3) 30 (fun a b => startCells n0 (j_ : Int) (m2 : Int) a b (w.heap.size + 1)) 88 2 CrewHand.cells (.slice Ah nh ch) (List.replicate j_ ⟨0, 0⟩) uh [] 3 1 intC (.slice A1 n1' c1) (List.replicate j (-1)) us1 [] ∧ Below w.heap.size w wr ∧ Row wr w.heap.size 30 zeroCells ∧ Row wr (w.heap.size + 1) 3 [.int .i64 0, .int .i64 0, .int .i64 0, .int .i64 0]) (fun i _ => m2 - (intOf i).toNat)
        case atStart => exact ⟨0, none, 0, 0, [], Nat.zero_le _, rfl, HTM.out, HB.out, HRZ.out, HRS.out⟩
        case round =>
          obtain ⟨j, A1, n1', c1, us1, hj, rfl, hT, hb, hrz, hrs⟩ := hrel
          have HB := hide hb
          have HRZ := hide hrz
          have HRS := hide hrs
          have hszA : w.heap.size + 3 ≤ wr.heap.size := by have := hT.box.lt; omega
          have tq : wr.cell? ⟨w.heap.size + 2, 10, none⟩ = some (.slice A1 n1' c1) := hT.box.cell 10
          have lt1 := hT.box.lt
          clear hb hrz hrs
          by_cases hlt : j < m2
          · have HT2 := hide (hT.alloc (.cells #[.int .i64 (-1)] 3))
            have HSZ := hide (show w.heap.size + 3 ≤ (wr.alloc (.cells #[.int .i64 (-1)] 3)).heap.size by rw [World.size_alloc]; omega)
            have hbt : ((j : Int) < (m2 : Int)) := by omega
            clear hT
            go_wp2_with (first | (at_builtin; refine wpl_app rfl _ _ 22 rfl b _ 8 Try.underlying22 HIb.out hb0 hb1 hb2 rfl (by decide) intC_len rfl HT2.out.two [(-1 : Int)] (HRS1.out _) (by exact New.nil _ _) (fun g _ hg => by cases hg) _ 1 1 rfl rfl (SrcAt.new wr _ _ _ _) (by rw [List.length_replicate]; omega) (by decide) HSZ.out ?_; intro A' n' c' w5 hn5 hown5 hgb5; have HG5 := hide hgb5; have HN5 := hide hown5; have r5 := HT2.out.row2 hgb5; have q5 : w5.cell? ⟨w.heap.size + 2, 10, none⟩ = some (.slice A1 n1' c1) := r5.cell 10; have f5 : w5.frozen? ⟨w.heap.size + 2, 10, none⟩ = false := r5.frozen 10; clear hown5 hgb5 r5 hn5))
            go_roundw
            case rel =>
              refine ⟨j + 1, A', n', c', us1 ++ [.int .i64 (-1)], by omega, by go_num, ?_, ?_, ?_, ?_⟩
              · rw [List.replicate_succ']
                exact HT2.out.put2 HG5.out HN5.out 10 rfl (fun g hg => by cases hg)
              · exact HB.out.trans (((Below.refl _ wr).alloc (by omega) _).trans (HT2.out.frame2 HG5.out HSZ.out 10 _ (by omega)))
              · exact (HG5.out.row (HRZ.out.alloc _) (HT2.out.two.low (by omega))).far (by simp; try omega) _
              · exact (HG5.out.row (HRS.out.alloc _) (HT2.out.two.low (by omega))).far (by simp; try omega) _
            case measure => simp [intOf]; omega
          · obtain rfl : j = m2 := by omega
            obtain ⟨p1, p2, o1, o2, hn⟩ := hT.toOw
            have HBX := hide hT.box
            have HN := hide hn
            have HX := hide (fun W (g1 : wr.grownBy W (some w.heap.size)) => start_ow HK.out (o1.grown g1 hn.lt.left (fun hm => absurd (hn.fr _ (List.mem_append_left _ hm)).1 (by omega))) (o2.grown g1 hn.lt.right (fun hm => absurd (hn.fr _ (List.mem_append_right _ hm)).1 (by omega))) (HRS.out.grown g1 (fun e => by injection e with e; omega)))
            have HNN := hide (show New wr (p1 ++ (p2 ++ [w.heap.size + 1])) w.heap.size from by
              refine ⟨?_, ?_, ?_⟩
              · refine ((hn.left.fr.mono (by omega) (Nat.le_refl _)).app ((hn.right.fr.mono (by omega) (Nat.le_refl _)).app ?_))
                exact (Fr.nil _ _).cons (by omega) HRS.out.lt
              · rw [← List.append_assoc]
                exact List.nodup_append.2 ⟨hn.nd, by simp, fun a ha b hb e => by
                  simp only [List.mem_singleton] at hb
                  have := (hn.fr a ha).1
                  omega⟩
              · intro g hg
                rw [← List.append_assoc] at hg
                rcases List.mem_append.1 hg with hg | hg
                · exact hn.uf g hg
                · simp only [List.mem_singleton] at hg
                  subst hg
                  exact Unf.row HRS.out)
            clear hT o1 o2 hn tq
            have lz := HRZ.out.lt
            go_wp2_with (first | (refine wpList_load_row rfl 30 _ rfl (w.heap.size + 2) rfl 30 (startCells n0 (j_ : Int) (j : Int) (.slice Ah nh ch) (.slice A1 n1' c1) (w.heap.size + 1)).toArray (0, 0) _ HBX.out Try.underlying30 rfl (by kernel_rfl) ?_) | (refine wpList_store_row rfl 30 _ _ rfl w.heap.size (startCells n0 (j_ : Int) (j : Int) (.slice Ah nh ch) (.slice A1 n1' c1) (w.heap.size + 1)).toArray rfl rfl 30 zeroCells.toArray HRZ.out (by kernel_rfl) (startCells_size _ _ _ _ _ _) (startCells_one _ _ _ _ _ _ _ _ _ _) ?_))
            refine bodyPost_ret (ret_row_tmp rfl _ _ w.heap.size 30 (startCells n0 (j_ : Int) (j : Int) (.slice Ah nh ch) (.slice A1 n1' c1) (w.heap.size + 1)) (HRZ.out.setRow' (startCells n0 (j_ : Int) (j : Int) (.slice Ah nh ch) (.slice A1 n1' c1) (w.heap.size + 1))) _ (.bool true) rfl rfl Try.underlying30 rfl (by kernel_rfl)) rfl ?_
            have HFIN := hide (fun W (g1 : wr.grownBy W (some w.heap.size)) => show New W (p1 ++ (p2 ++ [w.heap.size + 1])) w.heap.size ∧ Below w.heap.size w W from ⟨HNN.out.grown g1 (fun g e hm => by
              injection e with e
              subst e
              rw [← List.append_assoc] at hm
              rcases List.mem_append.1 hm with hm | hm
              · exact absurd (HN.out.fr _ hm).1 (by omega)
              · simp at hm), HB.out.trans (below_of_grown g1 (Nat.le_refl _) HB.out.size)⟩)
            refine ⟨_, _, by rw [tb_true HK.out], HX.out _ ?_, (HFIN.out _ ?_).1, (HFIN.out _ ?_).2⟩
            all_goals exact setRow_grown (grown_refl wr _) _
set_option maxRecDepth 100000 in
set_option maxHeartbeats 2000000 in
theorem specCrewStart_no (n0 n1 n2 : Int) (w : World) (hok : ¬ crewOk n0 n1 n2) :
    Calls Try.prog 22 #[.int .i64 n0, .int .i64 n1, .int .i64 n2] w (StartRet n0 n1 n2 w) := by
  · have hok' := hok
    have RZ : Row (w.alloc (.cells zeroCells.toArray 30)) w.heap.size 30 zeroCells := Row.new w _ _
    have HB := hide (show Below w.heap.size w (w.alloc (.cells zeroCells.toArray 30)) from (Below.refl _ _).alloc (Nat.le_refl _) _)
    by_cases k0 : 0 ≤ n0 ∧ n0 ≤ 60
    · by_cases k1 : 1 ≤ n1 ∧ n1 ≤ 8
      · have k2 : ¬ (1 ≤ n2 ∧ n2 ≤ 16) := fun h => hok ⟨k0, k1, h⟩
        go_enter Try.func22, Try.ntmps22
        go_wp2_with fail
        refine (l6In_any _ _ _ _).mono ?_
        rintro e w_ ⟨rfl, rfl⟩
        rw [tb_true k0]
        go_wp2_with fail
        refine (l6In_any _ _ _ _).mono ?_
        rintro e w_ ⟨rfl, rfl⟩
        rw [tb_true k1]
        go_wp2_with fail
        refine (l6In_any _ _ _ _).mono ?_
        rintro e w_ ⟨rfl, rfl⟩
        rw [tb_false k2]
        go_wp2
        refine bodyPost_ret (ret_row_tmp rfl _ _ w.heap.size 30 zeroCells (by first | exact RZ | exact RZ.setAll zeroCells rfl) _ (.bool false) rfl rfl Try.underlying30 rfl (by kernel_rfl)) rfl ?_
        exact ⟨_, [], by rw [tb_false hok], by rw [startOf_no hok]; exact none_ow _, New.nil _ _, by first | exact HB.out | exact (HB.out.trans (below_of_grown (w := w.alloc (.cells zeroCells.toArray 30)) (g := w.heap.size) (setN_grown zeroCells 0 (grown_refl _ _)) (Nat.le_refl _) HB.out.size))⟩
      · go_enter Try.func22, Try.ntmps22
        go_wp2_with fail
        refine (l6In_any _ _ _ _).mono ?_
        rintro e w_ ⟨rfl, rfl⟩
        rw [tb_true k0]
        go_wp2_with fail
        refine (l6In_any _ _ _ _).mono ?_
        rintro e w_ ⟨rfl, rfl⟩
        rw [tb_false k1]
        go_wp2
        refine bodyPost_ret (ret_row_tmp rfl _ _ w.heap.size 30 zeroCells (by first | exact RZ | exact RZ.setAll zeroCells rfl) _ (.bool false) rfl rfl Try.underlying30 rfl (by kernel_rfl)) rfl ?_
        exact ⟨_, [], by rw [tb_false hok], by rw [startOf_no hok]; exact none_ow _, New.nil _ _, by first | exact HB.out | exact (HB.out.trans (below_of_grown (w := w.alloc (.cells zeroCells.toArray 30)) (g := w.heap.size) (setN_grown zeroCells 0 (grown_refl _ _)) (Nat.le_refl _) HB.out.size))⟩
    · go_enter Try.func22, Try.ntmps22
      go_wp2_with fail
      refine (l6In_any _ _ _ _).mono ?_
      rintro e w_ ⟨rfl, rfl⟩
      rw [tb_false k0]
      go_wp2
      refine bodyPost_ret (ret_row_tmp rfl _ _ w.heap.size 30 zeroCells (by first | exact RZ | exact RZ.setAll zeroCells rfl) _ (.bool false) rfl rfl Try.underlying30 rfl (by kernel_rfl)) rfl ?_
      exact ⟨_, [], by rw [tb_false hok], by rw [startOf_no hok]; exact none_ow _, New.nil _ _, by first | exact HB.out | exact (HB.out.trans (below_of_grown (w := w.alloc (.cells zeroCells.toArray 30)) (g := w.heap.size) (setN_grown zeroCells 0 (grown_refl _ _)) (Nat.le_refl _) HB.out.size))⟩
theorem specCrewStart_any (n0 n1 n2 : Int) (w : World) (h0 : (Lit.int .i64 n0).wf = true) (h1 : (Lit.int .i64 n1).wf = true) (h2 : (Lit.int .i64 n2).wf = true) :
    Calls Try.prog 22 #[.int .i64 n0, .int .i64 n1, .int .i64 n2] w (StartRet n0 n1 n2 w) := by
  by_cases hok : crewOk n0 n1 n2
  · exact specCrewStart_yes n0 n1 n2 w hok
  · exact specCrewStart_no n0 n1 n2 w hok
end Go.Proofs.Ytpkjjfnfolbcoaa
