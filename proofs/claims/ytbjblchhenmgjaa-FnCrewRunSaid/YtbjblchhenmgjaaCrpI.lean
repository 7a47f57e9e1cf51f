/-
  CrewStart of the reference. slices.Repeat of one number, at most sixteen times.
-/
import Derived.Test.YtbjblchhenmgjaaCrpH
import Derived.Test.YtbjblchhenmgjaaCrpE
import Derived.Laws.CopyOwn
set_option linter.unusedVariables false
set_option linter.unusedSimpArgs false
namespace Go.Proofs.Ytbjblchhenmgjaa
open Go.ChangeShapes Go.WideShapes Go.ChangeAt Go.RowKit

theorem info_CrewHand' : (Try.prog.info? 153).map (fun i => (i.zero, i.size, i.bytes)) = some (some (.agg #[.int .i64 0, .int .i64 0]), 2, 16) := by kernel_rfl
set_option maxRecDepth 100000 in
set_option maxHeartbeats 2000000 in
theorem specCrewStart_yes (n0 n1 n2 : Int) (w : World) (hok : crewOk n0 n1 n2) :
    Calls Try.prog 52 #[.int .i64 n0, .int .i64 n1, .int .i64 n2] w (StartRet n0 n1 n2 w) := by
    have HK := hide hok
    obtain ⟨k0, k1, k2⟩ := hok
    obtain ⟨m1, rfl⟩ := Int.eq_ofNat_of_zero_le (show 0 ≤ n1 by omega)
    obtain ⟨m2, rfl⟩ := Int.eq_ofNat_of_zero_le (show 0 ≤ n2 by omega)
    obtain ⟨a, hia, ha0, ha1, ha2⟩ := info_parts info_CrewHand'
    obtain ⟨b, hib, hb0, hb1, hb2⟩ := info_parts info_int
    have HIa := hide hia
    have HIb := hide hib
    have HHS := hide (fun W => show OwC W ([(⟨0, 0⟩ : CrewHand)].flatMap CrewHand.cells) [.int .i64 0, .int .i64 0] [] from by rw [List.flatMap_singleton]; exact OwC.mCrewHand (x := ⟨0, 0⟩) wf0 wf0)
    have HRS1 := hide (fun W => show OwC W ([(-1 : Int)].flatMap intC) [.int .i64 (-1)] [] from ⟨[], [], ⟨rfl, show (Lit.int .i64 (-1)).wf = true by decide, rfl⟩, rfl, rfl⟩)
    clear hia hib
    have RZ : Row (((w.alloc (.cells zeroCells.toArray 80)).alloc (.cells #[.int .i64 0, .int .i64 0, .int .i64 0, .int .i64 0] 3)).alloc (.cells (startCells n0 (m1 : Int) (m2 : Int) (.slice none 0 0) (.slice none 0 0) (w.heap.size + 1)).toArray 80)) w.heap.size 80 zeroCells := ((Row.new w 80 zeroCells).alloc _).alloc _
    have RS : Row (((w.alloc (.cells zeroCells.toArray 80)).alloc (.cells #[.int .i64 0, .int .i64 0, .int .i64 0, .int .i64 0] 3)).alloc (.cells (startCells n0 (m1 : Int) (m2 : Int) (.slice none 0 0) (.slice none 0 0) (w.heap.size + 1)).toArray 80)) (w.heap.size + 1) 3 [.int .i64 0, .int .i64 0, .int .i64 0, .int .i64 0] := by
      have h := (Row.new (w.alloc (.cells zeroCells.toArray 80)) 3 [.int .i64 0, .int .i64 0, .int .i64 0, .int .i64 0]).alloc (.cells (startCells n0 (m1 : Int) (m2 : Int) (.slice none 0 0) (.slice none 0 0) (w.heap.size + 1)).toArray 80)
      rw [World.size_alloc] at h
      exact h
    have RB : Row (((w.alloc (.cells zeroCells.toArray 80)).alloc (.cells #[.int .i64 0, .int .i64 0, .int .i64 0, .int .i64 0] 3)).alloc (.cells (startCells n0 (m1 : Int) (m2 : Int) (.slice none 0 0) (.slice none 0 0) (w.heap.size + 1)).toArray 80)) (w.heap.size + 2) 80 (startCells n0 (m1 : Int) (m2 : Int) (.slice none 0 0) (.slice none 0 0) (w.heap.size + 1)) := by
      have h := Row.new ((w.alloc (.cells zeroCells.toArray 80)).alloc (.cells #[.int .i64 0, .int .i64 0, .int .i64 0, .int .i64 0] 3)) 80 (startCells n0 (m1 : Int) (m2 : Int) (.slice none 0 0) (.slice none 0 0) (w.heap.size + 1))
      rw [World.size_alloc, World.size_alloc] at h
      exact h
    have HZ0 := hide RZ
    have HS0 := hide RS
    have HT0 := hide (show Two (((w.alloc (.cells zeroCells.toArray 80)).alloc (.cells #[.int .i64 0, .int .i64 0, .int .i64 0, .int .i64 0] 3)).alloc (.cells (startCells n0 (m1 : Int) (m2 : Int) (.slice none 0 0) (.slice none 0 0) (w.heap.size + 1)).toArray 80)) (w.heap.size + 2) (w.heap.size + 3) 80 (fun a b => startCells n0 (m1 : Int) (m2 : Int) a b (w.heap.size + 1)) 153 2 CrewHand.cells (.slice none 0 0) [] [] [] 3 1 intC (.slice none 0 0) [] [] [] from ⟨RB, OwS.nil _ _ _ _ _, OwS.nil _ _ _ _ _, by omega, fun g h => (by cases h), fun g h => (by cases h), fun g h => (by cases h), fun g h => (by cases h)⟩)
    have HB0 := hide (show Below w.heap.size w (((w.alloc (.cells zeroCells.toArray 80)).alloc (.cells #[.int .i64 0, .int .i64 0, .int .i64 0, .int .i64 0] 3)).alloc (.cells (startCells n0 (m1 : Int) (m2 : Int) (.slice none 0 0) (.slice none 0 0) (w.heap.size + 1)).toArray 80)) from (((Below.refl _ w).alloc (Nat.le_refl _) _).alloc (by rw [World.size_alloc]; omega) _).alloc (by rw [World.size_alloc, World.size_alloc]; omega) _)
    clear RZ RS RB
    go_enter Try.func52, Try.ntmps52
    go_wp2_with fail
    refine (l6In_any _ _ _ _).mono ?_
    rintro e w_ ⟨rfl, rfl⟩
    rw [tb_true k0]
    go_wp2_with fail
    refine (l6In_any _ _ _ _).mono ?_
    rintro e w_ ⟨rfl, rfl⟩
    rw [tb_true k1]
    go_wp2_with fail
    refine (l6In_any _ _ _ _).mono ?_
    rintro e w_ ⟨rfl, rfl⟩
    rw [tb_true k2]
    go_wp2
    go_loopw [9] (fun i wr => ∃ (j : Nat) (A1 : Option Addr) (n1' c1 : Nat) (us1 : List Value), j ≤ m1 ∧ i = .int .i64 (j : Int) ∧ Two wr (w.heap.size + 2) (w.heap.size + 3) 80 (fun a b => startCells n0 (m1 : Int) (m2 : Int) a b (w.heap.size + 1)) 153 2 CrewHand.cells (.slice A1 n1' c1) (List.replicate j ⟨0, 0⟩) us1 [] 3 1 intC (.slice none 0 0) [] [] [] ∧ Below w.heap.size w wr ∧ Row wr w.heap.size 80 zeroCells ∧ Row wr (w.heap.size + 1) 3 [.int .i64 0, .int .i64 0, .int .i64 0, .int .i64 0]) (fun i _ => m1 - (intOf i).toNat)
    case atStart => exact ⟨0, none, 0, 0, [], Nat.zero_le _, rfl, HT0.out, HB0.out, HZ0.out, HS0.out⟩
    case round =>
      obtain ⟨j, A1, n1', c1, us1, hj, rfl, hT, hb, hrz, hrs⟩ := hrel
      have HB := hide hb
      have HRZ := hide hrz
      have HRS := hide hrs
      have hszA : w.heap.size + 3 ≤ wr.heap.size := by have := hT.box.lt; omega
      have tq : wr.cell? ⟨w.heap.size + 2, 6, none⟩ = some (.slice A1 n1' c1) := hT.box.cell 6
      have lt1 := hT.box.lt
      clear hb hrz hrs
      by_cases hlt : j < m1
      · have HT2 := hide (hT.alloc (.cells #[.int .i64 0, .int .i64 0] 153))
        have HSZ := hide (show w.heap.size + 3 ≤ (wr.alloc (.cells #[.int .i64 0, .int .i64 0] 153)).heap.size by rw [World.size_alloc]; omega)
        have hbt : ((j : Int) < (m1 : Int)) := by omega
        clear hT
        go_wp2_with (first | (at_builtin; refine wpl_app rfl _ _ 78 rfl a _ 16 Try.underlying78 HIa.out ha0 ha1 ha2 rfl (by decide) CrewHand.cells_len rfl HT2.out.one [(⟨0, 0⟩ : CrewHand)] (HHS.out _) (by exact New.nil _ _) (fun g _ hg => by cases hg) _ 1 1 rfl rfl (SrcAt.new wr _ _ _ _) (by rw [List.length_replicate]; omega) (by decide) HSZ.out ?_; intro A' n' c' w5 hn5 hown5 hgb5; have HG5 := hide hgb5; have HN5 := hide hown5; have r5 := HT2.out.row1 hgb5; have q5 : w5.cell? ⟨w.heap.size + 2, 6, none⟩ = some (.slice A1 n1' c1) := r5.cell 6; have f5 : w5.frozen? ⟨w.heap.size + 2, 6, none⟩ = false := r5.frozen 6; clear hown5 hgb5 r5 hn5))
        go_roundw
        case rel =>
          refine ⟨j + 1, A', n', c', us1 ++ [.int .i64 0, .int .i64 0], by omega, by go_num, ?_, ?_, ?_, ?_⟩
          · rw [List.replicate_succ']
            exact HT2.out.put1 HG5.out HN5.out 6 rfl (fun g hg => by cases hg)
          · exact HB.out.trans (((Below.refl _ wr).alloc (by omega) _).trans (HT2.out.frame1 HG5.out HSZ.out 6 _ (by omega)))
          · exact (HG5.out.row (HRZ.out.alloc _) (HT2.out.one.low (by omega))).far (by simp; try omega) _
          · exact (HG5.out.row (HRS.out.alloc _) (HT2.out.one.low (by omega))).far (by simp; try omega) _
        case measure => simp [intOf]; omega
      · obtain rfl : j = m1 := by omega
        obtain ⟨j_, rfl⟩ : ∃ j_, j_ = j := ⟨_, rfl⟩
        obtain ⟨Ah, nh, ch, uh, hAh⟩ : ∃ (Ah : Option Addr) (nh ch : Nat) (uh : List Value), Ah = A1 ∧ nh = n1' ∧ ch = c1 ∧ uh = us1 := ⟨_, _, _, _, rfl, rfl, rfl, rfl⟩
        obtain ⟨rfl, rfl, rfl, rfl⟩ := hAh
        have HTM := hide hT
        clear hT tq
        go_wp2
        go_loopw [10] (fun i wr => ∃ (j : Nat) (A1 : Option Addr) (n1' c1 : Nat) (us1 : List Value), j ≤ m2 ∧ i = .int .i64 (j : Int) ∧ Two wr (w.heap.size + 2) (w.heap.size + 3) 80 (fun a b => startCells n0 (j_ : Int) (m2 : Int) a b (w.heap.size + 1)) 153 2 CrewHand.cells (.slice Ah nh ch) (List.replicate j_ ⟨0, 0⟩) uh [] 3 1 intC (.slice A1 n1' c1) (List.replicate j (-1)) us1 [] ∧ Below w.heap.size w wr ∧ Row wr w.heap.size 80 zeroCells ∧ Row wr (w.heap.size + 1) 3 [.int .i64 0, .int .i64 0, .int .i64 0, .int .i64 0]) (fun i _ => m2 - (intOf i).toNat)
        case atStart => exact ⟨0, none, 0, 0, [], Nat.zero_le _, rfl, HTM.out, HB.out, HRZ.out, HRS.out⟩
        case round =>
          obtain ⟨j, A1, n1', c1, us1, hj, rfl, hT, hb, hrz, hrs⟩ := hrel
          have HB := hide hb
          have HRZ := hide hrz
          have HRS := hide hrs
          have hszA : w.heap.size + 3 ≤ wr.heap.size := by have := hT.box.lt; omega
          have tq : wr.cell? ⟨w.heap.size + 2, 10, none⟩ = some (.slice A1 n1' c1) := hT.box.cell 10
          have lt1 := hT.box.lt
          clear hb hrz hrs
          by_cases hlt : j < m2
          · have HT2 := hide (hT.alloc (.cells #[.int .i64 (-1)] 3))
            have HSZ := hide (show w.heap.size + 3 ≤ (wr.alloc (.cells #[.int .i64 (-1)] 3)).heap.size by rw [World.size_alloc]; omega)
            have hbt : ((j : Int) < (m2 : Int)) := by omega
            clear hT
            go_wp2_with (first | (at_builtin; refine wpl_app rfl _ _ 56 rfl b _ 8 Try.underlying56 HIb.out hb0 hb1 hb2 rfl (by decide) intC_len rfl HT2.out.two [(-1 : Int)] (HRS1.out _) (by exact New.nil _ _) (fun g _ hg => by cases hg) _ 1 1 rfl rfl (SrcAt.new wr _ _ _ _) (by rw [List.length_replicate]; omega) (by decide) HSZ.out ?_; intro A' n' c' w5 hn5 hown5 hgb5; have HG5 := hide hgb5; have HN5 := hide hown5; have r5 := HT2.out.row2 hgb5; have q5 : w5.cell? ⟨w.heap.size + 2, 10, none⟩ = some (.slice A1 n1' c1) := r5.cell 10; have f5 : w5.frozen? ⟨w.heap.size + 2, 10, none⟩ = false := r5.frozen 10; clear hown5 hgb5 r5 hn5))
            go_roundw
            case rel =>
              refine ⟨j + 1, A', n', c', us1 ++ [.int .i64 (-1)], by omega, by go_num, ?_, ?_, ?_, ?_⟩
              · rw [List.replicate_succ']
                exact HT2.out.put2 HG5.out HN5.out 10 rfl (fun g hg => by cases hg)
              · exact HB.out.trans (((Below.refl _ wr).alloc (by omega) _).trans (HT2.out.frame2 HG5.out HSZ.out 10 _ (by omega)))
              · exact (HG5.out.row (HRZ.out.alloc _) (HT2.out.two.low (by omega))).far (by simp; try omega) _
              · exact (HG5.out.row (HRS.out.alloc _) (HT2.out.two.low (by omega))).far (by simp; try omega) _
            case measure => simp [intOf]; omega
          · obtain rfl : j = m2 := by omega
            obtain ⟨p1, p2, o1, o2, hn⟩ := hT.toOw
            have HBX := hide hT.box
            have HN := hide hn
            have HX := hide (fun W (g1 : wr.grownBy W (some w.heap.size)) => start_ow HK.out (o1.grown g1 hn.lt.left (fun hm => absurd (hn.fr _ (List.mem_append_left _ hm)).1 (by omega))) (o2.grown g1 hn.lt.right (fun hm => absurd (hn.fr _ (List.mem_append_right _ hm)).1 (by omega))) (HRS.out.grown g1 (fun e => by injection e with e; omega)))
            have HNN := hide (show New wr (p1 ++ (p2 ++ [w.heap.size + 1])) w.heap.size from by
              refine ⟨?_, ?_, ?_⟩
              · refine ((hn.left.fr.mono (by omega) (Nat.le_refl _)).app ((hn.right.fr.mono (by omega) (Nat.le_refl _)).app ?_))
                exact (Fr.nil _ _).cons (by omega) HRS.out.lt
              · rw [← List.append_assoc]
                exact List.nodup_append.2 ⟨hn.nd, by simp, fun a ha b hb e => by
                  simp only [List.mem_singleton] at hb
                  have := (hn.fr a ha).1
                  omega⟩
              · intro g hg
                rw [← List.append_assoc] at hg
                rcases List.mem_append.1 hg with hg | hg
                · exact hn.uf g hg
                · simp only [List.mem_singleton] at hg
                  subst hg
                  exact Unf.row HRS.out)
            clear hT o1 o2 hn tq
            have lz := HRZ.out.lt
            go_wp2_with (first | (refine wpList_load_row rfl 80 _ rfl (w.heap.size + 2) rfl 80 (startCells n0 (j_ : Int) (j : Int) (.slice Ah nh ch) (.slice A1 n1' c1) (w.heap.size + 1)).toArray (0, 0) _ HBX.out Try.underlying80 rfl (by kernel_rfl) ?_) | (refine wpList_store_row rfl 80 _ _ rfl w.heap.size (startCells n0 (j_ : Int) (j : Int) (.slice Ah nh ch) (.slice A1 n1' c1) (w.heap.size + 1)).toArray rfl rfl 80 zeroCells.toArray HRZ.out (by kernel_rfl) (startCells_size _ _ _ _ _ _) (startCells_one _ _ _ _ _ _ _ _ _ _) ?_))
            refine bodyPost_ret (ret_row_tmp rfl _ _ w.heap.size 80 (startCells n0 (j_ : Int) (j : Int) (.slice Ah nh ch) (.slice A1 n1' c1) (w.heap.size + 1)) (HRZ.out.setRow' (startCells n0 (j_ : Int) (j : Int) (.slice Ah nh ch) (.slice A1 n1' c1) (w.heap.size + 1))) _ (.bool true) rfl rfl Try.underlying80 rfl (by kernel_rfl)) rfl ?_
            have HFIN := hide (fun W (g1 : wr.grownBy W (some w.heap.size)) => show New W (p1 ++ (p2 ++ [w.heap.size + 1])) w.heap.size ∧ Below w.heap.size w W from ⟨HNN.out.grown g1 (fun g e hm => by
              injection e with e
              subst e
              rw [← List.append_assoc] at hm
              rcases List.mem_append.1 hm with hm | hm
              · exact absurd (HN.out.fr _ hm).1 (by omega)
              · simp at hm), HB.out.trans (below_of_grown g1 (Nat.le_refl _) HB.out.size)⟩)
            refine ⟨_, _, by rw [tb_true HK.out], HX.out _ ?_, (HFIN.out _ ?_).1, (HFIN.out _ ?_).2⟩
            all_goals exact setRow_grown (grown_refl wr _) _
set_option maxRecDepth 100000 in
set_option maxHeartbeats 2000000 in
theorem specCrewStart_no (n0 n1 n2 : Int) (w : World) (hok : ¬ crewOk n0 n1 n2) :
    Calls Try.prog 52 #[.int .i64 n0, .int .i64 n1, .int .i64 n2] w (StartRet n0 n1 n2 w) := by
  · have hok' := hok
    have RZ : Row (w.alloc (.cells zeroCells.toArray 80)) w.heap.size 80 zeroCells := Row.new w _ _
    have HB := hide (show Below w.heap.size w (w.alloc (.cells zeroCells.toArray 80)) from (Below.refl _ _).alloc (Nat.le_refl _) _)
    by_cases k0 : 0 ≤ n0 ∧ n0 ≤ 60
    · by_cases k1 : 1 ≤ n1 ∧ n1 ≤ 8
      · have k2 : ¬ (1 ≤ n2 ∧ n2 ≤ 16) := fun h => hok ⟨k0, k1, h⟩
        go_enter Try.func52, Try.ntmps52
        go_wp2_with fail
        refine (l6In_any _ _ _ _).mono ?_
        rintro e w_ ⟨rfl, rfl⟩
        rw [tb_true k0]
        go_wp2_with fail
        refine (l6In_any _ _ _ _).mono ?_
        rintro e w_ ⟨rfl, rfl⟩
        rw [tb_true k1]
        go_wp2_with fail
        refine (l6In_any _ _ _ _).mono ?_
        rintro e w_ ⟨rfl, rfl⟩
        rw [tb_false k2]
        go_wp2
        refine bodyPost_ret (ret_row_tmp rfl _ _ w.heap.size 80 zeroCells (by first | exact RZ | exact RZ.setAll zeroCells rfl) _ (.bool false) rfl rfl Try.underlying80 rfl (by kernel_rfl)) rfl ?_
        exact ⟨_, [], by rw [tb_false hok], by rw [startOf_no hok]; exact none_ow _, New.nil _ _, by first | exact HB.out | exact (HB.out.trans (below_of_grown (w := w.alloc (.cells zeroCells.toArray 80)) (g := w.heap.size) (setN_grown zeroCells 0 (grown_refl _ _)) (Nat.le_refl _) HB.out.size))⟩
      · go_enter Try.func52, Try.ntmps52
        go_wp2_with fail
        refine (l6In_any _ _ _ _).mono ?_
        rintro e w_ ⟨rfl, rfl⟩
        rw [tb_true k0]
        go_wp2_with fail
        refine (l6In_any _ _ _ _).mono ?_
        rintro e w_ ⟨rfl, rfl⟩
        rw [tb_false k1]
        go_wp2
        refine bodyPost_ret (ret_row_tmp rfl _ _ w.heap.size 80 zeroCells (by first | exact RZ | exact RZ.setAll zeroCells rfl) _ (.bool false) rfl rfl Try.underlying80 rfl (by kernel_rfl)) rfl ?_
        exact ⟨_, [], by rw [tb_false hok], by rw [startOf_no hok]; exact none_ow _, New.nil _ _, by first | exact HB.out | exact (HB.out.trans (below_of_grown (w := w.alloc (.cells zeroCells.toArray 80)) (g := w.heap.size) (setN_grown zeroCells 0 (grown_refl _ _)) (Nat.le_refl _) HB.out.size))⟩
    · go_enter Try.func52, Try.ntmps52
      go_wp2_with fail
      refine (l6In_any _ _ _ _).mono ?_
      rintro e w_ ⟨rfl, rfl⟩
      rw [tb_false k0]
      go_wp2
      refine bodyPost_ret (ret_row_tmp rfl _ _ w.heap.size 80 zeroCells (by first | exact RZ | exact RZ.setAll zeroCells rfl) _ (.bool false) rfl rfl Try.underlying80 rfl (by kernel_rfl)) rfl ?_
      exact ⟨_, [], by rw [tb_false hok], by rw [startOf_no hok]; exact none_ow _, New.nil _ _, by first | exact HB.out | exact (HB.out.trans (below_of_grown (w := w.alloc (.cells zeroCells.toArray 80)) (g := w.heap.size) (setN_grown zeroCells 0 (grown_refl _ _)) (Nat.le_refl _) HB.out.size))⟩
theorem specCrewStart_any (n0 n1 n2 : Int) (w : World) (h0 : (Lit.int .i64 n0).wf = true) (h1 : (Lit.int .i64 n1).wf = true) (h2 : (Lit.int .i64 n2).wf = true) :
    Calls Try.prog 52 #[.int .i64 n0, .int .i64 n1, .int .i64 n2] w (StartRet n0 n1 n2 w) := by
  by_cases hok : crewOk n0 n1 n2
  · exact specCrewStart_yes n0 n1 n2 w hok
  · exact specCrewStart_no n0 n1 n2 w hok
end Go.Proofs.Ytbjblchhenmgjaa
namespace Go.Proofs.Ytbjblchhenmgjaa
open Go.ChangeShapes Go.WideShapes Go.ChangeAt Go.RowKit

set_option maxRecDepth 100000 in
theorem mul64_any (c : Nat) (h1 : 1 ≤ c) (h2 : c ≤ 16) (w : World) :
    Calls Try.prog 249 #[.int .u64 1, .int .u64 (c : Int)] w fun e w' => e = .returned (.tuple #[.int .u64 0, .int .u64 (c : Int)]) ∧ w' = w := by
  have hc : c = 1 ∨ c = 2 ∨ c = 3 ∨ c = 4 ∨ c = 5 ∨ c = 6 ∨ c = 7 ∨ c = 8 ∨ c = 9 ∨ c = 10 ∨ c = 11 ∨ c = 12 ∨ c = 13 ∨ c = 14 ∨ c = 15 ∨ c = 16 := by omega
  clear h1 h2
  rcases hc with rfl | rfl | rfl | rfl | rfl | rfl | rfl | rfl | rfl | rfl | rfl | rfl | rfl | rfl | rfl | rfl
  all_goals
    go_enter Try.func249, Try.ntmps249
    go_wp2
    go_ret2
    exact ⟨rfl, rfl⟩
set_option maxRecDepth 100000 in
theorem mul_any (c : Nat) (h1 : 1 ≤ c) (h2 : c ≤ 16) (w : World) :
    Calls Try.prog 217 #[.int .u64 1, .int .u64 (c : Int)] w fun e w' => e = .returned (.tuple #[.int .u64 0, .int .u64 (c : Int)]) ∧ w' = w := by
  go_enter Try.func217, Try.ntmps217
  go_wp2_with fail
  refine (mul64_any c h1 h2 _).mono ?_
  rintro e w' ⟨rfl, rfl⟩
  go_wp2
  go_ret2
  exact ⟨rfl, rfl⟩

theorem kcel {B : Nat} {W w' : World} {p : Addr} {v : Value} (h : W.cell? p = some v) (hb : Below B W w') (hl : p.block < B) : w'.cell? p = some v := (hb.cell hl).trans h
def LenIs (cs : List Value) (a b : Nat) : Prop := cs.length = Nat.min a b
def FitsIn (cs cur : List Value) (off : Nat) : Prop := off + cs.length ≤ cur.length
def OneCells (cs : List Value) : Prop := ∀ v ∈ cs, v.oneCell' = true
def SrcCells (w : World) (ad : Addr) (cs : List Value) : Prop := ∀ j v, cs[j]? = some v → w.cell? (ad.add j) = some v
/-- the row after n copies -/
def repRow (z : Value) (c n : Nat) : List Value := List.replicate n z ++ List.replicate (c - n) (.int .i64 0)
theorem repRow_len (z : Value) (c n : Nat) (h : n ≤ c) : (repRow z c n).length = c := by simp [repRow]; omega
theorem repRow_zero (z : Value) (c : Nat) : repRow z c 0 = List.replicate c (.int .i64 0) := by simp [repRow]
theorem repRow_full (z : Value) (c : Nat) : repRow z c c = List.replicate c z := by simp [repRow]
theorem repRow_splice (z : Value) (c n m : Nat) (h : n + m ≤ c) : splice (repRow z c n) n (List.replicate m z) = repRow z c (n + m) := by
  unfold splice repRow
  rw [List.take_append_of_le_length (by simp), List.take_of_length_le (by simp), List.drop_append]
  simp only [List.length_replicate, List.drop_replicate]
  rw [show n - (n + m) = 0 by omega, show n + m - n = m by omega, show c - n - m = c - (n + m) by omega]
  simp only [List.replicate_zero, List.nil_append, ← List.append_assoc, List.replicate_append_replicate]
theorem repRow_get (z : Value) (c n j : Nat) (h : j < n) : (repRow z c n)[j]? = some z := by
  unfold repRow
  rw [List.getElem?_append_left (by simpa using h)]
  simp [h]

section
variable {P : Program} {ops : Array Oper} {rest : List Oper} {o : Oper} {a : Act} {K : Act → World → Prop} {Q : Exit → Act → World → Prop} {E : Prop} {w : World}
theorem wpl_run (hgd : o.guard = none) (d s : Operand) {dT sT : TypeId} (ho : o.op = .call { callee := .builtin .copy, args := #[d, s], argTypes := #[dT, sT] }) (vd vs : Value) (hd : a.eval d = vd) (hs : a.eval s = vs) {r : Value} {w' : World}
    (hrun : (Builtin.copy_ #[dT, sT] o.type #[vd, vs]).run P w = .ok r w') (h : wpList P ops Q rest (a.put o.dst r) w') : wpList P ops Q (o :: rest) a w := by
  refine wpList_plain hgd fun K hK => ?_
  unfold Oper.wp
  simp [execOp, ho, resolve, invoke, builtin, hd, hs, hrun, Result.andThen]
  exact hK _ _ h
theorem step_run (hgd : o.guard = none) (d s : Operand) {dT sT : TypeId} (ho : o.op = .call { callee := .builtin .copy, args := #[d, s], argTypes := #[dT, sT] }) (vd vs : Value) (hd : a.eval d = vd) (hs : a.eval s = vs) {r : Value} {w' : World}
    (hrun : (Builtin.copy_ #[dT, sT] o.type #[vd, vs]).run P w = .ok r w') (h : K (a.put o.dst r) w') : if Region.wanted o (yielded ops a.tmps) = true then Oper.wp P o a w K Q else E := by
  have hw : Region.wanted o (yielded ops a.tmps) = true := by simp [Region.wanted, hgd]
  rw [if_pos hw]
  unfold Oper.wp
  simp [execOp, ho, resolve, invoke, builtin, hd, hs, hrun, Result.andThen]
  exact h
end
theorem setRow_fold (W : World) (cs cs' : Array Value) (e : TypeId) (q : Nat) : ((W.alloc (.cells cs e)).drewN q).setRow W.heap.size cs' = (W.alloc (.cells cs' e)).drewN q := by
  have hh : ∀ f : Obj → Obj, f (.cells cs e) = .cells cs' e → (W.heap.push (Obj.cells cs e)).modify W.heap.size f = W.heap.push (.cells cs' e) := fun f hf => by
    apply Array.ext
    · simp
    · intro i h1 h2
      rw [Array.getElem_modify]
      by_cases hi : W.heap.size = i
      · subst hi
        simp [hf]
      · have : i < W.heap.size := by simp at h1; omega
        simp [hi, Array.getElem_push, this]
  have h2 : ((W.alloc (.cells cs e)).drewN q).heap = W.heap.push (.cells cs e) := rfl
  unfold World.setRow
  rw [h2, hh]
  · rfl
  · rfl
theorem copy_rep_cells (W : World) (z : Int) (c n m q : Nat) (hn : n ≤ c) (hm : m ≤ n) : SrcCells ((W.alloc (.cells (repRow (.int .i64 z) c n).toArray 3)).drewN q) ⟨W.heap.size, 0, none⟩ (List.replicate m (.int .i64 z)) := fun j v hj => by
  have hjm : j < m := by
    have := (List.getElem?_eq_some_iff.1 hj).1
    simpa using this
  rw [List.getElem?_replicate, if_pos hjm] at hj
  injection hj with hj
  subst hj
  have h := ((Row.new W 3 (repRow (.int .i64 z) c n)).drewN q).cell j
  rw [repRow_get _ _ _ _ (by omega)] at h
  simpa [Addr.add_lit] using h
theorem run_copy_rep (W : World) (ty : TypeId) (z : Int) (c n m q : Nat) (hnm : n + m ≤ c) (ao : Option Addr) (sLen sCap dLen dCap : Nat) (hl : LenIs (List.replicate m (.int .i64 z)) sLen dLen) (hao : ∃ ad, ao = some ad ∧ SrcCells ((W.alloc (.cells (repRow (.int .i64 z) c n).toArray 3)).drewN q) ad (List.replicate m (.int .i64 z))) :
    (Builtin.copy_ #[56, 56] ty #[.slice (some ⟨W.heap.size, n, none⟩) dLen dCap, .slice ao sLen sCap]).run Try.prog ((W.alloc (.cells (repRow (.int .i64 z) c n).toArray 3)).drewN q) = .ok (goInt m) ((W.alloc (.cells (repRow (.int .i64 z) c (n + m)).toArray 3)).drewN q) := by
  obtain ⟨ad, rfl, hs⟩ := hao
  have hsz : (Try.prog.info? 3).map (·.size) = some 1 := by
    obtain ⟨i0, hi, hz0, hz1, hz2⟩ := info_parts info_int
    rw [hi]; simp [hz1]
  have hrun := run_copy_row (P := Try.prog) ((W.alloc (.cells (repRow (.int .i64 z) c n).toArray 3)).drewN q) 56 56 ty 3 W.heap.size n dLen dCap ad sLen sCap (repRow (.int .i64 z) c n).toArray 3 (List.replicate m (.int .i64 z)) Try.underlying56 hsz (heap_alloc_new W _) hl hs (by simp [repRow_len _ _ _ (show n ≤ c by omega)]; omega) (fun v hv => by rw [List.eq_of_mem_replicate hv]; rfl)
  rw [List.length_replicate, List.toList_toArray, setRow_fold] at hrun
  rw [hrun, ← repRow_splice _ _ _ _ hnm]
  unfold splice
  rw [List.length_replicate]
  simp only [List.append_assoc]
set_option maxRecDepth 100000 in
set_option maxHeartbeats 1000000 in
theorem repeat_any (c : Nat) (h1 : 1 ≤ c) (h2 : c ≤ 16) (g : Nat) (z : Int) (w : World) (hg : w.cell? ⟨g, 0, none⟩ = some (.int .i64 z)) :
    Calls Try.prog 160 #[.slice (some ⟨g, 0, none⟩) 1 1, .int .i64 (c : Int)] w fun e w' =>
      e = .returned (.slice (some ⟨w.heap.size, 0, none⟩) c c) ∧ ∃ q, w' = (w.alloc (.cells (List.replicate c (.int .i64 z)).toArray 3)).drewN q := by
  obtain ⟨i0, hi, hz0, hz1, hz2⟩ := info_parts info_int
  have hmk0 := run_make_rowN (P := Try.prog) 56 3 i0 _ Try.underlying56 hi hz0 .i64 .i64 c c (Nat.le_refl _) (by rw [hz2]; omega) (by omega)
  rw [hz1] at hmk0
  have hmk : ∀ u : World, (Instr.makeSlice 56 (.int .i64 (c : Int)) (.int .i64 (c : Int))).run Try.prog u = .ok (.slice (some ⟨u.heap.size, 0, none⟩) c c) (u.alloc (.cells (repRow (.int .i64 z) c 0).toArray 3)) := fun u => by
    rw [hmk0 u, repRow_zero, ← toList_madeCells_one, Array.toArray_toList]
    simp
    rfl
  clear hi hz0 hz1 hz2 i0 hmk0
  have hlt : g < w.heap.size := cell_lt hg
  have hw1 : IntKind.u64.wrap (c : Int) = (c : Int) := by simp only [IntKind.wrap, IntKind.bits, IntKind.signed]; simp; omega
  have hw2 : IntKind.i64.wrap (c : Int) = (c : Int) := by simp only [IntKind.wrap, IntKind.bits, IntKind.signed]; simp; omega
  have hn1 : ¬ ((c : Int) < 0) := by omega
  have hn2 : ¬ ((9223372036854775807 : Int) < (c : Int)) := by omega
  have hn3 : decide ((9223372036854775807 : Int) < (c : Int)) = false := decide_eq_false hn2
  have HG := hide hg
  go_enter Try.func160, Try.ntmps160
  go_wp2_with fail
  refine (mul_any c h1 h2 _).mono ?_
  rintro e W ⟨rfl, rfl⟩
  have HR1 := hide (fun ty => run_copy_rep W ty z c 0 1 0 (by omega) (some ⟨g, 0, none⟩) 1 1 c c (by unfold LenIs; simp [Nat.min_def]; omega) ⟨_, rfl, fun j v hj => by
    match j, hj with
    | 0, hj =>
      simp at hj
      subst hj
      exact kcel HG.out ((Below.refl _ W).alloc (Nat.le_refl _) _) hlt⟩)
  go_wp2_with (first | (refine wpl_run rfl _ _ rfl _ _ rfl rfl (HR1.out _) ?_))
  clear HR1 hmk
  go_loopw [8] (fun i wr => ∃ n q : Nat, 1 ≤ n ∧ n ≤ c ∧ i = .int .i64 (n : Int) ∧ wr = (W.alloc (.cells (repRow (.int .i64 z) c n).toArray 3)).drewN q) (fun i _ => c - (intOf i).toNat)
  case atStart => exact ⟨1, 0, by omega, by omega, rfl, rfl⟩
  case round =>
    obtain ⟨n, q, hn1, hn2, rfl, rfl⟩ := hrel
    by_cases hlt2 : n < c
    · obtain ⟨m, hm⟩ : ∃ m, m = Nat.min n (c - n) := ⟨_, rfl⟩
      have hm1 : 1 ≤ m ∧ m ≤ n ∧ n + m ≤ c := by rw [hm]; simp only [Nat.min_def]; split <;> omega
      have hne : ¬ (c = n) := by omega
      have hne' : ¬ (n = c) := by omega
      have HR1 := hide (fun ty => run_copy_rep W ty z c n m (q + 1) hm1.2.2 (some ⟨W.heap.size, 0, none⟩) n c (c - n) (c - n) (by unfold LenIs; rw [List.length_replicate, hm]) ⟨_, rfl, copy_rep_cells W z c n m (q + 1) hn2 hm1.2.1⟩)
      clear hm
      have hwr : IntKind.i64.wrap ((n : Int) + (m : Int)) = ((n + m : Nat) : Int) := by simp only [IntKind.wrap, IntKind.bits, IntKind.signed]; simp; omega
      go_wp2
      go_region_law (first | (refine step_run (by rfl) _ _ (by rfl) (.slice (some ⟨W.heap.size, n, none⟩) (c - n) (c - n)) (.slice (some ⟨W.heap.size, 0, none⟩) n c) (by simp [Act.eval, Act.put]) (by simp [Act.eval, Act.put]) (HR1.out _) ?_))
      all_goals
        go_simp
        go_roundw
        case rel => exact ⟨.int .i64 ((n + m : Nat) : Int), _, _, _, _, _, _, _, _, _, _, _, _, _, ⟨n + m, q + 1, by omega, by omega, rfl, rfl⟩, rfl⟩
        case measure => simp [intOf]; omega
    · obtain rfl : n = c := by omega
      go_wp2
      go_ret
      exact ⟨rfl, q, by rw [repRow_full]⟩
end Go.Proofs.Ytbjblchhenmgjaa
