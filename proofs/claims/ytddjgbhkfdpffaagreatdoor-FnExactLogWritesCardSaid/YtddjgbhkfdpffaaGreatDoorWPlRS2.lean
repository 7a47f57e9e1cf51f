/-
  LogPlanRead of the reference.
-/
import Derived.Deep.RegionHeld
import Derived.OwnWalk
import Derived.Deep.Cut
import Derived.Test.YtddjgbhkfdpffaaGreatDoorWPlRR
import Derived.Test.YtddjgbhkfdpffaaGreatDoorWPlanWS
set_option linter.unusedVariables false
set_option linter.unusedSimpArgs false
namespace Go.Proofs.YtddjgbhkfdpffaaGreatDoor
open Go.ChangeShapes Go.WideShapes Go.ChangeAt Go.RowKit

theorem sub5 (s : ByteArray) (m : Nat) : (s.extract m (m + 5)).data.toList = (s.data.toList.drop m).take 5 := by
  rw [Lib.extract_data, show m + 5 - m = 5 by omega]
theorem seal5 (s : ByteArray) (m : Nat) : s.extract m (m + 5) = ⟨#[115, 101, 97, 108, 32]⟩ ↔ (s.data.toList.drop m).take 5 = [115, 101, 97, 108, 32] := by
  constructor
  · intro h
    rw [← sub5, h]
  · intro h
    exact bytes_inj (by rw [sub5, h])
theorem no_plan {s : ByteArray} (h : ∀ p : LogPlan, p.ok → p.text ≠ s) : readP s = LogPlan.zero ∧ readPB s = false := by
  have h : readPlan s = none := readPlan_none h
  unfold readP readPB
  rw [h]
  exact ⟨rfl, rfl⟩
theorem write_ne {s : ByteArray} {q : LogPlan} (hq : ∀ r : LogPlan, r.ok → r.text = s → q = r) (hw : ¬ q.write = s) : readP s = LogPlan.zero ∧ readPB s = false := read_no hq hw
set_option maxRecDepth 100000 in
set_option maxHeartbeats 2000000 in
theorem specLogPlanRead_any (s : ByteArray) (w : World) (hs : s.size ≤ 1048576) :
    Calls Tryz.prog 80 #[.string s] w (PlanRet s w) := by
  obtain ⟨ia, hia, ha0, ha1, ha2⟩ := info_parts8 info_part
  have HIa := hide hia
  clear hia
  go_enter Tryz.func80, Tryz.ntmps80
  go_upto_region 1 with fail
  generalize hw1 : w.alloc _ = w1
  have hb1 : Below w.heap.size w w1 := by rw [← hw1]; exact (Below.refl _ _).alloc (Nat.le_refl _) _
  have HZ := hide (show Row w1 w.heap.size 30 [.slice none 0 0, .int .i64 0, .int .i64 0] from by rw [← hw1]; exact Row.new w _ _)
  have hs1 : w1.heap.size = w.heap.size + 1 := by rw [← hw1]; simp
  have HB1 := hide hb1
  clear hw1 hb1
  go_upto_region 2 with fail
  generalize hw2 : w1.alloc _ = w2
  have hb2 : Below w1.heap.size w1 w2 := by rw [← hw2]; exact (Below.refl _ _).alloc (Nat.le_refl _) _
  have hs2 : w2.heap.size = w.heap.size + 2 := by rw [← hw2, World.size_alloc, hs1]
  have HP := hide (show PBox w2 (w.heap.size + 1) (w.heap.size + 2) [] 0 0 none 0 0 [] from ⟨by rw [← hw2, ← hs1]; exact Row.new w1 _ _, OwS.nil _ _ _ _ _, by omega⟩)
  have HZ2 := hide (HZ.out.below hb2 HZ.out.lt)
  have HB2 := hide (HB1.out.trans (hb2.mono HB1.out.size))
  try rw [hs1]
  clear hw2 hb2 HZ HB1 hs1
  go_wp2
  go_loopw [5] (fun t wr => ∃ (m : Nat) (ps : List LogPart) (A : Option Addr) (n c : Nat) (us : List Value), t = .int .i64 (m : Int) ∧ ReadAt s ps m ∧ ps.length ≤ 41 ∧ m ≤ 40 * ps.length ∧ PBox wr (w.heap.size + 1) (w.heap.size + 2) ps 0 0 A n c us ∧ Row wr w.heap.size 30 [.slice none 0 0, .int .i64 0, .int .i64 0] ∧ Below w.heap.size w wr ∧ w.heap.size + 2 ≤ wr.heap.size) (fun t _ => s.size + 100 - (intOf t).toNat)
  case atStart => exact ⟨0, [], none, 0, 0, [], rfl, readAt_zero s, by decide, by decide, HP.out, HZ2.out, HB2.out, Nat.le_of_eq hs2.symm⟩
  case round =>
    clear HP HZ2 HB2 hs2
    obtain ⟨m, ps, A, n, c, us, rfl, hrd, hpl, hmb, hpb, hrz, hbel, hsz⟩ := hrel
    obtain rfl := hpb.len
    have HPB := hide hpb
    have HZ := hide hrz
    have HB := hide hbel
    have HRD := hide hrd
    have x0 := hpb.box.cell 0
    have xf := hpb.box.frozen 0
    have xl := hpb.box.lt
    clear hpb hrz hbel hrd
    have hfin : ∀ (hh : m + 5 ≤ s.size → (s.data.toList.drop m).take 5 = [115, 101, 97, 108, 32] → ¬ ps.length ≤ 40), Hid (∀ p : LogPlan, p.ok → p.text = s → m + 5 ≤ s.size ∧ (⟨ps, (numsK 2 (s.data.toList.drop (m + 5))).1.getD 0 0, (numsK 2 (s.data.toList.drop (m + 5))).1.getD 1 0⟩ : LogPlan) = p) := fun hh => hide (readAt_stop HRD.out hh)
    have hw5 : IntKind.i64.wrap ((m : Int) + 5) = ((m + 5 : Nat) : Int) := by rw [wrapI _ (by omega) (by omega)]; omega
    by_cases h5 : m + 5 ≤ s.size
    rotate_left
    · have h5I : ¬ ((m : Int) + 5 ≤ (s.size : Int)) := by omega
      have HF := hfin (fun h => absurd h h5)
      have d5 : decide ((m : Int) + 5 ≤ (s.size : Int)) = false := by simp; omega
      have d6 : decide ((s.size : Int) < (m : Int) + 5) = true := by simp; omega
      clear hfin
      have z0 := HZ.out.cell 0
      have z1 := HZ.out.cell 1
      have z2 := HZ.out.cell 2
      have y0 := HZ.out.frozen 0
      have y1 := HZ.out.frozen 1
      have y2 := HZ.out.frozen 2
      have zl := HZ.out.lt
      have HNO := hide (no_plan (fun p h1 h2 => h5 (HF.out p h1 h2).1))
      go_wp2
      refine bodyPost_ret (ret_row_tmp rfl _ _ w.heap.size 30 [.slice none 0 0, .int .i64 0, .int .i64 0] (HZ.out.setAll [.slice none 0 0, .int .i64 0, .int .i64 0] rfl) _ _ rfl rfl Tryz.underlying30 rfl (by kernel_rfl)) rfl ?_
      exact pr_none HNO.out (HB.out.trans (below_of_grown (setN_grown [.slice none 0 0, .int .i64 0, .int .i64 0] 0 (grown_refl _ (some w.heap.size))) (Nat.le_refl _) HB.out.size))
    have h5I : (m : Int) + 5 ≤ (s.size : Int) := by omega
    have h5J : ¬ ((s.size : Int) < (m : Int) + 5) := by omega
    by_cases hse : s.extract m (m + 5) = ⟨#[115, 101, 97, 108, 32]⟩
    rotate_left
    · have e1 : ¬ (s.extract m (m + 5)).toList = [115, 101, 97, 108, 32] := fun h => hse ((seal5 s m).2 (by rw [← sub5, ← Lib.toList_data]; exact h))
      have e2 : ((s.extract m (m + 5)).toList == [115, 101, 97, 108, 32]) = false := by simpa using e1
      obtain ⟨zs, hzs⟩ : ∃ zs, zs = (numsK 2 (s.data.toList.drop (m + 5))).1 := ⟨_, rfl⟩
      have hzl : zs.length = 2 := by rw [hzs]; exact numsK_len 2 _
      have hzb : ∀ z ∈ zs, 0 ≤ z ∧ z ≤ 9999999 := by rw [hzs]; exact numsK_bd 2 _
      have HF := hfin (fun _ h => absurd ((seal5 s m).2 h) hse)
      rw [← hzs] at HF
      have HC := hide (l42Nums_any s (m + 5) 2 wr hs (by omega) (by decide))
      rw [← hzs, show ((m + 5 : Nat) : Int) = (m : Int) + 5 by omega, show ((2 : Nat) : Int) = 2 by rfl] at HC
      generalize (numsK 2 (s.data.toList.drop (m + 5))).2 = kk at *
      have hz0 := mem_getD zs 0 hzb
      have hz1 := mem_getD zs 1 hzb
      have HTW := hide (two_of hzl)
      clear hzs hfin
      go_wp2_with fail
      refine HC.out.mono ?_
      rintro e w5 ⟨A6, n6, c6, us6, rfl, hown6, hb5⟩
      obtain ⟨g6, rfl, rfl, hc6, hB6, hg6, hcell⟩ := ints_cells hown6 (by omega)
      rw [HTW.out] at hcell
      have v0 := hcell 0 _ rfl
      have v1 := hcell 1 _ rfl
      have HP5 := hide (HPB.out.below hb5)
      have HZ5 := hide (HZ.out.below hb5 HZ.out.lt)
      have HB5 := hide (HB.out.trans (hb5.mono HB.out.size))
      rw [hzl] at *
      generalize zs.getD 0 0 = a0 at *
      generalize zs.getD 1 0 = a1 at *
      clear HC hown6 hcell HTW hzb hzl HPB HZ HB hb5 x0 xf xl HRD
      have x0 := HP5.out.box.cell 0
      have x1 := HP5.out.box.cell 1
      have x2 := HP5.out.box.cell 2
      have xl := HP5.out.box.lt
      have f1 := HP5.out.box.frozen 1
      have f2 := HP5.out.box.frozen 2
      have hgb : g6 ≠ w.heap.size + 1 := by omega
      go_upto_region 12 with fail
      have HP6 := hide (HP5.out.put a0 a1)
      have HZ6 := hide ((HZ5.out.far (p := ⟨w.heap.size + 1, 1, none⟩) (by simp) (.int .i64 a0)).far (p := ⟨w.heap.size + 1, 2, none⟩) (by simp) (.int .i64 a1))
      have HB6 := hide (below_put HB5.out (Nat.le_succ _) (.int .i64 a0) (.int .i64 a1))
      generalize (World.setCell _ _ _) = w6 at HP6 HZ6 HB6 ⊢
      clear HP5 HZ5 HB5 x0 x1 x2 xl f1 f2 v0 v1 hgb hg6 hB6 hc6
      obtain ⟨fq, hoq, hnq⟩ := HP6.out.ow (wf_small _ hz0) (wf_small _ hz1)
      have HOQ := hide hoq
      have HNQ := hide hnq
      have HW := hide (specLogPlanWrite_any ⟨ps, a0, a1⟩ _ fq w6 hoq hnq.lt (by rw [LogPlan.bulk_eq]; unfold LogPart.bulkL; simp only; omega))
      have x0 := HP6.out.box.cell 0
      have x1 := HP6.out.box.cell 1
      have x2 := HP6.out.box.cell 2
      have xl := HP6.out.box.lt
      clear hoq hnq
      go_wp2_with fail
      refine HW.out.mono ?_
      rintro e w7 ⟨rfl, hb7⟩
      have HP7 := hide (HP6.out.below hb7)
      have HZ7 := hide (HZ6.out.below hb7 HZ6.out.lt)
      have HB7 := hide (HB6.out.trans (hb7.mono HB6.out.size))
      have HO7 := hide (HOQ.out.below hb7 HNQ.out.lt)
      have HN7 := hide (HNQ.out.below hb7 HNQ.out.lt)
      clear HW HP6 HZ6 HB6 HOQ HNQ hb7 x0 x1 x2 xl
      have z0 := HZ7.out.cell 0
      have z1 := HZ7.out.cell 1
      have z2 := HZ7.out.cell 2
      have y0 := HZ7.out.frozen 0
      have y1 := HZ7.out.frozen 1
      have y2 := HZ7.out.frozen 2
      have zl := HZ7.out.lt
      have x0 := HP7.out.box.cell 0
      have x1 := HP7.out.box.cell 1
      have x2 := HP7.out.box.cell 2
      have xl := HP7.out.box.lt
      by_cases hwr : (⟨ps, a0, a1⟩ : LogPlan).write = s
      rotate_left
      · obtain ⟨e1, e2⟩ := neL hwr
        have HNO := hide (write_ne (fun r h1 h2 => (HF.out r h1 h2).2) hwr)
        go_wp2
        refine bodyPost_ret (ret_row_tmp rfl _ _ w.heap.size 30 [.slice none 0 0, .int .i64 0, .int .i64 0] (HZ7.out.setAll [.slice none 0 0, .int .i64 0, .int .i64 0] rfl) _ _ rfl rfl Tryz.underlying30 rfl (by kernel_rfl)) rfl ?_
        exact pr_none HNO.out (HB7.out.trans (below_of_grown (setN_grown [.slice none 0 0, .int .i64 0, .int .i64 0] 0 (grown_refl _ (some w.heap.size))) (Nat.le_refl _) HB7.out.size))
      · have HY := hide (read_yes (fun r h1 h2 => (HF.out r h1 h2).2) hwr (by omega))
        obtain ⟨e1, e2⟩ := eqL hwr
        clear hwr
        go_wp2
        refine bodyPost_ret (ret_row_tmp rfl _ _ w.heap.size 30 [.slice A ps.length c, .int .i64 a0, .int .i64 a1] (HZ7.out.setAll [.slice A ps.length c, .int .i64 a0, .int .i64 a1] rfl) _ _ rfl rfl Tryz.underlying30 rfl (by kernel_rfl)) rfl ?_
        have hgr := setN_grown [.slice A ps.length c, .int .i64 a0, .int .i64 a1] 0 (grown_refl w7 (some w.heap.size))
        have hno : w.heap.size ∉ fq := HN7.out.out (by omega)
        exact pr_some HY.out (HO7.out.grown hgr HN7.out.lt hno) ((HN7.out.grown hgr (fun b e => by injection e with e; subst e; exact hno)).mono (by omega)) (HB7.out.trans (below_of_grown hgr (Nat.le_refl _) HB7.out.size))
    have e1 : (s.extract m (m + 5)).toList = [115, 101, 97, 108, 32] := by rw [Lib.toList_data, sub5]; exact (seal5 s m).1 hse
    have e2 : ((s.extract m (m + 5)).toList == [115, 101, 97, 108, 32]) = true := by simpa using e1
    have hse5 := (seal5 s m).1 hse
    by_cases hlen : ps.length ≤ 40
    rotate_left
    · have hlI : ¬ ((ps.length : Int) ≤ 40) := by omega
      obtain ⟨zs, hzs⟩ : ∃ zs, zs = (numsK 2 (s.data.toList.drop (m + 5))).1 := ⟨_, rfl⟩
      have hzl : zs.length = 2 := by rw [hzs]; exact numsK_len 2 _
      have hzb : ∀ z ∈ zs, 0 ≤ z ∧ z ≤ 9999999 := by rw [hzs]; exact numsK_bd 2 _
      have HF := hfin (fun _ _ => hlen)
      rw [← hzs] at HF
      have HC := hide (l42Nums_any s (m + 5) 2 wr hs (by omega) (by decide))
      rw [← hzs, show ((m + 5 : Nat) : Int) = (m : Int) + 5 by omega, show ((2 : Nat) : Int) = 2 by rfl] at HC
      generalize (numsK 2 (s.data.toList.drop (m + 5))).2 = kk at *
      have hz0 := mem_getD zs 0 hzb
      have hz1 := mem_getD zs 1 hzb
      have HTW := hide (two_of hzl)
      clear hzs hfin
      go_wp2_with fail
      refine HC.out.mono ?_
      rintro e w5 ⟨A6, n6, c6, us6, rfl, hown6, hb5⟩
      obtain ⟨g6, rfl, rfl, hc6, hB6, hg6, hcell⟩ := ints_cells hown6 (by omega)
      rw [HTW.out] at hcell
      have v0 := hcell 0 _ rfl
      have v1 := hcell 1 _ rfl
      have HP5 := hide (HPB.out.below hb5)
      have HZ5 := hide (HZ.out.below hb5 HZ.out.lt)
      have HB5 := hide (HB.out.trans (hb5.mono HB.out.size))
      rw [hzl] at *
      generalize zs.getD 0 0 = a0 at *
      generalize zs.getD 1 0 = a1 at *
      clear HC hown6 hcell HTW hzb hzl HPB HZ HB hb5 x0 xf xl HRD
      have x0 := HP5.out.box.cell 0
      have x1 := HP5.out.box.cell 1
      have x2 := HP5.out.box.cell 2
      have xl := HP5.out.box.lt
      have f1 := HP5.out.box.frozen 1
      have f2 := HP5.out.box.frozen 2
      have hgb : g6 ≠ w.heap.size + 1 := by omega
      go_upto_region 12 with fail
      have HP6 := hide (HP5.out.put a0 a1)
      have HZ6 := hide ((HZ5.out.far (p := ⟨w.heap.size + 1, 1, none⟩) (by simp) (.int .i64 a0)).far (p := ⟨w.heap.size + 1, 2, none⟩) (by simp) (.int .i64 a1))
      have HB6 := hide (below_put HB5.out (Nat.le_succ _) (.int .i64 a0) (.int .i64 a1))
      generalize (World.setCell _ _ _) = w6 at HP6 HZ6 HB6 ⊢
      clear HP5 HZ5 HB5 x0 x1 x2 xl f1 f2 v0 v1 hgb hg6 hB6 hc6
      obtain ⟨fq, hoq, hnq⟩ := HP6.out.ow (wf_small _ hz0) (wf_small _ hz1)
      have HOQ := hide hoq
      have HNQ := hide hnq
      have HW := hide (specLogPlanWrite_any ⟨ps, a0, a1⟩ _ fq w6 hoq hnq.lt (by rw [LogPlan.bulk_eq]; unfold LogPart.bulkL; simp only; omega))
      have x0 := HP6.out.box.cell 0
      have x1 := HP6.out.box.cell 1
      have x2 := HP6.out.box.cell 2
      have xl := HP6.out.box.lt
      clear hoq hnq
      go_wp2_with fail
      refine HW.out.mono ?_
      rintro e w7 ⟨rfl, hb7⟩
      have HP7 := hide (HP6.out.below hb7)
      have HZ7 := hide (HZ6.out.below hb7 HZ6.out.lt)
      have HB7 := hide (HB6.out.trans (hb7.mono HB6.out.size))
      have HO7 := hide (HOQ.out.below hb7 HNQ.out.lt)
      have HN7 := hide (HNQ.out.below hb7 HNQ.out.lt)
      clear HW HP6 HZ6 HB6 HOQ HNQ hb7 x0 x1 x2 xl
      have z0 := HZ7.out.cell 0
      have z1 := HZ7.out.cell 1
      have z2 := HZ7.out.cell 2
      have y0 := HZ7.out.frozen 0
      have y1 := HZ7.out.frozen 1
      have y2 := HZ7.out.frozen 2
      have zl := HZ7.out.lt
      have x0 := HP7.out.box.cell 0
      have x1 := HP7.out.box.cell 1
      have x2 := HP7.out.box.cell 2
      have xl := HP7.out.box.lt
      by_cases hwr : (⟨ps, a0, a1⟩ : LogPlan).write = s
      rotate_left
      · obtain ⟨e1, e2⟩ := neL hwr
        have HNO := hide (write_ne (fun r h1 h2 => (HF.out r h1 h2).2) hwr)
        go_wp2
        refine bodyPost_ret (ret_row_tmp rfl _ _ w.heap.size 30 [.slice none 0 0, .int .i64 0, .int .i64 0] (HZ7.out.setAll [.slice none 0 0, .int .i64 0, .int .i64 0] rfl) _ _ rfl rfl Tryz.underlying30 rfl (by kernel_rfl)) rfl ?_
        exact pr_none HNO.out (HB7.out.trans (below_of_grown (setN_grown [.slice none 0 0, .int .i64 0, .int .i64 0] 0 (grown_refl _ (some w.heap.size))) (Nat.le_refl _) HB7.out.size))
      · have HY := hide (read_yes (fun r h1 h2 => (HF.out r h1 h2).2) hwr (by omega))
        obtain ⟨e1, e2⟩ := eqL hwr
        clear hwr
        go_wp2
        refine bodyPost_ret (ret_row_tmp rfl _ _ w.heap.size 30 [.slice A ps.length c, .int .i64 a0, .int .i64 a1] (HZ7.out.setAll [.slice A ps.length c, .int .i64 a0, .int .i64 a1] rfl) _ _ rfl rfl Tryz.underlying30 rfl (by kernel_rfl)) rfl ?_
        have hgr := setN_grown [.slice A ps.length c, .int .i64 a0, .int .i64 a1] 0 (grown_refl w7 (some w.heap.size))
        have hno : w.heap.size ∉ fq := HN7.out.out (by omega)
        exact pr_some HY.out (HO7.out.grown hgr HN7.out.lt hno) ((HN7.out.grown hgr (fun b e => by injection e with e; subst e; exact hno)).mono (by omega)) (HB7.out.trans (below_of_grown hgr (Nat.le_refl _) HB7.out.size))
    have hlI : (ps.length : Int) ≤ 40 := by omega
    clear hfin
    have HST := hide (readAt_step HRD.out hse5)
    obtain ⟨zs, hzs⟩ : ∃ zs, zs = (numsK 4 (s.data.toList.drop (m + 5))).1 := ⟨_, rfl⟩
    have hkk := numsK_at 4 (s.data.toList.drop (m + 5))
    have hzl : zs.length = 4 := by rw [hzs]; exact numsK_len 4 _
    have hzb : ∀ z ∈ zs, 0 ≤ z ∧ z ≤ 9999999 := by rw [hzs]; exact numsK_bd 4 _
    have HC := hide (l42Nums_any s (m + 5) 4 wr hs (by omega) (by decide))
    rw [← hzs] at HST HC
    rw [show ((m + 5 : Nat) : Int) = (m : Int) + 5 by omega, show ((4 : Nat) : Int) = 4 by rfl] at HC
    generalize (numsK 4 (s.data.toList.drop (m + 5))).2 = kk at *
    have HZ0 := hide (mem_getD zs 0 hzb)
    have HZ1 := hide (mem_getD zs 1 hzb)
    have HZ2 := hide (mem_getD zs 2 hzb)
    have HZ3 := hide (mem_getD zs 3 hzb)
    have HTW := hide (four_of hzl)
    clear hzs
    go_wp2_with fail
    refine HC.out.mono ?_
    rintro e w5 ⟨A6, n6, c6, us6, rfl, hown6, hb5⟩
    have HOL := HPB.out.own.lt
    obtain ⟨g6, rfl, rfl, hc6, hB6, hg6, hcell⟩ := ints_cells hown6 (by omega)
    rw [HTW.out] at hcell
    have v0 := hcell 0 _ rfl
    have v1 := hcell 1 _ rfl
    have v2 := hcell 2 _ rfl
    have v3 := hcell 3 _ rfl
    have HP5 := hide (HPB.out.below hb5)
    have HZ5 := hide (HZ.out.below hb5 HZ.out.lt)
    have HB5 := hide (HB.out.trans (hb5.mono HB.out.size))
    have hs5 := Nat.le_trans hsz hb5.size
    rw [hzl] at *
    generalize zs.getD 0 0 = a0 at *
    generalize zs.getD 1 0 = a1 at *
    generalize zs.getD 2 0 = a2 at *
    generalize zs.getD 3 0 = a3 at *
    clear HC hown6 hcell HTW hzb hzl HPB HZ HB hb5 x0 xf xl HRD e1 e2 hse hse5
    have HD := hide (fun W => part_src ⟨a0, a1, a2, a3⟩ (wf_small _ HZ0.out) (wf_small _ HZ1.out) (wf_small _ HZ2.out) (wf_small _ HZ3.out) W)
    have hne : (Value.slice A ps.length c).ownBlock ≠ some g6 := fun e => by have := HOL g6 e; omega
    have hq0 : Below w5.heap.size w5 w5.drew := below_drewN (Below.refl _ _) 1
    have HP6 := hide (HP5.out.below hq0)
    have HPLT := hide HP5.out.lt
    have HZ6 := hide (HZ5.out.below hq0 HZ5.out.lt)
    have HB6 := hide (HB5.out.trans (hq0.mono HB5.out.size))
    have hs6 := Nat.le_trans hs5 hq0.size
    have hg6' : g6 < w5.drew.heap.size := Nat.lt_of_lt_of_le hg6 hq0.size
    have hS0 : w5.drew.cell? ⟨g6, 0, none⟩ = some (.int .i64 a0) ∧ w5.drew.cell? ⟨g6, 1, none⟩ = some (.int .i64 a1) ∧ w5.drew.cell? ⟨g6, 2, none⟩ = some (.int .i64 a2) ∧ w5.drew.cell? ⟨g6, 3, none⟩ = some (.int .i64 a3) := ⟨(hq0.cell (p := ⟨g6, 0, none⟩) hg6).trans v0, (hq0.cell (p := ⟨g6, 1, none⟩) hg6).trans v1, (hq0.cell (p := ⟨g6, 2, none⟩) hg6).trans v2, (hq0.cell (p := ⟨g6, 3, none⟩) hg6).trans v3⟩
    clear HP5 HZ5 HB5 v0 v1 v2 v3 hq0 hs5 hg6
    go_wp2_with fail
    refine wp_region_held_drew (S := fun W => W.cell? ⟨g6, 0, none⟩ = some (.int .i64 a0) ∧ W.cell? ⟨g6, 1, none⟩ = some (.int .i64 a1) ∧ W.cell? ⟨g6, 2, none⟩ = some (.int .i64 a2) ∧ W.cell? ⟨g6, 3, none⟩ = some (.int .i64 a3)) (by kernel_rfl) hS0 (fun _ => ?_)
    generalize w5.drew = w6 at *
    refine wpAnyH_take (i := 0) (v := .pointer (some ⟨w.heap.size + 1, 0, none⟩)) rfl (by kernel_rfl) (by kernel_rfl) (by kernel_rfl) (fun _ _ _ h => h) (Or.inl ⟨by kernel_rfl, by (intro W hS; go_simp; first | done | with_reducible rfl | rfl)⟩) hS0 ?_
    (try simp only [Act.put, List.getElem_toArray, List.getElem_cons_zero, List.getElem_cons_succ, List.setIfInBounds_toArray, List.set_cons_zero, List.set_cons_succ])
    refine wpAnyH_take (i := 2) (v := .slice (some ⟨g6, 0, none⟩) 4 c6) rfl (by kernel_rfl) (by kernel_rfl) (by kernel_rfl) (fun _ _ _ h => h) (Or.inl ⟨by kernel_rfl, by (intro W hS; go_simp; first | done | with_reducible rfl | rfl)⟩) hS0 ?_
    (try simp only [Act.put, List.getElem_toArray, List.getElem_cons_zero, List.getElem_cons_succ, List.setIfInBounds_toArray, List.set_cons_zero, List.set_cons_succ])
    refine wpAnyH_take (i := 3) (v := .pointer (some ⟨g6, 0, none⟩)) rfl (by kernel_rfl) (by kernel_rfl) (by kernel_rfl) (fun _ _ _ h => h) (Or.inl ⟨by kernel_rfl, by (intro W hS; go_simp; first | done | with_reducible rfl | rfl)⟩) hS0 ?_
    (try simp only [Act.put, List.getElem_toArray, List.getElem_cons_zero, List.getElem_cons_succ, List.setIfInBounds_toArray, List.set_cons_zero, List.set_cons_succ])
    refine wpAnyH_take (i := 4) (v := .int .i64 a0) rfl (by kernel_rfl) (by kernel_rfl) (by kernel_rfl) (fun _ _ _ h => h) (Or.inl ⟨by kernel_rfl, by (intro W hS; have y := hS.1; have yl := cell_lt y; go_simp; first | done | with_reducible rfl | rfl)⟩) hS0 ?_
    (try simp only [Act.put, List.getElem_toArray, List.getElem_cons_zero, List.getElem_cons_succ, List.setIfInBounds_toArray, List.set_cons_zero, List.set_cons_succ])
    refine wpAnyH_take (i := 5) (v := .slice (some ⟨g6, 0, none⟩) 4 c6) rfl (by kernel_rfl) (by kernel_rfl) (by kernel_rfl) (fun _ _ _ h => h) (Or.inl ⟨by kernel_rfl, by (intro W hS; go_simp; first | done | with_reducible rfl | rfl)⟩) hS0 ?_
    (try simp only [Act.put, List.getElem_toArray, List.getElem_cons_zero, List.getElem_cons_succ, List.setIfInBounds_toArray, List.set_cons_zero, List.set_cons_succ])
    refine wpAnyH_take (i := 6) (v := .pointer (some ⟨g6, 1, none⟩)) rfl (by kernel_rfl) (by kernel_rfl) (by kernel_rfl) (fun _ _ _ h => h) (Or.inl ⟨by kernel_rfl, by (intro W hS; go_simp; first | done | with_reducible rfl | rfl)⟩) hS0 ?_
    (try simp only [Act.put, List.getElem_toArray, List.getElem_cons_zero, List.getElem_cons_succ, List.setIfInBounds_toArray, List.set_cons_zero, List.set_cons_succ])
    refine wpAnyH_take (i := 7) (v := .int .i64 a1) rfl (by kernel_rfl) (by kernel_rfl) (by kernel_rfl) (fun _ _ _ h => h) (Or.inl ⟨by kernel_rfl, by (intro W hS; have y := hS.2.1; have yl := cell_lt y; go_simp; first | done | with_reducible rfl | rfl)⟩) hS0 ?_
    (try simp only [Act.put, List.getElem_toArray, List.getElem_cons_zero, List.getElem_cons_succ, List.setIfInBounds_toArray, List.set_cons_zero, List.set_cons_succ])
    refine wpAnyH_take (i := 8) (v := .slice (some ⟨g6, 0, none⟩) 4 c6) rfl (by kernel_rfl) (by kernel_rfl) (by kernel_rfl) (fun _ _ _ h => h) (Or.inl ⟨by kernel_rfl, by (intro W hS; go_simp; first | done | with_reducible rfl | rfl)⟩) hS0 ?_
    (try simp only [Act.put, List.getElem_toArray, List.getElem_cons_zero, List.getElem_cons_succ, List.setIfInBounds_toArray, List.set_cons_zero, List.set_cons_succ])
    refine wpAnyH_take (i := 9) (v := .pointer (some ⟨g6, 2, none⟩)) rfl (by kernel_rfl) (by kernel_rfl) (by kernel_rfl) (fun _ _ _ h => h) (Or.inl ⟨by kernel_rfl, by (intro W hS; go_simp; first | done | with_reducible rfl | rfl)⟩) hS0 ?_
    (try simp only [Act.put, List.getElem_toArray, List.getElem_cons_zero, List.getElem_cons_succ, List.setIfInBounds_toArray, List.set_cons_zero, List.set_cons_succ])
    refine wpAnyH_take (i := 10) (v := .int .i64 a2) rfl (by kernel_rfl) (by kernel_rfl) (by kernel_rfl) (fun _ _ _ h => h) (Or.inl ⟨by kernel_rfl, by (intro W hS; have y := hS.2.2.1; have yl := cell_lt y; go_simp; first | done | with_reducible rfl | rfl)⟩) hS0 ?_
    (try simp only [Act.put, List.getElem_toArray, List.getElem_cons_zero, List.getElem_cons_succ, List.setIfInBounds_toArray, List.set_cons_zero, List.set_cons_succ])
    refine wpAnyH_take (i := 11) (v := .slice (some ⟨g6, 0, none⟩) 4 c6) rfl (by kernel_rfl) (by kernel_rfl) (by kernel_rfl) (fun _ _ _ h => h) (Or.inl ⟨by kernel_rfl, by (intro W hS; go_simp; first | done | with_reducible rfl | rfl)⟩) hS0 ?_
    (try simp only [Act.put, List.getElem_toArray, List.getElem_cons_zero, List.getElem_cons_succ, List.setIfInBounds_toArray, List.set_cons_zero, List.set_cons_succ])
    refine wpAnyH_take (i := 12) (v := .pointer (some ⟨g6, 3, none⟩)) rfl (by kernel_rfl) (by kernel_rfl) (by kernel_rfl) (fun _ _ _ h => h) (Or.inl ⟨by kernel_rfl, by (intro W hS; go_simp; first | done | with_reducible rfl | rfl)⟩) hS0 ?_
    (try simp only [Act.put, List.getElem_toArray, List.getElem_cons_zero, List.getElem_cons_succ, List.setIfInBounds_toArray, List.set_cons_zero, List.set_cons_succ])
    refine wpAnyH_take (i := 13) (v := .int .i64 a3) rfl (by kernel_rfl) (by kernel_rfl) (by kernel_rfl) (fun _ _ _ h => h) (Or.inl ⟨by kernel_rfl, by (intro W hS; have y := hS.2.2.2; have yl := cell_lt y; go_simp; first | done | with_reducible rfl | rfl)⟩) hS0 ?_
    (try simp only [Act.put, List.getElem_toArray, List.getElem_cons_zero, List.getElem_cons_succ, List.setIfInBounds_toArray, List.set_cons_zero, List.set_cons_succ])
    refine wpAnyH_take (i := 14) (v := .agg #[.int .i64 a0, .int .i64 a1, .int .i64 a2, .int .i64 a3]) rfl (by kernel_rfl) (by kernel_rfl) (by kernel_rfl) (fun _ _ _ h => h) (Or.inl ⟨by kernel_rfl, by (intro W hS; go_simp; first | done | with_reducible rfl | rfl)⟩) hS0 ?_
    (try simp only [Act.put, List.getElem_toArray, List.getElem_cons_zero, List.getElem_cons_succ, List.setIfInBounds_toArray, List.set_cons_zero, List.set_cons_succ])
    have hq1 : Below w6.heap.size w6 (w6.alloc (.cells #[.int .i64 a0, .int .i64 a1, .int .i64 a2, .int .i64 a3] 75)) := (Below.refl _ _).alloc (Nat.le_refl _) _
    have hS1 : (w6.alloc (.cells #[.int .i64 a0, .int .i64 a1, .int .i64 a2, .int .i64 a3] 75)).cell? ⟨g6, 0, none⟩ = some (.int .i64 a0) ∧ (w6.alloc (.cells #[.int .i64 a0, .int .i64 a1, .int .i64 a2, .int .i64 a3] 75)).cell? ⟨g6, 1, none⟩ = some (.int .i64 a1) ∧ (w6.alloc (.cells #[.int .i64 a0, .int .i64 a1, .int .i64 a2, .int .i64 a3] 75)).cell? ⟨g6, 2, none⟩ = some (.int .i64 a2) ∧ (w6.alloc (.cells #[.int .i64 a0, .int .i64 a1, .int .i64 a2, .int .i64 a3] 75)).cell? ⟨g6, 3, none⟩ = some (.int .i64 a3) := ⟨(hq1.cell (p := ⟨g6, 0, none⟩) hg6').trans hS0.1, (hq1.cell (p := ⟨g6, 1, none⟩) hg6').trans hS0.2.1, (hq1.cell (p := ⟨g6, 2, none⟩) hg6').trans hS0.2.2.1, (hq1.cell (p := ⟨g6, 3, none⟩) hg6').trans hS0.2.2.2⟩
    have HSA := hide (HP6.out.own.alloc (.cells #[.int .i64 a0, .int .i64 a1, .int .i64 a2, .int .i64 a3] 75))
    have HSZ := hide (show w.heap.size + 2 ≤ (w6.alloc (.cells #[.int .i64 a0, .int .i64 a1, .int .i64 a2, .int .i64 a3] 75)).heap.size by rw [World.size_alloc]; exact Nat.le_succ_of_le hs6)
    have x0 := HP6.out.box.cell 0
    have xl := HP6.out.box.lt
    have HXA := hide (HP6.out.box.alloc (.cells #[.int .i64 a0, .int .i64 a1, .int .i64 a2, .int .i64 a3] 75))
    refine wpAnyH_ready (rs := [1, 15]) (by kernel_rfl) (by simp) ?_
    refine AllReadyH.cons rfl (fun K hK => ?_) ?_
    · go_simp
      refine hK.out _ _ hS0 (fun hHeld => ?_)
      clear hK K hHeld
      refine wpAnyH_ready (rs := [15]) (by kernel_rfl) (by simp) ?_
      refine AllReadyH.cons rfl (fun K hK => ?_) AllReadyH.nil
      go_simp
      refine hK.out _ _ hS1 (fun hHeld => ?_)
      clear hK K hHeld
      refine wpAnyH_ready (rs := [16]) (by kernel_rfl) (by simp) ?_
      refine AllReadyH.cons rfl (fun K hK => ?_) AllReadyH.nil
      refine step_app (by rfl) _ _ 28 (by rfl) ia _ 32 Tryz.underlying28 HIa.out ha0 ha1 ha2 rfl (by decide) LogPart.cells_len (by rfl) HSA.out [⟨a0, a1, a2, a3⟩] (HD.out _) (by exact New.nil _ _) (fun g _ hg => by cases hg) _ 1 1 (by rfl) rfl (SrcAt.new w6 _ _ _ _) (by omega) (by decide) HSZ.out ?_
      intro A7 n7 c7 w7 hn7 hown7 hgb7
      clear hn7
      have r7 := hgb7.row HXA.out (HSA.out.low HPLT.out)
      have hS7 : w7.cell? ⟨g6, 0, none⟩ = some (.int .i64 a0) ∧ w7.cell? ⟨g6, 1, none⟩ = some (.int .i64 a1) ∧ w7.cell? ⟨g6, 2, none⟩ = some (.int .i64 a2) ∧ w7.cell? ⟨g6, 3, none⟩ = some (.int .i64 a3) := ⟨cell_gb hgb7 hS1.1 hne, cell_gb hgb7 hS1.2.1 hne, cell_gb hgb7 hS1.2.2.1 hne, cell_gb hgb7 hS1.2.2.2 hne⟩
      have hg6b : g6 ≠ w.heap.size + 1 := by omega
      have hS8 : (w7.setCell ⟨w.heap.size + 1, 0, none⟩ (.slice A7 n7 c7)).cell? ⟨g6, 0, none⟩ = some (.int .i64 a0) ∧ (w7.setCell ⟨w.heap.size + 1, 0, none⟩ (.slice A7 n7 c7)).cell? ⟨g6, 1, none⟩ = some (.int .i64 a1) ∧ (w7.setCell ⟨w.heap.size + 1, 0, none⟩ (.slice A7 n7 c7)).cell? ⟨g6, 2, none⟩ = some (.int .i64 a2) ∧ (w7.setCell ⟨w.heap.size + 1, 0, none⟩ (.slice A7 n7 c7)).cell? ⟨g6, 3, none⟩ = some (.int .i64 a3) := ⟨cell_set hS7.1 hg6b, cell_set hS7.2.1 hg6b, cell_set hS7.2.2.1 hg6b, cell_set hS7.2.2.2 hg6b⟩
      have x7 := r7.cell 0
      have f7 := r7.frozen 0
      have l7 := r7.lt
      have HP8 := hide (HP6.out.app (x := ⟨a0, a1, a2, a3⟩) hgb7 hown7)
      have HZ8 := hide ((hgb7.row (HZ6.out.alloc _) (HSA.out.low (show w.heap.size < w.heap.size + 2 by omega))).far (p := ⟨w.heap.size + 1, 0, none⟩) (by simp) (.slice A7 n7 c7))
      have HB8 := hide ((HB6.out.trans ((hq1.mono HB6.out.size).trans (hgb7.toBelow (B := w.heap.size) (by rw [World.size_alloc]; omega) (fun g e => by have := HSA.out.from e; omega)))).setCell (p := ⟨w.heap.size + 1, 0, none⟩) (Nat.le_succ _) (.slice A7 n7 c7))
      have hs8 : w.heap.size + 2 ≤ (w7.setCell ⟨w.heap.size + 1, 0, none⟩ (.slice A7 n7 c7)).heap.size := by have := hgb7.grown.size; rw [World.size_alloc] at this; simp; omega
      refine hK.out _ _ hS7 (fun hHeld => ?_)
      clear hK K hHeld
      refine wpAnyH_take (i := 17) (v := .pointer (some ⟨w.heap.size + 1, 0, none⟩)) rfl (by kernel_rfl) (by kernel_rfl) (by kernel_rfl) (fun _ _ _ h => h) (Or.inl ⟨by kernel_rfl, by (intro W hS; go_simp; first | done | with_reducible rfl | rfl)⟩) hS7 ?_
      (try simp only [Act.put, List.getElem_toArray, List.getElem_cons_zero, List.getElem_cons_succ, List.setIfInBounds_toArray, List.set_cons_zero, List.set_cons_succ])
      refine wpAnyH_ready (rs := [18]) (by kernel_rfl) (by simp) ?_
      refine AllReadyH.cons rfl (fun K hK => ?_) AllReadyH.nil
      go_simp
      refine hK.out _ _ hS8 (fun hHeld => ?_)
      clear hK K hHeld hS7 hS8 x7 f7 l7 r7 hown7 hgb7 hS1 hS0
      refine wpAnyH_done (by kernel_rfl) ?_ _
      generalize (World.setCell _ _ _) = w8 at HP8 HZ8 HB8 hs8 ⊢
      go_wp2
      go_roundw
      case rel => exact ⟨m + 5 + kk, ps ++ [⟨a0, a1, a2, a3⟩], A7, n7, c7, _, by push_cast; rfl, HST.out, by simp; omega, by simp; omega, HP8.out, HZ8.out, HB8.out, hs8⟩
      case measure => simp [intOf]; omega
    · refine AllReadyH.cons rfl (fun K hK => ?_) AllReadyH.nil
      go_simp
      refine hK.out _ _ hS1 (fun hHeld => ?_)
      clear hK K hHeld
      have x0' := HXA.out.cell 0
      have xl' := HXA.out.lt
      refine wpAnyH_ready (rs := [1]) (by kernel_rfl) (by simp) ?_
      refine AllReadyH.cons rfl (fun K hK => ?_) AllReadyH.nil
      go_simp
      refine hK.out _ _ hS1 (fun hHeld => ?_)
      clear hK K hHeld x0' xl'
      refine wpAnyH_ready (rs := [16]) (by kernel_rfl) (by simp) ?_
      refine AllReadyH.cons rfl (fun K hK => ?_) AllReadyH.nil
      refine step_app (by rfl) _ _ 28 (by rfl) ia _ 32 Tryz.underlying28 HIa.out ha0 ha1 ha2 rfl (by decide) LogPart.cells_len (by rfl) HSA.out [⟨a0, a1, a2, a3⟩] (HD.out _) (by exact New.nil _ _) (fun g _ hg => by cases hg) _ 1 1 (by rfl) rfl (SrcAt.new w6 _ _ _ _) (by omega) (by decide) HSZ.out ?_
      intro A7 n7 c7 w7 hn7 hown7 hgb7
      clear hn7
      have r7 := hgb7.row HXA.out (HSA.out.low HPLT.out)
      have hS7 : w7.cell? ⟨g6, 0, none⟩ = some (.int .i64 a0) ∧ w7.cell? ⟨g6, 1, none⟩ = some (.int .i64 a1) ∧ w7.cell? ⟨g6, 2, none⟩ = some (.int .i64 a2) ∧ w7.cell? ⟨g6, 3, none⟩ = some (.int .i64 a3) := ⟨cell_gb hgb7 hS1.1 hne, cell_gb hgb7 hS1.2.1 hne, cell_gb hgb7 hS1.2.2.1 hne, cell_gb hgb7 hS1.2.2.2 hne⟩
      have hg6b : g6 ≠ w.heap.size + 1 := by omega
      have hS8 : (w7.setCell ⟨w.heap.size + 1, 0, none⟩ (.slice A7 n7 c7)).cell? ⟨g6, 0, none⟩ = some (.int .i64 a0) ∧ (w7.setCell ⟨w.heap.size + 1, 0, none⟩ (.slice A7 n7 c7)).cell? ⟨g6, 1, none⟩ = some (.int .i64 a1) ∧ (w7.setCell ⟨w.heap.size + 1, 0, none⟩ (.slice A7 n7 c7)).cell? ⟨g6, 2, none⟩ = some (.int .i64 a2) ∧ (w7.setCell ⟨w.heap.size + 1, 0, none⟩ (.slice A7 n7 c7)).cell? ⟨g6, 3, none⟩ = some (.int .i64 a3) := ⟨cell_set hS7.1 hg6b, cell_set hS7.2.1 hg6b, cell_set hS7.2.2.1 hg6b, cell_set hS7.2.2.2 hg6b⟩
      have x7 := r7.cell 0
      have f7 := r7.frozen 0
      have l7 := r7.lt
      have HP8 := hide (HP6.out.app (x := ⟨a0, a1, a2, a3⟩) hgb7 hown7)
      have HZ8 := hide ((hgb7.row (HZ6.out.alloc _) (HSA.out.low (show w.heap.size < w.heap.size + 2 by omega))).far (p := ⟨w.heap.size + 1, 0, none⟩) (by simp) (.slice A7 n7 c7))
      have HB8 := hide ((HB6.out.trans ((hq1.mono HB6.out.size).trans (hgb7.toBelow (B := w.heap.size) (by rw [World.size_alloc]; omega) (fun g e => by have := HSA.out.from e; omega)))).setCell (p := ⟨w.heap.size + 1, 0, none⟩) (Nat.le_succ _) (.slice A7 n7 c7))
      have hs8 : w.heap.size + 2 ≤ (w7.setCell ⟨w.heap.size + 1, 0, none⟩ (.slice A7 n7 c7)).heap.size := by have := hgb7.grown.size; rw [World.size_alloc] at this; simp; omega
      refine hK.out _ _ hS7 (fun hHeld => ?_)
      clear hK K hHeld
      refine wpAnyH_take (i := 17) (v := .pointer (some ⟨w.heap.size + 1, 0, none⟩)) rfl (by kernel_rfl) (by kernel_rfl) (by kernel_rfl) (fun _ _ _ h => h) (Or.inl ⟨by kernel_rfl, by (intro W hS; go_simp; first | done | with_reducible rfl | rfl)⟩) hS7 ?_
      (try simp only [Act.put, List.getElem_toArray, List.getElem_cons_zero, List.getElem_cons_succ, List.setIfInBounds_toArray, List.set_cons_zero, List.set_cons_succ])
      refine wpAnyH_ready (rs := [18]) (by kernel_rfl) (by simp) ?_
      refine AllReadyH.cons rfl (fun K hK => ?_) AllReadyH.nil
      go_simp
      refine hK.out _ _ hS8 (fun hHeld => ?_)
      clear hK K hHeld hS7 hS8 x7 f7 l7 r7 hown7 hgb7 hS1 hS0
      refine wpAnyH_done (by kernel_rfl) ?_ _
      generalize (World.setCell _ _ _) = w8 at HP8 HZ8 HB8 hs8 ⊢
      go_wp2
      go_roundw
      case rel => exact ⟨m + 5 + kk, ps ++ [⟨a0, a1, a2, a3⟩], A7, n7, c7, _, by push_cast; rfl, HST.out, by simp; omega, by simp; omega, HP8.out, HZ8.out, HB8.out, hs8⟩
      case measure => simp [intOf]; omega
end Go.Proofs.YtddjgbhkfdpffaaGreatDoor
