/-
  The newest plan of a disk: the program. Written by hand.
-/
import Derived.Test.YtddjgbhkfdpffaaGreatDoorWOpenP
import Derived.Test.YtddjgbhkfdpffaaGreatDoorWOpenNI
import Derived.Test.YtddjgbhkfdpffaaGreatDoorWPlRI2
set_option linter.unusedVariables false
set_option linter.unusedSimpArgs false
namespace Go.Proofs.YtddjgbhkfdpffaaGreatDoor
open Go.ChangeShapes Go.WideShapes Go.ChangeAt Go.RowKit

theorem numberOf_m (s : ByteArray) (w : World) (hs : s.size ≤ 1048576) (hl : Lay w) :
    Calls Tryz.prog 128 #[.string s, .int .u8 109] w fun e w' => e = .returned (.int .i64 (fileNum s 109 : Int)) ∧ Below w.heap.size w w' := numberOf_any s 109 w hs hl
set_option maxRecDepth 100000 in
set_option maxHeartbeats 2000000 in
theorem newestPlan_any (d : Disk) (us0 : List Value) (fp : List Nat) (w : World) (h : OwC w d.cells us0 fp) (hf : Lt fp w.heap.size) (hbk : d.bulk ≤ 1048576) (hok : tb d.ok = true) (hl : Lay w) (hw7 : 7 < w.heap.size) :
    Calls Tryz.prog 90 #[.agg us0.toArray] w (NewestRet d w) := by
  have HOC := hide h
  obtain ⟨A1, c1, A2, c2, A3, c3, f1, f2, f3, rfl, o1, o2, o3, rfl⟩ := h.oDisk
  clear h o1 o2 o3
  have HLK := hide (fun (x : ByteArray) (hx : x.size ≤ 1048576) (W : World) (hb : Below w.heap.size w W) => implLook_any d _ _ x W (HOC.out.below hb hf) (hf.up hb) hbk hx hok)
  have HNM := hide (fun (W : World) (hb : Below w.heap.size w W) => implThere_any d _ _ W (HOC.out.below hb hf) (hf.up hb) hbk)
  have HLY := hide (fun (W : World) (hb : Below w.heap.size w W) => hl.low hb hw7)
  have HSH := hide (show d.shown = d.afterI d.moves.length from (Disk.shown_yes hok).trans (d.ok_after (tb_got hok) _ (Nat.le_refl _)).1.symm)
  have HW7 := hide hw7
  clear hok hl hw7
  go_enter Tryz.func90, Tryz.ntmps90
  go_upto_region 1 with fail
  generalize hwA : w.alloc (.cells #[.slice A1 d.files.length c1, .slice A2 d.names.length c2, .slice A3 d.moves.length c3] 38) = wA
  have hA : Below w.heap.size w wA := by rw [← hwA]; exact (Below.refl _ _).alloc (Nat.le_refl _) _
  have hsA : wA.heap.size = w.heap.size + 1 := by rw [← hwA]; simp
  have RA : Row wA w.heap.size 38 [.slice A1 d.files.length c1, .slice A2 d.names.length c2, .slice A3 d.moves.length c3] := by rw [← hwA]; exact Row.new w _ _
  try simp only [hsA]
  clear hwA
  generalize hwB : wA.alloc (.cells #[.slice none 0 0, .int .i64 0, .int .i64 0] 30) = wB
  have hAB : Below wA.heap.size wA wB := by rw [← hwB]; exact (Below.refl _ _).alloc (Nat.le_refl _) _
  have RZ := hide (show Row wB (w.heap.size + 1) 30 [.slice none 0 0, .int .i64 0, .int .i64 0] from by rw [← hwB, ← hsA]; exact Row.new wA _ _)
  have HRD := hide (RA.below hAB RA.lt)
  have HB1 := hide (hA.trans (hAB.mono hA.size))
  have hsB : wB.heap.size = w.heap.size + 2 := by rw [← hwB, World.size_alloc, hsA]
  clear hwB hAB hA hsA RA
  go_upto_region 2 with fail
  try simp only [hsB]
  generalize hwC : wB.alloc (.cells #[.slice none 0 0, .int .i64 0, .int .i64 0] 30) = wC
  have hC : Below wB.heap.size wB wC := by rw [← hwC]; exact (Below.refl _ _).alloc (Nat.le_refl _) _
  have RC := hide (show Row wC (w.heap.size + 2) 30 [.slice none 0 0, .int .i64 0, .int .i64 0] from by rw [← hwC, ← hsB]; exact Row.new wB _ _)
  have HBI0 := hide (show BestIn wC (w.heap.size + 2) (w.heap.size + 1) LogPlan.zero [.slice none 0 0, .int .i64 0, .int .i64 0] [] from ⟨RC.out, LogPlan.zero_ow _, New.nil _ _, by simp, RZ.out.below hC RZ.out.lt, Nat.lt_succ_self _⟩)
  have HB2 := hide (HB1.out.trans (hC.mono HB1.out.size))
  have HR2 := hide (HRD.out.below hC HRD.out.lt)
  have hsC : w.heap.size + 3 ≤ wC.heap.size := RC.out.lt
  clear hwC hC RC HB1 HRD RZ hsB
  have d0 := HR2.out.cell 0
  have d1 := HR2.out.cell 1
  have d2 := HR2.out.cell 2
  have ld := HR2.out.lt
  go_wp2_with fail
  refine (HNM.out wC HB2.out).mono ?_
  rintro e w2 ⟨v, us, rfl, hs, hb2⟩
  obtain ⟨Aq, cq, rfl⟩ := hs.form
  obtain ⟨fq, hq, hqn, _⟩ := hs.toOw'
  rw [← HSH.out] at hq
  rw [← HSH.out]
  have HB3 := hide (HB2.out.trans (hb2.mono HB2.out.size))
  have HR3 := hide (HR2.out.below hb2 ld)
  have HBI := hide (HBI0.out.below hb2)
  have HQ3 := hide hq
  have HQO := hide (hqn.out (Nat.lt_of_lt_of_le (Nat.lt_succ_self (w.heap.size + 2)) hsC))
  have HQL := hide hqn.lt
  clear hb2 hq hqn hs d0 d1 d2 ld HNM HB2 HR2 HBI0 hsC
  obtain ⟨b, hbe⟩ : ∃ b, b = w.heap.size + 2 := ⟨_, rfl⟩
  have hrb : w.heap.size + 1 < b := by omega
  rw [← hbe] at HBI HQO ⊢
  clear hbe
  go_wp2
  go_loopw [5, 17] (fun n i wr => ∃ (m j : Nat) (p : LogPlan) (us : List Value) (fr : List Nat), n = .int .i64 (m : Int) ∧ i = .int .i64 (j : Int) ∧ j ≤ d.shown.length ∧ m ≤ 999999 ∧ newestOf d (d.shown.drop j) p m = d.newest ∧ BestIn wr b (w.heap.size + 1) p us fr ∧ Row wr w.heap.size 38 [.slice A1 d.files.length c1, .slice A2 d.names.length c2, .slice A3 d.moves.length c3] ∧ Below w.heap.size w wr ∧ Ow wr (.s 1 d.shown.length (d.shown.flatMap strC)) (.slice Aq d.shown.length cq) fq ∧ Lt fq wr.heap.size) (fun _ i _ => d.shown.length - (intOf i).toNat)
  case atStart => exact ⟨0, 0, _, _, _, rfl, rfl, Nat.zero_le _, by decide, rfl, HBI.out, HR3.out, HB3.out, HQ3.out, HQL.out⟩
  case round =>
    clear HBI HR3 HB3 HQ3 HQL
    obtain ⟨m, j, p, us, fr, rfl, rfl, hj, hm, hnw, hbi, hrd, hbw, hq4, hql4⟩ := hrel
    obtain ⟨Ap, cp, fpp, rfl, op, wp1, wp2, rfl⟩ := hbi.ow.oLogPlan
    have HBI := hide hbi
    have HRD := hide hrd
    have HB := hide hbw
    have HQ4 := hide hq4
    have hml := hq4.nlen
    unfold maxLen at hml
    have HNW := hide hnw
    clear hbi hrd hbw hq4 hnw op wp1 wp2
    by_cases hlt : j < d.shown.length
    · obtain ⟨g, off, rfl, hgm, hcl, hsz⟩ := strs_at HQ4.out hlt
      have hqw := hql4
      have hgw := hqw _ hgm
      have hx8 : d.shown[j].size ≤ 1048576 := by have := Disk.shown_size (d := d) (List.getElem_mem hlt); omega
      have HLK2 := hide (HLK.out d.shown[j] hx8)
      have HNU := hide (numberOf_m d.shown[j] wr hx8 (HLY.out wr HB.out))
      have hk9 := fileNum_le d.shown[j] 109
      have hls := d.look_size d.shown[j]
      have HPR := hide (fun (W : World) (hb : Below w.heap.size w W) => implLogPlanRead_any (d.lookT d.shown[j]) W (by omega) (HLY.out W hb) (Nat.lt_of_lt_of_le HW7.out hb.size))
      have hnx := newestOf_at d d.shown j hlt p m
      rw [HNW.out] at hnx
      have HNX := hide hnx
      have hji : (j : Int) < (d.shown.length : Int) := by omega
      clear hnx HLK
      generalize d.lookB d.shown[j] = there at *
      generalize d.lookT d.shown[j] = data at *
      generalize fileNum d.shown[j] 109 = k at *
      generalize d.shown[j] = x at *
      go_wp2_with fail
      refine HNU.out.mono ?_
      rintro e w4 ⟨rfl, hb4⟩
      have HB4 := hide (HB.out.trans (hb4.mono HB.out.size))
      have HQ5 := hide (HQ4.out.below hb4 hqw)
      have hqw4 := hqw.mono hb4.size
      have HBI4 := hide (HBI.out.below hb4)
      have HR4 := hide (HRD.out.below hb4 HRD.out.lt)
      have p1 := (hb4.cell (p := ⟨g, off + j, none⟩) hgw).trans hcl
      have hgw4 := Nat.lt_of_lt_of_le hgw hb4.size
      have d0 := HR4.out.cell 0
      have d1 := HR4.out.cell 1
      have d2 := HR4.out.cell 2
      have ld := HR4.out.lt
      clear HNU HBI HRD HB HQ4 hqw hb4 hcl hgw HNW
      by_cases hgt : m < k
      · have hgi : (m : Int) < (k : Int) := by omega
        go_wp2_with fail
        refine (HLK2.out _ HB4.out).mono ?_
        rintro e w5 ⟨rfl, hb5⟩
        have hbz := hb5
        have HB5 := hide (HB4.out.trans (hbz.mono HB4.out.size))
        have HQ6 := hide (HQ5.out.below hbz hqw4)
        have hqw5 := hqw4.mono hbz.size
        have HBI5 := hide (HBI4.out.below hbz)
        have HR5 := hide (HR4.out.below hbz HR4.out.lt)
        clear hbz hb5 HB4 HQ5 hqw4 HBI4 HR4 p1 hgw4 d0 d1 d2 ld HLK2
        go_wp2_with fail
        refine (HPR.out _ HB5.out).mono ?_
        rintro e w6 ⟨vs, fq', rfl, ho, hn, hb6⟩
        obtain ⟨Aq', cq', fqq, rfl, oq, wq1, wq2, rfl⟩ := ho.oLogPlan
        have HOQ := hide ho
        have HNQ := hide hn
        have HB6 := hide (HB5.out.trans (hb6.mono HB5.out.size))
        have HQ7 := hide (HQ6.out.below hb6 hqw5)
        have hqw6 := hqw5.mono hb6.size
        have HBI6 := hide (HBI5.out.below hb6)
        have HR6 := hide (HR5.out.below hb6 HR5.out.lt)
        have hout : b ∉ fq' := hn.out HBI5.out.box.lt
        have hnl := hn.mono (Nat.succ_le_of_lt HBI5.out.res.lt)
        have HNL := hide hnl
        clear ho hn hb6 oq wq1 wq2 HB5 HQ6 hqw5 HBI5 HR5 hnl HNQ
        go_upto_region 9 with fail
        generalize hwD : w6.alloc (.cells #[.slice Aq' (readP data).parts.length cq', .int .i64 (readP data).open_, .int .i64 (readP data).first] 30) = wD
        have hD : Below w6.heap.size w6 wD := by rw [← hwD]; exact (Below.refl _ _).alloc (Nat.le_refl _) _
        have RD : Row wD w6.heap.size 30 [.slice Aq' (readP data).parts.length cq', .int .i64 (readP data).open_, .int .i64 (readP data).first] := by rw [← hwD]; exact Row.new w6 _ _
        have HB7 := hide (HB6.out.trans (hD.mono HB6.out.size))
        have HQ8 := hide (HQ7.out.below hD hqw6)
        have hqw7 := hqw6.mono hD.size
        have HBI7 := hide (HBI6.out.below hD)
        have HR7 := hide (HR6.out.below hD HR6.out.lt)
        have HOQ7 := hide (HOQ.out.below hD HNL.out.lt)
        have HNL7 := hide (HNL.out.below hD HNL.out.lt)
        clear hwD hD HB6 HQ7 hqw6 HBI6 HR6 HOQ HNL
        by_cases hrp : readPB data = true
        · have HE := hide (show newestOf d (d.shown.drop (j + 1)) (readP data) k = d.newest by rw [HNX.out, if_pos ⟨hgt, hrp⟩])
          have z0 := RD.cell 0
          have z1 := RD.cell 1
          have z2 := RD.cell 2
          have zl := RD.lt
          have v0 := HBI7.out.box.cell 0
          have v1 := HBI7.out.box.cell 1
          have v2 := HBI7.out.box.cell 2
          have y0 := HBI7.out.box.frozen 0
          have y1 := HBI7.out.box.frozen 1
          have y2 := HBI7.out.box.frozen 2
          have yl := HBI7.out.box.lt
          have hbl := HBI7.out.lt
          rw [hrp]
          clear hrp hgt HNX RD
          go_wp2
          go_roundw
          case rel =>
            have hg := setN_grown [.slice Aq' (readP data).parts.length cq', .int .i64 (readP data).open_, .int .i64 (readP data).first] 0 (grown_refl wD (some b))
            exact ⟨k, j + 1, readP data, _, _, rfl, by go_num, by omega, hk9, HE.out, HBI7.out.put HOQ7.out HNL7.out hout, HR7.out.grown hg (fun e => by injection e with e; omega), HB7.out.trans (below_of_grown hg (by omega) HB7.out.size), HQ8.out.grown hg hqw7 HQO.out, hqw7.mono hg.size⟩
          case measure => simp [intOf]; omega
        · have hrn : readPB data = false := by simpa using hrp
          have HE := hide (show newestOf d (d.shown.drop (j + 1)) p m = d.newest by rw [HNX.out, if_neg (fun h => hrp h.2)])
          rw [hrn]
          clear hrp hrn hgt HNX RD
          go_wp2
          go_roundw
          case rel => exact ⟨m, j + 1, p, _, _, rfl, by go_num, by omega, hm, HE.out, HBI7.out, HR7.out, HB7.out, HQ8.out, hqw7⟩
          case measure => simp [intOf]; omega
      · have hgi : ¬ ((m : Int) < (k : Int)) := by omega
        have HE := hide (show newestOf d (d.shown.drop (j + 1)) p m = d.newest by rw [HNX.out, if_neg (fun h => hgt h.1)])
        clear HNX hgt
        go_wp2
        go_roundw
        case rel => exact ⟨m, j + 1, p, _, _, rfl, by go_num, by omega, hm, HE.out, HBI4.out, HR4.out, HB4.out, HQ5.out, hqw4⟩
        case measure => simp [intOf]; omega
    · obtain rfl : j = d.shown.length := by omega
      have he : (p, m) = d.newest := by rw [← HNW.out, List.drop_of_length_le (Nat.le_refl _)]; rfl
      have HE := hide he
      have z0 := HBI.out.box.cell 0
      have z1 := HBI.out.box.cell 1
      have z2 := HBI.out.box.cell 2
      have zl := HBI.out.box.lt
      have v0 := HBI.out.res.cell 0
      have v1 := HBI.out.res.cell 1
      have v2 := HBI.out.res.cell 2
      have y0 := HBI.out.res.frozen 0
      have y1 := HBI.out.res.frozen 1
      have y2 := HBI.out.res.frozen 2
      have yl := HBI.out.res.lt
      clear he hlt HLK HNW
      go_wp2
      refine bodyPost_ret (ret_row_tmp rfl _ _ (w.heap.size + 1) 30 [.slice Ap p.parts.length cp, .int .i64 p.open_, .int .i64 p.first] (HBI.out.res.setAll [.slice Ap p.parts.length cp, .int .i64 p.open_, .int .i64 p.first] rfl) _ _ rfl rfl Tryz.underlying30 rfl (by kernel_rfl)) rfl ?_
      have hgr := setN_grown [.slice Ap p.parts.length cp, .int .i64 p.open_, .int .i64 p.first] 0 (grown_refl wr (some (w.heap.size + 1)))
      have hno := HBI.out.new.out (Nat.lt_succ_self (w.heap.size + 1))
      exact newestRet_of HE.out (HBI.out.ow.grown hgr HBI.out.new.lt hno) ((HBI.out.new.grown hgr (fun g e => by injection e with e; subst e; exact hno)).mono (by omega)) (HB.out.trans (below_of_grown hgr (by omega) HB.out.size))
end Go.Proofs.YtddjgbhkfdpffaaGreatDoor
