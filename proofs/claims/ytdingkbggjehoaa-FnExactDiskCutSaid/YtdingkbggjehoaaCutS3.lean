/-
  Disks behind a loss of power: the reference's DiskCut. Printed by gen/cuts.py.
-/
import Derived.Test.YtdingkbggjehoaaCutS0
import Derived.Deep.RegionHeld3
import Derived.StillTailTactics
set_option linter.unusedVariables false
set_option linter.unusedSimpArgs false
namespace Go.Proofs.Ytdingkbggjehoaa
open Go.ChangeShapes Go.WideShapes Go.ChangeAt Go.RowKit


set_option maxRecDepth 100000 in
set_option maxHeartbeats 4000000 in
theorem specDiskCut_3 (d : Disk) (us0 : List Value) (fp : List Nat) (m : Int) (keep : List Int) (A : Option Addr) (n c : Nat) (fk : List Nat) (w : World) (h : OwC w d.cells us0 fp) (hf : Lt fp w.heap.size) (hbk : d.bulk ≤ 1048576) (hm : (Lit.int .i64 m).wf = true)
    (hk : Ow w (.s 1 keep.length (keep.flatMap intC)) (.slice A n c) fk) (hfk : Lt fk w.heap.size) (hsz : keep.length ≤ 1048576) (hsel : ¬ m < 0 ∧ ¬ ((d.moves.length : Int) < m)) :
    Calls Try.prog 62 #[.agg us0.toArray, .int .i64 m, .slice A n c] w (CutRet (d.cutOf m keep) w) := by
  have HOC := hide h
  obtain ⟨A1, c1, A2, c2, A3, c3, f1, f2, f3, rfl, o1, o2, o3, rfl⟩ := h.oDisk
  obtain ⟨rfl, hkc, hkm⟩ := hk.nlen
  unfold maxLen at hkm
  clear h
  obtain ⟨_, hc1, hm1⟩ := o1.nlen
  obtain ⟨_, hc3, hm3⟩ := o3.nlen
  unfold maxLen at hm1 hm3
  have hkb := d.bulk_eq
  unfold bulkStrs DiskFile.bulkL DiskMove.bulkL at hkb
  have hfl : d.files.length ≤ 1048576 := by omega
  have hml : d.moves.length ≤ 1048576 := by omega
  have hnl : d.names.length ≤ 1048576 := by omega
  obtain ⟨W1, hW1⟩ : ∃ W1, ((w.alloc (.cells #[.slice A1 d.files.length c1, .slice A2 d.names.length c2, .slice A3 d.moves.length c3] 83)).alloc (.cells #[.slice none 0 0, .slice none 0 0, .slice none 0 0] 83)) = W1 := ⟨_, rfl⟩
  have hB1 : Below w.heap.size w W1 := hW1 ▸ (((Below.refl _ _).alloc (Nat.le_refl _) _).alloc (by rw [World.size_alloc]; omega) _)
  have RD : Row W1 w.heap.size 83 [.slice A1 d.files.length c1, .slice A2 d.names.length c2, .slice A3 d.moves.length c3] := hW1 ▸ (Row.new w _ _).alloc _
  have RZ : Row W1 (w.heap.size + 1) 83 [.slice none 0 0, .slice none 0 0, .slice none 0 0] := by
    have h := Row.new (w.alloc (.cells #[.slice A1 d.files.length c1, .slice A2 d.names.length c2, .slice A3 d.moves.length c3] 83)) 83 [.slice none 0 0, .slice none 0 0, .slice none 0 0]
    rw [World.size_alloc, hW1] at h
    exact h
  have HB1 := hide hB1
  have HRD := hide RD
  have HRZ := hide RZ
  have O1 := hide o1
  have OK := hide hk
  have d0 := RD.cell 0
  have d1 := RD.cell 1
  have d2 := RD.cell 2
  have ld := RD.lt
  have HOK := hide (specDiskOk_any d _ _ W1 (HOC.out.below HB1.out hf) (hf.up HB1.out) hbk)
  have HCP := hide (fun (W : World) (hb : Below w.heap.size w W) => l41Copy_any d _ _ W (HOC.out.below hb hf) (hf.up hb) hbk)
  have HAF := hide (fun (k : Nat) (hk : k ≤ d.moves.length) (W : World) (hb : Below w.heap.size w W) => l41After_any d _ _ k W (HOC.out.below hb hf) (hf.up hb) hbk hk)
  clear o1 o2 o3 hB1 RD RZ hk hkb
  by_cases hok : tb d.ok = true
  rotate_left
  · have hno : tb d.ok = false := by simpa using hok
    have HS := hide (Disk.cutOf_no hno m keep)
    rw [hno] at HOK
    clear hok hno
    go_enter Try.func62, Try.ntmps62
    go_wp2_with fail
    refine HOK.out.mono ?_
    rintro e w2 ⟨rfl, hb2⟩
    have HB2 := hide (HB1.out.trans (hb2.mono HB1.out.size))
    have HZ2 := hide (HRZ.out.below hb2 HRZ.out.lt)
    have z0 := HZ2.out.cell 0
    have y0 := HZ2.out.frozen 0
    have z1 := HZ2.out.cell 1
    have y1 := HZ2.out.frozen 1
    have z2 := HZ2.out.cell 2
    have y2 := HZ2.out.frozen 2
    have hzl := HZ2.out.lt
    clear hb2 d0 d1 d2 ld HOK
    go_wp2
    refine bodyPost_ret (ret_row rfl _ _ (w.heap.size + 1) 83 [.slice none 0 0, .slice none 0 0, .slice none 0 0] (HZ2.out.setAll [.slice none 0 0, .slice none 0 0, .slice none 0 0] rfl) _ rfl Try.underlying83 rfl (by kernel_rfl)) rfl ?_
    have hg := setN_grown [.slice none 0 0, .slice none 0 0, .slice none 0 0] 0 (grown_refl w2 (some (w.heap.size + 1)))
    exact ⟨_, [], rfl, by rw [HS.out]; exact cutNone_ow _, New.nil _ _, HB2.out.trans (below_of_grown hg (Nat.le_succ _) HB2.out.size)⟩
  rw [hok] at HOK
  have HFD := hide (fun (k : Nat) (hk : k ≤ d.moves.length) => d.cut_found hok k hk)
  have HFI := hide (tb_get hok).2.2.1
  have HEQ := hide (d.cutOf_yes hok m keep)
  have H64 := hide (tb_get hok).1
  clear hok
  obtain ⟨mm, hmm⟩ : ∃ mm, clampM m d.moves.length = mm := ⟨_, rfl⟩
  have hmle : mm ≤ d.moves.length := hmm ▸ clampM_le _ _
  have HCN := hide (show d.cutNames m = d.afterW mm from by unfold Disk.cutNames; rw [hmm])
  have hcase : (m < 0 ∧ mm = 0) ∨ (¬ m < 0 ∧ (d.moves.length : Int) < m ∧ mm = d.moves.length) ∨ (¬ m < 0 ∧ ¬ ((d.moves.length : Int) < m) ∧ m = (mm : Int)) := by
    by_cases k1 : m < 0
    · exact .inl ⟨k1, by rw [← hmm, clampM, if_pos k1]⟩
    · by_cases k2 : m ≤ (d.moves.length : Int)
      · exact .inr (.inr ⟨k1, by omega, by rw [← hmm, clampM, if_neg k1, if_pos k2]; omega⟩)
      · exact .inr (.inl ⟨k1, by omega, by rw [← hmm, clampM, if_neg k1, if_neg k2]⟩)
  clear hmm
  have HFN := hide (fun x hx => let ⟨k, hk⟩ := HFD.out _ hmle x hx; (⟨k, d.leaveAll_find keep hk⟩ : ∃ k : Nat, FindIs (d.leaveAll keep) x (k : Int)))
  have hNL := afterW_len d mm
  have HA5 := hide (fun (W : World) (hb : Below w.heap.size w W) => HAF.out mm hmle W hb)
  have HEX := hide (show d.cutOf m keep = ⟨(d.afterW mm).map (pickFile (d.leaveAll keep)), d.afterW mm, []⟩ from by rw [HEQ.out, HCN.out])
  clear HCN HEQ HFD HAF
  generalize d.afterW mm = NS at HFN hNL HA5 HEX
  rcases hcase with ⟨h1, rfl⟩ | ⟨h1, h2, rfl⟩ | ⟨h1, h2, rfl⟩
  · omega
  · omega
  all_goals
    go_enter Try.func62, Try.ntmps62
    go_wp2_with fail
    refine HOK.out.mono ?_
    rintro e w2 ⟨rfl, hb2⟩
    have HB2 := hide (HB1.out.trans (hb2.mono HB1.out.size))
    have HR2 := hide (HRD.out.below hb2 ld)
    have HZ2 := hide (HRZ.out.below hb2 HRZ.out.lt)
    have e0 := HR2.out.cell 0
    have e1 := HR2.out.cell 1
    have e2 := HR2.out.cell 2
    have le := HR2.out.lt
    clear hb2 d0 d1 d2 ld HOK
    go_wp2_with fail
    refine (HCP.out w2 HB2.out).mono ?_
    rintro e w3 ⟨v1, v2, v3, us1, us2, us3, rfl, ht, hb3⟩
    obtain ⟨B1, b1, rfl⟩ := ht.o1.form
    obtain ⟨B2, b2, rfl⟩ := ht.o2.form
    obtain ⟨B3, b3, rfl⟩ := ht.o3.form
    have HT := hide ht
    have HB3 := hide (HB2.out.trans (hb3.mono HB2.out.size))
    have HR3 := hide (HR2.out.below hb3 le)
    have HZ3 := hide (HZ2.out.below hb3 HZ2.out.lt)
    have HS23 := hide (show w2.heap.size ≤ w3.heap.size from hb3.size)
    have HZL := hide (show w.heap.size + 1 < w2.heap.size from HZ2.out.lt)
    obtain ⟨w4, hw4⟩ : ∃ w4, w3.alloc (.cells #[.slice B1 d.files.length b1, .slice B2 d.names.length b2, .slice B3 d.moves.length b3] 83) = w4 := ⟨_, rfl⟩
    have hA4 : Below w3.heap.size w3 w4 := hw4 ▸ (Below.refl _ _).alloc (Nat.le_refl _) _
    have HA4 := hide hA4
    have HRA := hide (show Row w4 w3.heap.size 83 [.slice B1 d.files.length b1, .slice B2 d.names.length b2, .slice B3 d.moves.length b3] from hw4 ▸ Row.new w3 _ _)
    have HB4 := hide (HB3.out.trans (hA4.mono HB3.out.size))
    have HR4 := hide (HR3.out.below hA4 HR3.out.lt)
    have HZ4 := hide (HZ3.out.below hA4 HZ3.out.lt)
    have HT1 := hide (HT.out.o1.below (C := 0) hA4)
    have HT2 := hide (HT.out.o2.below (C := 0) hA4)
    have HT3 := hide (HT.out.o3.below (C := 0) hA4)
    clear ht hb3 e0 e1 e2 le hA4
    go_wp2
    (try rw [hw4])
    clear hw4
    go_loopw [8] (fun iv wr => ∃ (i : Nat) (us : List Value), i ≤ d.files.length ∧ iv = .int .i64 (i : Int) ∧ OwS wr w2.heap.size 143 3 DiskFile.cells (.slice B1 d.files.length b1) (mixed (d.leaveAll keep) d.files i) us [] ∧ w4.grownBy wr (Value.slice B1 d.files.length b1).ownBlock) (fun iv _ => d.files.length - (intOf iv).toNat)
    case atStart => exact ⟨0, us1, Nat.zero_le _, rfl, by rw [mixed_zero]; exact HT1.out, grown_refl _ _⟩
    case round =>
      obtain ⟨i, us, hi, rfl, ho, hg⟩ := hrel
      have HO := hide ho
      have HG := hide hg
      have hown : ∀ g, (Value.slice B1 d.files.length b1).ownBlock = some g → w2.heap.size ≤ g ∧ g < w3.heap.size := fun g e => ⟨HT.out.o1.from e, HT.out.o1.lt g e⟩
      have HOWN := hide hown
      have HBr := hide (show Below w.heap.size w wr from HB4.out.trans ⟨hg.os, hg.tape, hg.output, hg.size, fun b hb => hg.block b (by have := HB4.out.size; omega) (fun e => by have := hown b e.symm; have := HZL.out; omega)⟩)
      have HRr := hide (HR4.out.grown hg (fun e => by have := hown _ e; have := HZL.out; omega))
      have HZr := hide (HZ4.out.grown hg (fun e => by have := hown _ e; have := HZL.out; omega))
      have HAr := hide (HRA.out.grown hg (fun e => by have := hown _ e; omega))
      have d0 := HRr.out.cell 0
      have ld := HRr.out.lt
      have a0 := HAr.out.cell 0
      have la := HAr.out.lt
      clear ho hg hown
      by_cases hlt : i < d.files.length
      · have hmle2 : d.files.length ≤ (mixed (d.leaveAll keep) d.files i).length := Nat.le_of_eq (mixed_len (d.leaveAll keep) d.files (d.leaveAll_len keep) i (by rw [d.leaveAll_len]; exact hi)).symm
        have hmle3 : (mixed (d.leaveAll keep) d.files i).length ≤ d.files.length := Nat.le_of_eq (mixed_len (d.leaveAll keep) d.files (d.leaveAll_len keep) i (by rw [d.leaveAll_len]; exact hi))
        have hlr : i < (d.leaveAll keep).length := by rw [d.leaveAll_len]; exact hlt
        obtain ⟨gF, rfl, -, hcap, hgF, cs, hrow, hcsl⟩ := HO.out.formAt (by omega)
        have hi63 : d.files.length ≤ b1 := hcap
        have lgF := hrow.lt
        have fr1 := hrow.frozen (i * 3 + 1)
        have fr2 := hrow.frozen (i * 3 + 2)
        obtain ⟨u1, hu1⟩ : ∃ u, wr.cell? ⟨gF, i * 3 + 1, none⟩ = some u := ⟨_, (hrow.cell _).trans (List.getElem?_eq_getElem (by omega))⟩
        obtain ⟨u2, hu2⟩ : ∃ u, wr.cell? ⟨gF, i * 3 + 2, none⟩ = some u := ⟨_, (hrow.cell _).trans (List.getElem?_eq_getElem (by omega))⟩
        have hneA : gF < w3.heap.size := (HOWN.out gF rfl).2
        have HFR := hide hrow
        obtain ⟨g', off', ws, fi, rfl, hgm', hfi', hwl, hcs, hov⟩ := (O1.out.below HBr.out hf.left).elem DiskFile.cells_len hlt
        obtain ⟨rfl, hs0, hs1', hw2, rfl⟩ := hov.oDiskFile
        have p0 := hcs 0 _ rfl
        have p1 := hcs 1 _ rfl
        have p2 := hcs 2 _ rfl
        simp only [Nat.add_zero] at p0
        have hgl' := hf.left _ hgm'
        have hgw' := Nat.lt_of_lt_of_le hgl' HBr.out.size
        have hfine := (HFI.out i hlt).1
        obtain ⟨_, hy1, hy2, hy3⟩ := hfine
        have HMS := hide (mixed_set (d.leaveAll keep) d.files (d.leaveAll_len keep) i hlr)
        have HMA := hide (mixed_at (d.leaveAll keep) d.files (d.leaveAll_len keep) i hlt (by omega))
        clear hcs hov hrow hfi'
        obtain ⟨y, hy⟩ : ∃ y, d.files[i] = y := ⟨_, rfl⟩
        rw [hy] at p0 p1 p2 hs0 hs1' hw2 hy1 hy2 hy3 HMA
        have HY := hide hy
        clear hy
        have hiI : (i : Int) < (d.files.length : Int) := by omega
        by_cases hkk : i < keep.length
        · obtain ⟨gk, offk, rfl, hgmk, hcellk, hwk⟩ := ints_at (OK.out.below HBr.out hfk) hkk
          have hgkl := Nat.lt_of_lt_of_le (hfk _ hgmk) HBr.out.size
          obtain ⟨kv, hkv⟩ : ∃ kv, keep[i] = kv := ⟨_, rfl⟩
          have HKV := hide (show keep.getD i 0 = kv from by rw [List.getD_eq_getElem?_getD, List.getElem?_eq_getElem hkk, hkv]; rfl)
          rw [hkv] at hcellk hwk
          clear hkv
          by_cases hkp : 0 < kv
          · by_cases hkl : kv < (y.data.size : Int) - y.kept
            · have hmr : y.more (kv) = kv := by unfold DiskFile.more; split <;> (try split) <;> omega
              obtain ⟨tt, htt⟩ : ∃ tt : Int, (y.kept + kv) = tt := ⟨_, rfl⟩
              have HX := hide (show (d.leaveAll keep)[i]'(by rw [d.leaveAll_len]; exact hlt) = ⟨y.name, y.data.extract 0 tt.toNat, tt⟩ from by
                rw [d.leaveAll_at keep i _ hlt, HY.out, HKV.out]
                unfold DiskFile.leave
                rw [hmr, htt])
              have hT0 : 0 ≤ tt := by omega
              have hT1 : tt ≤ (y.data.size : Int) := by omega
              have hwr : IntKind.i64.wrap (y.kept + kv) = tt := by rw [wrap_i64 _ (by omega) (by omega)]; omega
              clear htt
              obtain ⟨wa, hwa⟩ : ∃ wa, wr.alloc (.cells #[.string y.name, .string y.data, .int .i64 y.kept] 143) = wa := ⟨_, rfl⟩
              have hBA : Below wr.heap.size wr wa := hwa ▸ (Below.refl _ _).alloc (Nat.le_refl _) _
              have HFA : Row wa wr.heap.size 143 [.string y.name, .string y.data, .int .i64 y.kept] := hwa ▸ Row.new wr _ _
              have HBA := hide hBA
              have fa1 := HFA.cell 1
              have fa2 := HFA.cell 2
              have lfa := HFA.lt
              have HAw := hide (HAr.out.below hBA la)
              have aw0 := HAw.out.cell 0
              have law := HAw.out.lt
              have kw := (hBA.cell (p := ⟨gk, offk + i, none⟩) hgkl).trans hcellk
              have lkw := Nat.lt_of_lt_of_le hgkl hBA.size
              have hu1w := (hBA.cell (p := ⟨gF, i * 3 + 1, none⟩) lgF).trans hu1
              have hu2w := (hBA.cell (p := ⟨gF, i * 3 + 2, none⟩) lgF).trans hu2
              have fr1w := (hBA.frozen (p := ⟨gF, i * 3 + 1, none⟩) lgF).trans fr1
              have fr2w := (hBA.frozen (p := ⟨gF, i * 3 + 2, none⟩) lgF).trans fr2
              have lgw : gF < wa.heap.size := Nat.lt_of_lt_of_le lgF hBA.size
              have HOw := hide (HO.out.below (C := 0) hBA)
              have hn1 : w3.heap.size ≠ gF := by omega
              have hn2 : wr.heap.size ≠ gF := by omega
              clear hmr hBA HFA hu1 hu2 fr1 fr2
              go_wp2
              go_still_tail 12, (by kernel_rfl)
              change wpList _ _ _ _ _ wa.drew
              go_wp2
              go_roundw
              case rel =>
                have e : (mixed (d.leaveAll keep) d.files i).length = d.files.length := by omega
                have HOe : OwS wa.drew w2.heap.size 143 3 DiskFile.cells (.slice (some ⟨gF, 0, none⟩) (mixed (d.leaveAll keep) d.files i).length b1) (mixed (d.leaveAll keep) d.files i) us [] := by rw [e]; exact HOw.out.drewN 1
                obtain ⟨us', h3⟩ := setAt2 HOe (i := i) (by omega) (⟨y.name, y.data.extract 0 tt.toNat, tt⟩ : DiskFile) (by rw [HMA.out]) (by show (y.data.extract 0 _).size ≤ maxLen; rw [ByteArray.size_extract]; unfold maxLen; omega) (WalkArith.wf_i64 (show (-9223372036854775808 : Int) ≤ tt ∧ tt ≤ 9223372036854775807 by omega))
                refine ⟨i + 1, us', by omega, by go_num, ?_, ?_⟩
                · rw [← HMS.out, HX.out]
                  rw [e] at h3
                  exact h3
                · exact only_trans HG.out (grown_setCell2 (only_drewN (grownBy_below HBA.out (some gF)) 1) _ _)
              case measure => simp [intOf]; omega
            · have hmr : y.more (kv) = ((y.data.size : Int) - y.kept) := by unfold DiskFile.more; split <;> (try split) <;> omega
              obtain ⟨tt, htt⟩ : ∃ tt : Int, (y.kept + ((y.data.size : Int) - y.kept)) = tt := ⟨_, rfl⟩
              have HX := hide (show (d.leaveAll keep)[i]'(by rw [d.leaveAll_len]; exact hlt) = ⟨y.name, y.data.extract 0 tt.toNat, tt⟩ from by
                rw [d.leaveAll_at keep i _ hlt, HY.out, HKV.out]
                unfold DiskFile.leave
                rw [hmr, htt])
              have hT0 : 0 ≤ tt := by omega
              have hT1 : tt ≤ (y.data.size : Int) := by omega
              have hwr : IntKind.i64.wrap (y.kept + ((y.data.size : Int) - y.kept)) = tt := by rw [wrap_i64 _ (by omega) (by omega)]; omega
              clear htt
              obtain ⟨wa, hwa⟩ : ∃ wa, wr.alloc (.cells #[.string y.name, .string y.data, .int .i64 y.kept] 143) = wa := ⟨_, rfl⟩
              have hBA : Below wr.heap.size wr wa := hwa ▸ (Below.refl _ _).alloc (Nat.le_refl _) _
              have HFA : Row wa wr.heap.size 143 [.string y.name, .string y.data, .int .i64 y.kept] := hwa ▸ Row.new wr _ _
              have HBA := hide hBA
              have fa1 := HFA.cell 1
              have fa2 := HFA.cell 2
              have lfa := HFA.lt
              have HAw := hide (HAr.out.below hBA la)
              have aw0 := HAw.out.cell 0
              have law := HAw.out.lt
              have kw := (hBA.cell (p := ⟨gk, offk + i, none⟩) hgkl).trans hcellk
              have lkw := Nat.lt_of_lt_of_le hgkl hBA.size
              have hu1w := (hBA.cell (p := ⟨gF, i * 3 + 1, none⟩) lgF).trans hu1
              have hu2w := (hBA.cell (p := ⟨gF, i * 3 + 2, none⟩) lgF).trans hu2
              have fr1w := (hBA.frozen (p := ⟨gF, i * 3 + 1, none⟩) lgF).trans fr1
              have fr2w := (hBA.frozen (p := ⟨gF, i * 3 + 2, none⟩) lgF).trans fr2
              have lgw : gF < wa.heap.size := Nat.lt_of_lt_of_le lgF hBA.size
              have HOw := hide (HO.out.below (C := 0) hBA)
              have hn1 : w3.heap.size ≠ gF := by omega
              have hn2 : wr.heap.size ≠ gF := by omega
              clear hmr hBA HFA hu1 hu2 fr1 fr2
              go_wp2
              go_still_tail 12, (by kernel_rfl)
              change wpList _ _ _ _ _ wa.drew
              go_wp2
              go_roundw
              case rel =>
                have e : (mixed (d.leaveAll keep) d.files i).length = d.files.length := by omega
                have HOe : OwS wa.drew w2.heap.size 143 3 DiskFile.cells (.slice (some ⟨gF, 0, none⟩) (mixed (d.leaveAll keep) d.files i).length b1) (mixed (d.leaveAll keep) d.files i) us [] := by rw [e]; exact HOw.out.drewN 1
                obtain ⟨us', h3⟩ := setAt2 HOe (i := i) (by omega) (⟨y.name, y.data.extract 0 tt.toNat, tt⟩ : DiskFile) (by rw [HMA.out]) (by show (y.data.extract 0 _).size ≤ maxLen; rw [ByteArray.size_extract]; unfold maxLen; omega) (WalkArith.wf_i64 (show (-9223372036854775808 : Int) ≤ tt ∧ tt ≤ 9223372036854775807 by omega))
                refine ⟨i + 1, us', by omega, by go_num, ?_, ?_⟩
                · rw [← HMS.out, HX.out]
                  rw [e] at h3
                  exact h3
                · exact only_trans HG.out (grown_setCell2 (only_drewN (grownBy_below HBA.out (some gF)) 1) _ _)
              case measure => simp [intOf]; omega
          · have hmr : y.more (kv) = 0 := by unfold DiskFile.more; split <;> (try split) <;> omega
            obtain ⟨tt, htt⟩ : ∃ tt : Int, (y.kept + 0) = tt := ⟨_, rfl⟩
            have HX := hide (show (d.leaveAll keep)[i]'(by rw [d.leaveAll_len]; exact hlt) = ⟨y.name, y.data.extract 0 tt.toNat, tt⟩ from by
              rw [d.leaveAll_at keep i _ hlt, HY.out, HKV.out]
              unfold DiskFile.leave
              rw [hmr, htt])
            have hT0 : 0 ≤ tt := by omega
            have hT1 : tt ≤ (y.data.size : Int) := by omega
            have hwr : IntKind.i64.wrap y.kept = tt := by rw [wrap_i64 _ (by omega) (by omega)]; omega
            clear htt
            obtain ⟨wa, hwa⟩ : ∃ wa, wr.alloc (.cells #[.string y.name, .string y.data, .int .i64 y.kept] 143) = wa := ⟨_, rfl⟩
            have hBA : Below wr.heap.size wr wa := hwa ▸ (Below.refl _ _).alloc (Nat.le_refl _) _
            have HFA : Row wa wr.heap.size 143 [.string y.name, .string y.data, .int .i64 y.kept] := hwa ▸ Row.new wr _ _
            have HBA := hide hBA
            have fa1 := HFA.cell 1
            have fa2 := HFA.cell 2
            have lfa := HFA.lt
            have HAw := hide (HAr.out.below hBA la)
            have aw0 := HAw.out.cell 0
            have law := HAw.out.lt
            have kw := (hBA.cell (p := ⟨gk, offk + i, none⟩) hgkl).trans hcellk
            have lkw := Nat.lt_of_lt_of_le hgkl hBA.size
            have hu1w := (hBA.cell (p := ⟨gF, i * 3 + 1, none⟩) lgF).trans hu1
            have hu2w := (hBA.cell (p := ⟨gF, i * 3 + 2, none⟩) lgF).trans hu2
            have fr1w := (hBA.frozen (p := ⟨gF, i * 3 + 1, none⟩) lgF).trans fr1
            have fr2w := (hBA.frozen (p := ⟨gF, i * 3 + 2, none⟩) lgF).trans fr2
            have lgw : gF < wa.heap.size := Nat.lt_of_lt_of_le lgF hBA.size
            have HOw := hide (HO.out.below (C := 0) hBA)
            have hn1 : w3.heap.size ≠ gF := by omega
            have hn2 : wr.heap.size ≠ gF := by omega
            clear hmr hBA HFA hu1 hu2 fr1 fr2
            go_wp2
            go_still_tail 12, (by kernel_rfl)
            change wpList _ _ _ _ _ wa.drew
            go_wp2
            go_roundw
            case rel =>
              have e : (mixed (d.leaveAll keep) d.files i).length = d.files.length := by omega
              have HOe : OwS wa.drew w2.heap.size 143 3 DiskFile.cells (.slice (some ⟨gF, 0, none⟩) (mixed (d.leaveAll keep) d.files i).length b1) (mixed (d.leaveAll keep) d.files i) us [] := by rw [e]; exact HOw.out.drewN 1
              obtain ⟨us', h3⟩ := setAt2 HOe (i := i) (by omega) (⟨y.name, y.data.extract 0 tt.toNat, tt⟩ : DiskFile) (by rw [HMA.out]) (by show (y.data.extract 0 _).size ≤ maxLen; rw [ByteArray.size_extract]; unfold maxLen; omega) (WalkArith.wf_i64 (show (-9223372036854775808 : Int) ≤ tt ∧ tt ≤ 9223372036854775807 by omega))
              refine ⟨i + 1, us', by omega, by go_num, ?_, ?_⟩
              · rw [← HMS.out, HX.out]
                rw [e] at h3
                exact h3
              · exact only_trans HG.out (grown_setCell2 (only_drewN (grownBy_below HBA.out (some gF)) 1) _ _)
            case measure => simp [intOf]; omega
        · have HKV := hide (show keep.getD i 0 = 0 from by rw [List.getD_eq_getElem?_getD, List.getElem?_eq_none (by omega)]; rfl)
          have hmr : y.more (0) = 0 := by unfold DiskFile.more; split <;> (try split) <;> omega
          obtain ⟨tt, htt⟩ : ∃ tt : Int, (y.kept + 0) = tt := ⟨_, rfl⟩
          have HX := hide (show (d.leaveAll keep)[i]'(by rw [d.leaveAll_len]; exact hlt) = ⟨y.name, y.data.extract 0 tt.toNat, tt⟩ from by
            rw [d.leaveAll_at keep i _ hlt, HY.out, HKV.out]
            unfold DiskFile.leave
            rw [hmr, htt])
          have hT0 : 0 ≤ tt := by omega
          have hT1 : tt ≤ (y.data.size : Int) := by omega
          have hwr : IntKind.i64.wrap y.kept = tt := by rw [wrap_i64 _ (by omega) (by omega)]; omega
          clear htt
          obtain ⟨wa, hwa⟩ : ∃ wa, wr.alloc (.cells #[.string y.name, .string y.data, .int .i64 y.kept] 143) = wa := ⟨_, rfl⟩
          have hBA : Below wr.heap.size wr wa := hwa ▸ (Below.refl _ _).alloc (Nat.le_refl _) _
          have HFA : Row wa wr.heap.size 143 [.string y.name, .string y.data, .int .i64 y.kept] := hwa ▸ Row.new wr _ _
          have HBA := hide hBA
          have fa1 := HFA.cell 1
          have fa2 := HFA.cell 2
          have lfa := HFA.lt
          have HAw := hide (HAr.out.below hBA la)
          have aw0 := HAw.out.cell 0
          have law := HAw.out.lt
          have hu1w := (hBA.cell (p := ⟨gF, i * 3 + 1, none⟩) lgF).trans hu1
          have hu2w := (hBA.cell (p := ⟨gF, i * 3 + 2, none⟩) lgF).trans hu2
          have fr1w := (hBA.frozen (p := ⟨gF, i * 3 + 1, none⟩) lgF).trans fr1
          have fr2w := (hBA.frozen (p := ⟨gF, i * 3 + 2, none⟩) lgF).trans fr2
          have lgw : gF < wa.heap.size := Nat.lt_of_lt_of_le lgF hBA.size
          have HOw := hide (HO.out.below (C := 0) hBA)
          have hn1 : w3.heap.size ≠ gF := by omega
          have hn2 : wr.heap.size ≠ gF := by omega
          clear hmr hBA HFA hu1 hu2 fr1 fr2
          go_wp2
          go_still_tail 12, (by kernel_rfl)
          change wpList _ _ _ _ _ wa.drew
          go_wp2
          go_roundw
          case rel =>
            have e : (mixed (d.leaveAll keep) d.files i).length = d.files.length := by omega
            have HOe : OwS wa.drew w2.heap.size 143 3 DiskFile.cells (.slice (some ⟨gF, 0, none⟩) (mixed (d.leaveAll keep) d.files i).length b1) (mixed (d.leaveAll keep) d.files i) us [] := by rw [e]; exact HOw.out.drewN 1
            obtain ⟨us', h3⟩ := setAt2 HOe (i := i) (by omega) (⟨y.name, y.data.extract 0 tt.toNat, tt⟩ : DiskFile) (by rw [HMA.out]) (by show (y.data.extract 0 _).size ≤ maxLen; rw [ByteArray.size_extract]; unfold maxLen; omega) (WalkArith.wf_i64 (show (-9223372036854775808 : Int) ≤ tt ∧ tt ≤ 9223372036854775807 by omega))
            refine ⟨i + 1, us', by omega, by go_num, ?_, ?_⟩
            · rw [← HMS.out, HX.out]
              rw [e] at h3
              exact h3
            · exact only_trans HG.out (grown_setCell2 (only_drewN (grownBy_below HBA.out (some gF)) 1) _ _)
          case measure => simp [intOf]; omega
      · obtain rfl : i = d.files.length := by omega
        have hOL : OwS wr w2.heap.size 143 3 DiskFile.cells (.slice B1 d.files.length b1) (d.leaveAll keep) us [] := by
          have h := HO.out
          rwa [mixed_all _ _ (d.leaveAll_len keep)] at h
        have HOL := hide hOL
        have H2R := hide (HT2.out.kept HG.out (fun g e => ⟨by simp, fun e' => HT.out.d12 g e e'⟩))
        have H3R := hide (HT3.out.kept HG.out (fun g e => ⟨by simp, fun e' => HT.out.d13 g e e'⟩))
        have d1 := HRr.out.cell 1
        have d2 := HRr.out.cell 2
        have a1 := HAr.out.cell 1
        have a2 := HAr.out.cell 2
        have hne3 : w3.heap.size ≠ w.heap.size + 1 := by have := HZL.out; have := HS23.out; omega
        obtain ⟨XD, hXD⟩ : ∃ XD, (⟨NS.map (pickFile (d.leaveAll keep)), NS, []⟩ : Disk) = XD := ⟨_, rfl⟩
        have HKP := hide (fun (W : World) (us0 : List Value) (fp : List Nat) (A : Option Addr) (c : Nat) (fk : List Nat) (h : OwC W (Disk.mk (d.leaveAll keep) d.names d.moves).cells us0 fp) (hf : Lt fp W.heap.size) (hk : Ow W (.s 1 NS.length (NS.flatMap strC)) (.slice A NS.length c) fk) (hfk : Lt fk W.heap.size) =>
          show Calls Try.prog 140 #[.agg us0.toArray, .slice A NS.length c] W (CutRet XD W) from hXD ▸ l41Keep_any (Disk.mk (d.leaveAll keep) d.names d.moves) us0 fp NS A _ c fk W h hf (by show (d.leaveAll keep).length ≤ _; rw [d.leaveAll_len]; exact hfl) hk hfk (by omega) HFN.out)
        have HED := hide (HEX.out.trans hXD)
        clear hOL hXD HEX
        go_upto_region 19 with fail
        go_region_held3 (fun w' => w'.cell? ⟨w.heap.size, 0, none⟩ = some (.slice A1 d.files.length c1) ∧ w'.cell? ⟨w.heap.size, 1, none⟩ = some (.slice A2 d.names.length c2) ∧ w'.cell? ⟨w.heap.size, 2, none⟩ = some (.slice A3 d.moves.length c3) ∧ w'.cell? ⟨w3.heap.size, 0, none⟩ = some (.slice B1 d.files.length b1) ∧ w'.cell? ⟨w3.heap.size, 1, none⟩ = some (.slice B2 d.names.length b2) ∧ w'.cell? ⟨w3.heap.size, 2, none⟩ = some (.slice B3 d.moves.length b3))
          (first | exact stKeep (HRr.out.below hbq ld) (HAr.out.below hbq la) (by omega) (by omega) | exact ⟨kcell2 d0 hbq ld, kcell2 d1 hbq ld, kcell2 d2 hbq ld, kcell2 a0 hbq la, kcell2 a1 hbq la, kcell2 a2 hbq la⟩ | exact ⟨kcell2 d0 hbz ld, kcell2 d1 hbz ld, kcell2 d2 hbz ld, kcell2 a0 hbz la, kcell2 a1 hbz la, kcell2 a2 hbz la⟩ | go_keep)
          (first
            | (go_at_call 140; refine (HKP.out _ _ _ _ _ _ ho5 hl5 hof hnf.lt).mono ?_; rintro e w6 ⟨us6, fq, rfl, ho6, hn6, hb6⟩; have HO6 := hide ho6; have HN6 := hide hn6; have HBK := hide hb6; obtain ⟨E1, g1, E2, g2, E3, g3, q1, q2, q3, rfl, x1, x2, x3, efq⟩ := ho6.oDisk; have HZ6 := hide ((HZr.out.below hbz HZr.out.lt).below hb6 (Nat.lt_of_lt_of_le HZr.out.lt hbz.size)); have z0 := HZ6.out.cell 0; have y0 := HZ6.out.frozen 0; have z1 := HZ6.out.cell 1; have y1 := HZ6.out.frozen 1; have z2 := HZ6.out.cell 2; have y2 := HZ6.out.frozen 2; have hzl := HZ6.out.lt; have hbq : Below wr.heap.size wr w6 := hbz.trans (hb6.mono hbz.size); clear ho6 hn6 x1 x2 x3)
            | (go_at_call 122; refine (HA5.out _ (below_drewN HBr.out _)).mono ?_; rintro e w5 ⟨v5, us5, rfl, hs5, hb5⟩; obtain ⟨A5, c5, rfl⟩ := hs5.form; obtain ⟨fo, hof, hnf, _⟩ := hs5.toOw'; have hbz : Below wr.heap.size wr w5 := (below_drewN (Below.refl _ wr) _).trans hb5; obtain ⟨fp5, ho5, hl5⟩ := triOw (d := d) (HOL.out.below (C := 0) hbz) (H2R.out.below (C := 0) hbz) (H3R.out.below (C := 0) hbz)))
        all_goals
          have HB6 := hide ((HBr.out.trans (hbz.mono HBr.out.size)).trans (hb6.mono (Nat.le_trans HBr.out.size hbz.size)))
          have hzq : w.heap.size + 1 < w5.heap.size := Nat.lt_of_lt_of_le HZr.out.lt hbz.size
          have hnot : w.heap.size + 1 ∉ fq := fun hm => by have := (HN6.out.fr _ hm).1; omega
          clear hs5 hb5 hof hnf ho5 hl5 hbz hb6 hbq d0 d1 d2 a0 a1 a2
          go_wp2
          refine bodyPost_ret (ret_row rfl _ _ (w.heap.size + 1) 83 [.slice E1 XD.files.length g1, .slice E2 XD.names.length g2, .slice E3 XD.moves.length g3] (HZ6.out.setAll [.slice E1 XD.files.length g1, .slice E2 XD.names.length g2, .slice E3 XD.moves.length g3] rfl) _ rfl Try.underlying83 rfl (by kernel_rfl)) rfl ?_
          have hg := setN_grown [.slice E1 XD.files.length g1, .slice E2 XD.names.length g2, .slice E3 XD.moves.length g3] 0 (grown_refl w6 (some (w.heap.size + 1)))
          exact ⟨_, fq, rfl, by rw [HED.out]; exact HO6.out.grown hg HN6.out.lt hnot, (HN6.out.grown hg (fun g e => by injection e with e; subst e; exact hnot)).mono (by omega), HB6.out.trans (below_of_grown hg (Nat.le_succ _) HB6.out.size)⟩
end Go.Proofs.Ytdingkbggjehoaa
