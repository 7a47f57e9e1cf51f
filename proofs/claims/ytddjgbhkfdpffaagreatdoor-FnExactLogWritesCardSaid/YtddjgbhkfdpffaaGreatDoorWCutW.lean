/-
  Disks behind a loss of power: the reference's l41Keep.
-/
import Derived.Deep.RegionHeld3
import Derived.Deep.RegionLaw
import Derived.Test.YtddjgbhkfdpffaaGreatDoorWCutI
set_option linter.unusedVariables false
set_option linter.unusedSimpArgs false
namespace Go.Proofs.YtddjgbhkfdpffaaGreatDoor
open Go.ChangeShapes Go.WideShapes Go.ChangeAt Go.RowKit

set_option maxRecDepth 100000 in
set_option maxHeartbeats 2000000 in
theorem l41Keep_any (d : Disk) (us0 : List Value) (fp : List Nat) (NS : List ByteArray) (A : Option Addr) (n c : Nat) (fk : List Nat) (w : World) (h : OwC w d.cells us0 fp) (hf : Lt fp w.heap.size) (hfl : d.files.length ≤ 1048576)
    (hk : Ow w (.s 1 NS.length (NS.flatMap strC)) (.slice A n c) fk) (hfk : Lt fk w.heap.size) (hNS : NS.length ≤ 4194304) (hN : ∀ x ∈ NS, ∃ k : Nat, FindIs d.files x (k : Int)) :
    Calls Tryz.prog 104 #[.agg us0.toArray, .slice A n c] w (CutRet ⟨NS.map (pickFile d.files), NS, []⟩ w) := by
  have HOC := hide h
  obtain ⟨A1, c1, A2, c2, A3, c3, f1, f2, f3, rfl, o1, o2, o3, rfl⟩ := h.oDisk
  obtain ⟨rfl, hkc, hkm⟩ := hk.nlen
  unfold maxLen at hkm
  clear h
  obtain ⟨_, hc1, hm1⟩ := o1.nlen
  unfold maxLen at hm1
  obtain ⟨W1, hW1⟩ : ∃ W1, ((w.alloc (.cells #[.slice A1 d.files.length c1, .slice A2 d.names.length c2, .slice A3 d.moves.length c3] 38)).alloc (.cells #[.slice none 0 0, .slice none 0 0, .slice none 0 0] 38)) = W1 := ⟨_, rfl⟩
  have hB1 : Below w.heap.size w W1 := hW1 ▸ (((Below.refl _ _).alloc (Nat.le_refl _) _).alloc (by rw [World.size_alloc]; omega) _)
  have RD : Row W1 w.heap.size 38 [.slice A1 d.files.length c1, .slice A2 d.names.length c2, .slice A3 d.moves.length c3] := hW1 ▸ (Row.new w _ _).alloc _
  have RZ : Row W1 (w.heap.size + 1) 38 [.slice none 0 0, .slice none 0 0, .slice none 0 0] := by
    have h := Row.new (w.alloc (.cells #[.slice A1 d.files.length c1, .slice A2 d.names.length c2, .slice A3 d.moves.length c3] 38)) 38 [.slice none 0 0, .slice none 0 0, .slice none 0 0]
    rw [World.size_alloc, hW1] at h
    exact h
  have HB1 := hide hB1
  have HRD := hide RD
  have HRZ := hide RZ
  have O1 := hide o1
  have OK := hide hk
  have HN := hide hN
  have hszW : w.heap.size + 2 ≤ W1.heap.size := RZ.lt
  obtain ⟨ia, hia, ha0, ha1, ha2⟩ := info_parts info_string
  have HIa := hide hia
  obtain ⟨ib, hib, hb0, hb1, hb2⟩ := info_parts info_DiskFile'
  have HIb := hide hib
  obtain ⟨uk, huk, hsk⟩ := ((hk.below hB1 hfk).alloc (hfk.up hB1) (.cells #[] 9)).srcStrs
  have HUK := hide huk
  have HSK := hide hsk
  clear o1 o2 o3 hB1 RD RZ hk hia hib hN huk hsk
  go_enter Tryz.func104, Tryz.ntmps104
  go_wp2_with (first | (at_builtin; refine wpl_app rfl _ _ 23 rfl ia _ 16 Tryz.underlying23 HIa.out ha0 ha1 ha2 rfl (by decide) strC_len rfl (OwS.lit0 W1 (w.heap.size + 2) hszW 9 1 strC) NS HUK.out (by exact New.nil _ _) (fun g _ hg => by cases hg) _ _ _ rfl rfl HSK.out (by simp only [List.length_nil]; omega) (by decide) (by rw [World.size_alloc]; omega) ?_; intro A' n' c' w5 hn5 hown5 hgb5; have HG5 := hide hgb5; have HN5 := hide hown5; have HNN5 := hide hn5; clear hown5 hgb5 hn5))
  obtain rfl : n' = NS.length := by have := HNN5.out; simpa using this
  obtain ⟨fq, ho, hn, _⟩ := HN5.out.toOw'
  simp only [List.nil_append] at ho
  have hB5 : Below w.heap.size w w5 := HB1.out.trans (((Below.refl w.heap.size W1).alloc (by omega) _).trans (HG5.out.toBelow (by rw [World.size_alloc]; omega) (fun g e => by have e' : W1.heap.size = g := (by injection e); omega)))
  have HB5 := hide hB5
  have hR5 := HG5.out.row (HRD.out.alloc _) (fun e => by have e' : W1.heap.size = w.heap.size := (by injection e); omega)
  have hZ5 := HG5.out.row (HRZ.out.alloc _) (fun e => by have e' : W1.heap.size = w.heap.size + 1 := (by injection e); omega)
  have HR5 := hide hR5
  have HZ5 := hide hZ5
  have hsz5 : w.heap.size + 1 < w5.heap.size := HZ5.out.lt
  have HF0 := hide (show FilesAt w5 (w5.alloc (.cells #[.slice none 0 0, .slice A' NS.length c', .slice none 0 0] 38)) w5.heap.size (w.heap.size + 2) (.slice none 0 0) [] [] (.slice A' NS.length c') NS fq from
    ⟨Row.new w5 _ _, OwS.nil _ _ _ _ _, ho.alloc hn.lt _, hn.alloc _, hn.lt, (Below.refl _ _).alloc (Nat.le_refl _) _⟩)
  clear hR5 hZ5 hB5 ho hn HN5 HG5 HSK HUK HRD HRZ HB1 HNN5
  go_loopw [6] (fun i wr => ∃ (j : Nat) (A1' : Option Addr) (n1 c1' : Nat) (us1 : List Value), j ≤ NS.length ∧ i = .int .i64 (j : Int) ∧ FilesAt w5 wr w5.heap.size (w.heap.size + 2) (.slice A1' n1 c1') ((NS.take j).map (pickFile d.files)) us1 (.slice A' NS.length c') NS fq) (fun i _ => NS.length - (intOf i).toNat)
  case atStart => exact ⟨0, none, 0, 0, [], Nat.zero_le _, rfl, HF0.out⟩
  case round =>
    obtain ⟨j, A1', n1, c1', us1, hj, rfl, hF⟩ := hrel
    have HF := hide hF
    have HBr := hide (HB5.out.trans (hF.below.mono (by omega)))
    have HRr := hide (HR5.out.below hF.below (by omega))
    have d0 := HRr.out.cell 0
    have ld := HRr.out.lt
    have x0 := HF.out.box.cell 0
    have f0 := HF.out.box.frozen 0
    have lx := HF.out.box.lt
    clear HF0 hF
    by_cases hlt : j < NS.length
    · obtain ⟨g, off, rfl, hgm, hcell, hs1⟩ := strs_at (OK.out.below HBr.out hfk) hlt
      have hgl := hfk g hgm
      have hgw := Nat.lt_of_lt_of_le hgl HBr.out.size
      have HSN := hide (map_snoc (pickFile d.files) NS j hlt)
      obtain ⟨k, hk⟩ := HN.out _ (List.getElem_mem hlt)
      have HK := hide hk
      obtain ⟨hkf, hpe, hnm⟩ := pickFile_at hk
      have HPE := hide hpe
      obtain ⟨g', off', ws, fi, rfl, hgm', hfi', hwl, hcs, hov⟩ := (O1.out.below HBr.out hf.left).elem DiskFile.cells_len hkf
      have hov' := hov
      obtain ⟨rfl, hs0, hs1', hw2, rfl⟩ := hov.oDiskFile
      have p0 := hcs 0 _ rfl
      have p1 := hcs 1 _ rfl
      have p2 := hcs 2 _ rfl
      simp only [Nat.add_zero] at p0
      have hgl' := hf.left _ hgm'
      have hgw' := Nat.lt_of_lt_of_le hgl' HBr.out.size
      have HFI := hide (fun W (hb : Below w.heap.size w W) => l41Find_is HK.out (O1.out.below hb hf.left))
      have hki : (k : Int) < (d.files.length : Int) := by omega
      have hki0 : (0 : Int) ≤ (k : Int) := by omega
      have hji : (j : Int) < (NS.length : Int) := by omega
      have hji0 : (0 : Int) ≤ (j : Int) := by omega
      clear hcs hov hov' hk hpe hnm
      generalize d.files[k] = y at *
      generalize NS[j] = nm at *
      have HD := hide (FileDat y hs0 hs1' hw2)
      have HF4 := hide (show FilesAt w5 ((wr.drewN 1).alloc (.cells #[.string y.name, .string y.data, .int .i64 y.kept] 116)) w5.heap.size (w.heap.size + 2) (.slice A1' n1 c1') ((NS.take j).map (pickFile d.files)) us1 (.slice A' NS.length c') NS fq from (HF.out.drewN 1).alloc _)
      have HSZ := hide (show w5.heap.size + 1 ≤ ((wr.drewN 1).alloc (.cells #[.string y.name, .string y.data, .int .i64 y.kept] 116)).heap.size from HF4.out.box.lt)
      have HB4 := hide (show Below w5.heap.size wr ((wr.drewN 1).alloc (.cells #[.string y.name, .string y.data, .int .i64 y.kept] 116)) from (below_drewN (Below.refl _ wr) 1).alloc (Nat.le_of_lt lx) _)
      have hq0 : w.heap.size < w5.heap.size := by omega
      have hq1 : g < w5.heap.size := by omega
      have hq2 : g' < w5.heap.size := by omega
      have x0d : (wr.drewN 1).cell? ⟨w5.heap.size, 0, none⟩ = some (.slice A1' n1 c1') := (HF.out.drewN 1).box.cell 0
      have x0a := HF4.out.box.cell 0
      simp only [List.getElem?_cons_zero] at x0a
      go_wp2
      go_region_law
        (first | (refine step_app (by rfl) _ _ 35 (by rfl) ib _ 40 Tryz.underlying35 HIb.out hb0 hb1 hb2 rfl (by decide) DiskFile.cells_len (by rfl) HF4.out.own [y] (HD.out _) (by exact New.nil _ _) (fun g _ hg => by cases hg) _ 1 1 (by rfl) rfl (SrcAt.newAt (wr.drewN 1) _ _ _ _ _ rfl) (by rw [List.length_map, List.length_take]; omega) (by decide) HSZ.out ?_; intro A5 n5 c5 w6 hn6 hown6 hgb6; have HG6 := hide hgb6; have HN6 := hide hown6; have r5 := hgb6.row HF4.out.box (HF4.out.own.low (Nat.lt_succ_self _)); have q5 : w6.cell? ⟨w5.heap.size, 0, none⟩ = some (.slice A1' n1 c1') := r5.cell 0; have f5 : w6.frozen? ⟨w5.heap.size, 0, none⟩ = false := r5.frozen 0; have HB6 := hide (HB4.out.trans (hgb6.toBelow (B := w5.heap.size) (Nat.le_of_lt HSZ.out) (fun g e => Nat.le_of_succ_le (HF4.out.own.from e)))); clear hown6 hgb6 hn6 r5) | (go_simp; go_at_call 75; refine (HFI.out _ (below_drewN HBr.out _)).mono ?_; rintro e w3 ⟨rfl, rfl⟩))
      all_goals
        have HF6 := hide (HF4.out.put HG6.out HN6.out)
        clear q5 f5 x0d x0a
        go_wp2
        go_roundw
        case rel => exact ⟨j + 1, A5, n5, c5, _, by omega, by go_num, by rw [HSN.out, HPE.out]; exact HF6.out⟩
        case measure => simp [intOf]; omega
    · obtain rfl : j = NS.length := by omega
      rw [List.take_length] at HF
      have HZr := hide (HZ5.out.below HF.out.below hsz5)
      have z0 := HZr.out.cell 0
      have y0 := HZr.out.frozen 0
      have z1 := HZr.out.cell 1
      have y1 := HZr.out.frozen 1
      have z2 := HZr.out.cell 2
      have y2 := HZr.out.frozen 2
      have x1 := HF.out.box.cell 1
      have x2 := HF.out.box.cell 2
      go_wp2
      refine bodyPost_ret (ret_row rfl _ _ (w.heap.size + 1) 38 [.slice A1' n1 c1', .slice A' NS.length c', .slice none 0 0] (HZr.out.setAll [.slice A1' n1 c1', .slice A' NS.length c', .slice none 0 0] rfl) _ rfl Tryz.underlying38 rfl (by kernel_rfl)) rfl ?_
      obtain ⟨fp', h1, h2⟩ := HF.out.fin (setN_grown [.slice A1' n1 c1', .slice A' NS.length c', .slice none 0 0] 0 (grown_refl wr (some (w.heap.size + 1)))) (Nat.lt_succ_self _) (by omega) (by omega)
      exact ⟨_, fp', rfl, h1, h2.mono (by omega), HBr.out.trans (below_of_grown (setN_grown [.slice A1' n1 c1', .slice A' NS.length c', .slice none 0 0] 0 (grown_refl wr (some (w.heap.size + 1)))) (Nat.le_succ _) HBr.out.size)⟩
end Go.Proofs.YtddjgbhkfdpffaaGreatDoor
