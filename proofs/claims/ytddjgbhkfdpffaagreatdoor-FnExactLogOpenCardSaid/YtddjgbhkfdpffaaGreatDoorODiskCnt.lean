/-
  Disks: DiskLook of both sides. Printed by gen/disklook.py. How much the marks count at a disk, and how many names it shows.
-/
import Derived.Test.YtddjgbhkfdpffaaGreatDoorODiskNames
import Derived.Test.YtddjgbhkfdpffaaGreatDoorONDisk
set_option linter.unusedVariables false
set_option linter.unusedSimpArgs false
namespace Go.Proofs.YtddjgbhkfdpffaaGreatDoor
open Go.ChangeShapes Go.WideShapes Go.ChangeAt Go.RowKit

set_option maxRecDepth 100000 in
theorem specDiskLook_any (d : Disk) (us0 : List Value) (fp : List Nat) (x : ByteArray) (w : World) (h : OwC w d.cells us0 fp) (hf : Lt fp w.heap.size) (hbk : d.bulk ≤ 1048576) (hx : x.size ≤ 1048576) :
    Calls Tryz.prog 33 #[.agg us0.toArray, .string x] w fun e w' => e = .returned (.tuple #[.string (d.lookT x), .bool (d.lookB x)]) ∧ Below w.heap.size w w' := by
  have HOC := hide h
  obtain ⟨A1, c1, A2, c2, A3, c3, f1, f2, f3, rfl, o1, o2, o3, rfl⟩ := h.oDisk
  clear h
  obtain ⟨_, hc1, hm1⟩ := o1.nlen
  unfold maxLen at hm1
  obtain ⟨W1, hW1⟩ : ∃ W1, w.alloc (.cells #[.slice A1 d.files.length c1, .slice A2 d.names.length c2, .slice A3 d.moves.length c3] 38) = W1 := ⟨_, rfl⟩
  have hB1 : Below w.heap.size w W1 := hW1 ▸ (Below.refl _ _).alloc (Nat.le_refl _) _
  have RD : Row W1 w.heap.size 38 [.slice A1 d.files.length c1, .slice A2 d.names.length c2, .slice A3 d.moves.length c3] := hW1 ▸ Row.new w _ _
  have HB1 := hide hB1
  have HRD := hide RD
  have O1 := hide o1
  have d0 := RD.cell 0
  have d1 := RD.cell 1
  have d2 := RD.cell 2
  have ld := RD.lt
  have HNM := hide (specDiskNames_any d _ _ W1 (HOC.out.below HB1.out hf) (hf.up HB1.out) hbk)
  clear o1 o2 o3 hB1 RD
  go_enter Tryz.func33, Tryz.ntmps33
  go_wp2_with fail
  refine HNM.out.mono ?_
  rintro e w2 ⟨v, fq, rfl, hq, hqn, hb2⟩
  have HB2 := hide (HB1.out.trans (hb2.mono HB1.out.size))
  have HR2 := hide (HRD.out.below hb2 ld)
  obtain ⟨Aq, cq, rfl, _, _⟩ := hq.slice
  have HQ := hide hq
  have e0 := HR2.out.cell 0
  have le := HR2.out.lt
  clear hb2 hq hqn d0 d1 d2 ld HNM
  by_cases hin : x ∈ d.shown
  · have HT := hide (tb_true hin)
    obtain ⟨k, hk, hz, hl1, hl2⟩ := Disk.look_yes hin
    have HZ := hide hz
    have HL := hide hl1
    have HL2 := hide hl2
    obtain ⟨g, off, ws, fi, rfl, hgm, hfi, hwl, hcs, hov⟩ := (O1.out.below HB2.out hf.left).elem DiskFile.cells_len hk
    obtain ⟨rfl, hs0, hs1, hw2, rfl⟩ := hov.oDiskFile
    have hgl := hf.left _ hgm
    have hgw := Nat.lt_of_lt_of_le hgl HB2.out.size
    have p1 := hcs 1 _ rfl
    have HFA := hide (fun W (hb : Below w.heap.size w W) => O1.out.below hb hf.left)
    clear hcs hov hin hz hl1 hl2
    generalize d.files[k] = y at *
    go_wp2_with fail
    refine (l6Has_any _ _ _ _ _ _ _ HQ.out).mono ?_
    rintro e w3 ⟨rfl, rfl⟩
    rw [HT.out]
    go_wp2_with fail
    go_quiet ((go_at_call 75; exact Calls.quiet_of_same (l41Find_is HZ.out (HFA.out _ (below_drewN HB2.out _)))))
    go_wp2
    go_ret2
    exact ⟨by rw [HL.out, HL2.out]; rfl, below_drewN HB2.out _⟩
  · have HT := hide (tb_false hin)
    obtain ⟨hl1, hl2⟩ := Disk.look_no hin
    have HL := hide hl1
    have HL2 := hide hl2
    clear hin hl1 hl2
    go_wp2_with fail
    refine (l6Has_any _ _ _ _ _ _ _ HQ.out).mono ?_
    rintro e w3 ⟨rfl, rfl⟩
    rw [HT.out]
    go_wp2
    go_ret2
    exact ⟨by rw [HL.out, HL2.out]; rfl, HB2.out⟩
set_option maxRecDepth 100000 in
theorem implLook_any (d : Disk) (us0 : List Value) (fp : List Nat) (x : ByteArray) (w : World) (h : OwC w d.cells us0 fp) (hf : Lt fp w.heap.size) (hbk : d.bulk ≤ 1048576) (hx : x.size ≤ 1048576) (hok : tb d.ok = true) :
    Calls Tryz.prog 92 #[.agg us0.toArray, .string x] w fun e w' => e = .returned (.tuple #[.string (d.lookT x), .bool (d.lookB x)]) ∧ Below w.heap.size w w' := by
  have HOC := hide h
  obtain ⟨A1, c1, A2, c2, A3, c3, f1, f2, f3, rfl, o1, o2, o3, rfl⟩ := h.oDisk
  clear h
  obtain ⟨_, hc1, hm1⟩ := o1.nlen
  unfold maxLen at hm1
  obtain ⟨W1, hW1⟩ : ∃ W1, w.alloc (.cells #[.slice A1 d.files.length c1, .slice A2 d.names.length c2, .slice A3 d.moves.length c3] 38) = W1 := ⟨_, rfl⟩
  have hB1 : Below w.heap.size w W1 := hW1 ▸ (Below.refl _ _).alloc (Nat.le_refl _) _
  have RD : Row W1 w.heap.size 38 [.slice A1 d.files.length c1, .slice A2 d.names.length c2, .slice A3 d.moves.length c3] := hW1 ▸ Row.new w _ _
  have HB1 := hide hB1
  have HRD := hide RD
  have O1 := hide o1
  have d0 := RD.cell 0
  have d1 := RD.cell 1
  have d2 := RD.cell 2
  have ld := RD.lt
  have HNM := hide (implThere_any d _ _ W1 (HOC.out.below HB1.out hf) (hf.up HB1.out) hbk)
  have HAT := hide (fun (W : World) (hb : Below w.heap.size w W) => fileAt_any d _ _ x W (HOC.out.below hb hf) (hf.up hb))
  have HSH := hide (show d.shown = d.afterI d.moves.length from (Disk.shown_yes hok).trans (d.ok_after (tb_got hok) _ (Nat.le_refl _)).1.symm)
  clear o1 o2 o3 hB1 RD hok
  go_enter Tryz.func92, Tryz.ntmps92
  go_wp2_with fail
  refine HNM.out.mono ?_
  rintro e w2 ⟨v, us, rfl, hs, hb2⟩
  obtain ⟨Aq, cq, rfl⟩ := hs.form
  obtain ⟨fq, hq, _, _⟩ := hs.toOw'
  rw [← HSH.out] at hq
  have HQ := hide hq
  have HB2 := hide (HB1.out.trans (hb2.mono HB1.out.size))
  have HR2 := hide (HRD.out.below hb2 ld)
  have e0 := HR2.out.cell 0
  have e1 := HR2.out.cell 1
  have e2 := HR2.out.cell 2
  have le := HR2.out.lt
  rw [← HSH.out]
  clear hb2 hq hs d0 d1 d2 ld HNM
  by_cases hin : x ∈ d.shown
  · have HT := hide (tb_true hin)
    obtain ⟨k, hk, hz, hl1, hl2⟩ := Disk.look_yes hin
    have HZ := hide hz
    have HL := hide hl1
    have HL2 := hide hl2
    obtain ⟨g, off, ws, fi, rfl, hgm, hfi, hwl, hcs, hov⟩ := (O1.out.below HB2.out hf.left).elem DiskFile.cells_len hk
    obtain ⟨rfl, hs0, hs1, hw2, rfl⟩ := hov.oDiskFile
    have hgl := hf.left _ hgm
    have hgw := Nat.lt_of_lt_of_le hgl HB2.out.size
    have p1 := hcs 1 _ rfl
    have hki : (k : Int) < (d.files.length : Int) := by omega
    clear hcs hov hin hz hl1 hl2
    generalize d.files[k] = y at *
    go_wp2_with fail
    refine (containsStr_any _ _ _ _ _ _ _ HQ.out).mono ?_
    rintro e w3 ⟨rfl, rfl⟩
    rw [HT.out]
    go_wp2_with fail
    go_region_held3 (fun w' => w'.cell? ⟨w.heap.size, 0, none⟩ = some (.slice (some ⟨g, off, none⟩) d.files.length c1) ∧ w'.cell? ⟨w.heap.size, 1, none⟩ = some (.slice A2 d.names.length c2) ∧ w'.cell? ⟨w.heap.size, 2, none⟩ = some (.slice A3 d.moves.length c3) ∧ w'.cell? ⟨g, off + k * 3 + 1, none⟩ = some (.string y.data))
      (first | exact ⟨kcell2 e0 hbz le, kcell2 e1 hbz le, kcell2 e2 hbz le, kcell2 p1 hbz hgw⟩ | go_keep)
      (first
        | (go_at_call 87; refine (HAT.out _ (below_drewN HB2.out _)).mono ?_; rintro e w3 ⟨z, rfl, hz, hb3⟩; obtain rfl := hz.uniq HZ.out; have hbz : Below w2.heap.size w2 w3 := (below_drewN (Below.refl _ w2) _).trans hb3))
    all_goals
      have HB3 := hide (HB2.out.trans (hbz.mono HB2.out.size))
      clear hb3 hbz hz
      go_wp2
      go_ret2
      exact ⟨by rw [HL.out, HL2.out]; rfl, HB3.out⟩
  · have HT := hide (tb_false hin)
    obtain ⟨hl1, hl2⟩ := Disk.look_no hin
    have HL := hide hl1
    have HL2 := hide hl2
    clear hin hl1 hl2
    go_wp2_with fail
    refine (containsStr_any _ _ _ _ _ _ _ HQ.out).mono ?_
    rintro e w3 ⟨rfl, rfl⟩
    rw [HT.out]
    go_wp2
    go_ret2
    exact ⟨by rw [HL.out, HL2.out]; rfl, HB2.out⟩
end Go.Proofs.YtddjgbhkfdpffaaGreatDoor
set_option linter.unusedVariables false
set_option linter.unusedSimpArgs false
namespace Go.Proofs.YtddjgbhkfdpffaaGreatDoor
open Go.ChangeShapes Go.WideShapes Go.ChangeAt Go.RowKit

theorem DiskFile.cntS_len (l : List DiskFile) : DiskFile.cntS l = 3 * l.length := by
  induction l with
  | nil => rfl
  | cons x l ih => simp only [DiskFile.cntS, List.length_cons, ih, x.cnt_eq]; omega
theorem DiskMove.cntS_len (l : List DiskMove) : DiskMove.cntS l = 2 * l.length := by
  induction l with
  | nil => rfl
  | cons x l ih => simp only [DiskMove.cntS, List.length_cons, ih, x.cnt_eq]; omega
theorem Disk.cntTop_bulk (x : Disk) : x.cntTop ≤ 3 * x.bulk := by
  have h := x.cntTop_eq
  have h1 := DiskFile.cntS_len x.files
  have h2 := DiskMove.cntS_len x.moves
  have h3 := x.bulk_eq
  unfold bulkStrs DiskFile.bulkL DiskMove.bulkL at h3
  omega
end Go.Proofs.YtddjgbhkfdpffaaGreatDoor
