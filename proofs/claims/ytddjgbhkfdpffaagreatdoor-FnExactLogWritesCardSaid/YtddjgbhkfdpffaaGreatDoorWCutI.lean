/-
  Disks: DiskNames and DiskLook of both sides. Disks: DiskLook of both sides. Printed by gen/disklook.py. How much the marks count at a disk, and how many names it shows. Disks behind a loss of power: what is left of them; plain definitions. Disks behind a loss of power: the program's cut and DiskCut. Printed by gen/cuti.py.
-/
import Derived.Deep.RegionHeld3
import Derived.Test.YtddjgbhkfdpffaaGreatDoorWDiskOkI
import Derived.Test.YtddjgbhkfdpffaaGreatDoorWNDisk
set_option linter.unusedVariables false
set_option linter.unusedSimpArgs false
namespace Go.Proofs.YtddjgbhkfdpffaaGreatDoor
open Go.ChangeShapes Go.WideShapes Go.ChangeAt Go.RowKit

theorem tb_got {p : Prop} (h : tb p = true) : p := Classical.byContradiction (fun k => by rw [tb_false k] at h; cases h)
noncomputable def Disk.shown (d : Disk) : List ByteArray := if tb d.ok = true then d.afterW d.moves.length else []
theorem Disk.shown_yes {d : Disk} (h : tb d.ok = true) : d.shown = d.afterW d.moves.length := by unfold Disk.shown; rw [if_pos h]
theorem Disk.shown_no {d : Disk} (h : tb d.ok = false) : d.shown = [] := by unfold Disk.shown; rw [if_neg (by rw [h]; simp)]
set_option maxRecDepth 100000 in
theorem specDiskNames_any (d : Disk) (us0 : List Value) (fp : List Nat) (w : World) (h : OwC w d.cells us0 fp) (hf : Lt fp w.heap.size) (hbk : d.bulk ≤ 1048576) :
    Calls Tryz.prog 78 #[.agg us0.toArray] w fun e w' => ∃ v fq, e = .returned v ∧ Ow w' (.s 1 d.shown.length (d.shown.flatMap strC)) v fq ∧ New w' fq w.heap.size ∧ Below w.heap.size w w' := by
  have HOC := hide h
  obtain ⟨A1, c1, A2, c2, A3, c3, f1, f2, f3, rfl, o1, o2, o3, rfl⟩ := h.oDisk
  clear h
  obtain ⟨_, hc3, hm3⟩ := o3.nlen
  unfold maxLen at hm3
  obtain ⟨W1, hW1⟩ : ∃ W1, w.alloc (.cells #[.slice A1 d.files.length c1, .slice A2 d.names.length c2, .slice A3 d.moves.length c3] 38) = W1 := ⟨_, rfl⟩
  have hB1 : Below w.heap.size w W1 := hW1 ▸ (Below.refl _ _).alloc (Nat.le_refl _) _
  have RD : Row W1 w.heap.size 38 [.slice A1 d.files.length c1, .slice A2 d.names.length c2, .slice A3 d.moves.length c3] := hW1 ▸ Row.new w _ _
  have HB1 := hide hB1
  have HRD := hide RD
  have d0 := RD.cell 0
  have d1 := RD.cell 1
  have d2 := RD.cell 2
  have ld := RD.lt
  have HOK := hide (specDiskOk_any d _ _ W1 (HOC.out.below HB1.out hf) (hf.up HB1.out) hbk)
  have HAF := hide (fun (W : World) (hb : Below w.heap.size w W) => l41After_any d _ _ d.moves.length W (HOC.out.below hb hf) (hf.up hb) hbk (Nat.le_refl _))
  clear o1 o2 o3 hB1 RD
  go_enter Tryz.func78, Tryz.ntmps78
  go_wp2_with fail
  refine HOK.out.mono ?_
  rintro e w2 ⟨rfl, hb2⟩
  have HB2 := hide (HB1.out.trans (hb2.mono HB1.out.size))
  have HR2 := hide (HRD.out.below hb2 ld)
  have e0 := HR2.out.cell 0
  have e1 := HR2.out.cell 1
  have e2 := HR2.out.cell 2
  have le := HR2.out.lt
  clear hb2 d0 d1 d2 ld HOK
  by_cases hok : tb d.ok = true
  · have HS := hide (Disk.shown_yes hok)
    rw [hok]
    clear hok
    go_wp2_with fail
    refine (HAF.out w2 HB2.out).mono ?_
    rintro e w3 ⟨v, us, rfl, hs, hb3⟩
    obtain ⟨fq, h1, h2, h3⟩ := hs.toOw'
    have H1 := hide (show Ow w3 (.s 1 d.shown.length (d.shown.flatMap strC)) v fq ∧ New w3 fq w.heap.size ∧ Below w.heap.size w w3 from ⟨by rw [HS.out]; exact h1, h2.mono HB2.out.size, HB2.out.trans (hb3.mono HB2.out.size)⟩)
    clear hs h1 h2 h3 hb3
    go_wp2
    go_ret
    exact ⟨v, fq, rfl, H1.out⟩
  · have hno : tb d.ok = false := by simpa using hok
    have HS := hide (Disk.shown_no hno)
    rw [hno]
    clear hok hno
    go_wp2
    go_ret
    refine ⟨_, [], rfl, ?_, New.nil _ _, HB2.out.alloc HB2.out.size _⟩
    rw [HS.out]
    unfold Ow
    exact ⟨by simp, _, 0, rfl, Nat.le_refl _, by simp [maxLen], .inl ⟨rfl, rfl⟩⟩
set_option maxRecDepth 100000 in
theorem implThere_any (d : Disk) (us0 : List Value) (fp : List Nat) (w : World) (h : OwC w d.cells us0 fp) (hf : Lt fp w.heap.size) (hbk : d.bulk ≤ 1048576) :
    Calls Tryz.prog 127 #[.agg us0.toArray] w fun e w' => ∃ v us, e = .returned v ∧ OwS w' w.heap.size 9 1 strC v (d.afterI d.moves.length) us [] ∧ Below w.heap.size w w' := by
  have HOC := hide h
  obtain ⟨A1, c1, A2, c2, A3, c3, f1, f2, f3, rfl, o1, o2, o3, rfl⟩ := h.oDisk
  clear h
  obtain ⟨_, hc3, hm3⟩ := o3.nlen
  unfold maxLen at hm3
  obtain ⟨W1, hW1⟩ : ∃ W1, w.alloc (.cells #[.slice A1 d.files.length c1, .slice A2 d.names.length c2, .slice A3 d.moves.length c3] 38) = W1 := ⟨_, rfl⟩
  have hB1 : Below w.heap.size w W1 := hW1 ▸ (Below.refl _ _).alloc (Nat.le_refl _) _
  have RD : Row W1 w.heap.size 38 [.slice A1 d.files.length c1, .slice A2 d.names.length c2, .slice A3 d.moves.length c3] := hW1 ▸ Row.new w _ _
  have HB1 := hide hB1
  have d0 := RD.cell 0
  have d1 := RD.cell 1
  have d2 := RD.cell 2
  have ld := RD.lt
  have HAF := hide (implNames_any d _ _ d.moves.length W1 (HOC.out.below HB1.out hf) (hf.up HB1.out) hbk (Nat.le_refl _))
  clear o1 o2 o3 hB1 RD
  go_enter Tryz.func127, Tryz.ntmps127
  go_wp2_with fail
  refine HAF.out.mono ?_
  rintro e w2 ⟨v, us, rfl, hs, hb2⟩
  have HS := hide (hs.lower HB1.out.size)
  have HB2 := hide (HB1.out.trans (hb2.mono HB1.out.size))
  clear hs hb2
  go_wp2
  go_ret
  exact ⟨v, us, rfl, HS.out, HB2.out⟩
noncomputable def Disk.lookB (d : Disk) (x : ByteArray) : Bool := tb (x ∈ d.shown)
noncomputable def Disk.lookT (d : Disk) (x : ByteArray) : ByteArray := if tb (x ∈ d.shown) = true then (match d.files.find? (fun f => tb (f.name = x)) with | some f => f.data | none => ByteArray.empty) else ByteArray.empty
theorem Disk.look_no {d : Disk} {x : ByteArray} (h : ¬ x ∈ d.shown) : d.lookT x = ByteArray.empty ∧ d.lookB x = false := by
  unfold Disk.lookT Disk.lookB
  rw [tb_false h]
  simp
theorem Disk.look_yes {d : Disk} {x : ByteArray} (h : x ∈ d.shown) : ∃ (k : Nat) (hk : k < d.files.length), FindIs d.files x (k : Int) ∧ d.lookT x = d.files[k].data ∧ d.lookB x = true := by
  unfold Disk.lookT Disk.lookB
  rw [tb_true h]
  by_cases hok : tb d.ok = true
  · rw [Disk.shown_yes hok] at h
    obtain ⟨j, hj, ej⟩ := (d.ok_after (tb_got hok) _ (Nat.le_refl _)).2.2 x h
    obtain ⟨z, hz⟩ := FindIs.ex d.files x
    have hz' := hz
    rcases hz with ⟨k, rfl, ⟨hk, ek⟩, hn⟩ | ⟨rfl, hn⟩
    · refine ⟨k, hk, hz', ?_, rfl⟩
      have hfd : d.files.find? (fun f => tb (f.name = x)) = some d.files[k] := by
        rw [List.find?_eq_some_iff_getElem]
        refine ⟨tb_true ek, k, hk, rfl, fun j hj => ?_⟩
        simp [tb_false (hn j (by omega) hj)]
      simp [hfd]
    · exact absurd ej (hn j hj)
  · have hno : tb d.ok = false := by simpa using hok
    rw [Disk.shown_no hno] at h
    cases h
end Go.Proofs.YtddjgbhkfdpffaaGreatDoor
set_option linter.unusedVariables false
set_option linter.unusedSimpArgs false
namespace Go.Proofs.YtddjgbhkfdpffaaGreatDoor
open Go.ChangeShapes Go.WideShapes Go.ChangeAt Go.RowKit

set_option maxRecDepth 100000 in
theorem specDiskLook_any (d : Disk) (us0 : List Value) (fp : List Nat) (x : ByteArray) (w : World) (h : OwC w d.cells us0 fp) (hf : Lt fp w.heap.size) (hbk : d.bulk ≤ 1048576) (hx : x.size ≤ 1048576) :
    Calls Tryz.prog 33 #[.agg us0.toArray, .string x] w fun e w' => e = .returned (.tuple #[.string (d.lookT x), .bool (d.lookB x)]) ∧ Below w.heap.size w w' := by
  have HOC := hide h
  obtain ⟨A1, c1, A2, c2, A3, c3, f1, f2, f3, rfl, o1, o2, o3, rfl⟩ := h.oDisk
  clear h
  obtain ⟨_, hc1, hm1⟩ := o1.nlen
  unfold maxLen at hm1
  obtain ⟨W1, hW1⟩ : ∃ W1, w.alloc (.cells #[.slice A1 d.files.length c1, .slice A2 d.names.length c2, .slice A3 d.moves.length c3] 38) = W1 := ⟨_, rfl⟩
  have hB1 : Below w.heap.size w W1 := hW1 ▸ (Below.refl _ _).alloc (Nat.le_refl _) _
  have RD : Row W1 w.heap.size 38 [.slice A1 d.files.length c1, .slice A2 d.names.length c2, .slice A3 d.moves.length c3] := hW1 ▸ Row.new w _ _
  have HB1 := hide hB1
  have HRD := hide RD
  have O1 := hide o1
  have d0 := RD.cell 0
  have d1 := RD.cell 1
  have d2 := RD.cell 2
  have ld := RD.lt
  have HNM := hide (specDiskNames_any d _ _ W1 (HOC.out.below HB1.out hf) (hf.up HB1.out) hbk)
  clear o1 o2 o3 hB1 RD
  go_enter Tryz.func33, Tryz.ntmps33
  go_wp2_with fail
  refine HNM.out.mono ?_
  rintro e w2 ⟨v, fq, rfl, hq, hqn, hb2⟩
  have HB2 := hide (HB1.out.trans (hb2.mono HB1.out.size))
  have HR2 := hide (HRD.out.below hb2 ld)
  obtain ⟨Aq, cq, rfl, _, _⟩ := hq.slice
  have HQ := hide hq
  have e0 := HR2.out.cell 0
  have le := HR2.out.lt
  clear hb2 hq hqn d0 d1 d2 ld HNM
  by_cases hin : x ∈ d.shown
  · have HT := hide (tb_true hin)
    obtain ⟨k, hk, hz, hl1, hl2⟩ := Disk.look_yes hin
    have HZ := hide hz
    have HL := hide hl1
    have HL2 := hide hl2
    obtain ⟨g, off, ws, fi, rfl, hgm, hfi, hwl, hcs, hov⟩ := (O1.out.below HB2.out hf.left).elem DiskFile.cells_len hk
    obtain ⟨rfl, hs0, hs1, hw2, rfl⟩ := hov.oDiskFile
    have hgl := hf.left _ hgm
    have hgw := Nat.lt_of_lt_of_le hgl HB2.out.size
    have p1 := hcs 1 _ rfl
    have HFA := hide (fun W (hb : Below w.heap.size w W) => O1.out.below hb hf.left)
    clear hcs hov hin hz hl1 hl2
    generalize d.files[k] = y at *
    go_wp2_with fail
    refine (l6Has_any _ _ _ _ _ _ _ HQ.out).mono ?_
    rintro e w3 ⟨rfl, rfl⟩
    rw [HT.out]
    go_wp2_with fail
    go_quiet ((go_at_call 75; exact Calls.quiet_of_same (l41Find_is HZ.out (HFA.out _ (below_drewN HB2.out _)))))
    go_wp2
    go_ret2
    exact ⟨by rw [HL.out, HL2.out]; rfl, below_drewN HB2.out _⟩
  · have HT := hide (tb_false hin)
    obtain ⟨hl1, hl2⟩ := Disk.look_no hin
    have HL := hide hl1
    have HL2 := hide hl2
    clear hin hl1 hl2
    go_wp2_with fail
    refine (l6Has_any _ _ _ _ _ _ _ HQ.out).mono ?_
    rintro e w3 ⟨rfl, rfl⟩
    rw [HT.out]
    go_wp2
    go_ret2
    exact ⟨by rw [HL.out, HL2.out]; rfl, HB2.out⟩
set_option maxRecDepth 100000 in
theorem implLook_any (d : Disk) (us0 : List Value) (fp : List Nat) (x : ByteArray) (w : World) (h : OwC w d.cells us0 fp) (hf : Lt fp w.heap.size) (hbk : d.bulk ≤ 1048576) (hx : x.size ≤ 1048576) (hok : tb d.ok = true) :
    Calls Tryz.prog 92 #[.agg us0.toArray, .string x] w fun e w' => e = .returned (.tuple #[.string (d.lookT x), .bool (d.lookB x)]) ∧ Below w.heap.size w w' := by
  have HOC := hide h
  obtain ⟨A1, c1, A2, c2, A3, c3, f1, f2, f3, rfl, o1, o2, o3, rfl⟩ := h.oDisk
  clear h
  obtain ⟨_, hc1, hm1⟩ := o1.nlen
  unfold maxLen at hm1
  obtain ⟨W1, hW1⟩ : ∃ W1, w.alloc (.cells #[.slice A1 d.files.length c1, .slice A2 d.names.length c2, .slice A3 d.moves.length c3] 38) = W1 := ⟨_, rfl⟩
  have hB1 : Below w.heap.size w W1 := hW1 ▸ (Below.refl _ _).alloc (Nat.le_refl _) _
  have RD : Row W1 w.heap.size 38 [.slice A1 d.files.length c1, .slice A2 d.names.length c2, .slice A3 d.moves.length c3] := hW1 ▸ Row.new w _ _
  have HB1 := hide hB1
  have HRD := hide RD
  have O1 := hide o1
  have d0 := RD.cell 0
  have d1 := RD.cell 1
  have d2 := RD.cell 2
  have ld := RD.lt
  have HNM := hide (implThere_any d _ _ W1 (HOC.out.below HB1.out hf) (hf.up HB1.out) hbk)
  have HAT := hide (fun (W : World) (hb : Below w.heap.size w W) => fileAt_any d _ _ x W (HOC.out.below hb hf) (hf.up hb))
  have HSH := hide (show d.shown = d.afterI d.moves.length from (Disk.shown_yes hok).trans (d.ok_after (tb_got hok) _ (Nat.le_refl _)).1.symm)
  clear o1 o2 o3 hB1 RD hok
  go_enter Tryz.func92, Tryz.ntmps92
  go_wp2_with fail
  refine HNM.out.mono ?_
  rintro e w2 ⟨v, us, rfl, hs, hb2⟩
  obtain ⟨Aq, cq, rfl⟩ := hs.form
  obtain ⟨fq, hq, _, _⟩ := hs.toOw'
  rw [← HSH.out] at hq
  have HQ := hide hq
  have HB2 := hide (HB1.out.trans (hb2.mono HB1.out.size))
  have HR2 := hide (HRD.out.below hb2 ld)
  have e0 := HR2.out.cell 0
  have e1 := HR2.out.cell 1
  have e2 := HR2.out.cell 2
  have le := HR2.out.lt
  rw [← HSH.out]
  clear hb2 hq hs d0 d1 d2 ld HNM
  by_cases hin : x ∈ d.shown
  · have HT := hide (tb_true hin)
    obtain ⟨k, hk, hz, hl1, hl2⟩ := Disk.look_yes hin
    have HZ := hide hz
    have HL := hide hl1
    have HL2 := hide hl2
    obtain ⟨g, off, ws, fi, rfl, hgm, hfi, hwl, hcs, hov⟩ := (O1.out.below HB2.out hf.left).elem DiskFile.cells_len hk
    obtain ⟨rfl, hs0, hs1, hw2, rfl⟩ := hov.oDiskFile
    have hgl := hf.left _ hgm
    have hgw := Nat.lt_of_lt_of_le hgl HB2.out.size
    have p1 := hcs 1 _ rfl
    have hki : (k : Int) < (d.files.length : Int) := by omega
    clear hcs hov hin hz hl1 hl2
    generalize d.files[k] = y at *
    go_wp2_with fail
    refine (containsStr_any _ _ _ _ _ _ _ HQ.out).mono ?_
    rintro e w3 ⟨rfl, rfl⟩
    rw [HT.out]
    go_wp2_with fail
    go_region_held3 (fun w' => w'.cell? ⟨w.heap.size, 0, none⟩ = some (.slice (some ⟨g, off, none⟩) d.files.length c1) ∧ w'.cell? ⟨w.heap.size, 1, none⟩ = some (.slice A2 d.names.length c2) ∧ w'.cell? ⟨w.heap.size, 2, none⟩ = some (.slice A3 d.moves.length c3) ∧ w'.cell? ⟨g, off + k * 3 + 1, none⟩ = some (.string y.data))
      (first | exact ⟨kcell2 e0 hbz le, kcell2 e1 hbz le, kcell2 e2 hbz le, kcell2 p1 hbz hgw⟩ | go_keep)
      (first
        | (go_at_call 87; refine (HAT.out _ (below_drewN HB2.out _)).mono ?_; rintro e w3 ⟨z, rfl, hz, hb3⟩; obtain rfl := hz.uniq HZ.out; have hbz : Below w2.heap.size w2 w3 := (below_drewN (Below.refl _ w2) _).trans hb3))
    all_goals
      have HB3 := hide (HB2.out.trans (hbz.mono HB2.out.size))
      clear hb3 hbz hz
      go_wp2
      go_ret2
      exact ⟨by rw [HL.out, HL2.out]; rfl, HB3.out⟩
  · have HT := hide (tb_false hin)
    obtain ⟨hl1, hl2⟩ := Disk.look_no hin
    have HL := hide hl1
    have HL2 := hide hl2
    clear hin hl1 hl2
    go_wp2_with fail
    refine (containsStr_any _ _ _ _ _ _ _ HQ.out).mono ?_
    rintro e w3 ⟨rfl, rfl⟩
    rw [HT.out]
    go_wp2
    go_ret2
    exact ⟨by rw [HL.out, HL2.out]; rfl, HB2.out⟩
end Go.Proofs.YtddjgbhkfdpffaaGreatDoor
set_option linter.unusedVariables false
set_option linter.unusedSimpArgs false
namespace Go.Proofs.YtddjgbhkfdpffaaGreatDoor
open Go.ChangeShapes Go.WideShapes Go.ChangeAt Go.RowKit

theorem DiskFile.cntS_len (l : List DiskFile) : DiskFile.cntS l = 3 * l.length := by
  induction l with
  | nil => rfl
  | cons x l ih => simp only [DiskFile.cntS, List.length_cons, ih, x.cnt_eq]; omega
theorem DiskMove.cntS_len (l : List DiskMove) : DiskMove.cntS l = 2 * l.length := by
  induction l with
  | nil => rfl
  | cons x l ih => simp only [DiskMove.cntS, List.length_cons, ih, x.cnt_eq]; omega
theorem Disk.cntTop_bulk (x : Disk) : x.cntTop ≤ 3 * x.bulk := by
  have h := x.cntTop_eq
  have h1 := DiskFile.cntS_len x.files
  have h2 := DiskMove.cntS_len x.moves
  have h3 := x.bulk_eq
  unfold bulkStrs DiskFile.bulkL DiskMove.bulkL at h3
  omega
theorem Disk.shown_len (x : Disk) : x.shown.length ≤ x.bulk := by
  have h3 := x.bulk_eq
  unfold bulkStrs DiskFile.bulkL DiskMove.bulkL at h3
  unfold Disk.shown
  split
  · have := afterW_len x x.moves.length
    omega
  · simp
end Go.Proofs.YtddjgbhkfdpffaaGreatDoor
set_option linter.unusedVariables false
set_option linter.unusedSimpArgs false
namespace Go.Proofs.YtddjgbhkfdpffaaGreatDoor
open Go.ChangeShapes Go.WideShapes Go.ChangeAt Go.RowKit

theorem tb_get {p : Prop} (h : tb p = true) : p := Classical.byContradiction (fun k => by rw [tb_false k] at h; cases h)
theorem FindIs.names {l l' : List DiskFile} {x : ByteArray} {z : Int} (hl : l'.length = l.length) (he : ∀ i (h : i < l.length) (h' : i < l'.length), l'[i].name = l[i].name) (h : FindIs l x z) : FindIs l' x z := by
  rcases h with ⟨k, rfl, ⟨hk, ek⟩, hn⟩ | ⟨rfl, hn⟩
  · exact .inl ⟨k, rfl, ⟨by omega, by rw [he k hk (by omega)]; exact ek⟩, fun j hj hjk => by rw [he j (by omega) hj]; exact hn j (by omega) hjk⟩
  · exact .inr ⟨rfl, fun j hj => by rw [he j (by omega) hj]; exact hn j (by omega)⟩
/-- the first file with a name -/
noncomputable def pickFile (l : List DiskFile) (x : ByteArray) : DiskFile := (l.find? (fun f => tb (f.name = x))).getD ⟨.empty, .empty, 0⟩
theorem pickFile_at {l : List DiskFile} {x : ByteArray} {k : Nat} (h : FindIs l x (k : Int)) : ∃ hk : k < l.length, pickFile l x = l[k] ∧ l[k].name = x := by
  rcases h with ⟨j, e, ⟨hk, ek⟩, hn⟩ | ⟨e, _⟩
  · obtain rfl : k = j := by omega
    refine ⟨hk, ?_, ek⟩
    have hfd : l.find? (fun f => tb (f.name = x)) = some l[k] := by
      rw [List.find?_eq_some_iff_getElem]
      refine ⟨tb_true ek, k, hk, rfl, fun j hj => ?_⟩
      simp [tb_false (hn j (by omega) hj)]
    unfold pickFile
    rw [hfd]
    rfl
  · omega
/-- each name is a file's -/
theorem Disk.cut_found {d : Disk} (h : tb d.ok = true) (m : Nat) (hm : m ≤ d.moves.length) : ∀ x ∈ d.afterW m, ∃ k : Nat, FindIs d.files x (k : Int) := by
  intro x hx
  obtain ⟨j, hj, ej⟩ := (d.ok_after (tb_get h) m hm).2.2 x hx
  obtain ⟨z, hz⟩ := FindIs.ex d.files x
  have hz' := hz
  rcases hz with ⟨k, rfl, _⟩ | ⟨rfl, hn⟩
  · exact ⟨k, hz'⟩
  · exact absurd ej (hn j hj)
theorem map_snoc {α β : Type} (f : α → β) (l : List α) (j : Nat) (h : j < l.length) : (l.take (j + 1)).map f = (l.take j).map f ++ [f l[j]] := by
  rw [List.take_succ_eq_append_getElem h, List.map_append]
  rfl
/-- the files as the reference changes them, one behind the other -/
def mixed (a b : List DiskFile) (j : Nat) : List DiskFile := a.take j ++ b.drop j
/-! ### One cell of an own slice is stored -/
end Go.Proofs.YtddjgbhkfdpffaaGreatDoor
set_option linter.unusedVariables false
set_option linter.unusedSimpArgs false
namespace Go.Proofs.YtddjgbhkfdpffaaGreatDoor
open Go.ChangeShapes Go.WideShapes Go.ChangeAt Go.RowKit

theorem info_DiskFile' : (Tryz.prog.info? 116).map (fun i => (i.zero, i.size, i.bytes)) = some (some (.agg #[.string .empty, .string .empty, .int .i64 0]), 3, 40) := by kernel_rfl
theorem SrcAt.newAt (w : World) (cs : List Value) (t : TypeId) (m c g : Nat) (hg : w.heap.size = g) : SrcAt (w.alloc (.cells cs.toArray t)) cs (some ⟨g, 0, none⟩) m c := hg ▸ SrcAt.new w cs t m c
def CutRet (x : Disk) (w : World) (e : Ending) (w' : World) : Prop := ∃ us fq, e = .returned (.agg us.toArray) ∧ OwC w' x.cells us fq ∧ New w' fq w.heap.size ∧ Below w.heap.size w w'
theorem FileDat (x : DiskFile) (h0 : x.name.size ≤ maxLen) (h1 : x.data.size ≤ maxLen) (h2 : (Lit.int .i64 x.kept).wf = true) (W : World) : OwC W ([x].flatMap DiskFile.cells) [.string x.name, .string x.data, .int .i64 x.kept] [] := by
  rw [List.flatMap_singleton]
  exact OwC.mDiskFile h0 h1 h2
/-- the box of a disk whose files are growing, its names there already -/
structure FilesAt (w0 wr : World) (b lo : Nat) (v1 : Value) (l : List DiskFile) (us : List Value) (v2 : Value) (ns : List ByteArray) (fq : List Nat) : Prop where
  box : Row wr b 38 [v1, v2, .slice none 0 0]
  own : OwS wr (b + 1) 116 3 DiskFile.cells v1 l us []
  names : Ow wr (.s 1 ns.length (ns.flatMap strC)) v2 fq
  new : New wr fq lo
  lt : Lt fq b
  below : Below b w0 wr
theorem FilesAt.put {w0 wr w1 : World} {b lo : Nat} {v1 v1' : Value} {l l' : List DiskFile} {us us' : List Value} {v2 : Value} {ns : List ByteArray} {fq : List Nat} (h : FilesAt w0 wr b lo v1 l us v2 ns fq) (hg : GB wr w1 v1 v1') (hn : OwS w1 (b + 1) 116 3 DiskFile.cells v1' l' us' []) :
    FilesAt w0 (w1.setCell ⟨b, 0, none⟩ v1') b lo v1' l' us' v2 ns fq := by
  have hr := hg.row h.box (h.own.low (Nat.lt_succ_self _))
  have hbl := h.box.lt
  have hb1 : Below b wr w1 := hg.toBelow (by omega) (fun g e => Nat.le_of_succ_le (h.own.from e))
  have hb2 : Below b wr (w1.setCell ⟨b, 0, none⟩ v1') := hb1.setCell (p := ⟨b, 0, none⟩) (Nat.le_refl _) _
  exact ⟨hr.set 0 v1', hn.setCell (hn.nlow (Nat.lt_succ_self _)) (hn.low (Nat.lt_succ_self _)) _, h.names.below hb2 h.lt, h.new.below hb2 h.lt, h.lt, h.below.trans hb2⟩
theorem FilesAt.after {w0 wr w1 : World} {b lo : Nat} {v1 : Value} {l : List DiskFile} {us : List Value} {v2 : Value} {ns : List ByteArray} {fq : List Nat} (h : FilesAt w0 wr b lo v1 l us v2 ns fq) (hb : Below wr.heap.size wr w1) : FilesAt w0 w1 b lo v1 l us v2 ns fq := by
  have hbl := h.box.lt
  have hbb : Below b wr w1 := hb.mono (by omega)
  exact ⟨h.box.below hb hbl, h.own.below (C := 0) hb, h.names.below hbb h.lt, h.new.below hbb h.lt, h.lt, h.below.trans hbb⟩
theorem FilesAt.alloc {w0 wr : World} {b lo : Nat} {v1 : Value} {l : List DiskFile} {us : List Value} {v2 : Value} {ns : List ByteArray} {fq : List Nat} (h : FilesAt w0 wr b lo v1 l us v2 ns fq) (o : Obj) : FilesAt w0 (wr.alloc o) b lo v1 l us v2 ns fq :=
  h.after ((Below.refl _ _).alloc (Nat.le_refl _) o)
theorem FilesAt.drewN {w0 wr : World} {b lo : Nat} {v1 : Value} {l : List DiskFile} {us : List Value} {v2 : Value} {ns : List ByteArray} {fq : List Nat} (h : FilesAt w0 wr b lo v1 l us v2 ns fq) (n : Nat) : FilesAt w0 (wr.drewN n) b lo v1 l us v2 ns fq :=
  h.after (below_drewN (Below.refl _ _) n)
theorem FilesAt.fin {w0 wr W : World} {b lo g : Nat} {v1 : Value} {l : List DiskFile} {us : List Value} {v2 : Value} {ns : List ByteArray} {fq : List Nat} (h : FilesAt w0 wr b lo v1 l us v2 ns fq) (hg : wr.grownBy W (some g)) (hl : g < lo) (hb : g < b) (hlo : lo ≤ b) :
    ∃ fp, OwC W (Disk.mk l ns []).cells [v1, v2, .slice none 0 0] fp ∧ New W fp lo := by
  obtain ⟨p1, o1, n1, _⟩ := h.own.toOw'
  have h1 : g ∉ p1 := n1.out (by omega)
  have h2 : g ∉ fq := h.new.out hl
  refine ⟨p1 ++ (fq ++ []), OwC.mDisk (x := Disk.mk l ns []) (o1.grown hg n1.lt h1) (h.names.grown hg h.new.lt h2) (Ow.nil_ W 2 DiskMove.cells), ?_⟩
  rw [List.append_nil]
  have m1 := (n1.grown hg (fun g' e => by injection e with e; subst e; exact h1))
  have m2 := (h.new.grown hg (fun g' e => by injection e with e; subst e; exact h2))
  refine ⟨(m1.fr.mono (by omega) (Nat.le_refl _)).app m2.fr, List.nodup_append.2 ⟨m1.nd, m2.nd, fun a ha c hc e => ?_⟩, fun g hg => ?_⟩
  · have e1 := (m1.fr a ha).1
    have e2 := h.lt c hc
    omega
  · rcases List.mem_append.1 hg with hg | hg
    · exact m1.uf g hg
    · exact m2.uf g hg

end Go.Proofs.YtddjgbhkfdpffaaGreatDoor
