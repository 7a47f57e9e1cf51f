/-
  Disks: DiskNames and DiskLook of both sides.
-/
import Derived.Test.YtdingkbggjehoaaDiskOkI
set_option linter.unusedVariables false
set_option linter.unusedSimpArgs false
namespace Go.Proofs.Ytdingkbggjehoaa
open Go.ChangeShapes Go.WideShapes Go.ChangeAt Go.RowKit

theorem tb_got {p : Prop} (h : tb p = true) : p := Classical.byContradiction (fun k => by rw [tb_false k] at h; cases h)
noncomputable def Disk.shown (d : Disk) : List ByteArray := if tb d.ok = true then d.afterW d.moves.length else []
theorem Disk.shown_yes {d : Disk} (h : tb d.ok = true) : d.shown = d.afterW d.moves.length := by unfold Disk.shown; rw [if_pos h]
theorem Disk.shown_no {d : Disk} (h : tb d.ok = false) : d.shown = [] := by unfold Disk.shown; rw [if_neg (by rw [h]; simp)]
set_option maxRecDepth 100000 in
theorem specDiskNames_any (d : Disk) (us0 : List Value) (fp : List Nat) (w : World) (h : OwC w d.cells us0 fp) (hf : Lt fp w.heap.size) (hbk : d.bulk ≤ 1048576) :
    Calls Try.prog 54 #[.agg us0.toArray] w fun e w' => ∃ v fq, e = .returned v ∧ Ow w' (.s 1 d.shown.length (d.shown.flatMap strC)) v fq ∧ New w' fq w.heap.size ∧ Below w.heap.size w w' := by
  have HOC := hide h
  obtain ⟨A1, c1, A2, c2, A3, c3, f1, f2, f3, rfl, o1, o2, o3, rfl⟩ := h.oDisk
  clear h
  obtain ⟨_, hc3, hm3⟩ := o3.nlen
  unfold maxLen at hm3
  obtain ⟨W1, hW1⟩ : ∃ W1, w.alloc (.cells #[.slice A1 d.files.length c1, .slice A2 d.names.length c2, .slice A3 d.moves.length c3] 83) = W1 := ⟨_, rfl⟩
  have hB1 : Below w.heap.size w W1 := hW1 ▸ (Below.refl _ _).alloc (Nat.le_refl _) _
  have RD : Row W1 w.heap.size 83 [.slice A1 d.files.length c1, .slice A2 d.names.length c2, .slice A3 d.moves.length c3] := hW1 ▸ Row.new w _ _
  have HB1 := hide hB1
  have HRD := hide RD
  have d0 := RD.cell 0
  have d1 := RD.cell 1
  have d2 := RD.cell 2
  have ld := RD.lt
  have HOK := hide (specDiskOk_any d _ _ W1 (HOC.out.below HB1.out hf) (hf.up HB1.out) hbk)
  have HAF := hide (fun (W : World) (hb : Below w.heap.size w W) => l41After_any d _ _ d.moves.length W (HOC.out.below hb hf) (hf.up hb) hbk (Nat.le_refl _))
  clear o1 o2 o3 hB1 RD
  go_enter Try.func54, Try.ntmps54
  go_wp2_with fail
  refine HOK.out.mono ?_
  rintro e w2 ⟨rfl, hb2⟩
  have HB2 := hide (HB1.out.trans (hb2.mono HB1.out.size))
  have HR2 := hide (HRD.out.below hb2 ld)
  have e0 := HR2.out.cell 0
  have e1 := HR2.out.cell 1
  have e2 := HR2.out.cell 2
  have le := HR2.out.lt
  clear hb2 d0 d1 d2 ld HOK
  by_cases hok : tb d.ok = true
  · have HS := hide (Disk.shown_yes hok)
    rw [hok]
    clear hok
    go_wp2_with fail
    refine (HAF.out w2 HB2.out).mono ?_
    rintro e w3 ⟨v, us, rfl, hs, hb3⟩
    obtain ⟨fq, h1, h2, h3⟩ := hs.toOw'
    have H1 := hide (show Ow w3 (.s 1 d.shown.length (d.shown.flatMap strC)) v fq ∧ New w3 fq w.heap.size ∧ Below w.heap.size w w3 from ⟨by rw [HS.out]; exact h1, h2.mono HB2.out.size, HB2.out.trans (hb3.mono HB2.out.size)⟩)
    clear hs h1 h2 h3 hb3
    go_wp2
    go_ret
    exact ⟨v, fq, rfl, H1.out⟩
  · have hno : tb d.ok = false := by simpa using hok
    have HS := hide (Disk.shown_no hno)
    rw [hno]
    clear hok hno
    go_wp2
    go_ret
    refine ⟨_, [], rfl, ?_, New.nil _ _, HB2.out.alloc HB2.out.size _⟩
    rw [HS.out]
    unfold Ow
    exact ⟨by simp, _, 0, rfl, Nat.le_refl _, by simp [maxLen], .inl ⟨rfl, rfl⟩⟩
set_option maxRecDepth 100000 in
theorem implThere_any (d : Disk) (us0 : List Value) (fp : List Nat) (w : World) (h : OwC w d.cells us0 fp) (hf : Lt fp w.heap.size) (hbk : d.bulk ≤ 1048576) :
    Calls Try.prog 134 #[.agg us0.toArray] w fun e w' => ∃ v us, e = .returned v ∧ OwS w' w.heap.size 9 1 strC v (d.afterI d.moves.length) us [] ∧ Below w.heap.size w w' := by
  have HOC := hide h
  obtain ⟨A1, c1, A2, c2, A3, c3, f1, f2, f3, rfl, o1, o2, o3, rfl⟩ := h.oDisk
  clear h
  obtain ⟨_, hc3, hm3⟩ := o3.nlen
  unfold maxLen at hm3
  obtain ⟨W1, hW1⟩ : ∃ W1, w.alloc (.cells #[.slice A1 d.files.length c1, .slice A2 d.names.length c2, .slice A3 d.moves.length c3] 83) = W1 := ⟨_, rfl⟩
  have hB1 : Below w.heap.size w W1 := hW1 ▸ (Below.refl _ _).alloc (Nat.le_refl _) _
  have RD : Row W1 w.heap.size 83 [.slice A1 d.files.length c1, .slice A2 d.names.length c2, .slice A3 d.moves.length c3] := hW1 ▸ Row.new w _ _
  have HB1 := hide hB1
  have d0 := RD.cell 0
  have d1 := RD.cell 1
  have d2 := RD.cell 2
  have ld := RD.lt
  have HAF := hide (implNames_any d _ _ d.moves.length W1 (HOC.out.below HB1.out hf) (hf.up HB1.out) hbk (Nat.le_refl _))
  clear o1 o2 o3 hB1 RD
  go_enter Try.func134, Try.ntmps134
  go_wp2_with fail
  refine HAF.out.mono ?_
  rintro e w2 ⟨v, us, rfl, hs, hb2⟩
  have HS := hide (hs.lower HB1.out.size)
  have HB2 := hide (HB1.out.trans (hb2.mono HB1.out.size))
  clear hs hb2
  go_wp2
  go_ret
  exact ⟨v, us, rfl, HS.out, HB2.out⟩
set_option maxRecDepth 100000 in
theorem implDiskNames_any (d : Disk) (us0 : List Value) (fp : List Nat) (w : World) (h : OwC w d.cells us0 fp) (hf : Lt fp w.heap.size) (hbk : d.bulk ≤ 1048576) :
    Calls Try.prog 55 #[.agg us0.toArray] w fun e w' => ∃ v fq, e = .returned v ∧ Ow w' (.s 1 d.shown.length (d.shown.flatMap strC)) v fq ∧ New w' fq w.heap.size ∧ Below w.heap.size w w' := by
  have HOC := hide h
  obtain ⟨A1, c1, A2, c2, A3, c3, f1, f2, f3, rfl, o1, o2, o3, rfl⟩ := h.oDisk
  clear h
  obtain ⟨W1, hW1⟩ : ∃ W1, w.alloc (.cells #[.slice A1 d.files.length c1, .slice A2 d.names.length c2, .slice A3 d.moves.length c3] 83) = W1 := ⟨_, rfl⟩
  have hB1 : Below w.heap.size w W1 := hW1 ▸ (Below.refl _ _).alloc (Nat.le_refl _) _
  have RD : Row W1 w.heap.size 83 [.slice A1 d.files.length c1, .slice A2 d.names.length c2, .slice A3 d.moves.length c3] := hW1 ▸ Row.new w _ _
  have HB1 := hide hB1
  have HRD := hide RD
  have d0 := RD.cell 0
  have d1 := RD.cell 1
  have d2 := RD.cell 2
  have ld := RD.lt
  have HOK := hide (implDiskOk_any d _ _ W1 (HOC.out.below HB1.out hf) (hf.up HB1.out) hbk)
  have HAF := hide (fun (W : World) (hb : Below w.heap.size w W) => implThere_any d _ _ W (HOC.out.below hb hf) (hf.up hb) hbk)
  clear o1 o2 o3 hB1 RD
  go_enter Try.func55, Try.ntmps55
  go_wp2_with fail
  refine HOK.out.mono ?_
  rintro e w2 ⟨rfl, hb2⟩
  have HB2 := hide (HB1.out.trans (hb2.mono HB1.out.size))
  have HR2 := hide (HRD.out.below hb2 ld)
  have e0 := HR2.out.cell 0
  have e1 := HR2.out.cell 1
  have e2 := HR2.out.cell 2
  have le := HR2.out.lt
  clear hb2 d0 d1 d2 ld HOK
  by_cases hok : tb d.ok = true
  · have HS := hide (show d.shown = d.afterI d.moves.length from (Disk.shown_yes hok).trans (d.ok_after (tb_got hok) _ (Nat.le_refl _)).1.symm)
    rw [hok]
    clear hok
    go_wp2_with fail
    refine (HAF.out w2 HB2.out).mono ?_
    rintro e w3 ⟨v, us, rfl, hs, hb3⟩
    obtain ⟨fq, h1, h2, h3⟩ := hs.toOw'
    have H1 := hide (show Ow w3 (.s 1 d.shown.length (d.shown.flatMap strC)) v fq ∧ New w3 fq w.heap.size ∧ Below w.heap.size w w3 from ⟨by rw [HS.out]; exact h1, h2.mono HB2.out.size, HB2.out.trans (hb3.mono HB2.out.size)⟩)
    clear hs h1 h2 h3 hb3
    go_wp2
    go_ret
    exact ⟨v, fq, rfl, H1.out⟩
  · have hno : tb d.ok = false := by simpa using hok
    have HS := hide (Disk.shown_no hno)
    rw [hno]
    clear hok hno
    go_wp2
    go_ret
    refine ⟨_, [], rfl, ?_, New.nil _ _, HB2.out⟩
    rw [HS.out]
    unfold Ow
    exact ⟨by simp, none, 0, rfl, Nat.le_refl _, by simp [maxLen], .inl ⟨rfl, rfl⟩⟩

/-! ### DiskLook -/
noncomputable def Disk.lookB (d : Disk) (x : ByteArray) : Bool := tb (x ∈ d.shown)
noncomputable def Disk.lookT (d : Disk) (x : ByteArray) : ByteArray := if tb (x ∈ d.shown) = true then (match d.files.find? (fun f => tb (f.name = x)) with | some f => f.data | none => ByteArray.empty) else ByteArray.empty
theorem Disk.look_no {d : Disk} {x : ByteArray} (h : ¬ x ∈ d.shown) : d.lookT x = ByteArray.empty ∧ d.lookB x = false := by
  unfold Disk.lookT Disk.lookB
  rw [tb_false h]
  simp
theorem Disk.look_yes {d : Disk} {x : ByteArray} (h : x ∈ d.shown) : ∃ (k : Nat) (hk : k < d.files.length), FindIs d.files x (k : Int) ∧ d.lookT x = d.files[k].data ∧ d.lookB x = true := by
  unfold Disk.lookT Disk.lookB
  rw [tb_true h]
  by_cases hok : tb d.ok = true
  · rw [Disk.shown_yes hok] at h
    obtain ⟨j, hj, ej⟩ := (d.ok_after (tb_got hok) _ (Nat.le_refl _)).2.2 x h
    obtain ⟨z, hz⟩ := FindIs.ex d.files x
    have hz' := hz
    rcases hz with ⟨k, rfl, ⟨hk, ek⟩, hn⟩ | ⟨rfl, hn⟩
    · refine ⟨k, hk, hz', ?_, rfl⟩
      have hfd : d.files.find? (fun f => tb (f.name = x)) = some d.files[k] := by
        rw [List.find?_eq_some_iff_getElem]
        refine ⟨tb_true ek, k, hk, rfl, fun j hj => ?_⟩
        simp [tb_false (hn j (by omega) hj)]
      simp [hfd]
    · exact absurd ej (hn j hj)
  · have hno : tb d.ok = false := by simpa using hok
    rw [Disk.shown_no hno] at h
    cases h
end Go.Proofs.Ytdingkbggjehoaa
