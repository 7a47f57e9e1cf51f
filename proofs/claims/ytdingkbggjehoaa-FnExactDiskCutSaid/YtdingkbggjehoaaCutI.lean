/-
  Disks behind a loss of power: the program's cut and DiskCut. Printed by gen/cuti.py.
-/
import Derived.Test.YtdingkbggjehoaaCutM
import Derived.Deep.RegionHeld3
set_option linter.unusedVariables false
set_option linter.unusedSimpArgs false
namespace Go.Proofs.Ytdingkbggjehoaa
open Go.ChangeShapes Go.WideShapes Go.ChangeAt Go.RowKit

theorem info_DiskFile' : (Try.prog.info? 143).map (fun i => (i.zero, i.size, i.bytes)) = some (some (.agg #[.string .empty, .string .empty, .int .i64 0]), 3, 40) := by kernel_rfl
theorem SrcAt.newAt (w : World) (cs : List Value) (t : TypeId) (m c g : Nat) (hg : w.heap.size = g) : SrcAt (w.alloc (.cells cs.toArray t)) cs (some ⟨g, 0, none⟩) m c := hg ▸ SrcAt.new w cs t m c
def CutRet (x : Disk) (w : World) (e : Ending) (w' : World) : Prop := ∃ us fq, e = .returned (.agg us.toArray) ∧ OwC w' x.cells us fq ∧ New w' fq w.heap.size ∧ Below w.heap.size w w'
theorem FileDat (x : DiskFile) (h0 : x.name.size ≤ maxLen) (h1 : x.data.size ≤ maxLen) (h2 : (Lit.int .i64 x.kept).wf = true) (W : World) : OwC W ([x].flatMap DiskFile.cells) [.string x.name, .string x.data, .int .i64 x.kept] [] := by
  rw [List.flatMap_singleton]
  exact OwC.mDiskFile h0 h1 h2
/-- the box of a disk whose files are growing, its names there already -/
structure FilesAt (w0 wr : World) (b lo : Nat) (v1 : Value) (l : List DiskFile) (us : List Value) (v2 : Value) (ns : List ByteArray) (fq : List Nat) : Prop where
  box : Row wr b 83 [v1, v2, .slice none 0 0]
  own : OwS wr (b + 1) 143 3 DiskFile.cells v1 l us []
  names : Ow wr (.s 1 ns.length (ns.flatMap strC)) v2 fq
  new : New wr fq lo
  lt : Lt fq b
  below : Below b w0 wr
theorem FilesAt.put {w0 wr w1 : World} {b lo : Nat} {v1 v1' : Value} {l l' : List DiskFile} {us us' : List Value} {v2 : Value} {ns : List ByteArray} {fq : List Nat} (h : FilesAt w0 wr b lo v1 l us v2 ns fq) (hg : GB wr w1 v1 v1') (hn : OwS w1 (b + 1) 143 3 DiskFile.cells v1' l' us' []) :
    FilesAt w0 (w1.setCell ⟨b, 0, none⟩ v1') b lo v1' l' us' v2 ns fq := by
  have hr := hg.row h.box (h.own.low (Nat.lt_succ_self _))
  have hbl := h.box.lt
  have hb1 : Below b wr w1 := hg.toBelow (by omega) (fun g e => Nat.le_of_succ_le (h.own.from e))
  have hb2 : Below b wr (w1.setCell ⟨b, 0, none⟩ v1') := hb1.setCell (p := ⟨b, 0, none⟩) (Nat.le_refl _) _
  exact ⟨hr.set 0 v1', hn.setCell (hn.nlow (Nat.lt_succ_self _)) (hn.low (Nat.lt_succ_self _)) _, h.names.below hb2 h.lt, h.new.below hb2 h.lt, h.lt, h.below.trans hb2⟩
theorem FilesAt.after {w0 wr w1 : World} {b lo : Nat} {v1 : Value} {l : List DiskFile} {us : List Value} {v2 : Value} {ns : List ByteArray} {fq : List Nat} (h : FilesAt w0 wr b lo v1 l us v2 ns fq) (hb : Below wr.heap.size wr w1) : FilesAt w0 w1 b lo v1 l us v2 ns fq := by
  have hbl := h.box.lt
  have hbb : Below b wr w1 := hb.mono (by omega)
  exact ⟨h.box.below hb hbl, h.own.below (C := 0) hb, h.names.below hbb h.lt, h.new.below hbb h.lt, h.lt, h.below.trans hbb⟩
theorem FilesAt.alloc {w0 wr : World} {b lo : Nat} {v1 : Value} {l : List DiskFile} {us : List Value} {v2 : Value} {ns : List ByteArray} {fq : List Nat} (h : FilesAt w0 wr b lo v1 l us v2 ns fq) (o : Obj) : FilesAt w0 (wr.alloc o) b lo v1 l us v2 ns fq :=
  h.after ((Below.refl _ _).alloc (Nat.le_refl _) o)
theorem FilesAt.drewN {w0 wr : World} {b lo : Nat} {v1 : Value} {l : List DiskFile} {us : List Value} {v2 : Value} {ns : List ByteArray} {fq : List Nat} (h : FilesAt w0 wr b lo v1 l us v2 ns fq) (n : Nat) : FilesAt w0 (wr.drewN n) b lo v1 l us v2 ns fq :=
  h.after (below_drewN (Below.refl _ _) n)
theorem FilesAt.fin {w0 wr W : World} {b lo g : Nat} {v1 : Value} {l : List DiskFile} {us : List Value} {v2 : Value} {ns : List ByteArray} {fq : List Nat} (h : FilesAt w0 wr b lo v1 l us v2 ns fq) (hg : wr.grownBy W (some g)) (hl : g < lo) (hb : g < b) (hlo : lo ≤ b) :
    ∃ fp, OwC W (Disk.mk l ns []).cells [v1, v2, .slice none 0 0] fp ∧ New W fp lo := by
  obtain ⟨p1, o1, n1, _⟩ := h.own.toOw'
  have h1 : g ∉ p1 := n1.out (by omega)
  have h2 : g ∉ fq := h.new.out hl
  refine ⟨p1 ++ (fq ++ []), OwC.mDisk (x := Disk.mk l ns []) (o1.grown hg n1.lt h1) (h.names.grown hg h.new.lt h2) (Ow.nil_ W 2 DiskMove.cells), ?_⟩
  rw [List.append_nil]
  have m1 := (n1.grown hg (fun g' e => by injection e with e; subst e; exact h1))
  have m2 := (h.new.grown hg (fun g' e => by injection e with e; subst e; exact h2))
  refine ⟨(m1.fr.mono (by omega) (Nat.le_refl _)).app m2.fr, List.nodup_append.2 ⟨m1.nd, m2.nd, fun a ha c hc e => ?_⟩, fun g hg => ?_⟩
  · have e1 := (m1.fr a ha).1
    have e2 := h.lt c hc
    omega
  · rcases List.mem_append.1 hg with hg | hg
    · exact m1.uf g hg
    · exact m2.uf g hg

set_option maxRecDepth 100000 in
set_option maxHeartbeats 2000000 in
theorem implCut_any (d : Disk) (us0 : List Value) (fp : List Nat) (m : Int) (keep : List Int) (A : Option Addr) (n c : Nat) (fk : List Nat) (w : World) (h : OwC w d.cells us0 fp) (hf : Lt fp w.heap.size) (hbk : d.bulk ≤ 1048576) (hm : (Lit.int .i64 m).wf = true)
    (hk : Ow w (.s 1 keep.length (keep.flatMap intC)) (.slice A n c) fk) (hfk : Lt fk w.heap.size) (hok : tb d.ok = true) :
    Calls Try.prog 141 #[.agg us0.toArray, .int .i64 m, .slice A n c] w (CutRet (d.cutOf m keep) w) := by
  have HOC := hide h
  obtain ⟨A1, c1, A2, c2, A3, c3, f1, f2, f3, rfl, o1, o2, o3, rfl⟩ := h.oDisk
  obtain ⟨rfl, hkc, hkm⟩ := hk.nlen
  unfold maxLen at hkm
  clear h
  obtain ⟨_, hc1, hm1⟩ := o1.nlen
  obtain ⟨_, hc3, hm3⟩ := o3.nlen
  unfold maxLen at hm1 hm3
  have hNS : (d.cutNames m).length ≤ 4194304 := by
    have hkb := d.bulk_eq
    unfold bulkStrs DiskFile.bulkL DiskMove.bulkL at hkb
    have h1 := afterW_len d (clampM m d.moves.length)
    have h2 := clampM_le m d.moves.length
    show (d.afterW (clampM m d.moves.length)).length ≤ _
    omega
  obtain ⟨W1, hW1⟩ : ∃ W1, ((w.alloc (.cells #[.slice A1 d.files.length c1, .slice A2 d.names.length c2, .slice A3 d.moves.length c3] 83)).alloc (.cells #[.slice none 0 0, .slice none 0 0, .slice none 0 0] 83)) = W1 := ⟨_, rfl⟩
  have hB1 : Below w.heap.size w W1 := hW1 ▸ (((Below.refl _ _).alloc (Nat.le_refl _) _).alloc (by rw [World.size_alloc]; omega) _)
  have RD : Row W1 w.heap.size 83 [.slice A1 d.files.length c1, .slice A2 d.names.length c2, .slice A3 d.moves.length c3] := hW1 ▸ (Row.new w _ _).alloc _
  have RZ : Row W1 (w.heap.size + 1) 83 [.slice none 0 0, .slice none 0 0, .slice none 0 0] := by
    have h := Row.new (w.alloc (.cells #[.slice A1 d.files.length c1, .slice A2 d.names.length c2, .slice A3 d.moves.length c3] 83)) 83 [.slice none 0 0, .slice none 0 0, .slice none 0 0]
    rw [World.size_alloc, hW1] at h
    exact h
  have HB1 := hide hB1
  have HRD := hide RD
  have HRZ := hide RZ
  have O1 := hide o1
  have OK := hide hk
  have d0 := RD.cell 0
  have d1 := RD.cell 1
  have d2 := RD.cell 2
  have ld := RD.lt
  have HNM := hide (implNames_any d _ _ (clampM m d.moves.length) W1 (HOC.out.below HB1.out hf) (hf.up HB1.out) hbk (clampM_le _ _))
  have HAT := hide (fun (x : ByteArray) (W : World) (hb : Below w.heap.size w W) => fileAt_any d _ _ x W (HOC.out.below hb hf) (hf.up hb))
  have HAF := hide (d.ok_after (tb_get hok) (clampM m d.moves.length) (clampM_le _ _)).1
  have HFD := hide (d.cut_found hok (clampM m d.moves.length) (clampM_le _ _))
  have HFI := hide (tb_get hok).2.2.1
  have HEQ := hide (d.cutOf_yes hok m keep)
  have H64 := hide (tb_get hok).1
  have hcl : min (max m 0) (d.moves.length : Int) = ((clampM m d.moves.length : Nat) : Int) := by
    unfold clampM
    split
    · omega
    · split <;> omega
  have HCL := hide hcl
  clear o1 o2 o3 hB1 RD RZ hok hcl hk
  go_enter Try.func141, Try.ntmps141
  go_wp2_with fail
  rw [HCL.out]
  refine HNM.out.mono ?_
  rintro e w2 ⟨v, us, rfl, hs, hb2⟩
  obtain ⟨A', c', rfl⟩ := hs.form
  obtain ⟨fq, ho, hn, _⟩ := hs.toOw'
  rw [HAF.out] at ho ⊢
  rw [show d.afterW (clampM m d.moves.length) = d.cutNames m from rfl] at ho HFD ⊢
  have HB2 := hide (HB1.out.trans (hb2.mono HB1.out.size))
  have HR2 := hide (HRD.out.below hb2 HRD.out.lt)
  have HZ2 := hide (HRZ.out.below hb2 HRZ.out.lt)
  have hsz2 : w.heap.size + 1 < w2.heap.size := HZ2.out.lt
  have HW1 := hide (show w.heap.size ≤ W1.heap.size from HB1.out.size)
  have HW1' := hide (show w.heap.size + 1 < W1.heap.size from HRZ.out.lt)
  have HS12 := hide (show W1.heap.size ≤ w2.heap.size from hb2.size)
  have HF0 := hide (show FilesAt w2 (w2.alloc (.cells #[.slice none 0 0, .slice A' (d.cutNames m).length c', .slice none 0 0] 83)) w2.heap.size W1.heap.size (.slice none 0 0) [] [] (.slice A' (d.cutNames m).length c') (d.cutNames m) fq from
    ⟨Row.new w2 _ _, OwS.nil _ _ _ _ _, ho.alloc hn.lt _, hn.alloc _, hn.lt, (Below.refl _ _).alloc (Nat.le_refl _) _⟩)
  generalize d.cutNames m = NS at *
  have e1 := HF0.out.box.cell 1
  have le := HF0.out.box.lt
  clear hs ho hn hb2 d0 d1 d2 ld HNM HCL HAF HRD HRZ
  obtain ⟨ia, hia, ha0, ha1, ha2⟩ := info_parts info_DiskFile'
  have HIa := hide hia
  clear hia
  go_wp2
  go_loopw [26] (fun i wr => ∃ (j : Nat) (A1' : Option Addr) (n1 c1' : Nat) (us1 : List Value), j ≤ NS.length ∧ i = .int .i64 (j : Int) ∧ FilesAt w2 wr w2.heap.size W1.heap.size (.slice A1' n1 c1') ((NS.take j).map (pickFile (d.leaveAll keep))) us1 (.slice A' NS.length c') NS fq) (fun i _ => NS.length - (intOf i).toNat)
  case atStart => exact ⟨0, none, 0, 0, [], Nat.zero_le _, rfl, HF0.out⟩
  case round =>
    obtain ⟨j, A1', n1, c1', us1, hj, rfl, hF⟩ := hrel
    have HF := hide hF
    have HBr := hide (HB2.out.trans (hF.below.mono (by omega)))
    have HRr := hide (HR2.out.below hF.below (by omega))
    have d0 := HRr.out.cell 0
    have d1 := HRr.out.cell 1
    have d2 := HRr.out.cell 2
    have ld := HRr.out.lt
    clear e1 le HF0
    by_cases hlt : j < NS.length
    · obtain ⟨g, off, rfl, hgm, hcell, hs1⟩ := strs_at hF.names hlt
      have hgl := hF.lt g hgm
      have HSN := hide (map_snoc (pickFile (d.leaveAll keep)) NS j hlt)
      obtain ⟨k, hk⟩ := HFD.out _ (List.getElem_mem hlt)
      have HK := hide hk
      obtain ⟨hkl, hpe, hpn⟩ := pickFile_at (d.leaveAll_find keep hk)
      obtain ⟨hkf, _, hnm⟩ := pickFile_at hk
      rw [d.leaveAll_at keep k hkl hkf] at hpe
      have HFA := hide (HAT.out NS[j] wr HBr.out)
      have hbr := hF.box.lt
      have HPE := hide hpe
      have hfi := (HFI.out k hkf).1
      obtain ⟨g', off', ws, fi, rfl, hgm', hfi', hwl, hcs, hov⟩ := (O1.out.below HBr.out hf.left).elem DiskFile.cells_len hkf
      obtain ⟨rfl, hs0, hs1', hw2, rfl⟩ := hov.oDiskFile
      have p0 := hcs 0 _ rfl
      have p1 := hcs 1 _ rfl
      have p2 := hcs 2 _ rfl
      simp only [Nat.add_zero] at p0
      have hgl' := hf.left _ hgm'
      have hgw' := Nat.lt_of_lt_of_le hgl' HBr.out.size
      have HNMJ := hide hnm
      clear hcs hov hF hk hpe hpn hnm
      generalize d.files[k] = y at *
      generalize NS[j] = nm at *
      go_wp2_with fail
      refine HFA.out.mono ?_
      rintro e w3 ⟨z, rfl, hz, hb3⟩
      obtain rfl := hz.uniq HK.out
      have HB3 := hide (HBr.out.trans (hb3.mono HBr.out.size))
      have HF3 := hide (HF.out.after hb3)
      have HR3 := hide (HRr.out.below hb3 ld)
      have q0 := (hb3.cell (p := ⟨g', off' + k * 3, none⟩) hgw').trans p0
      have q1 := (hb3.cell (p := ⟨g', off' + k * 3 + 1, none⟩) hgw').trans p1
      have q2 := (hb3.cell (p := ⟨g', off' + k * 3 + 2, none⟩) hgw').trans p2
      have e0 := HR3.out.cell 0
      have e1 := HR3.out.cell 1
      have e2 := HR3.out.cell 2
      have le := HR3.out.lt
      have x0 := HF3.out.box.cell 0
      have lx := HF3.out.box.lt
      have hki : (k : Int) < (d.files.length : Int) := by omega
      obtain ⟨hy0, hy1, hy2, hy3⟩ := hfi
      clear hb3 hz p0 p1 p2 d0 d1 d2 ld HFA
      by_cases hkk : k < keep.length
      · obtain ⟨gk, offk, rfl, hgmk, hcellk, hwk⟩ := ints_at (OK.out.below HB3.out hfk) hkk
        have hkk' : (k : Int) < (keep.length : Int) := by omega
        have hgkl := Nat.lt_of_lt_of_le (hfk _ hgmk) HB3.out.size
        have HX := hide (show pickFile (d.leaveAll keep) nm = (⟨nm, y.data.extract 0 (y.kept + min (max keep[k] 0) ((y.data.size : Int) - y.kept)).toNat, ((min (y.kept + min (max keep[k] 0) ((y.data.size : Int) - y.kept)).toNat y.data.size : Nat) : Int)⟩ : DiskFile) from by
          rw [HPE.out]
          have e : y.kept + y.more (keep[k]) = y.kept + min (max keep[k] 0) ((y.data.size : Int) - y.kept) := by unfold DiskFile.more; split <;> (try split) <;> omega
          have e2 : keep.getD k 0 = keep[k] := by first | rw [List.getD_eq_getElem?_getD, List.getElem?_eq_getElem hkk]; rfl | (rw [List.getD_eq_getElem?_getD, List.getElem?_eq_none (by omega)]; rfl)
          rw [e2]
          unfold DiskFile.leave
          rw [e, HNMJ.out]
          congr 1
          omega)
        have HD := hide (FileDat (⟨nm, y.data.extract 0 (y.kept + min (max keep[k] 0) ((y.data.size : Int) - y.kept)).toNat, ((min (y.kept + min (max keep[k] 0) ((y.data.size : Int) - y.kept)).toNat y.data.size : Nat) : Int)⟩ : DiskFile) hs1 (by show (y.data.extract 0 _).size ≤ maxLen; rw [ByteArray.size_extract]; unfold maxLen; omega) (WalkArith.wf_i64 (show (-9223372036854775808 : Int) ≤ ((min (y.kept + min (max keep[k] 0) ((y.data.size : Int) - y.kept)).toNat y.data.size : Nat) : Int) ∧ ((min (y.kept + min (max keep[k] 0) ((y.data.size : Int) - y.kept)).toNat y.data.size : Nat) : Int) ≤ 9223372036854775807 by omega)))
        have HF4 := hide ((HF3.out.alloc (.cells #[.string y.name, .string y.data, .int .i64 y.kept] 143)).alloc (.cells #[.string nm, .string (y.data.extract 0 (y.kept + min (max keep[k] 0) ((y.data.size : Int) - y.kept)).toNat), .int .i64 ((min (y.kept + min (max keep[k] 0) ((y.data.size : Int) - y.kept)).toNat y.data.size : Nat) : Int)] 143))
        have HSZ := hide (show w2.heap.size + 1 ≤ ((w3.alloc (.cells #[.string y.name, .string y.data, .int .i64 y.kept] 143)).alloc (.cells #[.string nm, .string (y.data.extract 0 (y.kept + min (max keep[k] 0) ((y.data.size : Int) - y.kept)).toNat), .int .i64 ((min (y.kept + min (max keep[k] 0) ((y.data.size : Int) - y.kept)).toNat y.data.size : Nat) : Int)] 143)).heap.size from HF4.out.box.lt)
        go_wp2_with (first | (at_builtin; refine wpl_app rfl _ _ 80 rfl ia _ 40 Try.underlying80 HIa.out ha0 ha1 ha2 rfl (by decide) DiskFile.cells_len rfl HF4.out.own [(⟨nm, y.data.extract 0 (y.kept + min (max keep[k] 0) ((y.data.size : Int) - y.kept)).toNat, ((min (y.kept + min (max keep[k] 0) ((y.data.size : Int) - y.kept)).toNat y.data.size : Nat) : Int)⟩ : DiskFile)] (HD.out _) (by exact New.nil _ _) (fun g _ hg => by cases hg) _ 1 1 rfl rfl (SrcAt.newAt (w3.alloc (.cells #[.string y.name, .string y.data, .int .i64 y.kept] 143)) _ _ _ _ _ (World.size_alloc _ _)) (by rw [List.length_map, List.length_take]; omega) (by decide) HSZ.out ?_; intro A5 n5 c5 w5 hn5 hown5 hgb5; have HG5 := hide hgb5; have HN5 := hide hown5; have r5 := HG5.out.row HF4.out.box (HF4.out.own.low (Nat.lt_succ_self _)); have q5 := r5.cell 0; have f5 := r5.frozen 0; clear hown5 hgb5 hn5 r5))
        go_roundw
        case rel => exact ⟨j + 1, A5, n5, c5, _, by omega, by go_num, by rw [HSN.out, HX.out]; exact HF4.out.put HG5.out HN5.out⟩
        case measure => simp [intOf]; omega
      · have hkk' : ¬ ((k : Int) < (keep.length : Int)) := by omega
        have HX := hide (show pickFile (d.leaveAll keep) nm = (⟨nm, y.data.extract 0 (y.kept + min 0 ((y.data.size : Int) - y.kept)).toNat, ((min (y.kept + min 0 ((y.data.size : Int) - y.kept)).toNat y.data.size : Nat) : Int)⟩ : DiskFile) from by
          rw [HPE.out]
          have e : y.kept + y.more (0) = y.kept + min 0 ((y.data.size : Int) - y.kept) := by unfold DiskFile.more; split <;> (try split) <;> omega
          have e2 : keep.getD k 0 = 0 := by first | rw [List.getD_eq_getElem?_getD, List.getElem?_eq_getElem hkk]; rfl | (rw [List.getD_eq_getElem?_getD, List.getElem?_eq_none (by omega)]; rfl)
          rw [e2]
          unfold DiskFile.leave
          rw [e, HNMJ.out]
          congr 1
          omega)
        have HD := hide (FileDat (⟨nm, y.data.extract 0 (y.kept + min 0 ((y.data.size : Int) - y.kept)).toNat, ((min (y.kept + min 0 ((y.data.size : Int) - y.kept)).toNat y.data.size : Nat) : Int)⟩ : DiskFile) hs1 (by show (y.data.extract 0 _).size ≤ maxLen; rw [ByteArray.size_extract]; unfold maxLen; omega) (WalkArith.wf_i64 (show (-9223372036854775808 : Int) ≤ ((min (y.kept + min 0 ((y.data.size : Int) - y.kept)).toNat y.data.size : Nat) : Int) ∧ ((min (y.kept + min 0 ((y.data.size : Int) - y.kept)).toNat y.data.size : Nat) : Int) ≤ 9223372036854775807 by omega)))
        have HF4 := hide ((HF3.out.alloc (.cells #[.string y.name, .string y.data, .int .i64 y.kept] 143)).alloc (.cells #[.string nm, .string (y.data.extract 0 (y.kept + min 0 ((y.data.size : Int) - y.kept)).toNat), .int .i64 ((min (y.kept + min 0 ((y.data.size : Int) - y.kept)).toNat y.data.size : Nat) : Int)] 143))
        have HSZ := hide (show w2.heap.size + 1 ≤ ((w3.alloc (.cells #[.string y.name, .string y.data, .int .i64 y.kept] 143)).alloc (.cells #[.string nm, .string (y.data.extract 0 (y.kept + min 0 ((y.data.size : Int) - y.kept)).toNat), .int .i64 ((min (y.kept + min 0 ((y.data.size : Int) - y.kept)).toNat y.data.size : Nat) : Int)] 143)).heap.size from HF4.out.box.lt)
        go_wp2_with (first | (at_builtin; refine wpl_app rfl _ _ 80 rfl ia _ 40 Try.underlying80 HIa.out ha0 ha1 ha2 rfl (by decide) DiskFile.cells_len rfl HF4.out.own [(⟨nm, y.data.extract 0 (y.kept + min 0 ((y.data.size : Int) - y.kept)).toNat, ((min (y.kept + min 0 ((y.data.size : Int) - y.kept)).toNat y.data.size : Nat) : Int)⟩ : DiskFile)] (HD.out _) (by exact New.nil _ _) (fun g _ hg => by cases hg) _ 1 1 rfl rfl (SrcAt.newAt (w3.alloc (.cells #[.string y.name, .string y.data, .int .i64 y.kept] 143)) _ _ _ _ _ (World.size_alloc _ _)) (by rw [List.length_map, List.length_take]; omega) (by decide) HSZ.out ?_; intro A5 n5 c5 w5 hn5 hown5 hgb5; have HG5 := hide hgb5; have HN5 := hide hown5; have r5 := HG5.out.row HF4.out.box (HF4.out.own.low (Nat.lt_succ_self _)); have q5 := r5.cell 0; have f5 := r5.frozen 0; clear hown5 hgb5 hn5 r5))
        go_roundw
        case rel => exact ⟨j + 1, A5, n5, c5, _, by omega, by go_num, by rw [HSN.out, HX.out]; exact HF4.out.put HG5.out HN5.out⟩
        case measure => simp [intOf]; omega
    · obtain rfl : j = NS.length := by omega
      rw [List.take_length] at HF
      have HZr := hide (HZ2.out.below HF.out.below hsz2)
      have z0 := HZr.out.cell 0
      have y0 := HZr.out.frozen 0
      have z1 := HZr.out.cell 1
      have y1 := HZr.out.frozen 1
      have z2 := HZr.out.cell 2
      have y2 := HZr.out.frozen 2
      have x0 := HF.out.box.cell 0
      have x1 := HF.out.box.cell 1
      have x2 := HF.out.box.cell 2
      have lx := HF.out.box.lt
      clear hF d0 d1 d2 ld
      go_wp2
      refine bodyPost_ret (ret_row rfl _ _ (w.heap.size + 1) 83 [.slice A1' n1 c1', .slice A' NS.length c', .slice none 0 0] (HZr.out.setAll [.slice A1' n1 c1', .slice A' NS.length c', .slice none 0 0] rfl) _ rfl Try.underlying83 rfl (by kernel_rfl)) rfl ?_
      obtain ⟨fp', h1, h2⟩ := HF.out.fin (setN_grown [.slice A1' n1 c1', .slice A' NS.length c', .slice none 0 0] 0 (grown_refl wr (some (w.heap.size + 1)))) (by have := HW1'.out; omega) hsz2 HS12.out
      exact ⟨_, fp', rfl, by rw [HEQ.out]; exact h1, h2.mono HW1.out, HBr.out.trans (below_of_grown (setN_grown [.slice A1' n1 c1', .slice A' NS.length c', .slice none 0 0] 0 (grown_refl wr (some (w.heap.size + 1)))) (Nat.le_succ _) HBr.out.size)⟩
theorem cutNone_ow (W : World) : OwC W (Disk.mk [] [] []).cells [.slice none 0 0, .slice none 0 0, .slice none 0 0] [] :=
  OwC.mDisk (x := Disk.mk [] [] []) (v1 := .slice none 0 0) (v2 := .slice none 0 0) (v3 := .slice none 0 0) (f1 := []) (f2 := []) (f3 := []) (Ow.nil_ W 3 DiskFile.cells) (Ow.nil_ W 1 strC) (Ow.nil_ W 2 DiskMove.cells)
set_option maxRecDepth 100000 in
set_option maxHeartbeats 1000000 in
theorem implDiskCut_any (d : Disk) (us0 : List Value) (fp : List Nat) (m : Int) (keep : List Int) (A : Option Addr) (n c : Nat) (fk : List Nat) (w : World) (h : OwC w d.cells us0 fp) (hf : Lt fp w.heap.size) (hbk : d.bulk ≤ 1048576) (hm : (Lit.int .i64 m).wf = true)
    (hk : Ow w (.s 1 keep.length (keep.flatMap intC)) (.slice A n c) fk) (hfk : Lt fk w.heap.size) (hsz : keep.length ≤ 1048576) :
    Calls Try.prog 64 #[.agg us0.toArray, .int .i64 m, .slice A n c] w (CutRet (d.cutOf m keep) w) := by
  have HOC := hide h
  obtain ⟨A1, c1, A2, c2, A3, c3, f1, f2, f3, rfl, o1, o2, o3, rfl⟩ := h.oDisk
  clear h
  obtain ⟨W1, hW1⟩ : ∃ W1, ((w.alloc (.cells #[.slice A1 d.files.length c1, .slice A2 d.names.length c2, .slice A3 d.moves.length c3] 83)).alloc (.cells #[.slice none 0 0, .slice none 0 0, .slice none 0 0] 83)) = W1 := ⟨_, rfl⟩
  have hB1 : Below w.heap.size w W1 := hW1 ▸ (((Below.refl _ _).alloc (Nat.le_refl _) _).alloc (by rw [World.size_alloc]; omega) _)
  have RD : Row W1 w.heap.size 83 [.slice A1 d.files.length c1, .slice A2 d.names.length c2, .slice A3 d.moves.length c3] := hW1 ▸ (Row.new w _ _).alloc _
  have RZ : Row W1 (w.heap.size + 1) 83 [.slice none 0 0, .slice none 0 0, .slice none 0 0] := by
    have h := Row.new (w.alloc (.cells #[.slice A1 d.files.length c1, .slice A2 d.names.length c2, .slice A3 d.moves.length c3] 83)) 83 [.slice none 0 0, .slice none 0 0, .slice none 0 0]
    rw [World.size_alloc, hW1] at h
    exact h
  have HB1 := hide hB1
  have HRD := hide RD
  have HRZ := hide RZ
  have d0 := RD.cell 0
  have d1 := RD.cell 1
  have d2 := RD.cell 2
  have ld := RD.lt
  have HOK := hide (implDiskOk_any d _ _ W1 (HOC.out.below HB1.out hf) (hf.up HB1.out) hbk)
  have HCU := hide (fun (W : World) (hb : Below w.heap.size w W) (hok : tb d.ok = true) => implCut_any d _ _ m keep _ _ _ _ W (HOC.out.below hb hf) (hf.up hb) hbk hm (hk.below hb hfk) (hfk.up hb) hok)
  clear o1 o2 o3 hB1 RD RZ
  go_enter Try.func64, Try.ntmps64
  go_wp2_with fail
  refine HOK.out.mono ?_
  rintro e w2 ⟨rfl, hb2⟩
  have HB2 := hide (HB1.out.trans (hb2.mono HB1.out.size))
  have HR2 := hide (HRD.out.below hb2 ld)
  have HZ2 := hide (HRZ.out.below hb2 HRZ.out.lt)
  have e0 := HR2.out.cell 0
  have e1 := HR2.out.cell 1
  have e2 := HR2.out.cell 2
  have le := HR2.out.lt
  clear hb2 d0 d1 d2 ld HOK
  by_cases hok : tb d.ok = true
  · have HK := hide hok
    rw [hok]
    clear hok
    go_wp2_with fail
    refine (HCU.out w2 HB2.out HK.out).mono ?_
    rintro e w3 ⟨us, fq, rfl, ho3, hn3, hb3⟩
    have HO3 := hide ho3
    have HN3 := hide hn3
    have HB3 := hide (HB2.out.trans (hb3.mono HB2.out.size))
    have HZ3 := hide (HZ2.out.below hb3 HZ2.out.lt)
    obtain ⟨E1, g1, E2, g2, E3, g3, q1, q2, q3, rfl, x1, x2, x3, efq⟩ := ho3.oDisk
    have z0 := HZ3.out.cell 0
    have y0 := HZ3.out.frozen 0
    have z1 := HZ3.out.cell 1
    have y1 := HZ3.out.frozen 1
    have z2 := HZ3.out.cell 2
    have y2 := HZ3.out.frozen 2
    have hsz2 := HB2.out.size
    have hzl := HZ2.out.lt
    have hnot : w.heap.size + 1 ∉ fq := fun hm => by have := (HN3.out.fr _ hm).1; omega
    clear ho3 hn3 hb3 x1 x2 x3 e0 e1 e2 le
    go_wp2
    refine bodyPost_ret (ret_row rfl _ _ (w.heap.size + 1) 83 [.slice E1 (d.cutOf m keep).files.length g1, .slice E2 (d.cutOf m keep).names.length g2, .slice E3 (d.cutOf m keep).moves.length g3] (HZ3.out.setAll [.slice E1 (d.cutOf m keep).files.length g1, .slice E2 (d.cutOf m keep).names.length g2, .slice E3 (d.cutOf m keep).moves.length g3] rfl) _ rfl Try.underlying83 rfl (by kernel_rfl)) rfl ?_
    have hg := setN_grown [.slice E1 (d.cutOf m keep).files.length g1, .slice E2 (d.cutOf m keep).names.length g2, .slice E3 (d.cutOf m keep).moves.length g3] 0 (grown_refl w3 (some (w.heap.size + 1)))
    exact ⟨_, fq, rfl, HO3.out.grown hg HN3.out.lt hnot, (HN3.out.grown hg (fun g e => by injection e with e; subst e; exact hnot)).mono hsz2, HB3.out.trans (below_of_grown hg (Nat.le_succ _) HB3.out.size)⟩
  · have hno : tb d.ok = false := by simpa using hok
    have HS := hide (Disk.cutOf_no hno m keep)
    rw [hno]
    clear hok hno
    have z0 := HZ2.out.cell 0
    have y0 := HZ2.out.frozen 0
    have z1 := HZ2.out.cell 1
    have y1 := HZ2.out.frozen 1
    have z2 := HZ2.out.cell 2
    have y2 := HZ2.out.frozen 2
    have hzl := HZ2.out.lt
    go_wp2
    refine bodyPost_ret (ret_row rfl _ _ (w.heap.size + 1) 83 [.slice none 0 0, .slice none 0 0, .slice none 0 0] (HZ2.out.setAll [.slice none 0 0, .slice none 0 0, .slice none 0 0] rfl) _ rfl Try.underlying83 rfl (by kernel_rfl)) rfl ?_
    have hg := setN_grown [.slice none 0 0, .slice none 0 0, .slice none 0 0] 0 (grown_refl w2 (some (w.heap.size + 1)))
    exact ⟨_, [], rfl, by rw [HS.out]; exact cutNone_ow _, New.nil _ _, HB2.out.trans (below_of_grown hg (Nat.le_succ _) HB2.out.size)⟩
end Go.Proofs.Ytdingkbggjehoaa
