/-
  The writes of an act on a log: the reference. Printed by gen/wrf.py.
-/
import Derived.OwnWalk
import Derived.Test.YtddjgbhkfdpffaaGreatDoorWWrP
import Derived.Test.YtddjgbhkfdpffaaGreatDoorWWrE
import Derived.Test.YtddjgbhkfdpffaaGreatDoorWOpenTS
set_option linter.unusedVariables false
set_option linter.unusedSimpArgs false
namespace Go.Proofs.YtddjgbhkfdpffaaGreatDoor
open Go.ChangeShapes Go.WideShapes Go.ChangeAt Go.RowKit

set_option maxRecDepth 100000 in
set_option maxHeartbeats 8000000 in
theorem specLogWrites_any (d : Disk) (us0 : List Value) (fp0 : List Nat) (a : LogAct) (us1 : List Value) (fp1 : List Nat) (w : World) (h : OwC w d.cells us0 fp0) (hf : Lt fp0 w.heap.size) (hbk : d.bulk ≤ 1048576) (ha : OwC w a.cells us1 fp1) (hfa : Lt fp1 w.heap.size) (hba : a.bulk ≤ 1048576) :
    Calls Tryz.prog 16 #[.agg us0.toArray, .agg us1.toArray] w (WrRet w (d.writes a).1 (d.writes a).2.1 (d.writes a).2.2) := by
  have HOC := hide h
  obtain ⟨A1, c1, A2, c2, A3, c3, f1, f2, f3, rfl, o1, o2, o3, rfl⟩ := h.oDisk
  obtain ⟨Ak, ck, fk, rfl, wk0, ws0, wa0, wm0, oK, rfl⟩ := ha.oLogAct
  have hab := a.bulk_eq
  have hds : a.data.size ≤ 1048576 := by omega
  have HOP := hide (fun (W : World) (hb : Below w.heap.size w W) => specLogOpen_any d _ _ W (HOC.out.below hb hf) (hf.up hb) hbk)
  have HBI := hide (fun (hok : tb d.ok = true) (W : World) (hb : Below w.heap.size w W) => l44Birth_any d _ _ W (HOC.out.below hb hf) (hf.up hb) hbk (ok_files hok).1 (by have := (ok_files hok).2; omega))
  have HMD := hide (fun (h0 : d.open_.code = 0) (us : List Value) (fs : List Nat) (W : World) (hb : Below w.heap.size w W) (hs : OwC W d.open_.cells us fs) (hl : Lt fs W.heap.size) => l44Mend_any d _ _ d.open_ us fs W (HOC.out.below hb hf) (hf.up hb) hbk hs hl (open_whole h0))
  have HCL := hide (fun (h0 : d.open_.code = 0) (us : List Value) (fs : List Nat) (W : World) (hb : Below w.heap.size w W) (hs : OwC W d.open_.cells us fs) (hl : Lt fs W.heap.size) => l44Close_any d _ _ d.open_ us fs W (HOC.out.below hb hf) (hf.up hb) hs hl (ok_files (open_whole h0).ok).1 (by have := (ok_files (open_whole h0).ok).2; omega) (open_whole h0).plan.1 (by have := (open_whole h0).num; omega) (fun ht hp => closed_ok (open_whole h0) (fun x hx => Disk.shown_file (open_whole h0).ok ((open_whole h0).mem x hx)) ht hp))
  have hsg := open_seg d
  have hsn := names_size d.open_.plan.open_ hsg
  have hdz := dec_size d.open_.plan.open_ (by omega) (by omega)
  have HDC := hide (fun W => specDec_nn d.open_.plan.open_ hsg.1 (by omega) W)
  have HWH := hide (fun h : d.open_.code = 0 => open_whole h)
  have HOK1 := hide (fun h : d.open_.code = 1 => open_one h)
  have HC1 := hide (fun h h2 he => wr_birth0 (d := d) (a := a) h h2 he)
  have HC1' := hide (fun l h h2 he => wr_birth1 (d := d) (a := a) (l := l) h h2 he)
  have HC2 := hide (fun h h2 => wr_code (d := d) (a := a) h h2)
  have HC3 := hide (fun h h2 he => wr_mend0 (d := d) (a := a) h h2 he)
  have HC3' := hide (fun l h h2 he => wr_mend1 (d := d) (a := a) (l := l) h h2 he)
  have HC4 := hide (fun h h2 => wr_kind (d := d) (a := a) h h2)
  have HC5 := hide (fun h h2 h3 h4 => wr_torn (d := d) (a := a) h h2 h3 h4)
  have HC6 := hide (fun h h2 h3 h4 h5 => wr_sync (d := d) (a := a) h h2 h3 h4 h5)
  have HC7 := hide (fun h h2 h3 h4 h5 he => wr_roll0 (d := d) (a := a) h h2 h3 h4 h5 he)
  have HC7' := hide (fun l h h2 h3 h4 h5 he => wr_roll1 (d := d) (a := a) (l := l) h h2 h3 h4 h5 he)
  have HC8 := hide (fun h h2 h3 h4 h5 h6 => wr_large (d := d) (a := a) h h2 h3 h4 h5 h6)
  have HC9 := hide (fun h h2 h3 h4 h5 h6 h7 => wr_full (d := d) (a := a) h h2 h3 h4 h5 h6 h7)
  have HC0 := hide (fun h h2 h3 h4 h5 h6 h7 => wr_add (d := d) (a := a) h h2 h3 h4 h5 h6 h7)
  obtain ⟨ia, hia, ha0, ha1, ha2⟩ := info_parts8 info_write
  have HIa := hide hia
  clear h ha o1 o2 o3 oK wk0 ws0 wa0 wm0 hia hab
  generalize d.writes a = R at *
  go_enter Tryz.func16, Tryz.ntmps16
  go_upto_region 2 with fail
  generalize hwA : w.alloc (.cells #[.slice A1 d.files.length c1, .slice A2 d.names.length c2, .slice A3 d.moves.length c3] 38) = wA
  have hA : Below w.heap.size w wA := by rw [← hwA]; exact (Below.refl _ _).alloc (Nat.le_refl _) _
  have hsA : wA.heap.size = w.heap.size + 1 := by rw [← hwA]; simp
  have RA : Row wA w.heap.size 38 [.slice A1 d.files.length c1, .slice A2 d.names.length c2, .slice A3 d.moves.length c3] := by rw [← hwA]; exact Row.new w _ _
  try simp only [hsA]
  clear hwA
  generalize hwB : wA.alloc (.cells #[.int .i64 a.kind, .string a.data, .bool a.cuts, .int .i64 a.after, .int .i64 a.moves, .slice Ak a.keep.length ck] 52) = wB
  have hAB : Below wA.heap.size wA wB := by rw [← hwB]; exact (Below.refl _ _).alloc (Nat.le_refl _) _
  have hsB : wB.heap.size = w.heap.size + 2 := by rw [← hwB, World.size_alloc, hsA]
  have RB : Row wB (w.heap.size + 1) 52 [.int .i64 a.kind, .string a.data, .bool a.cuts, .int .i64 a.after, .int .i64 a.moves, .slice Ak a.keep.length ck] := by rw [← hwB, ← hsA]; exact Row.new wA _ _
  have hB1 := hA.trans (hAB.mono hA.size)
  have HR0 := hide (RA.below hAB RA.lt)
  try simp only [hsB]
  clear hwB hA hAB hsA RA
  generalize hwC : wB.alloc (.cells #[] 98) = wC
  have hBC : Below wB.heap.size wB wC := by rw [← hwC]; exact (Below.refl _ _).alloc (Nat.le_refl _) _
  have HR1 := hide (HR0.out.below hBC HR0.out.lt)
  have HA1 := hide (RB.below hBC RB.lt)
  have HB1 := hide (hB1.trans (hBC.mono hB1.size))
  clear hwC hBC hB1 hsB RB HR0
  have d0 := HR1.out.cell 0
  have d1 := HR1.out.cell 1
  have d2 := HR1.out.cell 2
  have ld := HR1.out.lt
  go_wp2_with fail
  refine (HOP.out wC HB1.out).mono ?_
  rintro e w2 ⟨us, fs, rfl, ho, hn, hb2⟩
  have HB2 := hide (HB1.out.trans (hb2.mono HB1.out.size))
  have HR2 := hide (HR1.out.below hb2 ld)
  have HA2 := hide (HA1.out.below hb2 HA1.out.lt)
  clear hb2 HB1 HR1 HA1 d0 d1 d2 ld HOP
  generalize d.open_ = st at *
  obtain ⟨Ap, cp, Ar, cr, g1, g2, rfl, w0, w1, oA, w3, w4, w5, w7, oB, rfl⟩ := ho.oLogState
  have HSO := hide ho
  have HSL := hide hn.lt
  clear ho hn w0 w1 oA w3 w4 w5 w7 oB
  go_upto_region 3 with fail
  generalize hwD : w2.alloc (.cells #[.int .i64 st.code, .int .i64 st.num, .slice Ap st.plan.parts.length cp, .int .i64 st.plan.open_, .int .i64 st.plan.first, .int .i64 st.size, .bool st.torn, .int .i64 st.next, .slice Ar st.records.length cr] 33) = wD
  have hD : Below w2.heap.size w2 wD := by rw [← hwD]; exact (Below.refl _ _).alloc (Nat.le_refl _) _
  have HZ := hide (show Row wD w2.heap.size 33 [.int .i64 st.code, .int .i64 st.num, .slice Ap st.plan.parts.length cp, .int .i64 st.plan.open_, .int .i64 st.plan.first, .int .i64 st.size, .bool st.torn, .int .i64 st.next, .slice Ar st.records.length cr] from by rw [← hwD]; exact Row.new w2 _ _)
  have HB := hide (HB2.out.trans (hD.mono HB2.out.size))
  have HR := hide (HR2.out.below hD HR2.out.lt)
  have HA := hide (HA2.out.below hD HA2.out.lt)
  have HO := hide (HSO.out.below hD HSL.out)
  have HL := hide (HSL.out.mono hD.size)
  obtain ⟨bs, hbs⟩ : ∃ b, b = w2.heap.size := ⟨_, rfl⟩
  rw [← hbs] at HZ ⊢
  clear hwD hD HB2 HR2 HA2 HSO HSL hbs
  have z0 := HZ.out.cell 0
  have zl := HZ.out.lt
  have a0 := HA.out.cell 0
  have al := HA.out.lt
  by_cases h1 : st.code = 1 ∧ a.kind = 4
  · obtain ⟨h1c, h1k⟩ := h1
    have HC := hide (HC1.out h1c h1k)
    have HC' := hide (fun l => HC1'.out l h1c h1k)
    have HBX := hide (HBI.out (HOK1.out h1c) wD HB.out)
    have d0 := HR.out.cell 0
    have d1 := HR.out.cell 1
    have d2 := HR.out.cell 2
    have ld := HR.out.lt
    simp only [List.getElem?_cons_zero] at z0 a0
    rw [h1c] at z0
    rw [h1k] at a0
    clear h1c h1k HC1 HC1' HC2 HC3 HC3' HC4 HC5 HC6 HC7 HC7' HC8 HC9 HC0 HMD HCL HBI HWH HDC
    go_wp2_with fail
    cases hbi : d.birth with
    | none =>
      refine (HBX.out.mono (fun _ _ h => wr2_none hbi h)).mono ?_
      rintro e w5 ⟨v, fv, rfl, hov, hnv, hb5⟩
      have HC := hide (HC.out hbi)
      have HF := hide hov
      have HN := hide (hnv.mono HB.out.size)
      have HB5 := hide (HB.out.trans (hb5.mono HB.out.size))
      clear hov hnv hb5 hbi
      go_wp2
      go_ret3
      exact wrRet_of HC.out HF.out HN.out HB5.out
    | some L =>
      refine (HBX.out.mono (fun _ _ h => wr2_some hbi h)).mono ?_
      rintro e w5 ⟨Av, nv, cv, fv, rfl, hov, hnv, hb5⟩
      have HC := hide (HC'.out L hbi)
      have HF := hide hov
      have HN := hide (hnv.mono HB.out.size)
      have HB5 := hide (HB.out.trans (hb5.mono HB.out.size))
      clear hov hnv hb5 hbi
      go_wp2
      go_ret3
      exact wrRet_of HC.out HF.out HN.out HB5.out
  have HN1 := hide h1
  by_cases h0 : st.code = 0
  rotate_left
  · have HC := hide (HC2.out h0 h1)
    have z3 := HZ.out.cell 3
    have h0i : ¬ (st.code = 0) := h0
    have HDX := hide (HDC.out wD)
    clear HC1 HC1' HC2 HC3 HC3' HC4 HC5 HC6 HC7 HC7' HC8 HC9 HC0 HMD HCL HBI HWH HOK1
    by_cases h1c : st.code = 1
    · have h1k : ¬ (a.kind = 4) := fun k => h1 ⟨h1c, k⟩
      simp only [List.getElem?_cons_zero] at z0
      rw [h1c] at z0
      rw [h1c] at HC
      clear h0i h0 h1 h1c
      go_wp2_with fail
      refine HDX.out.mono ?_
      rintro e w5 ⟨rfl, hb5⟩
      have HB5 := hide (HB.out.trans (hb5.mono HB.out.size))
      have z0 := (hb5.cell (p := ⟨bs, 0, none⟩) zl).trans z0
      have zl := Nat.lt_of_lt_of_le zl hb5.size
      clear hb5
      go_wp2_with fail
      go_quiet (fail)
      go_wp2
      go_ret3
      exact wrRet_of HC.out (Ow.lit0 _ _ _ _) (New.nil _ _) (below_drewN HB5.out _)
    · clear h1 h0
      go_wp2_with fail
      refine HDX.out.mono ?_
      rintro e w5 ⟨rfl, hb5⟩
      have HB5 := hide (HB.out.trans (hb5.mono HB.out.size))
      have z0 := (hb5.cell (p := ⟨bs, 0, none⟩) zl).trans z0
      have zl := Nat.lt_of_lt_of_le zl hb5.size
      clear hb5
      go_wp2_with fail
      go_quiet (fail)
      go_wp2
      go_ret3
      exact wrRet_of HC.out (Ow.lit0 _ _ _ _) (New.nil _ _) (below_drewN HB5.out _)
  have HMX := hide (HMD.out h0)
  have HCX := hide (HCL.out h0)
  have HWX := hide (HWH.out h0)
  have HC3 := hide (HC3.out h0)
  have HC3' := hide (fun l => HC3'.out l h0)
  have HC4 := hide (HC4.out h0)
  have HC5 := hide (HC5.out h0)
  have HC6 := hide (HC6.out h0)
  have HC7 := hide (HC7.out h0)
  have HC7' := hide (fun l => HC7'.out l h0)
  have HC8 := hide (HC8.out h0)
  have HC9 := hide (HC9.out h0)
  have HC0 := hide (HC0.out h0)
  have z3 := HZ.out.cell 3
  simp only [List.getElem?_cons_zero] at z0
  rw [h0] at z0
  clear h0 h1 HC1 HC1' HC2 HMD HCL HWH HOK1 HBI HN1
  go_wp2_with fail
  refine (HDC.out wD).mono ?_
  rintro e w5 ⟨rfl, hb5⟩
  have HB5 := hide (HB.out.trans (hb5.mono HB.out.size))
  have HR5 := hide (HR.out.below hb5 HR.out.lt)
  have HA5 := hide (HA.out.below hb5 HA.out.lt)
  have HZ5 := hide (HZ.out.below hb5 HZ.out.lt)
  have HO5 := hide (HO.out.below hb5 HL.out)
  have HL5 := hide (HL.out.mono hb5.size)
  have z0 := (hb5.cell (p := ⟨bs, 0, none⟩) zl).trans z0
  have zl := Nat.lt_of_lt_of_le zl hb5.size
  clear hb5 HB HR HA HZ HO HL z3 a0 al HDC
  go_upto_region 9 with fail
  clear z0 zl
  have a0 := HA5.out.cell 0
  have al := HA5.out.lt
  by_cases hk4 : a.kind = 4
  · have HC := hide (HC3.out hk4)
    have HC' := hide (fun l => HC3'.out l hk4)
    have HMY := hide (HMX.out _ _ w5 HB5.out HO5.out HL5.out)
    have d0 := HR5.out.cell 0
    have d1 := HR5.out.cell 1
    have d2 := HR5.out.cell 2
    have ld := HR5.out.lt
    have z0 := HZ5.out.cell 0
    have z1 := HZ5.out.cell 1
    have z2 := HZ5.out.cell 2
    have z3 := HZ5.out.cell 3
    have z4 := HZ5.out.cell 4
    have z5 := HZ5.out.cell 5
    have z6 := HZ5.out.cell 6
    have z7 := HZ5.out.cell 7
    have z8 := HZ5.out.cell 8
    have zl := HZ5.out.lt
    simp only [List.getElem?_cons_zero] at a0
    rw [hk4] at a0
    clear HC3 HC3' HC4 HC5 HC6 HC7 HC7' HC8 HC9 HC0 HMX HCX HWX hk4
    go_wp2_with fail
    cases hbi : d.mended st with
    | none =>
      refine (HMY.out.mono (fun _ _ h => wr2_none hbi h)).mono ?_
      rintro e w6 ⟨v, fv, rfl, hov, hnv, hb6⟩
      have HC := hide (HC.out hbi)
      have HF := hide hov
      have HN := hide (hnv.mono HB5.out.size)
      have HB6 := hide (HB5.out.trans (hb6.mono HB5.out.size))
      clear hov hnv hb6 hbi
      go_wp2
      go_ret3
      exact wrRet_of HC.out HF.out HN.out HB6.out
    | some L =>
      refine (HMY.out.mono (fun _ _ h => wr2_some hbi h)).mono ?_
      rintro e w6 ⟨Av, nv, cv, fv, rfl, hov, hnv, hb6⟩
      have HC := hide (HC'.out L hbi)
      have HF := hide hov
      have HN := hide (hnv.mono HB5.out.size)
      have HB6 := hide (HB5.out.trans (hb6.mono HB5.out.size))
      clear hov hnv hb6 hbi
      go_wp2
      go_ret3
      exact wrRet_of HC.out HF.out HN.out HB6.out
  go_wp2_with fail
  refine (l6In_any _ _ _ _).mono ?_
  rintro e w6 ⟨rfl, rfl⟩
  by_cases hkr : 1 ≤ a.kind ∧ a.kind ≤ 4
  rotate_left
  · have HC := hide (HC4.out hkr)
    have HT := hide (tb_false hkr)
    clear HC3 HC3' HC4 HC5 HC6 HC7 HC7' HC8 HC9 HC0 HMX HCX HWX hk4 hkr
    rw [HT.out]
    go_wp2
    go_ret3
    exact wrRet_of HC.out (Ow.lit0 _ _ _ _) (New.nil _ _) HB5.out
  have HT := hide (tb_true hkr)
  have HKR := hide hkr
  have HK4 := hide hk4
  have z6 := HZ5.out.cell 6
  have zl := HZ5.out.lt
  simp only [List.getElem?_cons_succ, List.getElem?_cons_zero] at z6
  rw [HT.out]
  cases htn : st.torn with
  | true =>
    have HC := hide (HC5.out hkr hk4 htn)
    rw [htn] at z6
    clear HC3 HC3' HC4 HC5 HC6 HC7 HC7' HC8 HC9 HC0 HMX HCX HWX hk4 hkr htn
    go_wp2
    go_ret3
    exact wrRet_of HC.out (Ow.lit0 _ _ _ _) (New.nil _ _) HB5.out
  | false =>
    have HTN := hide htn
    rw [htn] at z6
    clear HC3 HC3' HC4 HC5 HMX htn
    go_upto_region 16 with fail
    clear z6 zl
    by_cases hk2 : a.kind = 2
    · have HC := hide (HC6.out HKR.out HK4.out HTN.out hk2)
      simp only [List.getElem?_cons_zero] at a0
      rw [hk2] at a0
      clear HC6 HC7 HC7' HC8 HC9 HC0 HCX HWX hk4 hkr hk2
      go_wp2
      go_ret3
      refine wrRet_of (l := [wOf 3 (segName st.plan.open_)]) HC.out (writes_lit [wOf 3 (segName st.plan.open_)] (Row.new w5 98 [.int .i64 3, .string (⟨#[115]⟩ ++ dec st.plan.open_), .string ⟨#[]⟩]) (fun x hx => ?_) ⟨Nat.le_refl _, by show (1 : Nat) ≤ 1000; omega⟩) (new_one (Row.new w5 98 [.int .i64 3, .string (⟨#[115]⟩ ++ dec st.plan.open_), .string ⟨#[]⟩]) HB5.out.size) (HB5.out.alloc HB5.out.size _)
      rw [List.mem_singleton.1 hx]
      exact ⟨(show (Lit.int .i64 3).wf = true by decide), by show (segName st.plan.open_).size ≤ maxLen; unfold maxLen; omega, Nat.zero_le _⟩
    by_cases hk3 : a.kind = 3
    · have HC := hide (HC7.out HKR.out HK4.out HTN.out hk3)
      have HC' := hide (fun l => HC7'.out l HKR.out HK4.out HTN.out hk3)
      have HCY := hide (HCX.out _ _ w5 HB5.out HO5.out HL5.out)
      have d0 := HR5.out.cell 0
      have d1 := HR5.out.cell 1
      have d2 := HR5.out.cell 2
      have ld := HR5.out.lt
      have z0 := HZ5.out.cell 0
      have z1 := HZ5.out.cell 1
      have z2 := HZ5.out.cell 2
      have z3 := HZ5.out.cell 3
      have z4 := HZ5.out.cell 4
      have z5 := HZ5.out.cell 5
      have z6 := HZ5.out.cell 6
      have z7 := HZ5.out.cell 7
      have z8 := HZ5.out.cell 8
      have zl := HZ5.out.lt
      simp only [List.getElem?_cons_zero] at a0
      rw [hk3] at a0
      clear HC6 HC7 HC7' HC8 HC9 HC0 HCX HWX hk4 hkr hk2 hk3
      go_wp2_with fail
      cases hbi : closeW d.fileList st with
      | none =>
        refine (HCY.out.mono (fun _ _ h => wr2_none hbi h)).mono ?_
        rintro e w6 ⟨v, fv, rfl, hov, hnv, hb6⟩
        have HC := hide (HC.out hbi)
        have HB6 := hide (HB5.out.trans (hb6.mono HB5.out.size))
        clear hov hnv hb6 hbi
        go_wp2
        go_ret3
        exact wrRet_of HC.out (Ow.lit0 _ _ _ _) (New.nil _ _) HB6.out
      | some L =>
        refine (HCY.out.mono (fun _ _ h => wr2_some hbi h)).mono ?_
        rintro e w6 ⟨Av, nv, cv, fv, rfl, hov, hnv, hb6⟩
        have HC := hide (HC'.out L hbi)
        have hL7 := Nat.le_of_eq (closeW_len hbi)
        have hone : ([wOf 3 (segName st.plan.open_)] : List DiskWrite).length = 1 := rfl
        have HB6 := hide (HB5.out.trans (hb6.mono HB5.out.size))
        obtain ⟨rfl, hmc, hmm⟩ := hov.nlen
        obtain ⟨um, hum, hsm⟩ := hov.srcWrites
        have HUM := hide hum
        have hE0 := OwS.ofLit w6 w6.heap.size (Nat.le_refl _) 98 3 DiskWrite.cells DiskWrite.cells_len [wOf 3 (segName st.plan.open_)] [.int .i64 3, .string ((⟨#[115]⟩ : ByteArray) ++ dec st.plan.open_), .string ⟨#[]⟩] (wr_src (wOf 3 (segName st.plan.open_)) (show (Lit.int .i64 3).wf = true by decide) (by show (segName st.plan.open_).size ≤ maxLen; unfold maxLen; omega) (Nat.zero_le _) w6) (by simp)
        simp only [List.length_singleton] at hE0
        have HE0 := hide hE0
        have HSM := hide (hsm.below (show Below w6.heap.size w6 (w6.alloc (.cells #[.int .i64 3, .string ((⟨#[115]⟩ : ByteArray) ++ dec st.plan.open_), .string ⟨#[]⟩] 98)) from (Below.refl _ _).alloc (Nat.le_refl _) _))
        have hszB : w6.heap.size ≤ (w6.alloc (.cells #[.int .i64 3, .string ((⟨#[115]⟩ : ByteArray) ++ dec st.plan.open_), .string ⟨#[]⟩] 98)).heap.size := by rw [World.size_alloc]; omega
        clear hov hnv hb6 hbi hum hsm hE0
        go_wp2_with (first | (at_builtin; refine wpl_app rfl _ _ 49 rfl ia _ 40 Tryz.underlying49 HIa.out ha0 ha1 ha2 rfl (by decide) DiskWrite.cells_len rfl HE0.out L HUM.out.far (by exact New.nil _ _) (fun g _ hg => by cases hg) _ _ _ rfl rfl HSM.out (by omega) (by decide) hszB ?_; intro A5 n5 c5 w5 hn5 hown5 hgb5; have HG5 := hide hgb5; have HN5 := hide hown5; clear hgb5 hown5 hn5))
        go_ret3
        obtain ⟨fr, ho, hn⟩ := HN5.out.toOw
        exact wrRet_of HC.out ho (hn.mono HB6.out.size) ((HB6.out.alloc HB6.out.size _).trans (HG5.out.toBelow (by rw [World.size_alloc]; have := HB6.out.size; omega) (fun g e => by have := HE0.out.from e; have := HB6.out.size; omega)))
    have hk1 : a.kind = 1 := by omega
    have HK1 := hide hk1
    have a1 := HA5.out.cell 1
    simp only [List.getElem?_cons_zero] at a0
    rw [hk1] at a0
    clear hk1 hk2 hk3 hk4 hkr HC6 HC7 HC7' HCX
    by_cases hlg : 2000 < a.data.size
    · have HC := hide (HC8.out HKR.out HK4.out HTN.out HK1.out hlg)
      have hli : (2000 : Int) < (a.data.size : Int) := by omega
      clear HC8 HC9 HC0
      go_wp2
      go_ret3
      exact wrRet_of HC.out (Ow.lit0 _ _ _ _) (New.nil _ _) HB5.out
    have hli : ¬ ((2000 : Int) < (a.data.size : Int)) := by omega
    have hws := HWX.out.size
    have hwn := HWX.out.next
    have hwf := HWX.out.plan
    have hfs := st.plan.first_small hwf
    have z5 := HZ5.out.cell 5
    have z7 := HZ5.out.cell 7
    have zl := HZ5.out.lt
    clear hwf
    have hwr1 : IntKind.i64.wrap (st.size + 5) = st.size + 5 := wrapI _ (by omega) (by omega)
    have hwr2 : IntKind.i64.wrap (st.size + 5 + (a.data.size : Int)) = st.size + 5 + (a.data.size : Int) := wrapI _ (by omega) (by omega)
    by_cases hfull : 999999 < st.next ∨ 8000 < st.size + 5 + a.data.size
    · have HC := hide (HC9.out HKR.out HK4.out HTN.out HK1.out hlg hfull)
      clear HC8 HC9 HC0
      by_cases hfn : 999999 < st.next
      · clear hfull
        go_wp2
        go_ret3
        exact wrRet_of HC.out (Ow.lit0 _ _ _ _) (New.nil _ _) HB5.out
      · have hfz : (8000 : Int) < st.size + 5 + (a.data.size : Int) := hfull.resolve_left hfn
        clear hfull
        go_wp2
        go_ret3
        exact wrRet_of HC.out (Ow.lit0 _ _ _ _) (New.nil _ _) HB5.out
    have hfn : ¬ (999999 < st.next) := fun h => hfull (.inl h)
    have hfz : ¬ ((8000 : Int) < st.size + 5 + (a.data.size : Int)) := fun h => hfull (.inr h)
    have HC := hide (HC0.out HKR.out HK4.out HTN.out HK1.out hlg hfull)
    have hok : (LogRecord.mk st.next a.data).ok := ⟨by show (1 : Int) ≤ st.next; omega, by show st.next ≤ 999999; omega, by show a.data.size ≤ 2000; omega⟩
    have HFR := hide (fun W => specLogFrame_any st.next a.data W (by unfold maxLen; omega))
    have hfe : (LogRecord.mk st.next a.data).frame = (LogRecord.mk st.next a.data).bytes := by unfold LogRecord.frame; rw [if_pos (tb_true hok)]
    rw [hfe] at HFR
    have hbz : (LogRecord.mk st.next a.data).bytes.size ≤ 2005 := by
      unfold LogRecord.bytes
      rw [ByteArray.size_append]
      show 5 + a.data.size ≤ 2005
      omega
    obtain ⟨x, hx⟩ : ∃ x, (LogRecord.mk st.next a.data).bytes = x := ⟨_, rfl⟩
    rw [hx] at HC HFR hbz
    have hbx := hbz
    clear hfull HC8 HC9 HC0 hok hfe hx hbz
    go_wp2_with fail
    go_region_held3 (fun w' => w'.cell? ⟨bs, 5, none⟩ = some (.int .i64 st.size) ∧ w'.cell? ⟨bs, 7, none⟩ = some (.int .i64 st.next) ∧ w'.cell? ⟨w.heap.size + 1, 1, none⟩ = some (.string a.data))
      (first | exact ⟨kcell2 z5 hbz zl, kcell2 z7 hbz zl, kcell2 a1 hbz al⟩ | go_keep)
      (first
        | (go_at_call 58; refine (HFR.out _).mono ?_; rintro e w6 ⟨rfl, hb6⟩; have hbz : Below w5.heap.size w5 w6 := (below_drewN (Below.refl _ w5) _).trans hb6))
    all_goals
      have HB6 := hide (HB5.out.trans (hbz.mono HB5.out.size))
      clear hbz hb6 z5 z7 zl a0 a1 al HFR
      go_wp2
      go_ret3
      refine wrRet_of (l := [⟨2, segName st.plan.open_, x⟩]) HC.out (writes_lit [⟨2, segName st.plan.open_, x⟩] (Row.new w6 98 [.int .i64 2, .string (⟨#[115]⟩ ++ dec st.plan.open_), .string x]) (fun y hy => ?_) ⟨Nat.le_refl _, by show (1 : Nat) ≤ 1000; omega⟩) (new_one (Row.new w6 98 [.int .i64 2, .string (⟨#[115]⟩ ++ dec st.plan.open_), .string x]) HB6.out.size) (HB6.out.alloc HB6.out.size _)
      rw [List.mem_singleton.1 hy]
      exact ⟨(show (Lit.int .i64 2).wf = true by decide), by show (segName st.plan.open_).size ≤ maxLen; unfold maxLen; omega, by show x.size ≤ maxLen; unfold maxLen; omega⟩
end Go.Proofs.YtddjgbhkfdpffaaGreatDoor
