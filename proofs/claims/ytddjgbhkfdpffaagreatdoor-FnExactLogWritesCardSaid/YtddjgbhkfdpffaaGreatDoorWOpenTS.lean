/-
  What a disk's log says: the reference. Printed by gen/openlog.py.
-/
import Derived.Deep.RegionHeld3
import Derived.BigQuiet
import Derived.Test.YtddjgbhkfdpffaaGreatDoorWOpenT
set_option linter.unusedVariables false
set_option linter.unusedSimpArgs false
namespace Go.Proofs.YtddjgbhkfdpffaaGreatDoor
open Go.ChangeShapes Go.WideShapes Go.ChangeAt Go.RowKit

set_option maxRecDepth 100000 in
set_option maxHeartbeats 4000000 in
theorem specLogOpen_any (d : Disk) (us0 : List Value) (fp : List Nat) (w : World) (h : OwC w d.cells us0 fp) (hf : Lt fp w.heap.size) (hbk : d.bulk ≤ 1048576) :
    Calls Tryz.prog 7 #[.agg us0.toArray] w (OpenRet d w) := by
  have HOC := hide h
  obtain ⟨A1, c1, A2, c2, A3, c3, f1, f2, f3, rfl, o1, o2, o3, rfl⟩ := h.oDisk
  clear h o1 o2 o3
  have HDK := hide (fun (W : World) (hb : Below w.heap.size w W) => specDiskOk_any d _ _ W (HOC.out.below hb hf) (hf.up hb) hbk)
  have HPL := hide (fun (W : World) (hb : Below w.heap.size w W) => l43Plan_any d _ _ W (HOC.out.below hb hf) (hf.up hb) hbk)
  have HPT := hide (fun (p : LogPart) (hp : p.sane) (W : World) (hb : Below w.heap.size w W) => l43Part_any d _ _ p hp W (HOC.out.below hb hf) (hf.up hb) hbk)
  have HLK := hide (fun (x : ByteArray) (hx : x.size ≤ 1048576) (W : World) (hb : Below w.heap.size w W) => specDiskLook_any d _ _ x W (HOC.out.below hb hf) (hf.up hb) hbk hx)
  obtain ⟨ia, hia, ha0, ha1, ha2⟩ := info_parts recInfo
  have HIa := hide hia
  clear hia
  go_enter Tryz.func7, Tryz.ntmps7
  go_upto_region 1 with fail
  generalize hwA : w.alloc (.cells #[.slice A1 d.files.length c1, .slice A2 d.names.length c2, .slice A3 d.moves.length c3] 38) = wA
  have hA : Below w.heap.size w wA := by rw [← hwA]; exact (Below.refl _ _).alloc (Nat.le_refl _) _
  have hsA : wA.heap.size = w.heap.size + 1 := by rw [← hwA]; simp
  have RA : Row wA w.heap.size 38 [.slice A1 d.files.length c1, .slice A2 d.names.length c2, .slice A3 d.moves.length c3] := by rw [← hwA]; exact Row.new w _ _
  try simp only [hsA]
  clear hwA
  generalize hwB : wA.alloc (.cells #[.int .i64 0, .int .i64 0, .slice none 0 0, .int .i64 0, .int .i64 0, .int .i64 0, .bool false, .int .i64 0, .slice none 0 0] 33) = wB
  have hAB : Below wA.heap.size wA wB := by rw [← hwB]; exact (Below.refl _ _).alloc (Nat.le_refl _) _
  have hsB : w.heap.size + 2 ≤ wB.heap.size := by rw [← hwB, World.size_alloc, hsA]; exact Nat.le_refl _
  have RZ := hide (show Row wB (w.heap.size + 1) 33 [.int .i64 0, .int .i64 0, .slice none 0 0, .int .i64 0, .int .i64 0, .int .i64 0, .bool false, .int .i64 0, .slice none 0 0] from by rw [← hwB, ← hsA]; exact Row.new wA _ _)
  have HRD := hide (RA.below hAB RA.lt)
  have HB1 := hide (hA.trans (hAB.mono hA.size))
  clear hwB hAB hA hsA RA
  have d0 := HRD.out.cell 0
  have d1 := HRD.out.cell 1
  have d2 := HRD.out.cell 2
  have ld := HRD.out.lt
  go_wp2_with fail
  refine (HDK.out wB HB1.out).mono ?_
  rintro e w2 ⟨rfl, hb2⟩
  have HB2 := hide (HB1.out.trans (hb2.mono HB1.out.size))
  have HR2 := hide (HRD.out.below hb2 ld)
  have HZ2 := hide (RZ.out.below hb2 RZ.out.lt)
  have hs2 : w.heap.size + 2 ≤ w2.heap.size := Nat.le_trans hsB hb2.size
  clear hb2 d0 d1 d2 ld HDK HRD RZ HB1 hsB
  by_cases hok : tb d.ok = true
  rotate_left
  · have hno : tb d.ok = false := by simpa using hok
    have HN := hide (stopen_no hno)
    rw [hno]
    clear hok hno
    have v0 := HZ2.out.cell 0
    have v1 := HZ2.out.cell 1
    have v2 := HZ2.out.cell 2
    have v3 := HZ2.out.cell 3
    have v4 := HZ2.out.cell 4
    have v5 := HZ2.out.cell 5
    have v6 := HZ2.out.cell 6
    have v7 := HZ2.out.cell 7
    have v8 := HZ2.out.cell 8
    have y0 := HZ2.out.frozen 0
    have y1 := HZ2.out.frozen 1
    have y2 := HZ2.out.frozen 2
    have y3 := HZ2.out.frozen 3
    have y4 := HZ2.out.frozen 4
    have y5 := HZ2.out.frozen 5
    have y6 := HZ2.out.frozen 6
    have y7 := HZ2.out.frozen 7
    have y8 := HZ2.out.frozen 8
    have yl := HZ2.out.lt
    go_wp2
    refine bodyPost_ret (ret_row rfl _ _ (w.heap.size + 1) 33 [.int .i64 7, .int .i64 0, .slice none 0 0, .int .i64 0, .int .i64 0, .int .i64 0, .bool false, .int .i64 0, .slice none 0 0] (HZ2.out.setAll [.int .i64 7, .int .i64 0, .slice none 0 0, .int .i64 0, .int .i64 0, .int .i64 0, .bool false, .int .i64 0, .slice none 0 0] rfl) _ rfl Tryz.underlying33 rfl (by kernel_rfl)) rfl ?_
    have hgr := setN_grown [.int .i64 7, .int .i64 0, .slice none 0 0, .int .i64 0, .int .i64 0, .int .i64 0, .bool false, .int .i64 0, .slice none 0 0] 0 (grown_refl w2 (some (w.heap.size + 1)))
    exact openRet_bad HN.out (by decide) (HB2.out.trans (below_of_grown hgr (Nat.le_succ _) HB2.out.size))
  have HOK := hide hok
  rw [hok]
  clear hok
  have d0 := HR2.out.cell 0
  have d1 := HR2.out.cell 1
  have d2 := HR2.out.cell 2
  have ld := HR2.out.lt
  go_wp2_with fail
  refine (HPL.out w2 HB2.out).mono ?_
  rintro e w3 ⟨us, fq, rfl, ho, hn, hb3⟩
  have HNE := hide (show (d.newest.1, d.newest.2) = d.newest from rfl)
  have HPK := hide (newest_ok d)
  have hk9 : d.newest.2 ≤ 999999 := newest_le d
  generalize d.newest.2 = k at *
  generalize d.newest.1 = p at *
  obtain ⟨Ap, cp, f4, rfl, op, wp1, wp2, rfl⟩ := ho.oLogPlan
  have HOW := hide ho
  have HNW := hide (hn.mono hs2)
  have HB3 := hide (HB2.out.trans (hb3.mono HB2.out.size))
  have HR3 := hide (HR2.out.below hb3 ld)
  have HZ3 := hide (HZ2.out.below hb3 HZ2.out.lt)
  have hs3 : w.heap.size + 2 ≤ w3.heap.size := Nat.le_trans hs2 hb3.size
  clear hb3 hs2 d0 d1 d2 ld HPL HB2 HR2 HZ2 ho hn op wp1 wp2
  go_upto_region 4 with fail
  generalize hwC : w3.alloc (.cells #[.slice Ap p.parts.length cp, .int .i64 p.open_, .int .i64 p.first] 30) = wC
  have hC : Below w3.heap.size w3 wC := by rw [← hwC]; exact (Below.refl _ _).alloc (Nat.le_refl _) _
  have hsC : wC.heap.size = w3.heap.size + 1 := by rw [← hwC]; simp
  have RC : Row wC w3.heap.size 30 [.slice Ap p.parts.length cp, .int .i64 p.open_, .int .i64 p.first] := by rw [← hwC]; exact Row.new w3 _ _
  have HO3 := hide (show OpB w wC [.slice A1 d.files.length c1, .slice A2 d.names.length c2, .slice A3 d.moves.length c3] w3.heap.size wC.heap.size [.slice Ap p.parts.length cp, .int .i64 p.open_, .int .i64 p.first] p fq from ⟨HR3.out.below hC HR3.out.lt, HZ3.out.below hC HZ3.out.lt, RC, HOW.out.below hC HNW.out.lt, HNW.out.below hC HNW.out.lt, by omega, by omega, HNW.out.lt.mono (by omega), HB3.out.trans (hC.mono HB3.out.size)⟩)
  clear hwC hC RC HR3 HZ3 HOW HNW HB3 hsC
  by_cases hk0 : k = 0
  · subst hk0
    have HN := hide (stopen_none HOK.out HNE.out)
    have v0 := HO3.out.res.cell 0
    have v1 := HO3.out.res.cell 1
    have v2 := HO3.out.res.cell 2
    have v3 := HO3.out.res.cell 3
    have v4 := HO3.out.res.cell 4
    have v5 := HO3.out.res.cell 5
    have v6 := HO3.out.res.cell 6
    have v7 := HO3.out.res.cell 7
    have v8 := HO3.out.res.cell 8
    have y0 := HO3.out.res.frozen 0
    have y1 := HO3.out.res.frozen 1
    have y2 := HO3.out.res.frozen 2
    have y3 := HO3.out.res.frozen 3
    have y4 := HO3.out.res.frozen 4
    have y5 := HO3.out.res.frozen 5
    have y6 := HO3.out.res.frozen 6
    have y7 := HO3.out.res.frozen 7
    have y8 := HO3.out.res.frozen 8
    have yl := HO3.out.res.lt
    go_wp2
    refine bodyPost_ret (ret_row rfl _ _ (w.heap.size + 1) 33 [.int .i64 1, .int .i64 0, .slice none 0 0, .int .i64 0, .int .i64 0, .int .i64 0, .bool false, .int .i64 0, .slice none 0 0] (HO3.out.res.setAll [.int .i64 1, .int .i64 0, .slice none 0 0, .int .i64 0, .int .i64 0, .int .i64 0, .bool false, .int .i64 0, .slice none 0 0] rfl) _ rfl Tryz.underlying33 rfl (by kernel_rfl)) rfl ?_
    exact openRet_put HN.out (by decide) HO3.out
  have hki : ¬ ((k : Int) = 0) := by omega
  have HOKP := hide (HPK.out hk0)
  have HK0 := hide hk0
  have q0 := HO3.out.pl.cell 0
  have q1 := HO3.out.pl.cell 1
  have q2 := HO3.out.pl.cell 2
  have ql := HO3.out.pl.lt
  have hkb : ((k : Int) == 0) = false := by simpa using hki
  clear HPK hk0
  go_upto_region 7 with fail
  generalize hwE : wC.alloc (.cells #[.int .i64 0, .int .i64 (k : Int), .slice Ap p.parts.length cp, .int .i64 p.open_, .int .i64 p.first, .int .i64 0, .bool false, .int .i64 0, .slice none 0 0] 33) = wE
  have hE : Below wC.heap.size wC wE := by rw [← hwE]; exact (Below.refl _ _).alloc (Nat.le_refl _) _
  have RE : Row wE wC.heap.size 33 [.int .i64 0, .int .i64 (k : Int), .slice Ap p.parts.length cp, .int .i64 p.open_, .int .i64 p.first, .int .i64 0, .bool false, .int .i64 0, .slice none 0 0] := by rw [← hwE]; exact Row.new wC _ _
  have HO4 := hide (HO3.out.below hE)
  have HS4 := hide (show StB wE wC.heap.size k (.slice Ap p.parts.length cp) p.open_ p.first 0 false 0 none 0 0 [] [] from ⟨RE, OwS.nil _ _ _ _ _⟩)
  obtain ⟨b, hbe⟩ : ∃ b, b = wC.heap.size := ⟨_, rfl⟩
  obtain ⟨bp, hbp⟩ : ∃ b, b = w3.heap.size := ⟨_, rfl⟩
  rw [← hbe, ← hbp] at HO4
  rw [← hbe] at HS4 ⊢
  rw [← hbp]
  clear hwE hE RE HO3 hbe hbp hs3 q0 q1 q2 ql
  have hp40 := HOKP.out.1
  try simp only [hkb]
  clear hkb
  go_wp2
  go_loopw [6] (fun i wr => ∃ (j : Nat) (a : List LogRecord) (A : Option Addr) (n c : Nat) (us : List Value), i = .int .i64 (j : Int) ∧ j ≤ p.parts.length ∧ d.parts (p.parts.take j) = some a ∧ a.length ≤ 4000 * j ∧ OpB w wr [.slice A1 d.files.length c1, .slice A2 d.names.length c2, .slice A3 d.moves.length c3] bp b [.slice Ap p.parts.length cp, .int .i64 p.open_, .int .i64 p.first] p fq ∧ StB wr b k (.slice Ap p.parts.length cp) p.open_ p.first 0 false 0 A n c a us ∧ b < wr.heap.size) (fun i _ => p.parts.length - (intOf i).toNat)
  case atStart => exact ⟨0, [], none, 0, 0, [], rfl, Nat.zero_le _, rfl, Nat.zero_le _, HO4.out, HS4.out, HS4.out.box.lt⟩
  case round =>
    clear HO4 HS4
    obtain ⟨j, a, A, n, c, us, rfl, hj, hpa, hal, hob, hst, hbl⟩ := hrel
    obtain rfl := hst.len
    have HPA := hide hpa
    have HO := hide hob
    have HS := hide hst
    have HOA := hide (hob.ow)
    clear hpa hob hst
    have q0 := HO.out.pl.cell 0
    have ql := HO.out.pl.lt
    obtain ⟨Ax, cx, fx, ex, op, _, _, rfl⟩ := HOA.out.oLogPlan
    simp only [List.cons.injEq, Value.slice.injEq, true_and, and_true] at ex
    obtain ⟨rfl, rfl⟩ := ex
    obtain ⟨_, hcp, hcm⟩ := op.nlen
    unfold maxLen at hcm
    by_cases hlt : j < p.parts.length
    · obtain ⟨g, off, ws, fi, rfl, hgm, hfi', hwl, hcs, hov⟩ := op.elem LogPart.cells_len hlt
      obtain ⟨rfl, wa, wb, wc, wd, rfl⟩ := hov.oLogPart
      have c0 := hcs 0 _ rfl
      have c1' := hcs 1 _ rfl
      have c2' := hcs 2 _ rfl
      have c3' := hcs 3 _ rfl
      simp only [Nat.add_zero] at c0
      have hgl := cell_lt c0
      have hji : (j : Int) < (p.parts.length : Int) := by omega
      have HSN := hide (p.sane HOKP.out j hlt)
      have HQS := hide (fun l (h : d.part p.parts[j] = some l) => And.intro (parts_one HPA.out hlt h) (parts_bd HOKP.out hlt h))
      have HQN := hide (fun (h : d.part p.parts[j] = none) => stopen_lost HOK.out HNE.out HK0.out (parts_lost HPA.out hlt h))
      clear hcs hov wa wb wc wd op
      generalize p.parts[j] = x at *
      have d0 := HO.out.box.cell 0
      have d1 := HO.out.box.cell 1
      have d2 := HO.out.box.cell 2
      have ld := HO.out.box.lt
      cases hpt : d.part x with
      | none =>
        have HN := hide (HQN.out hpt)
        have HPX := hide (fun (W : World) (hb : Below w.heap.size w W) => (HPT.out x HSN.out W hb).mono (fun _ _ h => partRet_none hpt h))
        clear HQS HQN hpt HPT
        go_wp2_with fail
        go_region_held3 (fun w' => w'.cell? ⟨w.heap.size, 0, none⟩ = some (.slice A1 d.files.length c1) ∧ w'.cell? ⟨w.heap.size, 1, none⟩ = some (.slice A2 d.names.length c2) ∧ w'.cell? ⟨w.heap.size, 2, none⟩ = some (.slice A3 d.moves.length c3) ∧ w'.cell? ⟨bp, 0, none⟩ = some (.slice (some ⟨g, off, none⟩) p.parts.length cp) ∧ w'.cell? ⟨g, off + j * 4, none⟩ = some (.int .i64 x.num) ∧ w'.cell? ⟨g, off + j * 4 + 1, none⟩ = some (.int .i64 x.first) ∧ w'.cell? ⟨g, off + j * 4 + 2, none⟩ = some (.int .i64 x.next) ∧ w'.cell? ⟨g, off + j * 4 + 3, none⟩ = some (.int .i64 x.size))
          (first | exact ⟨kcell2 d0 hbz ld, kcell2 d1 hbz ld, kcell2 d2 hbz ld, kcell2 q0 hbz ql, kcell2 c0 hbz hgl, kcell2 c1' hbz hgl, kcell2 c2' hbz hgl, kcell2 c3' hbz hgl⟩ | go_keep)
          (first
            | (go_at_call 32; refine (HPX.out _ (below_drewN HO.out.fr _)).mono ?_; rintro e w5 ⟨v, rfl, hb5⟩; have hbz : Below wr.heap.size wr w5 := (below_drewN (Below.refl _ wr) _).trans hb5))
        all_goals
          have HO5 := hide (HO.out.below hbz)
          have HS5 := hide (HS.out.below hbz)
          have hb5' := Nat.lt_of_lt_of_le hbl hbz.size
          clear hbz hb5 d0 d1 d2 ld c0 c1' c2' c3' HPX HO HS hbl hgl q0 ql
          have v0 := HO5.out.res.cell 0
          have v1 := HO5.out.res.cell 1
          have v2 := HO5.out.res.cell 2
          have v3 := HO5.out.res.cell 3
          have v4 := HO5.out.res.cell 4
          have v5 := HO5.out.res.cell 5
          have v6 := HO5.out.res.cell 6
          have v7 := HO5.out.res.cell 7
          have v8 := HO5.out.res.cell 8
          have y0 := HO5.out.res.frozen 0
          have y1 := HO5.out.res.frozen 1
          have y2 := HO5.out.res.frozen 2
          have y3 := HO5.out.res.frozen 3
          have y4 := HO5.out.res.frozen 4
          have y5 := HO5.out.res.frozen 5
          have y6 := HO5.out.res.frozen 6
          have y7 := HO5.out.res.frozen 7
          have y8 := HO5.out.res.frozen 8
          have yl := HO5.out.res.lt
          go_wp2
          refine bodyPost_ret (ret_row rfl _ _ (w.heap.size + 1) 33 [.int .i64 2, .int .i64 0, .slice none 0 0, .int .i64 0, .int .i64 0, .int .i64 0, .bool false, .int .i64 0, .slice none 0 0] (HO5.out.res.setAll [.int .i64 2, .int .i64 0, .slice none 0 0, .int .i64 0, .int .i64 0, .int .i64 0, .bool false, .int .i64 0, .slice none 0 0] rfl) _ rfl Tryz.underlying33 rfl (by kernel_rfl)) rfl ?_
          exact openRet_put HN.out (by decide) HO5.out
      | some l =>
        obtain ⟨hpn, hl4⟩ := HQS.out l hpt
        have HPN := hide hpn
        have HPX := hide (fun (W : World) (hb : Below w.heap.size w W) => (HPT.out x HSN.out W hb).mono (fun _ _ h => partRet_some hpt h))
        clear HQS HQN hpt hpn HPT
        go_wp2_with fail
        go_region_held3 (fun w' => w'.cell? ⟨w.heap.size, 0, none⟩ = some (.slice A1 d.files.length c1) ∧ w'.cell? ⟨w.heap.size, 1, none⟩ = some (.slice A2 d.names.length c2) ∧ w'.cell? ⟨w.heap.size, 2, none⟩ = some (.slice A3 d.moves.length c3) ∧ w'.cell? ⟨bp, 0, none⟩ = some (.slice (some ⟨g, off, none⟩) p.parts.length cp) ∧ w'.cell? ⟨g, off + j * 4, none⟩ = some (.int .i64 x.num) ∧ w'.cell? ⟨g, off + j * 4 + 1, none⟩ = some (.int .i64 x.first) ∧ w'.cell? ⟨g, off + j * 4 + 2, none⟩ = some (.int .i64 x.next) ∧ w'.cell? ⟨g, off + j * 4 + 3, none⟩ = some (.int .i64 x.size))
          (first | exact ⟨kcell2 d0 hbz ld, kcell2 d1 hbz ld, kcell2 d2 hbz ld, kcell2 q0 hbz ql, kcell2 c0 hbz hgl, kcell2 c1' hbz hgl, kcell2 c2' hbz hgl, kcell2 c3' hbz hgl⟩ | go_keep)
          (first
            | (go_at_call 32; refine (HPX.out _ (below_drewN HO.out.fr _)).mono ?_; rintro e w5 ⟨Al, nl, cl, fl, rfl, hol, hnl, hb5⟩; have hbz : Below wr.heap.size wr w5 := (below_drewN (Below.refl _ wr) _).trans hb5))
        all_goals
          have HO5 := hide (HO.out.below hbz)
          have HS5 := hide (HS.out.below hbz)
          have hb5' := Nat.lt_of_lt_of_le hbl hbz.size
          have HOL := hide hol
          clear hol hnl
          clear hbz hb5 d0 d1 d2 ld c0 c1' c2' c3' HPX HO HS hbl hgl q0 ql
          obtain ⟨rfl, hnc, hnm⟩ := HOL.out.nlen
          obtain ⟨ur, hur, hsr⟩ := HOL.out.srcRecs
          have HUR := hide hur
          have HSR := hide hsr
          have z8 := HS5.out.box.cell 8
          have zl := HS5.out.box.lt
          have hbw : b + 1 ≤ w5.heap.size := hb5'
          clear hur hsr HOL
          go_wp2_with (first | (at_builtin; refine wpl_app rfl _ _ 31 rfl ia _ 24 Tryz.underlying31 HIa.out ha0 ha1 ha2 rfl (by decide) LogRecord.cells_len rfl HS5.out.own l HUR.out (by exact New.nil _ _) (fun g _ hg => by cases hg) _ _ _ rfl rfl HSR.out (by omega) (by decide) hbw ?_; intro A7 n7 c7 w7 hn7 hown7 hgb7; have HG7 := hide hgb7; have HN7 := hide hown7; have r7 := hgb7.row HS5.out.box (HS5.out.own.low (Nat.lt_succ_self _)); have z7 := r7.frozen 8; have q7 := r7.cell 8; have zl7 := r7.lt; clear hgb7 hown7 hn7))
          go_roundw
          case rel =>
            have HSN7 := HS5.out.app HG7.out HN7.out
            have HON7 := (HO5.out.keep HG7.out.grown (fun g e => Nat.le_of_succ_le (HS5.out.own.from e))).keep (grown_set w7 b 8 (.slice A7 n7 c7)) (fun g e => by injection e with e; omega)
            exact ⟨j + 1, a ++ l, A7, n7, c7, _, by go_num, by omega, HPN.out, by rw [List.length_append]; omega, HON7, HSN7, HSN7.box.lt⟩
          case measure => simp [intOf]; omega
    · obtain rfl : j = p.parts.length := by omega
      rw [List.take_length] at HPA
      have hop := HOKP.out.2.1
      have hfs := p.first_small HOKP.out
      have hal2 : a.length ≤ 160000 := by omega
      have HNO := hide (stopen_torn (d := d) HOK.out HNE.out HK0.out HPA.out)
      have HYES := hide (stopen_yes (d := d) HOK.out HNE.out HK0.out HPA.out)
      have HWF := hide HOKP.out
      obtain ⟨z, hz⟩ : ∃ z : Nat, p.open_ = (z : Int) := ⟨p.open_.toNat, by omega⟩
      have hdz := dec_size (z : Int) (by omega) (by omega)
      have hcc : ¬ (9223372036854775807 < 1 + (dec (z : Int)).size) := by omega
      rw [hz] at HNO HYES
      have HLX := hide (HLK.out (segName z) (by unfold segName; rw [ByteArray.size_append]; show 1 + (dec (z : Int)).size ≤ _; omega))
      have HDC := hide (fun (W : World) => specDecN_any z W (by omega))
      have hls := d.look_size (segName z)
      obtain ⟨⟨l, m⟩, hq⟩ : ∃ q, frFrom (d.lookT (segName z)) 0 = q := ⟨_, rfl⟩
      have HFR := hide (fun W => (specLogFrames_any (d.lookT (segName z)) W (by omega)).mono (fun _ _ h => framesRet_at hq h))
      have hbd := fr_bd (d.lookT (segName z))
      rw [hq] at HYES HNO hbd
      dsimp only at HYES HNO hbd
      have HLB := hide hbd.2.2
      obtain ⟨hll, hmz, -⟩ := hbd
      clear hq HLK HPA hlt hal
      generalize d.lookB (segName z) = there at *
      generalize d.lookT (segName z) = data at *
      have d0 := HO.out.box.cell 0
      have d1 := HO.out.box.cell 1
      have d2 := HO.out.box.cell 2
      have ld := HO.out.box.lt
      have q1 := HO.out.pl.cell 1
      simp only [List.getElem?_cons_succ, List.getElem?_cons_zero] at q1
      rw [hz] at q1
      clear hz
      go_wp2_with fail
      go_region_held3 (fun w' => w'.cell? ⟨w.heap.size, 0, none⟩ = some (.slice A1 d.files.length c1) ∧ w'.cell? ⟨w.heap.size, 1, none⟩ = some (.slice A2 d.names.length c2) ∧ w'.cell? ⟨w.heap.size, 2, none⟩ = some (.slice A3 d.moves.length c3) ∧ w'.cell? ⟨bp, 1, none⟩ = some (.int .i64 (z : Int)))
        (first | exact ⟨kcell2 d0 hbz ld, kcell2 d1 hbz ld, kcell2 d2 hbz ld, kcell2 q1 hbz ql⟩ | go_keep)
        (first
          | (go_at_call 33; refine (HLX.out _ (HO.out.fr.trans (hby.mono HO.out.fr.size))).mono ?_; rintro e w5 ⟨rfl, hb5⟩; have hbz : Below wr.heap.size wr w5 := hby.trans (hb5.mono hby.size))
          | (go_at_call 34; refine (HDC.out _).mono ?_; rintro e w4 ⟨rfl, hb4⟩; have hbz : Below wr.heap.size wr w4 := (below_drewN (Below.refl _ wr) _).trans hb4; have hby := hbz))
      all_goals
        have HO5 := hide (HO.out.below hbz)
        have HS5 := hide (HS.out.below hbz)
        clear hbz hby hb5 hb4 d0 d1 d2 ld q0 q1 ql HO HS HLX HDC hbl
        cases there with
        | false =>
          have HN := hide (HNO.out (fun h => Bool.noConfusion h.1))
          clear HYES HNO HFR
          have v0 := HO5.out.res.cell 0
          have v1 := HO5.out.res.cell 1
          have v2 := HO5.out.res.cell 2
          have v3 := HO5.out.res.cell 3
          have v4 := HO5.out.res.cell 4
          have v5 := HO5.out.res.cell 5
          have v6 := HO5.out.res.cell 6
          have v7 := HO5.out.res.cell 7
          have v8 := HO5.out.res.cell 8
          have y0 := HO5.out.res.frozen 0
          have y1 := HO5.out.res.frozen 1
          have y2 := HO5.out.res.frozen 2
          have y3 := HO5.out.res.frozen 3
          have y4 := HO5.out.res.frozen 4
          have y5 := HO5.out.res.frozen 5
          have y6 := HO5.out.res.frozen 6
          have y7 := HO5.out.res.frozen 7
          have y8 := HO5.out.res.frozen 8
          have yl := HO5.out.res.lt
          go_wp2
          refine bodyPost_ret (ret_row rfl _ _ (w.heap.size + 1) 33 [.int .i64 2, .int .i64 0, .slice none 0 0, .int .i64 0, .int .i64 0, .int .i64 0, .bool false, .int .i64 0, .slice none 0 0] (HO5.out.res.setAll [.int .i64 2, .int .i64 0, .slice none 0 0, .int .i64 0, .int .i64 0, .int .i64 0, .bool false, .int .i64 0, .slice none 0 0] rfl) _ rfl Tryz.underlying33 rfl (by kernel_rfl)) rfl ?_
          exact openRet_put HN.out (by decide) HO5.out
        | true =>
          go_wp2_with fail
          refine (HFR.out _).mono ?_
          rintro e w6 ⟨v, fr, rfl, ho, hn, hb6⟩
          obtain ⟨Al, cl, rfl, hcl, hml⟩ := ho.slice
          unfold maxLen at hml
          have HOL := hide ho
          have HNL := hide hn
          have HO6 := hide (HO5.out.below hb6)
          have HS6 := hide (HS5.out.below hb6)
          have hbl6 := HS6.out.box.lt
          clear ho hn hb6 HO5 HS5 HFR
          have q2 := HO6.out.pl.cell 2
          have ql := HO6.out.pl.lt
          go_wp2
          go_loopw [13] (fun i wr => ∃ (j q : Nat), i = .int .i64 (j : Int) ∧ j ≤ l.length ∧ (∀ i (h : i < l.length), i < j → l[i].pos = p.first + i) ∧ wr = w6.drewN q) (fun i _ => l.length - (intOf i).toNat)
          case atStart => exact ⟨0, 0, rfl, Nat.zero_le _, (fun i h hi => absurd hi (Nat.not_lt_zero _)), rfl⟩
          case round =>
            obtain ⟨j, q, rfl, hj, hri, rfl⟩ := hrel
            have HRI := hide hri
            clear hri
            by_cases hlt : j < l.length
            · obtain ⟨g, off, ws, fi, rfl, hgm, hfi', hwl, hcs, hov⟩ := HOL.out.elem LogRecord.cells_len hlt
              obtain ⟨rfl, wr0, hs1, rfl⟩ := hov.oLogRecord
              have c0 := hcs 0 _ rfl
              simp only [Nat.add_zero] at c0
              have hgl := cell_lt c0
              have hji : (j : Int) < (l.length : Int) := by omega
              have hwj : IntKind.i64.wrap (p.first + (j : Int)) = p.first + (j : Int) := wrapI _ (by omega) (by omega)
              have HRN := hide (fun (h : l[j].pos = p.first + (j : Int)) => show ∀ i (h : i < l.length), i < j + 1 → l[i].pos = p.first + i from runs_step HRI.out hlt h)
              have HNR := hide (fun (h : ¬ (l[j].pos = p.first + (j : Int))) => HNO.out (fun k => h (k.2 j hlt)))
              clear hcs hov wr0
              generalize l[j] = x at *
              by_cases h1 : x.pos = p.first + (j : Int)
              · have e1 : (x.pos != p.first + (j : Int)) = false := by simpa using h1
                have e2 : (x.pos == p.first + (j : Int)) = true := by simpa using h1
                have HR2 := hide (HRN.out h1)
                clear HRN HNR h1
                go_wp2_with fail
                go_quiet (fail)
                go_wp2
                go_roundw
                case rel => exact ⟨j + 1, _, by go_num, by omega, HR2.out, rfl⟩
                case measure => simp [intOf]; omega
              · have e1 : (x.pos != p.first + (j : Int)) = true := by simpa using h1
                have e2 : (x.pos == p.first + (j : Int)) = false := by simpa using h1
                have HN := hide (HNR.out h1)
                clear HRN HNR h1 HYES HNO
                go_wp2_with fail
                go_quiet (fail)
                have HOQ := hide (HO6.out.drewN (q + nq))
                have v0 := HO6.out.res.cell 0
                have v1 := HO6.out.res.cell 1
                have v2 := HO6.out.res.cell 2
                have v3 := HO6.out.res.cell 3
                have v4 := HO6.out.res.cell 4
                have v5 := HO6.out.res.cell 5
                have v6 := HO6.out.res.cell 6
                have v7 := HO6.out.res.cell 7
                have v8 := HO6.out.res.cell 8
                have y0 := HO6.out.res.frozen 0
                have y1 := HO6.out.res.frozen 1
                have y2 := HO6.out.res.frozen 2
                have y3 := HO6.out.res.frozen 3
                have y4 := HO6.out.res.frozen 4
                have y5 := HO6.out.res.frozen 5
                have y6 := HO6.out.res.frozen 6
                have y7 := HO6.out.res.frozen 7
                have y8 := HO6.out.res.frozen 8
                have yl := HO6.out.res.lt
                go_wp2
                refine bodyPost_ret (ret_row rfl _ _ (w.heap.size + 1) 33 [.int .i64 2, .int .i64 0, .slice none 0 0, .int .i64 0, .int .i64 0, .int .i64 0, .bool false, .int .i64 0, .slice none 0 0] (HOQ.out.res.setAll [.int .i64 2, .int .i64 0, .slice none 0 0, .int .i64 0, .int .i64 0, .int .i64 0, .bool false, .int .i64 0, .slice none 0 0] rfl) _ rfl Tryz.underlying33 rfl (by kernel_rfl)) rfl ?_
                exact openRet_put HN.out (by decide) HOQ.out
            · obtain rfl : j = l.length := by omega
              have HY := hide (HYES.out (by first | exact ⟨rfl, fun i hi => HRI.out i hi hi⟩ | exact ⟨trivial, fun i hi => HRI.out i hi hi⟩))
              have HOQ := hide (HO6.out.drewN q)
              have HSQ := hide (HS6.out.drewN q)
              have HOLQ := hide (HOL.out.drewN q)
              obtain ⟨ur, hur, hsr⟩ := HOLQ.out.srcRecs
              have HUR := hide hur
              have HSR := hide hsr
              have z8 := HS6.out.box.cell 8
              have zl := HS6.out.box.lt
              have hbw : b + 1 ≤ (w6.drewN q).heap.size := zl
              have hll2 : l.length ≤ 4000 := by omega
              have hlt1 := HOQ.out.lt
              have hlt2 := HOQ.out.hb
              have hn1 : b ≠ w.heap.size + 1 := by omega
              have hn2 : w.heap.size + 1 ≠ b := by omega
              have hn3 : b ≠ bp := by omega
              have hn4 : bp ≠ b := by omega
              have HT := hide (show tb (m < data.size) = decide (m < data.size) from tb_decide Iff.rfl)
              have wk : Hid ((Lit.int .i64 (k : Int)).wf = true) := hide (WalkArith.wf_i64 (by omega))
              have wm : Hid ((Lit.int .i64 (m : Int)).wf = true) := hide (WalkArith.wf_i64 (by omega))
              have wn : Hid ((Lit.int .i64 (p.first + (l.length : Int))).wf = true) := hide (WalkArith.wf_i64 (by omega))
              clear hur hsr HYES HNO
              go_wp2_with (first | (at_builtin; refine wpl_app rfl _ _ 31 rfl ia _ 24 Tryz.underlying31 HIa.out ha0 ha1 ha2 rfl (by decide) LogRecord.cells_len rfl HSQ.out.own l HUR.out (by exact New.nil _ _) (fun g _ hg => by cases hg) _ _ _ rfl rfl HSR.out (by omega) (by decide) hbw ?_; intro A7 n7 c7 w7 hn7 hown7 hgb7; have HG7 := hide hgb7; have HN7 := hide hown7; have r7 := hgb7.row HSQ.out.box (HSQ.out.own.low (Nat.lt_succ_self _)); have HO7 := hide (HOQ.out.keep hgb7.grown (fun g e => Nat.le_of_succ_le (HSQ.out.own.from e))); have g0 := r7.cell 0; have x0 := r7.frozen 0; have g1 := r7.cell 1; have x1 := r7.frozen 1; have g2 := r7.cell 2; have x2 := r7.frozen 2; have g3 := r7.cell 3; have x3 := r7.frozen 3; have g4 := r7.cell 4; have x4 := r7.frozen 4; have g5 := r7.cell 5; have x5 := r7.frozen 5; have g6 := r7.cell 6; have x6 := r7.frozen 6; have g7 := r7.cell 7; have x7 := r7.frozen 7; have g8 := r7.cell 8; have x8 := r7.frozen 8; have xl := r7.lt; have t2 := HO7.out.pl.cell 2; have tl := HO7.out.pl.lt; have v0 := HO7.out.res.cell 0; have y0 := HO7.out.res.frozen 0; have v1 := HO7.out.res.cell 1; have y1 := HO7.out.res.frozen 1; have v2 := HO7.out.res.cell 2; have y2 := HO7.out.res.frozen 2; have v3 := HO7.out.res.cell 3; have y3 := HO7.out.res.frozen 3; have v4 := HO7.out.res.cell 4; have y4 := HO7.out.res.frozen 4; have v5 := HO7.out.res.cell 5; have y5 := HO7.out.res.frozen 5; have v6 := HO7.out.res.cell 6; have y6 := HO7.out.res.frozen 6; have v7 := HO7.out.res.cell 7; have y7 := HO7.out.res.frozen 7; have v8 := HO7.out.res.cell 8; have y8 := HO7.out.res.frozen 8; have yl := HO7.out.res.lt; clear hgb7 hown7 r7 hn7))
              have hkb : ∀ g, some b = some g → b ≤ g := fun g e => by injection e with e; omega
              have HSZ := (((HSQ.out.app HG7.out HN7.out).put5 (m : Int)).put6 (decide (m < data.size))).put7 (p.first + (l.length : Int))
              have HOZ := ((((HO7.out).keep (grown_set _ b 8 (.slice A7 n7 c7)) hkb).keep (grown_set _ b 5 (.int .i64 (m : Int))) hkb).keep (grown_set _ b 6 (.bool (decide (m < data.size)))) hkb).keep (grown_set _ b 7 (.int .i64 (p.first + (l.length : Int)))) hkb
              refine bodyPost_ret (ret_row rfl _ _ (w.heap.size + 1) 33 [.int .i64 0, .int .i64 (k : Int), .slice Ap p.parts.length cp, .int .i64 p.open_, .int .i64 p.first, .int .i64 (m : Int), .bool (decide (m < data.size)), .int .i64 (p.first + (l.length : Int)), .slice A7 n7 c7] (HOZ.res.setAll [.int .i64 0, .int .i64 (k : Int), .slice Ap p.parts.length cp, .int .i64 p.open_, .int .i64 p.first, .int .i64 (m : Int), .bool (decide (m < data.size)), .int .i64 (p.first + (l.length : Int)), .slice A7 n7 c7] rfl) _ rfl Tryz.underlying33 rfl (by kernel_rfl)) rfl ?_
              exact openRet_yes HOZ HSZ (by rw [HY.out, HT.out]) wk.out wm.out wn.out
end Go.Proofs.YtddjgbhkfdpffaaGreatDoor
