/-
  The records of a closed segment: the program. Written by hand. What a disk's log says: the program. Printed by gen/openlog.py.
-/
import Derived.Deep.RegionHeld3
import Derived.BigQuiet
import Derived.Test.YtddjgbhkfdpffaaGreatDoorWFramesI
import Derived.Test.YtddjgbhkfdpffaaGreatDoorWOpenT
import Derived.Test.YtddjgbhkfdpffaaGreatDoorWOpenI
set_option linter.unusedVariables false
set_option linter.unusedSimpArgs false
namespace Go.Proofs.YtddjgbhkfdpffaaGreatDoor
open Go.ChangeShapes Go.WideShapes Go.ChangeAt Go.RowKit

set_option maxRecDepth 100000 in
set_option maxHeartbeats 2000000 in
theorem partRecords_any (d : Disk) (us0 : List Value) (fp : List Nat) (p : LogPart) (hp : p.sane) (w : World) (h : OwC w d.cells us0 fp) (hf : Lt fp w.heap.size) (hbk : d.bulk ≤ 1048576) (hok : tb d.ok = true) (hl : Lay w) (hw7 : 7 < w.heap.size) :
    Calls Tryz.prog 91 #[.agg us0.toArray, .agg #[.int .i64 p.num, .int .i64 p.first, .int .i64 p.next, .int .i64 p.size]] w (PartRet d p w) := by
  have HOC := hide h
  obtain ⟨A1, c1, A2, c2, A3, c3, f1, f2, f3, rfl, o1, o2, o3, rfl⟩ := h.oDisk
  clear h o1 o2 o3
  obtain ⟨pn, y1, y2, ps⟩ := p
  obtain ⟨⟨hn1, hn2⟩, hfi, hne, hs1, hs2⟩ := hp
  dsimp only at hn1 hn2 hfi hne hs1 hs2
  obtain ⟨n, rfl⟩ : ∃ n : Nat, pn = (n : Int) := ⟨pn.toNat, by omega⟩
  obtain ⟨z, rfl⟩ : ∃ z : Nat, ps = (z : Int) := ⟨ps.toNat, by omega⟩
  have hdz := dec_size (n : Int) (by omega) (by omega)
  have hcc : ¬ (9223372036854775807 < 1 + (dec (n : Int)).size) := by omega
  have hsx : (segName n).size ≤ 1048576 := by unfold segName; rw [ByteArray.size_append]; show 1 + (dec (n : Int)).size ≤ _; omega
  have HLK := hide (fun (W : World) (hb : Below w.heap.size w W) => implLook_any d _ _ (segName n) W (HOC.out.below hb hf) (hf.up hb) hbk hsx hok)
  have HDC := hide (fun (W : World) (hb : Below w.heap.size w W) => segmentName_any n (by omega) (by omega) W (hl.low hb hw7))
  have HYES := hide (Disk.part_yes (d := d) (p := ⟨n, y1, y2, z⟩))
  have HNO := hide (Disk.part_no (d := d) (p := ⟨n, y1, y2, z⟩))
  have hls := d.look_size (segName n)
  dsimp only [Int.toNat_natCast] at HYES HNO
  obtain ⟨⟨l, m⟩, hq⟩ : ∃ q, frFrom ((d.lookT (segName n)).extract 0 z) 0 = q := ⟨_, rfl⟩
  have HFR := hide (fun W => (implLogFrames_any ((d.lookT (segName n)).extract 0 z) W (by rw [ByteArray.size_extract]; omega)).mono (fun _ _ h => framesRet_at hq h))
  have hbd := fr_bd ((d.lookT (segName n)).extract 0 z)
  have hez : ((d.lookT (segName n)).extract 0 z).size ≤ z := by rw [ByteArray.size_extract]; omega
  rw [hq] at HYES HNO hbd
  dsimp only at HYES HNO hbd
  have HLB := hide hbd.2.2
  obtain ⟨hll, hmz, -⟩ := hbd
  have hLL : l.length ≤ 4000 := by omega
  clear hq
  generalize d.lookB (segName n) = there at *
  generalize d.lookT (segName n) = data at *
  change Calls Tryz.prog 91 #[.agg #[.slice A1 d.files.length c1, .slice A2 d.names.length c2, .slice A3 d.moves.length c3], .agg #[.int .i64 (n : Int), .int .i64 y1, .int .i64 y2, .int .i64 (z : Int)]] w (PartRet d ⟨n, y1, y2, z⟩ w)
  clear hok hl hw7
  go_enter Tryz.func91, Tryz.ntmps91
  go_upto_region 1 with fail
  generalize hwA : w.alloc (.cells #[.slice A1 d.files.length c1, .slice A2 d.names.length c2, .slice A3 d.moves.length c3] 38) = wA
  have hA : Below w.heap.size w wA := by rw [← hwA]; exact (Below.refl _ _).alloc (Nat.le_refl _) _
  have hsA : wA.heap.size = w.heap.size + 1 := by rw [← hwA]; simp
  have RA : Row wA w.heap.size 38 [.slice A1 d.files.length c1, .slice A2 d.names.length c2, .slice A3 d.moves.length c3] := by rw [← hwA]; exact Row.new w _ _
  try simp only [hsA]
  clear hwA
  generalize hwB : wA.alloc (.cells #[.int .i64 (n : Int), .int .i64 y1, .int .i64 y2, .int .i64 (z : Int)] 75) = wB
  have hAB : Below wA.heap.size wA wB := by rw [← hwB]; exact (Below.refl _ _).alloc (Nat.le_refl _) _
  have RP := hide (show Row wB (w.heap.size + 1) 75 [.int .i64 (n : Int), .int .i64 y1, .int .i64 y2, .int .i64 (z : Int)] from by rw [← hwB, ← hsA]; exact Row.new wA _ _)
  have HRD := hide (RA.below hAB RA.lt)
  have HB1 := hide (hA.trans (hAB.mono hA.size))
  clear hwB hAB hA hsA RA
  have d0 := HRD.out.cell 0
  have d1 := HRD.out.cell 1
  have d2 := HRD.out.cell 2
  have ld := HRD.out.lt
  have p0 := RP.out.cell 0
  have p1 := RP.out.cell 1
  have p2 := RP.out.cell 2
  have p3 := RP.out.cell 3
  have lp := RP.out.lt
  go_region_held3 (fun w' => w'.cell? ⟨w.heap.size, 0, none⟩ = some (.slice A1 d.files.length c1) ∧ w'.cell? ⟨w.heap.size, 1, none⟩ = some (.slice A2 d.names.length c2) ∧ w'.cell? ⟨w.heap.size, 2, none⟩ = some (.slice A3 d.moves.length c3) ∧ w'.cell? ⟨w.heap.size + 1, 0, none⟩ = some (.int .i64 (n : Int)))
    (first | exact ⟨kcell2 d0 hbz ld, kcell2 d1 hbz ld, kcell2 d2 hbz ld, kcell2 p0 hbz lp⟩ | go_keep)
    (first
      | (go_at_call 92; refine (HLK.out _ (HB1.out.trans (hby.mono HB1.out.size))).mono ?_; rintro e w5 ⟨rfl, hb5⟩; have hbz : Below wB.heap.size wB w5 := hby.trans (hb5.mono hby.size))
      | (go_at_call 93; refine (HDC.out _ (below_drewN HB1.out _)).mono ?_; rintro e w4 ⟨rfl, hb4⟩; have hbz : Below wB.heap.size wB w4 := (below_drewN (Below.refl _ wB) _).trans hb4; have hby := hbz))
  all_goals
    have HB2 := hide (HB1.out.trans (hbz.mono HB1.out.size))
    have HP2 := hide (RP.out.below hbz RP.out.lt)
    clear hbz hby hb5 hb4 HB1 RP HRD d0 d1 d2 ld p0 p1 p2 p3 lp HLK HDC
    have p1 := HP2.out.cell 1
    have p3 := HP2.out.cell 3
    have lp := HP2.out.lt
    cases there with
    | false =>
      have HN := hide (HNO.out (fun h => Bool.noConfusion h.1))
      clear HYES HNO HFR
      go_wp2
      go_ret2
      exact partRet_no HN.out HB2.out
    | true =>
      by_cases hzl : z ≤ data.size
      rotate_left
      · have hzi : (data.size : Int) < (z : Int) := by omega
        have HN := hide (HNO.out (fun h => hzl (by have := h.2.1; omega)))
        clear HYES HNO HFR
        go_wp2
        go_ret2
        exact partRet_no HN.out HB2.out
      have hzi : ¬ ((data.size : Int) < (z : Int)) := by omega
      have hzj : (z : Int) ≤ (data.size : Int) := by omega
      go_wp2_with fail
      refine (HFR.out _).mono ?_
      rintro e w6 ⟨v, fq, rfl, ho, hn, hb6⟩
      obtain ⟨Ar, cr, rfl, hcr, hmr⟩ := ho.slice
      unfold maxLen at hmr
      have HO := hide ho
      have HN6 := hide (hn.mono HB2.out.size)
      have HB6 := hide (HB2.out.trans (hb6.mono HB2.out.size))
      have HP6 := hide (HP2.out.below hb6 HP2.out.lt)
      clear ho hn hb6 HB2 HP2 p1 p3 lp HFR
      have p1 := HP6.out.cell 1
      have p2 := HP6.out.cell 2
      have p3 := HP6.out.cell 3
      have lp := HP6.out.lt
      have hyb2 : IntKind.i64.wrap (y2 - 1) = y2 - 1 := wrapI _ (by omega) (by omega)
      go_wp2
      go_loopw [10, 42] (fun nx i wr => ∃ (j : Nat), nx = .int .i64 (leastAt y1 l j) ∧ i = .int .i64 (j : Int) ∧ j ≤ l.length ∧ (∀ i (h : i < l.length), i < j → leastAt y1 l i ≤ l[i].pos ∧ l[i].pos < y2) ∧ Below w6.heap.size w6 wr) (fun _ i _ => l.length - (intOf i).toNat)
      case atStart => exact ⟨0, rfl, rfl, Nat.zero_le _, (fun i h hi => absurd hi (Nat.not_lt_zero _)), Below.refl _ _⟩
      case round =>
        obtain ⟨j, rfl, rfl, hj, hri, hbr⟩ := hrel
        have HRI := hide hri
        have HBR := hide hbr
        have HPR := hide (HP6.out.below hbr HP6.out.lt)
        have HOR := hide (HO.out.below hbr HN6.out.lt)
        clear hri hbr p1 p2 p3 lp
        by_cases hlt : j < l.length
        · obtain ⟨g, off, ws, fi, rfl, hgm, hfi', hwl, hcs, hov⟩ := HOR.out.elem LogRecord.cells_len hlt
          obtain ⟨rfl, wr0, hs1, rfl⟩ := hov.oLogRecord
          have c0 := hcs 0 _ rfl
          have c1 := hcs 1 _ rfl
          simp only [Nat.add_zero] at c0
          have hgl := cell_lt c0
          have hji : (j : Int) < (l.length : Int) := by omega
          have hxb := HLB.out l[j] (List.getElem_mem _)
          have hyb := leastAt_bd hfi HLB.out j hj
          have HST := hide (rises_step HRI.out hlt)
          have HLS := hide (leastAt_succ y1 l j hlt)
          have HNR := hide (fun (h : ¬ (leastAt y1 l j ≤ l[j].pos ∧ l[j].pos < y2)) => HNO.out (fun k => h (k.2.2.1 j hlt)))
          clear hcs hov wr0
          generalize leastAt y1 l j = y at *
          generalize l[j] = x at *
          go_upto_region 9 with fail
          generalize hwD : wr.alloc (.cells #[.int .i64 x.pos, .string x.data] 63) = wD
          have hD : Below wr.heap.size wr wD := by rw [← hwD]; exact (Below.refl _ _).alloc (Nat.le_refl _) _
          have RD : Row wD wr.heap.size 63 [.int .i64 x.pos, .string x.data] := by rw [← hwD]; exact Row.new wr _ _
          have HPD := hide (HPR.out.below hD HPR.out.lt)
          have HBD := hide (HBR.out.trans (hD.mono HBR.out.size))
          clear hwD hD HPR HOR HBR c0 c1 hgl
          have c0 := RD.cell 0
          have lc := RD.lt
          have p2 := HPD.out.cell 2
          have lp := HPD.out.lt
          clear RD
          go_wp2_with fail
          refine (inRange_any _ _ _ _).mono ?_
          rintro e w3 ⟨rfl, rfl⟩
          by_cases hr : y ≤ x.pos ∧ x.pos ≤ y2 - 1
          · have HS2 := hide (HST.out hr.1 (by have := hr.2; omega))
            have HT := hide (tb_true hr)
            clear hr HST HNR
            rw [HT.out]
            go_wp2
            go_roundw
            case rel => exact ⟨j + 1, by rw [HLS.out] <;> go_num, by go_num, by omega, HS2.out, HBD.out⟩
            case measure => simp [intOf]; omega
          · have HN := hide (HNR.out (fun h => hr ⟨h.1, by have := h.2; omega⟩))
            have HT := hide (tb_false hr)
            clear hr HST HNR HYES HNO
            rw [HT.out]
            go_wp2
            go_ret2
            exact partRet_no HN.out (HB6.out.trans (HBD.out.mono HB6.out.size))
        · obtain rfl : j = l.length := by omega
          have HBW := hide (HB6.out.trans (HBR.out.mono HB6.out.size))
          have HNW := hide (HN6.out.below HBR.out HN6.out.lt)
          have p3 := HPR.out.cell 3
          have lp := HPR.out.lt
          by_cases hme : m = z
          · have HY := hide (HYES.out (by first | exact ⟨rfl, by omega, fun i hi => HRI.out i hi hi, by omega⟩ | exact ⟨trivial, by omega, fun i hi => HRI.out i hi hi, by omega⟩))
            subst hme
            clear HYES HNO
            go_wp2_with fail
            go_quiet (fail)
            go_wp2
            go_ret2
            exact partRet_yes HY.out (HOR.out.drewN _) (HNW.out.drewN _) (below_drewN HBW.out _)
          · have HN := hide (HNO.out (fun h => hme (by have := h.2.2.2; omega)))
            have hmi : ((m : Int) == (z : Int)) = false := by simp; omega
            have hmj : ¬ ((m : Int) = (z : Int)) := by omega
            clear HYES HNO
            go_wp2_with fail
            go_quiet (fail)
            go_wp2
            go_ret2
            exact partRet_no HN.out (below_drewN HBW.out _)
end Go.Proofs.YtddjgbhkfdpffaaGreatDoor
set_option linter.unusedVariables false
set_option linter.unusedSimpArgs false
namespace Go.Proofs.YtddjgbhkfdpffaaGreatDoor
open Go.ChangeShapes Go.WideShapes Go.ChangeAt Go.RowKit

set_option maxRecDepth 100000 in
set_option maxHeartbeats 4000000 in
theorem openLog_any (d : Disk) (us0 : List Value) (fp : List Nat) (w : World) (h : OwC w d.cells us0 fp) (hf : Lt fp w.heap.size) (hbk : d.bulk ≤ 1048576) (hok : tb d.ok = true) (hl : Lay w) (hw7 : 7 < w.heap.size) :
    Calls Tryz.prog 40 #[.agg us0.toArray] w (OpenRet d w) := by
  have HOC := hide h
  obtain ⟨A1, c1, A2, c2, A3, c3, f1, f2, f3, rfl, o1, o2, o3, rfl⟩ := h.oDisk
  clear h o1 o2 o3
  have HPL := hide (fun (W : World) (hb : Below w.heap.size w W) => newestPlan_any d _ _ W (HOC.out.below hb hf) (hf.up hb) hbk hok (hl.low hb hw7) (Nat.lt_of_lt_of_le hw7 hb.size))
  have HPT := hide (fun (p : LogPart) (hp : p.sane) (W : World) (hb : Below w.heap.size w W) => partRecords_any d _ _ p hp W (HOC.out.below hb hf) (hf.up hb) hbk hok (hl.low hb hw7) (Nat.lt_of_lt_of_le hw7 hb.size))
  have HLK := hide (fun (x : ByteArray) (hx : x.size ≤ 1048576) (W : World) (hb : Below w.heap.size w W) => implLook_any d _ _ x W (HOC.out.below hb hf) (hf.up hb) hbk hx hok)
  obtain ⟨ia, hia, ha0, ha1, ha2⟩ := info_parts recInfo
  have HIa := hide hia
  have HLY := hide (fun (W : World) (hb : Below w.heap.size w W) => hl.low hb hw7)
  have HOK := hide hok
  clear hok hl hw7
  clear hia
  go_enter Tryz.func40, Tryz.ntmps40
  go_upto_region 1 with fail
  generalize hwA : w.alloc (.cells #[.slice A1 d.files.length c1, .slice A2 d.names.length c2, .slice A3 d.moves.length c3] 38) = wA
  have hA : Below w.heap.size w wA := by rw [← hwA]; exact (Below.refl _ _).alloc (Nat.le_refl _) _
  have hsA : wA.heap.size = w.heap.size + 1 := by rw [← hwA]; simp
  have RA : Row wA w.heap.size 38 [.slice A1 d.files.length c1, .slice A2 d.names.length c2, .slice A3 d.moves.length c3] := by rw [← hwA]; exact Row.new w _ _
  try simp only [hsA]
  clear hwA
  generalize hw2 : wA.alloc (.cells #[.int .i64 0, .int .i64 0, .slice none 0 0, .int .i64 0, .int .i64 0, .int .i64 0, .bool false, .int .i64 0, .slice none 0 0] 33) = w2
  have hAB : Below wA.heap.size wA w2 := by rw [← hw2]; exact (Below.refl _ _).alloc (Nat.le_refl _) _
  have hs2 : w.heap.size + 2 ≤ w2.heap.size := by rw [← hw2, World.size_alloc, hsA]; exact Nat.le_refl _
  have HZ2 := hide (show Row w2 (w.heap.size + 1) 33 [.int .i64 0, .int .i64 0, .slice none 0 0, .int .i64 0, .int .i64 0, .int .i64 0, .bool false, .int .i64 0, .slice none 0 0] from by rw [← hw2, ← hsA]; exact Row.new wA _ _)
  have HR2 := hide (RA.below hAB RA.lt)
  have HB2 := hide (hA.trans (hAB.mono hA.size))
  clear hw2 hAB hA hsA RA
  have d0 := HR2.out.cell 0
  have d1 := HR2.out.cell 1
  have d2 := HR2.out.cell 2
  have ld := HR2.out.lt
  go_wp2_with fail
  refine (HPL.out w2 HB2.out).mono ?_
  rintro e w3 ⟨us, fq, rfl, ho, hn, hb3⟩
  have HNE := hide (show (d.newest.1, d.newest.2) = d.newest from rfl)
  have HPK := hide (newest_ok d)
  have hk9 : d.newest.2 ≤ 999999 := newest_le d
  generalize d.newest.2 = k at *
  generalize d.newest.1 = p at *
  obtain ⟨Ap, cp, f4, rfl, op, wp1, wp2, rfl⟩ := ho.oLogPlan
  have HOW := hide ho
  have HNW := hide (hn.mono hs2)
  have HB3 := hide (HB2.out.trans (hb3.mono HB2.out.size))
  have HR3 := hide (HR2.out.below hb3 ld)
  have HZ3 := hide (HZ2.out.below hb3 HZ2.out.lt)
  have hs3 : w.heap.size + 2 ≤ w3.heap.size := Nat.le_trans hs2 hb3.size
  clear hb3 hs2 d0 d1 d2 ld HPL HB2 HR2 HZ2 ho hn op wp1 wp2
  go_upto_region 2 with fail
  generalize hwC : w3.alloc (.cells #[.slice Ap p.parts.length cp, .int .i64 p.open_, .int .i64 p.first] 30) = wC
  have hC : Below w3.heap.size w3 wC := by rw [← hwC]; exact (Below.refl _ _).alloc (Nat.le_refl _) _
  have hsC : wC.heap.size = w3.heap.size + 1 := by rw [← hwC]; simp
  have RC : Row wC w3.heap.size 30 [.slice Ap p.parts.length cp, .int .i64 p.open_, .int .i64 p.first] := by rw [← hwC]; exact Row.new w3 _ _
  have HO3 := hide (show OpB w wC [.slice A1 d.files.length c1, .slice A2 d.names.length c2, .slice A3 d.moves.length c3] w3.heap.size wC.heap.size [.slice Ap p.parts.length cp, .int .i64 p.open_, .int .i64 p.first] p fq from ⟨HR3.out.below hC HR3.out.lt, HZ3.out.below hC HZ3.out.lt, RC, HOW.out.below hC HNW.out.lt, HNW.out.below hC HNW.out.lt, by omega, by omega, HNW.out.lt.mono (by omega), HB3.out.trans (hC.mono HB3.out.size)⟩)
  clear hwC hC RC HR3 HZ3 HOW HNW HB3 hsC
  by_cases hk0 : k = 0
  · subst hk0
    have HN := hide (stopen_none HOK.out HNE.out)
    have v0 := HO3.out.res.cell 0
    have v1 := HO3.out.res.cell 1
    have v2 := HO3.out.res.cell 2
    have v3 := HO3.out.res.cell 3
    have v4 := HO3.out.res.cell 4
    have v5 := HO3.out.res.cell 5
    have v6 := HO3.out.res.cell 6
    have v7 := HO3.out.res.cell 7
    have v8 := HO3.out.res.cell 8
    have y0 := HO3.out.res.frozen 0
    have y1 := HO3.out.res.frozen 1
    have y2 := HO3.out.res.frozen 2
    have y3 := HO3.out.res.frozen 3
    have y4 := HO3.out.res.frozen 4
    have y5 := HO3.out.res.frozen 5
    have y6 := HO3.out.res.frozen 6
    have y7 := HO3.out.res.frozen 7
    have y8 := HO3.out.res.frozen 8
    have yl := HO3.out.res.lt
    go_wp2
    refine bodyPost_ret (ret_row rfl _ _ (w.heap.size + 1) 33 [.int .i64 1, .int .i64 0, .slice none 0 0, .int .i64 0, .int .i64 0, .int .i64 0, .bool false, .int .i64 0, .slice none 0 0] (HO3.out.res.setAll [.int .i64 1, .int .i64 0, .slice none 0 0, .int .i64 0, .int .i64 0, .int .i64 0, .bool false, .int .i64 0, .slice none 0 0] rfl) _ rfl Tryz.underlying33 rfl (by kernel_rfl)) rfl ?_
    exact openRet_put HN.out (by decide) HO3.out
  have hki : ¬ ((k : Int) = 0) := by omega
  have HOKP := hide (HPK.out hk0)
  have HK0 := hide hk0
  have q0 := HO3.out.pl.cell 0
  have q1 := HO3.out.pl.cell 1
  have q2 := HO3.out.pl.cell 2
  have ql := HO3.out.pl.lt
  have hkb : ((k : Int) == 0) = false := by simpa using hki
  clear HPK hk0
  go_upto_region 5 with fail
  generalize hwE : wC.alloc (.cells #[.int .i64 0, .int .i64 (k : Int), .slice Ap p.parts.length cp, .int .i64 p.open_, .int .i64 p.first, .int .i64 0, .bool false, .int .i64 p.first, .slice none 0 0] 33) = wE
  have hE : Below wC.heap.size wC wE := by rw [← hwE]; exact (Below.refl _ _).alloc (Nat.le_refl _) _
  have RE : Row wE wC.heap.size 33 [.int .i64 0, .int .i64 (k : Int), .slice Ap p.parts.length cp, .int .i64 p.open_, .int .i64 p.first, .int .i64 0, .bool false, .int .i64 p.first, .slice none 0 0] := by rw [← hwE]; exact Row.new wC _ _
  have HO4 := hide (HO3.out.below hE)
  have HS4 := hide (show StB wE wC.heap.size k (.slice Ap p.parts.length cp) p.open_ p.first 0 false p.first none 0 0 [] [] from ⟨RE, OwS.nil _ _ _ _ _⟩)
  obtain ⟨b, hbe⟩ : ∃ b, b = wC.heap.size := ⟨_, rfl⟩
  obtain ⟨bp, hbp⟩ : ∃ b, b = w3.heap.size := ⟨_, rfl⟩
  rw [← hbe, ← hbp] at HO4
  rw [← hbe] at HS4 ⊢
  rw [← hbp]
  clear hwE hE RE HO3 hbe hbp hs3 q0 q1 q2 ql
  have hp40 := HOKP.out.1
  try simp only [hkb]
  clear hkb
  have q0 := HO4.out.pl.cell 0
  have ql := HO4.out.pl.lt
  go_wp2
  go_loopw [32] (fun i wr => ∃ (j : Nat) (a : List LogRecord) (A : Option Addr) (n c : Nat) (us : List Value), i = .int .i64 (j : Int) ∧ j ≤ p.parts.length ∧ d.parts (p.parts.take j) = some a ∧ a.length ≤ 4000 * j ∧ OpB w wr [.slice A1 d.files.length c1, .slice A2 d.names.length c2, .slice A3 d.moves.length c3] bp b [.slice Ap p.parts.length cp, .int .i64 p.open_, .int .i64 p.first] p fq ∧ StB wr b k (.slice Ap p.parts.length cp) p.open_ p.first 0 false p.first A n c a us ∧ b < wr.heap.size) (fun i _ => p.parts.length - (intOf i).toNat)
  case atStart => exact ⟨0, [], none, 0, 0, [], rfl, Nat.zero_le _, rfl, Nat.zero_le _, HO4.out, HS4.out, HS4.out.box.lt⟩
  case round =>
    clear HO4 HS4 q0 ql
    obtain ⟨j, a, A, n, c, us, rfl, hj, hpa, hal, hob, hst, hbl⟩ := hrel
    obtain rfl := hst.len
    have HPA := hide hpa
    have HO := hide hob
    have HS := hide hst
    have HOA := hide (hob.ow)
    clear hpa hob hst
    have q0 := HO.out.pl.cell 0
    have ql := HO.out.pl.lt
    obtain ⟨Ax, cx, fx, ex, op, _, _, rfl⟩ := HOA.out.oLogPlan
    simp only [List.cons.injEq, Value.slice.injEq, true_and, and_true] at ex
    obtain ⟨rfl, rfl⟩ := ex
    obtain ⟨_, hcp, hcm⟩ := op.nlen
    unfold maxLen at hcm
    by_cases hlt : j < p.parts.length
    · obtain ⟨g, off, ws, fi, rfl, hgm, hfi', hwl, hcs, hov⟩ := op.elem LogPart.cells_len hlt
      obtain ⟨rfl, wa, wb, wc, wd, rfl⟩ := hov.oLogPart
      have c0 := hcs 0 _ rfl
      have c1' := hcs 1 _ rfl
      have c2' := hcs 2 _ rfl
      have c3' := hcs 3 _ rfl
      simp only [Nat.add_zero] at c0
      have hgl := cell_lt c0
      have hji : (j : Int) < (p.parts.length : Int) := by omega
      have HSN := hide (p.sane HOKP.out j hlt)
      have HQS := hide (fun l (h : d.part p.parts[j] = some l) => And.intro (parts_one HPA.out hlt h) (parts_bd HOKP.out hlt h))
      have HQN := hide (fun (h : d.part p.parts[j] = none) => stopen_lost HOK.out HNE.out HK0.out (parts_lost HPA.out hlt h))
      clear hcs hov wa wb wc wd op
      generalize p.parts[j] = x at *
      go_upto_region 8 with fail
      generalize hwF : wr.alloc (.cells #[.int .i64 x.num, .int .i64 x.first, .int .i64 x.next, .int .i64 x.size] 75) = wF
      have hF : Below wr.heap.size wr wF := by rw [← hwF]; exact (Below.refl _ _).alloc (Nat.le_refl _) _
      have RF : Row wF wr.heap.size 75 [.int .i64 x.num, .int .i64 x.first, .int .i64 x.next, .int .i64 x.size] := by rw [← hwF]; exact Row.new wr _ _
      have HOF := hide (HO.out.below hF)
      have HSF := hide (HS.out.below hF)
      have hbl' := Nat.lt_of_lt_of_le hbl hF.size
      clear hwF hF HO HS hbl c0 c1' c2' c3' hgl q0 ql
      have c0 := RF.cell 0
      have c1' := RF.cell 1
      have c2' := RF.cell 2
      have c3' := RF.cell 3
      have lc := RF.lt
      have d0 := HOF.out.box.cell 0
      have d1 := HOF.out.box.cell 1
      have d2 := HOF.out.box.cell 2
      have ld := HOF.out.box.lt
      clear RF
      cases hpt : d.part x with
      | none =>
        have HN := hide (HQN.out hpt)
        have HPX := hide (fun (W : World) (hb : Below w.heap.size w W) => (HPT.out x HSN.out W hb).mono (fun _ _ h => partRet_none hpt h))
        clear HQS HQN hpt HPT
        go_wp2_with fail
        refine (HPX.out _ HOF.out.fr).mono ?_
        rintro e w5 ⟨v, rfl, hb5⟩
        have hbz := hb5
        all_goals
          have HO5 := hide (HOF.out.below hbz)
          have HS5 := hide (HSF.out.below hbz)
          have hb5' := Nat.lt_of_lt_of_le hbl' hbz.size
          clear hbz hb5 d0 d1 d2 ld c0 c1' c2' c3' HPX HOF HSF hbl' lc
          have v0 := HO5.out.res.cell 0
          have v1 := HO5.out.res.cell 1
          have v2 := HO5.out.res.cell 2
          have v3 := HO5.out.res.cell 3
          have v4 := HO5.out.res.cell 4
          have v5 := HO5.out.res.cell 5
          have v6 := HO5.out.res.cell 6
          have v7 := HO5.out.res.cell 7
          have v8 := HO5.out.res.cell 8
          have y0 := HO5.out.res.frozen 0
          have y1 := HO5.out.res.frozen 1
          have y2 := HO5.out.res.frozen 2
          have y3 := HO5.out.res.frozen 3
          have y4 := HO5.out.res.frozen 4
          have y5 := HO5.out.res.frozen 5
          have y6 := HO5.out.res.frozen 6
          have y7 := HO5.out.res.frozen 7
          have y8 := HO5.out.res.frozen 8
          have yl := HO5.out.res.lt
          go_wp2
          refine bodyPost_ret (ret_row rfl _ _ (w.heap.size + 1) 33 [.int .i64 2, .int .i64 0, .slice none 0 0, .int .i64 0, .int .i64 0, .int .i64 0, .bool false, .int .i64 0, .slice none 0 0] (HO5.out.res.setAll [.int .i64 2, .int .i64 0, .slice none 0 0, .int .i64 0, .int .i64 0, .int .i64 0, .bool false, .int .i64 0, .slice none 0 0] rfl) _ rfl Tryz.underlying33 rfl (by kernel_rfl)) rfl ?_
          exact openRet_put HN.out (by decide) HO5.out
      | some l =>
        obtain ⟨hpn, hl4⟩ := HQS.out l hpt
        have HPN := hide hpn
        have HPX := hide (fun (W : World) (hb : Below w.heap.size w W) => (HPT.out x HSN.out W hb).mono (fun _ _ h => partRet_some hpt h))
        clear HQS HQN hpt hpn HPT
        go_wp2_with fail
        refine (HPX.out _ HOF.out.fr).mono ?_
        rintro e w5 ⟨Al, nl, cl, fl, rfl, hol, hnl, hb5⟩
        have hbz := hb5
        all_goals
          have HO5 := hide (HOF.out.below hbz)
          have HS5 := hide (HSF.out.below hbz)
          have hb5' := Nat.lt_of_lt_of_le hbl' hbz.size
          have HOL := hide hol
          clear hol hnl
          clear hbz hb5 d0 d1 d2 ld c0 c1' c2' c3' HPX HOF HSF hbl' lc
          obtain ⟨rfl, hnc, hnm⟩ := HOL.out.nlen
          obtain ⟨ur, hur, hsr⟩ := HOL.out.srcRecs
          have HUR := hide hur
          have HSR := hide hsr
          have z8 := HS5.out.box.cell 8
          have zl := HS5.out.box.lt
          have hbw : b + 1 ≤ w5.heap.size := hb5'
          clear hur hsr HOL
          go_wp2_with (first | (at_builtin; refine wpl_app rfl _ _ 31 rfl ia _ 24 Tryz.underlying31 HIa.out ha0 ha1 ha2 rfl (by decide) LogRecord.cells_len rfl HS5.out.own l HUR.out (by exact New.nil _ _) (fun g _ hg => by cases hg) _ _ _ rfl rfl HSR.out (by omega) (by decide) hbw ?_; intro A7 n7 c7 w7 hn7 hown7 hgb7; have HG7 := hide hgb7; have HN7 := hide hown7; have r7 := hgb7.row HS5.out.box (HS5.out.own.low (Nat.lt_succ_self _)); have z7 := r7.frozen 8; have q7 := r7.cell 8; have zl7 := r7.lt; clear hgb7 hown7 hn7))
          go_roundw
          case rel =>
            have HSN7 := HS5.out.app HG7.out HN7.out
            have HON7 := (HO5.out.keep HG7.out.grown (fun g e => Nat.le_of_succ_le (HS5.out.own.from e))).keep (grown_set w7 b 8 (.slice A7 n7 c7)) (fun g e => by injection e with e; omega)
            exact ⟨j + 1, a ++ l, A7, n7, c7, _, by go_num, by omega, HPN.out, by rw [List.length_append]; omega, HON7, HSN7, HSN7.box.lt⟩
          case measure => simp [intOf]; omega
    · obtain rfl : j = p.parts.length := by omega
      rw [List.take_length] at HPA
      have hop := HOKP.out.2.1
      have hfs := p.first_small HOKP.out
      have hal2 : a.length ≤ 160000 := by omega
      have HNO := hide (stopen_torn (d := d) HOK.out HNE.out HK0.out HPA.out)
      have HYES := hide (stopen_yes (d := d) HOK.out HNE.out HK0.out HPA.out)
      have HWF := hide HOKP.out
      obtain ⟨z, hz⟩ : ∃ z : Nat, p.open_ = (z : Int) := ⟨p.open_.toNat, by omega⟩
      have hdz := dec_size (z : Int) (by omega) (by omega)
      have hcc : ¬ (9223372036854775807 < 1 + (dec (z : Int)).size) := by omega
      rw [hz] at HNO HYES
      have HLX := hide (HLK.out (segName z) (by unfold segName; rw [ByteArray.size_append]; show 1 + (dec (z : Int)).size ≤ _; omega))
      have HDC := hide (fun (W : World) (hb : Below w.heap.size w W) => segmentName_any z (by omega) (by omega) W (HLY.out W hb))
      have hls := d.look_size (segName z)
      obtain ⟨⟨l, m⟩, hq⟩ : ∃ q, frFrom (d.lookT (segName z)) 0 = q := ⟨_, rfl⟩
      have HFR := hide (fun W => (implLogFrames_any (d.lookT (segName z)) W (by omega)).mono (fun _ _ h => framesRet_at hq h))
      have hbd := fr_bd (d.lookT (segName z))
      rw [hq] at HYES HNO hbd
      dsimp only at HYES HNO hbd
      have HLB := hide hbd.2.2
      obtain ⟨hll, hmz, -⟩ := hbd
      clear hq HLK HPA hlt hal
      generalize d.lookB (segName z) = there at *
      generalize d.lookT (segName z) = data at *
      have d0 := HO.out.box.cell 0
      have d1 := HO.out.box.cell 1
      have d2 := HO.out.box.cell 2
      have ld := HO.out.box.lt
      have q1 := HO.out.pl.cell 1
      simp only [List.getElem?_cons_succ, List.getElem?_cons_zero] at q1
      rw [hz] at q1
      clear hz
      go_wp2_with fail
      go_region_held3 (fun w' => w'.cell? ⟨w.heap.size, 0, none⟩ = some (.slice A1 d.files.length c1) ∧ w'.cell? ⟨w.heap.size, 1, none⟩ = some (.slice A2 d.names.length c2) ∧ w'.cell? ⟨w.heap.size, 2, none⟩ = some (.slice A3 d.moves.length c3) ∧ w'.cell? ⟨bp, 1, none⟩ = some (.int .i64 (z : Int)))
        (first | exact ⟨kcell2 d0 hbz ld, kcell2 d1 hbz ld, kcell2 d2 hbz ld, kcell2 q1 hbz ql⟩ | go_keep)
        (first
          | (go_at_call 92; refine (HLX.out _ (HO.out.fr.trans (hby.mono HO.out.fr.size))).mono ?_; rintro e w5 ⟨rfl, hb5⟩; have hbz : Below wr.heap.size wr w5 := hby.trans (hb5.mono hby.size))
          | (go_at_call 93; refine (HDC.out _ (below_drewN HO.out.fr _)).mono ?_; rintro e w4 ⟨rfl, hb4⟩; have hbz : Below wr.heap.size wr w4 := (below_drewN (Below.refl _ wr) _).trans hb4; have hby := hbz))
      all_goals
        have HO5 := hide (HO.out.below hbz)
        have HS5 := hide (HS.out.below hbz)
        clear hbz hby hb5 hb4 d0 d1 d2 ld q0 q1 ql HO HS HLX HDC hbl
        cases there with
        | false =>
          have HN := hide (HNO.out (fun h => Bool.noConfusion h.1))
          clear HYES HNO HFR
          have v0 := HO5.out.res.cell 0
          have v1 := HO5.out.res.cell 1
          have v2 := HO5.out.res.cell 2
          have v3 := HO5.out.res.cell 3
          have v4 := HO5.out.res.cell 4
          have v5 := HO5.out.res.cell 5
          have v6 := HO5.out.res.cell 6
          have v7 := HO5.out.res.cell 7
          have v8 := HO5.out.res.cell 8
          have y0 := HO5.out.res.frozen 0
          have y1 := HO5.out.res.frozen 1
          have y2 := HO5.out.res.frozen 2
          have y3 := HO5.out.res.frozen 3
          have y4 := HO5.out.res.frozen 4
          have y5 := HO5.out.res.frozen 5
          have y6 := HO5.out.res.frozen 6
          have y7 := HO5.out.res.frozen 7
          have y8 := HO5.out.res.frozen 8
          have yl := HO5.out.res.lt
          go_wp2
          refine bodyPost_ret (ret_row rfl _ _ (w.heap.size + 1) 33 [.int .i64 2, .int .i64 0, .slice none 0 0, .int .i64 0, .int .i64 0, .int .i64 0, .bool false, .int .i64 0, .slice none 0 0] (HO5.out.res.setAll [.int .i64 2, .int .i64 0, .slice none 0 0, .int .i64 0, .int .i64 0, .int .i64 0, .bool false, .int .i64 0, .slice none 0 0] rfl) _ rfl Tryz.underlying33 rfl (by kernel_rfl)) rfl ?_
          exact openRet_put HN.out (by decide) HO5.out
        | true =>
          go_wp2_with fail
          refine (HFR.out _).mono ?_
          rintro e w6 ⟨v, fr, rfl, ho, hn, hb6⟩
          obtain ⟨Al, cl, rfl, hcl, hml⟩ := ho.slice
          unfold maxLen at hml
          have HOL := hide ho
          have HNL := hide hn
          have HO6 := hide (HO5.out.below hb6)
          have HS6 := hide (HS5.out.below hb6)
          have hbl5 := HS5.out.box.lt
          clear ho hn hb6 HO5 HS5 HFR
          have q2 := HO6.out.pl.cell 2
          have ql := HO6.out.pl.lt
          go_wp2
          go_loopw [69] (fun i wr => ∃ (j : Nat), i = .int .i64 (j : Int) ∧ j ≤ l.length ∧ (∀ i (h : i < l.length), i < j → l[i].pos = p.first + i) ∧ OpB w wr [.slice A1 d.files.length c1, .slice A2 d.names.length c2, .slice A3 d.moves.length c3] bp b [.slice Ap p.parts.length cp, .int .i64 p.open_, .int .i64 p.first] p fq ∧ StB wr b k (.slice Ap p.parts.length cp) p.open_ p.first 0 false (p.first + (j : Int)) A a.length c a us ∧ Ow wr (.s 2 l.length (l.flatMap LogRecord.cells)) (.slice Al l.length cl) fr ∧ Lt fr wr.heap.size) (fun i _ => l.length - (intOf i).toNat)
          case atStart => exact ⟨0, rfl, Nat.zero_le _, (fun i h hi => absurd hi (Nat.not_lt_zero _)), HO6.out, by simpa using HS6.out, HOL.out, HNL.out.lt⟩
          case round =>
            clear q2 ql
            obtain ⟨j, rfl, hj, hri, hob, hst, hol, hlf⟩ := hrel
            have HRI := hide hri
            have HOQ := hide hob
            have HSQ := hide hst
            have HOLQ := hide hol
            have HFB := hide (show b ∉ fr from HNL.out.out hbl5)
            clear hri hob hst hol
            by_cases hlt : j < l.length
            · obtain ⟨g, off, ws, fi, rfl, hgm, hfi', hwl, hcs, hov⟩ := HOLQ.out.elem LogRecord.cells_len hlt
              obtain ⟨rfl, wr0, hs1, rfl⟩ := hov.oLogRecord
              have c0 := hcs 0 _ rfl
              have c1' := hcs 1 _ rfl
              simp only [Nat.add_zero] at c0
              have hgl := cell_lt c0
              have hji : (j : Int) < (l.length : Int) := by omega
              have hwj : IntKind.i64.wrap (p.first + (j : Int)) = p.first + (j : Int) := wrapI _ (by omega) (by omega)
              have HRN := hide (fun (h : l[j].pos = p.first + (j : Int)) => show ∀ i (h : i < l.length), i < j + 1 → l[i].pos = p.first + i from runs_step HRI.out hlt h)
              have HNR := hide (fun (h : ¬ (l[j].pos = p.first + (j : Int))) => HNO.out (fun k => h (k.2 j hlt)))
              clear hcs hov wr0
              generalize l[j] = x at *
              go_upto_region 20 with fail
              generalize hwF : wr.alloc (.cells #[.int .i64 x.pos, .string x.data] 63) = wF
              have hF : Below wr.heap.size wr wF := by rw [← hwF]; exact (Below.refl _ _).alloc (Nat.le_refl _) _
              have RF : Row wF wr.heap.size 63 [.int .i64 x.pos, .string x.data] := by rw [← hwF]; exact Row.new wr _ _
              have HOF := hide (HOQ.out.below hF)
              have HSF := hide (HSQ.out.below hF)
              have HOLF := hide (HOLQ.out.below hF hlf)
              have hlf' := hlf.mono hF.size
              clear hwF hF HOQ HSQ HOLQ c0 c1' hgl hlf
              have c0 := RF.cell 0
              have lc := RF.lt
              have q7 := HSF.out.box.cell 7
              have f7 := HSF.out.box.frozen 7
              have lq := HSF.out.box.lt
              clear RF
              by_cases h1 : x.pos = p.first + (j : Int)
              · have HR2 := hide (HRN.out h1)
                have h1c := h1
                have e1 : (x.pos != p.first + (j : Int)) = false := by simpa using h1
                have e2 : (x.pos == p.first + (j : Int)) = true := by simpa using h1
                have hwk : IntKind.i64.wrap (p.first + (j : Int) + 1) = p.first + ((j + 1 : Nat) : Int) := by rw [wrapI _ (by omega) (by omega)]; omega
                have hwk2 : IntKind.i64.wrap (p.first + (j : Int) + 1) = p.first + (j : Int) + 1 := wrapI _ (by omega) (by omega)
                clear HRN HNR h1 hwk
                go_wp2
                go_roundw
                case rel =>
                  have HSX : StB (wF.setCell ⟨b, 7, none⟩ (.int .i64 (p.first + (j : Int) + 1))) b k (.slice Ap p.parts.length cp) p.open_ p.first 0 false (p.first + ((j + 1 : Nat) : Int)) A a.length c a us := by
                    have h := HSF.out.put7 (p.first + (j : Int) + 1)
                    rw [show p.first + ((j + 1 : Nat) : Int) = p.first + (j : Int) + 1 by omega]
                    exact h
                  have hgs := grown_set wF b 7 (.int .i64 (p.first + (j : Int) + 1))
                  exact ⟨j + 1, by go_num, by omega, HR2.out, HOF.out.keep hgs (fun g e => by injection e with e; omega), HSX, HOLF.out.grown hgs hlf' HFB.out, hlf'.mono hgs.size⟩
                case measure => simp [intOf]; omega
              · have e1 : (x.pos != p.first + (j : Int)) = true := by simpa using h1
                have e2 : (x.pos == p.first + (j : Int)) = false := by simpa using h1
                have HN := hide (HNR.out h1)
                clear HRN HNR h1 HYES HNO
                have v0 := HOF.out.res.cell 0
                have v1 := HOF.out.res.cell 1
                have v2 := HOF.out.res.cell 2
                have v3 := HOF.out.res.cell 3
                have v4 := HOF.out.res.cell 4
                have v5 := HOF.out.res.cell 5
                have v6 := HOF.out.res.cell 6
                have v7 := HOF.out.res.cell 7
                have v8 := HOF.out.res.cell 8
                have y0 := HOF.out.res.frozen 0
                have y1 := HOF.out.res.frozen 1
                have y2 := HOF.out.res.frozen 2
                have y3 := HOF.out.res.frozen 3
                have y4 := HOF.out.res.frozen 4
                have y5 := HOF.out.res.frozen 5
                have y6 := HOF.out.res.frozen 6
                have y7 := HOF.out.res.frozen 7
                have y8 := HOF.out.res.frozen 8
                have yl := HOF.out.res.lt
                go_wp2
                refine bodyPost_ret (ret_row rfl _ _ (w.heap.size + 1) 33 [.int .i64 2, .int .i64 0, .slice none 0 0, .int .i64 0, .int .i64 0, .int .i64 0, .bool false, .int .i64 0, .slice none 0 0] (HOF.out.res.setAll [.int .i64 2, .int .i64 0, .slice none 0 0, .int .i64 0, .int .i64 0, .int .i64 0, .bool false, .int .i64 0, .slice none 0 0] rfl) _ rfl Tryz.underlying33 rfl (by kernel_rfl)) rfl ?_
                exact openRet_put HN.out (by decide) HOF.out
            · obtain rfl : j = l.length := by omega
              have HY := hide (HYES.out (by first | exact ⟨rfl, fun i hi => HRI.out i hi hi⟩ | exact ⟨trivial, fun i hi => HRI.out i hi hi⟩))
              obtain ⟨ur, hur, hsr⟩ := HOLQ.out.srcRecs
              have HUR := hide hur
              have HSR := hide hsr
              have z8 := HSQ.out.box.cell 8
              have zl := HSQ.out.box.lt
              have hbw : b + 1 ≤ wr.heap.size := zl
              have hll2 : l.length ≤ 4000 := by omega
              have hlt1 := HOQ.out.lt
              have hlt2 := HOQ.out.hb
              have hn1 : b ≠ w.heap.size + 1 := by omega
              have hn2 : w.heap.size + 1 ≠ b := by omega
              have hn3 : b ≠ bp := by omega
              have hn4 : bp ≠ b := by omega
              have HT := hide (show tb (m < data.size) = decide (m < data.size) from tb_decide Iff.rfl)
              have wk : Hid ((Lit.int .i64 (k : Int)).wf = true) := hide (WalkArith.wf_i64 (by omega))
              have wm : Hid ((Lit.int .i64 (m : Int)).wf = true) := hide (WalkArith.wf_i64 (by omega))
              have wn : Hid ((Lit.int .i64 (p.first + (l.length : Int))).wf = true) := hide (WalkArith.wf_i64 (by omega))
              clear hur hsr HYES HNO hlf
              go_wp2_with (first | (at_builtin; refine wpl_app rfl _ _ 31 rfl ia _ 24 Tryz.underlying31 HIa.out ha0 ha1 ha2 rfl (by decide) LogRecord.cells_len rfl HSQ.out.own l HUR.out (by exact New.nil _ _) (fun g _ hg => by cases hg) _ _ _ rfl rfl HSR.out (by omega) (by decide) hbw ?_; intro A7 n7 c7 w7 hn7 hown7 hgb7; have HG7 := hide hgb7; have HN7 := hide hown7; have r7 := hgb7.row HSQ.out.box (HSQ.out.own.low (Nat.lt_succ_self _)); have HO7 := hide (HOQ.out.keep hgb7.grown (fun g e => Nat.le_of_succ_le (HSQ.out.own.from e))); have g0 := r7.cell 0; have x0 := r7.frozen 0; have g1 := r7.cell 1; have x1 := r7.frozen 1; have g2 := r7.cell 2; have x2 := r7.frozen 2; have g3 := r7.cell 3; have x3 := r7.frozen 3; have g4 := r7.cell 4; have x4 := r7.frozen 4; have g5 := r7.cell 5; have x5 := r7.frozen 5; have g6 := r7.cell 6; have x6 := r7.frozen 6; have g7 := r7.cell 7; have x7 := r7.frozen 7; have g8 := r7.cell 8; have x8 := r7.frozen 8; have xl := r7.lt; have t2 := HO7.out.pl.cell 2; have tl := HO7.out.pl.lt; have v0 := HO7.out.res.cell 0; have y0 := HO7.out.res.frozen 0; have v1 := HO7.out.res.cell 1; have y1 := HO7.out.res.frozen 1; have v2 := HO7.out.res.cell 2; have y2 := HO7.out.res.frozen 2; have v3 := HO7.out.res.cell 3; have y3 := HO7.out.res.frozen 3; have v4 := HO7.out.res.cell 4; have y4 := HO7.out.res.frozen 4; have v5 := HO7.out.res.cell 5; have y5 := HO7.out.res.frozen 5; have v6 := HO7.out.res.cell 6; have y6 := HO7.out.res.frozen 6; have v7 := HO7.out.res.cell 7; have y7 := HO7.out.res.frozen 7; have v8 := HO7.out.res.cell 8; have y8 := HO7.out.res.frozen 8; have yl := HO7.out.res.lt; clear hgb7 hown7 r7 hn7))
              have hkb : ∀ g, some b = some g → b ≤ g := fun g e => by injection e with e; omega
              have HSZ := ((HSQ.out.app HG7.out HN7.out).put5 (m : Int)).put6 (decide (m < data.size))
              have HOZ := (((HO7.out).keep (grown_set _ b 8 (.slice A7 n7 c7)) hkb).keep (grown_set _ b 5 (.int .i64 (m : Int))) hkb).keep (grown_set _ b 6 (.bool (decide (m < data.size)))) hkb
              refine bodyPost_ret (ret_row rfl _ _ (w.heap.size + 1) 33 [.int .i64 0, .int .i64 (k : Int), .slice Ap p.parts.length cp, .int .i64 p.open_, .int .i64 p.first, .int .i64 (m : Int), .bool (decide (m < data.size)), .int .i64 (p.first + (l.length : Int)), .slice A7 n7 c7] (HOZ.res.setAll [.int .i64 0, .int .i64 (k : Int), .slice Ap p.parts.length cp, .int .i64 p.open_, .int .i64 p.first, .int .i64 (m : Int), .bool (decide (m < data.size)), .int .i64 (p.first + (l.length : Int)), .slice A7 n7 c7] rfl) _ rfl Tryz.underlying33 rfl (by kernel_rfl)) rfl ?_
              exact openRet_yes HOZ HSZ (by rw [HY.out, HT.out]) wk.out wm.out wn.out
end Go.Proofs.YtddjgbhkfdpffaaGreatDoor
