/-
  The records of a closed segment: the program. Written by hand. What a disk's log says: the program. Printed by gen/openlog.py. LogOpen of the program; how many marks its result takes. Printed by gen/openlog.py. FnExactLogOpen returns true for every input: the program answers as the reference. No condition.
-/
import Derived.Deep.RegionHeld3
import Derived.BigQuiet
import Derived.Test.YtddjgbhkfdpffaaGreatDoorOLog
import Derived.Test.YtddjgbhkfdpffaaGreatDoorODiskCnt
import Derived.Test.YtddjgbhkfdpffaaGreatDoorOOpenS
import Derived.Test.YtddjgbhkfdpffaaGreatDoorOOpenT
import Derived.Test.YtddjgbhkfdpffaaGreatDoorOPlRCnt
import Derived.Test.YtddjgbhkfdpffaaGreatDoorOOpenI
import Derived.Test.YtddjgbhkfdpffaaGreatDoorOFramesI
import Derived.Test.YtddjgbhkfdpffaaGreatDoorONLogState
import Derived.Test.YtddjgbhkfdpffaaGreatDoorOOpenTS
import Derived.Test.YtddjgbhkfdpffaaGreatDoorONDisk
import Derived.Test.YtddjgbhkfdpffaaGreatDoorOHDisk
set_option linter.unusedVariables false
set_option linter.unusedSimpArgs false
namespace Go.Proofs.YtddjgbhkfdpffaaGreatDoor
open Go.ChangeShapes Go.WideShapes Go.ChangeAt Go.RowKit

set_option maxRecDepth 100000 in
set_option maxHeartbeats 2000000 in
theorem partRecords_any (d : Disk) (us0 : List Value) (fp : List Nat) (p : LogPart) (hp : p.sane) (w : World) (h : OwC w d.cells us0 fp) (hf : Lt fp w.heap.size) (hbk : d.bulk ≤ 1048576) (hok : tb d.ok = true) (hl : Lay w) (hw7 : 7 < w.heap.size) :
    Calls Tryz.prog 91 #[.agg us0.toArray, .agg #[.int .i64 p.num, .int .i64 p.first, .int .i64 p.next, .int .i64 p.size]] w (PartRet d p w) := by
  have HOC := hide h
  obtain ⟨A1, c1, A2, c2, A3, c3, f1, f2, f3, rfl, o1, o2, o3, rfl⟩ := h.oDisk
  clear h o1 o2 o3
  obtain ⟨pn, y1, y2, ps⟩ := p
  obtain ⟨⟨hn1, hn2⟩, hfi, hne, hs1, hs2⟩ := hp
  dsimp only at hn1 hn2 hfi hne hs1 hs2
  obtain ⟨n, rfl⟩ : ∃ n : Nat, pn = (n : Int) := ⟨pn.toNat, by omega⟩
  obtain ⟨z, rfl⟩ : ∃ z : Nat, ps = (z : Int) := ⟨ps.toNat, by omega⟩
  have hdz := dec_size (n : Int) (by omega) (by omega)
  have hcc : ¬ (9223372036854775807 < 1 + (dec (n : Int)).size) := by omega
  have hsx : (segName n).size ≤ 1048576 := by unfold segName; rw [ByteArray.size_append]; show 1 + (dec (n : Int)).size ≤ _; omega
  have HLK := hide (fun (W : World) (hb : Below w.heap.size w W) => implLook_any d _ _ (segName n) W (HOC.out.below hb hf) (hf.up hb) hbk hsx hok)
  have HDC := hide (fun (W : World) (hb : Below w.heap.size w W) => segmentName_any n (by omega) (by omega) W (hl.low hb hw7))
  have HYES := hide (Disk.part_yes (d := d) (p := ⟨n, y1, y2, z⟩))
  have HNO := hide (Disk.part_no (d := d) (p := ⟨n, y1, y2, z⟩))
  have hls := d.look_size (segName n)
  dsimp only [Int.toNat_natCast] at HYES HNO
  obtain ⟨⟨l, m⟩, hq⟩ : ∃ q, frFrom ((d.lookT (segName n)).extract 0 z) 0 = q := ⟨_, rfl⟩
  have HFR := hide (fun W => (implLogFrames_any ((d.lookT (segName n)).extract 0 z) W (by rw [ByteArray.size_extract]; omega)).mono (fun _ _ h => framesRet_at hq h))
  have hbd := fr_bd ((d.lookT (segName n)).extract 0 z)
  have hez : ((d.lookT (segName n)).extract 0 z).size ≤ z := by rw [ByteArray.size_extract]; omega
  rw [hq] at HYES HNO hbd
  dsimp only at HYES HNO hbd
  have HLB := hide hbd.2.2
  obtain ⟨hll, hmz, -⟩ := hbd
  have hLL : l.length ≤ 4000 := by omega
  clear hq
  generalize d.lookB (segName n) = there at *
  generalize d.lookT (segName n) = data at *
  change Calls Tryz.prog 91 #[.agg #[.slice A1 d.files.length c1, .slice A2 d.names.length c2, .slice A3 d.moves.length c3], .agg #[.int .i64 (n : Int), .int .i64 y1, .int .i64 y2, .int .i64 (z : Int)]] w (PartRet d ⟨n, y1, y2, z⟩ w)
  clear hok hl hw7
  go_enter Tryz.func91, Tryz.ntmps91
  go_upto_region 1 with fail
  generalize hwA : w.alloc (.cells #[.slice A1 d.files.length c1, .slice A2 d.names.length c2, .slice A3 d.moves.length c3] 38) = wA
  have hA : Below w.heap.size w wA := by rw [← hwA]; exact (Below.refl _ _).alloc (Nat.le_refl _) _
  have hsA : wA.heap.size = w.heap.size + 1 := by rw [← hwA]; simp
  have RA : Row wA w.heap.size 38 [.slice A1 d.files.length c1, .slice A2 d.names.length c2, .slice A3 d.moves.length c3] := by rw [← hwA]; exact Row.new w _ _
  try simp only [hsA]
  clear hwA
  generalize hwB : wA.alloc (.cells #[.int .i64 (n : Int), .int .i64 y1, .int .i64 y2, .int .i64 (z : Int)] 75) = wB
  have hAB : Below wA.heap.size wA wB := by rw [← hwB]; exact (Below.refl _ _).alloc (Nat.le_refl _) _
  have RP := hide (show Row wB (w.heap.size + 1) 75 [.int .i64 (n : Int), .int .i64 y1, .int .i64 y2, .int .i64 (z : Int)] from by rw [← hwB, ← hsA]; exact Row.new wA _ _)
  have HRD := hide (RA.below hAB RA.lt)
  have HB1 := hide (hA.trans (hAB.mono hA.size))
  clear hwB hAB hA hsA RA
  have d0 := HRD.out.cell 0
  have d1 := HRD.out.cell 1
  have d2 := HRD.out.cell 2
  have ld := HRD.out.lt
  have p0 := RP.out.cell 0
  have p1 := RP.out.cell 1
  have p2 := RP.out.cell 2
  have p3 := RP.out.cell 3
  have lp := RP.out.lt
  go_region_held3 (fun w' => w'.cell? ⟨w.heap.size, 0, none⟩ = some (.slice A1 d.files.length c1) ∧ w'.cell? ⟨w.heap.size, 1, none⟩ = some (.slice A2 d.names.length c2) ∧ w'.cell? ⟨w.heap.size, 2, none⟩ = some (.slice A3 d.moves.length c3) ∧ w'.cell? ⟨w.heap.size + 1, 0, none⟩ = some (.int .i64 (n : Int)))
    (first | exact ⟨kcell2 d0 hbz ld, kcell2 d1 hbz ld, kcell2 d2 hbz ld, kcell2 p0 hbz lp⟩ | go_keep)
    (first
      | (go_at_call 92; refine (HLK.out _ (HB1.out.trans (hby.mono HB1.out.size))).mono ?_; rintro e w5 ⟨rfl, hb5⟩; have hbz : Below wB.heap.size wB w5 := hby.trans (hb5.mono hby.size))
      | (go_at_call 93; refine (HDC.out _ (below_drewN HB1.out _)).mono ?_; rintro e w4 ⟨rfl, hb4⟩; have hbz : Below wB.heap.size wB w4 := (below_drewN (Below.refl _ wB) _).trans hb4; have hby := hbz))
  all_goals
    have HB2 := hide (HB1.out.trans (hbz.mono HB1.out.size))
    have HP2 := hide (RP.out.below hbz RP.out.lt)
    clear hbz hby hb5 hb4 HB1 RP HRD d0 d1 d2 ld p0 p1 p2 p3 lp HLK HDC
    have p1 := HP2.out.cell 1
    have p3 := HP2.out.cell 3
    have lp := HP2.out.lt
    cases there with
    | false =>
      have HN := hide (HNO.out (fun h => Bool.noConfusion h.1))
      clear HYES HNO HFR
      go_wp2
      go_ret2
      exact partRet_no HN.out HB2.out
    | true =>
      by_cases hzl : z ≤ data.size
      rotate_left
      · have hzi : (data.size : Int) < (z : Int) := by omega
        have HN := hide (HNO.out (fun h => hzl (by have := h.2.1; omega)))
        clear HYES HNO HFR
        go_wp2
        go_ret2
        exact partRet_no HN.out HB2.out
      have hzi : ¬ ((data.size : Int) < (z : Int)) := by omega
      have hzj : (z : Int) ≤ (data.size : Int) := by omega
      go_wp2_with fail
      refine (HFR.out _).mono ?_
      rintro e w6 ⟨v, fq, rfl, ho, hn, hb6⟩
      obtain ⟨Ar, cr, rfl, hcr, hmr⟩ := ho.slice
      unfold maxLen at hmr
      have HO := hide ho
      have HN6 := hide (hn.mono HB2.out.size)
      have HB6 := hide (HB2.out.trans (hb6.mono HB2.out.size))
      have HP6 := hide (HP2.out.below hb6 HP2.out.lt)
      clear ho hn hb6 HB2 HP2 p1 p3 lp HFR
      have p1 := HP6.out.cell 1
      have p2 := HP6.out.cell 2
      have p3 := HP6.out.cell 3
      have lp := HP6.out.lt
      have hyb2 : IntKind.i64.wrap (y2 - 1) = y2 - 1 := wrapI _ (by omega) (by omega)
      go_wp2
      go_loopw [10, 42] (fun nx i wr => ∃ (j : Nat), nx = .int .i64 (leastAt y1 l j) ∧ i = .int .i64 (j : Int) ∧ j ≤ l.length ∧ (∀ i (h : i < l.length), i < j → leastAt y1 l i ≤ l[i].pos ∧ l[i].pos < y2) ∧ Below w6.heap.size w6 wr) (fun _ i _ => l.length - (intOf i).toNat)
      case atStart => exact ⟨0, rfl, rfl, Nat.zero_le _, (fun i h hi => absurd hi (Nat.not_lt_zero _)), Below.refl _ _⟩
      case round =>
        obtain ⟨j, rfl, rfl, hj, hri, hbr⟩ := hrel
        have HRI := hide hri
        have HBR := hide hbr
        have HPR := hide (HP6.out.below hbr HP6.out.lt)
        have HOR := hide (HO.out.below hbr HN6.out.lt)
        clear hri hbr p1 p2 p3 lp
        by_cases hlt : j < l.length
        · obtain ⟨g, off, ws, fi, rfl, hgm, hfi', hwl, hcs, hov⟩ := HOR.out.elem LogRecord.cells_len hlt
          obtain ⟨rfl, wr0, hs1, rfl⟩ := hov.oLogRecord
          have c0 := hcs 0 _ rfl
          have c1 := hcs 1 _ rfl
          simp only [Nat.add_zero] at c0
          have hgl := cell_lt c0
          have hji : (j : Int) < (l.length : Int) := by omega
          have hxb := HLB.out l[j] (List.getElem_mem _)
          have hyb := leastAt_bd hfi HLB.out j hj
          have HST := hide (rises_step HRI.out hlt)
          have HLS := hide (leastAt_succ y1 l j hlt)
          have HNR := hide (fun (h : ¬ (leastAt y1 l j ≤ l[j].pos ∧ l[j].pos < y2)) => HNO.out (fun k => h (k.2.2.1 j hlt)))
          clear hcs hov wr0
          generalize leastAt y1 l j = y at *
          generalize l[j] = x at *
          go_upto_region 9 with fail
          generalize hwD : wr.alloc (.cells #[.int .i64 x.pos, .string x.data] 63) = wD
          have hD : Below wr.heap.size wr wD := by rw [← hwD]; exact (Below.refl _ _).alloc (Nat.le_refl _) _
          have RD : Row wD wr.heap.size 63 [.int .i64 x.pos, .string x.data] := by rw [← hwD]; exact Row.new wr _ _
          have HPD := hide (HPR.out.below hD HPR.out.lt)
          have HBD := hide (HBR.out.trans (hD.mono HBR.out.size))
          clear hwD hD HPR HOR HBR c0 c1 hgl
          have c0 := RD.cell 0
          have lc := RD.lt
          have p2 := HPD.out.cell 2
          have lp := HPD.out.lt
          clear RD
          go_wp2_with fail
          refine (inRange_any _ _ _ _).mono ?_
          rintro e w3 ⟨rfl, rfl⟩
          by_cases hr : y ≤ x.pos ∧ x.pos ≤ y2 - 1
          · have HS2 := hide (HST.out hr.1 (by have := hr.2; omega))
            have HT := hide (tb_true hr)
            clear hr HST HNR
            rw [HT.out]
            go_wp2
            go_roundw
            case rel => exact ⟨j + 1, by rw [HLS.out] <;> go_num, by go_num, by omega, HS2.out, HBD.out⟩
            case measure => simp [intOf]; omega
          · have HN := hide (HNR.out (fun h => hr ⟨h.1, by have := h.2; omega⟩))
            have HT := hide (tb_false hr)
            clear hr HST HNR HYES HNO
            rw [HT.out]
            go_wp2
            go_ret2
            exact partRet_no HN.out (HB6.out.trans (HBD.out.mono HB6.out.size))
        · obtain rfl : j = l.length := by omega
          have HBW := hide (HB6.out.trans (HBR.out.mono HB6.out.size))
          have HNW := hide (HN6.out.below HBR.out HN6.out.lt)
          have p3 := HPR.out.cell 3
          have lp := HPR.out.lt
          by_cases hme : m = z
          · have HY := hide (HYES.out (by first | exact ⟨rfl, by omega, fun i hi => HRI.out i hi hi, by omega⟩ | exact ⟨trivial, by omega, fun i hi => HRI.out i hi hi, by omega⟩))
            subst hme
            clear HYES HNO
            go_wp2_with fail
            go_quiet (fail)
            go_wp2
            go_ret2
            exact partRet_yes HY.out (HOR.out.drewN _) (HNW.out.drewN _) (below_drewN HBW.out _)
          · have HN := hide (HNO.out (fun h => hme (by have := h.2.2.2; omega)))
            have hmi : ((m : Int) == (z : Int)) = false := by simp; omega
            have hmj : ¬ ((m : Int) = (z : Int)) := by omega
            clear HYES HNO
            go_wp2_with fail
            go_quiet (fail)
            go_wp2
            go_ret2
            exact partRet_no HN.out (below_drewN HBW.out _)
end Go.Proofs.YtddjgbhkfdpffaaGreatDoor
set_option linter.unusedVariables false
set_option linter.unusedSimpArgs false
namespace Go.Proofs.YtddjgbhkfdpffaaGreatDoor
open Go.ChangeShapes Go.WideShapes Go.ChangeAt Go.RowKit

set_option maxRecDepth 100000 in
set_option maxHeartbeats 4000000 in
theorem openLog_any (d : Disk) (us0 : List Value) (fp : List Nat) (w : World) (h : OwC w d.cells us0 fp) (hf : Lt fp w.heap.size) (hbk : d.bulk ≤ 1048576) (hok : tb d.ok = true) (hl : Lay w) (hw7 : 7 < w.heap.size) :
    Calls Tryz.prog 40 #[.agg us0.toArray] w (OpenRet d w) := by
  have HOC := hide h
  obtain ⟨A1, c1, A2, c2, A3, c3, f1, f2, f3, rfl, o1, o2, o3, rfl⟩ := h.oDisk
  clear h o1 o2 o3
  have HPL := hide (fun (W : World) (hb : Below w.heap.size w W) => newestPlan_any d _ _ W (HOC.out.below hb hf) (hf.up hb) hbk hok (hl.low hb hw7) (Nat.lt_of_lt_of_le hw7 hb.size))
  have HPT := hide (fun (p : LogPart) (hp : p.sane) (W : World) (hb : Below w.heap.size w W) => partRecords_any d _ _ p hp W (HOC.out.below hb hf) (hf.up hb) hbk hok (hl.low hb hw7) (Nat.lt_of_lt_of_le hw7 hb.size))
  have HLK := hide (fun (x : ByteArray) (hx : x.size ≤ 1048576) (W : World) (hb : Below w.heap.size w W) => implLook_any d _ _ x W (HOC.out.below hb hf) (hf.up hb) hbk hx hok)
  obtain ⟨ia, hia, ha0, ha1, ha2⟩ := info_parts recInfo
  have HIa := hide hia
  have HLY := hide (fun (W : World) (hb : Below w.heap.size w W) => hl.low hb hw7)
  have HOK := hide hok
  clear hok hl hw7
  clear hia
  go_enter Tryz.func40, Tryz.ntmps40
  go_upto_region 1 with fail
  generalize hwA : w.alloc (.cells #[.slice A1 d.files.length c1, .slice A2 d.names.length c2, .slice A3 d.moves.length c3] 38) = wA
  have hA : Below w.heap.size w wA := by rw [← hwA]; exact (Below.refl _ _).alloc (Nat.le_refl _) _
  have hsA : wA.heap.size = w.heap.size + 1 := by rw [← hwA]; simp
  have RA : Row wA w.heap.size 38 [.slice A1 d.files.length c1, .slice A2 d.names.length c2, .slice A3 d.moves.length c3] := by rw [← hwA]; exact Row.new w _ _
  try simp only [hsA]
  clear hwA
  generalize hw2 : wA.alloc (.cells #[.int .i64 0, .int .i64 0, .slice none 0 0, .int .i64 0, .int .i64 0, .int .i64 0, .bool false, .int .i64 0, .slice none 0 0] 33) = w2
  have hAB : Below wA.heap.size wA w2 := by rw [← hw2]; exact (Below.refl _ _).alloc (Nat.le_refl _) _
  have hs2 : w.heap.size + 2 ≤ w2.heap.size := by rw [← hw2, World.size_alloc, hsA]; exact Nat.le_refl _
  have HZ2 := hide (show Row w2 (w.heap.size + 1) 33 [.int .i64 0, .int .i64 0, .slice none 0 0, .int .i64 0, .int .i64 0, .int .i64 0, .bool false, .int .i64 0, .slice none 0 0] from by rw [← hw2, ← hsA]; exact Row.new wA _ _)
  have HR2 := hide (RA.below hAB RA.lt)
  have HB2 := hide (hA.trans (hAB.mono hA.size))
  clear hw2 hAB hA hsA RA
  have d0 := HR2.out.cell 0
  have d1 := HR2.out.cell 1
  have d2 := HR2.out.cell 2
  have ld := HR2.out.lt
  go_wp2_with fail
  refine (HPL.out w2 HB2.out).mono ?_
  rintro e w3 ⟨us, fq, rfl, ho, hn, hb3⟩
  have HNE := hide (show (d.newest.1, d.newest.2) = d.newest from rfl)
  have HPK := hide (newest_ok d)
  have hk9 : d.newest.2 ≤ 999999 := newest_le d
  generalize d.newest.2 = k at *
  generalize d.newest.1 = p at *
  obtain ⟨Ap, cp, f4, rfl, op, wp1, wp2, rfl⟩ := ho.oLogPlan
  have HOW := hide ho
  have HNW := hide (hn.mono hs2)
  have HB3 := hide (HB2.out.trans (hb3.mono HB2.out.size))
  have HR3 := hide (HR2.out.below hb3 ld)
  have HZ3 := hide (HZ2.out.below hb3 HZ2.out.lt)
  have hs3 : w.heap.size + 2 ≤ w3.heap.size := Nat.le_trans hs2 hb3.size
  clear hb3 hs2 d0 d1 d2 ld HPL HB2 HR2 HZ2 ho hn op wp1 wp2
  go_upto_region 2 with fail
  generalize hwC : w3.alloc (.cells #[.slice Ap p.parts.length cp, .int .i64 p.open_, .int .i64 p.first] 30) = wC
  have hC : Below w3.heap.size w3 wC := by rw [← hwC]; exact (Below.refl _ _).alloc (Nat.le_refl _) _
  have hsC : wC.heap.size = w3.heap.size + 1 := by rw [← hwC]; simp
  have RC : Row wC w3.heap.size 30 [.slice Ap p.parts.length cp, .int .i64 p.open_, .int .i64 p.first] := by rw [← hwC]; exact Row.new w3 _ _
  have HO3 := hide (show OpB w wC [.slice A1 d.files.length c1, .slice A2 d.names.length c2, .slice A3 d.moves.length c3] w3.heap.size wC.heap.size [.slice Ap p.parts.length cp, .int .i64 p.open_, .int .i64 p.first] p fq from ⟨HR3.out.below hC HR3.out.lt, HZ3.out.below hC HZ3.out.lt, RC, HOW.out.below hC HNW.out.lt, HNW.out.below hC HNW.out.lt, by omega, by omega, HNW.out.lt.mono (by omega), HB3.out.trans (hC.mono HB3.out.size)⟩)
  clear hwC hC RC HR3 HZ3 HOW HNW HB3 hsC
  by_cases hk0 : k = 0
  · subst hk0
    have HN := hide (stopen_none HOK.out HNE.out)
    have v0 := HO3.out.res.cell 0
    have v1 := HO3.out.res.cell 1
    have v2 := HO3.out.res.cell 2
    have v3 := HO3.out.res.cell 3
    have v4 := HO3.out.res.cell 4
    have v5 := HO3.out.res.cell 5
    have v6 := HO3.out.res.cell 6
    have v7 := HO3.out.res.cell 7
    have v8 := HO3.out.res.cell 8
    have y0 := HO3.out.res.frozen 0
    have y1 := HO3.out.res.frozen 1
    have y2 := HO3.out.res.frozen 2
    have y3 := HO3.out.res.frozen 3
    have y4 := HO3.out.res.frozen 4
    have y5 := HO3.out.res.frozen 5
    have y6 := HO3.out.res.frozen 6
    have y7 := HO3.out.res.frozen 7
    have y8 := HO3.out.res.frozen 8
    have yl := HO3.out.res.lt
    go_wp2
    refine bodyPost_ret (ret_row rfl _ _ (w.heap.size + 1) 33 [.int .i64 1, .int .i64 0, .slice none 0 0, .int .i64 0, .int .i64 0, .int .i64 0, .bool false, .int .i64 0, .slice none 0 0] (HO3.out.res.setAll [.int .i64 1, .int .i64 0, .slice none 0 0, .int .i64 0, .int .i64 0, .int .i64 0, .bool false, .int .i64 0, .slice none 0 0] rfl) _ rfl Tryz.underlying33 rfl (by kernel_rfl)) rfl ?_
    exact openRet_put HN.out (by decide) HO3.out
  have hki : ¬ ((k : Int) = 0) := by omega
  have HOKP := hide (HPK.out hk0)
  have HK0 := hide hk0
  have q0 := HO3.out.pl.cell 0
  have q1 := HO3.out.pl.cell 1
  have q2 := HO3.out.pl.cell 2
  have ql := HO3.out.pl.lt
  have hkb : ((k : Int) == 0) = false := by simpa using hki
  clear HPK hk0
  go_upto_region 5 with fail
  generalize hwE : wC.alloc (.cells #[.int .i64 0, .int .i64 (k : Int), .slice Ap p.parts.length cp, .int .i64 p.open_, .int .i64 p.first, .int .i64 0, .bool false, .int .i64 p.first, .slice none 0 0] 33) = wE
  have hE : Below wC.heap.size wC wE := by rw [← hwE]; exact (Below.refl _ _).alloc (Nat.le_refl _) _
  have RE : Row wE wC.heap.size 33 [.int .i64 0, .int .i64 (k : Int), .slice Ap p.parts.length cp, .int .i64 p.open_, .int .i64 p.first, .int .i64 0, .bool false, .int .i64 p.first, .slice none 0 0] := by rw [← hwE]; exact Row.new wC _ _
  have HO4 := hide (HO3.out.below hE)
  have HS4 := hide (show StB wE wC.heap.size k (.slice Ap p.parts.length cp) p.open_ p.first 0 false p.first none 0 0 [] [] from ⟨RE, OwS.nil _ _ _ _ _⟩)
  obtain ⟨b, hbe⟩ : ∃ b, b = wC.heap.size := ⟨_, rfl⟩
  obtain ⟨bp, hbp⟩ : ∃ b, b = w3.heap.size := ⟨_, rfl⟩
  rw [← hbe, ← hbp] at HO4
  rw [← hbe] at HS4 ⊢
  rw [← hbp]
  clear hwE hE RE HO3 hbe hbp hs3 q0 q1 q2 ql
  have hp40 := HOKP.out.1
  try simp only [hkb]
  clear hkb
  have q0 := HO4.out.pl.cell 0
  have ql := HO4.out.pl.lt
  go_wp2
  go_loopw [32] (fun i wr => ∃ (j : Nat) (a : List LogRecord) (A : Option Addr) (n c : Nat) (us : List Value), i = .int .i64 (j : Int) ∧ j ≤ p.parts.length ∧ d.parts (p.parts.take j) = some a ∧ a.length ≤ 4000 * j ∧ OpB w wr [.slice A1 d.files.length c1, .slice A2 d.names.length c2, .slice A3 d.moves.length c3] bp b [.slice Ap p.parts.length cp, .int .i64 p.open_, .int .i64 p.first] p fq ∧ StB wr b k (.slice Ap p.parts.length cp) p.open_ p.first 0 false p.first A n c a us ∧ b < wr.heap.size) (fun i _ => p.parts.length - (intOf i).toNat)
  case atStart => exact ⟨0, [], none, 0, 0, [], rfl, Nat.zero_le _, rfl, Nat.zero_le _, HO4.out, HS4.out, HS4.out.box.lt⟩
  case round =>
    clear HO4 HS4 q0 ql
    obtain ⟨j, a, A, n, c, us, rfl, hj, hpa, hal, hob, hst, hbl⟩ := hrel
    obtain rfl := hst.len
    have HPA := hide hpa
    have HO := hide hob
    have HS := hide hst
    have HOA := hide (hob.ow)
    clear hpa hob hst
    have q0 := HO.out.pl.cell 0
    have ql := HO.out.pl.lt
    obtain ⟨Ax, cx, fx, ex, op, _, _, rfl⟩ := HOA.out.oLogPlan
    simp only [List.cons.injEq, Value.slice.injEq, true_and, and_true] at ex
    obtain ⟨rfl, rfl⟩ := ex
    obtain ⟨_, hcp, hcm⟩ := op.nlen
    unfold maxLen at hcm
    by_cases hlt : j < p.parts.length
    · obtain ⟨g, off, ws, fi, rfl, hgm, hfi', hwl, hcs, hov⟩ := op.elem LogPart.cells_len hlt
      obtain ⟨rfl, wa, wb, wc, wd, rfl⟩ := hov.oLogPart
      have c0 := hcs 0 _ rfl
      have c1' := hcs 1 _ rfl
      have c2' := hcs 2 _ rfl
      have c3' := hcs 3 _ rfl
      simp only [Nat.add_zero] at c0
      have hgl := cell_lt c0
      have hji : (j : Int) < (p.parts.length : Int) := by omega
      have HSN := hide (p.sane HOKP.out j hlt)
      have HQS := hide (fun l (h : d.part p.parts[j] = some l) => And.intro (parts_one HPA.out hlt h) (parts_bd HOKP.out hlt h))
      have HQN := hide (fun (h : d.part p.parts[j] = none) => stopen_lost HOK.out HNE.out HK0.out (parts_lost HPA.out hlt h))
      clear hcs hov wa wb wc wd op
      generalize p.parts[j] = x at *
      go_upto_region 8 with fail
      generalize hwF : wr.alloc (.cells #[.int .i64 x.num, .int .i64 x.first, .int .i64 x.next, .int .i64 x.size] 75) = wF
      have hF : Below wr.heap.size wr wF := by rw [← hwF]; exact (Below.refl _ _).alloc (Nat.le_refl _) _
      have RF : Row wF wr.heap.size 75 [.int .i64 x.num, .int .i64 x.first, .int .i64 x.next, .int .i64 x.size] := by rw [← hwF]; exact Row.new wr _ _
      have HOF := hide (HO.out.below hF)
      have HSF := hide (HS.out.below hF)
      have hbl' := Nat.lt_of_lt_of_le hbl hF.size
      clear hwF hF HO HS hbl c0 c1' c2' c3' hgl q0 ql
      have c0 := RF.cell 0
      have c1' := RF.cell 1
      have c2' := RF.cell 2
      have c3' := RF.cell 3
      have lc := RF.lt
      have d0 := HOF.out.box.cell 0
      have d1 := HOF.out.box.cell 1
      have d2 := HOF.out.box.cell 2
      have ld := HOF.out.box.lt
      clear RF
      cases hpt : d.part x with
      | none =>
        have HN := hide (HQN.out hpt)
        have HPX := hide (fun (W : World) (hb : Below w.heap.size w W) => (HPT.out x HSN.out W hb).mono (fun _ _ h => partRet_none hpt h))
        clear HQS HQN hpt HPT
        go_wp2_with fail
        refine (HPX.out _ HOF.out.fr).mono ?_
        rintro e w5 ⟨v, rfl, hb5⟩
        have hbz := hb5
        all_goals
          have HO5 := hide (HOF.out.below hbz)
          have HS5 := hide (HSF.out.below hbz)
          have hb5' := Nat.lt_of_lt_of_le hbl' hbz.size
          clear hbz hb5 d0 d1 d2 ld c0 c1' c2' c3' HPX HOF HSF hbl' lc
          have v0 := HO5.out.res.cell 0
          have v1 := HO5.out.res.cell 1
          have v2 := HO5.out.res.cell 2
          have v3 := HO5.out.res.cell 3
          have v4 := HO5.out.res.cell 4
          have v5 := HO5.out.res.cell 5
          have v6 := HO5.out.res.cell 6
          have v7 := HO5.out.res.cell 7
          have v8 := HO5.out.res.cell 8
          have y0 := HO5.out.res.frozen 0
          have y1 := HO5.out.res.frozen 1
          have y2 := HO5.out.res.frozen 2
          have y3 := HO5.out.res.frozen 3
          have y4 := HO5.out.res.frozen 4
          have y5 := HO5.out.res.frozen 5
          have y6 := HO5.out.res.frozen 6
          have y7 := HO5.out.res.frozen 7
          have y8 := HO5.out.res.frozen 8
          have yl := HO5.out.res.lt
          go_wp2
          refine bodyPost_ret (ret_row rfl _ _ (w.heap.size + 1) 33 [.int .i64 2, .int .i64 0, .slice none 0 0, .int .i64 0, .int .i64 0, .int .i64 0, .bool false, .int .i64 0, .slice none 0 0] (HO5.out.res.setAll [.int .i64 2, .int .i64 0, .slice none 0 0, .int .i64 0, .int .i64 0, .int .i64 0, .bool false, .int .i64 0, .slice none 0 0] rfl) _ rfl Tryz.underlying33 rfl (by kernel_rfl)) rfl ?_
          exact openRet_put HN.out (by decide) HO5.out
      | some l =>
        obtain ⟨hpn, hl4⟩ := HQS.out l hpt
        have HPN := hide hpn
        have HPX := hide (fun (W : World) (hb : Below w.heap.size w W) => (HPT.out x HSN.out W hb).mono (fun _ _ h => partRet_some hpt h))
        clear HQS HQN hpt hpn HPT
        go_wp2_with fail
        refine (HPX.out _ HOF.out.fr).mono ?_
        rintro e w5 ⟨Al, nl, cl, fl, rfl, hol, hnl, hb5⟩
        have hbz := hb5
        all_goals
          have HO5 := hide (HOF.out.below hbz)
          have HS5 := hide (HSF.out.below hbz)
          have hb5' := Nat.lt_of_lt_of_le hbl' hbz.size
          have HOL := hide hol
          clear hol hnl
          clear hbz hb5 d0 d1 d2 ld c0 c1' c2' c3' HPX HOF HSF hbl' lc
          obtain ⟨rfl, hnc, hnm⟩ := HOL.out.nlen
          obtain ⟨ur, hur, hsr⟩ := HOL.out.srcRecs
          have HUR := hide hur
          have HSR := hide hsr
          have z8 := HS5.out.box.cell 8
          have zl := HS5.out.box.lt
          have hbw : b + 1 ≤ w5.heap.size := hb5'
          clear hur hsr HOL
          go_wp2_with (first | (at_builtin; refine wpl_app rfl _ _ 31 rfl ia _ 24 Tryz.underlying31 HIa.out ha0 ha1 ha2 rfl (by decide) LogRecord.cells_len rfl HS5.out.own l HUR.out (by exact New.nil _ _) (fun g _ hg => by cases hg) _ _ _ rfl rfl HSR.out (by omega) (by decide) hbw ?_; intro A7 n7 c7 w7 hn7 hown7 hgb7; have HG7 := hide hgb7; have HN7 := hide hown7; have r7 := hgb7.row HS5.out.box (HS5.out.own.low (Nat.lt_succ_self _)); have z7 := r7.frozen 8; have q7 := r7.cell 8; have zl7 := r7.lt; clear hgb7 hown7 hn7))
          go_roundw
          case rel =>
            have HSN7 := HS5.out.app HG7.out HN7.out
            have HON7 := (HO5.out.keep HG7.out.grown (fun g e => Nat.le_of_succ_le (HS5.out.own.from e))).keep (grown_set w7 b 8 (.slice A7 n7 c7)) (fun g e => by injection e with e; omega)
            exact ⟨j + 1, a ++ l, A7, n7, c7, _, by go_num, by omega, HPN.out, by rw [List.length_append]; omega, HON7, HSN7, HSN7.box.lt⟩
          case measure => simp [intOf]; omega
    · obtain rfl : j = p.parts.length := by omega
      rw [List.take_length] at HPA
      have hop := HOKP.out.2.1
      have hfs := p.first_small HOKP.out
      have hal2 : a.length ≤ 160000 := by omega
      have HNO := hide (stopen_torn (d := d) HOK.out HNE.out HK0.out HPA.out)
      have HYES := hide (stopen_yes (d := d) HOK.out HNE.out HK0.out HPA.out)
      have HWF := hide HOKP.out
      obtain ⟨z, hz⟩ : ∃ z : Nat, p.open_ = (z : Int) := ⟨p.open_.toNat, by omega⟩
      have hdz := dec_size (z : Int) (by omega) (by omega)
      have hcc : ¬ (9223372036854775807 < 1 + (dec (z : Int)).size) := by omega
      rw [hz] at HNO HYES
      have HLX := hide (HLK.out (segName z) (by unfold segName; rw [ByteArray.size_append]; show 1 + (dec (z : Int)).size ≤ _; omega))
      have HDC := hide (fun (W : World) (hb : Below w.heap.size w W) => segmentName_any z (by omega) (by omega) W (HLY.out W hb))
      have hls := d.look_size (segName z)
      obtain ⟨⟨l, m⟩, hq⟩ : ∃ q, frFrom (d.lookT (segName z)) 0 = q := ⟨_, rfl⟩
      have HFR := hide (fun W => (implLogFrames_any (d.lookT (segName z)) W (by omega)).mono (fun _ _ h => framesRet_at hq h))
      have hbd := fr_bd (d.lookT (segName z))
      rw [hq] at HYES HNO hbd
      dsimp only at HYES HNO hbd
      have HLB := hide hbd.2.2
      obtain ⟨hll, hmz, -⟩ := hbd
      clear hq HLK HPA hlt hal
      generalize d.lookB (segName z) = there at *
      generalize d.lookT (segName z) = data at *
      have d0 := HO.out.box.cell 0
      have d1 := HO.out.box.cell 1
      have d2 := HO.out.box.cell 2
      have ld := HO.out.box.lt
      have q1 := HO.out.pl.cell 1
      simp only [List.getElem?_cons_succ, List.getElem?_cons_zero] at q1
      rw [hz] at q1
      clear hz
      go_wp2_with fail
      go_region_held3 (fun w' => w'.cell? ⟨w.heap.size, 0, none⟩ = some (.slice A1 d.files.length c1) ∧ w'.cell? ⟨w.heap.size, 1, none⟩ = some (.slice A2 d.names.length c2) ∧ w'.cell? ⟨w.heap.size, 2, none⟩ = some (.slice A3 d.moves.length c3) ∧ w'.cell? ⟨bp, 1, none⟩ = some (.int .i64 (z : Int)))
        (first | exact ⟨kcell2 d0 hbz ld, kcell2 d1 hbz ld, kcell2 d2 hbz ld, kcell2 q1 hbz ql⟩ | go_keep)
        (first
          | (go_at_call 92; refine (HLX.out _ (HO.out.fr.trans (hby.mono HO.out.fr.size))).mono ?_; rintro e w5 ⟨rfl, hb5⟩; have hbz : Below wr.heap.size wr w5 := hby.trans (hb5.mono hby.size))
          | (go_at_call 93; refine (HDC.out _ (below_drewN HO.out.fr _)).mono ?_; rintro e w4 ⟨rfl, hb4⟩; have hbz : Below wr.heap.size wr w4 := (below_drewN (Below.refl _ wr) _).trans hb4; have hby := hbz))
      all_goals
        have HO5 := hide (HO.out.below hbz)
        have HS5 := hide (HS.out.below hbz)
        clear hbz hby hb5 hb4 d0 d1 d2 ld q0 q1 ql HO HS HLX HDC hbl
        cases there with
        | false =>
          have HN := hide (HNO.out (fun h => Bool.noConfusion h.1))
          clear HYES HNO HFR
          have v0 := HO5.out.res.cell 0
          have v1 := HO5.out.res.cell 1
          have v2 := HO5.out.res.cell 2
          have v3 := HO5.out.res.cell 3
          have v4 := HO5.out.res.cell 4
          have v5 := HO5.out.res.cell 5
          have v6 := HO5.out.res.cell 6
          have v7 := HO5.out.res.cell 7
          have v8 := HO5.out.res.cell 8
          have y0 := HO5.out.res.frozen 0
          have y1 := HO5.out.res.frozen 1
          have y2 := HO5.out.res.frozen 2
          have y3 := HO5.out.res.frozen 3
          have y4 := HO5.out.res.frozen 4
          have y5 := HO5.out.res.frozen 5
          have y6 := HO5.out.res.frozen 6
          have y7 := HO5.out.res.frozen 7
          have y8 := HO5.out.res.frozen 8
          have yl := HO5.out.res.lt
          go_wp2
          refine bodyPost_ret (ret_row rfl _ _ (w.heap.size + 1) 33 [.int .i64 2, .int .i64 0, .slice none 0 0, .int .i64 0, .int .i64 0, .int .i64 0, .bool false, .int .i64 0, .slice none 0 0] (HO5.out.res.setAll [.int .i64 2, .int .i64 0, .slice none 0 0, .int .i64 0, .int .i64 0, .int .i64 0, .bool false, .int .i64 0, .slice none 0 0] rfl) _ rfl Tryz.underlying33 rfl (by kernel_rfl)) rfl ?_
          exact openRet_put HN.out (by decide) HO5.out
        | true =>
          go_wp2_with fail
          refine (HFR.out _).mono ?_
          rintro e w6 ⟨v, fr, rfl, ho, hn, hb6⟩
          obtain ⟨Al, cl, rfl, hcl, hml⟩ := ho.slice
          unfold maxLen at hml
          have HOL := hide ho
          have HNL := hide hn
          have HO6 := hide (HO5.out.below hb6)
          have HS6 := hide (HS5.out.below hb6)
          have hbl5 := HS5.out.box.lt
          clear ho hn hb6 HO5 HS5 HFR
          have q2 := HO6.out.pl.cell 2
          have ql := HO6.out.pl.lt
          go_wp2
          go_loopw [69] (fun i wr => ∃ (j : Nat), i = .int .i64 (j : Int) ∧ j ≤ l.length ∧ (∀ i (h : i < l.length), i < j → l[i].pos = p.first + i) ∧ OpB w wr [.slice A1 d.files.length c1, .slice A2 d.names.length c2, .slice A3 d.moves.length c3] bp b [.slice Ap p.parts.length cp, .int .i64 p.open_, .int .i64 p.first] p fq ∧ StB wr b k (.slice Ap p.parts.length cp) p.open_ p.first 0 false (p.first + (j : Int)) A a.length c a us ∧ Ow wr (.s 2 l.length (l.flatMap LogRecord.cells)) (.slice Al l.length cl) fr ∧ Lt fr wr.heap.size) (fun i _ => l.length - (intOf i).toNat)
          case atStart => exact ⟨0, rfl, Nat.zero_le _, (fun i h hi => absurd hi (Nat.not_lt_zero _)), HO6.out, by simpa using HS6.out, HOL.out, HNL.out.lt⟩
          case round =>
            clear q2 ql
            obtain ⟨j, rfl, hj, hri, hob, hst, hol, hlf⟩ := hrel
            have HRI := hide hri
            have HOQ := hide hob
            have HSQ := hide hst
            have HOLQ := hide hol
            have HFB := hide (show b ∉ fr from HNL.out.out hbl5)
            clear hri hob hst hol
            by_cases hlt : j < l.length
            · obtain ⟨g, off, ws, fi, rfl, hgm, hfi', hwl, hcs, hov⟩ := HOLQ.out.elem LogRecord.cells_len hlt
              obtain ⟨rfl, wr0, hs1, rfl⟩ := hov.oLogRecord
              have c0 := hcs 0 _ rfl
              have c1' := hcs 1 _ rfl
              simp only [Nat.add_zero] at c0
              have hgl := cell_lt c0
              have hji : (j : Int) < (l.length : Int) := by omega
              have hwj : IntKind.i64.wrap (p.first + (j : Int)) = p.first + (j : Int) := wrapI _ (by omega) (by omega)
              have HRN := hide (fun (h : l[j].pos = p.first + (j : Int)) => show ∀ i (h : i < l.length), i < j + 1 → l[i].pos = p.first + i from runs_step HRI.out hlt h)
              have HNR := hide (fun (h : ¬ (l[j].pos = p.first + (j : Int))) => HNO.out (fun k => h (k.2 j hlt)))
              clear hcs hov wr0
              generalize l[j] = x at *
              go_upto_region 20 with fail
              generalize hwF : wr.alloc (.cells #[.int .i64 x.pos, .string x.data] 63) = wF
              have hF : Below wr.heap.size wr wF := by rw [← hwF]; exact (Below.refl _ _).alloc (Nat.le_refl _) _
              have RF : Row wF wr.heap.size 63 [.int .i64 x.pos, .string x.data] := by rw [← hwF]; exact Row.new wr _ _
              have HOF := hide (HOQ.out.below hF)
              have HSF := hide (HSQ.out.below hF)
              have HOLF := hide (HOLQ.out.below hF hlf)
              have hlf' := hlf.mono hF.size
              clear hwF hF HOQ HSQ HOLQ c0 c1' hgl hlf
              have c0 := RF.cell 0
              have lc := RF.lt
              have q7 := HSF.out.box.cell 7
              have f7 := HSF.out.box.frozen 7
              have lq := HSF.out.box.lt
              clear RF
              by_cases h1 : x.pos = p.first + (j : Int)
              · have HR2 := hide (HRN.out h1)
                have h1c := h1
                have e1 : (x.pos != p.first + (j : Int)) = false := by simpa using h1
                have e2 : (x.pos == p.first + (j : Int)) = true := by simpa using h1
                have hwk : IntKind.i64.wrap (p.first + (j : Int) + 1) = p.first + ((j + 1 : Nat) : Int) := by rw [wrapI _ (by omega) (by omega)]; omega
                have hwk2 : IntKind.i64.wrap (p.first + (j : Int) + 1) = p.first + (j : Int) + 1 := wrapI _ (by omega) (by omega)
                clear HRN HNR h1 hwk
                go_wp2
                go_roundw
                case rel =>
                  have HSX : StB (wF.setCell ⟨b, 7, none⟩ (.int .i64 (p.first + (j : Int) + 1))) b k (.slice Ap p.parts.length cp) p.open_ p.first 0 false (p.first + ((j + 1 : Nat) : Int)) A a.length c a us := by
                    have h := HSF.out.put7 (p.first + (j : Int) + 1)
                    rw [show p.first + ((j + 1 : Nat) : Int) = p.first + (j : Int) + 1 by omega]
                    exact h
                  have hgs := grown_set wF b 7 (.int .i64 (p.first + (j : Int) + 1))
                  exact ⟨j + 1, by go_num, by omega, HR2.out, HOF.out.keep hgs (fun g e => by injection e with e; omega), HSX, HOLF.out.grown hgs hlf' HFB.out, hlf'.mono hgs.size⟩
                case measure => simp [intOf]; omega
              · have e1 : (x.pos != p.first + (j : Int)) = true := by simpa using h1
                have e2 : (x.pos == p.first + (j : Int)) = false := by simpa using h1
                have HN := hide (HNR.out h1)
                clear HRN HNR h1 HYES HNO
                have v0 := HOF.out.res.cell 0
                have v1 := HOF.out.res.cell 1
                have v2 := HOF.out.res.cell 2
                have v3 := HOF.out.res.cell 3
                have v4 := HOF.out.res.cell 4
                have v5 := HOF.out.res.cell 5
                have v6 := HOF.out.res.cell 6
                have v7 := HOF.out.res.cell 7
                have v8 := HOF.out.res.cell 8
                have y0 := HOF.out.res.frozen 0
                have y1 := HOF.out.res.frozen 1
                have y2 := HOF.out.res.frozen 2
                have y3 := HOF.out.res.frozen 3
                have y4 := HOF.out.res.frozen 4
                have y5 := HOF.out.res.frozen 5
                have y6 := HOF.out.res.frozen 6
                have y7 := HOF.out.res.frozen 7
                have y8 := HOF.out.res.frozen 8
                have yl := HOF.out.res.lt
                go_wp2
                refine bodyPost_ret (ret_row rfl _ _ (w.heap.size + 1) 33 [.int .i64 2, .int .i64 0, .slice none 0 0, .int .i64 0, .int .i64 0, .int .i64 0, .bool false, .int .i64 0, .slice none 0 0] (HOF.out.res.setAll [.int .i64 2, .int .i64 0, .slice none 0 0, .int .i64 0, .int .i64 0, .int .i64 0, .bool false, .int .i64 0, .slice none 0 0] rfl) _ rfl Tryz.underlying33 rfl (by kernel_rfl)) rfl ?_
                exact openRet_put HN.out (by decide) HOF.out
            · obtain rfl : j = l.length := by omega
              have HY := hide (HYES.out (by first | exact ⟨rfl, fun i hi => HRI.out i hi hi⟩ | exact ⟨trivial, fun i hi => HRI.out i hi hi⟩))
              obtain ⟨ur, hur, hsr⟩ := HOLQ.out.srcRecs
              have HUR := hide hur
              have HSR := hide hsr
              have z8 := HSQ.out.box.cell 8
              have zl := HSQ.out.box.lt
              have hbw : b + 1 ≤ wr.heap.size := zl
              have hll2 : l.length ≤ 4000 := by omega
              have hlt1 := HOQ.out.lt
              have hlt2 := HOQ.out.hb
              have hn1 : b ≠ w.heap.size + 1 := by omega
              have hn2 : w.heap.size + 1 ≠ b := by omega
              have hn3 : b ≠ bp := by omega
              have hn4 : bp ≠ b := by omega
              have HT := hide (show tb (m < data.size) = decide (m < data.size) from tb_decide Iff.rfl)
              have wk : Hid ((Lit.int .i64 (k : Int)).wf = true) := hide (WalkArith.wf_i64 (by omega))
              have wm : Hid ((Lit.int .i64 (m : Int)).wf = true) := hide (WalkArith.wf_i64 (by omega))
              have wn : Hid ((Lit.int .i64 (p.first + (l.length : Int))).wf = true) := hide (WalkArith.wf_i64 (by omega))
              clear hur hsr HYES HNO hlf
              go_wp2_with (first | (at_builtin; refine wpl_app rfl _ _ 31 rfl ia _ 24 Tryz.underlying31 HIa.out ha0 ha1 ha2 rfl (by decide) LogRecord.cells_len rfl HSQ.out.own l HUR.out (by exact New.nil _ _) (fun g _ hg => by cases hg) _ _ _ rfl rfl HSR.out (by omega) (by decide) hbw ?_; intro A7 n7 c7 w7 hn7 hown7 hgb7; have HG7 := hide hgb7; have HN7 := hide hown7; have r7 := hgb7.row HSQ.out.box (HSQ.out.own.low (Nat.lt_succ_self _)); have HO7 := hide (HOQ.out.keep hgb7.grown (fun g e => Nat.le_of_succ_le (HSQ.out.own.from e))); have g0 := r7.cell 0; have x0 := r7.frozen 0; have g1 := r7.cell 1; have x1 := r7.frozen 1; have g2 := r7.cell 2; have x2 := r7.frozen 2; have g3 := r7.cell 3; have x3 := r7.frozen 3; have g4 := r7.cell 4; have x4 := r7.frozen 4; have g5 := r7.cell 5; have x5 := r7.frozen 5; have g6 := r7.cell 6; have x6 := r7.frozen 6; have g7 := r7.cell 7; have x7 := r7.frozen 7; have g8 := r7.cell 8; have x8 := r7.frozen 8; have xl := r7.lt; have t2 := HO7.out.pl.cell 2; have tl := HO7.out.pl.lt; have v0 := HO7.out.res.cell 0; have y0 := HO7.out.res.frozen 0; have v1 := HO7.out.res.cell 1; have y1 := HO7.out.res.frozen 1; have v2 := HO7.out.res.cell 2; have y2 := HO7.out.res.frozen 2; have v3 := HO7.out.res.cell 3; have y3 := HO7.out.res.frozen 3; have v4 := HO7.out.res.cell 4; have y4 := HO7.out.res.frozen 4; have v5 := HO7.out.res.cell 5; have y5 := HO7.out.res.frozen 5; have v6 := HO7.out.res.cell 6; have y6 := HO7.out.res.frozen 6; have v7 := HO7.out.res.cell 7; have y7 := HO7.out.res.frozen 7; have v8 := HO7.out.res.cell 8; have y8 := HO7.out.res.frozen 8; have yl := HO7.out.res.lt; clear hgb7 hown7 r7 hn7))
              have hkb : ∀ g, some b = some g → b ≤ g := fun g e => by injection e with e; omega
              have HSZ := ((HSQ.out.app HG7.out HN7.out).put5 (m : Int)).put6 (decide (m < data.size))
              have HOZ := (((HO7.out).keep (grown_set _ b 8 (.slice A7 n7 c7)) hkb).keep (grown_set _ b 5 (.int .i64 (m : Int))) hkb).keep (grown_set _ b 6 (.bool (decide (m < data.size)))) hkb
              refine bodyPost_ret (ret_row rfl _ _ (w.heap.size + 1) 33 [.int .i64 0, .int .i64 (k : Int), .slice Ap p.parts.length cp, .int .i64 p.open_, .int .i64 p.first, .int .i64 (m : Int), .bool (decide (m < data.size)), .int .i64 (p.first + (l.length : Int)), .slice A7 n7 c7] (HOZ.res.setAll [.int .i64 0, .int .i64 (k : Int), .slice Ap p.parts.length cp, .int .i64 p.open_, .int .i64 p.first, .int .i64 (m : Int), .bool (decide (m < data.size)), .int .i64 (p.first + (l.length : Int)), .slice A7 n7 c7] rfl) _ rfl Tryz.underlying33 rfl (by kernel_rfl)) rfl ?_
              exact openRet_yes HOZ HSZ (by rw [HY.out, HT.out]) wk.out wm.out wn.out
end Go.Proofs.YtddjgbhkfdpffaaGreatDoor
set_option linter.unusedVariables false
set_option linter.unusedSimpArgs false
namespace Go.Proofs.YtddjgbhkfdpffaaGreatDoor
open Go.ChangeShapes Go.WideShapes Go.ChangeAt Go.RowKit

set_option maxRecDepth 100000 in
set_option maxHeartbeats 2000000 in
theorem implLogOpen_any (d : Disk) (us0 : List Value) (fp : List Nat) (w : World) (h : OwC w d.cells us0 fp) (hf : Lt fp w.heap.size) (hbk : d.bulk ≤ 1048576) (hl : Lay w) (hw7 : 7 < w.heap.size) :
    Calls Tryz.prog 9 #[.agg us0.toArray] w (OpenRet d w) := by
  have HOC := hide h
  obtain ⟨A1, c1, A2, c2, A3, c3, f1, f2, f3, rfl, o1, o2, o3, rfl⟩ := h.oDisk
  clear h o1 o2 o3
  have HDK := hide (fun (W : World) (hb : Below w.heap.size w W) => implDiskOk_any d _ _ W (HOC.out.below hb hf) (hf.up hb) hbk)
  have HOP := hide (fun (hok : tb d.ok = true) (W : World) (hb : Below w.heap.size w W) => openLog_any d _ _ W (HOC.out.below hb hf) (hf.up hb) hbk hok (hl.low hb hw7) (Nat.lt_of_lt_of_le hw7 hb.size))
  clear hl hw7
  go_enter Tryz.func9, Tryz.ntmps9
  go_upto_region 1 with fail
  generalize hwA : w.alloc (.cells #[.slice A1 d.files.length c1, .slice A2 d.names.length c2, .slice A3 d.moves.length c3] 38) = wA
  have hA : Below w.heap.size w wA := by rw [← hwA]; exact (Below.refl _ _).alloc (Nat.le_refl _) _
  have hsA : wA.heap.size = w.heap.size + 1 := by rw [← hwA]; simp
  have RA : Row wA w.heap.size 38 [.slice A1 d.files.length c1, .slice A2 d.names.length c2, .slice A3 d.moves.length c3] := by rw [← hwA]; exact Row.new w _ _
  try simp only [hsA]
  clear hwA
  generalize hwB : wA.alloc (.cells #[.int .i64 0, .int .i64 0, .slice none 0 0, .int .i64 0, .int .i64 0, .int .i64 0, .bool false, .int .i64 0, .slice none 0 0] 33) = wB
  have hAB : Below wA.heap.size wA wB := by rw [← hwB]; exact (Below.refl _ _).alloc (Nat.le_refl _) _
  have hsB : w.heap.size + 2 ≤ wB.heap.size := by rw [← hwB, World.size_alloc, hsA]; exact Nat.le_refl _
  have RZ := hide (show Row wB (w.heap.size + 1) 33 [.int .i64 0, .int .i64 0, .slice none 0 0, .int .i64 0, .int .i64 0, .int .i64 0, .bool false, .int .i64 0, .slice none 0 0] from by rw [← hwB, ← hsA]; exact Row.new wA _ _)
  have HRD := hide (RA.below hAB RA.lt)
  have HB1 := hide (hA.trans (hAB.mono hA.size))
  clear hwB hAB hA hsA RA
  have d0 := HRD.out.cell 0
  have d1 := HRD.out.cell 1
  have d2 := HRD.out.cell 2
  have ld := HRD.out.lt
  go_wp2_with fail
  refine (HDK.out wB HB1.out).mono ?_
  rintro e w2 ⟨rfl, hb2⟩
  have HB2 := hide (HB1.out.trans (hb2.mono HB1.out.size))
  have HR2 := hide (HRD.out.below hb2 ld)
  have HZ2 := hide (RZ.out.below hb2 RZ.out.lt)
  have hs2 : w.heap.size + 2 ≤ w2.heap.size := Nat.le_trans hsB hb2.size
  clear hb2 d0 d1 d2 ld HDK HRD RZ HB1 hsB
  by_cases hok : tb d.ok = true
  rotate_left
  · have hno : tb d.ok = false := by simpa using hok
    have HN := hide (stopen_no hno)
    rw [hno]
    clear hok hno
    have v0 := HZ2.out.cell 0
    have v1 := HZ2.out.cell 1
    have v2 := HZ2.out.cell 2
    have v3 := HZ2.out.cell 3
    have v4 := HZ2.out.cell 4
    have v5 := HZ2.out.cell 5
    have v6 := HZ2.out.cell 6
    have v7 := HZ2.out.cell 7
    have v8 := HZ2.out.cell 8
    have y0 := HZ2.out.frozen 0
    have y1 := HZ2.out.frozen 1
    have y2 := HZ2.out.frozen 2
    have y3 := HZ2.out.frozen 3
    have y4 := HZ2.out.frozen 4
    have y5 := HZ2.out.frozen 5
    have y6 := HZ2.out.frozen 6
    have y7 := HZ2.out.frozen 7
    have y8 := HZ2.out.frozen 8
    have yl := HZ2.out.lt
    go_wp2
    refine bodyPost_ret (ret_row rfl _ _ (w.heap.size + 1) 33 [.int .i64 7, .int .i64 0, .slice none 0 0, .int .i64 0, .int .i64 0, .int .i64 0, .bool false, .int .i64 0, .slice none 0 0] (HZ2.out.setAll [.int .i64 7, .int .i64 0, .slice none 0 0, .int .i64 0, .int .i64 0, .int .i64 0, .bool false, .int .i64 0, .slice none 0 0] rfl) _ rfl Tryz.underlying33 rfl (by kernel_rfl)) rfl ?_
    have hgr := setN_grown [.int .i64 7, .int .i64 0, .slice none 0 0, .int .i64 0, .int .i64 0, .int .i64 0, .bool false, .int .i64 0, .slice none 0 0] 0 (grown_refl w2 (some (w.heap.size + 1)))
    exact openRet_bad HN.out (by decide) (HB2.out.trans (below_of_grown hgr (Nat.le_succ _) HB2.out.size))
  have HOK := hide hok
  rw [hok]
  clear hok
  have d0 := HR2.out.cell 0
  have d1 := HR2.out.cell 1
  have d2 := HR2.out.cell 2
  have ld := HR2.out.lt
  go_wp2_with fail
  refine (HOP.out HOK.out w2 HB2.out).mono ?_
  rintro e w3 ⟨us, fq, rfl, ho, hn, hb3⟩
  have hz := HZ2.out.below hb3 HZ2.out.lt
  obtain ⟨B1, e1, B2, e2, g1, g2, rfl, w0, w1, oA, w3', w4, w5, w7, oB, rfl⟩ := ho.oLogState
  have HOW := hide ho
  have HNW := hide hn
  have HZ3 := hide hz
  have HB3 := hide (HB2.out.trans (hb3.mono HB2.out.size))
  have hno : w.heap.size + 1 ∉ g1 ++ g2 := hn.out (by omega)
  clear ho hn hb3 hz d0 d1 d2 ld HB2 HR2 HZ2 w0 w1 oA w3' w4 w5 w7 oB HOP
  have v0 := HZ3.out.cell 0
  have v1 := HZ3.out.cell 1
  have v2 := HZ3.out.cell 2
  have v3 := HZ3.out.cell 3
  have v4 := HZ3.out.cell 4
  have v5 := HZ3.out.cell 5
  have v6 := HZ3.out.cell 6
  have v7 := HZ3.out.cell 7
  have v8 := HZ3.out.cell 8
  have y0 := HZ3.out.frozen 0
  have y1 := HZ3.out.frozen 1
  have y2 := HZ3.out.frozen 2
  have y3 := HZ3.out.frozen 3
  have y4 := HZ3.out.frozen 4
  have y5 := HZ3.out.frozen 5
  have y6 := HZ3.out.frozen 6
  have y7 := HZ3.out.frozen 7
  have y8 := HZ3.out.frozen 8
  have yl := HZ3.out.lt
  go_wp2
  refine bodyPost_ret (ret_row rfl _ _ (w.heap.size + 1) 33 [.int .i64 d.open_.code, .int .i64 d.open_.num, .slice B1 d.open_.plan.parts.length e1, .int .i64 d.open_.plan.open_, .int .i64 d.open_.plan.first, .int .i64 d.open_.size, .bool d.open_.torn, .int .i64 d.open_.next, .slice B2 d.open_.records.length e2] (HZ3.out.setAll [.int .i64 d.open_.code, .int .i64 d.open_.num, .slice B1 d.open_.plan.parts.length e1, .int .i64 d.open_.plan.open_, .int .i64 d.open_.plan.first, .int .i64 d.open_.size, .bool d.open_.torn, .int .i64 d.open_.next, .slice B2 d.open_.records.length e2] rfl) _ rfl Tryz.underlying33 rfl (by kernel_rfl)) rfl ?_
  have hgr := setN_grown [.int .i64 d.open_.code, .int .i64 d.open_.num, .slice B1 d.open_.plan.parts.length e1, .int .i64 d.open_.plan.open_, .int .i64 d.open_.plan.first, .int .i64 d.open_.size, .bool d.open_.torn, .int .i64 d.open_.next, .slice B2 d.open_.records.length e2] 0 (grown_refl w3 (some (w.heap.size + 1)))
  exact ⟨_, _, rfl, HOW.out.grown hgr HNW.out.lt hno, (HNW.out.grown hgr (fun g e => by injection e with e; subst e; exact hno)).mono (by omega), HB3.out.trans (below_of_grown hgr (Nat.le_succ _) HB3.out.size)⟩
theorem recS_cnt (l : List LogRecord) : LogRecord.cntS l ≤ 2 * l.length := by
  induction l with
  | nil => exact Nat.le_refl _
  | cons x l ih => rw [LogRecord.cntS, LogRecord.cnt_eq, List.length_cons]; omega
theorem parts_len {d : Disk} {p : LogPlan} (hp : p.ok) : ∀ (j : Nat) (a : List LogRecord), j ≤ p.parts.length → d.parts (p.parts.take j) = some a → a.length ≤ 4000 * j
  | 0, a, _, h => by
    injection h with h
    subst h
    exact Nat.zero_le _
  | j + 1, a, hj, h => by
    rw [d.parts_succ p.parts j (by omega)] at h
    unfold Disk.addPart at h
    cases ha : d.parts (p.parts.take j) with
    | none => rw [ha] at h; cases h
    | some b =>
      rw [ha] at h
      dsimp only at h
      cases hl : d.part p.parts[j] with
      | none => rw [hl] at h; cases h
      | some l =>
        rw [hl] at h
        injection h with h
        have h1 := parts_len hp j b (by omega) ha
        have h2 := parts_bd hp (by omega) hl
        rw [← h, List.length_append]
        omega
theorem open_bd (d : Disk) : d.open_.plan.parts.length ≤ 40 ∧ d.open_.records.length ≤ 164000 := by
  have hbad : ∀ c, (LogState.bad c).plan.parts.length ≤ 40 ∧ (LogState.bad c).records.length ≤ 164000 := fun c => ⟨Nat.zero_le _, Nat.zero_le _⟩
  by_cases hok : tb d.ok = true
  rotate_left
  · rw [stopen_no (by simpa using hok)]
    exact hbad 7
  by_cases hk : d.newest.2 = 0
  · rw [stopen_none (p := d.newest.1) hok (by rw [← hk])]
    exact hbad 1
  have hp := newest_ok d hk
  cases ha : d.parts d.newest.1.parts with
  | none =>
    rw [stopen_lost (p := d.newest.1) (k := d.newest.2) hok rfl hk ha]
    exact hbad 2
  | some a =>
    by_cases hr : d.lookB (segName d.newest.1.open_) = true ∧ Runs d.newest.1.first (frFrom (d.lookT (segName d.newest.1.open_)) 0).1
    · rw [stopen_yes (p := d.newest.1) (k := d.newest.2) hok rfl hk ha hr]
      have h1 := parts_len hp d.newest.1.parts.length a (Nat.le_refl _) (by rw [List.take_length]; exact ha)
      have h2 := hp.1
      have h3 := (fr_bd (d.lookT (segName d.newest.1.open_))).1
      have h4 := d.look_size (segName d.newest.1.open_)
      refine ⟨h2, ?_⟩
      show (a ++ _).length ≤ _
      rw [List.length_append]
      omega
    · rw [stopen_torn (p := d.newest.1) (k := d.newest.2) hok rfl hk ha hr]
      exact hbad 2
theorem open_cnt (d : Disk) : d.open_.cntTop ≤ 400000 := by
  have h := open_bd d
  have h2 := recS_cnt d.open_.records
  rw [LogState.cntTop_eq, partS_cnt]
  omega
end Go.Proofs.YtddjgbhkfdpffaaGreatDoor
set_option linter.unusedVariables false
set_option linter.unusedSimpArgs false
namespace Go.Proofs.YtddjgbhkfdpffaaGreatDoor
open Go.ChangeShapes Go.WideShapes Go.ChangeAt Go.RowKit

theorem rowTouch {fp : List Nat} {w w2 : World} {g : Nat} {e : TypeId} {cs : List Value} (h : Row w g e cs) (ht : Touch fp w w2) (hn : g ∉ fp) : Row w2 g e cs := (ht.block _ h.lt hn).trans h

set_option maxRecDepth 100000 in
set_option maxHeartbeats 4000000 in
theorem lawFnExactLogOpen_any (w : World) (x0 : Disk) (us0 : List Value) (fp0 : List Nat) (ho0 : OwC w x0.cells us0 fp0) (hl0 : Lt fp0 w.heap.size) (ht : Lay w) (hw7 : 7 < w.heap.size) :
    Calls Tryz.prog 3 #[.agg us0.toArray] w fun e w' => e = .returned (.bool true) ∧ Below w.heap.size w w' := by
  have HTB := hide ht
  clear ht
  have B0 := hide (Below.refl w.heap.size w)
  have HO0 := hide ho0
  obtain ⟨a0A1, a0c1, a0A2, a0c2, a0A3, a0c3, a0f1, a0f2, a0f3, rfl, a0o1, a0o2, a0o3, efp0⟩ := ho0.oDisk
  clear ho0 a0o1 a0o2 a0o3
  have hAQ0 : Below w.heap.size w (w.alloc (.cells #[.slice a0A1 x0.files.length a0c1, .slice a0A2 x0.names.length a0c2, .slice a0A3 x0.moves.length a0c3] 26)) := (Below.refl _ _).alloc (Nat.le_refl _) _
  have BQ0 := hide (B0.out.trans (hAQ0.mono B0.out.size))
  have Q0 : Row (w.alloc (.cells #[.slice a0A1 x0.files.length a0c1, .slice a0A2 x0.names.length a0c2, .slice a0A3 x0.moves.length a0c3] 26)) w.heap.size 26 [.slice a0A1 x0.files.length a0c1, .slice a0A2 x0.names.length a0c2, .slice a0A3 x0.moves.length a0c3] := Row.new w _ _
  clear hAQ0
  obtain ⟨r0, hr0⟩ : ∃ r, r = x0.open_ := ⟨_, rfl⟩
  have HR0 := hide hr0
  clear hr0
  go_enter Tryz.func3, Tryz.ntmps3
  -- boxes of the parameters
  have c0_Q0_0 := Q0.cell 0
  have c0_Q0_1 := Q0.cell 1
  have c0_Q0_2 := Q0.cell 2
  have lt0_Q0 := Q0.lt
  go_wp2_with fail
  refine (szDisk_any x0 _ _ _ _ (HO0.out.below BQ0.out hl0) (hl0.up BQ0.out) (by omega) (by omega)).mono ?_
  rintro e u1 ⟨rfl, hb1⟩
  clear c0_Q0_0 c0_Q0_1 c0_Q0_2 lt0_Q0
  have S1 := hide (show w.heap.size + 1 ≤ u1.heap.size from by have := hb1.size; simpa only [World.size_alloc, size_setRow] using this)
  have B1 := hide (BQ0.out.trans (hb1.mono BQ0.out.size))
  have Q0 := Q0.below hb1 Q0.lt
  clear hb1
  have c1_Q0_0 := Q0.cell 0
  have c1_Q0_1 := Q0.cell 1
  have c1_Q0_2 := Q0.cell 2
  have lt1_Q0 := Q0.lt
  by_cases hbk0 : ((x0.bulk : Nat) : Int) ≤ (1048576 : Int)
  · rw [szr_yes hbk0]
    have hcr0 : r0.cntTop ≤ 400000 := by rw [HR0.out]; exact open_cnt x0
    have hx0 := x0.cntTop_bulk
    go_wp2_with fail
    refine (toDisk_any x0 _ _ _ (HO0.out.below B1.out hl0) (hl0.up B1.out) (by omega)).mono ?_
    rintro e u2 ⟨vwt0, fwt0, rfl, ywt0, zwt0, hb2⟩
    clear c1_Q0_0 c1_Q0_1 c1_Q0_2 lt1_Q0
    have S2 := hide (show u1.heap.size ≤ u2.heap.size from by have := hb2.size; simpa only [World.size_alloc, size_setRow] using this)
    have B2 := hide (B1.out.trans (hb2.mono B1.out.size))
    have Q0 := Q0.below hb2 Q0.lt
    have Owt0 := hide ywt0
    have Nwt0 := hide zwt0
    have Lwt0 := hide (show ∀ g ∈ fwt0, u1.heap.size ≤ g ∧ g < u2.heap.size from fun g hg => ⟨by have := (zwt0.fr g hg).1; simpa only [World.size_alloc, size_setRow] using this, zwt0.lt g hg⟩)
    clear ywt0 zwt0
    clear hb2
    have lt2_Q0 := Q0.lt
    go_wp2_with fail
    refine (specLogOpen_any x0 _ _ _ Owt0.out Nwt0.out.lt (by omega)).mono ?_
    rintro e u3 ⟨vw0, fw0, rfl, yw0, zw0, hb3⟩
    clear lt2_Q0
    have S3 := hide (show u2.heap.size ≤ u3.heap.size from by have := hb3.size; simpa only [World.size_alloc, size_setRow] using this)
    have B3 := hide (B2.out.trans (hb3.mono B2.out.size))
    have Q0 := Q0.below hb3 Q0.lt
    have Owt0 := hide (Owt0.out.below hb3 Nwt0.out.lt)
    have Nwt0 := hide (Nwt0.out.below hb3 Nwt0.out.lt)
    clear hb3
    rw [← HR0.out] at yw0
    have Ow0 := hide yw0
    have Nw0 := hide zw0
    have Lw0 := hide (show ∀ g ∈ fw0, u2.heap.size ≤ g ∧ g < u3.heap.size from fun g hg => ⟨by have := (zw0.fr g hg).1; simpa only [World.size_alloc, size_setRow] using this, zw0.lt g hg⟩)
    clear yw0 zw0
    have Tw0 := Ow0.out
    obtain ⟨w0A1, w0c1, w0A2, w0c2, w0f1, w0f2, rfl, w0w0, w0w1, w0o1, w0w3, w0w4, w0w5, w0w7, w0o2, w0ef⟩ := Tw0.oLogState
    clear Tw0 w0o1 w0o2
    have hAPw0 : Below u3.heap.size u3 (u3.alloc (.cells #[.int .i64 r0.code, .int .i64 r0.num, .slice w0A1 r0.plan.parts.length w0c1, .int .i64 r0.plan.open_, .int .i64 r0.plan.first, .int .i64 r0.size, .bool r0.torn, .int .i64 r0.next, .slice w0A2 r0.records.length w0c2] 33)) := (Below.refl _ _).alloc (Nat.le_refl _) _
    have BPw0 := hide (B3.out.trans (hAPw0.mono B3.out.size))
    have Q0 := Q0.below hAPw0 Q0.lt
    have Ow0 := hide (Ow0.out.below hAPw0 Nw0.out.lt)
    have Nw0 := hide (Nw0.out.below hAPw0 Nw0.out.lt)
    have Pw0 : Row (u3.alloc (.cells #[.int .i64 r0.code, .int .i64 r0.num, .slice w0A1 r0.plan.parts.length w0c1, .int .i64 r0.plan.open_, .int .i64 r0.plan.first, .int .i64 r0.size, .bool r0.torn, .int .i64 r0.next, .slice w0A2 r0.records.length w0c2] 33)) u3.heap.size 33 [.int .i64 r0.code, .int .i64 r0.num, .slice w0A1 r0.plan.parts.length w0c1, .int .i64 r0.plan.open_, .int .i64 r0.plan.first, .int .i64 r0.size, .bool r0.torn, .int .i64 r0.next, .slice w0A2 r0.records.length w0c2] := Row.new u3 _ _
    clear hAPw0
    have c3_Q0_0 := Q0.cell 0
    have c3_Q0_1 := Q0.cell 1
    have c3_Q0_2 := Q0.cell 2
    have c3_Pw0_0 := Pw0.cell 0
    have c3_Pw0_1 := Pw0.cell 1
    have c3_Pw0_2 := Pw0.cell 2
    have c3_Pw0_3 := Pw0.cell 3
    have c3_Pw0_4 := Pw0.cell 4
    have c3_Pw0_5 := Pw0.cell 5
    have c3_Pw0_6 := Pw0.cell 6
    have c3_Pw0_7 := Pw0.cell 7
    have c3_Pw0_8 := Pw0.cell 8
    have lt3_Q0 := Q0.lt
    have lt3_Pw0 := Pw0.lt
    go_wp2_with fail
    refine (toDisk_any x0 _ _ _ (HO0.out.below BPw0.out hl0) (hl0.up BPw0.out) (by omega)).mono ?_
    rintro e u4 ⟨vx0, fx0, rfl, yx0, zx0, hb4⟩
    clear c3_Q0_0 c3_Q0_1 c3_Q0_2 c3_Pw0_0 c3_Pw0_1 c3_Pw0_2 c3_Pw0_3 c3_Pw0_4 c3_Pw0_5 c3_Pw0_6 c3_Pw0_7 c3_Pw0_8 lt3_Q0 lt3_Pw0
    have S4 := hide (show u3.heap.size + 1 ≤ u4.heap.size from by have := hb4.size; simpa only [World.size_alloc, size_setRow] using this)
    have B4 := hide (BPw0.out.trans (hb4.mono BPw0.out.size))
    have Q0 := Q0.below hb4 Q0.lt
    have Pw0 := Pw0.below hb4 Pw0.lt
    have Ow0 := hide (Ow0.out.below hb4 Nw0.out.lt)
    have Nw0 := hide (Nw0.out.below hb4 Nw0.out.lt)
    have Ox0 := hide yx0
    have Nx0 := hide zx0
    have Lx0 := hide (show ∀ g ∈ fx0, u3.heap.size + 1 ≤ g ∧ g < u4.heap.size from fun g hg => ⟨by have := (zx0.fr g hg).1; simpa only [World.size_alloc, size_setRow] using this, zx0.lt g hg⟩)
    clear yx0 zx0
    clear hb4
    have Tx0 := Ox0.out
    obtain ⟨x0A1, x0c1, x0A2, x0c2, x0A3, x0c3, x0f1, x0f2, x0f3, rfl, x0o1, x0o2, x0o3, x0ef⟩ := Tx0.oDisk
    clear Tx0 x0o1 x0o2 x0o3
    have hAPx0 : Below u4.heap.size u4 (u4.alloc (.cells #[.slice x0A1 x0.files.length x0c1, .slice x0A2 x0.names.length x0c2, .slice x0A3 x0.moves.length x0c3] 38)) := (Below.refl _ _).alloc (Nat.le_refl _) _
    have BPx0 := hide (B4.out.trans (hAPx0.mono B4.out.size))
    have Q0 := Q0.below hAPx0 Q0.lt
    have Pw0 := Pw0.below hAPx0 Pw0.lt
    have Ow0 := hide (Ow0.out.below hAPx0 Nw0.out.lt)
    have Nw0 := hide (Nw0.out.below hAPx0 Nw0.out.lt)
    have Ox0 := hide (Ox0.out.below hAPx0 Nx0.out.lt)
    have Nx0 := hide (Nx0.out.below hAPx0 Nx0.out.lt)
    have Px0 : Row (u4.alloc (.cells #[.slice x0A1 x0.files.length x0c1, .slice x0A2 x0.names.length x0c2, .slice x0A3 x0.moves.length x0c3] 38)) u4.heap.size 38 [.slice x0A1 x0.files.length x0c1, .slice x0A2 x0.names.length x0c2, .slice x0A3 x0.moves.length x0c3] := Row.new u4 _ _
    clear hAPx0
    have c4_Q0_0 := Q0.cell 0
    have c4_Q0_1 := Q0.cell 1
    have c4_Q0_2 := Q0.cell 2
    have c4_Pw0_0 := Pw0.cell 0
    have c4_Pw0_1 := Pw0.cell 1
    have c4_Pw0_2 := Pw0.cell 2
    have c4_Pw0_3 := Pw0.cell 3
    have c4_Pw0_4 := Pw0.cell 4
    have c4_Pw0_5 := Pw0.cell 5
    have c4_Pw0_6 := Pw0.cell 6
    have c4_Pw0_7 := Pw0.cell 7
    have c4_Pw0_8 := Pw0.cell 8
    have c4_Px0_0 := Px0.cell 0
    have c4_Px0_1 := Px0.cell 1
    have c4_Px0_2 := Px0.cell 2
    have lt4_Q0 := Q0.lt
    have lt4_Pw0 := Pw0.lt
    have lt4_Px0 := Px0.lt
    go_wp2_with fail
    refine (implLogOpen_any x0 _ _ _ Ox0.out Nx0.out.lt (by omega) (HTB.out.below BPx0.out) (by have := BPx0.out.size; (try simp only [World.size_alloc, size_setRow] at this ⊢); omega)).mono ?_
    rintro e u5 ⟨vg0, fg0, rfl, yg0, zg0, hb5⟩
    clear c4_Q0_0 c4_Q0_1 c4_Q0_2 c4_Pw0_0 c4_Pw0_1 c4_Pw0_2 c4_Pw0_3 c4_Pw0_4 c4_Pw0_5 c4_Pw0_6 c4_Pw0_7 c4_Pw0_8 c4_Px0_0 c4_Px0_1 c4_Px0_2 lt4_Q0 lt4_Pw0 lt4_Px0
    have S5 := hide (show u4.heap.size + 1 ≤ u5.heap.size from by have := hb5.size; simpa only [World.size_alloc, size_setRow] using this)
    have B5 := hide (BPx0.out.trans (hb5.mono BPx0.out.size))
    have Q0 := Q0.below hb5 Q0.lt
    have Pw0 := Pw0.below hb5 Pw0.lt
    have Px0 := Px0.below hb5 Px0.lt
    have Ow0 := hide (Ow0.out.below hb5 Nw0.out.lt)
    have Nw0 := hide (Nw0.out.below hb5 Nw0.out.lt)
    have Ox0 := hide (Ox0.out.below hb5 Nx0.out.lt)
    have Nx0 := hide (Nx0.out.below hb5 Nx0.out.lt)
    clear hb5
    rw [← HR0.out] at yg0
    have Og0 := hide yg0
    have Ng0 := hide zg0
    have Lg0 := hide (show ∀ g ∈ fg0, u4.heap.size + 1 ≤ g ∧ g < u5.heap.size from fun g hg => ⟨by have := (zg0.fr g hg).1; simpa only [World.size_alloc, size_setRow] using this, zg0.lt g hg⟩)
    clear yg0 zg0
    have Tg0 := Og0.out
    obtain ⟨g0A1, g0c1, g0A2, g0c2, g0f1, g0f2, rfl, g0w0, g0w1, g0o1, g0w3, g0w4, g0w5, g0w7, g0o2, g0ef⟩ := Tg0.oLogState
    clear Tg0 g0o1 g0o2
    have hAPg0 : Below u5.heap.size u5 (u5.alloc (.cells #[.int .i64 r0.code, .int .i64 r0.num, .slice g0A1 r0.plan.parts.length g0c1, .int .i64 r0.plan.open_, .int .i64 r0.plan.first, .int .i64 r0.size, .bool r0.torn, .int .i64 r0.next, .slice g0A2 r0.records.length g0c2] 33)) := (Below.refl _ _).alloc (Nat.le_refl _) _
    have BPg0 := hide (B5.out.trans (hAPg0.mono B5.out.size))
    have Q0 := Q0.below hAPg0 Q0.lt
    have Pw0 := Pw0.below hAPg0 Pw0.lt
    have Px0 := Px0.below hAPg0 Px0.lt
    have Ow0 := hide (Ow0.out.below hAPg0 Nw0.out.lt)
    have Nw0 := hide (Nw0.out.below hAPg0 Nw0.out.lt)
    have Ox0 := hide (Ox0.out.below hAPg0 Nx0.out.lt)
    have Nx0 := hide (Nx0.out.below hAPg0 Nx0.out.lt)
    have Og0 := hide (Og0.out.below hAPg0 Ng0.out.lt)
    have Ng0 := hide (Ng0.out.below hAPg0 Ng0.out.lt)
    have Pg0 : Row (u5.alloc (.cells #[.int .i64 r0.code, .int .i64 r0.num, .slice g0A1 r0.plan.parts.length g0c1, .int .i64 r0.plan.open_, .int .i64 r0.plan.first, .int .i64 r0.size, .bool r0.torn, .int .i64 r0.next, .slice g0A2 r0.records.length g0c2] 33)) u5.heap.size 33 [.int .i64 r0.code, .int .i64 r0.num, .slice g0A1 r0.plan.parts.length g0c1, .int .i64 r0.plan.open_, .int .i64 r0.plan.first, .int .i64 r0.size, .bool r0.torn, .int .i64 r0.next, .slice g0A2 r0.records.length g0c2] := Row.new u5 _ _
    clear hAPg0
    have c5_Q0_0 := Q0.cell 0
    have c5_Q0_1 := Q0.cell 1
    have c5_Q0_2 := Q0.cell 2
    have c5_Pw0_0 := Pw0.cell 0
    have c5_Pw0_1 := Pw0.cell 1
    have c5_Pw0_2 := Pw0.cell 2
    have c5_Pw0_3 := Pw0.cell 3
    have c5_Pw0_4 := Pw0.cell 4
    have c5_Pw0_5 := Pw0.cell 5
    have c5_Pw0_6 := Pw0.cell 6
    have c5_Pw0_7 := Pw0.cell 7
    have c5_Pw0_8 := Pw0.cell 8
    have c5_Px0_0 := Px0.cell 0
    have c5_Px0_1 := Px0.cell 1
    have c5_Px0_2 := Px0.cell 2
    have c5_Pg0_0 := Pg0.cell 0
    have c5_Pg0_1 := Pg0.cell 1
    have c5_Pg0_2 := Pg0.cell 2
    have c5_Pg0_3 := Pg0.cell 3
    have c5_Pg0_4 := Pg0.cell 4
    have c5_Pg0_5 := Pg0.cell 5
    have c5_Pg0_6 := Pg0.cell 6
    have c5_Pg0_7 := Pg0.cell 7
    have c5_Pg0_8 := Pg0.cell 8
    have lt5_Q0 := Q0.lt
    have lt5_Pw0 := Pw0.lt
    have lt5_Px0 := Px0.lt
    have lt5_Pg0 := Pg0.lt
    go_wp2_with fail
    refine (eqLogState_any r0 _ _ _ _ _ Og0.out Ow0.out Ng0.out.lt Nw0.out.lt).mono ?_
    rintro e u6 ⟨rfl, hb6⟩
    clear c5_Q0_0 c5_Q0_1 c5_Q0_2 c5_Pw0_0 c5_Pw0_1 c5_Pw0_2 c5_Pw0_3 c5_Pw0_4 c5_Pw0_5 c5_Pw0_6 c5_Pw0_7 c5_Pw0_8 c5_Px0_0 c5_Px0_1 c5_Px0_2 c5_Pg0_0 c5_Pg0_1 c5_Pg0_2 c5_Pg0_3 c5_Pg0_4 c5_Pg0_5 c5_Pg0_6 c5_Pg0_7 c5_Pg0_8 lt5_Q0 lt5_Pw0 lt5_Px0 lt5_Pg0
    have S6 := hide (show u5.heap.size + 1 ≤ u6.heap.size from by have := hb6.size; simpa only [World.size_alloc, size_setRow] using this)
    have B6 := hide (BPg0.out.trans (hb6.mono BPg0.out.size))
    have Q0 := Q0.below hb6 Q0.lt
    have Pw0 := Pw0.below hb6 Pw0.lt
    have Px0 := Px0.below hb6 Px0.lt
    have Pg0 := Pg0.below hb6 Pg0.lt
    have Ow0 := hide (Ow0.out.below hb6 Nw0.out.lt)
    have Nw0 := hide (Nw0.out.below hb6 Nw0.out.lt)
    have Ox0 := hide (Ox0.out.below hb6 Nx0.out.lt)
    have Nx0 := hide (Nx0.out.below hb6 Nx0.out.lt)
    have Og0 := hide (Og0.out.below hb6 Ng0.out.lt)
    have Ng0 := hide (Ng0.out.below hb6 Ng0.out.lt)
    clear hb6
    have c6_Q0_0 := Q0.cell 0
    have c6_Q0_1 := Q0.cell 1
    have c6_Q0_2 := Q0.cell 2
    have c6_Pw0_0 := Pw0.cell 0
    have c6_Pw0_1 := Pw0.cell 1
    have c6_Pw0_2 := Pw0.cell 2
    have c6_Pw0_3 := Pw0.cell 3
    have c6_Pw0_4 := Pw0.cell 4
    have c6_Pw0_5 := Pw0.cell 5
    have c6_Pw0_6 := Pw0.cell 6
    have c6_Pw0_7 := Pw0.cell 7
    have c6_Pw0_8 := Pw0.cell 8
    have c6_Px0_0 := Px0.cell 0
    have c6_Px0_1 := Px0.cell 1
    have c6_Px0_2 := Px0.cell 2
    have c6_Pg0_0 := Pg0.cell 0
    have c6_Pg0_1 := Pg0.cell 1
    have c6_Pg0_2 := Pg0.cell 2
    have c6_Pg0_3 := Pg0.cell 3
    have c6_Pg0_4 := Pg0.cell 4
    have c6_Pg0_5 := Pg0.cell 5
    have c6_Pg0_6 := Pg0.cell 6
    have c6_Pg0_7 := Pg0.cell 7
    have c6_Pg0_8 := Pg0.cell 8
    have lt6_Q0 := Q0.lt
    have lt6_Pw0 := Pw0.lt
    have lt6_Px0 := Px0.lt
    have lt6_Pg0 := Pg0.lt
    go_wp2
    go_region_held3 (fun w' => w'.cell? ⟨w.heap.size, 0, none⟩ = some (.slice a0A1 x0.files.length a0c1) ∧ w'.cell? ⟨w.heap.size, 1, none⟩ = some (.slice a0A2 x0.names.length a0c2) ∧ w'.cell? ⟨w.heap.size, 2, none⟩ = some (.slice a0A3 x0.moves.length a0c3) ∧ w'.cell? ⟨u4.heap.size, 0, none⟩ = some (.slice x0A1 x0.files.length x0c1) ∧ w'.cell? ⟨u4.heap.size, 1, none⟩ = some (.slice x0A2 x0.names.length x0c2) ∧ w'.cell? ⟨u4.heap.size, 2, none⟩ = some (.slice x0A3 x0.moves.length x0c3))
      (first | go_keep | exact ⟨me0_1_Q0.cell 0, me0_1_Q0.cell 1, me0_1_Q0.cell 2, me0_1_Px0.cell 0, me0_1_Px0.cell 1, me0_1_Px0.cell 2⟩ | exact ⟨me0_0_Q0.cell 0, me0_0_Q0.cell 1, me0_0_Q0.cell 2, me0_0_Px0.cell 0, me0_0_Px0.cell 1, me0_0_Px0.cell 2⟩)
      (first
        | (go_at_call 11; refine (eqDisk_any x0 _ _ _ _ _ ((Ox0.out.drewN 1).below he0_0 (by exact Nx0.out.lt)) ye0 (by exact (Nx0.out.lt.mono he0_0.size)) ze0.lt).mono ?_; rintro e ue0_1 ⟨rfl, he0_1⟩; have me0_1_Q0 := me0_0_Q0.below he0_1 me0_0_Q0.lt; have me0_1_Px0 := me0_0_Px0.below he0_1 me0_0_Px0.lt)
        | (go_at_call 8; refine (toDisk_any x0 _ _ _ (HO0.out.below B6.out.drew hl0) (hl0.up B6.out.drew) (by omega)).mono ?_; rintro e ue0_0 ⟨ve0, fe0, rfl, ye0, ze0, he0_0⟩; have me0_0_Q0 := (Q0.drewN 1).below he0_0 (by exact Q0.lt); have me0_0_Px0 := (Px0.drewN 1).below he0_0 (by exact Px0.lt)))
    clear c6_Q0_0 c6_Q0_1 c6_Q0_2 c6_Pw0_0 c6_Pw0_1 c6_Pw0_2 c6_Pw0_3 c6_Pw0_4 c6_Pw0_5 c6_Pw0_6 c6_Pw0_7 c6_Pw0_8 c6_Px0_0 c6_Px0_1 c6_Px0_2 c6_Pg0_0 c6_Pg0_1 c6_Pg0_2 c6_Pg0_3 c6_Pg0_4 c6_Pg0_5 c6_Pg0_6 c6_Pg0_7 c6_Pg0_8 lt6_Q0 lt6_Pw0 lt6_Px0 lt6_Pg0
    have hze0 : Below u6.heap.size u6 ue0_0 := ⟨he0_0.os, he0_0.tape, he0_0.output, he0_0.size, he0_0.block⟩
    clear me0_0_Q0 me0_0_Px0 me0_1_Q0 me0_1_Px0
    have S7 := hide (show u6.heap.size ≤ ue0_0.heap.size from by have := hze0.size; simpa only [World.size_alloc, size_setRow] using this)
    have B7 := hide (B6.out.trans (hze0.mono B6.out.size))
    have Q0 := Q0.below hze0 Q0.lt
    have Pw0 := Pw0.below hze0 Pw0.lt
    have Px0 := Px0.below hze0 Px0.lt
    have Pg0 := Pg0.below hze0 Pg0.lt
    have Ow0 := hide (Ow0.out.below hze0 Nw0.out.lt)
    have Nw0 := hide (Nw0.out.below hze0 Nw0.out.lt)
    have Ox0 := hide (Ox0.out.below hze0 Nx0.out.lt)
    have Nx0 := hide (Nx0.out.below hze0 Nx0.out.lt)
    have Og0 := hide (Og0.out.below hze0 Ng0.out.lt)
    have Ng0 := hide (Ng0.out.below hze0 Ng0.out.lt)
    have S8 := hide (show ue0_0.heap.size ≤ ue0_1.heap.size from by have := he0_1.size; simpa only [World.size_alloc, size_setRow] using this)
    have B8 := hide (B7.out.trans (he0_1.mono B7.out.size))
    have Q0 := Q0.below he0_1 Q0.lt
    have Pw0 := Pw0.below he0_1 Pw0.lt
    have Px0 := Px0.below he0_1 Px0.lt
    have Pg0 := Pg0.below he0_1 Pg0.lt
    have Ow0 := hide (Ow0.out.below he0_1 Nw0.out.lt)
    have Nw0 := hide (Nw0.out.below he0_1 Nw0.out.lt)
    have Ox0 := hide (Ox0.out.below he0_1 Nx0.out.lt)
    have Nx0 := hide (Nx0.out.below he0_1 Nx0.out.lt)
    have Og0 := hide (Og0.out.below he0_1 Ng0.out.lt)
    have Ng0 := hide (Ng0.out.below he0_1 Ng0.out.lt)
    clear he0_0 he0_1 hze0
    clear ye0 ze0
    have c8_Q0_0 := Q0.cell 0
    have c8_Q0_1 := Q0.cell 1
    have c8_Q0_2 := Q0.cell 2
    have c8_Pw0_0 := Pw0.cell 0
    have c8_Pw0_1 := Pw0.cell 1
    have c8_Pw0_2 := Pw0.cell 2
    have c8_Pw0_3 := Pw0.cell 3
    have c8_Pw0_4 := Pw0.cell 4
    have c8_Pw0_5 := Pw0.cell 5
    have c8_Pw0_6 := Pw0.cell 6
    have c8_Pw0_7 := Pw0.cell 7
    have c8_Pw0_8 := Pw0.cell 8
    have c8_Px0_0 := Px0.cell 0
    have c8_Px0_1 := Px0.cell 1
    have c8_Px0_2 := Px0.cell 2
    have c8_Pg0_0 := Pg0.cell 0
    have c8_Pg0_1 := Pg0.cell 1
    have c8_Pg0_2 := Pg0.cell 2
    have c8_Pg0_3 := Pg0.cell 3
    have c8_Pg0_4 := Pg0.cell 4
    have c8_Pg0_5 := Pg0.cell 5
    have c8_Pg0_6 := Pg0.cell 6
    have c8_Pg0_7 := Pg0.cell 7
    have c8_Pg0_8 := Pg0.cell 8
    have lt8_Q0 := Q0.lt
    have lt8_Pw0 := Pw0.lt
    have lt8_Px0 := Px0.lt
    have lt8_Pg0 := Pg0.lt
    go_wp2_with fail
    refine (markDisk_any x0 _ fx0 _ _ (1) _ (by omega) Ox0.out Nx0.out (by omega)).mono ?_
    rintro e u9 ⟨lx0, rfl, ox0, kx0, ht9⟩
    clear c8_Q0_0 c8_Q0_1 c8_Q0_2 c8_Pw0_0 c8_Pw0_1 c8_Pw0_2 c8_Pw0_3 c8_Pw0_4 c8_Pw0_5 c8_Pw0_6 c8_Pw0_7 c8_Pw0_8 c8_Px0_0 c8_Px0_1 c8_Px0_2 c8_Pg0_0 c8_Pg0_1 c8_Pg0_2 c8_Pg0_3 c8_Pg0_4 c8_Pg0_5 c8_Pg0_6 c8_Pg0_7 c8_Pg0_8 lt8_Q0 lt8_Pw0 lt8_Px0 lt8_Pg0
    have S9 := hide (show ue0_1.heap.size ≤ u9.heap.size from ht9.size)
    have B9 := hide (B8.out.trans (ht9.to_below B8.out.size (fun g hg => by have := Lx0.out g hg; have := S1.out; have := S2.out; have := S3.out; have := S4.out; have := S5.out; have := S6.out; have := S7.out; have := S8.out; omega)))
    have Q0 := rowTouch Q0 ht9 (fun hg => by have := Lx0.out _ hg; have := S1.out; have := S2.out; have := S3.out; have := S4.out; have := S5.out; have := S6.out; have := S7.out; have := S8.out; omega)
    have Pw0 := rowTouch Pw0 ht9 (fun hg => by have := Lx0.out _ hg; have := S1.out; have := S2.out; have := S3.out; have := S4.out; have := S5.out; have := S6.out; have := S7.out; have := S8.out; omega)
    have Px0 := rowTouch Px0 ht9 (fun hg => by have := Lx0.out _ hg; have := S1.out; have := S2.out; have := S3.out; have := S4.out; have := S5.out; have := S6.out; have := S7.out; have := S8.out; omega)
    have Pg0 := rowTouch Pg0 ht9 (fun hg => by have := Lx0.out _ hg; have := S1.out; have := S2.out; have := S3.out; have := S4.out; have := S5.out; have := S6.out; have := S7.out; have := S8.out; omega)
    have Ow0 := hide (Ow0.out.touch ht9 Nw0.out.lt (fun g hg hg2 => by have := Lw0.out g hg; have := Lx0.out g hg2; have := S1.out; have := S2.out; have := S3.out; have := S4.out; have := S5.out; have := S6.out; have := S7.out; have := S8.out; omega))
    have Nw0 := hide (ht9.new Nw0.out)
    have Og0 := hide (Og0.out.touch ht9 Ng0.out.lt (fun g hg hg2 => by have := Lg0.out g hg; have := Lx0.out g hg2; have := S1.out; have := S2.out; have := S3.out; have := S4.out; have := S5.out; have := S6.out; have := S7.out; have := S8.out; omega))
    have Ng0 := hide (ht9.new Ng0.out)
    have Ox0 := hide ox0
    have Nx0 := hide (ht9.new Nx0.out)
    have Kx0 := hide kx0
    clear ox0 kx0 ht9
    have c9_Q0_0 := Q0.cell 0
    have c9_Q0_1 := Q0.cell 1
    have c9_Q0_2 := Q0.cell 2
    have c9_Pw0_0 := Pw0.cell 0
    have c9_Pw0_1 := Pw0.cell 1
    have c9_Pw0_2 := Pw0.cell 2
    have c9_Pw0_3 := Pw0.cell 3
    have c9_Pw0_4 := Pw0.cell 4
    have c9_Pw0_5 := Pw0.cell 5
    have c9_Pw0_6 := Pw0.cell 6
    have c9_Pw0_7 := Pw0.cell 7
    have c9_Pw0_8 := Pw0.cell 8
    have c9_Px0_0 := Px0.cell 0
    have c9_Px0_1 := Px0.cell 1
    have c9_Px0_2 := Px0.cell 2
    have c9_Pg0_0 := Pg0.cell 0
    have c9_Pg0_1 := Pg0.cell 1
    have c9_Pg0_2 := Pg0.cell 2
    have c9_Pg0_3 := Pg0.cell 3
    have c9_Pg0_4 := Pg0.cell 4
    have c9_Pg0_5 := Pg0.cell 5
    have c9_Pg0_6 := Pg0.cell 6
    have c9_Pg0_7 := Pg0.cell 7
    have c9_Pg0_8 := Pg0.cell 8
    have lt9_Q0 := Q0.lt
    have lt9_Pw0 := Pw0.lt
    have lt9_Px0 := Px0.lt
    have lt9_Pg0 := Pg0.lt
    go_wp2_with fail
    refine (eqLogState_any r0 _ _ _ _ _ Og0.out Ow0.out Ng0.out.lt Nw0.out.lt).mono ?_
    rintro e u10 ⟨rfl, hb10⟩
    clear c9_Q0_0 c9_Q0_1 c9_Q0_2 c9_Pw0_0 c9_Pw0_1 c9_Pw0_2 c9_Pw0_3 c9_Pw0_4 c9_Pw0_5 c9_Pw0_6 c9_Pw0_7 c9_Pw0_8 c9_Px0_0 c9_Px0_1 c9_Px0_2 c9_Pg0_0 c9_Pg0_1 c9_Pg0_2 c9_Pg0_3 c9_Pg0_4 c9_Pg0_5 c9_Pg0_6 c9_Pg0_7 c9_Pg0_8 lt9_Q0 lt9_Pw0 lt9_Px0 lt9_Pg0
    have S10 := hide (show u9.heap.size ≤ u10.heap.size from by have := hb10.size; simpa only [World.size_alloc, size_setRow] using this)
    have B10 := hide (B9.out.trans (hb10.mono B9.out.size))
    have Q0 := Q0.below hb10 Q0.lt
    have Pw0 := Pw0.below hb10 Pw0.lt
    have Pg0 := Pg0.below hb10 Pg0.lt
    have Ow0 := hide (Ow0.out.below hb10 Nw0.out.lt)
    have Nw0 := hide (Nw0.out.below hb10 Nw0.out.lt)
    have Og0 := hide (Og0.out.below hb10 Ng0.out.lt)
    have Ng0 := hide (Ng0.out.below hb10 Ng0.out.lt)
    clear hb10
    have c10_Q0_0 := Q0.cell 0
    have c10_Q0_1 := Q0.cell 1
    have c10_Q0_2 := Q0.cell 2
    have c10_Pw0_0 := Pw0.cell 0
    have c10_Pw0_1 := Pw0.cell 1
    have c10_Pw0_2 := Pw0.cell 2
    have c10_Pw0_3 := Pw0.cell 3
    have c10_Pw0_4 := Pw0.cell 4
    have c10_Pw0_5 := Pw0.cell 5
    have c10_Pw0_6 := Pw0.cell 6
    have c10_Pw0_7 := Pw0.cell 7
    have c10_Pw0_8 := Pw0.cell 8
    have c10_Pg0_0 := Pg0.cell 0
    have c10_Pg0_1 := Pg0.cell 1
    have c10_Pg0_2 := Pg0.cell 2
    have c10_Pg0_3 := Pg0.cell 3
    have c10_Pg0_4 := Pg0.cell 4
    have c10_Pg0_5 := Pg0.cell 5
    have c10_Pg0_6 := Pg0.cell 6
    have c10_Pg0_7 := Pg0.cell 7
    have c10_Pg0_8 := Pg0.cell 8
    have lt10_Q0 := Q0.lt
    have lt10_Pw0 := Pw0.lt
    have lt10_Pg0 := Pg0.lt
    go_wp2_with fail
    refine (markLogState_any r0 _ fg0 _ _ (1) _ (by omega) Og0.out Ng0.out (by omega)).mono ?_
    rintro e u11 ⟨lg0, rfl, og0, kg0, ht11⟩
    clear c10_Q0_0 c10_Q0_1 c10_Q0_2 c10_Pw0_0 c10_Pw0_1 c10_Pw0_2 c10_Pw0_3 c10_Pw0_4 c10_Pw0_5 c10_Pw0_6 c10_Pw0_7 c10_Pw0_8 c10_Pg0_0 c10_Pg0_1 c10_Pg0_2 c10_Pg0_3 c10_Pg0_4 c10_Pg0_5 c10_Pg0_6 c10_Pg0_7 c10_Pg0_8 lt10_Q0 lt10_Pw0 lt10_Pg0
    have S11 := hide (show u10.heap.size ≤ u11.heap.size from ht11.size)
    have B11 := hide (B10.out.trans (ht11.to_below B10.out.size (fun g hg => by have := Lg0.out g hg; have := S1.out; have := S2.out; have := S3.out; have := S4.out; have := S5.out; have := S6.out; have := S7.out; have := S8.out; have := S9.out; have := S10.out; omega)))
    have Q0 := rowTouch Q0 ht11 (fun hg => by have := Lg0.out _ hg; have := S1.out; have := S2.out; have := S3.out; have := S4.out; have := S5.out; have := S6.out; have := S7.out; have := S8.out; have := S9.out; have := S10.out; omega)
    have Pw0 := rowTouch Pw0 ht11 (fun hg => by have := Lg0.out _ hg; have := S1.out; have := S2.out; have := S3.out; have := S4.out; have := S5.out; have := S6.out; have := S7.out; have := S8.out; have := S9.out; have := S10.out; omega)
    have Pg0 := rowTouch Pg0 ht11 (fun hg => by have := Lg0.out _ hg; have := S1.out; have := S2.out; have := S3.out; have := S4.out; have := S5.out; have := S6.out; have := S7.out; have := S8.out; have := S9.out; have := S10.out; omega)
    have Ow0 := hide (Ow0.out.touch ht11 Nw0.out.lt (fun g hg hg2 => by have := Lw0.out g hg; have := Lg0.out g hg2; have := S1.out; have := S2.out; have := S3.out; have := S4.out; have := S5.out; have := S6.out; have := S7.out; have := S8.out; have := S9.out; have := S10.out; omega))
    have Nw0 := hide (ht11.new Nw0.out)
    have Og0 := hide og0
    have Ng0 := hide (ht11.new Ng0.out)
    have Kg0 := hide kg0
    clear og0 kg0 ht11
    have c11_Q0_0 := Q0.cell 0
    have c11_Q0_1 := Q0.cell 1
    have c11_Q0_2 := Q0.cell 2
    have c11_Pw0_0 := Pw0.cell 0
    have c11_Pw0_1 := Pw0.cell 1
    have c11_Pw0_2 := Pw0.cell 2
    have c11_Pw0_3 := Pw0.cell 3
    have c11_Pw0_4 := Pw0.cell 4
    have c11_Pw0_5 := Pw0.cell 5
    have c11_Pw0_6 := Pw0.cell 6
    have c11_Pw0_7 := Pw0.cell 7
    have c11_Pw0_8 := Pw0.cell 8
    have c11_Pg0_0 := Pg0.cell 0
    have c11_Pg0_1 := Pg0.cell 1
    have c11_Pg0_2 := Pg0.cell 2
    have c11_Pg0_3 := Pg0.cell 3
    have c11_Pg0_4 := Pg0.cell 4
    have c11_Pg0_5 := Pg0.cell 5
    have c11_Pg0_6 := Pg0.cell 6
    have c11_Pg0_7 := Pg0.cell 7
    have c11_Pg0_8 := Pg0.cell 8
    have lt11_Q0 := Q0.lt
    have lt11_Pw0 := Pw0.lt
    have lt11_Pg0 := Pg0.lt
    go_wp2_with fail
    refine (heldLogState_any lg0 _ fg0 _ (1) (1 + r0.cntTop) _ (by omega) Og0.out Ng0.out.lt Kg0.out (by omega)).mono ?_
    rintro e u12 ⟨rfl, hb12⟩
    clear c11_Q0_0 c11_Q0_1 c11_Q0_2 c11_Pw0_0 c11_Pw0_1 c11_Pw0_2 c11_Pw0_3 c11_Pw0_4 c11_Pw0_5 c11_Pw0_6 c11_Pw0_7 c11_Pw0_8 c11_Pg0_0 c11_Pg0_1 c11_Pg0_2 c11_Pg0_3 c11_Pg0_4 c11_Pg0_5 c11_Pg0_6 c11_Pg0_7 c11_Pg0_8 lt11_Q0 lt11_Pw0 lt11_Pg0
    have S12 := hide (show u11.heap.size ≤ u12.heap.size from by have := hb12.size; simpa only [World.size_alloc, size_setRow] using this)
    have B12 := hide (B11.out.trans (hb12.mono B11.out.size))
    have Q0 := Q0.below hb12 Q0.lt
    have Pw0 := Pw0.below hb12 Pw0.lt
    have Pg0 := Pg0.below hb12 Pg0.lt
    have Ow0 := hide (Ow0.out.below hb12 Nw0.out.lt)
    have Nw0 := hide (Nw0.out.below hb12 Nw0.out.lt)
    have Og0 := hide (Og0.out.below hb12 Ng0.out.lt)
    have Ng0 := hide (Ng0.out.below hb12 Ng0.out.lt)
    clear hb12
    have c12_Q0_0 := Q0.cell 0
    have c12_Q0_1 := Q0.cell 1
    have c12_Q0_2 := Q0.cell 2
    have c12_Pw0_0 := Pw0.cell 0
    have c12_Pw0_1 := Pw0.cell 1
    have c12_Pw0_2 := Pw0.cell 2
    have c12_Pw0_3 := Pw0.cell 3
    have c12_Pw0_4 := Pw0.cell 4
    have c12_Pw0_5 := Pw0.cell 5
    have c12_Pw0_6 := Pw0.cell 6
    have c12_Pw0_7 := Pw0.cell 7
    have c12_Pw0_8 := Pw0.cell 8
    have c12_Pg0_0 := Pg0.cell 0
    have c12_Pg0_1 := Pg0.cell 1
    have c12_Pg0_2 := Pg0.cell 2
    have c12_Pg0_3 := Pg0.cell 3
    have c12_Pg0_4 := Pg0.cell 4
    have c12_Pg0_5 := Pg0.cell 5
    have c12_Pg0_6 := Pg0.cell 6
    have c12_Pg0_7 := Pg0.cell 7
    have c12_Pg0_8 := Pg0.cell 8
    have lt12_Q0 := Q0.lt
    have lt12_Pw0 := Pw0.lt
    have lt12_Pg0 := Pg0.lt
    go_wp2_with fail
    refine (toDisk_any x0 _ _ _ (HO0.out.below B12.out hl0) (hl0.up B12.out) (by omega)).mono ?_
    rintro e u13 ⟨vht0, fht0, rfl, yht0, zht0, hb13⟩
    clear c12_Q0_0 c12_Q0_1 c12_Q0_2 c12_Pw0_0 c12_Pw0_1 c12_Pw0_2 c12_Pw0_3 c12_Pw0_4 c12_Pw0_5 c12_Pw0_6 c12_Pw0_7 c12_Pw0_8 c12_Pg0_0 c12_Pg0_1 c12_Pg0_2 c12_Pg0_3 c12_Pg0_4 c12_Pg0_5 c12_Pg0_6 c12_Pg0_7 c12_Pg0_8 lt12_Q0 lt12_Pw0 lt12_Pg0
    have S13 := hide (show u12.heap.size ≤ u13.heap.size from by have := hb13.size; simpa only [World.size_alloc, size_setRow] using this)
    have B13 := hide (B12.out.trans (hb13.mono B12.out.size))
    have Q0 := Q0.below hb13 Q0.lt
    have Pw0 := Pw0.below hb13 Pw0.lt
    have Pg0 := Pg0.below hb13 Pg0.lt
    have Ow0 := hide (Ow0.out.below hb13 Nw0.out.lt)
    have Nw0 := hide (Nw0.out.below hb13 Nw0.out.lt)
    have Og0 := hide (Og0.out.below hb13 Ng0.out.lt)
    have Ng0 := hide (Ng0.out.below hb13 Ng0.out.lt)
    have Oht0 := hide yht0
    have Nht0 := hide zht0
    have Lht0 := hide (show ∀ g ∈ fht0, u12.heap.size ≤ g ∧ g < u13.heap.size from fun g hg => ⟨by have := (zht0.fr g hg).1; simpa only [World.size_alloc, size_setRow] using this, zht0.lt g hg⟩)
    clear yht0 zht0
    clear hb13
    have lt13_Q0 := Q0.lt
    have lt13_Pw0 := Pw0.lt
    have lt13_Pg0 := Pg0.lt
    go_wp2_with fail
    refine (implLogOpen_any x0 _ _ _ Oht0.out Nht0.out.lt (by omega) (HTB.out.below B13.out) (by have := B13.out.size; (try simp only [World.size_alloc, size_setRow] at this ⊢); omega)).mono ?_
    rintro e u14 ⟨vh0, fh0, rfl, yh0, zh0, hb14⟩
    clear lt13_Q0 lt13_Pw0 lt13_Pg0
    have S14 := hide (show u13.heap.size ≤ u14.heap.size from by have := hb14.size; simpa only [World.size_alloc, size_setRow] using this)
    have B14 := hide (B13.out.trans (hb14.mono B13.out.size))
    have Q0 := Q0.below hb14 Q0.lt
    have Pw0 := Pw0.below hb14 Pw0.lt
    have Pg0 := Pg0.below hb14 Pg0.lt
    have Ow0 := hide (Ow0.out.below hb14 Nw0.out.lt)
    have Nw0 := hide (Nw0.out.below hb14 Nw0.out.lt)
    have Og0 := hide (Og0.out.below hb14 Ng0.out.lt)
    have Ng0 := hide (Ng0.out.below hb14 Ng0.out.lt)
    have Oht0 := hide (Oht0.out.below hb14 Nht0.out.lt)
    have Nht0 := hide (Nht0.out.below hb14 Nht0.out.lt)
    clear hb14
    rw [← HR0.out] at yh0
    have Oh0 := hide yh0
    have Nh0 := hide zh0
    have Lh0 := hide (show ∀ g ∈ fh0, u13.heap.size ≤ g ∧ g < u14.heap.size from fun g hg => ⟨by have := (zh0.fr g hg).1; simpa only [World.size_alloc, size_setRow] using this, zh0.lt g hg⟩)
    clear yh0 zh0
    have Th0 := Oh0.out
    obtain ⟨h0A1, h0c1, h0A2, h0c2, h0f1, h0f2, rfl, h0w0, h0w1, h0o1, h0w3, h0w4, h0w5, h0w7, h0o2, h0ef⟩ := Th0.oLogState
    clear Th0 h0o1 h0o2
    have hAPh0 : Below u14.heap.size u14 (u14.alloc (.cells #[.int .i64 r0.code, .int .i64 r0.num, .slice h0A1 r0.plan.parts.length h0c1, .int .i64 r0.plan.open_, .int .i64 r0.plan.first, .int .i64 r0.size, .bool r0.torn, .int .i64 r0.next, .slice h0A2 r0.records.length h0c2] 33)) := (Below.refl _ _).alloc (Nat.le_refl _) _
    have BPh0 := hide (B14.out.trans (hAPh0.mono B14.out.size))
    have Q0 := Q0.below hAPh0 Q0.lt
    have Pw0 := Pw0.below hAPh0 Pw0.lt
    have Pg0 := Pg0.below hAPh0 Pg0.lt
    have Ow0 := hide (Ow0.out.below hAPh0 Nw0.out.lt)
    have Nw0 := hide (Nw0.out.below hAPh0 Nw0.out.lt)
    have Og0 := hide (Og0.out.below hAPh0 Ng0.out.lt)
    have Ng0 := hide (Ng0.out.below hAPh0 Ng0.out.lt)
    have Oh0 := hide (Oh0.out.below hAPh0 Nh0.out.lt)
    have Nh0 := hide (Nh0.out.below hAPh0 Nh0.out.lt)
    have Ph0 : Row (u14.alloc (.cells #[.int .i64 r0.code, .int .i64 r0.num, .slice h0A1 r0.plan.parts.length h0c1, .int .i64 r0.plan.open_, .int .i64 r0.plan.first, .int .i64 r0.size, .bool r0.torn, .int .i64 r0.next, .slice h0A2 r0.records.length h0c2] 33)) u14.heap.size 33 [.int .i64 r0.code, .int .i64 r0.num, .slice h0A1 r0.plan.parts.length h0c1, .int .i64 r0.plan.open_, .int .i64 r0.plan.first, .int .i64 r0.size, .bool r0.torn, .int .i64 r0.next, .slice h0A2 r0.records.length h0c2] := Row.new u14 _ _
    clear hAPh0
    have c14_Q0_0 := Q0.cell 0
    have c14_Q0_1 := Q0.cell 1
    have c14_Q0_2 := Q0.cell 2
    have c14_Pw0_0 := Pw0.cell 0
    have c14_Pw0_1 := Pw0.cell 1
    have c14_Pw0_2 := Pw0.cell 2
    have c14_Pw0_3 := Pw0.cell 3
    have c14_Pw0_4 := Pw0.cell 4
    have c14_Pw0_5 := Pw0.cell 5
    have c14_Pw0_6 := Pw0.cell 6
    have c14_Pw0_7 := Pw0.cell 7
    have c14_Pw0_8 := Pw0.cell 8
    have c14_Pg0_0 := Pg0.cell 0
    have c14_Pg0_1 := Pg0.cell 1
    have c14_Pg0_2 := Pg0.cell 2
    have c14_Pg0_3 := Pg0.cell 3
    have c14_Pg0_4 := Pg0.cell 4
    have c14_Pg0_5 := Pg0.cell 5
    have c14_Pg0_6 := Pg0.cell 6
    have c14_Pg0_7 := Pg0.cell 7
    have c14_Pg0_8 := Pg0.cell 8
    have c14_Ph0_0 := Ph0.cell 0
    have c14_Ph0_1 := Ph0.cell 1
    have c14_Ph0_2 := Ph0.cell 2
    have c14_Ph0_3 := Ph0.cell 3
    have c14_Ph0_4 := Ph0.cell 4
    have c14_Ph0_5 := Ph0.cell 5
    have c14_Ph0_6 := Ph0.cell 6
    have c14_Ph0_7 := Ph0.cell 7
    have c14_Ph0_8 := Ph0.cell 8
    have lt14_Q0 := Q0.lt
    have lt14_Pw0 := Pw0.lt
    have lt14_Pg0 := Pg0.lt
    have lt14_Ph0 := Ph0.lt
    go_wp2_with fail
    refine (eqLogState_any r0 _ _ _ _ _ Oh0.out Ow0.out Nh0.out.lt Nw0.out.lt).mono ?_
    rintro e u15 ⟨rfl, hb15⟩
    clear c14_Q0_0 c14_Q0_1 c14_Q0_2 c14_Pw0_0 c14_Pw0_1 c14_Pw0_2 c14_Pw0_3 c14_Pw0_4 c14_Pw0_5 c14_Pw0_6 c14_Pw0_7 c14_Pw0_8 c14_Pg0_0 c14_Pg0_1 c14_Pg0_2 c14_Pg0_3 c14_Pg0_4 c14_Pg0_5 c14_Pg0_6 c14_Pg0_7 c14_Pg0_8 c14_Ph0_0 c14_Ph0_1 c14_Ph0_2 c14_Ph0_3 c14_Ph0_4 c14_Ph0_5 c14_Ph0_6 c14_Ph0_7 c14_Ph0_8 lt14_Q0 lt14_Pw0 lt14_Pg0 lt14_Ph0
    have S15 := hide (show u14.heap.size + 1 ≤ u15.heap.size from by have := hb15.size; simpa only [World.size_alloc, size_setRow] using this)
    have B15 := hide (BPh0.out.trans (hb15.mono BPh0.out.size))
    have Q0 := Q0.below hb15 Q0.lt
    have Pw0 := Pw0.below hb15 Pw0.lt
    have Pg0 := Pg0.below hb15 Pg0.lt
    have Ph0 := Ph0.below hb15 Ph0.lt
    have Ow0 := hide (Ow0.out.below hb15 Nw0.out.lt)
    have Nw0 := hide (Nw0.out.below hb15 Nw0.out.lt)
    have Og0 := hide (Og0.out.below hb15 Ng0.out.lt)
    have Ng0 := hide (Ng0.out.below hb15 Ng0.out.lt)
    have Oh0 := hide (Oh0.out.below hb15 Nh0.out.lt)
    have Nh0 := hide (Nh0.out.below hb15 Nh0.out.lt)
    clear hb15
    have c15_Q0_0 := Q0.cell 0
    have c15_Q0_1 := Q0.cell 1
    have c15_Q0_2 := Q0.cell 2
    have c15_Pw0_0 := Pw0.cell 0
    have c15_Pw0_1 := Pw0.cell 1
    have c15_Pw0_2 := Pw0.cell 2
    have c15_Pw0_3 := Pw0.cell 3
    have c15_Pw0_4 := Pw0.cell 4
    have c15_Pw0_5 := Pw0.cell 5
    have c15_Pw0_6 := Pw0.cell 6
    have c15_Pw0_7 := Pw0.cell 7
    have c15_Pw0_8 := Pw0.cell 8
    have c15_Pg0_0 := Pg0.cell 0
    have c15_Pg0_1 := Pg0.cell 1
    have c15_Pg0_2 := Pg0.cell 2
    have c15_Pg0_3 := Pg0.cell 3
    have c15_Pg0_4 := Pg0.cell 4
    have c15_Pg0_5 := Pg0.cell 5
    have c15_Pg0_6 := Pg0.cell 6
    have c15_Pg0_7 := Pg0.cell 7
    have c15_Pg0_8 := Pg0.cell 8
    have c15_Ph0_0 := Ph0.cell 0
    have c15_Ph0_1 := Ph0.cell 1
    have c15_Ph0_2 := Ph0.cell 2
    have c15_Ph0_3 := Ph0.cell 3
    have c15_Ph0_4 := Ph0.cell 4
    have c15_Ph0_5 := Ph0.cell 5
    have c15_Ph0_6 := Ph0.cell 6
    have c15_Ph0_7 := Ph0.cell 7
    have c15_Ph0_8 := Ph0.cell 8
    have lt15_Q0 := Q0.lt
    have lt15_Pw0 := Pw0.lt
    have lt15_Pg0 := Pg0.lt
    have lt15_Ph0 := Ph0.lt
    go_wp2_with fail
    refine (heldLogState_any lg0 _ fg0 _ (1) (1 + r0.cntTop) _ (by omega) Og0.out Ng0.out.lt Kg0.out (by omega)).mono ?_
    rintro e u16 ⟨rfl, hb16⟩
    clear c15_Q0_0 c15_Q0_1 c15_Q0_2 c15_Pw0_0 c15_Pw0_1 c15_Pw0_2 c15_Pw0_3 c15_Pw0_4 c15_Pw0_5 c15_Pw0_6 c15_Pw0_7 c15_Pw0_8 c15_Pg0_0 c15_Pg0_1 c15_Pg0_2 c15_Pg0_3 c15_Pg0_4 c15_Pg0_5 c15_Pg0_6 c15_Pg0_7 c15_Pg0_8 c15_Ph0_0 c15_Ph0_1 c15_Ph0_2 c15_Ph0_3 c15_Ph0_4 c15_Ph0_5 c15_Ph0_6 c15_Ph0_7 c15_Ph0_8 lt15_Q0 lt15_Pw0 lt15_Pg0 lt15_Ph0
    have S16 := hide (show u15.heap.size ≤ u16.heap.size from by have := hb16.size; simpa only [World.size_alloc, size_setRow] using this)
    have B16 := hide (B15.out.trans (hb16.mono B15.out.size))
    have Q0 := Q0.below hb16 Q0.lt
    have Pw0 := Pw0.below hb16 Pw0.lt
    have Pg0 := Pg0.below hb16 Pg0.lt
    have Ph0 := Ph0.below hb16 Ph0.lt
    have Ow0 := hide (Ow0.out.below hb16 Nw0.out.lt)
    have Nw0 := hide (Nw0.out.below hb16 Nw0.out.lt)
    have Og0 := hide (Og0.out.below hb16 Ng0.out.lt)
    have Ng0 := hide (Ng0.out.below hb16 Ng0.out.lt)
    have Oh0 := hide (Oh0.out.below hb16 Nh0.out.lt)
    have Nh0 := hide (Nh0.out.below hb16 Nh0.out.lt)
    clear hb16
    have c16_Q0_0 := Q0.cell 0
    have c16_Q0_1 := Q0.cell 1
    have c16_Q0_2 := Q0.cell 2
    have c16_Pw0_0 := Pw0.cell 0
    have c16_Pw0_1 := Pw0.cell 1
    have c16_Pw0_2 := Pw0.cell 2
    have c16_Pw0_3 := Pw0.cell 3
    have c16_Pw0_4 := Pw0.cell 4
    have c16_Pw0_5 := Pw0.cell 5
    have c16_Pw0_6 := Pw0.cell 6
    have c16_Pw0_7 := Pw0.cell 7
    have c16_Pw0_8 := Pw0.cell 8
    have c16_Pg0_0 := Pg0.cell 0
    have c16_Pg0_1 := Pg0.cell 1
    have c16_Pg0_2 := Pg0.cell 2
    have c16_Pg0_3 := Pg0.cell 3
    have c16_Pg0_4 := Pg0.cell 4
    have c16_Pg0_5 := Pg0.cell 5
    have c16_Pg0_6 := Pg0.cell 6
    have c16_Pg0_7 := Pg0.cell 7
    have c16_Pg0_8 := Pg0.cell 8
    have c16_Ph0_0 := Ph0.cell 0
    have c16_Ph0_1 := Ph0.cell 1
    have c16_Ph0_2 := Ph0.cell 2
    have c16_Ph0_3 := Ph0.cell 3
    have c16_Ph0_4 := Ph0.cell 4
    have c16_Ph0_5 := Ph0.cell 5
    have c16_Ph0_6 := Ph0.cell 6
    have c16_Ph0_7 := Ph0.cell 7
    have c16_Ph0_8 := Ph0.cell 8
    have lt16_Q0 := Q0.lt
    have lt16_Pw0 := Pw0.lt
    have lt16_Pg0 := Pg0.lt
    have lt16_Ph0 := Ph0.lt
    go_wp2_with fail
    go_ret
    exact ⟨rfl, B16.out⟩
  · rw [szr_no hbk0]
    go_wp2
    go_ret
    exact ⟨rfl, B1.out⟩
end Go.Proofs.YtddjgbhkfdpffaaGreatDoor
