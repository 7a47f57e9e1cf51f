/-
  The records of a closed segment: the reference. Written by hand.
-/
import Derived.BigQuiet
import Derived.Test.YtddjgbhkfdpffaaGreatDoorOOpenP
import Derived.Test.YtddjgbhkfdpffaaGreatDoorOFramesS
set_option linter.unusedVariables false
set_option linter.unusedSimpArgs false
namespace Go.Proofs.YtddjgbhkfdpffaaGreatDoor
open Go.ChangeShapes Go.WideShapes Go.ChangeAt Go.RowKit

theorem rises_step {lo hi : Int} {l : List LogRecord} {j : Nat} (h : ∀ i (hi' : i < l.length), i < j → leastAt lo l i ≤ l[i].pos ∧ l[i].pos < hi) (hj : j < l.length) (h1 : leastAt lo l j ≤ l[j].pos) (h2 : l[j].pos < hi) : ∀ i (hi' : i < l.length), i < j + 1 → leastAt lo l i ≤ l[i].pos ∧ l[i].pos < hi := fun i hi' hij => by
  by_cases e : i = j
  · subst e
    exact ⟨h1, h2⟩
  · exact h i hi' (by omega)
theorem leastAt_bd {lo : Int} {l : List LogRecord} (h0 : 1 ≤ lo ∧ lo ≤ 1000000) (h : ∀ x ∈ l, 1 ≤ x.pos ∧ x.pos ≤ 999999) (i : Nat) (hi : i ≤ l.length) : 1 ≤ leastAt lo l i ∧ leastAt lo l i ≤ 1000000 := by
  unfold leastAt
  by_cases e : i = 0
  · rw [if_pos e]
    exact h0
  · rw [if_neg e, List.getElem?_eq_getElem (by omega)]
    have := h l[i - 1] (List.getElem_mem _)
    simp only [Option.map_some, Option.getD_some]
    omega
theorem framesRet_at {s : ByteArray} {l : List LogRecord} {m : Nat} (hq : frFrom s 0 = (l, m)) {w w' : World} {e : Ending} (h : FramesRet s w e w') :
    ∃ v fq, e = .returned (.tuple #[v, .int .i64 (m : Int)]) ∧ Ow w' (.s 2 l.length (l.flatMap LogRecord.cells)) v fq ∧ New w' fq w.heap.size ∧ Below w.heap.size w w' := by
  unfold FramesRet at h
  rw [hq] at h
  exact h
set_option maxRecDepth 100000 in
set_option maxHeartbeats 2000000 in
theorem l43Part_any (d : Disk) (us0 : List Value) (fp : List Nat) (p : LogPart) (hp : p.sane) (w : World) (h : OwC w d.cells us0 fp) (hf : Lt fp w.heap.size) (hbk : d.bulk ≤ 1048576) :
    Calls Tryz.prog 32 #[.agg us0.toArray, .agg #[.int .i64 p.num, .int .i64 p.first, .int .i64 p.next, .int .i64 p.size]] w (PartRet d p w) := by
  have HOC := hide h
  obtain ⟨A1, c1, A2, c2, A3, c3, f1, f2, f3, rfl, o1, o2, o3, rfl⟩ := h.oDisk
  clear h o1 o2 o3
  obtain ⟨pn, y1, y2, ps⟩ := p
  obtain ⟨⟨hn1, hn2⟩, hfi, hne, hs1, hs2⟩ := hp
  dsimp only at hn1 hn2 hfi hne hs1 hs2
  obtain ⟨n, rfl⟩ : ∃ n : Nat, pn = (n : Int) := ⟨pn.toNat, by omega⟩
  obtain ⟨z, rfl⟩ : ∃ z : Nat, ps = (z : Int) := ⟨ps.toNat, by omega⟩
  have hdz := dec_size (n : Int) (by omega) (by omega)
  have hcc : ¬ (9223372036854775807 < 1 + (dec (n : Int)).size) := by omega
  have hsx : (segName n).size ≤ 1048576 := by unfold segName; rw [ByteArray.size_append]; show 1 + (dec (n : Int)).size ≤ _; omega
  have HLK := hide (fun (W : World) (hb : Below w.heap.size w W) => specDiskLook_any d _ _ (segName n) W (HOC.out.below hb hf) (hf.up hb) hbk hsx)
  have HDC := hide (fun W => specDecN_any n W (by omega))
  have HYES := hide (Disk.part_yes (d := d) (p := ⟨n, y1, y2, z⟩))
  have HNO := hide (Disk.part_no (d := d) (p := ⟨n, y1, y2, z⟩))
  have hls := d.look_size (segName n)
  dsimp only [Int.toNat_natCast] at HYES HNO
  obtain ⟨⟨l, m⟩, hq⟩ : ∃ q, frFrom ((d.lookT (segName n)).extract 0 z) 0 = q := ⟨_, rfl⟩
  have HFR := hide (fun W => (specLogFrames_any ((d.lookT (segName n)).extract 0 z) W (by rw [ByteArray.size_extract]; omega)).mono (fun _ _ h => framesRet_at hq h))
  have hbd := fr_bd ((d.lookT (segName n)).extract 0 z)
  have hez : ((d.lookT (segName n)).extract 0 z).size ≤ z := by rw [ByteArray.size_extract]; omega
  rw [hq] at HYES HNO hbd
  dsimp only at HYES HNO hbd
  have HLB := hide hbd.2.2
  obtain ⟨hll, hmz, -⟩ := hbd
  have hLL : l.length ≤ 4000 := by omega
  clear hq
  generalize d.lookB (segName n) = there at *
  generalize d.lookT (segName n) = data at *
  change Calls Tryz.prog 32 #[.agg #[.slice A1 d.files.length c1, .slice A2 d.names.length c2, .slice A3 d.moves.length c3], .agg #[.int .i64 (n : Int), .int .i64 y1, .int .i64 y2, .int .i64 (z : Int)]] w (PartRet d ⟨n, y1, y2, z⟩ w)
  go_enter Tryz.func32, Tryz.ntmps32
  go_upto_region 1 with fail
  generalize hwA : w.alloc (.cells #[.slice A1 d.files.length c1, .slice A2 d.names.length c2, .slice A3 d.moves.length c3] 38) = wA
  have hA : Below w.heap.size w wA := by rw [← hwA]; exact (Below.refl _ _).alloc (Nat.le_refl _) _
  have hsA : wA.heap.size = w.heap.size + 1 := by rw [← hwA]; simp
  have RA : Row wA w.heap.size 38 [.slice A1 d.files.length c1, .slice A2 d.names.length c2, .slice A3 d.moves.length c3] := by rw [← hwA]; exact Row.new w _ _
  try simp only [hsA]
  clear hwA
  generalize hwB : wA.alloc (.cells #[.int .i64 (n : Int), .int .i64 y1, .int .i64 y2, .int .i64 (z : Int)] 75) = wB
  have hAB : Below wA.heap.size wA wB := by rw [← hwB]; exact (Below.refl _ _).alloc (Nat.le_refl _) _
  have RP := hide (show Row wB (w.heap.size + 1) 75 [.int .i64 (n : Int), .int .i64 y1, .int .i64 y2, .int .i64 (z : Int)] from by rw [← hwB, ← hsA]; exact Row.new wA _ _)
  have HRD := hide (RA.below hAB RA.lt)
  have HB1 := hide (hA.trans (hAB.mono hA.size))
  clear hwB hAB hA hsA RA
  have d0 := HRD.out.cell 0
  have d1 := HRD.out.cell 1
  have d2 := HRD.out.cell 2
  have ld := HRD.out.lt
  have p0 := RP.out.cell 0
  have p1 := RP.out.cell 1
  have p2 := RP.out.cell 2
  have p3 := RP.out.cell 3
  have lp := RP.out.lt
  go_region_held3 (fun w' => w'.cell? ⟨w.heap.size, 0, none⟩ = some (.slice A1 d.files.length c1) ∧ w'.cell? ⟨w.heap.size, 1, none⟩ = some (.slice A2 d.names.length c2) ∧ w'.cell? ⟨w.heap.size, 2, none⟩ = some (.slice A3 d.moves.length c3) ∧ w'.cell? ⟨w.heap.size + 1, 0, none⟩ = some (.int .i64 (n : Int)))
    (first | exact ⟨kcell2 d0 hbz ld, kcell2 d1 hbz ld, kcell2 d2 hbz ld, kcell2 p0 hbz lp⟩ | go_keep)
    (first
      | (go_at_call 33; refine (HLK.out _ (HB1.out.trans (hby.mono HB1.out.size))).mono ?_; rintro e w5 ⟨rfl, hb5⟩; have hbz : Below wB.heap.size wB w5 := hby.trans (hb5.mono hby.size))
      | (go_at_call 34; refine (HDC.out _).mono ?_; rintro e w4 ⟨rfl, hb4⟩; have hbz : Below wB.heap.size wB w4 := (below_drewN (Below.refl _ wB) _).trans hb4; have hby := hbz))
  all_goals
    have HB2 := hide (HB1.out.trans (hbz.mono HB1.out.size))
    have HP2 := hide (RP.out.below hbz RP.out.lt)
    clear hbz hby hb5 hb4 HB1 RP HRD d0 d1 d2 ld p0 p1 p2 p3 lp HLK HDC
    have p1 := HP2.out.cell 1
    have p3 := HP2.out.cell 3
    have lp := HP2.out.lt
    cases there with
    | false =>
      have HN := hide (HNO.out (fun h => Bool.noConfusion h.1))
      clear HYES HNO HFR
      go_wp2
      go_ret2
      exact partRet_no HN.out (HB2.out.alloc HB2.out.size _)
    | true =>
      by_cases hzl : z ≤ data.size
      rotate_left
      · have hzi : (data.size : Int) < (z : Int) := by omega
        have HN := hide (HNO.out (fun h => hzl (by have := h.2.1; omega)))
        clear HYES HNO HFR
        go_wp2
        go_ret2
        exact partRet_no HN.out (HB2.out.alloc HB2.out.size _)
      have hzi : ¬ ((data.size : Int) < (z : Int)) := by omega
      have hzj : (z : Int) ≤ (data.size : Int) := by omega
      go_wp2_with fail
      refine (HFR.out _).mono ?_
      rintro e w6 ⟨v, fq, rfl, ho, hn, hb6⟩
      obtain ⟨Ar, cr, rfl, hcr, hmr⟩ := ho.slice
      unfold maxLen at hmr
      have HO := hide ho
      have HN6 := hide (hn.mono HB2.out.size)
      have HB6 := hide (HB2.out.trans (hb6.mono HB2.out.size))
      have HP6 := hide (HP2.out.below hb6 HP2.out.lt)
      clear ho hn hb6 HB2 HP2 p1 p3 lp HFR
      have p1 := HP6.out.cell 1
      have p2 := HP6.out.cell 2
      have p3 := HP6.out.cell 3
      have lp := HP6.out.lt
      by_cases hme : m = z
      rotate_left
      · have hmi : ¬ ((m : Int) = (z : Int)) := by omega
        have HN := hide (HNO.out (fun h => hme (by have := h.2.2.2; omega)))
        clear HYES HNO
        go_wp2
        go_ret2
        exact partRet_no HN.out HB6.out
      subst hme
      go_wp2
      go_loopw [10, 11] (fun nx i wr => ∃ (j q : Nat), nx = .int .i64 (leastAt y1 l j) ∧ i = .int .i64 (j : Int) ∧ j ≤ l.length ∧ (∀ i (h : i < l.length), i < j → leastAt y1 l i ≤ l[i].pos ∧ l[i].pos < y2) ∧ wr = w6.drewN q) (fun _ i _ => l.length - (intOf i).toNat)
      case atStart => exact ⟨0, 0, rfl, rfl, Nat.zero_le _, (fun i h hi => absurd hi (Nat.not_lt_zero _)), rfl⟩
      case round =>
        obtain ⟨j, q, rfl, rfl, hj, hri, rfl⟩ := hrel
        have HRI := hide hri
        clear hri
        by_cases hlt : j < l.length
        · obtain ⟨g, off, ws, fi, rfl, hgm, hfi', hwl, hcs, hov⟩ := HO.out.elem LogRecord.cells_len hlt
          obtain ⟨rfl, wr0, hs1, rfl⟩ := hov.oLogRecord
          have c0 := hcs 0 _ rfl
          simp only [Nat.add_zero] at c0
          have hgl := cell_lt c0
          have hji : (j : Int) < (l.length : Int) := by omega
          have hxb := HLB.out l[j] (List.getElem_mem _)
          have hyb := leastAt_bd hfi HLB.out j hj
          have HST := hide (rises_step HRI.out hlt)
          have HLS := hide (leastAt_succ y1 l j hlt)
          have HNR := hide (fun (h : ¬ (leastAt y1 l j ≤ l[j].pos ∧ l[j].pos < y2)) => HNO.out (fun k => h (k.2.2.1 j hlt)))
          clear hcs hov wr0
          generalize leastAt y1 l j = y at *
          generalize l[j] = x at *
          by_cases h1 : y ≤ x.pos
          · have e1 : decide (x.pos < y) = false := by simp; omega
            by_cases h2 : x.pos < y2
            · have e2 : decide (y2 ≤ x.pos) = false := by simp; omega
              have HS2 := hide (HST.out h1 h2)
              clear h1 h2 HST HNR
              go_wp2_with fail
              go_quiet (fail)
              go_wp2
              go_roundw
              case rel => exact ⟨j + 1, _, by rw [HLS.out] <;> go_num, by go_num, by omega, HS2.out, rfl⟩
              case measure => simp [intOf]; omega
            · have e2 : decide (y2 ≤ x.pos) = true := by simp; omega
              have HN := hide (HNR.out (fun h => h2 h.2))
              clear h1 h2 HST HNR HYES HNO
              go_wp2_with fail
              go_quiet (fail)
              go_wp2
              go_ret2
              exact partRet_no HN.out (below_drewN (below_drewN HB6.out _) _)
          · have e1 : decide (x.pos < y) = true := by simp; omega
            have HN := hide (HNR.out (fun h => h1 h.1))
            clear h1 HST HNR HYES HNO
            go_wp2_with fail
            go_quiet (fail)
            go_wp2
            go_ret2
            exact partRet_no HN.out (below_drewN (below_drewN HB6.out _) _)
        · obtain rfl : j = l.length := by omega
          have HY := hide (HYES.out (by first | exact ⟨rfl, by omega, fun i hi => HRI.out i hi hi, rfl⟩ | exact ⟨trivial, by omega, fun i hi => HRI.out i hi hi, trivial⟩))
          clear HYES HNO
          go_wp2
          go_ret2
          exact partRet_yes HY.out (HO.out.drewN _) (HN6.out.drewN _) (below_drewN HB6.out _)
end Go.Proofs.YtddjgbhkfdpffaaGreatDoor
