/-
  The records of a closed segment: the reference. Written by hand. What a disk's log says: the walk's own facts. Printed by gen/openlog.py.
-/
import Derived.BigQuiet
import Derived.Test.YtddjgbhkfdpffaaGreatDoorWHLogState
import Derived.Test.YtddjgbhkfdpffaaGreatDoorWApp
import Derived.Test.YtddjgbhkfdpffaaGreatDoorWOpenP
import Derived.Test.YtddjgbhkfdpffaaGreatDoorWFramesI
set_option linter.unusedVariables false
set_option linter.unusedSimpArgs false
namespace Go.Proofs.YtddjgbhkfdpffaaGreatDoor
open Go.ChangeShapes Go.WideShapes Go.ChangeAt Go.RowKit

theorem rises_step {lo hi : Int} {l : List LogRecord} {j : Nat} (h : ∀ i (hi' : i < l.length), i < j → leastAt lo l i ≤ l[i].pos ∧ l[i].pos < hi) (hj : j < l.length) (h1 : leastAt lo l j ≤ l[j].pos) (h2 : l[j].pos < hi) : ∀ i (hi' : i < l.length), i < j + 1 → leastAt lo l i ≤ l[i].pos ∧ l[i].pos < hi := fun i hi' hij => by
  by_cases e : i = j
  · subst e
    exact ⟨h1, h2⟩
  · exact h i hi' (by omega)
theorem leastAt_bd {lo : Int} {l : List LogRecord} (h0 : 1 ≤ lo ∧ lo ≤ 1000000) (h : ∀ x ∈ l, 1 ≤ x.pos ∧ x.pos ≤ 999999) (i : Nat) (hi : i ≤ l.length) : 1 ≤ leastAt lo l i ∧ leastAt lo l i ≤ 1000000 := by
  unfold leastAt
  by_cases e : i = 0
  · rw [if_pos e]
    exact h0
  · rw [if_neg e, List.getElem?_eq_getElem (by omega)]
    have := h l[i - 1] (List.getElem_mem _)
    simp only [Option.map_some, Option.getD_some]
    omega
theorem framesRet_at {s : ByteArray} {l : List LogRecord} {m : Nat} (hq : frFrom s 0 = (l, m)) {w w' : World} {e : Ending} (h : FramesRet s w e w') :
    ∃ v fq, e = .returned (.tuple #[v, .int .i64 (m : Int)]) ∧ Ow w' (.s 2 l.length (l.flatMap LogRecord.cells)) v fq ∧ New w' fq w.heap.size ∧ Below w.heap.size w w' := by
  unfold FramesRet at h
  rw [hq] at h
  exact h
set_option maxRecDepth 100000 in
set_option maxHeartbeats 2000000 in
theorem l43Part_any (d : Disk) (us0 : List Value) (fp : List Nat) (p : LogPart) (hp : p.sane) (w : World) (h : OwC w d.cells us0 fp) (hf : Lt fp w.heap.size) (hbk : d.bulk ≤ 1048576) :
    Calls Tryz.prog 32 #[.agg us0.toArray, .agg #[.int .i64 p.num, .int .i64 p.first, .int .i64 p.next, .int .i64 p.size]] w (PartRet d p w) := by
  have HOC := hide h
  obtain ⟨A1, c1, A2, c2, A3, c3, f1, f2, f3, rfl, o1, o2, o3, rfl⟩ := h.oDisk
  clear h o1 o2 o3
  obtain ⟨pn, y1, y2, ps⟩ := p
  obtain ⟨⟨hn1, hn2⟩, hfi, hne, hs1, hs2⟩ := hp
  dsimp only at hn1 hn2 hfi hne hs1 hs2
  obtain ⟨n, rfl⟩ : ∃ n : Nat, pn = (n : Int) := ⟨pn.toNat, by omega⟩
  obtain ⟨z, rfl⟩ : ∃ z : Nat, ps = (z : Int) := ⟨ps.toNat, by omega⟩
  have hdz := dec_size (n : Int) (by omega) (by omega)
  have hcc : ¬ (9223372036854775807 < 1 + (dec (n : Int)).size) := by omega
  have hsx : (segName n).size ≤ 1048576 := by unfold segName; rw [ByteArray.size_append]; show 1 + (dec (n : Int)).size ≤ _; omega
  have HLK := hide (fun (W : World) (hb : Below w.heap.size w W) => specDiskLook_any d _ _ (segName n) W (HOC.out.below hb hf) (hf.up hb) hbk hsx)
  have HDC := hide (fun W => specDecN_any n W (by omega))
  have HYES := hide (Disk.part_yes (d := d) (p := ⟨n, y1, y2, z⟩))
  have HNO := hide (Disk.part_no (d := d) (p := ⟨n, y1, y2, z⟩))
  have hls := d.look_size (segName n)
  dsimp only [Int.toNat_natCast] at HYES HNO
  obtain ⟨⟨l, m⟩, hq⟩ : ∃ q, frFrom ((d.lookT (segName n)).extract 0 z) 0 = q := ⟨_, rfl⟩
  have HFR := hide (fun W => (specLogFrames_any ((d.lookT (segName n)).extract 0 z) W (by rw [ByteArray.size_extract]; omega)).mono (fun _ _ h => framesRet_at hq h))
  have hbd := fr_bd ((d.lookT (segName n)).extract 0 z)
  have hez : ((d.lookT (segName n)).extract 0 z).size ≤ z := by rw [ByteArray.size_extract]; omega
  rw [hq] at HYES HNO hbd
  dsimp only at HYES HNO hbd
  have HLB := hide hbd.2.2
  obtain ⟨hll, hmz, -⟩ := hbd
  have hLL : l.length ≤ 4000 := by omega
  clear hq
  generalize d.lookB (segName n) = there at *
  generalize d.lookT (segName n) = data at *
  change Calls Tryz.prog 32 #[.agg #[.slice A1 d.files.length c1, .slice A2 d.names.length c2, .slice A3 d.moves.length c3], .agg #[.int .i64 (n : Int), .int .i64 y1, .int .i64 y2, .int .i64 (z : Int)]] w (PartRet d ⟨n, y1, y2, z⟩ w)
  go_enter Tryz.func32, Tryz.ntmps32
  go_upto_region 1 with fail
  generalize hwA : w.alloc (.cells #[.slice A1 d.files.length c1, .slice A2 d.names.length c2, .slice A3 d.moves.length c3] 38) = wA
  have hA : Below w.heap.size w wA := by rw [← hwA]; exact (Below.refl _ _).alloc (Nat.le_refl _) _
  have hsA : wA.heap.size = w.heap.size + 1 := by rw [← hwA]; simp
  have RA : Row wA w.heap.size 38 [.slice A1 d.files.length c1, .slice A2 d.names.length c2, .slice A3 d.moves.length c3] := by rw [← hwA]; exact Row.new w _ _
  try simp only [hsA]
  clear hwA
  generalize hwB : wA.alloc (.cells #[.int .i64 (n : Int), .int .i64 y1, .int .i64 y2, .int .i64 (z : Int)] 75) = wB
  have hAB : Below wA.heap.size wA wB := by rw [← hwB]; exact (Below.refl _ _).alloc (Nat.le_refl _) _
  have RP := hide (show Row wB (w.heap.size + 1) 75 [.int .i64 (n : Int), .int .i64 y1, .int .i64 y2, .int .i64 (z : Int)] from by rw [← hwB, ← hsA]; exact Row.new wA _ _)
  have HRD := hide (RA.below hAB RA.lt)
  have HB1 := hide (hA.trans (hAB.mono hA.size))
  clear hwB hAB hA hsA RA
  have d0 := HRD.out.cell 0
  have d1 := HRD.out.cell 1
  have d2 := HRD.out.cell 2
  have ld := HRD.out.lt
  have p0 := RP.out.cell 0
  have p1 := RP.out.cell 1
  have p2 := RP.out.cell 2
  have p3 := RP.out.cell 3
  have lp := RP.out.lt
  go_region_held3 (fun w' => w'.cell? ⟨w.heap.size, 0, none⟩ = some (.slice A1 d.files.length c1) ∧ w'.cell? ⟨w.heap.size, 1, none⟩ = some (.slice A2 d.names.length c2) ∧ w'.cell? ⟨w.heap.size, 2, none⟩ = some (.slice A3 d.moves.length c3) ∧ w'.cell? ⟨w.heap.size + 1, 0, none⟩ = some (.int .i64 (n : Int)))
    (first | exact ⟨kcell2 d0 hbz ld, kcell2 d1 hbz ld, kcell2 d2 hbz ld, kcell2 p0 hbz lp⟩ | go_keep)
    (first
      | (go_at_call 33; refine (HLK.out _ (HB1.out.trans (hby.mono HB1.out.size))).mono ?_; rintro e w5 ⟨rfl, hb5⟩; have hbz : Below wB.heap.size wB w5 := hby.trans (hb5.mono hby.size))
      | (go_at_call 34; refine (HDC.out _).mono ?_; rintro e w4 ⟨rfl, hb4⟩; have hbz : Below wB.heap.size wB w4 := (below_drewN (Below.refl _ wB) _).trans hb4; have hby := hbz))
  all_goals
    have HB2 := hide (HB1.out.trans (hbz.mono HB1.out.size))
    have HP2 := hide (RP.out.below hbz RP.out.lt)
    clear hbz hby hb5 hb4 HB1 RP HRD d0 d1 d2 ld p0 p1 p2 p3 lp HLK HDC
    have p1 := HP2.out.cell 1
    have p3 := HP2.out.cell 3
    have lp := HP2.out.lt
    cases there with
    | false =>
      have HN := hide (HNO.out (fun h => Bool.noConfusion h.1))
      clear HYES HNO HFR
      go_wp2
      go_ret2
      exact partRet_no HN.out (HB2.out.alloc HB2.out.size _)
    | true =>
      by_cases hzl : z ≤ data.size
      rotate_left
      · have hzi : (data.size : Int) < (z : Int) := by omega
        have HN := hide (HNO.out (fun h => hzl (by have := h.2.1; omega)))
        clear HYES HNO HFR
        go_wp2
        go_ret2
        exact partRet_no HN.out (HB2.out.alloc HB2.out.size _)
      have hzi : ¬ ((data.size : Int) < (z : Int)) := by omega
      have hzj : (z : Int) ≤ (data.size : Int) := by omega
      go_wp2_with fail
      refine (HFR.out _).mono ?_
      rintro e w6 ⟨v, fq, rfl, ho, hn, hb6⟩
      obtain ⟨Ar, cr, rfl, hcr, hmr⟩ := ho.slice
      unfold maxLen at hmr
      have HO := hide ho
      have HN6 := hide (hn.mono HB2.out.size)
      have HB6 := hide (HB2.out.trans (hb6.mono HB2.out.size))
      have HP6 := hide (HP2.out.below hb6 HP2.out.lt)
      clear ho hn hb6 HB2 HP2 p1 p3 lp HFR
      have p1 := HP6.out.cell 1
      have p2 := HP6.out.cell 2
      have p3 := HP6.out.cell 3
      have lp := HP6.out.lt
      by_cases hme : m = z
      rotate_left
      · have hmi : ¬ ((m : Int) = (z : Int)) := by omega
        have HN := hide (HNO.out (fun h => hme (by have := h.2.2.2; omega)))
        clear HYES HNO
        go_wp2
        go_ret2
        exact partRet_no HN.out HB6.out
      subst hme
      go_wp2
      go_loopw [10, 11] (fun nx i wr => ∃ (j q : Nat), nx = .int .i64 (leastAt y1 l j) ∧ i = .int .i64 (j : Int) ∧ j ≤ l.length ∧ (∀ i (h : i < l.length), i < j → leastAt y1 l i ≤ l[i].pos ∧ l[i].pos < y2) ∧ wr = w6.drewN q) (fun _ i _ => l.length - (intOf i).toNat)
      case atStart => exact ⟨0, 0, rfl, rfl, Nat.zero_le _, (fun i h hi => absurd hi (Nat.not_lt_zero _)), rfl⟩
      case round =>
        obtain ⟨j, q, rfl, rfl, hj, hri, rfl⟩ := hrel
        have HRI := hide hri
        clear hri
        by_cases hlt : j < l.length
        · obtain ⟨g, off, ws, fi, rfl, hgm, hfi', hwl, hcs, hov⟩ := HO.out.elem LogRecord.cells_len hlt
          obtain ⟨rfl, wr0, hs1, rfl⟩ := hov.oLogRecord
          have c0 := hcs 0 _ rfl
          simp only [Nat.add_zero] at c0
          have hgl := cell_lt c0
          have hji : (j : Int) < (l.length : Int) := by omega
          have hxb := HLB.out l[j] (List.getElem_mem _)
          have hyb := leastAt_bd hfi HLB.out j hj
          have HST := hide (rises_step HRI.out hlt)
          have HLS := hide (leastAt_succ y1 l j hlt)
          have HNR := hide (fun (h : ¬ (leastAt y1 l j ≤ l[j].pos ∧ l[j].pos < y2)) => HNO.out (fun k => h (k.2.2.1 j hlt)))
          clear hcs hov wr0
          generalize leastAt y1 l j = y at *
          generalize l[j] = x at *
          by_cases h1 : y ≤ x.pos
          · have e1 : decide (x.pos < y) = false := by simp; omega
            by_cases h2 : x.pos < y2
            · have e2 : decide (y2 ≤ x.pos) = false := by simp; omega
              have HS2 := hide (HST.out h1 h2)
              clear h1 h2 HST HNR
              go_wp2_with fail
              go_quiet (fail)
              go_wp2
              go_roundw
              case rel => exact ⟨j + 1, _, by rw [HLS.out] <;> go_num, by go_num, by omega, HS2.out, rfl⟩
              case measure => simp [intOf]; omega
            · have e2 : decide (y2 ≤ x.pos) = true := by simp; omega
              have HN := hide (HNR.out (fun h => h2 h.2))
              clear h1 h2 HST HNR HYES HNO
              go_wp2_with fail
              go_quiet (fail)
              go_wp2
              go_ret2
              exact partRet_no HN.out (below_drewN (below_drewN HB6.out _) _)
          · have e1 : decide (x.pos < y) = true := by simp; omega
            have HN := hide (HNR.out (fun h => h1 h.1))
            clear h1 HST HNR HYES HNO
            go_wp2_with fail
            go_quiet (fail)
            go_wp2
            go_ret2
            exact partRet_no HN.out (below_drewN (below_drewN HB6.out _) _)
        · obtain rfl : j = l.length := by omega
          have HY := hide (HYES.out (by first | exact ⟨rfl, by omega, fun i hi => HRI.out i hi hi, rfl⟩ | exact ⟨trivial, by omega, fun i hi => HRI.out i hi hi, trivial⟩))
          clear HYES HNO
          go_wp2
          go_ret2
          exact partRet_yes HY.out (HO.out.drewN _) (HN6.out.drewN _) (below_drewN HB6.out _)
end Go.Proofs.YtddjgbhkfdpffaaGreatDoor
set_option linter.unusedVariables false
set_option linter.unusedSimpArgs false
namespace Go.Proofs.YtddjgbhkfdpffaaGreatDoor
open Go.ChangeShapes Go.WideShapes Go.ChangeAt Go.RowKit

theorem recs_plain (l : List LogRecord) : ∀ d ∈ l.flatMap LogRecord.cells, ∃ x, d = .v x := fun d hd => by
  obtain ⟨x, _, hx⟩ := List.mem_flatMap.1 hd
  rw [LogRecord.cells_eq] at hx
  simp only [List.mem_cons, List.not_mem_nil, or_false] at hx
  rcases hx with rfl | rfl <;> exact ⟨_, rfl⟩
theorem Ow.srcRecs {w : World} {l : List LogRecord} {A : Option Addr} {n c : Nat} {fp : List Nat} (h : Ow w (.s 2 l.length (l.flatMap LogRecord.cells)) (.slice A n c) fp) : ∃ us, OwC w (l.flatMap LogRecord.cells) us [] ∧ SrcAt w us A n c := by
  obtain ⟨us, f2, h1, h2, _⟩ := h.srcAt
  obtain rfl := OwC.plain _ (recs_plain l) h1
  exact ⟨us, h1, h2⟩
def OpenRet (d : Disk) (w : World) (e : Ending) (w' : World) : Prop :=
  ∃ us fq, e = .returned (.agg us.toArray) ∧ OwC w' d.open_.cells us fq ∧ New w' fq w.heap.size ∧ Below w.heap.size w w'
theorem stopen_no {d : Disk} (h : tb d.ok = false) : d.open_ = LogState.bad 7 := by
  unfold Disk.open_
  rw [if_neg (by rw [h]; simp)]
theorem stopen_none {d : Disk} {p : LogPlan} (h : tb d.ok = true) (hn : (p, 0) = d.newest) : d.open_ = LogState.bad 1 := by
  unfold Disk.open_
  rw [if_pos h, ← hn]
  rfl
theorem stopen_lost {d : Disk} {p : LogPlan} {k : Nat} (h : tb d.ok = true) (hn : (p, k) = d.newest) (hk : k ≠ 0) (hp : d.parts p.parts = none) : d.open_ = LogState.bad 2 := by
  unfold Disk.open_
  rw [if_pos h, ← hn]
  dsimp only
  rw [if_neg hk, hp]
theorem stopen_torn {d : Disk} {p : LogPlan} {k : Nat} {a : List LogRecord} (h : tb d.ok = true) (hn : (p, k) = d.newest) (hk : k ≠ 0) (hp : d.parts p.parts = some a) (hr : ¬ (d.lookB (segName p.open_) = true ∧ Runs p.first (frFrom (d.lookT (segName p.open_)) 0).1)) : d.open_ = LogState.bad 2 := by
  unfold Disk.open_
  rw [if_pos h, ← hn]
  dsimp only
  rw [if_neg hk, hp]
  dsimp only
  rw [if_neg (by rw [tb_false hr]; simp)]
theorem stopen_yes {d : Disk} {p : LogPlan} {k : Nat} {a : List LogRecord} (h : tb d.ok = true) (hn : (p, k) = d.newest) (hk : k ≠ 0) (hp : d.parts p.parts = some a) (hr : d.lookB (segName p.open_) = true ∧ Runs p.first (frFrom (d.lookT (segName p.open_)) 0).1) :
    d.open_ = ⟨0, k, p, (frFrom (d.lookT (segName p.open_)) 0).2, tb ((frFrom (d.lookT (segName p.open_)) 0).2 < (d.lookT (segName p.open_)).size), p.first + (frFrom (d.lookT (segName p.open_)) 0).1.length, a ++ (frFrom (d.lookT (segName p.open_)) 0).1⟩ := by
  unfold Disk.open_
  rw [if_pos h, ← hn]
  dsimp only
  rw [if_neg hk, hp]
  dsimp only
  rw [if_pos (tb_true hr)]
theorem wf0 : (Lit.int .i64 0).wf = true := by decide
theorem bad_ow (w : World) (c : Int) (hc : (Lit.int .i64 c).wf = true) : OwC w (LogState.bad c).cells [.int .i64 c, .int .i64 0, .slice none 0 0, .int .i64 0, .int .i64 0, .int .i64 0, .bool false, .int .i64 0, .slice none 0 0] [] := OwC.mLogState (x := LogState.bad c) hc wf0 (Ow.nil_ _ _ _) wf0 wf0 wf0 wf0 (Ow.nil_ _ _ _)
theorem openRet_bad {d : Disk} {w W : World} {c : Int} (h : d.open_ = LogState.bad c) (hc : (Lit.int .i64 c).wf = true) (hb : Below w.heap.size w W) : OpenRet d w (.returned (.agg ([.int .i64 c, .int .i64 0, .slice none 0 0, .int .i64 0, .int .i64 0, .int .i64 0, .bool false, .int .i64 0, .slice none 0 0] : List Value).toArray)) W := by
  unfold OpenRet
  rw [h]
  exact ⟨_, [], rfl, bad_ow _ _ hc, New.nil _ _, hb⟩
/-- the disk's box, the result's, the plan's: all below the block b -/
structure OpB (w W : World) (vd : List Value) (bp b : Nat) (vp : List Value) (p : LogPlan) (fq : List Nat) : Prop where
  box : Row W w.heap.size 38 vd
  res : Row W (w.heap.size + 1) 33 [.int .i64 0, .int .i64 0, .slice none 0 0, .int .i64 0, .int .i64 0, .int .i64 0, .bool false, .int .i64 0, .slice none 0 0]
  pl : Row W bp 30 vp
  ow : OwC W p.cells vp fq
  nw : New W fq (w.heap.size + 2)
  lt : w.heap.size + 1 < bp
  hb : bp < b
  fl : Lt fq b
  fr : Below w.heap.size w W
theorem OpB.keep {w W W' : World} {vd : List Value} {bp b : Nat} {vp : List Value} {p : LogPlan} {fq : List Nat} {r : Option Nat} (h : OpB w W vd bp b vp p fq) (hg : W.grownBy W' r) (hr : ∀ g, r = some g → b ≤ g) : OpB w W' vd bp b vp p fq := by
  have h1 := h.lt
  have h2 := h.hb
  have hno : ∀ g, r = some g → g ∉ fq := fun g e hm => by have := h.fl g hm; have := hr g e; omega
  refine ⟨h.box.grown hg (fun e => by have := hr _ e; omega), h.res.grown hg (fun e => by have := hr _ e; omega), h.pl.grown hg (fun e => by have := hr _ e; omega), h.ow.grown' hg h.nw.lt hno, h.nw.grown hg hno, h1, h2, h.fl, ?_⟩
  refine h.fr.trans ⟨hg.os, hg.tape, hg.output, hg.size, fun k hk => hg.block k (Nat.lt_of_lt_of_le hk h.fr.size) (fun e => ?_)⟩
  have := hr _ e.symm
  omega
theorem OpB.below {w W W' : World} {vd : List Value} {bp b : Nat} {vp : List Value} {p : LogPlan} {fq : List Nat} (h : OpB w W vd bp b vp p fq) (hb : Below W.heap.size W W') : OpB w W' vd bp b vp p fq := h.keep (grownBy_below hb none) (fun _ e => by cases e)
theorem OpB.drewN {w W : World} {vd : List Value} {bp b : Nat} {vp : List Value} {p : LogPlan} {fq : List Nat} (h : OpB w W vd bp b vp p fq) (n : Nat) : OpB w (W.drewN n) vd bp b vp p fq := h.below (below_drewN (Below.refl _ _) n)
theorem openRet_put {d : Disk} {w W : World} {vd : List Value} {bp b : Nat} {vp : List Value} {p : LogPlan} {fq : List Nat} {c : Int} (h : d.open_ = LogState.bad c) (hc : (Lit.int .i64 c).wf = true) (H : OpB w W vd bp b vp p fq) : OpenRet d w (.returned (.agg ([.int .i64 c, .int .i64 0, .slice none 0 0, .int .i64 0, .int .i64 0, .int .i64 0, .bool false, .int .i64 0, .slice none 0 0] : List Value).toArray)) (putN W (w.heap.size + 1) 0 [.int .i64 c, .int .i64 0, .slice none 0 0, .int .i64 0, .int .i64 0, .int .i64 0, .bool false, .int .i64 0, .slice none 0 0]) :=
  openRet_bad h hc (H.fr.trans (below_of_grown (setN_grown [.int .i64 c, .int .i64 0, .slice none 0 0, .int .i64 0, .int .i64 0, .int .i64 0, .bool false, .int .i64 0, .slice none 0 0] 0 (grown_refl W (some (w.heap.size + 1)))) (Nat.le_succ _) H.fr.size))
/-- the state that grows -/
structure StB (W : World) (b : Nat) (nm : Int) (vp : Value) (op fi sz : Int) (tn : Bool) (nx : Int) (A : Option Addr) (n c : Nat) (l : List LogRecord) (us : List Value) : Prop where
  box : Row W b 33 [.int .i64 0, .int .i64 nm, vp, .int .i64 op, .int .i64 fi, .int .i64 sz, .bool tn, .int .i64 nx, .slice A n c]
  own : OwS W (b + 1) 63 2 LogRecord.cells (.slice A n c) l us []
section
variable {W W' : World} {b : Nat} {nm : Int} {vp : Value} {op fi sz : Int} {tn : Bool} {nx : Int} {A : Option Addr} {n c : Nat} {l : List LogRecord} {us : List Value}
theorem StB.below (h : StB W b nm vp op fi sz tn nx A n c l us) (hb : Below W.heap.size W W') : StB W' b nm vp op fi sz tn nx A n c l us := ⟨h.box.below hb h.box.lt, h.own.below (C := 0) hb⟩
theorem StB.drewN (h : StB W b nm vp op fi sz tn nx A n c l us) (q : Nat) : StB (W.drewN q) b nm vp op fi sz tn nx A n c l us := h.below (below_drewN (Below.refl _ _) q)
theorem StB.len (h : StB W b nm vp op fi sz tn nx A n c l us) : n = l.length := by
  obtain ⟨A', c', e⟩ := h.own.form
  injection e
theorem StB.app {A7 : Option Addr} {n7 c7 : Nat} {us7 : List Value} {l7 : List LogRecord} (h : StB W b nm vp op fi sz tn nx A n c l us) (hgb : GB W W' (.slice A n c) (.slice A7 n7 c7))
    (hown : OwS W' (b + 1) 63 2 LogRecord.cells (.slice A7 n7 c7) l7 us7 []) : StB (W'.setCell ⟨b, 8, none⟩ (.slice A7 n7 c7)) b nm vp op fi sz tn nx A7 n7 c7 l7 us7 :=
  ⟨by simpa using (hgb.row h.box (h.own.low (Nat.lt_succ_self _))).set 8 (.slice A7 n7 c7), hown.setCell (by simp) (hown.low (Nat.lt_succ_self _)) _⟩
theorem StB.put5 (h : StB W b nm vp op fi sz tn nx A n c l us) (z : Int) : StB (W.setCell ⟨b, 5, none⟩ (.int .i64 z)) b nm vp op fi z tn nx A n c l us :=
  ⟨by simpa using h.box.set 5 (.int .i64 z), h.own.setCell (by simp) (h.own.low (Nat.lt_succ_self _)) _⟩
theorem StB.put6 (h : StB W b nm vp op fi sz tn nx A n c l us) (z : Bool) : StB (W.setCell ⟨b, 6, none⟩ (.bool z)) b nm vp op fi sz z nx A n c l us :=
  ⟨by simpa using h.box.set 6 (.bool z), h.own.setCell (by simp) (h.own.low (Nat.lt_succ_self _)) _⟩
theorem StB.put7 (h : StB W b nm vp op fi sz tn nx A n c l us) (z : Int) : StB (W.setCell ⟨b, 7, none⟩ (.int .i64 z)) b nm vp op fi sz tn z A n c l us :=
  ⟨by simpa using h.box.set 7 (.int .i64 z), h.own.setCell (by simp) (h.own.low (Nat.lt_succ_self _)) _⟩
theorem grown_set (W : World) (b i : Nat) (u : Value) : W.grownBy (W.setCell ⟨b, i, none⟩ u) (some b) := grownBy_setCell W ⟨b, i, none⟩ u
/-- the state as it is handed back -/
theorem openRet_yes {d : Disk} {w : World} {vd : List Value} {bp : Nat} {A1 : Option Addr} {c1 : Nat} {p : LogPlan} {fq : List Nat} {k : Nat} (HO : OpB w W vd bp b [.slice A1 p.parts.length c1, .int .i64 p.open_, .int .i64 p.first] p fq) (HS : StB W b k (.slice A1 p.parts.length c1) p.open_ p.first sz tn nx A n c l us)
    (h : d.open_ = ⟨0, k, p, sz, tn, nx, l⟩) (wk : (Lit.int .i64 (k : Int)).wf = true) (ws : (Lit.int .i64 sz).wf = true) (wn : (Lit.int .i64 nx).wf = true) :
    OpenRet d w (.returned (.agg ([.int .i64 0, .int .i64 (k : Int), .slice A1 p.parts.length c1, .int .i64 p.open_, .int .i64 p.first, .int .i64 sz, .bool tn, .int .i64 nx, .slice A n c] : List Value).toArray)) (putN W (w.heap.size + 1) 0 [.int .i64 0, .int .i64 (k : Int), .slice A1 p.parts.length c1, .int .i64 p.open_, .int .i64 p.first, .int .i64 sz, .bool tn, .int .i64 nx, .slice A n c]) := by
  have hgr := setN_grown [.int .i64 0, .int .i64 (k : Int), .slice A1 p.parts.length c1, .int .i64 p.open_, .int .i64 p.first, .int .i64 sz, .bool tn, .int .i64 nx, .slice A n c] 0 (grown_refl W (some (w.heap.size + 1)))
  have h1 := HO.lt
  have h2 := HO.hb
  obtain ⟨A2, c2, f2, e, o1, w1, w2, rfl⟩ := HO.ow.oLogPlan
  simp only [List.cons.injEq, Value.slice.injEq, true_and, and_true] at e
  obtain ⟨rfl, rfl⟩ := e
  obtain ⟨fr, o2, n2⟩ := HS.own.toOw
  obtain rfl := HS.len
  have hno1 : w.heap.size + 1 ∉ fq := HO.nw.out (Nat.lt_succ_self _)
  have hno2 : w.heap.size + 1 ∉ fr := n2.out (by omega)
  unfold OpenRet
  rw [h]
  refine ⟨_, fq ++ fr, rfl, ?_, ?_, HO.fr.trans (below_of_grown hgr (Nat.le_succ _) HO.fr.size)⟩
  · exact OwC.mLogState (x := ⟨0, k, p, sz, tn, nx, l⟩) wf0 wk (o1.grown hgr HO.nw.lt hno1) w1 w2 ws wn (o2.grown hgr n2.lt hno2)
  · refine New.app ((HO.nw.grown hgr (fun g e => by injection e with e; subst e; exact hno1)).mono (by omega)) (n2.grown hgr (fun g e => by injection e with e; subst e; exact hno2)) (HO.fl.mono (Nat.le_succ _)) (by omega)
end
theorem parts_one {d : Disk} {ps : List LogPart} {j : Nat} {a l : List LogRecord} (h : d.parts (ps.take j) = some a) (hj : j < ps.length) (hp : d.part ps[j] = some l) : d.parts (ps.take (j + 1)) = some (a ++ l) := by
  rw [d.parts_succ ps j hj, h]
  unfold Disk.addPart
  rw [hp]
theorem parts_lost {d : Disk} {ps : List LogPart} {j : Nat} {a : List LogRecord} (h : d.parts (ps.take j) = some a) (hj : j < ps.length) (hp : d.part ps[j] = none) : d.parts ps = none := by
  apply d.parts_none ps (j + 1)
  rw [d.parts_succ ps j hj, h]
  unfold Disk.addPart
  rw [hp]
theorem partRet_none {d : Disk} {p : LogPart} {w w' : World} {e : Ending} (hp : d.part p = none) (h : PartRet d p w e w') : ∃ v, e = .returned (.tuple #[v, .bool false]) ∧ Below w.heap.size w w' := by
  unfold PartRet at h
  rw [hp] at h
  obtain ⟨⟨v, hv⟩, hb⟩ := h
  exact ⟨v, hv, hb⟩
theorem partRet_some {d : Disk} {p : LogPart} {l : List LogRecord} {w w' : World} {e : Ending} (hp : d.part p = some l) (h : PartRet d p w e w') : ∃ A n c fq, e = .returned (.tuple #[.slice A n c, .bool true]) ∧ Ow w' (.s 2 l.length (l.flatMap LogRecord.cells)) (.slice A n c) fq ∧ New w' fq w.heap.size ∧ Below w.heap.size w w' := by
  unfold PartRet at h
  rw [hp] at h
  obtain ⟨⟨v, fq, hv, ho, hn⟩, hb⟩ := h
  obtain ⟨A, c, rfl, _⟩ := ho.slice
  exact ⟨A, _, c, fq, hv, ho, hn, hb⟩
theorem newestOf_le (d : Disk) : ∀ (l : List ByteArray) (p : LogPlan) (n : Nat), n ≤ 999999 → (newestOf d l p n).2 ≤ 999999
  | [], p, n, h => h
  | s :: r, p, n, h => by
    unfold newestOf
    split
    · exact newestOf_le d r _ _ (fileNum_le _ _)
    · exact newestOf_le d r p n h
theorem newest_le (d : Disk) : d.newest.2 ≤ 999999 := newestOf_le d d.shown LogPlan.zero 0 (by decide)
theorem runs_step {lo : Int} {l : List LogRecord} {j : Nat} (h : ∀ i (hi' : i < l.length), i < j → l[i].pos = lo + i) (hj : j < l.length) (h1 : l[j].pos = lo + j) : ∀ i (hi' : i < l.length), i < j + 1 → l[i].pos = lo + i := fun i hi' hij => by
  by_cases e : i = j
  · subst e
    exact h1
  · exact h i hi' (by omega)
theorem tb_decide {P Q : Prop} [Decidable Q] (h : P ↔ Q) : tb P = decide Q := by
  by_cases q : Q
  · rw [tb_true (h.2 q), decide_eq_true q]
  · rw [tb_false (fun p => q (h.1 p)), decide_eq_false q]
theorem parts_bd {d : Disk} {p : LogPlan} (hp : p.ok) {j : Nat} (hj : j < p.parts.length) {l : List LogRecord} (h : d.part p.parts[j] = some l) : l.length ≤ 4000 := (Disk.part_len h (p.sane hp j hj).2.2.2.2).1
end Go.Proofs.YtddjgbhkfdpffaaGreatDoor
