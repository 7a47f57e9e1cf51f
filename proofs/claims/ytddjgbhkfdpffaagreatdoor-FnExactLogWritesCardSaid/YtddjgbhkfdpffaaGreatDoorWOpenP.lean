/-
  The newest plan of a disk: the reference. Written by hand.
-/
import Derived.Deep.RegionHeld3
import Derived.Deep.Cut
import Derived.Test.YtddjgbhkfdpffaaGreatDoorWDiskW2
import Derived.Test.YtddjgbhkfdpffaaGreatDoorWCutI
import Derived.Test.YtddjgbhkfdpffaaGreatDoorWOpenN
import Derived.Test.YtddjgbhkfdpffaaGreatDoorWPlRS2
set_option linter.unusedVariables false
set_option linter.unusedSimpArgs false
namespace Go.Proofs.YtddjgbhkfdpffaaGreatDoor
open Go.ChangeShapes Go.WideShapes Go.ChangeAt Go.RowKit

theorem Disk.shown_size {d : Disk} {x : ByteArray} (h : x ∈ d.shown) : x.size ≤ 8 := by
  by_cases hok : tb d.ok = true
  · rw [Disk.shown_yes hok] at h
    obtain ⟨j, hj, rfl⟩ := (d.ok_after (tb_got hok) _ (Nat.le_refl _)).2.2 x h
    exact ((tb_got hok).2.2.1 j hj).1.1.2.1
  · rw [Disk.shown_no (by simpa using hok)] at h
    cases h
theorem Disk.look_size (d : Disk) (x : ByteArray) : (d.lookT x).size ≤ 20000 := by
  by_cases h : x ∈ d.shown
  · have h2 := h
    obtain ⟨k, hk, _, e, _⟩ := Disk.look_yes h
    rw [e]
    by_cases hok : tb d.ok = true
    · exact ((tb_got hok).2.2.1 k hk).1.2.1
    · rw [Disk.shown_no (by simpa using hok)] at h2
      cases h2
  · rw [(Disk.look_no h).1]
    decide
def NewestRet (d : Disk) (w : World) (e : Ending) (w' : World) : Prop :=
  ∃ us fq, e = .returned (.tuple #[.agg us.toArray, .int .i64 (d.newest.2 : Int)]) ∧ OwC w' d.newest.1.cells us fq ∧ New w' fq w.heap.size ∧ Below w.heap.size w w'
/-- a plan in the box b, beside the result's box r -/
structure BestIn (w : World) (b r : Nat) (p : LogPlan) (us : List Value) (fq : List Nat) : Prop where
  box : Row w b 30 us
  ow : OwC w p.cells us fq
  new : New w fq (r + 1)
  out : b ∉ fq
  res : Row w r 30 [.slice none 0 0, .int .i64 0, .int .i64 0]
  lt : r < b
theorem BestIn.below {w w' : World} {b r : Nat} {p : LogPlan} {us : List Value} {fq : List Nat} (h : BestIn w b r p us fq) (hb : Below w.heap.size w w') : BestIn w' b r p us fq :=
  ⟨h.box.below hb h.box.lt, h.ow.below hb h.new.lt, h.new.below hb h.new.lt, h.out, h.res.below hb h.res.lt, h.lt⟩
theorem LogPlan.zero_ow (w : World) : OwC w LogPlan.zero.cells [.slice none 0 0, .int .i64 0, .int .i64 0] [] := OwC.mLogPlan (x := LogPlan.zero) (Ow.nil_ _ _ _) (by decide) (by decide)
/-- another plan is put into the box -/
theorem BestIn.put {w : World} {b r : Nat} {p q : LogPlan} {us vs : List Value} {fq fr : List Nat} (h : BestIn w b r p us fq) (ho : OwC w q.cells vs fr) (hn : New w fr (r + 1)) (hb : b ∉ fr) : BestIn (putN w b 0 vs) b r q vs fr := by
  have hl1 := h.ow.length
  have hl2 := ho.length
  have hg := setN_grown vs 0 (grown_refl w (some b))
  refine ⟨h.box.setAll vs (by rw [hl1, hl2, LogPlan.cells_len, LogPlan.cells_len]), ho.grown hg hn.lt hb, hn.grown hg (fun g e => by injection e with e; subst e; exact hb), hb, h.res.grown hg (fun e => by injection e with e; have := h.lt; omega), h.lt⟩
theorem newestRet_of {d : Disk} {w W : World} {p : LogPlan} {m : Nat} {us : List Value} {fq : List Nat} (h : (p, m) = d.newest) (ho : OwC W p.cells us fq) (hn : New W fq w.heap.size) (hb : Below w.heap.size w W) : NewestRet d w (.returned (.tuple #[.agg us.toArray, .int .i64 (m : Int)])) W := by
  unfold NewestRet
  rw [← h]
  exact ⟨us, fq, rfl, ho, hn, hb⟩
theorem l43Num_m (s : ByteArray) (w : World) (hs : s.size ≤ 1048576) :
    Calls Tryz.prog 79 #[.string s, .int .u8 109] w fun e w' => e = .returned (.int .i64 (fileNum s 109 : Int)) ∧ Below w.heap.size w w' := l43Num_any s 109 w hs
set_option maxRecDepth 100000 in
set_option maxHeartbeats 2000000 in
theorem l43Plan_any (d : Disk) (us0 : List Value) (fp : List Nat) (w : World) (h : OwC w d.cells us0 fp) (hf : Lt fp w.heap.size) (hbk : d.bulk ≤ 1048576) :
    Calls Tryz.prog 31 #[.agg us0.toArray] w (NewestRet d w) := by
  have HOC := hide h
  obtain ⟨A1, c1, A2, c2, A3, c3, f1, f2, f3, rfl, o1, o2, o3, rfl⟩ := h.oDisk
  clear h o1 o2 o3
  have HLK := hide (fun (x : ByteArray) (hx : x.size ≤ 1048576) (W : World) (hb : Below w.heap.size w W) => specDiskLook_any d _ _ x W (HOC.out.below hb hf) (hf.up hb) hbk hx)
  have HNM := hide (fun (W : World) (hb : Below w.heap.size w W) => specDiskNames_any d _ _ W (HOC.out.below hb hf) (hf.up hb) hbk)
  go_enter Tryz.func31, Tryz.ntmps31
  go_upto_region 1 with fail
  generalize hwA : w.alloc (.cells #[.slice A1 d.files.length c1, .slice A2 d.names.length c2, .slice A3 d.moves.length c3] 38) = wA
  have hA : Below w.heap.size w wA := by rw [← hwA]; exact (Below.refl _ _).alloc (Nat.le_refl _) _
  have hsA : wA.heap.size = w.heap.size + 1 := by rw [← hwA]; simp
  have RA : Row wA w.heap.size 38 [.slice A1 d.files.length c1, .slice A2 d.names.length c2, .slice A3 d.moves.length c3] := by rw [← hwA]; exact Row.new w _ _
  try simp only [hsA]
  clear hwA
  generalize hwB : wA.alloc (.cells #[.slice none 0 0, .int .i64 0, .int .i64 0] 30) = wB
  have hAB : Below wA.heap.size wA wB := by rw [← hwB]; exact (Below.refl _ _).alloc (Nat.le_refl _) _
  have RZ := hide (show Row wB (w.heap.size + 1) 30 [.slice none 0 0, .int .i64 0, .int .i64 0] from by rw [← hwB, ← hsA]; exact Row.new wA _ _)
  have HRD := hide (RA.below hAB RA.lt)
  have HB1 := hide (hA.trans (hAB.mono hA.size))
  clear hwB hAB hA hsA RA
  have d0 := HRD.out.cell 0
  have d1 := HRD.out.cell 1
  have d2 := HRD.out.cell 2
  have ld := HRD.out.lt
  go_wp2_with fail
  refine (HNM.out wB HB1.out).mono ?_
  rintro e w2 ⟨v, fq, rfl, hq, hqn, hb2⟩
  have HB2 := hide (HB1.out.trans (hb2.mono HB1.out.size))
  have HR2 := hide (HRD.out.below hb2 ld)
  have HZ2 := hide (RZ.out.below hb2 RZ.out.lt)
  obtain ⟨Aq, cq, rfl, _, _⟩ := hq.slice
  have HQ := hide hq
  have HQL := hide hqn.lt
  clear hb2 hq hqn d0 d1 d2 ld HNM HRD RZ HB1
  have hrb : w.heap.size + 1 < w2.heap.size := HZ2.out.lt
  go_upto_region 3 with fail
  generalize hwC : w2.alloc (.cells #[.slice none 0 0, .int .i64 0, .int .i64 0] 30) = wC
  have hC : Below w2.heap.size w2 wC := by rw [← hwC]; exact (Below.refl _ _).alloc (Nat.le_refl _) _
  have RC := hide (show Row wC w2.heap.size 30 [.slice none 0 0, .int .i64 0, .int .i64 0] from by rw [← hwC]; exact Row.new w2 _ _)
  have HBI := hide (show BestIn wC w2.heap.size (w.heap.size + 1) LogPlan.zero [.slice none 0 0, .int .i64 0, .int .i64 0] [] from ⟨RC.out, LogPlan.zero_ow _, New.nil _ _, by simp, HZ2.out.below hC HZ2.out.lt, hrb⟩)
  have HB3 := hide (HB2.out.trans (hC.mono HB2.out.size))
  have HR3 := hide (HR2.out.below hC HR2.out.lt)
  have HQ3 := hide (HQ.out.below hC HQL.out)
  clear hwC hC RC HB2 HR2 HZ2 HQ
  obtain ⟨b, hbe⟩ : ∃ b, b = w2.heap.size := ⟨_, rfl⟩
  rw [← hbe] at HBI hrb HQL ⊢
  clear hbe
  go_wp2
  go_loopw [6, 7] (fun n i wr => ∃ (m j : Nat) (p : LogPlan) (us : List Value) (fr : List Nat), n = .int .i64 (m : Int) ∧ i = .int .i64 (j : Int) ∧ j ≤ d.shown.length ∧ m ≤ 999999 ∧ newestOf d (d.shown.drop j) p m = d.newest ∧ BestIn wr b (w.heap.size + 1) p us fr ∧ Row wr w.heap.size 38 [.slice A1 d.files.length c1, .slice A2 d.names.length c2, .slice A3 d.moves.length c3] ∧ Below w.heap.size w wr ∧ Ow wr (.s 1 d.shown.length (d.shown.flatMap strC)) (.slice Aq d.shown.length cq) fq) (fun _ i _ => d.shown.length - (intOf i).toNat)
  case atStart => exact ⟨0, 0, _, _, _, rfl, rfl, Nat.zero_le _, by decide, rfl, HBI.out, HR3.out, HB3.out, HQ3.out⟩
  case round =>
    clear HBI HR3 HB3 HQ3
    obtain ⟨m, j, p, us, fr, rfl, rfl, hj, hm, hnw, hbi, hrd, hbw, hq4⟩ := hrel
    obtain ⟨Ap, cp, fpp, rfl, op, wp1, wp2, rfl⟩ := hbi.ow.oLogPlan
    have HBI := hide hbi
    have HRD := hide hrd
    have HB := hide hbw
    have HQ4 := hide hq4
    have hml := hq4.nlen
    unfold maxLen at hml
    have HNW := hide hnw
    clear hbi hrd hbw hq4 hnw op wp1 wp2
    by_cases hlt : j < d.shown.length
    · obtain ⟨g, off, rfl, hgm, hcl, hsz⟩ := strs_at HQ4.out hlt
      have hqw := HQL.out.mono (Nat.le_of_lt HBI.out.box.lt)
      have hgw := hqw _ hgm
      have hx8 : d.shown[j].size ≤ 1048576 := by have := Disk.shown_size (d := d) (List.getElem_mem hlt); omega
      have HLK2 := hide (HLK.out d.shown[j] hx8)
      have HNU := hide (l43Num_m d.shown[j] wr hx8)
      have hk9 := fileNum_le d.shown[j] 109
      have hls := d.look_size d.shown[j]
      have HPR := hide (fun W => specLogPlanRead_any (d.lookT d.shown[j]) W (by omega))
      have hnx := newestOf_at d d.shown j hlt p m
      rw [HNW.out] at hnx
      have HNX := hide hnx
      have hji : (j : Int) < (d.shown.length : Int) := by omega
      clear hnx HLK
      generalize d.lookB d.shown[j] = there at *
      generalize d.lookT d.shown[j] = data at *
      generalize fileNum d.shown[j] 109 = k at *
      generalize d.shown[j] = x at *
      go_wp2_with fail
      refine HNU.out.mono ?_
      rintro e w4 ⟨rfl, hb4⟩
      have HB4 := hide (HB.out.trans (hb4.mono HB.out.size))
      have HQ5 := hide (HQ4.out.below hb4 hqw)
      have hqw4 := hqw.mono hb4.size
      have HBI4 := hide (HBI.out.below hb4)
      have HR4 := hide (HRD.out.below hb4 HRD.out.lt)
      have p1 := (hb4.cell (p := ⟨g, off + j, none⟩) hgw).trans hcl
      have hgw4 := Nat.lt_of_lt_of_le hgw hb4.size
      have d0 := HR4.out.cell 0
      have d1 := HR4.out.cell 1
      have d2 := HR4.out.cell 2
      have ld := HR4.out.lt
      clear HNU HBI HRD HB HQ4 hqw hb4 hcl hgw HNW
      by_cases hgt : m < k
      · have hgi : (m : Int) < (k : Int) := by omega
        go_wp2_with fail
        go_region_held3 (fun w' => w'.cell? ⟨w.heap.size, 0, none⟩ = some (.slice A1 d.files.length c1) ∧ w'.cell? ⟨w.heap.size, 1, none⟩ = some (.slice A2 d.names.length c2) ∧ w'.cell? ⟨w.heap.size, 2, none⟩ = some (.slice A3 d.moves.length c3) ∧ w'.cell? ⟨g, off + j, none⟩ = some (.string x))
          (first | exact ⟨kcell2 d0 hbz ld, kcell2 d1 hbz ld, kcell2 d2 hbz ld, kcell2 p1 hbz hgw4⟩ | go_keep)
          (first
            | (go_at_call 33; refine (HLK2.out _ (below_drewN HB4.out _)).mono ?_; rintro e w5 ⟨rfl, hb5⟩; have hbz : Below w4.heap.size w4 w5 := (below_drewN (Below.refl _ w4) _).trans hb5))
        all_goals
          have HB5 := hide (HB4.out.trans (hbz.mono HB4.out.size))
          have HQ6 := hide (HQ5.out.below hbz hqw4)
          have hqw5 := hqw4.mono hbz.size
          have HBI5 := hide (HBI4.out.below hbz)
          have HR5 := hide (HR4.out.below hbz HR4.out.lt)
          clear hbz hb5 HB4 HQ5 hqw4 HBI4 HR4 p1 hgw4 d0 d1 d2 ld HLK2
          go_wp2_with fail
          refine (HPR.out _).mono ?_
          rintro e w6 ⟨vs, fq', rfl, ho, hn, hb6⟩
          obtain ⟨Aq', cq', fqq, rfl, oq, wq1, wq2, rfl⟩ := ho.oLogPlan
          have HOQ := hide ho
          have HNQ := hide hn
          have HB6 := hide (HB5.out.trans (hb6.mono HB5.out.size))
          have HQ7 := hide (HQ6.out.below hb6 hqw5)
          have hqw6 := hqw5.mono hb6.size
          have HBI6 := hide (HBI5.out.below hb6)
          have HR6 := hide (HR5.out.below hb6 HR5.out.lt)
          have hout : b ∉ fq' := hn.out HBI5.out.box.lt
          have hnl := hn.mono (Nat.succ_le_of_lt HBI5.out.res.lt)
          have HNL := hide hnl
          clear ho hn hb6 oq wq1 wq2 HB5 HQ6 hqw5 HBI5 HR5 hnl HNQ
          go_upto_region 11 with fail
          generalize hwD : w6.alloc (.cells #[.slice Aq' (readP data).parts.length cq', .int .i64 (readP data).open_, .int .i64 (readP data).first] 30) = wD
          have hD : Below w6.heap.size w6 wD := by rw [← hwD]; exact (Below.refl _ _).alloc (Nat.le_refl _) _
          have RD : Row wD w6.heap.size 30 [.slice Aq' (readP data).parts.length cq', .int .i64 (readP data).open_, .int .i64 (readP data).first] := by rw [← hwD]; exact Row.new w6 _ _
          have HB7 := hide (HB6.out.trans (hD.mono HB6.out.size))
          have HQ8 := hide (HQ7.out.below hD hqw6)
          have hqw7 := hqw6.mono hD.size
          have HBI7 := hide (HBI6.out.below hD)
          have HR7 := hide (HR6.out.below hD HR6.out.lt)
          have HOQ7 := hide (HOQ.out.below hD HNL.out.lt)
          have HNL7 := hide (HNL.out.below hD HNL.out.lt)
          clear hwD hD HB6 HQ7 hqw6 HBI6 HR6 HOQ HNL
          by_cases hrp : readPB data = true
          · have HE := hide (show newestOf d (d.shown.drop (j + 1)) (readP data) k = d.newest by rw [HNX.out, if_pos ⟨hgt, hrp⟩])
            have z0 := RD.cell 0
            have z1 := RD.cell 1
            have z2 := RD.cell 2
            have zl := RD.lt
            have v0 := HBI7.out.box.cell 0
            have v1 := HBI7.out.box.cell 1
            have v2 := HBI7.out.box.cell 2
            have y0 := HBI7.out.box.frozen 0
            have y1 := HBI7.out.box.frozen 1
            have y2 := HBI7.out.box.frozen 2
            have yl := HBI7.out.box.lt
            have hbl := HBI7.out.lt
            rw [hrp]
            clear hrp hgt HNX RD
            go_wp2
            go_roundw
            case rel =>
              have hg := setN_grown [.slice Aq' (readP data).parts.length cq', .int .i64 (readP data).open_, .int .i64 (readP data).first] 0 (grown_refl wD (some b))
              exact ⟨k, j + 1, readP data, _, _, rfl, by go_num, by omega, hk9, HE.out, HBI7.out.put HOQ7.out HNL7.out hout, HR7.out.grown hg (fun e => by injection e with e; omega), HB7.out.trans (below_of_grown hg (by omega) HB7.out.size), HQ8.out.grown hg hqw7 (HQL.out.not_mem (Nat.le_refl _))⟩
            case measure => simp [intOf]; omega
          · have hrn : readPB data = false := by simpa using hrp
            have HE := hide (show newestOf d (d.shown.drop (j + 1)) p m = d.newest by rw [HNX.out, if_neg (fun h => hrp h.2)])
            rw [hrn]
            clear hrp hrn hgt HNX RD
            go_wp2
            go_roundw
            case rel => exact ⟨m, j + 1, p, _, _, rfl, by go_num, by omega, hm, HE.out, HBI7.out, HR7.out, HB7.out, HQ8.out⟩
            case measure => simp [intOf]; omega
      · have hgi : ¬ ((m : Int) < (k : Int)) := by omega
        have HE := hide (show newestOf d (d.shown.drop (j + 1)) p m = d.newest by rw [HNX.out, if_neg (fun h => hgt h.1)])
        clear HNX hgt
        go_wp2
        go_roundw
        case rel => exact ⟨m, j + 1, p, _, _, rfl, by go_num, by omega, hm, HE.out, HBI4.out, HR4.out, HB4.out, HQ5.out⟩
        case measure => simp [intOf]; omega
    · obtain rfl : j = d.shown.length := by omega
      have he : (p, m) = d.newest := by rw [← HNW.out, List.drop_of_length_le (Nat.le_refl _)]; rfl
      have HE := hide he
      have z0 := HBI.out.box.cell 0
      have z1 := HBI.out.box.cell 1
      have z2 := HBI.out.box.cell 2
      have zl := HBI.out.box.lt
      have v0 := HBI.out.res.cell 0
      have v1 := HBI.out.res.cell 1
      have v2 := HBI.out.res.cell 2
      have y0 := HBI.out.res.frozen 0
      have y1 := HBI.out.res.frozen 1
      have y2 := HBI.out.res.frozen 2
      have yl := HBI.out.res.lt
      clear he hlt HLK HNW
      go_wp2
      refine bodyPost_ret (ret_row_tmp rfl _ _ (w.heap.size + 1) 30 [.slice Ap p.parts.length cp, .int .i64 p.open_, .int .i64 p.first] (HBI.out.res.setAll [.slice Ap p.parts.length cp, .int .i64 p.open_, .int .i64 p.first] rfl) _ _ rfl rfl Tryz.underlying30 rfl (by kernel_rfl)) rfl ?_
      have hgr := setN_grown [.slice Ap p.parts.length cp, .int .i64 p.open_, .int .i64 p.first] 0 (grown_refl wr (some (w.heap.size + 1)))
      have hno := HBI.out.new.out (Nat.lt_succ_self (w.heap.size + 1))
      exact newestRet_of HE.out (HBI.out.ow.grown hgr HBI.out.new.lt hno) ((HBI.out.new.grown hgr (fun g e => by injection e with e; subst e; exact hno)).mono (by omega)) (HB.out.trans (below_of_grown hgr (by omega) HB.out.size))
end Go.Proofs.YtddjgbhkfdpffaaGreatDoor
