/-
  When a world of a crew is ok: the program.
-/
import Derived.Test.YtpkjjfnfolbcoaaCrewI6
import Derived.Test.YtpkjjfnfolbcoaaCrewI3
import Derived.Test.YtpkjjfnfolbcoaaCrewI2
import Derived.Deep.RegionHeld3
set_option linter.unusedVariables false
set_option linter.unusedSimpArgs false
namespace Go.Proofs.Ytpkjjfnfolbcoaa
open Go.ChangeShapes Go.WideShapes Go.ChangeAt Go.RowKit

theorem left_le2 {x : CrewWorld} (h : x.Form) : 0 ≤ x.left ∧ x.left ≤ 3000 := by
  have h1 := h.next
  have h2 := h.start
  have h3 := h.queue
  have h4 := h.results
  have h5 := h.out
  have h6 := h.hands
  have h7 := h.ring
  have a1 := readLeft_le x.reader
  have a2 := keepLeft_le x.keeper
  have a3 := handsLeft_le x.hands
  have a4 := ringLeft_le x.ring
  have a5 : 0 ≤ bitP (x.closer = 0) ∧ bitP (x.closer = 0) ≤ 1 := by unfold bitP; split <;> omega
  have a6 : 0 ≤ bitP (x.user = 0) ∧ bitP (x.user = 0) ≤ 1 := by unfold bitP; split <;> omega
  unfold crewOk at h2
  unfold CrewWorld.left
  omega
theorem ok_iff2 {x : CrewWorld} : x.ok ↔ x.Form ∧ x.Laid ∧ x.Ends ∧ x.Kept ∧ x.ops + x.left ≤ 11 * x.jobs + x.workers + 7 :=
  ⟨fun h => ⟨h.form, (laid_iff h.form).1 h.placed, h.ends, h.kept, h.few⟩, fun h => ⟨h.1, (laid_iff h.1).2 h.2.1, h.2.2.1, h.2.2.2.1, h.2.2.2.2⟩⟩
set_option maxRecDepth 100000 in
set_option maxHeartbeats 8000000 in
theorem isOk_any (x : CrewWorld) (us : List Value) (fp : List Nat) (b : Nat) (w : World) (hb : Row w b 30 us) (ho : OwC w x.cells us fp) (hf : Lt fp w.heap.size) (hgl : x.got.length ≤ 1048576) :
    Calls Try.prog 60 #[.pointer (some ⟨b, 0, none⟩)] w fun e w' => e = .returned (.bool (tb x.ok)) ∧ Below w.heap.size w w' := by
  have HNO := hide (fun (h : ¬ x.ok) => show false = tb x.ok from (tb_false h).symm)
  have HGL := hide hgl
  clear hgl
  have HO := hide ho
  have HF := hide hf
  obtain ⟨A1, c1, A2, c2, A3, c3, A4, c4, A5, c5, A6, c6, A7, c7, f1, f2, f3, f4, f5, f6, f7, rfl, wjobs, wworkers, wwindow, wnext, wreader, o1, o2, wcloser, o3, wkeeper, o4, wdue, o5, wuser, o6, wroom, o7, wops, rfl⟩ := ho.oCrewWorld
  have HX := hide hb
  clear ho hb o1 o2 o3 o4 o5 o6 o7
  have x9 := HX.out.cell 9
  have xl := HX.out.lt
  go_enter Try.func60, Try.ntmps60
  have hRR : Below w.heap.size w w := Below.refl _ _
  by_cases hfm : x.Form
  rotate_left
  · have Hsz := hide (fun (W : World) (hb : Below w.heap.size w W) => show Calls Try.prog 116 #[.pointer (some ⟨b, 0, none⟩)] W (fun e w' => e = .returned (.bool false) ∧ Below W.heap.size W w') from by
      have h := sizesOk_any x _ _ b W (HX.out.below hb HX.out.lt) (HO.out.below hb HF.out) (HF.out.up hb)
      rw [tb_false hfm] at h
      exact h)
    have HZ := hide (HNO.out (fun hp => hfm hp.form))
    go_wp2_with (first | (go_at_call 116; refine (Hsz.out _ hRR).mono ?_; rintro e v0 ⟨rfl, hq0⟩; have hB0 := hRR.trans (hq0.mono hRR.size); have z00 := (HX.out.below hB0 HX.out.lt).cell 0; have z01 := (HX.out.below hB0 HX.out.lt).cell 1; have z09 := (HX.out.below hB0 HX.out.lt).cell 9; have z017 := (HX.out.below hB0 HX.out.lt).cell 17; have zl0 := (HX.out.below hB0 HX.out.lt).lt) | fail)
    go_ret
    exact ⟨ret_bool HZ.out, hB0⟩
  have Hsz := hide (fun (W : World) (hb : Below w.heap.size w W) => show Calls Try.prog 116 #[.pointer (some ⟨b, 0, none⟩)] W (fun e w' => e = .returned (.bool true) ∧ Below W.heap.size W w') from by
    have h := sizesOk_any x _ _ b W (HX.out.below hb HX.out.lt) (HO.out.below hb HF.out) (HF.out.up hb)
    rw [tb_true hfm] at h
    exact h)
  have HFM := hide hfm
  clear hfm
  by_cases hl : x.Laid
  rotate_left
  · have Hjb := hide (fun (W : World) (hb : Below w.heap.size w W) => show Calls Try.prog 117 #[.pointer (some ⟨b, 0, none⟩)] W (fun e w' => e = .returned (.bool false) ∧ Below W.heap.size W w') from by
      have h := jobsOk_any x _ _ b W (HX.out.below hb HX.out.lt) (HO.out.below hb HF.out) (HF.out.up hb) HFM.out HGL.out
      rw [tb_false hl] at h
      exact h)
    have HZ := hide (HNO.out (fun hp => hl (ok_iff2.1 hp).2.1))
    go_wp2_with (first | (go_at_call 116; refine (Hsz.out _ hRR).mono ?_; rintro e v0 ⟨rfl, hq0⟩; have hB0 := hRR.trans (hq0.mono hRR.size); have z00 := (HX.out.below hB0 HX.out.lt).cell 0; have z01 := (HX.out.below hB0 HX.out.lt).cell 1; have z09 := (HX.out.below hB0 HX.out.lt).cell 9; have z017 := (HX.out.below hB0 HX.out.lt).cell 17; have zl0 := (HX.out.below hB0 HX.out.lt).lt) | (go_at_call 117; refine (Hjb.out _ hB0).mono ?_; rintro e v1 ⟨rfl, hq1⟩; have hB1 := hB0.trans (hq1.mono hB0.size); have z10 := (HX.out.below hB1 HX.out.lt).cell 0; have z11 := (HX.out.below hB1 HX.out.lt).cell 1; have z19 := (HX.out.below hB1 HX.out.lt).cell 9; have z117 := (HX.out.below hB1 HX.out.lt).cell 17; have zl1 := (HX.out.below hB1 HX.out.lt).lt) | fail)
    go_ret
    exact ⟨ret_bool HZ.out, hB1⟩
  have Hjb := hide (fun (W : World) (hb : Below w.heap.size w W) => show Calls Try.prog 117 #[.pointer (some ⟨b, 0, none⟩)] W (fun e w' => e = .returned (.bool true) ∧ Below W.heap.size W w') from by
    have h := jobsOk_any x _ _ b W (HX.out.below hb HX.out.lt) (HO.out.below hb HF.out) (HF.out.up hb) HFM.out HGL.out
    rw [tb_true hl] at h
    exact h)
  have HLD := hide hl
  clear hl
  by_cases hn : x.Ends
  rotate_left
  · have Hen := hide (fun (W : World) (hb : Below w.heap.size w W) => show Calls Try.prog 118 #[.pointer (some ⟨b, 0, none⟩)] W (fun e w' => e = .returned (.bool false) ∧ Below W.heap.size W w') from by
      have h := endsOk_any x _ _ b W (HX.out.below hb HX.out.lt) (HO.out.below hb HF.out) (HF.out.up hb) HFM.out
      rw [tb_false hn] at h
      exact h)
    have HZ := hide (HNO.out (fun hp => hn hp.ends))
    go_wp2_with (first | (go_at_call 116; refine (Hsz.out _ hRR).mono ?_; rintro e v0 ⟨rfl, hq0⟩; have hB0 := hRR.trans (hq0.mono hRR.size); have z00 := (HX.out.below hB0 HX.out.lt).cell 0; have z01 := (HX.out.below hB0 HX.out.lt).cell 1; have z09 := (HX.out.below hB0 HX.out.lt).cell 9; have z017 := (HX.out.below hB0 HX.out.lt).cell 17; have zl0 := (HX.out.below hB0 HX.out.lt).lt) | (go_at_call 117; refine (Hjb.out _ hB0).mono ?_; rintro e v1 ⟨rfl, hq1⟩; have hB1 := hB0.trans (hq1.mono hB0.size); have z10 := (HX.out.below hB1 HX.out.lt).cell 0; have z11 := (HX.out.below hB1 HX.out.lt).cell 1; have z19 := (HX.out.below hB1 HX.out.lt).cell 9; have z117 := (HX.out.below hB1 HX.out.lt).cell 17; have zl1 := (HX.out.below hB1 HX.out.lt).lt) | (go_at_call 118; refine (Hen.out _ hB1).mono ?_; rintro e v2 ⟨rfl, hq2⟩; have hB2 := hB1.trans (hq2.mono hB1.size); have z20 := (HX.out.below hB2 HX.out.lt).cell 0; have z21 := (HX.out.below hB2 HX.out.lt).cell 1; have z29 := (HX.out.below hB2 HX.out.lt).cell 9; have z217 := (HX.out.below hB2 HX.out.lt).cell 17; have zl2 := (HX.out.below hB2 HX.out.lt).lt) | fail)
    go_ret
    exact ⟨ret_bool HZ.out, hB2⟩
  have Hen := hide (fun (W : World) (hb : Below w.heap.size w W) => show Calls Try.prog 118 #[.pointer (some ⟨b, 0, none⟩)] W (fun e w' => e = .returned (.bool true) ∧ Below W.heap.size W w') from by
    have h := endsOk_any x _ _ b W (HX.out.below hb HX.out.lt) (HO.out.below hb HF.out) (HF.out.up hb) HFM.out
    rw [tb_true hn] at h
    exact h)
  have HEN := hide hn
  clear hn
  have hlle := left_le2 HFM.out
  have hop := HFM.out.ops
  have hjj := HFM.out.start.1
  have hww := HFM.out.start.2.1
  obtain ⟨lf, hlf⟩ : ∃ z, z = x.left := ⟨_, rfl⟩
  have HLFE := hide hlf
  rw [← hlf] at hlle
  have v1 : IntKind.i64.wrap (x.ops + lf) = x.ops + lf := wrapI _ (by omega) (by omega)
  have v2 : IntKind.i64.wrap (11 * x.jobs) = 11 * x.jobs := wrapI _ (by omega) (by omega)
  have v3 : IntKind.i64.wrap (11 * x.jobs + x.workers) = 11 * x.jobs + x.workers := wrapI _ (by omega) (by omega)
  have v4 : IntKind.i64.wrap (11 * x.jobs + x.workers + 7) = 11 * x.jobs + x.workers + 7 := wrapI _ (by omega) (by omega)
  have HFEW := hide (fun (hk : x.Kept) => show decide (x.ops + lf ≤ 11 * x.jobs + x.workers + 7) = tb x.ok from by
    rw [hlf]
    by_cases h : x.ops + x.left ≤ 11 * x.jobs + x.workers + 7
    · rw [dec_true h, tb_true (ok_iff2.2 ⟨HFM.out, HLD.out, HEN.out, hk, h⟩)]
    · rw [dec_false h, tb_false (fun hp => h (ok_iff2.1 hp).2.2.2.2)])
  clear hlf
  by_cases hk0 : x.keeper = 0
  · have r1 := beqt' hk0
    have hk2 : ¬ x.keeper = 2 := by omega
    have r2 := beqf' hk2
    by_cases hd : x.dueIn
    · have Hdu := hide (fun (W : World) (hb : Below w.heap.size w W) => show Calls Try.prog 119 #[.pointer (some ⟨b, 0, none⟩)] W (fun e w' => e = .returned (.bool true) ∧ Below W.heap.size W w') from by
        have h := hasDue_any x _ _ b W (HX.out.below hb HX.out.lt) (HO.out.below hb HF.out) (HF.out.up hb) HFM.out
        rw [tb_true hd] at h
        exact h)
      have HK := hide (show ¬ x.Kept from fun h => h.1 hk0 hd)
      clear hd hk0 hk2
      have HZ := hide (HNO.out (fun hp => HK.out hp.kept))
      go_wp2_with (first | (go_at_call 116; refine (Hsz.out _ hRR).mono ?_; rintro e v0 ⟨rfl, hq0⟩; have hB0 := hRR.trans (hq0.mono hRR.size); have z00 := (HX.out.below hB0 HX.out.lt).cell 0; have z01 := (HX.out.below hB0 HX.out.lt).cell 1; have z09 := (HX.out.below hB0 HX.out.lt).cell 9; have z017 := (HX.out.below hB0 HX.out.lt).cell 17; have zl0 := (HX.out.below hB0 HX.out.lt).lt) | (go_at_call 117; refine (Hjb.out _ hB0).mono ?_; rintro e v1 ⟨rfl, hq1⟩; have hB1 := hB0.trans (hq1.mono hB0.size); have z10 := (HX.out.below hB1 HX.out.lt).cell 0; have z11 := (HX.out.below hB1 HX.out.lt).cell 1; have z19 := (HX.out.below hB1 HX.out.lt).cell 9; have z117 := (HX.out.below hB1 HX.out.lt).cell 17; have zl1 := (HX.out.below hB1 HX.out.lt).lt) | (go_at_call 118; refine (Hen.out _ hB1).mono ?_; rintro e v2 ⟨rfl, hq2⟩; have hB2 := hB1.trans (hq2.mono hB1.size); have z20 := (HX.out.below hB2 HX.out.lt).cell 0; have z21 := (HX.out.below hB2 HX.out.lt).cell 1; have z29 := (HX.out.below hB2 HX.out.lt).cell 9; have z217 := (HX.out.below hB2 HX.out.lt).cell 17; have zl2 := (HX.out.below hB2 HX.out.lt).lt) | (go_at_call 119; refine (Hdu.out _ hB2).mono ?_; rintro e v3 ⟨rfl, hq3⟩; have hB3 := hB2.trans (hq3.mono hB2.size); have z30 := (HX.out.below hB3 HX.out.lt).cell 0; have z31 := (HX.out.below hB3 HX.out.lt).cell 1; have z39 := (HX.out.below hB3 HX.out.lt).cell 9; have z317 := (HX.out.below hB3 HX.out.lt).cell 17; have zl3 := (HX.out.below hB3 HX.out.lt).lt) | fail)
      go_ret
      exact ⟨ret_bool HZ.out, hB3⟩
    · have Hdu := hide (fun (W : World) (hb : Below w.heap.size w W) => show Calls Try.prog 119 #[.pointer (some ⟨b, 0, none⟩)] W (fun e w' => e = .returned (.bool false) ∧ Below W.heap.size W w') from by
        have h := hasDue_any x _ _ b W (HX.out.below hb HX.out.lt) (HO.out.below hb HF.out) (HF.out.up hb) HFM.out
        rw [tb_false hd] at h
        exact h)
      have HK := hide (show x.Kept from ⟨fun _ => hd, fun h => absurd h hk2⟩)
      have HZ := hide (HFEW.out HK.out)
      clear hd hk0 hk2
      go_wp2_with (first | (go_at_call 116; refine (Hsz.out _ hRR).mono ?_; rintro e v0 ⟨rfl, hq0⟩; have hB0 := hRR.trans (hq0.mono hRR.size); have z00 := (HX.out.below hB0 HX.out.lt).cell 0; have z01 := (HX.out.below hB0 HX.out.lt).cell 1; have z09 := (HX.out.below hB0 HX.out.lt).cell 9; have z017 := (HX.out.below hB0 HX.out.lt).cell 17; have zl0 := (HX.out.below hB0 HX.out.lt).lt) | (go_at_call 117; refine (Hjb.out _ hB0).mono ?_; rintro e v1 ⟨rfl, hq1⟩; have hB1 := hB0.trans (hq1.mono hB0.size); have z10 := (HX.out.below hB1 HX.out.lt).cell 0; have z11 := (HX.out.below hB1 HX.out.lt).cell 1; have z19 := (HX.out.below hB1 HX.out.lt).cell 9; have z117 := (HX.out.below hB1 HX.out.lt).cell 17; have zl1 := (HX.out.below hB1 HX.out.lt).lt) | (go_at_call 118; refine (Hen.out _ hB1).mono ?_; rintro e v2 ⟨rfl, hq2⟩; have hB2 := hB1.trans (hq2.mono hB1.size); have z20 := (HX.out.below hB2 HX.out.lt).cell 0; have z21 := (HX.out.below hB2 HX.out.lt).cell 1; have z29 := (HX.out.below hB2 HX.out.lt).cell 9; have z217 := (HX.out.below hB2 HX.out.lt).cell 17; have zl2 := (HX.out.below hB2 HX.out.lt).lt) | (go_at_call 119; refine (Hdu.out _ hB2).mono ?_; rintro e v3 ⟨rfl, hq3⟩; have hB3 := hB2.trans (hq3.mono hB2.size); have z30 := (HX.out.below hB3 HX.out.lt).cell 0; have z31 := (HX.out.below hB3 HX.out.lt).cell 1; have z39 := (HX.out.below hB3 HX.out.lt).cell 9; have z317 := (HX.out.below hB3 HX.out.lt).cell 17; have zl3 := (HX.out.below hB3 HX.out.lt).lt) | fail)
      have HLB := hide hB3
      have HLF := hide (fun (W : World) (hb : Below w.heap.size w W) => implLeft_any x _ _ b W (HX.out.below hb HX.out.lt) (HO.out.below hb HF.out) (HF.out.up hb) HFM.out)
      have HSS := hide (fun (W : World) (hb : Below w.heap.size w W) => show W.cell? ⟨b, 0, none⟩ = some (.int .i64 x.jobs) ∧ W.cell? ⟨b, 1, none⟩ = some (.int .i64 x.workers) ∧ W.cell? ⟨b, 17, none⟩ = some (.int .i64 x.ops) from by
        have h := HX.out.below hb HX.out.lt
        exact ⟨h.cell 0, h.cell 1, h.cell 17⟩)
      rw [← HLFE.out] at HLF
      go_region_held3 (fun W => W.cell? ⟨b, 0, none⟩ = some (.int .i64 x.jobs) ∧ W.cell? ⟨b, 1, none⟩ = some (.int .i64 x.workers) ∧ W.cell? ⟨b, 17, none⟩ = some (.int .i64 x.ops))
        (first | exact HSS.out _ (below_drewN HLB.out 1) | exact HSS.out _ hC1)
        (first | (go_at_call 64; refine (HLF.out _ (below_drewN HLB.out 1)).mono ?_; rintro e u1 ⟨rfl, hq⟩; have hC1 := (below_drewN HLB.out 1).trans (hq.mono (below_drewN HLB.out 1).size)))
      all_goals
        go_wp2
        go_ret
        exact ⟨ret_bool HZ.out, hC1⟩
  have r1 := beqf' hk0
  by_cases hk2 : x.keeper = 2
  · have r2 := beqt' hk2
    by_cases hd : x.dueIn
    · have Hdu := hide (fun (W : World) (hb : Below w.heap.size w W) => show Calls Try.prog 119 #[.pointer (some ⟨b, 0, none⟩)] W (fun e w' => e = .returned (.bool true) ∧ Below W.heap.size W w') from by
        have h := hasDue_any x _ _ b W (HX.out.below hb HX.out.lt) (HO.out.below hb HF.out) (HF.out.up hb) HFM.out
        rw [tb_true hd] at h
        exact h)
      have HK := hide (show x.Kept from ⟨fun h => absurd h hk0, fun _ => hd⟩)
      have HZ := hide (HFEW.out HK.out)
      clear hd hk0 hk2
      go_wp2_with (first | (go_at_call 116; refine (Hsz.out _ hRR).mono ?_; rintro e v0 ⟨rfl, hq0⟩; have hB0 := hRR.trans (hq0.mono hRR.size); have z00 := (HX.out.below hB0 HX.out.lt).cell 0; have z01 := (HX.out.below hB0 HX.out.lt).cell 1; have z09 := (HX.out.below hB0 HX.out.lt).cell 9; have z017 := (HX.out.below hB0 HX.out.lt).cell 17; have zl0 := (HX.out.below hB0 HX.out.lt).lt) | (go_at_call 117; refine (Hjb.out _ hB0).mono ?_; rintro e v1 ⟨rfl, hq1⟩; have hB1 := hB0.trans (hq1.mono hB0.size); have z10 := (HX.out.below hB1 HX.out.lt).cell 0; have z11 := (HX.out.below hB1 HX.out.lt).cell 1; have z19 := (HX.out.below hB1 HX.out.lt).cell 9; have z117 := (HX.out.below hB1 HX.out.lt).cell 17; have zl1 := (HX.out.below hB1 HX.out.lt).lt) | (go_at_call 118; refine (Hen.out _ hB1).mono ?_; rintro e v2 ⟨rfl, hq2⟩; have hB2 := hB1.trans (hq2.mono hB1.size); have z20 := (HX.out.below hB2 HX.out.lt).cell 0; have z21 := (HX.out.below hB2 HX.out.lt).cell 1; have z29 := (HX.out.below hB2 HX.out.lt).cell 9; have z217 := (HX.out.below hB2 HX.out.lt).cell 17; have zl2 := (HX.out.below hB2 HX.out.lt).lt) | (go_at_call 119; refine (Hdu.out _ hB2).mono ?_; rintro e v3 ⟨rfl, hq3⟩; have hB3 := hB2.trans (hq3.mono hB2.size); have z30 := (HX.out.below hB3 HX.out.lt).cell 0; have z31 := (HX.out.below hB3 HX.out.lt).cell 1; have z39 := (HX.out.below hB3 HX.out.lt).cell 9; have z317 := (HX.out.below hB3 HX.out.lt).cell 17; have zl3 := (HX.out.below hB3 HX.out.lt).lt) | fail)
      have HLB := hide hB3
      have HLF := hide (fun (W : World) (hb : Below w.heap.size w W) => implLeft_any x _ _ b W (HX.out.below hb HX.out.lt) (HO.out.below hb HF.out) (HF.out.up hb) HFM.out)
      have HSS := hide (fun (W : World) (hb : Below w.heap.size w W) => show W.cell? ⟨b, 0, none⟩ = some (.int .i64 x.jobs) ∧ W.cell? ⟨b, 1, none⟩ = some (.int .i64 x.workers) ∧ W.cell? ⟨b, 17, none⟩ = some (.int .i64 x.ops) from by
        have h := HX.out.below hb HX.out.lt
        exact ⟨h.cell 0, h.cell 1, h.cell 17⟩)
      rw [← HLFE.out] at HLF
      go_region_held3 (fun W => W.cell? ⟨b, 0, none⟩ = some (.int .i64 x.jobs) ∧ W.cell? ⟨b, 1, none⟩ = some (.int .i64 x.workers) ∧ W.cell? ⟨b, 17, none⟩ = some (.int .i64 x.ops))
        (first | exact HSS.out _ (below_drewN HLB.out 1) | exact HSS.out _ hC1)
        (first | (go_at_call 64; refine (HLF.out _ (below_drewN HLB.out 1)).mono ?_; rintro e u1 ⟨rfl, hq⟩; have hC1 := (below_drewN HLB.out 1).trans (hq.mono (below_drewN HLB.out 1).size)))
      all_goals
        go_wp2
        go_ret
        exact ⟨ret_bool HZ.out, hC1⟩
    · have Hdu := hide (fun (W : World) (hb : Below w.heap.size w W) => show Calls Try.prog 119 #[.pointer (some ⟨b, 0, none⟩)] W (fun e w' => e = .returned (.bool false) ∧ Below W.heap.size W w') from by
        have h := hasDue_any x _ _ b W (HX.out.below hb HX.out.lt) (HO.out.below hb HF.out) (HF.out.up hb) HFM.out
        rw [tb_false hd] at h
        exact h)
      have HK := hide (show ¬ x.Kept from fun h => hd (h.2 hk2))
      clear hd hk0 hk2
      have HZ := hide (HNO.out (fun hp => HK.out hp.kept))
      go_wp2_with (first | (go_at_call 116; refine (Hsz.out _ hRR).mono ?_; rintro e v0 ⟨rfl, hq0⟩; have hB0 := hRR.trans (hq0.mono hRR.size); have z00 := (HX.out.below hB0 HX.out.lt).cell 0; have z01 := (HX.out.below hB0 HX.out.lt).cell 1; have z09 := (HX.out.below hB0 HX.out.lt).cell 9; have z017 := (HX.out.below hB0 HX.out.lt).cell 17; have zl0 := (HX.out.below hB0 HX.out.lt).lt) | (go_at_call 117; refine (Hjb.out _ hB0).mono ?_; rintro e v1 ⟨rfl, hq1⟩; have hB1 := hB0.trans (hq1.mono hB0.size); have z10 := (HX.out.below hB1 HX.out.lt).cell 0; have z11 := (HX.out.below hB1 HX.out.lt).cell 1; have z19 := (HX.out.below hB1 HX.out.lt).cell 9; have z117 := (HX.out.below hB1 HX.out.lt).cell 17; have zl1 := (HX.out.below hB1 HX.out.lt).lt) | (go_at_call 118; refine (Hen.out _ hB1).mono ?_; rintro e v2 ⟨rfl, hq2⟩; have hB2 := hB1.trans (hq2.mono hB1.size); have z20 := (HX.out.below hB2 HX.out.lt).cell 0; have z21 := (HX.out.below hB2 HX.out.lt).cell 1; have z29 := (HX.out.below hB2 HX.out.lt).cell 9; have z217 := (HX.out.below hB2 HX.out.lt).cell 17; have zl2 := (HX.out.below hB2 HX.out.lt).lt) | (go_at_call 119; refine (Hdu.out _ hB2).mono ?_; rintro e v3 ⟨rfl, hq3⟩; have hB3 := hB2.trans (hq3.mono hB2.size); have z30 := (HX.out.below hB3 HX.out.lt).cell 0; have z31 := (HX.out.below hB3 HX.out.lt).cell 1; have z39 := (HX.out.below hB3 HX.out.lt).cell 9; have z317 := (HX.out.below hB3 HX.out.lt).cell 17; have zl3 := (HX.out.below hB3 HX.out.lt).lt) | fail)
      go_ret
      exact ⟨ret_bool HZ.out, hB3⟩
  have r2 := beqf' hk2
  have HK := hide (show x.Kept from ⟨fun h => absurd h hk0, fun h => absurd h hk2⟩)
  have HZ := hide (HFEW.out HK.out)
  clear hk0 hk2
  go_wp2_with (first | (go_at_call 116; refine (Hsz.out _ hRR).mono ?_; rintro e v0 ⟨rfl, hq0⟩; have hB0 := hRR.trans (hq0.mono hRR.size); have z00 := (HX.out.below hB0 HX.out.lt).cell 0; have z01 := (HX.out.below hB0 HX.out.lt).cell 1; have z09 := (HX.out.below hB0 HX.out.lt).cell 9; have z017 := (HX.out.below hB0 HX.out.lt).cell 17; have zl0 := (HX.out.below hB0 HX.out.lt).lt) | (go_at_call 117; refine (Hjb.out _ hB0).mono ?_; rintro e v1 ⟨rfl, hq1⟩; have hB1 := hB0.trans (hq1.mono hB0.size); have z10 := (HX.out.below hB1 HX.out.lt).cell 0; have z11 := (HX.out.below hB1 HX.out.lt).cell 1; have z19 := (HX.out.below hB1 HX.out.lt).cell 9; have z117 := (HX.out.below hB1 HX.out.lt).cell 17; have zl1 := (HX.out.below hB1 HX.out.lt).lt) | (go_at_call 118; refine (Hen.out _ hB1).mono ?_; rintro e v2 ⟨rfl, hq2⟩; have hB2 := hB1.trans (hq2.mono hB1.size); have z20 := (HX.out.below hB2 HX.out.lt).cell 0; have z21 := (HX.out.below hB2 HX.out.lt).cell 1; have z29 := (HX.out.below hB2 HX.out.lt).cell 9; have z217 := (HX.out.below hB2 HX.out.lt).cell 17; have zl2 := (HX.out.below hB2 HX.out.lt).lt) | fail)
  have HLB := hide hB2
  have HLF := hide (fun (W : World) (hb : Below w.heap.size w W) => implLeft_any x _ _ b W (HX.out.below hb HX.out.lt) (HO.out.below hb HF.out) (HF.out.up hb) HFM.out)
  have HSS := hide (fun (W : World) (hb : Below w.heap.size w W) => show W.cell? ⟨b, 0, none⟩ = some (.int .i64 x.jobs) ∧ W.cell? ⟨b, 1, none⟩ = some (.int .i64 x.workers) ∧ W.cell? ⟨b, 17, none⟩ = some (.int .i64 x.ops) from by
    have h := HX.out.below hb HX.out.lt
    exact ⟨h.cell 0, h.cell 1, h.cell 17⟩)
  rw [← HLFE.out] at HLF
  go_region_held3 (fun W => W.cell? ⟨b, 0, none⟩ = some (.int .i64 x.jobs) ∧ W.cell? ⟨b, 1, none⟩ = some (.int .i64 x.workers) ∧ W.cell? ⟨b, 17, none⟩ = some (.int .i64 x.ops))
    (first | exact HSS.out _ (below_drewN HLB.out 1) | exact HSS.out _ hC1)
    (first | (go_at_call 64; refine (HLF.out _ (below_drewN HLB.out 1)).mono ?_; rintro e u1 ⟨rfl, hq⟩; have hC1 := (below_drewN HLB.out 1).trans (hq.mono (below_drewN HLB.out 1).size)))
  all_goals
    go_wp2
    go_ret
    exact ⟨ret_bool HZ.out, hC1⟩
end Go.Proofs.Ytpkjjfnfolbcoaa
