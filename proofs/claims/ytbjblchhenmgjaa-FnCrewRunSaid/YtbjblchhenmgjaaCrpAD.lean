/-
  FnCrewRun returns true for every input: the number of workers and the window do not matter. No condition.
-/
import Derived.Test.YtbjblchhenmgjaaCrpK
import Derived.Test.YtbjblchhenmgjaaCrpAC
import Derived.Deep.RegionHeld3
import Derived.Laws.CopyOwn
set_option linter.unusedVariables false
set_option linter.unusedSimpArgs false
namespace Go.Proofs.Ytbjblchhenmgjaa
open Go.ChangeShapes Go.WideShapes Go.ChangeAt Go.RowKit

theorem runOf_ok {l : List CrewJob} {b c : Int} (h : (runOf l b c).ok = true) : crewOk (l.length : Int) b c ∧ runOf l b c = serialOf l := by
  by_cases h1 : crewOk (l.length : Int) b c
  · refine ⟨h1, ?_⟩
    unfold runOf
    rw [if_pos (tb_true h1)]
  · unfold runOf at h
    rw [if_neg (by rw [tb_false h1]; simp)] at h
    cases h
theorem runOf_same {l : List CrewJob} {b c d e : Int} (h : crewOk (l.length : Int) b c) (h2 : crewOk 0 d e) : runOf l d e = serialOf l := by
  unfold runOf
  rw [if_pos (tb_true ?_)]
  unfold crewOk at *
  omega
set_option maxRecDepth 100000 in
set_option maxHeartbeats 4000000 in
theorem lawFnCrewRun_any (w : World) (x0 : List UInt8) (A0 : Option Addr) (m0 c0 : Nat) (fp0 : List Nat) (ho0 : Ow w (.s 1 (x0).length ((x0).flatMap byteC)) (.slice A0 m0 c0) fp0) (hl0 : Lt fp0 w.heap.size)
    (x1 : List UInt8) (A1 : Option Addr) (m1 c1 : Nat) (fp1 : List Nat) (ho1 : Ow w (.s 1 (x1).length ((x1).flatMap byteC)) (.slice A1 m1 c1) fp1) (hl1 : Lt fp1 w.heap.size) :
    Calls Try.prog 9 #[.slice A0 m0 c0, .slice A1 m1 c1] w fun e w' => e = .returned (.bool true) ∧ Below w.heap.size w w' := by
  obtain ⟨rfl, hc0, hm0⟩ := ho0.nlen
  obtain ⟨rfl, hc1, hm1⟩ := ho1.nlen
  have HO0 := hide ho0
  have HO1 := hide ho1
  have HB := hide (Below.refl w.heap.size w)
  clear ho0 ho1
  by_cases hz0 : (x0.length : Int) ≤ 1048576
  rotate_left
  · have hz' : (1048576 : Int) < x0.length := by omega
    go_enter Try.func9, Try.ntmps9
    go_wp2
    go_ret
    exact ⟨rfl, HB.out⟩
  by_cases hz1 : (x1.length : Int) ≤ 1048576
  rotate_left
  · have hz' : (1048576 : Int) < x1.length := by omega
    go_enter Try.func9, Try.ntmps9
    go_wp2
    go_ret
    exact ⟨rfl, HB.out⟩
  have HD := hide (drawCrewRun_any x0 A0 _ c0 fp0 w HO0.out hl0 (by omega))
  go_enter Try.func9, Try.ntmps9
  go_wp2_with fail
  refine HD.out.mono ?_
  rintro e w3 ⟨v, l, fq, b, c, rfl, ho3, hn3, hbk, hb, hc, hb3⟩
  obtain ⟨A3, c3, rfl, hlc, hcm⟩ := ho3.slice
  have HO3 := hide ho3
  have HN3 := hide hn3
  have HB3 := hide hb3
  have HBK := hide hbk
  have HD := hide (drawCrewRun_any x1 A1 _ c1 fp1 w3 (HO1.out.below hb3 hl1) (hl1.up hb3) (by omega))
  clear ho3 hn3 hb3 hbk HO1
  go_wp2_with fail
  refine HD.out.mono ?_
  rintro e w4 ⟨v4, l4, fq4, b4, c4, rfl, -, -, -, hb4, hc4, hb34⟩
  have HO4 := hide (HO3.out.below hb34 HN3.out.lt)
  have HN4 := hide (HN3.out.below hb34 HN3.out.lt)
  have HB4 := hide (HB3.out.trans (hb34.mono HB3.out.size))
  have hw1 : (Lit.int .i64 b).wf = true := WalkArith.wf_i64 ⟨by omega, by omega⟩
  have hw2 : (Lit.int .i64 c).wf = true := WalkArith.wf_i64 ⟨by omega, by omega⟩
  have hw3 : (Lit.int .i64 b4).wf = true := WalkArith.wf_i64 ⟨by omega, by omega⟩
  have hw4 : (Lit.int .i64 c4).wf = true := WalkArith.wf_i64 ⟨by omega, by omega⟩
  obtain ⟨r0, hr0⟩ : ∃ r, r = runOf l b c := ⟨_, rfl⟩
  have HR0 := hide hr0
  have HC := hide (specCrewRun_any l A3 _ c3 fq b c w4 HO4.out HN4.out.lt (by have := HBK.out; omega) hw1 hw2)
  clear hb34 HO3 HN3 HB3 HD hr0
  go_wp2_with fail
  refine HC.out.mono ?_
  rintro e w5 ⟨us5, fq5, rfl, ho5, hn5, hb5⟩
  have HO5 := hide (HO4.out.below hb5 HN4.out.lt)
  have HN5 := hide (HN4.out.below hb5 HN4.out.lt)
  have HB5 := hide (HB4.out.trans (hb5.mono HB4.out.size))
  rw [← HR0.out] at ho5
  have T5 := ho5
  obtain ⟨TA1, tc1, TA2, tc2, tf1, tf2, rfl, to1, to2, tw3, tw4, tw5, tef⟩ := T5.oCrewTold
  clear T5 to1 to2 tef
  have hA5 : Below w5.heap.size w5 (w5.alloc (.cells #[.bool r0.ok, .slice TA1 r0.items.length tc1, .slice TA2 r0.dead.length tc2, .int .i64 r0.jobs, .int .i64 r0.steps, .int .i64 r0.ops] 76)) := (Below.refl _ _).alloc (Nat.le_refl _) _
  have HW6 := hide (ho5.below hA5 hn5.lt)
  have HWN6 := hide (hn5.below hA5 hn5.lt)
  have HBX6 := hide (Row.new w5 76 [.bool r0.ok, .slice TA1 r0.items.length tc1, .slice TA2 r0.dead.length tc2, .int .i64 r0.jobs, .int .i64 r0.steps, .int .i64 r0.ops])
  have HO6 := hide (HO5.out.below hA5 HN5.out.lt)
  have HN6 := hide (HN5.out.below hA5 HN5.out.lt)
  have HB6 := hide (HB5.out.trans (hA5.mono HB5.out.size))
  clear ho5 hn5 hb5 hA5 HO4 HN4 HB4 HO5 HN5 HB5 HC
  have HC := hide (specCrewStart_any 0 b4 c4 _ (by decide) hw3 hw4 : Calls _ _ _ (w5.alloc (.cells #[.bool r0.ok, .slice TA1 r0.items.length tc1, .slice TA2 r0.dead.length tc2, .int .i64 r0.jobs, .int .i64 r0.steps, .int .i64 r0.ops] 76)) _)
  go_wp2_with fail
  refine HC.out.mono ?_
  rintro e w7 ⟨us7, fq7, rfl, ho7, hn7, hb7⟩
  have hl7 : us7.length = 18 := by rw [ho7.length, CrewWorld.cells_len]
  have HI7 := hide (show zeroCells.toArray.size = us7.toArray.size ∧ (Try.prog.info? 80).map (·.size) = some us7.toArray.size ∧ us7.toArray.all (·.oneCell') = true from ⟨by rw [List.size_toArray, List.size_toArray, hl7]; rfl, by rw [List.size_toArray, hl7]; kernel_rfl, Array.all_eq_true_iff_forall_mem.2 (fun v hv => OwC.cell1 _ ho7 v (by simpa using hv))⟩)
  have HZ7 := hide (show Row (w7.alloc (.cells zeroCells.toArray 80)) w7.heap.size 80 zeroCells from Row.new w7 _ _)
  have hAP7 : Below w7.heap.size w7 ((w7.alloc (.cells zeroCells.toArray 80)).setRow w7.heap.size us7.toArray) := below_setRow ((Below.refl _ _).alloc (Nat.le_refl _) _) (Nat.le_refl _) _
  have hB8 := hb7.trans (hAP7.mono hb7.size)
  have hsz6 : (w5.alloc (.cells #[.bool r0.ok, .slice TA1 r0.items.length tc1, .slice TA2 r0.dead.length tc2, .int .i64 r0.jobs, .int .i64 r0.steps, .int .i64 r0.ops] 76)).heap.size = w5.heap.size + 1 := World.size_alloc _ _
  have HW8 := hide (HW6.out.below hB8 HWN6.out.lt)
  have HWN8 := hide (HWN6.out.below hB8 HWN6.out.lt)
  have HBX8 := hide (HBX6.out.below hB8 HBX6.out.lt)
  have HO8 := hide (HO6.out.below hB8 HN6.out.lt)
  have HN8 := hide (HN6.out.below hB8 HN6.out.lt)
  have HB8 := hide (HB6.out.trans (hB8.mono HB6.out.size))
  have HC := hide (implCrewRun_any l A3 _ c3 fq b c ((w7.alloc (.cells zeroCells.toArray 80)).setRow w7.heap.size us7.toArray) HO8.out HN8.out.lt (by have := HBK.out; omega) hw1 hw2)
  clear ho7 hn7 hb7 hAP7 hB8 HW6 HWN6 HBX6 HO6 HN6 HB6 hl7 hsz6
  go_wp2_with (first | (refine wpList_store_row rfl 80 _ _ rfl w7.heap.size us7.toArray rfl rfl 80 zeroCells.toArray HZ7.out HI7.out.2.1 HI7.out.1 HI7.out.2.2 ?_) | fail)
  refine HC.out.mono ?_
  rintro e w9 ⟨us9, fq9, rfl, ho9, hn9, hb9⟩
  rw [← HR0.out] at ho9
  have T9 := ho9
  obtain ⟨SA1, sc1, SA2, sc2, sf1, sf2, rfl, to1, to2, -, -, -, tef⟩ := T9.oCrewTold
  clear T9 to1 to2 tef
  obtain ⟨w8, hw8⟩ : ∃ u, u = w9.alloc (.cells #[.bool r0.ok, .slice SA1 r0.items.length sc1, .slice SA2 r0.dead.length sc2, .int .i64 r0.jobs, .int .i64 r0.steps, .int .i64 r0.ops] 76) := ⟨_, rfl⟩
  have hA9 : Below w9.heap.size w9 w8 := by rw [hw8]; exact (Below.refl _ _).alloc (Nat.le_refl _) _
  have HT := hide (ho9.below hA9 hn9.lt)
  have HTN := hide (hn9.below hA9 hn9.lt)
  have HBT := hide (show Row w8 w9.heap.size 76 [.bool r0.ok, .slice SA1 r0.items.length sc1, .slice SA2 r0.dead.length sc2, .int .i64 r0.jobs, .int .i64 r0.steps, .int .i64 r0.ops] from by rw [hw8]; exact Row.new w9 _ _)
  have hB10 := hb9.trans (hA9.mono hb9.size)
  have HW := hide (HW8.out.below hB10 HWN8.out.lt)
  have HWN := hide (HWN8.out.below hB10 HWN8.out.lt)
  have HBX := hide (HBX8.out.below hB10 HBX8.out.lt)
  have HO := hide (HO8.out.below hB10 HN8.out.lt)
  have HN := hide (HN8.out.below hB10 HN8.out.lt)
  have HB := hide (HB8.out.trans (hB10.mono HB8.out.size))
  clear ho9 hn9 hb9 hA9 hB10 HW8 HWN8 HBX8 HO8 HN8 HB8 HC HZ7 HI7
  have HC := hide (lwTold_same r0 _ _ _ _ w8 HT.out HW.out HTN.out.lt HWN.out.lt)
  have w0 := HBX.out.cell 0
  have w1 := HBX.out.cell 1
  have w2 := HBX.out.cell 2
  have w3' := HBX.out.cell 3
  have w4' := HBX.out.cell 4
  have w5' := HBX.out.cell 5
  have wl := HBX.out.lt
  have t0 := HBT.out.cell 0
  have t1 := HBT.out.cell 1
  have t2 := HBT.out.cell 2
  have t3 := HBT.out.cell 3
  have t4 := HBT.out.cell 4
  have t5 := HBT.out.cell 5
  have tl := HBT.out.lt
  go_upto_region 8 with fail
  rw [← hw8]
  clear hw8
  go_wp2_with fail
  refine HC.out.mono ?_
  rintro e wa ⟨rfl, hba⟩
  clear w0 w1 w2 w3' w4' w5' wl t0 t1 t2 t3 t4 t5 tl HC
  have HWa := hide (HW.out.below hba HWN.out.lt)
  have HWNa := hide (HWN.out.below hba HWN.out.lt)
  have HBXa := hide (HBX.out.below hba HBX.out.lt)
  have HBTa := hide (HBT.out.below hba HBT.out.lt)
  have HOa := hide (HO.out.below hba HN.out.lt)
  have HNa := hide (HN.out.below hba HN.out.lt)
  have HBa := hide (HB.out.trans (hba.mono HB.out.size))
  have w0 := HBXa.out.cell 0
  have w1 := HBXa.out.cell 1
  have w2 := HBXa.out.cell 2
  have w3' := HBXa.out.cell 3
  have w4' := HBXa.out.cell 4
  have w5' := HBXa.out.cell 5
  have wl := HBXa.out.lt
  have t0 := HBTa.out.cell 0
  have tl := HBTa.out.lt
  clear hba HW HWN HBX HBT HO HN HB HT HTN
  by_cases hok : r0.ok = true
  rotate_left
  · have hokf : r0.ok = false := by simpa using hok
    rw [hokf] at w0 t0
    go_wp2
    go_ret
    exact ⟨rfl, HBa.out⟩
  rw [hok] at w0 t0
  by_cases hfine : crewOk 0 b4 c4
  rotate_left
  · rw [tb_false hfine]
    go_wp2
    go_ret
    exact ⟨rfl, HBa.out⟩
  rw [tb_true hfine]
  have hcr := runOf_ok (l := l) (b := b) (c := c) (by rw [← HR0.out]; exact hok)
  have HR1 := hide (show runOf l b4 c4 = r0 from by rw [HR0.out, hcr.2]; exact runOf_same hcr.1 hfine)
  have HR2 := hide (show serialOf l = r0 from by rw [HR0.out, hcr.2])
  have HRUN := hide (fun (W : World) (hb : Below wa.heap.size wa W) => implCrewRun_any l A3 _ c3 fq b4 c4 W (HOa.out.below hb HNa.out.lt) (HNa.out.lt.up hb) (by have := HBK.out; omega) hw3 hw4)
  have HSER := hide (fun (W : World) (hb : Below wa.heap.size wa W) => implCrewSerial_any l A3 _ c3 fq W (HOa.out.below hb HNa.out.lt) (HNa.out.lt.up hb) (by have := HBK.out; omega))
  have HLW := hide (fun (W : World) (us : List Value) (fp : List Nat) (hb : Below wa.heap.size wa W) (ho : OwC W r0.cells us fp) (hf : Lt fp W.heap.size) => lwTold_same r0 us _ _ _ W ho (HWa.out.below hb HWNa.out.lt) hf (HWNa.out.lt.up hb))
  have HSS := hide (fun (W : World) (hb : Below wa.heap.size wa W) => show W.cell? ⟨w5.heap.size, 0, none⟩ = some (.bool true) ∧ W.cell? ⟨w5.heap.size, 1, none⟩ = some (.slice TA1 r0.items.length tc1) ∧ W.cell? ⟨w5.heap.size, 2, none⟩ = some (.slice TA2 r0.dead.length tc2) ∧ W.cell? ⟨w5.heap.size, 3, none⟩ = some (.int .i64 r0.jobs) ∧ W.cell? ⟨w5.heap.size, 4, none⟩ = some (.int .i64 r0.steps) ∧ W.cell? ⟨w5.heap.size, 5, none⟩ = some (.int .i64 r0.ops) from by
    have h := HBXa.out.below hb HBXa.out.lt
    rw [hok] at h
    exact ⟨h.cell 0, h.cell 1, h.cell 2, h.cell 3, h.cell 4, h.cell 5⟩)
  have HLW := hide (fun (W : World) (us : List Value) (fp : List Nat) (hb : Below wa.heap.size wa W) (ho : OwC W r0.cells us fp) (hf : Lt fp W.heap.size) => show Calls Try.prog 54 #[.agg us.toArray, .agg #[.bool true, .slice TA1 r0.items.length tc1, .slice TA2 r0.dead.length tc2, .int .i64 r0.jobs, .int .i64 r0.steps, .int .i64 r0.ops]] W (fun e w' => e = .returned (.bool true) ∧ Below W.heap.size W w') from by
    have h := HLW.out W us fp hb ho hf
    rw [hok] at h
    exact h)
  clear hcr hfine hok
  have hbr : Below wa.heap.size wa wa.drew := below_drewN (Below.refl _ _) 1
  go_wp2_with fail
  go_region_held3 (fun W => W.cell? ⟨w5.heap.size, 0, none⟩ = some (.bool true) ∧ W.cell? ⟨w5.heap.size, 1, none⟩ = some (.slice TA1 r0.items.length tc1) ∧ W.cell? ⟨w5.heap.size, 2, none⟩ = some (.slice TA2 r0.dead.length tc2) ∧ W.cell? ⟨w5.heap.size, 3, none⟩ = some (.int .i64 r0.jobs) ∧ W.cell? ⟨w5.heap.size, 4, none⟩ = some (.int .i64 r0.steps) ∧ W.cell? ⟨w5.heap.size, 5, none⟩ = some (.int .i64 r0.ops))
    (first | exact HSS.out _ hBE | exact HSS.out _ hBD | exact HSS.out _ hBC | exact HSS.out _ hBB | exact HSS.out _ hbr)
    (first
      | (go_at_call 54; refine (HLW.out wd usd fqd hBD HOD.out HND.out.lt).mono ?_; rintro e we ⟨rfl, hbe⟩; have hBE := hBD.trans (hbe.mono hBD.size); clear HOD HND hbe)
      | (go_at_call 55; refine (HSER.out wc hBC).mono ?_; rintro e wd ⟨usd, fqd, rfl, hod, hnd, hbd⟩; rw [HR2.out] at hod; have HOD := hide hod; have HND := hide hnd; have hBD := hBC.trans (hbd.mono hBC.size); clear hod hnd hbd)
      | (go_at_call 54; refine (HLW.out wb usb fqb hBB HOB.out HNB.out.lt).mono ?_; rintro e wc ⟨rfl, hbc⟩; have hBC := hBB.trans (hbc.mono hBB.size); clear HOB HNB hbc)
      | (go_at_call 53; refine (HRUN.out wa.drew hbr).mono ?_; rintro e wb ⟨usb, fqb, rfl, hob, hnb, hbb⟩; rw [HR1.out] at hob; have HOB := hide hob; have HNB := hide hnb; have hBB := hbr.trans (hbb.mono hbr.size); clear hob hnb hbb))
  all_goals
    go_wp2
    go_ret
    exact ⟨rfl, HBa.out.trans (hBE.mono HBa.out.size)⟩
end Go.Proofs.Ytbjblchhenmgjaa
