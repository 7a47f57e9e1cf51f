/-
  FnLogPlan returns true for every input: a plan's text is read back as that plan, and no shorter beginning of it is read. No condition.
-/
import Derived.Test.YtknlnndocamcmaaDoorDrawLP
import Derived.Test.YtknlnndocamcmaaDoorPlCut
import Derived.Test.YtknlnndocamcmaaDoorPlRI2
import Derived.Test.YtknlnndocamcmaaDoorPlRS2
import Derived.Test.YtknlnndocamcmaaDoorPlanS
import Derived.Deep.RegionHeld3
set_option linter.unusedVariables false
set_option linter.unusedSimpArgs false
namespace Go.Proofs.YtknlnndocamcmaaDoor
open Go.ChangeShapes Go.WideShapes Go.ChangeAt Go.RowKit

theorem plan_bulk (p : LogPlan) (h : p.parts.length ≤ 41) : p.bulk ≤ 1048576 := by
  rw [LogPlan.bulk_eq]
  unfold LogPart.bulkL
  omega
set_option maxRecDepth 100000 in
set_option maxHeartbeats 4000000 in
theorem lawFnLogPlan_any (w : World) (x0 : List UInt8) (A0 : Option Addr) (m0 c0 : Nat) (fp0 : List Nat) (ho0 : Ow w (.s 1 (x0).length ((x0).flatMap byteC)) (.slice A0 m0 c0) fp0) (hl0 : Lt fp0 w.heap.size) (ht : Lay w) (hw7 : 7 < w.heap.size) :
    Calls Tryd.prog 4 #[.slice A0 m0 c0] w fun e w' => e = .returned (.bool true) ∧ Below w.heap.size w w' := by
  obtain ⟨rfl, hc0, hm0⟩ := ho0.nlen
  have HO0 := hide ho0
  have HB := hide (Below.refl w.heap.size w)
  have HLY := hide ht
  clear ho0 ht
  by_cases hz0 : (x0.length : Int) ≤ 1048576
  rotate_left
  · have hz' : (1048576 : Int) < x0.length := by omega
    go_enter Tryd.func4, Tryd.ntmps4
    go_wp2
    go_ret
    exact ⟨rfl, HB.out⟩
  have HD := hide (drawLogPlanWrite_any x0 A0 _ c0 fp0 w HO0.out hl0 (by omega))
  go_enter Tryd.func4, Tryd.ntmps4
  go_wp2_with fail
  refine HD.out.mono ?_
  rintro e w1 ⟨us, p, fq, rfl, ho1, hn1, hpl, hb1⟩
  have hbk := plan_bulk p hpl
  have HO1 := hide ho1
  have HL1 := hide hn1.lt
  have HB1 := hide hb1
  obtain ⟨A1, ac1, f1, rfl, -, -, -, -⟩ := ho1.oLogPlan
  clear ho1 hn1 hb1 HD HB
  go_upto_region 4 with fail
  generalize hw2 : World.alloc _ _ = w2
  have hbA : Below w1.heap.size w1 w2 := by rw [← hw2]; exact (Below.refl _ _).alloc (Nat.le_refl _) _
  have HXp2 := hide (show Row w2 w1.heap.size 24 [.slice A1 p.parts.length ac1, .int .i64 p.open_, .int .i64 p.first] from by rw [← hw2]; exact Row.new w1 _ _)
  have HOp2 := hide (HO1.out.below hbA HL1.out)
  have HLp2 := hide (HL1.out.up hbA)
  have HB2 := hide (HB1.out.trans (hbA.mono HB1.out.size))
  have HLY2 := hide (HLY.out.below HB2.out)
  have hw2' : 7 < w2.heap.size := Nat.lt_of_lt_of_le hw7 HB2.out.size
  clear hw2 hbA HO1 HL1 HB1
  have hw2 := hw2'
  clear hw2'
  obtain ⟨s, hs⟩ : ∃ s, s = p.write := ⟨_, rfl⟩
  have HSW := hide hs
  clear hs
  have k0 := HXp2.out.cell 0
  have k1 := HXp2.out.cell 1
  have k2 := HXp2.out.cell 2
  have kl := HXp2.out.lt
  have HC := hide (specLogPlanWrite_any p _ fq w2 HOp2.out HLp2.out hbk)
  have hs := HSW.out
  rw [← hs] at HC
  clear hs
  go_wp2_with fail
  refine HC.out.mono ?_
  rintro e w3 ⟨rfl, hb3⟩
  have HB3 := hide (HB2.out.trans (hb3.mono HB2.out.size))
  have HLY3 := hide (HLY2.out.below hb3)
  have hw3 : 7 < w3.heap.size := Nat.lt_of_lt_of_le hw2 hb3.size
  have HXp3 := hide (HXp2.out.below hb3 HXp2.out.lt)
  have HOp3 := hide (HOp2.out.below hb3 HLp2.out)
  have HLp3 := hide (HLp2.out.up hb3)
  clear hb3 HC HB2 HLY2 hw2 HXp2 HOp2 HLp2
  clear k0 k1 k2 kl
  have k0 := HXp3.out.cell 0
  have k1 := HXp3.out.cell 1
  have k2 := HXp3.out.cell 2
  have kl := HXp3.out.lt
  have HC := hide (specLogPlanOk_any p _ fq w3 HOp3.out HLp3.out hbk)
  go_wp2_with fail
  refine HC.out.mono ?_
  rintro e w4 ⟨rfl, hb4⟩
  have HB4 := hide (HB3.out.trans (hb4.mono HB3.out.size))
  have HLY4 := hide (HLY3.out.below hb4)
  have hw4 : 7 < w4.heap.size := Nat.lt_of_lt_of_le hw3 hb4.size
  have HXp4 := hide (HXp3.out.below hb4 HXp3.out.lt)
  have HOp4 := hide (HOp3.out.below hb4 HLp3.out)
  have HLp4 := hide (HLp3.out.up hb4)
  clear hb4 HC HB3 HLY3 hw3 HXp3 HOp3 HLp3
  clear k0 k1 k2 kl
  have k0 := HXp4.out.cell 0
  have k1 := HXp4.out.cell 1
  have k2 := HXp4.out.cell 2
  have kl := HXp4.out.lt
  have HC := hide (implLogPlanWrite_any p _ fq w4 HOp4.out HLp4.out (by omega) HLY4.out.tab)
  have hs := HSW.out
  rw [← hs] at HC
  clear hs
  go_wp2_with fail
  refine HC.out.mono ?_
  rintro e w5 ⟨rfl, hb5⟩
  have HB5 := hide (HB4.out.trans (hb5.mono HB4.out.size))
  have HLY5 := hide (HLY4.out.below hb5)
  have hw5 : 7 < w5.heap.size := Nat.lt_of_lt_of_le hw4 hb5.size
  have HXp5 := hide (HXp4.out.below hb5 HXp4.out.lt)
  have HOp5 := hide (HOp4.out.below hb5 HLp4.out)
  have HLp5 := hide (HLp4.out.up hb5)
  clear hb5 HC HB4 HLY4 hw4 HXp4 HOp4 HLp4
  clear k0 k1 k2 kl
  have k0 := HXp5.out.cell 0
  have k1 := HXp5.out.cell 1
  have k2 := HXp5.out.cell 2
  have kl := HXp5.out.lt
  have HC := hide (implLogPlanOk_any p _ fq w5 HOp5.out HLp5.out (by omega))
  go_wp2_with fail
  refine HC.out.mono ?_
  rintro e w6 ⟨rfl, hb6⟩
  have HB6 := hide (HB5.out.trans (hb6.mono HB5.out.size))
  have HLY6 := hide (HLY5.out.below hb6)
  have hw6 : 7 < w6.heap.size := Nat.lt_of_lt_of_le hw5 hb6.size
  have HXp6 := hide (HXp5.out.below hb6 HXp5.out.lt)
  have HOp6 := hide (HOp5.out.below hb6 HLp5.out)
  have HLp6 := hide (HLp5.out.up hb6)
  clear hb6 HC HB5 HLY5 hw5 HXp5 HOp5 HLp5
  clear k0 k1 k2 kl
  have k0 := HXp6.out.cell 0
  have k1 := HXp6.out.cell 1
  have k2 := HXp6.out.cell 2
  have kl := HXp6.out.lt
  by_cases hok : p.ok
  rotate_left
  · rw [tb_false hok]
    have hse : s = .empty := by rw [HSW.out]; unfold LogPlan.write; rw [if_neg (by rw [tb_false hok]; simp)]
    have e3 : s.toList = [] := by rw [hse, Lib.toList_data]; rfl
    have e4 : (s.toList == []) = true := by simpa using e3
    clear HSW hse
    go_wp2
    go_ret
    exact ⟨rfl, HB6.out⟩
  rw [tb_true hok]
  have hst : s = p.text := by rw [HSW.out]; unfold LogPlan.write; rw [if_pos (tb_true hok)]
  have hs4 : s.size ≤ 4000 := by rw [hst]; exact p.text_size hok
  have hs0 : 0 < s.size := by rw [hst]; exact text_pos p
  have hrd : readP s = p ∧ readPB s = true := by rw [hst]; exact read_ok p hok
  have HCUT := hide (fun (n : Nat) (hn : n < s.size) => show readPB (s.extract 0 n) = false from by rw [hst] at hn ⊢; exact readPB_cut p n hn)
  have HR := hide hrd
  have HW := hide (show s = p.write from HSW.out)
  clear hst hrd HSW hok
  have HC := hide (implLogPlanRead_any s w6 (by omega) HLY6.out hw6)
  go_wp2_with fail
  refine HC.out.mono ?_
  rintro e w7 ⟨us7, fq7, rfl, ho7, hn7, hb7⟩
  rw [HR.out.1] at ho7
  have hrb := HR.out.2
  have HB7 := hide (HB6.out.trans (hb7.mono HB6.out.size))
  have HXp7 := hide (HXp6.out.below hb7 HXp6.out.lt)
  have HOp7 := hide (HOp6.out.below hb7 HLp6.out)
  have HLp7 := hide (HLp6.out.up hb7)
  have HLY7 := hide (HLY6.out.below hb7)
  have hw7_ : 7 < w7.heap.size := Nat.lt_of_lt_of_le hw6 hb7.size
  have HO7 := hide ho7
  have HL7 := hide hn7.lt
  obtain ⟨A7, ac7, f7, rfl, -, -, -, -⟩ := ho7.oLogPlan
  clear ho7 hn7 hb7 HC HB6 HXp6 HOp6 HLp6 HLY6 hw6 k0 k1 k2 kl
  go_upto_region 12 with fail
  generalize hw8 : World.alloc _ _ = w8
  have hbB : Below w7.heap.size w7 w8 := by rw [← hw8]; exact (Below.refl _ _).alloc (Nat.le_refl _) _
  have HXq8 := hide (show Row w8 w7.heap.size 24 [.slice A7 p.parts.length ac7, .int .i64 p.open_, .int .i64 p.first] from by rw [← hw8]; exact Row.new w7 _ _)
  have HOq8 := hide (HO7.out.below hbB HL7.out)
  have HLq8 := hide (HL7.out.up hbB)
  have HXp8 := hide (HXp7.out.below hbB HXp7.out.lt)
  have HOp8 := hide (HOp7.out.below hbB HLp7.out)
  have HLp8 := hide (HLp7.out.up hbB)
  have HB8 := hide (HB7.out.trans (hbB.mono HB7.out.size))
  have HLY8 := hide (HLY7.out.below hbB)
  have hw8_ : 7 < w8.heap.size := Nat.lt_of_lt_of_le hw7_ hbB.size
  clear hw8 hbB HO7 HL7 HB7 HXp7 HOp7 HLp7 HLY7 hw7_
  have hw8 := hw8_
  clear hw8_
  have k0 := HXp8.out.cell 0
  have k1 := HXp8.out.cell 1
  have k2 := HXp8.out.cell 2
  have kl := HXp8.out.lt
  have j0 := HXq8.out.cell 0
  have j1 := HXq8.out.cell 1
  have j2 := HXq8.out.cell 2
  have jl := HXq8.out.lt
  have HC := hide (implLogPlanWrite_any p _ fq7 w8 HOq8.out HLq8.out (by omega) HLY8.out.tab)
  have hs := HW.out
  rw [← hs] at HC
  clear hs
  go_wp2_with fail
  refine HC.out.mono ?_
  rintro e w9 ⟨rfl, hb9⟩
  have HB9 := hide (HB8.out.trans (hb9.mono HB8.out.size))
  have HLY9 := hide (HLY8.out.below hb9)
  have hw9 : 7 < w9.heap.size := Nat.lt_of_lt_of_le hw8 hb9.size
  have HXp9 := hide (HXp8.out.below hb9 HXp8.out.lt)
  have HOp9 := hide (HOp8.out.below hb9 HLp8.out)
  have HLp9 := hide (HLp8.out.up hb9)
  have HXq9 := hide (HXq8.out.below hb9 HXq8.out.lt)
  have HOq9 := hide (HOq8.out.below hb9 HLq8.out)
  have HLq9 := hide (HLq8.out.up hb9)
  clear hb9 HC HB8 HLY8 hw8 HXp8 HOp8 HLp8 HXq8 HOq8 HLq8
  clear k0 k1 k2 kl
  clear j0 j1 j2 jl
  have k0 := HXp9.out.cell 0
  have k1 := HXp9.out.cell 1
  have k2 := HXp9.out.cell 2
  have kl := HXp9.out.lt
  have j0 := HXq9.out.cell 0
  have j1 := HXq9.out.cell 1
  have j2 := HXq9.out.cell 2
  have jl := HXq9.out.lt
  have hs2 : ¬ ((20000 : Int) < (s.size : Int)) := by omega
  go_upto_region 15 with fail
  go_loopw [9] (fun iv wr => ∃ i : Nat, iv = .int .i64 (i : Int) ∧ i ≤ p.parts.length ∧ Below w9.heap.size w9 wr) (fun iv _ => p.parts.length - (intOf iv).toNat)
  case atStart => exact ⟨0, rfl, Nat.zero_le _, Below.refl _ _⟩
  case round =>
    obtain ⟨i, rfl, hi, hbz⟩ := hrel
    have HBZ := hide hbz
    have HBR9 := hide (HB9.out.trans (hbz.mono HB9.out.size))
    have HLYR := hide (HLY9.out.below hbz)
    have hwr : 7 < wr.heap.size := Nat.lt_of_lt_of_le hw9 hbz.size
    have HXpR := hide (HXp9.out.below hbz HXp9.out.lt)
    have HOpR := hide (HOp9.out.below hbz HLp9.out)
    have HLpR := hide (HLp9.out.up hbz)
    have HXqR := hide (HXq9.out.below hbz HXq9.out.lt)
    have HOqR := hide (HOq9.out.below hbz HLq9.out)
    have HLqR := hide (HLq9.out.up hbz)
    clear hbz HB9 HLY9 hw9 HXp9 HOp9 HLp9 HXq9 HOq9 HLq9 k0 k1 k2 kl j0 j1 j2 jl
    have k0 := HXpR.out.cell 0
    have k1 := HXpR.out.cell 1
    have k2 := HXpR.out.cell 2
    have kl := HXpR.out.lt
    have j0 := HXqR.out.cell 0
    have j1 := HXqR.out.cell 1
    have j2 := HXqR.out.cell 2
    have jl := HXqR.out.lt
    by_cases hlt : i < p.parts.length
    · have hltI : (i : Int) < (p.parts.length : Int) := by omega
      obtain ⟨A1', ac1', f1', e1, o1, -, -, -⟩ := HOpR.out.oLogPlan
      injection e1 with e1
      injection e1 with e1 _ e2
      subst e1 e2
      obtain ⟨A7', ac7', f7', e1, o7, -, -, -⟩ := HOqR.out.oLogPlan
      injection e1 with e1
      injection e1 with e1 _ e2
      subst e1 e2
      obtain ⟨g, off, ws, fi, rfl, hgm, hfi, hwl, hcs, hov⟩ := o1.elem LogPart.cells_len hlt
      obtain ⟨rfl, y0, y1, y2, y3, _⟩ := hov.oLogPart
      obtain ⟨g', off', ws', fi', rfl, hgm', hfi', hwl', hcs', hov'⟩ := o7.elem LogPart.cells_len hlt
      obtain ⟨rfl, _, _, _, _, _⟩ := hov'.oLogPart
      have p0 := hcs 0 _ rfl
      have p1 := hcs 1 _ rfl
      have p2 := hcs 2 _ rfl
      have p3 := hcs 3 _ rfl
      have q0 := hcs' 0 _ rfl
      have q1 := hcs' 1 _ rfl
      have q2 := hcs' 2 _ rfl
      have q3 := hcs' 3 _ rfl
      simp only [Nat.add_zero] at p0 q0
      have pl := cell_lt p0
      have ql := cell_lt q0
      clear hcs hcs' hov hov' hfi hfi' o1 o7 hgm hgm' hwl hwl'
      generalize p.parts[i] = x at *
      go_wp2_with fail
      go_quiet (fail)
      go_wp2
      go_roundw
      case rel => exact ⟨i + 1, by go_num, hlt, below_drewN HBZ.out _⟩
      case measure => simp [intOf]; omega
    · obtain rfl : i = p.parts.length := by omega
      go_upto_region 20 with fail
      obtain ⟨d, hd⟩ : ∃ d, s.size / 60 = d := ⟨_, rfl⟩
      have hdv : Int.tdiv (s.size : Int) 60 = (d : Int) := by rw [← hd]; exact (Int.ofNat_tdiv _ 60).symm
      have hd66 : d ≤ 66 := by omega
      clear hd
      go_loopw [10] (fun cv wr => ∃ c : Nat, cv = .int .i64 (c : Int) ∧ c ≤ s.size + 100 ∧ Below w.heap.size w wr ∧ Lay wr ∧ 7 < wr.heap.size) (fun cv _ => s.size + 100 - (intOf cv).toNat)
      case atStart => exact ⟨0, rfl, by omega, HBR9.out, HLYR.out, hwr⟩
      case round =>
        clear HBR9 HLYR hwr HXpR HOpR HLpR HXqR HOqR HLqR k0 k1 k2 kl j0 j1 j2 jl HBZ
        obtain ⟨c, rfl, hc, hb, hl, h7⟩ := hrel
        have HBR := hide hb
        have HLR := hide hl
        clear hb hl
        by_cases hlt : c < s.size
        · have hltI : (c : Int) < (s.size : Int) := by omega
          have hsz : (s.extract 0 c).size ≤ 1048576 := by rw [ByteArray.size_extract]; omega
          have HC := hide (implLogPlanRead_any (s.extract 0 c) wr hsz HLR.out h7)
          have hrb := HCUT.out c hlt
          go_wp2_with fail
          refine HC.out.mono ?_
          rintro e wx ⟨usx, fqx, rfl, hox, -, hbx⟩
          obtain ⟨Ax, acx, fx, rfl, -, -, -, -⟩ := hox.oLogPlan
          have HBX := hide (HBR.out.trans (hbx.mono HBR.out.size))
          have HLX := hide (HLR.out.below hbx)
          have h7x : 7 < wx.heap.size := Nat.lt_of_lt_of_le h7 hbx.size
          generalize readP (s.extract 0 c) = q at *
          clear hox hbx HC HBR HLR
          have hal : ∀ o : Obj, Below wx.heap.size wx (wx.alloc o) := fun o => (Below.refl _ _).alloc (Nat.le_refl _) o
          go_wp2
          go_roundw
          case rel => exact ⟨c + 1 + d, by go_num, by omega, HBX.out.trans ((hal _).mono HBX.out.size), HLX.out.below (hal _), Nat.lt_of_lt_of_le h7x (hal _).size⟩
          case measure => simp [intOf]; omega
        · have hltI : ¬ ((c : Int) < (s.size : Int)) := by omega
          have hs1 : ¬ ((s.size : Int) - 1 < 0) := by omega
          have hs3 : (s.size : Int) - 1 ≤ (s.size : Int) := by omega
          have hsz : (s.extract 0 (s.size - 1)).size ≤ 1048576 := by rw [ByteArray.size_extract]; omega
          have HC := hide (implLogPlanRead_any (s.extract 0 (s.size - 1)) wr hsz HLR.out h7)
          have hrb := HCUT.out (s.size - 1) (by omega)
          go_wp2_with fail
          refine HC.out.mono ?_
          rintro e wx ⟨usx, fqx, rfl, hox, -, hbx⟩
          obtain ⟨Ax, acx, fx, rfl, -, -, -, -⟩ := hox.oLogPlan
          have HBX := hide (HBR.out.trans (hbx.mono HBR.out.size))
          generalize readP (s.extract 0 (s.size - 1)) = q at *
          clear hox hbx HC HBR HLR
          have hal : ∀ o : Obj, Below wx.heap.size wx (wx.alloc o) := fun o => (Below.refl _ _).alloc (Nat.le_refl _) o
          go_wp2
          go_ret
          exact ⟨rfl, HBX.out.trans ((hal _).mono HBX.out.size)⟩
end Go.Proofs.YtknlnndocamcmaaDoor
