/-
  The text of a plan of a log: the program.
-/
import Derived.Deep.Cut
import Derived.Test.YtddjgbhkfdpffaaGreatDoorWJoined
import Derived.Test.YtddjgbhkfdpffaaGreatDoorWPlanI
set_option linter.unusedVariables false
set_option linter.unusedSimpArgs false
namespace Go.Proofs.YtddjgbhkfdpffaaGreatDoor
open Go.ChangeShapes Go.WideShapes Go.ChangeAt Go.RowKit

theorem lines_size (p : LogPlan) (h : p.ok) (j : Nat) : (partLines (p.parts.take j)).size ≤ 4000 := by
  have h1 := partLines_size (p.parts.take j) .empty (fun i hi => by
    rw [List.getElem_take]
    exact p.small h i (by rw [List.length_take] at hi; omega))
  have h2 := h.1
  have e : (ByteArray.empty).size = 0 := rfl
  rw [List.length_take] at h1
  unfold partLines
  omega
set_option maxRecDepth 100000 in
set_option maxHeartbeats 4000000 in
theorem planText_any (p : LogPlan) (us : List Value) (fp : List Nat) (w : World) (ho : OwC w p.cells us fp) (hf : Lt fp w.heap.size) (ht : Tab w) (hok : p.ok) :
    Calls Tryz.prog 147 #[.agg us.toArray] w fun e w' => e = .returned (.string p.text) ∧ Below w.heap.size w w' := by
  obtain ⟨A1, c1, f1, rfl, o1, w1, w2, rfl⟩ := ho.oLogPlan
  obtain ⟨_, hcap, hmx⟩ := o1.nlen
  unfold maxLen at hmx
  have h40 := hok.1
  have hop := hok.2.1
  have hfi := p.first_small hok
  have HOK := hide hok
  have hg0 := ht.lt
  have HSZ := hide (lines_size p hok)
  have HSM := hide (p.small hok)
  clear ho hok
  go_enter Tryz.func147, Tryz.ntmps147
  go_upto_region 2 with fail
  generalize hwA : w.alloc (.cells #[.slice A1 p.parts.length c1, .int .i64 p.open_, .int .i64 p.first] 30) = wA
  have hA : Below w.heap.size w wA := by rw [← hwA]; exact (Below.refl _ _).alloc (Nat.le_refl _) _
  have hsA : wA.heap.size = w.heap.size + 1 := by rw [← hwA]; simp
  have RA : Row wA w.heap.size 30 [.slice A1 p.parts.length c1, .int .i64 p.open_, .int .i64 p.first] := by rw [← hwA]; exact Row.new w _ _
  have hB := Bld.new wA
  have hAB : Below wA.heap.size wA (wA.alloc (.cells #[.pointer none, .slice none 0 0] 197)) := (Below.refl _ _).alloc (Nat.le_refl _) _
  have RB := RA.below hAB RA.lt
  have hWB := hA.trans (hAB.mono hA.size)
  rw [hsA] at hB
  try simp only [hsA]
  clear hwA
  generalize hwB : wA.alloc _ = wB at hB RB hWB hAB ⊢
  obtain ⟨b, hbe⟩ : ∃ b, b = w.heap.size + 1 := ⟨_, rfl⟩
  rw [← hbe] at hB ⊢
  have hb1 : w.heap.size < b := by omega
  have HBL := hide hB
  have HR := hide RB
  have HW := hide hWB
  have HO := hide (o1.below hWB hf)
  have HF := hide hf
  have HT := hide (ht.below hWB)
  have hbl := hB.lt
  have z0 := RB.cell 0
  have zl := RB.lt
  clear hwB hB RB hWB hAB RA hA hsA o1 hbe
  have ss1 : (ByteArray.mk #[10]).size = 1 := rfl
  have ss2 : (ByteArray.mk #[10, 101, 110, 100, 10]).size = 5 := rfl
  go_wp2_with fail
  go_loopw [9] (fun i wr => ∃ j : Nat, i = .int .i64 (j : Int) ∧ j ≤ p.parts.length ∧ Bld wr b (partLines (p.parts.take j)) ∧ Below b wB wr) (fun i _ => p.parts.length - (intOf i).toNat)
  case atStart => exact ⟨0, rfl, Nat.zero_le _, HBL.out, Below.refl _ _⟩
  case round =>
    obtain ⟨j, rfl, hj, hbld, hbel⟩ := hrel
    have HBD := hide hbld
    have HBE := hide hbel
    have hbr := hbld.lt
    have hszj := HSZ.out j
    have HRR := hide (HR.out.below hbel hb1)
    have HTR := hide (HT.out.low hbel (by omega))
    have HOR := hide (HO.out.below hbel (HF.out.mono (Nat.le_of_lt hb1)))
    clear hbld hbel
    by_cases hlt : j < p.parts.length
    · have hltI : (j : Int) < (p.parts.length : Int) := by omega
      have hj0 : (0 : Int) ≤ (j : Int) := by omega
      obtain ⟨g, off, vs, fi, rfl, hgm, hfi2, hvl, hcs, hov⟩ := HOR.out.elem LogPart.cells_len hlt
      have hsm := HSM.out j hlt
      have HS := hide (partLines_snoc p.parts j hlt)
      obtain ⟨rfl, q1, q2, q3, q4, -⟩ := hov.oLogPart
      have p0 := hcs 0 _ rfl
      have p1 := hcs 1 _ rfl
      have p2 := hcs 2 _ rfl
      have p3 := hcs 3 _ rfl
      simp only [Nat.add_zero] at p0
      have hgl : g < wr.heap.size := by
        have := HF.out g hgm
        omega
      have hls := line_size _ hsm
      generalize p.parts[j] = x at *
      obtain ⟨W2, hW2⟩ : ∃ W, W = (wr.alloc (.cells #[.int .i64 x.num, .int .i64 x.first, .int .i64 x.next, .int .i64 x.size] 75)).alloc (.cells #[.int .i64 x.num, .int .i64 x.first, .int .i64 x.next, .int .i64 x.size] 3) := ⟨_, rfl⟩
      have hbw : Below wr.heap.size wr W2 := by rw [hW2]; exact ((Below.refl _ _).alloc (Nat.le_refl _) _).alloc (by simp) _
      have hrw : Row W2 (wr.heap.size + 1) 3 (x.nums.map fun z => .int .i64 z) := by
        have h := Row.new (wr.alloc (.cells #[.int .i64 x.num, .int .i64 x.first, .int .i64 x.next, .int .i64 x.size] 75)) 3 [.int .i64 x.num, .int .i64 x.first, .int .i64 x.next, .int .i64 x.size]
        have h2 : Row ((wr.alloc (.cells #[.int .i64 x.num, .int .i64 x.first, .int .i64 x.next, .int .i64 x.size] 75)).alloc (.cells #[.int .i64 x.num, .int .i64 x.first, .int .i64 x.next, .int .i64 x.size] 3)) (wr.heap.size + 1) 3 [.int .i64 x.num, .int .i64 x.first, .int .i64 x.next, .int .i64 x.size] := by simpa using h
        rw [hW2]
        exact h2
      have hlw : wr.heap.size + 1 < W2.heap.size := hrw.lt
      have HJ := hide (joined_any ⟨#[115, 101, 97, 108]⟩ x.nums (some ⟨wr.heap.size + 1, 0, none⟩) 4 4 [wr.heap.size + 1] W2 (nums_ow x.nums hrw (fun z hz => WalkArith.wf_i64 (by have := hsm z hz; omega)) (show 0 < 4 by omega) (by show 4 ≤ maxLen; unfold maxLen; omega)) (fun y hy => by simp only [List.mem_singleton] at hy; omega) (HTR.out.below hbw) (by decide) (show 4 ≤ 8 by omega))
      rw [hW2] at HJ
      have HBW := hide hbw
      have HB2 := hide (HBD.out.below hbw)
      rw [hW2] at HBW HB2
      unfold LogPart.line at hls
      rw [ByteArray.size_append] at hls
      clear hW2 hbw hrw hlw hcs hov q1 q2 q3 q4
      go_wp2_with fail
      refine HJ.out.mono ?_
      rintro e w5 ⟨rfl, hb5⟩
      have HB5 := hide (HB2.out.below hb5)
      have HE5 := hide (HBE.out.trans ((HBW.out.mono (Nat.le_of_lt hbr)).trans (hb5.mono (Nat.le_trans (Nat.le_of_lt hbr) HBW.out.size))))
      clear hb5 HJ HB2 HBW p0 p1 p2 p3
      go_wp2_with fail
      refine (writeString_b b _ _ _ HB5.out (by rw [ByteArray.size_append]; omega)).mono ?_
      rintro e w6 ⟨rfl, hb6, hk6⟩
      have HB6 := hide hb6
      have HE6 := hide (HE5.out.trans hk6.below)
      clear hb6 hk6
      go_wp2
      go_roundw
      case rel => exact ⟨j + 1, by go_num, by omega, by rw [HS.out]; exact HB6.out, HE6.out⟩
      case measure => simp [intOf]; omega
    · obtain rfl : j = p.parts.length := by omega
      have y1 := HRR.out.cell 1
      have y2 := HRR.out.cell 2
      have yl := HRR.out.lt
      obtain ⟨W2, hW2⟩ : ∃ W, W = wr.alloc (.cells #[.int .i64 p.open_, .int .i64 p.first] 3) := ⟨_, rfl⟩
      have hbw : Below wr.heap.size wr W2 := by rw [hW2]; exact (Below.refl _ _).alloc (Nat.le_refl _) _
      have hrw : Row W2 wr.heap.size 3 (([p.open_, p.first] : List Int).map fun z => .int .i64 z) := by rw [hW2]; exact Row.new wr _ _
      have hlw : wr.heap.size < W2.heap.size := hrw.lt
      have HJ := hide (joined_any ⟨#[111, 112, 101, 110]⟩ [p.open_, p.first] (some ⟨wr.heap.size, 0, none⟩) 2 2 [wr.heap.size] W2 (nums_ow [p.open_, p.first] hrw (fun z hz => WalkArith.wf_i64 (by simp only [List.mem_cons, List.not_mem_nil, or_false] at hz; rcases hz with rfl | rfl <;> omega)) (show 0 < 2 by omega) (by show 2 ≤ maxLen; unfold maxLen; omega)) (fun y hy => by simp only [List.mem_singleton] at hy; omega) (HTR.out.below hbw) (by decide) (show 2 ≤ 8 by omega))
      rw [hW2] at HJ
      have HBW := hide hbw
      have HB2 := hide (HBD.out.below hbw)
      rw [hW2] at HBW HB2
      have hjs := joinedText_size [p.open_, p.first] ⟨#[111, 112, 101, 110]⟩ (fun n hn => by simp only [List.mem_cons, List.not_mem_nil, or_false] at hn; rcases hn with rfl | rfl <;> omega)
      have ss3 : (ByteArray.mk #[111, 112, 101, 110]).size = 4 := rfl
      simp only [List.length_cons, List.length_nil] at hjs
      clear hW2 hbw hrw hlw
      go_wp2_with fail
      refine HJ.out.mono ?_
      rintro e w5 ⟨rfl, hb5⟩
      have HB5 := hide (HB2.out.below hb5)
      have HE5 := hide (HBE.out.trans ((HBW.out.mono (Nat.le_of_lt hbr)).trans (hb5.mono (Nat.le_trans (Nat.le_of_lt hbr) HBW.out.size))))
      clear hb5 HJ HB2 HBW y1 y2
      go_wp2_with fail
      refine (writeString_b b _ _ _ HB5.out (by rw [ByteArray.size_append]; omega)).mono ?_
      rintro e w6 ⟨rfl, hb6, hk6⟩
      have HB6 := hide hb6
      have HE6 := hide (HE5.out.trans hk6.below)
      clear hb6 hk6
      go_wp2_with fail
      refine (bldString_b b _ _ HB6.out).mono ?_
      rintro e w7 ⟨rfl, hk7⟩
      have HE7 := hide (HE6.out.trans hk7.below)
      clear hk7
      go_wp2
      go_ret
      exact ⟨ret_str (by first | rfl | (rw [List.take_length]; rfl)), HW.out.trans (HE7.out.mono (Nat.le_of_lt hb1))⟩
set_option maxRecDepth 100000 in
set_option maxHeartbeats 1000000 in
theorem implLogPlanWrite_any (p : LogPlan) (us : List Value) (fp : List Nat) (w : World) (ho : OwC w p.cells us fp) (hf : Lt fp w.heap.size) (hbk : p.bulk ≤ 2097152) (ht : Tab w) :
    Calls Tryz.prog 145 #[.agg us.toArray] w fun e w' => e = .returned (.string p.write) ∧ Below w.heap.size w w' := by
  obtain ⟨A1, c1, f1, rfl, o1, w1, w2, rfl⟩ := ho.oLogPlan
  have hw1 : Below w.heap.size w (w.alloc (.cells #[.slice A1 p.parts.length c1, .int .i64 p.open_, .int .i64 p.first] 30)) := (Below.refl _ _).alloc (Nat.le_refl _) _
  have R1 : Row (w.alloc (.cells #[.slice A1 p.parts.length c1, .int .i64 p.open_, .int .i64 p.first] 30)) w.heap.size 30 [.slice A1 p.parts.length c1, .int .i64 p.open_, .int .i64 p.first] := Row.new w _ _
  have HO := hide (ho.below hw1 hf)
  have HF := hide (hf.up hw1)
  have HT := hide (ht.below hw1)
  have HR := hide R1
  have HB := hide hw1
  have HC := hide (implLogPlanOk_any p _ _ _ HO.out HF.out hbk)
  clear ho o1 hw1 R1
  go_enter Tryz.func145, Tryz.ntmps145
  go_wp2_with fail
  refine HC.out.mono ?_
  rintro e w3 ⟨rfl, hb3⟩
  have HO3 := hide (HO.out.below hb3 HF.out)
  have HF3 := hide (HF.out.up hb3)
  have HT3 := hide (HT.out.below hb3)
  have HB3 := hide (HB.out.trans (hb3.mono HB.out.size))
  have HR3 := hide (HR.out.below hb3 HR.out.lt)
  clear hb3 HC HO HF HT HB HR
  by_cases hok : p.ok
  · have HZ := hide (show p.write = p.text from by unfold LogPlan.write; rw [if_pos (tb_true hok)])
    have HP := hide (planText_any p _ _ w3 HO3.out HF3.out HT3.out hok)
    rw [tb_true hok]
    have x0 := HR3.out.cell 0
    have x1 := HR3.out.cell 1
    have x2 := HR3.out.cell 2
    have xl := HR3.out.lt
    clear hok
    go_wp2_with fail
    refine HP.out.mono ?_
    rintro e w4 ⟨rfl, hb4⟩
    go_wp2
    go_ret
    exact ⟨ret_str HZ.out.symm, HB3.out.trans (hb4.mono HB3.out.size)⟩
  · have HZ := hide (show p.write = .empty from by unfold LogPlan.write; rw [if_neg (by rw [tb_false hok]; simp)])
    rw [tb_false hok]
    clear hok
    go_wp2
    go_ret
    exact ⟨ret_str HZ.out.symm, HB3.out⟩
end Go.Proofs.YtddjgbhkfdpffaaGreatDoor
