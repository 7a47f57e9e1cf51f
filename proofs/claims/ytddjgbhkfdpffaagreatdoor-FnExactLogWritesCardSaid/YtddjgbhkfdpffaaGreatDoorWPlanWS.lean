/-
  The text of a plan of a log: the reference.
-/
import Derived.Deep.RegionHeld3
import Derived.Deep.Cut
import Derived.Test.YtddjgbhkfdpffaaGreatDoorWPlanT
import Derived.Test.YtddjgbhkfdpffaaGreatDoorWDecS
import Derived.Test.YtddjgbhkfdpffaaGreatDoorWRDisk
set_option linter.unusedVariables false
set_option linter.unusedSimpArgs false
namespace Go.Proofs.YtddjgbhkfdpffaaGreatDoor
open Go.ChangeShapes Go.WideShapes Go.ChangeAt Go.RowKit

theorem line_eq (x : LogPart) (s : ByteArray) : s ++ x.line = s ++ ⟨#[115, 101, 97, 108, 32]⟩ ++ dec x.num ++ ⟨#[32]⟩ ++ dec x.first ++ ⟨#[32]⟩ ++ dec x.next ++ ⟨#[32]⟩ ++ dec x.size ++ ⟨#[10]⟩ := by
  have e : (⟨#[115, 101, 97, 108, 32]⟩ : ByteArray) = ⟨#[115, 101, 97, 108]⟩ ++ ⟨#[32]⟩ := by rfl
  unfold LogPart.line joinedText LogPart.nums
  simp only [List.foldl_cons, List.foldl_nil, e, ByteArray.append_assoc]
theorem last_eq (p : LogPlan) (s : ByteArray) : s ++ p.last = s ++ ⟨#[111, 112, 101, 110, 32]⟩ ++ dec p.open_ ++ ⟨#[32]⟩ ++ dec p.first ++ ⟨#[10, 101, 110, 100, 10]⟩ := by
  have e : (⟨#[111, 112, 101, 110, 32]⟩ : ByteArray) = ⟨#[111, 112, 101, 110]⟩ ++ ⟨#[32]⟩ := by rfl
  unfold LogPlan.last joinedText
  simp only [List.foldl_cons, List.foldl_nil, e, ByteArray.append_assoc]
theorem specDec_nn (z : Int) (h0 : 0 ≤ z) (h1 : z ≤ 4611686018427387904) (w : World) : Calls Tryz.prog 34 #[.int .i64 z] w fun e w' => e = .returned (.string (dec z)) ∧ Below w.heap.size w w' := by
  obtain ⟨n, rfl⟩ := Int.eq_ofNat_of_zero_le h0
  exact specDecN_any n w (by omega)
theorem plan_lines_size (p : LogPlan) (h : p.ok) (j : Nat) : (partLines (p.parts.take j)).size ≤ 4000 := by
  have h1 := partLines_size (p.parts.take j) .empty (fun i hi => by
    rw [List.getElem_take]
    exact p.small h i (by rw [List.length_take] at hi; omega))
  have h2 := h.1
  have e : (ByteArray.empty).size = 0 := rfl
  rw [List.length_take] at h1
  unfold partLines
  omega
set_option maxRecDepth 100000 in
set_option maxHeartbeats 4000000 in
theorem specLogPlanWrite_any (p : LogPlan) (us : List Value) (fp : List Nat) (w : World) (ho : OwC w p.cells us fp) (hf : Lt fp w.heap.size) (hbk : p.bulk ≤ 1048576) :
    Calls Tryz.prog 102 #[.agg us.toArray] w fun e w' => e = .returned (.string p.write) ∧ Below w.heap.size w w' := by
  obtain ⟨A1, c1, f1, rfl, o1, w1, w2, rfl⟩ := ho.oLogPlan
  obtain ⟨_, hcap, hmx⟩ := o1.nlen
  unfold maxLen at hmx
  have hw1 : Below w.heap.size w (w.alloc (.cells #[.slice A1 p.parts.length c1, .int .i64 p.open_, .int .i64 p.first] 30)) := (Below.refl _ _).alloc (Nat.le_refl _) _
  have R1 : Row (w.alloc (.cells #[.slice A1 p.parts.length c1, .int .i64 p.open_, .int .i64 p.first] 30)) w.heap.size 30 [.slice A1 p.parts.length c1, .int .i64 p.open_, .int .i64 p.first] := Row.new w _ _
  have HC := hide (specLogPlanOk_any p _ _ _ (ho.below hw1 hf) (hf.up hw1) hbk)
  have HO := hide o1
  have HF := hide hf
  have HR := hide R1
  have HB := hide hw1
  clear ho o1 hw1 R1
  go_enter Tryz.func102, Tryz.ntmps102
  go_wp2_with fail
  refine HC.out.mono ?_
  rintro e w3 ⟨rfl, hb3⟩
  have HB3 := hide (HB.out.trans (hb3.mono HB.out.size))
  have HR3 := hide (HR.out.below hb3 HR.out.lt)
  clear hb3 HC HB HR
  by_cases hok : p.ok
  rotate_left
  · have HZ := hide (show p.write = .empty from by unfold LogPlan.write; rw [if_neg (by rw [tb_false hok]; simp)])
    rw [tb_false hok]
    clear hok
    go_wp2
    go_ret
    exact ⟨ret_str HZ.out.symm, HB3.out⟩
  have HZ := hide (show p.write = p.text from by unfold LogPlan.write; rw [if_pos (tb_true hok)])
  rw [tb_true hok]
  have h40 := hok.1
  have hop := hok.2.1
  have hfi := p.first_small hok
  have HSZ := hide (plan_lines_size p hok)
  have HSM := hide (p.small hok)
  clear hok
  have x0 := HR3.out.cell 0
  have xl := HR3.out.lt
  go_wp2_with fail
  go_loopw [3, 4] (fun s i wr => ∃ j : Nat, i = .int .i64 (j : Int) ∧ j ≤ p.parts.length ∧ s = .string (partLines (p.parts.take j)) ∧ Row wr w.heap.size 30 [.slice A1 p.parts.length c1, .int .i64 p.open_, .int .i64 p.first] ∧ Below w.heap.size w wr) (fun _ i _ => p.parts.length - (intOf i).toNat)
  case atStart => exact ⟨0, rfl, Nat.zero_le _, rfl, HR3.out, HB3.out⟩
  case round =>
    obtain ⟨j, rfl, hj, rfl, hrow, hbel⟩ := hrel
    have HRR := hide hrow
    have HBR := hide hbel
    have hszj := HSZ.out j
    clear x0 xl hrow hbel
    have x0 := HRR.out.cell 0
    have xl := HRR.out.lt
    by_cases hlt : j < p.parts.length
    · have hltI : (j : Int) < (p.parts.length : Int) := by omega
      have hj0 : (0 : Int) ≤ (j : Int) := by omega
      obtain ⟨g, off, vs, fi, rfl, hgm, hfi2, hvl, hcs, hov⟩ := (HO.out.below HBR.out HF.out).elem LogPart.cells_len hlt
      have hsm := HSM.out j hlt
      have HS := hide ((partLines_snoc p.parts j hlt).trans (line_eq _ _))
      obtain ⟨rfl, q1, q2, q3, q4, -⟩ := hov.oLogPart
      have p0 := hcs 0 _ rfl
      have p1 := hcs 1 _ rfl
      have p2 := hcs 2 _ rfl
      have p3 := hcs 3 _ rfl
      simp only [Nat.add_zero] at p0
      have hgl := (HF.out.up HBR.out) g hgm
      generalize p.parts[j] = x at *
      generalize partLines (p.parts.take j) = s0 at *
      have b1 := hsm x.num (by unfold LogPart.nums; simp)
      have b2 := hsm x.first (by unfold LogPart.nums; simp)
      have b3 := hsm x.next (by unfold LogPart.nums; simp)
      have b4 := hsm x.size (by unfold LogPart.nums; simp)
      have D1 := hide (fun W => specDec_nn x.num (by omega) (by omega) W)
      have D2 := hide (fun W => specDec_nn x.first (by omega) (by omega) W)
      have D3 := hide (fun W => specDec_nn x.next (by omega) (by omega) W)
      have D4 := hide (fun W => specDec_nn x.size (by omega) (by omega) W)
      have t1 := dec_size x.num (by omega) (by omega)
      have t2 := dec_size x.first (by omega) (by omega)
      have t3 := dec_size x.next (by omega) (by omega)
      have t4 := dec_size x.size (by omega) (by omega)
      generalize dec x.num = d1 at *
      generalize dec x.first = d2 at *
      generalize dec x.next = d3 at *
      generalize dec x.size = d4 at *
      have n1 : ¬ (9223372036854775807 < s0.size + 5) := by omega
      have n2 : ¬ (9223372036854775807 < s0.size + 5 + d1.size) := by omega
      have n3 : ¬ (9223372036854775807 < s0.size + 5 + d1.size + 1) := by omega
      have n4 : ¬ (9223372036854775807 < s0.size + 5 + d1.size + 1 + d2.size) := by omega
      have n5 : ¬ (9223372036854775807 < s0.size + 5 + d1.size + 1 + d2.size + 1) := by omega
      have n6 : ¬ (9223372036854775807 < s0.size + 5 + d1.size + 1 + d2.size + 1 + d3.size) := by omega
      have n7 : ¬ (9223372036854775807 < s0.size + 5 + d1.size + 1 + d2.size + 1 + d3.size + 1) := by omega
      have n8 : ¬ (9223372036854775807 < s0.size + 5 + d1.size + 1 + d2.size + 1 + d3.size + 1 + d4.size) := by omega
      have n9 : ¬ (9223372036854775807 < s0.size + 5 + d1.size + 1 + d2.size + 1 + d3.size + 1 + d4.size + 1) := by omega
      clear hcs hov q1 q2 q3 q4 hsm t1 t2 t3 t4
      go_upto_region 8 with fail
      have hA : Below wr.heap.size wr (wr.alloc (.cells #[.int .i64 x.num, .int .i64 x.first, .int .i64 x.next, .int .i64 x.size] 75)) := (Below.refl _ _).alloc (Nat.le_refl _) _
      have RX := Row.new wr 75 [.int .i64 x.num, .int .i64 x.first, .int .i64 x.next, .int .i64 x.size]
      have hBX := HBR.out.trans (hA.mono HBR.out.size)
      have hRX := HRR.out.below hA HRR.out.lt
      clear x0 xl p0 p1 p2 p3 hA HRR HBR
      generalize wr.alloc _ = wX at RX hBX hRX ⊢
      generalize wr.heap.size = gx at RX ⊢
      have HBX := hide hBX
      have HRP := hide hRX
      have HSS := hide (fun (W : World) (hb : Below wX.heap.size wX W) => show W.cell? ⟨gx, 0, none⟩ = some (.int .i64 x.num) ∧ W.cell? ⟨gx, 1, none⟩ = some (.int .i64 x.first) ∧ W.cell? ⟨gx, 2, none⟩ = some (.int .i64 x.next) ∧ W.cell? ⟨gx, 3, none⟩ = some (.int .i64 x.size) from
        ⟨(RX.below hb RX.lt).cell 0, (RX.below hb RX.lt).cell 1, (RX.below hb RX.lt).cell 2, (RX.below hb RX.lt).cell 3⟩)
      clear RX hBX hRX
      have hbr : Below wX.heap.size wX wX.drew := below_drewN (Below.refl _ _) 1
      go_wp2_with fail
      go_region_held3 (fun W => W.cell? ⟨gx, 0, none⟩ = some (.int .i64 x.num) ∧ W.cell? ⟨gx, 1, none⟩ = some (.int .i64 x.first) ∧ W.cell? ⟨gx, 2, none⟩ = some (.int .i64 x.next) ∧ W.cell? ⟨gx, 3, none⟩ = some (.int .i64 x.size))
        (first | exact HSS.out _ hBE | exact HSS.out _ hBD | exact HSS.out _ hBC | exact HSS.out _ hBB | exact HSS.out _ hbr)
        (first
          | (have hM := hBD; go_at_call 34; refine (D4.out _).mono ?_; rintro e we ⟨rfl, hbe⟩; have hBE := hBD.trans (hbe.mono hBD.size); clear hbe)
          | (have hM := hBC; go_at_call 34; refine (D3.out _).mono ?_; rintro e wd ⟨rfl, hbd⟩; have hBD := hBC.trans (hbd.mono hBC.size); clear hbd)
          | (have hM := hBB; go_at_call 34; refine (D2.out _).mono ?_; rintro e wc ⟨rfl, hbc⟩; have hBC := hBB.trans (hbc.mono hBB.size); clear hbc)
          | (go_at_call 34; refine (D1.out _).mono ?_; rintro e wb ⟨rfl, hbb⟩; have hBB := hbr.trans (hbb.mono hbr.size); clear hbb))
      all_goals
        have HRW := hide (HRP.out.below hBE HRP.out.lt)
        have HBW := hide (HBX.out.trans (hBE.mono HBX.out.size))
        go_wp2
        go_roundw
        case rel => exact ⟨j + 1, by go_num, by omega, by rw [HS.out], HRW.out, HBW.out⟩
        case measure => simp [intOf]; omega
    · obtain rfl : j = p.parts.length := by omega
      have HS := hide (show p.text = partLines (p.parts.take p.parts.length) ++ ⟨#[111, 112, 101, 110, 32]⟩ ++ dec p.open_ ++ ⟨#[32]⟩ ++ dec p.first ++ ⟨#[10, 101, 110, 100, 10]⟩ from by rw [← last_eq, List.take_length]; rfl)
      have D1 := hide (fun W => specDec_nn p.open_ (by omega) (by omega) W)
      have D2 := hide (fun W => specDec_nn p.first (by omega) (by omega) W)
      have t1 := dec_size p.open_ (by omega) (by omega)
      have t2 := dec_size p.first (by omega) (by omega)
      generalize partLines (p.parts.take p.parts.length) = s0 at *
      generalize dec p.open_ = d1 at *
      generalize dec p.first = d2 at *
      have n1 : ¬ (9223372036854775807 < s0.size + 5) := by omega
      have n2 : ¬ (9223372036854775807 < s0.size + 5 + d1.size) := by omega
      have n3 : ¬ (9223372036854775807 < s0.size + 5 + d1.size + 1) := by omega
      have n4 : ¬ (9223372036854775807 < s0.size + 5 + d1.size + 1 + d2.size) := by omega
      have n5 : ¬ (9223372036854775807 < s0.size + 5 + d1.size + 1 + d2.size + 5) := by omega
      have HSS := hide (fun (W : World) (hb : Below wr.heap.size wr W) => show W.cell? ⟨w.heap.size, 1, none⟩ = some (.int .i64 p.open_) ∧ W.cell? ⟨w.heap.size, 2, none⟩ = some (.int .i64 p.first) from
        ⟨(HRR.out.below hb HRR.out.lt).cell 1, (HRR.out.below hb HRR.out.lt).cell 2⟩)
      clear t1 t2
      have hbr : Below wr.heap.size wr wr.drew := below_drewN (Below.refl _ _) 1
      go_wp2_with fail
      go_region_held3 (fun W => W.cell? ⟨w.heap.size, 1, none⟩ = some (.int .i64 p.open_) ∧ W.cell? ⟨w.heap.size, 2, none⟩ = some (.int .i64 p.first))
        (first | exact HSS.out _ hBC | exact HSS.out _ hBB | exact HSS.out _ hbr)
        (first
          | (have hM := hBB; go_at_call 34; refine (D2.out _).mono ?_; rintro e wc ⟨rfl, hbc⟩; have hBC := hBB.trans (hbc.mono hBB.size); clear hbc)
          | (go_at_call 34; refine (D1.out _).mono ?_; rintro e wb ⟨rfl, hbb⟩; have hBB := hbr.trans (hbb.mono hbr.size); clear hbb))
      all_goals
        go_wp2
        go_ret
        exact ⟨ret_str (by rw [HZ.out, HS.out]), HBR.out.trans (hBC.mono HBR.out.size)⟩
end Go.Proofs.YtddjgbhkfdpffaaGreatDoor
