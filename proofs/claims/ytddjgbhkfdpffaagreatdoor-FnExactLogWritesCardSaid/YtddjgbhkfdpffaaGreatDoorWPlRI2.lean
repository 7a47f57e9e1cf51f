/-
  LogPlanRead of the program.
-/
import Derived.Deep.RegionHeld
import Derived.OwnWalk
import Derived.Deep.Cut
import Derived.Test.YtddjgbhkfdpffaaGreatDoorWPlRI1
import Derived.Test.YtddjgbhkfdpffaaGreatDoorWPlanWI
set_option linter.unusedVariables false
set_option linter.unusedSimpArgs false
namespace Go.Proofs.YtddjgbhkfdpffaaGreatDoor
open Go.ChangeShapes Go.WideShapes Go.ChangeAt Go.RowKit

theorem numsB_bd {word line : ByteArray} {many : Nat} {zs : List Int} (h : numsB word many line = some zs) : ∀ z ∈ zs, -9223372036854775808 ≤ z ∧ z ≤ 9223372036854775807 := by
  unfold numsB at h
  split at h
  · revert h
    generalize (cutB 32 line).drop 1 = l
    induction l generalizing zs with
    | nil =>
      intro h z hz
      simp only [allNums] at h
      injection h with h
      rw [← h] at hz
      cases hz
    | cons s l ih =>
      intro h z hz
      simp only [allNums] at h
      split at h
      · cases h
      · rename_i y hy
        cases hl : allNums l with
        | none => rw [hl] at h; cases h
        | some ys =>
          rw [hl] at h
          simp only [Option.map_some] at h
          injection h with h
          rw [← h] at hz
          rcases List.mem_cons.1 hz with rfl | hz
          · have := numOf_wf hy
            exact ⟨this.1, this.2.1⟩
          · exact ih hl z hz
  · cases h
theorem mem_getD2 (l : List Int) (i : Nat) (h : ∀ z ∈ l, -9223372036854775808 ≤ z ∧ z ≤ 9223372036854775807) : -9223372036854775808 ≤ l.getD i 0 ∧ l.getD i 0 ≤ 9223372036854775807 := by
  rw [List.getD_eq_getElem?_getD]
  cases hq : l[i]? with
  | none => decide
  | some z => exact h z (List.mem_of_getElem? hq)
theorem wf_all (z : Int) (h : -9223372036854775808 ≤ z ∧ z ≤ 9223372036854775807) : (Lit.int .i64 z).wf = true := WalkArith.wf_i64 (by omega)
theorem step_seal {p : LogPlan} {line : ByteArray} {zs : List Int} (h : numsB wSeal 4 line = some zs) : stepP p line = ⟨p.parts ++ [⟨zs.getD 0 0, zs.getD 1 0, zs.getD 2 0, zs.getD 3 0⟩], p.open_, p.first⟩ := by
  unfold stepP
  rw [h]
theorem step_open {p : LogPlan} {line : ByteArray} {zs : List Int} (h0 : numsB wSeal 4 line = none) (h : numsB wOpen 2 line = some zs) : stepP p line = ⟨p.parts, zs.getD 0 0, zs.getD 1 0⟩ := by
  unfold stepP
  rw [h0]
  simp only
  rw [h]
theorem step_none {p : LogPlan} {line : ByteArray} (h0 : numsB wSeal 4 line = none) (h : numsB wOpen 2 line = none) : stepP p line = p := by
  unfold stepP
  rw [h0]
  simp only
  rw [h]
set_option maxRecDepth 100000 in
set_option maxHeartbeats 4000000 in
theorem implLogPlanRead_any (s : ByteArray) (w : World) (hs : s.size ≤ 1048576) (hl : Lay w) (hw7 : 7 < w.heap.size) :
    Calls Tryz.prog 129 #[.string s] w (PlanRet s w) := by
  obtain ⟨ia, hia, ha0, ha1, ha2⟩ := info_parts8 info_part
  have HIa := hide hia
  have HLY := hide hl
  clear hia hl
  go_enter Tryz.func129, Tryz.ntmps129
  go_upto_region 1 with fail
  generalize hw1 : w.alloc _ = w1
  have hb1 : Below w.heap.size w w1 := by rw [← hw1]; exact (Below.refl _ _).alloc (Nat.le_refl _) _
  have HZ := hide (show Row w1 w.heap.size 30 [.slice none 0 0, .int .i64 0, .int .i64 0] from by rw [← hw1]; exact Row.new w _ _)
  have hs1 : w1.heap.size = w.heap.size + 1 := by rw [← hw1]; simp
  have HB1 := hide hb1
  clear hw1 hb1
  go_upto_region 2 with fail
  generalize hw2 : w1.alloc _ = w2
  have hb2 : Below w1.heap.size w1 w2 := by rw [← hw2]; exact (Below.refl _ _).alloc (Nat.le_refl _) _
  have hs2 : w2.heap.size = w.heap.size + 2 := by rw [← hw2, World.size_alloc, hs1]
  have HP := hide (show Row w2 (w.heap.size + 1) 30 [.slice none 0 0, .int .i64 0, .int .i64 0] from by rw [← hw2, ← hs1]; exact Row.new w1 _ _)
  have HZ2 := hide (HZ.out.below hb2 HZ.out.lt)
  have HB2 := hide (HB1.out.trans (hb2.mono HB1.out.size))
  have HL2 := hide (HLY.out.below HB2.out)
  try rw [hs1]
  have HC := hide (split_any s 10 w2 hs HL2.out)
  have HQ := hide (fun (r : LogPlan) (h1 : r.ok) (h2 : r.text = s) => show foldP (cutB 10 s) = r from by rw [← h2]; exact read_text r h1)
  have hle := cutB_le 10 s
  have HPS := hide (piece_size 10 s)
  clear hw2 hb2 HZ HB1 hs1
  generalize cutB 10 s = ls at *
  go_wp2_with fail
  refine HC.out.mono ?_
  rintro e w3 ⟨g, rfl, hrow, hb3, hgz⟩
  have hgw : w.heap.size + 2 ≤ g := by omega
  have HLS := hide hrow
  have HP3 := hide (show PBox w3 (w.heap.size + 1) (g + 1) (foldP (ls.take 0)).parts (foldP (ls.take 0)).open_ (foldP (ls.take 0)).first none 0 0 [] from ⟨HP.out.below hb3 HP.out.lt, OwS.nil _ _ _ _ _, by omega⟩)
  have HZ3 := hide (HZ2.out.below hb3 HZ2.out.lt)
  have HB3 := hide (HB2.out.trans (hb3.mono HB2.out.size))
  have HL3 := hide (HL2.out.below hb3)
  have hg3 := hrow.lt
  clear hrow hb3 HC HP HZ2 HB2 HL2 hs2 hgz
  go_wp2_with fail
  go_loopw [15] (fun i wr => ∃ (j : Nat) (A : Option Addr) (n c : Nat) (us : List Value), i = .int .i64 (j : Int) ∧ j ≤ ls.length ∧ PBox wr (w.heap.size + 1) (g + 1) (foldP (ls.take j)).parts (foldP (ls.take j)).open_ (foldP (ls.take j)).first A n c us ∧ (-9223372036854775808 ≤ (foldP (ls.take j)).open_ ∧ (foldP (ls.take j)).open_ ≤ 9223372036854775807) ∧ (-9223372036854775808 ≤ (foldP (ls.take j)).first ∧ (foldP (ls.take j)).first ≤ 9223372036854775807) ∧ Row wr w.heap.size 30 [.slice none 0 0, .int .i64 0, .int .i64 0] ∧ Row wr g 9 (ls.map fun x => .string x) ∧ Lay wr ∧ Below w.heap.size w wr ∧ g + 1 ≤ wr.heap.size) (fun i _ => ls.length - (intOf i).toNat)
  case atStart => exact ⟨0, none, 0, 0, [], rfl, Nat.zero_le _, HP3.out, ⟨show (-9223372036854775808 : Int) ≤ 0 by decide, show (0 : Int) ≤ 9223372036854775807 by decide⟩, ⟨show (-9223372036854775808 : Int) ≤ 0 by decide, show (0 : Int) ≤ 9223372036854775807 by decide⟩, HZ3.out, HLS.out, HL3.out, HB3.out, hg3⟩
  case round =>
    clear HP3 HZ3 HLS HL3 HB3 hg3
    obtain ⟨j, A, n, c, us, rfl, hj, hpb, hop, hfi, hrz, hrl, hlay, hbel, hgs⟩ := hrel
    obtain rfl := hpb.len
    have hpl := foldP_len ls j hj
    have HPB := hide hpb
    have HZ := hide hrz
    have HLS := hide hrl
    have HLR := hide hlay
    have HB := hide hbel
    clear hpb hrz hrl hlay hbel
    by_cases hlt : j < ls.length
    rotate_left
    · obtain rfl : j = ls.length := by omega
      rw [List.take_length] at *
      have hbig : (foldP ls).parts.length ≤ 1048577 := by omega
      obtain ⟨fq, hoq, hnq⟩ := HPB.out.ow (wf_all _ hop) (wf_all _ hfi)
      have HOQ := hide hoq
      have HNQ := hide hnq
      have HW := hide (implLogPlanWrite_any (foldP ls) _ fq wr hoq hnq.lt (by rw [LogPlan.bulk_eq]; unfold LogPart.bulkL; omega) HLR.out.tab)
      have x0 := HPB.out.box.cell 0
      have x1 := HPB.out.box.cell 1
      have x2 := HPB.out.box.cell 2
      have xl := HPB.out.box.lt
      generalize foldP ls = q at *
      clear hoq hnq
      go_wp2_with fail
      refine HW.out.mono ?_
      rintro e w7 ⟨rfl, hb7⟩
      have HP7 := hide (HPB.out.below hb7)
      have HZ7 := hide (HZ.out.below hb7 HZ.out.lt)
      have HB7 := hide (HB.out.trans (hb7.mono HB.out.size))
      have HO7 := hide (HOQ.out.below hb7 HNQ.out.lt)
      have HN7 := hide (HNQ.out.below hb7 HNQ.out.lt)
      clear HW HPB HZ HB HOQ HNQ hb7 x0 x1 x2 xl
      have z0 := HZ7.out.cell 0
      have z1 := HZ7.out.cell 1
      have z2 := HZ7.out.cell 2
      have y0 := HZ7.out.frozen 0
      have y1 := HZ7.out.frozen 1
      have y2 := HZ7.out.frozen 2
      have zl := HZ7.out.lt
      have x0 := HP7.out.box.cell 0
      have x1 := HP7.out.box.cell 1
      have x2 := HP7.out.box.cell 2
      have xl := HP7.out.box.lt
      by_cases hwr : q.write = s
      rotate_left
      · obtain ⟨e1, e2⟩ := neL hwr
        have HNO := hide (read_no HQ.out hwr)
        go_wp2
        refine bodyPost_ret (ret_row_tmp rfl _ _ w.heap.size 30 [.slice none 0 0, .int .i64 0, .int .i64 0] (HZ7.out.setAll [.slice none 0 0, .int .i64 0, .int .i64 0] rfl) _ _ rfl rfl Tryz.underlying30 rfl (by kernel_rfl)) rfl ?_
        exact pr_none HNO.out (HB7.out.trans (below_of_grown (setN_grown [.slice none 0 0, .int .i64 0, .int .i64 0] 0 (grown_refl _ (some w.heap.size))) (Nat.le_refl _) HB7.out.size))
      by_cases hs0 : s.size = 0
      · have hse : s = ⟨#[]⟩ := bytes_inj (List.eq_nil_of_length_eq_zero (by rw [← size_bytes]; exact hs0))
        have HNO0 := hide (read_empty hs0)
        obtain ⟨e1, e2⟩ := eqL hwr
        have e3 : s.toList = [] := by rw [hse, Lib.toList_data]
        have e4 : (s.toList == []) = true := by simpa using e3
        clear hwr hse
        have HNO := hide (HNO0.out)
        go_wp2
        refine bodyPost_ret (ret_row_tmp rfl _ _ w.heap.size 30 [.slice none 0 0, .int .i64 0, .int .i64 0] (HZ7.out.setAll [.slice none 0 0, .int .i64 0, .int .i64 0] rfl) _ _ rfl rfl Tryz.underlying30 rfl (by kernel_rfl)) rfl ?_
        exact pr_none HNO.out (HB7.out.trans (below_of_grown (setN_grown [.slice none 0 0, .int .i64 0, .int .i64 0] 0 (grown_refl _ (some w.heap.size))) (Nat.le_refl _) HB7.out.size))
      have HY := hide (read_yes HQ.out hwr (by omega))
      obtain ⟨e1, e2⟩ := eqL hwr
      have e3 : ¬ (s.toList = []) := fun h => hs0 (by rw [size_bytes, ← Lib.toList_data, h]; rfl)
      have e4 : (s.toList == []) = false := by simpa using e3
      clear hwr
      go_wp2
      refine bodyPost_ret (ret_row_tmp rfl _ _ w.heap.size 30 [.slice A q.parts.length c, .int .i64 q.open_, .int .i64 q.first] (HZ7.out.setAll [.slice A q.parts.length c, .int .i64 q.open_, .int .i64 q.first] rfl) _ _ rfl rfl Tryz.underlying30 rfl (by kernel_rfl)) rfl ?_
      have hgr := setN_grown [.slice A q.parts.length c, .int .i64 q.open_, .int .i64 q.first] 0 (grown_refl w7 (some w.heap.size))
      have hno : w.heap.size ∉ fq := HN7.out.out (by omega)
      exact pr_some HY.out (HO7.out.grown hgr HN7.out.lt hno) ((HN7.out.grown hgr (fun b e => by injection e with e; subst e; exact hno)).mono (by omega)) (HB7.out.trans (below_of_grown hgr (Nat.le_refl _) HB7.out.size))
    have c0 := cells_of_row HLS.out j hlt
    have cl := HLS.out.lt
    have hps := HPS.out ls[j] (List.getElem_mem hlt)
    have HST := hide (foldP_succ ls j hlt)
    have hw7' : 7 < wr.heap.size := Nat.lt_of_lt_of_le hw7 HB.out.size
    have HN1 := hide (numbersBehind_any ls[j] wSeal 4 wr (by omega) hw7' (by decide) (by decide) HLR.out)
    have hjI : (j : Int) < (ls.length : Int) := by omega
    generalize ls[j] = x at *
    generalize foldP (ls.take j) = p at *
    rw [show ((4 : Nat) : Int) = 4 by rfl, show wSeal = ⟨#[115, 101, 97, 108]⟩ from rfl] at HN1
    go_wp2_with fail
    refine HN1.out.mono ?_
    rintro e w5 ⟨⟨A6, n6, c6, us6, rfl, hown6⟩, hb5⟩
    have HOL := HPB.out.own.lt
    have HP5 := hide (HPB.out.below hb5)
    have HZ5 := hide (HZ.out.below hb5 HZ.out.lt)
    have HB5 := hide (HB.out.trans (hb5.mono HB.out.size))
    have HLS5 := hide (HLS.out.below hb5 HLS.out.lt)
    have HLR5 := hide (HLR.out.below hb5)
    have hs5 := Nat.le_trans hgs hb5.size
    have hbb5 := hide hb5
    clear HN1 c0 cl HPB HZ HB HLS HLR hb5
    cases hx : numsB ⟨#[115, 101, 97, 108]⟩ 4 x with
    | some zs =>
      have hown6 := hown6 zs hx
      have hzl := numsB_len hx
      have hzb := numsB_bd hx
      have HE := hide (HST.out.trans (step_seal hx))
      obtain ⟨g6, rfl, rfl, hc6, hB6, hg6, hcell⟩ := ints_cells hown6 (by omega)
      have HTW := hide (four_of hzl)
      rw [HTW.out] at hcell
      have v0 := hcell 0 _ rfl
      have v1 := hcell 1 _ rfl
      have v2 := hcell 2 _ rfl
      have v3 := hcell 3 _ rfl
      have HZ0 := hide (mem_getD2 zs 0 hzb)
      have HZ1 := hide (mem_getD2 zs 1 hzb)
      have HZ2 := hide (mem_getD2 zs 2 hzb)
      have HZ3 := hide (mem_getD2 zs 3 hzb)
      rw [hzl] at hc6 ⊢
      have hne : (Value.slice A p.parts.length c).ownBlock ≠ some g6 := fun e => by have := HOL g6 e; omega
      have hzl' := hide hzl
      clear hown6 hcell HTW hzb hx HST hzl hbb5
      generalize zs.getD 0 0 = a0 at *
      generalize zs.getD 1 0 = a1 at *
      generalize zs.getD 2 0 = a2 at *
      generalize zs.getD 3 0 = a3 at *
      have HD := hide (fun W => part_src ⟨a0, a1, a2, a3⟩ (wf_all _ HZ0.out) (wf_all _ HZ1.out) (wf_all _ HZ2.out) (wf_all _ HZ3.out) W)
      have hplb : p.parts.length + 1 ≤ 1048600 := by omega
      have hq0 : Below w5.heap.size w5 w5.drew := below_drewN (Below.refl _ _) 1
      have HP6 := hide (HP5.out.below hq0)
      have HPLT := hide HP5.out.lt
      have HZ6 := hide (HZ5.out.below hq0 HZ5.out.lt)
      have HB6 := hide (HB5.out.trans (hq0.mono HB5.out.size))
      have HLS6 := hide (HLS5.out.below hq0 HLS5.out.lt)
      have hs6 := Nat.le_trans hs5 hq0.size
      have hg6' : g6 < w5.drew.heap.size := Nat.lt_of_lt_of_le hg6 hq0.size
      have hS0 : w5.drew.cell? ⟨g6, 0, none⟩ = some (.int .i64 a0) ∧ w5.drew.cell? ⟨g6, 1, none⟩ = some (.int .i64 a1) ∧ w5.drew.cell? ⟨g6, 2, none⟩ = some (.int .i64 a2) ∧ w5.drew.cell? ⟨g6, 3, none⟩ = some (.int .i64 a3) := ⟨(hq0.cell (p := ⟨g6, 0, none⟩) hg6).trans v0, (hq0.cell (p := ⟨g6, 1, none⟩) hg6).trans v1, (hq0.cell (p := ⟨g6, 2, none⟩) hg6).trans v2, (hq0.cell (p := ⟨g6, 3, none⟩) hg6).trans v3⟩
      clear HP5 HZ5 HB5 v0 v1 v2 v3 hq0 hs5 hg6
      go_wp2_with fail
      refine wp_region_held_drew (S := fun W => W.cell? ⟨g6, 0, none⟩ = some (.int .i64 a0) ∧ W.cell? ⟨g6, 1, none⟩ = some (.int .i64 a1) ∧ W.cell? ⟨g6, 2, none⟩ = some (.int .i64 a2) ∧ W.cell? ⟨g6, 3, none⟩ = some (.int .i64 a3)) (by kernel_rfl) hS0 (fun _ => ?_)
      generalize w5.drew = w6 at *
      refine wpAnyH_take (i := 0) (v := .pointer (some ⟨w.heap.size + 1, 0, none⟩)) rfl (by kernel_rfl) (by kernel_rfl) (by kernel_rfl) (fun _ _ _ h => h) (Or.inl ⟨by kernel_rfl, by (intro W hS; go_simp; first | done | with_reducible rfl | rfl)⟩) hS0 ?_
      (try simp only [Act.put, List.getElem_toArray, List.getElem_cons_zero, List.getElem_cons_succ, List.setIfInBounds_toArray, List.set_cons_zero, List.set_cons_succ])
      refine wpAnyH_take (i := 2) (v := .slice (some ⟨g6, 0, none⟩) 4 c6) rfl (by kernel_rfl) (by kernel_rfl) (by kernel_rfl) (fun _ _ _ h => h) (Or.inl ⟨by kernel_rfl, by (intro W hS; go_simp; first | done | with_reducible rfl | rfl)⟩) hS0 ?_
      (try simp only [Act.put, List.getElem_toArray, List.getElem_cons_zero, List.getElem_cons_succ, List.setIfInBounds_toArray, List.set_cons_zero, List.set_cons_succ])
      refine wpAnyH_take (i := 3) (v := .pointer (some ⟨g6, 0, none⟩)) rfl (by kernel_rfl) (by kernel_rfl) (by kernel_rfl) (fun _ _ _ h => h) (Or.inl ⟨by kernel_rfl, by (intro W hS; go_simp; first | done | with_reducible rfl | rfl)⟩) hS0 ?_
      (try simp only [Act.put, List.getElem_toArray, List.getElem_cons_zero, List.getElem_cons_succ, List.setIfInBounds_toArray, List.set_cons_zero, List.set_cons_succ])
      refine wpAnyH_take (i := 4) (v := .int .i64 a0) rfl (by kernel_rfl) (by kernel_rfl) (by kernel_rfl) (fun _ _ _ h => h) (Or.inl ⟨by kernel_rfl, by (intro W hS; have y := hS.1; have yl := cell_lt y; go_simp; first | done | with_reducible rfl | rfl)⟩) hS0 ?_
      (try simp only [Act.put, List.getElem_toArray, List.getElem_cons_zero, List.getElem_cons_succ, List.setIfInBounds_toArray, List.set_cons_zero, List.set_cons_succ])
      refine wpAnyH_take (i := 5) (v := .slice (some ⟨g6, 0, none⟩) 4 c6) rfl (by kernel_rfl) (by kernel_rfl) (by kernel_rfl) (fun _ _ _ h => h) (Or.inl ⟨by kernel_rfl, by (intro W hS; go_simp; first | done | with_reducible rfl | rfl)⟩) hS0 ?_
      (try simp only [Act.put, List.getElem_toArray, List.getElem_cons_zero, List.getElem_cons_succ, List.setIfInBounds_toArray, List.set_cons_zero, List.set_cons_succ])
      refine wpAnyH_take (i := 6) (v := .pointer (some ⟨g6, 1, none⟩)) rfl (by kernel_rfl) (by kernel_rfl) (by kernel_rfl) (fun _ _ _ h => h) (Or.inl ⟨by kernel_rfl, by (intro W hS; go_simp; first | done | with_reducible rfl | rfl)⟩) hS0 ?_
      (try simp only [Act.put, List.getElem_toArray, List.getElem_cons_zero, List.getElem_cons_succ, List.setIfInBounds_toArray, List.set_cons_zero, List.set_cons_succ])
      refine wpAnyH_take (i := 7) (v := .int .i64 a1) rfl (by kernel_rfl) (by kernel_rfl) (by kernel_rfl) (fun _ _ _ h => h) (Or.inl ⟨by kernel_rfl, by (intro W hS; have y := hS.2.1; have yl := cell_lt y; go_simp; first | done | with_reducible rfl | rfl)⟩) hS0 ?_
      (try simp only [Act.put, List.getElem_toArray, List.getElem_cons_zero, List.getElem_cons_succ, List.setIfInBounds_toArray, List.set_cons_zero, List.set_cons_succ])
      refine wpAnyH_take (i := 8) (v := .slice (some ⟨g6, 0, none⟩) 4 c6) rfl (by kernel_rfl) (by kernel_rfl) (by kernel_rfl) (fun _ _ _ h => h) (Or.inl ⟨by kernel_rfl, by (intro W hS; go_simp; first | done | with_reducible rfl | rfl)⟩) hS0 ?_
      (try simp only [Act.put, List.getElem_toArray, List.getElem_cons_zero, List.getElem_cons_succ, List.setIfInBounds_toArray, List.set_cons_zero, List.set_cons_succ])
      refine wpAnyH_take (i := 9) (v := .pointer (some ⟨g6, 2, none⟩)) rfl (by kernel_rfl) (by kernel_rfl) (by kernel_rfl) (fun _ _ _ h => h) (Or.inl ⟨by kernel_rfl, by (intro W hS; go_simp; first | done | with_reducible rfl | rfl)⟩) hS0 ?_
      (try simp only [Act.put, List.getElem_toArray, List.getElem_cons_zero, List.getElem_cons_succ, List.setIfInBounds_toArray, List.set_cons_zero, List.set_cons_succ])
      refine wpAnyH_take (i := 10) (v := .int .i64 a2) rfl (by kernel_rfl) (by kernel_rfl) (by kernel_rfl) (fun _ _ _ h => h) (Or.inl ⟨by kernel_rfl, by (intro W hS; have y := hS.2.2.1; have yl := cell_lt y; go_simp; first | done | with_reducible rfl | rfl)⟩) hS0 ?_
      (try simp only [Act.put, List.getElem_toArray, List.getElem_cons_zero, List.getElem_cons_succ, List.setIfInBounds_toArray, List.set_cons_zero, List.set_cons_succ])
      refine wpAnyH_take (i := 11) (v := .slice (some ⟨g6, 0, none⟩) 4 c6) rfl (by kernel_rfl) (by kernel_rfl) (by kernel_rfl) (fun _ _ _ h => h) (Or.inl ⟨by kernel_rfl, by (intro W hS; go_simp; first | done | with_reducible rfl | rfl)⟩) hS0 ?_
      (try simp only [Act.put, List.getElem_toArray, List.getElem_cons_zero, List.getElem_cons_succ, List.setIfInBounds_toArray, List.set_cons_zero, List.set_cons_succ])
      refine wpAnyH_take (i := 12) (v := .pointer (some ⟨g6, 3, none⟩)) rfl (by kernel_rfl) (by kernel_rfl) (by kernel_rfl) (fun _ _ _ h => h) (Or.inl ⟨by kernel_rfl, by (intro W hS; go_simp; first | done | with_reducible rfl | rfl)⟩) hS0 ?_
      (try simp only [Act.put, List.getElem_toArray, List.getElem_cons_zero, List.getElem_cons_succ, List.setIfInBounds_toArray, List.set_cons_zero, List.set_cons_succ])
      refine wpAnyH_take (i := 13) (v := .int .i64 a3) rfl (by kernel_rfl) (by kernel_rfl) (by kernel_rfl) (fun _ _ _ h => h) (Or.inl ⟨by kernel_rfl, by (intro W hS; have y := hS.2.2.2; have yl := cell_lt y; go_simp; first | done | with_reducible rfl | rfl)⟩) hS0 ?_
      (try simp only [Act.put, List.getElem_toArray, List.getElem_cons_zero, List.getElem_cons_succ, List.setIfInBounds_toArray, List.set_cons_zero, List.set_cons_succ])
      refine wpAnyH_take (i := 14) (v := .agg #[.int .i64 a0, .int .i64 a1, .int .i64 a2, .int .i64 a3]) rfl (by kernel_rfl) (by kernel_rfl) (by kernel_rfl) (fun _ _ _ h => h) (Or.inl ⟨by kernel_rfl, by (intro W hS; go_simp; first | done | with_reducible rfl | rfl)⟩) hS0 ?_
      (try simp only [Act.put, List.getElem_toArray, List.getElem_cons_zero, List.getElem_cons_succ, List.setIfInBounds_toArray, List.set_cons_zero, List.set_cons_succ])
      have hq1 : Below w6.heap.size w6 (w6.alloc (.cells #[.int .i64 a0, .int .i64 a1, .int .i64 a2, .int .i64 a3] 75)) := (Below.refl _ _).alloc (Nat.le_refl _) _
      have hS1 : (w6.alloc (.cells #[.int .i64 a0, .int .i64 a1, .int .i64 a2, .int .i64 a3] 75)).cell? ⟨g6, 0, none⟩ = some (.int .i64 a0) ∧ (w6.alloc (.cells #[.int .i64 a0, .int .i64 a1, .int .i64 a2, .int .i64 a3] 75)).cell? ⟨g6, 1, none⟩ = some (.int .i64 a1) ∧ (w6.alloc (.cells #[.int .i64 a0, .int .i64 a1, .int .i64 a2, .int .i64 a3] 75)).cell? ⟨g6, 2, none⟩ = some (.int .i64 a2) ∧ (w6.alloc (.cells #[.int .i64 a0, .int .i64 a1, .int .i64 a2, .int .i64 a3] 75)).cell? ⟨g6, 3, none⟩ = some (.int .i64 a3) := ⟨(hq1.cell (p := ⟨g6, 0, none⟩) hg6').trans hS0.1, (hq1.cell (p := ⟨g6, 1, none⟩) hg6').trans hS0.2.1, (hq1.cell (p := ⟨g6, 2, none⟩) hg6').trans hS0.2.2.1, (hq1.cell (p := ⟨g6, 3, none⟩) hg6').trans hS0.2.2.2⟩
      have HSA := hide (HP6.out.own.alloc (.cells #[.int .i64 a0, .int .i64 a1, .int .i64 a2, .int .i64 a3] 75))
      have HSZ := hide (show g + 1 ≤ (w6.alloc (.cells #[.int .i64 a0, .int .i64 a1, .int .i64 a2, .int .i64 a3] 75)).heap.size by rw [World.size_alloc]; exact Nat.le_succ_of_le hs6)
      have x0 := HP6.out.box.cell 0
      have xl := HP6.out.box.lt
      have HXA := hide (HP6.out.box.alloc (.cells #[.int .i64 a0, .int .i64 a1, .int .i64 a2, .int .i64 a3] 75))
      refine wpAnyH_ready (rs := [1, 15]) (by kernel_rfl) (by simp) ?_
      refine AllReadyH.cons rfl (fun K hK => ?_) ?_
      · go_simp
        refine hK.out _ _ hS0 (fun hHeld => ?_)
        clear hK K hHeld
        refine wpAnyH_ready (rs := [15]) (by kernel_rfl) (by simp) ?_
        refine AllReadyH.cons rfl (fun K hK => ?_) AllReadyH.nil
        go_simp
        refine hK.out _ _ hS1 (fun hHeld => ?_)
        clear hK K hHeld
        refine wpAnyH_ready (rs := [16]) (by kernel_rfl) (by simp) ?_
        refine AllReadyH.cons rfl (fun K hK => ?_) AllReadyH.nil
        refine step_app (by rfl) _ _ 28 (by rfl) ia _ 32 Tryz.underlying28 HIa.out ha0 ha1 ha2 rfl (by decide) LogPart.cells_len (by rfl) HSA.out [⟨a0, a1, a2, a3⟩] (HD.out _) (by exact New.nil _ _) (fun g _ hg => by cases hg) _ 1 1 (by rfl) rfl (SrcAt.new w6 _ _ _ _) (by omega) (by decide) HSZ.out ?_
        intro A7 n7 c7 w7 hn7 hown7 hgb7
        clear hn7
        have r7 := hgb7.row HXA.out (HSA.out.low HPLT.out)
        have hS7 : w7.cell? ⟨g6, 0, none⟩ = some (.int .i64 a0) ∧ w7.cell? ⟨g6, 1, none⟩ = some (.int .i64 a1) ∧ w7.cell? ⟨g6, 2, none⟩ = some (.int .i64 a2) ∧ w7.cell? ⟨g6, 3, none⟩ = some (.int .i64 a3) := ⟨cell_gb hgb7 hS1.1 hne, cell_gb hgb7 hS1.2.1 hne, cell_gb hgb7 hS1.2.2.1 hne, cell_gb hgb7 hS1.2.2.2 hne⟩
        have hg6b : g6 ≠ w.heap.size + 1 := by omega
        have hS8 : (w7.setCell ⟨w.heap.size + 1, 0, none⟩ (.slice A7 n7 c7)).cell? ⟨g6, 0, none⟩ = some (.int .i64 a0) ∧ (w7.setCell ⟨w.heap.size + 1, 0, none⟩ (.slice A7 n7 c7)).cell? ⟨g6, 1, none⟩ = some (.int .i64 a1) ∧ (w7.setCell ⟨w.heap.size + 1, 0, none⟩ (.slice A7 n7 c7)).cell? ⟨g6, 2, none⟩ = some (.int .i64 a2) ∧ (w7.setCell ⟨w.heap.size + 1, 0, none⟩ (.slice A7 n7 c7)).cell? ⟨g6, 3, none⟩ = some (.int .i64 a3) := ⟨cell_set hS7.1 hg6b, cell_set hS7.2.1 hg6b, cell_set hS7.2.2.1 hg6b, cell_set hS7.2.2.2 hg6b⟩
        have x7 := r7.cell 0
        have f7 := r7.frozen 0
        have l7 := r7.lt
        have HP8 := hide (HP6.out.app (x := ⟨a0, a1, a2, a3⟩) hgb7 hown7)
        have HZ8 := hide ((hgb7.row (HZ6.out.alloc _) (HSA.out.low (show w.heap.size < g + 1 by omega))).far (p := ⟨w.heap.size + 1, 0, none⟩) (by simp) (.slice A7 n7 c7))
        have HB8 := hide ((HB6.out.trans ((hq1.mono HB6.out.size).trans (hgb7.toBelow (B := w.heap.size) (by rw [World.size_alloc]; omega) (fun g e => by have := HSA.out.from e; omega)))).setCell (p := ⟨w.heap.size + 1, 0, none⟩) (Nat.le_succ _) (.slice A7 n7 c7))
        have hs8 : g + 1 ≤ (w7.setCell ⟨w.heap.size + 1, 0, none⟩ (.slice A7 n7 c7)).heap.size := by have := hgb7.grown.size; rw [World.size_alloc] at this; simp; omega
        have HLS8 := hide ((hgb7.row (HLS6.out.alloc _) (HSA.out.low (Nat.lt_succ_self _))).far (p := ⟨w.heap.size + 1, 0, none⟩) (show g ≠ w.heap.size + 1 by omega) (.slice A7 n7 c7))
        have HLR8 := hide (HLY.out.low HB8.out hw7)
        refine hK.out _ _ hS7 (fun hHeld => ?_)
        clear hK K hHeld
        refine wpAnyH_take (i := 17) (v := .pointer (some ⟨w.heap.size + 1, 0, none⟩)) rfl (by kernel_rfl) (by kernel_rfl) (by kernel_rfl) (fun _ _ _ h => h) (Or.inl ⟨by kernel_rfl, by (intro W hS; go_simp; first | done | with_reducible rfl | rfl)⟩) hS7 ?_
        (try simp only [Act.put, List.getElem_toArray, List.getElem_cons_zero, List.getElem_cons_succ, List.setIfInBounds_toArray, List.set_cons_zero, List.set_cons_succ])
        refine wpAnyH_ready (rs := [18]) (by kernel_rfl) (by simp) ?_
        refine AllReadyH.cons rfl (fun K hK => ?_) AllReadyH.nil
        go_simp
        refine hK.out _ _ hS8 (fun hHeld => ?_)
        clear hK K hHeld hS7 hS8 x7 f7 l7 r7 hown7 hgb7 hS1 hS0
        refine wpAnyH_done (by kernel_rfl) ?_ _
        generalize (World.setCell _ _ _) = w8 at HP8 HZ8 HB8 hs8 HLS8 HLR8 ⊢
        go_wp2
        go_roundw
        case rel => exact ⟨j + 1, A7, n7, c7, _, by go_num, by omega, by rw [HE.out]; exact HP8.out, by rw [HE.out]; exact hop, by rw [HE.out]; exact hfi, HZ8.out, HLS8.out, HLR8.out, HB8.out, hs8⟩
        case measure => simp [intOf]; omega
      · refine AllReadyH.cons rfl (fun K hK => ?_) AllReadyH.nil
        go_simp
        refine hK.out _ _ hS1 (fun hHeld => ?_)
        clear hK K hHeld
        have x0' := HXA.out.cell 0
        have xl' := HXA.out.lt
        refine wpAnyH_ready (rs := [1]) (by kernel_rfl) (by simp) ?_
        refine AllReadyH.cons rfl (fun K hK => ?_) AllReadyH.nil
        go_simp
        refine hK.out _ _ hS1 (fun hHeld => ?_)
        clear hK K hHeld x0' xl'
        refine wpAnyH_ready (rs := [16]) (by kernel_rfl) (by simp) ?_
        refine AllReadyH.cons rfl (fun K hK => ?_) AllReadyH.nil
        refine step_app (by rfl) _ _ 28 (by rfl) ia _ 32 Tryz.underlying28 HIa.out ha0 ha1 ha2 rfl (by decide) LogPart.cells_len (by rfl) HSA.out [⟨a0, a1, a2, a3⟩] (HD.out _) (by exact New.nil _ _) (fun g _ hg => by cases hg) _ 1 1 (by rfl) rfl (SrcAt.new w6 _ _ _ _) (by omega) (by decide) HSZ.out ?_
        intro A7 n7 c7 w7 hn7 hown7 hgb7
        clear hn7
        have r7 := hgb7.row HXA.out (HSA.out.low HPLT.out)
        have hS7 : w7.cell? ⟨g6, 0, none⟩ = some (.int .i64 a0) ∧ w7.cell? ⟨g6, 1, none⟩ = some (.int .i64 a1) ∧ w7.cell? ⟨g6, 2, none⟩ = some (.int .i64 a2) ∧ w7.cell? ⟨g6, 3, none⟩ = some (.int .i64 a3) := ⟨cell_gb hgb7 hS1.1 hne, cell_gb hgb7 hS1.2.1 hne, cell_gb hgb7 hS1.2.2.1 hne, cell_gb hgb7 hS1.2.2.2 hne⟩
        have hg6b : g6 ≠ w.heap.size + 1 := by omega
        have hS8 : (w7.setCell ⟨w.heap.size + 1, 0, none⟩ (.slice A7 n7 c7)).cell? ⟨g6, 0, none⟩ = some (.int .i64 a0) ∧ (w7.setCell ⟨w.heap.size + 1, 0, none⟩ (.slice A7 n7 c7)).cell? ⟨g6, 1, none⟩ = some (.int .i64 a1) ∧ (w7.setCell ⟨w.heap.size + 1, 0, none⟩ (.slice A7 n7 c7)).cell? ⟨g6, 2, none⟩ = some (.int .i64 a2) ∧ (w7.setCell ⟨w.heap.size + 1, 0, none⟩ (.slice A7 n7 c7)).cell? ⟨g6, 3, none⟩ = some (.int .i64 a3) := ⟨cell_set hS7.1 hg6b, cell_set hS7.2.1 hg6b, cell_set hS7.2.2.1 hg6b, cell_set hS7.2.2.2 hg6b⟩
        have x7 := r7.cell 0
        have f7 := r7.frozen 0
        have l7 := r7.lt
        have HP8 := hide (HP6.out.app (x := ⟨a0, a1, a2, a3⟩) hgb7 hown7)
        have HZ8 := hide ((hgb7.row (HZ6.out.alloc _) (HSA.out.low (show w.heap.size < g + 1 by omega))).far (p := ⟨w.heap.size + 1, 0, none⟩) (by simp) (.slice A7 n7 c7))
        have HB8 := hide ((HB6.out.trans ((hq1.mono HB6.out.size).trans (hgb7.toBelow (B := w.heap.size) (by rw [World.size_alloc]; omega) (fun g e => by have := HSA.out.from e; omega)))).setCell (p := ⟨w.heap.size + 1, 0, none⟩) (Nat.le_succ _) (.slice A7 n7 c7))
        have hs8 : g + 1 ≤ (w7.setCell ⟨w.heap.size + 1, 0, none⟩ (.slice A7 n7 c7)).heap.size := by have := hgb7.grown.size; rw [World.size_alloc] at this; simp; omega
        have HLS8 := hide ((hgb7.row (HLS6.out.alloc _) (HSA.out.low (Nat.lt_succ_self _))).far (p := ⟨w.heap.size + 1, 0, none⟩) (show g ≠ w.heap.size + 1 by omega) (.slice A7 n7 c7))
        have HLR8 := hide (HLY.out.low HB8.out hw7)
        refine hK.out _ _ hS7 (fun hHeld => ?_)
        clear hK K hHeld
        refine wpAnyH_take (i := 17) (v := .pointer (some ⟨w.heap.size + 1, 0, none⟩)) rfl (by kernel_rfl) (by kernel_rfl) (by kernel_rfl) (fun _ _ _ h => h) (Or.inl ⟨by kernel_rfl, by (intro W hS; go_simp; first | done | with_reducible rfl | rfl)⟩) hS7 ?_
        (try simp only [Act.put, List.getElem_toArray, List.getElem_cons_zero, List.getElem_cons_succ, List.setIfInBounds_toArray, List.set_cons_zero, List.set_cons_succ])
        refine wpAnyH_ready (rs := [18]) (by kernel_rfl) (by simp) ?_
        refine AllReadyH.cons rfl (fun K hK => ?_) AllReadyH.nil
        go_simp
        refine hK.out _ _ hS8 (fun hHeld => ?_)
        clear hK K hHeld hS7 hS8 x7 f7 l7 r7 hown7 hgb7 hS1 hS0
        refine wpAnyH_done (by kernel_rfl) ?_ _
        generalize (World.setCell _ _ _) = w8 at HP8 HZ8 HB8 hs8 HLS8 HLR8 ⊢
        go_wp2
        go_roundw
        case rel => exact ⟨j + 1, A7, n7, c7, _, by go_num, by omega, by rw [HE.out]; exact HP8.out, by rw [HE.out]; exact hop, by rw [HE.out]; exact hfi, HZ8.out, HLS8.out, HLR8.out, HB8.out, hs8⟩
        case measure => simp [intOf]; omega
    | none =>
      have HN2 := hide (numbersBehind_any x wOpen 2 w5 (by omega) (Nat.lt_of_lt_of_le hw7' hbb5.out.size) (by decide) (by decide) HLR5.out)
      rw [show ((2 : Nat) : Int) = 2 by rfl, show wOpen = ⟨#[111, 112, 101, 110]⟩ from rfl] at HN2
      have HX0 := hide hx
      clear hx hown6 hbb5
      go_wp2_with fail
      refine HN2.out.mono ?_
      rintro e w6 ⟨⟨A7, n7, c7, us7, rfl, hown7⟩, hb6⟩
      have HP6 := hide (HP5.out.below hb6)
      have HZ6 := hide (HZ5.out.below hb6 HZ5.out.lt)
      have HB6 := hide (HB5.out.trans (hb6.mono HB5.out.size))
      have HLS6 := hide (HLS5.out.below hb6 HLS5.out.lt)
      have HLR6 := hide (HLR5.out.below hb6)
      have hs6 := Nat.le_trans hs5 hb6.size
      clear HN2 HP5 HZ5 HB5 HLS5 HLR5 hb6
      cases hy : numsB ⟨#[111, 112, 101, 110]⟩ 2 x with
      | none =>
        have HE := hide (HST.out.trans (step_none HX0.out hy))
        clear hy hown7 HST
        go_wp2
        go_roundw
        case rel => exact ⟨j + 1, A, _, c, us, by go_num, by omega, by rw [HE.out]; exact HP6.out, by rw [HE.out]; exact hop, by rw [HE.out]; exact hfi, HZ6.out, HLS6.out, HLR6.out, HB6.out, hs6⟩
        case measure => simp [intOf]; omega
      | some zs =>
        have hown7 := hown7 zs hy
        have hzl := numsB_len hy
        have hzb := numsB_bd hy
        have HE := hide (HST.out.trans (step_open HX0.out hy))
        obtain ⟨g6, rfl, rfl, hc6, hB6, hg6, hcell⟩ := ints_cells hown7 (by omega)
        have HTW := hide (two_of hzl)
        rw [HTW.out] at hcell
        have v0 := hcell 0 _ rfl
        have v1 := hcell 1 _ rfl
        have HZ0 := hide (mem_getD2 zs 0 hzb)
        have HZ1 := hide (mem_getD2 zs 1 hzb)
        rw [hzl] at hc6 ⊢
        clear hown7 hcell HTW hzb hy HST hzl
        generalize zs.getD 0 0 = a0 at *
        generalize zs.getD 1 0 = a1 at *
        have hq0 : Below w6.heap.size w6 w6.drew := below_drewN (Below.refl _ _) 1
        have HP7 := hide (HP6.out.below hq0)
        have HZ7 := hide (HZ6.out.below hq0 HZ6.out.lt)
        have HB7 := hide (HB6.out.trans (hq0.mono HB6.out.size))
        have HLS7 := hide (HLS6.out.below hq0 HLS6.out.lt)
        have hs7 := Nat.le_trans hs6 hq0.size
        have hS0 : w6.drew.cell? ⟨g6, 0, none⟩ = some (.int .i64 a0) ∧ w6.drew.cell? ⟨g6, 1, none⟩ = some (.int .i64 a1) := ⟨(hq0.cell (p := ⟨g6, 0, none⟩) hg6).trans v0, (hq0.cell (p := ⟨g6, 1, none⟩) hg6).trans v1⟩
        have hg6b : g6 ≠ w.heap.size + 1 := by omega
        clear HP6 HZ6 HB6 HLS6 HLR6 hs6 v0 v1 hq0 hg6
        go_wp2_with fail
        refine wp_region_held_drew (S := fun W => W.cell? ⟨g6, 0, none⟩ = some (.int .i64 a0) ∧ W.cell? ⟨g6, 1, none⟩ = some (.int .i64 a1)) (by kernel_rfl) hS0 (fun _ => ?_)
        generalize w6.drew = w8 at *
        have x1 := HP7.out.box.cell 1
        have xl := HP7.out.box.lt
        have f1 := HP7.out.box.frozen 1
        have R1 := HP7.out.box.set 1 (.int .i64 a0)
        have x2 := R1.cell 2
        have xl2 := R1.lt
        have f2 := R1.frozen 2
        have hS1 : (w8.setCell ⟨w.heap.size + 1, 1, none⟩ (.int .i64 a0)).cell? ⟨g6, 0, none⟩ = some (.int .i64 a0) ∧ (w8.setCell ⟨w.heap.size + 1, 1, none⟩ (.int .i64 a0)).cell? ⟨g6, 1, none⟩ = some (.int .i64 a1) := ⟨cell_set hS0.1 hg6b, cell_set hS0.2 hg6b⟩
        have hS2 : ((w8.setCell ⟨w.heap.size + 1, 1, none⟩ (.int .i64 a0)).setCell ⟨w.heap.size + 1, 2, none⟩ (.int .i64 a1)).cell? ⟨g6, 0, none⟩ = some (.int .i64 a0) ∧ ((w8.setCell ⟨w.heap.size + 1, 1, none⟩ (.int .i64 a0)).setCell ⟨w.heap.size + 1, 2, none⟩ (.int .i64 a1)).cell? ⟨g6, 1, none⟩ = some (.int .i64 a1) := ⟨cell_set hS1.1 hg6b, cell_set hS1.2 hg6b⟩
        refine wpAnyH_take (i := 0) (v := .slice (some ⟨g6, 0, none⟩) 2 c7) rfl (by kernel_rfl) (by kernel_rfl) (by kernel_rfl) (fun _ _ _ h => h) (Or.inl ⟨by kernel_rfl, by (intro W hS; go_simp; first | done | with_reducible rfl | rfl)⟩) hS0 ?_
        (try simp only [Act.put, List.getElem_toArray, List.getElem_cons_zero, List.getElem_cons_succ, List.setIfInBounds_toArray, List.set_cons_zero, List.set_cons_succ])
        refine wpAnyH_take (i := 1) (v := .pointer (some ⟨g6, 0, none⟩)) rfl (by kernel_rfl) (by kernel_rfl) (by kernel_rfl) (fun _ _ _ h => h) (Or.inl ⟨by kernel_rfl, by (intro W hS; go_simp; first | done | with_reducible rfl | rfl)⟩) hS0 ?_
        (try simp only [Act.put, List.getElem_toArray, List.getElem_cons_zero, List.getElem_cons_succ, List.setIfInBounds_toArray, List.set_cons_zero, List.set_cons_succ])
        refine wpAnyH_take (i := 2) (v := .int .i64 a0) rfl (by kernel_rfl) (by kernel_rfl) (by kernel_rfl) (fun _ _ _ h => h) (Or.inl ⟨by kernel_rfl, by (intro W hS; have y := hS.1; have yl := cell_lt y; go_simp; first | done | with_reducible rfl | rfl)⟩) hS0 ?_
        (try simp only [Act.put, List.getElem_toArray, List.getElem_cons_zero, List.getElem_cons_succ, List.setIfInBounds_toArray, List.set_cons_zero, List.set_cons_succ])
        refine wpAnyH_take (i := 3) (v := .slice (some ⟨g6, 0, none⟩) 2 c7) rfl (by kernel_rfl) (by kernel_rfl) (by kernel_rfl) (fun _ _ _ h => h) (Or.inl ⟨by kernel_rfl, by (intro W hS; go_simp; first | done | with_reducible rfl | rfl)⟩) hS0 ?_
        (try simp only [Act.put, List.getElem_toArray, List.getElem_cons_zero, List.getElem_cons_succ, List.setIfInBounds_toArray, List.set_cons_zero, List.set_cons_succ])
        refine wpAnyH_take (i := 4) (v := .pointer (some ⟨g6, 1, none⟩)) rfl (by kernel_rfl) (by kernel_rfl) (by kernel_rfl) (fun _ _ _ h => h) (Or.inl ⟨by kernel_rfl, by (intro W hS; go_simp; first | done | with_reducible rfl | rfl)⟩) hS0 ?_
        (try simp only [Act.put, List.getElem_toArray, List.getElem_cons_zero, List.getElem_cons_succ, List.setIfInBounds_toArray, List.set_cons_zero, List.set_cons_succ])
        refine wpAnyH_take (i := 5) (v := .int .i64 a1) rfl (by kernel_rfl) (by kernel_rfl) (by kernel_rfl) (fun _ _ _ h => h) (Or.inl ⟨by kernel_rfl, by (intro W hS; have y := hS.2; have yl := cell_lt y; go_simp; first | done | with_reducible rfl | rfl)⟩) hS0 ?_
        (try simp only [Act.put, List.getElem_toArray, List.getElem_cons_zero, List.getElem_cons_succ, List.setIfInBounds_toArray, List.set_cons_zero, List.set_cons_succ])
        refine wpAnyH_take (i := 6) (v := .pointer (some ⟨w.heap.size + 1, 1, none⟩)) rfl (by kernel_rfl) (by kernel_rfl) (by kernel_rfl) (fun _ _ _ h => h) (Or.inl ⟨by kernel_rfl, by (intro W hS; go_simp; first | done | with_reducible rfl | rfl)⟩) hS0 ?_
        (try simp only [Act.put, List.getElem_toArray, List.getElem_cons_zero, List.getElem_cons_succ, List.setIfInBounds_toArray, List.set_cons_zero, List.set_cons_succ])
        refine wpAnyH_ready (rs := [7]) (by kernel_rfl) (by simp) ?_
        refine AllReadyH.cons rfl (fun K hK => ?_) AllReadyH.nil
        go_simp
        refine hK.out _ _ hS1 (fun hHeld => ?_)
        clear hK K hHeld
        refine wpAnyH_take (i := 8) (v := .pointer (some ⟨w.heap.size + 1, 2, none⟩)) rfl (by kernel_rfl) (by kernel_rfl) (by kernel_rfl) (fun _ _ _ h => h) (Or.inl ⟨by kernel_rfl, by (intro W hS; go_simp; first | done | with_reducible rfl | rfl)⟩) hS1 ?_
        (try simp only [Act.put, List.getElem_toArray, List.getElem_cons_zero, List.getElem_cons_succ, List.setIfInBounds_toArray, List.set_cons_zero, List.set_cons_succ])
        refine wpAnyH_ready (rs := [9]) (by kernel_rfl) (by simp) ?_
        refine AllReadyH.cons rfl (fun K hK => ?_) AllReadyH.nil
        go_simp
        refine hK.out _ _ hS2 (fun hHeld => ?_)
        clear hK K hHeld
        refine wpAnyH_done (by kernel_rfl) ?_ _
        have HP9 := hide (HP7.out.put a0 a1)
        have HZ9 := hide ((HZ7.out.far (p := ⟨w.heap.size + 1, 1, none⟩) (by simp) (.int .i64 a0)).far (p := ⟨w.heap.size + 1, 2, none⟩) (by simp) (.int .i64 a1))
        have HB9 := hide (below_put HB7.out (Nat.le_succ _) (.int .i64 a0) (.int .i64 a1))
        have HLS9 := hide ((HLS7.out.far (p := ⟨w.heap.size + 1, 1, none⟩) (show g ≠ w.heap.size + 1 by omega) (.int .i64 a0)).far (p := ⟨w.heap.size + 1, 2, none⟩) (show g ≠ w.heap.size + 1 by omega) (.int .i64 a1))
        have hs9 : g + 1 ≤ ((w8.setCell ⟨w.heap.size + 1, 1, none⟩ (.int .i64 a0)).setCell ⟨w.heap.size + 1, 2, none⟩ (.int .i64 a1)).heap.size := by simp; omega
        clear hS0 hS1 hS2 R1 x1 x2 xl xl2 f1 f2
        generalize (World.setCell _ _ _) = w9 at HP9 HZ9 HB9 HLS9 hs9 ⊢
        have HLR9 := hide (HLY.out.low HB9.out hw7)
        go_wp2
        go_roundw
        case rel => exact ⟨j + 1, A, _, c, us, by go_num, by omega, by rw [HE.out]; exact HP9.out, by rw [HE.out]; exact HZ0.out, by rw [HE.out]; exact HZ1.out, HZ9.out, HLS9.out, HLR9.out, HB9.out, hs9⟩
        case measure => simp [intOf]; omega
end Go.Proofs.YtddjgbhkfdpffaaGreatDoor
