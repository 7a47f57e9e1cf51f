/-
  The reference's draw of a plan.
-/
import Derived.Test.YtknlnndocamcmaaDoorPlB
import Derived.Deep.RegionHeld
import Derived.OwnWalk
import Derived.Deep.Cut
import Derived.Deep.CutRange
import Derived.Deep.DeepCutAuto
set_option linter.unusedVariables false
set_option linter.unusedSimpArgs false
namespace Go.Proofs.YtknlnndocamcmaaDoor
open Go.ChangeShapes Go.WideShapes Go.ChangeAt Go.RowKit

set_option maxRecDepth 100000 in
set_option maxHeartbeats 8000000 in
theorem l45Plan_any {L : List UInt8} {k g : Nat} {w : World} (h : RdD w g L k) (hk : k ≤ 100000) :
    Calls Tryd.prog 27 #[.pointer (some ⟨g, 0, none⟩)] w (PlanDraw w g L k) := by
  obtain ⟨ia, hia, ha0, ha1, ha2⟩ := info_parts8 info_part
  have HIa := hide hia
  have hlg := h.lt
  clear hia
  go_enter Tryd.func27, Tryd.ntmps27
  go_upto_region 1 with fail
  generalize hw1 : w.alloc _ = w1
  have hb1 : Below w.heap.size w w1 := by rw [← hw1]; exact (Below.refl _ _).alloc (Nat.le_refl _) _
  have HZ := hide (show Row w1 w.heap.size 24 [.slice none 0 0, .int .i64 0, .int .i64 0] from by rw [← hw1]; exact Row.new w _ _)
  have hs1 : w1.heap.size = w.heap.size + 1 := by rw [← hw1]; simp
  have HB1 := hide hb1
  clear hw1 hb1
  go_upto_region 2 with fail
  generalize hw2 : w1.alloc _ = w2
  have hb2 : Below w1.heap.size w1 w2 := by rw [← hw2]; exact (Below.refl _ _).alloc (Nat.le_refl _) _
  have HP := hide (show Row w2 (w.heap.size + 1) 24 [.slice none 0 0, .int .i64 0, .int .i64 1] from by rw [← hw2, ← hs1]; exact Row.new w1 _ _)
  have HB2 := hide (HB1.out.trans (hb2.mono HB1.out.size))
  have HJ := hide (show PlB w w2 g L k [] 0 ((1 : Nat) : Int) none 0 0 [] from ⟨⟨HP.out, OwS.nil _ _ _ _ _, Nat.lt_succ_self _⟩, HZ.out.below hb2 HZ.out.lt, h.below HB2.out, grownBy_below HB2.out (some g)⟩)
  clear hw2 hb2 HZ HB1 HB2 HP hs1 h
  have HPK := hide (pick_any HJ.out.rd (n := 5) (by omega) (by omega) (by omega))
  go_wp2_with fail
  refine HPK.out.mono ?_
  rintro e w3 ⟨n0, rfl, hlt_n0, hr_n0, hg_n0⟩
  have HJ3 := hide (HJ.out.pick hlg hr_n0 hg_n0)
  clear hr_n0 hg_n0 HPK HJ
  have HPK := hide (pick_any HJ3.out.rd (n := 20) (by omega) (by omega) (by omega))
  go_wp2_with fail
  refine HPK.out.mono ?_
  rintro e w4 ⟨q0, rfl, hlt_q0, hr_q0, hg_q0⟩
  have HJ4 := hide (HJ3.out.pick hlg hr_q0 hg_q0)
  clear hr_q0 hg_q0 HPK HJ3
  by_cases hq : q0 = 0
  · subst hq
    have HPK := hide (pick_any HJ4.out.rd (n := 2) (by omega) (by omega) (by omega))
    go_wp2_with fail
    refine HPK.out.mono ?_
    rintro e w5 ⟨q1, rfl, hlt_q1, hr_q1, hg_q1⟩
    have HJ5 := hide (HJ4.out.pick hlg hr_q1 hg_q1)
    clear hr_q1 hg_q1 HPK HJ4
    clear hlt_n0
    have HPK := hide (pick_any HJ5.out.rd (n := 3) (by omega) (by omega) (by omega))
    go_wp2_with fail
    refine HPK.out.mono ?_
    rintro e w6 ⟨q2, rfl, hlt_q2, hr_q2, hg_q2⟩
    have HJ6 := hide (HJ5.out.pick hlg hr_q2 hg_q2)
    clear hr_q2 hg_q2 HPK HJ5
    have hwr : IntKind.i64.wrap (1 + (q2 : Int)) = ((1 + q2 : Nat) : Int) := by rw [wrapI _ (by omega) (by omega)]; omega
    go_upto_region 7 with fail
    go_loopw [5, 6] (fun nv iv wr => ∃ (num i f k' : Nat) (ps : List LogPart) (A : Option Addr) (n c : Nat) (us : List Value), nv = .int .i64 (num : Int) ∧ iv = .int .i64 (i : Int) ∧ i ≤ (40 + q1) ∧ ps.length = i ∧ num ≤ 3 + 3 * i ∧ f ≤ 1 + 297 * i ∧ k' ≤ k + 4 + 5 * i ∧ PlB w wr g L k' ps 0 (f : Int) A n c us) (fun _ iv _ => (40 + q1) - (intOf iv).toNat)
    case atStart => first | exact ⟨1 + q2, 0, 1, _, [], none, 0, 0, [], rfl, rfl, by omega, rfl, by omega, by omega, by omega, HJ6.out⟩ | exact ⟨1 + q2, 0, 1, _, [], none, 0, 0, [], by congr 1; simp only [wrap64]; omega, rfl, by omega, rfl, by omega, by omega, by omega, HJ6.out⟩
    case round =>
      clear HJ6 hwr hlt_q2
      obtain ⟨num, i, f, k2, ps, A, n, c, us, rfl, rfl, him, hpl, hnum, hf, hk2, hj⟩ := hrel
      have HPB := hide hj
      obtain rfl : n = i := by rw [hj.pb.len, hpl]
      clear hj
      by_cases hlt : n < (40 + q1)
      rotate_left
      · have hltI : ¬ ((n : Int) < (40 + (q1 : Int))) := by omega
        have x0 := HPB.out.pb.box.cell 0
        have x1 := HPB.out.pb.box.cell 1
        have x2 := HPB.out.pb.box.cell 2
        have xl := HPB.out.pb.box.lt
        have v0 := HPB.out.pb.box.frozen 0
        have v1 := HPB.out.pb.box.frozen 1
        have v2 := HPB.out.pb.box.frozen 2
        go_upto_region 14 with fail
        have HPC := hide (HPB.out.putOp hlg (num : Int))
        clear x0 x1 x2 xl v0 v1 v2
        clear HPB
        generalize (World.setCell _ _ _) = w8 at HPC ⊢
        have HPB := HPC
        clear HPC
        obtain ⟨op, hop⟩ : ∃ o : Int, o = (num : Int) := ⟨_, rfl⟩
        rw [← hop] at HPB
        have hwo : (Lit.int .i64 op).wf = true := WalkArith.wf_i64 (by omega)
        have HPK := hide (pick_any HPB.out.rd (n := 12) (by omega) (by omega) (by omega))
        go_wp2_with fail
        refine HPK.out.mono ?_
        rintro e w9 ⟨r, rfl, hlt_r, hr_r, hg_r⟩
        have HPD := hide (HPB.out.pick hlg hr_r hg_r)
        clear hr_r hg_r HPK HPB
        have HPB := HPD
        clear HPD
        by_cases e0 : r = 0
        · subst e0
          obtain ⟨fi, hfi⟩ : ∃ o : Int, o = (f : Int) := ⟨_, rfl⟩
          rw [← hfi] at HPB
          have hwf : (Lit.int .i64 fi).wf = true := WalkArith.wf_i64 (by omega)
          clear hfi hop hwo
          have HQA := hide (HPB.out.step ((Below.refl _ _).alloc (Nat.le_refl _) (.cells #[.int .i64 0, .int .i64 1, .int .i64 999999, .int .i64 1000000] 3)))
          have HRW := hide (Row.new w9 3 [.int .i64 0, .int .i64 1, .int .i64 999999, .int .i64 1000000])
          have hbl : w9.heap.size ≠ g := by have := HPB.out.gr.size; omega
          have HPK := hide (pick_any HQA.out.rd (n := 4) (by omega) (by omega) (by omega))
          go_wp2_with fail
          refine HPK.out.mono ?_
          rintro e w10 ⟨q, rfl, hltq, hrq, hgq⟩
          have HPA := hide (HQA.out.pick hlg hrq hgq)
          have hrow := HRW.out.grown hgq (fun e => by injection e with e; exact hbl e.symm)
          obtain ⟨v, hv, hbv⟩ := list_pick [0, 1, 999999, 1000000] q (by simpa using hltq) (by decide)
          have yc := (hrow.cell q).trans hv
          have yl := hrow.lt
          have hqI : (q : Int) < 4 := by omega
          have hwv : (Lit.int .i64 v).wf = true := WalkArith.wf_i64 (by omega)
          clear hrq hgq HPK HPB HQA HRW hv hbv hrow
          have HPB := HPA
          clear HPA
          have x0 := HPB.out.pb.box.cell 0
          have x1 := HPB.out.pb.box.cell 1
          have x2 := HPB.out.pb.box.cell 2
          have xl := HPB.out.pb.box.lt
          have v0 := HPB.out.pb.box.frozen 0
          have v1 := HPB.out.pb.box.frozen 1
          have v2 := HPB.out.pb.box.frozen 2
          go_upto_region 29 with fail
          have HPC := hide (HPB.out.putOp hlg v)
          clear x0 x1 x2 xl v0 v1 v2
          clear yc yl HPB
          generalize (World.setCell _ _ _) = w11 at HPC ⊢
          have HPB := HPC
          clear HPC
          have hwo := hwv
          obtain ⟨op, rfl⟩ : ∃ o, o = v := ⟨_, rfl⟩
          have z0 := HPB.out.z.cell 0
          have z1 := HPB.out.z.cell 1
          have z2 := HPB.out.z.cell 2
          have y0 := HPB.out.z.frozen 0
          have y1 := HPB.out.z.frozen 1
          have y2 := HPB.out.z.frozen 2
          have zl := HPB.out.z.lt
          have x0 := HPB.out.pb.box.cell 0
          have x1 := HPB.out.pb.box.cell 1
          have x2 := HPB.out.pb.box.cell 2
          have xl := HPB.out.pb.box.lt
          go_wp2
          refine bodyPost_ret (ret_row rfl _ _ w.heap.size 24 [.slice A n c, .int .i64 op, .int .i64 fi] (HPB.out.z.setAll [.slice A n c, .int .i64 op, .int .i64 fi] rfl) _ rfl Tryd.underlying24 rfl (by kernel_rfl)) rfl ?_
          exact HPB.out.out hlg (setN_grown [.slice A n c, .int .i64 op, .int .i64 fi] 0 (grown_refl _ (some w.heap.size))) (by omega) hwo hwf (by omega)
        have m0 : ¬ ((r : Int) = 0) := by omega
        have n0 : ((r : Int) == 0) = false := beq_eq_false_iff_ne.2 (by omega)
        by_cases e1 : r = 1
        · subst e1
          clear hop
          have hw1 : IntKind.i64.wrap ((f : Int) + 1) = (f : Int) + 1 := wrapI _ (by omega) (by omega)
          have x0 := HPB.out.pb.box.cell 0
          have x1 := HPB.out.pb.box.cell 1
          have x2 := HPB.out.pb.box.cell 2
          have xl := HPB.out.pb.box.lt
          have v0 := HPB.out.pb.box.frozen 0
          have v1 := HPB.out.pb.box.frozen 1
          have v2 := HPB.out.pb.box.frozen 2
          go_upto_region 29 with fail
          have HPC := hide (HPB.out.putFi hlg ((f : Int) + 1))
          clear x0 x1 x2 xl v0 v1 v2
          clear HPB
          generalize (World.setCell _ _ _) = w11 at HPC ⊢
          have HPB := HPC
          clear HPC
          have hwf : (Lit.int .i64 ((f : Int) + 1)).wf = true := WalkArith.wf_i64 (by omega)
          obtain ⟨fi, hfi⟩ : ∃ o, o = (f : Int) + 1 := ⟨_, rfl⟩
          rw [← hfi] at HPB hwf
          clear hfi
          have z0 := HPB.out.z.cell 0
          have z1 := HPB.out.z.cell 1
          have z2 := HPB.out.z.cell 2
          have y0 := HPB.out.z.frozen 0
          have y1 := HPB.out.z.frozen 1
          have y2 := HPB.out.z.frozen 2
          have zl := HPB.out.z.lt
          have x0 := HPB.out.pb.box.cell 0
          have x1 := HPB.out.pb.box.cell 1
          have x2 := HPB.out.pb.box.cell 2
          have xl := HPB.out.pb.box.lt
          go_wp2
          refine bodyPost_ret (ret_row rfl _ _ w.heap.size 24 [.slice A n c, .int .i64 op, .int .i64 fi] (HPB.out.z.setAll [.slice A n c, .int .i64 op, .int .i64 fi] rfl) _ rfl Tryd.underlying24 rfl (by kernel_rfl)) rfl ?_
          exact HPB.out.out hlg (setN_grown [.slice A n c, .int .i64 op, .int .i64 fi] 0 (grown_refl _ (some w.heap.size))) (by omega) hwo hwf (by omega)
        have m1 : ¬ ((r : Int) = 1) := by omega
        have n1 : ((r : Int) == 1) = false := beq_eq_false_iff_ne.2 (by omega)
        by_cases e2 : r = 2
        · subst e2
          by_cases hz : 0 < n
          · have hzI : (0 : Int) < (n : Int) := by omega
            clear hop
            obtain ⟨bl, eA, -⟩ := parts_cell HPB.out.pb.own (by omega)
            subst eA
            obtain ⟨fi, hfi⟩ : ∃ o : Int, o = (f : Int) := ⟨_, rfl⟩
            rw [← hfi] at HPB
            have hwf : (Lit.int .i64 fi).wf = true := WalkArith.wf_i64 (by omega)
            clear hfi
            have x0 := HPB.out.pb.box.cell 0
            have x1 := HPB.out.pb.box.cell 1
            have x2 := HPB.out.pb.box.cell 2
            have xl := HPB.out.pb.box.lt
            have v0 := HPB.out.pb.box.frozen 0
            have v1 := HPB.out.pb.box.frozen 1
            have v2 := HPB.out.pb.box.frozen 2
            go_upto_region 21 with fail
            clear x0 x1 x2 xl v0 v1 v2
            go_wp2_with fail
            have hj153 := HPB.out.step (w' := w9.drew) (below_drewN (Below.refl _ _) 1)
            refine wp_region_held_drew (S := fun W => ∃ k' ps' us', ps'.length = n ∧ PlB w W g L k' ps' op fi (some ⟨bl, 0, none⟩) n c us') (by kernel_rfl) ⟨_, _, _, by first | assumption | omega, hj153⟩ (fun _ => ?_)
            generalize w9.drew = v153 at *
            refine wpAnyH_take (i := 0) (v := .pointer (some ⟨w.heap.size + 1, 0, none⟩)) rfl (by kernel_rfl) (by kernel_rfl) (by kernel_rfl) (fun _ _ _ h => h) (Or.inl ⟨by kernel_rfl, by (intro W hS; go_simp; first | done | with_reducible rfl | rfl)⟩) ⟨_, _, _, by first | assumption | omega, hj153⟩ ?_
            (try simp only [Act.put, List.getElem_toArray, List.getElem_cons_zero, List.getElem_cons_succ, List.setIfInBounds_toArray, List.set_cons_zero, List.set_cons_succ])
            refine wpAnyH_take (i := 1) (v := .slice (some ⟨bl, 0, none⟩) n c) rfl (by kernel_rfl) (by kernel_rfl) (by kernel_rfl) (fun _ _ _ h => h) (Or.inl ⟨by kernel_rfl, by (intro W hS; obtain ⟨_, _, _, _, hS⟩ := hS; have y := hS.pb.box.cell 0; have yl := hS.pb.box.lt; go_simp; first | done | with_reducible rfl | rfl)⟩) ⟨_, _, _, by first | assumption | omega, hj153⟩ ?_
            (try simp only [Act.put, List.getElem_toArray, List.getElem_cons_zero, List.getElem_cons_succ, List.setIfInBounds_toArray, List.set_cons_zero, List.set_cons_succ])
            refine wpAnyH_take (i := 3) (v := .pointer (some ⟨g, 0, none⟩)) rfl (by kernel_rfl) (by kernel_rfl) (by kernel_rfl) (fun _ _ _ h => h) (Or.inl ⟨by kernel_rfl, by (intro W hS; go_simp; first | done | with_reducible rfl | rfl)⟩) ⟨_, _, _, by first | assumption | omega, hj153⟩ ?_
            (try simp only [Act.put, List.getElem_toArray, List.getElem_cons_zero, List.getElem_cons_succ, List.setIfInBounds_toArray, List.set_cons_zero, List.set_cons_succ])
            refine wpAnyH_ready (rs := [2, 4]) (by kernel_rfl) (by simp) ?_
            refine AllReadyH.cons rfl (fun K hK => ?_) ?_
            · go_simp
              have hq157 : Below v153.heap.size v153 (v153.alloc (.cells #[.int .i64 (-1), .int .i64 20000, .int .i64 20001] 3)) := (Below.refl _ _).alloc (Nat.le_refl _) _
              have hj157 := hj153.step hq157
              have hr157 : Row (v153.alloc (.cells #[.int .i64 (-1), .int .i64 20000, .int .i64 20001] 3)) v153.heap.size 3 [.int .i64 (-1), .int .i64 20000, .int .i64 20001] := Row.new _ _ _
              have hlo157 : w.heap.size + 2 ≤ v153.heap.size := hj153.pb.box.lt
              refine hK.out _ _ ⟨_, _, _, by first | assumption | omega, hj157⟩ (fun hHeld => ?_)
              clear hK K hHeld
              obtain ⟨blk157, hblk157⟩ : ∃ n, n = v153.heap.size := ⟨_, rfl⟩
              rw [← hblk157] at hr157 hlo157
              simp only [← hblk157]
              generalize v153.alloc _ = v157 at *
              clear hblk157
              refine wpAnyH_ready (rs := [4]) (by kernel_rfl) (by simp) ?_
              refine AllReadyH.cons rfl (fun K hK => ?_) AllReadyH.nil
              go_simp
              go_at_call 49
              refine (pick_any hj157.rd (n := 3) (by omega) (by omega) (by omega)).mono ?_
              rintro e v158 ⟨r158, rfl, hlt158, hr158, hg158⟩
              have hj158 := hj157.pick hlg hr158 hg158
              have hr157158 := hr157.grown hg158 (fun e => by injection e with e; omega)
              clear hr158 hg158
              try go_simp
              refine hK.out _ _ ⟨_, _, _, by first | assumption | omega, hj158⟩ (fun hHeld => ?_)
              clear hK K hHeld
              have ra159 : ((r158 : Nat) : Int) < 3 := by omega
              refine' wpAnyH_take (i := 5) (v := _) rfl (by kernel_rfl) (by kernel_rfl) (by kernel_rfl) (fun _ _ _ h => h) (Or.inl ⟨by kernel_rfl, by (intro W hS; go_simp; first | done | with_reducible rfl | rfl)⟩) ⟨_, _, _, by first | assumption | omega, hj158⟩ ?_
              (try simp only [Act.put, List.getElem_toArray, List.getElem_cons_zero, List.getElem_cons_succ, List.setIfInBounds_toArray, List.set_cons_zero, List.set_cons_succ])
              refine wpAnyH_ready (rs := [6]) (by kernel_rfl) (by simp) ?_
              refine AllReadyH.cons rfl (fun K hK => ?_) AllReadyH.nil
              obtain ⟨v160, hv160, hb160⟩ := list_pick [(-1), 20000, 20001] r158 (by simpa using ‹_›) (by decide)
              have yc160 := (hr157158.cell r158).trans hv160
              have yl160 := hr157158.lt
              go_simp
              refine hK.out _ _ ⟨_, _, _, by first | assumption | omega, hj158⟩ (fun hHeld => ?_)
              clear hK K hHeld
              refine' wpAnyH_take (i := 7) (v := _) rfl (by kernel_rfl) (by kernel_rfl) (by kernel_rfl) (fun _ _ _ h => h) (Or.inl ⟨by kernel_rfl, by (intro W hS; go_simp; first | done | with_reducible rfl | rfl)⟩) ⟨_, _, _, by first | assumption | omega, hj158⟩ ?_
              (try simp only [Act.put, List.getElem_toArray, List.getElem_cons_zero, List.getElem_cons_succ, List.setIfInBounds_toArray, List.set_cons_zero, List.set_cons_succ])
              refine' wpAnyH_take (i := 8) (v := _) rfl (by kernel_rfl) (by kernel_rfl) (by kernel_rfl) (fun _ _ _ h => h) (Or.inl ⟨by kernel_rfl, by (intro W hS; go_simp; first | done | with_reducible rfl | rfl)⟩) ⟨_, _, _, by first | assumption | omega, hj158⟩ ?_
              (try simp only [Act.put, List.getElem_toArray, List.getElem_cons_zero, List.getElem_cons_succ, List.setIfInBounds_toArray, List.set_cons_zero, List.set_cons_succ])
              refine wpAnyH_ready (rs := [9]) (by kernel_rfl) (by simp) ?_
              refine AllReadyH.cons rfl (fun K hK => ?_) AllReadyH.nil
              obtain ⟨hlb, hlt, hcell⟩ := hj158.slot (by omega)
              obtain ⟨⟨x0, yx, -⟩, yf⟩ := hcell (3) (by omega)
              obtain ⟨ps163, us163, hps163, hj163⟩ := hj158.part hlg (3) (by omega) v160 (WalkArith.wf_i64 (by omega))
              go_simp
              refine hK.out _ _ ⟨_, _, _, by omega, hj163⟩ (fun hHeld => ?_)
              clear hK K hHeld
              refine wpAnyH_done (by kernel_rfl) ?_ _
              have HPB9 := hide hj163
              clear HPB
              generalize (World.setCell _ _ _) = w11 at HPB9 ⊢
              have HPB := HPB9
              clear HPB9
              obtain ⟨A, hA⟩ : ∃ A : Option Addr, A = some ⟨bl, 0, none⟩ := ⟨_, rfl⟩
              rw [← hA] at HPB
              clear hA
              have x0 := HPB.out.pb.box.cell 0
              have x1 := HPB.out.pb.box.cell 1
              have x2 := HPB.out.pb.box.cell 2
              have xl := HPB.out.pb.box.lt
              have v0 := HPB.out.pb.box.frozen 0
              have v1 := HPB.out.pb.box.frozen 1
              have v2 := HPB.out.pb.box.frozen 2
              go_upto_region 29 with fail
              clear x0 x1 x2 xl v0 v1 v2
              have z0 := HPB.out.z.cell 0
              have z1 := HPB.out.z.cell 1
              have z2 := HPB.out.z.cell 2
              have y0 := HPB.out.z.frozen 0
              have y1 := HPB.out.z.frozen 1
              have y2 := HPB.out.z.frozen 2
              have zl := HPB.out.z.lt
              have x0 := HPB.out.pb.box.cell 0
              have x1 := HPB.out.pb.box.cell 1
              have x2 := HPB.out.pb.box.cell 2
              have xl := HPB.out.pb.box.lt
              go_wp2
              refine bodyPost_ret (ret_row rfl _ _ w.heap.size 24 [.slice A n c, .int .i64 op, .int .i64 fi] (HPB.out.z.setAll [.slice A n c, .int .i64 op, .int .i64 fi] rfl) _ rfl Tryd.underlying24 rfl (by kernel_rfl)) rfl ?_
              exact HPB.out.out hlg (setN_grown [.slice A n c, .int .i64 op, .int .i64 fi] 0 (grown_refl _ (some w.heap.size))) (by omega) hwo hwf (by omega)
            refine AllReadyH.cons rfl (fun K hK => ?_) AllReadyH.nil
            · go_simp
              go_at_call 49
              refine (pick_any hj153.rd (n := 3) (by omega) (by omega) (by omega)).mono ?_
              rintro e v164 ⟨r164, rfl, hlt164, hr164, hg164⟩
              have hj164 := hj153.pick hlg hr164 hg164
              clear hr164 hg164
              try go_simp
              refine hK.out _ _ ⟨_, _, _, by first | assumption | omega, hj164⟩ (fun hHeld => ?_)
              clear hK K hHeld
              refine wpAnyH_ready (rs := [2]) (by kernel_rfl) (by simp) ?_
              refine AllReadyH.cons rfl (fun K hK => ?_) AllReadyH.nil
              go_simp
              have hq165 : Below v164.heap.size v164 (v164.alloc (.cells #[.int .i64 (-1), .int .i64 20000, .int .i64 20001] 3)) := (Below.refl _ _).alloc (Nat.le_refl _) _
              have hj165 := hj164.step hq165
              have hr165 : Row (v164.alloc (.cells #[.int .i64 (-1), .int .i64 20000, .int .i64 20001] 3)) v164.heap.size 3 [.int .i64 (-1), .int .i64 20000, .int .i64 20001] := Row.new _ _ _
              have hlo165 : w.heap.size + 2 ≤ v164.heap.size := hj164.pb.box.lt
              refine hK.out _ _ ⟨_, _, _, by first | assumption | omega, hj165⟩ (fun hHeld => ?_)
              clear hK K hHeld
              obtain ⟨blk165, hblk165⟩ : ∃ n, n = v164.heap.size := ⟨_, rfl⟩
              rw [← hblk165] at hr165 hlo165
              simp only [← hblk165]
              generalize v164.alloc _ = v165 at *
              clear hblk165
              have ra166 : ((r164 : Nat) : Int) < 3 := by omega
              refine' wpAnyH_take (i := 5) (v := _) rfl (by kernel_rfl) (by kernel_rfl) (by kernel_rfl) (fun _ _ _ h => h) (Or.inl ⟨by kernel_rfl, by (intro W hS; go_simp; first | done | with_reducible rfl | rfl)⟩) ⟨_, _, _, by first | assumption | omega, hj165⟩ ?_
              (try simp only [Act.put, List.getElem_toArray, List.getElem_cons_zero, List.getElem_cons_succ, List.setIfInBounds_toArray, List.set_cons_zero, List.set_cons_succ])
              refine wpAnyH_ready (rs := [6]) (by kernel_rfl) (by simp) ?_
              refine AllReadyH.cons rfl (fun K hK => ?_) AllReadyH.nil
              obtain ⟨v167, hv167, hb167⟩ := list_pick [(-1), 20000, 20001] r164 (by simpa using ‹_›) (by decide)
              have yc167 := (hr165.cell r164).trans hv167
              have yl167 := hr165.lt
              go_simp
              refine hK.out _ _ ⟨_, _, _, by first | assumption | omega, hj165⟩ (fun hHeld => ?_)
              clear hK K hHeld
              refine' wpAnyH_take (i := 7) (v := _) rfl (by kernel_rfl) (by kernel_rfl) (by kernel_rfl) (fun _ _ _ h => h) (Or.inl ⟨by kernel_rfl, by (intro W hS; go_simp; first | done | with_reducible rfl | rfl)⟩) ⟨_, _, _, by first | assumption | omega, hj165⟩ ?_
              (try simp only [Act.put, List.getElem_toArray, List.getElem_cons_zero, List.getElem_cons_succ, List.setIfInBounds_toArray, List.set_cons_zero, List.set_cons_succ])
              refine' wpAnyH_take (i := 8) (v := _) rfl (by kernel_rfl) (by kernel_rfl) (by kernel_rfl) (fun _ _ _ h => h) (Or.inl ⟨by kernel_rfl, by (intro W hS; go_simp; first | done | with_reducible rfl | rfl)⟩) ⟨_, _, _, by first | assumption | omega, hj165⟩ ?_
              (try simp only [Act.put, List.getElem_toArray, List.getElem_cons_zero, List.getElem_cons_succ, List.setIfInBounds_toArray, List.set_cons_zero, List.set_cons_succ])
              refine wpAnyH_ready (rs := [9]) (by kernel_rfl) (by simp) ?_
              refine AllReadyH.cons rfl (fun K hK => ?_) AllReadyH.nil
              obtain ⟨hlb, hlt, hcell⟩ := hj165.slot (by omega)
              obtain ⟨⟨x0, yx, -⟩, yf⟩ := hcell (3) (by omega)
              obtain ⟨ps170, us170, hps170, hj170⟩ := hj165.part hlg (3) (by omega) v167 (WalkArith.wf_i64 (by omega))
              go_simp
              refine hK.out _ _ ⟨_, _, _, by omega, hj170⟩ (fun hHeld => ?_)
              clear hK K hHeld
              refine wpAnyH_done (by kernel_rfl) ?_ _
              have HPB9 := hide hj170
              clear HPB
              generalize (World.setCell _ _ _) = w11 at HPB9 ⊢
              have HPB := HPB9
              clear HPB9
              obtain ⟨A, hA⟩ : ∃ A : Option Addr, A = some ⟨bl, 0, none⟩ := ⟨_, rfl⟩
              rw [← hA] at HPB
              clear hA
              have x0 := HPB.out.pb.box.cell 0
              have x1 := HPB.out.pb.box.cell 1
              have x2 := HPB.out.pb.box.cell 2
              have xl := HPB.out.pb.box.lt
              have v0 := HPB.out.pb.box.frozen 0
              have v1 := HPB.out.pb.box.frozen 1
              have v2 := HPB.out.pb.box.frozen 2
              go_upto_region 29 with fail
              clear x0 x1 x2 xl v0 v1 v2
              have z0 := HPB.out.z.cell 0
              have z1 := HPB.out.z.cell 1
              have z2 := HPB.out.z.cell 2
              have y0 := HPB.out.z.frozen 0
              have y1 := HPB.out.z.frozen 1
              have y2 := HPB.out.z.frozen 2
              have zl := HPB.out.z.lt
              have x0 := HPB.out.pb.box.cell 0
              have x1 := HPB.out.pb.box.cell 1
              have x2 := HPB.out.pb.box.cell 2
              have xl := HPB.out.pb.box.lt
              go_wp2
              refine bodyPost_ret (ret_row rfl _ _ w.heap.size 24 [.slice A n c, .int .i64 op, .int .i64 fi] (HPB.out.z.setAll [.slice A n c, .int .i64 op, .int .i64 fi] rfl) _ rfl Tryd.underlying24 rfl (by kernel_rfl)) rfl ?_
              exact HPB.out.out hlg (setN_grown [.slice A n c, .int .i64 op, .int .i64 fi] 0 (grown_refl _ (some w.heap.size))) (by omega) hwo hwf (by omega)
          · have hzI : ¬ ((0 : Int) < (n : Int)) := by omega
            clear hop
            exfalso
            omega
        have m2 : ¬ ((r : Int) = 2) := by omega
        have n2 : ((r : Int) == 2) = false := beq_eq_false_iff_ne.2 (by omega)
        by_cases e3 : r = 3
        · subst e3
          by_cases hz : 0 < n
          · have hzI : (0 : Int) < (n : Int) := by omega
            clear hop
            obtain ⟨m, hm⟩ : ∃ m, n = m + 1 := ⟨n - 1, by omega⟩
            obtain ⟨bl, eA, -⟩ := parts_cell HPB.out.pb.own (by omega)
            subst eA
            obtain ⟨fi, hfi⟩ : ∃ o : Int, o = (f : Int) := ⟨_, rfl⟩
            rw [← hfi] at HPB
            have hwf : (Lit.int .i64 fi).wf = true := WalkArith.wf_i64 (by omega)
            clear hfi
            have x0 := HPB.out.pb.box.cell 0
            have x1 := HPB.out.pb.box.cell 1
            have x2 := HPB.out.pb.box.cell 2
            have xl := HPB.out.pb.box.lt
            have v0 := HPB.out.pb.box.frozen 0
            have v1 := HPB.out.pb.box.frozen 1
            have v2 := HPB.out.pb.box.frozen 2
            go_upto_region 24 with fail
            clear x0 x1 x2 xl v0 v1 v2
            have hsub : IntKind.i64.wrap ((n : Int) - 1) = (m : Int) := by rw [wrapI _ (by omega) (by omega)]; omega
            have hsub2 : wrap64 ((n : Int) - 1) = (m : Int) := by unfold wrap64; omega
            have hmn : (m : Int) < (n : Int) := by omega
            have hm0 : (0 : Int) ≤ (m : Int) := by omega
            clear hm
            go_cut [] from 95 to 108 (fun wx => ∃ k' ps' us', ps'.length = n ∧ k' ≤ k + 900 ∧ PlB w wx g L k' ps' op fi (some ⟨bl, 0, none⟩) n c us')
            case first =>
              go_wp2_with fail
              have hj120 := HPB.out.step (w' := w9.drew) (below_drewN (Below.refl _ _) 1)
              refine wp_region_held_drew (S := fun W => ∃ k' ps' us', ps'.length = n ∧ PlB w W g L k' ps' op fi (some ⟨bl, 0, none⟩) n c us') (by kernel_rfl) ⟨_, _, _, by first | assumption | omega, hj120⟩ (fun _ => ?_)
              generalize w9.drew = v120 at *
              refine wpAnyH_take (i := 0) (v := .pointer (some ⟨w.heap.size + 1, 0, none⟩)) rfl (by kernel_rfl) (by kernel_rfl) (by kernel_rfl) (fun _ _ _ h => h) (Or.inl ⟨by kernel_rfl, by (intro W hS; go_simp; first | done | with_reducible rfl | rfl)⟩) ⟨_, _, _, by first | assumption | omega, hj120⟩ ?_
              (try simp only [Act.put, List.getElem_toArray, List.getElem_cons_zero, List.getElem_cons_succ, List.setIfInBounds_toArray, List.set_cons_zero, List.set_cons_succ])
              refine wpAnyH_take (i := 1) (v := .slice (some ⟨bl, 0, none⟩) n c) rfl (by kernel_rfl) (by kernel_rfl) (by kernel_rfl) (fun _ _ _ h => h) (Or.inl ⟨by kernel_rfl, by (intro W hS; obtain ⟨_, _, _, _, hS⟩ := hS; have y := hS.pb.box.cell 0; have yl := hS.pb.box.lt; go_simp; first | done | with_reducible rfl | rfl)⟩) ⟨_, _, _, by first | assumption | omega, hj120⟩ ?_
              (try simp only [Act.put, List.getElem_toArray, List.getElem_cons_zero, List.getElem_cons_succ, List.setIfInBounds_toArray, List.set_cons_zero, List.set_cons_succ])
              refine wpAnyH_take (i := 2) (v := .pointer (some ⟨w.heap.size + 1, 0, none⟩)) rfl (by kernel_rfl) (by kernel_rfl) (by kernel_rfl) (fun _ _ _ h => h) (Or.inl ⟨by kernel_rfl, by (intro W hS; go_simp; first | done | with_reducible rfl | rfl)⟩) ⟨_, _, _, by first | assumption | omega, hj120⟩ ?_
              (try simp only [Act.put, List.getElem_toArray, List.getElem_cons_zero, List.getElem_cons_succ, List.setIfInBounds_toArray, List.set_cons_zero, List.set_cons_succ])
              refine wpAnyH_take (i := 3) (v := .slice (some ⟨bl, 0, none⟩) n c) rfl (by kernel_rfl) (by kernel_rfl) (by kernel_rfl) (fun _ _ _ h => h) (Or.inl ⟨by kernel_rfl, by (intro W hS; obtain ⟨_, _, _, _, hS⟩ := hS; have y := hS.pb.box.cell 0; have yl := hS.pb.box.lt; go_simp; first | done | with_reducible rfl | rfl)⟩) ⟨_, _, _, by first | assumption | omega, hj120⟩ ?_
              (try simp only [Act.put, List.getElem_toArray, List.getElem_cons_zero, List.getElem_cons_succ, List.setIfInBounds_toArray, List.set_cons_zero, List.set_cons_succ])
              refine wpAnyH_take (i := 4) (v := .int .i64 (n : Int)) rfl (by kernel_rfl) (by kernel_rfl) (by kernel_rfl) (fun _ _ _ h => h) (Or.inl ⟨by kernel_rfl, by (intro W hS; go_simp; first | done | with_reducible rfl | rfl)⟩) ⟨_, _, _, by first | assumption | omega, hj120⟩ ?_
              (try simp only [Act.put, List.getElem_toArray, List.getElem_cons_zero, List.getElem_cons_succ, List.setIfInBounds_toArray, List.set_cons_zero, List.set_cons_succ])
              refine wpAnyH_take (i := 5) (v := .int .i64 (m : Int)) rfl (by kernel_rfl) (by kernel_rfl) (by kernel_rfl) (fun _ _ _ h => h) (Or.inl ⟨by kernel_rfl, by (intro W hS; go_simp; first | done | with_reducible rfl | rfl)⟩) ⟨_, _, _, by first | assumption | omega, hj120⟩ ?_
              (try simp only [Act.put, List.getElem_toArray, List.getElem_cons_zero, List.getElem_cons_succ, List.setIfInBounds_toArray, List.set_cons_zero, List.set_cons_succ])
              refine wpAnyH_take (i := 7) (v := .pointer (some ⟨g, 0, none⟩)) rfl (by kernel_rfl) (by kernel_rfl) (by kernel_rfl) (fun _ _ _ h => h) (Or.inl ⟨by kernel_rfl, by (intro W hS; go_simp; first | done | with_reducible rfl | rfl)⟩) ⟨_, _, _, by first | assumption | omega, hj120⟩ ?_
              (try simp only [Act.put, List.getElem_toArray, List.getElem_cons_zero, List.getElem_cons_succ, List.setIfInBounds_toArray, List.set_cons_zero, List.set_cons_succ])
              refine wpAnyH_ready (rs := [6, 8]) (by kernel_rfl) (by simp) ?_
              refine AllReadyH.cons rfl (fun K hK => ?_) ?_
              · go_simp
                have hq128 : Below v120.heap.size v120 (v120.alloc (.cells #[.int .i64 0, .int .i64 1000000, .int .i64 1000001] 3)) := (Below.refl _ _).alloc (Nat.le_refl _) _
                have hj128 := hj120.step hq128
                have hr128 : Row (v120.alloc (.cells #[.int .i64 0, .int .i64 1000000, .int .i64 1000001] 3)) v120.heap.size 3 [.int .i64 0, .int .i64 1000000, .int .i64 1000001] := Row.new _ _ _
                have hlo128 : w.heap.size + 2 ≤ v120.heap.size := hj120.pb.box.lt
                refine hK.out _ _ ⟨_, _, _, by first | assumption | omega, hj128⟩ (fun hHeld => ?_)
                clear hK K hHeld
                obtain ⟨blk128, hblk128⟩ : ∃ n, n = v120.heap.size := ⟨_, rfl⟩
                rw [← hblk128] at hr128 hlo128
                simp only [← hblk128]
                generalize v120.alloc _ = v128 at *
                clear hblk128
                refine wpAnyH_ready (rs := [8]) (by kernel_rfl) (by simp) ?_
                refine AllReadyH.cons rfl (fun K hK => ?_) AllReadyH.nil
                go_simp
                go_at_call 49
                refine (pick_any hj128.rd (n := 3) (by omega) (by omega) (by omega)).mono ?_
                rintro e v129 ⟨r129, rfl, hlt129, hr129, hg129⟩
                have hj129 := hj128.pick hlg hr129 hg129
                have hr128129 := hr128.grown hg129 (fun e => by injection e with e; omega)
                clear hr129 hg129
                try go_simp
                refine hK.out _ _ ⟨_, _, _, by first | assumption | omega, hj129⟩ (fun hHeld => ?_)
                clear hK K hHeld
                have ra130 : ((r129 : Nat) : Int) < 3 := by omega
                refine' wpAnyH_take (i := 9) (v := _) rfl (by kernel_rfl) (by kernel_rfl) (by kernel_rfl) (fun _ _ _ h => h) (Or.inl ⟨by kernel_rfl, by (intro W hS; go_simp; first | done | with_reducible rfl | rfl)⟩) ⟨_, _, _, by first | assumption | omega, hj129⟩ ?_
                (try simp only [Act.put, List.getElem_toArray, List.getElem_cons_zero, List.getElem_cons_succ, List.setIfInBounds_toArray, List.set_cons_zero, List.set_cons_succ])
                refine wpAnyH_ready (rs := [10]) (by kernel_rfl) (by simp) ?_
                refine AllReadyH.cons rfl (fun K hK => ?_) AllReadyH.nil
                obtain ⟨v131, hv131, hb131⟩ := list_pick [0, 1000000, 1000001] r129 (by simpa using ‹_›) (by decide)
                have yc131 := (hr128129.cell r129).trans hv131
                have yl131 := hr128129.lt
                go_simp
                refine hK.out _ _ ⟨_, _, _, by first | assumption | omega, hj129⟩ (fun hHeld => ?_)
                clear hK K hHeld
                refine' wpAnyH_take (i := 11) (v := _) rfl (by kernel_rfl) (by kernel_rfl) (by kernel_rfl) (fun _ _ _ h => h) (Or.inl ⟨by kernel_rfl, by (intro W hS; go_simp; first | done | with_reducible rfl | rfl)⟩) ⟨_, _, _, by first | assumption | omega, hj129⟩ ?_
                (try simp only [Act.put, List.getElem_toArray, List.getElem_cons_zero, List.getElem_cons_succ, List.setIfInBounds_toArray, List.set_cons_zero, List.set_cons_succ])
                refine' wpAnyH_take (i := 12) (v := _) rfl (by kernel_rfl) (by kernel_rfl) (by kernel_rfl) (fun _ _ _ h => h) (Or.inl ⟨by kernel_rfl, by (intro W hS; go_simp; first | done | with_reducible rfl | rfl)⟩) ⟨_, _, _, by first | assumption | omega, hj129⟩ ?_
                (try simp only [Act.put, List.getElem_toArray, List.getElem_cons_zero, List.getElem_cons_succ, List.setIfInBounds_toArray, List.set_cons_zero, List.set_cons_succ])
                refine wpAnyH_ready (rs := [13]) (by kernel_rfl) (by simp) ?_
                refine AllReadyH.cons rfl (fun K hK => ?_) AllReadyH.nil
                obtain ⟨hlb, hlt, hcell⟩ := hj129.slot (by omega)
                obtain ⟨⟨x0, yx, -⟩, yf⟩ := hcell (m * 4 + 2) (by omega)
                obtain ⟨ps134, us134, hps134, hj134⟩ := hj129.part hlg (m * 4 + 2) (by omega) v131 (WalkArith.wf_i64 (by omega))
                go_simp
                refine hK.out _ _ ⟨_, _, _, by omega, hj134⟩ (fun hHeld => ?_)
                clear hK K hHeld
                refine wpAnyH_done (by kernel_rfl) ?_ _
                go_wp2_with fail
                go_meet
                exact ⟨_, _, _, by first | assumption | omega, by omega, hj134⟩
              refine AllReadyH.cons rfl (fun K hK => ?_) AllReadyH.nil
              · go_simp
                go_at_call 49
                refine (pick_any hj120.rd (n := 3) (by omega) (by omega) (by omega)).mono ?_
                rintro e v135 ⟨r135, rfl, hlt135, hr135, hg135⟩
                have hj135 := hj120.pick hlg hr135 hg135
                clear hr135 hg135
                try go_simp
                refine hK.out _ _ ⟨_, _, _, by first | assumption | omega, hj135⟩ (fun hHeld => ?_)
                clear hK K hHeld
                refine wpAnyH_ready (rs := [6]) (by kernel_rfl) (by simp) ?_
                refine AllReadyH.cons rfl (fun K hK => ?_) AllReadyH.nil
                go_simp
                have hq136 : Below v135.heap.size v135 (v135.alloc (.cells #[.int .i64 0, .int .i64 1000000, .int .i64 1000001] 3)) := (Below.refl _ _).alloc (Nat.le_refl _) _
                have hj136 := hj135.step hq136
                have hr136 : Row (v135.alloc (.cells #[.int .i64 0, .int .i64 1000000, .int .i64 1000001] 3)) v135.heap.size 3 [.int .i64 0, .int .i64 1000000, .int .i64 1000001] := Row.new _ _ _
                have hlo136 : w.heap.size + 2 ≤ v135.heap.size := hj135.pb.box.lt
                refine hK.out _ _ ⟨_, _, _, by first | assumption | omega, hj136⟩ (fun hHeld => ?_)
                clear hK K hHeld
                obtain ⟨blk136, hblk136⟩ : ∃ n, n = v135.heap.size := ⟨_, rfl⟩
                rw [← hblk136] at hr136 hlo136
                simp only [← hblk136]
                generalize v135.alloc _ = v136 at *
                clear hblk136
                have ra137 : ((r135 : Nat) : Int) < 3 := by omega
                refine' wpAnyH_take (i := 9) (v := _) rfl (by kernel_rfl) (by kernel_rfl) (by kernel_rfl) (fun _ _ _ h => h) (Or.inl ⟨by kernel_rfl, by (intro W hS; go_simp; first | done | with_reducible rfl | rfl)⟩) ⟨_, _, _, by first | assumption | omega, hj136⟩ ?_
                (try simp only [Act.put, List.getElem_toArray, List.getElem_cons_zero, List.getElem_cons_succ, List.setIfInBounds_toArray, List.set_cons_zero, List.set_cons_succ])
                refine wpAnyH_ready (rs := [10]) (by kernel_rfl) (by simp) ?_
                refine AllReadyH.cons rfl (fun K hK => ?_) AllReadyH.nil
                obtain ⟨v138, hv138, hb138⟩ := list_pick [0, 1000000, 1000001] r135 (by simpa using ‹_›) (by decide)
                have yc138 := (hr136.cell r135).trans hv138
                have yl138 := hr136.lt
                go_simp
                refine hK.out _ _ ⟨_, _, _, by first | assumption | omega, hj136⟩ (fun hHeld => ?_)
                clear hK K hHeld
                refine' wpAnyH_take (i := 11) (v := _) rfl (by kernel_rfl) (by kernel_rfl) (by kernel_rfl) (fun _ _ _ h => h) (Or.inl ⟨by kernel_rfl, by (intro W hS; go_simp; first | done | with_reducible rfl | rfl)⟩) ⟨_, _, _, by first | assumption | omega, hj136⟩ ?_
                (try simp only [Act.put, List.getElem_toArray, List.getElem_cons_zero, List.getElem_cons_succ, List.setIfInBounds_toArray, List.set_cons_zero, List.set_cons_succ])
                refine' wpAnyH_take (i := 12) (v := _) rfl (by kernel_rfl) (by kernel_rfl) (by kernel_rfl) (fun _ _ _ h => h) (Or.inl ⟨by kernel_rfl, by (intro W hS; go_simp; first | done | with_reducible rfl | rfl)⟩) ⟨_, _, _, by first | assumption | omega, hj136⟩ ?_
                (try simp only [Act.put, List.getElem_toArray, List.getElem_cons_zero, List.getElem_cons_succ, List.setIfInBounds_toArray, List.set_cons_zero, List.set_cons_succ])
                refine wpAnyH_ready (rs := [13]) (by kernel_rfl) (by simp) ?_
                refine AllReadyH.cons rfl (fun K hK => ?_) AllReadyH.nil
                obtain ⟨hlb, hlt, hcell⟩ := hj136.slot (by omega)
                obtain ⟨⟨x0, yx, -⟩, yf⟩ := hcell (m * 4 + 2) (by omega)
                obtain ⟨ps141, us141, hps141, hj141⟩ := hj136.part hlg (m * 4 + 2) (by omega) v138 (WalkArith.wf_i64 (by omega))
                go_simp
                refine hK.out _ _ ⟨_, _, _, by omega, hj141⟩ (fun hHeld => ?_)
                clear hK K hHeld
                refine wpAnyH_done (by kernel_rfl) ?_ _
                go_wp2_with fail
                go_meet
                exact ⟨_, _, _, by first | assumption | omega, by omega, hj141⟩
            case rest =>
              clear HPB
              obtain ⟨k9, ps9, us9, hl9, hk9, hj9⟩ := hcut
              have HPB := hide hj9
              clear hj9
              obtain ⟨hlb, hlt, hcell⟩ := HPB.out.slot (by omega)
              obtain ⟨⟨xv, yx, hwx⟩, yf⟩ := hcell (m * 4 + 2) (by omega)
              have x0 := HPB.out.pb.box.cell 0
              have x1 := HPB.out.pb.box.cell 1
              have x2 := HPB.out.pb.box.cell 2
              have xl := HPB.out.pb.box.lt
              have v0 := HPB.out.pb.box.frozen 0
              have v1 := HPB.out.pb.box.frozen 1
              have v2 := HPB.out.pb.box.frozen 2
              go_upto_region 29 with fail
              have HPC := hide (HPB.out.putFi hlg xv)
              clear x0 x1 x2 xl v0 v1 v2
              clear HPB
              generalize (World.setCell _ _ _) = w11 at HPC ⊢
              have HPB := HPC
              clear HPC hwf yx yf hcell
              have hwf := hwx
              obtain ⟨fi, rfl⟩ : ∃ o, o = xv := ⟨_, rfl⟩
              obtain ⟨A, hA⟩ : ∃ A : Option Addr, A = some ⟨bl, 0, none⟩ := ⟨_, rfl⟩
              rw [← hA] at HPB
              clear hA
              have z0 := HPB.out.z.cell 0
              have z1 := HPB.out.z.cell 1
              have z2 := HPB.out.z.cell 2
              have y0 := HPB.out.z.frozen 0
              have y1 := HPB.out.z.frozen 1
              have y2 := HPB.out.z.frozen 2
              have zl := HPB.out.z.lt
              have x0 := HPB.out.pb.box.cell 0
              have x1 := HPB.out.pb.box.cell 1
              have x2 := HPB.out.pb.box.cell 2
              have xl := HPB.out.pb.box.lt
              go_wp2
              refine bodyPost_ret (ret_row rfl _ _ w.heap.size 24 [.slice A n c, .int .i64 op, .int .i64 fi] (HPB.out.z.setAll [.slice A n c, .int .i64 op, .int .i64 fi] rfl) _ rfl Tryd.underlying24 rfl (by kernel_rfl)) rfl ?_
              exact HPB.out.out hlg (setN_grown [.slice A n c, .int .i64 op, .int .i64 fi] 0 (grown_refl _ (some w.heap.size))) (by omega) hwo hwf (by omega)
          · have hzI : ¬ ((0 : Int) < (n : Int)) := by omega
            clear hop
            exfalso
            omega
        have m3 : ¬ ((r : Int) = 3) := by omega
        have n3 : ((r : Int) == 3) = false := beq_eq_false_iff_ne.2 (by omega)
        by_cases e4 : r = 4
        · subst e4
          by_cases hz : 1 < n
          · have hzI : (1 : Int) < (n : Int) := by omega
            clear hop
            obtain ⟨bl, eA, -⟩ := parts_cell HPB.out.pb.own (by omega)
            subst eA
            obtain ⟨fi, hfi⟩ : ∃ o : Int, o = (f : Int) := ⟨_, rfl⟩
            rw [← hfi] at HPB
            have hwf : (Lit.int .i64 fi).wf = true := WalkArith.wf_i64 (by omega)
            clear hfi
            have x0 := HPB.out.pb.box.cell 0
            have x1 := HPB.out.pb.box.cell 1
            have x2 := HPB.out.pb.box.cell 2
            have xl := HPB.out.pb.box.lt
            have v0 := HPB.out.pb.box.frozen 0
            have v1 := HPB.out.pb.box.frozen 1
            have v2 := HPB.out.pb.box.frozen 2
            go_upto_region 28 with fail
            clear x0 x1 x2 xl v0 v1 v2
            go_wp2_with fail
            have hj171 := HPB.out.step (w' := w9.drew) (below_drewN (Below.refl _ _) 1)
            refine wp_region_held_drew (S := fun W => ∃ k' ps' us', ps'.length = n ∧ PlB w W g L k' ps' op fi (some ⟨bl, 0, none⟩) n c us') (by kernel_rfl) ⟨_, _, _, by first | assumption | omega, hj171⟩ (fun _ => ?_)
            generalize w9.drew = v171 at *
            refine wpAnyH_take (i := 0) (v := .pointer (some ⟨w.heap.size + 1, 0, none⟩)) rfl (by kernel_rfl) (by kernel_rfl) (by kernel_rfl) (fun _ _ _ h => h) (Or.inl ⟨by kernel_rfl, by (intro W hS; go_simp; first | done | with_reducible rfl | rfl)⟩) ⟨_, _, _, by first | assumption | omega, hj171⟩ ?_
            (try simp only [Act.put, List.getElem_toArray, List.getElem_cons_zero, List.getElem_cons_succ, List.setIfInBounds_toArray, List.set_cons_zero, List.set_cons_succ])
            refine wpAnyH_take (i := 1) (v := .slice (some ⟨bl, 0, none⟩) n c) rfl (by kernel_rfl) (by kernel_rfl) (by kernel_rfl) (fun _ _ _ h => h) (Or.inl ⟨by kernel_rfl, by (intro W hS; obtain ⟨_, _, _, _, hS⟩ := hS; have y := hS.pb.box.cell 0; have yl := hS.pb.box.lt; go_simp; first | done | with_reducible rfl | rfl)⟩) ⟨_, _, _, by first | assumption | omega, hj171⟩ ?_
            (try simp only [Act.put, List.getElem_toArray, List.getElem_cons_zero, List.getElem_cons_succ, List.setIfInBounds_toArray, List.set_cons_zero, List.set_cons_succ])
            refine wpAnyH_take (i := 2) (v := .pointer (some ⟨w.heap.size + 1, 0, none⟩)) rfl (by kernel_rfl) (by kernel_rfl) (by kernel_rfl) (fun _ _ _ h => h) (Or.inl ⟨by kernel_rfl, by (intro W hS; go_simp; first | done | with_reducible rfl | rfl)⟩) ⟨_, _, _, by first | assumption | omega, hj171⟩ ?_
            (try simp only [Act.put, List.getElem_toArray, List.getElem_cons_zero, List.getElem_cons_succ, List.setIfInBounds_toArray, List.set_cons_zero, List.set_cons_succ])
            refine wpAnyH_take (i := 3) (v := .slice (some ⟨bl, 0, none⟩) n c) rfl (by kernel_rfl) (by kernel_rfl) (by kernel_rfl) (fun _ _ _ h => h) (Or.inl ⟨by kernel_rfl, by (intro W hS; obtain ⟨_, _, _, _, hS⟩ := hS; have y := hS.pb.box.cell 0; have yl := hS.pb.box.lt; go_simp; first | done | with_reducible rfl | rfl)⟩) ⟨_, _, _, by first | assumption | omega, hj171⟩ ?_
            (try simp only [Act.put, List.getElem_toArray, List.getElem_cons_zero, List.getElem_cons_succ, List.setIfInBounds_toArray, List.set_cons_zero, List.set_cons_succ])
            have ra176 : 0 < n := by omega
            refine' wpAnyH_take (i := 4) (v := _) rfl (by kernel_rfl) (by kernel_rfl) (by kernel_rfl) (fun _ _ _ h => h) (Or.inl ⟨by kernel_rfl, by (intro W hS; go_simp; first | done | with_reducible rfl | rfl)⟩) ⟨_, _, _, by first | assumption | omega, hj171⟩ ?_
            (try simp only [Act.put, List.getElem_toArray, List.getElem_cons_zero, List.getElem_cons_succ, List.setIfInBounds_toArray, List.set_cons_zero, List.set_cons_succ])
            refine' wpAnyH_take (i := 5) (v := _) rfl (by kernel_rfl) (by kernel_rfl) (by kernel_rfl) (fun _ _ _ h => h) (Or.inl ⟨by kernel_rfl, by (intro W hS; go_simp; first | done | with_reducible rfl | rfl)⟩) ⟨_, _, _, by first | assumption | omega, hj171⟩ ?_
            (try simp only [Act.put, List.getElem_toArray, List.getElem_cons_zero, List.getElem_cons_succ, List.setIfInBounds_toArray, List.set_cons_zero, List.set_cons_succ])
            refine wpAnyH_ready (rs := [6]) (by kernel_rfl) (by simp) ?_
            refine AllReadyH.cons rfl (fun K hK => ?_) AllReadyH.nil
            obtain ⟨hlbx, hltx, hcellx⟩ := hj171.slot (by omega)
            obtain ⟨⟨v178, yv, hwv178⟩, yfv⟩ := hcellx 0 (by omega)
            go_simp
            refine hK.out _ _ ⟨_, _, _, by first | assumption | omega, hj171⟩ (fun hHeld => ?_)
            clear hK K hHeld
            refine' wpAnyH_take (i := 7) (v := _) rfl (by kernel_rfl) (by kernel_rfl) (by kernel_rfl) (fun _ _ _ h => h) (Or.inl ⟨by kernel_rfl, by (intro W hS; go_simp; first | done | with_reducible rfl | rfl)⟩) ⟨_, _, _, by first | assumption | omega, hj171⟩ ?_
            (try simp only [Act.put, List.getElem_toArray, List.getElem_cons_zero, List.getElem_cons_succ, List.setIfInBounds_toArray, List.set_cons_zero, List.set_cons_succ])
            refine' wpAnyH_take (i := 8) (v := _) rfl (by kernel_rfl) (by kernel_rfl) (by kernel_rfl) (fun _ _ _ h => h) (Or.inl ⟨by kernel_rfl, by (intro W hS; go_simp; first | done | with_reducible rfl | rfl)⟩) ⟨_, _, _, by first | assumption | omega, hj171⟩ ?_
            (try simp only [Act.put, List.getElem_toArray, List.getElem_cons_zero, List.getElem_cons_succ, List.setIfInBounds_toArray, List.set_cons_zero, List.set_cons_succ])
            refine wpAnyH_ready (rs := [9]) (by kernel_rfl) (by simp) ?_
            refine AllReadyH.cons rfl (fun K hK => ?_) AllReadyH.nil
            obtain ⟨hlb, hlt, hcell⟩ := hj171.slot (by omega)
            obtain ⟨⟨x0, yx, -⟩, yf⟩ := hcell (4) (by omega)
            obtain ⟨ps181, us181, hps181, hj181⟩ := hj171.part hlg (4) (by omega) v178 (‹_›)
            go_simp
            refine hK.out _ _ ⟨_, _, _, by omega, hj181⟩ (fun hHeld => ?_)
            clear hK K hHeld
            refine wpAnyH_done (by kernel_rfl) ?_ _
            have HPB9 := hide hj181
            clear HPB
            generalize (World.setCell _ _ _) = w11 at HPB9 ⊢
            have HPB := HPB9
            clear HPB9
            obtain ⟨A, hA⟩ : ∃ A : Option Addr, A = some ⟨bl, 0, none⟩ := ⟨_, rfl⟩
            rw [← hA] at HPB
            clear hA
            have x0 := HPB.out.pb.box.cell 0
            have x1 := HPB.out.pb.box.cell 1
            have x2 := HPB.out.pb.box.cell 2
            have xl := HPB.out.pb.box.lt
            have v0 := HPB.out.pb.box.frozen 0
            have v1 := HPB.out.pb.box.frozen 1
            have v2 := HPB.out.pb.box.frozen 2
            go_upto_region 29 with fail
            clear x0 x1 x2 xl v0 v1 v2
            have z0 := HPB.out.z.cell 0
            have z1 := HPB.out.z.cell 1
            have z2 := HPB.out.z.cell 2
            have y0 := HPB.out.z.frozen 0
            have y1 := HPB.out.z.frozen 1
            have y2 := HPB.out.z.frozen 2
            have zl := HPB.out.z.lt
            have x0 := HPB.out.pb.box.cell 0
            have x1 := HPB.out.pb.box.cell 1
            have x2 := HPB.out.pb.box.cell 2
            have xl := HPB.out.pb.box.lt
            go_wp2
            refine bodyPost_ret (ret_row rfl _ _ w.heap.size 24 [.slice A n c, .int .i64 op, .int .i64 fi] (HPB.out.z.setAll [.slice A n c, .int .i64 op, .int .i64 fi] rfl) _ rfl Tryd.underlying24 rfl (by kernel_rfl)) rfl ?_
            exact HPB.out.out hlg (setN_grown [.slice A n c, .int .i64 op, .int .i64 fi] 0 (grown_refl _ (some w.heap.size))) (by omega) hwo hwf (by omega)
          · have hzI : ¬ ((1 : Int) < (n : Int)) := by omega
            clear hop
            exfalso
            omega
        have m4 : ¬ ((r : Int) = 4) := by omega
        have n4 : ((r : Int) == 4) = false := beq_eq_false_iff_ne.2 (by omega)
        clear hop
        have x0 := HPB.out.pb.box.cell 0
        have x1 := HPB.out.pb.box.cell 1
        have x2 := HPB.out.pb.box.cell 2
        have xl := HPB.out.pb.box.lt
        have v0 := HPB.out.pb.box.frozen 0
        have v1 := HPB.out.pb.box.frozen 1
        have v2 := HPB.out.pb.box.frozen 2
        go_upto_region 29 with fail
        clear x0 x1 x2 xl v0 v1 v2
        obtain ⟨fi, hfi⟩ : ∃ o : Int, o = (f : Int) := ⟨_, rfl⟩
        rw [← hfi] at HPB
        have hwf : (Lit.int .i64 fi).wf = true := WalkArith.wf_i64 (by omega)
        clear hfi
        have z0 := HPB.out.z.cell 0
        have z1 := HPB.out.z.cell 1
        have z2 := HPB.out.z.cell 2
        have y0 := HPB.out.z.frozen 0
        have y1 := HPB.out.z.frozen 1
        have y2 := HPB.out.z.frozen 2
        have zl := HPB.out.z.lt
        have x0 := HPB.out.pb.box.cell 0
        have x1 := HPB.out.pb.box.cell 1
        have x2 := HPB.out.pb.box.cell 2
        have xl := HPB.out.pb.box.lt
        go_wp2
        refine bodyPost_ret (ret_row rfl _ _ w.heap.size 24 [.slice A n c, .int .i64 op, .int .i64 fi] (HPB.out.z.setAll [.slice A n c, .int .i64 op, .int .i64 fi] rfl) _ rfl Tryd.underlying24 rfl (by kernel_rfl)) rfl ?_
        exact HPB.out.out hlg (setN_grown [.slice A n c, .int .i64 op, .int .i64 fi] 0 (grown_refl _ (some w.heap.size))) (by omega) hwo hwf (by omega)
      · have hltI : (n : Int) < (40 + (q1 : Int)) := by omega
        go_upto_region 9 with fail
        go_cut [7] from 25 to 42 (fun xv wx => ∃ (xb m1 m2 k' : Nat), xv = .pointer (some ⟨xb, 0, none⟩) ∧ m1 ≤ 297 ∧ m2 ≤ 7821 ∧ k' ≤ k2 + 4 ∧ w.heap.size + 2 ≤ xb ∧ PlB w wx g L k' ps 0 (f : Int) A n c us ∧ Row wx xb 35 [.int .i64 (num : Int), .int .i64 (f : Int), .int .i64 ((f : Int) + (m1 : Int)), .int .i64 (m2 : Int)] ∧ (Value.slice A n c).ownBlock ≠ some xb)
        case first =>
          go_wp2_with fail
          have hj1 := HPB.out.step (w' := wr.drew) (below_drewN (Below.refl _ _) 1)
          refine wp_region_held_drew (S := fun W => ∃ k', PlB w W g L k' ps 0 (f : Int) A n c us) (by kernel_rfl) ⟨_, hj1⟩ (fun _ => ?_)
          generalize wr.drew = v1 at *
          refine wpAnyH_take (i := 0) (v := .int .i64 (num : Int)) rfl (by kernel_rfl) (by kernel_rfl) (by kernel_rfl) (fun _ _ _ h => h) (Or.inl ⟨by kernel_rfl, by (intro W hS; go_simp; first | done | with_reducible rfl | rfl)⟩) ⟨_, hj1⟩ ?_
          (try simp only [Act.put, List.getElem_toArray, List.getElem_cons_zero, List.getElem_cons_succ, List.setIfInBounds_toArray, List.set_cons_zero, List.set_cons_succ])
          refine wpAnyH_take (i := 1) (v := .pointer (some ⟨w.heap.size + 1, 2, none⟩)) rfl (by kernel_rfl) (by kernel_rfl) (by kernel_rfl) (fun _ _ _ h => h) (Or.inl ⟨by kernel_rfl, by (intro W hS; go_simp; first | done | with_reducible rfl | rfl)⟩) ⟨_, hj1⟩ ?_
          (try simp only [Act.put, List.getElem_toArray, List.getElem_cons_zero, List.getElem_cons_succ, List.setIfInBounds_toArray, List.set_cons_zero, List.set_cons_succ])
          refine wpAnyH_take (i := 2) (v := .int .i64 (f : Int)) rfl (by kernel_rfl) (by kernel_rfl) (by kernel_rfl) (fun _ _ _ h => h) (Or.inl ⟨by kernel_rfl, by (intro W hS; obtain ⟨_, hS⟩ := hS; have y := hS.pb.box.cell 2; have yl := hS.pb.box.lt; go_simp; first | done | with_reducible rfl | rfl)⟩) ⟨_, hj1⟩ ?_
          (try simp only [Act.put, List.getElem_toArray, List.getElem_cons_zero, List.getElem_cons_succ, List.setIfInBounds_toArray, List.set_cons_zero, List.set_cons_succ])
          refine wpAnyH_take (i := 3) (v := .pointer (some ⟨w.heap.size + 1, 2, none⟩)) rfl (by kernel_rfl) (by kernel_rfl) (by kernel_rfl) (fun _ _ _ h => h) (Or.inl ⟨by kernel_rfl, by (intro W hS; go_simp; first | done | with_reducible rfl | rfl)⟩) ⟨_, hj1⟩ ?_
          (try simp only [Act.put, List.getElem_toArray, List.getElem_cons_zero, List.getElem_cons_succ, List.setIfInBounds_toArray, List.set_cons_zero, List.set_cons_succ])
          refine wpAnyH_take (i := 4) (v := .int .i64 (f : Int)) rfl (by kernel_rfl) (by kernel_rfl) (by kernel_rfl) (fun _ _ _ h => h) (Or.inl ⟨by kernel_rfl, by (intro W hS; obtain ⟨_, hS⟩ := hS; have y := hS.pb.box.cell 2; have yl := hS.pb.box.lt; go_simp; first | done | with_reducible rfl | rfl)⟩) ⟨_, hj1⟩ ?_
          (try simp only [Act.put, List.getElem_toArray, List.getElem_cons_zero, List.getElem_cons_succ, List.setIfInBounds_toArray, List.set_cons_zero, List.set_cons_succ])
          refine wpAnyH_take (i := 5) (v := .pointer (some ⟨g, 0, none⟩)) rfl (by kernel_rfl) (by kernel_rfl) (by kernel_rfl) (fun _ _ _ h => h) (Or.inl ⟨by kernel_rfl, by (intro W hS; go_simp; first | done | with_reducible rfl | rfl)⟩) ⟨_, hj1⟩ ?_
          (try simp only [Act.put, List.getElem_toArray, List.getElem_cons_zero, List.getElem_cons_succ, List.setIfInBounds_toArray, List.set_cons_zero, List.set_cons_succ])
          refine wpAnyH_take (i := 7) (v := .pointer (some ⟨g, 0, none⟩)) rfl (by kernel_rfl) (by kernel_rfl) (by kernel_rfl) (fun _ _ _ h => h) (Or.inl ⟨by kernel_rfl, by (intro W hS; go_simp; first | done | with_reducible rfl | rfl)⟩) ⟨_, hj1⟩ ?_
          (try simp only [Act.put, List.getElem_toArray, List.getElem_cons_zero, List.getElem_cons_succ, List.setIfInBounds_toArray, List.set_cons_zero, List.set_cons_succ])
          refine wpAnyH_take (i := 11) (v := .pointer (some ⟨g, 0, none⟩)) rfl (by kernel_rfl) (by kernel_rfl) (by kernel_rfl) (fun _ _ _ h => h) (Or.inl ⟨by kernel_rfl, by (intro W hS; go_simp; first | done | with_reducible rfl | rfl)⟩) ⟨_, hj1⟩ ?_
          (try simp only [Act.put, List.getElem_toArray, List.getElem_cons_zero, List.getElem_cons_succ, List.setIfInBounds_toArray, List.set_cons_zero, List.set_cons_succ])
          refine wpAnyH_take (i := 13) (v := .pointer (some ⟨g, 0, none⟩)) rfl (by kernel_rfl) (by kernel_rfl) (by kernel_rfl) (fun _ _ _ h => h) (Or.inl ⟨by kernel_rfl, by (intro W hS; go_simp; first | done | with_reducible rfl | rfl)⟩) ⟨_, hj1⟩ ?_
          (try simp only [Act.put, List.getElem_toArray, List.getElem_cons_zero, List.getElem_cons_succ, List.setIfInBounds_toArray, List.set_cons_zero, List.set_cons_succ])
          refine wpAnyH_ready (rs := [6, 17]) (by kernel_rfl) (by simp) ?_
          refine AllReadyH.cons rfl (fun K hK => ?_) ?_
          · go_simp
            go_at_call 49
            refine (pick_any hj1.rd (n := 4) (by omega) (by omega) (by omega)).mono ?_
            rintro e v11 ⟨r11, rfl, hlt11, hr11, hg11⟩
            have hj11 := hj1.pick hlg hr11 hg11
            clear hr11 hg11
            try go_simp
            refine hK.out _ _ ⟨_, hj11⟩ (fun hHeld => ?_)
            clear hK K hHeld
            refine wpAnyH_ready (rs := [8, 17]) (by kernel_rfl) (by simp) ?_
            refine AllReadyH.cons rfl (fun K hK => ?_) ?_
            · go_simp
              go_at_call 49
              refine (pick_any hj11.rd (n := 100) (by omega) (by omega) (by omega)).mono ?_
              rintro e v12 ⟨r12, rfl, hlt12, hr12, hg12⟩
              have hj12 := hj11.pick hlg hr12 hg12
              clear hr12 hg12
              try go_simp
              refine hK.out _ _ ⟨_, hj12⟩ (fun hHeld => ?_)
              clear hK K hHeld
              obtain ⟨m113, hm113⟩ : ∃ m : Nat, r11 * r12 = m := ⟨_, rfl⟩
              have hm1b13 : m113 ≤ 297 := by rw [← hm113]; exact Nat.mul_le_mul (show r11 ≤ 3 by omega) (show r12 ≤ 99 by omega)
              have hm1e13 : ((r11 : Nat) : Int) * ((r12 : Nat) : Int) = ((m113 : Nat) : Int) := by rw [← hm113]; exact (Int.natCast_mul _ _).symm
              have hm1w13 : IntKind.i64.wrap (((r11 : Nat) : Int) * ((r12 : Nat) : Int)) = ((m113 : Nat) : Int) := by rw [hm1e13]; exact wrapI _ (by omega) (by omega)
              have hm1v13 : wrap64 (((r11 : Nat) : Int) * ((r12 : Nat) : Int)) = ((m113 : Nat) : Int) := by rw [hm1e13]; unfold wrap64; omega
              clear hm113 hm1e13
              refine wpAnyH_take (i := 9) (v := .int .i64 ((m113 : Nat) : Int)) rfl (by kernel_rfl) (by kernel_rfl) (by kernel_rfl) (fun _ _ _ h => h) (Or.inl ⟨by kernel_rfl, by (intro W hS; go_simp; first | done | with_reducible rfl | rfl)⟩) ⟨_, hj12⟩ ?_
              (try simp only [Act.put, List.getElem_toArray, List.getElem_cons_zero, List.getElem_cons_succ, List.setIfInBounds_toArray, List.set_cons_zero, List.set_cons_succ])
              clear hm1w13 hm1v13
              have haw14 : IntKind.i64.wrap ((f : Int) + ((m113 : Nat) : Int)) = (f : Int) + (m113 : Int) := wrapI _ (by omega) (by omega)
              have hav14 : wrap64 ((f : Int) + ((m113 : Nat) : Int)) = (f : Int) + (m113 : Int) := by unfold wrap64; omega
              refine wpAnyH_take (i := 10) (v := .int .i64 ((f : Int) + (m113 : Int))) rfl (by kernel_rfl) (by kernel_rfl) (by kernel_rfl) (fun _ _ _ h => h) (Or.inl ⟨by kernel_rfl, by (intro W hS; go_simp; first | done | with_reducible rfl | rfl)⟩) ⟨_, hj12⟩ ?_
              (try simp only [Act.put, List.getElem_toArray, List.getElem_cons_zero, List.getElem_cons_succ, List.setIfInBounds_toArray, List.set_cons_zero, List.set_cons_succ])
              clear haw14 hav14
              refine wpAnyH_ready (rs := [12, 17]) (by kernel_rfl) (by simp) ?_
              refine AllReadyH.cons rfl (fun K hK => ?_) ?_
              · go_simp
                go_at_call 49
                refine (pick_any hj12.rd (n := 100) (by omega) (by omega) (by omega)).mono ?_
                rintro e v15 ⟨r15, rfl, hlt15, hr15, hg15⟩
                have hj15 := hj12.pick hlg hr15 hg15
                clear hr15 hg15
                try go_simp
                refine hK.out _ _ ⟨_, hj15⟩ (fun hHeld => ?_)
                clear hK K hHeld
                refine wpAnyH_ready (rs := [14, 17]) (by kernel_rfl) (by simp) ?_
                refine AllReadyH.cons rfl (fun K hK => ?_) ?_
                · go_simp
                  go_at_call 49
                  refine (pick_any hj15.rd (n := 80) (by omega) (by omega) (by omega)).mono ?_
                  rintro e v16 ⟨r16, rfl, hlt16, hr16, hg16⟩
                  have hj16 := hj15.pick hlg hr16 hg16
                  clear hr16 hg16
                  try go_simp
                  refine hK.out _ _ ⟨_, hj16⟩ (fun hHeld => ?_)
                  clear hK K hHeld
                  obtain ⟨m217, hm217⟩ : ∃ m : Nat, r15 * r16 = m := ⟨_, rfl⟩
                  have hm2b17 : m217 ≤ 7821 := by rw [← hm217]; exact Nat.mul_le_mul (show r15 ≤ 99 by omega) (show r16 ≤ 79 by omega)
                  have hm2e17 : ((r15 : Nat) : Int) * ((r16 : Nat) : Int) = ((m217 : Nat) : Int) := by rw [← hm217]; exact (Int.natCast_mul _ _).symm
                  have hm2w17 : IntKind.i64.wrap (((r15 : Nat) : Int) * ((r16 : Nat) : Int)) = ((m217 : Nat) : Int) := by rw [hm2e17]; exact wrapI _ (by omega) (by omega)
                  have hm2v17 : wrap64 (((r15 : Nat) : Int) * ((r16 : Nat) : Int)) = ((m217 : Nat) : Int) := by rw [hm2e17]; unfold wrap64; omega
                  clear hm217 hm2e17
                  refine wpAnyH_take (i := 15) (v := .int .i64 ((m217 : Nat) : Int)) rfl (by kernel_rfl) (by kernel_rfl) (by kernel_rfl) (fun _ _ _ h => h) (Or.inl ⟨by kernel_rfl, by (intro W hS; go_simp; first | done | with_reducible rfl | rfl)⟩) ⟨_, hj16⟩ ?_
                  (try simp only [Act.put, List.getElem_toArray, List.getElem_cons_zero, List.getElem_cons_succ, List.setIfInBounds_toArray, List.set_cons_zero, List.set_cons_succ])
                  clear hm2w17 hm2v17
                  refine wpAnyH_take (i := 16) (v := .agg #[.int .i64 (num : Int), .int .i64 (f : Int), .int .i64 ((f : Int) + (m113 : Int)), .int .i64 (m217 : Int)]) rfl (by kernel_rfl) (by kernel_rfl) (by kernel_rfl) (fun _ _ _ h => h) (Or.inl ⟨by kernel_rfl, by (intro W hS; go_simp; first | done | with_reducible rfl | rfl)⟩) ⟨_, hj16⟩ ?_
                  (try simp only [Act.put, List.getElem_toArray, List.getElem_cons_zero, List.getElem_cons_succ, List.setIfInBounds_toArray, List.set_cons_zero, List.set_cons_succ])
                  refine wpAnyH_ready (rs := [17]) (by kernel_rfl) (by simp) ?_
                  refine AllReadyH.cons rfl (fun K hK => ?_) AllReadyH.nil
                  go_simp
                  have hq19 : Below v16.heap.size v16 (v16.alloc (.cells #[.int .i64 0, .int .i64 0, .int .i64 0, .int .i64 0] 35)) := (Below.refl _ _).alloc (Nat.le_refl _) _
                  have hj19 := hj16.step hq19
                  have hr19 : Row (v16.alloc (.cells #[.int .i64 0, .int .i64 0, .int .i64 0, .int .i64 0] 35)) v16.heap.size 35 [.int .i64 0, .int .i64 0, .int .i64 0, .int .i64 0] := Row.new _ _ _
                  have hlo19 : w.heap.size + 2 ≤ v16.heap.size := hj16.pb.box.lt
                  have hne19 : (Value.slice A n c).ownBlock ≠ some v16.heap.size := fun e => Nat.lt_irrefl _ (hj16.pb.own.lt _ e)
                  refine hK.out _ _ ⟨_, hj19⟩ (fun hHeld => ?_)
                  clear hK K hHeld
                  obtain ⟨blk19, hblk19⟩ : ∃ n, n = v16.heap.size := ⟨_, rfl⟩
                  rw [← hblk19] at hr19 hlo19 hne19
                  simp only [← hblk19]
                  generalize v16.alloc _ = v19 at *
                  clear hblk19
                  refine wpAnyH_ready (rs := [18]) (by kernel_rfl) (by simp) ?_
                  refine AllReadyH.cons rfl (fun K hK => ?_) AllReadyH.nil
                  have y0 := hr19.cell 0
                  have y1 := hr19.cell 1
                  have y2 := hr19.cell 2
                  have y3 := hr19.cell 3
                  have z0 := hr19.frozen 0
                  have z1 := hr19.frozen 1
                  have z2 := hr19.frozen 2
                  have z3 := hr19.frozen 3
                  have yl := hr19.lt
                  have hj1 := hj19.xput (b := blk19) (by omega) ‹_› hlg 0 (.int .i64 (num : Int))
                  have hj2 := hj1.xput (b := blk19) (by omega) ‹_› hlg 1 (.int .i64 (f : Int))
                  have hj3 := hj2.xput (b := blk19) (by omega) ‹_› hlg 2 (.int .i64 ((f : Int) + (m113 : Int)))
                  have hj20 := hj3.xput (b := blk19) (by omega) ‹_› hlg 3 (.int .i64 (m217 : Int))
                  have hx20 := hr19.setAll [.int .i64 (num : Int), .int .i64 (f : Int), .int .i64 ((f : Int) + (m113 : Int)), .int .i64 (m217 : Int)] rfl
                  go_simp
                  refine hK.out _ _ ⟨_, hj20⟩ (fun hHeld => ?_)
                  clear hK K hHeld
                  refine wpAnyH_done (by kernel_rfl) ?_ _
                  go_wp2_with fail
                  go_meet
                  exact ⟨blk19, m113, m217, _, rfl, by omega, by omega, by omega, by omega, hj20, hx20, ‹_›⟩
                refine AllReadyH.cons rfl (fun K hK => ?_) AllReadyH.nil
                · go_simp
                  have hq21 : Below v15.heap.size v15 (v15.alloc (.cells #[.int .i64 0, .int .i64 0, .int .i64 0, .int .i64 0] 35)) := (Below.refl _ _).alloc (Nat.le_refl _) _
                  have hj21 := hj15.step hq21
                  have hr21 : Row (v15.alloc (.cells #[.int .i64 0, .int .i64 0, .int .i64 0, .int .i64 0] 35)) v15.heap.size 35 [.int .i64 0, .int .i64 0, .int .i64 0, .int .i64 0] := Row.new _ _ _
                  have hlo21 : w.heap.size + 2 ≤ v15.heap.size := hj15.pb.box.lt
                  have hne21 : (Value.slice A n c).ownBlock ≠ some v15.heap.size := fun e => Nat.lt_irrefl _ (hj15.pb.own.lt _ e)
                  refine hK.out _ _ ⟨_, hj21⟩ (fun hHeld => ?_)
                  clear hK K hHeld
                  obtain ⟨blk21, hblk21⟩ : ∃ n, n = v15.heap.size := ⟨_, rfl⟩
                  rw [← hblk21] at hr21 hlo21 hne21
                  simp only [← hblk21]
                  generalize v15.alloc _ = v21 at *
                  clear hblk21
                  refine wpAnyH_ready (rs := [14]) (by kernel_rfl) (by simp) ?_
                  refine AllReadyH.cons rfl (fun K hK => ?_) AllReadyH.nil
                  go_simp
                  go_at_call 49
                  refine (pick_any hj21.rd (n := 80) (by omega) (by omega) (by omega)).mono ?_
                  rintro e v22 ⟨r22, rfl, hlt22, hr22, hg22⟩
                  have hj22 := hj21.pick hlg hr22 hg22
                  have hr2122 := hr21.grown hg22 (fun e => by injection e with e; omega)
                  clear hr22 hg22
                  try go_simp
                  refine hK.out _ _ ⟨_, hj22⟩ (fun hHeld => ?_)
                  clear hK K hHeld
                  obtain ⟨m223, hm223⟩ : ∃ m : Nat, r15 * r22 = m := ⟨_, rfl⟩
                  have hm2b23 : m223 ≤ 7821 := by rw [← hm223]; exact Nat.mul_le_mul (show r15 ≤ 99 by omega) (show r22 ≤ 79 by omega)
                  have hm2e23 : ((r15 : Nat) : Int) * ((r22 : Nat) : Int) = ((m223 : Nat) : Int) := by rw [← hm223]; exact (Int.natCast_mul _ _).symm
                  have hm2w23 : IntKind.i64.wrap (((r15 : Nat) : Int) * ((r22 : Nat) : Int)) = ((m223 : Nat) : Int) := by rw [hm2e23]; exact wrapI _ (by omega) (by omega)
                  have hm2v23 : wrap64 (((r15 : Nat) : Int) * ((r22 : Nat) : Int)) = ((m223 : Nat) : Int) := by rw [hm2e23]; unfold wrap64; omega
                  clear hm223 hm2e23
                  refine wpAnyH_take (i := 15) (v := .int .i64 ((m223 : Nat) : Int)) rfl (by kernel_rfl) (by kernel_rfl) (by kernel_rfl) (fun _ _ _ h => h) (Or.inl ⟨by kernel_rfl, by (intro W hS; go_simp; first | done | with_reducible rfl | rfl)⟩) ⟨_, hj22⟩ ?_
                  (try simp only [Act.put, List.getElem_toArray, List.getElem_cons_zero, List.getElem_cons_succ, List.setIfInBounds_toArray, List.set_cons_zero, List.set_cons_succ])
                  clear hm2w23 hm2v23
                  refine wpAnyH_take (i := 16) (v := .agg #[.int .i64 (num : Int), .int .i64 (f : Int), .int .i64 ((f : Int) + (m113 : Int)), .int .i64 (m223 : Int)]) rfl (by kernel_rfl) (by kernel_rfl) (by kernel_rfl) (fun _ _ _ h => h) (Or.inl ⟨by kernel_rfl, by (intro W hS; go_simp; first | done | with_reducible rfl | rfl)⟩) ⟨_, hj22⟩ ?_
                  (try simp only [Act.put, List.getElem_toArray, List.getElem_cons_zero, List.getElem_cons_succ, List.setIfInBounds_toArray, List.set_cons_zero, List.set_cons_succ])
                  refine wpAnyH_ready (rs := [18]) (by kernel_rfl) (by simp) ?_
                  refine AllReadyH.cons rfl (fun K hK => ?_) AllReadyH.nil
                  have y0 := hr2122.cell 0
                  have y1 := hr2122.cell 1
                  have y2 := hr2122.cell 2
                  have y3 := hr2122.cell 3
                  have z0 := hr2122.frozen 0
                  have z1 := hr2122.frozen 1
                  have z2 := hr2122.frozen 2
                  have z3 := hr2122.frozen 3
                  have yl := hr2122.lt
                  have hj1 := hj22.xput (b := blk21) (by omega) ‹_› hlg 0 (.int .i64 (num : Int))
                  have hj2 := hj1.xput (b := blk21) (by omega) ‹_› hlg 1 (.int .i64 (f : Int))
                  have hj3 := hj2.xput (b := blk21) (by omega) ‹_› hlg 2 (.int .i64 ((f : Int) + (m113 : Int)))
                  have hj25 := hj3.xput (b := blk21) (by omega) ‹_› hlg 3 (.int .i64 (m223 : Int))
                  have hx25 := hr2122.setAll [.int .i64 (num : Int), .int .i64 (f : Int), .int .i64 ((f : Int) + (m113 : Int)), .int .i64 (m223 : Int)] rfl
                  go_simp
                  refine hK.out _ _ ⟨_, hj25⟩ (fun hHeld => ?_)
                  clear hK K hHeld
                  refine wpAnyH_done (by kernel_rfl) ?_ _
                  go_wp2_with fail
                  go_meet
                  exact ⟨blk21, m113, m223, _, rfl, by omega, by omega, by omega, by omega, hj25, hx25, ‹_›⟩
              refine AllReadyH.cons rfl (fun K hK => ?_) AllReadyH.nil
              · go_simp
                have hq26 : Below v12.heap.size v12 (v12.alloc (.cells #[.int .i64 0, .int .i64 0, .int .i64 0, .int .i64 0] 35)) := (Below.refl _ _).alloc (Nat.le_refl _) _
                have hj26 := hj12.step hq26
                have hr26 : Row (v12.alloc (.cells #[.int .i64 0, .int .i64 0, .int .i64 0, .int .i64 0] 35)) v12.heap.size 35 [.int .i64 0, .int .i64 0, .int .i64 0, .int .i64 0] := Row.new _ _ _
                have hlo26 : w.heap.size + 2 ≤ v12.heap.size := hj12.pb.box.lt
                have hne26 : (Value.slice A n c).ownBlock ≠ some v12.heap.size := fun e => Nat.lt_irrefl _ (hj12.pb.own.lt _ e)
                refine hK.out _ _ ⟨_, hj26⟩ (fun hHeld => ?_)
                clear hK K hHeld
                obtain ⟨blk26, hblk26⟩ : ∃ n, n = v12.heap.size := ⟨_, rfl⟩
                rw [← hblk26] at hr26 hlo26 hne26
                simp only [← hblk26]
                generalize v12.alloc _ = v26 at *
                clear hblk26
                refine wpAnyH_ready (rs := [12]) (by kernel_rfl) (by simp) ?_
                refine AllReadyH.cons rfl (fun K hK => ?_) AllReadyH.nil
                go_simp
                go_at_call 49
                refine (pick_any hj26.rd (n := 100) (by omega) (by omega) (by omega)).mono ?_
                rintro e v27 ⟨r27, rfl, hlt27, hr27, hg27⟩
                have hj27 := hj26.pick hlg hr27 hg27
                have hr2627 := hr26.grown hg27 (fun e => by injection e with e; omega)
                clear hr27 hg27
                try go_simp
                refine hK.out _ _ ⟨_, hj27⟩ (fun hHeld => ?_)
                clear hK K hHeld
                refine wpAnyH_ready (rs := [14]) (by kernel_rfl) (by simp) ?_
                refine AllReadyH.cons rfl (fun K hK => ?_) AllReadyH.nil
                go_simp
                go_at_call 49
                refine (pick_any hj27.rd (n := 80) (by omega) (by omega) (by omega)).mono ?_
                rintro e v28 ⟨r28, rfl, hlt28, hr28, hg28⟩
                have hj28 := hj27.pick hlg hr28 hg28
                have hr262728 := hr2627.grown hg28 (fun e => by injection e with e; omega)
                clear hr28 hg28
                try go_simp
                refine hK.out _ _ ⟨_, hj28⟩ (fun hHeld => ?_)
                clear hK K hHeld
                obtain ⟨m229, hm229⟩ : ∃ m : Nat, r27 * r28 = m := ⟨_, rfl⟩
                have hm2b29 : m229 ≤ 7821 := by rw [← hm229]; exact Nat.mul_le_mul (show r27 ≤ 99 by omega) (show r28 ≤ 79 by omega)
                have hm2e29 : ((r27 : Nat) : Int) * ((r28 : Nat) : Int) = ((m229 : Nat) : Int) := by rw [← hm229]; exact (Int.natCast_mul _ _).symm
                have hm2w29 : IntKind.i64.wrap (((r27 : Nat) : Int) * ((r28 : Nat) : Int)) = ((m229 : Nat) : Int) := by rw [hm2e29]; exact wrapI _ (by omega) (by omega)
                have hm2v29 : wrap64 (((r27 : Nat) : Int) * ((r28 : Nat) : Int)) = ((m229 : Nat) : Int) := by rw [hm2e29]; unfold wrap64; omega
                clear hm229 hm2e29
                refine wpAnyH_take (i := 15) (v := .int .i64 ((m229 : Nat) : Int)) rfl (by kernel_rfl) (by kernel_rfl) (by kernel_rfl) (fun _ _ _ h => h) (Or.inl ⟨by kernel_rfl, by (intro W hS; go_simp; first | done | with_reducible rfl | rfl)⟩) ⟨_, hj28⟩ ?_
                (try simp only [Act.put, List.getElem_toArray, List.getElem_cons_zero, List.getElem_cons_succ, List.setIfInBounds_toArray, List.set_cons_zero, List.set_cons_succ])
                clear hm2w29 hm2v29
                refine wpAnyH_take (i := 16) (v := .agg #[.int .i64 (num : Int), .int .i64 (f : Int), .int .i64 ((f : Int) + (m113 : Int)), .int .i64 (m229 : Int)]) rfl (by kernel_rfl) (by kernel_rfl) (by kernel_rfl) (fun _ _ _ h => h) (Or.inl ⟨by kernel_rfl, by (intro W hS; go_simp; first | done | with_reducible rfl | rfl)⟩) ⟨_, hj28⟩ ?_
                (try simp only [Act.put, List.getElem_toArray, List.getElem_cons_zero, List.getElem_cons_succ, List.setIfInBounds_toArray, List.set_cons_zero, List.set_cons_succ])
                refine wpAnyH_ready (rs := [18]) (by kernel_rfl) (by simp) ?_
                refine AllReadyH.cons rfl (fun K hK => ?_) AllReadyH.nil
                have y0 := hr262728.cell 0
                have y1 := hr262728.cell 1
                have y2 := hr262728.cell 2
                have y3 := hr262728.cell 3
                have z0 := hr262728.frozen 0
                have z1 := hr262728.frozen 1
                have z2 := hr262728.frozen 2
                have z3 := hr262728.frozen 3
                have yl := hr262728.lt
                have hj1 := hj28.xput (b := blk26) (by omega) ‹_› hlg 0 (.int .i64 (num : Int))
                have hj2 := hj1.xput (b := blk26) (by omega) ‹_› hlg 1 (.int .i64 (f : Int))
                have hj3 := hj2.xput (b := blk26) (by omega) ‹_› hlg 2 (.int .i64 ((f : Int) + (m113 : Int)))
                have hj31 := hj3.xput (b := blk26) (by omega) ‹_› hlg 3 (.int .i64 (m229 : Int))
                have hx31 := hr262728.setAll [.int .i64 (num : Int), .int .i64 (f : Int), .int .i64 ((f : Int) + (m113 : Int)), .int .i64 (m229 : Int)] rfl
                go_simp
                refine hK.out _ _ ⟨_, hj31⟩ (fun hHeld => ?_)
                clear hK K hHeld
                refine wpAnyH_done (by kernel_rfl) ?_ _
                go_wp2_with fail
                go_meet
                exact ⟨blk26, m113, m229, _, rfl, by omega, by omega, by omega, by omega, hj31, hx31, ‹_›⟩
            refine AllReadyH.cons rfl (fun K hK => ?_) AllReadyH.nil
            · go_simp
              have hq32 : Below v11.heap.size v11 (v11.alloc (.cells #[.int .i64 0, .int .i64 0, .int .i64 0, .int .i64 0] 35)) := (Below.refl _ _).alloc (Nat.le_refl _) _
              have hj32 := hj11.step hq32
              have hr32 : Row (v11.alloc (.cells #[.int .i64 0, .int .i64 0, .int .i64 0, .int .i64 0] 35)) v11.heap.size 35 [.int .i64 0, .int .i64 0, .int .i64 0, .int .i64 0] := Row.new _ _ _
              have hlo32 : w.heap.size + 2 ≤ v11.heap.size := hj11.pb.box.lt
              have hne32 : (Value.slice A n c).ownBlock ≠ some v11.heap.size := fun e => Nat.lt_irrefl _ (hj11.pb.own.lt _ e)
              refine hK.out _ _ ⟨_, hj32⟩ (fun hHeld => ?_)
              clear hK K hHeld
              obtain ⟨blk32, hblk32⟩ : ∃ n, n = v11.heap.size := ⟨_, rfl⟩
              rw [← hblk32] at hr32 hlo32 hne32
              simp only [← hblk32]
              generalize v11.alloc _ = v32 at *
              clear hblk32
              refine wpAnyH_ready (rs := [8]) (by kernel_rfl) (by simp) ?_
              refine AllReadyH.cons rfl (fun K hK => ?_) AllReadyH.nil
              go_simp
              go_at_call 49
              refine (pick_any hj32.rd (n := 100) (by omega) (by omega) (by omega)).mono ?_
              rintro e v33 ⟨r33, rfl, hlt33, hr33, hg33⟩
              have hj33 := hj32.pick hlg hr33 hg33
              have hr3233 := hr32.grown hg33 (fun e => by injection e with e; omega)
              clear hr33 hg33
              try go_simp
              refine hK.out _ _ ⟨_, hj33⟩ (fun hHeld => ?_)
              clear hK K hHeld
              obtain ⟨m134, hm134⟩ : ∃ m : Nat, r11 * r33 = m := ⟨_, rfl⟩
              have hm1b34 : m134 ≤ 297 := by rw [← hm134]; exact Nat.mul_le_mul (show r11 ≤ 3 by omega) (show r33 ≤ 99 by omega)
              have hm1e34 : ((r11 : Nat) : Int) * ((r33 : Nat) : Int) = ((m134 : Nat) : Int) := by rw [← hm134]; exact (Int.natCast_mul _ _).symm
              have hm1w34 : IntKind.i64.wrap (((r11 : Nat) : Int) * ((r33 : Nat) : Int)) = ((m134 : Nat) : Int) := by rw [hm1e34]; exact wrapI _ (by omega) (by omega)
              have hm1v34 : wrap64 (((r11 : Nat) : Int) * ((r33 : Nat) : Int)) = ((m134 : Nat) : Int) := by rw [hm1e34]; unfold wrap64; omega
              clear hm134 hm1e34
              refine wpAnyH_take (i := 9) (v := .int .i64 ((m134 : Nat) : Int)) rfl (by kernel_rfl) (by kernel_rfl) (by kernel_rfl) (fun _ _ _ h => h) (Or.inl ⟨by kernel_rfl, by (intro W hS; go_simp; first | done | with_reducible rfl | rfl)⟩) ⟨_, hj33⟩ ?_
              (try simp only [Act.put, List.getElem_toArray, List.getElem_cons_zero, List.getElem_cons_succ, List.setIfInBounds_toArray, List.set_cons_zero, List.set_cons_succ])
              clear hm1w34 hm1v34
              have haw35 : IntKind.i64.wrap ((f : Int) + ((m134 : Nat) : Int)) = (f : Int) + (m134 : Int) := wrapI _ (by omega) (by omega)
              have hav35 : wrap64 ((f : Int) + ((m134 : Nat) : Int)) = (f : Int) + (m134 : Int) := by unfold wrap64; omega
              refine wpAnyH_take (i := 10) (v := .int .i64 ((f : Int) + (m134 : Int))) rfl (by kernel_rfl) (by kernel_rfl) (by kernel_rfl) (fun _ _ _ h => h) (Or.inl ⟨by kernel_rfl, by (intro W hS; go_simp; first | done | with_reducible rfl | rfl)⟩) ⟨_, hj33⟩ ?_
              (try simp only [Act.put, List.getElem_toArray, List.getElem_cons_zero, List.getElem_cons_succ, List.setIfInBounds_toArray, List.set_cons_zero, List.set_cons_succ])
              clear haw35 hav35
              refine wpAnyH_ready (rs := [12]) (by kernel_rfl) (by simp) ?_
              refine AllReadyH.cons rfl (fun K hK => ?_) AllReadyH.nil
              go_simp
              go_at_call 49
              refine (pick_any hj33.rd (n := 100) (by omega) (by omega) (by omega)).mono ?_
              rintro e v36 ⟨r36, rfl, hlt36, hr36, hg36⟩
              have hj36 := hj33.pick hlg hr36 hg36
              have hr323336 := hr3233.grown hg36 (fun e => by injection e with e; omega)
              clear hr36 hg36
              try go_simp
              refine hK.out _ _ ⟨_, hj36⟩ (fun hHeld => ?_)
              clear hK K hHeld
              refine wpAnyH_ready (rs := [14]) (by kernel_rfl) (by simp) ?_
              refine AllReadyH.cons rfl (fun K hK => ?_) AllReadyH.nil
              go_simp
              go_at_call 49
              refine (pick_any hj36.rd (n := 80) (by omega) (by omega) (by omega)).mono ?_
              rintro e v37 ⟨r37, rfl, hlt37, hr37, hg37⟩
              have hj37 := hj36.pick hlg hr37 hg37
              have hr32333637 := hr323336.grown hg37 (fun e => by injection e with e; omega)
              clear hr37 hg37
              try go_simp
              refine hK.out _ _ ⟨_, hj37⟩ (fun hHeld => ?_)
              clear hK K hHeld
              obtain ⟨m238, hm238⟩ : ∃ m : Nat, r36 * r37 = m := ⟨_, rfl⟩
              have hm2b38 : m238 ≤ 7821 := by rw [← hm238]; exact Nat.mul_le_mul (show r36 ≤ 99 by omega) (show r37 ≤ 79 by omega)
              have hm2e38 : ((r36 : Nat) : Int) * ((r37 : Nat) : Int) = ((m238 : Nat) : Int) := by rw [← hm238]; exact (Int.natCast_mul _ _).symm
              have hm2w38 : IntKind.i64.wrap (((r36 : Nat) : Int) * ((r37 : Nat) : Int)) = ((m238 : Nat) : Int) := by rw [hm2e38]; exact wrapI _ (by omega) (by omega)
              have hm2v38 : wrap64 (((r36 : Nat) : Int) * ((r37 : Nat) : Int)) = ((m238 : Nat) : Int) := by rw [hm2e38]; unfold wrap64; omega
              clear hm238 hm2e38
              refine wpAnyH_take (i := 15) (v := .int .i64 ((m238 : Nat) : Int)) rfl (by kernel_rfl) (by kernel_rfl) (by kernel_rfl) (fun _ _ _ h => h) (Or.inl ⟨by kernel_rfl, by (intro W hS; go_simp; first | done | with_reducible rfl | rfl)⟩) ⟨_, hj37⟩ ?_
              (try simp only [Act.put, List.getElem_toArray, List.getElem_cons_zero, List.getElem_cons_succ, List.setIfInBounds_toArray, List.set_cons_zero, List.set_cons_succ])
              clear hm2w38 hm2v38
              refine wpAnyH_take (i := 16) (v := .agg #[.int .i64 (num : Int), .int .i64 (f : Int), .int .i64 ((f : Int) + (m134 : Int)), .int .i64 (m238 : Int)]) rfl (by kernel_rfl) (by kernel_rfl) (by kernel_rfl) (fun _ _ _ h => h) (Or.inl ⟨by kernel_rfl, by (intro W hS; go_simp; first | done | with_reducible rfl | rfl)⟩) ⟨_, hj37⟩ ?_
              (try simp only [Act.put, List.getElem_toArray, List.getElem_cons_zero, List.getElem_cons_succ, List.setIfInBounds_toArray, List.set_cons_zero, List.set_cons_succ])
              refine wpAnyH_ready (rs := [18]) (by kernel_rfl) (by simp) ?_
              refine AllReadyH.cons rfl (fun K hK => ?_) AllReadyH.nil
              have y0 := hr32333637.cell 0
              have y1 := hr32333637.cell 1
              have y2 := hr32333637.cell 2
              have y3 := hr32333637.cell 3
              have z0 := hr32333637.frozen 0
              have z1 := hr32333637.frozen 1
              have z2 := hr32333637.frozen 2
              have z3 := hr32333637.frozen 3
              have yl := hr32333637.lt
              have hj1 := hj37.xput (b := blk32) (by omega) ‹_› hlg 0 (.int .i64 (num : Int))
              have hj2 := hj1.xput (b := blk32) (by omega) ‹_› hlg 1 (.int .i64 (f : Int))
              have hj3 := hj2.xput (b := blk32) (by omega) ‹_› hlg 2 (.int .i64 ((f : Int) + (m134 : Int)))
              have hj40 := hj3.xput (b := blk32) (by omega) ‹_› hlg 3 (.int .i64 (m238 : Int))
              have hx40 := hr32333637.setAll [.int .i64 (num : Int), .int .i64 (f : Int), .int .i64 ((f : Int) + (m134 : Int)), .int .i64 (m238 : Int)] rfl
              go_simp
              refine hK.out _ _ ⟨_, hj40⟩ (fun hHeld => ?_)
              clear hK K hHeld
              refine wpAnyH_done (by kernel_rfl) ?_ _
              go_wp2_with fail
              go_meet
              exact ⟨blk32, m134, m238, _, rfl, by omega, by omega, by omega, by omega, hj40, hx40, ‹_›⟩
          refine AllReadyH.cons rfl (fun K hK => ?_) AllReadyH.nil
          · go_simp
            have hq41 : Below v1.heap.size v1 (v1.alloc (.cells #[.int .i64 0, .int .i64 0, .int .i64 0, .int .i64 0] 35)) := (Below.refl _ _).alloc (Nat.le_refl _) _
            have hj41 := hj1.step hq41
            have hr41 : Row (v1.alloc (.cells #[.int .i64 0, .int .i64 0, .int .i64 0, .int .i64 0] 35)) v1.heap.size 35 [.int .i64 0, .int .i64 0, .int .i64 0, .int .i64 0] := Row.new _ _ _
            have hlo41 : w.heap.size + 2 ≤ v1.heap.size := hj1.pb.box.lt
            have hne41 : (Value.slice A n c).ownBlock ≠ some v1.heap.size := fun e => Nat.lt_irrefl _ (hj1.pb.own.lt _ e)
            refine hK.out _ _ ⟨_, hj41⟩ (fun hHeld => ?_)
            clear hK K hHeld
            obtain ⟨blk41, hblk41⟩ : ∃ n, n = v1.heap.size := ⟨_, rfl⟩
            rw [← hblk41] at hr41 hlo41 hne41
            simp only [← hblk41]
            generalize v1.alloc _ = v41 at *
            clear hblk41
            refine wpAnyH_ready (rs := [6]) (by kernel_rfl) (by simp) ?_
            refine AllReadyH.cons rfl (fun K hK => ?_) AllReadyH.nil
            go_simp
            go_at_call 49
            refine (pick_any hj41.rd (n := 4) (by omega) (by omega) (by omega)).mono ?_
            rintro e v42 ⟨r42, rfl, hlt42, hr42, hg42⟩
            have hj42 := hj41.pick hlg hr42 hg42
            have hr4142 := hr41.grown hg42 (fun e => by injection e with e; omega)
            clear hr42 hg42
            try go_simp
            refine hK.out _ _ ⟨_, hj42⟩ (fun hHeld => ?_)
            clear hK K hHeld
            refine wpAnyH_ready (rs := [8]) (by kernel_rfl) (by simp) ?_
            refine AllReadyH.cons rfl (fun K hK => ?_) AllReadyH.nil
            go_simp
            go_at_call 49
            refine (pick_any hj42.rd (n := 100) (by omega) (by omega) (by omega)).mono ?_
            rintro e v43 ⟨r43, rfl, hlt43, hr43, hg43⟩
            have hj43 := hj42.pick hlg hr43 hg43
            have hr414243 := hr4142.grown hg43 (fun e => by injection e with e; omega)
            clear hr43 hg43
            try go_simp
            refine hK.out _ _ ⟨_, hj43⟩ (fun hHeld => ?_)
            clear hK K hHeld
            obtain ⟨m144, hm144⟩ : ∃ m : Nat, r42 * r43 = m := ⟨_, rfl⟩
            have hm1b44 : m144 ≤ 297 := by rw [← hm144]; exact Nat.mul_le_mul (show r42 ≤ 3 by omega) (show r43 ≤ 99 by omega)
            have hm1e44 : ((r42 : Nat) : Int) * ((r43 : Nat) : Int) = ((m144 : Nat) : Int) := by rw [← hm144]; exact (Int.natCast_mul _ _).symm
            have hm1w44 : IntKind.i64.wrap (((r42 : Nat) : Int) * ((r43 : Nat) : Int)) = ((m144 : Nat) : Int) := by rw [hm1e44]; exact wrapI _ (by omega) (by omega)
            have hm1v44 : wrap64 (((r42 : Nat) : Int) * ((r43 : Nat) : Int)) = ((m144 : Nat) : Int) := by rw [hm1e44]; unfold wrap64; omega
            clear hm144 hm1e44
            refine wpAnyH_take (i := 9) (v := .int .i64 ((m144 : Nat) : Int)) rfl (by kernel_rfl) (by kernel_rfl) (by kernel_rfl) (fun _ _ _ h => h) (Or.inl ⟨by kernel_rfl, by (intro W hS; go_simp; first | done | with_reducible rfl | rfl)⟩) ⟨_, hj43⟩ ?_
            (try simp only [Act.put, List.getElem_toArray, List.getElem_cons_zero, List.getElem_cons_succ, List.setIfInBounds_toArray, List.set_cons_zero, List.set_cons_succ])
            clear hm1w44 hm1v44
            have haw45 : IntKind.i64.wrap ((f : Int) + ((m144 : Nat) : Int)) = (f : Int) + (m144 : Int) := wrapI _ (by omega) (by omega)
            have hav45 : wrap64 ((f : Int) + ((m144 : Nat) : Int)) = (f : Int) + (m144 : Int) := by unfold wrap64; omega
            refine wpAnyH_take (i := 10) (v := .int .i64 ((f : Int) + (m144 : Int))) rfl (by kernel_rfl) (by kernel_rfl) (by kernel_rfl) (fun _ _ _ h => h) (Or.inl ⟨by kernel_rfl, by (intro W hS; go_simp; first | done | with_reducible rfl | rfl)⟩) ⟨_, hj43⟩ ?_
            (try simp only [Act.put, List.getElem_toArray, List.getElem_cons_zero, List.getElem_cons_succ, List.setIfInBounds_toArray, List.set_cons_zero, List.set_cons_succ])
            clear haw45 hav45
            refine wpAnyH_ready (rs := [12]) (by kernel_rfl) (by simp) ?_
            refine AllReadyH.cons rfl (fun K hK => ?_) AllReadyH.nil
            go_simp
            go_at_call 49
            refine (pick_any hj43.rd (n := 100) (by omega) (by omega) (by omega)).mono ?_
            rintro e v46 ⟨r46, rfl, hlt46, hr46, hg46⟩
            have hj46 := hj43.pick hlg hr46 hg46
            have hr41424346 := hr414243.grown hg46 (fun e => by injection e with e; omega)
            clear hr46 hg46
            try go_simp
            refine hK.out _ _ ⟨_, hj46⟩ (fun hHeld => ?_)
            clear hK K hHeld
            refine wpAnyH_ready (rs := [14]) (by kernel_rfl) (by simp) ?_
            refine AllReadyH.cons rfl (fun K hK => ?_) AllReadyH.nil
            go_simp
            go_at_call 49
            refine (pick_any hj46.rd (n := 80) (by omega) (by omega) (by omega)).mono ?_
            rintro e v47 ⟨r47, rfl, hlt47, hr47, hg47⟩
            have hj47 := hj46.pick hlg hr47 hg47
            have hr4142434647 := hr41424346.grown hg47 (fun e => by injection e with e; omega)
            clear hr47 hg47
            try go_simp
            refine hK.out _ _ ⟨_, hj47⟩ (fun hHeld => ?_)
            clear hK K hHeld
            obtain ⟨m248, hm248⟩ : ∃ m : Nat, r46 * r47 = m := ⟨_, rfl⟩
            have hm2b48 : m248 ≤ 7821 := by rw [← hm248]; exact Nat.mul_le_mul (show r46 ≤ 99 by omega) (show r47 ≤ 79 by omega)
            have hm2e48 : ((r46 : Nat) : Int) * ((r47 : Nat) : Int) = ((m248 : Nat) : Int) := by rw [← hm248]; exact (Int.natCast_mul _ _).symm
            have hm2w48 : IntKind.i64.wrap (((r46 : Nat) : Int) * ((r47 : Nat) : Int)) = ((m248 : Nat) : Int) := by rw [hm2e48]; exact wrapI _ (by omega) (by omega)
            have hm2v48 : wrap64 (((r46 : Nat) : Int) * ((r47 : Nat) : Int)) = ((m248 : Nat) : Int) := by rw [hm2e48]; unfold wrap64; omega
            clear hm248 hm2e48
            refine wpAnyH_take (i := 15) (v := .int .i64 ((m248 : Nat) : Int)) rfl (by kernel_rfl) (by kernel_rfl) (by kernel_rfl) (fun _ _ _ h => h) (Or.inl ⟨by kernel_rfl, by (intro W hS; go_simp; first | done | with_reducible rfl | rfl)⟩) ⟨_, hj47⟩ ?_
            (try simp only [Act.put, List.getElem_toArray, List.getElem_cons_zero, List.getElem_cons_succ, List.setIfInBounds_toArray, List.set_cons_zero, List.set_cons_succ])
            clear hm2w48 hm2v48
            refine wpAnyH_take (i := 16) (v := .agg #[.int .i64 (num : Int), .int .i64 (f : Int), .int .i64 ((f : Int) + (m144 : Int)), .int .i64 (m248 : Int)]) rfl (by kernel_rfl) (by kernel_rfl) (by kernel_rfl) (fun _ _ _ h => h) (Or.inl ⟨by kernel_rfl, by (intro W hS; go_simp; first | done | with_reducible rfl | rfl)⟩) ⟨_, hj47⟩ ?_
            (try simp only [Act.put, List.getElem_toArray, List.getElem_cons_zero, List.getElem_cons_succ, List.setIfInBounds_toArray, List.set_cons_zero, List.set_cons_succ])
            refine wpAnyH_ready (rs := [18]) (by kernel_rfl) (by simp) ?_
            refine AllReadyH.cons rfl (fun K hK => ?_) AllReadyH.nil
            have y0 := hr4142434647.cell 0
            have y1 := hr4142434647.cell 1
            have y2 := hr4142434647.cell 2
            have y3 := hr4142434647.cell 3
            have z0 := hr4142434647.frozen 0
            have z1 := hr4142434647.frozen 1
            have z2 := hr4142434647.frozen 2
            have z3 := hr4142434647.frozen 3
            have yl := hr4142434647.lt
            have hj1 := hj47.xput (b := blk41) (by omega) ‹_› hlg 0 (.int .i64 (num : Int))
            have hj2 := hj1.xput (b := blk41) (by omega) ‹_› hlg 1 (.int .i64 (f : Int))
            have hj3 := hj2.xput (b := blk41) (by omega) ‹_› hlg 2 (.int .i64 ((f : Int) + (m144 : Int)))
            have hj50 := hj3.xput (b := blk41) (by omega) ‹_› hlg 3 (.int .i64 (m248 : Int))
            have hx50 := hr4142434647.setAll [.int .i64 (num : Int), .int .i64 (f : Int), .int .i64 ((f : Int) + (m144 : Int)), .int .i64 (m248 : Int)] rfl
            go_simp
            refine hK.out _ _ ⟨_, hj50⟩ (fun hHeld => ?_)
            clear hK K hHeld
            refine wpAnyH_done (by kernel_rfl) ?_ _
            go_wp2_with fail
            go_meet
            exact ⟨blk41, m144, m248, _, rfl, by omega, by omega, by omega, by omega, hj50, hx50, ‹_›⟩
        case rest =>
          obtain ⟨xb, m1, m2, k3, rfl, hm1, hm2, hk3, hxb, hj, hx, hne⟩ := hcut
          have HPA := hide hj
          have HXB := hide hx
          clear hj hx HPB
          have HPB := HPA
          clear HPA
          have HXNE := hne
          clear hne
          have hw0 : (Lit.int .i64 (num : Int)).wf = true := WalkArith.wf_i64 (by omega)
          have hw1 : (Lit.int .i64 (f : Int)).wf = true := WalkArith.wf_i64 (by omega)
          have hw2 : (Lit.int .i64 ((f : Int) + (m1 : Int))).wf = true := WalkArith.wf_i64 (by omega)
          have hw3 : (Lit.int .i64 (m2 : Int)).wf = true := WalkArith.wf_i64 (by omega)
          have HD := hide (fun W => part_src ⟨(num : Int), (f : Int), (f : Int) + (m1 : Int), (m2 : Int)⟩ hw0 hw1 hw2 hw3 W)
          clear hw0 hw1 hw2 hw3
          have HSA := hide (HPB.out.pb.own.alloc (.cells #[.int .i64 (num : Int), .int .i64 (f : Int), .int .i64 ((f : Int) + (m1 : Int)), .int .i64 (m2 : Int)] 35))
          have HSZ := hide (show w.heap.size + 2 ≤ (wc.alloc (.cells #[.int .i64 (num : Int), .int .i64 (f : Int), .int .i64 ((f : Int) + (m1 : Int)), .int .i64 (m2 : Int)] 35)).heap.size by rw [World.size_alloc]; exact Nat.le_succ_of_le HPB.out.pb.box.lt)
          have HXA := hide (HXB.out.alloc (.cells #[.int .i64 (num : Int), .int .i64 (f : Int), .int .i64 ((f : Int) + (m1 : Int)), .int .i64 (m2 : Int)] 35))
          obtain ⟨sv, hsv⟩ : ∃ v, v = Value.slice A n c := ⟨_, rfl⟩
          have x0 := HPB.out.pb.box.cell 0
          rw [← hsv] at HSA
          rw [show ([.slice A n c, .int .i64 0, .int .i64 (f : Int)] : List Value) = [sv, .int .i64 0, .int .i64 (f : Int)] by rw [hsv]] at x0
          have HRX := hide (show Row (wc.alloc (.cells #[.int .i64 (num : Int), .int .i64 (f : Int), .int .i64 ((f : Int) + (m1 : Int)), .int .i64 (m2 : Int)] 35)) (w.heap.size + 1) 24 [sv, .int .i64 0, .int .i64 (f : Int)] from by rw [hsv]; exact HPB.out.pb.box.alloc _)
          have hxne : sv.ownBlock ≠ some xb := by rw [hsv]; exact HXNE
          have HSV := hide hsv
          clear hsv
          have q0 := HXB.out.cell 0
          have q1 := HXB.out.cell 1
          have q2 := HXB.out.cell 2
          have q3 := HXB.out.cell 3
          have ql := HXB.out.lt
          have xl := HPB.out.pb.box.lt
          have hxb2 : xb ≠ w.heap.size + 1 := by omega
          go_upto_region 11 with (first | (at_builtin; refine wpl_app rfl _ _ 22 rfl ia _ 32 Tryd.underlying22 HIa.out ha0 ha1 ha2 rfl (by decide) LogPart.cells_len rfl HSA.out [⟨(num : Int), (f : Int), (f : Int) + (m1 : Int), (m2 : Int)⟩] (HD.out _) (by exact New.nil _ _) (fun g _ hg => by cases hg) _ 1 1 rfl rfl (SrcAt.new wc _ _ _ _) (by omega) (by decide) HSZ.out ?_; intro A7 n7 c7 w7 hn7 hown7 hgb7; have r7 := hgb7.row HRX.out (HSA.out.low (Nat.lt_succ_self _)); have x7 := r7.cell 0; have f7 := r7.frozen 0; have l7 := r7.lt; clear hn7) | fail)
          have hgb8 := hgb7
          rw [HSV.out] at hgb8
          have HP8 := hide (HPB.out.app (x := ⟨(num : Int), (f : Int), (f : Int) + (m1 : Int), (m2 : Int)⟩) hlg hgb8 hown7)
          have HX8 := hide ((hgb7.row HXA.out hxne).far (p := ⟨w.heap.size + 1, 0, none⟩) hxb2 (.slice A7 n7 c7))
          clear hgb7 hgb8 hown7 r7 x7 f7 l7 q0 q1 q2 q3 ql x0 xl HRX HSV HSA HSZ HXA HXB HD HPB
          generalize (World.setCell _ _ _) = w8 at HP8 HX8 ⊢
          have HPB := HP8
          clear HP8
          have q2 := HX8.out.cell 2
          have ql := HX8.out.lt
          have x0 := HPB.out.pb.box.cell 0
          have x1 := HPB.out.pb.box.cell 1
          have x2 := HPB.out.pb.box.cell 2
          have xl := HPB.out.pb.box.lt
          have v0 := HPB.out.pb.box.frozen 0
          have v1 := HPB.out.pb.box.frozen 1
          have v2 := HPB.out.pb.box.frozen 2
          go_upto_region 12 with fail
          have HP9 := hide (HPB.out.putFi hlg ((f : Int) + (m1 : Int)))
          clear x0 x1 x2 xl v0 v1 v2
          clear q2 ql HX8 HPB
          generalize (World.setCell _ _ _) = w9 at HP9 ⊢
          have HPB := HP9
          clear HP9
          have HPK := hide (pick_any HPB.out.rd (n := 3) (by omega) (by omega) (by omega))
          have hnw : IntKind.i64.wrap ((num : Int) + 1) = (num : Int) + 1 := wrapI _ (by omega) (by omega)
          go_wp2_with fail
          refine HPK.out.mono ?_
          rintro e w10 ⟨r9, rfl, hlt9, hr9, hg9⟩
          have HP10 := hide (HPB.out.pick hlg hr9 hg9)
          have hnw2 : IntKind.i64.wrap ((num : Int) + 1 + (r9 : Int)) = (num : Int) + 1 + (r9 : Int) := wrapI _ (by omega) (by omega)
          clear hr9 hg9 HPK HPB
          go_wp2
          go_roundw
          case rel => exact ⟨num + 1 + r9, n + 1, f + m1, k3 + 1, ps ++ [⟨(num : Int), (f : Int), (f : Int) + (m1 : Int), (m2 : Int)⟩], A7, n7, c7, _, by go_num, by go_num, by omega, by rw [List.length_append, List.length_singleton, hpl], by omega, by omega, by omega, by rw [Int.natCast_add]; exact HP10.out⟩
          case measure => simp [intOf]; omega
  · have hqI : ¬ ((q0 : Int) = 0) := by omega
    have HPK := hide (pick_any HJ4.out.rd (n := 3) (by omega) (by omega) (by omega))
    go_wp2_with fail
    refine HPK.out.mono ?_
    rintro e w6 ⟨q2, rfl, hlt_q2, hr_q2, hg_q2⟩
    have HJ6 := hide (HJ4.out.pick hlg hr_q2 hg_q2)
    clear hr_q2 hg_q2 HPK HJ4
    have hwr : IntKind.i64.wrap (1 + (q2 : Int)) = ((1 + q2 : Nat) : Int) := by rw [wrapI _ (by omega) (by omega)]; omega
    go_upto_region 7 with fail
    go_loopw [5, 6] (fun nv iv wr => ∃ (num i f k' : Nat) (ps : List LogPart) (A : Option Addr) (n c : Nat) (us : List Value), nv = .int .i64 (num : Int) ∧ iv = .int .i64 (i : Int) ∧ i ≤ n0 ∧ ps.length = i ∧ num ≤ 3 + 3 * i ∧ f ≤ 1 + 297 * i ∧ k' ≤ k + 4 + 5 * i ∧ PlB w wr g L k' ps 0 (f : Int) A n c us) (fun _ iv _ => n0 - (intOf iv).toNat)
    case atStart => first | exact ⟨1 + q2, 0, 1, _, [], none, 0, 0, [], rfl, rfl, by omega, rfl, by omega, by omega, by omega, HJ6.out⟩ | exact ⟨1 + q2, 0, 1, _, [], none, 0, 0, [], by congr 1; simp only [wrap64]; omega, rfl, by omega, rfl, by omega, by omega, by omega, HJ6.out⟩
    case round =>
      clear HJ6 hwr hlt_q2
      obtain ⟨num, i, f, k2, ps, A, n, c, us, rfl, rfl, him, hpl, hnum, hf, hk2, hj⟩ := hrel
      have HPB := hide hj
      obtain rfl : n = i := by rw [hj.pb.len, hpl]
      clear hj
      by_cases hlt : n < n0
      rotate_left
      · have hltI : ¬ ((n : Int) < (n0 : Int)) := by omega
        have x0 := HPB.out.pb.box.cell 0
        have x1 := HPB.out.pb.box.cell 1
        have x2 := HPB.out.pb.box.cell 2
        have xl := HPB.out.pb.box.lt
        have v0 := HPB.out.pb.box.frozen 0
        have v1 := HPB.out.pb.box.frozen 1
        have v2 := HPB.out.pb.box.frozen 2
        go_upto_region 14 with fail
        have HPC := hide (HPB.out.putOp hlg (num : Int))
        clear x0 x1 x2 xl v0 v1 v2
        clear HPB
        generalize (World.setCell _ _ _) = w8 at HPC ⊢
        have HPB := HPC
        clear HPC
        obtain ⟨op, hop⟩ : ∃ o : Int, o = (num : Int) := ⟨_, rfl⟩
        rw [← hop] at HPB
        have hwo : (Lit.int .i64 op).wf = true := WalkArith.wf_i64 (by omega)
        have HPK := hide (pick_any HPB.out.rd (n := 12) (by omega) (by omega) (by omega))
        go_wp2_with fail
        refine HPK.out.mono ?_
        rintro e w9 ⟨r, rfl, hlt_r, hr_r, hg_r⟩
        have HPD := hide (HPB.out.pick hlg hr_r hg_r)
        clear hr_r hg_r HPK HPB
        have HPB := HPD
        clear HPD
        by_cases e0 : r = 0
        · subst e0
          obtain ⟨fi, hfi⟩ : ∃ o : Int, o = (f : Int) := ⟨_, rfl⟩
          rw [← hfi] at HPB
          have hwf : (Lit.int .i64 fi).wf = true := WalkArith.wf_i64 (by omega)
          clear hfi hop hwo
          have HQA := hide (HPB.out.step ((Below.refl _ _).alloc (Nat.le_refl _) (.cells #[.int .i64 0, .int .i64 1, .int .i64 999999, .int .i64 1000000] 3)))
          have HRW := hide (Row.new w9 3 [.int .i64 0, .int .i64 1, .int .i64 999999, .int .i64 1000000])
          have hbl : w9.heap.size ≠ g := by have := HPB.out.gr.size; omega
          have HPK := hide (pick_any HQA.out.rd (n := 4) (by omega) (by omega) (by omega))
          go_wp2_with fail
          refine HPK.out.mono ?_
          rintro e w10 ⟨q, rfl, hltq, hrq, hgq⟩
          have HPA := hide (HQA.out.pick hlg hrq hgq)
          have hrow := HRW.out.grown hgq (fun e => by injection e with e; exact hbl e.symm)
          obtain ⟨v, hv, hbv⟩ := list_pick [0, 1, 999999, 1000000] q (by simpa using hltq) (by decide)
          have yc := (hrow.cell q).trans hv
          have yl := hrow.lt
          have hqI : (q : Int) < 4 := by omega
          have hwv : (Lit.int .i64 v).wf = true := WalkArith.wf_i64 (by omega)
          clear hrq hgq HPK HPB HQA HRW hv hbv hrow
          have HPB := HPA
          clear HPA
          have x0 := HPB.out.pb.box.cell 0
          have x1 := HPB.out.pb.box.cell 1
          have x2 := HPB.out.pb.box.cell 2
          have xl := HPB.out.pb.box.lt
          have v0 := HPB.out.pb.box.frozen 0
          have v1 := HPB.out.pb.box.frozen 1
          have v2 := HPB.out.pb.box.frozen 2
          go_upto_region 29 with fail
          have HPC := hide (HPB.out.putOp hlg v)
          clear x0 x1 x2 xl v0 v1 v2
          clear yc yl HPB
          generalize (World.setCell _ _ _) = w11 at HPC ⊢
          have HPB := HPC
          clear HPC
          have hwo := hwv
          obtain ⟨op, rfl⟩ : ∃ o, o = v := ⟨_, rfl⟩
          have z0 := HPB.out.z.cell 0
          have z1 := HPB.out.z.cell 1
          have z2 := HPB.out.z.cell 2
          have y0 := HPB.out.z.frozen 0
          have y1 := HPB.out.z.frozen 1
          have y2 := HPB.out.z.frozen 2
          have zl := HPB.out.z.lt
          have x0 := HPB.out.pb.box.cell 0
          have x1 := HPB.out.pb.box.cell 1
          have x2 := HPB.out.pb.box.cell 2
          have xl := HPB.out.pb.box.lt
          go_wp2
          refine bodyPost_ret (ret_row rfl _ _ w.heap.size 24 [.slice A n c, .int .i64 op, .int .i64 fi] (HPB.out.z.setAll [.slice A n c, .int .i64 op, .int .i64 fi] rfl) _ rfl Tryd.underlying24 rfl (by kernel_rfl)) rfl ?_
          exact HPB.out.out hlg (setN_grown [.slice A n c, .int .i64 op, .int .i64 fi] 0 (grown_refl _ (some w.heap.size))) (by omega) hwo hwf (by omega)
        have m0 : ¬ ((r : Int) = 0) := by omega
        have n0 : ((r : Int) == 0) = false := beq_eq_false_iff_ne.2 (by omega)
        by_cases e1 : r = 1
        · subst e1
          clear hop
          have hw1 : IntKind.i64.wrap ((f : Int) + 1) = (f : Int) + 1 := wrapI _ (by omega) (by omega)
          have x0 := HPB.out.pb.box.cell 0
          have x1 := HPB.out.pb.box.cell 1
          have x2 := HPB.out.pb.box.cell 2
          have xl := HPB.out.pb.box.lt
          have v0 := HPB.out.pb.box.frozen 0
          have v1 := HPB.out.pb.box.frozen 1
          have v2 := HPB.out.pb.box.frozen 2
          go_upto_region 29 with fail
          have HPC := hide (HPB.out.putFi hlg ((f : Int) + 1))
          clear x0 x1 x2 xl v0 v1 v2
          clear HPB
          generalize (World.setCell _ _ _) = w11 at HPC ⊢
          have HPB := HPC
          clear HPC
          have hwf : (Lit.int .i64 ((f : Int) + 1)).wf = true := WalkArith.wf_i64 (by omega)
          obtain ⟨fi, hfi⟩ : ∃ o, o = (f : Int) + 1 := ⟨_, rfl⟩
          rw [← hfi] at HPB hwf
          clear hfi
          have z0 := HPB.out.z.cell 0
          have z1 := HPB.out.z.cell 1
          have z2 := HPB.out.z.cell 2
          have y0 := HPB.out.z.frozen 0
          have y1 := HPB.out.z.frozen 1
          have y2 := HPB.out.z.frozen 2
          have zl := HPB.out.z.lt
          have x0 := HPB.out.pb.box.cell 0
          have x1 := HPB.out.pb.box.cell 1
          have x2 := HPB.out.pb.box.cell 2
          have xl := HPB.out.pb.box.lt
          go_wp2
          refine bodyPost_ret (ret_row rfl _ _ w.heap.size 24 [.slice A n c, .int .i64 op, .int .i64 fi] (HPB.out.z.setAll [.slice A n c, .int .i64 op, .int .i64 fi] rfl) _ rfl Tryd.underlying24 rfl (by kernel_rfl)) rfl ?_
          exact HPB.out.out hlg (setN_grown [.slice A n c, .int .i64 op, .int .i64 fi] 0 (grown_refl _ (some w.heap.size))) (by omega) hwo hwf (by omega)
        have m1 : ¬ ((r : Int) = 1) := by omega
        have n1 : ((r : Int) == 1) = false := beq_eq_false_iff_ne.2 (by omega)
        by_cases e2 : r = 2
        · subst e2
          by_cases hz : 0 < n
          · have hzI : (0 : Int) < (n : Int) := by omega
            clear hop
            obtain ⟨bl, eA, -⟩ := parts_cell HPB.out.pb.own (by omega)
            subst eA
            obtain ⟨fi, hfi⟩ : ∃ o : Int, o = (f : Int) := ⟨_, rfl⟩
            rw [← hfi] at HPB
            have hwf : (Lit.int .i64 fi).wf = true := WalkArith.wf_i64 (by omega)
            clear hfi
            have x0 := HPB.out.pb.box.cell 0
            have x1 := HPB.out.pb.box.cell 1
            have x2 := HPB.out.pb.box.cell 2
            have xl := HPB.out.pb.box.lt
            have v0 := HPB.out.pb.box.frozen 0
            have v1 := HPB.out.pb.box.frozen 1
            have v2 := HPB.out.pb.box.frozen 2
            go_upto_region 21 with fail
            clear x0 x1 x2 xl v0 v1 v2
            go_wp2_with fail
            have hj153 := HPB.out.step (w' := w9.drew) (below_drewN (Below.refl _ _) 1)
            refine wp_region_held_drew (S := fun W => ∃ k' ps' us', ps'.length = n ∧ PlB w W g L k' ps' op fi (some ⟨bl, 0, none⟩) n c us') (by kernel_rfl) ⟨_, _, _, by first | assumption | omega, hj153⟩ (fun _ => ?_)
            generalize w9.drew = v153 at *
            refine wpAnyH_take (i := 0) (v := .pointer (some ⟨w.heap.size + 1, 0, none⟩)) rfl (by kernel_rfl) (by kernel_rfl) (by kernel_rfl) (fun _ _ _ h => h) (Or.inl ⟨by kernel_rfl, by (intro W hS; go_simp; first | done | with_reducible rfl | rfl)⟩) ⟨_, _, _, by first | assumption | omega, hj153⟩ ?_
            (try simp only [Act.put, List.getElem_toArray, List.getElem_cons_zero, List.getElem_cons_succ, List.setIfInBounds_toArray, List.set_cons_zero, List.set_cons_succ])
            refine wpAnyH_take (i := 1) (v := .slice (some ⟨bl, 0, none⟩) n c) rfl (by kernel_rfl) (by kernel_rfl) (by kernel_rfl) (fun _ _ _ h => h) (Or.inl ⟨by kernel_rfl, by (intro W hS; obtain ⟨_, _, _, _, hS⟩ := hS; have y := hS.pb.box.cell 0; have yl := hS.pb.box.lt; go_simp; first | done | with_reducible rfl | rfl)⟩) ⟨_, _, _, by first | assumption | omega, hj153⟩ ?_
            (try simp only [Act.put, List.getElem_toArray, List.getElem_cons_zero, List.getElem_cons_succ, List.setIfInBounds_toArray, List.set_cons_zero, List.set_cons_succ])
            refine wpAnyH_take (i := 3) (v := .pointer (some ⟨g, 0, none⟩)) rfl (by kernel_rfl) (by kernel_rfl) (by kernel_rfl) (fun _ _ _ h => h) (Or.inl ⟨by kernel_rfl, by (intro W hS; go_simp; first | done | with_reducible rfl | rfl)⟩) ⟨_, _, _, by first | assumption | omega, hj153⟩ ?_
            (try simp only [Act.put, List.getElem_toArray, List.getElem_cons_zero, List.getElem_cons_succ, List.setIfInBounds_toArray, List.set_cons_zero, List.set_cons_succ])
            refine wpAnyH_ready (rs := [2, 4]) (by kernel_rfl) (by simp) ?_
            refine AllReadyH.cons rfl (fun K hK => ?_) ?_
            · go_simp
              have hq157 : Below v153.heap.size v153 (v153.alloc (.cells #[.int .i64 (-1), .int .i64 20000, .int .i64 20001] 3)) := (Below.refl _ _).alloc (Nat.le_refl _) _
              have hj157 := hj153.step hq157
              have hr157 : Row (v153.alloc (.cells #[.int .i64 (-1), .int .i64 20000, .int .i64 20001] 3)) v153.heap.size 3 [.int .i64 (-1), .int .i64 20000, .int .i64 20001] := Row.new _ _ _
              have hlo157 : w.heap.size + 2 ≤ v153.heap.size := hj153.pb.box.lt
              refine hK.out _ _ ⟨_, _, _, by first | assumption | omega, hj157⟩ (fun hHeld => ?_)
              clear hK K hHeld
              obtain ⟨blk157, hblk157⟩ : ∃ n, n = v153.heap.size := ⟨_, rfl⟩
              rw [← hblk157] at hr157 hlo157
              simp only [← hblk157]
              generalize v153.alloc _ = v157 at *
              clear hblk157
              refine wpAnyH_ready (rs := [4]) (by kernel_rfl) (by simp) ?_
              refine AllReadyH.cons rfl (fun K hK => ?_) AllReadyH.nil
              go_simp
              go_at_call 49
              refine (pick_any hj157.rd (n := 3) (by omega) (by omega) (by omega)).mono ?_
              rintro e v158 ⟨r158, rfl, hlt158, hr158, hg158⟩
              have hj158 := hj157.pick hlg hr158 hg158
              have hr157158 := hr157.grown hg158 (fun e => by injection e with e; omega)
              clear hr158 hg158
              try go_simp
              refine hK.out _ _ ⟨_, _, _, by first | assumption | omega, hj158⟩ (fun hHeld => ?_)
              clear hK K hHeld
              have ra159 : ((r158 : Nat) : Int) < 3 := by omega
              refine' wpAnyH_take (i := 5) (v := _) rfl (by kernel_rfl) (by kernel_rfl) (by kernel_rfl) (fun _ _ _ h => h) (Or.inl ⟨by kernel_rfl, by (intro W hS; go_simp; first | done | with_reducible rfl | rfl)⟩) ⟨_, _, _, by first | assumption | omega, hj158⟩ ?_
              (try simp only [Act.put, List.getElem_toArray, List.getElem_cons_zero, List.getElem_cons_succ, List.setIfInBounds_toArray, List.set_cons_zero, List.set_cons_succ])
              refine wpAnyH_ready (rs := [6]) (by kernel_rfl) (by simp) ?_
              refine AllReadyH.cons rfl (fun K hK => ?_) AllReadyH.nil
              obtain ⟨v160, hv160, hb160⟩ := list_pick [(-1), 20000, 20001] r158 (by simpa using ‹_›) (by decide)
              have yc160 := (hr157158.cell r158).trans hv160
              have yl160 := hr157158.lt
              go_simp
              refine hK.out _ _ ⟨_, _, _, by first | assumption | omega, hj158⟩ (fun hHeld => ?_)
              clear hK K hHeld
              refine' wpAnyH_take (i := 7) (v := _) rfl (by kernel_rfl) (by kernel_rfl) (by kernel_rfl) (fun _ _ _ h => h) (Or.inl ⟨by kernel_rfl, by (intro W hS; go_simp; first | done | with_reducible rfl | rfl)⟩) ⟨_, _, _, by first | assumption | omega, hj158⟩ ?_
              (try simp only [Act.put, List.getElem_toArray, List.getElem_cons_zero, List.getElem_cons_succ, List.setIfInBounds_toArray, List.set_cons_zero, List.set_cons_succ])
              refine' wpAnyH_take (i := 8) (v := _) rfl (by kernel_rfl) (by kernel_rfl) (by kernel_rfl) (fun _ _ _ h => h) (Or.inl ⟨by kernel_rfl, by (intro W hS; go_simp; first | done | with_reducible rfl | rfl)⟩) ⟨_, _, _, by first | assumption | omega, hj158⟩ ?_
              (try simp only [Act.put, List.getElem_toArray, List.getElem_cons_zero, List.getElem_cons_succ, List.setIfInBounds_toArray, List.set_cons_zero, List.set_cons_succ])
              refine wpAnyH_ready (rs := [9]) (by kernel_rfl) (by simp) ?_
              refine AllReadyH.cons rfl (fun K hK => ?_) AllReadyH.nil
              obtain ⟨hlb, hlt, hcell⟩ := hj158.slot (by omega)
              obtain ⟨⟨x0, yx, -⟩, yf⟩ := hcell (3) (by omega)
              obtain ⟨ps163, us163, hps163, hj163⟩ := hj158.part hlg (3) (by omega) v160 (WalkArith.wf_i64 (by omega))
              go_simp
              refine hK.out _ _ ⟨_, _, _, by omega, hj163⟩ (fun hHeld => ?_)
              clear hK K hHeld
              refine wpAnyH_done (by kernel_rfl) ?_ _
              have HPB9 := hide hj163
              clear HPB
              generalize (World.setCell _ _ _) = w11 at HPB9 ⊢
              have HPB := HPB9
              clear HPB9
              obtain ⟨A, hA⟩ : ∃ A : Option Addr, A = some ⟨bl, 0, none⟩ := ⟨_, rfl⟩
              rw [← hA] at HPB
              clear hA
              have x0 := HPB.out.pb.box.cell 0
              have x1 := HPB.out.pb.box.cell 1
              have x2 := HPB.out.pb.box.cell 2
              have xl := HPB.out.pb.box.lt
              have v0 := HPB.out.pb.box.frozen 0
              have v1 := HPB.out.pb.box.frozen 1
              have v2 := HPB.out.pb.box.frozen 2
              go_upto_region 29 with fail
              clear x0 x1 x2 xl v0 v1 v2
              have z0 := HPB.out.z.cell 0
              have z1 := HPB.out.z.cell 1
              have z2 := HPB.out.z.cell 2
              have y0 := HPB.out.z.frozen 0
              have y1 := HPB.out.z.frozen 1
              have y2 := HPB.out.z.frozen 2
              have zl := HPB.out.z.lt
              have x0 := HPB.out.pb.box.cell 0
              have x1 := HPB.out.pb.box.cell 1
              have x2 := HPB.out.pb.box.cell 2
              have xl := HPB.out.pb.box.lt
              go_wp2
              refine bodyPost_ret (ret_row rfl _ _ w.heap.size 24 [.slice A n c, .int .i64 op, .int .i64 fi] (HPB.out.z.setAll [.slice A n c, .int .i64 op, .int .i64 fi] rfl) _ rfl Tryd.underlying24 rfl (by kernel_rfl)) rfl ?_
              exact HPB.out.out hlg (setN_grown [.slice A n c, .int .i64 op, .int .i64 fi] 0 (grown_refl _ (some w.heap.size))) (by omega) hwo hwf (by omega)
            refine AllReadyH.cons rfl (fun K hK => ?_) AllReadyH.nil
            · go_simp
              go_at_call 49
              refine (pick_any hj153.rd (n := 3) (by omega) (by omega) (by omega)).mono ?_
              rintro e v164 ⟨r164, rfl, hlt164, hr164, hg164⟩
              have hj164 := hj153.pick hlg hr164 hg164
              clear hr164 hg164
              try go_simp
              refine hK.out _ _ ⟨_, _, _, by first | assumption | omega, hj164⟩ (fun hHeld => ?_)
              clear hK K hHeld
              refine wpAnyH_ready (rs := [2]) (by kernel_rfl) (by simp) ?_
              refine AllReadyH.cons rfl (fun K hK => ?_) AllReadyH.nil
              go_simp
              have hq165 : Below v164.heap.size v164 (v164.alloc (.cells #[.int .i64 (-1), .int .i64 20000, .int .i64 20001] 3)) := (Below.refl _ _).alloc (Nat.le_refl _) _
              have hj165 := hj164.step hq165
              have hr165 : Row (v164.alloc (.cells #[.int .i64 (-1), .int .i64 20000, .int .i64 20001] 3)) v164.heap.size 3 [.int .i64 (-1), .int .i64 20000, .int .i64 20001] := Row.new _ _ _
              have hlo165 : w.heap.size + 2 ≤ v164.heap.size := hj164.pb.box.lt
              refine hK.out _ _ ⟨_, _, _, by first | assumption | omega, hj165⟩ (fun hHeld => ?_)
              clear hK K hHeld
              obtain ⟨blk165, hblk165⟩ : ∃ n, n = v164.heap.size := ⟨_, rfl⟩
              rw [← hblk165] at hr165 hlo165
              simp only [← hblk165]
              generalize v164.alloc _ = v165 at *
              clear hblk165
              have ra166 : ((r164 : Nat) : Int) < 3 := by omega
              refine' wpAnyH_take (i := 5) (v := _) rfl (by kernel_rfl) (by kernel_rfl) (by kernel_rfl) (fun _ _ _ h => h) (Or.inl ⟨by kernel_rfl, by (intro W hS; go_simp; first | done | with_reducible rfl | rfl)⟩) ⟨_, _, _, by first | assumption | omega, hj165⟩ ?_
              (try simp only [Act.put, List.getElem_toArray, List.getElem_cons_zero, List.getElem_cons_succ, List.setIfInBounds_toArray, List.set_cons_zero, List.set_cons_succ])
              refine wpAnyH_ready (rs := [6]) (by kernel_rfl) (by simp) ?_
              refine AllReadyH.cons rfl (fun K hK => ?_) AllReadyH.nil
              obtain ⟨v167, hv167, hb167⟩ := list_pick [(-1), 20000, 20001] r164 (by simpa using ‹_›) (by decide)
              have yc167 := (hr165.cell r164).trans hv167
              have yl167 := hr165.lt
              go_simp
              refine hK.out _ _ ⟨_, _, _, by first | assumption | omega, hj165⟩ (fun hHeld => ?_)
              clear hK K hHeld
              refine' wpAnyH_take (i := 7) (v := _) rfl (by kernel_rfl) (by kernel_rfl) (by kernel_rfl) (fun _ _ _ h => h) (Or.inl ⟨by kernel_rfl, by (intro W hS; go_simp; first | done | with_reducible rfl | rfl)⟩) ⟨_, _, _, by first | assumption | omega, hj165⟩ ?_
              (try simp only [Act.put, List.getElem_toArray, List.getElem_cons_zero, List.getElem_cons_succ, List.setIfInBounds_toArray, List.set_cons_zero, List.set_cons_succ])
              refine' wpAnyH_take (i := 8) (v := _) rfl (by kernel_rfl) (by kernel_rfl) (by kernel_rfl) (fun _ _ _ h => h) (Or.inl ⟨by kernel_rfl, by (intro W hS; go_simp; first | done | with_reducible rfl | rfl)⟩) ⟨_, _, _, by first | assumption | omega, hj165⟩ ?_
              (try simp only [Act.put, List.getElem_toArray, List.getElem_cons_zero, List.getElem_cons_succ, List.setIfInBounds_toArray, List.set_cons_zero, List.set_cons_succ])
              refine wpAnyH_ready (rs := [9]) (by kernel_rfl) (by simp) ?_
              refine AllReadyH.cons rfl (fun K hK => ?_) AllReadyH.nil
              obtain ⟨hlb, hlt, hcell⟩ := hj165.slot (by omega)
              obtain ⟨⟨x0, yx, -⟩, yf⟩ := hcell (3) (by omega)
              obtain ⟨ps170, us170, hps170, hj170⟩ := hj165.part hlg (3) (by omega) v167 (WalkArith.wf_i64 (by omega))
              go_simp
              refine hK.out _ _ ⟨_, _, _, by omega, hj170⟩ (fun hHeld => ?_)
              clear hK K hHeld
              refine wpAnyH_done (by kernel_rfl) ?_ _
              have HPB9 := hide hj170
              clear HPB
              generalize (World.setCell _ _ _) = w11 at HPB9 ⊢
              have HPB := HPB9
              clear HPB9
              obtain ⟨A, hA⟩ : ∃ A : Option Addr, A = some ⟨bl, 0, none⟩ := ⟨_, rfl⟩
              rw [← hA] at HPB
              clear hA
              have x0 := HPB.out.pb.box.cell 0
              have x1 := HPB.out.pb.box.cell 1
              have x2 := HPB.out.pb.box.cell 2
              have xl := HPB.out.pb.box.lt
              have v0 := HPB.out.pb.box.frozen 0
              have v1 := HPB.out.pb.box.frozen 1
              have v2 := HPB.out.pb.box.frozen 2
              go_upto_region 29 with fail
              clear x0 x1 x2 xl v0 v1 v2
              have z0 := HPB.out.z.cell 0
              have z1 := HPB.out.z.cell 1
              have z2 := HPB.out.z.cell 2
              have y0 := HPB.out.z.frozen 0
              have y1 := HPB.out.z.frozen 1
              have y2 := HPB.out.z.frozen 2
              have zl := HPB.out.z.lt
              have x0 := HPB.out.pb.box.cell 0
              have x1 := HPB.out.pb.box.cell 1
              have x2 := HPB.out.pb.box.cell 2
              have xl := HPB.out.pb.box.lt
              go_wp2
              refine bodyPost_ret (ret_row rfl _ _ w.heap.size 24 [.slice A n c, .int .i64 op, .int .i64 fi] (HPB.out.z.setAll [.slice A n c, .int .i64 op, .int .i64 fi] rfl) _ rfl Tryd.underlying24 rfl (by kernel_rfl)) rfl ?_
              exact HPB.out.out hlg (setN_grown [.slice A n c, .int .i64 op, .int .i64 fi] 0 (grown_refl _ (some w.heap.size))) (by omega) hwo hwf (by omega)
          · have hzI : ¬ ((0 : Int) < (n : Int)) := by omega
            clear hop
            have x0 := HPB.out.pb.box.cell 0
            have x1 := HPB.out.pb.box.cell 1
            have x2 := HPB.out.pb.box.cell 2
            have xl := HPB.out.pb.box.lt
            have v0 := HPB.out.pb.box.frozen 0
            have v1 := HPB.out.pb.box.frozen 1
            have v2 := HPB.out.pb.box.frozen 2
            go_upto_region 29 with fail
            clear x0 x1 x2 xl v0 v1 v2
            obtain ⟨fi, hfi⟩ : ∃ o : Int, o = (f : Int) := ⟨_, rfl⟩
            rw [← hfi] at HPB
            have hwf : (Lit.int .i64 fi).wf = true := WalkArith.wf_i64 (by omega)
            clear hfi
            have z0 := HPB.out.z.cell 0
            have z1 := HPB.out.z.cell 1
            have z2 := HPB.out.z.cell 2
            have y0 := HPB.out.z.frozen 0
            have y1 := HPB.out.z.frozen 1
            have y2 := HPB.out.z.frozen 2
            have zl := HPB.out.z.lt
            have x0 := HPB.out.pb.box.cell 0
            have x1 := HPB.out.pb.box.cell 1
            have x2 := HPB.out.pb.box.cell 2
            have xl := HPB.out.pb.box.lt
            go_wp2
            refine bodyPost_ret (ret_row rfl _ _ w.heap.size 24 [.slice A n c, .int .i64 op, .int .i64 fi] (HPB.out.z.setAll [.slice A n c, .int .i64 op, .int .i64 fi] rfl) _ rfl Tryd.underlying24 rfl (by kernel_rfl)) rfl ?_
            exact HPB.out.out hlg (setN_grown [.slice A n c, .int .i64 op, .int .i64 fi] 0 (grown_refl _ (some w.heap.size))) (by omega) hwo hwf (by omega)
        have m2 : ¬ ((r : Int) = 2) := by omega
        have n2 : ((r : Int) == 2) = false := beq_eq_false_iff_ne.2 (by omega)
        by_cases e3 : r = 3
        · subst e3
          by_cases hz : 0 < n
          · have hzI : (0 : Int) < (n : Int) := by omega
            clear hop
            obtain ⟨m, hm⟩ : ∃ m, n = m + 1 := ⟨n - 1, by omega⟩
            obtain ⟨bl, eA, -⟩ := parts_cell HPB.out.pb.own (by omega)
            subst eA
            obtain ⟨fi, hfi⟩ : ∃ o : Int, o = (f : Int) := ⟨_, rfl⟩
            rw [← hfi] at HPB
            have hwf : (Lit.int .i64 fi).wf = true := WalkArith.wf_i64 (by omega)
            clear hfi
            have x0 := HPB.out.pb.box.cell 0
            have x1 := HPB.out.pb.box.cell 1
            have x2 := HPB.out.pb.box.cell 2
            have xl := HPB.out.pb.box.lt
            have v0 := HPB.out.pb.box.frozen 0
            have v1 := HPB.out.pb.box.frozen 1
            have v2 := HPB.out.pb.box.frozen 2
            go_upto_region 24 with fail
            clear x0 x1 x2 xl v0 v1 v2
            have hsub : IntKind.i64.wrap ((n : Int) - 1) = (m : Int) := by rw [wrapI _ (by omega) (by omega)]; omega
            have hsub2 : wrap64 ((n : Int) - 1) = (m : Int) := by unfold wrap64; omega
            have hmn : (m : Int) < (n : Int) := by omega
            have hm0 : (0 : Int) ≤ (m : Int) := by omega
            clear hm
            go_cut [] from 95 to 108 (fun wx => ∃ k' ps' us', ps'.length = n ∧ k' ≤ k + 900 ∧ PlB w wx g L k' ps' op fi (some ⟨bl, 0, none⟩) n c us')
            case first =>
              go_wp2_with fail
              have hj120 := HPB.out.step (w' := w9.drew) (below_drewN (Below.refl _ _) 1)
              refine wp_region_held_drew (S := fun W => ∃ k' ps' us', ps'.length = n ∧ PlB w W g L k' ps' op fi (some ⟨bl, 0, none⟩) n c us') (by kernel_rfl) ⟨_, _, _, by first | assumption | omega, hj120⟩ (fun _ => ?_)
              generalize w9.drew = v120 at *
              refine wpAnyH_take (i := 0) (v := .pointer (some ⟨w.heap.size + 1, 0, none⟩)) rfl (by kernel_rfl) (by kernel_rfl) (by kernel_rfl) (fun _ _ _ h => h) (Or.inl ⟨by kernel_rfl, by (intro W hS; go_simp; first | done | with_reducible rfl | rfl)⟩) ⟨_, _, _, by first | assumption | omega, hj120⟩ ?_
              (try simp only [Act.put, List.getElem_toArray, List.getElem_cons_zero, List.getElem_cons_succ, List.setIfInBounds_toArray, List.set_cons_zero, List.set_cons_succ])
              refine wpAnyH_take (i := 1) (v := .slice (some ⟨bl, 0, none⟩) n c) rfl (by kernel_rfl) (by kernel_rfl) (by kernel_rfl) (fun _ _ _ h => h) (Or.inl ⟨by kernel_rfl, by (intro W hS; obtain ⟨_, _, _, _, hS⟩ := hS; have y := hS.pb.box.cell 0; have yl := hS.pb.box.lt; go_simp; first | done | with_reducible rfl | rfl)⟩) ⟨_, _, _, by first | assumption | omega, hj120⟩ ?_
              (try simp only [Act.put, List.getElem_toArray, List.getElem_cons_zero, List.getElem_cons_succ, List.setIfInBounds_toArray, List.set_cons_zero, List.set_cons_succ])
              refine wpAnyH_take (i := 2) (v := .pointer (some ⟨w.heap.size + 1, 0, none⟩)) rfl (by kernel_rfl) (by kernel_rfl) (by kernel_rfl) (fun _ _ _ h => h) (Or.inl ⟨by kernel_rfl, by (intro W hS; go_simp; first | done | with_reducible rfl | rfl)⟩) ⟨_, _, _, by first | assumption | omega, hj120⟩ ?_
              (try simp only [Act.put, List.getElem_toArray, List.getElem_cons_zero, List.getElem_cons_succ, List.setIfInBounds_toArray, List.set_cons_zero, List.set_cons_succ])
              refine wpAnyH_take (i := 3) (v := .slice (some ⟨bl, 0, none⟩) n c) rfl (by kernel_rfl) (by kernel_rfl) (by kernel_rfl) (fun _ _ _ h => h) (Or.inl ⟨by kernel_rfl, by (intro W hS; obtain ⟨_, _, _, _, hS⟩ := hS; have y := hS.pb.box.cell 0; have yl := hS.pb.box.lt; go_simp; first | done | with_reducible rfl | rfl)⟩) ⟨_, _, _, by first | assumption | omega, hj120⟩ ?_
              (try simp only [Act.put, List.getElem_toArray, List.getElem_cons_zero, List.getElem_cons_succ, List.setIfInBounds_toArray, List.set_cons_zero, List.set_cons_succ])
              refine wpAnyH_take (i := 4) (v := .int .i64 (n : Int)) rfl (by kernel_rfl) (by kernel_rfl) (by kernel_rfl) (fun _ _ _ h => h) (Or.inl ⟨by kernel_rfl, by (intro W hS; go_simp; first | done | with_reducible rfl | rfl)⟩) ⟨_, _, _, by first | assumption | omega, hj120⟩ ?_
              (try simp only [Act.put, List.getElem_toArray, List.getElem_cons_zero, List.getElem_cons_succ, List.setIfInBounds_toArray, List.set_cons_zero, List.set_cons_succ])
              refine wpAnyH_take (i := 5) (v := .int .i64 (m : Int)) rfl (by kernel_rfl) (by kernel_rfl) (by kernel_rfl) (fun _ _ _ h => h) (Or.inl ⟨by kernel_rfl, by (intro W hS; go_simp; first | done | with_reducible rfl | rfl)⟩) ⟨_, _, _, by first | assumption | omega, hj120⟩ ?_
              (try simp only [Act.put, List.getElem_toArray, List.getElem_cons_zero, List.getElem_cons_succ, List.setIfInBounds_toArray, List.set_cons_zero, List.set_cons_succ])
              refine wpAnyH_take (i := 7) (v := .pointer (some ⟨g, 0, none⟩)) rfl (by kernel_rfl) (by kernel_rfl) (by kernel_rfl) (fun _ _ _ h => h) (Or.inl ⟨by kernel_rfl, by (intro W hS; go_simp; first | done | with_reducible rfl | rfl)⟩) ⟨_, _, _, by first | assumption | omega, hj120⟩ ?_
              (try simp only [Act.put, List.getElem_toArray, List.getElem_cons_zero, List.getElem_cons_succ, List.setIfInBounds_toArray, List.set_cons_zero, List.set_cons_succ])
              refine wpAnyH_ready (rs := [6, 8]) (by kernel_rfl) (by simp) ?_
              refine AllReadyH.cons rfl (fun K hK => ?_) ?_
              · go_simp
                have hq128 : Below v120.heap.size v120 (v120.alloc (.cells #[.int .i64 0, .int .i64 1000000, .int .i64 1000001] 3)) := (Below.refl _ _).alloc (Nat.le_refl _) _
                have hj128 := hj120.step hq128
                have hr128 : Row (v120.alloc (.cells #[.int .i64 0, .int .i64 1000000, .int .i64 1000001] 3)) v120.heap.size 3 [.int .i64 0, .int .i64 1000000, .int .i64 1000001] := Row.new _ _ _
                have hlo128 : w.heap.size + 2 ≤ v120.heap.size := hj120.pb.box.lt
                refine hK.out _ _ ⟨_, _, _, by first | assumption | omega, hj128⟩ (fun hHeld => ?_)
                clear hK K hHeld
                obtain ⟨blk128, hblk128⟩ : ∃ n, n = v120.heap.size := ⟨_, rfl⟩
                rw [← hblk128] at hr128 hlo128
                simp only [← hblk128]
                generalize v120.alloc _ = v128 at *
                clear hblk128
                refine wpAnyH_ready (rs := [8]) (by kernel_rfl) (by simp) ?_
                refine AllReadyH.cons rfl (fun K hK => ?_) AllReadyH.nil
                go_simp
                go_at_call 49
                refine (pick_any hj128.rd (n := 3) (by omega) (by omega) (by omega)).mono ?_
                rintro e v129 ⟨r129, rfl, hlt129, hr129, hg129⟩
                have hj129 := hj128.pick hlg hr129 hg129
                have hr128129 := hr128.grown hg129 (fun e => by injection e with e; omega)
                clear hr129 hg129
                try go_simp
                refine hK.out _ _ ⟨_, _, _, by first | assumption | omega, hj129⟩ (fun hHeld => ?_)
                clear hK K hHeld
                have ra130 : ((r129 : Nat) : Int) < 3 := by omega
                refine' wpAnyH_take (i := 9) (v := _) rfl (by kernel_rfl) (by kernel_rfl) (by kernel_rfl) (fun _ _ _ h => h) (Or.inl ⟨by kernel_rfl, by (intro W hS; go_simp; first | done | with_reducible rfl | rfl)⟩) ⟨_, _, _, by first | assumption | omega, hj129⟩ ?_
                (try simp only [Act.put, List.getElem_toArray, List.getElem_cons_zero, List.getElem_cons_succ, List.setIfInBounds_toArray, List.set_cons_zero, List.set_cons_succ])
                refine wpAnyH_ready (rs := [10]) (by kernel_rfl) (by simp) ?_
                refine AllReadyH.cons rfl (fun K hK => ?_) AllReadyH.nil
                obtain ⟨v131, hv131, hb131⟩ := list_pick [0, 1000000, 1000001] r129 (by simpa using ‹_›) (by decide)
                have yc131 := (hr128129.cell r129).trans hv131
                have yl131 := hr128129.lt
                go_simp
                refine hK.out _ _ ⟨_, _, _, by first | assumption | omega, hj129⟩ (fun hHeld => ?_)
                clear hK K hHeld
                refine' wpAnyH_take (i := 11) (v := _) rfl (by kernel_rfl) (by kernel_rfl) (by kernel_rfl) (fun _ _ _ h => h) (Or.inl ⟨by kernel_rfl, by (intro W hS; go_simp; first | done | with_reducible rfl | rfl)⟩) ⟨_, _, _, by first | assumption | omega, hj129⟩ ?_
                (try simp only [Act.put, List.getElem_toArray, List.getElem_cons_zero, List.getElem_cons_succ, List.setIfInBounds_toArray, List.set_cons_zero, List.set_cons_succ])
                refine' wpAnyH_take (i := 12) (v := _) rfl (by kernel_rfl) (by kernel_rfl) (by kernel_rfl) (fun _ _ _ h => h) (Or.inl ⟨by kernel_rfl, by (intro W hS; go_simp; first | done | with_reducible rfl | rfl)⟩) ⟨_, _, _, by first | assumption | omega, hj129⟩ ?_
                (try simp only [Act.put, List.getElem_toArray, List.getElem_cons_zero, List.getElem_cons_succ, List.setIfInBounds_toArray, List.set_cons_zero, List.set_cons_succ])
                refine wpAnyH_ready (rs := [13]) (by kernel_rfl) (by simp) ?_
                refine AllReadyH.cons rfl (fun K hK => ?_) AllReadyH.nil
                obtain ⟨hlb, hlt, hcell⟩ := hj129.slot (by omega)
                obtain ⟨⟨x0, yx, -⟩, yf⟩ := hcell (m * 4 + 2) (by omega)
                obtain ⟨ps134, us134, hps134, hj134⟩ := hj129.part hlg (m * 4 + 2) (by omega) v131 (WalkArith.wf_i64 (by omega))
                go_simp
                refine hK.out _ _ ⟨_, _, _, by omega, hj134⟩ (fun hHeld => ?_)
                clear hK K hHeld
                refine wpAnyH_done (by kernel_rfl) ?_ _
                go_wp2_with fail
                go_meet
                exact ⟨_, _, _, by first | assumption | omega, by omega, hj134⟩
              refine AllReadyH.cons rfl (fun K hK => ?_) AllReadyH.nil
              · go_simp
                go_at_call 49
                refine (pick_any hj120.rd (n := 3) (by omega) (by omega) (by omega)).mono ?_
                rintro e v135 ⟨r135, rfl, hlt135, hr135, hg135⟩
                have hj135 := hj120.pick hlg hr135 hg135
                clear hr135 hg135
                try go_simp
                refine hK.out _ _ ⟨_, _, _, by first | assumption | omega, hj135⟩ (fun hHeld => ?_)
                clear hK K hHeld
                refine wpAnyH_ready (rs := [6]) (by kernel_rfl) (by simp) ?_
                refine AllReadyH.cons rfl (fun K hK => ?_) AllReadyH.nil
                go_simp
                have hq136 : Below v135.heap.size v135 (v135.alloc (.cells #[.int .i64 0, .int .i64 1000000, .int .i64 1000001] 3)) := (Below.refl _ _).alloc (Nat.le_refl _) _
                have hj136 := hj135.step hq136
                have hr136 : Row (v135.alloc (.cells #[.int .i64 0, .int .i64 1000000, .int .i64 1000001] 3)) v135.heap.size 3 [.int .i64 0, .int .i64 1000000, .int .i64 1000001] := Row.new _ _ _
                have hlo136 : w.heap.size + 2 ≤ v135.heap.size := hj135.pb.box.lt
                refine hK.out _ _ ⟨_, _, _, by first | assumption | omega, hj136⟩ (fun hHeld => ?_)
                clear hK K hHeld
                obtain ⟨blk136, hblk136⟩ : ∃ n, n = v135.heap.size := ⟨_, rfl⟩
                rw [← hblk136] at hr136 hlo136
                simp only [← hblk136]
                generalize v135.alloc _ = v136 at *
                clear hblk136
                have ra137 : ((r135 : Nat) : Int) < 3 := by omega
                refine' wpAnyH_take (i := 9) (v := _) rfl (by kernel_rfl) (by kernel_rfl) (by kernel_rfl) (fun _ _ _ h => h) (Or.inl ⟨by kernel_rfl, by (intro W hS; go_simp; first | done | with_reducible rfl | rfl)⟩) ⟨_, _, _, by first | assumption | omega, hj136⟩ ?_
                (try simp only [Act.put, List.getElem_toArray, List.getElem_cons_zero, List.getElem_cons_succ, List.setIfInBounds_toArray, List.set_cons_zero, List.set_cons_succ])
                refine wpAnyH_ready (rs := [10]) (by kernel_rfl) (by simp) ?_
                refine AllReadyH.cons rfl (fun K hK => ?_) AllReadyH.nil
                obtain ⟨v138, hv138, hb138⟩ := list_pick [0, 1000000, 1000001] r135 (by simpa using ‹_›) (by decide)
                have yc138 := (hr136.cell r135).trans hv138
                have yl138 := hr136.lt
                go_simp
                refine hK.out _ _ ⟨_, _, _, by first | assumption | omega, hj136⟩ (fun hHeld => ?_)
                clear hK K hHeld
                refine' wpAnyH_take (i := 11) (v := _) rfl (by kernel_rfl) (by kernel_rfl) (by kernel_rfl) (fun _ _ _ h => h) (Or.inl ⟨by kernel_rfl, by (intro W hS; go_simp; first | done | with_reducible rfl | rfl)⟩) ⟨_, _, _, by first | assumption | omega, hj136⟩ ?_
                (try simp only [Act.put, List.getElem_toArray, List.getElem_cons_zero, List.getElem_cons_succ, List.setIfInBounds_toArray, List.set_cons_zero, List.set_cons_succ])
                refine' wpAnyH_take (i := 12) (v := _) rfl (by kernel_rfl) (by kernel_rfl) (by kernel_rfl) (fun _ _ _ h => h) (Or.inl ⟨by kernel_rfl, by (intro W hS; go_simp; first | done | with_reducible rfl | rfl)⟩) ⟨_, _, _, by first | assumption | omega, hj136⟩ ?_
                (try simp only [Act.put, List.getElem_toArray, List.getElem_cons_zero, List.getElem_cons_succ, List.setIfInBounds_toArray, List.set_cons_zero, List.set_cons_succ])
                refine wpAnyH_ready (rs := [13]) (by kernel_rfl) (by simp) ?_
                refine AllReadyH.cons rfl (fun K hK => ?_) AllReadyH.nil
                obtain ⟨hlb, hlt, hcell⟩ := hj136.slot (by omega)
                obtain ⟨⟨x0, yx, -⟩, yf⟩ := hcell (m * 4 + 2) (by omega)
                obtain ⟨ps141, us141, hps141, hj141⟩ := hj136.part hlg (m * 4 + 2) (by omega) v138 (WalkArith.wf_i64 (by omega))
                go_simp
                refine hK.out _ _ ⟨_, _, _, by omega, hj141⟩ (fun hHeld => ?_)
                clear hK K hHeld
                refine wpAnyH_done (by kernel_rfl) ?_ _
                go_wp2_with fail
                go_meet
                exact ⟨_, _, _, by first | assumption | omega, by omega, hj141⟩
            case rest =>
              clear HPB
              obtain ⟨k9, ps9, us9, hl9, hk9, hj9⟩ := hcut
              have HPB := hide hj9
              clear hj9
              obtain ⟨hlb, hlt, hcell⟩ := HPB.out.slot (by omega)
              obtain ⟨⟨xv, yx, hwx⟩, yf⟩ := hcell (m * 4 + 2) (by omega)
              have x0 := HPB.out.pb.box.cell 0
              have x1 := HPB.out.pb.box.cell 1
              have x2 := HPB.out.pb.box.cell 2
              have xl := HPB.out.pb.box.lt
              have v0 := HPB.out.pb.box.frozen 0
              have v1 := HPB.out.pb.box.frozen 1
              have v2 := HPB.out.pb.box.frozen 2
              go_upto_region 29 with fail
              have HPC := hide (HPB.out.putFi hlg xv)
              clear x0 x1 x2 xl v0 v1 v2
              clear HPB
              generalize (World.setCell _ _ _) = w11 at HPC ⊢
              have HPB := HPC
              clear HPC hwf yx yf hcell
              have hwf := hwx
              obtain ⟨fi, rfl⟩ : ∃ o, o = xv := ⟨_, rfl⟩
              obtain ⟨A, hA⟩ : ∃ A : Option Addr, A = some ⟨bl, 0, none⟩ := ⟨_, rfl⟩
              rw [← hA] at HPB
              clear hA
              have z0 := HPB.out.z.cell 0
              have z1 := HPB.out.z.cell 1
              have z2 := HPB.out.z.cell 2
              have y0 := HPB.out.z.frozen 0
              have y1 := HPB.out.z.frozen 1
              have y2 := HPB.out.z.frozen 2
              have zl := HPB.out.z.lt
              have x0 := HPB.out.pb.box.cell 0
              have x1 := HPB.out.pb.box.cell 1
              have x2 := HPB.out.pb.box.cell 2
              have xl := HPB.out.pb.box.lt
              go_wp2
              refine bodyPost_ret (ret_row rfl _ _ w.heap.size 24 [.slice A n c, .int .i64 op, .int .i64 fi] (HPB.out.z.setAll [.slice A n c, .int .i64 op, .int .i64 fi] rfl) _ rfl Tryd.underlying24 rfl (by kernel_rfl)) rfl ?_
              exact HPB.out.out hlg (setN_grown [.slice A n c, .int .i64 op, .int .i64 fi] 0 (grown_refl _ (some w.heap.size))) (by omega) hwo hwf (by omega)
          · have hzI : ¬ ((0 : Int) < (n : Int)) := by omega
            clear hop
            have x0 := HPB.out.pb.box.cell 0
            have x1 := HPB.out.pb.box.cell 1
            have x2 := HPB.out.pb.box.cell 2
            have xl := HPB.out.pb.box.lt
            have v0 := HPB.out.pb.box.frozen 0
            have v1 := HPB.out.pb.box.frozen 1
            have v2 := HPB.out.pb.box.frozen 2
            go_upto_region 29 with fail
            clear x0 x1 x2 xl v0 v1 v2
            obtain ⟨fi, hfi⟩ : ∃ o : Int, o = (f : Int) := ⟨_, rfl⟩
            rw [← hfi] at HPB
            have hwf : (Lit.int .i64 fi).wf = true := WalkArith.wf_i64 (by omega)
            clear hfi
            have z0 := HPB.out.z.cell 0
            have z1 := HPB.out.z.cell 1
            have z2 := HPB.out.z.cell 2
            have y0 := HPB.out.z.frozen 0
            have y1 := HPB.out.z.frozen 1
            have y2 := HPB.out.z.frozen 2
            have zl := HPB.out.z.lt
            have x0 := HPB.out.pb.box.cell 0
            have x1 := HPB.out.pb.box.cell 1
            have x2 := HPB.out.pb.box.cell 2
            have xl := HPB.out.pb.box.lt
            go_wp2
            refine bodyPost_ret (ret_row rfl _ _ w.heap.size 24 [.slice A n c, .int .i64 op, .int .i64 fi] (HPB.out.z.setAll [.slice A n c, .int .i64 op, .int .i64 fi] rfl) _ rfl Tryd.underlying24 rfl (by kernel_rfl)) rfl ?_
            exact HPB.out.out hlg (setN_grown [.slice A n c, .int .i64 op, .int .i64 fi] 0 (grown_refl _ (some w.heap.size))) (by omega) hwo hwf (by omega)
        have m3 : ¬ ((r : Int) = 3) := by omega
        have n3 : ((r : Int) == 3) = false := beq_eq_false_iff_ne.2 (by omega)
        by_cases e4 : r = 4
        · subst e4
          by_cases hz : 1 < n
          · have hzI : (1 : Int) < (n : Int) := by omega
            clear hop
            obtain ⟨bl, eA, -⟩ := parts_cell HPB.out.pb.own (by omega)
            subst eA
            obtain ⟨fi, hfi⟩ : ∃ o : Int, o = (f : Int) := ⟨_, rfl⟩
            rw [← hfi] at HPB
            have hwf : (Lit.int .i64 fi).wf = true := WalkArith.wf_i64 (by omega)
            clear hfi
            have x0 := HPB.out.pb.box.cell 0
            have x1 := HPB.out.pb.box.cell 1
            have x2 := HPB.out.pb.box.cell 2
            have xl := HPB.out.pb.box.lt
            have v0 := HPB.out.pb.box.frozen 0
            have v1 := HPB.out.pb.box.frozen 1
            have v2 := HPB.out.pb.box.frozen 2
            go_upto_region 28 with fail
            clear x0 x1 x2 xl v0 v1 v2
            go_wp2_with fail
            have hj171 := HPB.out.step (w' := w9.drew) (below_drewN (Below.refl _ _) 1)
            refine wp_region_held_drew (S := fun W => ∃ k' ps' us', ps'.length = n ∧ PlB w W g L k' ps' op fi (some ⟨bl, 0, none⟩) n c us') (by kernel_rfl) ⟨_, _, _, by first | assumption | omega, hj171⟩ (fun _ => ?_)
            generalize w9.drew = v171 at *
            refine wpAnyH_take (i := 0) (v := .pointer (some ⟨w.heap.size + 1, 0, none⟩)) rfl (by kernel_rfl) (by kernel_rfl) (by kernel_rfl) (fun _ _ _ h => h) (Or.inl ⟨by kernel_rfl, by (intro W hS; go_simp; first | done | with_reducible rfl | rfl)⟩) ⟨_, _, _, by first | assumption | omega, hj171⟩ ?_
            (try simp only [Act.put, List.getElem_toArray, List.getElem_cons_zero, List.getElem_cons_succ, List.setIfInBounds_toArray, List.set_cons_zero, List.set_cons_succ])
            refine wpAnyH_take (i := 1) (v := .slice (some ⟨bl, 0, none⟩) n c) rfl (by kernel_rfl) (by kernel_rfl) (by kernel_rfl) (fun _ _ _ h => h) (Or.inl ⟨by kernel_rfl, by (intro W hS; obtain ⟨_, _, _, _, hS⟩ := hS; have y := hS.pb.box.cell 0; have yl := hS.pb.box.lt; go_simp; first | done | with_reducible rfl | rfl)⟩) ⟨_, _, _, by first | assumption | omega, hj171⟩ ?_
            (try simp only [Act.put, List.getElem_toArray, List.getElem_cons_zero, List.getElem_cons_succ, List.setIfInBounds_toArray, List.set_cons_zero, List.set_cons_succ])
            refine wpAnyH_take (i := 2) (v := .pointer (some ⟨w.heap.size + 1, 0, none⟩)) rfl (by kernel_rfl) (by kernel_rfl) (by kernel_rfl) (fun _ _ _ h => h) (Or.inl ⟨by kernel_rfl, by (intro W hS; go_simp; first | done | with_reducible rfl | rfl)⟩) ⟨_, _, _, by first | assumption | omega, hj171⟩ ?_
            (try simp only [Act.put, List.getElem_toArray, List.getElem_cons_zero, List.getElem_cons_succ, List.setIfInBounds_toArray, List.set_cons_zero, List.set_cons_succ])
            refine wpAnyH_take (i := 3) (v := .slice (some ⟨bl, 0, none⟩) n c) rfl (by kernel_rfl) (by kernel_rfl) (by kernel_rfl) (fun _ _ _ h => h) (Or.inl ⟨by kernel_rfl, by (intro W hS; obtain ⟨_, _, _, _, hS⟩ := hS; have y := hS.pb.box.cell 0; have yl := hS.pb.box.lt; go_simp; first | done | with_reducible rfl | rfl)⟩) ⟨_, _, _, by first | assumption | omega, hj171⟩ ?_
            (try simp only [Act.put, List.getElem_toArray, List.getElem_cons_zero, List.getElem_cons_succ, List.setIfInBounds_toArray, List.set_cons_zero, List.set_cons_succ])
            have ra176 : 0 < n := by omega
            refine' wpAnyH_take (i := 4) (v := _) rfl (by kernel_rfl) (by kernel_rfl) (by kernel_rfl) (fun _ _ _ h => h) (Or.inl ⟨by kernel_rfl, by (intro W hS; go_simp; first | done | with_reducible rfl | rfl)⟩) ⟨_, _, _, by first | assumption | omega, hj171⟩ ?_
            (try simp only [Act.put, List.getElem_toArray, List.getElem_cons_zero, List.getElem_cons_succ, List.setIfInBounds_toArray, List.set_cons_zero, List.set_cons_succ])
            refine' wpAnyH_take (i := 5) (v := _) rfl (by kernel_rfl) (by kernel_rfl) (by kernel_rfl) (fun _ _ _ h => h) (Or.inl ⟨by kernel_rfl, by (intro W hS; go_simp; first | done | with_reducible rfl | rfl)⟩) ⟨_, _, _, by first | assumption | omega, hj171⟩ ?_
            (try simp only [Act.put, List.getElem_toArray, List.getElem_cons_zero, List.getElem_cons_succ, List.setIfInBounds_toArray, List.set_cons_zero, List.set_cons_succ])
            refine wpAnyH_ready (rs := [6]) (by kernel_rfl) (by simp) ?_
            refine AllReadyH.cons rfl (fun K hK => ?_) AllReadyH.nil
            obtain ⟨hlbx, hltx, hcellx⟩ := hj171.slot (by omega)
            obtain ⟨⟨v178, yv, hwv178⟩, yfv⟩ := hcellx 0 (by omega)
            go_simp
            refine hK.out _ _ ⟨_, _, _, by first | assumption | omega, hj171⟩ (fun hHeld => ?_)
            clear hK K hHeld
            refine' wpAnyH_take (i := 7) (v := _) rfl (by kernel_rfl) (by kernel_rfl) (by kernel_rfl) (fun _ _ _ h => h) (Or.inl ⟨by kernel_rfl, by (intro W hS; go_simp; first | done | with_reducible rfl | rfl)⟩) ⟨_, _, _, by first | assumption | omega, hj171⟩ ?_
            (try simp only [Act.put, List.getElem_toArray, List.getElem_cons_zero, List.getElem_cons_succ, List.setIfInBounds_toArray, List.set_cons_zero, List.set_cons_succ])
            refine' wpAnyH_take (i := 8) (v := _) rfl (by kernel_rfl) (by kernel_rfl) (by kernel_rfl) (fun _ _ _ h => h) (Or.inl ⟨by kernel_rfl, by (intro W hS; go_simp; first | done | with_reducible rfl | rfl)⟩) ⟨_, _, _, by first | assumption | omega, hj171⟩ ?_
            (try simp only [Act.put, List.getElem_toArray, List.getElem_cons_zero, List.getElem_cons_succ, List.setIfInBounds_toArray, List.set_cons_zero, List.set_cons_succ])
            refine wpAnyH_ready (rs := [9]) (by kernel_rfl) (by simp) ?_
            refine AllReadyH.cons rfl (fun K hK => ?_) AllReadyH.nil
            obtain ⟨hlb, hlt, hcell⟩ := hj171.slot (by omega)
            obtain ⟨⟨x0, yx, -⟩, yf⟩ := hcell (4) (by omega)
            obtain ⟨ps181, us181, hps181, hj181⟩ := hj171.part hlg (4) (by omega) v178 (‹_›)
            go_simp
            refine hK.out _ _ ⟨_, _, _, by omega, hj181⟩ (fun hHeld => ?_)
            clear hK K hHeld
            refine wpAnyH_done (by kernel_rfl) ?_ _
            have HPB9 := hide hj181
            clear HPB
            generalize (World.setCell _ _ _) = w11 at HPB9 ⊢
            have HPB := HPB9
            clear HPB9
            obtain ⟨A, hA⟩ : ∃ A : Option Addr, A = some ⟨bl, 0, none⟩ := ⟨_, rfl⟩
            rw [← hA] at HPB
            clear hA
            have x0 := HPB.out.pb.box.cell 0
            have x1 := HPB.out.pb.box.cell 1
            have x2 := HPB.out.pb.box.cell 2
            have xl := HPB.out.pb.box.lt
            have v0 := HPB.out.pb.box.frozen 0
            have v1 := HPB.out.pb.box.frozen 1
            have v2 := HPB.out.pb.box.frozen 2
            go_upto_region 29 with fail
            clear x0 x1 x2 xl v0 v1 v2
            have z0 := HPB.out.z.cell 0
            have z1 := HPB.out.z.cell 1
            have z2 := HPB.out.z.cell 2
            have y0 := HPB.out.z.frozen 0
            have y1 := HPB.out.z.frozen 1
            have y2 := HPB.out.z.frozen 2
            have zl := HPB.out.z.lt
            have x0 := HPB.out.pb.box.cell 0
            have x1 := HPB.out.pb.box.cell 1
            have x2 := HPB.out.pb.box.cell 2
            have xl := HPB.out.pb.box.lt
            go_wp2
            refine bodyPost_ret (ret_row rfl _ _ w.heap.size 24 [.slice A n c, .int .i64 op, .int .i64 fi] (HPB.out.z.setAll [.slice A n c, .int .i64 op, .int .i64 fi] rfl) _ rfl Tryd.underlying24 rfl (by kernel_rfl)) rfl ?_
            exact HPB.out.out hlg (setN_grown [.slice A n c, .int .i64 op, .int .i64 fi] 0 (grown_refl _ (some w.heap.size))) (by omega) hwo hwf (by omega)
          · have hzI : ¬ ((1 : Int) < (n : Int)) := by omega
            clear hop
            have x0 := HPB.out.pb.box.cell 0
            have x1 := HPB.out.pb.box.cell 1
            have x2 := HPB.out.pb.box.cell 2
            have xl := HPB.out.pb.box.lt
            have v0 := HPB.out.pb.box.frozen 0
            have v1 := HPB.out.pb.box.frozen 1
            have v2 := HPB.out.pb.box.frozen 2
            go_upto_region 29 with fail
            clear x0 x1 x2 xl v0 v1 v2
            obtain ⟨fi, hfi⟩ : ∃ o : Int, o = (f : Int) := ⟨_, rfl⟩
            rw [← hfi] at HPB
            have hwf : (Lit.int .i64 fi).wf = true := WalkArith.wf_i64 (by omega)
            clear hfi
            have z0 := HPB.out.z.cell 0
            have z1 := HPB.out.z.cell 1
            have z2 := HPB.out.z.cell 2
            have y0 := HPB.out.z.frozen 0
            have y1 := HPB.out.z.frozen 1
            have y2 := HPB.out.z.frozen 2
            have zl := HPB.out.z.lt
            have x0 := HPB.out.pb.box.cell 0
            have x1 := HPB.out.pb.box.cell 1
            have x2 := HPB.out.pb.box.cell 2
            have xl := HPB.out.pb.box.lt
            go_wp2
            refine bodyPost_ret (ret_row rfl _ _ w.heap.size 24 [.slice A n c, .int .i64 op, .int .i64 fi] (HPB.out.z.setAll [.slice A n c, .int .i64 op, .int .i64 fi] rfl) _ rfl Tryd.underlying24 rfl (by kernel_rfl)) rfl ?_
            exact HPB.out.out hlg (setN_grown [.slice A n c, .int .i64 op, .int .i64 fi] 0 (grown_refl _ (some w.heap.size))) (by omega) hwo hwf (by omega)
        have m4 : ¬ ((r : Int) = 4) := by omega
        have n4 : ((r : Int) == 4) = false := beq_eq_false_iff_ne.2 (by omega)
        clear hop
        have x0 := HPB.out.pb.box.cell 0
        have x1 := HPB.out.pb.box.cell 1
        have x2 := HPB.out.pb.box.cell 2
        have xl := HPB.out.pb.box.lt
        have v0 := HPB.out.pb.box.frozen 0
        have v1 := HPB.out.pb.box.frozen 1
        have v2 := HPB.out.pb.box.frozen 2
        go_upto_region 29 with fail
        clear x0 x1 x2 xl v0 v1 v2
        obtain ⟨fi, hfi⟩ : ∃ o : Int, o = (f : Int) := ⟨_, rfl⟩
        rw [← hfi] at HPB
        have hwf : (Lit.int .i64 fi).wf = true := WalkArith.wf_i64 (by omega)
        clear hfi
        have z0 := HPB.out.z.cell 0
        have z1 := HPB.out.z.cell 1
        have z2 := HPB.out.z.cell 2
        have y0 := HPB.out.z.frozen 0
        have y1 := HPB.out.z.frozen 1
        have y2 := HPB.out.z.frozen 2
        have zl := HPB.out.z.lt
        have x0 := HPB.out.pb.box.cell 0
        have x1 := HPB.out.pb.box.cell 1
        have x2 := HPB.out.pb.box.cell 2
        have xl := HPB.out.pb.box.lt
        go_wp2
        refine bodyPost_ret (ret_row rfl _ _ w.heap.size 24 [.slice A n c, .int .i64 op, .int .i64 fi] (HPB.out.z.setAll [.slice A n c, .int .i64 op, .int .i64 fi] rfl) _ rfl Tryd.underlying24 rfl (by kernel_rfl)) rfl ?_
        exact HPB.out.out hlg (setN_grown [.slice A n c, .int .i64 op, .int .i64 fi] 0 (grown_refl _ (some w.heap.size))) (by omega) hwo hwf (by omega)
      · have hltI : (n : Int) < (n0 : Int) := by omega
        go_upto_region 9 with fail
        go_cut [7] from 25 to 42 (fun xv wx => ∃ (xb m1 m2 k' : Nat), xv = .pointer (some ⟨xb, 0, none⟩) ∧ m1 ≤ 297 ∧ m2 ≤ 7821 ∧ k' ≤ k2 + 4 ∧ w.heap.size + 2 ≤ xb ∧ PlB w wx g L k' ps 0 (f : Int) A n c us ∧ Row wx xb 35 [.int .i64 (num : Int), .int .i64 (f : Int), .int .i64 ((f : Int) + (m1 : Int)), .int .i64 (m2 : Int)] ∧ (Value.slice A n c).ownBlock ≠ some xb)
        case first =>
          go_wp2_with fail
          have hj1 := HPB.out.step (w' := wr.drew) (below_drewN (Below.refl _ _) 1)
          refine wp_region_held_drew (S := fun W => ∃ k', PlB w W g L k' ps 0 (f : Int) A n c us) (by kernel_rfl) ⟨_, hj1⟩ (fun _ => ?_)
          generalize wr.drew = v1 at *
          refine wpAnyH_take (i := 0) (v := .int .i64 (num : Int)) rfl (by kernel_rfl) (by kernel_rfl) (by kernel_rfl) (fun _ _ _ h => h) (Or.inl ⟨by kernel_rfl, by (intro W hS; go_simp; first | done | with_reducible rfl | rfl)⟩) ⟨_, hj1⟩ ?_
          (try simp only [Act.put, List.getElem_toArray, List.getElem_cons_zero, List.getElem_cons_succ, List.setIfInBounds_toArray, List.set_cons_zero, List.set_cons_succ])
          refine wpAnyH_take (i := 1) (v := .pointer (some ⟨w.heap.size + 1, 2, none⟩)) rfl (by kernel_rfl) (by kernel_rfl) (by kernel_rfl) (fun _ _ _ h => h) (Or.inl ⟨by kernel_rfl, by (intro W hS; go_simp; first | done | with_reducible rfl | rfl)⟩) ⟨_, hj1⟩ ?_
          (try simp only [Act.put, List.getElem_toArray, List.getElem_cons_zero, List.getElem_cons_succ, List.setIfInBounds_toArray, List.set_cons_zero, List.set_cons_succ])
          refine wpAnyH_take (i := 2) (v := .int .i64 (f : Int)) rfl (by kernel_rfl) (by kernel_rfl) (by kernel_rfl) (fun _ _ _ h => h) (Or.inl ⟨by kernel_rfl, by (intro W hS; obtain ⟨_, hS⟩ := hS; have y := hS.pb.box.cell 2; have yl := hS.pb.box.lt; go_simp; first | done | with_reducible rfl | rfl)⟩) ⟨_, hj1⟩ ?_
          (try simp only [Act.put, List.getElem_toArray, List.getElem_cons_zero, List.getElem_cons_succ, List.setIfInBounds_toArray, List.set_cons_zero, List.set_cons_succ])
          refine wpAnyH_take (i := 3) (v := .pointer (some ⟨w.heap.size + 1, 2, none⟩)) rfl (by kernel_rfl) (by kernel_rfl) (by kernel_rfl) (fun _ _ _ h => h) (Or.inl ⟨by kernel_rfl, by (intro W hS; go_simp; first | done | with_reducible rfl | rfl)⟩) ⟨_, hj1⟩ ?_
          (try simp only [Act.put, List.getElem_toArray, List.getElem_cons_zero, List.getElem_cons_succ, List.setIfInBounds_toArray, List.set_cons_zero, List.set_cons_succ])
          refine wpAnyH_take (i := 4) (v := .int .i64 (f : Int)) rfl (by kernel_rfl) (by kernel_rfl) (by kernel_rfl) (fun _ _ _ h => h) (Or.inl ⟨by kernel_rfl, by (intro W hS; obtain ⟨_, hS⟩ := hS; have y := hS.pb.box.cell 2; have yl := hS.pb.box.lt; go_simp; first | done | with_reducible rfl | rfl)⟩) ⟨_, hj1⟩ ?_
          (try simp only [Act.put, List.getElem_toArray, List.getElem_cons_zero, List.getElem_cons_succ, List.setIfInBounds_toArray, List.set_cons_zero, List.set_cons_succ])
          refine wpAnyH_take (i := 5) (v := .pointer (some ⟨g, 0, none⟩)) rfl (by kernel_rfl) (by kernel_rfl) (by kernel_rfl) (fun _ _ _ h => h) (Or.inl ⟨by kernel_rfl, by (intro W hS; go_simp; first | done | with_reducible rfl | rfl)⟩) ⟨_, hj1⟩ ?_
          (try simp only [Act.put, List.getElem_toArray, List.getElem_cons_zero, List.getElem_cons_succ, List.setIfInBounds_toArray, List.set_cons_zero, List.set_cons_succ])
          refine wpAnyH_take (i := 7) (v := .pointer (some ⟨g, 0, none⟩)) rfl (by kernel_rfl) (by kernel_rfl) (by kernel_rfl) (fun _ _ _ h => h) (Or.inl ⟨by kernel_rfl, by (intro W hS; go_simp; first | done | with_reducible rfl | rfl)⟩) ⟨_, hj1⟩ ?_
          (try simp only [Act.put, List.getElem_toArray, List.getElem_cons_zero, List.getElem_cons_succ, List.setIfInBounds_toArray, List.set_cons_zero, List.set_cons_succ])
          refine wpAnyH_take (i := 11) (v := .pointer (some ⟨g, 0, none⟩)) rfl (by kernel_rfl) (by kernel_rfl) (by kernel_rfl) (fun _ _ _ h => h) (Or.inl ⟨by kernel_rfl, by (intro W hS; go_simp; first | done | with_reducible rfl | rfl)⟩) ⟨_, hj1⟩ ?_
          (try simp only [Act.put, List.getElem_toArray, List.getElem_cons_zero, List.getElem_cons_succ, List.setIfInBounds_toArray, List.set_cons_zero, List.set_cons_succ])
          refine wpAnyH_take (i := 13) (v := .pointer (some ⟨g, 0, none⟩)) rfl (by kernel_rfl) (by kernel_rfl) (by kernel_rfl) (fun _ _ _ h => h) (Or.inl ⟨by kernel_rfl, by (intro W hS; go_simp; first | done | with_reducible rfl | rfl)⟩) ⟨_, hj1⟩ ?_
          (try simp only [Act.put, List.getElem_toArray, List.getElem_cons_zero, List.getElem_cons_succ, List.setIfInBounds_toArray, List.set_cons_zero, List.set_cons_succ])
          refine wpAnyH_ready (rs := [6, 17]) (by kernel_rfl) (by simp) ?_
          refine AllReadyH.cons rfl (fun K hK => ?_) ?_
          · go_simp
            go_at_call 49
            refine (pick_any hj1.rd (n := 4) (by omega) (by omega) (by omega)).mono ?_
            rintro e v11 ⟨r11, rfl, hlt11, hr11, hg11⟩
            have hj11 := hj1.pick hlg hr11 hg11
            clear hr11 hg11
            try go_simp
            refine hK.out _ _ ⟨_, hj11⟩ (fun hHeld => ?_)
            clear hK K hHeld
            refine wpAnyH_ready (rs := [8, 17]) (by kernel_rfl) (by simp) ?_
            refine AllReadyH.cons rfl (fun K hK => ?_) ?_
            · go_simp
              go_at_call 49
              refine (pick_any hj11.rd (n := 100) (by omega) (by omega) (by omega)).mono ?_
              rintro e v12 ⟨r12, rfl, hlt12, hr12, hg12⟩
              have hj12 := hj11.pick hlg hr12 hg12
              clear hr12 hg12
              try go_simp
              refine hK.out _ _ ⟨_, hj12⟩ (fun hHeld => ?_)
              clear hK K hHeld
              obtain ⟨m113, hm113⟩ : ∃ m : Nat, r11 * r12 = m := ⟨_, rfl⟩
              have hm1b13 : m113 ≤ 297 := by rw [← hm113]; exact Nat.mul_le_mul (show r11 ≤ 3 by omega) (show r12 ≤ 99 by omega)
              have hm1e13 : ((r11 : Nat) : Int) * ((r12 : Nat) : Int) = ((m113 : Nat) : Int) := by rw [← hm113]; exact (Int.natCast_mul _ _).symm
              have hm1w13 : IntKind.i64.wrap (((r11 : Nat) : Int) * ((r12 : Nat) : Int)) = ((m113 : Nat) : Int) := by rw [hm1e13]; exact wrapI _ (by omega) (by omega)
              have hm1v13 : wrap64 (((r11 : Nat) : Int) * ((r12 : Nat) : Int)) = ((m113 : Nat) : Int) := by rw [hm1e13]; unfold wrap64; omega
              clear hm113 hm1e13
              refine wpAnyH_take (i := 9) (v := .int .i64 ((m113 : Nat) : Int)) rfl (by kernel_rfl) (by kernel_rfl) (by kernel_rfl) (fun _ _ _ h => h) (Or.inl ⟨by kernel_rfl, by (intro W hS; go_simp; first | done | with_reducible rfl | rfl)⟩) ⟨_, hj12⟩ ?_
              (try simp only [Act.put, List.getElem_toArray, List.getElem_cons_zero, List.getElem_cons_succ, List.setIfInBounds_toArray, List.set_cons_zero, List.set_cons_succ])
              clear hm1w13 hm1v13
              have haw14 : IntKind.i64.wrap ((f : Int) + ((m113 : Nat) : Int)) = (f : Int) + (m113 : Int) := wrapI _ (by omega) (by omega)
              have hav14 : wrap64 ((f : Int) + ((m113 : Nat) : Int)) = (f : Int) + (m113 : Int) := by unfold wrap64; omega
              refine wpAnyH_take (i := 10) (v := .int .i64 ((f : Int) + (m113 : Int))) rfl (by kernel_rfl) (by kernel_rfl) (by kernel_rfl) (fun _ _ _ h => h) (Or.inl ⟨by kernel_rfl, by (intro W hS; go_simp; first | done | with_reducible rfl | rfl)⟩) ⟨_, hj12⟩ ?_
              (try simp only [Act.put, List.getElem_toArray, List.getElem_cons_zero, List.getElem_cons_succ, List.setIfInBounds_toArray, List.set_cons_zero, List.set_cons_succ])
              clear haw14 hav14
              refine wpAnyH_ready (rs := [12, 17]) (by kernel_rfl) (by simp) ?_
              refine AllReadyH.cons rfl (fun K hK => ?_) ?_
              · go_simp
                go_at_call 49
                refine (pick_any hj12.rd (n := 100) (by omega) (by omega) (by omega)).mono ?_
                rintro e v15 ⟨r15, rfl, hlt15, hr15, hg15⟩
                have hj15 := hj12.pick hlg hr15 hg15
                clear hr15 hg15
                try go_simp
                refine hK.out _ _ ⟨_, hj15⟩ (fun hHeld => ?_)
                clear hK K hHeld
                refine wpAnyH_ready (rs := [14, 17]) (by kernel_rfl) (by simp) ?_
                refine AllReadyH.cons rfl (fun K hK => ?_) ?_
                · go_simp
                  go_at_call 49
                  refine (pick_any hj15.rd (n := 80) (by omega) (by omega) (by omega)).mono ?_
                  rintro e v16 ⟨r16, rfl, hlt16, hr16, hg16⟩
                  have hj16 := hj15.pick hlg hr16 hg16
                  clear hr16 hg16
                  try go_simp
                  refine hK.out _ _ ⟨_, hj16⟩ (fun hHeld => ?_)
                  clear hK K hHeld
                  obtain ⟨m217, hm217⟩ : ∃ m : Nat, r15 * r16 = m := ⟨_, rfl⟩
                  have hm2b17 : m217 ≤ 7821 := by rw [← hm217]; exact Nat.mul_le_mul (show r15 ≤ 99 by omega) (show r16 ≤ 79 by omega)
                  have hm2e17 : ((r15 : Nat) : Int) * ((r16 : Nat) : Int) = ((m217 : Nat) : Int) := by rw [← hm217]; exact (Int.natCast_mul _ _).symm
                  have hm2w17 : IntKind.i64.wrap (((r15 : Nat) : Int) * ((r16 : Nat) : Int)) = ((m217 : Nat) : Int) := by rw [hm2e17]; exact wrapI _ (by omega) (by omega)
                  have hm2v17 : wrap64 (((r15 : Nat) : Int) * ((r16 : Nat) : Int)) = ((m217 : Nat) : Int) := by rw [hm2e17]; unfold wrap64; omega
                  clear hm217 hm2e17
                  refine wpAnyH_take (i := 15) (v := .int .i64 ((m217 : Nat) : Int)) rfl (by kernel_rfl) (by kernel_rfl) (by kernel_rfl) (fun _ _ _ h => h) (Or.inl ⟨by kernel_rfl, by (intro W hS; go_simp; first | done | with_reducible rfl | rfl)⟩) ⟨_, hj16⟩ ?_
                  (try simp only [Act.put, List.getElem_toArray, List.getElem_cons_zero, List.getElem_cons_succ, List.setIfInBounds_toArray, List.set_cons_zero, List.set_cons_succ])
                  clear hm2w17 hm2v17
                  refine wpAnyH_take (i := 16) (v := .agg #[.int .i64 (num : Int), .int .i64 (f : Int), .int .i64 ((f : Int) + (m113 : Int)), .int .i64 (m217 : Int)]) rfl (by kernel_rfl) (by kernel_rfl) (by kernel_rfl) (fun _ _ _ h => h) (Or.inl ⟨by kernel_rfl, by (intro W hS; go_simp; first | done | with_reducible rfl | rfl)⟩) ⟨_, hj16⟩ ?_
                  (try simp only [Act.put, List.getElem_toArray, List.getElem_cons_zero, List.getElem_cons_succ, List.setIfInBounds_toArray, List.set_cons_zero, List.set_cons_succ])
                  refine wpAnyH_ready (rs := [17]) (by kernel_rfl) (by simp) ?_
                  refine AllReadyH.cons rfl (fun K hK => ?_) AllReadyH.nil
                  go_simp
                  have hq19 : Below v16.heap.size v16 (v16.alloc (.cells #[.int .i64 0, .int .i64 0, .int .i64 0, .int .i64 0] 35)) := (Below.refl _ _).alloc (Nat.le_refl _) _
                  have hj19 := hj16.step hq19
                  have hr19 : Row (v16.alloc (.cells #[.int .i64 0, .int .i64 0, .int .i64 0, .int .i64 0] 35)) v16.heap.size 35 [.int .i64 0, .int .i64 0, .int .i64 0, .int .i64 0] := Row.new _ _ _
                  have hlo19 : w.heap.size + 2 ≤ v16.heap.size := hj16.pb.box.lt
                  have hne19 : (Value.slice A n c).ownBlock ≠ some v16.heap.size := fun e => Nat.lt_irrefl _ (hj16.pb.own.lt _ e)
                  refine hK.out _ _ ⟨_, hj19⟩ (fun hHeld => ?_)
                  clear hK K hHeld
                  obtain ⟨blk19, hblk19⟩ : ∃ n, n = v16.heap.size := ⟨_, rfl⟩
                  rw [← hblk19] at hr19 hlo19 hne19
                  simp only [← hblk19]
                  generalize v16.alloc _ = v19 at *
                  clear hblk19
                  refine wpAnyH_ready (rs := [18]) (by kernel_rfl) (by simp) ?_
                  refine AllReadyH.cons rfl (fun K hK => ?_) AllReadyH.nil
                  have y0 := hr19.cell 0
                  have y1 := hr19.cell 1
                  have y2 := hr19.cell 2
                  have y3 := hr19.cell 3
                  have z0 := hr19.frozen 0
                  have z1 := hr19.frozen 1
                  have z2 := hr19.frozen 2
                  have z3 := hr19.frozen 3
                  have yl := hr19.lt
                  have hj1 := hj19.xput (b := blk19) (by omega) ‹_› hlg 0 (.int .i64 (num : Int))
                  have hj2 := hj1.xput (b := blk19) (by omega) ‹_› hlg 1 (.int .i64 (f : Int))
                  have hj3 := hj2.xput (b := blk19) (by omega) ‹_› hlg 2 (.int .i64 ((f : Int) + (m113 : Int)))
                  have hj20 := hj3.xput (b := blk19) (by omega) ‹_› hlg 3 (.int .i64 (m217 : Int))
                  have hx20 := hr19.setAll [.int .i64 (num : Int), .int .i64 (f : Int), .int .i64 ((f : Int) + (m113 : Int)), .int .i64 (m217 : Int)] rfl
                  go_simp
                  refine hK.out _ _ ⟨_, hj20⟩ (fun hHeld => ?_)
                  clear hK K hHeld
                  refine wpAnyH_done (by kernel_rfl) ?_ _
                  go_wp2_with fail
                  go_meet
                  exact ⟨blk19, m113, m217, _, rfl, by omega, by omega, by omega, by omega, hj20, hx20, ‹_›⟩
                refine AllReadyH.cons rfl (fun K hK => ?_) AllReadyH.nil
                · go_simp
                  have hq21 : Below v15.heap.size v15 (v15.alloc (.cells #[.int .i64 0, .int .i64 0, .int .i64 0, .int .i64 0] 35)) := (Below.refl _ _).alloc (Nat.le_refl _) _
                  have hj21 := hj15.step hq21
                  have hr21 : Row (v15.alloc (.cells #[.int .i64 0, .int .i64 0, .int .i64 0, .int .i64 0] 35)) v15.heap.size 35 [.int .i64 0, .int .i64 0, .int .i64 0, .int .i64 0] := Row.new _ _ _
                  have hlo21 : w.heap.size + 2 ≤ v15.heap.size := hj15.pb.box.lt
                  have hne21 : (Value.slice A n c).ownBlock ≠ some v15.heap.size := fun e => Nat.lt_irrefl _ (hj15.pb.own.lt _ e)
                  refine hK.out _ _ ⟨_, hj21⟩ (fun hHeld => ?_)
                  clear hK K hHeld
                  obtain ⟨blk21, hblk21⟩ : ∃ n, n = v15.heap.size := ⟨_, rfl⟩
                  rw [← hblk21] at hr21 hlo21 hne21
                  simp only [← hblk21]
                  generalize v15.alloc _ = v21 at *
                  clear hblk21
                  refine wpAnyH_ready (rs := [14]) (by kernel_rfl) (by simp) ?_
                  refine AllReadyH.cons rfl (fun K hK => ?_) AllReadyH.nil
                  go_simp
                  go_at_call 49
                  refine (pick_any hj21.rd (n := 80) (by omega) (by omega) (by omega)).mono ?_
                  rintro e v22 ⟨r22, rfl, hlt22, hr22, hg22⟩
                  have hj22 := hj21.pick hlg hr22 hg22
                  have hr2122 := hr21.grown hg22 (fun e => by injection e with e; omega)
                  clear hr22 hg22
                  try go_simp
                  refine hK.out _ _ ⟨_, hj22⟩ (fun hHeld => ?_)
                  clear hK K hHeld
                  obtain ⟨m223, hm223⟩ : ∃ m : Nat, r15 * r22 = m := ⟨_, rfl⟩
                  have hm2b23 : m223 ≤ 7821 := by rw [← hm223]; exact Nat.mul_le_mul (show r15 ≤ 99 by omega) (show r22 ≤ 79 by omega)
                  have hm2e23 : ((r15 : Nat) : Int) * ((r22 : Nat) : Int) = ((m223 : Nat) : Int) := by rw [← hm223]; exact (Int.natCast_mul _ _).symm
                  have hm2w23 : IntKind.i64.wrap (((r15 : Nat) : Int) * ((r22 : Nat) : Int)) = ((m223 : Nat) : Int) := by rw [hm2e23]; exact wrapI _ (by omega) (by omega)
                  have hm2v23 : wrap64 (((r15 : Nat) : Int) * ((r22 : Nat) : Int)) = ((m223 : Nat) : Int) := by rw [hm2e23]; unfold wrap64; omega
                  clear hm223 hm2e23
                  refine wpAnyH_take (i := 15) (v := .int .i64 ((m223 : Nat) : Int)) rfl (by kernel_rfl) (by kernel_rfl) (by kernel_rfl) (fun _ _ _ h => h) (Or.inl ⟨by kernel_rfl, by (intro W hS; go_simp; first | done | with_reducible rfl | rfl)⟩) ⟨_, hj22⟩ ?_
                  (try simp only [Act.put, List.getElem_toArray, List.getElem_cons_zero, List.getElem_cons_succ, List.setIfInBounds_toArray, List.set_cons_zero, List.set_cons_succ])
                  clear hm2w23 hm2v23
                  refine wpAnyH_take (i := 16) (v := .agg #[.int .i64 (num : Int), .int .i64 (f : Int), .int .i64 ((f : Int) + (m113 : Int)), .int .i64 (m223 : Int)]) rfl (by kernel_rfl) (by kernel_rfl) (by kernel_rfl) (fun _ _ _ h => h) (Or.inl ⟨by kernel_rfl, by (intro W hS; go_simp; first | done | with_reducible rfl | rfl)⟩) ⟨_, hj22⟩ ?_
                  (try simp only [Act.put, List.getElem_toArray, List.getElem_cons_zero, List.getElem_cons_succ, List.setIfInBounds_toArray, List.set_cons_zero, List.set_cons_succ])
                  refine wpAnyH_ready (rs := [18]) (by kernel_rfl) (by simp) ?_
                  refine AllReadyH.cons rfl (fun K hK => ?_) AllReadyH.nil
                  have y0 := hr2122.cell 0
                  have y1 := hr2122.cell 1
                  have y2 := hr2122.cell 2
                  have y3 := hr2122.cell 3
                  have z0 := hr2122.frozen 0
                  have z1 := hr2122.frozen 1
                  have z2 := hr2122.frozen 2
                  have z3 := hr2122.frozen 3
                  have yl := hr2122.lt
                  have hj1 := hj22.xput (b := blk21) (by omega) ‹_› hlg 0 (.int .i64 (num : Int))
                  have hj2 := hj1.xput (b := blk21) (by omega) ‹_› hlg 1 (.int .i64 (f : Int))
                  have hj3 := hj2.xput (b := blk21) (by omega) ‹_› hlg 2 (.int .i64 ((f : Int) + (m113 : Int)))
                  have hj25 := hj3.xput (b := blk21) (by omega) ‹_› hlg 3 (.int .i64 (m223 : Int))
                  have hx25 := hr2122.setAll [.int .i64 (num : Int), .int .i64 (f : Int), .int .i64 ((f : Int) + (m113 : Int)), .int .i64 (m223 : Int)] rfl
                  go_simp
                  refine hK.out _ _ ⟨_, hj25⟩ (fun hHeld => ?_)
                  clear hK K hHeld
                  refine wpAnyH_done (by kernel_rfl) ?_ _
                  go_wp2_with fail
                  go_meet
                  exact ⟨blk21, m113, m223, _, rfl, by omega, by omega, by omega, by omega, hj25, hx25, ‹_›⟩
              refine AllReadyH.cons rfl (fun K hK => ?_) AllReadyH.nil
              · go_simp
                have hq26 : Below v12.heap.size v12 (v12.alloc (.cells #[.int .i64 0, .int .i64 0, .int .i64 0, .int .i64 0] 35)) := (Below.refl _ _).alloc (Nat.le_refl _) _
                have hj26 := hj12.step hq26
                have hr26 : Row (v12.alloc (.cells #[.int .i64 0, .int .i64 0, .int .i64 0, .int .i64 0] 35)) v12.heap.size 35 [.int .i64 0, .int .i64 0, .int .i64 0, .int .i64 0] := Row.new _ _ _
                have hlo26 : w.heap.size + 2 ≤ v12.heap.size := hj12.pb.box.lt
                have hne26 : (Value.slice A n c).ownBlock ≠ some v12.heap.size := fun e => Nat.lt_irrefl _ (hj12.pb.own.lt _ e)
                refine hK.out _ _ ⟨_, hj26⟩ (fun hHeld => ?_)
                clear hK K hHeld
                obtain ⟨blk26, hblk26⟩ : ∃ n, n = v12.heap.size := ⟨_, rfl⟩
                rw [← hblk26] at hr26 hlo26 hne26
                simp only [← hblk26]
                generalize v12.alloc _ = v26 at *
                clear hblk26
                refine wpAnyH_ready (rs := [12]) (by kernel_rfl) (by simp) ?_
                refine AllReadyH.cons rfl (fun K hK => ?_) AllReadyH.nil
                go_simp
                go_at_call 49
                refine (pick_any hj26.rd (n := 100) (by omega) (by omega) (by omega)).mono ?_
                rintro e v27 ⟨r27, rfl, hlt27, hr27, hg27⟩
                have hj27 := hj26.pick hlg hr27 hg27
                have hr2627 := hr26.grown hg27 (fun e => by injection e with e; omega)
                clear hr27 hg27
                try go_simp
                refine hK.out _ _ ⟨_, hj27⟩ (fun hHeld => ?_)
                clear hK K hHeld
                refine wpAnyH_ready (rs := [14]) (by kernel_rfl) (by simp) ?_
                refine AllReadyH.cons rfl (fun K hK => ?_) AllReadyH.nil
                go_simp
                go_at_call 49
                refine (pick_any hj27.rd (n := 80) (by omega) (by omega) (by omega)).mono ?_
                rintro e v28 ⟨r28, rfl, hlt28, hr28, hg28⟩
                have hj28 := hj27.pick hlg hr28 hg28
                have hr262728 := hr2627.grown hg28 (fun e => by injection e with e; omega)
                clear hr28 hg28
                try go_simp
                refine hK.out _ _ ⟨_, hj28⟩ (fun hHeld => ?_)
                clear hK K hHeld
                obtain ⟨m229, hm229⟩ : ∃ m : Nat, r27 * r28 = m := ⟨_, rfl⟩
                have hm2b29 : m229 ≤ 7821 := by rw [← hm229]; exact Nat.mul_le_mul (show r27 ≤ 99 by omega) (show r28 ≤ 79 by omega)
                have hm2e29 : ((r27 : Nat) : Int) * ((r28 : Nat) : Int) = ((m229 : Nat) : Int) := by rw [← hm229]; exact (Int.natCast_mul _ _).symm
                have hm2w29 : IntKind.i64.wrap (((r27 : Nat) : Int) * ((r28 : Nat) : Int)) = ((m229 : Nat) : Int) := by rw [hm2e29]; exact wrapI _ (by omega) (by omega)
                have hm2v29 : wrap64 (((r27 : Nat) : Int) * ((r28 : Nat) : Int)) = ((m229 : Nat) : Int) := by rw [hm2e29]; unfold wrap64; omega
                clear hm229 hm2e29
                refine wpAnyH_take (i := 15) (v := .int .i64 ((m229 : Nat) : Int)) rfl (by kernel_rfl) (by kernel_rfl) (by kernel_rfl) (fun _ _ _ h => h) (Or.inl ⟨by kernel_rfl, by (intro W hS; go_simp; first | done | with_reducible rfl | rfl)⟩) ⟨_, hj28⟩ ?_
                (try simp only [Act.put, List.getElem_toArray, List.getElem_cons_zero, List.getElem_cons_succ, List.setIfInBounds_toArray, List.set_cons_zero, List.set_cons_succ])
                clear hm2w29 hm2v29
                refine wpAnyH_take (i := 16) (v := .agg #[.int .i64 (num : Int), .int .i64 (f : Int), .int .i64 ((f : Int) + (m113 : Int)), .int .i64 (m229 : Int)]) rfl (by kernel_rfl) (by kernel_rfl) (by kernel_rfl) (fun _ _ _ h => h) (Or.inl ⟨by kernel_rfl, by (intro W hS; go_simp; first | done | with_reducible rfl | rfl)⟩) ⟨_, hj28⟩ ?_
                (try simp only [Act.put, List.getElem_toArray, List.getElem_cons_zero, List.getElem_cons_succ, List.setIfInBounds_toArray, List.set_cons_zero, List.set_cons_succ])
                refine wpAnyH_ready (rs := [18]) (by kernel_rfl) (by simp) ?_
                refine AllReadyH.cons rfl (fun K hK => ?_) AllReadyH.nil
                have y0 := hr262728.cell 0
                have y1 := hr262728.cell 1
                have y2 := hr262728.cell 2
                have y3 := hr262728.cell 3
                have z0 := hr262728.frozen 0
                have z1 := hr262728.frozen 1
                have z2 := hr262728.frozen 2
                have z3 := hr262728.frozen 3
                have yl := hr262728.lt
                have hj1 := hj28.xput (b := blk26) (by omega) ‹_› hlg 0 (.int .i64 (num : Int))
                have hj2 := hj1.xput (b := blk26) (by omega) ‹_› hlg 1 (.int .i64 (f : Int))
                have hj3 := hj2.xput (b := blk26) (by omega) ‹_› hlg 2 (.int .i64 ((f : Int) + (m113 : Int)))
                have hj31 := hj3.xput (b := blk26) (by omega) ‹_› hlg 3 (.int .i64 (m229 : Int))
                have hx31 := hr262728.setAll [.int .i64 (num : Int), .int .i64 (f : Int), .int .i64 ((f : Int) + (m113 : Int)), .int .i64 (m229 : Int)] rfl
                go_simp
                refine hK.out _ _ ⟨_, hj31⟩ (fun hHeld => ?_)
                clear hK K hHeld
                refine wpAnyH_done (by kernel_rfl) ?_ _
                go_wp2_with fail
                go_meet
                exact ⟨blk26, m113, m229, _, rfl, by omega, by omega, by omega, by omega, hj31, hx31, ‹_›⟩
            refine AllReadyH.cons rfl (fun K hK => ?_) AllReadyH.nil
            · go_simp
              have hq32 : Below v11.heap.size v11 (v11.alloc (.cells #[.int .i64 0, .int .i64 0, .int .i64 0, .int .i64 0] 35)) := (Below.refl _ _).alloc (Nat.le_refl _) _
              have hj32 := hj11.step hq32
              have hr32 : Row (v11.alloc (.cells #[.int .i64 0, .int .i64 0, .int .i64 0, .int .i64 0] 35)) v11.heap.size 35 [.int .i64 0, .int .i64 0, .int .i64 0, .int .i64 0] := Row.new _ _ _
              have hlo32 : w.heap.size + 2 ≤ v11.heap.size := hj11.pb.box.lt
              have hne32 : (Value.slice A n c).ownBlock ≠ some v11.heap.size := fun e => Nat.lt_irrefl _ (hj11.pb.own.lt _ e)
              refine hK.out _ _ ⟨_, hj32⟩ (fun hHeld => ?_)
              clear hK K hHeld
              obtain ⟨blk32, hblk32⟩ : ∃ n, n = v11.heap.size := ⟨_, rfl⟩
              rw [← hblk32] at hr32 hlo32 hne32
              simp only [← hblk32]
              generalize v11.alloc _ = v32 at *
              clear hblk32
              refine wpAnyH_ready (rs := [8]) (by kernel_rfl) (by simp) ?_
              refine AllReadyH.cons rfl (fun K hK => ?_) AllReadyH.nil
              go_simp
              go_at_call 49
              refine (pick_any hj32.rd (n := 100) (by omega) (by omega) (by omega)).mono ?_
              rintro e v33 ⟨r33, rfl, hlt33, hr33, hg33⟩
              have hj33 := hj32.pick hlg hr33 hg33
              have hr3233 := hr32.grown hg33 (fun e => by injection e with e; omega)
              clear hr33 hg33
              try go_simp
              refine hK.out _ _ ⟨_, hj33⟩ (fun hHeld => ?_)
              clear hK K hHeld
              obtain ⟨m134, hm134⟩ : ∃ m : Nat, r11 * r33 = m := ⟨_, rfl⟩
              have hm1b34 : m134 ≤ 297 := by rw [← hm134]; exact Nat.mul_le_mul (show r11 ≤ 3 by omega) (show r33 ≤ 99 by omega)
              have hm1e34 : ((r11 : Nat) : Int) * ((r33 : Nat) : Int) = ((m134 : Nat) : Int) := by rw [← hm134]; exact (Int.natCast_mul _ _).symm
              have hm1w34 : IntKind.i64.wrap (((r11 : Nat) : Int) * ((r33 : Nat) : Int)) = ((m134 : Nat) : Int) := by rw [hm1e34]; exact wrapI _ (by omega) (by omega)
              have hm1v34 : wrap64 (((r11 : Nat) : Int) * ((r33 : Nat) : Int)) = ((m134 : Nat) : Int) := by rw [hm1e34]; unfold wrap64; omega
              clear hm134 hm1e34
              refine wpAnyH_take (i := 9) (v := .int .i64 ((m134 : Nat) : Int)) rfl (by kernel_rfl) (by kernel_rfl) (by kernel_rfl) (fun _ _ _ h => h) (Or.inl ⟨by kernel_rfl, by (intro W hS; go_simp; first | done | with_reducible rfl | rfl)⟩) ⟨_, hj33⟩ ?_
              (try simp only [Act.put, List.getElem_toArray, List.getElem_cons_zero, List.getElem_cons_succ, List.setIfInBounds_toArray, List.set_cons_zero, List.set_cons_succ])
              clear hm1w34 hm1v34
              have haw35 : IntKind.i64.wrap ((f : Int) + ((m134 : Nat) : Int)) = (f : Int) + (m134 : Int) := wrapI _ (by omega) (by omega)
              have hav35 : wrap64 ((f : Int) + ((m134 : Nat) : Int)) = (f : Int) + (m134 : Int) := by unfold wrap64; omega
              refine wpAnyH_take (i := 10) (v := .int .i64 ((f : Int) + (m134 : Int))) rfl (by kernel_rfl) (by kernel_rfl) (by kernel_rfl) (fun _ _ _ h => h) (Or.inl ⟨by kernel_rfl, by (intro W hS; go_simp; first | done | with_reducible rfl | rfl)⟩) ⟨_, hj33⟩ ?_
              (try simp only [Act.put, List.getElem_toArray, List.getElem_cons_zero, List.getElem_cons_succ, List.setIfInBounds_toArray, List.set_cons_zero, List.set_cons_succ])
              clear haw35 hav35
              refine wpAnyH_ready (rs := [12]) (by kernel_rfl) (by simp) ?_
              refine AllReadyH.cons rfl (fun K hK => ?_) AllReadyH.nil
              go_simp
              go_at_call 49
              refine (pick_any hj33.rd (n := 100) (by omega) (by omega) (by omega)).mono ?_
              rintro e v36 ⟨r36, rfl, hlt36, hr36, hg36⟩
              have hj36 := hj33.pick hlg hr36 hg36
              have hr323336 := hr3233.grown hg36 (fun e => by injection e with e; omega)
              clear hr36 hg36
              try go_simp
              refine hK.out _ _ ⟨_, hj36⟩ (fun hHeld => ?_)
              clear hK K hHeld
              refine wpAnyH_ready (rs := [14]) (by kernel_rfl) (by simp) ?_
              refine AllReadyH.cons rfl (fun K hK => ?_) AllReadyH.nil
              go_simp
              go_at_call 49
              refine (pick_any hj36.rd (n := 80) (by omega) (by omega) (by omega)).mono ?_
              rintro e v37 ⟨r37, rfl, hlt37, hr37, hg37⟩
              have hj37 := hj36.pick hlg hr37 hg37
              have hr32333637 := hr323336.grown hg37 (fun e => by injection e with e; omega)
              clear hr37 hg37
              try go_simp
              refine hK.out _ _ ⟨_, hj37⟩ (fun hHeld => ?_)
              clear hK K hHeld
              obtain ⟨m238, hm238⟩ : ∃ m : Nat, r36 * r37 = m := ⟨_, rfl⟩
              have hm2b38 : m238 ≤ 7821 := by rw [← hm238]; exact Nat.mul_le_mul (show r36 ≤ 99 by omega) (show r37 ≤ 79 by omega)
              have hm2e38 : ((r36 : Nat) : Int) * ((r37 : Nat) : Int) = ((m238 : Nat) : Int) := by rw [← hm238]; exact (Int.natCast_mul _ _).symm
              have hm2w38 : IntKind.i64.wrap (((r36 : Nat) : Int) * ((r37 : Nat) : Int)) = ((m238 : Nat) : Int) := by rw [hm2e38]; exact wrapI _ (by omega) (by omega)
              have hm2v38 : wrap64 (((r36 : Nat) : Int) * ((r37 : Nat) : Int)) = ((m238 : Nat) : Int) := by rw [hm2e38]; unfold wrap64; omega
              clear hm238 hm2e38
              refine wpAnyH_take (i := 15) (v := .int .i64 ((m238 : Nat) : Int)) rfl (by kernel_rfl) (by kernel_rfl) (by kernel_rfl) (fun _ _ _ h => h) (Or.inl ⟨by kernel_rfl, by (intro W hS; go_simp; first | done | with_reducible rfl | rfl)⟩) ⟨_, hj37⟩ ?_
              (try simp only [Act.put, List.getElem_toArray, List.getElem_cons_zero, List.getElem_cons_succ, List.setIfInBounds_toArray, List.set_cons_zero, List.set_cons_succ])
              clear hm2w38 hm2v38
              refine wpAnyH_take (i := 16) (v := .agg #[.int .i64 (num : Int), .int .i64 (f : Int), .int .i64 ((f : Int) + (m134 : Int)), .int .i64 (m238 : Int)]) rfl (by kernel_rfl) (by kernel_rfl) (by kernel_rfl) (fun _ _ _ h => h) (Or.inl ⟨by kernel_rfl, by (intro W hS; go_simp; first | done | with_reducible rfl | rfl)⟩) ⟨_, hj37⟩ ?_
              (try simp only [Act.put, List.getElem_toArray, List.getElem_cons_zero, List.getElem_cons_succ, List.setIfInBounds_toArray, List.set_cons_zero, List.set_cons_succ])
              refine wpAnyH_ready (rs := [18]) (by kernel_rfl) (by simp) ?_
              refine AllReadyH.cons rfl (fun K hK => ?_) AllReadyH.nil
              have y0 := hr32333637.cell 0
              have y1 := hr32333637.cell 1
              have y2 := hr32333637.cell 2
              have y3 := hr32333637.cell 3
              have z0 := hr32333637.frozen 0
              have z1 := hr32333637.frozen 1
              have z2 := hr32333637.frozen 2
              have z3 := hr32333637.frozen 3
              have yl := hr32333637.lt
              have hj1 := hj37.xput (b := blk32) (by omega) ‹_› hlg 0 (.int .i64 (num : Int))
              have hj2 := hj1.xput (b := blk32) (by omega) ‹_› hlg 1 (.int .i64 (f : Int))
              have hj3 := hj2.xput (b := blk32) (by omega) ‹_› hlg 2 (.int .i64 ((f : Int) + (m134 : Int)))
              have hj40 := hj3.xput (b := blk32) (by omega) ‹_› hlg 3 (.int .i64 (m238 : Int))
              have hx40 := hr32333637.setAll [.int .i64 (num : Int), .int .i64 (f : Int), .int .i64 ((f : Int) + (m134 : Int)), .int .i64 (m238 : Int)] rfl
              go_simp
              refine hK.out _ _ ⟨_, hj40⟩ (fun hHeld => ?_)
              clear hK K hHeld
              refine wpAnyH_done (by kernel_rfl) ?_ _
              go_wp2_with fail
              go_meet
              exact ⟨blk32, m134, m238, _, rfl, by omega, by omega, by omega, by omega, hj40, hx40, ‹_›⟩
          refine AllReadyH.cons rfl (fun K hK => ?_) AllReadyH.nil
          · go_simp
            have hq41 : Below v1.heap.size v1 (v1.alloc (.cells #[.int .i64 0, .int .i64 0, .int .i64 0, .int .i64 0] 35)) := (Below.refl _ _).alloc (Nat.le_refl _) _
            have hj41 := hj1.step hq41
            have hr41 : Row (v1.alloc (.cells #[.int .i64 0, .int .i64 0, .int .i64 0, .int .i64 0] 35)) v1.heap.size 35 [.int .i64 0, .int .i64 0, .int .i64 0, .int .i64 0] := Row.new _ _ _
            have hlo41 : w.heap.size + 2 ≤ v1.heap.size := hj1.pb.box.lt
            have hne41 : (Value.slice A n c).ownBlock ≠ some v1.heap.size := fun e => Nat.lt_irrefl _ (hj1.pb.own.lt _ e)
            refine hK.out _ _ ⟨_, hj41⟩ (fun hHeld => ?_)
            clear hK K hHeld
            obtain ⟨blk41, hblk41⟩ : ∃ n, n = v1.heap.size := ⟨_, rfl⟩
            rw [← hblk41] at hr41 hlo41 hne41
            simp only [← hblk41]
            generalize v1.alloc _ = v41 at *
            clear hblk41
            refine wpAnyH_ready (rs := [6]) (by kernel_rfl) (by simp) ?_
            refine AllReadyH.cons rfl (fun K hK => ?_) AllReadyH.nil
            go_simp
            go_at_call 49
            refine (pick_any hj41.rd (n := 4) (by omega) (by omega) (by omega)).mono ?_
            rintro e v42 ⟨r42, rfl, hlt42, hr42, hg42⟩
            have hj42 := hj41.pick hlg hr42 hg42
            have hr4142 := hr41.grown hg42 (fun e => by injection e with e; omega)
            clear hr42 hg42
            try go_simp
            refine hK.out _ _ ⟨_, hj42⟩ (fun hHeld => ?_)
            clear hK K hHeld
            refine wpAnyH_ready (rs := [8]) (by kernel_rfl) (by simp) ?_
            refine AllReadyH.cons rfl (fun K hK => ?_) AllReadyH.nil
            go_simp
            go_at_call 49
            refine (pick_any hj42.rd (n := 100) (by omega) (by omega) (by omega)).mono ?_
            rintro e v43 ⟨r43, rfl, hlt43, hr43, hg43⟩
            have hj43 := hj42.pick hlg hr43 hg43
            have hr414243 := hr4142.grown hg43 (fun e => by injection e with e; omega)
            clear hr43 hg43
            try go_simp
            refine hK.out _ _ ⟨_, hj43⟩ (fun hHeld => ?_)
            clear hK K hHeld
            obtain ⟨m144, hm144⟩ : ∃ m : Nat, r42 * r43 = m := ⟨_, rfl⟩
            have hm1b44 : m144 ≤ 297 := by rw [← hm144]; exact Nat.mul_le_mul (show r42 ≤ 3 by omega) (show r43 ≤ 99 by omega)
            have hm1e44 : ((r42 : Nat) : Int) * ((r43 : Nat) : Int) = ((m144 : Nat) : Int) := by rw [← hm144]; exact (Int.natCast_mul _ _).symm
            have hm1w44 : IntKind.i64.wrap (((r42 : Nat) : Int) * ((r43 : Nat) : Int)) = ((m144 : Nat) : Int) := by rw [hm1e44]; exact wrapI _ (by omega) (by omega)
            have hm1v44 : wrap64 (((r42 : Nat) : Int) * ((r43 : Nat) : Int)) = ((m144 : Nat) : Int) := by rw [hm1e44]; unfold wrap64; omega
            clear hm144 hm1e44
            refine wpAnyH_take (i := 9) (v := .int .i64 ((m144 : Nat) : Int)) rfl (by kernel_rfl) (by kernel_rfl) (by kernel_rfl) (fun _ _ _ h => h) (Or.inl ⟨by kernel_rfl, by (intro W hS; go_simp; first | done | with_reducible rfl | rfl)⟩) ⟨_, hj43⟩ ?_
            (try simp only [Act.put, List.getElem_toArray, List.getElem_cons_zero, List.getElem_cons_succ, List.setIfInBounds_toArray, List.set_cons_zero, List.set_cons_succ])
            clear hm1w44 hm1v44
            have haw45 : IntKind.i64.wrap ((f : Int) + ((m144 : Nat) : Int)) = (f : Int) + (m144 : Int) := wrapI _ (by omega) (by omega)
            have hav45 : wrap64 ((f : Int) + ((m144 : Nat) : Int)) = (f : Int) + (m144 : Int) := by unfold wrap64; omega
            refine wpAnyH_take (i := 10) (v := .int .i64 ((f : Int) + (m144 : Int))) rfl (by kernel_rfl) (by kernel_rfl) (by kernel_rfl) (fun _ _ _ h => h) (Or.inl ⟨by kernel_rfl, by (intro W hS; go_simp; first | done | with_reducible rfl | rfl)⟩) ⟨_, hj43⟩ ?_
            (try simp only [Act.put, List.getElem_toArray, List.getElem_cons_zero, List.getElem_cons_succ, List.setIfInBounds_toArray, List.set_cons_zero, List.set_cons_succ])
            clear haw45 hav45
            refine wpAnyH_ready (rs := [12]) (by kernel_rfl) (by simp) ?_
            refine AllReadyH.cons rfl (fun K hK => ?_) AllReadyH.nil
            go_simp
            go_at_call 49
            refine (pick_any hj43.rd (n := 100) (by omega) (by omega) (by omega)).mono ?_
            rintro e v46 ⟨r46, rfl, hlt46, hr46, hg46⟩
            have hj46 := hj43.pick hlg hr46 hg46
            have hr41424346 := hr414243.grown hg46 (fun e => by injection e with e; omega)
            clear hr46 hg46
            try go_simp
            refine hK.out _ _ ⟨_, hj46⟩ (fun hHeld => ?_)
            clear hK K hHeld
            refine wpAnyH_ready (rs := [14]) (by kernel_rfl) (by simp) ?_
            refine AllReadyH.cons rfl (fun K hK => ?_) AllReadyH.nil
            go_simp
            go_at_call 49
            refine (pick_any hj46.rd (n := 80) (by omega) (by omega) (by omega)).mono ?_
            rintro e v47 ⟨r47, rfl, hlt47, hr47, hg47⟩
            have hj47 := hj46.pick hlg hr47 hg47
            have hr4142434647 := hr41424346.grown hg47 (fun e => by injection e with e; omega)
            clear hr47 hg47
            try go_simp
            refine hK.out _ _ ⟨_, hj47⟩ (fun hHeld => ?_)
            clear hK K hHeld
            obtain ⟨m248, hm248⟩ : ∃ m : Nat, r46 * r47 = m := ⟨_, rfl⟩
            have hm2b48 : m248 ≤ 7821 := by rw [← hm248]; exact Nat.mul_le_mul (show r46 ≤ 99 by omega) (show r47 ≤ 79 by omega)
            have hm2e48 : ((r46 : Nat) : Int) * ((r47 : Nat) : Int) = ((m248 : Nat) : Int) := by rw [← hm248]; exact (Int.natCast_mul _ _).symm
            have hm2w48 : IntKind.i64.wrap (((r46 : Nat) : Int) * ((r47 : Nat) : Int)) = ((m248 : Nat) : Int) := by rw [hm2e48]; exact wrapI _ (by omega) (by omega)
            have hm2v48 : wrap64 (((r46 : Nat) : Int) * ((r47 : Nat) : Int)) = ((m248 : Nat) : Int) := by rw [hm2e48]; unfold wrap64; omega
            clear hm248 hm2e48
            refine wpAnyH_take (i := 15) (v := .int .i64 ((m248 : Nat) : Int)) rfl (by kernel_rfl) (by kernel_rfl) (by kernel_rfl) (fun _ _ _ h => h) (Or.inl ⟨by kernel_rfl, by (intro W hS; go_simp; first | done | with_reducible rfl | rfl)⟩) ⟨_, hj47⟩ ?_
            (try simp only [Act.put, List.getElem_toArray, List.getElem_cons_zero, List.getElem_cons_succ, List.setIfInBounds_toArray, List.set_cons_zero, List.set_cons_succ])
            clear hm2w48 hm2v48
            refine wpAnyH_take (i := 16) (v := .agg #[.int .i64 (num : Int), .int .i64 (f : Int), .int .i64 ((f : Int) + (m144 : Int)), .int .i64 (m248 : Int)]) rfl (by kernel_rfl) (by kernel_rfl) (by kernel_rfl) (fun _ _ _ h => h) (Or.inl ⟨by kernel_rfl, by (intro W hS; go_simp; first | done | with_reducible rfl | rfl)⟩) ⟨_, hj47⟩ ?_
            (try simp only [Act.put, List.getElem_toArray, List.getElem_cons_zero, List.getElem_cons_succ, List.setIfInBounds_toArray, List.set_cons_zero, List.set_cons_succ])
            refine wpAnyH_ready (rs := [18]) (by kernel_rfl) (by simp) ?_
            refine AllReadyH.cons rfl (fun K hK => ?_) AllReadyH.nil
            have y0 := hr4142434647.cell 0
            have y1 := hr4142434647.cell 1
            have y2 := hr4142434647.cell 2
            have y3 := hr4142434647.cell 3
            have z0 := hr4142434647.frozen 0
            have z1 := hr4142434647.frozen 1
            have z2 := hr4142434647.frozen 2
            have z3 := hr4142434647.frozen 3
            have yl := hr4142434647.lt
            have hj1 := hj47.xput (b := blk41) (by omega) ‹_› hlg 0 (.int .i64 (num : Int))
            have hj2 := hj1.xput (b := blk41) (by omega) ‹_› hlg 1 (.int .i64 (f : Int))
            have hj3 := hj2.xput (b := blk41) (by omega) ‹_› hlg 2 (.int .i64 ((f : Int) + (m144 : Int)))
            have hj50 := hj3.xput (b := blk41) (by omega) ‹_› hlg 3 (.int .i64 (m248 : Int))
            have hx50 := hr4142434647.setAll [.int .i64 (num : Int), .int .i64 (f : Int), .int .i64 ((f : Int) + (m144 : Int)), .int .i64 (m248 : Int)] rfl
            go_simp
            refine hK.out _ _ ⟨_, hj50⟩ (fun hHeld => ?_)
            clear hK K hHeld
            refine wpAnyH_done (by kernel_rfl) ?_ _
            go_wp2_with fail
            go_meet
            exact ⟨blk41, m144, m248, _, rfl, by omega, by omega, by omega, by omega, hj50, hx50, ‹_›⟩
        case rest =>
          obtain ⟨xb, m1, m2, k3, rfl, hm1, hm2, hk3, hxb, hj, hx, hne⟩ := hcut
          have HPA := hide hj
          have HXB := hide hx
          clear hj hx HPB
          have HPB := HPA
          clear HPA
          have HXNE := hne
          clear hne
          have hw0 : (Lit.int .i64 (num : Int)).wf = true := WalkArith.wf_i64 (by omega)
          have hw1 : (Lit.int .i64 (f : Int)).wf = true := WalkArith.wf_i64 (by omega)
          have hw2 : (Lit.int .i64 ((f : Int) + (m1 : Int))).wf = true := WalkArith.wf_i64 (by omega)
          have hw3 : (Lit.int .i64 (m2 : Int)).wf = true := WalkArith.wf_i64 (by omega)
          have HD := hide (fun W => part_src ⟨(num : Int), (f : Int), (f : Int) + (m1 : Int), (m2 : Int)⟩ hw0 hw1 hw2 hw3 W)
          clear hw0 hw1 hw2 hw3
          have HSA := hide (HPB.out.pb.own.alloc (.cells #[.int .i64 (num : Int), .int .i64 (f : Int), .int .i64 ((f : Int) + (m1 : Int)), .int .i64 (m2 : Int)] 35))
          have HSZ := hide (show w.heap.size + 2 ≤ (wc.alloc (.cells #[.int .i64 (num : Int), .int .i64 (f : Int), .int .i64 ((f : Int) + (m1 : Int)), .int .i64 (m2 : Int)] 35)).heap.size by rw [World.size_alloc]; exact Nat.le_succ_of_le HPB.out.pb.box.lt)
          have HXA := hide (HXB.out.alloc (.cells #[.int .i64 (num : Int), .int .i64 (f : Int), .int .i64 ((f : Int) + (m1 : Int)), .int .i64 (m2 : Int)] 35))
          obtain ⟨sv, hsv⟩ : ∃ v, v = Value.slice A n c := ⟨_, rfl⟩
          have x0 := HPB.out.pb.box.cell 0
          rw [← hsv] at HSA
          rw [show ([.slice A n c, .int .i64 0, .int .i64 (f : Int)] : List Value) = [sv, .int .i64 0, .int .i64 (f : Int)] by rw [hsv]] at x0
          have HRX := hide (show Row (wc.alloc (.cells #[.int .i64 (num : Int), .int .i64 (f : Int), .int .i64 ((f : Int) + (m1 : Int)), .int .i64 (m2 : Int)] 35)) (w.heap.size + 1) 24 [sv, .int .i64 0, .int .i64 (f : Int)] from by rw [hsv]; exact HPB.out.pb.box.alloc _)
          have hxne : sv.ownBlock ≠ some xb := by rw [hsv]; exact HXNE
          have HSV := hide hsv
          clear hsv
          have q0 := HXB.out.cell 0
          have q1 := HXB.out.cell 1
          have q2 := HXB.out.cell 2
          have q3 := HXB.out.cell 3
          have ql := HXB.out.lt
          have xl := HPB.out.pb.box.lt
          have hxb2 : xb ≠ w.heap.size + 1 := by omega
          go_upto_region 11 with (first | (at_builtin; refine wpl_app rfl _ _ 22 rfl ia _ 32 Tryd.underlying22 HIa.out ha0 ha1 ha2 rfl (by decide) LogPart.cells_len rfl HSA.out [⟨(num : Int), (f : Int), (f : Int) + (m1 : Int), (m2 : Int)⟩] (HD.out _) (by exact New.nil _ _) (fun g _ hg => by cases hg) _ 1 1 rfl rfl (SrcAt.new wc _ _ _ _) (by omega) (by decide) HSZ.out ?_; intro A7 n7 c7 w7 hn7 hown7 hgb7; have r7 := hgb7.row HRX.out (HSA.out.low (Nat.lt_succ_self _)); have x7 := r7.cell 0; have f7 := r7.frozen 0; have l7 := r7.lt; clear hn7) | fail)
          have hgb8 := hgb7
          rw [HSV.out] at hgb8
          have HP8 := hide (HPB.out.app (x := ⟨(num : Int), (f : Int), (f : Int) + (m1 : Int), (m2 : Int)⟩) hlg hgb8 hown7)
          have HX8 := hide ((hgb7.row HXA.out hxne).far (p := ⟨w.heap.size + 1, 0, none⟩) hxb2 (.slice A7 n7 c7))
          clear hgb7 hgb8 hown7 r7 x7 f7 l7 q0 q1 q2 q3 ql x0 xl HRX HSV HSA HSZ HXA HXB HD HPB
          generalize (World.setCell _ _ _) = w8 at HP8 HX8 ⊢
          have HPB := HP8
          clear HP8
          have q2 := HX8.out.cell 2
          have ql := HX8.out.lt
          have x0 := HPB.out.pb.box.cell 0
          have x1 := HPB.out.pb.box.cell 1
          have x2 := HPB.out.pb.box.cell 2
          have xl := HPB.out.pb.box.lt
          have v0 := HPB.out.pb.box.frozen 0
          have v1 := HPB.out.pb.box.frozen 1
          have v2 := HPB.out.pb.box.frozen 2
          go_upto_region 12 with fail
          have HP9 := hide (HPB.out.putFi hlg ((f : Int) + (m1 : Int)))
          clear x0 x1 x2 xl v0 v1 v2
          clear q2 ql HX8 HPB
          generalize (World.setCell _ _ _) = w9 at HP9 ⊢
          have HPB := HP9
          clear HP9
          have HPK := hide (pick_any HPB.out.rd (n := 3) (by omega) (by omega) (by omega))
          have hnw : IntKind.i64.wrap ((num : Int) + 1) = (num : Int) + 1 := wrapI _ (by omega) (by omega)
          go_wp2_with fail
          refine HPK.out.mono ?_
          rintro e w10 ⟨r9, rfl, hlt9, hr9, hg9⟩
          have HP10 := hide (HPB.out.pick hlg hr9 hg9)
          have hnw2 : IntKind.i64.wrap ((num : Int) + 1 + (r9 : Int)) = (num : Int) + 1 + (r9 : Int) := wrapI _ (by omega) (by omega)
          clear hr9 hg9 HPK HPB
          go_wp2
          go_roundw
          case rel => exact ⟨num + 1 + r9, n + 1, f + m1, k3 + 1, ps ++ [⟨(num : Int), (f : Int), (f : Int) + (m1 : Int), (m2 : Int)⟩], A7, n7, c7, _, by go_num, by go_num, by omega, by rw [List.length_append, List.length_singleton, hpl], by omega, by omega, by omega, by rw [Int.natCast_add]; exact HP10.out⟩
          case measure => simp [intOf]; omega
end Go.Proofs.YtknlnndocamcmaaDoor
