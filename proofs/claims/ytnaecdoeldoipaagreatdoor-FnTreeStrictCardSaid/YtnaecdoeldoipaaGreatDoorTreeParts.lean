/-
  Trees that are ok: what the reference's l1Parts answers.
-/
import Derived.Test.YtnaecdoeldoipaaGreatDoorTreeLook
import Derived.Test.YtnaecdoeldoipaaGreatDoorTreeAlone
set_option linter.unusedVariables false
set_option linter.unusedSimpArgs false
namespace Go.Proofs.YtnaecdoeldoipaaGreatDoor
open Go.ChangeShapes Go.WideShapes Go.ChangeAt Go.RowKit

noncomputable def Tree.partsR (k : Tree) (lv : Nat) : Int := if tb (k.fits lv 0) = true then k.parts else -1
theorem Tree.partsR_yes {k : Tree} {lv : Nat} (h : k.fits lv 0) : k.partsR lv = k.parts := by unfold Tree.partsR; rw [tb_true h, if_pos rfl]
theorem Tree.partsR_no {k : Tree} {lv : Nat} (h : ¬ k.fits lv 0) : k.partsR lv = -1 := by unfold Tree.partsR; rw [tb_false h]; rfl

def PartsTree (k : Tree) : Prop := ∀ (us : List Value) (fp : List Nat) (lv : Nat) (z : Int) (w : World), z = lv → OwC w k.cells us fp → Lt fp w.heap.size → k.bulk ≤ 1048576 → 1 ≤ lv → lv ≤ 7 →
  Calls Tryz.prog 44 #[.agg us.toArray, .int .i64 z] w fun e w' => e = .returned (.int .i64 (k.partsR lv)) ∧ Below w.heap.size w w'

set_option maxRecDepth 100000 in
set_option maxHeartbeats 400000 in
theorem partsTree_of (k : Tree) (ih : ∀ x ∈ k.kids, PartsTree x) : PartsTree k := by
  intro us fp lv z w hz ho hf hbk hl0 hl1
  have ho' := ho
  obtain ⟨A1, c1, A2, c2, f1, f2, rfl, w0, wn, wt, o1, o2, rfl⟩ := ho.oTree
  subst hz
  have hkb := k.bulk_eq; unfold bulkStrs at hkb
  have hkl : k.kids.length ≤ 1048576 := by omega
  have HB := hide hkb
  clear hkb
  have hw1 : Below w.heap.size w (w.alloc (.cells #[.int .i64 k.sort, .int .i64 k.num, .string k.text, .slice A1 k.names.length c1, .slice A2 k.kids.length c2] 26)) := (Below.refl _ _).alloc (Nat.le_refl _) _
  have R1 : Row (w.alloc (.cells #[.int .i64 k.sort, .int .i64 k.num, .string k.text, .slice A1 k.names.length c1, .slice A2 k.kids.length c2] 26)) w.heap.size 26 [.int .i64 k.sort, .int .i64 k.num, .string k.text, .slice A1 k.names.length c1, .slice A2 k.kids.length c2] := Row.new w _ _
  have HO := hide (ho'.below hw1 hf)
  have HO2 := hide o2
  have HI := hide ih
  have HF := hide (fun (h6 : lv ≤ 6) (hs : k.shape) (h1 : Tree.goodS k.kids (lv + 1)) (h2 : 1 + (Tree.partsS k.kids : Int) ≤ 120) => Tree.partsR_yes (k := k) (lv := lv) ⟨(Tree.good_iff _ _).2 ⟨h6, hs, h1⟩, by have := k.parts_eq; omega⟩)
  have HP := hide k.parts_eq
  have HN := hide (fun (h : ¬ (lv ≤ 6 ∧ k.shape ∧ Tree.goodS k.kids (lv + 1) ∧ 1 + (Tree.partsS k.kids : Int) ≤ 120)) => Tree.partsR_no (k := k) (lv := lv) (fun h' => h ⟨((Tree.good_iff _ _).1 h'.1).1, ((Tree.good_iff _ _).1 h'.1).2.1, ((Tree.good_iff _ _).1 h'.1).2.2, by have := h'.2; have := k.parts_eq; omega⟩))
  clear o1 o2 ih ho ho'
  by_cases h6 : lv ≤ 6
  · go_enter Tryz.func44, Tryz.ntmps44
    go_wp2_with fail
    refine (l1Alone_any k _ _ _ HO.out (hf.up hw1) hbk).mono ?_
    rintro e w1 ⟨rfl, hb1⟩
    have hB1 := hw1.trans (hb1.mono hw1.size)
    have R2 := R1.below hb1 R1.lt
    have c4 := R2.cell 4
    have hsz : w.heap.size < w1.heap.size := R2.lt
    by_cases hs : k.shape
    · rw [tb_true hs]
      have HFF := hide (HF.out h6 hs)
      have HNN := hide (fun (h : ¬ (Tree.goodS k.kids (lv + 1) ∧ 1 + (Tree.partsS k.kids : Int) ≤ 120)) => HN.out (fun h' => h ⟨h'.2.2.1, h'.2.2.2⟩))
      clear hs
      go_wp2
      go_loopw [5, 6] (fun a i wr => ∃ j : Nat, j ≤ k.kids.length ∧ i = .int .i64 j ∧ a = .int .i64 (1 + (Tree.partsS (k.kids.take j) : Int)) ∧ Tree.goodS (k.kids.take j) (lv + 1) ∧ 1 + (Tree.partsS (k.kids.take j) : Int) ≤ 120 ∧ wr.cell? ⟨w.heap.size, 4, none⟩ = some (.slice A2 k.kids.length c2) ∧ w.heap.size < wr.heap.size ∧ Below w.heap.size w wr) (fun _ i _ => k.kids.length - (intOf i).toNat)
      case atStart => exact ⟨0, Nat.zero_le _, rfl, by simp [Tree.partsS], by simp [Tree.goodS], by simp [Tree.partsS], c4, hsz, hB1⟩
      case round =>
        obtain ⟨j, hj, rfl, rfl, hgood, hle, hcj, hszj, hbj⟩ := hrel
        have HG := hide hgood
        have HR := hide hbj
        clear hgood hbj c4 hsz hB1 hb1 R2
        by_cases hlt : j < k.kids.length
        · obtain ⟨g, off, vs, fi, rfl, hg, hfi, hvl, hcs, hov⟩ := (HO2.out.below HR.out hf.right).elem Tree.cells_len hlt
          have hov' := hov
          obtain ⟨B1, d1, B2, d2, q1, q2, rfl, v0, vn, vt, x1, x2, rfl⟩ := hov.oTree
          have p0 := hcs 0 _ rfl
          have p1 := hcs 1 _ rfl
          have p2 := hcs 2 _ rfl
          have p3 := hcs 3 _ rfl
          have p4 := hcs 4 _ rfl
          simp only [Nat.add_zero] at p0
          have hfq : Lt (q1 ++ q2) wr.heap.size := ((hf.right).up HR.out).sub hfi
          have HC := hide (HI.out _ (List.getElem_mem hlt))
          have hsn := hide (Tree.goodS_snoc k.kids (lv + 1) j hlt)
          have hps := hide (Tree.partsS_snoc k.kids j hlt)
          have hpl' := Tree.partsS_le k.kids (j + 1)
          have hbl : k.kids[j].bulk ≤ 1048576 := by
            have h1 := Tree.bulkS_snoc k.kids j hlt
            have h2 := Tree.bulkS_le k.kids (j + 1)
            have h3 := HB.out
            omega
          have HO := hide hov'
          have hat := hide (fun (h : Tree.goodS k.kids (lv + 1)) => Tree.goodS_at h hlt)
          clear hov hov' x1 x2 hcs
          generalize k.kids[j] = x at *
          generalize Tree.partsS (k.kids.take j) = m at *
          go_wp2_with fail
          refine (HC.out _ _ (lv + 1) _ _ (by omega) HO.out hfq hbl (by omega) (by omega)).mono ?_
          rintro e w2 ⟨rfl, hb2⟩
          have hw3 := HR.out.trans (hb2.mono HR.out.size)
          have hsz3 : w.heap.size < w2.heap.size := Nat.lt_of_lt_of_le hszj hb2.size
          have hcj2 : w2.cell? ⟨w.heap.size, 4, none⟩ = some (.slice (some ⟨g, off, none⟩) k.kids.length c2) := (hb2.cell (p := ⟨w.heap.size, 4, none⟩) hszj).trans hcj
          by_cases hx : x.fits (lv + 1) 0
          · rw [Tree.partsR_yes hx]
            have hx2 : (x.parts : Int) ≤ 120 := by have := hx.2; omega
            have HX := hide hx
            clear hx hcj
            by_cases hsum : 1 + (m : Int) + x.parts ≤ 120
            · go_wp2
              go_roundw
              case rel => exact ⟨j + 1, by omega, by go_num, by rw [hps.out]; go_num, hsn.out.2 ⟨HG.out, HX.out.1⟩, by rw [hps.out]; omega, hcj2, hsz3, hw3⟩
              case measure => simp [intOf]; omega
            · have HT := hide (HNN.out (fun h => hsum (by have := h.2; have := hps.out; omega)))
              go_wp2
              go_ret
              exact ⟨ret_int HT.out.symm, hw3⟩
          · rw [Tree.partsR_no hx]
            have HT := hide (HNN.out (fun h => hx ⟨hat.out h.1, by have := h.2; have := hps.out; omega⟩))
            clear hx
            go_wp2
            go_ret
            exact ⟨ret_int HT.out.symm, hw3⟩
        · obtain rfl : j = k.kids.length := by omega
          rw [List.take_length] at *
          have HT := hide (HFF.out HG.out hle)
          go_wp2
          go_ret
          exact ⟨ret_int (by rw [HT.out, HP.out]; go_num), HR.out⟩
    · rw [tb_false hs]
      have HT := hide (HN.out (fun h => hs h.2.1))
      clear hs
      go_wp2
      go_ret
      exact ⟨ret_int HT.out.symm, hB1⟩
  · have HT := hide (HN.out (fun h => h6 h.1))
    go_enter Tryz.func44, Tryz.ntmps44
    go_wp2
    go_ret
    exact ⟨ret_int HT.out.symm, hw1⟩

theorem partsTree_any (k : Tree) : PartsTree k := Tree.ind partsTree_of k

def Tree.ok (k : Tree) : Prop := k.fits 1 0
noncomputable def Tree.count (k : Tree) : Int := if tb k.ok = true then k.parts else 0
theorem Tree.count_yes {k : Tree} (h : k.ok) : k.count = k.parts := by unfold Tree.count; rw [tb_true h, if_pos rfl]
theorem Tree.count_no {k : Tree} (h : ¬ k.ok) : k.count = 0 := by unfold Tree.count; rw [tb_false h]; rfl

set_option maxRecDepth 100000 in
theorem implTreeParts_any (k : Tree) (us : List Value) (fp : List Nat) (w : World) (ho : OwC w k.cells us fp) (hf : Lt fp w.heap.size) (hbk : k.bulk ≤ 1048576) :
    Calls Tryz.prog 14 #[.agg us.toArray] w fun e w' => e = .returned (.int .i64 k.count) ∧ Below w.heap.size w w' := by
  have ho' := ho
  obtain ⟨A1, c1, A2, c2, f1, f2, rfl, w0, wn, wt, o1, o2, rfl⟩ := ho.oTree
  have hw1 : Below w.heap.size w ((w.alloc (.cells #[.int .i64 k.sort, .int .i64 k.num, .string k.text, .slice A1 k.names.length c1, .slice A2 k.kids.length c2] 26)).alloc (.cells #[.int .i64 0] 3)) := ((Below.refl _ _).alloc (Nat.le_refl _) _).alloc (by simp) _
  have HO := hide (ho'.below hw1 hf)
  have hf2 := (hf.mono hw1.size)
  have hnm : w.heap.size + 1 ∉ f1 ++ f2 := hf.not_mem (by omega)
  clear ho ho' o1 o2
  go_enter Tryz.func14, Tryz.ntmps14
  go_wp2_with fail
  refine (lookTree_any k _ _ 1 _ 0 _ _ (by omega) HO.out hf2 hbk (by omega) (by omega) (by omega) (by omega) (by go_simp) (by go_simp) hnm).mono ?_
  rintro e w2 ⟨rfl, _, hcell, hg⟩
  have hb : Below w.heap.size w w2 := ⟨hg.os.trans hw1.os, hg.tape.trans hw1.tape, hg.output.trans hw1.output, Nat.le_trans hw1.size hg.size, fun i hi => (hg.block i (by simp; omega) (fun e => by injection e with e; omega)).trans (hw1.block i hi)⟩
  by_cases h : k.ok
  · have hc := hcell h
    have HT := hide (Tree.count_yes h)
    rw [show tb (k.fits 1 0) = true from tb_true h]
    clear hcell h
    go_wp2
    go_ret
    exact ⟨ret_int (by rw [HT.out]; try go_num), hb⟩
  · have HT := hide (Tree.count_no h)
    rw [show tb (k.fits 1 0) = false from tb_false h]
    clear hcell h
    go_wp2
    go_ret
    exact ⟨ret_int HT.out.symm, hb⟩

set_option maxRecDepth 100000 in
theorem implTreeOk_any (k : Tree) (us : List Value) (fp : List Nat) (w : World) (ho : OwC w k.cells us fp) (hf : Lt fp w.heap.size) (hbk : k.bulk ≤ 1048576) :
    Calls Tryz.prog 13 #[.agg us.toArray] w fun e w' => e = .returned (.bool (tb k.ok)) ∧ Below w.heap.size w w' := by
  have ho' := ho
  obtain ⟨A1, c1, A2, c2, f1, f2, rfl, w0, wn, wt, o1, o2, rfl⟩ := ho.oTree
  have hw1 : Below w.heap.size w (w.alloc (.cells #[.int .i64 k.sort, .int .i64 k.num, .string k.text, .slice A1 k.names.length c1, .slice A2 k.kids.length c2] 26)) := (Below.refl _ _).alloc (Nat.le_refl _) _
  have HO := hide (ho'.below hw1 hf)
  have hf2 := (hf.mono hw1.size)
  clear ho ho' o1 o2
  go_enter Tryz.func13, Tryz.ntmps13
  go_wp2_with fail
  refine (implTreeParts_any k _ _ _ HO.out hf2 hbk).mono ?_
  rintro e w2 ⟨rfl, hb⟩
  have hb' := hw1.trans (hb.mono hw1.size)
  by_cases h : k.ok
  · rw [Tree.count_yes h]
    have HT := hide (tb_true h)
    have hp := k.parts_eq
    have h1 : (0 : Int) < k.parts := by omega
    clear h hp
    go_wp2
    go_ret
    exact ⟨ret_bool (by rw [HT.out]; simpa using h1), hb'⟩
  · rw [Tree.count_no h]
    have HT := hide (tb_false h)
    clear h
    go_wp2
    go_ret
    exact ⟨ret_bool HT.out.symm, hb'⟩
set_option maxRecDepth 100000 in
theorem specTreeOk_any (k : Tree) (us : List Value) (fp : List Nat) (w : World) (ho : OwC w k.cells us fp) (hf : Lt fp w.heap.size) (hbk : k.bulk ≤ 1048576) :
    Calls Tryz.prog 11 #[.agg us.toArray] w fun e w' => e = .returned (.bool (tb k.ok)) ∧ Below w.heap.size w w' := by
  have ho' := ho
  obtain ⟨A1, c1, A2, c2, f1, f2, rfl, w0, wn, wt, o1, o2, rfl⟩ := ho.oTree
  have hw1 : Below w.heap.size w (w.alloc (.cells #[.int .i64 k.sort, .int .i64 k.num, .string k.text, .slice A1 k.names.length c1, .slice A2 k.kids.length c2] 26)) := (Below.refl _ _).alloc (Nat.le_refl _) _
  have HO := hide (ho'.below hw1 hf)
  have hf2 := (hf.mono hw1.size)
  clear ho ho' o1 o2
  go_enter Tryz.func11, Tryz.ntmps11
  go_wp2_with fail
  refine (partsTree_any k _ _ 1 _ _ (by omega) HO.out hf2 hbk (by omega) (by omega)).mono ?_
  rintro e w2 ⟨rfl, hb⟩
  have hb' := hw1.trans (hb.mono hw1.size)
  by_cases h : k.ok
  · rw [Tree.partsR_yes h]
    have HT := hide (tb_true h)
    have hp := k.parts_eq
    have h1 : (0 : Int) < k.parts := by omega
    have h2 : (k.parts : Int) ≤ 120 := by have := h.2; omega
    clear hp h
    go_wp2
    go_ret
    exact ⟨ret_bool (by rw [HT.out]; simpa using h1), hb'⟩
  · rw [Tree.partsR_no h]
    have HT := hide (tb_false h)
    clear h
    go_wp2
    go_ret
    exact ⟨ret_bool HT.out.symm, hb'⟩
end Go.Proofs.YtnaecdoeldoipaaGreatDoor
