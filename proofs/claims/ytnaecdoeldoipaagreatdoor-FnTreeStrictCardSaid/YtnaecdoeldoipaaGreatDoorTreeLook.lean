/-
  Trees that are ok: what the program's look answers.
-/
import Derived.Test.YtnaecdoeldoipaaGreatDoorTreeShape
set_option linter.unusedVariables false
set_option linter.unusedSimpArgs false
namespace Go.Proofs.YtnaecdoeldoipaaGreatDoor
open Go.ChangeShapes Go.WideShapes Go.ChangeAt Go.RowKit

mutual
def Tree.good : Tree → Nat → Prop
  | .mk s n x ns ks, lv => lv ≤ 6 ∧ (Tree.mk s n x ns ks).shape ∧ Tree.goodS ks (lv + 1)
def Tree.goodS : List Tree → Nat → Prop
  | [], _ => True
  | k :: r, lv => k.good lv ∧ Tree.goodS r lv
end
mutual
def Tree.parts : Tree → Nat
  | .mk _ _ _ _ ks => 1 + Tree.partsS ks
def Tree.partsS : List Tree → Nat
  | [] => 0
  | k :: r => k.parts + Tree.partsS r
end
theorem Tree.good_iff (k : Tree) (lv : Nat) : k.good lv ↔ lv ≤ 6 ∧ k.shape ∧ Tree.goodS k.kids (lv + 1) := by cases k; rfl
theorem Tree.parts_eq (k : Tree) : k.parts = 1 + Tree.partsS k.kids := by cases k; rfl
theorem Tree.goodS_append (a b : List Tree) (lv : Nat) : Tree.goodS (a ++ b) lv ↔ Tree.goodS a lv ∧ Tree.goodS b lv := by
  induction a with
  | nil => simp [Tree.goodS]
  | cons x a ih => simp [Tree.goodS, ih, and_assoc]
theorem Tree.goodS_snoc (l : List Tree) (lv k : Nat) (h : k < l.length) : Tree.goodS (l.take (k + 1)) lv ↔ Tree.goodS (l.take k) lv ∧ l[k].good lv := by
  rw [List.take_succ_eq_append_getElem h, Tree.goodS_append]
  simp [Tree.goodS]
theorem Tree.goodS_at {l : List Tree} {lv k : Nat} (hg : Tree.goodS l lv) (h : k < l.length) : l[k].good lv := by
  rw [← List.take_append_drop (k + 1) l, Tree.goodS_append, Tree.goodS_snoc l lv k h] at hg
  exact hg.1.2
theorem Tree.partsS_append (a b : List Tree) : Tree.partsS (a ++ b) = Tree.partsS a + Tree.partsS b := by
  induction a with
  | nil => simp [Tree.partsS]
  | cons x a ih => simp [Tree.partsS, ih]; omega
theorem Tree.partsS_snoc (l : List Tree) (k : Nat) (h : k < l.length) : Tree.partsS (l.take (k + 1)) = Tree.partsS (l.take k) + l[k].parts := by
  rw [List.take_succ_eq_append_getElem h, Tree.partsS_append]
  simp [Tree.partsS]
theorem Tree.partsS_le (l : List Tree) (k : Nat) : Tree.partsS (l.take k) ≤ Tree.partsS l := by
  conv => rhs; rw [← List.take_append_drop k l, Tree.partsS_append]
  omega

/-- so many parts are left -/
def Tree.fits (k : Tree) (lv : Nat) (p : Int) : Prop := k.good lv ∧ p + k.parts ≤ 120

def LookTree (k : Tree) : Prop := ∀ (us : List Value) (fp : List Nat) (lv : Nat) (z p : Int) (pb : Nat) (w : World), z = lv → OwC w k.cells us fp → Lt fp w.heap.size → k.bulk ≤ 1048576 → 1 ≤ lv → lv ≤ 7 → 0 ≤ p → p ≤ 120 →
  w.cell? ⟨pb, 0, none⟩ = some (.int .i64 p) → w.frozen? ⟨pb, 0, none⟩ = false → pb ∉ fp →
  Calls Tryz.prog 46 #[.agg us.toArray, .int .i64 z, .pointer (some ⟨pb, 0, none⟩)] w fun e w' => e = .returned (.bool (tb (k.fits lv p))) ∧
    w'.frozen? ⟨pb, 0, none⟩ = false ∧ (k.fits lv p → w'.cell? ⟨pb, 0, none⟩ = some (.int .i64 (p + k.parts))) ∧ w.grownBy w' (some pb)

set_option maxRecDepth 100000 in
theorem lookTree_of (k : Tree) (ih : ∀ x ∈ k.kids, LookTree x) : LookTree k := by
  intro us fp lv z p pb w hz ho hf hbk hl0 hl1 hp0 hp1 hcell hfz hpb
  obtain ⟨A1, c1, A2, c2, f1, f2, rfl, w0, wn, wt, o1, o2, rfl⟩ := ho.oTree
  have hpl := cell_lt hcell
  subst hz
  have hpn : pb < w.heap.size := hpl
  have hne1 : pb ≠ w.heap.size := by omega
  have g0 : w.grownBy (w.setCell ⟨pb, 0, none⟩ (.int .i64 (p + 1))) (some pb) := only_setCell (World.grownBy.refl w _) (.inl rfl) _
  have g1 := only_alloc g0 (.cells #[.int .i64 k.sort, .int .i64 k.num, .string k.text, .slice A1 k.names.length c1, .slice A2 k.kids.length c2] 26)
  by_cases h6 : lv ≤ 6
  · by_cases hp : p + 1 ≤ 120
    · have hkb := k.bulk_eq; unfold bulkStrs at hkb
      have hkl : k.kids.length ≤ 1048576 := by omega
      have HB := hide hkb
      clear hkb
      have hcw1 := ho.grown g1 hf hpb
      go_enter Tryz.func46, Tryz.ntmps46
      go_wp2_with fail
      refine (treeShapeOk_any k _ _ _ hcw1 ((hf.mono (by simp [World.setCell]))) hbk).mono ?_
      rintro e w1 ⟨rfl, hb1⟩
      have g2 := only_below g1 hb1
      obtain ⟨hc1, hf1⟩ := bcell hb1
      have z1 : w.heap.size < w1.heap.size := by have := hb1.size; simp [World.setCell] at this; omega
      have z1b : pb < w1.heap.size := by omega
      by_cases hs : k.shape
      · rw [tb_true hs]
        have HO2 := hide o2
        have HI := hide ih
        clear o1 o2 ho hcw1 ih
        have hx1 : w1.cell? ⟨pb, 0, none⟩ = some (.int .i64 (p + 1)) := by
          rw [hb1.cell (p := ⟨pb, 0, none⟩) (by simp [World.setCell]; omega), World.cell?_alloc_lt _ _ _ (by simp [World.setCell]; omega)]
          exact World.cell?_setCell_same w _ _ hcell
        have hx2 : w1.frozen? ⟨pb, 0, none⟩ = false := by rw [hf1 pb 0 (by simp [World.setCell]; omega)]; go_simp
        go_wp2
        go_loopw [30] (fun i wr => ∃ j : Nat, j ≤ k.kids.length ∧ i = .int .i64 j ∧ Tree.goodS (k.kids.take j) (lv + 1) ∧ p + 1 + Tree.partsS (k.kids.take j) ≤ 120 ∧ wr.cell? ⟨pb, 0, none⟩ = some (.int .i64 (p + 1 + Tree.partsS (k.kids.take j))) ∧ wr.frozen? ⟨pb, 0, none⟩ = false ∧ w.grownBy wr (some pb)) (fun i _ => k.kids.length - (intOf i).toNat)
        case atStart => exact ⟨0, Nat.zero_le _, rfl, by simp [Tree.goodS], by simp [Tree.partsS]; omega, by simpa [Tree.partsS] using hx1, hx2, g2⟩
        case round =>
          obtain ⟨j, hj, rfl, hgood, hle, hcj, hfj, hgr⟩ := hrel
          have HG := hide hgood
          have HR := hide hgr
          clear hgood hgr
          by_cases hlt : j < k.kids.length
          · obtain ⟨g, off, vs, fi, rfl, hg, hfi, hvl, hcs, hov⟩ := (HO2.out.grown HR.out hf.right (fun h => hpb (List.mem_append_right _ h))).elem Tree.cells_len hlt
            have hov' := hov
            obtain ⟨B1, d1, B2, d2, q1, q2, rfl, v0, vn, vt, x1, x2, rfl⟩ := hov.oTree
            have p0 := hcs 0 _ rfl
            have p1 := hcs 1 _ rfl
            have p2 := hcs 2 _ rfl
            have p3 := hcs 3 _ rfl
            have p4 := hcs 4 _ rfl
            simp only [Nat.add_zero] at p0
            have hfq : Lt (q1 ++ q2) wr.heap.size := ((hf.right).mono HR.out.size).sub hfi
            have hpq : pb ∉ q1 ++ q2 := fun h => hpb (List.mem_append_right _ (hfi h))
            have HC := hide (HI.out _ (List.getElem_mem hlt))
            have hsn := hide (Tree.goodS_snoc k.kids (lv + 1) j hlt)
            have hps := hide (Tree.partsS_snoc k.kids j hlt)
            have hpl' := Tree.partsS_le k.kids (j + 1)
            have hbl : k.kids[j].bulk ≤ 1048576 := by
              have h1 := Tree.bulkS_snoc k.kids j hlt
              have h2 := Tree.bulkS_le k.kids (j + 1)
              have h3 := HB.out
              omega
            have HO := hide (hov'.alloc hfq (.cells #[.int .i64 k.kids[j].sort, .int .i64 k.kids[j].num, .string k.kids[j].text, .slice B1 k.kids[j].names.length d1, .slice B2 k.kids[j].kids.length d2] 26))
            have hat := hide (fun (h : Tree.goodS k.kids (lv + 1)) => Tree.goodS_at h hlt)
            have hplr := cell_lt hcj
            clear hov hov' x1 x2 hcs
            generalize k.kids[j] = x at *
            generalize Tree.partsS (k.kids.take j) = m at *
            go_wp2_with fail
            refine (HC.out _ _ (lv + 1) _ (p + 1 + m) pb _ (by omega) HO.out (hfq.alloc _) hbl (by omega) (by omega) (by omega) (by omega) (by go_simp) (by go_simp) hpq).mono ?_
            rintro e w2 ⟨rfl, hz2, hcell2, hgr2⟩
            have hw2 := only_trans (only_alloc HR.out _) hgr2
            by_cases hx : x.fits (lv + 1) (p + 1 + m)
            · rw [tb_true hx]
              have hc2 := hcell2 hx
              have HX := hide hx
              clear hcell2 hx
              go_wp2
              go_roundw
              case rel => exact ⟨j + 1, by omega, by go_num, hsn.out.2 ⟨HG.out, HX.out.1⟩, by rw [hps.out]; have := HX.out.2; omega, by rw [hps.out, hc2]; go_num, hz2, hw2⟩
              case measure => simp [intOf]; omega
            · rw [tb_false hx]
              have HT := hide (tb_false (p := k.fits lv p) (fun h => hx ⟨hat.out ((Tree.good_iff _ _).1 h.1).2.2, by have h1 := h.2; have h2 := k.parts_eq; have h3 := hps.out; omega⟩))
              clear hx
              go_wp2
              go_ret
              exact ⟨ret_bool HT.out.symm, hz2, fun h => absurd (tb_true h) (by rw [HT.out]; simp), hw2⟩
          · obtain rfl : j = k.kids.length := by omega
            rw [List.take_length] at *
            have hfit : k.fits lv p := ⟨(Tree.good_iff _ _).2 ⟨h6, hs, HG.out⟩, by have := k.parts_eq; omega⟩
            have HT := hide (tb_true hfit)
            have HP := hide k.parts_eq
            clear hfit
            go_wp2
            go_ret
            exact ⟨ret_bool HT.out.symm, hfj, fun _ => by rw [hcj, HP.out]; go_num, HR.out⟩
      · rw [tb_false hs]
        have HT := hide (tb_false (p := k.fits lv p) (fun h => hs ((Tree.good_iff _ _).1 h.1).2.1))
        have hx2 : w1.frozen? ⟨pb, 0, none⟩ = false := by rw [hf1 pb 0 (by simp [World.setCell]; omega)]; go_simp
        go_wp2
        go_ret
        exact ⟨ret_bool HT.out.symm, hx2, fun h => absurd (tb_true h) (by rw [HT.out]; simp), g2⟩
    · have HT := hide (tb_false (p := k.fits lv p) (fun h => by have h1 := h.2; have h2 := k.parts_eq; omega))
      go_enter Tryz.func46, Tryz.ntmps46
      go_wp2
      go_ret
      exact ⟨ret_bool HT.out.symm, by go_simp, fun h => absurd (tb_true h) (by rw [HT.out]; simp), g1⟩
  · have HT := hide (tb_false (p := k.fits lv p) (fun h => by have h1 := ((Tree.good_iff _ _).1 h.1).1; omega))
    go_enter Tryz.func46, Tryz.ntmps46
    go_wp2
    go_ret
    exact ⟨ret_bool HT.out.symm, by go_simp, fun h => absurd (tb_true h) (by rw [HT.out]; simp), g1⟩

theorem lookTree_any (k : Tree) : LookTree k := Tree.ind lookTree_of k

end Go.Proofs.YtnaecdoeldoipaaGreatDoor
