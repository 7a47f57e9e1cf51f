/-
  Schemas that are ok: the program's look and the reference's l2Parts answer alike.
-/
import Derived.Test.YtbjblchhenmgjaaHKind
import Derived.Test.YtbjblchhenmgjaaName
set_option linter.unusedVariables false
set_option linter.unusedSimpArgs false
namespace Go.Proofs.Ytbjblchhenmgjaa
open Go.ChangeShapes Go.WideShapes Go.ChangeAt Go.RowKit

def Kind.shape (k : Kind) : Prop :=
  ((k.sort = 1 ∨ k.sort = 2 ∨ k.sort = 3) ∧ k.names.length = 0 ∧ k.kids.length = 0) ∨ ((k.sort = 4 ∨ k.sort = 6) ∧ k.names.length = 0 ∧ k.kids.length = 1) ∨
    (k.sort = 5 ∧ NamesOk k.names ∧ k.names.length = k.kids.length)

theorem Kind.shape_iff (k : Kind) : k.shape ↔ ((k.sort = 1 ∨ k.sort = 2 ∨ k.sort = 3) ∧ k.names.length = 0 ∧ k.kids.length = 0) ∨ ((k.sort = 4 ∨ k.sort = 6) ∧ k.names.length = 0 ∧ k.kids.length = 1) ∨
    (k.sort = 5 ∧ NamesOk k.names ∧ k.names.length = k.kids.length) := Iff.rfl

set_option maxRecDepth 100000 in
theorem kindShapeOk_any (k : Kind) (us : List Value) (fp : List Nat) (w : World) (h : OwC w k.cells us fp) (hf : Lt fp w.heap.size) (hbk : k.bulk ≤ 1048576) :
    Calls Try.prog 190 #[.agg us.toArray] w fun e w' => e = .returned (.bool (tb k.shape)) ∧ Below w.heap.size w w' := by
  obtain ⟨A1, c1, A2, c2, f1, f2, rfl, w0, o1, o2, rfl⟩ := h.oKind
  rw [Kind.bulk_eq] at hbk; unfold bulkStrs at hbk
  have ho1 := o1.alloc hf.left (.cells #[.int .i64 k.sort, .slice A1 k.names.length c1, .slice A2 k.kids.length c2] 47)
  have hw : Below w.heap.size w (w.alloc (.cells #[.int .i64 k.sort, .slice A1 k.names.length c1, .slice A2 k.kids.length c2] 47)) := (Below.refl _ _).alloc (Nat.le_refl _) _
  clear h o1 o2 hf
  have HS := hide k.shape_iff
  generalize k.sort = s at *
  generalize k.kids.length = kl at *
  by_cases e5 : s = 5
  · subst e5
    by_cases hn : NamesOk k.names
    · by_cases hl : k.names.length = kl
      · have hb := beq_t (s := (k.names.length : Int)) (c := (kl : Int)) (by omega)
        have HT := hide (tb_true (HS.out.2 (.inr (.inr ⟨rfl, hn, hl⟩))))
        clear hl
        go_enter Try.func190, Try.ntmps190
        go_wp2_with fail
        refine (areNames_any _ _ _ _ _ _ ho1).mono ?_
        rintro e w' ⟨rfl, rfl⟩
        rw [tb_true hn]
        go_wp2
        go_ret
        exact ⟨ret_bool HT.out.symm, hw⟩
      · have hb := bne_f (s := (k.names.length : Int)) (c := (kl : Int)) (by omega)
        have HT := hide (tb_false (p := k.shape) (fun h => by have := HS.out.1 h; omega))
        go_enter Try.func190, Try.ntmps190
        go_wp2_with fail
        refine (areNames_any _ _ _ _ _ _ ho1).mono ?_
        rintro e w' ⟨rfl, rfl⟩
        rw [tb_true hn]
        go_wp2
        go_ret
        exact ⟨ret_bool HT.out.symm, hw⟩
    · have HT := hide (tb_false (p := k.shape) (fun h => by rcases HS.out.1 h with h | h | h <;> first | omega | exact hn h.2.1))
      go_enter Try.func190, Try.ntmps190
      go_wp2_with fail
      refine (areNames_any _ _ _ _ _ _ ho1).mono ?_
      rintro e w' ⟨rfl, rfl⟩
      rw [tb_false hn]
      go_wp2
      go_ret
      exact ⟨ret_bool HT.out.symm, hw⟩
  · by_cases e46 : s = 4 ∨ s = 6
    · by_cases hn : k.names.length = 0
      · have hbn := beq_t (s := (k.names.length : Int)) (c := 0) (by omega)
        by_cases hk : kl = 1
        · have HT := hide (tb_true (p := k.shape) (HS.out.2 (by omega)))
          subst hk
          clear hn
          rcases e46 with rfl | rfl
          all_goals
            go_enter Try.func190, Try.ntmps190
            go_wp2
            go_ret
            exact ⟨ret_bool HT.out.symm, hw⟩
        · have hb := bne_f (s := (kl : Int)) (c := 1) (by omega)
          have HT := hide (tb_false (p := k.shape) (fun h => by have := HS.out.1 h; omega))
          clear hn
          rcases e46 with rfl | rfl
          all_goals
            go_enter Try.func190, Try.ntmps190
            go_wp2
            go_ret
            exact ⟨ret_bool HT.out.symm, hw⟩
      · have hb := bne_f (s := (k.names.length : Int)) (c := 0) (by omega)
        have HT := hide (tb_false (p := k.shape) (fun h => by have := HS.out.1 h; omega))
        rcases e46 with rfl | rfl
        all_goals
          go_enter Try.func190, Try.ntmps190
          go_wp2
          go_ret
          exact ⟨ret_bool HT.out.symm, hw⟩
    · by_cases e123 : s = 1 ∨ s = 2 ∨ s = 3
      · by_cases hn : k.names.length = 0 ∧ kl = 0
        · have hbn := beq_t (s := (k.names.length : Int) + (kl : Int)) (c := 0) (by omega)
          have HT := hide (tb_true (p := k.shape) (HS.out.2 (by omega)))
          clear hn
          rcases e123 with rfl | rfl | rfl
          all_goals
            go_enter Try.func190, Try.ntmps190
            go_wp2
            go_ret
            exact ⟨ret_bool HT.out.symm, hw⟩
        · have hb := bne_f (s := (k.names.length : Int) + (kl : Int)) (c := 0) (by omega)
          have HT := hide (tb_false (p := k.shape) (fun h => by have := HS.out.1 h; omega))
          rcases e123 with rfl | rfl | rfl
          all_goals
            go_enter Try.func190, Try.ntmps190
            go_wp2
            go_ret
            exact ⟨ret_bool HT.out.symm, hw⟩
      · have b1 := bne_f (s := s) (c := 1) (by omega)
        have b2 := bne_f (s := s) (c := 2) (by omega)
        have b3 := bne_f (s := s) (c := 3) (by omega)
        have b4 := bne_f (s := s) (c := 4) (by omega)
        have b5 := bne_f (s := s) (c := 5) (by omega)
        have b6 := bne_f (s := s) (c := 6) (by omega)
        have HT := hide (tb_false (p := k.shape) (fun h => by have := HS.out.1 h; omega))
        go_enter Try.func190, Try.ntmps190
        go_wp2
        go_ret
        exact ⟨ret_bool HT.out.symm, hw⟩

mutual
def Kind.good : Kind → Nat → Prop
  | .mk s ns ks, lv => lv ≤ 6 ∧ (Kind.mk s ns ks).shape ∧ Kind.goodS ks (lv + 1)
def Kind.goodS : List Kind → Nat → Prop
  | [], _ => True
  | k :: r, lv => k.good lv ∧ Kind.goodS r lv
end
mutual
def Kind.parts : Kind → Nat
  | .mk _ _ ks => 1 + Kind.partsS ks
def Kind.partsS : List Kind → Nat
  | [] => 0
  | k :: r => k.parts + Kind.partsS r
end
theorem Kind.good_iff (k : Kind) (lv : Nat) : k.good lv ↔ lv ≤ 6 ∧ k.shape ∧ Kind.goodS k.kids (lv + 1) := by cases k; rfl
theorem Kind.parts_eq (k : Kind) : k.parts = 1 + Kind.partsS k.kids := by cases k; rfl
theorem Kind.goodS_append (a b : List Kind) (lv : Nat) : Kind.goodS (a ++ b) lv ↔ Kind.goodS a lv ∧ Kind.goodS b lv := by
  induction a with
  | nil => simp [Kind.goodS]
  | cons x a ih => simp [Kind.goodS, ih, and_assoc]
theorem Kind.goodS_snoc (l : List Kind) (lv k : Nat) (h : k < l.length) : Kind.goodS (l.take (k + 1)) lv ↔ Kind.goodS (l.take k) lv ∧ l[k].good lv := by
  rw [List.take_succ_eq_append_getElem h, Kind.goodS_append]
  simp [Kind.goodS]
theorem Kind.goodS_at {l : List Kind} {lv k : Nat} (hg : Kind.goodS l lv) (h : k < l.length) : l[k].good lv := by
  rw [← List.take_append_drop (k + 1) l, Kind.goodS_append, Kind.goodS_snoc l lv k h] at hg
  exact hg.1.2
theorem Kind.partsS_append (a b : List Kind) : Kind.partsS (a ++ b) = Kind.partsS a + Kind.partsS b := by
  induction a with
  | nil => simp [Kind.partsS]
  | cons x a ih => simp [Kind.partsS, ih]; omega
theorem Kind.partsS_snoc (l : List Kind) (k : Nat) (h : k < l.length) : Kind.partsS (l.take (k + 1)) = Kind.partsS (l.take k) + l[k].parts := by
  rw [List.take_succ_eq_append_getElem h, Kind.partsS_append]
  simp [Kind.partsS]
theorem Kind.partsS_le (l : List Kind) (k : Nat) : Kind.partsS (l.take k) ≤ Kind.partsS l := by
  conv => rhs; rw [← List.take_append_drop k l, Kind.partsS_append]
  omega

/-- so many parts are left -/
def Kind.fits (k : Kind) (lv : Nat) (p : Int) : Prop := k.good lv ∧ p + k.parts ≤ 40

def LookKind (k : Kind) : Prop := ∀ (us : List Value) (fp : List Nat) (lv : Nat) (z p : Int) (pb : Nat) (w : World), z = lv → OwC w k.cells us fp → Lt fp w.heap.size → k.bulk ≤ 1048576 → 1 ≤ lv → lv ≤ 7 → 0 ≤ p → p ≤ 40 →
  w.cell? ⟨pb, 0, none⟩ = some (.int .i64 p) → w.frozen? ⟨pb, 0, none⟩ = false → pb ∉ fp →
  Calls Try.prog 110 #[.agg us.toArray, .int .i64 z, .pointer (some ⟨pb, 0, none⟩)] w fun e w' => e = .returned (.bool (tb (k.fits lv p))) ∧
    w'.frozen? ⟨pb, 0, none⟩ = false ∧ (k.fits lv p → w'.cell? ⟨pb, 0, none⟩ = some (.int .i64 (p + k.parts))) ∧ w.grownBy w' (some pb)

set_option maxRecDepth 100000 in
theorem lookKind_of (k : Kind) (ih : ∀ x ∈ k.kids, LookKind x) : LookKind k := by
  intro us fp lv z p pb w hz ho hf hbk hl0 hl1 hp0 hp1 hcell hfz hpb
  obtain ⟨A1, c1, A2, c2, f1, f2, rfl, w0, o1, o2, rfl⟩ := ho.oKind
  have hpl := cell_lt hcell
  subst hz
  have hpn : pb < w.heap.size := hpl
  have hne1 : pb ≠ w.heap.size := by omega
  have g0 : w.grownBy (w.setCell ⟨pb, 0, none⟩ (.int .i64 (p + 1))) (some pb) := only_setCell (World.grownBy.refl w _) (.inl rfl) _
  have g1 := only_alloc g0 (.cells #[.int .i64 k.sort, .slice A1 k.names.length c1, .slice A2 k.kids.length c2] 47)
  by_cases h6 : lv ≤ 6
  · by_cases hp : p + 1 ≤ 40
    · have hkb := k.bulk_eq; unfold bulkStrs at hkb
      have hkl : k.kids.length ≤ 1048576 := by omega
      have HB := hide hkb
      clear hkb
      have hcw1 := ho.grown g1 hf hpb
      go_enter Try.func110, Try.ntmps110
      go_wp2_with fail
      refine (kindShapeOk_any k _ _ _ hcw1 ((hf.mono (by simp [World.setCell]))) hbk).mono ?_
      rintro e w1 ⟨rfl, hb1⟩
      have g2 := only_below g1 hb1
      obtain ⟨hc1, hf1⟩ := bcell hb1
      have z1 : w.heap.size < w1.heap.size := by have := hb1.size; simp [World.setCell] at this; omega
      have z1b : pb < w1.heap.size := by omega
      by_cases hs : k.shape
      · rw [tb_true hs]
        have HO2 := hide o2
        have HI := hide ih
        clear o1 o2 ho hcw1 ih
        have hx1 : w1.cell? ⟨pb, 0, none⟩ = some (.int .i64 (p + 1)) := by
          rw [hb1.cell (p := ⟨pb, 0, none⟩) (by simp [World.setCell]; omega), World.cell?_alloc_lt _ _ _ (by simp [World.setCell]; omega)]
          exact World.cell?_setCell_same w _ _ hcell
        have hx2 : w1.frozen? ⟨pb, 0, none⟩ = false := by rw [hf1 pb 0 (by simp [World.setCell]; omega)]; go_simp
        go_wp2
        go_loopw [30] (fun i wr => ∃ j : Nat, j ≤ k.kids.length ∧ i = .int .i64 j ∧ Kind.goodS (k.kids.take j) (lv + 1) ∧ p + 1 + Kind.partsS (k.kids.take j) ≤ 40 ∧ wr.cell? ⟨pb, 0, none⟩ = some (.int .i64 (p + 1 + Kind.partsS (k.kids.take j))) ∧ wr.frozen? ⟨pb, 0, none⟩ = false ∧ w.grownBy wr (some pb)) (fun i _ => k.kids.length - (intOf i).toNat)
        case atStart => exact ⟨0, Nat.zero_le _, rfl, by simp [Kind.goodS], by simp [Kind.partsS]; omega, by simpa [Kind.partsS] using hx1, hx2, g2⟩
        case round =>
          obtain ⟨j, hj, rfl, hgood, hle, hcj, hfj, hgr⟩ := hrel
          have HG := hide hgood
          have HR := hide hgr
          clear hgood hgr
          by_cases hlt : j < k.kids.length
          · obtain ⟨g, off, vs, fi, rfl, hg, hfi, hvl, hcs, hov⟩ := (HO2.out.grown HR.out hf.right (fun h => hpb (List.mem_append_right _ h))).elem Kind.cells_len hlt
            have hov' := hov
            obtain ⟨B1, d1, B2, d2, q1, q2, rfl, v0, x1, x2, rfl⟩ := hov.oKind
            have p0 := hcs 0 _ rfl
            have p1 := hcs 1 _ rfl
            have p2 := hcs 2 _ rfl
            simp only [Nat.add_zero] at p0
            have hfq : Lt (q1 ++ q2) wr.heap.size := ((hf.right).mono HR.out.size).sub hfi
            have hpq : pb ∉ q1 ++ q2 := fun h => hpb (List.mem_append_right _ (hfi h))
            have HC := hide (HI.out _ (List.getElem_mem hlt))
            have hsn := hide (Kind.goodS_snoc k.kids (lv + 1) j hlt)
            have hps := hide (Kind.partsS_snoc k.kids j hlt)
            have hpl' := Kind.partsS_le k.kids (j + 1)
            have hbl : k.kids[j].bulk ≤ 1048576 := by
              have h1 := Kind.bulkS_snoc k.kids j hlt
              have h2 := Kind.bulkS_le k.kids (j + 1)
              have h3 := HB.out
              omega
            have HO := hide (hov'.alloc hfq (.cells #[.int .i64 k.kids[j].sort, .slice B1 k.kids[j].names.length d1, .slice B2 k.kids[j].kids.length d2] 47))
            have hat := hide (fun (h : Kind.goodS k.kids (lv + 1)) => Kind.goodS_at h hlt)
            have hplr := cell_lt hcj
            clear hov hov' x1 x2 hcs
            generalize k.kids[j] = x at *
            generalize Kind.partsS (k.kids.take j) = m at *
            go_wp2_with fail
            refine (HC.out _ _ (lv + 1) _ (p + 1 + m) pb _ (by omega) HO.out (hfq.alloc _) hbl (by omega) (by omega) (by omega) (by omega) (by go_simp) (by go_simp) hpq).mono ?_
            rintro e w2 ⟨rfl, hz2, hcell2, hgr2⟩
            have hw2 := only_trans (only_alloc HR.out _) hgr2
            by_cases hx : x.fits (lv + 1) (p + 1 + m)
            · rw [tb_true hx]
              have hc2 := hcell2 hx
              have HX := hide hx
              clear hcell2 hx
              go_wp2
              go_roundw
              case rel => exact ⟨j + 1, by omega, by go_num, hsn.out.2 ⟨HG.out, HX.out.1⟩, by rw [hps.out]; have := HX.out.2; omega, by rw [hps.out, hc2]; go_num, hz2, hw2⟩
              case measure => simp [intOf]; omega
            · rw [tb_false hx]
              have HT := hide (tb_false (p := k.fits lv p) (fun h => hx ⟨hat.out ((Kind.good_iff _ _).1 h.1).2.2, by have h1 := h.2; have h2 := k.parts_eq; have h3 := hps.out; omega⟩))
              clear hx
              go_wp2
              go_ret
              exact ⟨ret_bool HT.out.symm, hz2, fun h => absurd (tb_true h) (by rw [HT.out]; simp), hw2⟩
          · obtain rfl : j = k.kids.length := by omega
            rw [List.take_length] at *
            have hfit : k.fits lv p := ⟨(Kind.good_iff _ _).2 ⟨h6, hs, HG.out⟩, by have := k.parts_eq; omega⟩
            have HT := hide (tb_true hfit)
            have HP := hide k.parts_eq
            clear hfit
            go_wp2
            go_ret
            exact ⟨ret_bool HT.out.symm, hfj, fun _ => by rw [hcj, HP.out]; go_num, HR.out⟩
      · rw [tb_false hs]
        have HT := hide (tb_false (p := k.fits lv p) (fun h => hs ((Kind.good_iff _ _).1 h.1).2.1))
        have hx2 : w1.frozen? ⟨pb, 0, none⟩ = false := by rw [hf1 pb 0 (by simp [World.setCell]; omega)]; go_simp
        go_wp2
        go_ret
        exact ⟨ret_bool HT.out.symm, hx2, fun h => absurd (tb_true h) (by rw [HT.out]; simp), g2⟩
    · have HT := hide (tb_false (p := k.fits lv p) (fun h => by have h1 := h.2; have h2 := k.parts_eq; omega))
      go_enter Try.func110, Try.ntmps110
      go_wp2
      go_ret
      exact ⟨ret_bool HT.out.symm, by go_simp, fun h => absurd (tb_true h) (by rw [HT.out]; simp), g1⟩
  · have HT := hide (tb_false (p := k.fits lv p) (fun h => by have h1 := ((Kind.good_iff _ _).1 h.1).1; omega))
    go_enter Try.func110, Try.ntmps110
    go_wp2
    go_ret
    exact ⟨ret_bool HT.out.symm, by go_simp, fun h => absurd (tb_true h) (by rw [HT.out]; simp), g1⟩

theorem lookKind_any (k : Kind) : LookKind k := Kind.ind lookKind_of k

end Go.Proofs.Ytbjblchhenmgjaa
