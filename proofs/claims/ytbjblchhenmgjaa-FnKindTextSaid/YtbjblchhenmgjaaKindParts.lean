/-
  Schemas that are ok: what the reference's l2Parts answers; the law on KindOk.
-/
import Derived.Test.YtbjblchhenmgjaaKindOk
set_option linter.unusedVariables false
set_option linter.unusedSimpArgs false
namespace Go.Proofs.Ytbjblchhenmgjaa
open Go.ChangeShapes Go.WideShapes Go.ChangeAt Go.RowKit

noncomputable def Kind.partsR (k : Kind) (lv : Nat) : Int := if tb (k.fits lv 0) = true then k.parts else -1
theorem Kind.partsR_yes {k : Kind} {lv : Nat} (h : k.fits lv 0) : k.partsR lv = k.parts := by unfold Kind.partsR; rw [tb_true h, if_pos rfl]
theorem Kind.partsR_no {k : Kind} {lv : Nat} (h : ¬ k.fits lv 0) : k.partsR lv = -1 := by unfold Kind.partsR; rw [tb_false h]; rfl

def PartsKind (k : Kind) : Prop := ∀ (us : List Value) (fp : List Nat) (lv : Nat) (z : Int) (w : World), z = lv → OwC w k.cells us fp → Lt fp w.heap.size → k.bulk ≤ 1048576 → 1 ≤ lv → lv ≤ 7 →
  Calls Try.prog 116 #[.agg us.toArray, .int .i64 z] w fun e w' => e = .returned (.int .i64 (k.partsR lv)) ∧ Below w.heap.size w w'

set_option maxRecDepth 100000 in
set_option maxHeartbeats 400000 in
theorem partsKind_five (k : Kind) (ih : ∀ x ∈ k.kids, PartsKind x) (hs : k.shape) (h5 : k.sort = 5) (hn : NamesOk k.names) (hl : k.names.length = k.kids.length) (fp : List Nat) (lv : Nat) (w : World) (A1 : Option Addr) (c1 : Nat) (A2 : Option Addr) (c2 : Nat) (f1 f2 : List Nat)
    (o1 : Ow w (.s 1 k.names.length (k.names.flatMap strC)) (.slice A1 k.names.length c1) f1) (o2 : Ow w (.s 3 k.kids.length (k.kids.flatMap Kind.cells)) (.slice A2 k.kids.length c2) f2) (hf : Lt (f1 ++ f2) w.heap.size) (hbk : k.bulk ≤ 1048576) (hl0 : 1 ≤ lv) (h6 : lv ≤ 6) :
    Calls Try.prog 116 #[.agg #[.int .i64 k.sort, .slice A1 k.names.length c1, .slice A2 k.kids.length c2], .int .i64 lv] w fun e w' => e = .returned (.int .i64 (k.partsR lv)) ∧ Below w.heap.size w w' := by
  have hkb := k.bulk_eq; unfold bulkStrs at hkb
  have hkl : k.kids.length ≤ 1048576 := by omega
  have hnl : k.names.length ≤ 1048576 := by omega
  have HB := hide hkb
  clear hkb
  have hw1 : Below w.heap.size w (w.alloc (.cells #[.int .i64 k.sort, .slice A1 k.names.length c1, .slice A2 k.kids.length c2] 47)) := (Below.refl _ _).alloc (Nat.le_refl _) _
  have ho1 := hide (o1.below hw1 hf.left)
  have HF := hide (fun (h1 : Kind.goodS k.kids (lv + 1)) (h2 : 1 + (Kind.partsS k.kids : Int) ≤ 40) => Kind.partsR_yes (k := k) (lv := lv) ⟨(Kind.good_iff _ _).2 ⟨h6, hs, h1⟩, by have := k.parts_eq; omega⟩)
  have HP := hide k.parts_eq
  have HN := hide (fun (h : ¬ (Kind.goodS k.kids (lv + 1) ∧ 1 + (Kind.partsS k.kids : Int) ≤ 40)) => Kind.partsR_no (k := k) (lv := lv) (fun h' => h ⟨((Kind.good_iff _ _).1 h'.1).2.2, by have := h'.2; have := k.parts_eq; omega⟩))
  have HO2 := hide o2
  have HI := hide ih
  clear o1 o2 ih hs
  generalize k.sort = s at *
  subst h5
  have hq : ((k.names.length : Int) != (k.kids.length : Int)) = false := by rw [bne_eq_false_iff_eq]; omega
  clear hl
  go_enter Try.func116, Try.ntmps116
  go_wp2_with fail
  refine (l6In_any _ _ _ _).mono ?_
  rintro e w' ⟨rfl, rfl⟩
  rw [tb_true (by omega)]
  go_wp2_with fail
  refine (l1Rise_any _ _ _ _ _ _ ho1.out).mono ?_
  rintro e w' ⟨rfl, q, rfl⟩
  rw [tb_true hn]
  go_wp2
  have hb0 : ((w.alloc (.cells #[.int .i64 5, .slice A1 k.names.length c1, .slice A2 k.kids.length c2] 47)).drewN q).cell? ⟨w.heap.size, 2, none⟩ = some (.slice A2 k.kids.length c2) := by go_simp
  have hw2 : Below w.heap.size w ((w.alloc (.cells #[.int .i64 5, .slice A1 k.names.length c1, .slice A2 k.kids.length c2] 47)).drewN q) := below_drewN hw1 q
  have hsz : w.heap.size < ((w.alloc (.cells #[.int .i64 5, .slice A1 k.names.length c1, .slice A2 k.kids.length c2] 47)).drewN q).heap.size := by simp
  go_loopw [6, 7] (fun a i wr => ∃ j : Nat, j ≤ k.kids.length ∧ i = .int .i64 j ∧ a = .int .i64 (1 + (Kind.partsS (k.kids.take j) : Int)) ∧ Kind.goodS (k.kids.take j) (lv + 1) ∧ 1 + (Kind.partsS (k.kids.take j) : Int) ≤ 40 ∧ wr.cell? ⟨w.heap.size, 2, none⟩ = some (.slice A2 k.kids.length c2) ∧ w.heap.size < wr.heap.size ∧ Below w.heap.size w wr) (fun _ i _ => k.kids.length - (intOf i).toNat)
  case atStart => exact ⟨0, Nat.zero_le _, rfl, by simp [Kind.partsS], by simp [Kind.goodS], by simp [Kind.partsS], hb0, hsz, hw2⟩
  case round =>
    obtain ⟨j, hj, rfl, rfl, hgood, hle, hcj, hszj, hbj⟩ := hrel
    have HG := hide hgood
    have HR := hide hbj
    clear hgood hbj hw2 hb0 hsz
    by_cases hlt : j < k.kids.length
    · obtain ⟨g, off, vs, fi, rfl, hg, hfi, hvl, hcs, hov⟩ := (HO2.out.below HR.out hf.right).elem Kind.cells_len hlt
      have hov' := hov
      obtain ⟨B1, d1, B2, d2, q1, q2, rfl, v0, x1, x2, rfl⟩ := hov.oKind
      have p0 := hcs 0 _ rfl
      have p1 := hcs 1 _ rfl
      have p2 := hcs 2 _ rfl
      simp only [Nat.add_zero] at p0
      have hfq : Lt (q1 ++ q2) wr.heap.size := ((hf.right).up HR.out).sub hfi
      have HC := hide (HI.out _ (List.getElem_mem hlt))
      have hsn := hide (Kind.goodS_snoc k.kids (lv + 1) j hlt)
      have hps := hide (Kind.partsS_snoc k.kids j hlt)
      have hpl' := Kind.partsS_le k.kids (j + 1)
      have hbl : k.kids[j].bulk ≤ 1048576 := by
        have h1 := Kind.bulkS_snoc k.kids j hlt
        have h2 := Kind.bulkS_le k.kids (j + 1)
        have h3 := HB.out
        omega
      have HO := hide hov'
      have hat := hide (fun (h : Kind.goodS k.kids (lv + 1)) => Kind.goodS_at h hlt)
      clear hov hov' x1 x2 hcs
      generalize k.kids[j] = x at *
      generalize Kind.partsS (k.kids.take j) = m at *
      go_wp2_with fail
      refine (HC.out _ _ (lv + 1) _ _ (by omega) HO.out hfq hbl (by omega) (by omega)).mono ?_
      rintro e w2 ⟨rfl, hb2⟩
      have hw3 := HR.out.trans (hb2.mono HR.out.size)
      have hsz3 : w.heap.size < w2.heap.size := Nat.lt_of_lt_of_le hszj hb2.size
      have hcj2 : w2.cell? ⟨w.heap.size, 2, none⟩ = some (.slice (some ⟨g, off, none⟩) k.kids.length c2) := (hb2.cell (p := ⟨w.heap.size, 2, none⟩) hszj).trans hcj
      by_cases hx : x.fits (lv + 1) 0
      · rw [Kind.partsR_yes hx]
        have hx2 : (x.parts : Int) ≤ 40 := by have := hx.2; omega
        have HX := hide hx
        clear hx hcj
        by_cases hsum : 1 + (m : Int) + x.parts ≤ 40
        · go_wp2
          go_roundw
          case rel => exact ⟨j + 1, by omega, by go_num, by rw [hps.out]; go_num, hsn.out.2 ⟨HG.out, HX.out.1⟩, by rw [hps.out]; omega, hcj2, hsz3, hw3⟩
          case measure => simp [intOf]; omega
        · have HT := hide (HN.out (fun h => hsum (by have := h.2; have := hps.out; omega)))
          go_wp2
          go_ret
          exact ⟨ret_int HT.out.symm, hw3⟩
      · rw [Kind.partsR_no hx]
        have HT := hide (HN.out (fun h => hx ⟨hat.out h.1, by have := h.2; have := hps.out; omega⟩))
        clear hx
        go_wp2
        go_ret
        exact ⟨ret_int HT.out.symm, hw3⟩
    · obtain rfl : j = k.kids.length := by omega
      rw [List.take_length] at *
      have HT := hide (HF.out HG.out hle)
      go_wp2
      go_ret
      exact ⟨ret_int (by rw [HT.out, HP.out]; go_num), HR.out⟩

set_option maxRecDepth 100000 in
theorem l2Parts_leaf (s : Int) (lv : Nat) (w : World) (A1 : Option Addr) (c1 : Nat) (A2 : Option Addr) (c2 : Nat) (h1 : 1 ≤ s) (h4 : s < 4) (hl0 : 1 ≤ lv) (h6 : lv ≤ 6) :
    Calls Try.prog 116 #[.agg #[.int .i64 s, .slice A1 0 c1, .slice A2 0 c2], .int .i64 lv] w fun e w' => e = .returned (.int .i64 1) ∧ Below w.heap.size w w' := by
  have b4 := bne_f (s := s) (c := 4) (by omega)
  have b5 := bne_f (s := s) (c := 5) (by omega)
  have b6 := bne_f (s := s) (c := 6) (by omega)
  have b5' : (s != 5) = true := by rw [bne_iff_ne]; omega
  go_enter Try.func116, Try.ntmps116
  go_wp2_with fail
  refine (l6In_any _ _ _ _).mono ?_
  rintro e w' ⟨rfl, rfl⟩
  rw [tb_true (by omega)]
  go_wp2
  go_loop [6, 7] (fun a i => a = .int .i64 1 ∧ i = .int .i64 0) (fun _ _ => 0)
  case atStart => exact ⟨rfl, rfl⟩
  case round =>
    obtain ⟨rfl, rfl⟩ := hrel
    go_wp2
    go_ret
    exact ⟨rfl, (Below.refl _ _).alloc (Nat.le_refl _) _⟩

set_option maxRecDepth 100000 in
set_option maxHeartbeats 400000 in
theorem partsKind_one (k : Kind) (ih : ∀ x ∈ k.kids, PartsKind x) (hs : k.shape) (s : Int) (hss : k.sort = s) (h46 : s = 4 ∨ s = 6) (hl : k.kids.length = 1) (fp : List Nat) (lv : Nat) (w : World) (A1 : Option Addr) (c1 : Nat) (A2 : Option Addr) (c2 : Nat) (f1 f2 : List Nat)
    (o2 : Ow w (.s 3 k.kids.length (k.kids.flatMap Kind.cells)) (.slice A2 k.kids.length c2) f2) (hf : Lt (f1 ++ f2) w.heap.size) (hbk : k.bulk ≤ 1048576) (hl0 : 1 ≤ lv) (h6 : lv ≤ 6) :
    Calls Try.prog 116 #[.agg #[.int .i64 s, .slice A1 0 c1, .slice A2 k.kids.length c2], .int .i64 lv] w fun e w' => e = .returned (.int .i64 (k.partsR lv)) ∧ Below w.heap.size w w' := by
  have hkb := k.bulk_eq; unfold bulkStrs at hkb
  have hkl : k.kids.length ≤ 1048576 := by omega
  have hnl : k.names.length ≤ 1048576 := by omega
  have HB := hide hkb
  clear hkb
  have hw1 : Below w.heap.size w (w.alloc (.cells #[.int .i64 s, .slice A1 0 c1, .slice A2 k.kids.length c2] 47)) := (Below.refl _ _).alloc (Nat.le_refl _) _
  have HF := hide (fun (h1 : Kind.goodS k.kids (lv + 1)) (h2 : 1 + (Kind.partsS k.kids : Int) ≤ 40) => Kind.partsR_yes (k := k) (lv := lv) ⟨(Kind.good_iff _ _).2 ⟨h6, hs, h1⟩, by have := k.parts_eq; omega⟩)
  have HP := hide k.parts_eq
  have HN := hide (fun (h : ¬ (Kind.goodS k.kids (lv + 1) ∧ 1 + (Kind.partsS k.kids : Int) ≤ 40)) => Kind.partsR_no (k := k) (lv := lv) (fun h' => h ⟨((Kind.good_iff _ _).1 h'.1).2.2, by have := h'.2; have := k.parts_eq; omega⟩))
  have HO2 := hide o2
  have HI := hide ih
  clear o2 ih hs
  have hq : ((k.kids.length : Int) != 1) = false := by rw [bne_eq_false_iff_eq]; omega
  clear hl hss
  rcases h46 with rfl | rfl
  · go_enter Try.func116, Try.ntmps116
    go_wp2_with fail
    refine (l6In_any _ _ _ _).mono ?_
    rintro e w' ⟨rfl, rfl⟩
    rw [tb_true (by omega)]
    go_wp2
    have hb0 : (w.alloc (.cells #[.int .i64 4, .slice A1 0 c1, .slice A2 k.kids.length c2] 47)).cell? ⟨w.heap.size, 2, none⟩ = some (.slice A2 k.kids.length c2) := by go_simp
    have hw2 : Below w.heap.size w (w.alloc (.cells #[.int .i64 4, .slice A1 0 c1, .slice A2 k.kids.length c2] 47)) := hw1
    have hsz : w.heap.size < (w.alloc (.cells #[.int .i64 4, .slice A1 0 c1, .slice A2 k.kids.length c2] 47)).heap.size := by simp
    go_loopw [6, 7] (fun a i wr => ∃ j : Nat, j ≤ k.kids.length ∧ i = .int .i64 j ∧ a = .int .i64 (1 + (Kind.partsS (k.kids.take j) : Int)) ∧ Kind.goodS (k.kids.take j) (lv + 1) ∧ 1 + (Kind.partsS (k.kids.take j) : Int) ≤ 40 ∧ wr.cell? ⟨w.heap.size, 2, none⟩ = some (.slice A2 k.kids.length c2) ∧ w.heap.size < wr.heap.size ∧ Below w.heap.size w wr) (fun _ i _ => k.kids.length - (intOf i).toNat)
    case atStart => exact ⟨0, Nat.zero_le _, rfl, by simp [Kind.partsS], by simp [Kind.goodS], by simp [Kind.partsS], hb0, hsz, hw2⟩
    case round =>
      obtain ⟨j, hj, rfl, rfl, hgood, hle, hcj, hszj, hbj⟩ := hrel
      have HG := hide hgood
      have HR := hide hbj
      clear hgood hbj hw2 hb0 hsz
      by_cases hlt : j < k.kids.length
      · obtain ⟨g, off, vs, fi, rfl, hg, hfi, hvl, hcs, hov⟩ := (HO2.out.below HR.out hf.right).elem Kind.cells_len hlt
        have hov' := hov
        obtain ⟨B1, d1, B2, d2, q1, q2, rfl, v0, x1, x2, rfl⟩ := hov.oKind
        have p0 := hcs 0 _ rfl
        have p1 := hcs 1 _ rfl
        have p2 := hcs 2 _ rfl
        simp only [Nat.add_zero] at p0
        have hfq : Lt (q1 ++ q2) wr.heap.size := ((hf.right).up HR.out).sub hfi
        have HC := hide (HI.out _ (List.getElem_mem hlt))
        have hsn := hide (Kind.goodS_snoc k.kids (lv + 1) j hlt)
        have hps := hide (Kind.partsS_snoc k.kids j hlt)
        have hpl' := Kind.partsS_le k.kids (j + 1)
        have hbl : k.kids[j].bulk ≤ 1048576 := by
          have h1 := Kind.bulkS_snoc k.kids j hlt
          have h2 := Kind.bulkS_le k.kids (j + 1)
          have h3 := HB.out
          omega
        have HO := hide hov'
        have hat := hide (fun (h : Kind.goodS k.kids (lv + 1)) => Kind.goodS_at h hlt)
        clear hov hov' x1 x2 hcs
        generalize k.kids[j] = x at *
        generalize Kind.partsS (k.kids.take j) = m at *
        go_wp2_with fail
        refine (HC.out _ _ (lv + 1) _ _ (by omega) HO.out hfq hbl (by omega) (by omega)).mono ?_
        rintro e w2 ⟨rfl, hb2⟩
        have hw3 := HR.out.trans (hb2.mono HR.out.size)
        have hsz3 : w.heap.size < w2.heap.size := Nat.lt_of_lt_of_le hszj hb2.size
        have hcj2 : w2.cell? ⟨w.heap.size, 2, none⟩ = some (.slice (some ⟨g, off, none⟩) k.kids.length c2) := (hb2.cell (p := ⟨w.heap.size, 2, none⟩) hszj).trans hcj
        by_cases hx : x.fits (lv + 1) 0
        · rw [Kind.partsR_yes hx]
          have hx2 : (x.parts : Int) ≤ 40 := by have := hx.2; omega
          have HX := hide hx
          clear hx hcj
          by_cases hsum : 1 + (m : Int) + x.parts ≤ 40
          · go_wp2
            go_roundw
            case rel => exact ⟨j + 1, by omega, by go_num, by rw [hps.out]; go_num, hsn.out.2 ⟨HG.out, HX.out.1⟩, by rw [hps.out]; omega, hcj2, hsz3, hw3⟩
            case measure => simp [intOf]; omega
          · have HT := hide (HN.out (fun h => hsum (by have := h.2; have := hps.out; omega)))
            go_wp2
            go_ret
            exact ⟨ret_int HT.out.symm, hw3⟩
        · rw [Kind.partsR_no hx]
          have HT := hide (HN.out (fun h => hx ⟨hat.out h.1, by have := h.2; have := hps.out; omega⟩))
          clear hx
          go_wp2
          go_ret
          exact ⟨ret_int HT.out.symm, hw3⟩
      · obtain rfl : j = k.kids.length := by omega
        rw [List.take_length] at *
        have HT := hide (HF.out HG.out hle)
        go_wp2
        go_ret
        exact ⟨ret_int (by rw [HT.out, HP.out]; go_num), HR.out⟩
  · go_enter Try.func116, Try.ntmps116
    go_wp2_with fail
    refine (l6In_any _ _ _ _).mono ?_
    rintro e w' ⟨rfl, rfl⟩
    rw [tb_true (by omega)]
    go_wp2
    have hb0 : (w.alloc (.cells #[.int .i64 6, .slice A1 0 c1, .slice A2 k.kids.length c2] 47)).cell? ⟨w.heap.size, 2, none⟩ = some (.slice A2 k.kids.length c2) := by go_simp
    have hw2 : Below w.heap.size w (w.alloc (.cells #[.int .i64 6, .slice A1 0 c1, .slice A2 k.kids.length c2] 47)) := hw1
    have hsz : w.heap.size < (w.alloc (.cells #[.int .i64 6, .slice A1 0 c1, .slice A2 k.kids.length c2] 47)).heap.size := by simp
    go_loopw [6, 7] (fun a i wr => ∃ j : Nat, j ≤ k.kids.length ∧ i = .int .i64 j ∧ a = .int .i64 (1 + (Kind.partsS (k.kids.take j) : Int)) ∧ Kind.goodS (k.kids.take j) (lv + 1) ∧ 1 + (Kind.partsS (k.kids.take j) : Int) ≤ 40 ∧ wr.cell? ⟨w.heap.size, 2, none⟩ = some (.slice A2 k.kids.length c2) ∧ w.heap.size < wr.heap.size ∧ Below w.heap.size w wr) (fun _ i _ => k.kids.length - (intOf i).toNat)
    case atStart => exact ⟨0, Nat.zero_le _, rfl, by simp [Kind.partsS], by simp [Kind.goodS], by simp [Kind.partsS], hb0, hsz, hw2⟩
    case round =>
      obtain ⟨j, hj, rfl, rfl, hgood, hle, hcj, hszj, hbj⟩ := hrel
      have HG := hide hgood
      have HR := hide hbj
      clear hgood hbj hw2 hb0 hsz
      by_cases hlt : j < k.kids.length
      · obtain ⟨g, off, vs, fi, rfl, hg, hfi, hvl, hcs, hov⟩ := (HO2.out.below HR.out hf.right).elem Kind.cells_len hlt
        have hov' := hov
        obtain ⟨B1, d1, B2, d2, q1, q2, rfl, v0, x1, x2, rfl⟩ := hov.oKind
        have p0 := hcs 0 _ rfl
        have p1 := hcs 1 _ rfl
        have p2 := hcs 2 _ rfl
        simp only [Nat.add_zero] at p0
        have hfq : Lt (q1 ++ q2) wr.heap.size := ((hf.right).up HR.out).sub hfi
        have HC := hide (HI.out _ (List.getElem_mem hlt))
        have hsn := hide (Kind.goodS_snoc k.kids (lv + 1) j hlt)
        have hps := hide (Kind.partsS_snoc k.kids j hlt)
        have hpl' := Kind.partsS_le k.kids (j + 1)
        have hbl : k.kids[j].bulk ≤ 1048576 := by
          have h1 := Kind.bulkS_snoc k.kids j hlt
          have h2 := Kind.bulkS_le k.kids (j + 1)
          have h3 := HB.out
          omega
        have HO := hide hov'
        have hat := hide (fun (h : Kind.goodS k.kids (lv + 1)) => Kind.goodS_at h hlt)
        clear hov hov' x1 x2 hcs
        generalize k.kids[j] = x at *
        generalize Kind.partsS (k.kids.take j) = m at *
        go_wp2_with fail
        refine (HC.out _ _ (lv + 1) _ _ (by omega) HO.out hfq hbl (by omega) (by omega)).mono ?_
        rintro e w2 ⟨rfl, hb2⟩
        have hw3 := HR.out.trans (hb2.mono HR.out.size)
        have hsz3 : w.heap.size < w2.heap.size := Nat.lt_of_lt_of_le hszj hb2.size
        have hcj2 : w2.cell? ⟨w.heap.size, 2, none⟩ = some (.slice (some ⟨g, off, none⟩) k.kids.length c2) := (hb2.cell (p := ⟨w.heap.size, 2, none⟩) hszj).trans hcj
        by_cases hx : x.fits (lv + 1) 0
        · rw [Kind.partsR_yes hx]
          have hx2 : (x.parts : Int) ≤ 40 := by have := hx.2; omega
          have HX := hide hx
          clear hx hcj
          by_cases hsum : 1 + (m : Int) + x.parts ≤ 40
          · go_wp2
            go_roundw
            case rel => exact ⟨j + 1, by omega, by go_num, by rw [hps.out]; go_num, hsn.out.2 ⟨HG.out, HX.out.1⟩, by rw [hps.out]; omega, hcj2, hsz3, hw3⟩
            case measure => simp [intOf]; omega
          · have HT := hide (HN.out (fun h => hsum (by have := h.2; have := hps.out; omega)))
            go_wp2
            go_ret
            exact ⟨ret_int HT.out.symm, hw3⟩
        · rw [Kind.partsR_no hx]
          have HT := hide (HN.out (fun h => hx ⟨hat.out h.1, by have := h.2; have := hps.out; omega⟩))
          clear hx
          go_wp2
          go_ret
          exact ⟨ret_int HT.out.symm, hw3⟩
      · obtain rfl : j = k.kids.length := by omega
        rw [List.take_length] at *
        have HT := hide (HF.out HG.out hle)
        go_wp2
        go_ret
        exact ⟨ret_int (by rw [HT.out, HP.out]; go_num), HR.out⟩

set_option maxRecDepth 100000 in
set_option maxHeartbeats 400000 in
theorem l2Parts_bad (s : Int) (ns : List ByteArray) (kl : Nat) (f1 : List Nat) (lv : Nat) (w : World) (A1 : Option Addr) (c1 : Nat) (A2 : Option Addr) (c2 : Nat) (hl0 : 1 ≤ lv) (h6 : lv ≤ 6) (hns : ns.length ≤ 1048576) (hkl : kl ≤ 1048576)
    (o1 : Ow w (.s 1 ns.length (ns.flatMap strC)) (.slice A1 ns.length c1) f1) (hf : Lt f1 w.heap.size)
    (hs : ¬ (((s = 1 ∨ s = 2 ∨ s = 3) ∧ ns.length = 0 ∧ kl = 0) ∨ ((s = 4 ∨ s = 6) ∧ ns.length = 0 ∧ kl = 1) ∨ (s = 5 ∧ NamesOk ns ∧ ns.length = kl))) :
    Calls Try.prog 116 #[.agg #[.int .i64 s, .slice A1 ns.length c1, .slice A2 kl c2], .int .i64 lv] w fun e w' => e = .returned (.int .i64 (-1)) ∧ Below w.heap.size w w' := by
  have hw1 : Below w.heap.size w (w.alloc (.cells #[.int .i64 s, .slice A1 ns.length c1, .slice A2 kl c2] 47)) := (Below.refl _ _).alloc (Nat.le_refl _) _
  have ho1 := hide (o1.below hw1 hf)
  clear o1
  by_cases h16 : 1 ≤ s ∧ s ≤ 6
  · by_cases h5 : s = 5
    · subst h5
      by_cases hl : ns.length = kl
      · have hn : ¬ NamesOk ns := fun h => hs (.inr (.inr ⟨rfl, h, hl⟩))
        have hq : ((ns.length : Int) != (kl : Int)) = false := by rw [bne_eq_false_iff_eq]; omega
        clear hl hs
        go_enter Try.func116, Try.ntmps116
        go_wp2_with fail
        refine (l6In_any _ _ _ _).mono ?_
        rintro e w' ⟨rfl, rfl⟩
        rw [tb_true (by omega)]
        go_wp2_with fail
        refine (l1Rise_any _ _ _ _ _ _ ho1.out).mono ?_
        rintro e w' ⟨rfl, q, rfl⟩
        rw [tb_false hn]
        go_wp2
        go_ret
        exact ⟨rfl, below_drewN hw1 q⟩
      · have hq : ((ns.length : Int) != (kl : Int)) = true := by rw [bne_iff_ne]; omega
        clear hl hs
        go_enter Try.func116, Try.ntmps116
        go_wp2_with fail
        refine (l6In_any _ _ _ _).mono ?_
        rintro e w' ⟨rfl, rfl⟩
        rw [tb_true (by omega)]
        go_wp2
        go_ret
        exact ⟨rfl, hw1⟩
    · have b5 := bne_f h5
      have b5' : (s != 5) = true := by rw [bne_iff_ne]; omega
      by_cases hn : ns.length = 0
      · have hk : (s < 4 ∧ kl ≠ 0) ∨ ((s = 4 ∨ s = 6) ∧ kl ≠ 1) := by omega
        rw [hn] at hw1 ⊢
        clear hs ho1 hn
        rcases hk with ⟨h4, hk⟩ | ⟨h46, hk⟩
        · have hk0 : (0 : Int) < (kl : Int) := by omega
          go_enter Try.func116, Try.ntmps116
          go_wp2_with fail
          refine (l6In_any _ _ _ _).mono ?_
          rintro e w' ⟨rfl, rfl⟩
          rw [tb_true (by omega)]
          go_wp2
          go_ret
          exact ⟨rfl, hw1⟩
        · have hq : ((kl : Int) != 1) = true := by rw [bne_iff_ne]; omega
          rcases h46 with rfl | rfl
          all_goals
            go_enter Try.func116, Try.ntmps116
            go_wp2_with fail
            refine (l6In_any _ _ _ _).mono ?_
            rintro e w' ⟨rfl, rfl⟩
            rw [tb_true (by omega)]
            go_wp2
            go_ret
            exact ⟨rfl, hw1⟩
      · have hn1 : (0 : Int) < (ns.length : Int) := by omega
        have hn2 : ns ≠ [] := fun h => hn (by rw [h]; rfl)
        clear hs
        go_enter Try.func116, Try.ntmps116
        go_wp2_with fail
        refine (l6In_any _ _ _ _).mono ?_
        rintro e w' ⟨rfl, rfl⟩
        rw [tb_true (by omega)]
        go_wp2
        go_ret
        exact ⟨rfl, hw1⟩
  · clear hs
    go_enter Try.func116, Try.ntmps116
    go_wp2_with fail
    refine (l6In_any _ _ _ _).mono ?_
    rintro e w' ⟨rfl, rfl⟩
    rw [tb_false h16]
    go_wp2
    go_ret
    exact ⟨rfl, hw1⟩


set_option maxRecDepth 100000 in
theorem partsKind_of (k : Kind) (ih : ∀ x ∈ k.kids, PartsKind x) : PartsKind k := by
  intro us fp lv z w hz ho hf hbk hl0 hl1
  obtain ⟨A1, c1, A2, c2, f1, f2, rfl, w0, o1, o2, rfl⟩ := ho.oKind
  subst hz
  have hkb := k.bulk_eq; unfold bulkStrs at hkb
  by_cases h6 : lv ≤ 6
  · by_cases hs : k.shape
    · rcases k.shape_iff.1 hs with ⟨h1, h2, h3⟩ | ⟨h1, h2, h3⟩ | ⟨h1, h2, h3⟩
      · have e1 : k.kids = [] := List.eq_nil_of_length_eq_zero h3
        have hp : k.partsR lv = 1 := by
          have hp1 : k.parts = 1 := by rw [Kind.parts_eq, e1]; rfl
          rw [Kind.partsR_yes ⟨(Kind.good_iff _ _).2 ⟨h6, hs, by rw [e1]; trivial⟩, by rw [hp1]; decide⟩, hp1]
          rfl
        rw [hp, h2, h3]
        exact l2Parts_leaf _ _ _ _ _ _ _ (by omega) (by omega) hl0 h6
      · have := partsKind_one k ih hs k.sort rfl h1 h3 [] lv w A1 c1 A2 c2 f1 f2 o2 hf hbk hl0 h6
        rw [h2]
        exact this
      · exact partsKind_five k ih hs h1 h2 h3 [] lv w A1 c1 A2 c2 f1 f2 o1 o2 hf hbk hl0 h6
    · rw [Kind.partsR_no (fun h => hs ((Kind.good_iff _ _).1 h.1).2.1)]
      exact l2Parts_bad k.sort k.names k.kids.length f1 lv w A1 c1 A2 c2 hl0 h6 (by omega) (by omega) o1 hf.left (fun h => hs (k.shape_iff.2 h))
  · rw [Kind.partsR_no (fun h => h6 ((Kind.good_iff _ _).1 h.1).1)]
    clear ih ho
    go_enter Try.func116, Try.ntmps116
    go_wp2
    go_ret
    exact ⟨rfl, (Below.refl _ _).alloc (Nat.le_refl _) _⟩

theorem partsKind_any (k : Kind) : PartsKind k := Kind.ind partsKind_of k
end Go.Proofs.Ytbjblchhenmgjaa
