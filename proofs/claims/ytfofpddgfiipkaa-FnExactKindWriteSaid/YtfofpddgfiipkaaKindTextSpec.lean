/-
  The text of a schema: the reference's l2Text.
-/
import Derived.Test.YtfofpddgfiipkaaKindText
import Derived.Deep.RegionHeld3
set_option linter.unusedVariables false
set_option linter.unusedSimpArgs false
namespace Go.Proofs.Ytfofpddgfiipkaa
open Go.ChangeShapes Go.WideShapes Go.ChangeAt Go.RowKit

def TextKind (k : Kind) : Prop := ∀ (us : List Value) (fp : List Nat) (lv : Nat) (w : World), OwC w k.cells us fp → Lt fp w.heap.size → k.bulk ≤ 1048576 → k.good lv → k.parts ≤ 40 →
  Calls Try.prog 46 #[.agg us.toArray] w fun e w' => e = .returned (.string k.text) ∧ Below w.heap.size w w'

theorem Kind.text1_at (l : List Kind) (h : 0 < l.length) : Kind.text1 l = l[0].text := by
  cases l with
  | nil => simp at h
  | cons x r => simp [Kind.text1]
theorem Kind.partsS_at (l : List Kind) (j : Nat) (h : j < l.length) : l[j].parts ≤ Kind.partsS l := by
  have h1 := Kind.partsS_snoc l j h
  have h2 := Kind.partsS_le l (j + 1)
  omega
theorem Kind.bulkS_at (l : List Kind) (j : Nat) (h : j < l.length) : l[j].bulk ≤ Kind.bulkS l := by
  have h1 := Kind.bulkS_snoc l j h
  have h2 := Kind.bulkS_le l (j + 1)
  omega

theorem Kind.textS_take (k : Kind) (lv : Nat) (hg : Kind.goodS k.kids lv) (hn : NamesOk k.names) (hl : k.names.length = k.kids.length) (j : Nat) (b : Bool) :
    (Kind.textS b (k.names.take j) (k.kids.take j)).size ≤ 14 * Kind.partsS k.kids :=
  Nat.le_trans (Kind.textS_size _ _ b (by simp [hl]) (fun i hi => by rw [List.getElem_take]; exact (hn i (by simp at hi; omega)).1.2.1) (fun x hx => Kind.text_size x _ (Kind.goodS_mem _ _ hg x (List.mem_of_mem_take hx))))
    (Nat.mul_le_mul_left _ (Kind.partsS_le _ _))

set_option maxRecDepth 100000 in
set_option maxHeartbeats 1000000 in
theorem textKind_of (k : Kind) (ih : ∀ x ∈ k.kids, TextKind x) : TextKind k := by
  intro us fp lv w ho hf hbk hg hp
  obtain ⟨A1, c1, A2, c2, f1, f2, rfl, w0, o1, o2, rfl⟩ := ho.oKind
  clear ho
  have hw1 : Below w.heap.size w (w.alloc (.cells #[.int .i64 k.sort, .slice A1 k.names.length c1, .slice A2 k.kids.length c2] 42)) := (Below.refl _ _).alloc (Nat.le_refl _) _
  have R1 : Row (w.alloc (.cells #[.int .i64 k.sort, .slice A1 k.names.length c1, .slice A2 k.kids.length c2] 42)) w.heap.size 42 [.int .i64 k.sort, .slice A1 k.names.length c1, .slice A2 k.kids.length c2] := Row.new w _ _
  have hgk := (Kind.good_iff _ _).1 hg
  have hpk := k.parts_eq
  have hkb := k.bulk_eq; unfold bulkStrs at hkb
  have hsz := Kind.text_size k lv hg
  have HT := hide k.text_eq
  have s1 : (ByteArray.mk #[91]).size = 1 := rfl
  have s2 : (ByteArray.mk #[93]).size = 1 := rfl
  have s3 : (ByteArray.mk #[63]).size = 1 := rfl
  have s4 : (ByteArray.mk #[123]).size = 1 := rfl
  have s5 : (ByteArray.mk #[125]).size = 1 := rfl
  have s6 : (ByteArray.mk #[44]).size = 1 := rfl
  have s7 : (ByteArray.mk #[58]).size = 1 := rfl
  rcases k.shape_iff.1 hgk.2.1 with ⟨h1, h2, h3⟩ | ⟨h1, h2, h3⟩ | ⟨h1, h2, h3⟩
  · have HR := hide hw1
    clear o1 o2 hw1 R1 ih hg hgk h2 h3 hkb
    generalize k.sort = s at *
    rcases h1 with rfl | rfl | rfl
    all_goals
      go_enter Try.func46, Try.ntmps46
      go_wp2
      go_ret
      exact ⟨ret_str (by rw [HT.out]; simp), HR.out⟩
  · have hlt : 0 < k.kids.length := by omega
    obtain ⟨g, off, vs, fi, rfl, hgm, hfi, hvl, hcs, hov⟩ := (o2.below hw1 hf.right).elem Kind.cells_len hlt
    have hov' := hide hov
    obtain ⟨B1, d1, B2, d2, q1, q2, rfl, v0, x1, x2, rfl⟩ := hov.oKind
    have p0 := hcs 0 _ rfl
    have p1 := hcs 1 _ rfl
    have p2 := hcs 2 _ rfl
    simp only [Nat.zero_mul, Nat.add_zero] at p0 p1 p2
    have hfq := hide (((hf.right).up hw1).sub hfi)
    have HC := hide (ih _ (List.getElem_mem hlt))
    have HTK := hide (Kind.text1_at k.kids hlt)
    have hgx := hide (Kind.goodS_mem _ _ hgk.2.2 _ (List.getElem_mem hlt))
    have hpx := Kind.partsS_at k.kids 0 hlt
    have hbx := Kind.bulkS_at k.kids 0 hlt
    have hsx := Kind.text_size _ _ hgx.out
    have HR := hide hw1
    have hkl : k.kids.length ≤ 1048576 := by omega
    clear x1 x2 hov hcs o1 o2 hw1 R1 ih hg hgk h2 h3
    generalize k.kids[0] = x at *
    generalize k.sort = s at *
    rcases h1 with rfl | rfl
    · go_enter Try.func46, Try.ntmps46
      go_wp2_with fail
      refine (HC.out _ _ (lv + 1) _ hov'.out hfq.out (by omega) hgx.out (by omega)).mono ?_
      rintro e w2 ⟨rfl, hb2⟩
      go_wp2
      go_ret
      exact ⟨ret_str (by rw [HT.out]; simp [HTK.out]), HR.out.trans (hb2.mono HR.out.size)⟩
    · go_enter Try.func46, Try.ntmps46
      go_wp2_with fail
      refine (HC.out _ _ (lv + 1) _ hov'.out hfq.out (by omega) hgx.out (by omega)).mono ?_
      rintro e w2 ⟨rfl, hb2⟩
      go_wp2
      go_ret
      exact ⟨ret_str (by rw [HT.out]; simp [HTK.out]), HR.out.trans (hb2.mono HR.out.size)⟩
  · have hnl : k.names.length ≤ 1048576 := by omega
    have hkl : k.kids.length ≤ 1048576 := by omega
    have hall := hide (fun j => Kind.textS_take k (lv + 1) hgk.2.2 h2 h3 j true)
    have HN := hide h2
    have HL := hide h3
    have HI := hide ih
    have HG := hide hgk.2.2
    have HO1 := hide o1
    have HO2 := hide o2
    have HF1 := hide hf.left
    have HF2 := hide hf.right
    have c10 := R1.cell 1
    have c20 := R1.cell 2
    have z0 := R1.lt
    have HR := hide hw1
    have HRW := hide R1
    have hpp : Kind.partsS k.kids ≤ 39 := by omega
    have hbb : Kind.bulkS k.kids ≤ 1048576 := by omega
    have hend := hide (show k.text = ⟨#[123]⟩ ++ Kind.textS true k.names k.kids ++ ⟨#[125]⟩ by rw [HT.out, h1]; simp)
    clear o1 o2 hw1 ih hg hgk h2 h3 hsz hpk hkb hp hbk hf HT R1
    generalize k.sort = s at *
    subst h1
    go_enter Try.func46, Try.ntmps46
    go_wp2
    go_loopw [3, 4] (fun o i wr => (∃ j : Nat, j ≤ k.kids.length ∧ i = .int .i64 j ∧ o = .string (Kind.textS true (k.names.take j) (k.kids.take j)) ∧ Row wr w.heap.size 42 [.int .i64 5, .slice A1 k.names.length c1, .slice A2 k.kids.length c2]) ∧ Below w.heap.size w wr) (fun _ i _ => k.kids.length - (intOf i).toNat)
    case atStart => exact ⟨⟨0, Nat.zero_le _, rfl, by simp [Kind.textS]; rfl, HRW.out⟩, HR.out⟩
    case round =>
      obtain ⟨⟨j, hj, rfl, rfl, hrow⟩, hbel⟩ := hrel
      have HB := hide hbel
      have HW := hide hrow
      have e1 := hrow.cell 1
      have e2 := hrow.cell 2
      have e0 := hrow.lt
      clear hbel hrow c10 c20 z0
      by_cases hlt : j < k.kids.length
      · have hln : j < k.names.length := by have := HL.out; omega
        obtain ⟨g, off, vs, fi, rfl, hgm, hfi, hvl, hcs, hov⟩ := (HO2.out.below HB.out HF2.out).elem Kind.cells_len hlt
        obtain ⟨ga, oa, us, fa, rfl, hga, hfa, hul, hca, hoa⟩ := (HO1.out.below HB.out HF1.out).elem strC_len hln
        have hov' := hide hov
        obtain ⟨B1, d1, B2, d2, q1, q2, rfl, v0, x1, x2, rfl⟩ := hov.oKind
        obtain ⟨rfl, hs, rfl⟩ := hoa.str
        have p0 := hcs 0 _ rfl
        have p1 := hcs 1 _ rfl
        have p2 := hcs 2 _ rfl
        have pa := hca 0 _ rfl
        simp only [Nat.add_zero, Nat.mul_one] at p0 pa
        have hgl := (HF2.out.up HB.out) g hgm
        have hal := (HF1.out.up HB.out) ga hga
        have hfq := hide (((HF2.out).up HB.out).sub hfi)
        have HC := hide (HI.out _ (List.getElem_mem hlt))
        have hgx := hide (Kind.goodS_mem _ _ HG.out _ (List.getElem_mem hlt))
        have hpx := Kind.partsS_at k.kids j hlt
        have hbx := Kind.bulkS_at k.kids j hlt
        have hsx := Kind.text_size _ _ hgx.out
        have hnx : k.names[j].size ≤ 8 := (HN.out j hln).1.2.1
        have hsn := hide (Kind.textS_snoc k.names k.kids true j hln hlt)
        have hcur := hall.out j
        clear x1 x2 hov hcs hca hoa
        generalize k.kids[j] = x at *
        generalize k.names[j] = nm at *
        generalize hcu : Kind.textS true (k.names.take j) (k.kids.take j) = cur at *
        by_cases hj0 : (0 : Int) < (j : Int)
        · have hce := hide (show (true && j == 0) = false by simp; omega)
          have n1 : ¬ (9223372036854775807 < cur.size + 1 + nm.size) := by omega
          have n2 : ¬ (9223372036854775807 < cur.size + 1 + nm.size + 1) := by omega
          have n3 : ¬ (9223372036854775807 < cur.size + 1 + nm.size + 1 + x.text.size) := by omega
          go_wp2
          go_region_held3 (fun u => u.cell? ⟨w.heap.size, 1, none⟩ = some (.slice (some ⟨ga, oa, none⟩) k.names.length c1) ∧ u.cell? ⟨w.heap.size, 2, none⟩ = some (.slice (some ⟨g, off, none⟩) k.kids.length c2) ∧ u.cell? ⟨ga, oa + j, none⟩ = some (.string nm) ∧
              u.cell? ⟨g, off + j * 3, none⟩ = some (.int .i64 x.sort) ∧ u.cell? ⟨g, off + j * 3 + 1, none⟩ = some (.slice B1 x.names.length d1) ∧ u.cell? ⟨g, off + j * 3 + 2, none⟩ = some (.slice B2 x.kids.length d2))
            (first | go_keep | exact ⟨(hb2.cell (p := ⟨w.heap.size, 1, none⟩) e0).trans e1, (hb2.cell (p := ⟨w.heap.size, 2, none⟩) e0).trans e2, (hb2.cell (p := ⟨ga, oa + j, none⟩) hal).trans pa, (hb2.cell (p := ⟨g, off + j * 3, none⟩) hgl).trans p0, (hb2.cell (p := ⟨g, off + j * 3 + 1, none⟩) hgl).trans p1, (hb2.cell (p := ⟨g, off + j * 3 + 2, none⟩) hgl).trans p2⟩)
            (first | (go_at_call 46; refine (HC.out _ _ (lv + 1) _ (hov'.out.drewN 1) hfq.out (by omega) hgx.out (by omega)).mono ?_; rintro e w2 ⟨rfl, hb2⟩))
          have hz2 : Below wr.heap.size wr w2 := ⟨hb2.os, hb2.tape, hb2.output, hb2.size, hb2.block⟩
          have hw2 := HW.out.below hz2 HW.out.lt
          have HH := hide (HB.out.trans (hz2.mono HB.out.size))
          have HQ := hide hw2
          clear hb2 hz2 hw2
          go_wp2
          go_roundw
          case rel => exact ⟨⟨j + 1, by omega, by go_num, by rw [hsn.out, hce.out]; simp [comma, ba_assoc, ba_nil_app], HQ.out⟩, HH.out⟩
          case measure => simp [intOf]; omega
        · have hce := hide (show (true && j == 0) = true by simp; omega)
          have n1 : ¬ (9223372036854775807 < cur.size + nm.size) := by omega
          have n2 : ¬ (9223372036854775807 < cur.size + nm.size + 1) := by omega
          have n3 : ¬ (9223372036854775807 < cur.size + nm.size + 1 + x.text.size) := by omega
          go_wp2
          go_region_held3 (fun u => u.cell? ⟨w.heap.size, 1, none⟩ = some (.slice (some ⟨ga, oa, none⟩) k.names.length c1) ∧ u.cell? ⟨w.heap.size, 2, none⟩ = some (.slice (some ⟨g, off, none⟩) k.kids.length c2) ∧ u.cell? ⟨ga, oa + j, none⟩ = some (.string nm) ∧
              u.cell? ⟨g, off + j * 3, none⟩ = some (.int .i64 x.sort) ∧ u.cell? ⟨g, off + j * 3 + 1, none⟩ = some (.slice B1 x.names.length d1) ∧ u.cell? ⟨g, off + j * 3 + 2, none⟩ = some (.slice B2 x.kids.length d2))
            (first | go_keep | exact ⟨(hb2.cell (p := ⟨w.heap.size, 1, none⟩) e0).trans e1, (hb2.cell (p := ⟨w.heap.size, 2, none⟩) e0).trans e2, (hb2.cell (p := ⟨ga, oa + j, none⟩) hal).trans pa, (hb2.cell (p := ⟨g, off + j * 3, none⟩) hgl).trans p0, (hb2.cell (p := ⟨g, off + j * 3 + 1, none⟩) hgl).trans p1, (hb2.cell (p := ⟨g, off + j * 3 + 2, none⟩) hgl).trans p2⟩)
            (first | (go_at_call 46; refine (HC.out _ _ (lv + 1) _ (hov'.out.drewN 1) hfq.out (by omega) hgx.out (by omega)).mono ?_; rintro e w2 ⟨rfl, hb2⟩))
          have hz2 : Below wr.heap.size wr w2 := ⟨hb2.os, hb2.tape, hb2.output, hb2.size, hb2.block⟩
          have hw2 := HW.out.below hz2 HW.out.lt
          have HH := hide (HB.out.trans (hz2.mono HB.out.size))
          have HQ := hide hw2
          clear hb2 hz2 hw2
          go_wp2
          go_roundw
          case rel => exact ⟨⟨j + 1, by omega, by go_num, by rw [hsn.out, hce.out]; simp [comma, ba_assoc, ba_nil_app], HQ.out⟩, HH.out⟩
          case measure => simp [intOf]; omega
      · obtain rfl : j = k.kids.length := by omega
        have e3 : k.kids.take k.kids.length = k.kids := List.take_length
        have e4 : k.names.take k.kids.length = k.names := by rw [← HL.out]; exact List.take_length
        rw [e3, e4]
        have hcur := hall.out k.kids.length
        rw [e3, e4] at hcur
        clear e3 e4
        generalize Kind.textS true k.names k.kids = cur at *
        go_wp2
        go_ret
        exact ⟨ret_str (by rw [hend.out]), HB.out⟩
theorem textKind_any (k : Kind) : TextKind k := Kind.ind textKind_of k

noncomputable def Kind.written (k : Kind) : ByteArray := if tb (k.fits 1 0) = true then k.text else .empty
theorem Kind.written_yes {k : Kind} (h : k.fits 1 0) : k.written = k.text := by unfold Kind.written; rw [tb_true h, if_pos rfl]
theorem Kind.written_no {k : Kind} (h : ¬ k.fits 1 0) : k.written = .empty := by unfold Kind.written; rw [tb_false h]; rfl
end Go.Proofs.Ytfofpddgfiipkaa
