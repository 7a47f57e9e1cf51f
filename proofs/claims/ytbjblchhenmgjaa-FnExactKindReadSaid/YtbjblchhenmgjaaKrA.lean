/-
  The text of a schema: the reference's l2Text. The text of a schema: the program's write, and the law on KindWrite's two functions. KindWrite: the program's and the reference's answer alike. KindRead of the reference. Reading schemas from texts: the program's kids: a form's parts, plain laws. Reading schemas from texts: the program's kids and kind. Reading schemas from texts: the program's kind. The laws' marks at a Kind by value: only its slices are marked. KindRead of the program; how much the marks count at what is read. FnExactKindRead returns true for every input: the program answers as the reference. No condition.
-/
import Derived.Test.YtbjblchhenmgjaaKindText
import Derived.Deep.RegionHeld3
import Derived.Test.YtbjblchhenmgjaaKindOk2
import Derived.Test.YtbjblchhenmgjaaRkK
import Derived.Test.YtbjblchhenmgjaaRkJ
import Derived.Test.YtbjblchhenmgjaaRkI0
import Derived.Deep.RegionWith
import Derived.Deep.DeepCutAuto
import Derived.Test.YtbjblchhenmgjaaMark
import Derived.Test.YtbjblchhenmgjaaDKind
import Derived.Test.YtbjblchhenmgjaaMKind
import Derived.Test.YtbjblchhenmgjaaRkI
import Derived.Test.YtbjblchhenmgjaaHKind
set_option linter.unusedVariables false
set_option linter.unusedSimpArgs false
namespace Go.Proofs.Ytbjblchhenmgjaa
open Go.ChangeShapes Go.WideShapes Go.ChangeAt Go.RowKit

def TextKind (k : Kind) : Prop := ∀ (us : List Value) (fp : List Nat) (lv : Nat) (w : World), OwC w k.cells us fp → Lt fp w.heap.size → k.bulk ≤ 1048576 → k.good lv → k.parts ≤ 40 →
  Calls Try.prog 95 #[.agg us.toArray] w fun e w' => e = .returned (.string k.text) ∧ Below w.heap.size w w'

theorem Kind.text1_at (l : List Kind) (h : 0 < l.length) : Kind.text1 l = l[0].text := by
  cases l with
  | nil => simp at h
  | cons x r => simp [Kind.text1]
theorem Kind.partsS_at (l : List Kind) (j : Nat) (h : j < l.length) : l[j].parts ≤ Kind.partsS l := by
  have h1 := Kind.partsS_snoc l j h
  have h2 := Kind.partsS_le l (j + 1)
  omega
theorem Kind.bulkS_at (l : List Kind) (j : Nat) (h : j < l.length) : l[j].bulk ≤ Kind.bulkS l := by
  have h1 := Kind.bulkS_snoc l j h
  have h2 := Kind.bulkS_le l (j + 1)
  omega

theorem Kind.textS_take (k : Kind) (lv : Nat) (hg : Kind.goodS k.kids lv) (hn : NamesOk k.names) (hl : k.names.length = k.kids.length) (j : Nat) (b : Bool) :
    (Kind.textS b (k.names.take j) (k.kids.take j)).size ≤ 14 * Kind.partsS k.kids :=
  Nat.le_trans (Kind.textS_size _ _ b (by simp [hl]) (fun i hi => by rw [List.getElem_take]; exact (hn i (by simp at hi; omega)).1.2.1) (fun x hx => Kind.text_size x _ (Kind.goodS_mem _ _ hg x (List.mem_of_mem_take hx))))
    (Nat.mul_le_mul_left _ (Kind.partsS_le _ _))

set_option maxRecDepth 100000 in
set_option maxHeartbeats 1000000 in
theorem textKind_of (k : Kind) (ih : ∀ x ∈ k.kids, TextKind x) : TextKind k := by
  intro us fp lv w ho hf hbk hg hp
  obtain ⟨A1, c1, A2, c2, f1, f2, rfl, w0, o1, o2, rfl⟩ := ho.oKind
  clear ho
  have hw1 : Below w.heap.size w (w.alloc (.cells #[.int .i64 k.sort, .slice A1 k.names.length c1, .slice A2 k.kids.length c2] 47)) := (Below.refl _ _).alloc (Nat.le_refl _) _
  have R1 : Row (w.alloc (.cells #[.int .i64 k.sort, .slice A1 k.names.length c1, .slice A2 k.kids.length c2] 47)) w.heap.size 47 [.int .i64 k.sort, .slice A1 k.names.length c1, .slice A2 k.kids.length c2] := Row.new w _ _
  have hgk := (Kind.good_iff _ _).1 hg
  have hpk := k.parts_eq
  have hkb := k.bulk_eq; unfold bulkStrs at hkb
  have hsz := Kind.text_size k lv hg
  have HT := hide k.text_eq
  have s1 : (ByteArray.mk #[91]).size = 1 := rfl
  have s2 : (ByteArray.mk #[93]).size = 1 := rfl
  have s3 : (ByteArray.mk #[63]).size = 1 := rfl
  have s4 : (ByteArray.mk #[123]).size = 1 := rfl
  have s5 : (ByteArray.mk #[125]).size = 1 := rfl
  have s6 : (ByteArray.mk #[44]).size = 1 := rfl
  have s7 : (ByteArray.mk #[58]).size = 1 := rfl
  rcases k.shape_iff.1 hgk.2.1 with ⟨h1, h2, h3⟩ | ⟨h1, h2, h3⟩ | ⟨h1, h2, h3⟩
  · have HR := hide hw1
    clear o1 o2 hw1 R1 ih hg hgk h2 h3 hkb
    generalize k.sort = s at *
    rcases h1 with rfl | rfl | rfl
    all_goals
      go_enter Try.func95, Try.ntmps95
      go_wp2
      go_ret
      exact ⟨ret_str (by rw [HT.out]; simp), HR.out⟩
  · have hlt : 0 < k.kids.length := by omega
    obtain ⟨g, off, vs, fi, rfl, hgm, hfi, hvl, hcs, hov⟩ := (o2.below hw1 hf.right).elem Kind.cells_len hlt
    have hov' := hide hov
    obtain ⟨B1, d1, B2, d2, q1, q2, rfl, v0, x1, x2, rfl⟩ := hov.oKind
    have p0 := hcs 0 _ rfl
    have p1 := hcs 1 _ rfl
    have p2 := hcs 2 _ rfl
    simp only [Nat.zero_mul, Nat.add_zero] at p0 p1 p2
    have hfq := hide (((hf.right).up hw1).sub hfi)
    have HC := hide (ih _ (List.getElem_mem hlt))
    have HTK := hide (Kind.text1_at k.kids hlt)
    have hgx := hide (Kind.goodS_mem _ _ hgk.2.2 _ (List.getElem_mem hlt))
    have hpx := Kind.partsS_at k.kids 0 hlt
    have hbx := Kind.bulkS_at k.kids 0 hlt
    have hsx := Kind.text_size _ _ hgx.out
    have HR := hide hw1
    have hkl : k.kids.length ≤ 1048576 := by omega
    clear x1 x2 hov hcs o1 o2 hw1 R1 ih hg hgk h2 h3
    generalize k.kids[0] = x at *
    generalize k.sort = s at *
    rcases h1 with rfl | rfl
    · go_enter Try.func95, Try.ntmps95
      go_wp2_with fail
      refine (HC.out _ _ (lv + 1) _ hov'.out hfq.out (by omega) hgx.out (by omega)).mono ?_
      rintro e w2 ⟨rfl, hb2⟩
      go_wp2
      go_ret
      exact ⟨ret_str (by rw [HT.out]; simp [HTK.out]), HR.out.trans (hb2.mono HR.out.size)⟩
    · go_enter Try.func95, Try.ntmps95
      go_wp2_with fail
      refine (HC.out _ _ (lv + 1) _ hov'.out hfq.out (by omega) hgx.out (by omega)).mono ?_
      rintro e w2 ⟨rfl, hb2⟩
      go_wp2
      go_ret
      exact ⟨ret_str (by rw [HT.out]; simp [HTK.out]), HR.out.trans (hb2.mono HR.out.size)⟩
  · have hnl : k.names.length ≤ 1048576 := by omega
    have hkl : k.kids.length ≤ 1048576 := by omega
    have hall := hide (fun j => Kind.textS_take k (lv + 1) hgk.2.2 h2 h3 j true)
    have HN := hide h2
    have HL := hide h3
    have HI := hide ih
    have HG := hide hgk.2.2
    have HO1 := hide o1
    have HO2 := hide o2
    have HF1 := hide hf.left
    have HF2 := hide hf.right
    have c10 := R1.cell 1
    have c20 := R1.cell 2
    have z0 := R1.lt
    have HR := hide hw1
    have HRW := hide R1
    have hpp : Kind.partsS k.kids ≤ 39 := by omega
    have hbb : Kind.bulkS k.kids ≤ 1048576 := by omega
    have hend := hide (show k.text = ⟨#[123]⟩ ++ Kind.textS true k.names k.kids ++ ⟨#[125]⟩ by rw [HT.out, h1]; simp)
    clear o1 o2 hw1 ih hg hgk h2 h3 hsz hpk hkb hp hbk hf HT R1
    generalize k.sort = s at *
    subst h1
    go_enter Try.func95, Try.ntmps95
    go_wp2
    go_loopw [3, 4] (fun o i wr => (∃ j : Nat, j ≤ k.kids.length ∧ i = .int .i64 j ∧ o = .string (Kind.textS true (k.names.take j) (k.kids.take j)) ∧ Row wr w.heap.size 47 [.int .i64 5, .slice A1 k.names.length c1, .slice A2 k.kids.length c2]) ∧ Below w.heap.size w wr) (fun _ i _ => k.kids.length - (intOf i).toNat)
    case atStart => exact ⟨⟨0, Nat.zero_le _, rfl, by simp [Kind.textS]; rfl, HRW.out⟩, HR.out⟩
    case round =>
      obtain ⟨⟨j, hj, rfl, rfl, hrow⟩, hbel⟩ := hrel
      have HB := hide hbel
      have HW := hide hrow
      have e1 := hrow.cell 1
      have e2 := hrow.cell 2
      have e0 := hrow.lt
      clear hbel hrow c10 c20 z0
      by_cases hlt : j < k.kids.length
      · have hln : j < k.names.length := by have := HL.out; omega
        obtain ⟨g, off, vs, fi, rfl, hgm, hfi, hvl, hcs, hov⟩ := (HO2.out.below HB.out HF2.out).elem Kind.cells_len hlt
        obtain ⟨ga, oa, us, fa, rfl, hga, hfa, hul, hca, hoa⟩ := (HO1.out.below HB.out HF1.out).elem strC_len hln
        have hov' := hide hov
        obtain ⟨B1, d1, B2, d2, q1, q2, rfl, v0, x1, x2, rfl⟩ := hov.oKind
        obtain ⟨rfl, hs, rfl⟩ := hoa.str
        have p0 := hcs 0 _ rfl
        have p1 := hcs 1 _ rfl
        have p2 := hcs 2 _ rfl
        have pa := hca 0 _ rfl
        simp only [Nat.add_zero, Nat.mul_one] at p0 pa
        have hgl := (HF2.out.up HB.out) g hgm
        have hal := (HF1.out.up HB.out) ga hga
        have hfq := hide (((HF2.out).up HB.out).sub hfi)
        have HC := hide (HI.out _ (List.getElem_mem hlt))
        have hgx := hide (Kind.goodS_mem _ _ HG.out _ (List.getElem_mem hlt))
        have hpx := Kind.partsS_at k.kids j hlt
        have hbx := Kind.bulkS_at k.kids j hlt
        have hsx := Kind.text_size _ _ hgx.out
        have hnx : k.names[j].size ≤ 8 := (HN.out j hln).1.2.1
        have hsn := hide (Kind.textS_snoc k.names k.kids true j hln hlt)
        have hcur := hall.out j
        clear x1 x2 hov hcs hca hoa
        generalize k.kids[j] = x at *
        generalize k.names[j] = nm at *
        generalize hcu : Kind.textS true (k.names.take j) (k.kids.take j) = cur at *
        by_cases hj0 : (0 : Int) < (j : Int)
        · have hce := hide (show (true && j == 0) = false by simp; omega)
          have n1 : ¬ (9223372036854775807 < cur.size + 1 + nm.size) := by omega
          have n2 : ¬ (9223372036854775807 < cur.size + 1 + nm.size + 1) := by omega
          have n3 : ¬ (9223372036854775807 < cur.size + 1 + nm.size + 1 + x.text.size) := by omega
          go_wp2
          go_region_held3 (fun u => u.cell? ⟨w.heap.size, 1, none⟩ = some (.slice (some ⟨ga, oa, none⟩) k.names.length c1) ∧ u.cell? ⟨w.heap.size, 2, none⟩ = some (.slice (some ⟨g, off, none⟩) k.kids.length c2) ∧ u.cell? ⟨ga, oa + j, none⟩ = some (.string nm) ∧
              u.cell? ⟨g, off + j * 3, none⟩ = some (.int .i64 x.sort) ∧ u.cell? ⟨g, off + j * 3 + 1, none⟩ = some (.slice B1 x.names.length d1) ∧ u.cell? ⟨g, off + j * 3 + 2, none⟩ = some (.slice B2 x.kids.length d2))
            (first | go_keep | exact ⟨(hb2.cell (p := ⟨w.heap.size, 1, none⟩) e0).trans e1, (hb2.cell (p := ⟨w.heap.size, 2, none⟩) e0).trans e2, (hb2.cell (p := ⟨ga, oa + j, none⟩) hal).trans pa, (hb2.cell (p := ⟨g, off + j * 3, none⟩) hgl).trans p0, (hb2.cell (p := ⟨g, off + j * 3 + 1, none⟩) hgl).trans p1, (hb2.cell (p := ⟨g, off + j * 3 + 2, none⟩) hgl).trans p2⟩)
            (first | (go_at_call 95; refine (HC.out _ _ (lv + 1) _ (hov'.out.drewN 1) hfq.out (by omega) hgx.out (by omega)).mono ?_; rintro e w2 ⟨rfl, hb2⟩))
          have hz2 : Below wr.heap.size wr w2 := ⟨hb2.os, hb2.tape, hb2.output, hb2.size, hb2.block⟩
          have hw2 := HW.out.below hz2 HW.out.lt
          have HH := hide (HB.out.trans (hz2.mono HB.out.size))
          have HQ := hide hw2
          clear hb2 hz2 hw2
          go_wp2
          go_roundw
          case rel => exact ⟨⟨j + 1, by omega, by go_num, by rw [hsn.out, hce.out]; simp [comma, ba_assoc, ba_nil_app], HQ.out⟩, HH.out⟩
          case measure => simp [intOf]; omega
        · have hce := hide (show (true && j == 0) = true by simp; omega)
          have n1 : ¬ (9223372036854775807 < cur.size + nm.size) := by omega
          have n2 : ¬ (9223372036854775807 < cur.size + nm.size + 1) := by omega
          have n3 : ¬ (9223372036854775807 < cur.size + nm.size + 1 + x.text.size) := by omega
          go_wp2
          go_region_held3 (fun u => u.cell? ⟨w.heap.size, 1, none⟩ = some (.slice (some ⟨ga, oa, none⟩) k.names.length c1) ∧ u.cell? ⟨w.heap.size, 2, none⟩ = some (.slice (some ⟨g, off, none⟩) k.kids.length c2) ∧ u.cell? ⟨ga, oa + j, none⟩ = some (.string nm) ∧
              u.cell? ⟨g, off + j * 3, none⟩ = some (.int .i64 x.sort) ∧ u.cell? ⟨g, off + j * 3 + 1, none⟩ = some (.slice B1 x.names.length d1) ∧ u.cell? ⟨g, off + j * 3 + 2, none⟩ = some (.slice B2 x.kids.length d2))
            (first | go_keep | exact ⟨(hb2.cell (p := ⟨w.heap.size, 1, none⟩) e0).trans e1, (hb2.cell (p := ⟨w.heap.size, 2, none⟩) e0).trans e2, (hb2.cell (p := ⟨ga, oa + j, none⟩) hal).trans pa, (hb2.cell (p := ⟨g, off + j * 3, none⟩) hgl).trans p0, (hb2.cell (p := ⟨g, off + j * 3 + 1, none⟩) hgl).trans p1, (hb2.cell (p := ⟨g, off + j * 3 + 2, none⟩) hgl).trans p2⟩)
            (first | (go_at_call 95; refine (HC.out _ _ (lv + 1) _ (hov'.out.drewN 1) hfq.out (by omega) hgx.out (by omega)).mono ?_; rintro e w2 ⟨rfl, hb2⟩))
          have hz2 : Below wr.heap.size wr w2 := ⟨hb2.os, hb2.tape, hb2.output, hb2.size, hb2.block⟩
          have hw2 := HW.out.below hz2 HW.out.lt
          have HH := hide (HB.out.trans (hz2.mono HB.out.size))
          have HQ := hide hw2
          clear hb2 hz2 hw2
          go_wp2
          go_roundw
          case rel => exact ⟨⟨j + 1, by omega, by go_num, by rw [hsn.out, hce.out]; simp [comma, ba_assoc, ba_nil_app], HQ.out⟩, HH.out⟩
          case measure => simp [intOf]; omega
      · obtain rfl : j = k.kids.length := by omega
        have e3 : k.kids.take k.kids.length = k.kids := List.take_length
        have e4 : k.names.take k.kids.length = k.names := by rw [← HL.out]; exact List.take_length
        rw [e3, e4]
        have hcur := hall.out k.kids.length
        rw [e3, e4] at hcur
        clear e3 e4
        generalize Kind.textS true k.names k.kids = cur at *
        go_wp2
        go_ret
        exact ⟨ret_str (by rw [hend.out]), HB.out⟩
theorem textKind_any (k : Kind) : TextKind k := Kind.ind textKind_of k

noncomputable def Kind.written (k : Kind) : ByteArray := if tb (k.fits 1 0) = true then k.text else .empty
theorem Kind.written_yes {k : Kind} (h : k.fits 1 0) : k.written = k.text := by unfold Kind.written; rw [tb_true h, if_pos rfl]
theorem Kind.written_no {k : Kind} (h : ¬ k.fits 1 0) : k.written = .empty := by unfold Kind.written; rw [tb_false h]; rfl
end Go.Proofs.Ytbjblchhenmgjaa
set_option linter.unusedVariables false
set_option linter.unusedSimpArgs false
namespace Go.Proofs.Ytbjblchhenmgjaa
open Go.ChangeShapes Go.WideShapes Go.ChangeAt Go.RowKit

def WriteKind (k : Kind) : Prop := ∀ (us : List Value) (fp : List Nat) (lv b : Nat) (s : ByteArray) (w : World), OwC w k.cells us fp → Lt fp b → k.bulk ≤ 1048576 → k.good lv → k.parts ≤ 40 → Bld w b s → s.size + k.text.size ≤ 1048576 →
  Calls Try.prog 188 #[.agg us.toArray, .pointer (some ⟨b, 0, none⟩)] w fun e w' => e = .returned (.tuple #[]) ∧ Bld w' b (s ++ k.text) ∧ BK b w w'

theorem Kind.textS_take_le : ∀ (ns : List ByteArray) (ks : List Kind) (b : Bool) (j : Nat), (Kind.textS b (ns.take j) (ks.take j)).size ≤ (Kind.textS b ns ks).size
  | n :: ns, k :: ks, b, 0 => by simp [Kind.textS]
  | n :: ns, k :: ks, b, j + 1 => by
    have := Kind.textS_take_le ns ks false j
    simp only [List.take_succ_cons, Kind.textS, ByteArray.size_append]
    omega
  | [], ks, b, j => by simp [Kind.textS]
  | _ :: _, [], b, j => by simp [Kind.textS]

set_option maxRecDepth 100000 in
set_option maxHeartbeats 1000000 in
theorem writeKind_of (k : Kind) (ih : ∀ x ∈ k.kids, WriteKind x) : WriteKind k := by
  intro us fp lv b s w ho hf hbk hg hp hbld hsize
  obtain ⟨A1, c1, A2, c2, f1, f2, rfl, w0, o1, o2, rfl⟩ := ho.oKind
  clear ho
  have hbw := hbld.lt
  have RK0 : Row (w.alloc (.cells #[.int .i64 k.sort, .slice A1 k.names.length c1, .slice A2 k.kids.length c2] 47)) w.heap.size 47 [.int .i64 k.sort, .slice A1 k.names.length c1, .slice A2 k.kids.length c2] := Row.new w _ _
  have HK0 := hide ((BK.refl b w).alloc (Nat.le_of_lt hbw) (.cells #[.int .i64 k.sort, .slice A1 k.names.length c1, .slice A2 k.kids.length c2] 47))
  have HSB0 := hide (hbld.alloc (.cells #[.int .i64 k.sort, .slice A1 k.names.length c1, .slice A2 k.kids.length c2] 47))
  have hgb : w.heap.size ≠ b := by omega
  have hgk := (Kind.good_iff _ _).1 hg
  have hpk := k.parts_eq
  have hkb := k.bulk_eq; unfold bulkStrs at hkb
  have HT := hide k.text_eq
  have s1 : (ByteArray.mk #[91]).size = 1 := rfl
  have s2 : (ByteArray.mk #[93]).size = 1 := rfl
  have s3 : (ByteArray.mk #[63]).size = 1 := rfl
  have s4 : (ByteArray.mk #[123]).size = 1 := rfl
  have s5 : (ByteArray.mk #[125]).size = 1 := rfl
  have s6 : (ByteArray.mk #[44]).size = 1 := rfl
  have s7 : (ByteArray.mk #[58]).size = 1 := rfl
  have hkl : k.kids.length ≤ 1048576 := by omega
  have hnl : k.names.length ≤ 1048576 := by omega
  clear hbld
  rcases k.shape_iff.1 hgk.2.1 with ⟨h1, h2, h3⟩ | ⟨h1, h2, h3⟩ | ⟨h1, h2, h3⟩
  · clear o1 o2 ih hg hgk h2 h3 hkb RK0
    generalize k.sort = q at *
    rcases h1 with rfl | rfl | rfl
    all_goals
      have HE := hide HT.out
      simp only [if_true, if_false, reduceIte, Int.reduceEq] at HE
      go_enter Try.func188, Try.ntmps188
      go_wp2_with fail
      refine (writeString_b b s _ _ HSB0.out (by rw [HE.out] at hsize; omega)).mono ?_
      rintro e w2 ⟨rfl, hb2, hk2⟩
      have HB2 := hide hb2
      have HK2 := hide (HK0.out.trans hk2)
      go_wp2
      go_end0
      exact ⟨rfl, by rw [HE.out]; exact HB2.out, HK2.out⟩
  · have hlt : 0 < k.kids.length := by omega
    obtain ⟨g, off, vs, fi, rfl, hgm, hfi, hvl, hcs, hov⟩ := o2.elem Kind.cells_len hlt
    have hov' := hide hov
    obtain ⟨B1, d1, B2, d2, q1, q2, rfl, v0, x1, x2, rfl⟩ := hov.oKind
    have p0 := hcs 0 _ rfl
    have p1 := hcs 1 _ rfl
    have p2 := hcs 2 _ rfl
    simp only [Nat.zero_mul, Nat.add_zero] at p0 p1 p2
    have hgl := hf.right g hgm
    have hfq := hide ((hf.right).sub hfi)
    have HC := hide (ih _ (List.getElem_mem hlt))
    have HTK := hide (Kind.text1_at k.kids hlt)
    have hgx := hide (Kind.goodS_mem _ _ hgk.2.2 _ (List.getElem_mem hlt))
    have hpx := Kind.partsS_at k.kids 0 hlt
    have hbx := Kind.bulkS_at k.kids 0 hlt
    have P0 := hide p0
    have P1 := hide p1
    have P2 := hide p2
    clear x1 x2 hov hcs o1 o2 ih hg hgk h2 h3 p0 p1 p2
    generalize k.kids[0] = x at *
    generalize k.sort = q at *
    rcases h1 with rfl | rfl
    · have HE := hide HT.out
      simp only [if_true, if_false, reduceIte, Int.reduceEq] at HE
      have hsz2 : k.text.size = x.text.size + 2 := by rw [HE.out, HTK.out]; simp only [ByteArray.size_append, s1, s2]; omega
      go_enter Try.func188, Try.ntmps188
      go_wp2_with fail
      refine (writeByte_b b s 91 _ _ (by rfl) HSB0.out (by omega)).mono ?_
      rintro e w2 ⟨rfl, hb2, hk2⟩
      have HB2 := hide hb2
      have HK2 := hide (HK0.out.trans hk2)
      have RK2 := hk2.row RK0 hgb (by decide)
      have m1 := RK2.cell 2
      have m2 := (HK2.out.below.cell (p := ⟨g, off, none⟩) hgl).trans P0.out
      have m3 := (HK2.out.below.cell (p := ⟨g, off + 1, none⟩) hgl).trans P1.out
      have m4 := (HK2.out.below.cell (p := ⟨g, off + 2, none⟩) hgl).trans P2.out
      clear hb2 hk2
      go_wp2_with fail
      refine (HC.out _ _ (lv + 1) b _ _ (hov'.out.below HK2.out.below hfq.out) hfq.out (by omega) hgx.out (by omega) HB2.out (by simp only [ByteArray.size_append, s1]; omega)).mono ?_
      rintro e w3 ⟨rfl, hb3, hk3⟩
      have HB3 := hide hb3
      have HK3 := hide (HK2.out.trans hk3)
      clear hb3 hk3 m1 m2 m3 m4 RK2
      go_wp2_with fail
      refine (writeByte_b b _ 93 _ _ (by rfl) HB3.out (by simp only [ByteArray.size_append, s1]; omega)).mono ?_
      rintro e w4 ⟨rfl, hb4, hk4⟩
      have HB4 := hide hb4
      have HK4 := hide (HK3.out.trans hk4)
      clear hb4 hk4
      go_wp2
      go_end0
      exact ⟨rfl, by rw [HE.out, HTK.out]; simpa [ba_assoc] using HB4.out, HK4.out⟩
    · have HE := hide HT.out
      simp only [if_true, if_false, reduceIte, Int.reduceEq] at HE
      have hsz2 : k.text.size = x.text.size + 1 := by rw [HE.out, HTK.out]; simp only [ByteArray.size_append, s3]; omega
      go_enter Try.func188, Try.ntmps188
      go_wp2_with fail
      refine (writeByte_b b s 63 _ _ (by rfl) HSB0.out (by omega)).mono ?_
      rintro e w2 ⟨rfl, hb2, hk2⟩
      have HB2 := hide hb2
      have HK2 := hide (HK0.out.trans hk2)
      have RK2 := hk2.row RK0 hgb (by decide)
      have m1 := RK2.cell 2
      have m2 := (HK2.out.below.cell (p := ⟨g, off, none⟩) hgl).trans P0.out
      have m3 := (HK2.out.below.cell (p := ⟨g, off + 1, none⟩) hgl).trans P1.out
      have m4 := (HK2.out.below.cell (p := ⟨g, off + 2, none⟩) hgl).trans P2.out
      clear hb2 hk2
      go_wp2_with fail
      refine (HC.out _ _ (lv + 1) b _ _ (hov'.out.below HK2.out.below hfq.out) hfq.out (by omega) hgx.out (by omega) HB2.out (by simp only [ByteArray.size_append, s3]; omega)).mono ?_
      rintro e w3 ⟨rfl, hb3, hk3⟩
      have HB3 := hide hb3
      have HK3 := hide (HK2.out.trans hk3)
      clear hb3 hk3 m1 m2 m3 m4 RK2
      go_wp2
      go_end0
      exact ⟨rfl, by rw [HE.out, HTK.out]; simpa [ba_assoc] using HB3.out, HK3.out⟩
  · have HS := hide (fun j => Kind.textS_take_le k.names k.kids true j)
    have HN := hide h2
    have HL := hide h3
    have HI := hide ih
    have HG := hide hgk.2.2
    have HO1 := hide o1
    have HO2 := hide o2
    have HF1 := hide hf.left
    have HF2 := hide hf.right
    have hpp : Kind.partsS k.kids ≤ 39 := by omega
    have hbb : Kind.bulkS k.kids ≤ 1048576 := by omega
    have hend := hide (show k.text = ⟨#[123]⟩ ++ Kind.textS true k.names k.kids ++ ⟨#[125]⟩ by rw [HT.out, h1]; simp)
    have hsz9 : k.text.size = (Kind.textS true k.names k.kids).size + 2 := by rw [hend.out]; simp only [ByteArray.size_append, s4, s5]; omega
    have HRK := hide RK0
    have hle : s.size ≤ 1048576 := by omega
    have hsz8 := hide (show s.size + 1 + (Kind.textS true k.names k.kids).size + 1 ≤ 1048576 by omega)
    clear o1 o2 ih hg hgk h2 h3 hpk hkb hp hbk hf HT hsz9 RK0 hsize
    generalize k.sort = q at *
    subst h1
    go_enter Try.func188, Try.ntmps188
    go_wp2_with fail
    refine (writeByte_b b s 123 _ _ (by rfl) HSB0.out (by omega)).mono ?_
    rintro e w2 ⟨rfl, hb2, hk2⟩
    have HB2 := hide hb2
    have HK2 := hide (HK0.out.trans hk2)
    have RK2 := hide (hk2.row HRK.out hgb (by decide))
    have m1 := RK2.out.cell 2
    clear hb2 hk2 HRK
    go_wp2
    go_loopw [13] (fun i wr => ∃ j : Nat, j ≤ k.kids.length ∧ i = .int .i64 j ∧ Row wr w.heap.size 47 [.int .i64 5, .slice A1 k.names.length c1, .slice A2 k.kids.length c2] ∧ Bld wr b (s ++ ⟨#[123]⟩ ++ Kind.textS true (k.names.take j) (k.kids.take j)) ∧ BK b w wr) (fun i _ => k.kids.length - (intOf i).toNat)
    case atStart => exact ⟨0, Nat.zero_le _, rfl, RK2.out, by simpa [Kind.textS] using HB2.out, HK2.out⟩
    case round =>
      obtain ⟨j, hj, rfl, hrow, hbl, hkw⟩ := hrel
      have HKW := hide hkw
      have hbr := hbl.lt
      have hgr := hrow.lt
      by_cases hlt : j < k.kids.length
      · have hln : j < k.names.length := by have := HL.out; omega
        obtain ⟨g, off, vs, fi, rfl, hgm, hfi, hvl, hcs, hov⟩ := (HO2.out.below HKW.out.below HF2.out).elem Kind.cells_len hlt
        obtain ⟨ga, oa, us, fa, rfl, hga, hfa, hul, hca, hoa⟩ := (HO1.out.below HKW.out.below HF1.out).elem strC_len hln
        have hov' := hide hov
        obtain ⟨B1, d1, B2, d2, q1, q2, rfl, v0, x1, x2, rfl⟩ := hov.oKind
        obtain ⟨rfl, hs, rfl⟩ := hoa.str
        have p0 := hcs 0 _ rfl
        have p1 := hcs 1 _ rfl
        have p2 := hcs 2 _ rfl
        have pa := hca 0 _ rfl
        simp only [Nat.add_zero, Nat.mul_one] at p0 pa
        have hgl := HF2.out g hgm
        have hal := HF1.out ga hga
        have hfq := hide ((HF2.out).sub hfi)
        have HC := hide (HI.out _ (List.getElem_mem hlt))
        have hgx := hide (Kind.goodS_mem _ _ HG.out _ (List.getElem_mem hlt))
        have hpx := Kind.partsS_at k.kids j hlt
        have hbx := Kind.bulkS_at k.kids j hlt
        have hsx := Kind.text_size _ _ hgx.out
        have hnx : k.names[j].size ≤ 8 := (HN.out j hln).1.2.1
        have hsn := hide (Kind.textS_snoc k.names k.kids true j hln hlt)
        have hcur0 := HS.out j
        have hcur1 := HS.out (j + 1)
        rw [hsn.out] at hcur1
        simp only [ByteArray.size_append, s7] at hcur1
        clear x1 x2 hov hcs hca hoa m1
        generalize k.kids[j] = x at *
        generalize k.names[j] = nm at *
        generalize Kind.textS true (k.names.take j) (k.kids.take j) = cur at *
        have HSB1 := hide (hbl.alloc (.cells #[.int .i64 x.sort, .slice B1 x.names.length d1, .slice B2 x.kids.length d2] 47))
        have HK1 := hide ((BK.refl b wr).alloc (Nat.le_of_lt hbr) (.cells #[.int .i64 x.sort, .slice B1 x.names.length d1, .slice B2 x.kids.length d2] 47))
        have RK1 := hrow.alloc (.cells #[.int .i64 x.sort, .slice B1 x.names.length d1, .slice B2 x.kids.length d2] 47)
        have RX1 : Row (wr.alloc (.cells #[.int .i64 x.sort, .slice B1 x.names.length d1, .slice B2 x.kids.length d2] 47)) wr.heap.size 47 [.int .i64 x.sort, .slice B1 x.names.length d1, .slice B2 x.kids.length d2] := Row.new wr _ _
        have hxb : wr.heap.size ≠ b := by omega
        have hsq := hsz8.out
        have hcm : (comma (true && j == 0)).size = if (0 : Int) < (j : Int) then 1 else 0 := by by_cases h0 : j = 0 <;> (simp [h0, comma, ByteArray.size] <;> omega)
        rw [hcm] at hcur1
        clear hcm
        generalize (Kind.textS true k.names k.kids).size = tot at *
        clear hkw hrow hbl
        by_cases hj0 : (0 : Int) < (j : Int)
        · have hce := hide (show (true && j == 0) = false by simp; omega)
          rw [if_pos hj0] at hcur1
          go_wp2_with fail
          refine (writeByte_b b _ 44 _ _ (by rfl) HSB1.out (by simp only [ByteArray.size_append, s4]; omega)).mono ?_
          rintro e wz ⟨rfl, hz1, hz2⟩
          have HSB2 := hide hz1
          have HK2 := hide (HK1.out.trans hz2)
          have RK2 := hz2.row RK1 hgb (by decide)
          have RX2 := hz2.row RX1 hxb (by decide)
          clear hz1 hz2 RK1 RX1
          have m1 := RK2.cell 1
          have m2 := RK2.lt
          have m3 := RX2.lt
          have m4 := (HK2.out.below.cell (p := ⟨ga, oa + j, none⟩) hal).trans pa
          go_wp2_with fail
          refine (writeString_b b _ _ _ HSB2.out (by simp only [ByteArray.size_append, s4, s6, s7]; omega)).mono ?_
          rintro e wy ⟨rfl, hy1, hy2⟩
          have HSB3 := hide hy1
          have HK3 := hide (HK2.out.trans hy2)
          have RK3 := hy2.row RK2 hgb (by decide)
          have RX3 := hy2.row RX2 hxb (by decide)
          have r0 := RX3.cell 0
          have r1 := RX3.cell 1
          have r2 := RX3.cell 2
          have r3 := RX3.lt
          clear hy1 hy2 m1 m2 m3 m4
          go_wp2_with fail
          refine (HC.out _ _ (lv + 1) b _ _ (hov'.out.below HK3.out.below hfq.out) hfq.out (by omega) hgx.out (by omega) HSB3.out (by simp only [ByteArray.size_append, s4, s6, s7]; omega)).mono ?_
          rintro e wx ⟨rfl, hx1, hx2⟩
          have HK4 := hide (HK3.out.trans hx2)
          have RK4 := hide (hx2.row RK3 hgb (by decide))
          have HX1 := hide hx1
          clear hx1 hx2 RK3 RX3 r0 r1 r2 r3
          go_wp2
          go_roundw
          case rel => exact ⟨j + 1, by omega, by go_num, RK4.out, by have h := HX1.out; rw [hsn.out, hce.out]; simpa [comma, ba_assoc, ba_nil_app] using h, HKW.out.trans HK4.out⟩
          case measure => simp [intOf]; omega
        · have hce := hide (show (true && j == 0) = true by simp; omega)
          rw [if_neg hj0] at hcur1
          have m1 := RK1.cell 1
          have m2 := RK1.lt
          have m3 := RX1.lt
          have m4 := (HK1.out.below.cell (p := ⟨ga, oa + j, none⟩) hal).trans pa
          go_wp2_with fail
          refine (writeString_b b _ _ _ HSB1.out (by simp only [ByteArray.size_append, s4, s6, s7]; omega)).mono ?_
          rintro e wy ⟨rfl, hy1, hy2⟩
          have HSB3 := hide hy1
          have HK3 := hide (HK1.out.trans hy2)
          have RK3 := hy2.row RK1 hgb (by decide)
          have RX3 := hy2.row RX1 hxb (by decide)
          have r0 := RX3.cell 0
          have r1 := RX3.cell 1
          have r2 := RX3.cell 2
          have r3 := RX3.lt
          clear hy1 hy2 m1 m2 m3 m4
          go_wp2_with fail
          refine (HC.out _ _ (lv + 1) b _ _ (hov'.out.below HK3.out.below hfq.out) hfq.out (by omega) hgx.out (by omega) HSB3.out (by simp only [ByteArray.size_append, s4, s6, s7]; omega)).mono ?_
          rintro e wx ⟨rfl, hx1, hx2⟩
          have HK4 := hide (HK3.out.trans hx2)
          have RK4 := hide (hx2.row RK3 hgb (by decide))
          have HX1 := hide hx1
          clear hx1 hx2 RK3 RX3 r0 r1 r2 r3
          go_wp2
          go_roundw
          case rel => exact ⟨j + 1, by omega, by go_num, RK4.out, by have h := HX1.out; rw [hsn.out, hce.out]; simpa [comma, ba_assoc, ba_nil_app] using h, HKW.out.trans HK4.out⟩
          case measure => simp [intOf]; omega
      · obtain rfl : j = k.kids.length := by omega
        have e3 : k.kids.take k.kids.length = k.kids := List.take_length
        have e4 : k.names.take k.kids.length = k.names := by rw [← HL.out]; exact List.take_length
        rw [e3, e4] at hbl
        have HBL := hide hbl
        clear e3 e4 hbl hkw m1
        go_wp2_with fail
        refine (writeByte_b b _ 125 _ _ (by rfl) HBL.out (by simp only [ByteArray.size_append, s4]; have := hsz8.out; omega)).mono ?_
        rintro e w4 ⟨rfl, hb4, hk4⟩
        have HB4 := hide hb4
        have HK4 := hide (HKW.out.trans hk4)
        clear hb4 hk4
        go_wp2
        go_end0
        exact ⟨rfl, by rw [hend.out]; simpa [ba_assoc] using HB4.out, HK4.out⟩

theorem writeKind_any (k : Kind) : WriteKind k := Kind.ind writeKind_of k
end Go.Proofs.Ytbjblchhenmgjaa
set_option linter.unusedVariables false
set_option linter.unusedSimpArgs false
namespace Go.Proofs.Ytbjblchhenmgjaa
open Go.ChangeShapes Go.WideShapes Go.ChangeAt Go.RowKit

set_option maxRecDepth 100000 in
theorem kindText_any (k : Kind) (us : List Value) (fp : List Nat) (lv : Nat) (w : World) (ho : OwC w k.cells us fp) (hf : Lt fp w.heap.size) (hbk : k.bulk ≤ 1048576) (hg : k.good lv) (hp : k.parts ≤ 40) :
    Calls Try.prog 109 #[.agg us.toArray] w fun e w' => e = .returned (.string k.text) ∧ Below w.heap.size w w' := by
  have HO := hide ho
  obtain ⟨A1, c1, A2, c2, f1, f2, rfl, w0, o1, o2, rfl⟩ := ho.oKind
  have hsz := Kind.text_size k lv hg
  have R0 : Row (w.alloc (.cells #[.int .i64 k.sort, .slice A1 k.names.length c1, .slice A2 k.kids.length c2] 47)) w.heap.size 47 [.int .i64 k.sort, .slice A1 k.names.length c1, .slice A2 k.kids.length c2] := Row.new w _ _
  have hw1 : Below w.heap.size w (w.alloc (.cells #[.int .i64 k.sort, .slice A1 k.names.length c1, .slice A2 k.kids.length c2] 47)) := (Below.refl _ _).alloc (Nat.le_refl _) _
  have hw2 : Below w.heap.size w ((w.alloc (.cells #[.int .i64 k.sort, .slice A1 k.names.length c1, .slice A2 k.kids.length c2] 47)).alloc (.cells #[.pointer none, .slice none 0 0] 198)) := hw1.alloc (by simp) _
  have HB : Hid (Bld ((w.alloc (.cells #[.int .i64 k.sort, .slice A1 k.names.length c1, .slice A2 k.kids.length c2] 47)).alloc (.cells #[.pointer none, .slice none 0 0] 198)) (w.heap.size + 1) .empty) := by
    have h := Bld.new (w.alloc (.cells #[.int .i64 k.sort, .slice A1 k.names.length c1, .slice A2 k.kids.length c2] 47))
    rw [World.size_alloc] at h
    exact h
  have HX := hide (HO.out.below hw2 hf)
  have hf2 : Lt (f1 ++ f2) (w.heap.size + 1) := hf.mono (by omega)
  clear ho o1 o2
  have es : (ByteArray.empty).size = 0 := rfl
  go_enter Try.func109, Try.ntmps109
  go_wp2_with fail
  refine (writeKind_any k _ (f1 ++ f2) lv (w.heap.size + 1) .empty _ HX.out hf2 hbk hg hp HB.out (by omega)).mono ?_
  rintro e w3 ⟨rfl, hb3, hk3⟩
  have HB3 := hide hb3
  have HK3 := hide (hw2.trans (hk3.below.mono (by omega)))
  clear hb3 hk3
  go_wp2_with fail
  refine (bldString_b _ _ _ HB3.out).mono ?_
  rintro e w4 ⟨rfl, hk4⟩
  have HK4 := hide (HK3.out.trans (hk4.below.mono (by omega)))
  clear hk4
  go_wp2
  go_ret
  exact ⟨ret_str (by simp), HK4.out⟩

set_option maxRecDepth 100000 in
theorem implKindWrite_any (k : Kind) (us : List Value) (fp : List Nat) (w : World) (ho : OwC w k.cells us fp) (hf : Lt fp w.heap.size) (hbk : k.bulk ≤ 1048576) :
    Calls Try.prog 39 #[.agg us.toArray] w fun e w' => e = .returned (.string k.written) ∧ Below w.heap.size w w' := by
  have HO := hide ho
  obtain ⟨A1, c1, A2, c2, f1, f2, rfl, w0, o1, o2, rfl⟩ := ho.oKind
  clear ho o1 o2
  have R1 : Row (w.alloc (.cells #[.int .i64 k.sort, .slice A1 k.names.length c1, .slice A2 k.kids.length c2] 47)) w.heap.size 47 [.int .i64 k.sort, .slice A1 k.names.length c1, .slice A2 k.kids.length c2] := Row.new w _ _
  have hw1 : Below w.heap.size w (w.alloc (.cells #[.int .i64 k.sort, .slice A1 k.names.length c1, .slice A2 k.kids.length c2] 47)) := (Below.refl _ _).alloc (Nat.le_refl _) _
  go_enter Try.func39, Try.ntmps39
  go_wp2_with fail
  refine (implKindOk_any k _ _ _ (HO.out.below hw1 hf) (hf.up hw1) hbk).mono ?_
  rintro e w2 ⟨rfl, hb2⟩
  have hB2 := hw1.trans (hb2.mono hw1.size)
  have R2 := R1.below hb2 R1.lt
  have c0 := R2.cell 0
  have c1 := R2.cell 1
  have c2 := R2.cell 2
  have z2 := R2.lt
  by_cases h : k.ok
  · rw [tb_true h]
    have HT := hide (Kind.written_yes h)
    have hp : k.parts ≤ 40 := by have := h.2; omega
    go_wp2_with fail
    refine (kindText_any k _ _ 1 _ (HO.out.below hB2 hf) (hf.up hB2) hbk h.1 hp).mono ?_
    rintro e w3 ⟨rfl, hb3⟩
    go_wp2
    go_ret
    exact ⟨ret_str HT.out.symm, hB2.trans (hb3.mono hB2.size)⟩
  · rw [tb_false h]
    have HT := hide (Kind.written_no h)
    go_wp2
    go_ret
    exact ⟨ret_str HT.out.symm, hB2⟩

set_option maxRecDepth 100000 in
theorem specKindWrite_any (k : Kind) (us : List Value) (fp : List Nat) (w : World) (ho : OwC w k.cells us fp) (hf : Lt fp w.heap.size) (hbk : k.bulk ≤ 1048576) :
    Calls Try.prog 38 #[.agg us.toArray] w fun e w' => e = .returned (.string k.written) ∧ Below w.heap.size w w' := by
  have HO := hide ho
  obtain ⟨A1, c1, A2, c2, f1, f2, rfl, w0, o1, o2, rfl⟩ := ho.oKind
  clear ho o1 o2
  have R1 : Row (w.alloc (.cells #[.int .i64 k.sort, .slice A1 k.names.length c1, .slice A2 k.kids.length c2] 47)) w.heap.size 47 [.int .i64 k.sort, .slice A1 k.names.length c1, .slice A2 k.kids.length c2] := Row.new w _ _
  have hw1 : Below w.heap.size w (w.alloc (.cells #[.int .i64 k.sort, .slice A1 k.names.length c1, .slice A2 k.kids.length c2] 47)) := (Below.refl _ _).alloc (Nat.le_refl _) _
  go_enter Try.func38, Try.ntmps38
  go_wp2_with fail
  refine (specKindOk_any k _ _ _ (HO.out.below hw1 hf) (hf.up hw1) hbk).mono ?_
  rintro e w2 ⟨rfl, hb2⟩
  have hB2 := hw1.trans (hb2.mono hw1.size)
  have R2 := R1.below hb2 R1.lt
  have c0 := R2.cell 0
  have c1 := R2.cell 1
  have c2 := R2.cell 2
  have z2 := R2.lt
  by_cases h : k.ok
  · rw [tb_true h]
    have HT := hide (Kind.written_yes h)
    have hp : k.parts ≤ 40 := by have := h.2; omega
    go_wp2_with fail
    refine (textKind_any k _ _ 1 _ (HO.out.below hB2 hf) (hf.up hB2) hbk h.1 hp).mono ?_
    rintro e w3 ⟨rfl, hb3⟩
    go_wp2
    go_ret
    exact ⟨ret_str HT.out.symm, hB2.trans (hb3.mono hB2.size)⟩
  · rw [tb_false h]
    have HT := hide (Kind.written_no h)
    go_wp2
    go_ret
    exact ⟨ret_str HT.out.symm, hB2⟩
end Go.Proofs.Ytbjblchhenmgjaa
set_option linter.unusedVariables false
set_option linter.unusedSimpArgs false
namespace Go.Proofs.Ytbjblchhenmgjaa
open Go.ChangeShapes Go.WideShapes Go.ChangeAt Go.RowKit

def Kind.zero_ : Kind := .mk 0 [] []
noncomputable def kindRead (s : ByteArray) : Kind := (readK s).getD Kind.zero_
noncomputable def kindReadB (s : ByteArray) : Bool := (readK s).isSome
def KindReadRet (s : ByteArray) (w : World) (e : Ending) (w' : World) : Prop :=
  ∃ us fq, e = .returned (.tuple #[.agg us.toArray, .bool (kindReadB s)]) ∧ OwC w' (kindRead s).cells us fq ∧ New w' fq w.heap.size ∧ Below w.heap.size w w'
theorem ok_size {k : Kind} (h : k.ok) : k.text.size ≤ 550 := by
  have h1 := Kind.text_size k 1 h.1
  have h2 := h.2
  omega
theorem readK_long {s : ByteArray} (h : 800 < s.size) : readK s = none := by
  cases hr : readK s with
  | none => rfl
  | some k =>
    obtain ⟨h1, h2⟩ := readK_some hr
    have := ok_size h1
    rw [h2] at this
    omega
/-- what is handed back: nothing -/
theorem kr_none {s : ByteArray} {w W : World} (h : readK s = none) (hg : Below w.heap.size w W) : KindReadRet s w (.returned (.tuple #[.agg [.int .i64 0, .slice none 0 0, .slice none 0 0].toArray, .bool false])) W := by
  unfold KindReadRet kindRead kindReadB
  rw [h]
  exact ⟨_, [], rfl, kleaf_ow _ 0 (by decide), New.nil _ _, hg⟩
theorem kr_some {s : ByteArray} {w W : World} {k : Kind} {us : List Value} {fq : List Nat} (h : readK s = some k) (ho : OwC W k.cells us fq) (hn : New W fq w.heap.size) (hg : Below w.heap.size w W) : KindReadRet s w (.returned (.tuple #[.agg us.toArray, .bool true])) W := by
  unfold KindReadRet kindRead kindReadB
  rw [h]
  exact ⟨us, fq, rfl, ho, hn, hg⟩
set_option maxRecDepth 100000 in
set_option maxHeartbeats 2000000 in
theorem specKindRead_any (s : ByteArray) (w : World) (hs : s.size ≤ maxLen) :
    Calls Try.prog 28 #[.string s] w (KindReadRet s w) := by
  unfold maxLen at hs
  go_enter Try.func28, Try.ntmps28
  go_upto_region 1 with fail
  generalize hw1 : w.alloc _ = w1
  have hb1 : Below w.heap.size w w1 := by rw [← hw1]; exact (Below.refl _ _).alloc (Nat.le_refl _) _
  have HZ := hide (show Row w1 w.heap.size 47 [.int .i64 0, .slice none 0 0, .slice none 0 0] from by rw [← hw1]; exact Row.new w _ _)
  have hz1 := HZ.out.lt
  have HB1 := hide hb1
  clear hw1 hb1
  by_cases hlen : (800 : Int) < (s.size : Int)
  · have HN := hide (readK_long (s := s) (by omega))
    have z0 := HZ.out.cell 0
    have z1 := HZ.out.cell 1
    have z2 := HZ.out.cell 2
    have y0 := HZ.out.frozen 0
    have y1 := HZ.out.frozen 1
    have y2 := HZ.out.frozen 2
    go_wp2
    refine bodyPost_ret (ret_row_tmp rfl _ _ w.heap.size 47 [.int .i64 0, .slice none 0 0, .slice none 0 0] (HZ.out.setAll [.int .i64 0, .slice none 0 0, .slice none 0 0] rfl) _ _ rfl rfl Try.underlying47 rfl (by kernel_rfl)) rfl ?_
    exact kr_none HN.out (HB1.out.trans (below_of_grown (setN_grown [.int .i64 0, .slice none 0 0, .slice none 0 0] 0 (grown_refl w1 (some w.heap.size))) (Nat.le_refl _) HB1.out.size))
  go_upto_region 4 with fail
  generalize hw2 : w1.alloc _ = w2
  have hb2 : Below w1.heap.size w1 w2 := by rw [← hw2]; exact (Below.refl _ _).alloc (Nat.le_refl _) _
  have HR := hide (show RdK w2 w1.heap.size s 0 (bl s) false from ⟨0, by rw [← hw2]; exact Row.new w1 _ _, by omega, by omega, fun _ => by omega, rfl⟩)
  have HZ2 := hide (HZ.out.below hb2 hz1)
  have HB2 := hide (HB1.out.trans (hb2.mono HB1.out.size))
  have HK := hide (kindRdS_any 6 s (bl s) false w1.heap.size 1 w2 (by omega) (by omega) HR.out)
  have hr2 := HR.out.lt
  clear hw2 hb2 HR
  go_wp2_with fail
  refine HK.out.mono ?_
  rintro e w3 ⟨k, us, fq, l3, b3, rfl, ho3, hn3, hr3, hg3, hp3, ht3, -⟩
  have HZ3 := hide (HZ2.out.grown hg3 (fun e => by injection e with e; omega))
  have HB3 := hide (HB2.out.trans (below_of_grown hg3 (by omega) HB2.out.size))
  have HT3 := hide ht3
  have hkb : k.bulk ≤ 10000 := by have := hp3.2.1; rw [bl_len] at this; omega
  obtain ⟨B1, d1, B2, d2, f1, f2, rfl, k0, k1, k2, efq⟩ := ho3.oKind
  obtain ⟨n, hrow, hsz, hn6, hnb, hl3⟩ := hr3
  have HO3 := hide ho3
  have HN3 := hide (hn3.mono (show w.heap.size + 1 ≤ w2.heap.size from by omega))
  have HRow := hide hrow
  have HL3 := hide hl3
  have HNB := hide hnb
  go_upto_region 5 with fail
  generalize hw4 : w3.alloc _ = w4
  have hb4 : Below w3.heap.size w3 w4 := by rw [← hw4]; exact (Below.refl _ _).alloc (Nat.le_refl _) _
  have HBox := hide (show Row w4 w3.heap.size 47 [.int .i64 k.sort, .slice B1 k.names.length d1, .slice B2 k.kids.length d2] from by rw [← hw4]; exact Row.new w3 _ _)
  have HO4 := hide (HO3.out.below hb4 HN3.out.lt)
  have HN4 := hide (HN3.out.below hb4 HN3.out.lt)
  have HRow4 := hide (HRow.out.below hb4 HRow.out.lt)
  have HZ4 := hide (HZ3.out.below hb4 HZ3.out.lt)
  have HB4 := hide (HB3.out.trans (hb4.mono HB3.out.size))
  have r1 := HRow4.out.cell 1
  have r2 := HRow4.out.cell 2
  have rl := HRow4.out.lt
  have q0 := HBox.out.cell 0
  have q1 := HBox.out.cell 1
  have q2 := HBox.out.cell 2
  have ql := HBox.out.lt
  have z0 := HZ4.out.cell 0
  have z1 := HZ4.out.cell 1
  have z2 := HZ4.out.cell 2
  have y0 := HZ4.out.frozen 0
  have y1 := HZ4.out.frozen 1
  have y2 := HZ4.out.frozen 2
  have lz := HZ4.out.lt
  have HNONE := hide (fun (W : World) (hrow : Row W w.heap.size 47 [.int .i64 0, .slice none 0 0, .slice none 0 0]) (hb : Below w.heap.size w W) (h : readK s = none) => kr_none (w := w) (W := putN W w.heap.size 0 [.int .i64 0, .slice none 0 0, .slice none 0 0]) h (hb.trans (below_of_grown (setN_grown _ 0 (grown_refl W (some w.heap.size))) (Nat.le_refl _) hb.size)))
  clear hw4 hb4 ho3 hn3 hrow hl3 hnb hp3 ht3 hg3 HZ3 HB3 HO3 HN3 HRow HK k1 k2 efq
  by_cases hbad : b3 = true
  · subst hbad
    have HNO := hide (readK_no HT3.out (fun h => by cases h.1))
    go_wp2
    refine bodyPost_ret (ret_row_tmp rfl _ _ w.heap.size 47 [.int .i64 0, .slice none 0 0, .slice none 0 0] (HZ4.out.setAll [.int .i64 0, .slice none 0 0, .slice none 0 0] rfl) _ _ rfl rfl Try.underlying47 rfl (by kernel_rfl)) rfl ?_
    exact HNONE.out _ HZ4.out HB4.out HNO.out
  obtain rfl : b3 = false := by simpa using hbad
  have hns := HNB.out rfl
  clear hbad HNB
  by_cases hend : n = s.size
  rotate_left
  · have hni : ¬ ((n : Int) = (s.size : Int)) := by omega
    have HNO := hide (readK_no HT3.out (fun h => by
      have h2 := congrArg List.length (HL3.out.symm.trans h.2.1)
      rw [List.length_drop, bl_len] at h2
      simp at h2
      omega))
    clear hend
    go_wp2
    refine bodyPost_ret (ret_row_tmp rfl _ _ w.heap.size 47 [.int .i64 0, .slice none 0 0, .slice none 0 0] (HZ4.out.setAll [.int .i64 0, .slice none 0 0, .slice none 0 0] rfl) _ _ rfl rfl Try.underlying47 rfl (by kernel_rfl)) rfl ?_
    exact HNONE.out _ HZ4.out HB4.out HNO.out
  subst hend
  have HL0 := hide (show l3 = [] from by rw [HL3.out]; exact drop_none s _ (Nat.le_refl _))
  have HKO := hide (specKindOk_any k _ fq w4 HO4.out HN4.out.lt (by omega))
  go_wp2_with fail
  refine HKO.out.mono ?_
  rintro e w5 ⟨rfl, hb5⟩
  have HB5 := hide (HB4.out.trans (hb5.mono HB4.out.size))
  have HZ5 := hide (HZ4.out.below hb5 HZ4.out.lt)
  have HBox5 := hide (HBox.out.below hb5 HBox.out.lt)
  have HO5 := hide (HO4.out.below hb5 HN4.out.lt)
  have HN5 := hide (HN4.out.below hb5 HN4.out.lt)
  clear r1 r2 rl q0 q1 q2 ql z0 z1 z2 y0 y1 y2 lz HKO HB4 HZ4 HO4 HN4 HBox HRow4 hb5
  have q0 := HBox5.out.cell 0
  have q1 := HBox5.out.cell 1
  have q2 := HBox5.out.cell 2
  have ql := HBox5.out.lt
  have z0 := HZ5.out.cell 0
  have z1 := HZ5.out.cell 1
  have z2 := HZ5.out.cell 2
  have y0 := HZ5.out.frozen 0
  have y1 := HZ5.out.frozen 1
  have y2 := HZ5.out.frozen 2
  have lz := HZ5.out.lt
  by_cases hok : k.ok
  rotate_left
  · have HNO := hide (readK_no HT3.out (fun h => hok h.2.2.1))
    rw [tb_false hok]
    clear hok
    go_wp2
    refine bodyPost_ret (ret_row_tmp rfl _ _ w.heap.size 47 [.int .i64 0, .slice none 0 0, .slice none 0 0] (HZ5.out.setAll [.int .i64 0, .slice none 0 0, .slice none 0 0] rfl) _ _ rfl rfl Try.underlying47 rfl (by kernel_rfl)) rfl ?_
    exact HNONE.out _ HZ5.out HB5.out HNO.out
  rw [tb_true hok]
  have HOK := hide hok
  have HTX := hide (textKind_any k _ fq 1 w5 HO5.out HN5.out.lt (by omega) hok.1 (by have := hok.2; omega))
  clear hok
  go_wp2_with fail
  refine HTX.out.mono ?_
  rintro e w6 ⟨rfl, hb6⟩
  have HB6 := hide (HB5.out.trans (hb6.mono HB5.out.size))
  have HZ6 := hide (HZ5.out.below hb6 HZ5.out.lt)
  have HBox6 := hide (HBox5.out.below hb6 HBox5.out.lt)
  have HO6 := hide (HO5.out.below hb6 HN5.out.lt)
  have HN6 := hide (HN5.out.below hb6 HN5.out.lt)
  clear q0 q1 q2 ql z0 z1 z2 y0 y1 y2 lz HTX HB5 HZ5 HO5 HN5 HBox5 hb6
  have q0 := HBox6.out.cell 0
  have q1 := HBox6.out.cell 1
  have q2 := HBox6.out.cell 2
  have ql := HBox6.out.lt
  have z0 := HZ6.out.cell 0
  have z1 := HZ6.out.cell 1
  have z2 := HZ6.out.cell 2
  have y0 := HZ6.out.frozen 0
  have y1 := HZ6.out.frozen 1
  have y2 := HZ6.out.frozen 2
  have lz := HZ6.out.lt
  by_cases htx : k.text = s
  rotate_left
  · have HNO := hide (readK_no HT3.out (fun h => htx h.2.2.2))
    obtain ⟨e1, e2⟩ := ne_lists (fun h => htx (bl_inj h))
    clear htx
    go_wp2
    refine bodyPost_ret (ret_row_tmp rfl _ _ w.heap.size 47 [.int .i64 0, .slice none 0 0, .slice none 0 0] (HZ6.out.setAll [.int .i64 0, .slice none 0 0, .slice none 0 0] rfl) _ _ rfl rfl Try.underlying47 rfl (by kernel_rfl)) rfl ?_
    exact HNONE.out _ HZ6.out HB6.out HNO.out
  have HYES := hide (readK_yes HT3.out HOK.out htx)
  obtain ⟨e1, e2⟩ := eq_lists (a := k.text) (b := s) (by rw [htx])
  clear htx
  go_wp2
  refine bodyPost_ret (ret_row_tmp rfl _ _ w.heap.size 47 [.int .i64 k.sort, .slice B1 k.names.length d1, .slice B2 k.kids.length d2] (HZ6.out.setAll [.int .i64 k.sort, .slice B1 k.names.length d1, .slice B2 k.kids.length d2] rfl) _ _ rfl rfl Try.underlying47 rfl (by kernel_rfl)) rfl ?_
  have hgr := setN_grown [.int .i64 k.sort, .slice B1 k.names.length d1, .slice B2 k.kids.length d2] 0 (grown_refl w6 (some w.heap.size))
  have hno : w.heap.size ∉ fq := HN6.out.out (by omega)
  exact kr_some HYES.out (HO6.out.grown hgr HN6.out.lt hno) ((HN6.out.grown hgr (fun b e => by injection e with e; subst e; exact hno)).mono (by omega)) (HB6.out.trans (below_of_grown hgr (Nat.le_refl _) HB6.out.size))
end Go.Proofs.Ytbjblchhenmgjaa
set_option linter.unusedVariables false
set_option linter.unusedSimpArgs false
namespace Go.Proofs.Ytbjblchhenmgjaa
open Go.ChangeShapes Go.WideShapes Go.ChangeAt Go.RowKit

/-- ahead of a part: so many are read, one more must come -/
def HeadAt (lv : Nat) (l0 : List UInt8) (b : Bool) (ns : List ByteArray) (ks : List Kind) (l : List UInt8) : Prop :=
  ∀ (ns0 : List ByteArray) (ks0 : List Kind) (R : List UInt8), NamesOk ns0 → ns0.length = ks0.length → Kind.goodS ks0 (lv + 1) → l0 = bl (Kind.textS true ns0 ks0) ++ 125 :: R →
    b = false ∧ ∃ n1 k1 ns1 ks1, ns0 = ns ++ n1 :: ns1 ∧ ks0 = ks ++ k1 :: ks1 ∧ ns1.length = ks1.length ∧ l = bl n1 ++ 58 :: (bl k1.text ++ (bl (Kind.textS false ns1 ks1) ++ 125 :: R))
section
variable {lv : Nat} {l0 l l' l2 : List UInt8} {b b' b2 ok : Bool} {ns : List ByteArray} {ks : List Kind} {x : ByteArray} {k : Kind}
theorem HeadAt.start (h : Eaten [125] l0 false l) : HeadAt lv l0 false [] [] l := by
  intro ns0 ks0 R hn hl hg e
  obtain ⟨rfl, hno⟩ := h.no
  refine ⟨rfl, ?_⟩
  match ns0, ks0, hl with
  | [], [], _ => exact absurd e (hno R)
  | n :: ns, k :: ks, hl =>
    rw [textS_cons] at e
    refine ⟨n, k, ns, ks, rfl, rfl, by simpa using hl, ?_⟩
    rw [e]
    simp [comma, bl]
theorem HeadAt.part (h : HeadAt lv l0 false ns ks l) (h2 : NamedJ l false x l2 b2) (h4 : TakesK (lv + 1) l2 b2 k l' b') : FormAt lv l0 false b' (ns ++ [x]) (ks ++ [k]) l' := by
  intro ns0 ks0 R hn hl hg e
  obtain ⟨_, n1, k1, ns1, ks1, e1, e2, e3, e4⟩ := h ns0 ks0 R hn hl hg e
  have hno : NameOk n1 := names_mem hn (by rw [e1]; simp)
  have hgk : k1.good (lv + 1) := Kind.goodS_mem _ _ hg k1 (by rw [e2]; simp)
  obtain ⟨rfl, hl2, hb2⟩ := h2.2.2 n1 _ hno rfl e4
  obtain ⟨rfl, hb5, hl5⟩ := h4 k1 _ hgk hb2 hl2
  exact ⟨hb5, ns1, ks1, by rw [e1]; simp, by rw [e2]; simp, e3, hl5⟩
theorem FormAt.comma (h : FormAt lv l0 false b ns ks l) (hb : b = false) (hne : ∀ r, l ≠ 125 :: r) (h1 : Eaten [44] l ok l') : HeadAt lv l0 (!ok) ns ks l' := by
  intro ns0 ks0 R hn hl hg e
  obtain ⟨_, ns1, ks1, e1, e2, e3, e4⟩ := h ns0 ks0 R hn hl hg e
  match ns1, ks1, e3 with
  | [], [], _ => exact absurd e4 (hne R)
  | n :: ns2, k0 :: ks2, e3 =>
    rw [textS_cons] at e4
    obtain ⟨rfl, rfl⟩ := h1.yes (r := bl n ++ 58 :: (bl k0.text ++ (bl (Kind.textS false ns2 ks2) ++ 125 :: R))) (by rw [e4]; simp [Go.Proofs.Ytbjblchhenmgjaa.comma, bl])
    exact ⟨rfl, n, k0, ns2, ks2, e1, e2, by simpa using e3, rfl⟩
theorem FormAt.dead {c : Bool} {l2 : List UInt8} (h : FormAt lv l0 c true ns ks l) : HeadAt lv l0 true ns ks l2 := fun ns0 ks0 R hn hl hg e => by
  obtain ⟨h, _⟩ := h ns0 ks0 R hn hl hg e
  cases h
theorem HeadAt.dead (h : HeadAt lv l0 true ns ks l) : TakesK lv (123 :: l0) false k l' true := by
  intro k0 R hg _ e
  rcases Kind.read_cases hg _ R e with ⟨_, e1⟩ | ⟨_, e1⟩ | ⟨_, e1⟩ | ⟨_, _, _, e1⟩ | ⟨_, _, _, e1⟩ | ⟨ns0, ks0, _, hn, hl, hgk, e1⟩
  · cases e1
  · cases e1
  · cases e1
  · cases e1
  · cases e1
  · injection e1 with _ e1
    obtain ⟨h, _⟩ := h ns0 ks0 R hn hl hgk e1
    cases h
theorem PaidF.less {n : Nat} {l1 lx l2 : List UInt8} {b b' : Bool} (h : PaidF lv l1 n lx b) (hl : l2.length ≤ lx.length) (hb : b' = false → b = false) : PaidF lv l1 n l2 b' := by
  obtain ⟨h1, h2, h3⟩ := h
  exact ⟨by omega, by omega, fun hf => by have := h3 (hb hf); omega⟩
theorem PaidF.part {n nk : Nat} {l1 lx : List UInt8} (h : PaidF lv l1 n lx false) (h2 : NamedJ lx false x l2 b2) (h5 : Paid (lv + 1) l2 nk l' b') (hb : b' = false → b2 = false) (hlv : lv ≤ 6) : PaidF lv l1 (n + (1 + x.size) + 1 + nk) l' b' := by
  obtain ⟨a1, a2, a3⟩ := h
  obtain ⟨c1, c2, c3⟩ := h5
  have a4 := a3 rfl
  obtain ⟨d1, d2, _⟩ := h2
  refine ⟨by omega, by omega, fun hf => ?_⟩
  have c4 := c3 hf
  have d4 := d2 (hb hf)
  omega
theorem paid_done {n : Nat} {l1 lx : List UInt8} (h : PaidF lv l1 n lx b) (hl : l'.length ≤ lx.length) (hb : b = false → l'.length < lx.length) : Paid lv (123 :: l1) n l' b :=
  PaidF.done (ok := true) (.inl ⟨rfl, rfl⟩) h hl (fun hf => ⟨rfl, hb hf⟩)
/-- nothing that begins a schema comes next -/
theorem TakesK.none (h1 : ∀ r, l ≠ 91 :: r) (h2 : ∀ r, l ≠ 63 :: r) (h3 : ∀ r, l ≠ 123 :: r) (h4 : ∀ r, l ≠ 110 :: 117 :: 109 :: r) (h5 : ∀ r, l ≠ 116 :: 101 :: 120 :: 116 :: r) (h6 : ∀ r, l ≠ 102 :: 108 :: 97 :: 103 :: r) : TakesK lv l b k l' b' := by
  intro k0 R hg _ e
  rcases Kind.read_cases hg _ R e with ⟨_, e1⟩ | ⟨_, e1⟩ | ⟨_, e1⟩ | ⟨_, _, _, e1⟩ | ⟨_, _, _, e1⟩ | ⟨_, _, _, _, _, _, e1⟩
  · exact absurd e1 (h4 _)
  · exact absurd e1 (h5 _)
  · exact absurd e1 (h6 _)
  · exact absurd e1 (h1 _)
  · exact absurd e1 (h2 _)
  · exact absurd e1 (h3 _)
end
end Go.Proofs.Ytbjblchhenmgjaa
set_option linter.unusedVariables false
set_option linter.unusedSimpArgs false
namespace Go.Proofs.Ytbjblchhenmgjaa
open Go.ChangeShapes Go.WideShapes Go.ChangeAt Go.RowKit

/-- what a part's contract says -/
def PartAll (w : World) (g lv : Nat) : Prop := ∀ (wr : World) (B1 : Option Addr) (n1 d1 : Nat) (ns : List ByteArray) (us1 : List Value) (B2 : Option Addr) (n2 d2 : Nat) (ks : List Kind) (us2 : List Value) (fi2 : List Nat) (l : List UInt8), KJ w wr g lv (.slice B1 n1 d1) ns us1 (.slice B2 n2 d2) ks us2 fi2 l false → ns.length ≤ 100000 → ks.length ≤ 100000 →
  Calls Try.prog 182 #[.pointer (some ⟨w.heap.size + 3, 0, none⟩), .pointer (some ⟨w.heap.size, 0, none⟩), .pointer (some ⟨w.heap.size + 1, 0, none⟩)] wr (PartOut w g lv ns ks l)
def rjMeas (w : World) (g : Nat) : Nat := match w.cell? ⟨g, 1, none⟩, w.cell? ⟨g, 0, none⟩ with
  | some (.bool false), some (.string s) => 1 + s.size
  | _, _ => 0
theorem RdJ.meas {w : World} {g : Nat} {l : List UInt8} {fail : Bool} (h : RdJ w g l fail) : rjMeas w g = if fail = true then 0 else 1 + l.length := by
  obtain ⟨s, hr, h1, rfl⟩ := h
  unfold rjMeas
  rw [hr.cell 1, hr.cell 0]
  simp only [List.getElem?_cons_succ, List.getElem?_cons_zero]
  rw [bl_len]
  cases fail
  · simp
  · simp
def KidsOut (w : World) (g lv : Nat) (l : List UInt8) (e : Ending) (w' : World) : Prop :=
  ∃ (ns : List ByteArray) (ks : List Kind) (l' : List UInt8) (b' : Bool) (B1 : Option Addr) (n1 d1 : Nat) (us1 : List Value) (B2 : Option Addr) (n2 d2 : Nat) (us2 : List Value) (fi2 : List Nat), e = .returned (.tuple #[]) ∧
    KJ w w' g lv (.slice B1 n1 d1) ns us1 (.slice B2 n2 d2) ks us2 fi2 l' b' ∧ Paid lv (123 :: l) (Kind.mk 5 ns ks).bulk l' b' ∧ TakesK lv (123 :: l) false (.mk 5 ns ks) l' b'
set_option maxRecDepth 100000 in
set_option maxHeartbeats 4000000 in
theorem kidsJ_any {lv : Nat} (hl6 : lv ≤ 6) {w wr : World} {g : Nat} (hgw : g < w.heap.size) (hp : PartAll w g lv) {l : List UInt8} (h : KJ w wr g lv (.slice none 0 0) [] [] (.slice none 0 0) [] [] [] l false) :
    Calls Try.prog 181 #[.pointer (some ⟨g, 0, none⟩), .string ⟨#[125]⟩, .func (.func 182) #[] #[.pointer (some ⟨w.heap.size + 3, 0, none⟩), .pointer (some ⟨w.heap.size, 0, none⟩), .pointer (some ⟨w.heap.size + 1, 0, none⟩)]] wr (KidsOut w g lv l) := by
  have H := hide h
  have HP := hide hp
  have HSK := hide (skip_any h.rd ⟨#[125]⟩)
  have hlb := h.rd.len
  clear h hp
  go_enter Try.func181, Try.ntmps181
  go_wp2_with fail
  refine HSK.out.mono ?_
  rintro e w3 ⟨ok, l3, rfl, h3, he3, hg3⟩
  have HE3 := hide (show Eaten [125] l ok l3 from he3)
  have H3 := hide (H.out.read hgw hg3 h3)
  clear h3 he3 hg3 H HSK
  rcases ok with _ | _
  rotate_left
  · go_wp2
    go_end0
    refine ⟨[], [], l3, false, none, 0, 0, [], none, 0, 0, [], [], rfl, H3.out, ?_, ?_⟩
    · have := HE3.out.lt
      exact paid_done (PaidF.start lv l false) HE3.out.le (fun _ => by simp at this; omega)
    · rcases HE3.out with ⟨_, e⟩ | ⟨e, _⟩
      · exact FormAt.done (FormAt.start lv l) (fun _ => e)
      · cases e
  have HH := hide (HeadAt.start (lv := lv) HE3.out)
  have hl3 : l3.length ≤ l.length := HE3.out.le
  have HPF := hide ((PaidF.start lv l false).less (b' := false) hl3 (fun h => h))
  go_wp2
  go_loopw [] (fun wz => ∃ (ns : List ByteArray) (ks : List Kind) (lx : List UInt8) (bx : Bool) (B1 : Option Addr) (m1 d1 : Nat) (us1 : List Value) (B2 : Option Addr) (m2 d2 : Nat) (us2 : List Value) (fi2 : List Nat), KJ w wz g lv (.slice B1 m1 d1) ns us1 (.slice B2 m2 d2) ks us2 fi2 lx bx ∧ ns.length = ks.length ∧ PaidF lv l (bulkStrs ns + ks.length + Kind.bulkS ks) lx bx ∧ HeadAt lv l bx ns ks lx) (fun wz => rjMeas wz g)
  case atStart => exact ⟨[], [], l3, false, none, 0, 0, [], none, 0, 0, [], [], H3.out, rfl, HPF.out, HH.out⟩
  case round =>
    obtain ⟨wz, rfl⟩ : ∃ W, W = wr := ⟨_, rfl⟩
    obtain ⟨ns, ks, lx, bx, B1, m1, d1, us1, B2, m2, d2, us2, fi2, hK, hln, hP, hH⟩ := hrel
    have HK := hide hK
    have HPF := hide hP
    have HH := hide hH
    have HLN := hide hln
    have HM := hide hK.rd.meas
    obtain ⟨hb, hbf⟩ := hK.rd.cells
    have lg := hK.rd.lt
    clear hK hP hH hln H3
    rcases bx with _ | _
    rotate_left
    · go_wp2
      go_end0
      exact ⟨ns, ks, lx, true, B1, m1, d1, us1, B2, m2, d2, us2, fi2, rfl, HK.out, by rw [Kind.bulk_form]; exact paid_done HPF.out (Nat.le_refl _) (fun h => by cases h), HH.out.dead⟩
    have hnb : ns.length ≤ 100000 := by have h := HPF.out.2.2 rfl; unfold bulkStrs at h; omega
    have HPA := hide (HP.out _ _ _ _ _ _ _ _ _ _ _ _ _ HK.out hnb (by rw [← HLN.out]; exact hnb))
    clear hnb
    go_wp2_with fail
    refine HPA.out.mono ?_
    rintro e w4 ⟨x, k, l2, l4, b2, b4, C1, p1, q1, us1', C2, p2, q2, us2', fi2', rfl, hK4, hxs, hnm, hpd, htk, hbb⟩
    have HK4 := hide hK4
    have HF4 := hide (HH.out.part hnm htk)
    have HP4 := hide (show PaidF lv l (bulkStrs (ns ++ [x]) + (ks ++ [k]).length + Kind.bulkS (ks ++ [k])) l4 b4 from by
      have e : bulkStrs (ns ++ [x]) + (ks ++ [k]).length + Kind.bulkS (ks ++ [k]) = bulkStrs ns + ks.length + Kind.bulkS ks + (1 + x.size) + 1 + k.bulk := by
        rw [bulkStrs_snoc, kbulkS_snoc, List.length_append, List.length_singleton]
        omega
      rw [e]
      exact HPF.out.part hnm hpd hbb hl6)
    have HLE := hide (show b4 = false → l4.length < lx.length from fun e => by
      have a1 := (hpd.2.2 e).1
      have a2 := hnm.1
      omega)
    have HLN2 := hide (show (ns ++ [x]).length = (ks ++ [k]).length from by rw [List.length_append, List.length_append, HLN.out]; rfl)
    have HSK := hide (skip_any hK4.rd ⟨#[125]⟩)
    clear hK4 hnm hpd htk hbb HPA HK HPF HH hb hbf lg HLN
    go_wp2_with fail
    refine HSK.out.mono ?_
    rintro e w5 ⟨ok, l5, rfl, h5, he5, hg5⟩
    have HE5 := hide (show Eaten [125] l4 ok l5 from he5)
    have HK5 := hide (HK4.out.read hgw hg5 h5)
    clear h5 he5 hg5 HK4 HSK
    rcases ok with _ | _
    rotate_left
    · have hlt := HE5.out.lt
      go_wp2
      go_end0
      refine ⟨ns ++ [x], ks ++ [k], l5, b4, C1, p1, q1, us1', C2, p2, q2, us2', fi2', rfl, HK5.out, ?_, ?_⟩
      · rw [Kind.bulk_form]
        exact paid_done HP4.out (by omega) (fun _ => by simp at hlt; omega)
      · rcases HE5.out with ⟨_, e⟩ | ⟨e, _⟩
        · exact FormAt.done HF4.out (fun _ => e)
        · cases e
    obtain ⟨rfl, hno⟩ := HE5.out.no
    have HNO := hide (show ∀ r, l5 ≠ 125 :: r from hno)
    obtain ⟨hb, hbf⟩ := HK5.out.rd.cells
    have lg := HK5.out.rd.lt
    clear hno HE5
    rcases b4 with _ | _
    rotate_left
    · go_wp2
      refine ⟨⟨ns ++ [x], ks ++ [k], l5, true, C1, p1, q1, us1', C2, p2, q2, us2', fi2', HK5.out.read hgw (grownBy_setCell _ ⟨g, 1, none⟩ _) (HK5.out.rd.setFail true), HLN2.out, HP4.out, HF4.out.dead⟩, ?_⟩
      rw [(HK5.out.rd.setFail true).meas, HM.out, if_pos rfl, if_neg (by decide)]
      omega
    have HLE4 := hide (HLE.out rfl)
    have HSK := hide (skip_any HK5.out.rd ⟨#[44]⟩)
    go_wp2_with fail
    refine HSK.out.mono ?_
    rintro e w6 ⟨ok, l6, rfl, h6, he6, hg6⟩
    have HC6 := hide (FormAt.comma HF4.out rfl HNO.out (show Eaten [44] l5 ok l6 from he6))
    have HL6 := hide (show l6.length ≤ l5.length from he6.le)
    have HK6 := hide (HK5.out.read hgw hg6 h6)
    obtain ⟨hb, hbf⟩ := HK6.out.rd.cells
    have lg := HK6.out.rd.lt
    clear h6 he6 hg6 HK5 HSK
    go_wp2
    refine ⟨⟨ns ++ [x], ks ++ [k], l6, !ok, C1, p1, q1, us1', C2, p2, q2, us2', fi2', HK6.out.read hgw (grownBy_setCell _ ⟨g, 1, none⟩ _) (HK6.out.rd.setFail _), HLN2.out, HP4.out.less HL6.out (fun _ => rfl), HC6.out⟩, ?_⟩
    have e2 : (if false = true then 0 else 1 + lx.length) = 1 + lx.length := if_neg (by decide)
    rw [(HK6.out.rd.setFail (!ok)).meas, HM.out, e2]
    have h1 := HLE4.out
    have h2 := HL6.out
    split <;> omega
end Go.Proofs.Ytbjblchhenmgjaa
set_option linter.unusedVariables false
set_option linter.unusedSimpArgs false
namespace Go.Proofs.Ytbjblchhenmgjaa
open Go.ChangeShapes Go.WideShapes Go.ChangeAt Go.RowKit

/-- ahead of and behind the parts: the boxes -/
structure SJ (w W : World) (g lv : Nat) (vs : List Value) (l : List UInt8) (fail : Bool) : Prop where
  kb : Row W (w.heap.size + 3) 47 vs
  rd : RdJ W g l fail
  rb : Row W w.heap.size 128 [.pointer (some ⟨g, 0, none⟩)]
  lb : Row W (w.heap.size + 1) 3 [.int .i64 (lv : Int)]
  zb : Row W (w.heap.size + 2) 47 [.int .i64 0, .slice none 0 0, .slice none 0 0]
  gr : w.grownBy W (some g)
section
variable {w W W' : World} {g lv : Nat} {vs vs' : List Value} {l l' : List UInt8} {fail fail' : Bool}
theorem SJ.read (h : SJ w W g lv vs l fail) (hgw : g < w.heap.size) (hg : W.grownBy W' (some g)) (hr : RdJ W' g l' fail') : SJ w W' g lv vs l' fail' :=
  ⟨h.kb.grown hg (fun e => by injection e with e; omega), hr, h.rb.grown hg (fun e => by injection e with e; omega), h.lb.grown hg (fun e => by injection e with e; omega), h.zb.grown hg (fun e => by injection e with e; omega), only_trans h.gr hg⟩
theorem SJ.put (h : SJ w W g lv vs l fail) (hgw : g < w.heap.size) (hb : Below (w.heap.size + 3) W W') (hk : Row W' (w.heap.size + 3) 47 vs') : SJ w W' g lv vs' l fail :=
  ⟨hk, h.rd.low hb (by omega), h.rb.below hb (by omega), h.lb.below hb (by omega), h.zb.below hb (by omega), only_low h.gr hb (by omega)⟩
theorem SJ.toKJ (h : SJ w W g lv [.int .i64 5, .slice none 0 0, .slice none 0 0] l fail) : KJ w W g lv (.slice none 0 0) [] [] (.slice none 0 0) [] [] [] l fail :=
  ⟨⟨h.kb, OwS.nil _ _ _ _ _, OwS.nil _ _ _ _ _, Nat.lt_succ_self _, fun g h => (by cases h), fun g h => (by cases h), fun g h => (by cases h), fun g h => (by cases h)⟩, h.rd, h.rb, h.lb, h.zb, h.gr⟩
end
theorem eaten_head {u l l' : List UInt8} {c : UInt8} (h : Eaten (c :: u) l true l') : ∀ a r, l = a :: r → a = c := fun a r e => by
  rcases h with ⟨_, h⟩ | ⟨h, _⟩
  · rw [h] at e
    simp only [List.cons_append] at e
    injection e with e _
    exact e.symm
  · cases h
theorem TakesK.listbad {lv : Nat} {l l1 l2 : List UInt8} {k : Kind} (he : Eaten [91] l true l1) (hc : ∀ a r, l = a :: r → a = 91) (hk : TakesK (lv + 1) l1 false k l2 true) : TakesK lv l false (.mk 4 [] [k]) l2 true := by
  intro k0 R hg _ e
  rcases Kind.read_cases hg _ R e with ⟨_, e1⟩ | ⟨_, e1⟩ | ⟨_, e1⟩ | ⟨x, rfl, hx, e1⟩ | ⟨_, _, _, e1⟩ | ⟨_, _, _, _, _, _, e1⟩
  rotate_left 3
  · obtain ⟨_, rfl⟩ := he.yes (r := bl x.text ++ 93 :: R) e1
    obtain ⟨_, h, _⟩ := hk x (93 :: R) hx rfl rfl
    cases h
  all_goals exact absurd (hc _ _ e1) (by decide)
theorem fl_eq {fl bad : Bool} {p : Prop} (h : fl = true ↔ (bad = true ∨ p)) (hp : ¬ p) : fl = bad := by cases fl <;> cases bad <;> simp_all
set_option maxRecDepth 100000 in
set_option maxHeartbeats 8000000 in
theorem kindRdI_of (f : Nat) (ih : ∀ f', f = f' + 1 → KindRdI f') (hpart : ∀ (f' lv : Nat), lv + 1 + f' = 7 → 1 ≤ lv → KindRdI f' → ∀ (w : World) (g : Nat), g < w.heap.size → PartAll w g lv) : KindRdI f := by
  intro l bad g lv w hlf hlv h
  have hgw := h.lt
  have HR0 := hide h
  have HIH := hide ih
  have HPT := hide hpart
  have HEND := hide (fun (W : World) (k : Kind) (vs : List Value) (fq : List Nat) (l' : List UInt8) (bad' : Bool) (hz : w.heap.size + 2 < W.heap.size) (ho : OwC W k.cells vs fq) (hn : New W fq (w.heap.size + 3)) (hr : RdJ W g l' bad') (hg : w.grownBy W (some g)) (hp : Paid lv l k.bulk l' bad') (ht : TakesK lv l bad k l' bad') (hbb : bad' = false → bad = false) =>
    show KindOut (fun w l b => RdJ w g l b) g lv l bad w (.returned (.agg vs.toArray)) (putN W (w.heap.size + 2) 0 vs) from by
      have hgr := setN_grown vs 0 (grown_refl W (some (w.heap.size + 2)))
      have hno : w.heap.size + 2 ∉ fq := hn.out (by omega)
      have hb : Below w.heap.size W (putN W (w.heap.size + 2) 0 vs) := below_of_grown hgr (by omega) (by omega)
      exact ⟨k, vs, fq, l', bad', rfl, ho.grown hgr hn.lt hno, (hn.grown hgr (fun b e => by injection e with e; subst e; exact hno)).mono (by omega), hr.low hb hgw, only_low hg hb (Nat.le_refl _), hp, ht, hbb⟩)
  clear h ih hpart
  go_enter Try.func96, Try.ntmps96
  go_upto_region 1 with fail
  generalize hw1 : World.alloc _ _ = w1
  have hb1 : Below w.heap.size w w1 := by rw [← hw1]; exact (((Below.refl _ _).alloc (Nat.le_refl _) _).alloc (by rw [World.size_alloc]; omega) _).alloc (by rw [World.size_alloc, World.size_alloc]; omega) _
  have hsz1 : w1.heap.size = w.heap.size + 3 := by rw [← hw1, World.size_alloc, World.size_alloc, World.size_alloc]
  have HRB := hide (show Row w1 w.heap.size 128 [.pointer (some ⟨g, 0, none⟩)] from by rw [← hw1]; exact ((Row.new w _ _).alloc _).alloc _)
  have HLB := hide (show Row w1 (w.heap.size + 1) 3 [.int .i64 (lv : Int)] from by
    rw [← hw1]
    have h := Row.new (w.alloc (.cells #[.pointer (some ⟨g, 0, none⟩)] 128)) 3 [.int .i64 (lv : Int)]
    rw [World.size_alloc] at h
    exact h.alloc _)
  have HZB := hide (show Row w1 (w.heap.size + 2) 47 [.int .i64 0, .slice none 0 0, .slice none 0 0] from by
    rw [← hw1]
    have h := Row.new ((w.alloc (.cells #[.pointer (some ⟨g, 0, none⟩)] 128)).alloc (.cells #[.int .i64 (lv : Int)] 3)) 47 [.int .i64 0, .slice none 0 0, .slice none 0 0]
    rw [World.size_alloc, World.size_alloc] at h
    exact h)
  have HR1 := hide (HR0.out.below hb1)
  have HG1 := hide (grownBy_below hb1 (some g))
  have r0 := HRB.out.cell 0
  have l0 := HLB.out.cell 0
  have lr := HRB.out.lt
  have ll := HLB.out.lt
  obtain ⟨hbc, hbf⟩ := HR1.out.cells
  have lg := HR1.out.lt
  clear hw1 hb1 HR0
  -- the level, and the box of the result
  have hsj : ∃ fl : Bool, (fl = true ↔ (bad = true ∨ 6 < lv)) := by
    by_cases h : bad = true ∨ 6 < lv
    · exact ⟨true, by simp [h]⟩
    · exact ⟨false, by simp [h]⟩
  obtain ⟨fl, hfl⟩ := hsj
  have HFL := hide hfl
  clear hfl
  by_cases hd : 6 < lv
  case' pos =>
    have hdi : (6 : Int) < (lv : Int) := by omega
    go_upto_region 5 with fail
    generalize hw2 : World.alloc _ _ = w2
    obtain rfl : fl = true := HFL.out.2 (.inr hd)
    have hgs := only_setCell (p := ⟨g, 1, none⟩) (grown_refl w1 (some g)) (.inl rfl) (.bool true)
    have hbn : Below (w1.setCell ⟨g, 1, none⟩ (.bool true)).heap.size (w1.setCell ⟨g, 1, none⟩ (.bool true)) w2 := by rw [← hw2]; exact (Below.refl _ _).alloc (Nat.le_refl _) _
    have hszn : (w1.setCell ⟨g, 1, none⟩ (.bool true)).heap.size = w.heap.size + 3 := by simpa [World.setCell] using hsz1
    have HS := hide (show SJ w w2 g lv [.int .i64 0, .slice none 0 0, .slice none 0 0] l true from by
      have hk : Row w2 (w.heap.size + 3) 47 [.int .i64 0, .slice none 0 0, .slice none 0 0] := by
        have h := Row.new (w1.setCell ⟨g, 1, none⟩ (.bool true)) 47 [.int .i64 0, .slice none 0 0, .slice none 0 0]
        rw [hszn] at h
        rw [← hw2]
        exact h
      exact ⟨hk, (HR1.out.setFail true).below hbn, (HRB.out.grown hgs (fun e => by injection e with e; omega)).below hbn (by omega), (HLB.out.grown hgs (fun e => by injection e with e; omega)).below hbn (by omega), (HZB.out.grown hgs (fun e => by injection e with e; omega)).below hbn (by omega), only_low (only_trans HG1.out hgs) hbn (by omega)⟩)
    clear hw2 hgs hbn hszn hdi hbc hbf r0 l0 lr ll HRB HLB HZB HR1 HG1 lg hsz1
  case' neg =>
    have hdi : ¬ ((6 : Int) < (lv : Int)) := by omega
    go_upto_region 5 with fail
    generalize hw2 : World.alloc _ _ = w2
    have hbn : Below w1.heap.size w1 w2 := by rw [← hw2]; exact (Below.refl _ _).alloc (Nat.le_refl _) _
    obtain rfl : fl = bad := by
      exact fl_eq HFL.out hd
    have HS := hide (show SJ w w2 g lv [.int .i64 0, .slice none 0 0, .slice none 0 0] l fl from by
      have hk : Row w2 (w.heap.size + 3) 47 [.int .i64 0, .slice none 0 0, .slice none 0 0] := by
        have h := Row.new w1 47 [.int .i64 0, .slice none 0 0, .slice none 0 0]
        rw [hsz1] at h
        rw [← hw2]
        exact h
      exact ⟨hk, HR1.out.below hbn, HRB.out.below hbn (by omega), HLB.out.below hbn (by omega), HZB.out.below hbn (by omega), only_low HG1.out hbn (by omega)⟩)
    clear hw2 hbn hdi hbc hbf r0 l0 lr ll HRB HLB HZB HR1 HG1 lg hsz1
  case' neg => rcases fl with _ | _
  case pos =>
    have HT := hide (show TakesK lv l bad (.mk 0 [] []) l true from TakesK.deep hd)
    have r0 := HS.out.rb.cell 0
    have rl := HS.out.rb.lt
    have l0 := HS.out.lb.cell 0
    have ll := HS.out.lb.lt
    obtain ⟨hbc, hbf⟩ := HS.out.rd.cells
    have lg := HS.out.rd.lt
    have q0 := HS.out.kb.cell 0
    have p0 := HS.out.kb.frozen 0
    have q1 := HS.out.kb.cell 1
    have p1 := HS.out.kb.frozen 1
    have q2 := HS.out.kb.cell 2
    have p2 := HS.out.kb.frozen 2
    have z0 := HS.out.zb.cell 0
    have y0 := HS.out.zb.frozen 0
    have z1 := HS.out.zb.cell 1
    have y1 := HS.out.zb.frozen 1
    have z2 := HS.out.zb.cell 2
    have y2 := HS.out.zb.frozen 2
    have lk := HS.out.kb.lt
    have lz := HS.out.zb.lt
    go_wp2
    refine bodyPost_ret (ret_row rfl _ _ (w.heap.size + 2) 47 [.int .i64 0, .slice none 0 0, .slice none 0 0] (HS.out.zb.setAll [.int .i64 0, .slice none 0 0, .slice none 0 0] rfl) _ rfl Try.underlying47 rfl (by kernel_rfl)) rfl ?_
    exact HEND.out w2 (.mk 0 [] []) _ [] l true HS.out.zb.lt (kleaf_ow _ 0 (by decide)) (New.nil _ _) HS.out.rd HS.out.gr (Paid.none lv l) HT.out (fun h => by cases h)
  case neg.true =>
    have HT := hide (show TakesK lv l true (.mk 0 [] []) l true from TakesK.bad)
    have r0 := HS.out.rb.cell 0
    have rl := HS.out.rb.lt
    have l0 := HS.out.lb.cell 0
    have ll := HS.out.lb.lt
    obtain ⟨hbc, hbf⟩ := HS.out.rd.cells
    have lg := HS.out.rd.lt
    have q0 := HS.out.kb.cell 0
    have p0 := HS.out.kb.frozen 0
    have q1 := HS.out.kb.cell 1
    have p1 := HS.out.kb.frozen 1
    have q2 := HS.out.kb.cell 2
    have p2 := HS.out.kb.frozen 2
    have z0 := HS.out.zb.cell 0
    have y0 := HS.out.zb.frozen 0
    have z1 := HS.out.zb.cell 1
    have y1 := HS.out.zb.frozen 1
    have z2 := HS.out.zb.cell 2
    have y2 := HS.out.zb.frozen 2
    have lk := HS.out.kb.lt
    have lz := HS.out.zb.lt
    go_wp2
    refine bodyPost_ret (ret_row rfl _ _ (w.heap.size + 2) 47 [.int .i64 0, .slice none 0 0, .slice none 0 0] (HS.out.zb.setAll [.int .i64 0, .slice none 0 0, .slice none 0 0] rfl) _ rfl Try.underlying47 rfl (by kernel_rfl)) rfl ?_
    exact HEND.out w2 (.mk 0 [] []) _ [] l true HS.out.zb.lt (kleaf_ow _ 0 (by decide)) (New.nil _ _) HS.out.rd HS.out.gr (Paid.none lv l) HT.out (fun h => by cases h)
  case neg.false =>
    have hd6 : lv ≤ 6 := Nat.not_lt.1 hd
    obtain ⟨f', rfl⟩ : ∃ f', f = f' + 1 := ⟨f - 1, by omega⟩
    have HI := hide (HIH.out f' rfl)
    have HPA := hide (HPT.out f' lv (by omega) hlv HI.out w g hgw)
    have hwd : IntKind.i64.wrap ((lv : Int) + 1) = (lv : Int) + 1 := wrapI _ (by omega) (by omega)
    have HIK := hide (fun (W : World) (l : List UInt8) (bad : Bool) (h : RdJ W g l bad) => show Calls Try.prog 96 #[.pointer (some ⟨g, 0, none⟩), .int .i64 ((lv : Int) + 1)] W (KindOut (fun w l b => RdJ w g l b) g (lv + 1) l bad W) from by
      have h := HI.out l bad g (lv + 1) W (by omega) (by omega) h
      rw [show ((lv + 1 : Nat) : Int) = (lv : Int) + 1 by omega] at h
      exact h)
    clear HIH HPT HFL
    have r0 := HS.out.rb.cell 0
    have rl := HS.out.rb.lt
    obtain ⟨hbc, hbf⟩ := HS.out.rd.cells
    have lg := HS.out.rd.lt
    have HSK := hide (skip_any HS.out.rd ⟨#[91]⟩)
    go_wp2_with fail
    refine HSK.out.mono ?_
    rintro e w3 ⟨ok, l1, rfl, hr, he, hg⟩
    have HE1 := hide (show Eaten [91] l ok l1 from he)
    replace HS := hide (HS.out.read hgw hg hr)
    clear r0 rl HSK hr he hg hbc hbf lg
    rcases ok with _ | _
    rotate_left
    · skip
      have r0 := HS.out.rb.cell 0
      have rl := HS.out.rb.lt
      have l0 := HS.out.lb.cell 0
      have ll := HS.out.lb.lt
      have hkb := HS.out.kb.lt
      have HKC := hide (HIK.out _ _ _ HS.out.rd)
      go_wp2_with fail
      refine HKC.out.mono ?_
      rintro e wk ⟨k, us, fq, lk5, b5, rfl, ho5, hn5, hr5, hg5, hp5, ht5, hb5⟩
      have HN5 := hide (hn5.mono (show w.heap.size + 3 + 1 ≤ w3.heap.size from hkb))
      replace HS := hide (HS.out.read hgw hg5 hr5)
      obtain ⟨B1, d1, B2, d2, j1, j2, rfl, k0, k1, k2, efq⟩ := ho5.oKind
      have HO5 := hide ho5
      have HP5 := hide hp5
      have HT5 := hide ht5
      have HB5 := hide hb5
      clear r0 rl l0 ll hkb HKC ho5 hn5 hr5 hg5 hp5 ht5 hb5 k1 k2 efq
      have q0 := HS.out.kb.cell 0
      have p0 := HS.out.kb.frozen 0
      have q1 := HS.out.kb.cell 1
      have p1 := HS.out.kb.frozen 1
      have q2 := HS.out.kb.cell 2
      have p2 := HS.out.kb.frozen 2
      have lk := HS.out.kb.lt
      go_upto_region 8 with fail
      generalize hw6 : World.alloc _ _ = w6
      have e6 : putN (wk.alloc (.cells #[.int .i64 k.sort, .slice B1 k.names.length d1, .slice B2 k.kids.length d2] 47)) (w.heap.size + 3) 0 [.int .i64 4, .slice none 0 0, .slice (some ⟨wk.heap.size, 0, none⟩) 1 1] = w6 := by rw [putN_alloc _ _ _ _ lk]; exact hw6
      have hgp := setN_grown [.int .i64 4, .slice none 0 0, .slice (some ⟨wk.heap.size, 0, none⟩) 1 1] 0 (grown_refl (wk.alloc (.cells #[.int .i64 k.sort, .slice B1 k.names.length d1, .slice B2 k.kids.length d2] 47)) (some (w.heap.size + 3)))
      rw [e6] at hgp
      have hA := (Below.refl wk.heap.size wk).alloc (Nat.le_refl _) (.cells #[.int .i64 k.sort, .slice B1 k.names.length d1, .slice B2 k.kids.length d2] 47)
      have hsA : (wk.alloc (.cells #[.int .i64 k.sort, .slice B1 k.names.length d1, .slice B2 k.kids.length d2] 47)).heap.size = wk.heap.size + 1 := World.size_alloc _ _
      have hnb : w.heap.size + 3 ∉ fq := HN5.out.out (by omega)
      have HR6 := hide (show Row w6 wk.heap.size 47 [.int .i64 k.sort, .slice B1 k.names.length d1, .slice B2 k.kids.length d2] from (Row.new wk _ _).grown hgp (fun e => by injection e with e; omega))
      have HO6 := hide ((HO5.out.alloc HN5.out.lt (.cells #[.int .i64 k.sort, .slice B1 k.names.length d1, .slice B2 k.kids.length d2] 47)).grown hgp (HN5.out.alloc (.cells #[.int .i64 k.sort, .slice B1 k.names.length d1, .slice B2 k.kids.length d2] 47)).lt hnb)
      have HN6 := hide ((HN5.out.alloc (.cells #[.int .i64 k.sort, .slice B1 k.names.length d1, .slice B2 k.kids.length d2] 47)).grown hgp (fun b e => by injection e with e; subst e; exact hnb))
      have HX6 := hide (show wk.heap.size ∉ fq ∧ w.heap.size + 3 ≤ wk.heap.size from ⟨fun hm => Nat.lt_irrefl _ (HN5.out.lt _ hm), Nat.le_of_lt lk⟩)
      replace HS := hide (show SJ w w6 g lv [.int .i64 4, .slice none 0 0, .slice (some ⟨wk.heap.size, 0, none⟩) 1 1] lk5 b5 from HS.out.put hgw ((hA.mono (Nat.le_of_lt lk)).trans (below_of_grown hgp (Nat.le_refl _) (by omega))) (by rw [← e6]; exact (HS.out.kb.alloc _).setAll [.int .i64 4, .slice none 0 0, .slice (some ⟨wk.heap.size, 0, none⟩) 1 1] rfl))
      clear hw6 e6 hgp hA hsA hnb HO5 HN5 q0 q1 q2 p0 p1 p2 lk
      have hbr : w6.grownBy w6.drew (some g) := grown_drewN w6 g 1
      have r0 := HS.out.rb.cell 0
      have rl := HS.out.rb.lt
      obtain ⟨hbc, hbf⟩ := HS.out.rd.cells
      have lg := HS.out.rd.lt
      rcases b5 with _ | _
      rotate_left
      · go_region_with (fail)
        all_goals
          clear r0 rl hbc hbf lg
          have r0 := HS.out.rb.cell 0
          have rl := HS.out.rb.lt
          have l0 := HS.out.lb.cell 0
          have ll := HS.out.lb.lt
          obtain ⟨hbc, hbf⟩ := HS.out.rd.cells
          have lg := HS.out.rd.lt
          have q0 := HS.out.kb.cell 0
          have p0 := HS.out.kb.frozen 0
          have q1 := HS.out.kb.cell 1
          have p1 := HS.out.kb.frozen 1
          have q2 := HS.out.kb.cell 2
          have p2 := HS.out.kb.frozen 2
          have z0 := HS.out.zb.cell 0
          have y0 := HS.out.zb.frozen 0
          have z1 := HS.out.zb.cell 1
          have y1 := HS.out.zb.frozen 1
          have z2 := HS.out.zb.cell 2
          have y2 := HS.out.zb.frozen 2
          have lk := HS.out.kb.lt
          have lz := HS.out.zb.lt
          go_wp2
          replace HS := hide (HS.out.read hgw (only_setCell (p := ⟨g, 1, none⟩) hbr (.inl rfl) (.bool true)) ((HS.out.rd.drewN 1).setFail true))
          have hgt := only_setCell (p := ⟨g, 1, none⟩) hbr (.inl rfl) (.bool true)
          replace HO6 := hide (HO6.out.grown hgt HN6.out.lt (HN6.out.out (by omega)))
          replace HR6 := hide (HR6.out.grown hgt (fun e => by injection e with e; have := HX6.out.2; omega))
          replace HN6 := hide (HN6.out.grown hgt (fun b e => by injection e with e; subst e; exact HN6.out.out (by omega)))
          refine bodyPost_ret (ret_row rfl _ _ (w.heap.size + 2) 47 [.int .i64 4, .slice none 0 0, .slice (some ⟨wk.heap.size, 0, none⟩) 1 1] (HS.out.zb.setAll [.int .i64 4, .slice none 0 0, .slice (some ⟨wk.heap.size, 0, none⟩) 1 1] rfl) _ rfl Try.underlying47 rfl (by kernel_rfl)) rfl ?_
          exact HEND.out _ (.mk 4 [] [k]) _ (wk.heap.size :: fq) lk5 true HS.out.zb.lt (kone_ow (by decide) HO6.out wk.heap.size HR6.out) ((HN6.out.mono (by omega)).consHi HX6.out.1 HX6.out.2 (Unf.row HR6.out) HR6.out.lt) HS.out.rd HS.out.gr (by rw [Kind.bulk_one]; exact Paid.more (by decide) HE1.out HP5.out (fun _ => rfl) hd6) (TakesK.listbad HE1.out (eaten_head HE1.out) HT5.out) (fun _ => by first | rfl | trivial)
      have HSK := hide (skip_any (HS.out.rd.drewN 1) ⟨#[93]⟩)
      go_region_with (go_simp; go_at_call 180; have hh : Calls Try.prog 180 _ w6.drew _ := HSK.out; refine hh.mono ?_; clear hh; rintro e w7 ⟨ok2, l7, rfl, hr7, he7, hg7⟩; have HE7 := hide (show Eaten [93] lk5 ok2 l7 from he7); have HS7 := hide (HS.out.read hgw (only_trans hbr hg7) hr7); have r7 := HS7.out.rb.cell 0; have rl7 := HS7.out.rb.lt; obtain ⟨hbc7, hbf7⟩ := HS7.out.rd.cells; have lg7 := HS7.out.rd.lt; have hg7' := hg7; clear hr7 he7 hg7)
      all_goals
        clear r7 rl7 hbc7 hbf7 lg7 r0 rl hbc hbf lg HSK
        have hx6 : w6.heap.size ≤ w7.heap.size := hg7'.size
        have hgq := only_trans hbr hg7'
        replace HO6 := hide (HO6.out.grown hgq HN6.out.lt (HN6.out.out (by omega)))
        replace HR6 := hide (HR6.out.grown hgq (fun e => by injection e with e; have := HX6.out.2; omega))
        replace HN6 := hide (HN6.out.grown hgq (fun b e => by injection e with e; subst e; exact HN6.out.out (by omega)))
        have hgs : w7.grownBy (w7.setCell ⟨g, 1, none⟩ (.bool (!ok2))) (some g) := grownBy_setCell w7 ⟨g, 1, none⟩ _
        replace HO6 := hide (HO6.out.grown hgs HN6.out.lt (HN6.out.out (by omega)))
        replace HR6 := hide (HR6.out.grown hgs (fun e => by injection e with e; have := HX6.out.2; omega))
        replace HN6 := hide (HN6.out.grown hgs (fun b e => by injection e with e; subst e; exact HN6.out.out (by omega)))
        have r0 := HS7.out.rb.cell 0
        have rl := HS7.out.rb.lt
        have l0 := HS7.out.lb.cell 0
        have ll := HS7.out.lb.lt
        obtain ⟨hbc, hbf⟩ := HS7.out.rd.cells
        have lg := HS7.out.rd.lt
        have q0 := HS7.out.kb.cell 0
        have p0 := HS7.out.kb.frozen 0
        have q1 := HS7.out.kb.cell 1
        have p1 := HS7.out.kb.frozen 1
        have q2 := HS7.out.kb.cell 2
        have p2 := HS7.out.kb.frozen 2
        have z0 := HS7.out.zb.cell 0
        have y0 := HS7.out.zb.frozen 0
        have z1 := HS7.out.zb.cell 1
        have y1 := HS7.out.zb.frozen 1
        have z2 := HS7.out.zb.cell 2
        have y2 := HS7.out.zb.frozen 2
        have lk := HS7.out.kb.lt
        have lz := HS7.out.zb.lt
        go_wp2
        replace HS := hide (HS7.out.read hgw hgs (HS7.out.rd.setFail (!ok2)))
        refine bodyPost_ret (ret_row rfl _ _ (w.heap.size + 2) 47 [.int .i64 4, .slice none 0 0, .slice (some ⟨wk.heap.size, 0, none⟩) 1 1] (HS.out.zb.setAll [.int .i64 4, .slice none 0 0, .slice (some ⟨wk.heap.size, 0, none⟩) 1 1] rfl) _ rfl Try.underlying47 rfl (by kernel_rfl)) rfl ?_
        exact HEND.out _ (.mk 4 [] [k]) _ (wk.heap.size :: fq) l7 (!ok2) HS.out.zb.lt (kone_ow (by decide) HO6.out wk.heap.size HR6.out) ((HN6.out.mono (by omega)).consHi HX6.out.1 HX6.out.2 (Unf.row HR6.out) HR6.out.lt) HS.out.rd HS.out.gr (by rw [Kind.bulk_one]; exact (Paid.more (by decide) HE1.out HP5.out (fun _ => rfl) hd6).shut HE7.out) (TakesK.list HE1.out (eaten_head HE1.out) HT5.out HE7.out) (fun _ => by first | rfl | trivial)
    obtain ⟨e1, hno1⟩ := HE1.out.no
    replace e1 := e1.symm
    subst e1
    have HNO1 := hide (show ∀ r, l ≠ [91] ++ r from hno1)
    clear hno1 HE1
    have r0 := HS.out.rb.cell 0
    have rl := HS.out.rb.lt
    have HSK := hide (skip_any HS.out.rd ⟨#[63]⟩)
    go_wp2_with fail
    refine HSK.out.mono ?_
    rintro e w4 ⟨ok, l2, rfl, hr, he, hg⟩
    have HE2 := hide (show Eaten [63] l ok l2 from he)
    replace HS := hide (HS.out.read hgw hg hr)
    clear r0 rl HSK hr he hg
    rcases ok with _ | _
    rotate_left
    · skip
      have r0 := HS.out.rb.cell 0
      have rl := HS.out.rb.lt
      have l0 := HS.out.lb.cell 0
      have ll := HS.out.lb.lt
      have hkb := HS.out.kb.lt
      have HKC := hide (HIK.out _ _ _ HS.out.rd)
      go_wp2_with fail
      refine HKC.out.mono ?_
      rintro e wk ⟨k, us, fq, lk5, b5, rfl, ho5, hn5, hr5, hg5, hp5, ht5, hb5⟩
      have HN5 := hide (hn5.mono (show w.heap.size + 3 + 1 ≤ w4.heap.size from hkb))
      replace HS := hide (HS.out.read hgw hg5 hr5)
      obtain ⟨B1, d1, B2, d2, j1, j2, rfl, k0, k1, k2, efq⟩ := ho5.oKind
      have HO5 := hide ho5
      have HP5 := hide hp5
      have HT5 := hide ht5
      have HB5 := hide hb5
      clear r0 rl l0 ll hkb HKC ho5 hn5 hr5 hg5 hp5 ht5 hb5 k1 k2 efq
      have q0 := HS.out.kb.cell 0
      have p0 := HS.out.kb.frozen 0
      have q1 := HS.out.kb.cell 1
      have p1 := HS.out.kb.frozen 1
      have q2 := HS.out.kb.cell 2
      have p2 := HS.out.kb.frozen 2
      have lk := HS.out.kb.lt
      go_upto_region 20 with fail
      generalize hw6 : World.alloc _ _ = w6
      have e6 : putN (wk.alloc (.cells #[.int .i64 k.sort, .slice B1 k.names.length d1, .slice B2 k.kids.length d2] 47)) (w.heap.size + 3) 0 [.int .i64 6, .slice none 0 0, .slice (some ⟨wk.heap.size, 0, none⟩) 1 1] = w6 := by rw [putN_alloc _ _ _ _ lk]; exact hw6
      have hgp := setN_grown [.int .i64 6, .slice none 0 0, .slice (some ⟨wk.heap.size, 0, none⟩) 1 1] 0 (grown_refl (wk.alloc (.cells #[.int .i64 k.sort, .slice B1 k.names.length d1, .slice B2 k.kids.length d2] 47)) (some (w.heap.size + 3)))
      rw [e6] at hgp
      have hA := (Below.refl wk.heap.size wk).alloc (Nat.le_refl _) (.cells #[.int .i64 k.sort, .slice B1 k.names.length d1, .slice B2 k.kids.length d2] 47)
      have hsA : (wk.alloc (.cells #[.int .i64 k.sort, .slice B1 k.names.length d1, .slice B2 k.kids.length d2] 47)).heap.size = wk.heap.size + 1 := World.size_alloc _ _
      have hnb : w.heap.size + 3 ∉ fq := HN5.out.out (by omega)
      have HR6 := hide (show Row w6 wk.heap.size 47 [.int .i64 k.sort, .slice B1 k.names.length d1, .slice B2 k.kids.length d2] from (Row.new wk _ _).grown hgp (fun e => by injection e with e; omega))
      have HO6 := hide ((HO5.out.alloc HN5.out.lt (.cells #[.int .i64 k.sort, .slice B1 k.names.length d1, .slice B2 k.kids.length d2] 47)).grown hgp (HN5.out.alloc (.cells #[.int .i64 k.sort, .slice B1 k.names.length d1, .slice B2 k.kids.length d2] 47)).lt hnb)
      have HN6 := hide ((HN5.out.alloc (.cells #[.int .i64 k.sort, .slice B1 k.names.length d1, .slice B2 k.kids.length d2] 47)).grown hgp (fun b e => by injection e with e; subst e; exact hnb))
      have HX6 := hide (show wk.heap.size ∉ fq ∧ w.heap.size + 3 ≤ wk.heap.size from ⟨fun hm => Nat.lt_irrefl _ (HN5.out.lt _ hm), Nat.le_of_lt lk⟩)
      replace HS := hide (show SJ w w6 g lv [.int .i64 6, .slice none 0 0, .slice (some ⟨wk.heap.size, 0, none⟩) 1 1] lk5 b5 from HS.out.put hgw ((hA.mono (Nat.le_of_lt lk)).trans (below_of_grown hgp (Nat.le_refl _) (by omega))) (by rw [← e6]; exact (HS.out.kb.alloc _).setAll [.int .i64 6, .slice none 0 0, .slice (some ⟨wk.heap.size, 0, none⟩) 1 1] rfl))
      clear hw6 e6 hgp hA hsA hnb HO5 HN5 q0 q1 q2 p0 p1 p2 lk
      have r0 := HS.out.rb.cell 0
      have rl := HS.out.rb.lt
      have l0 := HS.out.lb.cell 0
      have ll := HS.out.lb.lt
      obtain ⟨hbc, hbf⟩ := HS.out.rd.cells
      have lg := HS.out.rd.lt
      have q0 := HS.out.kb.cell 0
      have p0 := HS.out.kb.frozen 0
      have q1 := HS.out.kb.cell 1
      have p1 := HS.out.kb.frozen 1
      have q2 := HS.out.kb.cell 2
      have p2 := HS.out.kb.frozen 2
      have z0 := HS.out.zb.cell 0
      have y0 := HS.out.zb.frozen 0
      have z1 := HS.out.zb.cell 1
      have y1 := HS.out.zb.frozen 1
      have z2 := HS.out.zb.cell 2
      have y2 := HS.out.zb.frozen 2
      have lk := HS.out.kb.lt
      have lz := HS.out.zb.lt
      go_wp2
      refine bodyPost_ret (ret_row rfl _ _ (w.heap.size + 2) 47 [.int .i64 6, .slice none 0 0, .slice (some ⟨wk.heap.size, 0, none⟩) 1 1] (HS.out.zb.setAll [.int .i64 6, .slice none 0 0, .slice (some ⟨wk.heap.size, 0, none⟩) 1 1] rfl) _ rfl Try.underlying47 rfl (by kernel_rfl)) rfl ?_
      exact HEND.out _ (.mk 6 [] [k]) _ (wk.heap.size :: fq) lk5 b5 HS.out.zb.lt (kone_ow (by decide) HO6.out wk.heap.size HR6.out) ((HN6.out.mono (by omega)).consHi HX6.out.1 HX6.out.2 (Unf.row HR6.out) HR6.out.lt) HS.out.rd HS.out.gr (by rw [Kind.bulk_one]; exact Paid.more (by decide) HE2.out HP5.out (fun _ => rfl) hd6) (TakesK.maybe HE2.out (eaten_head HE2.out) HT5.out) (fun _ => by first | rfl | trivial)
    obtain ⟨e2, hno2⟩ := HE2.out.no
    replace e2 := e2.symm
    subst e2
    have HNO2 := hide (show ∀ r, l ≠ [63] ++ r from hno2)
    clear hno2 HE2
    have r0 := HS.out.rb.cell 0
    have rl := HS.out.rb.lt
    have HSK := hide (skip_any HS.out.rd ⟨#[123]⟩)
    go_wp2_with fail
    refine HSK.out.mono ?_
    rintro e w5 ⟨ok, l3, rfl, hr, he, hg⟩
    have HE3 := hide (show Eaten [123] l ok l3 from he)
    replace HS := hide (HS.out.read hgw hg hr)
    clear r0 rl HSK hr he hg
    rcases ok with _ | _
    rotate_left
    · skip
      obtain rfl : l = 123 :: l3 := by rcases HE3.out with ⟨_, h⟩ | ⟨h, _⟩ <;> first | exact h | cases h
      have q0 := HS.out.kb.cell 0
      have p0 := HS.out.kb.frozen 0
      have q1 := HS.out.kb.cell 1
      have p1 := HS.out.kb.frozen 1
      have q2 := HS.out.kb.cell 2
      have p2 := HS.out.kb.frozen 2
      have lk := HS.out.kb.lt
      have r0 := HS.out.rb.cell 0
      have rl := HS.out.rb.lt
      replace HS := hide (HS.out.put hgw ((Below.refl _ _).setCell (p := ⟨w.heap.size + 3, 0, none⟩) (Nat.le_refl _) (.int .i64 5)) (HS.out.kb.set 0 (.int .i64 5)))
      have HKD := hide (kidsJ_any hd6 hgw HPA.out (HS.out.toKJ))
      go_wp2_with fail
      refine HKD.out.mono ?_
      rintro e w9 ⟨ns, ks, l9, b9, B1, n1, d1, us1, B2, n2, d2, us2, fi2, rfl, hk, hpd, htk⟩
      have HK := hide hk
      have HPD := hide hpd
      have HTK := hide htk
      clear q0 q1 q2 p0 p1 p2 lk r0 rl HKD hk hpd htk
      have q0 := HK.out.two.box.cell 0
      have q1 := HK.out.two.box.cell 1
      have q2 := HK.out.two.box.cell 2
      have z0 := HK.out.zb.cell 0
      have y0 := HK.out.zb.frozen 0
      have z1 := HK.out.zb.cell 1
      have y1 := HK.out.zb.frozen 1
      have z2 := HK.out.zb.cell 2
      have y2 := HK.out.zb.frozen 2
      have lk := HK.out.two.box.lt
      have lz := HK.out.zb.lt
      go_wp2
      obtain ⟨fq, ho, hnw⟩ := kform_ow HK.out.two (by decide)
      refine bodyPost_ret (ret_row rfl _ _ (w.heap.size + 2) 47 (kindMk 5 (.slice B1 n1 d1) (.slice B2 n2 d2)) (HK.out.zb.setAll (kindMk 5 (.slice B1 n1 d1) (.slice B2 n2 d2)) rfl) _ rfl Try.underlying47 rfl (by kernel_rfl)) rfl ?_
      exact HEND.out _ (.mk 5 ns ks) _ fq l9 b9 HK.out.zb.lt ho (hnw.mono (by omega)) HK.out.rd HK.out.gr HPD.out HTK.out (fun _ => by first | rfl | trivial)
    obtain ⟨e3, hno3⟩ := HE3.out.no
    replace e3 := e3.symm
    subst e3
    have HNO3 := hide (show ∀ r, l ≠ [123] ++ r from hno3)
    clear hno3 HE3
    have r0 := HS.out.rb.cell 0
    have rl := HS.out.rb.lt
    have HSK := hide (skip_any HS.out.rd ⟨#[110, 117, 109]⟩)
    go_wp2_with fail
    refine HSK.out.mono ?_
    rintro e w6 ⟨ok, l4, rfl, hr, he, hg⟩
    have HE4 := hide (show Eaten [110, 117, 109] l ok l4 from he)
    replace HS := hide (HS.out.read hgw hg hr)
    clear r0 rl HSK hr he hg
    rcases ok with _ | _
    rotate_left
    · skip
      have r0 := HS.out.rb.cell 0
      have rl := HS.out.rb.lt
      have l0 := HS.out.lb.cell 0
      have ll := HS.out.lb.lt
      obtain ⟨hbc, hbf⟩ := HS.out.rd.cells
      have lg := HS.out.rd.lt
      have q0 := HS.out.kb.cell 0
      have p0 := HS.out.kb.frozen 0
      have q1 := HS.out.kb.cell 1
      have p1 := HS.out.kb.frozen 1
      have q2 := HS.out.kb.cell 2
      have p2 := HS.out.kb.frozen 2
      have z0 := HS.out.zb.cell 0
      have y0 := HS.out.zb.frozen 0
      have z1 := HS.out.zb.cell 1
      have y1 := HS.out.zb.frozen 1
      have z2 := HS.out.zb.cell 2
      have y2 := HS.out.zb.frozen 2
      have lk := HS.out.kb.lt
      have lz := HS.out.zb.lt
      replace HS := hide (HS.out.put hgw ((Below.refl _ _).setCell (p := ⟨w.heap.size + 3, 0, none⟩) (Nat.le_refl _) (.int .i64 1)) (HS.out.kb.set 0 (.int .i64 1)))
      go_wp2
      refine bodyPost_ret (ret_row rfl _ _ (w.heap.size + 2) 47 [.int .i64 1, .slice none 0 0, .slice none 0 0] (HS.out.zb.setAll [.int .i64 1, .slice none 0 0, .slice none 0 0] rfl) _ rfl Try.underlying47 rfl (by kernel_rfl)) rfl ?_
      exact HEND.out _ (.mk 1 [] []) _ [] l4 false HS.out.zb.lt (kleaf_ow _ 1 (by decide)) (New.nil _ _) HS.out.rd HS.out.gr (Paid.leaf (by decide) HE4.out _ rfl) (TakesK.num HE4.out (eaten_head HE4.out)) (fun _ => by first | rfl | trivial)
    obtain ⟨e4, hno4⟩ := HE4.out.no
    replace e4 := e4.symm
    subst e4
    have HNO4 := hide (show ∀ r, l ≠ [110, 117, 109] ++ r from hno4)
    clear hno4 HE4
    have r0 := HS.out.rb.cell 0
    have rl := HS.out.rb.lt
    have HSK := hide (skip_any HS.out.rd ⟨#[116, 101, 120, 116]⟩)
    go_wp2_with fail
    refine HSK.out.mono ?_
    rintro e w7 ⟨ok, l5, rfl, hr, he, hg⟩
    have HE5 := hide (show Eaten [116, 101, 120, 116] l ok l5 from he)
    replace HS := hide (HS.out.read hgw hg hr)
    clear r0 rl HSK hr he hg
    rcases ok with _ | _
    rotate_left
    · skip
      have r0 := HS.out.rb.cell 0
      have rl := HS.out.rb.lt
      have l0 := HS.out.lb.cell 0
      have ll := HS.out.lb.lt
      obtain ⟨hbc, hbf⟩ := HS.out.rd.cells
      have lg := HS.out.rd.lt
      have q0 := HS.out.kb.cell 0
      have p0 := HS.out.kb.frozen 0
      have q1 := HS.out.kb.cell 1
      have p1 := HS.out.kb.frozen 1
      have q2 := HS.out.kb.cell 2
      have p2 := HS.out.kb.frozen 2
      have z0 := HS.out.zb.cell 0
      have y0 := HS.out.zb.frozen 0
      have z1 := HS.out.zb.cell 1
      have y1 := HS.out.zb.frozen 1
      have z2 := HS.out.zb.cell 2
      have y2 := HS.out.zb.frozen 2
      have lk := HS.out.kb.lt
      have lz := HS.out.zb.lt
      replace HS := hide (HS.out.put hgw ((Below.refl _ _).setCell (p := ⟨w.heap.size + 3, 0, none⟩) (Nat.le_refl _) (.int .i64 2)) (HS.out.kb.set 0 (.int .i64 2)))
      go_wp2
      refine bodyPost_ret (ret_row rfl _ _ (w.heap.size + 2) 47 [.int .i64 2, .slice none 0 0, .slice none 0 0] (HS.out.zb.setAll [.int .i64 2, .slice none 0 0, .slice none 0 0] rfl) _ rfl Try.underlying47 rfl (by kernel_rfl)) rfl ?_
      exact HEND.out _ (.mk 2 [] []) _ [] l5 false HS.out.zb.lt (kleaf_ow _ 2 (by decide)) (New.nil _ _) HS.out.rd HS.out.gr (Paid.leaf (by decide) HE5.out _ rfl) (TakesK.text HE5.out (eaten_head HE5.out)) (fun _ => by first | rfl | trivial)
    obtain ⟨e5, hno5⟩ := HE5.out.no
    replace e5 := e5.symm
    subst e5
    have HNO5 := hide (show ∀ r, l ≠ [116, 101, 120, 116] ++ r from hno5)
    clear hno5 HE5
    have r0 := HS.out.rb.cell 0
    have rl := HS.out.rb.lt
    have HSK := hide (skip_any HS.out.rd ⟨#[102, 108, 97, 103]⟩)
    go_wp2_with fail
    refine HSK.out.mono ?_
    rintro e w8 ⟨ok, l6, rfl, hr, he, hg⟩
    have HE6 := hide (show Eaten [102, 108, 97, 103] l ok l6 from he)
    replace HS := hide (HS.out.read hgw hg hr)
    clear r0 rl HSK hr he hg
    rcases ok with _ | _
    rotate_left
    · skip
      have r0 := HS.out.rb.cell 0
      have rl := HS.out.rb.lt
      have l0 := HS.out.lb.cell 0
      have ll := HS.out.lb.lt
      obtain ⟨hbc, hbf⟩ := HS.out.rd.cells
      have lg := HS.out.rd.lt
      have q0 := HS.out.kb.cell 0
      have p0 := HS.out.kb.frozen 0
      have q1 := HS.out.kb.cell 1
      have p1 := HS.out.kb.frozen 1
      have q2 := HS.out.kb.cell 2
      have p2 := HS.out.kb.frozen 2
      have z0 := HS.out.zb.cell 0
      have y0 := HS.out.zb.frozen 0
      have z1 := HS.out.zb.cell 1
      have y1 := HS.out.zb.frozen 1
      have z2 := HS.out.zb.cell 2
      have y2 := HS.out.zb.frozen 2
      have lk := HS.out.kb.lt
      have lz := HS.out.zb.lt
      replace HS := hide (HS.out.put hgw ((Below.refl _ _).setCell (p := ⟨w.heap.size + 3, 0, none⟩) (Nat.le_refl _) (.int .i64 3)) (HS.out.kb.set 0 (.int .i64 3)))
      go_wp2
      refine bodyPost_ret (ret_row rfl _ _ (w.heap.size + 2) 47 [.int .i64 3, .slice none 0 0, .slice none 0 0] (HS.out.zb.setAll [.int .i64 3, .slice none 0 0, .slice none 0 0] rfl) _ rfl Try.underlying47 rfl (by kernel_rfl)) rfl ?_
      exact HEND.out _ (.mk 3 [] []) _ [] l6 false HS.out.zb.lt (kleaf_ow _ 3 (by decide)) (New.nil _ _) HS.out.rd HS.out.gr (Paid.leaf (by decide) HE6.out _ rfl) (TakesK.flag HE6.out (eaten_head HE6.out)) (fun _ => by first | rfl | trivial)
    obtain ⟨e6, hno6⟩ := HE6.out.no
    replace e6 := e6.symm
    subst e6
    have HNO6 := hide (show ∀ r, l ≠ [102, 108, 97, 103] ++ r from hno6)
    clear hno6 HE6
    have r0 := HS.out.rb.cell 0
    have rl := HS.out.rb.lt
    have l0 := HS.out.lb.cell 0
    have ll := HS.out.lb.lt
    obtain ⟨hbc, hbf⟩ := HS.out.rd.cells
    have lg := HS.out.rd.lt
    have q0 := HS.out.kb.cell 0
    have p0 := HS.out.kb.frozen 0
    have q1 := HS.out.kb.cell 1
    have p1 := HS.out.kb.frozen 1
    have q2 := HS.out.kb.cell 2
    have p2 := HS.out.kb.frozen 2
    have z0 := HS.out.zb.cell 0
    have y0 := HS.out.zb.frozen 0
    have z1 := HS.out.zb.cell 1
    have y1 := HS.out.zb.frozen 1
    have z2 := HS.out.zb.cell 2
    have y2 := HS.out.zb.frozen 2
    have lk := HS.out.kb.lt
    have lz := HS.out.zb.lt
    replace HS := hide (HS.out.read hgw (grownBy_setCell _ ⟨g, 1, none⟩ _) (HS.out.rd.setFail true))
    go_wp2
    refine bodyPost_ret (ret_row rfl _ _ (w.heap.size + 2) 47 [.int .i64 0, .slice none 0 0, .slice none 0 0] (HS.out.zb.setAll [.int .i64 0, .slice none 0 0, .slice none 0 0] rfl) _ rfl Try.underlying47 rfl (by kernel_rfl)) rfl ?_
    exact HEND.out _ (.mk 0 [] []) _ [] l true HS.out.zb.lt (kleaf_ow _ 0 (by decide)) (New.nil _ _) HS.out.rd HS.out.gr (Paid.none lv l) (TakesK.none HNO1.out HNO2.out HNO3.out HNO4.out HNO5.out HNO6.out) (fun h => by cases h)
theorem kindRdI_any (hpart : ∀ (f' lv : Nat), lv + 1 + f' = 7 → 1 ≤ lv → KindRdI f' → ∀ (w : World) (g : Nat), g < w.heap.size → PartAll w g lv) : ∀ f, KindRdI f
  | 0 => kindRdI_of 0 (fun f' e => by cases e) hpart
  | f + 1 => kindRdI_of (f + 1) (fun f' e => by injection e with e; subst e; exact kindRdI_any hpart f) hpart
end Go.Proofs.Ytbjblchhenmgjaa
set_option linter.unusedVariables false
set_option linter.unusedSimpArgs false
namespace Go.Proofs.Ytbjblchhenmgjaa
open Go.ChangeShapes Go.WideShapes Go.ChangeAt Go.RowKit
def Kind.mkTop (x : Kind) (a b : Nat) : Prop := ∃ e1, MkStringS x.names a e1 ∧ Kind.mkS x.kids e1 b
def Kind.cntTop (x : Kind) : Nat := x.names.length + Kind.cntS x.kids
theorem Kind.cntTop_eq (x : Kind) : x.cntTop = x.names.length + Kind.cntS x.kids := rfl
set_option maxRecDepth 100000 in
set_option maxHeartbeats 1000000 in
theorem markKind_any (x : Kind) (us : List Value) (fp : List Nat) (lo : Nat) (z : Int) (k0 : Nat) (w : World) (hz : z = k0) (ho : OwC w x.cells us fp) (hn : New w fp lo) (hb : k0 + x.cntTop ≤ 1099511627776) :
    Calls Try.prog 31 #[.agg us.toArray, .int .i64 z] w fun e w' => ∃ (x' : Kind), e = .returned (.int .i64 ((k0 + x.cntTop : Nat) : Int)) ∧ OwC w' x'.cells us fp ∧ x'.mkTop k0 (k0 + x.cntTop) ∧ Touch fp w w' := by
  subst hz
  have hc := x.cntTop_eq
  obtain ⟨A1, c1, A2, c2, f1, f2, rfl, w0, o1, o2, rfl⟩ := ho.oKind
  have hw0 : Below w.heap.size w (w.alloc (.cells #[.int .i64 x.sort, .slice A1 x.names.length c1, .slice A2 x.kids.length c2] 47)) := (Below.refl _ _).alloc (Nat.le_refl _) _
  have R0 : Row (w.alloc (.cells #[.int .i64 x.sort, .slice A1 x.names.length c1, .slice A2 x.kids.length c2] 47)) w.heap.size 47 [.int .i64 x.sort, .slice A1 x.names.length c1, .slice A2 x.kids.length c2] := Row.new w _ _
  have n1 := hn.left
  have r1 := hn.right
  have dj1 := (List.nodup_append.1 hn.nd).2.2
  have n2 := r1
  have O1 := hide (o1.below hw0 n1.lt)
  have N1 := hide (n1.alloc (.cells #[.int .i64 x.sort, .slice A1 x.names.length c1, .slice A2 x.kids.length c2] 47))
  have nb1 : w.heap.size ∉ f1 := fun h => Nat.lt_irrefl _ (n1.lt _ h)
  have O2 := hide (o2.below hw0 n2.lt)
  have N2 := hide (n2.alloc (.cells #[.int .i64 x.sort, .slice A1 x.names.length c1, .slice A2 x.kids.length c2] 47))
  have nb2 : w.heap.size ∉ f2 := fun h => Nat.lt_irrefl _ (n2.lt _ h)
  have dd1_2 : ∀ g ∈ f2, g ∉ f1 := fun g hg h => dj1 _ h _ hg rfl
  clear ho o1 o2 hn
  have T0 := hide (Touch.below (fp := f1 ++ (f2)) hw0)
  go_enter Try.func31, Try.ntmps31
  go_wp2_with fail
  refine (markStringS_any x.names _ _ _ f1 lo _ (k0) _ (by omega) O1.out N1.out (by omega)).mono ?_
  rintro e w1_ ⟨y1, rfl, yl1, yo1, ym1, t1⟩
  have T1 := hide (T0.out.trans (t1.mono (by intro g hg; simp [hg])))
  have YO1 := hide yo1
  have YM1 := hide ym1
  have YL1 := hide yl1
  clear yo1 ym1 yl1
  have R1 : Row w1_ w.heap.size 47 [.int .i64 x.sort, .slice A1 x.names.length c1, .slice A2 x.kids.length c2] := (t1.block _ R0.lt nb1).trans R0
  have O2 := hide (O2.out.touch t1 N2.out.lt dd1_2)
  have N2 := hide (t1.new N2.out)
  have M1 := hide (t1.new N1.out)
  clear t1
  have lt1 := R1.lt
  have cc1 := R1.cell 2
  go_wp2_with fail
  refine (markKindS_any x.kids _ _ _ f2 lo _ ((k0) + x.names.length) _ (by omega) O2.out N2.out (by omega)).mono ?_
  rintro e w2_ ⟨y2, rfl, yl2, yo2, ym2, t2⟩
  have T2 := hide (T1.out.trans (t2.mono (by intro g hg; simp [hg])))
  have YO2 := hide yo2
  have YM2 := hide ym2
  have YL2 := hide yl2
  clear yo2 ym2 yl2
  have R2 : Row w2_ w.heap.size 47 [.int .i64 x.sort, .slice A1 x.names.length c1, .slice A2 x.kids.length c2] := (t2.block _ R1.lt nb2).trans R1
  have YO1 := hide (YO1.out.touch t2 M1.out.lt (fun g hg h => dd1_2 g h hg))
  have M1 := hide (t2.new M1.out)
  have M2 := hide (t2.new N2.out)
  clear t2
  have lt2 := R2.lt
  go_wp2
  go_ret
  refine ⟨(Kind.mk x.sort y1 y2), ret_int (by omega), OwC.mKind w0 YO1.out YO2.out, ?_, ?_⟩
  · refine ⟨_, YM1.out, ?_⟩
    have h := YM2.out
    rw [hc]
    (try simp only [Nat.add_assoc] at h)
    (try simp only [Nat.add_assoc])
    exact h
  · exact T2.out
set_option maxRecDepth 100000 in
set_option maxHeartbeats 1000000 in
theorem heldKind_any (x : Kind) (us : List Value) (fp : List Nat) (z : Int) (a b : Nat) (w : World) (hz : z = a) (ho : OwC w x.cells us fp) (hf : Lt fp w.heap.size) (hmk : x.mkTop a b) (hb : b ≤ 1099511627776) :
    Calls Try.prog 32 #[.agg us.toArray, .int .i64 z] w fun e w' => e = .returned (.int .i64 (b : Nat)) ∧ Below w.heap.size w w' := by
  subst hz
  obtain ⟨A1, c1, A2, c2, f1, f2, rfl, w0, o1, o2, rfl⟩ := ho.oKind
  obtain ⟨e1, m1, m2⟩ := hmk
  have hw0 : Below w.heap.size w (w.alloc (.cells #[.int .i64 x.sort, .slice A1 x.names.length c1, .slice A2 x.kids.length c2] 47)) := (Below.refl _ _).alloc (Nat.le_refl _) _
  have R0 : Row (w.alloc (.cells #[.int .i64 x.sort, .slice A1 x.names.length c1, .slice A2 x.kids.length c2] 47)) w.heap.size 47 [.int .i64 x.sort, .slice A1 x.names.length c1, .slice A2 x.kids.length c2] := Row.new w _ _
  have fl1 := hf.left
  have fl2 := (hf).right
  have le2 := Kind.mkS_le _ _ _ m2
  have le1 : a ≤ e1 := by have := m1.1; omega
  have O1 := hide o1
  have HM1 := hide m1
  have O2 := hide o2
  have HM2 := hide m2
  have B0 := hide hw0
  clear ho hf hw0 o1 m1 o2 m2
  go_enter Try.func32, Try.ntmps32
  go_wp2_with fail
  refine (heldStringS_any x.names _ _ _ f1 _ a e1 _ (by omega) (O1.out.below B0.out fl1) (fl1.up B0.out) HM1.out (by omega)).mono ?_
  rintro e w1_ ⟨rfl, hb1⟩
  have B1 := hide (B0.out.trans (hb1.mono B0.out.size))
  have R1 := R0.below hb1 R0.lt
  have lt1 := R1.lt
  have cc1 := R1.cell 2
  clear hb1
  go_wp2_with fail
  refine (heldKindS_any x.kids _ _ _ f2 _ e1 b _ (by omega) (O2.out.below B1.out fl2) (fl2.up B1.out) HM2.out (by omega)).mono ?_
  rintro e w2_ ⟨rfl, hb2⟩
  have B2 := hide (B1.out.trans (hb2.mono B1.out.size))
  have R2 := R1.below hb2 R1.lt
  have lt2 := R2.lt
  clear hb2
  go_wp2
  go_ret
  exact ⟨rfl, B2.out⟩
end Go.Proofs.Ytbjblchhenmgjaa
set_option linter.unusedVariables false
set_option linter.unusedSimpArgs false
namespace Go.Proofs.Ytbjblchhenmgjaa
open Go.ChangeShapes Go.WideShapes Go.ChangeAt Go.RowKit

theorem kindJ_any (f : Nat) : KindRdI f := kindRdI_any (fun f' lv h1 h2 ih w g hgw wr B1 n1 d1 ns us1 B2 n2 d2 ks us2 fi2 l hK hns hks => partJ_any h1 h2 ih hgw hK hns hks) f
theorem kcntS_le : ∀ (l : List Kind), (∀ x ∈ l, x.cnt + 1 ≤ 2 * x.parts) → Kind.cntS l + l.length ≤ 2 * Kind.partsS l
  | [], _ => Nat.le_refl _
  | x :: r, h => by
    have h1 := h x (by simp)
    have h2 := kcntS_le r (fun y hy => h y (by simp [hy]))
    simp only [Kind.cntS, Kind.partsS, List.length_cons]
    omega
theorem kcnt_le (k : Kind) : ∀ lv, k.good lv → k.cnt + 1 ≤ 2 * k.parts := by
  refine Kind.ind (P := fun k => ∀ lv, k.good lv → k.cnt + 1 ≤ 2 * k.parts) (fun k ih => ?_) k
  intro lv h
  have hg := (Kind.good_iff _ _).1 h
  have hp := k.parts_eq
  have h1 := kcntS_le k.kids (fun x hx => ih x hx (lv + 1) (Kind.goodS_mem _ _ hg.2.2 x hx))
  have hn : k.names.length ≤ k.kids.length := by
    rcases k.shape_iff.1 hg.2.1 with h | h | h <;> omega
  have e : k.cnt = 1 + k.names.length + Kind.cntS k.kids := by cases k; rfl
  omega
theorem kindRead_cnt (s : ByteArray) : (kindRead s).cntTop ≤ 120 := by
  unfold kindRead
  cases h : readK s with
  | none => decide
  | some k =>
    obtain ⟨h1, _⟩ := readK_some h
    have h2 := kcnt_le k 1 h1.1
    have h3 := h1.2
    have e : k.cnt = 1 + k.names.length + Kind.cntS k.kids := by cases k; rfl
    show k.cntTop ≤ 120
    rw [Kind.cntTop_eq]
    omega
set_option maxRecDepth 100000 in
set_option maxHeartbeats 2000000 in
theorem implKindRead_any (s : ByteArray) (w : World) (hs : s.size ≤ maxLen) :
    Calls Try.prog 29 #[.string s] w (KindReadRet s w) := by
  unfold maxLen at hs
  go_enter Try.func29, Try.ntmps29
  go_upto_region 1 with fail
  generalize hw1 : w.alloc _ = w1
  have hb1 : Below w.heap.size w w1 := by rw [← hw1]; exact (Below.refl _ _).alloc (Nat.le_refl _) _
  have HZ := hide (show Row w1 w.heap.size 47 [.int .i64 0, .slice none 0 0, .slice none 0 0] from by rw [← hw1]; exact Row.new w _ _)
  have hz1 := HZ.out.lt
  have HB1 := hide hb1
  clear hw1 hb1
  by_cases hlen : (800 : Int) < (s.size : Int)
  · have HN := hide (readK_long (s := s) (by omega))
    have z0 := HZ.out.cell 0
    have z1 := HZ.out.cell 1
    have z2 := HZ.out.cell 2
    have y0 := HZ.out.frozen 0
    have y1 := HZ.out.frozen 1
    have y2 := HZ.out.frozen 2
    go_wp2
    refine bodyPost_ret (ret_row_tmp rfl _ _ w.heap.size 47 [.int .i64 0, .slice none 0 0, .slice none 0 0] (HZ.out.setAll [.int .i64 0, .slice none 0 0, .slice none 0 0] rfl) _ _ rfl rfl Try.underlying47 rfl (by kernel_rfl)) rfl ?_
    exact kr_none HN.out (HB1.out.trans (below_of_grown (setN_grown [.int .i64 0, .slice none 0 0, .slice none 0 0] 0 (grown_refl w1 (some w.heap.size))) (Nat.le_refl _) HB1.out.size))
  go_upto_region 4 with fail
  generalize hw2 : w1.alloc _ = w2
  have hb2 : Below w1.heap.size w1 w2 := by rw [← hw2]; exact (Below.refl _ _).alloc (Nat.le_refl _) _
  have HR := hide (show RdJ w2 w1.heap.size (bl s) false from ⟨s, by rw [← hw2]; exact Row.new w1 _ _, by omega, rfl⟩)
  have HZ2 := hide (HZ.out.below hb2 hz1)
  have HB2 := hide (HB1.out.trans (hb2.mono HB1.out.size))
  have HK := hide (kindJ_any 6 (bl s) false w1.heap.size 1 w2 (by omega) (by omega) HR.out)
  have hr2 := HR.out.lt
  clear hw2 hb2 HR
  go_wp2_with fail
  refine HK.out.mono ?_
  rintro e w3 ⟨k, us, fq, l3, b3, rfl, ho3, hn3, hr3, hg3, hp3, ht3, -⟩
  have HZ3 := hide (HZ2.out.grown hg3 (fun e => by injection e with e; omega))
  have HB3 := hide (HB2.out.trans (below_of_grown hg3 (by omega) HB2.out.size))
  have HT3 := hide ht3
  have hkb : k.bulk ≤ 10000 := by have := hp3.2.1; rw [bl_len] at this; omega
  obtain ⟨B1, d1, B2, d2, f1, f2, rfl, k0, k1, k2, efq⟩ := ho3.oKind
  obtain ⟨rest, hrow, hsz, hl3⟩ := hr3
  have HO3 := hide ho3
  have HN3 := hide (hn3.mono (show w.heap.size + 1 ≤ w2.heap.size from by omega))
  have HRow := hide hrow
  have HL3 := hide hl3
  have HPD := hide hp3
  go_upto_region 5 with fail
  generalize hw4 : w3.alloc _ = w4
  have hb4 : Below w3.heap.size w3 w4 := by rw [← hw4]; exact (Below.refl _ _).alloc (Nat.le_refl _) _
  have HBox := hide (show Row w4 w3.heap.size 47 [.int .i64 k.sort, .slice B1 k.names.length d1, .slice B2 k.kids.length d2] from by rw [← hw4]; exact Row.new w3 _ _)
  have HO4 := hide (HO3.out.below hb4 HN3.out.lt)
  have HN4 := hide (HN3.out.below hb4 HN3.out.lt)
  have HRow4 := hide (HRow.out.below hb4 HRow.out.lt)
  have HZ4 := hide (HZ3.out.below hb4 HZ3.out.lt)
  have HB4 := hide (HB3.out.trans (hb4.mono HB3.out.size))
  have r1 := HRow4.out.cell 1
  have r2 := HRow4.out.cell 0
  have rl := HRow4.out.lt
  have q0 := HBox.out.cell 0
  have q1 := HBox.out.cell 1
  have q2 := HBox.out.cell 2
  have ql := HBox.out.lt
  have z0 := HZ4.out.cell 0
  have z1 := HZ4.out.cell 1
  have z2 := HZ4.out.cell 2
  have y0 := HZ4.out.frozen 0
  have y1 := HZ4.out.frozen 1
  have y2 := HZ4.out.frozen 2
  have lz := HZ4.out.lt
  have HNONE := hide (fun (W : World) (hrow : Row W w.heap.size 47 [.int .i64 0, .slice none 0 0, .slice none 0 0]) (hb : Below w.heap.size w W) (h : readK s = none) => kr_none (w := w) (W := putN W w.heap.size 0 [.int .i64 0, .slice none 0 0, .slice none 0 0]) h (hb.trans (below_of_grown (setN_grown _ 0 (grown_refl W (some w.heap.size))) (Nat.le_refl _) hb.size)))
  clear hw4 hb4 ho3 hn3 hrow hl3 hp3 ht3 hg3 HZ3 HB3 HO3 HN3 HRow HK k1 k2 efq
  by_cases hbad : b3 = true
  · subst hbad
    have HNO := hide (readK_no HT3.out (fun h => by cases h.1))
    go_wp2
    refine bodyPost_ret (ret_row_tmp rfl _ _ w.heap.size 47 [.int .i64 0, .slice none 0 0, .slice none 0 0] (HZ4.out.setAll [.int .i64 0, .slice none 0 0, .slice none 0 0] rfl) _ _ rfl rfl Try.underlying47 rfl (by kernel_rfl)) rfl ?_
    exact HNONE.out _ HZ4.out HB4.out HNO.out
  obtain rfl : b3 = false := by simpa using hbad
  clear hbad
  have HNE := hide (show 0 < s.size from by have h := (HPD.out.2.2 rfl).1; rw [bl_len] at h; omega)
  by_cases hend : bl rest = []
  rotate_left
  · have HNO := hide (readK_no HT3.out (fun h => hend (HL3.out.symm.trans h.2.1)))
    obtain ⟨e1, e2⟩ := ne_lists (a := rest) (b := ⟨#[]⟩) hend
    have e3 : ¬ (rest.toList = []) := fun e => e1 (e.trans (by simp))
    have e4 : (rest.toList == []) = false := by simpa using e3
    clear hend
    go_wp2
    refine bodyPost_ret (ret_row_tmp rfl _ _ w.heap.size 47 [.int .i64 0, .slice none 0 0, .slice none 0 0] (HZ4.out.setAll [.int .i64 0, .slice none 0 0, .slice none 0 0] rfl) _ _ rfl rfl Try.underlying47 rfl (by kernel_rfl)) rfl ?_
    exact HNONE.out _ HZ4.out HB4.out HNO.out
  have e5 : rest = ByteArray.empty := bl_inj hend
  have HL0 := hide (show l3 = [] from by rw [HL3.out]; exact hend)
  clear hend
  subst e5
  have HKW := hide (implKindWrite_any k _ fq w4 HO4.out HN4.out.lt (by omega))
  go_wp2_with fail
  refine HKW.out.mono ?_
  rintro e w6 ⟨rfl, hb6⟩
  have HB6 := hide (HB4.out.trans (hb6.mono HB4.out.size))
  have HZ6 := hide (HZ4.out.below hb6 HZ4.out.lt)
  have HBox6 := hide (HBox.out.below hb6 HBox.out.lt)
  have HO6 := hide (HO4.out.below hb6 HN4.out.lt)
  have HN6 := hide (HN4.out.below hb6 HN4.out.lt)
  clear r1 r2 rl q0 q1 q2 ql z0 z1 z2 y0 y1 y2 lz HKW HB4 HZ4 HO4 HN4 HBox HRow4 hb6
  have q0 := HBox6.out.cell 0
  have q1 := HBox6.out.cell 1
  have q2 := HBox6.out.cell 2
  have ql := HBox6.out.lt
  have z0 := HZ6.out.cell 0
  have z1 := HZ6.out.cell 1
  have z2 := HZ6.out.cell 2
  have y0 := HZ6.out.frozen 0
  have y1 := HZ6.out.frozen 1
  have y2 := HZ6.out.frozen 2
  have lz := HZ6.out.lt
  by_cases htx : k.ok ∧ k.text = s
  rotate_left
  · have HNO := hide (readK_no HT3.out (fun h => htx ⟨h.2.2.1, h.2.2.2⟩))
    obtain ⟨e1, e2⟩ := ne_lists (a := k.written) (b := s) (fun h => by
      have h2 := bl_inj h
      by_cases hk : k.ok
      · rw [Kind.written_yes hk] at h2
        exact htx ⟨hk, h2⟩
      · rw [Kind.written_no hk] at h2
        have h3 := HNE.out
        rw [← h2] at h3
        exact absurd h3 (by decide))
    clear htx
    go_wp2
    refine bodyPost_ret (ret_row_tmp rfl _ _ w.heap.size 47 [.int .i64 0, .slice none 0 0, .slice none 0 0] (HZ6.out.setAll [.int .i64 0, .slice none 0 0, .slice none 0 0] rfl) _ _ rfl rfl Try.underlying47 rfl (by kernel_rfl)) rfl ?_
    exact HNONE.out _ HZ6.out HB6.out HNO.out
  have HYES := hide (readK_yes HT3.out htx.1 htx.2)
  obtain ⟨e1, e2⟩ := eq_lists (a := k.written) (b := s) (by rw [Kind.written_yes htx.1, htx.2])
  clear htx
  go_wp2
  refine bodyPost_ret (ret_row_tmp rfl _ _ w.heap.size 47 [.int .i64 k.sort, .slice B1 k.names.length d1, .slice B2 k.kids.length d2] (HZ6.out.setAll [.int .i64 k.sort, .slice B1 k.names.length d1, .slice B2 k.kids.length d2] rfl) _ _ rfl rfl Try.underlying47 rfl (by kernel_rfl)) rfl ?_
  have hgr := setN_grown [.int .i64 k.sort, .slice B1 k.names.length d1, .slice B2 k.kids.length d2] 0 (grown_refl w6 (some w.heap.size))
  have hno : w.heap.size ∉ fq := HN6.out.out (by omega)
  exact kr_some HYES.out (HO6.out.grown hgr HN6.out.lt hno) ((HN6.out.grown hgr (fun b e => by injection e with e; subst e; exact hno)).mono (by omega)) (HB6.out.trans (below_of_grown hgr (Nat.le_refl _) HB6.out.size))
end Go.Proofs.Ytbjblchhenmgjaa
set_option linter.unusedVariables false
set_option linter.unusedSimpArgs false
namespace Go.Proofs.Ytbjblchhenmgjaa
open Go.ChangeShapes Go.WideShapes Go.ChangeAt Go.RowKit

theorem rowTouch {fp : List Nat} {w w2 : World} {g : Nat} {e : TypeId} {cs : List Value} (h : Row w g e cs) (ht : Touch fp w w2) (hn : g ∉ fp) : Row w2 g e cs := (ht.block _ h.lt hn).trans h

set_option maxRecDepth 100000 in
set_option maxHeartbeats 4000000 in
theorem lawFnExactKindRead_any (w : World) (s0 : ByteArray) (hs0 : s0.size ≤ maxLen) :
    Calls Try.prog 5 #[.string s0] w fun e w' => e = .returned (.bool true) ∧ Below w.heap.size w w' := by
  have B0 := hide (Below.refl w.heap.size w)
  obtain ⟨r0, hr0⟩ : ∃ r, r = kindRead s0 := ⟨_, rfl⟩
  have HR0 := hide hr0
  clear hr0
  by_cases hz0 : (s0.size : Int) ≤ 1048576
  · skip
    go_enter Try.func5, Try.ntmps5
    -- boxes of the parameters
    have hcr0 : r0.cntTop ≤ 120 := by rw [HR0.out]; exact kindRead_cnt s0
    go_wp2_with fail
    refine (specKindRead_any s0 _ (by omega)).mono ?_
    rintro e u1 ⟨vw0, fw0, rfl, yw0, zw0, hb1⟩
    have S1 := hide (show w.heap.size ≤ u1.heap.size from by have := hb1.size; simpa only [World.size_alloc, size_setRow] using this)
    have B1 := hide (B0.out.trans (hb1.mono B0.out.size))
    clear hb1
    rw [← HR0.out] at yw0
    have Ow0 := hide yw0
    have Nw0 := hide zw0
    have Lw0 := hide (show ∀ g ∈ fw0, w.heap.size ≤ g ∧ g < u1.heap.size from fun g hg => ⟨by have := (zw0.fr g hg).1; simpa only [World.size_alloc, size_setRow] using this, zw0.lt g hg⟩)
    clear yw0 zw0
    have Tw0 := Ow0.out
    obtain ⟨w0A1, w0c1, w0A2, w0c2, w0f1, w0f2, rfl, w0w0, w0o1, w0o2, w0ef⟩ := Tw0.oKind
    clear Tw0 w0o1 w0o2
    have hAPw0 : Below u1.heap.size u1 (u1.alloc (.cells #[.int .i64 r0.sort, .slice w0A1 r0.names.length w0c1, .slice w0A2 r0.kids.length w0c2] 47)) := (Below.refl _ _).alloc (Nat.le_refl _) _
    have BPw0 := hide (B1.out.trans (hAPw0.mono B1.out.size))
    have Ow0 := hide (Ow0.out.below hAPw0 Nw0.out.lt)
    have Nw0 := hide (Nw0.out.below hAPw0 Nw0.out.lt)
    have Pw0 : Row (u1.alloc (.cells #[.int .i64 r0.sort, .slice w0A1 r0.names.length w0c1, .slice w0A2 r0.kids.length w0c2] 47)) u1.heap.size 47 [.int .i64 r0.sort, .slice w0A1 r0.names.length w0c1, .slice w0A2 r0.kids.length w0c2] := Row.new u1 _ _
    clear hAPw0
    have c1_Pw0_0 := Pw0.cell 0
    have c1_Pw0_1 := Pw0.cell 1
    have c1_Pw0_2 := Pw0.cell 2
    have lt1_Pw0 := Pw0.lt
    go_wp2_with fail
    refine (implKindRead_any s0 _ (by omega)).mono ?_
    rintro e u2 ⟨vg0, fg0, rfl, yg0, zg0, hb2⟩
    clear c1_Pw0_0 c1_Pw0_1 c1_Pw0_2 lt1_Pw0
    have S2 := hide (show u1.heap.size + 1 ≤ u2.heap.size from by have := hb2.size; simpa only [World.size_alloc, size_setRow] using this)
    have B2 := hide (BPw0.out.trans (hb2.mono BPw0.out.size))
    have Pw0 := Pw0.below hb2 Pw0.lt
    have Ow0 := hide (Ow0.out.below hb2 Nw0.out.lt)
    have Nw0 := hide (Nw0.out.below hb2 Nw0.out.lt)
    clear hb2
    rw [← HR0.out] at yg0
    have Og0 := hide yg0
    have Ng0 := hide zg0
    have Lg0 := hide (show ∀ g ∈ fg0, u1.heap.size + 1 ≤ g ∧ g < u2.heap.size from fun g hg => ⟨by have := (zg0.fr g hg).1; simpa only [World.size_alloc, size_setRow] using this, zg0.lt g hg⟩)
    clear yg0 zg0
    have Tg0 := Og0.out
    obtain ⟨g0A1, g0c1, g0A2, g0c2, g0f1, g0f2, rfl, g0w0, g0o1, g0o2, g0ef⟩ := Tg0.oKind
    clear Tg0 g0o1 g0o2
    have hAPg0 : Below u2.heap.size u2 (u2.alloc (.cells #[.int .i64 r0.sort, .slice g0A1 r0.names.length g0c1, .slice g0A2 r0.kids.length g0c2] 47)) := (Below.refl _ _).alloc (Nat.le_refl _) _
    have BPg0 := hide (B2.out.trans (hAPg0.mono B2.out.size))
    have Pw0 := Pw0.below hAPg0 Pw0.lt
    have Ow0 := hide (Ow0.out.below hAPg0 Nw0.out.lt)
    have Nw0 := hide (Nw0.out.below hAPg0 Nw0.out.lt)
    have Og0 := hide (Og0.out.below hAPg0 Ng0.out.lt)
    have Ng0 := hide (Ng0.out.below hAPg0 Ng0.out.lt)
    have Pg0 : Row (u2.alloc (.cells #[.int .i64 r0.sort, .slice g0A1 r0.names.length g0c1, .slice g0A2 r0.kids.length g0c2] 47)) u2.heap.size 47 [.int .i64 r0.sort, .slice g0A1 r0.names.length g0c1, .slice g0A2 r0.kids.length g0c2] := Row.new u2 _ _
    clear hAPg0
    have c2_Pw0_0 := Pw0.cell 0
    have c2_Pw0_1 := Pw0.cell 1
    have c2_Pw0_2 := Pw0.cell 2
    have c2_Pg0_0 := Pg0.cell 0
    have c2_Pg0_1 := Pg0.cell 1
    have c2_Pg0_2 := Pg0.cell 2
    have lt2_Pw0 := Pw0.lt
    have lt2_Pg0 := Pg0.lt
    go_wp2_with fail
    refine (eqKind_any r0 _ _ _ _ _ Og0.out Ow0.out Ng0.out.lt Nw0.out.lt).mono ?_
    rintro e u3 ⟨rfl, hb3⟩
    clear c2_Pw0_0 c2_Pw0_1 c2_Pw0_2 c2_Pg0_0 c2_Pg0_1 c2_Pg0_2 lt2_Pw0 lt2_Pg0
    have S3 := hide (show u2.heap.size + 1 ≤ u3.heap.size from by have := hb3.size; simpa only [World.size_alloc, size_setRow] using this)
    have B3 := hide (BPg0.out.trans (hb3.mono BPg0.out.size))
    have Pw0 := Pw0.below hb3 Pw0.lt
    have Pg0 := Pg0.below hb3 Pg0.lt
    have Ow0 := hide (Ow0.out.below hb3 Nw0.out.lt)
    have Nw0 := hide (Nw0.out.below hb3 Nw0.out.lt)
    have Og0 := hide (Og0.out.below hb3 Ng0.out.lt)
    have Ng0 := hide (Ng0.out.below hb3 Ng0.out.lt)
    clear hb3
    have c3_Pw0_0 := Pw0.cell 0
    have c3_Pw0_1 := Pw0.cell 1
    have c3_Pw0_2 := Pw0.cell 2
    have c3_Pg0_0 := Pg0.cell 0
    have c3_Pg0_1 := Pg0.cell 1
    have c3_Pg0_2 := Pg0.cell 2
    have lt3_Pw0 := Pw0.lt
    have lt3_Pg0 := Pg0.lt
    go_wp2_with fail
    refine (markKind_any r0 _ fg0 _ _ (1) _ (by omega) Og0.out Ng0.out (by omega)).mono ?_
    rintro e u4 ⟨lg0, rfl, og0, kg0, ht4⟩
    clear c3_Pw0_0 c3_Pw0_1 c3_Pw0_2 c3_Pg0_0 c3_Pg0_1 c3_Pg0_2 lt3_Pw0 lt3_Pg0
    have S4 := hide (show u3.heap.size ≤ u4.heap.size from ht4.size)
    have B4 := hide (B3.out.trans (ht4.to_below B3.out.size (fun g hg => by have := Lg0.out g hg; have := S1.out; have := S2.out; have := S3.out; omega)))
    have Pw0 := rowTouch Pw0 ht4 (fun hg => by have := Lg0.out _ hg; have := S1.out; have := S2.out; have := S3.out; omega)
    have Pg0 := rowTouch Pg0 ht4 (fun hg => by have := Lg0.out _ hg; have := S1.out; have := S2.out; have := S3.out; omega)
    have Ow0 := hide (Ow0.out.touch ht4 Nw0.out.lt (fun g hg hg2 => by have := Lw0.out g hg; have := Lg0.out g hg2; have := S1.out; have := S2.out; have := S3.out; omega))
    have Nw0 := hide (ht4.new Nw0.out)
    have Og0 := hide og0
    have Ng0 := hide (ht4.new Ng0.out)
    have Kg0 := hide kg0
    clear og0 kg0 ht4
    have c4_Pw0_0 := Pw0.cell 0
    have c4_Pw0_1 := Pw0.cell 1
    have c4_Pw0_2 := Pw0.cell 2
    have c4_Pg0_0 := Pg0.cell 0
    have c4_Pg0_1 := Pg0.cell 1
    have c4_Pg0_2 := Pg0.cell 2
    have lt4_Pw0 := Pw0.lt
    have lt4_Pg0 := Pg0.lt
    go_wp2_with fail
    refine (heldKind_any lg0 _ fg0 _ (1) (1 + r0.cntTop) _ (by omega) Og0.out Ng0.out.lt Kg0.out (by omega)).mono ?_
    rintro e u5 ⟨rfl, hb5⟩
    clear c4_Pw0_0 c4_Pw0_1 c4_Pw0_2 c4_Pg0_0 c4_Pg0_1 c4_Pg0_2 lt4_Pw0 lt4_Pg0
    have S5 := hide (show u4.heap.size ≤ u5.heap.size from by have := hb5.size; simpa only [World.size_alloc, size_setRow] using this)
    have B5 := hide (B4.out.trans (hb5.mono B4.out.size))
    have Pw0 := Pw0.below hb5 Pw0.lt
    have Pg0 := Pg0.below hb5 Pg0.lt
    have Ow0 := hide (Ow0.out.below hb5 Nw0.out.lt)
    have Nw0 := hide (Nw0.out.below hb5 Nw0.out.lt)
    have Og0 := hide (Og0.out.below hb5 Ng0.out.lt)
    have Ng0 := hide (Ng0.out.below hb5 Ng0.out.lt)
    clear hb5
    have c5_Pw0_0 := Pw0.cell 0
    have c5_Pw0_1 := Pw0.cell 1
    have c5_Pw0_2 := Pw0.cell 2
    have c5_Pg0_0 := Pg0.cell 0
    have c5_Pg0_1 := Pg0.cell 1
    have c5_Pg0_2 := Pg0.cell 2
    have lt5_Pw0 := Pw0.lt
    have lt5_Pg0 := Pg0.lt
    go_wp2_with fail
    refine (implKindRead_any s0 _ (by omega)).mono ?_
    rintro e u6 ⟨vh0, fh0, rfl, yh0, zh0, hb6⟩
    clear c5_Pw0_0 c5_Pw0_1 c5_Pw0_2 c5_Pg0_0 c5_Pg0_1 c5_Pg0_2 lt5_Pw0 lt5_Pg0
    have S6 := hide (show u5.heap.size ≤ u6.heap.size from by have := hb6.size; simpa only [World.size_alloc, size_setRow] using this)
    have B6 := hide (B5.out.trans (hb6.mono B5.out.size))
    have Pw0 := Pw0.below hb6 Pw0.lt
    have Pg0 := Pg0.below hb6 Pg0.lt
    have Ow0 := hide (Ow0.out.below hb6 Nw0.out.lt)
    have Nw0 := hide (Nw0.out.below hb6 Nw0.out.lt)
    have Og0 := hide (Og0.out.below hb6 Ng0.out.lt)
    have Ng0 := hide (Ng0.out.below hb6 Ng0.out.lt)
    clear hb6
    rw [← HR0.out] at yh0
    have Oh0 := hide yh0
    have Nh0 := hide zh0
    have Lh0 := hide (show ∀ g ∈ fh0, u5.heap.size ≤ g ∧ g < u6.heap.size from fun g hg => ⟨by have := (zh0.fr g hg).1; simpa only [World.size_alloc, size_setRow] using this, zh0.lt g hg⟩)
    clear yh0 zh0
    have Th0 := Oh0.out
    obtain ⟨h0A1, h0c1, h0A2, h0c2, h0f1, h0f2, rfl, h0w0, h0o1, h0o2, h0ef⟩ := Th0.oKind
    clear Th0 h0o1 h0o2
    have hAPh0 : Below u6.heap.size u6 (u6.alloc (.cells #[.int .i64 r0.sort, .slice h0A1 r0.names.length h0c1, .slice h0A2 r0.kids.length h0c2] 47)) := (Below.refl _ _).alloc (Nat.le_refl _) _
    have BPh0 := hide (B6.out.trans (hAPh0.mono B6.out.size))
    have Pw0 := Pw0.below hAPh0 Pw0.lt
    have Pg0 := Pg0.below hAPh0 Pg0.lt
    have Ow0 := hide (Ow0.out.below hAPh0 Nw0.out.lt)
    have Nw0 := hide (Nw0.out.below hAPh0 Nw0.out.lt)
    have Og0 := hide (Og0.out.below hAPh0 Ng0.out.lt)
    have Ng0 := hide (Ng0.out.below hAPh0 Ng0.out.lt)
    have Oh0 := hide (Oh0.out.below hAPh0 Nh0.out.lt)
    have Nh0 := hide (Nh0.out.below hAPh0 Nh0.out.lt)
    have Ph0 : Row (u6.alloc (.cells #[.int .i64 r0.sort, .slice h0A1 r0.names.length h0c1, .slice h0A2 r0.kids.length h0c2] 47)) u6.heap.size 47 [.int .i64 r0.sort, .slice h0A1 r0.names.length h0c1, .slice h0A2 r0.kids.length h0c2] := Row.new u6 _ _
    clear hAPh0
    have c6_Pw0_0 := Pw0.cell 0
    have c6_Pw0_1 := Pw0.cell 1
    have c6_Pw0_2 := Pw0.cell 2
    have c6_Pg0_0 := Pg0.cell 0
    have c6_Pg0_1 := Pg0.cell 1
    have c6_Pg0_2 := Pg0.cell 2
    have c6_Ph0_0 := Ph0.cell 0
    have c6_Ph0_1 := Ph0.cell 1
    have c6_Ph0_2 := Ph0.cell 2
    have lt6_Pw0 := Pw0.lt
    have lt6_Pg0 := Pg0.lt
    have lt6_Ph0 := Ph0.lt
    go_wp2_with fail
    refine (eqKind_any r0 _ _ _ _ _ Oh0.out Ow0.out Nh0.out.lt Nw0.out.lt).mono ?_
    rintro e u7 ⟨rfl, hb7⟩
    clear c6_Pw0_0 c6_Pw0_1 c6_Pw0_2 c6_Pg0_0 c6_Pg0_1 c6_Pg0_2 c6_Ph0_0 c6_Ph0_1 c6_Ph0_2 lt6_Pw0 lt6_Pg0 lt6_Ph0
    have S7 := hide (show u6.heap.size + 1 ≤ u7.heap.size from by have := hb7.size; simpa only [World.size_alloc, size_setRow] using this)
    have B7 := hide (BPh0.out.trans (hb7.mono BPh0.out.size))
    have Pw0 := Pw0.below hb7 Pw0.lt
    have Pg0 := Pg0.below hb7 Pg0.lt
    have Ph0 := Ph0.below hb7 Ph0.lt
    have Ow0 := hide (Ow0.out.below hb7 Nw0.out.lt)
    have Nw0 := hide (Nw0.out.below hb7 Nw0.out.lt)
    have Og0 := hide (Og0.out.below hb7 Ng0.out.lt)
    have Ng0 := hide (Ng0.out.below hb7 Ng0.out.lt)
    have Oh0 := hide (Oh0.out.below hb7 Nh0.out.lt)
    have Nh0 := hide (Nh0.out.below hb7 Nh0.out.lt)
    clear hb7
    have c7_Pw0_0 := Pw0.cell 0
    have c7_Pw0_1 := Pw0.cell 1
    have c7_Pw0_2 := Pw0.cell 2
    have c7_Pg0_0 := Pg0.cell 0
    have c7_Pg0_1 := Pg0.cell 1
    have c7_Pg0_2 := Pg0.cell 2
    have c7_Ph0_0 := Ph0.cell 0
    have c7_Ph0_1 := Ph0.cell 1
    have c7_Ph0_2 := Ph0.cell 2
    have lt7_Pw0 := Pw0.lt
    have lt7_Pg0 := Pg0.lt
    have lt7_Ph0 := Ph0.lt
    go_wp2_with fail
    refine (heldKind_any lg0 _ fg0 _ (1) (1 + r0.cntTop) _ (by omega) Og0.out Ng0.out.lt Kg0.out (by omega)).mono ?_
    rintro e u8 ⟨rfl, hb8⟩
    clear c7_Pw0_0 c7_Pw0_1 c7_Pw0_2 c7_Pg0_0 c7_Pg0_1 c7_Pg0_2 c7_Ph0_0 c7_Ph0_1 c7_Ph0_2 lt7_Pw0 lt7_Pg0 lt7_Ph0
    have S8 := hide (show u7.heap.size ≤ u8.heap.size from by have := hb8.size; simpa only [World.size_alloc, size_setRow] using this)
    have B8 := hide (B7.out.trans (hb8.mono B7.out.size))
    have Pw0 := Pw0.below hb8 Pw0.lt
    have Pg0 := Pg0.below hb8 Pg0.lt
    have Ph0 := Ph0.below hb8 Ph0.lt
    have Ow0 := hide (Ow0.out.below hb8 Nw0.out.lt)
    have Nw0 := hide (Nw0.out.below hb8 Nw0.out.lt)
    have Og0 := hide (Og0.out.below hb8 Ng0.out.lt)
    have Ng0 := hide (Ng0.out.below hb8 Ng0.out.lt)
    have Oh0 := hide (Oh0.out.below hb8 Nh0.out.lt)
    have Nh0 := hide (Nh0.out.below hb8 Nh0.out.lt)
    clear hb8
    have c8_Pw0_0 := Pw0.cell 0
    have c8_Pw0_1 := Pw0.cell 1
    have c8_Pw0_2 := Pw0.cell 2
    have c8_Pg0_0 := Pg0.cell 0
    have c8_Pg0_1 := Pg0.cell 1
    have c8_Pg0_2 := Pg0.cell 2
    have c8_Ph0_0 := Ph0.cell 0
    have c8_Ph0_1 := Ph0.cell 1
    have c8_Ph0_2 := Ph0.cell 2
    have lt8_Pw0 := Pw0.lt
    have lt8_Pg0 := Pg0.lt
    have lt8_Ph0 := Ph0.lt
    go_wp2_with fail
    go_ret
    exact ⟨rfl, B8.out⟩
  · have hz0' : (1048576 : Int) < s0.size := by omega
    go_enter Try.func5, Try.ntmps5
    go_wp2
    go_ret
    exact ⟨rfl, B0.out⟩
end Go.Proofs.Ytbjblchhenmgjaa
