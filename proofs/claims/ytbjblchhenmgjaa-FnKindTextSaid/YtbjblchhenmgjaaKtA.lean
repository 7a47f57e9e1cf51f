/-
  The text of a schema: the reference's l2Text. The text of a schema: the program's write, and the law on KindWrite's two functions. KindWrite: the program's and the reference's answer alike. KindRead of the reference. The draws of the reference: a text of a schema, one in three bent. Two good schemas with the same text are the same: plain. Reading schemas from texts: the program's kids: a form's parts, plain laws. Reading schemas from texts: the program's kids and kind. Reading schemas from texts: the program's kind. Kind: what the laws' marks write, and that they are found again. The laws' marks at a Kind by value: only its slices are marked. KindRead of the program; how much the marks count at what is read. The walk of the comparison of schemas: on two copies of one schema it says true. FnKindText returns true for every input: every schema has just one text, and it is read back as that schema. No condition.
-/
import Derived.Test.YtbjblchhenmgjaaKindText
import Derived.Deep.RegionHeld3
import Derived.Test.YtbjblchhenmgjaaKindOk2
import Derived.Test.YtbjblchhenmgjaaRkK
import Derived.Test.YtbjblchhenmgjaaKtB
import Derived.Test.YtbjblchhenmgjaaRk
import Derived.Test.YtbjblchhenmgjaaRkJ
import Derived.Test.YtbjblchhenmgjaaRkI0
import Derived.Deep.RegionWith
import Derived.Deep.DeepCutAuto
import Derived.Test.YtbjblchhenmgjaaDKind
import Derived.Test.YtbjblchhenmgjaaMark
import Derived.Test.YtbjblchhenmgjaaRkI
import Derived.Test.YtbjblchhenmgjaaHKind
import Derived.Deep.CutRange
import Derived.BigQuiet
set_option linter.unusedVariables false
set_option linter.unusedSimpArgs false
namespace Go.Proofs.Ytbjblchhenmgjaa
open Go.ChangeShapes Go.WideShapes Go.ChangeAt Go.RowKit

def TextKind (k : Kind) : Prop := ∀ (us : List Value) (fp : List Nat) (lv : Nat) (w : World), OwC w k.cells us fp → Lt fp w.heap.size → k.bulk ≤ 1048576 → k.good lv → k.parts ≤ 40 →
  Calls Try.prog 95 #[.agg us.toArray] w fun e w' => e = .returned (.string k.text) ∧ Below w.heap.size w w'

theorem Kind.text1_at (l : List Kind) (h : 0 < l.length) : Kind.text1 l = l[0].text := by
  cases l with
  | nil => simp at h
  | cons x r => simp [Kind.text1]
theorem Kind.partsS_at (l : List Kind) (j : Nat) (h : j < l.length) : l[j].parts ≤ Kind.partsS l := by
  have h1 := Kind.partsS_snoc l j h
  have h2 := Kind.partsS_le l (j + 1)
  omega
theorem Kind.bulkS_at (l : List Kind) (j : Nat) (h : j < l.length) : l[j].bulk ≤ Kind.bulkS l := by
  have h1 := Kind.bulkS_snoc l j h
  have h2 := Kind.bulkS_le l (j + 1)
  omega

theorem Kind.textS_take (k : Kind) (lv : Nat) (hg : Kind.goodS k.kids lv) (hn : NamesOk k.names) (hl : k.names.length = k.kids.length) (j : Nat) (b : Bool) :
    (Kind.textS b (k.names.take j) (k.kids.take j)).size ≤ 14 * Kind.partsS k.kids :=
  Nat.le_trans (Kind.textS_size _ _ b (by simp [hl]) (fun i hi => by rw [List.getElem_take]; exact (hn i (by simp at hi; omega)).1.2.1) (fun x hx => Kind.text_size x _ (Kind.goodS_mem _ _ hg x (List.mem_of_mem_take hx))))
    (Nat.mul_le_mul_left _ (Kind.partsS_le _ _))

set_option maxRecDepth 100000 in
set_option maxHeartbeats 1000000 in
theorem textKind_of (k : Kind) (ih : ∀ x ∈ k.kids, TextKind x) : TextKind k := by
  intro us fp lv w ho hf hbk hg hp
  obtain ⟨A1, c1, A2, c2, f1, f2, rfl, w0, o1, o2, rfl⟩ := ho.oKind
  clear ho
  have hw1 : Below w.heap.size w (w.alloc (.cells #[.int .i64 k.sort, .slice A1 k.names.length c1, .slice A2 k.kids.length c2] 47)) := (Below.refl _ _).alloc (Nat.le_refl _) _
  have R1 : Row (w.alloc (.cells #[.int .i64 k.sort, .slice A1 k.names.length c1, .slice A2 k.kids.length c2] 47)) w.heap.size 47 [.int .i64 k.sort, .slice A1 k.names.length c1, .slice A2 k.kids.length c2] := Row.new w _ _
  have hgk := (Kind.good_iff _ _).1 hg
  have hpk := k.parts_eq
  have hkb := k.bulk_eq; unfold bulkStrs at hkb
  have hsz := Kind.text_size k lv hg
  have HT := hide k.text_eq
  have s1 : (ByteArray.mk #[91]).size = 1 := rfl
  have s2 : (ByteArray.mk #[93]).size = 1 := rfl
  have s3 : (ByteArray.mk #[63]).size = 1 := rfl
  have s4 : (ByteArray.mk #[123]).size = 1 := rfl
  have s5 : (ByteArray.mk #[125]).size = 1 := rfl
  have s6 : (ByteArray.mk #[44]).size = 1 := rfl
  have s7 : (ByteArray.mk #[58]).size = 1 := rfl
  rcases k.shape_iff.1 hgk.2.1 with ⟨h1, h2, h3⟩ | ⟨h1, h2, h3⟩ | ⟨h1, h2, h3⟩
  · have HR := hide hw1
    clear o1 o2 hw1 R1 ih hg hgk h2 h3 hkb
    generalize k.sort = s at *
    rcases h1 with rfl | rfl | rfl
    all_goals
      go_enter Try.func95, Try.ntmps95
      go_wp2
      go_ret
      exact ⟨ret_str (by rw [HT.out]; simp), HR.out⟩
  · have hlt : 0 < k.kids.length := by omega
    obtain ⟨g, off, vs, fi, rfl, hgm, hfi, hvl, hcs, hov⟩ := (o2.below hw1 hf.right).elem Kind.cells_len hlt
    have hov' := hide hov
    obtain ⟨B1, d1, B2, d2, q1, q2, rfl, v0, x1, x2, rfl⟩ := hov.oKind
    have p0 := hcs 0 _ rfl
    have p1 := hcs 1 _ rfl
    have p2 := hcs 2 _ rfl
    simp only [Nat.zero_mul, Nat.add_zero] at p0 p1 p2
    have hfq := hide (((hf.right).up hw1).sub hfi)
    have HC := hide (ih _ (List.getElem_mem hlt))
    have HTK := hide (Kind.text1_at k.kids hlt)
    have hgx := hide (Kind.goodS_mem _ _ hgk.2.2 _ (List.getElem_mem hlt))
    have hpx := Kind.partsS_at k.kids 0 hlt
    have hbx := Kind.bulkS_at k.kids 0 hlt
    have hsx := Kind.text_size _ _ hgx.out
    have HR := hide hw1
    have hkl : k.kids.length ≤ 1048576 := by omega
    clear x1 x2 hov hcs o1 o2 hw1 R1 ih hg hgk h2 h3
    generalize k.kids[0] = x at *
    generalize k.sort = s at *
    rcases h1 with rfl | rfl
    · go_enter Try.func95, Try.ntmps95
      go_wp2_with fail
      refine (HC.out _ _ (lv + 1) _ hov'.out hfq.out (by omega) hgx.out (by omega)).mono ?_
      rintro e w2 ⟨rfl, hb2⟩
      go_wp2
      go_ret
      exact ⟨ret_str (by rw [HT.out]; simp [HTK.out]), HR.out.trans (hb2.mono HR.out.size)⟩
    · go_enter Try.func95, Try.ntmps95
      go_wp2_with fail
      refine (HC.out _ _ (lv + 1) _ hov'.out hfq.out (by omega) hgx.out (by omega)).mono ?_
      rintro e w2 ⟨rfl, hb2⟩
      go_wp2
      go_ret
      exact ⟨ret_str (by rw [HT.out]; simp [HTK.out]), HR.out.trans (hb2.mono HR.out.size)⟩
  · have hnl : k.names.length ≤ 1048576 := by omega
    have hkl : k.kids.length ≤ 1048576 := by omega
    have hall := hide (fun j => Kind.textS_take k (lv + 1) hgk.2.2 h2 h3 j true)
    have HN := hide h2
    have HL := hide h3
    have HI := hide ih
    have HG := hide hgk.2.2
    have HO1 := hide o1
    have HO2 := hide o2
    have HF1 := hide hf.left
    have HF2 := hide hf.right
    have c10 := R1.cell 1
    have c20 := R1.cell 2
    have z0 := R1.lt
    have HR := hide hw1
    have HRW := hide R1
    have hpp : Kind.partsS k.kids ≤ 39 := by omega
    have hbb : Kind.bulkS k.kids ≤ 1048576 := by omega
    have hend := hide (show k.text = ⟨#[123]⟩ ++ Kind.textS true k.names k.kids ++ ⟨#[125]⟩ by rw [HT.out, h1]; simp)
    clear o1 o2 hw1 ih hg hgk h2 h3 hsz hpk hkb hp hbk hf HT R1
    generalize k.sort = s at *
    subst h1
    go_enter Try.func95, Try.ntmps95
    go_wp2
    go_loopw [3, 4] (fun o i wr => (∃ j : Nat, j ≤ k.kids.length ∧ i = .int .i64 j ∧ o = .string (Kind.textS true (k.names.take j) (k.kids.take j)) ∧ Row wr w.heap.size 47 [.int .i64 5, .slice A1 k.names.length c1, .slice A2 k.kids.length c2]) ∧ Below w.heap.size w wr) (fun _ i _ => k.kids.length - (intOf i).toNat)
    case atStart => exact ⟨⟨0, Nat.zero_le _, rfl, by simp [Kind.textS]; rfl, HRW.out⟩, HR.out⟩
    case round =>
      obtain ⟨⟨j, hj, rfl, rfl, hrow⟩, hbel⟩ := hrel
      have HB := hide hbel
      have HW := hide hrow
      have e1 := hrow.cell 1
      have e2 := hrow.cell 2
      have e0 := hrow.lt
      clear hbel hrow c10 c20 z0
      by_cases hlt : j < k.kids.length
      · have hln : j < k.names.length := by have := HL.out; omega
        obtain ⟨g, off, vs, fi, rfl, hgm, hfi, hvl, hcs, hov⟩ := (HO2.out.below HB.out HF2.out).elem Kind.cells_len hlt
        obtain ⟨ga, oa, us, fa, rfl, hga, hfa, hul, hca, hoa⟩ := (HO1.out.below HB.out HF1.out).elem strC_len hln
        have hov' := hide hov
        obtain ⟨B1, d1, B2, d2, q1, q2, rfl, v0, x1, x2, rfl⟩ := hov.oKind
        obtain ⟨rfl, hs, rfl⟩ := hoa.str
        have p0 := hcs 0 _ rfl
        have p1 := hcs 1 _ rfl
        have p2 := hcs 2 _ rfl
        have pa := hca 0 _ rfl
        simp only [Nat.add_zero, Nat.mul_one] at p0 pa
        have hgl := (HF2.out.up HB.out) g hgm
        have hal := (HF1.out.up HB.out) ga hga
        have hfq := hide (((HF2.out).up HB.out).sub hfi)
        have HC := hide (HI.out _ (List.getElem_mem hlt))
        have hgx := hide (Kind.goodS_mem _ _ HG.out _ (List.getElem_mem hlt))
        have hpx := Kind.partsS_at k.kids j hlt
        have hbx := Kind.bulkS_at k.kids j hlt
        have hsx := Kind.text_size _ _ hgx.out
        have hnx : k.names[j].size ≤ 8 := (HN.out j hln).1.2.1
        have hsn := hide (Kind.textS_snoc k.names k.kids true j hln hlt)
        have hcur := hall.out j
        clear x1 x2 hov hcs hca hoa
        generalize k.kids[j] = x at *
        generalize k.names[j] = nm at *
        generalize hcu : Kind.textS true (k.names.take j) (k.kids.take j) = cur at *
        by_cases hj0 : (0 : Int) < (j : Int)
        · have hce := hide (show (true && j == 0) = false by simp; omega)
          have n1 : ¬ (9223372036854775807 < cur.size + 1 + nm.size) := by omega
          have n2 : ¬ (9223372036854775807 < cur.size + 1 + nm.size + 1) := by omega
          have n3 : ¬ (9223372036854775807 < cur.size + 1 + nm.size + 1 + x.text.size) := by omega
          go_wp2
          go_region_held3 (fun u => u.cell? ⟨w.heap.size, 1, none⟩ = some (.slice (some ⟨ga, oa, none⟩) k.names.length c1) ∧ u.cell? ⟨w.heap.size, 2, none⟩ = some (.slice (some ⟨g, off, none⟩) k.kids.length c2) ∧ u.cell? ⟨ga, oa + j, none⟩ = some (.string nm) ∧
              u.cell? ⟨g, off + j * 3, none⟩ = some (.int .i64 x.sort) ∧ u.cell? ⟨g, off + j * 3 + 1, none⟩ = some (.slice B1 x.names.length d1) ∧ u.cell? ⟨g, off + j * 3 + 2, none⟩ = some (.slice B2 x.kids.length d2))
            (first | go_keep | exact ⟨(hb2.cell (p := ⟨w.heap.size, 1, none⟩) e0).trans e1, (hb2.cell (p := ⟨w.heap.size, 2, none⟩) e0).trans e2, (hb2.cell (p := ⟨ga, oa + j, none⟩) hal).trans pa, (hb2.cell (p := ⟨g, off + j * 3, none⟩) hgl).trans p0, (hb2.cell (p := ⟨g, off + j * 3 + 1, none⟩) hgl).trans p1, (hb2.cell (p := ⟨g, off + j * 3 + 2, none⟩) hgl).trans p2⟩)
            (first | (go_at_call 95; refine (HC.out _ _ (lv + 1) _ (hov'.out.drewN 1) hfq.out (by omega) hgx.out (by omega)).mono ?_; rintro e w2 ⟨rfl, hb2⟩))
          have hz2 : Below wr.heap.size wr w2 := ⟨hb2.os, hb2.tape, hb2.output, hb2.size, hb2.block⟩
          have hw2 := HW.out.below hz2 HW.out.lt
          have HH := hide (HB.out.trans (hz2.mono HB.out.size))
          have HQ := hide hw2
          clear hb2 hz2 hw2
          go_wp2
          go_roundw
          case rel => exact ⟨⟨j + 1, by omega, by go_num, by rw [hsn.out, hce.out]; simp [comma, ba_assoc, ba_nil_app], HQ.out⟩, HH.out⟩
          case measure => simp [intOf]; omega
        · have hce := hide (show (true && j == 0) = true by simp; omega)
          have n1 : ¬ (9223372036854775807 < cur.size + nm.size) := by omega
          have n2 : ¬ (9223372036854775807 < cur.size + nm.size + 1) := by omega
          have n3 : ¬ (9223372036854775807 < cur.size + nm.size + 1 + x.text.size) := by omega
          go_wp2
          go_region_held3 (fun u => u.cell? ⟨w.heap.size, 1, none⟩ = some (.slice (some ⟨ga, oa, none⟩) k.names.length c1) ∧ u.cell? ⟨w.heap.size, 2, none⟩ = some (.slice (some ⟨g, off, none⟩) k.kids.length c2) ∧ u.cell? ⟨ga, oa + j, none⟩ = some (.string nm) ∧
              u.cell? ⟨g, off + j * 3, none⟩ = some (.int .i64 x.sort) ∧ u.cell? ⟨g, off + j * 3 + 1, none⟩ = some (.slice B1 x.names.length d1) ∧ u.cell? ⟨g, off + j * 3 + 2, none⟩ = some (.slice B2 x.kids.length d2))
            (first | go_keep | exact ⟨(hb2.cell (p := ⟨w.heap.size, 1, none⟩) e0).trans e1, (hb2.cell (p := ⟨w.heap.size, 2, none⟩) e0).trans e2, (hb2.cell (p := ⟨ga, oa + j, none⟩) hal).trans pa, (hb2.cell (p := ⟨g, off + j * 3, none⟩) hgl).trans p0, (hb2.cell (p := ⟨g, off + j * 3 + 1, none⟩) hgl).trans p1, (hb2.cell (p := ⟨g, off + j * 3 + 2, none⟩) hgl).trans p2⟩)
            (first | (go_at_call 95; refine (HC.out _ _ (lv + 1) _ (hov'.out.drewN 1) hfq.out (by omega) hgx.out (by omega)).mono ?_; rintro e w2 ⟨rfl, hb2⟩))
          have hz2 : Below wr.heap.size wr w2 := ⟨hb2.os, hb2.tape, hb2.output, hb2.size, hb2.block⟩
          have hw2 := HW.out.below hz2 HW.out.lt
          have HH := hide (HB.out.trans (hz2.mono HB.out.size))
          have HQ := hide hw2
          clear hb2 hz2 hw2
          go_wp2
          go_roundw
          case rel => exact ⟨⟨j + 1, by omega, by go_num, by rw [hsn.out, hce.out]; simp [comma, ba_assoc, ba_nil_app], HQ.out⟩, HH.out⟩
          case measure => simp [intOf]; omega
      · obtain rfl : j = k.kids.length := by omega
        have e3 : k.kids.take k.kids.length = k.kids := List.take_length
        have e4 : k.names.take k.kids.length = k.names := by rw [← HL.out]; exact List.take_length
        rw [e3, e4]
        have hcur := hall.out k.kids.length
        rw [e3, e4] at hcur
        clear e3 e4
        generalize Kind.textS true k.names k.kids = cur at *
        go_wp2
        go_ret
        exact ⟨ret_str (by rw [hend.out]), HB.out⟩
theorem textKind_any (k : Kind) : TextKind k := Kind.ind textKind_of k

noncomputable def Kind.written (k : Kind) : ByteArray := if tb (k.fits 1 0) = true then k.text else .empty
theorem Kind.written_yes {k : Kind} (h : k.fits 1 0) : k.written = k.text := by unfold Kind.written; rw [tb_true h, if_pos rfl]
theorem Kind.written_no {k : Kind} (h : ¬ k.fits 1 0) : k.written = .empty := by unfold Kind.written; rw [tb_false h]; rfl
end Go.Proofs.Ytbjblchhenmgjaa
set_option linter.unusedVariables false
set_option linter.unusedSimpArgs false
namespace Go.Proofs.Ytbjblchhenmgjaa
open Go.ChangeShapes Go.WideShapes Go.ChangeAt Go.RowKit

def WriteKind (k : Kind) : Prop := ∀ (us : List Value) (fp : List Nat) (lv b : Nat) (s : ByteArray) (w : World), OwC w k.cells us fp → Lt fp b → k.bulk ≤ 1048576 → k.good lv → k.parts ≤ 40 → Bld w b s → s.size + k.text.size ≤ 1048576 →
  Calls Try.prog 188 #[.agg us.toArray, .pointer (some ⟨b, 0, none⟩)] w fun e w' => e = .returned (.tuple #[]) ∧ Bld w' b (s ++ k.text) ∧ BK b w w'

theorem Kind.textS_take_le : ∀ (ns : List ByteArray) (ks : List Kind) (b : Bool) (j : Nat), (Kind.textS b (ns.take j) (ks.take j)).size ≤ (Kind.textS b ns ks).size
  | n :: ns, k :: ks, b, 0 => by simp [Kind.textS]
  | n :: ns, k :: ks, b, j + 1 => by
    have := Kind.textS_take_le ns ks false j
    simp only [List.take_succ_cons, Kind.textS, ByteArray.size_append]
    omega
  | [], ks, b, j => by simp [Kind.textS]
  | _ :: _, [], b, j => by simp [Kind.textS]

set_option maxRecDepth 100000 in
set_option maxHeartbeats 1000000 in
theorem writeKind_of (k : Kind) (ih : ∀ x ∈ k.kids, WriteKind x) : WriteKind k := by
  intro us fp lv b s w ho hf hbk hg hp hbld hsize
  obtain ⟨A1, c1, A2, c2, f1, f2, rfl, w0, o1, o2, rfl⟩ := ho.oKind
  clear ho
  have hbw := hbld.lt
  have RK0 : Row (w.alloc (.cells #[.int .i64 k.sort, .slice A1 k.names.length c1, .slice A2 k.kids.length c2] 47)) w.heap.size 47 [.int .i64 k.sort, .slice A1 k.names.length c1, .slice A2 k.kids.length c2] := Row.new w _ _
  have HK0 := hide ((BK.refl b w).alloc (Nat.le_of_lt hbw) (.cells #[.int .i64 k.sort, .slice A1 k.names.length c1, .slice A2 k.kids.length c2] 47))
  have HSB0 := hide (hbld.alloc (.cells #[.int .i64 k.sort, .slice A1 k.names.length c1, .slice A2 k.kids.length c2] 47))
  have hgb : w.heap.size ≠ b := by omega
  have hgk := (Kind.good_iff _ _).1 hg
  have hpk := k.parts_eq
  have hkb := k.bulk_eq; unfold bulkStrs at hkb
  have HT := hide k.text_eq
  have s1 : (ByteArray.mk #[91]).size = 1 := rfl
  have s2 : (ByteArray.mk #[93]).size = 1 := rfl
  have s3 : (ByteArray.mk #[63]).size = 1 := rfl
  have s4 : (ByteArray.mk #[123]).size = 1 := rfl
  have s5 : (ByteArray.mk #[125]).size = 1 := rfl
  have s6 : (ByteArray.mk #[44]).size = 1 := rfl
  have s7 : (ByteArray.mk #[58]).size = 1 := rfl
  have hkl : k.kids.length ≤ 1048576 := by omega
  have hnl : k.names.length ≤ 1048576 := by omega
  clear hbld
  rcases k.shape_iff.1 hgk.2.1 with ⟨h1, h2, h3⟩ | ⟨h1, h2, h3⟩ | ⟨h1, h2, h3⟩
  · clear o1 o2 ih hg hgk h2 h3 hkb RK0
    generalize k.sort = q at *
    rcases h1 with rfl | rfl | rfl
    all_goals
      have HE := hide HT.out
      simp only [if_true, if_false, reduceIte, Int.reduceEq] at HE
      go_enter Try.func188, Try.ntmps188
      go_wp2_with fail
      refine (writeString_b b s _ _ HSB0.out (by rw [HE.out] at hsize; omega)).mono ?_
      rintro e w2 ⟨rfl, hb2, hk2⟩
      have HB2 := hide hb2
      have HK2 := hide (HK0.out.trans hk2)
      go_wp2
      go_end0
      exact ⟨rfl, by rw [HE.out]; exact HB2.out, HK2.out⟩
  · have hlt : 0 < k.kids.length := by omega
    obtain ⟨g, off, vs, fi, rfl, hgm, hfi, hvl, hcs, hov⟩ := o2.elem Kind.cells_len hlt
    have hov' := hide hov
    obtain ⟨B1, d1, B2, d2, q1, q2, rfl, v0, x1, x2, rfl⟩ := hov.oKind
    have p0 := hcs 0 _ rfl
    have p1 := hcs 1 _ rfl
    have p2 := hcs 2 _ rfl
    simp only [Nat.zero_mul, Nat.add_zero] at p0 p1 p2
    have hgl := hf.right g hgm
    have hfq := hide ((hf.right).sub hfi)
    have HC := hide (ih _ (List.getElem_mem hlt))
    have HTK := hide (Kind.text1_at k.kids hlt)
    have hgx := hide (Kind.goodS_mem _ _ hgk.2.2 _ (List.getElem_mem hlt))
    have hpx := Kind.partsS_at k.kids 0 hlt
    have hbx := Kind.bulkS_at k.kids 0 hlt
    have P0 := hide p0
    have P1 := hide p1
    have P2 := hide p2
    clear x1 x2 hov hcs o1 o2 ih hg hgk h2 h3 p0 p1 p2
    generalize k.kids[0] = x at *
    generalize k.sort = q at *
    rcases h1 with rfl | rfl
    · have HE := hide HT.out
      simp only [if_true, if_false, reduceIte, Int.reduceEq] at HE
      have hsz2 : k.text.size = x.text.size + 2 := by rw [HE.out, HTK.out]; simp only [ByteArray.size_append, s1, s2]; omega
      go_enter Try.func188, Try.ntmps188
      go_wp2_with fail
      refine (writeByte_b b s 91 _ _ (by rfl) HSB0.out (by omega)).mono ?_
      rintro e w2 ⟨rfl, hb2, hk2⟩
      have HB2 := hide hb2
      have HK2 := hide (HK0.out.trans hk2)
      have RK2 := hk2.row RK0 hgb (by decide)
      have m1 := RK2.cell 2
      have m2 := (HK2.out.below.cell (p := ⟨g, off, none⟩) hgl).trans P0.out
      have m3 := (HK2.out.below.cell (p := ⟨g, off + 1, none⟩) hgl).trans P1.out
      have m4 := (HK2.out.below.cell (p := ⟨g, off + 2, none⟩) hgl).trans P2.out
      clear hb2 hk2
      go_wp2_with fail
      refine (HC.out _ _ (lv + 1) b _ _ (hov'.out.below HK2.out.below hfq.out) hfq.out (by omega) hgx.out (by omega) HB2.out (by simp only [ByteArray.size_append, s1]; omega)).mono ?_
      rintro e w3 ⟨rfl, hb3, hk3⟩
      have HB3 := hide hb3
      have HK3 := hide (HK2.out.trans hk3)
      clear hb3 hk3 m1 m2 m3 m4 RK2
      go_wp2_with fail
      refine (writeByte_b b _ 93 _ _ (by rfl) HB3.out (by simp only [ByteArray.size_append, s1]; omega)).mono ?_
      rintro e w4 ⟨rfl, hb4, hk4⟩
      have HB4 := hide hb4
      have HK4 := hide (HK3.out.trans hk4)
      clear hb4 hk4
      go_wp2
      go_end0
      exact ⟨rfl, by rw [HE.out, HTK.out]; simpa [ba_assoc] using HB4.out, HK4.out⟩
    · have HE := hide HT.out
      simp only [if_true, if_false, reduceIte, Int.reduceEq] at HE
      have hsz2 : k.text.size = x.text.size + 1 := by rw [HE.out, HTK.out]; simp only [ByteArray.size_append, s3]; omega
      go_enter Try.func188, Try.ntmps188
      go_wp2_with fail
      refine (writeByte_b b s 63 _ _ (by rfl) HSB0.out (by omega)).mono ?_
      rintro e w2 ⟨rfl, hb2, hk2⟩
      have HB2 := hide hb2
      have HK2 := hide (HK0.out.trans hk2)
      have RK2 := hk2.row RK0 hgb (by decide)
      have m1 := RK2.cell 2
      have m2 := (HK2.out.below.cell (p := ⟨g, off, none⟩) hgl).trans P0.out
      have m3 := (HK2.out.below.cell (p := ⟨g, off + 1, none⟩) hgl).trans P1.out
      have m4 := (HK2.out.below.cell (p := ⟨g, off + 2, none⟩) hgl).trans P2.out
      clear hb2 hk2
      go_wp2_with fail
      refine (HC.out _ _ (lv + 1) b _ _ (hov'.out.below HK2.out.below hfq.out) hfq.out (by omega) hgx.out (by omega) HB2.out (by simp only [ByteArray.size_append, s3]; omega)).mono ?_
      rintro e w3 ⟨rfl, hb3, hk3⟩
      have HB3 := hide hb3
      have HK3 := hide (HK2.out.trans hk3)
      clear hb3 hk3 m1 m2 m3 m4 RK2
      go_wp2
      go_end0
      exact ⟨rfl, by rw [HE.out, HTK.out]; simpa [ba_assoc] using HB3.out, HK3.out⟩
  · have HS := hide (fun j => Kind.textS_take_le k.names k.kids true j)
    have HN := hide h2
    have HL := hide h3
    have HI := hide ih
    have HG := hide hgk.2.2
    have HO1 := hide o1
    have HO2 := hide o2
    have HF1 := hide hf.left
    have HF2 := hide hf.right
    have hpp : Kind.partsS k.kids ≤ 39 := by omega
    have hbb : Kind.bulkS k.kids ≤ 1048576 := by omega
    have hend := hide (show k.text = ⟨#[123]⟩ ++ Kind.textS true k.names k.kids ++ ⟨#[125]⟩ by rw [HT.out, h1]; simp)
    have hsz9 : k.text.size = (Kind.textS true k.names k.kids).size + 2 := by rw [hend.out]; simp only [ByteArray.size_append, s4, s5]; omega
    have HRK := hide RK0
    have hle : s.size ≤ 1048576 := by omega
    have hsz8 := hide (show s.size + 1 + (Kind.textS true k.names k.kids).size + 1 ≤ 1048576 by omega)
    clear o1 o2 ih hg hgk h2 h3 hpk hkb hp hbk hf HT hsz9 RK0 hsize
    generalize k.sort = q at *
    subst h1
    go_enter Try.func188, Try.ntmps188
    go_wp2_with fail
    refine (writeByte_b b s 123 _ _ (by rfl) HSB0.out (by omega)).mono ?_
    rintro e w2 ⟨rfl, hb2, hk2⟩
    have HB2 := hide hb2
    have HK2 := hide (HK0.out.trans hk2)
    have RK2 := hide (hk2.row HRK.out hgb (by decide))
    have m1 := RK2.out.cell 2
    clear hb2 hk2 HRK
    go_wp2
    go_loopw [13] (fun i wr => ∃ j : Nat, j ≤ k.kids.length ∧ i = .int .i64 j ∧ Row wr w.heap.size 47 [.int .i64 5, .slice A1 k.names.length c1, .slice A2 k.kids.length c2] ∧ Bld wr b (s ++ ⟨#[123]⟩ ++ Kind.textS true (k.names.take j) (k.kids.take j)) ∧ BK b w wr) (fun i _ => k.kids.length - (intOf i).toNat)
    case atStart => exact ⟨0, Nat.zero_le _, rfl, RK2.out, by simpa [Kind.textS] using HB2.out, HK2.out⟩
    case round =>
      obtain ⟨j, hj, rfl, hrow, hbl, hkw⟩ := hrel
      have HKW := hide hkw
      have hbr := hbl.lt
      have hgr := hrow.lt
      by_cases hlt : j < k.kids.length
      · have hln : j < k.names.length := by have := HL.out; omega
        obtain ⟨g, off, vs, fi, rfl, hgm, hfi, hvl, hcs, hov⟩ := (HO2.out.below HKW.out.below HF2.out).elem Kind.cells_len hlt
        obtain ⟨ga, oa, us, fa, rfl, hga, hfa, hul, hca, hoa⟩ := (HO1.out.below HKW.out.below HF1.out).elem strC_len hln
        have hov' := hide hov
        obtain ⟨B1, d1, B2, d2, q1, q2, rfl, v0, x1, x2, rfl⟩ := hov.oKind
        obtain ⟨rfl, hs, rfl⟩ := hoa.str
        have p0 := hcs 0 _ rfl
        have p1 := hcs 1 _ rfl
        have p2 := hcs 2 _ rfl
        have pa := hca 0 _ rfl
        simp only [Nat.add_zero, Nat.mul_one] at p0 pa
        have hgl := HF2.out g hgm
        have hal := HF1.out ga hga
        have hfq := hide ((HF2.out).sub hfi)
        have HC := hide (HI.out _ (List.getElem_mem hlt))
        have hgx := hide (Kind.goodS_mem _ _ HG.out _ (List.getElem_mem hlt))
        have hpx := Kind.partsS_at k.kids j hlt
        have hbx := Kind.bulkS_at k.kids j hlt
        have hsx := Kind.text_size _ _ hgx.out
        have hnx : k.names[j].size ≤ 8 := (HN.out j hln).1.2.1
        have hsn := hide (Kind.textS_snoc k.names k.kids true j hln hlt)
        have hcur0 := HS.out j
        have hcur1 := HS.out (j + 1)
        rw [hsn.out] at hcur1
        simp only [ByteArray.size_append, s7] at hcur1
        clear x1 x2 hov hcs hca hoa m1
        generalize k.kids[j] = x at *
        generalize k.names[j] = nm at *
        generalize Kind.textS true (k.names.take j) (k.kids.take j) = cur at *
        have HSB1 := hide (hbl.alloc (.cells #[.int .i64 x.sort, .slice B1 x.names.length d1, .slice B2 x.kids.length d2] 47))
        have HK1 := hide ((BK.refl b wr).alloc (Nat.le_of_lt hbr) (.cells #[.int .i64 x.sort, .slice B1 x.names.length d1, .slice B2 x.kids.length d2] 47))
        have RK1 := hrow.alloc (.cells #[.int .i64 x.sort, .slice B1 x.names.length d1, .slice B2 x.kids.length d2] 47)
        have RX1 : Row (wr.alloc (.cells #[.int .i64 x.sort, .slice B1 x.names.length d1, .slice B2 x.kids.length d2] 47)) wr.heap.size 47 [.int .i64 x.sort, .slice B1 x.names.length d1, .slice B2 x.kids.length d2] := Row.new wr _ _
        have hxb : wr.heap.size ≠ b := by omega
        have hsq := hsz8.out
        have hcm : (comma (true && j == 0)).size = if (0 : Int) < (j : Int) then 1 else 0 := by by_cases h0 : j = 0 <;> (simp [h0, comma, ByteArray.size] <;> omega)
        rw [hcm] at hcur1
        clear hcm
        generalize (Kind.textS true k.names k.kids).size = tot at *
        clear hkw hrow hbl
        by_cases hj0 : (0 : Int) < (j : Int)
        · have hce := hide (show (true && j == 0) = false by simp; omega)
          rw [if_pos hj0] at hcur1
          go_wp2_with fail
          refine (writeByte_b b _ 44 _ _ (by rfl) HSB1.out (by simp only [ByteArray.size_append, s4]; omega)).mono ?_
          rintro e wz ⟨rfl, hz1, hz2⟩
          have HSB2 := hide hz1
          have HK2 := hide (HK1.out.trans hz2)
          have RK2 := hz2.row RK1 hgb (by decide)
          have RX2 := hz2.row RX1 hxb (by decide)
          clear hz1 hz2 RK1 RX1
          have m1 := RK2.cell 1
          have m2 := RK2.lt
          have m3 := RX2.lt
          have m4 := (HK2.out.below.cell (p := ⟨ga, oa + j, none⟩) hal).trans pa
          go_wp2_with fail
          refine (writeString_b b _ _ _ HSB2.out (by simp only [ByteArray.size_append, s4, s6, s7]; omega)).mono ?_
          rintro e wy ⟨rfl, hy1, hy2⟩
          have HSB3 := hide hy1
          have HK3 := hide (HK2.out.trans hy2)
          have RK3 := hy2.row RK2 hgb (by decide)
          have RX3 := hy2.row RX2 hxb (by decide)
          have r0 := RX3.cell 0
          have r1 := RX3.cell 1
          have r2 := RX3.cell 2
          have r3 := RX3.lt
          clear hy1 hy2 m1 m2 m3 m4
          go_wp2_with fail
          refine (HC.out _ _ (lv + 1) b _ _ (hov'.out.below HK3.out.below hfq.out) hfq.out (by omega) hgx.out (by omega) HSB3.out (by simp only [ByteArray.size_append, s4, s6, s7]; omega)).mono ?_
          rintro e wx ⟨rfl, hx1, hx2⟩
          have HK4 := hide (HK3.out.trans hx2)
          have RK4 := hide (hx2.row RK3 hgb (by decide))
          have HX1 := hide hx1
          clear hx1 hx2 RK3 RX3 r0 r1 r2 r3
          go_wp2
          go_roundw
          case rel => exact ⟨j + 1, by omega, by go_num, RK4.out, by have h := HX1.out; rw [hsn.out, hce.out]; simpa [comma, ba_assoc, ba_nil_app] using h, HKW.out.trans HK4.out⟩
          case measure => simp [intOf]; omega
        · have hce := hide (show (true && j == 0) = true by simp; omega)
          rw [if_neg hj0] at hcur1
          have m1 := RK1.cell 1
          have m2 := RK1.lt
          have m3 := RX1.lt
          have m4 := (HK1.out.below.cell (p := ⟨ga, oa + j, none⟩) hal).trans pa
          go_wp2_with fail
          refine (writeString_b b _ _ _ HSB1.out (by simp only [ByteArray.size_append, s4, s6, s7]; omega)).mono ?_
          rintro e wy ⟨rfl, hy1, hy2⟩
          have HSB3 := hide hy1
          have HK3 := hide (HK1.out.trans hy2)
          have RK3 := hy2.row RK1 hgb (by decide)
          have RX3 := hy2.row RX1 hxb (by decide)
          have r0 := RX3.cell 0
          have r1 := RX3.cell 1
          have r2 := RX3.cell 2
          have r3 := RX3.lt
          clear hy1 hy2 m1 m2 m3 m4
          go_wp2_with fail
          refine (HC.out _ _ (lv + 1) b _ _ (hov'.out.below HK3.out.below hfq.out) hfq.out (by omega) hgx.out (by omega) HSB3.out (by simp only [ByteArray.size_append, s4, s6, s7]; omega)).mono ?_
          rintro e wx ⟨rfl, hx1, hx2⟩
          have HK4 := hide (HK3.out.trans hx2)
          have RK4 := hide (hx2.row RK3 hgb (by decide))
          have HX1 := hide hx1
          clear hx1 hx2 RK3 RX3 r0 r1 r2 r3
          go_wp2
          go_roundw
          case rel => exact ⟨j + 1, by omega, by go_num, RK4.out, by have h := HX1.out; rw [hsn.out, hce.out]; simpa [comma, ba_assoc, ba_nil_app] using h, HKW.out.trans HK4.out⟩
          case measure => simp [intOf]; omega
      · obtain rfl : j = k.kids.length := by omega
        have e3 : k.kids.take k.kids.length = k.kids := List.take_length
        have e4 : k.names.take k.kids.length = k.names := by rw [← HL.out]; exact List.take_length
        rw [e3, e4] at hbl
        have HBL := hide hbl
        clear e3 e4 hbl hkw m1
        go_wp2_with fail
        refine (writeByte_b b _ 125 _ _ (by rfl) HBL.out (by simp only [ByteArray.size_append, s4]; have := hsz8.out; omega)).mono ?_
        rintro e w4 ⟨rfl, hb4, hk4⟩
        have HB4 := hide hb4
        have HK4 := hide (HKW.out.trans hk4)
        clear hb4 hk4
        go_wp2
        go_end0
        exact ⟨rfl, by rw [hend.out]; simpa [ba_assoc] using HB4.out, HK4.out⟩

theorem writeKind_any (k : Kind) : WriteKind k := Kind.ind writeKind_of k
end Go.Proofs.Ytbjblchhenmgjaa
set_option linter.unusedVariables false
set_option linter.unusedSimpArgs false
namespace Go.Proofs.Ytbjblchhenmgjaa
open Go.ChangeShapes Go.WideShapes Go.ChangeAt Go.RowKit

set_option maxRecDepth 100000 in
theorem kindText_any (k : Kind) (us : List Value) (fp : List Nat) (lv : Nat) (w : World) (ho : OwC w k.cells us fp) (hf : Lt fp w.heap.size) (hbk : k.bulk ≤ 1048576) (hg : k.good lv) (hp : k.parts ≤ 40) :
    Calls Try.prog 109 #[.agg us.toArray] w fun e w' => e = .returned (.string k.text) ∧ Below w.heap.size w w' := by
  have HO := hide ho
  obtain ⟨A1, c1, A2, c2, f1, f2, rfl, w0, o1, o2, rfl⟩ := ho.oKind
  have hsz := Kind.text_size k lv hg
  have R0 : Row (w.alloc (.cells #[.int .i64 k.sort, .slice A1 k.names.length c1, .slice A2 k.kids.length c2] 47)) w.heap.size 47 [.int .i64 k.sort, .slice A1 k.names.length c1, .slice A2 k.kids.length c2] := Row.new w _ _
  have hw1 : Below w.heap.size w (w.alloc (.cells #[.int .i64 k.sort, .slice A1 k.names.length c1, .slice A2 k.kids.length c2] 47)) := (Below.refl _ _).alloc (Nat.le_refl _) _
  have hw2 : Below w.heap.size w ((w.alloc (.cells #[.int .i64 k.sort, .slice A1 k.names.length c1, .slice A2 k.kids.length c2] 47)).alloc (.cells #[.pointer none, .slice none 0 0] 198)) := hw1.alloc (by simp) _
  have HB : Hid (Bld ((w.alloc (.cells #[.int .i64 k.sort, .slice A1 k.names.length c1, .slice A2 k.kids.length c2] 47)).alloc (.cells #[.pointer none, .slice none 0 0] 198)) (w.heap.size + 1) .empty) := by
    have h := Bld.new (w.alloc (.cells #[.int .i64 k.sort, .slice A1 k.names.length c1, .slice A2 k.kids.length c2] 47))
    rw [World.size_alloc] at h
    exact h
  have HX := hide (HO.out.below hw2 hf)
  have hf2 : Lt (f1 ++ f2) (w.heap.size + 1) := hf.mono (by omega)
  clear ho o1 o2
  have es : (ByteArray.empty).size = 0 := rfl
  go_enter Try.func109, Try.ntmps109
  go_wp2_with fail
  refine (writeKind_any k _ (f1 ++ f2) lv (w.heap.size + 1) .empty _ HX.out hf2 hbk hg hp HB.out (by omega)).mono ?_
  rintro e w3 ⟨rfl, hb3, hk3⟩
  have HB3 := hide hb3
  have HK3 := hide (hw2.trans (hk3.below.mono (by omega)))
  clear hb3 hk3
  go_wp2_with fail
  refine (bldString_b _ _ _ HB3.out).mono ?_
  rintro e w4 ⟨rfl, hk4⟩
  have HK4 := hide (HK3.out.trans (hk4.below.mono (by omega)))
  clear hk4
  go_wp2
  go_ret
  exact ⟨ret_str (by simp), HK4.out⟩

set_option maxRecDepth 100000 in
theorem implKindWrite_any (k : Kind) (us : List Value) (fp : List Nat) (w : World) (ho : OwC w k.cells us fp) (hf : Lt fp w.heap.size) (hbk : k.bulk ≤ 1048576) :
    Calls Try.prog 39 #[.agg us.toArray] w fun e w' => e = .returned (.string k.written) ∧ Below w.heap.size w w' := by
  have HO := hide ho
  obtain ⟨A1, c1, A2, c2, f1, f2, rfl, w0, o1, o2, rfl⟩ := ho.oKind
  clear ho o1 o2
  have R1 : Row (w.alloc (.cells #[.int .i64 k.sort, .slice A1 k.names.length c1, .slice A2 k.kids.length c2] 47)) w.heap.size 47 [.int .i64 k.sort, .slice A1 k.names.length c1, .slice A2 k.kids.length c2] := Row.new w _ _
  have hw1 : Below w.heap.size w (w.alloc (.cells #[.int .i64 k.sort, .slice A1 k.names.length c1, .slice A2 k.kids.length c2] 47)) := (Below.refl _ _).alloc (Nat.le_refl _) _
  go_enter Try.func39, Try.ntmps39
  go_wp2_with fail
  refine (implKindOk_any k _ _ _ (HO.out.below hw1 hf) (hf.up hw1) hbk).mono ?_
  rintro e w2 ⟨rfl, hb2⟩
  have hB2 := hw1.trans (hb2.mono hw1.size)
  have R2 := R1.below hb2 R1.lt
  have c0 := R2.cell 0
  have c1 := R2.cell 1
  have c2 := R2.cell 2
  have z2 := R2.lt
  by_cases h : k.ok
  · rw [tb_true h]
    have HT := hide (Kind.written_yes h)
    have hp : k.parts ≤ 40 := by have := h.2; omega
    go_wp2_with fail
    refine (kindText_any k _ _ 1 _ (HO.out.below hB2 hf) (hf.up hB2) hbk h.1 hp).mono ?_
    rintro e w3 ⟨rfl, hb3⟩
    go_wp2
    go_ret
    exact ⟨ret_str HT.out.symm, hB2.trans (hb3.mono hB2.size)⟩
  · rw [tb_false h]
    have HT := hide (Kind.written_no h)
    go_wp2
    go_ret
    exact ⟨ret_str HT.out.symm, hB2⟩

set_option maxRecDepth 100000 in
theorem specKindWrite_any (k : Kind) (us : List Value) (fp : List Nat) (w : World) (ho : OwC w k.cells us fp) (hf : Lt fp w.heap.size) (hbk : k.bulk ≤ 1048576) :
    Calls Try.prog 38 #[.agg us.toArray] w fun e w' => e = .returned (.string k.written) ∧ Below w.heap.size w w' := by
  have HO := hide ho
  obtain ⟨A1, c1, A2, c2, f1, f2, rfl, w0, o1, o2, rfl⟩ := ho.oKind
  clear ho o1 o2
  have R1 : Row (w.alloc (.cells #[.int .i64 k.sort, .slice A1 k.names.length c1, .slice A2 k.kids.length c2] 47)) w.heap.size 47 [.int .i64 k.sort, .slice A1 k.names.length c1, .slice A2 k.kids.length c2] := Row.new w _ _
  have hw1 : Below w.heap.size w (w.alloc (.cells #[.int .i64 k.sort, .slice A1 k.names.length c1, .slice A2 k.kids.length c2] 47)) := (Below.refl _ _).alloc (Nat.le_refl _) _
  go_enter Try.func38, Try.ntmps38
  go_wp2_with fail
  refine (specKindOk_any k _ _ _ (HO.out.below hw1 hf) (hf.up hw1) hbk).mono ?_
  rintro e w2 ⟨rfl, hb2⟩
  have hB2 := hw1.trans (hb2.mono hw1.size)
  have R2 := R1.below hb2 R1.lt
  have c0 := R2.cell 0
  have c1 := R2.cell 1
  have c2 := R2.cell 2
  have z2 := R2.lt
  by_cases h : k.ok
  · rw [tb_true h]
    have HT := hide (Kind.written_yes h)
    have hp : k.parts ≤ 40 := by have := h.2; omega
    go_wp2_with fail
    refine (textKind_any k _ _ 1 _ (HO.out.below hB2 hf) (hf.up hB2) hbk h.1 hp).mono ?_
    rintro e w3 ⟨rfl, hb3⟩
    go_wp2
    go_ret
    exact ⟨ret_str HT.out.symm, hB2.trans (hb3.mono hB2.size)⟩
  · rw [tb_false h]
    have HT := hide (Kind.written_no h)
    go_wp2
    go_ret
    exact ⟨ret_str HT.out.symm, hB2⟩
end Go.Proofs.Ytbjblchhenmgjaa
set_option linter.unusedVariables false
set_option linter.unusedSimpArgs false
namespace Go.Proofs.Ytbjblchhenmgjaa
open Go.ChangeShapes Go.WideShapes Go.ChangeAt Go.RowKit

def Kind.zero_ : Kind := .mk 0 [] []
noncomputable def kindRead (s : ByteArray) : Kind := (readK s).getD Kind.zero_
noncomputable def kindReadB (s : ByteArray) : Bool := (readK s).isSome
def KindReadRet (s : ByteArray) (w : World) (e : Ending) (w' : World) : Prop :=
  ∃ us fq, e = .returned (.tuple #[.agg us.toArray, .bool (kindReadB s)]) ∧ OwC w' (kindRead s).cells us fq ∧ New w' fq w.heap.size ∧ Below w.heap.size w w'
theorem ok_size {k : Kind} (h : k.ok) : k.text.size ≤ 550 := by
  have h1 := Kind.text_size k 1 h.1
  have h2 := h.2
  omega
theorem readK_long {s : ByteArray} (h : 800 < s.size) : readK s = none := by
  cases hr : readK s with
  | none => rfl
  | some k =>
    obtain ⟨h1, h2⟩ := readK_some hr
    have := ok_size h1
    rw [h2] at this
    omega
/-- what is handed back: nothing -/
theorem kr_none {s : ByteArray} {w W : World} (h : readK s = none) (hg : Below w.heap.size w W) : KindReadRet s w (.returned (.tuple #[.agg [.int .i64 0, .slice none 0 0, .slice none 0 0].toArray, .bool false])) W := by
  unfold KindReadRet kindRead kindReadB
  rw [h]
  exact ⟨_, [], rfl, kleaf_ow _ 0 (by decide), New.nil _ _, hg⟩
theorem kr_some {s : ByteArray} {w W : World} {k : Kind} {us : List Value} {fq : List Nat} (h : readK s = some k) (ho : OwC W k.cells us fq) (hn : New W fq w.heap.size) (hg : Below w.heap.size w W) : KindReadRet s w (.returned (.tuple #[.agg us.toArray, .bool true])) W := by
  unfold KindReadRet kindRead kindReadB
  rw [h]
  exact ⟨us, fq, rfl, ho, hn, hg⟩
set_option maxRecDepth 100000 in
set_option maxHeartbeats 2000000 in
theorem specKindRead_any (s : ByteArray) (w : World) (hs : s.size ≤ maxLen) :
    Calls Try.prog 28 #[.string s] w (KindReadRet s w) := by
  unfold maxLen at hs
  go_enter Try.func28, Try.ntmps28
  go_upto_region 1 with fail
  generalize hw1 : w.alloc _ = w1
  have hb1 : Below w.heap.size w w1 := by rw [← hw1]; exact (Below.refl _ _).alloc (Nat.le_refl _) _
  have HZ := hide (show Row w1 w.heap.size 47 [.int .i64 0, .slice none 0 0, .slice none 0 0] from by rw [← hw1]; exact Row.new w _ _)
  have hz1 := HZ.out.lt
  have HB1 := hide hb1
  clear hw1 hb1
  by_cases hlen : (800 : Int) < (s.size : Int)
  · have HN := hide (readK_long (s := s) (by omega))
    have z0 := HZ.out.cell 0
    have z1 := HZ.out.cell 1
    have z2 := HZ.out.cell 2
    have y0 := HZ.out.frozen 0
    have y1 := HZ.out.frozen 1
    have y2 := HZ.out.frozen 2
    go_wp2
    refine bodyPost_ret (ret_row_tmp rfl _ _ w.heap.size 47 [.int .i64 0, .slice none 0 0, .slice none 0 0] (HZ.out.setAll [.int .i64 0, .slice none 0 0, .slice none 0 0] rfl) _ _ rfl rfl Try.underlying47 rfl (by kernel_rfl)) rfl ?_
    exact kr_none HN.out (HB1.out.trans (below_of_grown (setN_grown [.int .i64 0, .slice none 0 0, .slice none 0 0] 0 (grown_refl w1 (some w.heap.size))) (Nat.le_refl _) HB1.out.size))
  go_upto_region 4 with fail
  generalize hw2 : w1.alloc _ = w2
  have hb2 : Below w1.heap.size w1 w2 := by rw [← hw2]; exact (Below.refl _ _).alloc (Nat.le_refl _) _
  have HR := hide (show RdK w2 w1.heap.size s 0 (bl s) false from ⟨0, by rw [← hw2]; exact Row.new w1 _ _, by omega, by omega, fun _ => by omega, rfl⟩)
  have HZ2 := hide (HZ.out.below hb2 hz1)
  have HB2 := hide (HB1.out.trans (hb2.mono HB1.out.size))
  have HK := hide (kindRdS_any 6 s (bl s) false w1.heap.size 1 w2 (by omega) (by omega) HR.out)
  have hr2 := HR.out.lt
  clear hw2 hb2 HR
  go_wp2_with fail
  refine HK.out.mono ?_
  rintro e w3 ⟨k, us, fq, l3, b3, rfl, ho3, hn3, hr3, hg3, hp3, ht3, -⟩
  have HZ3 := hide (HZ2.out.grown hg3 (fun e => by injection e with e; omega))
  have HB3 := hide (HB2.out.trans (below_of_grown hg3 (by omega) HB2.out.size))
  have HT3 := hide ht3
  have hkb : k.bulk ≤ 10000 := by have := hp3.2.1; rw [bl_len] at this; omega
  obtain ⟨B1, d1, B2, d2, f1, f2, rfl, k0, k1, k2, efq⟩ := ho3.oKind
  obtain ⟨n, hrow, hsz, hn6, hnb, hl3⟩ := hr3
  have HO3 := hide ho3
  have HN3 := hide (hn3.mono (show w.heap.size + 1 ≤ w2.heap.size from by omega))
  have HRow := hide hrow
  have HL3 := hide hl3
  have HNB := hide hnb
  go_upto_region 5 with fail
  generalize hw4 : w3.alloc _ = w4
  have hb4 : Below w3.heap.size w3 w4 := by rw [← hw4]; exact (Below.refl _ _).alloc (Nat.le_refl _) _
  have HBox := hide (show Row w4 w3.heap.size 47 [.int .i64 k.sort, .slice B1 k.names.length d1, .slice B2 k.kids.length d2] from by rw [← hw4]; exact Row.new w3 _ _)
  have HO4 := hide (HO3.out.below hb4 HN3.out.lt)
  have HN4 := hide (HN3.out.below hb4 HN3.out.lt)
  have HRow4 := hide (HRow.out.below hb4 HRow.out.lt)
  have HZ4 := hide (HZ3.out.below hb4 HZ3.out.lt)
  have HB4 := hide (HB3.out.trans (hb4.mono HB3.out.size))
  have r1 := HRow4.out.cell 1
  have r2 := HRow4.out.cell 2
  have rl := HRow4.out.lt
  have q0 := HBox.out.cell 0
  have q1 := HBox.out.cell 1
  have q2 := HBox.out.cell 2
  have ql := HBox.out.lt
  have z0 := HZ4.out.cell 0
  have z1 := HZ4.out.cell 1
  have z2 := HZ4.out.cell 2
  have y0 := HZ4.out.frozen 0
  have y1 := HZ4.out.frozen 1
  have y2 := HZ4.out.frozen 2
  have lz := HZ4.out.lt
  have HNONE := hide (fun (W : World) (hrow : Row W w.heap.size 47 [.int .i64 0, .slice none 0 0, .slice none 0 0]) (hb : Below w.heap.size w W) (h : readK s = none) => kr_none (w := w) (W := putN W w.heap.size 0 [.int .i64 0, .slice none 0 0, .slice none 0 0]) h (hb.trans (below_of_grown (setN_grown _ 0 (grown_refl W (some w.heap.size))) (Nat.le_refl _) hb.size)))
  clear hw4 hb4 ho3 hn3 hrow hl3 hnb hp3 ht3 hg3 HZ3 HB3 HO3 HN3 HRow HK k1 k2 efq
  by_cases hbad : b3 = true
  · subst hbad
    have HNO := hide (readK_no HT3.out (fun h => by cases h.1))
    go_wp2
    refine bodyPost_ret (ret_row_tmp rfl _ _ w.heap.size 47 [.int .i64 0, .slice none 0 0, .slice none 0 0] (HZ4.out.setAll [.int .i64 0, .slice none 0 0, .slice none 0 0] rfl) _ _ rfl rfl Try.underlying47 rfl (by kernel_rfl)) rfl ?_
    exact HNONE.out _ HZ4.out HB4.out HNO.out
  obtain rfl : b3 = false := by simpa using hbad
  have hns := HNB.out rfl
  clear hbad HNB
  by_cases hend : n = s.size
  rotate_left
  · have hni : ¬ ((n : Int) = (s.size : Int)) := by omega
    have HNO := hide (readK_no HT3.out (fun h => by
      have h2 := congrArg List.length (HL3.out.symm.trans h.2.1)
      rw [List.length_drop, bl_len] at h2
      simp at h2
      omega))
    clear hend
    go_wp2
    refine bodyPost_ret (ret_row_tmp rfl _ _ w.heap.size 47 [.int .i64 0, .slice none 0 0, .slice none 0 0] (HZ4.out.setAll [.int .i64 0, .slice none 0 0, .slice none 0 0] rfl) _ _ rfl rfl Try.underlying47 rfl (by kernel_rfl)) rfl ?_
    exact HNONE.out _ HZ4.out HB4.out HNO.out
  subst hend
  have HL0 := hide (show l3 = [] from by rw [HL3.out]; exact drop_none s _ (Nat.le_refl _))
  have HKO := hide (specKindOk_any k _ fq w4 HO4.out HN4.out.lt (by omega))
  go_wp2_with fail
  refine HKO.out.mono ?_
  rintro e w5 ⟨rfl, hb5⟩
  have HB5 := hide (HB4.out.trans (hb5.mono HB4.out.size))
  have HZ5 := hide (HZ4.out.below hb5 HZ4.out.lt)
  have HBox5 := hide (HBox.out.below hb5 HBox.out.lt)
  have HO5 := hide (HO4.out.below hb5 HN4.out.lt)
  have HN5 := hide (HN4.out.below hb5 HN4.out.lt)
  clear r1 r2 rl q0 q1 q2 ql z0 z1 z2 y0 y1 y2 lz HKO HB4 HZ4 HO4 HN4 HBox HRow4 hb5
  have q0 := HBox5.out.cell 0
  have q1 := HBox5.out.cell 1
  have q2 := HBox5.out.cell 2
  have ql := HBox5.out.lt
  have z0 := HZ5.out.cell 0
  have z1 := HZ5.out.cell 1
  have z2 := HZ5.out.cell 2
  have y0 := HZ5.out.frozen 0
  have y1 := HZ5.out.frozen 1
  have y2 := HZ5.out.frozen 2
  have lz := HZ5.out.lt
  by_cases hok : k.ok
  rotate_left
  · have HNO := hide (readK_no HT3.out (fun h => hok h.2.2.1))
    rw [tb_false hok]
    clear hok
    go_wp2
    refine bodyPost_ret (ret_row_tmp rfl _ _ w.heap.size 47 [.int .i64 0, .slice none 0 0, .slice none 0 0] (HZ5.out.setAll [.int .i64 0, .slice none 0 0, .slice none 0 0] rfl) _ _ rfl rfl Try.underlying47 rfl (by kernel_rfl)) rfl ?_
    exact HNONE.out _ HZ5.out HB5.out HNO.out
  rw [tb_true hok]
  have HOK := hide hok
  have HTX := hide (textKind_any k _ fq 1 w5 HO5.out HN5.out.lt (by omega) hok.1 (by have := hok.2; omega))
  clear hok
  go_wp2_with fail
  refine HTX.out.mono ?_
  rintro e w6 ⟨rfl, hb6⟩
  have HB6 := hide (HB5.out.trans (hb6.mono HB5.out.size))
  have HZ6 := hide (HZ5.out.below hb6 HZ5.out.lt)
  have HBox6 := hide (HBox5.out.below hb6 HBox5.out.lt)
  have HO6 := hide (HO5.out.below hb6 HN5.out.lt)
  have HN6 := hide (HN5.out.below hb6 HN5.out.lt)
  clear q0 q1 q2 ql z0 z1 z2 y0 y1 y2 lz HTX HB5 HZ5 HO5 HN5 HBox5 hb6
  have q0 := HBox6.out.cell 0
  have q1 := HBox6.out.cell 1
  have q2 := HBox6.out.cell 2
  have ql := HBox6.out.lt
  have z0 := HZ6.out.cell 0
  have z1 := HZ6.out.cell 1
  have z2 := HZ6.out.cell 2
  have y0 := HZ6.out.frozen 0
  have y1 := HZ6.out.frozen 1
  have y2 := HZ6.out.frozen 2
  have lz := HZ6.out.lt
  by_cases htx : k.text = s
  rotate_left
  · have HNO := hide (readK_no HT3.out (fun h => htx h.2.2.2))
    obtain ⟨e1, e2⟩ := ne_lists (fun h => htx (bl_inj h))
    clear htx
    go_wp2
    refine bodyPost_ret (ret_row_tmp rfl _ _ w.heap.size 47 [.int .i64 0, .slice none 0 0, .slice none 0 0] (HZ6.out.setAll [.int .i64 0, .slice none 0 0, .slice none 0 0] rfl) _ _ rfl rfl Try.underlying47 rfl (by kernel_rfl)) rfl ?_
    exact HNONE.out _ HZ6.out HB6.out HNO.out
  have HYES := hide (readK_yes HT3.out HOK.out htx)
  obtain ⟨e1, e2⟩ := eq_lists (a := k.text) (b := s) (by rw [htx])
  clear htx
  go_wp2
  refine bodyPost_ret (ret_row_tmp rfl _ _ w.heap.size 47 [.int .i64 k.sort, .slice B1 k.names.length d1, .slice B2 k.kids.length d2] (HZ6.out.setAll [.int .i64 k.sort, .slice B1 k.names.length d1, .slice B2 k.kids.length d2] rfl) _ _ rfl rfl Try.underlying47 rfl (by kernel_rfl)) rfl ?_
  have hgr := setN_grown [.int .i64 k.sort, .slice B1 k.names.length d1, .slice B2 k.kids.length d2] 0 (grown_refl w6 (some w.heap.size))
  have hno : w.heap.size ∉ fq := HN6.out.out (by omega)
  exact kr_some HYES.out (HO6.out.grown hgr HN6.out.lt hno) ((HN6.out.grown hgr (fun b e => by injection e with e; subst e; exact hno)).mono (by omega)) (HB6.out.trans (below_of_grown hgr (Nat.le_refl _) HB6.out.size))
end Go.Proofs.Ytbjblchhenmgjaa
set_option linter.unusedVariables false
set_option linter.unusedSimpArgs false
namespace Go.Proofs.Ytbjblchhenmgjaa
open Go.ChangeShapes Go.WideShapes Go.ChangeAt Go.RowKit

theorem written_size (k : Kind) : k.written.size ≤ 550 := by
  by_cases h : k.fits 1 0
  · rw [Kind.written_yes h]
    exact ok_size h
  · rw [Kind.written_no h]
    decide
def TextDrawn (N : Nat) (w : World) (e : Ending) (w' : World) : Prop := ∃ t : ByteArray, e = .returned (.string t) ∧ t.size ≤ N ∧ Below w.heap.size w w'
set_option maxRecDepth 100000 in
set_option maxHeartbeats 1000000 in
theorem drawKindRead_any (l : List UInt8) (A : Option Addr) (n c : Nat) (fp : List Nat) (w : World) (ho : Ow w (.s 1 l.length (l.flatMap byteC)) (.slice A n c) fp) (hf : Lt fp w.heap.size) (hsz : l.length ≤ 1048576) :
    Calls Try.prog 42 #[.slice A n c] w (TextDrawn 1000 w) := by
  have HP := hide (open_any l A n c fp w ho hf hsz)
  clear ho
  go_enter Try.func42, Try.ntmps42
  go_wp2_with fail
  refine HP.out.mono ?_
  rintro e w1 ⟨L, rfl, hr1, hb1⟩
  have HP1 := hide (pick_any hr1 (n := 30) (by omega) (by omega) (by omega))
  have HB1 := hide hb1
  clear hr1 hb1 HP
  go_wp2_with fail
  refine HP1.out.mono ?_
  rintro e w2 ⟨v, rfl, hv, hr2, hg2⟩
  have HR2 := hide hr2
  have HB2 := hide (HB1.out.trans (below_of_grown hg2 (Nat.le_refl _) HB1.out.size))
  clear hr2 hg2 HP1 HB1
  by_cases h0 : v = 0
  · subst h0
    have HM := hide (many_any ⟨#[63]⟩ 801 w2 (by decide) (by omega))
    go_wp2_with fail
    refine HM.out.mono ?_
    rintro e w3 ⟨o, rfl, ho, rfl⟩
    have HOS := hide ho
    have HC := hide (lit_of HR2.out (by omega) ([⟨#[]⟩, ⟨#[110, 117, 109, 98]⟩, ⟨#[91, 110, 117, 109]⟩, ⟨#[63]⟩, ⟨#[123, 97, 58, 110, 117, 109, 44, 125]⟩, ⟨#[123, 97, 125]⟩, ⟨#[123, 98, 58, 110, 117, 109, 44, 97, 58, 110, 117, 109, 125]⟩, ⟨#[91, 93]⟩, ⟨#[63, 63, 63, 63, 63, 63, 110, 117, 109]⟩, ⟨#[63, 63, 63, 63, 63, 110, 117, 109]⟩, ⟨#[32, 110, 117, 109]⟩, o] : List ByteArray) (by simp) (by simp))
    clear ho HM
    go_wp2_with fail
    refine HC.out.mono ?_
    rintro e w4 ⟨x, hx, rfl, hr4, hg4⟩
    have hx1 : x.size ≤ 801 := by
      simp only [List.mem_cons, List.not_mem_nil, or_false] at hx
      rcases hx with rfl | rfl | rfl | rfl | rfl | rfl | rfl | rfl | rfl | rfl | rfl | rfl
      all_goals first | (have := HOS.out; omega) | decide
    have HX := hide hx1
    clear hx hx1
    go_wp2
    go_ret
    exact ⟨x, rfl, by have := HX.out; omega, HB2.out.trans (below_of_grown hg4 (Nat.le_refl _) HB2.out.size)⟩
  have h0i : ¬ ((v : Int) = 0) := by omega
  have HD := hide (anyKind_all HR2.out (by omega))
  go_wp2_with fail
  refine HD.out.mono ?_
  rintro e w3 ⟨x, us, fq, k3, rfl, ho3, hn3, hx3, hk3, hr3, hg3⟩
  have HW := hide (specKindWrite_any x us fq w3 ho3 hn3.lt (by omega))
  have HR3 := hide hr3
  have HB3 := hide (HB2.out.trans (below_of_grown hg3 (Nat.le_refl _) HB2.out.size))
  clear ho3 hn3 hr3 hg3 HD HR2 HB2
  go_wp2_with fail
  refine HW.out.mono ?_
  rintro e w4 ⟨rfl, hb4⟩
  have HS := hide (written_size x)
  obtain ⟨s, hs⟩ : ∃ s, s = x.written := ⟨_, rfl⟩
  rw [← hs] at HS ⊢
  have HP4 := hide (pick_any (HR3.out.below hb4) (n := 3) (by omega) (by omega) (by omega))
  have HB4 := hide (HB3.out.trans (hb4.mono HB3.out.size))
  clear hs hb4 HW HR3 HB3
  go_wp2_with fail
  refine HP4.out.mono ?_
  rintro e w5 ⟨q, rfl, hq, hr5, hg5⟩
  have HR5 := hide hr5
  have HB5 := hide (HB4.out.trans (below_of_grown hg5 (Nat.le_refl _) HB4.out.size))
  clear hr5 hg5 HP4 HB4
  by_cases hq0 : q = 0
  · subst hq0
    have HC := hide (bend_any HR5.out (by omega) s (by have := HS.out; omega))
    go_wp2_with fail
    refine HC.out.mono ?_
    rintro e w6 ⟨t, k6, rfl, ht, hk6, hr6, hg6⟩
    have HT := hide ht
    clear ht
    go_wp2
    go_ret
    exact ⟨t, rfl, by have := HT.out; have := HS.out; omega, HB5.out.trans (below_of_grown hg6 (Nat.le_refl _) HB5.out.size)⟩
  · have hqi : ¬ ((q : Int) = 0) := by omega
    go_wp2
    go_ret
    exact ⟨s, rfl, by have := HS.out; omega, HB5.out⟩
end Go.Proofs.Ytbjblchhenmgjaa
set_option linter.unusedVariables false
set_option linter.unusedSimpArgs false
namespace Go.Proofs.Ytbjblchhenmgjaa
open Go.ChangeShapes Go.WideShapes Go.ChangeAt Go.RowKit

theorem upto_inj : ∀ (a b r s : List UInt8), a.all nameCh = true → b.all nameCh = true → a ++ 58 :: r = b ++ 58 :: s → a = b ∧ r = s
  | [], [], r, s, _, _, h => by simpa using h
  | [], y :: b, r, s, _, hb, h => by
    simp only [List.nil_append, List.cons_append, List.cons.injEq] at h
    simp only [List.all_cons, Bool.and_eq_true] at hb
    exact absurd h.1.symm (nameCh_not hb.1 (by decide))
  | x :: a, [], r, s, ha, _, h => by
    simp only [List.nil_append, List.cons_append, List.cons.injEq] at h
    simp only [List.all_cons, Bool.and_eq_true] at ha
    exact absurd h.1 (nameCh_not ha.1 (by decide))
  | x :: a, y :: b, r, s, ha, hb, h => by
    simp only [List.cons_append, List.cons.injEq] at h
    simp only [List.all_cons, Bool.and_eq_true] at ha hb
    obtain ⟨e1, e2⟩ := upto_inj a b r s ha.2 hb.2 h.2
    exact ⟨by rw [h.1, e1], e2⟩
def TextInj (k : Kind) : Prop := ∀ (lv : Nat) (k1 : Kind) (R0 R1 : List UInt8), k.good lv → k1.good lv → bl k.text ++ R0 = bl k1.text ++ R1 → k = k1 ∧ R0 = R1
theorem textS_inj : ∀ (ks ks1 : List Kind) (ns ns1 : List ByteArray) (c : Bool) (lv : Nat) (R0 R1 : List UInt8), (∀ x ∈ ks, TextInj x) → (∀ x ∈ ns, NameOk x) → (∀ x ∈ ns1, NameOk x) → ns.length = ks.length → ns1.length = ks1.length →
    (∀ x ∈ ks, x.good lv) → (∀ x ∈ ks1, x.good lv) → bl (Kind.textS c ns ks) ++ 125 :: R0 = bl (Kind.textS c ns1 ks1) ++ 125 :: R1 → ns = ns1 ∧ ks = ks1 ∧ R0 = R1
  | [], [], [], [], c, lv, R0, R1, _, _, _, _, _, _, _, h => by
    simp only [Kind.textS] at h
    simpa [bl_nil] using h
  | [], k1 :: ks1, [], n1 :: ns1, c, lv, R0, R1, _, _, hn1, _, _, _, _, h => by
    exfalso
    rw [textS_cons] at h
    obtain ⟨d, r, e, hd⟩ := nameOk_head (hn1 n1 (by simp))
    have e0 : bl (Kind.textS c [] []) = [] := rfl
    rw [e0, e] at h
    cases c
    · have e1 : bl (comma false) = [44] := rfl
      rw [e1] at h
      simp at h
    · have e1 : bl (comma true) = [] := rfl
      rw [e1] at h
      simp only [List.nil_append, List.cons_append, List.cons.injEq] at h
      exact nameCh_not hd (by decide) h.1.symm
  | k :: ks, [], n :: ns, [], c, lv, R0, R1, _, hn, _, _, _, _, _, h => by
    exfalso
    rw [textS_cons] at h
    obtain ⟨d, r, e, hd⟩ := nameOk_head (hn n (by simp))
    have e0 : bl (Kind.textS c [] []) = [] := rfl
    rw [e0, e] at h
    cases c
    · have e1 : bl (comma false) = [44] := rfl
      rw [e1] at h
      simp at h
    · have e1 : bl (comma true) = [] := rfl
      rw [e1] at h
      simp only [List.nil_append, List.cons_append, List.cons.injEq] at h
      exact nameCh_not hd (by decide) h.1
  | k :: ks, k1 :: ks1, n :: ns, n1 :: ns1, c, lv, R0, R1, hi, hn, hn1, hl, hl1, hg, hg1, h => by
    rw [textS_cons, textS_cons] at h
    simp only [List.append_assoc, List.cons_append] at h
    obtain ⟨e1, e2⟩ := upto_inj _ _ _ _ (nameOk_chars (hn n (by simp))) (nameOk_chars (hn1 n1 (by simp))) (List.append_cancel_left h)
    obtain ⟨e3, e4⟩ := hi k (by simp) lv k1 _ _ (hg k (by simp)) (hg1 k1 (by simp)) e2
    obtain ⟨e5, e6, e7⟩ := textS_inj ks ks1 ns ns1 false lv R0 R1 (fun x hx => hi x (by simp [hx])) (fun x hx => hn x (by simp [hx])) (fun x hx => hn1 x (by simp [hx])) (by simpa using hl) (by simpa using hl1) (fun x hx => hg x (by simp [hx])) (fun x hx => hg1 x (by simp [hx])) e4
    exact ⟨by rw [bl_inj e1, e5], by rw [e3, e6], e7⟩
theorem text_inj (k : Kind) : TextInj k := by
  refine Kind.ind (P := TextInj) (fun k ih => ?_) k
  intro lv k1 R0 R1 hg hg1 h
  have c0 := Kind.read_cases hg _ R0 rfl
  have c1 := Kind.read_cases hg1 _ R1 rfl
  rw [← h] at c1
  rcases c0 with ⟨e0, f0⟩ | ⟨e0, f0⟩ | ⟨e0, f0⟩ | ⟨x, e0, gx, f0⟩ | ⟨x, e0, gx, f0⟩ | ⟨ns, ks, e0, gn, gl, gs, f0⟩ <;>
  rcases c1 with ⟨e1, f1⟩ | ⟨e1, f1⟩ | ⟨e1, f1⟩ | ⟨x1, e1, gx1, f1⟩ | ⟨x1, e1, gx1, f1⟩ | ⟨ns1, ks1, e1, gn1, gl1, gs1, f1⟩ <;>
  rw [f0] at f1 <;> (try (exfalso; simp at f1; done))
  · rw [e0, e1]; simpa using f1
  · rw [e0, e1]; simpa using f1
  · rw [e0, e1]; simpa using f1
  · subst e0 e1
    simp only [List.cons.injEq, true_and] at f1
    obtain ⟨a, b⟩ := ih x (by simp [Kind.kids]) _ x1 _ _ gx gx1 f1
    subst a
    simp only [List.cons.injEq, true_and] at b
    exact ⟨rfl, b⟩
  · subst e0 e1
    simp only [List.cons.injEq, true_and] at f1
    obtain ⟨a, b⟩ := ih x (by simp [Kind.kids]) _ x1 _ _ gx gx1 f1
    subst a
    exact ⟨rfl, b⟩
  · subst e0 e1
    simp only [List.cons.injEq, true_and] at f1
    obtain ⟨a, b, c⟩ := textS_inj ks ks1 ns ns1 true (lv + 1) R0 R1 (fun x hx => ih x (by simpa [Kind.kids] using hx)) (fun x hx => names_mem gn hx) (fun x hx => names_mem gn1 hx) gl gl1 (fun x hx => Kind.goodS_mem _ _ gs x hx) (fun x hx => Kind.goodS_mem _ _ gs1 x hx) f1
    subst a b
    exact ⟨rfl, c⟩
/-- what is read from the text of a schema that is ok -/
theorem readK_text {k : Kind} (h : k.ok) : readK k.text = some k := by
  cases hr : readK k.text with
  | none => exact absurd rfl (readK_none hr k h)
  | some k2 =>
    obtain ⟨h1, h2⟩ := readK_some hr
    obtain ⟨e, _⟩ := text_inj k2 1 k [] [] h1.1 h.1 (by rw [h2])
    rw [e]
theorem text_ne {k : Kind} (h : k.ok) : k.text ≠ .empty := by
  intro e
  have c := Kind.read_cases h.1 _ [] rfl
  rw [e] at c
  have e0 : bl .empty ++ [] = [] := rfl
  rw [e0] at c
  rcases c with ⟨_, f⟩ | ⟨_, f⟩ | ⟨_, f⟩ | ⟨_, _, _, f⟩ | ⟨_, _, _, f⟩ | ⟨_, _, _, _, _, _, f⟩ <;> cases f
end Go.Proofs.Ytbjblchhenmgjaa
set_option linter.unusedVariables false
set_option linter.unusedSimpArgs false
namespace Go.Proofs.Ytbjblchhenmgjaa
open Go.ChangeShapes Go.WideShapes Go.ChangeAt Go.RowKit

/-- ahead of a part: so many are read, one more must come -/
def HeadAt (lv : Nat) (l0 : List UInt8) (b : Bool) (ns : List ByteArray) (ks : List Kind) (l : List UInt8) : Prop :=
  ∀ (ns0 : List ByteArray) (ks0 : List Kind) (R : List UInt8), NamesOk ns0 → ns0.length = ks0.length → Kind.goodS ks0 (lv + 1) → l0 = bl (Kind.textS true ns0 ks0) ++ 125 :: R →
    b = false ∧ ∃ n1 k1 ns1 ks1, ns0 = ns ++ n1 :: ns1 ∧ ks0 = ks ++ k1 :: ks1 ∧ ns1.length = ks1.length ∧ l = bl n1 ++ 58 :: (bl k1.text ++ (bl (Kind.textS false ns1 ks1) ++ 125 :: R))
section
variable {lv : Nat} {l0 l l' l2 : List UInt8} {b b' b2 ok : Bool} {ns : List ByteArray} {ks : List Kind} {x : ByteArray} {k : Kind}
theorem HeadAt.start (h : Eaten [125] l0 false l) : HeadAt lv l0 false [] [] l := by
  intro ns0 ks0 R hn hl hg e
  obtain ⟨rfl, hno⟩ := h.no
  refine ⟨rfl, ?_⟩
  match ns0, ks0, hl with
  | [], [], _ => exact absurd e (hno R)
  | n :: ns, k :: ks, hl =>
    rw [textS_cons] at e
    refine ⟨n, k, ns, ks, rfl, rfl, by simpa using hl, ?_⟩
    rw [e]
    simp [comma, bl]
theorem HeadAt.part (h : HeadAt lv l0 false ns ks l) (h2 : NamedJ l false x l2 b2) (h4 : TakesK (lv + 1) l2 b2 k l' b') : FormAt lv l0 false b' (ns ++ [x]) (ks ++ [k]) l' := by
  intro ns0 ks0 R hn hl hg e
  obtain ⟨_, n1, k1, ns1, ks1, e1, e2, e3, e4⟩ := h ns0 ks0 R hn hl hg e
  have hno : NameOk n1 := names_mem hn (by rw [e1]; simp)
  have hgk : k1.good (lv + 1) := Kind.goodS_mem _ _ hg k1 (by rw [e2]; simp)
  obtain ⟨rfl, hl2, hb2⟩ := h2.2.2 n1 _ hno rfl e4
  obtain ⟨rfl, hb5, hl5⟩ := h4 k1 _ hgk hb2 hl2
  exact ⟨hb5, ns1, ks1, by rw [e1]; simp, by rw [e2]; simp, e3, hl5⟩
theorem FormAt.comma (h : FormAt lv l0 false b ns ks l) (hb : b = false) (hne : ∀ r, l ≠ 125 :: r) (h1 : Eaten [44] l ok l') : HeadAt lv l0 (!ok) ns ks l' := by
  intro ns0 ks0 R hn hl hg e
  obtain ⟨_, ns1, ks1, e1, e2, e3, e4⟩ := h ns0 ks0 R hn hl hg e
  match ns1, ks1, e3 with
  | [], [], _ => exact absurd e4 (hne R)
  | n :: ns2, k0 :: ks2, e3 =>
    rw [textS_cons] at e4
    obtain ⟨rfl, rfl⟩ := h1.yes (r := bl n ++ 58 :: (bl k0.text ++ (bl (Kind.textS false ns2 ks2) ++ 125 :: R))) (by rw [e4]; simp [Go.Proofs.Ytbjblchhenmgjaa.comma, bl])
    exact ⟨rfl, n, k0, ns2, ks2, e1, e2, by simpa using e3, rfl⟩
theorem FormAt.dead {c : Bool} {l2 : List UInt8} (h : FormAt lv l0 c true ns ks l) : HeadAt lv l0 true ns ks l2 := fun ns0 ks0 R hn hl hg e => by
  obtain ⟨h, _⟩ := h ns0 ks0 R hn hl hg e
  cases h
theorem HeadAt.dead (h : HeadAt lv l0 true ns ks l) : TakesK lv (123 :: l0) false k l' true := by
  intro k0 R hg _ e
  rcases Kind.read_cases hg _ R e with ⟨_, e1⟩ | ⟨_, e1⟩ | ⟨_, e1⟩ | ⟨_, _, _, e1⟩ | ⟨_, _, _, e1⟩ | ⟨ns0, ks0, _, hn, hl, hgk, e1⟩
  · cases e1
  · cases e1
  · cases e1
  · cases e1
  · cases e1
  · injection e1 with _ e1
    obtain ⟨h, _⟩ := h ns0 ks0 R hn hl hgk e1
    cases h
theorem PaidF.less {n : Nat} {l1 lx l2 : List UInt8} {b b' : Bool} (h : PaidF lv l1 n lx b) (hl : l2.length ≤ lx.length) (hb : b' = false → b = false) : PaidF lv l1 n l2 b' := by
  obtain ⟨h1, h2, h3⟩ := h
  exact ⟨by omega, by omega, fun hf => by have := h3 (hb hf); omega⟩
theorem PaidF.part {n nk : Nat} {l1 lx : List UInt8} (h : PaidF lv l1 n lx false) (h2 : NamedJ lx false x l2 b2) (h5 : Paid (lv + 1) l2 nk l' b') (hb : b' = false → b2 = false) (hlv : lv ≤ 6) : PaidF lv l1 (n + (1 + x.size) + 1 + nk) l' b' := by
  obtain ⟨a1, a2, a3⟩ := h
  obtain ⟨c1, c2, c3⟩ := h5
  have a4 := a3 rfl
  obtain ⟨d1, d2, _⟩ := h2
  refine ⟨by omega, by omega, fun hf => ?_⟩
  have c4 := c3 hf
  have d4 := d2 (hb hf)
  omega
theorem paid_done {n : Nat} {l1 lx : List UInt8} (h : PaidF lv l1 n lx b) (hl : l'.length ≤ lx.length) (hb : b = false → l'.length < lx.length) : Paid lv (123 :: l1) n l' b :=
  PaidF.done (ok := true) (.inl ⟨rfl, rfl⟩) h hl (fun hf => ⟨rfl, hb hf⟩)
/-- nothing that begins a schema comes next -/
theorem TakesK.none (h1 : ∀ r, l ≠ 91 :: r) (h2 : ∀ r, l ≠ 63 :: r) (h3 : ∀ r, l ≠ 123 :: r) (h4 : ∀ r, l ≠ 110 :: 117 :: 109 :: r) (h5 : ∀ r, l ≠ 116 :: 101 :: 120 :: 116 :: r) (h6 : ∀ r, l ≠ 102 :: 108 :: 97 :: 103 :: r) : TakesK lv l b k l' b' := by
  intro k0 R hg _ e
  rcases Kind.read_cases hg _ R e with ⟨_, e1⟩ | ⟨_, e1⟩ | ⟨_, e1⟩ | ⟨_, _, _, e1⟩ | ⟨_, _, _, e1⟩ | ⟨_, _, _, _, _, _, e1⟩
  · exact absurd e1 (h4 _)
  · exact absurd e1 (h5 _)
  · exact absurd e1 (h6 _)
  · exact absurd e1 (h1 _)
  · exact absurd e1 (h2 _)
  · exact absurd e1 (h3 _)
end
end Go.Proofs.Ytbjblchhenmgjaa
set_option linter.unusedVariables false
set_option linter.unusedSimpArgs false
namespace Go.Proofs.Ytbjblchhenmgjaa
open Go.ChangeShapes Go.WideShapes Go.ChangeAt Go.RowKit

/-- what a part's contract says -/
def PartAll (w : World) (g lv : Nat) : Prop := ∀ (wr : World) (B1 : Option Addr) (n1 d1 : Nat) (ns : List ByteArray) (us1 : List Value) (B2 : Option Addr) (n2 d2 : Nat) (ks : List Kind) (us2 : List Value) (fi2 : List Nat) (l : List UInt8), KJ w wr g lv (.slice B1 n1 d1) ns us1 (.slice B2 n2 d2) ks us2 fi2 l false → ns.length ≤ 100000 → ks.length ≤ 100000 →
  Calls Try.prog 182 #[.pointer (some ⟨w.heap.size + 3, 0, none⟩), .pointer (some ⟨w.heap.size, 0, none⟩), .pointer (some ⟨w.heap.size + 1, 0, none⟩)] wr (PartOut w g lv ns ks l)
def rjMeas (w : World) (g : Nat) : Nat := match w.cell? ⟨g, 1, none⟩, w.cell? ⟨g, 0, none⟩ with
  | some (.bool false), some (.string s) => 1 + s.size
  | _, _ => 0
theorem RdJ.meas {w : World} {g : Nat} {l : List UInt8} {fail : Bool} (h : RdJ w g l fail) : rjMeas w g = if fail = true then 0 else 1 + l.length := by
  obtain ⟨s, hr, h1, rfl⟩ := h
  unfold rjMeas
  rw [hr.cell 1, hr.cell 0]
  simp only [List.getElem?_cons_succ, List.getElem?_cons_zero]
  rw [bl_len]
  cases fail
  · simp
  · simp
def KidsOut (w : World) (g lv : Nat) (l : List UInt8) (e : Ending) (w' : World) : Prop :=
  ∃ (ns : List ByteArray) (ks : List Kind) (l' : List UInt8) (b' : Bool) (B1 : Option Addr) (n1 d1 : Nat) (us1 : List Value) (B2 : Option Addr) (n2 d2 : Nat) (us2 : List Value) (fi2 : List Nat), e = .returned (.tuple #[]) ∧
    KJ w w' g lv (.slice B1 n1 d1) ns us1 (.slice B2 n2 d2) ks us2 fi2 l' b' ∧ Paid lv (123 :: l) (Kind.mk 5 ns ks).bulk l' b' ∧ TakesK lv (123 :: l) false (.mk 5 ns ks) l' b'
set_option maxRecDepth 100000 in
set_option maxHeartbeats 4000000 in
theorem kidsJ_any {lv : Nat} (hl6 : lv ≤ 6) {w wr : World} {g : Nat} (hgw : g < w.heap.size) (hp : PartAll w g lv) {l : List UInt8} (h : KJ w wr g lv (.slice none 0 0) [] [] (.slice none 0 0) [] [] [] l false) :
    Calls Try.prog 181 #[.pointer (some ⟨g, 0, none⟩), .string ⟨#[125]⟩, .func (.func 182) #[] #[.pointer (some ⟨w.heap.size + 3, 0, none⟩), .pointer (some ⟨w.heap.size, 0, none⟩), .pointer (some ⟨w.heap.size + 1, 0, none⟩)]] wr (KidsOut w g lv l) := by
  have H := hide h
  have HP := hide hp
  have HSK := hide (skip_any h.rd ⟨#[125]⟩)
  have hlb := h.rd.len
  clear h hp
  go_enter Try.func181, Try.ntmps181
  go_wp2_with fail
  refine HSK.out.mono ?_
  rintro e w3 ⟨ok, l3, rfl, h3, he3, hg3⟩
  have HE3 := hide (show Eaten [125] l ok l3 from he3)
  have H3 := hide (H.out.read hgw hg3 h3)
  clear h3 he3 hg3 H HSK
  rcases ok with _ | _
  rotate_left
  · go_wp2
    go_end0
    refine ⟨[], [], l3, false, none, 0, 0, [], none, 0, 0, [], [], rfl, H3.out, ?_, ?_⟩
    · have := HE3.out.lt
      exact paid_done (PaidF.start lv l false) HE3.out.le (fun _ => by simp at this; omega)
    · rcases HE3.out with ⟨_, e⟩ | ⟨e, _⟩
      · exact FormAt.done (FormAt.start lv l) (fun _ => e)
      · cases e
  have HH := hide (HeadAt.start (lv := lv) HE3.out)
  have hl3 : l3.length ≤ l.length := HE3.out.le
  have HPF := hide ((PaidF.start lv l false).less (b' := false) hl3 (fun h => h))
  go_wp2
  go_loopw [] (fun wz => ∃ (ns : List ByteArray) (ks : List Kind) (lx : List UInt8) (bx : Bool) (B1 : Option Addr) (m1 d1 : Nat) (us1 : List Value) (B2 : Option Addr) (m2 d2 : Nat) (us2 : List Value) (fi2 : List Nat), KJ w wz g lv (.slice B1 m1 d1) ns us1 (.slice B2 m2 d2) ks us2 fi2 lx bx ∧ ns.length = ks.length ∧ PaidF lv l (bulkStrs ns + ks.length + Kind.bulkS ks) lx bx ∧ HeadAt lv l bx ns ks lx) (fun wz => rjMeas wz g)
  case atStart => exact ⟨[], [], l3, false, none, 0, 0, [], none, 0, 0, [], [], H3.out, rfl, HPF.out, HH.out⟩
  case round =>
    obtain ⟨wz, rfl⟩ : ∃ W, W = wr := ⟨_, rfl⟩
    obtain ⟨ns, ks, lx, bx, B1, m1, d1, us1, B2, m2, d2, us2, fi2, hK, hln, hP, hH⟩ := hrel
    have HK := hide hK
    have HPF := hide hP
    have HH := hide hH
    have HLN := hide hln
    have HM := hide hK.rd.meas
    obtain ⟨hb, hbf⟩ := hK.rd.cells
    have lg := hK.rd.lt
    clear hK hP hH hln H3
    rcases bx with _ | _
    rotate_left
    · go_wp2
      go_end0
      exact ⟨ns, ks, lx, true, B1, m1, d1, us1, B2, m2, d2, us2, fi2, rfl, HK.out, by rw [Kind.bulk_form]; exact paid_done HPF.out (Nat.le_refl _) (fun h => by cases h), HH.out.dead⟩
    have hnb : ns.length ≤ 100000 := by have h := HPF.out.2.2 rfl; unfold bulkStrs at h; omega
    have HPA := hide (HP.out _ _ _ _ _ _ _ _ _ _ _ _ _ HK.out hnb (by rw [← HLN.out]; exact hnb))
    clear hnb
    go_wp2_with fail
    refine HPA.out.mono ?_
    rintro e w4 ⟨x, k, l2, l4, b2, b4, C1, p1, q1, us1', C2, p2, q2, us2', fi2', rfl, hK4, hxs, hnm, hpd, htk, hbb⟩
    have HK4 := hide hK4
    have HF4 := hide (HH.out.part hnm htk)
    have HP4 := hide (show PaidF lv l (bulkStrs (ns ++ [x]) + (ks ++ [k]).length + Kind.bulkS (ks ++ [k])) l4 b4 from by
      have e : bulkStrs (ns ++ [x]) + (ks ++ [k]).length + Kind.bulkS (ks ++ [k]) = bulkStrs ns + ks.length + Kind.bulkS ks + (1 + x.size) + 1 + k.bulk := by
        rw [bulkStrs_snoc, kbulkS_snoc, List.length_append, List.length_singleton]
        omega
      rw [e]
      exact HPF.out.part hnm hpd hbb hl6)
    have HLE := hide (show b4 = false → l4.length < lx.length from fun e => by
      have a1 := (hpd.2.2 e).1
      have a2 := hnm.1
      omega)
    have HLN2 := hide (show (ns ++ [x]).length = (ks ++ [k]).length from by rw [List.length_append, List.length_append, HLN.out]; rfl)
    have HSK := hide (skip_any hK4.rd ⟨#[125]⟩)
    clear hK4 hnm hpd htk hbb HPA HK HPF HH hb hbf lg HLN
    go_wp2_with fail
    refine HSK.out.mono ?_
    rintro e w5 ⟨ok, l5, rfl, h5, he5, hg5⟩
    have HE5 := hide (show Eaten [125] l4 ok l5 from he5)
    have HK5 := hide (HK4.out.read hgw hg5 h5)
    clear h5 he5 hg5 HK4 HSK
    rcases ok with _ | _
    rotate_left
    · have hlt := HE5.out.lt
      go_wp2
      go_end0
      refine ⟨ns ++ [x], ks ++ [k], l5, b4, C1, p1, q1, us1', C2, p2, q2, us2', fi2', rfl, HK5.out, ?_, ?_⟩
      · rw [Kind.bulk_form]
        exact paid_done HP4.out (by omega) (fun _ => by simp at hlt; omega)
      · rcases HE5.out with ⟨_, e⟩ | ⟨e, _⟩
        · exact FormAt.done HF4.out (fun _ => e)
        · cases e
    obtain ⟨rfl, hno⟩ := HE5.out.no
    have HNO := hide (show ∀ r, l5 ≠ 125 :: r from hno)
    obtain ⟨hb, hbf⟩ := HK5.out.rd.cells
    have lg := HK5.out.rd.lt
    clear hno HE5
    rcases b4 with _ | _
    rotate_left
    · go_wp2
      refine ⟨⟨ns ++ [x], ks ++ [k], l5, true, C1, p1, q1, us1', C2, p2, q2, us2', fi2', HK5.out.read hgw (grownBy_setCell _ ⟨g, 1, none⟩ _) (HK5.out.rd.setFail true), HLN2.out, HP4.out, HF4.out.dead⟩, ?_⟩
      rw [(HK5.out.rd.setFail true).meas, HM.out, if_pos rfl, if_neg (by decide)]
      omega
    have HLE4 := hide (HLE.out rfl)
    have HSK := hide (skip_any HK5.out.rd ⟨#[44]⟩)
    go_wp2_with fail
    refine HSK.out.mono ?_
    rintro e w6 ⟨ok, l6, rfl, h6, he6, hg6⟩
    have HC6 := hide (FormAt.comma HF4.out rfl HNO.out (show Eaten [44] l5 ok l6 from he6))
    have HL6 := hide (show l6.length ≤ l5.length from he6.le)
    have HK6 := hide (HK5.out.read hgw hg6 h6)
    obtain ⟨hb, hbf⟩ := HK6.out.rd.cells
    have lg := HK6.out.rd.lt
    clear h6 he6 hg6 HK5 HSK
    go_wp2
    refine ⟨⟨ns ++ [x], ks ++ [k], l6, !ok, C1, p1, q1, us1', C2, p2, q2, us2', fi2', HK6.out.read hgw (grownBy_setCell _ ⟨g, 1, none⟩ _) (HK6.out.rd.setFail _), HLN2.out, HP4.out.less HL6.out (fun _ => rfl), HC6.out⟩, ?_⟩
    have e2 : (if false = true then 0 else 1 + lx.length) = 1 + lx.length := if_neg (by decide)
    rw [(HK6.out.rd.setFail (!ok)).meas, HM.out, e2]
    have h1 := HLE4.out
    have h2 := HL6.out
    split <;> omega
end Go.Proofs.Ytbjblchhenmgjaa
set_option linter.unusedVariables false
set_option linter.unusedSimpArgs false
namespace Go.Proofs.Ytbjblchhenmgjaa
open Go.ChangeShapes Go.WideShapes Go.ChangeAt Go.RowKit

/-- ahead of and behind the parts: the boxes -/
structure SJ (w W : World) (g lv : Nat) (vs : List Value) (l : List UInt8) (fail : Bool) : Prop where
  kb : Row W (w.heap.size + 3) 47 vs
  rd : RdJ W g l fail
  rb : Row W w.heap.size 128 [.pointer (some ⟨g, 0, none⟩)]
  lb : Row W (w.heap.size + 1) 3 [.int .i64 (lv : Int)]
  zb : Row W (w.heap.size + 2) 47 [.int .i64 0, .slice none 0 0, .slice none 0 0]
  gr : w.grownBy W (some g)
section
variable {w W W' : World} {g lv : Nat} {vs vs' : List Value} {l l' : List UInt8} {fail fail' : Bool}
theorem SJ.read (h : SJ w W g lv vs l fail) (hgw : g < w.heap.size) (hg : W.grownBy W' (some g)) (hr : RdJ W' g l' fail') : SJ w W' g lv vs l' fail' :=
  ⟨h.kb.grown hg (fun e => by injection e with e; omega), hr, h.rb.grown hg (fun e => by injection e with e; omega), h.lb.grown hg (fun e => by injection e with e; omega), h.zb.grown hg (fun e => by injection e with e; omega), only_trans h.gr hg⟩
theorem SJ.put (h : SJ w W g lv vs l fail) (hgw : g < w.heap.size) (hb : Below (w.heap.size + 3) W W') (hk : Row W' (w.heap.size + 3) 47 vs') : SJ w W' g lv vs' l fail :=
  ⟨hk, h.rd.low hb (by omega), h.rb.below hb (by omega), h.lb.below hb (by omega), h.zb.below hb (by omega), only_low h.gr hb (by omega)⟩
theorem SJ.toKJ (h : SJ w W g lv [.int .i64 5, .slice none 0 0, .slice none 0 0] l fail) : KJ w W g lv (.slice none 0 0) [] [] (.slice none 0 0) [] [] [] l fail :=
  ⟨⟨h.kb, OwS.nil _ _ _ _ _, OwS.nil _ _ _ _ _, Nat.lt_succ_self _, fun g h => (by cases h), fun g h => (by cases h), fun g h => (by cases h), fun g h => (by cases h)⟩, h.rd, h.rb, h.lb, h.zb, h.gr⟩
end
theorem eaten_head {u l l' : List UInt8} {c : UInt8} (h : Eaten (c :: u) l true l') : ∀ a r, l = a :: r → a = c := fun a r e => by
  rcases h with ⟨_, h⟩ | ⟨h, _⟩
  · rw [h] at e
    simp only [List.cons_append] at e
    injection e with e _
    exact e.symm
  · cases h
theorem TakesK.listbad {lv : Nat} {l l1 l2 : List UInt8} {k : Kind} (he : Eaten [91] l true l1) (hc : ∀ a r, l = a :: r → a = 91) (hk : TakesK (lv + 1) l1 false k l2 true) : TakesK lv l false (.mk 4 [] [k]) l2 true := by
  intro k0 R hg _ e
  rcases Kind.read_cases hg _ R e with ⟨_, e1⟩ | ⟨_, e1⟩ | ⟨_, e1⟩ | ⟨x, rfl, hx, e1⟩ | ⟨_, _, _, e1⟩ | ⟨_, _, _, _, _, _, e1⟩
  rotate_left 3
  · obtain ⟨_, rfl⟩ := he.yes (r := bl x.text ++ 93 :: R) e1
    obtain ⟨_, h, _⟩ := hk x (93 :: R) hx rfl rfl
    cases h
  all_goals exact absurd (hc _ _ e1) (by decide)
theorem fl_eq {fl bad : Bool} {p : Prop} (h : fl = true ↔ (bad = true ∨ p)) (hp : ¬ p) : fl = bad := by cases fl <;> cases bad <;> simp_all
set_option maxRecDepth 100000 in
set_option maxHeartbeats 8000000 in
theorem kindRdI_of (f : Nat) (ih : ∀ f', f = f' + 1 → KindRdI f') (hpart : ∀ (f' lv : Nat), lv + 1 + f' = 7 → 1 ≤ lv → KindRdI f' → ∀ (w : World) (g : Nat), g < w.heap.size → PartAll w g lv) : KindRdI f := by
  intro l bad g lv w hlf hlv h
  have hgw := h.lt
  have HR0 := hide h
  have HIH := hide ih
  have HPT := hide hpart
  have HEND := hide (fun (W : World) (k : Kind) (vs : List Value) (fq : List Nat) (l' : List UInt8) (bad' : Bool) (hz : w.heap.size + 2 < W.heap.size) (ho : OwC W k.cells vs fq) (hn : New W fq (w.heap.size + 3)) (hr : RdJ W g l' bad') (hg : w.grownBy W (some g)) (hp : Paid lv l k.bulk l' bad') (ht : TakesK lv l bad k l' bad') (hbb : bad' = false → bad = false) =>
    show KindOut (fun w l b => RdJ w g l b) g lv l bad w (.returned (.agg vs.toArray)) (putN W (w.heap.size + 2) 0 vs) from by
      have hgr := setN_grown vs 0 (grown_refl W (some (w.heap.size + 2)))
      have hno : w.heap.size + 2 ∉ fq := hn.out (by omega)
      have hb : Below w.heap.size W (putN W (w.heap.size + 2) 0 vs) := below_of_grown hgr (by omega) (by omega)
      exact ⟨k, vs, fq, l', bad', rfl, ho.grown hgr hn.lt hno, (hn.grown hgr (fun b e => by injection e with e; subst e; exact hno)).mono (by omega), hr.low hb hgw, only_low hg hb (Nat.le_refl _), hp, ht, hbb⟩)
  clear h ih hpart
  go_enter Try.func96, Try.ntmps96
  go_upto_region 1 with fail
  generalize hw1 : World.alloc _ _ = w1
  have hb1 : Below w.heap.size w w1 := by rw [← hw1]; exact (((Below.refl _ _).alloc (Nat.le_refl _) _).alloc (by rw [World.size_alloc]; omega) _).alloc (by rw [World.size_alloc, World.size_alloc]; omega) _
  have hsz1 : w1.heap.size = w.heap.size + 3 := by rw [← hw1, World.size_alloc, World.size_alloc, World.size_alloc]
  have HRB := hide (show Row w1 w.heap.size 128 [.pointer (some ⟨g, 0, none⟩)] from by rw [← hw1]; exact ((Row.new w _ _).alloc _).alloc _)
  have HLB := hide (show Row w1 (w.heap.size + 1) 3 [.int .i64 (lv : Int)] from by
    rw [← hw1]
    have h := Row.new (w.alloc (.cells #[.pointer (some ⟨g, 0, none⟩)] 128)) 3 [.int .i64 (lv : Int)]
    rw [World.size_alloc] at h
    exact h.alloc _)
  have HZB := hide (show Row w1 (w.heap.size + 2) 47 [.int .i64 0, .slice none 0 0, .slice none 0 0] from by
    rw [← hw1]
    have h := Row.new ((w.alloc (.cells #[.pointer (some ⟨g, 0, none⟩)] 128)).alloc (.cells #[.int .i64 (lv : Int)] 3)) 47 [.int .i64 0, .slice none 0 0, .slice none 0 0]
    rw [World.size_alloc, World.size_alloc] at h
    exact h)
  have HR1 := hide (HR0.out.below hb1)
  have HG1 := hide (grownBy_below hb1 (some g))
  have r0 := HRB.out.cell 0
  have l0 := HLB.out.cell 0
  have lr := HRB.out.lt
  have ll := HLB.out.lt
  obtain ⟨hbc, hbf⟩ := HR1.out.cells
  have lg := HR1.out.lt
  clear hw1 hb1 HR0
  -- the level, and the box of the result
  have hsj : ∃ fl : Bool, (fl = true ↔ (bad = true ∨ 6 < lv)) := by
    by_cases h : bad = true ∨ 6 < lv
    · exact ⟨true, by simp [h]⟩
    · exact ⟨false, by simp [h]⟩
  obtain ⟨fl, hfl⟩ := hsj
  have HFL := hide hfl
  clear hfl
  by_cases hd : 6 < lv
  case' pos =>
    have hdi : (6 : Int) < (lv : Int) := by omega
    go_upto_region 5 with fail
    generalize hw2 : World.alloc _ _ = w2
    obtain rfl : fl = true := HFL.out.2 (.inr hd)
    have hgs := only_setCell (p := ⟨g, 1, none⟩) (grown_refl w1 (some g)) (.inl rfl) (.bool true)
    have hbn : Below (w1.setCell ⟨g, 1, none⟩ (.bool true)).heap.size (w1.setCell ⟨g, 1, none⟩ (.bool true)) w2 := by rw [← hw2]; exact (Below.refl _ _).alloc (Nat.le_refl _) _
    have hszn : (w1.setCell ⟨g, 1, none⟩ (.bool true)).heap.size = w.heap.size + 3 := by simpa [World.setCell] using hsz1
    have HS := hide (show SJ w w2 g lv [.int .i64 0, .slice none 0 0, .slice none 0 0] l true from by
      have hk : Row w2 (w.heap.size + 3) 47 [.int .i64 0, .slice none 0 0, .slice none 0 0] := by
        have h := Row.new (w1.setCell ⟨g, 1, none⟩ (.bool true)) 47 [.int .i64 0, .slice none 0 0, .slice none 0 0]
        rw [hszn] at h
        rw [← hw2]
        exact h
      exact ⟨hk, (HR1.out.setFail true).below hbn, (HRB.out.grown hgs (fun e => by injection e with e; omega)).below hbn (by omega), (HLB.out.grown hgs (fun e => by injection e with e; omega)).below hbn (by omega), (HZB.out.grown hgs (fun e => by injection e with e; omega)).below hbn (by omega), only_low (only_trans HG1.out hgs) hbn (by omega)⟩)
    clear hw2 hgs hbn hszn hdi hbc hbf r0 l0 lr ll HRB HLB HZB HR1 HG1 lg hsz1
  case' neg =>
    have hdi : ¬ ((6 : Int) < (lv : Int)) := by omega
    go_upto_region 5 with fail
    generalize hw2 : World.alloc _ _ = w2
    have hbn : Below w1.heap.size w1 w2 := by rw [← hw2]; exact (Below.refl _ _).alloc (Nat.le_refl _) _
    obtain rfl : fl = bad := by
      exact fl_eq HFL.out hd
    have HS := hide (show SJ w w2 g lv [.int .i64 0, .slice none 0 0, .slice none 0 0] l fl from by
      have hk : Row w2 (w.heap.size + 3) 47 [.int .i64 0, .slice none 0 0, .slice none 0 0] := by
        have h := Row.new w1 47 [.int .i64 0, .slice none 0 0, .slice none 0 0]
        rw [hsz1] at h
        rw [← hw2]
        exact h
      exact ⟨hk, HR1.out.below hbn, HRB.out.below hbn (by omega), HLB.out.below hbn (by omega), HZB.out.below hbn (by omega), only_low HG1.out hbn (by omega)⟩)
    clear hw2 hbn hdi hbc hbf r0 l0 lr ll HRB HLB HZB HR1 HG1 lg hsz1
  case' neg => rcases fl with _ | _
  case pos =>
    have HT := hide (show TakesK lv l bad (.mk 0 [] []) l true from TakesK.deep hd)
    have r0 := HS.out.rb.cell 0
    have rl := HS.out.rb.lt
    have l0 := HS.out.lb.cell 0
    have ll := HS.out.lb.lt
    obtain ⟨hbc, hbf⟩ := HS.out.rd.cells
    have lg := HS.out.rd.lt
    have q0 := HS.out.kb.cell 0
    have p0 := HS.out.kb.frozen 0
    have q1 := HS.out.kb.cell 1
    have p1 := HS.out.kb.frozen 1
    have q2 := HS.out.kb.cell 2
    have p2 := HS.out.kb.frozen 2
    have z0 := HS.out.zb.cell 0
    have y0 := HS.out.zb.frozen 0
    have z1 := HS.out.zb.cell 1
    have y1 := HS.out.zb.frozen 1
    have z2 := HS.out.zb.cell 2
    have y2 := HS.out.zb.frozen 2
    have lk := HS.out.kb.lt
    have lz := HS.out.zb.lt
    go_wp2
    refine bodyPost_ret (ret_row rfl _ _ (w.heap.size + 2) 47 [.int .i64 0, .slice none 0 0, .slice none 0 0] (HS.out.zb.setAll [.int .i64 0, .slice none 0 0, .slice none 0 0] rfl) _ rfl Try.underlying47 rfl (by kernel_rfl)) rfl ?_
    exact HEND.out w2 (.mk 0 [] []) _ [] l true HS.out.zb.lt (kleaf_ow _ 0 (by decide)) (New.nil _ _) HS.out.rd HS.out.gr (Paid.none lv l) HT.out (fun h => by cases h)
  case neg.true =>
    have HT := hide (show TakesK lv l true (.mk 0 [] []) l true from TakesK.bad)
    have r0 := HS.out.rb.cell 0
    have rl := HS.out.rb.lt
    have l0 := HS.out.lb.cell 0
    have ll := HS.out.lb.lt
    obtain ⟨hbc, hbf⟩ := HS.out.rd.cells
    have lg := HS.out.rd.lt
    have q0 := HS.out.kb.cell 0
    have p0 := HS.out.kb.frozen 0
    have q1 := HS.out.kb.cell 1
    have p1 := HS.out.kb.frozen 1
    have q2 := HS.out.kb.cell 2
    have p2 := HS.out.kb.frozen 2
    have z0 := HS.out.zb.cell 0
    have y0 := HS.out.zb.frozen 0
    have z1 := HS.out.zb.cell 1
    have y1 := HS.out.zb.frozen 1
    have z2 := HS.out.zb.cell 2
    have y2 := HS.out.zb.frozen 2
    have lk := HS.out.kb.lt
    have lz := HS.out.zb.lt
    go_wp2
    refine bodyPost_ret (ret_row rfl _ _ (w.heap.size + 2) 47 [.int .i64 0, .slice none 0 0, .slice none 0 0] (HS.out.zb.setAll [.int .i64 0, .slice none 0 0, .slice none 0 0] rfl) _ rfl Try.underlying47 rfl (by kernel_rfl)) rfl ?_
    exact HEND.out w2 (.mk 0 [] []) _ [] l true HS.out.zb.lt (kleaf_ow _ 0 (by decide)) (New.nil _ _) HS.out.rd HS.out.gr (Paid.none lv l) HT.out (fun h => by cases h)
  case neg.false =>
    have hd6 : lv ≤ 6 := Nat.not_lt.1 hd
    obtain ⟨f', rfl⟩ : ∃ f', f = f' + 1 := ⟨f - 1, by omega⟩
    have HI := hide (HIH.out f' rfl)
    have HPA := hide (HPT.out f' lv (by omega) hlv HI.out w g hgw)
    have hwd : IntKind.i64.wrap ((lv : Int) + 1) = (lv : Int) + 1 := wrapI _ (by omega) (by omega)
    have HIK := hide (fun (W : World) (l : List UInt8) (bad : Bool) (h : RdJ W g l bad) => show Calls Try.prog 96 #[.pointer (some ⟨g, 0, none⟩), .int .i64 ((lv : Int) + 1)] W (KindOut (fun w l b => RdJ w g l b) g (lv + 1) l bad W) from by
      have h := HI.out l bad g (lv + 1) W (by omega) (by omega) h
      rw [show ((lv + 1 : Nat) : Int) = (lv : Int) + 1 by omega] at h
      exact h)
    clear HIH HPT HFL
    have r0 := HS.out.rb.cell 0
    have rl := HS.out.rb.lt
    obtain ⟨hbc, hbf⟩ := HS.out.rd.cells
    have lg := HS.out.rd.lt
    have HSK := hide (skip_any HS.out.rd ⟨#[91]⟩)
    go_wp2_with fail
    refine HSK.out.mono ?_
    rintro e w3 ⟨ok, l1, rfl, hr, he, hg⟩
    have HE1 := hide (show Eaten [91] l ok l1 from he)
    replace HS := hide (HS.out.read hgw hg hr)
    clear r0 rl HSK hr he hg hbc hbf lg
    rcases ok with _ | _
    rotate_left
    · skip
      have r0 := HS.out.rb.cell 0
      have rl := HS.out.rb.lt
      have l0 := HS.out.lb.cell 0
      have ll := HS.out.lb.lt
      have hkb := HS.out.kb.lt
      have HKC := hide (HIK.out _ _ _ HS.out.rd)
      go_wp2_with fail
      refine HKC.out.mono ?_
      rintro e wk ⟨k, us, fq, lk5, b5, rfl, ho5, hn5, hr5, hg5, hp5, ht5, hb5⟩
      have HN5 := hide (hn5.mono (show w.heap.size + 3 + 1 ≤ w3.heap.size from hkb))
      replace HS := hide (HS.out.read hgw hg5 hr5)
      obtain ⟨B1, d1, B2, d2, j1, j2, rfl, k0, k1, k2, efq⟩ := ho5.oKind
      have HO5 := hide ho5
      have HP5 := hide hp5
      have HT5 := hide ht5
      have HB5 := hide hb5
      clear r0 rl l0 ll hkb HKC ho5 hn5 hr5 hg5 hp5 ht5 hb5 k1 k2 efq
      have q0 := HS.out.kb.cell 0
      have p0 := HS.out.kb.frozen 0
      have q1 := HS.out.kb.cell 1
      have p1 := HS.out.kb.frozen 1
      have q2 := HS.out.kb.cell 2
      have p2 := HS.out.kb.frozen 2
      have lk := HS.out.kb.lt
      go_upto_region 8 with fail
      generalize hw6 : World.alloc _ _ = w6
      have e6 : putN (wk.alloc (.cells #[.int .i64 k.sort, .slice B1 k.names.length d1, .slice B2 k.kids.length d2] 47)) (w.heap.size + 3) 0 [.int .i64 4, .slice none 0 0, .slice (some ⟨wk.heap.size, 0, none⟩) 1 1] = w6 := by rw [putN_alloc _ _ _ _ lk]; exact hw6
      have hgp := setN_grown [.int .i64 4, .slice none 0 0, .slice (some ⟨wk.heap.size, 0, none⟩) 1 1] 0 (grown_refl (wk.alloc (.cells #[.int .i64 k.sort, .slice B1 k.names.length d1, .slice B2 k.kids.length d2] 47)) (some (w.heap.size + 3)))
      rw [e6] at hgp
      have hA := (Below.refl wk.heap.size wk).alloc (Nat.le_refl _) (.cells #[.int .i64 k.sort, .slice B1 k.names.length d1, .slice B2 k.kids.length d2] 47)
      have hsA : (wk.alloc (.cells #[.int .i64 k.sort, .slice B1 k.names.length d1, .slice B2 k.kids.length d2] 47)).heap.size = wk.heap.size + 1 := World.size_alloc _ _
      have hnb : w.heap.size + 3 ∉ fq := HN5.out.out (by omega)
      have HR6 := hide (show Row w6 wk.heap.size 47 [.int .i64 k.sort, .slice B1 k.names.length d1, .slice B2 k.kids.length d2] from (Row.new wk _ _).grown hgp (fun e => by injection e with e; omega))
      have HO6 := hide ((HO5.out.alloc HN5.out.lt (.cells #[.int .i64 k.sort, .slice B1 k.names.length d1, .slice B2 k.kids.length d2] 47)).grown hgp (HN5.out.alloc (.cells #[.int .i64 k.sort, .slice B1 k.names.length d1, .slice B2 k.kids.length d2] 47)).lt hnb)
      have HN6 := hide ((HN5.out.alloc (.cells #[.int .i64 k.sort, .slice B1 k.names.length d1, .slice B2 k.kids.length d2] 47)).grown hgp (fun b e => by injection e with e; subst e; exact hnb))
      have HX6 := hide (show wk.heap.size ∉ fq ∧ w.heap.size + 3 ≤ wk.heap.size from ⟨fun hm => Nat.lt_irrefl _ (HN5.out.lt _ hm), Nat.le_of_lt lk⟩)
      replace HS := hide (show SJ w w6 g lv [.int .i64 4, .slice none 0 0, .slice (some ⟨wk.heap.size, 0, none⟩) 1 1] lk5 b5 from HS.out.put hgw ((hA.mono (Nat.le_of_lt lk)).trans (below_of_grown hgp (Nat.le_refl _) (by omega))) (by rw [← e6]; exact (HS.out.kb.alloc _).setAll [.int .i64 4, .slice none 0 0, .slice (some ⟨wk.heap.size, 0, none⟩) 1 1] rfl))
      clear hw6 e6 hgp hA hsA hnb HO5 HN5 q0 q1 q2 p0 p1 p2 lk
      have hbr : w6.grownBy w6.drew (some g) := grown_drewN w6 g 1
      have r0 := HS.out.rb.cell 0
      have rl := HS.out.rb.lt
      obtain ⟨hbc, hbf⟩ := HS.out.rd.cells
      have lg := HS.out.rd.lt
      rcases b5 with _ | _
      rotate_left
      · go_region_with (fail)
        all_goals
          clear r0 rl hbc hbf lg
          have r0 := HS.out.rb.cell 0
          have rl := HS.out.rb.lt
          have l0 := HS.out.lb.cell 0
          have ll := HS.out.lb.lt
          obtain ⟨hbc, hbf⟩ := HS.out.rd.cells
          have lg := HS.out.rd.lt
          have q0 := HS.out.kb.cell 0
          have p0 := HS.out.kb.frozen 0
          have q1 := HS.out.kb.cell 1
          have p1 := HS.out.kb.frozen 1
          have q2 := HS.out.kb.cell 2
          have p2 := HS.out.kb.frozen 2
          have z0 := HS.out.zb.cell 0
          have y0 := HS.out.zb.frozen 0
          have z1 := HS.out.zb.cell 1
          have y1 := HS.out.zb.frozen 1
          have z2 := HS.out.zb.cell 2
          have y2 := HS.out.zb.frozen 2
          have lk := HS.out.kb.lt
          have lz := HS.out.zb.lt
          go_wp2
          replace HS := hide (HS.out.read hgw (only_setCell (p := ⟨g, 1, none⟩) hbr (.inl rfl) (.bool true)) ((HS.out.rd.drewN 1).setFail true))
          have hgt := only_setCell (p := ⟨g, 1, none⟩) hbr (.inl rfl) (.bool true)
          replace HO6 := hide (HO6.out.grown hgt HN6.out.lt (HN6.out.out (by omega)))
          replace HR6 := hide (HR6.out.grown hgt (fun e => by injection e with e; have := HX6.out.2; omega))
          replace HN6 := hide (HN6.out.grown hgt (fun b e => by injection e with e; subst e; exact HN6.out.out (by omega)))
          refine bodyPost_ret (ret_row rfl _ _ (w.heap.size + 2) 47 [.int .i64 4, .slice none 0 0, .slice (some ⟨wk.heap.size, 0, none⟩) 1 1] (HS.out.zb.setAll [.int .i64 4, .slice none 0 0, .slice (some ⟨wk.heap.size, 0, none⟩) 1 1] rfl) _ rfl Try.underlying47 rfl (by kernel_rfl)) rfl ?_
          exact HEND.out _ (.mk 4 [] [k]) _ (wk.heap.size :: fq) lk5 true HS.out.zb.lt (kone_ow (by decide) HO6.out wk.heap.size HR6.out) ((HN6.out.mono (by omega)).consHi HX6.out.1 HX6.out.2 (Unf.row HR6.out) HR6.out.lt) HS.out.rd HS.out.gr (by rw [Kind.bulk_one]; exact Paid.more (by decide) HE1.out HP5.out (fun _ => rfl) hd6) (TakesK.listbad HE1.out (eaten_head HE1.out) HT5.out) (fun _ => by first | rfl | trivial)
      have HSK := hide (skip_any (HS.out.rd.drewN 1) ⟨#[93]⟩)
      go_region_with (go_simp; go_at_call 180; have hh : Calls Try.prog 180 _ w6.drew _ := HSK.out; refine hh.mono ?_; clear hh; rintro e w7 ⟨ok2, l7, rfl, hr7, he7, hg7⟩; have HE7 := hide (show Eaten [93] lk5 ok2 l7 from he7); have HS7 := hide (HS.out.read hgw (only_trans hbr hg7) hr7); have r7 := HS7.out.rb.cell 0; have rl7 := HS7.out.rb.lt; obtain ⟨hbc7, hbf7⟩ := HS7.out.rd.cells; have lg7 := HS7.out.rd.lt; have hg7' := hg7; clear hr7 he7 hg7)
      all_goals
        clear r7 rl7 hbc7 hbf7 lg7 r0 rl hbc hbf lg HSK
        have hx6 : w6.heap.size ≤ w7.heap.size := hg7'.size
        have hgq := only_trans hbr hg7'
        replace HO6 := hide (HO6.out.grown hgq HN6.out.lt (HN6.out.out (by omega)))
        replace HR6 := hide (HR6.out.grown hgq (fun e => by injection e with e; have := HX6.out.2; omega))
        replace HN6 := hide (HN6.out.grown hgq (fun b e => by injection e with e; subst e; exact HN6.out.out (by omega)))
        have hgs : w7.grownBy (w7.setCell ⟨g, 1, none⟩ (.bool (!ok2))) (some g) := grownBy_setCell w7 ⟨g, 1, none⟩ _
        replace HO6 := hide (HO6.out.grown hgs HN6.out.lt (HN6.out.out (by omega)))
        replace HR6 := hide (HR6.out.grown hgs (fun e => by injection e with e; have := HX6.out.2; omega))
        replace HN6 := hide (HN6.out.grown hgs (fun b e => by injection e with e; subst e; exact HN6.out.out (by omega)))
        have r0 := HS7.out.rb.cell 0
        have rl := HS7.out.rb.lt
        have l0 := HS7.out.lb.cell 0
        have ll := HS7.out.lb.lt
        obtain ⟨hbc, hbf⟩ := HS7.out.rd.cells
        have lg := HS7.out.rd.lt
        have q0 := HS7.out.kb.cell 0
        have p0 := HS7.out.kb.frozen 0
        have q1 := HS7.out.kb.cell 1
        have p1 := HS7.out.kb.frozen 1
        have q2 := HS7.out.kb.cell 2
        have p2 := HS7.out.kb.frozen 2
        have z0 := HS7.out.zb.cell 0
        have y0 := HS7.out.zb.frozen 0
        have z1 := HS7.out.zb.cell 1
        have y1 := HS7.out.zb.frozen 1
        have z2 := HS7.out.zb.cell 2
        have y2 := HS7.out.zb.frozen 2
        have lk := HS7.out.kb.lt
        have lz := HS7.out.zb.lt
        go_wp2
        replace HS := hide (HS7.out.read hgw hgs (HS7.out.rd.setFail (!ok2)))
        refine bodyPost_ret (ret_row rfl _ _ (w.heap.size + 2) 47 [.int .i64 4, .slice none 0 0, .slice (some ⟨wk.heap.size, 0, none⟩) 1 1] (HS.out.zb.setAll [.int .i64 4, .slice none 0 0, .slice (some ⟨wk.heap.size, 0, none⟩) 1 1] rfl) _ rfl Try.underlying47 rfl (by kernel_rfl)) rfl ?_
        exact HEND.out _ (.mk 4 [] [k]) _ (wk.heap.size :: fq) l7 (!ok2) HS.out.zb.lt (kone_ow (by decide) HO6.out wk.heap.size HR6.out) ((HN6.out.mono (by omega)).consHi HX6.out.1 HX6.out.2 (Unf.row HR6.out) HR6.out.lt) HS.out.rd HS.out.gr (by rw [Kind.bulk_one]; exact (Paid.more (by decide) HE1.out HP5.out (fun _ => rfl) hd6).shut HE7.out) (TakesK.list HE1.out (eaten_head HE1.out) HT5.out HE7.out) (fun _ => by first | rfl | trivial)
    obtain ⟨e1, hno1⟩ := HE1.out.no
    replace e1 := e1.symm
    subst e1
    have HNO1 := hide (show ∀ r, l ≠ [91] ++ r from hno1)
    clear hno1 HE1
    have r0 := HS.out.rb.cell 0
    have rl := HS.out.rb.lt
    have HSK := hide (skip_any HS.out.rd ⟨#[63]⟩)
    go_wp2_with fail
    refine HSK.out.mono ?_
    rintro e w4 ⟨ok, l2, rfl, hr, he, hg⟩
    have HE2 := hide (show Eaten [63] l ok l2 from he)
    replace HS := hide (HS.out.read hgw hg hr)
    clear r0 rl HSK hr he hg
    rcases ok with _ | _
    rotate_left
    · skip
      have r0 := HS.out.rb.cell 0
      have rl := HS.out.rb.lt
      have l0 := HS.out.lb.cell 0
      have ll := HS.out.lb.lt
      have hkb := HS.out.kb.lt
      have HKC := hide (HIK.out _ _ _ HS.out.rd)
      go_wp2_with fail
      refine HKC.out.mono ?_
      rintro e wk ⟨k, us, fq, lk5, b5, rfl, ho5, hn5, hr5, hg5, hp5, ht5, hb5⟩
      have HN5 := hide (hn5.mono (show w.heap.size + 3 + 1 ≤ w4.heap.size from hkb))
      replace HS := hide (HS.out.read hgw hg5 hr5)
      obtain ⟨B1, d1, B2, d2, j1, j2, rfl, k0, k1, k2, efq⟩ := ho5.oKind
      have HO5 := hide ho5
      have HP5 := hide hp5
      have HT5 := hide ht5
      have HB5 := hide hb5
      clear r0 rl l0 ll hkb HKC ho5 hn5 hr5 hg5 hp5 ht5 hb5 k1 k2 efq
      have q0 := HS.out.kb.cell 0
      have p0 := HS.out.kb.frozen 0
      have q1 := HS.out.kb.cell 1
      have p1 := HS.out.kb.frozen 1
      have q2 := HS.out.kb.cell 2
      have p2 := HS.out.kb.frozen 2
      have lk := HS.out.kb.lt
      go_upto_region 20 with fail
      generalize hw6 : World.alloc _ _ = w6
      have e6 : putN (wk.alloc (.cells #[.int .i64 k.sort, .slice B1 k.names.length d1, .slice B2 k.kids.length d2] 47)) (w.heap.size + 3) 0 [.int .i64 6, .slice none 0 0, .slice (some ⟨wk.heap.size, 0, none⟩) 1 1] = w6 := by rw [putN_alloc _ _ _ _ lk]; exact hw6
      have hgp := setN_grown [.int .i64 6, .slice none 0 0, .slice (some ⟨wk.heap.size, 0, none⟩) 1 1] 0 (grown_refl (wk.alloc (.cells #[.int .i64 k.sort, .slice B1 k.names.length d1, .slice B2 k.kids.length d2] 47)) (some (w.heap.size + 3)))
      rw [e6] at hgp
      have hA := (Below.refl wk.heap.size wk).alloc (Nat.le_refl _) (.cells #[.int .i64 k.sort, .slice B1 k.names.length d1, .slice B2 k.kids.length d2] 47)
      have hsA : (wk.alloc (.cells #[.int .i64 k.sort, .slice B1 k.names.length d1, .slice B2 k.kids.length d2] 47)).heap.size = wk.heap.size + 1 := World.size_alloc _ _
      have hnb : w.heap.size + 3 ∉ fq := HN5.out.out (by omega)
      have HR6 := hide (show Row w6 wk.heap.size 47 [.int .i64 k.sort, .slice B1 k.names.length d1, .slice B2 k.kids.length d2] from (Row.new wk _ _).grown hgp (fun e => by injection e with e; omega))
      have HO6 := hide ((HO5.out.alloc HN5.out.lt (.cells #[.int .i64 k.sort, .slice B1 k.names.length d1, .slice B2 k.kids.length d2] 47)).grown hgp (HN5.out.alloc (.cells #[.int .i64 k.sort, .slice B1 k.names.length d1, .slice B2 k.kids.length d2] 47)).lt hnb)
      have HN6 := hide ((HN5.out.alloc (.cells #[.int .i64 k.sort, .slice B1 k.names.length d1, .slice B2 k.kids.length d2] 47)).grown hgp (fun b e => by injection e with e; subst e; exact hnb))
      have HX6 := hide (show wk.heap.size ∉ fq ∧ w.heap.size + 3 ≤ wk.heap.size from ⟨fun hm => Nat.lt_irrefl _ (HN5.out.lt _ hm), Nat.le_of_lt lk⟩)
      replace HS := hide (show SJ w w6 g lv [.int .i64 6, .slice none 0 0, .slice (some ⟨wk.heap.size, 0, none⟩) 1 1] lk5 b5 from HS.out.put hgw ((hA.mono (Nat.le_of_lt lk)).trans (below_of_grown hgp (Nat.le_refl _) (by omega))) (by rw [← e6]; exact (HS.out.kb.alloc _).setAll [.int .i64 6, .slice none 0 0, .slice (some ⟨wk.heap.size, 0, none⟩) 1 1] rfl))
      clear hw6 e6 hgp hA hsA hnb HO5 HN5 q0 q1 q2 p0 p1 p2 lk
      have r0 := HS.out.rb.cell 0
      have rl := HS.out.rb.lt
      have l0 := HS.out.lb.cell 0
      have ll := HS.out.lb.lt
      obtain ⟨hbc, hbf⟩ := HS.out.rd.cells
      have lg := HS.out.rd.lt
      have q0 := HS.out.kb.cell 0
      have p0 := HS.out.kb.frozen 0
      have q1 := HS.out.kb.cell 1
      have p1 := HS.out.kb.frozen 1
      have q2 := HS.out.kb.cell 2
      have p2 := HS.out.kb.frozen 2
      have z0 := HS.out.zb.cell 0
      have y0 := HS.out.zb.frozen 0
      have z1 := HS.out.zb.cell 1
      have y1 := HS.out.zb.frozen 1
      have z2 := HS.out.zb.cell 2
      have y2 := HS.out.zb.frozen 2
      have lk := HS.out.kb.lt
      have lz := HS.out.zb.lt
      go_wp2
      refine bodyPost_ret (ret_row rfl _ _ (w.heap.size + 2) 47 [.int .i64 6, .slice none 0 0, .slice (some ⟨wk.heap.size, 0, none⟩) 1 1] (HS.out.zb.setAll [.int .i64 6, .slice none 0 0, .slice (some ⟨wk.heap.size, 0, none⟩) 1 1] rfl) _ rfl Try.underlying47 rfl (by kernel_rfl)) rfl ?_
      exact HEND.out _ (.mk 6 [] [k]) _ (wk.heap.size :: fq) lk5 b5 HS.out.zb.lt (kone_ow (by decide) HO6.out wk.heap.size HR6.out) ((HN6.out.mono (by omega)).consHi HX6.out.1 HX6.out.2 (Unf.row HR6.out) HR6.out.lt) HS.out.rd HS.out.gr (by rw [Kind.bulk_one]; exact Paid.more (by decide) HE2.out HP5.out (fun _ => rfl) hd6) (TakesK.maybe HE2.out (eaten_head HE2.out) HT5.out) (fun _ => by first | rfl | trivial)
    obtain ⟨e2, hno2⟩ := HE2.out.no
    replace e2 := e2.symm
    subst e2
    have HNO2 := hide (show ∀ r, l ≠ [63] ++ r from hno2)
    clear hno2 HE2
    have r0 := HS.out.rb.cell 0
    have rl := HS.out.rb.lt
    have HSK := hide (skip_any HS.out.rd ⟨#[123]⟩)
    go_wp2_with fail
    refine HSK.out.mono ?_
    rintro e w5 ⟨ok, l3, rfl, hr, he, hg⟩
    have HE3 := hide (show Eaten [123] l ok l3 from he)
    replace HS := hide (HS.out.read hgw hg hr)
    clear r0 rl HSK hr he hg
    rcases ok with _ | _
    rotate_left
    · skip
      obtain rfl : l = 123 :: l3 := by rcases HE3.out with ⟨_, h⟩ | ⟨h, _⟩ <;> first | exact h | cases h
      have q0 := HS.out.kb.cell 0
      have p0 := HS.out.kb.frozen 0
      have q1 := HS.out.kb.cell 1
      have p1 := HS.out.kb.frozen 1
      have q2 := HS.out.kb.cell 2
      have p2 := HS.out.kb.frozen 2
      have lk := HS.out.kb.lt
      have r0 := HS.out.rb.cell 0
      have rl := HS.out.rb.lt
      replace HS := hide (HS.out.put hgw ((Below.refl _ _).setCell (p := ⟨w.heap.size + 3, 0, none⟩) (Nat.le_refl _) (.int .i64 5)) (HS.out.kb.set 0 (.int .i64 5)))
      have HKD := hide (kidsJ_any hd6 hgw HPA.out (HS.out.toKJ))
      go_wp2_with fail
      refine HKD.out.mono ?_
      rintro e w9 ⟨ns, ks, l9, b9, B1, n1, d1, us1, B2, n2, d2, us2, fi2, rfl, hk, hpd, htk⟩
      have HK := hide hk
      have HPD := hide hpd
      have HTK := hide htk
      clear q0 q1 q2 p0 p1 p2 lk r0 rl HKD hk hpd htk
      have q0 := HK.out.two.box.cell 0
      have q1 := HK.out.two.box.cell 1
      have q2 := HK.out.two.box.cell 2
      have z0 := HK.out.zb.cell 0
      have y0 := HK.out.zb.frozen 0
      have z1 := HK.out.zb.cell 1
      have y1 := HK.out.zb.frozen 1
      have z2 := HK.out.zb.cell 2
      have y2 := HK.out.zb.frozen 2
      have lk := HK.out.two.box.lt
      have lz := HK.out.zb.lt
      go_wp2
      obtain ⟨fq, ho, hnw⟩ := kform_ow HK.out.two (by decide)
      refine bodyPost_ret (ret_row rfl _ _ (w.heap.size + 2) 47 (kindMk 5 (.slice B1 n1 d1) (.slice B2 n2 d2)) (HK.out.zb.setAll (kindMk 5 (.slice B1 n1 d1) (.slice B2 n2 d2)) rfl) _ rfl Try.underlying47 rfl (by kernel_rfl)) rfl ?_
      exact HEND.out _ (.mk 5 ns ks) _ fq l9 b9 HK.out.zb.lt ho (hnw.mono (by omega)) HK.out.rd HK.out.gr HPD.out HTK.out (fun _ => by first | rfl | trivial)
    obtain ⟨e3, hno3⟩ := HE3.out.no
    replace e3 := e3.symm
    subst e3
    have HNO3 := hide (show ∀ r, l ≠ [123] ++ r from hno3)
    clear hno3 HE3
    have r0 := HS.out.rb.cell 0
    have rl := HS.out.rb.lt
    have HSK := hide (skip_any HS.out.rd ⟨#[110, 117, 109]⟩)
    go_wp2_with fail
    refine HSK.out.mono ?_
    rintro e w6 ⟨ok, l4, rfl, hr, he, hg⟩
    have HE4 := hide (show Eaten [110, 117, 109] l ok l4 from he)
    replace HS := hide (HS.out.read hgw hg hr)
    clear r0 rl HSK hr he hg
    rcases ok with _ | _
    rotate_left
    · skip
      have r0 := HS.out.rb.cell 0
      have rl := HS.out.rb.lt
      have l0 := HS.out.lb.cell 0
      have ll := HS.out.lb.lt
      obtain ⟨hbc, hbf⟩ := HS.out.rd.cells
      have lg := HS.out.rd.lt
      have q0 := HS.out.kb.cell 0
      have p0 := HS.out.kb.frozen 0
      have q1 := HS.out.kb.cell 1
      have p1 := HS.out.kb.frozen 1
      have q2 := HS.out.kb.cell 2
      have p2 := HS.out.kb.frozen 2
      have z0 := HS.out.zb.cell 0
      have y0 := HS.out.zb.frozen 0
      have z1 := HS.out.zb.cell 1
      have y1 := HS.out.zb.frozen 1
      have z2 := HS.out.zb.cell 2
      have y2 := HS.out.zb.frozen 2
      have lk := HS.out.kb.lt
      have lz := HS.out.zb.lt
      replace HS := hide (HS.out.put hgw ((Below.refl _ _).setCell (p := ⟨w.heap.size + 3, 0, none⟩) (Nat.le_refl _) (.int .i64 1)) (HS.out.kb.set 0 (.int .i64 1)))
      go_wp2
      refine bodyPost_ret (ret_row rfl _ _ (w.heap.size + 2) 47 [.int .i64 1, .slice none 0 0, .slice none 0 0] (HS.out.zb.setAll [.int .i64 1, .slice none 0 0, .slice none 0 0] rfl) _ rfl Try.underlying47 rfl (by kernel_rfl)) rfl ?_
      exact HEND.out _ (.mk 1 [] []) _ [] l4 false HS.out.zb.lt (kleaf_ow _ 1 (by decide)) (New.nil _ _) HS.out.rd HS.out.gr (Paid.leaf (by decide) HE4.out _ rfl) (TakesK.num HE4.out (eaten_head HE4.out)) (fun _ => by first | rfl | trivial)
    obtain ⟨e4, hno4⟩ := HE4.out.no
    replace e4 := e4.symm
    subst e4
    have HNO4 := hide (show ∀ r, l ≠ [110, 117, 109] ++ r from hno4)
    clear hno4 HE4
    have r0 := HS.out.rb.cell 0
    have rl := HS.out.rb.lt
    have HSK := hide (skip_any HS.out.rd ⟨#[116, 101, 120, 116]⟩)
    go_wp2_with fail
    refine HSK.out.mono ?_
    rintro e w7 ⟨ok, l5, rfl, hr, he, hg⟩
    have HE5 := hide (show Eaten [116, 101, 120, 116] l ok l5 from he)
    replace HS := hide (HS.out.read hgw hg hr)
    clear r0 rl HSK hr he hg
    rcases ok with _ | _
    rotate_left
    · skip
      have r0 := HS.out.rb.cell 0
      have rl := HS.out.rb.lt
      have l0 := HS.out.lb.cell 0
      have ll := HS.out.lb.lt
      obtain ⟨hbc, hbf⟩ := HS.out.rd.cells
      have lg := HS.out.rd.lt
      have q0 := HS.out.kb.cell 0
      have p0 := HS.out.kb.frozen 0
      have q1 := HS.out.kb.cell 1
      have p1 := HS.out.kb.frozen 1
      have q2 := HS.out.kb.cell 2
      have p2 := HS.out.kb.frozen 2
      have z0 := HS.out.zb.cell 0
      have y0 := HS.out.zb.frozen 0
      have z1 := HS.out.zb.cell 1
      have y1 := HS.out.zb.frozen 1
      have z2 := HS.out.zb.cell 2
      have y2 := HS.out.zb.frozen 2
      have lk := HS.out.kb.lt
      have lz := HS.out.zb.lt
      replace HS := hide (HS.out.put hgw ((Below.refl _ _).setCell (p := ⟨w.heap.size + 3, 0, none⟩) (Nat.le_refl _) (.int .i64 2)) (HS.out.kb.set 0 (.int .i64 2)))
      go_wp2
      refine bodyPost_ret (ret_row rfl _ _ (w.heap.size + 2) 47 [.int .i64 2, .slice none 0 0, .slice none 0 0] (HS.out.zb.setAll [.int .i64 2, .slice none 0 0, .slice none 0 0] rfl) _ rfl Try.underlying47 rfl (by kernel_rfl)) rfl ?_
      exact HEND.out _ (.mk 2 [] []) _ [] l5 false HS.out.zb.lt (kleaf_ow _ 2 (by decide)) (New.nil _ _) HS.out.rd HS.out.gr (Paid.leaf (by decide) HE5.out _ rfl) (TakesK.text HE5.out (eaten_head HE5.out)) (fun _ => by first | rfl | trivial)
    obtain ⟨e5, hno5⟩ := HE5.out.no
    replace e5 := e5.symm
    subst e5
    have HNO5 := hide (show ∀ r, l ≠ [116, 101, 120, 116] ++ r from hno5)
    clear hno5 HE5
    have r0 := HS.out.rb.cell 0
    have rl := HS.out.rb.lt
    have HSK := hide (skip_any HS.out.rd ⟨#[102, 108, 97, 103]⟩)
    go_wp2_with fail
    refine HSK.out.mono ?_
    rintro e w8 ⟨ok, l6, rfl, hr, he, hg⟩
    have HE6 := hide (show Eaten [102, 108, 97, 103] l ok l6 from he)
    replace HS := hide (HS.out.read hgw hg hr)
    clear r0 rl HSK hr he hg
    rcases ok with _ | _
    rotate_left
    · skip
      have r0 := HS.out.rb.cell 0
      have rl := HS.out.rb.lt
      have l0 := HS.out.lb.cell 0
      have ll := HS.out.lb.lt
      obtain ⟨hbc, hbf⟩ := HS.out.rd.cells
      have lg := HS.out.rd.lt
      have q0 := HS.out.kb.cell 0
      have p0 := HS.out.kb.frozen 0
      have q1 := HS.out.kb.cell 1
      have p1 := HS.out.kb.frozen 1
      have q2 := HS.out.kb.cell 2
      have p2 := HS.out.kb.frozen 2
      have z0 := HS.out.zb.cell 0
      have y0 := HS.out.zb.frozen 0
      have z1 := HS.out.zb.cell 1
      have y1 := HS.out.zb.frozen 1
      have z2 := HS.out.zb.cell 2
      have y2 := HS.out.zb.frozen 2
      have lk := HS.out.kb.lt
      have lz := HS.out.zb.lt
      replace HS := hide (HS.out.put hgw ((Below.refl _ _).setCell (p := ⟨w.heap.size + 3, 0, none⟩) (Nat.le_refl _) (.int .i64 3)) (HS.out.kb.set 0 (.int .i64 3)))
      go_wp2
      refine bodyPost_ret (ret_row rfl _ _ (w.heap.size + 2) 47 [.int .i64 3, .slice none 0 0, .slice none 0 0] (HS.out.zb.setAll [.int .i64 3, .slice none 0 0, .slice none 0 0] rfl) _ rfl Try.underlying47 rfl (by kernel_rfl)) rfl ?_
      exact HEND.out _ (.mk 3 [] []) _ [] l6 false HS.out.zb.lt (kleaf_ow _ 3 (by decide)) (New.nil _ _) HS.out.rd HS.out.gr (Paid.leaf (by decide) HE6.out _ rfl) (TakesK.flag HE6.out (eaten_head HE6.out)) (fun _ => by first | rfl | trivial)
    obtain ⟨e6, hno6⟩ := HE6.out.no
    replace e6 := e6.symm
    subst e6
    have HNO6 := hide (show ∀ r, l ≠ [102, 108, 97, 103] ++ r from hno6)
    clear hno6 HE6
    have r0 := HS.out.rb.cell 0
    have rl := HS.out.rb.lt
    have l0 := HS.out.lb.cell 0
    have ll := HS.out.lb.lt
    obtain ⟨hbc, hbf⟩ := HS.out.rd.cells
    have lg := HS.out.rd.lt
    have q0 := HS.out.kb.cell 0
    have p0 := HS.out.kb.frozen 0
    have q1 := HS.out.kb.cell 1
    have p1 := HS.out.kb.frozen 1
    have q2 := HS.out.kb.cell 2
    have p2 := HS.out.kb.frozen 2
    have z0 := HS.out.zb.cell 0
    have y0 := HS.out.zb.frozen 0
    have z1 := HS.out.zb.cell 1
    have y1 := HS.out.zb.frozen 1
    have z2 := HS.out.zb.cell 2
    have y2 := HS.out.zb.frozen 2
    have lk := HS.out.kb.lt
    have lz := HS.out.zb.lt
    replace HS := hide (HS.out.read hgw (grownBy_setCell _ ⟨g, 1, none⟩ _) (HS.out.rd.setFail true))
    go_wp2
    refine bodyPost_ret (ret_row rfl _ _ (w.heap.size + 2) 47 [.int .i64 0, .slice none 0 0, .slice none 0 0] (HS.out.zb.setAll [.int .i64 0, .slice none 0 0, .slice none 0 0] rfl) _ rfl Try.underlying47 rfl (by kernel_rfl)) rfl ?_
    exact HEND.out _ (.mk 0 [] []) _ [] l true HS.out.zb.lt (kleaf_ow _ 0 (by decide)) (New.nil _ _) HS.out.rd HS.out.gr (Paid.none lv l) (TakesK.none HNO1.out HNO2.out HNO3.out HNO4.out HNO5.out HNO6.out) (fun h => by cases h)
theorem kindRdI_any (hpart : ∀ (f' lv : Nat), lv + 1 + f' = 7 → 1 ≤ lv → KindRdI f' → ∀ (w : World) (g : Nat), g < w.heap.size → PartAll w g lv) : ∀ f, KindRdI f
  | 0 => kindRdI_of 0 (fun f' e => by cases e) hpart
  | f + 1 => kindRdI_of (f + 1) (fun f' e => by injection e with e; subst e; exact kindRdI_any hpart f) hpart
end Go.Proofs.Ytbjblchhenmgjaa
set_option linter.unusedVariables false
set_option linter.unusedSimpArgs false
namespace Go.Proofs.Ytbjblchhenmgjaa
open Go.ChangeShapes Go.WideShapes Go.ChangeAt Go.RowKit

mutual
def Kind.mk_ : Kind → Nat → Nat → Prop
  | .mk sort names kids, a, b => ∃ e1 e2 : Nat, sort = ((a : Nat) : Int) ∧ MkStringS names (a + 1) e1 ∧ Kind.mkS kids e1 e2 ∧ b = e2
def Kind.mkS : List Kind → Nat → Nat → Prop
  | [], a, b => a = b
  | x :: r, a, b => ∃ c, x.mk_ a c ∧ Kind.mkS r c b
end
mutual
def Kind.cnt : Kind → Nat
  | .mk sort names kids => 1 + names.length + Kind.cntS kids
def Kind.cntS : List Kind → Nat
  | [] => 0
  | x :: r => x.cnt + Kind.cntS r
end
theorem Kind.mk_iff (x : Kind) (a b : Nat) : x.mk_ a b ↔ ∃ e1 e2 : Nat, x.sort = ((a : Nat) : Int) ∧ MkStringS x.names (a + 1) e1 ∧ Kind.mkS x.kids e1 e2 ∧ b = e2 := by cases x; rfl
theorem Kind.cnt_eq (x : Kind) : x.cnt = 1 + x.names.length + Kind.cntS x.kids := by cases x; rfl
theorem Kind.mkS_snoc : ∀ (l : List Kind) (x : Kind) (a c b : Nat), Kind.mkS l a c → x.mk_ c b → Kind.mkS (l ++ [x]) a b
  | [], x, a, c, b, h, hx => by
    simp only [Kind.mkS] at h
    subst h
    exact ⟨b, hx, rfl⟩
  | y :: r, x, a, c, b, h, hx => by
    obtain ⟨d, h1, h2⟩ := h
    exact ⟨d, h1, Kind.mkS_snoc r x d c b h2 hx⟩
theorem Kind.mkS_drop : ∀ (l : List Kind) (b : Nat) (k : Nat) (h : k < l.length) (c : Nat), Kind.mkS (l.drop k) c b → ∃ d, l[k].mk_ c d ∧ Kind.mkS (l.drop (k + 1)) d b
  | x :: r, b, 0, _, c, h => by
    obtain ⟨d, h1, h2⟩ := h
    exact ⟨d, h1, h2⟩
  | x :: r, b, k + 1, hk, c, h => Kind.mkS_drop r b k (by simpa using hk) c h
theorem Kind.cntS_append (a b : List Kind) : Kind.cntS (a ++ b) = Kind.cntS a + Kind.cntS b := by
  induction a with
  | nil => simp [Kind.cntS]
  | cons x a ih => simp [Kind.cntS, ih]; omega
theorem Kind.cntS_snoc (l : List Kind) (k : Nat) (h : k < l.length) : Kind.cntS (l.take (k + 1)) = Kind.cntS (l.take k) + l[k].cnt := by
  rw [List.take_succ_eq_append_getElem h, Kind.cntS_append]
  simp [Kind.cntS]
theorem Kind.cntS_le (l : List Kind) (k : Nat) : Kind.cntS (l.take k) ≤ Kind.cntS l := by
  conv => rhs; rw [← List.take_append_drop k l, Kind.cntS_append]
  omega
theorem Kind.mkS_le_of (l : List Kind) (ih : ∀ x ∈ l, ∀ a b, x.mk_ a b → a ≤ b) : ∀ a b, Kind.mkS l a b → a ≤ b := by
  induction l with
  | nil => intro a b h; simp only [Kind.mkS] at h; omega
  | cons x l ihl => intro a b h; obtain ⟨c, h1, h2⟩ := h; exact Nat.le_trans (ih x (by simp) _ _ h1) (ihl (fun y hy => ih y (by simp [hy])) _ _ h2)
theorem Kind.mk_le (x : Kind) : ∀ a b, x.mk_ a b → a ≤ b := by
  refine Kind.ind (P := fun x => ∀ a b, x.mk_ a b → a ≤ b) (fun x ihx => ?_) x
  intro a b h
  have ih := Kind.mkS_le_of x.kids ihx
  obtain ⟨e1, e2, h0, h1, h2, hb⟩ := (x.mk_iff a b).1 h
  have q1 := h1.1
  have q2 := ih _ _ h2
  omega
theorem Kind.mkS_le (l : List Kind) : ∀ a b, Kind.mkS l a b → a ≤ b := Kind.mkS_le_of l fun x _ => x.mk_le

def MarkKindS (l : List Kind) : Prop := ∀ (A : Option Addr) (n c : Nat) (fp : List Nat) (lo : Nat) (z : Int) (k0 : Nat) (w : World), z = k0 → Ow w (.s 3 l.length (l.flatMap Kind.cells)) (.slice A n c) fp → New w fp lo → k0 + Kind.cntS l ≤ 1099511627776 →
  Calls Try.prog 100 #[.slice A n c, .int .i64 z] w fun e w' => ∃ (l' : List Kind), e = .returned (.int .i64 ((k0 + Kind.cntS l : Nat) : Int)) ∧ l'.length = l.length ∧ Ow w' (.s 3 l'.length (l'.flatMap Kind.cells)) (.slice A n c) fp ∧ Kind.mkS l' k0 (k0 + Kind.cntS l) ∧ Touch fp w w'
set_option maxRecDepth 100000 in
set_option maxHeartbeats 1000000 in
theorem markKindS_of (l : List Kind) (ih : ∀ x ∈ l, MarkKindS x.kids) : MarkKindS l := by
  intro A n c fp lo z k0 w hz h hn hb
  subst hz
  obtain ⟨rfl, hc, hm⟩ := h.nlen
  unfold maxLen at hm
  go_enter Try.func100, Try.ntmps100
  go_wp2
  go_loopw [1, 5] (fun a i wr => (∃ (j : Nat) (lj : List Kind), j ≤ l.length ∧ lj.length = l.length ∧ a = .int .i64 ((k0 + Kind.cntS (l.take j) : Nat) : Int) ∧ i = .int .i64 (j : Nat) ∧ Ow wr (.s 3 lj.length (lj.flatMap Kind.cells)) (.slice A l.length c) fp ∧ Kind.mkS (lj.take j) k0 (k0 + Kind.cntS (l.take j)) ∧ lj.drop j = l.drop j) ∧ Touch fp w wr) (fun _ i _ => l.length - (intOf i).toNat)
  case atStart => exact ⟨⟨0, l, Nat.zero_le _, rfl, by simp [Kind.cntS], rfl, h, by simp [Kind.cntS, Kind.mkS], rfl⟩, Touch.refl _ _⟩
  case round =>
    obtain ⟨⟨j, lj, hj, hlj, rfl, rfl, hoj, hmj, hdj⟩, ht⟩ := hrel
    have HN := hide (ht.new hn)
    have HT := hide ht
    have HM := hide hmj
    have HL := hide hlj
    have HD := hide hdj
    clear hmj ht hdj
    by_cases hlt : j < l.length
    · have hltj : j < lj.length := by omega
      have hxe : lj[j] = l[j] := by
        have h1 : (lj.drop j)[0]? = (l.drop j)[0]? := by rw [HD.out]
        simpa [List.getElem?_drop, List.getElem?_eq_getElem hlt, List.getElem?_eq_getElem hltj] using h1
      have HS := hide (Kind.cntS_snoc l j hlt)
      have hle := Kind.cntS_le l (j + 1)
      obtain ⟨g, off, us, fi, rfl, hg, hfi, hgi, hnd, hul, hcs, hov, hput⟩ := hoj.upd Kind.cells_len HN.out.nd hltj
      rw [hxe] at hov
      have HC := hide (ih _ (List.getElem_mem hlt))
      have HCN := hide (l[j].cnt_eq)
      clear hxe
      generalize hxx : l[j] = x at *
      have HXX := hide hxx
      clear hxx
      have hbb : k0 + Kind.cntS (l.take j) + (1 + x.names.length + Kind.cntS x.kids) ≤ 1099511627776 := by have h1 := HS.out; have h2 := HCN.out; have h3 : Kind.cntS l ≥ Kind.cntS (l.take (j + 1)) := hle; omega
      obtain ⟨A1, c1, A2, c2, f1, f2, rfl, w0, o1, o2, rfl⟩ := hov.oKind
      have p0 := hcs 0 _ rfl
      have p1 := hcs 1 _ rfl
      have p2 := hcs 2 _ rfl
      simp only [Nat.add_zero] at p0
      have hu := HN.out.uf g hg
      have hgl := HN.out.lt g hg
      have hfl : Lt (f1 ++ (f2)) wr.heap.size := HN.out.lt.sub hfi
      have q0 := unf_frozen hu (off + j * 3)
      have q1 := unf_frozen hu (off + j * 3 + 1)
      have q2 := unf_frozen hu (off + j * 3 + 2)
      have dj1 := (List.nodup_append.1 hnd).2.2
      have n1 := (List.nodup_append.1 hnd).1
      have gn1 : g ∉ f1 := fun hm => hgi (List.mem_append_left _ hm)
      have fl1 := hfl.left
      have n2 := (List.nodup_append.1 hnd).2.1
      have gn2 : g ∉ f2 := (fun hm => hgi (List.mem_append_right _ hm))
      have fl2 := hfl.right
      have sb1 : f1 ⊆ fp := fun b hb => hfi (List.mem_append_left _ hb)
      have nw1 : New wr f1 lo := ⟨fun b hb => HN.out.fr b (sb1 hb), n1, fun b hb => HN.out.uf b (sb1 hb)⟩
      have sb2 : f2 ⊆ fp := fun b hb => hfi (List.mem_append_right _ hb)
      have nw2 : New wr f2 lo := ⟨fun b hb => HN.out.fr b (sb2 hb), n2, fun b hb => HN.out.uf b (sb2 hb)⟩
      have HP := hide hput
      clear hcs hput hov hlj hoj
      have O1 := hide o1
      clear o1
      have O2 := hide o2
      clear o2
      have seg0 : Seg g (off + j * 3) (off + j * 3 + 3) [] wr wr := Seg.refl _ _ _ _ _
      go_wp2_with fail
      have sg1 := (seg0.setCell (o := off + j * 3) (by omega) (by omega) (.int .i64 (((k0 + Kind.cntS (l.take j)) : Nat) : Int)))
      have OS1 := seg_read O1.out sg1 fl1 gn1 (fun b hb hm => by simp at hm)
      have NS1 := seg_new nw1 sg1
      refine (markStringS_any _ _ _ _ _ lo _ ((k0 + Kind.cntS (l.take j)) + 1) _ (by omega) (OS1) (NS1) (by have := HCN.out; have := HS.out; omega)).mono ?_
      rintro e w1_ ⟨y1, rfl, yl1, yo1, ym1, t1⟩
      have YO1 := hide yo1
      have YL1 := hide yl1
      clear yo1 OS1
      have hgl1 := Nat.lt_of_lt_of_le hgl sg1.size
      have p1_0 : w1_.cell? ⟨g, off + j * 3, none⟩ = some (.int .i64 (((k0 + Kind.cntS (l.take j)) : Nat) : Int)) := (World.cell?_of_block (a := ⟨g, off + j * 3, none⟩) (t1.block g hgl1 gn1)).trans (by go_simp)
      have p1_1 : w1_.cell? ⟨g, off + j * 3 + 1, none⟩ = some (.slice A1 x.names.length c1) := (World.cell?_of_block (a := ⟨g, off + j * 3 + 1, none⟩) (t1.block g hgl1 gn1)).trans (by go_simp)
      have p1_2 : w1_.cell? ⟨g, off + j * 3 + 2, none⟩ = some (.slice A2 x.kids.length c2) := (World.cell?_of_block (a := ⟨g, off + j * 3 + 2, none⟩) (t1.block g hgl1 gn1)).trans (by go_simp)
      have hu1 := t1.unf g (sg1.unf g hu)
      have q1_0 := unf_frozen hu1 (off + j * 3)
      have q1_1 := unf_frozen hu1 (off + j * 3 + 1)
      have q1_2 := unf_frozen hu1 (off + j * 3 + 2)
      have seg1 : Seg g (off + j * 3) (off + j * 3 + 3) (f1) wr w1_ := (Seg.mono sg1 (by intro b hb; first | (cases hb; done) | exact hb | (simp only [List.nil_append, List.append_assoc, List.mem_append, List.mem_cons, List.not_mem_nil, or_false, false_or] at hb ⊢; simp [hb]))).touch t1 (by intro b hb; first | (cases hb; done) | exact hb | (simp only [List.nil_append, List.append_assoc, List.mem_append, List.mem_cons, List.not_mem_nil, or_false, false_or] at hb ⊢; simp [hb])) gn1 hgl1
      go_wp2_with fail
      have sg2 := seg1
      have OS2 := seg_read O2.out sg2 fl2 gn2 (fun b hb hm => by (try simp only [List.mem_append] at hm); rcases hm with hm <;> first | exact dj1 b hm b (by simp [hb]) rfl)
      have NS2 := seg_new nw2 sg2
      refine (HC.out _ _ _ _ lo _ (((k0 + Kind.cntS (l.take j)) + 1) + x.names.length) _ (by omega) (OS2) (NS2) (by have := HCN.out; have := HS.out; omega)).mono ?_
      rintro e w2_ ⟨y2, rfl, yl2, yo2, ym2, t2⟩
      have YO2 := hide yo2
      have YL2 := hide yl2
      clear yo2 OS2
      have hgl2 := Nat.lt_of_lt_of_le hgl sg2.size
      have p2_0 : w2_.cell? ⟨g, off + j * 3, none⟩ = some (.int .i64 (((k0 + Kind.cntS (l.take j)) : Nat) : Int)) := (World.cell?_of_block (a := ⟨g, off + j * 3, none⟩) (t2.block g hgl2 gn2)).trans (by go_simp)
      have p2_1 : w2_.cell? ⟨g, off + j * 3 + 1, none⟩ = some (.slice A1 x.names.length c1) := (World.cell?_of_block (a := ⟨g, off + j * 3 + 1, none⟩) (t2.block g hgl2 gn2)).trans (by go_simp)
      have p2_2 : w2_.cell? ⟨g, off + j * 3 + 2, none⟩ = some (.slice A2 x.kids.length c2) := (World.cell?_of_block (a := ⟨g, off + j * 3 + 2, none⟩) (t2.block g hgl2 gn2)).trans (by go_simp)
      have hu2 := t2.unf g (sg2.unf g hu)
      have q2_0 := unf_frozen hu2 (off + j * 3)
      have q2_1 := unf_frozen hu2 (off + j * 3 + 1)
      have q2_2 := unf_frozen hu2 (off + j * 3 + 2)
      have YO1 := hide (Ow.touch YO1.out t2 (fun b hb => Nat.lt_of_lt_of_le (fl1 b hb) sg2.size) (fun b hb hm => dj1 b hb b (by simp [hm]) rfl))
      have seg2 : Seg g (off + j * 3) (off + j * 3 + 3) (f1 ++ (f2)) wr w2_ := (Seg.mono sg2 (by intro b hb; first | (cases hb; done) | exact hb | (simp only [List.nil_append, List.append_assoc, List.mem_append, List.mem_cons, List.not_mem_nil, or_false, false_or] at hb ⊢; simp [hb]))).touch t2 (by intro b hb; first | (cases hb; done) | exact hb | (simp only [List.nil_append, List.append_assoc, List.mem_append, List.mem_cons, List.not_mem_nil, or_false, false_or] at hb ⊢; simp [hb])) gn2 hgl2
      go_wp2
      go_roundw
      case rel =>
        have hseg := Seg.mono (fj := f1 ++ (f2)) seg2 (by intro b hb; first | (cases hb; done) | exact hb | (simp only [List.nil_append, List.append_assoc, List.mem_append, List.mem_cons, List.not_mem_nil, or_false, false_or] at hb ⊢; simp [hb]))
        have hnew := HP.out _ (Kind.mk ((((k0 + Kind.cntS (l.take j)) : Nat) : Int)) y1 y2) [.int .i64 (((k0 + Kind.cntS (l.take j)) : Nat) : Int), .slice A1 x.names.length c1, .slice A2 x.kids.length c2] (by
          have h := OwC.mKind (w := w2_) (x := (Kind.mk ((((k0 + Kind.cntS (l.take j)) : Nat) : Int)) y1 y2)) (by show (Lit.int .i64 (((k0 + Kind.cntS (l.take j)) : Nat) : Int)).wf = true; exact WalkArith.wf_i64 (by have := HCN.out; have := HS.out; omega)) (by have h := YO1.out; first | exact h | (rw [YL1.out]; exact h) | simpa [YL1.out] using h) (by have h := YO2.out; first | exact h | (rw [YL2.out]; exact h) | simpa [YL2.out] using h)
          first | exact h | simpa using h) (fun i u hi => by
          match i, hi with
          | 0, hi => simp at hi; subst hi; go_simp
          | 1, hi => simp at hi; subst hi; go_simp
          | 2, hi => simp at hi; subst hi; go_simp) hseg HN.out.lt
        refine ⟨⟨j + 1, lj.set j (Kind.mk ((((k0 + Kind.cntS (l.take j)) : Nat) : Int)) y1 y2), by omega, by simpa using HL.out, by rw [HS.out, HCN.out]; go_num, by go_num, by rw [List.length_set]; exact hnew, ?_, ?_⟩, HT.out.trans (hseg.to_touch hg hfi)⟩
        · rw [take_set_succ lj j _ (by have := HL.out; omega), HS.out]
          refine Kind.mkS_snoc _ _ _ _ _ HM.out ((Kind.mk_iff _ _ _).2 ?_)
          exact ⟨(((k0 + Kind.cntS (l.take j)) + 1) + x.names.length), ((((k0 + Kind.cntS (l.take j)) + 1) + x.names.length) + Kind.cntS x.kids), rfl, ym1, ym2, by rw [HCN.out]; simp only [Nat.add_assoc]; try omega⟩
        · rw [drop_set_succ]
          have h := congrArg (List.drop 1) HD.out
          simpa [List.drop_drop, Nat.add_comm] using h
      case measure => simp [intOf]; omega
    · obtain rfl : j = l.length := by omega
      have HO := hide hoj
      clear hoj hlj
      go_wp2
      go_ret
      have e1 : lj.take l.length = lj := List.take_of_length_le (by have := HL.out; omega)
      have e2 : l.take l.length = l := List.take_length
      have hmm := HM.out
      try rw [e1] at hmm
      try rw [e2] at hmm
      exact ⟨lj, (by first | exact rfl | (rw [e2]; exact rfl)), HL.out, HO.out, hmm, HT.out⟩
theorem markKind_kids (x : Kind) : MarkKindS x.kids := Kind.ind (fun x ih => markKindS_of x.kids ih) x
theorem markKindS_any (l : List Kind) : MarkKindS l := markKindS_of l fun x _ => markKind_kids x
def HeldKindS (l : List Kind) : Prop := ∀ (A : Option Addr) (n c : Nat) (fp : List Nat) (z : Int) (a b : Nat) (w : World), z = a → Ow w (.s 3 l.length (l.flatMap Kind.cells)) (.slice A n c) fp → Lt fp w.heap.size → Kind.mkS l a b → b ≤ 1099511627776 →
  Calls Try.prog 102 #[.slice A n c, .int .i64 z] w fun e w' => e = .returned (.int .i64 (b : Nat)) ∧ Below w.heap.size w w'
set_option maxRecDepth 100000 in
set_option maxHeartbeats 1000000 in
theorem heldKindS_of (l : List Kind) (ih : ∀ x ∈ l, HeldKindS x.kids) : HeldKindS l := by
  intro A n c fp z a b w hz h hf hmk hbb
  subst hz
  obtain ⟨rfl, hc, hm⟩ := h.nlen
  unfold maxLen at hm
  have HMK := hide hmk
  have hab := Kind.mkS_le _ _ _ hmk
  clear hmk
  go_enter Try.func102, Try.ntmps102
  go_wp2
  go_loopw [1, 5] (fun u i wr => (∃ (j d : Nat), j ≤ l.length ∧ u = .int .i64 (d : Nat) ∧ i = .int .i64 (j : Nat) ∧ Kind.mkS (l.drop j) d b) ∧ Below w.heap.size w wr) (fun _ i _ => l.length - (intOf i).toNat)
  case atStart => exact ⟨⟨0, a, Nat.zero_le _, rfl, rfl, HMK.out⟩, Below.refl _ _⟩
  case round =>
    obtain ⟨⟨j, d, hj, rfl, rfl, hmj⟩, hbel⟩ := hrel
    have HB := hide hbel
    have HJ := hide hmj
    have hdb := Kind.mkS_le _ _ _ hmj
    clear hmj
    by_cases hlt : j < l.length
    · obtain ⟨g, off, us, fi, rfl, hg, hfi, hul, hcs, ho⟩ := (h.below HB.out hf).elem Kind.cells_len hlt
      obtain ⟨d2, hmx, hmr⟩ := Kind.mkS_drop l b j hlt d HJ.out
      have HR := hide hmr
      have hd2 := Kind.mkS_le _ _ _ hmr
      clear hmr
      have HC := hide (ih _ (List.getElem_mem hlt))
      have hgl : g < wr.heap.size := (hf.up HB.out) g hg
      have hfl := (hf.up HB.out).sub hfi
      generalize l[j] = x at *
      obtain ⟨A1, c1, A2, c2, f1, f2, rfl, w0, o1, o2, rfl⟩ := ho.oKind
      obtain ⟨e1, e2, m0, m1, m2, hd2e⟩ := (x.mk_iff _ _).1 hmx
      have HD := hide hd2e
      clear hd2e hmx
      have p0 := hcs 0 _ rfl
      have p1 := hcs 1 _ rfl
      have p2 := hcs 2 _ rfl
      simp only [Nat.add_zero] at p0
      rw [m0] at p0
      have b1 := m1.1
      have b2 := Kind.mkS_le _ _ _ m2
      have hbd : d2 ≤ 1099511627776 := by omega
      have M1 := hide m1
      have M2 := hide m2
      have x_e1 : e1 ≤ d2 := by have := HD.out; omega
      have x_e2 : e2 ≤ d2 := by have := HD.out; omega
      have z0 : d + 1 ≤ d2 := by have := HD.out; omega
      have hend : e2 ≤ d2 := by have := HD.out; omega
      have HBS := hide (And.intro trivial (And.intro trivial trivial) : True ∧ True ∧ True)
      clear b1
      clear m0 m1 m2 hcs ho
      have O1 := hide o1
      clear o1
      have O2 := hide o2
      clear o2
      have fl1 := hfl.left
      have fl2 := hfl.right
      have B0 := hide (Below.refl wr.heap.size wr)
      go_wp2_with fail
      refine (heldStringS_any _ _ _ _ _ _ (d + 1) e1 _ (by omega) (O1.out.below B0.out fl1) (fl1.up B0.out) M1.out (by omega)).mono ?_
      rintro e w1_ ⟨rfl, hb1⟩
      have B1 := hide (B0.out.trans (hb1.mono B0.out.size))
      have hgl1 := Nat.lt_of_lt_of_le hgl B1.out.size
      have p1_2 := (B1.out.cell (p := ⟨g, off + j * 3 + 2, none⟩) hgl).trans p2
      go_wp2_with fail
      refine (HC.out _ _ _ _ _ e1 e2 _ (by omega) (O2.out.below B1.out fl2) (fl2.up B1.out) M2.out (by omega)).mono ?_
      rintro e w2_ ⟨rfl, hb2⟩
      have B2 := hide (B1.out.trans (hb2.mono B1.out.size))
      have hgl2 := Nat.lt_of_lt_of_le hgl B2.out.size
      go_wp2
      go_roundw
      case rel => exact ⟨⟨j + 1, d2, by omega, by (rw [HD.out]; try go_num), by go_num, HR.out⟩, HB.out.trans (B2.out.mono HB.out.size)⟩
      case measure => simp [intOf]; omega
    · obtain rfl : j = l.length := by omega
      have e := HJ.out
      rw [List.drop_length] at e
      simp only [Kind.mkS] at e
      subst e
      clear HJ
      go_wp2
      go_ret
      exact ⟨rfl, HB.out⟩
theorem heldKind_kids (x : Kind) : HeldKindS x.kids := Kind.ind (fun x ih => heldKindS_of x.kids ih) x
theorem heldKindS_any (l : List Kind) : HeldKindS l := heldKindS_of l fun x _ => heldKind_kids x
end Go.Proofs.Ytbjblchhenmgjaa
set_option linter.unusedVariables false
set_option linter.unusedSimpArgs false
namespace Go.Proofs.Ytbjblchhenmgjaa
open Go.ChangeShapes Go.WideShapes Go.ChangeAt Go.RowKit
def Kind.mkTop (x : Kind) (a b : Nat) : Prop := ∃ e1, MkStringS x.names a e1 ∧ Kind.mkS x.kids e1 b
def Kind.cntTop (x : Kind) : Nat := x.names.length + Kind.cntS x.kids
theorem Kind.cntTop_eq (x : Kind) : x.cntTop = x.names.length + Kind.cntS x.kids := rfl
set_option maxRecDepth 100000 in
set_option maxHeartbeats 1000000 in
theorem markKind_any (x : Kind) (us : List Value) (fp : List Nat) (lo : Nat) (z : Int) (k0 : Nat) (w : World) (hz : z = k0) (ho : OwC w x.cells us fp) (hn : New w fp lo) (hb : k0 + x.cntTop ≤ 1099511627776) :
    Calls Try.prog 31 #[.agg us.toArray, .int .i64 z] w fun e w' => ∃ (x' : Kind), e = .returned (.int .i64 ((k0 + x.cntTop : Nat) : Int)) ∧ OwC w' x'.cells us fp ∧ x'.mkTop k0 (k0 + x.cntTop) ∧ Touch fp w w' := by
  subst hz
  have hc := x.cntTop_eq
  obtain ⟨A1, c1, A2, c2, f1, f2, rfl, w0, o1, o2, rfl⟩ := ho.oKind
  have hw0 : Below w.heap.size w (w.alloc (.cells #[.int .i64 x.sort, .slice A1 x.names.length c1, .slice A2 x.kids.length c2] 47)) := (Below.refl _ _).alloc (Nat.le_refl _) _
  have R0 : Row (w.alloc (.cells #[.int .i64 x.sort, .slice A1 x.names.length c1, .slice A2 x.kids.length c2] 47)) w.heap.size 47 [.int .i64 x.sort, .slice A1 x.names.length c1, .slice A2 x.kids.length c2] := Row.new w _ _
  have n1 := hn.left
  have r1 := hn.right
  have dj1 := (List.nodup_append.1 hn.nd).2.2
  have n2 := r1
  have O1 := hide (o1.below hw0 n1.lt)
  have N1 := hide (n1.alloc (.cells #[.int .i64 x.sort, .slice A1 x.names.length c1, .slice A2 x.kids.length c2] 47))
  have nb1 : w.heap.size ∉ f1 := fun h => Nat.lt_irrefl _ (n1.lt _ h)
  have O2 := hide (o2.below hw0 n2.lt)
  have N2 := hide (n2.alloc (.cells #[.int .i64 x.sort, .slice A1 x.names.length c1, .slice A2 x.kids.length c2] 47))
  have nb2 : w.heap.size ∉ f2 := fun h => Nat.lt_irrefl _ (n2.lt _ h)
  have dd1_2 : ∀ g ∈ f2, g ∉ f1 := fun g hg h => dj1 _ h _ hg rfl
  clear ho o1 o2 hn
  have T0 := hide (Touch.below (fp := f1 ++ (f2)) hw0)
  go_enter Try.func31, Try.ntmps31
  go_wp2_with fail
  refine (markStringS_any x.names _ _ _ f1 lo _ (k0) _ (by omega) O1.out N1.out (by omega)).mono ?_
  rintro e w1_ ⟨y1, rfl, yl1, yo1, ym1, t1⟩
  have T1 := hide (T0.out.trans (t1.mono (by intro g hg; simp [hg])))
  have YO1 := hide yo1
  have YM1 := hide ym1
  have YL1 := hide yl1
  clear yo1 ym1 yl1
  have R1 : Row w1_ w.heap.size 47 [.int .i64 x.sort, .slice A1 x.names.length c1, .slice A2 x.kids.length c2] := (t1.block _ R0.lt nb1).trans R0
  have O2 := hide (O2.out.touch t1 N2.out.lt dd1_2)
  have N2 := hide (t1.new N2.out)
  have M1 := hide (t1.new N1.out)
  clear t1
  have lt1 := R1.lt
  have cc1 := R1.cell 2
  go_wp2_with fail
  refine (markKindS_any x.kids _ _ _ f2 lo _ ((k0) + x.names.length) _ (by omega) O2.out N2.out (by omega)).mono ?_
  rintro e w2_ ⟨y2, rfl, yl2, yo2, ym2, t2⟩
  have T2 := hide (T1.out.trans (t2.mono (by intro g hg; simp [hg])))
  have YO2 := hide yo2
  have YM2 := hide ym2
  have YL2 := hide yl2
  clear yo2 ym2 yl2
  have R2 : Row w2_ w.heap.size 47 [.int .i64 x.sort, .slice A1 x.names.length c1, .slice A2 x.kids.length c2] := (t2.block _ R1.lt nb2).trans R1
  have YO1 := hide (YO1.out.touch t2 M1.out.lt (fun g hg h => dd1_2 g h hg))
  have M1 := hide (t2.new M1.out)
  have M2 := hide (t2.new N2.out)
  clear t2
  have lt2 := R2.lt
  go_wp2
  go_ret
  refine ⟨(Kind.mk x.sort y1 y2), ret_int (by omega), OwC.mKind w0 YO1.out YO2.out, ?_, ?_⟩
  · refine ⟨_, YM1.out, ?_⟩
    have h := YM2.out
    rw [hc]
    (try simp only [Nat.add_assoc] at h)
    (try simp only [Nat.add_assoc])
    exact h
  · exact T2.out
set_option maxRecDepth 100000 in
set_option maxHeartbeats 1000000 in
theorem heldKind_any (x : Kind) (us : List Value) (fp : List Nat) (z : Int) (a b : Nat) (w : World) (hz : z = a) (ho : OwC w x.cells us fp) (hf : Lt fp w.heap.size) (hmk : x.mkTop a b) (hb : b ≤ 1099511627776) :
    Calls Try.prog 32 #[.agg us.toArray, .int .i64 z] w fun e w' => e = .returned (.int .i64 (b : Nat)) ∧ Below w.heap.size w w' := by
  subst hz
  obtain ⟨A1, c1, A2, c2, f1, f2, rfl, w0, o1, o2, rfl⟩ := ho.oKind
  obtain ⟨e1, m1, m2⟩ := hmk
  have hw0 : Below w.heap.size w (w.alloc (.cells #[.int .i64 x.sort, .slice A1 x.names.length c1, .slice A2 x.kids.length c2] 47)) := (Below.refl _ _).alloc (Nat.le_refl _) _
  have R0 : Row (w.alloc (.cells #[.int .i64 x.sort, .slice A1 x.names.length c1, .slice A2 x.kids.length c2] 47)) w.heap.size 47 [.int .i64 x.sort, .slice A1 x.names.length c1, .slice A2 x.kids.length c2] := Row.new w _ _
  have fl1 := hf.left
  have fl2 := (hf).right
  have le2 := Kind.mkS_le _ _ _ m2
  have le1 : a ≤ e1 := by have := m1.1; omega
  have O1 := hide o1
  have HM1 := hide m1
  have O2 := hide o2
  have HM2 := hide m2
  have B0 := hide hw0
  clear ho hf hw0 o1 m1 o2 m2
  go_enter Try.func32, Try.ntmps32
  go_wp2_with fail
  refine (heldStringS_any x.names _ _ _ f1 _ a e1 _ (by omega) (O1.out.below B0.out fl1) (fl1.up B0.out) HM1.out (by omega)).mono ?_
  rintro e w1_ ⟨rfl, hb1⟩
  have B1 := hide (B0.out.trans (hb1.mono B0.out.size))
  have R1 := R0.below hb1 R0.lt
  have lt1 := R1.lt
  have cc1 := R1.cell 2
  clear hb1
  go_wp2_with fail
  refine (heldKindS_any x.kids _ _ _ f2 _ e1 b _ (by omega) (O2.out.below B1.out fl2) (fl2.up B1.out) HM2.out (by omega)).mono ?_
  rintro e w2_ ⟨rfl, hb2⟩
  have B2 := hide (B1.out.trans (hb2.mono B1.out.size))
  have R2 := R1.below hb2 R1.lt
  have lt2 := R2.lt
  clear hb2
  go_wp2
  go_ret
  exact ⟨rfl, B2.out⟩
end Go.Proofs.Ytbjblchhenmgjaa
set_option linter.unusedVariables false
set_option linter.unusedSimpArgs false
namespace Go.Proofs.Ytbjblchhenmgjaa
open Go.ChangeShapes Go.WideShapes Go.ChangeAt Go.RowKit

theorem kindJ_any (f : Nat) : KindRdI f := kindRdI_any (fun f' lv h1 h2 ih w g hgw wr B1 n1 d1 ns us1 B2 n2 d2 ks us2 fi2 l hK hns hks => partJ_any h1 h2 ih hgw hK hns hks) f
theorem kcntS_le : ∀ (l : List Kind), (∀ x ∈ l, x.cnt + 1 ≤ 2 * x.parts) → Kind.cntS l + l.length ≤ 2 * Kind.partsS l
  | [], _ => Nat.le_refl _
  | x :: r, h => by
    have h1 := h x (by simp)
    have h2 := kcntS_le r (fun y hy => h y (by simp [hy]))
    simp only [Kind.cntS, Kind.partsS, List.length_cons]
    omega
theorem kcnt_le (k : Kind) : ∀ lv, k.good lv → k.cnt + 1 ≤ 2 * k.parts := by
  refine Kind.ind (P := fun k => ∀ lv, k.good lv → k.cnt + 1 ≤ 2 * k.parts) (fun k ih => ?_) k
  intro lv h
  have hg := (Kind.good_iff _ _).1 h
  have hp := k.parts_eq
  have h1 := kcntS_le k.kids (fun x hx => ih x hx (lv + 1) (Kind.goodS_mem _ _ hg.2.2 x hx))
  have hn : k.names.length ≤ k.kids.length := by
    rcases k.shape_iff.1 hg.2.1 with h | h | h <;> omega
  have e : k.cnt = 1 + k.names.length + Kind.cntS k.kids := by cases k; rfl
  omega
theorem kindRead_cnt (s : ByteArray) : (kindRead s).cntTop ≤ 120 := by
  unfold kindRead
  cases h : readK s with
  | none => decide
  | some k =>
    obtain ⟨h1, _⟩ := readK_some h
    have h2 := kcnt_le k 1 h1.1
    have h3 := h1.2
    have e : k.cnt = 1 + k.names.length + Kind.cntS k.kids := by cases k; rfl
    show k.cntTop ≤ 120
    rw [Kind.cntTop_eq]
    omega
set_option maxRecDepth 100000 in
set_option maxHeartbeats 2000000 in
theorem implKindRead_any (s : ByteArray) (w : World) (hs : s.size ≤ maxLen) :
    Calls Try.prog 29 #[.string s] w (KindReadRet s w) := by
  unfold maxLen at hs
  go_enter Try.func29, Try.ntmps29
  go_upto_region 1 with fail
  generalize hw1 : w.alloc _ = w1
  have hb1 : Below w.heap.size w w1 := by rw [← hw1]; exact (Below.refl _ _).alloc (Nat.le_refl _) _
  have HZ := hide (show Row w1 w.heap.size 47 [.int .i64 0, .slice none 0 0, .slice none 0 0] from by rw [← hw1]; exact Row.new w _ _)
  have hz1 := HZ.out.lt
  have HB1 := hide hb1
  clear hw1 hb1
  by_cases hlen : (800 : Int) < (s.size : Int)
  · have HN := hide (readK_long (s := s) (by omega))
    have z0 := HZ.out.cell 0
    have z1 := HZ.out.cell 1
    have z2 := HZ.out.cell 2
    have y0 := HZ.out.frozen 0
    have y1 := HZ.out.frozen 1
    have y2 := HZ.out.frozen 2
    go_wp2
    refine bodyPost_ret (ret_row_tmp rfl _ _ w.heap.size 47 [.int .i64 0, .slice none 0 0, .slice none 0 0] (HZ.out.setAll [.int .i64 0, .slice none 0 0, .slice none 0 0] rfl) _ _ rfl rfl Try.underlying47 rfl (by kernel_rfl)) rfl ?_
    exact kr_none HN.out (HB1.out.trans (below_of_grown (setN_grown [.int .i64 0, .slice none 0 0, .slice none 0 0] 0 (grown_refl w1 (some w.heap.size))) (Nat.le_refl _) HB1.out.size))
  go_upto_region 4 with fail
  generalize hw2 : w1.alloc _ = w2
  have hb2 : Below w1.heap.size w1 w2 := by rw [← hw2]; exact (Below.refl _ _).alloc (Nat.le_refl _) _
  have HR := hide (show RdJ w2 w1.heap.size (bl s) false from ⟨s, by rw [← hw2]; exact Row.new w1 _ _, by omega, rfl⟩)
  have HZ2 := hide (HZ.out.below hb2 hz1)
  have HB2 := hide (HB1.out.trans (hb2.mono HB1.out.size))
  have HK := hide (kindJ_any 6 (bl s) false w1.heap.size 1 w2 (by omega) (by omega) HR.out)
  have hr2 := HR.out.lt
  clear hw2 hb2 HR
  go_wp2_with fail
  refine HK.out.mono ?_
  rintro e w3 ⟨k, us, fq, l3, b3, rfl, ho3, hn3, hr3, hg3, hp3, ht3, -⟩
  have HZ3 := hide (HZ2.out.grown hg3 (fun e => by injection e with e; omega))
  have HB3 := hide (HB2.out.trans (below_of_grown hg3 (by omega) HB2.out.size))
  have HT3 := hide ht3
  have hkb : k.bulk ≤ 10000 := by have := hp3.2.1; rw [bl_len] at this; omega
  obtain ⟨B1, d1, B2, d2, f1, f2, rfl, k0, k1, k2, efq⟩ := ho3.oKind
  obtain ⟨rest, hrow, hsz, hl3⟩ := hr3
  have HO3 := hide ho3
  have HN3 := hide (hn3.mono (show w.heap.size + 1 ≤ w2.heap.size from by omega))
  have HRow := hide hrow
  have HL3 := hide hl3
  have HPD := hide hp3
  go_upto_region 5 with fail
  generalize hw4 : w3.alloc _ = w4
  have hb4 : Below w3.heap.size w3 w4 := by rw [← hw4]; exact (Below.refl _ _).alloc (Nat.le_refl _) _
  have HBox := hide (show Row w4 w3.heap.size 47 [.int .i64 k.sort, .slice B1 k.names.length d1, .slice B2 k.kids.length d2] from by rw [← hw4]; exact Row.new w3 _ _)
  have HO4 := hide (HO3.out.below hb4 HN3.out.lt)
  have HN4 := hide (HN3.out.below hb4 HN3.out.lt)
  have HRow4 := hide (HRow.out.below hb4 HRow.out.lt)
  have HZ4 := hide (HZ3.out.below hb4 HZ3.out.lt)
  have HB4 := hide (HB3.out.trans (hb4.mono HB3.out.size))
  have r1 := HRow4.out.cell 1
  have r2 := HRow4.out.cell 0
  have rl := HRow4.out.lt
  have q0 := HBox.out.cell 0
  have q1 := HBox.out.cell 1
  have q2 := HBox.out.cell 2
  have ql := HBox.out.lt
  have z0 := HZ4.out.cell 0
  have z1 := HZ4.out.cell 1
  have z2 := HZ4.out.cell 2
  have y0 := HZ4.out.frozen 0
  have y1 := HZ4.out.frozen 1
  have y2 := HZ4.out.frozen 2
  have lz := HZ4.out.lt
  have HNONE := hide (fun (W : World) (hrow : Row W w.heap.size 47 [.int .i64 0, .slice none 0 0, .slice none 0 0]) (hb : Below w.heap.size w W) (h : readK s = none) => kr_none (w := w) (W := putN W w.heap.size 0 [.int .i64 0, .slice none 0 0, .slice none 0 0]) h (hb.trans (below_of_grown (setN_grown _ 0 (grown_refl W (some w.heap.size))) (Nat.le_refl _) hb.size)))
  clear hw4 hb4 ho3 hn3 hrow hl3 hp3 ht3 hg3 HZ3 HB3 HO3 HN3 HRow HK k1 k2 efq
  by_cases hbad : b3 = true
  · subst hbad
    have HNO := hide (readK_no HT3.out (fun h => by cases h.1))
    go_wp2
    refine bodyPost_ret (ret_row_tmp rfl _ _ w.heap.size 47 [.int .i64 0, .slice none 0 0, .slice none 0 0] (HZ4.out.setAll [.int .i64 0, .slice none 0 0, .slice none 0 0] rfl) _ _ rfl rfl Try.underlying47 rfl (by kernel_rfl)) rfl ?_
    exact HNONE.out _ HZ4.out HB4.out HNO.out
  obtain rfl : b3 = false := by simpa using hbad
  clear hbad
  have HNE := hide (show 0 < s.size from by have h := (HPD.out.2.2 rfl).1; rw [bl_len] at h; omega)
  by_cases hend : bl rest = []
  rotate_left
  · have HNO := hide (readK_no HT3.out (fun h => hend (HL3.out.symm.trans h.2.1)))
    obtain ⟨e1, e2⟩ := ne_lists (a := rest) (b := ⟨#[]⟩) hend
    have e3 : ¬ (rest.toList = []) := fun e => e1 (e.trans (by simp))
    have e4 : (rest.toList == []) = false := by simpa using e3
    clear hend
    go_wp2
    refine bodyPost_ret (ret_row_tmp rfl _ _ w.heap.size 47 [.int .i64 0, .slice none 0 0, .slice none 0 0] (HZ4.out.setAll [.int .i64 0, .slice none 0 0, .slice none 0 0] rfl) _ _ rfl rfl Try.underlying47 rfl (by kernel_rfl)) rfl ?_
    exact HNONE.out _ HZ4.out HB4.out HNO.out
  have e5 : rest = ByteArray.empty := bl_inj hend
  have HL0 := hide (show l3 = [] from by rw [HL3.out]; exact hend)
  clear hend
  subst e5
  have HKW := hide (implKindWrite_any k _ fq w4 HO4.out HN4.out.lt (by omega))
  go_wp2_with fail
  refine HKW.out.mono ?_
  rintro e w6 ⟨rfl, hb6⟩
  have HB6 := hide (HB4.out.trans (hb6.mono HB4.out.size))
  have HZ6 := hide (HZ4.out.below hb6 HZ4.out.lt)
  have HBox6 := hide (HBox.out.below hb6 HBox.out.lt)
  have HO6 := hide (HO4.out.below hb6 HN4.out.lt)
  have HN6 := hide (HN4.out.below hb6 HN4.out.lt)
  clear r1 r2 rl q0 q1 q2 ql z0 z1 z2 y0 y1 y2 lz HKW HB4 HZ4 HO4 HN4 HBox HRow4 hb6
  have q0 := HBox6.out.cell 0
  have q1 := HBox6.out.cell 1
  have q2 := HBox6.out.cell 2
  have ql := HBox6.out.lt
  have z0 := HZ6.out.cell 0
  have z1 := HZ6.out.cell 1
  have z2 := HZ6.out.cell 2
  have y0 := HZ6.out.frozen 0
  have y1 := HZ6.out.frozen 1
  have y2 := HZ6.out.frozen 2
  have lz := HZ6.out.lt
  by_cases htx : k.ok ∧ k.text = s
  rotate_left
  · have HNO := hide (readK_no HT3.out (fun h => htx ⟨h.2.2.1, h.2.2.2⟩))
    obtain ⟨e1, e2⟩ := ne_lists (a := k.written) (b := s) (fun h => by
      have h2 := bl_inj h
      by_cases hk : k.ok
      · rw [Kind.written_yes hk] at h2
        exact htx ⟨hk, h2⟩
      · rw [Kind.written_no hk] at h2
        have h3 := HNE.out
        rw [← h2] at h3
        exact absurd h3 (by decide))
    clear htx
    go_wp2
    refine bodyPost_ret (ret_row_tmp rfl _ _ w.heap.size 47 [.int .i64 0, .slice none 0 0, .slice none 0 0] (HZ6.out.setAll [.int .i64 0, .slice none 0 0, .slice none 0 0] rfl) _ _ rfl rfl Try.underlying47 rfl (by kernel_rfl)) rfl ?_
    exact HNONE.out _ HZ6.out HB6.out HNO.out
  have HYES := hide (readK_yes HT3.out htx.1 htx.2)
  obtain ⟨e1, e2⟩ := eq_lists (a := k.written) (b := s) (by rw [Kind.written_yes htx.1, htx.2])
  clear htx
  go_wp2
  refine bodyPost_ret (ret_row_tmp rfl _ _ w.heap.size 47 [.int .i64 k.sort, .slice B1 k.names.length d1, .slice B2 k.kids.length d2] (HZ6.out.setAll [.int .i64 k.sort, .slice B1 k.names.length d1, .slice B2 k.kids.length d2] rfl) _ _ rfl rfl Try.underlying47 rfl (by kernel_rfl)) rfl ?_
  have hgr := setN_grown [.int .i64 k.sort, .slice B1 k.names.length d1, .slice B2 k.kids.length d2] 0 (grown_refl w6 (some w.heap.size))
  have hno : w.heap.size ∉ fq := HN6.out.out (by omega)
  exact kr_some HYES.out (HO6.out.grown hgr HN6.out.lt hno) ((HN6.out.grown hgr (fun b e => by injection e with e; subst e; exact hno)).mono (by omega)) (HB6.out.trans (below_of_grown hgr (Nat.le_refl _) HB6.out.size))
end Go.Proofs.Ytbjblchhenmgjaa
set_option linter.unusedVariables false
set_option linter.unusedSimpArgs false
namespace Go.Proofs.Ytbjblchhenmgjaa
open Go.ChangeShapes Go.WideShapes Go.ChangeAt Go.RowKit

def TtKind (x : Kind) : Prop := ∀ (us vs : List Value) (fp fq : List Nat) (w : World), OwC w x.cells us fp → OwC w x.cells vs fq → Lt fp w.heap.size → Lt fq w.heap.size →
  Calls Try.prog 41 #[.agg us.toArray, .agg vs.toArray] w fun e w' => e = .returned (.bool true) ∧ Below w.heap.size w w'
set_option maxRecDepth 100000 in
set_option maxHeartbeats 1000000 in
theorem ttKind_of (x : Kind) (ih : ∀ y ∈ x.kids, TtKind y) : TtKind x := by
  intro us vs fp fq w ho ho' hf hf'
  obtain ⟨A1, c1, A2, c2, f1, f2, rfl, w0, o1, o2, rfl⟩ := ho.oKind
  obtain ⟨bA1, bc1, bA2, bc2, bf1, bf2, rfl, bw0, bo1, bo2, rfl⟩ := ho'.oKind
  have l1 := hf.left
  have l2 := hf.right
  have k1 := hf'.left
  have k2 := hf'.right
  have HI := hide ih
  obtain ⟨-, hn1, hm1⟩ := o1.nlen
  obtain ⟨-, hn2, hm2⟩ := o2.nlen
  unfold maxLen at hm1 hm2
  have O1 := hide o1
  have O2 := hide o2
  have P1 := hide bo1
  have P2 := hide bo2
  clear ho ho' ih o1 o2 bo1 bo2 w0 bw0
  go_enter Try.func41, Try.ntmps41
  go_upto_region 1 with fail
  generalize hw1 : World.alloc _ _ = w1
  have hb0 : Below w.heap.size w w1 := by rw [← hw1]; exact ((Below.refl _ _).alloc (Nat.le_refl _) _).alloc (by simp) _
  have R0 : Row w1 w.heap.size 47 [.int .i64 x.sort, .slice A1 x.names.length c1, .slice A2 x.kids.length c2] := by rw [← hw1]; exact (Row.new w _ _).alloc _
  have S0 : Row w1 (w.heap.size + 1) 47 [.int .i64 x.sort, .slice bA1 x.names.length bc1, .slice bA2 x.kids.length bc2] := by
    rw [← hw1]
    have h := Row.new (w.alloc (.cells #[.int .i64 x.sort, .slice A1 x.names.length c1, .slice A2 x.kids.length c2] 47)) 47 [.int .i64 x.sort, .slice bA1 x.names.length bc1, .slice bA2 x.kids.length bc2]
    simpa using h
  have O1 := hide (O1.out.below hb0 l1)
  have O2 := hide (O2.out.below hb0 l2)
  have P1 := hide (P1.out.below hb0 k1)
  have P2 := hide (P2.out.below hb0 k2)
  have l1 := hide (l1.up hb0)
  have l2 := hide (l2.up hb0)
  have k1 := hide (k1.up hb0)
  have k2 := hide (k2.up hb0)
  have c0 := R0.cell 0
  have c1_ := R0.cell 1
  have c2_ := R0.cell 2
  have d0 := S0.cell 0
  have d1 := S0.cell 1
  have d2 := S0.cell 2
  have lr0 := R0.lt
  have ls0 := S0.lt
  have HR0 := hide R0
  have HS0 := hide S0
  have HB0 := hide hb0
  clear hw1 hb0 R0 S0
  go_wp2
  clear c0 c1_ c2_ d0 d1 d2
  go_loopw [5] (fun i wr => (∃ k : Nat, k ≤ x.names.length ∧ i = .int .i64 (k : Int)) ∧ Below w1.heap.size w1 wr) (fun i _ => x.names.length - (intOf i).toNat)
  case atStart => exact ⟨⟨0, Nat.zero_le _, rfl⟩, Below.refl _ _⟩
  case round =>
    obtain ⟨⟨k, hk, rfl⟩, hb⟩ := hrel
    have c3 := (HR0.out.below hb lr0).cell 1
    have d3 := (HS0.out.below hb ls0).cell 1
    have hsz := hb.size
    by_cases hlt : k < x.names.length
    · obtain ⟨g, off, rfl, _, hcell, hs⟩ := strs_at (O1.out.below hb l1.out) hlt
      obtain ⟨g', off', rfl, _, hcell', _⟩ := strs_at (P1.out.below hb k1.out) hlt
      have HB := hide hb
      clear hb
      generalize x.names[k] = s at *
      go_wp2
      go_quiet (fail)
      go_wp2
      go_roundw
      case rel => exact ⟨⟨k + 1, by omega, by go_num⟩, below_drewN HB.out _⟩
      case measure => simp [intOf]; omega
    · obtain rfl : k = x.names.length := by omega
      have HB := hide hb
      clear hb
      go_wp2
      go_loopw [6] (fun i wx => (∃ k : Nat, k ≤ x.kids.length ∧ i = .int .i64 (k : Int)) ∧ Below w1.heap.size w1 wx) (fun i _ => x.kids.length - (intOf i).toNat)
      case atStart => exact ⟨⟨0, Nat.zero_le _, rfl⟩, HB.out⟩
      case round =>
        obtain ⟨⟨k, hk2, rfl⟩, hb⟩ := hrel
        have c4 := (HR0.out.below hb lr0).cell 2
        have d4 := (HS0.out.below hb ls0).cell 2
        have hsz2 := hb.size
        obtain ⟨wz, rfl⟩ : ∃ W, W = wr := ⟨_, rfl⟩
        have HBx := hide hb
        by_cases hlt2 : k < x.kids.length
        · obtain ⟨g, off, vs, fi, rfl, hg, hfi, hvl, hcs, hov⟩ := (O2.out.below hb l2.out).elem Kind.cells_len hlt2
          obtain ⟨g', off', vs', fi', rfl, hg', hfi', hvl', hcs', hov'⟩ := (P2.out.below hb k2.out).elem Kind.cells_len hlt2
          have HO := hide hov
          have HO' := hide hov'
          obtain ⟨E1, e1, E2, e2, g1, g2, rfl, y0, z1, z2, rfl⟩ := hov.oKind
          obtain ⟨F1, r1, F2, r2, h1, h2, rfl, by0, bz1, bz2, rfl⟩ := hov'.oKind
          have p0 := hcs 0 _ rfl
          have q0 := hcs' 0 _ rfl
          have p1 := hcs 1 _ rfl
          have q1 := hcs' 1 _ rfl
          have p2 := hcs 2 _ rfl
          have q2 := hcs' 2 _ rfl
          simp only [Nat.add_zero] at p0 q0
          have HC := hide (HI.out _ (List.getElem_mem hlt2))
          have HL := hide ((l2.out.sub hfi).mono hb.size)
          have HK := hide ((k2.out.sub hfi').mono hb.size)
          clear hcs hcs' hov hov' hb hfi hfi' z1 z2 bz1 bz2 y0 by0
          generalize x.kids[k] = y at *
          go_wp2_with fail
          go_still_tail 10, (by kernel_rfl)
          change wpList _ _ _ _ _ wz.drew
          go_wp2_with fail
          refine (HC.out _ _ _ _ _ (HO.out.drewN 1) (HO'.out.drewN 1) HL.out HK.out).mono ?_
          rintro e w3 ⟨rfl, hb1⟩
          have hb2 : Below w1.heap.size w1 w3 := (below_drewN HBx.out 1).trans (hb1.mono hsz2)
          clear hb1
          go_wp2
          go_roundw
          case rel => exact ⟨⟨k + 1, by omega, by go_num⟩, hb2⟩
          case measure => simp [intOf]; omega
        · obtain rfl : k = x.kids.length := by omega
          clear hb
          go_wp2
          go_ret
          exact ⟨rfl, HB0.out.trans (HBx.out.mono HB0.out.size)⟩
theorem ttKind_any (x : Kind) : TtKind x := Kind.ind (fun k ih => ttKind_of k ih) x
end Go.Proofs.Ytbjblchhenmgjaa
set_option linter.unusedVariables false
set_option linter.unusedSimpArgs false
namespace Go.Proofs.Ytbjblchhenmgjaa
open Go.ChangeShapes Go.WideShapes Go.ChangeAt Go.RowKit

theorem parts_bulk (k : Kind) : ∀ lv, k.good lv → k.bulk + 10 ≤ 10 * k.parts := by
  refine Kind.ind (P := fun k => ∀ lv, k.good lv → k.bulk + 10 ≤ 10 * k.parts) (fun k ih => ?_) k
  intro lv h
  have hg := (Kind.good_iff _ _).1 h
  have hp := k.parts_eq
  have hs : ∀ (l : List Kind), (∀ x ∈ l, x.bulk + 10 ≤ 10 * x.parts) → Kind.bulkS l + 10 * l.length ≤ 10 * Kind.partsS l := by
    intro l
    induction l with
    | nil => intro _; simp [Kind.bulkS]
    | cons x l ih =>
      intro h
      have h1 := h x (by simp)
      have h2 := ih (fun y hy => h y (by simp [hy]))
      simp only [Kind.partsS, Kind.bulkS, List.length_cons]
      omega
  have h1 := hs k.kids (fun x hx => ih x hx (lv + 1) (Kind.goodS_mem _ _ hg.2.2 x hx))
  have hn : k.names.length ≤ k.kids.length := by
    rcases k.shape_iff.1 hg.2.1 with h | h | h <;> omega
  have hb : ∀ (l : List ByteArray), (∀ x ∈ l, x.size ≤ 8) → bulkStr l ≤ 8 * l.length := by
    intro l
    induction l with
    | nil => intro _; simp [bulkStr]
    | cons x l ih =>
      intro h
      have h1 := h x (by simp)
      have h2 := ih (fun y hy => h y (by simp [hy]))
      simp only [bulkStr, List.length_cons]
      omega
  have h2 : bulkStr k.names ≤ 8 * k.names.length := by
    refine hb _ (fun x hx => ?_)
    rcases k.shape_iff.1 hg.2.1 with h | h | h
    · rw [List.eq_nil_of_length_eq_zero h.2.1] at hx; cases hx
    · rw [List.eq_nil_of_length_eq_zero h.2.1] at hx; cases hx
    · exact (names_mem h.2.1 hx).2.1
  have h3 := k.bulk_eq
  unfold bulkStrs at h3
  omega
theorem ok_bulk {k : Kind} (h : k.ok) : k.bulk ≤ 10 * 1000000 / 100 := by
  have h1 := parts_bulk k 1 h.1
  have h2 := h.2
  omega
set_option maxRecDepth 100000 in
set_option maxHeartbeats 4000000 in
theorem lawFnKindText_any (w : World) (x0 : List UInt8) (A0 : Option Addr) (m0 c0 : Nat) (fp0 : List Nat) (ho0 : Ow w (.s 1 (x0).length ((x0).flatMap byteC)) (.slice A0 m0 c0) fp0) (hl0 : Lt fp0 w.heap.size) :
    Calls Try.prog 7 #[.slice A0 m0 c0] w fun e w' => e = .returned (.bool true) ∧ Below w.heap.size w w' := by
  obtain ⟨rfl, hc0, hm0⟩ := ho0.nlen
  have HO0 := hide ho0
  have HB := hide (Below.refl w.heap.size w)
  clear ho0
  by_cases hz0 : (x0.length : Int) ≤ 1048576
  rotate_left
  · have hz' : (1048576 : Int) < x0.length := by omega
    go_enter Try.func7, Try.ntmps7
    go_wp2
    go_ret
    exact ⟨rfl, HB.out⟩
  have HD := hide (drawKindWrite_any x0 A0 _ c0 fp0 w HO0.out hl0 (by omega))
  go_enter Try.func7, Try.ntmps7
  go_wp2_with fail
  refine HD.out.mono ?_
  rintro e w1 ⟨k, us, fq, rfl, ho1, hn1, hbk, hb1⟩
  have hbk2 : k.bulk ≤ 1048576 := by omega
  have HO1 := hide ho1
  have HL1 := hide hn1.lt
  have HB1 := hide hb1
  obtain ⟨A1, ac1, A2, ac2, f1, f2, rfl, -, -, -, -⟩ := ho1.oKind
  clear ho1 hn1 hb1 HD HB
  go_upto_region 4 with fail
  generalize hw2 : World.alloc _ _ = w2
  have hbA : Below w1.heap.size w1 w2 := by rw [← hw2]; exact (Below.refl _ _).alloc (Nat.le_refl _) _
  have HX2 := hide (show Row w2 w1.heap.size 47 [.int .i64 k.sort, .slice A1 k.names.length ac1, .slice A2 k.kids.length ac2] from by rw [← hw2]; exact Row.new w1 _ _)
  have HO2 := hide (HO1.out.below hbA HL1.out)
  have HL2 := hide (HL1.out.up hbA)
  have HB2 := hide (HB1.out.trans (hbA.mono HB1.out.size))
  clear hw2 hbA HO1 HL1 HB1
  have k0 := HX2.out.cell 0
  have k1 := HX2.out.cell 1
  have k2 := HX2.out.cell 2
  have lk := HX2.out.lt
  obtain ⟨s, hs⟩ : ∃ s, s = k.written := ⟨_, rfl⟩
  have HSW := hide hs
  have HC := hide (specKindWrite_any k _ fq w2 HO2.out HL2.out hbk2)
  rw [← hs] at HC
  go_wp2_with fail
  refine HC.out.mono ?_
  rintro e w3 ⟨rfl, hb3⟩
  have HX3 := hide (HX2.out.below hb3 HX2.out.lt)
  have HO3 := hide (HO2.out.below hb3 HL2.out)
  have HL3 := hide (HL2.out.up hb3)
  have HB3 := hide (HB2.out.trans (hb3.mono HB2.out.size))
  clear hb3 HX2 HO2 HL2 HB2 HC k0 k1 k2 lk
  have k0 := HX3.out.cell 0
  have k1 := HX3.out.cell 1
  have k2 := HX3.out.cell 2
  have lk := HX3.out.lt
  have HC := hide (implKindWrite_any k _ fq w3 HO3.out HL3.out hbk2)
  rw [← hs] at HC
  clear hs
  go_wp2_with fail
  refine HC.out.mono ?_
  rintro e w4 ⟨rfl, hb4⟩
  have HX4 := hide (HX3.out.below hb4 HX3.out.lt)
  have HO4 := hide (HO3.out.below hb4 HL3.out)
  have HL4 := hide (HL3.out.up hb4)
  have HB4 := hide (HB3.out.trans (hb4.mono HB3.out.size))
  clear hb4 HX3 HO3 HL3 HB3 HC k0 k1 k2 lk
  have k0 := HX4.out.cell 0
  have k1 := HX4.out.cell 1
  have k2 := HX4.out.cell 2
  have lk := HX4.out.lt
  have HC := hide (implKindOk_any k _ fq w4 HO4.out HL4.out hbk2)
  go_wp2_with fail
  refine HC.out.mono ?_
  rintro e w5 ⟨rfl, hb5⟩
  have HX5 := hide (HX4.out.below hb5 HX4.out.lt)
  have HO5 := hide (HO4.out.below hb5 HL4.out)
  have HL5 := hide (HL4.out.up hb5)
  have HB5 := hide (HB4.out.trans (hb5.mono HB4.out.size))
  clear hb5 HX4 HO4 HL4 HB4 HC k0 k1 k2 lk
  by_cases hok : k.ok
  · rw [tb_true hok]
    have hst : s = k.text := by rw [HSW.out]; exact Kind.written_yes hok
    have hne : s ≠ .empty := by rw [hst]; exact text_ne hok
    have hs8 : s.size ≤ 550 := by rw [HSW.out]; exact written_size k
    have HRD := hide (show readK s = some k from by rw [hst]; exact readK_text hok)
    have hs9 : ¬ (800 < (s.size : Int)) := by omega
    have n1 : ¬ (s.toList = ByteArray.empty.toList) := fun e => hne (txt_inj e)
    have n2 : (s.toList == ByteArray.empty.toList) = false := txt_no hne
    have n3 : ¬ (s.toList = []) := fun e => n1 (by rw [e]; simp)
    have n4 : (s.toList == []) = false := beq_eq_false_iff_ne.2 n3
    have n5 : ¬ (s = ByteArray.empty) := hne
    have n6 : ¬ (s = ⟨#[]⟩) := hne
    have HC := hide (implKindRead_any s w5 (by unfold maxLen; omega))
    clear hst hne hok hs8
    go_wp2_with fail
    refine HC.out.mono ?_
    rintro e w6 ⟨us6, fq6, rfl, ho6, hn6, hb6⟩
    have hK6 : kindRead s = k := by unfold kindRead; rw [HRD.out]; rfl
    have hB6 : kindReadB s = true := by unfold kindReadB; rw [HRD.out]; rfl
    rw [hK6] at ho6
    rw [hB6]
    have HX6 := hide (HX5.out.below hb6 HX5.out.lt)
    have HO6 := hide (HO5.out.below hb6 HL5.out)
    have HL6 := hide (HL5.out.up hb6)
    have HB6 := hide (HB5.out.trans (hb6.mono HB5.out.size))
    have HU6 := hide ho6
    have HM6 := hide hn6.lt
    obtain ⟨E1, ec1, E2, ec2, g1, g2, rfl, -, -, -, -⟩ := ho6.oKind
    clear hK6 hB6 ho6 hn6 hb6 HX5 HO5 HL5 HB5 HC
    go_upto_region 10 with fail
    generalize hw7 : World.alloc _ _ = w7
    have hbA : Below w6.heap.size w6 w7 := by rw [← hw7]; exact (Below.refl _ _).alloc (Nat.le_refl _) _
    have HY7 := hide (show Row w7 w6.heap.size 47 [.int .i64 k.sort, .slice E1 k.names.length ec1, .slice E2 k.kids.length ec2] from by rw [← hw7]; exact Row.new w6 _ _)
    have HX7 := hide (HX6.out.below hbA HX6.out.lt)
    have HO7 := hide (HO6.out.below hbA HL6.out)
    have HL7 := hide (HL6.out.up hbA)
    have HU7 := hide (HU6.out.below hbA HM6.out)
    have HM7 := hide (HM6.out.up hbA)
    have HB7 := hide (HB6.out.trans (hbA.mono HB6.out.size))
    clear hw7 hbA HX6 HO6 HL6 HU6 HM6 HB6
    have k0 := HX7.out.cell 0
    have k1 := HX7.out.cell 1
    have k2 := HX7.out.cell 2
    have lk := HX7.out.lt
    have u0 := HY7.out.cell 0
    have u1 := HY7.out.cell 1
    have u2 := HY7.out.cell 2
    have lu := HY7.out.lt
    have HC := hide (ttKind_any k _ _ _ _ w7 HU7.out HO7.out HM7.out HL7.out)
    go_wp2_with fail
    refine HC.out.mono ?_
    rintro e w8 ⟨rfl, hb8⟩
    have HB := hide (HB7.out.trans (hb8.mono HB7.out.size))
    clear hb8 HX7 HO7 HL7 HU7 HM7 HB7 HY7 HC k0 k1 k2 lk u0 u1 u2 lu
    have HD := hide (drawKindRead_any x0 A0 _ c0 fp0 w8 (HO0.out.below HB.out hl0) (hl0.up HB.out) (by omega))
    go_wp2_with fail
    refine HD.out.mono ?_
    rintro e v1 ⟨t, rfl, ht, hb1⟩
    have HT := hide ht
    have HV1 := hide (HB.out.trans (hb1.mono HB.out.size))
    have HC := hide (specKindRead_any t v1 (by unfold maxLen; omega))
    clear ht hb1 HD
    go_wp2_with fail
    refine HC.out.mono ?_
    rintro e v2 ⟨us2, fq2, rfl, ho2, hn2, hb2⟩
    obtain ⟨K2, hK2⟩ : ∃ K, K = kindRead t := ⟨_, rfl⟩
    obtain ⟨B2, hB2⟩ : ∃ B, B = kindReadB t := ⟨_, rfl⟩
    rw [← hK2] at ho2
    rw [← hB2]
    have HK2 := hide hK2
    have HB2 := hide hB2
    have HV2 := hide (HV1.out.trans (hb2.mono HV1.out.size))
    have HO2 := hide ho2
    have HL2 := hide hn2.lt
    obtain ⟨P1, pc1, P2, pc2, f1, f2, rfl, -, -, -, -⟩ := ho2.oKind
    clear ho2 hn2 hb2 hK2 hB2 HV1 HC
    go_upto_region 14 with fail
    generalize hv3 : World.alloc _ _ = v3
    have hbA : Below v2.heap.size v2 v3 := by rw [← hv3]; exact (Below.refl _ _).alloc (Nat.le_refl _) _
    have HX3 := hide (show Row v3 v2.heap.size 47 [.int .i64 K2.sort, .slice P1 K2.names.length pc1, .slice P2 K2.kids.length pc2] from by rw [← hv3]; exact Row.new v2 _ _)
    have HO3 := hide (HO2.out.below hbA HL2.out)
    have HL3 := hide (HL2.out.up hbA)
    have HV3 := hide (HV2.out.trans (hbA.mono HV2.out.size))
    have HC := hide (implKindRead_any t v3 (by have := HT.out; unfold maxLen; omega))
    clear hv3 hbA HO2 HL2 HV2
    go_wp2_with fail
    refine HC.out.mono ?_
    rintro e v4 ⟨us4, fq4, rfl, ho4, hn4, hb4⟩
    rw [← HK2.out] at ho4
    rw [← HB2.out]
    have HX4 := hide (HX3.out.below hb4 HX3.out.lt)
    have HO4 := hide (HO3.out.below hb4 HL3.out)
    have HL4 := hide (HL3.out.up hb4)
    have HV4 := hide (HV3.out.trans (hb4.mono HV3.out.size))
    have HU4 := hide ho4
    have HM4 := hide hn4.lt
    obtain ⟨Q1, qc1, Q2, qc2, g1, g2, rfl, -, -, -, -⟩ := ho4.oKind
    clear ho4 hn4 hb4 HX3 HO3 HL3 HV3 HC
    go_upto_region 15 with fail
    generalize hv5 : World.alloc _ _ = v5
    have hbA : Below v4.heap.size v4 v5 := by rw [← hv5]; exact (Below.refl _ _).alloc (Nat.le_refl _) _
    have HY5 := hide (show Row v5 v4.heap.size 47 [.int .i64 K2.sort, .slice Q1 K2.names.length qc1, .slice Q2 K2.kids.length qc2] from by rw [← hv5]; exact Row.new v4 _ _)
    have HX5 := hide (HX4.out.below hbA HX4.out.lt)
    have HO5 := hide (HO4.out.below hbA HL4.out)
    have HL5 := hide (HL4.out.up hbA)
    have HU5 := hide (HU4.out.below hbA HM4.out)
    have HM5 := hide (HM4.out.up hbA)
    have HV5 := hide (HV4.out.trans (hbA.mono HV4.out.size))
    clear hv5 hbA HX4 HO4 HL4 HU4 HM4 HV4
    have x0c := HX5.out.cell 0
    have x1c := HX5.out.cell 1
    have x2c := HX5.out.cell 2
    have lx := HX5.out.lt
    have y0c := HY5.out.cell 0
    have y1c := HY5.out.cell 1
    have y2c := HY5.out.cell 2
    have ly := HY5.out.lt
    have HC := hide (ttKind_any K2 _ _ _ _ v5 HO5.out HU5.out HL5.out HM5.out)
    have hbb : (B2 == B2) = true := by cases B2 <;> rfl
    go_wp2_with fail
    refine HC.out.mono ?_
    rintro e v6 ⟨rfl, hb6⟩
    have HY6 := hide (HY5.out.below hb6 HY5.out.lt)
    have HU6 := hide (HU5.out.below hb6 HM5.out)
    have HM6 := hide (HM5.out.up hb6)
    have HV6 := hide (HV5.out.trans (hb6.mono HV5.out.size))
    clear hb6 HX5 HO5 HL5 HU5 HM5 HV5 HY5 HC x0c x1c x2c lx y0c y1c y2c ly
    have y0c := HY6.out.cell 0
    have ly := HY6.out.lt
    cases hr : readK t with
    | none =>
      have hs0 : K2.sort = 0 := by rw [HK2.out]; unfold kindRead; rw [hr]; rfl
      have hbf : B2 = false := by rw [HB2.out]; unfold kindReadB; rw [hr]; rfl
      rw [hs0] at y0c
      subst hbf
      clear hr hs0
      go_wp2
      go_ret
      exact ⟨rfl, HV6.out⟩
    | some k2 =>
      have hk2 : K2 = k2 := by rw [HK2.out]; unfold kindRead; rw [hr]; rfl
      have hbt : B2 = true := by rw [HB2.out]; unfold kindReadB; rw [hr]; rfl
      have hq := readK_some hr
      subst hk2 hbt
      have HOK := hide hq
      have hbk : K2.bulk ≤ 1048576 := by have := ok_bulk hq.1; omega
      clear hr hq
      have y1c := HY6.out.cell 1
      have y2c := HY6.out.cell 2
      have HC := hide (implKindOk_any K2 _ fq4 v6 HU6.out HM6.out hbk)
      go_wp2_with fail
      refine HC.out.mono ?_
      rintro e v7 ⟨rfl, hb7⟩
      rw [tb_true HOK.out.1]
      have HY7 := hide (HY6.out.below hb7 HY6.out.lt)
      have HU7 := hide (HU6.out.below hb7 HM6.out)
      have HM7 := hide (HM6.out.up hb7)
      have HV7 := hide (HV6.out.trans (hb7.mono HV6.out.size))
      clear hb7 HY6 HU6 HM6 HV6 HC y0c y1c y2c ly
      have y0c := HY7.out.cell 0
      have y1c := HY7.out.cell 1
      have y2c := HY7.out.cell 2
      have ly := HY7.out.lt
      have HC := hide (implKindWrite_any K2 _ fq4 v7 HU7.out HM7.out hbk)
      have hwt : K2.written = t := by rw [Kind.written_yes HOK.out.1]; exact HOK.out.2
      rw [hwt] at HC
      clear hwt
      go_wp2_with fail
      refine HC.out.mono ?_
      rintro e v8 ⟨rfl, hb8⟩
      go_wp2
      go_ret
      exact ⟨rfl, HV7.out.trans (hb8.mono HV7.out.size)⟩
  · rw [tb_false hok]
    have hst : s = .empty := by rw [HSW.out]; exact Kind.written_no hok
    clear hok HSW
    subst hst
    have HB := HB5
    clear HX5 HO5 HL5 HB5
    have HD := hide (drawKindRead_any x0 A0 _ c0 fp0 w5 (HO0.out.below HB.out hl0) (hl0.up HB.out) (by omega))
    go_wp2_with fail
    refine HD.out.mono ?_
    rintro e v1 ⟨t, rfl, ht, hb1⟩
    have HT := hide ht
    have HV1 := hide (HB.out.trans (hb1.mono HB.out.size))
    have HC := hide (specKindRead_any t v1 (by unfold maxLen; omega))
    clear ht hb1 HD
    go_wp2_with fail
    refine HC.out.mono ?_
    rintro e v2 ⟨us2, fq2, rfl, ho2, hn2, hb2⟩
    obtain ⟨K2, hK2⟩ : ∃ K, K = kindRead t := ⟨_, rfl⟩
    obtain ⟨B2, hB2⟩ : ∃ B, B = kindReadB t := ⟨_, rfl⟩
    rw [← hK2] at ho2
    rw [← hB2]
    have HK2 := hide hK2
    have HB2 := hide hB2
    have HV2 := hide (HV1.out.trans (hb2.mono HV1.out.size))
    have HO2 := hide ho2
    have HL2 := hide hn2.lt
    obtain ⟨P1, pc1, P2, pc2, f1, f2, rfl, -, -, -, -⟩ := ho2.oKind
    clear ho2 hn2 hb2 hK2 hB2 HV1 HC
    go_upto_region 14 with fail
    generalize hv3 : World.alloc _ _ = v3
    have hbA : Below v2.heap.size v2 v3 := by rw [← hv3]; exact (Below.refl _ _).alloc (Nat.le_refl _) _
    have HX3 := hide (show Row v3 v2.heap.size 47 [.int .i64 K2.sort, .slice P1 K2.names.length pc1, .slice P2 K2.kids.length pc2] from by rw [← hv3]; exact Row.new v2 _ _)
    have HO3 := hide (HO2.out.below hbA HL2.out)
    have HL3 := hide (HL2.out.up hbA)
    have HV3 := hide (HV2.out.trans (hbA.mono HV2.out.size))
    have HC := hide (implKindRead_any t v3 (by have := HT.out; unfold maxLen; omega))
    clear hv3 hbA HO2 HL2 HV2
    go_wp2_with fail
    refine HC.out.mono ?_
    rintro e v4 ⟨us4, fq4, rfl, ho4, hn4, hb4⟩
    rw [← HK2.out] at ho4
    rw [← HB2.out]
    have HX4 := hide (HX3.out.below hb4 HX3.out.lt)
    have HO4 := hide (HO3.out.below hb4 HL3.out)
    have HL4 := hide (HL3.out.up hb4)
    have HV4 := hide (HV3.out.trans (hb4.mono HV3.out.size))
    have HU4 := hide ho4
    have HM4 := hide hn4.lt
    obtain ⟨Q1, qc1, Q2, qc2, g1, g2, rfl, -, -, -, -⟩ := ho4.oKind
    clear ho4 hn4 hb4 HX3 HO3 HL3 HV3 HC
    go_upto_region 15 with fail
    generalize hv5 : World.alloc _ _ = v5
    have hbA : Below v4.heap.size v4 v5 := by rw [← hv5]; exact (Below.refl _ _).alloc (Nat.le_refl _) _
    have HY5 := hide (show Row v5 v4.heap.size 47 [.int .i64 K2.sort, .slice Q1 K2.names.length qc1, .slice Q2 K2.kids.length qc2] from by rw [← hv5]; exact Row.new v4 _ _)
    have HX5 := hide (HX4.out.below hbA HX4.out.lt)
    have HO5 := hide (HO4.out.below hbA HL4.out)
    have HL5 := hide (HL4.out.up hbA)
    have HU5 := hide (HU4.out.below hbA HM4.out)
    have HM5 := hide (HM4.out.up hbA)
    have HV5 := hide (HV4.out.trans (hbA.mono HV4.out.size))
    clear hv5 hbA HX4 HO4 HL4 HU4 HM4 HV4
    have x0c := HX5.out.cell 0
    have x1c := HX5.out.cell 1
    have x2c := HX5.out.cell 2
    have lx := HX5.out.lt
    have y0c := HY5.out.cell 0
    have y1c := HY5.out.cell 1
    have y2c := HY5.out.cell 2
    have ly := HY5.out.lt
    have HC := hide (ttKind_any K2 _ _ _ _ v5 HO5.out HU5.out HL5.out HM5.out)
    have hbb : (B2 == B2) = true := by cases B2 <;> rfl
    go_wp2_with fail
    refine HC.out.mono ?_
    rintro e v6 ⟨rfl, hb6⟩
    have HY6 := hide (HY5.out.below hb6 HY5.out.lt)
    have HU6 := hide (HU5.out.below hb6 HM5.out)
    have HM6 := hide (HM5.out.up hb6)
    have HV6 := hide (HV5.out.trans (hb6.mono HV5.out.size))
    clear hb6 HX5 HO5 HL5 HU5 HM5 HV5 HY5 HC x0c x1c x2c lx y0c y1c y2c ly
    have y0c := HY6.out.cell 0
    have ly := HY6.out.lt
    cases hr : readK t with
    | none =>
      have hs0 : K2.sort = 0 := by rw [HK2.out]; unfold kindRead; rw [hr]; rfl
      have hbf : B2 = false := by rw [HB2.out]; unfold kindReadB; rw [hr]; rfl
      rw [hs0] at y0c
      subst hbf
      clear hr hs0
      go_wp2
      go_ret
      exact ⟨rfl, HV6.out⟩
    | some k2 =>
      have hk2 : K2 = k2 := by rw [HK2.out]; unfold kindRead; rw [hr]; rfl
      have hbt : B2 = true := by rw [HB2.out]; unfold kindReadB; rw [hr]; rfl
      have hq := readK_some hr
      subst hk2 hbt
      have HOK := hide hq
      have hbk : K2.bulk ≤ 1048576 := by have := ok_bulk hq.1; omega
      clear hr hq
      have y1c := HY6.out.cell 1
      have y2c := HY6.out.cell 2
      have HC := hide (implKindOk_any K2 _ fq4 v6 HU6.out HM6.out hbk)
      go_wp2_with fail
      refine HC.out.mono ?_
      rintro e v7 ⟨rfl, hb7⟩
      rw [tb_true HOK.out.1]
      have HY7 := hide (HY6.out.below hb7 HY6.out.lt)
      have HU7 := hide (HU6.out.below hb7 HM6.out)
      have HM7 := hide (HM6.out.up hb7)
      have HV7 := hide (HV6.out.trans (hb7.mono HV6.out.size))
      clear hb7 HY6 HU6 HM6 HV6 HC y0c y1c y2c ly
      have y0c := HY7.out.cell 0
      have y1c := HY7.out.cell 1
      have y2c := HY7.out.cell 2
      have ly := HY7.out.lt
      have HC := hide (implKindWrite_any K2 _ fq4 v7 HU7.out HM7.out hbk)
      have hwt : K2.written = t := by rw [Kind.written_yes HOK.out.1]; exact HOK.out.2
      rw [hwt] at HC
      clear hwt
      go_wp2_with fail
      refine HC.out.mono ?_
      rintro e v8 ⟨rfl, hb8⟩
      go_wp2
      go_ret
      exact ⟨rfl, HV7.out.trans (hb8.mono HV7.out.size)⟩
end Go.Proofs.Ytbjblchhenmgjaa
