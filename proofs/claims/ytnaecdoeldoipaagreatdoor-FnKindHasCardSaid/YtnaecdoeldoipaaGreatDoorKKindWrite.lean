/-
  The text of a schema: the reference's l2Text. The text of a schema: the program's write, and the law on KindWrite's two functions. KindWrite: the program's and the reference's answer alike.
-/
import Derived.Deep.RegionHeld3
import Derived.Test.YtnaecdoeldoipaaGreatDoorKKid
import Derived.Test.YtnaecdoeldoipaaGreatDoorKKindText
set_option linter.unusedVariables false
set_option linter.unusedSimpArgs false
namespace Go.Proofs.YtnaecdoeldoipaaGreatDoor
open Go.ChangeShapes Go.WideShapes Go.ChangeAt Go.RowKit

theorem Kind.text1_at (l : List Kind) (h : 0 < l.length) : Kind.text1 l = l[0].text := by
  cases l with
  | nil => simp at h
  | cons x r => simp [Kind.text1]
theorem Kind.partsS_at (l : List Kind) (j : Nat) (h : j < l.length) : l[j].parts ≤ Kind.partsS l := by
  have h1 := Kind.partsS_snoc l j h
  have h2 := Kind.partsS_le l (j + 1)
  omega
theorem Kind.bulkS_at (l : List Kind) (j : Nat) (h : j < l.length) : l[j].bulk ≤ Kind.bulkS l := by
  have h1 := Kind.bulkS_snoc l j h
  have h2 := Kind.bulkS_le l (j + 1)
  omega

noncomputable def Kind.written (k : Kind) : ByteArray := if tb (k.fits 1 0) = true then k.text else .empty
theorem Kind.written_yes {k : Kind} (h : k.fits 1 0) : k.written = k.text := by unfold Kind.written; rw [tb_true h, if_pos rfl]
theorem Kind.written_no {k : Kind} (h : ¬ k.fits 1 0) : k.written = .empty := by unfold Kind.written; rw [tb_false h]; rfl
end Go.Proofs.YtnaecdoeldoipaaGreatDoor
set_option linter.unusedVariables false
set_option linter.unusedSimpArgs false
namespace Go.Proofs.YtnaecdoeldoipaaGreatDoor
open Go.ChangeShapes Go.WideShapes Go.ChangeAt Go.RowKit

def WriteKind (k : Kind) : Prop := ∀ (us : List Value) (fp : List Nat) (lv b : Nat) (s : ByteArray) (w : World), OwC w k.cells us fp → Lt fp b → k.bulk ≤ 1048576 → k.good lv → k.parts ≤ 40 → Bld w b s → s.size + k.text.size ≤ 1048576 →
  Calls Tryz.prog 115 #[.agg us.toArray, .pointer (some ⟨b, 0, none⟩)] w fun e w' => e = .returned (.tuple #[]) ∧ Bld w' b (s ++ k.text) ∧ BK b w w'

theorem Kind.textS_take_le : ∀ (ns : List ByteArray) (ks : List Kind) (b : Bool) (j : Nat), (Kind.textS b (ns.take j) (ks.take j)).size ≤ (Kind.textS b ns ks).size
  | n :: ns, k :: ks, b, 0 => by simp [Kind.textS]
  | n :: ns, k :: ks, b, j + 1 => by
    have := Kind.textS_take_le ns ks false j
    simp only [List.take_succ_cons, Kind.textS, ByteArray.size_append]
    omega
  | [], ks, b, j => by simp [Kind.textS]
  | _ :: _, [], b, j => by simp [Kind.textS]

set_option maxRecDepth 100000 in
set_option maxHeartbeats 1000000 in
theorem writeKind_of (k : Kind) (ih : ∀ x ∈ k.kids, WriteKind x) : WriteKind k := by
  intro us fp lv b s w ho hf hbk hg hp hbld hsize
  obtain ⟨A1, c1, A2, c2, f1, f2, rfl, w0, o1, o2, rfl⟩ := ho.oKind
  clear ho
  have hbw := hbld.lt
  have RK0 : Row (w.alloc (.cells #[.int .i64 k.sort, .slice A1 k.names.length c1, .slice A2 k.kids.length c2] 38)) w.heap.size 38 [.int .i64 k.sort, .slice A1 k.names.length c1, .slice A2 k.kids.length c2] := Row.new w _ _
  have HK0 := hide ((BK.refl b w).alloc (Nat.le_of_lt hbw) (.cells #[.int .i64 k.sort, .slice A1 k.names.length c1, .slice A2 k.kids.length c2] 38))
  have HSB0 := hide (hbld.alloc (.cells #[.int .i64 k.sort, .slice A1 k.names.length c1, .slice A2 k.kids.length c2] 38))
  have hgb : w.heap.size ≠ b := by omega
  have hgk := (Kind.good_iff _ _).1 hg
  have hpk := k.parts_eq
  have hkb := k.bulk_eq; unfold bulkStrs at hkb
  have HT := hide k.text_eq
  have s1 : (ByteArray.mk #[91]).size = 1 := rfl
  have s2 : (ByteArray.mk #[93]).size = 1 := rfl
  have s3 : (ByteArray.mk #[63]).size = 1 := rfl
  have s4 : (ByteArray.mk #[123]).size = 1 := rfl
  have s5 : (ByteArray.mk #[125]).size = 1 := rfl
  have s6 : (ByteArray.mk #[44]).size = 1 := rfl
  have s7 : (ByteArray.mk #[58]).size = 1 := rfl
  have hkl : k.kids.length ≤ 1048576 := by omega
  have hnl : k.names.length ≤ 1048576 := by omega
  clear hbld
  rcases k.shape_iff.1 hgk.2.1 with ⟨h1, h2, h3⟩ | ⟨h1, h2, h3⟩ | ⟨h1, h2, h3⟩
  · clear o1 o2 ih hg hgk h2 h3 hkb RK0
    generalize k.sort = q at *
    rcases h1 with rfl | rfl | rfl
    all_goals
      have HE := hide HT.out
      simp only [if_true, if_false, reduceIte, Int.reduceEq] at HE
      go_enter Tryz.func115, Tryz.ntmps115
      go_wp2_with fail
      refine (writeString_b b s _ _ HSB0.out (by rw [HE.out] at hsize; omega)).mono ?_
      rintro e w2 ⟨rfl, hb2, hk2⟩
      have HB2 := hide hb2
      have HK2 := hide (HK0.out.trans hk2)
      go_wp2
      go_end0
      exact ⟨rfl, by rw [HE.out]; exact HB2.out, HK2.out⟩
  · have hlt : 0 < k.kids.length := by omega
    obtain ⟨g, off, vs, fi, rfl, hgm, hfi, hvl, hcs, hov⟩ := o2.elem Kind.cells_len hlt
    have hov' := hide hov
    obtain ⟨B1, d1, B2, d2, q1, q2, rfl, v0, x1, x2, rfl⟩ := hov.oKind
    have p0 := hcs 0 _ rfl
    have p1 := hcs 1 _ rfl
    have p2 := hcs 2 _ rfl
    simp only [Nat.zero_mul, Nat.add_zero] at p0 p1 p2
    have hgl := hf.right g hgm
    have hfq := hide ((hf.right).sub hfi)
    have HC := hide (ih _ (List.getElem_mem hlt))
    have HTK := hide (Kind.text1_at k.kids hlt)
    have hgx := hide (Kind.goodS_mem _ _ hgk.2.2 _ (List.getElem_mem hlt))
    have hpx := Kind.partsS_at k.kids 0 hlt
    have hbx := Kind.bulkS_at k.kids 0 hlt
    have P0 := hide p0
    have P1 := hide p1
    have P2 := hide p2
    clear x1 x2 hov hcs o1 o2 ih hg hgk h2 h3 p0 p1 p2
    generalize k.kids[0] = x at *
    generalize k.sort = q at *
    rcases h1 with rfl | rfl
    · have HE := hide HT.out
      simp only [if_true, if_false, reduceIte, Int.reduceEq] at HE
      have hsz2 : k.text.size = x.text.size + 2 := by rw [HE.out, HTK.out]; simp only [ByteArray.size_append, s1, s2]; omega
      go_enter Tryz.func115, Tryz.ntmps115
      go_wp2_with fail
      refine (writeByte_b b s 91 _ _ (by rfl) HSB0.out (by omega)).mono ?_
      rintro e w2 ⟨rfl, hb2, hk2⟩
      have HB2 := hide hb2
      have HK2 := hide (HK0.out.trans hk2)
      have RK2 := hk2.row RK0 hgb (by decide)
      have m1 := RK2.cell 2
      have m2 := (HK2.out.below.cell (p := ⟨g, off, none⟩) hgl).trans P0.out
      have m3 := (HK2.out.below.cell (p := ⟨g, off + 1, none⟩) hgl).trans P1.out
      have m4 := (HK2.out.below.cell (p := ⟨g, off + 2, none⟩) hgl).trans P2.out
      clear hb2 hk2
      go_wp2_with fail
      refine (HC.out _ _ (lv + 1) b _ _ (hov'.out.below HK2.out.below hfq.out) hfq.out (by omega) hgx.out (by omega) HB2.out (by simp only [ByteArray.size_append, s1]; omega)).mono ?_
      rintro e w3 ⟨rfl, hb3, hk3⟩
      have HB3 := hide hb3
      have HK3 := hide (HK2.out.trans hk3)
      clear hb3 hk3 m1 m2 m3 m4 RK2
      go_wp2_with fail
      refine (writeByte_b b _ 93 _ _ (by rfl) HB3.out (by simp only [ByteArray.size_append, s1]; omega)).mono ?_
      rintro e w4 ⟨rfl, hb4, hk4⟩
      have HB4 := hide hb4
      have HK4 := hide (HK3.out.trans hk4)
      clear hb4 hk4
      go_wp2
      go_end0
      exact ⟨rfl, by rw [HE.out, HTK.out]; simpa [ba_assoc] using HB4.out, HK4.out⟩
    · have HE := hide HT.out
      simp only [if_true, if_false, reduceIte, Int.reduceEq] at HE
      have hsz2 : k.text.size = x.text.size + 1 := by rw [HE.out, HTK.out]; simp only [ByteArray.size_append, s3]; omega
      go_enter Tryz.func115, Tryz.ntmps115
      go_wp2_with fail
      refine (writeByte_b b s 63 _ _ (by rfl) HSB0.out (by omega)).mono ?_
      rintro e w2 ⟨rfl, hb2, hk2⟩
      have HB2 := hide hb2
      have HK2 := hide (HK0.out.trans hk2)
      have RK2 := hk2.row RK0 hgb (by decide)
      have m1 := RK2.cell 2
      have m2 := (HK2.out.below.cell (p := ⟨g, off, none⟩) hgl).trans P0.out
      have m3 := (HK2.out.below.cell (p := ⟨g, off + 1, none⟩) hgl).trans P1.out
      have m4 := (HK2.out.below.cell (p := ⟨g, off + 2, none⟩) hgl).trans P2.out
      clear hb2 hk2
      go_wp2_with fail
      refine (HC.out _ _ (lv + 1) b _ _ (hov'.out.below HK2.out.below hfq.out) hfq.out (by omega) hgx.out (by omega) HB2.out (by simp only [ByteArray.size_append, s3]; omega)).mono ?_
      rintro e w3 ⟨rfl, hb3, hk3⟩
      have HB3 := hide hb3
      have HK3 := hide (HK2.out.trans hk3)
      clear hb3 hk3 m1 m2 m3 m4 RK2
      go_wp2
      go_end0
      exact ⟨rfl, by rw [HE.out, HTK.out]; simpa [ba_assoc] using HB3.out, HK3.out⟩
  · have HS := hide (fun j => Kind.textS_take_le k.names k.kids true j)
    have HN := hide h2
    have HL := hide h3
    have HI := hide ih
    have HG := hide hgk.2.2
    have HO1 := hide o1
    have HO2 := hide o2
    have HF1 := hide hf.left
    have HF2 := hide hf.right
    have hpp : Kind.partsS k.kids ≤ 39 := by omega
    have hbb : Kind.bulkS k.kids ≤ 1048576 := by omega
    have hend := hide (show k.text = ⟨#[123]⟩ ++ Kind.textS true k.names k.kids ++ ⟨#[125]⟩ by rw [HT.out, h1]; simp)
    have hsz9 : k.text.size = (Kind.textS true k.names k.kids).size + 2 := by rw [hend.out]; simp only [ByteArray.size_append, s4, s5]; omega
    have HRK := hide RK0
    have hle : s.size ≤ 1048576 := by omega
    have hsz8 := hide (show s.size + 1 + (Kind.textS true k.names k.kids).size + 1 ≤ 1048576 by omega)
    clear o1 o2 ih hg hgk h2 h3 hpk hkb hp hbk hf HT hsz9 RK0 hsize
    generalize k.sort = q at *
    subst h1
    go_enter Tryz.func115, Tryz.ntmps115
    go_wp2_with fail
    refine (writeByte_b b s 123 _ _ (by rfl) HSB0.out (by omega)).mono ?_
    rintro e w2 ⟨rfl, hb2, hk2⟩
    have HB2 := hide hb2
    have HK2 := hide (HK0.out.trans hk2)
    have RK2 := hide (hk2.row HRK.out hgb (by decide))
    have m1 := RK2.out.cell 2
    clear hb2 hk2 HRK
    go_wp2
    go_loopw [13] (fun i wr => ∃ j : Nat, j ≤ k.kids.length ∧ i = .int .i64 j ∧ Row wr w.heap.size 38 [.int .i64 5, .slice A1 k.names.length c1, .slice A2 k.kids.length c2] ∧ Bld wr b (s ++ ⟨#[123]⟩ ++ Kind.textS true (k.names.take j) (k.kids.take j)) ∧ BK b w wr) (fun i _ => k.kids.length - (intOf i).toNat)
    case atStart => exact ⟨0, Nat.zero_le _, rfl, RK2.out, by simpa [Kind.textS] using HB2.out, HK2.out⟩
    case round =>
      obtain ⟨j, hj, rfl, hrow, hbl, hkw⟩ := hrel
      have HKW := hide hkw
      have hbr := hbl.lt
      have hgr := hrow.lt
      by_cases hlt : j < k.kids.length
      · have hln : j < k.names.length := by have := HL.out; omega
        obtain ⟨g, off, vs, fi, rfl, hgm, hfi, hvl, hcs, hov⟩ := (HO2.out.below HKW.out.below HF2.out).elem Kind.cells_len hlt
        obtain ⟨ga, oa, us, fa, rfl, hga, hfa, hul, hca, hoa⟩ := (HO1.out.below HKW.out.below HF1.out).elem strC_len hln
        have hov' := hide hov
        obtain ⟨B1, d1, B2, d2, q1, q2, rfl, v0, x1, x2, rfl⟩ := hov.oKind
        obtain ⟨rfl, hs, rfl⟩ := hoa.str
        have p0 := hcs 0 _ rfl
        have p1 := hcs 1 _ rfl
        have p2 := hcs 2 _ rfl
        have pa := hca 0 _ rfl
        simp only [Nat.add_zero, Nat.mul_one] at p0 pa
        have hgl := HF2.out g hgm
        have hal := HF1.out ga hga
        have hfq := hide ((HF2.out).sub hfi)
        have HC := hide (HI.out _ (List.getElem_mem hlt))
        have hgx := hide (Kind.goodS_mem _ _ HG.out _ (List.getElem_mem hlt))
        have hpx := Kind.partsS_at k.kids j hlt
        have hbx := Kind.bulkS_at k.kids j hlt
        have hsx := Kind.text_size _ _ hgx.out
        have hnx : k.names[j].size ≤ 8 := (HN.out j hln).1.2.1
        have hsn := hide (Kind.textS_snoc k.names k.kids true j hln hlt)
        have hcur0 := HS.out j
        have hcur1 := HS.out (j + 1)
        rw [hsn.out] at hcur1
        simp only [ByteArray.size_append, s7] at hcur1
        clear x1 x2 hov hcs hca hoa m1
        generalize k.kids[j] = x at *
        generalize k.names[j] = nm at *
        generalize Kind.textS true (k.names.take j) (k.kids.take j) = cur at *
        have HSB1 := hide (hbl.alloc (.cells #[.int .i64 x.sort, .slice B1 x.names.length d1, .slice B2 x.kids.length d2] 38))
        have HK1 := hide ((BK.refl b wr).alloc (Nat.le_of_lt hbr) (.cells #[.int .i64 x.sort, .slice B1 x.names.length d1, .slice B2 x.kids.length d2] 38))
        have RK1 := hrow.alloc (.cells #[.int .i64 x.sort, .slice B1 x.names.length d1, .slice B2 x.kids.length d2] 38)
        have RX1 : Row (wr.alloc (.cells #[.int .i64 x.sort, .slice B1 x.names.length d1, .slice B2 x.kids.length d2] 38)) wr.heap.size 38 [.int .i64 x.sort, .slice B1 x.names.length d1, .slice B2 x.kids.length d2] := Row.new wr _ _
        have hxb : wr.heap.size ≠ b := by omega
        have hsq := hsz8.out
        have hcm : (comma (true && j == 0)).size = if (0 : Int) < (j : Int) then 1 else 0 := by by_cases h0 : j = 0 <;> (simp [h0, comma, ByteArray.size] <;> omega)
        rw [hcm] at hcur1
        clear hcm
        generalize (Kind.textS true k.names k.kids).size = tot at *
        clear hkw hrow hbl
        by_cases hj0 : (0 : Int) < (j : Int)
        · have hce := hide (show (true && j == 0) = false by simp; omega)
          rw [if_pos hj0] at hcur1
          go_wp2_with fail
          refine (writeByte_b b _ 44 _ _ (by rfl) HSB1.out (by simp only [ByteArray.size_append, s4]; omega)).mono ?_
          rintro e wz ⟨rfl, hz1, hz2⟩
          have HSB2 := hide hz1
          have HK2 := hide (HK1.out.trans hz2)
          have RK2 := hz2.row RK1 hgb (by decide)
          have RX2 := hz2.row RX1 hxb (by decide)
          clear hz1 hz2 RK1 RX1
          have m1 := RK2.cell 1
          have m2 := RK2.lt
          have m3 := RX2.lt
          have m4 := (HK2.out.below.cell (p := ⟨ga, oa + j, none⟩) hal).trans pa
          go_wp2_with fail
          refine (writeString_b b _ _ _ HSB2.out (by simp only [ByteArray.size_append, s4, s6, s7]; omega)).mono ?_
          rintro e wy ⟨rfl, hy1, hy2⟩
          have HSB3 := hide hy1
          have HK3 := hide (HK2.out.trans hy2)
          have RK3 := hy2.row RK2 hgb (by decide)
          have RX3 := hy2.row RX2 hxb (by decide)
          have r0 := RX3.cell 0
          have r1 := RX3.cell 1
          have r2 := RX3.cell 2
          have r3 := RX3.lt
          clear hy1 hy2 m1 m2 m3 m4
          go_wp2_with fail
          refine (HC.out _ _ (lv + 1) b _ _ (hov'.out.below HK3.out.below hfq.out) hfq.out (by omega) hgx.out (by omega) HSB3.out (by simp only [ByteArray.size_append, s4, s6, s7]; omega)).mono ?_
          rintro e wx ⟨rfl, hx1, hx2⟩
          have HK4 := hide (HK3.out.trans hx2)
          have RK4 := hide (hx2.row RK3 hgb (by decide))
          have HX1 := hide hx1
          clear hx1 hx2 RK3 RX3 r0 r1 r2 r3
          go_wp2
          go_roundw
          case rel => exact ⟨j + 1, by omega, by go_num, RK4.out, by have h := HX1.out; rw [hsn.out, hce.out]; simpa [comma, ba_assoc, ba_nil_app] using h, HKW.out.trans HK4.out⟩
          case measure => simp [intOf]; omega
        · have hce := hide (show (true && j == 0) = true by simp; omega)
          rw [if_neg hj0] at hcur1
          have m1 := RK1.cell 1
          have m2 := RK1.lt
          have m3 := RX1.lt
          have m4 := (HK1.out.below.cell (p := ⟨ga, oa + j, none⟩) hal).trans pa
          go_wp2_with fail
          refine (writeString_b b _ _ _ HSB1.out (by simp only [ByteArray.size_append, s4, s6, s7]; omega)).mono ?_
          rintro e wy ⟨rfl, hy1, hy2⟩
          have HSB3 := hide hy1
          have HK3 := hide (HK1.out.trans hy2)
          have RK3 := hy2.row RK1 hgb (by decide)
          have RX3 := hy2.row RX1 hxb (by decide)
          have r0 := RX3.cell 0
          have r1 := RX3.cell 1
          have r2 := RX3.cell 2
          have r3 := RX3.lt
          clear hy1 hy2 m1 m2 m3 m4
          go_wp2_with fail
          refine (HC.out _ _ (lv + 1) b _ _ (hov'.out.below HK3.out.below hfq.out) hfq.out (by omega) hgx.out (by omega) HSB3.out (by simp only [ByteArray.size_append, s4, s6, s7]; omega)).mono ?_
          rintro e wx ⟨rfl, hx1, hx2⟩
          have HK4 := hide (HK3.out.trans hx2)
          have RK4 := hide (hx2.row RK3 hgb (by decide))
          have HX1 := hide hx1
          clear hx1 hx2 RK3 RX3 r0 r1 r2 r3
          go_wp2
          go_roundw
          case rel => exact ⟨j + 1, by omega, by go_num, RK4.out, by have h := HX1.out; rw [hsn.out, hce.out]; simpa [comma, ba_assoc, ba_nil_app] using h, HKW.out.trans HK4.out⟩
          case measure => simp [intOf]; omega
      · obtain rfl : j = k.kids.length := by omega
        have e3 : k.kids.take k.kids.length = k.kids := List.take_length
        have e4 : k.names.take k.kids.length = k.names := by rw [← HL.out]; exact List.take_length
        rw [e3, e4] at hbl
        have HBL := hide hbl
        clear e3 e4 hbl hkw m1
        go_wp2_with fail
        refine (writeByte_b b _ 125 _ _ (by rfl) HBL.out (by simp only [ByteArray.size_append, s4]; have := hsz8.out; omega)).mono ?_
        rintro e w4 ⟨rfl, hb4, hk4⟩
        have HB4 := hide hb4
        have HK4 := hide (HKW.out.trans hk4)
        clear hb4 hk4
        go_wp2
        go_end0
        exact ⟨rfl, by rw [hend.out]; simpa [ba_assoc] using HB4.out, HK4.out⟩

theorem writeKind_any (k : Kind) : WriteKind k := Kind.ind writeKind_of k
end Go.Proofs.YtnaecdoeldoipaaGreatDoor
set_option linter.unusedVariables false
set_option linter.unusedSimpArgs false
namespace Go.Proofs.YtnaecdoeldoipaaGreatDoor
open Go.ChangeShapes Go.WideShapes Go.ChangeAt Go.RowKit

set_option maxRecDepth 100000 in
theorem kindText_any (k : Kind) (us : List Value) (fp : List Nat) (lv : Nat) (w : World) (ho : OwC w k.cells us fp) (hf : Lt fp w.heap.size) (hbk : k.bulk ≤ 1048576) (hg : k.good lv) (hp : k.parts ≤ 40) :
    Calls Tryz.prog 63 #[.agg us.toArray] w fun e w' => e = .returned (.string k.text) ∧ Below w.heap.size w w' := by
  have HO := hide ho
  obtain ⟨A1, c1, A2, c2, f1, f2, rfl, w0, o1, o2, rfl⟩ := ho.oKind
  have hsz := Kind.text_size k lv hg
  have R0 : Row (w.alloc (.cells #[.int .i64 k.sort, .slice A1 k.names.length c1, .slice A2 k.kids.length c2] 38)) w.heap.size 38 [.int .i64 k.sort, .slice A1 k.names.length c1, .slice A2 k.kids.length c2] := Row.new w _ _
  have hw1 : Below w.heap.size w (w.alloc (.cells #[.int .i64 k.sort, .slice A1 k.names.length c1, .slice A2 k.kids.length c2] 38)) := (Below.refl _ _).alloc (Nat.le_refl _) _
  have hw2 : Below w.heap.size w ((w.alloc (.cells #[.int .i64 k.sort, .slice A1 k.names.length c1, .slice A2 k.kids.length c2] 38)).alloc (.cells #[.pointer none, .slice none 0 0] 107)) := hw1.alloc (by simp) _
  have HB : Hid (Bld ((w.alloc (.cells #[.int .i64 k.sort, .slice A1 k.names.length c1, .slice A2 k.kids.length c2] 38)).alloc (.cells #[.pointer none, .slice none 0 0] 107)) (w.heap.size + 1) .empty) := by
    have h := Bld.new (w.alloc (.cells #[.int .i64 k.sort, .slice A1 k.names.length c1, .slice A2 k.kids.length c2] 38))
    rw [World.size_alloc] at h
    exact h
  have HX := hide (HO.out.below hw2 hf)
  have hf2 : Lt (f1 ++ f2) (w.heap.size + 1) := hf.mono (by omega)
  clear ho o1 o2
  have es : (ByteArray.empty).size = 0 := rfl
  go_enter Tryz.func63, Tryz.ntmps63
  go_wp2_with fail
  refine (writeKind_any k _ (f1 ++ f2) lv (w.heap.size + 1) .empty _ HX.out hf2 hbk hg hp HB.out (by omega)).mono ?_
  rintro e w3 ⟨rfl, hb3, hk3⟩
  have HB3 := hide hb3
  have HK3 := hide (hw2.trans (hk3.below.mono (by omega)))
  clear hb3 hk3
  go_wp2_with fail
  refine (bldString_b _ _ _ HB3.out).mono ?_
  rintro e w4 ⟨rfl, hk4⟩
  have HK4 := hide (HK3.out.trans (hk4.below.mono (by omega)))
  clear hk4
  go_wp2
  go_ret
  exact ⟨ret_str (by simp), HK4.out⟩

set_option maxRecDepth 100000 in
theorem implKindWrite_any (k : Kind) (us : List Value) (fp : List Nat) (w : World) (ho : OwC w k.cells us fp) (hf : Lt fp w.heap.size) (hbk : k.bulk ≤ 1048576) :
    Calls Tryz.prog 23 #[.agg us.toArray] w fun e w' => e = .returned (.string k.written) ∧ Below w.heap.size w w' := by
  have HO := hide ho
  obtain ⟨A1, c1, A2, c2, f1, f2, rfl, w0, o1, o2, rfl⟩ := ho.oKind
  clear ho o1 o2
  have R1 : Row (w.alloc (.cells #[.int .i64 k.sort, .slice A1 k.names.length c1, .slice A2 k.kids.length c2] 38)) w.heap.size 38 [.int .i64 k.sort, .slice A1 k.names.length c1, .slice A2 k.kids.length c2] := Row.new w _ _
  have hw1 : Below w.heap.size w (w.alloc (.cells #[.int .i64 k.sort, .slice A1 k.names.length c1, .slice A2 k.kids.length c2] 38)) := (Below.refl _ _).alloc (Nat.le_refl _) _
  go_enter Tryz.func23, Tryz.ntmps23
  go_wp2_with fail
  refine (implKindOk_any k _ _ _ (HO.out.below hw1 hf) (hf.up hw1) hbk).mono ?_
  rintro e w2 ⟨rfl, hb2⟩
  have hB2 := hw1.trans (hb2.mono hw1.size)
  have R2 := R1.below hb2 R1.lt
  have c0 := R2.cell 0
  have c1 := R2.cell 1
  have c2 := R2.cell 2
  have z2 := R2.lt
  by_cases h : k.ok
  · rw [tb_true h]
    have HT := hide (Kind.written_yes h)
    have hp : k.parts ≤ 40 := by have := h.2; omega
    go_wp2_with fail
    refine (kindText_any k _ _ 1 _ (HO.out.below hB2 hf) (hf.up hB2) hbk h.1 hp).mono ?_
    rintro e w3 ⟨rfl, hb3⟩
    go_wp2
    go_ret
    exact ⟨ret_str HT.out.symm, hB2.trans (hb3.mono hB2.size)⟩
  · rw [tb_false h]
    have HT := hide (Kind.written_no h)
    go_wp2
    go_ret
    exact ⟨ret_str HT.out.symm, hB2⟩

end Go.Proofs.YtnaecdoeldoipaaGreatDoor
