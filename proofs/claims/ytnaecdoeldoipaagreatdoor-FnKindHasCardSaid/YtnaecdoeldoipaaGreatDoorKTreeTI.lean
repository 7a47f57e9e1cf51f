/-
  The text of a tree: the program's write, and TreeWrite.
-/
import Derived.Deep.Cut
import Derived.Test.YtnaecdoeldoipaaGreatDoorKPlanT
import Derived.Test.YtnaecdoeldoipaaGreatDoorKJoined
set_option linter.unusedVariables false
set_option linter.unusedSimpArgs false
namespace Go.Proofs.YtnaecdoeldoipaaGreatDoor
open Go.ChangeShapes Go.WideShapes Go.ChangeAt Go.RowKit

theorem BK.of {b : Nat} {w w' : World} (hb : Below w.heap.size w w') (h : b ≤ w.heap.size) : BK b w w' :=
  ⟨hb.mono h, fun k o hk _ _ => by
    have hlt : k < w.heap.size := (Array.getElem?_eq_some_iff.1 hk).1
    rw [hb.block k hlt]
    exact hk⟩
theorem kidHead_4 (ns : List ByteArray) (i : Nat) : kidHead 4 ns i = if i = 0 then ⟨#[]⟩ else ⟨#[44]⟩ := by
  unfold kidHead
  rw [if_neg (show ¬ ((4 : Int) = 5) by omega)]
  exact ByteArray.append_empty
theorem kidHead_5 {ns : List ByteArray} {i : Nat} (h : i < ns.length) : kidHead 5 ns i = (if i = 0 then ⟨#[]⟩ else ⟨#[44]⟩) ++ (ns[i] ++ ⟨#[58]⟩) := by
  unfold kidHead
  rw [if_pos rfl, List.getElem?_eq_getElem h]
  rfl
set_option maxRecDepth 100000 in
theorem index_noyes (q : Nat) (h : q < 2) (u : World) : (Instr.index 130 (.agg #[.string ⟨#[110, 111]⟩, .string ⟨#[121, 101, 115]⟩]) (.int .i64 (q : Int))).run Tryz.prog u = .ok (.string ([⟨#[110, 111]⟩, ⟨#[121, 101, 115]⟩][q]'(by simpa using h))) u := by
  obtain rfl | rfl : q = 0 ∨ q = 1 := by omega
  all_goals rfl
theorem ba_nil (a : ByteArray) : (⟨#[]⟩ : ByteArray) ++ a = a := ByteArray.empty_append
theorem ba_empty (a : ByteArray) : a ++ .empty = a := ByteArray.append_empty
def WriteTree (k : Tree) : Prop := ∀ (us : List Value) (fp : List Nat) (lv b : Nat) (s : ByteArray) (w : World), OwC w k.cells us fp → Lt fp b → k.bulk ≤ 1048576 → k.good lv → k.parts ≤ 120 → Tab w → 3 < b → Bld w b s → s.size + 80 * k.parts ≤ 1048576 →
  Calls Tryz.prog 95 #[.agg us.toArray, .pointer (some ⟨b, 0, none⟩)] w fun e w' => e = .returned (.tuple #[]) ∧ Bld w' b (s ++ k.wr) ∧ BK b w w'
def KidsTree (k : Tree) : Prop := ∀ (us : List Value) (fp : List Nat) (lv b : Nat) (s : ByteArray) (w : World), OwC w k.cells us fp → Lt fp b → k.bulk ≤ 1048576 → k.good lv → k.parts ≤ 120 → Tab w → 3 < b → Bld w b s → s.size + 80 * Tree.partsS k.kids + 40 ≤ 1048576 →
  Calls Tryz.prog 134 #[.agg us.toArray, .pointer (some ⟨b, 0, none⟩)] w fun e w' => e = .returned (.tuple #[]) ∧ Bld w' b (s ++ Tree.wrS k.sort k.names 0 k.kids) ∧ BK b w w'
set_option maxRecDepth 100000 in
set_option maxHeartbeats 8000000 in
theorem kidsTree_4 (k : Tree) (ih : ∀ x ∈ k.kids, WriteTree x) (h1 : k.sort = 4) : KidsTree k := by
  intro us fp lv b s w ho hf hbk hg hp ht hg0 hbld hsize
  obtain ⟨A1, c1, A2, c2, f1, f2, rfl, w0, w1, w2, o1, o2, rfl⟩ := ho.oTree
  clear ho
  have hgk := (Tree.good_iff _ _).1 hg
  have hpk := k.parts_eq
  have hkb := k.bulk_eq
  unfold bulkStrs at hkb
  have hall := hide (fun j => Tree.wrS_size k.sort k.names (Tree.names_small hgk.2.1) (k.kids.take j) 0 (fun x hx => Tree.wr_size x _ (Tree.goodS_mem _ _ hgk.2.2 x (List.mem_of_mem_take hx))))
  have hbw := hbld.lt
  have s6 : (ByteArray.mk #[44]).size = 1 := rfl
  have s7 : (ByteArray.mk #[58]).size = 1 := rfl
  have hkl : k.kids.length ≤ 1048576 := by omega
  have hnl : k.names.length ≤ 1048576 := by omega
  have hbS : Tree.bulkS k.kids ≤ 1048576 := by omega
  rw [h1] at hall ⊢
  have HGG := hide hgk.2.2
  have HI := hide ih
  have HO1 := hide o1
  have HO2 := hide o2
  have HF1 := hide hf.left
  have HF2 := hide hf.right
  have HT := hide ht
  have hgw : w.heap.size ≠ b := by omega
  have HKw := hide ((BK.refl b w).alloc (Nat.le_of_lt hbw) (.cells #[.int .i64 4, .int .i64 k.num, .string k.text, .slice A1 k.names.length c1, .slice A2 k.kids.length c2] 26))
  have HBw := hide (hbld.alloc (.cells #[.int .i64 4, .int .i64 k.num, .string k.text, .slice A1 k.names.length c1, .slice A2 k.kids.length c2] 26))
  have RW : Row (w.alloc (.cells #[.int .i64 4, .int .i64 k.num, .string k.text, .slice A1 k.names.length c1, .slice A2 k.kids.length c2] 26)) w.heap.size 26 [.int .i64 4, .int .i64 k.num, .string k.text, .slice A1 k.names.length c1, .slice A2 k.kids.length c2] := Row.new w _ _
  have HRw := hide RW
  have m0 := RW.cell 0
  have m3 := RW.cell 3
  have m4 := RW.cell 4
  have ml := RW.lt
  clear o1 o2 ih hg hgk hbld h1 w0 hkb hbk hf ht RW
  go_enter Tryz.func134, Tryz.ntmps134
  go_wp2_with fail
  go_loopw [9] (fun i wr => ∃ j : Nat, i = .int .i64 (j : Int) ∧ j ≤ k.kids.length ∧ Bld wr b (s ++ Tree.wrS 4 k.names 0 (k.kids.take j)) ∧ BK b w wr ∧ Row wr w.heap.size 26 [.int .i64 4, .int .i64 k.num, .string k.text, .slice A1 k.names.length c1, .slice A2 k.kids.length c2]) (fun i _ => k.kids.length - (intOf i).toNat)
  case atStart => exact ⟨0, rfl, Nat.zero_le _, by rw [List.take_zero]; unfold Tree.wrS; rw [ba_empty]; exact HBw.out, HKw.out, HRw.out⟩
  case round =>
    obtain ⟨j, rfl, hj, hbb, hkk, hrr⟩ := hrel
    have HB0 := hide hbb
    have HKr := hide hkk
    have HRr := hide hrr
    have hbr := hbb.lt
    clear m0 m3 m4 ml hbb hkk hrr
    by_cases hlt : j < k.kids.length
    · have hltI : (j : Int) < (k.kids.length : Int) := by omega
      have hj0 : (0 : Int) ≤ (j : Int) := by omega
      obtain ⟨g, off, vs, fi, rfl, hgm, hfi, hvl, hcs, hov⟩ := (HO2.out.below HKr.out.below HF2.out).elem Tree.cells_len hlt
      have HOV := hide hov
      obtain ⟨B1, d1, B2, d2, q1, q2, rfl, v0, v1, v2, x1, x2, rfl⟩ := hov.oTree
      have p0 := hcs 0 _ rfl
      have p1 := hcs 1 _ rfl
      have p2 := hcs 2 _ rfl
      have p3 := hcs 3 _ rfl
      have p4 := hcs 4 _ rfl
      simp only [Nat.add_zero] at p0
      have hgl : g < wr.heap.size := Nat.lt_trans (HF2.out g hgm) hbr
      have HFQ := hide ((HF2.out).sub hfi)
      have HC := hide (HI.out _ (List.getElem_mem hlt))
      have HGX := hide (Tree.goodS_mem _ _ HGG.out _ (List.getElem_mem hlt))
      have hpx := Tree.partsS_at k.kids j hlt
      have hps := Tree.partsS_snoc k.kids j hlt
      have hpl := Tree.partsS_le k.kids (j + 1)
      have hbx := Tree.bulk_at k.kids j hlt
      have hcs1 := Tree.wrS_size 4 k.names
      have hcur := hall.out j
      have HS := hide ((Tree.wrS_snoc 4 k.names k.kids 0 j hlt).trans (by rw [Nat.zero_add, kidHead_4]))
      clear x1 x2 hov hcs hcs1
      generalize k.kids[j] = x at *
      generalize Tree.wrS 4 k.names 0 (k.kids.take j) = cur at *
      have r0 := HRr.out.cell 0
      have r3 := HRr.out.cell 3
      have r4 := HRr.out.cell 4
      have rl := HRr.out.lt
      go_upto_region 4 with fail
      have HRW1 := hide (HRr.out.alloc (.cells #[.int .i64 x.sort, .int .i64 x.num, .string x.text, .slice B1 x.names.length d1, .slice B2 x.kids.length d2] 26))
      have HRX1 := hide (show Row (wr.alloc (.cells #[.int .i64 x.sort, .int .i64 x.num, .string x.text, .slice B1 x.names.length d1, .slice B2 x.kids.length d2] 26)) wr.heap.size 26 [.int .i64 x.sort, .int .i64 x.num, .string x.text, .slice B1 x.names.length d1, .slice B2 x.kids.length d2] from Row.new wr _ _)
      have HB1 := hide (HB0.out.alloc (.cells #[.int .i64 x.sort, .int .i64 x.num, .string x.text, .slice B1 x.names.length d1, .slice B2 x.kids.length d2] 26))
      have HKa := hide (HKr.out.alloc (Nat.le_of_lt hbr) (.cells #[.int .i64 x.sort, .int .i64 x.num, .string x.text, .slice B1 x.names.length d1, .slice B2 x.kids.length d2] 26))
      have HQ1 := hide ((BK.refl b wr).alloc (Nat.le_of_lt hbr) (.cells #[.int .i64 x.sort, .int .i64 x.num, .string x.text, .slice B1 x.names.length d1, .slice B2 x.kids.length d2] 26))
      have hgx0 : wr.heap.size ≠ b := by omega
      clear r0 r3 r4 rl p0 p1 p2 p3 p4 HRr HB0 HKr
      generalize wr.alloc _ = W1 at HRW1 HRX1 HB1 HKa HQ1 ⊢
      generalize hgx : wr.heap.size = gx at HRX1 hgx0 ⊢
      clear hgx
      by_cases hz : j = 0
      · rw [if_pos hz] at HS
        have HKc1 := HKa
        clear HKa
        subst hz
        have y0 := HRW1.out.cell 0
        have y3 := HRW1.out.cell 3
        have yl := HRW1.out.lt
        have z0 := HRX1.out.cell 0
        have z1 := HRX1.out.cell 1
        have z2 := HRX1.out.cell 2
        have z3 := HRX1.out.cell 3
        have z4 := HRX1.out.cell 4
        have zl := HRX1.out.lt
        go_wp2_with fail
        refine (HC.out _ _ (lv + 1) b _ _ (HOV.out.below HQ1.out.below HFQ.out) HFQ.out (by omega) HGX.out (by omega) (HT.out.low HKc1.out.below hg0) hg0 HB1.out (by simp only [ByteArray.size_append]; omega)).mono ?_
        rintro e w9 ⟨rfl, hb9, hk9⟩
        clear y0 y3 yl
        clear z0 z1 z2 z3 z4 zl
        have HB9 := hide hb9
        have HKc9 := hide (HKc1.out.trans hk9)
        have HQ9 := hide (HQ1.out.trans hk9)
        have HRW9 := hide (hk9.row HRW1.out hgw (by decide))
        have HRX9 := hide (hk9.row HRX1.out hgx0 (by decide))
        clear hb9 hk9 HB1 HKc1 HQ1 HRW1 HRX1
        go_wp2
        go_roundw
        case rel => exact ⟨1, by go_num, by omega, by rw [show (1 : Nat) = 0 + 1 from rfl, HS.out]; simpa only [ByteArray.append_assoc, ba_nil] using HB9.out, HKc9.out, HRW9.out⟩
        case measure => simp [intOf]; omega
      · rw [if_neg hz] at HS
        have HKc1 := HKa
        clear HKa
        have hzI : (0 : Int) < (j : Int) := by omega
        have y0 := HRW1.out.cell 0
        have y3 := HRW1.out.cell 3
        have yl := HRW1.out.lt
        go_wp2_with fail
        refine (writeByte_b b _ 44 _ _ (by rfl) HB1.out (by simp only [ByteArray.size_append]; omega)).mono ?_
        rintro e w5 ⟨rfl, hb5, hk5⟩
        clear y0 y3 yl
        have HB5 := hide hb5
        have HKc5 := hide (HKc1.out.trans hk5)
        have HQ5 := hide (HQ1.out.trans hk5)
        have HRW5 := hide (hk5.row HRW1.out hgw (by decide))
        have HRX5 := hide (hk5.row HRX1.out hgx0 (by decide))
        clear hb5 hk5 HB1 HKc1 HQ1 HRW1 HRX1
        have y0 := HRW5.out.cell 0
        have y3 := HRW5.out.cell 3
        have yl := HRW5.out.lt
        have z0 := HRX5.out.cell 0
        have z1 := HRX5.out.cell 1
        have z2 := HRX5.out.cell 2
        have z3 := HRX5.out.cell 3
        have z4 := HRX5.out.cell 4
        have zl := HRX5.out.lt
        go_wp2_with fail
        refine (HC.out _ _ (lv + 1) b _ _ (HOV.out.below HQ5.out.below HFQ.out) HFQ.out (by omega) HGX.out (by omega) (HT.out.low HKc5.out.below hg0) hg0 HB5.out (by simp only [ByteArray.size_append]; omega)).mono ?_
        rintro e w9 ⟨rfl, hb9, hk9⟩
        clear y0 y3 yl
        clear z0 z1 z2 z3 z4 zl
        have HB9 := hide hb9
        have HKc9 := hide (HKc5.out.trans hk9)
        have HQ9 := hide (HQ5.out.trans hk9)
        have HRW9 := hide (hk9.row HRW5.out hgw (by decide))
        have HRX9 := hide (hk9.row HRX5.out hgx0 (by decide))
        clear hb9 hk9 HB5 HKc5 HQ5 HRW5 HRX5
        go_wp2
        go_roundw
        case rel => exact ⟨j + 1, by go_num, by omega, by rw [HS.out]; simpa only [ByteArray.append_assoc, ba_nil] using HB9.out, HKc9.out, HRW9.out⟩
        case measure => simp [intOf]; omega
    · obtain rfl : j = k.kids.length := by omega
      have HZ := hide (show Bld wr b (s ++ Tree.wrS 4 k.names 0 k.kids) from by have h := HB0.out; rwa [List.take_length] at h)
      clear HB0
      go_wp2
      go_end0
      exact ⟨rfl, HZ.out, HKr.out⟩
set_option maxRecDepth 100000 in
set_option maxHeartbeats 8000000 in
theorem kidsTree_5 (k : Tree) (ih : ∀ x ∈ k.kids, WriteTree x) (h1 : k.sort = 5) : KidsTree k := by
  intro us fp lv b s w ho hf hbk hg hp ht hg0 hbld hsize
  obtain ⟨A1, c1, A2, c2, f1, f2, rfl, w0, w1, w2, o1, o2, rfl⟩ := ho.oTree
  clear ho
  have hgk := (Tree.good_iff _ _).1 hg
  have hpk := k.parts_eq
  have hkb := k.bulk_eq
  unfold bulkStrs at hkb
  have hall := hide (fun j => Tree.wrS_size k.sort k.names (Tree.names_small hgk.2.1) (k.kids.take j) 0 (fun x hx => Tree.wr_size x _ (Tree.goodS_mem _ _ hgk.2.2 x (List.mem_of_mem_take hx))))
  have hbw := hbld.lt
  have s6 : (ByteArray.mk #[44]).size = 1 := rfl
  have s7 : (ByteArray.mk #[58]).size = 1 := rfl
  have hkl : k.kids.length ≤ 1048576 := by omega
  have hnl : k.names.length ≤ 1048576 := by omega
  have hbS : Tree.bulkS k.kids ≤ 1048576 := by omega
  have h5 : NamesOk k.names ∧ k.names.length = k.kids.length := by
    rcases hgk.2.1 with h | h | h | h | h | h
    · exact absurd h.1 (by omega)
    · exact absurd h.1 (by omega)
    · exact absurd h.1 (by omega)
    · exact absurd h.1 (by omega)
    · exact ⟨h.2.2.2.1, h.2.2.2.2⟩
    · exact absurd h.1 (by omega)
  have HK1 := hide h5.1
  have HK2 := hide h5.2
  clear h5
  rw [h1] at hall ⊢
  have HGG := hide hgk.2.2
  have HI := hide ih
  have HO1 := hide o1
  have HO2 := hide o2
  have HF1 := hide hf.left
  have HF2 := hide hf.right
  have HT := hide ht
  have hgw : w.heap.size ≠ b := by omega
  have HKw := hide ((BK.refl b w).alloc (Nat.le_of_lt hbw) (.cells #[.int .i64 5, .int .i64 k.num, .string k.text, .slice A1 k.names.length c1, .slice A2 k.kids.length c2] 26))
  have HBw := hide (hbld.alloc (.cells #[.int .i64 5, .int .i64 k.num, .string k.text, .slice A1 k.names.length c1, .slice A2 k.kids.length c2] 26))
  have RW : Row (w.alloc (.cells #[.int .i64 5, .int .i64 k.num, .string k.text, .slice A1 k.names.length c1, .slice A2 k.kids.length c2] 26)) w.heap.size 26 [.int .i64 5, .int .i64 k.num, .string k.text, .slice A1 k.names.length c1, .slice A2 k.kids.length c2] := Row.new w _ _
  have HRw := hide RW
  have m0 := RW.cell 0
  have m3 := RW.cell 3
  have m4 := RW.cell 4
  have ml := RW.lt
  clear o1 o2 ih hg hgk hbld h1 w0 hkb hbk hf ht RW
  go_enter Tryz.func134, Tryz.ntmps134
  go_wp2_with fail
  go_loopw [9] (fun i wr => ∃ j : Nat, i = .int .i64 (j : Int) ∧ j ≤ k.kids.length ∧ Bld wr b (s ++ Tree.wrS 5 k.names 0 (k.kids.take j)) ∧ BK b w wr ∧ Row wr w.heap.size 26 [.int .i64 5, .int .i64 k.num, .string k.text, .slice A1 k.names.length c1, .slice A2 k.kids.length c2]) (fun i _ => k.kids.length - (intOf i).toNat)
  case atStart => exact ⟨0, rfl, Nat.zero_le _, by rw [List.take_zero]; unfold Tree.wrS; rw [ba_empty]; exact HBw.out, HKw.out, HRw.out⟩
  case round =>
    obtain ⟨j, rfl, hj, hbb, hkk, hrr⟩ := hrel
    have HB0 := hide hbb
    have HKr := hide hkk
    have HRr := hide hrr
    have hbr := hbb.lt
    clear m0 m3 m4 ml hbb hkk hrr
    by_cases hlt : j < k.kids.length
    · have hltI : (j : Int) < (k.kids.length : Int) := by omega
      have hj0 : (0 : Int) ≤ (j : Int) := by omega
      obtain ⟨g, off, vs, fi, rfl, hgm, hfi, hvl, hcs, hov⟩ := (HO2.out.below HKr.out.below HF2.out).elem Tree.cells_len hlt
      have HOV := hide hov
      obtain ⟨B1, d1, B2, d2, q1, q2, rfl, v0, v1, v2, x1, x2, rfl⟩ := hov.oTree
      have p0 := hcs 0 _ rfl
      have p1 := hcs 1 _ rfl
      have p2 := hcs 2 _ rfl
      have p3 := hcs 3 _ rfl
      have p4 := hcs 4 _ rfl
      simp only [Nat.add_zero] at p0
      have hgl : g < wr.heap.size := Nat.lt_trans (HF2.out g hgm) hbr
      have HFQ := hide ((HF2.out).sub hfi)
      have HC := hide (HI.out _ (List.getElem_mem hlt))
      have HGX := hide (Tree.goodS_mem _ _ HGG.out _ (List.getElem_mem hlt))
      have hpx := Tree.partsS_at k.kids j hlt
      have hps := Tree.partsS_snoc k.kids j hlt
      have hpl := Tree.partsS_le k.kids (j + 1)
      have hbx := Tree.bulk_at k.kids j hlt
      have hcs1 := Tree.wrS_size 5 k.names
      have hcur := hall.out j
      have hln : j < k.names.length := by have := HK2.out; omega
      have hnx : k.names[j].size ≤ 8 := (HK1.out j hln).1.2.1
      have HS := hide ((Tree.wrS_snoc 5 k.names k.kids 0 j hlt).trans (by rw [Nat.zero_add, kidHead_5 hln]))
      clear x1 x2 hov hcs hcs1
      generalize k.kids[j] = x at *
      generalize Tree.wrS 5 k.names 0 (k.kids.take j) = cur at *
      have r0 := HRr.out.cell 0
      have r3 := HRr.out.cell 3
      have r4 := HRr.out.cell 4
      have rl := HRr.out.lt
      go_upto_region 4 with fail
      have HRW1 := hide (HRr.out.alloc (.cells #[.int .i64 x.sort, .int .i64 x.num, .string x.text, .slice B1 x.names.length d1, .slice B2 x.kids.length d2] 26))
      have HRX1 := hide (show Row (wr.alloc (.cells #[.int .i64 x.sort, .int .i64 x.num, .string x.text, .slice B1 x.names.length d1, .slice B2 x.kids.length d2] 26)) wr.heap.size 26 [.int .i64 x.sort, .int .i64 x.num, .string x.text, .slice B1 x.names.length d1, .slice B2 x.kids.length d2] from Row.new wr _ _)
      have HB1 := hide (HB0.out.alloc (.cells #[.int .i64 x.sort, .int .i64 x.num, .string x.text, .slice B1 x.names.length d1, .slice B2 x.kids.length d2] 26))
      have HKa := hide (HKr.out.alloc (Nat.le_of_lt hbr) (.cells #[.int .i64 x.sort, .int .i64 x.num, .string x.text, .slice B1 x.names.length d1, .slice B2 x.kids.length d2] 26))
      have HQ1 := hide ((BK.refl b wr).alloc (Nat.le_of_lt hbr) (.cells #[.int .i64 x.sort, .int .i64 x.num, .string x.text, .slice B1 x.names.length d1, .slice B2 x.kids.length d2] 26))
      have hgx0 : wr.heap.size ≠ b := by omega
      clear r0 r3 r4 rl p0 p1 p2 p3 p4 HRr HB0 HKr
      generalize wr.alloc _ = W1 at HRW1 HRX1 HB1 HKa HQ1 ⊢
      generalize hgx : wr.heap.size = gx at HRX1 hgx0 ⊢
      clear hgx
      by_cases hz : j = 0
      · rw [if_pos hz] at HS
        have HKc1 := HKa
        clear HKa
        subst hz
        have y0 := HRW1.out.cell 0
        have y3 := HRW1.out.cell 3
        have yl := HRW1.out.lt
        obtain ⟨ga, oa, us, fa, hA1, hga, hfa, hul, hca, hoa⟩ := (HO1.out.below HKc1.out.below HF1.out).elem strC_len hln
        obtain ⟨rfl, hs, rfl⟩ := hoa.str
        subst hA1
        have pa := hca 0 _ rfl
        simp only [Nat.add_zero, Nat.mul_one] at pa
        have hal : ga < W1.heap.size := Nat.lt_trans (HF1.out ga hga) HB1.out.lt
        clear hca hoa
        generalize k.names[0]'hln = nm at *
        go_wp2_with fail
        refine (writeString_b b _ _ _ HB1.out (by simp only [ByteArray.size_append]; omega)).mono ?_
        rintro e w6 ⟨rfl, hb6, hk6⟩
        clear pa hal
        clear y0 y3 yl
        have HB6 := hide hb6
        have HKc6 := hide (HKc1.out.trans hk6)
        have HQ6 := hide (HQ1.out.trans hk6)
        have HRW6 := hide (hk6.row HRW1.out hgw (by decide))
        have HRX6 := hide (hk6.row HRX1.out hgx0 (by decide))
        clear hb6 hk6 HB1 HKc1 HQ1 HRW1 HRX1
        have z0 := HRX6.out.cell 0
        have z1 := HRX6.out.cell 1
        have z2 := HRX6.out.cell 2
        have z3 := HRX6.out.cell 3
        have z4 := HRX6.out.cell 4
        have zl := HRX6.out.lt
        go_wp2_with fail
        refine (HC.out _ _ (lv + 1) b _ _ (HOV.out.below HQ6.out.below HFQ.out) HFQ.out (by omega) HGX.out (by omega) (HT.out.low HKc6.out.below hg0) hg0 HB6.out (by simp only [ByteArray.size_append]; omega)).mono ?_
        rintro e w9 ⟨rfl, hb9, hk9⟩
        clear z0 z1 z2 z3 z4 zl
        have HB9 := hide hb9
        have HKc9 := hide (HKc6.out.trans hk9)
        have HQ9 := hide (HQ6.out.trans hk9)
        have HRW9 := hide (hk9.row HRW6.out hgw (by decide))
        have HRX9 := hide (hk9.row HRX6.out hgx0 (by decide))
        clear hb9 hk9 HB6 HKc6 HQ6 HRW6 HRX6
        go_wp2
        go_roundw
        case rel => exact ⟨1, by go_num, by omega, by rw [show (1 : Nat) = 0 + 1 from rfl, HS.out]; simpa only [ByteArray.append_assoc, ba_nil] using HB9.out, HKc9.out, HRW9.out⟩
        case measure => simp [intOf]; omega
      · rw [if_neg hz] at HS
        have HKc1 := HKa
        clear HKa
        have hzI : (0 : Int) < (j : Int) := by omega
        have y0 := HRW1.out.cell 0
        have y3 := HRW1.out.cell 3
        have yl := HRW1.out.lt
        go_wp2_with fail
        refine (writeByte_b b _ 44 _ _ (by rfl) HB1.out (by simp only [ByteArray.size_append]; omega)).mono ?_
        rintro e w5 ⟨rfl, hb5, hk5⟩
        clear y0 y3 yl
        have HB5 := hide hb5
        have HKc5 := hide (HKc1.out.trans hk5)
        have HQ5 := hide (HQ1.out.trans hk5)
        have HRW5 := hide (hk5.row HRW1.out hgw (by decide))
        have HRX5 := hide (hk5.row HRX1.out hgx0 (by decide))
        clear hb5 hk5 HB1 HKc1 HQ1 HRW1 HRX1
        have y0 := HRW5.out.cell 0
        have y3 := HRW5.out.cell 3
        have yl := HRW5.out.lt
        obtain ⟨ga, oa, us, fa, hA1, hga, hfa, hul, hca, hoa⟩ := (HO1.out.below HKc5.out.below HF1.out).elem strC_len hln
        obtain ⟨rfl, hs, rfl⟩ := hoa.str
        subst hA1
        have pa := hca 0 _ rfl
        simp only [Nat.add_zero, Nat.mul_one] at pa
        have hal : ga < w5.heap.size := Nat.lt_trans (HF1.out ga hga) HB5.out.lt
        clear hca hoa
        generalize k.names[j]'hln = nm at *
        go_wp2_with fail
        refine (writeString_b b _ _ _ HB5.out (by simp only [ByteArray.size_append]; omega)).mono ?_
        rintro e w6 ⟨rfl, hb6, hk6⟩
        clear pa hal
        clear y0 y3 yl
        have HB6 := hide hb6
        have HKc6 := hide (HKc5.out.trans hk6)
        have HQ6 := hide (HQ5.out.trans hk6)
        have HRW6 := hide (hk6.row HRW5.out hgw (by decide))
        have HRX6 := hide (hk6.row HRX5.out hgx0 (by decide))
        clear hb6 hk6 HB5 HKc5 HQ5 HRW5 HRX5
        have z0 := HRX6.out.cell 0
        have z1 := HRX6.out.cell 1
        have z2 := HRX6.out.cell 2
        have z3 := HRX6.out.cell 3
        have z4 := HRX6.out.cell 4
        have zl := HRX6.out.lt
        go_wp2_with fail
        refine (HC.out _ _ (lv + 1) b _ _ (HOV.out.below HQ6.out.below HFQ.out) HFQ.out (by omega) HGX.out (by omega) (HT.out.low HKc6.out.below hg0) hg0 HB6.out (by simp only [ByteArray.size_append]; omega)).mono ?_
        rintro e w9 ⟨rfl, hb9, hk9⟩
        clear z0 z1 z2 z3 z4 zl
        have HB9 := hide hb9
        have HKc9 := hide (HKc6.out.trans hk9)
        have HQ9 := hide (HQ6.out.trans hk9)
        have HRW9 := hide (hk9.row HRW6.out hgw (by decide))
        have HRX9 := hide (hk9.row HRX6.out hgx0 (by decide))
        clear hb9 hk9 HB6 HKc6 HQ6 HRW6 HRX6
        go_wp2
        go_roundw
        case rel => exact ⟨j + 1, by go_num, by omega, by rw [HS.out]; simpa only [ByteArray.append_assoc, ba_nil] using HB9.out, HKc9.out, HRW9.out⟩
        case measure => simp [intOf]; omega
    · obtain rfl : j = k.kids.length := by omega
      have HZ := hide (show Bld wr b (s ++ Tree.wrS 5 k.names 0 k.kids) from by have h := HB0.out; rwa [List.take_length] at h)
      clear HB0
      go_wp2
      go_end0
      exact ⟨rfl, HZ.out, HKr.out⟩
theorem kidsTree_of (k : Tree) (ih : ∀ x ∈ k.kids, WriteTree x) (h : k.sort = 4 ∨ k.sort = 5) : KidsTree k := h.elim (kidsTree_4 k ih) (kidsTree_5 k ih)
set_option maxRecDepth 100000 in
set_option maxHeartbeats 8000000 in
theorem writeTree_of (k : Tree) (ih : ∀ x ∈ k.kids, WriteTree x) : WriteTree k := by
  intro us fp lv b s w ho hf hbk hg hp ht hg0 hbld hsize
  have HHO := hide ho
  obtain ⟨A1, c1, A2, c2, f1, f2, rfl, w0, w1, w2, o1, o2, rfl⟩ := ho.oTree
  clear ho
  have hgk := (Tree.good_iff _ _).1 hg
  have hpk := k.parts_eq
  have hkb := k.bulk_eq
  unfold bulkStrs at hkb
  have HTX := hide k.wr_eq
  have hbw := hbld.lt
  have hgw : w.heap.size ≠ b := by omega
  have s1 : (ByteArray.mk #[34]).size = 1 := rfl
  have s2 : (ByteArray.mk #[91]).size = 1 := rfl
  have s3 : (ByteArray.mk #[123]).size = 1 := rfl
  have s4 : (ByteArray.mk #[63]).size = 1 := rfl
  have s5 : (ByteArray.mk #[121, 101, 115]).size = 3 := rfl
  have s6 : (ByteArray.mk #[110, 111]).size = 2 := rfl
  have HKw := hide ((BK.refl b w).alloc (Nat.le_of_lt hbw) (.cells #[.int .i64 k.sort, .int .i64 k.num, .string k.text, .slice A1 k.names.length c1, .slice A2 k.kids.length c2] 26))
  have HBw := hide (hbld.alloc (.cells #[.int .i64 k.sort, .int .i64 k.num, .string k.text, .slice A1 k.names.length c1, .slice A2 k.kids.length c2] 26))
  have RW : Row (w.alloc (.cells #[.int .i64 k.sort, .int .i64 k.num, .string k.text, .slice A1 k.names.length c1, .slice A2 k.kids.length c2] 26)) w.heap.size 26 [.int .i64 k.sort, .int .i64 k.num, .string k.text, .slice A1 k.names.length c1, .slice A2 k.kids.length c2] := Row.new w _ _
  have HRw := hide RW
  have HT := hide ht
  have HF := hide hf
  clear RW ht hbld
  rcases hgk.2.1 with ⟨h1, h2, -⟩ | ⟨h1, -, h3, -⟩ | ⟨h1, h2, -⟩ | ⟨h1, -⟩ | ⟨h1, -⟩ | ⟨h1, -, -, h4, h5⟩
  · have HE := hide (show k.wr = dec k.num from by rw [HTX.out, if_pos h1])
    have HIT := hide (fun (W : World) (hb : Below b w W) => itoa_any k.num (by omega) (by omega) W (HT.out.low hb hg0))
    have hd := dec_size k.num (by omega) (by omega)
    clear o1 o2 ih hg hgk hkb HHO h2
    generalize k.sort = q at *
    subst h1
    go_enter Tryz.func95, Tryz.ntmps95
    go_wp2_with fail
    refine (HIT.out _ HKw.out.below).mono ?_
    rintro e w3 ⟨rfl, hb3⟩
    have HB3 := hide (HBw.out.below hb3)
    have HK3 := hide (HKw.out.trans (BK.of hb3 (by rw [World.size_alloc]; omega)))
    clear hb3
    go_wp2_with fail
    refine (writeString_b b _ _ _ HB3.out (by omega)).mono ?_
    rintro e w4 ⟨rfl, hb4, hk4⟩
    have HB4 := hide hb4
    have HK4 := hide (HK3.out.trans hk4)
    clear hb4 hk4
    go_wp2
    go_end0
    exact ⟨rfl, by rw [HE.out]; exact HB4.out, HK4.out⟩
  · have hx := h3.1
    have HE := hide (show k.wr = ⟨#[34]⟩ ++ k.text ++ ⟨#[34]⟩ from by rw [HTX.out, if_neg (by omega), if_pos h1])
    clear o1 o2 ih hg hgk hkb HHO h3
    generalize k.sort = q at *
    generalize k.text = x at *
    subst h1
    go_enter Tryz.func95, Tryz.ntmps95
    go_wp2_with fail
    refine (writeString_b b _ _ _ HBw.out (by simp only [ByteArray.size_append]; omega)).mono ?_
    rintro e w4 ⟨rfl, hb4, hk4⟩
    have HB4 := hide hb4
    have HK4 := hide (HKw.out.trans hk4)
    clear hb4 hk4
    go_wp2
    go_end0
    exact ⟨rfl, by rw [HE.out]; exact HB4.out, HK4.out⟩
  · have HE := hide (show k.wr = if k.num = 1 then ⟨#[121, 101, 115]⟩ else ⟨#[110, 111]⟩ from by rw [HTX.out, if_neg (by omega), if_neg (by omega), if_pos h1])
    clear o1 o2 ih hg hgk hkb HHO
    generalize k.sort = q at *
    subst h1
    by_cases hn : k.num = 1
    · rw [if_pos hn] at HE

      generalize k.num = n at *
      subst hn
      have hix : ∀ u : World, (Instr.index 130 (.agg #[.string ⟨#[110, 111]⟩, .string ⟨#[121, 101, 115]⟩]) (.int .i64 1)).run Tryz.prog u = .ok (.string ⟨#[121, 101, 115]⟩) u := fun u => index_noyes 1 (by omega) u
      go_enter Tryz.func95, Tryz.ntmps95
      go_wp2_with fail
      refine (writeString_b b s ⟨#[121, 101, 115]⟩ _ HBw.out (by omega)).mono ?_
      rintro e w4 ⟨rfl, hb4, hk4⟩
      have HB4 := hide hb4
      have HK4 := hide (HKw.out.trans hk4)
      clear hb4 hk4
      go_wp2
      go_end0
      exact ⟨rfl, by rw [HE.out]; exact HB4.out, HK4.out⟩
    · rw [if_neg hn] at HE
      obtain hn : k.num = 0 := by omega
      generalize k.num = n at *
      subst hn
      have hix : ∀ u : World, (Instr.index 130 (.agg #[.string ⟨#[110, 111]⟩, .string ⟨#[121, 101, 115]⟩]) (.int .i64 0)).run Tryz.prog u = .ok (.string ⟨#[110, 111]⟩) u := fun u => index_noyes 0 (by omega) u
      go_enter Tryz.func95, Tryz.ntmps95
      go_wp2_with fail
      refine (writeString_b b s ⟨#[110, 111]⟩ _ HBw.out (by omega)).mono ?_
      rintro e w4 ⟨rfl, hb4, hk4⟩
      have HB4 := hide hb4
      have HK4 := hide (HKw.out.trans hk4)
      clear hb4 hk4
      go_wp2
      go_end0
      exact ⟨rfl, by rw [HE.out]; exact HB4.out, HK4.out⟩
  · have HE := hide (show k.wr = ⟨#[91]⟩ ++ Tree.wrS k.sort k.names 0 k.kids ++ ⟨#[93]⟩ from by rw [HTX.out, if_neg (by omega), if_neg (by omega), if_neg (by omega), if_pos h1])
    have HKD := hide (kidsTree_of k ih (by omega))
    have HG := hide hg
    have hkd := hide (Tree.wrS_size k.sort k.names (Tree.names_small hgk.2.1) k.kids 0 (fun x hx => Tree.wr_size x _ (Tree.goodS_mem _ _ hgk.2.2 x hx)))
    have z1 : (ByteArray.mk #[93]).size = 1 := rfl
    have m0 : (w.alloc (.cells #[.int .i64 k.sort, .int .i64 k.num, .string k.text, .slice A1 k.names.length c1, .slice A2 k.kids.length c2] 26)).cell? ⟨w.heap.size, 0, none⟩ = some (.int .i64 4) := by rw [← h1]; exact HRw.out.cell 0
    have ml := HRw.out.lt
    have HB1 := hide (BK.refl b w)
    clear o1 o2 ih hg hgk hkb
    rw [h1] at HBw HKw HRw HHO HE hkd m0 ml ⊢
    have HKD2 := hide (fun (us : List Value) (fp : List Nat) (s' : ByteArray) (W : World) (h1' : OwC W k.cells us fp) (h2' : Lt fp b) (h3' : Tab W) (h4' : Bld W b s') (h5' : s'.size + 80 * Tree.partsS k.kids + 40 ≤ 1048576) => show Calls Tryz.prog 134 #[.agg us.toArray, .pointer (some ⟨b, 0, none⟩)] W (fun e w' => e = .returned (.tuple #[]) ∧ Bld w' b (s' ++ Tree.wrS 4 k.names 0 k.kids) ∧ BK b W w') from by
      have h := HKD.out us fp lv b s' W h1' h2' hbk HG.out hp h3' hg0 h4' h5'
      rwa [h1] at h)
    clear HKD HB1 h1
    go_enter Tryz.func95, Tryz.ntmps95
    go_wp2_with fail
    refine (writeByte_b b _ 91 _ _ (by rfl) HBw.out (by omega)).mono ?_
    rintro e w3 ⟨rfl, hb3, hk3⟩
    have HB3 := hide hb3
    have HK3 := hide (HKw.out.trans hk3)
    have HR3 := hide (hk3.row HRw.out hgw (by decide))
    clear hb3 hk3 m0 ml HKw HRw HBw
    have m0 := HR3.out.cell 0
    have m1 := HR3.out.cell 1
    have m2 := HR3.out.cell 2
    have m3 := HR3.out.cell 3
    have m4 := HR3.out.cell 4
    have ml := HR3.out.lt
    go_wp2_with fail
    refine (HKD2.out _ _ _ _ (HHO.out.below HK3.out.below HF.out) HF.out (HT.out.low HK3.out.below hg0) HB3.out (by simp only [ByteArray.size_append]; omega)).mono ?_
    rintro e w4 ⟨rfl, hb4, hk4⟩
    have HB4 := hide hb4
    have HK4 := hide (HK3.out.trans hk4)
    clear hb4 hk4 HB3 HK3 HR3
    clear m0 m1 m2 m3 m4 ml
    have hkd2 := hkd.out
    go_wp2_with fail
    refine (writeByte_b b _ 93 _ _ (by rfl) HB4.out (by simp only [ByteArray.size_append]; omega)).mono ?_
    rintro e w5 ⟨rfl, hb5, hk5⟩
    have HB5 := hide hb5
    have HK5 := hide (HK4.out.trans hk5)
    clear hb5 hk5 HB4 HK4
    go_wp2
    go_end0
    exact ⟨rfl, by rw [HE.out]; simpa only [ByteArray.append_assoc] using HB5.out, HK5.out⟩
  · have HE := hide (show k.wr = ⟨#[123]⟩ ++ Tree.wrS k.sort k.names 0 k.kids ++ ⟨#[125]⟩ from by rw [HTX.out, if_neg (by omega), if_neg (by omega), if_neg (by omega), if_neg (by omega), if_pos h1])
    have HKD := hide (kidsTree_of k ih (by omega))
    have HG := hide hg
    have hkd := hide (Tree.wrS_size k.sort k.names (Tree.names_small hgk.2.1) k.kids 0 (fun x hx => Tree.wr_size x _ (Tree.goodS_mem _ _ hgk.2.2 x hx)))
    have z1 : (ByteArray.mk #[125]).size = 1 := rfl
    have m0 : (w.alloc (.cells #[.int .i64 k.sort, .int .i64 k.num, .string k.text, .slice A1 k.names.length c1, .slice A2 k.kids.length c2] 26)).cell? ⟨w.heap.size, 0, none⟩ = some (.int .i64 5) := by rw [← h1]; exact HRw.out.cell 0
    have ml := HRw.out.lt
    have HB1 := hide (BK.refl b w)
    clear o1 o2 ih hg hgk hkb
    rw [h1] at HBw HKw HRw HHO HE hkd m0 ml ⊢
    have HKD2 := hide (fun (us : List Value) (fp : List Nat) (s' : ByteArray) (W : World) (h1' : OwC W k.cells us fp) (h2' : Lt fp b) (h3' : Tab W) (h4' : Bld W b s') (h5' : s'.size + 80 * Tree.partsS k.kids + 40 ≤ 1048576) => show Calls Tryz.prog 134 #[.agg us.toArray, .pointer (some ⟨b, 0, none⟩)] W (fun e w' => e = .returned (.tuple #[]) ∧ Bld w' b (s' ++ Tree.wrS 5 k.names 0 k.kids) ∧ BK b W w') from by
      have h := HKD.out us fp lv b s' W h1' h2' hbk HG.out hp h3' hg0 h4' h5'
      rwa [h1] at h)
    clear HKD HB1 h1
    go_enter Tryz.func95, Tryz.ntmps95
    go_wp2_with fail
    refine (writeByte_b b _ 123 _ _ (by rfl) HBw.out (by omega)).mono ?_
    rintro e w3 ⟨rfl, hb3, hk3⟩
    have HB3 := hide hb3
    have HK3 := hide (HKw.out.trans hk3)
    have HR3 := hide (hk3.row HRw.out hgw (by decide))
    clear hb3 hk3 m0 ml HKw HRw HBw
    have m0 := HR3.out.cell 0
    have m1 := HR3.out.cell 1
    have m2 := HR3.out.cell 2
    have m3 := HR3.out.cell 3
    have m4 := HR3.out.cell 4
    have ml := HR3.out.lt
    go_wp2_with fail
    refine (HKD2.out _ _ _ _ (HHO.out.below HK3.out.below HF.out) HF.out (HT.out.low HK3.out.below hg0) HB3.out (by simp only [ByteArray.size_append]; omega)).mono ?_
    rintro e w4 ⟨rfl, hb4, hk4⟩
    have HB4 := hide hb4
    have HK4 := hide (HK3.out.trans hk4)
    clear hb4 hk4 HB3 HK3 HR3
    clear m0 m1 m2 m3 m4 ml
    have hkd2 := hkd.out
    go_wp2_with fail
    refine (writeByte_b b _ 125 _ _ (by rfl) HB4.out (by simp only [ByteArray.size_append]; omega)).mono ?_
    rintro e w5 ⟨rfl, hb5, hk5⟩
    have HB5 := hide hb5
    have HK5 := hide (HK4.out.trans hk5)
    clear hb5 hk5 HB4 HK4
    go_wp2
    go_end0
    exact ⟨rfl, by rw [HE.out]; simpa only [ByteArray.append_assoc] using HB5.out, HK5.out⟩
  · have HE := hide (show k.wr = Tree.wrM k.kids from by rw [HTX.out, if_neg (by omega), if_neg (by omega), if_neg (by omega), if_neg (by omega), if_neg (by omega)])
    by_cases hk0 : k.kids.length = 0
    · have HE2 := hide (show k.wr = ⟨#[126]⟩ from by rw [HE.out, List.length_eq_zero_iff.1 hk0]; rfl)
      have q0 : ((k.kids.length : Int) == 0) = true := by simp [hk0]
      clear o1 o2 ih hg hgk hkb HE h4 h5 hk0 HHO
      generalize k.sort = q at *
      subst h1
      go_enter Tryz.func95, Tryz.ntmps95
      go_wp2_with fail
      refine (writeByte_b b _ 126 _ _ (by rfl) HBw.out (by omega)).mono ?_
      rintro e w4 ⟨rfl, hb4, hk4⟩
      have HB4 := hide hb4
      have HK4 := hide (HKw.out.trans hk4)
      clear hb4 hk4
      go_wp2
      (try simp only [Exit.inBlock, Exit.then])
      first
        | refine bodyPost_ret (results_none rfl _ _ _) rfl ?_
        | refine bodyPost_end (results_none rfl _ _ _) rfl ?_
      exact ⟨rfl, by rw [HE2.out]; exact HB4.out, HK4.out⟩
    · have hlt : 0 < k.kids.length := by omega
      obtain ⟨g, off, vs, fi, rfl, hgm, hfi, hvl, hcs, hov⟩ := o2.elem Tree.cells_len hlt
      have HOV := hide hov
      obtain ⟨B1, d1, B2, d2, q1, q2, rfl, v0, v1, v2, x1, x2, rfl⟩ := hov.oTree
      have p0 := hcs 0 _ rfl
      have p1 := hcs 1 _ rfl
      have p2 := hcs 2 _ rfl
      have p3 := hcs 3 _ rfl
      have p4 := hcs 4 _ rfl
      simp only [Nat.zero_mul, Nat.add_zero] at p0 p1 p2 p3 p4
      have hgb : g < b := hf.right g hgm
      have HFQ := hide ((hf.right).sub hfi)
      have HC := hide (ih _ (List.getElem_mem hlt))
      have HTK := hide (HE.out.trans (Tree.wrM_at k.kids hlt))
      have HGX := hide (Tree.goodS_mem _ _ hgk.2.2 _ (List.getElem_mem hlt))
      have hpx := Tree.partsS_at k.kids 0 hlt
      have hbx := Tree.bulk_at k.kids 0 hlt
      have q0 : ((k.kids.length : Int) == 0) = false := beq_eq_false_iff_ne.2 (by omega)
      have hltI : (0 : Int) < (k.kids.length : Int) := by omega
      have P0 := hide p0
      have P1 := hide p1
      have P2 := hide p2
      have P3 := hide p3
      have P4 := hide p4
      clear x1 x2 hov hcs o1 o2 ih hg hgk HE h4 h5 hk0 p0 p1 p2 p3 p4 HHO
      generalize k.kids[0] = x at *
      generalize k.sort = q at *
      subst h1
      go_enter Tryz.func95, Tryz.ntmps95
      go_wp2_with fail
      refine (writeByte_b b _ 63 _ _ (by rfl) HBw.out (by omega)).mono ?_
      rintro e w3 ⟨rfl, hb3, hk3⟩
      have HB3 := hide hb3
      have HK3 := hide (HKw.out.trans hk3)
      have RW3 := hk3.row HRw.out hgw (by decide)
      have r4 := RW3.cell 4
      have rl := RW3.lt
      have hgl : g < w.heap.size := by omega
      have m0 := (HK3.out.below.cell (p := ⟨g, off, none⟩) hgb).trans P0.out
      have m1 := (HK3.out.below.cell (p := ⟨g, off + 1, none⟩) hgb).trans P1.out
      have m2 := (HK3.out.below.cell (p := ⟨g, off + 2, none⟩) hgb).trans P2.out
      have m3 := (HK3.out.below.cell (p := ⟨g, off + 3, none⟩) hgb).trans P3.out
      have m4 := (HK3.out.below.cell (p := ⟨g, off + 4, none⟩) hgb).trans P4.out
      clear hb3 hk3
      go_wp2_with fail
      refine (HC.out _ _ (lv + 1) b _ _ (HOV.out.below HK3.out.below HFQ.out) HFQ.out (by omega) HGX.out (by omega) (HT.out.low HK3.out.below hg0) hg0 HB3.out (by simp only [ByteArray.size_append]; omega)).mono ?_
      rintro e w4 ⟨rfl, hb4, hk4⟩
      have HB4 := hide hb4
      have HK4 := hide (HK3.out.trans hk4)
      clear hb4 hk4 m0 m1 m2 m3 m4 r4 rl RW3
      go_wp2
      go_end0
      exact ⟨rfl, by rw [HTK.out]; simpa only [ByteArray.append_assoc] using HB4.out, HK4.out⟩
theorem writeTree_any (k : Tree) : WriteTree k := Tree.ind writeTree_of k
set_option maxRecDepth 100000 in
set_option maxHeartbeats 2000000 in
theorem treeText_any (k : Tree) (us : List Value) (fp : List Nat) (lv : Nat) (w : World) (ho : OwC w k.cells us fp) (hf : Lt fp w.heap.size) (hbk : k.bulk ≤ 1048576) (ht : Tab w) (hg : k.good lv) (hp : k.parts ≤ 120) :
    Calls Tryz.prog 45 #[.agg us.toArray] w fun e w' => e = .returned (.string k.wr) ∧ Below w.heap.size w w' := by
  obtain ⟨A1, c1, A2, c2, f1, f2, rfl, w0, w1, w2, o1, o2, rfl⟩ := ho.oTree
  have hA : Below w.heap.size w (w.alloc (.cells #[.int .i64 k.sort, .int .i64 k.num, .string k.text, .slice A1 k.names.length c1, .slice A2 k.kids.length c2] 26)) := (Below.refl _ _).alloc (Nat.le_refl _) _
  have HO := hide ho
  clear ho o1 o2
  go_enter Tryz.func45, Tryz.ntmps45
  go_upto_region 2 with fail
  generalize hwA : w.alloc (.cells #[.int .i64 k.sort, .int .i64 k.num, .string k.text, .slice A1 k.names.length c1, .slice A2 k.kids.length c2] 26) = wA at hA
  have hsA : wA.heap.size = w.heap.size + 1 := by rw [← hwA]; simp
  have RA : Row wA w.heap.size 26 [.int .i64 k.sort, .int .i64 k.num, .string k.text, .slice A1 k.names.length c1, .slice A2 k.kids.length c2] := by rw [← hwA]; exact Row.new w _ _
  have hB := Bld.new wA
  have hAB : Below wA.heap.size wA (wA.alloc (.cells #[.pointer none, .slice none 0 0] 107)) := (Below.refl _ _).alloc (Nat.le_refl _) _
  have RB := RA.below hAB RA.lt
  have hWB := hA.trans (hAB.mono hA.size)
  rw [hsA] at hB
  try simp only [hsA]
  clear hwA
  generalize hwB : wA.alloc _ = wB at hB RB hWB hAB ⊢
  obtain ⟨b, hbe⟩ : ∃ b, b = w.heap.size + 1 := ⟨_, rfl⟩
  rw [← hbe] at hB ⊢
  have hb1 : w.heap.size < b := by omega
  have hg0 := ht.lt
  have HB := hide hB
  have HW := hide hWB
  have HT := hide (ht.below hWB)
  have m0 := RB.cell 0
  have m1 := RB.cell 1
  have m2 := RB.cell 2
  have m3 := RB.cell 3
  have m4 := RB.cell 4
  have ml := RB.lt
  have s0 : (ByteArray.empty).size = 0 := rfl
  have HC := hide (writeTree_any k _ _ lv b .empty wB (HO.out.below hWB hf) (hf.mono (Nat.le_of_lt hb1)) hbk hg hp HT.out (by omega) hB (by omega))
  clear hwB hB RB hWB hAB RA hA hsA hbe
  go_wp2_with fail
  refine HC.out.mono ?_
  rintro e w3 ⟨rfl, hb3, hk3⟩
  have HB3 := hide hb3
  have HK3 := hide hk3
  clear hb3 hk3 m0 m1 m2 m3 m4 ml
  go_wp2_with fail
  refine (bldString_b b _ _ HB3.out).mono ?_
  rintro e w4 ⟨rfl, hk4⟩
  have HK4 := hide (HK3.out.trans hk4)
  clear hk4
  go_wp2
  go_ret
  exact ⟨ret_str ByteArray.empty_append, HW.out.trans (HK4.out.below.mono (Nat.le_of_lt hb1))⟩
set_option maxRecDepth 100000 in
set_option maxHeartbeats 1000000 in
theorem implTreeWrite_any (k : Tree) (us : List Value) (fp : List Nat) (w : World) (ho : OwC w k.cells us fp) (hf : Lt fp w.heap.size) (hbk : k.bulk ≤ 1048576) (ht : Tab w) :
    Calls Tryz.prog 12 #[.agg us.toArray] w fun e w' => e = .returned (.string k.write) ∧ Below w.heap.size w w' := by
  obtain ⟨A1, c1, A2, c2, f1, f2, rfl, w0, w1, w2, o1, o2, rfl⟩ := ho.oTree
  have hw1 : Below w.heap.size w (w.alloc (.cells #[.int .i64 k.sort, .int .i64 k.num, .string k.text, .slice A1 k.names.length c1, .slice A2 k.kids.length c2] 26)) := (Below.refl _ _).alloc (Nat.le_refl _) _
  have R1 : Row (w.alloc (.cells #[.int .i64 k.sort, .int .i64 k.num, .string k.text, .slice A1 k.names.length c1, .slice A2 k.kids.length c2] 26)) w.heap.size 26 [.int .i64 k.sort, .int .i64 k.num, .string k.text, .slice A1 k.names.length c1, .slice A2 k.kids.length c2] := Row.new w _ _
  have HO := hide (ho.below hw1 hf)
  have HF := hide (hf.up hw1)
  have HT := hide (ht.below hw1)
  have HR := hide R1
  have HB := hide hw1
  have HC := hide (implTreeOk_any k _ _ _ HO.out HF.out hbk)
  clear ho o1 o2 hw1 R1
  go_enter Tryz.func12, Tryz.ntmps12
  go_wp2_with fail
  refine HC.out.mono ?_
  rintro e w3 ⟨rfl, hb3⟩
  have HO3 := hide (HO.out.below hb3 HF.out)
  have HF3 := hide (HF.out.up hb3)
  have HT3 := hide (HT.out.below hb3)
  have HB3 := hide (HB.out.trans (hb3.mono HB.out.size))
  have HR3 := hide (HR.out.below hb3 HR.out.lt)
  clear hb3 HC HO HF HT HB HR
  by_cases hok : k.ok
  · have HZ := hide (show k.write = k.wr from by unfold Tree.write; rw [if_pos (tb_true hok)])
    have HP := hide (treeText_any k _ _ 1 w3 HO3.out HF3.out hbk HT3.out hok.1 (by have := hok.2; omega))
    rw [tb_true hok]
    have x0 := HR3.out.cell 0
    have x1 := HR3.out.cell 1
    have x2 := HR3.out.cell 2
    have x3 := HR3.out.cell 3
    have x4 := HR3.out.cell 4
    have xl := HR3.out.lt
    clear hok
    go_wp2_with fail
    refine HP.out.mono ?_
    rintro e w4 ⟨rfl, hb4⟩
    go_wp2
    go_ret
    exact ⟨ret_str HZ.out.symm, HB3.out.trans (hb4.mono HB3.out.size)⟩
  · have HZ := hide (show k.write = .empty from by unfold Tree.write; rw [if_neg (by rw [tb_false hok]; simp)])
    rw [tb_false hok]
    clear hok
    go_wp2
    go_ret
    exact ⟨ret_str HZ.out.symm, HB3.out⟩
end Go.Proofs.YtnaecdoeldoipaaGreatDoor
