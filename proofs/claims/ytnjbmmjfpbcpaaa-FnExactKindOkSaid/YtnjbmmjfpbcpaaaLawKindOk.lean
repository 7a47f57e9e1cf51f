/-
  FnExactKindOk returns true for every schema: the program's KindOk answers as the reference's, and leaves its argument as it was. No condition.
-/
import Derived.Test.YtnjbmmjfpbcpaaaKindParts
import Derived.Deep.RegionHeld3
set_option linter.unusedVariables false
set_option linter.unusedSimpArgs false
namespace Go.Proofs.Ytnjbmmjfpbcpaaa
open Go.ChangeShapes Go.WideShapes Go.ChangeAt Go.RowKit

def Kind.ok (k : Kind) : Prop := k.fits 1 0

set_option maxRecDepth 100000 in
theorem implKindOk_any (k : Kind) (us : List Value) (fp : List Nat) (w : World) (ho : OwC w k.cells us fp) (hf : Lt fp w.heap.size) (hbk : k.bulk ≤ 1048576) :
    Calls Try.prog 28 #[.agg us.toArray] w fun e w' => e = .returned (.bool (tb k.ok)) ∧ Below w.heap.size w w' := by
  have ho' := ho
  obtain ⟨A1, c1, A2, c2, f1, f2, rfl, w0, o1, o2, rfl⟩ := ho.kind
  have hw1 : Below w.heap.size w ((w.alloc (.cells #[.int .i64 k.sort, .slice A1 k.names.length c1, .slice A2 k.kids.length c2] 60)).alloc (.cells #[.int .i64 0] 3)) := ((Below.refl _ _).alloc (Nat.le_refl _) _).alloc (by simp) _
  have HO := hide (ho'.below hw1 hf)
  have hf2 := (hf.mono hw1.size)
  have hnm : w.heap.size + 1 ∉ f1 ++ f2 := hf.not_mem (by omega)
  clear ho ho' o1 o2
  go_enter Try.func28, Try.ntmps28
  go_wp2_with fail
  refine (lookKind_any k _ _ 1 _ 0 _ _ (by omega) HO.out hf2 hbk (by omega) (by omega) (by omega) (by omega) (by go_simp) (by go_simp) hnm).mono ?_
  rintro e w2 ⟨rfl, _, _, hg⟩
  have hb : Below w.heap.size w w2 := ⟨hg.os.trans hw1.os, hg.tape.trans hw1.tape, hg.output.trans hw1.output, Nat.le_trans hw1.size hg.size, fun i hi => (hg.block i (by simp; omega) (fun e => by injection e with e; omega)).trans (hw1.block i hi)⟩
  go_wp2
  go_ret
  exact ⟨rfl, hb⟩

set_option maxRecDepth 100000 in
theorem specKindOk_any (k : Kind) (us : List Value) (fp : List Nat) (w : World) (ho : OwC w k.cells us fp) (hf : Lt fp w.heap.size) (hbk : k.bulk ≤ 1048576) :
    Calls Try.prog 26 #[.agg us.toArray] w fun e w' => e = .returned (.bool (tb k.ok)) ∧ Below w.heap.size w w' := by
  have ho' := ho
  obtain ⟨A1, c1, A2, c2, f1, f2, rfl, w0, o1, o2, rfl⟩ := ho.kind
  have hw1 : Below w.heap.size w (w.alloc (.cells #[.int .i64 k.sort, .slice A1 k.names.length c1, .slice A2 k.kids.length c2] 60)) := (Below.refl _ _).alloc (Nat.le_refl _) _
  have HO := hide (ho'.below hw1 hf)
  have hf2 := (hf.mono hw1.size)
  clear ho ho' o1 o2
  go_enter Try.func26, Try.ntmps26
  go_wp2_with fail
  refine (partsKind_any k _ _ 1 _ _ (by omega) HO.out hf2 hbk (by omega) (by omega)).mono ?_
  rintro e w2 ⟨rfl, hb⟩
  have hb' := hw1.trans (hb.mono hw1.size)
  by_cases h : k.ok
  · rw [Kind.partsR_yes h]
    have HT := hide (tb_true h)
    have hp := k.parts_eq
    have h1 : (0 : Int) < k.parts := by omega
    have h2 : (k.parts : Int) ≤ 40 := by have := h.2; omega
    clear hp h
    go_wp2
    go_ret
    exact ⟨ret_bool (by rw [HT.out]; simpa using h1), hb'⟩
  · rw [Kind.partsR_no h]
    have HT := hide (tb_false h)
    clear h
    go_wp2
    go_ret
    exact ⟨ret_bool HT.out.symm, hb'⟩

set_option maxRecDepth 100000 in
set_option maxHeartbeats 400000 in
theorem lawKindOk_any (k : Kind) (us : List Value) (fp : List Nat) (w : World) (ho : OwC w k.cells us fp) (hf : Lt fp w.heap.size) :
    Calls Try.prog 8 #[.agg us.toArray] w fun e w' => e = .returned (.bool true) ∧ Below w.heap.size w w' := by
  have ho' := ho
  obtain ⟨A1, c1, A2, c2, f1, f2, rfl, w0, o1, o2, rfl⟩ := ho.kind
  have hw1 : Below w.heap.size w (w.alloc (.cells #[.int .i64 k.sort, .slice A1 k.names.length c1, .slice A2 k.kids.length c2] 55)) := (Below.refl _ _).alloc (Nat.le_refl _) _
  have R1 : Row (w.alloc (.cells #[.int .i64 k.sort, .slice A1 k.names.length c1, .slice A2 k.kids.length c2] 55)) w.heap.size 55 [.int .i64 k.sort, .slice A1 k.names.length c1, .slice A2 k.kids.length c2] := Row.new w _ _
  have HO := hide ho'
  clear ho ho' o1 o2
  go_enter Try.func8, Try.ntmps8
  go_wp2_with fail
  refine (szKind_any k _ _ _ _ (HO.out.below hw1 hf) (hf.up hw1) (by omega) (by omega)).mono ?_
  rintro e w1 ⟨rfl, hb1⟩
  by_cases hbk : (k.bulk : Int) ≤ 1048576
  · rw [show szr 1048576 k.bulk = 1048576 - k.bulk from if_pos hbk]
    have hB1 := hw1.trans (hb1.mono hw1.size)
    have Q1 := R1.below hb1 R1.lt
    have c10 := Q1.cell 0
    have c11 := Q1.cell 1
    have c12 := Q1.cell 2
    go_wp2_with fail
    refine (toKind_any k _ _ _ (HO.out.below hB1 hf) (hf.up hB1) (by omega)).mono ?_
    rintro e w2 ⟨vs2, q2, rfl, x2, l2, hb2⟩
    go_wp2_with fail
    refine (specKindOk_any k _ _ _ x2 l2.lt (by omega)).mono ?_
    rintro e w3 ⟨rfl, hb3⟩
    have hB3 := (hB1.trans (hb2.mono hB1.size)).trans (hb3.mono (Nat.le_trans hB1.size hb2.size))
    have Q3 := (Q1.below hb2 Q1.lt).below hb3 (Nat.lt_of_lt_of_le Q1.lt hb2.size)
    have c30 := Q3.cell 0
    have c31 := Q3.cell 1
    have c32 := Q3.cell 2
    clear c10 c11 c12
    go_wp2_with fail
    refine (toKind_any k _ _ _ (HO.out.below hB3 hf) (hf.up hB3) (by omega)).mono ?_
    rintro e w4 ⟨vs4, q4, rfl, x4, l4, hb4⟩
    have hB4 := hB3.trans (hb4.mono hB3.size)
    have Q4 := Q3.below hb4 Q3.lt
    have X4 := hide x4
    obtain ⟨B1, d1, B2, d2, g1, g2, rfl, v0, y1, y2, rfl⟩ := x4.kind
    clear x4 y1 y2
    have R5 : Row (w4.alloc (.cells #[.int .i64 k.sort, .slice B1 k.names.length d1, .slice B2 k.kids.length d2] 60)) w4.heap.size 60 [.int .i64 k.sort, .slice B1 k.names.length d1, .slice B2 k.kids.length d2] := Row.new w4 _ _
    have hA4 : Below w4.heap.size w4 (w4.alloc (.cells #[.int .i64 k.sort, .slice B1 k.names.length d1, .slice B2 k.kids.length d2] 60)) := (Below.refl _ _).alloc (Nat.le_refl _) _
    go_wp2_with fail
    refine (implKindOk_any k _ _ _ (X4.out.below hA4 l4.lt) (l4.lt.up hA4) (by omega)).mono ?_
    rintro e w5 ⟨rfl, hb5⟩
    have hB5 := hB4.trans ((hA4.trans (hb5.mono hA4.size)).mono hB4.size)
    have X5 := hide ((X4.out.below hA4 l4.lt).below hb5 (l4.lt.up hA4))
    have L5 := (l4.lt.up hA4).up hb5
    have Q5 := (Q4.below hA4 Q4.lt).below hb5 (Nat.lt_of_lt_of_le Q4.lt hA4.size)
    have P5 := R5.below hb5 R5.lt
    have a0 := Q5.cell 0
    have a1 := Q5.cell 1
    have a2 := Q5.cell 2
    have b0 := P5.cell 0
    have b1 := P5.cell 1
    have b2 := P5.cell 2
    clear c30 c31 c32
    have s5a : w.heap.size < w5.heap.size := Q5.lt
    have s5b : w4.heap.size < w5.heap.size := P5.lt
    have HB5 := hide hB5
    clear hB1 hB3 hB4 hB5 hb1 hb2 hb3 hb4 hb5 hA4 Q1 Q3 Q4 R5 X4 x2 l2 R1 hw1
    go_wp2
    go_region_held3 (fun w' => w'.cell? ⟨w.heap.size, 0, none⟩ = some (.int .i64 k.sort) ∧ w'.cell? ⟨w.heap.size, 1, none⟩ = some (.slice A1 k.names.length c1) ∧ w'.cell? ⟨w.heap.size, 2, none⟩ = some (.slice A2 k.kids.length c2) ∧
        w'.cell? ⟨w4.heap.size, 0, none⟩ = some (.int .i64 k.sort) ∧ w'.cell? ⟨w4.heap.size, 1, none⟩ = some (.slice B1 k.names.length d1) ∧ w'.cell? ⟨w4.heap.size, 2, none⟩ = some (.slice B2 k.kids.length d2))
      (first | go_keep | exact ⟨Q7.cell 0, Q7.cell 1, Q7.cell 2, P7.cell 0, P7.cell 1, P7.cell 2⟩ | exact ⟨Q6.cell 0, Q6.cell 1, Q6.cell 2, P6.cell 0, P6.cell 1, P6.cell 2⟩)
      (first
        | (go_at_call 27; refine (toKind_any k _ _ _ (HO.out.below HB5.out.drew hf) (hf.up HB5.out.drew) (by omega)).mono ?_; rintro e w6 ⟨vs6, q6, rfl, x6, l6, hb6⟩; have Q6 := (Q5.drewN 1).below hb6 s5a; have P6 := (P5.drewN 1).below hb6 s5b)
        | (go_at_call 29; refine (eqKind_any k _ _ _ _ _ (X5.out.drewN 1 |>.below hb6 L5) x6 (L5.mono hb6.size) l6.lt).mono ?_; rintro e w7 ⟨rfl, hb7⟩; have Q7 := Q6.below hb7 Q6.lt; have P7 := P6.below hb7 P6.lt))
    go_wp2
    go_ret
    exact ⟨rfl, (HB5.out.drew.trans (hb6.mono (by exact HB5.out.size))).trans (hb7.mono (Nat.le_trans HB5.out.size hb6.size))⟩
  · rw [show szr 1048576 k.bulk = -1 from if_neg hbk]
    go_wp2
    go_ret
    exact ⟨rfl, hw1.trans (hb1.mono hw1.size)⟩
end Go.Proofs.Ytnjbmmjfpbcpaaa
