/-
  KindWrite: the program's and the reference's answer alike.
-/
import Derived.Test.YtfofpddgfiipkaaKindTextImpl
import Derived.Test.YtfofpddgfiipkaaKindOk2
set_option linter.unusedVariables false
set_option linter.unusedSimpArgs false
namespace Go.Proofs.Ytfofpddgfiipkaa
open Go.ChangeShapes Go.WideShapes Go.ChangeAt Go.RowKit

set_option maxRecDepth 100000 in
theorem kindText_any (k : Kind) (us : List Value) (fp : List Nat) (lv : Nat) (w : World) (ho : OwC w k.cells us fp) (hf : Lt fp w.heap.size) (hbk : k.bulk ≤ 1048576) (hg : k.good lv) (hp : k.parts ≤ 40) :
    Calls Try.prog 47 #[.agg us.toArray] w fun e w' => e = .returned (.string k.text) ∧ Below w.heap.size w w' := by
  have HO := hide ho
  obtain ⟨A1, c1, A2, c2, f1, f2, rfl, w0, o1, o2, rfl⟩ := ho.oKind
  have hsz := Kind.text_size k lv hg
  have R0 : Row (w.alloc (.cells #[.int .i64 k.sort, .slice A1 k.names.length c1, .slice A2 k.kids.length c2] 42)) w.heap.size 42 [.int .i64 k.sort, .slice A1 k.names.length c1, .slice A2 k.kids.length c2] := Row.new w _ _
  have hw1 : Below w.heap.size w (w.alloc (.cells #[.int .i64 k.sort, .slice A1 k.names.length c1, .slice A2 k.kids.length c2] 42)) := (Below.refl _ _).alloc (Nat.le_refl _) _
  have hw2 : Below w.heap.size w ((w.alloc (.cells #[.int .i64 k.sort, .slice A1 k.names.length c1, .slice A2 k.kids.length c2] 42)).alloc (.cells #[.pointer none, .slice none 0 0] 80)) := hw1.alloc (by simp) _
  have HB : Hid (Bld ((w.alloc (.cells #[.int .i64 k.sort, .slice A1 k.names.length c1, .slice A2 k.kids.length c2] 42)).alloc (.cells #[.pointer none, .slice none 0 0] 80)) (w.heap.size + 1) .empty) := by
    have h := Bld.new (w.alloc (.cells #[.int .i64 k.sort, .slice A1 k.names.length c1, .slice A2 k.kids.length c2] 42))
    rw [World.size_alloc] at h
    exact h
  have HX := hide (HO.out.below hw2 hf)
  have hf2 : Lt (f1 ++ f2) (w.heap.size + 1) := hf.mono (by omega)
  clear ho o1 o2
  have es : (ByteArray.empty).size = 0 := rfl
  go_enter Try.func47, Try.ntmps47
  go_wp2_with fail
  refine (writeKind_any k _ (f1 ++ f2) lv (w.heap.size + 1) .empty _ HX.out hf2 hbk hg hp HB.out (by omega)).mono ?_
  rintro e w3 ⟨rfl, hb3, hk3⟩
  have HB3 := hide hb3
  have HK3 := hide (hw2.trans (hk3.below.mono (by omega)))
  clear hb3 hk3
  go_wp2_with fail
  refine (bldString_b _ _ _ HB3.out).mono ?_
  rintro e w4 ⟨rfl, hk4⟩
  have HK4 := hide (HK3.out.trans (hk4.below.mono (by omega)))
  clear hk4
  go_wp2
  go_ret
  exact ⟨ret_str (by simp), HK4.out⟩

set_option maxRecDepth 100000 in
theorem implKindWrite_any (k : Kind) (us : List Value) (fp : List Nat) (w : World) (ho : OwC w k.cells us fp) (hf : Lt fp w.heap.size) (hbk : k.bulk ≤ 1048576) :
    Calls Try.prog 22 #[.agg us.toArray] w fun e w' => e = .returned (.string k.written) ∧ Below w.heap.size w w' := by
  have HO := hide ho
  obtain ⟨A1, c1, A2, c2, f1, f2, rfl, w0, o1, o2, rfl⟩ := ho.oKind
  clear ho o1 o2
  have R1 : Row (w.alloc (.cells #[.int .i64 k.sort, .slice A1 k.names.length c1, .slice A2 k.kids.length c2] 42)) w.heap.size 42 [.int .i64 k.sort, .slice A1 k.names.length c1, .slice A2 k.kids.length c2] := Row.new w _ _
  have hw1 : Below w.heap.size w (w.alloc (.cells #[.int .i64 k.sort, .slice A1 k.names.length c1, .slice A2 k.kids.length c2] 42)) := (Below.refl _ _).alloc (Nat.le_refl _) _
  go_enter Try.func22, Try.ntmps22
  go_wp2_with fail
  refine (implKindOk_any k _ _ _ (HO.out.below hw1 hf) (hf.up hw1) hbk).mono ?_
  rintro e w2 ⟨rfl, hb2⟩
  have hB2 := hw1.trans (hb2.mono hw1.size)
  have R2 := R1.below hb2 R1.lt
  have c0 := R2.cell 0
  have c1 := R2.cell 1
  have c2 := R2.cell 2
  have z2 := R2.lt
  by_cases h : k.ok
  · rw [tb_true h]
    have HT := hide (Kind.written_yes h)
    have hp : k.parts ≤ 40 := by have := h.2; omega
    go_wp2_with fail
    refine (kindText_any k _ _ 1 _ (HO.out.below hB2 hf) (hf.up hB2) hbk h.1 hp).mono ?_
    rintro e w3 ⟨rfl, hb3⟩
    go_wp2
    go_ret
    exact ⟨ret_str HT.out.symm, hB2.trans (hb3.mono hB2.size)⟩
  · rw [tb_false h]
    have HT := hide (Kind.written_no h)
    go_wp2
    go_ret
    exact ⟨ret_str HT.out.symm, hB2⟩

set_option maxRecDepth 100000 in
theorem specKindWrite_any (k : Kind) (us : List Value) (fp : List Nat) (w : World) (ho : OwC w k.cells us fp) (hf : Lt fp w.heap.size) (hbk : k.bulk ≤ 1048576) :
    Calls Try.prog 21 #[.agg us.toArray] w fun e w' => e = .returned (.string k.written) ∧ Below w.heap.size w w' := by
  have HO := hide ho
  obtain ⟨A1, c1, A2, c2, f1, f2, rfl, w0, o1, o2, rfl⟩ := ho.oKind
  clear ho o1 o2
  have R1 : Row (w.alloc (.cells #[.int .i64 k.sort, .slice A1 k.names.length c1, .slice A2 k.kids.length c2] 42)) w.heap.size 42 [.int .i64 k.sort, .slice A1 k.names.length c1, .slice A2 k.kids.length c2] := Row.new w _ _
  have hw1 : Below w.heap.size w (w.alloc (.cells #[.int .i64 k.sort, .slice A1 k.names.length c1, .slice A2 k.kids.length c2] 42)) := (Below.refl _ _).alloc (Nat.le_refl _) _
  go_enter Try.func21, Try.ntmps21
  go_wp2_with fail
  refine (specKindOk_any k _ _ _ (HO.out.below hw1 hf) (hf.up hw1) hbk).mono ?_
  rintro e w2 ⟨rfl, hb2⟩
  have hB2 := hw1.trans (hb2.mono hw1.size)
  have R2 := R1.below hb2 R1.lt
  have c0 := R2.cell 0
  have c1 := R2.cell 1
  have c2 := R2.cell 2
  have z2 := R2.lt
  by_cases h : k.ok
  · rw [tb_true h]
    have HT := hide (Kind.written_yes h)
    have hp : k.parts ≤ 40 := by have := h.2; omega
    go_wp2_with fail
    refine (textKind_any k _ _ 1 _ (HO.out.below hB2 hf) (hf.up hB2) hbk h.1 hp).mono ?_
    rintro e w3 ⟨rfl, hb3⟩
    go_wp2
    go_ret
    exact ⟨ret_str HT.out.symm, hB2.trans (hb3.mono hB2.size)⟩
  · rw [tb_false h]
    have HT := hide (Kind.written_no h)
    go_wp2
    go_ret
    exact ⟨ret_str HT.out.symm, hB2⟩
end Go.Proofs.Ytfofpddgfiipkaa
