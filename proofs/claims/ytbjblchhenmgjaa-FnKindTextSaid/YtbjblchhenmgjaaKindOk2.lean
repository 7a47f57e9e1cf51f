/-
  Schemas: the program's KindOk and the reference's answer alike.
-/
import Derived.Test.YtbjblchhenmgjaaKindParts
set_option linter.unusedVariables false
set_option linter.unusedSimpArgs false
namespace Go.Proofs.Ytbjblchhenmgjaa
open Go.ChangeShapes Go.WideShapes Go.ChangeAt Go.RowKit

def Kind.ok (k : Kind) : Prop := k.fits 1 0

set_option maxRecDepth 100000 in
theorem implKindOk_any (k : Kind) (us : List Value) (fp : List Nat) (w : World) (ho : OwC w k.cells us fp) (hf : Lt fp w.heap.size) (hbk : k.bulk ≤ 1048576) :
    Calls Try.prog 40 #[.agg us.toArray] w fun e w' => e = .returned (.bool (tb k.ok)) ∧ Below w.heap.size w w' := by
  have ho' := ho
  obtain ⟨A1, c1, A2, c2, f1, f2, rfl, w0, o1, o2, rfl⟩ := ho.oKind
  have hw1 : Below w.heap.size w ((w.alloc (.cells #[.int .i64 k.sort, .slice A1 k.names.length c1, .slice A2 k.kids.length c2] 47)).alloc (.cells #[.int .i64 0] 3)) := ((Below.refl _ _).alloc (Nat.le_refl _) _).alloc (by simp) _
  have HO := hide (ho'.below hw1 hf)
  have hf2 := (hf.mono hw1.size)
  have hnm : w.heap.size + 1 ∉ f1 ++ f2 := hf.not_mem (by omega)
  clear ho ho' o1 o2
  go_enter Try.func40, Try.ntmps40
  go_wp2_with fail
  refine (lookKind_any k _ _ 1 _ 0 _ _ (by omega) HO.out hf2 hbk (by omega) (by omega) (by omega) (by omega) (by go_simp) (by go_simp) hnm).mono ?_
  rintro e w2 ⟨rfl, _, _, hg⟩
  have hb : Below w.heap.size w w2 := ⟨hg.os.trans hw1.os, hg.tape.trans hw1.tape, hg.output.trans hw1.output, Nat.le_trans hw1.size hg.size, fun i hi => (hg.block i (by simp; omega) (fun e => by injection e with e; omega)).trans (hw1.block i hi)⟩
  go_wp2
  go_ret
  exact ⟨rfl, hb⟩

set_option maxRecDepth 100000 in
theorem specKindOk_any (k : Kind) (us : List Value) (fp : List Nat) (w : World) (ho : OwC w k.cells us fp) (hf : Lt fp w.heap.size) (hbk : k.bulk ≤ 1048576) :
    Calls Try.prog 45 #[.agg us.toArray] w fun e w' => e = .returned (.bool (tb k.ok)) ∧ Below w.heap.size w w' := by
  have ho' := ho
  obtain ⟨A1, c1, A2, c2, f1, f2, rfl, w0, o1, o2, rfl⟩ := ho.oKind
  have hw1 : Below w.heap.size w (w.alloc (.cells #[.int .i64 k.sort, .slice A1 k.names.length c1, .slice A2 k.kids.length c2] 47)) := (Below.refl _ _).alloc (Nat.le_refl _) _
  have HO := hide (ho'.below hw1 hf)
  have hf2 := (hf.mono hw1.size)
  clear ho ho' o1 o2
  go_enter Try.func45, Try.ntmps45
  go_wp2_with fail
  refine (partsKind_any k _ _ 1 _ _ (by omega) HO.out hf2 hbk (by omega) (by omega)).mono ?_
  rintro e w2 ⟨rfl, hb⟩
  have hb' := hw1.trans (hb.mono hw1.size)
  by_cases h : k.ok
  · rw [Kind.partsR_yes h]
    have HT := hide (tb_true h)
    have hp := k.parts_eq
    have h1 : (0 : Int) < k.parts := by omega
    have h2 : (k.parts : Int) ≤ 40 := by have := h.2; omega
    clear hp h
    go_wp2
    go_ret
    exact ⟨ret_bool (by rw [HT.out]; simpa using h1), hb'⟩
  · rw [Kind.partsR_no h]
    have HT := hide (tb_false h)
    clear h
    go_wp2
    go_ret
    exact ⟨ret_bool HT.out.symm, hb'⟩

end Go.Proofs.Ytbjblchhenmgjaa
