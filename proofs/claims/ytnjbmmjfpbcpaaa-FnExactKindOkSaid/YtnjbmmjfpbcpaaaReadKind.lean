/-
  A schema that came in, read as data.
-/
import Derived.Test.YtnjbmmjfpbcpaaaKind
import Derived.Test.YtnjbmmjfpbcpaaaRead
set_option linter.unusedVariables false
set_option linter.unusedSimpArgs false
namespace Go.Proofs.Ytnjbmmjfpbcpaaa
open Go.ChangeShapes Go.WideShapes Go.ChangeAt Go.RowKit Go.Deep

theorem cellsOf_int : Try.prog.cellsOf 3 = 1 := by kernel_rfl
theorem cellsOf_string : Try.prog.cellsOf 9 = 1 := by kernel_rfl
theorem cellsOf_strings : Try.prog.cellsOf 52 = 1 := by kernel_rfl
theorem cellsOf_lawsKind : Try.prog.cellsOf 55 = 3 := by kernel_rfl
theorem cellsOf_lawsKinds : Try.prog.cellsOf 53 = 1 := by kernel_rfl
instance : Inhabited Kind := ⟨.mk 0 [] []⟩

section
variable {H : Type} {enc : TypeId × Value → H} {w : World} {base : Nat} {spare : Nat → Bool} {held : Bool}
theorem strs_read {fuel : Nat} {cs : List Value} {x : DataW H × List MemPlace} (h : DataW.trod enc Try.prog w base spare held fuel 52 cs = some x) :
    ∃ (l : List ByteArray) (v : Value) (fp : List Nat), cs = [v] ∧ Ow w (strsD l) v fp ∧ Lt fp w.heap.size :=
  slice_read strC 1 strC_len (by omega) Try.underlying52 cellsOf_string (fun n _ cs x hx => by
    obtain ⟨s, rfl, ho⟩ := str_read Try.underlying9 hx
    exact ⟨s, [], OwC.one ho, Lt.nil _⟩) h

theorem kind_read : ∀ (fuel : Nat) {cs : List Value} {x : DataW H × List MemPlace}, DataW.trod enc Try.prog w base spare held fuel 55 cs = some x → ∃ (k : Kind) (fp : List Nat), OwC w k.cells cs fp ∧ Lt fp w.heap.size := by
  intro fuel
  induction fuel using Nat.strongRecOn with
  | _ fuel ih =>
    intro cs x h
    obtain ⟨hl, n, hn, hf⟩ := field_read Try.underlying55 h
    rw [cellsOf_lawsKind] at hl
    match cs, hl with
    | [c0, c1, c2], _ =>
      obtain ⟨y0, h0⟩ := hf 0 3 0 rfl
      obtain ⟨y1, h1⟩ := hf 1 52 1 rfl
      obtain ⟨y2, h2⟩ := hf 2 53 2 rfl
      rw [cellsOf_int] at h0
      rw [cellsOf_strings] at h1
      rw [cellsOf_lawsKinds] at h2
      obtain ⟨s, e0, o0⟩ := int_read Try.underlying3 h0
      obtain ⟨ns, v1, f1, e1, o1, l1⟩ := strs_read h1
      obtain ⟨ks, v2, f2, e2, o2, l2⟩ := slice_read Kind.cells 3 Kind.cells_len (by omega) Try.underlying53 cellsOf_lawsKind (fun m hm cs x hx => ih m (by omega) hx) h2
      simp only [List.drop_zero, List.drop_succ_cons, List.take_succ_cons, List.take_zero, List.cons.injEq, and_true] at e0 e1 e2
      subst e0 e1 e2
      refine ⟨.mk s ns ks, f1 ++ f2, OwC.kind_mk (k := .mk s ns ks) ?_ o1 o2, l1.app l2⟩
      unfold Ow at o0
      exact o0.2.1
end
end Go.Proofs.Ytnjbmmjfpbcpaaa
