/-
  A value of laws.DeadHold that came in, read as data.
-/
import Derived.Test.YtkfiebeedbjicaaGreatDoorDDeadHold
import Derived.Test.YtkfiebeedbjicaaGreatDoorRead
set_option linter.unusedVariables false
set_option linter.unusedSimpArgs false
namespace Go.Proofs.YtkfiebeedbjicaaGreatDoor
open Go.ChangeShapes Go.WideShapes Go.ChangeAt Go.RowKit Go.Deep

theorem cellsOf_L_DeadHold : Tryz.prog.cellsOf 75 = 2 := by kernel_rfl
theorem cellsOf_LS_DeadHold : Tryz.prog.cellsOf 24 = 1 := by kernel_rfl
instance : Inhabited DeadHold := ⟨.mk .empty 0⟩
section
variable {H : Type} {enc : TypeId × Value → H} {w : World} {base : Nat} {spare : Nat → Bool} {held : Bool}
set_option maxRecDepth 100000 in
theorem DeadHold_read : ∀ (fuel : Nat) {cs : List Value} {x : DataW H × List MemPlace}, DataW.trod enc Tryz.prog w base spare held fuel 75 cs = some x → ∃ (x : DeadHold) (fp : List Nat), OwC w x.cells cs fp ∧ Lt fp w.heap.size := by
  intro fuel
  induction fuel using Nat.strongRecOn with
  | _ fuel ih =>
    intro cs x h
    obtain ⟨hl, n, hn, hf⟩ := field_read Tryz.underlying75 h
    rw [cellsOf_L_DeadHold] at hl
    match cs, hl with
    | [c0, c1], _ =>
      obtain ⟨y0, h0⟩ := hf 0 9 0 rfl
      rw [cellsOf_string] at h0
      obtain ⟨x0, e0, _, w0⟩ := DataW.trod_string Tryz.underlying9 h0
      obtain ⟨y1, h1⟩ := hf 1 3 1 rfl
      rw [cellsOf_int] at h1
      obtain ⟨x1, e1, _, w1⟩ := DataW.trod_int Tryz.underlying3 h1
      simp only [List.drop_zero, List.drop_succ_cons, List.take_succ_cons, List.take_zero, List.cons.injEq, and_true] at e0 e1
      subst e0
      subst e1
      refine ⟨.mk x0 x1, [], ?_, Lt.nil _⟩
      have hm := OwC.mDeadHold (w := w) (x := .mk x0 x1) w0 w1
      first | exact hm | simpa using hm | simpa [List.append_assoc] using hm
end
end Go.Proofs.YtkfiebeedbjicaaGreatDoor
