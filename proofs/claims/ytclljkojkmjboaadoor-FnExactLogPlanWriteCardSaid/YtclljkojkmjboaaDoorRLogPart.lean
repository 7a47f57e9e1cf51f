/-
  A value of laws.LogPart that came in, read as data.
-/
import Derived.Test.YtclljkojkmjboaaDoorDLogPart
import Derived.Test.YtclljkojkmjboaaDoorRead
set_option linter.unusedVariables false
set_option linter.unusedSimpArgs false
namespace Go.Proofs.YtclljkojkmjboaaDoor
open Go.ChangeShapes Go.WideShapes Go.ChangeAt Go.RowKit Go.Deep

theorem cellsOf_L_LogPart : Tryd.prog.cellsOf 73 = 4 := by kernel_rfl
theorem cellsOf_LS_LogPart : Tryd.prog.cellsOf 22 = 1 := by kernel_rfl
instance : Inhabited LogPart := ⟨.mk 0 0 0 0⟩
section
variable {H : Type} {enc : TypeId × Value → H} {w : World} {base : Nat} {spare : Nat → Bool} {held : Bool}
set_option maxRecDepth 100000 in
theorem LogPart_read : ∀ (fuel : Nat) {cs : List Value} {x : DataW H × List MemPlace}, DataW.trod enc Tryd.prog w base spare held fuel 73 cs = some x → ∃ (x : LogPart) (fp : List Nat), OwC w x.cells cs fp ∧ Lt fp w.heap.size := by
  intro fuel
  induction fuel using Nat.strongRecOn with
  | _ fuel ih =>
    intro cs x h
    obtain ⟨hl, n, hn, hf⟩ := field_read Tryd.underlying73 h
    rw [cellsOf_L_LogPart] at hl
    match cs, hl with
    | [c0, c1, c2, c3], _ =>
      obtain ⟨y0, h0⟩ := hf 0 3 0 rfl
      rw [cellsOf_int] at h0
      obtain ⟨x0, e0, _, w0⟩ := DataW.trod_int Tryd.underlying3 h0
      obtain ⟨y1, h1⟩ := hf 1 3 1 rfl
      rw [cellsOf_int] at h1
      obtain ⟨x1, e1, _, w1⟩ := DataW.trod_int Tryd.underlying3 h1
      obtain ⟨y2, h2⟩ := hf 2 3 2 rfl
      rw [cellsOf_int] at h2
      obtain ⟨x2, e2, _, w2⟩ := DataW.trod_int Tryd.underlying3 h2
      obtain ⟨y3, h3⟩ := hf 3 3 3 rfl
      rw [cellsOf_int] at h3
      obtain ⟨x3, e3, _, w3⟩ := DataW.trod_int Tryd.underlying3 h3
      simp only [List.drop_zero, List.drop_succ_cons, List.take_succ_cons, List.take_zero, List.cons.injEq, and_true] at e0 e1 e2 e3
      subst e0
      subst e1
      subst e2
      subst e3
      refine ⟨.mk x0 x1 x2 x3, [], ?_, Lt.nil _⟩
      have hm := OwC.mLogPart (w := w) (x := .mk x0 x1 x2 x3) w0 w1 w2 w3
      first | exact hm | simpa using hm | simpa [List.append_assoc] using hm
end
end Go.Proofs.YtclljkojkmjboaaDoor
