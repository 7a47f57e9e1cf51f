/-
  A value of laws.LogPlan that came in, read as data.
-/
import Derived.Test.YtclljkojkmjboaaDoorDLogPlan
import Derived.Test.YtclljkojkmjboaaDoorRead
import Derived.Test.YtclljkojkmjboaaDoorRLogPart
set_option linter.unusedVariables false
set_option linter.unusedSimpArgs false
namespace Go.Proofs.YtclljkojkmjboaaDoor
open Go.ChangeShapes Go.WideShapes Go.ChangeAt Go.RowKit Go.Deep

theorem cellsOf_L_LogPlan : Tryd.prog.cellsOf 24 = 3 := by kernel_rfl
instance : Inhabited LogPlan := ⟨.mk [] 0 0⟩
section
variable {H : Type} {enc : TypeId × Value → H} {w : World} {base : Nat} {spare : Nat → Bool} {held : Bool}
set_option maxRecDepth 100000 in
theorem LogPlan_read : ∀ (fuel : Nat) {cs : List Value} {x : DataW H × List MemPlace}, DataW.trod enc Tryd.prog w base spare held fuel 24 cs = some x → ∃ (x : LogPlan) (fp : List Nat), OwC w x.cells cs fp ∧ Lt fp w.heap.size := by
  intro fuel
  induction fuel using Nat.strongRecOn with
  | _ fuel ih =>
    intro cs x h
    obtain ⟨hl, n, hn, hf⟩ := field_read Tryd.underlying24 h
    rw [cellsOf_L_LogPlan] at hl
    match cs, hl with
    | [c0, c1, c2], _ =>
      obtain ⟨y0, h0⟩ := hf 0 22 0 rfl
      rw [cellsOf_LS_LogPart] at h0
      obtain ⟨x0, v0, f0, e0, o0, l0⟩ := slice_read LogPart.cells 4 LogPart.cells_len (by omega) Tryd.underlying22 cellsOf_L_LogPart (fun m hm cs x hx => LogPart_read m hx) h0
      obtain ⟨y1, h1⟩ := hf 1 3 1 rfl
      rw [cellsOf_int] at h1
      obtain ⟨x1, e1, _, w1⟩ := DataW.trod_int Tryd.underlying3 h1
      obtain ⟨y2, h2⟩ := hf 2 3 2 rfl
      rw [cellsOf_int] at h2
      obtain ⟨x2, e2, _, w2⟩ := DataW.trod_int Tryd.underlying3 h2
      simp only [List.drop_zero, List.drop_succ_cons, List.take_succ_cons, List.take_zero, List.cons.injEq, and_true] at e0 e1 e2
      subst e0
      subst e1
      subst e2
      refine ⟨.mk x0 x1 x2, f0, ?_, l0⟩
      have hm := OwC.mLogPlan (w := w) (x := .mk x0 x1 x2) o0 w1 w2
      first | exact hm | simpa using hm | simpa [List.append_assoc] using hm
end
end Go.Proofs.YtclljkojkmjboaaDoor
