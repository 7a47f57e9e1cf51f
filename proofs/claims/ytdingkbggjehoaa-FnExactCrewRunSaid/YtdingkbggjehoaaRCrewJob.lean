/-
  A value of laws.CrewJob that came in, read as data.
-/
import Derived.Test.YtdingkbggjehoaaDCrewJob
import Derived.Test.YtdingkbggjehoaaRead
set_option linter.unusedVariables false
set_option linter.unusedSimpArgs false
namespace Go.Proofs.Ytdingkbggjehoaa
open Go.ChangeShapes Go.WideShapes Go.ChangeAt Go.RowKit Go.Deep

theorem cellsOf_L_CrewJob : Try.prog.cellsOf 128 = 2 := by kernel_rfl
theorem cellsOf_LS_CrewJob : Try.prog.cellsOf 56 = 1 := by kernel_rfl
instance : Inhabited CrewJob := ⟨.mk [] 0⟩
section
variable {H : Type} {enc : TypeId × Value → H} {w : World} {base : Nat} {spare : Nat → Bool} {held : Bool}
set_option maxRecDepth 100000 in
theorem CrewJob_read : ∀ (fuel : Nat) {cs : List Value} {x : DataW H × List MemPlace}, DataW.trod enc Try.prog w base spare held fuel 128 cs = some x → ∃ (x : CrewJob) (fp : List Nat), OwC w x.cells cs fp ∧ Lt fp w.heap.size := by
  intro fuel
  induction fuel using Nat.strongRecOn with
  | _ fuel ih =>
    intro cs x h
    obtain ⟨hl, n, hn, hf⟩ := field_read Try.underlying128 h
    rw [cellsOf_L_CrewJob] at hl
    match cs, hl with
    | [c0, c1], _ =>
      obtain ⟨y0, h0⟩ := hf 0 47 0 rfl
      rw [cellsOf_ints] at h0
      obtain ⟨x0, v0, f0, e0, o0, l0⟩ := ints_read h0
      obtain ⟨y1, h1⟩ := hf 1 3 1 rfl
      rw [cellsOf_int] at h1
      obtain ⟨x1, e1, _, w1⟩ := DataW.trod_int Try.underlying3 h1
      simp only [List.drop_zero, List.drop_succ_cons, List.take_succ_cons, List.take_zero, List.cons.injEq, and_true] at e0 e1
      subst e0
      subst e1
      refine ⟨.mk x0 x1, f0, ?_, l0⟩
      have hm := OwC.mCrewJob (w := w) (x := .mk x0 x1) o0 w1
      first | exact hm | simpa using hm | simpa [List.append_assoc] using hm
end
end Go.Proofs.Ytdingkbggjehoaa
