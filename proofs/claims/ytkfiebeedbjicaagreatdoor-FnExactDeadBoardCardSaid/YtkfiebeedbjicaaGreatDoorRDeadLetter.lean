/-
  A value of laws.DeadLetter that came in, read as data.
-/
import Derived.Test.YtkfiebeedbjicaaGreatDoorDDeadLetter
import Derived.Test.YtkfiebeedbjicaaGreatDoorRead
set_option linter.unusedVariables false
set_option linter.unusedSimpArgs false
namespace Go.Proofs.YtkfiebeedbjicaaGreatDoor
open Go.ChangeShapes Go.WideShapes Go.ChangeAt Go.RowKit Go.Deep

theorem cellsOf_L_DeadLetter : Tryz.prog.cellsOf 73 = 7 := by kernel_rfl
theorem cellsOf_LS_DeadLetter : Tryz.prog.cellsOf 23 = 1 := by kernel_rfl
instance : Inhabited DeadLetter := ⟨.mk 0 .empty 0 0 .empty 0 0⟩
section
variable {H : Type} {enc : TypeId × Value → H} {w : World} {base : Nat} {spare : Nat → Bool} {held : Bool}
set_option maxRecDepth 100000 in
theorem DeadLetter_read : ∀ (fuel : Nat) {cs : List Value} {x : DataW H × List MemPlace}, DataW.trod enc Tryz.prog w base spare held fuel 73 cs = some x → ∃ (x : DeadLetter) (fp : List Nat), OwC w x.cells cs fp ∧ Lt fp w.heap.size := by
  intro fuel
  induction fuel using Nat.strongRecOn with
  | _ fuel ih =>
    intro cs x h
    obtain ⟨hl, n, hn, hf⟩ := field_read Tryz.underlying73 h
    rw [cellsOf_L_DeadLetter] at hl
    match cs, hl with
    | [c0, c1, c2, c3, c4, c5, c6], _ =>
      obtain ⟨y0, h0⟩ := hf 0 3 0 rfl
      rw [cellsOf_int] at h0
      obtain ⟨x0, e0, _, w0⟩ := DataW.trod_int Tryz.underlying3 h0
      obtain ⟨y1, h1⟩ := hf 1 9 1 rfl
      rw [cellsOf_string] at h1
      obtain ⟨x1, e1, _, w1⟩ := DataW.trod_string Tryz.underlying9 h1
      obtain ⟨y2, h2⟩ := hf 2 3 2 rfl
      rw [cellsOf_int] at h2
      obtain ⟨x2, e2, _, w2⟩ := DataW.trod_int Tryz.underlying3 h2
      obtain ⟨y3, h3⟩ := hf 3 3 3 rfl
      rw [cellsOf_int] at h3
      obtain ⟨x3, e3, _, w3⟩ := DataW.trod_int Tryz.underlying3 h3
      obtain ⟨y4, h4⟩ := hf 4 9 4 rfl
      rw [cellsOf_string] at h4
      obtain ⟨x4, e4, _, w4⟩ := DataW.trod_string Tryz.underlying9 h4
      obtain ⟨y5, h5⟩ := hf 5 3 5 rfl
      rw [cellsOf_int] at h5
      obtain ⟨x5, e5, _, w5⟩ := DataW.trod_int Tryz.underlying3 h5
      obtain ⟨y6, h6⟩ := hf 6 3 6 rfl
      rw [cellsOf_int] at h6
      obtain ⟨x6, e6, _, w6⟩ := DataW.trod_int Tryz.underlying3 h6
      simp only [List.drop_zero, List.drop_succ_cons, List.take_succ_cons, List.take_zero, List.cons.injEq, and_true] at e0 e1 e2 e3 e4 e5 e6
      subst e0
      subst e1
      subst e2
      subst e3
      subst e4
      subst e5
      subst e6
      refine ⟨.mk x0 x1 x2 x3 x4 x5 x6, [], ?_, Lt.nil _⟩
      have hm := OwC.mDeadLetter (w := w) (x := .mk x0 x1 x2 x3 x4 x5 x6) w0 w1 w2 w3 w4 w5 w6
      first | exact hm | simpa using hm | simpa [List.append_assoc] using hm
end
end Go.Proofs.YtkfiebeedbjicaaGreatDoor
