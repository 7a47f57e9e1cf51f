/-
  A value of laws.Event that came in, read as data.
-/
import Derived.Test.YtkfiebeedbjicaaGreatDoorDEvent
import Derived.Test.YtkfiebeedbjicaaGreatDoorRead
import Derived.Test.YtkfiebeedbjicaaGreatDoorRTree
set_option linter.unusedVariables false
set_option linter.unusedSimpArgs false
namespace Go.Proofs.YtkfiebeedbjicaaGreatDoor
open Go.ChangeShapes Go.WideShapes Go.ChangeAt Go.RowKit Go.Deep

theorem cellsOf_L_Event : Tryz.prog.cellsOf 113 = 7 := by kernel_rfl
theorem cellsOf_LS_Event : Tryz.prog.cellsOf 69 = 1 := by kernel_rfl
instance : Inhabited Event := ⟨.mk .empty 0 default⟩
section
variable {H : Type} {enc : TypeId × Value → H} {w : World} {base : Nat} {spare : Nat → Bool} {held : Bool}
set_option maxRecDepth 100000 in
theorem Event_read : ∀ (fuel : Nat) {cs : List Value} {x : DataW H × List MemPlace}, DataW.trod enc Tryz.prog w base spare held fuel 113 cs = some x → ∃ (x : Event) (fp : List Nat), OwC w x.cells cs fp ∧ Lt fp w.heap.size := by
  intro fuel
  induction fuel using Nat.strongRecOn with
  | _ fuel ih =>
    intro cs x h
    obtain ⟨hl, n, hn, hf⟩ := field_read Tryz.underlying113 h
    rw [cellsOf_L_Event] at hl
    match cs, hl with
    | [c0, c1, c2, c3, c4, c5, c6], _ =>
      obtain ⟨y0, h0⟩ := hf 0 9 0 rfl
      rw [cellsOf_string] at h0
      obtain ⟨x0, e0, _, w0⟩ := DataW.trod_string Tryz.underlying9 h0
      obtain ⟨y1, h1⟩ := hf 1 3 1 rfl
      rw [cellsOf_int] at h1
      obtain ⟨x1, e1, _, w1⟩ := DataW.trod_int Tryz.underlying3 h1
      obtain ⟨y2, h2⟩ := hf 2 111 2 rfl
      rw [cellsOf_L_Tree] at h2
      obtain ⟨x2, f2, o2, l2⟩ := Tree_read n h2
      obtain ⟨A2_1, c2_1, A2_2, c2_2, f2_1, f2_2, e2, w2_0, w2_1, w2_2, o2_1, o2_2, rfl⟩ := o2.oTree
      simp only [List.drop_zero, List.drop_succ_cons, List.take_succ_cons, List.take_zero, List.cons.injEq, and_true] at e0 e1 e2
      subst e0
      subst e1
      obtain ⟨rfl, rfl, rfl, rfl, rfl⟩ := e2
      refine ⟨.mk x0 x1 x2, (f2_1 ++ (f2_2)), ?_, l2⟩
      have hm := OwC.mEvent (w := w) (x := .mk x0 x1 x2) w0 w1 w2_0 w2_1 w2_2 o2_1 o2_2
      first | exact hm | simpa using hm | simpa [List.append_assoc] using hm
end
end Go.Proofs.YtkfiebeedbjicaaGreatDoor
