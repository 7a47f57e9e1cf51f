/-
  A value of laws.Record that came in, read as data.
-/
import Derived.Test.YtkfiebeedbjicaaGreatDoorDRecord
import Derived.Test.YtkfiebeedbjicaaGreatDoorRead
import Derived.Test.YtkfiebeedbjicaaGreatDoorREvent
set_option linter.unusedVariables false
set_option linter.unusedSimpArgs false
namespace Go.Proofs.YtkfiebeedbjicaaGreatDoor
open Go.ChangeShapes Go.WideShapes Go.ChangeAt Go.RowKit Go.Deep

theorem cellsOf_L_Record : Tryz.prog.cellsOf 71 = 3 := by kernel_rfl
theorem cellsOf_LS_Record : Tryz.prog.cellsOf 22 = 1 := by kernel_rfl
instance : Inhabited Record := ⟨.mk 0 .empty []⟩
section
variable {H : Type} {enc : TypeId × Value → H} {w : World} {base : Nat} {spare : Nat → Bool} {held : Bool}
set_option maxRecDepth 100000 in
theorem Record_read : ∀ (fuel : Nat) {cs : List Value} {x : DataW H × List MemPlace}, DataW.trod enc Tryz.prog w base spare held fuel 71 cs = some x → ∃ (x : Record) (fp : List Nat), OwC w x.cells cs fp ∧ Lt fp w.heap.size := by
  intro fuel
  induction fuel using Nat.strongRecOn with
  | _ fuel ih =>
    intro cs x h
    obtain ⟨hl, n, hn, hf⟩ := field_read Tryz.underlying71 h
    rw [cellsOf_L_Record] at hl
    match cs, hl with
    | [c0, c1, c2], _ =>
      obtain ⟨y0, h0⟩ := hf 0 3 0 rfl
      rw [cellsOf_int] at h0
      obtain ⟨x0, e0, _, w0⟩ := DataW.trod_int Tryz.underlying3 h0
      obtain ⟨y1, h1⟩ := hf 1 9 1 rfl
      rw [cellsOf_string] at h1
      obtain ⟨x1, e1, _, w1⟩ := DataW.trod_string Tryz.underlying9 h1
      obtain ⟨y2, h2⟩ := hf 2 69 2 rfl
      rw [cellsOf_LS_Event] at h2
      obtain ⟨x2, v2, f2, e2, o2, l2⟩ := slice_read Event.cells 7 Event.cells_len (by omega) Tryz.underlying69 cellsOf_L_Event (fun m hm cs x hx => Event_read m hx) h2
      simp only [List.drop_zero, List.drop_succ_cons, List.take_succ_cons, List.take_zero, List.cons.injEq, and_true] at e0 e1 e2
      subst e0
      subst e1
      subst e2
      refine ⟨.mk x0 x1 x2, f2, ?_, l2⟩
      have hm := OwC.mRecord (w := w) (x := .mk x0 x1 x2) w0 w1 o2
      first | exact hm | simpa using hm | simpa [List.append_assoc] using hm
end
end Go.Proofs.YtkfiebeedbjicaaGreatDoor
