/-
  A value of laws.DeadDone that came in, read as data.
-/
import Derived.Test.YtkfiebeedbjicaaGreatDoorDDeadDone
import Derived.Test.YtkfiebeedbjicaaGreatDoorRead
import Derived.Test.YtkfiebeedbjicaaGreatDoorRDeadHold
import Derived.Test.YtkfiebeedbjicaaGreatDoorRDeadLetter
import Derived.Test.YtkfiebeedbjicaaGreatDoorRRecord
set_option linter.unusedVariables false
set_option linter.unusedSimpArgs false
namespace Go.Proofs.YtkfiebeedbjicaaGreatDoor
open Go.ChangeShapes Go.WideShapes Go.ChangeAt Go.RowKit Go.Deep

theorem cellsOf_L_DeadDone : Tryz.prog.cellsOf 26 = 4 := by kernel_rfl
instance : Inhabited DeadDone := ⟨.mk false [] [] []⟩
section
variable {H : Type} {enc : TypeId × Value → H} {w : World} {base : Nat} {spare : Nat → Bool} {held : Bool}
set_option maxRecDepth 100000 in
theorem DeadDone_read : ∀ (fuel : Nat) {cs : List Value} {x : DataW H × List MemPlace}, DataW.trod enc Tryz.prog w base spare held fuel 26 cs = some x → ∃ (x : DeadDone) (fp : List Nat), OwC w x.cells cs fp ∧ Lt fp w.heap.size := by
  intro fuel
  induction fuel using Nat.strongRecOn with
  | _ fuel ih =>
    intro cs x h
    obtain ⟨hl, n, hn, hf⟩ := field_read Tryz.underlying26 h
    rw [cellsOf_L_DeadDone] at hl
    match cs, hl with
    | [c0, c1, c2, c3], _ =>
      obtain ⟨y0, h0⟩ := hf 0 4 0 rfl
      rw [cellsOf_bool] at h0
      obtain ⟨x0, e0, _⟩ := DataW.trod_bool Tryz.underlying4 h0
      obtain ⟨y1, h1⟩ := hf 1 22 1 rfl
      rw [cellsOf_LS_Record] at h1
      obtain ⟨x1, v1, f1, e1, o1, l1⟩ := slice_read Record.cells 3 Record.cells_len (by omega) Tryz.underlying22 cellsOf_L_Record (fun m hm cs x hx => Record_read m hx) h1
      obtain ⟨y2, h2⟩ := hf 2 23 2 rfl
      rw [cellsOf_LS_DeadLetter] at h2
      obtain ⟨x2, v2, f2, e2, o2, l2⟩ := slice_read DeadLetter.cells 7 DeadLetter.cells_len (by omega) Tryz.underlying23 cellsOf_L_DeadLetter (fun m hm cs x hx => DeadLetter_read m hx) h2
      obtain ⟨y3, h3⟩ := hf 3 24 3 rfl
      rw [cellsOf_LS_DeadHold] at h3
      obtain ⟨x3, v3, f3, e3, o3, l3⟩ := slice_read DeadHold.cells 2 DeadHold.cells_len (by omega) Tryz.underlying24 cellsOf_L_DeadHold (fun m hm cs x hx => DeadHold_read m hx) h3
      simp only [List.drop_zero, List.drop_succ_cons, List.take_succ_cons, List.take_zero, List.cons.injEq, and_true] at e0 e1 e2 e3
      subst e0
      subst e1
      subst e2
      subst e3
      refine ⟨.mk x0 x1 x2 x3, f1 ++ (f2 ++ (f3)), ?_, (l1).app ((l2).app (l3))⟩
      have hm := OwC.mDeadDone (w := w) (x := .mk x0 x1 x2 x3) o1 o2 o3
      first | exact hm | simpa using hm | simpa [List.append_assoc] using hm
end
end Go.Proofs.YtkfiebeedbjicaaGreatDoor
