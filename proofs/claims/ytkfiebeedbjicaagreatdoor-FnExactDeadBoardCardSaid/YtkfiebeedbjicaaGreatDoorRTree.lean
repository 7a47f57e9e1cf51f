/-
  A value of laws.Tree that came in, read as data.
-/
import Derived.Test.YtkfiebeedbjicaaGreatDoorDTree
import Derived.Test.YtkfiebeedbjicaaGreatDoorRead
set_option linter.unusedVariables false
set_option linter.unusedSimpArgs false
namespace Go.Proofs.YtkfiebeedbjicaaGreatDoor
open Go.ChangeShapes Go.WideShapes Go.ChangeAt Go.RowKit Go.Deep

theorem cellsOf_L_Tree : Tryz.prog.cellsOf 111 = 5 := by kernel_rfl
theorem cellsOf_LS_Tree : Tryz.prog.cellsOf 109 = 1 := by kernel_rfl
instance : Inhabited Tree := ⟨.mk 0 0 .empty [] []⟩
section
variable {H : Type} {enc : TypeId × Value → H} {w : World} {base : Nat} {spare : Nat → Bool} {held : Bool}
set_option maxRecDepth 100000 in
theorem Tree_read : ∀ (fuel : Nat) {cs : List Value} {x : DataW H × List MemPlace}, DataW.trod enc Tryz.prog w base spare held fuel 111 cs = some x → ∃ (x : Tree) (fp : List Nat), OwC w x.cells cs fp ∧ Lt fp w.heap.size := by
  intro fuel
  induction fuel using Nat.strongRecOn with
  | _ fuel ih =>
    intro cs x h
    obtain ⟨hl, n, hn, hf⟩ := field_read Tryz.underlying111 h
    rw [cellsOf_L_Tree] at hl
    match cs, hl with
    | [c0, c1, c2, c3, c4], _ =>
      obtain ⟨y0, h0⟩ := hf 0 3 0 rfl
      rw [cellsOf_int] at h0
      obtain ⟨x0, e0, _, w0⟩ := DataW.trod_int Tryz.underlying3 h0
      obtain ⟨y1, h1⟩ := hf 1 3 1 rfl
      rw [cellsOf_int] at h1
      obtain ⟨x1, e1, _, w1⟩ := DataW.trod_int Tryz.underlying3 h1
      obtain ⟨y2, h2⟩ := hf 2 9 2 rfl
      rw [cellsOf_string] at h2
      obtain ⟨x2, e2, _, w2⟩ := DataW.trod_string Tryz.underlying9 h2
      obtain ⟨y3, h3⟩ := hf 3 50 3 rfl
      rw [cellsOf_strings] at h3
      obtain ⟨x3, v3, f3, e3, o3, l3⟩ := strs_read h3
      obtain ⟨y4, h4⟩ := hf 4 109 4 rfl
      rw [cellsOf_LS_Tree] at h4
      obtain ⟨x4, v4, f4, e4, o4, l4⟩ := slice_read Tree.cells 5 Tree.cells_len (by omega) Tryz.underlying109 cellsOf_L_Tree (fun m hm cs x hx => ih m (by omega) hx) h4
      simp only [List.drop_zero, List.drop_succ_cons, List.take_succ_cons, List.take_zero, List.cons.injEq, and_true] at e0 e1 e2 e3 e4
      subst e0
      subst e1
      subst e2
      subst e3
      subst e4
      refine ⟨.mk x0 x1 x2 x3 x4, f3 ++ (f4), ?_, (l3).app (l4)⟩
      have hm := OwC.mTree (w := w) (x := .mk x0 x1 x2 x3 x4) w0 w1 w2 o3 o4
      first | exact hm | simpa using hm | simpa [List.append_assoc] using hm
end
end Go.Proofs.YtkfiebeedbjicaaGreatDoor
