/-
  A value of laws.DiskFile that came in, read as data.
-/
import Derived.Test.YtdingkbggjehoaaDDiskFile
import Derived.Test.YtdingkbggjehoaaRead
set_option linter.unusedVariables false
set_option linter.unusedSimpArgs false
namespace Go.Proofs.Ytdingkbggjehoaa
open Go.ChangeShapes Go.WideShapes Go.ChangeAt Go.RowKit Go.Deep

theorem cellsOf_L_DiskFile : Try.prog.cellsOf 195 = 3 := by kernel_rfl
theorem cellsOf_LS_DiskFile : Try.prog.cellsOf 74 = 1 := by kernel_rfl
instance : Inhabited DiskFile := ⟨.mk .empty .empty 0⟩
section
variable {H : Type} {enc : TypeId × Value → H} {w : World} {base : Nat} {spare : Nat → Bool} {held : Bool}
set_option maxRecDepth 100000 in
theorem DiskFile_read : ∀ (fuel : Nat) {cs : List Value} {x : DataW H × List MemPlace}, DataW.trod enc Try.prog w base spare held fuel 195 cs = some x → ∃ (x : DiskFile) (fp : List Nat), OwC w x.cells cs fp ∧ Lt fp w.heap.size := by
  intro fuel
  induction fuel using Nat.strongRecOn with
  | _ fuel ih =>
    intro cs x h
    obtain ⟨hl, n, hn, hf⟩ := field_read Try.underlying195 h
    rw [cellsOf_L_DiskFile] at hl
    match cs, hl with
    | [c0, c1, c2], _ =>
      obtain ⟨y0, h0⟩ := hf 0 9 0 rfl
      rw [cellsOf_string] at h0
      obtain ⟨x0, e0, _, w0⟩ := DataW.trod_string Try.underlying9 h0
      obtain ⟨y1, h1⟩ := hf 1 9 1 rfl
      rw [cellsOf_string] at h1
      obtain ⟨x1, e1, _, w1⟩ := DataW.trod_string Try.underlying9 h1
      obtain ⟨y2, h2⟩ := hf 2 3 2 rfl
      rw [cellsOf_int] at h2
      obtain ⟨x2, e2, _, w2⟩ := DataW.trod_int Try.underlying3 h2
      simp only [List.drop_zero, List.drop_succ_cons, List.take_succ_cons, List.take_zero, List.cons.injEq, and_true] at e0 e1 e2
      subst e0
      subst e1
      subst e2
      refine ⟨.mk x0 x1 x2, [], ?_, Lt.nil _⟩
      have hm := OwC.mDiskFile (w := w) (x := .mk x0 x1 x2) w0 w1 w2
      first | exact hm | simpa using hm | simpa [List.append_assoc] using hm
end
end Go.Proofs.Ytdingkbggjehoaa
