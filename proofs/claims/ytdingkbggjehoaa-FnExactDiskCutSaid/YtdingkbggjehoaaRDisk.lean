/-
  A value of laws.Disk that came in, read as data.
-/
import Derived.Test.YtdingkbggjehoaaDDisk
import Derived.Test.YtdingkbggjehoaaRead
import Derived.Test.YtdingkbggjehoaaRDiskFile
import Derived.Test.YtdingkbggjehoaaRDiskMove
set_option linter.unusedVariables false
set_option linter.unusedSimpArgs false
namespace Go.Proofs.Ytdingkbggjehoaa
open Go.ChangeShapes Go.WideShapes Go.ChangeAt Go.RowKit Go.Deep

theorem cellsOf_L_Disk : Try.prog.cellsOf 77 = 3 := by kernel_rfl
instance : Inhabited Disk := ⟨.mk [] [] []⟩
section
variable {H : Type} {enc : TypeId × Value → H} {w : World} {base : Nat} {spare : Nat → Bool} {held : Bool}
set_option maxRecDepth 100000 in
theorem Disk_read : ∀ (fuel : Nat) {cs : List Value} {x : DataW H × List MemPlace}, DataW.trod enc Try.prog w base spare held fuel 77 cs = some x → ∃ (x : Disk) (fp : List Nat), OwC w x.cells cs fp ∧ Lt fp w.heap.size := by
  intro fuel
  induction fuel using Nat.strongRecOn with
  | _ fuel ih =>
    intro cs x h
    obtain ⟨hl, n, hn, hf⟩ := field_read Try.underlying77 h
    rw [cellsOf_L_Disk] at hl
    match cs, hl with
    | [c0, c1, c2], _ =>
      obtain ⟨y0, h0⟩ := hf 0 74 0 rfl
      rw [cellsOf_LS_DiskFile] at h0
      obtain ⟨x0, v0, f0, e0, o0, l0⟩ := slice_read DiskFile.cells 3 DiskFile.cells_len (by omega) Try.underlying74 cellsOf_L_DiskFile (fun m hm cs x hx => DiskFile_read m hx) h0
      obtain ⟨y1, h1⟩ := hf 1 22 1 rfl
      rw [cellsOf_strings] at h1
      obtain ⟨x1, v1, f1, e1, o1, l1⟩ := strs_read h1
      obtain ⟨y2, h2⟩ := hf 2 75 2 rfl
      rw [cellsOf_LS_DiskMove] at h2
      obtain ⟨x2, v2, f2, e2, o2, l2⟩ := slice_read DiskMove.cells 2 DiskMove.cells_len (by omega) Try.underlying75 cellsOf_L_DiskMove (fun m hm cs x hx => DiskMove_read m hx) h2
      simp only [List.drop_zero, List.drop_succ_cons, List.take_succ_cons, List.take_zero, List.cons.injEq, and_true] at e0 e1 e2
      subst e0
      subst e1
      subst e2
      refine ⟨.mk x0 x1 x2, f0 ++ (f1 ++ (f2)), ?_, (l0).app ((l1).app (l2))⟩
      have hm := OwC.mDisk (w := w) (x := .mk x0 x1 x2) o0 o1 o2
      first | exact hm | simpa using hm | simpa [List.append_assoc] using hm
end
end Go.Proofs.Ytdingkbggjehoaa
