/-
  A value of laws.CrewWorld that came in, read as data.
-/
import Derived.Test.YtpkjjfnfolbcoaaDCrewWorld
import Derived.Test.YtpkjjfnfolbcoaaRead
import Derived.Test.YtpkjjfnfolbcoaaRCrewHand
set_option linter.unusedVariables false
set_option linter.unusedSimpArgs false
namespace Go.Proofs.Ytpkjjfnfolbcoaa
open Go.ChangeShapes Go.WideShapes Go.ChangeAt Go.RowKit Go.Deep

theorem cellsOf_L_CrewWorld : Try.prog.cellsOf 25 = 18 := by kernel_rfl
instance : Inhabited CrewWorld := ⟨.mk 0 0 0 0 0 [] [] 0 [] 0 [] 0 [] 0 [] 0 [] 0⟩
section
variable {H : Type} {enc : TypeId × Value → H} {w : World} {base : Nat} {spare : Nat → Bool} {held : Bool}
set_option maxRecDepth 100000 in
theorem CrewWorld_read : ∀ (fuel : Nat) {cs : List Value} {x : DataW H × List MemPlace}, DataW.trod enc Try.prog w base spare held fuel 25 cs = some x → ∃ (x : CrewWorld) (fp : List Nat), OwC w x.cells cs fp ∧ Lt fp w.heap.size := by
  intro fuel
  induction fuel using Nat.strongRecOn with
  | _ fuel ih =>
    intro cs x h
    obtain ⟨hl, n, hn, hf⟩ := field_read Try.underlying25 h
    rw [cellsOf_L_CrewWorld] at hl
    match cs, hl with
    | [c0, c1, c2, c3, c4, c5, c6, c7, c8, c9, c10, c11, c12, c13, c14, c15, c16, c17], _ =>
      obtain ⟨y0, h0⟩ := hf 0 3 0 rfl
      rw [cellsOf_int] at h0
      obtain ⟨x0, e0, _, w0⟩ := DataW.trod_int Try.underlying3 h0
      obtain ⟨y1, h1⟩ := hf 1 3 1 rfl
      rw [cellsOf_int] at h1
      obtain ⟨x1, e1, _, w1⟩ := DataW.trod_int Try.underlying3 h1
      obtain ⟨y2, h2⟩ := hf 2 3 2 rfl
      rw [cellsOf_int] at h2
      obtain ⟨x2, e2, _, w2⟩ := DataW.trod_int Try.underlying3 h2
      obtain ⟨y3, h3⟩ := hf 3 3 3 rfl
      rw [cellsOf_int] at h3
      obtain ⟨x3, e3, _, w3⟩ := DataW.trod_int Try.underlying3 h3
      obtain ⟨y4, h4⟩ := hf 4 3 4 rfl
      rw [cellsOf_int] at h4
      obtain ⟨x4, e4, _, w4⟩ := DataW.trod_int Try.underlying3 h4
      obtain ⟨y5, h5⟩ := hf 5 22 5 rfl
      rw [cellsOf_ints] at h5
      obtain ⟨x5, v5, f5, e5, o5, l5⟩ := ints_read h5
      obtain ⟨y6, h6⟩ := hf 6 23 6 rfl
      rw [cellsOf_LS_CrewHand] at h6
      obtain ⟨x6, v6, f6, e6, o6, l6⟩ := slice_read CrewHand.cells 2 CrewHand.cells_len (by omega) Try.underlying23 cellsOf_L_CrewHand (fun m hm cs x hx => CrewHand_read m hx) h6
      obtain ⟨y7, h7⟩ := hf 7 3 7 rfl
      rw [cellsOf_int] at h7
      obtain ⟨x7, e7, _, w7⟩ := DataW.trod_int Try.underlying3 h7
      obtain ⟨y8, h8⟩ := hf 8 22 8 rfl
      rw [cellsOf_ints] at h8
      obtain ⟨x8, v8, f8, e8, o8, l8⟩ := ints_read h8
      obtain ⟨y9, h9⟩ := hf 9 3 9 rfl
      rw [cellsOf_int] at h9
      obtain ⟨x9, e9, _, w9⟩ := DataW.trod_int Try.underlying3 h9
      obtain ⟨y10, h10⟩ := hf 10 22 10 rfl
      rw [cellsOf_ints] at h10
      obtain ⟨x10, v10, f10, e10, o10, l10⟩ := ints_read h10
      obtain ⟨y11, h11⟩ := hf 11 3 11 rfl
      rw [cellsOf_int] at h11
      obtain ⟨x11, e11, _, w11⟩ := DataW.trod_int Try.underlying3 h11
      obtain ⟨y12, h12⟩ := hf 12 22 12 rfl
      rw [cellsOf_ints] at h12
      obtain ⟨x12, v12, f12, e12, o12, l12⟩ := ints_read h12
      obtain ⟨y13, h13⟩ := hf 13 3 13 rfl
      rw [cellsOf_int] at h13
      obtain ⟨x13, e13, _, w13⟩ := DataW.trod_int Try.underlying3 h13
      obtain ⟨y14, h14⟩ := hf 14 22 14 rfl
      rw [cellsOf_ints] at h14
      obtain ⟨x14, v14, f14, e14, o14, l14⟩ := ints_read h14
      obtain ⟨y15, h15⟩ := hf 15 3 15 rfl
      rw [cellsOf_int] at h15
      obtain ⟨x15, e15, _, w15⟩ := DataW.trod_int Try.underlying3 h15
      obtain ⟨y16, h16⟩ := hf 16 22 16 rfl
      rw [cellsOf_ints] at h16
      obtain ⟨x16, v16, f16, e16, o16, l16⟩ := ints_read h16
      obtain ⟨y17, h17⟩ := hf 17 3 17 rfl
      rw [cellsOf_int] at h17
      obtain ⟨x17, e17, _, w17⟩ := DataW.trod_int Try.underlying3 h17
      simp only [List.drop_zero, List.drop_succ_cons, List.take_succ_cons, List.take_zero, List.cons.injEq, and_true] at e0 e1 e2 e3 e4 e5 e6 e7 e8 e9 e10 e11 e12 e13 e14 e15 e16 e17
      subst e0
      subst e1
      subst e2
      subst e3
      subst e4
      subst e5
      subst e6
      subst e7
      subst e8
      subst e9
      subst e10
      subst e11
      subst e12
      subst e13
      subst e14
      subst e15
      subst e16
      subst e17
      refine ⟨.mk x0 x1 x2 x3 x4 x5 x6 x7 x8 x9 x10 x11 x12 x13 x14 x15 x16 x17, f5 ++ (f6 ++ (f8 ++ (f10 ++ (f12 ++ (f14 ++ (f16)))))), ?_, (l5).app ((l6).app ((l8).app ((l10).app ((l12).app ((l14).app (l16))))))⟩
      have hm := OwC.mCrewWorld (w := w) (x := .mk x0 x1 x2 x3 x4 x5 x6 x7 x8 x9 x10 x11 x12 x13 x14 x15 x16 x17) w0 w1 w2 w3 w4 o5 o6 w7 o8 w9 o10 w11 o12 w13 o14 w15 o16 w17
      first | exact hm | simpa using hm | simpa [List.append_assoc] using hm
end
end Go.Proofs.Ytpkjjfnfolbcoaa
