/-
  A word with numbers behind it: the program's joined.
-/
import Derived.Test.YtnaecdoeldoipaaGreatDoorPlanT
import Derived.Test.YtnaecdoeldoipaaGreatDoorItoa
import Derived.Test.YtnaecdoeldoipaaGreatDoorBld
set_option linter.unusedVariables false
set_option linter.unusedSimpArgs false
namespace Go.Proofs.YtnaecdoeldoipaaGreatDoor
open Go.ChangeShapes Go.WideShapes Go.ChangeAt Go.RowKit

theorem Bld.below {b : Nat} {w w' : World} {s : ByteArray} (h : Bld w b s) (hb : Below w.heap.size w w') : Bld w' b s := by
  have hlt := h.lt
  refine h.elim (fun x => .inl ?_) (fun x => .inr ?_)
  · obtain ⟨hB, v, hv, hown, hne⟩ := x
    exact ⟨hB, v, (hb.block b hlt).trans hv, hown.kept (row := none) ⟨hb.os, hb.tape, hb.output, hb.size, fun k hk _ => hb.block k hk⟩ (Classical.em _), hne⟩
  · obtain ⟨hB, v, hv, hown, hne⟩ := x
    exact ⟨hB, v, (hb.block b hlt).trans hv, hown.kept (row := none) ⟨hb.os, hb.tape, hb.output, hb.size, fun k hk _ => hb.block k hk⟩ (Classical.em _), hne⟩
theorem nums_row (w : World) : ∀ (l : List Int), (∀ z ∈ l, (Lit.int .i64 z).wf = true) → OwC w (l.flatMap intC) (l.map fun z => .int .i64 z) []
  | [], _ => by simp [OwC]
  | z :: l, h => ⟨[], [], ⟨rfl, h z (by simp), rfl⟩, nums_row w l (fun y hy => h y (by simp [hy])), rfl⟩
/-- a row of numbers that is known whole, as a slice -/
theorem nums_ow {w : World} {g : Nat} {e : TypeId} (l : List Int) (hr : Row w g e (l.map fun z => .int .i64 z)) (hw : ∀ z ∈ l, (Lit.int .i64 z).wf = true) (h0 : 0 < l.length) (h2 : l.length ≤ maxLen) :
    Ow w (.s 1 l.length (l.flatMap intC)) (.slice (some ⟨g, 0, none⟩) l.length l.length) [g] := by
  unfold Ow
  refine ⟨flat_len intC 1 intC_len l, _, l.length, rfl, Nat.le_refl _, h2, .inr ⟨h0, g, 0, [], rfl, ?_, rfl⟩⟩
  refine OwC.row _ (nums_row w l hw) (fun j u hj => ?_)
  rw [Nat.zero_add, hr.cell]
  exact hj
end Go.Proofs.YtnaecdoeldoipaaGreatDoor
