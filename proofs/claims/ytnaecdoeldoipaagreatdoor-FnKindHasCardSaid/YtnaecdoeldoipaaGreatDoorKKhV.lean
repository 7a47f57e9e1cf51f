/-
  A good schema is known by its text.
-/
import Derived.Test.YtnaecdoeldoipaaGreatDoorKTrV
import Derived.Test.YtnaecdoeldoipaaGreatDoorKJkQ
set_option linter.unusedVariables false
set_option linter.unusedSimpArgs false
namespace Go.Proofs.YtnaecdoeldoipaaGreatDoor
open Go.ChangeShapes Go.WideShapes Go.ChangeAt Go.RowKit

theorem kindRead_text (w : World) {k : Kind} (h : k.ok) : kindRead k.text = k ∧ kindReadB k.text = true := by
  have hs := ok_size h
  have hR : RdJ (w.alloc (.cells [.string k.text, .bool false].toArray 67)) w.heap.size (bl k.text) false := ⟨k.text, Row.new w _ _, by omega, rfl⟩
  obtain ⟨e, w', k1, us, fq, l', b', _, _, _, _, _, _, ht, _⟩ := Calls.some_endV (kindJ_any 6 (bl k.text) false w.heap.size 1 _ (by omega) (by omega) hR)
  obtain ⟨rfl, _⟩ := ht k [] h.1 rfl (by rw [List.append_nil])
  have h3 := readK_yes ht h rfl
  unfold kindRead kindReadB
  rw [h3]
  exact ⟨rfl, rfl⟩
end Go.Proofs.YtnaecdoeldoipaaGreatDoor
