/-
  The bytes of a record: plain definitions.
-/
import Derived.Test.YtfllacpmbcamkaaEventPack
import Derived.Test.YtfllacpmbcamkaaDRecord
set_option linter.unusedVariables false
set_option linter.unusedSimpArgs false
namespace Go.Proofs.Ytfllacpmbcamkaa
open Go.ChangeShapes Go.WideShapes Go.ChangeAt Go.RowKit

noncomputable def Event.part (e : Event) : List UInt8 := [UInt8.ofNat (e.packed.length / 256), UInt8.ofNat (e.packed.length % 256)] ++ e.packed
noncomputable def Record.bytes (r : Record) : List UInt8 := short r.key ++ [UInt8.ofNat r.events.length] ++ r.events.flatMap Event.part
def Record.fine (r : Record) : Prop := (1 ≤ r.pos ∧ r.pos ≤ 999999) ∧ NameOk r.key ∧ (1 ≤ (r.events.length : Int) ∧ (r.events.length : Int) ≤ 40) ∧ ∀ i (h : i < r.events.length), r.events[i].ok
def Record.ok (r : Record) : Prop := r.fine ∧ (r.bytes.length : Int) ≤ 2000
noncomputable def Record.packed (r : Record) : ByteArray := if tb r.ok = true then ba r.bytes else .empty
theorem Record.packed_yes {x : Record} (h : x.ok) : x.packed = ba x.bytes := by unfold Record.packed; rw [tb_true h, if_pos rfl]
theorem Record.packed_no {x : Record} (h : ¬ x.ok) : x.packed = .empty := by unfold Record.packed; rw [tb_false h]; rfl
theorem Event.part_len (e : Event) : e.part.length ≤ 9702 := by
  have := e.packed_len
  simp only [Event.part, List.length_append, List.length_cons, List.length_nil]
  omega
theorem parts_len : ∀ (l : List Event), (l.flatMap Event.part).length ≤ 9702 * l.length
  | [] => by simp
  | e :: r => by
    have h1 := e.part_len
    have h2 := parts_len r
    simp only [List.flatMap_cons, List.length_append, List.length_cons]
    omega
theorem parts_snoc (l : List Event) (j : Nat) (h : j < l.length) : (l.take (j + 1)).flatMap Event.part = (l.take j).flatMap Event.part ++ l[j].part := by
  rw [List.take_succ_eq_append_getElem h, List.flatMap_append]
  simp
theorem Event.packed_ne {e : Event} (h : e.ok) : e.packed ≠ [] := by rw [Event.packed_yes h]; simp [Event.bytes, short]
end Go.Proofs.Ytfllacpmbcamkaa
