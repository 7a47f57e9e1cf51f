/-
  Records that stand one behind the other in a text: plain definitions.
-/
import Derived.Test.YtbjblchhenmgjaaDLogRecord
set_option linter.unusedVariables false
set_option linter.unusedSimpArgs false
namespace Go.Proofs.Ytbjblchhenmgjaa
open Go.ChangeShapes Go.WideShapes Go.ChangeAt Go.RowKit

def bAt (d : ByteArray) (i : Nat) : Nat := if h : i < d.size then d[i].toNat else 0
theorem bAt_eq {d : ByteArray} {i : Nat} (h : i < d.size) : bAt d i = d[i].toNat := by unfold bAt; rw [dif_pos h]
theorem bAt_lt (d : ByteArray) (i : Nat) : bAt d i < 256 := by
  unfold bAt
  split
  · exact UInt8.toNat_lt _
  · decide
def frN (d : ByteArray) (i : Nat) : Nat := bAt d i * 256 + bAt d (i + 1)
def frP (d : ByteArray) (i : Nat) : Nat := bAt d (i + 2) * 65536 + bAt d (i + 3) * 256 + bAt d (i + 4)
def frOk (d : ByteArray) (i : Nat) : Prop := i + 5 ≤ d.size ∧ frN d i ≤ 2000 ∧ 1 ≤ frP d i ∧ frP d i ≤ 999999 ∧ i + 5 + frN d i ≤ d.size
def frRec (d : ByteArray) (i : Nat) : LogRecord := ⟨frP d i, d.extract (i + 5) (i + 5 + frN d i)⟩
open Classical in
noncomputable def frFrom (d : ByteArray) (i : Nat) : List LogRecord × Nat :=
  if h : frOk d i then (frRec d i :: (frFrom d (i + 5 + frN d i)).1, (frFrom d (i + 5 + frN d i)).2) else ([], i)
termination_by d.size - i
decreasing_by all_goals (have := h.1; omega)
theorem frFrom_yes {d : ByteArray} {i : Nat} (h : frOk d i) : frFrom d i = (frRec d i :: (frFrom d (i + 5 + frN d i)).1, (frFrom d (i + 5 + frN d i)).2) := by
  rw [frFrom, dif_pos h]
theorem frFrom_no {d : ByteArray} {i : Nat} (h : ¬ frOk d i) : frFrom d i = ([], i) := by
  rw [frFrom, dif_neg h]
/-- so far l has been read, up to i -/
def FrTo (d : ByteArray) (i : Nat) (l : List LogRecord) : Prop := i ≤ d.size ∧ 5 * l.length ≤ i ∧ frFrom d 0 = (l ++ (frFrom d i).1, (frFrom d i).2)
theorem FrTo.zero (d : ByteArray) : FrTo d 0 [] := ⟨Nat.zero_le _, by simp, by simp⟩
theorem FrTo.step {d : ByteArray} {i : Nat} {l : List LogRecord} (h : FrTo d i l) (ho : frOk d i) : FrTo d (i + 5 + frN d i) (l ++ [frRec d i]) := by
  refine ⟨ho.2.2.2.2, by have := h.2.1; simp; omega, ?_⟩
  rw [h.2.2, frFrom_yes ho]
  simp
theorem FrTo.done {d : ByteArray} {i : Nat} {l : List LogRecord} (h : FrTo d i l) (ho : ¬ frOk d i) : frFrom d 0 = (l, i) := by
  rw [h.2.2, frFrom_no ho]
  simp
end Go.Proofs.Ytbjblchhenmgjaa
