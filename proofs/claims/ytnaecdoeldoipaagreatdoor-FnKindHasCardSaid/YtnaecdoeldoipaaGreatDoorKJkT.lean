/-
  Reading schemas from texts: the reference's l2Kind. KindRead of the reference.
-/
import Derived.Deep.RegionHeld3
import Derived.Deep.RegionLaw
import Derived.Deep.CutRange
import Derived.Deep.DeepCutAuto
import Derived.Test.YtnaecdoeldoipaaGreatDoorKDrawK0
import Derived.Test.YtnaecdoeldoipaaGreatDoorKRkS
import Derived.Test.YtnaecdoeldoipaaGreatDoorKTrT
import Derived.Test.YtnaecdoeldoipaaGreatDoorKJkL
import Derived.Test.YtnaecdoeldoipaaGreatDoorKRdrT
set_option linter.unusedVariables false
set_option linter.unusedSimpArgs false
namespace Go.Proofs.YtnaecdoeldoipaaGreatDoor
open Go.ChangeShapes Go.WideShapes Go.ChangeAt Go.RowKit

def KindOut (R : World → List UInt8 → Bool → Prop) (g lv : Nat) (l : List UInt8) (bad : Bool) (w : World) (e : Ending) (w' : World) : Prop :=
  ∃ (k : Kind) (us : List Value) (fq : List Nat) (l' : List UInt8) (bad' : Bool), e = .returned (.agg us.toArray) ∧ OwC w' k.cells us fq ∧ New w' fq w.heap.size ∧ R w' l' bad' ∧ w.grownBy w' (some g) ∧ Paid lv l k.bulk l' bad' ∧ TakesK lv l bad k l' bad' ∧ (bad' = false → bad = false)
end Go.Proofs.YtnaecdoeldoipaaGreatDoor
set_option linter.unusedVariables false
set_option linter.unusedSimpArgs false
namespace Go.Proofs.YtnaecdoeldoipaaGreatDoor
open Go.ChangeShapes Go.WideShapes Go.ChangeAt Go.RowKit

def Kind.zero_ : Kind := .mk 0 [] []
noncomputable def kindRead (s : ByteArray) : Kind := (readK s).getD Kind.zero_
noncomputable def kindReadB (s : ByteArray) : Bool := (readK s).isSome
def KindReadRet (s : ByteArray) (w : World) (e : Ending) (w' : World) : Prop :=
  ∃ us fq, e = .returned (.tuple #[.agg us.toArray, .bool (kindReadB s)]) ∧ OwC w' (kindRead s).cells us fq ∧ New w' fq w.heap.size ∧ Below w.heap.size w w'
theorem ok_size {k : Kind} (h : k.ok) : k.text.size ≤ 550 := by
  have h1 := Kind.text_size k 1 h.1
  have h2 := h.2
  omega
theorem readK_long {s : ByteArray} (h : 800 < s.size) : readK s = none := by
  cases hr : readK s with
  | none => rfl
  | some k =>
    obtain ⟨h1, h2⟩ := readK_some hr
    have := ok_size h1
    rw [h2] at this
    omega
/-- what is handed back: nothing -/
theorem kr_none {s : ByteArray} {w W : World} (h : readK s = none) (hg : Below w.heap.size w W) : KindReadRet s w (.returned (.tuple #[.agg [.int .i64 0, .slice none 0 0, .slice none 0 0].toArray, .bool false])) W := by
  unfold KindReadRet kindRead kindReadB
  rw [h]
  exact ⟨_, [], rfl, kleaf_ow _ 0 (by decide), New.nil _ _, hg⟩
theorem kr_some {s : ByteArray} {w W : World} {k : Kind} {us : List Value} {fq : List Nat} (h : readK s = some k) (ho : OwC W k.cells us fq) (hn : New W fq w.heap.size) (hg : Below w.heap.size w W) : KindReadRet s w (.returned (.tuple #[.agg us.toArray, .bool true])) W := by
  unfold KindReadRet kindRead kindReadB
  rw [h]
  exact ⟨us, fq, rfl, ho, hn, hg⟩
end Go.Proofs.YtnaecdoeldoipaaGreatDoor
