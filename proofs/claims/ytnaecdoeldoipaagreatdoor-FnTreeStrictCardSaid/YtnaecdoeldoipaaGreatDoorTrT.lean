/-
  What TreeRead hands back: plain.
-/
import Derived.Test.YtnaecdoeldoipaaGreatDoorTrK
set_option linter.unusedVariables false
set_option linter.unusedSimpArgs false
namespace Go.Proofs.YtnaecdoeldoipaaGreatDoor
open Go.ChangeShapes Go.WideShapes Go.ChangeAt Go.RowKit

/-- the tree whose text it is -/
noncomputable def readT (s : ByteArray) : Option Tree := @dite _ (∃ k : Tree, k.ok ∧ k.wr = s) (Classical.propDecidable _) (fun h => some h.choose) (fun _ => none)
theorem readT_some {s : ByteArray} {k : Tree} (h : readT s = some k) : k.ok ∧ k.wr = s := by
  unfold readT at h
  split at h
  · next hx =>
    injection h with h
    rw [← h]
    exact hx.choose_spec
  · cases h
theorem readT_none {s : ByteArray} (h : readT s = none) (k : Tree) (hk : k.ok) : k.wr ≠ s := by
  unfold readT at h
  split at h
  · cases h
  · next hx => exact fun e => hx ⟨k, hk, e⟩
theorem readT_yes {s : ByteArray} {k : Tree} {l' : List UInt8} {b : Bool} (ht : TakesT 1 (bl s) false k l' b) (hk : k.ok) (e : k.wr = s) : readT s = some k := by
  cases h : readT s with
  | none => exact absurd e (readT_none h k hk)
  | some k2 =>
    obtain ⟨h1, h2⟩ := readT_some h
    obtain ⟨rfl, _⟩ := ht k2 [] h1.1 Ender.nil rfl (by rw [h2, List.append_nil])
    rfl
theorem readT_no {s : ByteArray} {k : Tree} {l' : List UInt8} {b : Bool} (ht : TakesT 1 (bl s) false k l' b) (h : ¬ (b = false ∧ l' = [] ∧ k.ok ∧ k.wr = s)) : readT s = none := by
  cases h2 : readT s with
  | none => rfl
  | some k2 =>
    obtain ⟨h3, h4⟩ := readT_some h2
    obtain ⟨rfl, hb, hl⟩ := ht k2 [] h3.1 Ender.nil rfl (by rw [h4, List.append_nil])
    exact absurd ⟨hb, hl, h3, h4⟩ h
def Tree.zero_ : Tree := .mk 0 0 .empty [] []
noncomputable def treeRead (s : ByteArray) : Tree := (readT s).getD Tree.zero_
noncomputable def treeReadB (s : ByteArray) : Bool := (readT s).isSome
def TreeReadRet (s : ByteArray) (w : World) (e : Ending) (w' : World) : Prop :=
  ∃ us fq, e = .returned (.tuple #[.agg us.toArray, .bool (treeReadB s)]) ∧ OwC w' (treeRead s).cells us fq ∧ New w' fq w.heap.size ∧ Below w.heap.size w w'
theorem tok_size {k : Tree} (h : k.ok) : k.wr.size ≤ 9600 := by
  have h1 := Tree.wr_size k 1 h.1
  have h2 := h.2
  omega
theorem readT_long {s : ByteArray} (h : 10000 < s.size) : readT s = none := by
  cases hr : readT s with
  | none => rfl
  | some k =>
    obtain ⟨h1, h2⟩ := readT_some hr
    have := tok_size h1
    rw [h2] at this
    omega
/-- what is handed back: nothing -/
theorem trr_none {s : ByteArray} {w W : World} (h : readT s = none) (hg : Below w.heap.size w W) : TreeReadRet s w (.returned (.tuple #[.agg [.int .i64 0, .int .i64 0, .string ⟨#[]⟩, .slice none 0 0, .slice none 0 0].toArray, .bool false])) W := by
  unfold TreeReadRet treeRead treeReadB
  rw [h]
  exact ⟨_, [], rfl, tleaf_ow _ (by decide) (by decide) (by decide), New.nil _ _, hg⟩
theorem trr_some {s : ByteArray} {w W : World} {k : Tree} {us : List Value} {fq : List Nat} (h : readT s = some k) (ho : OwC W k.cells us fq) (hn : New W fq w.heap.size) (hg : Below w.heap.size w W) : TreeReadRet s w (.returned (.tuple #[.agg us.toArray, .bool true])) W := by
  unfold TreeReadRet treeRead treeReadB
  rw [h]
  exact ⟨us, fq, rfl, ho, hn, hg⟩
end Go.Proofs.YtnaecdoeldoipaaGreatDoor
