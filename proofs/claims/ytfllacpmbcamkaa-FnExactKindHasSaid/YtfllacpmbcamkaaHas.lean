/-
  When a tree is of a schema: plain definitions.
-/
import Derived.Test.YtfllacpmbcamkaaKindParts
import Derived.Test.YtfllacpmbcamkaaTreeParts
set_option linter.unusedVariables false
set_option linter.unusedSimpArgs false
namespace Go.Proofs.Ytfllacpmbcamkaa
open Go.ChangeShapes Go.WideShapes Go.ChangeAt Go.RowKit

/-- the schema of a kid -/
def Kind.pick (k : Kind) (i : Nat) : Kind := (k.kids[if k.sort = 5 then i else 0]?).getD k
mutual
def Tree.of : Tree → Kind → Prop
  | .mk s _ _ ns ts, k => k.sort = s ∧ k.names = ns ∧ Tree.ofS ts k.pick 0
def Tree.ofS : List Tree → (Nat → Kind) → Nat → Prop
  | [], _, _ => True
  | t :: r, f, i => t.of (f i) ∧ Tree.ofS r f (i + 1)
end
theorem Tree.ofS_iff : ∀ (l : List Tree) (f : Nat → Kind) (i : Nat), Tree.ofS l f i ↔ ∀ j (h : j < l.length), l[j].of (f (i + j))
  | [], f, i => by simp [Tree.ofS]
  | t :: r, f, i => by
    simp only [Tree.ofS, Tree.ofS_iff r f (i + 1)]
    constructor
    · rintro ⟨h1, h2⟩ j hj
      cases j with
      | zero => simpa using h1
      | succ j =>
        have := h2 j (by simpa using hj)
        simpa [Nat.add_assoc, Nat.add_comm 1 j] using this
    · intro h
      refine ⟨h 0 (by simp), fun j hj => ?_⟩
      have := h (j + 1) (by simpa using hj)
      simpa [Nat.add_assoc, Nat.add_comm 1 j] using this
theorem Tree.of_iff (t : Tree) (k : Kind) : t.of k ↔ k.sort = t.sort ∧ k.names = t.names ∧ ∀ j (h : j < t.kids.length), t.kids[j].of (k.pick j) := by
  cases t with
  | mk s n x ns ts => simp only [Tree.of, Tree.ofS_iff, Nat.zero_add]; rfl

/-- the place of a kid's schema -/
theorem Kind.pick_at {k : Kind} {lv : Nat} (hg : k.good lv) {t : Tree} (ht : t.shape) (hs : k.sort = t.sort) (hn : k.names.length = t.names.length) {j : Nat} (hj : j < t.kids.length) :
    0 < k.kids.length ∧ ∃ h : (if k.sort = 5 then j else 0) < k.kids.length, k.pick j = k.kids[if k.sort = 5 then j else 0] := by
  have h1 := ((Kind.good_iff _ _).1 hg).2.1
  have h2 : (if k.sort = 5 then j else 0) < k.kids.length := by
    unfold Tree.shape at ht
    rcases k.shape_iff.1 h1 with h | h | h
    · omega
    · rw [if_neg (by omega)]; omega
    · rw [if_pos h.1]; omega
  refine ⟨by omega, h2, ?_⟩
  unfold Kind.pick
  rw [List.getElem?_eq_getElem h2]
  rfl
end Go.Proofs.Ytfllacpmbcamkaa
