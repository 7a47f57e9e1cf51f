/-
  The kids of a schema: their sizes, and that they are good.
-/
import Derived.Test.YtbjblchhenmgjaaKindParts
set_option linter.unusedVariables false
set_option linter.unusedSimpArgs false
namespace Go.Proofs.Ytbjblchhenmgjaa
open Go.ChangeShapes Go.WideShapes Go.ChangeAt Go.RowKit

theorem Kind.kid_bulk {k : Kind} {i : Nat} (h : i < k.kids.length) : k.kids[i].bulk ≤ k.bulk := by
  have h1 := Kind.bulkS_snoc k.kids i h
  have h2 := Kind.bulkS_le k.kids (i + 1)
  have h3 := k.bulk_eq
  omega
theorem Kind.kid_good {k : Kind} {lv i : Nat} (hg : k.good lv) (h : i < k.kids.length) : k.kids[i].good (lv + 1) := Kind.goodS_at ((Kind.good_iff _ _).1 hg).2.2 h
end Go.Proofs.Ytbjblchhenmgjaa
