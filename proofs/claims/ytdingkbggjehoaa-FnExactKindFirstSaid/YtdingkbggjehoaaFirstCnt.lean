/-
  How much the marks count at a schema and at its first tree.
-/
import Derived.Test.YtdingkbggjehoaaKindFirst
import Derived.Test.YtdingkbggjehoaaNKind
import Derived.Test.YtdingkbggjehoaaNTree
set_option linter.unusedVariables false
set_option linter.unusedSimpArgs false
namespace Go.Proofs.Ytdingkbggjehoaa
open Go.ChangeShapes Go.WideShapes Go.ChangeAt Go.RowKit

theorem Kind.cnt_bulk (k : Kind) : k.cnt ≤ 1 + k.bulk := by
  refine Kind.ind (P := fun k => k.cnt ≤ 1 + k.bulk) (fun k ih => ?_) k
  have hs : ∀ (l : List Kind), (∀ x ∈ l, x.cnt ≤ 1 + x.bulk) → Kind.cntS l ≤ l.length + Kind.bulkS l := by
    intro l
    induction l with
    | nil => intro _; simp [Kind.cntS]
    | cons x l ih2 =>
      intro h
      have h1 := h x (by simp)
      have h2 := ih2 (fun y hy => h y (by simp [hy]))
      simp only [Kind.cntS, Kind.bulkS, List.length_cons]
      omega
  have h := hs k.kids ih
  have h1 := k.cnt_eq
  have h2 := k.bulk_eq
  unfold bulkStrs at h2
  omega
theorem Kind.cntTop_bulk (k : Kind) : k.cntTop ≤ k.bulk := by
  have h1 := k.cnt_bulk
  have h2 := k.cnt_eq
  have h3 := k.cntTop_eq
  omega
theorem Kind.firstT_cnt (k : Kind) : k.firstT.cnt ≤ 3 + 3 * k.bulk := by
  refine Kind.ind (P := fun k => k.firstT.cnt ≤ 3 + 3 * k.bulk) (fun k ih => ?_) k
  have hs : ∀ (l : List Kind), (∀ x ∈ l, x.firstT.cnt ≤ 3 + 3 * x.bulk) → Tree.cntS (l.map Kind.firstT) ≤ 3 * l.length + 3 * Kind.bulkS l := by
    intro l
    induction l with
    | nil => intro _; simp [Tree.cntS]
    | cons x l ih2 =>
      intro h
      have h1 := h x (by simp)
      have h2 := ih2 (fun y hy => h y (by simp [hy]))
      simp only [List.map_cons, Tree.cntS, Kind.bulkS, List.length_cons]
      omega
  have h := hs k.kids ih
  have h2 := k.bulk_eq
  unfold bulkStrs at h2
  by_cases h5 : k.sort = 5
  · rw [k.firstT_five h5]
    have h1 := (Tree.mk k.sort 0 .empty k.names (k.kids.map Kind.firstT)).cnt_eq
    simp only [Tree.names, Tree.kids] at h1
    omega
  · rw [k.firstT_other h5]
    have h1 := (Tree.mk k.sort 0 .empty [] []).cnt_eq
    simp only [Tree.names, Tree.kids, Tree.cntS, List.length_nil] at h1
    omega
theorem Kind.firstOf_cntTop (k : Kind) : k.firstOf.cntTop ≤ 3 + 3 * k.bulk := by
  have key : ∀ t : Tree, t.cntTop ≤ t.cnt := fun t => by have h1 := t.cntTop_eq; have h2 := t.cnt_eq; omega
  unfold Kind.firstOf
  split
  · exact Nat.le_trans (key _) k.firstT_cnt
  · have h := (Tree.none_).cntTop_eq
    simp only [Tree.none_, Tree.names, Tree.kids, Tree.cntS, List.length_nil] at h ⊢
    omega
end Go.Proofs.Ytdingkbggjehoaa
