/-
  Kind as data: its cells, its size.
-/
import Derived.Test.YtbjblchhenmgjaaStr
set_option linter.unusedVariables false
set_option linter.unusedSimpArgs false
namespace Go.Proofs.Ytbjblchhenmgjaa
open Go.ChangeShapes Go.WideShapes Go.ChangeAt Go.RowKit

inductive Kind where
  | mk (sort : Int) (names : List ByteArray) (kids : List Kind)
def Kind.sort : Kind → Int | .mk x _ _ => x
def Kind.names : Kind → List ByteArray | .mk _ x _ => x
def Kind.kids : Kind → List Kind | .mk _ _ x => x
mutual
def Kind.cells : Kind → List D
  | .mk sort names kids => [.v (.int .i64 sort)] ++ [.s 1 names.length (names.flatMap strC)] ++ [.s 3 kids.length (Kind.cellsS kids)]
def Kind.cellsS : List Kind → List D
  | [] => []
  | x :: r => x.cells ++ Kind.cellsS r
end
mutual
def Kind.bulk : Kind → Nat
  | .mk sort names kids => bulkStrs names + kids.length + Kind.bulkS kids
def Kind.bulkS : List Kind → Nat
  | [] => 0
  | x :: r => x.bulk + Kind.bulkS r
end
theorem Kind.cellsS_flat : ∀ (l : List Kind), Kind.cellsS l = l.flatMap Kind.cells
  | [] => rfl
  | x :: r => by simp [Kind.cellsS, Kind.cellsS_flat r]
theorem Kind.cells_eq (x : Kind) : x.cells = [.v (.int .i64 x.sort), .s 1 x.names.length (x.names.flatMap strC), .s 3 x.kids.length (x.kids.flatMap Kind.cells)] := by
  cases x; simp [Kind.cells, Kind.sort, Kind.names, Kind.kids, Kind.cellsS_flat]
theorem Kind.bulk_eq (x : Kind) : x.bulk = bulkStrs x.names + x.kids.length + Kind.bulkS x.kids := by cases x; rfl
theorem Kind.ind {P : Kind → Prop} (h : ∀ k, (∀ x ∈ k.kids, P x) → P k) : ∀ k, P k
  | .mk sort names kids => h _ fun x hx => Kind.ind h x
termination_by k => SizeOf.sizeOf k
decreasing_by
  simp only [Kind.kids] at hx
  have := List.sizeOf_lt_of_mem hx
  simp only [Kind.mk.sizeOf_spec]
  omega
theorem Kind.cells_len (x : Kind) : x.cells.length = 3 := by rw [Kind.cells_eq]; rfl
def Kind.bulkL (l : List Kind) : Nat := l.length + Kind.bulkS l
theorem Kind.bulkS_append (a b : List Kind) : Kind.bulkS (a ++ b) = Kind.bulkS a + Kind.bulkS b := by
  induction a with
  | nil => simp [Kind.bulkS]
  | cons x a ih => simp [Kind.bulkS, ih]; omega
theorem Kind.bulkS_snoc (l : List Kind) (k : Nat) (h : k < l.length) : Kind.bulkS (l.take (k + 1)) = Kind.bulkS (l.take k) + l[k].bulk := by
  rw [List.take_succ_eq_append_getElem h, Kind.bulkS_append]
  simp [Kind.bulkS]
theorem Kind.bulkS_le (l : List Kind) (k : Nat) : Kind.bulkS (l.take k) ≤ Kind.bulkS l := by
  conv => rhs; rw [← List.take_append_drop k l, Kind.bulkS_append]
  omega
theorem Kind.bulk_at (l : List Kind) (k : Nat) (h : k < l.length) : l[k].bulk ≤ Kind.bulkS l := by
  have h1 := Kind.bulkS_snoc l k h
  have h2 := Kind.bulkS_le l (k + 1)
  omega
theorem Kind.cells_snoc (l : List Kind) (k : Nat) (h : k < l.length) : (l.take (k + 1)).flatMap Kind.cells = (l.take k).flatMap Kind.cells ++ l[k].cells := by
  rw [List.take_succ_eq_append_getElem h, List.flatMap_append]
  simp
theorem OwC.oKind {w : World} {x : Kind} {us : List Value} {fp : List Nat} (h : OwC w x.cells us fp) :
    ∃ A1 c1 A2 c2 f1 f2, us = [.int .i64 x.sort, .slice A1 x.names.length c1, .slice A2 x.kids.length c2] ∧ (Lit.int .i64 x.sort).wf = true ∧ Ow w (.s 1 x.names.length (x.names.flatMap strC)) (.slice A1 x.names.length c1) f1 ∧ Ow w (.s 3 x.kids.length (x.kids.flatMap Kind.cells)) (.slice A2 x.kids.length c2) f2 ∧ fp = f1 ++ (f2) := by
  rw [Kind.cells_eq] at h
  match us, OwC.length _ h with
  | [u0, u1, u2], _ =>
    simp only [OwC] at h
    obtain ⟨g0, _, h0, ⟨g1, _, h1, ⟨g2, _, h2, rfl, rfl⟩, rfl⟩, rfl⟩ := h
    simp only [Ow, okAtom] at h0
    obtain ⟨rfl, w0, rfl⟩ := h0
    obtain ⟨A1, c1, rfl, _⟩ := h1.slice
    obtain ⟨A2, c2, rfl, _⟩ := h2.slice
    exact ⟨A1, c1, A2, c2, g1, g2, rfl, w0, h1, h2, by simp⟩
theorem OwC.mKind {w : World} {x : Kind} {v1 v2 : Value} {f1 f2 : List Nat} (w0 : (Lit.int .i64 x.sort).wf = true) (h1 : Ow w (.s 1 x.names.length (x.names.flatMap strC)) v1 f1) (h2 : Ow w (.s 3 x.kids.length (x.kids.flatMap Kind.cells)) v2 f2) :
    OwC w x.cells [.int .i64 x.sort, v1, v2] (f1 ++ (f2)) := by
  have h : OwC w x.cells [.int .i64 x.sort, v1, v2] ([] ++ (f1 ++ (f2 ++ ([])))) := by
    rw [Kind.cells_eq]
    exact ⟨_, _, ⟨rfl, w0, rfl⟩, ⟨_, _, h1, ⟨_, _, h2, rfl, rfl⟩, rfl⟩, rfl⟩
  simpa using h
end Go.Proofs.Ytbjblchhenmgjaa
