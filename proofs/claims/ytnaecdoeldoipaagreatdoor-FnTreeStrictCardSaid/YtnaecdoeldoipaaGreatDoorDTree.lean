/-
  Tree as data: its cells, its size.
-/
import Derived.Test.YtnaecdoeldoipaaGreatDoorStr
set_option linter.unusedVariables false
set_option linter.unusedSimpArgs false
namespace Go.Proofs.YtnaecdoeldoipaaGreatDoor
open Go.ChangeShapes Go.WideShapes Go.ChangeAt Go.RowKit

inductive Tree where
  | mk (sort : Int) (num : Int) (text : ByteArray) (names : List ByteArray) (kids : List Tree)
def Tree.sort : Tree → Int | .mk x _ _ _ _ => x
def Tree.num : Tree → Int | .mk _ x _ _ _ => x
def Tree.text : Tree → ByteArray | .mk _ _ x _ _ => x
def Tree.names : Tree → List ByteArray | .mk _ _ _ x _ => x
def Tree.kids : Tree → List Tree | .mk _ _ _ _ x => x
mutual
def Tree.cells : Tree → List D
  | .mk sort num text names kids => [.v (.int .i64 sort)] ++ [.v (.int .i64 num)] ++ [.v (.string text)] ++ [.s 1 names.length (names.flatMap strC)] ++ [.s 5 kids.length (Tree.cellsS kids)]
def Tree.cellsS : List Tree → List D
  | [] => []
  | x :: r => x.cells ++ Tree.cellsS r
end
mutual
def Tree.bulk : Tree → Nat
  | .mk sort num text names kids => text.size + bulkStrs names + kids.length + Tree.bulkS kids
def Tree.bulkS : List Tree → Nat
  | [] => 0
  | x :: r => x.bulk + Tree.bulkS r
end
theorem Tree.cellsS_flat : ∀ (l : List Tree), Tree.cellsS l = l.flatMap Tree.cells
  | [] => rfl
  | x :: r => by simp [Tree.cellsS, Tree.cellsS_flat r]
theorem Tree.cells_eq (x : Tree) : x.cells = [.v (.int .i64 x.sort), .v (.int .i64 x.num), .v (.string x.text), .s 1 x.names.length (x.names.flatMap strC), .s 5 x.kids.length (x.kids.flatMap Tree.cells)] := by
  cases x; simp [Tree.cells, Tree.sort, Tree.num, Tree.text, Tree.names, Tree.kids, Tree.cellsS_flat]
theorem Tree.bulk_eq (x : Tree) : x.bulk = x.text.size + bulkStrs x.names + x.kids.length + Tree.bulkS x.kids := by cases x; rfl
theorem Tree.ind {P : Tree → Prop} (h : ∀ k, (∀ x ∈ k.kids, P x) → P k) : ∀ k, P k
  | .mk sort num text names kids => h _ fun x hx => Tree.ind h x
termination_by k => SizeOf.sizeOf k
decreasing_by
  simp only [Tree.kids] at hx
  have := List.sizeOf_lt_of_mem hx
  simp only [Tree.mk.sizeOf_spec]
  omega
theorem Tree.cells_len (x : Tree) : x.cells.length = 5 := by rw [Tree.cells_eq]; rfl
def Tree.bulkL (l : List Tree) : Nat := l.length + Tree.bulkS l
theorem Tree.bulkS_append (a b : List Tree) : Tree.bulkS (a ++ b) = Tree.bulkS a + Tree.bulkS b := by
  induction a with
  | nil => simp [Tree.bulkS]
  | cons x a ih => simp [Tree.bulkS, ih]; omega
theorem Tree.bulkS_snoc (l : List Tree) (k : Nat) (h : k < l.length) : Tree.bulkS (l.take (k + 1)) = Tree.bulkS (l.take k) + l[k].bulk := by
  rw [List.take_succ_eq_append_getElem h, Tree.bulkS_append]
  simp [Tree.bulkS]
theorem Tree.bulkS_le (l : List Tree) (k : Nat) : Tree.bulkS (l.take k) ≤ Tree.bulkS l := by
  conv => rhs; rw [← List.take_append_drop k l, Tree.bulkS_append]
  omega
theorem Tree.bulk_at (l : List Tree) (k : Nat) (h : k < l.length) : l[k].bulk ≤ Tree.bulkS l := by
  have h1 := Tree.bulkS_snoc l k h
  have h2 := Tree.bulkS_le l (k + 1)
  omega
theorem Tree.cells_snoc (l : List Tree) (k : Nat) (h : k < l.length) : (l.take (k + 1)).flatMap Tree.cells = (l.take k).flatMap Tree.cells ++ l[k].cells := by
  rw [List.take_succ_eq_append_getElem h, List.flatMap_append]
  simp
theorem OwC.oTree {w : World} {x : Tree} {us : List Value} {fp : List Nat} (h : OwC w x.cells us fp) :
    ∃ A1 c1 A2 c2 f1 f2, us = [.int .i64 x.sort, .int .i64 x.num, .string x.text, .slice A1 x.names.length c1, .slice A2 x.kids.length c2] ∧ (Lit.int .i64 x.sort).wf = true ∧ (Lit.int .i64 x.num).wf = true ∧ x.text.size ≤ maxLen ∧ Ow w (.s 1 x.names.length (x.names.flatMap strC)) (.slice A1 x.names.length c1) f1 ∧ Ow w (.s 5 x.kids.length (x.kids.flatMap Tree.cells)) (.slice A2 x.kids.length c2) f2 ∧ fp = f1 ++ (f2) := by
  rw [Tree.cells_eq] at h
  match us, OwC.length _ h with
  | [u0, u1, u2, u3, u4], _ =>
    simp only [OwC] at h
    obtain ⟨g0, _, h0, ⟨g1, _, h1, ⟨g2, _, h2, ⟨g3, _, h3, ⟨g4, _, h4, rfl, rfl⟩, rfl⟩, rfl⟩, rfl⟩, rfl⟩ := h
    simp only [Ow, okAtom] at h0
    obtain ⟨rfl, w0, rfl⟩ := h0
    simp only [Ow, okAtom] at h1
    obtain ⟨rfl, w1, rfl⟩ := h1
    simp only [Ow, okAtom] at h2
    obtain ⟨rfl, w2, rfl⟩ := h2
    obtain ⟨A1, c1, rfl, _⟩ := h3.slice
    obtain ⟨A2, c2, rfl, _⟩ := h4.slice
    exact ⟨A1, c1, A2, c2, g3, g4, rfl, w0, w1, w2, h3, h4, by simp⟩
theorem OwC.mTree {w : World} {x : Tree} {v1 v2 : Value} {f1 f2 : List Nat} (w0 : (Lit.int .i64 x.sort).wf = true) (w1 : (Lit.int .i64 x.num).wf = true) (w2 : x.text.size ≤ maxLen) (h3 : Ow w (.s 1 x.names.length (x.names.flatMap strC)) v1 f1) (h4 : Ow w (.s 5 x.kids.length (x.kids.flatMap Tree.cells)) v2 f2) :
    OwC w x.cells [.int .i64 x.sort, .int .i64 x.num, .string x.text, v1, v2] (f1 ++ (f2)) := by
  have h : OwC w x.cells [.int .i64 x.sort, .int .i64 x.num, .string x.text, v1, v2] ([] ++ ([] ++ ([] ++ (f1 ++ (f2 ++ ([])))))) := by
    rw [Tree.cells_eq]
    exact ⟨_, _, ⟨rfl, w0, rfl⟩, ⟨_, _, ⟨rfl, w1, rfl⟩, ⟨_, _, ⟨rfl, w2, rfl⟩, ⟨_, _, h3, ⟨_, _, h4, rfl, rfl⟩, rfl⟩, rfl⟩, rfl⟩, rfl⟩
  simpa using h
end Go.Proofs.YtnaecdoeldoipaaGreatDoor
