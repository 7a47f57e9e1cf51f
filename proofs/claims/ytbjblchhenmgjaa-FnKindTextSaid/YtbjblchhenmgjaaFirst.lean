/-
  The first tree of a schema: plain definitions.
-/
import Derived.Test.YtbjblchhenmgjaaKid
import Derived.Test.YtbjblchhenmgjaaKindOk2
import Derived.Test.YtbjblchhenmgjaaDTree
import Derived.Test.YtbjblchhenmgjaaTwo
set_option linter.unusedVariables false
set_option linter.unusedSimpArgs false
namespace Go.Proofs.Ytbjblchhenmgjaa
open Go.ChangeShapes Go.WideShapes Go.ChangeAt Go.RowKit

mutual
def Kind.firstT : Kind → Tree
  | .mk s ns ks => .mk s 0 .empty (if s = 5 then ns else []) (if s = 5 then Kind.firstS ks else [])
def Kind.firstS : List Kind → List Tree
  | [] => []
  | k :: r => k.firstT :: Kind.firstS r
end
theorem Kind.firstS_map : ∀ (l : List Kind), Kind.firstS l = l.map Kind.firstT
  | [] => rfl
  | k :: r => by simp [Kind.firstS, Kind.firstS_map r]
theorem Kind.firstT_five (k : Kind) (h : k.sort = 5) : k.firstT = .mk k.sort 0 .empty k.names (k.kids.map Kind.firstT) := by
  obtain ⟨s, ns, ks⟩ := k
  have h' : s = 5 := h
  simp only [Kind.firstT, Kind.sort, Kind.names, Kind.kids, if_pos h', Kind.firstS_map]
theorem Kind.firstT_other (k : Kind) (h : k.sort ≠ 5) : k.firstT = .mk k.sort 0 .empty [] [] := by
  obtain ⟨s, ns, ks⟩ := k
  have h' : ¬ s = 5 := h
  simp only [Kind.firstT, Kind.sort, if_neg h']
theorem Kind.firstT_eq (k : Kind) (lv : Nat) (hg : k.good lv) : k.firstT = .mk k.sort 0 .empty (k.names.take k.names.length) ((k.kids.take k.names.length).map Kind.firstT) ∧ k.names.length ≤ k.kids.length := by
  rw [List.take_length]
  rcases k.shape_iff.1 ((Kind.good_iff _ _).1 hg).2.1 with h | h | h
  · rw [k.firstT_other (by omega), List.eq_nil_of_length_eq_zero h.2.1]
    exact ⟨rfl, by simp⟩
  · rw [k.firstT_other (by omega), List.eq_nil_of_length_eq_zero h.2.1]
    exact ⟨rfl, by simp⟩
  · rw [k.firstT_five h.1, h.2.2, List.take_length]
    exact ⟨rfl, Nat.le_refl _⟩
theorem kids_snoc (l : List Kind) (j : Nat) (h : j < l.length) : (l.take (j + 1)).map Kind.firstT = (l.take j).map Kind.firstT ++ [l[j].firstT] := by
  rw [List.take_succ_eq_append_getElem h, List.map_append]
  rfl
theorem strs_take (l : List ByteArray) (j : Nat) (h : j < l.length) : l.take (j + 1) = l.take j ++ [l[j]] := List.take_succ_eq_append_getElem h
def Tree.none_ : Tree := .mk 0 0 .empty [] []
noncomputable def Kind.firstOf (k : Kind) : Tree := if tb k.ok = true then k.firstT else Tree.none_
def FirstRet (t : Tree) (w : World) (e : Ending) (w' : World) : Prop := ∃ us fq, e = .returned (.agg us.toArray) ∧ OwC w' t.cells us fq ∧ New w' fq w.heap.size ∧ Below w.heap.size w w'
abbrev treeMk (s : Int) : Value → Value → List Value := fun a b => [.int .i64 s, .int .i64 0, .string .empty, a, b]
theorem wfz : (Lit.int .i64 0).wf = true := by decide
theorem empty_le : (ByteArray.empty).size ≤ maxLen := by simp [maxLen]
theorem treeNone_ow (W : World) : OwC W Tree.none_.cells (treeMk 0 (.slice none 0 0) (.slice none 0 0)) [] :=
  OwC.mTree (x := Tree.none_) (v1 := .slice none 0 0) (v2 := .slice none 0 0) (f1 := []) (f2 := []) wfz wfz empty_le (Ow.nil_ W 1 strC) (Ow.nil_ W 5 Tree.cells)
theorem info_Tree' : (Try.prog.info? 26).map (fun i => (i.zero, i.size, i.bytes)) = some (some (.agg #[.int .i64 0, .int .i64 0, .string .empty, .slice none 0 0, .slice none 0 0]), 5, 80) := by kernel_rfl
/-- the tree as it grows, in its block -/
abbrev TreeAt (wr : World) (b : Nat) (s : Int) (v1 : Value) (l1 : List ByteArray) (us1 : List Value) (v2 : Value) (l2 : List Tree) (us2 : List Value) (fi2 : List Nat) : Prop :=
  Two wr b (b + 1) 26 (treeMk s) 9 1 strC v1 l1 us1 [] 26 5 Tree.cells v2 l2 us2 fi2
/-- what is handed back at the end -/
theorem first_fin {s : Int} {wr W w : World} {b g : Nat} {v1 v2 : Value} {l1 : List ByteArray} {us1 : List Value} {l2 : List Tree} {us2 : List Value} {fi2 : List Nat} (hT : TreeAt wr b s v1 l1 us1 v2 l2 us2 fi2) (hs : (Lit.int .i64 s).wf = true)
    (hb : Below w.heap.size w wr) (hg : wr.grownBy W (some g)) (hgb : g < b) (hgw : w.heap.size ≤ g) :
    ∃ fq, OwC W (Tree.mk s 0 .empty l1 l2).cells (treeMk s v1 v2) fq ∧ New W fq w.heap.size ∧ Below w.heap.size w W := by
  obtain ⟨p1, p2, o1, o2, hn⟩ := hT.toOw
  have hx := OwC.mTree (x := Tree.mk s 0 .empty l1 l2) hs wfz empty_le o1 o2
  have hno : g ∉ p1 ++ p2 := hn.out (by omega)
  refine ⟨p1 ++ p2, hx.grown hg hn.lt hno, (hn.grown hg (fun b e => by injection e with e; subst e; exact hno)).mono (by omega), hb.trans (below_of_grown hg hgw hb.size)⟩
end Go.Proofs.Ytbjblchhenmgjaa
