/-
  Reading trees from texts: what both readers hand back; a tree in its block. What TreeRead hands back: plain.
-/
import Derived.Test.YtnaecdoeldoipaaGreatDoorKKid
import Derived.Test.YtnaecdoeldoipaaGreatDoorKTrL
import Derived.Test.YtnaecdoeldoipaaGreatDoorKRkS
set_option linter.unusedVariables false
set_option linter.unusedSimpArgs false
namespace Go.Proofs.YtnaecdoeldoipaaGreatDoor
open Go.ChangeShapes Go.WideShapes Go.ChangeAt Go.RowKit

abbrev treeMkR (s : Int) : Value → Value → List Value := fun a b => [.int .i64 s, .int .i64 0, .string .empty, a, b]
/-- a tree as it grows, in its block -/
abbrev TreeAtR (wr : World) (b : Nat) (s : Int) (v1 : Value) (l1 : List ByteArray) (us1 : List Value) (v2 : Value) (l2 : List Tree) (us2 : List Value) (fi2 : List Nat) : Prop :=
  Two wr b (b + 1) 26 (treeMkR s) 9 1 strC v1 l1 us1 [] 26 5 Tree.cells v2 l2 us2 fi2
theorem info_TreeR : (Tryz.prog.info? 26).map (fun i => (i.zero, i.size, i.bytes)) = some (some (.agg #[.int .i64 0, .int .i64 0, .string ⟨#[]⟩, .slice none 0 0, .slice none 0 0]), 5, 80) := by kernel_rfl
theorem info_strR : (Tryz.prog.info? 9).map (fun i => (i.zero, i.size, i.bytes)) = some (some (.string ⟨#[]⟩), 1, 16) := by kernel_rfl
abbrev zTree : List Value := [.int .i64 0, .int .i64 0, .string .empty, .slice none 0 0, .slice none 0 0]
def TreeOutR (R : World → List UInt8 → Bool → Prop) (g lv : Nat) (l : List UInt8) (bad : Bool) (w : World) (e : Ending) (w' : World) : Prop :=
  ∃ (k : Tree) (us : List Value) (fq : List Nat) (l' : List UInt8) (bad' : Bool), e = .returned (.agg us.toArray) ∧ OwC w' k.cells us fq ∧ New w' fq w.heap.size ∧ R w' l' bad' ∧ w.grownBy w' (some g) ∧ Paid lv l k.bulk l' bad' ∧ TakesT lv l bad k l' bad' ∧ (bad' = false → bad = false)
theorem only_lowR {a w w' : World} {row : Option Nat} {B : Nat} (h : a.grownBy w row) (hb : Below B w w') (hB : a.heap.size ≤ B) : a.grownBy w' row :=
  ⟨hb.os.trans h.os, hb.tape.trans h.tape, hb.output.trans h.output, Nat.le_trans h.size hb.size, fun i hi hr => (hb.block i (Nat.lt_of_lt_of_le hi hB)).trans (h.block i hi hr)⟩
section
variable {α β : Type} {w w1 : World} {b B : Nat} {T : TypeId} {mk : Value → Value → List Value} {e1 : TypeId} {k1 : Nat} {f1 : α → List D} {v1 : Value} {l1 : List α} {us1 : List Value} {fi1 : List Nat}
    {e2 : TypeId} {k2 : Nat} {f2 : β → List D} {v2 : Value} {l2 : List β} {us2 : List Value} {fi2 : List Nat}
theorem Two.farR (h : Two w b B T mk e1 k1 f1 v1 l1 us1 fi1 e2 k2 f2 v2 l2 us2 fi2) {g : Nat} (hg : w.grownBy w1 (some g)) (hgb : g < b) : Two w1 b B T mk e1 k1 f1 v1 l1 us1 fi1 e2 k2 f2 v2 l2 us2 fi2 :=
  ⟨h.box.grown hg (fun e => by injection e with e; omega), h.one.kept hg (fun x e => by injection e with e; subst e; exact ⟨h.one.nlow (by have := h.hb; omega), h.one.low (by have := h.hb; omega)⟩),
    h.two.kept hg (fun x e => by injection e with e; subst e; exact ⟨h.two.nlow (by have := h.hb; omega), h.two.low (by have := h.hb; omega)⟩), h.hb, h.dis, h.o12, h.o21, h.ff⟩
end
theorem fin_grownR {w w5 : World} {g : Nat} (hg : w.grownBy w5 (some g)) (vs : List Value) : w.grownBy (putN w5 w.heap.size 0 vs) (some g) :=
  only_lowR hg (below_of_grown (setN_grown vs 0 (grown_refl w5 (some w.heap.size))) (Nat.le_refl _) hg.size) (Nat.le_refl _)
theorem fin_lowR {w w5 : World} {g : Nat} (hg : w.grownBy w5 (some g)) (vs : List Value) : Below w.heap.size w5 (putN w5 w.heap.size 0 vs) :=
  below_of_grown (setN_grown vs 0 (grown_refl w5 (some w.heap.size))) (Nat.le_refl _) hg.size
theorem wfiR {x : Int} (h1 : -9223372036854775808 ≤ x) (h2 : x ≤ 9223372036854775807) : (Lit.int .i64 x).wf = true := WalkArith.wf_i64 ⟨h1, h2⟩
theorem tleaf_ow (W : World) {s n : Int} {x : ByteArray} (hs : (Lit.int .i64 s).wf = true) (hn : (Lit.int .i64 n).wf = true) (hx : x.size ≤ maxLen) :
    OwC W (Tree.mk s n x [] []).cells [.int .i64 s, .int .i64 n, .string x, .slice none 0 0, .slice none 0 0] [] :=
  OwC.mTree (x := Tree.mk s n x [] []) (v1 := .slice none 0 0) (v2 := .slice none 0 0) (f1 := []) (f2 := []) hs hn hx (Ow.nil_ W 1 strC) (Ow.nil_ W 5 Tree.cells)
/-- a tree with one kid, whose cells lie in a block of their own -/
theorem tone_ow {W : World} {s : Int} {k : Tree} {us : List Value} {fq : List Nat} (hs : (Lit.int .i64 s).wf = true) (ho : OwC W k.cells us fq) (g : Nat) (hr : Row W g 26 us) :
    OwC W (Tree.mk s 0 .empty [] [k]).cells [.int .i64 s, .int .i64 0, .string .empty, .slice none 0 0, .slice (some ⟨g, 0, none⟩) 1 1] (g :: fq) := by
  have h2 : Ow W (.s 5 [k].length ([k].flatMap Tree.cells)) (.slice (some ⟨g, 0, none⟩) 1 1) (g :: fq) := by
    unfold Ow
    refine ⟨by simp [Tree.cells_len], _, _, rfl, Nat.le_refl _, by unfold maxLen; omega, .inr ⟨by simp, g, 0, fq, rfl, ?_, rfl⟩⟩
    rw [List.flatMap_singleton]
    exact OwC.row _ ho (fun j u hj => by rw [Nat.zero_add, hr.cell]; exact hj)
  have h := OwC.mTree (x := Tree.mk s 0 .empty [] [k]) (v1 := .slice none 0 0) (f1 := []) hs (show (Lit.int .i64 0).wf = true by decide) (show (ByteArray.empty).size ≤ maxLen by decide) (Ow.nil_ W 1 strC) h2
  rw [List.nil_append] at h
  exact h
theorem putN_allocR (o : Obj) {g : Nat} : ∀ (vs : List Value) (i : Nat) (w : World), g < w.heap.size → putN (w.alloc o) g i vs = (putN w g i vs).alloc o
  | [], _, _, _ => rfl
  | v :: vs, i, w, h => by
    unfold putN
    rw [World.setCell_alloc_past _ _ _ _ h]
    exact putN_allocR o vs (i + 1) _ (by simpa [World.setCell] using h)
theorem New.consHiR {w : World} {fp : List Nat} {lo g : Nat} (h : New w fp lo) (hg : g ∉ fp) (hl : lo ≤ g) (hu : Unf w g) (hs : g < w.heap.size) : New w (g :: fp) lo :=
  ⟨h.fr.cons hl hs, List.nodup_cons.2 ⟨hg, h.nd⟩, fun b hb => by
    rcases List.mem_cons.1 hb with rfl | hb
    · exact hu
    · exact h.uf b hb⟩
theorem tform_ow {wr : World} {b : Nat} {s : Int} {v1 v2 : Value} {l1 : List ByteArray} {us1 : List Value} {l2 : List Tree} {us2 : List Value} {fi2 : List Nat} (hT : TreeAtR wr b s v1 l1 us1 v2 l2 us2 fi2) (hs : (Lit.int .i64 s).wf = true) :
    ∃ fq, OwC wr (Tree.mk s 0 .empty l1 l2).cells (treeMkR s v1 v2) fq ∧ New wr fq (b + 1) := by
  obtain ⟨p1, p2, o1, o2, hn⟩ := hT.toOw
  exact ⟨p1 ++ p2, OwC.mTree (x := Tree.mk s 0 .empty l1 l2) hs (show (Lit.int .i64 0).wf = true by decide) (show (ByteArray.empty).size ≤ maxLen by decide) o1 o2, hn⟩
theorem or_not_f {a b : Bool} (h : (!a || !b) = false) : b = true := by cases a <;> cases b <;> simp_all
theorem not_or_t {a b : Bool} (h : a = true) (k : b = true) : (!a || !b) = false := by subst h k; rfl
theorem RdK.hat {w : World} {g : Nat} {s : ByteArray} {l : List UInt8} {bad : Bool} (h : RdK w g s 0 l bad) : ∃ n, n ≤ s.size ∧ w.cell? ⟨g, 1, none⟩ = some (.int .i64 (n : Int)) := by
  obtain ⟨n, hr, _, h2, _⟩ := h
  exact ⟨n, by omega, hr.cell 1⟩
theorem RdK.len {w : World} {g : Nat} {s : ByteArray} {m : Nat} {l : List UInt8} {bad : Bool} (h : RdK w g s m l bad) : l.length ≤ 10000 := by
  obtain ⟨n, _, h1, _, _, rfl⟩ := h
  rw [List.length_drop, bl_len]
  omega
theorem RdK.zero {w : World} {g : Nat} {s : ByteArray} {m : Nat} {l : List UInt8} (h : RdK w g s m l false) : RdK w g s 0 l false := by
  obtain ⟨n, hr, h1, h2, h3, h4⟩ := h
  exact ⟨n, hr, h1, by have := h3 rfl; omega, h3, h4⟩
/-- one byte on -/
theorem RdK.next {w : World} {g : Nat} {s : ByteArray} {m : Nat} {l : List UInt8} {bad : Bool} (h : RdK w g s m l bad) (hl : bad = false → l ≠ []) :
    ∃ n : Nat, w.cell? ⟨g, 1, none⟩ = some (.int .i64 (n : Int)) ∧ w.frozen? ⟨g, 1, none⟩ = false ∧ n ≤ 20000 + m ∧ RdK (w.setCell ⟨g, 1, none⟩ (.int .i64 ((n : Int) + 1))) g s (m + 1) (l.drop 1) bad := by
  obtain ⟨n, hr, h1, h2, h3, rfl⟩ := h
  refine ⟨n, hr.cell 1, hr.frozen 1, by omega, n + 1, by rw [show ((n + 1 : Nat) : Int) = (n : Int) + 1 by omega]; exact hr.set 1 _, h1, by omega, fun hb => ?_, by rw [List.drop_drop]⟩
  refine Nat.lt_of_not_le (fun hn => hl hb ?_)
  exact drop_none s n (by omega)
def rdMeas (w : World) (g size : Nat) : Nat := match w.cell? ⟨g, 2, none⟩, w.cell? ⟨g, 1, none⟩ with
  | some (.bool false), some (.int _ i) => 1 + (size - i.toNat)
  | _, _ => 0
theorem RdK.meas {w : World} {g : Nat} {s : ByteArray} {m : Nat} {l : List UInt8} {bad : Bool} (h : RdK w g s m l bad) : rdMeas w g s.size = if bad = true then 0 else 1 + l.length := by
  obtain ⟨n, hr, h1, h2, h3, rfl⟩ := h
  unfold rdMeas
  rw [hr.cell 2, hr.cell 1]
  simp only [List.getElem?_cons_succ, List.getElem?_cons_zero]
  rw [List.length_drop, bl_len]
  cases bad
  · simp
  · simp
def TreeRdS (f : Nat) : Prop := ∀ (s : ByteArray) (l : List UInt8) (bad : Bool) (g lv : Nat) (w : World), lv + f = 7 → 1 ≤ lv → RdK w g s 0 l bad →
  Calls Tryz.prog 52 #[.pointer (some ⟨g, 0, none⟩), .int .i64 (lv : Int)] w (TreeOutR (fun w l b => RdK w g s f l b) g lv l bad w)
end Go.Proofs.YtnaecdoeldoipaaGreatDoor
set_option linter.unusedVariables false
set_option linter.unusedSimpArgs false
namespace Go.Proofs.YtnaecdoeldoipaaGreatDoor
open Go.ChangeShapes Go.WideShapes Go.ChangeAt Go.RowKit

/-- the tree whose text it is -/
noncomputable def readT (s : ByteArray) : Option Tree := @dite _ (∃ k : Tree, k.ok ∧ k.wr = s) (Classical.propDecidable _) (fun h => some h.choose) (fun _ => none)
theorem readT_some {s : ByteArray} {k : Tree} (h : readT s = some k) : k.ok ∧ k.wr = s := by
  unfold readT at h
  split at h
  · next hx =>
    injection h with h
    rw [← h]
    exact hx.choose_spec
  · cases h
theorem readT_none {s : ByteArray} (h : readT s = none) (k : Tree) (hk : k.ok) : k.wr ≠ s := by
  unfold readT at h
  split at h
  · cases h
  · next hx => exact fun e => hx ⟨k, hk, e⟩
theorem readT_yes {s : ByteArray} {k : Tree} {l' : List UInt8} {b : Bool} (ht : TakesT 1 (bl s) false k l' b) (hk : k.ok) (e : k.wr = s) : readT s = some k := by
  cases h : readT s with
  | none => exact absurd e (readT_none h k hk)
  | some k2 =>
    obtain ⟨h1, h2⟩ := readT_some h
    obtain ⟨rfl, _⟩ := ht k2 [] h1.1 Ender.nil rfl (by rw [h2, List.append_nil])
    rfl
theorem readT_no {s : ByteArray} {k : Tree} {l' : List UInt8} {b : Bool} (ht : TakesT 1 (bl s) false k l' b) (h : ¬ (b = false ∧ l' = [] ∧ k.ok ∧ k.wr = s)) : readT s = none := by
  cases h2 : readT s with
  | none => rfl
  | some k2 =>
    obtain ⟨h3, h4⟩ := readT_some h2
    obtain ⟨rfl, hb, hl⟩ := ht k2 [] h3.1 Ender.nil rfl (by rw [h4, List.append_nil])
    exact absurd ⟨hb, hl, h3, h4⟩ h
def Tree.zero_ : Tree := .mk 0 0 .empty [] []
noncomputable def treeRead (s : ByteArray) : Tree := (readT s).getD Tree.zero_
noncomputable def treeReadB (s : ByteArray) : Bool := (readT s).isSome
def TreeReadRet (s : ByteArray) (w : World) (e : Ending) (w' : World) : Prop :=
  ∃ us fq, e = .returned (.tuple #[.agg us.toArray, .bool (treeReadB s)]) ∧ OwC w' (treeRead s).cells us fq ∧ New w' fq w.heap.size ∧ Below w.heap.size w w'
theorem tok_size {k : Tree} (h : k.ok) : k.wr.size ≤ 9600 := by
  have h1 := Tree.wr_size k 1 h.1
  have h2 := h.2
  omega
theorem readT_long {s : ByteArray} (h : 10000 < s.size) : readT s = none := by
  cases hr : readT s with
  | none => rfl
  | some k =>
    obtain ⟨h1, h2⟩ := readT_some hr
    have := tok_size h1
    rw [h2] at this
    omega
/-- what is handed back: nothing -/
theorem trr_none {s : ByteArray} {w W : World} (h : readT s = none) (hg : Below w.heap.size w W) : TreeReadRet s w (.returned (.tuple #[.agg [.int .i64 0, .int .i64 0, .string ⟨#[]⟩, .slice none 0 0, .slice none 0 0].toArray, .bool false])) W := by
  unfold TreeReadRet treeRead treeReadB
  rw [h]
  exact ⟨_, [], rfl, tleaf_ow _ (by decide) (by decide) (by decide), New.nil _ _, hg⟩
theorem trr_some {s : ByteArray} {w W : World} {k : Tree} {us : List Value} {fq : List Nat} (h : readT s = some k) (ho : OwC W k.cells us fq) (hn : New W fq w.heap.size) (hg : Below w.heap.size w W) : TreeReadRet s w (.returned (.tuple #[.agg us.toArray, .bool true])) W := by
  unfold TreeReadRet treeRead treeReadB
  rw [h]
  exact ⟨us, fq, rfl, ho, hn, hg⟩
end Go.Proofs.YtnaecdoeldoipaaGreatDoor
