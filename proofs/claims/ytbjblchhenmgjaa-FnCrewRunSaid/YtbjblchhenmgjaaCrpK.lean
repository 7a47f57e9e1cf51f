/-
  The comparing of what crews told: lwInts, lwTold, where both are the same (jobs, items, dead). Tree as data: its cells, its size.
-/
import Derived.Test.YtbjblchhenmgjaaCrpJ
import Derived.BigQuiet
import Derived.Deep.RegionHeld3
import Derived.Test.YtbjblchhenmgjaaCrpA
set_option linter.unusedVariables false
set_option linter.unusedSimpArgs false
namespace Go.Proofs.Ytbjblchhenmgjaa
open Go.ChangeShapes Go.WideShapes Go.ChangeAt Go.RowKit

set_option maxRecDepth 100000 in
theorem lwInts_same (l : List Int) (A A' : Option Addr) (n n' c c' : Nat) (fp fp' : List Nat) (w : World) (h : Ow w (.s 1 l.length (l.flatMap intC)) (.slice A n c) fp) (h' : Ow w (.s 1 l.length (l.flatMap intC)) (.slice A' n' c') fp') :
    Calls Try.prog 124 #[.slice A n c, .slice A' n' c'] w fun e w' => e = .returned (.bool true) ∧ Below w.heap.size w w' := by
  obtain ⟨rfl, hc, hm⟩ := h.nlen
  obtain ⟨rfl, hc', hm'⟩ := h'.nlen
  unfold maxLen at hm hm'
  go_enter Try.func124, Try.ntmps124
  go_wp2
  go_loopw [5] (fun i wr => (∃ k : Nat, k ≤ l.length ∧ i = .int .i64 k) ∧ ∃ q, wr = w.drewN q) (fun i _ => l.length - (intOf i).toNat)
  case atStart => exact ⟨⟨0, Nat.zero_le _, rfl⟩, 0, rfl⟩
  case round =>
    obtain ⟨⟨k, hk, rfl⟩, q, rfl⟩ := hrel
    by_cases hlt : k < l.length
    · obtain ⟨g, off, rfl, _, hcell, hs⟩ := ints_at h hlt
      obtain ⟨g', off', rfl, _, hcell', _⟩ := ints_at h' hlt
      generalize l[k] = s at *
      go_wp2
      go_quiet (fail)
      go_wp2
      go_roundw
      case rel => exact ⟨⟨k + 1, by omega, by go_num⟩, _, rfl⟩
      case measure => simp [intOf]; omega
    · obtain rfl : k = l.length := by omega
      go_wp2
      go_ret
      exact ⟨rfl, below_drewN (Below.refl _ _) q⟩
set_option maxRecDepth 100000 in
set_option maxHeartbeats 1000000 in
theorem lwTold_same (x : CrewTold) (us vs : List Value) (fp fq : List Nat) (w : World) (ho : OwC w x.cells us fp) (ho' : OwC w x.cells vs fq) (hf : Lt fp w.heap.size) (hf' : Lt fq w.heap.size) :
    Calls Try.prog 54 #[.agg us.toArray, .agg vs.toArray] w fun e w' => e = .returned (.bool true) ∧ Below w.heap.size w w' := by
  obtain ⟨A1, c1, A2, c2, f1, f2, rfl, o1, o2, w3, w4, w5, rfl⟩ := ho.oCrewTold
  obtain ⟨bA1, bc1, bA2, bc2, bf1, bf2, rfl, bo1, bo2, bw3, bw4, bw5, rfl⟩ := ho'.oCrewTold
  have hB0 : Below w.heap.size w ((w.alloc (.cells #[.bool x.ok, .slice A1 x.items.length c1, .slice A2 x.dead.length c2, .int .i64 x.jobs, .int .i64 x.steps, .int .i64 x.ops] 76)).alloc (.cells #[.bool x.ok, .slice bA1 x.items.length bc1, .slice bA2 x.dead.length bc2, .int .i64 x.jobs, .int .i64 x.steps, .int .i64 x.ops] 76)) := ((Below.refl _ _).alloc (Nat.le_refl _) _).alloc (by simp) _
  have R0 : Row ((w.alloc (.cells #[.bool x.ok, .slice A1 x.items.length c1, .slice A2 x.dead.length c2, .int .i64 x.jobs, .int .i64 x.steps, .int .i64 x.ops] 76)).alloc (.cells #[.bool x.ok, .slice bA1 x.items.length bc1, .slice bA2 x.dead.length bc2, .int .i64 x.jobs, .int .i64 x.steps, .int .i64 x.ops] 76)) w.heap.size 76 [.bool x.ok, .slice A1 x.items.length c1, .slice A2 x.dead.length c2, .int .i64 x.jobs, .int .i64 x.steps, .int .i64 x.ops] := (Row.new w _ _).alloc _
  have S0 : Row ((w.alloc (.cells #[.bool x.ok, .slice A1 x.items.length c1, .slice A2 x.dead.length c2, .int .i64 x.jobs, .int .i64 x.steps, .int .i64 x.ops] 76)).alloc (.cells #[.bool x.ok, .slice bA1 x.items.length bc1, .slice bA2 x.dead.length bc2, .int .i64 x.jobs, .int .i64 x.steps, .int .i64 x.ops] 76)) (w.heap.size + 1) 76 [.bool x.ok, .slice bA1 x.items.length bc1, .slice bA2 x.dead.length bc2, .int .i64 x.jobs, .int .i64 x.steps, .int .i64 x.ops] := by
    have h := Row.new (w.alloc (.cells #[.bool x.ok, .slice A1 x.items.length c1, .slice A2 x.dead.length c2, .int .i64 x.jobs, .int .i64 x.steps, .int .i64 x.ops] 76)) 76 [.bool x.ok, .slice bA1 x.items.length bc1, .slice bA2 x.dead.length bc2, .int .i64 x.jobs, .int .i64 x.steps, .int .i64 x.ops]
    simpa using h
  have HO1 := hide (o1.below hB0 hf.left)
  have HO2 := hide (o2.below hB0 hf.right)
  have HP1 := hide (bo1.below hB0 hf'.left)
  have HP2 := hide (bo2.below hB0 hf'.right)
  have L2 := hide (hf.right.up hB0)
  have K2 := hide (hf'.right.up hB0)
  have HB := hide hB0
  obtain ⟨_, _, hm2⟩ := o2.nlen
  unfold maxLen at hm2
  clear ho ho' o1 o2 bo1 bo2 hB0
  go_enter Try.func54, Try.ntmps54
  go_wp2_with fail
  refine (lwInts_same _ _ _ _ _ _ _ _ _ _ HO1.out HP1.out).mono ?_
  rintro e w1 ⟨rfl, hb1⟩
  have HB1 := hide (HB.out.trans (hb1.mono HB.out.size))
  have HR1 := hide (R0.below hb1 R0.lt)
  have HS1 := hide (S0.below hb1 S0.lt)
  have HO := hide (HO2.out.below hb1 L2.out)
  have HP := hide (HP2.out.below hb1 K2.out)
  have HL := hide (L2.out.up hb1)
  have HK := hide (K2.out.up hb1)
  clear R0 S0 hb1 HO1 HO2 HP1 HP2 L2 K2
  go_wp2
  go_loopw [5] (fun i wr => (∃ k : Nat, k ≤ x.dead.length ∧ i = .int .i64 k) ∧ ∃ q, wr = w1.drewN q) (fun i _ => x.dead.length - (intOf i).toNat)
  case atStart => exact ⟨⟨0, Nat.zero_le _, rfl⟩, 0, rfl⟩
  case round =>
    obtain ⟨⟨k, hk, rfl⟩, q, rfl⟩ := hrel
    have r2 : w1.cell? ⟨w.heap.size, 2, none⟩ = some (.slice A2 x.dead.length c2) := HR1.out.cell 2
    have s2 : w1.cell? ⟨w.heap.size + 1, 2, none⟩ = some (.slice bA2 x.dead.length bc2) := HS1.out.cell 2
    have lr := HR1.out.lt
    have ls := HS1.out.lt
    by_cases hlt : k < x.dead.length
    · have hltI : (k : Int) < (x.dead.length : Int) := by omega
      obtain ⟨ga, oa, usa, fa, rfl, hga, -, hla, hca, hoa⟩ := HO.out.elem CrewDead.cells_len hlt
      obtain ⟨gb, ob, usb, fb, rfl, hgb, -, hlb, hcb, hob⟩ := HP.out.elem CrewDead.cells_len hlt
      obtain ⟨rfl, -, -, -⟩ := hoa.oCrewDead
      obtain ⟨rfl, -, -, -⟩ := hob.oCrewDead
      have a0 := hca 0 _ rfl
      have a1 := hca 1 _ rfl
      have b0 := hcb 0 _ rfl
      have b1 := hcb 1 _ rfl
      have la := HL.out _ hga
      have lb := HK.out _ hgb
      simp only [Nat.add_zero] at a0 b0
      generalize x.dead[k] = y at *
      clear hca hcb hoa hob
      go_wp2
      go_quiet (fail)
      go_wp2
      go_roundw
      case rel => exact ⟨⟨k + 1, by omega, by go_num⟩, _, rfl⟩
      case measure => simp [intOf]; omega
    · obtain rfl : k = x.dead.length := by omega
      go_wp2
      go_ret
      exact ⟨rfl, below_drewN HB1.out q⟩
end Go.Proofs.Ytbjblchhenmgjaa
namespace Go.Proofs.Ytbjblchhenmgjaa
open Go.ChangeShapes Go.WideShapes Go.ChangeAt Go.RowKit

inductive Tree where
  | mk (sort : Int) (num : Int) (text : ByteArray) (names : List ByteArray) (kids : List Tree)
def Tree.sort : Tree → Int | .mk x _ _ _ _ => x
def Tree.num : Tree → Int | .mk _ x _ _ _ => x
def Tree.text : Tree → ByteArray | .mk _ _ x _ _ => x
def Tree.names : Tree → List ByteArray | .mk _ _ _ x _ => x
def Tree.kids : Tree → List Tree | .mk _ _ _ _ x => x
mutual
def Tree.cells : Tree → List D
  | .mk sort num text names kids => [.v (.int .i64 sort)] ++ [.v (.int .i64 num)] ++ [.v (.string text)] ++ [.s 1 names.length (names.flatMap strC)] ++ [.s 5 kids.length (Tree.cellsS kids)]
def Tree.cellsS : List Tree → List D
  | [] => []
  | x :: r => x.cells ++ Tree.cellsS r
end
mutual
def Tree.bulk : Tree → Nat
  | .mk sort num text names kids => text.size + bulkStrs names + kids.length + Tree.bulkS kids
def Tree.bulkS : List Tree → Nat
  | [] => 0
  | x :: r => x.bulk + Tree.bulkS r
end
theorem Tree.cellsS_flat : ∀ (l : List Tree), Tree.cellsS l = l.flatMap Tree.cells
  | [] => rfl
  | x :: r => by simp [Tree.cellsS, Tree.cellsS_flat r]
theorem Tree.cells_eq (x : Tree) : x.cells = [.v (.int .i64 x.sort), .v (.int .i64 x.num), .v (.string x.text), .s 1 x.names.length (x.names.flatMap strC), .s 5 x.kids.length (x.kids.flatMap Tree.cells)] := by
  cases x; simp [Tree.cells, Tree.sort, Tree.num, Tree.text, Tree.names, Tree.kids, Tree.cellsS_flat]
theorem Tree.bulk_eq (x : Tree) : x.bulk = x.text.size + bulkStrs x.names + x.kids.length + Tree.bulkS x.kids := by cases x; rfl
theorem Tree.ind {P : Tree → Prop} (h : ∀ k, (∀ x ∈ k.kids, P x) → P k) : ∀ k, P k
  | .mk sort num text names kids => h _ fun x hx => Tree.ind h x
termination_by k => SizeOf.sizeOf k
decreasing_by
  simp only [Tree.kids] at hx
  have := List.sizeOf_lt_of_mem hx
  simp only [Tree.mk.sizeOf_spec]
  omega
theorem Tree.cells_len (x : Tree) : x.cells.length = 5 := by rw [Tree.cells_eq]; rfl
def Tree.bulkL (l : List Tree) : Nat := l.length + Tree.bulkS l
theorem Tree.bulkS_append (a b : List Tree) : Tree.bulkS (a ++ b) = Tree.bulkS a + Tree.bulkS b := by
  induction a with
  | nil => simp [Tree.bulkS]
  | cons x a ih => simp [Tree.bulkS, ih]; omega
theorem Tree.bulkS_snoc (l : List Tree) (k : Nat) (h : k < l.length) : Tree.bulkS (l.take (k + 1)) = Tree.bulkS (l.take k) + l[k].bulk := by
  rw [List.take_succ_eq_append_getElem h, Tree.bulkS_append]
  simp [Tree.bulkS]
theorem Tree.bulkS_le (l : List Tree) (k : Nat) : Tree.bulkS (l.take k) ≤ Tree.bulkS l := by
  conv => rhs; rw [← List.take_append_drop k l, Tree.bulkS_append]
  omega
theorem Tree.bulk_at (l : List Tree) (k : Nat) (h : k < l.length) : l[k].bulk ≤ Tree.bulkS l := by
  have h1 := Tree.bulkS_snoc l k h
  have h2 := Tree.bulkS_le l (k + 1)
  omega
theorem Tree.cells_snoc (l : List Tree) (k : Nat) (h : k < l.length) : (l.take (k + 1)).flatMap Tree.cells = (l.take k).flatMap Tree.cells ++ l[k].cells := by
  rw [List.take_succ_eq_append_getElem h, List.flatMap_append]
  simp
theorem OwC.oTree {w : World} {x : Tree} {us : List Value} {fp : List Nat} (h : OwC w x.cells us fp) :
    ∃ A1 c1 A2 c2 f1 f2, us = [.int .i64 x.sort, .int .i64 x.num, .string x.text, .slice A1 x.names.length c1, .slice A2 x.kids.length c2] ∧ (Lit.int .i64 x.sort).wf = true ∧ (Lit.int .i64 x.num).wf = true ∧ x.text.size ≤ maxLen ∧ Ow w (.s 1 x.names.length (x.names.flatMap strC)) (.slice A1 x.names.length c1) f1 ∧ Ow w (.s 5 x.kids.length (x.kids.flatMap Tree.cells)) (.slice A2 x.kids.length c2) f2 ∧ fp = f1 ++ (f2) := by
  rw [Tree.cells_eq] at h
  match us, OwC.length _ h with
  | [u0, u1, u2, u3, u4], _ =>
    simp only [OwC] at h
    obtain ⟨g0, _, h0, ⟨g1, _, h1, ⟨g2, _, h2, ⟨g3, _, h3, ⟨g4, _, h4, rfl, rfl⟩, rfl⟩, rfl⟩, rfl⟩, rfl⟩ := h
    simp only [Ow, okAtom] at h0
    obtain ⟨rfl, w0, rfl⟩ := h0
    simp only [Ow, okAtom] at h1
    obtain ⟨rfl, w1, rfl⟩ := h1
    simp only [Ow, okAtom] at h2
    obtain ⟨rfl, w2, rfl⟩ := h2
    obtain ⟨A1, c1, rfl, _⟩ := h3.slice
    obtain ⟨A2, c2, rfl, _⟩ := h4.slice
    exact ⟨A1, c1, A2, c2, g3, g4, rfl, w0, w1, w2, h3, h4, by simp⟩
theorem OwC.mTree {w : World} {x : Tree} {v1 v2 : Value} {f1 f2 : List Nat} (w0 : (Lit.int .i64 x.sort).wf = true) (w1 : (Lit.int .i64 x.num).wf = true) (w2 : x.text.size ≤ maxLen) (h3 : Ow w (.s 1 x.names.length (x.names.flatMap strC)) v1 f1) (h4 : Ow w (.s 5 x.kids.length (x.kids.flatMap Tree.cells)) v2 f2) :
    OwC w x.cells [.int .i64 x.sort, .int .i64 x.num, .string x.text, v1, v2] (f1 ++ (f2)) := by
  have h : OwC w x.cells [.int .i64 x.sort, .int .i64 x.num, .string x.text, v1, v2] ([] ++ ([] ++ ([] ++ (f1 ++ (f2 ++ ([])))))) := by
    rw [Tree.cells_eq]
    exact ⟨_, _, ⟨rfl, w0, rfl⟩, ⟨_, _, ⟨rfl, w1, rfl⟩, ⟨_, _, ⟨rfl, w2, rfl⟩, ⟨_, _, h3, ⟨_, _, h4, rfl, rfl⟩, rfl⟩, rfl⟩, rfl⟩, rfl⟩
  simpa using h
end Go.Proofs.Ytbjblchhenmgjaa
