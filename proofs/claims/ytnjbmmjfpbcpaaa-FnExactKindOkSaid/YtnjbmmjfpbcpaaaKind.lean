/-
  Schemas as data; the laws' own helpers on them: their size, a copy, equality.
-/
import Derived.Test.YtnjbmmjfpbcpaaaStr
set_option linter.unusedVariables false
set_option linter.unusedSimpArgs false
namespace Go.Proofs.Ytnjbmmjfpbcpaaa
open Go.ChangeShapes Go.WideShapes Go.ChangeAt Go.RowKit

inductive Kind where
  | mk (sort : Int) (names : List ByteArray) (kids : List Kind)
def Kind.sort : Kind → Int | .mk s _ _ => s
def Kind.names : Kind → List ByteArray | .mk _ n _ => n
def Kind.kids : Kind → List Kind | .mk _ _ k => k

mutual
def Kind.cells : Kind → List D
  | .mk s ns ks => [.v (.int .i64 s), strsD ns, .s 3 ks.length (Kind.cellsS ks)]
def Kind.cellsS : List Kind → List D
  | [] => []
  | k :: r => k.cells ++ Kind.cellsS r
end
mutual
def Kind.bulk : Kind → Nat
  | .mk _ ns ks => ns.length + bulkStr ns + ks.length + Kind.bulkS ks
def Kind.bulkS : List Kind → Nat
  | [] => 0
  | k :: r => k.bulk + Kind.bulkS r
end
theorem Kind.cellsS_flat : ∀ (l : List Kind), Kind.cellsS l = l.flatMap Kind.cells
  | [] => rfl
  | k :: r => by simp [Kind.cellsS, Kind.cellsS_flat r]
theorem Kind.cells_eq (k : Kind) : k.cells = [.v (.int .i64 k.sort), strsD k.names, .s 3 k.kids.length (k.kids.flatMap Kind.cells)] := by
  cases k; simp [Kind.cells, Kind.sort, Kind.names, Kind.kids, Kind.cellsS_flat]
theorem Kind.cells_len (k : Kind) : k.cells.length = 3 := by rw [Kind.cells_eq]; rfl
theorem Kind.bulk_eq (k : Kind) : k.bulk = k.names.length + bulkStr k.names + k.kids.length + Kind.bulkS k.kids := by cases k; rfl
theorem Kind.bulkS_append (a b : List Kind) : Kind.bulkS (a ++ b) = Kind.bulkS a + Kind.bulkS b := by
  induction a with
  | nil => simp [Kind.bulkS]
  | cons x a ih => simp [Kind.bulkS, ih]; omega
theorem Kind.bulkS_snoc (l : List Kind) (k : Nat) (h : k < l.length) : Kind.bulkS (l.take (k + 1)) = Kind.bulkS (l.take k) + l[k].bulk := by
  rw [List.take_succ_eq_append_getElem h, Kind.bulkS_append]
  simp [Kind.bulkS]
theorem Kind.bulkS_le (l : List Kind) (k : Nat) : Kind.bulkS (l.take k) ≤ Kind.bulkS l := by
  conv => rhs; rw [← List.take_append_drop k l, Kind.bulkS_append]
  omega
theorem Kind.ind {P : Kind → Prop} (h : ∀ k, (∀ x ∈ k.kids, P x) → P k) : ∀ k, P k
  | .mk s ns ks => h _ fun x hx => Kind.ind h x
termination_by k => SizeOf.sizeOf k
decreasing_by
  simp only [Kind.kids] at hx
  have := List.sizeOf_lt_of_mem hx
  simp only [Kind.mk.sizeOf_spec]
  omega

theorem OwC.kind {w : World} {k : Kind} {us : List Value} {fp : List Nat} (h : OwC w k.cells us fp) :
    ∃ A1 c1 A2 c2 f1 f2, us = [.int .i64 k.sort, .slice A1 k.names.length c1, .slice A2 k.kids.length c2] ∧ (Lit.int .i64 k.sort).wf = true ∧
      Ow w (strsD k.names) (.slice A1 k.names.length c1) f1 ∧ Ow w (.s 3 k.kids.length (k.kids.flatMap Kind.cells)) (.slice A2 k.kids.length c2) f2 ∧ fp = f1 ++ f2 := by
  rw [Kind.cells_eq] at h
  match us, h with
  | [u0, u1, u2], h =>
    simp only [OwC] at h
    obtain ⟨g0, _, h0, ⟨g1, _, h1, ⟨g2, _, h2, rfl, rfl⟩, rfl⟩, rfl⟩ := h
    simp only [Ow, okAtom] at h0
    obtain ⟨rfl, w0, rfl⟩ := h0
    obtain ⟨A1, c1, rfl, _⟩ := h1.slice
    obtain ⟨A2, c2, rfl, _⟩ := h2.slice
    exact ⟨A1, c1, A2, c2, g1, g2, rfl, w0, h1, h2, by simp⟩
  | [], h => exact h.elim
  | [_], h => obtain ⟨_, _, _, h, _⟩ := h; exact h.elim
  | [_, _], h => obtain ⟨_, _, _, ⟨_, _, _, h, _⟩, _⟩ := h; exact h.elim
  | _ :: _ :: _ :: _ :: _, h => obtain ⟨_, _, _, ⟨_, _, _, ⟨_, _, _, h, _⟩, _⟩, _⟩ := h; exact h.elim

def SzKind (k : Kind) : Prop := ∀ (us : List Value) (fp : List Nat) (left : Int) (w : World), OwC w k.cells us fp → Lt fp w.heap.size → 0 ≤ left → left ≤ 1048576 →
  Calls Try.prog 25 #[.agg us.toArray, .int .i64 left] w fun e w' => e = .returned (.int .i64 (szr left k.bulk)) ∧ Below w.heap.size w w'

set_option maxRecDepth 100000 in
theorem szKindS_of (l : List Kind) (ih : ∀ x ∈ l, SzKind x) (A : Option Addr) (n c : Nat) (fp : List Nat) (left : Int) (w : World) (h : Ow w (.s 3 l.length (l.flatMap Kind.cells)) (.slice A n c) fp) (hf : Lt fp w.heap.size) (h0 : 0 ≤ left) (h1 : left ≤ 1048576) :
    Calls Try.prog 45 #[.slice A n c, .int .i64 left] w fun e w' => e = .returned (.int .i64 (szr left (l.length + Kind.bulkS l))) ∧ Below w.heap.size w w' := by
  obtain ⟨rfl, hc, hm⟩ := h.nlen
  unfold maxLen at hm
  go_enter Try.func45, Try.ntmps45
  go_wp2
  · go_ret
    exact ⟨ret_int (by unfold szr; rw [if_neg (by omega)]), Below.refl _ _⟩
  · go_loopw [1, 5] (fun a i wr => (∃ k : Nat, k ≤ l.length ∧ (l.length : Int) + Kind.bulkS (l.take k) ≤ left ∧ a = .int .i64 (left - (l.length + Kind.bulkS (l.take k))) ∧ i = .int .i64 k) ∧ Below w.heap.size w wr) (fun _ i _ => l.length - (intOf i).toNat)
    case atStart => exact ⟨⟨0, Nat.zero_le _, by simp [Kind.bulkS]; omega, by simp [Kind.bulkS], rfl⟩, Below.refl _ _⟩
    case round =>
      obtain ⟨⟨k, hk, hb, rfl, rfl⟩, hbel⟩ := hrel
      by_cases hlt : k < l.length
      · obtain ⟨g, off, us, fi, rfl, hg, hfi, hul, hcs, ho⟩ := (h.below hbel hf).elem Kind.cells_len hlt
        obtain ⟨A1, c1, A2, c2, f1, f2, rfl, w0, o1, o2, rfl⟩ := ho.kind
        have q0 := hcs 0 _ rfl
        have q1 := hcs 1 _ rfl
        have q2 := hcs 2 _ rfl
        have HC := hide (ih _ (List.getElem_mem hlt))
        have HE := hide (Kind.bulkS_snoc l k hlt)
        have hle := Kind.bulkS_le l (k + 1)
        clear o1 o2 hcs
        simp only [Nat.add_zero] at q0
        generalize l[k] = x at *
        generalize Kind.bulkS (l.take k) = b at *
        go_wp2_with fail
        refine (HC.out _ _ _ _ ho (hf.sub hfi |>.mono hbel.size) (by omega) (by omega)).mono ?_
        rintro e w1 ⟨rfl, hb1⟩
        by_cases hx : (x.bulk : Int) ≤ left - (l.length + b)
        · rw [show szr (left - (l.length + b)) x.bulk = left - (l.length + b) - x.bulk from if_pos hx]
          go_wp2
          go_roundw
          case rel => exact ⟨⟨k + 1, by omega, by rw [HE.out]; omega, by rw [HE.out]; go_num, by go_num⟩, hbel.trans (hb1.mono hbel.size)⟩
          case measure => simp [intOf]; omega
        · rw [show szr (left - (l.length + b)) x.bulk = -1 from if_neg hx]
          go_wp2
          go_ret
          exact ⟨ret_int (by unfold szr; rw [if_neg (by have := HE.out; omega)]), hbel.trans (hb1.mono hbel.size)⟩
      · obtain rfl : k = l.length := by omega
        go_wp2
        go_ret
        try rw [List.take_length] at hb
        exact ⟨ret_int (by (try rw [List.take_length]); unfold szr; rw [if_pos (by omega)]), hbel⟩

set_option maxRecDepth 100000 in
theorem szKind_of (k : Kind) (ih : ∀ x ∈ k.kids, SzKind x) : SzKind k := by
  intro us fp left w ho hf h0 h1
  obtain ⟨A1, c1, A2, c2, f1, f2, rfl, w0, o1, o2, rfl⟩ := ho.kind
  have HI := hide ih
  clear ih ho
  go_enter Try.func25, Try.ntmps25
  have hbk := k.bulk_eq
  have HK := hide hbk
  clear hbk
  go_wp2_with fail
  refine (szStringS_any _ _ _ _ _ _ _ (o1.alloc hf.left _) h0 h1).mono ?_
  rintro e w1 ⟨rfl, rfl⟩
  by_cases hx : ((k.names.length : Int) + bulkStr k.names) ≤ left
  · rw [show szr left (k.names.length + bulkStr k.names) = left - (k.names.length + bulkStr k.names) from if_pos hx]
    go_wp2_with fail
    refine (szKindS_of _ HI.out _ _ _ _ _ _ (o2.alloc hf.right _) (hf.right.alloc _) (by omega) (by omega)).mono ?_
    rintro e w1 ⟨rfl, hb1⟩
    by_cases hy : ((k.kids.length : Int) + Kind.bulkS k.kids) ≤ left - (k.names.length + bulkStr k.names)
    · rw [show szr (left - (k.names.length + bulkStr k.names)) (k.kids.length + Kind.bulkS k.kids) = left - (k.names.length + bulkStr k.names) - (k.kids.length + Kind.bulkS k.kids) from if_pos hy]
      go_wp2
      go_ret
      exact ⟨ret_int (by unfold szr; rw [HK.out, if_pos (by omega)]; omega), ((Below.refl _ _).alloc (Nat.le_refl _) _).trans (hb1.mono (by simp))⟩
    · rw [show szr (left - (k.names.length + bulkStr k.names)) (k.kids.length + Kind.bulkS k.kids) = -1 from if_neg hy]
      go_wp2
      go_ret
      exact ⟨ret_int (by unfold szr; rw [HK.out, if_neg (by omega)]), ((Below.refl _ _).alloc (Nat.le_refl _) _).trans (hb1.mono (by simp))⟩
  · rw [show szr left (k.names.length + bulkStr k.names) = -1 from if_neg hx]
    go_wp2
    go_ret
    exact ⟨ret_int (by unfold szr; rw [HK.out, if_neg (by omega)]), (Below.refl _ _).alloc (Nat.le_refl _) _⟩

theorem szKind_any (k : Kind) : SzKind k := Kind.ind szKind_of k

theorem info_implKind : (Try.prog.info? 60).map (fun i => (i.zero, i.size, i.bytes)) = some (some (.agg #[.int .i64 0, .slice none 0 0, .slice none 0 0]), 3, 56) := by kernel_rfl
theorem kinds_snoc (l : List Kind) (k : Nat) (h : k < l.length) : (l.take (k + 1)).flatMap Kind.cells = (l.take k).flatMap Kind.cells ++ l[k].cells := by
  rw [List.take_succ_eq_append_getElem h, List.flatMap_append]
  simp

def ToKind (k : Kind) : Prop := ∀ (us : List Value) (fp : List Nat) (w : World), OwC w k.cells us fp → Lt fp w.heap.size → k.bulk ≤ 1048576 →
  Calls Try.prog 27 #[.agg us.toArray] w fun e w' => ∃ vs fq, e = .returned (.agg vs.toArray) ∧ OwC w' k.cells vs fq ∧ Fr fq w.heap.size w'.heap.size ∧ Below w.heap.size w w'

def ToKindS (l : List Kind) : Prop := ∀ (A : Option Addr) (n c : Nat) (fp : List Nat) (w : World), Ow w (.s 3 l.length (l.flatMap Kind.cells)) (.slice A n c) fp → Lt fp w.heap.size → l.length + Kind.bulkS l ≤ 1048576 →
  Calls Try.prog 48 #[.slice A n c] w fun e w' => ∃ y fq, e = .returned y ∧ Ow w' (.s 3 l.length (l.flatMap Kind.cells)) y fq ∧ Fr fq w.heap.size w'.heap.size ∧ Below w.heap.size w w'

theorem OwC.kind_mk {w : World} {k : Kind} {u1 u2 : Value} {f1 f2 : List Nat} (w0 : (Lit.int .i64 k.sort).wf = true) (h1 : Ow w (strsD k.names) u1 f1) (h2 : Ow w (.s 3 k.kids.length (k.kids.flatMap Kind.cells)) u2 f2) :
    OwC w k.cells [.int .i64 k.sort, u1, u2] (f1 ++ f2) := by
  rw [Kind.cells_eq]
  exact ⟨[], _, ⟨rfl, w0, rfl⟩, ⟨f1, _, h1, ⟨f2, [], h2, rfl, by simp⟩, rfl⟩, rfl⟩

set_option maxRecDepth 100000 in
theorem toKind_of (k : Kind) (ih : ToKindS k.kids) : ToKind k := by
  intro us fp w ho hf hbk
  obtain ⟨A1, c1, A2, c2, f1, f2, rfl, w0, o1, o2, rfl⟩ := ho.kind
  have HI := hide ih
  clear ih ho
  rw [Kind.bulk_eq] at hbk
  go_enter Try.func27, Try.ntmps27
  go_wp2_with fail
  refine (toStringS_any _ _ _ _ _ _ (o1.below (((Below.refl _ _).alloc (Nat.le_refl _) _).alloc (by simp) _ |>.alloc (by simp; omega) _) hf.left) (((hf.left.alloc _).alloc _).alloc _) (by omega)).mono ?_
  rintro e w1 ⟨y1, q1, rfl, hy1, hl1, hb1⟩
  obtain ⟨B1, d1, rfl, _⟩ := hy1.slice
  obtain ⟨hc1, hf1⟩ := bcell hb1
  have hz1 : w.heap.size + 1 + 1 < w1.heap.size := by have := hb1.size; simp at this; omega
  have hz1b : w.heap.size + 1 < w1.heap.size := by omega
  have hz1a : w.heap.size < w1.heap.size := by omega
  have hw1 : Below w.heap.size w w1 := ((((Below.refl _ _).alloc (Nat.le_refl _) _).alloc (by simp) _).alloc (by simp; omega) _).trans (hb1.mono (by simp; omega))
  have HY := hide hy1
  clear hy1
  go_wp2_with fail
  refine (HI.out _ _ _ _ _ (o2.below (hw1.setCell (by simp; omega) _) hf.right) ((hf.right.up hw1).mono (by simp [World.setCell])) (by omega)).mono ?_
  rintro e w2 ⟨y2, q2, rfl, hy2, hl2, hb2⟩
  obtain ⟨B2, d2, rfl, _⟩ := hy2.slice
  obtain ⟨hc2, hf2⟩ := bcell hb2
  have hz2 : w.heap.size + 1 + 1 < w2.heap.size := by have := hb2.size; simp [World.setCell] at this; omega
  have hz2b : w.heap.size + 1 < w2.heap.size := by omega
  have hz2a : w.heap.size < w2.heap.size := by omega
  have hw2 : Below w.heap.size w w2 := (hw1.setCell (p := ⟨w.heap.size + 1 + 1, 1, none⟩) (by simp; omega) _).trans (hb2.mono (by simp [World.setCell]; omega))
  have HY2 := hide hy2
  clear hy2
  go_wp2
  refine bodyPost_ret (v := .agg #[.int .i64 k.sort, .slice B1 k.names.length d1, .slice B2 k.kids.length d2]) (by simp [results, Try.results27, go_sem, hc2, hc1, hz1, hz2, hz1a, hz2a, hz1b, hz2b]) rfl ?_
  have g1 : Fr q1 (w.heap.size + 3) w1.heap.size := hl1.mono (by simp) (Nat.le_refl _)
  have g2 : Fr q2 w1.heap.size w2.heap.size := hl2.mono (by simp [World.setCell]) (Nat.le_refl _)
  have s12 : w1.heap.size ≤ w2.heap.size := by have := hb2.size; simpa [World.setCell] using this
  have r1 : Ow w2 (strsD k.names) (.slice B1 k.names.length d1) q1 :=
    (HY.out.setCell (a := ⟨w.heap.size + 1 + 1, 1, none⟩) (g1.not_mem (.inl (by simp))) _).below hb2 (g1.lt.mono (by simp [World.setCell]))
  refine ⟨[_, _, _], q1 ++ q2, rfl, OwC.kind_mk w0 ?_ ?_, ?_, ?_⟩
  · exact (((r1.setCell (g1.not_mem (.inl (by simp))) _).setCell (g1.not_mem (.inl (by simp))) _).setCell (g1.not_mem (.inl (by simp))) _).setCell (g1.not_mem (.inl (by simp))) _
  · exact (((HY2.out.setCell (g2.not_mem (.inl (by simp; omega))) _).setCell (g2.not_mem (.inl (by simp; omega))) _).setCell (g2.not_mem (.inl (by simp; omega))) _).setCell (g2.not_mem (.inl (by simp; omega))) _
  · exact Fr.app (g1.mono (by omega) (by simp [World.setCell]; omega)) (g2.mono (by omega) (by simp [World.setCell]))
  · exact (((hw2.setCell (by simp; omega) _).setCell (by simp) _).setCell (by simp) _).setCell (by simp) _

def EqKind (k : Kind) : Prop := ∀ (us vs : List Value) (fp fq : List Nat) (w : World), OwC w k.cells us fp → OwC w k.cells vs fq → Lt fp w.heap.size → Lt fq w.heap.size →
  Calls Try.prog 29 #[.agg us.toArray, .agg vs.toArray] w fun e w' => e = .returned (.bool true) ∧ Below w.heap.size w w'

def EqKindS (l : List Kind) : Prop := ∀ (A A' : Option Addr) (n n' c c' : Nat) (fp fq : List Nat) (w : World), Ow w (.s 3 l.length (l.flatMap Kind.cells)) (.slice A n c) fp → Ow w (.s 3 l.length (l.flatMap Kind.cells)) (.slice A' n' c') fq → Lt fp w.heap.size → Lt fq w.heap.size →
  Calls Try.prog 51 #[.slice A n c, .slice A' n' c'] w fun e w' => e = .returned (.bool true) ∧ Below w.heap.size w w'

set_option maxRecDepth 100000 in
theorem eqKind_of (k : Kind) (ih : EqKindS k.kids) : EqKind k := by
  intro us vs fp fq w ho ho' hf hf'
  obtain ⟨A1, c1, A2, c2, f1, f2, rfl, w0, o1, o2, rfl⟩ := ho.kind
  obtain ⟨B1, d1, B2, d2, g1, g2, rfl, _, p1, p2, rfl⟩ := ho'.kind
  have HI := hide ih
  clear ih ho ho'
  go_enter Try.func29, Try.ntmps29
  go_wp2_with fail
  have hw0 : Below w.heap.size w ((w.alloc (.cells #[.int .i64 k.sort, .slice A1 k.names.length c1, .slice A2 k.kids.length c2] 60)).alloc (.cells #[.int .i64 k.sort, .slice B1 k.names.length d1, .slice B2 k.kids.length d2] 60)) := ((Below.refl _ _).alloc (Nat.le_refl _) _).alloc (by simp) _
  refine (eqStringS_same _ _ _ _ _ _ _ _ _ _ (o1.below hw0 hf.left) (p1.below hw0 hf'.left)).mono ?_
  rintro e w1 ⟨rfl, q, rfl⟩
  go_wp2_with fail
  have hw1 := below_drewN hw0 q
  refine (HI.out _ _ _ _ _ _ _ _ _ (o2.below hw1 hf.right) (p2.below hw1 hf'.right) (hf.right.up hw1) (hf'.right.up hw1)).mono ?_
  rintro e w1 ⟨rfl, hb⟩
  go_wp2
  go_ret
  exact ⟨rfl, hw1.trans (hb.mono (by simp; omega))⟩

set_option maxRecDepth 100000 in
theorem eqKindS_of (l : List Kind) (ih : ∀ x ∈ l, EqKind x) : EqKindS l := by
  intro A A' n n' c c' fp fq w h h' hf hf'
  obtain ⟨rfl, hc, hm⟩ := h.nlen
  obtain ⟨rfl, hc', hm'⟩ := h'.nlen
  unfold maxLen at hm hm'
  go_enter Try.func51, Try.ntmps51
  go_wp2
  go_loopw [5] (fun i wr => (∃ k : Nat, k ≤ l.length ∧ i = .int .i64 k) ∧ Below w.heap.size w wr) (fun i _ => l.length - (intOf i).toNat)
  case atStart => exact ⟨⟨0, Nat.zero_le _, rfl⟩, Below.refl _ _⟩
  case round =>
    obtain ⟨⟨k, hk, rfl⟩, hb⟩ := hrel
    by_cases hlt : k < l.length
    · obtain ⟨g, off, vs, fi, rfl, hg, hfi, hvl, hcs, hov⟩ := (h.below hb hf).elem Kind.cells_len hlt
      obtain ⟨g', off', vs', fi', rfl, hg', hfi', hvl', hcs', hov'⟩ := (h'.below hb hf').elem Kind.cells_len hlt
      have hov1 := hov
      have hov1' := hov'
      obtain ⟨A1, c1, A2, c2, f1, f2, rfl, w0, o1, o2, rfl⟩ := hov.kind
      obtain ⟨B1, d1, B2, d2, g1, g2, rfl, _, x1, x2, rfl⟩ := hov'.kind
      have p0 := hcs 0 _ rfl
      have p1 := hcs 1 _ rfl
      have p2 := hcs 2 _ rfl
      have q0 := hcs' 0 _ rfl
      have q1 := hcs' 1 _ rfl
      have q2 := hcs' 2 _ rfl
      simp only [Nat.add_zero] at p0 q0
      have HC := hide (ih _ (List.getElem_mem hlt))
      clear o1 o2 hcs hcs' x1 x2 hov hov'
      generalize l[k] = x at *
      have HO := hide hov1
      have HO' := hide hov1'
      clear hov1 hov1'
      go_wp2_with fail
      go_still_tail 8, (by kernel_rfl)
      change wpList _ _ _ _ _ wr.drew
      go_wp2_with fail
      refine (HC.out _ _ _ _ _ (HO.out.drewN 1) (HO'.out.drewN 1) (hf.sub hfi |>.mono hb.size) (hf'.sub hfi' |>.mono hb.size)).mono ?_
      rintro e w1 ⟨rfl, hb1⟩
      go_wp2
      go_roundw
      case rel => exact ⟨⟨k + 1, by omega, by go_num⟩, (below_drewN hb 1).trans (hb1.mono hb.size)⟩
      case measure => simp [intOf]; omega
    · obtain rfl : k = l.length := by omega
      go_wp2
      go_ret
      exact ⟨rfl, hb⟩

set_option maxRecDepth 100000 in
theorem toKindS_of (l : List Kind) (ih : ∀ x ∈ l, ToKind x) : ToKindS l := by
  intro A n c fp w h hf hn
  obtain ⟨rfl, hc, hm⟩ := h.nlen
  unfold maxLen at hm
  obtain ⟨i0, hi, hz0, hz1, hz2⟩ := info_parts info_implKind
  have hmk := run_make_rowN (P := Try.prog) 58 60 i0 _ Try.underlying58 hi hz0 .i64 .i64 l.length l.length (Nat.le_refl _) (by rw [hz2]; omega) (by omega)
  rw [hz1] at hmk
  clear hi hz0 hz1 hz2 i0
  go_enter Try.func48, Try.ntmps48
  go_wp2
  go_loopw [4] (fun i wr => (∃ k us fq, k ≤ l.length ∧ i = .int .i64 (k : Nat) ∧ OwC wr ((l.take k).flatMap Kind.cells) us fq ∧ Fr fq (w.heap.size + 1) wr.heap.size ∧ us.length = k * 3 ∧ Fill wr w.heap.size 60 us ((l.length - k) * 3)) ∧ Below w.heap.size w wr) (fun i _ => l.length - (intOf i).toNat)
  case atStart => exact ⟨⟨0, [], [], Nat.zero_le _, rfl, by simp [OwC], Fr.nil _ _, rfl, Fill.made _ _ _ _⟩, (Below.refl _ _).alloc (Nat.le_refl _) _⟩
  case round =>
    obtain ⟨⟨k, us, fq, hk, rfl, ho, hfr, hul, hfl⟩, hb⟩ := hrel
    by_cases hlt : k < l.length
    · obtain ⟨g, off, vs, fi, rfl, hg, hfi, hvl, hcs, hov⟩ := (h.below hb hf).elem Kind.cells_len hlt
      have hov' := hov
      obtain ⟨A1, c1, A2, c2, f1, f2, rfl, w0, o1, o2, rfl⟩ := hov.kind
      have p0 := hcs 0 _ rfl
      have p1 := hcs 1 _ rfl
      have p2 := hcs 2 _ rfl
      simp only [Nat.add_zero] at p0
      have HC := hide (ih _ (List.getElem_mem hlt))
      have HS := hide (kinds_snoc l k hlt)
      have HB := hide (Kind.bulkS_snoc l k hlt)
      have hle := Kind.bulkS_le l (k + 1)
      have hble : l[k].bulk ≤ Kind.bulkS l := by have := HB.out; omega
      have HF := hide hfl
      have HO := hide ho
      have HH := hide h
      clear hfl ho h o1 o2 hcs hov
      generalize l[k] = x at *
      go_wp2_with fail
      refine (HC.out _ _ _ hov' (hf.sub hfi |>.mono hb.size) (by omega)).mono ?_
      rintro e w1 ⟨us1, fq1, rfl, ho1, hfr1, hb1⟩
      obtain ⟨B1, d1, B2, d2, g1, g2, rfl, v0, x1, x2, rfl⟩ := ho1.kind
      have HF1 := hide (HF.out.below hb1 HF.out.lt)
      obtain ⟨z0, hz0⟩ := HF1.out.cell (i := k * 3) (by omega) (by omega)
      obtain ⟨z1, hz1⟩ := HF1.out.cell (i := k * 3 + 1) (by omega) (by omega)
      obtain ⟨z2, hz2⟩ := HF1.out.cell (i := k * 3 + 2) (by omega) (by omega)
      have hfz0 := HF1.out.frozen (k * 3)
      have hfz1 := HF1.out.frozen (k * 3 + 1)
      have hfz2 := HF1.out.frozen (k * 3 + 2)
      have HO1 := hide ho1
      clear ho1 x1 x2
      go_wp2
      go_roundw
      case rel =>
        have e3 : (l.length - k) * 3 = (l.length - (k + 1)) * 3 + 1 + 1 + 1 := by omega
        have hF := HF1.out
        rw [e3] at hF
        have hfr0 : Fr (g1 ++ g2) (w.heap.size + 1) w1.heap.size := hfr1.mono (by have := HF.out.lt; omega) (Nat.le_refl _)
        refine ⟨⟨k + 1, us ++ [.int .i64 x.sort] ++ [.slice B1 x.names.length d1] ++ [.slice B2 x.kids.length d2], fq ++ (g1 ++ g2), by omega, by go_num, ?_, ?_, by simp [hul]; omega, ?_⟩, ?_⟩
        · rw [HS.out, List.append_assoc, List.append_assoc]
          refine OwC.append ?_ ?_
          · exact (((HO.out.below hb1 hfr.lt).setCell (hfr.not_mem (.inl (by simp))) _).setCell (hfr.not_mem (.inl (by simp))) _).setCell (hfr.not_mem (.inl (by simp))) _
          · exact (((HO1.out).setCell (hfr0.not_mem (.inl (by simp))) _).setCell (hfr0.not_mem (.inl (by simp))) _).setCell (hfr0.not_mem (.inl (by simp))) _
        · exact Fr.app (hfr.mono (Nat.le_refl _) (by have := hb1.size; simpa [World.setCell] using this)) (hfr0.mono (Nat.le_refl _) (by simp [World.setCell]))
        · exact ((hF.push hul.symm _).push (by simp [hul]) _).push (by simp [hul]) _
        · exact (((hb.trans (hb1.mono hb.size)).setCell (Nat.le_refl _) _).setCell (Nat.le_refl _) _).setCell (Nat.le_refl _) _
      case measure => simp [intOf]; omega
    · obtain rfl : k = l.length := by omega
      have HB := hide hb
      have hfl' := hfl
      rw [Nat.sub_self, Nat.zero_mul] at hfl'
      rw [List.take_length] at ho
      have hd := hide (hfl'.done ho (n := l.length) (k := 3) (flat_len Kind.cells 3 Kind.cells_len l) (by unfold maxLen; omega))
      have hlt' := hfl.lt
      clear hb hfl hfl' ho
      go_wp2
      go_ret
      refine ⟨_, _, rfl, hd.out, ?_, HB.out⟩
      split
      · exact Fr.nil _ _
      · exact (hfr.mono (by omega) (Nat.le_refl _)).cons (Nat.le_refl _) hlt'

theorem toKind_any (k : Kind) : ToKind k := Kind.ind (fun k ih => toKind_of k (toKindS_of _ ih)) k
theorem toKindS_any (l : List Kind) : ToKindS l := toKindS_of l fun x _ => toKind_any x
theorem eqKind_any (k : Kind) : EqKind k := Kind.ind (fun k ih => eqKind_of k (eqKindS_of _ ih)) k
theorem eqKindS_any (l : List Kind) : EqKindS l := eqKindS_of l fun x _ => eqKind_any x
end Go.Proofs.Ytnjbmmjfpbcpaaa
