/-
  Tree: what the laws' own helpers do: the size, a copy, equality. LogPart as data: its cells, its size. LogPlan as data: its cells, its size. When the plan of a log is ok: plain definitions. Kind as data: its cells, its size. Kind: what the laws' own helpers do: the size, a copy, equality. Schemas that are ok: the program's look and the reference's l2Parts answer alike. Schemas that are ok: what the reference's l2Parts answers; the law on KindOk. Schemas: the program's KindOk and the reference's answer alike. The kids of a schema: their sizes, and that they are good.
-/
import Derived.Test.YtnaecdoeldoipaaGreatDoorKDTree
set_option linter.unusedVariables false
set_option linter.unusedSimpArgs false
namespace Go.Proofs.YtnaecdoeldoipaaGreatDoor
open Go.ChangeShapes Go.WideShapes Go.ChangeAt Go.RowKit



end Go.Proofs.YtnaecdoeldoipaaGreatDoor
set_option linter.unusedVariables false
set_option linter.unusedSimpArgs false
namespace Go.Proofs.YtnaecdoeldoipaaGreatDoor
open Go.ChangeShapes Go.WideShapes Go.ChangeAt Go.RowKit

structure LogPart where
  num : Int
  first : Int
  next : Int
  size : Int
def LogPart.cells (x : LogPart) : List D := [.v (.int .i64 x.num), .v (.int .i64 x.first), .v (.int .i64 x.next), .v (.int .i64 x.size)]
theorem LogPart.cells_eq (x : LogPart) : x.cells = [.v (.int .i64 x.num), .v (.int .i64 x.first), .v (.int .i64 x.next), .v (.int .i64 x.size)] := rfl
theorem LogPart.cells_len (x : LogPart) : x.cells.length = 4 := by rw [LogPart.cells_eq]; rfl
def LogPart.bulkL (l : List LogPart) : Nat := l.length
end Go.Proofs.YtnaecdoeldoipaaGreatDoor
set_option linter.unusedVariables false
set_option linter.unusedSimpArgs false
namespace Go.Proofs.YtnaecdoeldoipaaGreatDoor
open Go.ChangeShapes Go.WideShapes Go.ChangeAt Go.RowKit

structure LogPlan where
  parts : List LogPart
  open_ : Int
  first : Int
def LogPlan.cells (x : LogPlan) : List D := [.s 4 x.parts.length (x.parts.flatMap LogPart.cells), .v (.int .i64 x.open_), .v (.int .i64 x.first)]
theorem LogPlan.cells_eq (x : LogPlan) : x.cells = [.s 4 x.parts.length (x.parts.flatMap LogPart.cells), .v (.int .i64 x.open_), .v (.int .i64 x.first)] := rfl
def LogPlan.bulk (x : LogPlan) : Nat := LogPart.bulkL x.parts
theorem LogPlan.bulk_eq (x : LogPlan) : x.bulk = LogPart.bulkL x.parts := rfl
def LogPlan.bulkS : List LogPlan → Nat
  | [] => 0
  | x :: r => x.bulk + LogPlan.bulkS r
theorem LogPlan.cells_len (x : LogPlan) : x.cells.length = 3 := by rw [LogPlan.cells_eq]; rfl
def LogPlan.bulkL (l : List LogPlan) : Nat := l.length + LogPlan.bulkS l
theorem LogPlan.bulkS_append (a b : List LogPlan) : LogPlan.bulkS (a ++ b) = LogPlan.bulkS a + LogPlan.bulkS b := by
  induction a with
  | nil => simp [LogPlan.bulkS]
  | cons x a ih => simp [LogPlan.bulkS, ih]; omega
theorem LogPlan.bulkS_snoc (l : List LogPlan) (k : Nat) (h : k < l.length) : LogPlan.bulkS (l.take (k + 1)) = LogPlan.bulkS (l.take k) + l[k].bulk := by
  rw [List.take_succ_eq_append_getElem h, LogPlan.bulkS_append]
  simp [LogPlan.bulkS]
theorem LogPlan.bulkS_le (l : List LogPlan) (k : Nat) : LogPlan.bulkS (l.take k) ≤ LogPlan.bulkS l := by
  conv => rhs; rw [← List.take_append_drop k l, LogPlan.bulkS_append]
  omega
theorem LogPlan.bulk_at (l : List LogPlan) (k : Nat) (h : k < l.length) : l[k].bulk ≤ LogPlan.bulkS l := by
  have h1 := LogPlan.bulkS_snoc l k h
  have h2 := LogPlan.bulkS_le l (k + 1)
  omega
end Go.Proofs.YtnaecdoeldoipaaGreatDoor
set_option linter.unusedVariables false
set_option linter.unusedSimpArgs false
namespace Go.Proofs.YtnaecdoeldoipaaGreatDoor
open Go.ChangeShapes Go.WideShapes Go.ChangeAt Go.RowKit

/-- the position that follows the first i parts -/
def LogPlan.after (p : LogPlan) (i : Nat) : Int := if i = 0 then 1 else ((p.parts[i - 1]?).map LogPart.next).getD 1
theorem LogPlan.after_zero (p : LogPlan) : p.after 0 = 1 := rfl
theorem LogPlan.after_succ (p : LogPlan) (i : Nat) (h : i < p.parts.length) : p.after (i + 1) = p.parts[i].next := by
  unfold LogPlan.after
  simp [List.getElem?_eq_getElem h]
def LogPlan.fine (p : LogPlan) (i : Nat) (h : i < p.parts.length) : Prop :=
  (1 ≤ p.parts[i].num ∧ p.parts[i].num ≤ 999999) ∧ p.parts[i].num ≠ p.open_ ∧ p.parts[i].first = p.after i ∧ (p.parts[i].first ≤ p.parts[i].next ∧ p.parts[i].next ≤ 1000000) ∧
    (0 ≤ p.parts[i].size ∧ p.parts[i].size ≤ 20000) ∧ ∀ j (hj : j < i), (p.parts[j]'(by omega)).num ≠ p.parts[i].num
def LogPlan.ok (p : LogPlan) : Prop := p.parts.length ≤ 40 ∧ (1 ≤ p.open_ ∧ p.open_ ≤ 999999) ∧ (∀ i (h : i < p.parts.length), p.fine i h) ∧ p.first = p.after p.parts.length
end Go.Proofs.YtnaecdoeldoipaaGreatDoor
set_option linter.unusedVariables false
set_option linter.unusedSimpArgs false
namespace Go.Proofs.YtnaecdoeldoipaaGreatDoor
open Go.ChangeShapes Go.WideShapes Go.ChangeAt Go.RowKit

inductive Kind where
  | mk (sort : Int) (names : List ByteArray) (kids : List Kind)
def Kind.sort : Kind → Int | .mk x _ _ => x
def Kind.names : Kind → List ByteArray | .mk _ x _ => x
def Kind.kids : Kind → List Kind | .mk _ _ x => x
mutual
def Kind.cells : Kind → List D
  | .mk sort names kids => [.v (.int .i64 sort)] ++ [.s 1 names.length (names.flatMap strC)] ++ [.s 3 kids.length (Kind.cellsS kids)]
def Kind.cellsS : List Kind → List D
  | [] => []
  | x :: r => x.cells ++ Kind.cellsS r
end
mutual
def Kind.bulk : Kind → Nat
  | .mk sort names kids => bulkStrs names + kids.length + Kind.bulkS kids
def Kind.bulkS : List Kind → Nat
  | [] => 0
  | x :: r => x.bulk + Kind.bulkS r
end
theorem Kind.cellsS_flat : ∀ (l : List Kind), Kind.cellsS l = l.flatMap Kind.cells
  | [] => rfl
  | x :: r => by simp [Kind.cellsS, Kind.cellsS_flat r]
theorem Kind.cells_eq (x : Kind) : x.cells = [.v (.int .i64 x.sort), .s 1 x.names.length (x.names.flatMap strC), .s 3 x.kids.length (x.kids.flatMap Kind.cells)] := by
  cases x; simp [Kind.cells, Kind.sort, Kind.names, Kind.kids, Kind.cellsS_flat]
theorem Kind.bulk_eq (x : Kind) : x.bulk = bulkStrs x.names + x.kids.length + Kind.bulkS x.kids := by cases x; rfl
theorem Kind.ind {P : Kind → Prop} (h : ∀ k, (∀ x ∈ k.kids, P x) → P k) : ∀ k, P k
  | .mk sort names kids => h _ fun x hx => Kind.ind h x
termination_by k => SizeOf.sizeOf k
decreasing_by
  simp only [Kind.kids] at hx
  have := List.sizeOf_lt_of_mem hx
  simp only [Kind.mk.sizeOf_spec]
  omega
theorem Kind.cells_len (x : Kind) : x.cells.length = 3 := by rw [Kind.cells_eq]; rfl
def Kind.bulkL (l : List Kind) : Nat := l.length + Kind.bulkS l
theorem Kind.bulkS_append (a b : List Kind) : Kind.bulkS (a ++ b) = Kind.bulkS a + Kind.bulkS b := by
  induction a with
  | nil => simp [Kind.bulkS]
  | cons x a ih => simp [Kind.bulkS, ih]; omega
theorem Kind.bulkS_snoc (l : List Kind) (k : Nat) (h : k < l.length) : Kind.bulkS (l.take (k + 1)) = Kind.bulkS (l.take k) + l[k].bulk := by
  rw [List.take_succ_eq_append_getElem h, Kind.bulkS_append]
  simp [Kind.bulkS]
theorem Kind.bulkS_le (l : List Kind) (k : Nat) : Kind.bulkS (l.take k) ≤ Kind.bulkS l := by
  conv => rhs; rw [← List.take_append_drop k l, Kind.bulkS_append]
  omega
theorem Kind.bulk_at (l : List Kind) (k : Nat) (h : k < l.length) : l[k].bulk ≤ Kind.bulkS l := by
  have h1 := Kind.bulkS_snoc l k h
  have h2 := Kind.bulkS_le l (k + 1)
  omega
theorem OwC.oKind {w : World} {x : Kind} {us : List Value} {fp : List Nat} (h : OwC w x.cells us fp) :
    ∃ A1 c1 A2 c2 f1 f2, us = [.int .i64 x.sort, .slice A1 x.names.length c1, .slice A2 x.kids.length c2] ∧ (Lit.int .i64 x.sort).wf = true ∧ Ow w (.s 1 x.names.length (x.names.flatMap strC)) (.slice A1 x.names.length c1) f1 ∧ Ow w (.s 3 x.kids.length (x.kids.flatMap Kind.cells)) (.slice A2 x.kids.length c2) f2 ∧ fp = f1 ++ (f2) := by
  rw [Kind.cells_eq] at h
  match us, OwC.length _ h with
  | [u0, u1, u2], _ =>
    simp only [OwC] at h
    obtain ⟨g0, _, h0, ⟨g1, _, h1, ⟨g2, _, h2, rfl, rfl⟩, rfl⟩, rfl⟩ := h
    simp only [Ow, okAtom] at h0
    obtain ⟨rfl, w0, rfl⟩ := h0
    obtain ⟨A1, c1, rfl, _⟩ := h1.slice
    obtain ⟨A2, c2, rfl, _⟩ := h2.slice
    exact ⟨A1, c1, A2, c2, g1, g2, rfl, w0, h1, h2, by simp⟩
theorem OwC.mKind {w : World} {x : Kind} {v1 v2 : Value} {f1 f2 : List Nat} (w0 : (Lit.int .i64 x.sort).wf = true) (h1 : Ow w (.s 1 x.names.length (x.names.flatMap strC)) v1 f1) (h2 : Ow w (.s 3 x.kids.length (x.kids.flatMap Kind.cells)) v2 f2) :
    OwC w x.cells [.int .i64 x.sort, v1, v2] (f1 ++ (f2)) := by
  have h : OwC w x.cells [.int .i64 x.sort, v1, v2] ([] ++ (f1 ++ (f2 ++ ([])))) := by
    rw [Kind.cells_eq]
    exact ⟨_, _, ⟨rfl, w0, rfl⟩, ⟨_, _, h1, ⟨_, _, h2, rfl, rfl⟩, rfl⟩, rfl⟩
  simpa using h
end Go.Proofs.YtnaecdoeldoipaaGreatDoor
set_option linter.unusedVariables false
set_option linter.unusedSimpArgs false
namespace Go.Proofs.YtnaecdoeldoipaaGreatDoor
open Go.ChangeShapes Go.WideShapes Go.ChangeAt Go.RowKit




end Go.Proofs.YtnaecdoeldoipaaGreatDoor
set_option linter.unusedVariables false
set_option linter.unusedSimpArgs false
namespace Go.Proofs.YtnaecdoeldoipaaGreatDoor
open Go.ChangeShapes Go.WideShapes Go.ChangeAt Go.RowKit

def Kind.shape (k : Kind) : Prop :=
  ((k.sort = 1 ∨ k.sort = 2 ∨ k.sort = 3) ∧ k.names.length = 0 ∧ k.kids.length = 0) ∨ ((k.sort = 4 ∨ k.sort = 6) ∧ k.names.length = 0 ∧ k.kids.length = 1) ∨
    (k.sort = 5 ∧ NamesOk k.names ∧ k.names.length = k.kids.length)

theorem Kind.shape_iff (k : Kind) : k.shape ↔ ((k.sort = 1 ∨ k.sort = 2 ∨ k.sort = 3) ∧ k.names.length = 0 ∧ k.kids.length = 0) ∨ ((k.sort = 4 ∨ k.sort = 6) ∧ k.names.length = 0 ∧ k.kids.length = 1) ∨
    (k.sort = 5 ∧ NamesOk k.names ∧ k.names.length = k.kids.length) := Iff.rfl

set_option maxRecDepth 100000 in
theorem kindShapeOk_any (k : Kind) (us : List Value) (fp : List Nat) (w : World) (h : OwC w k.cells us fp) (hf : Lt fp w.heap.size) (hbk : k.bulk ≤ 1048576) :
    Calls Tryz.prog 140 #[.agg us.toArray] w fun e w' => e = .returned (.bool (tb k.shape)) ∧ Below w.heap.size w w' := by
  obtain ⟨A1, c1, A2, c2, f1, f2, rfl, w0, o1, o2, rfl⟩ := h.oKind
  rw [Kind.bulk_eq] at hbk; unfold bulkStrs at hbk
  have ho1 := o1.alloc hf.left (.cells #[.int .i64 k.sort, .slice A1 k.names.length c1, .slice A2 k.kids.length c2] 38)
  have hw : Below w.heap.size w (w.alloc (.cells #[.int .i64 k.sort, .slice A1 k.names.length c1, .slice A2 k.kids.length c2] 38)) := (Below.refl _ _).alloc (Nat.le_refl _) _
  clear h o1 o2 hf
  have HS := hide k.shape_iff
  generalize k.sort = s at *
  generalize k.kids.length = kl at *
  by_cases e5 : s = 5
  · subst e5
    by_cases hn : NamesOk k.names
    · by_cases hl : k.names.length = kl
      · have hb := beq_t (s := (k.names.length : Int)) (c := (kl : Int)) (by omega)
        have HT := hide (tb_true (HS.out.2 (.inr (.inr ⟨rfl, hn, hl⟩))))
        clear hl
        go_enter Tryz.func140, Tryz.ntmps140
        go_wp2_with fail
        refine (areNames_any _ _ _ _ _ _ ho1).mono ?_
        rintro e w' ⟨rfl, rfl⟩
        rw [tb_true hn]
        go_wp2
        go_ret
        exact ⟨ret_bool HT.out.symm, hw⟩
      · have hb := bne_f (s := (k.names.length : Int)) (c := (kl : Int)) (by omega)
        have HT := hide (tb_false (p := k.shape) (fun h => by have := HS.out.1 h; omega))
        go_enter Tryz.func140, Tryz.ntmps140
        go_wp2_with fail
        refine (areNames_any _ _ _ _ _ _ ho1).mono ?_
        rintro e w' ⟨rfl, rfl⟩
        rw [tb_true hn]
        go_wp2
        go_ret
        exact ⟨ret_bool HT.out.symm, hw⟩
    · have HT := hide (tb_false (p := k.shape) (fun h => by rcases HS.out.1 h with h | h | h <;> first | omega | exact hn h.2.1))
      go_enter Tryz.func140, Tryz.ntmps140
      go_wp2_with fail
      refine (areNames_any _ _ _ _ _ _ ho1).mono ?_
      rintro e w' ⟨rfl, rfl⟩
      rw [tb_false hn]
      go_wp2
      go_ret
      exact ⟨ret_bool HT.out.symm, hw⟩
  · by_cases e46 : s = 4 ∨ s = 6
    · by_cases hn : k.names.length = 0
      · have hbn := beq_t (s := (k.names.length : Int)) (c := 0) (by omega)
        by_cases hk : kl = 1
        · have HT := hide (tb_true (p := k.shape) (HS.out.2 (by omega)))
          subst hk
          clear hn
          rcases e46 with rfl | rfl
          all_goals
            go_enter Tryz.func140, Tryz.ntmps140
            go_wp2
            go_ret
            exact ⟨ret_bool HT.out.symm, hw⟩
        · have hb := bne_f (s := (kl : Int)) (c := 1) (by omega)
          have HT := hide (tb_false (p := k.shape) (fun h => by have := HS.out.1 h; omega))
          clear hn
          rcases e46 with rfl | rfl
          all_goals
            go_enter Tryz.func140, Tryz.ntmps140
            go_wp2
            go_ret
            exact ⟨ret_bool HT.out.symm, hw⟩
      · have hb := bne_f (s := (k.names.length : Int)) (c := 0) (by omega)
        have HT := hide (tb_false (p := k.shape) (fun h => by have := HS.out.1 h; omega))
        rcases e46 with rfl | rfl
        all_goals
          go_enter Tryz.func140, Tryz.ntmps140
          go_wp2
          go_ret
          exact ⟨ret_bool HT.out.symm, hw⟩
    · by_cases e123 : s = 1 ∨ s = 2 ∨ s = 3
      · by_cases hn : k.names.length = 0 ∧ kl = 0
        · have hbn := beq_t (s := (k.names.length : Int) + (kl : Int)) (c := 0) (by omega)
          have HT := hide (tb_true (p := k.shape) (HS.out.2 (by omega)))
          clear hn
          rcases e123 with rfl | rfl | rfl
          all_goals
            go_enter Tryz.func140, Tryz.ntmps140
            go_wp2
            go_ret
            exact ⟨ret_bool HT.out.symm, hw⟩
        · have hb := bne_f (s := (k.names.length : Int) + (kl : Int)) (c := 0) (by omega)
          have HT := hide (tb_false (p := k.shape) (fun h => by have := HS.out.1 h; omega))
          rcases e123 with rfl | rfl | rfl
          all_goals
            go_enter Tryz.func140, Tryz.ntmps140
            go_wp2
            go_ret
            exact ⟨ret_bool HT.out.symm, hw⟩
      · have b1 := bne_f (s := s) (c := 1) (by omega)
        have b2 := bne_f (s := s) (c := 2) (by omega)
        have b3 := bne_f (s := s) (c := 3) (by omega)
        have b4 := bne_f (s := s) (c := 4) (by omega)
        have b5 := bne_f (s := s) (c := 5) (by omega)
        have b6 := bne_f (s := s) (c := 6) (by omega)
        have HT := hide (tb_false (p := k.shape) (fun h => by have := HS.out.1 h; omega))
        go_enter Tryz.func140, Tryz.ntmps140
        go_wp2
        go_ret
        exact ⟨ret_bool HT.out.symm, hw⟩

mutual
def Kind.good : Kind → Nat → Prop
  | .mk s ns ks, lv => lv ≤ 6 ∧ (Kind.mk s ns ks).shape ∧ Kind.goodS ks (lv + 1)
def Kind.goodS : List Kind → Nat → Prop
  | [], _ => True
  | k :: r, lv => k.good lv ∧ Kind.goodS r lv
end
mutual
def Kind.parts : Kind → Nat
  | .mk _ _ ks => 1 + Kind.partsS ks
def Kind.partsS : List Kind → Nat
  | [] => 0
  | k :: r => k.parts + Kind.partsS r
end
theorem Kind.good_iff (k : Kind) (lv : Nat) : k.good lv ↔ lv ≤ 6 ∧ k.shape ∧ Kind.goodS k.kids (lv + 1) := by cases k; rfl
theorem Kind.parts_eq (k : Kind) : k.parts = 1 + Kind.partsS k.kids := by cases k; rfl
theorem Kind.goodS_append (a b : List Kind) (lv : Nat) : Kind.goodS (a ++ b) lv ↔ Kind.goodS a lv ∧ Kind.goodS b lv := by
  induction a with
  | nil => simp [Kind.goodS]
  | cons x a ih => simp [Kind.goodS, ih, and_assoc]
theorem Kind.goodS_snoc (l : List Kind) (lv k : Nat) (h : k < l.length) : Kind.goodS (l.take (k + 1)) lv ↔ Kind.goodS (l.take k) lv ∧ l[k].good lv := by
  rw [List.take_succ_eq_append_getElem h, Kind.goodS_append]
  simp [Kind.goodS]
theorem Kind.goodS_at {l : List Kind} {lv k : Nat} (hg : Kind.goodS l lv) (h : k < l.length) : l[k].good lv := by
  rw [← List.take_append_drop (k + 1) l, Kind.goodS_append, Kind.goodS_snoc l lv k h] at hg
  exact hg.1.2
theorem Kind.partsS_append (a b : List Kind) : Kind.partsS (a ++ b) = Kind.partsS a + Kind.partsS b := by
  induction a with
  | nil => simp [Kind.partsS]
  | cons x a ih => simp [Kind.partsS, ih]; omega
theorem Kind.partsS_snoc (l : List Kind) (k : Nat) (h : k < l.length) : Kind.partsS (l.take (k + 1)) = Kind.partsS (l.take k) + l[k].parts := by
  rw [List.take_succ_eq_append_getElem h, Kind.partsS_append]
  simp [Kind.partsS]
theorem Kind.partsS_le (l : List Kind) (k : Nat) : Kind.partsS (l.take k) ≤ Kind.partsS l := by
  conv => rhs; rw [← List.take_append_drop k l, Kind.partsS_append]
  omega

/-- so many parts are left -/
def Kind.fits (k : Kind) (lv : Nat) (p : Int) : Prop := k.good lv ∧ p + k.parts ≤ 40

def LookKind (k : Kind) : Prop := ∀ (us : List Value) (fp : List Nat) (lv : Nat) (z p : Int) (pb : Nat) (w : World), z = lv → OwC w k.cells us fp → Lt fp w.heap.size → k.bulk ≤ 1048576 → 1 ≤ lv → lv ≤ 7 → 0 ≤ p → p ≤ 40 →
  w.cell? ⟨pb, 0, none⟩ = some (.int .i64 p) → w.frozen? ⟨pb, 0, none⟩ = false → pb ∉ fp →
  Calls Tryz.prog 112 #[.agg us.toArray, .int .i64 z, .pointer (some ⟨pb, 0, none⟩)] w fun e w' => e = .returned (.bool (tb (k.fits lv p))) ∧
    w'.frozen? ⟨pb, 0, none⟩ = false ∧ (k.fits lv p → w'.cell? ⟨pb, 0, none⟩ = some (.int .i64 (p + k.parts))) ∧ w.grownBy w' (some pb)

set_option maxRecDepth 100000 in
theorem lookKind_of (k : Kind) (ih : ∀ x ∈ k.kids, LookKind x) : LookKind k := by
  intro us fp lv z p pb w hz ho hf hbk hl0 hl1 hp0 hp1 hcell hfz hpb
  obtain ⟨A1, c1, A2, c2, f1, f2, rfl, w0, o1, o2, rfl⟩ := ho.oKind
  have hpl := cell_lt hcell
  subst hz
  have hpn : pb < w.heap.size := hpl
  have hne1 : pb ≠ w.heap.size := by omega
  have g0 : w.grownBy (w.setCell ⟨pb, 0, none⟩ (.int .i64 (p + 1))) (some pb) := only_setCell (World.grownBy.refl w _) (.inl rfl) _
  have g1 := only_alloc g0 (.cells #[.int .i64 k.sort, .slice A1 k.names.length c1, .slice A2 k.kids.length c2] 38)
  by_cases h6 : lv ≤ 6
  · by_cases hp : p + 1 ≤ 40
    · have hkb := k.bulk_eq; unfold bulkStrs at hkb
      have hkl : k.kids.length ≤ 1048576 := by omega
      have HB := hide hkb
      clear hkb
      have hcw1 := ho.grown g1 hf hpb
      go_enter Tryz.func112, Tryz.ntmps112
      go_wp2_with fail
      refine (kindShapeOk_any k _ _ _ hcw1 ((hf.mono (by simp [World.setCell]))) hbk).mono ?_
      rintro e w1 ⟨rfl, hb1⟩
      have g2 := only_below g1 hb1
      obtain ⟨hc1, hf1⟩ := bcell hb1
      have z1 : w.heap.size < w1.heap.size := by have := hb1.size; simp [World.setCell] at this; omega
      have z1b : pb < w1.heap.size := by omega
      by_cases hs : k.shape
      · rw [tb_true hs]
        have HO2 := hide o2
        have HI := hide ih
        clear o1 o2 ho hcw1 ih
        have hx1 : w1.cell? ⟨pb, 0, none⟩ = some (.int .i64 (p + 1)) := by
          rw [hb1.cell (p := ⟨pb, 0, none⟩) (by simp [World.setCell]; omega), World.cell?_alloc_lt _ _ _ (by simp [World.setCell]; omega)]
          exact World.cell?_setCell_same w _ _ hcell
        have hx2 : w1.frozen? ⟨pb, 0, none⟩ = false := by rw [hf1 pb 0 (by simp [World.setCell]; omega)]; go_simp
        go_wp2
        go_loopw [30] (fun i wr => ∃ j : Nat, j ≤ k.kids.length ∧ i = .int .i64 j ∧ Kind.goodS (k.kids.take j) (lv + 1) ∧ p + 1 + Kind.partsS (k.kids.take j) ≤ 40 ∧ wr.cell? ⟨pb, 0, none⟩ = some (.int .i64 (p + 1 + Kind.partsS (k.kids.take j))) ∧ wr.frozen? ⟨pb, 0, none⟩ = false ∧ w.grownBy wr (some pb)) (fun i _ => k.kids.length - (intOf i).toNat)
        case atStart => exact ⟨0, Nat.zero_le _, rfl, by simp [Kind.goodS], by simp [Kind.partsS]; omega, by simpa [Kind.partsS] using hx1, hx2, g2⟩
        case round =>
          obtain ⟨j, hj, rfl, hgood, hle, hcj, hfj, hgr⟩ := hrel
          have HG := hide hgood
          have HR := hide hgr
          clear hgood hgr
          by_cases hlt : j < k.kids.length
          · obtain ⟨g, off, vs, fi, rfl, hg, hfi, hvl, hcs, hov⟩ := (HO2.out.grown HR.out hf.right (fun h => hpb (List.mem_append_right _ h))).elem Kind.cells_len hlt
            have hov' := hov
            obtain ⟨B1, d1, B2, d2, q1, q2, rfl, v0, x1, x2, rfl⟩ := hov.oKind
            have p0 := hcs 0 _ rfl
            have p1 := hcs 1 _ rfl
            have p2 := hcs 2 _ rfl
            simp only [Nat.add_zero] at p0
            have hfq : Lt (q1 ++ q2) wr.heap.size := ((hf.right).mono HR.out.size).sub hfi
            have hpq : pb ∉ q1 ++ q2 := fun h => hpb (List.mem_append_right _ (hfi h))
            have HC := hide (HI.out _ (List.getElem_mem hlt))
            have hsn := hide (Kind.goodS_snoc k.kids (lv + 1) j hlt)
            have hps := hide (Kind.partsS_snoc k.kids j hlt)
            have hpl' := Kind.partsS_le k.kids (j + 1)
            have hbl : k.kids[j].bulk ≤ 1048576 := by
              have h1 := Kind.bulkS_snoc k.kids j hlt
              have h2 := Kind.bulkS_le k.kids (j + 1)
              have h3 := HB.out
              omega
            have HO := hide (hov'.alloc hfq (.cells #[.int .i64 k.kids[j].sort, .slice B1 k.kids[j].names.length d1, .slice B2 k.kids[j].kids.length d2] 38))
            have hat := hide (fun (h : Kind.goodS k.kids (lv + 1)) => Kind.goodS_at h hlt)
            have hplr := cell_lt hcj
            clear hov hov' x1 x2 hcs
            generalize k.kids[j] = x at *
            generalize Kind.partsS (k.kids.take j) = m at *
            go_wp2_with fail
            refine (HC.out _ _ (lv + 1) _ (p + 1 + m) pb _ (by omega) HO.out (hfq.alloc _) hbl (by omega) (by omega) (by omega) (by omega) (by go_simp) (by go_simp) hpq).mono ?_
            rintro e w2 ⟨rfl, hz2, hcell2, hgr2⟩
            have hw2 := only_trans (only_alloc HR.out _) hgr2
            by_cases hx : x.fits (lv + 1) (p + 1 + m)
            · rw [tb_true hx]
              have hc2 := hcell2 hx
              have HX := hide hx
              clear hcell2 hx
              go_wp2
              go_roundw
              case rel => exact ⟨j + 1, by omega, by go_num, hsn.out.2 ⟨HG.out, HX.out.1⟩, by rw [hps.out]; have := HX.out.2; omega, by rw [hps.out, hc2]; go_num, hz2, hw2⟩
              case measure => simp [intOf]; omega
            · rw [tb_false hx]
              have HT := hide (tb_false (p := k.fits lv p) (fun h => hx ⟨hat.out ((Kind.good_iff _ _).1 h.1).2.2, by have h1 := h.2; have h2 := k.parts_eq; have h3 := hps.out; omega⟩))
              clear hx
              go_wp2
              go_ret
              exact ⟨ret_bool HT.out.symm, hz2, fun h => absurd (tb_true h) (by rw [HT.out]; simp), hw2⟩
          · obtain rfl : j = k.kids.length := by omega
            rw [List.take_length] at *
            have hfit : k.fits lv p := ⟨(Kind.good_iff _ _).2 ⟨h6, hs, HG.out⟩, by have := k.parts_eq; omega⟩
            have HT := hide (tb_true hfit)
            have HP := hide k.parts_eq
            clear hfit
            go_wp2
            go_ret
            exact ⟨ret_bool HT.out.symm, hfj, fun _ => by rw [hcj, HP.out]; go_num, HR.out⟩
      · rw [tb_false hs]
        have HT := hide (tb_false (p := k.fits lv p) (fun h => hs ((Kind.good_iff _ _).1 h.1).2.1))
        have hx2 : w1.frozen? ⟨pb, 0, none⟩ = false := by rw [hf1 pb 0 (by simp [World.setCell]; omega)]; go_simp
        go_wp2
        go_ret
        exact ⟨ret_bool HT.out.symm, hx2, fun h => absurd (tb_true h) (by rw [HT.out]; simp), g2⟩
    · have HT := hide (tb_false (p := k.fits lv p) (fun h => by have h1 := h.2; have h2 := k.parts_eq; omega))
      go_enter Tryz.func112, Tryz.ntmps112
      go_wp2
      go_ret
      exact ⟨ret_bool HT.out.symm, by go_simp, fun h => absurd (tb_true h) (by rw [HT.out]; simp), g1⟩
  · have HT := hide (tb_false (p := k.fits lv p) (fun h => by have h1 := ((Kind.good_iff _ _).1 h.1).1; omega))
    go_enter Tryz.func112, Tryz.ntmps112
    go_wp2
    go_ret
    exact ⟨ret_bool HT.out.symm, by go_simp, fun h => absurd (tb_true h) (by rw [HT.out]; simp), g1⟩

theorem lookKind_any (k : Kind) : LookKind k := Kind.ind lookKind_of k

end Go.Proofs.YtnaecdoeldoipaaGreatDoor
set_option linter.unusedVariables false
set_option linter.unusedSimpArgs false
namespace Go.Proofs.YtnaecdoeldoipaaGreatDoor
open Go.ChangeShapes Go.WideShapes Go.ChangeAt Go.RowKit

noncomputable def Kind.partsR (k : Kind) (lv : Nat) : Int := if tb (k.fits lv 0) = true then k.parts else -1
theorem Kind.partsR_yes {k : Kind} {lv : Nat} (h : k.fits lv 0) : k.partsR lv = k.parts := by unfold Kind.partsR; rw [tb_true h, if_pos rfl]
theorem Kind.partsR_no {k : Kind} {lv : Nat} (h : ¬ k.fits lv 0) : k.partsR lv = -1 := by unfold Kind.partsR; rw [tb_false h]; rfl

def PartsKind (k : Kind) : Prop := ∀ (us : List Value) (fp : List Nat) (lv : Nat) (z : Int) (w : World), z = lv → OwC w k.cells us fp → Lt fp w.heap.size → k.bulk ≤ 1048576 → 1 ≤ lv → lv ≤ 7 →
  Calls Tryz.prog 111 #[.agg us.toArray, .int .i64 z] w fun e w' => e = .returned (.int .i64 (k.partsR lv)) ∧ Below w.heap.size w w'

set_option maxRecDepth 100000 in
set_option maxHeartbeats 400000 in
theorem partsKind_five (k : Kind) (ih : ∀ x ∈ k.kids, PartsKind x) (hs : k.shape) (h5 : k.sort = 5) (hn : NamesOk k.names) (hl : k.names.length = k.kids.length) (fp : List Nat) (lv : Nat) (w : World) (A1 : Option Addr) (c1 : Nat) (A2 : Option Addr) (c2 : Nat) (f1 f2 : List Nat)
    (o1 : Ow w (.s 1 k.names.length (k.names.flatMap strC)) (.slice A1 k.names.length c1) f1) (o2 : Ow w (.s 3 k.kids.length (k.kids.flatMap Kind.cells)) (.slice A2 k.kids.length c2) f2) (hf : Lt (f1 ++ f2) w.heap.size) (hbk : k.bulk ≤ 1048576) (hl0 : 1 ≤ lv) (h6 : lv ≤ 6) :
    Calls Tryz.prog 111 #[.agg #[.int .i64 k.sort, .slice A1 k.names.length c1, .slice A2 k.kids.length c2], .int .i64 lv] w fun e w' => e = .returned (.int .i64 (k.partsR lv)) ∧ Below w.heap.size w w' := by
  have hkb := k.bulk_eq; unfold bulkStrs at hkb
  have hkl : k.kids.length ≤ 1048576 := by omega
  have hnl : k.names.length ≤ 1048576 := by omega
  have HB := hide hkb
  clear hkb
  have hw1 : Below w.heap.size w (w.alloc (.cells #[.int .i64 k.sort, .slice A1 k.names.length c1, .slice A2 k.kids.length c2] 38)) := (Below.refl _ _).alloc (Nat.le_refl _) _
  have ho1 := hide (o1.below hw1 hf.left)
  have HF := hide (fun (h1 : Kind.goodS k.kids (lv + 1)) (h2 : 1 + (Kind.partsS k.kids : Int) ≤ 40) => Kind.partsR_yes (k := k) (lv := lv) ⟨(Kind.good_iff _ _).2 ⟨h6, hs, h1⟩, by have := k.parts_eq; omega⟩)
  have HP := hide k.parts_eq
  have HN := hide (fun (h : ¬ (Kind.goodS k.kids (lv + 1) ∧ 1 + (Kind.partsS k.kids : Int) ≤ 40)) => Kind.partsR_no (k := k) (lv := lv) (fun h' => h ⟨((Kind.good_iff _ _).1 h'.1).2.2, by have := h'.2; have := k.parts_eq; omega⟩))
  have HO2 := hide o2
  have HI := hide ih
  clear o1 o2 ih hs
  generalize k.sort = s at *
  subst h5
  have hq : ((k.names.length : Int) != (k.kids.length : Int)) = false := by rw [bne_eq_false_iff_eq]; omega
  clear hl
  go_enter Tryz.func111, Tryz.ntmps111
  go_wp2_with fail
  refine (l6In_any _ _ _ _).mono ?_
  rintro e w' ⟨rfl, rfl⟩
  rw [tb_true (by omega)]
  go_wp2_with fail
  refine (l1Rise_any _ _ _ _ _ _ ho1.out).mono ?_
  rintro e w' ⟨rfl, q, rfl⟩
  rw [tb_true hn]
  go_wp2
  have hb0 : ((w.alloc (.cells #[.int .i64 5, .slice A1 k.names.length c1, .slice A2 k.kids.length c2] 38)).drewN q).cell? ⟨w.heap.size, 2, none⟩ = some (.slice A2 k.kids.length c2) := by go_simp
  have hw2 : Below w.heap.size w ((w.alloc (.cells #[.int .i64 5, .slice A1 k.names.length c1, .slice A2 k.kids.length c2] 38)).drewN q) := below_drewN hw1 q
  have hsz : w.heap.size < ((w.alloc (.cells #[.int .i64 5, .slice A1 k.names.length c1, .slice A2 k.kids.length c2] 38)).drewN q).heap.size := by simp
  go_loopw [6, 7] (fun a i wr => ∃ j : Nat, j ≤ k.kids.length ∧ i = .int .i64 j ∧ a = .int .i64 (1 + (Kind.partsS (k.kids.take j) : Int)) ∧ Kind.goodS (k.kids.take j) (lv + 1) ∧ 1 + (Kind.partsS (k.kids.take j) : Int) ≤ 40 ∧ wr.cell? ⟨w.heap.size, 2, none⟩ = some (.slice A2 k.kids.length c2) ∧ w.heap.size < wr.heap.size ∧ Below w.heap.size w wr) (fun _ i _ => k.kids.length - (intOf i).toNat)
  case atStart => exact ⟨0, Nat.zero_le _, rfl, by simp [Kind.partsS], by simp [Kind.goodS], by simp [Kind.partsS], hb0, hsz, hw2⟩
  case round =>
    obtain ⟨j, hj, rfl, rfl, hgood, hle, hcj, hszj, hbj⟩ := hrel
    have HG := hide hgood
    have HR := hide hbj
    clear hgood hbj hw2 hb0 hsz
    by_cases hlt : j < k.kids.length
    · obtain ⟨g, off, vs, fi, rfl, hg, hfi, hvl, hcs, hov⟩ := (HO2.out.below HR.out hf.right).elem Kind.cells_len hlt
      have hov' := hov
      obtain ⟨B1, d1, B2, d2, q1, q2, rfl, v0, x1, x2, rfl⟩ := hov.oKind
      have p0 := hcs 0 _ rfl
      have p1 := hcs 1 _ rfl
      have p2 := hcs 2 _ rfl
      simp only [Nat.add_zero] at p0
      have hfq : Lt (q1 ++ q2) wr.heap.size := ((hf.right).up HR.out).sub hfi
      have HC := hide (HI.out _ (List.getElem_mem hlt))
      have hsn := hide (Kind.goodS_snoc k.kids (lv + 1) j hlt)
      have hps := hide (Kind.partsS_snoc k.kids j hlt)
      have hpl' := Kind.partsS_le k.kids (j + 1)
      have hbl : k.kids[j].bulk ≤ 1048576 := by
        have h1 := Kind.bulkS_snoc k.kids j hlt
        have h2 := Kind.bulkS_le k.kids (j + 1)
        have h3 := HB.out
        omega
      have HO := hide hov'
      have hat := hide (fun (h : Kind.goodS k.kids (lv + 1)) => Kind.goodS_at h hlt)
      clear hov hov' x1 x2 hcs
      generalize k.kids[j] = x at *
      generalize Kind.partsS (k.kids.take j) = m at *
      go_wp2_with fail
      refine (HC.out _ _ (lv + 1) _ _ (by omega) HO.out hfq hbl (by omega) (by omega)).mono ?_
      rintro e w2 ⟨rfl, hb2⟩
      have hw3 := HR.out.trans (hb2.mono HR.out.size)
      have hsz3 : w.heap.size < w2.heap.size := Nat.lt_of_lt_of_le hszj hb2.size
      have hcj2 : w2.cell? ⟨w.heap.size, 2, none⟩ = some (.slice (some ⟨g, off, none⟩) k.kids.length c2) := (hb2.cell (p := ⟨w.heap.size, 2, none⟩) hszj).trans hcj
      by_cases hx : x.fits (lv + 1) 0
      · rw [Kind.partsR_yes hx]
        have hx2 : (x.parts : Int) ≤ 40 := by have := hx.2; omega
        have HX := hide hx
        clear hx hcj
        by_cases hsum : 1 + (m : Int) + x.parts ≤ 40
        · go_wp2
          go_roundw
          case rel => exact ⟨j + 1, by omega, by go_num, by rw [hps.out]; go_num, hsn.out.2 ⟨HG.out, HX.out.1⟩, by rw [hps.out]; omega, hcj2, hsz3, hw3⟩
          case measure => simp [intOf]; omega
        · have HT := hide (HN.out (fun h => hsum (by have := h.2; have := hps.out; omega)))
          go_wp2
          go_ret
          exact ⟨ret_int HT.out.symm, hw3⟩
      · rw [Kind.partsR_no hx]
        have HT := hide (HN.out (fun h => hx ⟨hat.out h.1, by have := h.2; have := hps.out; omega⟩))
        clear hx
        go_wp2
        go_ret
        exact ⟨ret_int HT.out.symm, hw3⟩
    · obtain rfl : j = k.kids.length := by omega
      rw [List.take_length] at *
      have HT := hide (HF.out HG.out hle)
      go_wp2
      go_ret
      exact ⟨ret_int (by rw [HT.out, HP.out]; go_num), HR.out⟩

set_option maxRecDepth 100000 in
theorem l2Parts_leaf (s : Int) (lv : Nat) (w : World) (A1 : Option Addr) (c1 : Nat) (A2 : Option Addr) (c2 : Nat) (h1 : 1 ≤ s) (h4 : s < 4) (hl0 : 1 ≤ lv) (h6 : lv ≤ 6) :
    Calls Tryz.prog 111 #[.agg #[.int .i64 s, .slice A1 0 c1, .slice A2 0 c2], .int .i64 lv] w fun e w' => e = .returned (.int .i64 1) ∧ Below w.heap.size w w' := by
  have b4 := bne_f (s := s) (c := 4) (by omega)
  have b5 := bne_f (s := s) (c := 5) (by omega)
  have b6 := bne_f (s := s) (c := 6) (by omega)
  have b5' : (s != 5) = true := by rw [bne_iff_ne]; omega
  go_enter Tryz.func111, Tryz.ntmps111
  go_wp2_with fail
  refine (l6In_any _ _ _ _).mono ?_
  rintro e w' ⟨rfl, rfl⟩
  rw [tb_true (by omega)]
  go_wp2
  go_loop [6, 7] (fun a i => a = .int .i64 1 ∧ i = .int .i64 0) (fun _ _ => 0)
  case atStart => exact ⟨rfl, rfl⟩
  case round =>
    obtain ⟨rfl, rfl⟩ := hrel
    go_wp2
    go_ret
    exact ⟨rfl, (Below.refl _ _).alloc (Nat.le_refl _) _⟩

set_option maxRecDepth 100000 in
set_option maxHeartbeats 400000 in
theorem partsKind_one (k : Kind) (ih : ∀ x ∈ k.kids, PartsKind x) (hs : k.shape) (s : Int) (hss : k.sort = s) (h46 : s = 4 ∨ s = 6) (hl : k.kids.length = 1) (fp : List Nat) (lv : Nat) (w : World) (A1 : Option Addr) (c1 : Nat) (A2 : Option Addr) (c2 : Nat) (f1 f2 : List Nat)
    (o2 : Ow w (.s 3 k.kids.length (k.kids.flatMap Kind.cells)) (.slice A2 k.kids.length c2) f2) (hf : Lt (f1 ++ f2) w.heap.size) (hbk : k.bulk ≤ 1048576) (hl0 : 1 ≤ lv) (h6 : lv ≤ 6) :
    Calls Tryz.prog 111 #[.agg #[.int .i64 s, .slice A1 0 c1, .slice A2 k.kids.length c2], .int .i64 lv] w fun e w' => e = .returned (.int .i64 (k.partsR lv)) ∧ Below w.heap.size w w' := by
  have hkb := k.bulk_eq; unfold bulkStrs at hkb
  have hkl : k.kids.length ≤ 1048576 := by omega
  have hnl : k.names.length ≤ 1048576 := by omega
  have HB := hide hkb
  clear hkb
  have hw1 : Below w.heap.size w (w.alloc (.cells #[.int .i64 s, .slice A1 0 c1, .slice A2 k.kids.length c2] 38)) := (Below.refl _ _).alloc (Nat.le_refl _) _
  have HF := hide (fun (h1 : Kind.goodS k.kids (lv + 1)) (h2 : 1 + (Kind.partsS k.kids : Int) ≤ 40) => Kind.partsR_yes (k := k) (lv := lv) ⟨(Kind.good_iff _ _).2 ⟨h6, hs, h1⟩, by have := k.parts_eq; omega⟩)
  have HP := hide k.parts_eq
  have HN := hide (fun (h : ¬ (Kind.goodS k.kids (lv + 1) ∧ 1 + (Kind.partsS k.kids : Int) ≤ 40)) => Kind.partsR_no (k := k) (lv := lv) (fun h' => h ⟨((Kind.good_iff _ _).1 h'.1).2.2, by have := h'.2; have := k.parts_eq; omega⟩))
  have HO2 := hide o2
  have HI := hide ih
  clear o2 ih hs
  have hq : ((k.kids.length : Int) != 1) = false := by rw [bne_eq_false_iff_eq]; omega
  clear hl hss
  rcases h46 with rfl | rfl
  · go_enter Tryz.func111, Tryz.ntmps111
    go_wp2_with fail
    refine (l6In_any _ _ _ _).mono ?_
    rintro e w' ⟨rfl, rfl⟩
    rw [tb_true (by omega)]
    go_wp2
    have hb0 : (w.alloc (.cells #[.int .i64 4, .slice A1 0 c1, .slice A2 k.kids.length c2] 38)).cell? ⟨w.heap.size, 2, none⟩ = some (.slice A2 k.kids.length c2) := by go_simp
    have hw2 : Below w.heap.size w (w.alloc (.cells #[.int .i64 4, .slice A1 0 c1, .slice A2 k.kids.length c2] 38)) := hw1
    have hsz : w.heap.size < (w.alloc (.cells #[.int .i64 4, .slice A1 0 c1, .slice A2 k.kids.length c2] 38)).heap.size := by simp
    go_loopw [6, 7] (fun a i wr => ∃ j : Nat, j ≤ k.kids.length ∧ i = .int .i64 j ∧ a = .int .i64 (1 + (Kind.partsS (k.kids.take j) : Int)) ∧ Kind.goodS (k.kids.take j) (lv + 1) ∧ 1 + (Kind.partsS (k.kids.take j) : Int) ≤ 40 ∧ wr.cell? ⟨w.heap.size, 2, none⟩ = some (.slice A2 k.kids.length c2) ∧ w.heap.size < wr.heap.size ∧ Below w.heap.size w wr) (fun _ i _ => k.kids.length - (intOf i).toNat)
    case atStart => exact ⟨0, Nat.zero_le _, rfl, by simp [Kind.partsS], by simp [Kind.goodS], by simp [Kind.partsS], hb0, hsz, hw2⟩
    case round =>
      obtain ⟨j, hj, rfl, rfl, hgood, hle, hcj, hszj, hbj⟩ := hrel
      have HG := hide hgood
      have HR := hide hbj
      clear hgood hbj hw2 hb0 hsz
      by_cases hlt : j < k.kids.length
      · obtain ⟨g, off, vs, fi, rfl, hg, hfi, hvl, hcs, hov⟩ := (HO2.out.below HR.out hf.right).elem Kind.cells_len hlt
        have hov' := hov
        obtain ⟨B1, d1, B2, d2, q1, q2, rfl, v0, x1, x2, rfl⟩ := hov.oKind
        have p0 := hcs 0 _ rfl
        have p1 := hcs 1 _ rfl
        have p2 := hcs 2 _ rfl
        simp only [Nat.add_zero] at p0
        have hfq : Lt (q1 ++ q2) wr.heap.size := ((hf.right).up HR.out).sub hfi
        have HC := hide (HI.out _ (List.getElem_mem hlt))
        have hsn := hide (Kind.goodS_snoc k.kids (lv + 1) j hlt)
        have hps := hide (Kind.partsS_snoc k.kids j hlt)
        have hpl' := Kind.partsS_le k.kids (j + 1)
        have hbl : k.kids[j].bulk ≤ 1048576 := by
          have h1 := Kind.bulkS_snoc k.kids j hlt
          have h2 := Kind.bulkS_le k.kids (j + 1)
          have h3 := HB.out
          omega
        have HO := hide hov'
        have hat := hide (fun (h : Kind.goodS k.kids (lv + 1)) => Kind.goodS_at h hlt)
        clear hov hov' x1 x2 hcs
        generalize k.kids[j] = x at *
        generalize Kind.partsS (k.kids.take j) = m at *
        go_wp2_with fail
        refine (HC.out _ _ (lv + 1) _ _ (by omega) HO.out hfq hbl (by omega) (by omega)).mono ?_
        rintro e w2 ⟨rfl, hb2⟩
        have hw3 := HR.out.trans (hb2.mono HR.out.size)
        have hsz3 : w.heap.size < w2.heap.size := Nat.lt_of_lt_of_le hszj hb2.size
        have hcj2 : w2.cell? ⟨w.heap.size, 2, none⟩ = some (.slice (some ⟨g, off, none⟩) k.kids.length c2) := (hb2.cell (p := ⟨w.heap.size, 2, none⟩) hszj).trans hcj
        by_cases hx : x.fits (lv + 1) 0
        · rw [Kind.partsR_yes hx]
          have hx2 : (x.parts : Int) ≤ 40 := by have := hx.2; omega
          have HX := hide hx
          clear hx hcj
          by_cases hsum : 1 + (m : Int) + x.parts ≤ 40
          · go_wp2
            go_roundw
            case rel => exact ⟨j + 1, by omega, by go_num, by rw [hps.out]; go_num, hsn.out.2 ⟨HG.out, HX.out.1⟩, by rw [hps.out]; omega, hcj2, hsz3, hw3⟩
            case measure => simp [intOf]; omega
          · have HT := hide (HN.out (fun h => hsum (by have := h.2; have := hps.out; omega)))
            go_wp2
            go_ret
            exact ⟨ret_int HT.out.symm, hw3⟩
        · rw [Kind.partsR_no hx]
          have HT := hide (HN.out (fun h => hx ⟨hat.out h.1, by have := h.2; have := hps.out; omega⟩))
          clear hx
          go_wp2
          go_ret
          exact ⟨ret_int HT.out.symm, hw3⟩
      · obtain rfl : j = k.kids.length := by omega
        rw [List.take_length] at *
        have HT := hide (HF.out HG.out hle)
        go_wp2
        go_ret
        exact ⟨ret_int (by rw [HT.out, HP.out]; go_num), HR.out⟩
  · go_enter Tryz.func111, Tryz.ntmps111
    go_wp2_with fail
    refine (l6In_any _ _ _ _).mono ?_
    rintro e w' ⟨rfl, rfl⟩
    rw [tb_true (by omega)]
    go_wp2
    have hb0 : (w.alloc (.cells #[.int .i64 6, .slice A1 0 c1, .slice A2 k.kids.length c2] 38)).cell? ⟨w.heap.size, 2, none⟩ = some (.slice A2 k.kids.length c2) := by go_simp
    have hw2 : Below w.heap.size w (w.alloc (.cells #[.int .i64 6, .slice A1 0 c1, .slice A2 k.kids.length c2] 38)) := hw1
    have hsz : w.heap.size < (w.alloc (.cells #[.int .i64 6, .slice A1 0 c1, .slice A2 k.kids.length c2] 38)).heap.size := by simp
    go_loopw [6, 7] (fun a i wr => ∃ j : Nat, j ≤ k.kids.length ∧ i = .int .i64 j ∧ a = .int .i64 (1 + (Kind.partsS (k.kids.take j) : Int)) ∧ Kind.goodS (k.kids.take j) (lv + 1) ∧ 1 + (Kind.partsS (k.kids.take j) : Int) ≤ 40 ∧ wr.cell? ⟨w.heap.size, 2, none⟩ = some (.slice A2 k.kids.length c2) ∧ w.heap.size < wr.heap.size ∧ Below w.heap.size w wr) (fun _ i _ => k.kids.length - (intOf i).toNat)
    case atStart => exact ⟨0, Nat.zero_le _, rfl, by simp [Kind.partsS], by simp [Kind.goodS], by simp [Kind.partsS], hb0, hsz, hw2⟩
    case round =>
      obtain ⟨j, hj, rfl, rfl, hgood, hle, hcj, hszj, hbj⟩ := hrel
      have HG := hide hgood
      have HR := hide hbj
      clear hgood hbj hw2 hb0 hsz
      by_cases hlt : j < k.kids.length
      · obtain ⟨g, off, vs, fi, rfl, hg, hfi, hvl, hcs, hov⟩ := (HO2.out.below HR.out hf.right).elem Kind.cells_len hlt
        have hov' := hov
        obtain ⟨B1, d1, B2, d2, q1, q2, rfl, v0, x1, x2, rfl⟩ := hov.oKind
        have p0 := hcs 0 _ rfl
        have p1 := hcs 1 _ rfl
        have p2 := hcs 2 _ rfl
        simp only [Nat.add_zero] at p0
        have hfq : Lt (q1 ++ q2) wr.heap.size := ((hf.right).up HR.out).sub hfi
        have HC := hide (HI.out _ (List.getElem_mem hlt))
        have hsn := hide (Kind.goodS_snoc k.kids (lv + 1) j hlt)
        have hps := hide (Kind.partsS_snoc k.kids j hlt)
        have hpl' := Kind.partsS_le k.kids (j + 1)
        have hbl : k.kids[j].bulk ≤ 1048576 := by
          have h1 := Kind.bulkS_snoc k.kids j hlt
          have h2 := Kind.bulkS_le k.kids (j + 1)
          have h3 := HB.out
          omega
        have HO := hide hov'
        have hat := hide (fun (h : Kind.goodS k.kids (lv + 1)) => Kind.goodS_at h hlt)
        clear hov hov' x1 x2 hcs
        generalize k.kids[j] = x at *
        generalize Kind.partsS (k.kids.take j) = m at *
        go_wp2_with fail
        refine (HC.out _ _ (lv + 1) _ _ (by omega) HO.out hfq hbl (by omega) (by omega)).mono ?_
        rintro e w2 ⟨rfl, hb2⟩
        have hw3 := HR.out.trans (hb2.mono HR.out.size)
        have hsz3 : w.heap.size < w2.heap.size := Nat.lt_of_lt_of_le hszj hb2.size
        have hcj2 : w2.cell? ⟨w.heap.size, 2, none⟩ = some (.slice (some ⟨g, off, none⟩) k.kids.length c2) := (hb2.cell (p := ⟨w.heap.size, 2, none⟩) hszj).trans hcj
        by_cases hx : x.fits (lv + 1) 0
        · rw [Kind.partsR_yes hx]
          have hx2 : (x.parts : Int) ≤ 40 := by have := hx.2; omega
          have HX := hide hx
          clear hx hcj
          by_cases hsum : 1 + (m : Int) + x.parts ≤ 40
          · go_wp2
            go_roundw
            case rel => exact ⟨j + 1, by omega, by go_num, by rw [hps.out]; go_num, hsn.out.2 ⟨HG.out, HX.out.1⟩, by rw [hps.out]; omega, hcj2, hsz3, hw3⟩
            case measure => simp [intOf]; omega
          · have HT := hide (HN.out (fun h => hsum (by have := h.2; have := hps.out; omega)))
            go_wp2
            go_ret
            exact ⟨ret_int HT.out.symm, hw3⟩
        · rw [Kind.partsR_no hx]
          have HT := hide (HN.out (fun h => hx ⟨hat.out h.1, by have := h.2; have := hps.out; omega⟩))
          clear hx
          go_wp2
          go_ret
          exact ⟨ret_int HT.out.symm, hw3⟩
      · obtain rfl : j = k.kids.length := by omega
        rw [List.take_length] at *
        have HT := hide (HF.out HG.out hle)
        go_wp2
        go_ret
        exact ⟨ret_int (by rw [HT.out, HP.out]; go_num), HR.out⟩

set_option maxRecDepth 100000 in
set_option maxHeartbeats 400000 in
theorem l2Parts_bad (s : Int) (ns : List ByteArray) (kl : Nat) (f1 : List Nat) (lv : Nat) (w : World) (A1 : Option Addr) (c1 : Nat) (A2 : Option Addr) (c2 : Nat) (hl0 : 1 ≤ lv) (h6 : lv ≤ 6) (hns : ns.length ≤ 1048576) (hkl : kl ≤ 1048576)
    (o1 : Ow w (.s 1 ns.length (ns.flatMap strC)) (.slice A1 ns.length c1) f1) (hf : Lt f1 w.heap.size)
    (hs : ¬ (((s = 1 ∨ s = 2 ∨ s = 3) ∧ ns.length = 0 ∧ kl = 0) ∨ ((s = 4 ∨ s = 6) ∧ ns.length = 0 ∧ kl = 1) ∨ (s = 5 ∧ NamesOk ns ∧ ns.length = kl))) :
    Calls Tryz.prog 111 #[.agg #[.int .i64 s, .slice A1 ns.length c1, .slice A2 kl c2], .int .i64 lv] w fun e w' => e = .returned (.int .i64 (-1)) ∧ Below w.heap.size w w' := by
  have hw1 : Below w.heap.size w (w.alloc (.cells #[.int .i64 s, .slice A1 ns.length c1, .slice A2 kl c2] 38)) := (Below.refl _ _).alloc (Nat.le_refl _) _
  have ho1 := hide (o1.below hw1 hf)
  clear o1
  by_cases h16 : 1 ≤ s ∧ s ≤ 6
  · by_cases h5 : s = 5
    · subst h5
      by_cases hl : ns.length = kl
      · have hn : ¬ NamesOk ns := fun h => hs (.inr (.inr ⟨rfl, h, hl⟩))
        have hq : ((ns.length : Int) != (kl : Int)) = false := by rw [bne_eq_false_iff_eq]; omega
        clear hl hs
        go_enter Tryz.func111, Tryz.ntmps111
        go_wp2_with fail
        refine (l6In_any _ _ _ _).mono ?_
        rintro e w' ⟨rfl, rfl⟩
        rw [tb_true (by omega)]
        go_wp2_with fail
        refine (l1Rise_any _ _ _ _ _ _ ho1.out).mono ?_
        rintro e w' ⟨rfl, q, rfl⟩
        rw [tb_false hn]
        go_wp2
        go_ret
        exact ⟨rfl, below_drewN hw1 q⟩
      · have hq : ((ns.length : Int) != (kl : Int)) = true := by rw [bne_iff_ne]; omega
        clear hl hs
        go_enter Tryz.func111, Tryz.ntmps111
        go_wp2_with fail
        refine (l6In_any _ _ _ _).mono ?_
        rintro e w' ⟨rfl, rfl⟩
        rw [tb_true (by omega)]
        go_wp2
        go_ret
        exact ⟨rfl, hw1⟩
    · have b5 := bne_f h5
      have b5' : (s != 5) = true := by rw [bne_iff_ne]; omega
      by_cases hn : ns.length = 0
      · have hk : (s < 4 ∧ kl ≠ 0) ∨ ((s = 4 ∨ s = 6) ∧ kl ≠ 1) := by omega
        rw [hn] at hw1 ⊢
        clear hs ho1 hn
        rcases hk with ⟨h4, hk⟩ | ⟨h46, hk⟩
        · have hk0 : (0 : Int) < (kl : Int) := by omega
          go_enter Tryz.func111, Tryz.ntmps111
          go_wp2_with fail
          refine (l6In_any _ _ _ _).mono ?_
          rintro e w' ⟨rfl, rfl⟩
          rw [tb_true (by omega)]
          go_wp2
          go_ret
          exact ⟨rfl, hw1⟩
        · have hq : ((kl : Int) != 1) = true := by rw [bne_iff_ne]; omega
          rcases h46 with rfl | rfl
          all_goals
            go_enter Tryz.func111, Tryz.ntmps111
            go_wp2_with fail
            refine (l6In_any _ _ _ _).mono ?_
            rintro e w' ⟨rfl, rfl⟩
            rw [tb_true (by omega)]
            go_wp2
            go_ret
            exact ⟨rfl, hw1⟩
      · have hn1 : (0 : Int) < (ns.length : Int) := by omega
        have hn2 : ns ≠ [] := fun h => hn (by rw [h]; rfl)
        clear hs
        go_enter Tryz.func111, Tryz.ntmps111
        go_wp2_with fail
        refine (l6In_any _ _ _ _).mono ?_
        rintro e w' ⟨rfl, rfl⟩
        rw [tb_true (by omega)]
        go_wp2
        go_ret
        exact ⟨rfl, hw1⟩
  · clear hs
    go_enter Tryz.func111, Tryz.ntmps111
    go_wp2_with fail
    refine (l6In_any _ _ _ _).mono ?_
    rintro e w' ⟨rfl, rfl⟩
    rw [tb_false h16]
    go_wp2
    go_ret
    exact ⟨rfl, hw1⟩


set_option maxRecDepth 100000 in
theorem partsKind_of (k : Kind) (ih : ∀ x ∈ k.kids, PartsKind x) : PartsKind k := by
  intro us fp lv z w hz ho hf hbk hl0 hl1
  obtain ⟨A1, c1, A2, c2, f1, f2, rfl, w0, o1, o2, rfl⟩ := ho.oKind
  subst hz
  have hkb := k.bulk_eq; unfold bulkStrs at hkb
  by_cases h6 : lv ≤ 6
  · by_cases hs : k.shape
    · rcases k.shape_iff.1 hs with ⟨h1, h2, h3⟩ | ⟨h1, h2, h3⟩ | ⟨h1, h2, h3⟩
      · have e1 : k.kids = [] := List.eq_nil_of_length_eq_zero h3
        have hp : k.partsR lv = 1 := by
          have hp1 : k.parts = 1 := by rw [Kind.parts_eq, e1]; rfl
          rw [Kind.partsR_yes ⟨(Kind.good_iff _ _).2 ⟨h6, hs, by rw [e1]; trivial⟩, by rw [hp1]; decide⟩, hp1]
          rfl
        rw [hp, h2, h3]
        exact l2Parts_leaf _ _ _ _ _ _ _ (by omega) (by omega) hl0 h6
      · have := partsKind_one k ih hs k.sort rfl h1 h3 [] lv w A1 c1 A2 c2 f1 f2 o2 hf hbk hl0 h6
        rw [h2]
        exact this
      · exact partsKind_five k ih hs h1 h2 h3 [] lv w A1 c1 A2 c2 f1 f2 o1 o2 hf hbk hl0 h6
    · rw [Kind.partsR_no (fun h => hs ((Kind.good_iff _ _).1 h.1).2.1)]
      exact l2Parts_bad k.sort k.names k.kids.length f1 lv w A1 c1 A2 c2 hl0 h6 (by omega) (by omega) o1 hf.left (fun h => hs (k.shape_iff.2 h))
  · rw [Kind.partsR_no (fun h => h6 ((Kind.good_iff _ _).1 h.1).1)]
    clear ih ho
    go_enter Tryz.func111, Tryz.ntmps111
    go_wp2
    go_ret
    exact ⟨rfl, (Below.refl _ _).alloc (Nat.le_refl _) _⟩

theorem partsKind_any (k : Kind) : PartsKind k := Kind.ind partsKind_of k
end Go.Proofs.YtnaecdoeldoipaaGreatDoor
set_option linter.unusedVariables false
set_option linter.unusedSimpArgs false
namespace Go.Proofs.YtnaecdoeldoipaaGreatDoor
open Go.ChangeShapes Go.WideShapes Go.ChangeAt Go.RowKit

def Kind.ok (k : Kind) : Prop := k.fits 1 0

set_option maxRecDepth 100000 in
theorem implKindOk_any (k : Kind) (us : List Value) (fp : List Nat) (w : World) (ho : OwC w k.cells us fp) (hf : Lt fp w.heap.size) (hbk : k.bulk ≤ 1048576) :
    Calls Tryz.prog 60 #[.agg us.toArray] w fun e w' => e = .returned (.bool (tb k.ok)) ∧ Below w.heap.size w w' := by
  have ho' := ho
  obtain ⟨A1, c1, A2, c2, f1, f2, rfl, w0, o1, o2, rfl⟩ := ho.oKind
  have hw1 : Below w.heap.size w ((w.alloc (.cells #[.int .i64 k.sort, .slice A1 k.names.length c1, .slice A2 k.kids.length c2] 38)).alloc (.cells #[.int .i64 0] 3)) := ((Below.refl _ _).alloc (Nat.le_refl _) _).alloc (by simp) _
  have HO := hide (ho'.below hw1 hf)
  have hf2 := (hf.mono hw1.size)
  have hnm : w.heap.size + 1 ∉ f1 ++ f2 := hf.not_mem (by omega)
  clear ho ho' o1 o2
  go_enter Tryz.func60, Tryz.ntmps60
  go_wp2_with fail
  refine (lookKind_any k _ _ 1 _ 0 _ _ (by omega) HO.out hf2 hbk (by omega) (by omega) (by omega) (by omega) (by go_simp) (by go_simp) hnm).mono ?_
  rintro e w2 ⟨rfl, _, _, hg⟩
  have hb : Below w.heap.size w w2 := ⟨hg.os.trans hw1.os, hg.tape.trans hw1.tape, hg.output.trans hw1.output, Nat.le_trans hw1.size hg.size, fun i hi => (hg.block i (by simp; omega) (fun e => by injection e with e; omega)).trans (hw1.block i hi)⟩
  go_wp2
  go_ret
  exact ⟨rfl, hb⟩

set_option maxRecDepth 100000 in
theorem specKindOk_any (k : Kind) (us : List Value) (fp : List Nat) (w : World) (ho : OwC w k.cells us fp) (hf : Lt fp w.heap.size) (hbk : k.bulk ≤ 1048576) :
    Calls Tryz.prog 58 #[.agg us.toArray] w fun e w' => e = .returned (.bool (tb k.ok)) ∧ Below w.heap.size w w' := by
  have ho' := ho
  obtain ⟨A1, c1, A2, c2, f1, f2, rfl, w0, o1, o2, rfl⟩ := ho.oKind
  have hw1 : Below w.heap.size w (w.alloc (.cells #[.int .i64 k.sort, .slice A1 k.names.length c1, .slice A2 k.kids.length c2] 38)) := (Below.refl _ _).alloc (Nat.le_refl _) _
  have HO := hide (ho'.below hw1 hf)
  have hf2 := (hf.mono hw1.size)
  clear ho ho' o1 o2
  go_enter Tryz.func58, Tryz.ntmps58
  go_wp2_with fail
  refine (partsKind_any k _ _ 1 _ _ (by omega) HO.out hf2 hbk (by omega) (by omega)).mono ?_
  rintro e w2 ⟨rfl, hb⟩
  have hb' := hw1.trans (hb.mono hw1.size)
  by_cases h : k.ok
  · rw [Kind.partsR_yes h]
    have HT := hide (tb_true h)
    have hp := k.parts_eq
    have h1 : (0 : Int) < k.parts := by omega
    have h2 : (k.parts : Int) ≤ 40 := by have := h.2; omega
    clear hp h
    go_wp2
    go_ret
    exact ⟨ret_bool (by rw [HT.out]; simpa using h1), hb'⟩
  · rw [Kind.partsR_no h]
    have HT := hide (tb_false h)
    clear h
    go_wp2
    go_ret
    exact ⟨ret_bool HT.out.symm, hb'⟩

end Go.Proofs.YtnaecdoeldoipaaGreatDoor
set_option linter.unusedVariables false
set_option linter.unusedSimpArgs false
namespace Go.Proofs.YtnaecdoeldoipaaGreatDoor
open Go.ChangeShapes Go.WideShapes Go.ChangeAt Go.RowKit

theorem Kind.kid_bulk {k : Kind} {i : Nat} (h : i < k.kids.length) : k.kids[i].bulk ≤ k.bulk := by
  have h1 := Kind.bulkS_snoc k.kids i h
  have h2 := Kind.bulkS_le k.kids (i + 1)
  have h3 := k.bulk_eq
  omega
theorem Kind.kid_good {k : Kind} {lv i : Nat} (hg : k.good lv) (h : i < k.kids.length) : k.kids[i].good (lv + 1) := Kind.goodS_at ((Kind.good_iff _ _).1 hg).2.2 h
end Go.Proofs.YtnaecdoeldoipaaGreatDoor
