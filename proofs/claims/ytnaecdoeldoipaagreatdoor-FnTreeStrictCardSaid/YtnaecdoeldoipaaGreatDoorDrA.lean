/-
  What a call keeps: small lemmas that many walks share. Kind as data: its cells, its size. Kind: what the laws' own helpers do: the size, a copy, equality. Schemas that are ok: the program's look and the reference's l2Parts answer alike. Schemas that are ok: what the reference's l2Parts answers; the law on KindOk. Schemas: the program's KindOk and the reference's answer alike. The draws of the reference: a reader of a code, and its picks. The draws of the reference: texts. Schemas in memory and their size: what the draws want of the schema's reader, without the reader. The draws of the reference: schemas. The draws of the reference: schemas that are ok, mostly. The draws of the reference: how much a tree of a schema holds, and how many picks it costs.
-/
import Derived.Test.YtnaecdoeldoipaaGreatDoorTwo
import Derived.Test.YtnaecdoeldoipaaGreatDoorStr
import Derived.Test.YtnaecdoeldoipaaGreatDoorName
import Derived.Test.YtnaecdoeldoipaaGreatDoorByt
import Derived.Deep.RegionHeld3
import Derived.StillTailTactics
import Derived.BigQuiet
import Derived.Test.YtnaecdoeldoipaaGreatDoorDecS
import Derived.Test.YtnaecdoeldoipaaGreatDoorApp
import Derived.Test.YtnaecdoeldoipaaGreatDoorTrL
import Derived.Deep.RegionLaw
import Derived.Deep.CutRange
import Derived.Deep.DeepCutAuto
import Derived.Test.YtnaecdoeldoipaaGreatDoorTrK
set_option linter.unusedVariables false
set_option linter.unusedSimpArgs false
namespace Go.Proofs.YtnaecdoeldoipaaGreatDoor
open Go.ChangeShapes Go.WideShapes Go.ChangeAt Go.RowKit

theorem only_low {a w w' : World} {row : Option Nat} {B : Nat} (h : a.grownBy w row) (hb : Below B w w') (hB : a.heap.size ≤ B) : a.grownBy w' row :=
  ⟨hb.os.trans h.os, hb.tape.trans h.tape, hb.output.trans h.output, Nat.le_trans h.size hb.size, fun i hi hr => (hb.block i (Nat.lt_of_lt_of_le hi hB)).trans (h.block i hi hr)⟩
section
variable {α β : Type} {w w1 : World} {b B : Nat} {T : TypeId} {mk : Value → Value → List Value} {e1 : TypeId} {k1 : Nat} {f1 : α → List D} {v1 : Value} {l1 : List α} {us1 : List Value} {fi1 : List Nat}
    {e2 : TypeId} {k2 : Nat} {f2 : β → List D} {v2 : Value} {l2 : List β} {us2 : List Value} {fi2 : List Nat}
theorem Two.far (h : Two w b B T mk e1 k1 f1 v1 l1 us1 fi1 e2 k2 f2 v2 l2 us2 fi2) {g : Nat} (hg : w.grownBy w1 (some g)) (hgb : g < b) : Two w1 b B T mk e1 k1 f1 v1 l1 us1 fi1 e2 k2 f2 v2 l2 us2 fi2 :=
  ⟨h.box.grown hg (fun e => by injection e with e; omega), h.one.kept hg (fun x e => by injection e with e; subst e; exact ⟨h.one.nlow (by have := h.hb; omega), h.one.low (by have := h.hb; omega)⟩),
    h.two.kept hg (fun x e => by injection e with e; subst e; exact ⟨h.two.nlow (by have := h.hb; omega), h.two.low (by have := h.hb; omega)⟩), h.hb, h.dis, h.o12, h.o21, h.ff⟩
end
theorem wfi {x : Int} (h1 : -9223372036854775808 ≤ x) (h2 : x ≤ 9223372036854775807) : (Lit.int .i64 x).wf = true := WalkArith.wf_i64 ⟨h1, h2⟩
/-- the result's block is filled -/
theorem fin_grown {w w5 : World} {g : Nat} (hg : w.grownBy w5 (some g)) (vs : List Value) : w.grownBy (putN w5 w.heap.size 0 vs) (some g) :=
  only_low hg (below_of_grown (setN_grown vs 0 (grown_refl w5 (some w.heap.size))) (Nat.le_refl _) hg.size) (Nat.le_refl _)
theorem fin_low {w w5 : World} {g : Nat} (hg : w.grownBy w5 (some g)) (vs : List Value) : Below w.heap.size w5 (putN w5 w.heap.size 0 vs) :=
  below_of_grown (setN_grown vs 0 (grown_refl w5 (some w.heap.size))) (Nat.le_refl _) hg.size
end Go.Proofs.YtnaecdoeldoipaaGreatDoor
set_option linter.unusedVariables false
set_option linter.unusedSimpArgs false
namespace Go.Proofs.YtnaecdoeldoipaaGreatDoor
open Go.ChangeShapes Go.WideShapes Go.ChangeAt Go.RowKit

inductive Kind where
  | mk (sort : Int) (names : List ByteArray) (kids : List Kind)
def Kind.sort : Kind → Int | .mk x _ _ => x
def Kind.names : Kind → List ByteArray | .mk _ x _ => x
def Kind.kids : Kind → List Kind | .mk _ _ x => x
mutual
def Kind.cells : Kind → List D
  | .mk sort names kids => [.v (.int .i64 sort)] ++ [.s 1 names.length (names.flatMap strC)] ++ [.s 3 kids.length (Kind.cellsS kids)]
def Kind.cellsS : List Kind → List D
  | [] => []
  | x :: r => x.cells ++ Kind.cellsS r
end
mutual
def Kind.bulk : Kind → Nat
  | .mk sort names kids => bulkStrs names + kids.length + Kind.bulkS kids
def Kind.bulkS : List Kind → Nat
  | [] => 0
  | x :: r => x.bulk + Kind.bulkS r
end
theorem Kind.cellsS_flat : ∀ (l : List Kind), Kind.cellsS l = l.flatMap Kind.cells
  | [] => rfl
  | x :: r => by simp [Kind.cellsS, Kind.cellsS_flat r]
theorem Kind.cells_eq (x : Kind) : x.cells = [.v (.int .i64 x.sort), .s 1 x.names.length (x.names.flatMap strC), .s 3 x.kids.length (x.kids.flatMap Kind.cells)] := by
  cases x; simp [Kind.cells, Kind.sort, Kind.names, Kind.kids, Kind.cellsS_flat]
theorem Kind.bulk_eq (x : Kind) : x.bulk = bulkStrs x.names + x.kids.length + Kind.bulkS x.kids := by cases x; rfl
theorem Kind.ind {P : Kind → Prop} (h : ∀ k, (∀ x ∈ k.kids, P x) → P k) : ∀ k, P k
  | .mk sort names kids => h _ fun x hx => Kind.ind h x
termination_by k => SizeOf.sizeOf k
decreasing_by
  simp only [Kind.kids] at hx
  have := List.sizeOf_lt_of_mem hx
  simp only [Kind.mk.sizeOf_spec]
  omega
theorem Kind.cells_len (x : Kind) : x.cells.length = 3 := by rw [Kind.cells_eq]; rfl
def Kind.bulkL (l : List Kind) : Nat := l.length + Kind.bulkS l
theorem Kind.bulkS_append (a b : List Kind) : Kind.bulkS (a ++ b) = Kind.bulkS a + Kind.bulkS b := by
  induction a with
  | nil => simp [Kind.bulkS]
  | cons x a ih => simp [Kind.bulkS, ih]; omega
theorem Kind.bulkS_snoc (l : List Kind) (k : Nat) (h : k < l.length) : Kind.bulkS (l.take (k + 1)) = Kind.bulkS (l.take k) + l[k].bulk := by
  rw [List.take_succ_eq_append_getElem h, Kind.bulkS_append]
  simp [Kind.bulkS]
theorem Kind.bulkS_le (l : List Kind) (k : Nat) : Kind.bulkS (l.take k) ≤ Kind.bulkS l := by
  conv => rhs; rw [← List.take_append_drop k l, Kind.bulkS_append]
  omega
theorem Kind.bulk_at (l : List Kind) (k : Nat) (h : k < l.length) : l[k].bulk ≤ Kind.bulkS l := by
  have h1 := Kind.bulkS_snoc l k h
  have h2 := Kind.bulkS_le l (k + 1)
  omega
theorem Kind.cells_snoc (l : List Kind) (k : Nat) (h : k < l.length) : (l.take (k + 1)).flatMap Kind.cells = (l.take k).flatMap Kind.cells ++ l[k].cells := by
  rw [List.take_succ_eq_append_getElem h, List.flatMap_append]
  simp
theorem OwC.oKind {w : World} {x : Kind} {us : List Value} {fp : List Nat} (h : OwC w x.cells us fp) :
    ∃ A1 c1 A2 c2 f1 f2, us = [.int .i64 x.sort, .slice A1 x.names.length c1, .slice A2 x.kids.length c2] ∧ (Lit.int .i64 x.sort).wf = true ∧ Ow w (.s 1 x.names.length (x.names.flatMap strC)) (.slice A1 x.names.length c1) f1 ∧ Ow w (.s 3 x.kids.length (x.kids.flatMap Kind.cells)) (.slice A2 x.kids.length c2) f2 ∧ fp = f1 ++ (f2) := by
  rw [Kind.cells_eq] at h
  match us, OwC.length _ h with
  | [u0, u1, u2], _ =>
    simp only [OwC] at h
    obtain ⟨g0, _, h0, ⟨g1, _, h1, ⟨g2, _, h2, rfl, rfl⟩, rfl⟩, rfl⟩ := h
    simp only [Ow, okAtom] at h0
    obtain ⟨rfl, w0, rfl⟩ := h0
    obtain ⟨A1, c1, rfl, _⟩ := h1.slice
    obtain ⟨A2, c2, rfl, _⟩ := h2.slice
    exact ⟨A1, c1, A2, c2, g1, g2, rfl, w0, h1, h2, by simp⟩
theorem OwC.mKind {w : World} {x : Kind} {v1 v2 : Value} {f1 f2 : List Nat} (w0 : (Lit.int .i64 x.sort).wf = true) (h1 : Ow w (.s 1 x.names.length (x.names.flatMap strC)) v1 f1) (h2 : Ow w (.s 3 x.kids.length (x.kids.flatMap Kind.cells)) v2 f2) :
    OwC w x.cells [.int .i64 x.sort, v1, v2] (f1 ++ (f2)) := by
  have h : OwC w x.cells [.int .i64 x.sort, v1, v2] ([] ++ (f1 ++ (f2 ++ ([])))) := by
    rw [Kind.cells_eq]
    exact ⟨_, _, ⟨rfl, w0, rfl⟩, ⟨_, _, h1, ⟨_, _, h2, rfl, rfl⟩, rfl⟩, rfl⟩
  simpa using h
end Go.Proofs.YtnaecdoeldoipaaGreatDoor
set_option linter.unusedVariables false
set_option linter.unusedSimpArgs false
namespace Go.Proofs.YtnaecdoeldoipaaGreatDoor
open Go.ChangeShapes Go.WideShapes Go.ChangeAt Go.RowKit




end Go.Proofs.YtnaecdoeldoipaaGreatDoor
set_option linter.unusedVariables false
set_option linter.unusedSimpArgs false
namespace Go.Proofs.YtnaecdoeldoipaaGreatDoor
open Go.ChangeShapes Go.WideShapes Go.ChangeAt Go.RowKit

def Kind.shape (k : Kind) : Prop :=
  ((k.sort = 1 ∨ k.sort = 2 ∨ k.sort = 3) ∧ k.names.length = 0 ∧ k.kids.length = 0) ∨ ((k.sort = 4 ∨ k.sort = 6) ∧ k.names.length = 0 ∧ k.kids.length = 1) ∨
    (k.sort = 5 ∧ NamesOk k.names ∧ k.names.length = k.kids.length)

theorem Kind.shape_iff (k : Kind) : k.shape ↔ ((k.sort = 1 ∨ k.sort = 2 ∨ k.sort = 3) ∧ k.names.length = 0 ∧ k.kids.length = 0) ∨ ((k.sort = 4 ∨ k.sort = 6) ∧ k.names.length = 0 ∧ k.kids.length = 1) ∨
    (k.sort = 5 ∧ NamesOk k.names ∧ k.names.length = k.kids.length) := Iff.rfl

set_option maxRecDepth 100000 in
theorem kindShapeOk_any (k : Kind) (us : List Value) (fp : List Nat) (w : World) (h : OwC w k.cells us fp) (hf : Lt fp w.heap.size) (hbk : k.bulk ≤ 1048576) :
    Calls Tryz.prog 140 #[.agg us.toArray] w fun e w' => e = .returned (.bool (tb k.shape)) ∧ Below w.heap.size w w' := by
  obtain ⟨A1, c1, A2, c2, f1, f2, rfl, w0, o1, o2, rfl⟩ := h.oKind
  rw [Kind.bulk_eq] at hbk; unfold bulkStrs at hbk
  have ho1 := o1.alloc hf.left (.cells #[.int .i64 k.sort, .slice A1 k.names.length c1, .slice A2 k.kids.length c2] 38)
  have hw : Below w.heap.size w (w.alloc (.cells #[.int .i64 k.sort, .slice A1 k.names.length c1, .slice A2 k.kids.length c2] 38)) := (Below.refl _ _).alloc (Nat.le_refl _) _
  clear h o1 o2 hf
  have HS := hide k.shape_iff
  generalize k.sort = s at *
  generalize k.kids.length = kl at *
  by_cases e5 : s = 5
  · subst e5
    by_cases hn : NamesOk k.names
    · by_cases hl : k.names.length = kl
      · have hb := beq_t (s := (k.names.length : Int)) (c := (kl : Int)) (by omega)
        have HT := hide (tb_true (HS.out.2 (.inr (.inr ⟨rfl, hn, hl⟩))))
        clear hl
        go_enter Tryz.func140, Tryz.ntmps140
        go_wp2_with fail
        refine (areNames_any _ _ _ _ _ _ ho1).mono ?_
        rintro e w' ⟨rfl, rfl⟩
        rw [tb_true hn]
        go_wp2
        go_ret
        exact ⟨ret_bool HT.out.symm, hw⟩
      · have hb := bne_f (s := (k.names.length : Int)) (c := (kl : Int)) (by omega)
        have HT := hide (tb_false (p := k.shape) (fun h => by have := HS.out.1 h; omega))
        go_enter Tryz.func140, Tryz.ntmps140
        go_wp2_with fail
        refine (areNames_any _ _ _ _ _ _ ho1).mono ?_
        rintro e w' ⟨rfl, rfl⟩
        rw [tb_true hn]
        go_wp2
        go_ret
        exact ⟨ret_bool HT.out.symm, hw⟩
    · have HT := hide (tb_false (p := k.shape) (fun h => by rcases HS.out.1 h with h | h | h <;> first | omega | exact hn h.2.1))
      go_enter Tryz.func140, Tryz.ntmps140
      go_wp2_with fail
      refine (areNames_any _ _ _ _ _ _ ho1).mono ?_
      rintro e w' ⟨rfl, rfl⟩
      rw [tb_false hn]
      go_wp2
      go_ret
      exact ⟨ret_bool HT.out.symm, hw⟩
  · by_cases e46 : s = 4 ∨ s = 6
    · by_cases hn : k.names.length = 0
      · have hbn := beq_t (s := (k.names.length : Int)) (c := 0) (by omega)
        by_cases hk : kl = 1
        · have HT := hide (tb_true (p := k.shape) (HS.out.2 (by omega)))
          subst hk
          clear hn
          rcases e46 with rfl | rfl
          all_goals
            go_enter Tryz.func140, Tryz.ntmps140
            go_wp2
            go_ret
            exact ⟨ret_bool HT.out.symm, hw⟩
        · have hb := bne_f (s := (kl : Int)) (c := 1) (by omega)
          have HT := hide (tb_false (p := k.shape) (fun h => by have := HS.out.1 h; omega))
          clear hn
          rcases e46 with rfl | rfl
          all_goals
            go_enter Tryz.func140, Tryz.ntmps140
            go_wp2
            go_ret
            exact ⟨ret_bool HT.out.symm, hw⟩
      · have hb := bne_f (s := (k.names.length : Int)) (c := 0) (by omega)
        have HT := hide (tb_false (p := k.shape) (fun h => by have := HS.out.1 h; omega))
        rcases e46 with rfl | rfl
        all_goals
          go_enter Tryz.func140, Tryz.ntmps140
          go_wp2
          go_ret
          exact ⟨ret_bool HT.out.symm, hw⟩
    · by_cases e123 : s = 1 ∨ s = 2 ∨ s = 3
      · by_cases hn : k.names.length = 0 ∧ kl = 0
        · have hbn := beq_t (s := (k.names.length : Int) + (kl : Int)) (c := 0) (by omega)
          have HT := hide (tb_true (p := k.shape) (HS.out.2 (by omega)))
          clear hn
          rcases e123 with rfl | rfl | rfl
          all_goals
            go_enter Tryz.func140, Tryz.ntmps140
            go_wp2
            go_ret
            exact ⟨ret_bool HT.out.symm, hw⟩
        · have hb := bne_f (s := (k.names.length : Int) + (kl : Int)) (c := 0) (by omega)
          have HT := hide (tb_false (p := k.shape) (fun h => by have := HS.out.1 h; omega))
          rcases e123 with rfl | rfl | rfl
          all_goals
            go_enter Tryz.func140, Tryz.ntmps140
            go_wp2
            go_ret
            exact ⟨ret_bool HT.out.symm, hw⟩
      · have b1 := bne_f (s := s) (c := 1) (by omega)
        have b2 := bne_f (s := s) (c := 2) (by omega)
        have b3 := bne_f (s := s) (c := 3) (by omega)
        have b4 := bne_f (s := s) (c := 4) (by omega)
        have b5 := bne_f (s := s) (c := 5) (by omega)
        have b6 := bne_f (s := s) (c := 6) (by omega)
        have HT := hide (tb_false (p := k.shape) (fun h => by have := HS.out.1 h; omega))
        go_enter Tryz.func140, Tryz.ntmps140
        go_wp2
        go_ret
        exact ⟨ret_bool HT.out.symm, hw⟩

mutual
def Kind.good : Kind → Nat → Prop
  | .mk s ns ks, lv => lv ≤ 6 ∧ (Kind.mk s ns ks).shape ∧ Kind.goodS ks (lv + 1)
def Kind.goodS : List Kind → Nat → Prop
  | [], _ => True
  | k :: r, lv => k.good lv ∧ Kind.goodS r lv
end
mutual
def Kind.parts : Kind → Nat
  | .mk _ _ ks => 1 + Kind.partsS ks
def Kind.partsS : List Kind → Nat
  | [] => 0
  | k :: r => k.parts + Kind.partsS r
end
theorem Kind.good_iff (k : Kind) (lv : Nat) : k.good lv ↔ lv ≤ 6 ∧ k.shape ∧ Kind.goodS k.kids (lv + 1) := by cases k; rfl
theorem Kind.parts_eq (k : Kind) : k.parts = 1 + Kind.partsS k.kids := by cases k; rfl
theorem Kind.goodS_append (a b : List Kind) (lv : Nat) : Kind.goodS (a ++ b) lv ↔ Kind.goodS a lv ∧ Kind.goodS b lv := by
  induction a with
  | nil => simp [Kind.goodS]
  | cons x a ih => simp [Kind.goodS, ih, and_assoc]
theorem Kind.goodS_snoc (l : List Kind) (lv k : Nat) (h : k < l.length) : Kind.goodS (l.take (k + 1)) lv ↔ Kind.goodS (l.take k) lv ∧ l[k].good lv := by
  rw [List.take_succ_eq_append_getElem h, Kind.goodS_append]
  simp [Kind.goodS]
theorem Kind.goodS_at {l : List Kind} {lv k : Nat} (hg : Kind.goodS l lv) (h : k < l.length) : l[k].good lv := by
  rw [← List.take_append_drop (k + 1) l, Kind.goodS_append, Kind.goodS_snoc l lv k h] at hg
  exact hg.1.2
theorem Kind.partsS_append (a b : List Kind) : Kind.partsS (a ++ b) = Kind.partsS a + Kind.partsS b := by
  induction a with
  | nil => simp [Kind.partsS]
  | cons x a ih => simp [Kind.partsS, ih]; omega
theorem Kind.partsS_snoc (l : List Kind) (k : Nat) (h : k < l.length) : Kind.partsS (l.take (k + 1)) = Kind.partsS (l.take k) + l[k].parts := by
  rw [List.take_succ_eq_append_getElem h, Kind.partsS_append]
  simp [Kind.partsS]
theorem Kind.partsS_le (l : List Kind) (k : Nat) : Kind.partsS (l.take k) ≤ Kind.partsS l := by
  conv => rhs; rw [← List.take_append_drop k l, Kind.partsS_append]
  omega

/-- so many parts are left -/
def Kind.fits (k : Kind) (lv : Nat) (p : Int) : Prop := k.good lv ∧ p + k.parts ≤ 40

def LookKind (k : Kind) : Prop := ∀ (us : List Value) (fp : List Nat) (lv : Nat) (z p : Int) (pb : Nat) (w : World), z = lv → OwC w k.cells us fp → Lt fp w.heap.size → k.bulk ≤ 1048576 → 1 ≤ lv → lv ≤ 7 → 0 ≤ p → p ≤ 40 →
  w.cell? ⟨pb, 0, none⟩ = some (.int .i64 p) → w.frozen? ⟨pb, 0, none⟩ = false → pb ∉ fp →
  Calls Tryz.prog 112 #[.agg us.toArray, .int .i64 z, .pointer (some ⟨pb, 0, none⟩)] w fun e w' => e = .returned (.bool (tb (k.fits lv p))) ∧
    w'.frozen? ⟨pb, 0, none⟩ = false ∧ (k.fits lv p → w'.cell? ⟨pb, 0, none⟩ = some (.int .i64 (p + k.parts))) ∧ w.grownBy w' (some pb)

set_option maxRecDepth 100000 in
theorem lookKind_of (k : Kind) (ih : ∀ x ∈ k.kids, LookKind x) : LookKind k := by
  intro us fp lv z p pb w hz ho hf hbk hl0 hl1 hp0 hp1 hcell hfz hpb
  obtain ⟨A1, c1, A2, c2, f1, f2, rfl, w0, o1, o2, rfl⟩ := ho.oKind
  have hpl := cell_lt hcell
  subst hz
  have hpn : pb < w.heap.size := hpl
  have hne1 : pb ≠ w.heap.size := by omega
  have g0 : w.grownBy (w.setCell ⟨pb, 0, none⟩ (.int .i64 (p + 1))) (some pb) := only_setCell (World.grownBy.refl w _) (.inl rfl) _
  have g1 := only_alloc g0 (.cells #[.int .i64 k.sort, .slice A1 k.names.length c1, .slice A2 k.kids.length c2] 38)
  by_cases h6 : lv ≤ 6
  · by_cases hp : p + 1 ≤ 40
    · have hkb := k.bulk_eq; unfold bulkStrs at hkb
      have hkl : k.kids.length ≤ 1048576 := by omega
      have HB := hide hkb
      clear hkb
      have hcw1 := ho.grown g1 hf hpb
      go_enter Tryz.func112, Tryz.ntmps112
      go_wp2_with fail
      refine (kindShapeOk_any k _ _ _ hcw1 ((hf.mono (by simp [World.setCell]))) hbk).mono ?_
      rintro e w1 ⟨rfl, hb1⟩
      have g2 := only_below g1 hb1
      obtain ⟨hc1, hf1⟩ := bcell hb1
      have z1 : w.heap.size < w1.heap.size := by have := hb1.size; simp [World.setCell] at this; omega
      have z1b : pb < w1.heap.size := by omega
      by_cases hs : k.shape
      · rw [tb_true hs]
        have HO2 := hide o2
        have HI := hide ih
        clear o1 o2 ho hcw1 ih
        have hx1 : w1.cell? ⟨pb, 0, none⟩ = some (.int .i64 (p + 1)) := by
          rw [hb1.cell (p := ⟨pb, 0, none⟩) (by simp [World.setCell]; omega), World.cell?_alloc_lt _ _ _ (by simp [World.setCell]; omega)]
          exact World.cell?_setCell_same w _ _ hcell
        have hx2 : w1.frozen? ⟨pb, 0, none⟩ = false := by rw [hf1 pb 0 (by simp [World.setCell]; omega)]; go_simp
        go_wp2
        go_loopw [30] (fun i wr => ∃ j : Nat, j ≤ k.kids.length ∧ i = .int .i64 j ∧ Kind.goodS (k.kids.take j) (lv + 1) ∧ p + 1 + Kind.partsS (k.kids.take j) ≤ 40 ∧ wr.cell? ⟨pb, 0, none⟩ = some (.int .i64 (p + 1 + Kind.partsS (k.kids.take j))) ∧ wr.frozen? ⟨pb, 0, none⟩ = false ∧ w.grownBy wr (some pb)) (fun i _ => k.kids.length - (intOf i).toNat)
        case atStart => exact ⟨0, Nat.zero_le _, rfl, by simp [Kind.goodS], by simp [Kind.partsS]; omega, by simpa [Kind.partsS] using hx1, hx2, g2⟩
        case round =>
          obtain ⟨j, hj, rfl, hgood, hle, hcj, hfj, hgr⟩ := hrel
          have HG := hide hgood
          have HR := hide hgr
          clear hgood hgr
          by_cases hlt : j < k.kids.length
          · obtain ⟨g, off, vs, fi, rfl, hg, hfi, hvl, hcs, hov⟩ := (HO2.out.grown HR.out hf.right (fun h => hpb (List.mem_append_right _ h))).elem Kind.cells_len hlt
            have hov' := hov
            obtain ⟨B1, d1, B2, d2, q1, q2, rfl, v0, x1, x2, rfl⟩ := hov.oKind
            have p0 := hcs 0 _ rfl
            have p1 := hcs 1 _ rfl
            have p2 := hcs 2 _ rfl
            simp only [Nat.add_zero] at p0
            have hfq : Lt (q1 ++ q2) wr.heap.size := ((hf.right).mono HR.out.size).sub hfi
            have hpq : pb ∉ q1 ++ q2 := fun h => hpb (List.mem_append_right _ (hfi h))
            have HC := hide (HI.out _ (List.getElem_mem hlt))
            have hsn := hide (Kind.goodS_snoc k.kids (lv + 1) j hlt)
            have hps := hide (Kind.partsS_snoc k.kids j hlt)
            have hpl' := Kind.partsS_le k.kids (j + 1)
            have hbl : k.kids[j].bulk ≤ 1048576 := by
              have h1 := Kind.bulkS_snoc k.kids j hlt
              have h2 := Kind.bulkS_le k.kids (j + 1)
              have h3 := HB.out
              omega
            have HO := hide (hov'.alloc hfq (.cells #[.int .i64 k.kids[j].sort, .slice B1 k.kids[j].names.length d1, .slice B2 k.kids[j].kids.length d2] 38))
            have hat := hide (fun (h : Kind.goodS k.kids (lv + 1)) => Kind.goodS_at h hlt)
            have hplr := cell_lt hcj
            clear hov hov' x1 x2 hcs
            generalize k.kids[j] = x at *
            generalize Kind.partsS (k.kids.take j) = m at *
            go_wp2_with fail
            refine (HC.out _ _ (lv + 1) _ (p + 1 + m) pb _ (by omega) HO.out (hfq.alloc _) hbl (by omega) (by omega) (by omega) (by omega) (by go_simp) (by go_simp) hpq).mono ?_
            rintro e w2 ⟨rfl, hz2, hcell2, hgr2⟩
            have hw2 := only_trans (only_alloc HR.out _) hgr2
            by_cases hx : x.fits (lv + 1) (p + 1 + m)
            · rw [tb_true hx]
              have hc2 := hcell2 hx
              have HX := hide hx
              clear hcell2 hx
              go_wp2
              go_roundw
              case rel => exact ⟨j + 1, by omega, by go_num, hsn.out.2 ⟨HG.out, HX.out.1⟩, by rw [hps.out]; have := HX.out.2; omega, by rw [hps.out, hc2]; go_num, hz2, hw2⟩
              case measure => simp [intOf]; omega
            · rw [tb_false hx]
              have HT := hide (tb_false (p := k.fits lv p) (fun h => hx ⟨hat.out ((Kind.good_iff _ _).1 h.1).2.2, by have h1 := h.2; have h2 := k.parts_eq; have h3 := hps.out; omega⟩))
              clear hx
              go_wp2
              go_ret
              exact ⟨ret_bool HT.out.symm, hz2, fun h => absurd (tb_true h) (by rw [HT.out]; simp), hw2⟩
          · obtain rfl : j = k.kids.length := by omega
            rw [List.take_length] at *
            have hfit : k.fits lv p := ⟨(Kind.good_iff _ _).2 ⟨h6, hs, HG.out⟩, by have := k.parts_eq; omega⟩
            have HT := hide (tb_true hfit)
            have HP := hide k.parts_eq
            clear hfit
            go_wp2
            go_ret
            exact ⟨ret_bool HT.out.symm, hfj, fun _ => by rw [hcj, HP.out]; go_num, HR.out⟩
      · rw [tb_false hs]
        have HT := hide (tb_false (p := k.fits lv p) (fun h => hs ((Kind.good_iff _ _).1 h.1).2.1))
        have hx2 : w1.frozen? ⟨pb, 0, none⟩ = false := by rw [hf1 pb 0 (by simp [World.setCell]; omega)]; go_simp
        go_wp2
        go_ret
        exact ⟨ret_bool HT.out.symm, hx2, fun h => absurd (tb_true h) (by rw [HT.out]; simp), g2⟩
    · have HT := hide (tb_false (p := k.fits lv p) (fun h => by have h1 := h.2; have h2 := k.parts_eq; omega))
      go_enter Tryz.func112, Tryz.ntmps112
      go_wp2
      go_ret
      exact ⟨ret_bool HT.out.symm, by go_simp, fun h => absurd (tb_true h) (by rw [HT.out]; simp), g1⟩
  · have HT := hide (tb_false (p := k.fits lv p) (fun h => by have h1 := ((Kind.good_iff _ _).1 h.1).1; omega))
    go_enter Tryz.func112, Tryz.ntmps112
    go_wp2
    go_ret
    exact ⟨ret_bool HT.out.symm, by go_simp, fun h => absurd (tb_true h) (by rw [HT.out]; simp), g1⟩

theorem lookKind_any (k : Kind) : LookKind k := Kind.ind lookKind_of k

end Go.Proofs.YtnaecdoeldoipaaGreatDoor
set_option linter.unusedVariables false
set_option linter.unusedSimpArgs false
namespace Go.Proofs.YtnaecdoeldoipaaGreatDoor
open Go.ChangeShapes Go.WideShapes Go.ChangeAt Go.RowKit

noncomputable def Kind.partsR (k : Kind) (lv : Nat) : Int := if tb (k.fits lv 0) = true then k.parts else -1
theorem Kind.partsR_yes {k : Kind} {lv : Nat} (h : k.fits lv 0) : k.partsR lv = k.parts := by unfold Kind.partsR; rw [tb_true h, if_pos rfl]
theorem Kind.partsR_no {k : Kind} {lv : Nat} (h : ¬ k.fits lv 0) : k.partsR lv = -1 := by unfold Kind.partsR; rw [tb_false h]; rfl

def PartsKind (k : Kind) : Prop := ∀ (us : List Value) (fp : List Nat) (lv : Nat) (z : Int) (w : World), z = lv → OwC w k.cells us fp → Lt fp w.heap.size → k.bulk ≤ 1048576 → 1 ≤ lv → lv ≤ 7 →
  Calls Tryz.prog 111 #[.agg us.toArray, .int .i64 z] w fun e w' => e = .returned (.int .i64 (k.partsR lv)) ∧ Below w.heap.size w w'

set_option maxRecDepth 100000 in
set_option maxHeartbeats 400000 in
theorem partsKind_five (k : Kind) (ih : ∀ x ∈ k.kids, PartsKind x) (hs : k.shape) (h5 : k.sort = 5) (hn : NamesOk k.names) (hl : k.names.length = k.kids.length) (fp : List Nat) (lv : Nat) (w : World) (A1 : Option Addr) (c1 : Nat) (A2 : Option Addr) (c2 : Nat) (f1 f2 : List Nat)
    (o1 : Ow w (.s 1 k.names.length (k.names.flatMap strC)) (.slice A1 k.names.length c1) f1) (o2 : Ow w (.s 3 k.kids.length (k.kids.flatMap Kind.cells)) (.slice A2 k.kids.length c2) f2) (hf : Lt (f1 ++ f2) w.heap.size) (hbk : k.bulk ≤ 1048576) (hl0 : 1 ≤ lv) (h6 : lv ≤ 6) :
    Calls Tryz.prog 111 #[.agg #[.int .i64 k.sort, .slice A1 k.names.length c1, .slice A2 k.kids.length c2], .int .i64 lv] w fun e w' => e = .returned (.int .i64 (k.partsR lv)) ∧ Below w.heap.size w w' := by
  have hkb := k.bulk_eq; unfold bulkStrs at hkb
  have hkl : k.kids.length ≤ 1048576 := by omega
  have hnl : k.names.length ≤ 1048576 := by omega
  have HB := hide hkb
  clear hkb
  have hw1 : Below w.heap.size w (w.alloc (.cells #[.int .i64 k.sort, .slice A1 k.names.length c1, .slice A2 k.kids.length c2] 38)) := (Below.refl _ _).alloc (Nat.le_refl _) _
  have ho1 := hide (o1.below hw1 hf.left)
  have HF := hide (fun (h1 : Kind.goodS k.kids (lv + 1)) (h2 : 1 + (Kind.partsS k.kids : Int) ≤ 40) => Kind.partsR_yes (k := k) (lv := lv) ⟨(Kind.good_iff _ _).2 ⟨h6, hs, h1⟩, by have := k.parts_eq; omega⟩)
  have HP := hide k.parts_eq
  have HN := hide (fun (h : ¬ (Kind.goodS k.kids (lv + 1) ∧ 1 + (Kind.partsS k.kids : Int) ≤ 40)) => Kind.partsR_no (k := k) (lv := lv) (fun h' => h ⟨((Kind.good_iff _ _).1 h'.1).2.2, by have := h'.2; have := k.parts_eq; omega⟩))
  have HO2 := hide o2
  have HI := hide ih
  clear o1 o2 ih hs
  generalize k.sort = s at *
  subst h5
  have hq : ((k.names.length : Int) != (k.kids.length : Int)) = false := by rw [bne_eq_false_iff_eq]; omega
  clear hl
  go_enter Tryz.func111, Tryz.ntmps111
  go_wp2_with fail
  refine (l6In_any _ _ _ _).mono ?_
  rintro e w' ⟨rfl, rfl⟩
  rw [tb_true (by omega)]
  go_wp2_with fail
  refine (l1Rise_any _ _ _ _ _ _ ho1.out).mono ?_
  rintro e w' ⟨rfl, q, rfl⟩
  rw [tb_true hn]
  go_wp2
  have hb0 : ((w.alloc (.cells #[.int .i64 5, .slice A1 k.names.length c1, .slice A2 k.kids.length c2] 38)).drewN q).cell? ⟨w.heap.size, 2, none⟩ = some (.slice A2 k.kids.length c2) := by go_simp
  have hw2 : Below w.heap.size w ((w.alloc (.cells #[.int .i64 5, .slice A1 k.names.length c1, .slice A2 k.kids.length c2] 38)).drewN q) := below_drewN hw1 q
  have hsz : w.heap.size < ((w.alloc (.cells #[.int .i64 5, .slice A1 k.names.length c1, .slice A2 k.kids.length c2] 38)).drewN q).heap.size := by simp
  go_loopw [6, 7] (fun a i wr => ∃ j : Nat, j ≤ k.kids.length ∧ i = .int .i64 j ∧ a = .int .i64 (1 + (Kind.partsS (k.kids.take j) : Int)) ∧ Kind.goodS (k.kids.take j) (lv + 1) ∧ 1 + (Kind.partsS (k.kids.take j) : Int) ≤ 40 ∧ wr.cell? ⟨w.heap.size, 2, none⟩ = some (.slice A2 k.kids.length c2) ∧ w.heap.size < wr.heap.size ∧ Below w.heap.size w wr) (fun _ i _ => k.kids.length - (intOf i).toNat)
  case atStart => exact ⟨0, Nat.zero_le _, rfl, by simp [Kind.partsS], by simp [Kind.goodS], by simp [Kind.partsS], hb0, hsz, hw2⟩
  case round =>
    obtain ⟨j, hj, rfl, rfl, hgood, hle, hcj, hszj, hbj⟩ := hrel
    have HG := hide hgood
    have HR := hide hbj
    clear hgood hbj hw2 hb0 hsz
    by_cases hlt : j < k.kids.length
    · obtain ⟨g, off, vs, fi, rfl, hg, hfi, hvl, hcs, hov⟩ := (HO2.out.below HR.out hf.right).elem Kind.cells_len hlt
      have hov' := hov
      obtain ⟨B1, d1, B2, d2, q1, q2, rfl, v0, x1, x2, rfl⟩ := hov.oKind
      have p0 := hcs 0 _ rfl
      have p1 := hcs 1 _ rfl
      have p2 := hcs 2 _ rfl
      simp only [Nat.add_zero] at p0
      have hfq : Lt (q1 ++ q2) wr.heap.size := ((hf.right).up HR.out).sub hfi
      have HC := hide (HI.out _ (List.getElem_mem hlt))
      have hsn := hide (Kind.goodS_snoc k.kids (lv + 1) j hlt)
      have hps := hide (Kind.partsS_snoc k.kids j hlt)
      have hpl' := Kind.partsS_le k.kids (j + 1)
      have hbl : k.kids[j].bulk ≤ 1048576 := by
        have h1 := Kind.bulkS_snoc k.kids j hlt
        have h2 := Kind.bulkS_le k.kids (j + 1)
        have h3 := HB.out
        omega
      have HO := hide hov'
      have hat := hide (fun (h : Kind.goodS k.kids (lv + 1)) => Kind.goodS_at h hlt)
      clear hov hov' x1 x2 hcs
      generalize k.kids[j] = x at *
      generalize Kind.partsS (k.kids.take j) = m at *
      go_wp2_with fail
      refine (HC.out _ _ (lv + 1) _ _ (by omega) HO.out hfq hbl (by omega) (by omega)).mono ?_
      rintro e w2 ⟨rfl, hb2⟩
      have hw3 := HR.out.trans (hb2.mono HR.out.size)
      have hsz3 : w.heap.size < w2.heap.size := Nat.lt_of_lt_of_le hszj hb2.size
      have hcj2 : w2.cell? ⟨w.heap.size, 2, none⟩ = some (.slice (some ⟨g, off, none⟩) k.kids.length c2) := (hb2.cell (p := ⟨w.heap.size, 2, none⟩) hszj).trans hcj
      by_cases hx : x.fits (lv + 1) 0
      · rw [Kind.partsR_yes hx]
        have hx2 : (x.parts : Int) ≤ 40 := by have := hx.2; omega
        have HX := hide hx
        clear hx hcj
        by_cases hsum : 1 + (m : Int) + x.parts ≤ 40
        · go_wp2
          go_roundw
          case rel => exact ⟨j + 1, by omega, by go_num, by rw [hps.out]; go_num, hsn.out.2 ⟨HG.out, HX.out.1⟩, by rw [hps.out]; omega, hcj2, hsz3, hw3⟩
          case measure => simp [intOf]; omega
        · have HT := hide (HN.out (fun h => hsum (by have := h.2; have := hps.out; omega)))
          go_wp2
          go_ret
          exact ⟨ret_int HT.out.symm, hw3⟩
      · rw [Kind.partsR_no hx]
        have HT := hide (HN.out (fun h => hx ⟨hat.out h.1, by have := h.2; have := hps.out; omega⟩))
        clear hx
        go_wp2
        go_ret
        exact ⟨ret_int HT.out.symm, hw3⟩
    · obtain rfl : j = k.kids.length := by omega
      rw [List.take_length] at *
      have HT := hide (HF.out HG.out hle)
      go_wp2
      go_ret
      exact ⟨ret_int (by rw [HT.out, HP.out]; go_num), HR.out⟩

set_option maxRecDepth 100000 in
theorem l2Parts_leaf (s : Int) (lv : Nat) (w : World) (A1 : Option Addr) (c1 : Nat) (A2 : Option Addr) (c2 : Nat) (h1 : 1 ≤ s) (h4 : s < 4) (hl0 : 1 ≤ lv) (h6 : lv ≤ 6) :
    Calls Tryz.prog 111 #[.agg #[.int .i64 s, .slice A1 0 c1, .slice A2 0 c2], .int .i64 lv] w fun e w' => e = .returned (.int .i64 1) ∧ Below w.heap.size w w' := by
  have b4 := bne_f (s := s) (c := 4) (by omega)
  have b5 := bne_f (s := s) (c := 5) (by omega)
  have b6 := bne_f (s := s) (c := 6) (by omega)
  have b5' : (s != 5) = true := by rw [bne_iff_ne]; omega
  go_enter Tryz.func111, Tryz.ntmps111
  go_wp2_with fail
  refine (l6In_any _ _ _ _).mono ?_
  rintro e w' ⟨rfl, rfl⟩
  rw [tb_true (by omega)]
  go_wp2
  go_loop [6, 7] (fun a i => a = .int .i64 1 ∧ i = .int .i64 0) (fun _ _ => 0)
  case atStart => exact ⟨rfl, rfl⟩
  case round =>
    obtain ⟨rfl, rfl⟩ := hrel
    go_wp2
    go_ret
    exact ⟨rfl, (Below.refl _ _).alloc (Nat.le_refl _) _⟩

set_option maxRecDepth 100000 in
set_option maxHeartbeats 400000 in
theorem partsKind_one (k : Kind) (ih : ∀ x ∈ k.kids, PartsKind x) (hs : k.shape) (s : Int) (hss : k.sort = s) (h46 : s = 4 ∨ s = 6) (hl : k.kids.length = 1) (fp : List Nat) (lv : Nat) (w : World) (A1 : Option Addr) (c1 : Nat) (A2 : Option Addr) (c2 : Nat) (f1 f2 : List Nat)
    (o2 : Ow w (.s 3 k.kids.length (k.kids.flatMap Kind.cells)) (.slice A2 k.kids.length c2) f2) (hf : Lt (f1 ++ f2) w.heap.size) (hbk : k.bulk ≤ 1048576) (hl0 : 1 ≤ lv) (h6 : lv ≤ 6) :
    Calls Tryz.prog 111 #[.agg #[.int .i64 s, .slice A1 0 c1, .slice A2 k.kids.length c2], .int .i64 lv] w fun e w' => e = .returned (.int .i64 (k.partsR lv)) ∧ Below w.heap.size w w' := by
  have hkb := k.bulk_eq; unfold bulkStrs at hkb
  have hkl : k.kids.length ≤ 1048576 := by omega
  have hnl : k.names.length ≤ 1048576 := by omega
  have HB := hide hkb
  clear hkb
  have hw1 : Below w.heap.size w (w.alloc (.cells #[.int .i64 s, .slice A1 0 c1, .slice A2 k.kids.length c2] 38)) := (Below.refl _ _).alloc (Nat.le_refl _) _
  have HF := hide (fun (h1 : Kind.goodS k.kids (lv + 1)) (h2 : 1 + (Kind.partsS k.kids : Int) ≤ 40) => Kind.partsR_yes (k := k) (lv := lv) ⟨(Kind.good_iff _ _).2 ⟨h6, hs, h1⟩, by have := k.parts_eq; omega⟩)
  have HP := hide k.parts_eq
  have HN := hide (fun (h : ¬ (Kind.goodS k.kids (lv + 1) ∧ 1 + (Kind.partsS k.kids : Int) ≤ 40)) => Kind.partsR_no (k := k) (lv := lv) (fun h' => h ⟨((Kind.good_iff _ _).1 h'.1).2.2, by have := h'.2; have := k.parts_eq; omega⟩))
  have HO2 := hide o2
  have HI := hide ih
  clear o2 ih hs
  have hq : ((k.kids.length : Int) != 1) = false := by rw [bne_eq_false_iff_eq]; omega
  clear hl hss
  rcases h46 with rfl | rfl
  · go_enter Tryz.func111, Tryz.ntmps111
    go_wp2_with fail
    refine (l6In_any _ _ _ _).mono ?_
    rintro e w' ⟨rfl, rfl⟩
    rw [tb_true (by omega)]
    go_wp2
    have hb0 : (w.alloc (.cells #[.int .i64 4, .slice A1 0 c1, .slice A2 k.kids.length c2] 38)).cell? ⟨w.heap.size, 2, none⟩ = some (.slice A2 k.kids.length c2) := by go_simp
    have hw2 : Below w.heap.size w (w.alloc (.cells #[.int .i64 4, .slice A1 0 c1, .slice A2 k.kids.length c2] 38)) := hw1
    have hsz : w.heap.size < (w.alloc (.cells #[.int .i64 4, .slice A1 0 c1, .slice A2 k.kids.length c2] 38)).heap.size := by simp
    go_loopw [6, 7] (fun a i wr => ∃ j : Nat, j ≤ k.kids.length ∧ i = .int .i64 j ∧ a = .int .i64 (1 + (Kind.partsS (k.kids.take j) : Int)) ∧ Kind.goodS (k.kids.take j) (lv + 1) ∧ 1 + (Kind.partsS (k.kids.take j) : Int) ≤ 40 ∧ wr.cell? ⟨w.heap.size, 2, none⟩ = some (.slice A2 k.kids.length c2) ∧ w.heap.size < wr.heap.size ∧ Below w.heap.size w wr) (fun _ i _ => k.kids.length - (intOf i).toNat)
    case atStart => exact ⟨0, Nat.zero_le _, rfl, by simp [Kind.partsS], by simp [Kind.goodS], by simp [Kind.partsS], hb0, hsz, hw2⟩
    case round =>
      obtain ⟨j, hj, rfl, rfl, hgood, hle, hcj, hszj, hbj⟩ := hrel
      have HG := hide hgood
      have HR := hide hbj
      clear hgood hbj hw2 hb0 hsz
      by_cases hlt : j < k.kids.length
      · obtain ⟨g, off, vs, fi, rfl, hg, hfi, hvl, hcs, hov⟩ := (HO2.out.below HR.out hf.right).elem Kind.cells_len hlt
        have hov' := hov
        obtain ⟨B1, d1, B2, d2, q1, q2, rfl, v0, x1, x2, rfl⟩ := hov.oKind
        have p0 := hcs 0 _ rfl
        have p1 := hcs 1 _ rfl
        have p2 := hcs 2 _ rfl
        simp only [Nat.add_zero] at p0
        have hfq : Lt (q1 ++ q2) wr.heap.size := ((hf.right).up HR.out).sub hfi
        have HC := hide (HI.out _ (List.getElem_mem hlt))
        have hsn := hide (Kind.goodS_snoc k.kids (lv + 1) j hlt)
        have hps := hide (Kind.partsS_snoc k.kids j hlt)
        have hpl' := Kind.partsS_le k.kids (j + 1)
        have hbl : k.kids[j].bulk ≤ 1048576 := by
          have h1 := Kind.bulkS_snoc k.kids j hlt
          have h2 := Kind.bulkS_le k.kids (j + 1)
          have h3 := HB.out
          omega
        have HO := hide hov'
        have hat := hide (fun (h : Kind.goodS k.kids (lv + 1)) => Kind.goodS_at h hlt)
        clear hov hov' x1 x2 hcs
        generalize k.kids[j] = x at *
        generalize Kind.partsS (k.kids.take j) = m at *
        go_wp2_with fail
        refine (HC.out _ _ (lv + 1) _ _ (by omega) HO.out hfq hbl (by omega) (by omega)).mono ?_
        rintro e w2 ⟨rfl, hb2⟩
        have hw3 := HR.out.trans (hb2.mono HR.out.size)
        have hsz3 : w.heap.size < w2.heap.size := Nat.lt_of_lt_of_le hszj hb2.size
        have hcj2 : w2.cell? ⟨w.heap.size, 2, none⟩ = some (.slice (some ⟨g, off, none⟩) k.kids.length c2) := (hb2.cell (p := ⟨w.heap.size, 2, none⟩) hszj).trans hcj
        by_cases hx : x.fits (lv + 1) 0
        · rw [Kind.partsR_yes hx]
          have hx2 : (x.parts : Int) ≤ 40 := by have := hx.2; omega
          have HX := hide hx
          clear hx hcj
          by_cases hsum : 1 + (m : Int) + x.parts ≤ 40
          · go_wp2
            go_roundw
            case rel => exact ⟨j + 1, by omega, by go_num, by rw [hps.out]; go_num, hsn.out.2 ⟨HG.out, HX.out.1⟩, by rw [hps.out]; omega, hcj2, hsz3, hw3⟩
            case measure => simp [intOf]; omega
          · have HT := hide (HN.out (fun h => hsum (by have := h.2; have := hps.out; omega)))
            go_wp2
            go_ret
            exact ⟨ret_int HT.out.symm, hw3⟩
        · rw [Kind.partsR_no hx]
          have HT := hide (HN.out (fun h => hx ⟨hat.out h.1, by have := h.2; have := hps.out; omega⟩))
          clear hx
          go_wp2
          go_ret
          exact ⟨ret_int HT.out.symm, hw3⟩
      · obtain rfl : j = k.kids.length := by omega
        rw [List.take_length] at *
        have HT := hide (HF.out HG.out hle)
        go_wp2
        go_ret
        exact ⟨ret_int (by rw [HT.out, HP.out]; go_num), HR.out⟩
  · go_enter Tryz.func111, Tryz.ntmps111
    go_wp2_with fail
    refine (l6In_any _ _ _ _).mono ?_
    rintro e w' ⟨rfl, rfl⟩
    rw [tb_true (by omega)]
    go_wp2
    have hb0 : (w.alloc (.cells #[.int .i64 6, .slice A1 0 c1, .slice A2 k.kids.length c2] 38)).cell? ⟨w.heap.size, 2, none⟩ = some (.slice A2 k.kids.length c2) := by go_simp
    have hw2 : Below w.heap.size w (w.alloc (.cells #[.int .i64 6, .slice A1 0 c1, .slice A2 k.kids.length c2] 38)) := hw1
    have hsz : w.heap.size < (w.alloc (.cells #[.int .i64 6, .slice A1 0 c1, .slice A2 k.kids.length c2] 38)).heap.size := by simp
    go_loopw [6, 7] (fun a i wr => ∃ j : Nat, j ≤ k.kids.length ∧ i = .int .i64 j ∧ a = .int .i64 (1 + (Kind.partsS (k.kids.take j) : Int)) ∧ Kind.goodS (k.kids.take j) (lv + 1) ∧ 1 + (Kind.partsS (k.kids.take j) : Int) ≤ 40 ∧ wr.cell? ⟨w.heap.size, 2, none⟩ = some (.slice A2 k.kids.length c2) ∧ w.heap.size < wr.heap.size ∧ Below w.heap.size w wr) (fun _ i _ => k.kids.length - (intOf i).toNat)
    case atStart => exact ⟨0, Nat.zero_le _, rfl, by simp [Kind.partsS], by simp [Kind.goodS], by simp [Kind.partsS], hb0, hsz, hw2⟩
    case round =>
      obtain ⟨j, hj, rfl, rfl, hgood, hle, hcj, hszj, hbj⟩ := hrel
      have HG := hide hgood
      have HR := hide hbj
      clear hgood hbj hw2 hb0 hsz
      by_cases hlt : j < k.kids.length
      · obtain ⟨g, off, vs, fi, rfl, hg, hfi, hvl, hcs, hov⟩ := (HO2.out.below HR.out hf.right).elem Kind.cells_len hlt
        have hov' := hov
        obtain ⟨B1, d1, B2, d2, q1, q2, rfl, v0, x1, x2, rfl⟩ := hov.oKind
        have p0 := hcs 0 _ rfl
        have p1 := hcs 1 _ rfl
        have p2 := hcs 2 _ rfl
        simp only [Nat.add_zero] at p0
        have hfq : Lt (q1 ++ q2) wr.heap.size := ((hf.right).up HR.out).sub hfi
        have HC := hide (HI.out _ (List.getElem_mem hlt))
        have hsn := hide (Kind.goodS_snoc k.kids (lv + 1) j hlt)
        have hps := hide (Kind.partsS_snoc k.kids j hlt)
        have hpl' := Kind.partsS_le k.kids (j + 1)
        have hbl : k.kids[j].bulk ≤ 1048576 := by
          have h1 := Kind.bulkS_snoc k.kids j hlt
          have h2 := Kind.bulkS_le k.kids (j + 1)
          have h3 := HB.out
          omega
        have HO := hide hov'
        have hat := hide (fun (h : Kind.goodS k.kids (lv + 1)) => Kind.goodS_at h hlt)
        clear hov hov' x1 x2 hcs
        generalize k.kids[j] = x at *
        generalize Kind.partsS (k.kids.take j) = m at *
        go_wp2_with fail
        refine (HC.out _ _ (lv + 1) _ _ (by omega) HO.out hfq hbl (by omega) (by omega)).mono ?_
        rintro e w2 ⟨rfl, hb2⟩
        have hw3 := HR.out.trans (hb2.mono HR.out.size)
        have hsz3 : w.heap.size < w2.heap.size := Nat.lt_of_lt_of_le hszj hb2.size
        have hcj2 : w2.cell? ⟨w.heap.size, 2, none⟩ = some (.slice (some ⟨g, off, none⟩) k.kids.length c2) := (hb2.cell (p := ⟨w.heap.size, 2, none⟩) hszj).trans hcj
        by_cases hx : x.fits (lv + 1) 0
        · rw [Kind.partsR_yes hx]
          have hx2 : (x.parts : Int) ≤ 40 := by have := hx.2; omega
          have HX := hide hx
          clear hx hcj
          by_cases hsum : 1 + (m : Int) + x.parts ≤ 40
          · go_wp2
            go_roundw
            case rel => exact ⟨j + 1, by omega, by go_num, by rw [hps.out]; go_num, hsn.out.2 ⟨HG.out, HX.out.1⟩, by rw [hps.out]; omega, hcj2, hsz3, hw3⟩
            case measure => simp [intOf]; omega
          · have HT := hide (HN.out (fun h => hsum (by have := h.2; have := hps.out; omega)))
            go_wp2
            go_ret
            exact ⟨ret_int HT.out.symm, hw3⟩
        · rw [Kind.partsR_no hx]
          have HT := hide (HN.out (fun h => hx ⟨hat.out h.1, by have := h.2; have := hps.out; omega⟩))
          clear hx
          go_wp2
          go_ret
          exact ⟨ret_int HT.out.symm, hw3⟩
      · obtain rfl : j = k.kids.length := by omega
        rw [List.take_length] at *
        have HT := hide (HF.out HG.out hle)
        go_wp2
        go_ret
        exact ⟨ret_int (by rw [HT.out, HP.out]; go_num), HR.out⟩

set_option maxRecDepth 100000 in
set_option maxHeartbeats 400000 in
theorem l2Parts_bad (s : Int) (ns : List ByteArray) (kl : Nat) (f1 : List Nat) (lv : Nat) (w : World) (A1 : Option Addr) (c1 : Nat) (A2 : Option Addr) (c2 : Nat) (hl0 : 1 ≤ lv) (h6 : lv ≤ 6) (hns : ns.length ≤ 1048576) (hkl : kl ≤ 1048576)
    (o1 : Ow w (.s 1 ns.length (ns.flatMap strC)) (.slice A1 ns.length c1) f1) (hf : Lt f1 w.heap.size)
    (hs : ¬ (((s = 1 ∨ s = 2 ∨ s = 3) ∧ ns.length = 0 ∧ kl = 0) ∨ ((s = 4 ∨ s = 6) ∧ ns.length = 0 ∧ kl = 1) ∨ (s = 5 ∧ NamesOk ns ∧ ns.length = kl))) :
    Calls Tryz.prog 111 #[.agg #[.int .i64 s, .slice A1 ns.length c1, .slice A2 kl c2], .int .i64 lv] w fun e w' => e = .returned (.int .i64 (-1)) ∧ Below w.heap.size w w' := by
  have hw1 : Below w.heap.size w (w.alloc (.cells #[.int .i64 s, .slice A1 ns.length c1, .slice A2 kl c2] 38)) := (Below.refl _ _).alloc (Nat.le_refl _) _
  have ho1 := hide (o1.below hw1 hf)
  clear o1
  by_cases h16 : 1 ≤ s ∧ s ≤ 6
  · by_cases h5 : s = 5
    · subst h5
      by_cases hl : ns.length = kl
      · have hn : ¬ NamesOk ns := fun h => hs (.inr (.inr ⟨rfl, h, hl⟩))
        have hq : ((ns.length : Int) != (kl : Int)) = false := by rw [bne_eq_false_iff_eq]; omega
        clear hl hs
        go_enter Tryz.func111, Tryz.ntmps111
        go_wp2_with fail
        refine (l6In_any _ _ _ _).mono ?_
        rintro e w' ⟨rfl, rfl⟩
        rw [tb_true (by omega)]
        go_wp2_with fail
        refine (l1Rise_any _ _ _ _ _ _ ho1.out).mono ?_
        rintro e w' ⟨rfl, q, rfl⟩
        rw [tb_false hn]
        go_wp2
        go_ret
        exact ⟨rfl, below_drewN hw1 q⟩
      · have hq : ((ns.length : Int) != (kl : Int)) = true := by rw [bne_iff_ne]; omega
        clear hl hs
        go_enter Tryz.func111, Tryz.ntmps111
        go_wp2_with fail
        refine (l6In_any _ _ _ _).mono ?_
        rintro e w' ⟨rfl, rfl⟩
        rw [tb_true (by omega)]
        go_wp2
        go_ret
        exact ⟨rfl, hw1⟩
    · have b5 := bne_f h5
      have b5' : (s != 5) = true := by rw [bne_iff_ne]; omega
      by_cases hn : ns.length = 0
      · have hk : (s < 4 ∧ kl ≠ 0) ∨ ((s = 4 ∨ s = 6) ∧ kl ≠ 1) := by omega
        rw [hn] at hw1 ⊢
        clear hs ho1 hn
        rcases hk with ⟨h4, hk⟩ | ⟨h46, hk⟩
        · have hk0 : (0 : Int) < (kl : Int) := by omega
          go_enter Tryz.func111, Tryz.ntmps111
          go_wp2_with fail
          refine (l6In_any _ _ _ _).mono ?_
          rintro e w' ⟨rfl, rfl⟩
          rw [tb_true (by omega)]
          go_wp2
          go_ret
          exact ⟨rfl, hw1⟩
        · have hq : ((kl : Int) != 1) = true := by rw [bne_iff_ne]; omega
          rcases h46 with rfl | rfl
          all_goals
            go_enter Tryz.func111, Tryz.ntmps111
            go_wp2_with fail
            refine (l6In_any _ _ _ _).mono ?_
            rintro e w' ⟨rfl, rfl⟩
            rw [tb_true (by omega)]
            go_wp2
            go_ret
            exact ⟨rfl, hw1⟩
      · have hn1 : (0 : Int) < (ns.length : Int) := by omega
        have hn2 : ns ≠ [] := fun h => hn (by rw [h]; rfl)
        clear hs
        go_enter Tryz.func111, Tryz.ntmps111
        go_wp2_with fail
        refine (l6In_any _ _ _ _).mono ?_
        rintro e w' ⟨rfl, rfl⟩
        rw [tb_true (by omega)]
        go_wp2
        go_ret
        exact ⟨rfl, hw1⟩
  · clear hs
    go_enter Tryz.func111, Tryz.ntmps111
    go_wp2_with fail
    refine (l6In_any _ _ _ _).mono ?_
    rintro e w' ⟨rfl, rfl⟩
    rw [tb_false h16]
    go_wp2
    go_ret
    exact ⟨rfl, hw1⟩


set_option maxRecDepth 100000 in
theorem partsKind_of (k : Kind) (ih : ∀ x ∈ k.kids, PartsKind x) : PartsKind k := by
  intro us fp lv z w hz ho hf hbk hl0 hl1
  obtain ⟨A1, c1, A2, c2, f1, f2, rfl, w0, o1, o2, rfl⟩ := ho.oKind
  subst hz
  have hkb := k.bulk_eq; unfold bulkStrs at hkb
  by_cases h6 : lv ≤ 6
  · by_cases hs : k.shape
    · rcases k.shape_iff.1 hs with ⟨h1, h2, h3⟩ | ⟨h1, h2, h3⟩ | ⟨h1, h2, h3⟩
      · have e1 : k.kids = [] := List.eq_nil_of_length_eq_zero h3
        have hp : k.partsR lv = 1 := by
          have hp1 : k.parts = 1 := by rw [Kind.parts_eq, e1]; rfl
          rw [Kind.partsR_yes ⟨(Kind.good_iff _ _).2 ⟨h6, hs, by rw [e1]; trivial⟩, by rw [hp1]; decide⟩, hp1]
          rfl
        rw [hp, h2, h3]
        exact l2Parts_leaf _ _ _ _ _ _ _ (by omega) (by omega) hl0 h6
      · have := partsKind_one k ih hs k.sort rfl h1 h3 [] lv w A1 c1 A2 c2 f1 f2 o2 hf hbk hl0 h6
        rw [h2]
        exact this
      · exact partsKind_five k ih hs h1 h2 h3 [] lv w A1 c1 A2 c2 f1 f2 o1 o2 hf hbk hl0 h6
    · rw [Kind.partsR_no (fun h => hs ((Kind.good_iff _ _).1 h.1).2.1)]
      exact l2Parts_bad k.sort k.names k.kids.length f1 lv w A1 c1 A2 c2 hl0 h6 (by omega) (by omega) o1 hf.left (fun h => hs (k.shape_iff.2 h))
  · rw [Kind.partsR_no (fun h => h6 ((Kind.good_iff _ _).1 h.1).1)]
    clear ih ho
    go_enter Tryz.func111, Tryz.ntmps111
    go_wp2
    go_ret
    exact ⟨rfl, (Below.refl _ _).alloc (Nat.le_refl _) _⟩

theorem partsKind_any (k : Kind) : PartsKind k := Kind.ind partsKind_of k
end Go.Proofs.YtnaecdoeldoipaaGreatDoor
set_option linter.unusedVariables false
set_option linter.unusedSimpArgs false
namespace Go.Proofs.YtnaecdoeldoipaaGreatDoor
open Go.ChangeShapes Go.WideShapes Go.ChangeAt Go.RowKit

def Kind.ok (k : Kind) : Prop := k.fits 1 0

set_option maxRecDepth 100000 in
theorem implKindOk_any (k : Kind) (us : List Value) (fp : List Nat) (w : World) (ho : OwC w k.cells us fp) (hf : Lt fp w.heap.size) (hbk : k.bulk ≤ 1048576) :
    Calls Tryz.prog 60 #[.agg us.toArray] w fun e w' => e = .returned (.bool (tb k.ok)) ∧ Below w.heap.size w w' := by
  have ho' := ho
  obtain ⟨A1, c1, A2, c2, f1, f2, rfl, w0, o1, o2, rfl⟩ := ho.oKind
  have hw1 : Below w.heap.size w ((w.alloc (.cells #[.int .i64 k.sort, .slice A1 k.names.length c1, .slice A2 k.kids.length c2] 38)).alloc (.cells #[.int .i64 0] 3)) := ((Below.refl _ _).alloc (Nat.le_refl _) _).alloc (by simp) _
  have HO := hide (ho'.below hw1 hf)
  have hf2 := (hf.mono hw1.size)
  have hnm : w.heap.size + 1 ∉ f1 ++ f2 := hf.not_mem (by omega)
  clear ho ho' o1 o2
  go_enter Tryz.func60, Tryz.ntmps60
  go_wp2_with fail
  refine (lookKind_any k _ _ 1 _ 0 _ _ (by omega) HO.out hf2 hbk (by omega) (by omega) (by omega) (by omega) (by go_simp) (by go_simp) hnm).mono ?_
  rintro e w2 ⟨rfl, _, _, hg⟩
  have hb : Below w.heap.size w w2 := ⟨hg.os.trans hw1.os, hg.tape.trans hw1.tape, hg.output.trans hw1.output, Nat.le_trans hw1.size hg.size, fun i hi => (hg.block i (by simp; omega) (fun e => by injection e with e; omega)).trans (hw1.block i hi)⟩
  go_wp2
  go_ret
  exact ⟨rfl, hb⟩

set_option maxRecDepth 100000 in
theorem specKindOk_any (k : Kind) (us : List Value) (fp : List Nat) (w : World) (ho : OwC w k.cells us fp) (hf : Lt fp w.heap.size) (hbk : k.bulk ≤ 1048576) :
    Calls Tryz.prog 58 #[.agg us.toArray] w fun e w' => e = .returned (.bool (tb k.ok)) ∧ Below w.heap.size w w' := by
  have ho' := ho
  obtain ⟨A1, c1, A2, c2, f1, f2, rfl, w0, o1, o2, rfl⟩ := ho.oKind
  have hw1 : Below w.heap.size w (w.alloc (.cells #[.int .i64 k.sort, .slice A1 k.names.length c1, .slice A2 k.kids.length c2] 38)) := (Below.refl _ _).alloc (Nat.le_refl _) _
  have HO := hide (ho'.below hw1 hf)
  have hf2 := (hf.mono hw1.size)
  clear ho ho' o1 o2
  go_enter Tryz.func58, Tryz.ntmps58
  go_wp2_with fail
  refine (partsKind_any k _ _ 1 _ _ (by omega) HO.out hf2 hbk (by omega) (by omega)).mono ?_
  rintro e w2 ⟨rfl, hb⟩
  have hb' := hw1.trans (hb.mono hw1.size)
  by_cases h : k.ok
  · rw [Kind.partsR_yes h]
    have HT := hide (tb_true h)
    have hp := k.parts_eq
    have h1 : (0 : Int) < k.parts := by omega
    have h2 : (k.parts : Int) ≤ 40 := by have := h.2; omega
    clear hp h
    go_wp2
    go_ret
    exact ⟨ret_bool (by rw [HT.out]; simpa using h1), hb'⟩
  · rw [Kind.partsR_no h]
    have HT := hide (tb_false h)
    clear h
    go_wp2
    go_ret
    exact ⟨ret_bool HT.out.symm, hb'⟩

end Go.Proofs.YtnaecdoeldoipaaGreatDoor
set_option linter.unusedVariables false
set_option linter.unusedSimpArgs false
namespace Go.Proofs.YtnaecdoeldoipaaGreatDoor
open Go.ChangeShapes Go.WideShapes Go.ChangeAt Go.RowKit

/-- the reader in block g: the bytes L, so many picks were made -/
def RdD (w : World) (g : Nat) (L : List UInt8) (k : Nat) : Prop := ∃ (A : Option Addr) (c : Nat) (fp : List Nat), Row w g 104 [.slice A L.length c, .int .i64 (k : Int)] ∧
  Ow w (.s 1 L.length (L.flatMap byteC)) (.slice A L.length c) fp ∧ Lt fp g ∧ L.length ≤ 2000
theorem RdD.lt {w : World} {g : Nat} {L : List UInt8} {k : Nat} (h : RdD w g L k) : g < w.heap.size := by
  obtain ⟨_, _, _, hr, _⟩ := h
  exact hr.lt
theorem RdD.low {w w' : World} {g : Nat} {L : List UInt8} {k B : Nat} (h : RdD w g L k) (hb : Below B w w') (hB : g < B) : RdD w' g L k := by
  obtain ⟨A, c, fp, hr, ho, hfp, hL⟩ := h
  exact ⟨A, c, fp, hr.below hb hB, ho.below hb (hfp.mono (Nat.le_of_lt hB)), hfp, hL⟩
theorem RdD.below {w w' : World} {g : Nat} {L : List UInt8} {k : Nat} (h : RdD w g L k) (hb : Below w.heap.size w w') : RdD w' g L k := h.low hb h.lt
def PickOut (g : Nat) (L : List UInt8) (k n : Nat) (w : World) (e : Ending) (w' : World) : Prop :=
  ∃ r : Nat, e = .returned (.int .i64 (r : Int)) ∧ r < n ∧ RdD w' g L (k + 1) ∧ w.grownBy w' (some g)
theorem xor_nat (a b : Nat) (ha : a < 9223372036854775808) (hb : b < 9223372036854775808) : bits .xor .i64 (a : Int) (b : Int) = ((a ^^^ b : Nat) : Int) := by
  have hx : a ^^^ b < 2 ^ 63 := Nat.xor_lt_two_pow (by omega) (by omega)
  have h1 : (BitVec.ofInt 64 (a : Int)).toNat = a := by
    rw [BitVec.ofInt_natCast, BitVec.toNat_ofNat]; exact Nat.mod_eq_of_lt (by omega)
  have h2 : (BitVec.ofInt 64 (b : Int)).toNat = b := by
    rw [BitVec.ofInt_natCast, BitVec.toNat_ofNat]; exact Nat.mod_eq_of_lt (by omega)
  show IntKind.i64.wrap ((BitVec.ofInt 64 (a : Int) ^^^ BitVec.ofInt 64 (b : Int)).toNat : Int) = _
  rw [BitVec.toNat_xor, h1, h2, IntKind.wrap_i64]
  omega
set_option maxRecDepth 100000 in
set_option maxHeartbeats 2000000 in
theorem pick_any {L : List UInt8} {k g n : Nat} {w : World} (h : RdD w g L k) (hk : k ≤ 1000000000) (hn : 1 ≤ n) (hn2 : n ≤ 1000000) :
    Calls Tryz.prog 48 #[.pointer (some ⟨g, 0, none⟩), .int .i64 (n : Int)] w (PickOut g L k n w) := by
  obtain ⟨A, c, fp, hr, ho, hfp, hL⟩ := h
  have r0 := hr.cell 0
  have r1 := hr.cell 1
  have lr := hr.lt
  have f1 := hr.frozen 1
  have HR := hide hr
  have HO := hide ho
  have hn' : ¬ ((n : Int) < 1) := by omega
  have HFIN := hide (fun (r : Nat) (W : World) (hW : w.grownBy W (some g)) (hrow : Row W g 104 [.slice A L.length c, .int .i64 ((k : Int) + 1)]) (hrn : r < n) => show PickOut g L k n w (.returned (.int .i64 (r : Int))) W from
    ⟨r, rfl, hrn, ⟨A, c, fp, by rw [show ((k + 1 : Nat) : Int) = (k : Int) + 1 by omega]; exact hrow, HO.out.below (below_of_grown hW (Nat.le_refl g) (Nat.le_of_lt lr)) hfp, hfp, hL⟩, hW⟩)
  have HN := hide hn
  clear hr ho
  by_cases h0 : L.length = 0
  · rw [h0] at r0
    go_enter Tryz.func48, Tryz.ntmps48
    go_wp2
    go_ret
    exact HFIN.out 0 _ (only_setCell (p := ⟨g, 1, none⟩) (grown_refl w (some g)) (.inl rfl) _) (HR.out.set 1 _) HN.out
  have hl0 : ¬ ((L.length : Int) = 0) := by omega
  have hlb : ((L.length : Int) == 0) = false := beq_eq_false_iff_ne.2 hl0
  have hnb : ¬ ((n : Int) = 0) := by omega
  by_cases hkl : k < L.length
  · obtain ⟨gb, off, rfl, hgm, hcell, -⟩ := bytes_at HO.out hkl
    have hgl := hfp gb hgm
    have hx := (L[k]).toNat_lt
    have hkI : (k : Int) < (L.length : Int) := by omega
    generalize L[k] = b at *
    obtain ⟨r, hr⟩ : ∃ r : Nat, b.toNat % n = r := ⟨_, rfl⟩
    have hmr : Int.tmod (b.toNat : Int) (n : Int) = (r : Int) := by rw [← hr]; exact (Int.ofNat_tmod _ _).symm
    have HRN := hide (show r < n by rw [← hr]; exact Nat.mod_lt _ hn)
    clear hr h0
    go_enter Tryz.func48, Tryz.ntmps48
    go_wp2
    go_ret
    exact HFIN.out r _ (only_setCell (p := ⟨g, 1, none⟩) (grown_refl w (some g)) (.inl rfl) _) (HR.out.set 1 _) HRN.out
  · obtain ⟨i1, hi1⟩ : ∃ i : Nat, k % L.length = i := ⟨_, rfl⟩
    obtain ⟨i2, hi2⟩ : ∃ i : Nat, (k * 7 + 3) % L.length = i := ⟨_, rfl⟩
    have h1l : i1 < L.length := by rw [← hi1]; exact Nat.mod_lt _ (by omega)
    have h2l : i2 < L.length := by rw [← hi2]; exact Nat.mod_lt _ (by omega)
    obtain ⟨gb, off, rfl, hgm, hcell, -⟩ := bytes_at HO.out h1l
    obtain ⟨gb', off', e, -, hcell2, -⟩ := bytes_at HO.out h2l
    injection e with e
    injection e with e1 e2 _
    subst e1 e2
    have hgl := hfp gb hgm
    have hx1 := (L[i1]).toNat_lt
    have hx2 := (L[i2]).toNat_lt
    generalize L[i1] = b1 at *
    generalize L[i2] = b2 at *
    obtain ⟨q, hq⟩ : ∃ q : Nat, k / L.length = q := ⟨_, rfl⟩
    have hqk : q ≤ k := by rw [← hq]; exact Nat.div_le_self _ _
    obtain ⟨k7, hk7⟩ : ∃ y : Nat, k * 7 = y := ⟨_, rfl⟩
    have Wk7 : IntKind.i64.wrap ((k : Int) * 7) = ((k7 : Nat) : Int) := by rw [wrapI _ (by omega) (by omega)]; omega
    obtain ⟨k73, hk73⟩ : ∃ y : Nat, k7 + 3 = y := ⟨_, rfl⟩
    have Wk73 : IntKind.i64.wrap ((k7 : Int) + 3) = ((k73 : Nat) : Int) := by rw [wrapI _ (by omega) (by omega)]; omega
    obtain ⟨xa, hxa⟩ : ∃ y : Nat, b1.toNat * 131 = y := ⟨_, rfl⟩
    have Wxa : IntKind.i64.wrap ((b1.toNat : Int) * 131) = ((xa : Nat) : Int) := by rw [wrapI _ (by omega) (by omega)]; omega
    obtain ⟨xb, hxb⟩ : ∃ y : Nat, b2.toNat * 1117 = y := ⟨_, rfl⟩
    have Wxb : IntKind.i64.wrap ((b2.toNat : Int) * 1117) = ((xb : Nat) : Int) := by rw [wrapI _ (by omega) (by omega)]; omega
    obtain ⟨xc, hxc⟩ : ∃ y : Nat, xa + xb = y := ⟨_, rfl⟩
    have Wxc : IntKind.i64.wrap ((xa : Int) + (xb : Int)) = ((xc : Nat) : Int) := by rw [wrapI _ (by omega) (by omega)]; omega
    obtain ⟨xd, hxd⟩ : ∃ y : Nat, k * 29 = y := ⟨_, rfl⟩
    have Wxd : IntKind.i64.wrap ((k : Int) * 29) = ((xd : Nat) : Int) := by rw [wrapI _ (by omega) (by omega)]; omega
    obtain ⟨xe, hxe⟩ : ∃ y : Nat, xc + xd = y := ⟨_, rfl⟩
    have Wxe : IntKind.i64.wrap ((xc : Int) + (xd : Int)) = ((xe : Nat) : Int) := by rw [wrapI _ (by omega) (by omega)]; omega
    obtain ⟨xf, hxf⟩ : ∃ y : Nat, q * 53 = y := ⟨_, rfl⟩
    have Wxf : IntKind.i64.wrap ((q : Int) * 53) = ((xf : Nat) : Int) := by rw [wrapI _ (by omega) (by omega)]; omega
    obtain ⟨x, hx⟩ : ∃ y : Nat, xe + xf = y := ⟨_, rfl⟩
    have Wx : IntKind.i64.wrap ((xe : Int) + (xf : Int)) = ((x : Nat) : Int) := by rw [wrapI _ (by omega) (by omega)]; omega
    have Wq : IntKind.i64.wrap (q : Int) = (q : Int) := wrapI _ (by omega) (by omega)
    have hxm : x < 9223372036854775808 := by omega
    have hi2' : k73 % L.length = i2 := by rw [← hi2, ← hk73, ← hk7]
    obtain ⟨y, hy⟩ : ∃ y : Nat, x / 64 = y := ⟨_, rfl⟩
    obtain ⟨z, hz⟩ : ∃ z : Nat, x ^^^ y = z := ⟨_, rfl⟩
    obtain ⟨r, hr⟩ : ∃ r : Nat, z % n = r := ⟨_, rfl⟩
    have m1 : Int.tmod (k : Int) (L.length : Int) = (i1 : Int) := by rw [← hi1]; exact (Int.ofNat_tmod _ _).symm
    have m2 : Int.tmod (k73 : Int) (L.length : Int) = (i2 : Int) := by rw [← hi2']; exact (Int.ofNat_tmod _ _).symm
    have m3 : Int.tmod (z : Int) (n : Int) = (r : Int) := by rw [← hr]; exact (Int.ofNat_tmod _ _).symm
    have hd : Int.tdiv (k : Int) (L.length : Int) = (q : Int) := by rw [← hq]; exact (Int.ofNat_tdiv _ _).symm
    have hd2 : Int.tdiv (x : Int) 64 = (y : Int) := by rw [← hy]; exact (Int.ofNat_tdiv _ 64).symm
    have hyx : y ≤ x := by rw [← hy]; exact Nat.div_le_self _ _
    have hxr : bits .xor .i64 (x : Int) (y : Int) = (z : Int) := by rw [← hz]; exact xor_nat x y hxm (by omega)
    have HRN := hide (show r < n by rw [← hr]; exact Nat.mod_lt _ hn)
    have hkI : ¬ ((k : Int) < (L.length : Int)) := by omega
    clear hr hz hy hq hi1 hi2 hi2' hk7 hk73 hxa hxc hxd hxe hxf hx h0
    go_enter Tryz.func48, Tryz.ntmps48
    go_wp2
    go_quiet (fail)
    go_wp2
    go_ret
    exact HFIN.out r _ (only_drewN (only_setCell (p := ⟨g, 1, none⟩) (grown_refl w (some g)) (.inl rfl) _) _) ((HR.out.set 1 _).drewN _) HRN.out
def OpenOut (w : World) (e : Ending) (w' : World) : Prop := ∃ L : List UInt8, e = .returned (.pointer (some ⟨w.heap.size, 0, none⟩)) ∧ RdD w' w.heap.size L 0 ∧ Below w.heap.size w w'
set_option maxRecDepth 100000 in
set_option maxHeartbeats 1000000 in
theorem open_any (l : List UInt8) (A : Option Addr) (n c : Nat) (fp : List Nat) (w : World) (ho : Ow w (.s 1 l.length (l.flatMap byteC)) (.slice A n c) fp) (hf : Lt fp w.heap.size) (hsz : l.length ≤ 1048576) :
    Calls Tryz.prog 42 #[.slice A n c] w (OpenOut w) := by
  obtain ⟨rfl, hnc, hcm⟩ := ho.nlen
  have HO := hide ho
  clear ho
  have HB := hide (fun (o : Obj) => (Below.refl w.heap.size w).alloc (Nat.le_refl _) o)
  by_cases hl : 2000 < l.length
  · have hlI : (2000 : Int) < (l.length : Int) := by omega
    obtain ⟨gb, off, rfl, hgl, hml, hcell⟩ := bytes_part HO.out hf (Below.refl _ _) 0 2000 (by omega) (by omega)
    simp only [List.drop_zero, Nat.add_zero] at hml hcell
    obtain ⟨fp2, ho2, hf2⟩ := bytes_mk (c := c) hcell (by omega) hcm
    have hcI : (2000 : Int) ≤ (c : Int) := by omega
    have HO2 := hide ho2
    have HF2 := hide hf2
    have HML := hide hml
    clear ho2 hf2 hcell hml hl
    go_enter Tryz.func42, Tryz.ntmps42
    go_wp2
    go_ret
    refine ⟨l.take 2000, rfl, ⟨_, c, fp2, ?_, HO2.out.alloc (fun b hb => by rw [HF2.out b hb]; exact hgl) _, fun b hb => by rw [HF2.out b hb]; exact hgl, by rw [HML.out]; exact Nat.le_refl _⟩, HB.out _⟩
    rw [HML.out]
    exact Row.new w _ _
  · have hlI : ¬ ((2000 : Int) < (l.length : Int)) := by omega
    have hl2 : l.length ≤ 2000 := by omega
    clear hl
    go_enter Tryz.func42, Tryz.ntmps42
    go_wp2
    go_ret
    exact ⟨l, rfl, ⟨A, c, fp, Row.new w _ _, HO.out.alloc hf _, hf, hl2⟩, HB.out _⟩
end Go.Proofs.YtnaecdoeldoipaaGreatDoor
set_option linter.unusedVariables false
set_option linter.unusedSimpArgs false
namespace Go.Proofs.YtnaecdoeldoipaaGreatDoor
open Go.ChangeShapes Go.WideShapes Go.ChangeAt Go.RowKit

theorem half_mul (n s p q : Nat) (hp : n * s = p) (hq : n / 2 * (s + s) = q) : p = n % 2 * s + q := by
  subst hp hq
  have e : n = n % 2 + 2 * (n / 2) := by omega
  calc n * s = (n % 2 + 2 * (n / 2)) * s := by rw [← e]
    _ = n % 2 * s + n / 2 * (s + s) := by rw [Nat.add_mul, Nat.mul_assoc, Nat.mul_comm 2, Nat.mul_assoc, Nat.mul_comm s 2, Nat.two_mul]
set_option maxRecDepth 100000 in
set_option maxHeartbeats 1000000 in
theorem many_any (s : ByteArray) (n : Nat) (w : World) (hs : s.size = 1) (hn : n ≤ 10000) :
    Calls Tryz.prog 50 #[.string s, .int .i64 (n : Int)] w fun e w' => ∃ o : ByteArray, e = .returned (.string o) ∧ o.size = n ∧ w' = w := by
  go_enter Tryz.func50, Tryz.ntmps50
  go_wp2
  go_loopw [0, 1, 5] (fun sv nv ov wr => (∃ (s' : ByteArray) (n' : Nat) (o : ByteArray), sv = .string s' ∧ nv = .int .i64 (n' : Int) ∧ ov = .string o ∧ o.size + n' * s'.size = n ∧ n' ≤ n ∧ s'.size ≤ 20000 ∧ 0 < s'.size) ∧ wr = w) (fun _ nv _ _ => (intOf nv).toNat)
  case atStart => exact ⟨⟨s, n, .empty, rfl, rfl, rfl, by rw [hs]; show 0 + n * 1 = n; omega, Nat.le_refl _, by omega, by omega⟩, rfl⟩
  case round =>
    obtain ⟨⟨s', n', o, rfl, rfl, rfl, he, hnn, hss, hs0⟩, rfl⟩ := hrel
    by_cases h0 : n' = 0
    · subst h0
      have HE := hide (show o.size = n by omega)
      clear he
      go_wp2
      go_ret
      exact ⟨o, rfl, HE.out, rfl⟩
    · obtain ⟨p, hp⟩ : ∃ p, n' * s'.size = p := ⟨_, rfl⟩
      obtain ⟨q, hq⟩ : ∃ q, n' / 2 * (s'.size + s'.size) = q := ⟨_, rfl⟩
      obtain ⟨h, hh⟩ : ∃ h, n' / 2 = h := ⟨_, rfl⟩
      have hm := half_mul n' s'.size p q hp hq
      have hsp : s'.size ≤ p := by rw [← hp]; exact Nat.le_mul_of_pos_left _ (by omega)
      rw [hp] at he
      have hpos : (0 : Int) < (n' : Int) := by omega
      have t1 : Int.tdiv (n' : Int) 2 = (h : Int) := by rw [← hh]; exact (Int.ofNat_tdiv _ 2).symm
      have hhn : h ≤ n' ∧ h < n' := by omega
      have HQ := hide (show h * (s'.size + s'.size) = q by rw [← hh]; exact hq)
      have s1 : ¬ (9223372036854775807 < s'.size + s'.size) := by omega
      have s2 : ¬ (9223372036854775807 < o.size + s'.size) := by omega
      clear hp hq hh
      rcases Nat.mod_two_eq_zero_or_one n' with h2 | h2
      · have t2 : Int.tmod (n' : Int) 2 = 0 := by rw [show ((n' : Int)).tmod 2 = ((n' % 2 : Nat) : Int) from (Int.ofNat_tmod _ 2).symm, h2]; rfl
        rw [h2] at hm
        clear h2
        go_wp2
        go_roundw
        case rel => exact ⟨⟨s' ++ s', h, o, rfl, rfl, rfl, by rw [ByteArray.size_append, HQ.out]; omega, by omega, by rw [ByteArray.size_append]; omega, by rw [ByteArray.size_append]; omega⟩, by trivial⟩
        case measure => simp [intOf]; omega
      · have t2 : Int.tmod (n' : Int) 2 = 1 := by rw [show ((n' : Int)).tmod 2 = ((n' % 2 : Nat) : Int) from (Int.ofNat_tmod _ 2).symm, h2]; rfl
        rw [h2] at hm
        clear h2
        go_wp2
        go_roundw
        case rel => exact ⟨⟨s' ++ s', h, o ++ s', rfl, rfl, rfl, by rw [ByteArray.size_append, ByteArray.size_append, HQ.out]; omega, by omega, by rw [ByteArray.size_append]; omega, by rw [ByteArray.size_append]; omega⟩, by trivial⟩
        case measure => simp [intOf]; omega
def OfOut (g : Nat) (L : List UInt8) (k : Nat) (l : List ByteArray) (w : World) (e : Ending) (w' : World) : Prop :=
  ∃ x ∈ l, e = .returned (.string x) ∧ RdD w' g L (k + 1) ∧ w.grownBy w' (some g)
set_option maxRecDepth 100000 in
theorem of_any {L : List UInt8} {k g : Nat} {w : World} (h : RdD w g L k) (hk : k ≤ 1000000000) (l : List ByteArray) (gl c : Nat) (hl0 : 1 ≤ l.length) (hl : l.length ≤ 1000) (hgl : gl ≠ g) (hlt : gl < w.heap.size) (hc : ∀ j (hj : j < l.length), w.cell? ⟨gl, j, none⟩ = some (.string l[j])) :
    Calls Tryz.prog 49 #[.pointer (some ⟨g, 0, none⟩), .slice (some ⟨gl, 0, none⟩) l.length c] w (OfOut g L k l w) := by
  have HP := hide (pick_any h hk hl0 (by omega))
  have HC := hide hc
  clear h hc
  go_enter Tryz.func49, Tryz.ntmps49
  go_wp2_with fail
  refine HP.out.mono ?_
  rintro e w2 ⟨r, rfl, hr, h2, hg2⟩
  have hcell := (World.cell?_of_block (a := ⟨gl, r, none⟩) (hg2.block gl hlt (fun e => by injection e with e; exact hgl e))).trans (HC.out r hr)
  have HM := hide (List.getElem_mem hr)
  have H2 := hide h2
  have HG := hide hg2
  have hl2 := Nat.lt_of_lt_of_le hlt hg2.size
  generalize l[r] = x at *
  clear h2 hg2
  have hrI : (r : Int) < (l.length : Int) := by omega
  go_wp2
  go_ret
  exact ⟨x, HM.out, rfl, H2.out, HG.out⟩
end Go.Proofs.YtnaecdoeldoipaaGreatDoor
set_option linter.unusedVariables false
set_option linter.unusedSimpArgs false
namespace Go.Proofs.YtnaecdoeldoipaaGreatDoor
open Go.ChangeShapes Go.WideShapes Go.ChangeAt Go.RowKit

theorem Kind.bulk_leaf (s : Int) : (Kind.mk s [] []).bulk = 0 := rfl
theorem Kind.bulk_one (s : Int) (x : Kind) : (Kind.mk s [] [x]).bulk = 1 + x.bulk := by
  rw [Kind.bulk_eq]
  simp only [Kind.names, Kind.kids, Kind.bulkS, List.length_cons, List.length_nil]
  have : bulkStrs [] = 0 := rfl
  omega

theorem Kind.bulk_form (ns : List ByteArray) (ks : List Kind) : (Kind.mk 5 ns ks).bulk = bulkStrs ns + ks.length + Kind.bulkS ks := Kind.bulk_eq _
theorem kbulkS_snoc (ks : List Kind) (k : Kind) : Kind.bulkS (ks ++ [k]) = Kind.bulkS ks + k.bulk := by
  rw [Kind.bulkS_append]
  simp [Kind.bulkS]
abbrev kindMk (s : Int) : Value → Value → List Value := fun a b => [.int .i64 s, a, b]
/-- a schema as it grows, in its block -/
abbrev KindAt (wr : World) (b : Nat) (s : Int) (v1 : Value) (l1 : List ByteArray) (us1 : List Value) (v2 : Value) (l2 : List Kind) (us2 : List Value) (fi2 : List Nat) : Prop :=
  Two wr b (b + 1) 38 (kindMk s) 9 1 strC v1 l1 us1 [] 38 3 Kind.cells v2 l2 us2 fi2
theorem info_Kind' : (Tryz.prog.info? 38).map (fun i => (i.zero, i.size, i.bytes)) = some (some (.agg #[.int .i64 0, .slice none 0 0, .slice none 0 0]), 3, 56) := by kernel_rfl
theorem kleaf_ow (W : World) (s : Int) (hs : (Lit.int .i64 s).wf = true) : OwC W (Kind.mk s [] []).cells [.int .i64 s, .slice none 0 0, .slice none 0 0] [] :=
  OwC.mKind (x := Kind.mk s [] []) (v1 := .slice none 0 0) (v2 := .slice none 0 0) (f1 := []) (f2 := []) hs (Ow.nil_ W 1 strC) (Ow.nil_ W 3 Kind.cells)
/-- a schema with one kid, whose cells lie in a block of their own -/
theorem kone_ow {W : World} {s : Int} {k : Kind} {us : List Value} {fq : List Nat} (hs : (Lit.int .i64 s).wf = true) (ho : OwC W k.cells us fq) (g : Nat) (hr : Row W g 38 us) :
    OwC W (Kind.mk s [] [k]).cells [.int .i64 s, .slice none 0 0, .slice (some ⟨g, 0, none⟩) 1 1] (g :: fq) := by
  have h2 : Ow W (.s 3 [k].length ([k].flatMap Kind.cells)) (.slice (some ⟨g, 0, none⟩) 1 1) (g :: fq) := by
    unfold Ow
    refine ⟨by simp [Kind.cells_len], _, _, rfl, Nat.le_refl _, by unfold maxLen; omega, .inr ⟨by simp, g, 0, fq, rfl, ?_, rfl⟩⟩
    rw [List.flatMap_singleton]
    exact OwC.row _ ho (fun j u hj => by rw [Nat.zero_add, hr.cell]; exact hj)
  have h := OwC.mKind (x := Kind.mk s [] [k]) (v1 := .slice none 0 0) (f1 := []) hs (Ow.nil_ W 1 strC) h2
  rw [List.nil_append] at h
  exact h
theorem putN_alloc (o : Obj) {g : Nat} : ∀ (vs : List Value) (i : Nat) (w : World), g < w.heap.size → putN (w.alloc o) g i vs = (putN w g i vs).alloc o
  | [], _, _, _ => rfl
  | v :: r, i, w, h => by
    unfold putN
    rw [World.setCell_alloc_past _ _ _ _ h]
    exact putN_alloc o r (i + 1) _ (by simpa [World.setCell] using h)
theorem New.consHi {w : World} {fp : List Nat} {lo g : Nat} (h : New w fp lo) (hg : g ∉ fp) (hl : lo ≤ g) (hu : Unf w g) (hs : g < w.heap.size) : New w (g :: fp) lo :=
  ⟨h.fr.cons hl hs, List.nodup_cons.2 ⟨hg, h.nd⟩, fun b hb => by
    rcases List.mem_cons.1 hb with rfl | hb
    · exact hu
    · exact h.uf b hb⟩
theorem kform_ow {wr : World} {b : Nat} {s : Int} {v1 v2 : Value} {l1 : List ByteArray} {us1 : List Value} {l2 : List Kind} {us2 : List Value} {fi2 : List Nat} (hT : KindAt wr b s v1 l1 us1 v2 l2 us2 fi2) (hs : (Lit.int .i64 s).wf = true) :
    ∃ fq, OwC wr (Kind.mk s l1 l2).cells (kindMk s v1 v2) fq ∧ New wr fq (b + 1) := by
  obtain ⟨p1, p2, o1, o2, hn⟩ := hT.toOw
  exact ⟨p1 ++ p2, OwC.mKind (x := Kind.mk s l1 l2) hs o1 o2, hn⟩
end Go.Proofs.YtnaecdoeldoipaaGreatDoor
set_option linter.unusedVariables false
set_option linter.unusedSimpArgs false
namespace Go.Proofs.YtnaecdoeldoipaaGreatDoor
open Go.ChangeShapes Go.WideShapes Go.ChangeAt Go.RowKit

def drawNames : List ByteArray := [⟨#[97]⟩, ⟨#[98]⟩, ⟨#[105, 100]⟩, ⟨#[108, 105, 115, 116]⟩, ⟨#[110]⟩, ⟨#[115, 117, 109]⟩, ⟨#[116, 97, 103]⟩, ⟨#[119, 104, 111]⟩]
theorem drawNames_le : ∀ x ∈ drawNames, x.size ≤ 4 := by
  intro x hx
  simp only [drawNames, List.mem_cons, List.not_mem_nil, or_false] at hx
  rcases hx with rfl | rfl | rfl | rfl | rfl | rfl | rfl | rfl <;> decide
def DN : Nat → Nat
  | 0 => 0
  | d + 1 => 24 + 4 * DN d
def DM : Nat → Nat
  | 0 => 1
  | d + 1 => 9 + 4 * DM d
def KDraw (g : Nat) (L : List UInt8) (k N M : Nat) (w : World) (e : Ending) (w' : World) : Prop :=
  ∃ (x : Kind) (us : List Value) (fq : List Nat) (k' : Nat), e = .returned (.agg us.toArray) ∧ OwC w' x.cells us fq ∧ New w' fq w.heap.size ∧ x.bulk ≤ N ∧ k' ≤ k + M ∧ RdD w' g L k' ∧ w.grownBy w' (some g)
theorem l5Names_any (w : World) : Calls Tryz.prog 110 #[] w fun e w' => e = .returned (.slice (some ⟨w.heap.size, 0, none⟩) 8 8) ∧ Row w' w.heap.size 9 (drawNames.map Value.string) ∧ Below w.heap.size w w' := by
  have HB := hide (show Below w.heap.size w (w.alloc (.cells (drawNames.map Value.string).toArray 9)) from (Below.refl _ _).alloc (Nat.le_refl _) _)
  go_enter Tryz.func110, Tryz.ntmps110
  go_wp2
  go_ret
  exact ⟨rfl, Row.new w _ _, HB.out⟩
structure FormD (d k g : Nat) (L : List UInt8) (w : World) (b nb c : Nat) (wr : World) (j : Nat) (v1 : Value) (ns : List ByteArray) (us1 : List Value) (v2 : Value) (ks : List Kind) (us2 : List Value) (fi2 : List Nat) (k' : Nat) : Prop where
  two : Two wr b c 38 (kindMk 5) 9 1 strC v1 ns us1 [] 38 3 Kind.cells v2 ks us2 fi2
  rd : RdD wr g L k'
  hk : ks.length ≤ 4
  hn : ns.length = ks.length
  bk : bulkStrs ns + ks.length + Kind.bulkS ks ≤ ks.length * (6 + DN (d - 1))
  pk : k' ≤ k + 1 + j + ks.length * DM (d - 1)
  gr : w.grownBy wr (some g)
  z : Row wr w.heap.size 38 [.int .i64 0, .slice none 0 0, .slice none 0 0]
  nm : Row wr nb 9 (drawNames.map Value.string)
  sz : c ≤ wr.heap.size
  hj : j ≤ 8
/-- the state with a name more than kids -/
structure FormN (k g : Nat) (L : List UInt8) (w : World) (b nb c : Nat) (wr : World) (v1 : Value) (ns : List ByteArray) (us1 : List Value) (v2 : Value) (ks : List Kind) (us2 : List Value) (fi2 : List Nat) (k' : Nat) : Prop where
  two : Two wr b c 38 (kindMk 5) 9 1 strC v1 ns us1 [] 38 3 Kind.cells v2 ks us2 fi2
  rd : RdD wr g L k'
  gr : w.grownBy wr (some g)
  z : Row wr w.heap.size 38 [.int .i64 0, .slice none 0 0, .slice none 0 0]
  nm : Row wr nb 9 (drawNames.map Value.string)
  sz : c ≤ wr.heap.size
theorem FormD.tick {d k g : Nat} {L : List UInt8} {w : World} {b nb c : Nat} {wr w5 : World} {j : Nat} {v1 : Value} {ns : List ByteArray} {us1 : List Value} {v2 : Value} {ks : List Kind} {us2 : List Value} {fi2 : List Nat} {k' : Nat}
    (h : FormD d k g L w b nb c wr j v1 ns us1 v2 ks us2 fi2 k') (hg : wr.grownBy w5 (some g)) (hr : RdD w5 g L (k' + 1)) (hgw : g < w.heap.size) (hwb : w.heap.size < b) (hbn : b < nb) (hj : j < 8) :
    FormD d k g L w b nb c w5 (j + 1) v1 ns us1 v2 ks us2 fi2 (k' + 1) :=
  ⟨h.two.far hg (by omega), hr, h.hk, h.hn, h.bk, by have := h.pk; omega, only_trans h.gr hg, h.z.grown hg (fun e => by injection e with e; omega), h.nm.grown hg (fun e => by injection e with e; omega), Nat.le_trans h.sz hg.size, hj⟩
theorem FormD.toN {d k g : Nat} {L : List UInt8} {w : World} {b nb c : Nat} {wr : World} {j : Nat} {v1 : Value} {ns : List ByteArray} {us1 : List Value} {v2 : Value} {ks : List Kind} {us2 : List Value} {fi2 : List Nat} {k' : Nat}
    (h : FormD d k g L w b nb c wr j v1 ns us1 v2 ks us2 fi2 k') : FormN k g L w b nb c wr v1 ns us1 v2 ks us2 fi2 k' := ⟨h.two, h.rd, h.gr, h.z, h.nm, h.sz⟩
theorem FormD.fin {d k g : Nat} {L : List UInt8} {w : World} {b nb c : Nat} {wr : World} {j : Nat} {v1 : Value} {ns : List ByteArray} {us1 : List Value} {v2 : Value} {ks : List Kind} {us2 : List Value} {fi2 : List Nat} {k' : Nat}
    (h : FormD d k g L w b nb c wr j v1 ns us1 v2 ks us2 fi2 k') (hd : 24 + 4 * DN (d - 1) = DN d ∧ 9 + 4 * DM (d - 1) = DM d) : (Kind.mk 5 ns ks).bulk ≤ DN d ∧ k' ≤ k + DM d := by
  have h1 := Nat.mul_le_mul_right (6 + DN (d - 1)) h.hk
  have h2 := Nat.mul_le_mul_right (DM (d - 1)) h.hk
  have h3 := h.bk
  have h4 := h.pk
  have h5 := h.hj
  rw [Kind.bulk_form]
  omega
theorem FormD.more {d k g : Nat} {L : List UInt8} {w : World} {b nb c : Nat} {wr w2 : World} {j : Nat} {v1 v1' : Value} {ns : List ByteArray} {us1 us1' : List Value} {v2 v2' : Value} {ks : List Kind} {us2 us2' : List Value} {fi2 fi2' : List Nat} {k' k2 : Nat} {x : ByteArray} {y : Kind}
    (h : FormD d k g L w b nb c wr j v1 ns us1 v2 ks us2 fi2 k') (h4 : ks.length < 4) (hx : x.size ≤ 4) (hy : y.bulk ≤ DN (d - 1)) (hk : k2 ≤ k' + DM (d - 1))
    (hN : FormN k g L w b nb c w2 v1' (ns ++ [x]) us1' v2' (ks ++ [y]) us2' fi2' k2) :
    FormD d k g L w b nb c w2 j v1' (ns ++ [x]) us1' v2' (ks ++ [y]) us2' fi2' k2 := by
  have h3 := h.bk
  have h5 := h.pk
  have hl : (ks ++ [y]).length = ks.length + 1 := by simp
  refine ⟨hN.two, hN.rd, by omega, by rw [hl, List.length_append, h.hn]; rfl, ?_, ?_, hN.gr, hN.z, hN.nm, hN.sz, h.hj⟩
  · rw [bulkStrs_snoc, kbulkS_snoc, hl, Nat.succ_mul]
    omega
  · rw [hl, Nat.succ_mul]
    omega
theorem kform_owC {wr : World} {b c : Nat} {s : Int} {v1 v2 : Value} {l1 : List ByteArray} {us1 : List Value} {l2 : List Kind} {us2 : List Value} {fi2 : List Nat} (hT : Two wr b c 38 (kindMk s) 9 1 strC v1 l1 us1 [] 38 3 Kind.cells v2 l2 us2 fi2) (hs : (Lit.int .i64 s).wf = true) :
    ∃ fq, OwC wr (Kind.mk s l1 l2).cells (kindMk s v1 v2) fq ∧ New wr fq c := by
  obtain ⟨p1, p2, o1, o2, hn⟩ := hT.toOw
  exact ⟨p1 ++ p2, OwC.mKind (x := Kind.mk s l1 l2) hs o1 o2, hn⟩
theorem RdD.drewN {w : World} {g : Nat} {L : List UInt8} {k : Nat} (h : RdD w g L k) (n : Nat) : RdD (w.drewN n) g L k := h.below ⟨rfl, rfl, rfl, Nat.le_refl _, fun _ _ => rfl⟩
def DKind (d : Nat) : Prop := ∀ (L : List UInt8) (k g : Nat) (top : Bool) (w : World), RdD w g L k → k + DM d ≤ 100000000 →
  Calls Tryz.prog 107 #[.pointer (some ⟨g, 0, none⟩), .int .i64 (d : Int), .bool top] w (KDraw g L k (DN d) (DM d) w)
set_option maxRecDepth 100000 in
set_option maxHeartbeats 4000000 in
theorem dKind_of (d : Nat) (hd1 : 1 ≤ d) (hd4 : d ≤ 4) (ih : 1 < d → DKind (d - 1)) : DKind d := by
  intro L k g top w h hk
  have hgw := h.lt
  have HR0 := hide h
  have HIH := hide ih
  have HEND := hide (fun (W : World) (x : Kind) (vs : List Value) (fq : List Nat) (k' : Nat) (ho : OwC W x.cells vs fq) (hn : New W fq (w.heap.size + 1)) (hx : x.bulk ≤ DN d) (hk' : k' ≤ k + DM d) (hr : RdD W g L k') (hg : w.grownBy W (some g)) =>
    show KDraw g L k (DN d) (DM d) w (.returned (.agg vs.toArray)) (putN W w.heap.size 0 vs) from by
      have hgr := setN_grown vs 0 (grown_refl W (some w.heap.size))
      have hno : w.heap.size ∉ fq := hn.out (by omega)
      have hb : Below w.heap.size W (putN W w.heap.size 0 vs) := below_of_grown hgr (Nat.le_refl _) hg.size
      exact ⟨x, vs, fq, k', rfl, ho.grown hgr hn.lt hno, (hn.grown hgr (fun b e => by injection e with e; subst e; exact hno)).mono (by omega), hx, hk', hr.low hb hgw, only_low hg hb (Nat.le_refl _)⟩)
  clear h ih
  go_enter Tryz.func107, Tryz.ntmps107
  go_upto_region 1 with fail
  generalize hw1 : w.alloc _ = w1
  have hb0 : Below w.heap.size w w1 := by rw [← hw1]; exact (Below.refl _ _).alloc (Nat.le_refl _) _
  have HZ := hide (show Row w1 w.heap.size 38 [.int .i64 0, .slice none 0 0, .slice none 0 0] from by rw [← hw1]; exact Row.new w _ _)
  have HR := hide (HR0.out.below hb0)
  have HG := hide (grownBy_below hb0 (some g))
  have HP := hide (pick_any HR.out (n := 10) (by omega) (by omega) (by omega))
  clear hw1 hb0 HR0
  go_wp2_with fail
  refine HP.out.mono ?_
  rintro e w2 ⟨n, rfl, hn, h2, hg2⟩
  have HR2 := hide h2
  have HG2 := hide (only_trans HG.out hg2)
  have HZ2 := hide (HZ.out.grown hg2 (fun e => by injection e with e; omega))
  clear h2 hg2 HP HR HG HZ
  have HDN := hide (show 24 + 4 * DN (d - 1) = DN d ∧ 9 + 4 * DM (d - 1) = DM d from by
    obtain ⟨d', rfl⟩ : ∃ d', d = d' + 1 := ⟨d - 1, by omega⟩
    exact ⟨rfl, rfl⟩)
  go_upto_region 2 with fail
  go_cut [14] from 13 to 15 (fun s14 wx => s14 = .bool (decide ((d : Int) ≤ 1)) ∧ w2 = wx)
  case first =>
    go_wp2_with fail
    go_meet
    exact ⟨rfl, rfl⟩
  obtain ⟨rfl, rfl⟩ := hcut
  rename_i aK
  refine aK _ _ ?_
  go_cut [7] from 15 to 17 (fun s7 wx => ∃ m : Nat, s7 = .int .i64 (m : Int) ∧ (m ≤ 4 ∨ 1 < d) ∧ m < 10 ∧ w2 = wx)
  case first =>
    by_cases hd : d = 1
    · have hdi : (d : Int) ≤ 1 := by omega
      obtain ⟨m, hm⟩ : ∃ m : Nat, n % 5 = m := ⟨_, rfl⟩
      have hm5 : Int.tmod (n : Int) 5 = (m : Int) := by rw [← hm]; exact (Int.ofNat_tmod _ _).symm
      have hmd : m ≤ 4 ∨ 1 < d := by omega
      have hm10 : m < 10 := by omega
      clear hm
      go_wp2_with fail
      go_meet
      exact ⟨m, rfl, hmd, hm10, rfl⟩
    · have hdi : ¬ ((d : Int) ≤ 1) := by omega
      go_wp2_with fail
      go_meet
      exact ⟨n, rfl, by omega, hn, rfl⟩
  case rest =>
    obtain ⟨m, rfl, hmd, hm10, rfl⟩ := hcut
    generalize decide ((d : Int) ≤ 1) = bd
    clear hn
    go_upto_region 4 with fail
    have HIK := hide (fun (h1 : 1 < d) (W : World) (k' : Nat) (hr : RdD W g L k') (hk' : k' + DM (d - 1) ≤ 100000000) => show Calls Tryz.prog 107 #[.pointer (some ⟨g, 0, none⟩), .int .i64 ((d : Int) - 1), .bool false] W (KDraw g L k' (DN (d - 1)) (DM (d - 1)) W) from by
      have h := HIH.out h1 L k' g false W hr hk'
      rw [show ((d - 1 : Nat) : Int) = (d : Int) - 1 by omega] at h
      exact h)
    by_cases hf : top = true ∨ 7 < m
    · go_cut [17] from 17 to 23 (fun s17 wx => s17 = .bool true ∧ w2 = wx)
      case first =>
        by_cases ht : top = true
        · subst ht
          go_wp2_with fail
          go_meet
          exact ⟨rfl, rfl⟩
        · obtain rfl : top = false := by
            rcases htt : top with _ | _
            · rfl
            · exact absurd htt ht
          have h7 : (7 : Int) < (m : Int) := by
            rcases hf with h | h
            · exact absurd h (by decide)
            · omega
          go_wp2_with fail
          go_meet
          exact ⟨rfl, rfl⟩
      obtain ⟨rfl, rfl⟩ := hcut
      clear hf hmd hm10
      obtain ⟨ia, hia, ha0, ha1, ha2⟩ := info_parts info_string
      obtain ⟨ib, hib, hb0, hb1, hb2⟩ := info_parts info_Kind'
      have HIa := hide hia
      have HIb := hide hib
      clear hia hib
      go_upto_region 6 with fail
      generalize hw3 : World.alloc _ _ = w3
      have hbA : Below w2.heap.size w2 w3 := by rw [← hw3]; exact (Below.refl _ _).alloc (Nat.le_refl _) _
      have HB3 := hide (show Row w3 w2.heap.size 38 (kindMk 5 (.slice none 0 0) (.slice none 0 0)) from by rw [← hw3]; exact Row.new w2 _ _)
      have HR3 := hide (HR2.out.below hbA)
      have HG3 := hide (only_low HG2.out hbA (Nat.le_of_lt HZ2.out.lt))
      have HZ3 := hide (HZ2.out.below hbA HZ2.out.lt)
      have hbw : w.heap.size < w2.heap.size := HZ2.out.lt
      have hbn : w2.heap.size < w3.heap.size := HB3.out.lt
      clear hw3 hbA HR2 HG2 HZ2
      have HLN := hide (l5Names_any w3)
      go_wp2_with fail
      refine HLN.out.mono ?_
      rintro e w4 ⟨rfl, hnr, hb4⟩
      have hnc : w3.heap.size < w4.heap.size := hnr.lt
      have HF4 := hide (show FormD d k g L w w2.heap.size w3.heap.size w4.heap.size w4 0 (.slice none 0 0) [] [] (.slice none 0 0) [] [] [] (k + 1) from
        ⟨⟨HB3.out.below hb4 HB3.out.lt, OwS.nil _ _ _ _ _, OwS.nil _ _ _ _ _, Nat.lt_trans hbn hnc, fun g h => (by cases h), fun g h => (by cases h), fun g h => (by cases h), fun g h => (by cases h)⟩,
          HR3.out.below hb4, Nat.zero_le _, rfl, by simp [bulkStrs, Kind.bulkS, bulkStr], by simp, only_low HG3.out hb4 (by omega), HZ3.out.below hb4 (by omega), hnr, Nat.le_refl _, Nat.zero_le _⟩)
      clear hnr hb4 HB3 HR3 HG3 HZ3 HLN
      go_wp2_with fail
      go_loopw [10] (fun i wr => ∃ (j : Nat) (ns : List ByteArray) (ks : List Kind) (B1 : Option Addr) (m1 d1 : Nat) (us1 : List Value) (B2 : Option Addr) (m2 d2 : Nat) (us2 : List Value) (fi2 : List Nat) (k' : Nat), i = .int .i64 (j : Int) ∧ FormD d k g L w w2.heap.size w3.heap.size w4.heap.size wr j (.slice B1 m1 d1) ns us1 (.slice B2 m2 d2) ks us2 fi2 k') (fun i _ => 8 - (intOf i).toNat)
      case atStart => exact ⟨0, [], [], none, 0, 0, [], none, 0, 0, [], [], k + 1, rfl, HF4.out⟩
      case round =>
        obtain ⟨j, ns, ks, B1, m1, d1, us1, B2, m2, d2, us2, fi2, k', rfl, hF⟩ := hrel
        obtain ⟨E1, e1, hv1⟩ := hF.two.one.form
        obtain ⟨E2, e2, hv2⟩ := hF.two.two.form
        injection hv1 with hv1a hv1b hv1c
        injection hv2 with hv2a hv2b hv2c
        subst hv1a hv1b hv1c hv2a hv2b hv2c
        have HF := hide hF
        have t2 : wr.cell? ⟨w2.heap.size, 2, none⟩ = some (.slice B2 ks.length d2) := hF.two.box.cell 2
        have lb := hF.two.box.lt
        have hpk := hF.pk
        have hk4 := hF.hk
        have hj8 := hF.hj
        clear hF HF4
        by_cases hjk : j < 8 ∧ ks.length < 4
        · obtain ⟨hj, hkl⟩ := hjk
          have hji : (j : Int) < 8 := by omega
          have hki : (ks.length : Int) < 4 := by omega
          have h3m := Nat.mul_le_mul_right (DM (d - 1)) (show ks.length ≤ 3 by omega)
          have hkM : k' + 1 + DM (d - 1) ≤ k + DM d := by have := HDN.out.2; omega
          have HP := hide (pick_any HF.out.rd (n := 3) (by omega) (by omega) (by omega))
          go_upto_region 10 with fail
          go_cut [43] from 37 to 44 (fun s43 wx => ∃ b : Bool, s43 = .bool b ∧ (b = true → 1 < d) ∧ FormD d k g L w w2.heap.size w3.heap.size w4.heap.size wx (j + 1) (.slice B1 ns.length d1) ns us1 (.slice B2 ks.length d2) ks us2 fi2 (k' + 1))
          case first =>
            go_wp2_with fail
            refine HP.out.mono ?_
            rintro e w5 ⟨r3, rfl, hr3, h5, hg5⟩
            have HFN := hide (HF.out.tick hg5 h5 hgw hbw hbn hj)
            clear h5 hg5
            by_cases h0 : r3 = 0
            · subst h0
              go_wp2_with fail
              go_meet
              exact ⟨_, rfl, (fun h => by have := of_decide_eq_true h; omega), HFN.out⟩
            · have h0i : ¬ ((r3 : Int) = 0) := by omega
              go_wp2_with fail
              go_meet
              exact ⟨false, rfl, (fun h => by cases h), HFN.out⟩
          case rest =>
            obtain ⟨bb, rfl, hb1, hF5⟩ := hcut
            have HF5 := hide hF5
            clear HP HF t2 lb hF5
            rcases bb with _ | _
            · clear hb1
              go_wp2
              go_roundw
              case rel => exact ⟨j + 1, ns, ks, B1, _, d1, us1, B2, _, d2, us2, fi2, k' + 1, by go_num, HF5.out⟩
              case measure => simp [intOf]; omega
            · have h1 := hb1 rfl
              clear hb1
              obtain ⟨nm, hnm⟩ : ∃ x, drawNames[j]? = some x := ⟨_, List.getElem?_eq_getElem (show j < drawNames.length from hj)⟩
              have hs4 : nm.size ≤ 4 := drawNames_le nm (List.mem_of_getElem? hnm)
              have n1 : wc.cell? ⟨w3.heap.size, j, none⟩ = some (.string nm) := by rw [HF5.out.nm.cell j, List.getElem?_map, hnm]; rfl
              have n2 := HF5.out.nm.lt
              have t1 : wc.cell? ⟨w2.heap.size, 1, none⟩ = some (.slice B1 ns.length d1) := HF5.out.two.box.cell 1
              have lb := HF5.out.two.box.lt
              have hnl : ns.length ≤ 4 := by have := HF5.out.hn; omega
              have hszc : w4.heap.size ≤ wc.heap.size := HF5.out.sz
              have HT2 := hide ((HF5.out.two.drewN 1).alloc (.cells #[.string nm] 9))
              have HSZ := hide (show w4.heap.size ≤ ((wc.drewN 1).alloc (.cells #[.string nm] 9)).heap.size by rw [World.size_alloc]; exact Nat.le_succ_of_le hszc)
              have HDS := hide (fun W => show OwC W ([nm].flatMap strC) [.string nm] [] from ⟨[], [], ⟨rfl, show nm.size ≤ maxLen by (unfold maxLen; omega), rfl⟩, rfl, rfl⟩)
              clear hnm
              go_upto_region 11 with fail
              go_cut [] from 44 to 53 (fun wx => ∃ (C1 : Option Addr) (p1 q1 : Nat) (us1' : List Value), FormN k g L w w2.heap.size w3.heap.size w4.heap.size wx (.slice C1 p1 q1) (ns ++ [nm]) us1' (.slice B2 ks.length d2) ks us2 fi2 (k' + 1))
              case first =>
                go_region_law (first | (refine step_app (by rfl) _ _ 23 (by rfl) ia _ 16 Tryz.underlying23 HIa.out ha0 ha1 ha2 rfl (by decide) strC_len (by rfl) HT2.out.one [nm] (HDS.out _) (by exact New.nil _ _) (fun g _ hg => by cases hg) _ 1 1 (by rfl) rfl (SrcAt.new (wc.drewN 1) _ _ _ _) (by omega) (by decide) HSZ.out ?_; intro A' n' c' w5 hn5 hown5 hgb5; have HG5 := hide hgb5; have HN5 := hide hown5; have r5 := HT2.out.row1 hgb5; have q5 : w5.cell? ⟨w2.heap.size, 1, none⟩ = some (.slice B1 ns.length d1) := r5.cell 1; have f5 : w5.frozen? ⟨w2.heap.size, 1, none⟩ = false := r5.frozen 1; have HNN5 := hide hn5; clear hown5 hgb5 r5 hn5))
                all_goals
                  have HTP := hide (HT2.out.put1 HG5.out HN5.out 1 rfl (fun g hg => by cases hg))
                  have hfr : ∀ u, Below w2.heap.size wc (w5.setCell ⟨w2.heap.size, 1, none⟩ u) := fun u => ((below_drewN (Below.refl _ wc) 1).alloc (by show w2.heap.size ≤ wc.heap.size; omega) _).trans (HT2.out.frame1 HG5.out HSZ.out 1 u (Nat.le_refl _))
                  go_wp2_with fail
                  go_meet
                  exact ⟨A', n', c', us1 ++ [.string nm], HTP.out, HF5.out.rd.low (hfr _) (by omega), only_low HF5.out.gr (hfr _) (by omega), HF5.out.z.below (hfr _) hbw, Row.far (p := ⟨w2.heap.size, 1, none⟩) (HG5.out.row ((HF5.out.nm.drewN 1).alloc _) (HT2.out.one.low hnc)) (Nat.ne_of_gt hbn) _, Nat.le_trans hszc (hfr (.slice A' n' c')).size⟩
              case rest =>
                clear t1 lb HT2 HSZ HDS n1 n2 hszc
                obtain ⟨w6, rfl⟩ : ∃ W, W = wc := ⟨_, rfl⟩
                obtain ⟨C1, p1, q1, us1', hN⟩ := hcut
                have HN := hide hN
                have t2 : w6.cell? ⟨w2.heap.size, 2, none⟩ = some (.slice B2 ks.length d2) := hN.two.box.cell 2
                have lb6 := hN.two.box.lt
                have hsz6 : w4.heap.size ≤ w6.heap.size := hN.sz
                have hd1i : IntKind.i64.wrap ((d : Int) - 1) = (d : Int) - 1 := wrapI _ (by omega) (by omega)
                have HKB := hide (show k' + 1 + DM (d - 1) ≤ 100000000 by omega)
                clear hN
                go_wp2
                go_region_law (first | (refine step_app (by rfl) _ _ 36 (by rfl) ib _ 56 Tryz.underlying36 HIb.out hb0 hb1 hb2 rfl (by decide) Kind.cells_len (by rfl) HT8.out.two [x] HXO.out HNA.out HNO.out _ 1 1 (by rfl) rfl (SrcAt.new w7 _ _ _ _) HLB.out (by decide) HSB.out ?_; intro A' n' c' w9 hn9 hown9 hgb9; have HG9 := hide hgb9; have HN9 := hide hown9; have r9 := HT8.out.row2 hgb9; have q9 : w9.cell? ⟨w2.heap.size, 2, none⟩ = some (.slice B2 ks.length d2) := r9.cell 2; have f9 : w9.frozen? ⟨w2.heap.size, 2, none⟩ = false := r9.frozen 2; have HNN9 := hide hn9; clear hown9 hgb9 r9 hn9) | (go_simp; go_at_call 107; have hh := HIK.out h1 w6.drew (k' + 1) (HN.out.rd.drewN 1) HKB.out; refine hh.mono ?_; clear hh; rintro e w7 ⟨x, us7, fq7, k7, rfl, ho7, hn7, hx7, hk7, hr7, hg7⟩; have HO7 := hide ho7; have HX7 := hide hx7; have HK7 := hide hk7; have HR7 := hide hr7; have HGG7 := hide (only_trans (only_drewN HN.out.gr 1) hg7); have HZ7 := hide ((HN.out.z.drewN 1).grown hg7 (fun e => by injection e with e; omega)); have HM7 := hide ((HN.out.nm.drewN 1).grown hg7 (fun e => by injection e with e; omega)); have hs7 : w6.heap.size ≤ w7.heap.size := hg7.size; have hn7' : New w7 fq7 w6.heap.size := hn7; have HN7 := hide hn7'; obtain ⟨E1, e1, E2, e2, g1, g2, rfl, k0, k1, k2, efq⟩ := ho7.oKind; have HT7 := hide ((HN.out.two.drewN 1).far hg7 (by omega)); have t2c : w7.cell? ⟨w2.heap.size, 2, none⟩ = some (.slice B2 ks.length d2) := HT7.out.box.cell 2; have lt7 := HT7.out.box.lt; have HT8 := hide (HT7.out.alloc (.cells #[.int .i64 x.sort, .slice E1 x.names.length e1, .slice E2 x.kids.length e2] 38)); have HO8 := hide (HO7.out.alloc HN7.out.lt (.cells #[.int .i64 x.sort, .slice E1 x.names.length e1, .slice E2 x.kids.length e2] 38)); have HNA := hide (show New (w7.alloc (.cells #[.int .i64 x.sort, .slice E1 x.names.length e1, .slice E2 x.kids.length e2] 38)) (fi2 ++ fq7) w4.heap.size from New.app HT8.out.two.new (HN7.out.alloc _) HN.out.two.two.new.lt hsz6); have HXO := hide (show OwC (w7.alloc (.cells #[.int .i64 x.sort, .slice E1 x.names.length e1, .slice E2 x.kids.length e2] 38)) ([x].flatMap Kind.cells) [.int .i64 x.sort, .slice E1 x.names.length e1, .slice E2 x.kids.length e2] fq7 from by rw [List.flatMap_singleton]; exact HO8.out); have HNO := hide (show ∀ g, (Value.slice B2 ks.length d2).ownBlock = some g → g ∉ fq7 from fun g e hm => absurd (HN.out.two.two.lt g e) (Nat.not_lt.2 (HN7.out.fr g hm).1)); have HLB := hide (show ks.length + 1 ≤ 1099511627776 from by omega); have HSB := hide (show w4.heap.size ≤ (w7.alloc (.cells #[.int .i64 x.sort, .slice E1 x.names.length e1, .slice E2 x.kids.length e2] 38)).heap.size from by rw [World.size_alloc]; omega); clear ho7 hn7 hn7' hx7 hk7 hr7 hg7 k1 k2 efq))
                all_goals
                  have hfr : ∀ u, Below w2.heap.size w7 (w9.setCell ⟨w2.heap.size, 2, none⟩ u) := fun u => ((Below.refl w2.heap.size w7).alloc (by omega) _).trans (HT8.out.frame2 HG9.out HSB.out 2 u (Nat.le_refl _))
                  have HFM := hide (fun W (hW : W = w9.setCell ⟨w2.heap.size, 2, none⟩ (.slice A' n' c')) => show FormD d k g L w w2.heap.size w3.heap.size w4.heap.size W (j + 1) (.slice C1 p1 q1) (ns ++ [nm]) us1' (.slice A' n' c') (ks ++ [x]) (us2 ++ [.int .i64 x.sort, .slice E1 x.names.length e1, .slice E2 x.kids.length e2]) (fi2 ++ fq7) k7 from by
                    subst hW
                    refine HF5.out.more hkl hs4 HX7.out HK7.out ⟨HT8.out.put2 HG9.out HN9.out 2 rfl (fun g hg => ?_), HR7.out.low (hfr _) (by omega), only_low HGG7.out (hfr _) (by omega), HZ7.out.below (hfr _) hbw, Row.far (p := ⟨w2.heap.size, 2, none⟩) (HG9.out.row (HM7.out.alloc _) (HT8.out.two.low hnc)) (Nat.ne_of_gt hbn) _, Nat.le_trans (Nat.le_trans hsz6 hs7) (hfr (.slice A' n' c')).size⟩
                    rcases List.mem_append.1 hg with hg | hg
                    · exact .inl hg
                    · exact .inr ⟨fun e => absurd (HN.out.two.one.lt g e) (Nat.not_lt.2 (HN7.out.fr g hg).1), fun h => by cases h⟩)
                  clear hfr
                  go_wp2
                  go_roundw
                  case rel => exact ⟨j + 1, ns ++ [nm], ks ++ [x], C1, p1, q1, us1', A', n', c', _, _, k7, by go_num, HFM.out _ rfl⟩
                  case measure => simp [intOf]; omega
        · have q0 : wr.cell? ⟨w2.heap.size, 0, none⟩ = some (.int .i64 5) := HF.out.two.box.cell 0
          have q1 : wr.cell? ⟨w2.heap.size, 1, none⟩ = some (.slice B1 ns.length d1) := HF.out.two.box.cell 1
          have z0 := HF.out.z.cell 0
          have y0 := HF.out.z.frozen 0
          have z1 := HF.out.z.cell 1
          have y1 := HF.out.z.frozen 1
          have z2 := HF.out.z.cell 2
          have y2 := HF.out.z.frozen 2
          have lz := HF.out.z.lt
          by_cases hj : j < 8
          case' pos =>
            have hji : (j : Int) < 8 := by omega
            have hki : ¬ ((ks.length : Int) < 4) := by omega
          case' neg =>
            have hji : ¬ ((j : Int) < 8) := by omega
          all_goals
            go_wp2
            obtain ⟨fq, ho, hnw⟩ := kform_owC HF.out.two (by decide)
            refine bodyPost_ret (ret_row rfl _ _ w.heap.size 38 (kindMk 5 (.slice B1 ns.length d1) (.slice B2 ks.length d2)) (HF.out.z.setAll (kindMk 5 (.slice B1 ns.length d1) (.slice B2 ks.length d2)) rfl) _ rfl Tryz.underlying38 rfl (by kernel_rfl)) rfl ?_
            exact HEND.out wr (.mk 5 ns ks) _ fq k' ho (hnw.mono (by omega)) (HF.out.fin HDN.out).1 (HF.out.fin HDN.out).2 HF.out.rd HF.out.gr
    obtain rfl : top = false := by
      rcases ht : top with _ | _
      · rfl
      · exact absurd (.inl ht) hf
    have h7 : ¬ ((7 : Int) < (m : Int)) := fun h => hf (.inr (by omega))
    clear hf
    by_cases h6 : 6 < m
    · have i6 : (6 : Int) < (m : Int) := by omega
      have hd1' : 1 < d := by omega
      have HC := hide (HIK.out hd1' w2 (k + 1) HR2.out (by have := HDN.out.2; omega))
      go_wp2_with fail
      refine HC.out.mono ?_
      rintro e w4 ⟨x, us, fq, k4, rfl, ho4, hn4, hx4, hk4, hr4, hg4⟩
      have HO4 := hide ho4
      have HN4 := hide (hn4.mono (show w.heap.size + 1 ≤ w2.heap.size from HZ2.out.lt))
      have HR4 := hide hr4
      have HG4 := hide (only_trans HG2.out hg4)
      have HZ4 := hide (HZ2.out.grown hg4 (fun e => by injection e with e; omega))
      obtain ⟨B1, d1, B2, d2, f1, f2, rfl, k0, k1, k2, efq⟩ := ho4.oKind
      clear ho4 hn4 hr4 hg4 k1 k2 efq HC
      have z0 := HZ4.out.cell 0
      have y0 := HZ4.out.frozen 0
      have z1 := HZ4.out.cell 1
      have y1 := HZ4.out.frozen 1
      have z2 := HZ4.out.cell 2
      have y2 := HZ4.out.frozen 2
      have lz := HZ4.out.lt
      go_wp2
      have hRow := Row.new w4 38 [.int .i64 x.sort, .slice B1 x.names.length d1, .slice B2 x.kids.length d2]
      have ho5 := kone_ow (s := 6) (by decide) (HO4.out.alloc HN4.out.lt (.cells #[.int .i64 x.sort, .slice B1 x.names.length d1, .slice B2 x.kids.length d2] 38)) w4.heap.size hRow
      have hn5 : New (w4.alloc (.cells #[.int .i64 x.sort, .slice B1 x.names.length d1, .slice B2 x.kids.length d2] 38)) (w4.heap.size :: fq) (w.heap.size + 1) := (HN4.out.alloc _).consHi (fun hm => Nat.lt_irrefl _ (HN4.out.lt _ hm)) lz (Unf.row hRow) hRow.lt
      have hfin := HEND.out (w4.alloc (.cells #[.int .i64 x.sort, .slice B1 x.names.length d1, .slice B2 x.kids.length d2] 38)) (.mk 6 [] [x]) [.int .i64 6, .slice none 0 0, .slice (some ⟨w4.heap.size, 0, none⟩) 1 1] _ k4 ho5 hn5 (by rw [Kind.bulk_one]; have := HDN.out.1; omega) (by have := HDN.out.2; omega) (HR4.out.below ((Below.refl _ _).alloc (Nat.le_refl _) _)) (only_alloc HG4.out _)
      rw [putN_alloc _ _ _ _ lz] at hfin
      refine bodyPost_ret (ret_row rfl _ _ w.heap.size 38 [.int .i64 6, .slice none 0 0, .slice (some ⟨w4.heap.size, 0, none⟩) 1 1] ((HZ4.out.setAll [.int .i64 6, .slice none 0 0, .slice (some ⟨w4.heap.size, 0, none⟩) 1 1] rfl).alloc _) _ rfl Tryz.underlying38 rfl (by kernel_rfl)) rfl ?_
      exact hfin
    have i6 : ¬ ((6 : Int) < (m : Int)) := by omega
    by_cases h4 : 4 < m
    · have i4 : (4 : Int) < (m : Int) := by omega
      have hd1' : 1 < d := by omega
      have HC := hide (HIK.out hd1' w2 (k + 1) HR2.out (by have := HDN.out.2; omega))
      go_wp2_with fail
      refine HC.out.mono ?_
      rintro e w4 ⟨x, us, fq, k4, rfl, ho4, hn4, hx4, hk4, hr4, hg4⟩
      have HO4 := hide ho4
      have HN4 := hide (hn4.mono (show w.heap.size + 1 ≤ w2.heap.size from HZ2.out.lt))
      have HR4 := hide hr4
      have HG4 := hide (only_trans HG2.out hg4)
      have HZ4 := hide (HZ2.out.grown hg4 (fun e => by injection e with e; omega))
      obtain ⟨B1, d1, B2, d2, f1, f2, rfl, k0, k1, k2, efq⟩ := ho4.oKind
      clear ho4 hn4 hr4 hg4 k1 k2 efq HC
      have z0 := HZ4.out.cell 0
      have y0 := HZ4.out.frozen 0
      have z1 := HZ4.out.cell 1
      have y1 := HZ4.out.frozen 1
      have z2 := HZ4.out.cell 2
      have y2 := HZ4.out.frozen 2
      have lz := HZ4.out.lt
      go_wp2
      have hRow := Row.new w4 38 [.int .i64 x.sort, .slice B1 x.names.length d1, .slice B2 x.kids.length d2]
      have ho5 := kone_ow (s := 4) (by decide) (HO4.out.alloc HN4.out.lt (.cells #[.int .i64 x.sort, .slice B1 x.names.length d1, .slice B2 x.kids.length d2] 38)) w4.heap.size hRow
      have hn5 : New (w4.alloc (.cells #[.int .i64 x.sort, .slice B1 x.names.length d1, .slice B2 x.kids.length d2] 38)) (w4.heap.size :: fq) (w.heap.size + 1) := (HN4.out.alloc _).consHi (fun hm => Nat.lt_irrefl _ (HN4.out.lt _ hm)) lz (Unf.row hRow) hRow.lt
      have hfin := HEND.out (w4.alloc (.cells #[.int .i64 x.sort, .slice B1 x.names.length d1, .slice B2 x.kids.length d2] 38)) (.mk 4 [] [x]) [.int .i64 4, .slice none 0 0, .slice (some ⟨w4.heap.size, 0, none⟩) 1 1] _ k4 ho5 hn5 (by rw [Kind.bulk_one]; have := HDN.out.1; omega) (by have := HDN.out.2; omega) (HR4.out.below ((Below.refl _ _).alloc (Nat.le_refl _) _)) (only_alloc HG4.out _)
      rw [putN_alloc _ _ _ _ lz] at hfin
      refine bodyPost_ret (ret_row rfl _ _ w.heap.size 38 [.int .i64 4, .slice none 0 0, .slice (some ⟨w4.heap.size, 0, none⟩) 1 1] ((HZ4.out.setAll [.int .i64 4, .slice none 0 0, .slice (some ⟨w4.heap.size, 0, none⟩) 1 1] rfl).alloc _) _ rfl Tryz.underlying38 rfl (by kernel_rfl)) rfl ?_
      exact hfin
    have i4 : ¬ ((4 : Int) < (m : Int)) := by omega
    have hm5 : m = 0 ∨ m = 1 ∨ m = 2 ∨ m = 3 ∨ m = 4 := by omega
    clear hmd hm10 h7 h6 i6 h4 i4
    have z0 := HZ2.out.cell 0
    have y0 := HZ2.out.frozen 0
    have z1 := HZ2.out.cell 1
    have y1 := HZ2.out.frozen 1
    have z2 := HZ2.out.cell 2
    have y2 := HZ2.out.frozen 2
    have lz := HZ2.out.lt
    rcases hm5 with rfl | rfl | rfl | rfl | rfl
    · go_wp2
      have hfin := HEND.out (w2.alloc (.cells #[.int .i64 1, .int .i64 1, .int .i64 2, .int .i64 2, .int .i64 3] 3)) (.mk 1 [] []) [.int .i64 1, .slice none 0 0, .slice none 0 0] [] (k + 1) (kleaf_ow _ 1 (by decide)) (New.nil _ _) (Nat.zero_le _) (by have := HDN.out.2; omega) (HR2.out.below ((Below.refl _ _).alloc (Nat.le_refl _) _)) (only_alloc HG2.out _)
      rw [putN_alloc _ _ _ _ lz] at hfin
      refine bodyPost_ret (ret_row rfl _ _ w.heap.size 38 [.int .i64 1, .slice none 0 0, .slice none 0 0] ((HZ2.out.setAll [.int .i64 1, .slice none 0 0, .slice none 0 0] rfl).alloc _) _ rfl Tryz.underlying38 rfl (by kernel_rfl)) rfl ?_
      exact hfin
    · go_wp2
      have hfin := HEND.out (w2.alloc (.cells #[.int .i64 1, .int .i64 1, .int .i64 2, .int .i64 2, .int .i64 3] 3)) (.mk 1 [] []) [.int .i64 1, .slice none 0 0, .slice none 0 0] [] (k + 1) (kleaf_ow _ 1 (by decide)) (New.nil _ _) (Nat.zero_le _) (by have := HDN.out.2; omega) (HR2.out.below ((Below.refl _ _).alloc (Nat.le_refl _) _)) (only_alloc HG2.out _)
      rw [putN_alloc _ _ _ _ lz] at hfin
      refine bodyPost_ret (ret_row rfl _ _ w.heap.size 38 [.int .i64 1, .slice none 0 0, .slice none 0 0] ((HZ2.out.setAll [.int .i64 1, .slice none 0 0, .slice none 0 0] rfl).alloc _) _ rfl Tryz.underlying38 rfl (by kernel_rfl)) rfl ?_
      exact hfin
    · go_wp2
      have hfin := HEND.out (w2.alloc (.cells #[.int .i64 1, .int .i64 1, .int .i64 2, .int .i64 2, .int .i64 3] 3)) (.mk 2 [] []) [.int .i64 2, .slice none 0 0, .slice none 0 0] [] (k + 1) (kleaf_ow _ 2 (by decide)) (New.nil _ _) (Nat.zero_le _) (by have := HDN.out.2; omega) (HR2.out.below ((Below.refl _ _).alloc (Nat.le_refl _) _)) (only_alloc HG2.out _)
      rw [putN_alloc _ _ _ _ lz] at hfin
      refine bodyPost_ret (ret_row rfl _ _ w.heap.size 38 [.int .i64 2, .slice none 0 0, .slice none 0 0] ((HZ2.out.setAll [.int .i64 2, .slice none 0 0, .slice none 0 0] rfl).alloc _) _ rfl Tryz.underlying38 rfl (by kernel_rfl)) rfl ?_
      exact hfin
    · go_wp2
      have hfin := HEND.out (w2.alloc (.cells #[.int .i64 1, .int .i64 1, .int .i64 2, .int .i64 2, .int .i64 3] 3)) (.mk 2 [] []) [.int .i64 2, .slice none 0 0, .slice none 0 0] [] (k + 1) (kleaf_ow _ 2 (by decide)) (New.nil _ _) (Nat.zero_le _) (by have := HDN.out.2; omega) (HR2.out.below ((Below.refl _ _).alloc (Nat.le_refl _) _)) (only_alloc HG2.out _)
      rw [putN_alloc _ _ _ _ lz] at hfin
      refine bodyPost_ret (ret_row rfl _ _ w.heap.size 38 [.int .i64 2, .slice none 0 0, .slice none 0 0] ((HZ2.out.setAll [.int .i64 2, .slice none 0 0, .slice none 0 0] rfl).alloc _) _ rfl Tryz.underlying38 rfl (by kernel_rfl)) rfl ?_
      exact hfin
    · go_wp2
      have hfin := HEND.out (w2.alloc (.cells #[.int .i64 1, .int .i64 1, .int .i64 2, .int .i64 2, .int .i64 3] 3)) (.mk 3 [] []) [.int .i64 3, .slice none 0 0, .slice none 0 0] [] (k + 1) (kleaf_ow _ 3 (by decide)) (New.nil _ _) (Nat.zero_le _) (by have := HDN.out.2; omega) (HR2.out.below ((Below.refl _ _).alloc (Nat.le_refl _) _)) (only_alloc HG2.out _)
      rw [putN_alloc _ _ _ _ lz] at hfin
      refine bodyPost_ret (ret_row rfl _ _ w.heap.size 38 [.int .i64 3, .slice none 0 0, .slice none 0 0] ((HZ2.out.setAll [.int .i64 3, .slice none 0 0, .slice none 0 0] rfl).alloc _) _ rfl Tryz.underlying38 rfl (by kernel_rfl)) rfl ?_
      exact hfin
end Go.Proofs.YtnaecdoeldoipaaGreatDoor
set_option linter.unusedVariables false
set_option linter.unusedSimpArgs false
namespace Go.Proofs.YtnaecdoeldoipaaGreatDoor
open Go.ChangeShapes Go.WideShapes Go.ChangeAt Go.RowKit

theorem dKind_any : ∀ d : Nat, 1 ≤ d → d ≤ 4 → DKind d
  | 0, h, _ => absurd h (by omega)
  | d + 1, h, h4 => dKind_of (d + 1) h h4 (fun h1 => by
    rw [Nat.add_sub_cancel]
    exact dKind_any d (by omega) (by omega))
theorem DN_le {d : Nat} (h : d ≤ 4) : DN d ≤ 2040 ∧ DM d ≤ 1021 := by
  obtain rfl | rfl | rfl | rfl | rfl : d = 0 ∨ d = 1 ∨ d = 2 ∨ d = 3 ∨ d = 4 := by omega
  all_goals decide
def KDrawOk (g : Nat) (L : List UInt8) (k N M : Nat) (w : World) (e : Ending) (w' : World) : Prop :=
  ∃ (x : Kind) (us : List Value) (fq : List Nat) (k' : Nat), e = .returned (.agg us.toArray) ∧ OwC w' x.cells us fq ∧ New w' fq w.heap.size ∧ x.bulk ≤ N ∧ k' ≤ k + M ∧ RdD w' g L k' ∧ w.grownBy w' (some g) ∧ x.ok
theorem form0_ok : (Kind.mk 5 [] []).ok := ⟨(Kind.good_iff _ 1).2 ⟨by omega, .inr (.inr ⟨rfl, fun i h => by simp [Kind.names] at h, rfl⟩), trivial⟩, by decide⟩
set_option maxRecDepth 100000 in
set_option maxHeartbeats 4000000 in
theorem l5SomeOk_any {L : List UInt8} {k g : Nat} (top : Bool) {w : World} (h : RdD w g L k) (hk : k ≤ 90000000) :
    Calls Tryz.prog 53 #[.pointer (some ⟨g, 0, none⟩), .bool top] w (KDrawOk g L k 2040 4088 w) := by
  have hgw := h.lt
  have HR0 := hide h
  have HEND := hide (fun (W : World) (x : Kind) (vs : List Value) (fq : List Nat) (k' : Nat) (ho : OwC W x.cells vs fq) (hn : New W fq (w.heap.size + 1)) (hx : x.bulk ≤ 2040) (hk' : k' ≤ k + 4088) (hr : RdD W g L k') (hg : w.grownBy W (some g)) (hok : x.ok) =>
    show KDrawOk g L k 2040 4088 w (.returned (.agg vs.toArray)) (putN W w.heap.size 0 vs) from by
      have hgr := setN_grown vs 0 (grown_refl W (some w.heap.size))
      have hno : w.heap.size ∉ fq := hn.out (by omega)
      have hb : Below w.heap.size W (putN W w.heap.size 0 vs) := below_of_grown hgr (Nat.le_refl _) hg.size
      exact ⟨x, vs, fq, k', rfl, ho.grown hgr hn.lt hno, (hn.grown hgr (fun b e => by injection e with e; subst e; exact hno)).mono (by omega), hx, hk', hr.low hb hgw, only_low hg hb (Nat.le_refl _), hok⟩)
  clear h
  go_enter Tryz.func53, Tryz.ntmps53
  go_upto_region 1 with fail
  generalize hw1 : w.alloc _ = w1
  have hb0 : Below w.heap.size w w1 := by rw [← hw1]; exact (Below.refl _ _).alloc (Nat.le_refl _) _
  have HZ := hide (show Row w1 w.heap.size 38 [.int .i64 0, .slice none 0 0, .slice none 0 0] from by rw [← hw1]; exact Row.new w _ _)
  have HR := hide (HR0.out.below hb0)
  have HG := hide (grownBy_below hb0 (some g))
  clear hw1 hb0 HR0
  go_wp2
  go_loopw [5] (fun i wr => ∃ (j k' : Nat), i = .int .i64 (j : Int) ∧ j ≤ 4 ∧ k' ≤ k + j * 1022 ∧ RdD wr g L k' ∧ w.grownBy wr (some g) ∧ Row wr w.heap.size 38 [.int .i64 0, .slice none 0 0, .slice none 0 0]) (fun i _ => 4 - (intOf i).toNat)
  case atStart => exact ⟨0, k, rfl, by omega, by omega, HR.out, HG.out, HZ.out⟩
  case round =>
    obtain ⟨j, k', rfl, hj, hk', hR, hG, hZ⟩ := hrel
    have HRr := hide hR
    have HGr := hide hG
    have HZr := hide hZ
    have lz := hZ.lt
    clear hR hG hZ HR HG HZ
    by_cases hj4 : j < 4
    · have hji : (j : Int) < 4 := by omega
      have HP := hide (pick_any HRr.out (n := 3) (by omega) (by omega) (by omega))
      go_wp2_with fail
      refine HP.out.mono ?_
      rintro e w5 ⟨r, rfl, hr3, h5, hg5⟩
      have HD := hide (show Calls Tryz.prog 107 #[.pointer (some ⟨g, 0, none⟩), .int .i64 (2 + (r : Int)), .bool top] w5 (KDraw g L (k' + 1) (DN (2 + r)) (DM (2 + r)) w5) from by
        have h := dKind_any (2 + r) (by omega) (by omega) L (k' + 1) g top w5 h5 (by have := (DN_le (show 2 + r ≤ 4 by omega)).2; omega)
        rw [show ((2 + r : Nat) : Int) = 2 + (r : Int) by omega] at h
        exact h)
      have hdn := DN_le (show 2 + r ≤ 4 by omega)
      have HG5 := hide (only_trans HGr.out hg5)
      have HZ5 := hide (HZr.out.grown hg5 (fun e => by injection e with e; omega))
      clear h5 hg5 HP HGr HZr HRr
      go_wp2_with fail
      refine HD.out.mono ?_
      rintro e w6 ⟨x, us, fq, k6, rfl, ho6, hn6, hx6, hk6, hr6, hg6⟩
      have HO6 := hide ho6
      have HN6 := hide (hn6.mono (show w.heap.size + 1 ≤ w5.heap.size from HZ5.out.lt))
      have HR6 := hide hr6
      have HG6 := hide (only_trans HG5.out hg6)
      have HZ6 := hide (HZ5.out.grown hg6 (fun e => by injection e with e; omega))
      have lz6 := HZ6.out.lt
      obtain ⟨B1, d1, B2, d2, f1, f2, rfl, k0, k1, k2, efq⟩ := ho6.oKind
      have hxb : x.bulk ≤ 1048576 := by omega
      clear ho6 hn6 hr6 hg6 k1 k2 efq HD HG5 HZ5
      go_upto_region 5 with fail
      generalize hw7 : World.alloc _ _ = w7
      have hbA : Below w6.heap.size w6 w7 := by rw [← hw7]; exact (Below.refl _ _).alloc (Nat.le_refl _) _
      have HB7 := hide (show Row w7 w6.heap.size 38 [.int .i64 x.sort, .slice B1 x.names.length d1, .slice B2 x.kids.length d2] from by rw [← hw7]; exact Row.new w6 _ _)
      have HO7 := hide (HO6.out.below hbA HN6.out.lt)
      have HN7 := hide (HN6.out.below hbA HN6.out.lt)
      have HR7 := hide (HR6.out.below hbA)
      have HG7 := hide (only_low HG6.out hbA (by omega))
      have HZ7 := hide (HZ6.out.below hbA lz6)
      have hs7 := hbA.size
      clear hw7 hbA HO6 HN6 HR6 HG6 HZ6
      have b0 := HB7.out.cell 0
      have b1 := HB7.out.cell 1
      have b2 := HB7.out.cell 2
      have lb7 := HB7.out.lt
      have HC := hide (specKindOk_any x _ fq w7 HO7.out HN7.out.lt hxb)
      go_wp2_with fail
      refine HC.out.mono ?_
      rintro e w8 ⟨rfl, hb8⟩
      have HB8 := hide (HB7.out.below hb8 lb7)
      have HO8 := hide (HO7.out.below hb8 HN7.out.lt)
      have HN8 := hide (HN7.out.below hb8 HN7.out.lt)
      have HR8 := hide (HR7.out.below hb8)
      have HG8 := hide (only_low HG7.out hb8 (by omega))
      have HZ8 := hide (HZ7.out.below hb8 (by omega))
      clear b0 b1 b2 hb8 HC HB7 HO7 HN7 HR7 HG7 HZ7
      have b0 := HB8.out.cell 0
      have b1 := HB8.out.cell 1
      have b2 := HB8.out.cell 2
      have lb8 := HB8.out.lt
      by_cases hok : x.ok
      · rw [tb_true hok]
        have z0 := HZ8.out.cell 0
        have y0 := HZ8.out.frozen 0
        have z1 := HZ8.out.cell 1
        have y1 := HZ8.out.frozen 1
        have z2 := HZ8.out.cell 2
        have y2 := HZ8.out.frozen 2
        have lz8 := HZ8.out.lt
        go_wp2
        refine bodyPost_ret (ret_row rfl _ _ w.heap.size 38 [.int .i64 x.sort, .slice B1 x.names.length d1, .slice B2 x.kids.length d2] (HZ8.out.setAll [.int .i64 x.sort, .slice B1 x.names.length d1, .slice B2 x.kids.length d2] rfl) _ rfl Tryz.underlying38 rfl (by kernel_rfl)) rfl ?_
        exact HEND.out w8 x _ fq k6 HO8.out HN8.out (by omega) (by omega) HR8.out HG8.out hok
      · rw [tb_false hok]
        go_wp2
        go_roundw
        case rel => exact ⟨j + 1, k6, by go_num, by omega, by omega, HR8.out, HG8.out, HZ8.out⟩
        case measure => simp [intOf]; omega
    · have hji : ¬ ((j : Int) < 4) := by omega
      have z0 := HZr.out.cell 0
      have y0 := HZr.out.frozen 0
      have z1 := HZr.out.cell 1
      have y1 := HZr.out.frozen 1
      have z2 := HZr.out.cell 2
      have y2 := HZr.out.frozen 2
      go_wp2
      refine bodyPost_ret (ret_row rfl _ _ w.heap.size 38 [.int .i64 5, .slice none 0 0, .slice none 0 0] (HZr.out.setAll [.int .i64 5, .slice none 0 0, .slice none 0 0] rfl) _ rfl Tryz.underlying38 rfl (by kernel_rfl)) rfl ?_
      exact HEND.out wr (.mk 5 [] []) _ [] k' (kleaf_ow _ 5 (by decide)) (New.nil _ _) (by decide) (by omega) HRr.out HGr.out form0_ok
theorem l5Some_any {L : List UInt8} {k g : Nat} (top : Bool) {w : World} (h : RdD w g L k) (hk : k ≤ 90000000) :
    Calls Tryz.prog 53 #[.pointer (some ⟨g, 0, none⟩), .bool top] w (KDraw g L k 2040 4088 w) := by
  refine (l5SomeOk_any top h hk).mono ?_
  rintro e w' ⟨x, us, fq, k', h1, h2, h3, h4, h5, h6, h7, _⟩
  exact ⟨x, us, fq, k', h1, h2, h3, h4, h5, h6, h7⟩
end Go.Proofs.YtnaecdoeldoipaaGreatDoor
set_option linter.unusedVariables false
set_option linter.unusedSimpArgs false
namespace Go.Proofs.YtnaecdoeldoipaaGreatDoor
open Go.ChangeShapes Go.WideShapes Go.ChangeAt Go.RowKit

mutual
def Kind.tn : Kind → Nat
  | .mk _ ns ks => 60 + bulkStrs ns + 3 * (ks.length + Kind.tnS ks)
def Kind.tnS : List Kind → Nat
  | [] => 0
  | x :: r => x.tn + Kind.tnS r
end
mutual
def Kind.tp : Kind → Nat
  | .mk _ _ ks => 4 + 3 * Kind.tpS ks
def Kind.tpS : List Kind → Nat
  | [] => 0
  | x :: r => x.tp + Kind.tpS r
end
theorem Kind.tn_eq (x : Kind) : x.tn = 60 + bulkStrs x.names + 3 * (x.kids.length + Kind.tnS x.kids) := by cases x; rfl
theorem Kind.tp_eq (x : Kind) : x.tp = 4 + 3 * Kind.tpS x.kids := by cases x; rfl
theorem Kind.tnS_append (a b : List Kind) : Kind.tnS (a ++ b) = Kind.tnS a + Kind.tnS b := by
  induction a with
  | nil => simp [Kind.tnS]
  | cons x a ih => simp [Kind.tnS, ih]; omega
theorem Kind.tpS_append (a b : List Kind) : Kind.tpS (a ++ b) = Kind.tpS a + Kind.tpS b := by
  induction a with
  | nil => simp [Kind.tpS]
  | cons x a ih => simp [Kind.tpS, ih]; omega
theorem Kind.tnS_snoc (l : List Kind) (k : Nat) (h : k < l.length) : Kind.tnS (l.take (k + 1)) = Kind.tnS (l.take k) + l[k].tn := by
  rw [List.take_succ_eq_append_getElem h, Kind.tnS_append]
  simp [Kind.tnS]
theorem Kind.tpS_snoc (l : List Kind) (k : Nat) (h : k < l.length) : Kind.tpS (l.take (k + 1)) = Kind.tpS (l.take k) + l[k].tp := by
  rw [List.take_succ_eq_append_getElem h, Kind.tpS_append]
  simp [Kind.tpS]
theorem Kind.tnS_le (l : List Kind) (k : Nat) : Kind.tnS (l.take k) ≤ Kind.tnS l := by
  conv => rhs; rw [← List.take_append_drop k l, Kind.tnS_append]
  omega
theorem Kind.tpS_le (l : List Kind) (k : Nat) : Kind.tpS (l.take k) ≤ Kind.tpS l := by
  conv => rhs; rw [← List.take_append_drop k l, Kind.tpS_append]
  omega
theorem names_small {l : List ByteArray} (h : NamesOk l) : bulkStrs l ≤ 9 * l.length := by
  have hs : ∀ x ∈ l, x.size ≤ 8 := fun x hx => by
    obtain ⟨i, hi, rfl⟩ := List.getElem_of_mem hx
    exact (h i hi).1.2.1
  clear h
  have : bulkStr l ≤ 8 * l.length := by
    induction l with
    | nil => simp [bulkStr]
    | cons x r ih =>
      have h1 := hs x (by simp)
      have h2 := ih (fun y hy => hs y (by simp [hy]))
      simp only [bulkStr, List.length_cons]
      omega
  unfold bulkStrs
  omega
theorem Kind.shape_names {x : Kind} (h : x.shape) : bulkStrs x.names ≤ 9 * x.kids.length := by
  rcases h with ⟨_, h1, h2⟩ | ⟨_, h1, h2⟩ | ⟨_, h1, h2⟩
  · rw [List.eq_nil_of_length_eq_zero h1]; simp [bulkStrs, bulkStr]
  · rw [List.eq_nil_of_length_eq_zero h1]; simp [bulkStrs, bulkStr]
  · have := names_small h1
    omega
theorem Kind.tnS_good {c : Nat} : ∀ (ks : List Kind) (lv : Nat), (∀ x ∈ ks, x.good lv → x.tn + 4 ≤ c * x.parts ∧ x.tp ≤ c * x.parts) → Kind.goodS ks lv → Kind.tnS ks + 4 * ks.length ≤ c * Kind.partsS ks ∧ Kind.tpS ks ≤ c * Kind.partsS ks
  | [], lv, _, _ => by simp [Kind.tnS, Kind.tpS, Kind.partsS]
  | x :: r, lv, h, hg => by
    have h1 := h x (by simp) hg.1
    have h2 := Kind.tnS_good r lv (fun y hy => h y (by simp [hy])) hg.2
    simp only [Kind.tnS, Kind.tpS, Kind.partsS, List.length_cons, Nat.mul_add]
    omega
theorem Kind.tn_good : ∀ (f : Nat) (x : Kind) (lv : Nat), lv + f = 6 → x.good lv → x.tn + 4 ≤ 70 * 3 ^ f * x.parts ∧ x.tp ≤ 70 * 3 ^ f * x.parts
  | 0, x, lv, hf, h => by
    obtain ⟨h1, h2, h3⟩ := (Kind.good_iff x lv).1 h
    have hk : x.kids = [] := by
      rcases hx : x.kids with _ | ⟨y, r⟩
      · rfl
      · rw [hx] at h3
        have := ((Kind.good_iff y (lv + 1)).1 h3.1).1
        omega
    have hn := Kind.shape_names h2
    rw [hk] at hn
    rw [Kind.tn_eq, Kind.tp_eq, Kind.parts_eq, hk]
    simp [Kind.tnS, Kind.tpS, Kind.partsS] at *
    omega
  | f + 1, x, lv, hf, h => by
    obtain ⟨h1, h2, h3⟩ := (Kind.good_iff x lv).1 h
    have hn := Kind.shape_names h2
    have hs := Kind.tnS_good (c := 70 * 3 ^ f) x.kids (lv + 1) (fun y _ hy => Kind.tn_good f y (lv + 1) (by omega) hy) h3
    have h3f : 1 ≤ 3 ^ (f + 1) := Nat.one_le_pow _ _ (by omega)
    have e1 : 70 * 3 ^ (f + 1) * Kind.partsS x.kids = 3 * (70 * 3 ^ f * Kind.partsS x.kids) := by
      have e2 : 70 * 3 ^ (f + 1) = 3 * (70 * 3 ^ f) := by rw [Nat.pow_succ]; omega
      rw [e2, Nat.mul_assoc]
    have e3 : 70 * 3 ^ (f + 1) * (1 + Kind.partsS x.kids) = 70 * 3 ^ (f + 1) + 3 * (70 * 3 ^ f * Kind.partsS x.kids) := by rw [Nat.mul_add, Nat.mul_one, e1]
    rw [Kind.tn_eq, Kind.tp_eq, Kind.parts_eq, e3]
    omega
/-- a schema that is ok: what is drawn of it is small -/
theorem Kind.tn_ok {x : Kind} (h : x.ok) : x.tn ≤ 680400 ∧ x.tp ≤ 680400 := by
  have h1 : x.good 1 := h.1
  have h2 : (0 : Int) + x.parts ≤ 40 := h.2
  have := Kind.tn_good 5 x 1 rfl h1
  have e : 70 * 3 ^ 5 * x.parts = 17010 * x.parts := rfl
  omega

/-! ### Numbers and texts -/
def NumDr (g : Nat) (L : List UInt8) (k : Nat) (w : World) (e : Ending) (w' : World) : Prop :=
  ∃ (n : Int) (k' : Nat), e = .returned (.int .i64 n) ∧ -10000000000 ≤ n ∧ n ≤ 10000000000 ∧ k' ≤ k + 3 ∧ RdD w' g L k' ∧ w.grownBy w' (some g)
def TextDr (g : Nat) (L : List UInt8) (k : Nat) (w : World) (e : Ending) (w' : World) : Prop :=
  ∃ (s : ByteArray) (k' : Nat), e = .returned (.string s) ∧ s.size ≤ 60 ∧ k' ≤ k + 2 ∧ RdD w' g L k' ∧ w.grownBy w' (some g)
set_option maxRecDepth 100000 in
set_option maxHeartbeats 2000000 in
theorem l5Num_any {L : List UInt8} {k g : Nat} {w : World} (h : RdD w g L k) (hk : k ≤ 100000000) :
    Calls Tryz.prog 108 #[.pointer (some ⟨g, 0, none⟩)] w (NumDr g L k w) := by
  have HP := hide (pick_any h (n := 9) (by omega) (by omega) (by omega))
  clear h
  go_enter Tryz.func108, Tryz.ntmps108
  go_wp2_with fail
  refine HP.out.mono ?_
  rintro e w2 ⟨r, rfl, hr, h2, hg2⟩
  have H2 := hide h2
  have HG := hide hg2
  clear h2 hg2 HP
  by_cases h0 : r = 0
  · subst h0
    go_wp2
    go_ret
    exact ⟨999999999, k + 1, rfl, by omega, by omega, by omega, H2.out, HG.out⟩
  by_cases h1 : r = 1
  · subst h1
    go_wp2
    go_ret
    exact ⟨-999999999, k + 1, rfl, by omega, by omega, by omega, H2.out, HG.out⟩
  have i0 : ¬ ((r : Int) = 0) := by omega
  have i1 : ¬ ((r : Int) = 1) := by omega
  clear h0 h1
  by_cases h2 : r = 2
  · subst h2
    have HP1 := hide (pick_any H2.out (n := 250) (by omega) (by omega) (by omega))
    clear i0 i1
    go_wp2_with fail
    refine HP1.out.mono ?_
    rintro e w3 ⟨a, rfl, ha, h3, hg3⟩
    have HP2 := hide (pick_any h3 (n := 200) (by omega) (by omega) (by omega))
    have HG3 := hide (only_trans HG.out hg3)
    clear h3 hg3
    go_wp2_with fail
    refine HP2.out.mono ?_
    rintro e w4 ⟨b, rfl, hb, h4, hg4⟩
    have H4 := hide h4
    have HG4 := hide (only_trans HG3.out hg4)
    clear h4 hg4
    go_wp2
    go_ret
    exact ⟨(a : Int) * 4000000 + (b : Int), k + 3, rfl, by omega, by omega, by omega, H4.out, HG4.out⟩
  have i2 : ¬ ((r : Int) = 2) := by omega
  clear h2
  by_cases h3 : r = 3
  · subst h3
    have HP1 := hide (pick_any H2.out (n := 2) (by omega) (by omega) (by omega))
    clear i0 i1 i2
    go_wp2_with fail
    refine HP1.out.mono ?_
    rintro e w3 ⟨a, rfl, ha, h3, hg3⟩
    have H3 := hide h3
    have HG3 := hide (only_trans HG.out hg3)
    clear h3 hg3
    go_wp2
    go_ret
    exact ⟨127 + (a : Int), k + 2, rfl, by omega, by omega, by omega, H3.out, HG3.out⟩
  have i3 : ¬ ((r : Int) = 3) := by omega
  clear h3
  have HP1 := hide (pick_any H2.out (n := 12) (by omega) (by omega) (by omega))
  go_wp2_with fail
  refine HP1.out.mono ?_
  rintro e w3 ⟨a, rfl, ha, h3, hg3⟩
  have H3 := hide h3
  have HG3 := hide (only_trans HG.out hg3)
  clear h3 hg3
  go_wp2
  go_ret
  exact ⟨(a : Int) - 3, k + 2, rfl, by omega, by omega, by omega, H3.out, HG3.out⟩
def drawTexts : List ByteArray := [⟨#[]⟩, ⟨#[97]⟩, ⟨#[97, 98]⟩, ⟨#[120, 32, 121]⟩, ⟨#[121, 101, 115]⟩, ⟨#[110, 111]⟩, ⟨#[126]⟩, ⟨#[49, 50]⟩, ⟨#[45, 51]⟩, ⟨#[97, 44, 98, 58, 99]⟩, ⟨#[91, 49, 93]⟩, ⟨#[108, 101, 102, 116]⟩, ⟨#[114, 105, 103, 104, 116]⟩]
theorem drawTexts_le : ∀ x ∈ drawTexts, x.size ≤ 60 := by
  intro x hx
  simp only [drawTexts, List.mem_cons, List.not_mem_nil, or_false] at hx
  rcases hx with rfl | rfl | rfl | rfl | rfl | rfl | rfl | rfl | rfl | rfl | rfl | rfl | rfl <;> decide
set_option maxRecDepth 100000 in
set_option maxHeartbeats 2000000 in
theorem l5Text_any {L : List UInt8} {k g : Nat} {w : World} (h : RdD w g L k) (hk : k ≤ 100000000) :
    Calls Tryz.prog 109 #[.pointer (some ⟨g, 0, none⟩)] w (TextDr g L k w) := by
  have hgw := h.lt
  have HP := hide (pick_any h (n := 30) (by omega) (by omega) (by omega))
  clear h
  go_enter Tryz.func109, Tryz.ntmps109
  go_wp2_with fail
  refine HP.out.mono ?_
  rintro e w2 ⟨r, rfl, hr, h2, hg2⟩
  have H2 := hide h2
  have HG := hide hg2
  have hgw2 := h2.lt
  clear h2 hg2 HP
  by_cases h0 : r = 0
  · subst h0
    have HM := hide (many_any ⟨#[120]⟩ 60 w2 (by decide) (by omega))
    go_wp2_with fail
    refine HM.out.mono ?_
    rintro e w3 ⟨o, rfl, ho, rfl⟩
    go_wp2
    go_ret
    exact ⟨o, k + 1, rfl, by omega, by omega, H2.out, HG.out⟩
  have i0 : ¬ ((r : Int) = 0) := by omega
  clear h0
  have hA : Below w2.heap.size w2 (w2.alloc (.cells (drawTexts.map Value.string).toArray 9)) := (Below.refl _ _).alloc (Nat.le_refl _) _
  have HOF := hide (of_any (H2.out.below hA) (by omega) drawTexts w2.heap.size 13 (by decide) (by decide) (by omega) (by rw [World.size_alloc]; omega) (fun j hj => by
    have h := (Row.new w2 9 (drawTexts.map Value.string)).cell j
    refine h.trans ?_
    rw [List.getElem?_map, List.getElem?_eq_getElem hj]
    rfl))
  have HG3 := hide (only_lowR HG.out hA HG.out.size)
  go_wp2_with fail
  refine HOF.out.mono ?_
  rintro e w3 ⟨x, hx, rfl, h3, hg3⟩
  have HX := hide (drawTexts_le x hx)
  have H3 := hide h3
  have HG4 := hide (only_trans HG3.out hg3)
  clear hx h3 hg3
  go_wp2
  go_ret
  exact ⟨x, k + 2, rfl, HX.out, by omega, H3.out, HG4.out⟩
end Go.Proofs.YtnaecdoeldoipaaGreatDoor
