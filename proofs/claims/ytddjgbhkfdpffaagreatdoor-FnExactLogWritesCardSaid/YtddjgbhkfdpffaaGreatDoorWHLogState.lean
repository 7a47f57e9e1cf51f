/-
  Disk as data: its cells, its size. Disks: the names behind so many moves, and when a disk is ok: plain definitions. When the plan of a log is ok: plain definitions. LogPart: what the laws' own helpers do: the size, a copy, equality. LogPlan: what the laws' own helpers do: the size, a copy, equality. LogRecord: what the laws' own helpers do: the size, a copy, equality. LogState: what the laws' own helpers do: the size, a copy, equality.
-/
import Derived.Test.YtddjgbhkfdpffaaGreatDoorWStr
import Derived.Test.YtddjgbhkfdpffaaGreatDoorWDDiskWrite
import Derived.Test.YtddjgbhkfdpffaaGreatDoorWRLogAct
set_option linter.unusedVariables false
set_option linter.unusedSimpArgs false
namespace Go.Proofs.YtddjgbhkfdpffaaGreatDoor
open Go.ChangeShapes Go.WideShapes Go.ChangeAt Go.RowKit

structure Disk where
  files : List DiskFile
  names : List ByteArray
  moves : List DiskMove
def Disk.cells (x : Disk) : List D := [.s 3 x.files.length (x.files.flatMap DiskFile.cells), .s 1 x.names.length (x.names.flatMap strC), .s 2 x.moves.length (x.moves.flatMap DiskMove.cells)]
theorem Disk.cells_eq (x : Disk) : x.cells = [.s 3 x.files.length (x.files.flatMap DiskFile.cells), .s 1 x.names.length (x.names.flatMap strC), .s 2 x.moves.length (x.moves.flatMap DiskMove.cells)] := rfl
def Disk.bulk (x : Disk) : Nat := DiskFile.bulkL x.files + bulkStrs x.names + DiskMove.bulkL x.moves
theorem Disk.bulk_eq (x : Disk) : x.bulk = DiskFile.bulkL x.files + bulkStrs x.names + DiskMove.bulkL x.moves := rfl
def Disk.bulkS : List Disk → Nat
  | [] => 0
  | x :: r => x.bulk + Disk.bulkS r
theorem Disk.cells_len (x : Disk) : x.cells.length = 3 := by rw [Disk.cells_eq]; rfl
def Disk.bulkL (l : List Disk) : Nat := l.length + Disk.bulkS l
theorem Disk.bulkS_append (a b : List Disk) : Disk.bulkS (a ++ b) = Disk.bulkS a + Disk.bulkS b := by
  induction a with
  | nil => simp [Disk.bulkS]
  | cons x a ih => simp [Disk.bulkS, ih]; omega
theorem Disk.bulkS_snoc (l : List Disk) (k : Nat) (h : k < l.length) : Disk.bulkS (l.take (k + 1)) = Disk.bulkS (l.take k) + l[k].bulk := by
  rw [List.take_succ_eq_append_getElem h, Disk.bulkS_append]
  simp [Disk.bulkS]
theorem Disk.bulkS_le (l : List Disk) (k : Nat) : Disk.bulkS (l.take k) ≤ Disk.bulkS l := by
  conv => rhs; rw [← List.take_append_drop k l, Disk.bulkS_append]
  omega
theorem Disk.bulk_at (l : List Disk) (k : Nat) (h : k < l.length) : l[k].bulk ≤ Disk.bulkS l := by
  have h1 := Disk.bulkS_snoc l k h
  have h2 := Disk.bulkS_le l (k + 1)
  omega
theorem Disk.cells_snoc (l : List Disk) (k : Nat) (h : k < l.length) : (l.take (k + 1)).flatMap Disk.cells = (l.take k).flatMap Disk.cells ++ l[k].cells := by
  rw [List.take_succ_eq_append_getElem h, List.flatMap_append]
  simp
theorem OwC.oDisk {w : World} {x : Disk} {us : List Value} {fp : List Nat} (h : OwC w x.cells us fp) :
    ∃ A1 c1 A2 c2 A3 c3 f1 f2 f3, us = [.slice A1 x.files.length c1, .slice A2 x.names.length c2, .slice A3 x.moves.length c3] ∧ Ow w (.s 3 x.files.length (x.files.flatMap DiskFile.cells)) (.slice A1 x.files.length c1) f1 ∧ Ow w (.s 1 x.names.length (x.names.flatMap strC)) (.slice A2 x.names.length c2) f2 ∧ Ow w (.s 2 x.moves.length (x.moves.flatMap DiskMove.cells)) (.slice A3 x.moves.length c3) f3 ∧ fp = f1 ++ (f2 ++ (f3)) := by
  rw [Disk.cells_eq] at h
  match us, OwC.length _ h with
  | [u0, u1, u2], _ =>
    simp only [OwC] at h
    obtain ⟨g0, _, h0, ⟨g1, _, h1, ⟨g2, _, h2, rfl, rfl⟩, rfl⟩, rfl⟩ := h
    obtain ⟨A1, c1, rfl, _⟩ := h0.slice
    obtain ⟨A2, c2, rfl, _⟩ := h1.slice
    obtain ⟨A3, c3, rfl, _⟩ := h2.slice
    exact ⟨A1, c1, A2, c2, A3, c3, g0, g1, g2, rfl, h0, h1, h2, by simp⟩
theorem OwC.mDisk {w : World} {x : Disk} {v1 v2 v3 : Value} {f1 f2 f3 : List Nat} (h0 : Ow w (.s 3 x.files.length (x.files.flatMap DiskFile.cells)) v1 f1) (h1 : Ow w (.s 1 x.names.length (x.names.flatMap strC)) v2 f2) (h2 : Ow w (.s 2 x.moves.length (x.moves.flatMap DiskMove.cells)) v3 f3) :
    OwC w x.cells [v1, v2, v3] (f1 ++ (f2 ++ (f3))) := by
  have h : OwC w x.cells [v1, v2, v3] (f1 ++ (f2 ++ (f3 ++ ([])))) := by
    rw [Disk.cells_eq]
    exact ⟨_, _, h0, ⟨_, _, h1, ⟨_, _, h2, rfl, rfl⟩, rfl⟩, rfl⟩
  simpa using h
end Go.Proofs.YtddjgbhkfdpffaaGreatDoor
set_option linter.unusedVariables false
set_option linter.unusedSimpArgs false
namespace Go.Proofs.YtddjgbhkfdpffaaGreatDoor
open Go.ChangeShapes Go.WideShapes Go.ChangeAt Go.RowKit

/-- names without one: all of it (the reference), its first place (the program) -/
noncomputable def without (x : ByteArray) (l : List ByteArray) : List ByteArray := l.filter (fun y => tb (y ≠ x))
noncomputable def eraseOne (x : ByteArray) : List ByteArray → List ByteArray
  | [] => []
  | y :: l => if tb (y = x) = true then l else y :: eraseOne x l
noncomputable def DiskMove.stepW (l : List ByteArray) (m : DiskMove) : List ByteArray := if m.gone = true then without m.name l else l ++ [m.name]
noncomputable def DiskMove.stepI (l : List ByteArray) (m : DiskMove) : List ByteArray := if m.gone = true then eraseOne m.name l else l ++ [m.name]
noncomputable def Disk.afterW (d : Disk) (i : Nat) : List ByteArray := (d.moves.take i).foldl DiskMove.stepW d.names
noncomputable def Disk.afterI (d : Disk) (i : Nat) : List ByteArray := (d.moves.take i).foldl DiskMove.stepI d.names
def DiskMove.makes (m : DiskMove) : List ByteArray := if m.gone = true then [] else [m.name]
def Disk.made (d : Disk) (i : Nat) : List ByteArray := d.names ++ (d.moves.take i).flatMap DiskMove.makes
theorem Disk.afterW_zero (d : Disk) : d.afterW 0 = d.names := by simp [Disk.afterW]
theorem Disk.afterI_zero (d : Disk) : d.afterI 0 = d.names := by simp [Disk.afterI]
theorem Disk.made_zero (d : Disk) : d.made 0 = d.names := by simp [Disk.made]
theorem Disk.afterW_succ (d : Disk) (i : Nat) (h : i < d.moves.length) : d.afterW (i + 1) = DiskMove.stepW (d.afterW i) d.moves[i] := by
  unfold Disk.afterW
  rw [List.take_succ_eq_append_getElem h, List.foldl_append]
  rfl
theorem Disk.afterI_succ (d : Disk) (i : Nat) (h : i < d.moves.length) : d.afterI (i + 1) = DiskMove.stepI (d.afterI i) d.moves[i] := by
  unfold Disk.afterI
  rw [List.take_succ_eq_append_getElem h, List.foldl_append]
  rfl
theorem Disk.made_succ (d : Disk) (i : Nat) (h : i < d.moves.length) : d.made (i + 1) = d.made i ++ d.moves[i].makes := by
  unfold Disk.made
  rw [List.take_succ_eq_append_getElem h, List.flatMap_append, List.append_assoc]
  simp
theorem Disk.made_pre (d : Disk) (i : Nat) : ∃ r, d.made d.moves.length = d.made i ++ r := by
  refine ⟨(d.moves.drop i).flatMap DiskMove.makes, ?_⟩
  unfold Disk.made
  rw [List.take_length, List.append_assoc, ← List.flatMap_append, List.take_append_drop]
theorem mem_without {x y : ByteArray} {l : List ByteArray} : y ∈ without x l ↔ y ∈ l ∧ y ≠ x := by
  unfold without
  rw [List.mem_filter]
  unfold tb
  simp
theorem eraseOne_eq {x : ByteArray} : ∀ {l : List ByteArray}, l.Nodup → eraseOne x l = without x l
  | [], _ => rfl
  | y :: l, h => by
    obtain ⟨h1, h2⟩ := List.nodup_cons.1 h
    by_cases e : y = x
    · subst e
      have e1 : eraseOne y (y :: l) = l := by simp [eraseOne, tb_true]
      have e2 : without y (y :: l) = l := by
        unfold without
        rw [List.filter_cons_of_neg (by simp [tb_false])]
        refine List.filter_eq_self.2 (fun z hz => tb_true (fun e => h1 (e ▸ hz)))
      rw [e1, e2]
    · have e1 : eraseOne x (y :: l) = y :: eraseOne x l := by simp [eraseOne, tb_false e]
      have e2 : without x (y :: l) = y :: without x l := by
        unfold without
        rw [List.filter_cons_of_pos (by simp [tb_true e])]
      rw [e1, e2, eraseOne_eq h2]
theorem Disk.after_facts (d : Disk) (hn : (d.made d.moves.length).Nodup) : ∀ i, i ≤ d.moves.length → (d.afterW i).Nodup ∧ (∀ x ∈ d.afterW i, x ∈ d.made i) ∧ d.afterI i = d.afterW i := by
  intro i
  induction i with
  | zero =>
    intro _
    obtain ⟨r, hr⟩ := d.made_pre 0
    rw [hr, d.made_zero] at hn
    rw [d.afterW_zero, d.afterI_zero, d.made_zero]
    exact ⟨(List.nodup_append.1 hn).1, fun x hx => hx, rfl⟩
  | succ i ih =>
    intro hi
    obtain ⟨h1, h2, h3⟩ := ih (by omega)
    have hlt : i < d.moves.length := by omega
    rw [d.afterW_succ i hlt, d.afterI_succ i hlt, d.made_succ i hlt, h3]
    unfold DiskMove.stepW DiskMove.stepI DiskMove.makes
    by_cases hg : d.moves[i].gone = true
    · rw [if_pos hg, if_pos hg, if_pos hg]
      refine ⟨h1.filter _, fun x hx => ?_, eraseOne_eq h1⟩
      rw [List.append_nil]
      exact h2 x (mem_without.1 hx).1
    · rw [if_neg hg, if_neg hg, if_neg hg]
      obtain ⟨r, hr⟩ := d.made_pre (i + 1)
      rw [hr, d.made_succ i hlt] at hn
      unfold DiskMove.makes at hn
      rw [if_neg hg] at hn
      have hnd := (List.nodup_append.1 hn).1
      have hx : d.moves[i].name ∉ d.made i := fun hm => (List.nodup_append.1 hnd).2.2 _ hm _ (by simp) rfl
      refine ⟨List.nodup_append.2 ⟨h1, by simp, fun a ha b hb e => ?_⟩, fun x hx => ?_, rfl⟩
      · simp only [List.mem_singleton] at hb
        subst hb
        exact hx (h2 _ (e ▸ ha))
      · rcases List.mem_append.1 hx with hx | hx
        · exact List.mem_append_left _ (h2 x hx)
        · exact List.mem_append_right _ hx
def DiskFile.fine (f : DiskFile) : Prop := NameOk f.name ∧ f.data.size ≤ 20000 ∧ 0 ≤ f.kept ∧ f.kept ≤ (f.data.size : Int)
/-- no file ahead of it has its name -/
def Disk.firstAt (d : Disk) (i : Nat) : Prop := ∀ j (h1 : j < d.files.length) (h2 : i < d.files.length), j < i → d.files[j].name ≠ d.files[i].name
def Disk.filesOk (d : Disk) : Prop := ∀ i (h : i < d.files.length), d.files[i].fine ∧ d.firstAt i
def Disk.goneOk (d : Disk) (after : Nat → List ByteArray) : Prop := ∀ i (h : i < d.moves.length), d.moves[i].gone = true → d.moves[i].name ∈ after i
def Disk.ok (d : Disk) : Prop := d.files.length ≤ 64 ∧ d.moves.length ≤ 128 ∧ d.filesOk ∧ d.files.map DiskFile.name = d.made d.moves.length ∧ d.goneOk d.afterW
theorem Disk.names_nodup (d : Disk) (h : d.filesOk) : (d.files.map DiskFile.name).Nodup := by
  refine List.pairwise_iff_getElem.2 (fun i j hi hj hij e => ?_)
  simp only [List.length_map] at hi hj
  simp only [List.getElem_map] at e
  exact (h j hj).2 i hi hj hij e
theorem Disk.ok_I (d : Disk) : d.ok ↔ d.files.length ≤ 64 ∧ d.moves.length ≤ 128 ∧ d.filesOk ∧ d.files.map DiskFile.name = d.made d.moves.length ∧ d.goneOk d.afterI := by
  unfold Disk.ok
  refine ⟨fun ⟨h1, h2, h3, h4, h5⟩ => ⟨h1, h2, h3, h4, fun i hi hg => ?_⟩, fun ⟨h1, h2, h3, h4, h5⟩ => ⟨h1, h2, h3, h4, fun i hi hg => ?_⟩⟩
  · have hn := d.names_nodup h3
    rw [h4] at hn
    rw [(d.after_facts hn i (by omega)).2.2]
    exact h5 i hi hg
  · have hn := d.names_nodup h3
    rw [h4] at hn
    rw [← (d.after_facts hn i (by omega)).2.2]
    exact h5 i hi hg
theorem Disk.ok_after (d : Disk) (h : d.ok) (i : Nat) (hi : i ≤ d.moves.length) : d.afterI i = d.afterW i ∧ (d.afterW i).Nodup ∧ ∀ x ∈ d.afterW i, ∃ j, ∃ h : j < d.files.length, d.files[j].name = x := by
  have hn := d.names_nodup h.2.2.1
  rw [h.2.2.2.1] at hn
  obtain ⟨h1, h2, h3⟩ := d.after_facts hn i hi
  refine ⟨h3, h1, fun x hx => ?_⟩
  obtain ⟨r, hr⟩ := d.made_pre i
  have hm : x ∈ d.files.map DiskFile.name := by rw [h.2.2.2.1, hr]; exact List.mem_append_left _ (h2 x hx)
  obtain ⟨j, hj, e⟩ := List.getElem_of_mem hm
  simp only [List.length_map] at hj
  exact ⟨j, hj, by simpa using e⟩
end Go.Proofs.YtddjgbhkfdpffaaGreatDoor
set_option linter.unusedVariables false
set_option linter.unusedSimpArgs false
namespace Go.Proofs.YtddjgbhkfdpffaaGreatDoor
open Go.ChangeShapes Go.WideShapes Go.ChangeAt Go.RowKit

/-- the position that follows the first i parts -/
def LogPlan.after (p : LogPlan) (i : Nat) : Int := if i = 0 then 1 else ((p.parts[i - 1]?).map LogPart.next).getD 1
theorem LogPlan.after_zero (p : LogPlan) : p.after 0 = 1 := rfl
theorem LogPlan.after_succ (p : LogPlan) (i : Nat) (h : i < p.parts.length) : p.after (i + 1) = p.parts[i].next := by
  unfold LogPlan.after
  simp [List.getElem?_eq_getElem h]
def LogPlan.fine (p : LogPlan) (i : Nat) (h : i < p.parts.length) : Prop :=
  (1 ≤ p.parts[i].num ∧ p.parts[i].num ≤ 999999) ∧ p.parts[i].num ≠ p.open_ ∧ p.parts[i].first = p.after i ∧ (p.parts[i].first ≤ p.parts[i].next ∧ p.parts[i].next ≤ 1000000) ∧
    (0 ≤ p.parts[i].size ∧ p.parts[i].size ≤ 20000) ∧ ∀ j (hj : j < i), (p.parts[j]'(by omega)).num ≠ p.parts[i].num
theorem LogPlan.fine_iff (p : LogPlan) (i : Nat) (h : i < p.parts.length) : p.fine i h ↔
  (1 ≤ p.parts[i].num ∧ p.parts[i].num ≤ 999999) ∧ p.parts[i].num ≠ p.open_ ∧ p.parts[i].first = p.after i ∧ (p.parts[i].first ≤ p.parts[i].next ∧ p.parts[i].next ≤ 1000000) ∧
    (0 ≤ p.parts[i].size ∧ p.parts[i].size ≤ 20000) ∧ ∀ j (hj : j < i), (p.parts[j]'(by omega)).num ≠ p.parts[i].num := Iff.rfl
def LogPlan.ok (p : LogPlan) : Prop := p.parts.length ≤ 40 ∧ (1 ≤ p.open_ ∧ p.open_ ≤ 999999) ∧ (∀ i (h : i < p.parts.length), p.fine i h) ∧ p.first = p.after p.parts.length
theorem LogPlan.fine_step (p : LogPlan) (k : Nat) (hk : k < p.parts.length) (ha : ∀ j (h : j < p.parts.length), j < k → p.fine j h) (hn : p.fine k hk) : ∀ j (h : j < p.parts.length), j < k + 1 → p.fine j h := fun j h hj => by
  by_cases e : j < k
  · exact ha j h e
  · obtain rfl : j = k := by omega
    exact hn
end Go.Proofs.YtddjgbhkfdpffaaGreatDoor
set_option linter.unusedVariables false
set_option linter.unusedSimpArgs false
namespace Go.Proofs.YtddjgbhkfdpffaaGreatDoor
open Go.ChangeShapes Go.WideShapes Go.ChangeAt Go.RowKit



end Go.Proofs.YtddjgbhkfdpffaaGreatDoor
set_option linter.unusedVariables false
set_option linter.unusedSimpArgs false
namespace Go.Proofs.YtddjgbhkfdpffaaGreatDoor
open Go.ChangeShapes Go.WideShapes Go.ChangeAt Go.RowKit



end Go.Proofs.YtddjgbhkfdpffaaGreatDoor
set_option linter.unusedVariables false
set_option linter.unusedSimpArgs false
namespace Go.Proofs.YtddjgbhkfdpffaaGreatDoor
open Go.ChangeShapes Go.WideShapes Go.ChangeAt Go.RowKit



end Go.Proofs.YtddjgbhkfdpffaaGreatDoor
set_option linter.unusedVariables false
set_option linter.unusedSimpArgs false
namespace Go.Proofs.YtddjgbhkfdpffaaGreatDoor
open Go.ChangeShapes Go.WideShapes Go.ChangeAt Go.RowKit



end Go.Proofs.YtddjgbhkfdpffaaGreatDoor
