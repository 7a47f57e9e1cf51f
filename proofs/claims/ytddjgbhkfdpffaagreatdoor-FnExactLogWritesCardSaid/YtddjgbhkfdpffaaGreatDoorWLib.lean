/-
  Go's library on slices that read as data: Equal, Clone and Contains of this program's text.
-/
import Derived.Test.YtddjgbhkfdpffaaGreatDoorWDDiskWrite
import Derived.Test.YtddjgbhkfdpffaaGreatDoorWOwn
import Derived.Test.YtddjgbhkfdpffaaGreatDoorWShelf
set_option linter.unusedVariables false
set_option linter.unusedSimpArgs false
namespace Go.Proofs.YtddjgbhkfdpffaaGreatDoor
open Go.ChangeShapes Go.WideShapes Go.ChangeAt Go.RowKit

theorem strs_all {w : World} {l : List ByteArray} {g off n c : Nat} {fp : List Nat} (h : Ow w (.s 1 l.length (l.flatMap strC)) (.slice (some ⟨g, off, none⟩) n c) fp) :
    ∀ j, j < l.length → w.cell? ⟨g, off + j, none⟩ = some (.string (l.getD j ByteArray.empty)) := fun j hj => by
  obtain ⟨g', off', e, _, hc, _⟩ := strs_at h hj
  injection e with e
  injection e with e1 e2
  subst e1 e2
  rw [hc, List.getD_eq_getElem?_getD, List.getElem?_eq_getElem hj]
  rfl
theorem ints_all {w : World} {l : List Int} {g off n c : Nat} {fp : List Nat} (h : Ow w (.s 1 l.length (l.flatMap intC)) (.slice (some ⟨g, off, none⟩) n c) fp) :
    ∀ j, j < l.length → w.cell? ⟨g, off + j, none⟩ = some (.int .i64 (l.getD j 0)) := fun j hj => by
  obtain ⟨g', off', e, _, hc, _⟩ := ints_at h hj
  injection e with e
  injection e with e1 e2
  subst e1 e2
  rw [hc, List.getD_eq_getElem?_getD, List.getElem?_eq_getElem hj]
  rfl
theorem containsInt_any (l : List Int) (x : Int) (A : Option Addr) (n c : Nat) (fp : List Nat) (w : World) (h : Ow w (.s 1 l.length (l.flatMap intC)) (.slice A n c) fp) :
    Calls Tryz.prog 69 #[.slice A n c, .int .i64 x] w fun e w' => e = .returned (.bool (tb (x ∈ l))) ∧ w' = w := by
  obtain ⟨rfl, hc, hm⟩ := h.nlen
  unfold maxLen at hm
  by_cases h0 : l.length = 0
  · have e1 : l = [] := List.eq_nil_of_length_eq_zero h0
    subst e1
    refine (Tryz.slices_Contains_int_empty A c x w).mono ?_
    rintro e w' ⟨rfl, rfl⟩
    exact ⟨by rw [tb_false (by simp)], rfl⟩
  · obtain ⟨g, off, rfl, _, _, _⟩ := ints_at h (i := 0) (by omega)
    refine (Tryz.slices_Contains_int g off l.length c l x w (Nat.le_refl _) (by omega) (ints_all h)).mono ?_
    rintro e w' ⟨rfl, rfl⟩
    refine ⟨?_, rfl⟩
    rw [List.take_length]
    by_cases hx : x ∈ l
    · rw [tb_true hx, List.contains_iff_mem.2 hx]
    · rw [tb_false hx]; simp [hx]
theorem strs_cells : ∀ (l : List ByteArray), (∀ s ∈ l, s.size ≤ maxLen) → ∀ (w : World), OwC w (l.flatMap strC) (l.map Value.string) []
  | [], _, w => by simp [OwC]
  | s :: r, h, w => ⟨[], [], ⟨rfl, h s (by simp), rfl⟩, strs_cells r (fun x hx => h x (by simp [hx])) w, rfl⟩
theorem cloneStr_any (l : List ByteArray) (A : Option Addr) (n c : Nat) (fp : List Nat) (w : World) (h : Ow w (.s 1 l.length (l.flatMap strC)) (.slice A n c) fp) (hb : l.length ≤ 1048576) :
    Calls Tryz.prog 83 #[.slice A n c] w fun e w' => ∃ v', e = .returned v' ∧ OwS w' w.heap.size 9 1 strC v' l (l.map Value.string) [] ∧ Below w.heap.size w w' := by
  obtain ⟨rfl, hc, hm⟩ := h.nlen
  have hs : ∀ s ∈ l, s.size ≤ maxLen := fun s hs => by
    obtain ⟨i, hi, rfl⟩ := List.getElem_of_mem hs
    obtain ⟨_, _, _, _, _, h⟩ := strs_at h hi
    exact h
  have mk : ∀ (v' : Value) (w' : World), w'.ownsRow w.heap.size 9 1 v' l.length (l.map Value.string) → OwS w' w.heap.size 9 1 strC v' l (l.map Value.string) [] := fun v' w' ho =>
    ⟨ho, strs_cells l hs w', New.nil _ _, fun g _ => by simp⟩
  by_cases h0 : l.length = 0
  · have e1 : l = [] := List.eq_nil_of_length_eq_zero h0
    subst e1
    cases A with
    | none =>
      refine (Tryz.slices_Clone_string_nil 0 c w).mono ?_
      rintro e w' ⟨rfl, rfl⟩
      exact ⟨_, rfl, mk _ _ (World.ownsRow_nil _ _ _ _), Below.refl _ _⟩
    | some a =>
      refine (Tryz.slices_Clone_string_zero a c w).mono ?_
      rintro e w' ⟨v', rfl, ho, _, hb⟩
      exact ⟨v', rfl, mk _ _ ho, hb⟩
  · obtain ⟨g, off, rfl, _, _, _⟩ := strs_at h (i := 0) (by omega)
    refine (Tryz.slices_Clone_string g off l.length c l w (Nat.le_refl _) (by omega) (strs_all h)).mono ?_
    rintro e w' ⟨v', rfl, ho, _, hb⟩
    rw [List.take_length] at ho
    exact ⟨v', rfl, mk _ _ ho, hb⟩
end Go.Proofs.YtddjgbhkfdpffaaGreatDoor
