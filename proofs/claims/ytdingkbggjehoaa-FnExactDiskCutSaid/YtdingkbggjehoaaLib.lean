/-
  Go's library on slices that read as data: Equal, Clone and Contains of this program's text.
-/
import Derived.Test.YtdingkbggjehoaaName
import Derived.Test.YtdingkbggjehoaaOwn
import Derived.Test.YtdingkbggjehoaaShelf
set_option linter.unusedVariables false
set_option linter.unusedSimpArgs false
namespace Go.Proofs.Ytdingkbggjehoaa
open Go.ChangeShapes Go.WideShapes Go.ChangeAt Go.RowKit

theorem strs_all {w : World} {l : List ByteArray} {g off n c : Nat} {fp : List Nat} (h : Ow w (.s 1 l.length (l.flatMap strC)) (.slice (some ⟨g, off, none⟩) n c) fp) :
    ∀ j, j < l.length → w.cell? ⟨g, off + j, none⟩ = some (.string (l.getD j ByteArray.empty)) := fun j hj => by
  obtain ⟨g', off', e, _, hc, _⟩ := strs_at h hj
  injection e with e
  injection e with e1 e2
  subst e1 e2
  rw [hc, List.getD_eq_getElem?_getD, List.getElem?_eq_getElem hj]
  rfl
theorem ints_all {w : World} {l : List Int} {g off n c : Nat} {fp : List Nat} (h : Ow w (.s 1 l.length (l.flatMap intC)) (.slice (some ⟨g, off, none⟩) n c) fp) :
    ∀ j, j < l.length → w.cell? ⟨g, off + j, none⟩ = some (.int .i64 (l.getD j 0)) := fun j hj => by
  obtain ⟨g', off', e, _, hc, _⟩ := ints_at h hj
  injection e with e
  injection e with e1 e2
  subst e1 e2
  rw [hc, List.getD_eq_getElem?_getD, List.getElem?_eq_getElem hj]
  rfl
theorem tb_dec {p : Prop} [Decidable p] : decide p = tb p := by
  by_cases h : p
  · rw [tb_true h]; simpa using h
  · rw [tb_false h]; simpa using h

theorem equalStr_any (l l' : List ByteArray) (A A' : Option Addr) (n n' c c' : Nat) (fp fp' : List Nat) (w : World) (h : Ow w (.s 1 l.length (l.flatMap strC)) (.slice A n c) fp) (h' : Ow w (.s 1 l'.length (l'.flatMap strC)) (.slice A' n' c') fp') :
    Calls Try.prog 161 #[.slice A n c, .slice A' n' c'] w fun e w' => e = .returned (.bool (tb (l = l'))) ∧ Below w.heap.size w w' := by
  obtain ⟨rfl, hc, hm⟩ := h.nlen
  obtain ⟨rfl, hc', hm'⟩ := h'.nlen
  unfold maxLen at hm hm'
  by_cases hl : l.length = l'.length
  · by_cases h0 : l.length = 0
    · have e1 : l = [] := List.eq_nil_of_length_eq_zero h0
      have e2 : l' = [] := List.eq_nil_of_length_eq_zero (by omega)
      subst e1 e2
      refine (Try.slices_Equal_string_empty A A' c 0 c' w (by omega)).mono ?_
      rintro e w' ⟨rfl, rfl⟩
      exact ⟨by rw [tb_true rfl]; rfl, Below.refl _ _⟩
    · obtain ⟨g, off, rfl, _, _, _⟩ := strs_at h (i := 0) (by omega)
      obtain ⟨g', off', rfl, _, _, _⟩ := strs_at h' (i := 0) (by omega)
      refine (Try.slices_Equal_string g off l.length c g' off' l'.length c' l l' w (Nat.le_refl _) (Nat.le_refl _) (by omega) (by omega) (strs_all h) (strs_all h')).mono ?_
      rintro e w' ⟨rfl, q, rfl⟩
      exact ⟨by rw [List.take_length, List.take_length, tb_dec], below_drewN (Below.refl _ _) q⟩
  · refine (Try.slices_Equal_string_lens A A' l.length c l'.length c' w hl).mono ?_
    rintro e w' ⟨rfl, rfl⟩
    exact ⟨by rw [tb_false (fun e => hl (by rw [e]))], Below.refl _ _⟩
theorem strs_cells : ∀ (l : List ByteArray), (∀ s ∈ l, s.size ≤ maxLen) → ∀ (w : World), OwC w (l.flatMap strC) (l.map Value.string) []
  | [], _, w => by simp [OwC]
  | s :: r, h, w => ⟨[], [], ⟨rfl, h s (by simp), rfl⟩, strs_cells r (fun x hx => h x (by simp [hx])) w, rfl⟩
theorem cloneStr_any (l : List ByteArray) (A : Option Addr) (n c : Nat) (fp : List Nat) (w : World) (h : Ow w (.s 1 l.length (l.flatMap strC)) (.slice A n c) fp) (hb : l.length ≤ 1048576) :
    Calls Try.prog 125 #[.slice A n c] w fun e w' => ∃ v', e = .returned v' ∧ OwS w' w.heap.size 9 1 strC v' l (l.map Value.string) [] ∧ Below w.heap.size w w' := by
  obtain ⟨rfl, hc, hm⟩ := h.nlen
  have hs : ∀ s ∈ l, s.size ≤ maxLen := fun s hs => by
    obtain ⟨i, hi, rfl⟩ := List.getElem_of_mem hs
    obtain ⟨_, _, _, _, _, h⟩ := strs_at h hi
    exact h
  have mk : ∀ (v' : Value) (w' : World), w'.ownsRow w.heap.size 9 1 v' l.length (l.map Value.string) → OwS w' w.heap.size 9 1 strC v' l (l.map Value.string) [] := fun v' w' ho =>
    ⟨ho, strs_cells l hs w', New.nil _ _, fun g _ => by simp⟩
  by_cases h0 : l.length = 0
  · have e1 : l = [] := List.eq_nil_of_length_eq_zero h0
    subst e1
    cases A with
    | none =>
      refine (Try.slices_Clone_string_nil 0 c w).mono ?_
      rintro e w' ⟨rfl, rfl⟩
      exact ⟨_, rfl, mk _ _ (World.ownsRow_nil _ _ _ _), Below.refl _ _⟩
    | some a =>
      refine (Try.slices_Clone_string_zero a c w).mono ?_
      rintro e w' ⟨v', rfl, ho, _, hb⟩
      exact ⟨v', rfl, mk _ _ ho, hb⟩
  · obtain ⟨g, off, rfl, _, _, _⟩ := strs_at h (i := 0) (by omega)
    refine (Try.slices_Clone_string g off l.length c l w (Nat.le_refl _) (by omega) (strs_all h)).mono ?_
    rintro e w' ⟨v', rfl, ho, _, hb⟩
    rw [List.take_length] at ho
    exact ⟨v', rfl, mk _ _ ho, hb⟩
end Go.Proofs.Ytdingkbggjehoaa
