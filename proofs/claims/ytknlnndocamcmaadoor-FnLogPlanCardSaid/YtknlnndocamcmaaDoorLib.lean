/-
  Go's library on slices that read as data: Equal, Clone and Contains of this program's text.
-/
import Derived.Test.YtknlnndocamcmaaDoorName
import Derived.Test.YtknlnndocamcmaaDoorOwn
import Derived.Test.YtknlnndocamcmaaDoorShelf
set_option linter.unusedVariables false
set_option linter.unusedSimpArgs false
namespace Go.Proofs.YtknlnndocamcmaaDoor
open Go.ChangeShapes Go.WideShapes Go.ChangeAt Go.RowKit

theorem strs_all {w : World} {l : List ByteArray} {g off n c : Nat} {fp : List Nat} (h : Ow w (.s 1 l.length (l.flatMap strC)) (.slice (some ⟨g, off, none⟩) n c) fp) :
    ∀ j, j < l.length → w.cell? ⟨g, off + j, none⟩ = some (.string (l.getD j ByteArray.empty)) := fun j hj => by
  obtain ⟨g', off', e, _, hc, _⟩ := strs_at h hj
  injection e with e
  injection e with e1 e2
  subst e1 e2
  rw [hc, List.getD_eq_getElem?_getD, List.getElem?_eq_getElem hj]
  rfl
theorem ints_all {w : World} {l : List Int} {g off n c : Nat} {fp : List Nat} (h : Ow w (.s 1 l.length (l.flatMap intC)) (.slice (some ⟨g, off, none⟩) n c) fp) :
    ∀ j, j < l.length → w.cell? ⟨g, off + j, none⟩ = some (.int .i64 (l.getD j 0)) := fun j hj => by
  obtain ⟨g', off', e, _, hc, _⟩ := ints_at h hj
  injection e with e
  injection e with e1 e2
  subst e1 e2
  rw [hc, List.getD_eq_getElem?_getD, List.getElem?_eq_getElem hj]
  rfl
theorem tb_dec {p : Prop} [Decidable p] : decide p = tb p := by
  by_cases h : p
  · rw [tb_true h]; simpa using h
  · rw [tb_false h]; simpa using h

theorem containsInt_any (l : List Int) (x : Int) (A : Option Addr) (n c : Nat) (fp : List Nat) (w : World) (h : Ow w (.s 1 l.length (l.flatMap intC)) (.slice A n c) fp) :
    Calls Tryd.prog 32 #[.slice A n c, .int .i64 x] w fun e w' => e = .returned (.bool (tb (x ∈ l))) ∧ w' = w := by
  obtain ⟨rfl, hc, hm⟩ := h.nlen
  unfold maxLen at hm
  by_cases h0 : l.length = 0
  · have e1 : l = [] := List.eq_nil_of_length_eq_zero h0
    subst e1
    refine (Tryd.slices_Contains_int_empty A c x w).mono ?_
    rintro e w' ⟨rfl, rfl⟩
    exact ⟨by rw [tb_false (by simp)], rfl⟩
  · obtain ⟨g, off, rfl, _, _, _⟩ := ints_at h (i := 0) (by omega)
    refine (Tryd.slices_Contains_int g off l.length c l x w (Nat.le_refl _) (by omega) (ints_all h)).mono ?_
    rintro e w' ⟨rfl, rfl⟩
    refine ⟨?_, rfl⟩
    rw [List.take_length]
    by_cases hx : x ∈ l
    · rw [tb_true hx, List.contains_iff_mem.2 hx]
    · rw [tb_false hx]; simp [hx]
end Go.Proofs.YtknlnndocamcmaaDoor
