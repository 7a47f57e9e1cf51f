/-
  slices.Sort at a slice of numbers of the call's own.
-/
import Derived.Test.YtpkjjfnfolbcoaaCrewW3
import Derived.Test.YtpkjjfnfolbcoaaShelf
import Derived.Sort.OwnSortedInts
set_option linter.unusedVariables false
set_option linter.unusedSimpArgs false
namespace Go.Proofs.Ytpkjjfnfolbcoaa
open Go.ChangeShapes Go.WideShapes Go.ChangeAt Go.RowKit

theorem ints_form {w : World} : ∀ (l : List Int) {us : List Value} {fi : List Nat}, OwC w (l.flatMap intC) us fi → us = l.map (Value.int .i64) ∧ fi = [] ∧ ∀ z ∈ l, (Lit.int .i64 z).wf = true
  | [], [], _, h => ⟨rfl, h, fun z hz => by cases hz⟩
  | [], _ :: _, _, h => h.elim
  | _ :: _, [], _, h => h.elim
  | z :: l, u :: us, _, h => by
    obtain ⟨f1, f2, ⟨h1, hw, hf⟩, h2, rfl⟩ := h
    obtain ⟨rfl, rfl, h3⟩ := ints_form l h2
    subst hf h1
    refine ⟨rfl, rfl, fun y hy => ?_⟩
    rcases List.mem_cons.1 hy with rfl | hy
    · exact hw
    · exact h3 y hy
theorem ints_made {w : World} : ∀ (l : List Int), (∀ z ∈ l, (Lit.int .i64 z).wf = true) → OwC w (l.flatMap intC) (l.map (Value.int .i64)) []
  | [], _ => rfl
  | z :: l, h => ⟨[], [], ⟨rfl, h z (by simp), rfl⟩, ints_made l (fun y hy => h y (by simp [hy])), rfl⟩
def sortI (l : List Int) : List Int := l.mergeSort fun x y => decide (x ≤ y)
theorem sortI_perm (l : List Int) : (sortI l).Perm l := List.mergeSort_perm _ _
theorem sortI_sorted (l : List Int) : (sortI l).Pairwise (· ≤ ·) := by
  have h := List.pairwise_mergeSort (le := fun x y : Int => decide (x ≤ y)) (fun a b c h1 h2 => by simp at *; omega) (fun a b => by simp; omega) l
  exact h.imp (fun h => by simpa using h)
set_option maxRecDepth 100000 in
theorem sortInts_any {B : Nat} {W0 w : World} {A : Option Addr} {n c : Nat} {l : List Int} {us : List Value} (h : Pl B W0 w (.slice A n c) l us) (hl : l.length ≤ 4096) :
    Calls Try.prog 155 #[.slice A n c] w fun e w' => e = .returned (.tuple #[]) ∧ ∃ us', Pl B W0 w' (.slice A n c) (sortI l) us' := by
  obtain ⟨hu, hz, hwf⟩ := ints_form l h.own.cells
  subst hu
  rcases h.own.own.2 with ⟨hn, h0⟩ | ⟨g, cap, cur, hv, hB, hg, h1, h2, h3, h4⟩
  · cases hn
    obtain rfl : l = [] := List.length_eq_zero_iff.1 h0
    refine (Try.slices_Sort_int_none none 0 w).mono ?_
    rintro e w' ⟨rfl, rfl⟩
    exact ⟨rfl, [], by simpa [sortI] using h⟩
  · cases hv
    refine (Try.slices_Sort_int g 0 c l w (holds_of_blockI hg (by simpa using h4)) (Array.getElem?_eq_some_iff.1 hg).1 (by omega)).mono ?_
    rintro e w' ⟨rfl, m, os, rfl⟩
    have hp := sortI_perm l
    have hgr : w.grownBy (Sort.grow (Sort.putRow (Value.int .i64) (Sort.ahead w m) g 0 (sortI l).toArray) os) (some g) := grownBy_sortedI _
    refine ⟨rfl, (sortI l).map (Value.int .i64), ⟨⟨?_, ints_made _ (fun z hz => hwf z (hp.mem_iff.1 hz)), New.nil _ _, fun g h => by simp⟩, ?_, ?_⟩⟩
    · have := ownsRow_sortedI (ts := sortI l) (n := m) (os := os) hp.length_eq hB hg h1 h2 h3
      rw [hp.length_eq]
      exact this
    · exact h.fr.trans (below_of_grown hgr hB h.sz)
    · exact Nat.le_trans h.sz hgr.size
end Go.Proofs.Ytpkjjfnfolbcoaa
