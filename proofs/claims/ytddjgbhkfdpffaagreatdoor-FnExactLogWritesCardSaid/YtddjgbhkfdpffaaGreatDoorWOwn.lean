/-
  Slices that a call makes by append: what they hold, what an append does to them, and that they read as data.
-/
import Derived.Maps.AppendAt
import Derived.Test.YtddjgbhkfdpffaaGreatDoorWStr
set_option linter.unusedVariables false
set_option linter.unusedSimpArgs false
namespace Go.Proofs.YtddjgbhkfdpffaaGreatDoor
open Go.ChangeShapes Go.WideShapes Go.ChangeAt Go.RowKit

/-- A slice of the call's own, from B on: its elements' cells us read as l; the blocks fi that they pass through are the call's own too. -/
structure OwS {α : Type} (w : World) (B : Nat) (e : TypeId) (k : Nat) (f : α → List D) (v : Value) (l : List α) (us : List Value) (fi : List Nat) : Prop where
  own : w.ownsRow B e k v l.length us
  cells : OwC w (l.flatMap f) us fi
  new : New w fi B
  out : ∀ g, v.ownBlock = some g → g ∉ fi

section
variable {α : Type} {w w' : World} {B : Nat} {e : TypeId} {k : Nat} {f : α → List D} {v v' : Value} {l : List α} {us : List Value} {fi : List Nat}

theorem New.grown {fp : List Nat} {lo : Nat} {r : Option Nat} (h : New w fp lo) (hg : w.grownBy w' r) (hr : ∀ g, r = some g → g ∉ fp) : New w' fp lo :=
  ⟨h.fr.mono (Nat.le_refl _) hg.size, h.nd, fun g hm => (h.uf g hm).same (hg.block g (h.lt g hm) (fun e => hr g e.symm hm))⟩
theorem OwC.grown' {ds : List D} {us : List Value} {fp : List Nat} {r : Option Nat} (h : OwC w ds us fp) (hg : w.grownBy w' r) (hl : Lt fp w.heap.size) (hr : ∀ g, r = some g → g ∉ fp) : OwC w' ds us fp :=
  OwC.frame ds (fun g hm => hg.block g (hl g hm) (fun e => hr g e.symm hm)) h

theorem OwS.nil (w : World) (B : Nat) (e : TypeId) (k : Nat) (f : α → List D) : OwS w B e k f (.slice none 0 0) [] [] [] :=
  ⟨World.ownsRow_nil _ _ _ _, by simp [OwC], New.nil _ _, fun g h => by simp⟩

theorem OwS.lt (h : OwS w B e k f v l us fi) : ∀ g, v.ownBlock = some g → g < w.heap.size := fun g hg => (h.own.lt g hg).2
theorem OwS.below {C : Nat} (h : OwS w B e k f v l us fi) (hb : Below w.heap.size w w') : OwS w' B e k f v l us fi := by
  refine ⟨?_, h.cells.below hb h.new.lt, h.new.below hb h.new.lt, h.out⟩
  refine ⟨h.own.1, ?_⟩
  rcases h.own.2 with hn | ⟨g, cap, cur, hv, hB, hg, rest⟩
  · exact .inl hn
  · refine .inr ⟨g, cap, cur, hv, hB, ?_, rest⟩
    rw [hb.block g (h.lt g (by rw [hv]; rfl))]
    exact hg
theorem OwS.alloc (h : OwS w B e k f v l us fi) (o : Obj) : OwS (w.alloc o) B e k f v l us fi := h.below (C := 0) ((Below.refl _ _).alloc (Nat.le_refl _) o)
theorem OwS.drewN (h : OwS w B e k f v l us fi) (n : Nat) : OwS (w.drewN n) B e k f v l us fi := ⟨h.own, h.cells.drewN n, h.new.drewN n, h.out⟩

/-- ONE ELEMENT MORE: behind an append. -/
theorem OwS.push (h : OwS w B e k f v l us fi) (x : α) {ux : List Value} {fx : List Nat} (hx : OwC w (f x) ux fx) (hn : New w (fi ++ fx) B) (ho : ∀ g, v.ownBlock = some g → g ∉ fx)
    (hown' : w'.ownsRow B e k v' (l.length + 1) (us ++ ux)) (hg : w.grownBy w' v.ownBlock) (ha : v'.ownBlock = v.ownBlock ∨ v'.ownBlock = some w.heap.size) :
    OwS w' B e k f v' (l ++ [x]) (us ++ ux) (fi ++ fx) := by
  have hr : ∀ g, v.ownBlock = some g → g ∉ fi ++ fx := fun g hg hm => by
    rcases List.mem_append.1 hm with hm | hm
    · exact h.out g hg hm
    · exact ho g hg hm
  have hc : OwC w ((l ++ [x]).flatMap f) (us ++ ux) (fi ++ fx) := by
    rw [List.flatMap_append, List.flatMap_singleton]
    exact h.cells.append hx
  refine ⟨by rw [List.length_append]; exact hown', hc.grown' hg hn.lt hr, hn.grown hg hr, fun g hgv hm => ?_⟩
  rcases ha with ha | ha
  · exact hr g (ha ▸ hgv) hm
  · rw [ha] at hgv
    injection hgv with hgv
    subst hgv
    exact Nat.lt_irrefl _ (hn.lt _ hm)

/-- what it reads as -/
theorem OwS.toOw (h : OwS w B e k f v l us fi) : ∃ fp, Ow w (.s k l.length (l.flatMap f)) v fp ∧ New w fp B := by
  have hl := h.cells.length
  have hu := h.own.1
  rcases h.own.2 with ⟨rfl, hn⟩ | ⟨g, cap, cur, rfl, hB, hg, h1, h2, h3, h4⟩
  · refine ⟨[], ?_, New.nil _ _⟩
    unfold Ow
    exact ⟨by rw [← hl, hu], none, 0, by rw [hn], by omega, by simp [maxLen], .inl ⟨hn, rfl⟩⟩
  · have hrow : Row w g e cur.toList := by simpa [Row] using hg
    by_cases h0 : l.length = 0
    · refine ⟨[], ?_, New.nil _ _⟩
      unfold Ow
      exact ⟨by rw [← hl, hu], _, cap, rfl, h1, h2, .inl ⟨h0, rfl⟩⟩
    · refine ⟨g :: fi, ?_, ⟨h.new.fr.cons hB hrow.lt, List.nodup_cons.2 ⟨h.out g rfl, h.new.nd⟩, fun b hb => ?_⟩⟩
      · unfold Ow
        refine ⟨by rw [← hl, hu], _, cap, rfl, h1, h2, .inr ⟨by omega, g, 0, fi, rfl, ?_, rfl⟩⟩
        refine OwC.row _ h.cells (fun j u hj => ?_)
        have hj' : j < us.length := (List.getElem?_eq_some_iff.1 hj).1
        rw [Nat.zero_add, hrow.cell]
        rw [← h4, List.getElem?_take] at hj
        split at hj
        · exact hj
        · cases hj
      · rcases List.mem_cons.1 hb with rfl | hb
        · exact Unf.row hrow
        · exact h.new.uf b hb
end
/-! ### What a call does that grows one slice v into v': all other old blocks stay -/
structure GB (w w' : World) (v v' : Value) : Prop where
  grown : w.grownBy w' v.ownBlock
  at' : v'.ownBlock = v.ownBlock ∨ ∃ g, v'.ownBlock = some g ∧ w.heap.size ≤ g

section
variable {w w1 w2 : World} {v v1 v2 : Value}
theorem GB.refl (w : World) (v : Value) : GB w w v v := ⟨⟨rfl, rfl, rfl, Nat.le_refl _, fun _ _ _ => rfl⟩, .inl rfl⟩
theorem GB.trans (h : GB w w1 v v1) (k : GB w1 w2 v1 v2) : GB w w2 v v2 := by
  refine ⟨⟨k.grown.os.trans h.grown.os, k.grown.tape.trans h.grown.tape, k.grown.output.trans h.grown.output, Nat.le_trans h.grown.size k.grown.size, fun i hi hne => ?_⟩, ?_⟩
  · refine (k.grown.block i (Nat.lt_of_lt_of_le hi h.grown.size) ?_).trans (h.grown.block i hi hne)
    rcases h.at' with e | ⟨g, e, hg⟩
    · rw [e]; exact hne
    · rw [e]; intro e'; injection e' with e'; omega
  · rcases k.at' with e | ⟨g, e, hg⟩
    · rw [e]; exact h.at'
    · exact .inr ⟨g, e, Nat.le_trans h.grown.size hg⟩
theorem GB.below (h : GB w w1 v v1) (hb : Below w1.heap.size w1 w2) : GB w w2 v v1 :=
  h.trans ⟨⟨hb.os, hb.tape, hb.output, hb.size, fun i hi _ => hb.block i hi⟩, .inl rfl⟩
theorem GB.alloc (h : GB w w1 v v1) (o : Obj) : GB w (w1.alloc o) v v1 := h.below ((Below.refl _ _).alloc (Nat.le_refl _) o)
theorem GB.drewN (h : GB w w1 v v1) (n : Nat) : GB w (w1.drewN n) v v1 := h.below ⟨rfl, rfl, rfl, Nat.le_refl _, fun _ _ => rfl⟩
theorem GB.step (hg : w.grownBy w1 v.ownBlock) (ha : v1.ownBlock = v.ownBlock ∨ v1.ownBlock = some w.heap.size) : GB w w1 v v1 :=
  ⟨hg, ha.imp id (fun e => ⟨_, e, Nat.le_refl _⟩)⟩
theorem GB.toBelow (h : GB w w1 v v1) {B : Nat} (hB : B ≤ w.heap.size) (hv : ∀ g, v.ownBlock = some g → B ≤ g) : Below B w w1 :=
  ⟨h.grown.os, h.grown.tape, h.grown.output, h.grown.size, fun i hi => h.grown.block i (by omega) (fun e => by have := hv i e.symm; omega)⟩
theorem GB.ne (h : GB w w1 v v1) {g : Nat} (hg : g < w.heap.size) (hn : v.ownBlock ≠ some g) : v1.ownBlock ≠ some g := by
  rcases h.at' with e | ⟨b, e, hb⟩
  · rw [e]; exact hn
  · rw [e]; intro e'; injection e' with e'; omega
theorem GB.row (h : GB w w1 v v1) {g : Nat} {e : TypeId} {cs : List Value} (hr : Row w g e cs) (hn : v.ownBlock ≠ some g) : Row w1 g e cs :=
  (h.grown.block g hr.lt hn.symm).trans hr
theorem GB.from (h : GB w w1 v v1) {B : Nat} (hB : B ≤ w.heap.size) (hv : ∀ g, v.ownBlock = some g → B ≤ g) : ∀ g, v1.ownBlock = some g → B ≤ g := fun g hg => by
  rcases h.at' with e | ⟨b, e, hb⟩
  · rw [e] at hg; exact hv g hg
  · rw [e] at hg; injection hg with hg; omega
end
theorem ownsRow_from {w : World} {B n : Nat} {e : TypeId} {k : Nat} {v : Value} {xs : List Value} (h : w.ownsRow B e k v n xs) : ∀ g, v.ownBlock = some g → B ≤ g := fun g hg => (h.lt g hg).1
theorem ownsRow_below {w w' : World} {B n : Nat} {e : TypeId} {k : Nat} {v : Value} {xs : List Value} (h : w.ownsRow B e k v n xs) (hb : Below w.heap.size w w') : w'.ownsRow B e k v n xs := by
  refine ⟨h.1, ?_⟩
  rcases h.2 with hn | ⟨g, cap, cur, hv, hB, hg, rest⟩
  · exact .inl hn
  · refine .inr ⟨g, cap, cur, hv, hB, ?_, rest⟩
    rw [hb.block g (h.lt g (by rw [hv]; rfl)).2]
    exact hg
end Go.Proofs.YtddjgbhkfdpffaaGreatDoor
