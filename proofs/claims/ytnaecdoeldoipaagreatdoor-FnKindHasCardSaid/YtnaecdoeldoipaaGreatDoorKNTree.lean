/-
  The laws' own marks: what markText, markStringS, markIntS, markByteS write, and that heldStringS, heldIntS, heldByteS find it again. Tree: what the laws' marks write, and that they are found again. The laws' marks at a Tree by value: only its slices are marked.
-/
import Derived.Deep.RegionHeld3
import Derived.Test.YtnaecdoeldoipaaGreatDoorKDTree
set_option linter.unusedVariables false
set_option linter.unusedSimpArgs false
namespace Go.Proofs.YtnaecdoeldoipaaGreatDoor
open Go.ChangeShapes Go.WideShapes Go.ChangeAt Go.RowKit

/-- Only blocks of fp may have turned; what may be written may still be. -/
structure Touch (fp : List Nat) (w w' : World) : Prop where
  os : w'.os = w.os
  tape : w'.tape = w.tape
  output : w'.output = w.output
  size : w.heap.size ≤ w'.heap.size
  block : ∀ b, b < w.heap.size → b ∉ fp → w'.heap[b]? = w.heap[b]?
  unf : ∀ g, Unf w g → Unf w' g
theorem unf_lt {w : World} {g : Nat} (h : Unf w g) : g < w.heap.size := by
  obtain ⟨cs, e, h⟩ := h
  rcases Nat.lt_or_ge g w.heap.size with hlt | hge
  · exact hlt
  · rw [Array.getElem?_eq_none hge] at h; cases h
theorem Touch.refl (fp : List Nat) (w : World) : Touch fp w w := ⟨rfl, rfl, rfl, Nat.le_refl _, fun _ _ _ => rfl, fun _ h => h⟩
theorem Touch.trans {fp : List Nat} {a b c : World} (h : Touch fp a b) (k : Touch fp b c) : Touch fp a c :=
  ⟨k.os.trans h.os, k.tape.trans h.tape, k.output.trans h.output, Nat.le_trans h.size k.size, fun g h1 h2 => (k.block g (Nat.lt_of_lt_of_le h1 h.size) h2).trans (h.block g h1 h2), fun g hg => k.unf g (h.unf g hg)⟩
theorem Touch.mono {fp fq : List Nat} {a b : World} (h : Touch fp a b) (hs : fp ⊆ fq) : Touch fq a b := ⟨h.os, h.tape, h.output, h.size, fun g h1 h2 => h.block g h1 (fun hm => h2 (hs hm)), h.unf⟩
theorem Touch.below {fp : List Nat} {a b : World} (h : Below a.heap.size a b) : Touch fp a b :=
  ⟨h.os, h.tape, h.output, h.size, fun g h1 _ => h.block g h1, fun g hg => hg.same (h.block g (unf_lt hg))⟩
theorem Touch.setCell {fp : List Nat} {w : World} {a : Addr} (ha : a.block ∈ fp) (u : Value) : Touch fp w (w.setCell a u) :=
  ⟨rfl, rfl, rfl, by simp [World.setCell], fun b h1 h2 => Below.heap_setCell w a u b (fun e => h2 (e ▸ ha)), fun g hg => hg.setCell a u⟩
theorem Touch.drewN {fp : List Nat} (w : World) (n : Nat) : Touch fp w (w.drewN n) := ⟨rfl, rfl, rfl, Nat.le_refl _, fun _ _ _ => rfl, fun _ h => h⟩
theorem Touch.new {fp fq : List Nat} {lo : Nat} {w w' : World} (h : Touch fp w w') (hn : New w fq lo) : New w' fq lo :=
  ⟨hn.fr.mono (Nat.le_refl _) h.size, hn.nd, fun g hg => h.unf g (hn.uf g hg)⟩
/-- Within one element of a row: only the element's own cells, and blocks of fi, may have turned. -/
structure Seg (g lo hi : Nat) (fi : List Nat) (w w' : World) : Prop where
  os : w'.os = w.os
  tape : w'.tape = w.tape
  output : w'.output = w.output
  size : w.heap.size ≤ w'.heap.size
  cell : ∀ o, o < lo ∨ hi ≤ o → w'.cell? ⟨g, o, none⟩ = w.cell? ⟨g, o, none⟩
  block : ∀ b, b < w.heap.size → b ≠ g → b ∉ fi → w'.heap[b]? = w.heap[b]?
  unf : ∀ g, Unf w g → Unf w' g
theorem Seg.refl (g lo hi : Nat) (fi : List Nat) (w : World) : Seg g lo hi fi w w := ⟨rfl, rfl, rfl, Nat.le_refl _, fun _ _ => rfl, fun _ _ _ _ => rfl, fun _ h => h⟩
theorem Seg.setCell {g lo hi : Nat} {fi : List Nat} {w w' : World} (h : Seg g lo hi fi w w') {o : Nat} (h1 : lo ≤ o) (h2 : o < hi) (u : Value) : Seg g lo hi fi w (w'.setCell ⟨g, o, none⟩ u) :=
  ⟨h.os, h.tape, h.output, by simpa [World.setCell] using h.size, fun p hp => (World.cell?_setCell_other _ ⟨g, o, none⟩ ⟨g, p, none⟩ _ (by simp; try omega)).trans (h.cell p hp), fun b hb hn hf => (Below.heap_setCell _ _ _ b hn).trans (h.block b hb hn hf), fun x hx => (h.unf x hx).setCell _ _⟩
theorem Seg.mono {g lo hi : Nat} {fi fj : List Nat} {w w' : World} (h : Seg g lo hi fi w w') (hs : fi ⊆ fj) : Seg g lo hi fj w w' :=
  ⟨h.os, h.tape, h.output, h.size, h.cell, fun b h1 h2 h3 => h.block b h1 h2 (fun hm => h3 (hs hm)), h.unf⟩
def mloop : Nat → Nat → ByteArray → ByteArray
  | 0, _, out => out
  | f + 1, k, out => if k = 0 then out else mloop f (k / 10) (strOfNums [48 + (k : Int) % 10] ++ out)
def mtext (k : Nat) : ByteArray := if k = 0 then ⟨#[109, 48]⟩ else ⟨#[109]⟩ ++ mloop k k .empty
/-! ### Lists of plain values -/

def MkStringS (l : List ByteArray) (a b : Nat) : Prop := b = a + l.length ∧ ∀ i (h : i < l.length), l[i] = mtext (a + i)
theorem MkStringS.step {l : List ByteArray} {a k : Nat} (hk : k < l.length) (h : ∀ i (h : i < l.length), i < k → l[i] = mtext (a + i)) :
    ∀ i (h' : i < (l.set k (mtext (a + k))).length), i < k + 1 → (l.set k (mtext (a + k)))[i] = mtext (a + i) := by
  intro i h' hi
  by_cases e : i = k
  · subst e; simp
  · rw [List.getElem_set_ne (by omega)]
    exact h i (by simpa using h') (by omega)

def MkIntS (l : List Int) (a b : Nat) : Prop := b = a + l.length ∧ ∀ i (h : i < l.length), l[i] = ((a + i : Nat) : Int)
theorem MkIntS.step {l : List Int} {a k : Nat} (hk : k < l.length) (h : ∀ i (h : i < l.length), i < k → l[i] = ((a + i : Nat) : Int)) :
    ∀ i (h' : i < (l.set k (((a + k : Nat) : Int))).length), i < k + 1 → (l.set k (((a + k : Nat) : Int)))[i] = ((a + i : Nat) : Int) := by
  intro i h' hi
  by_cases e : i = k
  · subst e; simp
  · rw [List.getElem_set_ne (by omega)]
    exact h i (by simpa using h') (by omega)

def MkByteS (l : List UInt8) (a b : Nat) : Prop := b = a + l.length ∧ ∀ i (h : i < l.length), l[i] = UInt8.ofNat (a + i)
theorem MkByteS.step {l : List UInt8} {a k : Nat} (hk : k < l.length) (h : ∀ i (h : i < l.length), i < k → l[i] = UInt8.ofNat (a + i)) :
    ∀ i (h' : i < (l.set k (UInt8.ofNat (a + k))).length), i < k + 1 → (l.set k (UInt8.ofNat (a + k)))[i] = UInt8.ofNat (a + i) := by
  intro i h' hi
  by_cases e : i = k
  · subst e; simp
  · rw [List.getElem_set_ne (by omega)]
    exact h i (by simpa using h') (by omega)

end Go.Proofs.YtnaecdoeldoipaaGreatDoor
set_option linter.unusedVariables false
set_option linter.unusedSimpArgs false
namespace Go.Proofs.YtnaecdoeldoipaaGreatDoor
open Go.ChangeShapes Go.WideShapes Go.ChangeAt Go.RowKit

end Go.Proofs.YtnaecdoeldoipaaGreatDoor
set_option linter.unusedVariables false
set_option linter.unusedSimpArgs false
namespace Go.Proofs.YtnaecdoeldoipaaGreatDoor
open Go.ChangeShapes Go.WideShapes Go.ChangeAt Go.RowKit
end Go.Proofs.YtnaecdoeldoipaaGreatDoor
