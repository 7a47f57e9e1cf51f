/-
  Words and lemmas that every walk of this seat uses; nothing here names the program. D: what a cell reads as; Ow, OwL, OwC: a cell, a row of memory, a list of cells reads so, with the blocks that the reading passes through. Texts: when a comparison of two texts answers true. A byte of a number: plain.
-/
import Derived.WalkKit
import Derived.ProofKit
import Derived.OpenShut
import Derived.ShutString
import Derived.Below
import Derived.Carry
import Derived.Outline
import Derived.WalkLawsBesides
import Derived.WalkSpells
import Derived.ChangeOld
import Derived.Deep.Slices
import Derived.Deep.Draws
import Derived.Deep.QuietTactic
import Derived.BigQuiet
import Derived.StillTailTactics
set_option linter.unusedVariables false
set_option linter.unusedSimpArgs false
namespace Go.Proofs.YtddjgbhkfdpffaaGreatDoor
open Go.ChangeShapes Go.WideShapes Go.ChangeAt Go.RowKit

/-- What one cell reads as: a plain value, or a slice of n elements of k cells each, its cells one behind the other. -/
inductive D where
  | v (x : Value)
  | s (k n : Nat) (l : List D)

def okAtom : Value → Prop
  | .int k n => (Lit.int k n).wf = true
  | .string s => s.size ≤ maxLen
  | .bool _ => True
  | _ => False

mutual
def Ow (w : World) : D → Value → List Nat → Prop
  | .v x, y, fp => y = x ∧ okAtom x ∧ fp = []
  | .s k n l, y, fp => l.length = n * k ∧ ∃ A c, y = .slice A n c ∧ n ≤ c ∧ c ≤ maxLen ∧
      ((n = 0 ∧ fp = []) ∨ (0 < n ∧ ∃ g off f, A = some ⟨g, off, none⟩ ∧ OwL w l g off f ∧ fp = g :: f))
def OwL (w : World) : List D → Nat → Nat → List Nat → Prop
  | [], _, _, fp => fp = []
  | d :: r, g, off, fp => ∃ u f1 f2, w.cell? ⟨g, off, none⟩ = some u ∧ Ow w d u f1 ∧ OwL w r g (off + 1) f2 ∧ fp = f1 ++ f2
end

def OwC (w : World) : List D → List Value → List Nat → Prop
  | [], [], fp => fp = []
  | d :: r, u :: us, fp => ∃ f1 f2, Ow w d u f1 ∧ OwC w r us f2 ∧ fp = f1 ++ f2
  | _, _, _ => False

/-- All blocks of a reading lie below B. -/
def Lt (fp : List Nat) (B : Nat) : Prop := ∀ g ∈ fp, g < B

theorem Lt.nil (B : Nat) : Lt [] B := fun _ h => by cases h
theorem Lt.mono {fp : List Nat} {B B' : Nat} (h : Lt fp B) (hB : B ≤ B') : Lt fp B' := fun g hg => Nat.lt_of_lt_of_le (h g hg) hB
theorem Lt.sub {fp fq : List Nat} {B : Nat} (h : Lt fp B) (hs : fq ⊆ fp) : Lt fq B := fun g hg => h g (hs hg)
theorem Lt.app {fp fq : List Nat} {B : Nat} (h : Lt fp B) (k : Lt fq B) : Lt (fp ++ fq) B := fun g hg => by
  rcases List.mem_append.1 hg with hg | hg
  · exact h g hg
  · exact k g hg
theorem Lt.left {fp fq : List Nat} {B : Nat} (h : Lt (fp ++ fq) B) : Lt fp B := fun g hg => h g (List.mem_append_left _ hg)
theorem Lt.right {fp fq : List Nat} {B : Nat} (h : Lt (fp ++ fq) B) : Lt fq B := fun g hg => h g (List.mem_append_right _ hg)

mutual
theorem Ow.frame {w w' : World} : ∀ (d : D) {y : Value} {fp : List Nat}, (∀ g ∈ fp, w'.heap[g]? = w.heap[g]?) → Ow w d y fp → Ow w' d y fp
  | .v _, _, _, _, h => by simpa [Ow] using h
  | .s _ _ l, _, _, hf, h => by
    unfold Ow at h ⊢
    obtain ⟨hl, A, c, rfl, h1, h2, h3⟩ := h
    refine ⟨hl, A, c, rfl, h1, h2, ?_⟩
    rcases h3 with h3 | ⟨h3, g, off, f, rfl, ho, rfl⟩
    · exact .inl h3
    · exact .inr ⟨h3, g, off, f, rfl, OwL.frame l (hf g (by simp)) (fun b hb => hf b (by simp [hb])) ho, rfl⟩
theorem OwL.frame {w w' : World} : ∀ (l : List D) {g off : Nat} {fp : List Nat}, w'.heap[g]? = w.heap[g]? → (∀ b ∈ fp, w'.heap[b]? = w.heap[b]?) → OwL w l g off fp → OwL w' l g off fp
  | [], _, _, _, _, _, h => by simpa [OwL] using h
  | d :: r, g, off, fp, hg, hf, h => by
    unfold OwL at h ⊢
    obtain ⟨u, f1, f2, hc, h1, h2, rfl⟩ := h
    exact ⟨u, f1, f2, (World.cell?_of_block (a := ⟨g, off, none⟩) hg).trans hc, Ow.frame d (fun b hb => hf b (by simp [hb])) h1, OwL.frame r hg (fun b hb => hf b (by simp [hb])) h2, rfl⟩
end

theorem OwC.frame {w w' : World} : ∀ (l : List D) {us : List Value} {fp : List Nat}, (∀ g ∈ fp, w'.heap[g]? = w.heap[g]?) → OwC w l us fp → OwC w' l us fp
  | [], [], _, _, h => by simpa [OwC] using h
  | [], _ :: _, _, _, h => h.elim
  | _ :: _, [], _, _, h => h.elim
  | d :: r, u :: us, fp, hf, h => by
    unfold OwC at h ⊢
    obtain ⟨f1, f2, h1, h2, rfl⟩ := h
    exact ⟨f1, f2, Ow.frame d (fun b hb => hf b (by simp [hb])) h1, OwC.frame r (fun b hb => hf b (by simp [hb])) h2, rfl⟩

theorem Ow.below {w w' : World} {d : D} {y : Value} {fp : List Nat} {B : Nat} (h : Ow w d y fp) (hb : Below B w w') (hl : Lt fp B) : Ow w' d y fp :=
  Ow.frame d (fun g hg => hb.block g (hl g hg)) h
theorem OwC.below {w w' : World} {l : List D} {us : List Value} {fp : List Nat} {B : Nat} (h : OwC w l us fp) (hb : Below B w w') (hl : Lt fp B) : OwC w' l us fp :=
  OwC.frame l (fun g hg => hb.block g (hl g hg)) h

theorem Ow.alloc {w : World} {d : D} {y : Value} {fp : List Nat} (h : Ow w d y fp) (hl : Lt fp w.heap.size) (o : Obj) : Ow (w.alloc o) d y fp :=
  h.below ((Below.refl w.heap.size w).alloc (Nat.le_refl _) o) hl
theorem OwC.alloc {w : World} {l : List D} {us : List Value} {fp : List Nat} (h : OwC w l us fp) (hl : Lt fp w.heap.size) (o : Obj) : OwC (w.alloc o) l us fp :=
  h.below ((Below.refl w.heap.size w).alloc (Nat.le_refl _) o) hl
theorem Ow.drewN {w : World} {d : D} {y : Value} {fp : List Nat} (h : Ow w d y fp) (n : Nat) : Ow (w.drewN n) d y fp := Ow.frame (w := w) d (fun _ _ => rfl) h
theorem OwC.drewN {w : World} {l : List D} {us : List Value} {fp : List Nat} (h : OwC w l us fp) (n : Nat) : OwC (w.drewN n) l us fp := OwC.frame (w := w) l (fun _ _ => rfl) h
theorem Lt.up {fp : List Nat} {B : Nat} {w w' : World} (h : Lt fp w.heap.size) (hb : Below B w w') : Lt fp w'.heap.size := h.mono hb.size
theorem Lt.alloc {fp : List Nat} {w : World} (h : Lt fp w.heap.size) (o : Obj) : Lt fp (w.alloc o).heap.size := h.mono (by simp)

/-- All blocks of a reading lie from lo on, below hi. -/
def Fr (fp : List Nat) (lo hi : Nat) : Prop := ∀ g ∈ fp, lo ≤ g ∧ g < hi
theorem Fr.nil (lo hi : Nat) : Fr [] lo hi := fun _ h => by cases h
theorem Fr.lt {fp : List Nat} {lo hi : Nat} (h : Fr fp lo hi) : Lt fp hi := fun g hg => (h g hg).2
theorem Fr.mono {fp : List Nat} {lo hi lo' hi' : Nat} (h : Fr fp lo hi) (h1 : lo' ≤ lo) (h2 : hi ≤ hi') : Fr fp lo' hi' := fun g hg => ⟨Nat.le_trans h1 (h g hg).1, Nat.lt_of_lt_of_le (h g hg).2 h2⟩
theorem Fr.app {fp fq : List Nat} {lo hi : Nat} (h : Fr fp lo hi) (k : Fr fq lo hi) : Fr (fp ++ fq) lo hi := fun g hg => by
  rcases List.mem_append.1 hg with hg | hg
  · exact h g hg
  · exact k g hg
theorem Fr.cons {fp : List Nat} {lo hi g : Nat} (h : Fr fp lo hi) (h1 : lo ≤ g) (h2 : g < hi) : Fr (g :: fp) lo hi := fun b hb => by
  rcases List.mem_cons.1 hb with rfl | hb
  · exact ⟨h1, h2⟩
  · exact h b hb
theorem Ow.setCell {w : World} {d : D} {y : Value} {fp : List Nat} (h : Ow w d y fp) {a : Addr} (hn : a.block ∉ fp) (u : Value) : Ow (w.setCell a u) d y fp :=
  Ow.frame d (fun g hg => Below.heap_setCell w a u g (fun e => hn (e ▸ hg))) h
theorem OwC.setCell {w : World} {l : List D} {us : List Value} {fp : List Nat} (h : OwC w l us fp) {a : Addr} (hn : a.block ∉ fp) (u : Value) : OwC (w.setCell a u) l us fp :=
  OwC.frame l (fun g hg => Below.heap_setCell w a u g (fun e => hn (e ▸ hg))) h
theorem Fr.not_mem {fp : List Nat} {lo hi g : Nat} (h : Fr fp lo hi) (hg : g < lo ∨ hi ≤ g) : g ∉ fp := fun hm => by have := h g hm; omega
theorem Lt.not_mem {fp : List Nat} {B g : Nat} (h : Lt fp B) (hg : B ≤ g) : g ∉ fp := fun hm => by have := h g hm; omega

theorem OwL.append {w : World} : ∀ (l r : List D) (g off : Nat) (fp : List Nat), OwL w (l ++ r) g off fp ↔ ∃ f1 f2, OwL w l g off f1 ∧ OwL w r g (off + l.length) f2 ∧ fp = f1 ++ f2
  | [], r, g, off, fp => by
    constructor
    · intro h; exact ⟨[], fp, by simp [OwL], by simpa using h, rfl⟩
    · rintro ⟨f1, f2, h1, h2, rfl⟩
      simp only [OwL] at h1; subst h1; simpa using h2
  | d :: l, r, g, off, fp => by
    have ih := OwL.append (w := w) l r g (off + 1)
    have e : off + (d :: l).length = off + 1 + l.length := by simp only [List.length_cons]; omega
    rw [e]
    constructor
    · intro h
      simp only [List.cons_append, OwL] at h
      obtain ⟨u, f1, f2, hc, h1, h2, rfl⟩ := h
      obtain ⟨f3, f4, h3, h4, rfl⟩ := (ih f2).1 h2
      exact ⟨f1 ++ f3, f4, by simp only [OwL]; exact ⟨u, f1, f3, hc, h1, h3, rfl⟩, h4, by simp⟩
    · rintro ⟨f1, f2, h1, h2, rfl⟩
      simp only [OwL] at h1
      obtain ⟨u, f3, f4, hc, h3, h4, rfl⟩ := h1
      simp only [List.cons_append, OwL]
      exact ⟨u, f3, f4 ++ f2, hc, h3, (ih _).2 ⟨f4, f2, h4, h2, rfl⟩, by simp⟩

/-- A row as its cells. -/
theorem OwL.cells {w : World} : ∀ (l : List D) {g off : Nat} {fp : List Nat}, OwL w l g off fp → ∃ us, us.length = l.length ∧ (∀ j u, us[j]? = some u → w.cell? ⟨g, off + j, none⟩ = some u) ∧ OwC w l us fp
  | [], _, _, _, h => ⟨[], rfl, by simp, by simpa [OwL, OwC] using h⟩
  | d :: r, g, off, fp, h => by
    unfold OwL at h
    obtain ⟨u, f1, f2, hc, h1, h2, rfl⟩ := h
    obtain ⟨us, hl, hcs, ho⟩ := OwL.cells r h2
    refine ⟨u :: us, by simp [hl], ?_, f1, f2, h1, ho, rfl⟩
    intro j u' hj
    cases j with
    | zero => simp at hj; subst hj; simpa using hc
    | succ j =>
      have := hcs j u' (by simpa using hj)
      rwa [show off + 1 + j = off + (j + 1) by omega] at this

theorem OwC.row {w : World} : ∀ (l : List D) {us : List Value} {g off : Nat} {fp : List Nat}, OwC w l us fp → (∀ j u, us[j]? = some u → w.cell? ⟨g, off + j, none⟩ = some u) → OwL w l g off fp
  | [], [], _, _, _, h, _ => by simpa [OwL, OwC] using h
  | [], _ :: _, _, _, _, h, _ => h.elim
  | _ :: _, [], _, _, _, h, _ => h.elim
  | d :: r, u :: us, g, off, fp, h, hc => by
    unfold OwC at h
    obtain ⟨f1, f2, h1, h2, rfl⟩ := h
    refine ⟨u, f1, f2, by simpa using hc 0 u (by simp), h1, OwC.row r h2 (fun j u' hj => ?_), rfl⟩
    have := hc (j + 1) u' (by simpa using hj)
    rwa [show off + (j + 1) = off + 1 + j by omega] at this

theorem OwC.length {w : World} : ∀ (l : List D) {us : List Value} {fp : List Nat}, OwC w l us fp → us.length = l.length
  | [], [], _, _ => rfl
  | [], _ :: _, _, h => h.elim
  | _ :: _, [], _, h => h.elim
  | _ :: r, _ :: us, _, h => by
    obtain ⟨f1, f2, _, h2, _⟩ := h
    simp [OwC.length r h2]

section
variable {α : Type}
theorem flat_get (f : α → List D) (k : Nat) (hk : ∀ x, (f x).length = k) : ∀ (l : List α) (i : Nat) (h : i < l.length),
    ∃ pre post, l.flatMap f = pre ++ (f l[i] ++ post) ∧ pre.length = i * k
  | x :: l, 0, _ => ⟨[], l.flatMap f, by simp, by simp⟩
  | x :: l, i + 1, h => by
    obtain ⟨pre, post, e, hp⟩ := flat_get f k hk l i (by simpa using h)
    refine ⟨f x ++ pre, post, ?_, ?_⟩
    · simp [e]
    · simp [hp, hk, Nat.add_mul, Nat.add_comm]

theorem flat_len (f : α → List D) (k : Nat) (hk : ∀ x, (f x).length = k) (l : List α) : (l.flatMap f).length = l.length * k := by
  induction l with
  | nil => simp
  | cons x l ih => simp [ih, hk, Nat.add_mul, Nat.add_comm]

/-- AN ELEMENT OF A SLICE: its cells in memory, and what they read as. -/
theorem Ow.elem {w : World} {f : α → List D} {k : Nat} (hk : ∀ x, (f x).length = k) {l : List α} {A : Option Addr} {n c : Nat} {fp : List Nat}
    (h : Ow w (.s k l.length (l.flatMap f)) (.slice A n c) fp) {i : Nat} (hi : i < l.length) :
    ∃ g off us fi, A = some ⟨g, off, none⟩ ∧ g ∈ fp ∧ fi ⊆ fp ∧ us.length = k ∧ (∀ j u, us[j]? = some u → w.cell? ⟨g, off + i * k + j, none⟩ = some u) ∧ OwC w (f l[i]) us fi := by
  unfold Ow at h
  obtain ⟨_, A', c', e, _, _, h3⟩ := h
  injection e with e1 e2 e3
  subst e1 e2 e3
  rcases h3 with ⟨h3, _⟩ | ⟨_, g, off, ff, rfl, ho, rfl⟩
  · omega
  · obtain ⟨pre, post, e, hp⟩ := flat_get f k hk l i hi
    rw [e] at ho
    obtain ⟨f1, f2, _, h2, rfl⟩ := (OwL.append _ _ _ _ _).1 ho
    obtain ⟨f3, f4, h3, _, rfl⟩ := (OwL.append _ _ _ _ _).1 h2
    rw [hp] at h3
    obtain ⟨us, hl, hc, hoc⟩ := OwL.cells _ h3
    refine ⟨g, off, us, f3, rfl, by simp, ?_, hl.trans (hk _), hc, hoc⟩
    intro b hb
    simp [hb]

/-- what a slice's value looks like -/
theorem Ow.slice {w : World} {k n : Nat} {l : List D} {y : Value} {fp : List Nat} (h : Ow w (.s k n l) y fp) : ∃ A c, y = .slice A n c ∧ n ≤ c ∧ c ≤ maxLen := by
  unfold Ow at h
  obtain ⟨_, A, c, rfl, h1, h2, _⟩ := h
  exact ⟨A, c, rfl, h1, h2⟩
theorem Ow.nlen {w : World} {k n m c : Nat} {l : List D} {A : Option Addr} {fp : List Nat} (h : Ow w (.s k n l) (.slice A m c) fp) : m = n ∧ n ≤ c ∧ c ≤ maxLen := by
  obtain ⟨A', c', e, h1, h2⟩ := h.slice
  injection e with e1 e2 e3
  subst e3
  exact ⟨e2, h1, h2⟩
end

/-! ### A row of the call's own: its whole content; a row that is filled from its head on -/
def Row (w : World) (g : Nat) (e : TypeId) (cs : List Value) : Prop := w.heap[g]? = some (.cells cs.toArray e (0, 0))
section
variable {w w' : World} {g : Nat} {e : TypeId} {cs : List Value}
theorem Row.lt (h : Row w g e cs) : g < w.heap.size := by
  rcases Nat.lt_or_ge g w.heap.size with hlt | hge
  · exact hlt
  · unfold Row at h; rw [Array.getElem?_eq_none hge] at h; cases h
theorem Row.cell (h : Row w g e cs) (i : Nat) : w.cell? ⟨g, i, none⟩ = cs[i]? := by
  have := cell_of_row w g i cs.toArray e (0, 0) h
  simpa using this
theorem Row.frozen (h : Row w g e cs) (i : Nat) : w.frozen? ⟨g, i, none⟩ = false := by
  unfold Row at h
  simp [World.frozen?, h]
theorem Row.new (w : World) (e : TypeId) (cs : List Value) : Row (w.alloc (.cells cs.toArray e)) w.heap.size e cs := heap_alloc_new w _
theorem Row.drewN (h : Row w g e cs) (n : Nat) : Row (w.drewN n) g e cs := h
theorem Row.alloc (h : Row w g e cs) (o : Obj) : Row (w.alloc o) g e cs := (Below.heap_alloc w o g h.lt).trans h
theorem Row.set (h : Row w g e cs) (i : Nat) (u : Value) : Row (w.setCell ⟨g, i, none⟩ u) g e (cs.set i u) := by
  unfold Row at h ⊢
  simp [World.setCell, Array.getElem?_modify, h]
theorem Row.far (h : Row w g e cs) {p : Addr} (hp : g ≠ p.block) (u : Value) : Row (w.setCell p u) g e cs := (Below.heap_setCell w p u g hp).trans h
theorem Row.below {B : Nat} (h : Row w g e cs) (hb : Below B w w') (hg : g < B) : Row w' g e cs := (hb.block g hg).trans h

end
/-- A block of cells that may all be written. -/
def Unf (w : World) (g : Nat) : Prop := ∃ cs e, w.heap[g]? = some (.cells cs e (0, 0))
/-- Blocks of the call's own, from lo on: no two alike, all may be written. -/
structure New (w : World) (fp : List Nat) (lo : Nat) : Prop where
  fr : Fr fp lo w.heap.size
  nd : fp.Nodup
  uf : ∀ g ∈ fp, Unf w g
theorem Unf.row {w : World} {g : Nat} {e : TypeId} {cs : List Value} (h : Row w g e cs) : Unf w g := ⟨_, _, h⟩
theorem Unf.same {w w' : World} {g : Nat} (h : Unf w g) (e : w'.heap[g]? = w.heap[g]?) : Unf w' g := by
  obtain ⟨cs, t, h⟩ := h
  exact ⟨cs, t, e.trans h⟩
theorem Unf.setCell {w : World} {g : Nat} (h : Unf w g) (a : Addr) (u : Value) : Unf (w.setCell a u) g := by
  obtain ⟨cs, t, h⟩ := h
  by_cases e : g = a.block
  · subst e
    unfold Unf
    simp [World.setCell, Array.getElem?_modify, h]
  · exact ⟨cs, t, (Below.heap_setCell w a u g e).trans h⟩
theorem New.nil (w : World) (lo : Nat) : New w [] lo := ⟨Fr.nil _ _, List.nodup_nil, fun _ h => by cases h⟩
theorem New.left {w : World} {f1 f2 : List Nat} {lo : Nat} (h : New w (f1 ++ f2) lo) : New w f1 lo :=
  ⟨fun g hg => h.fr g (List.mem_append_left _ hg), (List.nodup_append.1 h.nd).1, fun g hg => h.uf g (List.mem_append_left _ hg)⟩
theorem New.right {w : World} {f1 f2 : List Nat} {lo : Nat} (h : New w (f1 ++ f2) lo) : New w f2 lo :=
  ⟨fun g hg => h.fr g (List.mem_append_right _ hg), (List.nodup_append.1 h.nd).2.1, fun g hg => h.uf g (List.mem_append_right _ hg)⟩
theorem New.out {w : World} {fp : List Nat} {lo b : Nat} (h : New w fp lo) (hb : b < lo) : b ∉ fp := h.fr.not_mem (.inl hb)
theorem New.lt {w : World} {fp : List Nat} {lo : Nat} (h : New w fp lo) : Lt fp w.heap.size := h.fr.lt
theorem New.mono {w : World} {fp : List Nat} {lo lo' : Nat} (h : New w fp lo) (hl : lo' ≤ lo) : New w fp lo' := ⟨h.fr.mono hl (Nat.le_refl _), h.nd, h.uf⟩
theorem New.app {w : World} {f1 f2 : List Nat} {lo m : Nat} (h1 : New w f1 lo) (h2 : New w f2 m) (hm : Lt f1 m) (hl : lo ≤ m) : New w (f1 ++ f2) lo :=
  ⟨h1.fr.app (h2.fr.mono hl (Nat.le_refl _)), List.nodup_append.2 ⟨h1.nd, h2.nd, fun a ha b hb e => by have := hm a ha; have := (h2.fr b hb).1; omega⟩, fun g hg => by
    rcases List.mem_append.1 hg with hg | hg
    · exact h1.uf g hg
    · exact h2.uf g hg⟩
theorem New.cons {w : World} {fp : List Nat} {lo g : Nat} (h : New w fp (g + 1)) (hl : lo ≤ g) (hu : Unf w g) (hg : g < w.heap.size) : New w (g :: fp) lo :=
  ⟨(h.fr.mono (by omega) (Nat.le_refl _)).cons hl hg, List.nodup_cons.2 ⟨fun hm => by have := (h.fr g hm).1; omega, h.nd⟩, fun b hb => by
    rcases List.mem_cons.1 hb with rfl | hb
    · exact hu
    · exact h.uf b hb⟩
theorem New.below {w w' : World} {fp : List Nat} {lo B : Nat} (h : New w fp lo) (hb : Below B w w') (hl : Lt fp B) : New w' fp lo :=
  ⟨h.fr.mono (Nat.le_refl _) hb.size, h.nd, fun g hg => (h.uf g hg).same (hb.block g (hl g hg))⟩
theorem New.setCell {w : World} {fp : List Nat} {lo : Nat} (h : New w fp lo) (a : Addr) (u : Value) : New (w.setCell a u) fp lo :=
  ⟨h.fr.mono (Nat.le_refl _) (by simp [World.setCell]), h.nd, fun g hg => (h.uf g hg).setCell a u⟩
theorem New.alloc {w : World} {fp : List Nat} {lo : Nat} (h : New w fp lo) (o : Obj) : New (w.alloc o) fp lo :=
  h.below ((Below.refl w.heap.size w).alloc (Nat.le_refl _) o) h.lt
theorem New.drewN {w : World} {fp : List Nat} {lo : Nat} (h : New w fp lo) (n : Nat) : New (w.drewN n) fp lo := ⟨h.fr, h.nd, h.uf⟩

section
variable {w w' : World} {g : Nat} {e : TypeId} {cs : List Value}
def Fill (w : World) (g : Nat) (e : TypeId) (us : List Value) (m : Nat) : Prop := ∃ zs, zs.length = m ∧ Row w g e (us ++ zs)
variable {us : List Value} {m : Nat}
theorem Fill.made (w : World) (e : TypeId) (z : Array Value) (n : Nat) : Fill (w.alloc (.cells (madeCells z n) e)) w.heap.size e [] n :=
  ⟨(madeCells z n).toList, by rw [Array.length_toList, size_madeCells], by simpa using Row.new w e (madeCells z n).toList⟩
theorem Fill.lt (h : Fill w g e us m) : g < w.heap.size := let ⟨_, _, h⟩ := h; h.lt
theorem Fill.push (h : Fill w g e us (m + 1)) {i : Nat} (hi : i = us.length) (u : Value) : Fill (w.setCell ⟨g, i, none⟩ u) g e (us ++ [u]) m := by
  obtain ⟨zs, hz, h⟩ := h
  match zs, hz with
  | z :: zs, hz =>
    refine ⟨zs, by simpa using hz, ?_⟩
    have := h.set i u
    subst hi
    simpa using this
theorem Fill.cell (h : Fill w g e us m) {i : Nat} (h0 : us.length ≤ i) (h1 : i < us.length + m) : ∃ z, w.cell? ⟨g, i, none⟩ = some z := by
  obtain ⟨zs, hz, h⟩ := h
  exact ⟨_, (h.cell i).trans (List.getElem?_eq_getElem (by simp; omega))⟩
theorem Fill.frozen (h : Fill w g e us m) (i : Nat) : w.frozen? ⟨g, i, none⟩ = false := let ⟨_, _, h⟩ := h; h.frozen i
theorem Fill.below {B : Nat} (h : Fill w g e us m) (hb : Below B w w') (hg : g < B) : Fill w' g e us m := let ⟨zs, hz, h⟩ := h; ⟨zs, hz, h.below hb hg⟩
theorem Fill.far (h : Fill w g e us m) {p : Addr} (hp : g ≠ p.block) (u : Value) : Fill (w.setCell p u) g e us m := let ⟨zs, hz, h⟩ := h; ⟨zs, hz, h.far hp u⟩
theorem Fill.alloc (h : Fill w g e us m) (o : Obj) : Fill (w.alloc o) g e us m := let ⟨zs, hz, h⟩ := h; ⟨zs, hz, h.alloc o⟩
theorem Fill.drewN (h : Fill w g e us m) (n : Nat) : Fill (w.drewN n) g e us m := h
/-- a row that is full reads as a slice -/
theorem Fill.done (h : Fill w g e us 0) {l : List D} {fp : List Nat} {k n : Nat} (ho : OwC w l us fp) (hl : l.length = n * k) (hn : n ≤ maxLen) :
    Ow w (.s k n l) (.slice (some ⟨g, 0, none⟩) n n) (if n = 0 then [] else g :: fp) := by
  obtain ⟨zs, hz, h⟩ := h
  have : zs = [] := List.eq_nil_of_length_eq_zero hz
  subst this
  rw [List.append_nil] at h
  unfold Ow
  refine ⟨hl, _, _, rfl, Nat.le_refl _, hn, ?_⟩
  by_cases h0 : n = 0
  · simp [h0]
  · rw [if_neg h0]
    exact .inr ⟨by omega, g, 0, fp, rfl, OwC.row l ho (fun j u hj => by rw [Nat.zero_add, h.cell]; exact hj), rfl⟩
end

theorem OwC.append {w : World} : ∀ {l r : List D} {us vs : List Value} {f1 f2 : List Nat}, OwC w l us f1 → OwC w r vs f2 → OwC w (l ++ r) (us ++ vs) (f1 ++ f2)
  | [], _, [], _, _, _, h, h' => by
    simp only [OwC] at h
    subst h
    simpa using h'
  | [], _, _ :: _, _, _, _, h, _ => h.elim
  | _ :: _, _, [], _, _, _, h, _ => h.elim
  | _ :: _, _, _ :: _, _, _, _, h, h' => by
    obtain ⟨f3, f4, h1, h2, rfl⟩ := h
    exact ⟨f3, f4 ++ _, h1, OwC.append h2 h', by simp⟩

theorem run_make_rowN {P : Program} (t e : TypeId) (i : TypeInfo) (z : Value) (ht : P.underlying t = some (.slice e)) (hi : P.info? e = some i) (hz : i.zero = some z)
    (kl kc : IntKind) (n c : Nat) (hnc : n ≤ c) (hbytes : i.bytes * c ≤ 281474976710656) (h63 : c ≤ 9223372036854775807) (w : World) :
    (Instr.makeSlice t (.int kl (n : Int)) (.int kc (c : Int))).run P w = .ok (.slice (some ⟨w.heap.size, 0, none⟩) n c) (w.alloc (.cells (madeCells z.cells (c * i.size)) e)) := by
  have hb : (i.bytes : Int) * (c : Int) ≤ 281474976710656 := by
    have h : ((i.bytes * c : Nat) : Int) ≤ 281474976710656 := by omega
    rwa [Int.natCast_mul] at h
  have hr := run_make (P := P) w t e i z ht hi hz kl kc n c (by omega) (by omega) hb (by omega)
  simp only [Int.toNat_natCast] at hr
  exact hr

/-! ### Only one old block may have turned -/
theorem only_setCell {a w : World} {g : Nat} (h : a.grownBy w (some g)) {p : Addr} (hp : p.block = g ∨ a.heap.size ≤ p.block) (u : Value) : a.grownBy (w.setCell p u) (some g) :=
  ⟨h.os, h.tape, h.output, by simpa [World.setCell] using h.size, fun i hi hne => (Below.heap_setCell w p u i (by
    rintro rfl
    rcases hp with hp | hp
    · exact hne (by rw [hp])
    · omega)).trans (h.block i hi hne)⟩
theorem Ow.grown {w w' : World} {d : D} {y : Value} {fp : List Nat} {g : Nat} (h : Ow w d y fp) (hg : w.grownBy w' (some g)) (hl : Lt fp w.heap.size) (hn : g ∉ fp) : Ow w' d y fp :=
  Ow.frame d (fun b hb => hg.block b (hl b hb) (fun e => by injection e with e; subst e; exact hn hb)) h
theorem OwC.grown {w w' : World} {l : List D} {us : List Value} {fp : List Nat} {g : Nat} (h : OwC w l us fp) (hg : w.grownBy w' (some g)) (hl : Lt fp w.heap.size) (hn : g ∉ fp) : OwC w' l us fp :=
  OwC.frame l (fun b hb => hg.block b (hl b hb) (fun e => by injection e with e; subst e; exact hn hb)) h
theorem cell_lt {w : World} {b o : Nat} {v : Value} (h : w.cell? ⟨b, o, none⟩ = some v) : b < w.heap.size := World.block_lt_of_cell? w _ h
theorem hide {p : Prop} (h : p) : Hid p := h
theorem below_drewN {B : Nat} {a w : World} (h : Below B a w) (n : Nat) : Below B a (w.drewN n) := ⟨h.os, h.tape, h.output, h.size, h.block⟩
theorem ret_int {k : IntKind} {a b : Int} (h : a = b) : Ending.returned (.int k a) = .returned (.int k b) := by rw [h]
theorem ret_bool {a b : Bool} (h : a = b) : Ending.returned (.bool a) = .returned (.bool b) := by rw [h]
theorem ret_str {a b : ByteArray} (h : a = b) : Ending.returned (.string a) = .returned (.string b) := by rw [h]

section
variable {H : Type} {enc : TypeId × Value → H} {P : Program}
end
end Go.Proofs.YtddjgbhkfdpffaaGreatDoor
set_option linter.unusedVariables false
set_option linter.unusedSimpArgs false
namespace Go.Proofs.YtddjgbhkfdpffaaGreatDoor
open Go.ChangeShapes Go.WideShapes Go.ChangeAt Go.RowKit

theorem txt_inj {a b : ByteArray} (h : a.toList = b.toList) : a = b := by
  rw [ByteArray.toList_eq, ByteArray.toList_eq] at h
  exact bytes_inj h
theorem txt_no {a b : ByteArray} (h : ¬ a = b) : (a.toList == b.toList) = false := beq_eq_false_iff_ne.2 (fun e => h (txt_inj e))
theorem txt_yes {a b : ByteArray} (h : a = b) : (a.toList == b.toList) = true := by subst h; simp
end Go.Proofs.YtddjgbhkfdpffaaGreatDoor
set_option linter.unusedSimpArgs false
namespace Go.Proofs.YtddjgbhkfdpffaaGreatDoor
theorem u8_nat (n : Nat) (h : n < 256) : (UInt8.ofNat n).toNat = n := by simp [UInt8.toNat_ofNat]; omega
end Go.Proofs.YtddjgbhkfdpffaaGreatDoor
