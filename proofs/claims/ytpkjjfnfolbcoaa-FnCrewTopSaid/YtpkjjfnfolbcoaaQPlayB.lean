/-
  The slices of a world of a crew, all of the call's own: what keeps them, what changes one of them.
-/
import Derived.Test.YtpkjjfnfolbcoaaQTwo
import Derived.Test.YtpkjjfnfolbcoaaQRead
import Derived.Test.YtpkjjfnfolbcoaaQPlayM0
set_option linter.unusedVariables false
set_option linter.unusedSimpArgs false
namespace Go.Proofs.Ytpkjjfnfolbcoaa
open Go.ChangeShapes Go.WideShapes Go.ChangeAt Go.RowKit

/-- a slice of the call's own whose elements hold no blocks -/
def Sq {α : Type} (W : World) (B : Nat) (e : TypeId) (k : Nat) (f : α → List D) (v : Value) (l : List α) : Prop := ∃ us, OwS W B e k f v l us []
section
variable {α : Type} {W W' : World} {B : Nat} {e : TypeId} {k : Nat} {f : α → List D} {v : Value} {l : List α}
theorem Sq.below (h : Sq W B e k f v l) (hb : Below W.heap.size W W') : Sq W' B e k f v l := let ⟨us, h⟩ := h; ⟨us, h.below (C := 0) hb⟩
theorem Sq.kept {r : Option Nat} (h : Sq W B e k f v l) (hg : W.grownBy W' r) (hr : ∀ g, r = some g → v.ownBlock ≠ some g) : Sq W' B e k f v l :=
  let ⟨us, h⟩ := h; ⟨us, h.kept hg (fun g e => ⟨by simp, hr g e⟩)⟩
theorem Sq.lt (h : Sq W B e k f v l) : ∀ g, v.ownBlock = some g → B ≤ g ∧ g < W.heap.size := fun g e => let ⟨_, h⟩ := h; ⟨h.from e, h.lt g e⟩
theorem Sq.form (h : Sq W B e k f v l) : ∃ A c, v = .slice A l.length c := let ⟨_, h⟩ := h; h.form
theorem Sq.mono {C : Nat} (h : Sq W B e k f v l) (hc : C ≤ B) : Sq W C e k f v l := by
  obtain ⟨us, h⟩ := h
  refine ⟨us, ⟨⟨h.own.1, ?_⟩, h.cells, h.new.mono hc, h.out⟩⟩
  rcases h.own.2 with hn | ⟨g, cap, cur, hv, hB, rest⟩
  · exact .inl hn
  · exact .inr ⟨g, cap, cur, hv, Nat.le_trans hc hB, rest⟩
theorem Sq.nil (W : World) (B : Nat) (e : TypeId) (k : Nat) (f : α → List D) : Sq W B e k f (.slice none 0 0) [] := ⟨[], OwS.nil W B e k f⟩
theorem Sq.ow (h : Sq W B e k f v l) : ∃ fp, Ow W (.s k l.length (l.flatMap f)) v fp ∧ Lt fp W.heap.size ∧ ∀ b ∈ fp, v.ownBlock = some b := by
  obtain ⟨us, h⟩ := h
  obtain ⟨fp, h1, h2, h3⟩ := h.toOw'
  exact ⟨fp, h1, h2.lt, fun b hb => (h3 b hb).resolve_right (by simp)⟩
theorem Sq.at0 (h : Sq W B e k f v l) (h0 : 0 < l.length) : ∃ g c, v = .slice (some ⟨g, 0, none⟩) l.length c ∧ B ≤ g ∧ g < W.heap.size ∧ (∀ i, W.frozen? ⟨g, i, none⟩ = false) := by
  obtain ⟨us, h⟩ := h
  rcases h.own.2 with ⟨_, hn⟩ | ⟨g, cap, cur, rfl, hB, hg, _⟩
  · omega
  · have hr : Row W g e cur.toList := by simpa [Row] using hg
    exact ⟨g, cap, rfl, hB, hr.lt, hr.frozen⟩
/-- one cell is written anew -/
theorem Sq.cellPut {g n c : Nat} {A : Nat} {us : List Value} (h : OwS W B e k f (.slice (some ⟨g, A, none⟩) n c) l us []) (j : Nat) (u : Value) (l' : List α) (hl : l'.length = l.length) (hc : ∀ w, OwC w (l'.flatMap f) (us.set j u) []) (hj : j < us.length) :
    OwS (W.setCell ⟨g, j, none⟩ u) B e k f (.slice (some ⟨g, A, none⟩) n c) l' (us.set j u) [] := by
  refine ⟨⟨by rw [List.length_set, hl]; exact h.own.1, ?_⟩, hc _, New.nil _ _, fun _ _ => by simp⟩
  rcases h.own.2 with ⟨hv, _⟩ | ⟨g', cap, cur, hv, hB, hg, h1, h2, h3, h4⟩
  · cases hv
  · injection hv with e1 e2 e3
    injection e1 with e1
    injection e1 with e1 e4
    subst e1 e2 e3 e4
    refine .inr ⟨g, c, cur.setIfInBounds j u, by rw [hl], hB, ?_, by rw [hl]; exact h1, h2, by rw [Array.size_setIfInBounds]; exact h3, ?_⟩
    · simp [World.setCell, Array.getElem?_modify, hg]
    · rw [Array.toList_setIfInBounds, hl, ← h4, List.take_set]
end
theorem ints_us : ∀ (l : List Int) (us : List Value) (w : World), OwC w (l.flatMap intC) us [] → us = l.map (Value.int .i64) ∧ ∀ y ∈ l, (Lit.int .i64 y).wf = true
  | [], [], _, _ => ⟨rfl, by simp⟩
  | [], _ :: _, _, h => h.elim
  | _ :: _, [], _, h => h.elim
  | y :: l, u :: us, w, h => by
    simp only [List.flatMap_cons, intC, List.cons_append, List.nil_append] at h
    obtain ⟨f1, f2, h1, h2, h3⟩ := h
    simp only [Ow, okAtom] at h1
    obtain ⟨rfl, hw, rfl⟩ := h1
    obtain rfl : f2 = [] := by simpa using h3.symm
    obtain ⟨rfl, ih⟩ := ints_us l us w h2
    exact ⟨rfl, fun z hz => by rcases List.mem_cons.1 hz with rfl | hz; exact hw; exact ih z hz⟩
theorem ints_ow : ∀ (l : List Int), (∀ y ∈ l, (Lit.int .i64 y).wf = true) → ∀ w : World, OwC w (l.flatMap intC) (l.map (Value.int .i64)) []
  | [], _, w => by simp [OwC]
  | y :: l, h, w => ⟨[], [], ⟨rfl, h y (by simp), rfl⟩, ints_ow l (fun z hz => h z (by simp [hz])) w, rfl⟩
def handVals (l : List CrewHand) : List Value := l.flatMap fun h => [.int .i64 h.state, .int .i64 h.job]
def CrewHand.wf (h : CrewHand) : Prop := (Lit.int .i64 h.state).wf = true ∧ (Lit.int .i64 h.job).wf = true
theorem hands_us : ∀ (l : List CrewHand) (us : List Value) (w : World), OwC w (l.flatMap CrewHand.cells) us [] → us = handVals l ∧ ∀ y ∈ l, y.wf
  | [], [], _, _ => ⟨rfl, by simp⟩
  | [], _ :: _, _, h => h.elim
  | _ :: _, [], _, h => h.elim
  | y :: l, [u], w, h => by
    simp only [List.flatMap_cons, CrewHand.cells, List.cons_append, List.nil_append] at h
    obtain ⟨_, _, _, h2, _⟩ := h
    exact h2.elim
  | y :: l, u :: u2 :: us, w, h => by
    simp only [List.flatMap_cons, CrewHand.cells, List.cons_append, List.nil_append] at h
    obtain ⟨f1, f2, h1, ⟨f3, f4, h2, h3, e2⟩, e1⟩ := h
    simp only [Ow, okAtom] at h1 h2
    obtain ⟨rfl, hw, rfl⟩ := h1
    obtain ⟨rfl, hw2, rfl⟩ := h2
    obtain rfl : f2 = [] := by simpa using e1.symm
    obtain rfl : f4 = [] := by simpa using e2.symm
    obtain ⟨rfl, ih⟩ := hands_us l us w h3
    exact ⟨rfl, fun z hz => by rcases List.mem_cons.1 hz with rfl | hz; exact ⟨hw, hw2⟩; exact ih z hz⟩
theorem hands_ow : ∀ (l : List CrewHand), (∀ y ∈ l, y.wf) → ∀ w : World, OwC w (l.flatMap CrewHand.cells) (handVals l) []
  | [], _, w => by simp [OwC, handVals]
  | y :: l, h, w => (OwC.mCrewHand (h y (by simp)).1 (h y (by simp)).2).append (hands_ow l (fun z hz => h z (by simp [hz])) w)
theorem handVals_set0 : ∀ (l : List CrewHand) (i : Nat) (s : Int) (h : i < l.length), (handVals l).set (2 * i) (.int .i64 s) = handVals (l.set i ⟨s, l[i].job⟩)
  | y :: l, 0, s, _ => by simp [handVals]
  | y :: l, i + 1, s, h => by
    have ih := handVals_set0 l i s (by simpa using h)
    have e : 2 * (i + 1) = 2 * i + 1 + 1 := by omega
    simp only [handVals, List.flatMap_cons, List.cons_append, List.nil_append, List.set_cons_succ, e, List.getElem_cons_succ] at ih ⊢
    rw [ih]
theorem handVals_set1 : ∀ (l : List CrewHand) (i : Nat) (s : Int) (h : i < l.length), (handVals l).set (2 * i + 1) (.int .i64 s) = handVals (l.set i ⟨l[i].state, s⟩)
  | y :: l, 0, s, _ => by simp [handVals]
  | y :: l, i + 1, s, h => by
    have ih := handVals_set1 l i s (by simpa using h)
    have e : 2 * (i + 1) + 1 = 2 * i + 1 + 1 + 1 := by omega
    simp only [handVals, List.flatMap_cons, List.cons_append, List.nil_append, List.set_cons_succ, e, List.getElem_cons_succ] at ih ⊢
    rw [ih]
theorem handVals_len (l : List CrewHand) : (handVals l).length = 2 * l.length := by
  induction l with
  | nil => rfl
  | cons y l ih => simp only [handVals, List.flatMap_cons, List.length_append, List.length_cons, List.length_nil] at ih ⊢; omega
theorem all_set {α : Type} {p : α → Prop} {l : List α} (h : ∀ y ∈ l, p y) (i : Nat) {v : α} (hv : p v) : ∀ y ∈ l.set i v, p y := fun y hy => by
  rcases List.mem_or_eq_of_mem_set hy with h1 | h1
  · exact h y h1
  · exact h1 ▸ hv
section
variable {W : World} {B : Nat} {e : TypeId}
/-- a number of a slice is written anew -/
theorem Sq.int {g n c : Nat} {l : List Int} (h : Sq W B e 1 intC (.slice (some ⟨g, 0, none⟩) n c) l) (i : Nat) (hi : i < l.length) (y : Int) (hy : (Lit.int .i64 y).wf = true) :
    Sq (W.setCell ⟨g, i, none⟩ (.int .i64 y)) B e 1 intC (.slice (some ⟨g, 0, none⟩) n c) (l.set i y) := by
  obtain ⟨us, h⟩ := h
  obtain ⟨rfl, hw⟩ := ints_us _ _ _ h.cells
  exact ⟨_, Sq.cellPut h i _ _ (by simp) (fun w => by rw [← List.map_set]; exact ints_ow _ (all_set hw i hy) w) (by simpa using hi)⟩
theorem Sq.state {g n c : Nat} {l : List CrewHand} (h : Sq W B e 2 CrewHand.cells (.slice (some ⟨g, 0, none⟩) n c) l) (i : Nat) (hi : i < l.length) (y : Int) (hy : (Lit.int .i64 y).wf = true) :
    Sq (W.setCell ⟨g, i * 2, none⟩ (.int .i64 y)) B e 2 CrewHand.cells (.slice (some ⟨g, 0, none⟩) n c) (l.set i ⟨y, l[i].job⟩) := by
  obtain ⟨us, h⟩ := h
  obtain ⟨rfl, hw⟩ := hands_us _ _ _ h.cells
  rw [Nat.mul_comm i 2]
  exact ⟨_, Sq.cellPut h (2 * i) _ _ (by simp) (fun w => by rw [handVals_set0 _ _ _ hi]; exact hands_ow _ (all_set (p := CrewHand.wf) (v := ⟨y, l[i].job⟩) hw i ⟨hy, (hw _ (List.getElem_mem hi)).2⟩) w) (by rw [handVals_len]; omega)⟩
theorem Sq.job {g n c : Nat} {l : List CrewHand} (h : Sq W B e 2 CrewHand.cells (.slice (some ⟨g, 0, none⟩) n c) l) (i : Nat) (hi : i < l.length) (y : Int) (hy : (Lit.int .i64 y).wf = true) :
    Sq (W.setCell ⟨g, i * 2 + 1, none⟩ (.int .i64 y)) B e 2 CrewHand.cells (.slice (some ⟨g, 0, none⟩) n c) (l.set i ⟨l[i].state, y⟩) := by
  obtain ⟨us, h⟩ := h
  obtain ⟨rfl, hw⟩ := hands_us _ _ _ h.cells
  rw [Nat.mul_comm i 2]
  exact ⟨_, Sq.cellPut h (2 * i + 1) _ _ (by simp) (fun w => by rw [handVals_set1 _ _ _ hi]; exact hands_ow _ (all_set (p := CrewHand.wf) (v := ⟨l[i].state, y⟩) hw i ⟨(hw _ (List.getElem_mem hi)).1, hy⟩) w) (by rw [handVals_len]; omega)⟩
theorem Sq.hand {g n c : Nat} {l : List CrewHand} (h : Sq W B e 2 CrewHand.cells (.slice (some ⟨g, 0, none⟩) n c) l) (i : Nat) (hi : i < l.length) (s y : Int) (hs : (Lit.int .i64 s).wf = true) (hy : (Lit.int .i64 y).wf = true) :
    Sq ((W.setCell ⟨g, i * 2, none⟩ (.int .i64 s)).setCell ⟨g, i * 2 + 1, none⟩ (.int .i64 y)) B e 2 CrewHand.cells (.slice (some ⟨g, 0, none⟩) n c) (l.set i ⟨s, y⟩) := by
  have h1 := (h.state i hi s hs).job i (by simpa using hi) y hy
  simpa using h1
/-- a number of a slice -/
theorem Sq.cell {g n c : Nat} {l : List Int} (h : Sq W B e 1 intC (.slice (some ⟨g, 0, none⟩) n c) l) (i : Nat) (hi : i < l.length) : W.cell? ⟨g, i, none⟩ = some (.int .i64 l[i]) ∧ (Lit.int .i64 l[i]).wf = true := by
  obtain ⟨fp, ho, _, _⟩ := h.ow
  obtain ⟨g', off, e1, _, h1, h2⟩ := ints_at ho hi
  injection e1 with e1
  injection e1 with e1 e2
  subst e1 e2
  exact ⟨by simpa using h1, h2⟩
theorem Sq.cellH {g n c : Nat} {l : List CrewHand} (h : Sq W B e 2 CrewHand.cells (.slice (some ⟨g, 0, none⟩) n c) l) (i : Nat) (hi : i < l.length) : W.cell? ⟨g, i * 2, none⟩ = some (.int .i64 l[i].state) ∧ W.cell? ⟨g, i * 2 + 1, none⟩ = some (.int .i64 l[i].job) ∧ l[i].wf := by
  obtain ⟨fp, ho, _, _⟩ := h.ow
  obtain ⟨g', off, us, fi, e1, _, _, _, hc, hoc⟩ := ho.elem CrewHand.cells_len hi
  injection e1 with e1
  injection e1 with e1 e2
  subst e1 e2
  obtain ⟨rfl, w1, w2, _⟩ := hoc.oCrewHand
  have c0 := hc 0 _ rfl
  have c1 := hc 1 _ rfl
  have e : 0 + i * 2 = i * 2 := by omega
  rw [e] at c0 c1
  exact ⟨c0, c1, w1, w2⟩
end
/-- slices that share no block -/
def Apart (l : List Value) : Prop := ∀ (i j : Nat) (a c : Value) (b : Nat), l[i]? = some a → l[j]? = some c → a.ownBlock = some b → c.ownBlock = some b → i = j
theorem Apart.set {l : List Value} (h : Apart l) {i : Nat} {a v : Value} (hi : l[i]? = some a) (hn : ∀ b, v.ownBlock = some b → a.ownBlock = some b ∨ ∀ c ∈ l, c.ownBlock ≠ some b) : Apart (l.set i v) := by
  intro p q a' c' b ha hc hb hb'
  by_cases e : p = q
  · exact e
  exfalso
  rw [List.getElem?_set] at ha hc
  have hil : i < l.length := (List.getElem?_eq_some_iff.1 hi).1
  have key : ∀ (p q : Nat) (c' : Value), i = p → ¬ i = q → l[q]? = some c' → v.ownBlock = some b → c'.ownBlock = some b → False := fun p q c' h1 h2 hc hb hb' => by
    rcases hn b hb with h3 | h3
    · exact h2 (h i q a c' b hi hc h3 hb')
    · exact h3 c' (List.mem_of_getElem? hc) hb'
  by_cases h1 : i = p
  · by_cases h2 : i = q
    · exact e (h1.symm.trans h2)
    · rw [if_pos h1, if_pos hil] at ha
      rw [if_neg h2] at hc
      injection ha with ha
      subst ha
      exact key p q c' h1 h2 hc hb hb'
  · rw [if_neg h1] at ha
    by_cases h2 : i = q
    · rw [if_pos h2, if_pos hil] at hc
      injection hc with hc
      subst hc
      exact key q p a' h2 h1 ha hb' hb
    · rw [if_neg h2] at hc
      exact e (h p q a' c' b ha hc hb hb')
/-- the slices' values -/
structure V7 where
  q : Value
  h : Value
  r : Value
  g : Value
  o : Value
  t : Value
  s : Value
def V7.cells (v : V7) (x : CrewWorld) : List Value := [.int .i64 x.jobs, .int .i64 x.workers, .int .i64 x.window, .int .i64 x.next, .int .i64 x.reader, v.q, v.h, .int .i64 x.closer, v.r, .int .i64 x.keeper, v.g, .int .i64 x.due, v.o, .int .i64 x.user, v.t, .int .i64 x.room, v.s, .int .i64 x.ops]
def V7.list (v : V7) : List Value := [v.q, v.h, v.r, v.g, v.o, v.t, v.s]
def V7.free (v : V7) (b : Nat) : Prop := ∀ c ∈ v.list, c.ownBlock ≠ some b
structure Ws (W : World) (B : Nat) (x : CrewWorld) (v : V7) : Prop where
  q : Sq W B 3 1 intC v.q x.queue
  h : Sq W B 88 2 CrewHand.cells v.h x.hands
  r : Sq W B 3 1 intC v.r x.results
  g : Sq W B 3 1 intC v.g x.ring
  o : Sq W B 3 1 intC v.o x.out
  t : Sq W B 3 1 intC v.t x.got
  s : Sq W B 3 1 intC v.s x.shut
  ap : Apart v.list
section
variable {W W' : World} {B : Nat} {x : CrewWorld} {v : V7}
theorem Ws.below (h : Ws W B x v) (hb : Below W.heap.size W W') : Ws W' B x v := ⟨h.q.below hb, h.h.below hb, h.r.below hb, h.g.below hb, h.o.below hb, h.t.below hb, h.s.below hb, h.ap⟩
theorem Ws.alloc (h : Ws W B x v) (o : Obj) : Ws (W.alloc o) B x v := h.below ((Below.refl _ _).alloc (Nat.le_refl _) o)
theorem Ws.drewN (h : Ws W B x v) (n : Nat) : Ws (W.drewN n) B x v := h.below (below_drewN (Below.refl _ _) n)
theorem Ws.mono {C : Nat} (h : Ws W B x v) (hc : C ≤ B) : Ws W C x v := ⟨h.q.mono hc, h.h.mono hc, h.r.mono hc, h.g.mono hc, h.o.mono hc, h.t.mono hc, h.s.mono hc, h.ap⟩
theorem Ws.kept {b : Nat} (h : Ws W B x v) (hg : W.grownBy W' (some b)) (hf : v.free b) : Ws W' B x v :=
  ⟨h.q.kept hg (fun g e => by injection e with e; subst e; exact hf v.q (by simp [V7.list])), h.h.kept hg (fun g e => by injection e with e; subst e; exact hf v.h (by simp [V7.list])), h.r.kept hg (fun g e => by injection e with e; subst e; exact hf v.r (by simp [V7.list])), h.g.kept hg (fun g e => by injection e with e; subst e; exact hf v.g (by simp [V7.list])), h.o.kept hg (fun g e => by injection e with e; subst e; exact hf v.o (by simp [V7.list])), h.t.kept hg (fun g e => by injection e with e; subst e; exact hf v.t (by simp [V7.list])), h.s.kept hg (fun g e => by injection e with e; subst e; exact hf v.s (by simp [V7.list])), h.ap⟩
theorem Ws.far {b : Nat} (h : Ws W B x v) (hf : v.free b) (i : Nat) (u : Value) : Ws (W.setCell ⟨b, i, none⟩ u) B x v := h.kept (grownBy_setCell W ⟨b, i, none⟩ u) hf
theorem Ws.lt (h : Ws W B x v) : ∀ c ∈ v.list, ∀ g, c.ownBlock = some g → B ≤ g ∧ g < W.heap.size := by
  intro c hc
  simp only [V7.list, List.mem_cons, List.mem_nil_iff, or_false] at hc
  rcases hc with rfl | rfl | rfl | rfl | rfl | rfl | rfl
  · exact h.q.lt
  · exact h.h.lt
  · exact h.r.lt
  · exact h.g.lt
  · exact h.o.lt
  · exact h.t.lt
  · exact h.s.lt
theorem Ws.freeNew (h : Ws W B x v) {b : Nat} (hb : W.heap.size ≤ b) : v.free b := fun c hc e => by have := (h.lt c hc b e).2; omega
theorem Ws.freeOld (h : Ws W B x v) {b : Nat} (hb : b < B) : v.free b := fun c hc e => by have := (h.lt c hc b e).1; omega
/-- queue: grown, or made anew, or written anew in place -/
theorem Ws.put_q (h : Ws W B x v) {v' : Value} {l' : List Int} (hg : W.grownBy W' v.q.ownBlock) (hn : ∀ b, v'.ownBlock = some b → v.q.ownBlock = some b ∨ W.heap.size ≤ b) (ho : Sq W' B 3 1 intC v' l') : Ws W' B { x with queue := l' } { v with q := v' } :=
  ⟨ho, h.h.kept hg (fun g e e2 => absurd (h.ap 0 1 _ _ g rfl rfl e e2) (by decide)), h.r.kept hg (fun g e e2 => absurd (h.ap 0 2 _ _ g rfl rfl e e2) (by decide)), h.g.kept hg (fun g e e2 => absurd (h.ap 0 3 _ _ g rfl rfl e e2) (by decide)), h.o.kept hg (fun g e e2 => absurd (h.ap 0 4 _ _ g rfl rfl e e2) (by decide)), h.t.kept hg (fun g e e2 => absurd (h.ap 0 5 _ _ g rfl rfl e e2) (by decide)), h.s.kept hg (fun g e e2 => absurd (h.ap 0 6 _ _ g rfl rfl e e2) (by decide)), h.ap.set (i := 0) rfl (fun b e => (hn b e).imp id (fun hb c hc e2 => by have := (h.lt c hc b e2).2; omega))⟩
theorem Ws.new_q (h : Ws W B x v) {C : Nat} {v' : Value} {l' : List Int} (hb : Below W.heap.size W W') (hc : W.heap.size ≤ C) (hB : B ≤ C) (ho : Sq W' C 3 1 intC v' l') : Ws W' B { x with queue := l' } { v with q := v' } :=
  h.put_q (grownBy_below hb _) (fun b e => .inr (Nat.le_trans hc (ho.lt b e).1)) (ho.mono hB)
theorem Ws.app_q (h : Ws W B x v) {v' : Value} {l' : List Int} {us' : List Value} (hg : GB W W' v.q v') (ho : OwS W' B 3 1 intC v' l' us' []) : Ws W' B { x with queue := l' } { v with q := v' } :=
  h.put_q hg.grown (fun b e => gb_new hg e) ⟨_, ho⟩
/-- hands: grown, or made anew, or written anew in place -/
theorem Ws.put_h (h : Ws W B x v) {v' : Value} {l' : List CrewHand} (hg : W.grownBy W' v.h.ownBlock) (hn : ∀ b, v'.ownBlock = some b → v.h.ownBlock = some b ∨ W.heap.size ≤ b) (ho : Sq W' B 88 2 CrewHand.cells v' l') : Ws W' B { x with hands := l' } { v with h := v' } :=
  ⟨h.q.kept hg (fun g e e2 => absurd (h.ap 1 0 _ _ g rfl rfl e e2) (by decide)), ho, h.r.kept hg (fun g e e2 => absurd (h.ap 1 2 _ _ g rfl rfl e e2) (by decide)), h.g.kept hg (fun g e e2 => absurd (h.ap 1 3 _ _ g rfl rfl e e2) (by decide)), h.o.kept hg (fun g e e2 => absurd (h.ap 1 4 _ _ g rfl rfl e e2) (by decide)), h.t.kept hg (fun g e e2 => absurd (h.ap 1 5 _ _ g rfl rfl e e2) (by decide)), h.s.kept hg (fun g e e2 => absurd (h.ap 1 6 _ _ g rfl rfl e e2) (by decide)), h.ap.set (i := 1) rfl (fun b e => (hn b e).imp id (fun hb c hc e2 => by have := (h.lt c hc b e2).2; omega))⟩
theorem Ws.new_h (h : Ws W B x v) {C : Nat} {v' : Value} {l' : List CrewHand} (hb : Below W.heap.size W W') (hc : W.heap.size ≤ C) (hB : B ≤ C) (ho : Sq W' C 88 2 CrewHand.cells v' l') : Ws W' B { x with hands := l' } { v with h := v' } :=
  h.put_h (grownBy_below hb _) (fun b e => .inr (Nat.le_trans hc (ho.lt b e).1)) (ho.mono hB)
theorem Ws.state (h : Ws W B x v) {g n c : Nat} (hv : v.h = .slice (some ⟨g, 0, none⟩) n c) (i : Nat) (hi : i < x.hands.length) (y : Int) (hy : (Lit.int .i64 y).wf = true) : Ws (W.setCell ⟨g, i * 2, none⟩ (.int .i64 y)) B { x with hands := x.hands.set i ⟨y, x.hands[i].job⟩ } v := by
  obtain ⟨vq, vh, vr, vg, vo, vt, vs⟩ := v
  subst hv
  exact h.put_h (grownBy_setCell W ⟨g, i * 2, none⟩ (.int .i64 y)) (fun b e => .inl e) (h.h.state i hi y hy)
theorem Ws.hand (h : Ws W B x v) {g n c : Nat} (hv : v.h = .slice (some ⟨g, 0, none⟩) n c) (i : Nat) (hi : i < x.hands.length) (s y : Int) (hs : (Lit.int .i64 s).wf = true) (hy : (Lit.int .i64 y).wf = true) : Ws ((W.setCell ⟨g, i * 2, none⟩ (.int .i64 s)).setCell ⟨g, i * 2 + 1, none⟩ (.int .i64 y)) B { x with hands := x.hands.set i ⟨s, y⟩ } v := by
  obtain ⟨vq, vh, vr, vg, vo, vt, vs⟩ := v
  subst hv
  have hg : W.grownBy ((W.setCell ⟨g, i * 2, none⟩ (.int .i64 s)).setCell ⟨g, i * 2 + 1, none⟩ (.int .i64 y)) (some g) := only_setCell (p := ⟨g, i * 2 + 1, none⟩) (grownBy_setCell W ⟨g, i * 2, none⟩ (.int .i64 s)) (.inl rfl) _
  exact h.put_h hg (fun b e => .inl e) (h.h.hand i hi s y hs hy)
/-- results: grown, or made anew, or written anew in place -/
theorem Ws.put_r (h : Ws W B x v) {v' : Value} {l' : List Int} (hg : W.grownBy W' v.r.ownBlock) (hn : ∀ b, v'.ownBlock = some b → v.r.ownBlock = some b ∨ W.heap.size ≤ b) (ho : Sq W' B 3 1 intC v' l') : Ws W' B { x with results := l' } { v with r := v' } :=
  ⟨h.q.kept hg (fun g e e2 => absurd (h.ap 2 0 _ _ g rfl rfl e e2) (by decide)), h.h.kept hg (fun g e e2 => absurd (h.ap 2 1 _ _ g rfl rfl e e2) (by decide)), ho, h.g.kept hg (fun g e e2 => absurd (h.ap 2 3 _ _ g rfl rfl e e2) (by decide)), h.o.kept hg (fun g e e2 => absurd (h.ap 2 4 _ _ g rfl rfl e e2) (by decide)), h.t.kept hg (fun g e e2 => absurd (h.ap 2 5 _ _ g rfl rfl e e2) (by decide)), h.s.kept hg (fun g e e2 => absurd (h.ap 2 6 _ _ g rfl rfl e e2) (by decide)), h.ap.set (i := 2) rfl (fun b e => (hn b e).imp id (fun hb c hc e2 => by have := (h.lt c hc b e2).2; omega))⟩
theorem Ws.new_r (h : Ws W B x v) {C : Nat} {v' : Value} {l' : List Int} (hb : Below W.heap.size W W') (hc : W.heap.size ≤ C) (hB : B ≤ C) (ho : Sq W' C 3 1 intC v' l') : Ws W' B { x with results := l' } { v with r := v' } :=
  h.put_r (grownBy_below hb _) (fun b e => .inr (Nat.le_trans hc (ho.lt b e).1)) (ho.mono hB)
theorem Ws.app_r (h : Ws W B x v) {v' : Value} {l' : List Int} {us' : List Value} (hg : GB W W' v.r v') (ho : OwS W' B 3 1 intC v' l' us' []) : Ws W' B { x with results := l' } { v with r := v' } :=
  h.put_r hg.grown (fun b e => gb_new hg e) ⟨_, ho⟩
/-- ring: grown, or made anew, or written anew in place -/
theorem Ws.put_g (h : Ws W B x v) {v' : Value} {l' : List Int} (hg : W.grownBy W' v.g.ownBlock) (hn : ∀ b, v'.ownBlock = some b → v.g.ownBlock = some b ∨ W.heap.size ≤ b) (ho : Sq W' B 3 1 intC v' l') : Ws W' B { x with ring := l' } { v with g := v' } :=
  ⟨h.q.kept hg (fun g e e2 => absurd (h.ap 3 0 _ _ g rfl rfl e e2) (by decide)), h.h.kept hg (fun g e e2 => absurd (h.ap 3 1 _ _ g rfl rfl e e2) (by decide)), h.r.kept hg (fun g e e2 => absurd (h.ap 3 2 _ _ g rfl rfl e e2) (by decide)), ho, h.o.kept hg (fun g e e2 => absurd (h.ap 3 4 _ _ g rfl rfl e e2) (by decide)), h.t.kept hg (fun g e e2 => absurd (h.ap 3 5 _ _ g rfl rfl e e2) (by decide)), h.s.kept hg (fun g e e2 => absurd (h.ap 3 6 _ _ g rfl rfl e e2) (by decide)), h.ap.set (i := 3) rfl (fun b e => (hn b e).imp id (fun hb c hc e2 => by have := (h.lt c hc b e2).2; omega))⟩
theorem Ws.new_g (h : Ws W B x v) {C : Nat} {v' : Value} {l' : List Int} (hb : Below W.heap.size W W') (hc : W.heap.size ≤ C) (hB : B ≤ C) (ho : Sq W' C 3 1 intC v' l') : Ws W' B { x with ring := l' } { v with g := v' } :=
  h.put_g (grownBy_below hb _) (fun b e => .inr (Nat.le_trans hc (ho.lt b e).1)) (ho.mono hB)
theorem Ws.int_g (h : Ws W B x v) {g n c : Nat} (hv : v.g = .slice (some ⟨g, 0, none⟩) n c) (i : Nat) (hi : i < x.ring.length) (y : Int) (hy : (Lit.int .i64 y).wf = true) : Ws (W.setCell ⟨g, i, none⟩ (.int .i64 y)) B { x with ring := x.ring.set i y } v := by
  obtain ⟨vq, vh, vr, vg, vo, vt, vs⟩ := v
  subst hv
  exact h.put_g (grownBy_setCell W ⟨g, i, none⟩ (.int .i64 y)) (fun b e => .inl e) (h.g.int i hi y hy)
/-- out: grown, or made anew, or written anew in place -/
theorem Ws.put_o (h : Ws W B x v) {v' : Value} {l' : List Int} (hg : W.grownBy W' v.o.ownBlock) (hn : ∀ b, v'.ownBlock = some b → v.o.ownBlock = some b ∨ W.heap.size ≤ b) (ho : Sq W' B 3 1 intC v' l') : Ws W' B { x with out := l' } { v with o := v' } :=
  ⟨h.q.kept hg (fun g e e2 => absurd (h.ap 4 0 _ _ g rfl rfl e e2) (by decide)), h.h.kept hg (fun g e e2 => absurd (h.ap 4 1 _ _ g rfl rfl e e2) (by decide)), h.r.kept hg (fun g e e2 => absurd (h.ap 4 2 _ _ g rfl rfl e e2) (by decide)), h.g.kept hg (fun g e e2 => absurd (h.ap 4 3 _ _ g rfl rfl e e2) (by decide)), ho, h.t.kept hg (fun g e e2 => absurd (h.ap 4 5 _ _ g rfl rfl e e2) (by decide)), h.s.kept hg (fun g e e2 => absurd (h.ap 4 6 _ _ g rfl rfl e e2) (by decide)), h.ap.set (i := 4) rfl (fun b e => (hn b e).imp id (fun hb c hc e2 => by have := (h.lt c hc b e2).2; omega))⟩
theorem Ws.new_o (h : Ws W B x v) {C : Nat} {v' : Value} {l' : List Int} (hb : Below W.heap.size W W') (hc : W.heap.size ≤ C) (hB : B ≤ C) (ho : Sq W' C 3 1 intC v' l') : Ws W' B { x with out := l' } { v with o := v' } :=
  h.put_o (grownBy_below hb _) (fun b e => .inr (Nat.le_trans hc (ho.lt b e).1)) (ho.mono hB)
theorem Ws.app_o (h : Ws W B x v) {v' : Value} {l' : List Int} {us' : List Value} (hg : GB W W' v.o v') (ho : OwS W' B 3 1 intC v' l' us' []) : Ws W' B { x with out := l' } { v with o := v' } :=
  h.put_o hg.grown (fun b e => gb_new hg e) ⟨_, ho⟩
/-- got: grown, or made anew, or written anew in place -/
theorem Ws.put_t (h : Ws W B x v) {v' : Value} {l' : List Int} (hg : W.grownBy W' v.t.ownBlock) (hn : ∀ b, v'.ownBlock = some b → v.t.ownBlock = some b ∨ W.heap.size ≤ b) (ho : Sq W' B 3 1 intC v' l') : Ws W' B { x with got := l' } { v with t := v' } :=
  ⟨h.q.kept hg (fun g e e2 => absurd (h.ap 5 0 _ _ g rfl rfl e e2) (by decide)), h.h.kept hg (fun g e e2 => absurd (h.ap 5 1 _ _ g rfl rfl e e2) (by decide)), h.r.kept hg (fun g e e2 => absurd (h.ap 5 2 _ _ g rfl rfl e e2) (by decide)), h.g.kept hg (fun g e e2 => absurd (h.ap 5 3 _ _ g rfl rfl e e2) (by decide)), h.o.kept hg (fun g e e2 => absurd (h.ap 5 4 _ _ g rfl rfl e e2) (by decide)), ho, h.s.kept hg (fun g e e2 => absurd (h.ap 5 6 _ _ g rfl rfl e e2) (by decide)), h.ap.set (i := 5) rfl (fun b e => (hn b e).imp id (fun hb c hc e2 => by have := (h.lt c hc b e2).2; omega))⟩
theorem Ws.new_t (h : Ws W B x v) {C : Nat} {v' : Value} {l' : List Int} (hb : Below W.heap.size W W') (hc : W.heap.size ≤ C) (hB : B ≤ C) (ho : Sq W' C 3 1 intC v' l') : Ws W' B { x with got := l' } { v with t := v' } :=
  h.put_t (grownBy_below hb _) (fun b e => .inr (Nat.le_trans hc (ho.lt b e).1)) (ho.mono hB)
theorem Ws.app_t (h : Ws W B x v) {v' : Value} {l' : List Int} {us' : List Value} (hg : GB W W' v.t v') (ho : OwS W' B 3 1 intC v' l' us' []) : Ws W' B { x with got := l' } { v with t := v' } :=
  h.put_t hg.grown (fun b e => gb_new hg e) ⟨_, ho⟩
/-- shut: grown, or made anew, or written anew in place -/
theorem Ws.put_s (h : Ws W B x v) {v' : Value} {l' : List Int} (hg : W.grownBy W' v.s.ownBlock) (hn : ∀ b, v'.ownBlock = some b → v.s.ownBlock = some b ∨ W.heap.size ≤ b) (ho : Sq W' B 3 1 intC v' l') : Ws W' B { x with shut := l' } { v with s := v' } :=
  ⟨h.q.kept hg (fun g e e2 => absurd (h.ap 6 0 _ _ g rfl rfl e e2) (by decide)), h.h.kept hg (fun g e e2 => absurd (h.ap 6 1 _ _ g rfl rfl e e2) (by decide)), h.r.kept hg (fun g e e2 => absurd (h.ap 6 2 _ _ g rfl rfl e e2) (by decide)), h.g.kept hg (fun g e e2 => absurd (h.ap 6 3 _ _ g rfl rfl e e2) (by decide)), h.o.kept hg (fun g e e2 => absurd (h.ap 6 4 _ _ g rfl rfl e e2) (by decide)), h.t.kept hg (fun g e e2 => absurd (h.ap 6 5 _ _ g rfl rfl e e2) (by decide)), ho, h.ap.set (i := 6) rfl (fun b e => (hn b e).imp id (fun hb c hc e2 => by have := (h.lt c hc b e2).2; omega))⟩
theorem Ws.new_s (h : Ws W B x v) {C : Nat} {v' : Value} {l' : List Int} (hb : Below W.heap.size W W') (hc : W.heap.size ≤ C) (hB : B ≤ C) (ho : Sq W' C 3 1 intC v' l') : Ws W' B { x with shut := l' } { v with s := v' } :=
  h.put_s (grownBy_below hb _) (fun b e => .inr (Nat.le_trans hc (ho.lt b e).1)) (ho.mono hB)
theorem Ws.int_s (h : Ws W B x v) {g n c : Nat} (hv : v.s = .slice (some ⟨g, 0, none⟩) n c) (i : Nat) (hi : i < x.shut.length) (y : Int) (hy : (Lit.int .i64 y).wf = true) : Ws (W.setCell ⟨g, i, none⟩ (.int .i64 y)) B { x with shut := x.shut.set i y } v := by
  obtain ⟨vq, vh, vr, vg, vo, vt, vs⟩ := v
  subst hv
  exact h.put_s (grownBy_setCell W ⟨g, i, none⟩ (.int .i64 y)) (fun b e => .inl e) (h.s.int i hi y hy)
/-- all numbers of a world are words -/
structure CrewWorld.Wf (x : CrewWorld) : Prop where
  jobs : (Lit.int .i64 x.jobs).wf = true
  workers : (Lit.int .i64 x.workers).wf = true
  window : (Lit.int .i64 x.window).wf = true
  next : (Lit.int .i64 x.next).wf = true
  reader : (Lit.int .i64 x.reader).wf = true
  closer : (Lit.int .i64 x.closer).wf = true
  keeper : (Lit.int .i64 x.keeper).wf = true
  due : (Lit.int .i64 x.due).wf = true
  user : (Lit.int .i64 x.user).wf = true
  room : (Lit.int .i64 x.room).wf = true
  ops : (Lit.int .i64 x.ops).wf = true
theorem ok_wf {x : CrewWorld} (h : x.ok) : x.Wf := by
  have h1 := h.form.start
  have h2 := h.form.next
  have h3 := h.form.due
  have h4 := h.form.room
  have h5 := h.form.ops
  have h6 := h.form.reader
  have h7 := h.form.closer
  have h8 := h.form.keeper
  have h9 := h.form.user
  obtain ⟨k0, k1, k2⟩ := h1
  constructor <;> exact WalkArith.wf_i64 (by omega)
theorem Ws.owcB (h : Ws W B x v) (hw : x.Wf) : ∃ fp, OwC W x.cells (v.cells x) fp ∧ Lt fp W.heap.size ∧ ∀ g ∈ fp, B ≤ g := by
  obtain ⟨f1, h1, l1, b1⟩ := h.q.ow
  obtain ⟨f2, h2, l2, b2⟩ := h.h.ow
  obtain ⟨f3, h3, l3, b3⟩ := h.r.ow
  obtain ⟨f4, h4, l4, b4⟩ := h.g.ow
  obtain ⟨f5, h5, l5, b5⟩ := h.o.ow
  obtain ⟨f6, h6, l6, b6⟩ := h.t.ow
  obtain ⟨f7, h7, l7, b7⟩ := h.s.ow
  exact ⟨_, OwC.mCrewWorld hw.jobs hw.workers hw.window hw.next hw.reader h1 h2 hw.closer h3 hw.keeper h4 hw.due h5 hw.user h6 hw.room h7 hw.ops, l1.app (l2.app (l3.app (l4.app (l5.app (l6.app l7))))), fun g hg => by
    simp only [List.mem_append] at hg
    rcases hg with hg | hg | hg | hg | hg | hg | hg
    · exact (h.q.lt g (b1 g hg)).1
    · exact (h.h.lt g (b2 g hg)).1
    · exact (h.r.lt g (b3 g hg)).1
    · exact (h.g.lt g (b4 g hg)).1
    · exact (h.o.lt g (b5 g hg)).1
    · exact (h.t.lt g (b6 g hg)).1
    · exact (h.s.lt g (b7 g hg)).1
  ⟩
theorem Ws.owc (h : Ws W B x v) (hw : x.Wf) : ∃ fp, OwC W x.cells (v.cells x) fp ∧ Lt fp W.heap.size := let ⟨fp, h1, h2, _⟩ := h.owcB hw; ⟨fp, h1, h2⟩
end
/-- a world of the call's own in a box of its own -/
structure Wb (W : World) (b B : Nat) (x : CrewWorld) (v : V7) : Prop where
  box : Row W b 30 (v.cells x)
  ws : Ws W B x v
  fr : v.free b
section
variable {W W' : World} {b B : Nat} {x : CrewWorld} {v : V7}
theorem Wb.below (h : Wb W b B x v) (hb : Below W.heap.size W W') : Wb W' b B x v := ⟨h.box.below hb h.box.lt, h.ws.below hb, h.fr⟩
theorem Wb.alloc (h : Wb W b B x v) (o : Obj) : Wb (W.alloc o) b B x v := h.below ((Below.refl _ _).alloc (Nat.le_refl _) o)
theorem Wb.drewN (h : Wb W b B x v) (n : Nat) : Wb (W.drewN n) b B x v := h.below (below_drewN (Below.refl _ _) n)
theorem Wb.set_next (h : Wb W b B x v) (y : Int) : Wb (W.setCell ⟨b, 3, none⟩ (.int .i64 y)) b B { x with next := y } v := by
  have h2 := h.ws.far h.fr 3 (.int .i64 y)
  exact ⟨h.box.set 3 (.int .i64 y), ⟨h2.q, h2.h, h2.r, h2.g, h2.o, h2.t, h2.s, h2.ap⟩, h.fr⟩
theorem Wb.set_reader (h : Wb W b B x v) (y : Int) : Wb (W.setCell ⟨b, 4, none⟩ (.int .i64 y)) b B { x with reader := y } v := by
  have h2 := h.ws.far h.fr 4 (.int .i64 y)
  exact ⟨h.box.set 4 (.int .i64 y), ⟨h2.q, h2.h, h2.r, h2.g, h2.o, h2.t, h2.s, h2.ap⟩, h.fr⟩
theorem Wb.set_closer (h : Wb W b B x v) (y : Int) : Wb (W.setCell ⟨b, 7, none⟩ (.int .i64 y)) b B { x with closer := y } v := by
  have h2 := h.ws.far h.fr 7 (.int .i64 y)
  exact ⟨h.box.set 7 (.int .i64 y), ⟨h2.q, h2.h, h2.r, h2.g, h2.o, h2.t, h2.s, h2.ap⟩, h.fr⟩
theorem Wb.set_keeper (h : Wb W b B x v) (y : Int) : Wb (W.setCell ⟨b, 9, none⟩ (.int .i64 y)) b B { x with keeper := y } v := by
  have h2 := h.ws.far h.fr 9 (.int .i64 y)
  exact ⟨h.box.set 9 (.int .i64 y), ⟨h2.q, h2.h, h2.r, h2.g, h2.o, h2.t, h2.s, h2.ap⟩, h.fr⟩
theorem Wb.set_due (h : Wb W b B x v) (y : Int) : Wb (W.setCell ⟨b, 11, none⟩ (.int .i64 y)) b B { x with due := y } v := by
  have h2 := h.ws.far h.fr 11 (.int .i64 y)
  exact ⟨h.box.set 11 (.int .i64 y), ⟨h2.q, h2.h, h2.r, h2.g, h2.o, h2.t, h2.s, h2.ap⟩, h.fr⟩
theorem Wb.set_user (h : Wb W b B x v) (y : Int) : Wb (W.setCell ⟨b, 13, none⟩ (.int .i64 y)) b B { x with user := y } v := by
  have h2 := h.ws.far h.fr 13 (.int .i64 y)
  exact ⟨h.box.set 13 (.int .i64 y), ⟨h2.q, h2.h, h2.r, h2.g, h2.o, h2.t, h2.s, h2.ap⟩, h.fr⟩
theorem Wb.set_room (h : Wb W b B x v) (y : Int) : Wb (W.setCell ⟨b, 15, none⟩ (.int .i64 y)) b B { x with room := y } v := by
  have h2 := h.ws.far h.fr 15 (.int .i64 y)
  exact ⟨h.box.set 15 (.int .i64 y), ⟨h2.q, h2.h, h2.r, h2.g, h2.o, h2.t, h2.s, h2.ap⟩, h.fr⟩
theorem Wb.set_ops (h : Wb W b B x v) (y : Int) : Wb (W.setCell ⟨b, 17, none⟩ (.int .i64 y)) b B { x with ops := y } v := by
  have h2 := h.ws.far h.fr 17 (.int .i64 y)
  exact ⟨h.box.set 17 (.int .i64 y), ⟨h2.q, h2.h, h2.r, h2.g, h2.o, h2.t, h2.s, h2.ap⟩, h.fr⟩
/-- queue grew, and is stored -/
theorem Wb.app_q (h : Wb W b B x v) {v' : Value} {l' : List Int} {us' : List Value} (hg : GB W W' v.q v') (ho : OwS W' B 3 1 intC v' l' us' []) : Wb (W'.setCell ⟨b, 5, none⟩ v') b B { x with queue := l' } { v with q := v' } := by
  have hf : ({ v with q := v' } : V7).free b := fun q hq => by
    simp only [V7.list, List.mem_cons, List.mem_nil_iff, or_false] at hq
    rcases hq with rfl | rfl | rfl | rfl | rfl | rfl | rfl
    · exact hg.ne h.box.lt (h.fr v.q (by simp [V7.list]))
    · exact h.fr v.h (by simp [V7.list])
    · exact h.fr v.r (by simp [V7.list])
    · exact h.fr v.g (by simp [V7.list])
    · exact h.fr v.o (by simp [V7.list])
    · exact h.fr v.t (by simp [V7.list])
    · exact h.fr v.s (by simp [V7.list])
  exact ⟨(hg.row h.box (h.fr v.q (by simp [V7.list]))).set 5 v', (h.ws.app_q hg ho).far hf 5 v', hf⟩
/-- queue made anew, and stored -/
theorem Wb.new_q (h : Wb W b B x v) {C : Nat} {v' : Value} {l' : List Int} (hb : Below W.heap.size W W') (hc : W.heap.size ≤ C) (hB : B ≤ C) (ho : Sq W' C 3 1 intC v' l') : Wb (W'.setCell ⟨b, 5, none⟩ v') b B { x with queue := l' } { v with q := v' } := by
  have hf : ({ v with q := v' } : V7).free b := fun q hq => by
    simp only [V7.list, List.mem_cons, List.mem_nil_iff, or_false] at hq
    rcases hq with rfl | rfl | rfl | rfl | rfl | rfl | rfl
    · exact fun e => by have := (ho.lt b e).1; have := h.box.lt; omega
    · exact h.fr v.h (by simp [V7.list])
    · exact h.fr v.r (by simp [V7.list])
    · exact h.fr v.g (by simp [V7.list])
    · exact h.fr v.o (by simp [V7.list])
    · exact h.fr v.t (by simp [V7.list])
    · exact h.fr v.s (by simp [V7.list])
  exact ⟨(h.box.below hb h.box.lt).set 5 v', (h.ws.new_q hb hc hB ho).far hf 5 v', hf⟩
/-- hands made anew, and stored -/
theorem Wb.new_h (h : Wb W b B x v) {C : Nat} {v' : Value} {l' : List CrewHand} (hb : Below W.heap.size W W') (hc : W.heap.size ≤ C) (hB : B ≤ C) (ho : Sq W' C 88 2 CrewHand.cells v' l') : Wb (W'.setCell ⟨b, 6, none⟩ v') b B { x with hands := l' } { v with h := v' } := by
  have hf : ({ v with h := v' } : V7).free b := fun q hq => by
    simp only [V7.list, List.mem_cons, List.mem_nil_iff, or_false] at hq
    rcases hq with rfl | rfl | rfl | rfl | rfl | rfl | rfl
    · exact h.fr v.q (by simp [V7.list])
    · exact fun e => by have := (ho.lt b e).1; have := h.box.lt; omega
    · exact h.fr v.r (by simp [V7.list])
    · exact h.fr v.g (by simp [V7.list])
    · exact h.fr v.o (by simp [V7.list])
    · exact h.fr v.t (by simp [V7.list])
    · exact h.fr v.s (by simp [V7.list])
  exact ⟨(h.box.below hb h.box.lt).set 6 v', (h.ws.new_h hb hc hB ho).far hf 6 v', hf⟩
theorem Wb.state (h : Wb W b B x v) {g n c : Nat} (hv : v.h = .slice (some ⟨g, 0, none⟩) n c) (i : Nat) (hi : i < x.hands.length) (y : Int) (hy : (Lit.int .i64 y).wf = true) : Wb (W.setCell ⟨g, i * 2, none⟩ (.int .i64 y)) b B { x with hands := x.hands.set i ⟨y, x.hands[i].job⟩ } v :=
  ⟨by
    have hr := h.box.far (p := ⟨g, i * 2, none⟩) (fun e => h.fr v.h (by simp [V7.list]) (by rw [hv, e]; rfl)) (.int .i64 y)
    simpa [V7.cells] using hr, h.ws.state hv i hi y hy, h.fr⟩
theorem Wb.hand (h : Wb W b B x v) {g n c : Nat} (hv : v.h = .slice (some ⟨g, 0, none⟩) n c) (i : Nat) (hi : i < x.hands.length) (s y : Int) (hs : (Lit.int .i64 s).wf = true) (hy : (Lit.int .i64 y).wf = true) : Wb ((W.setCell ⟨g, i * 2, none⟩ (.int .i64 s)).setCell ⟨g, i * 2 + 1, none⟩ (.int .i64 y)) b B { x with hands := x.hands.set i ⟨s, y⟩ } v :=
  ⟨by
    have hne : b ≠ g := fun e => h.fr v.h (by simp [V7.list]) (by rw [hv, e]; rfl)
    have hr := (h.box.far (p := ⟨g, i * 2, none⟩) hne (.int .i64 s)).far (p := ⟨g, i * 2 + 1, none⟩) hne (.int .i64 y)
    simpa [V7.cells] using hr, h.ws.hand hv i hi s y hs hy, h.fr⟩
/-- results grew, and is stored -/
theorem Wb.app_r (h : Wb W b B x v) {v' : Value} {l' : List Int} {us' : List Value} (hg : GB W W' v.r v') (ho : OwS W' B 3 1 intC v' l' us' []) : Wb (W'.setCell ⟨b, 8, none⟩ v') b B { x with results := l' } { v with r := v' } := by
  have hf : ({ v with r := v' } : V7).free b := fun q hq => by
    simp only [V7.list, List.mem_cons, List.mem_nil_iff, or_false] at hq
    rcases hq with rfl | rfl | rfl | rfl | rfl | rfl | rfl
    · exact h.fr v.q (by simp [V7.list])
    · exact h.fr v.h (by simp [V7.list])
    · exact hg.ne h.box.lt (h.fr v.r (by simp [V7.list]))
    · exact h.fr v.g (by simp [V7.list])
    · exact h.fr v.o (by simp [V7.list])
    · exact h.fr v.t (by simp [V7.list])
    · exact h.fr v.s (by simp [V7.list])
  exact ⟨(hg.row h.box (h.fr v.r (by simp [V7.list]))).set 8 v', (h.ws.app_r hg ho).far hf 8 v', hf⟩
/-- results made anew, and stored -/
theorem Wb.new_r (h : Wb W b B x v) {C : Nat} {v' : Value} {l' : List Int} (hb : Below W.heap.size W W') (hc : W.heap.size ≤ C) (hB : B ≤ C) (ho : Sq W' C 3 1 intC v' l') : Wb (W'.setCell ⟨b, 8, none⟩ v') b B { x with results := l' } { v with r := v' } := by
  have hf : ({ v with r := v' } : V7).free b := fun q hq => by
    simp only [V7.list, List.mem_cons, List.mem_nil_iff, or_false] at hq
    rcases hq with rfl | rfl | rfl | rfl | rfl | rfl | rfl
    · exact h.fr v.q (by simp [V7.list])
    · exact h.fr v.h (by simp [V7.list])
    · exact fun e => by have := (ho.lt b e).1; have := h.box.lt; omega
    · exact h.fr v.g (by simp [V7.list])
    · exact h.fr v.o (by simp [V7.list])
    · exact h.fr v.t (by simp [V7.list])
    · exact h.fr v.s (by simp [V7.list])
  exact ⟨(h.box.below hb h.box.lt).set 8 v', (h.ws.new_r hb hc hB ho).far hf 8 v', hf⟩
/-- ring made anew, and stored -/
theorem Wb.new_g (h : Wb W b B x v) {C : Nat} {v' : Value} {l' : List Int} (hb : Below W.heap.size W W') (hc : W.heap.size ≤ C) (hB : B ≤ C) (ho : Sq W' C 3 1 intC v' l') : Wb (W'.setCell ⟨b, 10, none⟩ v') b B { x with ring := l' } { v with g := v' } := by
  have hf : ({ v with g := v' } : V7).free b := fun q hq => by
    simp only [V7.list, List.mem_cons, List.mem_nil_iff, or_false] at hq
    rcases hq with rfl | rfl | rfl | rfl | rfl | rfl | rfl
    · exact h.fr v.q (by simp [V7.list])
    · exact h.fr v.h (by simp [V7.list])
    · exact h.fr v.r (by simp [V7.list])
    · exact fun e => by have := (ho.lt b e).1; have := h.box.lt; omega
    · exact h.fr v.o (by simp [V7.list])
    · exact h.fr v.t (by simp [V7.list])
    · exact h.fr v.s (by simp [V7.list])
  exact ⟨(h.box.below hb h.box.lt).set 10 v', (h.ws.new_g hb hc hB ho).far hf 10 v', hf⟩
theorem Wb.int_g (h : Wb W b B x v) {g n c : Nat} (hv : v.g = .slice (some ⟨g, 0, none⟩) n c) (i : Nat) (hi : i < x.ring.length) (y : Int) (hy : (Lit.int .i64 y).wf = true) : Wb (W.setCell ⟨g, i, none⟩ (.int .i64 y)) b B { x with ring := x.ring.set i y } v :=
  ⟨by
    have hr := h.box.far (p := ⟨g, i, none⟩) (fun e => h.fr v.g (by simp [V7.list]) (by rw [hv, e]; rfl)) (.int .i64 y)
    simpa [V7.cells] using hr, h.ws.int_g hv i hi y hy, h.fr⟩
/-- out grew, and is stored -/
theorem Wb.app_o (h : Wb W b B x v) {v' : Value} {l' : List Int} {us' : List Value} (hg : GB W W' v.o v') (ho : OwS W' B 3 1 intC v' l' us' []) : Wb (W'.setCell ⟨b, 12, none⟩ v') b B { x with out := l' } { v with o := v' } := by
  have hf : ({ v with o := v' } : V7).free b := fun q hq => by
    simp only [V7.list, List.mem_cons, List.mem_nil_iff, or_false] at hq
    rcases hq with rfl | rfl | rfl | rfl | rfl | rfl | rfl
    · exact h.fr v.q (by simp [V7.list])
    · exact h.fr v.h (by simp [V7.list])
    · exact h.fr v.r (by simp [V7.list])
    · exact h.fr v.g (by simp [V7.list])
    · exact hg.ne h.box.lt (h.fr v.o (by simp [V7.list]))
    · exact h.fr v.t (by simp [V7.list])
    · exact h.fr v.s (by simp [V7.list])
  exact ⟨(hg.row h.box (h.fr v.o (by simp [V7.list]))).set 12 v', (h.ws.app_o hg ho).far hf 12 v', hf⟩
/-- out made anew, and stored -/
theorem Wb.new_o (h : Wb W b B x v) {C : Nat} {v' : Value} {l' : List Int} (hb : Below W.heap.size W W') (hc : W.heap.size ≤ C) (hB : B ≤ C) (ho : Sq W' C 3 1 intC v' l') : Wb (W'.setCell ⟨b, 12, none⟩ v') b B { x with out := l' } { v with o := v' } := by
  have hf : ({ v with o := v' } : V7).free b := fun q hq => by
    simp only [V7.list, List.mem_cons, List.mem_nil_iff, or_false] at hq
    rcases hq with rfl | rfl | rfl | rfl | rfl | rfl | rfl
    · exact h.fr v.q (by simp [V7.list])
    · exact h.fr v.h (by simp [V7.list])
    · exact h.fr v.r (by simp [V7.list])
    · exact h.fr v.g (by simp [V7.list])
    · exact fun e => by have := (ho.lt b e).1; have := h.box.lt; omega
    · exact h.fr v.t (by simp [V7.list])
    · exact h.fr v.s (by simp [V7.list])
  exact ⟨(h.box.below hb h.box.lt).set 12 v', (h.ws.new_o hb hc hB ho).far hf 12 v', hf⟩
/-- got grew, and is stored -/
theorem Wb.app_t (h : Wb W b B x v) {v' : Value} {l' : List Int} {us' : List Value} (hg : GB W W' v.t v') (ho : OwS W' B 3 1 intC v' l' us' []) : Wb (W'.setCell ⟨b, 14, none⟩ v') b B { x with got := l' } { v with t := v' } := by
  have hf : ({ v with t := v' } : V7).free b := fun q hq => by
    simp only [V7.list, List.mem_cons, List.mem_nil_iff, or_false] at hq
    rcases hq with rfl | rfl | rfl | rfl | rfl | rfl | rfl
    · exact h.fr v.q (by simp [V7.list])
    · exact h.fr v.h (by simp [V7.list])
    · exact h.fr v.r (by simp [V7.list])
    · exact h.fr v.g (by simp [V7.list])
    · exact h.fr v.o (by simp [V7.list])
    · exact hg.ne h.box.lt (h.fr v.t (by simp [V7.list]))
    · exact h.fr v.s (by simp [V7.list])
  exact ⟨(hg.row h.box (h.fr v.t (by simp [V7.list]))).set 14 v', (h.ws.app_t hg ho).far hf 14 v', hf⟩
/-- got made anew, and stored -/
theorem Wb.new_t (h : Wb W b B x v) {C : Nat} {v' : Value} {l' : List Int} (hb : Below W.heap.size W W') (hc : W.heap.size ≤ C) (hB : B ≤ C) (ho : Sq W' C 3 1 intC v' l') : Wb (W'.setCell ⟨b, 14, none⟩ v') b B { x with got := l' } { v with t := v' } := by
  have hf : ({ v with t := v' } : V7).free b := fun q hq => by
    simp only [V7.list, List.mem_cons, List.mem_nil_iff, or_false] at hq
    rcases hq with rfl | rfl | rfl | rfl | rfl | rfl | rfl
    · exact h.fr v.q (by simp [V7.list])
    · exact h.fr v.h (by simp [V7.list])
    · exact h.fr v.r (by simp [V7.list])
    · exact h.fr v.g (by simp [V7.list])
    · exact h.fr v.o (by simp [V7.list])
    · exact fun e => by have := (ho.lt b e).1; have := h.box.lt; omega
    · exact h.fr v.s (by simp [V7.list])
  exact ⟨(h.box.below hb h.box.lt).set 14 v', (h.ws.new_t hb hc hB ho).far hf 14 v', hf⟩
/-- shut made anew, and stored -/
theorem Wb.new_s (h : Wb W b B x v) {C : Nat} {v' : Value} {l' : List Int} (hb : Below W.heap.size W W') (hc : W.heap.size ≤ C) (hB : B ≤ C) (ho : Sq W' C 3 1 intC v' l') : Wb (W'.setCell ⟨b, 16, none⟩ v') b B { x with shut := l' } { v with s := v' } := by
  have hf : ({ v with s := v' } : V7).free b := fun q hq => by
    simp only [V7.list, List.mem_cons, List.mem_nil_iff, or_false] at hq
    rcases hq with rfl | rfl | rfl | rfl | rfl | rfl | rfl
    · exact h.fr v.q (by simp [V7.list])
    · exact h.fr v.h (by simp [V7.list])
    · exact h.fr v.r (by simp [V7.list])
    · exact h.fr v.g (by simp [V7.list])
    · exact h.fr v.o (by simp [V7.list])
    · exact h.fr v.t (by simp [V7.list])
    · exact fun e => by have := (ho.lt b e).1; have := h.box.lt; omega
  exact ⟨(h.box.below hb h.box.lt).set 16 v', (h.ws.new_s hb hc hB ho).far hf 16 v', hf⟩
theorem Wb.int_s (h : Wb W b B x v) {g n c : Nat} (hv : v.s = .slice (some ⟨g, 0, none⟩) n c) (i : Nat) (hi : i < x.shut.length) (y : Int) (hy : (Lit.int .i64 y).wf = true) : Wb (W.setCell ⟨g, i, none⟩ (.int .i64 y)) b B { x with shut := x.shut.set i y } v :=
  ⟨by
    have hr := h.box.far (p := ⟨g, i, none⟩) (fun e => h.fr v.s (by simp [V7.list]) (by rw [hv, e]; rfl)) (.int .i64 y)
    simpa [V7.cells] using hr, h.ws.int_s hv i hi y hy, h.fr⟩
end
end Go.Proofs.Ytpkjjfnfolbcoaa
