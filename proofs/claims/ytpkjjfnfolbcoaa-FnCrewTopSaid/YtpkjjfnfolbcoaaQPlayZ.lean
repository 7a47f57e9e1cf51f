/-
  A world of a crew that is changed in place, step by step.
-/
import Derived.Laws.Tables
import Derived.Test.YtpkjjfnfolbcoaaQPlayB
set_option linter.unusedVariables false
set_option linter.unusedSimpArgs false
namespace Go.Proofs.Ytpkjjfnfolbcoaa
open Go.ChangeShapes Go.WideShapes Go.ChangeAt Go.RowKit

/-- the box holds f of the world's cells; rows beside it stay; below B all is as in w0 -/
structure Wz (w0 W : World) (b B : Nat) (R : List (Nat × TypeId × List Value)) (f : List Value → List Value) (x : CrewWorld) (v : V7) : Prop where
  box : Row W b 30 (f (v.cells x))
  ws : Ws W B x v
  free : v.free b
  rows : ∀ r ∈ R, Row W r.1 r.2.1 r.2.2 ∧ v.free r.1 ∧ r.1 ≠ b
  fr : Below B w0 W
  hb : B ≤ b
  sz : B ≤ W.heap.size
section
variable {w0 W W' : World} {b B : Nat} {R : List (Nat × TypeId × List Value)} {f : List Value → List Value} {x : CrewWorld} {v : V7}
theorem Wz.lt (h : Wz w0 W b B R f x v) : b < W.heap.size := h.box.lt
theorem Wz.below (h : Wz w0 W b B R f x v) (hb : Below W.heap.size W W') : Wz w0 W' b B R f x v :=
  ⟨h.box.below hb h.box.lt, h.ws.below hb, h.free, fun r hr => ⟨(h.rows r hr).1.below hb (h.rows r hr).1.lt, (h.rows r hr).2⟩, h.fr.trans (hb.mono h.sz), h.hb, Nat.le_trans h.sz hb.size⟩
theorem Wz.alloc (h : Wz w0 W b B R f x v) (o : Obj) : Wz w0 (W.alloc o) b B R f x v := h.below ((Below.refl _ _).alloc (Nat.le_refl _) o)
theorem Wz.drewN (h : Wz w0 W b B R f x v) (n : Nat) : Wz w0 (W.drewN n) b B R f x v := h.below (below_drewN (Below.refl _ _) n)
theorem Wz.drew (h : Wz w0 W b B R f x v) : Wz w0 W.drew b B R f x v := h.drewN 1
/-- any cell of the box -/
theorem Wz.put (h : Wz w0 W b B R f x v) (i : Nat) (u : Value) (f' : List Value → List Value) (y : CrewWorld) (hf : (f (v.cells x)).set i u = f' (v.cells y)) (hy : Ws (W.setCell ⟨b, i, none⟩ u) B x v → Ws (W.setCell ⟨b, i, none⟩ u) B y v) : Wz w0 (W.setCell ⟨b, i, none⟩ u) b B R f' y v :=
  ⟨hf ▸ h.box.set i u, hy (h.ws.far h.free i u), h.free, fun r hr => ⟨(h.rows r hr).1.far (p := ⟨b, i, none⟩) (h.rows r hr).2.2 u, (h.rows r hr).2⟩, h.fr.setCell (p := ⟨b, i, none⟩) h.hb u, h.hb, by rw [World.size_setCell]; exact h.sz⟩
/-- a row beside the box is written -/
theorem Wz.aside (h : Wz w0 W b B R f x v) {g : Nat} (hg : v.free g) (hgb : g ≠ b) (hB : B ≤ g) (hr : ∀ r ∈ R, r.1 ≠ g) (i : Nat) (u : Value) : Wz w0 (W.setCell ⟨g, i, none⟩ u) b B R f x v :=
  ⟨h.box.far (p := ⟨g, i, none⟩) (fun e => hgb e.symm) u, h.ws.far hg i u, h.free, fun r hm => ⟨(h.rows r hm).1.far (p := ⟨g, i, none⟩) (hr r hm) u, (h.rows r hm).2⟩, h.fr.setCell (p := ⟨g, i, none⟩) hB u, h.hb, by rw [World.size_setCell]; exact h.sz⟩
theorem Wz.addRow (h : Wz w0 W b B R f x v) {g : Nat} {t : TypeId} {cs : List Value} (hr : Row W g t cs) (hg : v.free g) (hgb : g ≠ b) : Wz w0 W b B ((g, t, cs) :: R) f x v :=
  ⟨h.box, h.ws, h.free, fun r hm => by
    rcases List.mem_cons.1 hm with rfl | hm
    · exact ⟨hr, hg, hgb⟩
    · exact h.rows r hm, h.fr, h.hb, h.sz⟩
theorem Wz.dropRow {q : Nat × TypeId × List Value} (h : Wz w0 W b B (q :: R) f x v) : Wz w0 W b B R f x v := ⟨h.box, h.ws, h.free, fun r hm => h.rows r (List.mem_cons_of_mem _ hm), h.fr, h.hb, h.sz⟩
theorem Wz.row0 {q : Nat × TypeId × List Value} (h : Wz w0 W b B (q :: R) f x v) : Row W q.1 q.2.1 q.2.2 := (h.rows q (by simp)).1
theorem Wz.free0 {q : Nat × TypeId × List Value} (h : Wz w0 W b B (q :: R) f x v) : v.free q.1 := (h.rows q (by simp)).2.1
theorem Wz.ne0 {q : Nat × TypeId × List Value} (h : Wz w0 W b B (q :: R) f x v) : q.1 ≠ b := (h.rows q (by simp)).2.2
theorem Wz.row1 {p q : Nat × TypeId × List Value} (h : Wz w0 W b B (p :: q :: R) f x v) : Row W q.1 q.2.1 q.2.2 := (h.rows q (by simp)).1
theorem Wz.frame {w00 : World} (h : Wz w0 W b B R f x v) (hb : Below B w00 w0) : Wz w00 W b B R f x v := ⟨h.box, h.ws, h.free, h.rows, hb.trans h.fr, h.hb, h.sz⟩
/-- a slice of the world is written or grown: what the rest of the structure needs of it -/
theorem Wz.turn (h : Wz w0 W b B R f x v) {vi : Value} (hi : vi ∈ v.list) (hg : W.grownBy W' vi.ownBlock) (i : Nat) {y : CrewWorld} {v' : V7} {u : Value} (hn : ∀ q, u.ownBlock = some q → vi.ownBlock = some q ∨ W.heap.size ≤ q) (hl : ∀ c ∈ v'.list, c ∈ v.list ∨ c = u) (hu : B ≤ W'.heap.size → Ws W' B y v') (f' : List Value → List Value) (hf : (f (v.cells x)).set i u = f' (v'.cells y)) :
    Wz w0 (W'.setCell ⟨b, i, none⟩ u) b B R f' y v' := by
  have hlow : ∀ q, vi.ownBlock = some q → B ≤ q ∧ q < W.heap.size := h.ws.lt vi hi
  have hsz : B ≤ W'.heap.size := Nat.le_trans h.sz hg.size
  have hbl : Below B W W' := ⟨hg.os, hg.tape, hg.output, hg.size, fun k hk => hg.block k (Nat.lt_of_lt_of_le hk h.sz) (fun e => by have := (hlow k e.symm).1; omega)⟩
  have fz : ∀ q, v.free q → q < W.heap.size → v'.free q := fun q hq hlt c hc e => by
    rcases hl c hc with hc | rfl
    · exact hq c hc e
    · rcases hn q e with e' | e'
      · exact hq vi hi e'
      · omega
  have fb := fz b h.free h.lt
  have rk : ∀ {g t cs}, Row W g t cs → v.free g → Row W' g t cs := fun hr hq => hr.grown hg (hq vi hi)
  exact ⟨hf ▸ (rk h.box h.free).set i u, (hu hsz).far fb i u, fb, fun r hr => by
    obtain ⟨r1, r2, r3⟩ := h.rows r hr
    exact ⟨(rk r1 r2).far (p := ⟨b, i, none⟩) r3 u, fz _ r2 r1.lt, r3⟩, (h.fr.trans hbl).setCell (p := ⟨b, i, none⟩) h.hb u, h.hb, by rw [World.size_setCell]; exact hsz⟩
/-- a slice of the world is written in place -/
theorem Wz.turnIn (h : Wz w0 W b B R f x v) {vi : Value} (hi : vi ∈ v.list) (hg : W.grownBy W' vi.ownBlock) {y : CrewWorld} (hu : Ws W' B y v) (hf : f (v.cells x) = f (v.cells y)) : Wz w0 W' b B R f y v := by
  have hlow : ∀ q, vi.ownBlock = some q → B ≤ q ∧ q < W.heap.size := h.ws.lt vi hi
  have hsz : B ≤ W'.heap.size := Nat.le_trans h.sz hg.size
  have hbl : Below B W W' := ⟨hg.os, hg.tape, hg.output, hg.size, fun k hk => hg.block k (Nat.lt_of_lt_of_le hk h.sz) (fun e => by have := (hlow k e.symm).1; omega)⟩
  have rk : ∀ {g t cs}, Row W g t cs → v.free g → Row W' g t cs := fun hr hq => hr.grown hg (hq vi hi)
  exact ⟨hf ▸ rk h.box h.free, hu, h.free, fun r hr => by
    obtain ⟨r1, r2, r3⟩ := h.rows r hr
    exact ⟨rk r1 r2, r2, r3⟩, h.fr.trans hbl, h.hb, hsz⟩
theorem Wz.set_next (h : Wz w0 W b B R f x v) (y : Int) (hf : (f (v.cells x)).set 3 (.int .i64 y) = f (v.cells { x with next := y }) := by rfl) : Wz w0 (W.setCell ⟨b, 3, none⟩ (.int .i64 y)) b B R f { x with next := y } v :=
  h.put 3 (.int .i64 y) f { x with next := y } hf (fun k => ⟨k.q, k.h, k.r, k.g, k.o, k.t, k.s, k.ap⟩)
theorem Wz.set_reader (h : Wz w0 W b B R f x v) (y : Int) (hf : (f (v.cells x)).set 4 (.int .i64 y) = f (v.cells { x with reader := y }) := by rfl) : Wz w0 (W.setCell ⟨b, 4, none⟩ (.int .i64 y)) b B R f { x with reader := y } v :=
  h.put 4 (.int .i64 y) f { x with reader := y } hf (fun k => ⟨k.q, k.h, k.r, k.g, k.o, k.t, k.s, k.ap⟩)
theorem Wz.set_closer (h : Wz w0 W b B R f x v) (y : Int) (hf : (f (v.cells x)).set 7 (.int .i64 y) = f (v.cells { x with closer := y }) := by rfl) : Wz w0 (W.setCell ⟨b, 7, none⟩ (.int .i64 y)) b B R f { x with closer := y } v :=
  h.put 7 (.int .i64 y) f { x with closer := y } hf (fun k => ⟨k.q, k.h, k.r, k.g, k.o, k.t, k.s, k.ap⟩)
theorem Wz.set_keeper (h : Wz w0 W b B R f x v) (y : Int) (hf : (f (v.cells x)).set 9 (.int .i64 y) = f (v.cells { x with keeper := y }) := by rfl) : Wz w0 (W.setCell ⟨b, 9, none⟩ (.int .i64 y)) b B R f { x with keeper := y } v :=
  h.put 9 (.int .i64 y) f { x with keeper := y } hf (fun k => ⟨k.q, k.h, k.r, k.g, k.o, k.t, k.s, k.ap⟩)
theorem Wz.set_due (h : Wz w0 W b B R f x v) (y : Int) (hf : (f (v.cells x)).set 11 (.int .i64 y) = f (v.cells { x with due := y }) := by rfl) : Wz w0 (W.setCell ⟨b, 11, none⟩ (.int .i64 y)) b B R f { x with due := y } v :=
  h.put 11 (.int .i64 y) f { x with due := y } hf (fun k => ⟨k.q, k.h, k.r, k.g, k.o, k.t, k.s, k.ap⟩)
theorem Wz.set_user (h : Wz w0 W b B R f x v) (y : Int) (hf : (f (v.cells x)).set 13 (.int .i64 y) = f (v.cells { x with user := y }) := by rfl) : Wz w0 (W.setCell ⟨b, 13, none⟩ (.int .i64 y)) b B R f { x with user := y } v :=
  h.put 13 (.int .i64 y) f { x with user := y } hf (fun k => ⟨k.q, k.h, k.r, k.g, k.o, k.t, k.s, k.ap⟩)
theorem Wz.set_room (h : Wz w0 W b B R f x v) (y : Int) (hf : (f (v.cells x)).set 15 (.int .i64 y) = f (v.cells { x with room := y }) := by rfl) : Wz w0 (W.setCell ⟨b, 15, none⟩ (.int .i64 y)) b B R f { x with room := y } v :=
  h.put 15 (.int .i64 y) f { x with room := y } hf (fun k => ⟨k.q, k.h, k.r, k.g, k.o, k.t, k.s, k.ap⟩)
theorem Wz.set_ops (h : Wz w0 W b B R f x v) (y : Int) (hf : (f (v.cells x)).set 17 (.int .i64 y) = f (v.cells { x with ops := y }) := by rfl) : Wz w0 (W.setCell ⟨b, 17, none⟩ (.int .i64 y)) b B R f { x with ops := y } v :=
  h.put 17 (.int .i64 y) f { x with ops := y } hf (fun k => ⟨k.q, k.h, k.r, k.g, k.o, k.t, k.s, k.ap⟩)
/-- queue grew, and is stored -/
theorem Wz.app_q (h : Wz w0 W b B R f x v) {v' : Value} {l' : List Int} {us' : List Value} (hg : GB W W' v.q v') (ho : OwS W' B 3 1 intC v' l' us' []) (hf : (f (v.cells x)).set 5 v' = f (({ v with q := v' } : V7).cells { x with queue := l' }) := by rfl) : Wz w0 (W'.setCell ⟨b, 5, none⟩ v') b B R f { x with queue := l' } { v with q := v' } :=
  h.turn (vi := v.q) (by simp [V7.list]) hg.grown 5 (fun q e => gb_new hg e) (fun q hq => by
      simp only [V7.list, List.mem_cons, List.mem_nil_iff, or_false] at hq ⊢
      rcases hq with rfl | rfl | rfl | rfl | rfl | rfl | rfl <;> simp) (fun _ => h.ws.app_q hg ho) f hf
/-- queue made anew, and stored -/
theorem Wz.new_q (h : Wz w0 W b B R f x v) {C : Nat} {v' : Value} {l' : List Int} (hb : Below W.heap.size W W') (hc : W.heap.size ≤ C) (ho : Sq W' C 3 1 intC v' l') (hf : (f (v.cells x)).set 5 v' = f (({ v with q := v' } : V7).cells { x with queue := l' }) := by rfl) : Wz w0 (W'.setCell ⟨b, 5, none⟩ v') b B R f { x with queue := l' } { v with q := v' } :=
  h.turn (vi := v.q) (by simp [V7.list]) (grownBy_below hb _) 5 (fun q e => .inr (Nat.le_trans hc (ho.lt q e).1)) (fun q hq => by
      simp only [V7.list, List.mem_cons, List.mem_nil_iff, or_false] at hq ⊢
      rcases hq with rfl | rfl | rfl | rfl | rfl | rfl | rfl <;> simp) (fun _ => h.ws.new_q hb hc (Nat.le_trans h.sz hc) ho) f hf
/-- hands made anew, and stored -/
theorem Wz.new_h (h : Wz w0 W b B R f x v) {C : Nat} {v' : Value} {l' : List CrewHand} (hb : Below W.heap.size W W') (hc : W.heap.size ≤ C) (ho : Sq W' C 88 2 CrewHand.cells v' l') (hf : (f (v.cells x)).set 6 v' = f (({ v with h := v' } : V7).cells { x with hands := l' }) := by rfl) : Wz w0 (W'.setCell ⟨b, 6, none⟩ v') b B R f { x with hands := l' } { v with h := v' } :=
  h.turn (vi := v.h) (by simp [V7.list]) (grownBy_below hb _) 6 (fun q e => .inr (Nat.le_trans hc (ho.lt q e).1)) (fun q hq => by
      simp only [V7.list, List.mem_cons, List.mem_nil_iff, or_false] at hq ⊢
      rcases hq with rfl | rfl | rfl | rfl | rfl | rfl | rfl <;> simp) (fun _ => h.ws.new_h hb hc (Nat.le_trans h.sz hc) ho) f hf
theorem Wz.state (h : Wz w0 W b B R f x v) {g n c : Nat} (hv : v.h = .slice (some ⟨g, 0, none⟩) n c) (i : Nat) (hi : i < x.hands.length) (y : Int) (hy : (Lit.int .i64 y).wf = true) : Wz w0 (W.setCell ⟨g, i * 2, none⟩ (.int .i64 y)) b B R f { x with hands := x.hands.set i ⟨y, x.hands[i].job⟩ } v :=
  h.turnIn (vi := v.h) (by simp [V7.list]) (by rw [hv]; exact grownBy_setCell W ⟨g, i * 2, none⟩ (.int .i64 y)) (h.ws.state hv i hi y hy) (by simp [V7.cells])
theorem Wz.hand (h : Wz w0 W b B R f x v) {g n c : Nat} (hv : v.h = .slice (some ⟨g, 0, none⟩) n c) (i : Nat) (hi : i < x.hands.length) (s y : Int) (hs : (Lit.int .i64 s).wf = true) (hy : (Lit.int .i64 y).wf = true) : Wz w0 ((W.setCell ⟨g, i * 2, none⟩ (.int .i64 s)).setCell ⟨g, i * 2 + 1, none⟩ (.int .i64 y)) b B R f { x with hands := x.hands.set i ⟨s, y⟩ } v :=
  h.turnIn (vi := v.h) (by simp [V7.list]) (by rw [hv]; exact only_setCell (p := ⟨g, i * 2 + 1, none⟩) (grownBy_setCell W ⟨g, i * 2, none⟩ (.int .i64 s)) (.inl rfl) _) (h.ws.hand hv i hi s y hs hy) (by simp [V7.cells])
/-- results grew, and is stored -/
theorem Wz.app_r (h : Wz w0 W b B R f x v) {v' : Value} {l' : List Int} {us' : List Value} (hg : GB W W' v.r v') (ho : OwS W' B 3 1 intC v' l' us' []) (hf : (f (v.cells x)).set 8 v' = f (({ v with r := v' } : V7).cells { x with results := l' }) := by rfl) : Wz w0 (W'.setCell ⟨b, 8, none⟩ v') b B R f { x with results := l' } { v with r := v' } :=
  h.turn (vi := v.r) (by simp [V7.list]) hg.grown 8 (fun q e => gb_new hg e) (fun q hq => by
      simp only [V7.list, List.mem_cons, List.mem_nil_iff, or_false] at hq ⊢
      rcases hq with rfl | rfl | rfl | rfl | rfl | rfl | rfl <;> simp) (fun _ => h.ws.app_r hg ho) f hf
/-- results made anew, and stored -/
theorem Wz.new_r (h : Wz w0 W b B R f x v) {C : Nat} {v' : Value} {l' : List Int} (hb : Below W.heap.size W W') (hc : W.heap.size ≤ C) (ho : Sq W' C 3 1 intC v' l') (hf : (f (v.cells x)).set 8 v' = f (({ v with r := v' } : V7).cells { x with results := l' }) := by rfl) : Wz w0 (W'.setCell ⟨b, 8, none⟩ v') b B R f { x with results := l' } { v with r := v' } :=
  h.turn (vi := v.r) (by simp [V7.list]) (grownBy_below hb _) 8 (fun q e => .inr (Nat.le_trans hc (ho.lt q e).1)) (fun q hq => by
      simp only [V7.list, List.mem_cons, List.mem_nil_iff, or_false] at hq ⊢
      rcases hq with rfl | rfl | rfl | rfl | rfl | rfl | rfl <;> simp) (fun _ => h.ws.new_r hb hc (Nat.le_trans h.sz hc) ho) f hf
/-- ring made anew, and stored -/
theorem Wz.new_g (h : Wz w0 W b B R f x v) {C : Nat} {v' : Value} {l' : List Int} (hb : Below W.heap.size W W') (hc : W.heap.size ≤ C) (ho : Sq W' C 3 1 intC v' l') (hf : (f (v.cells x)).set 10 v' = f (({ v with g := v' } : V7).cells { x with ring := l' }) := by rfl) : Wz w0 (W'.setCell ⟨b, 10, none⟩ v') b B R f { x with ring := l' } { v with g := v' } :=
  h.turn (vi := v.g) (by simp [V7.list]) (grownBy_below hb _) 10 (fun q e => .inr (Nat.le_trans hc (ho.lt q e).1)) (fun q hq => by
      simp only [V7.list, List.mem_cons, List.mem_nil_iff, or_false] at hq ⊢
      rcases hq with rfl | rfl | rfl | rfl | rfl | rfl | rfl <;> simp) (fun _ => h.ws.new_g hb hc (Nat.le_trans h.sz hc) ho) f hf
theorem Wz.int_g (h : Wz w0 W b B R f x v) {g n c : Nat} (hv : v.g = .slice (some ⟨g, 0, none⟩) n c) (i : Nat) (hi : i < x.ring.length) (y : Int) (hy : (Lit.int .i64 y).wf = true) : Wz w0 (W.setCell ⟨g, i, none⟩ (.int .i64 y)) b B R f { x with ring := x.ring.set i y } v :=
  h.turnIn (vi := v.g) (by simp [V7.list]) (by rw [hv]; exact grownBy_setCell W ⟨g, i, none⟩ (.int .i64 y)) (h.ws.int_g hv i hi y hy) (by simp [V7.cells])
/-- out grew, and is stored -/
theorem Wz.app_o (h : Wz w0 W b B R f x v) {v' : Value} {l' : List Int} {us' : List Value} (hg : GB W W' v.o v') (ho : OwS W' B 3 1 intC v' l' us' []) (hf : (f (v.cells x)).set 12 v' = f (({ v with o := v' } : V7).cells { x with out := l' }) := by rfl) : Wz w0 (W'.setCell ⟨b, 12, none⟩ v') b B R f { x with out := l' } { v with o := v' } :=
  h.turn (vi := v.o) (by simp [V7.list]) hg.grown 12 (fun q e => gb_new hg e) (fun q hq => by
      simp only [V7.list, List.mem_cons, List.mem_nil_iff, or_false] at hq ⊢
      rcases hq with rfl | rfl | rfl | rfl | rfl | rfl | rfl <;> simp) (fun _ => h.ws.app_o hg ho) f hf
/-- out made anew, and stored -/
theorem Wz.new_o (h : Wz w0 W b B R f x v) {C : Nat} {v' : Value} {l' : List Int} (hb : Below W.heap.size W W') (hc : W.heap.size ≤ C) (ho : Sq W' C 3 1 intC v' l') (hf : (f (v.cells x)).set 12 v' = f (({ v with o := v' } : V7).cells { x with out := l' }) := by rfl) : Wz w0 (W'.setCell ⟨b, 12, none⟩ v') b B R f { x with out := l' } { v with o := v' } :=
  h.turn (vi := v.o) (by simp [V7.list]) (grownBy_below hb _) 12 (fun q e => .inr (Nat.le_trans hc (ho.lt q e).1)) (fun q hq => by
      simp only [V7.list, List.mem_cons, List.mem_nil_iff, or_false] at hq ⊢
      rcases hq with rfl | rfl | rfl | rfl | rfl | rfl | rfl <;> simp) (fun _ => h.ws.new_o hb hc (Nat.le_trans h.sz hc) ho) f hf
/-- got grew, and is stored -/
theorem Wz.app_t (h : Wz w0 W b B R f x v) {v' : Value} {l' : List Int} {us' : List Value} (hg : GB W W' v.t v') (ho : OwS W' B 3 1 intC v' l' us' []) (hf : (f (v.cells x)).set 14 v' = f (({ v with t := v' } : V7).cells { x with got := l' }) := by rfl) : Wz w0 (W'.setCell ⟨b, 14, none⟩ v') b B R f { x with got := l' } { v with t := v' } :=
  h.turn (vi := v.t) (by simp [V7.list]) hg.grown 14 (fun q e => gb_new hg e) (fun q hq => by
      simp only [V7.list, List.mem_cons, List.mem_nil_iff, or_false] at hq ⊢
      rcases hq with rfl | rfl | rfl | rfl | rfl | rfl | rfl <;> simp) (fun _ => h.ws.app_t hg ho) f hf
/-- got made anew, and stored -/
theorem Wz.new_t (h : Wz w0 W b B R f x v) {C : Nat} {v' : Value} {l' : List Int} (hb : Below W.heap.size W W') (hc : W.heap.size ≤ C) (ho : Sq W' C 3 1 intC v' l') (hf : (f (v.cells x)).set 14 v' = f (({ v with t := v' } : V7).cells { x with got := l' }) := by rfl) : Wz w0 (W'.setCell ⟨b, 14, none⟩ v') b B R f { x with got := l' } { v with t := v' } :=
  h.turn (vi := v.t) (by simp [V7.list]) (grownBy_below hb _) 14 (fun q e => .inr (Nat.le_trans hc (ho.lt q e).1)) (fun q hq => by
      simp only [V7.list, List.mem_cons, List.mem_nil_iff, or_false] at hq ⊢
      rcases hq with rfl | rfl | rfl | rfl | rfl | rfl | rfl <;> simp) (fun _ => h.ws.new_t hb hc (Nat.le_trans h.sz hc) ho) f hf
/-- shut made anew, and stored -/
theorem Wz.new_s (h : Wz w0 W b B R f x v) {C : Nat} {v' : Value} {l' : List Int} (hb : Below W.heap.size W W') (hc : W.heap.size ≤ C) (ho : Sq W' C 3 1 intC v' l') (hf : (f (v.cells x)).set 16 v' = f (({ v with s := v' } : V7).cells { x with shut := l' }) := by rfl) : Wz w0 (W'.setCell ⟨b, 16, none⟩ v') b B R f { x with shut := l' } { v with s := v' } :=
  h.turn (vi := v.s) (by simp [V7.list]) (grownBy_below hb _) 16 (fun q e => .inr (Nat.le_trans hc (ho.lt q e).1)) (fun q hq => by
      simp only [V7.list, List.mem_cons, List.mem_nil_iff, or_false] at hq ⊢
      rcases hq with rfl | rfl | rfl | rfl | rfl | rfl | rfl <;> simp) (fun _ => h.ws.new_s hb hc (Nat.le_trans h.sz hc) ho) f hf
theorem Wz.int_s (h : Wz w0 W b B R f x v) {g n c : Nat} (hv : v.s = .slice (some ⟨g, 0, none⟩) n c) (i : Nat) (hi : i < x.shut.length) (y : Int) (hy : (Lit.int .i64 y).wf = true) : Wz w0 (W.setCell ⟨g, i, none⟩ (.int .i64 y)) b B R f { x with shut := x.shut.set i y } v :=
  h.turnIn (vi := v.s) (by simp [V7.list]) (by rw [hv]; exact grownBy_setCell W ⟨g, i, none⟩ (.int .i64 y)) (h.ws.int_s hv i hi y hy) (by simp [V7.cells])
theorem Wz.owc (h : Wz w0 W b B R id x v) (hw : x.Wf) : ∃ us fp, Row W b 30 us ∧ OwC W x.cells us fp ∧ Lt fp W.heap.size := by
  obtain ⟨fp, h1, h2⟩ := h.ws.owc hw
  exact ⟨_, fp, h.box, h1, h2⟩
end
/-- a list's tail as a slice -/
theorem Sq.tail {W : World} {B e n c g : Nat} {l : List Int} (h : Sq W B e 1 intC (.slice (some ⟨g, 0, none⟩) n c) l) (hl : 0 < l.length) : (c = 1 ∧ l.length = 1 ∧ ∀ A d, d ≤ maxLen → Ow W (.s 1 (l.drop 1).length ((l.drop 1).flatMap intC)) (.slice A 0 d) []) ∨
    (c ≠ 1 ∧ ∃ fq, Ow W (.s 1 (l.drop 1).length ((l.drop 1).flatMap intC)) (.slice (some ⟨g, 1, none⟩) (l.length - 1) (c - 1)) fq ∧ Lt fq W.heap.size ∧ ∀ b ∈ fq, b = g) := by
  obtain ⟨fp, ho, hlt, hown⟩ := h.ow
  unfold Ow at ho
  obtain ⟨h0, A', c', e, h1, h2, h3⟩ := ho
  injection e with e1 e2 e3
  subst e1 e3
  by_cases hc : c = 1
  · refine .inl ⟨hc, by omega, fun A d hd => ?_⟩
    have hz : (l.drop 1).length = 0 := by rw [List.length_drop]; omega
    unfold Ow
    exact ⟨by rw [flat_len intC 1 intC_len], _, _, by rw [hz], by omega, hd, .inl ⟨hz, rfl⟩⟩
  · refine .inr ⟨hc, ?_⟩
    rcases h3 with ⟨h3, _⟩ | ⟨h3, g', off, ff, e, ho, rfl⟩
    · omega
    · injection e with e
      injection e with e1 e2
      subst e1 e2
      match l, hl with
      | a :: l, _ =>
        simp only [List.flatMap_cons] at ho
        obtain ⟨f1, f2, o1, o2, rfl⟩ := (OwL.append _ _ _ _ _).1 ho
        by_cases hz : l.length = 0
        · refine ⟨[], ?_, Lt.nil _, by simp⟩
          unfold Ow
          exact ⟨by rw [flat_len intC 1 intC_len], some ⟨g, 1, none⟩, c - 1, by simp, by simp only [List.length_cons, List.drop_succ_cons, List.drop_zero] at h1 ⊢; omega, by omega, .inl ⟨by simpa using hz, rfl⟩⟩
        · refine ⟨g :: f2, ?_, fun q hq => by
            rcases List.mem_cons.1 hq with rfl | hq
            · exact hlt _ (by simp)
            · exact hlt _ (by simp [hq]), fun q hq => by
            rcases List.mem_cons.1 hq with rfl | hq
            · rfl
            · have := hown q (by simp [hq])
              injection this with this
              exact this.symm⟩
          unfold Ow
          exact ⟨by rw [flat_len intC 1 intC_len], some ⟨g, 1, none⟩, c - 1, by simp, by simp only [List.length_cons, List.drop_succ_cons, List.drop_zero] at h1 ⊢; omega, by omega, .inr ⟨by simp only [List.drop_succ_cons, List.drop_zero]; omega, g, 1, f2, rfl, by simpa [intC] using o2, rfl⟩⟩
/-- a world whose queue, or whose results, lie elsewhere -/
theorem Ws.owc_q {W : World} {B : Nat} {x : CrewWorld} {v : V7} (h : Ws W B x v) {l : List Int} {u : Value} {fq : List Nat} (hu : Ow W (.s 1 l.length (l.flatMap intC)) u fq) (hq : Lt fq W.heap.size) (hqB : ∀ g ∈ fq, B ≤ g) (hw : ({ x with queue := l } : CrewWorld).Wf) : ∃ fp, OwC W ({ x with queue := l } : CrewWorld).cells ((v.cells x).set 5 u) fp ∧ Lt fp W.heap.size ∧ ∀ g ∈ fp, B ≤ g := by
  obtain ⟨f2, h2, l2, b2⟩ := h.h.ow
  obtain ⟨f3, h3, l3, b3⟩ := h.r.ow
  obtain ⟨f4, h4, l4, b4⟩ := h.g.ow
  obtain ⟨f5, h5, l5, b5⟩ := h.o.ow
  obtain ⟨f6, h6, l6, b6⟩ := h.t.ow
  obtain ⟨f7, h7, l7, b7⟩ := h.s.ow
  have h1 := hu
  have l1 := hq
  exact ⟨_, OwC.mCrewWorld (x := { x with queue := l }) hw.jobs hw.workers hw.window hw.next hw.reader h1 h2 hw.closer h3 hw.keeper h4 hw.due h5 hw.user h6 hw.room h7 hw.ops, l1.app (l2.app (l3.app (l4.app (l5.app (l6.app l7))))), fun g hg => by
    simp only [List.mem_append] at hg
    rcases hg with hg | hg | hg | hg | hg | hg | hg
    · exact hqB g hg
    · exact (h.h.lt g (b2 g hg)).1
    · exact (h.r.lt g (b3 g hg)).1
    · exact (h.g.lt g (b4 g hg)).1
    · exact (h.o.lt g (b5 g hg)).1
    · exact (h.t.lt g (b6 g hg)).1
    · exact (h.s.lt g (b7 g hg)).1
  ⟩
theorem Ws.owc_r {W : World} {B : Nat} {x : CrewWorld} {v : V7} (h : Ws W B x v) {l : List Int} {u : Value} {fq : List Nat} (hu : Ow W (.s 1 l.length (l.flatMap intC)) u fq) (hq : Lt fq W.heap.size) (hqB : ∀ g ∈ fq, B ≤ g) (hw : ({ x with results := l } : CrewWorld).Wf) : ∃ fp, OwC W ({ x with results := l } : CrewWorld).cells ((v.cells x).set 8 u) fp ∧ Lt fp W.heap.size ∧ ∀ g ∈ fp, B ≤ g := by
  obtain ⟨f1, h1, l1, b1⟩ := h.q.ow
  obtain ⟨f2, h2, l2, b2⟩ := h.h.ow
  obtain ⟨f4, h4, l4, b4⟩ := h.g.ow
  obtain ⟨f5, h5, l5, b5⟩ := h.o.ow
  obtain ⟨f6, h6, l6, b6⟩ := h.t.ow
  obtain ⟨f7, h7, l7, b7⟩ := h.s.ow
  have h3 := hu
  have l3 := hq
  exact ⟨_, OwC.mCrewWorld (x := { x with results := l }) hw.jobs hw.workers hw.window hw.next hw.reader h1 h2 hw.closer h3 hw.keeper h4 hw.due h5 hw.user h6 hw.room h7 hw.ops, l1.app (l2.app (l3.app (l4.app (l5.app (l6.app l7))))), fun g hg => by
    simp only [List.mem_append] at hg
    rcases hg with hg | hg | hg | hg | hg | hg | hg
    · exact (h.q.lt g (b1 g hg)).1
    · exact (h.h.lt g (b2 g hg)).1
    · exact hqB g hg
    · exact (h.g.lt g (b4 g hg)).1
    · exact (h.o.lt g (b5 g hg)).1
    · exact (h.t.lt g (b6 g hg)).1
    · exact (h.s.lt g (b7 g hg)).1
  ⟩
end Go.Proofs.Ytpkjjfnfolbcoaa
