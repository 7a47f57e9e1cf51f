/-
  A world of a crew anew: the reference.
-/
import Derived.Deep.Cut
import Derived.Test.YtpkjjfnfolbcoaaQPlayB
import Derived.Test.YtpkjjfnfolbcoaaQStartW
import Derived.Test.YtpkjjfnfolbcoaaQCrewW4
set_option linter.unusedVariables false
set_option linter.unusedSimpArgs false
namespace Go.Proofs.Ytpkjjfnfolbcoaa
open Go.ChangeShapes Go.WideShapes Go.ChangeAt Go.RowKit

theorem hands_plain (l : List CrewHand) : ∀ d ∈ l.flatMap CrewHand.cells, ∃ x, d = .v x := fun d hd => by
  obtain ⟨x, _, hx⟩ := List.mem_flatMap.1 hd
  simp only [CrewHand.cells, List.mem_cons, List.mem_nil_iff, or_false] at hx
  rcases hx with rfl | rfl <;> exact ⟨_, rfl⟩
theorem Ow.srcHands {w : World} {l : List CrewHand} {A : Option Addr} {n c : Nat} {fp : List Nat} (h : Ow w (.s 2 l.length (l.flatMap CrewHand.cells)) (.slice A n c) fp) : ∃ us, OwC w (l.flatMap CrewHand.cells) us [] ∧ SrcAt w us A n c := by
  obtain ⟨us, f2, h1, h2, _⟩ := h.srcAt
  obtain rfl := OwC.plain _ (hands_plain l) h1
  exact ⟨us, h1, h2⟩
theorem OwS.made {α : Type} (w : World) (e : TypeId) (k : Nat) (f : α → List D) : OwS (w.alloc (.cells #[] e)) w.heap.size e k f (.slice (some ⟨w.heap.size, 0, none⟩) 0 0) [] [] [] :=
  ⟨World.ownsRow_made w #[] 0 (Nat.le_refl _) (by unfold maxLen; omega) (by simp), by simp [OwC], New.nil _ _, fun g h => by simp⟩
/-- on the way: the box, the result's, the slices that are anew -/
structure Cp (w W : World) (x : CrewWorld) (v : V7) (cs : List Value) : Prop where
  box : Row W w.heap.size 30 cs
  res : Row W (w.heap.size + 1) 30 zeroCells
  ws : Ws W w.heap.size x v
  f0 : v.free w.heap.size
  f1 : v.free (w.heap.size + 1)
  fr : Below w.heap.size w W
theorem Cp.lt {w W : World} {x : CrewWorld} {v : V7} {cs : List Value} (h : Cp w W x v cs) : w.heap.size + 1 < W.heap.size := h.res.lt
theorem Cp.q {w W W5 : World} {x : CrewWorld} {v : V7} {cs : List Value} (h : Cp w W x v cs) {v' : Value} {l' : List Int} {us' : List Value} (hg : GB (W.alloc (.cells #[] 3)) W5 (.slice (some ⟨W.heap.size, 0, none⟩) 0 0) v') (ho : OwS W5 W.heap.size 3 1 intC v' l' us' []) :
    Cp w (W5.setCell ⟨w.heap.size, 5, none⟩ v') { x with queue := l' } { v with q := v' } (cs.set 5 v') := by
  have hl := h.lt
  have hb : Below W.heap.size W W5 := ((Below.refl _ _).alloc (Nat.le_refl _) _).trans (hg.toBelow (by simp) (fun g e => by injection e with e; exact Nat.le_of_eq e))
  have hs : Sq W5 W.heap.size 3 1 intC v' l' := ⟨_, ho⟩
  have hw := h.ws.new_q hb (Nat.le_refl _) (by omega) hs
  have fz : ∀ b, v.free b → b < W.heap.size → ({ v with q := v' } : V7).free b := fun b hf hb q hq => by
    simp only [V7.list, List.mem_cons, List.mem_nil_iff, or_false] at hq
    rcases hq with rfl | rfl | rfl | rfl | rfl | rfl | rfl
    · exact fun e => by have := (hs.lt b e).1; omega
    · exact hf v.h (by simp [V7.list])
    · exact hf v.r (by simp [V7.list])
    · exact hf v.g (by simp [V7.list])
    · exact hf v.o (by simp [V7.list])
    · exact hf v.t (by simp [V7.list])
    · exact hf v.s (by simp [V7.list])
  have f0 := fz _ h.f0 (by omega)
  exact ⟨(h.box.below hb h.box.lt).set 5 v', (h.res.below hb h.res.lt).far (by show w.heap.size + 1 ≠ w.heap.size; omega) _, hw.far f0 _ _, f0, fz _ h.f1 (by omega), h.fr.trans ((hb.mono (by omega)).trans (Below.setCell (p := ⟨w.heap.size, 5, none⟩) (Below.refl _ _) (Nat.le_refl _) _))⟩
theorem Cp.h {w W W5 : World} {x : CrewWorld} {v : V7} {cs : List Value} (h : Cp w W x v cs) {v' : Value} {l' : List CrewHand} {us' : List Value} (hg : GB (W.alloc (.cells #[] 88)) W5 (.slice (some ⟨W.heap.size, 0, none⟩) 0 0) v') (ho : OwS W5 W.heap.size 88 2 CrewHand.cells v' l' us' []) :
    Cp w (W5.setCell ⟨w.heap.size, 6, none⟩ v') { x with hands := l' } { v with h := v' } (cs.set 6 v') := by
  have hl := h.lt
  have hb : Below W.heap.size W W5 := ((Below.refl _ _).alloc (Nat.le_refl _) _).trans (hg.toBelow (by simp) (fun g e => by injection e with e; exact Nat.le_of_eq e))
  have hs : Sq W5 W.heap.size 88 2 CrewHand.cells v' l' := ⟨_, ho⟩
  have hw := h.ws.new_h hb (Nat.le_refl _) (by omega) hs
  have fz : ∀ b, v.free b → b < W.heap.size → ({ v with h := v' } : V7).free b := fun b hf hb q hq => by
    simp only [V7.list, List.mem_cons, List.mem_nil_iff, or_false] at hq
    rcases hq with rfl | rfl | rfl | rfl | rfl | rfl | rfl
    · exact hf v.q (by simp [V7.list])
    · exact fun e => by have := (hs.lt b e).1; omega
    · exact hf v.r (by simp [V7.list])
    · exact hf v.g (by simp [V7.list])
    · exact hf v.o (by simp [V7.list])
    · exact hf v.t (by simp [V7.list])
    · exact hf v.s (by simp [V7.list])
  have f0 := fz _ h.f0 (by omega)
  exact ⟨(h.box.below hb h.box.lt).set 6 v', (h.res.below hb h.res.lt).far (by show w.heap.size + 1 ≠ w.heap.size; omega) _, hw.far f0 _ _, f0, fz _ h.f1 (by omega), h.fr.trans ((hb.mono (by omega)).trans (Below.setCell (p := ⟨w.heap.size, 6, none⟩) (Below.refl _ _) (Nat.le_refl _) _))⟩
theorem Cp.r {w W W5 : World} {x : CrewWorld} {v : V7} {cs : List Value} (h : Cp w W x v cs) {v' : Value} {l' : List Int} {us' : List Value} (hg : GB (W.alloc (.cells #[] 3)) W5 (.slice (some ⟨W.heap.size, 0, none⟩) 0 0) v') (ho : OwS W5 W.heap.size 3 1 intC v' l' us' []) :
    Cp w (W5.setCell ⟨w.heap.size, 8, none⟩ v') { x with results := l' } { v with r := v' } (cs.set 8 v') := by
  have hl := h.lt
  have hb : Below W.heap.size W W5 := ((Below.refl _ _).alloc (Nat.le_refl _) _).trans (hg.toBelow (by simp) (fun g e => by injection e with e; exact Nat.le_of_eq e))
  have hs : Sq W5 W.heap.size 3 1 intC v' l' := ⟨_, ho⟩
  have hw := h.ws.new_r hb (Nat.le_refl _) (by omega) hs
  have fz : ∀ b, v.free b → b < W.heap.size → ({ v with r := v' } : V7).free b := fun b hf hb q hq => by
    simp only [V7.list, List.mem_cons, List.mem_nil_iff, or_false] at hq
    rcases hq with rfl | rfl | rfl | rfl | rfl | rfl | rfl
    · exact hf v.q (by simp [V7.list])
    · exact hf v.h (by simp [V7.list])
    · exact fun e => by have := (hs.lt b e).1; omega
    · exact hf v.g (by simp [V7.list])
    · exact hf v.o (by simp [V7.list])
    · exact hf v.t (by simp [V7.list])
    · exact hf v.s (by simp [V7.list])
  have f0 := fz _ h.f0 (by omega)
  exact ⟨(h.box.below hb h.box.lt).set 8 v', (h.res.below hb h.res.lt).far (by show w.heap.size + 1 ≠ w.heap.size; omega) _, hw.far f0 _ _, f0, fz _ h.f1 (by omega), h.fr.trans ((hb.mono (by omega)).trans (Below.setCell (p := ⟨w.heap.size, 8, none⟩) (Below.refl _ _) (Nat.le_refl _) _))⟩
theorem Cp.g {w W W5 : World} {x : CrewWorld} {v : V7} {cs : List Value} (h : Cp w W x v cs) {v' : Value} {l' : List Int} {us' : List Value} (hg : GB (W.alloc (.cells #[] 3)) W5 (.slice (some ⟨W.heap.size, 0, none⟩) 0 0) v') (ho : OwS W5 W.heap.size 3 1 intC v' l' us' []) :
    Cp w (W5.setCell ⟨w.heap.size, 10, none⟩ v') { x with ring := l' } { v with g := v' } (cs.set 10 v') := by
  have hl := h.lt
  have hb : Below W.heap.size W W5 := ((Below.refl _ _).alloc (Nat.le_refl _) _).trans (hg.toBelow (by simp) (fun g e => by injection e with e; exact Nat.le_of_eq e))
  have hs : Sq W5 W.heap.size 3 1 intC v' l' := ⟨_, ho⟩
  have hw := h.ws.new_g hb (Nat.le_refl _) (by omega) hs
  have fz : ∀ b, v.free b → b < W.heap.size → ({ v with g := v' } : V7).free b := fun b hf hb q hq => by
    simp only [V7.list, List.mem_cons, List.mem_nil_iff, or_false] at hq
    rcases hq with rfl | rfl | rfl | rfl | rfl | rfl | rfl
    · exact hf v.q (by simp [V7.list])
    · exact hf v.h (by simp [V7.list])
    · exact hf v.r (by simp [V7.list])
    · exact fun e => by have := (hs.lt b e).1; omega
    · exact hf v.o (by simp [V7.list])
    · exact hf v.t (by simp [V7.list])
    · exact hf v.s (by simp [V7.list])
  have f0 := fz _ h.f0 (by omega)
  exact ⟨(h.box.below hb h.box.lt).set 10 v', (h.res.below hb h.res.lt).far (by show w.heap.size + 1 ≠ w.heap.size; omega) _, hw.far f0 _ _, f0, fz _ h.f1 (by omega), h.fr.trans ((hb.mono (by omega)).trans (Below.setCell (p := ⟨w.heap.size, 10, none⟩) (Below.refl _ _) (Nat.le_refl _) _))⟩
theorem Cp.o {w W W5 : World} {x : CrewWorld} {v : V7} {cs : List Value} (h : Cp w W x v cs) {v' : Value} {l' : List Int} {us' : List Value} (hg : GB (W.alloc (.cells #[] 3)) W5 (.slice (some ⟨W.heap.size, 0, none⟩) 0 0) v') (ho : OwS W5 W.heap.size 3 1 intC v' l' us' []) :
    Cp w (W5.setCell ⟨w.heap.size, 12, none⟩ v') { x with out := l' } { v with o := v' } (cs.set 12 v') := by
  have hl := h.lt
  have hb : Below W.heap.size W W5 := ((Below.refl _ _).alloc (Nat.le_refl _) _).trans (hg.toBelow (by simp) (fun g e => by injection e with e; exact Nat.le_of_eq e))
  have hs : Sq W5 W.heap.size 3 1 intC v' l' := ⟨_, ho⟩
  have hw := h.ws.new_o hb (Nat.le_refl _) (by omega) hs
  have fz : ∀ b, v.free b → b < W.heap.size → ({ v with o := v' } : V7).free b := fun b hf hb q hq => by
    simp only [V7.list, List.mem_cons, List.mem_nil_iff, or_false] at hq
    rcases hq with rfl | rfl | rfl | rfl | rfl | rfl | rfl
    · exact hf v.q (by simp [V7.list])
    · exact hf v.h (by simp [V7.list])
    · exact hf v.r (by simp [V7.list])
    · exact hf v.g (by simp [V7.list])
    · exact fun e => by have := (hs.lt b e).1; omega
    · exact hf v.t (by simp [V7.list])
    · exact hf v.s (by simp [V7.list])
  have f0 := fz _ h.f0 (by omega)
  exact ⟨(h.box.below hb h.box.lt).set 12 v', (h.res.below hb h.res.lt).far (by show w.heap.size + 1 ≠ w.heap.size; omega) _, hw.far f0 _ _, f0, fz _ h.f1 (by omega), h.fr.trans ((hb.mono (by omega)).trans (Below.setCell (p := ⟨w.heap.size, 12, none⟩) (Below.refl _ _) (Nat.le_refl _) _))⟩
theorem Cp.t {w W W5 : World} {x : CrewWorld} {v : V7} {cs : List Value} (h : Cp w W x v cs) {v' : Value} {l' : List Int} {us' : List Value} (hg : GB (W.alloc (.cells #[] 3)) W5 (.slice (some ⟨W.heap.size, 0, none⟩) 0 0) v') (ho : OwS W5 W.heap.size 3 1 intC v' l' us' []) :
    Cp w (W5.setCell ⟨w.heap.size, 14, none⟩ v') { x with got := l' } { v with t := v' } (cs.set 14 v') := by
  have hl := h.lt
  have hb : Below W.heap.size W W5 := ((Below.refl _ _).alloc (Nat.le_refl _) _).trans (hg.toBelow (by simp) (fun g e => by injection e with e; exact Nat.le_of_eq e))
  have hs : Sq W5 W.heap.size 3 1 intC v' l' := ⟨_, ho⟩
  have hw := h.ws.new_t hb (Nat.le_refl _) (by omega) hs
  have fz : ∀ b, v.free b → b < W.heap.size → ({ v with t := v' } : V7).free b := fun b hf hb q hq => by
    simp only [V7.list, List.mem_cons, List.mem_nil_iff, or_false] at hq
    rcases hq with rfl | rfl | rfl | rfl | rfl | rfl | rfl
    · exact hf v.q (by simp [V7.list])
    · exact hf v.h (by simp [V7.list])
    · exact hf v.r (by simp [V7.list])
    · exact hf v.g (by simp [V7.list])
    · exact hf v.o (by simp [V7.list])
    · exact fun e => by have := (hs.lt b e).1; omega
    · exact hf v.s (by simp [V7.list])
  have f0 := fz _ h.f0 (by omega)
  exact ⟨(h.box.below hb h.box.lt).set 14 v', (h.res.below hb h.res.lt).far (by show w.heap.size + 1 ≠ w.heap.size; omega) _, hw.far f0 _ _, f0, fz _ h.f1 (by omega), h.fr.trans ((hb.mono (by omega)).trans (Below.setCell (p := ⟨w.heap.size, 14, none⟩) (Below.refl _ _) (Nat.le_refl _) _))⟩
theorem Cp.s {w W W5 : World} {x : CrewWorld} {v : V7} {cs : List Value} (h : Cp w W x v cs) {v' : Value} {l' : List Int} {us' : List Value} (hg : GB (W.alloc (.cells #[] 3)) W5 (.slice (some ⟨W.heap.size, 0, none⟩) 0 0) v') (ho : OwS W5 W.heap.size 3 1 intC v' l' us' []) :
    Cp w (W5.setCell ⟨w.heap.size, 16, none⟩ v') { x with shut := l' } { v with s := v' } (cs.set 16 v') := by
  have hl := h.lt
  have hb : Below W.heap.size W W5 := ((Below.refl _ _).alloc (Nat.le_refl _) _).trans (hg.toBelow (by simp) (fun g e => by injection e with e; exact Nat.le_of_eq e))
  have hs : Sq W5 W.heap.size 3 1 intC v' l' := ⟨_, ho⟩
  have hw := h.ws.new_s hb (Nat.le_refl _) (by omega) hs
  have fz : ∀ b, v.free b → b < W.heap.size → ({ v with s := v' } : V7).free b := fun b hf hb q hq => by
    simp only [V7.list, List.mem_cons, List.mem_nil_iff, or_false] at hq
    rcases hq with rfl | rfl | rfl | rfl | rfl | rfl | rfl
    · exact hf v.q (by simp [V7.list])
    · exact hf v.h (by simp [V7.list])
    · exact hf v.r (by simp [V7.list])
    · exact hf v.g (by simp [V7.list])
    · exact hf v.o (by simp [V7.list])
    · exact hf v.t (by simp [V7.list])
    · exact fun e => by have := (hs.lt b e).1; omega
  have f0 := fz _ h.f0 (by omega)
  exact ⟨(h.box.below hb h.box.lt).set 16 v', (h.res.below hb h.res.lt).far (by show w.heap.size + 1 ≠ w.heap.size; omega) _, hw.far f0 _ _, f0, fz _ h.f1 (by omega), h.fr.trans ((hb.mono (by omega)).trans (Below.setCell (p := ⟨w.heap.size, 16, none⟩) (Below.refl _ _) (Nat.le_refl _) _))⟩
theorem Ws.one {W : World} {B : Nat} {x : CrewWorld} {v : V7} (h : Ws W B x v) : (v.cells x).toArray.all (·.oneCell') = true := by
  obtain ⟨A1, c1, e1⟩ := h.q.form
  obtain ⟨A2, c2, e2⟩ := h.h.form
  obtain ⟨A3, c3, e3⟩ := h.r.form
  obtain ⟨A4, c4, e4⟩ := h.g.form
  obtain ⟨A5, c5, e5⟩ := h.o.form
  obtain ⟨A6, c6, e6⟩ := h.t.form
  obtain ⟨A7, c7, e7⟩ := h.s.form
  unfold V7.cells
  rw [e1, e2, e3, e4, e5, e6, e7]
  simp [Value.oneCell']
def V7.nil : V7 := ⟨.slice none 0 0, .slice none 0 0, .slice none 0 0, .slice none 0 0, .slice none 0 0, .slice none 0 0, .slice none 0 0⟩
theorem V7.nil_free (b : Nat) : V7.nil.free b := fun c hc e => by
  simp only [V7.list, V7.nil, List.mem_cons, List.mem_nil_iff, or_false, or_self] at hc
  subst hc
  cases e
theorem Ws.nil (W : World) (B : Nat) (x : CrewWorld) : Ws W B { x with queue := [], hands := [], results := [], ring := [], out := [], got := [], shut := [] } V7.nil :=
  ⟨Sq.nil _ _ _ _ _, Sq.nil _ _ _ _ _, Sq.nil _ _ _ _ _, Sq.nil _ _ _ _ _, Sq.nil _ _ _ _ _, Sq.nil _ _ _ _ _, Sq.nil _ _ _ _ _, fun i j a c b ha _ hb _ => by
    have hm := List.mem_of_getElem? ha
    exact absurd hb (V7.nil_free b a hm)⟩
def CopyOut (x : CrewWorld) (w : World) (e : Ending) (w' : World) : Prop := ∃ v : V7, e = .returned (.agg (v.cells x).toArray) ∧ Ws w' w.heap.size x v ∧ Below w.heap.size w w'
theorem ok_lens {x : CrewWorld} (h : x.ok) : x.queue.length ≤ 8 ∧ x.hands.length ≤ 8 ∧ x.results.length ≤ 8 ∧ x.ring.length ≤ 16 ∧ x.out.length ≤ 1 ∧ x.got.length ≤ 60 ∧ x.shut.length ≤ 4 := by
  obtain ⟨k0, k1, k2⟩ := h.form.start
  have h1 := h.form.queue
  have h2 := h.form.hands
  have h3 := h.form.results
  have h4 := h.form.ring
  have h5 := h.form.out
  have h6 := laid_got h.form h.placed
  have h7 := h.form.shut
  omega
set_option maxRecDepth 100000 in
set_option maxHeartbeats 8000000 in
theorem l52Copy_any (x : CrewWorld) (us : List Value) (fp : List Nat) (w : World) (ho : OwC w x.cells us fp) (hf : Lt fp w.heap.size) (hok : x.ok) : Calls Try.prog 125 #[.agg us.toArray] w (CopyOut x w) := by
  obtain ⟨k1, k2, k3, k4, k5, k6, k7⟩ := ok_lens hok
  clear hok
  have HF := hide hf
  have HO := hide ho
  obtain ⟨A1, c1, A2, c2, A3, c3, A4, c4, A5, c5, A6, c6, A7, c7, f1, f2, f3, f4, f5, f6, f7, rfl, wjobs, wworkers, wwindow, wnext, wreader, o1, o2, wcloser, o3, wkeeper, o4, wdue, o5, wuser, o6, wroom, o7, wops, rfl⟩ := ho.oCrewWorld
  obtain ⟨ia, hia, ja0, ja1, ja2⟩ := info_parts info_int
  obtain ⟨ih, hih, jh0, jh1, jh2⟩ := info_parts info_CrewHand'
  have HIa := hide hia
  have HIh := hide hih
  clear hia hih ho
  have O1 := hide o1
  have L1 := hide (hf.left)
  obtain ⟨-, n1, m1⟩ := o1.nlen
  have O2 := hide o2
  have L2 := hide (hf.right.left)
  obtain ⟨-, n2, m2⟩ := o2.nlen
  have O3 := hide o3
  have L3 := hide (hf.right.right.left)
  obtain ⟨-, n3, m3⟩ := o3.nlen
  have O4 := hide o4
  have L4 := hide (hf.right.right.right.left)
  obtain ⟨-, n4, m4⟩ := o4.nlen
  have O5 := hide o5
  have L5 := hide (hf.right.right.right.right.left)
  obtain ⟨-, n5, m5⟩ := o5.nlen
  have O6 := hide o6
  have L6 := hide (hf.right.right.right.right.right.left)
  obtain ⟨-, n6, m6⟩ := o6.nlen
  have O7 := hide o7
  have L7 := hide (hf.right.right.right.right.right.right)
  obtain ⟨-, n7, m7⟩ := o7.nlen
  clear o1 o2 o3 o4 o5 o6 o7 HO HF
  go_enter Try.func125, Try.ntmps125
  go_upto_region 1 with fail
  generalize hw1 : (w.alloc _).alloc _ = w1
  have HC0 := hide (show Cp w w1 { x with queue := [], hands := [], results := [], ring := [], out := [], got := [], shut := [] } V7.nil [.int .i64 x.jobs, .int .i64 x.workers, .int .i64 x.window, .int .i64 x.next, .int .i64 x.reader, .slice A1 x.queue.length c1, .slice A2 x.hands.length c2, .int .i64 x.closer, .slice A3 x.results.length c3, .int .i64 x.keeper, .slice A4 x.ring.length c4, .int .i64 x.due, .slice A5 x.out.length c5, .int .i64 x.user, .slice A6 x.got.length c6, .int .i64 x.room, .slice A7 x.shut.length c7, .int .i64 x.ops] from by
    rw [← hw1]
    exact ⟨(Row.new w _ _).alloc _, by have h := Row.new (w.alloc (.cells ([.int .i64 x.jobs, .int .i64 x.workers, .int .i64 x.window, .int .i64 x.next, .int .i64 x.reader, .slice A1 x.queue.length c1, .slice A2 x.hands.length c2, .int .i64 x.closer, .slice A3 x.results.length c3, .int .i64 x.keeper, .slice A4 x.ring.length c4, .int .i64 x.due, .slice A5 x.out.length c5, .int .i64 x.user, .slice A6 x.got.length c6, .int .i64 x.room, .slice A7 x.shut.length c7, .int .i64 x.ops] : List Value).toArray 30)) 30 zeroCells; rw [World.size_alloc] at h; exact h, Ws.nil _ _ _, V7.nil_free _, V7.nil_free _, ((Below.refl _ _).alloc (Nat.le_refl _) _).alloc (by rw [World.size_alloc]; omega) _⟩)
  clear hw1
  have x5 := HC0.out.box.cell 5
  have xl := HC0.out.box.lt
  have xz := HC0.out.lt
  have hal : Below w.heap.size w (w1.alloc (.cells #[] 3)) := HC0.out.fr.alloc HC0.out.fr.size _
  obtain ⟨us1, hu, hsr⟩ := (O1.out.below hal L1.out).srcInts
  have HU := hide hu
  have HSR := hide hsr
  clear hu hsr hal
  have HM := hide (OwS.made (α := Int) w1 3 1 intC)
  go_upto_region 2 with (first | (at_builtin; refine wpl_app rfl _ _ 22 rfl ia _ 8 Try.underlying22 HIa.out ja0 ja1 ja2 rfl (by decide) intC_len rfl HM.out x.queue HU.out (by exact New.nil _ _) (fun g _ hg => by cases hg) _ _ _ rfl rfl HSR.out (by show 0 + x.queue.length ≤ 1099511627776; omega) (by decide) (by simp) ?_; intro B1 n1_ d1 v5 hn5 hown5 hgb5; have HC1 := hide (HC0.out.q hgb5 hown5); have r5 := (hgb5.row (HC0.out.box.alloc _) (fun e => by injection e with e; exact absurd e (Nat.ne_of_gt HC0.out.box.lt))); have q5 := r5.cell 5; have f5 := r5.frozen 5; have l5 := r5.lt; clear hown5 hgb5 hn5 r5) | fail)
  generalize hw : World.setCell _ _ _ = w2 at HC1
  replace HC1 := hide (show Cp w w2 { x with hands := [], results := [], ring := [], out := [], got := [], shut := [] } ⟨.slice B1 n1_ d1, .slice none 0 0, .slice none 0 0, .slice none 0 0, .slice none 0 0, .slice none 0 0, .slice none 0 0⟩ [.int .i64 x.jobs, .int .i64 x.workers, .int .i64 x.window, .int .i64 x.next, .int .i64 x.reader, .slice B1 n1_ d1, .slice A2 x.hands.length c2, .int .i64 x.closer, .slice A3 x.results.length c3, .int .i64 x.keeper, .slice A4 x.ring.length c4, .int .i64 x.due, .slice A5 x.out.length c5, .int .i64 x.user, .slice A6 x.got.length c6, .int .i64 x.room, .slice A7 x.shut.length c7, .int .i64 x.ops] from HC1.out)
  clear hw x5 xl xz HC0 HU HSR HM q5 f5 l5
  have x6 := HC1.out.box.cell 6
  have xl := HC1.out.box.lt
  have xz := HC1.out.lt
  have hal : Below w.heap.size w (w2.alloc (.cells #[] 88)) := HC1.out.fr.alloc HC1.out.fr.size _
  obtain ⟨us2, hu, hsr⟩ := (O2.out.below hal L2.out).srcHands
  have HU := hide hu
  have HSR := hide hsr
  clear hu hsr hal
  have HM := hide (OwS.made (α := CrewHand) w2 88 2 CrewHand.cells)
  go_upto_region 3 with (first | (at_builtin; refine wpl_app rfl _ _ 28 rfl ih _ 16 Try.underlying28 HIh.out jh0 jh1 jh2 rfl (by decide) CrewHand.cells_len rfl HM.out x.hands HU.out (by exact New.nil _ _) (fun g _ hg => by cases hg) _ _ _ rfl rfl HSR.out (by show 0 + x.hands.length ≤ 1099511627776; omega) (by decide) (by simp) ?_; intro B2 n2_ d2 v5 hn5 hown5 hgb5; have HC2 := hide (HC1.out.h hgb5 hown5); have r5 := (hgb5.row (HC1.out.box.alloc _) (fun e => by injection e with e; exact absurd e (Nat.ne_of_gt HC1.out.box.lt))); have q5 := r5.cell 6; have f5 := r5.frozen 6; have l5 := r5.lt; clear hown5 hgb5 hn5 r5) | fail)
  generalize hw : World.setCell _ _ _ = w3 at HC2
  replace HC2 := hide (show Cp w w3 { x with results := [], ring := [], out := [], got := [], shut := [] } ⟨.slice B1 n1_ d1, .slice B2 n2_ d2, .slice none 0 0, .slice none 0 0, .slice none 0 0, .slice none 0 0, .slice none 0 0⟩ [.int .i64 x.jobs, .int .i64 x.workers, .int .i64 x.window, .int .i64 x.next, .int .i64 x.reader, .slice B1 n1_ d1, .slice B2 n2_ d2, .int .i64 x.closer, .slice A3 x.results.length c3, .int .i64 x.keeper, .slice A4 x.ring.length c4, .int .i64 x.due, .slice A5 x.out.length c5, .int .i64 x.user, .slice A6 x.got.length c6, .int .i64 x.room, .slice A7 x.shut.length c7, .int .i64 x.ops] from HC2.out)
  clear hw x6 xl xz HC1 HU HSR HM q5 f5 l5
  have x8 := HC2.out.box.cell 8
  have xl := HC2.out.box.lt
  have xz := HC2.out.lt
  have hal : Below w.heap.size w (w3.alloc (.cells #[] 3)) := HC2.out.fr.alloc HC2.out.fr.size _
  obtain ⟨us3, hu, hsr⟩ := (O3.out.below hal L3.out).srcInts
  have HU := hide hu
  have HSR := hide hsr
  clear hu hsr hal
  have HM := hide (OwS.made (α := Int) w3 3 1 intC)
  go_upto_region 4 with (first | (at_builtin; refine wpl_app rfl _ _ 22 rfl ia _ 8 Try.underlying22 HIa.out ja0 ja1 ja2 rfl (by decide) intC_len rfl HM.out x.results HU.out (by exact New.nil _ _) (fun g _ hg => by cases hg) _ _ _ rfl rfl HSR.out (by show 0 + x.results.length ≤ 1099511627776; omega) (by decide) (by simp) ?_; intro B3 n3_ d3 v5 hn5 hown5 hgb5; have HC3 := hide (HC2.out.r hgb5 hown5); have r5 := (hgb5.row (HC2.out.box.alloc _) (fun e => by injection e with e; exact absurd e (Nat.ne_of_gt HC2.out.box.lt))); have q5 := r5.cell 8; have f5 := r5.frozen 8; have l5 := r5.lt; clear hown5 hgb5 hn5 r5) | fail)
  generalize hw : World.setCell _ _ _ = w4 at HC3
  replace HC3 := hide (show Cp w w4 { x with ring := [], out := [], got := [], shut := [] } ⟨.slice B1 n1_ d1, .slice B2 n2_ d2, .slice B3 n3_ d3, .slice none 0 0, .slice none 0 0, .slice none 0 0, .slice none 0 0⟩ [.int .i64 x.jobs, .int .i64 x.workers, .int .i64 x.window, .int .i64 x.next, .int .i64 x.reader, .slice B1 n1_ d1, .slice B2 n2_ d2, .int .i64 x.closer, .slice B3 n3_ d3, .int .i64 x.keeper, .slice A4 x.ring.length c4, .int .i64 x.due, .slice A5 x.out.length c5, .int .i64 x.user, .slice A6 x.got.length c6, .int .i64 x.room, .slice A7 x.shut.length c7, .int .i64 x.ops] from HC3.out)
  clear hw x8 xl xz HC2 HU HSR HM q5 f5 l5
  have x10 := HC3.out.box.cell 10
  have xl := HC3.out.box.lt
  have xz := HC3.out.lt
  have hal : Below w.heap.size w (w4.alloc (.cells #[] 3)) := HC3.out.fr.alloc HC3.out.fr.size _
  obtain ⟨us4, hu, hsr⟩ := (O4.out.below hal L4.out).srcInts
  have HU := hide hu
  have HSR := hide hsr
  clear hu hsr hal
  have HM := hide (OwS.made (α := Int) w4 3 1 intC)
  go_upto_region 5 with (first | (at_builtin; refine wpl_app rfl _ _ 22 rfl ia _ 8 Try.underlying22 HIa.out ja0 ja1 ja2 rfl (by decide) intC_len rfl HM.out x.ring HU.out (by exact New.nil _ _) (fun g _ hg => by cases hg) _ _ _ rfl rfl HSR.out (by show 0 + x.ring.length ≤ 1099511627776; omega) (by decide) (by simp) ?_; intro B4 n4_ d4 v5 hn5 hown5 hgb5; have HC4 := hide (HC3.out.g hgb5 hown5); have r5 := (hgb5.row (HC3.out.box.alloc _) (fun e => by injection e with e; exact absurd e (Nat.ne_of_gt HC3.out.box.lt))); have q5 := r5.cell 10; have f5 := r5.frozen 10; have l5 := r5.lt; clear hown5 hgb5 hn5 r5) | fail)
  generalize hw : World.setCell _ _ _ = w5 at HC4
  replace HC4 := hide (show Cp w w5 { x with out := [], got := [], shut := [] } ⟨.slice B1 n1_ d1, .slice B2 n2_ d2, .slice B3 n3_ d3, .slice B4 n4_ d4, .slice none 0 0, .slice none 0 0, .slice none 0 0⟩ [.int .i64 x.jobs, .int .i64 x.workers, .int .i64 x.window, .int .i64 x.next, .int .i64 x.reader, .slice B1 n1_ d1, .slice B2 n2_ d2, .int .i64 x.closer, .slice B3 n3_ d3, .int .i64 x.keeper, .slice B4 n4_ d4, .int .i64 x.due, .slice A5 x.out.length c5, .int .i64 x.user, .slice A6 x.got.length c6, .int .i64 x.room, .slice A7 x.shut.length c7, .int .i64 x.ops] from HC4.out)
  clear hw x10 xl xz HC3 HU HSR HM q5 f5 l5
  have x12 := HC4.out.box.cell 12
  have xl := HC4.out.box.lt
  have xz := HC4.out.lt
  have hal : Below w.heap.size w (w5.alloc (.cells #[] 3)) := HC4.out.fr.alloc HC4.out.fr.size _
  obtain ⟨us5, hu, hsr⟩ := (O5.out.below hal L5.out).srcInts
  have HU := hide hu
  have HSR := hide hsr
  clear hu hsr hal
  have HM := hide (OwS.made (α := Int) w5 3 1 intC)
  go_upto_region 6 with (first | (at_builtin; refine wpl_app rfl _ _ 22 rfl ia _ 8 Try.underlying22 HIa.out ja0 ja1 ja2 rfl (by decide) intC_len rfl HM.out x.out HU.out (by exact New.nil _ _) (fun g _ hg => by cases hg) _ _ _ rfl rfl HSR.out (by show 0 + x.out.length ≤ 1099511627776; omega) (by decide) (by simp) ?_; intro B5 n5_ d5 v5 hn5 hown5 hgb5; have HC5 := hide (HC4.out.o hgb5 hown5); have r5 := (hgb5.row (HC4.out.box.alloc _) (fun e => by injection e with e; exact absurd e (Nat.ne_of_gt HC4.out.box.lt))); have q5 := r5.cell 12; have f5 := r5.frozen 12; have l5 := r5.lt; clear hown5 hgb5 hn5 r5) | fail)
  generalize hw : World.setCell _ _ _ = w6 at HC5
  replace HC5 := hide (show Cp w w6 { x with got := [], shut := [] } ⟨.slice B1 n1_ d1, .slice B2 n2_ d2, .slice B3 n3_ d3, .slice B4 n4_ d4, .slice B5 n5_ d5, .slice none 0 0, .slice none 0 0⟩ [.int .i64 x.jobs, .int .i64 x.workers, .int .i64 x.window, .int .i64 x.next, .int .i64 x.reader, .slice B1 n1_ d1, .slice B2 n2_ d2, .int .i64 x.closer, .slice B3 n3_ d3, .int .i64 x.keeper, .slice B4 n4_ d4, .int .i64 x.due, .slice B5 n5_ d5, .int .i64 x.user, .slice A6 x.got.length c6, .int .i64 x.room, .slice A7 x.shut.length c7, .int .i64 x.ops] from HC5.out)
  clear hw x12 xl xz HC4 HU HSR HM q5 f5 l5
  have x14 := HC5.out.box.cell 14
  have xl := HC5.out.box.lt
  have xz := HC5.out.lt
  have hal : Below w.heap.size w (w6.alloc (.cells #[] 3)) := HC5.out.fr.alloc HC5.out.fr.size _
  obtain ⟨us6, hu, hsr⟩ := (O6.out.below hal L6.out).srcInts
  have HU := hide hu
  have HSR := hide hsr
  clear hu hsr hal
  have HM := hide (OwS.made (α := Int) w6 3 1 intC)
  go_upto_region 7 with (first | (at_builtin; refine wpl_app rfl _ _ 22 rfl ia _ 8 Try.underlying22 HIa.out ja0 ja1 ja2 rfl (by decide) intC_len rfl HM.out x.got HU.out (by exact New.nil _ _) (fun g _ hg => by cases hg) _ _ _ rfl rfl HSR.out (by show 0 + x.got.length ≤ 1099511627776; omega) (by decide) (by simp) ?_; intro B6 n6_ d6 v5 hn5 hown5 hgb5; have HC6 := hide (HC5.out.t hgb5 hown5); have r5 := (hgb5.row (HC5.out.box.alloc _) (fun e => by injection e with e; exact absurd e (Nat.ne_of_gt HC5.out.box.lt))); have q5 := r5.cell 14; have f5 := r5.frozen 14; have l5 := r5.lt; clear hown5 hgb5 hn5 r5) | fail)
  generalize hw : World.setCell _ _ _ = w7 at HC6
  replace HC6 := hide (show Cp w w7 { x with shut := [] } ⟨.slice B1 n1_ d1, .slice B2 n2_ d2, .slice B3 n3_ d3, .slice B4 n4_ d4, .slice B5 n5_ d5, .slice B6 n6_ d6, .slice none 0 0⟩ [.int .i64 x.jobs, .int .i64 x.workers, .int .i64 x.window, .int .i64 x.next, .int .i64 x.reader, .slice B1 n1_ d1, .slice B2 n2_ d2, .int .i64 x.closer, .slice B3 n3_ d3, .int .i64 x.keeper, .slice B4 n4_ d4, .int .i64 x.due, .slice B5 n5_ d5, .int .i64 x.user, .slice B6 n6_ d6, .int .i64 x.room, .slice A7 x.shut.length c7, .int .i64 x.ops] from HC6.out)
  clear hw x14 xl xz HC5 HU HSR HM q5 f5 l5
  have x16 := HC6.out.box.cell 16
  have xl := HC6.out.box.lt
  have xz := HC6.out.lt
  have hal : Below w.heap.size w (w7.alloc (.cells #[] 3)) := HC6.out.fr.alloc HC6.out.fr.size _
  obtain ⟨us7, hu, hsr⟩ := (O7.out.below hal L7.out).srcInts
  have HU := hide hu
  have HSR := hide hsr
  clear hu hsr hal
  have HM := hide (OwS.made (α := Int) w7 3 1 intC)
  go_upto_region 8 with (first | (at_builtin; refine wpl_app rfl _ _ 22 rfl ia _ 8 Try.underlying22 HIa.out ja0 ja1 ja2 rfl (by decide) intC_len rfl HM.out x.shut HU.out (by exact New.nil _ _) (fun g _ hg => by cases hg) _ _ _ rfl rfl HSR.out (by show 0 + x.shut.length ≤ 1099511627776; omega) (by decide) (by simp) ?_; intro B7 n7_ d7 v5 hn5 hown5 hgb5; have HC7 := hide (HC6.out.s hgb5 hown5); have r5 := (hgb5.row (HC6.out.box.alloc _) (fun e => by injection e with e; exact absurd e (Nat.ne_of_gt HC6.out.box.lt))); have q5 := r5.cell 16; have f5 := r5.frozen 16; have l5 := r5.lt; clear hown5 hgb5 hn5 r5) | fail)
  generalize hw : World.setCell _ _ _ = w8 at HC7
  replace HC7 := hide (show Cp w w8 x ⟨.slice B1 n1_ d1, .slice B2 n2_ d2, .slice B3 n3_ d3, .slice B4 n4_ d4, .slice B5 n5_ d5, .slice B6 n6_ d6, .slice B7 n7_ d7⟩ [.int .i64 x.jobs, .int .i64 x.workers, .int .i64 x.window, .int .i64 x.next, .int .i64 x.reader, .slice B1 n1_ d1, .slice B2 n2_ d2, .int .i64 x.closer, .slice B3 n3_ d3, .int .i64 x.keeper, .slice B4 n4_ d4, .int .i64 x.due, .slice B5 n5_ d5, .int .i64 x.user, .slice B6 n6_ d6, .int .i64 x.room, .slice B7 n7_ d7, .int .i64 x.ops] from HC7.out)
  clear hw x16 xl xz HC6 HU HSR HM q5 f5 l5
  have HB := hide (show Row w8 w.heap.size 30 (((⟨.slice B1 n1_ d1, .slice B2 n2_ d2, .slice B3 n3_ d3, .slice B4 n4_ d4, .slice B5 n5_ d5, .slice B6 n6_ d6, .slice B7 n7_ d7⟩ : V7)).cells x) from HC7.out.box)
  have HW := hide (show Ws w8 w.heap.size x ⟨.slice B1 n1_ d1, .slice B2 n2_ d2, .slice B3 n3_ d3, .slice B4 n4_ d4, .slice B5 n5_ d5, .slice B6 n6_ d6, .slice B7 n7_ d7⟩ from HC7.out.ws)
  have HR := hide HC7.out.res
  have HF1 := hide (show (⟨.slice B1 n1_ d1, .slice B2 n2_ d2, .slice B3 n3_ d3, .slice B4 n4_ d4, .slice B5 n5_ d5, .slice B6 n6_ d6, .slice B7 n7_ d7⟩ : V7).free (w.heap.size + 1) from HC7.out.f1)
  have HFR := hide HC7.out.fr
  clear HC7
  generalize (⟨.slice B1 n1_ d1, .slice B2 n2_ d2, .slice B3 n3_ d3, .slice B4 n4_ d4, .slice B5 n5_ d5, .slice B6 n6_ d6, .slice B7 n7_ d7⟩ : V7) = vv at *
  go_wp2_with (first | (refine wpList_load_row rfl 30 _ rfl w.heap.size rfl 30 (vv.cells x).toArray (0, 0) _ HB.out Try.underlying30 rfl (by kernel_rfl) ?_) | (refine wpList_store_row rfl 30 _ _ rfl (w.heap.size + 1) (vv.cells x).toArray rfl rfl 30 zeroCells.toArray HR.out (by kernel_rfl) rfl HW.out.one ?_))
  refine bodyPost_ret (ret_row rfl _ _ (w.heap.size + 1) 30 (vv.cells x) (HR.out.setRow' (vv.cells x)) _ rfl Try.underlying30 rfl (by kernel_rfl)) rfl ?_
  have hg := setRow_grown (grown_refl w8 (some (w.heap.size + 1))) (vv.cells x).toArray
  exact ⟨vv, rfl, HW.out.kept hg HF1.out, HFR.out.trans (below_of_grown hg (by omega) HFR.out.size)⟩
end Go.Proofs.Ytpkjjfnfolbcoaa
