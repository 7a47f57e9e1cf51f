/-
  A plan that is being drawn: in a box of its own, its parts in a slice of its own; a reader beside it.
-/
import Derived.Test.YtknlnndocamcmaaDoorPlRR
import Derived.Test.YtknlnndocamcmaaDoorDraw
import Derived.Test.YtknlnndocamcmaaDoorApp
set_option linter.unusedVariables false
set_option linter.unusedSimpArgs false
namespace Go.Proofs.YtknlnndocamcmaaDoor
open Go.ChangeShapes Go.WideShapes Go.ChangeAt Go.RowKit

theorem only_lowP {a w w' : World} {row : Option Nat} {B : Nat} (h : a.grownBy w row) (hb : Below B w w') (hB : a.heap.size ≤ B) : a.grownBy w' row :=
  ⟨hb.os.trans h.os, hb.tape.trans h.tape, hb.output.trans h.output, Nat.le_trans h.size hb.size, fun i hi hr => (hb.block i (Nat.lt_of_lt_of_le hi hB)).trans (h.block i hi hr)⟩
theorem OwC.splitP {w : World} : ∀ {l r : List D} {us : List Value} {fp : List Nat}, OwC w (l ++ r) us fp → ∃ u1 u2 f1 f2, us = u1 ++ u2 ∧ fp = f1 ++ f2 ∧ OwC w l u1 f1 ∧ OwC w r u2 f2
  | [], _, us, fp, h => ⟨[], us, [], fp, rfl, rfl, by simp [OwC], h⟩
  | d :: l, r, us, fp, h => by
    cases us with
    | nil => exact h.elim
    | cons y us =>
      obtain ⟨f1, f2, h1, h2, rfl⟩ := h
      obtain ⟨u1, u2, g1, g2, rfl, rfl, k1, k2⟩ := OwC.splitP (l := l) h2
      exact ⟨y :: u1, u2, f1 ++ g1, g2, rfl, by simp, ⟨f1, g1, h1, k1, rfl⟩, k2⟩
theorem parts_at {w : World} : ∀ (l : List LogPart) (us : List Value) (fi : List Nat) (m : Nat), OwC w (l.flatMap LogPart.cells) us fi → m < l.length * 4 → ∃ x : Int, us[m]? = some (.int .i64 x) ∧ (Lit.int .i64 x).wf = true
  | [], us, fi, m, h, hm => by simp at hm
  | y :: r, us, fi, m, h, hm => by
    rw [List.flatMap_cons] at h
    obtain ⟨u1, u2, f1, f2, rfl, rfl, h1, h2⟩ := h.splitP
    obtain ⟨rfl, w0, w1, w2, w3, rfl⟩ := h1.oLogPart
    match m, hm with
    | 0, _ => exact ⟨_, rfl, w0⟩
    | 1, _ => exact ⟨_, rfl, w1⟩
    | 2, _ => exact ⟨_, rfl, w2⟩
    | 3, _ => exact ⟨_, rfl, w3⟩
    | m + 4, hm =>
      rw [List.length_cons] at hm
      exact parts_at r u2 f2 m h2 (by omega)
theorem parts_set {w : World} (x : Int) (hx : (Lit.int .i64 x).wf = true) : ∀ (l : List LogPart) (us : List Value) (fi : List Nat) (m : Nat), OwC w (l.flatMap LogPart.cells) us fi → m < l.length * 4 → ∃ l' : List LogPart, l'.length = l.length ∧ OwC w (l'.flatMap LogPart.cells) (us.set m (.int .i64 x)) fi
  | [], us, fi, m, h, hm => by simp at hm
  | y :: r, us, fi, m, h, hm => by
    rw [List.flatMap_cons] at h
    obtain ⟨u1, u2, f1, f2, rfl, rfl, h1, h2⟩ := h.splitP
    obtain ⟨rfl, w0, w1, w2, w3, rfl⟩ := h1.oLogPart
    match m, hm with
    | 0, _ => exact ⟨⟨x, y.first, y.next, y.size⟩ :: r, rfl, by rw [List.flatMap_cons]; exact (OwC.mLogPart (x := ⟨x, y.first, y.next, y.size⟩) hx w1 w2 w3).append h2⟩
    | 1, _ => exact ⟨⟨y.num, x, y.next, y.size⟩ :: r, rfl, by rw [List.flatMap_cons]; exact (OwC.mLogPart (x := ⟨y.num, x, y.next, y.size⟩) w0 hx w2 w3).append h2⟩
    | 2, _ => exact ⟨⟨y.num, y.first, x, y.size⟩ :: r, rfl, by rw [List.flatMap_cons]; exact (OwC.mLogPart (x := ⟨y.num, y.first, x, y.size⟩) w0 w1 hx w3).append h2⟩
    | 3, _ => exact ⟨⟨y.num, y.first, y.next, x⟩ :: r, rfl, by rw [List.flatMap_cons]; exact (OwC.mLogPart (x := ⟨y.num, y.first, y.next, x⟩) w0 w1 w2 hx).append h2⟩
    | m + 4, hm =>
      rw [List.length_cons] at hm
      obtain ⟨l', hl', ho⟩ := parts_set x hx r u2 f2 m h2 (by omega)
      exact ⟨y :: l', by rw [List.length_cons, hl']; rfl, by rw [List.flatMap_cons]; exact h1.append ho⟩
/-- one cell of an own slice of parts is stored -/
theorem parts_swap {w : World} {B g c n : Nat} {e : TypeId} {l : List LogPart} {us : List Value} (h : OwS w B e 4 LogPart.cells (.slice (some ⟨g, 0, none⟩) n c) l us []) (hn : n = l.length) (m : Nat) (hm : m < l.length * 4) (x : Int) (hx : (Lit.int .i64 x).wf = true) :
    ∃ l' us', l'.length = l.length ∧ OwS (w.setCell ⟨g, m, none⟩ (.int .i64 x)) B e 4 LogPart.cells (.slice (some ⟨g, 0, none⟩) n c) l' us' [] := by
  subst hn
  obtain ⟨l', hl', ho⟩ := parts_set x hx l us [] m h.cells hm
  refine ⟨l', _, hl', ⟨?_, ho.setCell (by simp) _, New.nil _ _, fun b hb => by simp⟩⟩
  refine ⟨by rw [List.length_set, hl']; exact h.own.1, ?_⟩
  rcases h.own.2 with ⟨hn, _⟩ | ⟨g', cap, cur, hv, hB, hg, h3, h4, h5, h6⟩
  · cases hn
  · injection hv with hv1 hv2 hv3
    injection hv1 with hv1
    injection hv1 with hv1
    subst hv1 hv3
    refine .inr ⟨g, c, cur.setIfInBounds m (.int .i64 x), by rw [hl'], hB, ?_, by rw [hl']; exact h3, h4, by simpa using h5, ?_⟩
    · simp [World.setCell, Array.getElem?_modify, hg]
    · rw [hl', Array.toList_setIfInBounds, List.take_set, h6]
/-- where the parts lie -/
theorem parts_cell {w : World} {B : Nat} {e : TypeId} {A : Option Addr} {n c : Nat} {l : List LogPart} {us : List Value} (h : OwS w B e 4 LogPart.cells (.slice A n c) l us []) (h0 : 0 < l.length) :
    ∃ g, A = some ⟨g, 0, none⟩ ∧ n = l.length ∧ B ≤ g ∧ g < w.heap.size ∧ ∀ m, m < l.length * 4 → (∃ x : Int, w.cell? ⟨g, m, none⟩ = some (.int .i64 x) ∧ (Lit.int .i64 x).wf = true) ∧ w.frozen? ⟨g, m, none⟩ = false := by
  rcases h.own.2 with ⟨_, hn⟩ | ⟨g, cap, cur, hv, hB, hg, h3, h4, h5, h6⟩
  · omega
  · injection hv with e1 e2 e3
    subst e1 e2 e3
    refine ⟨g, rfl, rfl, hB, Row.lt (w := w) (g := g) (e := e) (cs := cur.toList) (by simpa [Row] using hg), fun m hm => ⟨?_, by simp [World.frozen?, hg]⟩⟩
    obtain ⟨x, hx, hwf⟩ := parts_at l us [] m h.cells hm
    refine ⟨x, ?_, hwf⟩
    rw [cell_of_row w g m cur _ (0, 0) hg]
    rw [← h6, List.getElem?_take_of_lt (by omega)] at hx
    simpa using hx
/-- the plan so far -/
structure PlB (w wr : World) (g : Nat) (L : List UInt8) (k : Nat) (ps : List LogPart) (op fi : Int) (A : Option Addr) (n c : Nat) (us : List Value) : Prop where
  pb : PBox wr (w.heap.size + 1) (w.heap.size + 2) ps op fi A n c us
  z : Row wr w.heap.size 24 [.slice none 0 0, .int .i64 0, .int .i64 0]
  rd : RdD wr g L k
  gr : w.grownBy wr (some g)
section
variable {w wr w' : World} {g : Nat} {L : List UInt8} {k k' : Nat} {ps : List LogPart} {op fi : Int} {A : Option Addr} {n c : Nat} {us : List Value}
theorem PlB.pick (h : PlB w wr g L k ps op fi A n c us) (hlg : g < w.heap.size) (hr : RdD w' g L k') (hg : wr.grownBy w' (some g)) : PlB w w' g L k' ps op fi A n c us :=
  ⟨⟨h.pb.box.grown hg (fun e => by injection e with e; omega), h.pb.own.kept hg (fun x e => by injection e with e; subst e; exact ⟨h.pb.own.nlow (by omega), h.pb.own.low (by omega)⟩), h.pb.lt⟩, h.z.grown hg (fun e => by injection e with e; omega), hr, only_trans h.gr hg⟩
theorem PlB.step (h : PlB w wr g L k ps op fi A n c us) (hb : Below wr.heap.size wr w') : PlB w w' g L k ps op fi A n c us :=
  ⟨h.pb.below hb, h.z.below hb h.z.lt, h.rd.below hb, only_trans h.gr (grownBy_below hb (some g))⟩
theorem PlB.put (h : PlB w wr g L k ps op fi A n c us) (hlg : g < w.heap.size) (x y : Int) : PlB w ((wr.setCell ⟨w.heap.size + 1, 1, none⟩ (.int .i64 x)).setCell ⟨w.heap.size + 1, 2, none⟩ (.int .i64 y)) g L k ps x y A n c us :=
  have hb : Below w.heap.size wr ((wr.setCell ⟨w.heap.size + 1, 1, none⟩ (.int .i64 x)).setCell ⟨w.heap.size + 1, 2, none⟩ (.int .i64 y)) := ((Below.refl _ _).setCell (p := ⟨w.heap.size + 1, 1, none⟩) (Nat.le_succ _) _).setCell (p := ⟨w.heap.size + 1, 2, none⟩) (Nat.le_succ _) _
  ⟨h.pb.put x y, by simpa using (h.z.far (p := ⟨w.heap.size + 1, 1, none⟩) (by simp) (.int .i64 x)).far (p := ⟨w.heap.size + 1, 2, none⟩) (by simp) (.int .i64 y), h.rd.low hb hlg, only_lowP h.gr hb (Nat.le_refl _)⟩
theorem PlB.putOp (h : PlB w wr g L k ps op fi A n c us) (hlg : g < w.heap.size) (x : Int) : PlB w (wr.setCell ⟨w.heap.size + 1, 1, none⟩ (.int .i64 x)) g L k ps x fi A n c us :=
  have hb : Below w.heap.size wr (wr.setCell ⟨w.heap.size + 1, 1, none⟩ (.int .i64 x)) := (Below.refl _ _).setCell (p := ⟨w.heap.size + 1, 1, none⟩) (Nat.le_succ _) _
  ⟨⟨h.pb.box.set 1 (.int .i64 x), h.pb.own.setCell (by simp) (h.pb.own.low h.pb.lt) _, h.pb.lt⟩, h.z.far (p := ⟨w.heap.size + 1, 1, none⟩) (by simp) (.int .i64 x), h.rd.low hb hlg, only_lowP h.gr hb (Nat.le_refl _)⟩
theorem PlB.putFi (h : PlB w wr g L k ps op fi A n c us) (hlg : g < w.heap.size) (x : Int) : PlB w (wr.setCell ⟨w.heap.size + 1, 2, none⟩ (.int .i64 x)) g L k ps op x A n c us :=
  have hb : Below w.heap.size wr (wr.setCell ⟨w.heap.size + 1, 2, none⟩ (.int .i64 x)) := (Below.refl _ _).setCell (p := ⟨w.heap.size + 1, 2, none⟩) (Nat.le_succ _) _
  ⟨⟨h.pb.box.set 2 (.int .i64 x), h.pb.own.setCell (by simp) (h.pb.own.low h.pb.lt) _, h.pb.lt⟩, h.z.far (p := ⟨w.heap.size + 1, 2, none⟩) (by simp) (.int .i64 x), h.rd.low hb hlg, only_lowP h.gr hb (Nat.le_refl _)⟩
theorem PlB.app {w7 : World} {A7 : Option Addr} {n7 c7 : Nat} {us7 : List Value} {x : LogPart} {o : Obj} (h : PlB w wr g L k ps op fi A n c us) (hlg : g < w.heap.size) (hgb : GB (wr.alloc o) w7 (.slice A n c) (.slice A7 n7 c7))
    (hown : OwS w7 (w.heap.size + 2) 35 4 LogPart.cells (.slice A7 n7 c7) (ps ++ [x]) us7 []) : PlB w (w7.setCell ⟨w.heap.size + 1, 0, none⟩ (.slice A7 n7 c7)) g L k (ps ++ [x]) op fi A7 n7 c7 us7 :=
  have hb : Below w.heap.size wr (w7.setCell ⟨w.heap.size + 1, 0, none⟩ (.slice A7 n7 c7)) :=
    (((Below.refl _ _).alloc h.gr.size o).trans (hgb.toBelow (B := w.heap.size) (by rw [World.size_alloc]; have := h.gr.size; omega) (fun y e => by have := h.pb.own.from e; omega))).setCell (p := ⟨w.heap.size + 1, 0, none⟩) (Nat.le_succ _) _
  ⟨h.pb.app hgb hown, (hgb.row (h.z.alloc o) (h.pb.own.low (show w.heap.size < w.heap.size + 2 by omega))).far (p := ⟨w.heap.size + 1, 0, none⟩) (by simp) _, h.rd.low hb hlg, only_lowP h.gr hb (Nat.le_refl _)⟩
theorem PlB.part {b : Nat} (h : PlB w wr g L k ps op fi (some ⟨b, 0, none⟩) n c us) (hlg : g < w.heap.size) (m : Nat) (hm : m < ps.length * 4) (x : Int) (hx : (Lit.int .i64 x).wf = true) :
    ∃ ps' us', ps'.length = ps.length ∧ PlB w (wr.setCell ⟨b, m, none⟩ (.int .i64 x)) g L k ps' op fi (some ⟨b, 0, none⟩) n c us' := by
  obtain ⟨ps', us', hl, ho⟩ := parts_swap h.pb.own h.pb.len m hm x hx
  have hB : w.heap.size + 2 ≤ b := h.pb.own.from rfl
  have hb : Below w.heap.size wr (wr.setCell ⟨b, m, none⟩ (.int .i64 x)) := (Below.refl _ _).setCell (p := ⟨b, m, none⟩) (show w.heap.size ≤ b by omega) _
  exact ⟨ps', us', hl, ⟨h.pb.box.far (p := ⟨b, m, none⟩) (show w.heap.size + 1 ≠ b by omega) _, ho, h.pb.lt⟩, h.z.far (p := ⟨b, m, none⟩) (show w.heap.size ≠ b by omega) _, h.rd.low hb hlg, only_lowP h.gr hb (Nat.le_refl _)⟩
end
def PlanDraw (w : World) (g : Nat) (L : List UInt8) (k : Nat) (e : Ending) (w' : World) : Prop :=
  ∃ (us : List Value) (p : LogPlan) (fq : List Nat) (k' : Nat), e = .returned (.agg us.toArray) ∧ OwC w' p.cells us fq ∧ New w' fq w.heap.size ∧ p.parts.length ≤ 41 ∧ k' ≤ k + 1000 ∧ RdD w' g L k' ∧ w.grownBy w' (some g)
theorem PlB.slot {w wr : World} {g : Nat} {L : List UInt8} {k : Nat} {ps : List LogPart} {op fi : Int} {n c bl : Nat} {us : List Value} (h : PlB w wr g L k ps op fi (some ⟨bl, 0, none⟩) n c us) (hp : 0 < ps.length) :
    w.heap.size + 2 ≤ bl ∧ bl < wr.heap.size ∧ ∀ m, m < ps.length * 4 → (∃ x : Int, wr.cell? ⟨bl, m, none⟩ = some (.int .i64 x) ∧ (Lit.int .i64 x).wf = true) ∧ wr.frozen? ⟨bl, m, none⟩ = false := by
  obtain ⟨g0, e, _, h1, h2, h3⟩ := parts_cell h.pb.own hp
  injection e with e
  injection e with e
  subst e
  exact ⟨h1, h2, h3⟩
theorem PlB.xput {w wr : World} {g : Nat} {L : List UInt8} {k : Nat} {ps : List LogPart} {op fi : Int} {A : Option Addr} {n c b : Nat} {us : List Value} (h : PlB w wr g L k ps op fi A n c us) (hb : w.heap.size + 2 ≤ b) (hne : (Value.slice A n c).ownBlock ≠ some b) (hlg : g < w.heap.size) (j : Nat) (u : Value) :
    PlB w (wr.setCell ⟨b, j, none⟩ u) g L k ps op fi A n c us :=
  have hbl : Below w.heap.size wr (wr.setCell ⟨b, j, none⟩ u) := (Below.refl _ _).setCell (p := ⟨b, j, none⟩) (show w.heap.size ≤ b by omega) _
  ⟨⟨h.pb.box.far (p := ⟨b, j, none⟩) (show w.heap.size + 1 ≠ b by omega) _, h.pb.own.setCell (by simp) hne _, h.pb.lt⟩, h.z.far (p := ⟨b, j, none⟩) (show w.heap.size ≠ b by omega) _, h.rd.low hbl hlg, only_lowP h.gr hbl (Nat.le_refl _)⟩
theorem PlB.out {w wr W' : World} {g : Nat} {L : List UInt8} {k k' : Nat} {ps : List LogPart} {op fi : Int} {A : Option Addr} {n c : Nat} {us : List Value} (h : PlB w wr g L k' ps op fi A n c us) (hlg : g < w.heap.size) (hgr : wr.grownBy W' (some w.heap.size)) (hl : ps.length ≤ 41)
    (h0 : (Lit.int .i64 op).wf = true) (h1 : (Lit.int .i64 fi).wf = true) (hk : k' ≤ k + 1000) : PlanDraw w g L k (.returned (.agg ([.slice A n c, .int .i64 op, .int .i64 fi] : List Value).toArray)) W' := by
  obtain ⟨fq, ho, hn⟩ := h.pb.ow h0 h1
  have hno : w.heap.size ∉ fq := hn.out (by omega)
  have hb : Below w.heap.size wr W' := below_of_grown hgr (Nat.le_refl _) h.gr.size
  exact ⟨_, ⟨ps, op, fi⟩, fq, k', rfl, ho.grown hgr hn.lt hno, (hn.grown hgr (fun b e => by injection e with e; subst e; exact hno)).mono (by omega), hl, hk, h.rd.low hb hlg, only_lowP h.gr hb (Nat.le_refl _)⟩
theorem list_pick (l : List Int) (q : Nat) (h : q < l.length) (hw : ∀ x ∈ l, -1 ≤ x ∧ x ≤ 2000000) : ∃ v : Int, (l.map (Value.int .i64 ·))[q]? = some (.int .i64 v) ∧ (-1 ≤ v ∧ v ≤ 2000000) :=
  ⟨l[q], by simp [h], hw _ (List.getElem_mem h)⟩
end Go.Proofs.YtknlnndocamcmaaDoor
