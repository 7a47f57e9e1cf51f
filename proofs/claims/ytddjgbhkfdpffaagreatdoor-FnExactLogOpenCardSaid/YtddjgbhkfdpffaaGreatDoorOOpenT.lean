/-
  What a disk's log says: the walk's own facts. Printed by gen/openlog.py.
-/
import Derived.Test.YtddjgbhkfdpffaaGreatDoorOApp
import Derived.Test.YtddjgbhkfdpffaaGreatDoorOLog
import Derived.Test.YtddjgbhkfdpffaaGreatDoorOOpenP
import Derived.Test.YtddjgbhkfdpffaaGreatDoorOOpenS
set_option linter.unusedVariables false
set_option linter.unusedSimpArgs false
namespace Go.Proofs.YtddjgbhkfdpffaaGreatDoor
open Go.ChangeShapes Go.WideShapes Go.ChangeAt Go.RowKit

theorem recs_plain (l : List LogRecord) : ∀ d ∈ l.flatMap LogRecord.cells, ∃ x, d = .v x := fun d hd => by
  obtain ⟨x, _, hx⟩ := List.mem_flatMap.1 hd
  rw [LogRecord.cells_eq] at hx
  simp only [List.mem_cons, List.not_mem_nil, or_false] at hx
  rcases hx with rfl | rfl <;> exact ⟨_, rfl⟩
theorem Ow.srcRecs {w : World} {l : List LogRecord} {A : Option Addr} {n c : Nat} {fp : List Nat} (h : Ow w (.s 2 l.length (l.flatMap LogRecord.cells)) (.slice A n c) fp) : ∃ us, OwC w (l.flatMap LogRecord.cells) us [] ∧ SrcAt w us A n c := by
  obtain ⟨us, f2, h1, h2, _⟩ := h.srcAt
  obtain rfl := OwC.plain _ (recs_plain l) h1
  exact ⟨us, h1, h2⟩
def OpenRet (d : Disk) (w : World) (e : Ending) (w' : World) : Prop :=
  ∃ us fq, e = .returned (.agg us.toArray) ∧ OwC w' d.open_.cells us fq ∧ New w' fq w.heap.size ∧ Below w.heap.size w w'
theorem stopen_no {d : Disk} (h : tb d.ok = false) : d.open_ = LogState.bad 7 := by
  unfold Disk.open_
  rw [if_neg (by rw [h]; simp)]
theorem stopen_none {d : Disk} {p : LogPlan} (h : tb d.ok = true) (hn : (p, 0) = d.newest) : d.open_ = LogState.bad 1 := by
  unfold Disk.open_
  rw [if_pos h, ← hn]
  rfl
theorem stopen_lost {d : Disk} {p : LogPlan} {k : Nat} (h : tb d.ok = true) (hn : (p, k) = d.newest) (hk : k ≠ 0) (hp : d.parts p.parts = none) : d.open_ = LogState.bad 2 := by
  unfold Disk.open_
  rw [if_pos h, ← hn]
  dsimp only
  rw [if_neg hk, hp]
theorem stopen_torn {d : Disk} {p : LogPlan} {k : Nat} {a : List LogRecord} (h : tb d.ok = true) (hn : (p, k) = d.newest) (hk : k ≠ 0) (hp : d.parts p.parts = some a) (hr : ¬ (d.lookB (segName p.open_) = true ∧ Runs p.first (frFrom (d.lookT (segName p.open_)) 0).1)) : d.open_ = LogState.bad 2 := by
  unfold Disk.open_
  rw [if_pos h, ← hn]
  dsimp only
  rw [if_neg hk, hp]
  dsimp only
  rw [if_neg (by rw [tb_false hr]; simp)]
theorem stopen_yes {d : Disk} {p : LogPlan} {k : Nat} {a : List LogRecord} (h : tb d.ok = true) (hn : (p, k) = d.newest) (hk : k ≠ 0) (hp : d.parts p.parts = some a) (hr : d.lookB (segName p.open_) = true ∧ Runs p.first (frFrom (d.lookT (segName p.open_)) 0).1) :
    d.open_ = ⟨0, k, p, (frFrom (d.lookT (segName p.open_)) 0).2, tb ((frFrom (d.lookT (segName p.open_)) 0).2 < (d.lookT (segName p.open_)).size), p.first + (frFrom (d.lookT (segName p.open_)) 0).1.length, a ++ (frFrom (d.lookT (segName p.open_)) 0).1⟩ := by
  unfold Disk.open_
  rw [if_pos h, ← hn]
  dsimp only
  rw [if_neg hk, hp]
  dsimp only
  rw [if_pos (tb_true hr)]
theorem wf0 : (Lit.int .i64 0).wf = true := by decide
theorem bad_ow (w : World) (c : Int) (hc : (Lit.int .i64 c).wf = true) : OwC w (LogState.bad c).cells [.int .i64 c, .int .i64 0, .slice none 0 0, .int .i64 0, .int .i64 0, .int .i64 0, .bool false, .int .i64 0, .slice none 0 0] [] := OwC.mLogState (x := LogState.bad c) hc wf0 (Ow.nil_ _ _ _) wf0 wf0 wf0 wf0 (Ow.nil_ _ _ _)
theorem openRet_bad {d : Disk} {w W : World} {c : Int} (h : d.open_ = LogState.bad c) (hc : (Lit.int .i64 c).wf = true) (hb : Below w.heap.size w W) : OpenRet d w (.returned (.agg ([.int .i64 c, .int .i64 0, .slice none 0 0, .int .i64 0, .int .i64 0, .int .i64 0, .bool false, .int .i64 0, .slice none 0 0] : List Value).toArray)) W := by
  unfold OpenRet
  rw [h]
  exact ⟨_, [], rfl, bad_ow _ _ hc, New.nil _ _, hb⟩
/-- the disk's box, the result's, the plan's: all below the block b -/
structure OpB (w W : World) (vd : List Value) (bp b : Nat) (vp : List Value) (p : LogPlan) (fq : List Nat) : Prop where
  box : Row W w.heap.size 38 vd
  res : Row W (w.heap.size + 1) 33 [.int .i64 0, .int .i64 0, .slice none 0 0, .int .i64 0, .int .i64 0, .int .i64 0, .bool false, .int .i64 0, .slice none 0 0]
  pl : Row W bp 30 vp
  ow : OwC W p.cells vp fq
  nw : New W fq (w.heap.size + 2)
  lt : w.heap.size + 1 < bp
  hb : bp < b
  fl : Lt fq b
  fr : Below w.heap.size w W
theorem OpB.keep {w W W' : World} {vd : List Value} {bp b : Nat} {vp : List Value} {p : LogPlan} {fq : List Nat} {r : Option Nat} (h : OpB w W vd bp b vp p fq) (hg : W.grownBy W' r) (hr : ∀ g, r = some g → b ≤ g) : OpB w W' vd bp b vp p fq := by
  have h1 := h.lt
  have h2 := h.hb
  have hno : ∀ g, r = some g → g ∉ fq := fun g e hm => by have := h.fl g hm; have := hr g e; omega
  refine ⟨h.box.grown hg (fun e => by have := hr _ e; omega), h.res.grown hg (fun e => by have := hr _ e; omega), h.pl.grown hg (fun e => by have := hr _ e; omega), h.ow.grown' hg h.nw.lt hno, h.nw.grown hg hno, h1, h2, h.fl, ?_⟩
  refine h.fr.trans ⟨hg.os, hg.tape, hg.output, hg.size, fun k hk => hg.block k (Nat.lt_of_lt_of_le hk h.fr.size) (fun e => ?_)⟩
  have := hr _ e.symm
  omega
theorem OpB.below {w W W' : World} {vd : List Value} {bp b : Nat} {vp : List Value} {p : LogPlan} {fq : List Nat} (h : OpB w W vd bp b vp p fq) (hb : Below W.heap.size W W') : OpB w W' vd bp b vp p fq := h.keep (grownBy_below hb none) (fun _ e => by cases e)
theorem OpB.drewN {w W : World} {vd : List Value} {bp b : Nat} {vp : List Value} {p : LogPlan} {fq : List Nat} (h : OpB w W vd bp b vp p fq) (n : Nat) : OpB w (W.drewN n) vd bp b vp p fq := h.below (below_drewN (Below.refl _ _) n)
theorem openRet_put {d : Disk} {w W : World} {vd : List Value} {bp b : Nat} {vp : List Value} {p : LogPlan} {fq : List Nat} {c : Int} (h : d.open_ = LogState.bad c) (hc : (Lit.int .i64 c).wf = true) (H : OpB w W vd bp b vp p fq) : OpenRet d w (.returned (.agg ([.int .i64 c, .int .i64 0, .slice none 0 0, .int .i64 0, .int .i64 0, .int .i64 0, .bool false, .int .i64 0, .slice none 0 0] : List Value).toArray)) (putN W (w.heap.size + 1) 0 [.int .i64 c, .int .i64 0, .slice none 0 0, .int .i64 0, .int .i64 0, .int .i64 0, .bool false, .int .i64 0, .slice none 0 0]) :=
  openRet_bad h hc (H.fr.trans (below_of_grown (setN_grown [.int .i64 c, .int .i64 0, .slice none 0 0, .int .i64 0, .int .i64 0, .int .i64 0, .bool false, .int .i64 0, .slice none 0 0] 0 (grown_refl W (some (w.heap.size + 1)))) (Nat.le_succ _) H.fr.size))
/-- the state that grows -/
structure StB (W : World) (b : Nat) (nm : Int) (vp : Value) (op fi sz : Int) (tn : Bool) (nx : Int) (A : Option Addr) (n c : Nat) (l : List LogRecord) (us : List Value) : Prop where
  box : Row W b 33 [.int .i64 0, .int .i64 nm, vp, .int .i64 op, .int .i64 fi, .int .i64 sz, .bool tn, .int .i64 nx, .slice A n c]
  own : OwS W (b + 1) 63 2 LogRecord.cells (.slice A n c) l us []
section
variable {W W' : World} {b : Nat} {nm : Int} {vp : Value} {op fi sz : Int} {tn : Bool} {nx : Int} {A : Option Addr} {n c : Nat} {l : List LogRecord} {us : List Value}
theorem StB.below (h : StB W b nm vp op fi sz tn nx A n c l us) (hb : Below W.heap.size W W') : StB W' b nm vp op fi sz tn nx A n c l us := ⟨h.box.below hb h.box.lt, h.own.below (C := 0) hb⟩
theorem StB.drewN (h : StB W b nm vp op fi sz tn nx A n c l us) (q : Nat) : StB (W.drewN q) b nm vp op fi sz tn nx A n c l us := h.below (below_drewN (Below.refl _ _) q)
theorem StB.len (h : StB W b nm vp op fi sz tn nx A n c l us) : n = l.length := by
  obtain ⟨A', c', e⟩ := h.own.form
  injection e
theorem StB.app {A7 : Option Addr} {n7 c7 : Nat} {us7 : List Value} {l7 : List LogRecord} (h : StB W b nm vp op fi sz tn nx A n c l us) (hgb : GB W W' (.slice A n c) (.slice A7 n7 c7))
    (hown : OwS W' (b + 1) 63 2 LogRecord.cells (.slice A7 n7 c7) l7 us7 []) : StB (W'.setCell ⟨b, 8, none⟩ (.slice A7 n7 c7)) b nm vp op fi sz tn nx A7 n7 c7 l7 us7 :=
  ⟨by simpa using (hgb.row h.box (h.own.low (Nat.lt_succ_self _))).set 8 (.slice A7 n7 c7), hown.setCell (by simp) (hown.low (Nat.lt_succ_self _)) _⟩
theorem StB.put5 (h : StB W b nm vp op fi sz tn nx A n c l us) (z : Int) : StB (W.setCell ⟨b, 5, none⟩ (.int .i64 z)) b nm vp op fi z tn nx A n c l us :=
  ⟨by simpa using h.box.set 5 (.int .i64 z), h.own.setCell (by simp) (h.own.low (Nat.lt_succ_self _)) _⟩
theorem StB.put6 (h : StB W b nm vp op fi sz tn nx A n c l us) (z : Bool) : StB (W.setCell ⟨b, 6, none⟩ (.bool z)) b nm vp op fi sz z nx A n c l us :=
  ⟨by simpa using h.box.set 6 (.bool z), h.own.setCell (by simp) (h.own.low (Nat.lt_succ_self _)) _⟩
theorem StB.put7 (h : StB W b nm vp op fi sz tn nx A n c l us) (z : Int) : StB (W.setCell ⟨b, 7, none⟩ (.int .i64 z)) b nm vp op fi sz tn z A n c l us :=
  ⟨by simpa using h.box.set 7 (.int .i64 z), h.own.setCell (by simp) (h.own.low (Nat.lt_succ_self _)) _⟩
theorem grown_set (W : World) (b i : Nat) (u : Value) : W.grownBy (W.setCell ⟨b, i, none⟩ u) (some b) := grownBy_setCell W ⟨b, i, none⟩ u
/-- the state as it is handed back -/
theorem openRet_yes {d : Disk} {w : World} {vd : List Value} {bp : Nat} {A1 : Option Addr} {c1 : Nat} {p : LogPlan} {fq : List Nat} {k : Nat} (HO : OpB w W vd bp b [.slice A1 p.parts.length c1, .int .i64 p.open_, .int .i64 p.first] p fq) (HS : StB W b k (.slice A1 p.parts.length c1) p.open_ p.first sz tn nx A n c l us)
    (h : d.open_ = ⟨0, k, p, sz, tn, nx, l⟩) (wk : (Lit.int .i64 (k : Int)).wf = true) (ws : (Lit.int .i64 sz).wf = true) (wn : (Lit.int .i64 nx).wf = true) :
    OpenRet d w (.returned (.agg ([.int .i64 0, .int .i64 (k : Int), .slice A1 p.parts.length c1, .int .i64 p.open_, .int .i64 p.first, .int .i64 sz, .bool tn, .int .i64 nx, .slice A n c] : List Value).toArray)) (putN W (w.heap.size + 1) 0 [.int .i64 0, .int .i64 (k : Int), .slice A1 p.parts.length c1, .int .i64 p.open_, .int .i64 p.first, .int .i64 sz, .bool tn, .int .i64 nx, .slice A n c]) := by
  have hgr := setN_grown [.int .i64 0, .int .i64 (k : Int), .slice A1 p.parts.length c1, .int .i64 p.open_, .int .i64 p.first, .int .i64 sz, .bool tn, .int .i64 nx, .slice A n c] 0 (grown_refl W (some (w.heap.size + 1)))
  have h1 := HO.lt
  have h2 := HO.hb
  obtain ⟨A2, c2, f2, e, o1, w1, w2, rfl⟩ := HO.ow.oLogPlan
  simp only [List.cons.injEq, Value.slice.injEq, true_and, and_true] at e
  obtain ⟨rfl, rfl⟩ := e
  obtain ⟨fr, o2, n2⟩ := HS.own.toOw
  obtain rfl := HS.len
  have hno1 : w.heap.size + 1 ∉ fq := HO.nw.out (Nat.lt_succ_self _)
  have hno2 : w.heap.size + 1 ∉ fr := n2.out (by omega)
  unfold OpenRet
  rw [h]
  refine ⟨_, fq ++ fr, rfl, ?_, ?_, HO.fr.trans (below_of_grown hgr (Nat.le_succ _) HO.fr.size)⟩
  · exact OwC.mLogState (x := ⟨0, k, p, sz, tn, nx, l⟩) wf0 wk (o1.grown hgr HO.nw.lt hno1) w1 w2 ws wn (o2.grown hgr n2.lt hno2)
  · refine New.app ((HO.nw.grown hgr (fun g e => by injection e with e; subst e; exact hno1)).mono (by omega)) (n2.grown hgr (fun g e => by injection e with e; subst e; exact hno2)) (HO.fl.mono (Nat.le_succ _)) (by omega)
end
theorem parts_one {d : Disk} {ps : List LogPart} {j : Nat} {a l : List LogRecord} (h : d.parts (ps.take j) = some a) (hj : j < ps.length) (hp : d.part ps[j] = some l) : d.parts (ps.take (j + 1)) = some (a ++ l) := by
  rw [d.parts_succ ps j hj, h]
  unfold Disk.addPart
  rw [hp]
theorem parts_lost {d : Disk} {ps : List LogPart} {j : Nat} {a : List LogRecord} (h : d.parts (ps.take j) = some a) (hj : j < ps.length) (hp : d.part ps[j] = none) : d.parts ps = none := by
  apply d.parts_none ps (j + 1)
  rw [d.parts_succ ps j hj, h]
  unfold Disk.addPart
  rw [hp]
theorem partRet_none {d : Disk} {p : LogPart} {w w' : World} {e : Ending} (hp : d.part p = none) (h : PartRet d p w e w') : ∃ v, e = .returned (.tuple #[v, .bool false]) ∧ Below w.heap.size w w' := by
  unfold PartRet at h
  rw [hp] at h
  obtain ⟨⟨v, hv⟩, hb⟩ := h
  exact ⟨v, hv, hb⟩
theorem partRet_some {d : Disk} {p : LogPart} {l : List LogRecord} {w w' : World} {e : Ending} (hp : d.part p = some l) (h : PartRet d p w e w') : ∃ A n c fq, e = .returned (.tuple #[.slice A n c, .bool true]) ∧ Ow w' (.s 2 l.length (l.flatMap LogRecord.cells)) (.slice A n c) fq ∧ New w' fq w.heap.size ∧ Below w.heap.size w w' := by
  unfold PartRet at h
  rw [hp] at h
  obtain ⟨⟨v, fq, hv, ho, hn⟩, hb⟩ := h
  obtain ⟨A, c, rfl, _⟩ := ho.slice
  exact ⟨A, _, c, fq, hv, ho, hn, hb⟩
theorem newestOf_le (d : Disk) : ∀ (l : List ByteArray) (p : LogPlan) (n : Nat), n ≤ 999999 → (newestOf d l p n).2 ≤ 999999
  | [], p, n, h => h
  | s :: r, p, n, h => by
    unfold newestOf
    split
    · exact newestOf_le d r _ _ (fileNum_le _ _)
    · exact newestOf_le d r p n h
theorem newest_le (d : Disk) : d.newest.2 ≤ 999999 := newestOf_le d d.shown LogPlan.zero 0 (by decide)
theorem runs_step {lo : Int} {l : List LogRecord} {j : Nat} (h : ∀ i (hi' : i < l.length), i < j → l[i].pos = lo + i) (hj : j < l.length) (h1 : l[j].pos = lo + j) : ∀ i (hi' : i < l.length), i < j + 1 → l[i].pos = lo + i := fun i hi' hij => by
  by_cases e : i = j
  · subst e
    exact h1
  · exact h i hi' (by omega)
theorem tb_decide {P Q : Prop} [Decidable Q] (h : P ↔ Q) : tb P = decide Q := by
  by_cases q : Q
  · rw [tb_true (h.2 q), decide_eq_true q]
  · rw [tb_false (fun p => q (h.1 p)), decide_eq_false q]
theorem parts_bd {d : Disk} {p : LogPlan} (hp : p.ok) {j : Nat} (hj : j < p.parts.length) {l : List LogRecord} (h : d.part p.parts[j] = some l) : l.length ≤ 4000 := (Disk.part_len h (p.sane hp j hj).2.2.2.2).1
end Go.Proofs.YtddjgbhkfdpffaaGreatDoor
