/-
  What both sides of LogPlanRead hand back; a plan in a box of its own that grows.
-/
import Derived.Test.YtknlnndocamcmaaDoorPlRS1
import Derived.Test.YtknlnndocamcmaaDoorHLogPlan
set_option linter.unusedVariables false
set_option linter.unusedSimpArgs false
namespace Go.Proofs.YtknlnndocamcmaaDoor
open Go.ChangeShapes Go.WideShapes Go.ChangeAt Go.RowKit

def PlanRet (s : ByteArray) (w : World) (e : Ending) (w' : World) : Prop :=
  ∃ us fq, e = .returned (.tuple #[.agg us.toArray, .bool (readPB s)]) ∧ OwC w' (readP s).cells us fq ∧ New w' fq w.heap.size ∧ Below w.heap.size w w'
theorem pr_none {s : ByteArray} {w W : World} (h : readP s = LogPlan.zero ∧ readPB s = false) (hg : Below w.heap.size w W) : PlanRet s w (.returned (.tuple #[.agg ([.slice none 0 0, .int .i64 0, .int .i64 0] : List Value).toArray, .bool false])) W := by
  unfold PlanRet
  rw [h.1, h.2]
  exact ⟨_, [], rfl, OwC.mLogPlan (x := LogPlan.zero) (Ow.nil_ _ _ _) (by decide) (by decide), New.nil _ _, hg⟩
theorem pr_some {s : ByteArray} {w W : World} {q : LogPlan} {us : List Value} {fq : List Nat} (h : readP s = q ∧ readPB s = true) (ho : OwC W q.cells us fq) (hn : New W fq w.heap.size) (hg : Below w.heap.size w W) : PlanRet s w (.returned (.tuple #[.agg us.toArray, .bool true])) W := by
  unfold PlanRet
  rw [h.1, h.2]
  exact ⟨us, fq, rfl, ho, hn, hg⟩
theorem eqL {a b : ByteArray} (h : a = b) : a.toList = b.toList ∧ (a.toList == b.toList) = true := by
  subst h
  exact ⟨rfl, by simp⟩
theorem neL {a b : ByteArray} (h : ¬ a = b) : ¬ (a.toList = b.toList) ∧ (a.toList == b.toList) = false := by
  have h1 : ¬ (a.toList = b.toList) := fun e => h (bytes_inj (by rw [Lib.toList_data, Lib.toList_data] at e; exact e))
  exact ⟨h1, by simpa using h1⟩
theorem info_part : (Tryd.prog.info? 35).map (fun i => (i.zero, i.size, i.bytes)) = some (some (.agg #[.int .i64 0, .int .i64 0, .int .i64 0, .int .i64 0]), 4, 32) := by kernel_rfl
def partRow (x : LogPart) : List Value := [.int .i64 x.num, .int .i64 x.first, .int .i64 x.next, .int .i64 x.size]
theorem part_src (x : LogPart) (w0 : (Lit.int .i64 x.num).wf = true) (w1 : (Lit.int .i64 x.first).wf = true) (w2 : (Lit.int .i64 x.next).wf = true) (w3 : (Lit.int .i64 x.size).wf = true) (w : World) : OwC w ([x].flatMap LogPart.cells) (partRow x) [] := by
  have h : OwC w x.cells (partRow x) [] := OwC.mLogPart w0 w1 w2 w3
  simpa using h
/-- a slice of numbers of one's own: where they lie -/
theorem ints_cells {w : World} {B : Nat} {e : TypeId} {l : List Int} {us : List Value} {A : Option Addr} {n c : Nat} (h : OwS w B e 1 intC (.slice A n c) l us []) (h0 : 0 < l.length) :
    ∃ g, A = some ⟨g, 0, none⟩ ∧ n = l.length ∧ l.length ≤ c ∧ B ≤ g ∧ g < w.heap.size ∧ ∀ (j : Nat) x, l[j]? = some x → w.cell? ⟨g, j, none⟩ = some (.int .i64 x) := by
  obtain ⟨fp, ho, _⟩ := h.toOw
  obtain ⟨A', c', e0⟩ := h.form
  injection e0 with e1 e2 e3
  subst e1 e2 e3
  obtain ⟨_, hc, _⟩ := ho.nlen
  rcases h.own.2 with ⟨ev, _⟩ | ⟨g, cap, cur, ev, hB, hg, _⟩
  · simp only [Value.slice.injEq] at ev
    omega
  · simp only [Value.slice.injEq] at ev
    obtain ⟨rfl, -, rfl⟩ := ev
    refine ⟨g, rfl, rfl, hc, hB, Row.lt (w := w) (g := g) (e := e) (cs := cur.toList) (by simpa [Row] using hg), fun j x hj => ?_⟩
    have hjl : j < l.length := (List.getElem?_eq_some_iff.1 hj).1
    obtain ⟨g', off, ew, _, hcell, _⟩ := ints_at ho hjl
    simp only [Option.some.injEq, Addr.mk.injEq] at ew
    obtain ⟨rfl, rfl, -⟩ := ew
    have e2 : l[j]? = some l[j] := List.getElem?_eq_getElem hjl
    rw [e2] at hj
    injection hj with hj
    rw [← hj]
    simpa using hcell
theorem four_of {l : List Int} (h : l.length = 4) : l = [l.getD 0 0, l.getD 1 0, l.getD 2 0, l.getD 3 0] := by
  match l, h with
  | [a, b, c, d], _ => rfl
theorem two_of {l : List Int} (h : l.length = 2) : l = [l.getD 0 0, l.getD 1 0] := by
  match l, h with
  | [a, b], _ => rfl
theorem wf_small (z : Int) (h : 0 ≤ z ∧ z ≤ 9999999) : (Lit.int .i64 z).wf = true := WalkArith.wf_i64 (by omega)
theorem mem_getD (l : List Int) (i : Nat) (h : ∀ z ∈ l, 0 ≤ z ∧ z ≤ 9999999) : 0 ≤ l.getD i 0 ∧ l.getD i 0 ≤ 9999999 := by
  rw [List.getD_eq_getElem?_getD]
  cases hq : l[i]? with
  | none => decide
  | some z => exact h z (List.mem_of_getElem? hq)
/-- a plan in the box b, its parts in a slice of its own from B on -/
structure PBox (w : World) (b B : Nat) (ps : List LogPart) (op fi : Int) (A : Option Addr) (n c : Nat) (us : List Value) : Prop where
  box : Row w b 24 [.slice A n c, .int .i64 op, .int .i64 fi]
  own : OwS w B 35 4 LogPart.cells (.slice A n c) ps us []
  lt : b < B
theorem PBox.below {w w' : World} {b B : Nat} {ps : List LogPart} {op fi : Int} {A : Option Addr} {n c : Nat} {us : List Value} (h : PBox w b B ps op fi A n c us) (hb : Below w.heap.size w w') : PBox w' b B ps op fi A n c us :=
  ⟨h.box.below hb h.box.lt, h.own.below (C := 0) hb, h.lt⟩
theorem PBox.len {w : World} {b B : Nat} {ps : List LogPart} {op fi : Int} {A : Option Addr} {n c : Nat} {us : List Value} (h : PBox w b B ps op fi A n c us) : n = ps.length := by
  obtain ⟨A', c', e⟩ := h.own.form
  injection e
/-- what it reads as -/
theorem PBox.ow {w : World} {b B : Nat} {ps : List LogPart} {op fi : Int} {A : Option Addr} {n c : Nat} {us : List Value} (h : PBox w b B ps op fi A n c us) (h0 : (Lit.int .i64 op).wf = true) (h1 : (Lit.int .i64 fi).wf = true) :
    ∃ fq, OwC w (⟨ps, op, fi⟩ : LogPlan).cells [.slice A n c, .int .i64 op, .int .i64 fi] fq ∧ New w fq B := by
  obtain ⟨fq, ho, hn⟩ := h.own.toOw
  obtain ⟨A', c', e⟩ := h.own.form
  injection e with e1 e2 e3
  subst e1 e2 e3
  exact ⟨fq, OwC.mLogPlan (x := ⟨ps, op, fi⟩) ho h0 h1, hn⟩
theorem PBox.put {w : World} {b B : Nat} {ps : List LogPart} {op fi : Int} {A : Option Addr} {n c : Nat} {us : List Value} (h : PBox w b B ps op fi A n c us) (x y : Int) :
    PBox ((w.setCell ⟨b, 1, none⟩ (.int .i64 x)).setCell ⟨b, 2, none⟩ (.int .i64 y)) b B ps x y A n c us :=
  ⟨by simpa using (h.box.set 1 (.int .i64 x)).set 2 (.int .i64 y), (h.own.setCell (by simp) (h.own.low h.lt) _).setCell (by simp) (h.own.low h.lt) _, h.lt⟩
theorem PBox.app {w w7 : World} {b B : Nat} {ps : List LogPart} {op fi : Int} {A A7 : Option Addr} {n c n7 c7 : Nat} {us us7 : List Value} {x : LogPart} {o : Obj} (h : PBox w b B ps op fi A n c us) (hgb : GB (w.alloc o) w7 (.slice A n c) (.slice A7 n7 c7))
    (hown : OwS w7 B 35 4 LogPart.cells (.slice A7 n7 c7) (ps ++ [x]) us7 []) : PBox (w7.setCell ⟨b, 0, none⟩ (.slice A7 n7 c7)) b B (ps ++ [x]) op fi A7 n7 c7 us7 :=
  ⟨by simpa using (hgb.row (h.box.alloc o) (h.own.low h.lt)).set 0 (.slice A7 n7 c7), hown.setCell (by simp) (hown.low h.lt) _, h.lt⟩
theorem cell_set {w : World} {g i b j : Nat} {u v : Value} (h : w.cell? ⟨g, i, none⟩ = some v) (hg : g ≠ b) : (w.setCell ⟨b, j, none⟩ u).cell? ⟨g, i, none⟩ = some v := (World.cell?_of_block (a := ⟨g, i, none⟩) (Below.heap_setCell w ⟨b, j, none⟩ u g hg)).trans h
theorem cell_gb {w w1 : World} {v v1 x : Value} {g i : Nat} (h : GB w w1 v v1) (hc : w.cell? ⟨g, i, none⟩ = some x) (hn : v.ownBlock ≠ some g) : w1.cell? ⟨g, i, none⟩ = some x := (World.cell?_of_block (a := ⟨g, i, none⟩) (h.grown.block g (cell_lt hc) hn.symm)).trans hc
theorem below_put {w0 w : World} {b B : Nat} (h : Below B w0 w) (hb : B ≤ b) (u v : Value) : Below B w0 ((w.setCell ⟨b, 1, none⟩ u).setCell ⟨b, 2, none⟩ v) := (h.setCell (p := ⟨b, 1, none⟩) hb u).setCell (p := ⟨b, 2, none⟩) hb v
end Go.Proofs.YtknlnndocamcmaaDoor
