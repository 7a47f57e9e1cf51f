/-
  The beginning of a crew: plain definitions, and what it reads as.
-/
import Derived.Laws.Tables
import Derived.Test.YtpkjjfnfolbcoaaQTwo
import Derived.Test.YtpkjjfnfolbcoaaQDCrewWorld
import Derived.Test.YtpkjjfnfolbcoaaQRead
set_option linter.unusedVariables false
set_option linter.unusedSimpArgs false
namespace Go.Proofs.Ytpkjjfnfolbcoaa
open Go.ChangeShapes Go.WideShapes Go.ChangeAt Go.RowKit

def crewOk (a b c : Int) : Prop := (0 ≤ a ∧ a ≤ 60) ∧ (1 ≤ b ∧ b ≤ 8) ∧ (1 ≤ c ∧ c ≤ 16)
def crewAt (a b c : Int) : CrewWorld := ⟨a, b, c, 0, 0, [], List.replicate b.toNat ⟨0, 0⟩, 0, [], 0, List.replicate c.toNat (-1), 0, [], 0, [], c, [0, 0, 0, 0], 0⟩
def CrewWorld.none_ : CrewWorld := ⟨0, 0, 0, 0, 0, [], [], 0, [], 0, [], 0, [], 0, [], 0, [], 0⟩
noncomputable def startOf (a b c : Int) : CrewWorld := if tb (crewOk a b c) = true then crewAt a b c else CrewWorld.none_
theorem startOf_yes {a b c : Int} (h : crewOk a b c) : startOf a b c = crewAt a b c := by unfold startOf; rw [if_pos (tb_true h)]
theorem startOf_no {a b c : Int} (h : ¬ crewOk a b c) : startOf a b c = CrewWorld.none_ := by unfold startOf; rw [if_neg (by rw [tb_false h]; simp)]
def startCells (a b c : Int) (vH vR : Value) (g : Nat) : List Value :=
  [.int .i64 a, .int .i64 b, .int .i64 c, .int .i64 0, .int .i64 0, .slice none 0 0, vH, .int .i64 0, .slice none 0 0, .int .i64 0, vR, .int .i64 0, .slice none 0 0, .int .i64 0, .slice none 0 0, .int .i64 c, .slice (some ⟨g, 0, none⟩) 4 4, .int .i64 0]
def zeroCells : List Value := [.int .i64 0, .int .i64 0, .int .i64 0, .int .i64 0, .int .i64 0, .slice none 0 0, .slice none 0 0, .int .i64 0, .slice none 0 0, .int .i64 0, .slice none 0 0, .int .i64 0, .slice none 0 0, .int .i64 0, .slice none 0 0, .int .i64 0, .slice none 0 0, .int .i64 0]
def StartRet (a b c : Int) (w : World) (e : Ending) (w' : World) : Prop :=
  ∃ us fq, e = .returned (.tuple #[.agg us.toArray, .bool (tb (crewOk a b c))]) ∧ OwC w' (startOf a b c).cells us fq ∧ New w' fq w.heap.size ∧ Below w.heap.size w w'
theorem wf0 : (Lit.int .i64 0).wf = true := by decide
/-- a row that is known whole, as a slice of plain elements -/
theorem Ow.ofRow {α : Type} {w : World} {g : Nat} {e : TypeId} {us : List Value} {f : α → List D} {k : Nat} {l : List α} {c : Nat} (hr : Row w g e us) (hk : ∀ x, (f x).length = k) (hc : OwC w (l.flatMap f) us []) (h0 : 0 < l.length) (h1 : l.length ≤ c) (h2 : c ≤ maxLen) :
    Ow w (.s k l.length (l.flatMap f)) (.slice (some ⟨g, 0, none⟩) l.length c) [g] := by
  unfold Ow
  refine ⟨flat_len f k hk l, _, c, rfl, h1, h2, .inr ⟨h0, g, 0, [], rfl, ?_, rfl⟩⟩
  refine OwC.row _ hc (fun j u hj => ?_)
  rw [Nat.zero_add, hr.cell]
  exact hj
theorem ints_row (w : World) : ∀ (l : List Int), (∀ z ∈ l, (Lit.int .i64 z).wf = true) → OwC w (l.flatMap intC) (l.map fun z => .int .i64 z) []
  | [], _ => by simp [OwC]
  | z :: l, h => ⟨[], [], ⟨rfl, h z (by simp), rfl⟩, ints_row w l (fun y hy => h y (by simp [hy])), rfl⟩
theorem hands_row (w : World) (m : Nat) : OwC w ((List.replicate m (⟨0, 0⟩ : CrewHand)).flatMap CrewHand.cells) (List.replicate (m * 2) (.int .i64 0)) [] := by
  induction m with
  | zero => simp [OwC]
  | succ m ih =>
    have h := OwC.append (OwC.mCrewHand (w := w) (x := ⟨0, 0⟩) wf0 wf0) ih
    rw [List.replicate_succ, List.flatMap_cons, show (m + 1) * 2 = m * 2 + 1 + 1 by omega, List.replicate_succ, List.replicate_succ]
    exact h
theorem none_ow (W : World) : OwC W CrewWorld.none_.cells zeroCells [] :=
  OwC.mCrewWorld (x := CrewWorld.none_) (v1 := .slice none 0 0) (v2 := .slice none 0 0) (v3 := .slice none 0 0) (v4 := .slice none 0 0) (v5 := .slice none 0 0) (v6 := .slice none 0 0) (v7 := .slice none 0 0) (f1 := []) (f2 := []) (f3 := []) (f4 := []) (f5 := []) (f6 := []) (f7 := []) wf0 wf0 wf0 wf0 wf0 (Ow.nil_ W 1 intC) (Ow.nil_ W 2 CrewHand.cells) wf0 (Ow.nil_ W 1 intC) wf0 (Ow.nil_ W 1 intC) wf0 (Ow.nil_ W 1 intC) wf0 (Ow.nil_ W 1 intC) wf0 (Ow.nil_ W 1 intC) wf0
theorem Row.setRow' {w : World} {g : Nat} {e : TypeId} {cs : List Value} (h : Row w g e cs) (vs : List Value) : Row (w.setRow g vs.toArray) g e vs := setRow_heap w g cs.toArray vs.toArray e (0, 0) h
theorem startCells_one (a b c : Int) (A1 : Option Addr) (n1 c1 : Nat) (A2 : Option Addr) (n2 c2 g : Nat) : (startCells a b c (.slice A1 n1 c1) (.slice A2 n2 c2) g).toArray.all (·.oneCell') = true := by simp [startCells, Value.oneCell']
theorem startCells_size (a b c : Int) (v1 v2 : Value) (g : Nat) : zeroCells.toArray.size = (startCells a b c v1 v2 g).toArray.size := rfl
theorem setRow_grown {w0 w : World} {g : Nat} (h : w0.grownBy w (some g)) (cs : Array Value) : w0.grownBy (w.setRow g cs) (some g) :=
  ⟨h.os, h.tape, h.output, by rw [size_setRow]; exact h.size, fun k hk hn => (setRow_other w g k cs (fun e => hn (congrArg some e))).trans (h.block k hk hn)⟩
/-- the parts of a start make it up -/
theorem start_ow {a b c : Int} (h : crewOk a b c) {W : World} {vH vR : Value} {gS : Nat} {pH pR : List Nat} (hH : Ow W (.s 2 (List.replicate b.toNat (⟨0, 0⟩ : CrewHand)).length ((List.replicate b.toNat (⟨0, 0⟩ : CrewHand)).flatMap CrewHand.cells)) vH pH)
    (hR : Ow W (.s 1 (List.replicate c.toNat (-1 : Int)).length ((List.replicate c.toNat (-1 : Int)).flatMap intC)) vR pR) {e : TypeId} (hS : Row W gS e [.int .i64 0, .int .i64 0, .int .i64 0, .int .i64 0]) :
    OwC W (startOf a b c).cells (startCells a b c vH vR gS) (pH ++ (pR ++ [gS])) := by
  rw [startOf_yes h]
  obtain ⟨h1, h2, h3⟩ := h
  have hs : Ow W (.s 1 ([0, 0, 0, 0] : List Int).length (([0, 0, 0, 0] : List Int).flatMap intC)) (.slice (some ⟨gS, 0, none⟩) 4 4) [gS] :=
    Ow.ofRow (l := [0, 0, 0, 0]) (c := 4) hS intC_len (ints_row W [0, 0, 0, 0] (by intro z hz; simp at hz; subst hz; exact wf0)) (by simp) (by simp) (by simp [maxLen])
  exact OwC.mCrewWorld (x := crewAt a b c) (v1 := .slice none 0 0) (v2 := vH) (v3 := .slice none 0 0) (v4 := vR) (v5 := .slice none 0 0) (v6 := .slice none 0 0) (f1 := []) (f2 := pH) (f3 := []) (f4 := pR) (f5 := []) (f6 := []) (f7 := [gS])
    (show (Lit.int .i64 a).wf = true from WalkArith.wf_i64 (by omega)) (show (Lit.int .i64 b).wf = true from WalkArith.wf_i64 (by omega)) (show (Lit.int .i64 c).wf = true from WalkArith.wf_i64 (by omega)) wf0 wf0 (Ow.nil_ W 1 intC) hH wf0 (Ow.nil_ W 1 intC) wf0 hR wf0 (Ow.nil_ W 1 intC) wf0 (Ow.nil_ W 1 intC) (show (Lit.int .i64 c).wf = true from WalkArith.wf_i64 (by omega)) hs wf0
theorem below_setRow7 {w W : World} {g : Nat} (h : Below w.heap.size w W) (hg : w.heap.size ≤ g) (cs : Array Value) : Below w.heap.size w (W.setRow g cs) :=
  h.trans (below_of_grown (setRow_grown (grown_refl W (some g)) cs) hg h.size)
end Go.Proofs.Ytpkjjfnfolbcoaa
