/-
  Readers of trees: what both sides share.
-/
import Derived.Test.YtbjblchhenmgjaaRdrI
set_option linter.unusedVariables false
set_option linter.unusedSimpArgs false
namespace Go.Proofs.Ytbjblchhenmgjaa
open Go.ChangeShapes Go.WideShapes Go.ChangeAt Go.RowKit

theorem only_low {a w w' : World} {row : Option Nat} {B : Nat} (h : a.grownBy w row) (hb : Below B w w') (hB : a.heap.size ≤ B) : a.grownBy w' row :=
  ⟨hb.os.trans h.os, hb.tape.trans h.tape, hb.output.trans h.output, Nat.le_trans h.size hb.size, fun i hi hr => (hb.block i (Nat.lt_of_lt_of_le hi hB)).trans (h.block i hi hr)⟩
section
variable {α β : Type} {w w1 : World} {b B : Nat} {T : TypeId} {mk : Value → Value → List Value} {e1 : TypeId} {k1 : Nat} {f1 : α → List D} {v1 : Value} {l1 : List α} {us1 : List Value} {fi1 : List Nat}
    {e2 : TypeId} {k2 : Nat} {f2 : β → List D} {v2 : Value} {l2 : List β} {us2 : List Value} {fi2 : List Nat}
theorem Two.far (h : Two w b B T mk e1 k1 f1 v1 l1 us1 fi1 e2 k2 f2 v2 l2 us2 fi2) {g : Nat} (hg : w.grownBy w1 (some g)) (hgb : g < b) : Two w1 b B T mk e1 k1 f1 v1 l1 us1 fi1 e2 k2 f2 v2 l2 us2 fi2 :=
  ⟨h.box.grown hg (fun e => by injection e with e; omega), h.one.kept hg (fun x e => by injection e with e; subst e; exact ⟨h.one.nlow (by have := h.hb; omega), h.one.low (by have := h.hb; omega)⟩),
    h.two.kept hg (fun x e => by injection e with e; subst e; exact ⟨h.two.nlow (by have := h.hb; omega), h.two.low (by have := h.hb; omega)⟩), h.hb, h.dis, h.o12, h.o21, h.ff⟩
end
theorem RdS.low {w w' : World} {g : Nat} {L l : List UInt8} {bad : Bool} {B : Nat} (h : RdS w g L l bad) (hb : Below B w w') (hB : g < B) : RdS w' g L l bad := by
  obtain ⟨A, c, n, fp, hr, ho, hfp, hn, hL, hl⟩ := h
  exact ⟨A, c, n, fp, hr.below hb hB, ho.below hb (hfp.mono (Nat.le_of_lt hB)), hfp, hn, hL, hl⟩
theorem RdI.low {w w' : World} {g : Nat} {L l : List UInt8} {bad : Bool} {B : Nat} (h : RdI w g L l bad) (hb : Below B w w') (hB : g < B) : RdI w' g L l bad := by
  obtain ⟨A, c, fp, hr, ho, hfp, hL⟩ := h
  exact ⟨A, c, fp, hr.below hb hB, ho.below hb (hfp.mono (Nat.le_of_lt hB)), hfp, hL⟩
theorem RdS.drewN {w : World} {g : Nat} {L l : List UInt8} {bad : Bool} (h : RdS w g L l bad) (n : Nat) : RdS (w.drewN n) g L l bad := h.below ⟨rfl, rfl, rfl, Nat.le_refl _, fun _ _ => rfl⟩
theorem RdI.drewN {w : World} {g : Nat} {L l : List UInt8} {bad : Bool} (h : RdI w g L l bad) (n : Nat) : RdI (w.drewN n) g L l bad := h.below ⟨rfl, rfl, rfl, Nat.le_refl _, fun _ _ => rfl⟩
theorem RdS.bad {w : World} {g : Nat} {L l : List UInt8} {bad : Bool} (h : RdS w g L l bad) : w.cell? ⟨g, 2, none⟩ = some (.bool bad) ∧ w.frozen? ⟨g, 2, none⟩ = false := by
  obtain ⟨A, c, n, fp, hr, _⟩ := h
  exact ⟨hr.cell 2, hr.frozen 2⟩
theorem RdI.bad {w : World} {g : Nat} {L l : List UInt8} {bad : Bool} (h : RdI w g L l bad) : w.cell? ⟨g, 1, none⟩ = some (.bool bad) ∧ w.frozen? ⟨g, 1, none⟩ = false := by
  obtain ⟨A, c, fp, hr, _⟩ := h
  exact ⟨hr.cell 1, hr.frozen 1⟩
theorem RdS.setBad {w : World} {g : Nat} {L l : List UInt8} {bad : Bool} (h : RdS w g L l bad) (b : Bool) : RdS (w.setCell ⟨g, 2, none⟩ (.bool b)) g L l b := by
  obtain ⟨A, c, n, fp, hr, ho, hfp, hn, hL, hl⟩ := h
  have hg := only_setCell (p := ⟨g, 2, none⟩) (grown_refl w (some g)) (.inl rfl) (.bool b)
  exact ⟨A, c, n, fp, hr.set 2 _, ho.below (below_of_grown hg (Nat.le_refl g) (Nat.le_of_lt hr.lt)) hfp, hfp, hn, hL, hl⟩
theorem RdI.setBad {w : World} {g : Nat} {L l : List UInt8} {bad : Bool} (h : RdI w g L l bad) (b : Bool) : RdI (w.setCell ⟨g, 1, none⟩ (.bool b)) g L l b := by
  obtain ⟨A, c, fp, hr, ho, hfp, hL⟩ := h
  have hg := only_setCell (p := ⟨g, 1, none⟩) (grown_refl w (some g)) (.inl rfl) (.bool b)
  exact ⟨A, c, fp, hr.set 1 _, ho.below (below_of_grown hg (Nat.le_refl g) (Nat.le_of_lt hr.lt)) hfp, hfp, hL⟩

/-! ### What is read, by the first byte -/
theorem pOne_none {l : List UInt8} (h : pOne l = none) : l = [] := by
  cases l with
  | nil => rfl
  | cons x r => simp [pOne] at h
theorem pTree_nil (strict : Bool) (f : Nat) : pTree strict f [] = none := by cases f <;> rfl
theorem pTree_one {strict : Bool} {f y : Nat} {l r : List UInt8} (h : pOne l = some ((y : Int), r)) : pTree strict (f + 1) l =
    if y = 1 then (pNum strict r).map (fun p => (.mk 1 p.1 .empty [] [], p.2)) else if y = 2 then (pShort r).map (fun p => (.mk 2 0 p.1 [] [], p.2)) else if y = 3 then (pOne r).map (fun p => (.mk 3 p.1 .empty [] [], p.2))
    else pMany (pTree strict f) y r := by
  cases l with
  | nil => simp [pOne] at h
  | cons s l =>
    simp only [pOne, Option.some.injEq, Prod.mk.injEq] at h
    obtain ⟨h1, rfl⟩ := h
    have h1 : s.toNat = y := by omega
    simp only [pTree, h1]
theorem okr_map {α β : Type} {bad bad' : Bool} {p : Option (α × List UInt8)} {v : α} {l' : List UInt8} (f : α → β) (h : Okr bad bad' p v l') : Okr bad bad' (p.map (fun q => (f q.1, q.2))) (f v) l' :=
  ⟨fun hb => ⟨(h.1 hb).1, by rw [(h.1 hb).2]; rfl⟩, fun hb => (h.2 hb).imp id (fun e => by rw [e]; rfl)⟩
def kidsMk (y : Nat) (p : List ByteArray × List Tree × List UInt8) : Tree × List UInt8 := (.mk (y : Int) 0 .empty p.1 p.2.1, p.2.2)
/-- so far the kids are read -/
def KidsAt (rd : List UInt8 → Option (Tree × List UInt8)) (y : Nat) (l0 : List UInt8) (b : Bool) (n : Nat) (ns : List ByteArray) (ks : List Tree) (l : List UInt8) : Prop :=
  (b = false → pMany rd y l0 = (pKids rd (y == 5) n ns ks l).map (kidsMk y)) ∧ (b = true → pMany rd y l0 = none)
theorem KidsAt.start {rd : List UInt8 → Option (Tree × List UInt8)} {y n : Nat} {l0 l : List UInt8} {b : Bool} (h : Okr false b (pOne l0) (n : Int) l) : KidsAt rd y l0 b n [] [] l := by
  refine ⟨fun hb => ?_, fun hb => ?_⟩
  · have e := (h.1 hb).2
    cases l0 with
    | nil => simp [pOne] at e
    | cons x r =>
      simp only [pOne, Option.some.injEq, Prod.mk.injEq] at e
      obtain ⟨h1, rfl⟩ := e
      have h1 : x.toNat = n := by omega
      simp only [pMany, h1]
      rfl
  · rcases h.2 hb with e | e
    · cases e
    · rw [pOne_none e]
      rfl
theorem KidsAt.form {rd : List UInt8 → Option (Tree × List UInt8)} {y n : Nat} (hy : y = 5) {l0 l l3 l4 : List UInt8} {ns : List ByteArray} {ks : List Tree} {s : ByteArray} {t : Tree} {b3 b4 : Bool} (h : KidsAt rd y l0 false (n + 1) ns ks l)
    (h1 : Okr false b3 (pShort l) s l3) (h2 : Okr b3 b4 (rd l3) t l4) : KidsAt rd y l0 b4 n (ns ++ [s]) (ks ++ [t]) l4 := by
  subst hy
  have hm := h.1 rfl
  have e5 : ((5 : Nat) == 5) = true := rfl
  refine ⟨fun hb => ?_, fun hb => ?_⟩
  · obtain ⟨e1, e2⟩ := h2.1 hb
    obtain ⟨_, e4⟩ := h1.1 e1
    rw [hm, e5]
    simp only [pKids, if_true, e4, e2]
  · rw [hm, e5]
    rcases h2.2 hb with e | e
    · rcases h1.2 e with e' | e'
      · cases e'
      · simp only [pKids, if_true, e']
        rfl
    · rcases hb3 : b3 with _ | _
      · obtain ⟨_, e4⟩ := h1.1 hb3
        simp only [pKids, if_true, e4, e]
        rfl
      · rcases h1.2 hb3 with e' | e'
        · cases e'
        · simp only [pKids, if_true, e']
          rfl
theorem KidsAt.bare {rd : List UInt8 → Option (Tree × List UInt8)} {y n : Nat} (hy : y ≠ 5) {l0 l l4 : List UInt8} {ns : List ByteArray} {ks : List Tree} {t : Tree} {b4 : Bool} (h : KidsAt rd y l0 false (n + 1) ns ks l)
    (h2 : Okr false b4 (rd l) t l4) : KidsAt rd y l0 b4 n ns (ks ++ [t]) l4 := by
  have hm := h.1 rfl
  have e5 : (y == 5) = false := by simpa using hy
  refine ⟨fun hb => ?_, fun hb => ?_⟩
  · obtain ⟨_, e2⟩ := h2.1 hb
    rw [hm, e5]
    simp only [pKids, Bool.false_eq_true, if_false, e2]
  · rw [hm, e5]
    rcases h2.2 hb with e | e
    · cases e
    · simp only [pKids, Bool.false_eq_true, if_false, e]
      rfl
theorem KidsAt.done {rd : List UInt8 → Option (Tree × List UInt8)} {y n : Nat} {l0 l : List UInt8} {ns : List ByteArray} {ks : List Tree} {b : Bool} (h : KidsAt rd y l0 b n ns ks l) (hn : b = false → n = 0) : Okr false b (pMany rd y l0) (.mk (y : Int) 0 .empty ns ks) l :=
  ⟨fun hb => ⟨rfl, by rw [h.1 hb, hn hb]; rfl⟩, fun hb => .inr (h.2 hb)⟩

/-! ### What is handed back -/
theorem leaf_ow (W : World) {s n : Int} {x : ByteArray} (hs : (Lit.int .i64 s).wf = true) (hn : (Lit.int .i64 n).wf = true) (hx : x.size ≤ maxLen) :
    OwC W (Tree.mk s n x [] []).cells [.int .i64 s, .int .i64 n, .string x, .slice none 0 0, .slice none 0 0] [] :=
  OwC.mTree (x := Tree.mk s n x [] []) (v1 := .slice none 0 0) (v2 := .slice none 0 0) (f1 := []) (f2 := []) hs hn hx (Ow.nil_ W 1 strC) (Ow.nil_ W 5 Tree.cells)
theorem wfi {x : Int} (h1 : -9223372036854775808 ≤ x) (h2 : x ≤ 9223372036854775807) : (Lit.int .i64 x).wf = true := WalkArith.wf_i64 ⟨h1, h2⟩
/-- the result's block is filled -/
theorem fin_grown {w w5 : World} {g : Nat} (hg : w.grownBy w5 (some g)) (vs : List Value) : w.grownBy (putN w5 w.heap.size 0 vs) (some g) :=
  only_low hg (below_of_grown (setN_grown vs 0 (grown_refl w5 (some w.heap.size))) (Nat.le_refl _) hg.size) (Nat.le_refl _)
theorem fin_low {w w5 : World} {g : Nat} (hg : w.grownBy w5 (some g)) (vs : List Value) : Below w.heap.size w5 (putN w5 w.heap.size 0 vs) :=
  below_of_grown (setN_grown vs 0 (grown_refl w5 (some w.heap.size))) (Nat.le_refl _) hg.size
theorem kids_fin {w w5 : World} {b g : Nat} {s : Int} {v1 v2 : Value} {l1 : List ByteArray} {us1 : List Value} {l2 : List Tree} {us2 : List Value} {fi2 : List Nat} (hT : TreeAt w5 b s v1 l1 us1 v2 l2 us2 fi2) (hs : (Lit.int .i64 s).wf = true)
    (hg : w.grownBy w5 (some g)) (hb : w.heap.size < b) (vs : List Value) :
    ∃ fq, OwC (putN w5 w.heap.size 0 vs) (Tree.mk s 0 .empty l1 l2).cells (treeMk s v1 v2) fq ∧ New (putN w5 w.heap.size 0 vs) fq w.heap.size := by
  obtain ⟨p1, p2, o1, o2, hn⟩ := hT.toOw
  have hx := OwC.mTree (x := Tree.mk s 0 .empty l1 l2) hs wfz empty_le o1 o2
  have hgr := setN_grown vs 0 (grown_refl w5 (some w.heap.size))
  have hno : w.heap.size ∉ p1 ++ p2 := hn.out (by omega)
  exact ⟨p1 ++ p2, hx.grown hgr hn.lt hno, (hn.grown hgr (fun b e => by injection e with e; subst e; exact hno)).mono (by omega)⟩
end Go.Proofs.Ytbjblchhenmgjaa
