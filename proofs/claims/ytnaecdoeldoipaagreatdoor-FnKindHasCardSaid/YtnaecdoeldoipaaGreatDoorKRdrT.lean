/-
  Readers of bytes: the program's take, num, text and size. Readers of trees: what both sides share.
-/
import Derived.Laws.BitsAllLaws
import Derived.Test.YtnaecdoeldoipaaGreatDoorKFirst
import Derived.Test.YtnaecdoeldoipaaGreatDoorKRdr
set_option linter.unusedVariables false
set_option linter.unusedSimpArgs false
namespace Go.Proofs.YtnaecdoeldoipaaGreatDoor
open Go.ChangeShapes Go.WideShapes Go.ChangeAt Go.RowKit

/-- the program's reader in block g, with l left -/
def RdI (w : World) (g : Nat) (L l : List UInt8) (bad : Bool) : Prop := ∃ (A : Option Addr) (c : Nat) (fp : List Nat), Row w g 98 [.slice A l.length c, .bool bad] ∧
  Ow w (.s 1 l.length (l.flatMap byteC)) (.slice A l.length c) fp ∧ Lt fp g ∧ l.length ≤ 9000
theorem RdI.lt {w : World} {g : Nat} {L l : List UInt8} {bad : Bool} (h : RdI w g L l bad) : g < w.heap.size := by
  obtain ⟨_, _, _, hr, _⟩ := h
  exact hr.lt
theorem RdI.below {w w' : World} {g : Nat} {L l : List UInt8} {bad : Bool} (h : RdI w g L l bad) (hb : Below w.heap.size w w') : RdI w' g L l bad := by
  obtain ⟨A, c, fp, hr, ho, hfp, hL⟩ := h
  exact ⟨A, c, fp, hr.below hb hr.lt, ho.below hb (hfp.mono (Nat.le_of_lt hr.lt)), hfp, hL⟩
/-- a slice of bytes, as it may be read -/
def BytesAt (w : World) (B : Option Addr) (m : Nat) (xs : List UInt8) : Prop := xs.length = m ∧ (m = 0 ∨ ∃ gb o, B = some ⟨gb, o, none⟩ ∧ gb < w.heap.size ∧ ∀ j (hj : j < xs.length), w.cell? ⟨gb, o + j, none⟩ = some (.int .u8 (xs[j].toNat : Int)))
theorem BytesAt.conv {w : World} {B : Option Addr} {m : Nat} {xs : List UInt8} (h : BytesAt w B m xs) (c : Nat) : (convert 22 9 (.slice B m c)).run Tryz.prog w = .ok (.string (ba xs)) w := by
  obtain ⟨rfl, h | ⟨gb, o, rfl, _, hc⟩⟩ := h
  · have e : xs = [] := List.eq_nil_of_length_eq_zero h
    subst e
    exact conv_zero w B c
  · exact conv_sub hc
theorem RdI.make {w w' : World} {g : Nat} {L l : List UInt8} {A : Option Addr} {c : Nat} {fp : List Nat} {bad : Bool} (ho : Ow w (.s 1 l.length (l.flatMap byteC)) (.slice A l.length c) fp) (hfp : Lt fp g) (hlt : g < w.heap.size) (hL : l.length ≤ 9000)
    (hg : w.grownBy w' (some g)) (hr : Row w' g 98 [.slice A l.length c, .bool bad]) : RdI w' g L l bad ∧ w.grownBy w' (some g) :=
  ⟨⟨A, c, fp, hr, ho.below (below_of_grown hg (Nat.le_refl g) (Nat.le_of_lt hlt)) hfp, hfp, hL⟩, hg⟩
end Go.Proofs.YtnaecdoeldoipaaGreatDoor
set_option linter.unusedVariables false
set_option linter.unusedSimpArgs false
namespace Go.Proofs.YtnaecdoeldoipaaGreatDoor
open Go.ChangeShapes Go.WideShapes Go.ChangeAt Go.RowKit

theorem RdS.low {w w' : World} {g : Nat} {L l : List UInt8} {bad : Bool} {B : Nat} (h : RdS w g L l bad) (hb : Below B w w') (hB : g < B) : RdS w' g L l bad := by
  obtain ⟨A, c, n, fp, hr, ho, hfp, hn, hL, hl⟩ := h
  exact ⟨A, c, n, fp, hr.below hb hB, ho.below hb (hfp.mono (Nat.le_of_lt hB)), hfp, hn, hL, hl⟩
theorem RdI.low {w w' : World} {g : Nat} {L l : List UInt8} {bad : Bool} {B : Nat} (h : RdI w g L l bad) (hb : Below B w w') (hB : g < B) : RdI w' g L l bad := by
  obtain ⟨A, c, fp, hr, ho, hfp, hL⟩ := h
  exact ⟨A, c, fp, hr.below hb hB, ho.below hb (hfp.mono (Nat.le_of_lt hB)), hfp, hL⟩
theorem RdS.drewN {w : World} {g : Nat} {L l : List UInt8} {bad : Bool} (h : RdS w g L l bad) (n : Nat) : RdS (w.drewN n) g L l bad := h.below ⟨rfl, rfl, rfl, Nat.le_refl _, fun _ _ => rfl⟩
theorem RdI.drewN {w : World} {g : Nat} {L l : List UInt8} {bad : Bool} (h : RdI w g L l bad) (n : Nat) : RdI (w.drewN n) g L l bad := h.below ⟨rfl, rfl, rfl, Nat.le_refl _, fun _ _ => rfl⟩
theorem RdS.bad {w : World} {g : Nat} {L l : List UInt8} {bad : Bool} (h : RdS w g L l bad) : w.cell? ⟨g, 2, none⟩ = some (.bool bad) ∧ w.frozen? ⟨g, 2, none⟩ = false := by
  obtain ⟨A, c, n, fp, hr, _⟩ := h
  exact ⟨hr.cell 2, hr.frozen 2⟩
theorem RdI.bad {w : World} {g : Nat} {L l : List UInt8} {bad : Bool} (h : RdI w g L l bad) : w.cell? ⟨g, 1, none⟩ = some (.bool bad) ∧ w.frozen? ⟨g, 1, none⟩ = false := by
  obtain ⟨A, c, fp, hr, _⟩ := h
  exact ⟨hr.cell 1, hr.frozen 1⟩
theorem RdS.setBad {w : World} {g : Nat} {L l : List UInt8} {bad : Bool} (h : RdS w g L l bad) (b : Bool) : RdS (w.setCell ⟨g, 2, none⟩ (.bool b)) g L l b := by
  obtain ⟨A, c, n, fp, hr, ho, hfp, hn, hL, hl⟩ := h
  have hg := only_setCell (p := ⟨g, 2, none⟩) (grown_refl w (some g)) (.inl rfl) (.bool b)
  exact ⟨A, c, n, fp, hr.set 2 _, ho.below (below_of_grown hg (Nat.le_refl g) (Nat.le_of_lt hr.lt)) hfp, hfp, hn, hL, hl⟩
theorem RdI.setBad {w : World} {g : Nat} {L l : List UInt8} {bad : Bool} (h : RdI w g L l bad) (b : Bool) : RdI (w.setCell ⟨g, 1, none⟩ (.bool b)) g L l b := by
  obtain ⟨A, c, fp, hr, ho, hfp, hL⟩ := h
  have hg := only_setCell (p := ⟨g, 1, none⟩) (grown_refl w (some g)) (.inl rfl) (.bool b)
  exact ⟨A, c, fp, hr.set 1 _, ho.below (below_of_grown hg (Nat.le_refl g) (Nat.le_of_lt hr.lt)) hfp, hfp, hL⟩

/-! ### What is read, by the first byte -/
theorem pOne_none {l : List UInt8} (h : pOne l = none) : l = [] := by
  cases l with
  | nil => rfl
  | cons x r => simp [pOne] at h
def kidsMk (y : Nat) (p : List ByteArray × List Tree × List UInt8) : Tree × List UInt8 := (.mk (y : Int) 0 .empty p.1 p.2.1, p.2.2)
/-- so far the kids are read -/
def KidsAt (rd : List UInt8 → Option (Tree × List UInt8)) (y : Nat) (l0 : List UInt8) (b : Bool) (n : Nat) (ns : List ByteArray) (ks : List Tree) (l : List UInt8) : Prop :=
  (b = false → pMany rd y l0 = (pKids rd (y == 5) n ns ks l).map (kidsMk y)) ∧ (b = true → pMany rd y l0 = none)
theorem KidsAt.start {rd : List UInt8 → Option (Tree × List UInt8)} {y n : Nat} {l0 l : List UInt8} {b : Bool} (h : Okr false b (pOne l0) (n : Int) l) : KidsAt rd y l0 b n [] [] l := by
  refine ⟨fun hb => ?_, fun hb => ?_⟩
  · have e := (h.1 hb).2
    cases l0 with
    | nil => simp [pOne] at e
    | cons x r =>
      simp only [pOne, Option.some.injEq, Prod.mk.injEq] at e
      obtain ⟨h1, rfl⟩ := e
      have h1 : x.toNat = n := by omega
      simp only [pMany, h1]
      rfl
  · rcases h.2 hb with e | e
    · cases e
    · rw [pOne_none e]
      rfl
theorem KidsAt.form {rd : List UInt8 → Option (Tree × List UInt8)} {y n : Nat} (hy : y = 5) {l0 l l3 l4 : List UInt8} {ns : List ByteArray} {ks : List Tree} {s : ByteArray} {t : Tree} {b3 b4 : Bool} (h : KidsAt rd y l0 false (n + 1) ns ks l)
    (h1 : Okr false b3 (pShort l) s l3) (h2 : Okr b3 b4 (rd l3) t l4) : KidsAt rd y l0 b4 n (ns ++ [s]) (ks ++ [t]) l4 := by
  subst hy
  have hm := h.1 rfl
  have e5 : ((5 : Nat) == 5) = true := rfl
  refine ⟨fun hb => ?_, fun hb => ?_⟩
  · obtain ⟨e1, e2⟩ := h2.1 hb
    obtain ⟨_, e4⟩ := h1.1 e1
    rw [hm, e5]
    simp only [pKids, if_true, e4, e2]
  · rw [hm, e5]
    rcases h2.2 hb with e | e
    · rcases h1.2 e with e' | e'
      · cases e'
      · simp only [pKids, if_true, e']
        rfl
    · rcases hb3 : b3 with _ | _
      · obtain ⟨_, e4⟩ := h1.1 hb3
        simp only [pKids, if_true, e4, e]
        rfl
      · rcases h1.2 hb3 with e' | e'
        · cases e'
        · simp only [pKids, if_true, e']
          rfl
theorem KidsAt.done {rd : List UInt8 → Option (Tree × List UInt8)} {y n : Nat} {l0 l : List UInt8} {ns : List ByteArray} {ks : List Tree} {b : Bool} (h : KidsAt rd y l0 b n ns ks l) (hn : b = false → n = 0) : Okr false b (pMany rd y l0) (.mk (y : Int) 0 .empty ns ks) l :=
  ⟨fun hb => ⟨rfl, by rw [h.1 hb, hn hb]; rfl⟩, fun hb => .inr (h.2 hb)⟩

/-! ### What is handed back -/
end Go.Proofs.YtnaecdoeldoipaaGreatDoor
