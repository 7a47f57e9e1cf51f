/-
  What can stand on a board: plain. Dead letters and held keys that are ok: both sides. Keys that are held: ok, both sides. What is given can stand on a board: both sides. What is given can stand on a board: the reference. A board of what a replay gave: plain. Lines of a board, piece by piece: plain. The line of a dead letter: the reference. The board: the reference. One number behind a word; words in a row; what strings.Join puts together. The line of a record: the program. The line of a dead letter: the program. The board: the program. FnExactDeadBoard returns true for every input: the program answers as the reference. No condition.
-/
import Derived.Test.YtkfiebeedbjicaaGreatDoorDDeadDone
import Derived.Test.YtkfiebeedbjicaaGreatDoorEventOk
import Derived.Test.YtkfiebeedbjicaaGreatDoorName
import Derived.Deep.Cut
import Derived.Test.YtkfiebeedbjicaaGreatDoorOwn
import Derived.Test.YtkfiebeedbjicaaGreatDoorEvWrite
import Derived.Test.YtkfiebeedbjicaaGreatDoorDecS
import Derived.Deep.RegionHeld3
import Derived.Test.YtkfiebeedbjicaaGreatDoorJoined
import Derived.Test.YtkfiebeedbjicaaGreatDoorApp
import Derived.Test.YtkfiebeedbjicaaGreatDoorShelfJ
import Derived.Deep.RegionHeld
import Derived.OwnWalk
import Derived.Test.YtkfiebeedbjicaaGreatDoorBld
import Derived.Test.YtkfiebeedbjicaaGreatDoorHDeadDone
set_option linter.unusedVariables false
set_option linter.unusedSimpArgs false
namespace Go.Proofs.YtkfiebeedbjicaaGreatDoor
open Go.ChangeShapes Go.WideShapes Go.ChangeAt Go.RowKit

def holdAt (l : List DeadHold) (i : Nat) (h : i < l.length) : Prop := NameOk l[i].key ∧ (1 ≤ l[i].behind ∧ l[i].behind ≤ 999999) ∧ (0 < i → Op.bytesLess (l[i - 1]'(by omega)).key.toList l[i].key.toList = true)
def holdsOk (l : List DeadHold) : Prop := l.length ≤ 200 ∧ ∀ i (h : i < l.length), holdAt l i h
theorem holds_step (l : List DeadHold) (k : Nat) (hk : k < l.length) (ha : ∀ j (h : j < l.length), j < k → holdAt l j h) (hn : holdAt l k hk) : ∀ j (h : j < l.length), j < k + 1 → holdAt l j h := fun j h hj => by
  by_cases e : j < k
  · exact ha j h e
  · obtain rfl : j = k := by omega
    exact hn
theorem all_step {α : Type} {P : α → Prop} (l : List α) (k : Nat) (hk : k < l.length) (ha : ∀ j (h : j < l.length), j < k → P l[j]) (hn : P l[k]) : ∀ j (h : j < l.length), j < k + 1 → P l[j] := fun j h hj => by
  by_cases e : j < k
  · exact ha j h e
  · obtain rfl : j = k := by omega
    exact hn
def Record.fine (r : Record) : Prop := (1 ≤ r.pos ∧ r.pos ≤ 999999) ∧ NameOk r.key ∧ r.events.length ≤ 16000 ∧ ∀ i (h : i < r.events.length), r.events[i].ok
def DeadLetter.fine (x : DeadLetter) : Prop := (1 ≤ x.pos ∧ x.pos ≤ 999999) ∧ NameOk x.key ∧ (1 ≤ x.code ∧ x.code ≤ 10) ∧ (0 ≤ x.why ∧ x.why ≤ 99) ∧ (x.type_.toList = [] ∨ NameOk x.type_) ∧ (0 ≤ x.version ∧ x.version ≤ 12) ∧ (0 ≤ x.behind ∧ x.behind ≤ 999999)
def DeadDone.fine (d : DeadDone) : Prop := d.ok = true ∧ d.given.length ≤ 200 ∧ d.dead.length ≤ 200 ∧ holdsOk d.held ∧ (∀ i (h : i < d.given.length), d.given[i].fine) ∧ (∀ i (h : i < d.dead.length), d.dead[i].fine)
end Go.Proofs.YtkfiebeedbjicaaGreatDoor
set_option linter.unusedVariables false
set_option linter.unusedSimpArgs false
namespace Go.Proofs.YtkfiebeedbjicaaGreatDoor
open Go.ChangeShapes Go.WideShapes Go.ChangeAt Go.RowKit

set_option maxRecDepth 100000 in
set_option maxHeartbeats 1000000 in
theorem implLetterOk_any (x : DeadLetter) (us : List Value) (fp : List Nat) (w : World) (ho : OwC w x.cells us fp) :
    Calls Tryz.prog 27 #[.agg us.toArray] w fun e w' => e = .returned (.bool (tb x.fine)) ∧ Below w.heap.size w w' := by
  obtain ⟨rfl, w0, w1, w2, w3, w4, w5, w6, rfl⟩ := ho.oDeadLetter
  have hw1 : Below w.heap.size w (w.alloc (.cells #[.int .i64 x.pos, .string x.key, .int .i64 x.code, .int .i64 x.why, .string x.type_, .int .i64 x.version, .int .i64 x.behind] 44)) := (Below.refl _ _).alloc (Nat.le_refl _) _
  have BB := hide hw1
  clear ho hw1
  go_enter Tryz.func27, Tryz.ntmps27
  go_wp2_with fail
  refine (inRange_any _ _ _ _).mono ?_
  rintro e w' ⟨rfl, rfl⟩
  by_cases h0 : 1 ≤ x.pos ∧ x.pos ≤ 999999
  rotate_left
  · have HT := hide (tb_false (fun h : x.fine => h0 h.1))
    rw [tb_false h0]
    clear h0
    go_wp2
    go_ret
    exact ⟨ret_bool HT.out.symm, BB.out⟩
  have H0 := hide h0
  rw [tb_true h0]
  clear h0
  go_wp2_with fail
  refine (isName_any _ _ w1).mono ?_
  rintro e w' ⟨rfl, rfl⟩
  by_cases h1 : NameOk x.key
  rotate_left
  · have HT := hide (tb_false (fun h : x.fine => h1 h.2.1))
    rw [tb_false h1]
    clear h1
    go_wp2
    go_ret
    exact ⟨ret_bool HT.out.symm, BB.out⟩
  have H1 := hide h1
  rw [tb_true h1]
  clear h1
  go_wp2_with fail
  refine (inRange_any _ _ _ _).mono ?_
  rintro e w' ⟨rfl, rfl⟩
  by_cases h2 : 1 ≤ x.code ∧ x.code ≤ 10
  rotate_left
  · have HT := hide (tb_false (fun h : x.fine => h2 h.2.2.1))
    rw [tb_false h2]
    clear h2
    go_wp2
    go_ret
    exact ⟨ret_bool HT.out.symm, BB.out⟩
  have H2 := hide h2
  rw [tb_true h2]
  clear h2
  go_wp2_with fail
  refine (inRange_any _ _ _ _).mono ?_
  rintro e w' ⟨rfl, rfl⟩
  by_cases h3 : 0 ≤ x.why ∧ x.why ≤ 99
  rotate_left
  · have HT := hide (tb_false (fun h : x.fine => h3 h.2.2.2.1))
    rw [tb_false h3]
    clear h3
    go_wp2
    go_ret
    exact ⟨ret_bool HT.out.symm, BB.out⟩
  have H3 := hide h3
  rw [tb_true h3]
  clear h3
  by_cases h4 : x.type_.toList = []
  rotate_left
  · have e4 : (x.type_.toList == []) = false := by simpa using h4
    go_wp2_with fail
    refine (isName_any _ _ w4).mono ?_
    rintro e w' ⟨rfl, rfl⟩
    by_cases h5 : NameOk x.type_
    rotate_left
    · have HT := hide (tb_false (fun h : x.fine => h.2.2.2.2.1.elim h4 h5))
      rw [tb_false h5]
      clear h5 h4 e4
      go_wp2
      go_ret
      exact ⟨ret_bool HT.out.symm, BB.out⟩
    have H4 := hide (show x.type_.toList = [] ∨ NameOk x.type_ from .inr h5)
    rw [tb_true h5]
    clear h5 h4 e4
    go_wp2_with fail
    refine (inRange_any _ _ _ _).mono ?_
    rintro e w' ⟨rfl, rfl⟩
    by_cases h5 : 0 ≤ x.version ∧ x.version ≤ 12
    rotate_left
    · have HT := hide (tb_false (fun h : x.fine => h5 h.2.2.2.2.2.1))
      rw [tb_false h5]
      clear h5
      go_wp2
      go_ret
      exact ⟨ret_bool HT.out.symm, BB.out⟩
    have H5 := hide h5
    rw [tb_true h5]
    clear h5
    go_wp2_with fail
    refine (inRange_any _ _ _ _).mono ?_
    rintro e w' ⟨rfl, rfl⟩
    by_cases h6 : 0 ≤ x.behind ∧ x.behind ≤ 999999
    rotate_left
    · have HT := hide (tb_false (fun h : x.fine => h6 h.2.2.2.2.2.2))
      rw [tb_false h6]
      clear h6
      go_wp2
      go_ret
      exact ⟨ret_bool HT.out.symm, BB.out⟩
    have H6 := hide h6
    rw [tb_true h6]
    clear h6
    have HT := hide (tb_true (show x.fine from ⟨H0.out, H1.out, H2.out, H3.out, H4.out, H5.out, H6.out⟩))
    go_wp2
    go_ret
    exact ⟨ret_bool HT.out.symm, BB.out⟩
  have H4 := hide (show x.type_.toList = [] ∨ NameOk x.type_ from .inl h4)
  have e4 : (x.type_.toList == []) = true := by simpa using h4
  clear h4
  go_wp2_with fail
  refine (inRange_any _ _ _ _).mono ?_
  rintro e w' ⟨rfl, rfl⟩
  by_cases h5 : 0 ≤ x.version ∧ x.version ≤ 12
  rotate_left
  · have HT := hide (tb_false (fun h : x.fine => h5 h.2.2.2.2.2.1))
    rw [tb_false h5]
    clear h5
    go_wp2
    go_ret
    exact ⟨ret_bool HT.out.symm, BB.out⟩
  have H5 := hide h5
  rw [tb_true h5]
  clear h5
  go_wp2_with fail
  refine (inRange_any _ _ _ _).mono ?_
  rintro e w' ⟨rfl, rfl⟩
  by_cases h6 : 0 ≤ x.behind ∧ x.behind ≤ 999999
  rotate_left
  · have HT := hide (tb_false (fun h : x.fine => h6 h.2.2.2.2.2.2))
    rw [tb_false h6]
    clear h6
    go_wp2
    go_ret
    exact ⟨ret_bool HT.out.symm, BB.out⟩
  have H6 := hide h6
  rw [tb_true h6]
  clear h6
  have HT := hide (tb_true (show x.fine from ⟨H0.out, H1.out, H2.out, H3.out, H4.out, H5.out, H6.out⟩))
  go_wp2
  go_ret
  exact ⟨ret_bool HT.out.symm, BB.out⟩
set_option maxRecDepth 100000 in
set_option maxHeartbeats 1000000 in
theorem specLetterOk_any (x : DeadLetter) (us : List Value) (fp : List Nat) (w : World) (ho : OwC w x.cells us fp) :
    Calls Tryz.prog 14 #[.agg us.toArray] w fun e w' => e = .returned (.bool (tb x.fine)) ∧ Below w.heap.size w w' := by
  obtain ⟨rfl, w0, w1, w2, w3, w4, w5, w6, rfl⟩ := ho.oDeadLetter
  have hw1 : Below w.heap.size w (w.alloc (.cells #[.int .i64 x.pos, .string x.key, .int .i64 x.code, .int .i64 x.why, .string x.type_, .int .i64 x.version, .int .i64 x.behind] 44)) := (Below.refl _ _).alloc (Nat.le_refl _) _
  have BB := hide hw1
  clear ho hw1
  go_enter Tryz.func14, Tryz.ntmps14
  go_wp2_with fail
  refine (l6In_any _ _ _ _).mono ?_
  rintro e w' ⟨rfl, rfl⟩
  by_cases h0 : 1 ≤ x.pos ∧ x.pos ≤ 999999
  rotate_left
  · have HT := hide (tb_false (fun h : x.fine => h0 h.1))
    rw [tb_false h0]
    clear h0
    go_wp2
    go_ret
    exact ⟨ret_bool HT.out.symm, BB.out⟩
  have H0 := hide h0
  rw [tb_true h0]
  clear h0
  go_wp2_with fail
  refine (l6NameOk_any _ _ w1).mono ?_
  rintro e w' ⟨rfl, rfl⟩
  by_cases h1 : NameOk x.key
  rotate_left
  · have HT := hide (tb_false (fun h : x.fine => h1 h.2.1))
    rw [tb_false h1]
    clear h1
    go_wp2
    go_ret
    exact ⟨ret_bool HT.out.symm, BB.out⟩
  have H1 := hide h1
  rw [tb_true h1]
  clear h1
  go_wp2_with fail
  refine (l6In_any _ _ _ _).mono ?_
  rintro e w' ⟨rfl, rfl⟩
  by_cases h2 : 1 ≤ x.code ∧ x.code ≤ 10
  rotate_left
  · have HT := hide (tb_false (fun h : x.fine => h2 h.2.2.1))
    rw [tb_false h2]
    clear h2
    go_wp2
    go_ret
    exact ⟨ret_bool HT.out.symm, BB.out⟩
  have H2 := hide h2
  rw [tb_true h2]
  clear h2
  go_wp2_with fail
  refine (l6In_any _ _ _ _).mono ?_
  rintro e w' ⟨rfl, rfl⟩
  by_cases h3 : 0 ≤ x.why ∧ x.why ≤ 99
  rotate_left
  · have HT := hide (tb_false (fun h : x.fine => h3 h.2.2.2.1))
    rw [tb_false h3]
    clear h3
    go_wp2
    go_ret
    exact ⟨ret_bool HT.out.symm, BB.out⟩
  have H3 := hide h3
  rw [tb_true h3]
  clear h3
  by_cases h4 : x.type_.toList = []
  rotate_left
  · have e4 : (x.type_.toList == []) = false := by simpa using h4
    go_wp2_with fail
    refine (l6NameOk_any _ _ w4).mono ?_
    rintro e w' ⟨rfl, rfl⟩
    by_cases h5 : NameOk x.type_
    rotate_left
    · have HT := hide (tb_false (fun h : x.fine => h.2.2.2.2.1.elim h4 h5))
      rw [tb_false h5]
      clear h5 h4 e4
      go_wp2
      go_ret
      exact ⟨ret_bool HT.out.symm, BB.out⟩
    have H4 := hide (show x.type_.toList = [] ∨ NameOk x.type_ from .inr h5)
    rw [tb_true h5]
    clear h5 h4 e4
    go_wp2_with fail
    refine (l6In_any _ _ _ _).mono ?_
    rintro e w' ⟨rfl, rfl⟩
    by_cases h5 : 0 ≤ x.version ∧ x.version ≤ 12
    rotate_left
    · have HT := hide (tb_false (fun h : x.fine => h5 h.2.2.2.2.2.1))
      rw [tb_false h5]
      clear h5
      go_wp2
      go_ret
      exact ⟨ret_bool HT.out.symm, BB.out⟩
    have H5 := hide h5
    rw [tb_true h5]
    clear h5
    go_wp2_with fail
    refine (l6In_any _ _ _ _).mono ?_
    rintro e w' ⟨rfl, rfl⟩
    by_cases h6 : 0 ≤ x.behind ∧ x.behind ≤ 999999
    rotate_left
    · have HT := hide (tb_false (fun h : x.fine => h6 h.2.2.2.2.2.2))
      rw [tb_false h6]
      clear h6
      go_wp2
      go_ret
      exact ⟨ret_bool HT.out.symm, BB.out⟩
    have H6 := hide h6
    rw [tb_true h6]
    clear h6
    have HT := hide (tb_true (show x.fine from ⟨H0.out, H1.out, H2.out, H3.out, H4.out, H5.out, H6.out⟩))
    go_wp2
    go_ret
    exact ⟨ret_bool HT.out.symm, BB.out⟩
  have H4 := hide (show x.type_.toList = [] ∨ NameOk x.type_ from .inl h4)
  have e4 : (x.type_.toList == []) = true := by simpa using h4
  clear h4
  go_wp2_with fail
  refine (l6In_any _ _ _ _).mono ?_
  rintro e w' ⟨rfl, rfl⟩
  by_cases h5 : 0 ≤ x.version ∧ x.version ≤ 12
  rotate_left
  · have HT := hide (tb_false (fun h : x.fine => h5 h.2.2.2.2.2.1))
    rw [tb_false h5]
    clear h5
    go_wp2
    go_ret
    exact ⟨ret_bool HT.out.symm, BB.out⟩
  have H5 := hide h5
  rw [tb_true h5]
  clear h5
  go_wp2_with fail
  refine (l6In_any _ _ _ _).mono ?_
  rintro e w' ⟨rfl, rfl⟩
  by_cases h6 : 0 ≤ x.behind ∧ x.behind ≤ 999999
  rotate_left
  · have HT := hide (tb_false (fun h : x.fine => h6 h.2.2.2.2.2.2))
    rw [tb_false h6]
    clear h6
    go_wp2
    go_ret
    exact ⟨ret_bool HT.out.symm, BB.out⟩
  have H6 := hide h6
  rw [tb_true h6]
  clear h6
  have HT := hide (tb_true (show x.fine from ⟨H0.out, H1.out, H2.out, H3.out, H4.out, H5.out, H6.out⟩))
  go_wp2
  go_ret
  exact ⟨ret_bool HT.out.symm, BB.out⟩
end Go.Proofs.YtkfiebeedbjicaaGreatDoor
set_option linter.unusedVariables false
set_option linter.unusedSimpArgs false
namespace Go.Proofs.YtkfiebeedbjicaaGreatDoor
open Go.ChangeShapes Go.WideShapes Go.ChangeAt Go.RowKit

theorem quiet_same0 {P : Program} {f : FuncId} {args : Array Value} {w : World} {n : Nat} {v : Value}
    (h : Calls P f args (w.drewN n) fun e w' => e = .returned v ∧ w' = w.drewN n) :
    Calls P f args (w.drewN n) fun e w'' => e = .returned v ∧ ∃ m, w'' = w.drewN m :=
  h.mono fun _ _ ⟨he, hm⟩ => ⟨he, n, hm⟩
theorem l6In_yes (n lo hi : Int) (w : World) (h : lo ≤ n ∧ n ≤ hi) : Calls Tryz.prog 35 #[.int .i64 n, .int .i64 lo, .int .i64 hi] w fun e w' => e = .returned (.bool true) ∧ w' = w :=
  (l6In_any n lo hi w).mono fun e w' ⟨he, hw⟩ => ⟨by rw [he, tb_true h], hw.symm⟩
theorem l6In_no (n lo hi : Int) (w : World) (h : ¬ (lo ≤ n ∧ n ≤ hi)) : Calls Tryz.prog 35 #[.int .i64 n, .int .i64 lo, .int .i64 hi] w fun e w' => e = .returned (.bool false) ∧ w' = w :=
  (l6In_any n lo hi w).mono fun e w' ⟨he, hw⟩ => ⟨by rw [he, tb_false h], hw.symm⟩
theorem inRange_yes (n lo hi : Int) (w : World) (h : lo ≤ n ∧ n ≤ hi) : Calls Tryz.prog 43 #[.int .i64 n, .int .i64 lo, .int .i64 hi] w fun e w' => e = .returned (.bool true) ∧ w' = w :=
  (inRange_any n lo hi w).mono fun e w' ⟨he, hw⟩ => ⟨by rw [he, tb_true h], hw.symm⟩
theorem inRange_no (n lo hi : Int) (w : World) (h : ¬ (lo ≤ n ∧ n ≤ hi)) : Calls Tryz.prog 43 #[.int .i64 n, .int .i64 lo, .int .i64 hi] w fun e w' => e = .returned (.bool false) ∧ w' = w :=
  (inRange_any n lo hi w).mono fun e w' ⟨he, hw⟩ => ⟨by rw [he, tb_false h], hw.symm⟩
theorem isName_yes (s : ByteArray) (w : World) (hs : s.size ≤ maxLen) (h : NameOk s) : Calls Tryz.prog 42 #[.string s] w fun e w' => e = .returned (.bool true) ∧ w' = w :=
  (isName_any s w hs).mono fun e w' ⟨he, hw⟩ => ⟨by rw [he, tb_true h], hw.symm⟩
theorem isName_no (s : ByteArray) (w : World) (hs : s.size ≤ maxLen) (h : ¬ NameOk s) : Calls Tryz.prog 42 #[.string s] w fun e w' => e = .returned (.bool false) ∧ w' = w :=
  (isName_any s w hs).mono fun e w' ⟨he, hw⟩ => ⟨by rw [he, tb_false h], hw.symm⟩
set_option maxRecDepth 100000 in
set_option maxHeartbeats 4000000 in
theorem specHeldOk_any (l : List DeadHold) (A : Option Addr) (n c : Nat) (fp : List Nat) (w : World) (h : Ow w (.s 2 l.length (l.flatMap DeadHold.cells)) (.slice A n c) fp) (hf : Lt fp w.heap.size) :
    Calls Tryz.prog 13 #[.slice A n c] w fun e w' => e = .returned (.bool (tb (holdsOk l))) ∧ Below w.heap.size w w' := by
  obtain ⟨rfl, hc, hm⟩ := h.nlen
  unfold maxLen at hm
  have HO := hide h
  have HF := hide hf
  clear h hf
  go_enter Tryz.func13, Tryz.ntmps13
  by_cases h2 : l.length ≤ 200
  rotate_left
  · have HT := hide (tb_false (fun h : holdsOk l => h2 h.1))
    have h3 : (200 : Int) < (l.length : Int) := by omega
    clear h2
    go_wp2
    go_ret
    exact ⟨ret_bool HT.out.symm, Below.refl _ _⟩
  have h3 : ¬ ((200 : Int) < (l.length : Int)) := by omega
  go_wp2
  go_loopw [3] (fun i wr => (∃ k : Nat, k ≤ l.length ∧ i = .int .i64 k ∧ ∀ j (h : j < l.length), j < k → holdAt l j h) ∧ Below w.heap.size w wr) (fun i _ => l.length - (intOf i).toNat)
  case atStart => exact ⟨⟨0, Nat.zero_le _, rfl, fun j h hj => by omega⟩, Below.refl _ _⟩
  case round =>
    obtain ⟨⟨k, hk, rfl, ha⟩, hbel⟩ := hrel
    have HA := hide ha
    have HB := hide hbel
    clear ha hbel
    by_cases hlt : k < l.length
    rotate_left
    · obtain rfl : k = l.length := by omega
      have HT := hide (tb_true (show holdsOk l from ⟨h2, fun i h => HA.out i h h⟩))
      go_wp2
      go_ret
      exact ⟨ret_bool HT.out.symm, HB.out⟩
    obtain ⟨g, off, vs, fi, rfl, hg, hfi, hvl, hcs, hov⟩ := (HO.out.below HB.out HF.out).elem DeadHold.cells_len hlt
    obtain ⟨rfl, hs, hw2, -⟩ := hov.oDeadHold
    have p0 := hcs 0 _ rfl
    have p1 := hcs 1 _ rfl
    simp only [Nat.add_zero] at p0
    have hgl : g < wr.heap.size := Nat.lt_of_lt_of_le (HF.out g hg) HB.out.size
    clear hcs hov
    have HBAD := hide (fun (hn : ¬ holdAt l k hlt) => tb_false (fun hh : holdsOk l => hn (hh.2 k hlt)))
    have HSTEP := hide (holds_step l k hlt HA.out)
    have HAT := hide (show holdAt l k hlt ↔ NameOk l[k].key ∧ (1 ≤ l[k].behind ∧ l[k].behind ≤ 999999) ∧ (0 < k → Op.bytesLess (l[k - 1]'(by omega)).key.toList l[k].key.toList = true) from Iff.rfl)
    by_cases hn : NameOk l[k].key
    rotate_left
    · have HT := hide (HBAD.out (fun h => hn (HAT.out.1 h).1))
      have HN := hide hn
      clear hn HBAD HSTEP HAT
      generalize l[k] = y at *
      go_wp2
      go_quiet ((go_at_call 36; exact quiet_same0 (l6NameOk_no _ _ hs HN.out)))
      go_wp2
      go_ret
      exact ⟨ret_bool HT.out.symm, HB.out.trans (below_drewN (Below.refl _ _) _)⟩
    by_cases hb : 1 ≤ l[k].behind ∧ l[k].behind ≤ 999999
    rotate_left
    · have HT := hide (HBAD.out (fun h => hb (HAT.out.1 h).2.1))
      have HN := hide hn
      have HB1 := hide hb
      clear hn hb HBAD HSTEP HAT
      generalize l[k] = y at *
      go_wp2
      go_quiet (first | (go_at_call 35; exact quiet_same0 (l6In_no _ _ _ _ HB1.out)) | (go_at_call 36; exact quiet_same0 (l6NameOk_yes _ _ hs HN.out)))
      go_wp2
      go_ret
      exact ⟨ret_bool HT.out.symm, HB.out.trans (below_drewN (Below.refl _ _) _)⟩
    by_cases h0 : 0 < k
    rotate_left
    · have HS := hide (HSTEP.out (HAT.out.2 ⟨hn, hb, fun h => absurd h h0⟩))
      have d0 : decide ((0 : Int) < (k : Int)) = false := by simp; omega
      have HN := hide hn
      have HB1 := hide hb
      clear hn hb HBAD HSTEP HAT
      generalize l[k] = y at *
      go_wp2
      go_quiet (first | (go_at_call 35; exact quiet_same0 (l6In_yes _ _ _ _ HB1.out)) | (go_at_call 36; exact quiet_same0 (l6NameOk_yes _ _ hs HN.out)))
      go_wp2
      go_roundw
      case rel => exact ⟨⟨k + 1, by omega, by go_num, HS.out⟩, HB.out.trans (below_drewN (Below.refl _ _) _)⟩
      case measure => simp [intOf]; omega
    obtain ⟨_, _, vs', fi', e1, _, _, hvl', hcs', hov'⟩ := (HO.out.below HB.out HF.out).elem DeadHold.cells_len (i := k - 1) (by omega)
    injection e1 with e1
    injection e1 with e1 e2
    subst e1 e2
    obtain ⟨rfl, hs', -, -⟩ := hov'.oDeadHold
    have q0 := hcs' 0 _ rfl
    simp only [Nat.add_zero] at q0
    clear hcs' hov'
    have h1 : (0 : Int) ≤ (k : Int) - 1 := by omega
    have d0 : decide ((0 : Int) < (k : Int)) = true := by simpa using h0
    by_cases hl : Op.bytesLess (l[k - 1]'(by omega)).key.toList l[k].key.toList = true
    · have HS := hide (HSTEP.out (HAT.out.2 ⟨hn, hb, fun _ => hl⟩))
      have HN := hide hn
      have HB1 := hide hb
      clear hn hb HBAD HSTEP HAT
      generalize (l[k - 1]'(by omega)) = y' at *
      generalize l[k] = y at *
      go_wp2
      go_quiet (first | (go_at_call 35; exact quiet_same0 (l6In_yes _ _ _ _ HB1.out)) | (go_at_call 36; exact quiet_same0 (l6NameOk_yes _ _ hs HN.out)))
      go_wp2
      go_roundw
      case rel => exact ⟨⟨k + 1, by omega, by go_num, HS.out⟩, HB.out.trans (below_drewN (Below.refl _ _) _)⟩
      case measure => simp [intOf]; omega
    · have HT := hide (HBAD.out (fun h => hl ((HAT.out.1 h).2.2 h0)))
      have hl' : Op.bytesLess (l[k - 1]'(by omega)).key.toList l[k].key.toList = false := by simpa using hl
      have HN := hide hn
      have HB1 := hide hb
      clear hn hb hl HBAD HSTEP HAT
      generalize (l[k - 1]'(by omega)) = y' at *
      generalize l[k] = y at *
      go_wp2
      go_quiet (first | (go_at_call 35; exact quiet_same0 (l6In_yes _ _ _ _ HB1.out)) | (go_at_call 36; exact quiet_same0 (l6NameOk_yes _ _ hs HN.out)))
      go_wp2
      go_ret
      exact ⟨ret_bool HT.out.symm, HB.out.trans (below_drewN (Below.refl _ _) _)⟩
set_option maxRecDepth 100000 in
set_option maxHeartbeats 4000000 in
theorem implHeldOk_any (l : List DeadHold) (A : Option Addr) (n c : Nat) (fp : List Nat) (w : World) (h : Ow w (.s 2 l.length (l.flatMap DeadHold.cells)) (.slice A n c) fp) (hf : Lt fp w.heap.size) :
    Calls Tryz.prog 21 #[.slice A n c] w fun e w' => e = .returned (.bool (tb (holdsOk l))) ∧ Below w.heap.size w w' := by
  obtain ⟨rfl, hc, hm⟩ := h.nlen
  unfold maxLen at hm
  have HO := hide h
  have HF := hide hf
  clear h hf
  go_enter Tryz.func21, Tryz.ntmps21
  go_wp2
  go_loopw [7] (fun i wr => (∃ k : Nat, k ≤ l.length ∧ i = .int .i64 k ∧ ∀ j (h : j < l.length), j < k → holdAt l j h) ∧ Below w.heap.size w wr) (fun i _ => l.length - (intOf i).toNat)
  case atStart => exact ⟨⟨0, Nat.zero_le _, rfl, fun j h hj => by omega⟩, Below.refl _ _⟩
  case round =>
    obtain ⟨⟨k, hk, rfl, ha⟩, hbel⟩ := hrel
    have HA := hide ha
    have HB := hide hbel
    clear ha hbel
    by_cases hlt : k < l.length
    rotate_left
    · obtain rfl : k = l.length := by omega
      by_cases h2 : l.length ≤ 200
      · have HT := hide (tb_true (show holdsOk l from ⟨h2, fun i h => HA.out i h h⟩))
        have h3 : (l.length : Int) ≤ 200 := by omega
        go_wp2
        go_ret
        exact ⟨ret_bool (by rw [HT.out]), HB.out⟩
      · have HT := hide (tb_false (fun h : holdsOk l => h2 h.1))
        have h3 : ¬ ((l.length : Int) ≤ 200) := by omega
        go_wp2
        go_ret
        exact ⟨ret_bool (by rw [HT.out]), HB.out⟩
    obtain ⟨g, off, vs, fi, rfl, hg, hfi, hvl, hcs, hov⟩ := (HO.out.below HB.out HF.out).elem DeadHold.cells_len hlt
    obtain ⟨rfl, hs, hw2, -⟩ := hov.oDeadHold
    have p0 := hcs 0 _ rfl
    have p1 := hcs 1 _ rfl
    simp only [Nat.add_zero] at p0
    have hgl : g < wr.heap.size := Nat.lt_of_lt_of_le (HF.out g hg) HB.out.size
    clear hcs hov
    have HBAD := hide (fun (hn : ¬ holdAt l k hlt) => tb_false (fun hh : holdsOk l => hn (hh.2 k hlt)))
    have HSTEP := hide (holds_step l k hlt HA.out)
    have HAT := hide (show holdAt l k hlt ↔ NameOk l[k].key ∧ (1 ≤ l[k].behind ∧ l[k].behind ≤ 999999) ∧ (0 < k → Op.bytesLess (l[k - 1]'(by omega)).key.toList l[k].key.toList = true) from Iff.rfl)
    by_cases hn : NameOk l[k].key
    rotate_left
    · have HT := hide (HBAD.out (fun h => hn (HAT.out.1 h).1))
      have HN := hide hn
      clear hn HBAD HSTEP HAT
      generalize l[k] = y at *
      go_upto_region 4 with fail
      have hA : Below wr.heap.size wr (wr.alloc (.cells #[.string y.key, .int .i64 y.behind] 58)) := (Below.refl _ _).alloc (Nat.le_refl _) _
      have RX := Row.new wr 58 [.string y.key, .int .i64 y.behind]
      have HBX := hide (HB.out.trans (hA.mono HB.out.size))
      clear p0 p1 hA
      generalize wr.alloc _ = wX at RX HBX ⊢
      generalize wr.heap.size = gx at RX ⊢
      have z0 := RX.cell 0
      have z1 := RX.cell 1
      have zl := RX.lt
      clear RX
      go_wp2
      go_quiet ((go_at_call 42; exact quiet_same0 (isName_no _ _ hs HN.out)))
      go_wp2
      go_ret
      exact ⟨ret_bool HT.out.symm, HBX.out.trans (below_drewN (Below.refl _ _) _)⟩
    by_cases hb : 1 ≤ l[k].behind ∧ l[k].behind ≤ 999999
    rotate_left
    · have HT := hide (HBAD.out (fun h => hb (HAT.out.1 h).2.1))
      have HN := hide hn
      have HB1 := hide hb
      clear hn hb HBAD HSTEP HAT
      generalize l[k] = y at *
      go_upto_region 4 with fail
      have hA : Below wr.heap.size wr (wr.alloc (.cells #[.string y.key, .int .i64 y.behind] 58)) := (Below.refl _ _).alloc (Nat.le_refl _) _
      have RX := Row.new wr 58 [.string y.key, .int .i64 y.behind]
      have HBX := hide (HB.out.trans (hA.mono HB.out.size))
      clear p0 p1 hA
      generalize wr.alloc _ = wX at RX HBX ⊢
      generalize wr.heap.size = gx at RX ⊢
      have z0 := RX.cell 0
      have z1 := RX.cell 1
      have zl := RX.lt
      clear RX
      go_wp2
      go_quiet (first | (go_at_call 43; exact quiet_same0 (inRange_no _ _ _ _ HB1.out)) | (go_at_call 42; exact quiet_same0 (isName_yes _ _ hs HN.out)))
      go_wp2
      go_ret
      exact ⟨ret_bool HT.out.symm, HBX.out.trans (below_drewN (Below.refl _ _) _)⟩
    by_cases h0 : 0 < k
    rotate_left
    · have HS := hide (HSTEP.out (HAT.out.2 ⟨hn, hb, fun h => absurd h h0⟩))
      have d0 : decide ((0 : Int) < (k : Int)) = false := by simp; omega
      have HN := hide hn
      have HB1 := hide hb
      clear hn hb HBAD HSTEP HAT
      generalize l[k] = y at *
      go_upto_region 4 with fail
      have hA : Below wr.heap.size wr (wr.alloc (.cells #[.string y.key, .int .i64 y.behind] 58)) := (Below.refl _ _).alloc (Nat.le_refl _) _
      have RX := Row.new wr 58 [.string y.key, .int .i64 y.behind]
      have HBX := hide (HB.out.trans (hA.mono HB.out.size))
      clear p0 p1 hA
      generalize wr.alloc _ = wX at RX HBX ⊢
      generalize wr.heap.size = gx at RX ⊢
      have z0 := RX.cell 0
      have z1 := RX.cell 1
      have zl := RX.lt
      clear RX
      go_wp2
      go_quiet (first | (go_at_call 43; exact quiet_same0 (inRange_yes _ _ _ _ HB1.out)) | (go_at_call 42; exact quiet_same0 (isName_yes _ _ hs HN.out)))
      go_wp2
      go_roundw
      case rel => exact ⟨⟨k + 1, by omega, by go_num, HS.out⟩, HBX.out.trans (below_drewN (Below.refl _ _) _)⟩
      case measure => simp [intOf]; omega
    obtain ⟨_, _, vs', fi', e1, _, _, hvl', hcs', hov'⟩ := (HO.out.below HB.out HF.out).elem DeadHold.cells_len (i := k - 1) (by omega)
    injection e1 with e1
    injection e1 with e1 e2
    subst e1 e2
    obtain ⟨rfl, hs', -, -⟩ := hov'.oDeadHold
    have q0 := hcs' 0 _ rfl
    simp only [Nat.add_zero] at q0
    clear hcs' hov'
    have h1 : (0 : Int) ≤ (k : Int) - 1 := by omega
    have d0 : decide ((0 : Int) < (k : Int)) = true := by simpa using h0
    by_cases hl : Op.bytesLess (l[k - 1]'(by omega)).key.toList l[k].key.toList = true
    · have HS := hide (HSTEP.out (HAT.out.2 ⟨hn, hb, fun _ => hl⟩))
      have HN := hide hn
      have HB1 := hide hb
      clear hn hb HBAD HSTEP HAT
      generalize (l[k - 1]'(by omega)) = y' at *
      generalize l[k] = y at *
      go_upto_region 4 with fail
      have hA : Below wr.heap.size wr (wr.alloc (.cells #[.string y.key, .int .i64 y.behind] 58)) := (Below.refl _ _).alloc (Nat.le_refl _) _
      have RX := Row.new wr 58 [.string y.key, .int .i64 y.behind]
      have q0 := (hA.cell (p := ⟨g, off + (k - 1) * 2, none⟩) hgl).trans q0
      have HBX := hide (HB.out.trans (hA.mono HB.out.size))
      clear p0 p1 hA
      generalize wr.alloc _ = wX at RX HBX q0 ⊢
      generalize wr.heap.size = gx at RX ⊢
      have z0 := RX.cell 0
      have z1 := RX.cell 1
      have zl := RX.lt
      clear RX
      go_wp2
      go_quiet (first | (go_at_call 43; exact quiet_same0 (inRange_yes _ _ _ _ HB1.out)) | (go_at_call 42; exact quiet_same0 (isName_yes _ _ hs HN.out)))
      go_wp2
      go_roundw
      case rel => exact ⟨⟨k + 1, by omega, by go_num, HS.out⟩, HBX.out.trans (below_drewN (Below.refl _ _) _)⟩
      case measure => simp [intOf]; omega
    · have HT := hide (HBAD.out (fun h => hl ((HAT.out.1 h).2.2 h0)))
      have hl' : Op.bytesLess (l[k - 1]'(by omega)).key.toList l[k].key.toList = false := by simpa using hl
      have HN := hide hn
      have HB1 := hide hb
      clear hn hb hl HBAD HSTEP HAT
      generalize (l[k - 1]'(by omega)) = y' at *
      generalize l[k] = y at *
      go_upto_region 4 with fail
      have hA : Below wr.heap.size wr (wr.alloc (.cells #[.string y.key, .int .i64 y.behind] 58)) := (Below.refl _ _).alloc (Nat.le_refl _) _
      have RX := Row.new wr 58 [.string y.key, .int .i64 y.behind]
      have q0 := (hA.cell (p := ⟨g, off + (k - 1) * 2, none⟩) hgl).trans q0
      have HBX := hide (HB.out.trans (hA.mono HB.out.size))
      clear p0 p1 hA
      generalize wr.alloc _ = wX at RX HBX q0 ⊢
      generalize wr.heap.size = gx at RX ⊢
      have z0 := RX.cell 0
      have z1 := RX.cell 1
      have zl := RX.lt
      clear RX
      go_wp2
      go_quiet (first | (go_at_call 43; exact quiet_same0 (inRange_yes _ _ _ _ HB1.out)) | (go_at_call 42; exact quiet_same0 (isName_yes _ _ hs HN.out)))
      go_wp2
      go_ret
      exact ⟨ret_bool HT.out.symm, HBX.out.trans (below_drewN (Below.refl _ _) _)⟩
end Go.Proofs.YtkfiebeedbjicaaGreatDoor
set_option linter.unusedVariables false
set_option linter.unusedSimpArgs false
namespace Go.Proofs.YtkfiebeedbjicaaGreatDoor
open Go.ChangeShapes Go.WideShapes Go.ChangeAt Go.RowKit

theorem Event.bulk_in (l : List Event) (i : Nat) (h : i < l.length) : l[i].bulk ≤ Event.bulkL l := by
  have := Event.bulk_at l i h
  unfold Event.bulkL
  omega
theorem Record.bulk_in (l : List Record) (i : Nat) (h : i < l.length) : l[i].bulk ≤ Record.bulkL l := by
  have := Record.bulk_at l i h
  unfold Record.bulkL
  omega
set_option maxRecDepth 100000 in
theorem evBad_any (x : Event) (us : List Value) (fp : List Nat) (w : World) (ho : OwC w x.cells us fp) (hf : Lt fp w.heap.size) (hbk : x.bulk ≤ 1048576) :
    Calls Tryz.prog 46 #[.agg us.toArray] w fun e w' => e = .returned (.bool (tb (¬ x.ok))) ∧ Below w.heap.size w w' := by
  have HHO := hide ho
  obtain ⟨A1, c1, A2, c2, f1, f2, rfl, w0, w1, w2, w3_, w4_, o1, o2, rfl⟩ := ho.oEvent
  have hw1 : Below w.heap.size w (w.alloc (.cells #[.string x.type_, .int .i64 x.version, .int .i64 x.body.sort, .int .i64 x.body.num, .string x.body.text, .slice A1 x.body.names.length c1, .slice A2 x.body.kids.length c2] 55)) := (Below.refl _ _).alloc (Nat.le_refl _) _
  have R1 : Row (w.alloc (.cells #[.string x.type_, .int .i64 x.version, .int .i64 x.body.sort, .int .i64 x.body.num, .string x.body.text, .slice A1 x.body.names.length c1, .slice A2 x.body.kids.length c2] 55)) w.heap.size 55 [.string x.type_, .int .i64 x.version, .int .i64 x.body.sort, .int .i64 x.body.num, .string x.body.text, .slice A1 x.body.names.length c1, .slice A2 x.body.kids.length c2] := Row.new w _ _
  have HC := hide (implEventOk_any x _ _ _ (HHO.out.below hw1 hf) (hf.up hw1) hbk)
  have HB := hide hw1
  have m0 := R1.cell 0
  have m1 := R1.cell 1
  have m2 := R1.cell 2
  have m3 := R1.cell 3
  have m4 := R1.cell 4
  have m5 := R1.cell 5
  have m6 := R1.cell 6
  have ml := R1.lt
  clear HHO hw1 R1 ho
  go_enter Tryz.func46, Tryz.ntmps46
  go_wp2_with fail
  refine HC.out.mono ?_
  rintro e w2 ⟨rfl, hb2⟩
  by_cases hx : x.ok
  · have HZ := hide (tb_false (p := ¬ x.ok) (fun h => h hx))
    rw [tb_true hx]
    clear hx
    go_wp2
    go_ret
    exact ⟨ret_bool HZ.out.symm, HB.out.trans (hb2.mono HB.out.size)⟩
  · have HZ := hide (tb_true (p := ¬ x.ok) hx)
    rw [tb_false hx]
    clear hx
    go_wp2
    go_ret
    exact ⟨ret_bool HZ.out.symm, HB.out.trans (hb2.mono HB.out.size)⟩
set_option maxRecDepth 100000 in
theorem evIndex_any (l : List Event) (A : Option Addr) (n c : Nat) (fp : List Nat) (w : World) (h : Ow w (.s 7 l.length (l.flatMap Event.cells)) (.slice A n c) fp) (hf : Lt fp w.heap.size) (hbk : Event.bulkL l ≤ 1048576) :
    Calls Tryz.prog 60 #[.slice A n c, .func (.func 46) #[] #[]] w fun e w' => (∃ z : Int, e = .returned (.int .i64 z) ∧ ((0 : Int) ≤ z ↔ ∃ i, ∃ h : i < l.length, (fun y : Event => ¬ y.ok) l[i])) ∧ Below w.heap.size w w' := by
  obtain ⟨rfl, hc, hm⟩ := h.nlen
  unfold maxLen at hm
  have HO := hide h
  clear h
  go_enter Tryz.func60, Tryz.ntmps60
  go_wp2
  go_loopw [8] (fun i wr => (∃ j : Nat, j ≤ l.length ∧ i = .int .i64 j ∧ ∀ a (h : a < l.length), a < j → ¬ (fun y : Event => ¬ y.ok) l[a]) ∧ Below w.heap.size w wr) (fun i _ => l.length - (intOf i).toNat)
  case atStart => exact ⟨⟨0, Nat.zero_le _, rfl, fun a h1 h => absurd h (by omega)⟩, Below.refl _ _⟩
  case round =>
    obtain ⟨⟨j, hj, rfl, ha⟩, hb⟩ := hrel
    have HA := hide ha
    have HB := hide hb
    clear ha hb
    by_cases hlt : j < l.length
    · obtain ⟨g, off, ws, fi, rfl, hg, hfi, hwl, hcs, hov⟩ := (HO.out.below HB.out hf).elem Event.cells_len hlt
      have hfi2 : Lt fi wr.heap.size := fun b hbm => Nat.lt_of_lt_of_le (hf b (hfi hbm)) HB.out.size
      have HC := hide (evBad_any l[j] ws fi wr hov hfi2 (Nat.le_trans (Event.bulk_in l j hlt) hbk))
      obtain ⟨A1, c1, A2, c2, f1, f2, rfl, -⟩ := hov.oEvent
      have p0 := hcs 0 _ rfl
      have p1 := hcs 1 _ rfl
      have p2 := hcs 2 _ rfl
      have p3 := hcs 3 _ rfl
      have p4 := hcs 4 _ rfl
      have p5 := hcs 5 _ rfl
      have p6 := hcs 6 _ rfl
      simp only [Nat.add_zero] at p0
      have hgl : g < wr.heap.size := Nat.lt_of_lt_of_le (hf g hg) HB.out.size
      clear hcs hov
      have hyes := hide (fun (hp : (fun y : Event => ¬ y.ok) l[j]) => show (0 : Int) ≤ (j : Int) ↔ ∃ i, ∃ h : i < l.length, (fun y : Event => ¬ y.ok) l[i] from ⟨fun _ => ⟨j, hlt, hp⟩, fun _ => by omega⟩)
      have hstep := hide (all_step (P := fun y => ¬ (fun y : Event => ¬ y.ok) y) l j hlt HA.out)
      generalize l[j] = y at *
      go_wp2_with fail
      refine HC.out.mono ?_
      rintro e w2 ⟨rfl, hb2⟩
      have HB2 := hide (HB.out.trans (hb2.mono HB.out.size))
      by_cases hx : ¬ y.ok
      · rw [tb_true hx]
        have HS := hide (hyes.out hx)
        clear hx
        go_wp2
        go_ret
        exact ⟨⟨_, rfl, HS.out⟩, HB2.out⟩
      · rw [tb_false hx]
        have HS := hide (hstep.out hx)
        clear hx
        go_wp2
        go_roundw
        case rel => exact ⟨⟨j + 1, by omega, by go_num, HS.out⟩, HB2.out⟩
        case measure => simp [intOf]; omega
    · obtain rfl : j = l.length := by omega
      go_wp2
      go_ret
      exact ⟨⟨-1, rfl, ⟨fun h => absurd h (by omega), fun ⟨i, hi, hp⟩ => absurd hp (HA.out i hi hi)⟩⟩, HB.out⟩
set_option maxRecDepth 100000 in
theorem evAny_any (l : List Event) (A : Option Addr) (n c : Nat) (fp : List Nat) (w : World) (h : Ow w (.s 7 l.length (l.flatMap Event.cells)) (.slice A n c) fp) (hf : Lt fp w.heap.size) (hbk : Event.bulkL l ≤ 1048576) :
    Calls Tryz.prog 45 #[.slice A n c, .func (.func 46) #[] #[]] w fun e w' => e = .returned (.bool (tb (¬ ∀ i (h : i < l.length), l[i].ok))) ∧ Below w.heap.size w w' := by
  have HC := hide (evIndex_any l A n c fp w h hf hbk)
  have HE := hide (show (∃ i, ∃ h : i < l.length, (fun y : Event => ¬ y.ok) l[i]) ↔ ¬ ∀ i (h : i < l.length), l[i].ok from ⟨fun ⟨i, hi, hp⟩ ha => hp (ha i hi), fun hn => Classical.byContradiction fun hc => hn fun i hi => Classical.byContradiction fun hp => hc ⟨i, hi, hp⟩⟩)
  clear h
  go_enter Tryz.func45, Tryz.ntmps45
  go_wp2_with fail
  refine HC.out.mono ?_
  rintro e w2 ⟨⟨z, rfl, hz⟩, hb2⟩
  have HB := hide hb2
  clear hb2
  by_cases h0 : 0 ≤ z
  · have HT := hide (tb_true (HE.out.1 (hz.1 h0)))
    clear hz
    go_wp2
    go_ret
    exact ⟨ret_bool (by rw [HT.out]), HB.out⟩
  · have HT := hide (tb_false (fun h => h0 (hz.2 (HE.out.2 h))))
    clear hz
    go_wp2
    go_ret
    exact ⟨ret_bool (by rw [HT.out]; simpa using h0), HB.out⟩
set_option maxRecDepth 100000 in
theorem givenOk_any (x : Record) (us : List Value) (fp : List Nat) (w : World) (ho : OwC w x.cells us fp) (hf : Lt fp w.heap.size) (hbk : x.bulk ≤ 1048576) :
    Calls Tryz.prog 24 #[.agg us.toArray] w fun e w' => e = .returned (.bool (tb x.fine)) ∧ Below w.heap.size w w' := by
  obtain ⟨A1, c1, f1, rfl, w0, w1, o1, rfl⟩ := ho.oRecord
  obtain ⟨-, n1, m1⟩ := o1.nlen
  unfold maxLen at m1
  have hw1 : Below w.heap.size w (w.alloc (.cells #[.int .i64 x.pos, .string x.key, .slice A1 x.events.length c1] 48)) := (Below.refl _ _).alloc (Nat.le_refl _) _
  have HC := hide (evAny_any x.events _ _ _ _ _ (o1.below hw1 hf) (hf.up hw1) (by have := x.bulk_eq; omega))
  have BB := hide hw1
  clear ho hw1 o1
  go_enter Tryz.func24, Tryz.ntmps24
  go_wp2_with fail
  refine (inRange_any _ _ _ _).mono ?_
  rintro e w' ⟨rfl, rfl⟩
  by_cases h0 : 1 ≤ x.pos ∧ x.pos ≤ 999999
  rotate_left
  · have HT := hide (tb_false (fun h : x.fine => h0 h.1))
    rw [tb_false h0]
    clear h0
    go_wp2
    go_ret
    exact ⟨ret_bool HT.out.symm, BB.out⟩
  have H0 := hide h0
  rw [tb_true h0]
  clear h0
  go_wp2_with fail
  refine (isName_any _ _ w1).mono ?_
  rintro e w' ⟨rfl, rfl⟩
  by_cases h1 : NameOk x.key
  rotate_left
  · have HT := hide (tb_false (fun h : x.fine => h1 h.2.1))
    rw [tb_false h1]
    clear h1
    go_wp2
    go_ret
    exact ⟨ret_bool HT.out.symm, BB.out⟩
  have H1 := hide h1
  rw [tb_true h1]
  clear h1
  by_cases h2 : x.events.length ≤ 16000
  rotate_left
  · have HT := hide (tb_false (fun h : x.fine => h2 h.2.2.1))
    have h2' : decide ((x.events.length : Int) ≤ 16000) = false := by simp; omega
    clear h2
    go_wp2
    go_ret
    exact ⟨ret_bool HT.out.symm, BB.out⟩
  have H2 := hide h2
  have h2' : decide ((x.events.length : Int) ≤ 16000) = true := by simp; omega
  clear h2
  go_wp2_with fail
  refine HC.out.mono ?_
  rintro e w3 ⟨rfl, hb3⟩
  have HB3 := hide (BB.out.trans (hb3.mono BB.out.size))
  by_cases h3 : ∀ i (h : i < x.events.length), x.events[i].ok
  · have HT := hide (tb_true (show x.fine from ⟨H0.out, H1.out, H2.out, h3⟩))
    rw [tb_false (p := ¬ ∀ i (h : i < x.events.length), x.events[i].ok) (fun h => h h3)]
    clear h3
    go_wp2
    go_ret
    exact ⟨ret_bool HT.out.symm, HB3.out⟩
  · have HT := hide (tb_false (fun h : x.fine => h3 h.2.2.2))
    rw [tb_true h3]
    clear h3
    go_wp2
    go_ret
    exact ⟨ret_bool HT.out.symm, HB3.out⟩
set_option maxRecDepth 100000 in
theorem givenBad_any (x : Record) (us : List Value) (fp : List Nat) (w : World) (ho : OwC w x.cells us fp) (hf : Lt fp w.heap.size) (hbk : x.bulk ≤ 1048576) :
    Calls Tryz.prog 23 #[.agg us.toArray] w fun e w' => e = .returned (.bool (tb (¬ x.fine))) ∧ Below w.heap.size w w' := by
  have HHO := hide ho
  obtain ⟨A1, c1, f1, rfl, w0, w1, o1, rfl⟩ := ho.oRecord
  have hw1 : Below w.heap.size w (w.alloc (.cells #[.int .i64 x.pos, .string x.key, .slice A1 x.events.length c1] 48)) := (Below.refl _ _).alloc (Nat.le_refl _) _
  have R1 : Row (w.alloc (.cells #[.int .i64 x.pos, .string x.key, .slice A1 x.events.length c1] 48)) w.heap.size 48 [.int .i64 x.pos, .string x.key, .slice A1 x.events.length c1] := Row.new w _ _
  have HC := hide (givenOk_any x _ _ _ (HHO.out.below hw1 hf) (hf.up hw1) hbk)
  have HB := hide hw1
  have m0 := R1.cell 0
  have m1 := R1.cell 1
  have m2 := R1.cell 2
  have ml := R1.lt
  clear HHO hw1 R1 ho
  go_enter Tryz.func23, Tryz.ntmps23
  go_wp2_with fail
  refine HC.out.mono ?_
  rintro e w2 ⟨rfl, hb2⟩
  by_cases hx : x.fine
  · have HZ := hide (tb_false (p := ¬ x.fine) (fun h => h hx))
    rw [tb_true hx]
    clear hx
    go_wp2
    go_ret
    exact ⟨ret_bool HZ.out.symm, HB.out.trans (hb2.mono HB.out.size)⟩
  · have HZ := hide (tb_true (p := ¬ x.fine) hx)
    rw [tb_false hx]
    clear hx
    go_wp2
    go_ret
    exact ⟨ret_bool HZ.out.symm, HB.out.trans (hb2.mono HB.out.size)⟩
set_option maxRecDepth 100000 in
theorem givenIndex_any (l : List Record) (A : Option Addr) (n c : Nat) (fp : List Nat) (w : World) (h : Ow w (.s 3 l.length (l.flatMap Record.cells)) (.slice A n c) fp) (hf : Lt fp w.heap.size) (hbk : Record.bulkL l ≤ 1048576) :
    Calls Tryz.prog 44 #[.slice A n c, .func (.func 23) #[] #[]] w fun e w' => (∃ z : Int, e = .returned (.int .i64 z) ∧ ((0 : Int) ≤ z ↔ ∃ i, ∃ h : i < l.length, (fun y : Record => ¬ y.fine) l[i])) ∧ Below w.heap.size w w' := by
  obtain ⟨rfl, hc, hm⟩ := h.nlen
  unfold maxLen at hm
  have HO := hide h
  clear h
  go_enter Tryz.func44, Tryz.ntmps44
  go_wp2
  go_loopw [8] (fun i wr => (∃ j : Nat, j ≤ l.length ∧ i = .int .i64 j ∧ ∀ a (h : a < l.length), a < j → ¬ (fun y : Record => ¬ y.fine) l[a]) ∧ Below w.heap.size w wr) (fun i _ => l.length - (intOf i).toNat)
  case atStart => exact ⟨⟨0, Nat.zero_le _, rfl, fun a h1 h => absurd h (by omega)⟩, Below.refl _ _⟩
  case round =>
    obtain ⟨⟨j, hj, rfl, ha⟩, hb⟩ := hrel
    have HA := hide ha
    have HB := hide hb
    clear ha hb
    by_cases hlt : j < l.length
    · obtain ⟨g, off, ws, fi, rfl, hg, hfi, hwl, hcs, hov⟩ := (HO.out.below HB.out hf).elem Record.cells_len hlt
      have hfi2 : Lt fi wr.heap.size := fun b hbm => Nat.lt_of_lt_of_le (hf b (hfi hbm)) HB.out.size
      have HC := hide (givenBad_any l[j] ws fi wr hov hfi2 (Nat.le_trans (Record.bulk_in l j hlt) hbk))
      obtain ⟨A1, c1, f1, rfl, -⟩ := hov.oRecord
      have p0 := hcs 0 _ rfl
      have p1 := hcs 1 _ rfl
      have p2 := hcs 2 _ rfl
      simp only [Nat.add_zero] at p0
      have hgl : g < wr.heap.size := Nat.lt_of_lt_of_le (hf g hg) HB.out.size
      clear hcs hov
      have hyes := hide (fun (hp : (fun y : Record => ¬ y.fine) l[j]) => show (0 : Int) ≤ (j : Int) ↔ ∃ i, ∃ h : i < l.length, (fun y : Record => ¬ y.fine) l[i] from ⟨fun _ => ⟨j, hlt, hp⟩, fun _ => by omega⟩)
      have hstep := hide (all_step (P := fun y => ¬ (fun y : Record => ¬ y.fine) y) l j hlt HA.out)
      generalize l[j] = y at *
      go_wp2_with fail
      refine HC.out.mono ?_
      rintro e w2 ⟨rfl, hb2⟩
      have HB2 := hide (HB.out.trans (hb2.mono HB.out.size))
      by_cases hx : ¬ y.fine
      · rw [tb_true hx]
        have HS := hide (hyes.out hx)
        clear hx
        go_wp2
        go_ret
        exact ⟨⟨_, rfl, HS.out⟩, HB2.out⟩
      · rw [tb_false hx]
        have HS := hide (hstep.out hx)
        clear hx
        go_wp2
        go_roundw
        case rel => exact ⟨⟨j + 1, by omega, by go_num, HS.out⟩, HB2.out⟩
        case measure => simp [intOf]; omega
    · obtain rfl : j = l.length := by omega
      go_wp2
      go_ret
      exact ⟨⟨-1, rfl, ⟨fun h => absurd h (by omega), fun ⟨i, hi, hp⟩ => absurd hp (HA.out i hi hi)⟩⟩, HB.out⟩
set_option maxRecDepth 100000 in
theorem givenAny_any (l : List Record) (A : Option Addr) (n c : Nat) (fp : List Nat) (w : World) (h : Ow w (.s 3 l.length (l.flatMap Record.cells)) (.slice A n c) fp) (hf : Lt fp w.heap.size) (hbk : Record.bulkL l ≤ 1048576) :
    Calls Tryz.prog 22 #[.slice A n c, .func (.func 23) #[] #[]] w fun e w' => e = .returned (.bool (tb (¬ ∀ i (h : i < l.length), l[i].fine))) ∧ Below w.heap.size w w' := by
  have HC := hide (givenIndex_any l A n c fp w h hf hbk)
  have HE := hide (show (∃ i, ∃ h : i < l.length, (fun y : Record => ¬ y.fine) l[i]) ↔ ¬ ∀ i (h : i < l.length), l[i].fine from ⟨fun ⟨i, hi, hp⟩ ha => hp (ha i hi), fun hn => Classical.byContradiction fun hc => hn fun i hi => Classical.byContradiction fun hp => hc ⟨i, hi, hp⟩⟩)
  clear h
  go_enter Tryz.func22, Tryz.ntmps22
  go_wp2_with fail
  refine HC.out.mono ?_
  rintro e w2 ⟨⟨z, rfl, hz⟩, hb2⟩
  have HB := hide hb2
  clear hb2
  by_cases h0 : 0 ≤ z
  · have HT := hide (tb_true (HE.out.1 (hz.1 h0)))
    clear hz
    go_wp2
    go_ret
    exact ⟨ret_bool (by rw [HT.out]), HB.out⟩
  · have HT := hide (tb_false (fun h => h0 (hz.2 (HE.out.2 h))))
    clear hz
    go_wp2
    go_ret
    exact ⟨ret_bool (by rw [HT.out]; simpa using h0), HB.out⟩
set_option maxRecDepth 100000 in
theorem letterBad_any (x : DeadLetter) (us : List Value) (fp : List Nat) (w : World) (ho : OwC w x.cells us fp) (hf : Lt fp w.heap.size) :
    Calls Tryz.prog 26 #[.agg us.toArray] w fun e w' => e = .returned (.bool (tb (¬ x.fine))) ∧ Below w.heap.size w w' := by
  have HHO := hide ho
  obtain ⟨rfl, -⟩ := ho.oDeadLetter
  have hw1 : Below w.heap.size w (w.alloc (.cells #[.int .i64 x.pos, .string x.key, .int .i64 x.code, .int .i64 x.why, .string x.type_, .int .i64 x.version, .int .i64 x.behind] 44)) := (Below.refl _ _).alloc (Nat.le_refl _) _
  have R1 : Row (w.alloc (.cells #[.int .i64 x.pos, .string x.key, .int .i64 x.code, .int .i64 x.why, .string x.type_, .int .i64 x.version, .int .i64 x.behind] 44)) w.heap.size 44 [.int .i64 x.pos, .string x.key, .int .i64 x.code, .int .i64 x.why, .string x.type_, .int .i64 x.version, .int .i64 x.behind] := Row.new w _ _
  have HC := hide (implLetterOk_any x _ _ _ (HHO.out.below hw1 hf))
  have HB := hide hw1
  have m0 := R1.cell 0
  have m1 := R1.cell 1
  have m2 := R1.cell 2
  have m3 := R1.cell 3
  have m4 := R1.cell 4
  have m5 := R1.cell 5
  have m6 := R1.cell 6
  have ml := R1.lt
  clear HHO hw1 R1 ho
  go_enter Tryz.func26, Tryz.ntmps26
  go_wp2_with fail
  refine HC.out.mono ?_
  rintro e w2 ⟨rfl, hb2⟩
  by_cases hx : x.fine
  · have HZ := hide (tb_false (p := ¬ x.fine) (fun h => h hx))
    rw [tb_true hx]
    clear hx
    go_wp2
    go_ret
    exact ⟨ret_bool HZ.out.symm, HB.out.trans (hb2.mono HB.out.size)⟩
  · have HZ := hide (tb_true (p := ¬ x.fine) hx)
    rw [tb_false hx]
    clear hx
    go_wp2
    go_ret
    exact ⟨ret_bool HZ.out.symm, HB.out.trans (hb2.mono HB.out.size)⟩
set_option maxRecDepth 100000 in
theorem letterIndex_any (l : List DeadLetter) (A : Option Addr) (n c : Nat) (fp : List Nat) (w : World) (h : Ow w (.s 7 l.length (l.flatMap DeadLetter.cells)) (.slice A n c) fp) (hf : Lt fp w.heap.size) :
    Calls Tryz.prog 48 #[.slice A n c, .func (.func 26) #[] #[]] w fun e w' => (∃ z : Int, e = .returned (.int .i64 z) ∧ ((0 : Int) ≤ z ↔ ∃ i, ∃ h : i < l.length, (fun y : DeadLetter => ¬ y.fine) l[i])) ∧ Below w.heap.size w w' := by
  obtain ⟨rfl, hc, hm⟩ := h.nlen
  unfold maxLen at hm
  have HO := hide h
  clear h
  go_enter Tryz.func48, Tryz.ntmps48
  go_wp2
  go_loopw [8] (fun i wr => (∃ j : Nat, j ≤ l.length ∧ i = .int .i64 j ∧ ∀ a (h : a < l.length), a < j → ¬ (fun y : DeadLetter => ¬ y.fine) l[a]) ∧ Below w.heap.size w wr) (fun i _ => l.length - (intOf i).toNat)
  case atStart => exact ⟨⟨0, Nat.zero_le _, rfl, fun a h1 h => absurd h (by omega)⟩, Below.refl _ _⟩
  case round =>
    obtain ⟨⟨j, hj, rfl, ha⟩, hb⟩ := hrel
    have HA := hide ha
    have HB := hide hb
    clear ha hb
    by_cases hlt : j < l.length
    · obtain ⟨g, off, ws, fi, rfl, hg, hfi, hwl, hcs, hov⟩ := (HO.out.below HB.out hf).elem DeadLetter.cells_len hlt
      have hfi2 : Lt fi wr.heap.size := fun b hbm => Nat.lt_of_lt_of_le (hf b (hfi hbm)) HB.out.size
      have HC := hide (letterBad_any l[j] ws fi wr hov hfi2)
      obtain ⟨rfl, -⟩ := hov.oDeadLetter
      have p0 := hcs 0 _ rfl
      have p1 := hcs 1 _ rfl
      have p2 := hcs 2 _ rfl
      have p3 := hcs 3 _ rfl
      have p4 := hcs 4 _ rfl
      have p5 := hcs 5 _ rfl
      have p6 := hcs 6 _ rfl
      simp only [Nat.add_zero] at p0
      have hgl : g < wr.heap.size := Nat.lt_of_lt_of_le (hf g hg) HB.out.size
      clear hcs hov
      have hyes := hide (fun (hp : (fun y : DeadLetter => ¬ y.fine) l[j]) => show (0 : Int) ≤ (j : Int) ↔ ∃ i, ∃ h : i < l.length, (fun y : DeadLetter => ¬ y.fine) l[i] from ⟨fun _ => ⟨j, hlt, hp⟩, fun _ => by omega⟩)
      have hstep := hide (all_step (P := fun y => ¬ (fun y : DeadLetter => ¬ y.fine) y) l j hlt HA.out)
      generalize l[j] = y at *
      go_wp2_with fail
      refine HC.out.mono ?_
      rintro e w2 ⟨rfl, hb2⟩
      have HB2 := hide (HB.out.trans (hb2.mono HB.out.size))
      by_cases hx : ¬ y.fine
      · rw [tb_true hx]
        have HS := hide (hyes.out hx)
        clear hx
        go_wp2
        go_ret
        exact ⟨⟨_, rfl, HS.out⟩, HB2.out⟩
      · rw [tb_false hx]
        have HS := hide (hstep.out hx)
        clear hx
        go_wp2
        go_roundw
        case rel => exact ⟨⟨j + 1, by omega, by go_num, HS.out⟩, HB2.out⟩
        case measure => simp [intOf]; omega
    · obtain rfl : j = l.length := by omega
      go_wp2
      go_ret
      exact ⟨⟨-1, rfl, ⟨fun h => absurd h (by omega), fun ⟨i, hi, hp⟩ => absurd hp (HA.out i hi hi)⟩⟩, HB.out⟩
set_option maxRecDepth 100000 in
theorem letterAny_any (l : List DeadLetter) (A : Option Addr) (n c : Nat) (fp : List Nat) (w : World) (h : Ow w (.s 7 l.length (l.flatMap DeadLetter.cells)) (.slice A n c) fp) (hf : Lt fp w.heap.size) :
    Calls Tryz.prog 25 #[.slice A n c, .func (.func 26) #[] #[]] w fun e w' => e = .returned (.bool (tb (¬ ∀ i (h : i < l.length), l[i].fine))) ∧ Below w.heap.size w w' := by
  have HC := hide (letterIndex_any l A n c fp w h hf)
  have HE := hide (show (∃ i, ∃ h : i < l.length, (fun y : DeadLetter => ¬ y.fine) l[i]) ↔ ¬ ∀ i (h : i < l.length), l[i].fine from ⟨fun ⟨i, hi, hp⟩ ha => hp (ha i hi), fun hn => Classical.byContradiction fun hc => hn fun i hi => Classical.byContradiction fun hp => hc ⟨i, hi, hp⟩⟩)
  clear h
  go_enter Tryz.func25, Tryz.ntmps25
  go_wp2_with fail
  refine HC.out.mono ?_
  rintro e w2 ⟨⟨z, rfl, hz⟩, hb2⟩
  have HB := hide hb2
  clear hb2
  by_cases h0 : 0 ≤ z
  · have HT := hide (tb_true (HE.out.1 (hz.1 h0)))
    clear hz
    go_wp2
    go_ret
    exact ⟨ret_bool (by rw [HT.out]), HB.out⟩
  · have HT := hide (tb_false (fun h => h0 (hz.2 (HE.out.2 h))))
    clear hz
    go_wp2
    go_ret
    exact ⟨ret_bool (by rw [HT.out]; simpa using h0), HB.out⟩
end Go.Proofs.YtkfiebeedbjicaaGreatDoor
set_option linter.unusedVariables false
set_option linter.unusedSimpArgs false
namespace Go.Proofs.YtkfiebeedbjicaaGreatDoor
open Go.ChangeShapes Go.WideShapes Go.ChangeAt Go.RowKit

set_option maxRecDepth 100000 in
set_option maxHeartbeats 1000000 in
theorem specGivenOk_any (l : List Record) (A : Option Addr) (n c : Nat) (fp : List Nat) (w : World) (h : Ow w (.s 3 l.length (l.flatMap Record.cells)) (.slice A n c) fp) (hf : Lt fp w.heap.size) (hbk : Record.bulkL l ≤ 1048576) :
    Calls Tryz.prog 12 #[.slice A n c] w fun e w' => e = .returned (.bool (tb (l.length ≤ 200 ∧ ∀ i (h : i < l.length), l[i].fine))) ∧ Below w.heap.size w w' := by
  obtain ⟨rfl, hc, hm⟩ := h.nlen
  unfold maxLen at hm
  have HO := hide h
  have HF := hide hf
  clear h hf
  go_enter Tryz.func12, Tryz.ntmps12
  by_cases h2 : l.length ≤ 200
  rotate_left
  · have HT := hide (tb_false (fun h : l.length ≤ 200 ∧ ∀ i (h : i < l.length), l[i].fine => h2 h.1))
    have h3 : (200 : Int) < (l.length : Int) := by omega
    clear h2
    go_wp2
    go_ret
    exact ⟨ret_bool HT.out.symm, Below.refl _ _⟩
  have h3 : ¬ ((200 : Int) < (l.length : Int)) := by omega
  go_wp2
  go_loopw [3] (fun i wr => (∃ k : Nat, k ≤ l.length ∧ i = .int .i64 k ∧ ∀ j (h : j < l.length), j < k → l[j].fine) ∧ Below w.heap.size w wr) (fun i _ => l.length - (intOf i).toNat)
  case atStart => exact ⟨⟨0, Nat.zero_le _, rfl, fun j h hj => by omega⟩, Below.refl _ _⟩
  case round =>
    obtain ⟨wo, hwo⟩ : ∃ W, W = wr := ⟨_, rfl⟩
    subst hwo
    obtain ⟨⟨k, hk, rfl, ha⟩, hbel⟩ := hrel
    have HA := hide ha
    have HB := hide hbel
    clear ha hbel
    by_cases hlt : k < l.length
    rotate_left
    · obtain rfl : k = l.length := by omega
      have HT := hide (tb_true (show l.length ≤ 200 ∧ ∀ i (h : i < l.length), l[i].fine from ⟨h2, fun i h => HA.out i h h⟩))
      go_wp2
      go_ret
      exact ⟨ret_bool HT.out.symm, HB.out⟩
    obtain ⟨g, off, vs, fi, rfl, hg, hfi, hvl, hcs, hov⟩ := (HO.out.below HB.out HF.out).elem Record.cells_len hlt
    have hfi2 : Lt fi wo.heap.size := fun b hbm => Nat.lt_of_lt_of_le (HF.out b (hfi hbm)) HB.out.size
    have hgl : g < wo.heap.size := Nat.lt_of_lt_of_le (HF.out g hg) HB.out.size
    have hbk1 : l[k].bulk ≤ 1048576 := Nat.le_trans (Record.bulk_in l k hlt) hbk
    obtain ⟨A1, c1, f1, rfl, w0, w1, o1, rfl⟩ := hov.oRecord
    obtain ⟨-, n1, m1⟩ := o1.nlen
    unfold maxLen at m1
    have p0 := hcs 0 _ rfl
    have p1 := hcs 1 _ rfl
    have p2 := hcs 2 _ rfl
    simp only [Nat.add_zero] at p0
    clear hcs hov
    have HBAD := hide (fun (hn : ¬ l[k].fine) => tb_false (fun hh : l.length ≤ 200 ∧ ∀ i (h : i < l.length), l[i].fine => hn (hh.2 k hlt)))
    have HSTEP := hide (all_step (P := fun y => y.fine) l k hlt HA.out)
    have HO1 := hide o1
    clear o1
    generalize l[k] = x at *
    have hbe : Event.bulkL x.events ≤ 1048576 := by have := x.bulk_eq; omega
    go_wp2_with fail
    refine (l6In_any _ _ _ _).mono ?_
    rintro e w' ⟨rfl, rfl⟩
    by_cases h0 : 1 ≤ x.pos ∧ x.pos ≤ 999999
    rotate_left
    · have HT := hide (HBAD.out (fun h => h0 h.1))
      rw [tb_false h0]
      clear h0
      go_wp2
      go_ret
      exact ⟨ret_bool HT.out.symm, HB.out⟩
    have H0 := hide h0
    rw [tb_true h0]
    clear h0
    go_wp2_with fail
    refine (l6NameOk_any _ _ w1).mono ?_
    rintro e w' ⟨rfl, rfl⟩
    by_cases h1 : NameOk x.key
    rotate_left
    · have HT := hide (HBAD.out (fun h => h1 h.2.1))
      rw [tb_false h1]
      clear h1
      go_wp2
      go_ret
      exact ⟨ret_bool HT.out.symm, HB.out⟩
    have H1 := hide h1
    rw [tb_true h1]
    clear h1
    by_cases h4 : x.events.length ≤ 16000
    rotate_left
    · have HT := hide (HBAD.out (fun h => h4 h.2.2.1))
      have h5 : (16000 : Int) < (x.events.length : Int) := by omega
      clear h4
      go_wp2
      go_ret
      exact ⟨ret_bool HT.out.symm, HB.out⟩
    have H2 := hide h4
    have h5 : ¬ ((16000 : Int) < (x.events.length : Int)) := by omega
    clear h4
    go_wp2
    go_loopw [4] (fun i w2 => (∃ j : Nat, j ≤ x.events.length ∧ i = .int .i64 j ∧ ∀ a (h : a < x.events.length), a < j → x.events[a].ok) ∧ Below wo.heap.size wo w2) (fun i _ => x.events.length - (intOf i).toNat)
    case atStart => exact ⟨⟨0, Nat.zero_le _, rfl, fun j h hj => by omega⟩, Below.refl _ _⟩
    case round =>
      obtain ⟨⟨j, hj, rfl, ha⟩, hbel⟩ := hrel
      have HA2 := hide ha
      have HB2 := hide hbel
      have q2 := (hbel.cell (p := ⟨g, off + k * 3 + 2, none⟩) hgl).trans p2
      have hgl2 : g < wr.heap.size := Nat.lt_of_lt_of_le hgl hbel.size
      clear ha hbel p0 p1 p2
      by_cases hlt2 : j < x.events.length
      rotate_left
      · obtain rfl : j = x.events.length := by omega
        have HS := hide (HSTEP.out (show x.fine from ⟨H0.out, H1.out, H2.out, fun i h => HA2.out i h h⟩))
        go_wp2
        go_roundw
        case rel => exact ⟨⟨k + 1, by omega, by go_num, HS.out⟩, HB.out.trans (HB2.out.mono HB.out.size)⟩
        case measure => simp [intOf]; omega
      obtain ⟨g2, off2, vs2, fi2, rfl, hg2, hfi3, hvl2, hcs2, hov2⟩ := (HO1.out.below HB2.out hfi2).elem Event.cells_len hlt2
      have hfi4 : Lt fi2 wr.heap.size := fun b hbm => Nat.lt_of_lt_of_le (hfi2 b (hfi3 hbm)) HB2.out.size
      have hgl3 : g2 < wr.heap.size := Nat.lt_of_lt_of_le (hfi2 g2 hg2) HB2.out.size
      have HC := hide (specEventOk_any x.events[j] _ _ wr hov2 hfi4 (Nat.le_trans (Event.bulk_in x.events j hlt2) hbe))
      obtain ⟨A2, c2, A3, c3, f2, f3, rfl, -⟩ := hov2.oEvent
      have r0 := hcs2 0 _ rfl
      have r1 := hcs2 1 _ rfl
      have r2 := hcs2 2 _ rfl
      have r3 := hcs2 3 _ rfl
      have r4 := hcs2 4 _ rfl
      have r5 := hcs2 5 _ rfl
      have r6 := hcs2 6 _ rfl
      simp only [Nat.add_zero] at r0
      clear hcs2 hov2
      have HBAD2 := hide (fun (hn : ¬ x.events[j].ok) => HBAD.out (fun h => hn (h.2.2.2 j hlt2)))
      have HSTEP2 := hide (all_step (P := fun y => y.ok) x.events j hlt2 HA2.out)
      generalize x.events[j] = y at *
      go_wp2_with fail
      refine HC.out.mono ?_
      rintro e w3 ⟨rfl, hb3⟩
      have HB3 := hide (HB2.out.trans (hb3.mono HB2.out.size))
      by_cases hy : y.ok
      rotate_left
      · have HT := hide (HBAD2.out hy)
        rw [tb_false hy]
        clear hy
        go_wp2
        go_ret
        exact ⟨ret_bool HT.out.symm, HB.out.trans (HB3.out.mono HB.out.size)⟩
      have HS := hide (HSTEP2.out hy)
      rw [tb_true hy]
      clear hy
      go_wp2
      go_roundw
      case rel => exact ⟨⟨j + 1, by omega, by go_num, HS.out⟩, HB3.out⟩
      case measure => simp [intOf]; omega
end Go.Proofs.YtkfiebeedbjicaaGreatDoor
set_option linter.unusedVariables false
set_option linter.unusedSimpArgs false
namespace Go.Proofs.YtkfiebeedbjicaaGreatDoor
open Go.ChangeShapes Go.WideShapes Go.ChangeAt Go.RowKit

def evsText (l : List Event) : ByteArray := l.foldl (fun s e => s ++ (⟨#[32]⟩ ++ e.wr)) .empty
def Record.line (r : Record) : ByteArray := dec r.pos ++ ⟨#[32]⟩ ++ r.key ++ evsText r.events ++ ⟨#[10]⟩
def DeadLetter.head (x : DeadLetter) : ByteArray := dec x.pos ++ ⟨#[32]⟩ ++ x.key ++ ⟨#[32, 100, 101, 97, 100]⟩ ++ (⟨#[32]⟩ ++ dec x.code)
def DeadLetter.line (x : DeadLetter) : ByteArray := if x.code = 10 then x.head ++ ⟨#[32, 98, 101, 104, 105, 110, 100]⟩ ++ (⟨#[32]⟩ ++ dec x.behind) ++ ⟨#[10]⟩ else x.head ++ (⟨#[32]⟩ ++ dec x.why) ++ ⟨#[32]⟩ ++ x.type_ ++ ⟨#[64]⟩ ++ dec x.version ++ ⟨#[10]⟩
def DeadHold.line (h : DeadHold) : ByteArray := ⟨#[104, 101, 108, 100, 32]⟩ ++ h.key ++ ⟨#[32, 98, 101, 104, 105, 110, 100]⟩ ++ (⟨#[32]⟩ ++ dec h.behind) ++ ⟨#[10]⟩
def linesOf {α : Type} (f : α → ByteArray) (s : ByteArray) (l : List α) : ByteArray := l.foldl (fun s x => s ++ f x) s
theorem linesOf_snoc {α : Type} (f : α → ByteArray) (s : ByteArray) (l : List α) (i : Nat) (h : i < l.length) : linesOf f s (l.take (i + 1)) = linesOf f s (l.take i) ++ f l[i] := by
  unfold linesOf
  rw [List.take_succ_eq_append_getElem h, List.foldl_append]
  rfl
theorem linesOf_size {α : Type} (f : α → ByteArray) (m : Nat) : ∀ (l : List α) (s : ByteArray), (∀ i (h : i < l.length), (f l[i]).size ≤ m) → (linesOf f s l).size ≤ s.size + m * l.length
  | [], s, _ => by simp [linesOf]
  | x :: l, s, h => by
    have h1 := linesOf_size f m l (s ++ f x) (fun i hi => by have := h (i + 1) (by simpa using hi); simpa using this)
    have h2 : (f x).size ≤ m := by have := h 0 (by simp); simpa using this
    rw [ByteArray.size_append] at h1
    have e : linesOf f s (x :: l) = linesOf f (s ++ f x) l := rfl
    rw [e, List.length_cons, Nat.mul_add, Nat.mul_one]
    omega
theorem linesOf_take {α : Type} (f : α → ByteArray) (m n : Nat) (l : List α) (s : ByteArray) (h : ∀ i (h : i < l.length), (f l[i]).size ≤ m) (hn : l.length ≤ n) (j : Nat) : (linesOf f s (l.take j)).size ≤ s.size + m * n := by
  have h1 := linesOf_size f m (l.take j) s (fun i hi => by
    rw [List.getElem_take]
    exact h i (by rw [List.length_take] at hi; omega))
  have h2 : m * (l.take j).length ≤ m * n := Nat.mul_le_mul_left _ (by rw [List.length_take]; omega)
  omega
def evPiece (e : Event) : ByteArray := ⟨#[32]⟩ ++ e.wr
theorem evsText_eq (l : List Event) : evsText l = linesOf evPiece .empty l := rfl
theorem ev_size (e : Event) (h : e.ok) : e.wr.size ≤ 9640 := by
  have h1 : e.type_.size ≤ 8 := h.1.2.1
  have h2 := Tree.wr_size e.body 1 h.2.2.2.1
  have h3 : e.body.parts ≤ 120 := by have := h.2.2.2.2; omega
  have h4 := dec_size e.version (by have := h.2.1; omega) (by have := h.2.1; omega)
  have e1 : (ByteArray.mk #[64]).size = 1 := rfl
  unfold Event.wr
  simp only [ByteArray.size_append]
  omega
theorem evPiece_size (e : Event) (h : e.ok) : (evPiece e).size ≤ 9641 := by
  have h1 := ev_size e h
  have e1 : (ByteArray.mk #[32]).size = 1 := rfl
  unfold evPiece
  rw [ByteArray.size_append]
  omega
theorem evs_size (r : Record) (h : r.fine) (j : Nat) : (linesOf evPiece .empty (r.events.take j)).size ≤ 154256000 := by
  have := linesOf_take evPiece 9641 16000 r.events .empty (fun i hi => evPiece_size _ (h.2.2.2 i hi)) h.2.2.1 j
  have e : (ByteArray.empty).size = 0 := rfl
  omega
theorem Record.line_size (r : Record) (h : r.fine) : r.line.size ≤ 154256100 := by
  have h1 := evs_size r h r.events.length
  rw [List.take_length] at h1
  have h2 := dec_size r.pos (by have := h.1; omega) (by have := h.1; omega)
  have h3 : r.key.size ≤ 8 := h.2.1.2.1
  have e1 : (ByteArray.mk #[32]).size = 1 := rfl
  have e2 : (ByteArray.mk #[10]).size = 1 := rfl
  unfold Record.line
  rw [evsText_eq]
  simp only [ByteArray.size_append]
  omega
theorem type_size (x : DeadLetter) (h : x.fine) : x.type_.size ≤ 8 := by
  rcases h.2.2.2.2.1 with h | h
  · have : x.type_.size = 0 := by
      rw [ByteArray.toList_eq] at h
      have : x.type_.data.size = 0 := by simpa using congrArg List.length h
      exact this
    omega
  · exact h.2.1
theorem DeadLetter.head_size (x : DeadLetter) (h : x.fine) : x.head.size ≤ 60 := by
  have h2 := dec_size x.pos (by have := h.1; omega) (by have := h.1; omega)
  have h4 := dec_size x.code (by have := h.2.2.1; omega) (by have := h.2.2.1; omega)
  have h3 : x.key.size ≤ 8 := h.2.1.2.1
  have e1 : (ByteArray.mk #[32]).size = 1 := rfl
  have e2 : (ByteArray.mk #[32, 100, 101, 97, 100]).size = 5 := rfl
  unfold DeadLetter.head
  simp only [ByteArray.size_append]
  omega
theorem DeadLetter.line_size (x : DeadLetter) (h : x.fine) : x.line.size ≤ 200 := by
  have h1 := x.head_size h
  have h2 := dec_size x.behind (by have := h.2.2.2.2.2.2; omega) (by have := h.2.2.2.2.2.2; omega)
  have h3 := dec_size x.why (by have := h.2.2.2.1; omega) (by have := h.2.2.2.1; omega)
  have h4 := dec_size x.version (by have := h.2.2.2.2.2.1; omega) (by have := h.2.2.2.2.2.1; omega)
  have h5 := type_size x h
  have e1 : (ByteArray.mk #[32]).size = 1 := rfl
  have e2 : (ByteArray.mk #[32, 98, 101, 104, 105, 110, 100]).size = 7 := rfl
  have e3 : (ByteArray.mk #[64]).size = 1 := rfl
  have e4 : (ByteArray.mk #[10]).size = 1 := rfl
  unfold DeadLetter.line
  split <;> simp only [ByteArray.size_append] <;> omega
theorem DeadHold.line_size (x : DeadHold) (h : NameOk x.key) (hb : 1 ≤ x.behind ∧ x.behind ≤ 999999) : x.line.size ≤ 100 := by
  have h2 := dec_size x.behind (by omega) (by omega)
  have h3 : x.key.size ≤ 8 := h.2.1
  have e1 : (ByteArray.mk #[32]).size = 1 := rfl
  have e2 : (ByteArray.mk #[32, 98, 101, 104, 105, 110, 100]).size = 7 := rfl
  have e3 : (ByteArray.mk #[104, 101, 108, 100, 32]).size = 5 := rfl
  have e4 : (ByteArray.mk #[10]).size = 1 := rfl
  unfold DeadHold.line
  simp only [ByteArray.size_append]
  omega
/-- the board's lines, one sort behind the other -/
def DeadDone.t1 (d : DeadDone) (j : Nat) : ByteArray := linesOf Record.line .empty (d.given.take j)
def DeadDone.t2 (d : DeadDone) (j : Nat) : ByteArray := linesOf DeadLetter.line (d.t1 d.given.length) (d.dead.take j)
def DeadDone.t3 (d : DeadDone) (j : Nat) : ByteArray := linesOf DeadHold.line (d.t2 d.dead.length) (d.held.take j)
noncomputable def DeadDone.board (d : DeadDone) : ByteArray := if tb d.fine = true then d.t3 d.held.length else .empty
theorem DeadDone.t1_size (d : DeadDone) (h : d.fine) (j : Nat) : (d.t1 j).size ≤ 30851220000 := by
  have := linesOf_take Record.line 154256100 200 d.given .empty (fun i hi => Record.line_size _ (h.2.2.2.2.1 i hi)) h.2.1 j
  have e : (ByteArray.empty).size = 0 := rfl
  unfold DeadDone.t1
  omega
theorem DeadDone.t2_size (d : DeadDone) (h : d.fine) (j : Nat) : (d.t2 j).size ≤ 30851260000 := by
  have h1 := d.t1_size h d.given.length
  have := linesOf_take DeadLetter.line 200 200 d.dead (d.t1 d.given.length) (fun i hi => DeadLetter.line_size _ (h.2.2.2.2.2 i hi)) h.2.2.1 j
  unfold DeadDone.t2
  omega
theorem DeadDone.t3_size (d : DeadDone) (h : d.fine) (j : Nat) : (d.t3 j).size ≤ 30851280000 := by
  have h1 := d.t2_size h d.dead.length
  have := linesOf_take DeadHold.line 100 200 d.held (d.t2 d.dead.length) (fun i hi => DeadHold.line_size _ (h.2.2.2.1.2 i hi).1 (h.2.2.2.1.2 i hi).2.1) h.2.2.2.1.1 j
  unfold DeadDone.t3
  omega
end Go.Proofs.YtkfiebeedbjicaaGreatDoor
set_option linter.unusedVariables false
set_option linter.unusedSimpArgs false
namespace Go.Proofs.YtkfiebeedbjicaaGreatDoor
open Go.ChangeShapes Go.WideShapes Go.ChangeAt Go.RowKit

def Record.upto (x : Record) (s : ByteArray) (j : Nat) : ByteArray := s ++ dec x.pos ++ ⟨#[32]⟩ ++ x.key ++ linesOf evPiece .empty (x.events.take j)
theorem Record.upto_zero (x : Record) (s : ByteArray) : x.upto s 0 = s ++ dec x.pos ++ ⟨#[32]⟩ ++ x.key := by
  unfold Record.upto
  have e : linesOf evPiece .empty (x.events.take 0) = .empty := rfl
  rw [e, ByteArray.append_empty]
theorem Record.upto_succ (x : Record) (s : ByteArray) (j : Nat) (h : j < x.events.length) : x.upto s (j + 1) = x.upto s j ++ ⟨#[32]⟩ ++ x.events[j].wr := by
  unfold Record.upto
  rw [linesOf_snoc _ _ _ _ h]
  unfold evPiece
  simp only [ByteArray.append_assoc]
theorem Record.upto_all (x : Record) (s : ByteArray) : s ++ x.line = x.upto s x.events.length ++ ⟨#[10]⟩ := by
  unfold Record.upto Record.line
  rw [List.take_length, evsText_eq]
  simp only [ByteArray.append_assoc]
theorem Record.upto_size (x : Record) (s : ByteArray) (h : x.fine) (j : Nat) : (x.upto s j).size ≤ s.size + 154256100 := by
  have h1 := evs_size x h j
  have h2 := dec_size x.pos (by have := h.1; omega) (by have := h.1; omega)
  have h3 : x.key.size ≤ 8 := h.2.1.2.1
  have e1 : (ByteArray.mk #[32]).size = 1 := rfl
  unfold Record.upto
  simp only [ByteArray.size_append]
  omega
theorem hold_line (x : DeadHold) (s : ByteArray) : s ++ x.line = s ++ ⟨#[104, 101, 108, 100, 32]⟩ ++ x.key ++ ⟨#[32, 98, 101, 104, 105, 110, 100, 32]⟩ ++ dec x.behind ++ ⟨#[10]⟩ := by
  have e : (⟨#[32, 98, 101, 104, 105, 110, 100, 32]⟩ : ByteArray) = ⟨#[32, 98, 101, 104, 105, 110, 100]⟩ ++ ⟨#[32]⟩ := by rfl
  unfold DeadHold.line
  simp only [e, ByteArray.append_assoc]
theorem DeadDone.t1_succ (d : DeadDone) (j : Nat) (h : j < d.given.length) : d.t1 (j + 1) = d.t1 j ++ d.given[j].line := linesOf_snoc _ _ _ _ h
theorem DeadDone.t2_succ (d : DeadDone) (j : Nat) (h : j < d.dead.length) : d.t2 (j + 1) = d.t2 j ++ d.dead[j].line := linesOf_snoc _ _ _ _ h
theorem DeadDone.t3_succ (d : DeadDone) (j : Nat) (h : j < d.held.length) : d.t3 (j + 1) = d.t3 j ++ d.held[j].line := linesOf_snoc _ _ _ _ h
theorem DeadDone.board_yes (d : DeadDone) (h : d.fine) : d.board = d.t3 d.held.length := by
  unfold DeadDone.board
  rw [if_pos (tb_true h)]
theorem DeadDone.board_no (d : DeadDone) (h : ¬ d.fine) : d.board = .empty := by
  unfold DeadDone.board
  rw [if_neg (by rw [tb_false h]; simp)]
theorem Event.write_yes (x : Event) (h : x.ok) : x.write = x.wr := by
  unfold Event.write
  rw [if_pos (tb_true h)]
theorem DeadHold.bulk_in (l : List DeadHold) (i : Nat) (h : i < l.length) : l[i].bulk ≤ DeadHold.bulkL l := by
  have := DeadHold.bulk_at l i h
  unfold DeadHold.bulkL
  omega
end Go.Proofs.YtkfiebeedbjicaaGreatDoor
set_option linter.unusedVariables false
set_option linter.unusedSimpArgs false
namespace Go.Proofs.YtkfiebeedbjicaaGreatDoor
open Go.ChangeShapes Go.WideShapes Go.ChangeAt Go.RowKit

theorem letter_head (x : DeadLetter) : x.head = dec x.pos ++ ⟨#[32]⟩ ++ x.key ++ ⟨#[32, 100, 101, 97, 100, 32]⟩ ++ dec x.code := by
  have e : (⟨#[32, 100, 101, 97, 100, 32]⟩ : ByteArray) = ⟨#[32, 100, 101, 97, 100]⟩ ++ ⟨#[32]⟩ := by rfl
  unfold DeadLetter.head
  simp only [e, ByteArray.append_assoc]
theorem letter_parked (x : DeadLetter) (h : x.code = 10) : x.line = x.head ++ ⟨#[32, 98, 101, 104, 105, 110, 100, 32]⟩ ++ dec x.behind ++ ⟨#[10]⟩ := by
  have e : (⟨#[32, 98, 101, 104, 105, 110, 100, 32]⟩ : ByteArray) = ⟨#[32, 98, 101, 104, 105, 110, 100]⟩ ++ ⟨#[32]⟩ := by rfl
  unfold DeadLetter.line
  rw [if_pos h]
  simp only [e, ByteArray.append_assoc]
theorem letter_else (x : DeadLetter) (h : ¬ x.code = 10) : x.line = x.head ++ ⟨#[32]⟩ ++ dec x.why ++ ⟨#[32]⟩ ++ x.type_ ++ ⟨#[64]⟩ ++ dec x.version ++ ⟨#[10]⟩ := by
  unfold DeadLetter.line
  rw [if_neg h]
  simp only [ByteArray.append_assoc]
theorem specDec_nn2 (z : Int) (h0 : 0 ≤ z) (h1 : z ≤ 4611686018427387904) (w : World) : Calls Tryz.prog 15 #[.int .i64 z] w fun e w' => e = .returned (.string (dec z)) ∧ Below w.heap.size w w' := by
  obtain ⟨n, rfl⟩ := Int.eq_ofNat_of_zero_le h0
  exact specDecN_any n w (by omega)
set_option maxRecDepth 100000 in
set_option maxHeartbeats 4000000 in
theorem specLetter_any (x : DeadLetter) (us : List Value) (fp : List Nat) (w : World) (ho : OwC w x.cells us fp) (hok : x.fine) :
    Calls Tryz.prog 17 #[.agg us.toArray] w fun e w' => e = .returned (.string x.line) ∧ Below w.heap.size w w' := by
  obtain ⟨rfl, w0, w1, w2, w3, w4, w5, w6, rfl⟩ := ho.oDeadLetter
  have hw1 : Below w.heap.size w (w.alloc (.cells #[.int .i64 x.pos, .string x.key, .int .i64 x.code, .int .i64 x.why, .string x.type_, .int .i64 x.version, .int .i64 x.behind] 44)) := (Below.refl _ _).alloc (Nat.le_refl _) _
  have R1 : Row (w.alloc (.cells #[.int .i64 x.pos, .string x.key, .int .i64 x.code, .int .i64 x.why, .string x.type_, .int .i64 x.version, .int .i64 x.behind] 44)) w.heap.size 44 [.int .i64 x.pos, .string x.key, .int .i64 x.code, .int .i64 x.why, .string x.type_, .int .i64 x.version, .int .i64 x.behind] := Row.new w _ _
  have HRW := hide R1
  have HB := hide hw1
  have hh := x.head_size hok
  have hpos := hok.1
  have hk : x.key.size ≤ 8 := hok.2.1.2.1
  have hcode := hok.2.2.1
  have hwhy := hok.2.2.2.1
  have hty := type_size x hok
  have hver := hok.2.2.2.2.2.1
  have hbeh := hok.2.2.2.2.2.2
  have HEQ := hide (letter_head x)
  have HPK := hide (letter_parked x)
  have HEL := hide (letter_else x)
  clear ho hw1 R1 hok
  have t1 := dec_size x.pos (by omega) (by omega)
  have t2 := dec_size x.code (by omega) (by omega)
  have t3 := dec_size x.behind (by omega) (by omega)
  have t4 := dec_size x.why (by omega) (by omega)
  have t5 := dec_size x.version (by omega) (by omega)
  have D1 := hide (fun W => specDec_nn2 x.pos (by omega) (by omega) W)
  have D2 := hide (fun W => specDec_nn2 x.code (by omega) (by omega) W)
  have D3 := hide (fun W => specDec_nn2 x.behind (by omega) (by omega) W)
  have D4 := hide (fun W => specDec_nn2 x.why (by omega) (by omega) W)
  have D5 := hide (fun W => specDec_nn2 x.version (by omega) (by omega) W)
  generalize dec x.pos = d1 at *
  generalize dec x.code = d2 at *
  generalize dec x.behind = d3 at *
  generalize dec x.why = d4 at *
  generalize dec x.version = d5 at *
  generalize x.head = hd at *
  have n1 : ¬ (9223372036854775807 < d1.size + 1) := by omega
  have n2 : ¬ (9223372036854775807 < d1.size + 1 + x.key.size) := by omega
  have n3 : ¬ (9223372036854775807 < d1.size + 1 + x.key.size + 6) := by omega
  have n4 : ¬ (9223372036854775807 < d1.size + 1 + x.key.size + 6 + d2.size) := by omega
  have m1 : ¬ (9223372036854775807 < hd.size + 8) := by omega
  have m2 : ¬ (9223372036854775807 < hd.size + 8 + d3.size) := by omega
  have m3 : ¬ (9223372036854775807 < hd.size + 8 + d3.size + 1) := by omega
  have k1 : ¬ (9223372036854775807 < hd.size + 1) := by omega
  have k2 : ¬ (9223372036854775807 < hd.size + 1 + d4.size) := by omega
  have k3 : ¬ (9223372036854775807 < hd.size + 1 + d4.size + 1) := by omega
  have k4 : ¬ (9223372036854775807 < hd.size + 1 + d4.size + 1 + x.type_.size) := by omega
  have k5 : ¬ (9223372036854775807 < hd.size + 1 + d4.size + 1 + x.type_.size + 1) := by omega
  have k6 : ¬ (9223372036854775807 < hd.size + 1 + d4.size + 1 + x.type_.size + 1 + d5.size) := by omega
  have k7 : ¬ (9223372036854775807 < hd.size + 1 + d4.size + 1 + x.type_.size + 1 + d5.size + 1) := by omega
  have HSZ := hide (And.intro t3 (And.intro t4 t5))
  clear t1 t2 t3 t4 t5 hk hh hty
  go_enter Tryz.func17, Tryz.ntmps17
  go_upto_region 1 with fail
  generalize w.alloc _ = w3 at HRW HB ⊢
  have HSS := hide (fun (W : World) (hb : Below w3.heap.size w3 W) => show W.cell? ⟨w.heap.size, 0, none⟩ = some (.int .i64 x.pos) ∧ W.cell? ⟨w.heap.size, 1, none⟩ = some (.string x.key) ∧ W.cell? ⟨w.heap.size, 2, none⟩ = some (.int .i64 x.code) from
    ⟨(HRW.out.below hb HRW.out.lt).cell 0, (HRW.out.below hb HRW.out.lt).cell 1, (HRW.out.below hb HRW.out.lt).cell 2⟩)
  have hbr : Below w3.heap.size w3 w3.drew := below_drewN (Below.refl _ _) 1
  go_wp2_with fail
  go_region_held3 (fun W => W.cell? ⟨w.heap.size, 0, none⟩ = some (.int .i64 x.pos) ∧ W.cell? ⟨w.heap.size, 1, none⟩ = some (.string x.key) ∧ W.cell? ⟨w.heap.size, 2, none⟩ = some (.int .i64 x.code))
    (first | exact HSS.out _ hBC | exact HSS.out _ hBB | exact HSS.out _ hbr)
    (first
      | (have hM := hBB; go_at_call 15; refine (D2.out _).mono ?_; rintro e wc ⟨rfl, hbc⟩; have hBC := hBB.trans (hbc.mono hBB.size); clear hbc)
      | (go_at_call 15; refine (D1.out _).mono ?_; rintro e wb ⟨rfl, hbb⟩; have hBB := hbr.trans (hbb.mono hbr.size); clear hbb))
  all_goals
    rw [← HEQ.out]
    have HRC := hide (HRW.out.below hBC HRW.out.lt)
    have HBC := hide (HB.out.trans (hBC.mono HB.out.size))
    clear hBC hBB hbr HSS HEQ n1 n2 n3 n4
    have z2 := HRC.out.cell 2
    have zl := HRC.out.lt
    by_cases hc : x.code = 10
    · have HZ := hide (HPK.out hc)
      have e10 : (x.code == 10) = true := by simpa using hc
      have z6 := HRC.out.cell 6
      clear hc hcode
      go_wp2_with fail
      refine (D3.out _).mono ?_
      rintro e wd ⟨rfl, hbd⟩
      have HBD := hide (HBC.out.trans (hbd.mono HBC.out.size))
      clear hbd
      go_wp2
      go_ret
      exact ⟨ret_str HZ.out.symm, HBD.out⟩
    · have HZ := hide (HEL.out hc)
      have e10 : (x.code == 10) = false := by simpa using hc
      clear hc hcode
      have HSS := hide (fun (W : World) (hb : Below wc.heap.size wc W) => show W.cell? ⟨w.heap.size, 3, none⟩ = some (.int .i64 x.why) ∧ W.cell? ⟨w.heap.size, 4, none⟩ = some (.string x.type_) ∧ W.cell? ⟨w.heap.size, 5, none⟩ = some (.int .i64 x.version) from
        ⟨(HRC.out.below hb HRC.out.lt).cell 3, (HRC.out.below hb HRC.out.lt).cell 4, (HRC.out.below hb HRC.out.lt).cell 5⟩)
      have hbr : Below wc.heap.size wc wc.drew := below_drewN (Below.refl _ _) 1
      go_wp2_with fail
      go_region_held3 (fun W => W.cell? ⟨w.heap.size, 3, none⟩ = some (.int .i64 x.why) ∧ W.cell? ⟨w.heap.size, 4, none⟩ = some (.string x.type_) ∧ W.cell? ⟨w.heap.size, 5, none⟩ = some (.int .i64 x.version))
        (first | exact HSS.out _ hBE | exact HSS.out _ hBD | exact HSS.out _ hbr)
        (first
          | (have hM := hBD; go_at_call 15; refine (D5.out _).mono ?_; rintro e we ⟨rfl, hbe⟩; have hBE := hBD.trans (hbe.mono hBD.size); clear hbe)
          | (go_at_call 15; refine (D4.out _).mono ?_; rintro e wd ⟨rfl, hbd⟩; have hBD := hbr.trans (hbd.mono hbr.size); clear hbd))
      all_goals
        go_wp2
        go_ret
        exact ⟨ret_str HZ.out.symm, HBC.out.trans (hBE.mono HBC.out.size)⟩
end Go.Proofs.YtkfiebeedbjicaaGreatDoor
set_option linter.unusedVariables false
set_option linter.unusedSimpArgs false
namespace Go.Proofs.YtkfiebeedbjicaaGreatDoor
open Go.ChangeShapes Go.WideShapes Go.ChangeAt Go.RowKit

set_option maxRecDepth 100000 in
set_option maxHeartbeats 8000000 in
theorem specDeadBoard_any (d : DeadDone) (us : List Value) (fp : List Nat) (w : World) (ho : OwC w d.cells us fp) (hf : Lt fp w.heap.size) (hbk : d.bulk ≤ 1048576) :
    Calls Tryz.prog 5 #[.agg us.toArray] w fun e w' => e = .returned (.string d.board) ∧ Below w.heap.size w w' := by
  obtain ⟨A1, c1, A2, c2, A3, c3, f1, f2, f3, rfl, o1, o2, o3, rfl⟩ := ho.oDeadDone
  obtain ⟨-, n1, m1⟩ := o1.nlen
  obtain ⟨-, n2, m2⟩ := o2.nlen
  obtain ⟨-, n3, m3⟩ := o3.nlen
  unfold maxLen at m1 m2 m3
  have hf1 := hf.left
  have hf2 := hf.right.left
  have hf3 := hf.right.right
  have hbe := d.bulk_eq
  have hbk1 : Record.bulkL d.given ≤ 1048576 := by omega
  have hw1 : Below w.heap.size w (w.alloc (.cells #[.bool d.ok, .slice A1 d.given.length c1, .slice A2 d.dead.length c2, .slice A3 d.held.length c3] 33)) := (Below.refl _ _).alloc (Nat.le_refl _) _
  have R1 : Row (w.alloc (.cells #[.bool d.ok, .slice A1 d.given.length c1, .slice A2 d.dead.length c2, .slice A3 d.held.length c3] 33)) w.heap.size 33 [.bool d.ok, .slice A1 d.given.length c1, .slice A2 d.dead.length c2, .slice A3 d.held.length c3] := Row.new w _ _
  have HR := hide R1
  have HB := hide hw1
  have O1 := hide o1
  have O2 := hide o2
  have O3 := hide o3
  have HNOT := hide (fun h => d.board_no h)
  have HALL := hide (fun h => d.board_yes h)
  have HFI := hide (show d.fine ↔ d.ok = true ∧ d.given.length ≤ 200 ∧ d.dead.length ≤ 200 ∧ holdsOk d.held ∧ (∀ i (h : i < d.given.length), d.given[i].fine) ∧ (∀ i (h : i < d.dead.length), d.dead[i].fine) from Iff.rfl)
  have HS1 := hide (fun h => d.t1_size h)
  have HS2 := hide (fun h => d.t2_size h)
  have HS3 := hide (fun h => d.t3_size h)
  clear ho hw1 R1 o1 o2 o3 hbe
  go_enter Tryz.func5, Tryz.ntmps5
  go_upto_region 1 with fail
  generalize w.alloc _ = wa at HR HB ⊢
  by_cases hok : d.ok = true
  rotate_left
  · have HT := hide (HNOT.out (fun h => hok (HFI.out.1 h).1))
    have x0 := HR.out.cell 0
    have hof : d.ok = false := by simpa using hok
    rw [show ([.bool d.ok, .slice A1 d.given.length c1, .slice A2 d.dead.length c2, .slice A3 d.held.length c3] : List Value)[0]? = some (.bool false) from by rw [hof]; rfl] at x0
    have xl := HR.out.lt
    clear hok hof
    go_wp2
    go_ret
    exact ⟨ret_str HT.out.symm, HB.out⟩
  have HRT := hide (show Row wa w.heap.size 33 [.bool true, .slice A1 d.given.length c1, .slice A2 d.dead.length c2, .slice A3 d.held.length c3] from by have := HR.out; rw [hok] at this; exact this)
  have HOK := hide hok
  clear hok HR
  have HG := hide (specGivenOk_any d.given A1 _ c1 f1 wa (O1.out.below HB.out hf1) (hf1.up HB.out) hbk1)
  have x0 := HRT.out.cell 0
  have x1 := HRT.out.cell 1
  have xl := HRT.out.lt
  go_wp2_with fail
  refine HG.out.mono ?_
  rintro e wb ⟨rfl, hb⟩
  have HBb := hide (HB.out.trans (hb.mono HB.out.size))
  have HRb := hide (HRT.out.below hb HRT.out.lt)
  clear hb HG HRT HB x0 x1 xl
  by_cases hg : d.given.length ≤ 200 ∧ ∀ i (h : i < d.given.length), d.given[i].fine
  rotate_left
  · have HT := hide (HNOT.out (fun h => hg ⟨(HFI.out.1 h).2.1, (HFI.out.1 h).2.2.2.2.1⟩))
    rw [tb_false hg]
    clear hg
    go_wp2
    go_ret
    exact ⟨ret_str HT.out.symm, HBb.out⟩
  have HGI := hide hg
  have hg2 := hg.1
  rw [tb_true hg]
  clear hg
  have x2 := HRb.out.cell 2
  have x3 := HRb.out.cell 3
  have xl := HRb.out.lt
  by_cases hd : d.dead.length ≤ 200
  rotate_left
  · have HT := hide (HNOT.out (fun h => hd (HFI.out.1 h).2.2.1))
    have h3 : (200 : Int) < (d.dead.length : Int) := by omega
    clear hd
    go_wp2
    go_ret
    exact ⟨ret_str HT.out.symm, HBb.out⟩
  have h3 : ¬ ((200 : Int) < (d.dead.length : Int)) := by omega
  have HH := hide (specHeldOk_any d.held A3 _ c3 f3 wb (O3.out.below HBb.out hf3) (hf3.up HBb.out))
  go_wp2_with fail
  refine HH.out.mono ?_
  rintro e wc ⟨rfl, hb⟩
  have HBc := hide (HBb.out.trans (hb.mono HBb.out.size))
  have HRc := hide (HRb.out.below hb HRb.out.lt)
  clear hb HH HRb HBb x2 x3 xl
  by_cases hh : holdsOk d.held
  rotate_left
  · have HT := hide (HNOT.out (fun h => hh (HFI.out.1 h).2.2.2.1))
    rw [tb_false hh]
    clear hh
    go_wp2
    go_ret
    exact ⟨ret_str HT.out.symm, HBc.out⟩
  have hh2 := hh.1
  have HHO := hide hh
  rw [tb_true hh]
  clear hh
  go_wp2_with fail
  go_loopw [3] (fun i wr => (∃ k : Nat, k ≤ d.dead.length ∧ i = .int .i64 k ∧ ∀ j (h : j < d.dead.length), j < k → d.dead[j].fine) ∧ Row wr w.heap.size 33 [.bool true, .slice A1 d.given.length c1, .slice A2 d.dead.length c2, .slice A3 d.held.length c3] ∧ Below w.heap.size w wr) (fun i _ => d.dead.length - (intOf i).toNat)
  case atStart => exact ⟨⟨0, Nat.zero_le _, rfl, fun j h hj => by omega⟩, HRc.out, HBc.out⟩
  case round =>
    obtain ⟨⟨k, hk, rfl, ha⟩, hrow, hbel⟩ := hrel
    have HA := hide ha
    have HRW := hide hrow
    have HBW := hide hbel
    have x2 := hrow.cell 2
    have xl := hrow.lt
    clear ha hrow hbel HRc HBc
    by_cases hlt : k < d.dead.length
    · obtain ⟨g, off, vs, fi, rfl, hg, hfi, hvl, hcs, hov⟩ := (O2.out.below HBW.out hf2).elem DeadLetter.cells_len hlt
      have HC := hide (specLetterOk_any d.dead[k] vs fi wr hov)
      obtain ⟨rfl, -⟩ := hov.oDeadLetter
      have p0 := hcs 0 _ rfl
      have p1 := hcs 1 _ rfl
      have p2 := hcs 2 _ rfl
      have p3 := hcs 3 _ rfl
      have p4 := hcs 4 _ rfl
      have p5 := hcs 5 _ rfl
      have p6 := hcs 6 _ rfl
      simp only [Nat.add_zero] at p0
      have hgl : g < wr.heap.size := Nat.lt_of_lt_of_le (hf2 g hg) HBW.out.size
      clear hcs hov
      have HBAD := hide (fun (hn : ¬ d.dead[k].fine) => HNOT.out (fun hh => hn ((HFI.out.1 hh).2.2.2.2.2 k hlt)))
      have HSTEP := hide (all_step (P := fun y => y.fine) d.dead k hlt HA.out)
      generalize d.dead[k] = x at *
      go_wp2_with fail
      refine HC.out.mono ?_
      rintro e wd ⟨rfl, hb⟩
      by_cases hx : x.fine
      · have HS := hide (HSTEP.out hx)
        rw [tb_true hx]
        clear hx
        go_wp2
        go_roundw
        case rel => exact ⟨⟨k + 1, by omega, by go_num, HS.out⟩, HRW.out.below hb HRW.out.lt, HBW.out.trans (hb.mono HBW.out.size)⟩
        case measure => simp [intOf]; omega
      · have HT := hide (HBAD.out hx)
        rw [tb_false hx]
        clear hx
        go_wp2
        go_ret
        exact ⟨ret_str HT.out.symm, HBW.out.trans (hb.mono HBW.out.size)⟩
    obtain rfl : k = d.dead.length := by omega
    have hfine : d.fine := HFI.out.2 ⟨HOK.out, hg2, hd, HHO.out, HGI.out.2, fun i h => HA.out i h h⟩
    have HBD := hide (HALL.out hfine)
    have Z1 := hide (HS1.out hfine)
    have Z2 := hide (HS2.out hfine)
    have Z3 := hide (HS3.out hfine)
    have HDE := hide (fun i h => HA.out i h h)
    obtain ⟨wo, hwo⟩ : ∃ W, W = wr := ⟨_, rfl⟩
    subst hwo
    clear hfine HA HALL HNOT HFI HS1 HS2 HS3
    go_wp2_with fail
    go_loopw [4, 5] (fun s i wr => ∃ k : Nat, k ≤ d.given.length ∧ i = .int .i64 k ∧ s = .string (d.t1 k) ∧ Row wr w.heap.size 33 [.bool true, .slice A1 d.given.length c1, .slice A2 d.dead.length c2, .slice A3 d.held.length c3] ∧ Below w.heap.size w wr) (fun _ i _ => d.given.length - (intOf i).toNat)
    case atStart => exact ⟨0, Nat.zero_le _, rfl, rfl, HRW.out, HBW.out⟩
    case round =>
      clear x2 xl HRW HBW
      obtain ⟨wo2, hwo2⟩ : ∃ W, W = wr := ⟨_, rfl⟩
      subst hwo2
      obtain ⟨k, hk, rfl, rfl, hrow, hbel⟩ := hrel
      have HRW := hide hrow
      have HBW := hide hbel
      have x1 := hrow.cell 1
      have xl := hrow.lt
      have hz := Z1.out k
      clear hrow hbel
      by_cases hlt : k < d.given.length
      · obtain ⟨g, off, vs, fi, rfl, hg, hfi, hvl, hcs, hov⟩ := (O1.out.below HBW.out hf1).elem Record.cells_len hlt
        have hgl : g < wo2.heap.size := Nat.lt_of_lt_of_le (hf1 g hg) HBW.out.size
        have hfi2 : Lt fi wo2.heap.size := fun b hbm => Nat.lt_of_lt_of_le (hf1 b (hfi hbm)) HBW.out.size
        have hbkr : d.given[k].bulk ≤ 1048576 := Nat.le_trans (Record.bulk_in d.given k hlt) hbk1
        obtain ⟨A4, c4, f4, rfl, w0, w1, o4, rfl⟩ := hov.oRecord
        obtain ⟨-, n4, m4⟩ := o4.nlen
        unfold maxLen at m4
        have HO4 := hide o4
        have p0 := hcs 0 _ rfl
        have p1 := hcs 1 _ rfl
        have p2 := hcs 2 _ rfl
        simp only [Nat.add_zero] at p0
        have hfx := HGI.out.2 k hlt
        have HS := hide (d.t1_succ k hlt)
        clear hcs hov o4
        generalize d.given[k] = x at *
        generalize d.t1 k = s0 at *
        have hus := hide (fun j => x.upto_size s0 hfx j)
        have hu0 := hide (x.upto_zero s0)
        have hua := hide (x.upto_all s0)
        have hun := hide (fun j h => x.upto_succ s0 j h)
        have hev := hide hfx.2.2.2
        have hks : x.key.size ≤ 8 := hfx.2.1.2.1
        have D1 := hide (fun W => specDec_nn2 x.pos (by have := hfx.1; omega) (by have := hfx.1; omega) W)
        have t1 := dec_size x.pos (by have := hfx.1; omega) (by have := hfx.1; omega)
        have hbe : Event.bulkL x.events ≤ 1048576 := by have := x.bulk_eq; omega
        generalize dec x.pos = d1 at *
        have e1 : ¬ (9223372036854775807 < s0.size + d1.size) := by omega
        have e2 : ¬ (9223372036854775807 < s0.size + d1.size + 1) := by omega
        have e3 : ¬ (9223372036854775807 < s0.size + d1.size + 1 + x.key.size) := by omega
        have HSS := hide (fun (W : World) (hb : Below wo2.heap.size wo2 W) => show W.cell? ⟨w.heap.size, 1, none⟩ = some (.slice (some ⟨g, off, none⟩) d.given.length c1) ∧ W.cell? ⟨g, off + k * 3, none⟩ = some (.int .i64 x.pos) ∧ W.cell? ⟨g, off + k * 3 + 1, none⟩ = some (.string x.key) from
          ⟨(HRW.out.below hb HRW.out.lt).cell 1, (hb.cell (p := ⟨g, off + k * 3, none⟩) hgl).trans p0, (hb.cell (p := ⟨g, off + k * 3 + 1, none⟩) hgl).trans p1⟩)
        have HP2 := hide p2
        have hk0 : (0 : Int) ≤ (k : Int) := by omega
        have hkI : (k : Int) < (d.given.length : Int) := by omega
        clear hfx t1 x1 p0 p1 p2
        have x1 := HRW.out.cell 1
        have hbr : Below wo2.heap.size wo2 wo2.drew := below_drewN (Below.refl _ _) 1
        go_wp2_with fail
        go_region_held3 (fun W => W.cell? ⟨w.heap.size, 1, none⟩ = some (.slice (some ⟨g, off, none⟩) d.given.length c1) ∧ W.cell? ⟨g, off + k * 3, none⟩ = some (.int .i64 x.pos) ∧ W.cell? ⟨g, off + k * 3 + 1, none⟩ = some (.string x.key))
          (first | exact HSS.out _ hBB | exact HSS.out _ hbr)
          ((go_at_call 15; refine (D1.out _).mono ?_; rintro e wb ⟨rfl, hbb⟩; have hBB := hbr.trans (hbb.mono hbr.size); clear hbb))
        all_goals
          rw [← hu0.out]
          have HB5 := hide hBB
          have z1 := (HRW.out.below hBB HRW.out.lt).cell 1
          have z2 := (hBB.cell (p := ⟨g, off + k * 3 + 2, none⟩) hgl).trans HP2.out
          have zl := (HRW.out.below hBB HRW.out.lt).lt
          have hgl5 := Nat.lt_of_lt_of_le hgl hBB.size
          clear x1 xl hbr HSS hBB
          go_wp2
          go_loopw [4, 6] (fun s i w2 => ∃ j : Nat, j ≤ x.events.length ∧ i = .int .i64 j ∧ s = .string (x.upto s0 j) ∧ Below wo2.heap.size wo2 w2) (fun _ i _ => x.events.length - (intOf i).toNat)
          case atStart => exact ⟨0, Nat.zero_le _, rfl, rfl, HB5.out⟩
          case round =>
            clear z1 z2 zl hgl5 HB5
            obtain ⟨j, hj, rfl, rfl, hbel⟩ := hrel
            have HB6 := hide hbel
            have y1 := (HRW.out.below hbel HRW.out.lt).cell 1
            have y2 := (hbel.cell (p := ⟨g, off + k * 3 + 2, none⟩) hgl).trans HP2.out
            have yl := (HRW.out.below hbel HRW.out.lt).lt
            have hgl6 := Nat.lt_of_lt_of_le hgl hbel.size
            have hju := hus.out j
            clear hbel
            by_cases hlt2 : j < x.events.length
            · obtain ⟨g2, off2, vs2, fi2, rfl, hg2_, hfi3, hvl2, hcs2, hov2⟩ := (HO4.out.below HB6.out hfi2).elem Event.cells_len hlt2
              have hfi4 : Lt fi2 wr.heap.size := fun b hbm => Nat.lt_of_lt_of_le (hfi2 b (hfi3 hbm)) HB6.out.size
              have hgl7 : g2 < wr.heap.size := Nat.lt_of_lt_of_le (hfi2 g2 hg2_) HB6.out.size
              have hey := hev.out j hlt2
              have HC := hide (specEventWrite_any x.events[j] _ _ wr hov2 hfi4 (Nat.le_trans (Event.bulk_in x.events j hlt2) hbe))
              obtain ⟨A5, c5, A6, c6, f5, f6, rfl, -⟩ := hov2.oEvent
              have r0 := hcs2 0 _ rfl
              have r1 := hcs2 1 _ rfl
              have r2 := hcs2 2 _ rfl
              have r3 := hcs2 3 _ rfl
              have r4 := hcs2 4 _ rfl
              have r5 := hcs2 5 _ rfl
              have r6 := hcs2 6 _ rfl
              simp only [Nat.add_zero] at r0
              have HN2 := hide (hun.out j hlt2)
              have hes := ev_size _ hey
              have HWR := hide (Event.write_yes _ hey)
              clear hcs2 hov2 hey
              generalize x.events[j] = y at *
              generalize x.upto s0 j = s1 at *
              rw [HWR.out] at HC
              generalize y.wr = yw at *
              have q1 : ¬ (9223372036854775807 < s1.size + 1) := by omega
              have q2 : ¬ (9223372036854775807 < s1.size + 1 + yw.size) := by omega
              go_wp2_with fail
              refine HC.out.mono ?_
              rintro e w7 ⟨rfl, hb7⟩
              have HB7 := hide (HB6.out.trans (hb7.mono HB6.out.size))
              clear hb7
              go_wp2
              go_roundw
              case rel => exact ⟨j + 1, by omega, by go_num, by rw [HN2.out], HB7.out⟩
              case measure => simp [intOf]; omega
            · obtain rfl : j = x.events.length := by omega
              have HN3 := hide (HS.out.trans hua.out)
              generalize x.upto s0 x.events.length = s1 at *
              have q1 : ¬ (9223372036854775807 < s1.size + 1) := by omega
              go_wp2
              go_roundw
              case rel => exact ⟨k + 1, by omega, by go_num, by rw [HN3.out], HRW.out.below HB6.out HRW.out.lt, HBW.out.trans (HB6.out.mono HBW.out.size)⟩
              case measure => simp [intOf]; omega
      obtain rfl : k = d.given.length := by omega
      clear hz
      go_wp2_with fail
      go_loopw [4, 7] (fun s i wr => ∃ k : Nat, k ≤ d.dead.length ∧ i = .int .i64 k ∧ s = .string (d.t2 k) ∧ Row wr w.heap.size 33 [.bool true, .slice A1 d.given.length c1, .slice A2 d.dead.length c2, .slice A3 d.held.length c3] ∧ Below w.heap.size w wr) (fun _ i _ => d.dead.length - (intOf i).toNat)
      case atStart => exact ⟨0, Nat.zero_le _, rfl, rfl, HRW.out, HBW.out⟩
      case round =>
        clear x1 xl HRW HBW
        obtain ⟨k, hk, rfl, rfl, hrow, hbel⟩ := hrel
        have HRW := hide hrow
        have HBW := hide hbel
        have x2 := hrow.cell 2
        have xl := hrow.lt
        have hz := Z2.out k
        clear hrow hbel
        by_cases hlt : k < d.dead.length
        · obtain ⟨g, off, vs, fi, rfl, hg, hfi, hvl, hcs, hov⟩ := (O2.out.below HBW.out hf2).elem DeadLetter.cells_len hlt
          have hfx := HDE.out k hlt
          have HC := hide (specLetter_any d.dead[k] vs fi wr hov hfx)
          have hls := DeadLetter.line_size _ hfx
          obtain ⟨rfl, -⟩ := hov.oDeadLetter
          have p0 := hcs 0 _ rfl
          have p1 := hcs 1 _ rfl
          have p2 := hcs 2 _ rfl
          have p3 := hcs 3 _ rfl
          have p4 := hcs 4 _ rfl
          have p5 := hcs 5 _ rfl
          have p6 := hcs 6 _ rfl
          simp only [Nat.add_zero] at p0
          have hgl : g < wr.heap.size := Nat.lt_of_lt_of_le (hf2 g hg) HBW.out.size
          have HS := hide (d.t2_succ k hlt)
          clear hcs hov hfx
          generalize d.dead[k] = x at *
          generalize d.t2 k = s0 at *
          generalize x.line = xl0 at *
          have q1 : ¬ (9223372036854775807 < s0.size + xl0.size) := by omega
          go_wp2_with fail
          refine HC.out.mono ?_
          rintro e wd ⟨rfl, hb⟩
          have HR2 := hide (HRW.out.below hb HRW.out.lt)
          have HB2 := hide (HBW.out.trans (hb.mono HBW.out.size))
          clear hb
          go_wp2
          go_roundw
          case rel => exact ⟨k + 1, by omega, by go_num, by rw [HS.out], HR2.out, HB2.out⟩
          case measure => simp [intOf]; omega
        obtain rfl : k = d.dead.length := by omega
        clear hz
        go_wp2_with fail
        go_loopw [4, 8] (fun s i wr => ∃ k : Nat, k ≤ d.held.length ∧ i = .int .i64 k ∧ s = .string (d.t3 k) ∧ Row wr w.heap.size 33 [.bool true, .slice A1 d.given.length c1, .slice A2 d.dead.length c2, .slice A3 d.held.length c3] ∧ Below w.heap.size w wr) (fun _ i _ => d.held.length - (intOf i).toNat)
        case atStart => exact ⟨0, Nat.zero_le _, rfl, rfl, HRW.out, HBW.out⟩
        case round =>
          clear x2 xl HRW HBW
          obtain ⟨k, hk, rfl, rfl, hrow, hbel⟩ := hrel
          have HRW := hide hrow
          have HBW := hide hbel
          have x3 := hrow.cell 3
          have xl := hrow.lt
          have hz := Z3.out k
          clear hrow hbel
          by_cases hlt : k < d.held.length
          · obtain ⟨g, off, vs, fi, rfl, hg, hfi, hvl, hcs, hov⟩ := (O3.out.below HBW.out hf3).elem DeadHold.cells_len hlt
            have hfx := HHO.out.2 k hlt
            obtain ⟨rfl, -⟩ := hov.oDeadHold
            have p0 := hcs 0 _ rfl
            have p1 := hcs 1 _ rfl
            simp only [Nat.add_zero] at p0
            have hgl : g < wr.heap.size := Nat.lt_of_lt_of_le (hf3 g hg) HBW.out.size
            have HS := hide ((d.t3_succ k hlt).trans (hold_line _ _))
            have hks : d.held[k].key.size ≤ 8 := hfx.1.2.1
            have hrg := hfx.2.1
            clear hcs hov hfx
            generalize d.held[k] = x at *
            generalize d.t3 k = s0 at *
            have D1 := hide (fun W => specDec_nn2 x.behind (by omega) (by omega) W)
            have t1 := dec_size x.behind (by omega) (by omega)
            generalize dec x.behind = d1 at *
            have e1 : ¬ (9223372036854775807 < s0.size + 5) := by omega
            have e2 : ¬ (9223372036854775807 < s0.size + 5 + x.key.size) := by omega
            have e3 : ¬ (9223372036854775807 < s0.size + 5 + x.key.size + 8) := by omega
            have e4 : ¬ (9223372036854775807 < s0.size + 5 + x.key.size + 8 + d1.size) := by omega
            have e5 : ¬ (9223372036854775807 < s0.size + 5 + x.key.size + 8 + d1.size + 1) := by omega
            have HSS := hide (fun (W : World) (hb : Below wr.heap.size wr W) => show W.cell? ⟨w.heap.size, 3, none⟩ = some (.slice (some ⟨g, off, none⟩) d.held.length c3) ∧ W.cell? ⟨g, off + k * 2, none⟩ = some (.string x.key) ∧ W.cell? ⟨g, off + k * 2 + 1, none⟩ = some (.int .i64 x.behind) from
              ⟨(HRW.out.below hb HRW.out.lt).cell 3, (hb.cell (p := ⟨g, off + k * 2, none⟩) hgl).trans p0, (hb.cell (p := ⟨g, off + k * 2 + 1, none⟩) hgl).trans p1⟩)
            have hk0 : (0 : Int) ≤ (k : Int) := by omega
            have hkI : (k : Int) < (d.held.length : Int) := by omega
            clear t1 p0 p1
            have hbr : Below wr.heap.size wr wr.drew := below_drewN (Below.refl _ _) 1
            go_wp2_with fail
            go_region_held3 (fun W => W.cell? ⟨w.heap.size, 3, none⟩ = some (.slice (some ⟨g, off, none⟩) d.held.length c3) ∧ W.cell? ⟨g, off + k * 2, none⟩ = some (.string x.key) ∧ W.cell? ⟨g, off + k * 2 + 1, none⟩ = some (.int .i64 x.behind))
              (first | exact HSS.out _ hBB | exact HSS.out _ hbr)
              ((go_at_call 15; refine (D1.out _).mono ?_; rintro e wb ⟨rfl, hbb⟩; have hBB := hbr.trans (hbb.mono hbr.size); clear hbb))
            all_goals
              have HR2 := hide (HRW.out.below hBB HRW.out.lt)
              have HB2 := hide (HBW.out.trans (hBB.mono HBW.out.size))
              clear hBB hbr
              go_wp2
              go_roundw
              case rel => exact ⟨k + 1, by omega, by go_num, by rw [HS.out], HR2.out, HB2.out⟩
              case measure => simp [intOf]; omega
          obtain rfl : k = d.held.length := by omega
          go_wp2
          go_ret
          exact ⟨ret_str HBD.out.symm, HBW.out⟩
end Go.Proofs.YtkfiebeedbjicaaGreatDoor
set_option linter.unusedVariables false
set_option linter.unusedSimpArgs false
namespace Go.Proofs.YtkfiebeedbjicaaGreatDoor
open Go.ChangeShapes Go.WideShapes Go.ChangeAt Go.RowKit

theorem joined1 (word : ByteArray) (z : Int) (g : Nat) (w : World) (hr : Row w g 3 [.int .i64 z]) (ht : Tab w) (hw : word.size ≤ 100) (h0 : -9223372036854775808 ≤ z) (h1 : z ≤ 9223372036854775807) :
    Calls Tryz.prog 52 #[.string word, .slice (some ⟨g, 0, none⟩) 1 1] w fun e w' => e = .returned (.string (word ++ (⟨#[32]⟩ ++ dec z))) ∧ Below w.heap.size w w' :=
  joined_any word [z] (some ⟨g, 0, none⟩) 1 1 [g] w (nums_ow [z] hr (fun y hy => by simp only [List.mem_singleton] at hy; subst hy; exact WalkArith.wf_i64 (by omega)) (by simp) (by simp [maxLen])) (fun y hy => by simp only [List.mem_singleton] at hy; rw [hy]; exact hr.lt) ht hw (by simp)
theorem strs_row (w : World) : ∀ (l : List ByteArray), (∀ s ∈ l, s.size ≤ maxLen) → OwC w (l.flatMap strC) (l.map fun s => .string s) []
  | [], _ => by simp [OwC]
  | s :: l, h => ⟨[], [], ⟨rfl, h s (by simp), rfl⟩, strs_row w l (fun y hy => h y (by simp [hy])), rfl⟩
theorem OwS.ofStrs {w : World} {g B : Nat} {e : TypeId} (l : List ByteArray) (hr : Row w g e (l.map fun s => .string s)) (hB : B ≤ g) (hs : ∀ s ∈ l, s.size ≤ maxLen) (hl : l.length ≤ maxLen) :
    OwS w B e 1 strC (.slice (some ⟨g, 0, none⟩) l.length l.length) l (l.map fun s => .string s) [] := by
  refine ⟨⟨by simp, .inr ⟨g, l.length, (l.map fun s => (.string s : Value)).toArray, rfl, hB, hr, Nat.le_refl _, hl, by simp, by simp [List.take_of_length_le]⟩⟩, strs_row w l hs, New.nil _ _, fun g hg hm => by cases hm⟩
theorem strs_cells {w : World} {B : Nat} {e : TypeId} {l : List ByteArray} {us : List Value} {A : Option Addr} {n c : Nat} (h : OwS w B e 1 strC (.slice A n c) l us []) (h0 : 0 < l.length) :
    ∃ g, A = some ⟨g, 0, none⟩ ∧ n = l.length ∧ l.length ≤ c ∧ B ≤ g ∧ g < w.heap.size ∧ ∀ (j : Nat) x, l[j]? = some x → w.cell? ⟨g, 0 + j, none⟩ = some (.string x) := by
  obtain ⟨fp, ho, _⟩ := h.toOw
  obtain ⟨A', c', e0⟩ := h.form
  injection e0 with e1 e2 e3
  subst e1 e2 e3
  obtain ⟨_, hc, _⟩ := ho.nlen
  rcases h.own.2 with ⟨ev, _⟩ | ⟨g, cap, cur, ev, hB, hg, _⟩
  · simp only [Value.slice.injEq] at ev
    omega
  · simp only [Value.slice.injEq] at ev
    obtain ⟨rfl, -, rfl⟩ := ev
    refine ⟨g, rfl, rfl, hc, hB, Row.lt (w := w) (g := g) (e := e) (cs := cur.toList) (by simpa [Row] using hg), fun j x hj => ?_⟩
    have hjl : j < l.length := (List.getElem?_eq_some_iff.1 hj).1
    obtain ⟨g', off, ew, _, hcell, _⟩ := strs_at ho hjl
    simp only [Option.some.injEq, Addr.mk.injEq] at ew
    obtain ⟨rfl, rfl, -⟩ := ew
    rw [hcell]
    have : l[j]? = some l[j] := List.getElem?_eq_getElem hjl
    rw [this] at hj
    injection hj with hj
    rw [hj]
def recWords (x : Record) (j : Nat) : List ByteArray := [dec x.pos, x.key] ++ (x.events.take j).map Event.wr
theorem recWords_succ (x : Record) (j : Nat) (h : j < x.events.length) : recWords x (j + 1) = recWords x j ++ [x.events[j].wr] := by
  unfold recWords
  rw [List.take_succ_eq_append_getElem h, List.map_append, ← List.append_assoc]
  rfl
theorem recWords_len (x : Record) (j : Nat) (h : j ≤ x.events.length) : (recWords x j).length = j + 2 := by
  unfold recWords
  simp
  omega
theorem evs_bytes : ∀ (l : List Event) (s : ByteArray), (linesOf evPiece s l).data.toList = s.data.toList ++ Lib.joinTail [32] (l.map fun e => e.wr.data.toList)
  | [], s => by simp [linesOf, Lib.joinTail]
  | e :: l, s => by
    have h := evs_bytes l (s ++ evPiece e)
    have e1 : linesOf evPiece s (e :: l) = linesOf evPiece (s ++ evPiece e) l := rfl
    rw [e1, h]
    unfold evPiece
    simp [Lib.joinTail, ByteArray.data_append]
theorem rec_join (x : Record) : (⟨(Lib.join ((recWords x x.events.length).map (·.data.toList)) [32]).toArray⟩ : ByteArray) ++ ⟨#[10]⟩ = x.line := by
  have e : Lib.join ((recWords x x.events.length).map (·.data.toList)) [32] = (dec x.pos).data.toList ++ ([32] ++ x.key.data.toList ++ Lib.joinTail [32] (x.events.map fun e => e.wr.data.toList)) := by
    unfold recWords
    rw [List.take_length, List.map_append, List.map_cons, List.cons_append, Lib.join_cons]
    simp [Lib.joinTail, Function.comp_def]
  rw [e]
  unfold Record.line
  rw [evsText_eq]
  congr 1
  apply ByteArray.ext
  apply Array.ext'
  simp only [ByteArray.data_append, Array.toList_append, evs_bytes]
  simp
theorem rec_join_len (x : Record) (h : x.fine) : (Lib.join ((recWords x x.events.length).map (·.data.toList)) [32]).length ≤ 154256100 := by
  have h1 := congrArg ByteArray.size (rec_join x)
  have h2 := x.line_size h
  rw [ByteArray.size_append] at h1
  have h3 : (⟨(Lib.join ((recWords x x.events.length).map (·.data.toList)) [32]).toArray⟩ : ByteArray).size = (Lib.join ((recWords x x.events.length).map (·.data.toList)) [32]).length := by
    simp [ByteArray.size]
  omega
end Go.Proofs.YtkfiebeedbjicaaGreatDoor
set_option linter.unusedVariables false
set_option linter.unusedSimpArgs false
namespace Go.Proofs.YtkfiebeedbjicaaGreatDoor
open Go.ChangeShapes Go.WideShapes Go.ChangeAt Go.RowKit

theorem info_parts7 {P : Program} {t : TypeId} {z : Option Value} {s b : Nat} (h : (P.info? t).map (fun i => (i.zero, i.size, i.bytes)) = some (z, s, b)) : ∃ i, P.info? t = some i ∧ i.zero = z ∧ i.size = s ∧ i.bytes = b := by
  obtain ⟨i, hi, e⟩ := Option.map_eq_some_iff.1 h
  simp only [Prod.mk.injEq] at e
  exact ⟨i, hi, e.1, e.2.1, e.2.2⟩
theorem info_string7 : (Tryz.prog.info? 9).map (fun i => (i.zero, i.size, i.bytes)) = some (some (.string ⟨#[]⟩), 1, 16) := by kernel_rfl
theorem str_src7 (x : ByteArray) (hx : x.size ≤ maxLen) (w : World) : OwC w ([x].flatMap strC) [.string x] [] := ⟨[], [], ⟨rfl, hx, rfl⟩, rfl, rfl⟩
set_option maxRecDepth 100000 in
set_option maxHeartbeats 800000 in
theorem recordLine_any (x : Record) (us : List Value) (fp : List Nat) (w : World) (ho : OwC w x.cells us fp) (hf : Lt fp w.heap.size) (hbk : x.bulk ≤ 1048576) (ht : Tab w) (hok : x.fine) :
    Calls Tryz.prog 50 #[.agg us.toArray] w fun e w' => e = .returned (.string x.line) ∧ Below w.heap.size w w' := by
  obtain ⟨A1, c1, f1, rfl, w0, w1, o1, rfl⟩ := ho.oRecord
  obtain ⟨-, n1, m1⟩ := o1.nlen
  unfold maxLen at m1
  have hw1 : Below w.heap.size w (w.alloc (.cells #[.int .i64 x.pos, .string x.key, .slice A1 x.events.length c1] 48)) := (Below.refl _ _).alloc (Nat.le_refl _) _
  have R1 : Row (w.alloc (.cells #[.int .i64 x.pos, .string x.key, .slice A1 x.events.length c1] 48)) w.heap.size 48 [.int .i64 x.pos, .string x.key, .slice A1 x.events.length c1] := Row.new w _ _
  have HRW := hide R1
  have HB := hide hw1
  have HT := hide (ht.below hw1)
  have HO1 := hide o1
  have HF := hide hf
  have hbe : Event.bulkL x.events ≤ 1048576 := by have := x.bulk_eq; omega
  have hpos := hok.1
  have hlen := hok.2.2.1
  have hev := hide hok.2.2.2
  have HJ := hide (rec_join x)
  have HJL := hide (rec_join_len x hok)
  have HWS := hide (recWords_succ x)
  have HWL := hide (recWords_len x)
  have HW0 := hide (show recWords x 0 = [dec x.pos, x.key] from by unfold recWords; simp)
  have hks : x.key.size ≤ maxLen := w1
  have hds : (dec x.pos).size ≤ maxLen := by have := dec_size x.pos (by omega) (by omega); unfold maxLen; omega
  have hg0 := ht.lt
  obtain ⟨ia, hia, ha0, ha1, ha2⟩ := info_parts7 info_string7
  have HIa := hide hia
  clear ho o1 hw1 R1 hok hia ht hf
  go_enter Tryz.func50, Tryz.ntmps50
  go_upto_region 1 with fail
  generalize w.alloc _ = w3 at HRW HB HT ⊢
  have x0 := HRW.out.cell 0
  have x1 := HRW.out.cell 1
  have xl := HRW.out.lt
  go_wp2_with fail
  refine wp_region_held_drew (S := fun W => Below w3.heap.size w3 W) (by kernel_rfl) (below_drewN (Below.refl _ _) 1) (fun hb1 => ?_)
  generalize w3.drew = v1 at *
  refine wpAnyH_take (i := 0) (v := .pointer (some ⟨w.heap.size, 0, none⟩)) rfl (by kernel_rfl) (by kernel_rfl) (by kernel_rfl) (fun _ _ _ h => h) (Or.inl ⟨by kernel_rfl, by (intro W hS; go_simp; first | done | with_reducible rfl | rfl)⟩) hb1 ?_
  (try simp only [Act.put, List.getElem_toArray, List.getElem_cons_zero, List.getElem_cons_succ, List.setIfInBounds_toArray, List.set_cons_zero, List.set_cons_succ])
  refine wpAnyH_take (i := 1) (v := .int .i64 x.pos) rfl (by kernel_rfl) (by kernel_rfl) (by kernel_rfl) (fun _ _ _ h => h) (Or.inl ⟨by kernel_rfl, by (intro W hS; have y := (HRW.out.below hS HRW.out.lt).cell 0; have yl := (HRW.out.below hS HRW.out.lt).lt; go_simp; first | done | with_reducible rfl | rfl)⟩) hb1 ?_
  (try simp only [Act.put, List.getElem_toArray, List.getElem_cons_zero, List.getElem_cons_succ, List.setIfInBounds_toArray, List.set_cons_zero, List.set_cons_succ])
  refine wpAnyH_take (i := 3) (v := .pointer (some ⟨w.heap.size, 1, none⟩)) rfl (by kernel_rfl) (by kernel_rfl) (by kernel_rfl) (fun _ _ _ h => h) (Or.inl ⟨by kernel_rfl, by (intro W hS; go_simp; first | done | with_reducible rfl | rfl)⟩) hb1 ?_
  (try simp only [Act.put, List.getElem_toArray, List.getElem_cons_zero, List.getElem_cons_succ, List.setIfInBounds_toArray, List.set_cons_zero, List.set_cons_succ])
  refine wpAnyH_take (i := 4) (v := .string x.key) rfl (by kernel_rfl) (by kernel_rfl) (by kernel_rfl) (fun _ _ _ h => h) (Or.inl ⟨by kernel_rfl, by (intro W hS; have y := (HRW.out.below hS HRW.out.lt).cell 1; have yl := (HRW.out.below hS HRW.out.lt).lt; go_simp; first | done | with_reducible rfl | rfl)⟩) hb1 ?_
  (try simp only [Act.put, List.getElem_toArray, List.getElem_cons_zero, List.getElem_cons_succ, List.setIfInBounds_toArray, List.set_cons_zero, List.set_cons_succ])
  refine wpAnyH_ready (rs := [2]) (by kernel_rfl) (by simp) ?_
  refine AllReadyH.cons rfl (fun K hK => ?_) AllReadyH.nil
  go_simp
  go_at_call 63
  refine (itoa_any x.pos (by omega) (by omega) _ (HT.out.below hb1)).mono ?_
  rintro e v2 ⟨rfl, hq2⟩
  have hb2 := hb1.trans (hq2.mono hb1.size)
  clear hq2
  try go_simp
  refine hK.out _ _ hb2 (fun hHeld => ?_)
  clear hK K hHeld
  refine wpAnyH_ready (rs := [5]) (by kernel_rfl) (by simp) ?_
  refine AllReadyH.cons rfl (fun K hK => ?_) AllReadyH.nil
  go_simp
  have hb3 : Below w3.heap.size w3 (v2.alloc (.cells #[.string (dec x.pos), .string x.key] 9)) := hb2.alloc hb2.size _
  have hq3 : Below v2.heap.size v2 (v2.alloc (.cells #[.string (dec x.pos), .string x.key] 9)) := (Below.refl _ _).alloc (Nat.le_refl _) _
  have hr3 : Row (v2.alloc (.cells #[.string (dec x.pos), .string x.key] 9)) v2.heap.size 9 [.string (dec x.pos), .string x.key] := Row.new _ _ _
  have hlo3 : w3.heap.size ≤ v2.heap.size := hb2.size
  clear hq3
  refine hK.out _ _ hb3 (fun hHeld => ?_)
  clear hK K hHeld
  obtain ⟨blk3, hblk3⟩ : ∃ n, n = v2.heap.size := ⟨_, rfl⟩
  rw [← hblk3] at hr3 hlo3
  simp only [← hblk3]
  generalize v2.alloc _ = v3 at *
  clear hblk3
  refine wpAnyH_take (i := 6) (v := .slice (some ⟨blk3, 0, none⟩) 2 2) rfl (by kernel_rfl) (by kernel_rfl) (by kernel_rfl) (fun _ _ _ h => h) (Or.inl ⟨by kernel_rfl, by (intro W hS; go_simp; first | done | with_reducible rfl | rfl)⟩) hb3 ?_
  (try simp only [Act.put, List.getElem_toArray, List.getElem_cons_zero, List.getElem_cons_succ, List.setIfInBounds_toArray, List.set_cons_zero, List.set_cons_succ])
  refine wpAnyH_done (by kernel_rfl) ?_ _
  have HBB := hide (HB.out.trans (hb3.mono HB.out.size))
  have HRB := hide (HRW.out.below hb3 HRW.out.lt)
  have HTB := hide (HT.out.below hb3)
  have hBg : w.heap.size + 1 ≤ blk3 := by have := HRW.out.lt; omega
  have HS0 := hide (OwS.ofStrs (B := w.heap.size + 1) [dec x.pos, x.key] hr3 hBg (fun s hs => by simp only [List.mem_cons, List.not_mem_nil, or_false] at hs; rcases hs with rfl | rfl <;> assumption) (by simp [maxLen]))
  have z2 := HRB.out.cell 2
  have zl := HRB.out.lt
  have hsz0 : w.heap.size + 1 ≤ v3.heap.size := by have := hr3.lt; omega
  clear hb3 hr3 hBg x0 x1 xl HRW HB HT
  go_wp2
  go_loopw [3, 15] (fun s i wr => ∃ j A n c us, j ≤ x.events.length ∧ s = .slice A n c ∧ i = .int .i64 (j : Int) ∧ OwS wr (w.heap.size + 1) 9 1 strC (.slice A n c) (recWords x j) us [] ∧ Below w.heap.size w wr ∧ Tab wr ∧ w.heap.size + 1 ≤ wr.heap.size) (fun _ i _ => x.events.length - (intOf i).toNat)
  case atStart => exact ⟨0, _, _, _, _, Nat.zero_le _, rfl, rfl, by rw [HW0.out]; exact HS0.out, HBB.out, HTB.out, hsz0⟩
  case round =>
    clear z2 zl HRB HBB HTB HS0
    obtain ⟨j, A, n, c, us, hj, rfl, rfl, hs, hbel, htt, hsz⟩ := hrel
    have HBW := hide hbel
    have HTW := hide htt
    have HSW := hide hs
    clear hs hbel htt
    by_cases hlt : j < x.events.length
    rotate_left
    · obtain rfl : j = x.events.length := by omega
      have hwl := HWL.out x.events.length (Nat.le_refl _)
      have hwl0 : 0 < (recWords x x.events.length).length := by omega
      have hwl1 : (recWords x x.events.length).length ≤ 16002 := by omega
      clear hwl
      obtain ⟨g, rfl, rfl, hc, hBg, hgl, hcs⟩ := strs_cells HSW.out (by omega)
      obtain ⟨jn, hjn⟩ : ∃ b : ByteArray, b = ⟨(Lib.join ((recWords x x.events.length).map (·.data.toList)) [32]).toArray⟩ := ⟨_, rfl⟩
      have hjl := HJL.out
      have HC := hide (show Calls Tryz.prog 65 #[.slice (some ⟨g, 0, none⟩) (recWords x x.events.length).length c, .string ⟨#[32]⟩] wr (fun e w' => e = .returned (.string jn) ∧ Below wr.heap.size wr w') from by
        rw [hjn]
        exact Tryz.strings_Join g 0 c (recWords x x.events.length) ⟨#[32]⟩ wr hcs hgl (by omega) hc (Nat.le_trans hjl (by decide)))
      have hjs : jn.size ≤ 154256100 := by
        rw [hjn]
        simpa [ByteArray.size] using hjl
      have HJX := hide (show jn ++ ⟨#[10]⟩ = x.line from by rw [hjn]; exact HJ.out)
      have q1 : ¬ (9223372036854775807 < jn.size + 1) := by omega
      clear hjn hjl hcs HJ HJL
      go_wp2_with fail
      refine HC.out.mono ?_
      rintro e w5 ⟨rfl, hb5⟩
      go_wp2
      go_ret
      exact ⟨ret_str HJX.out, HBW.out.trans (hb5.mono HBW.out.size)⟩
    obtain ⟨g, off, vs, fi, rfl, hg, hfi, hvl, hcs, hov⟩ := (HO1.out.below HBW.out HF.out).elem Event.cells_len hlt
    have hfi2 : Lt fi wr.heap.size := fun b hbm => Nat.lt_of_lt_of_le (HF.out b (hfi hbm)) HBW.out.size
    have hgl : g < wr.heap.size := Nat.lt_of_lt_of_le (HF.out g hg) HBW.out.size
    have hbky : x.events[j].body.bulk ≤ 1048576 := by have h1 := Event.bulk_in x.events j hlt; have h2 := x.events[j].bulk_eq; omega
    have hey := hev.out j hlt
    have hes := ev_size _ hey
    have HN := hide (HWS.out j hlt)
    have hwl0 := HWL.out j hj
    have hwl : (recWords x j).length ≤ 16002 := by omega
    clear hwl0
    have hov' := hov
    obtain ⟨A5, c5, A6, c6, f5, f6, rfl, -⟩ := hov.oEvent
    have p0 := hcs 0 _ rfl
    have p1 := hcs 1 _ rfl
    have p2 := hcs 2 _ rfl
    have p3 := hcs 3 _ rfl
    have p4 := hcs 4 _ rfl
    have p5 := hcs 5 _ rfl
    have p6 := hcs 6 _ rfl
    simp only [Nat.add_zero] at p0
    generalize x.events[j] = y at *
    have hA : Below wr.heap.size wr (wr.alloc (.cells #[.string y.type_, .int .i64 y.version, .int .i64 y.body.sort, .int .i64 y.body.num, .string y.body.text, .slice A5 y.body.names.length c5, .slice A6 y.body.kids.length c6] 55)) := (Below.refl _ _).alloc (Nat.le_refl _) _
    have HC := hide (eventText_any y _ _ (wr.alloc (.cells #[.string y.type_, .int .i64 y.version, .int .i64 y.body.sort, .int .i64 y.body.num, .string y.body.text, .slice A5 y.body.names.length c5, .slice A6 y.body.kids.length c6] 55)) (hov'.below hA hfi2) (hfi2.up hA) hbky (HTW.out.below hA) hey)
    have HSA := hide (HSW.out.below (C := 0) hA)
    have HBA := hide (HBW.out.trans (hA.mono HBW.out.size))
    have HTA := hide (HTW.out.below hA)
    have RX := Row.new wr 55 [.string y.type_, .int .i64 y.version, .int .i64 y.body.sort, .int .i64 y.body.num, .string y.body.text, .slice A5 y.body.names.length c5, .slice A6 y.body.kids.length c6]
    clear hcs hov hov' hey hA HSW
    have hsza : w.heap.size + 1 ≤ (wr.alloc (.cells #[.string y.type_, .int .i64 y.version, .int .i64 y.body.sort, .int .i64 y.body.num, .string y.body.text, .slice A5 y.body.names.length c5, .slice A6 y.body.kids.length c6] 55)).heap.size := by rw [World.size_alloc]; omega
    go_upto_region 5 with fail
    generalize wr.alloc _ = wa at HC HSA HBA HTA RX hsza ⊢
    have z0 := RX.cell 0
    have z1 := RX.cell 1
    have z2 := RX.cell 2
    have z3 := RX.cell 3
    have z4 := RX.cell 4
    have z5 := RX.cell 5
    have z6 := RX.cell 6
    have xl := RX.lt
    clear RX p0 p1 p2 p3 p4 p5 p6
    go_wp2_with fail
    refine HC.out.mono ?_
    rintro e w5 ⟨rfl, hb5⟩
    have HB5 := hide (HBA.out.trans (hb5.mono HBA.out.size))
    have HT5 := hide (HTA.out.below hb5)
    have HS5 := hide ((HSA.out.below (C := 0) hb5).alloc (.cells #[.string y.wr] 9))
    have hsz5 : w.heap.size + 1 ≤ w5.heap.size := by have := hb5.size; omega
    have hws : y.wr.size ≤ maxLen := by unfold maxLen; omega
    clear hb5 HC
    generalize y.wr = yw at *
    have HDS := hide (fun W => str_src7 yw hws W)
    generalize recWords x j = L at *
    go_wp2_with (first | (at_builtin; refine wpl_app rfl _ _ 50 rfl ia _ 16 Tryz.underlying50 HIa.out ha0 ha1 ha2 rfl (by decide) strC_len rfl HS5.out [yw] (HDS.out _) (by exact New.nil _ _) (fun g _ hg => by cases hg) _ 1 1 rfl rfl (SrcAt.new w5 _ _ _ _) (by omega) (by decide) (by rw [World.size_alloc]; omega) ?_; intro A7 n7 c7 w7 hn7 hown7 hgb7; have HG7 := hide hgb7; have HN7 := hide hown7; clear hown7 hgb7 hn7))
    have HB7 := hide (((Below.refl w5.heap.size w5).alloc (Nat.le_refl _) _).mono (Nat.le_of_succ_le hsz5) |>.trans (HG7.out.toBelow (by rw [World.size_alloc]; omega) (fun g e => Nat.le_of_succ_le (HS5.out.from e))))
    go_roundw
    case rel => exact ⟨j + 1, A7, n7, c7, _, by omega, rfl, by go_num, by rw [HN.out]; exact HN7.out, HB5.out.trans HB7.out, HT5.out.low HB7.out hg0, by have := HG7.out.grown.size; rw [World.size_alloc] at this; omega⟩
    case measure => simp [intOf]; omega
end Go.Proofs.YtkfiebeedbjicaaGreatDoor
set_option linter.unusedVariables false
set_option linter.unusedSimpArgs false
namespace Go.Proofs.YtkfiebeedbjicaaGreatDoor
open Go.ChangeShapes Go.WideShapes Go.ChangeAt Go.RowKit

set_option maxRecDepth 100000 in
set_option maxHeartbeats 1000000 in
theorem letterLine_any (x : DeadLetter) (us : List Value) (fp : List Nat) (w : World) (ho : OwC w x.cells us fp) (ht : Tab w) (hok : x.fine) :
    Calls Tryz.prog 51 #[.agg us.toArray] w fun e w' => e = .returned (.string x.line) ∧ Below w.heap.size w w' := by
  obtain ⟨rfl, w0, w1, w2, w3, w4, w5, w6, rfl⟩ := ho.oDeadLetter
  have hw1 : Below w.heap.size w (w.alloc (.cells #[.int .i64 x.pos, .string x.key, .int .i64 x.code, .int .i64 x.why, .string x.type_, .int .i64 x.version, .int .i64 x.behind] 44)) := (Below.refl _ _).alloc (Nat.le_refl _) _
  have R1 : Row (w.alloc (.cells #[.int .i64 x.pos, .string x.key, .int .i64 x.code, .int .i64 x.why, .string x.type_, .int .i64 x.version, .int .i64 x.behind] 44)) w.heap.size 44 [.int .i64 x.pos, .string x.key, .int .i64 x.code, .int .i64 x.why, .string x.type_, .int .i64 x.version, .int .i64 x.behind] := Row.new w _ _
  have HRW := hide R1
  have HB := hide hw1
  have HT := hide (ht.below hw1)
  have hh := x.head_size hok
  have hpos := hok.1
  have hk : x.key.size ≤ 8 := hok.2.1.2.1
  have hcode := hok.2.2.1
  have hwhy := hok.2.2.2.1
  have hty := type_size x hok
  have hver := hok.2.2.2.2.2.1
  have hbeh := hok.2.2.2.2.2.2
  have t1 := dec_size x.pos (by omega) (by omega)
  have t3 := dec_size x.behind (by omega) (by omega)
  have t4 := dec_size x.why (by omega) (by omega)
  have t5 := dec_size x.version (by omega) (by omega)
  have HI1 := hide (fun (W : World) (h : Tab W) => itoa_any x.pos (by omega) (by omega) W h)
  have HI2 := hide (fun (W : World) (h : Tab W) => itoa_any x.version (by omega) (by omega) W h)
  have c1 : (ByteArray.mk #[32]).size = 1 := rfl
  have c2 : (ByteArray.mk #[32, 100, 101, 97, 100]).size = 5 := rfl
  have c3 : (ByteArray.mk #[32, 98, 101, 104, 105, 110, 100]).size = 7 := rfl
  have HJ1 := hide (fun (W : World) (g : Nat) (hr : Row W g 3 [.int .i64 x.code]) (h : Tab W) => show Calls Tryz.prog 52 #[.string (dec x.pos ++ ⟨#[32]⟩ ++ x.key ++ ⟨#[32, 100, 101, 97, 100]⟩), .slice (some ⟨g, 0, none⟩) 1 1] W (fun e w' => e = .returned (.string x.head) ∧ Below W.heap.size W w') from joined1 _ x.code g W hr h (by simp only [ByteArray.size_append]; omega) (by omega) (by omega))
  obtain ⟨j2, hj2⟩ : ∃ b, b = x.head ++ ⟨#[32, 98, 101, 104, 105, 110, 100]⟩ ++ (⟨#[32]⟩ ++ dec x.behind) := ⟨_, rfl⟩
  obtain ⟨j3, hj3⟩ : ∃ b, b = x.head ++ (⟨#[32]⟩ ++ dec x.why) := ⟨_, rfl⟩
  have HJ2 := hide (fun (W : World) (g : Nat) (hr : Row W g 3 [.int .i64 x.behind]) (h : Tab W) => show Calls Tryz.prog 52 #[.string (x.head ++ ⟨#[32, 98, 101, 104, 105, 110, 100]⟩), .slice (some ⟨g, 0, none⟩) 1 1] W (fun e w' => e = .returned (.string j2) ∧ Below W.heap.size W w') from by
    rw [hj2]
    exact joined1 _ x.behind g W hr h (by simp only [ByteArray.size_append]; omega) (by omega) (by omega))
  have HJ3 := hide (fun (W : World) (g : Nat) (hr : Row W g 3 [.int .i64 x.why]) (h : Tab W) => show Calls Tryz.prog 52 #[.string (x.head), .slice (some ⟨g, 0, none⟩) 1 1] W (fun e w' => e = .returned (.string j3) ∧ Below W.heap.size W w') from by
    rw [hj3]
    exact joined1 _ x.why g W hr h (by omega) (by omega) (by omega))
  have s2 : j2.size ≤ 100 := by
    rw [hj2]
    simp only [ByteArray.size_append]
    omega
  have s3 : j3.size ≤ 100 := by
    rw [hj3]
    simp only [ByteArray.size_append]
    omega
  have HPK := hide (fun (h : x.code = 10) => show x.line = j2 ++ ⟨#[10]⟩ from by
    rw [hj2]
    unfold DeadLetter.line
    rw [if_pos h])
  have HEL := hide (fun (h : ¬ x.code = 10) => show x.line = j3 ++ ⟨#[32]⟩ ++ x.type_ ++ ⟨#[64]⟩ ++ dec x.version ++ ⟨#[10]⟩ from by
    rw [hj3]
    unfold DeadLetter.line
    rw [if_neg h])
  clear ho hw1 R1 hok hj2 hj3 ht hcode hwhy hver hbeh hpos c1 c2 c3
  generalize dec x.pos = d1 at *
  generalize dec x.version = d5 at *
  generalize x.head = hd at *
  have n1 : ¬ (9223372036854775807 < d1.size + 1) := by omega
  have n2 : ¬ (9223372036854775807 < d1.size + 1 + x.key.size) := by omega
  have n3 : ¬ (9223372036854775807 < d1.size + 1 + x.key.size + 5) := by omega
  have m1 : ¬ (9223372036854775807 < hd.size + 7) := by omega
  have m2 : ¬ (9223372036854775807 < j2.size + 1) := by omega
  have k1 : ¬ (9223372036854775807 < j3.size + 1) := by omega
  have k2 : ¬ (9223372036854775807 < j3.size + 1 + x.type_.size) := by omega
  have k3 : ¬ (9223372036854775807 < j3.size + 1 + x.type_.size + 1) := by omega
  have k4 : ¬ (9223372036854775807 < j3.size + 1 + x.type_.size + 1 + d5.size) := by omega
  have k5 : ¬ (9223372036854775807 < j3.size + 1 + x.type_.size + 1 + d5.size + 1) := by omega
  clear t1 t3 t4 t5 hk hh hty s2 s3
  go_enter Tryz.func51, Tryz.ntmps51
  go_upto_region 1 with fail
  generalize w.alloc _ = w3 at HRW HB HT ⊢
  go_wp2_with fail
  refine wp_region_held_drew (S := fun W => Below w3.heap.size w3 W) (by kernel_rfl) (below_drewN (Below.refl _ _) 1) (fun hb1 => ?_)
  generalize w3.drew = v1 at *
  refine wpAnyH_take (i := 0) (v := .pointer (some ⟨w.heap.size, 0, none⟩)) rfl (by kernel_rfl) (by kernel_rfl) (by kernel_rfl) (fun _ _ _ h => h) (Or.inl ⟨by kernel_rfl, by (intro W hS; go_simp; first | done | with_reducible rfl | rfl)⟩) hb1 ?_
  (try simp only [Act.put, List.getElem_toArray, List.getElem_cons_zero, List.getElem_cons_succ, List.setIfInBounds_toArray, List.set_cons_zero, List.set_cons_succ])
  refine wpAnyH_take (i := 1) (v := .int .i64 x.pos) rfl (by kernel_rfl) (by kernel_rfl) (by kernel_rfl) (fun _ _ _ h => h) (Or.inl ⟨by kernel_rfl, by (intro W hS; have y := (HRW.out.below hS HRW.out.lt).cell 0; have yl := (HRW.out.below hS HRW.out.lt).lt; go_simp; first | done | with_reducible rfl | rfl)⟩) hb1 ?_
  (try simp only [Act.put, List.getElem_toArray, List.getElem_cons_zero, List.getElem_cons_succ, List.setIfInBounds_toArray, List.set_cons_zero, List.set_cons_succ])
  refine wpAnyH_take (i := 4) (v := .pointer (some ⟨w.heap.size, 1, none⟩)) rfl (by kernel_rfl) (by kernel_rfl) (by kernel_rfl) (fun _ _ _ h => h) (Or.inl ⟨by kernel_rfl, by (intro W hS; go_simp; first | done | with_reducible rfl | rfl)⟩) hb1 ?_
  (try simp only [Act.put, List.getElem_toArray, List.getElem_cons_zero, List.getElem_cons_succ, List.setIfInBounds_toArray, List.set_cons_zero, List.set_cons_succ])
  refine wpAnyH_take (i := 5) (v := .string x.key) rfl (by kernel_rfl) (by kernel_rfl) (by kernel_rfl) (fun _ _ _ h => h) (Or.inl ⟨by kernel_rfl, by (intro W hS; have y := (HRW.out.below hS HRW.out.lt).cell 1; have yl := (HRW.out.below hS HRW.out.lt).lt; go_simp; first | done | with_reducible rfl | rfl)⟩) hb1 ?_
  (try simp only [Act.put, List.getElem_toArray, List.getElem_cons_zero, List.getElem_cons_succ, List.setIfInBounds_toArray, List.set_cons_zero, List.set_cons_succ])
  refine wpAnyH_take (i := 8) (v := .pointer (some ⟨w.heap.size, 2, none⟩)) rfl (by kernel_rfl) (by kernel_rfl) (by kernel_rfl) (fun _ _ _ h => h) (Or.inl ⟨by kernel_rfl, by (intro W hS; go_simp; first | done | with_reducible rfl | rfl)⟩) hb1 ?_
  (try simp only [Act.put, List.getElem_toArray, List.getElem_cons_zero, List.getElem_cons_succ, List.setIfInBounds_toArray, List.set_cons_zero, List.set_cons_succ])
  refine wpAnyH_take (i := 9) (v := .int .i64 x.code) rfl (by kernel_rfl) (by kernel_rfl) (by kernel_rfl) (fun _ _ _ h => h) (Or.inl ⟨by kernel_rfl, by (intro W hS; have y := (HRW.out.below hS HRW.out.lt).cell 2; have yl := (HRW.out.below hS HRW.out.lt).lt; go_simp; first | done | with_reducible rfl | rfl)⟩) hb1 ?_
  (try simp only [Act.put, List.getElem_toArray, List.getElem_cons_zero, List.getElem_cons_succ, List.setIfInBounds_toArray, List.set_cons_zero, List.set_cons_succ])
  refine wpAnyH_ready (rs := [2, 10]) (by kernel_rfl) (by simp) ?_
  refine AllReadyH.cons rfl (fun K hK => ?_) ?_
  · go_simp
    go_at_call 63
    refine (HI1.out v1 (HT.out.below hb1)).mono ?_
    rintro e v2 ⟨rfl, hq2⟩
    have hb2 := hb1.trans (hq2.mono hb1.size)
    clear hq2
    try go_simp
    refine hK.out _ _ hb2 (fun hHeld => ?_)
    clear hK K hHeld
    refine wpAnyH_take (i := 3) (v := .string (d1 ++ ⟨#[32]⟩)) rfl (by kernel_rfl) (by kernel_rfl) (by kernel_rfl) (fun _ _ _ h => h) (Or.inl ⟨by kernel_rfl, by (intro W hS; go_simp; first | done | with_reducible rfl | rfl)⟩) hb2 ?_
    (try simp only [Act.put, List.getElem_toArray, List.getElem_cons_zero, List.getElem_cons_succ, List.setIfInBounds_toArray, List.set_cons_zero, List.set_cons_succ])
    refine wpAnyH_take (i := 6) (v := .string (d1 ++ ⟨#[32]⟩ ++ x.key)) rfl (by kernel_rfl) (by kernel_rfl) (by kernel_rfl) (fun _ _ _ h => h) (Or.inl ⟨by kernel_rfl, by (intro W hS; go_simp; first | done | with_reducible rfl | rfl)⟩) hb2 ?_
    (try simp only [Act.put, List.getElem_toArray, List.getElem_cons_zero, List.getElem_cons_succ, List.setIfInBounds_toArray, List.set_cons_zero, List.set_cons_succ])
    refine wpAnyH_take (i := 7) (v := .string (d1 ++ ⟨#[32]⟩ ++ x.key ++ ⟨#[32, 100, 101, 97, 100]⟩)) rfl (by kernel_rfl) (by kernel_rfl) (by kernel_rfl) (fun _ _ _ h => h) (Or.inl ⟨by kernel_rfl, by (intro W hS; go_simp; first | done | with_reducible rfl | rfl)⟩) hb2 ?_
    (try simp only [Act.put, List.getElem_toArray, List.getElem_cons_zero, List.getElem_cons_succ, List.setIfInBounds_toArray, List.set_cons_zero, List.set_cons_succ])
    refine wpAnyH_ready (rs := [10]) (by kernel_rfl) (by simp) ?_
    refine AllReadyH.cons rfl (fun K hK => ?_) AllReadyH.nil
    go_simp
    have hb3 : Below w3.heap.size w3 (v2.alloc (.cells #[.int .i64 x.code] 3)) := hb2.alloc hb2.size _
    have hq3 : Below v2.heap.size v2 (v2.alloc (.cells #[.int .i64 x.code] 3)) := (Below.refl _ _).alloc (Nat.le_refl _) _
    have hr3 : Row (v2.alloc (.cells #[.int .i64 x.code] 3)) v2.heap.size 3 [.int .i64 x.code] := Row.new _ _ _
    have hlo3 : w3.heap.size ≤ v2.heap.size := hb2.size
    clear hq3
    refine hK.out _ _ hb3 (fun hHeld => ?_)
    clear hK K hHeld
    obtain ⟨blk3, hblk3⟩ : ∃ n, n = v2.heap.size := ⟨_, rfl⟩
    rw [← hblk3] at hr3 hlo3
    simp only [← hblk3]
    generalize v2.alloc _ = v3 at *
    clear hblk3
    refine wpAnyH_ready (rs := [11]) (by kernel_rfl) (by simp) ?_
    refine AllReadyH.cons rfl (fun K hK => ?_) AllReadyH.nil
    go_simp
    go_at_call 52
    refine (HJ1.out v3 blk3 hr3 (HT.out.below hb3)).mono ?_
    rintro e v4 ⟨rfl, hq4⟩
    have hb4 := hb3.trans (hq4.mono hb3.size)
    have hr34 := hr3.below hq4 hr3.lt
    clear hq4
    try go_simp
    refine hK.out _ _ hb4 (fun hHeld => ?_)
    clear hK K hHeld
    refine wpAnyH_take (i := 12) (v := .string hd) rfl (by kernel_rfl) (by kernel_rfl) (by kernel_rfl) (fun _ _ _ h => h) (Or.inl ⟨by kernel_rfl, by (intro W hS; go_simp; first | done | with_reducible rfl | rfl)⟩) hb4 ?_
    (try simp only [Act.put, List.getElem_toArray, List.getElem_cons_zero, List.getElem_cons_succ, List.setIfInBounds_toArray, List.set_cons_zero, List.set_cons_succ])
    refine wpAnyH_done (by kernel_rfl) ?_ _
    have HRA := hide (HRW.out.below hb4 HRW.out.lt)
    have HBA := hide (HB.out.trans (hb4.mono HB.out.size))
    have HTA := hide (HT.out.below hb4)
    have z2 := HRA.out.cell 2
    have zl := HRA.out.lt
    clear HRW HB HT hb4
    by_cases hc : x.code = 10
    · have HZ := hide (HPK.out hc)
      have e10 : (x.code == 10) = true := by simpa using hc
      have z6 := HRA.out.cell 6
      have hq : Below v4.heap.size v4 (v4.alloc (.cells #[.int .i64 x.behind] 3)) := (Below.refl _ _).alloc (Nat.le_refl _) _
      have HC := hide (HJ2.out _ v4.heap.size (Row.new v4 3 [.int .i64 x.behind]) (HTA.out.below hq))
      have HQ := hide hq
      clear hc hq
      go_wp2_with fail
      refine HC.out.mono ?_
      rintro e w7 ⟨rfl, hb7⟩
      have HB7 := hide (HBA.out.trans ((HQ.out.trans (hb7.mono HQ.out.size)).mono HBA.out.size))
      clear hb7
      go_wp2
      go_ret
      exact ⟨ret_str HZ.out.symm, HB7.out⟩
    · have HZ := hide (HEL.out hc)
      have e10 : (x.code == 10) = false := by simpa using hc
      clear hc
      go_wp2_with fail
      refine wp_region_held_drew (S := fun W => Below v4.heap.size v4 W) (by kernel_rfl) (below_drewN (Below.refl _ _) 1) (fun hb5 => ?_)
      generalize v4.drew = v5 at *
      refine wpAnyH_take (i := 0) (v := .string hd) rfl (by kernel_rfl) (by kernel_rfl) (by kernel_rfl) (fun _ _ _ h => h) (Or.inl ⟨by kernel_rfl, by (intro W hS; go_simp; first | done | with_reducible rfl | rfl)⟩) hb5 ?_
      (try simp only [Act.put, List.getElem_toArray, List.getElem_cons_zero, List.getElem_cons_succ, List.setIfInBounds_toArray, List.set_cons_zero, List.set_cons_succ])
      refine wpAnyH_take (i := 1) (v := .pointer (some ⟨w.heap.size, 3, none⟩)) rfl (by kernel_rfl) (by kernel_rfl) (by kernel_rfl) (fun _ _ _ h => h) (Or.inl ⟨by kernel_rfl, by (intro W hS; go_simp; first | done | with_reducible rfl | rfl)⟩) hb5 ?_
      (try simp only [Act.put, List.getElem_toArray, List.getElem_cons_zero, List.getElem_cons_succ, List.setIfInBounds_toArray, List.set_cons_zero, List.set_cons_succ])
      refine wpAnyH_take (i := 2) (v := .int .i64 x.why) rfl (by kernel_rfl) (by kernel_rfl) (by kernel_rfl) (fun _ _ _ h => h) (Or.inl ⟨by kernel_rfl, by (intro W hS; have y := (HRA.out.below hS HRA.out.lt).cell 3; have yl := (HRA.out.below hS HRA.out.lt).lt; go_simp; first | done | with_reducible rfl | rfl)⟩) hb5 ?_
      (try simp only [Act.put, List.getElem_toArray, List.getElem_cons_zero, List.getElem_cons_succ, List.setIfInBounds_toArray, List.set_cons_zero, List.set_cons_succ])
      refine wpAnyH_take (i := 6) (v := .pointer (some ⟨w.heap.size, 4, none⟩)) rfl (by kernel_rfl) (by kernel_rfl) (by kernel_rfl) (fun _ _ _ h => h) (Or.inl ⟨by kernel_rfl, by (intro W hS; go_simp; first | done | with_reducible rfl | rfl)⟩) hb5 ?_
      (try simp only [Act.put, List.getElem_toArray, List.getElem_cons_zero, List.getElem_cons_succ, List.setIfInBounds_toArray, List.set_cons_zero, List.set_cons_succ])
      refine wpAnyH_take (i := 7) (v := .string x.type_) rfl (by kernel_rfl) (by kernel_rfl) (by kernel_rfl) (fun _ _ _ h => h) (Or.inl ⟨by kernel_rfl, by (intro W hS; have y := (HRA.out.below hS HRA.out.lt).cell 4; have yl := (HRA.out.below hS HRA.out.lt).lt; go_simp; first | done | with_reducible rfl | rfl)⟩) hb5 ?_
      (try simp only [Act.put, List.getElem_toArray, List.getElem_cons_zero, List.getElem_cons_succ, List.setIfInBounds_toArray, List.set_cons_zero, List.set_cons_succ])
      refine wpAnyH_take (i := 10) (v := .pointer (some ⟨w.heap.size, 5, none⟩)) rfl (by kernel_rfl) (by kernel_rfl) (by kernel_rfl) (fun _ _ _ h => h) (Or.inl ⟨by kernel_rfl, by (intro W hS; go_simp; first | done | with_reducible rfl | rfl)⟩) hb5 ?_
      (try simp only [Act.put, List.getElem_toArray, List.getElem_cons_zero, List.getElem_cons_succ, List.setIfInBounds_toArray, List.set_cons_zero, List.set_cons_succ])
      refine wpAnyH_take (i := 11) (v := .int .i64 x.version) rfl (by kernel_rfl) (by kernel_rfl) (by kernel_rfl) (fun _ _ _ h => h) (Or.inl ⟨by kernel_rfl, by (intro W hS; have y := (HRA.out.below hS HRA.out.lt).cell 5; have yl := (HRA.out.below hS HRA.out.lt).lt; go_simp; first | done | with_reducible rfl | rfl)⟩) hb5 ?_
      (try simp only [Act.put, List.getElem_toArray, List.getElem_cons_zero, List.getElem_cons_succ, List.setIfInBounds_toArray, List.set_cons_zero, List.set_cons_succ])
      refine wpAnyH_ready (rs := [3]) (by kernel_rfl) (by simp) ?_
      refine AllReadyH.cons rfl (fun K hK => ?_) AllReadyH.nil
      go_simp
      have hb6 : Below v4.heap.size v4 (v5.alloc (.cells #[.int .i64 x.why] 3)) := hb5.alloc hb5.size _
      have hq6 : Below v5.heap.size v5 (v5.alloc (.cells #[.int .i64 x.why] 3)) := (Below.refl _ _).alloc (Nat.le_refl _) _
      have hr6 : Row (v5.alloc (.cells #[.int .i64 x.why] 3)) v5.heap.size 3 [.int .i64 x.why] := Row.new _ _ _
      have hlo6 : v4.heap.size ≤ v5.heap.size := hb5.size
      clear hq6
      refine hK.out _ _ hb6 (fun hHeld => ?_)
      clear hK K hHeld
      obtain ⟨blk6, hblk6⟩ : ∃ n, n = v5.heap.size := ⟨_, rfl⟩
      rw [← hblk6] at hr6 hlo6
      simp only [← hblk6]
      generalize v5.alloc _ = v6 at *
      clear hblk6
      refine wpAnyH_ready (rs := [4]) (by kernel_rfl) (by simp) ?_
      refine AllReadyH.cons rfl (fun K hK => ?_) AllReadyH.nil
      go_simp
      go_at_call 52
      refine (HJ3.out v6 blk6 hr6 (HTA.out.below hb6)).mono ?_
      rintro e v7 ⟨rfl, hq7⟩
      have hb7 := hb6.trans (hq7.mono hb6.size)
      have hr67 := hr6.below hq7 hr6.lt
      clear hq7
      try go_simp
      refine hK.out _ _ hb7 (fun hHeld => ?_)
      clear hK K hHeld
      refine wpAnyH_take (i := 5) (v := .string (j3 ++ ⟨#[32]⟩)) rfl (by kernel_rfl) (by kernel_rfl) (by kernel_rfl) (fun _ _ _ h => h) (Or.inl ⟨by kernel_rfl, by (intro W hS; go_simp; first | done | with_reducible rfl | rfl)⟩) hb7 ?_
      (try simp only [Act.put, List.getElem_toArray, List.getElem_cons_zero, List.getElem_cons_succ, List.setIfInBounds_toArray, List.set_cons_zero, List.set_cons_succ])
      refine wpAnyH_take (i := 8) (v := .string (j3 ++ ⟨#[32]⟩ ++ x.type_)) rfl (by kernel_rfl) (by kernel_rfl) (by kernel_rfl) (fun _ _ _ h => h) (Or.inl ⟨by kernel_rfl, by (intro W hS; go_simp; first | done | with_reducible rfl | rfl)⟩) hb7 ?_
      (try simp only [Act.put, List.getElem_toArray, List.getElem_cons_zero, List.getElem_cons_succ, List.setIfInBounds_toArray, List.set_cons_zero, List.set_cons_succ])
      refine wpAnyH_take (i := 9) (v := .string (j3 ++ ⟨#[32]⟩ ++ x.type_ ++ ⟨#[64]⟩)) rfl (by kernel_rfl) (by kernel_rfl) (by kernel_rfl) (fun _ _ _ h => h) (Or.inl ⟨by kernel_rfl, by (intro W hS; go_simp; first | done | with_reducible rfl | rfl)⟩) hb7 ?_
      (try simp only [Act.put, List.getElem_toArray, List.getElem_cons_zero, List.getElem_cons_succ, List.setIfInBounds_toArray, List.set_cons_zero, List.set_cons_succ])
      refine wpAnyH_ready (rs := [12]) (by kernel_rfl) (by simp) ?_
      refine AllReadyH.cons rfl (fun K hK => ?_) AllReadyH.nil
      go_simp
      go_at_call 63
      refine (HI2.out v7 (HTA.out.below hb7)).mono ?_
      rintro e v8 ⟨rfl, hq8⟩
      have hb8 := hb7.trans (hq8.mono hb7.size)
      have hr678 := hr67.below hq8 hr67.lt
      clear hq8
      try go_simp
      refine hK.out _ _ hb8 (fun hHeld => ?_)
      clear hK K hHeld
      refine wpAnyH_take (i := 13) (v := .string (j3 ++ ⟨#[32]⟩ ++ x.type_ ++ ⟨#[64]⟩ ++ d5)) rfl (by kernel_rfl) (by kernel_rfl) (by kernel_rfl) (fun _ _ _ h => h) (Or.inl ⟨by kernel_rfl, by (intro W hS; go_simp; first | done | with_reducible rfl | rfl)⟩) hb8 ?_
      (try simp only [Act.put, List.getElem_toArray, List.getElem_cons_zero, List.getElem_cons_succ, List.setIfInBounds_toArray, List.set_cons_zero, List.set_cons_succ])
      refine wpAnyH_take (i := 14) (v := .string (j3 ++ ⟨#[32]⟩ ++ x.type_ ++ ⟨#[64]⟩ ++ d5 ++ ⟨#[10]⟩)) rfl (by kernel_rfl) (by kernel_rfl) (by kernel_rfl) (fun _ _ _ h => h) (Or.inl ⟨by kernel_rfl, by (intro W hS; go_simp; first | done | with_reducible rfl | rfl)⟩) hb8 ?_
      (try simp only [Act.put, List.getElem_toArray, List.getElem_cons_zero, List.getElem_cons_succ, List.setIfInBounds_toArray, List.set_cons_zero, List.set_cons_succ])
      refine wpAnyH_take (i := 15) (v := .string (j3 ++ ⟨#[32]⟩ ++ x.type_ ++ ⟨#[64]⟩ ++ d5 ++ ⟨#[10]⟩)) rfl (by kernel_rfl) (by kernel_rfl) (by kernel_rfl) (fun _ _ _ h => h) (Or.inl ⟨by kernel_rfl, by (intro W hS; go_simp; first | done | with_reducible rfl | rfl)⟩) hb8 ?_
      (try simp only [Act.put, List.getElem_toArray, List.getElem_cons_zero, List.getElem_cons_succ, List.setIfInBounds_toArray, List.set_cons_zero, List.set_cons_succ])
      refine wpAnyH_done (by kernel_rfl) ?_ _
      go_wp2
      go_ret
      exact ⟨ret_str HZ.out.symm, HBA.out.trans (hb8.mono HBA.out.size)⟩
  refine AllReadyH.cons rfl (fun K hK => ?_) AllReadyH.nil
  · go_simp
    have hb9 : Below w3.heap.size w3 (v1.alloc (.cells #[.int .i64 x.code] 3)) := hb1.alloc hb1.size _
    have hq9 : Below v1.heap.size v1 (v1.alloc (.cells #[.int .i64 x.code] 3)) := (Below.refl _ _).alloc (Nat.le_refl _) _
    have hr9 : Row (v1.alloc (.cells #[.int .i64 x.code] 3)) v1.heap.size 3 [.int .i64 x.code] := Row.new _ _ _
    have hlo9 : w3.heap.size ≤ v1.heap.size := hb1.size
    clear hq9
    refine hK.out _ _ hb9 (fun hHeld => ?_)
    clear hK K hHeld
    obtain ⟨blk9, hblk9⟩ : ∃ n, n = v1.heap.size := ⟨_, rfl⟩
    rw [← hblk9] at hr9 hlo9
    simp only [← hblk9]
    generalize v1.alloc _ = v9 at *
    clear hblk9
    refine wpAnyH_ready (rs := [2]) (by kernel_rfl) (by simp) ?_
    refine AllReadyH.cons rfl (fun K hK => ?_) AllReadyH.nil
    go_simp
    go_at_call 63
    refine (HI1.out v9 (HT.out.below hb9)).mono ?_
    rintro e v10 ⟨rfl, hq10⟩
    have hb10 := hb9.trans (hq10.mono hb9.size)
    have hr910 := hr9.below hq10 hr9.lt
    clear hq10
    try go_simp
    refine hK.out _ _ hb10 (fun hHeld => ?_)
    clear hK K hHeld
    refine wpAnyH_take (i := 3) (v := .string (d1 ++ ⟨#[32]⟩)) rfl (by kernel_rfl) (by kernel_rfl) (by kernel_rfl) (fun _ _ _ h => h) (Or.inl ⟨by kernel_rfl, by (intro W hS; go_simp; first | done | with_reducible rfl | rfl)⟩) hb10 ?_
    (try simp only [Act.put, List.getElem_toArray, List.getElem_cons_zero, List.getElem_cons_succ, List.setIfInBounds_toArray, List.set_cons_zero, List.set_cons_succ])
    refine wpAnyH_take (i := 6) (v := .string (d1 ++ ⟨#[32]⟩ ++ x.key)) rfl (by kernel_rfl) (by kernel_rfl) (by kernel_rfl) (fun _ _ _ h => h) (Or.inl ⟨by kernel_rfl, by (intro W hS; go_simp; first | done | with_reducible rfl | rfl)⟩) hb10 ?_
    (try simp only [Act.put, List.getElem_toArray, List.getElem_cons_zero, List.getElem_cons_succ, List.setIfInBounds_toArray, List.set_cons_zero, List.set_cons_succ])
    refine wpAnyH_take (i := 7) (v := .string (d1 ++ ⟨#[32]⟩ ++ x.key ++ ⟨#[32, 100, 101, 97, 100]⟩)) rfl (by kernel_rfl) (by kernel_rfl) (by kernel_rfl) (fun _ _ _ h => h) (Or.inl ⟨by kernel_rfl, by (intro W hS; go_simp; first | done | with_reducible rfl | rfl)⟩) hb10 ?_
    (try simp only [Act.put, List.getElem_toArray, List.getElem_cons_zero, List.getElem_cons_succ, List.setIfInBounds_toArray, List.set_cons_zero, List.set_cons_succ])
    refine wpAnyH_ready (rs := [11]) (by kernel_rfl) (by simp) ?_
    refine AllReadyH.cons rfl (fun K hK => ?_) AllReadyH.nil
    go_simp
    go_at_call 52
    refine (HJ1.out v10 blk9 hr910 (HT.out.below hb10)).mono ?_
    rintro e v11 ⟨rfl, hq11⟩
    have hb11 := hb10.trans (hq11.mono hb10.size)
    have hr91011 := hr910.below hq11 hr910.lt
    clear hq11
    try go_simp
    refine hK.out _ _ hb11 (fun hHeld => ?_)
    clear hK K hHeld
    refine wpAnyH_take (i := 12) (v := .string hd) rfl (by kernel_rfl) (by kernel_rfl) (by kernel_rfl) (fun _ _ _ h => h) (Or.inl ⟨by kernel_rfl, by (intro W hS; go_simp; first | done | with_reducible rfl | rfl)⟩) hb11 ?_
    (try simp only [Act.put, List.getElem_toArray, List.getElem_cons_zero, List.getElem_cons_succ, List.setIfInBounds_toArray, List.set_cons_zero, List.set_cons_succ])
    refine wpAnyH_done (by kernel_rfl) ?_ _
    have HRA := hide (HRW.out.below hb11 HRW.out.lt)
    have HBA := hide (HB.out.trans (hb11.mono HB.out.size))
    have HTA := hide (HT.out.below hb11)
    have z2 := HRA.out.cell 2
    have zl := HRA.out.lt
    clear HRW HB HT hb11
    by_cases hc : x.code = 10
    · have HZ := hide (HPK.out hc)
      have e10 : (x.code == 10) = true := by simpa using hc
      have z6 := HRA.out.cell 6
      have hq : Below v11.heap.size v11 (v11.alloc (.cells #[.int .i64 x.behind] 3)) := (Below.refl _ _).alloc (Nat.le_refl _) _
      have HC := hide (HJ2.out _ v11.heap.size (Row.new v11 3 [.int .i64 x.behind]) (HTA.out.below hq))
      have HQ := hide hq
      clear hc hq
      go_wp2_with fail
      refine HC.out.mono ?_
      rintro e w7 ⟨rfl, hb7⟩
      have HB7 := hide (HBA.out.trans ((HQ.out.trans (hb7.mono HQ.out.size)).mono HBA.out.size))
      clear hb7
      go_wp2
      go_ret
      exact ⟨ret_str HZ.out.symm, HB7.out⟩
    · have HZ := hide (HEL.out hc)
      have e10 : (x.code == 10) = false := by simpa using hc
      clear hc
      go_wp2_with fail
      refine wp_region_held_drew (S := fun W => Below v11.heap.size v11 W) (by kernel_rfl) (below_drewN (Below.refl _ _) 1) (fun hb12 => ?_)
      generalize v11.drew = v12 at *
      refine wpAnyH_take (i := 0) (v := .string hd) rfl (by kernel_rfl) (by kernel_rfl) (by kernel_rfl) (fun _ _ _ h => h) (Or.inl ⟨by kernel_rfl, by (intro W hS; go_simp; first | done | with_reducible rfl | rfl)⟩) hb12 ?_
      (try simp only [Act.put, List.getElem_toArray, List.getElem_cons_zero, List.getElem_cons_succ, List.setIfInBounds_toArray, List.set_cons_zero, List.set_cons_succ])
      refine wpAnyH_take (i := 1) (v := .pointer (some ⟨w.heap.size, 3, none⟩)) rfl (by kernel_rfl) (by kernel_rfl) (by kernel_rfl) (fun _ _ _ h => h) (Or.inl ⟨by kernel_rfl, by (intro W hS; go_simp; first | done | with_reducible rfl | rfl)⟩) hb12 ?_
      (try simp only [Act.put, List.getElem_toArray, List.getElem_cons_zero, List.getElem_cons_succ, List.setIfInBounds_toArray, List.set_cons_zero, List.set_cons_succ])
      refine wpAnyH_take (i := 2) (v := .int .i64 x.why) rfl (by kernel_rfl) (by kernel_rfl) (by kernel_rfl) (fun _ _ _ h => h) (Or.inl ⟨by kernel_rfl, by (intro W hS; have y := (HRA.out.below hS HRA.out.lt).cell 3; have yl := (HRA.out.below hS HRA.out.lt).lt; go_simp; first | done | with_reducible rfl | rfl)⟩) hb12 ?_
      (try simp only [Act.put, List.getElem_toArray, List.getElem_cons_zero, List.getElem_cons_succ, List.setIfInBounds_toArray, List.set_cons_zero, List.set_cons_succ])
      refine wpAnyH_take (i := 6) (v := .pointer (some ⟨w.heap.size, 4, none⟩)) rfl (by kernel_rfl) (by kernel_rfl) (by kernel_rfl) (fun _ _ _ h => h) (Or.inl ⟨by kernel_rfl, by (intro W hS; go_simp; first | done | with_reducible rfl | rfl)⟩) hb12 ?_
      (try simp only [Act.put, List.getElem_toArray, List.getElem_cons_zero, List.getElem_cons_succ, List.setIfInBounds_toArray, List.set_cons_zero, List.set_cons_succ])
      refine wpAnyH_take (i := 7) (v := .string x.type_) rfl (by kernel_rfl) (by kernel_rfl) (by kernel_rfl) (fun _ _ _ h => h) (Or.inl ⟨by kernel_rfl, by (intro W hS; have y := (HRA.out.below hS HRA.out.lt).cell 4; have yl := (HRA.out.below hS HRA.out.lt).lt; go_simp; first | done | with_reducible rfl | rfl)⟩) hb12 ?_
      (try simp only [Act.put, List.getElem_toArray, List.getElem_cons_zero, List.getElem_cons_succ, List.setIfInBounds_toArray, List.set_cons_zero, List.set_cons_succ])
      refine wpAnyH_take (i := 10) (v := .pointer (some ⟨w.heap.size, 5, none⟩)) rfl (by kernel_rfl) (by kernel_rfl) (by kernel_rfl) (fun _ _ _ h => h) (Or.inl ⟨by kernel_rfl, by (intro W hS; go_simp; first | done | with_reducible rfl | rfl)⟩) hb12 ?_
      (try simp only [Act.put, List.getElem_toArray, List.getElem_cons_zero, List.getElem_cons_succ, List.setIfInBounds_toArray, List.set_cons_zero, List.set_cons_succ])
      refine wpAnyH_take (i := 11) (v := .int .i64 x.version) rfl (by kernel_rfl) (by kernel_rfl) (by kernel_rfl) (fun _ _ _ h => h) (Or.inl ⟨by kernel_rfl, by (intro W hS; have y := (HRA.out.below hS HRA.out.lt).cell 5; have yl := (HRA.out.below hS HRA.out.lt).lt; go_simp; first | done | with_reducible rfl | rfl)⟩) hb12 ?_
      (try simp only [Act.put, List.getElem_toArray, List.getElem_cons_zero, List.getElem_cons_succ, List.setIfInBounds_toArray, List.set_cons_zero, List.set_cons_succ])
      refine wpAnyH_ready (rs := [3]) (by kernel_rfl) (by simp) ?_
      refine AllReadyH.cons rfl (fun K hK => ?_) AllReadyH.nil
      go_simp
      have hb13 : Below v11.heap.size v11 (v12.alloc (.cells #[.int .i64 x.why] 3)) := hb12.alloc hb12.size _
      have hq13 : Below v12.heap.size v12 (v12.alloc (.cells #[.int .i64 x.why] 3)) := (Below.refl _ _).alloc (Nat.le_refl _) _
      have hr13 : Row (v12.alloc (.cells #[.int .i64 x.why] 3)) v12.heap.size 3 [.int .i64 x.why] := Row.new _ _ _
      have hlo13 : v11.heap.size ≤ v12.heap.size := hb12.size
      clear hq13
      refine hK.out _ _ hb13 (fun hHeld => ?_)
      clear hK K hHeld
      obtain ⟨blk13, hblk13⟩ : ∃ n, n = v12.heap.size := ⟨_, rfl⟩
      rw [← hblk13] at hr13 hlo13
      simp only [← hblk13]
      generalize v12.alloc _ = v13 at *
      clear hblk13
      refine wpAnyH_ready (rs := [4]) (by kernel_rfl) (by simp) ?_
      refine AllReadyH.cons rfl (fun K hK => ?_) AllReadyH.nil
      go_simp
      go_at_call 52
      refine (HJ3.out v13 blk13 hr13 (HTA.out.below hb13)).mono ?_
      rintro e v14 ⟨rfl, hq14⟩
      have hb14 := hb13.trans (hq14.mono hb13.size)
      have hr1314 := hr13.below hq14 hr13.lt
      clear hq14
      try go_simp
      refine hK.out _ _ hb14 (fun hHeld => ?_)
      clear hK K hHeld
      refine wpAnyH_take (i := 5) (v := .string (j3 ++ ⟨#[32]⟩)) rfl (by kernel_rfl) (by kernel_rfl) (by kernel_rfl) (fun _ _ _ h => h) (Or.inl ⟨by kernel_rfl, by (intro W hS; go_simp; first | done | with_reducible rfl | rfl)⟩) hb14 ?_
      (try simp only [Act.put, List.getElem_toArray, List.getElem_cons_zero, List.getElem_cons_succ, List.setIfInBounds_toArray, List.set_cons_zero, List.set_cons_succ])
      refine wpAnyH_take (i := 8) (v := .string (j3 ++ ⟨#[32]⟩ ++ x.type_)) rfl (by kernel_rfl) (by kernel_rfl) (by kernel_rfl) (fun _ _ _ h => h) (Or.inl ⟨by kernel_rfl, by (intro W hS; go_simp; first | done | with_reducible rfl | rfl)⟩) hb14 ?_
      (try simp only [Act.put, List.getElem_toArray, List.getElem_cons_zero, List.getElem_cons_succ, List.setIfInBounds_toArray, List.set_cons_zero, List.set_cons_succ])
      refine wpAnyH_take (i := 9) (v := .string (j3 ++ ⟨#[32]⟩ ++ x.type_ ++ ⟨#[64]⟩)) rfl (by kernel_rfl) (by kernel_rfl) (by kernel_rfl) (fun _ _ _ h => h) (Or.inl ⟨by kernel_rfl, by (intro W hS; go_simp; first | done | with_reducible rfl | rfl)⟩) hb14 ?_
      (try simp only [Act.put, List.getElem_toArray, List.getElem_cons_zero, List.getElem_cons_succ, List.setIfInBounds_toArray, List.set_cons_zero, List.set_cons_succ])
      refine wpAnyH_ready (rs := [12]) (by kernel_rfl) (by simp) ?_
      refine AllReadyH.cons rfl (fun K hK => ?_) AllReadyH.nil
      go_simp
      go_at_call 63
      refine (HI2.out v14 (HTA.out.below hb14)).mono ?_
      rintro e v15 ⟨rfl, hq15⟩
      have hb15 := hb14.trans (hq15.mono hb14.size)
      have hr131415 := hr1314.below hq15 hr1314.lt
      clear hq15
      try go_simp
      refine hK.out _ _ hb15 (fun hHeld => ?_)
      clear hK K hHeld
      refine wpAnyH_take (i := 13) (v := .string (j3 ++ ⟨#[32]⟩ ++ x.type_ ++ ⟨#[64]⟩ ++ d5)) rfl (by kernel_rfl) (by kernel_rfl) (by kernel_rfl) (fun _ _ _ h => h) (Or.inl ⟨by kernel_rfl, by (intro W hS; go_simp; first | done | with_reducible rfl | rfl)⟩) hb15 ?_
      (try simp only [Act.put, List.getElem_toArray, List.getElem_cons_zero, List.getElem_cons_succ, List.setIfInBounds_toArray, List.set_cons_zero, List.set_cons_succ])
      refine wpAnyH_take (i := 14) (v := .string (j3 ++ ⟨#[32]⟩ ++ x.type_ ++ ⟨#[64]⟩ ++ d5 ++ ⟨#[10]⟩)) rfl (by kernel_rfl) (by kernel_rfl) (by kernel_rfl) (fun _ _ _ h => h) (Or.inl ⟨by kernel_rfl, by (intro W hS; go_simp; first | done | with_reducible rfl | rfl)⟩) hb15 ?_
      (try simp only [Act.put, List.getElem_toArray, List.getElem_cons_zero, List.getElem_cons_succ, List.setIfInBounds_toArray, List.set_cons_zero, List.set_cons_succ])
      refine wpAnyH_take (i := 15) (v := .string (j3 ++ ⟨#[32]⟩ ++ x.type_ ++ ⟨#[64]⟩ ++ d5 ++ ⟨#[10]⟩)) rfl (by kernel_rfl) (by kernel_rfl) (by kernel_rfl) (fun _ _ _ h => h) (Or.inl ⟨by kernel_rfl, by (intro W hS; go_simp; first | done | with_reducible rfl | rfl)⟩) hb15 ?_
      (try simp only [Act.put, List.getElem_toArray, List.getElem_cons_zero, List.getElem_cons_succ, List.setIfInBounds_toArray, List.set_cons_zero, List.set_cons_succ])
      refine wpAnyH_done (by kernel_rfl) ?_ _
      go_wp2
      go_ret
      exact ⟨ret_str HZ.out.symm, HBA.out.trans (hb15.mono HBA.out.size)⟩
end Go.Proofs.YtkfiebeedbjicaaGreatDoor
set_option linter.unusedVariables false
set_option linter.unusedSimpArgs false
namespace Go.Proofs.YtkfiebeedbjicaaGreatDoor
open Go.ChangeShapes Go.WideShapes Go.ChangeAt Go.RowKit

set_option maxRecDepth 100000 in
set_option maxHeartbeats 4000000 in
theorem board_any (d : DeadDone) (us : List Value) (fp : List Nat) (w : World) (ho : OwC w d.cells us fp) (hf : Lt fp w.heap.size) (hbk : d.bulk ≤ 1048576) (ht : Tab w) (hok : d.fine) :
    Calls Tryz.prog 28 #[.agg us.toArray] w fun e w' => e = .returned (.string (d.t3 d.held.length)) ∧ Below w.heap.size w w' := by
  obtain ⟨A1, c1, A2, c2, A3, c3, f1, f2, f3, rfl, o1, o2, o3, rfl⟩ := ho.oDeadDone
  obtain ⟨-, n1, m1⟩ := o1.nlen
  obtain ⟨-, n2, m2⟩ := o2.nlen
  obtain ⟨-, n3, m3⟩ := o3.nlen
  unfold maxLen at m1 m2 m3
  have hf1 := hf.left
  have hf2 := hf.right.left
  have hf3 := hf.right.right
  have hbe := d.bulk_eq
  have hbk1 : Record.bulkL d.given ≤ 1048576 := by omega
  have Z1 := hide (d.t1_size hok)
  have Z2 := hide (d.t2_size hok)
  have Z3 := hide (d.t3_size hok)
  have HGI := hide hok.2.2.2.2.1
  have HDE := hide hok.2.2.2.2.2
  have HHE := hide hok.2.2.2.1.2
  have hg0 := ht.lt
  clear ho hbe hok
  go_enter Tryz.func28, Tryz.ntmps28
  go_upto_region 2 with fail
  generalize hwA : w.alloc (.cells #[.bool d.ok, .slice A1 d.given.length c1, .slice A2 d.dead.length c2, .slice A3 d.held.length c3] 33) = wA
  have hA : Below w.heap.size w wA := by rw [← hwA]; exact (Below.refl _ _).alloc (Nat.le_refl _) _
  have hsA : wA.heap.size = w.heap.size + 1 := by rw [← hwA]; simp
  have RA : Row wA w.heap.size 33 [.bool d.ok, .slice A1 d.given.length c1, .slice A2 d.dead.length c2, .slice A3 d.held.length c3] := by rw [← hwA]; exact Row.new w _ _
  have hB := Bld.new wA
  have hAB : Below wA.heap.size wA (wA.alloc (.cells #[.pointer none, .slice none 0 0] 89)) := (Below.refl _ _).alloc (Nat.le_refl _) _
  have RB := RA.below hAB RA.lt
  have hWB := hA.trans (hAB.mono hA.size)
  rw [hsA] at hB
  try simp only [hsA]
  clear hwA
  generalize hwB : wA.alloc _ = wB at hB RB hWB hAB ⊢
  obtain ⟨b, hbe⟩ : ∃ b, b = w.heap.size + 1 := ⟨_, rfl⟩
  rw [← hbe] at hB ⊢
  have hb1 : w.heap.size < b := by omega
  have hgb : 0 < b := by omega
  have HBD := hide (show Bld wB b (d.t1 0) from hB)
  have HBE := hide (Below.refl b wB)
  have HR := hide RB
  have HRR := hide RB
  have HW := hide hWB
  have O1 := hide (o1.below hWB hf1)
  have O2 := hide (o2.below hWB hf2)
  have O3 := hide (o3.below hWB hf3)
  have HT := hide (ht.below hWB)
  have z1 := RB.cell 1
  have zl := RB.lt
  have hbl := hB.lt
  clear hwB hB RB hWB hAB RA hA hsA o1 o2 o3 hbe ht
  have ss1 : (ByteArray.mk #[10]).size = 1 := rfl
  have ss2 : (ByteArray.mk #[32]).size = 1 := rfl
  have ss3 : (ByteArray.mk #[104, 101, 108, 100, 32]).size = 5 := rfl
  have ss4 : (ByteArray.mk #[32, 98, 101, 104, 105, 110, 100]).size = 7 := rfl
  go_wp2_with fail
  go_loopw [13] (fun i wr => ∃ j : Nat, i = .int .i64 (j : Int) ∧ j ≤ d.given.length ∧ Bld wr b (d.t1 j) ∧ Below b wB wr) (fun i _ => d.given.length - (intOf i).toNat)
  case atStart => exact ⟨0, rfl, Nat.zero_le _, HBD.out, HBE.out⟩
  case round =>
    clear z1 zl HBD HBE HRR
    obtain ⟨j, rfl, hj, hbld, hbel⟩ := hrel
    have HBD := hide hbld
    have HBE := hide hbel
    have hbr := hbld.lt
    have hszj := Z1.out j
    have HRR := hide (HR.out.below hbel hb1)
    have HTR := hide (HT.out.low hbel hgb)
    have HOR := hide (O1.out.below hbel (hf1.mono (Nat.le_of_lt hb1)))
    clear hbld hbel
    by_cases hlt : j < d.given.length
    · have hltI : (j : Int) < (d.given.length : Int) := by omega
      have hj0 : (0 : Int) ≤ (j : Int) := by omega
      obtain ⟨g, off, vs, fi, rfl, hgm, hfi2, hvl, hcs, hov⟩ := HOR.out.elem Record.cells_len hlt
      have hfiw : Lt fi wr.heap.size := fun q hq => by have := hf1 q (hfi2 hq); omega
      have hgl : g < wr.heap.size := by have := hf1 g hgm; omega
      have HS := hide (d.t1_succ j hlt)
      have hfx := HGI.out j hlt
      have hls := Record.line_size _ hfx
      have hbkx : d.given[j].bulk ≤ 1048576 := Nat.le_trans (Record.bulk_in d.given j hlt) hbk1
      have hov' := hide hov
      obtain ⟨A4, c4, f4, rfl, -⟩ := hov.oRecord
      have p0 := hcs 0 _ rfl
      have p1 := hcs 1 _ rfl
      have p2 := hcs 2 _ rfl
      simp only [Nat.add_zero] at p0
      clear hcs hov
      generalize d.given[j] = x at *
      have HC := hide (recordLine_any x _ _ (wr.alloc (.cells #[.int .i64 x.pos, .string x.key, .slice A4 x.events.length c4] 48)) (hov'.out.below ((Below.refl _ _).alloc (Nat.le_refl _) _) hfiw) (hfiw.up ((Below.refl _ _).alloc (Nat.le_refl _) _)) hbkx (HTR.out.below ((Below.refl _ _).alloc (Nat.le_refl _) _)) hfx)
      clear hfx hov'
      generalize x.line = xl at *
      generalize d.t1 j = s0 at *
      have HBW := hide (show Below wr.heap.size wr (wr.alloc (.cells #[.int .i64 x.pos, .string x.key, .slice A4 x.events.length c4] 48)) from (Below.refl _ _).alloc (Nat.le_refl _) _)
      have HB2 := hide (HBD.out.below HBW.out)

      go_wp2_with fail
      refine HC.out.mono ?_
      rintro e w5 ⟨rfl, hb5⟩
      have HB5 := hide (HB2.out.below hb5)
      have HE5 := hide (HBE.out.trans ((HBW.out.mono (Nat.le_of_lt hbr)).trans (hb5.mono (Nat.le_trans (Nat.le_of_lt hbr) HBW.out.size))))
      clear hb5 HC HB2 HBW
      go_wp2_with fail
      refine (writeString_b b _ _ _ HB5.out (by omega)).mono ?_
      rintro e w6 ⟨rfl, hb6, hk6⟩
      have HB6 := hide hb6
      have HE6 := hide (HE5.out.trans hk6.below)
      clear hb6 hk6
      go_wp2
      go_roundw
      case rel => exact ⟨j + 1, by go_num, by omega, by rw [HS.out]; exact HB6.out, HE6.out⟩
      case measure => simp [intOf]; omega
    obtain rfl : j = d.given.length := by omega
    have z2 := HRR.out.cell 2
    have zl := HRR.out.lt
    have HBD := hide (show Bld wr b (d.t2 0) from HBD.out)
    go_wp2_with fail
    go_loopw [24] (fun i wr => ∃ j : Nat, i = .int .i64 (j : Int) ∧ j ≤ d.dead.length ∧ Bld wr b (d.t2 j) ∧ Below b wB wr) (fun i _ => d.dead.length - (intOf i).toNat)
    case atStart => exact ⟨0, rfl, Nat.zero_le _, HBD.out, HBE.out⟩
    case round =>
      clear z2 zl HBD HBE HRR
      obtain ⟨j, rfl, hj, hbld, hbel⟩ := hrel
      have HBD := hide hbld
      have HBE := hide hbel
      have hbr := hbld.lt
      have hszj := Z2.out j
      have HRR := hide (HR.out.below hbel hb1)
      have HTR := hide (HT.out.low hbel hgb)
      have HOR := hide (O2.out.below hbel (hf2.mono (Nat.le_of_lt hb1)))
      clear hbld hbel
      by_cases hlt : j < d.dead.length
      · have hltI : (j : Int) < (d.dead.length : Int) := by omega
        have hj0 : (0 : Int) ≤ (j : Int) := by omega
        obtain ⟨g, off, vs, fi, rfl, hgm, hfi2, hvl, hcs, hov⟩ := HOR.out.elem DeadLetter.cells_len hlt
        have hfiw : Lt fi wr.heap.size := fun q hq => by have := hf2 q (hfi2 hq); omega
        have hgl : g < wr.heap.size := by have := hf2 g hgm; omega
        have HS := hide (d.t2_succ j hlt)
        have hfx := HDE.out j hlt
        have hls := DeadLetter.line_size _ hfx
        have hov' := hide hov
        obtain ⟨rfl, -⟩ := hov.oDeadLetter
        have p0 := hcs 0 _ rfl
        have p1 := hcs 1 _ rfl
        have p2 := hcs 2 _ rfl
        have p3 := hcs 3 _ rfl
        have p4 := hcs 4 _ rfl
        have p5 := hcs 5 _ rfl
        have p6 := hcs 6 _ rfl
        simp only [Nat.add_zero] at p0
        clear hcs hov
        generalize d.dead[j] = x at *
        have HC := hide (letterLine_any x _ _ (wr.alloc (.cells #[.int .i64 x.pos, .string x.key, .int .i64 x.code, .int .i64 x.why, .string x.type_, .int .i64 x.version, .int .i64 x.behind] 44)) (hov'.out.below ((Below.refl _ _).alloc (Nat.le_refl _) _) hfiw) (HTR.out.below ((Below.refl _ _).alloc (Nat.le_refl _) _)) hfx)
        clear hfx hov'
        generalize x.line = xl at *
        generalize d.t2 j = s0 at *
        have HBW := hide (show Below wr.heap.size wr (wr.alloc (.cells #[.int .i64 x.pos, .string x.key, .int .i64 x.code, .int .i64 x.why, .string x.type_, .int .i64 x.version, .int .i64 x.behind] 44)) from (Below.refl _ _).alloc (Nat.le_refl _) _)
        have HB2 := hide (HBD.out.below HBW.out)

        go_wp2_with fail
        refine HC.out.mono ?_
        rintro e w5 ⟨rfl, hb5⟩
        have HB5 := hide (HB2.out.below hb5)
        have HE5 := hide (HBE.out.trans ((HBW.out.mono (Nat.le_of_lt hbr)).trans (hb5.mono (Nat.le_trans (Nat.le_of_lt hbr) HBW.out.size))))
        clear hb5 HC HB2 HBW
        go_wp2_with fail
        refine (writeString_b b _ _ _ HB5.out (by omega)).mono ?_
        rintro e w6 ⟨rfl, hb6, hk6⟩
        have HB6 := hide hb6
        have HE6 := hide (HE5.out.trans hk6.below)
        clear hb6 hk6
        go_wp2
        go_roundw
        case rel => exact ⟨j + 1, by go_num, by omega, by rw [HS.out]; exact HB6.out, HE6.out⟩
        case measure => simp [intOf]; omega
      obtain rfl : j = d.dead.length := by omega
      have z3 := HRR.out.cell 3
      have zl := HRR.out.lt
      have HBD := hide (show Bld wr b (d.t3 0) from HBD.out)
      go_wp2_with fail
      go_loopw [35] (fun i wr => ∃ j : Nat, i = .int .i64 (j : Int) ∧ j ≤ d.held.length ∧ Bld wr b (d.t3 j) ∧ Below b wB wr) (fun i _ => d.held.length - (intOf i).toNat)
      case atStart => exact ⟨0, rfl, Nat.zero_le _, HBD.out, HBE.out⟩
      case round =>
        clear z3 zl HBD HBE HRR
        obtain ⟨j, rfl, hj, hbld, hbel⟩ := hrel
        have HBD := hide hbld
        have HBE := hide hbel
        have hbr := hbld.lt
        have hszj := Z3.out j
        have HRR := hide (HR.out.below hbel hb1)
        have HTR := hide (HT.out.low hbel hgb)
        have HOR := hide (O3.out.below hbel (hf3.mono (Nat.le_of_lt hb1)))
        clear hbld hbel
        by_cases hlt : j < d.held.length
        · have hltI : (j : Int) < (d.held.length : Int) := by omega
          have hj0 : (0 : Int) ≤ (j : Int) := by omega
          obtain ⟨g, off, vs, fi, rfl, hgm, hfi2, hvl, hcs, hov⟩ := HOR.out.elem DeadHold.cells_len hlt
          have hfiw : Lt fi wr.heap.size := fun q hq => by have := hf3 q (hfi2 hq); omega
          have hgl : g < wr.heap.size := by have := hf3 g hgm; omega
          have HS := hide (d.t3_succ j hlt)
          have hfx := HHE.out j hlt
          have hls := DeadHold.line_size _ hfx.1 hfx.2.1
          have hks : d.held[j].key.size ≤ 8 := hfx.1.2.1
          have hrg := hfx.2.1
          obtain ⟨rfl, -⟩ := hov.oDeadHold
          have p0 := hcs 0 _ rfl
          have p1 := hcs 1 _ rfl
          simp only [Nat.add_zero] at p0
          clear hcs hov hfx
          generalize d.held[j] = x at *
          generalize d.t3 j = s0 at *
          obtain ⟨jx, hjx⟩ : ∃ q, q = ⟨#[104, 101, 108, 100, 32]⟩ ++ x.key ++ ⟨#[32, 98, 101, 104, 105, 110, 100]⟩ ++ (⟨#[32]⟩ ++ dec x.behind) := ⟨_, rfl⟩
          have hxl : x.line = jx ++ ⟨#[10]⟩ := by rw [hjx]; rfl
          obtain ⟨W2, hW2⟩ : ∃ W, W = (wr.alloc (.cells #[.string x.key, .int .i64 x.behind] 58)).alloc (.cells #[.int .i64 x.behind] 3) := ⟨_, rfl⟩
          have hbw : Below wr.heap.size wr W2 := by rw [hW2]; exact ((Below.refl _ _).alloc (Nat.le_refl _) _).alloc (by simp) _
          have hrw : Row W2 (wr.heap.size + 1) 3 [.int .i64 x.behind] := by
            have h := Row.new (wr.alloc (.cells #[.string x.key, .int .i64 x.behind] 58)) 3 [.int .i64 x.behind]
            have h2 : Row ((wr.alloc (.cells #[.string x.key, .int .i64 x.behind] 58)).alloc (.cells #[.int .i64 x.behind] 3)) (wr.heap.size + 1) 3 [.int .i64 x.behind] := by simpa using h
            rw [hW2]
            exact h2
          have HC := hide (show Calls Tryz.prog 52 #[.string (⟨#[104, 101, 108, 100, 32]⟩ ++ x.key ++ ⟨#[32, 98, 101, 104, 105, 110, 100]⟩), .slice (some ⟨wr.heap.size + 1, 0, none⟩) 1 1] W2 (fun e w' => e = .returned (.string jx) ∧ Below W2.heap.size W2 w') from by
            rw [hjx]
            exact joined1 _ x.behind _ W2 hrw (HTR.out.below hbw) (by simp only [ByteArray.size_append]; omega) (by omega) (by omega))
          rw [hW2] at HC
          have HBW := hide hbw
          have HB2 := hide (HBD.out.below hbw)
          rw [hW2] at HBW HB2
          rw [hxl] at HS hls
          rw [ByteArray.size_append] at hls
          clear hW2 hbw hrw hjx hxl
          have q1 : ¬ (9223372036854775807 < 5 + x.key.size) := by omega
          have q2 : ¬ (9223372036854775807 < 5 + x.key.size + 7) := by omega
          have q3 : ¬ (9223372036854775807 < jx.size + 1) := by omega
          go_wp2_with fail
          refine HC.out.mono ?_
          rintro e w5 ⟨rfl, hb5⟩
          have HB5 := hide (HB2.out.below hb5)
          have HE5 := hide (HBE.out.trans ((HBW.out.mono (Nat.le_of_lt hbr)).trans (hb5.mono (Nat.le_trans (Nat.le_of_lt hbr) HBW.out.size))))
          clear hb5 HC HB2 HBW
          go_wp2_with fail
          refine (writeString_b b _ _ _ HB5.out (by rw [ByteArray.size_append]; omega)).mono ?_
          rintro e w6 ⟨rfl, hb6, hk6⟩
          have HB6 := hide hb6
          have HE6 := hide (HE5.out.trans hk6.below)
          clear hb6 hk6
          go_wp2
          go_roundw
          case rel => exact ⟨j + 1, by go_num, by omega, by rw [HS.out]; exact HB6.out, HE6.out⟩
          case measure => simp [intOf]; omega
        obtain rfl : j = d.held.length := by omega
        go_wp2_with fail
        refine (bldString_b b _ _ HBD.out).mono ?_
        rintro e w7 ⟨rfl, hk7⟩
        have HE7 := hide (HBE.out.trans hk7.below)
        clear hk7
        go_wp2
        go_ret
        exact ⟨ret_str rfl, HW.out.trans (HE7.out.mono (Nat.le_of_lt hb1))⟩
set_option maxRecDepth 100000 in
set_option maxHeartbeats 1000000 in
theorem implDeadBoard_any (d : DeadDone) (us : List Value) (fp : List Nat) (w : World) (ho : OwC w d.cells us fp) (hf : Lt fp w.heap.size) (hbk : d.bulk ≤ 1048576) (ht : Tab w) :
    Calls Tryz.prog 7 #[.agg us.toArray] w fun e w' => e = .returned (.string d.board) ∧ Below w.heap.size w w' := by
  have HHO := hide ho
  obtain ⟨A1, c1, A2, c2, A3, c3, f1, f2, f3, rfl, o1, o2, o3, rfl⟩ := ho.oDeadDone
  obtain ⟨-, n1, m1⟩ := o1.nlen
  obtain ⟨-, n2, m2⟩ := o2.nlen
  obtain ⟨-, n3, m3⟩ := o3.nlen
  unfold maxLen at m1 m2 m3
  have hf1 := hf.left
  have hf2 := hf.right.left
  have hf3 := hf.right.right
  have hbe := d.bulk_eq
  have hbk1 : Record.bulkL d.given ≤ 1048576 := by omega
  have hw1 : Below w.heap.size w (w.alloc (.cells #[.bool d.ok, .slice A1 d.given.length c1, .slice A2 d.dead.length c2, .slice A3 d.held.length c3] 33)) := (Below.refl _ _).alloc (Nat.le_refl _) _
  have R1 : Row (w.alloc (.cells #[.bool d.ok, .slice A1 d.given.length c1, .slice A2 d.dead.length c2, .slice A3 d.held.length c3] 33)) w.heap.size 33 [.bool d.ok, .slice A1 d.given.length c1, .slice A2 d.dead.length c2, .slice A3 d.held.length c3] := Row.new w _ _
  have HR := hide R1
  have HB := hide hw1
  have O1 := hide o1
  have O2 := hide o2
  have O3 := hide o3
  have HTB := hide ht
  have HNOT := hide (fun h => d.board_no h)
  have HALL := hide (fun h => d.board_yes h)
  have HFI := hide (show d.fine ↔ d.ok = true ∧ d.given.length ≤ 200 ∧ d.dead.length ≤ 200 ∧ holdsOk d.held ∧ (∀ i (h : i < d.given.length), d.given[i].fine) ∧ (∀ i (h : i < d.dead.length), d.dead[i].fine) from Iff.rfl)
  clear ho hw1 R1 o1 o2 o3 hbe ht
  go_enter Tryz.func7, Tryz.ntmps7
  go_upto_region 1 with fail
  generalize w.alloc _ = wa at HR HB ⊢
  by_cases hok : d.ok = true
  rotate_left
  · have HT := hide (HNOT.out (fun h => hok (HFI.out.1 h).1))
    have x0 := HR.out.cell 0
    have hof : d.ok = false := by simpa using hok
    rw [show ([.bool d.ok, .slice A1 d.given.length c1, .slice A2 d.dead.length c2, .slice A3 d.held.length c3] : List Value)[0]? = some (.bool false) from by rw [hof]; rfl] at x0
    have xl := HR.out.lt
    clear hok hof
    go_wp2
    go_ret
    exact ⟨ret_str HT.out.symm, HB.out⟩
  have HOK := hide hok
  have x0 := HR.out.cell 0
  rw [show ([.bool d.ok, .slice A1 d.given.length c1, .slice A2 d.dead.length c2, .slice A3 d.held.length c3] : List Value)[0]? = some (.bool true) from by rw [hok]; rfl] at x0
  have x1 := HR.out.cell 1
  have x2 := HR.out.cell 2
  have x3 := HR.out.cell 3
  have xl := HR.out.lt
  clear hok
  by_cases hg2 : d.given.length ≤ 200
  rotate_left
  · have HT := hide (HNOT.out (fun h => hg2 (HFI.out.1 h).2.1))
    have h3 : (200 : Int) < (d.given.length : Int) := by omega
    clear hg2
    go_wp2
    go_ret
    exact ⟨ret_str HT.out.symm, HB.out⟩
  have h2 : ¬ ((200 : Int) < (d.given.length : Int)) := by omega
  by_cases hd2 : d.dead.length ≤ 200
  rotate_left
  · have HT := hide (HNOT.out (fun h => hd2 (HFI.out.1 h).2.2.1))
    have h3 : (200 : Int) < (d.dead.length : Int) := by omega
    clear hd2
    go_wp2
    go_ret
    exact ⟨ret_str HT.out.symm, HB.out⟩
  have h3 : ¬ ((200 : Int) < (d.dead.length : Int)) := by omega
  have HH := hide (implHeldOk_any d.held A3 _ c3 f3 wa (O3.out.below HB.out hf3) (hf3.up HB.out))
  go_wp2_with fail
  refine HH.out.mono ?_
  rintro e wb ⟨rfl, hb⟩
  have HBb := hide (HB.out.trans (hb.mono HB.out.size))
  have HRb := hide (HR.out.below hb HR.out.lt)
  clear hb HH HR HB x0 x1 x2 x3 xl h2 h3
  by_cases hh : holdsOk d.held
  rotate_left
  · have HT := hide (HNOT.out (fun h => hh (HFI.out.1 h).2.2.2.1))
    rw [tb_false hh]
    clear hh
    go_wp2
    go_ret
    exact ⟨ret_str HT.out.symm, HBb.out⟩
  have HHO2 := hide hh
  rw [tb_true hh]
  clear hh
  have x1 := HRb.out.cell 1
  have xl := HRb.out.lt
  have HG := hide (givenAny_any d.given A1 _ c1 f1 wb (O1.out.below HBb.out hf1) (hf1.up HBb.out) hbk1)
  go_wp2_with fail
  refine HG.out.mono ?_
  rintro e wc ⟨rfl, hb⟩
  have HBc := hide (HBb.out.trans (hb.mono HBb.out.size))
  have HRc := hide (HRb.out.below hb HRb.out.lt)
  clear hb HG HRb HBb x1 xl
  by_cases hg : ∀ i (h : i < d.given.length), d.given[i].fine
  rotate_left
  · have HT := hide (HNOT.out (fun h => hg (HFI.out.1 h).2.2.2.2.1))
    rw [tb_true hg]
    clear hg
    go_wp2
    go_ret
    exact ⟨ret_str HT.out.symm, HBc.out⟩
  have HGI := hide hg
  rw [tb_false (p := ¬ ∀ i (h : i < d.given.length), d.given[i].fine) (fun h => h hg)]
  clear hg
  have x2 := HRc.out.cell 2
  have xl := HRc.out.lt
  have HL := hide (letterAny_any d.dead A2 _ c2 f2 wc (O2.out.below HBc.out hf2) (hf2.up HBc.out))
  go_wp2_with fail
  refine HL.out.mono ?_
  rintro e wd ⟨rfl, hb⟩
  have HBd := hide (HBc.out.trans (hb.mono HBc.out.size))
  have HRd := hide (HRc.out.below hb HRc.out.lt)
  clear hb HL HRc HBc x2 xl
  by_cases hd : ∀ i (h : i < d.dead.length), d.dead[i].fine
  rotate_left
  · have HT := hide (HNOT.out (fun h => hd (HFI.out.1 h).2.2.2.2.2))
    rw [tb_true hd]
    clear hd
    go_wp2
    go_ret
    exact ⟨ret_str HT.out.symm, HBd.out⟩
  have hfine : d.fine := HFI.out.2 ⟨HOK.out, hg2, hd2, HHO2.out, HGI.out, hd⟩
  rw [tb_false (p := ¬ ∀ i (h : i < d.dead.length), d.dead[i].fine) (fun h => h hd)]
  have HZ := hide (HALL.out hfine)
  have HP := hide (board_any d _ _ wd (HHO.out.below HBd.out hf) (hf.up HBd.out) hbk (HTB.out.below HBd.out) hfine)
  have y0 := HRd.out.cell 0
  have y1 := HRd.out.cell 1
  have y2 := HRd.out.cell 2
  have y3 := HRd.out.cell 3
  have yl := HRd.out.lt
  clear hd hfine HNOT HALL HFI
  go_wp2_with fail
  refine HP.out.mono ?_
  rintro e we ⟨rfl, hb⟩
  go_wp2
  go_ret
  exact ⟨ret_str HZ.out.symm, HBd.out.trans (hb.mono HBd.out.size)⟩
end Go.Proofs.YtkfiebeedbjicaaGreatDoor
set_option linter.unusedVariables false
set_option linter.unusedSimpArgs false
namespace Go.Proofs.YtkfiebeedbjicaaGreatDoor
open Go.ChangeShapes Go.WideShapes Go.ChangeAt Go.RowKit

set_option maxRecDepth 100000 in
set_option maxHeartbeats 1000000 in
theorem lawFnExactDeadBoard_any (w : World) (x0 : DeadDone) (us0 : List Value) (fp0 : List Nat) (ho0 : OwC w x0.cells us0 fp0) (hl0 : Lt fp0 w.heap.size) (ht : Tab w) :
    Calls Tryz.prog 3 #[.agg us0.toArray] w fun e w' => e = .returned (.bool true) ∧ Below w.heap.size w w' := by
  have HTB := hide ht
  have HO0 := hide ho0
  obtain ⟨a0A1, a0c1, a0A2, a0c2, a0A3, a0c3, a0f1, a0f2, a0f3, rfl, a0o1, a0o2, a0o3, efp0⟩ := ho0.oDeadDone
  clear ho0 a0o1 a0o2 a0o3
  have Q0 : Row (w.alloc (.cells #[.bool x0.ok, .slice a0A1 x0.given.length a0c1, .slice a0A2 x0.dead.length a0c2, .slice a0A3 x0.held.length a0c3] 26)) w.heap.size 26 [.bool x0.ok, .slice a0A1 x0.given.length a0c1, .slice a0A2 x0.dead.length a0c2, .slice a0A3 x0.held.length a0c3] := Row.new w _ _
  have hB : Below w.heap.size w (w.alloc (.cells #[.bool x0.ok, .slice a0A1 x0.given.length a0c1, .slice a0A2 x0.dead.length a0c2, .slice a0A3 x0.held.length a0c3] 26)) := ((Below.refl w.heap.size w).alloc (by first | exact Nat.le_refl _ | simp) _)
  have B0 := hide hB
  clear hB
  go_enter Tryz.func3, Tryz.ntmps3
  go_wp2_with fail
  refine (szDeadDone_any x0 _ _ _ _ (HO0.out.below B0.out hl0) (hl0.up B0.out) (by omega) (by omega)).mono ?_
  rintro e u1 ⟨rfl, hb1⟩
  have B1 := hide (B0.out.trans (hb1.mono B0.out.size))
  have Q0 := Q0.below hb1 Q0.lt
  have lt1_0 := Q0.lt
  have cs1_0_0 := Q0.cell 0
  have cs1_0_1 := Q0.cell 1
  have cs1_0_2 := Q0.cell 2
  have cs1_0_3 := Q0.cell 3
  clear hb1
  by_cases hbk0 : ((x0.bulk : Nat) : Int) ≤ (1048576 : Int)
  · rw [szr_yes hbk0]
    go_wp2_with fail
    refine (toDeadDone_any x0 _ _ _ (HO0.out.below B1.out hl0) (hl0.up B1.out) (by omega)).mono ?_
    rintro e u2 ⟨vsr0, qr0, rfl, Xr0, Nr0, hb2⟩
    have Xr0 := hide Xr0
    have Nr0 := hide Nr0
    have B2 := hide (B1.out.trans (hb2.mono B1.out.size))
    clear cs1_0_0 cs1_0_1 cs1_0_2 cs1_0_3
    have Q0 := Q0.below hb2 Q0.lt
    have lt2_0 := Q0.lt
    have cs2_0_0 := Q0.cell 0
    have cs2_0_1 := Q0.cell 1
    have cs2_0_2 := Q0.cell 2
    have cs2_0_3 := Q0.cell 3
    clear hb2
    go_wp2_with fail
    refine (specDeadBoard_any x0 _ _ _ Xr0.out Nr0.out.lt (by omega)).mono ?_
    rintro e u3 ⟨rfl, hb3⟩
    have B3 := hide (B2.out.trans (hb3.mono B2.out.size))
    clear cs2_0_0 cs2_0_1 cs2_0_2 cs2_0_3
    have Q0 := Q0.below hb3 Q0.lt
    have lt3_0 := Q0.lt
    have cs3_0_0 := Q0.cell 0
    have cs3_0_1 := Q0.cell 1
    have cs3_0_2 := Q0.cell 2
    have cs3_0_3 := Q0.cell 3
    clear hb3
    go_wp2_with fail
    refine (toDeadDone_any x0 _ _ _ (HO0.out.below B3.out hl0) (hl0.up B3.out) (by omega)).mono ?_
    rintro e u4 ⟨vsp0, qp0, rfl, Xp0, Np0, hb4⟩
    have B4 := hide (B3.out.trans (hb4.mono B3.out.size))
    clear cs3_0_0 cs3_0_1 cs3_0_2 cs3_0_3
    have Q0 := Q0.below hb4 Q0.lt
    have XX0 := hide Xp0
    obtain ⟨b0A1, b0c1, b0A2, b0c2, b0A3, b0c3, b0f1, b0f2, b0f3, rfl, b0o1, b0o2, b0o3, eqp0⟩ := Xp0.oDeadDone
    clear Xp0 b0o1 b0o2 b0o3
    have P0 : Row (u4.alloc (.cells #[.bool x0.ok, .slice b0A1 x0.given.length b0c1, .slice b0A2 x0.dead.length b0c2, .slice b0A3 x0.held.length b0c3] 33)) u4.heap.size 33 [.bool x0.ok, .slice b0A1 x0.given.length b0c1, .slice b0A2 x0.dead.length b0c2, .slice b0A3 x0.held.length b0c3] := Row.new u4 _ _
    have hA4 : Below u4.heap.size u4 (u4.alloc (.cells #[.bool x0.ok, .slice b0A1 x0.given.length b0c1, .slice b0A2 x0.dead.length b0c2, .slice b0A3 x0.held.length b0c3] 33)) := (Below.refl _ _).alloc (Nat.le_refl _) _
    have B4a := hide (B4.out.trans (hA4.mono B4.out.size))
    have Q0 := Q0.below hA4 Q0.lt
    have Xp0 := hide (XX0.out.below hA4 Np0.lt)
    have Np0 := hide (Np0.below hA4 Np0.lt)
    clear XX0 hA4 hb4
    have lt4_0 := Q0.lt
    have cs4_0_0 := Q0.cell 0
    have cs4_0_1 := Q0.cell 1
    have cs4_0_2 := Q0.cell 2
    have cs4_0_3 := Q0.cell 3
    have d_0_0 := P0.cell 0
    have d_0_1 := P0.cell 1
    have d_0_2 := P0.cell 2
    have d_0_3 := P0.cell 3
    go_wp2_with fail
    refine (implDeadBoard_any x0 _ _ _ Xp0.out Np0.out.lt (by omega) (HTB.out.below B4a.out)).mono ?_
    rintro e u5 ⟨rfl, hb5⟩
    have B5 := hide (B4a.out.trans (hb5.mono B4a.out.size))
    clear cs4_0_0 cs4_0_1 cs4_0_2 cs4_0_3
    clear d_0_0 d_0_1 d_0_2 d_0_3
    have Q0 := Q0.below hb5 Q0.lt
    have P0 := P0.below hb5 P0.lt
    have Xp0 := hide (Xp0.out.below hb5 Np0.out.lt)
    have Np0 := hide (Np0.out.below hb5 Np0.out.lt)
    clear hb5
    have lt5_0 := Q0.lt
    have ltp5_0 := P0.lt
    have sQ := Q0
    have c100_0_0 := Q0.cell 0
    have c100_0_1 := Q0.cell 1
    have c100_0_2 := Q0.cell 2
    have c100_0_3 := Q0.cell 3
    have d100_0_0 := P0.cell 0
    have d100_0_1 := P0.cell 1
    have d100_0_2 := P0.cell 2
    have d100_0_3 := P0.cell 3
    go_wp2
    go_region_held3 (fun w' => w'.cell? ⟨w.heap.size, 0, none⟩ = some (.bool x0.ok) ∧ w'.cell? ⟨w.heap.size, 1, none⟩ = some (.slice a0A1 x0.given.length a0c1) ∧ w'.cell? ⟨w.heap.size, 2, none⟩ = some (.slice a0A2 x0.dead.length a0c2) ∧ w'.cell? ⟨w.heap.size, 3, none⟩ = some (.slice a0A3 x0.held.length a0c3) ∧ w'.cell? ⟨u4.heap.size, 0, none⟩ = some (.bool x0.ok) ∧ w'.cell? ⟨u4.heap.size, 1, none⟩ = some (.slice b0A1 x0.given.length b0c1) ∧ w'.cell? ⟨u4.heap.size, 2, none⟩ = some (.slice b0A2 x0.dead.length b0c2) ∧ w'.cell? ⟨u4.heap.size, 3, none⟩ = some (.slice b0A3 x0.held.length b0c3))
      (first | go_keep | exact ⟨m2Q0.cell 0, m2Q0.cell 1, m2Q0.cell 2, m2Q0.cell 3, m2P0.cell 0, m2P0.cell 1, m2P0.cell 2, m2P0.cell 3⟩ | exact ⟨m1Q0.cell 0, m1Q0.cell 1, m1Q0.cell 2, m1Q0.cell 3, m1P0.cell 0, m1P0.cell 1, m1P0.cell 2, m1P0.cell 3⟩)
      (first
        | (go_at_call 6; refine (toDeadDone_any x0 _ _ _ (HO0.out.below B5.out.drew hl0) (hl0.up B5.out.drew) (by omega)).mono ?_; rintro e v1 ⟨vse0, qe0, rfl, Xe0, Ne0, hb200⟩; have m1Q0 := (Q0.drewN 1).below hb200 (by exact Q0.lt); have m1P0 := (P0.drewN 1).below hb200 (by exact P0.lt))
        | (go_at_call 8; refine (eqDeadDone_any x0 _ _ _ _ _ ((Xp0.out.drewN 1).below hb200 (by exact Np0.out.lt)) Xe0 (by exact (Np0.out.lt.mono hb200.size)) Ne0.lt).mono ?_; rintro e v2 ⟨rfl, hb201⟩; have m2Q0 := m1Q0.below hb201 m1Q0.lt; have m2P0 := m1P0.below hb201 m1P0.lt))
    have hz0a : Below u5.heap.size u5 v1 := ⟨hb200.os, hb200.tape, hb200.output, hb200.size, hb200.block⟩
    have B300 := hide ((B5.out.trans (hz0a.mono B5.out.size)).trans (hb201.mono (Nat.le_trans B5.out.size hz0a.size)))
    have Q0 := (Q0.below hz0a Q0.lt).below hb201 (Nat.lt_of_lt_of_le Q0.lt hz0a.size)
    have P0 := (P0.below hz0a P0.lt).below hb201 (Nat.lt_of_lt_of_le P0.lt hz0a.size)
    have Xp0 := hide ((Xp0.out.below hz0a Np0.out.lt).below hb201 (Np0.out.lt.mono hz0a.size))
    have Np0 := hide ((Np0.out.below hz0a Np0.out.lt).below hb201 (Np0.out.lt.mono hz0a.size))
    clear m1Q0 m1P0 m2Q0 m2P0 c100_0_0 c100_0_1 c100_0_2 c100_0_3 d100_0_0 d100_0_1 d100_0_2 d100_0_3
    go_wp2
    go_ret
    exact ⟨rfl, B300.out⟩
  · rw [szr_no hbk0]
    go_wp2
    go_ret
    exact ⟨rfl, B1.out⟩
end Go.Proofs.YtkfiebeedbjicaaGreatDoor
