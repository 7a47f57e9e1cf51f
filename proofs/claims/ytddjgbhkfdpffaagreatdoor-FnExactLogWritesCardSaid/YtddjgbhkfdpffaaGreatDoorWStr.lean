/-
  The laws' own helpers on slices of texts, of numbers and of bytes: their size, a copy, equality.
-/
import Derived.Test.YtddjgbhkfdpffaaGreatDoorProg
import Derived.Test.YtddjgbhkfdpffaaGreatDoorWU8
set_option linter.unusedVariables false
set_option linter.unusedSimpArgs false
namespace Go.Proofs.YtddjgbhkfdpffaaGreatDoor
open Go.ChangeShapes Go.WideShapes Go.ChangeAt Go.RowKit

def strC (s : ByteArray) : List D := [.v (.string s)]
def intC (n : Int) : List D := [.v (.int .i64 n)]
def byteC (b : UInt8) : List D := [.v (.int .u8 b.toNat)]
theorem strC_len (s : ByteArray) : (strC s).length = 1 := rfl
theorem intC_len (n : Int) : (intC n).length = 1 := rfl
def szr (left b : Int) : Int := if b ≤ left then left - b else -1
theorem szr_yes {left b : Int} (h : b ≤ left) : szr left b = left - b := if_pos h
theorem szr_no {left b : Int} (h : ¬ b ≤ left) : szr left b = -1 := if_neg h
def bulkStr : List ByteArray → Nat
  | [] => 0
  | s :: l => s.size + bulkStr l
def bulkStrs (l : List ByteArray) : Nat := l.length + bulkStr l
theorem bulkStr_append (a b : List ByteArray) : bulkStr (a ++ b) = bulkStr a + bulkStr b := by
  induction a with
  | nil => simp [bulkStr]
  | cons x a ih => simp [bulkStr, ih]; omega
theorem bulkStr_snoc (l : List ByteArray) (k : Nat) (h : k < l.length) : bulkStr (l.take (k + 1)) = bulkStr (l.take k) + l[k].size := by
  rw [List.take_succ_eq_append_getElem h, bulkStr_append]
  simp [bulkStr]
theorem bulkStr_le (l : List ByteArray) (k : Nat) : bulkStr (l.take k) ≤ bulkStr l := by
  conv => rhs; rw [← List.take_append_drop k l, bulkStr_append]
  omega


theorem OwC.str {w : World} {s : ByteArray} {us : List Value} {fp : List Nat} (h : OwC w (strC s) us fp) : us = [.string s] ∧ (s.size ≤ maxLen) ∧ fp = [] := by
  match us, OwC.length _ h with
  | [u], _ =>
    obtain ⟨f1, f2, h1, h2, rfl⟩ := h
    simp only [Ow, okAtom] at h1
    obtain ⟨rfl, h3, rfl⟩ := h1
    simp only [OwC] at h2
    subst h2
    exact ⟨rfl, h3, rfl⟩
/-- the element at a place -/
theorem strs_at {w : World} {l : List ByteArray} {A : Option Addr} {n c : Nat} {fp : List Nat} (h : Ow w (.s 1 l.length (l.flatMap strC)) (.slice A n c) fp) {i : Nat} (hi : i < l.length) :
    ∃ g off, A = some ⟨g, off, none⟩ ∧ g ∈ fp ∧ w.cell? ⟨g, off + i, none⟩ = some (.string l[i]) ∧ (l[i].size ≤ maxLen) := by
  obtain ⟨g, off, us, fi, rfl, hg, _, hl, hc, ho⟩ := h.elem strC_len hi
  obtain ⟨rfl, hs, _⟩ := ho.str
  have := hc 0 _ rfl
  exact ⟨g, off, rfl, hg, by simpa using this, hs⟩
theorem strs_snoc (l : List ByteArray) (k : Nat) (h : k < l.length) : (l.take (k + 1)).flatMap strC = (l.take k).flatMap strC ++ strC l[k] := by
  rw [List.take_succ_eq_append_getElem h, List.flatMap_append]
  simp

theorem OwC.int {w : World} {s : Int} {us : List Value} {fp : List Nat} (h : OwC w (intC s) us fp) : us = [.int .i64 s] ∧ ((Lit.int .i64 s).wf = true) ∧ fp = [] := by
  match us, OwC.length _ h with
  | [u], _ =>
    obtain ⟨f1, f2, h1, h2, rfl⟩ := h
    simp only [Ow, okAtom] at h1
    obtain ⟨rfl, h3, rfl⟩ := h1
    simp only [OwC] at h2
    subst h2
    exact ⟨rfl, h3, rfl⟩
/-- the element at a place -/
theorem ints_at {w : World} {l : List Int} {A : Option Addr} {n c : Nat} {fp : List Nat} (h : Ow w (.s 1 l.length (l.flatMap intC)) (.slice A n c) fp) {i : Nat} (hi : i < l.length) :
    ∃ g off, A = some ⟨g, off, none⟩ ∧ g ∈ fp ∧ w.cell? ⟨g, off + i, none⟩ = some (.int .i64 l[i]) ∧ ((Lit.int .i64 l[i]).wf = true) := by
  obtain ⟨g, off, us, fi, rfl, hg, _, hl, hc, ho⟩ := h.elem intC_len hi
  obtain ⟨rfl, hs, _⟩ := ho.int
  have := hc 0 _ rfl
  exact ⟨g, off, rfl, hg, by simpa using this, hs⟩
theorem ints_snoc (l : List Int) (k : Nat) (h : k < l.length) : (l.take (k + 1)).flatMap intC = (l.take k).flatMap intC ++ intC l[k] := by
  rw [List.take_succ_eq_append_getElem h, List.flatMap_append]
  simp

theorem OwC.byte {w : World} {s : UInt8} {us : List Value} {fp : List Nat} (h : OwC w (byteC s) us fp) : us = [.int .u8 s.toNat] ∧ (True) ∧ fp = [] := by
  match us, OwC.length _ h with
  | [u], _ =>
    obtain ⟨f1, f2, h1, h2, rfl⟩ := h
    simp only [Ow, okAtom] at h1
    obtain ⟨rfl, h3, rfl⟩ := h1
    simp only [OwC] at h2
    subst h2
    exact ⟨rfl, trivial, rfl⟩
set_option maxRecDepth 100000 in
theorem szStringS_any (l : List ByteArray) (A : Option Addr) (n c : Nat) (fp : List Nat) (left : Int) (w : World) (h : Ow w (.s 1 l.length (l.flatMap strC)) (.slice A n c) fp) (h0 : 0 ≤ left) (h1 : left ≤ 1048576) :
    Calls Tryz.prog 28 #[.slice A n c, .int .i64 left] w fun e w' => e = .returned (.int .i64 (szr left (bulkStrs l : Nat))) ∧ Below w.heap.size w w' := by
  obtain ⟨rfl, hc, hm⟩ := h.nlen
  unfold maxLen at hm
  have HX := hide (show ((bulkStrs l : Nat) : Int) = l.length + bulkStr l by unfold bulkStrs; omega)
  go_enter Tryz.func28, Tryz.ntmps28
  go_wp2
  · go_ret
    exact ⟨ret_int (by rw [szr_no (by have := HX.out; omega)]), Below.refl _ _⟩
  · go_loop [1, 5] (fun a i => ∃ k : Nat, k ≤ l.length ∧ (l.length : Int) + bulkStr (l.take k) ≤ left ∧ a = .int .i64 (left - (l.length + bulkStr (l.take k))) ∧ i = .int .i64 k) (fun _ i => l.length - (intOf i).toNat)
    case atStart => exact ⟨0, Nat.zero_le _, by simp [bulkStr]; omega, by simp [bulkStr], rfl⟩
    case round =>
      obtain ⟨k, hk, hb, rfl, rfl⟩ := hrel
      by_cases hlt : k < l.length
      · obtain ⟨g, off, rfl, _, hcell, hs⟩ := strs_at h hlt
        have e := bulkStr_snoc l k hlt
        have hle := bulkStr_le l (k + 1)
        have E := hide e
        clear e
        generalize l[k] = s at *
        generalize bulkStr (l.take k) = b at *
        unfold maxLen at hs
        go_wp2
        · go_ret
          exact ⟨ret_int (by rw [szr_no (by have := E.out; have := HX.out; omega)]), Below.refl _ _⟩
        · go_round
          case rel => exact ⟨k + 1, by omega, by rw [E.out]; omega, by rw [E.out]; go_num, by go_num⟩
          case measure => simp [intOf]; omega
      · obtain rfl : k = l.length := by omega
        go_wp2
        go_ret
        try rw [List.take_length] at hb
        exact ⟨ret_int (by (try rw [List.take_length]); rw [szr_yes (by have := HX.out; omega), HX.out]), Below.refl _ _⟩
theorem szIntS_any (l : List Int) (A : Option Addr) (n c : Nat) (fp : List Nat) (left : Int) (w : World) (h : Ow w (.s 1 l.length (l.flatMap intC)) (.slice A n c) fp) (h0 : 0 ≤ left) (h1 : left ≤ 1048576) :
    Calls Tryz.prog 53 #[.slice A n c, .int .i64 left] w fun e w' => e = .returned (.int .i64 (szr left (l.length : Nat))) ∧ Below w.heap.size w w' := by
  obtain ⟨rfl, hc, hm⟩ := h.nlen
  unfold maxLen at hm
  go_enter Tryz.func53, Tryz.ntmps53
  go_wp2
  · go_ret
    exact ⟨ret_int (by rw [szr_no (by omega)]), Below.refl _ _⟩
  · go_ret
    exact ⟨ret_int (by rw [szr_yes (by omega)]), Below.refl _ _⟩

set_option maxRecDepth 100000 in
theorem eqStringS_same (l : List ByteArray) (A A' : Option Addr) (n n' c c' : Nat) (fp fp' : List Nat) (w : World) (h : Ow w (.s 1 l.length (l.flatMap strC)) (.slice A n c) fp) (h' : Ow w (.s 1 l.length (l.flatMap strC)) (.slice A' n' c') fp') :
    Calls Tryz.prog 44 #[.slice A n c, .slice A' n' c'] w fun e w' => e = .returned (.bool true) ∧ Below w.heap.size w w' := by
  obtain ⟨rfl, hc, hm⟩ := h.nlen
  obtain ⟨rfl, hc', hm'⟩ := h'.nlen
  unfold maxLen at hm hm'
  go_enter Tryz.func44, Tryz.ntmps44
  go_wp2
  go_loopw [5] (fun i wr => (∃ k : Nat, k ≤ l.length ∧ i = .int .i64 k) ∧ ∃ q, wr = w.drewN q) (fun i _ => l.length - (intOf i).toNat)
  case atStart => exact ⟨⟨0, Nat.zero_le _, rfl⟩, 0, rfl⟩
  case round =>
    obtain ⟨⟨k, hk, rfl⟩, q, rfl⟩ := hrel
    by_cases hlt : k < l.length
    · obtain ⟨g, off, rfl, _, hcell, hs⟩ := strs_at h hlt
      obtain ⟨g', off', rfl, _, hcell', _⟩ := strs_at h' hlt
      generalize l[k] = s at *
      go_wp2
      go_quiet (fail)
      go_wp2
      go_roundw
      case rel => exact ⟨⟨k + 1, by omega, by go_num⟩, _, rfl⟩
      case measure => simp [intOf]; omega
    · obtain rfl : k = l.length := by omega
      go_wp2
      go_ret
      exact ⟨rfl, below_drewN (Below.refl _ _) q⟩
theorem info_string : (Tryz.prog.info? 9).map (fun i => (i.zero, i.size, i.bytes)) = some (some (.string .empty), 1, 16) := by kernel_rfl
set_option maxRecDepth 100000 in
theorem toStringS_any (l : List ByteArray) (A : Option Addr) (n c : Nat) (fp : List Nat) (w : World) (h : Ow w (.s 1 l.length (l.flatMap strC)) (.slice A n c) fp) (hf : Lt fp w.heap.size) (hn : l.length ≤ 1048576) :
    Calls Tryz.prog 37 #[.slice A n c] w fun e w' => ∃ y fq, e = .returned y ∧ Ow w' (.s 1 l.length (l.flatMap strC)) y fq ∧ New w' fq w.heap.size ∧ Below w.heap.size w w' := by
  obtain ⟨rfl, hc, hm⟩ := h.nlen
  unfold maxLen at hm
  obtain ⟨i0, hi, hz0, hz1, hz2⟩ := info_parts info_string
  have hmk := run_make_rowN (P := Tryz.prog) 23 9 i0 _ Tryz.underlying23 hi hz0 .i64 .i64 l.length l.length (Nat.le_refl _) (by rw [hz2]; omega) (by omega)
  rw [hz1] at hmk
  clear hi hz0 hz1 hz2 i0
  go_enter Tryz.func37, Tryz.ntmps37
  go_wp2
  go_loopw [4] (fun i wr => (∃ k us, k ≤ l.length ∧ i = .int .i64 (k : Nat) ∧ OwC wr ((l.take k).flatMap strC) us [] ∧ us.length = k ∧ Fill wr w.heap.size 9 us (l.length - k)) ∧ Below w.heap.size w wr) (fun i _ => l.length - (intOf i).toNat)
  case atStart => exact ⟨⟨0, [], Nat.zero_le _, rfl, by simp [OwC], rfl, Fill.made _ _ _ _⟩, (Below.refl _ _).alloc (Nat.le_refl _) _⟩
  case round =>
    obtain ⟨⟨k, us, hk, rfl, ho, hul, hfl⟩, hb⟩ := hrel
    by_cases hlt : k < l.length
    · obtain ⟨g, off, rfl, _, hcell, hs⟩ := strs_at (h.below hb hf) hlt
      obtain ⟨z, hz⟩ := hfl.cell (i := k) (by omega) (by omega)
      have hfz := hfl.frozen k
      have HF := hide hfl
      have HO := hide ho
      have HB := hide hb
      have HS := hide (strs_snoc l k hlt)
      have HH := hide h
      clear hfl ho hb h
      generalize l[k] = s at *
      go_wp2
      go_roundw
      case rel =>
        refine ⟨⟨k + 1, us ++ [.string s], by omega, by go_num, ?_, by simp [hul], ?_⟩, HB.out.setCell (Nat.le_refl _) _⟩
        · rw [HS.out]
          exact OwC.append (f2 := []) (OwC.frame _ (by simp) HO.out) ⟨[], [], ⟨rfl, hs, rfl⟩, rfl, rfl⟩
        · have := HF.out
          rw [show l.length - k = l.length - (k + 1) + 1 by omega] at this
          exact this.push hul.symm _
      case measure => simp [intOf]; omega
    · obtain rfl : k = l.length := by omega
      have HB := hide hb
      clear hb
      go_wp2
      go_ret
      have hfl' := hfl
      rw [Nat.sub_self] at hfl'
      rw [List.take_length] at ho
      have hd := hfl'.done ho (n := l.length) (k := 1) (flat_len strC 1 strC_len l) (by unfold maxLen; omega)
      refine ⟨_, _, rfl, hd, ?_, HB.out⟩
      split
      · exact New.nil _ _
      · obtain ⟨zs, _, hrow⟩ := hfl
        exact (New.nil _ _).cons (Nat.le_refl _) (Unf.row hrow) hrow.lt

set_option maxRecDepth 100000 in
theorem eqIntS_same (l : List Int) (A A' : Option Addr) (n n' c c' : Nat) (fp fp' : List Nat) (w : World) (h : Ow w (.s 1 l.length (l.flatMap intC)) (.slice A n c) fp) (h' : Ow w (.s 1 l.length (l.flatMap intC)) (.slice A' n' c') fp') :
    Calls Tryz.prog 62 #[.slice A n c, .slice A' n' c'] w fun e w' => e = .returned (.bool true) ∧ Below w.heap.size w w' := by
  obtain ⟨rfl, hc, hm⟩ := h.nlen
  obtain ⟨rfl, hc', hm'⟩ := h'.nlen
  unfold maxLen at hm hm'
  go_enter Tryz.func62, Tryz.ntmps62
  go_wp2
  go_loopw [5] (fun i wr => (∃ k : Nat, k ≤ l.length ∧ i = .int .i64 k) ∧ ∃ q, wr = w.drewN q) (fun i _ => l.length - (intOf i).toNat)
  case atStart => exact ⟨⟨0, Nat.zero_le _, rfl⟩, 0, rfl⟩
  case round =>
    obtain ⟨⟨k, hk, rfl⟩, q, rfl⟩ := hrel
    by_cases hlt : k < l.length
    · obtain ⟨g, off, rfl, _, hcell, hs⟩ := ints_at h hlt
      obtain ⟨g', off', rfl, _, hcell', _⟩ := ints_at h' hlt
      generalize l[k] = s at *
      go_wp2
      go_quiet (fail)
      go_wp2
      go_roundw
      case rel => exact ⟨⟨k + 1, by omega, by go_num⟩, _, rfl⟩
      case measure => simp [intOf]; omega
    · obtain rfl : k = l.length := by omega
      go_wp2
      go_ret
      exact ⟨rfl, below_drewN (Below.refl _ _) q⟩
theorem info_int : (Tryz.prog.info? 3).map (fun i => (i.zero, i.size, i.bytes)) = some (some (.int .i64 0), 1, 8) := by kernel_rfl
set_option maxRecDepth 100000 in
theorem toIntS_any (l : List Int) (A : Option Addr) (n c : Nat) (fp : List Nat) (w : World) (h : Ow w (.s 1 l.length (l.flatMap intC)) (.slice A n c) fp) (hf : Lt fp w.heap.size) (hn : l.length ≤ 1048576) :
    Calls Tryz.prog 59 #[.slice A n c] w fun e w' => ∃ y fq, e = .returned y ∧ Ow w' (.s 1 l.length (l.flatMap intC)) y fq ∧ New w' fq w.heap.size ∧ Below w.heap.size w w' := by
  obtain ⟨rfl, hc, hm⟩ := h.nlen
  unfold maxLen at hm
  obtain ⟨i0, hi, hz0, hz1, hz2⟩ := info_parts info_int
  have hmk := run_make_rowN (P := Tryz.prog) 45 3 i0 _ Tryz.underlying45 hi hz0 .i64 .i64 l.length l.length (Nat.le_refl _) (by rw [hz2]; omega) (by omega)
  rw [hz1] at hmk
  clear hi hz0 hz1 hz2 i0
  go_enter Tryz.func59, Tryz.ntmps59
  go_wp2
  go_loopw [4] (fun i wr => (∃ k us, k ≤ l.length ∧ i = .int .i64 (k : Nat) ∧ OwC wr ((l.take k).flatMap intC) us [] ∧ us.length = k ∧ Fill wr w.heap.size 3 us (l.length - k)) ∧ Below w.heap.size w wr) (fun i _ => l.length - (intOf i).toNat)
  case atStart => exact ⟨⟨0, [], Nat.zero_le _, rfl, by simp [OwC], rfl, Fill.made _ _ _ _⟩, (Below.refl _ _).alloc (Nat.le_refl _) _⟩
  case round =>
    obtain ⟨⟨k, us, hk, rfl, ho, hul, hfl⟩, hb⟩ := hrel
    by_cases hlt : k < l.length
    · obtain ⟨g, off, rfl, _, hcell, hs⟩ := ints_at (h.below hb hf) hlt
      obtain ⟨z, hz⟩ := hfl.cell (i := k) (by omega) (by omega)
      have hfz := hfl.frozen k
      have HF := hide hfl
      have HO := hide ho
      have HB := hide hb
      have HS := hide (ints_snoc l k hlt)
      have HH := hide h
      clear hfl ho hb h
      generalize l[k] = s at *
      go_wp2
      go_roundw
      case rel =>
        refine ⟨⟨k + 1, us ++ [.int .i64 s], by omega, by go_num, ?_, by simp [hul], ?_⟩, HB.out.setCell (Nat.le_refl _) _⟩
        · rw [HS.out]
          exact OwC.append (f2 := []) (OwC.frame _ (by simp) HO.out) ⟨[], [], ⟨rfl, hs, rfl⟩, rfl, rfl⟩
        · have := HF.out
          rw [show l.length - k = l.length - (k + 1) + 1 by omega] at this
          exact this.push hul.symm _
      case measure => simp [intOf]; omega
    · obtain rfl : k = l.length := by omega
      have HB := hide hb
      clear hb
      go_wp2
      go_ret
      have hfl' := hfl
      rw [Nat.sub_self] at hfl'
      rw [List.take_length] at ho
      have hd := hfl'.done ho (n := l.length) (k := 1) (flat_len intC 1 intC_len l) (by unfold maxLen; omega)
      refine ⟨_, _, rfl, hd, ?_, HB.out⟩
      split
      · exact New.nil _ _
      · obtain ⟨zs, _, hrow⟩ := hfl
        exact (New.nil _ _).cons (Nat.le_refl _) (Unf.row hrow) hrow.lt

theorem wrapI (x : Int) (h1 : -9223372036854775808 ≤ x) (h2 : x ≤ 9223372036854775807) : IntKind.i64.wrap x = x := by
  rw [IntKind.wrap_i64]
  omega
end Go.Proofs.YtddjgbhkfdpffaaGreatDoor
