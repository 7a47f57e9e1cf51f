/-
  The laws' own helpers on slices of texts, of numbers and of bytes: their size, a copy, equality.
-/
import Derived.Test.YtnaecdoeldoipaaGreatDoorKit
import Derived.Test.YtnaecdoeldoipaaGreatDoorProg
set_option linter.unusedVariables false
set_option linter.unusedSimpArgs false
namespace Go.Proofs.YtnaecdoeldoipaaGreatDoor
open Go.ChangeShapes Go.WideShapes Go.ChangeAt Go.RowKit

def strC (s : ByteArray) : List D := [.v (.string s)]
def intC (n : Int) : List D := [.v (.int .i64 n)]
def byteC (b : UInt8) : List D := [.v (.int .u8 b.toNat)]
theorem strC_len (s : ByteArray) : (strC s).length = 1 := rfl
theorem intC_len (n : Int) : (intC n).length = 1 := rfl
theorem byteC_len (b : UInt8) : (byteC b).length = 1 := rfl
def szr (left b : Int) : Int := if b ≤ left then left - b else -1
theorem szr_yes {left b : Int} (h : b ≤ left) : szr left b = left - b := if_pos h
theorem szr_no {left b : Int} (h : ¬ b ≤ left) : szr left b = -1 := if_neg h
def bulkStr : List ByteArray → Nat
  | [] => 0
  | s :: l => s.size + bulkStr l
def bulkStrs (l : List ByteArray) : Nat := l.length + bulkStr l
theorem bulkStr_append (a b : List ByteArray) : bulkStr (a ++ b) = bulkStr a + bulkStr b := by
  induction a with
  | nil => simp [bulkStr]
  | cons x a ih => simp [bulkStr, ih]; omega
theorem bulkStr_snoc (l : List ByteArray) (k : Nat) (h : k < l.length) : bulkStr (l.take (k + 1)) = bulkStr (l.take k) + l[k].size := by
  rw [List.take_succ_eq_append_getElem h, bulkStr_append]
  simp [bulkStr]
theorem bulkStr_le (l : List ByteArray) (k : Nat) : bulkStr (l.take k) ≤ bulkStr l := by
  conv => rhs; rw [← List.take_append_drop k l, bulkStr_append]
  omega


theorem OwC.str {w : World} {s : ByteArray} {us : List Value} {fp : List Nat} (h : OwC w (strC s) us fp) : us = [.string s] ∧ (s.size ≤ maxLen) ∧ fp = [] := by
  match us, OwC.length _ h with
  | [u], _ =>
    obtain ⟨f1, f2, h1, h2, rfl⟩ := h
    simp only [Ow, okAtom] at h1
    obtain ⟨rfl, h3, rfl⟩ := h1
    simp only [OwC] at h2
    subst h2
    exact ⟨rfl, h3, rfl⟩
/-- the element at a place -/
theorem strs_at {w : World} {l : List ByteArray} {A : Option Addr} {n c : Nat} {fp : List Nat} (h : Ow w (.s 1 l.length (l.flatMap strC)) (.slice A n c) fp) {i : Nat} (hi : i < l.length) :
    ∃ g off, A = some ⟨g, off, none⟩ ∧ g ∈ fp ∧ w.cell? ⟨g, off + i, none⟩ = some (.string l[i]) ∧ (l[i].size ≤ maxLen) := by
  obtain ⟨g, off, us, fi, rfl, hg, _, hl, hc, ho⟩ := h.elem strC_len hi
  obtain ⟨rfl, hs, _⟩ := ho.str
  have := hc 0 _ rfl
  exact ⟨g, off, rfl, hg, by simpa using this, hs⟩
theorem strs_snoc (l : List ByteArray) (k : Nat) (h : k < l.length) : (l.take (k + 1)).flatMap strC = (l.take k).flatMap strC ++ strC l[k] := by
  rw [List.take_succ_eq_append_getElem h, List.flatMap_append]
  simp

theorem OwC.int {w : World} {s : Int} {us : List Value} {fp : List Nat} (h : OwC w (intC s) us fp) : us = [.int .i64 s] ∧ ((Lit.int .i64 s).wf = true) ∧ fp = [] := by
  match us, OwC.length _ h with
  | [u], _ =>
    obtain ⟨f1, f2, h1, h2, rfl⟩ := h
    simp only [Ow, okAtom] at h1
    obtain ⟨rfl, h3, rfl⟩ := h1
    simp only [OwC] at h2
    subst h2
    exact ⟨rfl, h3, rfl⟩
/-- the element at a place -/
theorem ints_at {w : World} {l : List Int} {A : Option Addr} {n c : Nat} {fp : List Nat} (h : Ow w (.s 1 l.length (l.flatMap intC)) (.slice A n c) fp) {i : Nat} (hi : i < l.length) :
    ∃ g off, A = some ⟨g, off, none⟩ ∧ g ∈ fp ∧ w.cell? ⟨g, off + i, none⟩ = some (.int .i64 l[i]) ∧ ((Lit.int .i64 l[i]).wf = true) := by
  obtain ⟨g, off, us, fi, rfl, hg, _, hl, hc, ho⟩ := h.elem intC_len hi
  obtain ⟨rfl, hs, _⟩ := ho.int
  have := hc 0 _ rfl
  exact ⟨g, off, rfl, hg, by simpa using this, hs⟩
theorem ints_snoc (l : List Int) (k : Nat) (h : k < l.length) : (l.take (k + 1)).flatMap intC = (l.take k).flatMap intC ++ intC l[k] := by
  rw [List.take_succ_eq_append_getElem h, List.flatMap_append]
  simp

theorem OwC.byte {w : World} {s : UInt8} {us : List Value} {fp : List Nat} (h : OwC w (byteC s) us fp) : us = [.int .u8 s.toNat] ∧ (True) ∧ fp = [] := by
  match us, OwC.length _ h with
  | [u], _ =>
    obtain ⟨f1, f2, h1, h2, rfl⟩ := h
    simp only [Ow, okAtom] at h1
    obtain ⟨rfl, h3, rfl⟩ := h1
    simp only [OwC] at h2
    subst h2
    exact ⟨rfl, trivial, rfl⟩
/-- the element at a place -/
theorem bytes_at {w : World} {l : List UInt8} {A : Option Addr} {n c : Nat} {fp : List Nat} (h : Ow w (.s 1 l.length (l.flatMap byteC)) (.slice A n c) fp) {i : Nat} (hi : i < l.length) :
    ∃ g off, A = some ⟨g, off, none⟩ ∧ g ∈ fp ∧ w.cell? ⟨g, off + i, none⟩ = some (.int .u8 l[i].toNat) ∧ (True) := by
  obtain ⟨g, off, us, fi, rfl, hg, _, hl, hc, ho⟩ := h.elem byteC_len hi
  obtain ⟨rfl, hs, _⟩ := ho.byte
  have := hc 0 _ rfl
  exact ⟨g, off, rfl, hg, by simpa using this, hs⟩
theorem bytes_snoc (l : List UInt8) (k : Nat) (h : k < l.length) : (l.take (k + 1)).flatMap byteC = (l.take k).flatMap byteC ++ byteC l[k] := by
  rw [List.take_succ_eq_append_getElem h, List.flatMap_append]
  simp


set_option maxRecDepth 100000 in
theorem eqStringS_same (l : List ByteArray) (A A' : Option Addr) (n n' c c' : Nat) (fp fp' : List Nat) (w : World) (h : Ow w (.s 1 l.length (l.flatMap strC)) (.slice A n c) fp) (h' : Ow w (.s 1 l.length (l.flatMap strC)) (.slice A' n' c') fp') :
    Calls Tryz.prog 120 #[.slice A n c, .slice A' n' c'] w fun e w' => e = .returned (.bool true) ∧ Below w.heap.size w w' := by
  obtain ⟨rfl, hc, hm⟩ := h.nlen
  obtain ⟨rfl, hc', hm'⟩ := h'.nlen
  unfold maxLen at hm hm'
  go_enter Tryz.func120, Tryz.ntmps120
  go_wp2
  go_loopw [5] (fun i wr => (∃ k : Nat, k ≤ l.length ∧ i = .int .i64 k) ∧ ∃ q, wr = w.drewN q) (fun i _ => l.length - (intOf i).toNat)
  case atStart => exact ⟨⟨0, Nat.zero_le _, rfl⟩, 0, rfl⟩
  case round =>
    obtain ⟨⟨k, hk, rfl⟩, q, rfl⟩ := hrel
    by_cases hlt : k < l.length
    · obtain ⟨g, off, rfl, _, hcell, hs⟩ := strs_at h hlt
      obtain ⟨g', off', rfl, _, hcell', _⟩ := strs_at h' hlt
      generalize l[k] = s at *
      go_wp2
      go_quiet (fail)
      go_wp2
      go_roundw
      case rel => exact ⟨⟨k + 1, by omega, by go_num⟩, _, rfl⟩
      case measure => simp [intOf]; omega
    · obtain rfl : k = l.length := by omega
      go_wp2
      go_ret
      exact ⟨rfl, below_drewN (Below.refl _ _) q⟩
theorem info_string : (Tryz.prog.info? 9).map (fun i => (i.zero, i.size, i.bytes)) = some (some (.string .empty), 1, 16) := by kernel_rfl

theorem info_int : (Tryz.prog.info? 3).map (fun i => (i.zero, i.size, i.bytes)) = some (some (.int .i64 0), 1, 8) := by kernel_rfl

theorem info_uint8 : (Tryz.prog.info? 5).map (fun i => (i.zero, i.size, i.bytes)) = some (some (.int .u8 0), 1, 1) := by kernel_rfl

theorem wrapI (x : Int) (h1 : -9223372036854775808 ≤ x) (h2 : x ≤ 9223372036854775807) : IntKind.i64.wrap x = x := by
  rw [IntKind.wrap_i64]
  omega
end Go.Proofs.YtnaecdoeldoipaaGreatDoor
