/-
  Decimals: what strconv.Itoa and the reference's l6Dec make. The text of a plan of a log: plain.
-/
import Derived.Lib.ItoaNum
import Derived.Test.YtddjgbhkfdpffaaGreatDoorWStr
import Derived.Test.YtddjgbhkfdpffaaGreatDoorWHLogState
set_option linter.unusedVariables false
set_option linter.unusedSimpArgs false
namespace Go.Proofs.YtddjgbhkfdpffaaGreatDoor
open Go.ChangeShapes Go.WideShapes Go.ChangeAt Go.RowKit

def dec (n : Int) : ByteArray := ⟨(Lib.itoa n).toArray⟩
theorem decDigits_len : ∀ (k u : Nat), u < 10 ^ (k + 1) → (Lib.decDigits u).length ≤ k + 1
  | 0, u, h => by
    rw [Lib.decDigits, dif_pos (by simpa using h)]
    simp
  | k + 1, u, h => by
    rw [Lib.decDigits]
    split
    · simp
    · rw [List.length_append]
      have := decDigits_len k (u / 10) (by rw [Nat.pow_succ] at h; omega)
      simp
      omega
theorem dec_size (n : Int) (h1 : -9223372036854775808 ≤ n) (h2 : n ≤ 9223372036854775807) : (dec n).size ≤ 20 := by
  have hs : (dec n).size = (Lib.itoa n).length := by simp [dec, ByteArray.size]
  rw [hs]
  have e10 : (10 : Nat) ^ (18 + 1) = 10000000000000000000 := by decide
  unfold Lib.itoa
  split
  · have := decDigits_len 18 n.natAbs (by rw [e10]; omega)
    simp only [List.length_cons]; omega
  · have := decDigits_len 18 n.toNat (by rw [e10]; omega)
    omega
theorem dec_low {n : Int} (h0 : 0 ≤ n) (h : n < 10) : dec n = ⟨#[UInt8.ofNat (48 + n.toNat)]⟩ := by
  unfold dec Lib.itoa
  rw [if_neg (by omega), Lib.decDigits, dif_pos (by omega)]
theorem dec_high {n : Int} (h : 10 ≤ n) : dec n = dec (n / 10) ++ ⟨#[UInt8.ofNat (48 + (n % 10).toNat)]⟩ := by
  unfold dec Lib.itoa
  rw [if_neg (by omega), if_neg (by omega), Lib.decDigits, dif_neg (by omega)]
  have e1 : (n / 10).toNat = n.toNat / 10 := by omega
  have e2 : (n % 10).toNat = n.toNat % 10 := by omega
  rw [e1, e2]
  apply ByteArray.ext
  simp
end Go.Proofs.YtddjgbhkfdpffaaGreatDoor
set_option linter.unusedVariables false
set_option linter.unusedSimpArgs false
namespace Go.Proofs.YtddjgbhkfdpffaaGreatDoor
open Go.ChangeShapes Go.WideShapes Go.ChangeAt Go.RowKit

def joinedText (word : ByteArray) (l : List Int) : ByteArray := l.foldl (fun s n => s ++ (⟨#[32]⟩ ++ dec n)) word
theorem joinedText_snoc (word : ByteArray) (l : List Int) (i : Nat) (h : i < l.length) : joinedText word (l.take (i + 1)) = joinedText word (l.take i) ++ (⟨#[32]⟩ ++ dec l[i]) := by
  unfold joinedText
  rw [List.take_succ_eq_append_getElem h, List.foldl_append]
  rfl
theorem joinedText_size : ∀ (l : List Int) (word : ByteArray), (∀ n ∈ l, -9223372036854775808 ≤ n ∧ n ≤ 9223372036854775807) → (joinedText word l).size ≤ word.size + 21 * l.length
  | [], word, _ => by simp [joinedText]
  | n :: l, word, h => by
    have h1 := joinedText_size l (word ++ (⟨#[32]⟩ ++ dec n)) (fun m hm => h m (List.mem_cons_of_mem _ hm))
    have h2 := dec_size n (h n (List.mem_cons_self ..)).1 (h n (List.mem_cons_self ..)).2
    have e : joinedText word (n :: l) = joinedText (word ++ (⟨#[32]⟩ ++ dec n)) l := rfl
    rw [e]
    have e2 : (⟨#[32]⟩ : ByteArray).size = 1 := rfl
    rw [ByteArray.size_append, ByteArray.size_append] at h1
    rw [List.length_cons]
    omega
def LogPart.nums (x : LogPart) : List Int := [x.num, x.first, x.next, x.size]
def LogPart.line (x : LogPart) : ByteArray := joinedText ⟨#[115, 101, 97, 108]⟩ x.nums ++ ⟨#[10]⟩
def partLines (l : List LogPart) : ByteArray := l.foldl (fun s x => s ++ x.line) .empty
theorem partLines_snoc (l : List LogPart) (i : Nat) (h : i < l.length) : partLines (l.take (i + 1)) = partLines (l.take i) ++ l[i].line := by
  unfold partLines
  rw [List.take_succ_eq_append_getElem h, List.foldl_append]
  rfl
def LogPlan.last (p : LogPlan) : ByteArray := joinedText ⟨#[111, 112, 101, 110]⟩ [p.open_, p.first] ++ ⟨#[10, 101, 110, 100, 10]⟩
def LogPlan.text (p : LogPlan) : ByteArray := partLines p.parts ++ p.last
noncomputable def LogPlan.write (p : LogPlan) : ByteArray := if tb p.ok = true then p.text else .empty
/-- the numbers of a part that is ok -/
def LogPart.small (x : LogPart) : Prop := ∀ n ∈ x.nums, 0 ≤ n ∧ n ≤ 1000000
theorem LogPlan.parts_pos (p : LogPlan) (h : p.ok) : ∀ j (hj : j < p.parts.length), 1 ≤ p.parts[j].first ∧ p.parts[j].first ≤ p.parts[j].next ∧ p.parts[j].next ≤ 1000000 := fun j => by
  induction j with
  | zero =>
    intro hj
    have q := h.2.2.1 0 hj
    have q3 := q.2.2.1
    have q4 := q.2.2.2.1
    rw [LogPlan.after_zero] at q3
    omega
  | succ j ih =>
    intro hj
    have q := h.2.2.1 (j + 1) hj
    have q3 := q.2.2.1
    have q4 := q.2.2.2.1
    rw [LogPlan.after_succ p j (by omega)] at q3
    have := ih (by omega)
    omega
theorem LogPlan.small (p : LogPlan) (h : p.ok) : ∀ i (hi : i < p.parts.length), p.parts[i].small := fun i hi n hn => by
  obtain ⟨h1, h2, h3, h4, h5, h6⟩ := h.2.2.1 i hi
  have h7 := p.parts_pos h i hi
  unfold LogPart.nums at hn
  simp only [List.mem_cons, List.not_mem_nil, or_false] at hn
  rcases hn with rfl | rfl | rfl | rfl <;> omega
theorem LogPlan.first_small (p : LogPlan) (h : p.ok) : 1 ≤ p.first ∧ p.first ≤ 1000000 := by
  have h0 := h.2.2.2
  rcases Nat.eq_zero_or_pos p.parts.length with e | e
  · rw [e, LogPlan.after_zero] at h0
    omega
  · obtain ⟨m, hm⟩ : ∃ m, p.parts.length = m + 1 := ⟨p.parts.length - 1, by omega⟩
    rw [hm, LogPlan.after_succ p m (by omega)] at h0
    have := p.parts_pos h m (by omega)
    omega
theorem line_size (x : LogPart) (h : x.small) : x.line.size ≤ 100 := by
  unfold LogPart.line
  have h1 := joinedText_size x.nums ⟨#[115, 101, 97, 108]⟩ (fun n hn => by have := h n hn; omega)
  have e1 : (⟨#[115, 101, 97, 108]⟩ : ByteArray).size = 4 := rfl
  have e2 : (⟨#[10]⟩ : ByteArray).size = 1 := rfl
  have e3 : x.nums.length = 4 := rfl
  rw [ByteArray.size_append]
  omega
theorem partLines_size : ∀ (l : List LogPart) (s : ByteArray), (∀ i (h : i < l.length), l[i].small) → (l.foldl (fun s x => s ++ LogPart.line x) s).size ≤ s.size + 100 * l.length
  | [], s, _ => by simp
  | x :: l, s, h => by
    have h1 := partLines_size l (s ++ x.line) (fun i hi => by have := h (i + 1) (by simpa using hi); simpa using this)
    have h2 := line_size x (by have := h 0 (by simp); simpa using this)
    rw [ByteArray.size_append] at h1
    rw [List.length_cons, List.foldl_cons]
    omega
end Go.Proofs.YtddjgbhkfdpffaaGreatDoor
