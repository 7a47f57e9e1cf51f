/-
  The text of a plan of a log: plain.
-/
import Derived.Test.YtnaecdoeldoipaaGreatDoorPlanM
import Derived.Test.YtnaecdoeldoipaaGreatDoorDec
set_option linter.unusedVariables false
set_option linter.unusedSimpArgs false
namespace Go.Proofs.YtnaecdoeldoipaaGreatDoor
open Go.ChangeShapes Go.WideShapes Go.ChangeAt Go.RowKit

def joinedText (word : ByteArray) (l : List Int) : ByteArray := l.foldl (fun s n => s ++ (⟨#[32]⟩ ++ dec n)) word
theorem joinedText_snoc (word : ByteArray) (l : List Int) (i : Nat) (h : i < l.length) : joinedText word (l.take (i + 1)) = joinedText word (l.take i) ++ (⟨#[32]⟩ ++ dec l[i]) := by
  unfold joinedText
  rw [List.take_succ_eq_append_getElem h, List.foldl_append]
  rfl
theorem joinedText_size : ∀ (l : List Int) (word : ByteArray), (∀ n ∈ l, -9223372036854775808 ≤ n ∧ n ≤ 9223372036854775807) → (joinedText word l).size ≤ word.size + 21 * l.length
  | [], word, _ => by simp [joinedText]
  | n :: l, word, h => by
    have h1 := joinedText_size l (word ++ (⟨#[32]⟩ ++ dec n)) (fun m hm => h m (List.mem_cons_of_mem _ hm))
    have h2 := dec_size n (h n (List.mem_cons_self ..)).1 (h n (List.mem_cons_self ..)).2
    have e : joinedText word (n :: l) = joinedText (word ++ (⟨#[32]⟩ ++ dec n)) l := rfl
    rw [e]
    have e2 : (⟨#[32]⟩ : ByteArray).size = 1 := rfl
    rw [ByteArray.size_append, ByteArray.size_append] at h1
    rw [List.length_cons]
    omega
def LogPart.nums (x : LogPart) : List Int := [x.num, x.first, x.next, x.size]
def LogPart.line (x : LogPart) : ByteArray := joinedText ⟨#[115, 101, 97, 108]⟩ x.nums ++ ⟨#[10]⟩
def partLines (l : List LogPart) : ByteArray := l.foldl (fun s x => s ++ x.line) .empty
theorem partLines_snoc (l : List LogPart) (i : Nat) (h : i < l.length) : partLines (l.take (i + 1)) = partLines (l.take i) ++ l[i].line := by
  unfold partLines
  rw [List.take_succ_eq_append_getElem h, List.foldl_append]
  rfl
def LogPlan.last (p : LogPlan) : ByteArray := joinedText ⟨#[111, 112, 101, 110]⟩ [p.open_, p.first] ++ ⟨#[10, 101, 110, 100, 10]⟩
def LogPlan.text (p : LogPlan) : ByteArray := partLines p.parts ++ p.last
noncomputable def LogPlan.write (p : LogPlan) : ByteArray := if tb p.ok = true then p.text else .empty
/-- the numbers of a part that is ok -/
def LogPart.small (x : LogPart) : Prop := ∀ n ∈ x.nums, 0 ≤ n ∧ n ≤ 1000000
theorem LogPlan.parts_pos (p : LogPlan) (h : p.ok) : ∀ j (hj : j < p.parts.length), 1 ≤ p.parts[j].first ∧ p.parts[j].first ≤ p.parts[j].next ∧ p.parts[j].next ≤ 1000000 := fun j => by
  induction j with
  | zero =>
    intro hj
    have q := h.2.2.1 0 hj
    have q3 := q.2.2.1
    have q4 := q.2.2.2.1
    rw [LogPlan.after_zero] at q3
    omega
  | succ j ih =>
    intro hj
    have q := h.2.2.1 (j + 1) hj
    have q3 := q.2.2.1
    have q4 := q.2.2.2.1
    rw [LogPlan.after_succ p j (by omega)] at q3
    have := ih (by omega)
    omega
theorem LogPlan.small (p : LogPlan) (h : p.ok) : ∀ i (hi : i < p.parts.length), p.parts[i].small := fun i hi n hn => by
  obtain ⟨h1, h2, h3, h4, h5, h6⟩ := h.2.2.1 i hi
  have h7 := p.parts_pos h i hi
  unfold LogPart.nums at hn
  simp only [List.mem_cons, List.not_mem_nil, or_false] at hn
  rcases hn with rfl | rfl | rfl | rfl <;> omega
theorem LogPlan.first_small (p : LogPlan) (h : p.ok) : 1 ≤ p.first ∧ p.first ≤ 1000000 := by
  have h0 := h.2.2.2
  rcases Nat.eq_zero_or_pos p.parts.length with e | e
  · rw [e, LogPlan.after_zero] at h0
    omega
  · obtain ⟨m, hm⟩ : ∃ m, p.parts.length = m + 1 := ⟨p.parts.length - 1, by omega⟩
    rw [hm, LogPlan.after_succ p m (by omega)] at h0
    have := p.parts_pos h m (by omega)
    omega
theorem line_size (x : LogPart) (h : x.small) : x.line.size ≤ 100 := by
  unfold LogPart.line
  have h1 := joinedText_size x.nums ⟨#[115, 101, 97, 108]⟩ (fun n hn => by have := h n hn; omega)
  have e1 : (⟨#[115, 101, 97, 108]⟩ : ByteArray).size = 4 := rfl
  have e2 : (⟨#[10]⟩ : ByteArray).size = 1 := rfl
  have e3 : x.nums.length = 4 := rfl
  rw [ByteArray.size_append]
  omega
theorem partLines_size : ∀ (l : List LogPart) (s : ByteArray), (∀ i (h : i < l.length), l[i].small) → (l.foldl (fun s x => s ++ LogPart.line x) s).size ≤ s.size + 100 * l.length
  | [], s, _ => by simp
  | x :: l, s, h => by
    have h1 := partLines_size l (s ++ x.line) (fun i hi => by have := h (i + 1) (by simpa using hi); simpa using this)
    have h2 := line_size x (by have := h 0 (by simp); simpa using this)
    rw [ByteArray.size_append] at h1
    rw [List.length_cons, List.foldl_cons]
    omega
end Go.Proofs.YtnaecdoeldoipaaGreatDoor
