/-
  When the plan of a log is ok: plain definitions.
-/
import Derived.Test.YtnaecdoeldoipaaGreatDoorDLogPlan
import Derived.Test.YtnaecdoeldoipaaGreatDoorName
set_option linter.unusedVariables false
set_option linter.unusedSimpArgs false
namespace Go.Proofs.YtnaecdoeldoipaaGreatDoor
open Go.ChangeShapes Go.WideShapes Go.ChangeAt Go.RowKit

/-- the position that follows the first i parts -/
def LogPlan.after (p : LogPlan) (i : Nat) : Int := if i = 0 then 1 else ((p.parts[i - 1]?).map LogPart.next).getD 1
theorem LogPlan.after_zero (p : LogPlan) : p.after 0 = 1 := rfl
theorem LogPlan.after_succ (p : LogPlan) (i : Nat) (h : i < p.parts.length) : p.after (i + 1) = p.parts[i].next := by
  unfold LogPlan.after
  simp [List.getElem?_eq_getElem h]
def LogPlan.fine (p : LogPlan) (i : Nat) (h : i < p.parts.length) : Prop :=
  (1 ≤ p.parts[i].num ∧ p.parts[i].num ≤ 999999) ∧ p.parts[i].num ≠ p.open_ ∧ p.parts[i].first = p.after i ∧ (p.parts[i].first ≤ p.parts[i].next ∧ p.parts[i].next ≤ 1000000) ∧
    (0 ≤ p.parts[i].size ∧ p.parts[i].size ≤ 20000) ∧ ∀ j (hj : j < i), (p.parts[j]'(by omega)).num ≠ p.parts[i].num
theorem LogPlan.fine_iff (p : LogPlan) (i : Nat) (h : i < p.parts.length) : p.fine i h ↔
  (1 ≤ p.parts[i].num ∧ p.parts[i].num ≤ 999999) ∧ p.parts[i].num ≠ p.open_ ∧ p.parts[i].first = p.after i ∧ (p.parts[i].first ≤ p.parts[i].next ∧ p.parts[i].next ≤ 1000000) ∧
    (0 ≤ p.parts[i].size ∧ p.parts[i].size ≤ 20000) ∧ ∀ j (hj : j < i), (p.parts[j]'(by omega)).num ≠ p.parts[i].num := Iff.rfl
def LogPlan.ok (p : LogPlan) : Prop := p.parts.length ≤ 40 ∧ (1 ≤ p.open_ ∧ p.open_ ≤ 999999) ∧ (∀ i (h : i < p.parts.length), p.fine i h) ∧ p.first = p.after p.parts.length
theorem LogPlan.fine_step (p : LogPlan) (k : Nat) (hk : k < p.parts.length) (ha : ∀ j (h : j < p.parts.length), j < k → p.fine j h) (hn : p.fine k hk) : ∀ j (h : j < p.parts.length), j < k + 1 → p.fine j h := fun j h hj => by
  by_cases e : j < k
  · exact ha j h e
  · obtain rfl : j = k := by omega
    exact hn
end Go.Proofs.YtnaecdoeldoipaaGreatDoor
