/-
  Jobs of a crew: when they are ok, and what they tell: plain definitions.
-/
import Derived.Test.YtdingkbggjehoaaDCrewTold
import Derived.Test.YtdingkbggjehoaaDCrewJob
import Derived.Test.YtdingkbggjehoaaName
set_option linter.unusedVariables false
set_option linter.unusedSimpArgs false
namespace Go.Proofs.Ytdingkbggjehoaa
open Go.ChangeShapes Go.WideShapes Go.ChangeAt Go.RowKit

def CrewJob.fine (x : CrewJob) : Prop := 0 ≤ x.bad ∧ x.items.length ≤ 40
def jobsOk (l : List CrewJob) : Prop := l.length ≤ 60 ∧ ∀ i (h : i < l.length), l[i].fine
def CrewJob.told (x : CrewJob) : List Int := if x.bad = 0 then x.items else []
def toldItems (l : List CrewJob) : List Int := l.flatMap CrewJob.told
def toldDeadP (p : CrewJob × Nat) : List CrewDead := if p.1.bad = 0 then [] else [⟨(p.2 : Int), p.1.bad⟩]
def toldDead (l : List CrewJob) : List CrewDead := l.zipIdx.flatMap toldDeadP
def toldOf (l : List CrewJob) : CrewTold := ⟨true, toldItems l, toldDead l, (l.length : Int), 0, 0⟩
def CrewTold.none_ : CrewTold := ⟨false, [], [], 0, 0, 0⟩
noncomputable def serialOf (l : List CrewJob) : CrewTold := if tb (jobsOk l) = true then toldOf l else CrewTold.none_

theorem toldItems_snoc (l : List CrewJob) (k : Nat) (h : k < l.length) : toldItems (l.take (k + 1)) = toldItems (l.take k) ++ l[k].told := by
  unfold toldItems
  rw [List.take_succ_eq_append_getElem h, List.flatMap_append]
  simp
theorem toldDead_snoc (l : List CrewJob) (k : Nat) (h : k < l.length) : toldDead (l.take (k + 1)) = toldDead (l.take k) ++ toldDeadP (l[k], k) := by
  unfold toldDead
  rw [List.take_succ_eq_append_getElem h, List.zipIdx_append, List.flatMap_append]
  simp [List.length_take, Nat.min_eq_left (Nat.le_of_lt h)]
theorem told_zero {x : CrewJob} (h : x.bad = 0) : x.told = x.items := by simp [CrewJob.told, h]
theorem told_bad {x : CrewJob} (h : x.bad ≠ 0) : x.told = [] := by simp [CrewJob.told, h]
theorem deadP_zero {x : CrewJob} {k : Nat} (h : x.bad = 0) : toldDeadP (x, k) = [] := by simp [toldDeadP, h]
theorem deadP_bad {x : CrewJob} {k : Nat} (h : x.bad ≠ 0) : toldDeadP (x, k) = [⟨(k : Int), x.bad⟩] := by simp [toldDeadP, h]
theorem toldItems_len {l : List CrewJob} (h : jobsOk l) (k : Nat) (hk : k ≤ l.length) : (toldItems (l.take k)).length ≤ 40 * k := by
  induction k with
  | zero => simp [toldItems]
  | succ k ih =>
    have hl : k < l.length := by omega
    rw [toldItems_snoc l k hl, List.length_append]
    have h1 := ih (by omega)
    have h2 : (l[k].told).length ≤ 40 := by
      unfold CrewJob.told
      split
      · exact (h.2 k hl).2
      · simp
    omega
theorem toldDead_len (l : List CrewJob) (k : Nat) (hk : k ≤ l.length) : (toldDead (l.take k)).length ≤ k := by
  induction k with
  | zero => simp [toldDead]
  | succ k ih =>
    have hl : k < l.length := by omega
    rw [toldDead_snoc l k hl, List.length_append]
    have h1 := ih (by omega)
    have h2 : (toldDeadP (l[k], k)).length ≤ 1 := by unfold toldDeadP; split <;> simp
    omega
theorem fine_step (l : List CrewJob) (k : Nat) (hk : k < l.length) (ha : ∀ j (h : j < l.length), j < k → l[j].fine) (hn : l[k].fine) : ∀ j (h : j < l.length), j < k + 1 → l[j].fine := fun j h hj => by
  by_cases e : j < k
  · exact ha j h e
  · obtain rfl : j = k := by omega
    exact hn
theorem serialOf_cnt (l : List CrewJob) : (serialOf l).items.length ≤ 2400 ∧ (serialOf l).dead.length ≤ 60 := by
  unfold serialOf
  by_cases h : jobsOk l
  · rw [if_pos (tb_true h)]
    have h1 := toldItems_len h l.length (Nat.le_refl _)
    have h2 := toldDead_len l l.length (Nat.le_refl _)
    rw [List.take_length] at h1 h2
    have h3 := h.1
    exact ⟨by show (toldItems l).length ≤ 2400; omega, by show (toldDead l).length ≤ 60; omega⟩
  · rw [if_neg (by rw [tb_false h]; simp)]
    exact ⟨by show ([] : List Int).length ≤ 2400; simp, by show ([] : List CrewDead).length ≤ 60; simp⟩
end Go.Proofs.Ytdingkbggjehoaa
