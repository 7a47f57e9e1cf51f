/-
  At the beginning a world is ok, and nothing has ended in it: plain.
-/
import Derived.Test.YtpkjjfnfolbcoaaCrewI8
set_option linter.unusedVariables false
set_option linter.unusedSimpArgs false
namespace Go.Proofs.Ytpkjjfnfolbcoaa
open Go.ChangeShapes Go.WideShapes Go.ChangeAt Go.RowKit

theorem hands_zero (n : Nat) : ∀ h ∈ List.replicate n (⟨0, 0⟩ : CrewHand), h.state = 0 ∧ h.job = 0 := fun h hh => by
  obtain ⟨_, rfl⟩ := List.mem_replicate.1 hh
  exact ⟨rfl, rfl⟩
theorem handJobs_zero (n : Nat) : handJobs (List.replicate n (⟨0, 0⟩ : CrewHand)) = [] := by
  unfold handJobs
  rw [List.map_eq_nil_iff, List.filter_eq_nil_iff]
  intro h hh
  obtain ⟨h1, _⟩ := hands_zero n h hh
  unfold CrewHand.busy
  rw [h1]
  decide
theorem handsLeft_zero (n : Nat) : handsLeft (List.replicate n (⟨0, 0⟩ : CrewHand)) = (n : Int) := by
  induction n with
  | zero => rfl
  | succ n ih =>
    rw [List.replicate_succ]
    unfold handsLeft
    rw [ih]
    have : (⟨0, 0⟩ : CrewHand).left = 1 := rfl
    rw [this]
    omega
theorem ring_none (n : Nat) : (List.replicate n (-1 : Int)).filter (fun j => decide (0 ≤ j)) = [] := by
  rw [List.filter_eq_nil_iff]
  intro j hj
  obtain ⟨_, rfl⟩ := List.mem_replicate.1 hj
  decide
theorem start_places (a b c : Int) : (crewAt a b c).places = [] := by
  unfold CrewWorld.places CrewWorld.sent crewAt
  simp only [handJobs_zero, ring_none]
  rfl
theorem start_left (a b c : Int) (h : crewOk a b c) : (crewAt a b c).left = 11 * a + b + 6 := by
  obtain ⟨h1, h2, h3⟩ := h
  unfold CrewWorld.left crewAt
  simp only [handsLeft_zero, ringLeft, ring_none]
  have e2 : readLeft 0 = 2 := rfl
  have e3 : keepLeft 0 = 2 := rfl
  rw [e2, e3]
  simp [bitP]
  omega
theorem start_form {a b c : Int} (h : crewOk a b c) : (crewAt a b c).Form := by
  have hh := h
  obtain ⟨h1, h2, h3⟩ := hh
  refine ⟨h, ?_, ?_, ?_, ?_, ?_, ?_, rfl, ?_, ?_, ?_, ?_, ?_, ?_, ?_, ?_, ?_⟩
  · show 0 ≤ (0 : Int) ∧ (0 : Int) ≤ a
    omega
  · show 0 ≤ (0 : Int) ∧ (0 : Int) ≤ 0
    omega
  · show 0 ≤ c ∧ c ≤ c
    omega
  · show 0 ≤ (0 : Int) ∧ (0 : Int) ≤ 10000
    omega
  · show ((List.replicate b.toNat (⟨0, 0⟩ : CrewHand)).length : Int) = b
    rw [List.length_replicate]
    omega
  · show ((List.replicate c.toNat (-1 : Int)).length : Int) = c
    rw [List.length_replicate]
    omega
  · show ((0 : Nat) : Int) ≤ b
    omega
  · show ((0 : Nat) : Int) ≤ b
    omega
  · show 0 ≤ 1
    omega
  · intro n hn
    have : n ∈ ([0, 0, 0, 0] : List Int) := hn
    simp at this
    omega
  · intro y hy
    obtain ⟨e1, e2⟩ := hands_zero _ y hy
    exact ⟨by omega, fun e => absurd e2 e⟩
  · show 0 ≤ (0 : Int) ∧ (0 : Int) ≤ 3
    omega
  · show 0 ≤ (0 : Int) ∧ (0 : Int) ≤ 1
    omega
  · show 0 ≤ (0 : Int) ∧ (0 : Int) ≤ 5
    omega
  · show 0 ≤ (0 : Int) ∧ (0 : Int) ≤ 1
    omega
theorem start_ring (a b c : Int) : ∀ j ∈ (crewAt a b c).ring, j = -1 := fun j hj => (List.mem_replicate.1 hj).2
theorem start_ok {a b c : Int} (h : crewOk a b c) : (crewAt a b c).ok := by
  have hh := h
  obtain ⟨h1, h2, h3⟩ := hh
  have hp := start_places a b c
  refine ⟨start_form h, ⟨?_, ?_, ?_, ?_, ?_, rfl, ?_, ?_⟩, ⟨rfl, rfl, rfl, ?_, ?_, ?_, ?_, ?_, ?_⟩, ⟨?_, ?_⟩, ?_⟩
  · rw [hp]
    intro j hj
    cases hj
  · rw [hp]
    exact List.nodup_nil
  · intro _
    rw [hp]
    rfl
  · intro i hi
    have e := start_ring a b c _ (List.getElem_mem hi)
    rw [e]
    exact ⟨by omega, fun h => absurd h (by omega)⟩
  · intro i hi
    exact absurd hi (Nat.not_lt_zero _)
  · intro j hj
    cases hj
  · show c + 0 - 0 + bitP ((0 : Int) = 3) = c
    have : bitP ((0 : Int) = 3) = 0 := rfl
    rw [this]
    omega
  · intro hc
    exact absurd (show (0 : Int) = 1 from hc) (by omega)
  · intro hc
    exact absurd (show (0 : Int) = 1 from hc) (by omega)
  · intro _ hc
    exact absurd (show 2 ≤ (0 : Int) from hc) (by omega)
  · rintro _ ⟨y, hy, e⟩
    have := (hands_zero _ y hy).1
    omega
  · intro _ hc
    exact absurd (show 4 ≤ (0 : Int) from hc) (by omega)
  · intro _ hc
    exact absurd (show (0 : Int) = 1 from hc) (by omega)
  · intro _ hd
    have hm := start_ring a b c _ (List.mem_of_getElem? hd)
    exact absurd (show (0 : Int) = -1 from hm) (by omega)
  · intro hc
    exact absurd (show (0 : Int) = 2 from hc) (by omega)
  · rw [start_left a b c h]
    show 0 + (11 * a + b + 6) ≤ 11 * a + b + 7
    omega
theorem start_ended (a b c : Int) : ¬ (crewAt a b c).ended := fun h => absurd (show (0 : Int) = 3 from h.2.1) (by omega)
theorem none_ok : ¬ CrewWorld.none_.ok := fun h => by
  have := h.form.start.2.1
  exact absurd (show (1 : Int) ≤ 0 from this.1) (by omega)
theorem start_leftOf {a b c : Int} (h : crewOk a b c) : (crewAt a b c).leftOf = 11 * a + b + 6 := by
  unfold CrewWorld.leftOf
  rw [if_pos (tb_true (start_ok h)), start_left a b c h]
end Go.Proofs.Ytpkjjfnfolbcoaa
