/-
  What is left in a world of a crew that is ok: the reference. At the beginning a world is ok, and nothing has ended in it: plain. The ways that are open to each of a crew: plain.
-/
import Derived.Test.YtpkjjfnfolbcoaaQCrewW7
set_option linter.unusedVariables false
set_option linter.unusedSimpArgs false
namespace Go.Proofs.Ytpkjjfnfolbcoaa
open Go.ChangeShapes Go.WideShapes Go.ChangeAt Go.RowKit

def CrewWorld.ended (x : CrewWorld) : Prop := x.ok ∧ x.reader = 3 ∧ x.allDone ∧ x.closer = 1 ∧ x.keeper = 5 ∧ x.user = 1
end Go.Proofs.Ytpkjjfnfolbcoaa
set_option linter.unusedVariables false
set_option linter.unusedSimpArgs false
namespace Go.Proofs.Ytpkjjfnfolbcoaa
open Go.ChangeShapes Go.WideShapes Go.ChangeAt Go.RowKit

theorem hands_zero (n : Nat) : ∀ h ∈ List.replicate n (⟨0, 0⟩ : CrewHand), h.state = 0 ∧ h.job = 0 := fun h hh => by
  obtain ⟨_, rfl⟩ := List.mem_replicate.1 hh
  exact ⟨rfl, rfl⟩
theorem handJobs_zero (n : Nat) : handJobs (List.replicate n (⟨0, 0⟩ : CrewHand)) = [] := by
  unfold handJobs
  rw [List.map_eq_nil_iff, List.filter_eq_nil_iff]
  intro h hh
  obtain ⟨h1, _⟩ := hands_zero n h hh
  unfold CrewHand.busy
  rw [h1]
  decide
theorem handsLeft_zero (n : Nat) : handsLeft (List.replicate n (⟨0, 0⟩ : CrewHand)) = (n : Int) := by
  induction n with
  | zero => rfl
  | succ n ih =>
    rw [List.replicate_succ]
    unfold handsLeft
    rw [ih]
    have : (⟨0, 0⟩ : CrewHand).left = 1 := rfl
    rw [this]
    omega
theorem ring_none (n : Nat) : (List.replicate n (-1 : Int)).filter (fun j => decide (0 ≤ j)) = [] := by
  rw [List.filter_eq_nil_iff]
  intro j hj
  obtain ⟨_, rfl⟩ := List.mem_replicate.1 hj
  decide
theorem start_places (a b c : Int) : (crewAt a b c).places = [] := by
  unfold CrewWorld.places CrewWorld.sent crewAt
  simp only [handJobs_zero, ring_none]
  rfl
theorem start_left (a b c : Int) (h : crewOk a b c) : (crewAt a b c).left = 11 * a + b + 6 := by
  obtain ⟨h1, h2, h3⟩ := h
  unfold CrewWorld.left crewAt
  simp only [handsLeft_zero, ringLeft, ring_none]
  have e2 : readLeft 0 = 2 := rfl
  have e3 : keepLeft 0 = 2 := rfl
  rw [e2, e3]
  simp [bitP]
  omega
theorem start_form {a b c : Int} (h : crewOk a b c) : (crewAt a b c).Form := by
  have hh := h
  obtain ⟨h1, h2, h3⟩ := hh
  refine ⟨h, ?_, ?_, ?_, ?_, ?_, ?_, rfl, ?_, ?_, ?_, ?_, ?_, ?_, ?_, ?_, ?_⟩
  · show 0 ≤ (0 : Int) ∧ (0 : Int) ≤ a
    omega
  · show 0 ≤ (0 : Int) ∧ (0 : Int) ≤ 0
    omega
  · show 0 ≤ c ∧ c ≤ c
    omega
  · show 0 ≤ (0 : Int) ∧ (0 : Int) ≤ 10000
    omega
  · show ((List.replicate b.toNat (⟨0, 0⟩ : CrewHand)).length : Int) = b
    rw [List.length_replicate]
    omega
  · show ((List.replicate c.toNat (-1 : Int)).length : Int) = c
    rw [List.length_replicate]
    omega
  · show ((0 : Nat) : Int) ≤ b
    omega
  · show ((0 : Nat) : Int) ≤ b
    omega
  · show 0 ≤ 1
    omega
  · intro n hn
    have : n ∈ ([0, 0, 0, 0] : List Int) := hn
    simp at this
    omega
  · intro y hy
    obtain ⟨e1, e2⟩ := hands_zero _ y hy
    exact ⟨by omega, fun e => absurd e2 e⟩
  · show 0 ≤ (0 : Int) ∧ (0 : Int) ≤ 3
    omega
  · show 0 ≤ (0 : Int) ∧ (0 : Int) ≤ 1
    omega
  · show 0 ≤ (0 : Int) ∧ (0 : Int) ≤ 5
    omega
  · show 0 ≤ (0 : Int) ∧ (0 : Int) ≤ 1
    omega
theorem start_ring (a b c : Int) : ∀ j ∈ (crewAt a b c).ring, j = -1 := fun j hj => (List.mem_replicate.1 hj).2
theorem start_ok {a b c : Int} (h : crewOk a b c) : (crewAt a b c).ok := by
  have hh := h
  obtain ⟨h1, h2, h3⟩ := hh
  have hp := start_places a b c
  refine ⟨start_form h, ⟨?_, ?_, ?_, ?_, ?_, rfl, ?_, ?_⟩, ⟨rfl, rfl, rfl, ?_, ?_, ?_, ?_, ?_, ?_⟩, ⟨?_, ?_⟩, ?_⟩
  · rw [hp]
    intro j hj
    cases hj
  · rw [hp]
    exact List.nodup_nil
  · intro _
    rw [hp]
    rfl
  · intro i hi
    have e := start_ring a b c _ (List.getElem_mem hi)
    rw [e]
    exact ⟨by omega, fun h => absurd h (by omega)⟩
  · intro i hi
    exact absurd hi (Nat.not_lt_zero _)
  · intro j hj
    cases hj
  · show c + 0 - 0 + bitP ((0 : Int) = 3) = c
    have : bitP ((0 : Int) = 3) = 0 := rfl
    rw [this]
    omega
  · intro hc
    exact absurd (show (0 : Int) = 1 from hc) (by omega)
  · intro hc
    exact absurd (show (0 : Int) = 1 from hc) (by omega)
  · intro _ hc
    exact absurd (show 2 ≤ (0 : Int) from hc) (by omega)
  · rintro _ ⟨y, hy, e⟩
    have := (hands_zero _ y hy).1
    omega
  · intro _ hc
    exact absurd (show 4 ≤ (0 : Int) from hc) (by omega)
  · intro _ hc
    exact absurd (show (0 : Int) = 1 from hc) (by omega)
  · intro _ hd
    have hm := start_ring a b c _ (List.mem_of_getElem? hd)
    exact absurd (show (0 : Int) = -1 from hm) (by omega)
  · intro hc
    exact absurd (show (0 : Int) = 2 from hc) (by omega)
  · rw [start_left a b c h]
    show 0 + (11 * a + b + 6) ≤ 11 * a + b + 7
    omega
end Go.Proofs.Ytpkjjfnfolbcoaa
set_option linter.unusedVariables false
set_option linter.unusedSimpArgs false
namespace Go.Proofs.Ytpkjjfnfolbcoaa
open Go.ChangeShapes Go.WideShapes Go.ChangeAt Go.RowKit

def CrewWorld.rd (x : CrewWorld) : List Bool :=
  if x.reader = 0 then (if x.next = x.jobs then [false, false, true] else [decide (0 < x.room), x.sh 3 == 1, false])
  else if x.reader = 1 then [decide ((x.queue.length : Int) < x.workers), x.sh 3 == 1] else if x.reader = 2 then [true] else []
def CrewWorld.hw (x : CrewWorld) (h : CrewHand) : List Bool :=
  if h.state = 0 then [decide (0 < x.queue.length), x.sh 3 == 1, decide (x.queue.length = 0) && (x.sh 0 == 1)]
  else if h.state = 1 then [true] else if h.state = 2 then [decide ((x.results.length : Int) < x.workers), x.sh 3 == 1] else []
def CrewWorld.kw (x : CrewWorld) : List Bool :=
  if x.keeper = 0 then [decide (0 < x.results.length), x.sh 3 == 1, decide (x.results.length = 0) && (x.sh 1 == 1)]
  else if x.keeper = 2 then [decide (x.out.length = 0), x.sh 3 == 1] else if x.keeper = 5 then [] else [true]
noncomputable def CrewWorld.ways (x : CrewWorld) (who : Nat) : List Bool :=
  if who = 0 then x.rd else if (who : Int) ≤ x.workers then x.hw (x.hands[who - 1]?.getD ⟨3, 0⟩)
  else if (who : Int) = x.workers + 1 then [(x.closer == 0) && tb x.allDone] else if (who : Int) = x.workers + 2 then x.kw
  else if x.user = 1 then [] else [decide (0 < x.out.length), decide (x.out.length = 0) && (x.sh 2 == 1)]
def WaysOut (l : List Bool) (w : World) (e : Ending) (w' : World) : Prop :=
  ∃ g, e = .returned (.slice (some ⟨g, 0, none⟩) l.length l.length) ∧ w.heap.size ≤ g ∧ Row w' g 4 (l.map Value.bool) ∧ Below w.heap.size w w'
theorem ways_len (x : CrewWorld) (who : Nat) : (x.ways who).length ≤ 3 := by
  unfold CrewWorld.ways CrewWorld.rd CrewWorld.hw CrewWorld.kw
  repeat' split
  all_goals simp
end Go.Proofs.Ytpkjjfnfolbcoaa
