/-
  When a world of a crew is ok: plain definitions. One hand, one place of the ring set anew: where the jobs are then, and what is left: plain.
-/
import Derived.Test.YtpkjjfnfolbcoaaQStart
set_option linter.unusedVariables false
set_option linter.unusedSimpArgs false
namespace Go.Proofs.Ytpkjjfnfolbcoaa
open Go.ChangeShapes Go.WideShapes Go.ChangeAt Go.RowKit

def CrewHand.fine (h : CrewHand) : Prop := (0 ≤ h.state ∧ h.state ≤ 3) ∧ (h.job ≠ 0 → h.state = 1 ∨ h.state = 2)
def CrewHand.busy (h : CrewHand) : Bool := h.state == 1 || h.state == 2
def handJobs (l : List CrewHand) : List Int := (l.filter CrewHand.busy).map CrewHand.job
/-- all numbers are within their bounds -/
structure CrewWorld.Form (x : CrewWorld) : Prop where
  start : crewOk x.jobs x.workers x.window
  next : 0 ≤ x.next ∧ x.next ≤ x.jobs
  due : 0 ≤ x.due ∧ x.due ≤ x.next
  room : 0 ≤ x.room ∧ x.room ≤ x.window
  ops : 0 ≤ x.ops ∧ x.ops ≤ 10000
  hands : (x.hands.length : Int) = x.workers
  ring : (x.ring.length : Int) = x.window
  shut : x.shut.length = 4
  queue : (x.queue.length : Int) ≤ x.workers
  results : (x.results.length : Int) ≤ x.workers
  out : x.out.length ≤ 1
  shuts : ∀ n ∈ x.shut, 0 ≤ n ∧ n ≤ 1
  fine : ∀ h ∈ x.hands, h.fine
  reader : 0 ≤ x.reader ∧ x.reader ≤ 3
  closer : 0 ≤ x.closer ∧ x.closer ≤ 1
  keeper : 0 ≤ x.keeper ∧ x.keeper ≤ 5
  user : 0 ≤ x.user ∧ x.user ≤ 1
def CrewWorld.sent (x : CrewWorld) : List Int := if x.reader = 1 then [x.next - 1] else []
/-- where jobs are: in the reference's order, in the program's -/
def CrewWorld.places (x : CrewWorld) : List Int := x.sent ++ x.queue ++ handJobs x.hands ++ x.results ++ x.ring.filter (fun j => decide (0 ≤ j))
def CrewWorld.way (x : CrewWorld) : List Int := x.queue ++ x.results ++ x.sent ++ handJobs x.hands ++ x.ring.filter (fun j => decide (j ≠ -1))
def CrewWorld.sh (x : CrewWorld) (i : Nat) : Int := x.shut[i]?.getD 0
def bitP (p : Prop) [Decidable p] : Int := if p then 1 else 0
/-- jobs are where they must be: the reference -/
structure CrewWorld.Placed (x : CrewWorld) : Prop where
  within : ∀ j ∈ x.places, x.due ≤ j ∧ j ≤ x.next - 1
  once : x.places.Nodup
  all : x.sh 3 = 0 → (x.places.length : Int) = x.next - x.due
  ring : ∀ i (h : i < x.ring.length), -1 ≤ x.ring[i] ∧ (0 ≤ x.ring[i] → x.ring[i] % x.window = (i : Int))
  got : ∀ i (h : i < x.got.length), x.got[i] = (i : Int)
  due : x.due = (x.got.length : Int) + (x.out.length : Int)
  out : ∀ j ∈ x.out, j = (x.got.length : Int)
  room : x.room + x.next - x.due + bitP (x.keeper = 3) = x.window
/-- the program -/
structure CrewWorld.Laid (x : CrewWorld) : Prop where
  within : ∀ j ∈ x.way, x.due ≤ j ∧ j ≤ x.next - 1
  once : x.way.Nodup
  all : x.sh 3 ≠ 1 → (x.way.length : Int) = x.next - x.due
  ring : ∀ i (h : i < x.ring.length), x.ring[i] ≠ -1 → x.ring[i] % x.window = (i : Int)
  got : ∀ i (h : i < x.got.length), x.got[i] = (i : Int)
  due : x.due = (x.got.length : Int) + (x.out.length : Int)
  out : ∀ j ∈ x.out, j = (x.got.length : Int)
  room : x.room + x.next - x.due + bitP (x.keeper = 3) = x.window
theorem sh_bit {x : CrewWorld} (h : x.Form) (i : Nat) (hi : i < 4) : 0 ≤ x.sh i ∧ x.sh i ≤ 1 := by
  have hl : i < x.shut.length := by rw [h.shut]; exact hi
  have := h.shuts x.shut[i] (List.getElem_mem hl)
  unfold CrewWorld.sh
  rw [List.getElem?_eq_getElem hl]
  exact this
/-- with the jobs laid, what was got is not more than there is -/
theorem laid_got {x : CrewWorld} (h : x.Form) (p : x.Placed) : (x.got.length : Int) ≤ x.jobs := by
  have h1 := p.due
  have h2 := h.due
  have h3 := h.next
  omega
def CrewWorld.allDone (x : CrewWorld) : Prop := ∀ h ∈ x.hands, h.state = 3
def CrewWorld.oneDone (x : CrewWorld) : Prop := ∃ h ∈ x.hands, h.state = 3
def CrewWorld.dueIn (x : CrewWorld) : Prop := x.ring[(x.due % x.window).toNat]? = some x.due
/-- those have ended who may have -/
structure CrewWorld.Ends (x : CrewWorld) : Prop where
  queue : x.sh 0 = bitP (x.reader = 3)
  results : x.sh 1 = bitP (x.closer = 1)
  outs : x.sh 2 = bitP (x.keeper = 5)
  closed : x.closer = 1 → x.allDone
  stop : x.sh 3 = 1 → x.user = 1
  read : x.sh 3 ≠ 1 → 2 ≤ x.reader → x.next = x.jobs
  work : x.sh 3 ≠ 1 → x.oneDone → x.reader = 3 ∧ x.queue.length = 0
  keep : x.sh 3 ≠ 1 → 4 ≤ x.keeper → x.closer = 1 ∧ x.results.length = 0
  use : x.sh 3 ≠ 1 → x.user = 1 → x.keeper = 5 ∧ x.out.length = 0
def CrewWorld.Kept (x : CrewWorld) : Prop := (x.keeper = 0 → ¬ x.dueIn) ∧ (x.keeper = 2 → x.dueIn)
def readLeft (r : Int) : Int := if r = 0 then 2 else if r = 1 then 12 else if r = 2 then 1 else 0
def keepLeft (r : Int) : Int := if r = 0 then 2 else if r = 1 then 3 else if r = 2 then 2 else if r = 3 then 4 else if r = 4 then 1 else 0
def CrewHand.left (h : CrewHand) : Int := if h.state = 0 then 1 else if h.state = 1 then 9 else if h.state = 2 then 8 else 0
def handsLeft : List CrewHand → Int
  | [] => 0
  | h :: l => h.left + handsLeft l
def ringLeft (l : List Int) : Int := 4 * ((l.filter (fun j => decide (0 ≤ j))).length : Int)
def CrewWorld.left (x : CrewWorld) : Int :=
  11 * (x.jobs - x.next) + 9 * (x.queue.length : Int) + 6 * (x.results.length : Int) + (x.out.length : Int) + readLeft x.reader + handsLeft x.hands + ringLeft x.ring + bitP (x.closer = 0) + keepLeft x.keeper + bitP (x.user = 0)
structure CrewWorld.ok (x : CrewWorld) : Prop where
  form : x.Form
  placed : x.Placed
  ends : x.Ends
  kept : x.Kept
  few : x.ops + x.left ≤ 11 * x.jobs + x.workers + 7
theorem handsLeft_snoc (l : List CrewHand) (k : Nat) (h : k < l.length) : handsLeft (l.take (k + 1)) = handsLeft (l.take k) + l[k].left := by
  rw [List.take_succ_eq_append_getElem h]
  generalize l.take k = a
  induction a with
  | nil => simp [handsLeft]
  | cons x a ih => simp only [List.cons_append, handsLeft, ih]; omega
theorem hand_left (h : CrewHand) : 0 ≤ h.left ∧ h.left ≤ 9 := by
  unfold CrewHand.left
  repeat' split
  all_goals omega
theorem handsLeft_le : ∀ (l : List CrewHand), 0 ≤ handsLeft l ∧ handsLeft l ≤ 9 * (l.length : Int)
  | [] => by simp [handsLeft]
  | h :: l => by
    have h1 := hand_left h
    have h2 := handsLeft_le l
    simp only [handsLeft, List.length_cons]
    omega
theorem filter_snoc {α : Type} (p : α → Bool) (l : List α) (k : Nat) (h : k < l.length) : (l.take (k + 1)).filter p = (l.take k).filter p ++ (if p l[k] = true then [l[k]] else []) := by
  rw [List.take_succ_eq_append_getElem h, List.filter_append]
  congr 1
  by_cases hp : p l[k] = true
  · simp [hp]
  · simp [hp]
theorem handJobs_snoc (l : List CrewHand) (k : Nat) (h : k < l.length) : handJobs (l.take (k + 1)) = handJobs (l.take k) ++ (if l[k].busy = true then [l[k].job] else []) := by
  unfold handJobs
  rw [filter_snoc _ l k h, List.map_append]
  congr 1
  by_cases hp : l[k].busy = true
  · simp [hp]
  · simp [hp]
theorem handJobs_len (l : List CrewHand) : (handJobs l).length ≤ l.length := by
  unfold handJobs
  rw [List.length_map]
  exact List.length_filter_le _ _
theorem ringLeft_le (l : List Int) : 0 ≤ ringLeft l ∧ ringLeft l ≤ 4 * (l.length : Int) := by
  unfold ringLeft
  have := List.length_filter_le (fun j => decide (0 ≤ j)) l
  omega
theorem ringLeft_snoc (l : List Int) (k : Nat) (h : k < l.length) : ringLeft (l.take (k + 1)) = ringLeft (l.take k) + (if 0 ≤ l[k] then 4 else 0) := by
  unfold ringLeft
  rw [filter_snoc _ l k h]
  by_cases hp : 0 ≤ l[k]
  · simp [hp]; omega
  · simp [hp]
end Go.Proofs.Ytpkjjfnfolbcoaa
set_option linter.unusedVariables false
set_option linter.unusedSimpArgs false
namespace Go.Proofs.Ytpkjjfnfolbcoaa
open Go.ChangeShapes Go.WideShapes Go.ChangeAt Go.RowKit

theorem set_parts {α : Type} (l : List α) (i : Nat) (h : i < l.length) (v : α) : l.set i v = l.take i ++ v :: l.drop (i + 1) ∧ l = l.take i ++ l[i] :: l.drop (i + 1) := by
  refine ⟨?_, ?_⟩
  · rw [List.set_eq_take_append_cons_drop, if_pos h]
  · have e := List.set_eq_take_append_cons_drop (l := l) (i := i) (a := l[i])
    rw [if_pos h, List.set_getElem_self] at e
    exact e
theorem handJobs_append (a b : List CrewHand) : handJobs (a ++ b) = handJobs a ++ handJobs b := by unfold handJobs; rw [List.filter_append, List.map_append]
theorem handJobs_cons (y : CrewHand) (l : List CrewHand) : handJobs (y :: l) = (if y.busy = true then [y.job] else []) ++ handJobs l := by
  unfold handJobs
  by_cases h : y.busy = true
  · simp [h]
  · simp [h]
theorem handsLeft_append (a b : List CrewHand) : handsLeft (a ++ b) = handsLeft a + handsLeft b := by
  induction a with
  | nil => simp [handsLeft]
  | cons x a ih => simp only [List.cons_append, handsLeft, ih]; omega
theorem handJobs_set (l : List CrewHand) (i : Nat) (h : i < l.length) (v : CrewHand) : ∃ rest, (handJobs l).Perm ((if l[i].busy = true then [l[i].job] else []) ++ rest) ∧ (handJobs (l.set i v)).Perm ((if v.busy = true then [v.job] else []) ++ rest) := by
  obtain ⟨h1, h2⟩ := set_parts l i h v
  refine ⟨handJobs (l.take i) ++ handJobs (l.drop (i + 1)), ?_, ?_⟩
  · have e : handJobs l = handJobs (l.take i) ++ ((if l[i].busy = true then [l[i].job] else []) ++ handJobs (l.drop (i + 1))) := by
      rw [← handJobs_cons, ← handJobs_append, ← h2]
    rw [e]
    exact List.perm_append_comm_assoc _ _ _
  · rw [h1, handJobs_append, handJobs_cons]
    exact List.perm_append_comm_assoc _ _ _
theorem handsLeft_set (l : List CrewHand) (i : Nat) (h : i < l.length) (v : CrewHand) : handsLeft (l.set i v) = handsLeft l - l[i].left + v.left := by
  obtain ⟨h1, h2⟩ := set_parts l i h v
  have e : handsLeft l = handsLeft (l.take i) + (l[i].left + handsLeft (l.drop (i + 1))) := by
    have : handsLeft (l[i] :: l.drop (i + 1)) = l[i].left + handsLeft (l.drop (i + 1)) := rfl
    rw [← this, ← handsLeft_append, ← h2]
  rw [h1, handsLeft_append]
  have : handsLeft (v :: l.drop (i + 1)) = v.left + handsLeft (l.drop (i + 1)) := rfl
  rw [this, e]
  omega
def jobsIn (l : List Int) : List Int := l.filter fun j => decide (0 ≤ j)
theorem jobsIn_append (a b : List Int) : jobsIn (a ++ b) = jobsIn a ++ jobsIn b := by unfold jobsIn; rw [List.filter_append]
theorem jobsIn_cons (y : Int) (l : List Int) : jobsIn (y :: l) = (if 0 ≤ y then [y] else []) ++ jobsIn l := by
  unfold jobsIn
  by_cases h : 0 ≤ y
  · simp [h]
  · simp [h]
theorem ring_set (l : List Int) (i : Nat) (h : i < l.length) (v : Int) : ∃ rest, (jobsIn l).Perm ((if 0 ≤ l[i] then [l[i]] else []) ++ rest) ∧ (jobsIn (l.set i v)).Perm ((if 0 ≤ v then [v] else []) ++ rest) := by
  obtain ⟨h1, h2⟩ := set_parts l i h v
  refine ⟨jobsIn (l.take i) ++ jobsIn (l.drop (i + 1)), ?_, ?_⟩
  · have e : jobsIn l = jobsIn (l.take i) ++ ((if 0 ≤ l[i] then [l[i]] else []) ++ jobsIn (l.drop (i + 1))) := by
      rw [← jobsIn_cons, ← jobsIn_append, ← h2]
    rw [e]
    exact List.perm_append_comm_assoc _ _ _
  · rw [h1, jobsIn_append, jobsIn_cons]
    exact List.perm_append_comm_assoc _ _ _
theorem ringLeft_eq (l : List Int) : ringLeft l = 4 * ((jobsIn l).length : Int) := rfl
theorem ringLeft_set (l : List Int) (i : Nat) (h : i < l.length) (v : Int) : ringLeft (l.set i v) = ringLeft l - (if 0 ≤ l[i] then 4 else 0) + (if 0 ≤ v then 4 else 0) := by
  obtain ⟨rest, h1, h2⟩ := ring_set l i h v
  have e1 := h1.length_eq
  have e2 := h2.length_eq
  rw [List.length_append] at e1 e2
  rw [ringLeft_eq, ringLeft_eq]
  split at e1 <;> split at e2 <;> simp_all <;> omega
end Go.Proofs.Ytpkjjfnfolbcoaa
