/-
  When a world of a crew is ok: plain definitions.
-/
import Derived.Test.YtpkjjfnfolbcoaaStart
set_option linter.unusedVariables false
set_option linter.unusedSimpArgs false
namespace Go.Proofs.Ytpkjjfnfolbcoaa
open Go.ChangeShapes Go.WideShapes Go.ChangeAt Go.RowKit

def CrewHand.fine (h : CrewHand) : Prop := (0 ≤ h.state ∧ h.state ≤ 3) ∧ (h.job ≠ 0 → h.state = 1 ∨ h.state = 2)
def CrewHand.busy (h : CrewHand) : Bool := h.state == 1 || h.state == 2
def handJobs (l : List CrewHand) : List Int := (l.filter CrewHand.busy).map CrewHand.job
/-- all numbers are within their bounds -/
structure CrewWorld.Form (x : CrewWorld) : Prop where
  start : crewOk x.jobs x.workers x.window
  next : 0 ≤ x.next ∧ x.next ≤ x.jobs
  due : 0 ≤ x.due ∧ x.due ≤ x.next
  room : 0 ≤ x.room ∧ x.room ≤ x.window
  ops : 0 ≤ x.ops ∧ x.ops ≤ 10000
  hands : (x.hands.length : Int) = x.workers
  ring : (x.ring.length : Int) = x.window
  shut : x.shut.length = 4
  queue : (x.queue.length : Int) ≤ x.workers
  results : (x.results.length : Int) ≤ x.workers
  out : x.out.length ≤ 1
  shuts : ∀ n ∈ x.shut, 0 ≤ n ∧ n ≤ 1
  fine : ∀ h ∈ x.hands, h.fine
  reader : 0 ≤ x.reader ∧ x.reader ≤ 3
  closer : 0 ≤ x.closer ∧ x.closer ≤ 1
  keeper : 0 ≤ x.keeper ∧ x.keeper ≤ 5
  user : 0 ≤ x.user ∧ x.user ≤ 1
def CrewWorld.sent (x : CrewWorld) : List Int := if x.reader = 1 then [x.next - 1] else []
/-- where jobs are: in the reference's order, in the program's -/
def CrewWorld.places (x : CrewWorld) : List Int := x.sent ++ x.queue ++ handJobs x.hands ++ x.results ++ x.ring.filter (fun j => decide (0 ≤ j))
def CrewWorld.way (x : CrewWorld) : List Int := x.queue ++ x.results ++ x.sent ++ handJobs x.hands ++ x.ring.filter (fun j => decide (j ≠ -1))
def CrewWorld.sh (x : CrewWorld) (i : Nat) : Int := x.shut[i]?.getD 0
def bitP (p : Prop) [Decidable p] : Int := if p then 1 else 0
/-- jobs are where they must be: the reference -/
structure CrewWorld.Placed (x : CrewWorld) : Prop where
  within : ∀ j ∈ x.places, x.due ≤ j ∧ j ≤ x.next - 1
  once : x.places.Nodup
  all : x.sh 3 = 0 → (x.places.length : Int) = x.next - x.due
  ring : ∀ i (h : i < x.ring.length), -1 ≤ x.ring[i] ∧ (0 ≤ x.ring[i] → x.ring[i] % x.window = (i : Int))
  got : ∀ i (h : i < x.got.length), x.got[i] = (i : Int)
  due : x.due = (x.got.length : Int) + (x.out.length : Int)
  out : ∀ j ∈ x.out, j = (x.got.length : Int)
  room : x.room + x.next - x.due + bitP (x.keeper = 3) = x.window
/-- the program -/
structure CrewWorld.Laid (x : CrewWorld) : Prop where
  within : ∀ j ∈ x.way, x.due ≤ j ∧ j ≤ x.next - 1
  once : x.way.Nodup
  all : x.sh 3 ≠ 1 → (x.way.length : Int) = x.next - x.due
  ring : ∀ i (h : i < x.ring.length), x.ring[i] ≠ -1 → x.ring[i] % x.window = (i : Int)
  got : ∀ i (h : i < x.got.length), x.got[i] = (i : Int)
  due : x.due = (x.got.length : Int) + (x.out.length : Int)
  out : ∀ j ∈ x.out, j = (x.got.length : Int)
  room : x.room + x.next - x.due + bitP (x.keeper = 3) = x.window
theorem filter_same (l : List Int) (h : ∀ j ∈ l, -1 ≤ j) : l.filter (fun j => decide (0 ≤ j)) = l.filter (fun j => decide (j ≠ -1)) := by
  apply List.filter_congr
  intro j hj
  have := h j hj
  simp only [decide_eq_decide]
  omega
theorem perm5 {α : Type} (s q h r g : List α) : (s ++ q ++ h ++ r ++ g).Perm (q ++ r ++ s ++ h ++ g) := by
  refine List.Perm.append_right g ?_
  have h1 : (s ++ q ++ h ++ r).Perm (q ++ s ++ h ++ r) := List.Perm.append_right r (List.Perm.append_right h List.perm_append_comm)
  have h2 : (q ++ s ++ h ++ r).Perm (q ++ r ++ s ++ h) := by
    simp only [List.append_assoc]
    refine List.Perm.append_left q ?_
    have h3 : (s ++ h ++ r).Perm (r ++ (s ++ h)) := List.perm_append_comm
    simpa only [List.append_assoc] using h3
  exact h1.trans h2
theorem way_perm (x : CrewWorld) (h : ∀ j ∈ x.ring, -1 ≤ j) : x.places.Perm x.way := by
  unfold CrewWorld.places CrewWorld.way
  rw [filter_same _ h]
  exact perm5 _ _ _ _ _
theorem sh_bit {x : CrewWorld} (h : x.Form) (i : Nat) (hi : i < 4) : 0 ≤ x.sh i ∧ x.sh i ≤ 1 := by
  have hl : i < x.shut.length := by rw [h.shut]; exact hi
  have := h.shuts x.shut[i] (List.getElem_mem hl)
  unfold CrewWorld.sh
  rw [List.getElem?_eq_getElem hl]
  exact this
theorem laid_iff {x : CrewWorld} (h : x.Form) : x.Placed ↔ x.Laid := by
  have hb := sh_bit h 3 (by omega)
  constructor
  · intro p
    have hr : ∀ j ∈ x.ring, -1 ≤ j := fun j hj => by
      obtain ⟨i, hi, rfl⟩ := List.getElem_of_mem hj
      exact (p.ring i hi).1
    have hp := way_perm x hr
    exact ⟨fun j hj => p.within j (hp.mem_iff.2 hj), hp.nodup_iff.1 p.once, fun h3 => by rw [← hp.length_eq]; exact p.all (by omega), fun i hi hn => (p.ring i hi).2 (by have := (p.ring i hi).1; omega), p.got, p.due, p.out, p.room⟩
  · intro p
    have hr : ∀ j ∈ x.ring, -1 ≤ j := fun j hj => by
      by_cases e : j = -1
      · omega
      · have := p.within j (by unfold CrewWorld.way; simp [hj, e])
        have := h.due
        omega
    have hp := way_perm x hr
    refine ⟨fun j hj => p.within j (hp.mem_iff.1 hj), hp.nodup_iff.2 p.once, fun h3 => by rw [hp.length_eq]; exact p.all (by omega), fun i hi => ⟨hr _ (List.getElem_mem hi), fun h0 => p.ring i hi (by omega)⟩, p.got, p.due, p.out, p.room⟩
/-- with the jobs laid, what was got is not more than there is -/
theorem laid_got {x : CrewWorld} (h : x.Form) (p : x.Placed) : (x.got.length : Int) ≤ x.jobs := by
  have h1 := p.due
  have h2 := h.due
  have h3 := h.next
  omega
def CrewWorld.allDone (x : CrewWorld) : Prop := ∀ h ∈ x.hands, h.state = 3
def CrewWorld.oneDone (x : CrewWorld) : Prop := ∃ h ∈ x.hands, h.state = 3
def CrewWorld.dueIn (x : CrewWorld) : Prop := x.ring[(x.due % x.window).toNat]? = some x.due
/-- those have ended who may have -/
structure CrewWorld.Ends (x : CrewWorld) : Prop where
  queue : x.sh 0 = bitP (x.reader = 3)
  results : x.sh 1 = bitP (x.closer = 1)
  outs : x.sh 2 = bitP (x.keeper = 5)
  closed : x.closer = 1 → x.allDone
  stop : x.sh 3 = 1 → x.user = 1
  read : x.sh 3 ≠ 1 → 2 ≤ x.reader → x.next = x.jobs
  work : x.sh 3 ≠ 1 → x.oneDone → x.reader = 3 ∧ x.queue.length = 0
  keep : x.sh 3 ≠ 1 → 4 ≤ x.keeper → x.closer = 1 ∧ x.results.length = 0
  use : x.sh 3 ≠ 1 → x.user = 1 → x.keeper = 5 ∧ x.out.length = 0
def CrewWorld.Kept (x : CrewWorld) : Prop := (x.keeper = 0 → ¬ x.dueIn) ∧ (x.keeper = 2 → x.dueIn)
def readLeft (r : Int) : Int := if r = 0 then 2 else if r = 1 then 12 else if r = 2 then 1 else 0
def keepLeft (r : Int) : Int := if r = 0 then 2 else if r = 1 then 3 else if r = 2 then 2 else if r = 3 then 4 else if r = 4 then 1 else 0
def CrewHand.left (h : CrewHand) : Int := if h.state = 0 then 1 else if h.state = 1 then 9 else if h.state = 2 then 8 else 0
def handsLeft : List CrewHand → Int
  | [] => 0
  | h :: l => h.left + handsLeft l
def ringLeft (l : List Int) : Int := 4 * ((l.filter (fun j => decide (0 ≤ j))).length : Int)
def CrewWorld.left (x : CrewWorld) : Int :=
  11 * (x.jobs - x.next) + 9 * (x.queue.length : Int) + 6 * (x.results.length : Int) + (x.out.length : Int) + readLeft x.reader + handsLeft x.hands + ringLeft x.ring + bitP (x.closer = 0) + keepLeft x.keeper + bitP (x.user = 0)
structure CrewWorld.ok (x : CrewWorld) : Prop where
  form : x.Form
  placed : x.Placed
  ends : x.Ends
  kept : x.Kept
  few : x.ops + x.left ≤ 11 * x.jobs + x.workers + 7
theorem handsLeft_snoc (l : List CrewHand) (k : Nat) (h : k < l.length) : handsLeft (l.take (k + 1)) = handsLeft (l.take k) + l[k].left := by
  rw [List.take_succ_eq_append_getElem h]
  generalize l.take k = a
  induction a with
  | nil => simp [handsLeft]
  | cons x a ih => simp only [List.cons_append, handsLeft, ih]; omega
theorem hand_left (h : CrewHand) : 0 ≤ h.left ∧ h.left ≤ 9 := by
  unfold CrewHand.left
  repeat' split
  all_goals omega
theorem handsLeft_le : ∀ (l : List CrewHand), 0 ≤ handsLeft l ∧ handsLeft l ≤ 9 * (l.length : Int)
  | [] => by simp [handsLeft]
  | h :: l => by
    have h1 := hand_left h
    have h2 := handsLeft_le l
    simp only [handsLeft, List.length_cons]
    omega
theorem filter_snoc {α : Type} (p : α → Bool) (l : List α) (k : Nat) (h : k < l.length) : (l.take (k + 1)).filter p = (l.take k).filter p ++ (if p l[k] = true then [l[k]] else []) := by
  rw [List.take_succ_eq_append_getElem h, List.filter_append]
  congr 1
  by_cases hp : p l[k] = true
  · simp [hp]
  · simp [hp]
theorem handJobs_snoc (l : List CrewHand) (k : Nat) (h : k < l.length) : handJobs (l.take (k + 1)) = handJobs (l.take k) ++ (if l[k].busy = true then [l[k].job] else []) := by
  unfold handJobs
  rw [filter_snoc _ l k h, List.map_append]
  congr 1
  by_cases hp : l[k].busy = true
  · simp [hp]
  · simp [hp]
theorem handJobs_len (l : List CrewHand) : (handJobs l).length ≤ l.length := by
  unfold handJobs
  rw [List.length_map]
  exact List.length_filter_le _ _
theorem ringLeft_le (l : List Int) : 0 ≤ ringLeft l ∧ ringLeft l ≤ 4 * (l.length : Int) := by
  unfold ringLeft
  have := List.length_filter_le (fun j => decide (0 ≤ j)) l
  omega
theorem ringLeft_snoc (l : List Int) (k : Nat) (h : k < l.length) : ringLeft (l.take (k + 1)) = ringLeft (l.take k) + (if 0 ≤ l[k] then 4 else 0) := by
  unfold ringLeft
  rw [filter_snoc _ l k h]
  by_cases hp : 0 ≤ l[k]
  · simp [hp]; omega
  · simp [hp]
end Go.Proofs.Ytpkjjfnfolbcoaa
