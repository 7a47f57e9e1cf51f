/-
  What a move makes of a world of a crew: plain. The moves of the reader keep a world ok: plain. The ends of the reader, the closer, the keeper and the user keep a world ok: plain. More moves of the keeper and of the user keep a world ok: plain. The moves of the hands keep a world ok: plain. The keeper puts a job into the ring, and takes one out: a world stays ok: plain. The keeper gives the job that is due: a world stays ok: plain. An open way, done: a world stays ok, and less is left: plain. A step of a crew: the world stays ok, and less is left: plain.
-/
import Derived.Test.YtpkjjfnfolbcoaaQPlayM0
import Derived.Test.YtpkjjfnfolbcoaaQCrewW7
import Derived.Test.YtpkjjfnfolbcoaaQWays
set_option linter.unusedVariables false
set_option linter.unusedSimpArgs false
namespace Go.Proofs.Ytpkjjfnfolbcoaa
open Go.ChangeShapes Go.WideShapes Go.ChangeAt Go.RowKit

def CrewWorld.doReader (x : CrewWorld) (k : Int) : CrewWorld :=
  if x.reader = 2 then { x with reader := 3, shut := x.shut.set 0 1, ops := x.ops + 1 }
  else if 0 < k then { x with reader := 2 }
  else if x.reader = 0 then { x with room := x.room - 1, next := x.next + 1, reader := 1, ops := x.ops + 1 }
  else { x with queue := x.queue ++ [x.next - 1], reader := 0, ops := x.ops + 1 }
/-- the reader takes room: a job is read -/
theorem ok_r01 {x : CrewWorld} (h : x.ok) (hr : x.reader = 0) (hn : x.next ≠ x.jobs) (hm : 0 < x.room) : ({ x with room := x.room - 1, next := x.next + 1, reader := 1, ops := x.ops + 1 } : CrewWorld).ok ∧ ({ x with room := x.room - 1, next := x.next + 1, reader := 1, ops := x.ops + 1 } : CrewWorld).left = x.left - 1 := by
  have hnx := h.form.next
  have hdu := h.form.due
  have hrm := h.form.room
  have hop := h.form.ops
  have hjj := h.form.start.1
  have hww := h.form.start.2.1
  have hpl : ({ x with room := x.room - 1, next := x.next + 1, reader := 1, ops := x.ops + 1 } : CrewWorld).places = x.next :: x.places := by
    unfold CrewWorld.places CrewWorld.sent
    rw [if_pos rfl, if_neg (show ¬ x.reader = 1 by omega)]
    simp
  have hlf : ({ x with room := x.room - 1, next := x.next + 1, reader := 1, ops := x.ops + 1 } : CrewWorld).left = x.left - 1 := by
    unfold CrewWorld.left
    have e1 : readLeft x.reader = 2 := by rw [hr]; rfl
    have e2 : readLeft 1 = 12 := rfl
    simp only [e1, e2]
    omega
  have hl0 := left_le h.form
  have hew := h.few
  refine ⟨⟨⟨h.form.start, ?_, ?_, ?_, ?_, h.form.hands, h.form.ring, h.form.shut, h.form.queue, h.form.results, h.form.out, h.form.shuts, h.form.fine, ?_, h.form.closer, h.form.keeper, h.form.user⟩, ⟨?_, ?_, ?_, h.placed.ring, h.placed.got, h.placed.due, h.placed.out, ?_⟩, ⟨?_, h.ends.results, h.ends.outs, h.ends.closed, h.ends.stop, ?_, ?_, h.ends.keep, h.ends.use⟩, h.kept, ?_⟩, hlf⟩
  · show 0 ≤ x.next + 1 ∧ x.next + 1 ≤ x.jobs
    omega
  · show 0 ≤ x.due ∧ x.due ≤ x.next + 1
    omega
  · show 0 ≤ x.room - 1 ∧ x.room - 1 ≤ x.window
    omega
  · show 0 ≤ x.ops + 1 ∧ x.ops + 1 ≤ 10000
    have hx : 11 ≤ x.left := by
      unfold CrewWorld.left
      have a1 := readLeft_le x.reader
      have a2 := keepLeft_le x.keeper
      have a3 := handsLeft_le x.hands
      have a4 := ringLeft_le x.ring
      have a5 : 0 ≤ bitP (x.closer = 0) ∧ bitP (x.closer = 0) ≤ 1 := by unfold bitP; split <;> omega
      have a6 : 0 ≤ bitP (x.user = 0) ∧ bitP (x.user = 0) ≤ 1 := by unfold bitP; split <;> omega
      omega
    omega
  · show 0 ≤ (1 : Int) ∧ (1 : Int) ≤ 3
    omega
  · rw [hpl]
    intro j hj
    show x.due ≤ j ∧ j ≤ x.next + 1 - 1
    rcases List.mem_cons.1 hj with rfl | hj
    · omega
    · have := h.placed.within j hj
      omega
  · rw [hpl]
    refine List.nodup_cons.2 ⟨fun hm => ?_, h.placed.once⟩
    have := (h.placed.within _ hm).2
    omega
  · intro hs
    rw [hpl, List.length_cons]
    have := h.placed.all hs
    show ((x.places.length + 1 : Nat) : Int) = x.next + 1 - x.due
    omega
  · show x.room - 1 + (x.next + 1) - x.due + bitP (x.keeper = 3) = x.window
    have := h.placed.room
    omega
  · show x.sh 0 = bitP ((1 : Int) = 3)
    have := h.ends.queue
    have e1 : bitP (x.reader = 3) = 0 := by unfold bitP; rw [if_neg (by omega)]
    have e2 : bitP ((1 : Int) = 3) = 0 := rfl
    rw [e2, ← e1]
    exact this
  · intro _ h2
    exact absurd (show 2 ≤ (1 : Int) from h2) (by omega)
  · intro hs hd
    have := (h.ends.work hs hd).1
    omega
  · show x.ops + 1 + _ ≤ 11 * x.jobs + x.workers + 7
    rw [hlf]
    omega
end Go.Proofs.Ytpkjjfnfolbcoaa
set_option linter.unusedVariables false
set_option linter.unusedSimpArgs false
namespace Go.Proofs.Ytpkjjfnfolbcoaa
open Go.ChangeShapes Go.WideShapes Go.ChangeAt Go.RowKit

theorem left_nn {x : CrewWorld} (hn : x.next ≤ x.jobs) : 0 ≤ x.left := by
  unfold CrewWorld.left
  have a1 := readLeft_le x.reader
  have a2 := keepLeft_le x.keeper
  have a3 := handsLeft_le x.hands
  have a4 := ringLeft_le x.ring
  have a5 : 0 ≤ bitP (x.closer = 0) ∧ bitP (x.closer = 0) ≤ 1 := by unfold bitP; split <;> omega
  have a6 : 0 ≤ bitP (x.user = 0) ∧ bitP (x.user = 0) ≤ 1 := by unfold bitP; split <;> omega
  omega
/-- operations stay within their bound -/
theorem ops_fine {x y : CrewWorld} (h : x.ok) (hn : y.next ≤ y.jobs) (ho : x.ops ≤ y.ops) (hf : y.ops + y.left ≤ x.ops + x.left) : 0 ≤ y.ops ∧ y.ops ≤ 10000 := by
  have h0 := left_nn hn
  have h1 := h.few
  have h2 := h.form.start
  have h3 := h.form.ops
  unfold crewOk at h2
  omega
/-- jobs are where they must be, if they only change their places -/
theorem placed_perm {x y : CrewWorld} (h : x.Placed) (hp : x.places.Perm y.places) (hd : y.due = x.due) (hn : y.next = x.next) (h3 : y.sh 3 = x.sh 3) (hr : y.ring = x.ring) (hw : y.window = x.window) (hg : y.got = x.got) (ho : y.out = x.out) (hm : y.room + bitP (y.keeper = 3) = x.room + bitP (x.keeper = 3)) : y.Placed := by
  refine ⟨fun j hj => ?_, hp.nodup_iff.1 h.once, fun h0 => ?_, ?_, ?_, ?_, ?_, ?_⟩
  · rw [hd, hn]
    exact h.within j (hp.mem_iff.2 hj)
  · rw [← hp.length_eq, hd, hn]
    exact h.all (h3 ▸ h0)
  · rw [hr, hw]
    exact h.ring
  · rw [hg]
    exact h.got
  · rw [hd, hg, ho]
    exact h.due
  · rw [hg, ho]
    exact h.out
  · have := h.room
    rw [hn, hd, hw]
    omega
/-- the crew has been stopped: jobs may be lost -/
theorem placed_less {x y : CrewWorld} (h : x.Placed) (hp : y.places.Sublist x.places) (hd : y.due = x.due) (hn : y.next = x.next) (h3 : y.sh 3 = 1) (hr : y.ring = x.ring) (hw : y.window = x.window) (hg : y.got = x.got) (ho : y.out = x.out) (hm : y.room + bitP (y.keeper = 3) = x.room + bitP (x.keeper = 3)) : y.Placed := by
  refine ⟨fun j hj => ?_, hp.nodup h.once, fun h0 => absurd h0 (by omega), ?_, ?_, ?_, ?_, ?_⟩
  · rw [hd, hn]
    exact h.within j (hp.mem hj)
  · rw [hr, hw]
    exact h.ring
  · rw [hg]
    exact h.got
  · rw [hd, hg, ho]
    exact h.due
  · rw [hg, ho]
    exact h.out
  · have := h.room
    rw [hn, hd, hw]
    omega
def CrewWorld.r10 (x : CrewWorld) : CrewWorld := { x with queue := x.queue ++ [x.next - 1], reader := 0, ops := x.ops + 1 }
/-- the reader sends its job -/
theorem ok_r10 {x : CrewWorld} (h : x.ok) (hr : x.reader = 1) (hq : (x.queue.length : Int) < x.workers) : x.r10.ok ∧ x.r10.left = x.left - 1 := by
  have hlf : x.r10.left = x.left - 1 := by
    show 11 * (x.jobs - x.next) + 9 * ((x.queue ++ [x.next - 1]).length : Int) + 6 * (x.results.length : Int) + (x.out.length : Int) + readLeft 0 + handsLeft x.hands + ringLeft x.ring + bitP (x.closer = 0) + keepLeft x.keeper + bitP (x.user = 0) = _
    unfold CrewWorld.left
    have e1 : readLeft x.reader = 12 := by rw [hr]; rfl
    have e2 : readLeft 0 = 2 := rfl
    rw [e1, e2, List.length_append]
    simp only [List.length_cons, List.length_nil]
    omega
  have hop := ops_fine (y := x.r10) h h.form.next.2 (show x.ops ≤ x.ops + 1 by omega) (by rw [hlf]; show x.ops + 1 + _ ≤ _; omega)
  have hpl : x.places.Perm x.r10.places := by
    unfold CrewWorld.places
    have e1 : x.sent = [x.next - 1] := by unfold CrewWorld.sent; rw [if_pos hr]
    have e2 : x.r10.sent = [] := rfl
    rw [e1, e2]
    show ([x.next - 1] ++ x.queue ++ handJobs x.hands ++ x.results ++ x.ring.filter _).Perm ([] ++ (x.queue ++ [x.next - 1]) ++ handJobs x.hands ++ x.results ++ x.ring.filter _)
    exact List.Perm.append_right _ (List.Perm.append_right _ (List.Perm.append_right _ List.perm_append_comm))
  refine ⟨⟨⟨h.form.start, h.form.next, h.form.due, h.form.room, hop, h.form.hands, h.form.ring, h.form.shut, ?_, h.form.results, h.form.out, h.form.shuts, h.form.fine, ?_, h.form.closer, h.form.keeper, h.form.user⟩, placed_perm h.placed hpl rfl rfl rfl rfl rfl rfl rfl rfl, ⟨?_, h.ends.results, h.ends.outs, h.ends.closed, h.ends.stop, ?_, ?_, h.ends.keep, h.ends.use⟩, h.kept, ?_⟩, hlf⟩
  · show (((x.queue ++ [x.next - 1]).length : Nat) : Int) ≤ x.workers
    rw [List.length_append]
    simp only [List.length_cons, List.length_nil]
    omega
  · show 0 ≤ (0 : Int) ∧ (0 : Int) ≤ 3
    omega
  · show x.sh 0 = bitP ((0 : Int) = 3)
    have := h.ends.queue
    have e1 : bitP (x.reader = 3) = 0 := by unfold bitP; rw [if_neg (by omega)]
    have e2 : bitP ((0 : Int) = 3) = 0 := rfl
    rw [e2, ← e1]
    exact this
  · intro _ h2
    exact absurd (show 2 ≤ (0 : Int) from h2) (by omega)
  · intro hs hd
    have := (h.ends.work hs hd).1
    omega
  · show x.ops + 1 + _ ≤ 11 * x.jobs + x.workers + 7
    have := h.few
    rw [hlf]
    omega
def CrewWorld.r2 (x : CrewWorld) : CrewWorld := { x with reader := 2 }
/-- the reader was stopped, or has read all -/
theorem ok_r2 {x : CrewWorld} (h : x.ok) (hr : x.reader = 0 ∨ x.reader = 1) (hs : x.sh 3 = 1 ∨ (x.reader = 0 ∧ x.next = x.jobs)) : x.r2.ok ∧ x.r2.left ≤ x.left - 1 := by
  have hlf : x.r2.left ≤ x.left - 1 := by
    show 11 * (x.jobs - x.next) + 9 * (x.queue.length : Int) + 6 * (x.results.length : Int) + (x.out.length : Int) + readLeft 2 + handsLeft x.hands + ringLeft x.ring + bitP (x.closer = 0) + keepLeft x.keeper + bitP (x.user = 0) ≤ _
    unfold CrewWorld.left
    have e1 : 2 ≤ readLeft x.reader := by rcases hr with e | e <;> rw [e] <;> decide
    have e2 : readLeft 2 = 1 := rfl
    rw [e2]
    omega
  have hpl : x.r2.Placed := by
    by_cases h3 : x.sh 3 = 1
    · refine placed_less h.placed ?_ rfl rfl h3 rfl rfl rfl rfl rfl
      unfold CrewWorld.places
      have e2 : x.r2.sent = [] := rfl
      rw [e2]
      show ([] ++ x.queue ++ handJobs x.hands ++ x.results ++ x.ring.filter _).Sublist _
      exact (((List.nil_sublist _).append (List.Sublist.refl _)).append (List.Sublist.refl _)).append (List.Sublist.refl _) |>.append (List.Sublist.refl _)
    · have h0 : x.reader = 0 := by omega
      refine placed_perm h.placed ?_ rfl rfl rfl rfl rfl rfl rfl rfl
      unfold CrewWorld.places
      have e1 : x.sent = [] := by unfold CrewWorld.sent; rw [if_neg (by omega)]
      have e2 : x.r2.sent = [] := rfl
      rw [e1, e2]
      exact List.Perm.refl _
  refine ⟨⟨⟨h.form.start, h.form.next, h.form.due, h.form.room, h.form.ops, h.form.hands, h.form.ring, h.form.shut, h.form.queue, h.form.results, h.form.out, h.form.shuts, h.form.fine, ?_, h.form.closer, h.form.keeper, h.form.user⟩, hpl, ⟨?_, h.ends.results, h.ends.outs, h.ends.closed, h.ends.stop, ?_, ?_, h.ends.keep, h.ends.use⟩, h.kept, ?_⟩, hlf⟩
  · show 0 ≤ (2 : Int) ∧ (2 : Int) ≤ 3
    omega
  · show x.sh 0 = bitP ((2 : Int) = 3)
    have := h.ends.queue
    have e1 : bitP (x.reader = 3) = 0 := by unfold bitP; rw [if_neg (by omega)]
    have e2 : bitP ((2 : Int) = 3) = 0 := rfl
    rw [e2, ← e1]
    exact this
  · intro h3 _
    have h3' : x.sh 3 ≠ 1 := h3
    show x.next = x.jobs
    rcases hs with e | e
    · exact absurd e h3'
    · exact e.2
  · intro h3 hd
    have := (h.ends.work h3 hd).1
    omega
  · show x.ops + _ ≤ 11 * x.jobs + x.workers + 7
    have := h.few
    omega
end Go.Proofs.Ytpkjjfnfolbcoaa
set_option linter.unusedVariables false
set_option linter.unusedSimpArgs false
namespace Go.Proofs.Ytpkjjfnfolbcoaa
open Go.ChangeShapes Go.WideShapes Go.ChangeAt Go.RowKit

theorem sh_set {l : List Int} (h : l.length = 4) (k i : Nat) (hk : k < 4) : ((l.set k 1)[i]?.getD 0) = if i = k then 1 else l[i]?.getD 0 := by
  rw [List.getElem?_set]
  by_cases e : i = k
  · rw [if_pos e.symm, if_pos (by omega), if_pos e]
    rfl
  · rw [if_neg (fun q => e q.symm), if_neg e]
theorem shuts_set {l : List Int} (h : ∀ n ∈ l, 0 ≤ n ∧ n ≤ 1) (k : Nat) : ∀ n ∈ l.set k 1, 0 ≤ n ∧ n ≤ 1 := by
  intro n hn
  rcases List.mem_or_eq_of_mem_set hn with e | e
  · exact h n e
  · rw [e]
    omega
def CrewWorld.r3 (x : CrewWorld) : CrewWorld := { x with reader := 3, shut := x.shut.set 0 1, ops := x.ops + 1 }
theorem ok_r3 {x : CrewWorld} (h : x.ok) (hr : x.reader = 2) : x.r3.ok ∧ x.r3.left ≤ x.left - 1 := by
  have hsh : ∀ i, x.r3.sh i = if i = 0 then 1 else x.sh i := fun i => sh_set h.form.shut 0 i (by omega)
  have s0 : x.r3.sh 0 = 1 := hsh 0
  have s1 : x.r3.sh 1 = x.sh 1 := hsh 1
  have s2 : x.r3.sh 2 = x.sh 2 := hsh 2
  have s3 : x.r3.sh 3 = x.sh 3 := hsh 3
  have hlf : x.r3.left ≤ x.left - 1 := by
    show 11 * (x.jobs - x.next) + 9 * (x.queue.length : Int) + 6 * (x.results.length : Int) + (x.out.length : Int) + readLeft 3 + handsLeft x.hands + ringLeft x.ring + bitP (x.closer = 0) + keepLeft x.keeper + bitP (x.user = 0) ≤ _
    unfold CrewWorld.left
    have e1 : readLeft x.reader = 1 := by rw [hr]; rfl
    have e2 : readLeft 3 = 0 := rfl
    rw [e1, e2]
    omega
  have hop := ops_fine (y := x.r3) h h.form.next.2 (show x.ops ≤ x.ops + 1 by omega) (by show x.ops + 1 + _ ≤ _; omega)
  have hpl : x.r3.Placed := by
    refine placed_perm h.placed ?_ rfl rfl s3 rfl rfl rfl rfl rfl
    unfold CrewWorld.places
    have e1 : x.sent = [] := by unfold CrewWorld.sent; rw [if_neg (by omega)]
    have e2 : x.r3.sent = [] := rfl
    rw [e1, e2]
    exact List.Perm.refl _
  refine ⟨⟨⟨h.form.start, h.form.next, h.form.due, h.form.room, hop, h.form.hands, h.form.ring, by show (x.shut.set _ _).length = 4; rw [List.length_set]; exact h.form.shut, h.form.queue, h.form.results, h.form.out, shuts_set h.form.shuts 0, h.form.fine, by show 0 ≤ (3 : Int) ∧ (3 : Int) ≤ 3; omega, h.form.closer, h.form.keeper, h.form.user⟩, hpl, ⟨s0, by rw [s1]; exact h.ends.results, by rw [s2]; exact h.ends.outs, h.ends.closed, fun h3 => h.ends.stop (s3 ▸ h3), fun h3 _ => h.ends.read (s3 ▸ h3) (by omega), fun h3 hd => absurd (h.ends.work (s3 ▸ h3) hd).1 (by omega), fun h3 => h.ends.keep (s3 ▸ h3), fun h3 => h.ends.use (s3 ▸ h3)⟩, h.kept, ?_⟩, hlf⟩
  show x.ops + 1 + _ ≤ 11 * x.jobs + x.workers + 7
  have := h.few
  omega
def CrewWorld.c1 (x : CrewWorld) : CrewWorld := { x with closer := 1, shut := x.shut.set 1 1, ops := x.ops + 1 }
theorem ok_c1 {x : CrewWorld} (h : x.ok) (hr : x.closer = 0) (ha : x.allDone) : x.c1.ok ∧ x.c1.left ≤ x.left - 1 := by
  have hsh : ∀ i, x.c1.sh i = if i = 1 then 1 else x.sh i := fun i => sh_set h.form.shut 1 i (by omega)
  have s0 : x.c1.sh 0 = x.sh 0 := hsh 0
  have s1 : x.c1.sh 1 = 1 := hsh 1
  have s2 : x.c1.sh 2 = x.sh 2 := hsh 2
  have s3 : x.c1.sh 3 = x.sh 3 := hsh 3
  have hlf : x.c1.left ≤ x.left - 1 := by
    show 11 * (x.jobs - x.next) + 9 * (x.queue.length : Int) + 6 * (x.results.length : Int) + (x.out.length : Int) + readLeft x.reader + handsLeft x.hands + ringLeft x.ring + bitP ((1 : Int) = 0) + keepLeft x.keeper + bitP (x.user = 0) ≤ _
    unfold CrewWorld.left
    have e1 : bitP (x.closer = 0) = 1 := by unfold bitP; rw [if_pos hr]
    have e2 : bitP ((1 : Int) = 0) = 0 := rfl
    rw [e1, e2]
    omega
  have hop := ops_fine (y := x.c1) h h.form.next.2 (show x.ops ≤ x.ops + 1 by omega) (by show x.ops + 1 + _ ≤ _; omega)
  have hpl : x.c1.Placed := by
    refine placed_perm h.placed ?_ rfl rfl s3 rfl rfl rfl rfl rfl
    exact List.Perm.refl _
  refine ⟨⟨⟨h.form.start, h.form.next, h.form.due, h.form.room, hop, h.form.hands, h.form.ring, by show (x.shut.set _ _).length = 4; rw [List.length_set]; exact h.form.shut, h.form.queue, h.form.results, h.form.out, shuts_set h.form.shuts 1, h.form.fine, h.form.reader, by show 0 ≤ (1 : Int) ∧ (1 : Int) ≤ 1; omega, h.form.keeper, h.form.user⟩, hpl, ⟨by rw [s0]; exact h.ends.queue, s1, by rw [s2]; exact h.ends.outs, fun _ => ha, fun h3 => h.ends.stop (s3 ▸ h3), fun h3 => h.ends.read (s3 ▸ h3), fun h3 => h.ends.work (s3 ▸ h3), fun h3 hk => ⟨rfl, (h.ends.keep (s3 ▸ h3) hk).2⟩, fun h3 => h.ends.use (s3 ▸ h3)⟩, h.kept, ?_⟩, hlf⟩
  show x.ops + 1 + _ ≤ 11 * x.jobs + x.workers + 7
  have := h.few
  omega
def CrewWorld.k5 (x : CrewWorld) : CrewWorld := { x with keeper := 5, shut := x.shut.set 2 1, ops := x.ops + 1 }
theorem ok_k5 {x : CrewWorld} (h : x.ok) (hr : x.keeper = 4) : x.k5.ok ∧ x.k5.left ≤ x.left - 1 := by
  have hsh : ∀ i, x.k5.sh i = if i = 2 then 1 else x.sh i := fun i => sh_set h.form.shut 2 i (by omega)
  have s0 : x.k5.sh 0 = x.sh 0 := hsh 0
  have s1 : x.k5.sh 1 = x.sh 1 := hsh 1
  have s2 : x.k5.sh 2 = 1 := hsh 2
  have s3 : x.k5.sh 3 = x.sh 3 := hsh 3
  have hlf : x.k5.left ≤ x.left - 1 := by
    show 11 * (x.jobs - x.next) + 9 * (x.queue.length : Int) + 6 * (x.results.length : Int) + (x.out.length : Int) + readLeft x.reader + handsLeft x.hands + ringLeft x.ring + bitP (x.closer = 0) + keepLeft 5 + bitP (x.user = 0) ≤ _
    unfold CrewWorld.left
    have e1 : keepLeft x.keeper = 1 := by rw [hr]; rfl
    have e2 : keepLeft 5 = 0 := rfl
    rw [e1, e2]
    omega
  have hop := ops_fine (y := x.k5) h h.form.next.2 (show x.ops ≤ x.ops + 1 by omega) (by show x.ops + 1 + _ ≤ _; omega)
  have hpl : x.k5.Placed := by
    refine placed_perm h.placed ?_ rfl rfl s3 rfl rfl rfl rfl ?_
    · exact List.Perm.refl _
    · have e1 : bitP (x.keeper = 3) = 0 := by unfold bitP; rw [if_neg (by omega)]
      have e2 : bitP (x.k5.keeper = 3) = 0 := rfl
      rw [e1, e2]
      rfl
  refine ⟨⟨⟨h.form.start, h.form.next, h.form.due, h.form.room, hop, h.form.hands, h.form.ring, by show (x.shut.set _ _).length = 4; rw [List.length_set]; exact h.form.shut, h.form.queue, h.form.results, h.form.out, shuts_set h.form.shuts 2, h.form.fine, h.form.reader, h.form.closer, by show 0 ≤ (5 : Int) ∧ (5 : Int) ≤ 5; omega, h.form.user⟩, hpl, ⟨by rw [s0]; exact h.ends.queue, by rw [s1]; exact h.ends.results, s2, h.ends.closed, fun h3 => h.ends.stop (s3 ▸ h3), fun h3 => h.ends.read (s3 ▸ h3), fun h3 => h.ends.work (s3 ▸ h3), fun h3 _ => h.ends.keep (s3 ▸ h3) (by omega), fun h3 hu => absurd (h.ends.use (s3 ▸ h3) hu).1 (by omega)⟩, ⟨fun e => absurd (show (5 : Int) = 0 from e) (by omega), fun e => absurd (show (5 : Int) = 2 from e) (by omega)⟩, ?_⟩, hlf⟩
  show x.ops + 1 + _ ≤ 11 * x.jobs + x.workers + 7
  have := h.few
  omega
def CrewWorld.u1 (x : CrewWorld) : CrewWorld := { x with user := 1, ops := x.ops + 1 }
theorem ok_u1 {x : CrewWorld} (h : x.ok) (hr : x.user = 0) (ho : x.out.length = 0) (h2 : x.sh 2 = 1) : x.u1.ok ∧ x.u1.left ≤ x.left - 1 := by
  have s0 : x.u1.sh 0 = x.sh 0 := rfl
  have s1 : x.u1.sh 1 = x.sh 1 := rfl
  have s2 : x.u1.sh 2 = x.sh 2 := rfl
  have s3 : x.u1.sh 3 = x.sh 3 := rfl
  have hlf : x.u1.left ≤ x.left - 1 := by
    show 11 * (x.jobs - x.next) + 9 * (x.queue.length : Int) + 6 * (x.results.length : Int) + (x.out.length : Int) + readLeft x.reader + handsLeft x.hands + ringLeft x.ring + bitP (x.closer = 0) + keepLeft x.keeper + bitP ((1 : Int) = 0) ≤ _
    unfold CrewWorld.left
    have e1 : bitP (x.user = 0) = 1 := by unfold bitP; rw [if_pos hr]
    have e2 : bitP ((1 : Int) = 0) = 0 := rfl
    rw [e1, e2]
    omega
  have hop := ops_fine (y := x.u1) h h.form.next.2 (show x.ops ≤ x.ops + 1 by omega) (by show x.ops + 1 + _ ≤ _; omega)
  have hpl : x.u1.Placed := by
    refine placed_perm h.placed ?_ rfl rfl s3 rfl rfl rfl rfl rfl
    exact List.Perm.refl _
  refine ⟨⟨⟨h.form.start, h.form.next, h.form.due, h.form.room, hop, h.form.hands, h.form.ring, h.form.shut, h.form.queue, h.form.results, h.form.out, h.form.shuts, h.form.fine, h.form.reader, h.form.closer, h.form.keeper, by show 0 ≤ (1 : Int) ∧ (1 : Int) ≤ 1; omega⟩, hpl, ⟨by rw [s0]; exact h.ends.queue, by rw [s1]; exact h.ends.results, by rw [s2]; exact h.ends.outs, h.ends.closed, fun _ => rfl, fun h3 => h.ends.read (s3 ▸ h3), fun h3 => h.ends.work (s3 ▸ h3), fun h3 => h.ends.keep (s3 ▸ h3), fun _ _ => ⟨by have := h.ends.outs; unfold bitP at this; split at this <;> first | assumption | omega, ho⟩⟩, h.kept, ?_⟩, hlf⟩
  show x.ops + 1 + _ ≤ 11 * x.jobs + x.workers + 7
  have := h.few
  omega
end Go.Proofs.Ytpkjjfnfolbcoaa
set_option linter.unusedVariables false
set_option linter.unusedSimpArgs false
namespace Go.Proofs.Ytpkjjfnfolbcoaa
open Go.ChangeShapes Go.WideShapes Go.ChangeAt Go.RowKit

def CrewWorld.k4s (x : CrewWorld) : CrewWorld := { x with keeper := 4 }
theorem ok_k4s {x : CrewWorld} (h : x.ok) (hr : x.keeper = 0 ∨ x.keeper = 2) (hs : x.sh 3 = 1) : x.k4s.ok ∧ x.k4s.left ≤ x.left - 1 := by
  have s0 : x.k4s.sh 0 = x.sh 0 := rfl
  have s1 : x.k4s.sh 1 = x.sh 1 := rfl
  have s2 : x.k4s.sh 2 = x.sh 2 := rfl
  have s3 : x.k4s.sh 3 = x.sh 3 := rfl
  have hlf : x.k4s.left ≤ x.left - 1 := by
    show 11 * (x.jobs - x.next) + 9 * (x.queue.length : Int) + 6 * (x.results.length : Int) + (x.out.length : Int) + readLeft x.reader + handsLeft x.hands + ringLeft x.ring + bitP (x.closer = 0) + keepLeft 4 + bitP (x.user = 0) ≤ _
    unfold CrewWorld.left
    have e1 : keepLeft x.keeper = 2 := by rcases hr with e | e <;> rw [e] <;> rfl
    have e2 : keepLeft 4 = 1 := rfl
    rw [e1, e2]
    omega
  have hop := ops_fine (y := x.k4s) h h.form.next.2 (show x.ops ≤ x.ops by omega) (by show x.ops + _ ≤ _; omega)
  have hpl : x.k4s.Placed := by
    refine placed_perm h.placed ?_ rfl rfl s3 rfl rfl rfl rfl ?_
    · exact List.Perm.refl _
    · have e1 : bitP (x.keeper = 3) = 0 := by unfold bitP; rw [if_neg (by omega)]
      have e2 : bitP (x.k4s.keeper = 3) = 0 := rfl
      rw [e1, e2]
      rfl
  refine ⟨⟨⟨h.form.start, h.form.next, h.form.due, h.form.room, hop, h.form.hands, h.form.ring, h.form.shut, h.form.queue, h.form.results, h.form.out, h.form.shuts, h.form.fine, h.form.reader, h.form.closer, by show 0 ≤ (4 : Int) ∧ (4 : Int) ≤ 5; omega, h.form.user⟩, hpl, ⟨by rw [s0]; exact h.ends.queue, by rw [s1]; exact h.ends.results, by rw [s2, h.ends.outs]; unfold bitP; rw [if_neg (by omega)]; rfl, h.ends.closed, fun h3 => h.ends.stop (s3 ▸ h3), fun h3 => h.ends.read (s3 ▸ h3), fun h3 => h.ends.work (s3 ▸ h3), fun h3 _ => absurd hs h3, fun h3 hu => absurd (h.ends.use (s3 ▸ h3) hu).1 (by omega)⟩, ⟨fun e => absurd (show (4 : Int) = 0 from e) (by omega), fun e => absurd (show (4 : Int) = 2 from e) (by omega)⟩, ?_⟩, hlf⟩
  show x.ops + _ ≤ 11 * x.jobs + x.workers + 7
  have := h.few
  omega
def CrewWorld.k4e (x : CrewWorld) : CrewWorld := { x with keeper := 4, ops := x.ops + 1 }
theorem ok_k4e {x : CrewWorld} (h : x.ok) (hr : x.keeper = 0) (h0 : x.results.length = 0) (h1 : x.sh 1 = 1) : x.k4e.ok ∧ x.k4e.left ≤ x.left - 1 := by
  have s0 : x.k4e.sh 0 = x.sh 0 := rfl
  have s1 : x.k4e.sh 1 = x.sh 1 := rfl
  have s2 : x.k4e.sh 2 = x.sh 2 := rfl
  have s3 : x.k4e.sh 3 = x.sh 3 := rfl
  have hlf : x.k4e.left ≤ x.left - 1 := by
    show 11 * (x.jobs - x.next) + 9 * (x.queue.length : Int) + 6 * (x.results.length : Int) + (x.out.length : Int) + readLeft x.reader + handsLeft x.hands + ringLeft x.ring + bitP (x.closer = 0) + keepLeft 4 + bitP (x.user = 0) ≤ _
    unfold CrewWorld.left
    have e1 : keepLeft x.keeper = 2 := by rw [hr]; rfl
    have e2 : keepLeft 4 = 1 := rfl
    rw [e1, e2]
    omega
  have hop := ops_fine (y := x.k4e) h h.form.next.2 (show x.ops ≤ x.ops + 1 by omega) (by show x.ops + 1 + _ ≤ _; omega)
  have hpl : x.k4e.Placed := by
    refine placed_perm h.placed ?_ rfl rfl s3 rfl rfl rfl rfl ?_
    · exact List.Perm.refl _
    · have e1 : bitP (x.keeper = 3) = 0 := by unfold bitP; rw [if_neg (by omega)]
      have e2 : bitP (x.k4e.keeper = 3) = 0 := rfl
      rw [e1, e2]
      rfl
  refine ⟨⟨⟨h.form.start, h.form.next, h.form.due, h.form.room, hop, h.form.hands, h.form.ring, h.form.shut, h.form.queue, h.form.results, h.form.out, h.form.shuts, h.form.fine, h.form.reader, h.form.closer, by show 0 ≤ (4 : Int) ∧ (4 : Int) ≤ 5; omega, h.form.user⟩, hpl, ⟨by rw [s0]; exact h.ends.queue, by rw [s1]; exact h.ends.results, by rw [s2, h.ends.outs]; unfold bitP; rw [if_neg (by omega)]; rfl, h.ends.closed, fun h3 => h.ends.stop (s3 ▸ h3), fun h3 => h.ends.read (s3 ▸ h3), fun h3 => h.ends.work (s3 ▸ h3), fun _ _ => ⟨by have := h.ends.results; unfold bitP at this; split at this <;> first | assumption | omega, h0⟩, fun h3 hu => absurd (h.ends.use (s3 ▸ h3) hu).1 (by omega)⟩, ⟨fun e => absurd (show (4 : Int) = 0 from e) (by omega), fun e => absurd (show (4 : Int) = 2 from e) (by omega)⟩, ?_⟩, hlf⟩
  show x.ops + 1 + _ ≤ 11 * x.jobs + x.workers + 7
  have := h.few
  omega
def CrewWorld.k12 (x : CrewWorld) : CrewWorld := { x with keeper := 2 }
theorem ok_k12 {x : CrewWorld} (h : x.ok) (hr : x.keeper = 1) (hd : x.dueIn) : x.k12.ok ∧ x.k12.left ≤ x.left - 1 := by
  have s0 : x.k12.sh 0 = x.sh 0 := rfl
  have s1 : x.k12.sh 1 = x.sh 1 := rfl
  have s2 : x.k12.sh 2 = x.sh 2 := rfl
  have s3 : x.k12.sh 3 = x.sh 3 := rfl
  have hlf : x.k12.left ≤ x.left - 1 := by
    show 11 * (x.jobs - x.next) + 9 * (x.queue.length : Int) + 6 * (x.results.length : Int) + (x.out.length : Int) + readLeft x.reader + handsLeft x.hands + ringLeft x.ring + bitP (x.closer = 0) + keepLeft 2 + bitP (x.user = 0) ≤ _
    unfold CrewWorld.left
    have e1 : keepLeft x.keeper = 3 := by rw [hr]; rfl
    have e2 : keepLeft 2 = 2 := rfl
    rw [e1, e2]
    omega
  have hop := ops_fine (y := x.k12) h h.form.next.2 (show x.ops ≤ x.ops by omega) (by show x.ops + _ ≤ _; omega)
  have hpl : x.k12.Placed := by
    refine placed_perm h.placed ?_ rfl rfl s3 rfl rfl rfl rfl ?_
    · exact List.Perm.refl _
    · have e1 : bitP (x.keeper = 3) = 0 := by unfold bitP; rw [if_neg (by omega)]
      have e2 : bitP (x.k12.keeper = 3) = 0 := rfl
      rw [e1, e2]
      rfl
  refine ⟨⟨⟨h.form.start, h.form.next, h.form.due, h.form.room, hop, h.form.hands, h.form.ring, h.form.shut, h.form.queue, h.form.results, h.form.out, h.form.shuts, h.form.fine, h.form.reader, h.form.closer, by show 0 ≤ (2 : Int) ∧ (2 : Int) ≤ 5; omega, h.form.user⟩, hpl, ⟨by rw [s0]; exact h.ends.queue, by rw [s1]; exact h.ends.results, by rw [s2, h.ends.outs]; unfold bitP; rw [if_neg (by omega)]; rfl, h.ends.closed, fun h3 => h.ends.stop (s3 ▸ h3), fun h3 => h.ends.read (s3 ▸ h3), fun h3 => h.ends.work (s3 ▸ h3), fun _ hk => absurd (show 4 ≤ (2 : Int) from hk) (by omega), fun h3 hu => absurd (h.ends.use (s3 ▸ h3) hu).1 (by omega)⟩, ⟨fun e => absurd (show (2 : Int) = 0 from e) (by omega), fun _ => hd⟩, ?_⟩, hlf⟩
  show x.ops + _ ≤ 11 * x.jobs + x.workers + 7
  have := h.few
  omega
def CrewWorld.k10 (x : CrewWorld) : CrewWorld := { x with keeper := 0 }
theorem ok_k10 {x : CrewWorld} (h : x.ok) (hr : x.keeper = 1) (hd : ¬ x.dueIn) : x.k10.ok ∧ x.k10.left ≤ x.left - 1 := by
  have s0 : x.k10.sh 0 = x.sh 0 := rfl
  have s1 : x.k10.sh 1 = x.sh 1 := rfl
  have s2 : x.k10.sh 2 = x.sh 2 := rfl
  have s3 : x.k10.sh 3 = x.sh 3 := rfl
  have hlf : x.k10.left ≤ x.left - 1 := by
    show 11 * (x.jobs - x.next) + 9 * (x.queue.length : Int) + 6 * (x.results.length : Int) + (x.out.length : Int) + readLeft x.reader + handsLeft x.hands + ringLeft x.ring + bitP (x.closer = 0) + keepLeft 0 + bitP (x.user = 0) ≤ _
    unfold CrewWorld.left
    have e1 : keepLeft x.keeper = 3 := by rw [hr]; rfl
    have e2 : keepLeft 0 = 2 := rfl
    rw [e1, e2]
    omega
  have hop := ops_fine (y := x.k10) h h.form.next.2 (show x.ops ≤ x.ops by omega) (by show x.ops + _ ≤ _; omega)
  have hpl : x.k10.Placed := by
    refine placed_perm h.placed ?_ rfl rfl s3 rfl rfl rfl rfl ?_
    · exact List.Perm.refl _
    · have e1 : bitP (x.keeper = 3) = 0 := by unfold bitP; rw [if_neg (by omega)]
      have e2 : bitP (x.k10.keeper = 3) = 0 := rfl
      rw [e1, e2]
      rfl
  refine ⟨⟨⟨h.form.start, h.form.next, h.form.due, h.form.room, hop, h.form.hands, h.form.ring, h.form.shut, h.form.queue, h.form.results, h.form.out, h.form.shuts, h.form.fine, h.form.reader, h.form.closer, by show 0 ≤ (0 : Int) ∧ (0 : Int) ≤ 5; omega, h.form.user⟩, hpl, ⟨by rw [s0]; exact h.ends.queue, by rw [s1]; exact h.ends.results, by rw [s2, h.ends.outs]; unfold bitP; rw [if_neg (by omega)]; rfl, h.ends.closed, fun h3 => h.ends.stop (s3 ▸ h3), fun h3 => h.ends.read (s3 ▸ h3), fun h3 => h.ends.work (s3 ▸ h3), fun _ hk => absurd (show 4 ≤ (0 : Int) from hk) (by omega), fun h3 hu => absurd (h.ends.use (s3 ▸ h3) hu).1 (by omega)⟩, ⟨fun _ => hd, fun e => absurd (show (0 : Int) = 2 from e) (by omega)⟩, ?_⟩, hlf⟩
  show x.ops + _ ≤ 11 * x.jobs + x.workers + 7
  have := h.few
  omega
def CrewWorld.k31 (x : CrewWorld) : CrewWorld := { x with room := x.room + 1, keeper := 1, ops := x.ops + 1 }
theorem ok_k31 {x : CrewWorld} (h : x.ok) (hr : x.keeper = 3) : x.k31.ok ∧ x.k31.left ≤ x.left - 1 := by
  have s0 : x.k31.sh 0 = x.sh 0 := rfl
  have s1 : x.k31.sh 1 = x.sh 1 := rfl
  have s2 : x.k31.sh 2 = x.sh 2 := rfl
  have s3 : x.k31.sh 3 = x.sh 3 := rfl
  have hrm : x.room + 1 ≤ x.window ∧ 0 ≤ x.room := by
    have e1 : bitP (x.keeper = 3) = 1 := by unfold bitP; rw [if_pos hr]
    have h1 := h.placed.room
    have h2 := h.form.due
    have h3 := h.form.room
    omega
  have hlf : x.k31.left ≤ x.left - 1 := by
    show 11 * (x.jobs - x.next) + 9 * (x.queue.length : Int) + 6 * (x.results.length : Int) + (x.out.length : Int) + readLeft x.reader + handsLeft x.hands + ringLeft x.ring + bitP (x.closer = 0) + keepLeft 1 + bitP (x.user = 0) ≤ _
    unfold CrewWorld.left
    have e1 : keepLeft x.keeper = 4 := by rw [hr]; rfl
    have e2 : keepLeft 1 = 3 := rfl
    rw [e1, e2]
    omega
  have hop := ops_fine (y := x.k31) h h.form.next.2 (show x.ops ≤ x.ops + 1 by omega) (by show x.ops + 1 + _ ≤ _; omega)
  have hpl : x.k31.Placed := by
    refine placed_perm h.placed ?_ rfl rfl s3 rfl rfl rfl rfl ?_
    · exact List.Perm.refl _
    · have e1 : bitP (x.keeper = 3) = 1 := by unfold bitP; rw [if_pos hr]
      have e2 : bitP (x.k31.keeper = 3) = 0 := rfl
      rw [e1, e2]
      show x.room + 1 + 0 = x.room + 1
      omega
  refine ⟨⟨⟨h.form.start, h.form.next, h.form.due, by show 0 ≤ x.room + 1 ∧ x.room + 1 ≤ x.window; omega, hop, h.form.hands, h.form.ring, h.form.shut, h.form.queue, h.form.results, h.form.out, h.form.shuts, h.form.fine, h.form.reader, h.form.closer, by show 0 ≤ (1 : Int) ∧ (1 : Int) ≤ 5; omega, h.form.user⟩, hpl, ⟨by rw [s0]; exact h.ends.queue, by rw [s1]; exact h.ends.results, by rw [s2, h.ends.outs]; unfold bitP; rw [if_neg (by omega)]; rfl, h.ends.closed, fun h3 => h.ends.stop (s3 ▸ h3), fun h3 => h.ends.read (s3 ▸ h3), fun h3 => h.ends.work (s3 ▸ h3), fun _ hk => absurd (show 4 ≤ (1 : Int) from hk) (by omega), fun h3 hu => absurd (h.ends.use (s3 ▸ h3) hu).1 (by omega)⟩, ⟨fun e => absurd (show (1 : Int) = 0 from e) (by omega), fun e => absurd (show (1 : Int) = 2 from e) (by omega)⟩, ?_⟩, hlf⟩
  show x.ops + 1 + _ ≤ 11 * x.jobs + x.workers + 7
  have := h.few
  omega
def CrewWorld.cut (x : CrewWorld) : CrewWorld := { x with user := 1, shut := x.shut.set 3 1, ops := x.ops + 1 }
theorem ok_cut {x : CrewWorld} (h : x.ok) (hr : x.user = 0) : x.cut.ok ∧ x.cut.left ≤ x.left - 1 := by
  have hsh : ∀ i, x.cut.sh i = if i = 3 then 1 else x.sh i := fun i => sh_set h.form.shut 3 i (by omega)
  have s0 : x.cut.sh 0 = x.sh 0 := hsh 0
  have s1 : x.cut.sh 1 = x.sh 1 := hsh 1
  have s2 : x.cut.sh 2 = x.sh 2 := hsh 2
  have s3 : x.cut.sh 3 = 1 := hsh 3
  have hlf : x.cut.left ≤ x.left - 1 := by
    show 11 * (x.jobs - x.next) + 9 * (x.queue.length : Int) + 6 * (x.results.length : Int) + (x.out.length : Int) + readLeft x.reader + handsLeft x.hands + ringLeft x.ring + bitP (x.closer = 0) + keepLeft x.keeper + bitP ((1 : Int) = 0) ≤ _
    unfold CrewWorld.left
    have e1 : bitP (x.user = 0) = 1 := by unfold bitP; rw [if_pos hr]
    have e2 : bitP ((1 : Int) = 0) = 0 := rfl
    rw [e1, e2]
    omega
  have hop := ops_fine (y := x.cut) h h.form.next.2 (show x.ops ≤ x.ops + 1 by omega) (by show x.ops + 1 + _ ≤ _; omega)
  have hpl : x.cut.Placed := by
    refine placed_less h.placed ?_ rfl rfl s3 rfl rfl rfl rfl rfl
    exact List.Sublist.refl _
  refine ⟨⟨⟨h.form.start, h.form.next, h.form.due, h.form.room, hop, h.form.hands, h.form.ring, by show (x.shut.set _ _).length = 4; rw [List.length_set]; exact h.form.shut, h.form.queue, h.form.results, h.form.out, shuts_set h.form.shuts 3, h.form.fine, h.form.reader, h.form.closer, h.form.keeper, by show 0 ≤ (1 : Int) ∧ (1 : Int) ≤ 1; omega⟩, hpl, ⟨by rw [s0]; exact h.ends.queue, by rw [s1]; exact h.ends.results, by rw [s2]; exact h.ends.outs, h.ends.closed, fun _ => rfl, fun h3 _ => absurd s3 h3, fun h3 _ => absurd s3 h3, fun h3 _ => absurd s3 h3, fun h3 _ => absurd s3 h3⟩, h.kept, ?_⟩, hlf⟩
  show x.ops + 1 + _ ≤ 11 * x.jobs + x.workers + 7
  have := h.few
  omega
def CrewWorld.u0 (x : CrewWorld) : CrewWorld := { x with got := x.got ++ [x.out[0]?.getD 0], out := [], ops := x.ops + 1 }
theorem ok_u0 {x : CrewWorld} (h : x.ok) (hr : x.user = 0) (ho : 0 < x.out.length) : x.u0.ok ∧ x.u0.left ≤ x.left - 1 := by
  have s0 : x.u0.sh 0 = x.sh 0 := rfl
  have s1 : x.u0.sh 1 = x.sh 1 := rfl
  have s2 : x.u0.sh 2 = x.sh 2 := rfl
  have s3 : x.u0.sh 3 = x.sh 3 := rfl
  have hlf : x.u0.left ≤ x.left - 1 := by
    show 11 * (x.jobs - x.next) + 9 * (x.queue.length : Int) + 6 * (x.results.length : Int) + (([] : List Int).length : Int) + readLeft x.reader + handsLeft x.hands + ringLeft x.ring + bitP (x.closer = 0) + keepLeft x.keeper + bitP (x.user = 0) ≤ _
    unfold CrewWorld.left
    have e1 : (([] : List Int).length : Int) = 0 := rfl
    rw [e1]
    omega
  have hop := ops_fine (y := x.u0) h h.form.next.2 (show x.ops ≤ x.ops + 1 by omega) (by show x.ops + 1 + _ ≤ _; omega)
  have hpl : x.u0.Placed := by
    have hp := h.placed
    have hl := h.form.out
    have hv : x.out[0]?.getD 0 = (x.got.length : Int) := by
      rw [List.getElem?_eq_getElem ho]
      exact hp.out _ (List.getElem_mem ho)
    refine ⟨hp.within, hp.once, hp.all, hp.ring, ?_, ?_, ?_, hp.room⟩
    · intro i hi
      have hi' : i < (x.got ++ [x.out[0]?.getD 0]).length := hi
      show (x.got ++ [x.out[0]?.getD 0])[i] = (i : Int)
      rw [List.length_append] at hi'
      simp only [List.length_cons, List.length_nil] at hi'
      by_cases e : i < x.got.length
      · rw [List.getElem_append_left e]
        exact hp.got i e
      · rw [List.getElem_append_right (by omega)]
        have : i = x.got.length := by omega
        subst this
        simp only [List.getElem_singleton]
        exact hv
    · show x.due = (((x.got ++ [x.out[0]?.getD 0]).length : Nat) : Int) + ((([] : List Int).length : Nat) : Int)
      have := hp.due
      rw [List.length_append]
      simp only [List.length_cons, List.length_nil]
      omega
    · intro j hj
      exact absurd hj (List.not_mem_nil)
  refine ⟨⟨⟨h.form.start, h.form.next, h.form.due, h.form.room, hop, h.form.hands, h.form.ring, h.form.shut, h.form.queue, h.form.results, Nat.zero_le _, h.form.shuts, h.form.fine, h.form.reader, h.form.closer, h.form.keeper, h.form.user⟩, hpl, ⟨by rw [s0]; exact h.ends.queue, by rw [s1]; exact h.ends.results, by rw [s2]; exact h.ends.outs, h.ends.closed, fun h3 => h.ends.stop (s3 ▸ h3), fun h3 => h.ends.read (s3 ▸ h3), fun h3 => h.ends.work (s3 ▸ h3), fun h3 => h.ends.keep (s3 ▸ h3), fun h3 hu => ⟨(h.ends.use (s3 ▸ h3) hu).1, rfl⟩⟩, h.kept, ?_⟩, hlf⟩
  show x.ops + 1 + _ ≤ 11 * x.jobs + x.workers + 7
  have := h.few
  omega
end Go.Proofs.Ytpkjjfnfolbcoaa
set_option linter.unusedVariables false
set_option linter.unusedSimpArgs false
namespace Go.Proofs.Ytpkjjfnfolbcoaa
open Go.ChangeShapes Go.WideShapes Go.ChangeAt Go.RowKit

theorem places_perm {x y : CrewWorld} (hs : (x.sent ++ x.queue ++ handJobs x.hands ++ x.results).Perm (y.sent ++ y.queue ++ handJobs y.hands ++ y.results)) (hr : y.ring = x.ring) : x.places.Perm y.places := by
  unfold CrewWorld.places
  rw [hr]
  exact List.Perm.append_right _ hs
theorem fine_set {l : List CrewHand} (h : ∀ y ∈ l, y.fine) (i : Nat) {v : CrewHand} (hv : v.fine) : ∀ y ∈ l.set i v, y.fine := by
  intro y hy
  rcases List.mem_or_eq_of_mem_set hy with e | e
  · exact h y e
  · rw [e]
    exact hv
theorem done_set {l : List CrewHand} (i : Nat) {v : CrewHand} (hv : v.state ≠ 3) (h : ∃ y ∈ l.set i v, y.state = 3) : ∃ y ∈ l, y.state = 3 := by
  obtain ⟨y, hy, h3⟩ := h
  rcases List.mem_or_eq_of_mem_set hy with e | e
  · exact ⟨y, e, h3⟩
  · rw [e] at h3
    exact absurd h3 hv
theorem handJobs_idle (l : List CrewHand) (i : Nat) (h : i < l.length) (v : CrewHand) (hv : v.busy = false) : (handJobs (l.set i v)).Sublist (handJobs l) := by
  obtain ⟨h1, h2⟩ := set_parts l i h v
  have e : handJobs l = handJobs (l.take i) ++ ((if l[i].busy = true then [l[i].job] else []) ++ handJobs (l.drop (i + 1))) := by
    rw [← handJobs_cons, ← handJobs_append, ← h2]
  rw [e, h1, handJobs_append, handJobs_cons, hv]
  refine List.Sublist.append (List.Sublist.refl _) ?_
  refine List.Sublist.append ?_ (List.Sublist.refl _)
  exact List.nil_sublist _
def CrewWorld.hnd (x : CrewWorld) (i : Nat) : CrewHand := x.hands[i]?.getD ⟨3, 0⟩
theorem hnd_at {x : CrewWorld} {i : Nat} (hi : i < x.hands.length) : x.hands[i] = x.hnd i := by
  unfold CrewWorld.hnd
  rw [List.getElem?_eq_getElem hi]
  rfl
def CrewWorld.h12 (x : CrewWorld) (i : Nat) : CrewWorld := { x with hands := x.hands.set i ⟨2, (x.hnd i).job⟩ }
theorem ok_h12 {x : CrewWorld} (h : x.ok) {i : Nat} (hi : i < x.hands.length) (hr : (x.hnd i).state = 1) : (x.h12 i).ok ∧ (x.h12 i).left ≤ x.left - 1 := by
  have hat := hnd_at hi
  have hset := handsLeft_set x.hands i hi ⟨2, (x.hnd i).job⟩
  obtain ⟨rest, hp1, hp2⟩ := handJobs_set x.hands i hi ⟨2, (x.hnd i).job⟩
  rw [hat] at hset hp1
  have e1 : (x.hnd i).left = 9 := by unfold CrewHand.left; rw [hr]; rfl
  have hb : (x.hnd i).busy = true := by unfold CrewHand.busy; rw [hr]; rfl
  rw [hb] at hp1
  have hlf : (x.h12 i).left ≤ x.left - 1 := by
    show 11 * (x.jobs - x.next) + 9 * ((x.queue).length : Int) + 6 * ((x.results).length : Int) + (x.out.length : Int) + readLeft x.reader + handsLeft (x.hands.set i ⟨2, (x.hnd i).job⟩) + ringLeft x.ring + bitP (x.closer = 0) + keepLeft x.keeper + bitP (x.user = 0) ≤ _
    unfold CrewWorld.left
    have e2 : (⟨2, (x.hnd i).job⟩ : CrewHand).left = 8 := rfl
    rw [e2, e1] at hset
    omega
  have hop := ops_fine (y := (x.h12 i)) h h.form.next.2 (show x.ops ≤ x.ops by omega) (by show x.ops + _ ≤ _; omega)
  have hpl : (x.h12 i).Placed := by
    refine placed_perm h.placed (places_perm ?_ rfl) rfl rfl rfl rfl rfl rfl rfl rfl
    exact List.Perm.append_right _ (List.Perm.append_left _ (hp1.trans hp2.symm))
  refine ⟨⟨⟨h.form.start, h.form.next, h.form.due, h.form.room, hop, by show ((x.hands.set i _).length : Int) = x.workers; rw [List.length_set]; exact h.form.hands, h.form.ring, h.form.shut, h.form.queue, h.form.results, h.form.out, h.form.shuts, fine_set h.form.fine i (⟨⟨by show 0 ≤ (2 : Int); omega, by show (2 : Int) ≤ 3; omega⟩, fun _ => Or.inr rfl⟩), h.form.reader, h.form.closer, h.form.keeper, h.form.user⟩, hpl, ⟨h.ends.queue, h.ends.results, h.ends.outs, fun hc => absurd (by have := h.ends.closed hc _ (List.getElem_mem hi); rw [hat] at this; exact this : (x.hnd i).state = 3) (by omega), h.ends.stop, h.ends.read, fun h3 hd => h.ends.work h3 (done_set i (by show ¬ (2 : Int) = 3; omega) hd), h.ends.keep, h.ends.use⟩, h.kept, ?_⟩, hlf⟩
  show x.ops + _ ≤ 11 * x.jobs + x.workers + 7
  have := h.few
  omega
def CrewWorld.h20 (x : CrewWorld) (i : Nat) : CrewWorld := { x with hands := x.hands.set i ⟨0, 0⟩, results := x.results ++ [(x.hnd i).job], ops := x.ops + 1 }
theorem ok_h20 {x : CrewWorld} (h : x.ok) {i : Nat} (hi : i < x.hands.length) (hr : (x.hnd i).state = 2) (hq : (x.results.length : Int) < x.workers) : (x.h20 i).ok ∧ (x.h20 i).left ≤ x.left - 1 := by
  have hat := hnd_at hi
  have hset := handsLeft_set x.hands i hi ⟨0, 0⟩
  obtain ⟨rest, hp1, hp2⟩ := handJobs_set x.hands i hi ⟨0, 0⟩
  rw [hat] at hset hp1
  have e1 : (x.hnd i).left = 8 := by unfold CrewHand.left; rw [hr]; rfl
  have hb : (x.hnd i).busy = true := by unfold CrewHand.busy; rw [hr]; rfl
  rw [hb] at hp1
  have hlf : (x.h20 i).left ≤ x.left - 1 := by
    show 11 * (x.jobs - x.next) + 9 * ((x.queue).length : Int) + 6 * ((x.results ++ [(x.hnd i).job]).length : Int) + (x.out.length : Int) + readLeft x.reader + handsLeft (x.hands.set i ⟨0, 0⟩) + ringLeft x.ring + bitP (x.closer = 0) + keepLeft x.keeper + bitP (x.user = 0) ≤ _
    unfold CrewWorld.left
    have e2 : (⟨0, 0⟩ : CrewHand).left = 1 := rfl
    rw [e2, e1] at hset
    rw [List.length_append]
    simp only [List.length_cons, List.length_nil]
    omega
  have hop := ops_fine (y := (x.h20 i)) h h.form.next.2 (show x.ops ≤ x.ops + 1 by omega) (by show x.ops + 1 + _ ≤ _; omega)
  have hpl : (x.h20 i).Placed := by
    refine placed_perm h.placed (places_perm ?_ rfl) rfl rfl rfl rfl rfl rfl rfl rfl
    show (x.sent ++ x.queue ++ handJobs x.hands ++ x.results).Perm (x.sent ++ x.queue ++ handJobs (x.hands.set i ⟨0, 0⟩) ++ (x.results ++ [(x.hnd i).job]))
    rw [List.append_assoc, List.append_assoc (x.sent ++ x.queue)]
    refine List.Perm.append_left _ ?_
    refine (hp1.append_right _).trans ?_
    refine List.Perm.trans ?_ ((hp2.append_right _).symm)
    show (([(x.hnd i).job] ++ rest) ++ x.results).Perm (([] ++ rest) ++ (x.results ++ [(x.hnd i).job]))
    rw [List.append_assoc, List.nil_append, ← List.append_assoc rest]
    exact List.perm_append_comm
  refine ⟨⟨⟨h.form.start, h.form.next, h.form.due, h.form.room, hop, by show ((x.hands.set i _).length : Int) = x.workers; rw [List.length_set]; exact h.form.hands, h.form.ring, h.form.shut, h.form.queue, by show (((x.results ++ [(x.hnd i).job]).length : Nat) : Int) ≤ x.workers; rw [List.length_append]; simp only [List.length_cons, List.length_nil]; omega, h.form.out, h.form.shuts, fine_set h.form.fine i (⟨⟨by show 0 ≤ (0 : Int); omega, by show (0 : Int) ≤ 3; omega⟩, fun e => absurd rfl e⟩), h.form.reader, h.form.closer, h.form.keeper, h.form.user⟩, hpl, ⟨h.ends.queue, h.ends.results, h.ends.outs, fun hc => absurd (by have := h.ends.closed hc _ (List.getElem_mem hi); rw [hat] at this; exact this : (x.hnd i).state = 3) (by omega), h.ends.stop, h.ends.read, fun h3 hd => h.ends.work h3 (done_set i (by show ¬ (0 : Int) = 3; omega) hd), fun h3 hk => absurd (by have := h.ends.closed (h.ends.keep h3 hk).1 _ (List.getElem_mem hi); rw [hat] at this; exact this : (x.hnd i).state = 3) (by omega), h.ends.use⟩, h.kept, ?_⟩, hlf⟩
  show x.ops + 1 + _ ≤ 11 * x.jobs + x.workers + 7
  have := h.few
  omega
def CrewWorld.h01 (x : CrewWorld) (i : Nat) : CrewWorld := { x with hands := x.hands.set i ⟨1, x.queue[0]?.getD 0⟩, queue := x.queue.drop 1, ops := x.ops + 1 }
theorem ok_h01 {x : CrewWorld} (h : x.ok) {i : Nat} (hi : i < x.hands.length) (hr : (x.hnd i).state = 0) (hq : 0 < x.queue.length) : (x.h01 i).ok ∧ (x.h01 i).left ≤ x.left - 1 := by
  have hat := hnd_at hi
  have hset := handsLeft_set x.hands i hi ⟨1, x.queue[0]?.getD 0⟩
  obtain ⟨rest, hp1, hp2⟩ := handJobs_set x.hands i hi ⟨1, x.queue[0]?.getD 0⟩
  rw [hat] at hset hp1
  have e1 : (x.hnd i).left = 1 := by unfold CrewHand.left; rw [hr]; rfl
  have hb : (x.hnd i).busy = false := by unfold CrewHand.busy; rw [hr]; rfl
  rw [hb] at hp1
  have hlf : (x.h01 i).left ≤ x.left - 1 := by
    show 11 * (x.jobs - x.next) + 9 * ((x.queue.drop 1).length : Int) + 6 * ((x.results).length : Int) + (x.out.length : Int) + readLeft x.reader + handsLeft (x.hands.set i ⟨1, x.queue[0]?.getD 0⟩) + ringLeft x.ring + bitP (x.closer = 0) + keepLeft x.keeper + bitP (x.user = 0) ≤ _
    unfold CrewWorld.left
    have e2 : (⟨1, x.queue[0]?.getD 0⟩ : CrewHand).left = 9 := rfl
    rw [e2, e1] at hset
    rw [List.length_drop]
    omega
  have hop := ops_fine (y := (x.h01 i)) h h.form.next.2 (show x.ops ≤ x.ops + 1 by omega) (by show x.ops + 1 + _ ≤ _; omega)
  have hpl : (x.h01 i).Placed := by
    refine placed_perm h.placed (places_perm ?_ rfl) rfl rfl rfl rfl rfl rfl rfl rfl
    show (x.sent ++ x.queue ++ handJobs x.hands ++ x.results).Perm (x.sent ++ x.queue.drop 1 ++ handJobs (x.hands.set i ⟨1, x.queue[0]?.getD 0⟩) ++ x.results)
    refine List.Perm.append_right _ ?_
    rw [List.append_assoc, List.append_assoc]
    refine List.Perm.append_left _ ?_
    refine (hp1.append_left _).trans ?_
    refine List.Perm.trans ?_ ((hp2.append_left _).symm)
    have e : x.queue = x.queue[0]?.getD 0 :: x.queue.drop 1 := by
      rw [List.getElem?_eq_getElem hq]
      have := List.getElem_cons_drop hq
      rw [List.drop_zero] at this
      exact this.symm
    show (x.queue ++ ([] ++ rest)).Perm (x.queue.drop 1 ++ ([x.queue[0]?.getD 0] ++ rest))
    rw [List.nil_append]
    generalize x.queue[0]?.getD 0 = a at e ⊢
    generalize x.queue.drop 1 = b at e ⊢
    rw [e]
    exact List.perm_middle.symm
  refine ⟨⟨⟨h.form.start, h.form.next, h.form.due, h.form.room, hop, by show ((x.hands.set i _).length : Int) = x.workers; rw [List.length_set]; exact h.form.hands, h.form.ring, h.form.shut, by show ((x.queue.drop 1).length : Int) ≤ x.workers; rw [List.length_drop]; have := h.form.queue; omega, h.form.results, h.form.out, h.form.shuts, fine_set h.form.fine i (⟨⟨by show 0 ≤ (1 : Int); omega, by show (1 : Int) ≤ 3; omega⟩, fun _ => Or.inl rfl⟩), h.form.reader, h.form.closer, h.form.keeper, h.form.user⟩, hpl, ⟨h.ends.queue, h.ends.results, h.ends.outs, fun hc => absurd (by have := h.ends.closed hc _ (List.getElem_mem hi); rw [hat] at this; exact this : (x.hnd i).state = 3) (by omega), h.ends.stop, h.ends.read, fun h3 hd => absurd (h.ends.work h3 (done_set i (by show ¬ (1 : Int) = 3; omega) hd)).2 (by omega), h.ends.keep, h.ends.use⟩, h.kept, ?_⟩, hlf⟩
  show x.ops + 1 + _ ≤ 11 * x.jobs + x.workers + 7
  have := h.few
  omega
def CrewWorld.h03 (x : CrewWorld) (i : Nat) : CrewWorld := { x with hands := x.hands.set i ⟨3, 0⟩, ops := x.ops + 1 }
theorem ok_h03 {x : CrewWorld} (h : x.ok) {i : Nat} (hi : i < x.hands.length) (hr : (x.hnd i).state = 0) (hq : x.queue.length = 0) (h0 : x.sh 0 = 1) : (x.h03 i).ok ∧ (x.h03 i).left ≤ x.left - 1 := by
  have hat := hnd_at hi
  have hset := handsLeft_set x.hands i hi ⟨3, 0⟩
  obtain ⟨rest, hp1, hp2⟩ := handJobs_set x.hands i hi ⟨3, 0⟩
  rw [hat] at hset hp1
  have e1 : (x.hnd i).left = 1 := by unfold CrewHand.left; rw [hr]; rfl
  have hb : (x.hnd i).busy = false := by unfold CrewHand.busy; rw [hr]; rfl
  rw [hb] at hp1
  have hlf : (x.h03 i).left ≤ x.left - 1 := by
    show 11 * (x.jobs - x.next) + 9 * ((x.queue).length : Int) + 6 * ((x.results).length : Int) + (x.out.length : Int) + readLeft x.reader + handsLeft (x.hands.set i ⟨3, 0⟩) + ringLeft x.ring + bitP (x.closer = 0) + keepLeft x.keeper + bitP (x.user = 0) ≤ _
    unfold CrewWorld.left
    have e2 : (⟨3, 0⟩ : CrewHand).left = 0 := rfl
    rw [e2, e1] at hset
    omega
  have hop := ops_fine (y := (x.h03 i)) h h.form.next.2 (show x.ops ≤ x.ops + 1 by omega) (by show x.ops + 1 + _ ≤ _; omega)
  have hpl : (x.h03 i).Placed := by
    refine placed_perm h.placed (places_perm ?_ rfl) rfl rfl rfl rfl rfl rfl rfl rfl
    exact List.Perm.append_right _ (List.Perm.append_left _ (hp1.trans hp2.symm))
  refine ⟨⟨⟨h.form.start, h.form.next, h.form.due, h.form.room, hop, by show ((x.hands.set i _).length : Int) = x.workers; rw [List.length_set]; exact h.form.hands, h.form.ring, h.form.shut, h.form.queue, h.form.results, h.form.out, h.form.shuts, fine_set h.form.fine i (⟨⟨by show 0 ≤ (3 : Int); omega, by show (3 : Int) ≤ 3; omega⟩, fun e => absurd rfl e⟩), h.form.reader, h.form.closer, h.form.keeper, h.form.user⟩, hpl, ⟨h.ends.queue, h.ends.results, h.ends.outs, fun hc => absurd (by have := h.ends.closed hc _ (List.getElem_mem hi); rw [hat] at this; exact this : (x.hnd i).state = 3) (by omega), h.ends.stop, h.ends.read, fun _ _ => ⟨by have := h.ends.queue; unfold bitP at this; split at this <;> first | assumption | omega, hq⟩, h.ends.keep, h.ends.use⟩, h.kept, ?_⟩, hlf⟩
  show x.ops + 1 + _ ≤ 11 * x.jobs + x.workers + 7
  have := h.few
  omega
def CrewWorld.h3s (x : CrewWorld) (i : Nat) : CrewWorld := { x with hands := x.hands.set i ⟨3, 0⟩ }
theorem ok_h3s {x : CrewWorld} (h : x.ok) {i : Nat} (hi : i < x.hands.length) (hr : (x.hnd i).state = 0 ∨ (x.hnd i).state = 2) (hs : x.sh 3 = 1) : (x.h3s i).ok ∧ (x.h3s i).left ≤ x.left - 1 := by
  have hat := hnd_at hi
  have hset := handsLeft_set x.hands i hi ⟨3, 0⟩
  obtain ⟨rest, hp1, hp2⟩ := handJobs_set x.hands i hi ⟨3, 0⟩
  rw [hat] at hset hp1
  have e1 : 1 ≤ (x.hnd i).left := by
    unfold CrewHand.left
    rcases hr with e | e <;> rw [e] <;> decide
  have hlf : (x.h3s i).left ≤ x.left - 1 := by
    show 11 * (x.jobs - x.next) + 9 * ((x.queue).length : Int) + 6 * ((x.results).length : Int) + (x.out.length : Int) + readLeft x.reader + handsLeft (x.hands.set i ⟨3, 0⟩) + ringLeft x.ring + bitP (x.closer = 0) + keepLeft x.keeper + bitP (x.user = 0) ≤ _
    unfold CrewWorld.left
    have e2 : (⟨3, 0⟩ : CrewHand).left = 0 := rfl
    rw [e2] at hset
    omega
  have hop := ops_fine (y := (x.h3s i)) h h.form.next.2 (show x.ops ≤ x.ops by omega) (by show x.ops + _ ≤ _; omega)
  have hpl : (x.h3s i).Placed := by
    refine placed_less h.placed ?_ rfl rfl hs rfl rfl rfl rfl rfl
    show (x.sent ++ x.queue ++ handJobs (x.hands.set i ⟨3, 0⟩) ++ x.results ++ x.ring.filter _).Sublist _
    exact List.Sublist.append (List.Sublist.append (List.Sublist.append (List.Sublist.refl _) (handJobs_idle _ i hi _ rfl)) (List.Sublist.refl _)) (List.Sublist.refl _)
  refine ⟨⟨⟨h.form.start, h.form.next, h.form.due, h.form.room, hop, by show ((x.hands.set i _).length : Int) = x.workers; rw [List.length_set]; exact h.form.hands, h.form.ring, h.form.shut, h.form.queue, h.form.results, h.form.out, h.form.shuts, fine_set h.form.fine i (⟨⟨by show 0 ≤ (3 : Int); omega, by show (3 : Int) ≤ 3; omega⟩, fun e => absurd rfl e⟩), h.form.reader, h.form.closer, h.form.keeper, h.form.user⟩, hpl, ⟨h.ends.queue, h.ends.results, h.ends.outs, fun hc => absurd (by have := h.ends.closed hc _ (List.getElem_mem hi); rw [hat] at this; exact this : (x.hnd i).state = 3) (by rcases hr with e | e <;> omega), h.ends.stop, h.ends.read, fun h3 _ => absurd hs h3, h.ends.keep, h.ends.use⟩, h.kept, ?_⟩, hlf⟩
  show x.ops + _ ≤ 11 * x.jobs + x.workers + 7
  have := h.few
  omega
end Go.Proofs.Ytpkjjfnfolbcoaa
set_option linter.unusedVariables false
set_option linter.unusedSimpArgs false
namespace Go.Proofs.Ytpkjjfnfolbcoaa
open Go.ChangeShapes Go.WideShapes Go.ChangeAt Go.RowKit

theorem places_ring (x : CrewWorld) : x.places = x.sent ++ x.queue ++ handJobs x.hands ++ x.results ++ jobsIn x.ring := rfl
theorem mod_same {a b d w : Int} (hw : 0 < w) (ha : d ≤ a) (ha' : a < d + w) (hb : d ≤ b) (hb' : b < d + w) (e : a % w = b % w) : a = b := by
  have h1 := Int.emod_add_mul_ediv a w
  have h2 := Int.emod_add_mul_ediv b w
  rcases Int.lt_trichotomy (a / w) (b / w) with q | q | q
  · have h3 : w * (a / w + 1) ≤ w * (b / w) := Int.mul_le_mul_of_nonneg_left (by omega) (by omega)
    rw [Int.mul_add, Int.mul_one] at h3
    omega
  · rw [q] at h1
    omega
  · have h3 : w * (b / w + 1) ≤ w * (a / w) := Int.mul_le_mul_of_nonneg_left (by omega) (by omega)
    rw [Int.mul_add, Int.mul_one] at h3
    omega
theorem slot_lt {x : CrewWorld} (h : x.ok) (j : Int) : 0 < x.window ∧ 0 ≤ j % x.window ∧ (j % x.window).toNat < x.ring.length := by
  have h1 := h.form.start
  have h2 := h.form.ring
  unfold crewOk at h1
  have hw : 0 < x.window := by omega
  have h3 := Int.emod_nonneg j (show x.window ≠ 0 by omega)
  have h4 := Int.emod_lt_of_pos j hw
  refine ⟨hw, h3, by omega⟩
theorem mem_ring {x : CrewWorld} {j : Int} (h0 : 0 ≤ j) (h : j ∈ x.ring) : j ∈ jobsIn x.ring := by
  unfold jobsIn
  rw [List.mem_filter]
  exact ⟨h, by simpa using h0⟩
/-- the place of a job that came as a result is free -/
theorem slot_free {x : CrewWorld} (h : x.ok) (hk : x.keeper ≠ 3) {j : Int} (hj : j ∈ x.results) (hl : (j % x.window).toNat < x.ring.length) : ¬ 0 ≤ x.ring[(j % x.window).toNat] := by
  intro h0
  obtain ⟨hw, hm, _⟩ := slot_lt h j
  have h1 := (h.placed.ring _ hl).2 h0
  have hin := mem_ring h0 (List.getElem_mem hl)
  have hr := h.placed.room
  have e1 : bitP (x.keeper = 3) = 0 := by unfold bitP; rw [if_neg hk]
  have hrm := h.form.room
  have hn := h.placed.once
  rw [places_ring, List.nodup_append] at hn
  have w1 := h.placed.within j (by rw [places_ring]; simp [hj])
  have w2 := h.placed.within _ (by rw [places_ring]; exact List.mem_append_right _ hin)
  have e := mod_same hw (a := x.ring[(j % x.window).toNat]) (b := j) (d := x.due) w2.1 (by omega) w1.1 (by omega) (by rw [h1]; omega)
  exact hn.2.2 j (List.mem_append_right _ hj) _ hin e.symm
def CrewWorld.k01 (x : CrewWorld) : CrewWorld := { x with results := x.results.drop 1, ring := x.ring.set ((x.results[0]?.getD 0) % x.window).toNat (x.results[0]?.getD 0), keeper := 1, ops := x.ops + 1 }
/-- the keeper takes a result -/
theorem ok_k01 {x : CrewWorld} (h : x.ok) (hr : x.keeper = 0) (hq : 0 < x.results.length) : x.k01.ok ∧ x.k01.left ≤ x.left - 1 := by
  have hj : x.results = x.results[0]?.getD 0 :: x.results.drop 1 := by
    rw [List.getElem?_eq_getElem hq]
    have := List.getElem_cons_drop hq
    rw [List.drop_zero] at this
    exact this.symm
  have hdef : x.k01 = { x with results := x.results.drop 1, ring := x.ring.set ((x.results[0]?.getD 0) % x.window).toNat (x.results[0]?.getD 0), keeper := 1, ops := x.ops + 1 } := rfl
  have hjm : x.results[0]?.getD 0 ∈ x.results := by
    rw [List.getElem?_eq_getElem hq]
    exact List.getElem_mem hq
  generalize x.results[0]?.getD 0 = j at hj hdef hjm
  have hlen : (x.results.drop 1).length = x.results.length - 1 := List.length_drop
  generalize x.results.drop 1 = res at hj hdef hlen
  obtain ⟨hw, hm, hl⟩ := slot_lt h j
  have hfree := slot_free h (by omega) hjm hl
  have hj0 : 0 ≤ j := by
    have := h.placed.within j (by rw [places_ring]; simp [hjm])
    have := h.form.due
    omega
  have hrl := ringLeft_set x.ring _ hl j
  obtain ⟨rest, hp1, hp2⟩ := ring_set x.ring _ hl j
  rw [if_neg hfree, if_pos hj0] at hrl
  rw [if_neg hfree] at hp1
  rw [if_pos hj0] at hp2
  rw [hdef]
  generalize hy : ({ x with results := res, ring := x.ring.set (j % x.window).toNat j, keeper := 1, ops := x.ops + 1 } : CrewWorld) = y
  have hlf : y.left ≤ x.left - 1 := by
    rw [← hy]
    show 11 * (x.jobs - x.next) + 9 * (x.queue.length : Int) + 6 * (res.length : Int) + (x.out.length : Int) + readLeft x.reader + handsLeft x.hands + ringLeft (x.ring.set (j % x.window).toNat j) + bitP (x.closer = 0) + keepLeft 1 + bitP (x.user = 0) ≤ _
    unfold CrewWorld.left
    have e1 : keepLeft x.keeper = 2 := by rw [hr]; rfl
    have e2 : keepLeft 1 = 3 := rfl
    rw [e1, e2, hrl]
    omega
  have hpl : x.places.Perm y.places := by
    rw [← hy, places_ring, places_ring]
    show (x.sent ++ x.queue ++ handJobs x.hands ++ x.results ++ jobsIn x.ring).Perm (x.sent ++ x.queue ++ handJobs x.hands ++ res ++ jobsIn (x.ring.set (j % x.window).toNat j))
    rw [List.append_assoc, List.append_assoc (x.sent ++ x.queue ++ handJobs x.hands)]
    refine List.Perm.append_left _ ?_
    refine (hp1.append_left _).trans ?_
    refine List.Perm.trans ?_ ((hp2.append_left _).symm)
    rw [hj]
    exact List.perm_middle.symm
  have ho1 : y.ops = x.ops + 1 := by rw [← hy]
  have hop := ops_fine (y := y) h (by rw [← hy]; exact h.form.next.2) (by omega) (by omega)
  subst hy
  have hb : bitP (x.keeper = 3) = 0 := by unfold bitP; rw [if_neg (by omega)]
  refine ⟨⟨⟨h.form.start, h.form.next, h.form.due, h.form.room, hop, h.form.hands, by show ((x.ring.set _ _).length : Int) = x.window; rw [List.length_set]; exact h.form.ring, h.form.shut, h.form.queue, by show (res.length : Int) ≤ x.workers; have := h.form.results; omega, h.form.out, h.form.shuts, h.form.fine, h.form.reader, h.form.closer, by show 0 ≤ (1 : Int) ∧ (1 : Int) ≤ 5; omega, h.form.user⟩, ⟨fun k hk => h.placed.within k (hpl.mem_iff.2 hk), hpl.nodup_iff.1 h.placed.once, fun h0 => by rw [← hpl.length_eq]; exact h.placed.all h0, ?_, h.placed.got, h.placed.due, h.placed.out, ?_⟩, ⟨h.ends.queue, h.ends.results, by rw [show ∀ a : Int, (a = bitP ((1 : Int) = 5)) = (a = 0) from fun _ => rfl]; have := h.ends.outs; unfold bitP at this; rw [if_neg (by omega)] at this; exact this, h.ends.closed, h.ends.stop, h.ends.read, h.ends.work, fun _ hk => absurd (show 4 ≤ (1 : Int) from hk) (by omega), fun h3 hu => absurd (h.ends.use h3 hu).1 (by omega)⟩, ⟨fun e => absurd (show (1 : Int) = 0 from e) (by omega), fun e => absurd (show (1 : Int) = 2 from e) (by omega)⟩, ?_⟩, hlf⟩
  · intro i hi
    have hi' : i < (x.ring.set (j % x.window).toNat j).length := hi
    show -1 ≤ (x.ring.set (j % x.window).toNat j)[i] ∧ (0 ≤ (x.ring.set (j % x.window).toNat j)[i] → (x.ring.set (j % x.window).toNat j)[i] % x.window = (i : Int))
    rw [List.getElem_set]
    by_cases e : (j % x.window).toNat = i
    · rw [if_pos e]
      refine ⟨by omega, fun _ => by omega⟩
    · rw [if_neg e]
      exact h.placed.ring i (by rw [List.length_set] at hi'; exact hi')
  · show x.room + x.next - x.due + bitP ((1 : Int) = 3) = x.window
    have e2 : bitP ((1 : Int) = 3) = 0 := rfl
    have := h.placed.room
    rw [e2]
    omega
  · show x.ops + 1 + _ ≤ 11 * x.jobs + x.workers + 7
    have := h.few
    omega
end Go.Proofs.Ytpkjjfnfolbcoaa
set_option linter.unusedVariables false
set_option linter.unusedSimpArgs false
namespace Go.Proofs.Ytpkjjfnfolbcoaa
open Go.ChangeShapes Go.WideShapes Go.ChangeAt Go.RowKit

def CrewWorld.k23 (x : CrewWorld) : CrewWorld := { x with ring := x.ring.set (x.due % x.window).toNat (-1), out := x.out ++ [x.due], due := x.due + 1, keeper := 3, ops := x.ops + 1 }
/-- the keeper gives the due job -/
theorem ok_k23 {x : CrewWorld} (h : x.ok) (hr : x.keeper = 2) (hq : x.out.length = 0) : x.k23.ok ∧ x.k23.left ≤ x.left - 1 := by
  have hout : x.out = [] := List.length_eq_zero_iff.1 hq
  have hdef : x.k23 = { x with ring := x.ring.set (x.due % x.window).toNat (-1), out := [x.due], due := x.due + 1, keeper := 3, ops := x.ops + 1 } := by
    unfold CrewWorld.k23
    rw [hout]
    rfl
  obtain ⟨hw, hm, hl⟩ := slot_lt h x.due
  have hin : x.ring[(x.due % x.window).toNat] = x.due := by
    have := h.kept.2 hr
    unfold CrewWorld.dueIn at this
    rw [List.getElem?_eq_getElem hl] at this
    exact Option.some.inj this
  have hd0 := h.form.due
  have hrl := ringLeft_set x.ring _ hl (-1)
  obtain ⟨rest, hp1, hp2⟩ := ring_set x.ring _ hl (-1)
  rw [hin, if_pos (by omega), if_neg (by omega)] at hrl
  rw [hin, if_pos (by omega)] at hp1
  rw [if_neg (by omega)] at hp2
  rw [hdef]
  generalize hy : ({ x with ring := x.ring.set (x.due % x.window).toNat (-1), out := [x.due], due := x.due + 1, keeper := 3, ops := x.ops + 1 } : CrewWorld) = y
  have hlf : y.left ≤ x.left - 1 := by
    rw [← hy]
    show 11 * (x.jobs - x.next) + 9 * (x.queue.length : Int) + 6 * (x.results.length : Int) + (([x.due].length : Nat) : Int) + readLeft x.reader + handsLeft x.hands + ringLeft (x.ring.set (x.due % x.window).toNat (-1)) + bitP (x.closer = 0) + keepLeft 3 + bitP (x.user = 0) ≤ _
    unfold CrewWorld.left
    have e1 : keepLeft x.keeper = 2 := by rw [hr]; rfl
    have e2 : keepLeft 3 = 4 := rfl
    rw [e1, e2, hrl]
    simp only [List.length_cons, List.length_nil]
    omega
  have hpl : x.places.Perm (x.due :: y.places) := by
    rw [← hy, places_ring, places_ring]
    show (x.sent ++ x.queue ++ handJobs x.hands ++ x.results ++ jobsIn x.ring).Perm (x.due :: (x.sent ++ x.queue ++ handJobs x.hands ++ x.results ++ jobsIn (x.ring.set (x.due % x.window).toNat (-1))))
    refine (hp1.append_left _).trans ?_
    refine List.Perm.trans ?_ ((hp2.append_left _).symm.cons _)
    exact List.perm_middle
  have ho1 : y.ops = x.ops + 1 := by rw [← hy]
  have hop := ops_fine (y := y) h (by rw [← hy]; exact h.form.next.2) (by omega) (by omega)
  have hnd := hpl.nodup_iff.1 h.placed.once
  rw [List.nodup_cons] at hnd
  have hlen := hpl.length_eq
  rw [List.length_cons] at hlen
  have hwd := h.placed.within x.due (hpl.mem_iff.2 (List.mem_cons_self ..))
  subst hy
  have hb : bitP (x.keeper = 3) = 0 := by unfold bitP; rw [if_neg (by omega)]
  have hb3 : bitP ((3 : Int) = 3) = 1 := rfl
  have hg := h.placed.due
  rw [hout] at hg
  simp only [List.length_nil] at hg
  refine ⟨⟨⟨h.form.start, h.form.next, by show 0 ≤ x.due + 1 ∧ x.due + 1 ≤ x.next; omega, h.form.room, hop, h.form.hands, by show ((x.ring.set _ _).length : Int) = x.window; rw [List.length_set]; exact h.form.ring, h.form.shut, h.form.queue, h.form.results, by show [x.due].length ≤ 1; exact Nat.le_refl _, h.form.shuts, h.form.fine, h.form.reader, h.form.closer, by show 0 ≤ (3 : Int) ∧ (3 : Int) ≤ 5; omega, h.form.user⟩, ⟨?_, hnd.2, ?_, ?_, h.placed.got, ?_, ?_, ?_⟩, ⟨h.ends.queue, h.ends.results, by rw [show ∀ a : Int, (a = bitP ((3 : Int) = 5)) = (a = 0) from fun _ => rfl]; have := h.ends.outs; unfold bitP at this; rw [if_neg (by omega)] at this; exact this, h.ends.closed, h.ends.stop, h.ends.read, h.ends.work, fun _ hk => absurd (show 4 ≤ (3 : Int) from hk) (by omega), fun h3 hu => absurd (h.ends.use h3 hu).1 (by omega)⟩, ⟨fun e => absurd (show (3 : Int) = 0 from e) (by omega), fun e => absurd (show (3 : Int) = 2 from e) (by omega)⟩, ?_⟩, hlf⟩
  · intro k hk
    have h1 := h.placed.within k (hpl.mem_iff.2 (List.mem_cons_of_mem _ hk))
    have h2 : k ≠ x.due := fun e => hnd.1 (e ▸ hk)
    show x.due + 1 ≤ k ∧ k ≤ x.next - 1
    omega
  · intro h0
    have := h.placed.all h0
    show _ = x.next - (x.due + 1)
    omega
  · intro i hi
    have hi' : i < (x.ring.set (x.due % x.window).toNat (-1)).length := hi
    show -1 ≤ (x.ring.set (x.due % x.window).toNat (-1))[i] ∧ (0 ≤ (x.ring.set (x.due % x.window).toNat (-1))[i] → (x.ring.set (x.due % x.window).toNat (-1))[i] % x.window = (i : Int))
    rw [List.getElem_set]
    by_cases e : (x.due % x.window).toNat = i
    · rw [if_pos e]
      refine ⟨by omega, fun e0 => absurd e0 (by omega)⟩
    · rw [if_neg e]
      exact h.placed.ring i (by rw [List.length_set] at hi'; exact hi')
  · show x.due + 1 = (x.got.length : Int) + (([x.due].length : Nat) : Int)
    simp only [List.length_cons, List.length_nil]
    omega
  · intro j hj
    have hj' : j ∈ [x.due] := hj
    rw [List.mem_singleton] at hj'
    show j = (x.got.length : Int)
    omega
  · show x.room + x.next - (x.due + 1) + bitP ((3 : Int) = 3) = x.window
    have := h.placed.room
    rw [hb3]
    omega
  · show x.ops + 1 + _ ≤ 11 * x.jobs + x.workers + 7
    have := h.few
    omega
end Go.Proofs.Ytpkjjfnfolbcoaa
set_option linter.unusedVariables false
set_option linter.unusedSimpArgs false
namespace Go.Proofs.Ytpkjjfnfolbcoaa
open Go.ChangeShapes Go.WideShapes Go.ChangeAt Go.RowKit

noncomputable def CrewWorld.doHand (x : CrewWorld) (i : Nat) (k : Int) : CrewWorld :=
  if k = 2 then x.h03 i else if 0 < k then x.h3s i else if (x.hnd i).state = 0 then x.h01 i else if (x.hnd i).state = 1 then x.h12 i else x.h20 i
open Classical in
noncomputable def CrewWorld.doKeeper (x : CrewWorld) (k : Int) : CrewWorld :=
  if k = 2 then x.k4e else if 0 < k then x.k4s else if x.keeper = 0 then x.k01 else if x.keeper = 1 then (if x.dueIn then x.k12 else x.k10) else if x.keeper = 2 then x.k23 else if x.keeper = 3 then x.k31 else x.k5
noncomputable def CrewWorld.step (x : CrewWorld) (who : Nat) (k : Int) : CrewWorld :=
  if who = 0 then x.doReader k else if (who : Int) ≤ x.workers then x.doHand (who - 1) k else if (who : Int) = x.workers + 1 then x.c1
  else if (who : Int) = x.workers + 2 then x.doKeeper k else if k = 0 then x.u0 else x.u1
theorem ok_rd {x : CrewWorld} (h : x.ok) {k : Nat} (hk : x.rd[k]? = some true) : (x.doReader (k : Int)).ok ∧ (x.doReader (k : Int)).left ≤ x.left - 1 := by
  have hr := h.form.reader
  unfold CrewWorld.rd at hk
  unfold CrewWorld.doReader
  by_cases r0 : x.reader = 0
  · rw [if_pos r0] at hk
    rw [if_neg (show ¬ x.reader = 2 by omega)]
    by_cases hn : x.next = x.jobs
    · rw [if_pos hn] at hk
      rcases k with _ | _ | _ | k
      · simp at hk
      · simp at hk
      · rw [if_pos (by omega)]
        exact ok_r2 h (.inl r0) (.inr ⟨r0, hn⟩)
      · simp at hk
    · rw [if_neg hn] at hk
      rcases k with _ | _ | _ | k
      · rw [if_neg (by omega), if_pos r0]
        obtain ⟨a, b⟩ := ok_r01 h r0 hn (by simpa using hk)
        exact ⟨a, by omega⟩
      · rw [if_pos (by omega)]
        exact ok_r2 h (.inl r0) (.inl (by simpa using hk))
      · simp at hk
      · simp at hk
  · rw [if_neg r0] at hk
    by_cases r1 : x.reader = 1
    · rw [if_pos r1] at hk
      rw [if_neg (show ¬ x.reader = 2 by omega)]
      rcases k with _ | _ | k
      · rw [if_neg (by omega), if_neg r0]
        obtain ⟨a, b⟩ := ok_r10 h r1 (by simpa using hk)
        exact ⟨a, by have b' := b; unfold CrewWorld.r10 at b'; omega⟩
      · rw [if_pos (by omega)]
        exact ok_r2 h (.inr r1) (.inl (by simpa using hk))
      · simp at hk
    · rw [if_neg r1] at hk
      by_cases r2 : x.reader = 2
      · rw [if_pos r2]
        exact ok_r3 h r2
      · rw [if_neg r2] at hk
        simp at hk
theorem ok_kp {x : CrewWorld} (h : x.ok) {k : Nat} (hk : x.kw[k]? = some true) : (x.doKeeper (k : Int)).ok ∧ (x.doKeeper (k : Int)).left ≤ x.left - 1 := by
  have hr := h.form.keeper
  unfold CrewWorld.kw at hk
  unfold CrewWorld.doKeeper
  by_cases r0 : x.keeper = 0
  · rw [if_pos r0] at hk
    rcases k with _ | _ | _ | k
    · rw [if_neg (by omega), if_neg (by omega), if_pos r0]
      exact ok_k01 h r0 (by simpa using hk)
    · rw [if_neg (by omega), if_pos (by omega)]
      exact ok_k4s h (.inl r0) (by simpa using hk)
    · rw [if_pos (by omega)]
      have hk' : decide (x.results.length = 0) = true ∧ (x.sh 1 == 1) = true := by
        have := Option.some.inj hk
        rwa [Bool.and_eq_true] at this
      exact ok_k4e h r0 (of_decide_eq_true hk'.1) (by simpa using hk'.2)
    · simp at hk
  · rw [if_neg r0] at hk
    by_cases r2 : x.keeper = 2
    · rw [if_pos r2] at hk
      rcases k with _ | _ | k
      · rw [if_neg (by omega), if_neg (by omega), if_neg r0, if_neg (by omega), if_pos r2]
        exact ok_k23 h r2 (of_decide_eq_true (Option.some.inj hk))
      · rw [if_neg (by omega), if_pos (by omega)]
        exact ok_k4s h (.inr r2) (by simpa using hk)
      · simp at hk
    · rw [if_neg r2] at hk
      by_cases r5 : x.keeper = 5
      · rw [if_pos r5] at hk
        simp at hk
      · rw [if_neg r5] at hk
        rcases k with _ | k
        · rw [if_neg (by omega), if_neg (by omega), if_neg r0]
          by_cases r1 : x.keeper = 1
          · rw [if_pos r1]
            split
            · exact ok_k12 h r1 (by assumption)
            · exact ok_k10 h r1 (by assumption)
          · rw [if_neg r1, if_neg r2]
            by_cases r3 : x.keeper = 3
            · rw [if_pos r3]
              exact ok_k31 h r3
            · rw [if_neg r3]
              exact ok_k5 h (by omega)
        · simp at hk
theorem ok_hd {x : CrewWorld} (h : x.ok) {i : Nat} (hi : i < x.hands.length) {k : Nat} (hk : (x.hw (x.hnd i))[k]? = some true) : (x.doHand i (k : Int)).ok ∧ (x.doHand i (k : Int)).left ≤ x.left - 1 := by
  unfold CrewWorld.hw at hk
  unfold CrewWorld.doHand
  by_cases r0 : (x.hnd i).state = 0
  · rw [if_pos r0] at hk
    rcases k with _ | _ | _ | k
    · rw [if_neg (by omega), if_neg (by omega), if_pos r0]
      exact ok_h01 h hi r0 (by simpa using hk)
    · rw [if_neg (by omega), if_pos (by omega)]
      exact ok_h3s h hi (.inl r0) (by simpa using hk)
    · rw [if_pos (by omega)]
      have hk' : decide (x.queue.length = 0) = true ∧ (x.sh 0 == 1) = true := by
        have := Option.some.inj hk
        rwa [Bool.and_eq_true] at this
      exact ok_h03 h hi r0 (of_decide_eq_true hk'.1) (by simpa using hk'.2)
    · simp at hk
  · rw [if_neg r0] at hk
    by_cases r1 : (x.hnd i).state = 1
    · rw [if_pos r1] at hk
      rcases k with _ | k
      · rw [if_neg (by omega), if_neg (by omega), if_neg r0, if_pos r1]
        exact ok_h12 h hi r1
      · simp at hk
    · rw [if_neg r1] at hk
      by_cases r2 : (x.hnd i).state = 2
      · rw [if_pos r2] at hk
        rcases k with _ | _ | k
        · rw [if_neg (by omega), if_neg (by omega), if_neg r0, if_neg r1]
          exact ok_h20 h hi r2 (by simpa using hk)
        · rw [if_neg (by omega), if_pos (by omega)]
          exact ok_h3s h hi (.inr r2) (by simpa using hk)
        · simp at hk
      · rw [if_neg r2] at hk
        simp at hk
end Go.Proofs.Ytpkjjfnfolbcoaa
set_option linter.unusedVariables false
set_option linter.unusedSimpArgs false
namespace Go.Proofs.Ytpkjjfnfolbcoaa
open Go.ChangeShapes Go.WideShapes Go.ChangeAt Go.RowKit

theorem ok_step {x : CrewWorld} (h : x.ok) {who k : Nat} (hk : (x.ways who)[k]? = some true) : (x.step who (k : Int)).ok ∧ (x.step who (k : Int)).left ≤ x.left - 1 := by
  have hu := h.form.user
  have hh := h.form.hands
  unfold CrewWorld.ways at hk
  unfold CrewWorld.step
  by_cases w0 : who = 0
  · rw [if_pos w0] at hk
    rw [if_pos w0]
    exact ok_rd h hk
  · rw [if_neg w0] at hk
    rw [if_neg w0]
    by_cases w1 : (who : Int) ≤ x.workers
    · rw [if_pos w1] at hk
      rw [if_pos w1]
      exact ok_hd h (show who - 1 < x.hands.length by omega) hk
    · rw [if_neg w1] at hk
      rw [if_neg w1]
      by_cases w2 : (who : Int) = x.workers + 1
      · rw [if_pos w2] at hk
        rw [if_pos w2]
        rcases k with _ | k
        · have hk' : (x.closer == 0) = true ∧ tb x.allDone = true := by
            have := Option.some.inj hk
            rwa [Bool.and_eq_true] at this
          exact ok_c1 h (by simpa using hk'.1) (Classical.byContradiction (fun q => by rw [tb_false q] at hk'; cases hk'.2))
        · simp at hk
      · rw [if_neg w2] at hk
        rw [if_neg w2]
        by_cases w3 : (who : Int) = x.workers + 2
        · rw [if_pos w3] at hk
          rw [if_pos w3]
          exact ok_kp h hk
        · rw [if_neg w3] at hk
          rw [if_neg w3]
          by_cases u : x.user = 1
          · rw [if_pos u] at hk
            simp at hk
          · rw [if_neg u] at hk
            rcases k with _ | _ | k
            · rw [if_pos (by omega)]
              exact ok_u0 h (by omega) (of_decide_eq_true (Option.some.inj hk))
            · rw [if_neg (by omega)]
              have hk' : decide (x.out.length = 0) = true ∧ (x.sh 2 == 1) = true := by
                have := Option.some.inj hk
                rwa [Bool.and_eq_true] at this
              exact ok_u1 h (by omega) (of_decide_eq_true hk'.1) (by simpa using hk'.2)
            · simp at hk
end Go.Proofs.Ytpkjjfnfolbcoaa
