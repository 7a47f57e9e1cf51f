/-
  A play that nobody stops: each step lowers what is left by one, and in the end all has come: plain.
-/
import Derived.Test.YtpkjjfnfolbcoaaQWays
import Derived.Test.YtpkjjfnfolbcoaaQPlayL
set_option linter.unusedVariables false
set_option linter.unusedSimpArgs false
namespace Go.Proofs.Ytpkjjfnfolbcoaa
open Go.ChangeShapes Go.WideShapes Go.ChangeAt Go.RowKit

theorem interval_le : ∀ (n : Nat) (a : Int) (l : List Int), l.Nodup → (∀ j ∈ l, a ≤ j ∧ j < a + (n : Int)) → l.length ≤ n
  | 0, a, l, _, h => by
    cases l with
    | nil => exact Nat.le_refl _
    | cons j l =>
      have := h j (List.mem_cons_self ..)
      omega
  | n + 1, a, l, hn, h => by
    have h1 := interval_le n a (l.erase (a + (n : Int))) (hn.erase _) (fun j hj => by
      have h2 := hn.mem_erase_iff.1 hj
      have h3 := h j h2.2
      have h4 := h2.1
      omega)
    rw [List.length_erase] at h1
    split at h1 <;> omega
/-- where all jobs that are under way lie in the ring, the due one does -/
theorem due_ring {x : CrewWorld} (h : x.ok) (hs : x.sh 3 ≠ 1) (hp : x.places = jobsIn x.ring) (hd : x.due < x.next) : x.dueIn := by
  have hs0 : x.sh 3 = 0 := by
    have := sh_bit h.form 3 (by omega)
    omega
  have hl := h.placed.all hs0
  have hm : x.due ∈ x.places := Classical.byContradiction fun hne => by
    have := interval_le (x.next - x.due - 1).toNat (x.due + 1) x.places h.placed.once (fun j hj => by
      have h1 := h.placed.within j hj
      have h2 : j ≠ x.due := fun e => hne (e ▸ hj)
      omega)
    omega
  rw [hp] at hm
  have hm2 : x.due ∈ x.ring := (List.mem_filter.1 hm).1
  obtain ⟨i, hi, e⟩ := List.getElem_of_mem hm2
  have h3 := (h.placed.ring i hi).2 (by have := h.form.due; omega)
  unfold CrewWorld.dueIn
  rw [e] at h3
  rw [h3, Int.toNat_natCast, List.getElem?_eq_getElem hi, e]
theorem idle_jobs : ∀ (l : List CrewHand), (∀ y ∈ l, y.busy = false) → handJobs l = []
  | [], _ => rfl
  | y :: l, h => by
    rw [handJobs_cons, h y (List.mem_cons_self ..), idle_jobs l (fun z hz => h z (List.mem_cons_of_mem _ hz))]
    rfl
theorem done_left : ∀ (l : List CrewHand), (∀ y ∈ l, y.state = 3) → handsLeft l = 0
  | [], _ => rfl
  | y :: l, h => by
    have e : y.left = 0 := by
      have := h y (List.mem_cons_self ..)
      unfold CrewHand.left
      rw [this]
      rfl
    show y.left + handsLeft l = 0
    rw [e, done_left l (fun z hz => h z (List.mem_cons_of_mem _ hz))]
    rfl
theorem one_hand {x : CrewWorld} (h : x.ok) : 0 < x.hands.length := by
  have h1 := h.form.start
  unfold crewOk at h1
  have h2 := h.form.hands
  omega
theorem done_reader {x : CrewWorld} (h : x.ok) (hs : x.sh 3 ≠ 1) (ha : x.allDone) : x.reader = 3 ∧ x.queue.length = 0 :=
  h.ends.work hs ⟨x.hands[0]'(one_hand h), List.getElem_mem _, ha _ (List.getElem_mem _)⟩
theorem done_busy {l : List CrewHand} (h : ∀ y ∈ l, y.state = 3) : ∀ y ∈ l, y.busy = false := fun y hy => by
  unfold CrewHand.busy
  rw [h y hy]
  rfl
/-- what the closer's end says -/
theorem closed_places {x : CrewWorld} (h : x.ok) (hs : x.sh 3 ≠ 1) (hc : x.closer = 1) (hr : x.results.length = 0) : x.reader = 3 ∧ x.queue.length = 0 ∧ x.allDone ∧ x.places = jobsIn x.ring := by
  have ha := h.ends.closed hc
  obtain ⟨h1, h2⟩ := done_reader h hs ha
  refine ⟨h1, h2, ha, ?_⟩
  rw [places_ring, idle_jobs _ (done_busy ha), List.length_eq_zero_iff.1 h2, List.length_eq_zero_iff.1 hr]
  unfold CrewWorld.sent
  rw [if_neg (by omega)]
  rfl
def CrewWorld.Given (x : CrewWorld) : Prop := 4 ≤ x.keeper → x.due = x.next
/-- a step forward -/
structure Fwd (x y : CrewWorld) : Prop where
  left : x.left - 1 ≤ y.left
  ops : y.ops ≤ x.ops + 1
  sh : y.sh 3 = x.sh 3
  given : x.Given → y.Given
theorem fwd_r01 {x : CrewWorld} (h : x.ok) (hs : x.sh 3 ≠ 1) (hr : x.reader = 0) (hn : x.next ≠ x.jobs) (hm : 0 < x.room) : Fwd x { x with room := x.room - 1, next := x.next + 1, reader := 1, ops := x.ops + 1 } :=
  ⟨by rw [(ok_r01 h hr hn hm).2]; exact Int.le_refl _, Int.le_refl _, rfl, fun hg hk => by
    obtain ⟨h1, h2⟩ := h.ends.keep hs hk
    have := (closed_places h hs h1 h2).1
    omega⟩
theorem fwd_r10 {x : CrewWorld} (h : x.ok) (hr : x.reader = 1) (hq : (x.queue.length : Int) < x.workers) : Fwd x x.r10 :=
  ⟨by rw [(ok_r10 h hr hq).2]; exact Int.le_refl _, Int.le_refl _, rfl, fun hg => hg⟩
theorem fwd_r2 {x : CrewWorld} (hr : x.reader = 0) : Fwd x x.r2 := by
  refine ⟨?_, ?_, rfl, fun hg => hg⟩
  · have e1 : readLeft x.reader = 2 := by rw [hr]; rfl
    have e2 : readLeft 2 = 1 := rfl
    unfold CrewWorld.r2 CrewWorld.left
    dsimp only
    omega
  · show x.ops ≤ x.ops + 1
    omega
theorem fwd_r3 {x : CrewWorld} (h : x.ok) (hr : x.reader = 2) : Fwd x x.r3 := by
  refine ⟨?_, Int.le_refl _, sh_set h.form.shut 0 3 (by omega), fun hg => hg⟩
  have e1 : readLeft x.reader = 1 := by rw [hr]; rfl
  have e2 : readLeft 3 = 0 := rfl
  unfold CrewWorld.r3 CrewWorld.left
  dsimp only
  omega
theorem fwd_c1 {x : CrewWorld} (h : x.ok) (hr : x.closer = 0) : Fwd x x.c1 := by
  refine ⟨?_, Int.le_refl _, sh_set h.form.shut 1 3 (by omega), fun hg => hg⟩
  have e1 : bitP (x.closer = 0) = 1 := by unfold bitP; rw [if_pos hr]
  have e2 : bitP ((1 : Int) = 0) = 0 := rfl
  unfold CrewWorld.c1 CrewWorld.left
  dsimp only
  omega
theorem fwd_k5 {x : CrewWorld} (h : x.ok) (hr : x.keeper = 4) : Fwd x x.k5 := by
  refine ⟨?_, Int.le_refl _, sh_set h.form.shut 2 3 (by omega), fun hg _ => hg (by omega)⟩
  have e1 : keepLeft x.keeper = 1 := by rw [hr]; rfl
  have e2 : keepLeft 5 = 0 := rfl
  unfold CrewWorld.k5 CrewWorld.left
  dsimp only
  omega
theorem fwd_u1 {x : CrewWorld} (hr : x.user = 0) : Fwd x x.u1 := by
  refine ⟨?_, Int.le_refl _, rfl, fun hg => hg⟩
  have e1 : bitP (x.user = 0) = 1 := by unfold bitP; rw [if_pos hr]
  have e2 : bitP ((1 : Int) = 0) = 0 := rfl
  unfold CrewWorld.u1 CrewWorld.left
  dsimp only
  omega
theorem fwd_u0 {x : CrewWorld} (h : x.ok) (ho : 0 < x.out.length) : Fwd x x.u0 := by
  refine ⟨?_, Int.le_refl _, rfl, fun hg => hg⟩
  have h1 := h.form.out
  unfold CrewWorld.u0 CrewWorld.left
  dsimp only
  simp only [List.length_nil]
  omega
theorem fwd_k4e {x : CrewWorld} (h : x.ok) (hs : x.sh 3 ≠ 1) (hr : x.keeper = 0) (h0 : x.results.length = 0) (h1 : x.sh 1 = 1) : Fwd x x.k4e := by
  have hc : x.closer = 1 := by
    have := h.ends.results
    unfold bitP at this
    split at this
    · assumption
    · omega
  refine ⟨?_, Int.le_refl _, rfl, fun hg _ => ?_⟩
  · have e1 : keepLeft x.keeper = 2 := by rw [hr]; rfl
    have e2 : keepLeft 4 = 1 := rfl
    unfold CrewWorld.k4e CrewWorld.left
    dsimp only
    omega
  · show x.due = x.next
    have hd := h.form.due
    by_cases e : x.due < x.next
    · exact absurd (due_ring h hs (closed_places h hs hc h0).2.2.2 e) (h.kept.1 hr)
    · omega
theorem fwd_k12 {x : CrewWorld} (hr : x.keeper = 1) : Fwd x x.k12 := by
  refine ⟨?_, ?_, rfl, fun hg hk => absurd (show 4 ≤ (2 : Int) from hk) (by omega)⟩
  · have e1 : keepLeft x.keeper = 3 := by rw [hr]; rfl
    have e2 : keepLeft 2 = 2 := rfl
    unfold CrewWorld.k12 CrewWorld.left
    dsimp only
    omega
  · show x.ops ≤ x.ops + 1
    omega
theorem fwd_k10 {x : CrewWorld} (hr : x.keeper = 1) : Fwd x x.k10 := by
  refine ⟨?_, ?_, rfl, fun hg hk => absurd (show 4 ≤ (0 : Int) from hk) (by omega)⟩
  · have e1 : keepLeft x.keeper = 3 := by rw [hr]; rfl
    have e2 : keepLeft 0 = 2 := rfl
    unfold CrewWorld.k10 CrewWorld.left
    dsimp only
    omega
  · show x.ops ≤ x.ops + 1
    omega
theorem fwd_k31 {x : CrewWorld} (hr : x.keeper = 3) : Fwd x x.k31 := by
  refine ⟨?_, Int.le_refl _, rfl, fun hg hk => absurd (show 4 ≤ (1 : Int) from hk) (by omega)⟩
  have e1 : keepLeft x.keeper = 4 := by rw [hr]; rfl
  have e2 : keepLeft 1 = 3 := rfl
  unfold CrewWorld.k31 CrewWorld.left
  dsimp only
  omega
theorem fwd_k01 {x : CrewWorld} (h : x.ok) (hr : x.keeper = 0) (hq : 0 < x.results.length) : Fwd x x.k01 := by
  refine ⟨?_, Int.le_refl _, rfl, fun hg hk => absurd (show 4 ≤ (1 : Int) from hk) (by omega)⟩
  have hjm : x.results[0]?.getD 0 ∈ x.results := by
    rw [List.getElem?_eq_getElem hq]
    exact List.getElem_mem hq
  have hjz : ∀ j ∈ x.results, 0 ≤ j := fun j hj => by
    have := h.placed.within j (by rw [places_ring]; simp [hj])
    have := h.form.due
    omega
  have hlen : (x.results.drop 1).length = x.results.length - 1 := List.length_drop
  unfold CrewWorld.k01 CrewWorld.left
  dsimp only
  generalize x.results[0]?.getD 0 = j at hjm ⊢
  have hj0 := hjz j hjm
  generalize x.results.drop 1 = res at hlen ⊢
  obtain ⟨hw, hm, hl⟩ := slot_lt h j
  have hfree := slot_free h (by omega) hjm hl
  have hrl := ringLeft_set x.ring _ hl j
  rw [if_neg hfree, if_pos hj0] at hrl
  have e1 : keepLeft x.keeper = 2 := by rw [hr]; rfl
  have e2 : keepLeft 1 = 3 := rfl
  rw [e1, e2, hrl]
  omega
theorem fwd_k23 {x : CrewWorld} (h : x.ok) (hr : x.keeper = 2) (hq : x.out.length = 0) : Fwd x x.k23 := by
  refine ⟨?_, Int.le_refl _, rfl, fun hg hk => absurd (show 4 ≤ (3 : Int) from hk) (by omega)⟩
  obtain ⟨hw, hm, hl⟩ := slot_lt h x.due
  have hin : x.ring[(x.due % x.window).toNat] = x.due := by
    have := h.kept.2 hr
    unfold CrewWorld.dueIn at this
    rw [List.getElem?_eq_getElem hl] at this
    exact Option.some.inj this
  have hd0 := h.form.due
  have hrl := ringLeft_set x.ring _ hl (-1)
  rw [hin, if_pos (by omega), if_neg (by omega)] at hrl
  have e1 : keepLeft x.keeper = 2 := by rw [hr]; rfl
  have e2 : keepLeft 3 = 4 := rfl
  unfold CrewWorld.k23 CrewWorld.left
  dsimp only
  rw [e1, e2, hrl, List.length_append]
  simp only [List.length_cons, List.length_nil]
  omega
theorem fwd_h {x : CrewWorld} {i : Nat} (hi : i < x.hands.length) (v : CrewHand) : handsLeft (x.hands.set i v) = handsLeft x.hands - (x.hnd i).left + v.left := by
  have hset := handsLeft_set x.hands i hi v
  rw [hnd_at hi] at hset
  exact hset
theorem fwd_h12 {x : CrewWorld} {i : Nat} (hi : i < x.hands.length) (hr : (x.hnd i).state = 1) : Fwd x (x.h12 i) := by
  refine ⟨?_, ?_, rfl, fun hg => hg⟩
  · have e1 : (x.hnd i).left = 9 := by unfold CrewHand.left; rw [hr]; rfl
    have e2 : (⟨2, (x.hnd i).job⟩ : CrewHand).left = 8 := rfl
    unfold CrewWorld.h12 CrewWorld.left
    dsimp only
    rw [fwd_h hi, e1, e2]
    omega
  · show x.ops ≤ x.ops + 1
    omega
theorem fwd_h20 {x : CrewWorld} {i : Nat} (hi : i < x.hands.length) (hr : (x.hnd i).state = 2) : Fwd x (x.h20 i) := by
  refine ⟨?_, Int.le_refl _, rfl, fun hg => hg⟩
  have e1 : (x.hnd i).left = 8 := by unfold CrewHand.left; rw [hr]; rfl
  have e2 : (⟨0, 0⟩ : CrewHand).left = 1 := rfl
  unfold CrewWorld.h20 CrewWorld.left
  dsimp only
  rw [fwd_h hi, e1, e2, List.length_append]
  simp only [List.length_cons, List.length_nil]
  omega
theorem fwd_h01 {x : CrewWorld} {i : Nat} (hi : i < x.hands.length) (hr : (x.hnd i).state = 0) (hq : 0 < x.queue.length) : Fwd x (x.h01 i) := by
  refine ⟨?_, Int.le_refl _, rfl, fun hg => hg⟩
  have e1 : (x.hnd i).left = 1 := by unfold CrewHand.left; rw [hr]; rfl
  have e2 : (⟨1, x.queue[0]?.getD 0⟩ : CrewHand).left = 9 := rfl
  unfold CrewWorld.h01 CrewWorld.left
  dsimp only
  rw [fwd_h hi, e1, e2, List.length_drop]
  omega
theorem fwd_h03 {x : CrewWorld} {i : Nat} (hi : i < x.hands.length) (hr : (x.hnd i).state = 0) : Fwd x (x.h03 i) := by
  refine ⟨?_, Int.le_refl _, rfl, fun hg => hg⟩
  have e1 : (x.hnd i).left = 1 := by unfold CrewHand.left; rw [hr]; rfl
  have e2 : (⟨3, 0⟩ : CrewHand).left = 0 := rfl
  unfold CrewWorld.h03 CrewWorld.left
  dsimp only
  rw [fwd_h hi, e1, e2]
  omega
theorem fwd_rd {x : CrewWorld} (h : x.ok) (hs : x.sh 3 ≠ 1) {k : Nat} (hk : x.rd[k]? = some true) : Fwd x (x.doReader (k : Int)) := by
  have hr := h.form.reader
  unfold CrewWorld.rd at hk
  unfold CrewWorld.doReader
  by_cases r0 : x.reader = 0
  · rw [if_pos r0] at hk
    rw [if_neg (show ¬ x.reader = 2 by omega)]
    by_cases hn : x.next = x.jobs
    · rw [if_pos hn] at hk
      rcases k with _ | _ | _ | k
      · simp at hk
      · simp at hk
      · rw [if_pos (by omega)]
        exact fwd_r2 r0
      · simp at hk
    · rw [if_neg hn] at hk
      rcases k with _ | _ | _ | k
      · rw [if_neg (by omega), if_pos r0]
        exact fwd_r01 h hs r0 hn (by simpa using hk)
      · exact absurd (by simpa using hk) hs
      · simp at hk
      · simp at hk
  · rw [if_neg r0] at hk
    by_cases r1 : x.reader = 1
    · rw [if_pos r1] at hk
      rw [if_neg (show ¬ x.reader = 2 by omega)]
      rcases k with _ | _ | k
      · rw [if_neg (by omega), if_neg r0]
        exact fwd_r10 h r1 (by simpa using hk)
      · exact absurd (by simpa using hk) hs
      · simp at hk
    · rw [if_neg r1] at hk
      by_cases r2 : x.reader = 2
      · rw [if_pos r2]
        exact fwd_r3 h r2
      · rw [if_neg r2] at hk
        simp at hk
theorem fwd_kp {x : CrewWorld} (h : x.ok) (hs : x.sh 3 ≠ 1) {k : Nat} (hk : x.kw[k]? = some true) : Fwd x (x.doKeeper (k : Int)) := by
  have hr := h.form.keeper
  unfold CrewWorld.kw at hk
  unfold CrewWorld.doKeeper
  by_cases r0 : x.keeper = 0
  · rw [if_pos r0] at hk
    rcases k with _ | _ | _ | k
    · rw [if_neg (by omega), if_neg (by omega), if_pos r0]
      exact fwd_k01 h r0 (by simpa using hk)
    · exact absurd (by simpa using hk) hs
    · rw [if_pos (by omega)]
      have hk' : decide (x.results.length = 0) = true ∧ (x.sh 1 == 1) = true := by
        have := Option.some.inj hk
        rwa [Bool.and_eq_true] at this
      exact fwd_k4e h hs r0 (of_decide_eq_true hk'.1) (by simpa using hk'.2)
    · simp at hk
  · rw [if_neg r0] at hk
    by_cases r2 : x.keeper = 2
    · rw [if_pos r2] at hk
      rcases k with _ | _ | k
      · rw [if_neg (by omega), if_neg (by omega), if_neg r0, if_neg (by omega), if_pos r2]
        exact fwd_k23 h r2 (of_decide_eq_true (Option.some.inj hk))
      · exact absurd (by simpa using hk) hs
      · simp at hk
    · rw [if_neg r2] at hk
      by_cases r5 : x.keeper = 5
      · rw [if_pos r5] at hk
        simp at hk
      · rw [if_neg r5] at hk
        rcases k with _ | k
        · rw [if_neg (by omega), if_neg (by omega), if_neg r0]
          by_cases r1 : x.keeper = 1
          · rw [if_pos r1]
            split
            · exact fwd_k12 r1
            · exact fwd_k10 r1
          · rw [if_neg r1, if_neg r2]
            by_cases r3 : x.keeper = 3
            · rw [if_pos r3]
              exact fwd_k31 r3
            · rw [if_neg r3]
              exact fwd_k5 h (by omega)
        · simp at hk
theorem fwd_hd {x : CrewWorld} (h : x.ok) (hs : x.sh 3 ≠ 1) {i : Nat} (hi : i < x.hands.length) {k : Nat} (hk : (x.hw (x.hnd i))[k]? = some true) : Fwd x (x.doHand i (k : Int)) := by
  unfold CrewWorld.hw at hk
  unfold CrewWorld.doHand
  by_cases r0 : (x.hnd i).state = 0
  · rw [if_pos r0] at hk
    rcases k with _ | _ | _ | k
    · rw [if_neg (by omega), if_neg (by omega), if_pos r0]
      exact fwd_h01 hi r0 (by simpa using hk)
    · exact absurd (by simpa using hk) hs
    · rw [if_pos (by omega)]
      exact fwd_h03 hi r0
    · simp at hk
  · rw [if_neg r0] at hk
    by_cases r1 : (x.hnd i).state = 1
    · rw [if_pos r1] at hk
      rcases k with _ | k
      · rw [if_neg (by omega), if_neg (by omega), if_neg r0, if_pos r1]
        exact fwd_h12 hi r1
      · simp at hk
    · rw [if_neg r1] at hk
      by_cases r2 : (x.hnd i).state = 2
      · rw [if_pos r2] at hk
        rcases k with _ | _ | k
        · rw [if_neg (by omega), if_neg (by omega), if_neg r0, if_neg r1]
          exact fwd_h20 hi r2
        · exact absurd (by simpa using hk) hs
        · simp at hk
      · rw [if_neg r2] at hk
        simp at hk
theorem fwd_step {x : CrewWorld} (h : x.ok) (hs : x.sh 3 ≠ 1) {who k : Nat} (hk : (x.ways who)[k]? = some true) : Fwd x (x.step who (k : Int)) := by
  have hu := h.form.user
  have hh := h.form.hands
  unfold CrewWorld.ways at hk
  unfold CrewWorld.step
  by_cases w0 : who = 0
  · rw [if_pos w0] at hk
    rw [if_pos w0]
    exact fwd_rd h hs hk
  · rw [if_neg w0] at hk
    rw [if_neg w0]
    by_cases w1 : (who : Int) ≤ x.workers
    · rw [if_pos w1] at hk
      rw [if_pos w1]
      exact fwd_hd h hs (show who - 1 < x.hands.length by omega) hk
    · rw [if_neg w1] at hk
      rw [if_neg w1]
      by_cases w2 : (who : Int) = x.workers + 1
      · rw [if_pos w2] at hk
        rw [if_pos w2]
        rcases k with _ | k
        · have hk' : (x.closer == 0) = true ∧ tb x.allDone = true := by
            have := Option.some.inj hk
            rwa [Bool.and_eq_true] at this
          exact fwd_c1 h (by simpa using hk'.1)
        · simp at hk
      · rw [if_neg w2] at hk
        rw [if_neg w2]
        by_cases w3 : (who : Int) = x.workers + 2
        · rw [if_pos w3] at hk
          rw [if_pos w3]
          exact fwd_kp h hs hk
        · rw [if_neg w3] at hk
          rw [if_neg w3]
          by_cases u : x.user = 1
          · rw [if_pos u] at hk
            simp at hk
          · rw [if_neg u] at hk
            rcases k with _ | _ | k
            · rw [if_pos (by omega)]
              exact fwd_u0 h (of_decide_eq_true (Option.some.inj hk))
            · rw [if_neg (by omega)]
              exact fwd_u1 (by omega)
            · simp at hk
end Go.Proofs.Ytpkjjfnfolbcoaa
