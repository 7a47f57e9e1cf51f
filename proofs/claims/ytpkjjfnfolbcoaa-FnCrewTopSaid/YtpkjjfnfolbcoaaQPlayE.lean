/-
  The end of a play: what it tells, stopped or not: plain.
-/
import Derived.Test.YtpkjjfnfolbcoaaQPlayT
import Derived.Test.YtpkjjfnfolbcoaaQPlayW
set_option linter.unusedVariables false
set_option linter.unusedSimpArgs false
namespace Go.Proofs.Ytpkjjfnfolbcoaa
open Go.ChangeShapes Go.WideShapes Go.ChangeAt Go.RowKit

theorem movesBy_nil {who : Nat} : ∀ (l : List Bool) (i : Nat), movesBy who i l = [] → ∀ k : Nat, l[k]? ≠ some true
  | [], _, _, k => by simp
  | b :: l, i, h, k => by
    unfold movesBy at h
    obtain ⟨h1, h2⟩ := List.append_eq_nil_iff.1 h
    cases k with
    | zero =>
      intro e
      have e' : b = true := by simpa using e
      rw [if_pos e'] at h1
      cases h1
    | succ k =>
      have := movesBy_nil l (i + 1) h2 k
      simpa using this
theorem no_move {x : CrewWorld} (h : x.moves.length = 0) {who : Nat} (hw : who < x.workers.toNat + 4) (k : Nat) : (x.ways who)[k]? ≠ some true := by
  have h1 := List.eq_nil_of_length_eq_zero h
  unfold CrewWorld.moves CrewWorld.movesTo at h1
  rw [List.flatMap_eq_nil_iff] at h1
  exact movesBy_nil _ _ (h1 who (List.mem_range.2 hw)) k
/-- nobody can move, nobody was stopped: all is done -/
theorem stuck_end {x : CrewWorld} (h : x.ok) (hs : x.sh 3 ≠ 1) (hg : x.Given) (hm : x.moves.length = 0) : x.left = 0 ∧ (x.got.length : Int) = x.jobs := by
  have hww := h.form.start
  unfold crewOk at hww
  have hhl := h.form.hands
  have hs0 : x.sh 3 = 0 := by
    have := sh_bit h.form 3 (by omega)
    omega
  have hR : ∀ k : Nat, x.rd[k]? ≠ some true := fun k => by
    have := no_move hm (who := 0) (by omega) k
    unfold CrewWorld.ways at this
    rwa [if_pos rfl] at this
  have hH : ∀ i, i < x.hands.length → ∀ k : Nat, (x.hw (x.hnd i))[k]? ≠ some true := fun i hi k => by
    have := no_move hm (who := i + 1) (by omega) k
    unfold CrewWorld.ways at this
    rw [if_neg (by omega), if_pos (by omega)] at this
    exact this
  have hC : ¬ (x.closer = 0 ∧ x.allDone) := fun hh => by
    have := no_move hm (who := x.workers.toNat + 1) (by omega) 0
    unfold CrewWorld.ways at this
    rw [if_neg (by omega), if_neg (by omega), if_pos (by omega), tb_true hh.2, hh.1] at this
    exact this rfl
  have hK : ∀ k : Nat, x.kw[k]? ≠ some true := fun k => by
    have := no_move hm (who := x.workers.toNat + 2) (by omega) k
    unfold CrewWorld.ways at this
    rwa [if_neg (by omega), if_neg (by omega), if_neg (by omega), if_pos (by omega)] at this
  have hU : x.user ≠ 1 → x.out.length = 0 ∧ x.sh 2 ≠ 1 := fun hu => by
    have h0 := no_move hm (who := x.workers.toNat + 3) (by omega) 0
    have h1 := no_move hm (who := x.workers.toNat + 3) (by omega) 1
    unfold CrewWorld.ways at h0 h1
    rw [if_neg (by omega), if_neg (by omega), if_neg (by omega), if_neg (by omega), if_neg hu] at h0 h1
    have e0 : x.out.length = 0 := by
      rcases Nat.eq_zero_or_pos x.out.length with e | e
      · exact e
      · exact absurd (show (some (decide (0 < x.out.length)) : Option Bool) = some true by rw [decide_eq_true e]) h0
    refine ⟨e0, fun e => h1 ?_⟩
    show some (decide (x.out.length = 0) && (x.sh 2 == 1)) = some true
    rw [decide_eq_true e0, e]
    rfl
  have hu1 : x.user = 1 := Classical.byContradiction fun hu => by
    obtain ⟨o0, s2⟩ := hU hu
    have hk := h.form.keeper
    have k5 : x.keeper ≠ 5 := fun e => s2 (by
      have := h.ends.outs
      unfold bitP at this
      rw [if_pos e] at this
      exact this)
    unfold CrewWorld.kw at hK
    by_cases r0 : x.keeper = 0
    · rw [if_pos r0] at hK
      have hr0 : x.results.length = 0 := by
        rcases Nat.eq_zero_or_pos x.results.length with e | e
        · exact e
        · exact absurd (show (some (decide (0 < x.results.length)) : Option Bool) = some true by rw [decide_eq_true e]) (hK 0)
      have hc1 : x.sh 1 ≠ 1 := fun e => hK 2 (by
        show some (decide (x.results.length = 0) && (x.sh 1 == 1)) = some true
        rw [decide_eq_true hr0, e]
        rfl)
      have hc0 : x.closer = 0 := by
        have h1 := h.ends.results
        have h2 := h.form.closer
        unfold bitP at h1
        split at h1
        · exact absurd h1 hc1
        · omega
      have hst : ∀ y ∈ x.hands, y.state = 3 ∨ (y.state = 0 ∧ x.queue.length = 0 ∧ x.sh 0 ≠ 1) := fun y hy => by
        obtain ⟨i, hi, e⟩ := List.getElem_of_mem hy
        have hw := hH i hi
        rw [← hnd_at hi, e] at hw
        have hf := (h.form.fine y hy).1
        unfold CrewWorld.hw at hw
        by_cases s0 : y.state = 0
        · rw [if_pos s0] at hw
          have q0 : x.queue.length = 0 := by
            rcases Nat.eq_zero_or_pos x.queue.length with e | e
            · exact e
            · exact absurd (show (some (decide (0 < x.queue.length)) : Option Bool) = some true by rw [decide_eq_true e]) (hw 0)
          refine .inr ⟨s0, q0, fun e => hw 2 ?_⟩
          show some (decide (x.queue.length = 0) && (x.sh 0 == 1)) = some true
          rw [decide_eq_true q0, e]
          rfl
        · rw [if_neg s0] at hw
          by_cases s1 : y.state = 1
          · rw [if_pos s1] at hw
            exact absurd rfl (hw 0)
          · rw [if_neg s1] at hw
            by_cases s2 : y.state = 2
            · rw [if_pos s2] at hw
              exact absurd (show (some (decide ((x.results.length : Int) < x.workers)) : Option Bool) = some true by rw [decide_eq_true (by omega)]) (hw 0)
            · exact .inl (by omega)
      obtain ⟨y, hy, hy0, q0, s0⟩ : ∃ y ∈ x.hands, y.state = 0 ∧ x.queue.length = 0 ∧ x.sh 0 ≠ 1 := Classical.byContradiction fun hno => hC ⟨hc0, fun y hy => by
        rcases hst y hy with e | ⟨e1, e2, e3⟩
        · exact e
        · exact absurd ⟨y, hy, e1, e2, e3⟩ hno⟩
      have r3 : x.reader ≠ 3 := fun e => s0 (by
        have := h.ends.queue
        unfold bitP at this
        rw [if_pos e] at this
        exact this)
      have hrr := h.form.reader
      unfold CrewWorld.rd at hR
      by_cases e0 : x.reader = 0
      · rw [if_pos e0] at hR
        by_cases en : x.next = x.jobs
        · rw [if_pos en] at hR
          exact hR 2 rfl
        · rw [if_neg en] at hR
          have rm : ¬ 0 < x.room := fun e => hR 0 (show some (decide (0 < x.room)) = some true by rw [decide_eq_true e])
          have h1 := h.placed.room
          have h2 : bitP (x.keeper = 3) = 0 := by unfold bitP; rw [if_neg (by omega)]
          have h3 := h.form.room
          refine h.kept.1 r0 (due_ring h hs ?_ (by omega))
          rw [places_ring, idle_jobs x.hands (fun z hz => by
            unfold CrewHand.busy
            rcases hst z hz with e | ⟨e, _, _⟩ <;> rw [e] <;> rfl), List.length_eq_zero_iff.1 q0, List.length_eq_zero_iff.1 hr0]
          unfold CrewWorld.sent
          rw [if_neg (by omega)]
          rfl
      · rw [if_neg e0] at hR
        by_cases e1 : x.reader = 1
        · rw [if_pos e1] at hR
          exact hR 0 (show some (decide ((x.queue.length : Int) < x.workers)) = some true by rw [decide_eq_true (by omega)])
        · rw [if_neg e1, if_pos (show x.reader = 2 by omega)] at hR
          exact hR 0 rfl
    · rw [if_neg r0] at hK
      by_cases r2 : x.keeper = 2
      · rw [if_pos r2] at hK
        exact hK 0 (show some (decide (x.out.length = 0)) = some true by rw [decide_eq_true o0])
      · rw [if_neg r2, if_neg k5] at hK
        exact hK 0 rfl
  obtain ⟨k5, o0⟩ := h.ends.use hs hu1
  obtain ⟨c1, r0⟩ := h.ends.keep hs (by omega)
  obtain ⟨r3, q0, ad, pl⟩ := closed_places h hs c1 r0
  have hn := h.ends.read hs (by omega)
  have hd := hg (by omega)
  have hp := h.placed.due
  have ha := h.placed.all hs0
  rw [pl] at ha
  refine ⟨?_, by omega⟩
  unfold CrewWorld.left
  have e1 : readLeft x.reader = 0 := by rw [r3]; rfl
  have e2 : keepLeft x.keeper = 0 := by rw [k5]; rfl
  have e3 : bitP (x.closer = 0) = 0 := by unfold bitP; rw [if_neg (by omega)]
  have e4 : bitP (x.user = 0) = 0 := by unfold bitP; rw [if_neg (by omega)]
  rw [e1, e2, e3, e4, done_left _ ad, ringLeft_eq]
  omega
theorem cut_never (x : CrewWorld) (n : Nat) {c : Int} (hc : c < 0) : x.cutAt n c = x := by
  unfold CrewWorld.cutAt
  rw [if_neg (fun hh => by have := hh.1; omega)]
theorem run_fwd {x : CrewWorld} (h : x.ok) (hs : x.sh 3 ≠ 1) (hg : x.Given) (ps : List Int) {c : Int} (hc : c < 0) : ∀ n, PlayTo x ps c n → (runIn x ps c n).sh 3 ≠ 1 ∧ (runIn x ps c n).Given ∧ x.left - (n : Int) ≤ (runIn x ps c n).left ∧ (runIn x ps c n).ops ≤ x.ops + (n : Int)
  | 0, _ => by
    unfold runIn
    rw [cut_never _ _ hc]
    exact ⟨hs, hg, by show x.left - ((0 : Nat) : Int) ≤ x.left; omega, by show x.ops ≤ x.ops + ((0 : Nat) : Int); omega⟩
  | n + 1, hp => by
    obtain ⟨h1, h2, h3, h4⟩ := run_fwd h hs hg ps hc n (fun t ht => hp t (by omega))
    have hk := runIn_ok h (n := n) (picks := ps) (c := c) (fun t ht => hp t (by omega))
    obtain ⟨who, k, _, _, hy, e⟩ := go_move ps n (hp n (by omega))
    have hf := fwd_step hk h1 hy
    unfold runIn
    rw [cut_never _ _ hc, runAt_succ, e]
    have h5 := hf.left
    have h6 := hf.ops
    refine ⟨by rw [hf.sh]; exact h1, hf.given h2, by omega, by omega⟩
theorem start_sh (a b c : Int) : (crewAt a b c).sh 3 ≠ 1 := fun h => absurd (show (0 : Int) = 1 from h) (by omega)
theorem start_given (a b c : Int) : (crewAt a b c).Given := fun h => absurd (show 4 ≤ (0 : Int) from h) (by omega)
/-- a play that nobody stops -/
theorem never_end {a n1 n2 : Int} (h : crewOk a n1 n2) {ps : List Int} {c : Int} (hc : c < 0) {n : Nat} (hp : PlayEnd (crewAt a n1 n2) ps c n) : (n : Int) = 11 * a + n1 + 6 ∧ ((runIn (crewAt a n1 n2) ps c n).got.length : Int) = a ∧ (runIn (crewAt a n1 n2) ps c n).ops ≤ (n : Int) := by
  have hk := start_ok h
  obtain ⟨h1, h2, h3, h4⟩ := run_fwd hk (start_sh _ _ _) (start_given _ _ _) ps hc n hp.1
  have h5 := runIn_ok hk hp.1
  obtain ⟨h6, h7⟩ := stuck_end h5 h1 h2 hp.2
  have h8 := run_le hk hp.1
  rw [start_left a n1 n2 h] at h3 h8
  rw [(runIn_jobs _ _ _ _).1] at h7
  have h9 : (crewAt a n1 n2).ops = 0 := rfl
  have h10 : (crewAt a n1 n2).jobs = a := rfl
  refine ⟨by omega, by omega, by omega⟩
/-- what a play tells: the first jobs, few uses of channels; all jobs where nobody stops it -/
theorem playOf_cut (l : List CrewJob) (n1 n2 : Int) (ps : List Int) (c : Int) (h : playFits l n1 n2 ps) : ∃ (m n : Nat) (o : Int), playOf l n1 n2 ps c = { toldOf (l.take m) with steps := (n : Int), ops := o } ∧ m ≤ l.length ∧ n ≤ 674 ∧ 0 ≤ o ∧ o ≤ 11 * (l.length : Int) + n1 + 7 ∧ (c < 0 → m = l.length ∧ (n : Int) = 11 * (l.length : Int) + n1 + 6 ∧ o ≤ (n : Int)) := by
  obtain ⟨n, hn⟩ := playEnd_ex (start_ok h.1) ps c
  have hk := runIn_ok (start_ok h.1) hn.1
  refine ⟨(runIn (crewAt (l.length : Int) n1 n2) ps c n).got.length, n, (runIn (crewAt (l.length : Int) n1 n2) ps c n).ops, ?_, got_take h.1 hn.1, played_le h.1 hn.1, hk.form.ops.1, ?_, fun hc => ?_⟩
  · unfold playOf
    rw [if_pos (tb_true h), playTold_eq hn]
  · have h1 := hk.few
    have h2 := left_nn hk.form.next.2
    rw [(runIn_jobs _ _ _ _).1, (runIn_jobs _ _ _ _).2] at h1
    have h3 : (crewAt (l.length : Int) n1 n2).jobs = (l.length : Int) := rfl
    have h4 : (crewAt (l.length : Int) n1 n2).workers = n1 := rfl
    omega
  · obtain ⟨h1, h2, h3⟩ := never_end h.1 hc hn
    exact ⟨by omega, h1, h3⟩
theorem playOf_no (l : List CrewJob) (n1 n2 : Int) (ps : List Int) (c : Int) (h : ¬ playFits l n1 n2 ps) : playOf l n1 n2 ps c = CrewTold.none_ := by
  unfold playOf
  rw [if_neg (by rw [tb_false h]; simp)]
end Go.Proofs.Ytpkjjfnfolbcoaa
