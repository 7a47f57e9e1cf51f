/-
  The play of a crew, move by move: plain.
-/
import Derived.Test.YtpkjjfnfolbcoaaQRead
import Derived.Test.YtpkjjfnfolbcoaaQPlayM9
import Derived.Test.YtpkjjfnfolbcoaaQTri
set_option linter.unusedVariables false
set_option linter.unusedSimpArgs false
namespace Go.Proofs.Ytpkjjfnfolbcoaa
open Go.ChangeShapes Go.WideShapes Go.ChangeAt Go.RowKit

theorem movesBy_mem {who : Nat} : ∀ (l : List Bool) (i : Nat) (m : CrewMove), m ∈ movesBy who i l → ∃ k, m = ⟨(who : Int), ((i + k : Nat) : Int)⟩ ∧ l[k]? = some true
  | [], _, _, h => by cases h
  | b :: l, i, m, h => by
    unfold movesBy at h
    rcases List.mem_append.1 h with h | h
    · cases b
      · simp at h
      · simp only [if_true, List.mem_singleton] at h
        exact ⟨0, h, rfl⟩
    · obtain ⟨k, hk, hl⟩ := movesBy_mem l (i + 1) m h
      refine ⟨k + 1, ?_, by simpa using hl⟩
      rw [hk, show i + 1 + k = i + (k + 1) by omega]
/-- a move of a world: who, and which way, that is open -/
theorem moves_mem {x : CrewWorld} {m : CrewMove} (h : m ∈ x.moves) : ∃ who k : Nat, m = ⟨(who : Int), (k : Int)⟩ ∧ who < x.workers.toNat + 4 ∧ (x.ways who)[k]? = some true := by
  unfold CrewWorld.moves CrewWorld.movesTo at h
  obtain ⟨who, hw, hm⟩ := List.mem_flatMap.1 h
  obtain ⟨k, rfl, hk⟩ := movesBy_mem _ _ _ hm
  exact ⟨who, k, by rw [Nat.zero_add], List.mem_range.1 hw, hk⟩
noncomputable def CrewWorld.cutAt (x : CrewWorld) (n : Nat) (c : Int) : CrewWorld := if (n : Int) = c ∧ x.user = 0 then x.cut else x
def pickAt (picks : List Int) (n many : Nat) : Nat := if picks.length = 0 then 0 else ((picks[n % picks.length]?.getD 0) % (many : Int)).toNat
theorem pickAt_lt (picks : List Int) (n : Nat) {many : Nat} (h : 0 < many) : pickAt picks n many < many := by
  unfold pickAt
  split
  · exact h
  · have := Int.emod_lt_of_pos (picks[n % picks.length]?.getD 0) (show (0 : Int) < (many : Int) by omega)
    have := Int.emod_nonneg (picks[n % picks.length]?.getD 0) (show (many : Int) ≠ 0 by omega)
    omega
noncomputable def CrewWorld.go (x : CrewWorld) (picks : List Int) (n : Nat) : CrewWorld :=
  match x.moves[pickAt picks n x.moves.length]? with
  | some m => x.step m.who.toNat m.case_
  | none => x
noncomputable def runAt (x : CrewWorld) (picks : List Int) (c : Int) : Nat → CrewWorld
  | 0 => x
  | n + 1 => ((runAt x picks c n).cutAt n c).go picks n
noncomputable def runIn (x : CrewWorld) (picks : List Int) (c : Int) (n : Nat) : CrewWorld := (runAt x picks c n).cutAt n c
/-- in all rounds before n there was a move -/
def PlayTo (x : CrewWorld) (picks : List Int) (c : Int) (n : Nat) : Prop := ∀ t, t < n → 0 < (runIn x picks c t).moves.length
theorem PlayTo.zero (x : CrewWorld) (picks : List Int) (c : Int) : PlayTo x picks c 0 := fun t h => by omega
theorem PlayTo.succ {x : CrewWorld} {picks : List Int} {c : Int} {n : Nat} (h : PlayTo x picks c n) (hm : 0 < (runIn x picks c n).moves.length) : PlayTo x picks c (n + 1) := fun t ht => by
  by_cases e : t = n
  · rw [e]; exact hm
  · exact h t (by omega)
theorem cutAt_ok {x : CrewWorld} (h : x.ok) (n : Nat) (c : Int) : (x.cutAt n c).ok ∧ (x.cutAt n c).left ≤ x.left := by
  unfold CrewWorld.cutAt
  split
  · rename_i hc
    have := ok_cut h hc.2
    exact ⟨this.1, by omega⟩
  · exact ⟨h, Int.le_refl _⟩
/-- the move that is picked -/
theorem go_move {x : CrewWorld} (picks : List Int) (n : Nat) (hm : 0 < x.moves.length) : ∃ (who k : Nat), x.moves[pickAt picks n x.moves.length]? = some ⟨(who : Int), (k : Int)⟩ ∧ who < x.workers.toNat + 4 ∧ (x.ways who)[k]? = some true ∧ x.go picks n = x.step who (k : Int) := by
  have hp := pickAt_lt picks n hm
  obtain ⟨who, k, hk, hw, hy⟩ := moves_mem (List.getElem_mem hp)
  refine ⟨who, k, ?_, hw, hy, ?_⟩
  · rw [List.getElem?_eq_getElem hp, hk]
  · unfold CrewWorld.go
    rw [List.getElem?_eq_getElem hp, hk]
    rfl
theorem go_ok {x : CrewWorld} (h : x.ok) (picks : List Int) (n : Nat) (hm : 0 < x.moves.length) : (x.go picks n).ok ∧ (x.go picks n).left ≤ x.left - 1 := by
  obtain ⟨who, k, _, _, hy, e⟩ := go_move picks n hm
  rw [e]
  exact ok_step h hy
theorem run_ok {x : CrewWorld} (h : x.ok) (picks : List Int) (c : Int) : ∀ n, PlayTo x picks c n → (runAt x picks c n).ok ∧ (runAt x picks c n).left ≤ x.left - n
  | 0, _ => ⟨h, by show x.left ≤ x.left - ((0 : Nat) : Int); omega⟩
  | n + 1, hp => by
    obtain ⟨h1, h2⟩ := run_ok h picks c n (fun t ht => hp t (by omega))
    have h3 := cutAt_ok h1 n c
    have h4 := go_ok h3.1 picks n (hp n (by omega))
    refine ⟨h4.1, ?_⟩
    have h5 := h4.2
    have h6 := h3.2
    show ((runAt x picks c n).cutAt n c |>.go picks n).left ≤ _
    have e : (((n + 1 : Nat) : Int)) = (n : Int) + 1 := by omega
    rw [e]
    omega
theorem run_le {x : CrewWorld} (h : x.ok) {picks : List Int} {c : Int} {n : Nat} (hp : PlayTo x picks c n) : (n : Int) ≤ x.left := by
  obtain ⟨h1, h2⟩ := run_ok h picks c n hp
  have := left_nn h1.form.next.2
  omega
theorem runIn_ok {x : CrewWorld} (h : x.ok) {picks : List Int} {c : Int} {n : Nat} (hp : PlayTo x picks c n) : (runIn x picks c n).ok := (cutAt_ok (run_ok h picks c n hp).1 n c).1
theorem runAt_succ (x : CrewWorld) (picks : List Int) (c : Int) (n : Nat) : runAt x picks c (n + 1) = (runIn x picks c n).go picks n := rfl
/-- what stays -/
theorem step_jobs (x : CrewWorld) (who : Nat) (k : Int) : (x.step who k).jobs = x.jobs ∧ (x.step who k).workers = x.workers ∧ (x.step who k).window = x.window := by
  unfold CrewWorld.step CrewWorld.doReader CrewWorld.doHand CrewWorld.doKeeper
  repeat' split
  all_goals exact ⟨rfl, rfl, rfl⟩
theorem run_jobs (x : CrewWorld) (picks : List Int) (c : Int) : ∀ n, (runAt x picks c n).jobs = x.jobs ∧ (runAt x picks c n).workers = x.workers
  | 0 => ⟨rfl, rfl⟩
  | n + 1 => by
    obtain ⟨h1, h2⟩ := run_jobs x picks c n
    have h3 : ((runAt x picks c n).cutAt n c).jobs = (runAt x picks c n).jobs ∧ ((runAt x picks c n).cutAt n c).workers = (runAt x picks c n).workers := by
      unfold CrewWorld.cutAt
      split <;> exact ⟨rfl, rfl⟩
    have h4 : ∀ y : CrewWorld, (y.go picks n).jobs = y.jobs ∧ (y.go picks n).workers = y.workers := fun y => by
      unfold CrewWorld.go
      split
      · exact ⟨(step_jobs _ _ _).1, (step_jobs _ _ _).2.1⟩
      · exact ⟨rfl, rfl⟩
    show (((runAt x picks c n).cutAt n c).go picks n).jobs = _ ∧ (((runAt x picks c n).cutAt n c).go picks n).workers = _
    exact ⟨(h4 _).1.trans (h3.1.trans h1), (h4 _).2.trans (h3.2.trans h2)⟩
theorem runIn_jobs (x : CrewWorld) (picks : List Int) (c : Int) (n : Nat) : (runIn x picks c n).jobs = x.jobs ∧ (runIn x picks c n).workers = x.workers := by
  obtain ⟨h1, h2⟩ := run_jobs x picks c n
  unfold runIn CrewWorld.cutAt
  split <;> exact ⟨h1, h2⟩
/-- where it stops -/
def PlayEnd (x : CrewWorld) (picks : List Int) (c : Int) (n : Nat) : Prop := PlayTo x picks c n ∧ (runIn x picks c n).moves.length = 0
theorem PlayEnd.same {x : CrewWorld} {picks : List Int} {c : Int} {n m : Nat} (h : PlayEnd x picks c n) (k : PlayEnd x picks c m) : n = m := by
  rcases Nat.lt_trichotomy n m with e | e | e
  · have := k.1 n e
    have := h.2
    omega
  · exact e
  · have := h.1 m e
    have := k.2
    omega
theorem playEnd_ex {x : CrewWorld} (h : x.ok) (picks : List Int) (c : Int) : ∃ n, PlayEnd x picks c n := by
  apply Classical.byContradiction
  intro hne
  have hall : ∀ n, PlayTo x picks c n := fun n => by
    induction n with
    | zero => exact PlayTo.zero _ _ _
    | succ n ih => exact ih.succ (by
        rcases Nat.eq_zero_or_pos (runIn x picks c n).moves.length with e | e
        · exact absurd ⟨n, ih, e⟩ hne
        · exact e)
  have := run_le h (hall (x.left.toNat + 1))
  omega
open Classical in
noncomputable def playN (x : CrewWorld) (picks : List Int) (c : Int) : Nat := if h : ∃ n, PlayEnd x picks c n then Classical.choose h else 0
theorem playN_eq {x : CrewWorld} {picks : List Int} {c : Int} {n : Nat} (h : PlayEnd x picks c n) : playN x picks c = n := by
  unfold playN
  rw [dif_pos ⟨n, h⟩]
  exact (Classical.choose_spec (⟨n, h⟩ : ∃ n, PlayEnd x picks c n)).same h
/-- what a play tells -/
noncomputable def playTold (l : List CrewJob) (x : CrewWorld) (picks : List Int) (c : Int) : CrewTold :=
  { toldOf (l.take (runIn x picks c (playN x picks c)).got.length) with steps := (playN x picks c : Int), ops := (runIn x picks c (playN x picks c)).ops }
def playFits (l : List CrewJob) (n1 n2 : Int) (picks : List Int) : Prop := crewOk (l.length : Int) n1 n2 ∧ jobsOk l ∧ picks.length ≤ 2000
noncomputable def playOf (l : List CrewJob) (n1 n2 : Int) (picks : List Int) (c : Int) : CrewTold :=
  if tb (playFits l n1 n2 picks) = true then playTold l (crewAt (l.length : Int) n1 n2) picks c else CrewTold.none_
theorem playTold_eq {l : List CrewJob} {x : CrewWorld} {picks : List Int} {c : Int} {n : Nat} (h : PlayEnd x picks c n) : playTold l x picks c = { toldOf (l.take (runIn x picks c n).got.length) with steps := (n : Int), ops := (runIn x picks c n).ops } := by
  unfold playTold
  rw [playN_eq h]
end Go.Proofs.Ytpkjjfnfolbcoaa
