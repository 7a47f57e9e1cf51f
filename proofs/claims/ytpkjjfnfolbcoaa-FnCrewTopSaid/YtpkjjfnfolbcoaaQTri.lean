/-
  The moves of a world: plain, and a slice of moves of the call's own. The cases of each of a crew, three each: plain.
-/
import Derived.Test.YtpkjjfnfolbcoaaQApp
import Derived.Test.YtpkjjfnfolbcoaaQTwo
import Derived.Test.YtpkjjfnfolbcoaaQRead
import Derived.Test.YtpkjjfnfolbcoaaQWays
set_option linter.unusedVariables false
set_option linter.unusedSimpArgs false
namespace Go.Proofs.Ytpkjjfnfolbcoaa
open Go.ChangeShapes Go.WideShapes Go.ChangeAt Go.RowKit

def movesBy (who : Nat) : Nat → List Bool → List CrewMove
  | _, [] => []
  | i, b :: l => (if b = true then [⟨(who : Int), (i : Int)⟩] else []) ++ movesBy who (i + 1) l
theorem movesBy_snoc (who : Nat) : ∀ (l : List Bool) (i j : Nat) (h : j < l.length), movesBy who i (l.take (j + 1)) = movesBy who i (l.take j) ++ (if l[j] = true then [⟨(who : Int), ((i + j : Nat) : Int)⟩] else [])
  | [], _, _, h => absurd h (Nat.not_lt_zero _)
  | b :: l, i, 0, _ => by simp [movesBy]
  | b :: l, i, j + 1, h => by
    have ih := movesBy_snoc who l (i + 1) j (by simpa using h)
    rw [List.take_succ_cons, List.take_succ_cons]
    unfold movesBy
    rw [ih, List.append_assoc]
    have e : i + 1 + j = i + (j + 1) := by omega
    rw [e]
    rfl
theorem movesBy_len (who : Nat) : ∀ (l : List Bool) (i : Nat), (movesBy who i l).length ≤ l.length
  | [], _ => Nat.le_refl _
  | b :: l, i => by
    have ih := movesBy_len who l (i + 1)
    unfold movesBy
    rw [List.length_append, List.length_cons]
    have : (if b = true then [(⟨(who : Int), (i : Int)⟩ : CrewMove)] else []).length ≤ 1 := by split <;> simp
    omega
noncomputable def CrewWorld.movesTo (x : CrewWorld) (n : Nat) : List CrewMove := (List.range n).flatMap fun who => movesBy who 0 (x.ways who)
noncomputable def CrewWorld.moves (x : CrewWorld) : List CrewMove := x.movesTo (x.workers.toNat + 4)
noncomputable def CrewWorld.movesOf (x : CrewWorld) : List CrewMove := if tb x.ok = true then x.moves else []
theorem movesTo_succ (x : CrewWorld) (n : Nat) : x.movesTo (n + 1) = x.movesTo n ++ movesBy n 0 (x.ways n) := by
  unfold CrewWorld.movesTo
  rw [List.range_succ, List.flatMap_append, List.flatMap_singleton]
theorem movesTo_len (x : CrewWorld) : ∀ n, (x.movesTo n).length ≤ 3 * n
  | 0 => by simp [CrewWorld.movesTo]
  | n + 1 => by
    have ih := movesTo_len x n
    have h1 := movesBy_len n (x.ways n) 0
    have h2 := ways_len x n
    rw [movesTo_succ, List.length_append]
    omega
/-- a slice of moves of the call's own -/
structure Pm (B : Nat) (W0 W : World) (v : Value) (l : List CrewMove) (us : List Value) : Prop where
  own : OwS W B 97 2 CrewMove.cells v l us []
  fr : Below B W0 W
  sz : B ≤ W.heap.size
theorem Pm.alloc {B : Nat} {W0 W : World} {v : Value} {l : List CrewMove} {us : List Value} (h : Pm B W0 W v l us) (o : Obj) : Pm B W0 (W.alloc o) v l us :=
  ⟨h.own.alloc o, h.fr.alloc h.sz o, by rw [World.size_alloc]; exact Nat.le_succ_of_le h.sz⟩
theorem Pm.below {B : Nat} {W0 W W' : World} {v : Value} {l : List CrewMove} {us : List Value} (h : Pm B W0 W v l us) (hb : Below W.heap.size W W') : Pm B W0 W' v l us :=
  ⟨h.own.below (C := 0) hb, h.fr.trans (hb.mono h.sz), Nat.le_trans h.sz hb.size⟩
theorem Pm.put {B : Nat} {W0 W W' : World} {v v' : Value} {l l' : List CrewMove} {us us' : List Value} (h : Pm B W0 W v l us) (hg : GB W W' v v') (hn : OwS W' B 97 2 CrewMove.cells v' l' us' []) : Pm B W0 W' v' l' us' :=
  ⟨hn, h.fr.trans (hg.toBelow h.sz (fun g e => h.own.from e)), Nat.le_trans h.sz hg.grown.size⟩
theorem Pm.same {B : Nat} {W0 W : World} {v : Value} {l l' : List CrewMove} {us : List Value} (h : Pm B W0 W v l us) (e : l = l') : Pm B W0 W v l' us := e ▸ h
theorem Pm.empty (w : World) : Pm w.heap.size w (w.alloc (.cells #[] 97)) (.slice (some ⟨w.heap.size, 0, none⟩) 0 0) [] [] :=
  ⟨⟨World.ownsRow_made w #[] 0 (Nat.le_refl _) (by unfold maxLen; omega) (by simp), by simp [OwC], New.nil _ _, fun g h => by simp⟩, (Below.refl _ _).alloc (Nat.le_refl _) _, by simp⟩
theorem GB.ne7 {w w' : World} {v v' : Value} {g : Nat} (h : GB w w' v v') (hv : v.ownBlock ≠ some g) (hg : g < w.heap.size) : v'.ownBlock ≠ some g := fun e => by
  rcases h.at' with h1 | ⟨k, h1, h2⟩
  · exact hv (h1.symm.trans e)
  · rw [h1] at e
    injection e with e
    omega
theorem move_src (a b : Int) (ha : (Lit.int .i64 a).wf = true) (hb : (Lit.int .i64 b).wf = true) (W : World) : OwC W ([(⟨a, b⟩ : CrewMove)].flatMap CrewMove.cells) [.int .i64 a, .int .i64 b] [] := ⟨[], [], ⟨rfl, ha, rfl⟩, ⟨[], [], ⟨rfl, hb, rfl⟩, rfl, rfl⟩, rfl⟩
theorem info_move : (Try.prog.info? 97).map (fun i => (i.zero, i.size, i.bytes)) = some (some (.agg #[.int .i64 0, .int .i64 0]), 2, 16) := by kernel_rfl
def MovesOut (l : List CrewMove) (w : World) (e : Ending) (w' : World) : Prop := ∃ v fq, e = .returned v ∧ Ow w' (.s 2 l.length (l.flatMap CrewMove.cells)) v fq ∧ New w' fq w.heap.size ∧ Below w.heap.size w w'
theorem Pm.out {B : Nat} {w W0 W : World} {v : Value} {l : List CrewMove} {us : List Value} (h : Pm B W0 W v l us) (h0 : Below w.heap.size w W0) (hB : w.heap.size ≤ B) : MovesOut l w (.returned v) W := by
  obtain ⟨fp, ho, hn, _⟩ := h.own.toOw'
  exact ⟨v, fp, rfl, ho, hn.mono hB, h0.trans (h.fr.mono hB)⟩
end Go.Proofs.Ytpkjjfnfolbcoaa
set_option linter.unusedVariables false
set_option linter.unusedSimpArgs false
namespace Go.Proofs.Ytpkjjfnfolbcoaa
open Go.ChangeShapes Go.WideShapes Go.ChangeAt Go.RowKit

def CrewWorld.rc (x : CrewWorld) : List Bool :=
  if x.reader = 0 then (if x.next = x.jobs then [false, false, true] else [decide (x.room ≠ 0), x.sh 3 == 1, false])
  else if x.reader = 1 then [decide ((x.queue.length : Int) < x.workers), x.sh 3 == 1, false] else if x.reader = 2 then [true, false, false] else [false, false, false]
def CrewWorld.hc (x : CrewWorld) (h : CrewHand) : List Bool :=
  if h.state = 0 then [decide (0 < x.queue.length), x.sh 3 == 1, decide (x.queue.length = 0) && (x.sh 0 == 1)]
  else if h.state = 1 then [true, false, false] else if h.state = 2 then [decide ((x.results.length : Int) < x.workers), x.sh 3 == 1, false] else [false, false, false]
def CrewWorld.kc (x : CrewWorld) : List Bool :=
  if x.keeper = 0 then [decide (0 < x.results.length), x.sh 3 == 1, decide (x.results.length = 0) && (x.sh 1 == 1)]
  else if x.keeper = 2 then [decide (x.out.length = 0), x.sh 3 == 1, false] else if x.keeper = 1 ∨ x.keeper = 3 ∨ x.keeper = 4 then [true, false, false] else [false, false, false]
noncomputable def CrewWorld.tri (x : CrewWorld) (who : Nat) : List Bool :=
  if who = 0 then x.rc else if (who : Int) = x.workers + 1 then [(x.closer == 0) && tb x.allDone, false, false] else if (who : Int) = x.workers + 2 then x.kc
  else if (who : Int) = x.workers + 3 then [(x.user == 0) && decide (0 < x.out.length), ((x.user == 0) && decide (x.out.length = 0)) && (x.sh 2 == 1), false] else x.hc (x.hands[who - 1]?.getD ⟨3, 0⟩)
def idxs : Nat → List Bool → List Int
  | _, [] => []
  | i, b :: l => (if b = true then [(i : Int)] else []) ++ idxs (i + 1) l
theorem movesBy_idxs (who : Nat) : ∀ (l : List Bool) (i : Nat), movesBy who i l = (idxs i l).map fun k => ⟨(who : Int), k⟩
  | [], _ => rfl
  | b :: l, i => by
    unfold movesBy idxs
    rw [movesBy_idxs who l (i + 1), List.map_append]
    cases b <;> rfl
theorem idxs_snoc : ∀ (l : List Bool) (i j : Nat) (h : j < l.length), idxs i (l.take (j + 1)) = idxs i (l.take j) ++ (if l[j] = true then [((i + j : Nat) : Int)] else [])
  | [], _, _, h => absurd h (Nat.not_lt_zero _)
  | b :: l, i, 0, _ => by simp [idxs]
  | b :: l, i, j + 1, h => by
    have ih := idxs_snoc l (i + 1) j (by simpa using h)
    rw [List.take_succ_cons, List.take_succ_cons]
    unfold idxs
    rw [ih, List.append_assoc]
    have e : i + 1 + j = i + (j + 1) := by omega
    rw [e]
    rfl
theorem idxs_len : ∀ (l : List Bool) (i : Nat), (idxs i l).length ≤ l.length
  | [], _ => Nat.le_refl _
  | b :: l, i => by
    have ih := idxs_len l (i + 1)
    unfold idxs
    rw [List.length_append, List.length_cons]
    have : (if b = true then [(i : Int)] else []).length ≤ 1 := by split <;> simp
    omega
theorem rc_len (x : CrewWorld) : x.rc.length = 3 := by
  unfold CrewWorld.rc
  repeat' split
  all_goals rfl
theorem hc_len (x : CrewWorld) (h : CrewHand) : (x.hc h).length = 3 := by
  unfold CrewWorld.hc
  repeat' split
  all_goals rfl
theorem kc_len (x : CrewWorld) : x.kc.length = 3 := by
  unfold CrewWorld.kc
  repeat' split
  all_goals rfl
theorem tri_len (x : CrewWorld) (who : Nat) : (x.tri who).length = 3 := by
  unfold CrewWorld.tri
  split
  · exact rc_len x
  · split
    · rfl
    · split
      · exact kc_len x
      · split
        · rfl
        · exact hc_len x _
theorem tri_ways {x : CrewWorld} (h : x.Form) (who : Nat) (hw : (who : Int) ≤ x.workers + 3) : movesBy who 0 (x.ways who) = movesBy who 0 (x.tri who) := by
  have hk := h.keeper
  have hu := h.user
  have hr := h.room
  have hww := h.start.2.1
  unfold CrewWorld.ways CrewWorld.tri
  by_cases h0 : who = 0
  · rw [if_pos h0, if_pos h0]
    unfold CrewWorld.rd CrewWorld.rc
    have e : decide (0 < x.room) = decide (x.room ≠ 0) := by rw [decide_eq_decide]; omega
    rw [e]
    repeat' split
    all_goals simp [movesBy]
  · rw [if_neg h0, if_neg h0]
    by_cases h1 : (who : Int) ≤ x.workers
    · rw [if_pos h1, if_neg (by omega), if_neg (by omega), if_neg (by omega)]
      unfold CrewWorld.hw CrewWorld.hc
      repeat' split
      all_goals simp [movesBy]
    · rw [if_neg h1]
      by_cases h2 : (who : Int) = x.workers + 1
      · rw [if_pos h2, if_pos h2]
        simp [movesBy]
      · rw [if_neg h2, if_neg h2]
        by_cases h3 : (who : Int) = x.workers + 2
        · rw [if_pos h3, if_pos h3]
          unfold CrewWorld.kw CrewWorld.kc
          by_cases k0 : x.keeper = 0
          · rw [if_pos k0, if_pos k0]
          · rw [if_neg k0, if_neg k0]
            by_cases k2 : x.keeper = 2
            · rw [if_pos k2, if_pos k2]
              simp [movesBy]
            · rw [if_neg k2, if_neg k2]
              by_cases k5 : x.keeper = 5
              · rw [if_pos k5, if_neg (by omega)]
                simp [movesBy]
              · rw [if_neg k5, if_pos (by omega)]
                simp [movesBy]
        · rw [if_neg h3, if_neg h3, if_pos (show (who : Int) = x.workers + 3 by omega)]
          by_cases u1 : x.user = 1
          · rw [if_pos u1]
            have e : (x.user == 0) = false := by rw [u1]; rfl
            rw [e]
            simp [movesBy]
          · rw [if_neg u1]
            have e : (x.user == 0) = true := by
              have : x.user = 0 := by omega
              rw [this]; rfl
            rw [e]
            simp [movesBy]
end Go.Proofs.Ytpkjjfnfolbcoaa
