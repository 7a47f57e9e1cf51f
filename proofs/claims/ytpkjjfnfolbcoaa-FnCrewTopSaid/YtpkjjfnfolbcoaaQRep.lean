/-
  slices.Repeat of one number, at most sixteen times.
-/
import Derived.Laws.CopyOwn
import Derived.Test.YtpkjjfnfolbcoaaQApp
set_option linter.unusedVariables false
set_option linter.unusedSimpArgs false
namespace Go.Proofs.Ytpkjjfnfolbcoaa
open Go.ChangeShapes Go.WideShapes Go.ChangeAt Go.RowKit

set_option maxRecDepth 100000 in
theorem mul64_any (c : Nat) (h1 : 1 ≤ c) (h2 : c ≤ 16) (w : World) :
    Calls Try.prog 160 #[.int .u64 1, .int .u64 (c : Int)] w fun e w' => e = .returned (.tuple #[.int .u64 0, .int .u64 (c : Int)]) ∧ w' = w := by
  have hc : c = 1 ∨ c = 2 ∨ c = 3 ∨ c = 4 ∨ c = 5 ∨ c = 6 ∨ c = 7 ∨ c = 8 ∨ c = 9 ∨ c = 10 ∨ c = 11 ∨ c = 12 ∨ c = 13 ∨ c = 14 ∨ c = 15 ∨ c = 16 := by omega
  clear h1 h2
  rcases hc with rfl | rfl | rfl | rfl | rfl | rfl | rfl | rfl | rfl | rfl | rfl | rfl | rfl | rfl | rfl | rfl
  all_goals
    go_enter Try.func160, Try.ntmps160
    go_wp2
    go_ret2
    exact ⟨rfl, rfl⟩
set_option maxRecDepth 100000 in
theorem mul_any (c : Nat) (h1 : 1 ≤ c) (h2 : c ≤ 16) (w : World) :
    Calls Try.prog 124 #[.int .u64 1, .int .u64 (c : Int)] w fun e w' => e = .returned (.tuple #[.int .u64 0, .int .u64 (c : Int)]) ∧ w' = w := by
  go_enter Try.func124, Try.ntmps124
  go_wp2_with fail
  refine (mul64_any c h1 h2 _).mono ?_
  rintro e w' ⟨rfl, rfl⟩
  go_wp2
  go_ret2
  exact ⟨rfl, rfl⟩

theorem kcel {B : Nat} {W w' : World} {p : Addr} {v : Value} (h : W.cell? p = some v) (hb : Below B W w') (hl : p.block < B) : w'.cell? p = some v := (hb.cell hl).trans h
def LenIs (cs : List Value) (a b : Nat) : Prop := cs.length = Nat.min a b
def SrcCells (w : World) (ad : Addr) (cs : List Value) : Prop := ∀ j v, cs[j]? = some v → w.cell? (ad.add j) = some v
/-- the row after n copies -/
def repRow (z : Value) (c n : Nat) : List Value := List.replicate n z ++ List.replicate (c - n) (.int .i64 0)
theorem repRow_len (z : Value) (c n : Nat) (h : n ≤ c) : (repRow z c n).length = c := by simp [repRow]; omega
theorem repRow_zero (z : Value) (c : Nat) : repRow z c 0 = List.replicate c (.int .i64 0) := by simp [repRow]
theorem repRow_full (z : Value) (c : Nat) : repRow z c c = List.replicate c z := by simp [repRow]
theorem repRow_splice (z : Value) (c n m : Nat) (h : n + m ≤ c) : splice (repRow z c n) n (List.replicate m z) = repRow z c (n + m) := by
  unfold splice repRow
  rw [List.take_append_of_le_length (by simp), List.take_of_length_le (by simp), List.drop_append]
  simp only [List.length_replicate, List.drop_replicate]
  rw [show n - (n + m) = 0 by omega, show n + m - n = m by omega, show c - n - m = c - (n + m) by omega]
  simp only [List.replicate_zero, List.nil_append, ← List.append_assoc, List.replicate_append_replicate]
theorem repRow_get (z : Value) (c n j : Nat) (h : j < n) : (repRow z c n)[j]? = some z := by
  unfold repRow
  rw [List.getElem?_append_left (by simpa using h)]
  simp [h]

section
variable {P : Program} {ops : Array Oper} {rest : List Oper} {o : Oper} {a : Act} {K : Act → World → Prop} {Q : Exit → Act → World → Prop} {E : Prop} {w : World}
theorem wpl_run (hgd : o.guard = none) (d s : Operand) {dT sT : TypeId} (ho : o.op = .call { callee := .builtin .copy, args := #[d, s], argTypes := #[dT, sT] }) (vd vs : Value) (hd : a.eval d = vd) (hs : a.eval s = vs) {r : Value} {w' : World}
    (hrun : (Builtin.copy_ #[dT, sT] o.type #[vd, vs]).run P w = .ok r w') (h : wpList P ops Q rest (a.put o.dst r) w') : wpList P ops Q (o :: rest) a w := by
  refine wpList_plain hgd fun K hK => ?_
  unfold Oper.wp
  simp [execOp, ho, resolve, invoke, builtin, hd, hs, hrun, Result.andThen]
  exact hK _ _ h
theorem step_run (hgd : o.guard = none) (d s : Operand) {dT sT : TypeId} (ho : o.op = .call { callee := .builtin .copy, args := #[d, s], argTypes := #[dT, sT] }) (vd vs : Value) (hd : a.eval d = vd) (hs : a.eval s = vs) {r : Value} {w' : World}
    (hrun : (Builtin.copy_ #[dT, sT] o.type #[vd, vs]).run P w = .ok r w') (h : K (a.put o.dst r) w') : if Region.wanted o (yielded ops a.tmps) = true then Oper.wp P o a w K Q else E := by
  have hw : Region.wanted o (yielded ops a.tmps) = true := by simp [Region.wanted, hgd]
  rw [if_pos hw]
  unfold Oper.wp
  simp [execOp, ho, resolve, invoke, builtin, hd, hs, hrun, Result.andThen]
  exact h
end
theorem setRow_fold (W : World) (cs cs' : Array Value) (e : TypeId) (q : Nat) : ((W.alloc (.cells cs e)).drewN q).setRow W.heap.size cs' = (W.alloc (.cells cs' e)).drewN q := by
  have hh : ∀ f : Obj → Obj, f (.cells cs e) = .cells cs' e → (W.heap.push (Obj.cells cs e)).modify W.heap.size f = W.heap.push (.cells cs' e) := fun f hf => by
    apply Array.ext
    · simp
    · intro i h1 h2
      rw [Array.getElem_modify]
      by_cases hi : W.heap.size = i
      · subst hi
        simp [hf]
      · have : i < W.heap.size := by simp at h1; omega
        simp [hi, Array.getElem_push, this]
  have h2 : ((W.alloc (.cells cs e)).drewN q).heap = W.heap.push (.cells cs e) := rfl
  unfold World.setRow
  rw [h2, hh]
  · rfl
  · rfl
theorem copy_rep_cells (W : World) (z : Int) (c n m q : Nat) (hn : n ≤ c) (hm : m ≤ n) : SrcCells ((W.alloc (.cells (repRow (.int .i64 z) c n).toArray 3)).drewN q) ⟨W.heap.size, 0, none⟩ (List.replicate m (.int .i64 z)) := fun j v hj => by
  have hjm : j < m := by
    have := (List.getElem?_eq_some_iff.1 hj).1
    simpa using this
  rw [List.getElem?_replicate, if_pos hjm] at hj
  injection hj with hj
  subst hj
  have h := ((Row.new W 3 (repRow (.int .i64 z) c n)).drewN q).cell j
  rw [repRow_get _ _ _ _ (by omega)] at h
  simpa [Addr.add_lit] using h
theorem run_copy_rep (W : World) (ty : TypeId) (z : Int) (c n m q : Nat) (hnm : n + m ≤ c) (ao : Option Addr) (sLen sCap dLen dCap : Nat) (hl : LenIs (List.replicate m (.int .i64 z)) sLen dLen) (hao : ∃ ad, ao = some ad ∧ SrcCells ((W.alloc (.cells (repRow (.int .i64 z) c n).toArray 3)).drewN q) ad (List.replicate m (.int .i64 z))) :
    (Builtin.copy_ #[22, 22] ty #[.slice (some ⟨W.heap.size, n, none⟩) dLen dCap, .slice ao sLen sCap]).run Try.prog ((W.alloc (.cells (repRow (.int .i64 z) c n).toArray 3)).drewN q) = .ok (goInt m) ((W.alloc (.cells (repRow (.int .i64 z) c (n + m)).toArray 3)).drewN q) := by
  obtain ⟨ad, rfl, hs⟩ := hao
  have hsz : (Try.prog.info? 3).map (·.size) = some 1 := by
    obtain ⟨i0, hi, hz0, hz1, hz2⟩ := info_parts info_int
    rw [hi]; simp [hz1]
  have hrun := run_copy_row (P := Try.prog) ((W.alloc (.cells (repRow (.int .i64 z) c n).toArray 3)).drewN q) 22 22 ty 3 W.heap.size n dLen dCap ad sLen sCap (repRow (.int .i64 z) c n).toArray 3 (List.replicate m (.int .i64 z)) Try.underlying22 hsz (heap_alloc_new W _) hl hs (by simp [repRow_len _ _ _ (show n ≤ c by omega)]; omega) (fun v hv => by rw [List.eq_of_mem_replicate hv]; rfl)
  rw [List.length_replicate, List.toList_toArray, setRow_fold] at hrun
  rw [hrun, ← repRow_splice _ _ _ _ hnm]
  unfold splice
  rw [List.length_replicate]
  simp only [List.append_assoc]
set_option maxRecDepth 100000 in
set_option maxHeartbeats 1000000 in
theorem repeat_any (c : Nat) (h1 : 1 ≤ c) (h2 : c ≤ 16) (g : Nat) (z : Int) (w : World) (hg : w.cell? ⟨g, 0, none⟩ = some (.int .i64 z)) :
    Calls Try.prog 69 #[.slice (some ⟨g, 0, none⟩) 1 1, .int .i64 (c : Int)] w fun e w' =>
      e = .returned (.slice (some ⟨w.heap.size, 0, none⟩) c c) ∧ ∃ q, w' = (w.alloc (.cells (List.replicate c (.int .i64 z)).toArray 3)).drewN q := by
  obtain ⟨i0, hi, hz0, hz1, hz2⟩ := info_parts info_int
  have hmk0 := run_make_rowN (P := Try.prog) 22 3 i0 _ Try.underlying22 hi hz0 .i64 .i64 c c (Nat.le_refl _) (by rw [hz2]; omega) (by omega)
  rw [hz1] at hmk0
  have hmk : ∀ u : World, (Instr.makeSlice 22 (.int .i64 (c : Int)) (.int .i64 (c : Int))).run Try.prog u = .ok (.slice (some ⟨u.heap.size, 0, none⟩) c c) (u.alloc (.cells (repRow (.int .i64 z) c 0).toArray 3)) := fun u => by
    rw [hmk0 u, repRow_zero, ← toList_madeCells_one, Array.toArray_toList]
    simp
    rfl
  clear hi hz0 hz1 hz2 i0 hmk0
  have hlt : g < w.heap.size := cell_lt hg
  have hw1 : IntKind.u64.wrap (c : Int) = (c : Int) := by simp only [IntKind.wrap, IntKind.bits, IntKind.signed]; simp; omega
  have hw2 : IntKind.i64.wrap (c : Int) = (c : Int) := by simp only [IntKind.wrap, IntKind.bits, IntKind.signed]; simp; omega
  have hn1 : ¬ ((c : Int) < 0) := by omega
  have hn2 : ¬ ((9223372036854775807 : Int) < (c : Int)) := by omega
  have hn3 : decide ((9223372036854775807 : Int) < (c : Int)) = false := decide_eq_false hn2
  have HG := hide hg
  go_enter Try.func69, Try.ntmps69
  go_wp2_with fail
  refine (mul_any c h1 h2 _).mono ?_
  rintro e W ⟨rfl, rfl⟩
  have HR1 := hide (fun ty => run_copy_rep W ty z c 0 1 0 (by omega) (some ⟨g, 0, none⟩) 1 1 c c (by unfold LenIs; simp [Nat.min_def]; omega) ⟨_, rfl, fun j v hj => by
    match j, hj with
    | 0, hj =>
      simp at hj
      subst hj
      exact kcel HG.out ((Below.refl _ W).alloc (Nat.le_refl _) _) hlt⟩)
  go_wp2_with (first | (refine wpl_run rfl _ _ rfl _ _ rfl rfl (HR1.out _) ?_))
  clear HR1 hmk
  go_loopw [8] (fun i wr => ∃ n q : Nat, 1 ≤ n ∧ n ≤ c ∧ i = .int .i64 (n : Int) ∧ wr = (W.alloc (.cells (repRow (.int .i64 z) c n).toArray 3)).drewN q) (fun i _ => c - (intOf i).toNat)
  case atStart => exact ⟨1, 0, by omega, by omega, rfl, rfl⟩
  case round =>
    obtain ⟨n, q, hn1, hn2, rfl, rfl⟩ := hrel
    by_cases hlt2 : n < c
    · obtain ⟨m, hm⟩ : ∃ m, m = Nat.min n (c - n) := ⟨_, rfl⟩
      have hm1 : 1 ≤ m ∧ m ≤ n ∧ n + m ≤ c := by rw [hm]; simp only [Nat.min_def]; split <;> omega
      have hne : ¬ (c = n) := by omega
      have hne' : ¬ (n = c) := by omega
      have HR1 := hide (fun ty => run_copy_rep W ty z c n m (q + 1) hm1.2.2 (some ⟨W.heap.size, 0, none⟩) n c (c - n) (c - n) (by unfold LenIs; rw [List.length_replicate, hm]) ⟨_, rfl, copy_rep_cells W z c n m (q + 1) hn2 hm1.2.1⟩)
      clear hm
      have hwr : IntKind.i64.wrap ((n : Int) + (m : Int)) = ((n + m : Nat) : Int) := by simp only [IntKind.wrap, IntKind.bits, IntKind.signed]; simp; omega
      go_wp2
      go_region_law (first | (refine step_run (by rfl) _ _ (by rfl) (.slice (some ⟨W.heap.size, n, none⟩) (c - n) (c - n)) (.slice (some ⟨W.heap.size, 0, none⟩) n c) (by simp [Act.eval, Act.put]) (by simp [Act.eval, Act.put]) (HR1.out _) ?_))
      all_goals
        go_simp
        go_roundw
        case rel => exact ⟨.int .i64 ((n + m : Nat) : Int), _, _, _, _, _, _, _, _, _, _, _, _, _, ⟨n + m, q + 1, by omega, by omega, rfl, rfl⟩, rfl⟩
        case measure => simp [intOf]; omega
    · obtain rfl : n = c := by omega
      go_wp2
      go_ret
      exact ⟨rfl, q, by rw [repRow_full]⟩
end Go.Proofs.Ytpkjjfnfolbcoaa
