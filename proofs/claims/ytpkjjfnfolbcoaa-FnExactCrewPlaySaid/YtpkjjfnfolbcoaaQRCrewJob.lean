/-
  CrewDead: what the laws' own helpers do: the size, a copy, equality. CrewTold: what the laws' own helpers do: the size, a copy, equality. A value of laws.CrewJob that came in, read as data.
-/
import Derived.Test.YtpkjjfnfolbcoaaQRead
import Derived.Test.YtpkjjfnfolbcoaaQDCrewJob
set_option linter.unusedVariables false
set_option linter.unusedSimpArgs false
namespace Go.Proofs.Ytpkjjfnfolbcoaa
open Go.ChangeShapes Go.WideShapes Go.ChangeAt Go.RowKit



def EqCrewDead (x : CrewDead) : Prop := ∀ (us vs : List Value) (fp fq : List Nat) (w : World), OwC w x.cells us fp → OwC w x.cells vs fq → Lt fp w.heap.size → Lt fq w.heap.size →
  Calls Try.prog 140 #[.agg us.toArray, .agg vs.toArray] w fun e w' => e = .returned (.bool true) ∧ Below w.heap.size w w'
set_option maxRecDepth 100000 in
theorem eqCrewDead_of (x : CrewDead) : EqCrewDead x := by
  intro us vs fp fq w ho ho' hf hf'
  obtain ⟨rfl, w0, w1, rfl⟩ := ho.oCrewDead
  obtain ⟨rfl, bw0, bw1, rfl⟩ := ho'.oCrewDead
  have hB0 : Below w.heap.size w ((w.alloc (.cells #[.int .i64 x.at_, .int .i64 x.bad] 114)).alloc (.cells #[.int .i64 x.at_, .int .i64 x.bad] 114)) := ((Below.refl _ _).alloc (Nat.le_refl _) _).alloc (by simp) _
  have R0 : Row ((w.alloc (.cells #[.int .i64 x.at_, .int .i64 x.bad] 114)).alloc (.cells #[.int .i64 x.at_, .int .i64 x.bad] 114)) w.heap.size 114 [.int .i64 x.at_, .int .i64 x.bad] := (Row.new w _ _).alloc _
  have S0 : Row ((w.alloc (.cells #[.int .i64 x.at_, .int .i64 x.bad] 114)).alloc (.cells #[.int .i64 x.at_, .int .i64 x.bad] 114)) (w.heap.size + 1) 114 [.int .i64 x.at_, .int .i64 x.bad] := by
    have h := Row.new (w.alloc (.cells #[.int .i64 x.at_, .int .i64 x.bad] 114)) 114 [.int .i64 x.at_, .int .i64 x.bad]
    simpa using h
  clear ho ho'
  go_enter Try.func140, Try.ntmps140
  go_wp2
  go_ret
  exact ⟨rfl, hB0⟩
theorem eqCrewDead_any (x : CrewDead) : EqCrewDead x := eqCrewDead_of x
def EqCrewDeadS (l : List CrewDead) : Prop := ∀ (A A' : Option Addr) (n n' c c' : Nat) (fp fq : List Nat) (w : World), Ow w (.s 2 l.length (l.flatMap CrewDead.cells)) (.slice A n c) fp → Ow w (.s 2 l.length (l.flatMap CrewDead.cells)) (.slice A' n' c') fq → Lt fp w.heap.size → Lt fq w.heap.size →
  Calls Try.prog 84 #[.slice A n c, .slice A' n' c'] w fun e w' => e = .returned (.bool true) ∧ Below w.heap.size w w'
set_option maxRecDepth 100000 in
theorem eqCrewDeadS_of (l : List CrewDead) (ih : ∀ x ∈ l, EqCrewDead x) : EqCrewDeadS l := by
  intro A A' n n' c c' fp fq w h h' hf hf'
  obtain ⟨rfl, hc, hm⟩ := h.nlen
  obtain ⟨rfl, hc', hm'⟩ := h'.nlen
  unfold maxLen at hm hm'
  go_enter Try.func84, Try.ntmps84
  go_wp2
  go_loopw [5] (fun i wr => (∃ k : Nat, k ≤ l.length ∧ i = .int .i64 k) ∧ Below w.heap.size w wr) (fun i _ => l.length - (intOf i).toNat)
  case atStart => exact ⟨⟨0, Nat.zero_le _, rfl⟩, Below.refl _ _⟩
  case round =>
    obtain ⟨⟨k, hk, rfl⟩, hb⟩ := hrel
    by_cases hlt : k < l.length
    · obtain ⟨g, off, vs, fi, rfl, hg, hfi, hvl, hcs, hov⟩ := (h.below hb hf).elem CrewDead.cells_len hlt
      obtain ⟨g', off', vs', fi', rfl, hg', hfi', hvl', hcs', hov'⟩ := (h'.below hb hf').elem CrewDead.cells_len hlt
      have HO := hide hov
      have HO' := hide hov'
      obtain ⟨rfl, w0, w1, rfl⟩ := hov.oCrewDead
      obtain ⟨rfl, bw0, bw1, rfl⟩ := hov'.oCrewDead
      have p0 := hcs 0 _ rfl
      have q0 := hcs' 0 _ rfl
      have p1 := hcs 1 _ rfl
      have q1 := hcs' 1 _ rfl
      simp only [Nat.add_zero] at p0 q0
      have HC := hide (ih _ (List.getElem_mem hlt))
      clear hcs hcs' hov hov'
      generalize l[k] = x at *
      go_wp2_with fail
      go_still_tail 8, (by kernel_rfl)
      change wpList _ _ _ _ _ wr.drew
      go_wp2_with fail
      refine (HC.out _ _ _ _ _ (HO.out.drewN 1) (HO'.out.drewN 1) (hf.sub hfi |>.mono hb.size) (hf'.sub hfi' |>.mono hb.size)).mono ?_
      rintro e w1 ⟨rfl, hb1⟩
      go_wp2
      go_roundw
      case rel => exact ⟨⟨k + 1, by omega, by go_num⟩, (below_drewN hb 1).trans (hb1.mono hb.size)⟩
      case measure => simp [intOf]; omega
    · obtain rfl : k = l.length := by omega
      go_wp2
      go_ret
      exact ⟨rfl, hb⟩

theorem eqCrewDeadS_any (l : List CrewDead) : EqCrewDeadS l := eqCrewDeadS_of l fun x _ => eqCrewDead_any x

end Go.Proofs.Ytpkjjfnfolbcoaa
set_option linter.unusedVariables false
set_option linter.unusedSimpArgs false
namespace Go.Proofs.Ytpkjjfnfolbcoaa
open Go.ChangeShapes Go.WideShapes Go.ChangeAt Go.RowKit



def EqCrewTold (x : CrewTold) : Prop := ∀ (us vs : List Value) (fp fq : List Nat) (w : World), OwC w x.cells us fp → OwC w x.cells vs fq → Lt fp w.heap.size → Lt fq w.heap.size →
  Calls Try.prog 30 #[.agg us.toArray, .agg vs.toArray] w fun e w' => e = .returned (.bool true) ∧ Below w.heap.size w w'
set_option maxRecDepth 100000 in
theorem eqCrewTold_of (x : CrewTold) : EqCrewTold x := by
  intro us vs fp fq w ho ho' hf hf'
  obtain ⟨A1, c1, A2, c2, f1, f2, rfl, o1, o2, w3, w4, w5, rfl⟩ := ho.oCrewTold
  obtain ⟨bA1, bc1, bA2, bc2, bf1, bf2, rfl, bo1, bo2, bw3, bw4, bw5, rfl⟩ := ho'.oCrewTold
  have l1 := hf.left
  have l2 := hf.right
  have k1 := hf'.left
  have k2 := hf'.right
  have hB0 : Below w.heap.size w ((w.alloc (.cells #[.bool x.ok, .slice A1 x.items.length c1, .slice A2 x.dead.length c2, .int .i64 x.jobs, .int .i64 x.steps, .int .i64 x.ops] 45)).alloc (.cells #[.bool x.ok, .slice bA1 x.items.length bc1, .slice bA2 x.dead.length bc2, .int .i64 x.jobs, .int .i64 x.steps, .int .i64 x.ops] 45)) := ((Below.refl _ _).alloc (Nat.le_refl _) _).alloc (by simp) _
  have R0 : Row ((w.alloc (.cells #[.bool x.ok, .slice A1 x.items.length c1, .slice A2 x.dead.length c2, .int .i64 x.jobs, .int .i64 x.steps, .int .i64 x.ops] 45)).alloc (.cells #[.bool x.ok, .slice bA1 x.items.length bc1, .slice bA2 x.dead.length bc2, .int .i64 x.jobs, .int .i64 x.steps, .int .i64 x.ops] 45)) w.heap.size 45 [.bool x.ok, .slice A1 x.items.length c1, .slice A2 x.dead.length c2, .int .i64 x.jobs, .int .i64 x.steps, .int .i64 x.ops] := (Row.new w _ _).alloc _
  have S0 : Row ((w.alloc (.cells #[.bool x.ok, .slice A1 x.items.length c1, .slice A2 x.dead.length c2, .int .i64 x.jobs, .int .i64 x.steps, .int .i64 x.ops] 45)).alloc (.cells #[.bool x.ok, .slice bA1 x.items.length bc1, .slice bA2 x.dead.length bc2, .int .i64 x.jobs, .int .i64 x.steps, .int .i64 x.ops] 45)) (w.heap.size + 1) 45 [.bool x.ok, .slice bA1 x.items.length bc1, .slice bA2 x.dead.length bc2, .int .i64 x.jobs, .int .i64 x.steps, .int .i64 x.ops] := by
    have h := Row.new (w.alloc (.cells #[.bool x.ok, .slice A1 x.items.length c1, .slice A2 x.dead.length c2, .int .i64 x.jobs, .int .i64 x.steps, .int .i64 x.ops] 45)) 45 [.bool x.ok, .slice bA1 x.items.length bc1, .slice bA2 x.dead.length bc2, .int .i64 x.jobs, .int .i64 x.steps, .int .i64 x.ops]
    simpa using h
  clear ho ho'
  go_enter Try.func30, Try.ntmps30
  go_wp2_with fail
  refine (eqIntS_same _ _ _ _ _ _ _ _ _ _ (o1.below hB0 l1) (bo1.below hB0 k1)).mono ?_
  rintro e w1_ ⟨rfl, hb1⟩
  have hB1 := hB0.trans (hb1.mono hB0.size)
  have R1 := R0.below hb1 R0.lt
  have S1 := S0.below hb1 S0.lt
  have c1_2 := R1.cell 2
  have d1_2 := S1.cell 2
  go_wp2_with fail
  refine (eqCrewDeadS_any _ _ _ _ _ _ _ _ _ _ (o2.below hB1 l2) (bo2.below hB1 k2) (l2.up hB1) (k2.up hB1)).mono ?_
  rintro e w2_ ⟨rfl, hb2⟩
  have hB2 := hB1.trans (hb2.mono hB1.size)
  have R2 := R1.below hb2 R1.lt
  have S2 := S1.below hb2 S1.lt
  have c2_3 := R2.cell 3
  have d2_3 := S2.cell 3
  have c2_4 := R2.cell 4
  have d2_4 := S2.cell 4
  have c2_5 := R2.cell 5
  have d2_5 := S2.cell 5
  go_wp2
  go_ret
  exact ⟨rfl, hB2⟩
theorem eqCrewTold_any (x : CrewTold) : EqCrewTold x := eqCrewTold_of x

end Go.Proofs.Ytpkjjfnfolbcoaa
set_option linter.unusedVariables false
set_option linter.unusedSimpArgs false
namespace Go.Proofs.Ytpkjjfnfolbcoaa
open Go.ChangeShapes Go.WideShapes Go.ChangeAt Go.RowKit Go.Deep

theorem cellsOf_L_CrewJob : Try.prog.cellsOf 92 = 2 := by kernel_rfl
instance : Inhabited CrewJob := ⟨.mk [] 0⟩
section
variable {H : Type} {enc : TypeId × Value → H} {w : World} {base : Nat} {spare : Nat → Bool} {held : Bool}
set_option maxRecDepth 100000 in
theorem CrewJob_read : ∀ (fuel : Nat) {cs : List Value} {x : DataW H × List MemPlace}, DataW.trod enc Try.prog w base spare held fuel 92 cs = some x → ∃ (x : CrewJob) (fp : List Nat), OwC w x.cells cs fp ∧ Lt fp w.heap.size := by
  intro fuel
  induction fuel using Nat.strongRecOn with
  | _ fuel ih =>
    intro cs x h
    obtain ⟨hl, n, hn, hf⟩ := field_read Try.underlying92 h
    rw [cellsOf_L_CrewJob] at hl
    match cs, hl with
    | [c0, c1], _ =>
      obtain ⟨y0, h0⟩ := hf 0 22 0 rfl
      rw [cellsOf_ints] at h0
      obtain ⟨x0, v0, f0, e0, o0, l0⟩ := ints_read h0
      obtain ⟨y1, h1⟩ := hf 1 3 1 rfl
      rw [cellsOf_int] at h1
      obtain ⟨x1, e1, _, w1⟩ := DataW.trod_int Try.underlying3 h1
      simp only [List.drop_zero, List.drop_succ_cons, List.take_succ_cons, List.take_zero, List.cons.injEq, and_true] at e0 e1
      subst e0
      subst e1
      refine ⟨.mk x0 x1, f0, ?_, l0⟩
      have hm := OwC.mCrewJob (w := w) (x := .mk x0 x1) o0 w1
      first | exact hm | simpa using hm | simpa [List.append_assoc] using hm
end
end Go.Proofs.Ytpkjjfnfolbcoaa
