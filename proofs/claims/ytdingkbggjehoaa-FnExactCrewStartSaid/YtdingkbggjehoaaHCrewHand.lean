/-
  CrewHand: what the laws' own helpers do: the size, a copy, equality.
-/
import Derived.Test.YtdingkbggjehoaaDCrewHand
set_option linter.unusedVariables false
set_option linter.unusedSimpArgs false
namespace Go.Proofs.Ytdingkbggjehoaa
open Go.ChangeShapes Go.WideShapes Go.ChangeAt Go.RowKit



def EqCrewHand (x : CrewHand) : Prop := ∀ (us vs : List Value) (fp fq : List Nat) (w : World), OwC w x.cells us fp → OwC w x.cells vs fq → Lt fp w.heap.size → Lt fq w.heap.size →
  Calls Try.prog 164 #[.agg us.toArray, .agg vs.toArray] w fun e w' => e = .returned (.bool true) ∧ Below w.heap.size w w'
set_option maxRecDepth 100000 in
theorem eqCrewHand_of (x : CrewHand) : EqCrewHand x := by
  intro us vs fp fq w ho ho' hf hf'
  obtain ⟨rfl, w0, w1, rfl⟩ := ho.oCrewHand
  obtain ⟨rfl, bw0, bw1, rfl⟩ := ho'.oCrewHand
  have hB0 : Below w.heap.size w ((w.alloc (.cells #[.int .i64 x.state, .int .i64 x.job] 122)).alloc (.cells #[.int .i64 x.state, .int .i64 x.job] 122)) := ((Below.refl _ _).alloc (Nat.le_refl _) _).alloc (by simp) _
  have R0 : Row ((w.alloc (.cells #[.int .i64 x.state, .int .i64 x.job] 122)).alloc (.cells #[.int .i64 x.state, .int .i64 x.job] 122)) w.heap.size 122 [.int .i64 x.state, .int .i64 x.job] := (Row.new w _ _).alloc _
  have S0 : Row ((w.alloc (.cells #[.int .i64 x.state, .int .i64 x.job] 122)).alloc (.cells #[.int .i64 x.state, .int .i64 x.job] 122)) (w.heap.size + 1) 122 [.int .i64 x.state, .int .i64 x.job] := by
    have h := Row.new (w.alloc (.cells #[.int .i64 x.state, .int .i64 x.job] 122)) 122 [.int .i64 x.state, .int .i64 x.job]
    simpa using h
  clear ho ho'
  go_enter Try.func164, Try.ntmps164
  go_wp2
  go_ret
  exact ⟨rfl, hB0⟩
theorem eqCrewHand_any (x : CrewHand) : EqCrewHand x := eqCrewHand_of x
def EqCrewHandS (l : List CrewHand) : Prop := ∀ (A A' : Option Addr) (n n' c c' : Nat) (fp fq : List Nat) (w : World), Ow w (.s 2 l.length (l.flatMap CrewHand.cells)) (.slice A n c) fp → Ow w (.s 2 l.length (l.flatMap CrewHand.cells)) (.slice A' n' c') fq → Lt fp w.heap.size → Lt fq w.heap.size →
  Calls Try.prog 99 #[.slice A n c, .slice A' n' c'] w fun e w' => e = .returned (.bool true) ∧ Below w.heap.size w w'
set_option maxRecDepth 100000 in
theorem eqCrewHandS_of (l : List CrewHand) (ih : ∀ x ∈ l, EqCrewHand x) : EqCrewHandS l := by
  intro A A' n n' c c' fp fq w h h' hf hf'
  obtain ⟨rfl, hc, hm⟩ := h.nlen
  obtain ⟨rfl, hc', hm'⟩ := h'.nlen
  unfold maxLen at hm hm'
  go_enter Try.func99, Try.ntmps99
  go_wp2
  go_loopw [5] (fun i wr => (∃ k : Nat, k ≤ l.length ∧ i = .int .i64 k) ∧ Below w.heap.size w wr) (fun i _ => l.length - (intOf i).toNat)
  case atStart => exact ⟨⟨0, Nat.zero_le _, rfl⟩, Below.refl _ _⟩
  case round =>
    obtain ⟨⟨k, hk, rfl⟩, hb⟩ := hrel
    by_cases hlt : k < l.length
    · obtain ⟨g, off, vs, fi, rfl, hg, hfi, hvl, hcs, hov⟩ := (h.below hb hf).elem CrewHand.cells_len hlt
      obtain ⟨g', off', vs', fi', rfl, hg', hfi', hvl', hcs', hov'⟩ := (h'.below hb hf').elem CrewHand.cells_len hlt
      have HO := hide hov
      have HO' := hide hov'
      obtain ⟨rfl, w0, w1, rfl⟩ := hov.oCrewHand
      obtain ⟨rfl, bw0, bw1, rfl⟩ := hov'.oCrewHand
      have p0 := hcs 0 _ rfl
      have q0 := hcs' 0 _ rfl
      have p1 := hcs 1 _ rfl
      have q1 := hcs' 1 _ rfl
      simp only [Nat.add_zero] at p0 q0
      have HC := hide (ih _ (List.getElem_mem hlt))
      clear hcs hcs' hov hov'
      generalize l[k] = x at *
      go_wp2_with fail
      go_still_tail 8, (by kernel_rfl)
      change wpList _ _ _ _ _ wr.drew
      go_wp2_with fail
      refine (HC.out _ _ _ _ _ (HO.out.drewN 1) (HO'.out.drewN 1) (hf.sub hfi |>.mono hb.size) (hf'.sub hfi' |>.mono hb.size)).mono ?_
      rintro e w1 ⟨rfl, hb1⟩
      go_wp2
      go_roundw
      case rel => exact ⟨⟨k + 1, by omega, by go_num⟩, (below_drewN hb 1).trans (hb1.mono hb.size)⟩
      case measure => simp [intOf]; omega
    · obtain rfl : k = l.length := by omega
      go_wp2
      go_ret
      exact ⟨rfl, hb⟩

theorem eqCrewHandS_any (l : List CrewHand) : EqCrewHandS l := eqCrewHandS_of l fun x _ => eqCrewHand_any x

end Go.Proofs.Ytdingkbggjehoaa
