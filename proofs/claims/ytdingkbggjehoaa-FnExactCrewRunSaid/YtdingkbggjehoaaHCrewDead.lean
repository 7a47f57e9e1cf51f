/-
  CrewDead: what the laws' own helpers do: the size, a copy, equality.
-/
import Derived.Test.YtdingkbggjehoaaDCrewDead
set_option linter.unusedVariables false
set_option linter.unusedSimpArgs false
namespace Go.Proofs.Ytdingkbggjehoaa
open Go.ChangeShapes Go.WideShapes Go.ChangeAt Go.RowKit



def EqCrewDead (x : CrewDead) : Prop := ∀ (us vs : List Value) (fp fq : List Nat) (w : World), OwC w x.cells us fp → OwC w x.cells vs fq → Lt fp w.heap.size → Lt fq w.heap.size →
  Calls Try.prog 168 #[.agg us.toArray, .agg vs.toArray] w fun e w' => e = .returned (.bool true) ∧ Below w.heap.size w w'
set_option maxRecDepth 100000 in
theorem eqCrewDead_of (x : CrewDead) : EqCrewDead x := by
  intro us vs fp fq w ho ho' hf hf'
  obtain ⟨rfl, w0, w1, rfl⟩ := ho.oCrewDead
  obtain ⟨rfl, bw0, bw1, rfl⟩ := ho'.oCrewDead
  have hB0 : Below w.heap.size w ((w.alloc (.cells #[.int .i64 x.at_, .int .i64 x.bad] 139)).alloc (.cells #[.int .i64 x.at_, .int .i64 x.bad] 139)) := ((Below.refl _ _).alloc (Nat.le_refl _) _).alloc (by simp) _
  have R0 : Row ((w.alloc (.cells #[.int .i64 x.at_, .int .i64 x.bad] 139)).alloc (.cells #[.int .i64 x.at_, .int .i64 x.bad] 139)) w.heap.size 139 [.int .i64 x.at_, .int .i64 x.bad] := (Row.new w _ _).alloc _
  have S0 : Row ((w.alloc (.cells #[.int .i64 x.at_, .int .i64 x.bad] 139)).alloc (.cells #[.int .i64 x.at_, .int .i64 x.bad] 139)) (w.heap.size + 1) 139 [.int .i64 x.at_, .int .i64 x.bad] := by
    have h := Row.new (w.alloc (.cells #[.int .i64 x.at_, .int .i64 x.bad] 139)) 139 [.int .i64 x.at_, .int .i64 x.bad]
    simpa using h
  clear ho ho'
  go_enter Try.func168, Try.ntmps168
  go_wp2
  go_ret
  exact ⟨rfl, hB0⟩
theorem eqCrewDead_any (x : CrewDead) : EqCrewDead x := eqCrewDead_of x
def EqCrewDeadS (l : List CrewDead) : Prop := ∀ (A A' : Option Addr) (n n' c c' : Nat) (fp fq : List Nat) (w : World), Ow w (.s 2 l.length (l.flatMap CrewDead.cells)) (.slice A n c) fp → Ow w (.s 2 l.length (l.flatMap CrewDead.cells)) (.slice A' n' c') fq → Lt fp w.heap.size → Lt fq w.heap.size →
  Calls Try.prog 109 #[.slice A n c, .slice A' n' c'] w fun e w' => e = .returned (.bool true) ∧ Below w.heap.size w w'
set_option maxRecDepth 100000 in
theorem eqCrewDeadS_of (l : List CrewDead) (ih : ∀ x ∈ l, EqCrewDead x) : EqCrewDeadS l := by
  intro A A' n n' c c' fp fq w h h' hf hf'
  obtain ⟨rfl, hc, hm⟩ := h.nlen
  obtain ⟨rfl, hc', hm'⟩ := h'.nlen
  unfold maxLen at hm hm'
  go_enter Try.func109, Try.ntmps109
  go_wp2
  go_loopw [5] (fun i wr => (∃ k : Nat, k ≤ l.length ∧ i = .int .i64 k) ∧ Below w.heap.size w wr) (fun i _ => l.length - (intOf i).toNat)
  case atStart => exact ⟨⟨0, Nat.zero_le _, rfl⟩, Below.refl _ _⟩
  case round =>
    obtain ⟨⟨k, hk, rfl⟩, hb⟩ := hrel
    by_cases hlt : k < l.length
    · obtain ⟨g, off, vs, fi, rfl, hg, hfi, hvl, hcs, hov⟩ := (h.below hb hf).elem CrewDead.cells_len hlt
      obtain ⟨g', off', vs', fi', rfl, hg', hfi', hvl', hcs', hov'⟩ := (h'.below hb hf').elem CrewDead.cells_len hlt
      have HO := hide hov
      have HO' := hide hov'
      obtain ⟨rfl, w0, w1, rfl⟩ := hov.oCrewDead
      obtain ⟨rfl, bw0, bw1, rfl⟩ := hov'.oCrewDead
      have p0 := hcs 0 _ rfl
      have q0 := hcs' 0 _ rfl
      have p1 := hcs 1 _ rfl
      have q1 := hcs' 1 _ rfl
      simp only [Nat.add_zero] at p0 q0
      have HC := hide (ih _ (List.getElem_mem hlt))
      clear hcs hcs' hov hov'
      generalize l[k] = x at *
      go_wp2_with fail
      go_still_tail 8, (by kernel_rfl)
      change wpList _ _ _ _ _ wr.drew
      go_wp2_with fail
      refine (HC.out _ _ _ _ _ (HO.out.drewN 1) (HO'.out.drewN 1) (hf.sub hfi |>.mono hb.size) (hf'.sub hfi' |>.mono hb.size)).mono ?_
      rintro e w1 ⟨rfl, hb1⟩
      go_wp2
      go_roundw
      case rel => exact ⟨⟨k + 1, by omega, by go_num⟩, (below_drewN hb 1).trans (hb1.mono hb.size)⟩
      case measure => simp [intOf]; omega
    · obtain rfl : k = l.length := by omega
      go_wp2
      go_ret
      exact ⟨rfl, hb⟩

theorem eqCrewDeadS_any (l : List CrewDead) : EqCrewDeadS l := eqCrewDeadS_of l fun x _ => eqCrewDead_any x

end Go.Proofs.Ytdingkbggjehoaa
