/-
  The comparing of what crews told: lwInts, lwTold, where both are the same (jobs, items, dead).
-/
import Derived.BigQuiet
import Derived.Deep.RegionHeld3
import Derived.Test.YtpkjjfnfolbcoaaQCrewT
import Derived.Test.YtpkjjfnfolbcoaaQLwInts
set_option linter.unusedVariables false
set_option linter.unusedSimpArgs false
namespace Go.Proofs.Ytpkjjfnfolbcoaa
open Go.ChangeShapes Go.WideShapes Go.ChangeAt Go.RowKit

set_option maxRecDepth 100000 in
set_option maxHeartbeats 1000000 in
theorem lwTold_like (x : CrewTold) (s o : Int) (us vs : List Value) (fp fq : List Nat) (w : World) (ho : OwC w x.cells us fp) (ho' : OwC w (CrewTold.mk x.ok x.items x.dead x.jobs s o).cells vs fq) (hf : Lt fp w.heap.size) (hf' : Lt fq w.heap.size) :
    Calls Try.prog 44 #[.agg us.toArray, .agg vs.toArray] w fun e w' => e = .returned (.bool true) ∧ Below w.heap.size w w' := by
  obtain ⟨A1, c1, A2, c2, f1, f2, rfl, o1, o2, w3, w4, w5, rfl⟩ := ho.oCrewTold
  have qqq := ho'.oCrewTold
  dsimp only at qqq
  obtain ⟨bA1, bc1, bA2, bc2, bf1, bf2, rfl, bo1, bo2, bw3, bw4, bw5, rfl⟩ := qqq
  have hB0 : Below w.heap.size w ((w.alloc (.cells #[.bool x.ok, .slice A1 x.items.length c1, .slice A2 x.dead.length c2, .int .i64 x.jobs, .int .i64 x.steps, .int .i64 x.ops] 45)).alloc (.cells #[.bool x.ok, .slice bA1 x.items.length bc1, .slice bA2 x.dead.length bc2, .int .i64 x.jobs, .int .i64 s, .int .i64 o] 45)) := ((Below.refl _ _).alloc (Nat.le_refl _) _).alloc (by simp) _
  have R0 : Row ((w.alloc (.cells #[.bool x.ok, .slice A1 x.items.length c1, .slice A2 x.dead.length c2, .int .i64 x.jobs, .int .i64 x.steps, .int .i64 x.ops] 45)).alloc (.cells #[.bool x.ok, .slice bA1 x.items.length bc1, .slice bA2 x.dead.length bc2, .int .i64 x.jobs, .int .i64 s, .int .i64 o] 45)) w.heap.size 45 [.bool x.ok, .slice A1 x.items.length c1, .slice A2 x.dead.length c2, .int .i64 x.jobs, .int .i64 x.steps, .int .i64 x.ops] := (Row.new w _ _).alloc _
  have S0 : Row ((w.alloc (.cells #[.bool x.ok, .slice A1 x.items.length c1, .slice A2 x.dead.length c2, .int .i64 x.jobs, .int .i64 x.steps, .int .i64 x.ops] 45)).alloc (.cells #[.bool x.ok, .slice bA1 x.items.length bc1, .slice bA2 x.dead.length bc2, .int .i64 x.jobs, .int .i64 s, .int .i64 o] 45)) (w.heap.size + 1) 45 [.bool x.ok, .slice bA1 x.items.length bc1, .slice bA2 x.dead.length bc2, .int .i64 x.jobs, .int .i64 s, .int .i64 o] := by
    have h := Row.new (w.alloc (.cells #[.bool x.ok, .slice A1 x.items.length c1, .slice A2 x.dead.length c2, .int .i64 x.jobs, .int .i64 x.steps, .int .i64 x.ops] 45)) 45 [.bool x.ok, .slice bA1 x.items.length bc1, .slice bA2 x.dead.length bc2, .int .i64 x.jobs, .int .i64 s, .int .i64 o]
    simpa using h
  have HO1 := hide (o1.below hB0 hf.left)
  have HO2 := hide (o2.below hB0 hf.right)
  have HP1 := hide (bo1.below hB0 hf'.left)
  have HP2 := hide (bo2.below hB0 hf'.right)
  have L2 := hide (hf.right.up hB0)
  have K2 := hide (hf'.right.up hB0)
  have HB := hide hB0
  obtain ⟨_, _, hm2⟩ := o2.nlen
  unfold maxLen at hm2
  clear ho ho' o1 o2 bo1 bo2 hB0
  go_enter Try.func44, Try.ntmps44
  go_wp2_with fail
  refine (lwInts_same _ _ _ _ _ _ _ _ _ _ HO1.out HP1.out).mono ?_
  rintro e w1 ⟨rfl, hb1⟩
  have HB1 := hide (HB.out.trans (hb1.mono HB.out.size))
  have HR1 := hide (R0.below hb1 R0.lt)
  have HS1 := hide (S0.below hb1 S0.lt)
  have HO := hide (HO2.out.below hb1 L2.out)
  have HP := hide (HP2.out.below hb1 K2.out)
  have HL := hide (L2.out.up hb1)
  have HK := hide (K2.out.up hb1)
  clear R0 S0 hb1 HO1 HO2 HP1 HP2 L2 K2
  go_wp2
  go_loopw [5] (fun i wr => (∃ k : Nat, k ≤ x.dead.length ∧ i = .int .i64 k) ∧ ∃ q, wr = w1.drewN q) (fun i _ => x.dead.length - (intOf i).toNat)
  case atStart => exact ⟨⟨0, Nat.zero_le _, rfl⟩, 0, rfl⟩
  case round =>
    obtain ⟨⟨k, hk, rfl⟩, q, rfl⟩ := hrel
    have r2 : w1.cell? ⟨w.heap.size, 2, none⟩ = some (.slice A2 x.dead.length c2) := HR1.out.cell 2
    have s2 : w1.cell? ⟨w.heap.size + 1, 2, none⟩ = some (.slice bA2 x.dead.length bc2) := HS1.out.cell 2
    have lr := HR1.out.lt
    have ls := HS1.out.lt
    by_cases hlt : k < x.dead.length
    · have hltI : (k : Int) < (x.dead.length : Int) := by omega
      obtain ⟨ga, oa, usa, fa, rfl, hga, -, hla, hca, hoa⟩ := HO.out.elem CrewDead.cells_len hlt
      obtain ⟨gb, ob, usb, fb, rfl, hgb, -, hlb, hcb, hob⟩ := HP.out.elem CrewDead.cells_len hlt
      obtain ⟨rfl, -, -, -⟩ := hoa.oCrewDead
      obtain ⟨rfl, -, -, -⟩ := hob.oCrewDead
      have a0 := hca 0 _ rfl
      have a1 := hca 1 _ rfl
      have b0 := hcb 0 _ rfl
      have b1 := hcb 1 _ rfl
      have la := HL.out _ hga
      have lb := HK.out _ hgb
      simp only [Nat.add_zero] at a0 b0
      generalize x.dead[k] = y at *
      clear hca hcb hoa hob
      go_wp2
      go_quiet (fail)
      go_wp2
      go_roundw
      case rel => exact ⟨⟨k + 1, by omega, by go_num⟩, _, rfl⟩
      case measure => simp [intOf]; omega
    · obtain rfl : k = x.dead.length := by omega
      go_wp2
      go_ret
      exact ⟨rfl, below_drewN HB1.out q⟩
theorem lwTold_same (x : CrewTold) (us vs : List Value) (fp fq : List Nat) (w : World) (ho : OwC w x.cells us fp) (ho' : OwC w x.cells vs fq) (hf : Lt fp w.heap.size) (hf' : Lt fq w.heap.size) :
    Calls Try.prog 44 #[.agg us.toArray, .agg vs.toArray] w fun e w' => e = .returned (.bool true) ∧ Below w.heap.size w w' := lwTold_like x x.steps x.ops us vs fp fq w ho ho' hf hf'
end Go.Proofs.Ytpkjjfnfolbcoaa
