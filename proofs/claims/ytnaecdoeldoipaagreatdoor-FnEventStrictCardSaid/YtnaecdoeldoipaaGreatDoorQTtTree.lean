/-
  The walk of the comparison of trees: on two copies of one tree it says true.
-/
import Derived.Deep.CutRange
import Derived.Deep.DeepCutAuto
import Derived.BigQuiet
import Derived.Test.YtnaecdoeldoipaaGreatDoorQRead
set_option linter.unusedVariables false
set_option linter.unusedSimpArgs false
namespace Go.Proofs.YtnaecdoeldoipaaGreatDoor
open Go.ChangeShapes Go.WideShapes Go.ChangeAt Go.RowKit

def TtTree (x : Tree) : Prop := ∀ (us vs : List Value) (fp fq : List Nat) (w : World), OwC w x.cells us fp → OwC w x.cells vs fq → Lt fp w.heap.size → Lt fq w.heap.size →
  Calls Tryz.prog 16 #[.agg us.toArray, .agg vs.toArray] w fun e w' => e = .returned (.bool true) ∧ Below w.heap.size w w'
set_option maxRecDepth 100000 in
set_option maxHeartbeats 1000000 in
theorem ttTree_of (x : Tree) (ih : ∀ y ∈ x.kids, TtTree y) : TtTree x := by
  intro us vs fp fq w ho ho' hf hf'
  obtain ⟨A1, c1, A2, c2, f1, f2, rfl, w0, w1, w2, o1, o2, rfl⟩ := ho.oTree
  obtain ⟨bA1, bc1, bA2, bc2, bf1, bf2, rfl, bw0, bw1, bw2, bo1, bo2, rfl⟩ := ho'.oTree
  have l1 := hf.left
  have l2 := hf.right
  have k1 := hf'.left
  have k2 := hf'.right
  have HI := hide ih
  obtain ⟨-, hn1, hm1⟩ := o1.nlen
  obtain ⟨-, hn2, hm2⟩ := o2.nlen
  unfold maxLen at hm1 hm2
  have O1 := hide o1
  have O2 := hide o2
  have P1 := hide bo1
  have P2 := hide bo2
  clear ho ho' ih o1 o2 bo1 bo2 w0 w1 w2 bw0 bw1 bw2
  go_enter Tryz.func16, Tryz.ntmps16
  go_upto_region 1 with fail
  generalize hw1 : World.alloc _ _ = w1
  have hb0 : Below w.heap.size w w1 := by rw [← hw1]; exact ((Below.refl _ _).alloc (Nat.le_refl _) _).alloc (by simp) _
  have R0 : Row w1 w.heap.size 26 [.int .i64 x.sort, .int .i64 x.num, .string x.text, .slice A1 x.names.length c1, .slice A2 x.kids.length c2] := by rw [← hw1]; exact (Row.new w _ _).alloc _
  have S0 : Row w1 (w.heap.size + 1) 26 [.int .i64 x.sort, .int .i64 x.num, .string x.text, .slice bA1 x.names.length bc1, .slice bA2 x.kids.length bc2] := by
    rw [← hw1]
    have h := Row.new (w.alloc (.cells #[.int .i64 x.sort, .int .i64 x.num, .string x.text, .slice A1 x.names.length c1, .slice A2 x.kids.length c2] 26)) 26 [.int .i64 x.sort, .int .i64 x.num, .string x.text, .slice bA1 x.names.length bc1, .slice bA2 x.kids.length bc2]
    simpa using h
  have O1 := hide (O1.out.below hb0 l1)
  have O2 := hide (O2.out.below hb0 l2)
  have P1 := hide (P1.out.below hb0 k1)
  have P2 := hide (P2.out.below hb0 k2)
  have l1 := hide (l1.up hb0)
  have l2 := hide (l2.up hb0)
  have k1 := hide (k1.up hb0)
  have k2 := hide (k2.up hb0)
  have c0 := R0.cell 0
  have c1_ := R0.cell 1
  have c2_ := R0.cell 2
  have c3 := R0.cell 3
  have c4 := R0.cell 4
  have d0 := S0.cell 0
  have d1 := S0.cell 1
  have d2 := S0.cell 2
  have d3 := S0.cell 3
  have d4 := S0.cell 4
  have lr0 := R0.lt
  have ls0 := S0.lt
  have HR0 := hide R0
  have HS0 := hide S0
  have HB0 := hide hb0
  clear hw1 hb0 R0 S0
  go_wp2
  clear c0 c1_ c2_ c3 c4 d0 d1 d2 d3 d4
  go_loopw [5] (fun i wr => (∃ k : Nat, k ≤ x.names.length ∧ i = .int .i64 (k : Int)) ∧ Below w1.heap.size w1 wr) (fun i _ => x.names.length - (intOf i).toNat)
  case atStart => exact ⟨⟨0, Nat.zero_le _, rfl⟩, Below.refl _ _⟩
  case round =>
    obtain ⟨⟨k, hk, rfl⟩, hb⟩ := hrel
    have c3 := (HR0.out.below hb lr0).cell 3
    have d3 := (HS0.out.below hb ls0).cell 3
    have hsz := hb.size
    by_cases hlt : k < x.names.length
    · obtain ⟨g, off, rfl, _, hcell, hs⟩ := strs_at (O1.out.below hb l1.out) hlt
      obtain ⟨g', off', rfl, _, hcell', _⟩ := strs_at (P1.out.below hb k1.out) hlt
      have HB := hide hb
      clear hb
      generalize x.names[k] = s at *
      go_wp2
      go_quiet (fail)
      go_wp2
      go_roundw
      case rel => exact ⟨⟨k + 1, by omega, by go_num⟩, below_drewN HB.out _⟩
      case measure => simp [intOf]; omega
    · obtain rfl : k = x.names.length := by omega
      have HB := hide hb
      clear hb
      go_wp2
      go_loopw [6] (fun i wx => (∃ k : Nat, k ≤ x.kids.length ∧ i = .int .i64 (k : Int)) ∧ Below w1.heap.size w1 wx) (fun i _ => x.kids.length - (intOf i).toNat)
      case atStart => exact ⟨⟨0, Nat.zero_le _, rfl⟩, HB.out⟩
      case round =>
        obtain ⟨⟨k, hk2, rfl⟩, hb⟩ := hrel
        have c4 := (HR0.out.below hb lr0).cell 4
        have d4 := (HS0.out.below hb ls0).cell 4
        have hsz2 := hb.size
        obtain ⟨wz, rfl⟩ : ∃ W, W = wr := ⟨_, rfl⟩
        have HBx := hide hb
        by_cases hlt2 : k < x.kids.length
        · obtain ⟨g, off, vs, fi, rfl, hg, hfi, hvl, hcs, hov⟩ := (O2.out.below hb l2.out).elem Tree.cells_len hlt2
          obtain ⟨g', off', vs', fi', rfl, hg', hfi', hvl', hcs', hov'⟩ := (P2.out.below hb k2.out).elem Tree.cells_len hlt2
          have HO := hide hov
          have HO' := hide hov'
          obtain ⟨E1, e1, E2, e2, g1, g2, rfl, y0, y1, y2, z1, z2, rfl⟩ := hov.oTree
          obtain ⟨F1, r1, F2, r2, h1, h2, rfl, by0, by1, by2, bz1, bz2, rfl⟩ := hov'.oTree
          have p0 := hcs 0 _ rfl
          have q0 := hcs' 0 _ rfl
          have p1 := hcs 1 _ rfl
          have q1 := hcs' 1 _ rfl
          have p2 := hcs 2 _ rfl
          have q2 := hcs' 2 _ rfl
          have p3 := hcs 3 _ rfl
          have q3 := hcs' 3 _ rfl
          have p4 := hcs 4 _ rfl
          have q4 := hcs' 4 _ rfl
          simp only [Nat.add_zero] at p0 q0
          have HC := hide (HI.out _ (List.getElem_mem hlt2))
          have HL := hide ((l2.out.sub hfi).mono hb.size)
          have HK := hide ((k2.out.sub hfi').mono hb.size)
          clear hcs hcs' hov hov' hb hfi hfi' z1 z2 bz1 bz2 y0 y1 y2 by0 by1 by2
          generalize x.kids[k] = y at *
          go_wp2_with fail
          go_still_tail 10, (by kernel_rfl)
          change wpList _ _ _ _ _ wz.drew
          go_wp2_with fail
          refine (HC.out _ _ _ _ _ (HO.out.drewN 1) (HO'.out.drewN 1) HL.out HK.out).mono ?_
          rintro e w3 ⟨rfl, hb1⟩
          have hb2 : Below w1.heap.size w1 w3 := (below_drewN HBx.out 1).trans (hb1.mono hsz2)
          clear hb1
          go_wp2
          go_roundw
          case rel => exact ⟨⟨k + 1, by omega, by go_num⟩, hb2⟩
          case measure => simp [intOf]; omega
        · obtain rfl : k = x.kids.length := by omega
          clear hb
          go_wp2
          go_ret
          exact ⟨rfl, HB0.out.trans (HBx.out.mono HB0.out.size)⟩
theorem ttTree_any (x : Tree) : TtTree x := Tree.ind (fun k ih => ttTree_of k ih) x
end Go.Proofs.YtnaecdoeldoipaaGreatDoor
