/-
  The laws' ttEvent: two readings of one event are alike.
-/
import Derived.Deep.Cut
import Derived.Test.YtnaecdoeldoipaaGreatDoorQEventOk
import Derived.Test.YtnaecdoeldoipaaGreatDoorQTtTree
set_option linter.unusedVariables false
set_option linter.unusedSimpArgs false
namespace Go.Proofs.YtnaecdoeldoipaaGreatDoor
open Go.ChangeShapes Go.WideShapes Go.ChangeAt Go.RowKit

set_option maxRecDepth 100000 in
set_option maxHeartbeats 1000000 in
theorem ttEvent_any (x : Event) (us vs : List Value) (fp fq : List Nat) (w : World) (ho : OwC w x.cells us fp) (hv : OwC w x.cells vs fq) (hf : Lt fp w.heap.size) (hg : Lt fq w.heap.size) :
    Calls Tryz.prog 37 #[.agg us.toArray, .agg vs.toArray] w fun e w' => e = .returned (.bool true) ∧ Below w.heap.size w w' := by
  have hh := ho
  have hk := hv
  obtain ⟨A1, a1, A2, a2, f1, f2, rfl, -, -, -, -, -, -, -, -⟩ := ho.oEvent
  obtain ⟨B1, b1, B2, b2, g1, g2, rfl, -, -, -, -, -, -, -, -⟩ := hv.oEvent
  have HO := hide hh.oBody
  have HV := hide hk.oBody
  clear ho hv hh hk
  go_enter Tryz.func37, Tryz.ntmps37
  go_upto_region 1 with fail
  generalize hw1 : World.alloc _ _ = w1
  have hb1 : Below w.heap.size w w1 := by rw [← hw1]; exact ((Below.refl _ _).alloc (Nat.le_refl _) _).alloc (by simp) _
  have HX := hide (show Row w1 w.heap.size 46 [.string x.type_, .int .i64 x.version, .int .i64 x.body.sort, .int .i64 x.body.num, .string x.body.text, .slice A1 x.body.names.length a1, .slice A2 x.body.kids.length a2] from by rw [← hw1]; exact (Row.new w _ _).alloc _)
  have HY := hide (show Row w1 (w.heap.size + 1) 46 [.string x.type_, .int .i64 x.version, .int .i64 x.body.sort, .int .i64 x.body.num, .string x.body.text, .slice B1 x.body.names.length b1, .slice B2 x.body.kids.length b2] from by
    rw [← hw1]
    have h := Row.new (w.alloc (.cells #[.string x.type_, .int .i64 x.version, .int .i64 x.body.sort, .int .i64 x.body.num, .string x.body.text, .slice A1 x.body.names.length a1, .slice A2 x.body.kids.length a2] 46)) 46 [.string x.type_, .int .i64 x.version, .int .i64 x.body.sort, .int .i64 x.body.num, .string x.body.text, .slice B1 x.body.names.length b1, .slice B2 x.body.kids.length b2]
    rw [World.size_alloc] at h
    exact h)
  have HC := hide (ttTree_any x.body _ _ fp fq w1 (HO.out.below hb1 hf) (HV.out.below hb1 hg) (hf.up hb1) (hg.up hb1))
  have HB := hide hb1
  clear hw1 hb1 HO HV
  have k0 := HX.out.cell 0
  have k1 := HX.out.cell 1
  have k2 := HX.out.cell 2
  have k3 := HX.out.cell 3
  have k4 := HX.out.cell 4
  have k5 := HX.out.cell 5
  have k6 := HX.out.cell 6
  have kl := HX.out.lt
  have j0 := HY.out.cell 0
  have j1 := HY.out.cell 1
  have j2 := HY.out.cell 2
  have j3 := HY.out.cell 3
  have j4 := HY.out.cell 4
  have j5 := HY.out.cell 5
  have j6 := HY.out.cell 6
  have jl := HY.out.lt
  go_wp2_with fail
  refine HC.out.mono ?_
  rintro e w2 ⟨rfl, hb2⟩
  have HB2 := hide (HB.out.trans (hb2.mono HB.out.size))
  go_wp2
  go_ret
  exact ⟨rfl, HB2.out⟩
end Go.Proofs.YtnaecdoeldoipaaGreatDoor
