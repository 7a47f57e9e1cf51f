/-
  The laws' marks at a LogPlan by value: only its slices are marked.
-/
import Derived.Test.YtknlnndocamcmaaDoorMark
import Derived.Test.YtknlnndocamcmaaDoorDLogPlan
import Derived.Test.YtknlnndocamcmaaDoorMLogPart
set_option linter.unusedVariables false
set_option linter.unusedSimpArgs false
namespace Go.Proofs.YtknlnndocamcmaaDoor
open Go.ChangeShapes Go.WideShapes Go.ChangeAt Go.RowKit
def LogPlan.mkTop (x : LogPlan) (a b : Nat) : Prop := LogPart.mkS x.parts a b
def LogPlan.cntTop (x : LogPlan) : Nat := LogPart.cntS x.parts
theorem LogPlan.cntTop_eq (x : LogPlan) : x.cntTop = LogPart.cntS x.parts := rfl
set_option maxRecDepth 100000 in
set_option maxHeartbeats 1000000 in
theorem markLogPlan_any (x : LogPlan) (us : List Value) (fp : List Nat) (lo : Nat) (z : Int) (k0 : Nat) (w : World) (hz : z = k0) (ho : OwC w x.cells us fp) (hn : New w fp lo) (hb : k0 + x.cntTop ≤ 1099511627776) :
    Calls Tryd.prog 9 #[.agg us.toArray, .int .i64 z] w fun e w' => ∃ (x' : LogPlan), e = .returned (.int .i64 ((k0 + x.cntTop : Nat) : Int)) ∧ OwC w' x'.cells us fp ∧ x'.mkTop k0 (k0 + x.cntTop) ∧ Touch fp w w' := by
  subst hz
  have hc := x.cntTop_eq
  obtain ⟨A1, c1, f1, rfl, o1, w1, w2, rfl⟩ := ho.oLogPlan
  have hw0 : Below w.heap.size w (w.alloc (.cells #[.slice A1 x.parts.length c1, .int .i64 x.open_, .int .i64 x.first] 24)) := (Below.refl _ _).alloc (Nat.le_refl _) _
  have R0 : Row (w.alloc (.cells #[.slice A1 x.parts.length c1, .int .i64 x.open_, .int .i64 x.first] 24)) w.heap.size 24 [.slice A1 x.parts.length c1, .int .i64 x.open_, .int .i64 x.first] := Row.new w _ _
  have n1 := hn
  have O1 := hide (o1.below hw0 n1.lt)
  have N1 := hide (n1.alloc (.cells #[.slice A1 x.parts.length c1, .int .i64 x.open_, .int .i64 x.first] 24))
  have nb1 : w.heap.size ∉ fp := fun h => Nat.lt_irrefl _ (n1.lt _ h)
  clear ho o1 hn
  have T0 := hide (Touch.below (fp := fp) hw0)
  go_enter Tryd.func9, Tryd.ntmps9
  go_wp2_with fail
  refine (markLogPartS_any x.parts _ _ _ fp lo _ (k0) _ (by omega) O1.out N1.out (by omega)).mono ?_
  rintro e w1_ ⟨y1, rfl, yl1, yo1, ym1, t1⟩
  have T1 := hide (T0.out.trans (t1.mono (by intro g hg; simp [hg])))
  have YO1 := hide yo1
  have YM1 := hide ym1
  have YL1 := hide yl1
  clear yo1 ym1 yl1
  have R1 : Row w1_ w.heap.size 24 [.slice A1 x.parts.length c1, .int .i64 x.open_, .int .i64 x.first] := (t1.block _ R0.lt nb1).trans R0
  have M1 := hide (t1.new N1.out)
  clear t1
  have lt1 := R1.lt
  go_wp2
  go_ret
  refine ⟨(LogPlan.mk y1 x.open_ x.first), ret_int (by omega), OwC.mLogPlan YO1.out w1 w2, ?_, ?_⟩
  · skip
    have h := YM1.out
    rw [hc]
    (try simp only [Nat.add_assoc] at h)
    (try simp only [Nat.add_assoc])
    exact h
  · exact T1.out
set_option maxRecDepth 100000 in
set_option maxHeartbeats 1000000 in
theorem heldLogPlan_any (x : LogPlan) (us : List Value) (fp : List Nat) (z : Int) (a b : Nat) (w : World) (hz : z = a) (ho : OwC w x.cells us fp) (hf : Lt fp w.heap.size) (hmk : x.mkTop a b) (hb : b ≤ 1099511627776) :
    Calls Tryd.prog 10 #[.agg us.toArray, .int .i64 z] w fun e w' => e = .returned (.int .i64 (b : Nat)) ∧ Below w.heap.size w w' := by
  subst hz
  obtain ⟨A1, c1, f1, rfl, o1, w1, w2, rfl⟩ := ho.oLogPlan
  have m1 := hmk
  have hw0 : Below w.heap.size w (w.alloc (.cells #[.slice A1 x.parts.length c1, .int .i64 x.open_, .int .i64 x.first] 24)) := (Below.refl _ _).alloc (Nat.le_refl _) _
  have R0 : Row (w.alloc (.cells #[.slice A1 x.parts.length c1, .int .i64 x.open_, .int .i64 x.first] 24)) w.heap.size 24 [.slice A1 x.parts.length c1, .int .i64 x.open_, .int .i64 x.first] := Row.new w _ _
  have fl1 := hf
  have le1 := LogPart.mkS_le _ _ _ m1
  have O1 := hide o1
  have HM1 := hide m1
  have B0 := hide hw0
  clear ho hf hw0 o1 m1
  go_enter Tryd.func10, Tryd.ntmps10
  go_wp2_with fail
  refine (heldLogPartS_any x.parts _ _ _ fp _ a b _ (by omega) (O1.out.below B0.out fl1) (fl1.up B0.out) HM1.out (by omega)).mono ?_
  rintro e w1_ ⟨rfl, hb1⟩
  have B1 := hide (B0.out.trans (hb1.mono B0.out.size))
  have R1 := R0.below hb1 R0.lt
  have lt1 := R1.lt
  clear hb1
  go_wp2
  go_ret
  exact ⟨rfl, B1.out⟩
end Go.Proofs.YtknlnndocamcmaaDoor