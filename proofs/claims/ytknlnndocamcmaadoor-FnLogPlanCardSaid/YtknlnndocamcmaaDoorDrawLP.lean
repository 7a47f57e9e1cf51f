/-
  The reference's DrawLogPlanWrite.
-/
import Derived.Test.YtknlnndocamcmaaDoorPlD
set_option linter.unusedVariables false
set_option linter.unusedSimpArgs false
namespace Go.Proofs.YtknlnndocamcmaaDoor
open Go.ChangeShapes Go.WideShapes Go.ChangeAt Go.RowKit

def PlanDrawn (w : World) (e : Ending) (w' : World) : Prop := ∃ (us : List Value) (p : LogPlan) (fq : List Nat), e = .returned (.agg us.toArray) ∧ OwC w' p.cells us fq ∧ New w' fq w.heap.size ∧ p.parts.length ≤ 41 ∧ Below w.heap.size w w'
set_option maxRecDepth 100000 in
set_option maxHeartbeats 1000000 in
theorem drawLogPlanWrite_any (l : List UInt8) (A : Option Addr) (n c : Nat) (fp : List Nat) (w : World) (ho : Ow w (.s 1 l.length (l.flatMap byteC)) (.slice A n c) fp) (hf : Lt fp w.heap.size) (hsz : l.length ≤ 1048576) :
    Calls Tryd.prog 11 #[.slice A n c] w (PlanDrawn w) := by
  have HO := hide ho
  clear ho
  go_enter Tryd.func11, Tryd.ntmps11
  go_upto_region 1 with fail
  generalize hw1 : w.alloc _ = w1
  have hb1 : Below w.heap.size w w1 := by rw [← hw1]; exact (Below.refl _ _).alloc (Nat.le_refl _) _
  have HZ := hide (show Row w1 w.heap.size 24 [.slice none 0 0, .int .i64 0, .int .i64 0] from by rw [← hw1]; exact Row.new w _ _)
  have hs1 : w.heap.size < w1.heap.size := HZ.out.lt
  have HP := hide (open_any l A n c fp w1 (HO.out.below hb1 hf) (hf.up hb1) hsz)
  have HB1 := hide hb1
  clear hw1 hb1 HO
  go_wp2_with fail
  refine HP.out.mono ?_
  rintro e w2 ⟨L, rfl, hr, hb2⟩
  have HQ := hide (l45Plan_any hr (by omega))
  have HB2 := hide (HB1.out.trans (hb2.mono HB1.out.size))
  have HZ2 := hide (HZ.out.below hb2 HZ.out.lt)
  have hs2 : w.heap.size < w2.heap.size := HZ2.out.lt
  clear hr hb2 HP HB1 HZ
  go_wp2_with fail
  refine HQ.out.mono ?_
  rintro e w3 ⟨us, p, fq, k', rfl, ho3, hn3, hl3, hk3, hr3, hg3⟩
  have HO3 := hide ho3
  obtain ⟨A1, c1, f1, rfl, o1, y1, y2, rfl⟩ := ho3.oLogPlan
  have HB3 := hide (HB2.out.trans (below_of_grown hg3 (Nat.le_of_lt hs1) HB2.out.size))
  have HZ3 := hide (HZ2.out.grown hg3 (fun e => by injection e with e; omega))
  have HN3 := hide hn3
  clear ho3 o1 hn3 hr3 hg3 HQ HB2 HZ2
  have z0 := HZ3.out.cell 0
  have z1 := HZ3.out.cell 1
  have z2 := HZ3.out.cell 2
  have q0 := HZ3.out.frozen 0
  have q1 := HZ3.out.frozen 1
  have q2 := HZ3.out.frozen 2
  have zl := HZ3.out.lt
  go_wp2
  refine bodyPost_ret (ret_row rfl _ _ w.heap.size 24 [.slice A1 p.parts.length c1, .int .i64 p.open_, .int .i64 p.first] (HZ3.out.setAll [.slice A1 p.parts.length c1, .int .i64 p.open_, .int .i64 p.first] rfl) _ rfl Tryd.underlying24 rfl (by kernel_rfl)) rfl ?_
  have hgr := setN_grown [.slice A1 p.parts.length c1, .int .i64 p.open_, .int .i64 p.first] 0 (grown_refl w3 (some w.heap.size))
  have hno : w.heap.size ∉ fq := HN3.out.out hs2
  exact ⟨_, p, fq, rfl, HO3.out.grown hgr HN3.out.lt hno, (HN3.out.grown hgr (fun b e => by injection e with e; subst e; exact hno)).mono (Nat.le_of_lt hs2), hl3, HB3.out.trans (below_of_grown hgr (Nat.le_refl _) HB3.out.size)⟩
end Go.Proofs.YtknlnndocamcmaaDoor
