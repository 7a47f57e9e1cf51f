/-
  FnExactLogPlanRead returns true for every input: the program answers as the reference. No condition.
-/
import Derived.Test.YtknlnndocamcmaaDoorPlRCnt
import Derived.Test.YtknlnndocamcmaaDoorPlRS2
import Derived.Test.YtknlnndocamcmaaDoorHLogPlan
import Derived.Test.YtknlnndocamcmaaDoorNLogPlan
import Derived.Deep.RegionHeld3
set_option linter.unusedVariables false
set_option linter.unusedSimpArgs false
namespace Go.Proofs.YtknlnndocamcmaaDoor
open Go.ChangeShapes Go.WideShapes Go.ChangeAt Go.RowKit

theorem rowTouch {fp : List Nat} {w w2 : World} {g : Nat} {e : TypeId} {cs : List Value} (h : Row w g e cs) (ht : Touch fp w w2) (hn : g ∉ fp) : Row w2 g e cs := (ht.block _ h.lt hn).trans h

set_option maxRecDepth 100000 in
set_option maxHeartbeats 4000000 in
theorem lawFnExactLogPlanRead_any (w : World) (s0 : ByteArray) (hs0 : s0.size ≤ maxLen) (ht : Lay w) (hw7 : 7 < w.heap.size) :
    Calls Tryd.prog 3 #[.string s0] w fun e w' => e = .returned (.bool true) ∧ Below w.heap.size w w' := by
  have HTB := hide ht
  clear ht
  have B0 := hide (Below.refl w.heap.size w)
  obtain ⟨r0, hr0⟩ : ∃ r, r = readP s0 := ⟨_, rfl⟩
  have HR0 := hide hr0
  clear hr0
  by_cases hz0 : (s0.size : Int) ≤ 1048576
  · skip
    go_enter Tryd.func3, Tryd.ntmps3
    -- boxes of the parameters
    have hcr0 : r0.cntTop ≤ 160 := by rw [HR0.out]; exact readP_cnt s0
    go_wp2_with fail
    refine (specLogPlanRead_any s0 _ (by omega)).mono ?_
    rintro e u1 ⟨vw0, fw0, rfl, yw0, zw0, hb1⟩
    have S1 := hide (show w.heap.size ≤ u1.heap.size from by have := hb1.size; simpa only [World.size_alloc, size_setRow] using this)
    have B1 := hide (B0.out.trans (hb1.mono B0.out.size))
    clear hb1
    rw [← HR0.out] at yw0
    have Ow0 := hide yw0
    have Nw0 := hide zw0
    have Lw0 := hide (show ∀ g ∈ fw0, w.heap.size ≤ g ∧ g < u1.heap.size from fun g hg => ⟨by have := (zw0.fr g hg).1; simpa only [World.size_alloc, size_setRow] using this, zw0.lt g hg⟩)
    clear yw0 zw0
    have Tw0 := Ow0.out
    obtain ⟨w0A1, w0c1, w0f1, rfl, w0o1, w0w1, w0w2, w0ef⟩ := Tw0.oLogPlan
    clear Tw0 w0o1
    have hAPw0 : Below u1.heap.size u1 (u1.alloc (.cells #[.slice w0A1 r0.parts.length w0c1, .int .i64 r0.open_, .int .i64 r0.first] 24)) := (Below.refl _ _).alloc (Nat.le_refl _) _
    have BPw0 := hide (B1.out.trans (hAPw0.mono B1.out.size))
    have Ow0 := hide (Ow0.out.below hAPw0 Nw0.out.lt)
    have Nw0 := hide (Nw0.out.below hAPw0 Nw0.out.lt)
    have Pw0 : Row (u1.alloc (.cells #[.slice w0A1 r0.parts.length w0c1, .int .i64 r0.open_, .int .i64 r0.first] 24)) u1.heap.size 24 [.slice w0A1 r0.parts.length w0c1, .int .i64 r0.open_, .int .i64 r0.first] := Row.new u1 _ _
    clear hAPw0
    have c1_Pw0_0 := Pw0.cell 0
    have c1_Pw0_1 := Pw0.cell 1
    have c1_Pw0_2 := Pw0.cell 2
    have lt1_Pw0 := Pw0.lt
    go_wp2_with fail
    refine (implLogPlanRead_any s0 _ (by omega) (HTB.out.below BPw0.out) (by have := BPw0.out.size; (try simp only [World.size_alloc, size_setRow] at this ⊢); omega)).mono ?_
    rintro e u2 ⟨vg0, fg0, rfl, yg0, zg0, hb2⟩
    clear c1_Pw0_0 c1_Pw0_1 c1_Pw0_2 lt1_Pw0
    have S2 := hide (show u1.heap.size + 1 ≤ u2.heap.size from by have := hb2.size; simpa only [World.size_alloc, size_setRow] using this)
    have B2 := hide (BPw0.out.trans (hb2.mono BPw0.out.size))
    have Pw0 := Pw0.below hb2 Pw0.lt
    have Ow0 := hide (Ow0.out.below hb2 Nw0.out.lt)
    have Nw0 := hide (Nw0.out.below hb2 Nw0.out.lt)
    clear hb2
    rw [← HR0.out] at yg0
    have Og0 := hide yg0
    have Ng0 := hide zg0
    have Lg0 := hide (show ∀ g ∈ fg0, u1.heap.size + 1 ≤ g ∧ g < u2.heap.size from fun g hg => ⟨by have := (zg0.fr g hg).1; simpa only [World.size_alloc, size_setRow] using this, zg0.lt g hg⟩)
    clear yg0 zg0
    have Tg0 := Og0.out
    obtain ⟨g0A1, g0c1, g0f1, rfl, g0o1, g0w1, g0w2, g0ef⟩ := Tg0.oLogPlan
    clear Tg0 g0o1
    have hAPg0 : Below u2.heap.size u2 (u2.alloc (.cells #[.slice g0A1 r0.parts.length g0c1, .int .i64 r0.open_, .int .i64 r0.first] 24)) := (Below.refl _ _).alloc (Nat.le_refl _) _
    have BPg0 := hide (B2.out.trans (hAPg0.mono B2.out.size))
    have Pw0 := Pw0.below hAPg0 Pw0.lt
    have Ow0 := hide (Ow0.out.below hAPg0 Nw0.out.lt)
    have Nw0 := hide (Nw0.out.below hAPg0 Nw0.out.lt)
    have Og0 := hide (Og0.out.below hAPg0 Ng0.out.lt)
    have Ng0 := hide (Ng0.out.below hAPg0 Ng0.out.lt)
    have Pg0 : Row (u2.alloc (.cells #[.slice g0A1 r0.parts.length g0c1, .int .i64 r0.open_, .int .i64 r0.first] 24)) u2.heap.size 24 [.slice g0A1 r0.parts.length g0c1, .int .i64 r0.open_, .int .i64 r0.first] := Row.new u2 _ _
    clear hAPg0
    have c2_Pw0_0 := Pw0.cell 0
    have c2_Pw0_1 := Pw0.cell 1
    have c2_Pw0_2 := Pw0.cell 2
    have c2_Pg0_0 := Pg0.cell 0
    have c2_Pg0_1 := Pg0.cell 1
    have c2_Pg0_2 := Pg0.cell 2
    have lt2_Pw0 := Pw0.lt
    have lt2_Pg0 := Pg0.lt
    go_wp2_with fail
    refine (eqLogPlan_any r0 _ _ _ _ _ Og0.out Ow0.out Ng0.out.lt Nw0.out.lt).mono ?_
    rintro e u3 ⟨rfl, hb3⟩
    clear c2_Pw0_0 c2_Pw0_1 c2_Pw0_2 c2_Pg0_0 c2_Pg0_1 c2_Pg0_2 lt2_Pw0 lt2_Pg0
    have S3 := hide (show u2.heap.size + 1 ≤ u3.heap.size from by have := hb3.size; simpa only [World.size_alloc, size_setRow] using this)
    have B3 := hide (BPg0.out.trans (hb3.mono BPg0.out.size))
    have Pw0 := Pw0.below hb3 Pw0.lt
    have Pg0 := Pg0.below hb3 Pg0.lt
    have Ow0 := hide (Ow0.out.below hb3 Nw0.out.lt)
    have Nw0 := hide (Nw0.out.below hb3 Nw0.out.lt)
    have Og0 := hide (Og0.out.below hb3 Ng0.out.lt)
    have Ng0 := hide (Ng0.out.below hb3 Ng0.out.lt)
    clear hb3
    have c3_Pw0_0 := Pw0.cell 0
    have c3_Pw0_1 := Pw0.cell 1
    have c3_Pw0_2 := Pw0.cell 2
    have c3_Pg0_0 := Pg0.cell 0
    have c3_Pg0_1 := Pg0.cell 1
    have c3_Pg0_2 := Pg0.cell 2
    have lt3_Pw0 := Pw0.lt
    have lt3_Pg0 := Pg0.lt
    go_wp2_with fail
    refine (markLogPlan_any r0 _ fg0 _ _ (1) _ (by omega) Og0.out Ng0.out (by omega)).mono ?_
    rintro e u4 ⟨lg0, rfl, og0, kg0, ht4⟩
    clear c3_Pw0_0 c3_Pw0_1 c3_Pw0_2 c3_Pg0_0 c3_Pg0_1 c3_Pg0_2 lt3_Pw0 lt3_Pg0
    have S4 := hide (show u3.heap.size ≤ u4.heap.size from ht4.size)
    have B4 := hide (B3.out.trans (ht4.to_below B3.out.size (fun g hg => by have := Lg0.out g hg; have := S1.out; have := S2.out; have := S3.out; omega)))
    have Pw0 := rowTouch Pw0 ht4 (fun hg => by have := Lg0.out _ hg; have := S1.out; have := S2.out; have := S3.out; omega)
    have Pg0 := rowTouch Pg0 ht4 (fun hg => by have := Lg0.out _ hg; have := S1.out; have := S2.out; have := S3.out; omega)
    have Ow0 := hide (Ow0.out.touch ht4 Nw0.out.lt (fun g hg hg2 => by have := Lw0.out g hg; have := Lg0.out g hg2; have := S1.out; have := S2.out; have := S3.out; omega))
    have Nw0 := hide (ht4.new Nw0.out)
    have Og0 := hide og0
    have Ng0 := hide (ht4.new Ng0.out)
    have Kg0 := hide kg0
    clear og0 kg0 ht4
    have c4_Pw0_0 := Pw0.cell 0
    have c4_Pw0_1 := Pw0.cell 1
    have c4_Pw0_2 := Pw0.cell 2
    have c4_Pg0_0 := Pg0.cell 0
    have c4_Pg0_1 := Pg0.cell 1
    have c4_Pg0_2 := Pg0.cell 2
    have lt4_Pw0 := Pw0.lt
    have lt4_Pg0 := Pg0.lt
    go_wp2_with fail
    refine (heldLogPlan_any lg0 _ fg0 _ (1) (1 + r0.cntTop) _ (by omega) Og0.out Ng0.out.lt Kg0.out (by omega)).mono ?_
    rintro e u5 ⟨rfl, hb5⟩
    clear c4_Pw0_0 c4_Pw0_1 c4_Pw0_2 c4_Pg0_0 c4_Pg0_1 c4_Pg0_2 lt4_Pw0 lt4_Pg0
    have S5 := hide (show u4.heap.size ≤ u5.heap.size from by have := hb5.size; simpa only [World.size_alloc, size_setRow] using this)
    have B5 := hide (B4.out.trans (hb5.mono B4.out.size))
    have Pw0 := Pw0.below hb5 Pw0.lt
    have Pg0 := Pg0.below hb5 Pg0.lt
    have Ow0 := hide (Ow0.out.below hb5 Nw0.out.lt)
    have Nw0 := hide (Nw0.out.below hb5 Nw0.out.lt)
    have Og0 := hide (Og0.out.below hb5 Ng0.out.lt)
    have Ng0 := hide (Ng0.out.below hb5 Ng0.out.lt)
    clear hb5
    have c5_Pw0_0 := Pw0.cell 0
    have c5_Pw0_1 := Pw0.cell 1
    have c5_Pw0_2 := Pw0.cell 2
    have c5_Pg0_0 := Pg0.cell 0
    have c5_Pg0_1 := Pg0.cell 1
    have c5_Pg0_2 := Pg0.cell 2
    have lt5_Pw0 := Pw0.lt
    have lt5_Pg0 := Pg0.lt
    go_wp2_with fail
    refine (implLogPlanRead_any s0 _ (by omega) (HTB.out.below B5.out) (by have := B5.out.size; (try simp only [World.size_alloc, size_setRow] at this ⊢); omega)).mono ?_
    rintro e u6 ⟨vh0, fh0, rfl, yh0, zh0, hb6⟩
    clear c5_Pw0_0 c5_Pw0_1 c5_Pw0_2 c5_Pg0_0 c5_Pg0_1 c5_Pg0_2 lt5_Pw0 lt5_Pg0
    have S6 := hide (show u5.heap.size ≤ u6.heap.size from by have := hb6.size; simpa only [World.size_alloc, size_setRow] using this)
    have B6 := hide (B5.out.trans (hb6.mono B5.out.size))
    have Pw0 := Pw0.below hb6 Pw0.lt
    have Pg0 := Pg0.below hb6 Pg0.lt
    have Ow0 := hide (Ow0.out.below hb6 Nw0.out.lt)
    have Nw0 := hide (Nw0.out.below hb6 Nw0.out.lt)
    have Og0 := hide (Og0.out.below hb6 Ng0.out.lt)
    have Ng0 := hide (Ng0.out.below hb6 Ng0.out.lt)
    clear hb6
    rw [← HR0.out] at yh0
    have Oh0 := hide yh0
    have Nh0 := hide zh0
    have Lh0 := hide (show ∀ g ∈ fh0, u5.heap.size ≤ g ∧ g < u6.heap.size from fun g hg => ⟨by have := (zh0.fr g hg).1; simpa only [World.size_alloc, size_setRow] using this, zh0.lt g hg⟩)
    clear yh0 zh0
    have Th0 := Oh0.out
    obtain ⟨h0A1, h0c1, h0f1, rfl, h0o1, h0w1, h0w2, h0ef⟩ := Th0.oLogPlan
    clear Th0 h0o1
    have hAPh0 : Below u6.heap.size u6 (u6.alloc (.cells #[.slice h0A1 r0.parts.length h0c1, .int .i64 r0.open_, .int .i64 r0.first] 24)) := (Below.refl _ _).alloc (Nat.le_refl _) _
    have BPh0 := hide (B6.out.trans (hAPh0.mono B6.out.size))
    have Pw0 := Pw0.below hAPh0 Pw0.lt
    have Pg0 := Pg0.below hAPh0 Pg0.lt
    have Ow0 := hide (Ow0.out.below hAPh0 Nw0.out.lt)
    have Nw0 := hide (Nw0.out.below hAPh0 Nw0.out.lt)
    have Og0 := hide (Og0.out.below hAPh0 Ng0.out.lt)
    have Ng0 := hide (Ng0.out.below hAPh0 Ng0.out.lt)
    have Oh0 := hide (Oh0.out.below hAPh0 Nh0.out.lt)
    have Nh0 := hide (Nh0.out.below hAPh0 Nh0.out.lt)
    have Ph0 : Row (u6.alloc (.cells #[.slice h0A1 r0.parts.length h0c1, .int .i64 r0.open_, .int .i64 r0.first] 24)) u6.heap.size 24 [.slice h0A1 r0.parts.length h0c1, .int .i64 r0.open_, .int .i64 r0.first] := Row.new u6 _ _
    clear hAPh0
    have c6_Pw0_0 := Pw0.cell 0
    have c6_Pw0_1 := Pw0.cell 1
    have c6_Pw0_2 := Pw0.cell 2
    have c6_Pg0_0 := Pg0.cell 0
    have c6_Pg0_1 := Pg0.cell 1
    have c6_Pg0_2 := Pg0.cell 2
    have c6_Ph0_0 := Ph0.cell 0
    have c6_Ph0_1 := Ph0.cell 1
    have c6_Ph0_2 := Ph0.cell 2
    have lt6_Pw0 := Pw0.lt
    have lt6_Pg0 := Pg0.lt
    have lt6_Ph0 := Ph0.lt
    go_wp2_with fail
    refine (eqLogPlan_any r0 _ _ _ _ _ Oh0.out Ow0.out Nh0.out.lt Nw0.out.lt).mono ?_
    rintro e u7 ⟨rfl, hb7⟩
    clear c6_Pw0_0 c6_Pw0_1 c6_Pw0_2 c6_Pg0_0 c6_Pg0_1 c6_Pg0_2 c6_Ph0_0 c6_Ph0_1 c6_Ph0_2 lt6_Pw0 lt6_Pg0 lt6_Ph0
    have S7 := hide (show u6.heap.size + 1 ≤ u7.heap.size from by have := hb7.size; simpa only [World.size_alloc, size_setRow] using this)
    have B7 := hide (BPh0.out.trans (hb7.mono BPh0.out.size))
    have Pw0 := Pw0.below hb7 Pw0.lt
    have Pg0 := Pg0.below hb7 Pg0.lt
    have Ph0 := Ph0.below hb7 Ph0.lt
    have Ow0 := hide (Ow0.out.below hb7 Nw0.out.lt)
    have Nw0 := hide (Nw0.out.below hb7 Nw0.out.lt)
    have Og0 := hide (Og0.out.below hb7 Ng0.out.lt)
    have Ng0 := hide (Ng0.out.below hb7 Ng0.out.lt)
    have Oh0 := hide (Oh0.out.below hb7 Nh0.out.lt)
    have Nh0 := hide (Nh0.out.below hb7 Nh0.out.lt)
    clear hb7
    have c7_Pw0_0 := Pw0.cell 0
    have c7_Pw0_1 := Pw0.cell 1
    have c7_Pw0_2 := Pw0.cell 2
    have c7_Pg0_0 := Pg0.cell 0
    have c7_Pg0_1 := Pg0.cell 1
    have c7_Pg0_2 := Pg0.cell 2
    have c7_Ph0_0 := Ph0.cell 0
    have c7_Ph0_1 := Ph0.cell 1
    have c7_Ph0_2 := Ph0.cell 2
    have lt7_Pw0 := Pw0.lt
    have lt7_Pg0 := Pg0.lt
    have lt7_Ph0 := Ph0.lt
    go_wp2_with fail
    refine (heldLogPlan_any lg0 _ fg0 _ (1) (1 + r0.cntTop) _ (by omega) Og0.out Ng0.out.lt Kg0.out (by omega)).mono ?_
    rintro e u8 ⟨rfl, hb8⟩
    clear c7_Pw0_0 c7_Pw0_1 c7_Pw0_2 c7_Pg0_0 c7_Pg0_1 c7_Pg0_2 c7_Ph0_0 c7_Ph0_1 c7_Ph0_2 lt7_Pw0 lt7_Pg0 lt7_Ph0
    have S8 := hide (show u7.heap.size ≤ u8.heap.size from by have := hb8.size; simpa only [World.size_alloc, size_setRow] using this)
    have B8 := hide (B7.out.trans (hb8.mono B7.out.size))
    have Pw0 := Pw0.below hb8 Pw0.lt
    have Pg0 := Pg0.below hb8 Pg0.lt
    have Ph0 := Ph0.below hb8 Ph0.lt
    have Ow0 := hide (Ow0.out.below hb8 Nw0.out.lt)
    have Nw0 := hide (Nw0.out.below hb8 Nw0.out.lt)
    have Og0 := hide (Og0.out.below hb8 Ng0.out.lt)
    have Ng0 := hide (Ng0.out.below hb8 Ng0.out.lt)
    have Oh0 := hide (Oh0.out.below hb8 Nh0.out.lt)
    have Nh0 := hide (Nh0.out.below hb8 Nh0.out.lt)
    clear hb8
    have c8_Pw0_0 := Pw0.cell 0
    have c8_Pw0_1 := Pw0.cell 1
    have c8_Pw0_2 := Pw0.cell 2
    have c8_Pg0_0 := Pg0.cell 0
    have c8_Pg0_1 := Pg0.cell 1
    have c8_Pg0_2 := Pg0.cell 2
    have c8_Ph0_0 := Ph0.cell 0
    have c8_Ph0_1 := Ph0.cell 1
    have c8_Ph0_2 := Ph0.cell 2
    have lt8_Pw0 := Pw0.lt
    have lt8_Pg0 := Pg0.lt
    have lt8_Ph0 := Ph0.lt
    go_wp2_with fail
    go_ret
    exact ⟨rfl, B8.out⟩
  · have hz0' : (1048576 : Int) < s0.size := by omega
    go_enter Tryd.func3, Tryd.ntmps3
    go_wp2
    go_ret
    exact ⟨rfl, B0.out⟩
end Go.Proofs.YtknlnndocamcmaaDoor
