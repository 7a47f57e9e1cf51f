/-
  FnExactKindFirst returns true for every input: the program answers as the reference. No condition.
-/
import Derived.Test.YtdingkbggjehoaaFirstCnt
import Derived.Test.YtdingkbggjehoaaHKind
import Derived.Test.YtdingkbggjehoaaHTree
import Derived.Deep.RegionHeld3
set_option linter.unusedVariables false
set_option linter.unusedSimpArgs false
namespace Go.Proofs.Ytdingkbggjehoaa
open Go.ChangeShapes Go.WideShapes Go.ChangeAt Go.RowKit

theorem rowTouch {fp : List Nat} {w w2 : World} {g : Nat} {e : TypeId} {cs : List Value} (h : Row w g e cs) (ht : Touch fp w w2) (hn : g ∉ fp) : Row w2 g e cs := (ht.block _ h.lt hn).trans h

set_option maxRecDepth 100000 in
set_option maxHeartbeats 4000000 in
theorem lawFnExactKindFirst_any (w : World) (x0 : Kind) (us0 : List Value) (fp0 : List Nat) (ho0 : OwC w x0.cells us0 fp0) (hl0 : Lt fp0 w.heap.size) :
    Calls Try.prog 4 #[.agg us0.toArray] w fun e w' => e = .returned (.bool true) ∧ Below w.heap.size w w' := by
  have B0 := hide (Below.refl w.heap.size w)
  have HO0 := hide ho0
  obtain ⟨a0A1, a0c1, a0A2, a0c2, a0f1, a0f2, rfl, a0w0, a0o1, a0o2, efp0⟩ := ho0.oKind
  clear ho0 a0o1 a0o2
  have hAQ0 : Below w.heap.size w (w.alloc (.cells #[.int .i64 x0.sort, .slice a0A1 x0.names.length a0c1, .slice a0A2 x0.kids.length a0c2] 25)) := (Below.refl _ _).alloc (Nat.le_refl _) _
  have BQ0 := hide (B0.out.trans (hAQ0.mono B0.out.size))
  have Q0 : Row (w.alloc (.cells #[.int .i64 x0.sort, .slice a0A1 x0.names.length a0c1, .slice a0A2 x0.kids.length a0c2] 25)) w.heap.size 25 [.int .i64 x0.sort, .slice a0A1 x0.names.length a0c1, .slice a0A2 x0.kids.length a0c2] := Row.new w _ _
  clear hAQ0
  obtain ⟨r0, hr0⟩ : ∃ r, r = x0.firstOf := ⟨_, rfl⟩
  have HR0 := hide hr0
  clear hr0
  go_enter Try.func4, Try.ntmps4
  -- boxes of the parameters
  have c0_Q0_0 := Q0.cell 0
  have c0_Q0_1 := Q0.cell 1
  have c0_Q0_2 := Q0.cell 2
  have lt0_Q0 := Q0.lt
  go_wp2_with fail
  refine (szKind_any x0 _ _ _ _ (HO0.out.below BQ0.out hl0) (hl0.up BQ0.out) (by omega) (by omega)).mono ?_
  rintro e u1 ⟨rfl, hb1⟩
  clear c0_Q0_0 c0_Q0_1 c0_Q0_2 lt0_Q0
  have S1 := hide (show w.heap.size + 1 ≤ u1.heap.size from by have := hb1.size; simpa only [World.size_alloc] using this)
  have B1 := hide (BQ0.out.trans (hb1.mono BQ0.out.size))
  have Q0 := Q0.below hb1 Q0.lt
  clear hb1
  have c1_Q0_0 := Q0.cell 0
  have c1_Q0_1 := Q0.cell 1
  have c1_Q0_2 := Q0.cell 2
  have lt1_Q0 := Q0.lt
  by_cases hbk0 : ((x0.bulk : Nat) : Int) ≤ (1048576 : Int)
  · rw [szr_yes hbk0]
    have hb0 : r0.cntTop ≤ 3145731 := by rw [HR0.out]; have := x0.firstOf_cntTop; omega
    have hx0 := x0.cntTop_bulk
    go_wp2_with fail
    refine (toKind_any x0 _ _ _ (HO0.out.below B1.out hl0) (hl0.up B1.out) (by omega)).mono ?_
    rintro e u2 ⟨vwt0, fwt0, rfl, ywt0, zwt0, hb2⟩
    clear c1_Q0_0 c1_Q0_1 c1_Q0_2 lt1_Q0
    have S2 := hide (show u1.heap.size ≤ u2.heap.size from by have := hb2.size; simpa only [World.size_alloc] using this)
    have B2 := hide (B1.out.trans (hb2.mono B1.out.size))
    have Q0 := Q0.below hb2 Q0.lt
    have Owt0 := hide ywt0
    have Nwt0 := hide zwt0
    have Lwt0 := hide (show ∀ g ∈ fwt0, u1.heap.size ≤ g ∧ g < u2.heap.size from fun g hg => ⟨by have := (zwt0.fr g hg).1; simpa only [World.size_alloc] using this, zwt0.lt g hg⟩)
    clear ywt0 zwt0
    clear hb2
    have lt2_Q0 := Q0.lt
    go_wp2_with fail
    refine (specKindFirst_any x0 _ _ _ Owt0.out Nwt0.out.lt (by omega)).mono ?_
    rintro e u3 ⟨vw0, fw0, rfl, yw0, zw0, hb3⟩
    clear lt2_Q0
    have S3 := hide (show u2.heap.size ≤ u3.heap.size from by have := hb3.size; simpa only [World.size_alloc] using this)
    have B3 := hide (B2.out.trans (hb3.mono B2.out.size))
    have Q0 := Q0.below hb3 Q0.lt
    have Owt0 := hide (Owt0.out.below hb3 Nwt0.out.lt)
    have Nwt0 := hide (Nwt0.out.below hb3 Nwt0.out.lt)
    clear hb3
    rw [← HR0.out] at yw0
    have Ow0 := hide yw0
    have Nw0 := hide zw0
    have Lw0 := hide (show ∀ g ∈ fw0, u2.heap.size ≤ g ∧ g < u3.heap.size from fun g hg => ⟨by have := (zw0.fr g hg).1; simpa only [World.size_alloc] using this, zw0.lt g hg⟩)
    clear yw0 zw0
    have Tw0 := Ow0.out
    obtain ⟨w0A1, w0c1, w0A2, w0c2, w0f1, w0f2, rfl, w0w0, w0w1, w0w2, w0o1, w0o2, w0ef⟩ := Tw0.oTree
    clear Tw0 w0o1 w0o2
    have hAPw0 : Below u3.heap.size u3 (u3.alloc (.cells #[.int .i64 r0.sort, .int .i64 r0.num, .string r0.text, .slice w0A1 r0.names.length w0c1, .slice w0A2 r0.kids.length w0c2] 35)) := (Below.refl _ _).alloc (Nat.le_refl _) _
    have BPw0 := hide (B3.out.trans (hAPw0.mono B3.out.size))
    have Q0 := Q0.below hAPw0 Q0.lt
    have Ow0 := hide (Ow0.out.below hAPw0 Nw0.out.lt)
    have Nw0 := hide (Nw0.out.below hAPw0 Nw0.out.lt)
    have Pw0 : Row (u3.alloc (.cells #[.int .i64 r0.sort, .int .i64 r0.num, .string r0.text, .slice w0A1 r0.names.length w0c1, .slice w0A2 r0.kids.length w0c2] 35)) u3.heap.size 35 [.int .i64 r0.sort, .int .i64 r0.num, .string r0.text, .slice w0A1 r0.names.length w0c1, .slice w0A2 r0.kids.length w0c2] := Row.new u3 _ _
    clear hAPw0
    have c3_Q0_0 := Q0.cell 0
    have c3_Q0_1 := Q0.cell 1
    have c3_Q0_2 := Q0.cell 2
    have c3_Pw0_0 := Pw0.cell 0
    have c3_Pw0_1 := Pw0.cell 1
    have c3_Pw0_2 := Pw0.cell 2
    have c3_Pw0_3 := Pw0.cell 3
    have c3_Pw0_4 := Pw0.cell 4
    have lt3_Q0 := Q0.lt
    have lt3_Pw0 := Pw0.lt
    go_wp2_with fail
    refine (toKind_any x0 _ _ _ (HO0.out.below BPw0.out hl0) (hl0.up BPw0.out) (by omega)).mono ?_
    rintro e u4 ⟨vx0, fx0, rfl, yx0, zx0, hb4⟩
    clear c3_Q0_0 c3_Q0_1 c3_Q0_2 c3_Pw0_0 c3_Pw0_1 c3_Pw0_2 c3_Pw0_3 c3_Pw0_4 lt3_Q0 lt3_Pw0
    have S4 := hide (show u3.heap.size + 1 ≤ u4.heap.size from by have := hb4.size; simpa only [World.size_alloc] using this)
    have B4 := hide (BPw0.out.trans (hb4.mono BPw0.out.size))
    have Q0 := Q0.below hb4 Q0.lt
    have Pw0 := Pw0.below hb4 Pw0.lt
    have Ow0 := hide (Ow0.out.below hb4 Nw0.out.lt)
    have Nw0 := hide (Nw0.out.below hb4 Nw0.out.lt)
    have Ox0 := hide yx0
    have Nx0 := hide zx0
    have Lx0 := hide (show ∀ g ∈ fx0, u3.heap.size + 1 ≤ g ∧ g < u4.heap.size from fun g hg => ⟨by have := (zx0.fr g hg).1; simpa only [World.size_alloc] using this, zx0.lt g hg⟩)
    clear yx0 zx0
    clear hb4
    have Tx0 := Ox0.out
    obtain ⟨x0A1, x0c1, x0A2, x0c2, x0f1, x0f2, rfl, x0w0, x0o1, x0o2, x0ef⟩ := Tx0.oKind
    clear Tx0 x0o1 x0o2
    have hAPx0 : Below u4.heap.size u4 (u4.alloc (.cells #[.int .i64 x0.sort, .slice x0A1 x0.names.length x0c1, .slice x0A2 x0.kids.length x0c2] 30)) := (Below.refl _ _).alloc (Nat.le_refl _) _
    have BPx0 := hide (B4.out.trans (hAPx0.mono B4.out.size))
    have Q0 := Q0.below hAPx0 Q0.lt
    have Pw0 := Pw0.below hAPx0 Pw0.lt
    have Ow0 := hide (Ow0.out.below hAPx0 Nw0.out.lt)
    have Nw0 := hide (Nw0.out.below hAPx0 Nw0.out.lt)
    have Ox0 := hide (Ox0.out.below hAPx0 Nx0.out.lt)
    have Nx0 := hide (Nx0.out.below hAPx0 Nx0.out.lt)
    have Px0 : Row (u4.alloc (.cells #[.int .i64 x0.sort, .slice x0A1 x0.names.length x0c1, .slice x0A2 x0.kids.length x0c2] 30)) u4.heap.size 30 [.int .i64 x0.sort, .slice x0A1 x0.names.length x0c1, .slice x0A2 x0.kids.length x0c2] := Row.new u4 _ _
    clear hAPx0
    have c4_Q0_0 := Q0.cell 0
    have c4_Q0_1 := Q0.cell 1
    have c4_Q0_2 := Q0.cell 2
    have c4_Pw0_0 := Pw0.cell 0
    have c4_Pw0_1 := Pw0.cell 1
    have c4_Pw0_2 := Pw0.cell 2
    have c4_Pw0_3 := Pw0.cell 3
    have c4_Pw0_4 := Pw0.cell 4
    have c4_Px0_0 := Px0.cell 0
    have c4_Px0_1 := Px0.cell 1
    have c4_Px0_2 := Px0.cell 2
    have lt4_Q0 := Q0.lt
    have lt4_Pw0 := Pw0.lt
    have lt4_Px0 := Px0.lt
    go_wp2_with fail
    refine (implKindFirst_any x0 _ _ _ Ox0.out Nx0.out.lt (by omega)).mono ?_
    rintro e u5 ⟨vg0, fg0, rfl, yg0, zg0, hb5⟩
    clear c4_Q0_0 c4_Q0_1 c4_Q0_2 c4_Pw0_0 c4_Pw0_1 c4_Pw0_2 c4_Pw0_3 c4_Pw0_4 c4_Px0_0 c4_Px0_1 c4_Px0_2 lt4_Q0 lt4_Pw0 lt4_Px0
    have S5 := hide (show u4.heap.size + 1 ≤ u5.heap.size from by have := hb5.size; simpa only [World.size_alloc] using this)
    have B5 := hide (BPx0.out.trans (hb5.mono BPx0.out.size))
    have Q0 := Q0.below hb5 Q0.lt
    have Pw0 := Pw0.below hb5 Pw0.lt
    have Px0 := Px0.below hb5 Px0.lt
    have Ow0 := hide (Ow0.out.below hb5 Nw0.out.lt)
    have Nw0 := hide (Nw0.out.below hb5 Nw0.out.lt)
    have Ox0 := hide (Ox0.out.below hb5 Nx0.out.lt)
    have Nx0 := hide (Nx0.out.below hb5 Nx0.out.lt)
    clear hb5
    rw [← HR0.out] at yg0
    have Og0 := hide yg0
    have Ng0 := hide zg0
    have Lg0 := hide (show ∀ g ∈ fg0, u4.heap.size + 1 ≤ g ∧ g < u5.heap.size from fun g hg => ⟨by have := (zg0.fr g hg).1; simpa only [World.size_alloc] using this, zg0.lt g hg⟩)
    clear yg0 zg0
    have Tg0 := Og0.out
    obtain ⟨g0A1, g0c1, g0A2, g0c2, g0f1, g0f2, rfl, g0w0, g0w1, g0w2, g0o1, g0o2, g0ef⟩ := Tg0.oTree
    clear Tg0 g0o1 g0o2
    have hAPg0 : Below u5.heap.size u5 (u5.alloc (.cells #[.int .i64 r0.sort, .int .i64 r0.num, .string r0.text, .slice g0A1 r0.names.length g0c1, .slice g0A2 r0.kids.length g0c2] 35)) := (Below.refl _ _).alloc (Nat.le_refl _) _
    have BPg0 := hide (B5.out.trans (hAPg0.mono B5.out.size))
    have Q0 := Q0.below hAPg0 Q0.lt
    have Pw0 := Pw0.below hAPg0 Pw0.lt
    have Px0 := Px0.below hAPg0 Px0.lt
    have Ow0 := hide (Ow0.out.below hAPg0 Nw0.out.lt)
    have Nw0 := hide (Nw0.out.below hAPg0 Nw0.out.lt)
    have Ox0 := hide (Ox0.out.below hAPg0 Nx0.out.lt)
    have Nx0 := hide (Nx0.out.below hAPg0 Nx0.out.lt)
    have Og0 := hide (Og0.out.below hAPg0 Ng0.out.lt)
    have Ng0 := hide (Ng0.out.below hAPg0 Ng0.out.lt)
    have Pg0 : Row (u5.alloc (.cells #[.int .i64 r0.sort, .int .i64 r0.num, .string r0.text, .slice g0A1 r0.names.length g0c1, .slice g0A2 r0.kids.length g0c2] 35)) u5.heap.size 35 [.int .i64 r0.sort, .int .i64 r0.num, .string r0.text, .slice g0A1 r0.names.length g0c1, .slice g0A2 r0.kids.length g0c2] := Row.new u5 _ _
    clear hAPg0
    have c5_Q0_0 := Q0.cell 0
    have c5_Q0_1 := Q0.cell 1
    have c5_Q0_2 := Q0.cell 2
    have c5_Pw0_0 := Pw0.cell 0
    have c5_Pw0_1 := Pw0.cell 1
    have c5_Pw0_2 := Pw0.cell 2
    have c5_Pw0_3 := Pw0.cell 3
    have c5_Pw0_4 := Pw0.cell 4
    have c5_Px0_0 := Px0.cell 0
    have c5_Px0_1 := Px0.cell 1
    have c5_Px0_2 := Px0.cell 2
    have c5_Pg0_0 := Pg0.cell 0
    have c5_Pg0_1 := Pg0.cell 1
    have c5_Pg0_2 := Pg0.cell 2
    have c5_Pg0_3 := Pg0.cell 3
    have c5_Pg0_4 := Pg0.cell 4
    have lt5_Q0 := Q0.lt
    have lt5_Pw0 := Pw0.lt
    have lt5_Px0 := Px0.lt
    have lt5_Pg0 := Pg0.lt
    go_wp2_with fail
    refine (eqTree_any r0 _ _ _ _ _ Og0.out Ow0.out Ng0.out.lt Nw0.out.lt).mono ?_
    rintro e u6 ⟨rfl, hb6⟩
    clear c5_Q0_0 c5_Q0_1 c5_Q0_2 c5_Pw0_0 c5_Pw0_1 c5_Pw0_2 c5_Pw0_3 c5_Pw0_4 c5_Px0_0 c5_Px0_1 c5_Px0_2 c5_Pg0_0 c5_Pg0_1 c5_Pg0_2 c5_Pg0_3 c5_Pg0_4 lt5_Q0 lt5_Pw0 lt5_Px0 lt5_Pg0
    have S6 := hide (show u5.heap.size + 1 ≤ u6.heap.size from by have := hb6.size; simpa only [World.size_alloc] using this)
    have B6 := hide (BPg0.out.trans (hb6.mono BPg0.out.size))
    have Q0 := Q0.below hb6 Q0.lt
    have Pw0 := Pw0.below hb6 Pw0.lt
    have Px0 := Px0.below hb6 Px0.lt
    have Pg0 := Pg0.below hb6 Pg0.lt
    have Ow0 := hide (Ow0.out.below hb6 Nw0.out.lt)
    have Nw0 := hide (Nw0.out.below hb6 Nw0.out.lt)
    have Ox0 := hide (Ox0.out.below hb6 Nx0.out.lt)
    have Nx0 := hide (Nx0.out.below hb6 Nx0.out.lt)
    have Og0 := hide (Og0.out.below hb6 Ng0.out.lt)
    have Ng0 := hide (Ng0.out.below hb6 Ng0.out.lt)
    clear hb6
    have c6_Q0_0 := Q0.cell 0
    have c6_Q0_1 := Q0.cell 1
    have c6_Q0_2 := Q0.cell 2
    have c6_Pw0_0 := Pw0.cell 0
    have c6_Pw0_1 := Pw0.cell 1
    have c6_Pw0_2 := Pw0.cell 2
    have c6_Pw0_3 := Pw0.cell 3
    have c6_Pw0_4 := Pw0.cell 4
    have c6_Px0_0 := Px0.cell 0
    have c6_Px0_1 := Px0.cell 1
    have c6_Px0_2 := Px0.cell 2
    have c6_Pg0_0 := Pg0.cell 0
    have c6_Pg0_1 := Pg0.cell 1
    have c6_Pg0_2 := Pg0.cell 2
    have c6_Pg0_3 := Pg0.cell 3
    have c6_Pg0_4 := Pg0.cell 4
    have lt6_Q0 := Q0.lt
    have lt6_Pw0 := Pw0.lt
    have lt6_Px0 := Px0.lt
    have lt6_Pg0 := Pg0.lt
    go_wp2
    go_region_held3 (fun w' => w'.cell? ⟨w.heap.size, 0, none⟩ = some (.int .i64 x0.sort) ∧ w'.cell? ⟨w.heap.size, 1, none⟩ = some (.slice a0A1 x0.names.length a0c1) ∧ w'.cell? ⟨w.heap.size, 2, none⟩ = some (.slice a0A2 x0.kids.length a0c2) ∧ w'.cell? ⟨u4.heap.size, 0, none⟩ = some (.int .i64 x0.sort) ∧ w'.cell? ⟨u4.heap.size, 1, none⟩ = some (.slice x0A1 x0.names.length x0c1) ∧ w'.cell? ⟨u4.heap.size, 2, none⟩ = some (.slice x0A2 x0.kids.length x0c2))
      (first | go_keep | exact ⟨me0_1_Q0.cell 0, me0_1_Q0.cell 1, me0_1_Q0.cell 2, me0_1_Px0.cell 0, me0_1_Px0.cell 1, me0_1_Px0.cell 2⟩ | exact ⟨me0_0_Q0.cell 0, me0_0_Q0.cell 1, me0_0_Q0.cell 2, me0_0_Px0.cell 0, me0_0_Px0.cell 1, me0_0_Px0.cell 2⟩)
      (first
        | (go_at_call 19; refine (eqKind_any x0 _ _ _ _ _ ((Ox0.out.drewN 1).below he0_0 (by exact Nx0.out.lt)) ye0 (by exact (Nx0.out.lt.mono he0_0.size)) ze0.lt).mono ?_; rintro e ue0_1 ⟨rfl, he0_1⟩; have me0_1_Q0 := me0_0_Q0.below he0_1 me0_0_Q0.lt; have me0_1_Px0 := me0_0_Px0.below he0_1 me0_0_Px0.lt)
        | (go_at_call 17; refine (toKind_any x0 _ _ _ (HO0.out.below B6.out.drew hl0) (hl0.up B6.out.drew) (by omega)).mono ?_; rintro e ue0_0 ⟨ve0, fe0, rfl, ye0, ze0, he0_0⟩; have me0_0_Q0 := (Q0.drewN 1).below he0_0 (by exact Q0.lt); have me0_0_Px0 := (Px0.drewN 1).below he0_0 (by exact Px0.lt)))
    clear c6_Q0_0 c6_Q0_1 c6_Q0_2 c6_Pw0_0 c6_Pw0_1 c6_Pw0_2 c6_Pw0_3 c6_Pw0_4 c6_Px0_0 c6_Px0_1 c6_Px0_2 c6_Pg0_0 c6_Pg0_1 c6_Pg0_2 c6_Pg0_3 c6_Pg0_4 lt6_Q0 lt6_Pw0 lt6_Px0 lt6_Pg0
    have hze0 : Below u6.heap.size u6 ue0_0 := ⟨he0_0.os, he0_0.tape, he0_0.output, he0_0.size, he0_0.block⟩
    clear me0_0_Q0 me0_0_Px0 me0_1_Q0 me0_1_Px0
    have S7 := hide (show u6.heap.size ≤ ue0_0.heap.size from by have := hze0.size; simpa only [World.size_alloc] using this)
    have B7 := hide (B6.out.trans (hze0.mono B6.out.size))
    have Q0 := Q0.below hze0 Q0.lt
    have Pw0 := Pw0.below hze0 Pw0.lt
    have Px0 := Px0.below hze0 Px0.lt
    have Pg0 := Pg0.below hze0 Pg0.lt
    have Ow0 := hide (Ow0.out.below hze0 Nw0.out.lt)
    have Nw0 := hide (Nw0.out.below hze0 Nw0.out.lt)
    have Ox0 := hide (Ox0.out.below hze0 Nx0.out.lt)
    have Nx0 := hide (Nx0.out.below hze0 Nx0.out.lt)
    have Og0 := hide (Og0.out.below hze0 Ng0.out.lt)
    have Ng0 := hide (Ng0.out.below hze0 Ng0.out.lt)
    have S8 := hide (show ue0_0.heap.size ≤ ue0_1.heap.size from by have := he0_1.size; simpa only [World.size_alloc] using this)
    have B8 := hide (B7.out.trans (he0_1.mono B7.out.size))
    have Q0 := Q0.below he0_1 Q0.lt
    have Pw0 := Pw0.below he0_1 Pw0.lt
    have Px0 := Px0.below he0_1 Px0.lt
    have Pg0 := Pg0.below he0_1 Pg0.lt
    have Ow0 := hide (Ow0.out.below he0_1 Nw0.out.lt)
    have Nw0 := hide (Nw0.out.below he0_1 Nw0.out.lt)
    have Ox0 := hide (Ox0.out.below he0_1 Nx0.out.lt)
    have Nx0 := hide (Nx0.out.below he0_1 Nx0.out.lt)
    have Og0 := hide (Og0.out.below he0_1 Ng0.out.lt)
    have Ng0 := hide (Ng0.out.below he0_1 Ng0.out.lt)
    clear he0_0 he0_1 hze0
    clear ye0 ze0
    have c8_Q0_0 := Q0.cell 0
    have c8_Q0_1 := Q0.cell 1
    have c8_Q0_2 := Q0.cell 2
    have c8_Pw0_0 := Pw0.cell 0
    have c8_Pw0_1 := Pw0.cell 1
    have c8_Pw0_2 := Pw0.cell 2
    have c8_Pw0_3 := Pw0.cell 3
    have c8_Pw0_4 := Pw0.cell 4
    have c8_Px0_0 := Px0.cell 0
    have c8_Px0_1 := Px0.cell 1
    have c8_Px0_2 := Px0.cell 2
    have c8_Pg0_0 := Pg0.cell 0
    have c8_Pg0_1 := Pg0.cell 1
    have c8_Pg0_2 := Pg0.cell 2
    have c8_Pg0_3 := Pg0.cell 3
    have c8_Pg0_4 := Pg0.cell 4
    have lt8_Q0 := Q0.lt
    have lt8_Pw0 := Pw0.lt
    have lt8_Px0 := Px0.lt
    have lt8_Pg0 := Pg0.lt
    go_wp2_with fail
    refine (markKind_any x0 _ fx0 _ _ (1) _ (by omega) Ox0.out Nx0.out (by omega)).mono ?_
    rintro e u9 ⟨lx0, rfl, ox0, kx0, ht9⟩
    clear c8_Q0_0 c8_Q0_1 c8_Q0_2 c8_Pw0_0 c8_Pw0_1 c8_Pw0_2 c8_Pw0_3 c8_Pw0_4 c8_Px0_0 c8_Px0_1 c8_Px0_2 c8_Pg0_0 c8_Pg0_1 c8_Pg0_2 c8_Pg0_3 c8_Pg0_4 lt8_Q0 lt8_Pw0 lt8_Px0 lt8_Pg0
    have S9 := hide (show ue0_1.heap.size ≤ u9.heap.size from ht9.size)
    have B9 := hide (B8.out.trans (ht9.to_below B8.out.size (fun g hg => by have := Lx0.out g hg; have := S1.out; have := S2.out; have := S3.out; have := S4.out; have := S5.out; have := S6.out; have := S7.out; have := S8.out; omega)))
    have Q0 := rowTouch Q0 ht9 (fun hg => by have := Lx0.out _ hg; have := S1.out; have := S2.out; have := S3.out; have := S4.out; have := S5.out; have := S6.out; have := S7.out; have := S8.out; omega)
    have Pw0 := rowTouch Pw0 ht9 (fun hg => by have := Lx0.out _ hg; have := S1.out; have := S2.out; have := S3.out; have := S4.out; have := S5.out; have := S6.out; have := S7.out; have := S8.out; omega)
    have Px0 := rowTouch Px0 ht9 (fun hg => by have := Lx0.out _ hg; have := S1.out; have := S2.out; have := S3.out; have := S4.out; have := S5.out; have := S6.out; have := S7.out; have := S8.out; omega)
    have Pg0 := rowTouch Pg0 ht9 (fun hg => by have := Lx0.out _ hg; have := S1.out; have := S2.out; have := S3.out; have := S4.out; have := S5.out; have := S6.out; have := S7.out; have := S8.out; omega)
    have Ow0 := hide (Ow0.out.touch ht9 Nw0.out.lt (fun g hg hg2 => by have := Lw0.out g hg; have := Lx0.out g hg2; have := S1.out; have := S2.out; have := S3.out; have := S4.out; have := S5.out; have := S6.out; have := S7.out; have := S8.out; omega))
    have Nw0 := hide (ht9.new Nw0.out)
    have Og0 := hide (Og0.out.touch ht9 Ng0.out.lt (fun g hg hg2 => by have := Lg0.out g hg; have := Lx0.out g hg2; have := S1.out; have := S2.out; have := S3.out; have := S4.out; have := S5.out; have := S6.out; have := S7.out; have := S8.out; omega))
    have Ng0 := hide (ht9.new Ng0.out)
    have Ox0 := hide ox0
    have Nx0 := hide (ht9.new Nx0.out)
    have Kx0 := hide kx0
    clear ox0 kx0 ht9
    have c9_Q0_0 := Q0.cell 0
    have c9_Q0_1 := Q0.cell 1
    have c9_Q0_2 := Q0.cell 2
    have c9_Pw0_0 := Pw0.cell 0
    have c9_Pw0_1 := Pw0.cell 1
    have c9_Pw0_2 := Pw0.cell 2
    have c9_Pw0_3 := Pw0.cell 3
    have c9_Pw0_4 := Pw0.cell 4
    have c9_Px0_0 := Px0.cell 0
    have c9_Px0_1 := Px0.cell 1
    have c9_Px0_2 := Px0.cell 2
    have c9_Pg0_0 := Pg0.cell 0
    have c9_Pg0_1 := Pg0.cell 1
    have c9_Pg0_2 := Pg0.cell 2
    have c9_Pg0_3 := Pg0.cell 3
    have c9_Pg0_4 := Pg0.cell 4
    have lt9_Q0 := Q0.lt
    have lt9_Pw0 := Pw0.lt
    have lt9_Px0 := Px0.lt
    have lt9_Pg0 := Pg0.lt
    go_wp2_with fail
    refine (eqTree_any r0 _ _ _ _ _ Og0.out Ow0.out Ng0.out.lt Nw0.out.lt).mono ?_
    rintro e u10 ⟨rfl, hb10⟩
    clear c9_Q0_0 c9_Q0_1 c9_Q0_2 c9_Pw0_0 c9_Pw0_1 c9_Pw0_2 c9_Pw0_3 c9_Pw0_4 c9_Px0_0 c9_Px0_1 c9_Px0_2 c9_Pg0_0 c9_Pg0_1 c9_Pg0_2 c9_Pg0_3 c9_Pg0_4 lt9_Q0 lt9_Pw0 lt9_Px0 lt9_Pg0
    have S10 := hide (show u9.heap.size ≤ u10.heap.size from by have := hb10.size; simpa only [World.size_alloc] using this)
    have B10 := hide (B9.out.trans (hb10.mono B9.out.size))
    have Q0 := Q0.below hb10 Q0.lt
    have Pw0 := Pw0.below hb10 Pw0.lt
    have Pg0 := Pg0.below hb10 Pg0.lt
    have Ow0 := hide (Ow0.out.below hb10 Nw0.out.lt)
    have Nw0 := hide (Nw0.out.below hb10 Nw0.out.lt)
    have Og0 := hide (Og0.out.below hb10 Ng0.out.lt)
    have Ng0 := hide (Ng0.out.below hb10 Ng0.out.lt)
    clear hb10
    have c10_Q0_0 := Q0.cell 0
    have c10_Q0_1 := Q0.cell 1
    have c10_Q0_2 := Q0.cell 2
    have c10_Pw0_0 := Pw0.cell 0
    have c10_Pw0_1 := Pw0.cell 1
    have c10_Pw0_2 := Pw0.cell 2
    have c10_Pw0_3 := Pw0.cell 3
    have c10_Pw0_4 := Pw0.cell 4
    have c10_Pg0_0 := Pg0.cell 0
    have c10_Pg0_1 := Pg0.cell 1
    have c10_Pg0_2 := Pg0.cell 2
    have c10_Pg0_3 := Pg0.cell 3
    have c10_Pg0_4 := Pg0.cell 4
    have lt10_Q0 := Q0.lt
    have lt10_Pw0 := Pw0.lt
    have lt10_Pg0 := Pg0.lt
    go_wp2_with fail
    refine (markTree_any r0 _ fg0 _ _ (1) _ (by omega) Og0.out Ng0.out (by omega)).mono ?_
    rintro e u11 ⟨lg0, rfl, og0, kg0, ht11⟩
    clear c10_Q0_0 c10_Q0_1 c10_Q0_2 c10_Pw0_0 c10_Pw0_1 c10_Pw0_2 c10_Pw0_3 c10_Pw0_4 c10_Pg0_0 c10_Pg0_1 c10_Pg0_2 c10_Pg0_3 c10_Pg0_4 lt10_Q0 lt10_Pw0 lt10_Pg0
    have S11 := hide (show u10.heap.size ≤ u11.heap.size from ht11.size)
    have B11 := hide (B10.out.trans (ht11.to_below B10.out.size (fun g hg => by have := Lg0.out g hg; have := S1.out; have := S2.out; have := S3.out; have := S4.out; have := S5.out; have := S6.out; have := S7.out; have := S8.out; have := S9.out; have := S10.out; omega)))
    have Q0 := rowTouch Q0 ht11 (fun hg => by have := Lg0.out _ hg; have := S1.out; have := S2.out; have := S3.out; have := S4.out; have := S5.out; have := S6.out; have := S7.out; have := S8.out; have := S9.out; have := S10.out; omega)
    have Pw0 := rowTouch Pw0 ht11 (fun hg => by have := Lg0.out _ hg; have := S1.out; have := S2.out; have := S3.out; have := S4.out; have := S5.out; have := S6.out; have := S7.out; have := S8.out; have := S9.out; have := S10.out; omega)
    have Pg0 := rowTouch Pg0 ht11 (fun hg => by have := Lg0.out _ hg; have := S1.out; have := S2.out; have := S3.out; have := S4.out; have := S5.out; have := S6.out; have := S7.out; have := S8.out; have := S9.out; have := S10.out; omega)
    have Ow0 := hide (Ow0.out.touch ht11 Nw0.out.lt (fun g hg hg2 => by have := Lw0.out g hg; have := Lg0.out g hg2; have := S1.out; have := S2.out; have := S3.out; have := S4.out; have := S5.out; have := S6.out; have := S7.out; have := S8.out; have := S9.out; have := S10.out; omega))
    have Nw0 := hide (ht11.new Nw0.out)
    have Og0 := hide og0
    have Ng0 := hide (ht11.new Ng0.out)
    have Kg0 := hide kg0
    clear og0 kg0 ht11
    have c11_Q0_0 := Q0.cell 0
    have c11_Q0_1 := Q0.cell 1
    have c11_Q0_2 := Q0.cell 2
    have c11_Pw0_0 := Pw0.cell 0
    have c11_Pw0_1 := Pw0.cell 1
    have c11_Pw0_2 := Pw0.cell 2
    have c11_Pw0_3 := Pw0.cell 3
    have c11_Pw0_4 := Pw0.cell 4
    have c11_Pg0_0 := Pg0.cell 0
    have c11_Pg0_1 := Pg0.cell 1
    have c11_Pg0_2 := Pg0.cell 2
    have c11_Pg0_3 := Pg0.cell 3
    have c11_Pg0_4 := Pg0.cell 4
    have lt11_Q0 := Q0.lt
    have lt11_Pw0 := Pw0.lt
    have lt11_Pg0 := Pg0.lt
    go_wp2_with fail
    refine (heldTree_any lg0 _ fg0 _ (1) (1 + r0.cntTop) _ (by omega) Og0.out Ng0.out.lt Kg0.out (by omega)).mono ?_
    rintro e u12 ⟨rfl, hb12⟩
    clear c11_Q0_0 c11_Q0_1 c11_Q0_2 c11_Pw0_0 c11_Pw0_1 c11_Pw0_2 c11_Pw0_3 c11_Pw0_4 c11_Pg0_0 c11_Pg0_1 c11_Pg0_2 c11_Pg0_3 c11_Pg0_4 lt11_Q0 lt11_Pw0 lt11_Pg0
    have S12 := hide (show u11.heap.size ≤ u12.heap.size from by have := hb12.size; simpa only [World.size_alloc] using this)
    have B12 := hide (B11.out.trans (hb12.mono B11.out.size))
    have Q0 := Q0.below hb12 Q0.lt
    have Pw0 := Pw0.below hb12 Pw0.lt
    have Pg0 := Pg0.below hb12 Pg0.lt
    have Ow0 := hide (Ow0.out.below hb12 Nw0.out.lt)
    have Nw0 := hide (Nw0.out.below hb12 Nw0.out.lt)
    have Og0 := hide (Og0.out.below hb12 Ng0.out.lt)
    have Ng0 := hide (Ng0.out.below hb12 Ng0.out.lt)
    clear hb12
    have c12_Q0_0 := Q0.cell 0
    have c12_Q0_1 := Q0.cell 1
    have c12_Q0_2 := Q0.cell 2
    have c12_Pw0_0 := Pw0.cell 0
    have c12_Pw0_1 := Pw0.cell 1
    have c12_Pw0_2 := Pw0.cell 2
    have c12_Pw0_3 := Pw0.cell 3
    have c12_Pw0_4 := Pw0.cell 4
    have c12_Pg0_0 := Pg0.cell 0
    have c12_Pg0_1 := Pg0.cell 1
    have c12_Pg0_2 := Pg0.cell 2
    have c12_Pg0_3 := Pg0.cell 3
    have c12_Pg0_4 := Pg0.cell 4
    have lt12_Q0 := Q0.lt
    have lt12_Pw0 := Pw0.lt
    have lt12_Pg0 := Pg0.lt
    go_wp2_with fail
    refine (toKind_any x0 _ _ _ (HO0.out.below B12.out hl0) (hl0.up B12.out) (by omega)).mono ?_
    rintro e u13 ⟨vht0, fht0, rfl, yht0, zht0, hb13⟩
    clear c12_Q0_0 c12_Q0_1 c12_Q0_2 c12_Pw0_0 c12_Pw0_1 c12_Pw0_2 c12_Pw0_3 c12_Pw0_4 c12_Pg0_0 c12_Pg0_1 c12_Pg0_2 c12_Pg0_3 c12_Pg0_4 lt12_Q0 lt12_Pw0 lt12_Pg0
    have S13 := hide (show u12.heap.size ≤ u13.heap.size from by have := hb13.size; simpa only [World.size_alloc] using this)
    have B13 := hide (B12.out.trans (hb13.mono B12.out.size))
    have Q0 := Q0.below hb13 Q0.lt
    have Pw0 := Pw0.below hb13 Pw0.lt
    have Pg0 := Pg0.below hb13 Pg0.lt
    have Ow0 := hide (Ow0.out.below hb13 Nw0.out.lt)
    have Nw0 := hide (Nw0.out.below hb13 Nw0.out.lt)
    have Og0 := hide (Og0.out.below hb13 Ng0.out.lt)
    have Ng0 := hide (Ng0.out.below hb13 Ng0.out.lt)
    have Oht0 := hide yht0
    have Nht0 := hide zht0
    have Lht0 := hide (show ∀ g ∈ fht0, u12.heap.size ≤ g ∧ g < u13.heap.size from fun g hg => ⟨by have := (zht0.fr g hg).1; simpa only [World.size_alloc] using this, zht0.lt g hg⟩)
    clear yht0 zht0
    clear hb13
    have lt13_Q0 := Q0.lt
    have lt13_Pw0 := Pw0.lt
    have lt13_Pg0 := Pg0.lt
    go_wp2_with fail
    refine (implKindFirst_any x0 _ _ _ Oht0.out Nht0.out.lt (by omega)).mono ?_
    rintro e u14 ⟨vh0, fh0, rfl, yh0, zh0, hb14⟩
    clear lt13_Q0 lt13_Pw0 lt13_Pg0
    have S14 := hide (show u13.heap.size ≤ u14.heap.size from by have := hb14.size; simpa only [World.size_alloc] using this)
    have B14 := hide (B13.out.trans (hb14.mono B13.out.size))
    have Q0 := Q0.below hb14 Q0.lt
    have Pw0 := Pw0.below hb14 Pw0.lt
    have Pg0 := Pg0.below hb14 Pg0.lt
    have Ow0 := hide (Ow0.out.below hb14 Nw0.out.lt)
    have Nw0 := hide (Nw0.out.below hb14 Nw0.out.lt)
    have Og0 := hide (Og0.out.below hb14 Ng0.out.lt)
    have Ng0 := hide (Ng0.out.below hb14 Ng0.out.lt)
    have Oht0 := hide (Oht0.out.below hb14 Nht0.out.lt)
    have Nht0 := hide (Nht0.out.below hb14 Nht0.out.lt)
    clear hb14
    rw [← HR0.out] at yh0
    have Oh0 := hide yh0
    have Nh0 := hide zh0
    have Lh0 := hide (show ∀ g ∈ fh0, u13.heap.size ≤ g ∧ g < u14.heap.size from fun g hg => ⟨by have := (zh0.fr g hg).1; simpa only [World.size_alloc] using this, zh0.lt g hg⟩)
    clear yh0 zh0
    have Th0 := Oh0.out
    obtain ⟨h0A1, h0c1, h0A2, h0c2, h0f1, h0f2, rfl, h0w0, h0w1, h0w2, h0o1, h0o2, h0ef⟩ := Th0.oTree
    clear Th0 h0o1 h0o2
    have hAPh0 : Below u14.heap.size u14 (u14.alloc (.cells #[.int .i64 r0.sort, .int .i64 r0.num, .string r0.text, .slice h0A1 r0.names.length h0c1, .slice h0A2 r0.kids.length h0c2] 35)) := (Below.refl _ _).alloc (Nat.le_refl _) _
    have BPh0 := hide (B14.out.trans (hAPh0.mono B14.out.size))
    have Q0 := Q0.below hAPh0 Q0.lt
    have Pw0 := Pw0.below hAPh0 Pw0.lt
    have Pg0 := Pg0.below hAPh0 Pg0.lt
    have Ow0 := hide (Ow0.out.below hAPh0 Nw0.out.lt)
    have Nw0 := hide (Nw0.out.below hAPh0 Nw0.out.lt)
    have Og0 := hide (Og0.out.below hAPh0 Ng0.out.lt)
    have Ng0 := hide (Ng0.out.below hAPh0 Ng0.out.lt)
    have Oh0 := hide (Oh0.out.below hAPh0 Nh0.out.lt)
    have Nh0 := hide (Nh0.out.below hAPh0 Nh0.out.lt)
    have Ph0 : Row (u14.alloc (.cells #[.int .i64 r0.sort, .int .i64 r0.num, .string r0.text, .slice h0A1 r0.names.length h0c1, .slice h0A2 r0.kids.length h0c2] 35)) u14.heap.size 35 [.int .i64 r0.sort, .int .i64 r0.num, .string r0.text, .slice h0A1 r0.names.length h0c1, .slice h0A2 r0.kids.length h0c2] := Row.new u14 _ _
    clear hAPh0
    have c14_Q0_0 := Q0.cell 0
    have c14_Q0_1 := Q0.cell 1
    have c14_Q0_2 := Q0.cell 2
    have c14_Pw0_0 := Pw0.cell 0
    have c14_Pw0_1 := Pw0.cell 1
    have c14_Pw0_2 := Pw0.cell 2
    have c14_Pw0_3 := Pw0.cell 3
    have c14_Pw0_4 := Pw0.cell 4
    have c14_Pg0_0 := Pg0.cell 0
    have c14_Pg0_1 := Pg0.cell 1
    have c14_Pg0_2 := Pg0.cell 2
    have c14_Pg0_3 := Pg0.cell 3
    have c14_Pg0_4 := Pg0.cell 4
    have c14_Ph0_0 := Ph0.cell 0
    have c14_Ph0_1 := Ph0.cell 1
    have c14_Ph0_2 := Ph0.cell 2
    have c14_Ph0_3 := Ph0.cell 3
    have c14_Ph0_4 := Ph0.cell 4
    have lt14_Q0 := Q0.lt
    have lt14_Pw0 := Pw0.lt
    have lt14_Pg0 := Pg0.lt
    have lt14_Ph0 := Ph0.lt
    go_wp2_with fail
    refine (eqTree_any r0 _ _ _ _ _ Oh0.out Ow0.out Nh0.out.lt Nw0.out.lt).mono ?_
    rintro e u15 ⟨rfl, hb15⟩
    clear c14_Q0_0 c14_Q0_1 c14_Q0_2 c14_Pw0_0 c14_Pw0_1 c14_Pw0_2 c14_Pw0_3 c14_Pw0_4 c14_Pg0_0 c14_Pg0_1 c14_Pg0_2 c14_Pg0_3 c14_Pg0_4 c14_Ph0_0 c14_Ph0_1 c14_Ph0_2 c14_Ph0_3 c14_Ph0_4 lt14_Q0 lt14_Pw0 lt14_Pg0 lt14_Ph0
    have S15 := hide (show u14.heap.size + 1 ≤ u15.heap.size from by have := hb15.size; simpa only [World.size_alloc] using this)
    have B15 := hide (BPh0.out.trans (hb15.mono BPh0.out.size))
    have Q0 := Q0.below hb15 Q0.lt
    have Pw0 := Pw0.below hb15 Pw0.lt
    have Pg0 := Pg0.below hb15 Pg0.lt
    have Ph0 := Ph0.below hb15 Ph0.lt
    have Ow0 := hide (Ow0.out.below hb15 Nw0.out.lt)
    have Nw0 := hide (Nw0.out.below hb15 Nw0.out.lt)
    have Og0 := hide (Og0.out.below hb15 Ng0.out.lt)
    have Ng0 := hide (Ng0.out.below hb15 Ng0.out.lt)
    have Oh0 := hide (Oh0.out.below hb15 Nh0.out.lt)
    have Nh0 := hide (Nh0.out.below hb15 Nh0.out.lt)
    clear hb15
    have c15_Q0_0 := Q0.cell 0
    have c15_Q0_1 := Q0.cell 1
    have c15_Q0_2 := Q0.cell 2
    have c15_Pw0_0 := Pw0.cell 0
    have c15_Pw0_1 := Pw0.cell 1
    have c15_Pw0_2 := Pw0.cell 2
    have c15_Pw0_3 := Pw0.cell 3
    have c15_Pw0_4 := Pw0.cell 4
    have c15_Pg0_0 := Pg0.cell 0
    have c15_Pg0_1 := Pg0.cell 1
    have c15_Pg0_2 := Pg0.cell 2
    have c15_Pg0_3 := Pg0.cell 3
    have c15_Pg0_4 := Pg0.cell 4
    have c15_Ph0_0 := Ph0.cell 0
    have c15_Ph0_1 := Ph0.cell 1
    have c15_Ph0_2 := Ph0.cell 2
    have c15_Ph0_3 := Ph0.cell 3
    have c15_Ph0_4 := Ph0.cell 4
    have lt15_Q0 := Q0.lt
    have lt15_Pw0 := Pw0.lt
    have lt15_Pg0 := Pg0.lt
    have lt15_Ph0 := Ph0.lt
    go_wp2_with fail
    refine (heldTree_any lg0 _ fg0 _ (1) (1 + r0.cntTop) _ (by omega) Og0.out Ng0.out.lt Kg0.out (by omega)).mono ?_
    rintro e u16 ⟨rfl, hb16⟩
    clear c15_Q0_0 c15_Q0_1 c15_Q0_2 c15_Pw0_0 c15_Pw0_1 c15_Pw0_2 c15_Pw0_3 c15_Pw0_4 c15_Pg0_0 c15_Pg0_1 c15_Pg0_2 c15_Pg0_3 c15_Pg0_4 c15_Ph0_0 c15_Ph0_1 c15_Ph0_2 c15_Ph0_3 c15_Ph0_4 lt15_Q0 lt15_Pw0 lt15_Pg0 lt15_Ph0
    have S16 := hide (show u15.heap.size ≤ u16.heap.size from by have := hb16.size; simpa only [World.size_alloc] using this)
    have B16 := hide (B15.out.trans (hb16.mono B15.out.size))
    have Q0 := Q0.below hb16 Q0.lt
    have Pw0 := Pw0.below hb16 Pw0.lt
    have Pg0 := Pg0.below hb16 Pg0.lt
    have Ph0 := Ph0.below hb16 Ph0.lt
    have Ow0 := hide (Ow0.out.below hb16 Nw0.out.lt)
    have Nw0 := hide (Nw0.out.below hb16 Nw0.out.lt)
    have Og0 := hide (Og0.out.below hb16 Ng0.out.lt)
    have Ng0 := hide (Ng0.out.below hb16 Ng0.out.lt)
    have Oh0 := hide (Oh0.out.below hb16 Nh0.out.lt)
    have Nh0 := hide (Nh0.out.below hb16 Nh0.out.lt)
    clear hb16
    have c16_Q0_0 := Q0.cell 0
    have c16_Q0_1 := Q0.cell 1
    have c16_Q0_2 := Q0.cell 2
    have c16_Pw0_0 := Pw0.cell 0
    have c16_Pw0_1 := Pw0.cell 1
    have c16_Pw0_2 := Pw0.cell 2
    have c16_Pw0_3 := Pw0.cell 3
    have c16_Pw0_4 := Pw0.cell 4
    have c16_Pg0_0 := Pg0.cell 0
    have c16_Pg0_1 := Pg0.cell 1
    have c16_Pg0_2 := Pg0.cell 2
    have c16_Pg0_3 := Pg0.cell 3
    have c16_Pg0_4 := Pg0.cell 4
    have c16_Ph0_0 := Ph0.cell 0
    have c16_Ph0_1 := Ph0.cell 1
    have c16_Ph0_2 := Ph0.cell 2
    have c16_Ph0_3 := Ph0.cell 3
    have c16_Ph0_4 := Ph0.cell 4
    have lt16_Q0 := Q0.lt
    have lt16_Pw0 := Pw0.lt
    have lt16_Pg0 := Pg0.lt
    have lt16_Ph0 := Ph0.lt
    go_wp2
    go_ret
    exact ⟨rfl, B16.out⟩
  · rw [szr_no hbk0]
    go_wp2
    go_ret
    exact ⟨rfl, B1.out⟩
end Go.Proofs.Ytdingkbggjehoaa
