/-
  FnExactCrewRun returns true for every input: the program answers as the reference. No condition.
-/
import Derived.Test.YtdingkbggjehoaaRunCnt
import Derived.Test.YtdingkbggjehoaaHCrewJob
import Derived.Test.YtdingkbggjehoaaHCrewTold
import Derived.Deep.RegionHeld3
set_option linter.unusedVariables false
set_option linter.unusedSimpArgs false
namespace Go.Proofs.Ytdingkbggjehoaa
open Go.ChangeShapes Go.WideShapes Go.ChangeAt Go.RowKit

theorem rowTouch {fp : List Nat} {w w2 : World} {g : Nat} {e : TypeId} {cs : List Value} (h : Row w g e cs) (ht : Touch fp w w2) (hn : g ∉ fp) : Row w2 g e cs := (ht.block _ h.lt hn).trans h

set_option maxRecDepth 100000 in
set_option maxHeartbeats 4000000 in
theorem lawFnExactCrewRun_any (w : World) (x0 : List CrewJob) (A0 : Option Addr) (m0 c0 : Nat) (fp0 : List Nat) (ho0 : Ow w (.s 2 (x0).length ((x0).flatMap CrewJob.cells)) (.slice A0 m0 c0) fp0) (hl0 : Lt fp0 w.heap.size) (n1 : Int) (hn1 : (Lit.int .i64 n1).wf = true) (n2 : Int) (hn2 : (Lit.int .i64 n2).wf = true) :
    Calls Try.prog 8 #[.slice A0 m0 c0, .int .i64 n1, .int .i64 n2] w fun e w' => e = .returned (.bool true) ∧ Below w.heap.size w w' := by
  have B0 := hide (Below.refl w.heap.size w)
  have HO0 := hide ho0
  obtain ⟨rfl, hc0, hm0⟩ := ho0.nlen
  clear ho0
  obtain ⟨r0, hr0⟩ : ∃ r, r = runOf x0 n1 n2 := ⟨_, rfl⟩
  have HR0 := hide hr0
  clear hr0
  go_enter Try.func8, Try.ntmps8
  -- boxes of the parameters
  go_wp2_with fail
  refine (szCrewJobS_any x0 _ _ _ _ _ _ (HO0.out.below B0.out hl0) (hl0.up B0.out) (by omega) (by omega)).mono ?_
  rintro e u1 ⟨rfl, hb1⟩
  have S1 := hide (show w.heap.size ≤ u1.heap.size from by have := hb1.size; simpa only [World.size_alloc] using this)
  have B1 := hide (B0.out.trans (hb1.mono B0.out.size))
  clear hb1
  by_cases hbk0 : ((CrewJob.bulkL x0 : Nat) : Int) ≤ (1048576 : Int)
  · rw [szr_yes hbk0]
    have hb0 : r0.cntTop ≤ 2520 := by rw [HR0.out]; exact runOf_cntTop x0 n1 n2
    have hx0 := CrewJob.cntS_bulk x0
    go_wp2_with fail
    refine (toCrewJobS_any x0 _ _ _ _ _ (HO0.out.below B1.out hl0) (hl0.up B1.out) (by omega)).mono ?_
    rintro e u2 ⟨vwt0, fwt0, rfl, ywt0, zwt0, hb2⟩
    have S2 := hide (show u1.heap.size ≤ u2.heap.size from by have := hb2.size; simpa only [World.size_alloc] using this)
    have B2 := hide (B1.out.trans (hb2.mono B1.out.size))
    have Owt0 := hide ywt0
    have Nwt0 := hide zwt0
    have Lwt0 := hide (show ∀ g ∈ fwt0, u1.heap.size ≤ g ∧ g < u2.heap.size from fun g hg => ⟨by have := (zwt0.fr g hg).1; simpa only [World.size_alloc] using this, zwt0.lt g hg⟩)
    clear ywt0 zwt0
    clear hb2
    obtain ⟨wt0A, wt0c, rfl, _, _⟩ := Owt0.out.slice
    go_wp2_with fail
    refine (specCrewRun_any x0 _ _ _ _ n1 n2 _ Owt0.out Nwt0.out.lt (by omega) hn1 hn2).mono ?_
    rintro e u3 ⟨vw0, fw0, rfl, yw0, zw0, hb3⟩
    have S3 := hide (show u2.heap.size ≤ u3.heap.size from by have := hb3.size; simpa only [World.size_alloc] using this)
    have B3 := hide (B2.out.trans (hb3.mono B2.out.size))
    have Owt0 := hide (Owt0.out.below hb3 Nwt0.out.lt)
    have Nwt0 := hide (Nwt0.out.below hb3 Nwt0.out.lt)
    clear hb3
    rw [← HR0.out] at yw0
    have Ow0 := hide yw0
    have Nw0 := hide zw0
    have Lw0 := hide (show ∀ g ∈ fw0, u2.heap.size ≤ g ∧ g < u3.heap.size from fun g hg => ⟨by have := (zw0.fr g hg).1; simpa only [World.size_alloc] using this, zw0.lt g hg⟩)
    clear yw0 zw0
    have Tw0 := Ow0.out
    obtain ⟨w0A1, w0c1, w0A2, w0c2, w0f1, w0f2, rfl, w0o1, w0o2, w0w3, w0w4, w0w5, w0ef⟩ := Tw0.oCrewTold
    clear Tw0 w0o1 w0o2
    have hAPw0 : Below u3.heap.size u3 (u3.alloc (.cells #[.bool r0.ok, .slice w0A1 r0.items.length w0c1, .slice w0A2 r0.dead.length w0c2, .int .i64 r0.jobs, .int .i64 r0.steps, .int .i64 r0.ops] 60)) := (Below.refl _ _).alloc (Nat.le_refl _) _
    have BPw0 := hide (B3.out.trans (hAPw0.mono B3.out.size))
    have Ow0 := hide (Ow0.out.below hAPw0 Nw0.out.lt)
    have Nw0 := hide (Nw0.out.below hAPw0 Nw0.out.lt)
    have Pw0 : Row (u3.alloc (.cells #[.bool r0.ok, .slice w0A1 r0.items.length w0c1, .slice w0A2 r0.dead.length w0c2, .int .i64 r0.jobs, .int .i64 r0.steps, .int .i64 r0.ops] 60)) u3.heap.size 60 [.bool r0.ok, .slice w0A1 r0.items.length w0c1, .slice w0A2 r0.dead.length w0c2, .int .i64 r0.jobs, .int .i64 r0.steps, .int .i64 r0.ops] := Row.new u3 _ _
    clear hAPw0
    have c3_Pw0_0 := Pw0.cell 0
    have c3_Pw0_1 := Pw0.cell 1
    have c3_Pw0_2 := Pw0.cell 2
    have c3_Pw0_3 := Pw0.cell 3
    have c3_Pw0_4 := Pw0.cell 4
    have c3_Pw0_5 := Pw0.cell 5
    have lt3_Pw0 := Pw0.lt
    go_wp2_with fail
    refine (toCrewJobS_any x0 _ _ _ _ _ (HO0.out.below BPw0.out hl0) (hl0.up BPw0.out) (by omega)).mono ?_
    rintro e u4 ⟨vx0, fx0, rfl, yx0, zx0, hb4⟩
    clear c3_Pw0_0 c3_Pw0_1 c3_Pw0_2 c3_Pw0_3 c3_Pw0_4 c3_Pw0_5 lt3_Pw0
    have S4 := hide (show u3.heap.size + 1 ≤ u4.heap.size from by have := hb4.size; simpa only [World.size_alloc] using this)
    have B4 := hide (BPw0.out.trans (hb4.mono BPw0.out.size))
    have Pw0 := Pw0.below hb4 Pw0.lt
    have Ow0 := hide (Ow0.out.below hb4 Nw0.out.lt)
    have Nw0 := hide (Nw0.out.below hb4 Nw0.out.lt)
    have Ox0 := hide yx0
    have Nx0 := hide zx0
    have Lx0 := hide (show ∀ g ∈ fx0, u3.heap.size + 1 ≤ g ∧ g < u4.heap.size from fun g hg => ⟨by have := (zx0.fr g hg).1; simpa only [World.size_alloc] using this, zx0.lt g hg⟩)
    clear yx0 zx0
    clear hb4
    obtain ⟨x0A, x0c, rfl, _, _⟩ := Ox0.out.slice
    have c4_Pw0_0 := Pw0.cell 0
    have c4_Pw0_1 := Pw0.cell 1
    have c4_Pw0_2 := Pw0.cell 2
    have c4_Pw0_3 := Pw0.cell 3
    have c4_Pw0_4 := Pw0.cell 4
    have c4_Pw0_5 := Pw0.cell 5
    have lt4_Pw0 := Pw0.lt
    go_wp2_with fail
    refine (implCrewRun_any x0 _ _ _ _ n1 n2 _ Ox0.out Nx0.out.lt (by omega) hn1 hn2).mono ?_
    rintro e u5 ⟨vg0, fg0, rfl, yg0, zg0, hb5⟩
    clear c4_Pw0_0 c4_Pw0_1 c4_Pw0_2 c4_Pw0_3 c4_Pw0_4 c4_Pw0_5 lt4_Pw0
    have S5 := hide (show u4.heap.size ≤ u5.heap.size from by have := hb5.size; simpa only [World.size_alloc] using this)
    have B5 := hide (B4.out.trans (hb5.mono B4.out.size))
    have Pw0 := Pw0.below hb5 Pw0.lt
    have Ow0 := hide (Ow0.out.below hb5 Nw0.out.lt)
    have Nw0 := hide (Nw0.out.below hb5 Nw0.out.lt)
    have Ox0 := hide (Ox0.out.below hb5 Nx0.out.lt)
    have Nx0 := hide (Nx0.out.below hb5 Nx0.out.lt)
    clear hb5
    rw [← HR0.out] at yg0
    have Og0 := hide yg0
    have Ng0 := hide zg0
    have Lg0 := hide (show ∀ g ∈ fg0, u4.heap.size ≤ g ∧ g < u5.heap.size from fun g hg => ⟨by have := (zg0.fr g hg).1; simpa only [World.size_alloc] using this, zg0.lt g hg⟩)
    clear yg0 zg0
    have Tg0 := Og0.out
    obtain ⟨g0A1, g0c1, g0A2, g0c2, g0f1, g0f2, rfl, g0o1, g0o2, g0w3, g0w4, g0w5, g0ef⟩ := Tg0.oCrewTold
    clear Tg0 g0o1 g0o2
    have hAPg0 : Below u5.heap.size u5 (u5.alloc (.cells #[.bool r0.ok, .slice g0A1 r0.items.length g0c1, .slice g0A2 r0.dead.length g0c2, .int .i64 r0.jobs, .int .i64 r0.steps, .int .i64 r0.ops] 60)) := (Below.refl _ _).alloc (Nat.le_refl _) _
    have BPg0 := hide (B5.out.trans (hAPg0.mono B5.out.size))
    have Pw0 := Pw0.below hAPg0 Pw0.lt
    have Ow0 := hide (Ow0.out.below hAPg0 Nw0.out.lt)
    have Nw0 := hide (Nw0.out.below hAPg0 Nw0.out.lt)
    have Ox0 := hide (Ox0.out.below hAPg0 Nx0.out.lt)
    have Nx0 := hide (Nx0.out.below hAPg0 Nx0.out.lt)
    have Og0 := hide (Og0.out.below hAPg0 Ng0.out.lt)
    have Ng0 := hide (Ng0.out.below hAPg0 Ng0.out.lt)
    have Pg0 : Row (u5.alloc (.cells #[.bool r0.ok, .slice g0A1 r0.items.length g0c1, .slice g0A2 r0.dead.length g0c2, .int .i64 r0.jobs, .int .i64 r0.steps, .int .i64 r0.ops] 60)) u5.heap.size 60 [.bool r0.ok, .slice g0A1 r0.items.length g0c1, .slice g0A2 r0.dead.length g0c2, .int .i64 r0.jobs, .int .i64 r0.steps, .int .i64 r0.ops] := Row.new u5 _ _
    clear hAPg0
    have c5_Pw0_0 := Pw0.cell 0
    have c5_Pw0_1 := Pw0.cell 1
    have c5_Pw0_2 := Pw0.cell 2
    have c5_Pw0_3 := Pw0.cell 3
    have c5_Pw0_4 := Pw0.cell 4
    have c5_Pw0_5 := Pw0.cell 5
    have c5_Pg0_0 := Pg0.cell 0
    have c5_Pg0_1 := Pg0.cell 1
    have c5_Pg0_2 := Pg0.cell 2
    have c5_Pg0_3 := Pg0.cell 3
    have c5_Pg0_4 := Pg0.cell 4
    have c5_Pg0_5 := Pg0.cell 5
    have lt5_Pw0 := Pw0.lt
    have lt5_Pg0 := Pg0.lt
    go_wp2_with fail
    refine (eqCrewTold_any r0 _ _ _ _ _ Og0.out Ow0.out Ng0.out.lt Nw0.out.lt).mono ?_
    rintro e u6 ⟨rfl, hb6⟩
    clear c5_Pw0_0 c5_Pw0_1 c5_Pw0_2 c5_Pw0_3 c5_Pw0_4 c5_Pw0_5 c5_Pg0_0 c5_Pg0_1 c5_Pg0_2 c5_Pg0_3 c5_Pg0_4 c5_Pg0_5 lt5_Pw0 lt5_Pg0
    have S6 := hide (show u5.heap.size + 1 ≤ u6.heap.size from by have := hb6.size; simpa only [World.size_alloc] using this)
    have B6 := hide (BPg0.out.trans (hb6.mono BPg0.out.size))
    have Pw0 := Pw0.below hb6 Pw0.lt
    have Pg0 := Pg0.below hb6 Pg0.lt
    have Ow0 := hide (Ow0.out.below hb6 Nw0.out.lt)
    have Nw0 := hide (Nw0.out.below hb6 Nw0.out.lt)
    have Ox0 := hide (Ox0.out.below hb6 Nx0.out.lt)
    have Nx0 := hide (Nx0.out.below hb6 Nx0.out.lt)
    have Og0 := hide (Og0.out.below hb6 Ng0.out.lt)
    have Ng0 := hide (Ng0.out.below hb6 Ng0.out.lt)
    clear hb6
    have c6_Pw0_0 := Pw0.cell 0
    have c6_Pw0_1 := Pw0.cell 1
    have c6_Pw0_2 := Pw0.cell 2
    have c6_Pw0_3 := Pw0.cell 3
    have c6_Pw0_4 := Pw0.cell 4
    have c6_Pw0_5 := Pw0.cell 5
    have c6_Pg0_0 := Pg0.cell 0
    have c6_Pg0_1 := Pg0.cell 1
    have c6_Pg0_2 := Pg0.cell 2
    have c6_Pg0_3 := Pg0.cell 3
    have c6_Pg0_4 := Pg0.cell 4
    have c6_Pg0_5 := Pg0.cell 5
    have lt6_Pw0 := Pw0.lt
    have lt6_Pg0 := Pg0.lt
    go_wp2_with fail
    refine (toCrewJobS_any x0 _ _ _ _ _ (HO0.out.below B6.out hl0) (hl0.up B6.out) (by omega)).mono ?_
    rintro e u7 ⟨ve0, fe0, rfl, ye0, ze0, hb7⟩
    clear c6_Pw0_0 c6_Pw0_1 c6_Pw0_2 c6_Pw0_3 c6_Pw0_4 c6_Pw0_5 c6_Pg0_0 c6_Pg0_1 c6_Pg0_2 c6_Pg0_3 c6_Pg0_4 c6_Pg0_5 lt6_Pw0 lt6_Pg0
    have S7 := hide (show u6.heap.size ≤ u7.heap.size from by have := hb7.size; simpa only [World.size_alloc] using this)
    have B7 := hide (B6.out.trans (hb7.mono B6.out.size))
    have Pw0 := Pw0.below hb7 Pw0.lt
    have Pg0 := Pg0.below hb7 Pg0.lt
    have Ow0 := hide (Ow0.out.below hb7 Nw0.out.lt)
    have Nw0 := hide (Nw0.out.below hb7 Nw0.out.lt)
    have Ox0 := hide (Ox0.out.below hb7 Nx0.out.lt)
    have Nx0 := hide (Nx0.out.below hb7 Nx0.out.lt)
    have Og0 := hide (Og0.out.below hb7 Ng0.out.lt)
    have Ng0 := hide (Ng0.out.below hb7 Ng0.out.lt)
    have Oe0 := hide ye0
    have Ne0 := hide ze0
    have Le0 := hide (show ∀ g ∈ fe0, u6.heap.size ≤ g ∧ g < u7.heap.size from fun g hg => ⟨by have := (ze0.fr g hg).1; simpa only [World.size_alloc] using this, ze0.lt g hg⟩)
    clear ye0 ze0
    clear hb7
    obtain ⟨e0A, e0c, rfl, _, _⟩ := Oe0.out.slice
    have lt7_Pw0 := Pw0.lt
    have lt7_Pg0 := Pg0.lt
    go_wp2_with fail
    refine (eqCrewJobS_any x0 _ _ _ _ _ _ _ _ _ Ox0.out Oe0.out Nx0.out.lt Ne0.out.lt).mono ?_
    rintro e u8 ⟨rfl, hb8⟩
    clear lt7_Pw0 lt7_Pg0
    have S8 := hide (show u7.heap.size ≤ u8.heap.size from by have := hb8.size; simpa only [World.size_alloc] using this)
    have B8 := hide (B7.out.trans (hb8.mono B7.out.size))
    have Pw0 := Pw0.below hb8 Pw0.lt
    have Pg0 := Pg0.below hb8 Pg0.lt
    have Ow0 := hide (Ow0.out.below hb8 Nw0.out.lt)
    have Nw0 := hide (Nw0.out.below hb8 Nw0.out.lt)
    have Ox0 := hide (Ox0.out.below hb8 Nx0.out.lt)
    have Nx0 := hide (Nx0.out.below hb8 Nx0.out.lt)
    have Og0 := hide (Og0.out.below hb8 Ng0.out.lt)
    have Ng0 := hide (Ng0.out.below hb8 Ng0.out.lt)
    have Oe0 := hide (Oe0.out.below hb8 Ne0.out.lt)
    have Ne0 := hide (Ne0.out.below hb8 Ne0.out.lt)
    clear hb8
    have c8_Pw0_0 := Pw0.cell 0
    have c8_Pw0_1 := Pw0.cell 1
    have c8_Pw0_2 := Pw0.cell 2
    have c8_Pw0_3 := Pw0.cell 3
    have c8_Pw0_4 := Pw0.cell 4
    have c8_Pw0_5 := Pw0.cell 5
    have c8_Pg0_0 := Pg0.cell 0
    have c8_Pg0_1 := Pg0.cell 1
    have c8_Pg0_2 := Pg0.cell 2
    have c8_Pg0_3 := Pg0.cell 3
    have c8_Pg0_4 := Pg0.cell 4
    have c8_Pg0_5 := Pg0.cell 5
    have lt8_Pw0 := Pw0.lt
    have lt8_Pg0 := Pg0.lt
    go_wp2_with fail
    refine (markCrewJobS_any x0 _ _ _ fx0 _ _ (1) _ (by omega) Ox0.out Nx0.out (by omega)).mono ?_
    rintro e u9 ⟨lx0, rfl, qx0, ox0, kx0, ht9⟩
    clear c8_Pw0_0 c8_Pw0_1 c8_Pw0_2 c8_Pw0_3 c8_Pw0_4 c8_Pw0_5 c8_Pg0_0 c8_Pg0_1 c8_Pg0_2 c8_Pg0_3 c8_Pg0_4 c8_Pg0_5 lt8_Pw0 lt8_Pg0
    have S9 := hide (show u8.heap.size ≤ u9.heap.size from ht9.size)
    have B9 := hide (B8.out.trans (ht9.to_below B8.out.size (fun g hg => by have := Lx0.out g hg; have := S1.out; have := S2.out; have := S3.out; have := S4.out; have := S5.out; have := S6.out; have := S7.out; have := S8.out; omega)))
    have Pw0 := rowTouch Pw0 ht9 (fun hg => by have := Lx0.out _ hg; have := S1.out; have := S2.out; have := S3.out; have := S4.out; have := S5.out; have := S6.out; have := S7.out; have := S8.out; omega)
    have Pg0 := rowTouch Pg0 ht9 (fun hg => by have := Lx0.out _ hg; have := S1.out; have := S2.out; have := S3.out; have := S4.out; have := S5.out; have := S6.out; have := S7.out; have := S8.out; omega)
    have Ow0 := hide (Ow0.out.touch ht9 Nw0.out.lt (fun g hg hg2 => by have := Lw0.out g hg; have := Lx0.out g hg2; have := S1.out; have := S2.out; have := S3.out; have := S4.out; have := S5.out; have := S6.out; have := S7.out; have := S8.out; omega))
    have Nw0 := hide (ht9.new Nw0.out)
    have Og0 := hide (Og0.out.touch ht9 Ng0.out.lt (fun g hg hg2 => by have := Lg0.out g hg; have := Lx0.out g hg2; have := S1.out; have := S2.out; have := S3.out; have := S4.out; have := S5.out; have := S6.out; have := S7.out; have := S8.out; omega))
    have Ng0 := hide (ht9.new Ng0.out)
    have Ox0 := hide ox0
    have Nx0 := hide (ht9.new Nx0.out)
    have Kx0 := hide kx0
    clear ox0 kx0 ht9 qx0
    have c9_Pw0_0 := Pw0.cell 0
    have c9_Pw0_1 := Pw0.cell 1
    have c9_Pw0_2 := Pw0.cell 2
    have c9_Pw0_3 := Pw0.cell 3
    have c9_Pw0_4 := Pw0.cell 4
    have c9_Pw0_5 := Pw0.cell 5
    have c9_Pg0_0 := Pg0.cell 0
    have c9_Pg0_1 := Pg0.cell 1
    have c9_Pg0_2 := Pg0.cell 2
    have c9_Pg0_3 := Pg0.cell 3
    have c9_Pg0_4 := Pg0.cell 4
    have c9_Pg0_5 := Pg0.cell 5
    have lt9_Pw0 := Pw0.lt
    have lt9_Pg0 := Pg0.lt
    go_wp2_with fail
    refine (eqCrewTold_any r0 _ _ _ _ _ Og0.out Ow0.out Ng0.out.lt Nw0.out.lt).mono ?_
    rintro e u10 ⟨rfl, hb10⟩
    clear c9_Pw0_0 c9_Pw0_1 c9_Pw0_2 c9_Pw0_3 c9_Pw0_4 c9_Pw0_5 c9_Pg0_0 c9_Pg0_1 c9_Pg0_2 c9_Pg0_3 c9_Pg0_4 c9_Pg0_5 lt9_Pw0 lt9_Pg0
    have S10 := hide (show u9.heap.size ≤ u10.heap.size from by have := hb10.size; simpa only [World.size_alloc] using this)
    have B10 := hide (B9.out.trans (hb10.mono B9.out.size))
    have Pw0 := Pw0.below hb10 Pw0.lt
    have Pg0 := Pg0.below hb10 Pg0.lt
    have Ow0 := hide (Ow0.out.below hb10 Nw0.out.lt)
    have Nw0 := hide (Nw0.out.below hb10 Nw0.out.lt)
    have Og0 := hide (Og0.out.below hb10 Ng0.out.lt)
    have Ng0 := hide (Ng0.out.below hb10 Ng0.out.lt)
    clear hb10
    have c10_Pw0_0 := Pw0.cell 0
    have c10_Pw0_1 := Pw0.cell 1
    have c10_Pw0_2 := Pw0.cell 2
    have c10_Pw0_3 := Pw0.cell 3
    have c10_Pw0_4 := Pw0.cell 4
    have c10_Pw0_5 := Pw0.cell 5
    have c10_Pg0_0 := Pg0.cell 0
    have c10_Pg0_1 := Pg0.cell 1
    have c10_Pg0_2 := Pg0.cell 2
    have c10_Pg0_3 := Pg0.cell 3
    have c10_Pg0_4 := Pg0.cell 4
    have c10_Pg0_5 := Pg0.cell 5
    have lt10_Pw0 := Pw0.lt
    have lt10_Pg0 := Pg0.lt
    go_wp2_with fail
    refine (markCrewTold_any r0 _ fg0 _ _ (1) _ (by omega) Og0.out Ng0.out (by omega)).mono ?_
    rintro e u11 ⟨lg0, rfl, og0, kg0, ht11⟩
    clear c10_Pw0_0 c10_Pw0_1 c10_Pw0_2 c10_Pw0_3 c10_Pw0_4 c10_Pw0_5 c10_Pg0_0 c10_Pg0_1 c10_Pg0_2 c10_Pg0_3 c10_Pg0_4 c10_Pg0_5 lt10_Pw0 lt10_Pg0
    have S11 := hide (show u10.heap.size ≤ u11.heap.size from ht11.size)
    have B11 := hide (B10.out.trans (ht11.to_below B10.out.size (fun g hg => by have := Lg0.out g hg; have := S1.out; have := S2.out; have := S3.out; have := S4.out; have := S5.out; have := S6.out; have := S7.out; have := S8.out; have := S9.out; have := S10.out; omega)))
    have Pw0 := rowTouch Pw0 ht11 (fun hg => by have := Lg0.out _ hg; have := S1.out; have := S2.out; have := S3.out; have := S4.out; have := S5.out; have := S6.out; have := S7.out; have := S8.out; have := S9.out; have := S10.out; omega)
    have Pg0 := rowTouch Pg0 ht11 (fun hg => by have := Lg0.out _ hg; have := S1.out; have := S2.out; have := S3.out; have := S4.out; have := S5.out; have := S6.out; have := S7.out; have := S8.out; have := S9.out; have := S10.out; omega)
    have Ow0 := hide (Ow0.out.touch ht11 Nw0.out.lt (fun g hg hg2 => by have := Lw0.out g hg; have := Lg0.out g hg2; have := S1.out; have := S2.out; have := S3.out; have := S4.out; have := S5.out; have := S6.out; have := S7.out; have := S8.out; have := S9.out; have := S10.out; omega))
    have Nw0 := hide (ht11.new Nw0.out)
    have Og0 := hide og0
    have Ng0 := hide (ht11.new Ng0.out)
    have Kg0 := hide kg0
    clear og0 kg0 ht11
    have c11_Pw0_0 := Pw0.cell 0
    have c11_Pw0_1 := Pw0.cell 1
    have c11_Pw0_2 := Pw0.cell 2
    have c11_Pw0_3 := Pw0.cell 3
    have c11_Pw0_4 := Pw0.cell 4
    have c11_Pw0_5 := Pw0.cell 5
    have c11_Pg0_0 := Pg0.cell 0
    have c11_Pg0_1 := Pg0.cell 1
    have c11_Pg0_2 := Pg0.cell 2
    have c11_Pg0_3 := Pg0.cell 3
    have c11_Pg0_4 := Pg0.cell 4
    have c11_Pg0_5 := Pg0.cell 5
    have lt11_Pw0 := Pw0.lt
    have lt11_Pg0 := Pg0.lt
    go_wp2_with fail
    refine (heldCrewTold_any lg0 _ fg0 _ (1) (1 + r0.cntTop) _ (by omega) Og0.out Ng0.out.lt Kg0.out (by omega)).mono ?_
    rintro e u12 ⟨rfl, hb12⟩
    clear c11_Pw0_0 c11_Pw0_1 c11_Pw0_2 c11_Pw0_3 c11_Pw0_4 c11_Pw0_5 c11_Pg0_0 c11_Pg0_1 c11_Pg0_2 c11_Pg0_3 c11_Pg0_4 c11_Pg0_5 lt11_Pw0 lt11_Pg0
    have S12 := hide (show u11.heap.size ≤ u12.heap.size from by have := hb12.size; simpa only [World.size_alloc] using this)
    have B12 := hide (B11.out.trans (hb12.mono B11.out.size))
    have Pw0 := Pw0.below hb12 Pw0.lt
    have Pg0 := Pg0.below hb12 Pg0.lt
    have Ow0 := hide (Ow0.out.below hb12 Nw0.out.lt)
    have Nw0 := hide (Nw0.out.below hb12 Nw0.out.lt)
    have Og0 := hide (Og0.out.below hb12 Ng0.out.lt)
    have Ng0 := hide (Ng0.out.below hb12 Ng0.out.lt)
    clear hb12
    have c12_Pw0_0 := Pw0.cell 0
    have c12_Pw0_1 := Pw0.cell 1
    have c12_Pw0_2 := Pw0.cell 2
    have c12_Pw0_3 := Pw0.cell 3
    have c12_Pw0_4 := Pw0.cell 4
    have c12_Pw0_5 := Pw0.cell 5
    have c12_Pg0_0 := Pg0.cell 0
    have c12_Pg0_1 := Pg0.cell 1
    have c12_Pg0_2 := Pg0.cell 2
    have c12_Pg0_3 := Pg0.cell 3
    have c12_Pg0_4 := Pg0.cell 4
    have c12_Pg0_5 := Pg0.cell 5
    have lt12_Pw0 := Pw0.lt
    have lt12_Pg0 := Pg0.lt
    go_wp2_with fail
    refine (toCrewJobS_any x0 _ _ _ _ _ (HO0.out.below B12.out hl0) (hl0.up B12.out) (by omega)).mono ?_
    rintro e u13 ⟨vht0, fht0, rfl, yht0, zht0, hb13⟩
    clear c12_Pw0_0 c12_Pw0_1 c12_Pw0_2 c12_Pw0_3 c12_Pw0_4 c12_Pw0_5 c12_Pg0_0 c12_Pg0_1 c12_Pg0_2 c12_Pg0_3 c12_Pg0_4 c12_Pg0_5 lt12_Pw0 lt12_Pg0
    have S13 := hide (show u12.heap.size ≤ u13.heap.size from by have := hb13.size; simpa only [World.size_alloc] using this)
    have B13 := hide (B12.out.trans (hb13.mono B12.out.size))
    have Pw0 := Pw0.below hb13 Pw0.lt
    have Pg0 := Pg0.below hb13 Pg0.lt
    have Ow0 := hide (Ow0.out.below hb13 Nw0.out.lt)
    have Nw0 := hide (Nw0.out.below hb13 Nw0.out.lt)
    have Og0 := hide (Og0.out.below hb13 Ng0.out.lt)
    have Ng0 := hide (Ng0.out.below hb13 Ng0.out.lt)
    have Oht0 := hide yht0
    have Nht0 := hide zht0
    have Lht0 := hide (show ∀ g ∈ fht0, u12.heap.size ≤ g ∧ g < u13.heap.size from fun g hg => ⟨by have := (zht0.fr g hg).1; simpa only [World.size_alloc] using this, zht0.lt g hg⟩)
    clear yht0 zht0
    clear hb13
    obtain ⟨ht0A, ht0c, rfl, _, _⟩ := Oht0.out.slice
    have lt13_Pw0 := Pw0.lt
    have lt13_Pg0 := Pg0.lt
    go_wp2_with fail
    refine (implCrewRun_any x0 _ _ _ _ n1 n2 _ Oht0.out Nht0.out.lt (by omega) hn1 hn2).mono ?_
    rintro e u14 ⟨vh0, fh0, rfl, yh0, zh0, hb14⟩
    clear lt13_Pw0 lt13_Pg0
    have S14 := hide (show u13.heap.size ≤ u14.heap.size from by have := hb14.size; simpa only [World.size_alloc] using this)
    have B14 := hide (B13.out.trans (hb14.mono B13.out.size))
    have Pw0 := Pw0.below hb14 Pw0.lt
    have Pg0 := Pg0.below hb14 Pg0.lt
    have Ow0 := hide (Ow0.out.below hb14 Nw0.out.lt)
    have Nw0 := hide (Nw0.out.below hb14 Nw0.out.lt)
    have Og0 := hide (Og0.out.below hb14 Ng0.out.lt)
    have Ng0 := hide (Ng0.out.below hb14 Ng0.out.lt)
    have Oht0 := hide (Oht0.out.below hb14 Nht0.out.lt)
    have Nht0 := hide (Nht0.out.below hb14 Nht0.out.lt)
    clear hb14
    rw [← HR0.out] at yh0
    have Oh0 := hide yh0
    have Nh0 := hide zh0
    have Lh0 := hide (show ∀ g ∈ fh0, u13.heap.size ≤ g ∧ g < u14.heap.size from fun g hg => ⟨by have := (zh0.fr g hg).1; simpa only [World.size_alloc] using this, zh0.lt g hg⟩)
    clear yh0 zh0
    have Th0 := Oh0.out
    obtain ⟨h0A1, h0c1, h0A2, h0c2, h0f1, h0f2, rfl, h0o1, h0o2, h0w3, h0w4, h0w5, h0ef⟩ := Th0.oCrewTold
    clear Th0 h0o1 h0o2
    have hAPh0 : Below u14.heap.size u14 (u14.alloc (.cells #[.bool r0.ok, .slice h0A1 r0.items.length h0c1, .slice h0A2 r0.dead.length h0c2, .int .i64 r0.jobs, .int .i64 r0.steps, .int .i64 r0.ops] 60)) := (Below.refl _ _).alloc (Nat.le_refl _) _
    have BPh0 := hide (B14.out.trans (hAPh0.mono B14.out.size))
    have Pw0 := Pw0.below hAPh0 Pw0.lt
    have Pg0 := Pg0.below hAPh0 Pg0.lt
    have Ow0 := hide (Ow0.out.below hAPh0 Nw0.out.lt)
    have Nw0 := hide (Nw0.out.below hAPh0 Nw0.out.lt)
    have Og0 := hide (Og0.out.below hAPh0 Ng0.out.lt)
    have Ng0 := hide (Ng0.out.below hAPh0 Ng0.out.lt)
    have Oh0 := hide (Oh0.out.below hAPh0 Nh0.out.lt)
    have Nh0 := hide (Nh0.out.below hAPh0 Nh0.out.lt)
    have Ph0 : Row (u14.alloc (.cells #[.bool r0.ok, .slice h0A1 r0.items.length h0c1, .slice h0A2 r0.dead.length h0c2, .int .i64 r0.jobs, .int .i64 r0.steps, .int .i64 r0.ops] 60)) u14.heap.size 60 [.bool r0.ok, .slice h0A1 r0.items.length h0c1, .slice h0A2 r0.dead.length h0c2, .int .i64 r0.jobs, .int .i64 r0.steps, .int .i64 r0.ops] := Row.new u14 _ _
    clear hAPh0
    have c14_Pw0_0 := Pw0.cell 0
    have c14_Pw0_1 := Pw0.cell 1
    have c14_Pw0_2 := Pw0.cell 2
    have c14_Pw0_3 := Pw0.cell 3
    have c14_Pw0_4 := Pw0.cell 4
    have c14_Pw0_5 := Pw0.cell 5
    have c14_Pg0_0 := Pg0.cell 0
    have c14_Pg0_1 := Pg0.cell 1
    have c14_Pg0_2 := Pg0.cell 2
    have c14_Pg0_3 := Pg0.cell 3
    have c14_Pg0_4 := Pg0.cell 4
    have c14_Pg0_5 := Pg0.cell 5
    have c14_Ph0_0 := Ph0.cell 0
    have c14_Ph0_1 := Ph0.cell 1
    have c14_Ph0_2 := Ph0.cell 2
    have c14_Ph0_3 := Ph0.cell 3
    have c14_Ph0_4 := Ph0.cell 4
    have c14_Ph0_5 := Ph0.cell 5
    have lt14_Pw0 := Pw0.lt
    have lt14_Pg0 := Pg0.lt
    have lt14_Ph0 := Ph0.lt
    go_wp2_with fail
    refine (eqCrewTold_any r0 _ _ _ _ _ Oh0.out Ow0.out Nh0.out.lt Nw0.out.lt).mono ?_
    rintro e u15 ⟨rfl, hb15⟩
    clear c14_Pw0_0 c14_Pw0_1 c14_Pw0_2 c14_Pw0_3 c14_Pw0_4 c14_Pw0_5 c14_Pg0_0 c14_Pg0_1 c14_Pg0_2 c14_Pg0_3 c14_Pg0_4 c14_Pg0_5 c14_Ph0_0 c14_Ph0_1 c14_Ph0_2 c14_Ph0_3 c14_Ph0_4 c14_Ph0_5 lt14_Pw0 lt14_Pg0 lt14_Ph0
    have S15 := hide (show u14.heap.size + 1 ≤ u15.heap.size from by have := hb15.size; simpa only [World.size_alloc] using this)
    have B15 := hide (BPh0.out.trans (hb15.mono BPh0.out.size))
    have Pw0 := Pw0.below hb15 Pw0.lt
    have Pg0 := Pg0.below hb15 Pg0.lt
    have Ph0 := Ph0.below hb15 Ph0.lt
    have Ow0 := hide (Ow0.out.below hb15 Nw0.out.lt)
    have Nw0 := hide (Nw0.out.below hb15 Nw0.out.lt)
    have Og0 := hide (Og0.out.below hb15 Ng0.out.lt)
    have Ng0 := hide (Ng0.out.below hb15 Ng0.out.lt)
    have Oh0 := hide (Oh0.out.below hb15 Nh0.out.lt)
    have Nh0 := hide (Nh0.out.below hb15 Nh0.out.lt)
    clear hb15
    have c15_Pw0_0 := Pw0.cell 0
    have c15_Pw0_1 := Pw0.cell 1
    have c15_Pw0_2 := Pw0.cell 2
    have c15_Pw0_3 := Pw0.cell 3
    have c15_Pw0_4 := Pw0.cell 4
    have c15_Pw0_5 := Pw0.cell 5
    have c15_Pg0_0 := Pg0.cell 0
    have c15_Pg0_1 := Pg0.cell 1
    have c15_Pg0_2 := Pg0.cell 2
    have c15_Pg0_3 := Pg0.cell 3
    have c15_Pg0_4 := Pg0.cell 4
    have c15_Pg0_5 := Pg0.cell 5
    have c15_Ph0_0 := Ph0.cell 0
    have c15_Ph0_1 := Ph0.cell 1
    have c15_Ph0_2 := Ph0.cell 2
    have c15_Ph0_3 := Ph0.cell 3
    have c15_Ph0_4 := Ph0.cell 4
    have c15_Ph0_5 := Ph0.cell 5
    have lt15_Pw0 := Pw0.lt
    have lt15_Pg0 := Pg0.lt
    have lt15_Ph0 := Ph0.lt
    go_wp2_with fail
    refine (heldCrewTold_any lg0 _ fg0 _ (1) (1 + r0.cntTop) _ (by omega) Og0.out Ng0.out.lt Kg0.out (by omega)).mono ?_
    rintro e u16 ⟨rfl, hb16⟩
    clear c15_Pw0_0 c15_Pw0_1 c15_Pw0_2 c15_Pw0_3 c15_Pw0_4 c15_Pw0_5 c15_Pg0_0 c15_Pg0_1 c15_Pg0_2 c15_Pg0_3 c15_Pg0_4 c15_Pg0_5 c15_Ph0_0 c15_Ph0_1 c15_Ph0_2 c15_Ph0_3 c15_Ph0_4 c15_Ph0_5 lt15_Pw0 lt15_Pg0 lt15_Ph0
    have S16 := hide (show u15.heap.size ≤ u16.heap.size from by have := hb16.size; simpa only [World.size_alloc] using this)
    have B16 := hide (B15.out.trans (hb16.mono B15.out.size))
    have Pw0 := Pw0.below hb16 Pw0.lt
    have Pg0 := Pg0.below hb16 Pg0.lt
    have Ph0 := Ph0.below hb16 Ph0.lt
    have Ow0 := hide (Ow0.out.below hb16 Nw0.out.lt)
    have Nw0 := hide (Nw0.out.below hb16 Nw0.out.lt)
    have Og0 := hide (Og0.out.below hb16 Ng0.out.lt)
    have Ng0 := hide (Ng0.out.below hb16 Ng0.out.lt)
    have Oh0 := hide (Oh0.out.below hb16 Nh0.out.lt)
    have Nh0 := hide (Nh0.out.below hb16 Nh0.out.lt)
    clear hb16
    have c16_Pw0_0 := Pw0.cell 0
    have c16_Pw0_1 := Pw0.cell 1
    have c16_Pw0_2 := Pw0.cell 2
    have c16_Pw0_3 := Pw0.cell 3
    have c16_Pw0_4 := Pw0.cell 4
    have c16_Pw0_5 := Pw0.cell 5
    have c16_Pg0_0 := Pg0.cell 0
    have c16_Pg0_1 := Pg0.cell 1
    have c16_Pg0_2 := Pg0.cell 2
    have c16_Pg0_3 := Pg0.cell 3
    have c16_Pg0_4 := Pg0.cell 4
    have c16_Pg0_5 := Pg0.cell 5
    have c16_Ph0_0 := Ph0.cell 0
    have c16_Ph0_1 := Ph0.cell 1
    have c16_Ph0_2 := Ph0.cell 2
    have c16_Ph0_3 := Ph0.cell 3
    have c16_Ph0_4 := Ph0.cell 4
    have c16_Ph0_5 := Ph0.cell 5
    have lt16_Pw0 := Pw0.lt
    have lt16_Pg0 := Pg0.lt
    have lt16_Ph0 := Ph0.lt
    go_wp2
    go_ret
    exact ⟨rfl, B16.out⟩
  · rw [szr_no hbk0]
    go_wp2
    go_ret
    exact ⟨rfl, B1.out⟩
end Go.Proofs.Ytdingkbggjehoaa
