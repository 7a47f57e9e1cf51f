/-
  FnExactDiskCut returns true for every input: the program answers as the reference. No condition.
-/
import Derived.Test.YtdingkbggjehoaaCutCnt
import Derived.Test.YtdingkbggjehoaaHDisk
import Derived.Test.YtdingkbggjehoaaCutS
import Derived.Test.YtdingkbggjehoaaCutI
import Derived.Test.YtdingkbggjehoaaMark
import Derived.Deep.RegionHeld3
set_option linter.unusedVariables false
set_option linter.unusedSimpArgs false
namespace Go.Proofs.Ytdingkbggjehoaa
open Go.ChangeShapes Go.WideShapes Go.ChangeAt Go.RowKit

theorem rowTouch {fp : List Nat} {w w2 : World} {g : Nat} {e : TypeId} {cs : List Value} (h : Row w g e cs) (ht : Touch fp w w2) (hn : g ∉ fp) : Row w2 g e cs := (ht.block _ h.lt hn).trans h

set_option maxRecDepth 100000 in
set_option maxHeartbeats 4000000 in
theorem lawFnExactDiskCut_any (w : World) (x0 : Disk) (us0 : List Value) (fp0 : List Nat) (ho0 : OwC w x0.cells us0 fp0) (hl0 : Lt fp0 w.heap.size) (n1 : Int) (hn1 : (Lit.int .i64 n1).wf = true) (x2 : List Int) (A2 : Option Addr) (m2 c2 : Nat) (fp2 : List Nat) (ho2 : Ow w (.s 1 (x2).length ((x2).flatMap intC)) (.slice A2 m2 c2) fp2) (hl2 : Lt fp2 w.heap.size) :
    Calls Try.prog 13 #[.agg us0.toArray, .int .i64 n1, .slice A2 m2 c2] w fun e w' => e = .returned (.bool true) ∧ Below w.heap.size w w' := by
  have B0 := hide (Below.refl w.heap.size w)
  have HO0 := hide ho0
  obtain ⟨a0A1, a0c1, a0A2, a0c2, a0A3, a0c3, a0f1, a0f2, a0f3, rfl, a0o1, a0o2, a0o3, efp0⟩ := ho0.oDisk
  clear ho0 a0o1 a0o2 a0o3
  have hAQ0 : Below w.heap.size w (w.alloc (.cells #[.slice a0A1 x0.files.length a0c1, .slice a0A2 x0.names.length a0c2, .slice a0A3 x0.moves.length a0c3] 77)) := (Below.refl _ _).alloc (Nat.le_refl _) _
  have BQ0 := hide (B0.out.trans (hAQ0.mono B0.out.size))
  have Q0 : Row (w.alloc (.cells #[.slice a0A1 x0.files.length a0c1, .slice a0A2 x0.names.length a0c2, .slice a0A3 x0.moves.length a0c3] 77)) w.heap.size 77 [.slice a0A1 x0.files.length a0c1, .slice a0A2 x0.names.length a0c2, .slice a0A3 x0.moves.length a0c3] := Row.new w _ _
  clear hAQ0
  have HO2 := hide ho2
  obtain ⟨rfl, hc2, hm2⟩ := ho2.nlen
  clear ho2
  obtain ⟨r0, hr0⟩ : ∃ r, r = (x0.cutOf n1 x2) := ⟨_, rfl⟩
  have HR0 := hide hr0
  clear hr0
  by_cases hz2 : (x2.length : Int) ≤ 1048576
  · skip
    go_enter Try.func13, Try.ntmps13
    -- boxes of the parameters
    have c0_Q0_0 := Q0.cell 0
    have c0_Q0_1 := Q0.cell 1
    have c0_Q0_2 := Q0.cell 2
    have lt0_Q0 := Q0.lt
    go_wp2_with fail
    refine (szDisk_any x0 _ _ _ _ (HO0.out.below BQ0.out hl0) (hl0.up BQ0.out) (by omega) (by omega)).mono ?_
    rintro e u1 ⟨rfl, hb1⟩
    clear c0_Q0_0 c0_Q0_1 c0_Q0_2 lt0_Q0
    have S1 := hide (show w.heap.size + 1 ≤ u1.heap.size from by have := hb1.size; simpa only [World.size_alloc, size_setRow] using this)
    have B1 := hide (BQ0.out.trans (hb1.mono BQ0.out.size))
    have Q0 := Q0.below hb1 Q0.lt
    clear hb1
    have c1_Q0_0 := Q0.cell 0
    have c1_Q0_1 := Q0.cell 1
    have c1_Q0_2 := Q0.cell 2
    have lt1_Q0 := Q0.lt
    by_cases hbk0 : ((x0.bulk : Nat) : Int) ≤ (1048576 : Int)
    · rw [szr_yes hbk0]
      have hb0 : r0.cntTop ≤ 8388608 := by rw [HR0.out]; have := x0.cutOf_cnt n1 x2; omega
      have hx0 := x0.cntTop_bulk
      go_wp2_with fail
      refine (toDisk_any x0 _ _ _ (HO0.out.below B1.out hl0) (hl0.up B1.out) (by omega)).mono ?_
      rintro e u2 ⟨vwt0, fwt0, rfl, ywt0, zwt0, hb2⟩
      clear c1_Q0_0 c1_Q0_1 c1_Q0_2 lt1_Q0
      have S2 := hide (show u1.heap.size ≤ u2.heap.size from by have := hb2.size; simpa only [World.size_alloc, size_setRow] using this)
      have B2 := hide (B1.out.trans (hb2.mono B1.out.size))
      have Q0 := Q0.below hb2 Q0.lt
      have Owt0 := hide ywt0
      have Nwt0 := hide zwt0
      have Lwt0 := hide (show ∀ g ∈ fwt0, u1.heap.size ≤ g ∧ g < u2.heap.size from fun g hg => ⟨by have := (zwt0.fr g hg).1; simpa only [World.size_alloc, size_setRow] using this, zwt0.lt g hg⟩)
      clear ywt0 zwt0
      clear hb2
      have lt2_Q0 := Q0.lt
      go_wp2_with fail
      refine (toIntS_any x2 _ _ _ _ _ (HO2.out.below B2.out hl2) (hl2.up B2.out) (by omega)).mono ?_
      rintro e u3 ⟨vwt2, fwt2, rfl, ywt2, zwt2, hb3⟩
      clear lt2_Q0
      have S3 := hide (show u2.heap.size ≤ u3.heap.size from by have := hb3.size; simpa only [World.size_alloc, size_setRow] using this)
      have B3 := hide (B2.out.trans (hb3.mono B2.out.size))
      have Q0 := Q0.below hb3 Q0.lt
      have Owt0 := hide (Owt0.out.below hb3 Nwt0.out.lt)
      have Nwt0 := hide (Nwt0.out.below hb3 Nwt0.out.lt)
      have Owt2 := hide ywt2
      have Nwt2 := hide zwt2
      have Lwt2 := hide (show ∀ g ∈ fwt2, u2.heap.size ≤ g ∧ g < u3.heap.size from fun g hg => ⟨by have := (zwt2.fr g hg).1; simpa only [World.size_alloc, size_setRow] using this, zwt2.lt g hg⟩)
      clear ywt2 zwt2
      clear hb3
      obtain ⟨wt2A, wt2c, rfl, _, _⟩ := Owt2.out.slice
      have lt3_Q0 := Q0.lt
      go_wp2_with fail
      refine (specDiskCut_any x0 _ _ n1 x2 _ _ _ _ _ Owt0.out Nwt0.out.lt (by omega) hn1 Owt2.out Nwt2.out.lt (by omega)).mono ?_
      rintro e u4 ⟨vw0, fw0, rfl, yw0, zw0, hb4⟩
      clear lt3_Q0
      have S4 := hide (show u3.heap.size ≤ u4.heap.size from by have := hb4.size; simpa only [World.size_alloc, size_setRow] using this)
      have B4 := hide (B3.out.trans (hb4.mono B3.out.size))
      have Q0 := Q0.below hb4 Q0.lt
      have Owt0 := hide (Owt0.out.below hb4 Nwt0.out.lt)
      have Nwt0 := hide (Nwt0.out.below hb4 Nwt0.out.lt)
      have Owt2 := hide (Owt2.out.below hb4 Nwt2.out.lt)
      have Nwt2 := hide (Nwt2.out.below hb4 Nwt2.out.lt)
      clear hb4
      rw [← HR0.out] at yw0
      have Ow0 := hide yw0
      have Nw0 := hide zw0
      have Lw0 := hide (show ∀ g ∈ fw0, u3.heap.size ≤ g ∧ g < u4.heap.size from fun g hg => ⟨by have := (zw0.fr g hg).1; simpa only [World.size_alloc, size_setRow] using this, zw0.lt g hg⟩)
      clear yw0 zw0
      have Tw0 := Ow0.out
      obtain ⟨w0A1, w0c1, w0A2, w0c2, w0A3, w0c3, w0f1, w0f2, w0f3, rfl, w0o1, w0o2, w0o3, w0ef⟩ := Tw0.oDisk
      clear Tw0 w0o1 w0o2 w0o3
      have hAPw0 : Below u4.heap.size u4 (u4.alloc (.cells #[.slice w0A1 r0.files.length w0c1, .slice w0A2 r0.names.length w0c2, .slice w0A3 r0.moves.length w0c3] 83)) := (Below.refl _ _).alloc (Nat.le_refl _) _
      have BPw0 := hide (B4.out.trans (hAPw0.mono B4.out.size))
      have Q0 := Q0.below hAPw0 Q0.lt
      have Ow0 := hide (Ow0.out.below hAPw0 Nw0.out.lt)
      have Nw0 := hide (Nw0.out.below hAPw0 Nw0.out.lt)
      have Pw0 : Row (u4.alloc (.cells #[.slice w0A1 r0.files.length w0c1, .slice w0A2 r0.names.length w0c2, .slice w0A3 r0.moves.length w0c3] 83)) u4.heap.size 83 [.slice w0A1 r0.files.length w0c1, .slice w0A2 r0.names.length w0c2, .slice w0A3 r0.moves.length w0c3] := Row.new u4 _ _
      clear hAPw0
      have c4_Q0_0 := Q0.cell 0
      have c4_Q0_1 := Q0.cell 1
      have c4_Q0_2 := Q0.cell 2
      have c4_Pw0_0 := Pw0.cell 0
      have c4_Pw0_1 := Pw0.cell 1
      have c4_Pw0_2 := Pw0.cell 2
      have lt4_Q0 := Q0.lt
      have lt4_Pw0 := Pw0.lt
      go_wp2_with fail
      refine (toDisk_any x0 _ _ _ (HO0.out.below BPw0.out hl0) (hl0.up BPw0.out) (by omega)).mono ?_
      rintro e u5 ⟨vx0, fx0, rfl, yx0, zx0, hb5⟩
      clear c4_Q0_0 c4_Q0_1 c4_Q0_2 c4_Pw0_0 c4_Pw0_1 c4_Pw0_2 lt4_Q0 lt4_Pw0
      have S5 := hide (show u4.heap.size + 1 ≤ u5.heap.size from by have := hb5.size; simpa only [World.size_alloc, size_setRow] using this)
      have B5 := hide (BPw0.out.trans (hb5.mono BPw0.out.size))
      have Q0 := Q0.below hb5 Q0.lt
      have Pw0 := Pw0.below hb5 Pw0.lt
      have Ow0 := hide (Ow0.out.below hb5 Nw0.out.lt)
      have Nw0 := hide (Nw0.out.below hb5 Nw0.out.lt)
      have Ox0 := hide yx0
      have Nx0 := hide zx0
      have Lx0 := hide (show ∀ g ∈ fx0, u4.heap.size + 1 ≤ g ∧ g < u5.heap.size from fun g hg => ⟨by have := (zx0.fr g hg).1; simpa only [World.size_alloc, size_setRow] using this, zx0.lt g hg⟩)
      clear yx0 zx0
      clear hb5
      have Tx0 := Ox0.out
      obtain ⟨x0A1, x0c1, x0A2, x0c2, x0A3, x0c3, x0f1, x0f2, x0f3, rfl, x0o1, x0o2, x0o3, x0ef⟩ := Tx0.oDisk
      clear Tx0 x0o1 x0o2 x0o3
      have hAPx0 : Below u5.heap.size u5 (u5.alloc (.cells #[.slice x0A1 x0.files.length x0c1, .slice x0A2 x0.names.length x0c2, .slice x0A3 x0.moves.length x0c3] 83)) := (Below.refl _ _).alloc (Nat.le_refl _) _
      have BPx0 := hide (B5.out.trans (hAPx0.mono B5.out.size))
      have Q0 := Q0.below hAPx0 Q0.lt
      have Pw0 := Pw0.below hAPx0 Pw0.lt
      have Ow0 := hide (Ow0.out.below hAPx0 Nw0.out.lt)
      have Nw0 := hide (Nw0.out.below hAPx0 Nw0.out.lt)
      have Ox0 := hide (Ox0.out.below hAPx0 Nx0.out.lt)
      have Nx0 := hide (Nx0.out.below hAPx0 Nx0.out.lt)
      have Px0 : Row (u5.alloc (.cells #[.slice x0A1 x0.files.length x0c1, .slice x0A2 x0.names.length x0c2, .slice x0A3 x0.moves.length x0c3] 83)) u5.heap.size 83 [.slice x0A1 x0.files.length x0c1, .slice x0A2 x0.names.length x0c2, .slice x0A3 x0.moves.length x0c3] := Row.new u5 _ _
      clear hAPx0
      have c5_Q0_0 := Q0.cell 0
      have c5_Q0_1 := Q0.cell 1
      have c5_Q0_2 := Q0.cell 2
      have c5_Pw0_0 := Pw0.cell 0
      have c5_Pw0_1 := Pw0.cell 1
      have c5_Pw0_2 := Pw0.cell 2
      have c5_Px0_0 := Px0.cell 0
      have c5_Px0_1 := Px0.cell 1
      have c5_Px0_2 := Px0.cell 2
      have lt5_Q0 := Q0.lt
      have lt5_Pw0 := Pw0.lt
      have lt5_Px0 := Px0.lt
      go_wp2_with fail
      refine (toIntS_any x2 _ _ _ _ _ (HO2.out.below BPx0.out hl2) (hl2.up BPx0.out) (by omega)).mono ?_
      rintro e u6 ⟨vx2, fx2, rfl, yx2, zx2, hb6⟩
      clear c5_Q0_0 c5_Q0_1 c5_Q0_2 c5_Pw0_0 c5_Pw0_1 c5_Pw0_2 c5_Px0_0 c5_Px0_1 c5_Px0_2 lt5_Q0 lt5_Pw0 lt5_Px0
      have S6 := hide (show u5.heap.size + 1 ≤ u6.heap.size from by have := hb6.size; simpa only [World.size_alloc, size_setRow] using this)
      have B6 := hide (BPx0.out.trans (hb6.mono BPx0.out.size))
      have Q0 := Q0.below hb6 Q0.lt
      have Pw0 := Pw0.below hb6 Pw0.lt
      have Px0 := Px0.below hb6 Px0.lt
      have Ow0 := hide (Ow0.out.below hb6 Nw0.out.lt)
      have Nw0 := hide (Nw0.out.below hb6 Nw0.out.lt)
      have Ox0 := hide (Ox0.out.below hb6 Nx0.out.lt)
      have Nx0 := hide (Nx0.out.below hb6 Nx0.out.lt)
      have Ox2 := hide yx2
      have Nx2 := hide zx2
      have Lx2 := hide (show ∀ g ∈ fx2, u5.heap.size + 1 ≤ g ∧ g < u6.heap.size from fun g hg => ⟨by have := (zx2.fr g hg).1; simpa only [World.size_alloc, size_setRow] using this, zx2.lt g hg⟩)
      clear yx2 zx2
      clear hb6
      obtain ⟨x2A, x2c, rfl, _, _⟩ := Ox2.out.slice
      have c6_Q0_0 := Q0.cell 0
      have c6_Q0_1 := Q0.cell 1
      have c6_Q0_2 := Q0.cell 2
      have c6_Pw0_0 := Pw0.cell 0
      have c6_Pw0_1 := Pw0.cell 1
      have c6_Pw0_2 := Pw0.cell 2
      have c6_Px0_0 := Px0.cell 0
      have c6_Px0_1 := Px0.cell 1
      have c6_Px0_2 := Px0.cell 2
      have lt6_Q0 := Q0.lt
      have lt6_Pw0 := Pw0.lt
      have lt6_Px0 := Px0.lt
      go_wp2_with fail
      refine (implDiskCut_any x0 _ _ n1 x2 _ _ _ _ _ Ox0.out Nx0.out.lt (by omega) hn1 Ox2.out Nx2.out.lt (by omega)).mono ?_
      rintro e u7 ⟨vg0, fg0, rfl, yg0, zg0, hb7⟩
      clear c6_Q0_0 c6_Q0_1 c6_Q0_2 c6_Pw0_0 c6_Pw0_1 c6_Pw0_2 c6_Px0_0 c6_Px0_1 c6_Px0_2 lt6_Q0 lt6_Pw0 lt6_Px0
      have S7 := hide (show u6.heap.size ≤ u7.heap.size from by have := hb7.size; simpa only [World.size_alloc, size_setRow] using this)
      have B7 := hide (B6.out.trans (hb7.mono B6.out.size))
      have Q0 := Q0.below hb7 Q0.lt
      have Pw0 := Pw0.below hb7 Pw0.lt
      have Px0 := Px0.below hb7 Px0.lt
      have Ow0 := hide (Ow0.out.below hb7 Nw0.out.lt)
      have Nw0 := hide (Nw0.out.below hb7 Nw0.out.lt)
      have Ox0 := hide (Ox0.out.below hb7 Nx0.out.lt)
      have Nx0 := hide (Nx0.out.below hb7 Nx0.out.lt)
      have Ox2 := hide (Ox2.out.below hb7 Nx2.out.lt)
      have Nx2 := hide (Nx2.out.below hb7 Nx2.out.lt)
      clear hb7
      rw [← HR0.out] at yg0
      have Og0 := hide yg0
      have Ng0 := hide zg0
      have Lg0 := hide (show ∀ g ∈ fg0, u6.heap.size ≤ g ∧ g < u7.heap.size from fun g hg => ⟨by have := (zg0.fr g hg).1; simpa only [World.size_alloc, size_setRow] using this, zg0.lt g hg⟩)
      clear yg0 zg0
      have Tg0 := Og0.out
      obtain ⟨g0A1, g0c1, g0A2, g0c2, g0A3, g0c3, g0f1, g0f2, g0f3, rfl, g0o1, g0o2, g0o3, g0ef⟩ := Tg0.oDisk
      clear Tg0 g0o1 g0o2 g0o3
      have hAPg0 : Below u7.heap.size u7 (u7.alloc (.cells #[.slice g0A1 r0.files.length g0c1, .slice g0A2 r0.names.length g0c2, .slice g0A3 r0.moves.length g0c3] 83)) := (Below.refl _ _).alloc (Nat.le_refl _) _
      have BPg0 := hide (B7.out.trans (hAPg0.mono B7.out.size))
      have Q0 := Q0.below hAPg0 Q0.lt
      have Pw0 := Pw0.below hAPg0 Pw0.lt
      have Px0 := Px0.below hAPg0 Px0.lt
      have Ow0 := hide (Ow0.out.below hAPg0 Nw0.out.lt)
      have Nw0 := hide (Nw0.out.below hAPg0 Nw0.out.lt)
      have Ox0 := hide (Ox0.out.below hAPg0 Nx0.out.lt)
      have Nx0 := hide (Nx0.out.below hAPg0 Nx0.out.lt)
      have Ox2 := hide (Ox2.out.below hAPg0 Nx2.out.lt)
      have Nx2 := hide (Nx2.out.below hAPg0 Nx2.out.lt)
      have Og0 := hide (Og0.out.below hAPg0 Ng0.out.lt)
      have Ng0 := hide (Ng0.out.below hAPg0 Ng0.out.lt)
      have Pg0 : Row (u7.alloc (.cells #[.slice g0A1 r0.files.length g0c1, .slice g0A2 r0.names.length g0c2, .slice g0A3 r0.moves.length g0c3] 83)) u7.heap.size 83 [.slice g0A1 r0.files.length g0c1, .slice g0A2 r0.names.length g0c2, .slice g0A3 r0.moves.length g0c3] := Row.new u7 _ _
      clear hAPg0
      have c7_Q0_0 := Q0.cell 0
      have c7_Q0_1 := Q0.cell 1
      have c7_Q0_2 := Q0.cell 2
      have c7_Pw0_0 := Pw0.cell 0
      have c7_Pw0_1 := Pw0.cell 1
      have c7_Pw0_2 := Pw0.cell 2
      have c7_Px0_0 := Px0.cell 0
      have c7_Px0_1 := Px0.cell 1
      have c7_Px0_2 := Px0.cell 2
      have c7_Pg0_0 := Pg0.cell 0
      have c7_Pg0_1 := Pg0.cell 1
      have c7_Pg0_2 := Pg0.cell 2
      have lt7_Q0 := Q0.lt
      have lt7_Pw0 := Pw0.lt
      have lt7_Px0 := Px0.lt
      have lt7_Pg0 := Pg0.lt
      go_wp2_with fail
      refine (eqDisk_any r0 _ _ _ _ _ Og0.out Ow0.out Ng0.out.lt Nw0.out.lt).mono ?_
      rintro e u8 ⟨rfl, hb8⟩
      clear c7_Q0_0 c7_Q0_1 c7_Q0_2 c7_Pw0_0 c7_Pw0_1 c7_Pw0_2 c7_Px0_0 c7_Px0_1 c7_Px0_2 c7_Pg0_0 c7_Pg0_1 c7_Pg0_2 lt7_Q0 lt7_Pw0 lt7_Px0 lt7_Pg0
      have S8 := hide (show u7.heap.size + 1 ≤ u8.heap.size from by have := hb8.size; simpa only [World.size_alloc, size_setRow] using this)
      have B8 := hide (BPg0.out.trans (hb8.mono BPg0.out.size))
      have Q0 := Q0.below hb8 Q0.lt
      have Pw0 := Pw0.below hb8 Pw0.lt
      have Px0 := Px0.below hb8 Px0.lt
      have Pg0 := Pg0.below hb8 Pg0.lt
      have Ow0 := hide (Ow0.out.below hb8 Nw0.out.lt)
      have Nw0 := hide (Nw0.out.below hb8 Nw0.out.lt)
      have Ox0 := hide (Ox0.out.below hb8 Nx0.out.lt)
      have Nx0 := hide (Nx0.out.below hb8 Nx0.out.lt)
      have Ox2 := hide (Ox2.out.below hb8 Nx2.out.lt)
      have Nx2 := hide (Nx2.out.below hb8 Nx2.out.lt)
      have Og0 := hide (Og0.out.below hb8 Ng0.out.lt)
      have Ng0 := hide (Ng0.out.below hb8 Ng0.out.lt)
      clear hb8
      have c8_Q0_0 := Q0.cell 0
      have c8_Q0_1 := Q0.cell 1
      have c8_Q0_2 := Q0.cell 2
      have c8_Pw0_0 := Pw0.cell 0
      have c8_Pw0_1 := Pw0.cell 1
      have c8_Pw0_2 := Pw0.cell 2
      have c8_Px0_0 := Px0.cell 0
      have c8_Px0_1 := Px0.cell 1
      have c8_Px0_2 := Px0.cell 2
      have c8_Pg0_0 := Pg0.cell 0
      have c8_Pg0_1 := Pg0.cell 1
      have c8_Pg0_2 := Pg0.cell 2
      have lt8_Q0 := Q0.lt
      have lt8_Pw0 := Pw0.lt
      have lt8_Px0 := Px0.lt
      have lt8_Pg0 := Pg0.lt
      go_wp2
      go_region_held3 (fun w' => w'.cell? ⟨w.heap.size, 0, none⟩ = some (.slice a0A1 x0.files.length a0c1) ∧ w'.cell? ⟨w.heap.size, 1, none⟩ = some (.slice a0A2 x0.names.length a0c2) ∧ w'.cell? ⟨w.heap.size, 2, none⟩ = some (.slice a0A3 x0.moves.length a0c3) ∧ w'.cell? ⟨u5.heap.size, 0, none⟩ = some (.slice x0A1 x0.files.length x0c1) ∧ w'.cell? ⟨u5.heap.size, 1, none⟩ = some (.slice x0A2 x0.names.length x0c2) ∧ w'.cell? ⟨u5.heap.size, 2, none⟩ = some (.slice x0A3 x0.moves.length x0c3))
        (first | go_keep | exact ⟨me0_1_Q0.cell 0, me0_1_Q0.cell 1, me0_1_Q0.cell 2, me0_1_Px0.cell 0, me0_1_Px0.cell 1, me0_1_Px0.cell 2⟩ | exact ⟨me0_0_Q0.cell 0, me0_0_Q0.cell 1, me0_0_Q0.cell 2, me0_0_Px0.cell 0, me0_0_Px0.cell 1, me0_0_Px0.cell 2⟩)
        (first
          | (go_at_call 53; refine (eqDisk_any x0 _ _ _ _ _ ((Ox0.out.drewN 1).below he0_0 (by exact Nx0.out.lt)) ye0 (by exact (Nx0.out.lt.mono he0_0.size)) ze0.lt).mono ?_; rintro e ue0_1 ⟨rfl, he0_1⟩; have me0_1_Q0 := me0_0_Q0.below he0_1 me0_0_Q0.lt; have me0_1_Px0 := me0_0_Px0.below he0_1 me0_0_Px0.lt)
          | (go_at_call 51; refine (toDisk_any x0 _ _ _ (HO0.out.below B8.out.drew hl0) (hl0.up B8.out.drew) (by omega)).mono ?_; rintro e ue0_0 ⟨ve0, fe0, rfl, ye0, ze0, he0_0⟩; have me0_0_Q0 := (Q0.drewN 1).below he0_0 (by exact Q0.lt); have me0_0_Px0 := (Px0.drewN 1).below he0_0 (by exact Px0.lt)))
      clear c8_Q0_0 c8_Q0_1 c8_Q0_2 c8_Pw0_0 c8_Pw0_1 c8_Pw0_2 c8_Px0_0 c8_Px0_1 c8_Px0_2 c8_Pg0_0 c8_Pg0_1 c8_Pg0_2 lt8_Q0 lt8_Pw0 lt8_Px0 lt8_Pg0
      have hze0 : Below u8.heap.size u8 ue0_0 := ⟨he0_0.os, he0_0.tape, he0_0.output, he0_0.size, he0_0.block⟩
      clear me0_0_Q0 me0_0_Px0 me0_1_Q0 me0_1_Px0
      have S9 := hide (show u8.heap.size ≤ ue0_0.heap.size from by have := hze0.size; simpa only [World.size_alloc, size_setRow] using this)
      have B9 := hide (B8.out.trans (hze0.mono B8.out.size))
      have Q0 := Q0.below hze0 Q0.lt
      have Pw0 := Pw0.below hze0 Pw0.lt
      have Px0 := Px0.below hze0 Px0.lt
      have Pg0 := Pg0.below hze0 Pg0.lt
      have Ow0 := hide (Ow0.out.below hze0 Nw0.out.lt)
      have Nw0 := hide (Nw0.out.below hze0 Nw0.out.lt)
      have Ox0 := hide (Ox0.out.below hze0 Nx0.out.lt)
      have Nx0 := hide (Nx0.out.below hze0 Nx0.out.lt)
      have Ox2 := hide (Ox2.out.below hze0 Nx2.out.lt)
      have Nx2 := hide (Nx2.out.below hze0 Nx2.out.lt)
      have Og0 := hide (Og0.out.below hze0 Ng0.out.lt)
      have Ng0 := hide (Ng0.out.below hze0 Ng0.out.lt)
      have S10 := hide (show ue0_0.heap.size ≤ ue0_1.heap.size from by have := he0_1.size; simpa only [World.size_alloc, size_setRow] using this)
      have B10 := hide (B9.out.trans (he0_1.mono B9.out.size))
      have Q0 := Q0.below he0_1 Q0.lt
      have Pw0 := Pw0.below he0_1 Pw0.lt
      have Px0 := Px0.below he0_1 Px0.lt
      have Pg0 := Pg0.below he0_1 Pg0.lt
      have Ow0 := hide (Ow0.out.below he0_1 Nw0.out.lt)
      have Nw0 := hide (Nw0.out.below he0_1 Nw0.out.lt)
      have Ox0 := hide (Ox0.out.below he0_1 Nx0.out.lt)
      have Nx0 := hide (Nx0.out.below he0_1 Nx0.out.lt)
      have Ox2 := hide (Ox2.out.below he0_1 Nx2.out.lt)
      have Nx2 := hide (Nx2.out.below he0_1 Nx2.out.lt)
      have Og0 := hide (Og0.out.below he0_1 Ng0.out.lt)
      have Ng0 := hide (Ng0.out.below he0_1 Ng0.out.lt)
      clear he0_0 he0_1 hze0
      clear ye0 ze0
      have c10_Q0_0 := Q0.cell 0
      have c10_Q0_1 := Q0.cell 1
      have c10_Q0_2 := Q0.cell 2
      have c10_Pw0_0 := Pw0.cell 0
      have c10_Pw0_1 := Pw0.cell 1
      have c10_Pw0_2 := Pw0.cell 2
      have c10_Px0_0 := Px0.cell 0
      have c10_Px0_1 := Px0.cell 1
      have c10_Px0_2 := Px0.cell 2
      have c10_Pg0_0 := Pg0.cell 0
      have c10_Pg0_1 := Pg0.cell 1
      have c10_Pg0_2 := Pg0.cell 2
      have lt10_Q0 := Q0.lt
      have lt10_Pw0 := Pw0.lt
      have lt10_Px0 := Px0.lt
      have lt10_Pg0 := Pg0.lt
      go_wp2_with fail
      refine (toIntS_any x2 _ _ _ _ _ (HO2.out.below B10.out hl2) (hl2.up B10.out) (by omega)).mono ?_
      rintro e u11 ⟨ve2, fe2, rfl, ye2, ze2, hb11⟩
      clear c10_Q0_0 c10_Q0_1 c10_Q0_2 c10_Pw0_0 c10_Pw0_1 c10_Pw0_2 c10_Px0_0 c10_Px0_1 c10_Px0_2 c10_Pg0_0 c10_Pg0_1 c10_Pg0_2 lt10_Q0 lt10_Pw0 lt10_Px0 lt10_Pg0
      have S11 := hide (show ue0_1.heap.size ≤ u11.heap.size from by have := hb11.size; simpa only [World.size_alloc, size_setRow] using this)
      have B11 := hide (B10.out.trans (hb11.mono B10.out.size))
      have Q0 := Q0.below hb11 Q0.lt
      have Pw0 := Pw0.below hb11 Pw0.lt
      have Px0 := Px0.below hb11 Px0.lt
      have Pg0 := Pg0.below hb11 Pg0.lt
      have Ow0 := hide (Ow0.out.below hb11 Nw0.out.lt)
      have Nw0 := hide (Nw0.out.below hb11 Nw0.out.lt)
      have Ox0 := hide (Ox0.out.below hb11 Nx0.out.lt)
      have Nx0 := hide (Nx0.out.below hb11 Nx0.out.lt)
      have Ox2 := hide (Ox2.out.below hb11 Nx2.out.lt)
      have Nx2 := hide (Nx2.out.below hb11 Nx2.out.lt)
      have Og0 := hide (Og0.out.below hb11 Ng0.out.lt)
      have Ng0 := hide (Ng0.out.below hb11 Ng0.out.lt)
      have Oe2 := hide ye2
      have Ne2 := hide ze2
      have Le2 := hide (show ∀ g ∈ fe2, ue0_1.heap.size ≤ g ∧ g < u11.heap.size from fun g hg => ⟨by have := (ze2.fr g hg).1; simpa only [World.size_alloc, size_setRow] using this, ze2.lt g hg⟩)
      clear ye2 ze2
      clear hb11
      obtain ⟨e2A, e2c, rfl, _, _⟩ := Oe2.out.slice
      have lt11_Q0 := Q0.lt
      have lt11_Pw0 := Pw0.lt
      have lt11_Px0 := Px0.lt
      have lt11_Pg0 := Pg0.lt
      go_wp2_with fail
      refine (eqIntS_same x2 _ _ _ _ _ _ _ _ _ Ox2.out Oe2.out).mono ?_
      rintro e u12 ⟨rfl, hb12⟩
      clear lt11_Q0 lt11_Pw0 lt11_Px0 lt11_Pg0
      have S12 := hide (show u11.heap.size ≤ u12.heap.size from by have := hb12.size; simpa only [World.size_alloc, size_setRow] using this)
      have B12 := hide (B11.out.trans (hb12.mono B11.out.size))
      have Q0 := Q0.below hb12 Q0.lt
      have Pw0 := Pw0.below hb12 Pw0.lt
      have Px0 := Px0.below hb12 Px0.lt
      have Pg0 := Pg0.below hb12 Pg0.lt
      have Ow0 := hide (Ow0.out.below hb12 Nw0.out.lt)
      have Nw0 := hide (Nw0.out.below hb12 Nw0.out.lt)
      have Ox0 := hide (Ox0.out.below hb12 Nx0.out.lt)
      have Nx0 := hide (Nx0.out.below hb12 Nx0.out.lt)
      have Ox2 := hide (Ox2.out.below hb12 Nx2.out.lt)
      have Nx2 := hide (Nx2.out.below hb12 Nx2.out.lt)
      have Og0 := hide (Og0.out.below hb12 Ng0.out.lt)
      have Ng0 := hide (Ng0.out.below hb12 Ng0.out.lt)
      have Oe2 := hide (Oe2.out.below hb12 Ne2.out.lt)
      have Ne2 := hide (Ne2.out.below hb12 Ne2.out.lt)
      clear hb12
      have c12_Q0_0 := Q0.cell 0
      have c12_Q0_1 := Q0.cell 1
      have c12_Q0_2 := Q0.cell 2
      have c12_Pw0_0 := Pw0.cell 0
      have c12_Pw0_1 := Pw0.cell 1
      have c12_Pw0_2 := Pw0.cell 2
      have c12_Px0_0 := Px0.cell 0
      have c12_Px0_1 := Px0.cell 1
      have c12_Px0_2 := Px0.cell 2
      have c12_Pg0_0 := Pg0.cell 0
      have c12_Pg0_1 := Pg0.cell 1
      have c12_Pg0_2 := Pg0.cell 2
      have lt12_Q0 := Q0.lt
      have lt12_Pw0 := Pw0.lt
      have lt12_Px0 := Px0.lt
      have lt12_Pg0 := Pg0.lt
      go_wp2_with fail
      refine (markDisk_any x0 _ fx0 _ _ (1) _ (by omega) Ox0.out Nx0.out (by omega)).mono ?_
      rintro e u13 ⟨lx0, rfl, ox0, kx0, ht13⟩
      clear c12_Q0_0 c12_Q0_1 c12_Q0_2 c12_Pw0_0 c12_Pw0_1 c12_Pw0_2 c12_Px0_0 c12_Px0_1 c12_Px0_2 c12_Pg0_0 c12_Pg0_1 c12_Pg0_2 lt12_Q0 lt12_Pw0 lt12_Px0 lt12_Pg0
      have S13 := hide (show u12.heap.size ≤ u13.heap.size from ht13.size)
      have B13 := hide (B12.out.trans (ht13.to_below B12.out.size (fun g hg => by have := Lx0.out g hg; have := S1.out; have := S2.out; have := S3.out; have := S4.out; have := S5.out; have := S6.out; have := S7.out; have := S8.out; have := S9.out; have := S10.out; have := S11.out; have := S12.out; omega)))
      have Q0 := rowTouch Q0 ht13 (fun hg => by have := Lx0.out _ hg; have := S1.out; have := S2.out; have := S3.out; have := S4.out; have := S5.out; have := S6.out; have := S7.out; have := S8.out; have := S9.out; have := S10.out; have := S11.out; have := S12.out; omega)
      have Pw0 := rowTouch Pw0 ht13 (fun hg => by have := Lx0.out _ hg; have := S1.out; have := S2.out; have := S3.out; have := S4.out; have := S5.out; have := S6.out; have := S7.out; have := S8.out; have := S9.out; have := S10.out; have := S11.out; have := S12.out; omega)
      have Px0 := rowTouch Px0 ht13 (fun hg => by have := Lx0.out _ hg; have := S1.out; have := S2.out; have := S3.out; have := S4.out; have := S5.out; have := S6.out; have := S7.out; have := S8.out; have := S9.out; have := S10.out; have := S11.out; have := S12.out; omega)
      have Pg0 := rowTouch Pg0 ht13 (fun hg => by have := Lx0.out _ hg; have := S1.out; have := S2.out; have := S3.out; have := S4.out; have := S5.out; have := S6.out; have := S7.out; have := S8.out; have := S9.out; have := S10.out; have := S11.out; have := S12.out; omega)
      have Ow0 := hide (Ow0.out.touch ht13 Nw0.out.lt (fun g hg hg2 => by have := Lw0.out g hg; have := Lx0.out g hg2; have := S1.out; have := S2.out; have := S3.out; have := S4.out; have := S5.out; have := S6.out; have := S7.out; have := S8.out; have := S9.out; have := S10.out; have := S11.out; have := S12.out; omega))
      have Nw0 := hide (ht13.new Nw0.out)
      have Ox2 := hide (Ox2.out.touch ht13 Nx2.out.lt (fun g hg hg2 => by have := Lx2.out g hg; have := Lx0.out g hg2; have := S1.out; have := S2.out; have := S3.out; have := S4.out; have := S5.out; have := S6.out; have := S7.out; have := S8.out; have := S9.out; have := S10.out; have := S11.out; have := S12.out; omega))
      have Nx2 := hide (ht13.new Nx2.out)
      have Og0 := hide (Og0.out.touch ht13 Ng0.out.lt (fun g hg hg2 => by have := Lg0.out g hg; have := Lx0.out g hg2; have := S1.out; have := S2.out; have := S3.out; have := S4.out; have := S5.out; have := S6.out; have := S7.out; have := S8.out; have := S9.out; have := S10.out; have := S11.out; have := S12.out; omega))
      have Ng0 := hide (ht13.new Ng0.out)
      have Ox0 := hide ox0
      have Nx0 := hide (ht13.new Nx0.out)
      have Kx0 := hide kx0
      clear ox0 kx0 ht13
      have c13_Q0_0 := Q0.cell 0
      have c13_Q0_1 := Q0.cell 1
      have c13_Q0_2 := Q0.cell 2
      have c13_Pw0_0 := Pw0.cell 0
      have c13_Pw0_1 := Pw0.cell 1
      have c13_Pw0_2 := Pw0.cell 2
      have c13_Px0_0 := Px0.cell 0
      have c13_Px0_1 := Px0.cell 1
      have c13_Px0_2 := Px0.cell 2
      have c13_Pg0_0 := Pg0.cell 0
      have c13_Pg0_1 := Pg0.cell 1
      have c13_Pg0_2 := Pg0.cell 2
      have lt13_Q0 := Q0.lt
      have lt13_Pw0 := Pw0.lt
      have lt13_Px0 := Px0.lt
      have lt13_Pg0 := Pg0.lt
      go_wp2_with fail
      refine (markIntS_any x2 _ _ _ fx2 _ _ (1 + x0.cntTop) _ (by omega) Ox2.out Nx2.out (by omega)).mono ?_
      rintro e u14 ⟨lx2, rfl, qx2, ox2, kx2, ht14⟩
      clear c13_Q0_0 c13_Q0_1 c13_Q0_2 c13_Pw0_0 c13_Pw0_1 c13_Pw0_2 c13_Px0_0 c13_Px0_1 c13_Px0_2 c13_Pg0_0 c13_Pg0_1 c13_Pg0_2 lt13_Q0 lt13_Pw0 lt13_Px0 lt13_Pg0
      have S14 := hide (show u13.heap.size ≤ u14.heap.size from ht14.size)
      have B14 := hide (B13.out.trans (ht14.to_below B13.out.size (fun g hg => by have := Lx2.out g hg; have := S1.out; have := S2.out; have := S3.out; have := S4.out; have := S5.out; have := S6.out; have := S7.out; have := S8.out; have := S9.out; have := S10.out; have := S11.out; have := S12.out; have := S13.out; omega)))
      have Q0 := rowTouch Q0 ht14 (fun hg => by have := Lx2.out _ hg; have := S1.out; have := S2.out; have := S3.out; have := S4.out; have := S5.out; have := S6.out; have := S7.out; have := S8.out; have := S9.out; have := S10.out; have := S11.out; have := S12.out; have := S13.out; omega)
      have Pw0 := rowTouch Pw0 ht14 (fun hg => by have := Lx2.out _ hg; have := S1.out; have := S2.out; have := S3.out; have := S4.out; have := S5.out; have := S6.out; have := S7.out; have := S8.out; have := S9.out; have := S10.out; have := S11.out; have := S12.out; have := S13.out; omega)
      have Px0 := rowTouch Px0 ht14 (fun hg => by have := Lx2.out _ hg; have := S1.out; have := S2.out; have := S3.out; have := S4.out; have := S5.out; have := S6.out; have := S7.out; have := S8.out; have := S9.out; have := S10.out; have := S11.out; have := S12.out; have := S13.out; omega)
      have Pg0 := rowTouch Pg0 ht14 (fun hg => by have := Lx2.out _ hg; have := S1.out; have := S2.out; have := S3.out; have := S4.out; have := S5.out; have := S6.out; have := S7.out; have := S8.out; have := S9.out; have := S10.out; have := S11.out; have := S12.out; have := S13.out; omega)
      have Ow0 := hide (Ow0.out.touch ht14 Nw0.out.lt (fun g hg hg2 => by have := Lw0.out g hg; have := Lx2.out g hg2; have := S1.out; have := S2.out; have := S3.out; have := S4.out; have := S5.out; have := S6.out; have := S7.out; have := S8.out; have := S9.out; have := S10.out; have := S11.out; have := S12.out; have := S13.out; omega))
      have Nw0 := hide (ht14.new Nw0.out)
      have Ox0 := hide (Ox0.out.touch ht14 Nx0.out.lt (fun g hg hg2 => by have := Lx0.out g hg; have := Lx2.out g hg2; have := S1.out; have := S2.out; have := S3.out; have := S4.out; have := S5.out; have := S6.out; have := S7.out; have := S8.out; have := S9.out; have := S10.out; have := S11.out; have := S12.out; have := S13.out; omega))
      have Nx0 := hide (ht14.new Nx0.out)
      have Og0 := hide (Og0.out.touch ht14 Ng0.out.lt (fun g hg hg2 => by have := Lg0.out g hg; have := Lx2.out g hg2; have := S1.out; have := S2.out; have := S3.out; have := S4.out; have := S5.out; have := S6.out; have := S7.out; have := S8.out; have := S9.out; have := S10.out; have := S11.out; have := S12.out; have := S13.out; omega))
      have Ng0 := hide (ht14.new Ng0.out)
      have Ox2 := hide ox2
      have Nx2 := hide (ht14.new Nx2.out)
      have Kx2 := hide kx2
      clear ox2 kx2 ht14 qx2
      have c14_Q0_0 := Q0.cell 0
      have c14_Q0_1 := Q0.cell 1
      have c14_Q0_2 := Q0.cell 2
      have c14_Pw0_0 := Pw0.cell 0
      have c14_Pw0_1 := Pw0.cell 1
      have c14_Pw0_2 := Pw0.cell 2
      have c14_Px0_0 := Px0.cell 0
      have c14_Px0_1 := Px0.cell 1
      have c14_Px0_2 := Px0.cell 2
      have c14_Pg0_0 := Pg0.cell 0
      have c14_Pg0_1 := Pg0.cell 1
      have c14_Pg0_2 := Pg0.cell 2
      have lt14_Q0 := Q0.lt
      have lt14_Pw0 := Pw0.lt
      have lt14_Px0 := Px0.lt
      have lt14_Pg0 := Pg0.lt
      go_wp2_with fail
      refine (eqDisk_any r0 _ _ _ _ _ Og0.out Ow0.out Ng0.out.lt Nw0.out.lt).mono ?_
      rintro e u15 ⟨rfl, hb15⟩
      clear c14_Q0_0 c14_Q0_1 c14_Q0_2 c14_Pw0_0 c14_Pw0_1 c14_Pw0_2 c14_Px0_0 c14_Px0_1 c14_Px0_2 c14_Pg0_0 c14_Pg0_1 c14_Pg0_2 lt14_Q0 lt14_Pw0 lt14_Px0 lt14_Pg0
      have S15 := hide (show u14.heap.size ≤ u15.heap.size from by have := hb15.size; simpa only [World.size_alloc, size_setRow] using this)
      have B15 := hide (B14.out.trans (hb15.mono B14.out.size))
      have Q0 := Q0.below hb15 Q0.lt
      have Pw0 := Pw0.below hb15 Pw0.lt
      have Pg0 := Pg0.below hb15 Pg0.lt
      have Ow0 := hide (Ow0.out.below hb15 Nw0.out.lt)
      have Nw0 := hide (Nw0.out.below hb15 Nw0.out.lt)
      have Og0 := hide (Og0.out.below hb15 Ng0.out.lt)
      have Ng0 := hide (Ng0.out.below hb15 Ng0.out.lt)
      clear hb15
      have c15_Q0_0 := Q0.cell 0
      have c15_Q0_1 := Q0.cell 1
      have c15_Q0_2 := Q0.cell 2
      have c15_Pw0_0 := Pw0.cell 0
      have c15_Pw0_1 := Pw0.cell 1
      have c15_Pw0_2 := Pw0.cell 2
      have c15_Pg0_0 := Pg0.cell 0
      have c15_Pg0_1 := Pg0.cell 1
      have c15_Pg0_2 := Pg0.cell 2
      have lt15_Q0 := Q0.lt
      have lt15_Pw0 := Pw0.lt
      have lt15_Pg0 := Pg0.lt
      go_wp2_with fail
      refine (markDisk_any r0 _ fg0 _ _ (1) _ (by omega) Og0.out Ng0.out (by omega)).mono ?_
      rintro e u16 ⟨lg0, rfl, og0, kg0, ht16⟩
      clear c15_Q0_0 c15_Q0_1 c15_Q0_2 c15_Pw0_0 c15_Pw0_1 c15_Pw0_2 c15_Pg0_0 c15_Pg0_1 c15_Pg0_2 lt15_Q0 lt15_Pw0 lt15_Pg0
      have S16 := hide (show u15.heap.size ≤ u16.heap.size from ht16.size)
      have B16 := hide (B15.out.trans (ht16.to_below B15.out.size (fun g hg => by have := Lg0.out g hg; have := S1.out; have := S2.out; have := S3.out; have := S4.out; have := S5.out; have := S6.out; have := S7.out; have := S8.out; have := S9.out; have := S10.out; have := S11.out; have := S12.out; have := S13.out; have := S14.out; have := S15.out; omega)))
      have Q0 := rowTouch Q0 ht16 (fun hg => by have := Lg0.out _ hg; have := S1.out; have := S2.out; have := S3.out; have := S4.out; have := S5.out; have := S6.out; have := S7.out; have := S8.out; have := S9.out; have := S10.out; have := S11.out; have := S12.out; have := S13.out; have := S14.out; have := S15.out; omega)
      have Pw0 := rowTouch Pw0 ht16 (fun hg => by have := Lg0.out _ hg; have := S1.out; have := S2.out; have := S3.out; have := S4.out; have := S5.out; have := S6.out; have := S7.out; have := S8.out; have := S9.out; have := S10.out; have := S11.out; have := S12.out; have := S13.out; have := S14.out; have := S15.out; omega)
      have Pg0 := rowTouch Pg0 ht16 (fun hg => by have := Lg0.out _ hg; have := S1.out; have := S2.out; have := S3.out; have := S4.out; have := S5.out; have := S6.out; have := S7.out; have := S8.out; have := S9.out; have := S10.out; have := S11.out; have := S12.out; have := S13.out; have := S14.out; have := S15.out; omega)
      have Ow0 := hide (Ow0.out.touch ht16 Nw0.out.lt (fun g hg hg2 => by have := Lw0.out g hg; have := Lg0.out g hg2; have := S1.out; have := S2.out; have := S3.out; have := S4.out; have := S5.out; have := S6.out; have := S7.out; have := S8.out; have := S9.out; have := S10.out; have := S11.out; have := S12.out; have := S13.out; have := S14.out; have := S15.out; omega))
      have Nw0 := hide (ht16.new Nw0.out)
      have Og0 := hide og0
      have Ng0 := hide (ht16.new Ng0.out)
      have Kg0 := hide kg0
      clear og0 kg0 ht16
      have c16_Q0_0 := Q0.cell 0
      have c16_Q0_1 := Q0.cell 1
      have c16_Q0_2 := Q0.cell 2
      have c16_Pw0_0 := Pw0.cell 0
      have c16_Pw0_1 := Pw0.cell 1
      have c16_Pw0_2 := Pw0.cell 2
      have c16_Pg0_0 := Pg0.cell 0
      have c16_Pg0_1 := Pg0.cell 1
      have c16_Pg0_2 := Pg0.cell 2
      have lt16_Q0 := Q0.lt
      have lt16_Pw0 := Pw0.lt
      have lt16_Pg0 := Pg0.lt
      go_wp2_with fail
      refine (heldDisk_any lg0 _ fg0 _ (1) (1 + r0.cntTop) _ (by omega) Og0.out Ng0.out.lt Kg0.out (by omega)).mono ?_
      rintro e u17 ⟨rfl, hb17⟩
      clear c16_Q0_0 c16_Q0_1 c16_Q0_2 c16_Pw0_0 c16_Pw0_1 c16_Pw0_2 c16_Pg0_0 c16_Pg0_1 c16_Pg0_2 lt16_Q0 lt16_Pw0 lt16_Pg0
      have S17 := hide (show u16.heap.size ≤ u17.heap.size from by have := hb17.size; simpa only [World.size_alloc, size_setRow] using this)
      have B17 := hide (B16.out.trans (hb17.mono B16.out.size))
      have Q0 := Q0.below hb17 Q0.lt
      have Pw0 := Pw0.below hb17 Pw0.lt
      have Pg0 := Pg0.below hb17 Pg0.lt
      have Ow0 := hide (Ow0.out.below hb17 Nw0.out.lt)
      have Nw0 := hide (Nw0.out.below hb17 Nw0.out.lt)
      have Og0 := hide (Og0.out.below hb17 Ng0.out.lt)
      have Ng0 := hide (Ng0.out.below hb17 Ng0.out.lt)
      clear hb17
      have c17_Q0_0 := Q0.cell 0
      have c17_Q0_1 := Q0.cell 1
      have c17_Q0_2 := Q0.cell 2
      have c17_Pw0_0 := Pw0.cell 0
      have c17_Pw0_1 := Pw0.cell 1
      have c17_Pw0_2 := Pw0.cell 2
      have c17_Pg0_0 := Pg0.cell 0
      have c17_Pg0_1 := Pg0.cell 1
      have c17_Pg0_2 := Pg0.cell 2
      have lt17_Q0 := Q0.lt
      have lt17_Pw0 := Pw0.lt
      have lt17_Pg0 := Pg0.lt
      go_wp2_with fail
      refine (toDisk_any x0 _ _ _ (HO0.out.below B17.out hl0) (hl0.up B17.out) (by omega)).mono ?_
      rintro e u18 ⟨vht0, fht0, rfl, yht0, zht0, hb18⟩
      clear c17_Q0_0 c17_Q0_1 c17_Q0_2 c17_Pw0_0 c17_Pw0_1 c17_Pw0_2 c17_Pg0_0 c17_Pg0_1 c17_Pg0_2 lt17_Q0 lt17_Pw0 lt17_Pg0
      have S18 := hide (show u17.heap.size ≤ u18.heap.size from by have := hb18.size; simpa only [World.size_alloc, size_setRow] using this)
      have B18 := hide (B17.out.trans (hb18.mono B17.out.size))
      have Q0 := Q0.below hb18 Q0.lt
      have Pw0 := Pw0.below hb18 Pw0.lt
      have Pg0 := Pg0.below hb18 Pg0.lt
      have Ow0 := hide (Ow0.out.below hb18 Nw0.out.lt)
      have Nw0 := hide (Nw0.out.below hb18 Nw0.out.lt)
      have Og0 := hide (Og0.out.below hb18 Ng0.out.lt)
      have Ng0 := hide (Ng0.out.below hb18 Ng0.out.lt)
      have Oht0 := hide yht0
      have Nht0 := hide zht0
      have Lht0 := hide (show ∀ g ∈ fht0, u17.heap.size ≤ g ∧ g < u18.heap.size from fun g hg => ⟨by have := (zht0.fr g hg).1; simpa only [World.size_alloc, size_setRow] using this, zht0.lt g hg⟩)
      clear yht0 zht0
      clear hb18
      have lt18_Q0 := Q0.lt
      have lt18_Pw0 := Pw0.lt
      have lt18_Pg0 := Pg0.lt
      go_wp2_with fail
      refine (toIntS_any x2 _ _ _ _ _ (HO2.out.below B18.out hl2) (hl2.up B18.out) (by omega)).mono ?_
      rintro e u19 ⟨vht2, fht2, rfl, yht2, zht2, hb19⟩
      clear lt18_Q0 lt18_Pw0 lt18_Pg0
      have S19 := hide (show u18.heap.size ≤ u19.heap.size from by have := hb19.size; simpa only [World.size_alloc, size_setRow] using this)
      have B19 := hide (B18.out.trans (hb19.mono B18.out.size))
      have Q0 := Q0.below hb19 Q0.lt
      have Pw0 := Pw0.below hb19 Pw0.lt
      have Pg0 := Pg0.below hb19 Pg0.lt
      have Ow0 := hide (Ow0.out.below hb19 Nw0.out.lt)
      have Nw0 := hide (Nw0.out.below hb19 Nw0.out.lt)
      have Og0 := hide (Og0.out.below hb19 Ng0.out.lt)
      have Ng0 := hide (Ng0.out.below hb19 Ng0.out.lt)
      have Oht0 := hide (Oht0.out.below hb19 Nht0.out.lt)
      have Nht0 := hide (Nht0.out.below hb19 Nht0.out.lt)
      have Oht2 := hide yht2
      have Nht2 := hide zht2
      have Lht2 := hide (show ∀ g ∈ fht2, u18.heap.size ≤ g ∧ g < u19.heap.size from fun g hg => ⟨by have := (zht2.fr g hg).1; simpa only [World.size_alloc, size_setRow] using this, zht2.lt g hg⟩)
      clear yht2 zht2
      clear hb19
      obtain ⟨ht2A, ht2c, rfl, _, _⟩ := Oht2.out.slice
      have lt19_Q0 := Q0.lt
      have lt19_Pw0 := Pw0.lt
      have lt19_Pg0 := Pg0.lt
      go_wp2_with fail
      refine (implDiskCut_any x0 _ _ n1 x2 _ _ _ _ _ Oht0.out Nht0.out.lt (by omega) hn1 Oht2.out Nht2.out.lt (by omega)).mono ?_
      rintro e u20 ⟨vh0, fh0, rfl, yh0, zh0, hb20⟩
      clear lt19_Q0 lt19_Pw0 lt19_Pg0
      have S20 := hide (show u19.heap.size ≤ u20.heap.size from by have := hb20.size; simpa only [World.size_alloc, size_setRow] using this)
      have B20 := hide (B19.out.trans (hb20.mono B19.out.size))
      have Q0 := Q0.below hb20 Q0.lt
      have Pw0 := Pw0.below hb20 Pw0.lt
      have Pg0 := Pg0.below hb20 Pg0.lt
      have Ow0 := hide (Ow0.out.below hb20 Nw0.out.lt)
      have Nw0 := hide (Nw0.out.below hb20 Nw0.out.lt)
      have Og0 := hide (Og0.out.below hb20 Ng0.out.lt)
      have Ng0 := hide (Ng0.out.below hb20 Ng0.out.lt)
      have Oht0 := hide (Oht0.out.below hb20 Nht0.out.lt)
      have Nht0 := hide (Nht0.out.below hb20 Nht0.out.lt)
      have Oht2 := hide (Oht2.out.below hb20 Nht2.out.lt)
      have Nht2 := hide (Nht2.out.below hb20 Nht2.out.lt)
      clear hb20
      rw [← HR0.out] at yh0
      have Oh0 := hide yh0
      have Nh0 := hide zh0
      have Lh0 := hide (show ∀ g ∈ fh0, u19.heap.size ≤ g ∧ g < u20.heap.size from fun g hg => ⟨by have := (zh0.fr g hg).1; simpa only [World.size_alloc, size_setRow] using this, zh0.lt g hg⟩)
      clear yh0 zh0
      have Th0 := Oh0.out
      obtain ⟨h0A1, h0c1, h0A2, h0c2, h0A3, h0c3, h0f1, h0f2, h0f3, rfl, h0o1, h0o2, h0o3, h0ef⟩ := Th0.oDisk
      clear Th0 h0o1 h0o2 h0o3
      have hAPh0 : Below u20.heap.size u20 (u20.alloc (.cells #[.slice h0A1 r0.files.length h0c1, .slice h0A2 r0.names.length h0c2, .slice h0A3 r0.moves.length h0c3] 83)) := (Below.refl _ _).alloc (Nat.le_refl _) _
      have BPh0 := hide (B20.out.trans (hAPh0.mono B20.out.size))
      have Q0 := Q0.below hAPh0 Q0.lt
      have Pw0 := Pw0.below hAPh0 Pw0.lt
      have Pg0 := Pg0.below hAPh0 Pg0.lt
      have Ow0 := hide (Ow0.out.below hAPh0 Nw0.out.lt)
      have Nw0 := hide (Nw0.out.below hAPh0 Nw0.out.lt)
      have Og0 := hide (Og0.out.below hAPh0 Ng0.out.lt)
      have Ng0 := hide (Ng0.out.below hAPh0 Ng0.out.lt)
      have Oh0 := hide (Oh0.out.below hAPh0 Nh0.out.lt)
      have Nh0 := hide (Nh0.out.below hAPh0 Nh0.out.lt)
      have Ph0 : Row (u20.alloc (.cells #[.slice h0A1 r0.files.length h0c1, .slice h0A2 r0.names.length h0c2, .slice h0A3 r0.moves.length h0c3] 83)) u20.heap.size 83 [.slice h0A1 r0.files.length h0c1, .slice h0A2 r0.names.length h0c2, .slice h0A3 r0.moves.length h0c3] := Row.new u20 _ _
      clear hAPh0
      have c20_Q0_0 := Q0.cell 0
      have c20_Q0_1 := Q0.cell 1
      have c20_Q0_2 := Q0.cell 2
      have c20_Pw0_0 := Pw0.cell 0
      have c20_Pw0_1 := Pw0.cell 1
      have c20_Pw0_2 := Pw0.cell 2
      have c20_Pg0_0 := Pg0.cell 0
      have c20_Pg0_1 := Pg0.cell 1
      have c20_Pg0_2 := Pg0.cell 2
      have c20_Ph0_0 := Ph0.cell 0
      have c20_Ph0_1 := Ph0.cell 1
      have c20_Ph0_2 := Ph0.cell 2
      have lt20_Q0 := Q0.lt
      have lt20_Pw0 := Pw0.lt
      have lt20_Pg0 := Pg0.lt
      have lt20_Ph0 := Ph0.lt
      go_wp2_with fail
      refine (eqDisk_any r0 _ _ _ _ _ Oh0.out Ow0.out Nh0.out.lt Nw0.out.lt).mono ?_
      rintro e u21 ⟨rfl, hb21⟩
      clear c20_Q0_0 c20_Q0_1 c20_Q0_2 c20_Pw0_0 c20_Pw0_1 c20_Pw0_2 c20_Pg0_0 c20_Pg0_1 c20_Pg0_2 c20_Ph0_0 c20_Ph0_1 c20_Ph0_2 lt20_Q0 lt20_Pw0 lt20_Pg0 lt20_Ph0
      have S21 := hide (show u20.heap.size + 1 ≤ u21.heap.size from by have := hb21.size; simpa only [World.size_alloc, size_setRow] using this)
      have B21 := hide (BPh0.out.trans (hb21.mono BPh0.out.size))
      have Q0 := Q0.below hb21 Q0.lt
      have Pw0 := Pw0.below hb21 Pw0.lt
      have Pg0 := Pg0.below hb21 Pg0.lt
      have Ph0 := Ph0.below hb21 Ph0.lt
      have Ow0 := hide (Ow0.out.below hb21 Nw0.out.lt)
      have Nw0 := hide (Nw0.out.below hb21 Nw0.out.lt)
      have Og0 := hide (Og0.out.below hb21 Ng0.out.lt)
      have Ng0 := hide (Ng0.out.below hb21 Ng0.out.lt)
      have Oh0 := hide (Oh0.out.below hb21 Nh0.out.lt)
      have Nh0 := hide (Nh0.out.below hb21 Nh0.out.lt)
      clear hb21
      have c21_Q0_0 := Q0.cell 0
      have c21_Q0_1 := Q0.cell 1
      have c21_Q0_2 := Q0.cell 2
      have c21_Pw0_0 := Pw0.cell 0
      have c21_Pw0_1 := Pw0.cell 1
      have c21_Pw0_2 := Pw0.cell 2
      have c21_Pg0_0 := Pg0.cell 0
      have c21_Pg0_1 := Pg0.cell 1
      have c21_Pg0_2 := Pg0.cell 2
      have c21_Ph0_0 := Ph0.cell 0
      have c21_Ph0_1 := Ph0.cell 1
      have c21_Ph0_2 := Ph0.cell 2
      have lt21_Q0 := Q0.lt
      have lt21_Pw0 := Pw0.lt
      have lt21_Pg0 := Pg0.lt
      have lt21_Ph0 := Ph0.lt
      go_wp2_with fail
      refine (heldDisk_any lg0 _ fg0 _ (1) (1 + r0.cntTop) _ (by omega) Og0.out Ng0.out.lt Kg0.out (by omega)).mono ?_
      rintro e u22 ⟨rfl, hb22⟩
      clear c21_Q0_0 c21_Q0_1 c21_Q0_2 c21_Pw0_0 c21_Pw0_1 c21_Pw0_2 c21_Pg0_0 c21_Pg0_1 c21_Pg0_2 c21_Ph0_0 c21_Ph0_1 c21_Ph0_2 lt21_Q0 lt21_Pw0 lt21_Pg0 lt21_Ph0
      have S22 := hide (show u21.heap.size ≤ u22.heap.size from by have := hb22.size; simpa only [World.size_alloc, size_setRow] using this)
      have B22 := hide (B21.out.trans (hb22.mono B21.out.size))
      have Q0 := Q0.below hb22 Q0.lt
      have Pw0 := Pw0.below hb22 Pw0.lt
      have Pg0 := Pg0.below hb22 Pg0.lt
      have Ph0 := Ph0.below hb22 Ph0.lt
      have Ow0 := hide (Ow0.out.below hb22 Nw0.out.lt)
      have Nw0 := hide (Nw0.out.below hb22 Nw0.out.lt)
      have Og0 := hide (Og0.out.below hb22 Ng0.out.lt)
      have Ng0 := hide (Ng0.out.below hb22 Ng0.out.lt)
      have Oh0 := hide (Oh0.out.below hb22 Nh0.out.lt)
      have Nh0 := hide (Nh0.out.below hb22 Nh0.out.lt)
      clear hb22
      have c22_Q0_0 := Q0.cell 0
      have c22_Q0_1 := Q0.cell 1
      have c22_Q0_2 := Q0.cell 2
      have c22_Pw0_0 := Pw0.cell 0
      have c22_Pw0_1 := Pw0.cell 1
      have c22_Pw0_2 := Pw0.cell 2
      have c22_Pg0_0 := Pg0.cell 0
      have c22_Pg0_1 := Pg0.cell 1
      have c22_Pg0_2 := Pg0.cell 2
      have c22_Ph0_0 := Ph0.cell 0
      have c22_Ph0_1 := Ph0.cell 1
      have c22_Ph0_2 := Ph0.cell 2
      have lt22_Q0 := Q0.lt
      have lt22_Pw0 := Pw0.lt
      have lt22_Pg0 := Pg0.lt
      have lt22_Ph0 := Ph0.lt
      go_wp2_with fail
      go_ret
      exact ⟨rfl, B22.out⟩
    · rw [szr_no hbk0]
      go_wp2
      go_ret
      exact ⟨rfl, B1.out⟩
  · have hz2' : (1048576 : Int) < x2.length := by omega
    go_enter Try.func13, Try.ntmps13
    go_wp2
    go_ret
    exact ⟨rfl, BQ0.out⟩
end Go.Proofs.Ytdingkbggjehoaa
