/-
  FnExactDiskNames returns true for every input: the program answers as the reference. No condition.
-/
import Derived.Test.YtdingkbggjehoaaDiskCnt
import Derived.Test.YtdingkbggjehoaaHDisk
import Derived.Deep.RegionHeld3
set_option linter.unusedVariables false
set_option linter.unusedSimpArgs false
namespace Go.Proofs.Ytdingkbggjehoaa
open Go.ChangeShapes Go.WideShapes Go.ChangeAt Go.RowKit

theorem rowTouch {fp : List Nat} {w w2 : World} {g : Nat} {e : TypeId} {cs : List Value} (h : Row w g e cs) (ht : Touch fp w w2) (hn : g ∉ fp) : Row w2 g e cs := (ht.block _ h.lt hn).trans h

set_option maxRecDepth 100000 in
set_option maxHeartbeats 4000000 in
theorem lawFnExactDiskNames_any (w : World) (x0 : Disk) (us0 : List Value) (fp0 : List Nat) (ho0 : OwC w x0.cells us0 fp0) (hl0 : Lt fp0 w.heap.size) :
    Calls Try.prog 11 #[.agg us0.toArray] w fun e w' => e = .returned (.bool true) ∧ Below w.heap.size w w' := by
  have B0 := hide (Below.refl w.heap.size w)
  have HO0 := hide ho0
  obtain ⟨a0A1, a0c1, a0A2, a0c2, a0A3, a0c3, a0f1, a0f2, a0f3, rfl, a0o1, a0o2, a0o3, efp0⟩ := ho0.oDisk
  clear ho0 a0o1 a0o2 a0o3
  have hAQ0 : Below w.heap.size w (w.alloc (.cells #[.slice a0A1 x0.files.length a0c1, .slice a0A2 x0.names.length a0c2, .slice a0A3 x0.moves.length a0c3] 77)) := (Below.refl _ _).alloc (Nat.le_refl _) _
  have BQ0 := hide (B0.out.trans (hAQ0.mono B0.out.size))
  have Q0 : Row (w.alloc (.cells #[.slice a0A1 x0.files.length a0c1, .slice a0A2 x0.names.length a0c2, .slice a0A3 x0.moves.length a0c3] 77)) w.heap.size 77 [.slice a0A1 x0.files.length a0c1, .slice a0A2 x0.names.length a0c2, .slice a0A3 x0.moves.length a0c3] := Row.new w _ _
  clear hAQ0
  obtain ⟨r0, hr0⟩ : ∃ r, r = x0.shown := ⟨_, rfl⟩
  have HR0 := hide hr0
  clear hr0
  go_enter Try.func11, Try.ntmps11
  -- boxes of the parameters
  have c0_Q0_0 := Q0.cell 0
  have c0_Q0_1 := Q0.cell 1
  have c0_Q0_2 := Q0.cell 2
  have lt0_Q0 := Q0.lt
  go_wp2_with fail
  refine (szDisk_any x0 _ _ _ _ (HO0.out.below BQ0.out hl0) (hl0.up BQ0.out) (by omega) (by omega)).mono ?_
  rintro e u1 ⟨rfl, hb1⟩
  clear c0_Q0_0 c0_Q0_1 c0_Q0_2 lt0_Q0
  have S1 := hide (show w.heap.size + 1 ≤ u1.heap.size from by have := hb1.size; simpa only [World.size_alloc, size_setRow] using this)
  have B1 := hide (BQ0.out.trans (hb1.mono BQ0.out.size))
  have Q0 := Q0.below hb1 Q0.lt
  clear hb1
  have c1_Q0_0 := Q0.cell 0
  have c1_Q0_1 := Q0.cell 1
  have c1_Q0_2 := Q0.cell 2
  have lt1_Q0 := Q0.lt
  by_cases hbk0 : ((x0.bulk : Nat) : Int) ≤ (1048576 : Int)
  · rw [szr_yes hbk0]
    have hb0 : r0.length ≤ 1048576 := by rw [HR0.out]; have := x0.shown_len; omega
    have hx0 := x0.cntTop_bulk
    go_wp2_with fail
    refine (toDisk_any x0 _ _ _ (HO0.out.below B1.out hl0) (hl0.up B1.out) (by omega)).mono ?_
    rintro e u2 ⟨vwt0, fwt0, rfl, ywt0, zwt0, hb2⟩
    clear c1_Q0_0 c1_Q0_1 c1_Q0_2 lt1_Q0
    have S2 := hide (show u1.heap.size ≤ u2.heap.size from by have := hb2.size; simpa only [World.size_alloc, size_setRow] using this)
    have B2 := hide (B1.out.trans (hb2.mono B1.out.size))
    have Q0 := Q0.below hb2 Q0.lt
    have Owt0 := hide ywt0
    have Nwt0 := hide zwt0
    have Lwt0 := hide (show ∀ g ∈ fwt0, u1.heap.size ≤ g ∧ g < u2.heap.size from fun g hg => ⟨by have := (zwt0.fr g hg).1; simpa only [World.size_alloc, size_setRow] using this, zwt0.lt g hg⟩)
    clear ywt0 zwt0
    clear hb2
    have lt2_Q0 := Q0.lt
    go_wp2_with fail
    refine (specDiskNames_any x0 _ _ _ Owt0.out Nwt0.out.lt (by omega)).mono ?_
    rintro e u3 ⟨vw0, fw0, rfl, yw0, zw0, hb3⟩
    clear lt2_Q0
    have S3 := hide (show u2.heap.size ≤ u3.heap.size from by have := hb3.size; simpa only [World.size_alloc, size_setRow] using this)
    have B3 := hide (B2.out.trans (hb3.mono B2.out.size))
    have Q0 := Q0.below hb3 Q0.lt
    have Owt0 := hide (Owt0.out.below hb3 Nwt0.out.lt)
    have Nwt0 := hide (Nwt0.out.below hb3 Nwt0.out.lt)
    clear hb3
    rw [← HR0.out] at yw0
    have Ow0 := hide yw0
    have Nw0 := hide zw0
    have Lw0 := hide (show ∀ g ∈ fw0, u2.heap.size ≤ g ∧ g < u3.heap.size from fun g hg => ⟨by have := (zw0.fr g hg).1; simpa only [World.size_alloc, size_setRow] using this, zw0.lt g hg⟩)
    clear yw0 zw0
    obtain ⟨w0A, w0c, rfl, _, _⟩ := Ow0.out.slice
    have c3_Q0_0 := Q0.cell 0
    have c3_Q0_1 := Q0.cell 1
    have c3_Q0_2 := Q0.cell 2
    have lt3_Q0 := Q0.lt
    go_wp2_with fail
    refine (toDisk_any x0 _ _ _ (HO0.out.below B3.out hl0) (hl0.up B3.out) (by omega)).mono ?_
    rintro e u4 ⟨vx0, fx0, rfl, yx0, zx0, hb4⟩
    clear c3_Q0_0 c3_Q0_1 c3_Q0_2 lt3_Q0
    have S4 := hide (show u3.heap.size ≤ u4.heap.size from by have := hb4.size; simpa only [World.size_alloc, size_setRow] using this)
    have B4 := hide (B3.out.trans (hb4.mono B3.out.size))
    have Q0 := Q0.below hb4 Q0.lt
    have Ow0 := hide (Ow0.out.below hb4 Nw0.out.lt)
    have Nw0 := hide (Nw0.out.below hb4 Nw0.out.lt)
    have Ox0 := hide yx0
    have Nx0 := hide zx0
    have Lx0 := hide (show ∀ g ∈ fx0, u3.heap.size ≤ g ∧ g < u4.heap.size from fun g hg => ⟨by have := (zx0.fr g hg).1; simpa only [World.size_alloc, size_setRow] using this, zx0.lt g hg⟩)
    clear yx0 zx0
    clear hb4
    have Tx0 := Ox0.out
    obtain ⟨x0A1, x0c1, x0A2, x0c2, x0A3, x0c3, x0f1, x0f2, x0f3, rfl, x0o1, x0o2, x0o3, x0ef⟩ := Tx0.oDisk
    clear Tx0 x0o1 x0o2 x0o3
    have hAPx0 : Below u4.heap.size u4 (u4.alloc (.cells #[.slice x0A1 x0.files.length x0c1, .slice x0A2 x0.names.length x0c2, .slice x0A3 x0.moves.length x0c3] 83)) := (Below.refl _ _).alloc (Nat.le_refl _) _
    have BPx0 := hide (B4.out.trans (hAPx0.mono B4.out.size))
    have Q0 := Q0.below hAPx0 Q0.lt
    have Ow0 := hide (Ow0.out.below hAPx0 Nw0.out.lt)
    have Nw0 := hide (Nw0.out.below hAPx0 Nw0.out.lt)
    have Ox0 := hide (Ox0.out.below hAPx0 Nx0.out.lt)
    have Nx0 := hide (Nx0.out.below hAPx0 Nx0.out.lt)
    have Px0 : Row (u4.alloc (.cells #[.slice x0A1 x0.files.length x0c1, .slice x0A2 x0.names.length x0c2, .slice x0A3 x0.moves.length x0c3] 83)) u4.heap.size 83 [.slice x0A1 x0.files.length x0c1, .slice x0A2 x0.names.length x0c2, .slice x0A3 x0.moves.length x0c3] := Row.new u4 _ _
    clear hAPx0
    have c4_Q0_0 := Q0.cell 0
    have c4_Q0_1 := Q0.cell 1
    have c4_Q0_2 := Q0.cell 2
    have c4_Px0_0 := Px0.cell 0
    have c4_Px0_1 := Px0.cell 1
    have c4_Px0_2 := Px0.cell 2
    have lt4_Q0 := Q0.lt
    have lt4_Px0 := Px0.lt
    go_wp2_with fail
    refine (implDiskNames_any x0 _ _ _ Ox0.out Nx0.out.lt (by omega)).mono ?_
    rintro e u5 ⟨vg0, fg0, rfl, yg0, zg0, hb5⟩
    clear c4_Q0_0 c4_Q0_1 c4_Q0_2 c4_Px0_0 c4_Px0_1 c4_Px0_2 lt4_Q0 lt4_Px0
    have S5 := hide (show u4.heap.size + 1 ≤ u5.heap.size from by have := hb5.size; simpa only [World.size_alloc, size_setRow] using this)
    have B5 := hide (BPx0.out.trans (hb5.mono BPx0.out.size))
    have Q0 := Q0.below hb5 Q0.lt
    have Px0 := Px0.below hb5 Px0.lt
    have Ow0 := hide (Ow0.out.below hb5 Nw0.out.lt)
    have Nw0 := hide (Nw0.out.below hb5 Nw0.out.lt)
    have Ox0 := hide (Ox0.out.below hb5 Nx0.out.lt)
    have Nx0 := hide (Nx0.out.below hb5 Nx0.out.lt)
    clear hb5
    rw [← HR0.out] at yg0
    have Og0 := hide yg0
    have Ng0 := hide zg0
    have Lg0 := hide (show ∀ g ∈ fg0, u4.heap.size + 1 ≤ g ∧ g < u5.heap.size from fun g hg => ⟨by have := (zg0.fr g hg).1; simpa only [World.size_alloc, size_setRow] using this, zg0.lt g hg⟩)
    clear yg0 zg0
    obtain ⟨g0A, g0c, rfl, _, _⟩ := Og0.out.slice
    have c5_Q0_0 := Q0.cell 0
    have c5_Q0_1 := Q0.cell 1
    have c5_Q0_2 := Q0.cell 2
    have c5_Px0_0 := Px0.cell 0
    have c5_Px0_1 := Px0.cell 1
    have c5_Px0_2 := Px0.cell 2
    have lt5_Q0 := Q0.lt
    have lt5_Px0 := Px0.lt
    go_wp2_with fail
    refine (eqStringS_same r0 _ _ _ _ _ _ _ _ _ Og0.out Ow0.out).mono ?_
    rintro e u6 ⟨rfl, hb6⟩
    clear c5_Q0_0 c5_Q0_1 c5_Q0_2 c5_Px0_0 c5_Px0_1 c5_Px0_2 lt5_Q0 lt5_Px0
    have S6 := hide (show u5.heap.size ≤ u6.heap.size from by have := hb6.size; simpa only [World.size_alloc, size_setRow] using this)
    have B6 := hide (B5.out.trans (hb6.mono B5.out.size))
    have Q0 := Q0.below hb6 Q0.lt
    have Px0 := Px0.below hb6 Px0.lt
    have Ow0 := hide (Ow0.out.below hb6 Nw0.out.lt)
    have Nw0 := hide (Nw0.out.below hb6 Nw0.out.lt)
    have Ox0 := hide (Ox0.out.below hb6 Nx0.out.lt)
    have Nx0 := hide (Nx0.out.below hb6 Nx0.out.lt)
    have Og0 := hide (Og0.out.below hb6 Ng0.out.lt)
    have Ng0 := hide (Ng0.out.below hb6 Ng0.out.lt)
    clear hb6
    have c6_Q0_0 := Q0.cell 0
    have c6_Q0_1 := Q0.cell 1
    have c6_Q0_2 := Q0.cell 2
    have c6_Px0_0 := Px0.cell 0
    have c6_Px0_1 := Px0.cell 1
    have c6_Px0_2 := Px0.cell 2
    have lt6_Q0 := Q0.lt
    have lt6_Px0 := Px0.lt
    go_wp2
    go_region_held3 (fun w' => w'.cell? ⟨w.heap.size, 0, none⟩ = some (.slice a0A1 x0.files.length a0c1) ∧ w'.cell? ⟨w.heap.size, 1, none⟩ = some (.slice a0A2 x0.names.length a0c2) ∧ w'.cell? ⟨w.heap.size, 2, none⟩ = some (.slice a0A3 x0.moves.length a0c3) ∧ w'.cell? ⟨u4.heap.size, 0, none⟩ = some (.slice x0A1 x0.files.length x0c1) ∧ w'.cell? ⟨u4.heap.size, 1, none⟩ = some (.slice x0A2 x0.names.length x0c2) ∧ w'.cell? ⟨u4.heap.size, 2, none⟩ = some (.slice x0A3 x0.moves.length x0c3))
      (first | go_keep | exact ⟨me0_1_Q0.cell 0, me0_1_Q0.cell 1, me0_1_Q0.cell 2, me0_1_Px0.cell 0, me0_1_Px0.cell 1, me0_1_Px0.cell 2⟩ | exact ⟨me0_0_Q0.cell 0, me0_0_Q0.cell 1, me0_0_Q0.cell 2, me0_0_Px0.cell 0, me0_0_Px0.cell 1, me0_0_Px0.cell 2⟩)
      (first
        | (go_at_call 53; refine (eqDisk_any x0 _ _ _ _ _ ((Ox0.out.drewN 1).below he0_0 (by exact Nx0.out.lt)) ye0 (by exact (Nx0.out.lt.mono he0_0.size)) ze0.lt).mono ?_; rintro e ue0_1 ⟨rfl, he0_1⟩; have me0_1_Q0 := me0_0_Q0.below he0_1 me0_0_Q0.lt; have me0_1_Px0 := me0_0_Px0.below he0_1 me0_0_Px0.lt)
        | (go_at_call 51; refine (toDisk_any x0 _ _ _ (HO0.out.below B6.out.drew hl0) (hl0.up B6.out.drew) (by omega)).mono ?_; rintro e ue0_0 ⟨ve0, fe0, rfl, ye0, ze0, he0_0⟩; have me0_0_Q0 := (Q0.drewN 1).below he0_0 (by exact Q0.lt); have me0_0_Px0 := (Px0.drewN 1).below he0_0 (by exact Px0.lt)))
    clear c6_Q0_0 c6_Q0_1 c6_Q0_2 c6_Px0_0 c6_Px0_1 c6_Px0_2 lt6_Q0 lt6_Px0
    have hze0 : Below u6.heap.size u6 ue0_0 := ⟨he0_0.os, he0_0.tape, he0_0.output, he0_0.size, he0_0.block⟩
    clear me0_0_Q0 me0_0_Px0 me0_1_Q0 me0_1_Px0
    have S7 := hide (show u6.heap.size ≤ ue0_0.heap.size from by have := hze0.size; simpa only [World.size_alloc, size_setRow] using this)
    have B7 := hide (B6.out.trans (hze0.mono B6.out.size))
    have Q0 := Q0.below hze0 Q0.lt
    have Px0 := Px0.below hze0 Px0.lt
    have Ow0 := hide (Ow0.out.below hze0 Nw0.out.lt)
    have Nw0 := hide (Nw0.out.below hze0 Nw0.out.lt)
    have Ox0 := hide (Ox0.out.below hze0 Nx0.out.lt)
    have Nx0 := hide (Nx0.out.below hze0 Nx0.out.lt)
    have Og0 := hide (Og0.out.below hze0 Ng0.out.lt)
    have Ng0 := hide (Ng0.out.below hze0 Ng0.out.lt)
    have S8 := hide (show ue0_0.heap.size ≤ ue0_1.heap.size from by have := he0_1.size; simpa only [World.size_alloc, size_setRow] using this)
    have B8 := hide (B7.out.trans (he0_1.mono B7.out.size))
    have Q0 := Q0.below he0_1 Q0.lt
    have Px0 := Px0.below he0_1 Px0.lt
    have Ow0 := hide (Ow0.out.below he0_1 Nw0.out.lt)
    have Nw0 := hide (Nw0.out.below he0_1 Nw0.out.lt)
    have Ox0 := hide (Ox0.out.below he0_1 Nx0.out.lt)
    have Nx0 := hide (Nx0.out.below he0_1 Nx0.out.lt)
    have Og0 := hide (Og0.out.below he0_1 Ng0.out.lt)
    have Ng0 := hide (Ng0.out.below he0_1 Ng0.out.lt)
    clear he0_0 he0_1 hze0
    clear ye0 ze0
    have c8_Q0_0 := Q0.cell 0
    have c8_Q0_1 := Q0.cell 1
    have c8_Q0_2 := Q0.cell 2
    have c8_Px0_0 := Px0.cell 0
    have c8_Px0_1 := Px0.cell 1
    have c8_Px0_2 := Px0.cell 2
    have lt8_Q0 := Q0.lt
    have lt8_Px0 := Px0.lt
    go_wp2_with fail
    refine (markDisk_any x0 _ fx0 _ _ (1) _ (by omega) Ox0.out Nx0.out (by omega)).mono ?_
    rintro e u9 ⟨lx0, rfl, ox0, kx0, ht9⟩
    clear c8_Q0_0 c8_Q0_1 c8_Q0_2 c8_Px0_0 c8_Px0_1 c8_Px0_2 lt8_Q0 lt8_Px0
    have S9 := hide (show ue0_1.heap.size ≤ u9.heap.size from ht9.size)
    have B9 := hide (B8.out.trans (ht9.to_below B8.out.size (fun g hg => by have := Lx0.out g hg; have := S1.out; have := S2.out; have := S3.out; have := S4.out; have := S5.out; have := S6.out; have := S7.out; have := S8.out; omega)))
    have Q0 := rowTouch Q0 ht9 (fun hg => by have := Lx0.out _ hg; have := S1.out; have := S2.out; have := S3.out; have := S4.out; have := S5.out; have := S6.out; have := S7.out; have := S8.out; omega)
    have Px0 := rowTouch Px0 ht9 (fun hg => by have := Lx0.out _ hg; have := S1.out; have := S2.out; have := S3.out; have := S4.out; have := S5.out; have := S6.out; have := S7.out; have := S8.out; omega)
    have Ow0 := hide (Ow0.out.touch ht9 Nw0.out.lt (fun g hg hg2 => by have := Lw0.out g hg; have := Lx0.out g hg2; have := S1.out; have := S2.out; have := S3.out; have := S4.out; have := S5.out; have := S6.out; have := S7.out; have := S8.out; omega))
    have Nw0 := hide (ht9.new Nw0.out)
    have Og0 := hide (Og0.out.touch ht9 Ng0.out.lt (fun g hg hg2 => by have := Lg0.out g hg; have := Lx0.out g hg2; have := S1.out; have := S2.out; have := S3.out; have := S4.out; have := S5.out; have := S6.out; have := S7.out; have := S8.out; omega))
    have Ng0 := hide (ht9.new Ng0.out)
    have Ox0 := hide ox0
    have Nx0 := hide (ht9.new Nx0.out)
    have Kx0 := hide kx0
    clear ox0 kx0 ht9
    have c9_Q0_0 := Q0.cell 0
    have c9_Q0_1 := Q0.cell 1
    have c9_Q0_2 := Q0.cell 2
    have c9_Px0_0 := Px0.cell 0
    have c9_Px0_1 := Px0.cell 1
    have c9_Px0_2 := Px0.cell 2
    have lt9_Q0 := Q0.lt
    have lt9_Px0 := Px0.lt
    go_wp2_with fail
    refine (eqStringS_same r0 _ _ _ _ _ _ _ _ _ Og0.out Ow0.out).mono ?_
    rintro e u10 ⟨rfl, hb10⟩
    clear c9_Q0_0 c9_Q0_1 c9_Q0_2 c9_Px0_0 c9_Px0_1 c9_Px0_2 lt9_Q0 lt9_Px0
    have S10 := hide (show u9.heap.size ≤ u10.heap.size from by have := hb10.size; simpa only [World.size_alloc, size_setRow] using this)
    have B10 := hide (B9.out.trans (hb10.mono B9.out.size))
    have Q0 := Q0.below hb10 Q0.lt
    have Ow0 := hide (Ow0.out.below hb10 Nw0.out.lt)
    have Nw0 := hide (Nw0.out.below hb10 Nw0.out.lt)
    have Og0 := hide (Og0.out.below hb10 Ng0.out.lt)
    have Ng0 := hide (Ng0.out.below hb10 Ng0.out.lt)
    clear hb10
    have c10_Q0_0 := Q0.cell 0
    have c10_Q0_1 := Q0.cell 1
    have c10_Q0_2 := Q0.cell 2
    have lt10_Q0 := Q0.lt
    go_wp2_with fail
    refine (markStringS_any r0 _ _ _ fg0 _ _ (1) _ (by omega) Og0.out Ng0.out (by omega)).mono ?_
    rintro e u11 ⟨lg0, rfl, qg0, og0, kg0, ht11⟩
    clear c10_Q0_0 c10_Q0_1 c10_Q0_2 lt10_Q0
    have S11 := hide (show u10.heap.size ≤ u11.heap.size from ht11.size)
    have B11 := hide (B10.out.trans (ht11.to_below B10.out.size (fun g hg => by have := Lg0.out g hg; have := S1.out; have := S2.out; have := S3.out; have := S4.out; have := S5.out; have := S6.out; have := S7.out; have := S8.out; have := S9.out; have := S10.out; omega)))
    have Q0 := rowTouch Q0 ht11 (fun hg => by have := Lg0.out _ hg; have := S1.out; have := S2.out; have := S3.out; have := S4.out; have := S5.out; have := S6.out; have := S7.out; have := S8.out; have := S9.out; have := S10.out; omega)
    have Ow0 := hide (Ow0.out.touch ht11 Nw0.out.lt (fun g hg hg2 => by have := Lw0.out g hg; have := Lg0.out g hg2; have := S1.out; have := S2.out; have := S3.out; have := S4.out; have := S5.out; have := S6.out; have := S7.out; have := S8.out; have := S9.out; have := S10.out; omega))
    have Nw0 := hide (ht11.new Nw0.out)
    have Og0 := hide og0
    have Ng0 := hide (ht11.new Ng0.out)
    have Kg0 := hide kg0
    clear og0 kg0 ht11 qg0
    have c11_Q0_0 := Q0.cell 0
    have c11_Q0_1 := Q0.cell 1
    have c11_Q0_2 := Q0.cell 2
    have lt11_Q0 := Q0.lt
    go_wp2_with fail
    refine (heldStringS_any lg0 _ _ _ fg0 _ (1) (1 + r0.length) _ (by omega) Og0.out Ng0.out.lt Kg0.out (by omega)).mono ?_
    rintro e u12 ⟨rfl, hb12⟩
    clear c11_Q0_0 c11_Q0_1 c11_Q0_2 lt11_Q0
    have S12 := hide (show u11.heap.size ≤ u12.heap.size from by have := hb12.size; simpa only [World.size_alloc, size_setRow] using this)
    have B12 := hide (B11.out.trans (hb12.mono B11.out.size))
    have Q0 := Q0.below hb12 Q0.lt
    have Ow0 := hide (Ow0.out.below hb12 Nw0.out.lt)
    have Nw0 := hide (Nw0.out.below hb12 Nw0.out.lt)
    have Og0 := hide (Og0.out.below hb12 Ng0.out.lt)
    have Ng0 := hide (Ng0.out.below hb12 Ng0.out.lt)
    clear hb12
    have c12_Q0_0 := Q0.cell 0
    have c12_Q0_1 := Q0.cell 1
    have c12_Q0_2 := Q0.cell 2
    have lt12_Q0 := Q0.lt
    go_wp2_with fail
    refine (toDisk_any x0 _ _ _ (HO0.out.below B12.out hl0) (hl0.up B12.out) (by omega)).mono ?_
    rintro e u13 ⟨vht0, fht0, rfl, yht0, zht0, hb13⟩
    clear c12_Q0_0 c12_Q0_1 c12_Q0_2 lt12_Q0
    have S13 := hide (show u12.heap.size ≤ u13.heap.size from by have := hb13.size; simpa only [World.size_alloc, size_setRow] using this)
    have B13 := hide (B12.out.trans (hb13.mono B12.out.size))
    have Q0 := Q0.below hb13 Q0.lt
    have Ow0 := hide (Ow0.out.below hb13 Nw0.out.lt)
    have Nw0 := hide (Nw0.out.below hb13 Nw0.out.lt)
    have Og0 := hide (Og0.out.below hb13 Ng0.out.lt)
    have Ng0 := hide (Ng0.out.below hb13 Ng0.out.lt)
    have Oht0 := hide yht0
    have Nht0 := hide zht0
    have Lht0 := hide (show ∀ g ∈ fht0, u12.heap.size ≤ g ∧ g < u13.heap.size from fun g hg => ⟨by have := (zht0.fr g hg).1; simpa only [World.size_alloc, size_setRow] using this, zht0.lt g hg⟩)
    clear yht0 zht0
    clear hb13
    have lt13_Q0 := Q0.lt
    go_wp2_with fail
    refine (implDiskNames_any x0 _ _ _ Oht0.out Nht0.out.lt (by omega)).mono ?_
    rintro e u14 ⟨vh0, fh0, rfl, yh0, zh0, hb14⟩
    clear lt13_Q0
    have S14 := hide (show u13.heap.size ≤ u14.heap.size from by have := hb14.size; simpa only [World.size_alloc, size_setRow] using this)
    have B14 := hide (B13.out.trans (hb14.mono B13.out.size))
    have Q0 := Q0.below hb14 Q0.lt
    have Ow0 := hide (Ow0.out.below hb14 Nw0.out.lt)
    have Nw0 := hide (Nw0.out.below hb14 Nw0.out.lt)
    have Og0 := hide (Og0.out.below hb14 Ng0.out.lt)
    have Ng0 := hide (Ng0.out.below hb14 Ng0.out.lt)
    have Oht0 := hide (Oht0.out.below hb14 Nht0.out.lt)
    have Nht0 := hide (Nht0.out.below hb14 Nht0.out.lt)
    clear hb14
    rw [← HR0.out] at yh0
    have Oh0 := hide yh0
    have Nh0 := hide zh0
    have Lh0 := hide (show ∀ g ∈ fh0, u13.heap.size ≤ g ∧ g < u14.heap.size from fun g hg => ⟨by have := (zh0.fr g hg).1; simpa only [World.size_alloc, size_setRow] using this, zh0.lt g hg⟩)
    clear yh0 zh0
    obtain ⟨h0A, h0c, rfl, _, _⟩ := Oh0.out.slice
    have c14_Q0_0 := Q0.cell 0
    have c14_Q0_1 := Q0.cell 1
    have c14_Q0_2 := Q0.cell 2
    have lt14_Q0 := Q0.lt
    go_wp2_with fail
    refine (eqStringS_same r0 _ _ _ _ _ _ _ _ _ Oh0.out Ow0.out).mono ?_
    rintro e u15 ⟨rfl, hb15⟩
    clear c14_Q0_0 c14_Q0_1 c14_Q0_2 lt14_Q0
    have S15 := hide (show u14.heap.size ≤ u15.heap.size from by have := hb15.size; simpa only [World.size_alloc, size_setRow] using this)
    have B15 := hide (B14.out.trans (hb15.mono B14.out.size))
    have Q0 := Q0.below hb15 Q0.lt
    have Ow0 := hide (Ow0.out.below hb15 Nw0.out.lt)
    have Nw0 := hide (Nw0.out.below hb15 Nw0.out.lt)
    have Og0 := hide (Og0.out.below hb15 Ng0.out.lt)
    have Ng0 := hide (Ng0.out.below hb15 Ng0.out.lt)
    have Oh0 := hide (Oh0.out.below hb15 Nh0.out.lt)
    have Nh0 := hide (Nh0.out.below hb15 Nh0.out.lt)
    clear hb15
    have c15_Q0_0 := Q0.cell 0
    have c15_Q0_1 := Q0.cell 1
    have c15_Q0_2 := Q0.cell 2
    have lt15_Q0 := Q0.lt
    go_wp2_with fail
    refine (heldStringS_any lg0 _ _ _ fg0 _ (1) (1 + r0.length) _ (by omega) Og0.out Ng0.out.lt Kg0.out (by omega)).mono ?_
    rintro e u16 ⟨rfl, hb16⟩
    clear c15_Q0_0 c15_Q0_1 c15_Q0_2 lt15_Q0
    have S16 := hide (show u15.heap.size ≤ u16.heap.size from by have := hb16.size; simpa only [World.size_alloc, size_setRow] using this)
    have B16 := hide (B15.out.trans (hb16.mono B15.out.size))
    have Q0 := Q0.below hb16 Q0.lt
    have Ow0 := hide (Ow0.out.below hb16 Nw0.out.lt)
    have Nw0 := hide (Nw0.out.below hb16 Nw0.out.lt)
    have Og0 := hide (Og0.out.below hb16 Ng0.out.lt)
    have Ng0 := hide (Ng0.out.below hb16 Ng0.out.lt)
    have Oh0 := hide (Oh0.out.below hb16 Nh0.out.lt)
    have Nh0 := hide (Nh0.out.below hb16 Nh0.out.lt)
    clear hb16
    have c16_Q0_0 := Q0.cell 0
    have c16_Q0_1 := Q0.cell 1
    have c16_Q0_2 := Q0.cell 2
    have lt16_Q0 := Q0.lt
    go_wp2_with fail
    go_ret
    exact ⟨rfl, B16.out⟩
  · rw [szr_no hbk0]
    go_wp2
    go_ret
    exact ⟨rfl, B1.out⟩
end Go.Proofs.Ytdingkbggjehoaa
