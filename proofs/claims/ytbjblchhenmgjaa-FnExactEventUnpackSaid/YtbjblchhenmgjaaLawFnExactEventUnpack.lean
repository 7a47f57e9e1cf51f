/-
  FnExactEventUnpack returns true for every input: the program answers as the reference. No condition.
-/
import Derived.Test.YtbjblchhenmgjaaUnpS
import Derived.Test.YtbjblchhenmgjaaUnpI
import Derived.Test.YtbjblchhenmgjaaNEvent2
import Derived.Test.YtbjblchhenmgjaaHEvent
import Derived.Deep.RegionHeld3
set_option linter.unusedVariables false
set_option linter.unusedSimpArgs false
namespace Go.Proofs.Ytbjblchhenmgjaa
open Go.ChangeShapes Go.WideShapes Go.ChangeAt Go.RowKit

theorem rowTouch {fp : List Nat} {w w2 : World} {g : Nat} {e : TypeId} {cs : List Value} (h : Row w g e cs) (ht : Touch fp w w2) (hn : g ∉ fp) : Row w2 g e cs := (ht.block _ h.lt hn).trans h

set_option maxRecDepth 100000 in
set_option maxHeartbeats 4000000 in
theorem lawFnExactEventUnpack_any (w : World) (x0 : List UInt8) (A0 : Option Addr) (m0 c0 : Nat) (fp0 : List Nat) (ho0 : Ow w (.s 1 (x0).length ((x0).flatMap byteC)) (.slice A0 m0 c0) fp0) (hl0 : Lt fp0 w.heap.size) :
    Calls Try.prog 3 #[.slice A0 m0 c0] w fun e w' => e = .returned (.bool true) ∧ Below w.heap.size w w' := by
  have B0 := hide (Below.refl w.heap.size w)
  have HO0 := hide ho0
  obtain ⟨rfl, hc0, hm0⟩ := ho0.nlen
  clear ho0
  obtain ⟨r0, hr0⟩ : ∃ r, r = unpackE x0 := ⟨_, rfl⟩
  have HR0 := hide hr0
  clear hr0
  by_cases hz0 : (x0.length : Int) ≤ 1048576
  · skip
    go_enter Try.func3, Try.ntmps3
    -- boxes of the parameters
    have hcb0 := unpackE_cnt x0
    have hcr0 : r0.cntTop ≤ 3 + 3 * x0.length := by rw [HR0.out]; exact hcb0
    go_wp2_with fail
    refine (toByteS_any x0 _ _ _ _ _ (HO0.out.below B0.out hl0) (hl0.up B0.out) (by omega)).mono ?_
    rintro e u1 ⟨vwt0, fwt0, rfl, ywt0, zwt0, hb1⟩
    have S1 := hide (show w.heap.size ≤ u1.heap.size from by have := hb1.size; simpa only [World.size_alloc, size_setRow] using this)
    have B1 := hide (B0.out.trans (hb1.mono B0.out.size))
    have Owt0 := hide ywt0
    have Nwt0 := hide zwt0
    have Lwt0 := hide (show ∀ g ∈ fwt0, w.heap.size ≤ g ∧ g < u1.heap.size from fun g hg => ⟨by have := (zwt0.fr g hg).1; simpa only [World.size_alloc, size_setRow] using this, zwt0.lt g hg⟩)
    clear ywt0 zwt0
    clear hb1
    obtain ⟨wt0A, wt0c, rfl, _, _⟩ := Owt0.out.slice
    go_wp2_with fail
    refine (specEventUnpack_any x0 _ _ _ _ _ Owt0.out Nwt0.out.lt (by omega)).mono ?_
    rintro e u2 ⟨vw0, fw0, rfl, yw0, zw0, hb2⟩
    have S2 := hide (show u1.heap.size ≤ u2.heap.size from by have := hb2.size; simpa only [World.size_alloc, size_setRow] using this)
    have B2 := hide (B1.out.trans (hb2.mono B1.out.size))
    have Owt0 := hide (Owt0.out.below hb2 Nwt0.out.lt)
    have Nwt0 := hide (Nwt0.out.below hb2 Nwt0.out.lt)
    clear hb2
    rw [← HR0.out] at yw0
    have Ow0 := hide yw0
    have Nw0 := hide zw0
    have Lw0 := hide (show ∀ g ∈ fw0, u1.heap.size ≤ g ∧ g < u2.heap.size from fun g hg => ⟨by have := (zw0.fr g hg).1; simpa only [World.size_alloc, size_setRow] using this, zw0.lt g hg⟩)
    clear yw0 zw0
    have Tw0 := Ow0.out
    obtain ⟨w0A1, w0c1, w0A2, w0c2, w0f1, w0f2, rfl, w0w0, w0w1, w0w2, w0w3, w0w4, w0o1, w0o2, w0ef⟩ := Tw0.oEvent
    clear Tw0 w0o1 w0o2
    have hAPw0 : Below u2.heap.size u2 (u2.alloc (.cells #[.string r0.type_, .int .i64 r0.version, .int .i64 r0.body.sort, .int .i64 r0.body.num, .string r0.body.text, .slice w0A1 r0.body.names.length w0c1, .slice w0A2 r0.body.kids.length w0c2] 28)) := (Below.refl _ _).alloc (Nat.le_refl _) _
    have BPw0 := hide (B2.out.trans (hAPw0.mono B2.out.size))
    have Ow0 := hide (Ow0.out.below hAPw0 Nw0.out.lt)
    have Nw0 := hide (Nw0.out.below hAPw0 Nw0.out.lt)
    have Pw0 : Row (u2.alloc (.cells #[.string r0.type_, .int .i64 r0.version, .int .i64 r0.body.sort, .int .i64 r0.body.num, .string r0.body.text, .slice w0A1 r0.body.names.length w0c1, .slice w0A2 r0.body.kids.length w0c2] 28)) u2.heap.size 28 [.string r0.type_, .int .i64 r0.version, .int .i64 r0.body.sort, .int .i64 r0.body.num, .string r0.body.text, .slice w0A1 r0.body.names.length w0c1, .slice w0A2 r0.body.kids.length w0c2] := Row.new u2 _ _
    clear hAPw0
    have c2_Pw0_0 := Pw0.cell 0
    have c2_Pw0_1 := Pw0.cell 1
    have c2_Pw0_2 := Pw0.cell 2
    have c2_Pw0_3 := Pw0.cell 3
    have c2_Pw0_4 := Pw0.cell 4
    have c2_Pw0_5 := Pw0.cell 5
    have c2_Pw0_6 := Pw0.cell 6
    have lt2_Pw0 := Pw0.lt
    go_wp2_with fail
    refine (toByteS_any x0 _ _ _ _ _ (HO0.out.below BPw0.out hl0) (hl0.up BPw0.out) (by omega)).mono ?_
    rintro e u3 ⟨vx0, fx0, rfl, yx0, zx0, hb3⟩
    clear c2_Pw0_0 c2_Pw0_1 c2_Pw0_2 c2_Pw0_3 c2_Pw0_4 c2_Pw0_5 c2_Pw0_6 lt2_Pw0
    have S3 := hide (show u2.heap.size + 1 ≤ u3.heap.size from by have := hb3.size; simpa only [World.size_alloc, size_setRow] using this)
    have B3 := hide (BPw0.out.trans (hb3.mono BPw0.out.size))
    have Pw0 := Pw0.below hb3 Pw0.lt
    have Ow0 := hide (Ow0.out.below hb3 Nw0.out.lt)
    have Nw0 := hide (Nw0.out.below hb3 Nw0.out.lt)
    have Ox0 := hide yx0
    have Nx0 := hide zx0
    have Lx0 := hide (show ∀ g ∈ fx0, u2.heap.size + 1 ≤ g ∧ g < u3.heap.size from fun g hg => ⟨by have := (zx0.fr g hg).1; simpa only [World.size_alloc, size_setRow] using this, zx0.lt g hg⟩)
    clear yx0 zx0
    clear hb3
    obtain ⟨x0A, x0c, rfl, _, _⟩ := Ox0.out.slice
    have c3_Pw0_0 := Pw0.cell 0
    have c3_Pw0_1 := Pw0.cell 1
    have c3_Pw0_2 := Pw0.cell 2
    have c3_Pw0_3 := Pw0.cell 3
    have c3_Pw0_4 := Pw0.cell 4
    have c3_Pw0_5 := Pw0.cell 5
    have c3_Pw0_6 := Pw0.cell 6
    have lt3_Pw0 := Pw0.lt
    go_wp2_with fail
    refine (implEventUnpack_any x0 _ _ _ _ _ Ox0.out Nx0.out.lt (by omega)).mono ?_
    rintro e u4 ⟨vg0, fg0, rfl, yg0, zg0, hb4⟩
    clear c3_Pw0_0 c3_Pw0_1 c3_Pw0_2 c3_Pw0_3 c3_Pw0_4 c3_Pw0_5 c3_Pw0_6 lt3_Pw0
    have S4 := hide (show u3.heap.size ≤ u4.heap.size from by have := hb4.size; simpa only [World.size_alloc, size_setRow] using this)
    have B4 := hide (B3.out.trans (hb4.mono B3.out.size))
    have Pw0 := Pw0.below hb4 Pw0.lt
    have Ow0 := hide (Ow0.out.below hb4 Nw0.out.lt)
    have Nw0 := hide (Nw0.out.below hb4 Nw0.out.lt)
    have Ox0 := hide (Ox0.out.below hb4 Nx0.out.lt)
    have Nx0 := hide (Nx0.out.below hb4 Nx0.out.lt)
    clear hb4
    rw [← HR0.out] at yg0
    have Og0 := hide yg0
    have Ng0 := hide zg0
    have Lg0 := hide (show ∀ g ∈ fg0, u3.heap.size ≤ g ∧ g < u4.heap.size from fun g hg => ⟨by have := (zg0.fr g hg).1; simpa only [World.size_alloc, size_setRow] using this, zg0.lt g hg⟩)
    clear yg0 zg0
    have Tg0 := Og0.out
    obtain ⟨g0A1, g0c1, g0A2, g0c2, g0f1, g0f2, rfl, g0w0, g0w1, g0w2, g0w3, g0w4, g0o1, g0o2, g0ef⟩ := Tg0.oEvent
    clear Tg0 g0o1 g0o2
    have hAPg0 : Below u4.heap.size u4 (u4.alloc (.cells #[.string r0.type_, .int .i64 r0.version, .int .i64 r0.body.sort, .int .i64 r0.body.num, .string r0.body.text, .slice g0A1 r0.body.names.length g0c1, .slice g0A2 r0.body.kids.length g0c2] 28)) := (Below.refl _ _).alloc (Nat.le_refl _) _
    have BPg0 := hide (B4.out.trans (hAPg0.mono B4.out.size))
    have Pw0 := Pw0.below hAPg0 Pw0.lt
    have Ow0 := hide (Ow0.out.below hAPg0 Nw0.out.lt)
    have Nw0 := hide (Nw0.out.below hAPg0 Nw0.out.lt)
    have Ox0 := hide (Ox0.out.below hAPg0 Nx0.out.lt)
    have Nx0 := hide (Nx0.out.below hAPg0 Nx0.out.lt)
    have Og0 := hide (Og0.out.below hAPg0 Ng0.out.lt)
    have Ng0 := hide (Ng0.out.below hAPg0 Ng0.out.lt)
    have Pg0 : Row (u4.alloc (.cells #[.string r0.type_, .int .i64 r0.version, .int .i64 r0.body.sort, .int .i64 r0.body.num, .string r0.body.text, .slice g0A1 r0.body.names.length g0c1, .slice g0A2 r0.body.kids.length g0c2] 28)) u4.heap.size 28 [.string r0.type_, .int .i64 r0.version, .int .i64 r0.body.sort, .int .i64 r0.body.num, .string r0.body.text, .slice g0A1 r0.body.names.length g0c1, .slice g0A2 r0.body.kids.length g0c2] := Row.new u4 _ _
    clear hAPg0
    have c4_Pw0_0 := Pw0.cell 0
    have c4_Pw0_1 := Pw0.cell 1
    have c4_Pw0_2 := Pw0.cell 2
    have c4_Pw0_3 := Pw0.cell 3
    have c4_Pw0_4 := Pw0.cell 4
    have c4_Pw0_5 := Pw0.cell 5
    have c4_Pw0_6 := Pw0.cell 6
    have c4_Pg0_0 := Pg0.cell 0
    have c4_Pg0_1 := Pg0.cell 1
    have c4_Pg0_2 := Pg0.cell 2
    have c4_Pg0_3 := Pg0.cell 3
    have c4_Pg0_4 := Pg0.cell 4
    have c4_Pg0_5 := Pg0.cell 5
    have c4_Pg0_6 := Pg0.cell 6
    have lt4_Pw0 := Pw0.lt
    have lt4_Pg0 := Pg0.lt
    go_wp2_with fail
    refine (eqEvent_any r0 _ _ _ _ _ Og0.out Ow0.out Ng0.out.lt Nw0.out.lt).mono ?_
    rintro e u5 ⟨rfl, hb5⟩
    clear c4_Pw0_0 c4_Pw0_1 c4_Pw0_2 c4_Pw0_3 c4_Pw0_4 c4_Pw0_5 c4_Pw0_6 c4_Pg0_0 c4_Pg0_1 c4_Pg0_2 c4_Pg0_3 c4_Pg0_4 c4_Pg0_5 c4_Pg0_6 lt4_Pw0 lt4_Pg0
    have S5 := hide (show u4.heap.size + 1 ≤ u5.heap.size from by have := hb5.size; simpa only [World.size_alloc, size_setRow] using this)
    have B5 := hide (BPg0.out.trans (hb5.mono BPg0.out.size))
    have Pw0 := Pw0.below hb5 Pw0.lt
    have Pg0 := Pg0.below hb5 Pg0.lt
    have Ow0 := hide (Ow0.out.below hb5 Nw0.out.lt)
    have Nw0 := hide (Nw0.out.below hb5 Nw0.out.lt)
    have Ox0 := hide (Ox0.out.below hb5 Nx0.out.lt)
    have Nx0 := hide (Nx0.out.below hb5 Nx0.out.lt)
    have Og0 := hide (Og0.out.below hb5 Ng0.out.lt)
    have Ng0 := hide (Ng0.out.below hb5 Ng0.out.lt)
    clear hb5
    have c5_Pw0_0 := Pw0.cell 0
    have c5_Pw0_1 := Pw0.cell 1
    have c5_Pw0_2 := Pw0.cell 2
    have c5_Pw0_3 := Pw0.cell 3
    have c5_Pw0_4 := Pw0.cell 4
    have c5_Pw0_5 := Pw0.cell 5
    have c5_Pw0_6 := Pw0.cell 6
    have c5_Pg0_0 := Pg0.cell 0
    have c5_Pg0_1 := Pg0.cell 1
    have c5_Pg0_2 := Pg0.cell 2
    have c5_Pg0_3 := Pg0.cell 3
    have c5_Pg0_4 := Pg0.cell 4
    have c5_Pg0_5 := Pg0.cell 5
    have c5_Pg0_6 := Pg0.cell 6
    have lt5_Pw0 := Pw0.lt
    have lt5_Pg0 := Pg0.lt
    go_wp2_with fail
    refine (toByteS_any x0 _ _ _ _ _ (HO0.out.below B5.out hl0) (hl0.up B5.out) (by omega)).mono ?_
    rintro e u6 ⟨ve0, fe0, rfl, ye0, ze0, hb6⟩
    clear c5_Pw0_0 c5_Pw0_1 c5_Pw0_2 c5_Pw0_3 c5_Pw0_4 c5_Pw0_5 c5_Pw0_6 c5_Pg0_0 c5_Pg0_1 c5_Pg0_2 c5_Pg0_3 c5_Pg0_4 c5_Pg0_5 c5_Pg0_6 lt5_Pw0 lt5_Pg0
    have S6 := hide (show u5.heap.size ≤ u6.heap.size from by have := hb6.size; simpa only [World.size_alloc, size_setRow] using this)
    have B6 := hide (B5.out.trans (hb6.mono B5.out.size))
    have Pw0 := Pw0.below hb6 Pw0.lt
    have Pg0 := Pg0.below hb6 Pg0.lt
    have Ow0 := hide (Ow0.out.below hb6 Nw0.out.lt)
    have Nw0 := hide (Nw0.out.below hb6 Nw0.out.lt)
    have Ox0 := hide (Ox0.out.below hb6 Nx0.out.lt)
    have Nx0 := hide (Nx0.out.below hb6 Nx0.out.lt)
    have Og0 := hide (Og0.out.below hb6 Ng0.out.lt)
    have Ng0 := hide (Ng0.out.below hb6 Ng0.out.lt)
    have Oe0 := hide ye0
    have Ne0 := hide ze0
    have Le0 := hide (show ∀ g ∈ fe0, u5.heap.size ≤ g ∧ g < u6.heap.size from fun g hg => ⟨by have := (ze0.fr g hg).1; simpa only [World.size_alloc, size_setRow] using this, ze0.lt g hg⟩)
    clear ye0 ze0
    clear hb6
    obtain ⟨e0A, e0c, rfl, _, _⟩ := Oe0.out.slice
    have lt6_Pw0 := Pw0.lt
    have lt6_Pg0 := Pg0.lt
    go_wp2_with fail
    refine (eqByteS_same x0 _ _ _ _ _ _ _ _ _ Ox0.out Oe0.out).mono ?_
    rintro e u7 ⟨rfl, hb7⟩
    clear lt6_Pw0 lt6_Pg0
    have S7 := hide (show u6.heap.size ≤ u7.heap.size from by have := hb7.size; simpa only [World.size_alloc, size_setRow] using this)
    have B7 := hide (B6.out.trans (hb7.mono B6.out.size))
    have Pw0 := Pw0.below hb7 Pw0.lt
    have Pg0 := Pg0.below hb7 Pg0.lt
    have Ow0 := hide (Ow0.out.below hb7 Nw0.out.lt)
    have Nw0 := hide (Nw0.out.below hb7 Nw0.out.lt)
    have Ox0 := hide (Ox0.out.below hb7 Nx0.out.lt)
    have Nx0 := hide (Nx0.out.below hb7 Nx0.out.lt)
    have Og0 := hide (Og0.out.below hb7 Ng0.out.lt)
    have Ng0 := hide (Ng0.out.below hb7 Ng0.out.lt)
    have Oe0 := hide (Oe0.out.below hb7 Ne0.out.lt)
    have Ne0 := hide (Ne0.out.below hb7 Ne0.out.lt)
    clear hb7
    have c7_Pw0_0 := Pw0.cell 0
    have c7_Pw0_1 := Pw0.cell 1
    have c7_Pw0_2 := Pw0.cell 2
    have c7_Pw0_3 := Pw0.cell 3
    have c7_Pw0_4 := Pw0.cell 4
    have c7_Pw0_5 := Pw0.cell 5
    have c7_Pw0_6 := Pw0.cell 6
    have c7_Pg0_0 := Pg0.cell 0
    have c7_Pg0_1 := Pg0.cell 1
    have c7_Pg0_2 := Pg0.cell 2
    have c7_Pg0_3 := Pg0.cell 3
    have c7_Pg0_4 := Pg0.cell 4
    have c7_Pg0_5 := Pg0.cell 5
    have c7_Pg0_6 := Pg0.cell 6
    have lt7_Pw0 := Pw0.lt
    have lt7_Pg0 := Pg0.lt
    go_wp2_with fail
    refine (markByteS_any x0 _ _ _ fx0 _ _ (1) _ (by omega) Ox0.out Nx0.out (by omega)).mono ?_
    rintro e u8 ⟨lx0, rfl, qx0, ox0, kx0, ht8⟩
    clear c7_Pw0_0 c7_Pw0_1 c7_Pw0_2 c7_Pw0_3 c7_Pw0_4 c7_Pw0_5 c7_Pw0_6 c7_Pg0_0 c7_Pg0_1 c7_Pg0_2 c7_Pg0_3 c7_Pg0_4 c7_Pg0_5 c7_Pg0_6 lt7_Pw0 lt7_Pg0
    have S8 := hide (show u7.heap.size ≤ u8.heap.size from ht8.size)
    have B8 := hide (B7.out.trans (ht8.to_below B7.out.size (fun g hg => by have := Lx0.out g hg; have := S1.out; have := S2.out; have := S3.out; have := S4.out; have := S5.out; have := S6.out; have := S7.out; omega)))
    have Pw0 := rowTouch Pw0 ht8 (fun hg => by have := Lx0.out _ hg; have := S1.out; have := S2.out; have := S3.out; have := S4.out; have := S5.out; have := S6.out; have := S7.out; omega)
    have Pg0 := rowTouch Pg0 ht8 (fun hg => by have := Lx0.out _ hg; have := S1.out; have := S2.out; have := S3.out; have := S4.out; have := S5.out; have := S6.out; have := S7.out; omega)
    have Ow0 := hide (Ow0.out.touch ht8 Nw0.out.lt (fun g hg hg2 => by have := Lw0.out g hg; have := Lx0.out g hg2; have := S1.out; have := S2.out; have := S3.out; have := S4.out; have := S5.out; have := S6.out; have := S7.out; omega))
    have Nw0 := hide (ht8.new Nw0.out)
    have Og0 := hide (Og0.out.touch ht8 Ng0.out.lt (fun g hg hg2 => by have := Lg0.out g hg; have := Lx0.out g hg2; have := S1.out; have := S2.out; have := S3.out; have := S4.out; have := S5.out; have := S6.out; have := S7.out; omega))
    have Ng0 := hide (ht8.new Ng0.out)
    have Ox0 := hide ox0
    have Nx0 := hide (ht8.new Nx0.out)
    have Kx0 := hide kx0
    clear ox0 kx0 ht8 qx0
    have c8_Pw0_0 := Pw0.cell 0
    have c8_Pw0_1 := Pw0.cell 1
    have c8_Pw0_2 := Pw0.cell 2
    have c8_Pw0_3 := Pw0.cell 3
    have c8_Pw0_4 := Pw0.cell 4
    have c8_Pw0_5 := Pw0.cell 5
    have c8_Pw0_6 := Pw0.cell 6
    have c8_Pg0_0 := Pg0.cell 0
    have c8_Pg0_1 := Pg0.cell 1
    have c8_Pg0_2 := Pg0.cell 2
    have c8_Pg0_3 := Pg0.cell 3
    have c8_Pg0_4 := Pg0.cell 4
    have c8_Pg0_5 := Pg0.cell 5
    have c8_Pg0_6 := Pg0.cell 6
    have lt8_Pw0 := Pw0.lt
    have lt8_Pg0 := Pg0.lt
    go_wp2_with fail
    refine (eqEvent_any r0 _ _ _ _ _ Og0.out Ow0.out Ng0.out.lt Nw0.out.lt).mono ?_
    rintro e u9 ⟨rfl, hb9⟩
    clear c8_Pw0_0 c8_Pw0_1 c8_Pw0_2 c8_Pw0_3 c8_Pw0_4 c8_Pw0_5 c8_Pw0_6 c8_Pg0_0 c8_Pg0_1 c8_Pg0_2 c8_Pg0_3 c8_Pg0_4 c8_Pg0_5 c8_Pg0_6 lt8_Pw0 lt8_Pg0
    have S9 := hide (show u8.heap.size ≤ u9.heap.size from by have := hb9.size; simpa only [World.size_alloc, size_setRow] using this)
    have B9 := hide (B8.out.trans (hb9.mono B8.out.size))
    have Pw0 := Pw0.below hb9 Pw0.lt
    have Pg0 := Pg0.below hb9 Pg0.lt
    have Ow0 := hide (Ow0.out.below hb9 Nw0.out.lt)
    have Nw0 := hide (Nw0.out.below hb9 Nw0.out.lt)
    have Og0 := hide (Og0.out.below hb9 Ng0.out.lt)
    have Ng0 := hide (Ng0.out.below hb9 Ng0.out.lt)
    clear hb9
    have c9_Pw0_0 := Pw0.cell 0
    have c9_Pw0_1 := Pw0.cell 1
    have c9_Pw0_2 := Pw0.cell 2
    have c9_Pw0_3 := Pw0.cell 3
    have c9_Pw0_4 := Pw0.cell 4
    have c9_Pw0_5 := Pw0.cell 5
    have c9_Pw0_6 := Pw0.cell 6
    have c9_Pg0_0 := Pg0.cell 0
    have c9_Pg0_1 := Pg0.cell 1
    have c9_Pg0_2 := Pg0.cell 2
    have c9_Pg0_3 := Pg0.cell 3
    have c9_Pg0_4 := Pg0.cell 4
    have c9_Pg0_5 := Pg0.cell 5
    have c9_Pg0_6 := Pg0.cell 6
    have lt9_Pw0 := Pw0.lt
    have lt9_Pg0 := Pg0.lt
    go_wp2_with fail
    refine (markEvent_any r0 _ fg0 _ _ (1) _ (by omega) Og0.out Ng0.out (by omega)).mono ?_
    rintro e u10 ⟨lg0, rfl, og0, kg0, ht10⟩
    clear c9_Pw0_0 c9_Pw0_1 c9_Pw0_2 c9_Pw0_3 c9_Pw0_4 c9_Pw0_5 c9_Pw0_6 c9_Pg0_0 c9_Pg0_1 c9_Pg0_2 c9_Pg0_3 c9_Pg0_4 c9_Pg0_5 c9_Pg0_6 lt9_Pw0 lt9_Pg0
    have S10 := hide (show u9.heap.size ≤ u10.heap.size from ht10.size)
    have B10 := hide (B9.out.trans (ht10.to_below B9.out.size (fun g hg => by have := Lg0.out g hg; have := S1.out; have := S2.out; have := S3.out; have := S4.out; have := S5.out; have := S6.out; have := S7.out; have := S8.out; have := S9.out; omega)))
    have Pw0 := rowTouch Pw0 ht10 (fun hg => by have := Lg0.out _ hg; have := S1.out; have := S2.out; have := S3.out; have := S4.out; have := S5.out; have := S6.out; have := S7.out; have := S8.out; have := S9.out; omega)
    have Pg0 := rowTouch Pg0 ht10 (fun hg => by have := Lg0.out _ hg; have := S1.out; have := S2.out; have := S3.out; have := S4.out; have := S5.out; have := S6.out; have := S7.out; have := S8.out; have := S9.out; omega)
    have Ow0 := hide (Ow0.out.touch ht10 Nw0.out.lt (fun g hg hg2 => by have := Lw0.out g hg; have := Lg0.out g hg2; have := S1.out; have := S2.out; have := S3.out; have := S4.out; have := S5.out; have := S6.out; have := S7.out; have := S8.out; have := S9.out; omega))
    have Nw0 := hide (ht10.new Nw0.out)
    have Og0 := hide og0
    have Ng0 := hide (ht10.new Ng0.out)
    have Kg0 := hide kg0
    clear og0 kg0 ht10
    have c10_Pw0_0 := Pw0.cell 0
    have c10_Pw0_1 := Pw0.cell 1
    have c10_Pw0_2 := Pw0.cell 2
    have c10_Pw0_3 := Pw0.cell 3
    have c10_Pw0_4 := Pw0.cell 4
    have c10_Pw0_5 := Pw0.cell 5
    have c10_Pw0_6 := Pw0.cell 6
    have c10_Pg0_0 := Pg0.cell 0
    have c10_Pg0_1 := Pg0.cell 1
    have c10_Pg0_2 := Pg0.cell 2
    have c10_Pg0_3 := Pg0.cell 3
    have c10_Pg0_4 := Pg0.cell 4
    have c10_Pg0_5 := Pg0.cell 5
    have c10_Pg0_6 := Pg0.cell 6
    have lt10_Pw0 := Pw0.lt
    have lt10_Pg0 := Pg0.lt
    go_wp2_with fail
    refine (heldEvent_any lg0 _ fg0 _ (1) (1 + r0.cntTop) _ (by omega) Og0.out Ng0.out.lt Kg0.out (by omega)).mono ?_
    rintro e u11 ⟨rfl, hb11⟩
    clear c10_Pw0_0 c10_Pw0_1 c10_Pw0_2 c10_Pw0_3 c10_Pw0_4 c10_Pw0_5 c10_Pw0_6 c10_Pg0_0 c10_Pg0_1 c10_Pg0_2 c10_Pg0_3 c10_Pg0_4 c10_Pg0_5 c10_Pg0_6 lt10_Pw0 lt10_Pg0
    have S11 := hide (show u10.heap.size ≤ u11.heap.size from by have := hb11.size; simpa only [World.size_alloc, size_setRow] using this)
    have B11 := hide (B10.out.trans (hb11.mono B10.out.size))
    have Pw0 := Pw0.below hb11 Pw0.lt
    have Pg0 := Pg0.below hb11 Pg0.lt
    have Ow0 := hide (Ow0.out.below hb11 Nw0.out.lt)
    have Nw0 := hide (Nw0.out.below hb11 Nw0.out.lt)
    have Og0 := hide (Og0.out.below hb11 Ng0.out.lt)
    have Ng0 := hide (Ng0.out.below hb11 Ng0.out.lt)
    clear hb11
    have c11_Pw0_0 := Pw0.cell 0
    have c11_Pw0_1 := Pw0.cell 1
    have c11_Pw0_2 := Pw0.cell 2
    have c11_Pw0_3 := Pw0.cell 3
    have c11_Pw0_4 := Pw0.cell 4
    have c11_Pw0_5 := Pw0.cell 5
    have c11_Pw0_6 := Pw0.cell 6
    have c11_Pg0_0 := Pg0.cell 0
    have c11_Pg0_1 := Pg0.cell 1
    have c11_Pg0_2 := Pg0.cell 2
    have c11_Pg0_3 := Pg0.cell 3
    have c11_Pg0_4 := Pg0.cell 4
    have c11_Pg0_5 := Pg0.cell 5
    have c11_Pg0_6 := Pg0.cell 6
    have lt11_Pw0 := Pw0.lt
    have lt11_Pg0 := Pg0.lt
    go_wp2_with fail
    refine (toByteS_any x0 _ _ _ _ _ (HO0.out.below B11.out hl0) (hl0.up B11.out) (by omega)).mono ?_
    rintro e u12 ⟨vht0, fht0, rfl, yht0, zht0, hb12⟩
    clear c11_Pw0_0 c11_Pw0_1 c11_Pw0_2 c11_Pw0_3 c11_Pw0_4 c11_Pw0_5 c11_Pw0_6 c11_Pg0_0 c11_Pg0_1 c11_Pg0_2 c11_Pg0_3 c11_Pg0_4 c11_Pg0_5 c11_Pg0_6 lt11_Pw0 lt11_Pg0
    have S12 := hide (show u11.heap.size ≤ u12.heap.size from by have := hb12.size; simpa only [World.size_alloc, size_setRow] using this)
    have B12 := hide (B11.out.trans (hb12.mono B11.out.size))
    have Pw0 := Pw0.below hb12 Pw0.lt
    have Pg0 := Pg0.below hb12 Pg0.lt
    have Ow0 := hide (Ow0.out.below hb12 Nw0.out.lt)
    have Nw0 := hide (Nw0.out.below hb12 Nw0.out.lt)
    have Og0 := hide (Og0.out.below hb12 Ng0.out.lt)
    have Ng0 := hide (Ng0.out.below hb12 Ng0.out.lt)
    have Oht0 := hide yht0
    have Nht0 := hide zht0
    have Lht0 := hide (show ∀ g ∈ fht0, u11.heap.size ≤ g ∧ g < u12.heap.size from fun g hg => ⟨by have := (zht0.fr g hg).1; simpa only [World.size_alloc, size_setRow] using this, zht0.lt g hg⟩)
    clear yht0 zht0
    clear hb12
    obtain ⟨ht0A, ht0c, rfl, _, _⟩ := Oht0.out.slice
    have lt12_Pw0 := Pw0.lt
    have lt12_Pg0 := Pg0.lt
    go_wp2_with fail
    refine (implEventUnpack_any x0 _ _ _ _ _ Oht0.out Nht0.out.lt (by omega)).mono ?_
    rintro e u13 ⟨vh0, fh0, rfl, yh0, zh0, hb13⟩
    clear lt12_Pw0 lt12_Pg0
    have S13 := hide (show u12.heap.size ≤ u13.heap.size from by have := hb13.size; simpa only [World.size_alloc, size_setRow] using this)
    have B13 := hide (B12.out.trans (hb13.mono B12.out.size))
    have Pw0 := Pw0.below hb13 Pw0.lt
    have Pg0 := Pg0.below hb13 Pg0.lt
    have Ow0 := hide (Ow0.out.below hb13 Nw0.out.lt)
    have Nw0 := hide (Nw0.out.below hb13 Nw0.out.lt)
    have Og0 := hide (Og0.out.below hb13 Ng0.out.lt)
    have Ng0 := hide (Ng0.out.below hb13 Ng0.out.lt)
    have Oht0 := hide (Oht0.out.below hb13 Nht0.out.lt)
    have Nht0 := hide (Nht0.out.below hb13 Nht0.out.lt)
    clear hb13
    rw [← HR0.out] at yh0
    have Oh0 := hide yh0
    have Nh0 := hide zh0
    have Lh0 := hide (show ∀ g ∈ fh0, u12.heap.size ≤ g ∧ g < u13.heap.size from fun g hg => ⟨by have := (zh0.fr g hg).1; simpa only [World.size_alloc, size_setRow] using this, zh0.lt g hg⟩)
    clear yh0 zh0
    have Th0 := Oh0.out
    obtain ⟨h0A1, h0c1, h0A2, h0c2, h0f1, h0f2, rfl, h0w0, h0w1, h0w2, h0w3, h0w4, h0o1, h0o2, h0ef⟩ := Th0.oEvent
    clear Th0 h0o1 h0o2
    have hAPh0 : Below u13.heap.size u13 (u13.alloc (.cells #[.string r0.type_, .int .i64 r0.version, .int .i64 r0.body.sort, .int .i64 r0.body.num, .string r0.body.text, .slice h0A1 r0.body.names.length h0c1, .slice h0A2 r0.body.kids.length h0c2] 28)) := (Below.refl _ _).alloc (Nat.le_refl _) _
    have BPh0 := hide (B13.out.trans (hAPh0.mono B13.out.size))
    have Pw0 := Pw0.below hAPh0 Pw0.lt
    have Pg0 := Pg0.below hAPh0 Pg0.lt
    have Ow0 := hide (Ow0.out.below hAPh0 Nw0.out.lt)
    have Nw0 := hide (Nw0.out.below hAPh0 Nw0.out.lt)
    have Og0 := hide (Og0.out.below hAPh0 Ng0.out.lt)
    have Ng0 := hide (Ng0.out.below hAPh0 Ng0.out.lt)
    have Oh0 := hide (Oh0.out.below hAPh0 Nh0.out.lt)
    have Nh0 := hide (Nh0.out.below hAPh0 Nh0.out.lt)
    have Ph0 : Row (u13.alloc (.cells #[.string r0.type_, .int .i64 r0.version, .int .i64 r0.body.sort, .int .i64 r0.body.num, .string r0.body.text, .slice h0A1 r0.body.names.length h0c1, .slice h0A2 r0.body.kids.length h0c2] 28)) u13.heap.size 28 [.string r0.type_, .int .i64 r0.version, .int .i64 r0.body.sort, .int .i64 r0.body.num, .string r0.body.text, .slice h0A1 r0.body.names.length h0c1, .slice h0A2 r0.body.kids.length h0c2] := Row.new u13 _ _
    clear hAPh0
    have c13_Pw0_0 := Pw0.cell 0
    have c13_Pw0_1 := Pw0.cell 1
    have c13_Pw0_2 := Pw0.cell 2
    have c13_Pw0_3 := Pw0.cell 3
    have c13_Pw0_4 := Pw0.cell 4
    have c13_Pw0_5 := Pw0.cell 5
    have c13_Pw0_6 := Pw0.cell 6
    have c13_Pg0_0 := Pg0.cell 0
    have c13_Pg0_1 := Pg0.cell 1
    have c13_Pg0_2 := Pg0.cell 2
    have c13_Pg0_3 := Pg0.cell 3
    have c13_Pg0_4 := Pg0.cell 4
    have c13_Pg0_5 := Pg0.cell 5
    have c13_Pg0_6 := Pg0.cell 6
    have c13_Ph0_0 := Ph0.cell 0
    have c13_Ph0_1 := Ph0.cell 1
    have c13_Ph0_2 := Ph0.cell 2
    have c13_Ph0_3 := Ph0.cell 3
    have c13_Ph0_4 := Ph0.cell 4
    have c13_Ph0_5 := Ph0.cell 5
    have c13_Ph0_6 := Ph0.cell 6
    have lt13_Pw0 := Pw0.lt
    have lt13_Pg0 := Pg0.lt
    have lt13_Ph0 := Ph0.lt
    go_wp2_with fail
    refine (eqEvent_any r0 _ _ _ _ _ Oh0.out Ow0.out Nh0.out.lt Nw0.out.lt).mono ?_
    rintro e u14 ⟨rfl, hb14⟩
    clear c13_Pw0_0 c13_Pw0_1 c13_Pw0_2 c13_Pw0_3 c13_Pw0_4 c13_Pw0_5 c13_Pw0_6 c13_Pg0_0 c13_Pg0_1 c13_Pg0_2 c13_Pg0_3 c13_Pg0_4 c13_Pg0_5 c13_Pg0_6 c13_Ph0_0 c13_Ph0_1 c13_Ph0_2 c13_Ph0_3 c13_Ph0_4 c13_Ph0_5 c13_Ph0_6 lt13_Pw0 lt13_Pg0 lt13_Ph0
    have S14 := hide (show u13.heap.size + 1 ≤ u14.heap.size from by have := hb14.size; simpa only [World.size_alloc, size_setRow] using this)
    have B14 := hide (BPh0.out.trans (hb14.mono BPh0.out.size))
    have Pw0 := Pw0.below hb14 Pw0.lt
    have Pg0 := Pg0.below hb14 Pg0.lt
    have Ph0 := Ph0.below hb14 Ph0.lt
    have Ow0 := hide (Ow0.out.below hb14 Nw0.out.lt)
    have Nw0 := hide (Nw0.out.below hb14 Nw0.out.lt)
    have Og0 := hide (Og0.out.below hb14 Ng0.out.lt)
    have Ng0 := hide (Ng0.out.below hb14 Ng0.out.lt)
    have Oh0 := hide (Oh0.out.below hb14 Nh0.out.lt)
    have Nh0 := hide (Nh0.out.below hb14 Nh0.out.lt)
    clear hb14
    have c14_Pw0_0 := Pw0.cell 0
    have c14_Pw0_1 := Pw0.cell 1
    have c14_Pw0_2 := Pw0.cell 2
    have c14_Pw0_3 := Pw0.cell 3
    have c14_Pw0_4 := Pw0.cell 4
    have c14_Pw0_5 := Pw0.cell 5
    have c14_Pw0_6 := Pw0.cell 6
    have c14_Pg0_0 := Pg0.cell 0
    have c14_Pg0_1 := Pg0.cell 1
    have c14_Pg0_2 := Pg0.cell 2
    have c14_Pg0_3 := Pg0.cell 3
    have c14_Pg0_4 := Pg0.cell 4
    have c14_Pg0_5 := Pg0.cell 5
    have c14_Pg0_6 := Pg0.cell 6
    have c14_Ph0_0 := Ph0.cell 0
    have c14_Ph0_1 := Ph0.cell 1
    have c14_Ph0_2 := Ph0.cell 2
    have c14_Ph0_3 := Ph0.cell 3
    have c14_Ph0_4 := Ph0.cell 4
    have c14_Ph0_5 := Ph0.cell 5
    have c14_Ph0_6 := Ph0.cell 6
    have lt14_Pw0 := Pw0.lt
    have lt14_Pg0 := Pg0.lt
    have lt14_Ph0 := Ph0.lt
    go_wp2_with fail
    refine (heldEvent_any lg0 _ fg0 _ (1) (1 + r0.cntTop) _ (by omega) Og0.out Ng0.out.lt Kg0.out (by omega)).mono ?_
    rintro e u15 ⟨rfl, hb15⟩
    clear c14_Pw0_0 c14_Pw0_1 c14_Pw0_2 c14_Pw0_3 c14_Pw0_4 c14_Pw0_5 c14_Pw0_6 c14_Pg0_0 c14_Pg0_1 c14_Pg0_2 c14_Pg0_3 c14_Pg0_4 c14_Pg0_5 c14_Pg0_6 c14_Ph0_0 c14_Ph0_1 c14_Ph0_2 c14_Ph0_3 c14_Ph0_4 c14_Ph0_5 c14_Ph0_6 lt14_Pw0 lt14_Pg0 lt14_Ph0
    have S15 := hide (show u14.heap.size ≤ u15.heap.size from by have := hb15.size; simpa only [World.size_alloc, size_setRow] using this)
    have B15 := hide (B14.out.trans (hb15.mono B14.out.size))
    have Pw0 := Pw0.below hb15 Pw0.lt
    have Pg0 := Pg0.below hb15 Pg0.lt
    have Ph0 := Ph0.below hb15 Ph0.lt
    have Ow0 := hide (Ow0.out.below hb15 Nw0.out.lt)
    have Nw0 := hide (Nw0.out.below hb15 Nw0.out.lt)
    have Og0 := hide (Og0.out.below hb15 Ng0.out.lt)
    have Ng0 := hide (Ng0.out.below hb15 Ng0.out.lt)
    have Oh0 := hide (Oh0.out.below hb15 Nh0.out.lt)
    have Nh0 := hide (Nh0.out.below hb15 Nh0.out.lt)
    clear hb15
    have c15_Pw0_0 := Pw0.cell 0
    have c15_Pw0_1 := Pw0.cell 1
    have c15_Pw0_2 := Pw0.cell 2
    have c15_Pw0_3 := Pw0.cell 3
    have c15_Pw0_4 := Pw0.cell 4
    have c15_Pw0_5 := Pw0.cell 5
    have c15_Pw0_6 := Pw0.cell 6
    have c15_Pg0_0 := Pg0.cell 0
    have c15_Pg0_1 := Pg0.cell 1
    have c15_Pg0_2 := Pg0.cell 2
    have c15_Pg0_3 := Pg0.cell 3
    have c15_Pg0_4 := Pg0.cell 4
    have c15_Pg0_5 := Pg0.cell 5
    have c15_Pg0_6 := Pg0.cell 6
    have c15_Ph0_0 := Ph0.cell 0
    have c15_Ph0_1 := Ph0.cell 1
    have c15_Ph0_2 := Ph0.cell 2
    have c15_Ph0_3 := Ph0.cell 3
    have c15_Ph0_4 := Ph0.cell 4
    have c15_Ph0_5 := Ph0.cell 5
    have c15_Ph0_6 := Ph0.cell 6
    have lt15_Pw0 := Pw0.lt
    have lt15_Pg0 := Pg0.lt
    have lt15_Ph0 := Ph0.lt
    go_wp2_with fail
    go_ret
    exact ⟨rfl, B15.out⟩
  · have hz0' : (1048576 : Int) < x0.length := by omega
    go_enter Try.func3, Try.ntmps3
    go_wp2
    go_ret
    exact ⟨rfl, B0.out⟩
end Go.Proofs.Ytbjblchhenmgjaa
