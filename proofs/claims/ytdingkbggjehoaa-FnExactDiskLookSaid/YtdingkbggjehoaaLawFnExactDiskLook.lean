/-
  FnExactDiskLook returns true for every input: the program answers as the reference. No condition.
-/
import Derived.Test.YtdingkbggjehoaaDiskLook
import Derived.Test.YtdingkbggjehoaaHDisk
import Derived.Test.YtdingkbggjehoaaMark
import Derived.Deep.RegionHeld3
set_option linter.unusedVariables false
set_option linter.unusedSimpArgs false
namespace Go.Proofs.Ytdingkbggjehoaa
open Go.ChangeShapes Go.WideShapes Go.ChangeAt Go.RowKit

theorem rowTouch {fp : List Nat} {w w2 : World} {g : Nat} {e : TypeId} {cs : List Value} (h : Row w g e cs) (ht : Touch fp w w2) (hn : g ∉ fp) : Row w2 g e cs := (ht.block _ h.lt hn).trans h

set_option maxRecDepth 100000 in
set_option maxHeartbeats 4000000 in
theorem lawFnExactDiskLook_any (w : World) (x0 : Disk) (us0 : List Value) (fp0 : List Nat) (ho0 : OwC w x0.cells us0 fp0) (hl0 : Lt fp0 w.heap.size) (s1 : ByteArray) (hs1 : s1.size ≤ maxLen) :
    Calls Try.prog 12 #[.agg us0.toArray, .string s1] w fun e w' => e = .returned (.bool true) ∧ Below w.heap.size w w' := by
  have B0 := hide (Below.refl w.heap.size w)
  have HO0 := hide ho0
  obtain ⟨a0A1, a0c1, a0A2, a0c2, a0A3, a0c3, a0f1, a0f2, a0f3, rfl, a0o1, a0o2, a0o3, efp0⟩ := ho0.oDisk
  clear ho0 a0o1 a0o2 a0o3
  have hAQ0 : Below w.heap.size w (w.alloc (.cells #[.slice a0A1 x0.files.length a0c1, .slice a0A2 x0.names.length a0c2, .slice a0A3 x0.moves.length a0c3] 77)) := (Below.refl _ _).alloc (Nat.le_refl _) _
  have BQ0 := hide (B0.out.trans (hAQ0.mono B0.out.size))
  have Q0 : Row (w.alloc (.cells #[.slice a0A1 x0.files.length a0c1, .slice a0A2 x0.names.length a0c2, .slice a0A3 x0.moves.length a0c3] 77)) w.heap.size 77 [.slice a0A1 x0.files.length a0c1, .slice a0A2 x0.names.length a0c2, .slice a0A3 x0.moves.length a0c3] := Row.new w _ _
  clear hAQ0
  by_cases hz1 : (s1.size : Int) ≤ 1048576
  · skip
    go_enter Try.func12, Try.ntmps12
    -- boxes of the parameters
    have c0_Q0_0 := Q0.cell 0
    have c0_Q0_1 := Q0.cell 1
    have c0_Q0_2 := Q0.cell 2
    have lt0_Q0 := Q0.lt
    go_wp2_with fail
    refine (szDisk_any x0 _ _ _ _ (HO0.out.below BQ0.out hl0) (hl0.up BQ0.out) (by omega) (by omega)).mono ?_
    rintro e u1 ⟨rfl, hb1⟩
    clear c0_Q0_0 c0_Q0_1 c0_Q0_2 lt0_Q0
    have S1 := hide (show w.heap.size + 1 ≤ u1.heap.size from by have := hb1.size; simpa only [World.size_alloc, size_setRow] using this)
    have B1 := hide (BQ0.out.trans (hb1.mono BQ0.out.size))
    have Q0 := Q0.below hb1 Q0.lt
    clear hb1
    have c1_Q0_0 := Q0.cell 0
    have c1_Q0_1 := Q0.cell 1
    have c1_Q0_2 := Q0.cell 2
    have lt1_Q0 := Q0.lt
    by_cases hbk0 : ((x0.bulk : Nat) : Int) ≤ (1048576 : Int)
    · rw [szr_yes hbk0]
      go_wp2_with fail
      refine (toDisk_any x0 _ _ _ (HO0.out.below B1.out hl0) (hl0.up B1.out) (by omega)).mono ?_
      rintro e u2 ⟨vwt0, fwt0, rfl, ywt0, zwt0, hb2⟩
      clear c1_Q0_0 c1_Q0_1 c1_Q0_2 lt1_Q0
      have S2 := hide (show u1.heap.size ≤ u2.heap.size from by have := hb2.size; simpa only [World.size_alloc, size_setRow] using this)
      have B2 := hide (B1.out.trans (hb2.mono B1.out.size))
      have Q0 := Q0.below hb2 Q0.lt
      have Owt0 := hide ywt0
      have Nwt0 := hide zwt0
      have Lwt0 := hide (show ∀ g ∈ fwt0, u1.heap.size ≤ g ∧ g < u2.heap.size from fun g hg => ⟨by have := (zwt0.fr g hg).1; simpa only [World.size_alloc, size_setRow] using this, zwt0.lt g hg⟩)
      clear ywt0 zwt0
      clear hb2
      have lt2_Q0 := Q0.lt
      go_wp2_with fail
      refine (specDiskLook_any x0 _ _ s1 _ Owt0.out Nwt0.out.lt (by omega) (by omega)).mono ?_
      rintro e u3 ⟨rfl, hb3⟩
      clear lt2_Q0
      have S3 := hide (show u2.heap.size ≤ u3.heap.size from by have := hb3.size; simpa only [World.size_alloc, size_setRow] using this)
      have B3 := hide (B2.out.trans (hb3.mono B2.out.size))
      have Q0 := Q0.below hb3 Q0.lt
      have Owt0 := hide (Owt0.out.below hb3 Nwt0.out.lt)
      have Nwt0 := hide (Nwt0.out.below hb3 Nwt0.out.lt)
      clear hb3
      have c3_Q0_0 := Q0.cell 0
      have c3_Q0_1 := Q0.cell 1
      have c3_Q0_2 := Q0.cell 2
      have lt3_Q0 := Q0.lt
      go_wp2_with fail
      refine (toDisk_any x0 _ _ _ (HO0.out.below B3.out hl0) (hl0.up B3.out) (by omega)).mono ?_
      rintro e u4 ⟨vx0, fx0, rfl, yx0, zx0, hb4⟩
      clear c3_Q0_0 c3_Q0_1 c3_Q0_2 lt3_Q0
      have S4 := hide (show u3.heap.size ≤ u4.heap.size from by have := hb4.size; simpa only [World.size_alloc, size_setRow] using this)
      have B4 := hide (B3.out.trans (hb4.mono B3.out.size))
      have Q0 := Q0.below hb4 Q0.lt
      have Ox0 := hide yx0
      have Nx0 := hide zx0
      have Lx0 := hide (show ∀ g ∈ fx0, u3.heap.size ≤ g ∧ g < u4.heap.size from fun g hg => ⟨by have := (zx0.fr g hg).1; simpa only [World.size_alloc, size_setRow] using this, zx0.lt g hg⟩)
      clear yx0 zx0
      clear hb4
      have Tx0 := Ox0.out
      obtain ⟨x0A1, x0c1, x0A2, x0c2, x0A3, x0c3, x0f1, x0f2, x0f3, rfl, x0o1, x0o2, x0o3, x0ef⟩ := Tx0.oDisk
      clear Tx0 x0o1 x0o2 x0o3
      have hAPx0 : Below u4.heap.size u4 (u4.alloc (.cells #[.slice x0A1 x0.files.length x0c1, .slice x0A2 x0.names.length x0c2, .slice x0A3 x0.moves.length x0c3] 83)) := (Below.refl _ _).alloc (Nat.le_refl _) _
      have BPx0 := hide (B4.out.trans (hAPx0.mono B4.out.size))
      have Q0 := Q0.below hAPx0 Q0.lt
      have Ox0 := hide (Ox0.out.below hAPx0 Nx0.out.lt)
      have Nx0 := hide (Nx0.out.below hAPx0 Nx0.out.lt)
      have Px0 : Row (u4.alloc (.cells #[.slice x0A1 x0.files.length x0c1, .slice x0A2 x0.names.length x0c2, .slice x0A3 x0.moves.length x0c3] 83)) u4.heap.size 83 [.slice x0A1 x0.files.length x0c1, .slice x0A2 x0.names.length x0c2, .slice x0A3 x0.moves.length x0c3] := Row.new u4 _ _
      clear hAPx0
      have c4_Q0_0 := Q0.cell 0
      have c4_Q0_1 := Q0.cell 1
      have c4_Q0_2 := Q0.cell 2
      have c4_Px0_0 := Px0.cell 0
      have c4_Px0_1 := Px0.cell 1
      have c4_Px0_2 := Px0.cell 2
      have lt4_Q0 := Q0.lt
      have lt4_Px0 := Px0.lt
      go_wp2_with fail
      refine (implDiskLook_any x0 _ _ s1 _ Ox0.out Nx0.out.lt (by omega) (by omega)).mono ?_
      rintro e u5 ⟨rfl, hb5⟩
      clear c4_Q0_0 c4_Q0_1 c4_Q0_2 c4_Px0_0 c4_Px0_1 c4_Px0_2 lt4_Q0 lt4_Px0
      have S5 := hide (show u4.heap.size + 1 ≤ u5.heap.size from by have := hb5.size; simpa only [World.size_alloc, size_setRow] using this)
      have B5 := hide (BPx0.out.trans (hb5.mono BPx0.out.size))
      have Q0 := Q0.below hb5 Q0.lt
      have Px0 := Px0.below hb5 Px0.lt
      have Ox0 := hide (Ox0.out.below hb5 Nx0.out.lt)
      have Nx0 := hide (Nx0.out.below hb5 Nx0.out.lt)
      clear hb5
      have c5_Q0_0 := Q0.cell 0
      have c5_Q0_1 := Q0.cell 1
      have c5_Q0_2 := Q0.cell 2
      have c5_Px0_0 := Px0.cell 0
      have c5_Px0_1 := Px0.cell 1
      have c5_Px0_2 := Px0.cell 2
      have lt5_Q0 := Q0.lt
      have lt5_Px0 := Px0.lt
      go_wp2
      go_region_held3 (fun w' => w'.cell? ⟨w.heap.size, 0, none⟩ = some (.slice a0A1 x0.files.length a0c1) ∧ w'.cell? ⟨w.heap.size, 1, none⟩ = some (.slice a0A2 x0.names.length a0c2) ∧ w'.cell? ⟨w.heap.size, 2, none⟩ = some (.slice a0A3 x0.moves.length a0c3) ∧ w'.cell? ⟨u4.heap.size, 0, none⟩ = some (.slice x0A1 x0.files.length x0c1) ∧ w'.cell? ⟨u4.heap.size, 1, none⟩ = some (.slice x0A2 x0.names.length x0c2) ∧ w'.cell? ⟨u4.heap.size, 2, none⟩ = some (.slice x0A3 x0.moves.length x0c3))
        (first | go_keep | exact ⟨me0_1_Q0.cell 0, me0_1_Q0.cell 1, me0_1_Q0.cell 2, me0_1_Px0.cell 0, me0_1_Px0.cell 1, me0_1_Px0.cell 2⟩ | exact ⟨me0_0_Q0.cell 0, me0_0_Q0.cell 1, me0_0_Q0.cell 2, me0_0_Px0.cell 0, me0_0_Px0.cell 1, me0_0_Px0.cell 2⟩)
        (first
          | (go_at_call 53; refine (eqDisk_any x0 _ _ _ _ _ ((Ox0.out.drewN 1).below he0_0 (by exact Nx0.out.lt)) ye0 (by exact (Nx0.out.lt.mono he0_0.size)) ze0.lt).mono ?_; rintro e ue0_1 ⟨rfl, he0_1⟩; have me0_1_Q0 := me0_0_Q0.below he0_1 me0_0_Q0.lt; have me0_1_Px0 := me0_0_Px0.below he0_1 me0_0_Px0.lt)
          | (go_at_call 51; refine (toDisk_any x0 _ _ _ (HO0.out.below B5.out.drew hl0) (hl0.up B5.out.drew) (by omega)).mono ?_; rintro e ue0_0 ⟨ve0, fe0, rfl, ye0, ze0, he0_0⟩; have me0_0_Q0 := (Q0.drewN 1).below he0_0 (by exact Q0.lt); have me0_0_Px0 := (Px0.drewN 1).below he0_0 (by exact Px0.lt)))
      clear c5_Q0_0 c5_Q0_1 c5_Q0_2 c5_Px0_0 c5_Px0_1 c5_Px0_2 lt5_Q0 lt5_Px0
      have hze0 : Below u5.heap.size u5 ue0_0 := ⟨he0_0.os, he0_0.tape, he0_0.output, he0_0.size, he0_0.block⟩
      clear me0_0_Q0 me0_0_Px0 me0_1_Q0 me0_1_Px0
      have S6 := hide (show u5.heap.size ≤ ue0_0.heap.size from by have := hze0.size; simpa only [World.size_alloc, size_setRow] using this)
      have B6 := hide (B5.out.trans (hze0.mono B5.out.size))
      have Q0 := Q0.below hze0 Q0.lt
      have Px0 := Px0.below hze0 Px0.lt
      have Ox0 := hide (Ox0.out.below hze0 Nx0.out.lt)
      have Nx0 := hide (Nx0.out.below hze0 Nx0.out.lt)
      have S7 := hide (show ue0_0.heap.size ≤ ue0_1.heap.size from by have := he0_1.size; simpa only [World.size_alloc, size_setRow] using this)
      have B7 := hide (B6.out.trans (he0_1.mono B6.out.size))
      have Q0 := Q0.below he0_1 Q0.lt
      have Px0 := Px0.below he0_1 Px0.lt
      have Ox0 := hide (Ox0.out.below he0_1 Nx0.out.lt)
      have Nx0 := hide (Nx0.out.below he0_1 Nx0.out.lt)
      clear he0_0 he0_1 hze0
      clear ye0 ze0
      have c7_Q0_0 := Q0.cell 0
      have c7_Q0_1 := Q0.cell 1
      have c7_Q0_2 := Q0.cell 2
      have c7_Px0_0 := Px0.cell 0
      have c7_Px0_1 := Px0.cell 1
      have c7_Px0_2 := Px0.cell 2
      have lt7_Q0 := Q0.lt
      have lt7_Px0 := Px0.lt
      go_wp2_with fail
      go_ret
      exact ⟨rfl, B7.out⟩
    · rw [szr_no hbk0]
      go_wp2
      go_ret
      exact ⟨rfl, B1.out⟩
  · have hz1' : (1048576 : Int) < s1.size := by omega
    go_enter Try.func12, Try.ntmps12
    go_wp2
    go_ret
    exact ⟨rfl, BQ0.out⟩
end Go.Proofs.Ytdingkbggjehoaa
