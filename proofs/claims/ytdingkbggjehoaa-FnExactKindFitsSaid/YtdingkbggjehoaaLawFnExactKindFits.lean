/-
  FnExactKindFits returns true for every input: the program answers as the reference. No condition.
-/
import Derived.Test.YtdingkbggjehoaaKindFits
import Derived.Test.YtdingkbggjehoaaHKind
import Derived.Deep.RegionHeld3
set_option linter.unusedVariables false
set_option linter.unusedSimpArgs false
namespace Go.Proofs.Ytdingkbggjehoaa
open Go.ChangeShapes Go.WideShapes Go.ChangeAt Go.RowKit

set_option maxRecDepth 100000 in
set_option maxHeartbeats 1000000 in
theorem lawFnExactKindFits_any (w : World) (x0 : Kind) (us0 : List Value) (fp0 : List Nat) (ho0 : OwC w x0.cells us0 fp0) (hl0 : Lt fp0 w.heap.size) (x1 : Kind) (us1 : List Value) (fp1 : List Nat) (ho1 : OwC w x1.cells us1 fp1) (hl1 : Lt fp1 w.heap.size) :
    Calls Try.prog 3 #[.agg us0.toArray, .agg us1.toArray] w fun e w' => e = .returned (.bool true) ∧ Below w.heap.size w w' := by
  have HO0 := hide ho0
  obtain ⟨a0A1, a0c1, a0A2, a0c2, a0f1, a0f2, rfl, a0w0, a0o1, a0o2, efp0⟩ := ho0.oKind
  clear ho0 a0o1 a0o2
  have HO1 := hide ho1
  obtain ⟨a1A1, a1c1, a1A2, a1c2, a1f1, a1f2, rfl, a1w0, a1o1, a1o2, efp1⟩ := ho1.oKind
  clear ho1 a1o1 a1o2
  have Q0 : Row (w.alloc (.cells #[.int .i64 x0.sort, .slice a0A1 x0.names.length a0c1, .slice a0A2 x0.kids.length a0c2] 25)) w.heap.size 25 [.int .i64 x0.sort, .slice a0A1 x0.names.length a0c1, .slice a0A2 x0.kids.length a0c2] := Row.new w _ _
  have Q0 := Q0.alloc (.cells #[.int .i64 x1.sort, .slice a1A1 x1.names.length a1c1, .slice a1A2 x1.kids.length a1c2] 25)
  have Q1 : Row ((w.alloc (.cells #[.int .i64 x0.sort, .slice a0A1 x0.names.length a0c1, .slice a0A2 x0.kids.length a0c2] 25)).alloc (.cells #[.int .i64 x1.sort, .slice a1A1 x1.names.length a1c1, .slice a1A2 x1.kids.length a1c2] 25)) (w.heap.size + 1) 25 [.int .i64 x1.sort, .slice a1A1 x1.names.length a1c1, .slice a1A2 x1.kids.length a1c2] := by
    have h := Row.new (w.alloc (.cells #[.int .i64 x0.sort, .slice a0A1 x0.names.length a0c1, .slice a0A2 x0.kids.length a0c2] 25)) 25 [.int .i64 x1.sort, .slice a1A1 x1.names.length a1c1, .slice a1A2 x1.kids.length a1c2]
    simp only [World.size_alloc, Nat.add_assoc, Nat.reduceAdd] at h
    exact h
  have hB : Below w.heap.size w ((w.alloc (.cells #[.int .i64 x0.sort, .slice a0A1 x0.names.length a0c1, .slice a0A2 x0.kids.length a0c2] 25)).alloc (.cells #[.int .i64 x1.sort, .slice a1A1 x1.names.length a1c1, .slice a1A2 x1.kids.length a1c2] 25)) := (((Below.refl w.heap.size w).alloc (by first | exact Nat.le_refl _ | simp) _).alloc (by first | exact Nat.le_refl _ | simp) _)
  have B0 := hide hB
  clear hB
  go_enter Try.func3, Try.ntmps3
  go_wp2_with fail
  refine (szKind_any x0 _ _ _ _ (HO0.out.below B0.out hl0) (hl0.up B0.out) (by omega) (by omega)).mono ?_
  rintro e u1 ⟨rfl, hb1⟩
  have B1 := hide (B0.out.trans (hb1.mono B0.out.size))
  have Q0 := Q0.below hb1 Q0.lt
  have Q1 := Q1.below hb1 Q1.lt
  have lt1_0 := Q0.lt
  have lt1_1 := Q1.lt
  have cs1_0_0 := Q0.cell 0
  have cs1_0_1 := Q0.cell 1
  have cs1_0_2 := Q0.cell 2
  have cs1_1_0 := Q1.cell 0
  have cs1_1_1 := Q1.cell 1
  have cs1_1_2 := Q1.cell 2
  clear hb1
  by_cases hbk0 : ((x0.bulk : Nat) : Int) ≤ (1048576 : Int)
  · rw [szr_yes hbk0]
    go_wp2_with fail
    refine (szKind_any x1 _ _ _ _ (HO1.out.below B1.out hl1) (hl1.up B1.out) (by omega) (by omega)).mono ?_
    rintro e u2 ⟨rfl, hb2⟩
    have B2 := hide (B1.out.trans (hb2.mono B1.out.size))
    clear cs1_0_0 cs1_0_1 cs1_0_2 cs1_1_0 cs1_1_1 cs1_1_2
    have Q0 := Q0.below hb2 Q0.lt
    have Q1 := Q1.below hb2 Q1.lt
    have lt2_0 := Q0.lt
    have lt2_1 := Q1.lt
    have cs2_0_0 := Q0.cell 0
    have cs2_0_1 := Q0.cell 1
    have cs2_0_2 := Q0.cell 2
    have cs2_1_0 := Q1.cell 0
    have cs2_1_1 := Q1.cell 1
    have cs2_1_2 := Q1.cell 2
    clear hb2
    by_cases hbk1 : ((x1.bulk : Nat) : Int) ≤ (1048576 : Int) - (x0.bulk : Nat)
    · rw [szr_yes hbk1]
      go_wp2
      go_region_held3 (fun w' => w'.cell? ⟨w.heap.size, 0, none⟩ = some (.int .i64 x0.sort) ∧ w'.cell? ⟨w.heap.size, 1, none⟩ = some (.slice a0A1 x0.names.length a0c1) ∧ w'.cell? ⟨w.heap.size, 2, none⟩ = some (.slice a0A2 x0.kids.length a0c2) ∧ w'.cell? ⟨w.heap.size + 1, 0, none⟩ = some (.int .i64 x1.sort) ∧ w'.cell? ⟨w.heap.size + 1, 1, none⟩ = some (.slice a1A1 x1.names.length a1c1) ∧ w'.cell? ⟨w.heap.size + 1, 2, none⟩ = some (.slice a1A2 x1.kids.length a1c2))
        (first | go_keep | exact ⟨m2_0.cell 0, m2_0.cell 1, m2_0.cell 2, m2_1.cell 0, m2_1.cell 1, m2_1.cell 2⟩ | exact ⟨m1_0.cell 0, m1_0.cell 1, m1_0.cell 2, m1_1.cell 0, m1_1.cell 1, m1_1.cell 2⟩ | exact ⟨m0_0.cell 0, m0_0.cell 1, m0_0.cell 2, m0_1.cell 0, m0_1.cell 1, m0_1.cell 2⟩)
        (first
          | (go_at_call 16; refine (specKindFits_any x0 _ _ x1 _ _ _ (Xr0.below hr1 Nr0.lt) (Nr0.lt.mono hr1.size) (by omega) Xr1 Nr1.lt (by omega)).mono ?_; rintro e u3 ⟨rfl, hr2⟩; have m2_0 := m1_0.below hr2 m1_0.lt; have m2_1 := m1_1.below hr2 m1_1.lt)
          | (go_at_call 17; refine (toKind_any x1 _ _ _ (HO1.out.below (B2.out.drew.trans (hr0.mono B2.out.drew.size)) hl1) (hl1.up (B2.out.drew.trans (hr0.mono B2.out.drew.size))) (by omega)).mono ?_; rintro e vr1 ⟨vsr1, qr1, rfl, Xr1, Nr1, hr1⟩; have m1_0 := m0_0.below hr1 (by exact m0_0.lt); have m1_1 := m0_1.below hr1 (by exact m0_1.lt))
          | (go_at_call 17; refine (toKind_any x0 _ _ _ (HO0.out.below B2.out.drew hl0) (hl0.up B2.out.drew) (by omega)).mono ?_; rintro e vr0 ⟨vsr0, qr0, rfl, Xr0, Nr0, hr0⟩; have m0_0 := (Q0.drewN 1).below hr0 (by exact Q0.lt); have m0_1 := (Q1.drewN 1).below hr0 (by exact Q1.lt)))
      have hrz : Below u2.heap.size u2 vr0 := ⟨hr0.os, hr0.tape, hr0.output, hr0.size, hr0.block⟩
      have B3 := hide (((B2.out.trans (hrz.mono B2.out.size)).trans (hr1.mono (B2.out.trans (hrz.mono B2.out.size)).size)).trans (hr2.mono ((B2.out.trans (hrz.mono B2.out.size)).trans (hr1.mono (B2.out.trans (hrz.mono B2.out.size)).size)).size))
      clear cs2_0_0 cs2_0_1 cs2_0_2 cs2_1_0 cs2_1_1 cs2_1_2
      have Q0 := (((Q0.below hrz Q0.lt).below hr1 (Q0.below hrz Q0.lt).lt).below hr2 ((Q0.below hrz Q0.lt).below hr1 (Q0.below hrz Q0.lt).lt).lt)
      have Q1 := (((Q1.below hrz Q1.lt).below hr1 (Q1.below hrz Q1.lt).lt).below hr2 ((Q1.below hrz Q1.lt).below hr1 (Q1.below hrz Q1.lt).lt).lt)
      clear m0_0 m0_1 m1_0 m1_1 m2_0 m2_1
      have lt3_0 := Q0.lt
      have lt3_1 := Q1.lt
      have cs3_0_0 := Q0.cell 0
      have cs3_0_1 := Q0.cell 1
      have cs3_0_2 := Q0.cell 2
      have cs3_1_0 := Q1.cell 0
      have cs3_1_1 := Q1.cell 1
      have cs3_1_2 := Q1.cell 2
      clear hrz hr0 hr1 hr2
      go_wp2_with fail
      refine (toKind_any x0 _ _ _ (HO0.out.below B3.out hl0) (hl0.up B3.out) (by omega)).mono ?_
      rintro e u4 ⟨vsp0, qp0, rfl, Xp0, Np0, hb4⟩
      have B4 := hide (B3.out.trans (hb4.mono B3.out.size))
      clear cs3_0_0 cs3_0_1 cs3_0_2 cs3_1_0 cs3_1_1 cs3_1_2
      have Q0 := Q0.below hb4 Q0.lt
      have Q1 := Q1.below hb4 Q1.lt
      have XX0 := hide Xp0
      obtain ⟨b0A1, b0c1, b0A2, b0c2, b0f1, b0f2, rfl, b0w0, b0o1, b0o2, eqp0⟩ := Xp0.oKind
      clear Xp0 b0o1 b0o2
      have P0 : Row (u4.alloc (.cells #[.int .i64 x0.sort, .slice b0A1 x0.names.length b0c1, .slice b0A2 x0.kids.length b0c2] 30)) u4.heap.size 30 [.int .i64 x0.sort, .slice b0A1 x0.names.length b0c1, .slice b0A2 x0.kids.length b0c2] := Row.new u4 _ _
      have hA4 : Below u4.heap.size u4 (u4.alloc (.cells #[.int .i64 x0.sort, .slice b0A1 x0.names.length b0c1, .slice b0A2 x0.kids.length b0c2] 30)) := (Below.refl _ _).alloc (Nat.le_refl _) _
      have B4a := hide (B4.out.trans (hA4.mono B4.out.size))
      have Q0 := Q0.below hA4 Q0.lt
      have Q1 := Q1.below hA4 Q1.lt
      have Xp0 := hide (XX0.out.below hA4 Np0.lt)
      have Np0 := hide (Np0.below hA4 Np0.lt)
      clear XX0 hA4 hb4
      have lt4_0 := Q0.lt
      have lt4_1 := Q1.lt
      have cs4_0_0 := Q0.cell 0
      have cs4_0_1 := Q0.cell 1
      have cs4_0_2 := Q0.cell 2
      have cs4_1_0 := Q1.cell 0
      have cs4_1_1 := Q1.cell 1
      have cs4_1_2 := Q1.cell 2
      go_wp2_with fail
      refine (toKind_any x1 _ _ _ (HO1.out.below B4a.out hl1) (hl1.up B4a.out) (by omega)).mono ?_
      rintro e u5 ⟨vsp1, qp1, rfl, Xp1, Np1, hb5⟩
      have B5 := hide (B4a.out.trans (hb5.mono B4a.out.size))
      clear cs4_0_0 cs4_0_1 cs4_0_2 cs4_1_0 cs4_1_1 cs4_1_2
      have Q0 := Q0.below hb5 Q0.lt
      have Q1 := Q1.below hb5 Q1.lt
      have P0 := P0.below hb5 P0.lt
      have Xp0 := hide (Xp0.out.below hb5 Np0.out.lt)
      have Np0 := hide (Np0.out.below hb5 Np0.out.lt)
      have XX1 := hide Xp1
      obtain ⟨b1A1, b1c1, b1A2, b1c2, b1f1, b1f2, rfl, b1w0, b1o1, b1o2, eqp1⟩ := Xp1.oKind
      clear Xp1 b1o1 b1o2
      have P1 : Row (u5.alloc (.cells #[.int .i64 x1.sort, .slice b1A1 x1.names.length b1c1, .slice b1A2 x1.kids.length b1c2] 30)) u5.heap.size 30 [.int .i64 x1.sort, .slice b1A1 x1.names.length b1c1, .slice b1A2 x1.kids.length b1c2] := Row.new u5 _ _
      have hA5 : Below u5.heap.size u5 (u5.alloc (.cells #[.int .i64 x1.sort, .slice b1A1 x1.names.length b1c1, .slice b1A2 x1.kids.length b1c2] 30)) := (Below.refl _ _).alloc (Nat.le_refl _) _
      have B5a := hide (B5.out.trans (hA5.mono B5.out.size))
      have Q0 := Q0.below hA5 Q0.lt
      have Q1 := Q1.below hA5 Q1.lt
      have P0 := P0.below hA5 P0.lt
      have Xp0 := hide (Xp0.out.below hA5 Np0.out.lt)
      have Np0 := hide (Np0.out.below hA5 Np0.out.lt)
      have Xp1 := hide (XX1.out.below hA5 Np1.lt)
      have Np1 := hide (Np1.below hA5 Np1.lt)
      clear XX1 hA5 hb5
      have lt5_0 := Q0.lt
      have lt5_1 := Q1.lt
      have cs5_0_0 := Q0.cell 0
      have cs5_0_1 := Q0.cell 1
      have cs5_0_2 := Q0.cell 2
      have cs5_1_0 := Q1.cell 0
      have cs5_1_1 := Q1.cell 1
      have cs5_1_2 := Q1.cell 2
      have d_0_0 := P0.cell 0
      have d_0_1 := P0.cell 1
      have d_0_2 := P0.cell 2
      have d_1_0 := P1.cell 0
      have d_1_1 := P1.cell 1
      have d_1_2 := P1.cell 2
      go_wp2_with fail
      refine (implKindFits_any x0 _ _ x1 _ _ _ Xp0.out Np0.out.lt (by omega) Xp1.out Np1.out.lt (by omega)).mono ?_
      rintro e u6 ⟨rfl, hb6⟩
      have B6 := hide (B5a.out.trans (hb6.mono B5a.out.size))
      clear cs5_0_0 cs5_0_1 cs5_0_2 cs5_1_0 cs5_1_1 cs5_1_2
      clear d_0_0 d_0_1 d_0_2
      clear d_1_0 d_1_1 d_1_2
      have Q0 := Q0.below hb6 Q0.lt
      have Q1 := Q1.below hb6 Q1.lt
      have P0 := P0.below hb6 P0.lt
      have Xp0 := hide (Xp0.out.below hb6 Np0.out.lt)
      have Np0 := hide (Np0.out.below hb6 Np0.out.lt)
      have P1 := P1.below hb6 P1.lt
      have Xp1 := hide (Xp1.out.below hb6 Np1.out.lt)
      have Np1 := hide (Np1.out.below hb6 Np1.out.lt)
      clear hb6
      have lt6_0 := Q0.lt
      have lt6_1 := Q1.lt
      have ltp6_0 := P0.lt
      have ltp6_1 := P1.lt
      have sQ := Q0
      have c100_0_0 := Q0.cell 0
      have c100_0_1 := Q0.cell 1
      have c100_0_2 := Q0.cell 2
      have c100_1_0 := Q1.cell 0
      have c100_1_1 := Q1.cell 1
      have c100_1_2 := Q1.cell 2
      have d100_0_0 := P0.cell 0
      have d100_0_1 := P0.cell 1
      have d100_0_2 := P0.cell 2
      have d100_1_0 := P1.cell 0
      have d100_1_1 := P1.cell 1
      have d100_1_2 := P1.cell 2
      go_wp2
      go_region_held3 (fun w' => w'.cell? ⟨w.heap.size, 0, none⟩ = some (.int .i64 x0.sort) ∧ w'.cell? ⟨w.heap.size, 1, none⟩ = some (.slice a0A1 x0.names.length a0c1) ∧ w'.cell? ⟨w.heap.size, 2, none⟩ = some (.slice a0A2 x0.kids.length a0c2) ∧ w'.cell? ⟨u4.heap.size, 0, none⟩ = some (.int .i64 x0.sort) ∧ w'.cell? ⟨u4.heap.size, 1, none⟩ = some (.slice b0A1 x0.names.length b0c1) ∧ w'.cell? ⟨u4.heap.size, 2, none⟩ = some (.slice b0A2 x0.kids.length b0c2))
        (first | go_keep | exact ⟨m2Q0.cell 0, m2Q0.cell 1, m2Q0.cell 2, m2P0.cell 0, m2P0.cell 1, m2P0.cell 2⟩ | exact ⟨m1Q0.cell 0, m1Q0.cell 1, m1Q0.cell 2, m1P0.cell 0, m1P0.cell 1, m1P0.cell 2⟩)
        (first
          | (go_at_call 17; refine (toKind_any x0 _ _ _ (HO0.out.below B6.out.drew hl0) (hl0.up B6.out.drew) (by omega)).mono ?_; rintro e v1 ⟨vse0, qe0, rfl, Xe0, Ne0, hb200⟩; have m1Q0 := (Q0.drewN 1).below hb200 (by exact Q0.lt); have m1P0 := (P0.drewN 1).below hb200 (by exact P0.lt))
          | (go_at_call 19; refine (eqKind_any x0 _ _ _ _ _ ((Xp0.out.drewN 1).below hb200 (by exact Np0.out.lt)) Xe0 (by exact (Np0.out.lt.mono hb200.size)) Ne0.lt).mono ?_; rintro e v2 ⟨rfl, hb201⟩; have m2Q0 := m1Q0.below hb201 m1Q0.lt; have m2P0 := m1P0.below hb201 m1P0.lt))
      have hz0a : Below u6.heap.size u6 v1 := ⟨hb200.os, hb200.tape, hb200.output, hb200.size, hb200.block⟩
      have B300 := hide ((B6.out.trans (hz0a.mono B6.out.size)).trans (hb201.mono (Nat.le_trans B6.out.size hz0a.size)))
      have Q0 := (Q0.below hz0a Q0.lt).below hb201 (Nat.lt_of_lt_of_le Q0.lt hz0a.size)
      have Q1 := (Q1.below hz0a Q1.lt).below hb201 (Nat.lt_of_lt_of_le Q1.lt hz0a.size)
      have P0 := (P0.below hz0a P0.lt).below hb201 (Nat.lt_of_lt_of_le P0.lt hz0a.size)
      have Xp0 := hide ((Xp0.out.below hz0a Np0.out.lt).below hb201 (Np0.out.lt.mono hz0a.size))
      have Np0 := hide ((Np0.out.below hz0a Np0.out.lt).below hb201 (Np0.out.lt.mono hz0a.size))
      have P1 := (P1.below hz0a P1.lt).below hb201 (Nat.lt_of_lt_of_le P1.lt hz0a.size)
      have Xp1 := hide ((Xp1.out.below hz0a Np1.out.lt).below hb201 (Np1.out.lt.mono hz0a.size))
      have Np1 := hide ((Np1.out.below hz0a Np1.out.lt).below hb201 (Np1.out.lt.mono hz0a.size))
      clear m1Q0 m1P0 m2Q0 m2P0 c100_0_0 c100_0_1 c100_0_2 c100_1_0 c100_1_1 c100_1_2 d100_0_0 d100_0_1 d100_0_2 d100_1_0 d100_1_1 d100_1_2
      have lt400_0 := Q0.lt
      have lt400_1 := Q1.lt
      have ltp400_0 := P0.lt
      have ltp400_1 := P1.lt
      have c101_0_0 := Q0.cell 0
      have c101_0_1 := Q0.cell 1
      have c101_0_2 := Q0.cell 2
      have c101_1_0 := Q1.cell 0
      have c101_1_1 := Q1.cell 1
      have c101_1_2 := Q1.cell 2
      have d101_0_0 := P0.cell 0
      have d101_0_1 := P0.cell 1
      have d101_0_2 := P0.cell 2
      have d101_1_0 := P1.cell 0
      have d101_1_1 := P1.cell 1
      have d101_1_2 := P1.cell 2
      go_wp2
      go_region_held3 (fun w' => w'.cell? ⟨w.heap.size + 1, 0, none⟩ = some (.int .i64 x1.sort) ∧ w'.cell? ⟨w.heap.size + 1, 1, none⟩ = some (.slice a1A1 x1.names.length a1c1) ∧ w'.cell? ⟨w.heap.size + 1, 2, none⟩ = some (.slice a1A2 x1.kids.length a1c2) ∧ w'.cell? ⟨u5.heap.size, 0, none⟩ = some (.int .i64 x1.sort) ∧ w'.cell? ⟨u5.heap.size, 1, none⟩ = some (.slice b1A1 x1.names.length b1c1) ∧ w'.cell? ⟨u5.heap.size, 2, none⟩ = some (.slice b1A2 x1.kids.length b1c2))
        (first | go_keep | exact ⟨m2Q1.cell 0, m2Q1.cell 1, m2Q1.cell 2, m2P1.cell 0, m2P1.cell 1, m2P1.cell 2⟩ | exact ⟨m1Q1.cell 0, m1Q1.cell 1, m1Q1.cell 2, m1P1.cell 0, m1P1.cell 1, m1P1.cell 2⟩)
        (first
          | (go_at_call 17; refine (toKind_any x1 _ _ _ (HO1.out.below B300.out.drew hl1) (hl1.up B300.out.drew) (by omega)).mono ?_; rintro e v3 ⟨vse1, qe1, rfl, Xe1, Ne1, hb202⟩; have m1Q1 := (Q1.drewN 1).below hb202 (by exact Q1.lt); have m1P1 := (P1.drewN 1).below hb202 (by exact P1.lt))
          | (go_at_call 19; refine (eqKind_any x1 _ _ _ _ _ ((Xp1.out.drewN 1).below hb202 (by exact Np1.out.lt)) Xe1 (by exact (Np1.out.lt.mono hb202.size)) Ne1.lt).mono ?_; rintro e v4 ⟨rfl, hb203⟩; have m2Q1 := m1Q1.below hb203 m1Q1.lt; have m2P1 := m1P1.below hb203 m1P1.lt))
      have hz1a : Below v2.heap.size v2 v3 := ⟨hb202.os, hb202.tape, hb202.output, hb202.size, hb202.block⟩
      have B301 := hide ((B300.out.trans (hz1a.mono B300.out.size)).trans (hb203.mono (Nat.le_trans B300.out.size hz1a.size)))
      have Q0 := (Q0.below hz1a Q0.lt).below hb203 (Nat.lt_of_lt_of_le Q0.lt hz1a.size)
      have Q1 := (Q1.below hz1a Q1.lt).below hb203 (Nat.lt_of_lt_of_le Q1.lt hz1a.size)
      have P0 := (P0.below hz1a P0.lt).below hb203 (Nat.lt_of_lt_of_le P0.lt hz1a.size)
      have Xp0 := hide ((Xp0.out.below hz1a Np0.out.lt).below hb203 (Np0.out.lt.mono hz1a.size))
      have Np0 := hide ((Np0.out.below hz1a Np0.out.lt).below hb203 (Np0.out.lt.mono hz1a.size))
      have P1 := (P1.below hz1a P1.lt).below hb203 (Nat.lt_of_lt_of_le P1.lt hz1a.size)
      have Xp1 := hide ((Xp1.out.below hz1a Np1.out.lt).below hb203 (Np1.out.lt.mono hz1a.size))
      have Np1 := hide ((Np1.out.below hz1a Np1.out.lt).below hb203 (Np1.out.lt.mono hz1a.size))
      clear m1Q1 m1P1 m2Q1 m2P1 c101_0_0 c101_0_1 c101_0_2 c101_1_0 c101_1_1 c101_1_2 d101_0_0 d101_0_1 d101_0_2 d101_1_0 d101_1_1 d101_1_2
      go_wp2
      go_ret
      exact ⟨rfl, B301.out⟩
    · rw [szr_no hbk1]
      go_wp2
      go_ret
      exact ⟨rfl, B2.out⟩
  · rw [szr_no hbk0]
    go_wp2
    go_ret
    exact ⟨rfl, B1.out⟩
end Go.Proofs.Ytdingkbggjehoaa
