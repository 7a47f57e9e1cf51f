/-
  FnExactEventWrite returns true for every input: the program answers as the reference. No condition.
-/
import Derived.Test.YtclljkojkmjboaaDoorEvWrite
import Derived.Test.YtclljkojkmjboaaDoorHEvent
import Derived.Deep.RegionHeld3
set_option linter.unusedVariables false
set_option linter.unusedSimpArgs false
namespace Go.Proofs.YtclljkojkmjboaaDoor
open Go.ChangeShapes Go.WideShapes Go.ChangeAt Go.RowKit

set_option maxRecDepth 100000 in
set_option maxHeartbeats 1000000 in
theorem lawFnExactEventWrite_any (w : World) (x0 : Event) (us0 : List Value) (fp0 : List Nat) (ho0 : OwC w x0.cells us0 fp0) (hl0 : Lt fp0 w.heap.size) (ht : Tab w) :
    Calls Tryd.prog 5 #[.agg us0.toArray] w fun e w' => e = .returned (.bool true) ∧ Below w.heap.size w w' := by
  have HTB := hide ht
  have HO0 := hide ho0
  obtain ⟨a0A1, a0c1, a0A2, a0c2, a0f1, a0f2, rfl, a0w0, a0w1, a0w2, a0w3, a0w4, a0o1, a0o2, efp0⟩ := ho0.oEvent
  clear ho0 a0o1 a0o2
  have Q0 : Row (w.alloc (.cells #[.string x0.type_, .int .i64 x0.version, .int .i64 x0.body.sort, .int .i64 x0.body.num, .string x0.body.text, .slice a0A1 x0.body.names.length a0c1, .slice a0A2 x0.body.kids.length a0c2] 46)) w.heap.size 46 [.string x0.type_, .int .i64 x0.version, .int .i64 x0.body.sort, .int .i64 x0.body.num, .string x0.body.text, .slice a0A1 x0.body.names.length a0c1, .slice a0A2 x0.body.kids.length a0c2] := Row.new w _ _
  have hB : Below w.heap.size w (w.alloc (.cells #[.string x0.type_, .int .i64 x0.version, .int .i64 x0.body.sort, .int .i64 x0.body.num, .string x0.body.text, .slice a0A1 x0.body.names.length a0c1, .slice a0A2 x0.body.kids.length a0c2] 46)) := ((Below.refl w.heap.size w).alloc (by first | exact Nat.le_refl _ | simp) _)
  have B0 := hide hB
  clear hB
  go_enter Tryd.func5, Tryd.ntmps5
  go_wp2_with fail
  refine (szEvent_any x0 _ _ _ _ (HO0.out.below B0.out hl0) (hl0.up B0.out) (by omega) (by omega)).mono ?_
  rintro e u1 ⟨rfl, hb1⟩
  have B1 := hide (B0.out.trans (hb1.mono B0.out.size))
  have Q0 := Q0.below hb1 Q0.lt
  have lt1_0 := Q0.lt
  have cs1_0_0 := Q0.cell 0
  have cs1_0_1 := Q0.cell 1
  have cs1_0_2 := Q0.cell 2
  have cs1_0_3 := Q0.cell 3
  have cs1_0_4 := Q0.cell 4
  have cs1_0_5 := Q0.cell 5
  have cs1_0_6 := Q0.cell 6
  clear hb1
  by_cases hbk0 : ((x0.bulk : Nat) : Int) ≤ (1048576 : Int)
  · rw [szr_yes hbk0]
    go_wp2_with fail
    refine (toEvent_any x0 _ _ _ (HO0.out.below B1.out hl0) (hl0.up B1.out) (by omega)).mono ?_
    rintro e u2 ⟨vsr0, qr0, rfl, Xr0, Nr0, hb2⟩
    have Xr0 := hide Xr0
    have Nr0 := hide Nr0
    have B2 := hide (B1.out.trans (hb2.mono B1.out.size))
    clear cs1_0_0 cs1_0_1 cs1_0_2 cs1_0_3 cs1_0_4 cs1_0_5 cs1_0_6
    have Q0 := Q0.below hb2 Q0.lt
    have lt2_0 := Q0.lt
    have cs2_0_0 := Q0.cell 0
    have cs2_0_1 := Q0.cell 1
    have cs2_0_2 := Q0.cell 2
    have cs2_0_3 := Q0.cell 3
    have cs2_0_4 := Q0.cell 4
    have cs2_0_5 := Q0.cell 5
    have cs2_0_6 := Q0.cell 6
    clear hb2
    go_wp2_with fail
    refine (specEventWrite_any x0 _ _ _ Xr0.out Nr0.out.lt (by omega)).mono ?_
    rintro e u3 ⟨rfl, hb3⟩
    have B3 := hide (B2.out.trans (hb3.mono B2.out.size))
    clear cs2_0_0 cs2_0_1 cs2_0_2 cs2_0_3 cs2_0_4 cs2_0_5 cs2_0_6
    have Q0 := Q0.below hb3 Q0.lt
    have lt3_0 := Q0.lt
    have cs3_0_0 := Q0.cell 0
    have cs3_0_1 := Q0.cell 1
    have cs3_0_2 := Q0.cell 2
    have cs3_0_3 := Q0.cell 3
    have cs3_0_4 := Q0.cell 4
    have cs3_0_5 := Q0.cell 5
    have cs3_0_6 := Q0.cell 6
    clear hb3
    go_wp2_with fail
    refine (toEvent_any x0 _ _ _ (HO0.out.below B3.out hl0) (hl0.up B3.out) (by omega)).mono ?_
    rintro e u4 ⟨vsp0, qp0, rfl, Xp0, Np0, hb4⟩
    have B4 := hide (B3.out.trans (hb4.mono B3.out.size))
    clear cs3_0_0 cs3_0_1 cs3_0_2 cs3_0_3 cs3_0_4 cs3_0_5 cs3_0_6
    have Q0 := Q0.below hb4 Q0.lt
    have XX0 := hide Xp0
    obtain ⟨b0A1, b0c1, b0A2, b0c2, b0f1, b0f2, rfl, b0w0, b0w1, b0w2, b0w3, b0w4, b0o1, b0o2, eqp0⟩ := Xp0.oEvent
    clear Xp0 b0o1 b0o2
    have P0 : Row (u4.alloc (.cells #[.string x0.type_, .int .i64 x0.version, .int .i64 x0.body.sort, .int .i64 x0.body.num, .string x0.body.text, .slice b0A1 x0.body.names.length b0c1, .slice b0A2 x0.body.kids.length b0c2] 50)) u4.heap.size 50 [.string x0.type_, .int .i64 x0.version, .int .i64 x0.body.sort, .int .i64 x0.body.num, .string x0.body.text, .slice b0A1 x0.body.names.length b0c1, .slice b0A2 x0.body.kids.length b0c2] := Row.new u4 _ _
    have hA4 : Below u4.heap.size u4 (u4.alloc (.cells #[.string x0.type_, .int .i64 x0.version, .int .i64 x0.body.sort, .int .i64 x0.body.num, .string x0.body.text, .slice b0A1 x0.body.names.length b0c1, .slice b0A2 x0.body.kids.length b0c2] 50)) := (Below.refl _ _).alloc (Nat.le_refl _) _
    have B4a := hide (B4.out.trans (hA4.mono B4.out.size))
    have Q0 := Q0.below hA4 Q0.lt
    have Xp0 := hide (XX0.out.below hA4 Np0.lt)
    have Np0 := hide (Np0.below hA4 Np0.lt)
    clear XX0 hA4 hb4
    have lt4_0 := Q0.lt
    have cs4_0_0 := Q0.cell 0
    have cs4_0_1 := Q0.cell 1
    have cs4_0_2 := Q0.cell 2
    have cs4_0_3 := Q0.cell 3
    have cs4_0_4 := Q0.cell 4
    have cs4_0_5 := Q0.cell 5
    have cs4_0_6 := Q0.cell 6
    have d_0_0 := P0.cell 0
    have d_0_1 := P0.cell 1
    have d_0_2 := P0.cell 2
    have d_0_3 := P0.cell 3
    have d_0_4 := P0.cell 4
    have d_0_5 := P0.cell 5
    have d_0_6 := P0.cell 6
    go_wp2_with fail
    refine (implEventWrite_any x0 _ _ _ Xp0.out Np0.out.lt (by omega) (HTB.out.below B4a.out)).mono ?_
    rintro e u5 ⟨rfl, hb5⟩
    have B5 := hide (B4a.out.trans (hb5.mono B4a.out.size))
    clear cs4_0_0 cs4_0_1 cs4_0_2 cs4_0_3 cs4_0_4 cs4_0_5 cs4_0_6
    clear d_0_0 d_0_1 d_0_2 d_0_3 d_0_4 d_0_5 d_0_6
    have Q0 := Q0.below hb5 Q0.lt
    have P0 := P0.below hb5 P0.lt
    have Xp0 := hide (Xp0.out.below hb5 Np0.out.lt)
    have Np0 := hide (Np0.out.below hb5 Np0.out.lt)
    clear hb5
    have lt5_0 := Q0.lt
    have ltp5_0 := P0.lt
    have sQ := Q0
    have c100_0_0 := Q0.cell 0
    have c100_0_1 := Q0.cell 1
    have c100_0_2 := Q0.cell 2
    have c100_0_3 := Q0.cell 3
    have c100_0_4 := Q0.cell 4
    have c100_0_5 := Q0.cell 5
    have c100_0_6 := Q0.cell 6
    have d100_0_0 := P0.cell 0
    have d100_0_1 := P0.cell 1
    have d100_0_2 := P0.cell 2
    have d100_0_3 := P0.cell 3
    have d100_0_4 := P0.cell 4
    have d100_0_5 := P0.cell 5
    have d100_0_6 := P0.cell 6
    go_wp2
    go_region_held3 (fun w' => w'.cell? ⟨w.heap.size, 0, none⟩ = some (.string x0.type_) ∧ w'.cell? ⟨w.heap.size, 1, none⟩ = some (.int .i64 x0.version) ∧ w'.cell? ⟨w.heap.size, 2, none⟩ = some (.int .i64 x0.body.sort) ∧ w'.cell? ⟨w.heap.size, 3, none⟩ = some (.int .i64 x0.body.num) ∧ w'.cell? ⟨w.heap.size, 4, none⟩ = some (.string x0.body.text) ∧ w'.cell? ⟨w.heap.size, 5, none⟩ = some (.slice a0A1 x0.body.names.length a0c1) ∧ w'.cell? ⟨w.heap.size, 6, none⟩ = some (.slice a0A2 x0.body.kids.length a0c2) ∧ w'.cell? ⟨u4.heap.size, 0, none⟩ = some (.string x0.type_) ∧ w'.cell? ⟨u4.heap.size, 1, none⟩ = some (.int .i64 x0.version) ∧ w'.cell? ⟨u4.heap.size, 2, none⟩ = some (.int .i64 x0.body.sort) ∧ w'.cell? ⟨u4.heap.size, 3, none⟩ = some (.int .i64 x0.body.num) ∧ w'.cell? ⟨u4.heap.size, 4, none⟩ = some (.string x0.body.text) ∧ w'.cell? ⟨u4.heap.size, 5, none⟩ = some (.slice b0A1 x0.body.names.length b0c1) ∧ w'.cell? ⟨u4.heap.size, 6, none⟩ = some (.slice b0A2 x0.body.kids.length b0c2))
      (first | go_keep | exact ⟨m2Q0.cell 0, m2Q0.cell 1, m2Q0.cell 2, m2Q0.cell 3, m2Q0.cell 4, m2Q0.cell 5, m2Q0.cell 6, m2P0.cell 0, m2P0.cell 1, m2P0.cell 2, m2P0.cell 3, m2P0.cell 4, m2P0.cell 5, m2P0.cell 6⟩ | exact ⟨m1Q0.cell 0, m1Q0.cell 1, m1Q0.cell 2, m1Q0.cell 3, m1Q0.cell 4, m1Q0.cell 5, m1Q0.cell 6, m1P0.cell 0, m1P0.cell 1, m1P0.cell 2, m1P0.cell 3, m1P0.cell 4, m1P0.cell 5, m1P0.cell 6⟩)
      (first
        | (go_at_call 18; refine (toEvent_any x0 _ _ _ (HO0.out.below B5.out.drew hl0) (hl0.up B5.out.drew) (by omega)).mono ?_; rintro e v1 ⟨vse0, qe0, rfl, Xe0, Ne0, hb200⟩; have m1Q0 := (Q0.drewN 1).below hb200 (by exact Q0.lt); have m1P0 := (P0.drewN 1).below hb200 (by exact P0.lt))
        | (go_at_call 20; refine (eqEvent_any x0 _ _ _ _ _ ((Xp0.out.drewN 1).below hb200 (by exact Np0.out.lt)) Xe0 (by exact (Np0.out.lt.mono hb200.size)) Ne0.lt).mono ?_; rintro e v2 ⟨rfl, hb201⟩; have m2Q0 := m1Q0.below hb201 m1Q0.lt; have m2P0 := m1P0.below hb201 m1P0.lt))
    have hz0a : Below u5.heap.size u5 v1 := ⟨hb200.os, hb200.tape, hb200.output, hb200.size, hb200.block⟩
    have B300 := hide ((B5.out.trans (hz0a.mono B5.out.size)).trans (hb201.mono (Nat.le_trans B5.out.size hz0a.size)))
    have Q0 := (Q0.below hz0a Q0.lt).below hb201 (Nat.lt_of_lt_of_le Q0.lt hz0a.size)
    have P0 := (P0.below hz0a P0.lt).below hb201 (Nat.lt_of_lt_of_le P0.lt hz0a.size)
    have Xp0 := hide ((Xp0.out.below hz0a Np0.out.lt).below hb201 (Np0.out.lt.mono hz0a.size))
    have Np0 := hide ((Np0.out.below hz0a Np0.out.lt).below hb201 (Np0.out.lt.mono hz0a.size))
    clear m1Q0 m1P0 m2Q0 m2P0 c100_0_0 c100_0_1 c100_0_2 c100_0_3 c100_0_4 c100_0_5 c100_0_6 d100_0_0 d100_0_1 d100_0_2 d100_0_3 d100_0_4 d100_0_5 d100_0_6
    go_wp2
    go_ret
    exact ⟨rfl, B300.out⟩
  · rw [szr_no hbk0]
    go_wp2
    go_ret
    exact ⟨rfl, B1.out⟩
end Go.Proofs.YtclljkojkmjboaaDoor
