/-
  FnExactEventPack returns true for every input: the program answers as the reference, in memory of its own. No condition.
-/
import Derived.Test.YtfllacpmbcamkaaEventPack
import Derived.Test.YtfllacpmbcamkaaNEvent
import Derived.Test.YtfllacpmbcamkaaHEvent
import Derived.Deep.RegionHeld3
set_option linter.unusedVariables false
set_option linter.unusedSimpArgs false
namespace Go.Proofs.Ytfllacpmbcamkaa
open Go.ChangeShapes Go.WideShapes Go.ChangeAt Go.RowKit

set_option maxRecDepth 100000 in
set_option maxHeartbeats 2000000 in
theorem lawFnExactEventPack_any (w : World) (x0 : Event) (us0 : List Value) (fp0 : List Nat) (ho0 : OwC w x0.cells us0 fp0) (hl0 : Lt fp0 w.heap.size) :
    Calls Try.prog 12 #[.agg us0.toArray] w fun e w' => e = .returned (.bool true) ∧ Below w.heap.size w w' := by
  have HO := hide ho0
  have hrl : (x0.packed).length ≤ 1048576 := by have := x0.packed_len; omega
  obtain ⟨aA1, ac1, aA2, ac2, af1, af2, rfl, aw0, aw1, aw2, aw3, aw4, ao1, ao2, ea⟩ := ho0.oEvent
  clear ho0 ao1 ao2
  have Q : Row (w.alloc (.cells #[.string x0.type_, .int .i64 x0.version, .int .i64 x0.body.sort, .int .i64 x0.body.num, .string x0.body.text, .slice aA1 x0.body.names.length ac1, .slice aA2 x0.body.kids.length ac2] 37)) w.heap.size 37 [.string x0.type_, .int .i64 x0.version, .int .i64 x0.body.sort, .int .i64 x0.body.num, .string x0.body.text, .slice aA1 x0.body.names.length ac1, .slice aA2 x0.body.kids.length ac2] := Row.new w _ _
  have B0 := hide (show Below w.heap.size w (w.alloc (.cells #[.string x0.type_, .int .i64 x0.version, .int .i64 x0.body.sort, .int .i64 x0.body.num, .string x0.body.text, .slice aA1 x0.body.names.length ac1, .slice aA2 x0.body.kids.length ac2] 37)) from (Below.refl _ _).alloc (Nat.le_refl _) _)
  go_enter Try.func12, Try.ntmps12
  go_wp2_with fail
  refine (szEvent_any x0 _ _ _ _ (HO.out.below B0.out hl0) (hl0.up B0.out) (by omega) (by omega)).mono ?_
  rintro e u1 ⟨rfl, hb1⟩
  have B1 := hide (B0.out.trans (hb1.mono B0.out.size))
  have Q := Q.below hb1 Q.lt
  have lt1 := Q.lt
  have s0 := Q.cell 0
  have s1 := Q.cell 1
  have s2 := Q.cell 2
  have s3 := Q.cell 3
  have s4 := Q.cell 4
  have s5 := Q.cell 5
  have s6 := Q.cell 6
  clear hb1
  by_cases hbk : ((x0.bulk : Nat) : Int) ≤ (1048576 : Int)
  · rw [szr_yes hbk]
    have hcn := x0.body.cntTop_le; have hbb := x0.body_bulk
    go_wp2_with fail
    refine (toEvent_any x0 _ _ _ (HO.out.below B1.out hl0) (hl0.up B1.out) (by omega)).mono ?_
    rintro e u2 ⟨vsr, qr, rfl, Xr, Nr, hb2⟩
    have B2 := hide (B1.out.trans (hb2.mono B1.out.size))
    clear s0 s1 s2 s3 s4 s5 s6
    have Q := Q.below hb2 Q.lt
    have XR := hide Xr
    have NR := hide Nr
    clear hb2 Xr Nr
    go_wp2_with fail
    refine (specEventPack_any x0 _ _ _ XR.out NR.out.lt (by omega)).mono ?_
    rintro e u3 ⟨v0, rfl, y0, hb3⟩
    obtain ⟨f0, o0, n0⟩ := y0.toOw
    obtain ⟨A0, c0, rfl, _, _⟩ := o0.slice
    have O0 := hide o0
    have N0 := hide n0
    have B3 := hide (B2.out.trans (hb3.mono B2.out.size))
    have Q := Q.below hb3 Q.lt
    have lt3 := Q.lt
    have s0 := Q.cell 0
    have s1 := Q.cell 1
    have s2 := Q.cell 2
    have s3 := Q.cell 3
    have s4 := Q.cell 4
    have s5 := Q.cell 5
    have s6 := Q.cell 6
    clear hb3 o0 n0 y0
    go_wp2_with fail
    refine (toEvent_any x0 _ _ _ (HO.out.below B3.out hl0) (hl0.up B3.out) (by omega)).mono ?_
    rintro e u4 ⟨vsp, qp, rfl, Xp, Np, hb4⟩
    have B4 := hide (B3.out.trans (hb4.mono B3.out.size))
    clear s0 s1 s2 s3 s4 s5 s6
    have Q := Q.below hb4 Q.lt
    have hd0 := hide (show ∀ g ∈ f0, g ∉ qp from fun g hg h => by have := N0.out.lt g hg; have := (Np.fr g h).1; omega)
    have hQp : w.heap.size ∉ qp := fun h => by have := (Np.fr _ h).1; have := B3.out.size; omega
    have hQ0 : ∀ g ∈ qp, w.heap.size ≤ g := fun g h => by have := (Np.fr _ h).1; have := B3.out.size; omega
    have O0 := hide (O0.out.below hb4 N0.out.lt)
    have N0 := hide (N0.out.below hb4 N0.out.lt)
    have XX := hide Xp
    obtain ⟨bA1, bc1, bA2, bc2, bf1, bf2, rfl, bw0, bw1, bw2, bw3, bw4, bo1, bo2, eb⟩ := Xp.oEvent
    clear Xp bo1 bo2
    have P : Row (u4.alloc (.cells #[.string x0.type_, .int .i64 x0.version, .int .i64 x0.body.sort, .int .i64 x0.body.num, .string x0.body.text, .slice bA1 x0.body.names.length bc1, .slice bA2 x0.body.kids.length bc2] 44)) u4.heap.size 44 [.string x0.type_, .int .i64 x0.version, .int .i64 x0.body.sort, .int .i64 x0.body.num, .string x0.body.text, .slice bA1 x0.body.names.length bc1, .slice bA2 x0.body.kids.length bc2] := Row.new u4 _ _
    have hA4 : Below u4.heap.size u4 (u4.alloc (.cells #[.string x0.type_, .int .i64 x0.version, .int .i64 x0.body.sort, .int .i64 x0.body.num, .string x0.body.text, .slice bA1 x0.body.names.length bc1, .slice bA2 x0.body.kids.length bc2] 44)) := (Below.refl _ _).alloc (Nat.le_refl _) _
    have B4a := hide (B4.out.trans (hA4.mono B4.out.size))
    have Q := Q.below hA4 Q.lt
    have hq4 := Np.lt
    have Xp := hide (XX.out.below hA4 Np.lt)
    have O0 := hide (O0.out.below hA4 N0.out.lt)
    have N0 := hide (N0.out.below hA4 N0.out.lt)
    have Np := hide (Np.below hA4 Np.lt)
    have lt4 := Q.lt
    clear XX hA4 hb4
    have d0 := P.cell 0
    have d1 := P.cell 1
    have d2 := P.cell 2
    have d3 := P.cell 3
    have d4 := P.cell 4
    have d5 := P.cell 5
    have d6 := P.cell 6
    go_wp2_with fail
    refine (implEventPack_any x0 _ _ _ Xp.out Np.out.lt (by omega)).mono ?_
    rintro e u5 ⟨v1, rfl, y1, hb5⟩
    obtain ⟨f1, o1, n1⟩ := y1.toOw
    obtain ⟨A1, c1, rfl, _, _⟩ := o1.slice
    have B5 := hide (B4a.out.trans (hb5.mono B4a.out.size))
    clear d0 d1 d2 d3 d4 d5 d6
    have Q := Q.below hb5 Q.lt
    have P := P.below hb5 P.lt
    have Xp := hide (Xp.out.below hb5 Np.out.lt)
    have O1 := hide o1
    have N1 := hide n1
    have hd1 := hide (show ∀ g ∈ f1, g ∉ qp from fun g hg h => by have := Np.out.lt g h; have := (n1.fr g hg).1; omega)
    have hd01 := hide (show ∀ g ∈ f0, g ∉ f1 from fun g hg h => by have := N0.out.lt g hg; have := (n1.fr g h).1; omega)
    have hQ1 : ∀ g ∈ f1, w.heap.size < g := fun g h => by have h1 := (n1.fr g h).1; rw [World.size_alloc] at h1; have := B4.out.size; omega
    have O0 := hide (O0.out.below hb5 N0.out.lt)
    have N0 := hide (N0.out.below hb5 N0.out.lt)
    have Np := hide (Np.out.below hb5 Np.out.lt)
    clear hb5 o1 n1 y1
    go_wp2_with fail
    refine (eqByteS_same x0.packed _ _ _ _ _ _ _ _ _ O1.out O0.out).mono ?_
    rintro e u6 ⟨rfl, hb6⟩
    have B6 := hide (B5.out.trans (hb6.mono B5.out.size))
    have Q := Q.below hb6 Q.lt
    have P := P.below hb6 P.lt
    have Xp := hide (Xp.out.below hb6 Np.out.lt)
    have O0 := hide (O0.out.below hb6 N0.out.lt)
    have N0 := hide (N0.out.below hb6 N0.out.lt)
    have O1 := hide (O1.out.below hb6 N1.out.lt)
    have N1 := hide (N1.out.below hb6 N1.out.lt)
    have Np := hide (Np.out.below hb6 Np.out.lt)
    clear hb6
    have lq6 := Q.lt
    have lp6 := P.lt
    have s0 := Q.cell 0
    have s1 := Q.cell 1
    have s2 := Q.cell 2
    have s3 := Q.cell 3
    have s4 := Q.cell 4
    have s5 := Q.cell 5
    have s6 := Q.cell 6
    have d0 := P.cell 0
    have d1 := P.cell 1
    have d2 := P.cell 2
    have d3 := P.cell 3
    have d4 := P.cell 4
    have d5 := P.cell 5
    have d6 := P.cell 6
    go_wp2
    go_region_held3 (fun w' => w'.cell? ⟨w.heap.size, 0, none⟩ = some (.string x0.type_) ∧ w'.cell? ⟨w.heap.size, 1, none⟩ = some (.int .i64 x0.version) ∧ w'.cell? ⟨w.heap.size, 2, none⟩ = some (.int .i64 x0.body.sort) ∧ w'.cell? ⟨w.heap.size, 3, none⟩ = some (.int .i64 x0.body.num) ∧ w'.cell? ⟨w.heap.size, 4, none⟩ = some (.string x0.body.text) ∧ w'.cell? ⟨w.heap.size, 5, none⟩ = some (.slice aA1 x0.body.names.length ac1) ∧ w'.cell? ⟨w.heap.size, 6, none⟩ = some (.slice aA2 x0.body.kids.length ac2) ∧ w'.cell? ⟨u4.heap.size, 0, none⟩ = some (.string x0.type_) ∧ w'.cell? ⟨u4.heap.size, 1, none⟩ = some (.int .i64 x0.version) ∧ w'.cell? ⟨u4.heap.size, 2, none⟩ = some (.int .i64 x0.body.sort) ∧ w'.cell? ⟨u4.heap.size, 3, none⟩ = some (.int .i64 x0.body.num) ∧ w'.cell? ⟨u4.heap.size, 4, none⟩ = some (.string x0.body.text) ∧ w'.cell? ⟨u4.heap.size, 5, none⟩ = some (.slice bA1 x0.body.names.length bc1) ∧ w'.cell? ⟨u4.heap.size, 6, none⟩ = some (.slice bA2 x0.body.kids.length bc2))
      (first | go_keep | exact ⟨m2Q.cell 0, m2Q.cell 1, m2Q.cell 2, m2Q.cell 3, m2Q.cell 4, m2Q.cell 5, m2Q.cell 6, m2P.cell 0, m2P.cell 1, m2P.cell 2, m2P.cell 3, m2P.cell 4, m2P.cell 5, m2P.cell 6⟩ | exact ⟨m1Q.cell 0, m1Q.cell 1, m1Q.cell 2, m1Q.cell 3, m1Q.cell 4, m1Q.cell 5, m1Q.cell 6, m1P.cell 0, m1P.cell 1, m1P.cell 2, m1P.cell 3, m1P.cell 4, m1P.cell 5, m1P.cell 6⟩)
      (first
        | (go_at_call 20; refine (toEvent_any x0 _ _ _ (HO.out.below B6.out.drew hl0) (hl0.up B6.out.drew) (by omega)).mono ?_; rintro e v1_ ⟨vse, qe, rfl, Xe, Ne, hb20⟩; have m1Q := (Q.drewN 1).below hb20 (by exact lq6); have m1P := (P.drewN 1).below hb20 (by exact lp6))
        | (go_at_call 22; refine (eqEvent_any x0 _ _ _ _ _ ((Xp.out.drewN 1).below hb20 (by exact Np.out.lt)) Xe (by exact (Np.out.lt.mono hb20.size)) Ne.lt).mono ?_; rintro e u7 ⟨rfl, hb21⟩; have m2Q := m1Q.below hb21 m1Q.lt; have m2P := m1P.below hb21 m1P.lt))
    have hz7 : Below u6.heap.size u6 v1_ := ⟨hb20.os, hb20.tape, hb20.output, hb20.size, hb20.block⟩
    have hb7 : Below u6.heap.size u6 u7 := hz7.trans (hb21.mono hz7.size)
    have B7 := hide (B6.out.trans (hb7.mono B6.out.size))
    have Q := Q.below hb7 Q.lt
    have P := P.below hb7 P.lt
    have Xp := hide (Xp.out.below hb7 Np.out.lt)
    have O0 := hide (O0.out.below hb7 N0.out.lt)
    have N0 := hide (N0.out.below hb7 N0.out.lt)
    have O1 := hide (O1.out.below hb7 N1.out.lt)
    have N1 := hide (N1.out.below hb7 N1.out.lt)
    have Np := hide (Np.out.below hb7 Np.out.lt)
    clear s0 s1 s2 s3 s4 s5 s6
    clear d0 d1 d2 d3 d4 d5 d6
    clear m1Q m1P m2Q m2P hb20 hb21 hz7 hb7
    have lq7 := Q.lt
    have d0 := P.cell 0
    have d1 := P.cell 1
    have d2 := P.cell 2
    have d3 := P.cell 3
    have d4 := P.cell 4
    have d5 := P.cell 5
    have d6 := P.cell 6
    go_wp2_with fail
    refine (markEvent_touch x0 _ qp _ _ 1 _ rfl Xp.out Np.out (by omega)).mono ?_
    rintro e u8 ⟨rfl, ht8⟩
    have B8 := hide (B7.out.trans (ht8.to_below B7.out.size hQ0))
    have Q : Row u8 w.heap.size 37 [.string x0.type_, .int .i64 x0.version, .int .i64 x0.body.sort, .int .i64 x0.body.num, .string x0.body.text, .slice aA1 x0.body.names.length ac1, .slice aA2 x0.body.kids.length ac2] := (ht8.block _ lq7 hQp).trans Q
    have O0 := hide (O0.out.touch ht8 N0.out.lt hd0.out)
    have O1 := hide (O1.out.touch ht8 N1.out.lt hd1.out)
    have N0 := hide (ht8.new N0.out)
    have N1 := hide (ht8.new N1.out)
    clear d0 d1 d2 d3 d4 d5 d6
    clear ht8 P Xp Np
    go_wp2_with fail
    refine (eqByteS_same x0.packed _ _ _ _ _ _ _ _ _ O1.out O0.out).mono ?_
    rintro e u9 ⟨rfl, hb9⟩
    have B9 := hide (B8.out.trans (hb9.mono B8.out.size))
    have Q := Q.below hb9 Q.lt
    have O0 := hide (O0.out.below hb9 N0.out.lt)
    have N0 := hide (N0.out.below hb9 N0.out.lt)
    have O1 := hide (O1.out.below hb9 N1.out.lt)
    have N1 := hide (N1.out.below hb9 N1.out.lt)
    clear hb9
    have lq9 := Q.lt
    go_wp2_with fail
    refine (markByteS_any x0.packed _ _ _ f1 _ _ 1 _ rfl O1.out N1.out (by omega)).mono ?_
    rintro e u10 ⟨L', rfl, hl', o1, hmk, ht⟩
    have O1 := hide o1
    have M := hide hmk
    have B10 := hide (B9.out.trans (ht.to_below B9.out.size (fun g h => Nat.le_of_lt (hQ1 g h))))
    have Q : Row u10 w.heap.size 37 [.string x0.type_, .int .i64 x0.version, .int .i64 x0.body.sort, .int .i64 x0.body.num, .string x0.body.text, .slice aA1 x0.body.names.length ac1, .slice aA2 x0.body.kids.length ac2] := (ht.block _ lq9 (fun h => Nat.lt_irrefl _ (hQ1 _ h))).trans Q
    have O0 := hide (O0.out.touch ht N0.out.lt hd01.out)
    have N0 := hide (ht.new N0.out)
    have N1 := hide (ht.new N1.out)
    clear o1 hmk ht hl'
    go_wp2_with fail
    refine (heldByteS_any L' _ _ _ f1 _ 1 (1 + (x0.packed).length) _ rfl O1.out N1.out.lt M.out (by omega)).mono ?_
    rintro e u11 ⟨rfl, hb11⟩
    have B11 := hide (B10.out.trans (hb11.mono B10.out.size))
    have Q := Q.below hb11 Q.lt
    have O0 := hide (O0.out.below hb11 N0.out.lt)
    have N0 := hide (N0.out.below hb11 N0.out.lt)
    have O1 := hide (O1.out.below hb11 N1.out.lt)
    have N1 := hide (N1.out.below hb11 N1.out.lt)
    clear hb11
    have lq11 := Q.lt
    have s0 := Q.cell 0
    have s1 := Q.cell 1
    have s2 := Q.cell 2
    have s3 := Q.cell 3
    have s4 := Q.cell 4
    have s5 := Q.cell 5
    have s6 := Q.cell 6
    go_wp2_with fail
    refine (toEvent_any x0 _ _ _ (HO.out.below B11.out hl0) (hl0.up B11.out) (by omega)).mono ?_
    rintro e u12 ⟨vsh, qh, rfl, Xh, Nh, hb12⟩
    have B12 := hide (B11.out.trans (hb12.mono B11.out.size))
    clear s0 s1 s2 s3 s4 s5 s6
    have O0 := hide (O0.out.below hb12 N0.out.lt)
    have N0 := hide (N0.out.below hb12 N0.out.lt)
    have O1 := hide (O1.out.below hb12 N1.out.lt)
    have N1 := hide (N1.out.below hb12 N1.out.lt)
    have XH := hide Xh
    have NH := hide Nh
    clear hb12 Xh Nh Q
    go_wp2_with fail
    refine (implEventPack_any x0 _ _ _ XH.out NH.out.lt (by omega)).mono ?_
    rintro e u13 ⟨v2, rfl, y2, hb13⟩
    obtain ⟨f2, o2, n2⟩ := y2.toOw
    obtain ⟨A2, c2, rfl, _, _⟩ := o2.slice
    have B13 := hide (B12.out.trans (hb13.mono B12.out.size))
    have O0 := hide (O0.out.below hb13 N0.out.lt)
    have N0 := hide (N0.out.below hb13 N0.out.lt)
    have O1 := hide (O1.out.below hb13 N1.out.lt)
    have N1 := hide (N1.out.below hb13 N1.out.lt)
    have O2 := hide o2
    clear hb13 o2 n2 y2
    go_wp2_with fail
    refine (eqByteS_same x0.packed _ _ _ _ _ _ _ _ _ O2.out O0.out).mono ?_
    rintro e u14 ⟨rfl, hb14⟩
    have B14 := hide (B13.out.trans (hb14.mono B13.out.size))
    have O1 := hide (O1.out.below hb14 N1.out.lt)
    have N1 := hide (N1.out.below hb14 N1.out.lt)
    clear hb14
    go_wp2_with fail
    refine (heldByteS_any L' _ _ _ f1 _ 1 (1 + (x0.packed).length) _ rfl O1.out N1.out.lt M.out (by omega)).mono ?_
    rintro e u15 ⟨rfl, hb15⟩
    have B15 := hide (B14.out.trans (hb15.mono B14.out.size))
    go_wp2
    go_ret
    exact ⟨rfl, B15.out⟩
  · rw [szr_no hbk]
    go_wp2
    go_ret
    exact ⟨rfl, B1.out⟩
end Go.Proofs.Ytfllacpmbcamkaa
