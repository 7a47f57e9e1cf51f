/-
  FnKindHas returns true for every input: writing and reading do not change of what schema a tree is. No condition.
-/
import Derived.Deep.RegionHeld3
import Derived.Deep.Cut
import Derived.Test.YtnaecdoeldoipaaGreatDoorKDrawKH
import Derived.Test.YtnaecdoeldoipaaGreatDoorKKhV
import Derived.Test.YtnaecdoeldoipaaGreatDoorKTrU
import Derived.Test.YtnaecdoeldoipaaGreatDoorKKindHas
set_option linter.unusedVariables false
set_option linter.unusedSimpArgs false
namespace Go.Proofs.YtnaecdoeldoipaaGreatDoor
open Go.ChangeShapes Go.WideShapes Go.ChangeAt Go.RowKit

set_option maxRecDepth 100000 in
set_option maxHeartbeats 4000000 in
theorem lawFnKindHas_any (w : World) (x0 : List UInt8) (A0 : Option Addr) (m0 c0 : Nat) (fp0 : List Nat) (ho0 : Ow w (.s 1 (x0).length ((x0).flatMap byteC)) (.slice A0 m0 c0) fp0) (hl0 : Lt fp0 w.heap.size) (ht : Lay w) (hw7 : 5 < w.heap.size) :
    Calls Tryz.prog 5 #[.slice A0 m0 c0] w fun e w' => e = .returned (.bool true) ∧ Below w.heap.size w w' := by
  obtain ⟨rfl, hc0, hm0⟩ := ho0.nlen
  have HO0 := hide ho0
  have HB := hide (Below.refl w.heap.size w)
  have HLY := hide ht
  clear ho0 ht
  by_cases hz0 : (x0.length : Int) ≤ 1048576
  rotate_left
  · have hz' : (1048576 : Int) < x0.length := by omega
    go_enter Tryz.func5, Tryz.ntmps5
    go_wp2
    go_ret
    exact ⟨rfl, HB.out⟩
  have HD := hide (drawKindHas_any x0 A0 _ c0 fp0 w HO0.out hl0 (by omega))
  go_enter Tryz.func5, Tryz.ntmps5
  go_wp2_with fail
  refine HD.out.mono ?_
  rintro e w1 ⟨k, t, us, f1, vs, f2, rfl, ho1, hl1, ho2, hl2, hbk, hbt, hb1⟩
  have HO1 := hide ho1
  have HL1 := hide hl1
  have HO2 := hide ho2
  have HL2 := hide hl2
  have HB1 := hide hb1
  have HLY1 := hide (HLY.out.below hb1)
  have hw1 : 5 < w1.heap.size := Nat.lt_of_lt_of_le hw7 hb1.size
  obtain ⟨A1, p1, A2, p2, g1, g2, rfl, y0, y1, y2, efq⟩ := ho1.oKind
  clear y1 y2 efq
  obtain ⟨B1, d1, B2, d2, g3, g4, rfl, z0, z1, z2, z3, z4, efq⟩ := ho2.oTree
  clear ho1 hl1 ho2 hl2 hb1 HD HB HLY y0 z0 z1 z2 z3 z4 efq
  go_upto_region 4 with fail
  generalize hwA : World.alloc _ _ = w2
  have hbA : Below w1.heap.size w1 w2 := by rw [← hwA]; exact ((Below.refl _ _).alloc (Nat.le_refl _) _).alloc (by simp) _
  have HXk2 := hide (show Row w2 w1.heap.size 38 [.int .i64 k.sort, .slice A1 k.names.length p1, .slice A2 k.kids.length p2] from by rw [← hwA]; exact (Row.new w1 _ _).alloc _)
  have HXt2 := hide (show Row w2 (w1.heap.size + 1) 26 [.int .i64 t.sort, .int .i64 t.num, .string t.text, .slice B1 t.names.length d1, .slice B2 t.kids.length d2] from by
    rw [← hwA]
    have h := Row.new (w1.alloc (.cells [.int .i64 k.sort, .slice A1 k.names.length p1, .slice A2 k.kids.length p2].toArray 38)) 26 [.int .i64 t.sort, .int .i64 t.num, .string t.text, .slice B1 t.names.length d1, .slice B2 t.kids.length d2]
    rw [World.size_alloc] at h
    exact h)
  have HOk2 := hide (HO1.out.below hbA HL1.out)
  have HLk2 := hide (HL1.out.up hbA)
  have HOt2 := hide (HO2.out.below hbA HL2.out)
  have HLt2 := hide (HL2.out.up hbA)
  have HB2 := hide (HB1.out.trans (hbA.mono HB1.out.size))
  have HLY2 := hide (HLY1.out.below hbA)
  have hw2 : 5 < w2.heap.size := Nat.lt_of_lt_of_le hw1 hbA.size
  clear hwA hbA HB1 HLY1 hw1 HO1 HL1 HO2 HL2
  have a0 := HXk2.out.cell 0
  have a1 := HXk2.out.cell 1
  have a2 := HXk2.out.cell 2
  have al := HXk2.out.lt
  have b0 := HXt2.out.cell 0
  have b1 := HXt2.out.cell 1
  have b2 := HXt2.out.cell 2
  have b3 := HXt2.out.cell 3
  have b4 := HXt2.out.cell 4
  have bl := HXt2.out.lt
  by_cases hP : k.ok ∧ t.ok ∧ t.of k
  rotate_left
  · skip
    have HP := hide hP
    clear hP
    have HC := hide (specKindHas_any k _ f1 t _ f2 w2 HOk2.out HLk2.out (by omega) HOt2.out HLt2.out (by omega))
    rw [tb_false HP.out] at HC
    go_wp2_with fail
    refine HC.out.mono ?_
    rintro e w3 ⟨rfl, hb3⟩
    have HB3 := hide (HB2.out.trans (hb3.mono HB2.out.size))
    have HLY3 := hide (HLY2.out.below hb3)
    have hw3 : 5 < w3.heap.size := Nat.lt_of_lt_of_le hw2 hb3.size
    have HXk3 := hide (HXk2.out.below hb3 HXk2.out.lt)
    have HOk3 := hide (HOk2.out.below hb3 HLk2.out)
    have HLk3 := hide (HLk2.out.up hb3)
    have HXt3 := hide (HXt2.out.below hb3 HXt2.out.lt)
    have HOt3 := hide (HOt2.out.below hb3 HLt2.out)
    have HLt3 := hide (HLt2.out.up hb3)
    clear hb3 HC HB2 HLY2 hw2 HXk2 HOk2 HLk2 HXt2 HOt2 HLt2
    clear a0 a1 a2 al
    clear b0 b1 b2 b3 b4 bl
    have a0 := HXk3.out.cell 0
    have a1 := HXk3.out.cell 1
    have a2 := HXk3.out.cell 2
    have al := HXk3.out.lt
    have b0 := HXt3.out.cell 0
    have b1 := HXt3.out.cell 1
    have b2 := HXt3.out.cell 2
    have b3 := HXt3.out.cell 3
    have b4 := HXt3.out.cell 4
    have bl := HXt3.out.lt
    have HC := hide (implKindHas_any k _ f1 t _ f2 w3 HOk3.out HLk3.out (by omega) HOt3.out HLt3.out (by omega))
    rw [tb_false HP.out] at HC
    go_wp2_with fail
    refine HC.out.mono ?_
    rintro e w4 ⟨rfl, hb4⟩
    have HB4 := hide (HB3.out.trans (hb4.mono HB3.out.size))
    have HLY4 := hide (HLY3.out.below hb4)
    have hw4 : 5 < w4.heap.size := Nat.lt_of_lt_of_le hw3 hb4.size
    have HXk4 := hide (HXk3.out.below hb4 HXk3.out.lt)
    have HOk4 := hide (HOk3.out.below hb4 HLk3.out)
    have HLk4 := hide (HLk3.out.up hb4)
    have HXt4 := hide (HXt3.out.below hb4 HXt3.out.lt)
    have HOt4 := hide (HOt3.out.below hb4 HLt3.out)
    have HLt4 := hide (HLt3.out.up hb4)
    clear hb4 HC HB3 HLY3 hw3 HXk3 HOk3 HLk3 HXt3 HOt3 HLt3
    clear a0 a1 a2 al
    clear b0 b1 b2 b3 b4 bl
    have a0 := HXk4.out.cell 0
    have a1 := HXk4.out.cell 1
    have a2 := HXk4.out.cell 2
    have al := HXk4.out.lt
    have b0 := HXt4.out.cell 0
    have b1 := HXt4.out.cell 1
    have b2 := HXt4.out.cell 2
    have b3 := HXt4.out.cell 3
    have b4 := HXt4.out.cell 4
    have bl := HXt4.out.lt
    go_wp2
    go_ret
    exact ⟨rfl, HB4.out⟩
  have HP := hide hP
  clear hP
  have HC := hide (specKindHas_any k _ f1 t _ f2 w2 HOk2.out HLk2.out (by omega) HOt2.out HLt2.out (by omega))
  rw [tb_true HP.out] at HC
  go_wp2_with fail
  refine HC.out.mono ?_
  rintro e w3 ⟨rfl, hb3⟩
  have HB3 := hide (HB2.out.trans (hb3.mono HB2.out.size))
  have HLY3 := hide (HLY2.out.below hb3)
  have hw3 : 5 < w3.heap.size := Nat.lt_of_lt_of_le hw2 hb3.size
  have HXk3 := hide (HXk2.out.below hb3 HXk2.out.lt)
  have HOk3 := hide (HOk2.out.below hb3 HLk2.out)
  have HLk3 := hide (HLk2.out.up hb3)
  have HXt3 := hide (HXt2.out.below hb3 HXt2.out.lt)
  have HOt3 := hide (HOt2.out.below hb3 HLt2.out)
  have HLt3 := hide (HLt2.out.up hb3)
  clear hb3 HC HB2 HLY2 hw2 HXk2 HOk2 HLk2 HXt2 HOt2 HLt2
  clear a0 a1 a2 al
  clear b0 b1 b2 b3 b4 bl
  have a0 := HXk3.out.cell 0
  have a1 := HXk3.out.cell 1
  have a2 := HXk3.out.cell 2
  have al := HXk3.out.lt
  have b0 := HXt3.out.cell 0
  have b1 := HXt3.out.cell 1
  have b2 := HXt3.out.cell 2
  have b3 := HXt3.out.cell 3
  have b4 := HXt3.out.cell 4
  have bl := HXt3.out.lt
  have HC := hide (implKindHas_any k _ f1 t _ f2 w3 HOk3.out HLk3.out (by omega) HOt3.out HLt3.out (by omega))
  rw [tb_true HP.out] at HC
  go_wp2_with fail
  refine HC.out.mono ?_
  rintro e w4 ⟨rfl, hb4⟩
  have HB4 := hide (HB3.out.trans (hb4.mono HB3.out.size))
  have HLY4 := hide (HLY3.out.below hb4)
  have hw4 : 5 < w4.heap.size := Nat.lt_of_lt_of_le hw3 hb4.size
  have HXk4 := hide (HXk3.out.below hb4 HXk3.out.lt)
  have HOk4 := hide (HOk3.out.below hb4 HLk3.out)
  have HLk4 := hide (HLk3.out.up hb4)
  have HXt4 := hide (HXt3.out.below hb4 HXt3.out.lt)
  have HOt4 := hide (HOt3.out.below hb4 HLt3.out)
  have HLt4 := hide (HLt3.out.up hb4)
  clear hb4 HC HB3 HLY3 hw3 HXk3 HOk3 HLk3 HXt3 HOt3 HLt3
  clear a0 a1 a2 al
  clear b0 b1 b2 b3 b4 bl
  have a0 := HXk4.out.cell 0
  have a1 := HXk4.out.cell 1
  have a2 := HXk4.out.cell 2
  have al := HXk4.out.lt
  have b0 := HXt4.out.cell 0
  have b1 := HXt4.out.cell 1
  have b2 := HXt4.out.cell 2
  have b3 := HXt4.out.cell 3
  have b4 := HXt4.out.cell 4
  have bl := HXt4.out.lt
  obtain ⟨s, hs⟩ : ∃ s, s = t.write := ⟨_, rfl⟩
  have HSW := hide hs
  clear hs
  have HC := hide (implTreeWrite_any t _ f2 w4 HOt4.out HLt4.out (by omega) HLY4.out.tab)
  have hs := HSW.out
  rw [← hs] at HC
  clear hs
  go_wp2_with fail
  refine HC.out.mono ?_
  rintro e w5 ⟨rfl, hb5⟩
  have HB5 := hide (HB4.out.trans (hb5.mono HB4.out.size))
  have HLY5 := hide (HLY4.out.below hb5)
  have hw5 : 5 < w5.heap.size := Nat.lt_of_lt_of_le hw4 hb5.size
  have HXk5 := hide (HXk4.out.below hb5 HXk4.out.lt)
  have HOk5 := hide (HOk4.out.below hb5 HLk4.out)
  have HLk5 := hide (HLk4.out.up hb5)
  have HXt5 := hide (HXt4.out.below hb5 HXt4.out.lt)
  have HOt5 := hide (HOt4.out.below hb5 HLt4.out)
  have HLt5 := hide (HLt4.out.up hb5)
  clear hb5 HC HB4 HLY4 hw4 HXk4 HOk4 HLk4 HXt4 HOt4 HLt4
  clear a0 a1 a2 al
  clear b0 b1 b2 b3 b4 bl
  have a0 := HXk5.out.cell 0
  have a1 := HXk5.out.cell 1
  have a2 := HXk5.out.cell 2
  have al := HXk5.out.lt
  have b0 := HXt5.out.cell 0
  have b1 := HXt5.out.cell 1
  have b2 := HXt5.out.cell 2
  have b3 := HXt5.out.cell 3
  have b4 := HXt5.out.cell 4
  have bl := HXt5.out.lt
  have hst : s = t.wr := by rw [HSW.out, Tree.write_yes HP.out.2.1]
  have hs4 : s.size ≤ 9600 := by rw [hst]; exact tok_size HP.out.2.1
  have hrd := treeRead_wr w HP.out.2.1
  rw [← hst] at hrd
  have HR := hide hrd
  clear hst hrd HSW
  have HC := hide (implTreeRead_any s w5 (by unfold maxLen; omega) HLY5.out hw5)
  unfold TreeReadRet at HC
  have hr := HR.out
  rw [hr.1, hr.2] at HC
  clear hr
  go_wp2_with fail
  refine HC.out.mono ?_
  rintro e w6 ⟨us6, fq6, rfl, ho6, hn6, hb6⟩
  have HB6 := hide (HB5.out.trans (hb6.mono HB5.out.size))
  have HXk6 := hide (HXk5.out.below hb6 HXk5.out.lt)
  have HOk6 := hide (HOk5.out.below hb6 HLk5.out)
  have HLk6 := hide (HLk5.out.up hb6)
  have HXt6 := hide (HXt5.out.below hb6 HXt5.out.lt)
  have HOt6 := hide (HOt5.out.below hb6 HLt5.out)
  have HLt6 := hide (HLt5.out.up hb6)
  have HO6 := hide ho6
  have HL6 := hide hn6.lt
  obtain ⟨C1, e1, C2, e2, g1, g2, rfl, y0, y1, y2, y3, y4, efq⟩ := ho6.oTree
  clear ho6 hn6 hb6 HC HB5 HXk5 HOk5 HLk5 HXt5 HOt5 HLt5 HLY5 hw5 y0 y1 y2 y3 y4 efq HR
  clear a0 a1 a2 al
  clear b0 b1 b2 b3 b4 bl
  have a0 := HXk6.out.cell 0
  have a1 := HXk6.out.cell 1
  have a2 := HXk6.out.cell 2
  have al := HXk6.out.lt
  have b0 := HXt6.out.cell 0
  have b1 := HXt6.out.cell 1
  have b2 := HXt6.out.cell 2
  have b3 := HXt6.out.cell 3
  have b4 := HXt6.out.cell 4
  have bl := HXt6.out.lt
  go_upto_region 10 with fail
  generalize hwA : World.alloc _ _ = w7
  have hbA : Below w6.heap.size w6 w7 := by rw [← hwA]; exact (Below.refl _ _).alloc (Nat.le_refl _) _
  have HXu7 := hide (show Row w7 w6.heap.size 26 [.int .i64 t.sort, .int .i64 t.num, .string t.text, .slice C1 t.names.length e1, .slice C2 t.kids.length e2] from by rw [← hwA]; exact Row.new w6 _ _)
  have HOu7 := hide (HO6.out.below hbA HL6.out)
  have HLu7 := hide ((HL6.out).up hbA)
  have HB7 := hide (HB6.out.trans (hbA.mono HB6.out.size))
  have HXk7 := hide (HXk6.out.below hbA HXk6.out.lt)
  have HOk7 := hide (HOk6.out.below hbA HLk6.out)
  have HLk7 := hide (HLk6.out.up hbA)
  have HXt7 := hide (HXt6.out.below hbA HXt6.out.lt)
  have HOt7 := hide (HOt6.out.below hbA HLt6.out)
  have HLt7 := hide (HLt6.out.up hbA)
  clear hwA hbA HB6 HXk6 HOk6 HLk6 HXt6 HOt6 HLt6
  clear a0 a1 a2 al
  have a0 := HXk7.out.cell 0
  have a1 := HXk7.out.cell 1
  have a2 := HXk7.out.cell 2
  have al := HXk7.out.lt
  clear b0 b1 b2 b3 b4 bl
  have b0 := HXt7.out.cell 0
  have b1 := HXt7.out.cell 1
  have b2 := HXt7.out.cell 2
  have b3 := HXt7.out.cell 3
  have b4 := HXt7.out.cell 4
  have bl := HXt7.out.lt
  have j0 := HXu7.out.cell 0
  have j1 := HXu7.out.cell 1
  have j2 := HXu7.out.cell 2
  have j3 := HXu7.out.cell 3
  have j4 := HXu7.out.cell 4
  have jl := HXu7.out.lt
  clear HO6 HL6
  obtain ⟨s2, hs2⟩ : ∃ s, s = k.written := ⟨_, rfl⟩
  have HSK := hide hs2
  clear hs2
  have HC := hide (implKindWrite_any k _ f1 w7 HOk7.out HLk7.out (by omega))
  have hs := HSK.out
  rw [← hs] at HC
  clear hs
  go_wp2_with fail
  refine HC.out.mono ?_
  rintro e w8 ⟨rfl, hb8⟩
  have HB8 := hide (HB7.out.trans (hb8.mono HB7.out.size))
  have HXk8 := hide (HXk7.out.below hb8 HXk7.out.lt)
  have HOk8 := hide (HOk7.out.below hb8 HLk7.out)
  have HLk8 := hide (HLk7.out.up hb8)
  have HXt8 := hide (HXt7.out.below hb8 HXt7.out.lt)
  have HOt8 := hide (HOt7.out.below hb8 HLt7.out)
  have HLt8 := hide (HLt7.out.up hb8)
  have HXu8 := hide (HXu7.out.below hb8 HXu7.out.lt)
  have HOu8 := hide (HOu7.out.below hb8 HLu7.out)
  have HLu8 := hide (HLu7.out.up hb8)
  clear hb8 HC HB7 HXk7 HOk7 HLk7 HXt7 HOt7 HLt7 HXu7 HOu7 HLu7
  clear a0 a1 a2 al
  clear b0 b1 b2 b3 b4 bl
  clear j0 j1 j2 j3 j4 jl
  have a0 := HXk8.out.cell 0
  have a1 := HXk8.out.cell 1
  have a2 := HXk8.out.cell 2
  have al := HXk8.out.lt
  have b0 := HXt8.out.cell 0
  have b1 := HXt8.out.cell 1
  have b2 := HXt8.out.cell 2
  have b3 := HXt8.out.cell 3
  have b4 := HXt8.out.cell 4
  have bl := HXt8.out.lt
  have j0 := HXu8.out.cell 0
  have j1 := HXu8.out.cell 1
  have j2 := HXu8.out.cell 2
  have j3 := HXu8.out.cell 3
  have j4 := HXu8.out.cell 4
  have jl := HXu8.out.lt
  have hst : s2 = k.text := by rw [HSK.out, Kind.written_yes HP.out.1]
  have hs5 : s2.size ≤ 550 := by rw [hst]; exact ok_size HP.out.1
  have hrd := kindRead_text w HP.out.1
  rw [← hst] at hrd
  have HR := hide hrd
  clear hst hrd HSK
  have HC := hide (implKindRead_any s2 w8 (by unfold maxLen; omega))
  unfold KindReadRet at HC
  have hr := HR.out
  rw [hr.1, hr.2] at HC
  clear hr
  go_wp2_with fail
  refine HC.out.mono ?_
  rintro e w9 ⟨us9, fq9, rfl, ho9, hn9, hb9⟩
  have HB9 := hide (HB8.out.trans (hb9.mono HB8.out.size))
  have HXk9 := hide (HXk8.out.below hb9 HXk8.out.lt)
  have HOk9 := hide (HOk8.out.below hb9 HLk8.out)
  have HLk9 := hide (HLk8.out.up hb9)
  have HXt9 := hide (HXt8.out.below hb9 HXt8.out.lt)
  have HOt9 := hide (HOt8.out.below hb9 HLt8.out)
  have HLt9 := hide (HLt8.out.up hb9)
  have HXu9 := hide (HXu8.out.below hb9 HXu8.out.lt)
  have HOu9 := hide (HOu8.out.below hb9 HLu8.out)
  have HLu9 := hide (HLu8.out.up hb9)
  have HO9 := hide ho9
  have HL9 := hide hn9.lt
  obtain ⟨G1, q1, G2, q2, g1, g2, rfl, y0, y1, y2, efq⟩ := ho9.oKind
  clear ho9 hn9 hb9 HC HB8 HXk8 HOk8 HLk8 HXt8 HOt8 HLt8 HXu8 HOu8 HLu8 y0 y1 y2 efq HR
  clear a0 a1 a2 al
  clear b0 b1 b2 b3 b4 bl
  clear j0 j1 j2 j3 j4 jl
  have a0 := HXk9.out.cell 0
  have a1 := HXk9.out.cell 1
  have a2 := HXk9.out.cell 2
  have al := HXk9.out.lt
  have b0 := HXt9.out.cell 0
  have b1 := HXt9.out.cell 1
  have b2 := HXt9.out.cell 2
  have b3 := HXt9.out.cell 3
  have b4 := HXt9.out.cell 4
  have bl := HXt9.out.lt
  have j0 := HXu9.out.cell 0
  have j1 := HXu9.out.cell 1
  have j2 := HXu9.out.cell 2
  have j3 := HXu9.out.cell 3
  have j4 := HXu9.out.cell 4
  have jl := HXu9.out.lt
  go_upto_region 11 with fail
  generalize hwA : World.alloc _ _ = w10
  have hbA : Below w9.heap.size w9 w10 := by rw [← hwA]; exact (Below.refl _ _).alloc (Nat.le_refl _) _
  have HXv10 := hide (show Row w10 w9.heap.size 38 [.int .i64 k.sort, .slice G1 k.names.length q1, .slice G2 k.kids.length q2] from by rw [← hwA]; exact Row.new w9 _ _)
  have HOv10 := hide (HO9.out.below hbA HL9.out)
  have HLv10 := hide ((HL9.out).up hbA)
  have HB10 := hide (HB9.out.trans (hbA.mono HB9.out.size))
  have HXk10 := hide (HXk9.out.below hbA HXk9.out.lt)
  have HOk10 := hide (HOk9.out.below hbA HLk9.out)
  have HLk10 := hide (HLk9.out.up hbA)
  have HXt10 := hide (HXt9.out.below hbA HXt9.out.lt)
  have HOt10 := hide (HOt9.out.below hbA HLt9.out)
  have HLt10 := hide (HLt9.out.up hbA)
  have HXu10 := hide (HXu9.out.below hbA HXu9.out.lt)
  have HOu10 := hide (HOu9.out.below hbA HLu9.out)
  have HLu10 := hide (HLu9.out.up hbA)
  clear hwA hbA HB9 HXk9 HOk9 HLk9 HXt9 HOt9 HLt9 HXu9 HOu9 HLu9
  clear a0 a1 a2 al
  have a0 := HXk10.out.cell 0
  have a1 := HXk10.out.cell 1
  have a2 := HXk10.out.cell 2
  have al := HXk10.out.lt
  clear b0 b1 b2 b3 b4 bl
  have b0 := HXt10.out.cell 0
  have b1 := HXt10.out.cell 1
  have b2 := HXt10.out.cell 2
  have b3 := HXt10.out.cell 3
  have b4 := HXt10.out.cell 4
  have bl := HXt10.out.lt
  clear j0 j1 j2 j3 j4 jl
  have j0 := HXu10.out.cell 0
  have j1 := HXu10.out.cell 1
  have j2 := HXu10.out.cell 2
  have j3 := HXu10.out.cell 3
  have j4 := HXu10.out.cell 4
  have jl := HXu10.out.lt
  have m0 := HXv10.out.cell 0
  have m1 := HXv10.out.cell 1
  have m2 := HXv10.out.cell 2
  have ml := HXv10.out.lt
  clear HO9 HL9
  have HC := hide (implKindHas_any k _ fq9 t _ fq6 w10 HOv10.out HLv10.out (by omega) HOu10.out HLu10.out (by omega))
  rw [tb_true HP.out] at HC
  go_wp2_with fail
  refine HC.out.mono ?_
  rintro e w11 ⟨rfl, hb11⟩
  have HB11 := hide (HB10.out.trans (hb11.mono HB10.out.size))
  have HXu11 := hide (HXu10.out.below hb11 HXu10.out.lt)
  have HOu11 := hide (HOu10.out.below hb11 HLu10.out)
  have HLu11 := hide (HLu10.out.up hb11)
  have HXv11 := hide (HXv10.out.below hb11 HXv10.out.lt)
  have HOv11 := hide (HOv10.out.below hb11 HLv10.out)
  have HLv11 := hide (HLv10.out.up hb11)
  clear hb11 HC HB10 HXu10 HOu10 HLu10 HXv10 HOv10 HLv10
  clear j0 j1 j2 j3 j4 jl
  clear m0 m1 m2 ml
  have j0 := HXu11.out.cell 0
  have j1 := HXu11.out.cell 1
  have j2 := HXu11.out.cell 2
  have j3 := HXu11.out.cell 3
  have j4 := HXu11.out.cell 4
  have jl := HXu11.out.lt
  have m0 := HXv11.out.cell 0
  have m1 := HXv11.out.cell 1
  have m2 := HXv11.out.cell 2
  have ml := HXv11.out.lt
  go_wp2
  go_ret
  exact ⟨rfl, HB11.out⟩
end Go.Proofs.YtnaecdoeldoipaaGreatDoor
