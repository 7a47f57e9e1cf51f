/-
  FnEventBack returns true for every input: an event is read back from its bytes, and from its text. No condition.
-/
import Derived.Deep.RegionHeld3
import Derived.Deep.Cut
import Derived.Test.YtnaecdoeldoipaaGreatDoorQTrS5
import Derived.Test.YtnaecdoeldoipaaGreatDoorQUnp
import Derived.Test.YtnaecdoeldoipaaGreatDoorQTtEvent
import Derived.Test.YtnaecdoeldoipaaGreatDoorQUnpI
import Derived.Test.YtnaecdoeldoipaaGreatDoorQEvWrite
import Derived.Test.YtnaecdoeldoipaaGreatDoorQErS
import Derived.Test.YtnaecdoeldoipaaGreatDoorQErI
set_option linter.unusedVariables false
set_option linter.unusedSimpArgs false
namespace Go.Proofs.YtnaecdoeldoipaaGreatDoor
open Go.ChangeShapes Go.WideShapes Go.ChangeAt Go.RowKit

theorem ow_conv {w : World} {l : List UInt8} {A : Option Addr} {c : Nat} {fp : List Nat} (h : Ow w (.s 1 l.length (l.flatMap byteC)) (.slice A l.length c) fp) :
    (convert 22 9 (.slice A l.length c)).run Tryz.prog w = .ok (.string (ba l)) w := by
  by_cases h0 : l.length = 0
  · have hl : l = [] := List.eq_nil_of_length_eq_zero h0
    subst hl
    exact conv_zero w A c
  · obtain ⟨gb, off, rfl, _, _, _⟩ := bytes_at h (i := 0) (by omega)
    refine conv_sub (fun j hj => ?_)
    obtain ⟨g2, o2, e, _, hc, _⟩ := bytes_at h hj
    injection e with e
    injection e with e1 e2 _
    subst e1 e2
    exact hc
theorem eventRead_wr (w : World) {e : Event} (h : e.ok) : eventRead e.wr = e ∧ eventReadB e.wr = true := by
  unfold eventRead eventReadB
  rw [readE_yes w h rfl]
  exact ⟨rfl, rfl⟩
set_option maxRecDepth 100000 in
set_option maxHeartbeats 4000000 in
theorem lawFnEventBack_any (w : World) (x0 : List UInt8) (A0 : Option Addr) (m0 c0 : Nat) (fp0 : List Nat) (ho0 : Ow w (.s 1 (x0).length ((x0).flatMap byteC)) (.slice A0 m0 c0) fp0) (hl0 : Lt fp0 w.heap.size) (ht : Lay w) (hw7 : 5 < w.heap.size) :
    Calls Tryz.prog 7 #[.slice A0 m0 c0] w fun e w' => e = .returned (.bool true) ∧ Below w.heap.size w w' := by
  obtain ⟨rfl, hc0, hm0⟩ := ho0.nlen
  have HO0 := hide ho0
  have HB := hide (Below.refl w.heap.size w)
  have HLY := hide ht
  clear ho0 ht
  by_cases hz0 : (x0.length : Int) ≤ 1048576
  rotate_left
  · have hz' : (1048576 : Int) < x0.length := by omega
    go_enter Tryz.func7, Tryz.ntmps7
    go_wp2
    go_ret
    exact ⟨rfl, HB.out⟩
  have HD := hide (drawEventPack_any x0 A0 _ c0 fp0 w HO0.out hl0 (by omega))
  go_enter Tryz.func7, Tryz.ntmps7
  go_wp2_with fail
  refine HD.out.mono ?_
  rintro e w1 ⟨us, t, fq, rfl, ho1, hf1, hbk, hb1⟩
  have HO1 := hide ho1
  have HL1 := hide hf1.lt
  have HB1 := hide hb1
  have HLY1 := hide (HLY.out.below hb1)
  have hw1 : 5 < w1.heap.size := Nat.lt_of_lt_of_le hw7 hb1.size
  obtain ⟨B1, d1, B2, d2, g1, g2, rfl, y0, y1, y2, y3, y4, y5, y6, efq⟩ := ho1.oEvent
  clear ho1 hf1 hb1 HD HB HLY y0 y1 y2 y3 y4 y5 y6 efq
  go_upto_region 4 with fail
  generalize hwA : World.alloc _ _ = w2
  have hbA : Below w1.heap.size w1 w2 := by rw [← hwA]; exact (Below.refl _ _).alloc (Nat.le_refl _) _
  have HXe2 := hide (show Row w2 w1.heap.size 46 [.string t.type_, .int .i64 t.version, .int .i64 t.body.sort, .int .i64 t.body.num, .string t.body.text, .slice B1 t.body.names.length d1, .slice B2 t.body.kids.length d2] from by rw [← hwA]; exact Row.new w1 _ _)
  have HOe2 := hide (HO1.out.below hbA HL1.out)
  have HLe2 := hide ((HL1.out).up hbA)
  have HB2 := hide (HB1.out.trans (hbA.mono HB1.out.size))
  have HLY2 := hide (HLY1.out.below hbA)
  have hw2 : 5 < w2.heap.size := Nat.lt_of_lt_of_le hw1 hbA.size
  clear hwA hbA HB1 HLY1 hw1  
  have k0 := HXe2.out.cell 0
  have k1 := HXe2.out.cell 1
  have k2 := HXe2.out.cell 2
  have k3 := HXe2.out.cell 3
  have k4 := HXe2.out.cell 4
  have k5 := HXe2.out.cell 5
  have k6 := HXe2.out.cell 6
  have kl := HXe2.out.lt
  clear HO1 HL1
  obtain ⟨s, hs⟩ : ∃ s, s = t.write := ⟨_, rfl⟩
  have HSW := hide hs
  obtain ⟨l, hp⟩ : ∃ l, l = t.packed := ⟨_, rfl⟩
  have HPK := hide hp
  have hlen : l.length ≤ 9700 := by rw [hp]; exact t.packed_len
  clear hs hp
  have HC := hide (specEventOk_any t _ fq w2 HOe2.out HLe2.out (by omega))
  go_wp2_with fail
  refine HC.out.mono ?_
  rintro e w3 ⟨rfl, hb3⟩
  have HB3 := hide (HB2.out.trans (hb3.mono HB2.out.size))
  have HLY3 := hide (HLY2.out.below hb3)
  have hw3 : 5 < w3.heap.size := Nat.lt_of_lt_of_le hw2 hb3.size
  have HXe3 := hide (HXe2.out.below hb3 HXe2.out.lt)
  have HOe3 := hide (HOe2.out.below hb3 HLe2.out)
  have HLe3 := hide (HLe2.out.up hb3)
  clear hb3 HC HB2 HLY2 hw2 HXe2 HOe2 HLe2 
  clear k0 k1 k2 k3 k4 k5 k6 kl
  have k0 := HXe3.out.cell 0
  have k1 := HXe3.out.cell 1
  have k2 := HXe3.out.cell 2
  have k3 := HXe3.out.cell 3
  have k4 := HXe3.out.cell 4
  have k5 := HXe3.out.cell 5
  have k6 := HXe3.out.cell 6
  have kl := HXe3.out.lt
  have HC := hide (specEventPack_any t _ fq w3 HOe3.out HLe3.out (by omega))
  have hp := HPK.out
  rw [← hp] at HC
  clear hp
  go_wp2_with fail
  refine HC.out.mono ?_
  rintro e w4 ⟨v_, rfl, hyw, hb4⟩
  obtain ⟨fpw, how, hnw⟩ := hyw.toOw
  obtain ⟨Aw, cw, rfl, hcw1, hcw2⟩ := how.slice
  have HOw4 := hide how
  have HLw4 := hide hnw.lt
  clear hyw how hnw
  have HB4 := hide (HB3.out.trans (hb4.mono HB3.out.size))
  have HLY4 := hide (HLY3.out.below hb4)
  have hw4 : 5 < w4.heap.size := Nat.lt_of_lt_of_le hw3 hb4.size
  have HXe4 := hide (HXe3.out.below hb4 HXe3.out.lt)
  have HOe4 := hide (HOe3.out.below hb4 HLe3.out)
  have HLe4 := hide (HLe3.out.up hb4)
  clear hb4 HC HB3 HLY3 hw3 HXe3 HOe3 HLe3 
  clear k0 k1 k2 k3 k4 k5 k6 kl
  have k0 := HXe4.out.cell 0
  have k1 := HXe4.out.cell 1
  have k2 := HXe4.out.cell 2
  have k3 := HXe4.out.cell 3
  have k4 := HXe4.out.cell 4
  have k5 := HXe4.out.cell 5
  have k6 := HXe4.out.cell 6
  have kl := HXe4.out.lt
  have HC := hide (implEventPack_any t _ fq w4 HOe4.out HLe4.out (by omega))
  have hp := HPK.out
  rw [← hp] at HC
  clear hp
  go_wp2_with fail
  refine HC.out.mono ?_
  rintro e w5 ⟨v_, rfl, hyb, hb5⟩
  obtain ⟨fpb, hob, hnb⟩ := hyb.toOw
  obtain ⟨Ab, cb, rfl, hcb1, hcb2⟩ := hob.slice
  have HOb5 := hide hob
  have HLb5 := hide hnb.lt
  clear hyb hob hnb
  have HB5 := hide (HB4.out.trans (hb5.mono HB4.out.size))
  have HLY5 := hide (HLY4.out.below hb5)
  have hw5 : 5 < w5.heap.size := Nat.lt_of_lt_of_le hw4 hb5.size
  have HXe5 := hide (HXe4.out.below hb5 HXe4.out.lt)
  have HOe5 := hide (HOe4.out.below hb5 HLe4.out)
  have HLe5 := hide (HLe4.out.up hb5)
  have HOw5 := hide (HOw4.out.below hb5 HLw4.out)
  have HLw5 := hide (HLw4.out.up hb5)
  clear hb5 HC HB4 HLY4 hw4 HXe4 HOe4 HLe4 HOw4 HLw4
  clear k0 k1 k2 k3 k4 k5 k6 kl
  have k0 := HXe5.out.cell 0
  have k1 := HXe5.out.cell 1
  have k2 := HXe5.out.cell 2
  have k3 := HXe5.out.cell 3
  have k4 := HXe5.out.cell 4
  have k5 := HXe5.out.cell 5
  have k6 := HXe5.out.cell 6
  have kl := HXe5.out.lt
  have HC := hide (implEventWrite_any t _ fq w5 HOe5.out HLe5.out (by omega) HLY5.out.tab)
  have hs := HSW.out
  rw [← hs] at HC
  clear hs
  go_wp2_with fail
  refine HC.out.mono ?_
  rintro e w6 ⟨rfl, hb6⟩
  have HB6 := hide (HB5.out.trans (hb6.mono HB5.out.size))
  have HLY6 := hide (HLY5.out.below hb6)
  have hw6 : 5 < w6.heap.size := Nat.lt_of_lt_of_le hw5 hb6.size
  have HXe6 := hide (HXe5.out.below hb6 HXe5.out.lt)
  have HOe6 := hide (HOe5.out.below hb6 HLe5.out)
  have HLe6 := hide (HLe5.out.up hb6)
  have HOw6 := hide (HOw5.out.below hb6 HLw5.out)
  have HLw6 := hide (HLw5.out.up hb6)
  have HOb6 := hide (HOb5.out.below hb6 HLb5.out)
  have HLb6 := hide (HLb5.out.up hb6)
  clear hb6 HC HB5 HLY5 hw5 HXe5 HOe5 HLe5 HOw5 HLw5 HOb5 HLb5
  clear k0 k1 k2 k3 k4 k5 k6 kl
  have k0 := HXe6.out.cell 0
  have k1 := HXe6.out.cell 1
  have k2 := HXe6.out.cell 2
  have k3 := HXe6.out.cell 3
  have k4 := HXe6.out.cell 4
  have k5 := HXe6.out.cell 5
  have k6 := HXe6.out.cell 6
  have kl := HXe6.out.lt
  have hcw := ow_conv HOw6.out
  have hcb := ow_conv HOb6.out
  obtain ⟨sb, hsb⟩ : ∃ sb, ba l = sb := ⟨_, rfl⟩
  rw [hsb] at hcw hcb
  clear hsb
  have HC := hide (implEventOk_any t _ fq w6 HOe6.out HLe6.out (by omega))
  go_wp2_with fail
  refine HC.out.mono ?_
  rintro e w7 ⟨rfl, hb7⟩
  have HB7 := hide (HB6.out.trans (hb7.mono HB6.out.size))
  have HLY7 := hide (HLY6.out.below hb7)
  have hw7 : 5 < w7.heap.size := Nat.lt_of_lt_of_le hw6 hb7.size
  have HXe7 := hide (HXe6.out.below hb7 HXe6.out.lt)
  have HOe7 := hide (HOe6.out.below hb7 HLe6.out)
  have HLe7 := hide (HLe6.out.up hb7)
  have HOw7 := hide (HOw6.out.below hb7 HLw6.out)
  have HLw7 := hide (HLw6.out.up hb7)
  have HOb7 := hide (HOb6.out.below hb7 HLb6.out)
  have HLb7 := hide (HLb6.out.up hb7)
  clear hb7 HC HB6 HLY6 hw6 HXe6 HOe6 HLe6 HOw6 HLw6 HOb6 HLb6
  clear k0 k1 k2 k3 k4 k5 k6 kl
  have k0 := HXe7.out.cell 0
  have k1 := HXe7.out.cell 1
  have k2 := HXe7.out.cell 2
  have k3 := HXe7.out.cell 3
  have k4 := HXe7.out.cell 4
  have k5 := HXe7.out.cell 5
  have k6 := HXe7.out.cell 6
  have kl := HXe7.out.lt
  clear hcw hcb
  have HC := hide (specEventWrite_any t _ fq w7 HOe7.out HLe7.out (by omega))
  have hs := HSW.out
  rw [← hs] at HC
  clear hs
  go_wp2_with fail
  refine HC.out.mono ?_
  rintro e w8 ⟨rfl, hb8⟩
  have HB8 := hide (HB7.out.trans (hb8.mono HB7.out.size))
  have HLY8 := hide (HLY7.out.below hb8)
  have hw8 : 5 < w8.heap.size := Nat.lt_of_lt_of_le hw7 hb8.size
  have HXe8 := hide (HXe7.out.below hb8 HXe7.out.lt)
  have HOe8 := hide (HOe7.out.below hb8 HLe7.out)
  have HLe8 := hide (HLe7.out.up hb8)
  have HOw8 := hide (HOw7.out.below hb8 HLw7.out)
  have HLw8 := hide (HLw7.out.up hb8)
  have HOb8 := hide (HOb7.out.below hb8 HLb7.out)
  have HLb8 := hide (HLb7.out.up hb8)
  clear hb8 HC HB7 HLY7 hw7 HXe7 HOe7 HLe7 HOw7 HLw7 HOb7 HLb7
  clear k0 k1 k2 k3 k4 k5 k6 kl
  have k0 := HXe8.out.cell 0
  have k1 := HXe8.out.cell 1
  have k2 := HXe8.out.cell 2
  have k3 := HXe8.out.cell 3
  have k4 := HXe8.out.cell 4
  have k5 := HXe8.out.cell 5
  have k6 := HXe8.out.cell 6
  have kl := HXe8.out.lt
  by_cases hok : t.ok
  rotate_left
  · rw [tb_false hok]
    have hse : s = .empty := by rw [HSW.out]; unfold Event.write; rw [if_neg (by rw [tb_false hok]; simp)]
    have e3 : s.toList = [] := by rw [hse, Lib.toList_data]; rfl
    have e4 : (s.toList == []) = true := by simpa using e3
    have hl0 : l.length = 0 := by rw [HPK.out, Event.packed_no hok]; rfl
    have hl1 : (l.length : Int) = 0 := by omega
    have hl2 : ((l.length : Int) == 0) = true := by simp [hl0]
    clear HSW HPK hse hok hl0
    go_wp2
    go_ret
    exact ⟨rfl, HB8.out⟩
  rw [tb_true hok]
  have hst : s = t.wr := by rw [HSW.out, Event.write_ok hok]
  have hs4 : s.size ≤ 9640 := by rw [hst]; exact eok_size hok
  have hrd := eventRead_wr w hok
  rw [← hst] at hrd
  have hlb : l = t.bytes := by rw [HPK.out, Event.packed_yes hok]
  have hl9 : l.length ≤ 9000 := by rw [hlb]; exact Event.bytes_lenB hok
  have hup := unpack_back hl9 hok hlb.symm
  have HR := hide hrd
  have HU := hide hup
  clear hst hrd HSW hok hlb hup HPK
  have HC := hide (implEventUnpack_any l Ab _ cb fpb w8 HOb8.out HLb8.out (by omega))
  unfold UnpOut at HC
  have hu := HU.out
  rw [hu.1, hu.2] at HC
  clear hu
  clear HOw8 HLw8 HOb8 HLb8
  go_wp2_with fail
  refine HC.out.mono ?_
  rintro e w9 ⟨us9, fq9, rfl, ho9, hn9, hb9⟩
  have HB9 := hide (HB8.out.trans (hb9.mono HB8.out.size))
  have HLY9 := hide (HLY8.out.below hb9)
  have hw9 : 5 < w9.heap.size := Nat.lt_of_lt_of_le hw8 hb9.size
  have HXe9 := hide (HXe8.out.below hb9 HXe8.out.lt)
  have HOe9 := hide (HOe8.out.below hb9 HLe8.out)
  have HLe9 := hide (HLe8.out.up hb9)
  have HO9 := hide ho9
  have HL9 := hide hn9.lt
  obtain ⟨Cx, px, Dx, qx, g1, g2, rfl, y0, y1, y2, y3, y4, y5, y6, efq⟩ := ho9.oEvent
  clear ho9 hn9 hb9 HC HB8 HLY8 hw8 HXe8 HOe8 HLe8 y0 y1 y2 y3 y4 y5 y6 efq
  clear k0 k1 k2 k3 k4 k5 k6 kl
  have k0 := HXe9.out.cell 0
  have k1 := HXe9.out.cell 1
  have k2 := HXe9.out.cell 2
  have k3 := HXe9.out.cell 3
  have k4 := HXe9.out.cell 4
  have k5 := HXe9.out.cell 5
  have k6 := HXe9.out.cell 6
  have kl := HXe9.out.lt
  go_upto_region 13 with fail
  generalize hwA : World.alloc _ _ = w10
  have hbA : Below w9.heap.size w9 w10 := by rw [← hwA]; exact (Below.refl _ _).alloc (Nat.le_refl _) _
  have HXx10 := hide (show Row w10 w9.heap.size 46 [.string t.type_, .int .i64 t.version, .int .i64 t.body.sort, .int .i64 t.body.num, .string t.body.text, .slice Cx t.body.names.length px, .slice Dx t.body.kids.length qx] from by rw [← hwA]; exact Row.new w9 _ _)
  have HOx10 := hide (HO9.out.below hbA HL9.out)
  have HLx10 := hide ((HL9.out).up hbA)
  have HB10 := hide (HB9.out.trans (hbA.mono HB9.out.size))
  have HLY10 := hide (HLY9.out.below hbA)
  have hw10 : 5 < w10.heap.size := Nat.lt_of_lt_of_le hw9 hbA.size
  have HXe10 := hide (HXe9.out.below hbA HXe9.out.lt)
  have HOe10 := hide (HOe9.out.below hbA HLe9.out)
  have HLe10 := hide (HLe9.out.up hbA)
  clear hwA hbA HB9 HLY9 hw9 HXe9 HOe9 HLe9 
  clear k0 k1 k2 k3 k4 k5 k6 kl
  have k0 := HXe10.out.cell 0
  have k1 := HXe10.out.cell 1
  have k2 := HXe10.out.cell 2
  have k3 := HXe10.out.cell 3
  have k4 := HXe10.out.cell 4
  have k5 := HXe10.out.cell 5
  have k6 := HXe10.out.cell 6
  have kl := HXe10.out.lt
  have i0 := HXx10.out.cell 0
  have i1 := HXx10.out.cell 1
  have i2 := HXx10.out.cell 2
  have i3 := HXx10.out.cell 3
  have i4 := HXx10.out.cell 4
  have i5 := HXx10.out.cell 5
  have i6 := HXx10.out.cell 6
  have il := HXx10.out.lt
  clear HO9 HL9
  have HC := hide (implEventRead_any s w10 (by omega) HLY10.out hw10)
  unfold EventReadRet at HC
  have hr := HR.out
  rw [hr.1, hr.2] at HC
  clear hr
  go_wp2_with fail
  refine HC.out.mono ?_
  rintro e w11 ⟨us11, fq11, rfl, ho11, hn11, hb11⟩
  have HB11 := hide (HB10.out.trans (hb11.mono HB10.out.size))
  have HLY11 := hide (HLY10.out.below hb11)
  have hw11 : 5 < w11.heap.size := Nat.lt_of_lt_of_le hw10 hb11.size
  have HXe11 := hide (HXe10.out.below hb11 HXe10.out.lt)
  have HOe11 := hide (HOe10.out.below hb11 HLe10.out)
  have HLe11 := hide (HLe10.out.up hb11)
  have HXx11 := hide (HXx10.out.below hb11 HXx10.out.lt)
  have HOx11 := hide (HOx10.out.below hb11 HLx10.out)
  have HLx11 := hide (HLx10.out.up hb11)
  have HO11 := hide ho11
  have HL11 := hide hn11.lt
  obtain ⟨Cy, py, Dy, qy, g1, g2, rfl, y0, y1, y2, y3, y4, y5, y6, efq⟩ := ho11.oEvent
  clear ho11 hn11 hb11 HC HB10 HLY10 hw10 HXe10 HOe10 HLe10 HXx10 HOx10 HLx10 y0 y1 y2 y3 y4 y5 y6 efq
  clear k0 k1 k2 k3 k4 k5 k6 kl
  clear i0 i1 i2 i3 i4 i5 i6 il
  have k0 := HXe11.out.cell 0
  have k1 := HXe11.out.cell 1
  have k2 := HXe11.out.cell 2
  have k3 := HXe11.out.cell 3
  have k4 := HXe11.out.cell 4
  have k5 := HXe11.out.cell 5
  have k6 := HXe11.out.cell 6
  have kl := HXe11.out.lt
  have i0 := HXx11.out.cell 0
  have i1 := HXx11.out.cell 1
  have i2 := HXx11.out.cell 2
  have i3 := HXx11.out.cell 3
  have i4 := HXx11.out.cell 4
  have i5 := HXx11.out.cell 5
  have i6 := HXx11.out.cell 6
  have il := HXx11.out.lt
  go_upto_region 14 with fail
  generalize hwA : World.alloc _ _ = w12
  have hbA : Below w11.heap.size w11 w12 := by rw [← hwA]; exact (Below.refl _ _).alloc (Nat.le_refl _) _
  have HXy12 := hide (show Row w12 w11.heap.size 46 [.string t.type_, .int .i64 t.version, .int .i64 t.body.sort, .int .i64 t.body.num, .string t.body.text, .slice Cy t.body.names.length py, .slice Dy t.body.kids.length qy] from by rw [← hwA]; exact Row.new w11 _ _)
  have HOy12 := hide (HO11.out.below hbA HL11.out)
  have HLy12 := hide ((HL11.out).up hbA)
  have HB12 := hide (HB11.out.trans (hbA.mono HB11.out.size))
  have HLY12 := hide (HLY11.out.below hbA)
  have hw12 : 5 < w12.heap.size := Nat.lt_of_lt_of_le hw11 hbA.size
  have HXe12 := hide (HXe11.out.below hbA HXe11.out.lt)
  have HXx12 := hide (HXx11.out.below hbA HXx11.out.lt)
  have HOe12 := hide (HOe11.out.below hbA HLe11.out)
  have HLe12 := hide (HLe11.out.up hbA)
  have HOx12 := hide (HOx11.out.below hbA HLx11.out)
  have HLx12 := hide (HLx11.out.up hbA)
  clear hwA hbA HB11 HLY11 hw11 HXe11 HOe11 HLe11 HXx11 HOx11 HLx11 
  clear k0 k1 k2 k3 k4 k5 k6 kl
  have k0 := HXe12.out.cell 0
  have k1 := HXe12.out.cell 1
  have k2 := HXe12.out.cell 2
  have k3 := HXe12.out.cell 3
  have k4 := HXe12.out.cell 4
  have k5 := HXe12.out.cell 5
  have k6 := HXe12.out.cell 6
  have kl := HXe12.out.lt
  clear i0 i1 i2 i3 i4 i5 i6 il
  have i0 := HXx12.out.cell 0
  have i1 := HXx12.out.cell 1
  have i2 := HXx12.out.cell 2
  have i3 := HXx12.out.cell 3
  have i4 := HXx12.out.cell 4
  have i5 := HXx12.out.cell 5
  have i6 := HXx12.out.cell 6
  have il := HXx12.out.lt
  have h0 := HXy12.out.cell 0
  have h1 := HXy12.out.cell 1
  have h2 := HXy12.out.cell 2
  have h3 := HXy12.out.cell 3
  have h4 := HXy12.out.cell 4
  have h5 := HXy12.out.cell 5
  have h6 := HXy12.out.cell 6
  have hl := HXy12.out.lt
  clear HO11 HL11
  have hsI : (s.size : Int) ≤ 10000 := by omega
  have hlI : (l.length : Int) ≤ 9000 := by omega
  have HC := hide (ttEvent_any t _ _ fq9 fq w12 HOx12.out HOe12.out HLx12.out HLe12.out)
  go_wp2_with fail
  refine HC.out.mono ?_
  rintro e w13 ⟨rfl, hb13⟩
  have HB13 := hide (HB12.out.trans (hb13.mono HB12.out.size))
  have HLY13 := hide (HLY12.out.below hb13)
  have hw13 : 5 < w13.heap.size := Nat.lt_of_lt_of_le hw12 hb13.size
  have HXe13 := hide (HXe12.out.below hb13 HXe12.out.lt)
  have HXx13 := hide (HXx12.out.below hb13 HXx12.out.lt)
  have HXy13 := hide (HXy12.out.below hb13 HXy12.out.lt)
  have HOe13 := hide (HOe12.out.below hb13 HLe12.out)
  have HLe13 := hide (HLe12.out.up hb13)
  have HOx13 := hide (HOx12.out.below hb13 HLx12.out)
  have HLx13 := hide (HLx12.out.up hb13)
  have HOy13 := hide (HOy12.out.below hb13 HLy12.out)
  have HLy13 := hide (HLy12.out.up hb13)
  clear hb13 HC HB12 HLY12 hw12 HXe12 HOe12 HLe12 HXx12 HOx12 HLx12 HXy12 HOy12 HLy12 
  clear k0 k1 k2 k3 k4 k5 k6 kl
  clear i0 i1 i2 i3 i4 i5 i6 il
  clear h0 h1 h2 h3 h4 h5 h6 hl
  have k0 := HXe13.out.cell 0
  have k1 := HXe13.out.cell 1
  have k2 := HXe13.out.cell 2
  have k3 := HXe13.out.cell 3
  have k4 := HXe13.out.cell 4
  have k5 := HXe13.out.cell 5
  have k6 := HXe13.out.cell 6
  have kl := HXe13.out.lt
  have i0 := HXx13.out.cell 0
  have i1 := HXx13.out.cell 1
  have i2 := HXx13.out.cell 2
  have i3 := HXx13.out.cell 3
  have i4 := HXx13.out.cell 4
  have i5 := HXx13.out.cell 5
  have i6 := HXx13.out.cell 6
  have il := HXx13.out.lt
  have h0 := HXy13.out.cell 0
  have h1 := HXy13.out.cell 1
  have h2 := HXy13.out.cell 2
  have h3 := HXy13.out.cell 3
  have h4 := HXy13.out.cell 4
  have h5 := HXy13.out.cell 5
  have h6 := HXy13.out.cell 6
  have hl := HXy13.out.lt
  have HC := hide (ttEvent_any t _ _ fq11 fq w13 HOy13.out HOe13.out HLy13.out HLe13.out)
  go_wp2_with fail
  refine HC.out.mono ?_
  rintro e w14 ⟨rfl, hb14⟩
  have HB14 := hide (HB13.out.trans (hb14.mono HB13.out.size))
  have HLY14 := hide (HLY13.out.below hb14)
  have hw14 : 5 < w14.heap.size := Nat.lt_of_lt_of_le hw13 hb14.size
  have HXe14 := hide (HXe13.out.below hb14 HXe13.out.lt)
  have HXx14 := hide (HXx13.out.below hb14 HXx13.out.lt)
  have HXy14 := hide (HXy13.out.below hb14 HXy13.out.lt)
  have HOe14 := hide (HOe13.out.below hb14 HLe13.out)
  have HLe14 := hide (HLe13.out.up hb14)
  have HOx14 := hide (HOx13.out.below hb14 HLx13.out)
  have HLx14 := hide (HLx13.out.up hb14)
  have HOy14 := hide (HOy13.out.below hb14 HLy13.out)
  have HLy14 := hide (HLy13.out.up hb14)
  clear hb14 HC HB13 HLY13 hw13 HXe13 HOe13 HLe13 HXx13 HOx13 HLx13 HXy13 HOy13 HLy13 
  clear k0 k1 k2 k3 k4 k5 k6 kl
  clear i0 i1 i2 i3 i4 i5 i6 il
  clear h0 h1 h2 h3 h4 h5 h6 hl
  have k0 := HXe14.out.cell 0
  have k1 := HXe14.out.cell 1
  have k2 := HXe14.out.cell 2
  have k3 := HXe14.out.cell 3
  have k4 := HXe14.out.cell 4
  have k5 := HXe14.out.cell 5
  have k6 := HXe14.out.cell 6
  have kl := HXe14.out.lt
  have i0 := HXx14.out.cell 0
  have i1 := HXx14.out.cell 1
  have i2 := HXx14.out.cell 2
  have i3 := HXx14.out.cell 3
  have i4 := HXx14.out.cell 4
  have i5 := HXx14.out.cell 5
  have i6 := HXx14.out.cell 6
  have il := HXx14.out.lt
  have h0 := HXy14.out.cell 0
  have h1 := HXy14.out.cell 1
  have h2 := HXy14.out.cell 2
  have h3 := HXy14.out.cell 3
  have h4 := HXy14.out.cell 4
  have h5 := HXy14.out.cell 5
  have h6 := HXy14.out.cell 6
  have hl := HXy14.out.lt
  go_wp2
  go_ret
  exact ⟨rfl, HB14.out⟩
end Go.Proofs.YtnaecdoeldoipaaGreatDoor
