/-
  FnEventStrict returns true for every input: every event has just one row of bytes and one text. No condition.
-/
import Derived.Deep.RegionHeld3
import Derived.Deep.Cut
import Derived.Test.YtnaecdoeldoipaaGreatDoorQUnp
import Derived.Test.YtnaecdoeldoipaaGreatDoorQTtEvent
import Derived.Test.YtnaecdoeldoipaaGreatDoorQUnpI
import Derived.Test.YtnaecdoeldoipaaGreatDoorQErI
import Derived.Test.YtnaecdoeldoipaaGreatDoorQDrawER
import Derived.Test.YtnaecdoeldoipaaGreatDoorQDrawEU
import Derived.Test.YtnaecdoeldoipaaGreatDoorQUnpS
import Derived.Test.YtnaecdoeldoipaaGreatDoorQUnpCnt
set_option linter.unusedVariables false
set_option linter.unusedSimpArgs false
namespace Go.Proofs.YtnaecdoeldoipaaGreatDoor
open Go.ChangeShapes Go.WideShapes Go.ChangeAt Go.RowKit

theorem ow_convS {w : World} {l : List UInt8} {A : Option Addr} {c : Nat} {fp : List Nat} (h : Ow w (.s 1 l.length (l.flatMap byteC)) (.slice A l.length c) fp) :
    (convert 22 9 (.slice A l.length c)).run Tryz.prog w = .ok (.string (ba l)) w := by
  by_cases h0 : l.length = 0
  · have hl : l = [] := List.eq_nil_of_length_eq_zero h0
    subst hl
    exact conv_zero w A c
  · obtain ⟨gb, off, rfl, _, _, _⟩ := bytes_at h (i := 0) (by omega)
    refine conv_sub (fun j hj => ?_)
    obtain ⟨g2, o2, e, _, hc, _⟩ := bytes_at h hj
    injection e with e
    injection e with e1 e2 _
    subst e1 e2
    exact hc
theorem unpack_cases (l : List UInt8) : (unpackB l = true ∧ (unpackE l).ok ∧ (unpackE l).packed = l) ∨ (unpackB l = false ∧ unpackE l = Event.none_) := by
  by_cases h : ∃ x, Event.from l x
  · obtain ⟨x, hx⟩ := h
    obtain ⟨h1, h2⟩ := unpack_yes hx
    rw [h1, h2]
    exact .inl ⟨rfl, hx.1, by rw [Event.packed_yes hx.1]; exact hx.2.1⟩
  · obtain ⟨h1, h2⟩ := unpack_no (l := l) (fun x hx => h ⟨x, hx⟩)
    exact .inr ⟨h2, h1⟩
theorem treeRead_bulkE (w : World) {k : Tree} (h1 : k.ok) : k.bulk ≤ 50000 := by
  have h := treeRead_bulk w k.wr (by have := tok_size h1; omega)
  have h3 : readT k.wr = some k := by
    cases hr : readT k.wr with
    | none => exact absurd rfl (readT_none hr k h1)
    | some q =>
      obtain ⟨a1, a2⟩ := readT_some hr
      rw [Tree.wr_inj w a1 h1 a2]
  unfold treeRead at h
  rw [h3] at h
  exact h
theorem eventRead_bulk (w : World) (s : ByteArray) : (eventRead s).bulk ≤ 100000 := by
  unfold eventRead
  cases h : readE s with
  | none => decide
  | some e =>
    obtain ⟨h1, h2⟩ := readE_some h
    have h3 := treeRead_bulkE w h1.2.2.2
    have h4 := h1.1.2.1
    show e.bulk ≤ 100000
    rw [Event.bulk_eq]
    omega
set_option maxRecDepth 100000 in
set_option maxHeartbeats 4000000 in
theorem lawFnEventStrict_any (w : World) (x0 : List UInt8) (A0 : Option Addr) (m0 c0 : Nat) (fp0 : List Nat) (ho0 : Ow w (.s 1 (x0).length ((x0).flatMap byteC)) (.slice A0 m0 c0) fp0) (hl0 : Lt fp0 w.heap.size) (ht : Lay w) (hw7 : 5 < w.heap.size) :
    Calls Tryz.prog 8 #[.slice A0 m0 c0] w fun e w' => e = .returned (.bool true) ∧ Below w.heap.size w w' := by
  obtain ⟨rfl, hc0, hm0⟩ := ho0.nlen
  have HO0 := hide ho0
  have HB := hide (Below.refl w.heap.size w)
  have HLY := hide ht
  clear ho0 ht
  by_cases hz0 : (x0.length : Int) ≤ 1048576
  rotate_left
  · have hz' : (1048576 : Int) < x0.length := by omega
    go_enter Tryz.func8, Tryz.ntmps8
    go_wp2
    go_ret
    exact ⟨rfl, HB.out⟩
  have HD := hide (drawEventUnpack_any x0 A0 _ c0 fp0 w HO0.out hl0 (by omega))
  go_enter Tryz.func8, Tryz.ntmps8
  go_wp2_with fail
  refine HD.out.mono ?_
  rintro e w1 ⟨l, Ab, cb, fpb, rfl, hob, hfb, hll, hb1⟩
  have HOb1 := hide hob
  have HLb1 := hide hfb
  have HB1 := hide hb1
  have HLY1 := hide (HLY.out.below hb1)
  have hw1 : 5 < w1.heap.size := Nat.lt_of_lt_of_le hw7 hb1.size
  have HO01 := hide (HO0.out.below hb1 hl0)
  have HL01 := hide (hl0.up hb1)
  clear hob hfb hb1 HD HB HLY HO0 hl0
  obtain ⟨t, ht⟩ : ∃ t, unpackE l = t := ⟨_, rfl⟩
  obtain ⟨told, hto⟩ : ∃ b, unpackB l = b := ⟨_, rfl⟩
  have HT := hide ht
  have HTO := hide hto
  have HCS := hide (unpack_cases l)
  have htb : t.bulk ≤ 20000 := by rw [← ht]; exact Nat.le_trans (unpackE_bulk l) hll
  clear ht hto
  have HC := hide (specEventUnpack_any l Ab _ cb fpb w1 HOb1.out HLb1.out (by omega))
  unfold UnpOut at HC
  have ht := HT.out
  have hto := HTO.out
  rw [ht, hto] at HC
  clear ht hto
  go_wp2_with fail
  refine HC.out.mono ?_
  rintro e w2 ⟨us2, fq2, rfl, ho2, hn2, hb2⟩
  have HB2 := hide (HB1.out.trans (hb2.mono HB1.out.size))
  have HLY2 := hide (HLY1.out.below hb2)
  have hw2 : 5 < w2.heap.size := Nat.lt_of_lt_of_le hw1 hb2.size
  have HOb2 := hide (HOb1.out.below hb2 HLb1.out)
  have HLb2 := hide (HLb1.out.up hb2)
  have HO02 := hide (HO01.out.below hb2 HL01.out)
  have HL02 := hide (HL01.out.up hb2)
  have HO2 := hide ho2
  have HL2 := hide hn2.lt
  obtain ⟨Cv, pv, Dv, qv, g1, g2, rfl, y0, y1, y2, y3, y4, y5, y6, efq⟩ := ho2.oEvent
  clear ho2 hn2 hb2 HC HB1 HLY1 hw1  HOb1 HLb1 HO01 HL01 y0 y1 y2 y3 y4 y5 y6 efq
  go_upto_region 5 with fail
  generalize hwA : World.alloc _ _ = w3
  have hbA : Below w2.heap.size w2 w3 := by rw [← hwA]; exact (Below.refl _ _).alloc (Nat.le_refl _) _
  have HXv3 := hide (show Row w3 w2.heap.size 46 [.string t.type_, .int .i64 t.version, .int .i64 t.body.sort, .int .i64 t.body.num, .string t.body.text, .slice Cv t.body.names.length pv, .slice Dv t.body.kids.length qv] from by rw [← hwA]; exact Row.new w2 _ _)
  have HOv3 := hide (HO2.out.below hbA HL2.out)
  have HLv3 := hide ((HL2.out).up hbA)
  have HB3 := hide (HB2.out.trans (hbA.mono HB2.out.size))
  have HLY3 := hide (HLY2.out.below hbA)
  have hw3 : 5 < w3.heap.size := Nat.lt_of_lt_of_le hw2 hbA.size
  have HOb3 := hide (HOb2.out.below hbA HLb2.out)
  have HLb3 := hide (HLb2.out.up hbA)
  have HO03 := hide (HO02.out.below hbA HL02.out)
  have HL03 := hide (HL02.out.up hbA)
  clear hwA hbA HB2 HLY2 hw2  HOb2 HLb2 HO02 HL02
  have k0 := HXv3.out.cell 0
  have k1 := HXv3.out.cell 1
  have k2 := HXv3.out.cell 2
  have k3 := HXv3.out.cell 3
  have k4 := HXv3.out.cell 4
  have k5 := HXv3.out.cell 5
  have k6 := HXv3.out.cell 6
  have kl := HXv3.out.lt
  clear HO2 HL2
  have HC := hide (implEventUnpack_any l Ab _ cb fpb w3 HOb3.out HLb3.out (by omega))
  unfold UnpOut at HC
  have ht := HT.out
  have hto := HTO.out
  rw [ht, hto] at HC
  clear ht hto
  go_wp2_with fail
  refine HC.out.mono ?_
  rintro e w4 ⟨us4, fq4, rfl, ho4, hn4, hb4⟩
  have HB4 := hide (HB3.out.trans (hb4.mono HB3.out.size))
  have HLY4 := hide (HLY3.out.below hb4)
  have hw4 : 5 < w4.heap.size := Nat.lt_of_lt_of_le hw3 hb4.size
  have HXv4 := hide (HXv3.out.below hb4 HXv3.out.lt)
  have HOv4 := hide (HOv3.out.below hb4 HLv3.out)
  have HLv4 := hide (HLv3.out.up hb4)
  have HOb4 := hide (HOb3.out.below hb4 HLb3.out)
  have HLb4 := hide (HLb3.out.up hb4)
  have HO04 := hide (HO03.out.below hb4 HL03.out)
  have HL04 := hide (HL03.out.up hb4)
  have HO4 := hide ho4
  have HL4 := hide hn4.lt
  obtain ⟨Cu, pu, Du, qu, g1, g2, rfl, y0, y1, y2, y3, y4, y5, y6, efq⟩ := ho4.oEvent
  clear ho4 hn4 hb4 HC HB3 HLY3 hw3 HXv3 HOv3 HLv3 HOb3 HLb3 HO03 HL03 y0 y1 y2 y3 y4 y5 y6 efq
  clear k0 k1 k2 k3 k4 k5 k6 kl
  have k0 := HXv4.out.cell 0
  have k1 := HXv4.out.cell 1
  have k2 := HXv4.out.cell 2
  have k3 := HXv4.out.cell 3
  have k4 := HXv4.out.cell 4
  have k5 := HXv4.out.cell 5
  have k6 := HXv4.out.cell 6
  have kl := HXv4.out.lt
  go_upto_region 6 with fail
  generalize hwA : World.alloc _ _ = w5
  have hbA : Below w4.heap.size w4 w5 := by rw [← hwA]; exact (Below.refl _ _).alloc (Nat.le_refl _) _
  have HXu5 := hide (show Row w5 w4.heap.size 46 [.string t.type_, .int .i64 t.version, .int .i64 t.body.sort, .int .i64 t.body.num, .string t.body.text, .slice Cu t.body.names.length pu, .slice Du t.body.kids.length qu] from by rw [← hwA]; exact Row.new w4 _ _)
  have HOu5 := hide (HO4.out.below hbA HL4.out)
  have HLu5 := hide ((HL4.out).up hbA)
  have HB5 := hide (HB4.out.trans (hbA.mono HB4.out.size))
  have HLY5 := hide (HLY4.out.below hbA)
  have hw5 : 5 < w5.heap.size := Nat.lt_of_lt_of_le hw4 hbA.size
  have HXv5 := hide (HXv4.out.below hbA HXv4.out.lt)
  have HOv5 := hide (HOv4.out.below hbA HLv4.out)
  have HLv5 := hide (HLv4.out.up hbA)
  have HOb5 := hide (HOb4.out.below hbA HLb4.out)
  have HLb5 := hide (HLb4.out.up hbA)
  have HO05 := hide (HO04.out.below hbA HL04.out)
  have HL05 := hide (HL04.out.up hbA)
  clear hwA hbA HB4 HLY4 hw4 HXv4 HOv4 HLv4 HOb4 HLb4 HO04 HL04
  clear k0 k1 k2 k3 k4 k5 k6 kl
  have k0 := HXv5.out.cell 0
  have k1 := HXv5.out.cell 1
  have k2 := HXv5.out.cell 2
  have k3 := HXv5.out.cell 3
  have k4 := HXv5.out.cell 4
  have k5 := HXv5.out.cell 5
  have k6 := HXv5.out.cell 6
  have kl := HXv5.out.lt
  have j0 := HXu5.out.cell 0
  have j1 := HXu5.out.cell 1
  have j2 := HXu5.out.cell 2
  have j3 := HXu5.out.cell 3
  have j4 := HXu5.out.cell 4
  have j5 := HXu5.out.cell 5
  have j6 := HXu5.out.cell 6
  have jl := HXu5.out.lt
  clear HO4 HL4
  go_upto_region 6 with fail
  go_cut [52] from 28 to 53 (fun s52 wx => s52 = .bool false ∧ Below w5.heap.size w5 wx)
  case first =>
    rcases told with _ | _
    · skip
      have lu : w4.heap.size < w5.heap.size := HXu5.out.lt
      have lv : w2.heap.size < w5.heap.size := HXv5.out.lt
      go_wp2_with fail
      refine wp_region_held_drew (S := fun W => Below w5.heap.size w5 W) (by kernel_rfl) (below_drewN (Below.refl _ _) 1) (fun hS0 => ?_)
      refine wpAnyH_take (i := 0) (v := .bool false) rfl (by kernel_rfl) (by kernel_rfl) (by kernel_rfl) (fun _ _ _ h => h) (Or.inl ⟨by kernel_rfl, by (intro W hS; go_simp; first | done | with_reducible rfl | rfl)⟩) hS0 ?_
      (try simp only [Act.put, List.getElem_toArray, List.getElem_cons_zero, List.getElem_cons_succ, List.setIfInBounds_toArray, List.set_cons_zero, List.set_cons_succ])
      refine wpAnyH_take (i := 1) (v := .bool false) rfl (by kernel_rfl) (by kernel_rfl) (by kernel_rfl) (fun _ _ _ h => h) (Or.inl ⟨by kernel_rfl, by (intro W hS; go_simp; first | done | with_reducible rfl | rfl)⟩) hS0 ?_
      (try simp only [Act.put, List.getElem_toArray, List.getElem_cons_zero, List.getElem_cons_succ, List.setIfInBounds_toArray, List.set_cons_zero, List.set_cons_succ])
      refine wpAnyH_take (i := 2) (v := .bool false) rfl (by kernel_rfl) (by kernel_rfl) (by kernel_rfl) (fun _ _ _ h => h) (Or.inl ⟨by kernel_rfl, by (intro W hS; go_simp; first | done | with_reducible rfl | rfl)⟩) hS0 ?_
      (try simp only [Act.put, List.getElem_toArray, List.getElem_cons_zero, List.getElem_cons_succ, List.setIfInBounds_toArray, List.set_cons_zero, List.set_cons_succ])
      refine wpAnyH_take (i := 3) (v := .bool false) rfl (by kernel_rfl) (by kernel_rfl) (by kernel_rfl) (fun _ _ _ h => h) (Or.inl ⟨by kernel_rfl, by (intro W hS; go_simp; first | done | with_reducible rfl | rfl)⟩) hS0 ?_
      (try simp only [Act.put, List.getElem_toArray, List.getElem_cons_zero, List.getElem_cons_succ, List.setIfInBounds_toArray, List.set_cons_zero, List.set_cons_succ])
      refine wpAnyH_take (i := 4) (v := .agg #[.string t.type_, .int .i64 t.version, .int .i64 t.body.sort, .int .i64 t.body.num, .string t.body.text, .slice Cu t.body.names.length pu, .slice Du t.body.kids.length qu]) rfl (by kernel_rfl) (by kernel_rfl) (by kernel_rfl) (fun _ _ _ h => h) (Or.inl ⟨by kernel_rfl, by (intro W hS; have y0 := (hS.cell (p := ⟨w4.heap.size, 0, none⟩) lu).trans j0; have y1 := (hS.cell (p := ⟨w4.heap.size, 1, none⟩) lu).trans j1; have y2 := (hS.cell (p := ⟨w4.heap.size, 2, none⟩) lu).trans j2; have y3 := (hS.cell (p := ⟨w4.heap.size, 3, none⟩) lu).trans j3; have y4 := (hS.cell (p := ⟨w4.heap.size, 4, none⟩) lu).trans j4; have y5 := (hS.cell (p := ⟨w4.heap.size, 5, none⟩) lu).trans j5; have y6 := (hS.cell (p := ⟨w4.heap.size, 6, none⟩) lu).trans j6; have yl : w4.heap.size < W.heap.size := Nat.lt_of_lt_of_le lu hS.size; go_simp; first | done | with_reducible rfl | rfl)⟩) hS0 ?_
      (try simp only [Act.put, List.getElem_toArray, List.getElem_cons_zero, List.getElem_cons_succ, List.setIfInBounds_toArray, List.set_cons_zero, List.set_cons_succ])
      refine wpAnyH_take (i := 5) (v := .agg #[.string t.type_, .int .i64 t.version, .int .i64 t.body.sort, .int .i64 t.body.num, .string t.body.text, .slice Cv t.body.names.length pv, .slice Dv t.body.kids.length qv]) rfl (by kernel_rfl) (by kernel_rfl) (by kernel_rfl) (fun _ _ _ h => h) (Or.inl ⟨by kernel_rfl, by (intro W hS; have y0 := (hS.cell (p := ⟨w2.heap.size, 0, none⟩) lv).trans k0; have y1 := (hS.cell (p := ⟨w2.heap.size, 1, none⟩) lv).trans k1; have y2 := (hS.cell (p := ⟨w2.heap.size, 2, none⟩) lv).trans k2; have y3 := (hS.cell (p := ⟨w2.heap.size, 3, none⟩) lv).trans k3; have y4 := (hS.cell (p := ⟨w2.heap.size, 4, none⟩) lv).trans k4; have y5 := (hS.cell (p := ⟨w2.heap.size, 5, none⟩) lv).trans k5; have y6 := (hS.cell (p := ⟨w2.heap.size, 6, none⟩) lv).trans k6; have yl : w2.heap.size < W.heap.size := Nat.lt_of_lt_of_le lv hS.size; go_simp; first | done | with_reducible rfl | rfl)⟩) hS0 ?_
      (try simp only [Act.put, List.getElem_toArray, List.getElem_cons_zero, List.getElem_cons_succ, List.setIfInBounds_toArray, List.set_cons_zero, List.set_cons_succ])
      refine wpAnyH_ready (rs := [6]) (by kernel_rfl) (by simp) ?_
      refine AllReadyH.cons rfl (fun K hK => ?_) AllReadyH.nil
      go_simp
      go_at_call 37
      refine (ttEvent_any t _ _ fq4 fq2 _ (HOu5.out.below hS0 HLu5.out) (HOv5.out.below hS0 HLv5.out) (HLu5.out.up hS0) (HLv5.out.up hS0)).mono ?_
      rintro e w6 ⟨rfl, hb6⟩
      have hS1 := hS0.trans (hb6.mono hS0.size)
      try go_simp
      refine hK.out _ _ hS1 (fun hHeld => ?_)
      clear hK K hHeld
      refine wpAnyH_take (i := 7) (v := .bool false) rfl (by kernel_rfl) (by kernel_rfl) (by kernel_rfl) (fun _ _ _ h => h) (Or.inl ⟨by kernel_rfl, by (intro W hS; go_simp; first | done | with_reducible rfl | rfl)⟩) hS1 ?_
      (try simp only [Act.put, List.getElem_toArray, List.getElem_cons_zero, List.getElem_cons_succ, List.setIfInBounds_toArray, List.set_cons_zero, List.set_cons_succ])
      refine wpAnyH_take (i := 8) (v := .bool false) rfl (by kernel_rfl) (by kernel_rfl) (by kernel_rfl) (fun _ _ _ h => h) (Or.inl ⟨by kernel_rfl, by (intro W hS; go_simp; first | done | with_reducible rfl | rfl)⟩) hS1 ?_
      (try simp only [Act.put, List.getElem_toArray, List.getElem_cons_zero, List.getElem_cons_succ, List.setIfInBounds_toArray, List.set_cons_zero, List.set_cons_succ])
      refine wpAnyH_take (i := 9) (v := .bool false) rfl (by kernel_rfl) (by kernel_rfl) (by kernel_rfl) (fun _ _ _ h => h) (Or.inl ⟨by kernel_rfl, by (intro W hS; go_simp; first | done | with_reducible rfl | rfl)⟩) hS1 ?_
      (try simp only [Act.put, List.getElem_toArray, List.getElem_cons_zero, List.getElem_cons_succ, List.setIfInBounds_toArray, List.set_cons_zero, List.set_cons_succ])
      refine wpAnyH_take (i := 10) (v := .bool false) rfl (by kernel_rfl) (by kernel_rfl) (by kernel_rfl) (fun _ _ _ h => h) (Or.inl ⟨by kernel_rfl, by (intro W hS; go_simp; first | done | with_reducible rfl | rfl)⟩) hS1 ?_
      (try simp only [Act.put, List.getElem_toArray, List.getElem_cons_zero, List.getElem_cons_succ, List.setIfInBounds_toArray, List.set_cons_zero, List.set_cons_succ])
      refine wpAnyH_take (i := 11) (v := .bool false) rfl (by kernel_rfl) (by kernel_rfl) (by kernel_rfl) (fun _ _ _ h => h) (Or.inl ⟨by kernel_rfl, by (intro W hS; go_simp; first | done | with_reducible rfl | rfl)⟩) hS1 ?_
      (try simp only [Act.put, List.getElem_toArray, List.getElem_cons_zero, List.getElem_cons_succ, List.setIfInBounds_toArray, List.set_cons_zero, List.set_cons_succ])
      refine wpAnyH_take (i := 12) (v := undef) rfl (by kernel_rfl) (by kernel_rfl) (by kernel_rfl) (fun _ _ _ h => h) (Or.inr ⟨by kernel_rfl, rfl⟩) hS1 ?_
      (try simp only [Act.put, List.getElem_toArray, List.getElem_cons_zero, List.getElem_cons_succ, List.setIfInBounds_toArray, List.set_cons_zero, List.set_cons_succ])
      refine wpAnyH_take (i := 13) (v := undef) rfl (by kernel_rfl) (by kernel_rfl) (by kernel_rfl) (fun _ _ _ h => h) (Or.inr ⟨by kernel_rfl, rfl⟩) hS1 ?_
      (try simp only [Act.put, List.getElem_toArray, List.getElem_cons_zero, List.getElem_cons_succ, List.setIfInBounds_toArray, List.set_cons_zero, List.set_cons_succ])
      refine wpAnyH_take (i := 14) (v := undef) rfl (by kernel_rfl) (by kernel_rfl) (by kernel_rfl) (fun _ _ _ h => h) (Or.inr ⟨by kernel_rfl, rfl⟩) hS1 ?_
      (try simp only [Act.put, List.getElem_toArray, List.getElem_cons_zero, List.getElem_cons_succ, List.setIfInBounds_toArray, List.set_cons_zero, List.set_cons_succ])
      refine wpAnyH_take (i := 15) (v := undef) rfl (by kernel_rfl) (by kernel_rfl) (by kernel_rfl) (fun _ _ _ h => h) (Or.inr ⟨by kernel_rfl, rfl⟩) hS1 ?_
      (try simp only [Act.put, List.getElem_toArray, List.getElem_cons_zero, List.getElem_cons_succ, List.setIfInBounds_toArray, List.set_cons_zero, List.set_cons_succ])
      refine wpAnyH_take (i := 16) (v := undef) rfl (by kernel_rfl) (by kernel_rfl) (by kernel_rfl) (fun _ _ _ h => h) (Or.inr ⟨by kernel_rfl, rfl⟩) hS1 ?_
      (try simp only [Act.put, List.getElem_toArray, List.getElem_cons_zero, List.getElem_cons_succ, List.setIfInBounds_toArray, List.set_cons_zero, List.set_cons_succ])
      refine wpAnyH_take (i := 17) (v := undef) rfl (by kernel_rfl) (by kernel_rfl) (by kernel_rfl) (fun _ _ _ h => h) (Or.inr ⟨by kernel_rfl, rfl⟩) hS1 ?_
      (try simp only [Act.put, List.getElem_toArray, List.getElem_cons_zero, List.getElem_cons_succ, List.setIfInBounds_toArray, List.set_cons_zero, List.set_cons_succ])
      refine wpAnyH_take (i := 18) (v := undef) rfl (by kernel_rfl) (by kernel_rfl) (by kernel_rfl) (fun _ _ _ h => h) (Or.inr ⟨by kernel_rfl, rfl⟩) hS1 ?_
      (try simp only [Act.put, List.getElem_toArray, List.getElem_cons_zero, List.getElem_cons_succ, List.setIfInBounds_toArray, List.set_cons_zero, List.set_cons_succ])
      refine wpAnyH_take (i := 19) (v := undef) rfl (by kernel_rfl) (by kernel_rfl) (by kernel_rfl) (fun _ _ _ h => h) (Or.inr ⟨by kernel_rfl, rfl⟩) hS1 ?_
      (try simp only [Act.put, List.getElem_toArray, List.getElem_cons_zero, List.getElem_cons_succ, List.setIfInBounds_toArray, List.set_cons_zero, List.set_cons_succ])
      refine wpAnyH_take (i := 20) (v := undef) rfl (by kernel_rfl) (by kernel_rfl) (by kernel_rfl) (fun _ _ _ h => h) (Or.inr ⟨by kernel_rfl, rfl⟩) hS1 ?_
      (try simp only [Act.put, List.getElem_toArray, List.getElem_cons_zero, List.getElem_cons_succ, List.setIfInBounds_toArray, List.set_cons_zero, List.set_cons_succ])
      refine wpAnyH_take (i := 21) (v := undef) rfl (by kernel_rfl) (by kernel_rfl) (by kernel_rfl) (fun _ _ _ h => h) (Or.inr ⟨by kernel_rfl, rfl⟩) hS1 ?_
      (try simp only [Act.put, List.getElem_toArray, List.getElem_cons_zero, List.getElem_cons_succ, List.setIfInBounds_toArray, List.set_cons_zero, List.set_cons_succ])
      refine wpAnyH_take (i := 22) (v := undef) rfl (by kernel_rfl) (by kernel_rfl) (by kernel_rfl) (fun _ _ _ h => h) (Or.inr ⟨by kernel_rfl, rfl⟩) hS1 ?_
      (try simp only [Act.put, List.getElem_toArray, List.getElem_cons_zero, List.getElem_cons_succ, List.setIfInBounds_toArray, List.set_cons_zero, List.set_cons_succ])
      refine wpAnyH_take (i := 23) (v := .bool false) rfl (by kernel_rfl) (by kernel_rfl) (by kernel_rfl) (fun _ _ _ h => h) (Or.inl ⟨by kernel_rfl, by (intro W hS; go_simp; first | done | with_reducible rfl | rfl)⟩) hS1 ?_
      (try simp only [Act.put, List.getElem_toArray, List.getElem_cons_zero, List.getElem_cons_succ, List.setIfInBounds_toArray, List.set_cons_zero, List.set_cons_succ])
      refine wpAnyH_take (i := 24) (v := .bool false) rfl (by kernel_rfl) (by kernel_rfl) (by kernel_rfl) (fun _ _ _ h => h) (Or.inl ⟨by kernel_rfl, by (intro W hS; go_simp; first | done | with_reducible rfl | rfl)⟩) hS1 ?_
      (try simp only [Act.put, List.getElem_toArray, List.getElem_cons_zero, List.getElem_cons_succ, List.setIfInBounds_toArray, List.set_cons_zero, List.set_cons_succ])
      refine wpAnyH_done (by kernel_rfl) ?_ _
      go_wp2_with fail
      go_meet
      exact ⟨rfl, hS1⟩
    have hk : t.ok ∧ t.packed = l := by
      rcases HCS.out with ⟨h1, h2, h3⟩ | ⟨h1, _⟩
      · rw [HT.out] at h2 h3
        exact ⟨h2, h3⟩
      · rw [HTO.out] at h1; cases h1
    have HK := hide hk
    obtain ⟨sb, hsb⟩ : ∃ sb, ba l = sb := ⟨_, rfl⟩
    have HSB := hide hsb
    clear hk hsb
    have lu : w4.heap.size < w5.heap.size := HXu5.out.lt
    have lv : w2.heap.size < w5.heap.size := HXv5.out.lt
    go_wp2_with fail
    refine wp_region_held_drew (S := fun W => Below w5.heap.size w5 W) (by kernel_rfl) (below_drewN (Below.refl _ _) 1) (fun hS0 => ?_)
    refine wpAnyH_take (i := 0) (v := .bool true) rfl (by kernel_rfl) (by kernel_rfl) (by kernel_rfl) (fun _ _ _ h => h) (Or.inl ⟨by kernel_rfl, by (intro W hS; go_simp; first | done | with_reducible rfl | rfl)⟩) hS0 ?_
    (try simp only [Act.put, List.getElem_toArray, List.getElem_cons_zero, List.getElem_cons_succ, List.setIfInBounds_toArray, List.set_cons_zero, List.set_cons_succ])
    refine wpAnyH_take (i := 1) (v := .bool true) rfl (by kernel_rfl) (by kernel_rfl) (by kernel_rfl) (fun _ _ _ h => h) (Or.inl ⟨by kernel_rfl, by (intro W hS; go_simp; first | done | with_reducible rfl | rfl)⟩) hS0 ?_
    (try simp only [Act.put, List.getElem_toArray, List.getElem_cons_zero, List.getElem_cons_succ, List.setIfInBounds_toArray, List.set_cons_zero, List.set_cons_succ])
    refine wpAnyH_take (i := 2) (v := .bool false) rfl (by kernel_rfl) (by kernel_rfl) (by kernel_rfl) (fun _ _ _ h => h) (Or.inl ⟨by kernel_rfl, by (intro W hS; go_simp; first | done | with_reducible rfl | rfl)⟩) hS0 ?_
    (try simp only [Act.put, List.getElem_toArray, List.getElem_cons_zero, List.getElem_cons_succ, List.setIfInBounds_toArray, List.set_cons_zero, List.set_cons_succ])
    refine wpAnyH_take (i := 3) (v := .bool false) rfl (by kernel_rfl) (by kernel_rfl) (by kernel_rfl) (fun _ _ _ h => h) (Or.inl ⟨by kernel_rfl, by (intro W hS; go_simp; first | done | with_reducible rfl | rfl)⟩) hS0 ?_
    (try simp only [Act.put, List.getElem_toArray, List.getElem_cons_zero, List.getElem_cons_succ, List.setIfInBounds_toArray, List.set_cons_zero, List.set_cons_succ])
    refine wpAnyH_take (i := 4) (v := .agg #[.string t.type_, .int .i64 t.version, .int .i64 t.body.sort, .int .i64 t.body.num, .string t.body.text, .slice Cu t.body.names.length pu, .slice Du t.body.kids.length qu]) rfl (by kernel_rfl) (by kernel_rfl) (by kernel_rfl) (fun _ _ _ h => h) (Or.inl ⟨by kernel_rfl, by (intro W hS; have y0 := (hS.cell (p := ⟨w4.heap.size, 0, none⟩) lu).trans j0; have y1 := (hS.cell (p := ⟨w4.heap.size, 1, none⟩) lu).trans j1; have y2 := (hS.cell (p := ⟨w4.heap.size, 2, none⟩) lu).trans j2; have y3 := (hS.cell (p := ⟨w4.heap.size, 3, none⟩) lu).trans j3; have y4 := (hS.cell (p := ⟨w4.heap.size, 4, none⟩) lu).trans j4; have y5 := (hS.cell (p := ⟨w4.heap.size, 5, none⟩) lu).trans j5; have y6 := (hS.cell (p := ⟨w4.heap.size, 6, none⟩) lu).trans j6; have yl : w4.heap.size < W.heap.size := Nat.lt_of_lt_of_le lu hS.size; go_simp; first | done | with_reducible rfl | rfl)⟩) hS0 ?_
    (try simp only [Act.put, List.getElem_toArray, List.getElem_cons_zero, List.getElem_cons_succ, List.setIfInBounds_toArray, List.set_cons_zero, List.set_cons_succ])
    refine wpAnyH_take (i := 5) (v := .agg #[.string t.type_, .int .i64 t.version, .int .i64 t.body.sort, .int .i64 t.body.num, .string t.body.text, .slice Cv t.body.names.length pv, .slice Dv t.body.kids.length qv]) rfl (by kernel_rfl) (by kernel_rfl) (by kernel_rfl) (fun _ _ _ h => h) (Or.inl ⟨by kernel_rfl, by (intro W hS; have y0 := (hS.cell (p := ⟨w2.heap.size, 0, none⟩) lv).trans k0; have y1 := (hS.cell (p := ⟨w2.heap.size, 1, none⟩) lv).trans k1; have y2 := (hS.cell (p := ⟨w2.heap.size, 2, none⟩) lv).trans k2; have y3 := (hS.cell (p := ⟨w2.heap.size, 3, none⟩) lv).trans k3; have y4 := (hS.cell (p := ⟨w2.heap.size, 4, none⟩) lv).trans k4; have y5 := (hS.cell (p := ⟨w2.heap.size, 5, none⟩) lv).trans k5; have y6 := (hS.cell (p := ⟨w2.heap.size, 6, none⟩) lv).trans k6; have yl : w2.heap.size < W.heap.size := Nat.lt_of_lt_of_le lv hS.size; go_simp; first | done | with_reducible rfl | rfl)⟩) hS0 ?_
    (try simp only [Act.put, List.getElem_toArray, List.getElem_cons_zero, List.getElem_cons_succ, List.setIfInBounds_toArray, List.set_cons_zero, List.set_cons_succ])
    refine wpAnyH_ready (rs := [6]) (by kernel_rfl) (by simp) ?_
    refine AllReadyH.cons rfl (fun K hK => ?_) AllReadyH.nil
    go_simp
    go_at_call 37
    refine (ttEvent_any t _ _ fq4 fq2 _ (HOu5.out.below hS0 HLu5.out) (HOv5.out.below hS0 HLv5.out) (HLu5.out.up hS0) (HLv5.out.up hS0)).mono ?_
    rintro e w6 ⟨rfl, hb6⟩
    have hS1 := hS0.trans (hb6.mono hS0.size)
    try go_simp
    refine hK.out _ _ hS1 (fun hHeld => ?_)
    clear hK K hHeld
    refine wpAnyH_take (i := 7) (v := .bool false) rfl (by kernel_rfl) (by kernel_rfl) (by kernel_rfl) (fun _ _ _ h => h) (Or.inl ⟨by kernel_rfl, by (intro W hS; go_simp; first | done | with_reducible rfl | rfl)⟩) hS1 ?_
    (try simp only [Act.put, List.getElem_toArray, List.getElem_cons_zero, List.getElem_cons_succ, List.setIfInBounds_toArray, List.set_cons_zero, List.set_cons_succ])
    refine wpAnyH_take (i := 8) (v := .bool false) rfl (by kernel_rfl) (by kernel_rfl) (by kernel_rfl) (fun _ _ _ h => h) (Or.inl ⟨by kernel_rfl, by (intro W hS; go_simp; first | done | with_reducible rfl | rfl)⟩) hS1 ?_
    (try simp only [Act.put, List.getElem_toArray, List.getElem_cons_zero, List.getElem_cons_succ, List.setIfInBounds_toArray, List.set_cons_zero, List.set_cons_succ])
    refine wpAnyH_take (i := 9) (v := .bool false) rfl (by kernel_rfl) (by kernel_rfl) (by kernel_rfl) (fun _ _ _ h => h) (Or.inl ⟨by kernel_rfl, by (intro W hS; go_simp; first | done | with_reducible rfl | rfl)⟩) hS1 ?_
    (try simp only [Act.put, List.getElem_toArray, List.getElem_cons_zero, List.getElem_cons_succ, List.setIfInBounds_toArray, List.set_cons_zero, List.set_cons_succ])
    refine wpAnyH_take (i := 10) (v := .bool true) rfl (by kernel_rfl) (by kernel_rfl) (by kernel_rfl) (fun _ _ _ h => h) (Or.inl ⟨by kernel_rfl, by (intro W hS; go_simp; first | done | with_reducible rfl | rfl)⟩) hS1 ?_
    (try simp only [Act.put, List.getElem_toArray, List.getElem_cons_zero, List.getElem_cons_succ, List.setIfInBounds_toArray, List.set_cons_zero, List.set_cons_succ])
    refine wpAnyH_take (i := 11) (v := .bool true) rfl (by kernel_rfl) (by kernel_rfl) (by kernel_rfl) (fun _ _ _ h => h) (Or.inl ⟨by kernel_rfl, by (intro W hS; go_simp; first | done | with_reducible rfl | rfl)⟩) hS1 ?_
    (try simp only [Act.put, List.getElem_toArray, List.getElem_cons_zero, List.getElem_cons_succ, List.setIfInBounds_toArray, List.set_cons_zero, List.set_cons_succ])
    refine wpAnyH_take (i := 12) (v := .agg #[.string t.type_, .int .i64 t.version, .int .i64 t.body.sort, .int .i64 t.body.num, .string t.body.text, .slice Cu t.body.names.length pu, .slice Du t.body.kids.length qu]) rfl (by kernel_rfl) (by kernel_rfl) (by kernel_rfl) (fun _ _ _ h => h) (Or.inl ⟨by kernel_rfl, by (intro W hS; have y0 := (hS.cell (p := ⟨w4.heap.size, 0, none⟩) lu).trans j0; have y1 := (hS.cell (p := ⟨w4.heap.size, 1, none⟩) lu).trans j1; have y2 := (hS.cell (p := ⟨w4.heap.size, 2, none⟩) lu).trans j2; have y3 := (hS.cell (p := ⟨w4.heap.size, 3, none⟩) lu).trans j3; have y4 := (hS.cell (p := ⟨w4.heap.size, 4, none⟩) lu).trans j4; have y5 := (hS.cell (p := ⟨w4.heap.size, 5, none⟩) lu).trans j5; have y6 := (hS.cell (p := ⟨w4.heap.size, 6, none⟩) lu).trans j6; have yl : w4.heap.size < W.heap.size := Nat.lt_of_lt_of_le lu hS.size; go_simp; first | done | with_reducible rfl | rfl)⟩) hS1 ?_
    (try simp only [Act.put, List.getElem_toArray, List.getElem_cons_zero, List.getElem_cons_succ, List.setIfInBounds_toArray, List.set_cons_zero, List.set_cons_succ])
    refine wpAnyH_ready (rs := [13]) (by kernel_rfl) (by simp) ?_
    refine AllReadyH.cons rfl (fun K hK => ?_) AllReadyH.nil
    go_simp
    go_at_call 34
    refine (implEventOk_any t _ fq4 _ (HOu5.out.below hS1 HLu5.out) (HLu5.out.up hS1) (by omega)).mono ?_
    rintro e w7 ⟨rfl, hb7⟩
    have hS2 := hS1.trans (hb7.mono hS1.size)
    rw [tb_true HK.out.1]
    try go_simp
    refine hK.out _ _ hS2 (fun hHeld => ?_)
    clear hK K hHeld
    refine wpAnyH_take (i := 14) (v := .bool false) rfl (by kernel_rfl) (by kernel_rfl) (by kernel_rfl) (fun _ _ _ h => h) (Or.inl ⟨by kernel_rfl, by (intro W hS; go_simp; first | done | with_reducible rfl | rfl)⟩) hS2 ?_
    (try simp only [Act.put, List.getElem_toArray, List.getElem_cons_zero, List.getElem_cons_succ, List.setIfInBounds_toArray, List.set_cons_zero, List.set_cons_succ])
    refine wpAnyH_take (i := 15) (v := .bool false) rfl (by kernel_rfl) (by kernel_rfl) (by kernel_rfl) (fun _ _ _ h => h) (Or.inl ⟨by kernel_rfl, by (intro W hS; go_simp; first | done | with_reducible rfl | rfl)⟩) hS2 ?_
    (try simp only [Act.put, List.getElem_toArray, List.getElem_cons_zero, List.getElem_cons_succ, List.setIfInBounds_toArray, List.set_cons_zero, List.set_cons_succ])
    refine wpAnyH_take (i := 16) (v := .agg #[.string t.type_, .int .i64 t.version, .int .i64 t.body.sort, .int .i64 t.body.num, .string t.body.text, .slice Cu t.body.names.length pu, .slice Du t.body.kids.length qu]) rfl (by kernel_rfl) (by kernel_rfl) (by kernel_rfl) (fun _ _ _ h => h) (Or.inl ⟨by kernel_rfl, by (intro W hS; have y0 := (hS.cell (p := ⟨w4.heap.size, 0, none⟩) lu).trans j0; have y1 := (hS.cell (p := ⟨w4.heap.size, 1, none⟩) lu).trans j1; have y2 := (hS.cell (p := ⟨w4.heap.size, 2, none⟩) lu).trans j2; have y3 := (hS.cell (p := ⟨w4.heap.size, 3, none⟩) lu).trans j3; have y4 := (hS.cell (p := ⟨w4.heap.size, 4, none⟩) lu).trans j4; have y5 := (hS.cell (p := ⟨w4.heap.size, 5, none⟩) lu).trans j5; have y6 := (hS.cell (p := ⟨w4.heap.size, 6, none⟩) lu).trans j6; have yl : w4.heap.size < W.heap.size := Nat.lt_of_lt_of_le lu hS.size; go_simp; first | done | with_reducible rfl | rfl)⟩) hS2 ?_
    (try simp only [Act.put, List.getElem_toArray, List.getElem_cons_zero, List.getElem_cons_succ, List.setIfInBounds_toArray, List.set_cons_zero, List.set_cons_succ])
    refine wpAnyH_take (i := 19) (v := .slice Ab l.length cb) rfl (by kernel_rfl) (by kernel_rfl) (by kernel_rfl) (fun _ _ _ h => h) (Or.inl ⟨by kernel_rfl, by (intro W hS; go_simp; first | done | with_reducible rfl | rfl)⟩) hS2 ?_
    (try simp only [Act.put, List.getElem_toArray, List.getElem_cons_zero, List.getElem_cons_succ, List.setIfInBounds_toArray, List.set_cons_zero, List.set_cons_succ])
    refine wpAnyH_take (i := 20) (v := .string sb) rfl (by kernel_rfl) (by kernel_rfl) (by kernel_rfl) (fun _ _ _ h => h) (Or.inl ⟨by kernel_rfl, by (intro W hS; have ycv := ow_convS (HOb5.out.below hS HLb5.out); rw [HSB.out] at ycv; go_simp; first | done | with_reducible rfl | rfl)⟩) hS2 ?_
    (try simp only [Act.put, List.getElem_toArray, List.getElem_cons_zero, List.getElem_cons_succ, List.setIfInBounds_toArray, List.set_cons_zero, List.set_cons_succ])
    refine wpAnyH_ready (rs := [17]) (by kernel_rfl) (by simp) ?_
    refine AllReadyH.cons rfl (fun K hK => ?_) AllReadyH.nil
    go_simp
    go_at_call 32
    refine (implEventPack_any t _ fq4 _ (HOu5.out.below hS2 HLu5.out) (HLu5.out.up hS2) (by omega)).mono ?_
    rintro e w8 ⟨v8, rfl, hy8, hb8⟩
    have hS3 := hS2.trans (hb8.mono hS2.size)
    rw [HK.out.2] at hy8
    obtain ⟨fp8, ho8, hn8⟩ := hy8.toOw
    obtain ⟨A8, c8, rfl, _⟩ := ho8.slice
    have hcv8 := ow_convS ho8
    rw [HSB.out] at hcv8
    try go_simp
    refine hK.out _ _ hS3 (fun hHeld => ?_)
    clear hK K hHeld
    refine wpAnyH_ready (rs := [18]) (by kernel_rfl) (by simp) ?_
    refine AllReadyH.cons rfl (fun K hK => ?_) AllReadyH.nil
    go_simp
    refine hK.out _ _ hS3 (fun hHeld => ?_)
    clear hK K hHeld hcv8
    refine wpAnyH_take (i := 21) (v := .bool false) rfl (by kernel_rfl) (by kernel_rfl) (by kernel_rfl) (fun _ _ _ h => h) (Or.inl ⟨by kernel_rfl, by (intro W hS; go_simp; first | done | with_reducible rfl | rfl)⟩) hS3 ?_
    (try simp only [Act.put, List.getElem_toArray, List.getElem_cons_zero, List.getElem_cons_succ, List.setIfInBounds_toArray, List.set_cons_zero, List.set_cons_succ])
    refine wpAnyH_take (i := 22) (v := .bool false) rfl (by kernel_rfl) (by kernel_rfl) (by kernel_rfl) (fun _ _ _ h => h) (Or.inl ⟨by kernel_rfl, by (intro W hS; go_simp; first | done | with_reducible rfl | rfl)⟩) hS3 ?_
    (try simp only [Act.put, List.getElem_toArray, List.getElem_cons_zero, List.getElem_cons_succ, List.setIfInBounds_toArray, List.set_cons_zero, List.set_cons_succ])
    refine wpAnyH_take (i := 23) (v := .bool false) rfl (by kernel_rfl) (by kernel_rfl) (by kernel_rfl) (fun _ _ _ h => h) (Or.inl ⟨by kernel_rfl, by (intro W hS; go_simp; first | done | with_reducible rfl | rfl)⟩) hS3 ?_
    (try simp only [Act.put, List.getElem_toArray, List.getElem_cons_zero, List.getElem_cons_succ, List.setIfInBounds_toArray, List.set_cons_zero, List.set_cons_succ])
    refine wpAnyH_take (i := 24) (v := .bool false) rfl (by kernel_rfl) (by kernel_rfl) (by kernel_rfl) (fun _ _ _ h => h) (Or.inl ⟨by kernel_rfl, by (intro W hS; go_simp; first | done | with_reducible rfl | rfl)⟩) hS3 ?_
    (try simp only [Act.put, List.getElem_toArray, List.getElem_cons_zero, List.getElem_cons_succ, List.setIfInBounds_toArray, List.set_cons_zero, List.set_cons_succ])
    refine wpAnyH_done (by kernel_rfl) ?_ _
    go_wp2_with fail
    go_meet
    exact ⟨rfl, hS3⟩
  obtain ⟨rfl, hcw⟩ := hcut
  have HB9 := hide (HB5.out.trans (hcw.mono HB5.out.size))
  have HLY9 := hide (HLY5.out.below hcw)
  have hw9 : 5 < wc.heap.size := Nat.lt_of_lt_of_le hw5 hcw.size
  have HO09 := hide (HO05.out.below hcw HL05.out)
  have HL09 := hide (HL05.out.up hcw)
  obtain ⟨w9, rfl⟩ : ∃ W, W = wc := ⟨_, rfl⟩
  clear HB5 HLY5 hw5 HO05 HL05 HOu5 HLu5 HXu5 HOv5 HLv5 HXv5 HOb5 HLb5 hcw
  clear k0 k1 k2 k3 k4 k5 k6 kl
  clear j0 j1 j2 j3 j4 j5 j6 jl
  have HD := hide (drawEventRead_any x0 A0 _ c0 fp0 w9 HO09.out HL09.out (by omega))
  go_wp2_with fail
  refine HD.out.mono ?_
  rintro e w10 ⟨s, rfl, hss, hb10⟩
  have HB10 := hide (HB9.out.trans (hb10.mono HB9.out.size))
  have HLY10 := hide (HLY9.out.below hb10)
  have hw10 : 5 < w10.heap.size := Nat.lt_of_lt_of_le hw9 hb10.size
  clear hb10 HD HB9 HLY9 hw9 HO09 HL09
  obtain ⟨r, hr⟩ : ∃ r, eventRead s = r := ⟨_, rfl⟩
  obtain ⟨said, hsa⟩ : ∃ b, eventReadB s = b := ⟨_, rfl⟩
  have HRR := hide hr
  have HSA := hide hsa
  have hrb : r.bulk ≤ 100000 := by rw [← hr]; exact eventRead_bulk w s
  clear hr hsa
  have HC := hide (specEventRead_any s w10 (by unfold maxLen; omega))
  unfold EventReadRet at HC
  have hr := HRR.out
  have hsa := HSA.out
  rw [hr, hsa] at HC
  clear hr hsa
  go_wp2_with fail
  refine HC.out.mono ?_
  rintro e w11 ⟨us11, fq11, rfl, ho11, hn11, hb11⟩
  have HB11 := hide (HB10.out.trans (hb11.mono HB10.out.size))
  have HLY11 := hide (HLY10.out.below hb11)
  have hw11 : 5 < w11.heap.size := Nat.lt_of_lt_of_le hw10 hb11.size
  have HO11 := hide ho11
  have HL11 := hide hn11.lt
  obtain ⟨Cp, pp, Dp, qp, g1, g2, rfl, y0, y1, y2, y3, y4, y5, y6, efq⟩ := ho11.oEvent
  clear ho11 hn11 hb11 HC HB10 HLY10 hw10   y0 y1 y2 y3 y4 y5 y6 efq
  go_upto_region 10 with fail
  generalize hwA : World.alloc _ _ = w12
  have hbA : Below w11.heap.size w11 w12 := by rw [← hwA]; exact (Below.refl _ _).alloc (Nat.le_refl _) _
  have HXp12 := hide (show Row w12 w11.heap.size 46 [.string r.type_, .int .i64 r.version, .int .i64 r.body.sort, .int .i64 r.body.num, .string r.body.text, .slice Cp r.body.names.length pp, .slice Dp r.body.kids.length qp] from by rw [← hwA]; exact Row.new w11 _ _)
  have HOp12 := hide (HO11.out.below hbA HL11.out)
  have HLp12 := hide ((HL11.out).up hbA)
  have HB12 := hide (HB11.out.trans (hbA.mono HB11.out.size))
  have HLY12 := hide (HLY11.out.below hbA)
  have hw12 : 5 < w12.heap.size := Nat.lt_of_lt_of_le hw11 hbA.size
  clear hwA hbA HB11 HLY11 hw11  
  have k0 := HXp12.out.cell 0
  have k1 := HXp12.out.cell 1
  have k2 := HXp12.out.cell 2
  have k3 := HXp12.out.cell 3
  have k4 := HXp12.out.cell 4
  have k5 := HXp12.out.cell 5
  have k6 := HXp12.out.cell 6
  have kl := HXp12.out.lt
  clear HO11 HL11
  have HC := hide (implEventRead_any s w12 (by omega) HLY12.out hw12)
  unfold EventReadRet at HC
  have hr := HRR.out
  have hsa := HSA.out
  rw [hr, hsa] at HC
  clear hr hsa
  go_wp2_with fail
  refine HC.out.mono ?_
  rintro e w13 ⟨us13, fq13, rfl, ho13, hn13, hb13⟩
  have HB13 := hide (HB12.out.trans (hb13.mono HB12.out.size))
  have HLY13 := hide (HLY12.out.below hb13)
  have hw13 : 5 < w13.heap.size := Nat.lt_of_lt_of_le hw12 hb13.size
  have HXp13 := hide (HXp12.out.below hb13 HXp12.out.lt)
  have HOp13 := hide (HOp12.out.below hb13 HLp12.out)
  have HLp13 := hide (HLp12.out.up hb13)
  have HO13 := hide ho13
  have HL13 := hide hn13.lt
  obtain ⟨Cq, pq, Dq, qq, g1, g2, rfl, y0, y1, y2, y3, y4, y5, y6, efq⟩ := ho13.oEvent
  clear ho13 hn13 hb13 HC HB12 HLY12 hw12 HXp12 HOp12 HLp12  y0 y1 y2 y3 y4 y5 y6 efq
  clear k0 k1 k2 k3 k4 k5 k6 kl
  have k0 := HXp13.out.cell 0
  have k1 := HXp13.out.cell 1
  have k2 := HXp13.out.cell 2
  have k3 := HXp13.out.cell 3
  have k4 := HXp13.out.cell 4
  have k5 := HXp13.out.cell 5
  have k6 := HXp13.out.cell 6
  have kl := HXp13.out.lt
  go_upto_region 11 with fail
  generalize hwA : World.alloc _ _ = w14
  have hbA : Below w13.heap.size w13 w14 := by rw [← hwA]; exact (Below.refl _ _).alloc (Nat.le_refl _) _
  have HXq14 := hide (show Row w14 w13.heap.size 46 [.string r.type_, .int .i64 r.version, .int .i64 r.body.sort, .int .i64 r.body.num, .string r.body.text, .slice Cq r.body.names.length pq, .slice Dq r.body.kids.length qq] from by rw [← hwA]; exact Row.new w13 _ _)
  have HOq14 := hide (HO13.out.below hbA HL13.out)
  have HLq14 := hide ((HL13.out).up hbA)
  have HB14 := hide (HB13.out.trans (hbA.mono HB13.out.size))
  have HLY14 := hide (HLY13.out.below hbA)
  have hw14 : 5 < w14.heap.size := Nat.lt_of_lt_of_le hw13 hbA.size
  have HXp14 := hide (HXp13.out.below hbA HXp13.out.lt)
  have HOp14 := hide (HOp13.out.below hbA HLp13.out)
  have HLp14 := hide (HLp13.out.up hbA)
  clear hwA hbA HB13 HLY13 hw13 HXp13 HOp13 HLp13 
  clear k0 k1 k2 k3 k4 k5 k6 kl
  have k0 := HXp14.out.cell 0
  have k1 := HXp14.out.cell 1
  have k2 := HXp14.out.cell 2
  have k3 := HXp14.out.cell 3
  have k4 := HXp14.out.cell 4
  have k5 := HXp14.out.cell 5
  have k6 := HXp14.out.cell 6
  have kl := HXp14.out.lt
  have j0 := HXq14.out.cell 0
  have j1 := HXq14.out.cell 1
  have j2 := HXq14.out.cell 2
  have j3 := HXq14.out.cell 3
  have j4 := HXq14.out.cell 4
  have j5 := HXq14.out.cell 5
  have j6 := HXq14.out.cell 6
  have jl := HXq14.out.lt
  clear HO13 HL13
  have HC := hide (ttEvent_any r _ _ fq13 fq11 w14 HOq14.out HOp14.out HLq14.out HLp14.out)
  go_wp2_with fail
  refine HC.out.mono ?_
  rintro e w15 ⟨rfl, hb15⟩
  have HB15 := hide (HB14.out.trans (hb15.mono HB14.out.size))
  have HLY15 := hide (HLY14.out.below hb15)
  have hw15 : 5 < w15.heap.size := Nat.lt_of_lt_of_le hw14 hb15.size
  have HXp15 := hide (HXp14.out.below hb15 HXp14.out.lt)
  have HXq15 := hide (HXq14.out.below hb15 HXq14.out.lt)
  have HOp15 := hide (HOp14.out.below hb15 HLp14.out)
  have HLp15 := hide (HLp14.out.up hb15)
  have HOq15 := hide (HOq14.out.below hb15 HLq14.out)
  have HLq15 := hide (HLq14.out.up hb15)
  clear hb15 HC HB14 HLY14 hw14 HXp14 HOp14 HLp14 HXq14 HOq14 HLq14 
  clear k0 k1 k2 k3 k4 k5 k6 kl
  clear j0 j1 j2 j3 j4 j5 j6 jl
  have k0 := HXp15.out.cell 0
  have k1 := HXp15.out.cell 1
  have k2 := HXp15.out.cell 2
  have k3 := HXp15.out.cell 3
  have k4 := HXp15.out.cell 4
  have k5 := HXp15.out.cell 5
  have k6 := HXp15.out.cell 6
  have kl := HXp15.out.lt
  have j0 := HXq15.out.cell 0
  have j1 := HXq15.out.cell 1
  have j2 := HXq15.out.cell 2
  have j3 := HXq15.out.cell 3
  have j4 := HXq15.out.cell 4
  have j5 := HXq15.out.cell 5
  have j6 := HXq15.out.cell 6
  have jl := HXq15.out.lt
  rcases said with _ | _
  · have hv0 : r.version = 0 := by
      have h1 := HSA.out
      rw [← HRR.out]
      unfold eventReadB at h1
      unfold eventRead
      cases hr : readE s with
      | none => rfl
      | some k => rw [hr] at h1; cases h1
    rw [hv0] at j1
    clear hv0
    go_wp2
    go_ret
    exact ⟨rfl, HB15.out⟩
  have hk : r.ok ∧ r.wr = s := by
    have h1 := HSA.out
    unfold eventReadB at h1
    rw [← HRR.out]
    unfold eventRead
    cases hr : readE s with
    | none => rw [hr] at h1; cases h1
    | some k => exact readE_some hr
  have HKR := hide hk
  clear hk
  have HC := hide (implEventOk_any r _ fq13 w15 HOq15.out HLq15.out (by omega))
  have hk := HKR.out
  rw [tb_true hk.1] at HC
  clear hk
  go_wp2_with fail
  refine HC.out.mono ?_
  rintro e w16 ⟨rfl, hb16⟩
  have HB16 := hide (HB15.out.trans (hb16.mono HB15.out.size))
  have HLY16 := hide (HLY15.out.below hb16)
  have hw16 : 5 < w16.heap.size := Nat.lt_of_lt_of_le hw15 hb16.size
  have HXp16 := hide (HXp15.out.below hb16 HXp15.out.lt)
  have HXq16 := hide (HXq15.out.below hb16 HXq15.out.lt)
  have HOp16 := hide (HOp15.out.below hb16 HLp15.out)
  have HLp16 := hide (HLp15.out.up hb16)
  have HOq16 := hide (HOq15.out.below hb16 HLq15.out)
  have HLq16 := hide (HLq15.out.up hb16)
  clear hb16 HC HB15 HLY15 hw15 HXp15 HOp15 HLp15 HXq15 HOq15 HLq15 
  clear k0 k1 k2 k3 k4 k5 k6 kl
  clear j0 j1 j2 j3 j4 j5 j6 jl
  have k0 := HXp16.out.cell 0
  have k1 := HXp16.out.cell 1
  have k2 := HXp16.out.cell 2
  have k3 := HXp16.out.cell 3
  have k4 := HXp16.out.cell 4
  have k5 := HXp16.out.cell 5
  have k6 := HXp16.out.cell 6
  have kl := HXp16.out.lt
  have j0 := HXq16.out.cell 0
  have j1 := HXq16.out.cell 1
  have j2 := HXq16.out.cell 2
  have j3 := HXq16.out.cell 3
  have j4 := HXq16.out.cell 4
  have j5 := HXq16.out.cell 5
  have j6 := HXq16.out.cell 6
  have jl := HXq16.out.lt
  have HC := hide (implEventWrite_any r _ fq13 w16 HOq16.out HLq16.out (by omega) HLY16.out.tab)
  have hk := HKR.out
  rw [Event.write_ok hk.1, hk.2] at HC
  clear hk
  go_wp2_with fail
  refine HC.out.mono ?_
  rintro e w17 ⟨rfl, hb17⟩
  have HB17 := hide (HB16.out.trans (hb17.mono HB16.out.size))
  have HLY17 := hide (HLY16.out.below hb17)
  have hw17 : 5 < w17.heap.size := Nat.lt_of_lt_of_le hw16 hb17.size
  have HXp17 := hide (HXp16.out.below hb17 HXp16.out.lt)
  have HXq17 := hide (HXq16.out.below hb17 HXq16.out.lt)
  have HOp17 := hide (HOp16.out.below hb17 HLp16.out)
  have HLp17 := hide (HLp16.out.up hb17)
  have HOq17 := hide (HOq16.out.below hb17 HLq16.out)
  have HLq17 := hide (HLq16.out.up hb17)
  clear hb17 HC HB16 HLY16 hw16 HXp16 HOp16 HLp16 HXq16 HOq16 HLq16 
  clear k0 k1 k2 k3 k4 k5 k6 kl
  clear j0 j1 j2 j3 j4 j5 j6 jl
  have k0 := HXp17.out.cell 0
  have k1 := HXp17.out.cell 1
  have k2 := HXp17.out.cell 2
  have k3 := HXp17.out.cell 3
  have k4 := HXp17.out.cell 4
  have k5 := HXp17.out.cell 5
  have k6 := HXp17.out.cell 6
  have kl := HXp17.out.lt
  have j0 := HXq17.out.cell 0
  have j1 := HXq17.out.cell 1
  have j2 := HXq17.out.cell 2
  have j3 := HXq17.out.cell 3
  have j4 := HXq17.out.cell 4
  have j5 := HXq17.out.cell 5
  have j6 := HXq17.out.cell 6
  have jl := HXq17.out.lt
  go_wp2
  go_ret
  exact ⟨rfl, HB17.out⟩
end Go.Proofs.YtnaecdoeldoipaaGreatDoor
