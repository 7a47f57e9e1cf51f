/-
  The readers' tree: the reference. Printed by gen/untree.py. The readers' tree: the program. Printed by gen/untree.py. What a reader of events has found: plain laws of the three parts. EventUnpack of the program.
-/
import Derived.Deep.RegionHeld3
import Derived.Deep.RegionLaw
import Derived.Deep.CutRange
import Derived.Deep.DeepCutAuto
import Derived.Test.YtnaecdoeldoipaaGreatDoorQSame
import Derived.Test.YtnaecdoeldoipaaGreatDoorQNEvent
set_option linter.unusedVariables false
set_option linter.unusedSimpArgs false
namespace Go.Proofs.YtnaecdoeldoipaaGreatDoor
open Go.ChangeShapes Go.WideShapes Go.ChangeAt Go.RowKit

def TreeRdBS (f : Nat) : Prop := ∀ (L l : List UInt8) (bad : Bool) (g deep : Nat) (w : World), deep + f = 7 → 1 ≤ deep → RdS w g L l bad →
  Calls Tryz.prog 90 #[.pointer (some ⟨g, 0, none⟩), .int .i64 (deep : Int)] w (TreeOut RdS g L bad (pTree false f l) w)
set_option maxRecDepth 100000 in
set_option maxHeartbeats 4000000 in
theorem treeRdBS_of (f : Nat) (ih : ∀ f', f = f' + 1 → TreeRdBS f') : TreeRdBS f := by
  intro L l bad g deep w hdf hd1 h
  have hgw := h.lt
  have HB0 := hide (show Below w.heap.size w (w.alloc (.cells #[.int .i64 0, .int .i64 0, .string .empty, .slice none 0 0, .slice none 0 0] 26)) from (Below.refl _ _).alloc (Nat.le_refl _) _)
  have HZ0 := hide (Row.new w 26 [.int .i64 0, .int .i64 0, .string .empty, .slice none 0 0, .slice none 0 0])
  have HC := hide (oneS_any (h.below HB0.out))
  have HIH := hide ih
  have HSH := hide (fun (l : List UInt8) (bad : Bool) (W : World) (h : RdS W g L l bad) => shortS_any h)
  have HON := hide (fun (l : List UInt8) (bad : Bool) (W : World) (h : RdS W g L l bad) => oneS_any h)
  obtain ⟨ia, hia, ha0, ha1, ha2⟩ := info_parts info_string
  obtain ⟨ib, hib, hb0, hb1, hb2⟩ := info_parts info_Tree'
  have HIa := hide hia
  have HIb := hide hib
  clear h ih hia hib
  go_enter Tryz.func90, Tryz.ntmps90
  go_wp2_with fail
  refine HC.out.mono ?_
  rintro e w2 ⟨x, l1, bad1, rfl, hx0, hx1, h2, hg2, hok⟩
  obtain ⟨y, rfl⟩ : ∃ y : Nat, x = (y : Int) := ⟨x.toNat, by omega⟩
  go_upto_region 2 with fail
  generalize hw3 : w2.alloc _ = w3
  have hB3 : Below w2.heap.size w2 w3 := by rw [← hw3]; exact (Below.refl _ _).alloc (Nat.le_refl _) _
  have HG2 := hide (show w.grownBy w3 (some g) from only_low (only_trans (grownBy_below HB0.out (some g)) hg2) hB3 (Nat.le_trans HB0.out.size hg2.size))
  have HT3 := hide (show TreeAt w3 w2.heap.size (y : Int) (.slice none 0 0) [] [] (.slice none 0 0) [] [] [] from ⟨by rw [← hw3]; exact Row.new w2 _ _, OwS.nil _ _ _ _ _, OwS.nil _ _ _ _ _, Nat.lt_succ_self _, fun g h => (by cases h), fun g h => (by cases h), fun g h => (by cases h), fun g h => (by cases h)⟩)
  have HR3 := hide (h2.below hB3)
  have HZ3 := hide ((HZ0.out.grown hg2 (fun e => by injection e with e; omega)).below hB3 (Nat.lt_of_lt_of_le HZ0.out.lt hg2.size))
  have hbw : w.heap.size < w2.heap.size := Nat.lt_of_lt_of_le HZ0.out.lt hg2.size
  have HOK := hide hok
  have t0 := HT3.out.box.cell 0
  have lt3 := HT3.out.box.lt
  obtain ⟨hbc, hbf⟩ := HR3.out.bad
  have lg3 := HR3.out.lt
  clear hg2 h2 hok hB3 HC hw3
  by_cases hstop : bad1 = true ∨ 6 < deep
  · have HN : Hid (bad = true ∨ pTree false f l = none) := hide (by
      rcases hstop with hs | hs
      · exact (HOK.out.2 hs).imp id (fun e => by rw [pOne_none e, pTree_nil])
      · obtain rfl : f = 0 := by omega
        exact .inr rfl)
    have HRq := hide (HR3.out.setBad true)
    have HGq := hide (only_trans HG2.out (only_setCell (p := ⟨g, 2, none⟩) (grown_refl w3 (some g)) (.inl rfl) (.bool true)))
    have HTq := hide (HT3.out.far (only_setCell (p := ⟨g, 2, none⟩) (grown_refl w3 (some g)) (.inl rfl) (.bool true)) (by omega))
    have HZq0 := hide (HZ3.out.grown (only_setCell (p := ⟨g, 2, none⟩) (grown_refl w3 (some g)) (.inl rfl) (.bool true)) (fun e => by injection e with e; omega))
    have HZq := HZq0
    have z0 := HZq.out.cell 0
    have y0 := HZq.out.frozen 0
    have z1 := HZq.out.cell 1
    have y1 := HZq.out.frozen 1
    have z2 := HZq.out.cell 2
    have y2 := HZq.out.frozen 2
    have z3 := HZq.out.cell 3
    have y3 := HZq.out.frozen 3
    have z4 := HZq.out.cell 4
    have y4 := HZq.out.frozen 4
    have lz := HZq.out.lt
    have q0 := HTq.out.box.cell 0
    have q1 := HTq.out.box.cell 1
    have q2 := HTq.out.box.cell 2
    have q3 := HTq.out.box.cell 3
    have q4 := HTq.out.box.cell 4
    have lq := HTq.out.box.lt
    clear t0 lt3
    have hor : (bad1 = true) ∨ (bad1 = false ∧ (6 : Int) < (deep : Int)) := by
      rcases hb : bad1 with _ | _
      · rcases hstop with hs | hs
        · rw [hb] at hs; cases hs
        · exact .inr ⟨rfl, by omega⟩
      · exact .inl rfl
    clear hstop
    rcases hor with rfl | ⟨rfl, hdd⟩
    · go_wp2
      refine bodyPost_ret (ret_row rfl _ _ w.heap.size 26 [.int .i64 (y : Int), .int .i64 0, .string .empty, .slice none 0 0, .slice none 0 0] (HZq.out.setAll [.int .i64 (y : Int), .int .i64 0, .string .empty, .slice none 0 0, .slice none 0 0] rfl) _ rfl Tryz.underlying26 rfl (by kernel_rfl)) rfl ?_
      exact ⟨.mk (y : Int) 0 .empty [] [], _, [], l1, true, rfl, leaf_ow _ (wfi (by omega) (by omega)) (wfi (by omega) (by omega)) empty_le, New.nil _ _, HRq.out.low (fin_low HGq.out [.int .i64 (y : Int), .int .i64 0, .string .empty, .slice none 0 0, .slice none 0 0]) hgw, fin_grown HGq.out [.int .i64 (y : Int), .int .i64 0, .string .empty, .slice none 0 0, .slice none 0 0], fun hb => (by cases hb), fun _ => HN.out⟩
    · go_wp2
      refine bodyPost_ret (ret_row rfl _ _ w.heap.size 26 [.int .i64 (y : Int), .int .i64 0, .string .empty, .slice none 0 0, .slice none 0 0] (HZq.out.setAll [.int .i64 (y : Int), .int .i64 0, .string .empty, .slice none 0 0, .slice none 0 0] rfl) _ rfl Tryz.underlying26 rfl (by kernel_rfl)) rfl ?_
      exact ⟨.mk (y : Int) 0 .empty [] [], _, [], l1, true, rfl, leaf_ow _ (wfi (by omega) (by omega)) (wfi (by omega) (by omega)) empty_le, New.nil _ _, HRq.out.low (fin_low HGq.out [.int .i64 (y : Int), .int .i64 0, .string .empty, .slice none 0 0, .slice none 0 0]) hgw, fin_grown HGq.out [.int .i64 (y : Int), .int .i64 0, .string .empty, .slice none 0 0, .slice none 0 0], fun hb => (by cases hb), fun _ => HN.out⟩
  obtain rfl : bad1 = false := by
    rcases hb : bad1 with _ | _
    · rfl
    · exact absurd (.inl hb) hstop
  have hd6 : deep ≤ 6 := Nat.not_lt.1 (fun hd => hstop (.inr hd))
  clear hstop
  obtain ⟨f', rfl⟩ : ∃ f', f = f' + 1 := ⟨f - 1, by omega⟩
  have HI := hide (HIH.out f' rfl)
  obtain ⟨hb0f, hp1⟩ := HOK.out.1 rfl
  have HP := hide (pTree_one (strict := false) (f := f') hp1)
  clear hp1 HOK HIH
  subst hb0f
  have hdi : (deep : Int) ≤ 6 := by omega
  by_cases h1 : y = 1
  · subst h1
    have HP1 := hide (show pTree false (f' + 1) l = (pNum false l1).map (fun p => (.mk 1 p.1 .empty [] [], p.2)) from by rw [HP.out, if_pos rfl])
    clear HP
    have HNU := hide (numS_any HR3.out)
    go_wp2_with fail
    skip
    refine HNU.out.mono ?_
    rintro e w5 ⟨n, l5, b5, rfl, hn0, hn1, h5, hg5, hok5⟩
    have HR5 := hide h5
    have HG5 := hide (only_trans HG2.out hg5)
    have HT5 := hide (HT3.out.far hg5 (by omega))
    have HZ5 := hide (HZ3.out.grown hg5 (fun e => by injection e with e; omega))
    have HOK5 := hide hok5
    have x1f := HT5.out.box.frozen 1
    have HBX := hide (HT5.out.box.set 1 (.int .i64 n))
    have hBX : Below w2.heap.size w5 (w5.setCell ⟨w2.heap.size, 1, none⟩ (.int .i64 n)) := (Below.refl _ _).setCell (p := ⟨w2.heap.size, 1, none⟩) (Nat.le_refl _) _
    have HRx := hide (HR5.out.low hBX (by omega))
    have HGx := hide (only_low HG5.out hBX (by omega))
    have HZx := hide (HZ5.out.below hBX hbw)
    have HZq := HZx
    have z0 := HZq.out.cell 0
    have y0 := HZq.out.frozen 0
    have z1 := HZq.out.cell 1
    have y1 := HZq.out.frozen 1
    have z2 := HZq.out.cell 2
    have y2 := HZq.out.frozen 2
    have z3 := HZq.out.cell 3
    have y3 := HZq.out.frozen 3
    have z4 := HZq.out.cell 4
    have y4 := HZq.out.frozen 4
    have lz := HZq.out.lt
    have q0 := HBX.out.cell 0
    have q1 := HBX.out.cell 1
    have q2 := HBX.out.cell 2
    have q3 := HBX.out.cell 3
    have q4 := HBX.out.cell 4
    have p0 := HT5.out.box.cell 0
    have p1 := HT5.out.box.cell 1
    have p2 := HT5.out.box.cell 2
    have p3 := HT5.out.box.cell 3
    have p4 := HT5.out.box.cell 4
    have lq := HBX.out.lt
    have lq5 := HT5.out.box.lt
    clear h5 hg5 hok5 t0 lt3
    go_wp2
    refine bodyPost_ret (ret_row rfl _ _ w.heap.size 26 [.int .i64 1, .int .i64 n, .string .empty, .slice none 0 0, .slice none 0 0] (HZq.out.setAll [.int .i64 1, .int .i64 n, .string .empty, .slice none 0 0, .slice none 0 0] rfl) _ rfl Tryz.underlying26 rfl (by kernel_rfl)) rfl ?_
    exact ⟨.mk 1 n .empty [] [], _, [], l5, b5, rfl, leaf_ow _ (wfi (by omega) (by omega)) (wfi (by omega) (by omega)) empty_le, New.nil _ _, HRx.out.low (fin_low HGx.out [.int .i64 1, .int .i64 n, .string .empty, .slice none 0 0, .slice none 0 0]) hgw, fin_grown HGx.out [.int .i64 1, .int .i64 n, .string .empty, .slice none 0 0, .slice none 0 0], (by rw [HP1.out]; exact okr_map (fun q => Tree.mk 1 q .empty [] []) HOK5.out)⟩
  by_cases h2 : y = 2
  · subst h2
    have HP1 := hide (show pTree false (f' + 1) l = (pShort l1).map (fun p => (.mk 2 0 p.1 [] [], p.2)) from by rw [HP.out, if_neg h1, if_pos rfl])
    clear HP
    have HNU := hide (shortS_any HR3.out)
    go_wp2_with fail
    skip
    refine HNU.out.mono ?_
    rintro e w5 ⟨n, l5, b5, rfl, hn1, h5, hg5, hok5⟩
    have HR5 := hide h5
    have HG5 := hide (only_trans HG2.out hg5)
    have HT5 := hide (HT3.out.far hg5 (by omega))
    have HZ5 := hide (HZ3.out.grown hg5 (fun e => by injection e with e; omega))
    have HOK5 := hide hok5
    have x2f := HT5.out.box.frozen 2
    have HBX := hide (HT5.out.box.set 2 (.string n))
    have hBX : Below w2.heap.size w5 (w5.setCell ⟨w2.heap.size, 2, none⟩ (.string n)) := (Below.refl _ _).setCell (p := ⟨w2.heap.size, 2, none⟩) (Nat.le_refl _) _
    have HRx := hide (HR5.out.low hBX (by omega))
    have HGx := hide (only_low HG5.out hBX (by omega))
    have HZx := hide (HZ5.out.below hBX hbw)
    have HZq := HZx
    have z0 := HZq.out.cell 0
    have y0 := HZq.out.frozen 0
    have z1 := HZq.out.cell 1
    have y1 := HZq.out.frozen 1
    have z2 := HZq.out.cell 2
    have y2 := HZq.out.frozen 2
    have z3 := HZq.out.cell 3
    have y3 := HZq.out.frozen 3
    have z4 := HZq.out.cell 4
    have y4 := HZq.out.frozen 4
    have lz := HZq.out.lt
    have q0 := HBX.out.cell 0
    have q1 := HBX.out.cell 1
    have q2 := HBX.out.cell 2
    have q3 := HBX.out.cell 3
    have q4 := HBX.out.cell 4
    have p0 := HT5.out.box.cell 0
    have p1 := HT5.out.box.cell 1
    have p2 := HT5.out.box.cell 2
    have p3 := HT5.out.box.cell 3
    have p4 := HT5.out.box.cell 4
    have lq := HBX.out.lt
    have lq5 := HT5.out.box.lt
    clear h5 hg5 hok5 t0 lt3
    go_wp2
    refine bodyPost_ret (ret_row rfl _ _ w.heap.size 26 [.int .i64 2, .int .i64 0, .string n, .slice none 0 0, .slice none 0 0] (HZq.out.setAll [.int .i64 2, .int .i64 0, .string n, .slice none 0 0, .slice none 0 0] rfl) _ rfl Tryz.underlying26 rfl (by kernel_rfl)) rfl ?_
    exact ⟨.mk 2 0 n [] [], _, [], l5, b5, rfl, leaf_ow _ (wfi (by omega) (by omega)) (wfi (by omega) (by omega)) (by unfold maxLen; omega), New.nil _ _, HRx.out.low (fin_low HGx.out [.int .i64 2, .int .i64 0, .string n, .slice none 0 0, .slice none 0 0]) hgw, fin_grown HGx.out [.int .i64 2, .int .i64 0, .string n, .slice none 0 0, .slice none 0 0], (by rw [HP1.out]; exact okr_map (fun q => Tree.mk 2 0 q [] []) HOK5.out)⟩
  by_cases h3 : y = 3
  · subst h3
    have HP1 := hide (show pTree false (f' + 1) l = (pOne l1).map (fun p => (.mk 3 p.1 .empty [] [], p.2)) from by rw [HP.out, if_neg h1, if_neg h2, if_pos rfl])
    clear HP
    have HNU := hide (oneS_any HR3.out)
    go_wp2_with fail
    skip
    refine HNU.out.mono ?_
    rintro e w5 ⟨n, l5, b5, rfl, hn0, hn1, h5, hg5, hok5⟩
    have HR5 := hide h5
    have HG5 := hide (only_trans HG2.out hg5)
    have HT5 := hide (HT3.out.far hg5 (by omega))
    have HZ5 := hide (HZ3.out.grown hg5 (fun e => by injection e with e; omega))
    have HOK5 := hide hok5
    have x1f := HT5.out.box.frozen 1
    have HBX := hide (HT5.out.box.set 1 (.int .i64 n))
    have hBX : Below w2.heap.size w5 (w5.setCell ⟨w2.heap.size, 1, none⟩ (.int .i64 n)) := (Below.refl _ _).setCell (p := ⟨w2.heap.size, 1, none⟩) (Nat.le_refl _) _
    have HRx := hide (HR5.out.low hBX (by omega))
    have HGx := hide (only_low HG5.out hBX (by omega))
    have HZx := hide (HZ5.out.below hBX hbw)
    have HZq := HZx
    have z0 := HZq.out.cell 0
    have y0 := HZq.out.frozen 0
    have z1 := HZq.out.cell 1
    have y1 := HZq.out.frozen 1
    have z2 := HZq.out.cell 2
    have y2 := HZq.out.frozen 2
    have z3 := HZq.out.cell 3
    have y3 := HZq.out.frozen 3
    have z4 := HZq.out.cell 4
    have y4 := HZq.out.frozen 4
    have lz := HZq.out.lt
    have q0 := HBX.out.cell 0
    have q1 := HBX.out.cell 1
    have q2 := HBX.out.cell 2
    have q3 := HBX.out.cell 3
    have q4 := HBX.out.cell 4
    have p0 := HT5.out.box.cell 0
    have p1 := HT5.out.box.cell 1
    have p2 := HT5.out.box.cell 2
    have p3 := HT5.out.box.cell 3
    have p4 := HT5.out.box.cell 4
    have lq := HBX.out.lt
    have lq5 := HT5.out.box.lt
    clear h5 hg5 hok5 t0 lt3
    go_wp2
    refine bodyPost_ret (ret_row rfl _ _ w.heap.size 26 [.int .i64 3, .int .i64 n, .string .empty, .slice none 0 0, .slice none 0 0] (HZq.out.setAll [.int .i64 3, .int .i64 n, .string .empty, .slice none 0 0, .slice none 0 0] rfl) _ rfl Tryz.underlying26 rfl (by kernel_rfl)) rfl ?_
    exact ⟨.mk 3 n .empty [] [], _, [], l5, b5, rfl, leaf_ow _ (wfi (by omega) (by omega)) (wfi (by omega) (by omega)) empty_le, New.nil _ _, HRx.out.low (fin_low HGx.out [.int .i64 3, .int .i64 n, .string .empty, .slice none 0 0, .slice none 0 0]) hgw, fin_grown HGx.out [.int .i64 3, .int .i64 n, .string .empty, .slice none 0 0, .slice none 0 0], (by rw [HP1.out]; exact okr_map (fun q => Tree.mk 3 q .empty [] []) HOK5.out)⟩
  have HP4 := hide (show pTree false (f' + 1) l = pMany (pTree false f') y l1 from by rw [HP.out, if_neg h1, if_neg h2, if_neg h3])
  clear HP
  have hi1 : ((y : Int) == 1) = false := by simp; omega
  have hi2 : ((y : Int) == 2) = false := by simp; omega
  have hi3 : ((y : Int) == 3) = false := by simp; omega
  have hyw : (Lit.int .i64 (y : Int)).wf = true := wfi (by omega) (by omega)
  have HNU := hide (oneS_any HR3.out)
  clear h1 h2 h3
  go_wp2_with fail
  skip
  refine HNU.out.mono ?_
  rintro e w5 ⟨m, l5, b5, rfl, hm0, hm1, h5, hg5, hok5⟩
  obtain ⟨m, rfl⟩ : ∃ m' : Nat, m = (m' : Int) := ⟨m.toNat, by omega⟩
  have HK0 := hide (KidsAt.start (rd := pTree false f') (y := y) hok5)
  have HR5 := hide h5
  have HG5 := hide (only_trans HG2.out hg5)
  have HT5 := hide (HT3.out.far hg5 (by omega))
  have HZ5 := hide (HZ3.out.grown hg5 (fun e => by injection e with e; omega))
  obtain ⟨dd, hdd⟩ : ∃ dd : Nat, deep + 1 = dd := ⟨_, rfl⟩
  have hwd : IntKind.i64.wrap ((deep : Int) + 1) = (dd : Int) := by rw [wrapI _ (by omega) (by omega)]; omega
  have HIC := hide (fun (l : List UInt8) (bad : Bool) (W : World) (h : RdS W g L l bad) => HI.out L l bad g dd W (by omega) (by omega) h)
  clear h5 hg5 hok5 HNU lg3 t0 hbc hbf lt3 hdd
  go_wp2
  go_loopw [6] (fun iv wr => ∃ (n : Nat) (ns : List ByteArray) (ks : List Tree) (lx : List UInt8) (bx : Bool) (B1 : Option Addr) (n1 d1 : Nat) (us1 : List Value) (B2 : Option Addr) (n2 d2 : Nat) (us2 : List Value) (fi2 : List Nat), iv = .int .i64 (n : Int) ∧ TreeAt wr w2.heap.size (y : Int) (.slice B1 n1 d1) ns us1 (.slice B2 n2 d2) ks us2 fi2 ∧ RdS wr g L lx bx ∧ ns.length + n ≤ 255 ∧ ks.length + n ≤ 255 ∧ KidsAt (pTree false f') y l1 bx n ns ks lx ∧ w.grownBy wr (some g) ∧ Row wr w.heap.size 26 [.int .i64 0, .int .i64 0, .string .empty, .slice none 0 0, .slice none 0 0]) (fun iv _ => (intOf iv).toNat)
  case atStart => exact ⟨m, [], [], l5, b5, none, 0, 0, [], none, 0, 0, [], [], rfl, HT5.out, HR5.out, by simp; omega, by simp; omega, HK0.out, HG5.out, HZ5.out⟩
  case round =>
    obtain ⟨n, ns, ks, lx, bx, B1, n1, d1, us1, B2, n2, d2, us2, fi2, rfl, hT, hR, hln, hlk, hK, hG, hZ⟩ := hrel
    have HTr := hide hT
    have HRr := hide hR
    have HK := hide hK
    have HG := hide hG
    have HZ := hide hZ
    have q0 : wr.cell? ⟨w2.heap.size, 0, none⟩ = some (.int .i64 (y : Int)) := hT.box.cell 0
    have lq := hT.box.lt
    obtain ⟨hbc, hbf⟩ := hR.bad
    have lgr := hR.lt
    clear hT hR hK hG hZ HR5 HG5 HT5 HZ5 HK0
    rcases n with _ | n
    · have hzz : bx = false → 0 = 0 := fun _ => rfl
      have HZq := HZ
      have z0 := HZq.out.cell 0
      have y0 := HZq.out.frozen 0
      have z1 := HZq.out.cell 1
      have y1 := HZq.out.frozen 1
      have z2 := HZq.out.cell 2
      have y2 := HZq.out.frozen 2
      have z3 := HZq.out.cell 3
      have y3 := HZq.out.frozen 3
      have z4 := HZq.out.cell 4
      have y4 := HZq.out.frozen 4
      have lz := HZq.out.lt
      have q1 := HTr.out.box.cell 1
      have q2 := HTr.out.box.cell 2
      have q3 := HTr.out.box.cell 3
      have q4 := HTr.out.box.cell 4
      go_wp2
      obtain ⟨fq, ho, hnw⟩ := kids_fin HTr.out hyw HG.out hbw (treeMk (y : Int) (.slice B1 n1 d1) (.slice B2 n2 d2))
      refine bodyPost_ret (ret_row rfl _ _ w.heap.size 26 (treeMk (y : Int) (.slice B1 n1 d1) (.slice B2 n2 d2)) (HZq.out.setAll (treeMk (y : Int) (.slice B1 n1 d1) (.slice B2 n2 d2)) rfl) _ rfl Tryz.underlying26 rfl (by kernel_rfl)) rfl ?_
      exact ⟨.mk (y : Int) 0 .empty ns ks, _, fq, lx, _, rfl, ho, hnw, HRr.out.low (fin_low HG.out (treeMk (y : Int) (.slice B1 n1 d1) (.slice B2 n2 d2))) hgw, fin_grown HG.out (treeMk (y : Int) (.slice B1 n1 d1) (.slice B2 n2 d2)), by rw [HP4.out]; exact HK.out.done (fun _ => rfl)⟩
    have hn0 : (0 : Int) < ((n + 1 : Nat) : Int) := by omega
    rcases bx with _ | _
    rotate_left
    · skip
      have HZq := HZ
      have z0 := HZq.out.cell 0
      have y0 := HZq.out.frozen 0
      have z1 := HZq.out.cell 1
      have y1 := HZq.out.frozen 1
      have z2 := HZq.out.cell 2
      have y2 := HZq.out.frozen 2
      have z3 := HZq.out.cell 3
      have y3 := HZq.out.frozen 3
      have z4 := HZq.out.cell 4
      have y4 := HZq.out.frozen 4
      have lz := HZq.out.lt
      have q1 := HTr.out.box.cell 1
      have q2 := HTr.out.box.cell 2
      have q3 := HTr.out.box.cell 3
      have q4 := HTr.out.box.cell 4
      go_wp2
      obtain ⟨fq, ho, hnw⟩ := kids_fin HTr.out hyw HG.out hbw (treeMk (y : Int) (.slice B1 n1 d1) (.slice B2 n2 d2))
      refine bodyPost_ret (ret_row rfl _ _ w.heap.size 26 (treeMk (y : Int) (.slice B1 n1 d1) (.slice B2 n2 d2)) (HZq.out.setAll (treeMk (y : Int) (.slice B1 n1 d1) (.slice B2 n2 d2)) rfl) _ rfl Tryz.underlying26 rfl (by kernel_rfl)) rfl ?_
      exact ⟨.mk (y : Int) 0 .empty ns ks, _, fq, lx, _, rfl, ho, hnw, HRr.out.low (fin_low HG.out (treeMk (y : Int) (.slice B1 n1 d1) (.slice B2 n2 d2))) hgw, fin_grown HG.out (treeMk (y : Int) (.slice B1 n1 d1) (.slice B2 n2 d2)), by rw [HP4.out]; exact HK.out.done (fun h => by cases h)⟩
    by_cases hy5 : y = 5
    · have HY := hide hy5
      have hi5 : ((y : Int) == 5) = true := by simp; omega
      clear hy5
      have t3 : wr.cell? ⟨w2.heap.size, 3, none⟩ = some (.slice B1 n1 d1) := HTr.out.box.cell 3
      have hszA : w2.heap.size + 1 ≤ wr.heap.size := HTr.out.box.lt
      go_upto_region 19 with fail
      go_cut [] from 44 to 73 (fun wx => ∃ (s : ByteArray) (l3 : List UInt8) (b3 : Bool) (C1 : Option Addr) (m1 c1 : Nat) (us1' : List Value), TreeAt wx w2.heap.size (y : Int) (.slice C1 m1 c1) (ns ++ [s]) us1' (.slice B2 n2 d2) ks us2 fi2 ∧ RdS wx g L l3 b3 ∧ Okr false b3 (pShort lx) s l3 ∧ w.grownBy wx (some g) ∧ Row wx w.heap.size 26 [.int .i64 0, .int .i64 0, .string .empty, .slice none 0 0, .slice none 0 0])
      case first =>
        go_region_law (first | (refine step_app (by rfl) _ _ 23 (by rfl) ia _ 16 Tryz.underlying23 HIa.out ha0 ha1 ha2 rfl (by decide) strC_len (by rfl) HT7.out.one [s] (HDS.out _) (by exact New.nil _ _) (fun g _ hg => by cases hg) _ 1 1 (by rfl) rfl (SrcAt.new w6 _ _ _ _) (by omega) (by decide) (by rw [World.size_alloc]; omega) ?_; intro A' n' c' w8 hn8 hown8 hgb8; have HG8 := hide hgb8; have HN8 := hide hown8; have r8 := HT7.out.row1 hgb8; have q8 : w8.cell? ⟨w2.heap.size, 3, none⟩ = some (.slice B1 n1 d1) := r8.cell 3; have f8 : w8.frozen? ⟨w2.heap.size, 3, none⟩ = false := r8.frozen 3; clear hown8 hgb8 r8 hn8) | (go_simp; go_at_call 88; refine (HSH.out lx false _ (HRr.out.drewN 1)).mono ?_; rintro e w6 ⟨s, l6, b6, rfl, hs6, hr6, hg6, hok6⟩; have HR6 := hide hr6; have HG6 := hide (only_trans (only_drewN HG.out 1) hg6); have HOK6 := hide hok6; have HZ6 := hide ((HZ.out.drewN 1).grown hg6 (fun e => by injection e with e; omega)); have hz6 : wr.heap.size ≤ w6.heap.size := hg6.size; have HT6 := hide ((HTr.out.drewN 1).far hg6 (by omega)); have t3c : w6.cell? ⟨w2.heap.size, 3, none⟩ = some (.slice B1 n1 d1) := HT6.out.box.cell 3; have lt6 := HT6.out.box.lt; have HT7 := hide (HT6.out.alloc (.cells #[.string s] 9)); have HDS := hide (fun W => show OwC W ([s].flatMap strC) [.string s] [] from ⟨[], [], ⟨rfl, show s.size ≤ maxLen by (unfold maxLen; omega), rfl⟩, rfl, rfl⟩); clear hr6 hg6 hok6))
        all_goals
          have hfr : ∀ u, Below w.heap.size w6 (w8.setCell ⟨w2.heap.size, 3, none⟩ u) := fun u => ((Below.refl w.heap.size w6).alloc (by omega) _).trans (HT7.out.frame1 HG8.out (by rw [World.size_alloc]; omega) 3 u (by omega))
          go_wp2_with fail
          go_meet
          exact ⟨s, l6, b6, A', n', c', us1 ++ [.string s], HT7.out.put1 HG8.out HN8.out 3 rfl (fun g hg => by cases hg), HR6.out.low (hfr _) hgw, HOK6.out, only_low HG6.out (hfr _) (Nat.le_refl _), Row.far (p := ⟨w2.heap.size, 3, none⟩) (HG8.out.row (HZ6.out.alloc _) (HT7.out.one.low (by omega))) (Nat.ne_of_lt hbw) _⟩
      case rest =>
        clear q0 lq hbc hbf lgr t3 hszA
        obtain ⟨s, l3, b3, C1, m1, c1, us1', hT, hR, hok, hG, hZ⟩ := hcut
        have HTc := hide hT
        have HRc := hide hR
        have HOKc := hide hok
        have HGc := hide hG
        have HZc := hide hZ
        have lq := hT.box.lt
        have lgr := hR.lt
        clear hT hR hok hG hZ
        have hszA : w2.heap.size + 1 ≤ wc.heap.size := HTc.out.box.lt
        have t4 : wc.cell? ⟨w2.heap.size, 4, none⟩ = some (.slice B2 n2 d2) := HTc.out.box.cell 4
        go_wp2
        go_region_law (first | (refine step_app (by rfl) _ _ 24 (by rfl) ib _ 80 Tryz.underlying24 HIb.out hb0 hb1 hb2 rfl (by decide) Tree.cells_len (by rfl) HT7.out.two [t] (by rw [List.flatMap_singleton]; exact HO7.out) (New.app HT7.out.two.new (HN7.out.mono (Nat.le_refl _)) (fun g hg => HTc.out.two.new.lt g hg) (by exact hszA)) (fun g e hm => by have k1 := HTc.out.two.lt g e; have k2 := (HN6.out.fr g hm).1; exact absurd k1 (Nat.not_lt.2 k2)) _ 1 1 (by rfl) rfl (SrcAt.new w6 _ _ _ _) (by omega) (by decide) (by rw [World.size_alloc]; omega) ?_; intro A' n' c' w8 hn8 hown8 hgb8; have HG8 := hide hgb8; have HN8 := hide hown8; have r8 := HT7.out.row2 hgb8; have q8 : w8.cell? ⟨w2.heap.size, 4, none⟩ = some (.slice B2 n2 d2) := r8.cell 4; have f8 : w8.frozen? ⟨w2.heap.size, 4, none⟩ = false := r8.frozen 4; have HNN8 := hide hn8; clear hown8 hgb8 r8 hn8) | (go_simp; go_at_call 90; refine (HIC.out l3 b3 _ (HRc.out.drewN 1)).mono ?_; rintro e w6 ⟨t, us6, fq6, l6, b6, rfl, ho6, hn6, hr6, hg6, hok6⟩; have HO6 := hide ho6; have HN6 := hide hn6; have HR6 := hide hr6; have HG6 := hide (only_trans (only_drewN HGc.out 1) hg6); have HOK6 := hide hok6; have HZ6 := hide ((HZc.out.drewN 1).grown hg6 (fun e => by injection e with e; omega)); have hs6 : wc.heap.size ≤ w6.heap.size := hg6.size; obtain ⟨E1, e1, E2, e2, g1, g2, rfl, x0, x1, x2, x3, x4, efq⟩ := ho6.oTree; have HT6 := hide ((HTc.out.drewN 1).far hg6 (by omega)); have t4c : w6.cell? ⟨w2.heap.size, 4, none⟩ = some (.slice B2 n2 d2) := HT6.out.box.cell 4; have lt6 := HT6.out.box.lt; have HT7 := hide (HT6.out.alloc (.cells #[.int .i64 t.sort, .int .i64 t.num, .string t.text, .slice E1 t.names.length e1, .slice E2 t.kids.length e2] 26)); have HO7 := hide (HO6.out.alloc HN6.out.lt (.cells #[.int .i64 t.sort, .int .i64 t.num, .string t.text, .slice E1 t.names.length e1, .slice E2 t.kids.length e2] 26)); have HN7 := hide (HN6.out.alloc (.cells #[.int .i64 t.sort, .int .i64 t.num, .string t.text, .slice E1 t.names.length e1, .slice E2 t.kids.length e2] 26)); clear ho6 hn6 hr6 hg6 hok6 x3 x4 efq))
        all_goals
          have hfr : ∀ u, Below w.heap.size w6 (w8.setCell ⟨w2.heap.size, 4, none⟩ u) := fun u => ((Below.refl w.heap.size w6).alloc (by omega) _).trans (HT7.out.frame2 HG8.out (by rw [World.size_alloc]; omega) 4 u (by omega))
          have HF := hide (fun W (hW : W = w8.setCell ⟨w2.heap.size, 4, none⟩ (.slice A' n' c')) => show TreeAt W w2.heap.size (y : Int) (.slice C1 m1 c1) (ns ++ [s]) us1' (.slice A' n' c') (ks ++ [t]) (us2 ++ [.int .i64 t.sort, .int .i64 t.num, .string t.text, .slice E1 t.names.length e1, .slice E2 t.kids.length e2]) (fi2 ++ fq6) ∧ RdS W g L l6 b6 ∧ w.grownBy W (some g) ∧ Row W w.heap.size 26 [.int .i64 0, .int .i64 0, .string .empty, .slice none 0 0, .slice none 0 0] from by
            subst hW
            refine ⟨HT7.out.put2 HG8.out HN8.out 4 rfl (fun g hg => ?_), HR6.out.low (hfr _) hgw, only_low HG6.out (hfr _) (Nat.le_refl _), ?_⟩
            · rcases List.mem_append.1 hg with hg | hg
              · exact .inl hg
              · exact .inr ⟨fun e => absurd (HTc.out.one.lt g e) (Nat.not_lt.2 (HN6.out.fr g hg).1), fun h => by cases h⟩
            · exact Row.far (p := ⟨w2.heap.size, 4, none⟩) (HG8.out.row (HZ6.out.alloc _) (HT7.out.two.low (by omega))) (Nat.ne_of_lt hbw) _)
          have hKn := hide (HK.out.form HY.out HOKc.out HOK6.out)
          clear hfr
          go_wp2
          go_roundw
          case rel => exact ⟨n, _, _, _, _, _, _, _, _, A', n', c', _, _, by go_num, (HF.out _ rfl).1, (HF.out _ rfl).2.1, by (try simp only [List.length_append, List.length_cons, List.length_nil]); omega, by (try simp only [List.length_append, List.length_cons, List.length_nil]); omega, hKn.out, (HF.out _ rfl).2.2⟩
          case measure => simp [intOf] <;> omega
    · have hi5 : ((y : Int) == 5) = false := by simp; omega
      have hszA : w2.heap.size + 1 ≤ wr.heap.size := HTr.out.box.lt
      have t4 : wr.cell? ⟨w2.heap.size, 4, none⟩ = some (.slice B2 n2 d2) := HTr.out.box.cell 4
      go_wp2
      go_region_law (first | (refine step_app (by rfl) _ _ 24 (by rfl) ib _ 80 Tryz.underlying24 HIb.out hb0 hb1 hb2 rfl (by decide) Tree.cells_len (by rfl) HT7.out.two [t] (by rw [List.flatMap_singleton]; exact HO7.out) (New.app HT7.out.two.new (HN7.out.mono (Nat.le_refl _)) (fun g hg => HTr.out.two.new.lt g hg) (by exact hszA)) (fun g e hm => by have k1 := HTr.out.two.lt g e; have k2 := (HN6.out.fr g hm).1; exact absurd k1 (Nat.not_lt.2 k2)) _ 1 1 (by rfl) rfl (SrcAt.new w6 _ _ _ _) (by omega) (by decide) (by rw [World.size_alloc]; omega) ?_; intro A' n' c' w8 hn8 hown8 hgb8; have HG8 := hide hgb8; have HN8 := hide hown8; have r8 := HT7.out.row2 hgb8; have q8 : w8.cell? ⟨w2.heap.size, 4, none⟩ = some (.slice B2 n2 d2) := r8.cell 4; have f8 : w8.frozen? ⟨w2.heap.size, 4, none⟩ = false := r8.frozen 4; have HNN8 := hide hn8; clear hown8 hgb8 r8 hn8) | (go_simp; go_at_call 90; refine (HIC.out lx false _ (HRr.out.drewN 1)).mono ?_; rintro e w6 ⟨t, us6, fq6, l6, b6, rfl, ho6, hn6, hr6, hg6, hok6⟩; have HO6 := hide ho6; have HN6 := hide hn6; have HR6 := hide hr6; have HG6 := hide (only_trans (only_drewN HG.out 1) hg6); have HOK6 := hide hok6; have HZ6 := hide ((HZ.out.drewN 1).grown hg6 (fun e => by injection e with e; omega)); have hs6 : wr.heap.size ≤ w6.heap.size := hg6.size; obtain ⟨E1, e1, E2, e2, g1, g2, rfl, x0, x1, x2, x3, x4, efq⟩ := ho6.oTree; have HT6 := hide ((HTr.out.drewN 1).far hg6 (by omega)); have t4c : w6.cell? ⟨w2.heap.size, 4, none⟩ = some (.slice B2 n2 d2) := HT6.out.box.cell 4; have lt6 := HT6.out.box.lt; have HT7 := hide (HT6.out.alloc (.cells #[.int .i64 t.sort, .int .i64 t.num, .string t.text, .slice E1 t.names.length e1, .slice E2 t.kids.length e2] 26)); have HO7 := hide (HO6.out.alloc HN6.out.lt (.cells #[.int .i64 t.sort, .int .i64 t.num, .string t.text, .slice E1 t.names.length e1, .slice E2 t.kids.length e2] 26)); have HN7 := hide (HN6.out.alloc (.cells #[.int .i64 t.sort, .int .i64 t.num, .string t.text, .slice E1 t.names.length e1, .slice E2 t.kids.length e2] 26)); clear ho6 hn6 hr6 hg6 hok6 x3 x4 efq))
      all_goals
        have hfr : ∀ u, Below w.heap.size w6 (w8.setCell ⟨w2.heap.size, 4, none⟩ u) := fun u => ((Below.refl w.heap.size w6).alloc (by omega) _).trans (HT7.out.frame2 HG8.out (by rw [World.size_alloc]; omega) 4 u (by omega))
        have HF := hide (fun W (hW : W = w8.setCell ⟨w2.heap.size, 4, none⟩ (.slice A' n' c')) => show TreeAt W w2.heap.size (y : Int) (.slice B1 n1 d1) ns us1 (.slice A' n' c') (ks ++ [t]) (us2 ++ [.int .i64 t.sort, .int .i64 t.num, .string t.text, .slice E1 t.names.length e1, .slice E2 t.kids.length e2]) (fi2 ++ fq6) ∧ RdS W g L l6 b6 ∧ w.grownBy W (some g) ∧ Row W w.heap.size 26 [.int .i64 0, .int .i64 0, .string .empty, .slice none 0 0, .slice none 0 0] from by
          subst hW
          refine ⟨HT7.out.put2 HG8.out HN8.out 4 rfl (fun g hg => ?_), HR6.out.low (hfr _) hgw, only_low HG6.out (hfr _) (Nat.le_refl _), ?_⟩
          · rcases List.mem_append.1 hg with hg | hg
            · exact .inl hg
            · exact .inr ⟨fun e => absurd (HTr.out.one.lt g e) (Nat.not_lt.2 (HN6.out.fr g hg).1), fun h => by cases h⟩
          · exact Row.far (p := ⟨w2.heap.size, 4, none⟩) (HG8.out.row (HZ6.out.alloc _) (HT7.out.two.low (by omega))) (Nat.ne_of_lt hbw) _)
        have hKn := hide (HK.out.bare hy5 HOK6.out)
        clear hfr
        go_wp2
        go_roundw
        case rel => exact ⟨n, _, _, _, _, _, _, _, _, A', n', c', _, _, by go_num, (HF.out _ rfl).1, (HF.out _ rfl).2.1, by (try simp only [List.length_append, List.length_cons, List.length_nil]); omega, by (try simp only [List.length_append, List.length_cons, List.length_nil]); omega, hKn.out, (HF.out _ rfl).2.2⟩
        case measure => simp [intOf] <;> omega
theorem treeRdBS_any : ∀ f, TreeRdBS f
  | 0 => treeRdBS_of 0 (fun f' e => by cases e)
  | f + 1 => treeRdBS_of (f + 1) (fun f' e => by injection e with e; subst e; exact treeRdBS_any f)
end Go.Proofs.YtnaecdoeldoipaaGreatDoor
set_option linter.unusedVariables false
set_option linter.unusedSimpArgs false
namespace Go.Proofs.YtnaecdoeldoipaaGreatDoor
open Go.ChangeShapes Go.WideShapes Go.ChangeAt Go.RowKit

def TreeRdBI (f : Nat) : Prop := ∀ (L l : List UInt8) (bad : Bool) (g deep : Nat) (w : World), deep + f = 7 → 1 ≤ deep → RdI w g L l bad →
  Calls Tryz.prog 86 #[.pointer (some ⟨g, 0, none⟩), .int .i64 (deep : Int)] w (TreeOut RdI g L bad (pTree true f l) w)
set_option maxRecDepth 100000 in
set_option maxHeartbeats 4000000 in
theorem treeRdBI_of (f : Nat) (ih : ∀ f', f = f' + 1 → TreeRdBI f') : TreeRdBI f := by
  intro L l bad g deep w hdf hd1 h
  have hgw := h.lt
  have HB0 := hide (show Below w.heap.size w (w.alloc (.cells #[.int .i64 0, .int .i64 0, .string .empty, .slice none 0 0, .slice none 0 0] 26)) from (Below.refl _ _).alloc (Nat.le_refl _) _)
  have HZ0 := hide (Row.new w 26 [.int .i64 0, .int .i64 0, .string .empty, .slice none 0 0, .slice none 0 0])
  have HC := hide (numI_any (h.below HB0.out))
  have HIH := hide ih
  have HSH := hide (fun (l : List UInt8) (bad : Bool) (W : World) (h : RdI W g L l bad) => textI_any h)
  have HON := hide (fun (l : List UInt8) (bad : Bool) (W : World) (h : RdI W g L l bad) => numI_any h)
  obtain ⟨ia, hia, ha0, ha1, ha2⟩ := info_parts info_string
  obtain ⟨ib, hib, hb0, hb1, hb2⟩ := info_parts info_Tree'
  have HIa := hide hia
  have HIb := hide hib
  clear h ih hia hib
  go_enter Tryz.func86, Tryz.ntmps86
  go_wp2_with fail
  refine HC.out.mono ?_
  rintro e w2 ⟨x, l1, bad1, rfl, hx0, hx1, h2, hg2, hok⟩
  obtain ⟨y, rfl⟩ : ∃ y : Nat, x = (y : Int) := ⟨x.toNat, by omega⟩
  go_upto_region 2 with fail
  generalize hw3 : w2.alloc _ = w3
  have hB3 : Below w2.heap.size w2 w3 := by rw [← hw3]; exact (Below.refl _ _).alloc (Nat.le_refl _) _
  have HG2 := hide (show w.grownBy w3 (some g) from only_low (only_trans (grownBy_below HB0.out (some g)) hg2) hB3 (Nat.le_trans HB0.out.size hg2.size))
  have HT3 := hide (show TreeAt w3 w2.heap.size (y : Int) (.slice none 0 0) [] [] (.slice none 0 0) [] [] [] from ⟨by rw [← hw3]; exact Row.new w2 _ _, OwS.nil _ _ _ _ _, OwS.nil _ _ _ _ _, Nat.lt_succ_self _, fun g h => (by cases h), fun g h => (by cases h), fun g h => (by cases h), fun g h => (by cases h)⟩)
  have HR3 := hide (h2.below hB3)
  have HZ3 := hide ((HZ0.out.grown hg2 (fun e => by injection e with e; omega)).below hB3 (Nat.lt_of_lt_of_le HZ0.out.lt hg2.size))
  have hbw : w.heap.size < w2.heap.size := Nat.lt_of_lt_of_le HZ0.out.lt hg2.size
  have HOK := hide hok
  have t0 := HT3.out.box.cell 0
  have lt3 := HT3.out.box.lt
  obtain ⟨hbc, hbf⟩ := HR3.out.bad
  have lg3 := HR3.out.lt
  clear hg2 h2 hok hB3 HC hw3
  by_cases hstop : bad1 = true ∨ 6 < deep
  · have HN : Hid (bad = true ∨ pTree true f l = none) := hide (by
      rcases hstop with hs | hs
      · exact (HOK.out.2 hs).imp id (fun e => by rw [pOne_none e, pTree_nil])
      · obtain rfl : f = 0 := by omega
        exact .inr rfl)
    have HRq := hide (HR3.out.setBad true)
    have HGq := hide (only_trans HG2.out (only_setCell (p := ⟨g, 1, none⟩) (grown_refl w3 (some g)) (.inl rfl) (.bool true)))
    have HTq := hide (HT3.out.far (only_setCell (p := ⟨g, 1, none⟩) (grown_refl w3 (some g)) (.inl rfl) (.bool true)) (by omega))
    have HZq0 := hide (HZ3.out.grown (only_setCell (p := ⟨g, 1, none⟩) (grown_refl w3 (some g)) (.inl rfl) (.bool true)) (fun e => by injection e with e; omega))
    have HZq := HZq0
    have z0 := HZq.out.cell 0
    have y0 := HZq.out.frozen 0
    have z1 := HZq.out.cell 1
    have y1 := HZq.out.frozen 1
    have z2 := HZq.out.cell 2
    have y2 := HZq.out.frozen 2
    have z3 := HZq.out.cell 3
    have y3 := HZq.out.frozen 3
    have z4 := HZq.out.cell 4
    have y4 := HZq.out.frozen 4
    have lz := HZq.out.lt
    have q0 := HTq.out.box.cell 0
    have q1 := HTq.out.box.cell 1
    have q2 := HTq.out.box.cell 2
    have q3 := HTq.out.box.cell 3
    have q4 := HTq.out.box.cell 4
    have lq := HTq.out.box.lt
    clear t0 lt3
    have hor : (bad1 = true) ∨ (bad1 = false ∧ (6 : Int) < (deep : Int)) := by
      rcases hb : bad1 with _ | _
      · rcases hstop with hs | hs
        · rw [hb] at hs; cases hs
        · exact .inr ⟨rfl, by omega⟩
      · exact .inl rfl
    clear hstop
    rcases hor with rfl | ⟨rfl, hdd⟩
    · go_wp2
      refine bodyPost_ret (ret_row rfl _ _ w.heap.size 26 [.int .i64 (y : Int), .int .i64 0, .string .empty, .slice none 0 0, .slice none 0 0] (HZq.out.setAll [.int .i64 (y : Int), .int .i64 0, .string .empty, .slice none 0 0, .slice none 0 0] rfl) _ rfl Tryz.underlying26 rfl (by kernel_rfl)) rfl ?_
      exact ⟨.mk (y : Int) 0 .empty [] [], _, [], l1, true, rfl, leaf_ow _ (wfi (by omega) (by omega)) (wfi (by omega) (by omega)) empty_le, New.nil _ _, HRq.out.low (fin_low HGq.out [.int .i64 (y : Int), .int .i64 0, .string .empty, .slice none 0 0, .slice none 0 0]) hgw, fin_grown HGq.out [.int .i64 (y : Int), .int .i64 0, .string .empty, .slice none 0 0, .slice none 0 0], fun hb => (by cases hb), fun _ => HN.out⟩
    · go_wp2
      refine bodyPost_ret (ret_row rfl _ _ w.heap.size 26 [.int .i64 (y : Int), .int .i64 0, .string .empty, .slice none 0 0, .slice none 0 0] (HZq.out.setAll [.int .i64 (y : Int), .int .i64 0, .string .empty, .slice none 0 0, .slice none 0 0] rfl) _ rfl Tryz.underlying26 rfl (by kernel_rfl)) rfl ?_
      exact ⟨.mk (y : Int) 0 .empty [] [], _, [], l1, true, rfl, leaf_ow _ (wfi (by omega) (by omega)) (wfi (by omega) (by omega)) empty_le, New.nil _ _, HRq.out.low (fin_low HGq.out [.int .i64 (y : Int), .int .i64 0, .string .empty, .slice none 0 0, .slice none 0 0]) hgw, fin_grown HGq.out [.int .i64 (y : Int), .int .i64 0, .string .empty, .slice none 0 0, .slice none 0 0], fun hb => (by cases hb), fun _ => HN.out⟩
  obtain rfl : bad1 = false := by
    rcases hb : bad1 with _ | _
    · rfl
    · exact absurd (.inl hb) hstop
  have hd6 : deep ≤ 6 := Nat.not_lt.1 (fun hd => hstop (.inr hd))
  clear hstop
  obtain ⟨f', rfl⟩ : ∃ f', f = f' + 1 := ⟨f - 1, by omega⟩
  have HI := hide (HIH.out f' rfl)
  obtain ⟨hb0f, hp1⟩ := HOK.out.1 rfl
  have HP := hide (pTree_one (strict := true) (f := f') hp1)
  clear hp1 HOK HIH
  subst hb0f
  have hdi : (deep : Int) ≤ 6 := by omega
  have HR4 := hide (HR3.out.setBad false)
  have HG4 := hide (only_trans HG2.out (only_setCell (p := ⟨g, 1, none⟩) (grown_refl w3 (some g)) (.inl rfl) (.bool false)))
  have HT4 := hide (HT3.out.far (only_setCell (p := ⟨g, 1, none⟩) (grown_refl w3 (some g)) (.inl rfl) (.bool false)) (by omega))
  have HZ4 := hide (HZ3.out.grown (only_setCell (p := ⟨g, 1, none⟩) (grown_refl w3 (some g)) (.inl rfl) (.bool false)) (fun e => by injection e with e; omega))
  obtain ⟨w4, hw4⟩ : ∃ w4, w3.setCell ⟨g, 1, none⟩ (.bool false) = w4 := ⟨_, rfl⟩
  rw [hw4] at HR4 HG4 HT4 HZ4
  have lt4 := HT4.out.box.lt
  obtain ⟨hbc4, hbf4⟩ := HR4.out.bad
  have lg4 := HR4.out.lt
  have hde : decide ((6 : Int) < (deep : Int)) = false := by simp; omega
  go_upto_region 3 with fail
  (try rw [hde])
  (try rw [hw4])
  clear hw4 hde hbc hbf t0 lt3
  have t0 := HT4.out.box.cell 0
  by_cases h1 : y = 1
  · subst h1
    have HP1 := hide (show pTree true (f' + 1) l = (pNum true l1).map (fun p => (.mk 1 p.1 .empty [] [], p.2)) from by rw [HP.out, if_pos rfl])
    clear HP
    have HNU := hide (numI_any HR4.out)
    go_wp2_with fail
    skip
    refine HNU.out.mono ?_
    rintro e w6 ⟨s, l6, b6, rfl, hs0, hs1, h6, hg6, hok6⟩
    have HSI := hide (sizeI_any h6)
    have HOK6 := hide hok6
    have hg6' := hg6
    have ht6 := (HT4.out.far hg6 (by omega)).box.cell 0
    clear hok6 h6
    go_wp2_with fail
    refine HSI.out.mono ?_
    rintro e w5 ⟨m, l5, b5, rfl, hm, h5, hg5', hok5'⟩
    have hg5 := only_trans hg6' hg5'
    obtain ⟨n, hn⟩ : ∃ n : Int, (if s = 1 then -(m : Int) else (m : Int)) = n := ⟨_, rfl⟩
    have hok5 := sev_num HOK6.out hok5'
    rw [hn] at hok5
    have hn0 : -34359738368 ≤ n := by rw [← hn]; split <;> omega
    have hn1 : n ≤ 34359738368 := by rw [← hn]; split <;> omega
    clear hok5' ht6 hg6' hg5' hg6 HOK6 HSI
    by_cases hs : s = 1
    · rw [if_pos hs] at hn
      subst hs
      have HR5 := hide h5
      have HG5 := hide (only_trans HG4.out hg5)
      have HT5 := hide (HT4.out.far hg5 (by omega))
      have HZ5 := hide (HZ4.out.grown hg5 (fun e => by injection e with e; omega))
      have HOK5 := hide hok5
      have x1f := HT5.out.box.frozen 1
      have HB1 := hide (HT5.out.box.set 1 (.int .i64 (m : Int)))
      have m1 := HB1.out.cell 1
      have m1f := HB1.out.frozen 1
      have m1l := HB1.out.lt
      have HBX := hide (HB1.out.set 1 (.int .i64 n))
      have hBX : Below w2.heap.size w5 ((w5.setCell ⟨w2.heap.size, 1, none⟩ (.int .i64 (m : Int))).setCell ⟨w2.heap.size, 1, none⟩ (.int .i64 n)) := ((Below.refl _ _).setCell (p := ⟨w2.heap.size, 1, none⟩) (Nat.le_refl _) _).setCell (p := ⟨w2.heap.size, 1, none⟩) (Nat.le_refl _) _
      have HRx := hide (HR5.out.low hBX (by omega))
      have HGx := hide (only_low HG5.out hBX (by omega))
      have HZx := hide (HZ5.out.below hBX hbw)
      have HZq := HZx
      have z0 := HZq.out.cell 0
      have y0 := HZq.out.frozen 0
      have z1 := HZq.out.cell 1
      have y1 := HZq.out.frozen 1
      have z2 := HZq.out.cell 2
      have y2 := HZq.out.frozen 2
      have z3 := HZq.out.cell 3
      have y3 := HZq.out.frozen 3
      have z4 := HZq.out.cell 4
      have y4 := HZq.out.frozen 4
      have lz := HZq.out.lt
      have q0 := HBX.out.cell 0
      have q1 := HBX.out.cell 1
      have q2 := HBX.out.cell 2
      have q3 := HBX.out.cell 3
      have q4 := HBX.out.cell 4
      have p0 := HT5.out.box.cell 0
      have p1 := HT5.out.box.cell 1
      have p2 := HT5.out.box.cell 2
      have p3 := HT5.out.box.cell 3
      have p4 := HT5.out.box.cell 4
      have lq := HBX.out.lt
      have lq5 := HT5.out.box.lt
      clear h5 hg5 hok5 t0  lt4
      have hn2 : -(m : Int) = n := hn
      clear hn
      go_wp2
      refine bodyPost_ret (ret_row rfl _ _ w.heap.size 26 [.int .i64 1, .int .i64 n, .string .empty, .slice none 0 0, .slice none 0 0] (HZq.out.setAll [.int .i64 1, .int .i64 n, .string .empty, .slice none 0 0, .slice none 0 0] rfl) _ rfl Tryz.underlying26 rfl (by kernel_rfl)) rfl ?_
      exact ⟨.mk 1 n .empty [] [], _, [], l5, b5, rfl, leaf_ow _ (wfi (by omega) (by omega)) (wfi (by omega) (by omega)) empty_le, New.nil _ _, HRx.out.low (fin_low HGx.out [.int .i64 1, .int .i64 n, .string .empty, .slice none 0 0, .slice none 0 0]) hgw, fin_grown HGx.out [.int .i64 1, .int .i64 n, .string .empty, .slice none 0 0, .slice none 0 0], (by rw [HP1.out]; exact okr_map (fun q => Tree.mk 1 q .empty [] []) HOK5.out)⟩
    · rw [if_neg hs] at hn
      subst hn
      have HR5 := hide h5
      have HG5 := hide (only_trans HG4.out hg5)
      have HT5 := hide (HT4.out.far hg5 (by omega))
      have HZ5 := hide (HZ4.out.grown hg5 (fun e => by injection e with e; omega))
      have HOK5 := hide hok5
      have x1f := HT5.out.box.frozen 1
      have HBX := hide (HT5.out.box.set 1 (.int .i64 (m : Int)))
      have hBX : Below w2.heap.size w5 (w5.setCell ⟨w2.heap.size, 1, none⟩ (.int .i64 (m : Int))) := (Below.refl _ _).setCell (p := ⟨w2.heap.size, 1, none⟩) (Nat.le_refl _) _
      have HRx := hide (HR5.out.low hBX (by omega))
      have HGx := hide (only_low HG5.out hBX (by omega))
      have HZx := hide (HZ5.out.below hBX hbw)
      have HZq := HZx
      have z0 := HZq.out.cell 0
      have y0 := HZq.out.frozen 0
      have z1 := HZq.out.cell 1
      have y1 := HZq.out.frozen 1
      have z2 := HZq.out.cell 2
      have y2 := HZq.out.frozen 2
      have z3 := HZq.out.cell 3
      have y3 := HZq.out.frozen 3
      have z4 := HZq.out.cell 4
      have y4 := HZq.out.frozen 4
      have lz := HZq.out.lt
      have q0 := HBX.out.cell 0
      have q1 := HBX.out.cell 1
      have q2 := HBX.out.cell 2
      have q3 := HBX.out.cell 3
      have q4 := HBX.out.cell 4
      have p0 := HT5.out.box.cell 0
      have p1 := HT5.out.box.cell 1
      have p2 := HT5.out.box.cell 2
      have p3 := HT5.out.box.cell 3
      have p4 := HT5.out.box.cell 4
      have lq := HBX.out.lt
      have lq5 := HT5.out.box.lt
      clear h5 hg5 hok5 t0  lt4
      go_wp2
      refine bodyPost_ret (ret_row rfl _ _ w.heap.size 26 [.int .i64 1, .int .i64 (m : Int), .string .empty, .slice none 0 0, .slice none 0 0] (HZq.out.setAll [.int .i64 1, .int .i64 (m : Int), .string .empty, .slice none 0 0, .slice none 0 0] rfl) _ rfl Tryz.underlying26 rfl (by kernel_rfl)) rfl ?_
      exact ⟨.mk 1 (m : Int) .empty [] [], _, [], l5, b5, rfl, leaf_ow _ (wfi (by omega) (by omega)) (wfi (by omega) (by omega)) empty_le, New.nil _ _, HRx.out.low (fin_low HGx.out [.int .i64 1, .int .i64 (m : Int), .string .empty, .slice none 0 0, .slice none 0 0]) hgw, fin_grown HGx.out [.int .i64 1, .int .i64 (m : Int), .string .empty, .slice none 0 0, .slice none 0 0], (by rw [HP1.out]; exact okr_map (fun q => Tree.mk 1 q .empty [] []) HOK5.out)⟩
  by_cases h2 : y = 2
  · subst h2
    have HP1 := hide (show pTree true (f' + 1) l = (pShort l1).map (fun p => (.mk 2 0 p.1 [] [], p.2)) from by rw [HP.out, if_neg h1, if_pos rfl])
    clear HP
    have HNU := hide (textI_any HR4.out)
    go_wp2_with fail
    skip
    refine HNU.out.mono ?_
    rintro e w5 ⟨n, l5, b5, rfl, hn1, h5, hg5, hok5⟩
    have HR5 := hide h5
    have HG5 := hide (only_trans HG4.out hg5)
    have HT5 := hide (HT4.out.far hg5 (by omega))
    have HZ5 := hide (HZ4.out.grown hg5 (fun e => by injection e with e; omega))
    have HOK5 := hide hok5
    have x2f := HT5.out.box.frozen 2
    have HBX := hide (HT5.out.box.set 2 (.string n))
    have hBX : Below w2.heap.size w5 (w5.setCell ⟨w2.heap.size, 2, none⟩ (.string n)) := (Below.refl _ _).setCell (p := ⟨w2.heap.size, 2, none⟩) (Nat.le_refl _) _
    have HRx := hide (HR5.out.low hBX (by omega))
    have HGx := hide (only_low HG5.out hBX (by omega))
    have HZx := hide (HZ5.out.below hBX hbw)
    have HZq := HZx
    have z0 := HZq.out.cell 0
    have y0 := HZq.out.frozen 0
    have z1 := HZq.out.cell 1
    have y1 := HZq.out.frozen 1
    have z2 := HZq.out.cell 2
    have y2 := HZq.out.frozen 2
    have z3 := HZq.out.cell 3
    have y3 := HZq.out.frozen 3
    have z4 := HZq.out.cell 4
    have y4 := HZq.out.frozen 4
    have lz := HZq.out.lt
    have q0 := HBX.out.cell 0
    have q1 := HBX.out.cell 1
    have q2 := HBX.out.cell 2
    have q3 := HBX.out.cell 3
    have q4 := HBX.out.cell 4
    have p0 := HT5.out.box.cell 0
    have p1 := HT5.out.box.cell 1
    have p2 := HT5.out.box.cell 2
    have p3 := HT5.out.box.cell 3
    have p4 := HT5.out.box.cell 4
    have lq := HBX.out.lt
    have lq5 := HT5.out.box.lt
    clear h5 hg5 hok5 t0  lt4
    go_wp2
    refine bodyPost_ret (ret_row rfl _ _ w.heap.size 26 [.int .i64 2, .int .i64 0, .string n, .slice none 0 0, .slice none 0 0] (HZq.out.setAll [.int .i64 2, .int .i64 0, .string n, .slice none 0 0, .slice none 0 0] rfl) _ rfl Tryz.underlying26 rfl (by kernel_rfl)) rfl ?_
    exact ⟨.mk 2 0 n [] [], _, [], l5, b5, rfl, leaf_ow _ (wfi (by omega) (by omega)) (wfi (by omega) (by omega)) (by unfold maxLen; omega), New.nil _ _, HRx.out.low (fin_low HGx.out [.int .i64 2, .int .i64 0, .string n, .slice none 0 0, .slice none 0 0]) hgw, fin_grown HGx.out [.int .i64 2, .int .i64 0, .string n, .slice none 0 0, .slice none 0 0], (by rw [HP1.out]; exact okr_map (fun q => Tree.mk 2 0 q [] []) HOK5.out)⟩
  by_cases h3 : y = 3
  · subst h3
    have HP1 := hide (show pTree true (f' + 1) l = (pOne l1).map (fun p => (.mk 3 p.1 .empty [] [], p.2)) from by rw [HP.out, if_neg h1, if_neg h2, if_pos rfl])
    clear HP
    have HNU := hide (numI_any HR4.out)
    go_wp2_with fail
    skip
    refine HNU.out.mono ?_
    rintro e w5 ⟨n, l5, b5, rfl, hn0, hn1, h5, hg5, hok5⟩
    have HR5 := hide h5
    have HG5 := hide (only_trans HG4.out hg5)
    have HT5 := hide (HT4.out.far hg5 (by omega))
    have HZ5 := hide (HZ4.out.grown hg5 (fun e => by injection e with e; omega))
    have HOK5 := hide hok5
    have x1f := HT5.out.box.frozen 1
    have HBX := hide (HT5.out.box.set 1 (.int .i64 n))
    have hBX : Below w2.heap.size w5 (w5.setCell ⟨w2.heap.size, 1, none⟩ (.int .i64 n)) := (Below.refl _ _).setCell (p := ⟨w2.heap.size, 1, none⟩) (Nat.le_refl _) _
    have HRx := hide (HR5.out.low hBX (by omega))
    have HGx := hide (only_low HG5.out hBX (by omega))
    have HZx := hide (HZ5.out.below hBX hbw)
    have HZq := HZx
    have z0 := HZq.out.cell 0
    have y0 := HZq.out.frozen 0
    have z1 := HZq.out.cell 1
    have y1 := HZq.out.frozen 1
    have z2 := HZq.out.cell 2
    have y2 := HZq.out.frozen 2
    have z3 := HZq.out.cell 3
    have y3 := HZq.out.frozen 3
    have z4 := HZq.out.cell 4
    have y4 := HZq.out.frozen 4
    have lz := HZq.out.lt
    have q0 := HBX.out.cell 0
    have q1 := HBX.out.cell 1
    have q2 := HBX.out.cell 2
    have q3 := HBX.out.cell 3
    have q4 := HBX.out.cell 4
    have p0 := HT5.out.box.cell 0
    have p1 := HT5.out.box.cell 1
    have p2 := HT5.out.box.cell 2
    have p3 := HT5.out.box.cell 3
    have p4 := HT5.out.box.cell 4
    have lq := HBX.out.lt
    have lq5 := HT5.out.box.lt
    clear h5 hg5 hok5 t0  lt4
    go_wp2
    refine bodyPost_ret (ret_row rfl _ _ w.heap.size 26 [.int .i64 3, .int .i64 n, .string .empty, .slice none 0 0, .slice none 0 0] (HZq.out.setAll [.int .i64 3, .int .i64 n, .string .empty, .slice none 0 0, .slice none 0 0] rfl) _ rfl Tryz.underlying26 rfl (by kernel_rfl)) rfl ?_
    exact ⟨.mk 3 n .empty [] [], _, [], l5, b5, rfl, leaf_ow _ (wfi (by omega) (by omega)) (wfi (by omega) (by omega)) empty_le, New.nil _ _, HRx.out.low (fin_low HGx.out [.int .i64 3, .int .i64 n, .string .empty, .slice none 0 0, .slice none 0 0]) hgw, fin_grown HGx.out [.int .i64 3, .int .i64 n, .string .empty, .slice none 0 0, .slice none 0 0], (by rw [HP1.out]; exact okr_map (fun q => Tree.mk 3 q .empty [] []) HOK5.out)⟩
  have HP4 := hide (show pTree true (f' + 1) l = pMany (pTree true f') y l1 from by rw [HP.out, if_neg h1, if_neg h2, if_neg h3])
  clear HP
  have hi1 : ((y : Int) == 1) = false := by simp; omega
  have hi2 : ((y : Int) == 2) = false := by simp; omega
  have hi3 : ((y : Int) == 3) = false := by simp; omega
  have hyw : (Lit.int .i64 (y : Int)).wf = true := wfi (by omega) (by omega)
  have HNU := hide (numI_any HR4.out)
  clear h1 h2 h3
  go_wp2_with fail
  skip
  refine HNU.out.mono ?_
  rintro e w5 ⟨m, l5, b5, rfl, hm0, hm1, h5, hg5, hok5⟩
  obtain ⟨m, rfl⟩ : ∃ m' : Nat, m = (m' : Int) := ⟨m.toNat, by omega⟩
  have HK0 := hide (KidsAt.start (rd := pTree true f') (y := y) hok5)
  have HR5 := hide h5
  have HG5 := hide (only_trans HG4.out hg5)
  have HT5 := hide (HT4.out.far hg5 (by omega))
  have HZ5 := hide (HZ4.out.grown hg5 (fun e => by injection e with e; omega))
  obtain ⟨dd, hdd⟩ : ∃ dd : Nat, deep + 1 = dd := ⟨_, rfl⟩
  have hwd : IntKind.i64.wrap ((deep : Int) + 1) = (dd : Int) := by rw [wrapI _ (by omega) (by omega)]; omega
  have HIC := hide (fun (l : List UInt8) (bad : Bool) (W : World) (h : RdI W g L l bad) => HI.out L l bad g dd W (by omega) (by omega) h)
  clear h5 hg5 hok5 HNU lg3 t0  hbc4 hbf4 lg4 lt4 hdd
  go_wp2
  go_loopw [56] (fun iv wr => ∃ (n : Nat) (ns : List ByteArray) (ks : List Tree) (lx : List UInt8) (bx : Bool) (B1 : Option Addr) (n1 d1 : Nat) (us1 : List Value) (B2 : Option Addr) (n2 d2 : Nat) (us2 : List Value) (fi2 : List Nat), (∃ i : Nat, i + n = m ∧ iv = .int .i64 (i : Int)) ∧ TreeAt wr w2.heap.size (y : Int) (.slice B1 n1 d1) ns us1 (.slice B2 n2 d2) ks us2 fi2 ∧ RdI wr g L lx bx ∧ ns.length + n ≤ 255 ∧ ks.length + n ≤ 255 ∧ KidsAt (pTree true f') y l1 bx n ns ks lx ∧ w.grownBy wr (some g) ∧ Row wr w.heap.size 26 [.int .i64 0, .int .i64 0, .string .empty, .slice none 0 0, .slice none 0 0]) (fun iv _ => m - (intOf iv).toNat)
  case atStart => exact ⟨m, [], [], l5, b5, none, 0, 0, [], none, 0, 0, [], [], ⟨0, by omega, rfl⟩, HT5.out, HR5.out, by simp; omega, by simp; omega, HK0.out, HG5.out, HZ5.out⟩
  case round =>
    obtain ⟨n, ns, ks, lx, bx, B1, n1, d1, us1, B2, n2, d2, us2, fi2, ⟨i, hin, rfl⟩, hT, hR, hln, hlk, hK, hG, hZ⟩ := hrel
    have HTr := hide hT
    have HRr := hide hR
    have HK := hide hK
    have HG := hide hG
    have HZ := hide hZ
    have q0 : wr.cell? ⟨w2.heap.size, 0, none⟩ = some (.int .i64 (y : Int)) := hT.box.cell 0
    have lq := hT.box.lt
    obtain ⟨hbc, hbf⟩ := hR.bad
    have lgr := hR.lt
    clear hT hR hK hG hZ HR5 HG5 HT5 HZ5 HK0
    rcases n with _ | n
    · have hzz : bx = false → 0 = 0 := fun _ => rfl
      have hii : ¬ ((i : Int) < (m : Int)) := by omega
      have HZq := HZ
      have z0 := HZq.out.cell 0
      have y0 := HZq.out.frozen 0
      have z1 := HZq.out.cell 1
      have y1 := HZq.out.frozen 1
      have z2 := HZq.out.cell 2
      have y2 := HZq.out.frozen 2
      have z3 := HZq.out.cell 3
      have y3 := HZq.out.frozen 3
      have z4 := HZq.out.cell 4
      have y4 := HZq.out.frozen 4
      have lz := HZq.out.lt
      have q1 := HTr.out.box.cell 1
      have q2 := HTr.out.box.cell 2
      have q3 := HTr.out.box.cell 3
      have q4 := HTr.out.box.cell 4
      go_wp2
      obtain ⟨fq, ho, hnw⟩ := kids_fin HTr.out hyw HG.out hbw (treeMk (y : Int) (.slice B1 n1 d1) (.slice B2 n2 d2))
      refine bodyPost_ret (ret_row rfl _ _ w.heap.size 26 (treeMk (y : Int) (.slice B1 n1 d1) (.slice B2 n2 d2)) (HZq.out.setAll (treeMk (y : Int) (.slice B1 n1 d1) (.slice B2 n2 d2)) rfl) _ rfl Tryz.underlying26 rfl (by kernel_rfl)) rfl ?_
      exact ⟨.mk (y : Int) 0 .empty ns ks, _, fq, lx, _, rfl, ho, hnw, HRr.out.low (fin_low HG.out (treeMk (y : Int) (.slice B1 n1 d1) (.slice B2 n2 d2))) hgw, fin_grown HG.out (treeMk (y : Int) (.slice B1 n1 d1) (.slice B2 n2 d2)), by rw [HP4.out]; exact HK.out.done (fun _ => rfl)⟩
    have hn0 : (0 : Int) < ((n + 1 : Nat) : Int) := by omega
    rcases bx with _ | _
    rotate_left
    all_goals have hii : (i : Int) < (m : Int) := by omega
    · skip
      have HZq := HZ
      have z0 := HZq.out.cell 0
      have y0 := HZq.out.frozen 0
      have z1 := HZq.out.cell 1
      have y1 := HZq.out.frozen 1
      have z2 := HZq.out.cell 2
      have y2 := HZq.out.frozen 2
      have z3 := HZq.out.cell 3
      have y3 := HZq.out.frozen 3
      have z4 := HZq.out.cell 4
      have y4 := HZq.out.frozen 4
      have lz := HZq.out.lt
      have q1 := HTr.out.box.cell 1
      have q2 := HTr.out.box.cell 2
      have q3 := HTr.out.box.cell 3
      have q4 := HTr.out.box.cell 4
      go_wp2
      obtain ⟨fq, ho, hnw⟩ := kids_fin HTr.out hyw HG.out hbw (treeMk (y : Int) (.slice B1 n1 d1) (.slice B2 n2 d2))
      refine bodyPost_ret (ret_row rfl _ _ w.heap.size 26 (treeMk (y : Int) (.slice B1 n1 d1) (.slice B2 n2 d2)) (HZq.out.setAll (treeMk (y : Int) (.slice B1 n1 d1) (.slice B2 n2 d2)) rfl) _ rfl Tryz.underlying26 rfl (by kernel_rfl)) rfl ?_
      exact ⟨.mk (y : Int) 0 .empty ns ks, _, fq, lx, _, rfl, ho, hnw, HRr.out.low (fin_low HG.out (treeMk (y : Int) (.slice B1 n1 d1) (.slice B2 n2 d2))) hgw, fin_grown HG.out (treeMk (y : Int) (.slice B1 n1 d1) (.slice B2 n2 d2)), by rw [HP4.out]; exact HK.out.done (fun h => by cases h)⟩
    by_cases hy5 : y = 5
    · have HY := hide hy5
      have hi5 : ((y : Int) == 5) = true := by simp; omega
      clear hy5
      have t3 : wr.cell? ⟨w2.heap.size, 3, none⟩ = some (.slice B1 n1 d1) := HTr.out.box.cell 3
      have hszA : w2.heap.size + 1 ≤ wr.heap.size := HTr.out.box.lt
      go_upto_region 22 with fail
      go_cut [] from 57 to 81 (fun wx => ∃ (s : ByteArray) (l3 : List UInt8) (b3 : Bool) (C1 : Option Addr) (m1 c1 : Nat) (us1' : List Value), TreeAt wx w2.heap.size (y : Int) (.slice C1 m1 c1) (ns ++ [s]) us1' (.slice B2 n2 d2) ks us2 fi2 ∧ RdI wx g L l3 b3 ∧ Okr false b3 (pShort lx) s l3 ∧ w.grownBy wx (some g) ∧ Row wx w.heap.size 26 [.int .i64 0, .int .i64 0, .string .empty, .slice none 0 0, .slice none 0 0])
      case first =>
        go_region_law (first | (refine step_app (by rfl) _ _ 23 (by rfl) ia _ 16 Tryz.underlying23 HIa.out ha0 ha1 ha2 rfl (by decide) strC_len (by rfl) HT7.out.one [s] (HDS.out _) (by exact New.nil _ _) (fun g _ hg => by cases hg) _ 1 1 (by rfl) rfl (SrcAt.new w6 _ _ _ _) (by omega) (by decide) (by rw [World.size_alloc]; omega) ?_; intro A' n' c' w8 hn8 hown8 hgb8; have HG8 := hide hgb8; have HN8 := hide hown8; have r8 := HT7.out.row1 hgb8; have q8 : w8.cell? ⟨w2.heap.size, 3, none⟩ = some (.slice B1 n1 d1) := r8.cell 3; have f8 : w8.frozen? ⟨w2.heap.size, 3, none⟩ = false := r8.frozen 3; clear hown8 hgb8 r8 hn8) | (go_simp; go_at_call 84; refine (HSH.out lx false _ (HRr.out.drewN 1)).mono ?_; rintro e w6 ⟨s, l6, b6, rfl, hs6, hr6, hg6, hok6⟩; have HR6 := hide hr6; have HG6 := hide (only_trans (only_drewN HG.out 1) hg6); have HOK6 := hide hok6; have HZ6 := hide ((HZ.out.drewN 1).grown hg6 (fun e => by injection e with e; omega)); have hz6 : wr.heap.size ≤ w6.heap.size := hg6.size; have HT6 := hide ((HTr.out.drewN 1).far hg6 (by omega)); have t3c : w6.cell? ⟨w2.heap.size, 3, none⟩ = some (.slice B1 n1 d1) := HT6.out.box.cell 3; have lt6 := HT6.out.box.lt; have HT7 := hide (HT6.out.alloc (.cells #[.string s] 9)); have HDS := hide (fun W => show OwC W ([s].flatMap strC) [.string s] [] from ⟨[], [], ⟨rfl, show s.size ≤ maxLen by (unfold maxLen; omega), rfl⟩, rfl, rfl⟩); clear hr6 hg6 hok6))
        all_goals
          have hfr : ∀ u, Below w.heap.size w6 (w8.setCell ⟨w2.heap.size, 3, none⟩ u) := fun u => ((Below.refl w.heap.size w6).alloc (by omega) _).trans (HT7.out.frame1 HG8.out (by rw [World.size_alloc]; omega) 3 u (by omega))
          go_wp2_with fail
          go_meet
          exact ⟨s, l6, b6, A', n', c', us1 ++ [.string s], HT7.out.put1 HG8.out HN8.out 3 rfl (fun g hg => by cases hg), HR6.out.low (hfr _) hgw, HOK6.out, only_low HG6.out (hfr _) (Nat.le_refl _), Row.far (p := ⟨w2.heap.size, 3, none⟩) (HG8.out.row (HZ6.out.alloc _) (HT7.out.one.low (by omega))) (Nat.ne_of_lt hbw) _⟩
      case rest =>
        clear q0 lq hbc hbf lgr t3 hszA
        obtain ⟨s, l3, b3, C1, m1, c1, us1', hT, hR, hok, hG, hZ⟩ := hcut
        have HTc := hide hT
        have HRc := hide hR
        have HOKc := hide hok
        have HGc := hide hG
        have HZc := hide hZ
        have lq := hT.box.lt
        have lgr := hR.lt
        clear hT hR hok hG hZ
        have hszA : w2.heap.size + 1 ≤ wc.heap.size := HTc.out.box.lt
        have t4 : wc.cell? ⟨w2.heap.size, 4, none⟩ = some (.slice B2 n2 d2) := HTc.out.box.cell 4
        go_wp2
        go_region_law (first | (refine step_app (by rfl) _ _ 24 (by rfl) ib _ 80 Tryz.underlying24 HIb.out hb0 hb1 hb2 rfl (by decide) Tree.cells_len (by rfl) HT7.out.two [t] (by rw [List.flatMap_singleton]; exact HO7.out) (New.app HT7.out.two.new (HN7.out.mono (Nat.le_refl _)) (fun g hg => HTc.out.two.new.lt g hg) (by exact hszA)) (fun g e hm => by have k1 := HTc.out.two.lt g e; have k2 := (HN6.out.fr g hm).1; exact absurd k1 (Nat.not_lt.2 k2)) _ 1 1 (by rfl) rfl (SrcAt.new w6 _ _ _ _) (by omega) (by decide) (by rw [World.size_alloc]; omega) ?_; intro A' n' c' w8 hn8 hown8 hgb8; have HG8 := hide hgb8; have HN8 := hide hown8; have r8 := HT7.out.row2 hgb8; have q8 : w8.cell? ⟨w2.heap.size, 4, none⟩ = some (.slice B2 n2 d2) := r8.cell 4; have f8 : w8.frozen? ⟨w2.heap.size, 4, none⟩ = false := r8.frozen 4; have HNN8 := hide hn8; clear hown8 hgb8 r8 hn8) | (go_simp; go_at_call 86; refine (HIC.out l3 b3 _ (HRc.out.drewN 1)).mono ?_; rintro e w6 ⟨t, us6, fq6, l6, b6, rfl, ho6, hn6, hr6, hg6, hok6⟩; have HO6 := hide ho6; have HN6 := hide hn6; have HR6 := hide hr6; have HG6 := hide (only_trans (only_drewN HGc.out 1) hg6); have HOK6 := hide hok6; have HZ6 := hide ((HZc.out.drewN 1).grown hg6 (fun e => by injection e with e; omega)); have hs6 : wc.heap.size ≤ w6.heap.size := hg6.size; obtain ⟨E1, e1, E2, e2, g1, g2, rfl, x0, x1, x2, x3, x4, efq⟩ := ho6.oTree; have HT6 := hide ((HTc.out.drewN 1).far hg6 (by omega)); have t4c : w6.cell? ⟨w2.heap.size, 4, none⟩ = some (.slice B2 n2 d2) := HT6.out.box.cell 4; have lt6 := HT6.out.box.lt; have HT7 := hide (HT6.out.alloc (.cells #[.int .i64 t.sort, .int .i64 t.num, .string t.text, .slice E1 t.names.length e1, .slice E2 t.kids.length e2] 26)); have HO7 := hide (HO6.out.alloc HN6.out.lt (.cells #[.int .i64 t.sort, .int .i64 t.num, .string t.text, .slice E1 t.names.length e1, .slice E2 t.kids.length e2] 26)); have HN7 := hide (HN6.out.alloc (.cells #[.int .i64 t.sort, .int .i64 t.num, .string t.text, .slice E1 t.names.length e1, .slice E2 t.kids.length e2] 26)); clear ho6 hn6 hr6 hg6 hok6 x3 x4 efq))
        all_goals
          have hfr : ∀ u, Below w.heap.size w6 (w8.setCell ⟨w2.heap.size, 4, none⟩ u) := fun u => ((Below.refl w.heap.size w6).alloc (by omega) _).trans (HT7.out.frame2 HG8.out (by rw [World.size_alloc]; omega) 4 u (by omega))
          have HF := hide (fun W (hW : W = w8.setCell ⟨w2.heap.size, 4, none⟩ (.slice A' n' c')) => show TreeAt W w2.heap.size (y : Int) (.slice C1 m1 c1) (ns ++ [s]) us1' (.slice A' n' c') (ks ++ [t]) (us2 ++ [.int .i64 t.sort, .int .i64 t.num, .string t.text, .slice E1 t.names.length e1, .slice E2 t.kids.length e2]) (fi2 ++ fq6) ∧ RdI W g L l6 b6 ∧ w.grownBy W (some g) ∧ Row W w.heap.size 26 [.int .i64 0, .int .i64 0, .string .empty, .slice none 0 0, .slice none 0 0] from by
            subst hW
            refine ⟨HT7.out.put2 HG8.out HN8.out 4 rfl (fun g hg => ?_), HR6.out.low (hfr _) hgw, only_low HG6.out (hfr _) (Nat.le_refl _), ?_⟩
            · rcases List.mem_append.1 hg with hg | hg
              · exact .inl hg
              · exact .inr ⟨fun e => absurd (HTc.out.one.lt g e) (Nat.not_lt.2 (HN6.out.fr g hg).1), fun h => by cases h⟩
            · exact Row.far (p := ⟨w2.heap.size, 4, none⟩) (HG8.out.row (HZ6.out.alloc _) (HT7.out.two.low (by omega))) (Nat.ne_of_lt hbw) _)
          have hKn := hide (HK.out.form HY.out HOKc.out HOK6.out)
          clear hfr
          go_wp2
          go_roundw
          case rel => exact ⟨n, _, _, _, _, _, _, _, _, A', n', c', _, _, ⟨i + 1, by omega, by go_num⟩, (HF.out _ rfl).1, (HF.out _ rfl).2.1, by (try simp only [List.length_append, List.length_cons, List.length_nil]); omega, by (try simp only [List.length_append, List.length_cons, List.length_nil]); omega, hKn.out, (HF.out _ rfl).2.2⟩
          case measure => simp [intOf] <;> omega
    · have hi5 : ((y : Int) == 5) = false := by simp; omega
      have hszA : w2.heap.size + 1 ≤ wr.heap.size := HTr.out.box.lt
      have t4 : wr.cell? ⟨w2.heap.size, 4, none⟩ = some (.slice B2 n2 d2) := HTr.out.box.cell 4
      go_wp2
      go_region_law (first | (refine step_app (by rfl) _ _ 24 (by rfl) ib _ 80 Tryz.underlying24 HIb.out hb0 hb1 hb2 rfl (by decide) Tree.cells_len (by rfl) HT7.out.two [t] (by rw [List.flatMap_singleton]; exact HO7.out) (New.app HT7.out.two.new (HN7.out.mono (Nat.le_refl _)) (fun g hg => HTr.out.two.new.lt g hg) (by exact hszA)) (fun g e hm => by have k1 := HTr.out.two.lt g e; have k2 := (HN6.out.fr g hm).1; exact absurd k1 (Nat.not_lt.2 k2)) _ 1 1 (by rfl) rfl (SrcAt.new w6 _ _ _ _) (by omega) (by decide) (by rw [World.size_alloc]; omega) ?_; intro A' n' c' w8 hn8 hown8 hgb8; have HG8 := hide hgb8; have HN8 := hide hown8; have r8 := HT7.out.row2 hgb8; have q8 : w8.cell? ⟨w2.heap.size, 4, none⟩ = some (.slice B2 n2 d2) := r8.cell 4; have f8 : w8.frozen? ⟨w2.heap.size, 4, none⟩ = false := r8.frozen 4; have HNN8 := hide hn8; clear hown8 hgb8 r8 hn8) | (go_simp; go_at_call 86; refine (HIC.out lx false _ (HRr.out.drewN 1)).mono ?_; rintro e w6 ⟨t, us6, fq6, l6, b6, rfl, ho6, hn6, hr6, hg6, hok6⟩; have HO6 := hide ho6; have HN6 := hide hn6; have HR6 := hide hr6; have HG6 := hide (only_trans (only_drewN HG.out 1) hg6); have HOK6 := hide hok6; have HZ6 := hide ((HZ.out.drewN 1).grown hg6 (fun e => by injection e with e; omega)); have hs6 : wr.heap.size ≤ w6.heap.size := hg6.size; obtain ⟨E1, e1, E2, e2, g1, g2, rfl, x0, x1, x2, x3, x4, efq⟩ := ho6.oTree; have HT6 := hide ((HTr.out.drewN 1).far hg6 (by omega)); have t4c : w6.cell? ⟨w2.heap.size, 4, none⟩ = some (.slice B2 n2 d2) := HT6.out.box.cell 4; have lt6 := HT6.out.box.lt; have HT7 := hide (HT6.out.alloc (.cells #[.int .i64 t.sort, .int .i64 t.num, .string t.text, .slice E1 t.names.length e1, .slice E2 t.kids.length e2] 26)); have HO7 := hide (HO6.out.alloc HN6.out.lt (.cells #[.int .i64 t.sort, .int .i64 t.num, .string t.text, .slice E1 t.names.length e1, .slice E2 t.kids.length e2] 26)); have HN7 := hide (HN6.out.alloc (.cells #[.int .i64 t.sort, .int .i64 t.num, .string t.text, .slice E1 t.names.length e1, .slice E2 t.kids.length e2] 26)); clear ho6 hn6 hr6 hg6 hok6 x3 x4 efq))
      all_goals
        have hfr : ∀ u, Below w.heap.size w6 (w8.setCell ⟨w2.heap.size, 4, none⟩ u) := fun u => ((Below.refl w.heap.size w6).alloc (by omega) _).trans (HT7.out.frame2 HG8.out (by rw [World.size_alloc]; omega) 4 u (by omega))
        have HF := hide (fun W (hW : W = w8.setCell ⟨w2.heap.size, 4, none⟩ (.slice A' n' c')) => show TreeAt W w2.heap.size (y : Int) (.slice B1 n1 d1) ns us1 (.slice A' n' c') (ks ++ [t]) (us2 ++ [.int .i64 t.sort, .int .i64 t.num, .string t.text, .slice E1 t.names.length e1, .slice E2 t.kids.length e2]) (fi2 ++ fq6) ∧ RdI W g L l6 b6 ∧ w.grownBy W (some g) ∧ Row W w.heap.size 26 [.int .i64 0, .int .i64 0, .string .empty, .slice none 0 0, .slice none 0 0] from by
          subst hW
          refine ⟨HT7.out.put2 HG8.out HN8.out 4 rfl (fun g hg => ?_), HR6.out.low (hfr _) hgw, only_low HG6.out (hfr _) (Nat.le_refl _), ?_⟩
          · rcases List.mem_append.1 hg with hg | hg
            · exact .inl hg
            · exact .inr ⟨fun e => absurd (HTr.out.one.lt g e) (Nat.not_lt.2 (HN6.out.fr g hg).1), fun h => by cases h⟩
          · exact Row.far (p := ⟨w2.heap.size, 4, none⟩) (HG8.out.row (HZ6.out.alloc _) (HT7.out.two.low (by omega))) (Nat.ne_of_lt hbw) _)
        have hKn := hide (HK.out.bare hy5 HOK6.out)
        clear hfr
        go_wp2
        go_roundw
        case rel => exact ⟨n, _, _, _, _, _, _, _, _, A', n', c', _, _, ⟨i + 1, by omega, by go_num⟩, (HF.out _ rfl).1, (HF.out _ rfl).2.1, by (try simp only [List.length_append, List.length_cons, List.length_nil]); omega, by (try simp only [List.length_append, List.length_cons, List.length_nil]); omega, hKn.out, (HF.out _ rfl).2.2⟩
        case measure => simp [intOf] <;> omega
theorem treeRdBI_any : ∀ f, TreeRdBI f
  | 0 => treeRdBI_of 0 (fun f' e => by cases e)
  | f + 1 => treeRdBI_of (f + 1) (fun f' e => by injection e with e; subst e; exact treeRdBI_any f)
end Go.Proofs.YtnaecdoeldoipaaGreatDoor
set_option linter.unusedVariables false
set_option linter.unusedSimpArgs false
namespace Go.Proofs.YtnaecdoeldoipaaGreatDoor
open Go.ChangeShapes Go.WideShapes Go.ChangeAt Go.RowKit

theorem Row.atU (w : World) (e : TypeId) (cs : List Value) (g : Nat) (h : w.heap.size = g) : Row (w.alloc (.cells cs.toArray e)) g e cs := h ▸ Row.new w e cs
theorem okr_event {strict b1 b2 b3 : Bool} {l l1 l2 l3 : List UInt8} {s : ByteArray} {v : Int} {t : Tree} (h1 : Okr false b1 (pShort l) s l1) (h2 : Okr b1 b2 (pOne l1) v l2) (h3 : Okr b2 b3 (pTree strict 6 l2) t l3) :
    Okr false b3 (pEvent strict l) ⟨s, v, t⟩ l3 := by
  have n1 : b1 = true → pEvent strict l = none := fun hb => by
    rcases h1.2 hb with h | h
    · cases h
    · simp only [pEvent, h]
  have n2 : b2 = true → pEvent strict l = none := fun hb => by
    cases hb1 : b1
    · rcases h2.2 hb with h | h
      · rw [hb1] at h; cases h
      · simp only [pEvent, (h1.1 hb1).2, h]
    · exact n1 hb1
  have n3 : b3 = true → pEvent strict l = none := fun hb => by
    cases hb2 : b2
    · have e2 := h2.1 hb2
      have e1 := h1.1 e2.1
      rcases h3.2 hb with h | h
      · rw [hb2] at h; cases h
      · simp only [pEvent, e1.2, e2.2, h, Option.map_none]
    · exact n2 hb2
  refine ⟨fun hb => ⟨rfl, ?_⟩, fun hb => .inr (n3 hb)⟩
  have e3 := h3.1 hb
  have e2 := h2.1 e3.1
  have e1 := h1.1 e2.1
  simp only [pEvent, e1.2, e2.2, e3.2, Option.map_some]
theorem unpack_gone {strict b3 : Bool} {l l3 : List UInt8} {x : Event} (h : Okr false b3 (pEvent strict l) x l3) (hb : b3 = true ∨ l3 ≠ []) : unpackE l = Event.none_ ∧ unpackB l = false := by
  refine unpack_bad (strict := strict) (fun y e => ?_)
  cases b3
  · have := (h.1 rfl).2
    rw [e] at this
    simp only [Option.some.injEq, Prod.mk.injEq] at this
    rcases hb with hb | hb
    · cases hb
    · exact hb this.2.symm
  · rcases h.2 rfl with h | h
    · cases h
    · rw [h] at e; cases e
theorem unpack_left {strict : Bool} {l : List UInt8} {x : Event} (h : Okr false false (pEvent strict l) x []) (hn : ¬ (x.ok ∧ x.bytes = l)) : unpackE l = Event.none_ ∧ unpackB l = false :=
  unpack_other (h.1 rfl).2 (fun hf => hn ⟨hf.1, hf.2.1⟩)
theorem unpack_back {l : List UInt8} {x : Event} (hl : l.length ≤ 9000) (h1 : x.ok) (h2 : x.bytes = l) : unpackE l = x ∧ unpackB l = true := unpack_yes ⟨h1, h2, hl⟩
theorem unpack_long {l : List UInt8} (hl : 9000 < l.length) : unpackE l = Event.none_ ∧ unpackB l = false := unpack_no (fun x hx => by have := hx.2.2; omega)
theorem okr_bulk {strict : Bool} {l : List UInt8} {x : Event} (h : Okr false false (pEvent strict l) x []) : x.bulk ≤ l.length := pEvent_bulk (h.1 rfl).2
theorem none_ow (W : World) : OwC W Event.none_.cells [.string .empty, .int .i64 0, .int .i64 0, .int .i64 0, .string .empty, .slice none 0 0, .slice none 0 0] [] := by
  exact OwC.mEvent (x := Event.none_) (v1 := .slice none 0 0) (v2 := .slice none 0 0) (f1 := []) (f2 := []) empty_le wfz wfz wfz empty_le (Ow.nil_ W 1 strC) (Ow.nil_ W 5 Tree.cells)
/-- what the result's block and the event's block are, behind the readers -/
structure UnpAt (w W : World) (b1 : Nat) (x : Event) (us : List Value) (fq : List Nat) : Prop where
  zero : Row W w.heap.size 46 [.string .empty, .int .i64 0, .int .i64 0, .int .i64 0, .string .empty, .slice none 0 0, .slice none 0 0]
  box : Row W b1 46 us
  ow : OwC W x.cells us fq
  new : New W fq (w.heap.size + 1)
  below : Below w.heap.size w W
theorem UnpAt.step {w W W' : World} {b1 : Nat} {x : Event} {us : List Value} {fq : List Nat} (h : UnpAt w W b1 x us fq) (hb : Below W.heap.size W W') : UnpAt w W' b1 x us fq :=
  ⟨h.zero.below hb h.zero.lt, h.box.below hb h.box.lt, h.ow.below hb h.new.lt, h.new.below hb h.new.lt, h.below.trans (hb.mono h.below.size)⟩
/-- the result's block is filled -/
theorem UnpAt.fin {w W : World} {b1 : Nat} {x : Event} {us : List Value} {fq : List Nat} (h : UnpAt w W b1 x us fq) (vs : List Value) :
    OwC (putN W w.heap.size 0 vs) x.cells us fq ∧ New (putN W w.heap.size 0 vs) fq w.heap.size ∧ Below w.heap.size w (putN W w.heap.size 0 vs) := by
  have hgr := setN_grown vs 0 (grown_refl W (some w.heap.size))
  have hno : w.heap.size ∉ fq := h.new.out (Nat.lt_succ_self _)
  exact ⟨h.ow.grown hgr h.new.lt hno, (h.new.grown hgr (fun b e => by injection e with e; subst e; exact hno)).mono (by omega), h.below.trans (below_of_grown hgr (Nat.le_refl _) h.below.size)⟩
theorem unp_none {w W : World} (h : Below w.heap.size w W) (vs : List Value) :
    OwC (putN W w.heap.size 0 vs) Event.none_.cells [.string .empty, .int .i64 0, .int .i64 0, .int .i64 0, .string .empty, .slice none 0 0, .slice none 0 0] [] ∧ New (putN W w.heap.size 0 vs) [] w.heap.size ∧ Below w.heap.size w (putN W w.heap.size 0 vs) :=
  ⟨none_ow _, New.nil _ _, h.trans (below_of_grown (setN_grown vs 0 (grown_refl W (some w.heap.size))) (Nat.le_refl _) h.size)⟩
def UnpOut (l : List UInt8) (w : World) (e : Ending) (w' : World) : Prop :=
  ∃ us fq, e = .returned (.tuple #[.agg us.toArray, .bool (unpackB l)]) ∧ OwC w' (unpackE l).cells us fq ∧ New w' fq w.heap.size ∧ Below w.heap.size w w'
/-- the event's own cells -/
theorem UnpAt.make {w W : World} {b1 : Nat} {s : ByteArray} {v : Int} {t : Tree} {u0 u1 u2 u3 u4 : Value} {fq : List Nat} (ho : OwC W t.cells [u0, u1, u2, u3, u4] fq) (hn : New W fq (b1 + 1)) (hw : w.heap.size < b1) (hs : s.size ≤ maxLen) (hv : (Lit.int .i64 v).wf = true)
    (hz : Row W w.heap.size 46 [.string .empty, .int .i64 0, .int .i64 0, .int .i64 0, .string .empty, .slice none 0 0, .slice none 0 0])
    (hB : Row W b1 46 [.string s, .int .i64 v, .int .i64 0, .int .i64 0, .string .empty, .slice none 0 0, .slice none 0 0]) (hb : Below w.heap.size w W) :
    UnpAt w (putN W b1 2 [u0, u1, u2, u3, u4]) b1 ⟨s, v, t⟩ [.string s, .int .i64 v, u0, u1, u2, u3, u4] fq := by
  obtain ⟨A1, c1, A2, c2, f1, f2, e, w0, w1, w2, o1, o2, rfl⟩ := ho.oTree
  simp only [List.cons.injEq, and_true] at e
  obtain ⟨rfl, rfl, rfl, rfl, rfl⟩ := e
  have hx : OwC W (Event.mk s v t).cells [.string s, .int .i64 v, .int .i64 t.sort, .int .i64 t.num, .string t.text, .slice A1 t.names.length c1, .slice A2 t.kids.length c2] (f1 ++ f2) :=
    OwC.mEvent (x := ⟨s, v, t⟩) hs hv w0 w1 w2 o1 o2
  have hgr := setN_grown [.int .i64 t.sort, .int .i64 t.num, .string t.text, .slice A1 t.names.length c1, .slice A2 t.kids.length c2] 2 (grown_refl W (some b1))
  have hno : b1 ∉ f1 ++ f2 := hn.out (Nat.lt_succ_self _)
  have hbb := hB.lt
  exact ⟨hz.grown hgr (fun e => by injection e with e; omega), Row.setN [.int .i64 t.sort, .int .i64 t.num, .string t.text, .slice A1 t.names.length c1, .slice A2 t.kids.length c2] [.string s, .int .i64 v] [.int .i64 0, .int .i64 0, .string .empty, .slice none 0 0, .slice none 0 0] rfl hB,
    hx.grown hgr hn.lt hno, (hn.grown hgr (fun b e => by injection e with e; subst e; exact hno)).mono (by omega), hb.trans (below_of_grown hgr (Nat.le_of_lt hw) (Nat.le_of_lt (Nat.lt_trans hw hbb)))⟩
theorem UnpAt.made {w W : World} {s : ByteArray} {v : Int} {t : Tree} {us : List Value} {fq : List Nat} (ho : OwC W t.cells us fq) (hn : New W fq (w.heap.size + 1)) (hs : s.size ≤ maxLen) (hv : (Lit.int .i64 v).wf = true)
    (hz : Row W w.heap.size 46 [.string .empty, .int .i64 0, .int .i64 0, .int .i64 0, .string .empty, .slice none 0 0, .slice none 0 0]) (hb : Below w.heap.size w W) :
    UnpAt w (W.alloc (.cells (.string s :: .int .i64 v :: us).toArray 46)) W.heap.size ⟨s, v, t⟩ (.string s :: .int .i64 v :: us) fq := by
  obtain ⟨A1, c1, A2, c2, f1, f2, rfl, w0, w1, w2, o1, o2, rfl⟩ := ho.oTree
  have hx : OwC W (Event.mk s v t).cells [.string s, .int .i64 v, .int .i64 t.sort, .int .i64 t.num, .string t.text, .slice A1 t.names.length c1, .slice A2 t.kids.length c2] (f1 ++ f2) :=
    OwC.mEvent (x := ⟨s, v, t⟩) hs hv w0 w1 w2 o1 o2
  exact ⟨hz.alloc _, Row.new W _ _, hx.alloc hn.lt _, hn.alloc _, hb.alloc hb.size _⟩
theorem event_ne {strict b3 : Bool} {l l3 : List UInt8} {x : Event} (h : Okr false b3 (pEvent strict l) x l3) (hb : b3 = false) : l.length ≠ 0 := fun e => by
  obtain rfl := List.eq_nil_of_length_eq_zero e
  have := (h.1 hb).2
  simp [pEvent, pShort] at this
theorem packed_ok {x : Event} {l : List UInt8} (h : x.packed = l) (hl : l.length ≠ 0) : x.ok := by
  refine Classical.byContradiction fun hn => ?_
  rw [Event.packed_no hn] at h
  subst h
  exact hl rfl
end Go.Proofs.YtnaecdoeldoipaaGreatDoor
set_option linter.unusedVariables false
set_option linter.unusedSimpArgs false
namespace Go.Proofs.YtnaecdoeldoipaaGreatDoor
open Go.ChangeShapes Go.WideShapes Go.ChangeAt Go.RowKit

set_option maxRecDepth 100000 in
set_option maxHeartbeats 4000000 in
theorem implEventUnpack_any (l : List UInt8) (A : Option Addr) (n c : Nat) (fp : List Nat) (w : World) (ho : Ow w (.s 1 l.length (l.flatMap byteC)) (.slice A n c) fp) (hf : Lt fp w.heap.size) (hsz : l.length ≤ 1048576) :
    Calls Tryz.prog 36 #[.slice A n c] w (UnpOut l w) := by
  obtain ⟨rfl, hnc, hcm⟩ := ho.nlen
  have HO := hide ho
  have HZ0 := hide (Row.new w 46 [.string .empty, .int .i64 0, .int .i64 0, .int .i64 0, .string .empty, .slice none 0 0, .slice none 0 0])
  have HB0 := hide (show Below w.heap.size w (w.alloc (.cells #[.string .empty, .int .i64 0, .int .i64 0, .int .i64 0, .string .empty, .slice none 0 0, .slice none 0 0] 46)) from (Below.refl _ _).alloc (Nat.le_refl _) _)
  clear ho
  go_enter Tryz.func36, Tryz.ntmps36
  by_cases hl : 9000 < l.length
  · have hli : (9000 : Int) < (l.length : Int) := by omega
    have HNO := hide (unpack_long hl)
    go_upto_region 1 with fail
    generalize hw1 : w.alloc _ = w1
    have HZ1 := hide (show Row w1 w.heap.size 46 [.string .empty, .int .i64 0, .int .i64 0, .int .i64 0, .string .empty, .slice none 0 0, .slice none 0 0] from by rw [← hw1]; exact HZ0.out)
    have HB1 := hide (show Below w.heap.size w w1 from by rw [← hw1]; exact HB0.out)
    clear hw1
    have z0 := HZ1.out.cell 0
    have z1 := HZ1.out.cell 1
    have z2 := HZ1.out.cell 2
    have z3 := HZ1.out.cell 3
    have z4 := HZ1.out.cell 4
    have z5 := HZ1.out.cell 5
    have z6 := HZ1.out.cell 6
    have zf0 := HZ1.out.frozen 0
    have zf1 := HZ1.out.frozen 1
    have zf2 := HZ1.out.frozen 2
    have zf3 := HZ1.out.frozen 3
    have zf4 := HZ1.out.frozen 4
    have zf5 := HZ1.out.frozen 5
    have zf6 := HZ1.out.frozen 6
    have zlt := HZ1.out.lt
    clear hl
    go_wp2
    refine bodyPost_ret (ret_row_tmp rfl _ _ w.heap.size 46 [.string .empty, .int .i64 0, .int .i64 0, .int .i64 0, .string .empty, .slice none 0 0, .slice none 0 0] (HZ1.out.setAll [.string .empty, .int .i64 0, .int .i64 0, .int .i64 0, .string .empty, .slice none 0 0, .slice none 0 0] rfl) _ (.bool false) rfl rfl Tryz.underlying46 rfl (by kernel_rfl)) rfl ?_
    exact ⟨_, [], by rw [HNO.out.2], by rw [HNO.out.1]; exact (unp_none HB1.out [.string .empty, .int .i64 0, .int .i64 0, .int .i64 0, .string .empty, .slice none 0 0, .slice none 0 0]).1, (unp_none HB1.out [.string .empty, .int .i64 0, .int .i64 0, .int .i64 0, .string .empty, .slice none 0 0, .slice none 0 0]).2⟩
  have hli : ¬ ((9000 : Int) < (l.length : Int)) := by omega
  have hl9 : l.length ≤ 9000 := by omega
  clear hl
  go_upto_region 4 with fail
  generalize hw3 : (w.alloc _).alloc _ = w3
  have hB13 : Below (w.heap.size + 1) (w.alloc (.cells #[.string .empty, .int .i64 0, .int .i64 0, .int .i64 0, .string .empty, .slice none 0 0, .slice none 0 0] 46)) w3 := by rw [← hw3]; exact (Below.refl _ _).alloc (by simp) _
  have HZ3 := hide (HZ0.out.below hB13 (Nat.lt_succ_self _))
  have HB3 := hide (HB0.out.trans (hB13.mono (Nat.le_succ _)))
  have HR3 : Hid (RdI w3 (w.heap.size + 1) l l false) := hide ⟨A, c, fp, by rw [← hw3]; exact Row.atU _ _ _ _ (by simp), HO.out.below HB3.out hf, hf.mono (Nat.le_succ _), hl9⟩
  have lt3 := HR3.out.lt
  clear hB13 hw3
  go_wp2_with fail
  refine (textI_any HR3.out).mono ?_
  rintro e w4 ⟨s, l1, bd1, rfl, hs, h4, hg4, hok1⟩
  have lt4 := Nat.lt_of_lt_of_le lt3 hg4.size
  have HZ4 := hide (HZ3.out.grown hg4 (fun e => by injection e with e; omega))
  have HB4 := hide (HB3.out.trans (below_of_grown hg4 (Nat.le_succ _) HB3.out.size))
  have HK1 := hide hok1
  have HR4 := hide h4
  clear h4 hg4 hok1 HR3 HZ3
  go_wp2_with fail
  refine (numI_any HR4.out).mono ?_
  rintro e w6 ⟨v, l2, bd2, rfl, hv0, hv1, h6, hg6, hok2⟩
  have lt6 := Nat.lt_of_lt_of_le lt4 hg6.size
  have HZ6 := hide (HZ4.out.grown hg6 (fun e => by injection e with e; omega))
  have HB6 := hide (HB4.out.trans (below_of_grown hg6 (Nat.le_succ _) HB4.out.size))
  have HK2 := hide hok2
  have HTR := hide (show Calls Tryz.prog 86 #[.pointer (some ⟨w.heap.size + 1, 0, none⟩), .int .i64 1] w6 (TreeOut RdI (w.heap.size + 1) l bd2 (pTree true 6 l2) w6) from treeRdBI_any 6 l l2 bd2 (w.heap.size + 1) 1 _ rfl (Nat.le_refl _) h6)
  clear h6 hg6 hok2 HR4 HZ4
  go_wp2_with fail
  refine HTR.out.mono ?_
  rintro e w8 ⟨t, us, fq, l3, bd3, rfl, ho8, hn8, h8, hg8, hok3⟩
  have lt8 := Nat.lt_of_lt_of_le lt6 hg8.size
  have HZ8 := hide (HZ6.out.grown hg8 (fun e => by injection e with e; omega))
  have HB8 := hide (HB6.out.trans (below_of_grown hg8 (Nat.le_succ _) HB6.out.size))
  have HKE := hide (okr_event HK1.out HK2.out hok3)
  have HO8 := hide ho8
  obtain ⟨E1, e1, E2, e2, f1, f2, rfl, -, -, -, -, -, -⟩ := HO8.out.oTree
  have hX := UnpAt.made (s := s) (v := v) HO8.out (hn8.mono (by omega)) (by unfold maxLen; omega) (wfi (by omega) (by omega)) HZ8.out HB8.out
  have HX := hide hX
  have HR8 := hide h8
  clear hX ho8 HO8 hn8 h8 hg8 hok3 HK1 HK2 HZ6 HTR
  go_upto_region 5 with fail
  generalize hwq : World.alloc w8 _ = wq
  have HXQ := hide (show UnpAt w wq w8.heap.size ⟨s, v, t⟩ [.string s, .int .i64 v, .int .i64 t.sort, .int .i64 t.num, .string t.text, .slice E1 t.names.length e1, .slice E2 t.kids.length e2] fq from by rw [← hwq]; exact HX.out)
  have hbq : Below w8.heap.size w8 wq := by rw [← hwq]; exact (Below.refl _ _).alloc (Nat.le_refl _) _
  obtain ⟨A', c', fp', hr', -, -, -⟩ := HR8.out.low hbq lt8
  have r0 := hr'.cell 0
  have r1 := hr'.cell 1
  have lr := hr'.lt
  clear hr' hbq hwq HX HR8 HZ8 HB8
  by_cases hb3 : bd3 = true
  · subst hb3
    have HNO := hide (unpack_gone HKE.out (.inl rfl))
    have z0 := HXQ.out.zero.cell 0
    have z1 := HXQ.out.zero.cell 1
    have z2 := HXQ.out.zero.cell 2
    have z3 := HXQ.out.zero.cell 3
    have z4 := HXQ.out.zero.cell 4
    have z5 := HXQ.out.zero.cell 5
    have z6 := HXQ.out.zero.cell 6
    have zf0 := HXQ.out.zero.frozen 0
    have zf1 := HXQ.out.zero.frozen 1
    have zf2 := HXQ.out.zero.frozen 2
    have zf3 := HXQ.out.zero.frozen 3
    have zf4 := HXQ.out.zero.frozen 4
    have zf5 := HXQ.out.zero.frozen 5
    have zf6 := HXQ.out.zero.frozen 6
    have zlt := HXQ.out.zero.lt
    go_wp2
    refine bodyPost_ret (ret_row_tmp rfl _ _ w.heap.size 46 [.string .empty, .int .i64 0, .int .i64 0, .int .i64 0, .string .empty, .slice none 0 0, .slice none 0 0] (HXQ.out.zero.setAll [.string .empty, .int .i64 0, .int .i64 0, .int .i64 0, .string .empty, .slice none 0 0, .slice none 0 0] rfl) _ (.bool false) rfl rfl Tryz.underlying46 rfl (by kernel_rfl)) rfl ?_
    exact ⟨_, [], by rw [HNO.out.2], by rw [HNO.out.1]; exact (unp_none HXQ.out.below [.string .empty, .int .i64 0, .int .i64 0, .int .i64 0, .string .empty, .slice none 0 0, .slice none 0 0]).1, (unp_none HXQ.out.below [.string .empty, .int .i64 0, .int .i64 0, .int .i64 0, .string .empty, .slice none 0 0, .slice none 0 0]).2⟩
  obtain rfl : bd3 = false := by simpa using hb3
  obtain ⟨m, hm⟩ : ∃ m, l3.length = m := ⟨_, rfl⟩
  rw [hm] at r0
  by_cases hn9 : m = 0
  rotate_left
  · have hnI : 0 < m := by omega
    have HNO := hide (unpack_gone HKE.out (.inr (fun e => hn9 (by rw [← hm, e]; rfl))))
    clear hm
    have z0 := HXQ.out.zero.cell 0
    have z1 := HXQ.out.zero.cell 1
    have z2 := HXQ.out.zero.cell 2
    have z3 := HXQ.out.zero.cell 3
    have z4 := HXQ.out.zero.cell 4
    have z5 := HXQ.out.zero.cell 5
    have z6 := HXQ.out.zero.cell 6
    have zf0 := HXQ.out.zero.frozen 0
    have zf1 := HXQ.out.zero.frozen 1
    have zf2 := HXQ.out.zero.frozen 2
    have zf3 := HXQ.out.zero.frozen 3
    have zf4 := HXQ.out.zero.frozen 4
    have zf5 := HXQ.out.zero.frozen 5
    have zf6 := HXQ.out.zero.frozen 6
    have zlt := HXQ.out.zero.lt
    clear hn9
    go_wp2
    refine bodyPost_ret (ret_row_tmp rfl _ _ w.heap.size 46 [.string .empty, .int .i64 0, .int .i64 0, .int .i64 0, .string .empty, .slice none 0 0, .slice none 0 0] (HXQ.out.zero.setAll [.string .empty, .int .i64 0, .int .i64 0, .int .i64 0, .string .empty, .slice none 0 0, .slice none 0 0] rfl) _ (.bool false) rfl rfl Tryz.underlying46 rfl (by kernel_rfl)) rfl ?_
    exact ⟨_, [], by rw [HNO.out.2], by rw [HNO.out.1]; exact (unp_none HXQ.out.below [.string .empty, .int .i64 0, .int .i64 0, .int .i64 0, .string .empty, .slice none 0 0, .slice none 0 0]).1, (unp_none HXQ.out.below [.string .empty, .int .i64 0, .int .i64 0, .int .i64 0, .string .empty, .slice none 0 0, .slice none 0 0]).2⟩
  subst hn9
  obtain rfl : l3 = [] := List.eq_nil_of_length_eq_zero hm
  have hl0 := event_ne HKE.out rfl
  have hl0I : ((l.length : Int) == 0) = false := beq_eq_false_iff_ne.2 (by omega)
  have HBK := hide (okr_bulk HKE.out)
  have HP := hide (implEventPack_any ⟨s, v, t⟩ _ _ wq HXQ.out.ow HXQ.out.new.lt (by have := HBK.out; omega))
  have b0 := HXQ.out.box.cell 0
  have b1 := HXQ.out.box.cell 1
  have b2 := HXQ.out.box.cell 2
  have b3 := HXQ.out.box.cell 3
  have b4 := HXQ.out.box.cell 4
  have b5 := HXQ.out.box.cell 5
  have b6 := HXQ.out.box.cell 6
  have blt := HXQ.out.box.lt
  have HL0 := hide hl0
  clear hm hb3 hl0
  go_wp2_with fail
  refine HP.out.mono ?_
  rintro e w10 ⟨v', rfl, hv', hb10⟩
  obtain ⟨fpv, hov, hnv⟩ := hv'.toOw
  obtain ⟨A2, c2, rfl, _, _⟩ := hov.slice
  have HX10 := hide (HXQ.out.step hb10)
  have HS := hide (eqBytes_any (Event.packed ⟨s, v, t⟩) l A2 A c2 c w10 (hov.bytesAt hnv.lt) ((HO.out.below HX10.out.below hf).bytesAt (hf.up HX10.out.below)) (by have := Event.packed_len ⟨s, v, t⟩; omega) (by omega))
  clear hb10 hv' hov hnv HP b0 b1 b2 b3 b4 b5 b6 blt
  go_wp2_with fail
  refine HS.out.mono ?_
  rintro e w11 ⟨rfl, hb11⟩
  have HX11 := hide (HX10.out.step hb11)
  clear hb11
  by_cases hsm : Event.packed ⟨s, v, t⟩ = l
  · rw [tb_true hsm]
    have HY := hide (unpack_back (x := ⟨s, v, t⟩) hl9 (packed_ok hsm HL0.out) ((Event.packed_yes (packed_ok hsm HL0.out)).symm.trans hsm))
    clear hsm
    have z0 := HX11.out.zero.cell 0
    have z1 := HX11.out.zero.cell 1
    have z2 := HX11.out.zero.cell 2
    have z3 := HX11.out.zero.cell 3
    have z4 := HX11.out.zero.cell 4
    have z5 := HX11.out.zero.cell 5
    have z6 := HX11.out.zero.cell 6
    have zf0 := HX11.out.zero.frozen 0
    have zf1 := HX11.out.zero.frozen 1
    have zf2 := HX11.out.zero.frozen 2
    have zf3 := HX11.out.zero.frozen 3
    have zf4 := HX11.out.zero.frozen 4
    have zf5 := HX11.out.zero.frozen 5
    have zf6 := HX11.out.zero.frozen 6
    have zlt := HX11.out.zero.lt
    have b0 := HX11.out.box.cell 0
    have b1 := HX11.out.box.cell 1
    have b2 := HX11.out.box.cell 2
    have b3 := HX11.out.box.cell 3
    have b4 := HX11.out.box.cell 4
    have b5 := HX11.out.box.cell 5
    have b6 := HX11.out.box.cell 6
    have blt := HX11.out.box.lt
    go_wp2
    refine bodyPost_ret (ret_row_tmp rfl _ _ w.heap.size 46 [.string s, .int .i64 v, .int .i64 t.sort, .int .i64 t.num, .string t.text, .slice E1 t.names.length e1, .slice E2 t.kids.length e2] (HX11.out.zero.setAll [.string s, .int .i64 v, .int .i64 t.sort, .int .i64 t.num, .string t.text, .slice E1 t.names.length e1, .slice E2 t.kids.length e2] rfl) _ (.bool true) rfl rfl Tryz.underlying46 rfl (by kernel_rfl)) rfl ?_
    exact ⟨_, fq, by rw [HY.out.2], by rw [HY.out.1]; exact (HX11.out.fin [.string s, .int .i64 v, .int .i64 t.sort, .int .i64 t.num, .string t.text, .slice E1 t.names.length e1, .slice E2 t.kids.length e2]).1, (HX11.out.fin [.string s, .int .i64 v, .int .i64 t.sort, .int .i64 t.num, .string t.text, .slice E1 t.names.length e1, .slice E2 t.kids.length e2]).2⟩
  · rw [tb_false hsm]
    have HNO := hide (unpack_left HKE.out (fun h => hsm ((Event.packed_yes h.1).trans h.2)))
    clear hsm
    have z0 := HX11.out.zero.cell 0
    have z1 := HX11.out.zero.cell 1
    have z2 := HX11.out.zero.cell 2
    have z3 := HX11.out.zero.cell 3
    have z4 := HX11.out.zero.cell 4
    have z5 := HX11.out.zero.cell 5
    have z6 := HX11.out.zero.cell 6
    have zf0 := HX11.out.zero.frozen 0
    have zf1 := HX11.out.zero.frozen 1
    have zf2 := HX11.out.zero.frozen 2
    have zf3 := HX11.out.zero.frozen 3
    have zf4 := HX11.out.zero.frozen 4
    have zf5 := HX11.out.zero.frozen 5
    have zf6 := HX11.out.zero.frozen 6
    have zlt := HX11.out.zero.lt
    go_wp2
    refine bodyPost_ret (ret_row_tmp rfl _ _ w.heap.size 46 [.string .empty, .int .i64 0, .int .i64 0, .int .i64 0, .string .empty, .slice none 0 0, .slice none 0 0] (HX11.out.zero.setAll [.string .empty, .int .i64 0, .int .i64 0, .int .i64 0, .string .empty, .slice none 0 0, .slice none 0 0] rfl) _ (.bool false) rfl rfl Tryz.underlying46 rfl (by kernel_rfl)) rfl ?_
    exact ⟨_, [], by rw [HNO.out.2], by rw [HNO.out.1]; exact (unp_none HX11.out.below [.string .empty, .int .i64 0, .int .i64 0, .int .i64 0, .string .empty, .slice none 0 0, .slice none 0 0]).1, (unp_none HX11.out.below [.string .empty, .int .i64 0, .int .i64 0, .int .i64 0, .string .empty, .slice none 0 0, .slice none 0 0]).2⟩
end Go.Proofs.YtnaecdoeldoipaaGreatDoor
